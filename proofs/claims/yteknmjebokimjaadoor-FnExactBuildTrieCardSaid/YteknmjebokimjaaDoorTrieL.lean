/- Plain laws of tries as lists of nodes: what makes one good. No function of the program is named here. -/
import Derived.Test.YteknmjebokimjaaDoorHTrieNodeS
import Derived.Test.YteknmjebokimjaaDoorTopicL
namespace Go.Proofs.YteknmjebokimjaaDoor
set_option linter.unusedVariables false
open Go.ChangeShapes Go.WideShapes Go.ChangeAt Go.RowKit

abbrev Nd := ByteArray × Int × List Int
def nd (t : List Nd) (k : Nat) : Nd := t.getD k (ByteArray.empty, -1, [])
theorem nd_at {t : List Nd} {k : Nat} {x : Nd} (h : t[k]? = some x) : nd t k = x := by unfold nd; simp [List.getD, h]
def whoAt (l : List Int) (i : Nat) : Bool := inB (l.getD i 0) 0 100 && !(decide (0 < i) && decide (l.getD i 0 ≤ l.getD (i - 1) 0))
def whosB (l : List Int) : Bool := (List.range l.length).all (whoAt l)
def sib (t : List Nd) (u : Int) (s : ByteArray) (j : Nat) : Bool := decide (0 < j) && (decide ((nd t j).2.1 = u) && decide ((nd t j).1 = s))
def kidR (t : List Nd) (u : Int) (s : ByteArray) : Int := match (List.range t.length).find? (sib t u s) with | some j => (j : Int) | none => -1
def depR (t : List Nd) : Nat → Nat → Nat
  | 0, _ => 0
  | f + 1, k => if k = 0 then 0 else depR t f (nd t k).2.1.toNat + 1
def upB (t : List Nd) (k : Nat) : Bool := decide (0 ≤ (nd t k).2.1) && decide ((nd t k).2.1 < (k : Int))
def headB (t : List Nd) (k : Nat) : Bool := upB t k && (!decide ((nd t (nd t k).2.1.toNat).1 = more) && (lvlOK (nd t k).1 && (decide (kidR (t.take k) (nd t k).2.1 (nd t k).1 < 0) && decide (depR t k k ≤ 6))))
def tailB (t : List Nd) (k : Nat) : Bool := decide (0 < (nd t k).2.2.length) || t.any (fun y => decide (y.2.1 = (k : Int)))
def nodeB (t : List Nd) (k : Nat) : Bool := whosB (nd t k).2.2 && (decide (k = 0) || (headB t k && tailB t k))
def rootB (t : List Nd) : Bool := decide (1 ≤ t.length) && (decide (t.length ≤ 181) && (decide ((nd t 0).2.1 = -1) && (decide ((nd t 0).1 = ByteArray.empty) && decide ((nd t 0).2.2.length = 0))))
def whosN (t : List Nd) : Nat := sumL (fun x : Nd => x.2.2.length) t
def R_GoodTrie (t : List Nd) : Bool := rootB t && ((List.range t.length).all (nodeB t) && decide (whosN t ≤ 30))

theorem range_all_next {p : Nat → Bool} {k : Nat} (h : (List.range k).all p = true) (hp : p k = true) : (List.range (k + 1)).all p = true := by
  rw [List.range_succ, List.all_append, h]; simp [hp]
theorem range_all_no {p : Nat → Bool} {n k : Nat} (hk : k < n) (hp : p k = false) : (List.range n).all p = false := by
  rw [List.all_eq_false]; exact ⟨k, List.mem_range.2 hk, by simp [hp]⟩
theorem range_all_at {p : Nat → Bool} {n k : Nat} (h : (List.range n).all p = true) (hk : k < n) : p k = true := List.all_eq_true.1 h k (List.mem_range.2 hk)
/-- all ahead lead up -/
def Ups (t : List Nd) (k : Nat) : Prop := ∀ j, 0 < j → j < k → 0 ≤ (nd t j).2.1 ∧ (nd t j).2.1 < (j : Int)
theorem upB_yes {t : List Nd} {k : Nat} (h : upB t k = true) : 0 ≤ (nd t k).2.1 ∧ (nd t k).2.1 < (k : Int) := by unfold upB at h; simpa using h
theorem upB_no {t : List Nd} {k : Nat} (h : upB t k = false) : (nd t k).2.1 < 0 ∨ (k : Int) ≤ (nd t k).2.1 := by unfold upB at h; simp at h; omega
theorem nodeB_up {t : List Nd} {k : Nat} (h : nodeB t k = true) (h0 : 0 < k) : upB t k = true := by
  unfold nodeB at h
  rw [Bool.and_eq_true] at h
  have h2 := h.2
  simp only [show k ≠ 0 by omega, decide_false, Bool.false_or, Bool.and_eq_true] at h2
  unfold headB at h2
  simp only [Bool.and_eq_true] at h2
  exact h2.1.1
theorem ups_of {t : List Nd} {k : Nat} (h : (List.range k).all (nodeB t) = true) : Ups t k := fun j h0 hj => upB_yes (nodeB_up (range_all_at h hj) h0)
theorem dep_fuel {t : List Nd} : ∀ (k f : Nat), Ups t (k + 1) → k ≤ f → depR t f k = depR t k k := by
  intro k
  induction k using Nat.strongRecOn with
  | _ k ih =>
    intro f hu hf
    rcases Nat.eq_zero_or_pos k with rfl | hk
    · cases f <;> simp [depR]
    · obtain ⟨f, rfl⟩ : ∃ g, f = g + 1 := ⟨f - 1, by omega⟩
      obtain ⟨k', rfl⟩ : ∃ g, k = g + 1 := ⟨k - 1, by omega⟩
      have hup := hu (k' + 1) (by omega) (by omega)
      have hlt : (nd t (k' + 1)).2.1.toNat < k' + 1 := by omega
      rw [depR, depR, if_neg (by omega), if_neg (by omega)]
      rw [ih _ hlt f (fun j h0 hj => hu j h0 (by omega)) (by omega), ih _ hlt k' (fun j h0 hj => hu j h0 (by omega)) (by omega)]
theorem dep_step {t : List Nd} {k : Nat} (hu : Ups t (k + 1)) (h0 : 0 < k) : depR t k k = depR t (nd t k).2.1.toNat (nd t k).2.1.toNat + 1 := by
  obtain ⟨k', rfl⟩ : ∃ g, k = g + 1 := ⟨k - 1, by omega⟩
  have hup := hu (k' + 1) (by omega) (by omega)
  have hlt : (nd t (k' + 1)).2.1.toNat < k' + 1 := by omega
  conv => lhs; rw [depR, if_neg (by omega)]
  rw [dep_fuel _ k' (fun j h0 hj => hu j h0 (by omega)) (by omega)]
theorem kid_none {t : List Nd} {u : Int} {s : ByteArray} : kidR t u s < 0 ↔ ∀ j, j < t.length → sib t u s j = false := by
  unfold kidR
  cases h : (List.range t.length).find? (sib t u s) with
  | none =>
    rw [List.find?_eq_none] at h
    refine ⟨fun _ j hj => by simpa using h j (List.mem_range.2 hj), fun _ => by decide⟩
  | some j =>
    have h1 := List.find?_some h
    have h2 := List.mem_range.1 (List.mem_of_find?_eq_some h)
    refine ⟨fun hc => by simp only at hc; omega, fun hc => by rw [hc j h2] at h1; cases h1⟩
theorem kid_at {t : List Nd} {u : Int} {s : ByteArray} {k : Nat} (hk : k < t.length) (hb : ∀ j, j < k → sib t u s j = false) (hs : sib t u s k = true) : kidR t u s = k := by
  unfold kidR
  have : (List.range t.length).find? (sib t u s) = some k := by
    rw [List.find?_eq_some_iff_getElem]
    refine ⟨hs, k, by simpa using hk, by simp, fun j hj => by simpa using hb j hj⟩
  rw [this]
theorem kid_no {t : List Nd} {u : Int} {s : ByteArray} (hb : ∀ j, j < t.length → sib t u s j = false) : kidR t u s = -1 := by
  unfold kidR
  have : (List.range t.length).find? (sib t u s) = none := by
    rw [List.find?_eq_none]; intro j hj; simp [hb j (List.mem_range.1 hj)]
  rw [this]
theorem nd_take {t : List Nd} {k j : Nat} (h : j < k) : nd (t.take k) j = nd t j := by
  unfold nd; simp only [List.getD]; rw [List.getElem?_take_of_lt h]
/-- the program's way: the first of all the nodes that stand so is this one -/
theorem fidx_kid {t : List Nd} {k : Nat} (hr : (nd t 0).2.1 = -1) (h0 : 0 < k) (hk : k < t.length) (hu : 0 ≤ (nd t k).2.1) :
    fidx (fun y : Nd => decide (y.2.1 = (nd t k).2.1) && decide (y.1 = (nd t k).1)) t = (k : Int) ↔ kidR (t.take k) (nd t k).2.1 (nd t k).1 < 0 := by
  rw [kid_none]
  have hat : ∀ j (hj : j < t.length), nd t j = t[j] := fun j hj => nd_at (List.getElem?_eq_getElem hj)
  constructor
  · intro h j hj
    have hjk : j < k := by simp at hj; omega
    have hjt : j < t.length := by omega
    unfold fidx at h
    cases hf : t.findIdx? (fun y : Nd => decide (y.2.1 = (nd t k).2.1) && decide (y.1 = (nd t k).1)) with
    | none => rw [hf] at h; simp only at h; omega
    | some i =>
      rw [hf] at h; simp only at h
      obtain rfl : i = k := by omega
      obtain ⟨_, _, h3⟩ := List.findIdx?_eq_some_iff_getElem.1 hf
      have h4 := h3 j hjk
      unfold sib
      rw [nd_take hjk, hat j hjt]
      simp only [Bool.not_eq_true] at h4
      rw [h4, Bool.and_false]
  · intro h
    unfold fidx
    have : t.findIdx? (fun y : Nd => decide (y.2.1 = (nd t k).2.1) && decide (y.1 = (nd t k).1)) = some k := by
      rw [List.findIdx?_eq_some_iff_getElem]
      refine ⟨hk, by rw [← hat k hk]; simp, fun j hj => ?_⟩
      have h4 := h j (by simp; omega)
      unfold sib at h4
      rw [nd_take hj, hat j (by omega)] at h4
      rcases Nat.eq_zero_or_pos j with rfl | hj0
      · have : t[0].2.1 = -1 := by rw [← hat 0 (by omega)]; exact hr
        simp [this]; omega
      · simp only [hj0, decide_true, Bool.true_and] at h4
        simp [h4]
    rw [this]
theorem rd_take {α : Type} {e : TypeId} {K : Kind α} {n : Nat} (hK : K.Ok) (hn : K.n = n) {B : Nat} {w : World} {a : Option Addr} {m cap : Nat} {xs : List α} (h : (kSl e K).rd B w [.slice a m cap] xs) (k : Nat) (hk : k ≤ xs.length) : (kSl e K).rd B w [.slice a k cap] (xs.take k) := by
  obtain ⟨a', cap', vss, hc, hcap, hrow, hl⟩ := h
  simp only [List.cons.injEq, Value.slice.injEq, and_true] at hc
  obtain ⟨rfl, _, rfl⟩ := hc
  have hlen := hl.length
  refine ⟨a, cap, vss.take k, by rw [List.length_take, Nat.min_eq_left hk], ⟨by rw [List.length_take]; omega, hcap.2⟩, ?_, ?_⟩
  · have hf : ∀ (vs : List (List Value)) (k : Nat), Lens K.n vs → (vs.take k).flatten = vs.flatten.take (k * K.n) := by
      intro vs
      induction vs with
      | nil => intro k _; simp
      | cons v vs ih =>
        intro k hL
        cases k with
        | zero => simp
        | succ k =>
          have hv : v.length = K.n := hL v (by simp)
          have ht : v.take ((k + 1) * K.n) = v := List.take_of_length_le (by rw [hv, Nat.add_mul]; omega)
          rw [List.take_succ_cons, List.flatten_cons, List.flatten_cons, ih k (fun u hu => hL u (by simp [hu])), List.take_append, ht, hv, show (k + 1) * K.n - K.n = k * K.n by rw [Nat.add_mul]; omega]
    rw [hf _ _ (hl.lens hK)]
    rcases hrow with h0 | ⟨b, off, ha, hb, hc⟩
    · left; rw [h0]; simp
    · right
      refine ⟨b, off, ha, hb, fun i u hi => hc i u ?_⟩
      rw [List.getElem?_take] at hi
      split at hi
      · exact hi
      · cases hi
  · refine RdL_of (by rw [List.length_take, List.length_take, hlen]) fun i v x hv hx => ?_
    rw [List.getElem?_take] at hv hx
    split at hv
    · rename_i hi
      rw [if_pos hi] at hx
      obtain ⟨v', h1, h2⟩ := hl.at i x hx
      rw [hv] at h1; cases h1; exact h2
    · cases hv
end Go.Proofs.YteknmjebokimjaaDoor
