/- Filters in plain Lean: what they tell, what is turned, what both tell. No program in sight. -/
import Derived.Test.YtlmgckijbamgpaaWn1
import Derived.Test.YtlmgckijbamgpaaFrL
namespace Go.Proofs.Ytlmgckijbamgpaa
set_option linter.unusedVariables false
set_option linter.unusedSimpArgs false
set_option maxRecDepth 100000

/-! ### rising fields -/
def risS (l : List Fld) (k : Nat) : Bool := match l[k]?, l[k + 1]? with
  | some x, some y => decide (x.no < y.no)
  | _, _ => true
def risB (l : List Fld) : Bool := (List.range (l.length - 1)).all (risS l)
theorem risS_eq {l : List Fld} {k : Nat} {x y : Fld} (h1 : l[k]? = some x) (h2 : l[k + 1]? = some y) : risS l k = decide (x.no < y.no) := by unfold risS; rw [h1, h2]
theorem ris_next {l : List Fld} {k : Nat} (h : (List.range k).all (risS l) = true) (h2 : risS l k = true) : (List.range (k + 1)).all (risS l) = true := by
  rw [List.range_succ, List.all_append, h]; simp [h2]
theorem ris_no {l : List Fld} {k : Nat} (hk : k + 1 < l.length) (h2 : risS l k = false) : risB l = false := by
  cases h : risB l with
  | false => rfl
  | true =>
    have := List.all_eq_true.1 h k (List.mem_range.2 (by omega))
    rw [h2] at this; cases this
theorem ris_pair {l : List Fld} (h : risB l = true) : l.Pairwise (fun x y => x.no < y.no) := by
  have h1 : ∀ i (hi : i + 1 < l.length), (l[i]'(by omega)).no < l[i + 1].no := by
    intro i hi
    have := List.all_eq_true.1 h i (List.mem_range.2 (by omega))
    rw [risS_eq (List.getElem?_eq_getElem (by omega)) (List.getElem?_eq_getElem hi)] at this
    exact of_decide_eq_true this
  have h2 : ∀ d i (hi : i + d + 1 < l.length), (l[i]'(by omega)).no < (l[i + d + 1]'hi).no := by
    intro d
    induction d with
    | zero => intro i hi; exact h1 i hi
    | succ d ih =>
      intro i hi
      have a := ih i (by omega)
      have b := h1 (i + d + 1) (by omega)
      exact Int.lt_trans a b
  rw [List.pairwise_iff_getElem]
  intro i j hi hj hij
  have := h2 (j - i - 1) i (by omega)
  simp only [show i + (j - i - 1) + 1 = j by omega] at this
  exact this
def R_Rising (s : ByteArray) : Option (List Fld) := match R_Read s with
  | none => none
  | some r => if risB r = true then some r else none

/-! ### what a want tells of fields -/
def preB (s t : ByteArray) : Bool := decide (t.size ≤ s.size) && ((s.extract 0 t.size).toList == t.toList)
def fldA (fk fn : Int) (fd : ByteArray) (kd nm : Int) (tx : ByteArray) : Bool :=
  if kd = 1 then fk == 0 && fn == nm
  else if kd = 2 then fk == 0 && decide (fn < nm)
  else if kd = 3 then fk == 0 && decide (fn > nm)
  else if kd = 5 then !(fk == 0) && preB fd tx
  else true
def fldIs (f : Fld) (w : Wn) : Bool := fldA f.kind f.num f.data w.kind w.num w.text
def leafW (fs : List Fld) (w : Wn) : Bool := fs.any fun x => x.no == w.no && fldIs x w
def leafF (fs : List Fld) (w : Wn) : Bool := match fs.find? (fun x => x.no == w.no) with
  | some x => fldIs x w
  | none => false
theorem leaf_eq : ∀ {fs : List Fld} (w : Wn), fs.Pairwise (fun x y => x.no < y.no) → leafF fs w = leafW fs w
  | [], w, _ => rfl
  | x :: r, w, h => by
    rw [List.pairwise_cons] at h
    unfold leafF leafW
    rw [List.find?_cons, List.any_cons]
    cases hx : x.no == w.no with
    | false => simp only [Bool.false_and, Bool.false_or]; exact leaf_eq w h.2
    | true =>
      have hr : (r.any fun y => y.no == w.no && fldIs y w) = false := by
        rw [List.any_eq_false]
        intro y hy
        have h1 := h.1 y hy
        have h2 := eq_of_beq hx
        have : (y.no == w.no) = false := beq_eq_false_iff_ne.2 (by omega)
        simp [this]
      rw [hr]; simp
def soW (l : List Wn) (fs : List Fld) : Nat → Nat → Bool
  | 0, _ => false
  | f + 1, k => match l[k]? with
    | none => false
    | some w => if w.kind = 6 then soW l fs f w.a.toNat && soW l fs f w.b.toNat
        else if w.kind = 7 then soW l fs f w.a.toNat || soW l fs f w.b.toNat
        else if w.kind = 8 then !soW l fs f w.a.toNat else leafW fs w
def soK (l : List Wn) (fs : List Fld) (k : Nat) : Bool := soW l fs (k + 1) k
theorem ok67 {w : Wn} {k : Nat} (h : OkW w k) (h67 : w.kind = 6 ∨ w.kind = 7) : 0 ≤ w.a ∧ w.a < w.b ∧ w.b < (k : Int) := by unfold OkW TestW at h; omega
theorem ok8 {w : Wn} {k : Nat} (h : OkW w k) (h8 : w.kind = 8) : 0 ≤ w.a ∧ w.a < (k : Int) := by unfold OkW TestW at h; omega
theorem soW_more {l : List Wn} (fs : List Fld) (h : okAll l 0 = true) : ∀ (k f : Nat), k < f → soW l fs f k = soK l fs k := by
  intro k
  induction k using Nat.strongRecOn with
  | ind k ih =>
    intro f hf
    obtain ⟨f, rfl⟩ : ∃ g, f = g + 1 := ⟨f - 1, by omega⟩
    unfold soK
    rw [soW, soW]
    cases hw : l[k]? with
    | none => rfl
    | some w =>
      have ho := okAll_at l 0 k w h hw
      rw [Nat.zero_add] at ho
      simp only
      by_cases h6 : w.kind = 6
      · have := ok67 ho (.inl h6)
        rw [if_pos h6, if_pos h6, ih w.a.toNat (by omega) f (by omega), ih w.b.toNat (by omega) f (by omega), ih w.a.toNat (by omega) k (by omega), ih w.b.toNat (by omega) k (by omega)]
      · rw [if_neg h6, if_neg h6]
        by_cases h7 : w.kind = 7
        · have := ok67 ho (.inr h7)
          rw [if_pos h7, if_pos h7, ih w.a.toNat (by omega) f (by omega), ih w.b.toNat (by omega) f (by omega), ih w.a.toNat (by omega) k (by omega), ih w.b.toNat (by omega) k (by omega)]
        · rw [if_neg h7, if_neg h7]
          by_cases h8 : w.kind = 8
          · have := ok8 ho h8
            rw [if_pos h8, if_pos h8, ih w.a.toNat (by omega) f (by omega), ih w.a.toNat (by omega) k (by omega)]
          · rw [if_neg h8, if_neg h8]
theorem soK_eq {l : List Wn} (fs : List Fld) (h : okAll l 0 = true) {k : Nat} {w : Wn} (hw : l[k]? = some w) : soK l fs k = (if w.kind = 6 then soK l fs w.a.toNat && soK l fs w.b.toNat
        else if w.kind = 7 then soK l fs w.a.toNat || soK l fs w.b.toNat
        else if w.kind = 8 then !soK l fs w.a.toNat else leafW fs w) := by
  have ho := okAll_at l 0 k w h hw
  rw [Nat.zero_add] at ho
  conv => lhs; unfold soK
  rw [soW, hw]
  simp only
  by_cases h6 : w.kind = 6
  · have := ok67 ho (.inl h6)
    rw [if_pos h6, if_pos h6, soW_more fs h _ _ (show w.a.toNat < k by omega), soW_more fs h _ _ (show w.b.toNat < k by omega)]
  · rw [if_neg h6, if_neg h6]
    by_cases h7 : w.kind = 7
    · have := ok67 ho (.inr h7)
      rw [if_pos h7, if_pos h7, soW_more fs h _ _ (show w.a.toNat < k by omega), soW_more fs h _ _ (show w.b.toNat < k by omega)]
    · rw [if_neg h7, if_neg h7]
      by_cases h8 : w.kind = 8
      · have := ok8 ho h8
        rw [if_pos h8, if_pos h8, soW_more fs h _ _ (show w.a.toNat < k by omega)]
      · rw [if_neg h8, if_neg h8]
def R_Matches (l : List Wn) (s : ByteArray) : Bool × Bool := match R_Rising s with
  | none => (false, false)
  | some fs => if R_GoodW l = true then (soK l fs (l.length - 1), true) else (false, false)

/-! ### turned, and both -/
def R_Not (l : List Wn) : List Wn × Bool := if R_GoodW l = true ∧ l.length < 20 then (l ++ [⟨8, 0, 0, ⟨#[]⟩, (l.length : Int) - 1, 0⟩], true) else ([], false)
def shiftW (n : Nat) (w : Wn) : Wn := ⟨w.kind, w.no, w.num, w.text, if 6 ≤ w.kind then w.a + (n : Int) else w.a, if w.kind = 6 ∨ w.kind = 7 then w.b + (n : Int) else w.b⟩
def bothW (f g : List Wn) : List Wn := f ++ g.map (shiftW f.length) ++ [⟨6, 0, 0, ⟨#[]⟩, (f.length : Int) - 1, ((f.length + g.length : Nat) : Int) - 1⟩]
def R_Both (f g : List Wn) : List Wn × Bool := if (R_GoodW f = true ∧ R_GoodW g = true) ∧ f.length + g.length < 20 then (bothW f g, true) else ([], false)

/-! ### what is good -/
theorem bumps_get : ∀ (L : List Int) (u : List Int) (j : Nat), (∀ x ∈ L, 0 ≤ x) → j < u.length → (L.foldl bump u).getD j 0 = u.getD j 0 + (L.count (j : Int) : Int)
  | [], u, j, _, _ => by simp
  | x :: r, u, j, h, hj => by
    have hx := h x (by simp)
    rw [List.foldl_cons, bumps_get r (bump u x) j (fun y hy => h y (by simp [hy])) (by rw [bump_len]; exact hj), List.count_cons]
    unfold bump
    simp only [List.getD, List.getElem?_set]
    by_cases hxj : x = (j : Int)
    · subst hxj
      rw [if_pos (by simp), if_pos (by simpa using hj)]
      simp
      omega
    · rw [if_neg (by omega)]
      have : (x == (j : Int)) = false := beq_eq_false_iff_ne.2 hxj
      simp [this]
theorem okAll_parts {l : List Wn} (h : okAll l 0 = true) : ∀ p ∈ l.flatMap partsW, 0 ≤ p ∧ p < (l.length : Int) - 1 := by
  intro p hp
  rw [List.mem_flatMap] at hp
  obtain ⟨w, hw, hp⟩ := hp
  obtain ⟨i, hi⟩ := List.getElem?_of_mem hw
  have hil := (List.getElem?_eq_some_iff.1 hi).1
  have := parts_lt (okAll_at l 0 i w h hi) p hp
  omega
theorem uses_get {l : List Wn} {n j : Nat} (h : okAll l 0 = true) (hj : j < n) : (usesW l n).getD j 0 = ((l.flatMap partsW).count (j : Int) : Int) := by
  unfold usesW
  rw [bumps_get _ _ _ (fun x hx => (okAll_parts h x hx).1) (by simpa using hj)]
  simp [List.getD, hj]
theorem good_iff {l : List Wn} : R_GoodW l = true ↔ (1 ≤ l.length ∧ l.length ≤ 20) ∧ okAll l 0 = true ∧ ∀ j, j < l.length - 1 → (l.flatMap partsW).count (j : Int) = 1 := by
  unfold R_GoodW
  rw [Bool.and_eq_true, Bool.and_eq_true, decide_eq_true_eq, List.all_eq_true]
  constructor
  · rintro ⟨h1, h2, h3⟩
    refine ⟨h1, h2, fun j hj => ?_⟩
    have hl : j < ((usesW l l.length).take (l.length - 1)).length := by rw [List.length_take, usesW_len]; omega
    have := h3 _ (List.getElem_mem hl)
    rw [beq_iff_eq, List.getElem_take] at this
    have e := uses_get h2 (show j < l.length by omega)
    have e2 : (usesW l l.length).getD j 0 = (usesW l l.length)[j]'(by rw [usesW_len]; omega) := by simp [List.getD, usesW_len, show j < l.length by omega]
    rw [e2, this] at e
    omega
  · rintro ⟨h1, h2, h3⟩
    refine ⟨h1, h2, fun x hx => ?_⟩
    obtain ⟨j, hj, rfl⟩ := List.getElem_of_mem hx
    have hl : j < l.length - 1 := by rw [List.length_take, usesW_len] at hj; omega
    rw [beq_iff_eq, List.getElem_take]
    have e := uses_get h2 (show j < l.length by omega)
    have e2 : (usesW l l.length).getD j 0 = (usesW l l.length)[j]'(by rw [usesW_len]; omega) := by simp [List.getD, usesW_len, show j < l.length by omega]
    rw [← e2, e, h3 j hl]; rfl
theorem good_ok {l : List Wn} (h : R_GoodW l = true) : okAll l 0 = true := (good_iff.1 h).2.1
theorem good_len {l : List Wn} (h : R_GoodW l = true) : 1 ≤ l.length ∧ l.length ≤ 20 := (good_iff.1 h).1
theorem count_out {L : List Int} {j m : Int} (h : ∀ p ∈ L, 0 ≤ p ∧ p < m) (hj : m ≤ j ∨ j < 0) : L.count j = 0 := by
  rw [List.count_eq_zero]
  intro hc
  have := h j hc
  omega
theorem not_good {l : List Wn} (h : R_GoodW l = true) (hn : l.length < 20) : R_GoodW (R_Not l).1 = true := by
  have hg := good_iff.1 h
  unfold R_Not
  rw [if_pos ⟨h, hn⟩]
  rw [good_iff]
  have hl : (l ++ [(⟨8, 0, 0, ⟨#[]⟩, (l.length : Int) - 1, 0⟩ : Wn)]).length = l.length + 1 := by simp
  simp only
  rw [hl]
  refine ⟨by omega, ?_, fun j hj => ?_⟩
  · rw [okAll_app, hg.2.1, Nat.zero_add]
    simp only [okAll, Bool.and_true, Bool.true_and]
    apply okW_yes
    right; left
    exact ⟨rfl, rfl, rfl, rfl, by simp only; omega, by simp only; omega, rfl⟩
  · rw [List.flatMap_append, List.count_append]
    have hp : [(⟨8, 0, 0, ⟨#[]⟩, (l.length : Int) - 1, 0⟩ : Wn)].flatMap partsW = [(l.length : Int) - 1] := rfl
    rw [hp]
    by_cases hj1 : j < l.length - 1
    · rw [hg.2.2 j hj1, List.count_cons, List.count_nil]
      have : ((l.length : Int) - 1 == (j : Int)) = false := beq_eq_false_iff_ne.2 (by omega)
      simp [this]
    · rw [count_out (okAll_parts hg.2.1) (by omega), List.count_cons, List.count_nil]
      have : ((l.length : Int) - 1 == (j : Int)) = true := beq_iff_eq.2 (by omega)
      simp [this]
theorem so_prefix {l r : List Wn} (fs : List Fld) (h : okAll l 0 = true) (h2 : okAll (l ++ r) 0 = true) : ∀ k, k < l.length → soK (l ++ r) fs k = soK l fs k := by
  intro k
  induction k using Nat.strongRecOn with
  | ind k ih =>
    intro hk
    have hw : l[k]? = some l[k] := List.getElem?_eq_getElem hk
    have hw2 : (l ++ r)[k]? = some l[k] := by rw [List.getElem?_append_left hk]; exact hw
    have ho := okAll_at l 0 k _ h hw
    rw [Nat.zero_add] at ho
    rw [soK_eq fs h hw, soK_eq fs h2 hw2]
    by_cases h6 : l[k].kind = 6
    · have := ok67 ho (.inl h6)
      rw [if_pos h6, if_pos h6, ih _ (by omega) (by omega), ih _ (by omega) (by omega)]
    · rw [if_neg h6, if_neg h6]
      by_cases h7 : l[k].kind = 7
      · have := ok67 ho (.inr h7)
        rw [if_pos h7, if_pos h7, ih _ (by omega) (by omega), ih _ (by omega) (by omega)]
      · rw [if_neg h7, if_neg h7]
        by_cases h8 : l[k].kind = 8
        · have := ok8 ho h8
          rw [if_pos h8, if_pos h8, ih _ (by omega) (by omega)]
        · rw [if_neg h8, if_neg h8]
/-- what is turned tells the other -/
theorem not_tells {l : List Wn} {s : ByteArray} {m : Bool} (h : R_Matches l s = (m, true)) (h2 : (R_Not l).2 = true) : R_Matches (R_Not l).1 s = (!m, true) := by
  have hc : R_GoodW l = true ∧ l.length < 20 := by
    unfold R_Not at h2
    split at h2
    · assumption
    · cases h2
  have hg2 := not_good hc.1 hc.2
  unfold R_Matches at h ⊢
  cases hr : R_Rising s with
  | none => rw [hr] at h; cases h
  | some fs =>
    rw [hr] at h
    simp only at h ⊢
    rw [if_pos hc.1] at h
    rw [if_pos hg2]
    simp only [Prod.mk.injEq, and_true] at h
    have hN : (R_Not l).1 = l ++ [⟨8, 0, 0, ⟨#[]⟩, (l.length : Int) - 1, 0⟩] := by unfold R_Not; rw [if_pos hc]
    rw [hN] at hg2 ⊢
    have h1 := good_len hc.1
    rw [List.length_append, List.length_singleton, Nat.add_sub_cancel]
    rw [soK_eq fs (good_ok hg2) (w := ⟨8, 0, 0, ⟨#[]⟩, (l.length : Int) - 1, 0⟩) (by simp)]
    simp only
    rw [if_neg (by decide), if_neg (by decide), if_pos True.intro]
    rw [so_prefix fs (good_ok hc.1) (good_ok hg2) _ (by omega)]
    rw [show ((l.length : Int) - 1).toNat = l.length - 1 by omega, h]
theorem shift_ok {w : Wn} {i n : Nat} (h : OkW w i) : OkW (shiftW n w) (n + i) := by
  unfold OkW TestW at h
  unfold OkW TestW shiftW
  simp only
  rcases h with h | h | h
  · left
    rw [if_pos (by omega), if_pos (by omega)]
    omega
  · right; left
    rw [if_pos (by omega), if_neg (by omega)]
    omega
  · right; right
    rw [if_neg (by omega), if_neg (by omega)]
    omega
theorem shift_all {n : Nat} : ∀ {g : List Wn} {i : Nat}, okAll g i = true → okAll (g.map (shiftW n)) (n + i) = true
  | [], i, _ => rfl
  | w :: r, i, h => by
    rw [okAll, Bool.and_eq_true] at h
    rw [List.map_cons, okAll, okW_yes (shift_ok (of_decide_eq_true h.1)), Bool.true_and]
    exact shift_all (i := i + 1) h.2
theorem shift_parts {w : Wn} (n : Nat) : partsW (shiftW n w) = (partsW w).map (fun x => x + (n : Int)) := by
  unfold partsW shiftW
  simp only
  by_cases h67 : w.kind = 6 ∨ w.kind = 7
  · rw [if_pos h67, if_pos h67, if_pos (by omega), if_pos h67]; rfl
  · rw [if_neg h67, if_neg h67]
    by_cases h8 : w.kind = 8
    · rw [if_pos h8, if_pos h8, if_pos (by omega)]; rfl
    · rw [if_neg h8, if_neg h8]; rfl
theorem shift_flat (n : Nat) : ∀ (g : List Wn), (g.map (shiftW n)).flatMap partsW = (g.flatMap partsW).map (fun x => x + (n : Int))
  | [] => rfl
  | w :: r => by rw [List.map_cons, List.flatMap_cons, List.flatMap_cons, List.map_append, shift_parts, shift_flat n r]
theorem count_shift (L : List Int) (n : Nat) (j : Int) : (L.map (fun x => x + (n : Int))).count j = L.count (j - n) := by
  induction L with
  | nil => rfl
  | cons x r ih =>
    rw [List.map_cons, List.count_cons, List.count_cons, ih]
    by_cases h : x = j - n
    · have e1 : (x + (n : Int) == j) = true := beq_iff_eq.2 (by omega)
      have e2 : (x == j - (n : Int)) = true := beq_iff_eq.2 h
      rw [e1, e2]
    · have e1 : (x + (n : Int) == j) = false := beq_eq_false_iff_ne.2 (by omega)
      have e2 : (x == j - (n : Int)) = false := beq_eq_false_iff_ne.2 h
      rw [e1, e2]
theorem both_len (f g : List Wn) : (bothW f g).length = f.length + g.length + 1 := by unfold bothW; simp; omega
theorem both_okAll {f g : List Wn} (hf : okAll f 0 = true) (hg : okAll g 0 = true) (h1 : 1 ≤ f.length) (h2 : 1 ≤ g.length) : okAll (bothW f g) 0 = true := by
  unfold bothW
  rw [okAll_app, okAll_app, hf, Bool.true_and, Nat.zero_add, Nat.zero_add]
  have := shift_all (n := f.length) hg
  rw [Nat.add_zero] at this
  rw [this, Bool.true_and, List.length_append, List.length_map]
  simp only [okAll, Bool.and_true]
  apply okW_yes
  left
  exact ⟨.inl rfl, rfl, rfl, rfl, by simp only; omega, by simp only; omega, by simp only; omega⟩
theorem both_good {f g : List Wn} (hf : R_GoodW f = true) (hg : R_GoodW g = true) (hn : f.length + g.length < 20) : R_GoodW (bothW f g) = true := by
  have f1 := good_iff.1 hf
  have g1 := good_iff.1 hg
  rw [good_iff, both_len]
  refine ⟨by omega, both_okAll f1.2.1 g1.2.1 f1.1.1 g1.1.1, fun j hj => ?_⟩
  have hj2 : j < f.length + g.length := by omega
  unfold bothW
  rw [List.flatMap_append, List.flatMap_append, List.count_append, List.count_append, shift_flat, count_shift]
  have hp : [(⟨6, 0, 0, ⟨#[]⟩, (f.length : Int) - 1, ((f.length + g.length : Nat) : Int) - 1⟩ : Wn)].flatMap partsW = [(f.length : Int) - 1, ((f.length + g.length : Nat) : Int) - 1] := rfl
  rw [hp, List.count_cons, List.count_cons, List.count_nil]
  have fl := f1.1.1
  have gl := g1.1.1
  by_cases c1 : j < f.length - 1
  · rw [f1.2.2 j c1, count_out (okAll_parts g1.2.1) (by omega)]
    have e1 : ((f.length : Int) - 1 == (j : Int)) = false := beq_eq_false_iff_ne.2 (by omega)
    have e2 : (((f.length + g.length : Nat) : Int) - 1 == (j : Int)) = false := beq_eq_false_iff_ne.2 (by omega)
    rw [e1, e2]; rfl
  · rw [count_out (okAll_parts f1.2.1) (by omega)]
    by_cases c2 : j = f.length - 1
    · rw [count_out (okAll_parts g1.2.1) (by omega)]
      have e1 : ((f.length : Int) - 1 == (j : Int)) = true := beq_iff_eq.2 (by omega)
      have e2 : (((f.length + g.length : Nat) : Int) - 1 == (j : Int)) = false := beq_eq_false_iff_ne.2 (by omega)
      rw [e1, e2]; rfl
    · have e1 : ((f.length : Int) - 1 == (j : Int)) = false := beq_eq_false_iff_ne.2 (by omega)
      rw [e1]
      by_cases c3 : j < f.length + g.length - 1
      · have := g1.2.2 (j - f.length) (by omega)
        rw [show (j : Int) - (f.length : Int) = ((j - f.length : Nat) : Int) by omega, this]
        have e2 : (((f.length + g.length : Nat) : Int) - 1 == (j : Int)) = false := beq_eq_false_iff_ne.2 (by omega)
        rw [e2]; rfl
      · rw [count_out (okAll_parts g1.2.1) (by omega)]
        have e2 : (((f.length + g.length : Nat) : Int) - 1 == (j : Int)) = true := beq_iff_eq.2 (by omega)
        rw [e2]; rfl
theorem so_shift {f g r : List Wn} (fs : List Fld) (hg : okAll g 0 = true) (h2 : okAll (f ++ g.map (shiftW f.length) ++ r) 0 = true) : ∀ k, k < g.length → soK (f ++ g.map (shiftW f.length) ++ r) fs (f.length + k) = soK g fs k := by
  intro k
  induction k using Nat.strongRecOn with
  | ind k ih =>
    intro hk
    have hw : g[k]? = some g[k] := List.getElem?_eq_getElem hk
    have hw2 : (f ++ g.map (shiftW f.length) ++ r)[f.length + k]? = some (shiftW f.length g[k]) := by
      rw [List.getElem?_append_left (by simp; omega), List.getElem?_append_right (by omega), show f.length + k - f.length = k by omega, List.getElem?_map, hw]; rfl
    have ho := okAll_at g 0 k _ hg hw
    rw [Nat.zero_add] at ho
    have ho2 := shift_ok (n := f.length) ho
    rw [soK_eq fs hg hw, soK_eq fs h2 hw2]
    have hkd : (shiftW f.length g[k]).kind = g[k].kind := rfl
    have hlf : leafW fs (shiftW f.length g[k]) = leafW fs g[k] := rfl
    rw [hkd, hlf]
    by_cases h6 : g[k].kind = 6
    · have := ok67 ho (.inl h6)
      have ea : (shiftW f.length g[k]).a.toNat = f.length + g[k].a.toNat := by unfold shiftW; simp only; rw [if_pos (by omega)]; omega
      have eb : (shiftW f.length g[k]).b.toNat = f.length + g[k].b.toNat := by unfold shiftW; simp only; rw [if_pos (by omega)]; omega
      rw [if_pos h6, if_pos h6, ea, eb, ih _ (by omega) (by omega), ih _ (by omega) (by omega)]
    · rw [if_neg h6, if_neg h6]
      by_cases h7 : g[k].kind = 7
      · have := ok67 ho (.inr h7)
        have ea : (shiftW f.length g[k]).a.toNat = f.length + g[k].a.toNat := by unfold shiftW; simp only; rw [if_pos (by omega)]; omega
        have eb : (shiftW f.length g[k]).b.toNat = f.length + g[k].b.toNat := by unfold shiftW; simp only; rw [if_pos (by omega)]; omega
        rw [if_pos h7, if_pos h7, ea, eb, ih _ (by omega) (by omega), ih _ (by omega) (by omega)]
      · rw [if_neg h7, if_neg h7]
        by_cases h8 : g[k].kind = 8
        · have := ok8 ho h8
          have ea : (shiftW f.length g[k]).a.toNat = f.length + g[k].a.toNat := by unfold shiftW; simp only; rw [if_pos (by omega)]; omega
          rw [if_pos h8, if_pos h8, ea, ih _ (by omega) (by omega)]
        · rw [if_neg h8, if_neg h8]
theorem both_cond {f g : List Wn} (h : (R_Both f g).2 = true) : (R_GoodW f = true ∧ R_GoodW g = true) ∧ f.length + g.length < 20 := by
  unfold R_Both at h
  split at h
  · assumption
  · cases h
/-- both tell what each tells -/
theorem both_tells {f g : List Wn} (s : ByteArray) (h : (R_Both f g).2 = true) : (R_Matches f s).2 = (R_Matches g s).2 ∧ (R_Matches (R_Both f g).1 s).2 = (R_Matches f s).2 ∧ ((R_Matches f s).2 = true → (R_Matches (R_Both f g).1 s).1 = ((R_Matches f s).1 && (R_Matches g s).1)) := by
  have hc := both_cond h
  have hb := both_good hc.1.1 hc.1.2 hc.2
  have e : (R_Both f g).1 = bothW f g := by unfold R_Both; rw [if_pos hc]
  rw [e]
  unfold R_Matches
  cases hr : R_Rising s with
  | none => exact ⟨rfl, rfl, fun h => by cases h⟩
  | some fs =>
    simp only
    rw [if_pos hc.1.1, if_pos hc.1.2, if_pos hb]
    refine ⟨rfl, rfl, fun _ => ?_⟩
    simp only
    have f1 := good_len hc.1.1
    have g1 := good_len hc.1.2
    have hok := good_ok hb
    rw [both_len, Nat.add_sub_cancel]
    have hl : (bothW f g)[f.length + g.length]? = some ⟨6, 0, 0, ⟨#[]⟩, (f.length : Int) - 1, ((f.length + g.length : Nat) : Int) - 1⟩ := by
      unfold bothW
      rw [List.getElem?_append_right (by simp)]
      simp
    rw [soK_eq fs hok hl]
    simp only
    rw [if_pos True.intro]
    have e1 : ((f.length : Int) - 1).toNat = f.length - 1 := by omega
    have e2 : (((f.length + g.length : Nat) : Int) - 1).toNat = f.length + (g.length - 1) := by omega
    rw [e1, e2]
    unfold bothW at hok ⊢
    rw [so_shift fs (good_ok hc.1.2) hok _ (by omega)]
    have hok' := hok
    rw [List.append_assoc] at hok' ⊢
    rw [so_prefix fs (good_ok hc.1.1) hok' _ (by omega)]
end Go.Proofs.Ytlmgckijbamgpaa
