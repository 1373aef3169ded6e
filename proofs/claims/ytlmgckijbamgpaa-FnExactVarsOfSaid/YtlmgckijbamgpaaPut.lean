/- A number put to its place in a rising list, once: plain laws; the reference's contract; the program's (by the shelf's contracts of BinarySearch and Insert). -/
import Derived.Test.YtlmgckijbamgpaaHIntS
import Derived.Laws.AppendOwnNone
import Derived.Deep.RegionHeld3
namespace Go.Proofs.Ytlmgckijbamgpaa
set_option linter.unusedVariables false
open Go.ChangeShapes Go.WideShapes Go.ChangeAt Go.RowKit
set_option maxRecDepth 100000

/-! ### rising -/
def leB (x y : Int) : Bool := decide (x ≤ y)
def putK (l : List Int) (n : Int) : Nat := (l.takeWhile (fun x => decide (x < n))).length
def putR (l : List Int) (n : Int) : List Int := if l[putK l n]? = some n then l else l.take (putK l n) ++ n :: l.drop (putK l n)
theorem putK_le (l : List Int) (n : Int) : putK l n ≤ l.length := (List.takeWhile_prefix _).length_le
theorem putK_lt : ∀ (l : List Int) (n : Int) (j : Nat) (x : Int), j < putK l n → l[j]? = some x → x < n
  | [], n, j, x, h, _ => by simp [putK] at h
  | y :: l, n, j, x, h, hx => by
    unfold putK at h
    rw [List.takeWhile_cons] at h
    by_cases hy : y < n
    · rw [if_pos (by simpa using hy)] at h
      cases j with
      | zero => simp at hx; omega
      | succ j => exact putK_lt l n j x (by unfold putK; simpa using h) (by simpa using hx)
    · rw [if_neg (by simpa using hy)] at h; simp at h
theorem putK_at : ∀ (l : List Int) (n : Int) (x : Int), l[putK l n]? = some x → n ≤ x
  | [], n, x, h => by simp at h
  | y :: l, n, x, h => by
    unfold putK at h
    rw [List.takeWhile_cons] at h
    by_cases hy : y < n
    · rw [if_pos (by simpa using hy)] at h
      exact putK_at l n x (by unfold putK; simpa using h)
    · rw [if_neg (by simpa using hy)] at h
      simp at h; omega
theorem putK_is (l : List Int) (n : Int) (k : Nat) (hk : k ≤ l.length) (h1 : ∀ (j : Nat) (x : Int), j < k → l[j]? = some x → x < n) (h2 : ∀ x, l[k]? = some x → n ≤ x) : putK l n = k := by
  rcases Nat.lt_trichotomy (putK l n) k with h | h | h
  · have hx : l[putK l n]? = some (l[putK l n]'(by omega)) := List.getElem?_eq_getElem _
    have a := putK_at l n _ hx
    have b := h1 _ _ h hx
    omega
  · exact h
  · have := putK_le l n
    have hx : l[k]? = some (l[k]'(by omega)) := List.getElem?_eq_getElem _
    have a := putK_lt l n k _ h hx
    have b := h2 _ hx
    omega
theorem put_new {l : List Int} {n : Int} (hn : n ∉ l) : putR l n = l.take (putK l n) ++ n :: l.drop (putK l n) := by
  unfold putR
  rw [if_neg (fun h => hn (List.mem_of_getElem? h))]
theorem put_perm {l : List Int} {n : Int} (hn : n ∉ l) : (putR l n).Perm (l ++ [n]) := by
  rw [put_new hn]
  refine List.Perm.trans List.perm_middle ?_
  rw [List.take_append_drop]
  exact List.perm_append_singleton n l |>.symm
theorem put_sorted {l : List Int} {n : Int} (hn : n ∉ l) (hs : l.Pairwise (· < ·)) : (putR l n).Pairwise (· < ·) := by
  rw [put_new hn]
  have hsp := hs
  rw [← List.take_append_drop (putK l n) l, List.pairwise_append] at hsp
  obtain ⟨h1, h2, h3⟩ := hsp
  have ha : ∀ a ∈ l.take (putK l n), a < n := by
    intro a ha
    rw [List.mem_take_iff_getElem] at ha
    obtain ⟨j, hj, rfl⟩ := ha
    exact putK_lt l n j _ (by omega) (List.getElem?_eq_getElem _)
  have hb : ∀ b ∈ l.drop (putK l n), n < b := by
    intro b hb
    rw [List.mem_drop_iff_getElem] at hb
    obtain ⟨j, hj, rfl⟩ := hb
    have hk : putK l n < l.length := by omega
    have h4 := putK_at l n _ (List.getElem?_eq_getElem hk)
    have h5 : l[putK l n] ≠ n := fun e => hn (e ▸ List.getElem_mem hk)
    rcases Nat.eq_zero_or_pos j with rfl | hj0
    · simp only [Nat.add_zero]; omega
    · have := List.pairwise_iff_getElem.1 hs (putK l n) (putK l n + j) hk (by omega) (by omega)
      omega
  rw [List.pairwise_append]
  refine ⟨h1, List.pairwise_cons.2 ⟨hb, h2⟩, fun a ha' b hb' => ?_⟩
  rcases List.mem_cons.1 hb' with rfl | hb'
  · exact ha a ha'
  · exact h3 a ha' b hb'
theorem fold_put : ∀ (l acc : List Int), (acc ++ l).Nodup → acc.Pairwise (· < ·) → (l.foldl putR acc).Perm (acc ++ l) ∧ (l.foldl putR acc).Pairwise (· < ·)
  | [], acc, _, hs => ⟨by simp, hs⟩
  | x :: l, acc, hd, hs => by
    have hx : x ∉ acc := by
      intro hm
      rw [List.nodup_append] at hd
      exact hd.2.2 x hm x (by simp) rfl
    have hp := put_perm hx
    have hp2 : (putR acc x ++ l).Perm (acc ++ x :: l) := by
      have := hp.append_right l
      simpa using this
    obtain ⟨h1, h2⟩ := fold_put l (putR acc x) (hp2.nodup_iff.2 hd) (put_sorted hx hs)
    exact ⟨h1.trans hp2, h2⟩
theorem fold_put_sort (l : List Int) (hd : l.Nodup) : l.foldl putR [] = l.mergeSort (fun x y => decide (x ≤ y)) := by
  obtain ⟨h1, h2⟩ := fold_put l [] (by simpa using hd) List.Pairwise.nil
  have h3 := List.pairwise_mergeSort (le := fun x y : Int => decide (x ≤ y)) (by intro a b c; simp; omega) (by intro a b; simp; omega) l
  refine List.Perm.eq_of_pairwise (le := fun a b : Int => decide (a ≤ b) = true) (by intro a b _ _; simp; omega) (h2.imp (by intro a b h; simp; omega)) h3 ?_
  exact (by simpa using h1 : (l.foldl putR []).Perm l).trans (List.mergeSort_perm l _).symm
theorem put_len (l : List Int) (n : Int) : (putR l n).length ≤ l.length + 1 := by
  unfold putR
  split
  · omega
  · have := putK_le l n; simp; omega
theorem fold_len : ∀ (l acc : List Int), (l.foldl putR acc).length ≤ acc.length + l.length
  | [], acc => by simp
  | x :: l, acc => by
    have h1 := fold_len l (putR acc x); have := put_len acc x
    rw [List.foldl_cons, List.length_cons]; omega
theorem intrw_cell {w : World} {a : Option Addr} {xs : List Int} (h : Rw w a (ints xs)) {i : Nat} (hi : i < xs.length) : ∃ b off x, xs[i]? = some x ∧ a = some ⟨b, off, none⟩ ∧ b < w.heap.size ∧ w.cell? ⟨b, off + i, none⟩ = some (.int .i64 x) := by
  obtain ⟨b, off, ha, hb, hc⟩ := h.at (fun e => by have := congrArg List.length e; simp at this; rw [this] at hi; simp at hi)
  exact ⟨b, off, xs[i], List.getElem?_eq_getElem hi, ha, hb, hc i _ (by simp [ints, hi])⟩
theorem ints_one (xs : List Int) (x : Int) : ints (xs ++ [x]) = ints xs ++ [.int .i64 x] := by simp [ints]
theorem int_owl (w : World) : ∀ (xs : List Int), (∀ n ∈ xs, (Lit.int .i64 n).wf = true) → OwL kInt w (xs.map fun _ => []) (xs.map fun n => [Value.int .i64 n]) xs
  | [], _ => trivial
  | x :: xs, h => ⟨⟨rfl, rfl, h x (by simp)⟩, int_owl w xs fun p hp => h p (by simp [hp])⟩
theorem nil_flatten {α : Type} (xs : List α) : (xs.map fun _ => ([] : List Nat)).flatten = [] := by induction xs with
  | nil => rfl
  | cons x r ih => simp [ih]
theorem int_flatten (xs : List Int) : (xs.map fun n => [Value.int .i64 n]).flatten = xs.map (Value.int .i64) := by induction xs with
  | nil => rfl
  | cons x r ih => rw [List.map_cons, List.flatten_cons, ih]; rfl
theorem ints_own {w : World} {base : Nat} {v : Value} {xs : List Int} (h : w.ownsRow base 3 1 v xs.length (xs.map (Value.int .i64))) (hw : ∀ p ∈ xs, (Lit.int .i64 p).wf = true) : kIntS.ow v.ownBlock.toList w [v] xs :=
  ⟨v, _, _, rfl, by rw [int_flatten]; exact own_mono h (Nat.zero_le _), int_owl w xs hw, by rw [nil_flatten, List.append_nil], by cases v.ownBlock <;> simp⟩
theorem ints_rd {w : World} {B : Nat} {a : Option Addr} {n cap : Nat} {xs : List Int} (h : kIntS.rd B w [.slice a n cap] xs) : Rb B w a (xs.map (Value.int .i64)) ∧ ∀ p ∈ xs, (Lit.int .i64 p).wf = true := by
  obtain ⟨a', cap', vss, hc, _, hrow, hl⟩ := h
  simp only [List.cons.injEq, Value.slice.injEq, and_true] at hc
  obtain ⟨rfl, rfl, rfl⟩ := hc
  have hh : ∀ {vs : List (List Value)} {ys : List Int}, RdL kInt B w vs ys → vs.flatten = ys.map (Value.int .i64) ∧ ∀ p ∈ ys, (Lit.int .i64 p).wf = true := by
    intro vs
    induction vs with
    | nil => intro ys h; cases ys with
      | nil => simp
      | cons y ys => exact absurd h (by intro h; exact h)
    | cons v vs ih => intro ys h; cases ys with
      | nil => exact absurd h (by intro h; exact h)
      | cons y ys =>
        obtain ⟨⟨rfl, h2⟩, h3⟩ := h
        obtain ⟨e, f⟩ := ih h3
        rw [List.flatten_cons, e]
        refine ⟨rfl, fun p hp => ?_⟩
        rcases List.mem_cons.1 hp with hp | hp
        · rw [hp]; exact h2
        · exact f p hp
  exact ⟨by rw [← (hh hl).1]; exact hrow, (hh hl).2⟩

/-! ### a number put to its place, once -/
theorem ints_take (xs : List Int) (k : Nat) : (ints xs).take k = ints (xs.take k) := by simp [ints, List.map_take]
theorem ints_drop (xs : List Int) (k : Nat) : (ints xs).drop k = ints (xs.drop k) := by simp [ints, List.map_drop]
theorem ints_app (xs ys : List Int) : ints (xs ++ ys) = ints xs ++ ints ys := by simp [ints]
theorem ints_oc (xs : List Int) : ∀ u ∈ ints xs, u.oneCell' = true := by intro u hu; simp only [ints, List.mem_map] at hu; obtain ⟨z, _, rfl⟩ := hu; rfl
theorem news_take {w : World} {base : Nat} {e : TypeId} {g cap : Nat} {xs : List Int} (h : w.ownsRow base e 1 (.slice (some ⟨g, 0, none⟩) xs.length cap) xs.length (ints xs)) (k : Nat) : ∀ (j : Nat) (u : Value), (ints (xs.take k))[j]? = some u → w.cell? ((⟨g, 0, none⟩ : Addr).add j) = some u := by
  intro j u hu
  rw [← ints_take] at hu
  refine h.cells rfl j u ?_
  rw [List.getElem?_take] at hu
  split at hu
  · exact hu
  · cases hu
theorem news_drop {w : World} {base : Nat} {e : TypeId} {g cap : Nat} {xs : List Int} (h : w.ownsRow base e 1 (.slice (some ⟨g, 0, none⟩) xs.length cap) xs.length (ints xs)) (k : Nat) : ∀ (j : Nat) (u : Value), (ints (xs.drop k))[j]? = some u → w.cell? ((⟨g, k, none⟩ : Addr).add j) = some u := by
  intro j u hu
  rw [← ints_drop, List.getElem?_drop] at hu
  have hlt : k + j < xs.length := by have := (List.getElem?_eq_some_iff.1 hu).1; simpa using this
  have h1 := h.cellAt (k + j) (by omega)
  rw [hu] at h1
  have e : ((⟨g, k, none⟩ : Addr).add j) = ⟨g, k + j, none⟩ := by unfold Addr.add; split <;> simp_all
  rw [e]; exact h1
def PutOf (base : Nat) (xs : List Int) (n : Int) (w : World) (e : Ending) (w' : World) : Prop :=
  ∃ v, e = .returned v ∧ w'.ownsRow base 3 1 v (putR xs n).length (ints (putR xs n)) ∧ Below w.heap.size w w'

end Go.Proofs.Ytlmgckijbamgpaa
