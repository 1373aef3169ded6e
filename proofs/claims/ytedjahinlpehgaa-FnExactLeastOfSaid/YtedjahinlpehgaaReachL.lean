/- Plain laws of the states that are reached: their order as they come, and rising. No function of the program is named here. -/
import Derived.Test.YtedjahinlpehgaaRun
namespace Go.Proofs.Ytedjahinlpehgaa
set_option linter.unusedVariables false
open Go.ChangeShapes Go.WideShapes Go.ChangeAt Go.RowKit

def hasI (xs : List Int) (k : Int) : Bool := xs.contains k
def visit (o : List Int) (k : Int) : List Int := if hasI o k = true then o else o ++ [k]
def rowAt (m : Mach) (k : Int) : List Int := m.1.getD k.toNat []
def ordR (m : Mach) : Nat → List Int
  | 0 => [0]
  | i + 1 => if i < (ordR m i).length then (rowAt m ((ordR m i).getD i 0)).foldl visit (ordR m i) else ordR m i
structure OInv (n : Nat) (o : List Int) : Prop where
  nd : o.Nodup
  rg : ∀ k ∈ o, 0 ≤ k ∧ k < (n : Int)
  one : 1 ≤ o.length
theorem OInv.len {n : Nat} {o : List Int} (h : OInv n o) : o.length ≤ n := by
  have hs : o ⊆ (List.range n).map (fun i : Nat => (i : Int)) := by
    intro k hk
    have := h.rg k hk
    simp only [List.mem_map, List.mem_range]
    exact ⟨k.toNat, by omega, by omega⟩
  have := List.Nodup.length_le_of_subset h.nd hs
  simpa using this
theorem OInv.visit {n : Nat} {o : List Int} (h : OInv n o) {k : Int} (hk : 0 ≤ k ∧ k < (n : Int)) : OInv n (visit o k) := by
  unfold Go.Proofs.Ytedjahinlpehgaa.visit
  split
  · exact h
  · rename_i hc
    have hn : k ∉ o := by intro hm; exact hc (by unfold hasI; simpa using hm)
    refine ⟨?_, ?_, by simp⟩
    · rw [List.nodup_append]
      exact ⟨h.nd, by simp, fun a ha b hb => by simp at hb; subst hb; intro e; exact hn (e ▸ ha)⟩
    · intro j hj
      rcases List.mem_append.1 hj with hj | hj
      · exact h.rg j hj
      · simp at hj; subst hj; exact hk
theorem OInv.fold {n : Nat} : ∀ {l : List Int} {o : List Int}, OInv n o → (∀ k ∈ l, 0 ≤ k ∧ k < (n : Int)) → OInv n (l.foldl Go.Proofs.Ytedjahinlpehgaa.visit o)
  | [], o, h, _ => h
  | k :: l, o, h, hl => by rw [List.foldl_cons]; exact OInv.fold (h.visit (hl k (by simp))) fun j hj => hl j (by simp [hj])
theorem row_in {m : Mach} (h : GoodM m) {k : Int} (h0 : 0 ≤ k) (h1 : k < (m.1.length : Int)) : m.1[k.toNat]? = some (rowAt m k) ∧ (rowAt m k).length = 3 ∧ ∀ y ∈ rowAt m k, 0 ≤ y ∧ y < (m.1.length : Int) := by
  have hk : k.toNat < m.1.length := by omega
  have hl : m.1[k.toNat]? = some m.1[k.toNat] := List.getElem?_eq_getElem hk
  have e : rowAt m k = m.1[k.toNat] := by unfold rowAt; simp [List.getD, hk]
  obtain ⟨h3, hb⟩ := h.row k.toNat _ hl
  rw [e]
  refine ⟨hl, h3, fun y hy => ?_⟩
  obtain ⟨j, hj⟩ := List.getElem?_of_mem hy
  exact hb j y hj
theorem ord_inv {m : Mach} (h : GoodM m) : ∀ i, OInv m.1.length (ordR m i)
  | 0 => ⟨by simp [ordR], by intro k hk; simp [ordR] at hk; subst hk; have := h.n1; omega, by simp [ordR]⟩
  | i + 1 => by
    have ih := ord_inv h i
    rw [ordR]
    split
    · rename_i hi
      have hm : (ordR m i).getD i 0 ∈ ordR m i := by
        have : (ordR m i).getD i 0 = (ordR m i)[i] := by simp [List.getD, hi]
        rw [this]; exact List.getElem_mem hi
      have hr := ih.rg _ hm
      exact ih.fold (row_in h hr.1 hr.2).2.2
    · exact ih
theorem ord_stay (m : Mach) (i : Nat) (h : (ordR m i).length ≤ i) : ∀ j, ordR m (i + j) = ordR m i
  | 0 => rfl
  | j + 1 => by
    have ih := ord_stay m i h j
    show ordR m ((i + j) + 1) = _
    rw [ordR, if_neg (by rw [ih]; omega), ih]
theorem ord_end {m : Mach} (_h : GoodM m) (i : Nat) (hi : i ≤ 12) (he : (ordR m i).length ≤ i) : ordR m 12 = ordR m i := by
  have := ord_stay m i he (12 - i)
  rw [show i + (12 - i) = 12 by omega] at this
  exact this
theorem ord_next {m : Mach} {i : Nat} (hi : i < (ordR m i).length) : ordR m (i + 1) = (rowAt m ((ordR m i).getD i 0)).foldl visit (ordR m i) := by rw [ordR, if_pos hi]
theorem fold_take (l : List Int) (o : List Int) (j : Nat) (y : Int) (h : l[j]? = some y) : (l.take (j + 1)).foldl visit o = visit ((l.take j).foldl visit o) y := by
  rw [take_next l j y h, List.foldl_append]; rfl

/-! ### rising -/
def leB (x y : Int) : Bool := decide (x ≤ y)
def putK (l : List Int) (n : Int) : Nat := (l.takeWhile (fun x => decide (x < n))).length
def putR (l : List Int) (n : Int) : List Int := if l[putK l n]? = some n then l else l.take (putK l n) ++ n :: l.drop (putK l n)
theorem putK_le (l : List Int) (n : Int) : putK l n ≤ l.length := (List.takeWhile_prefix _).length_le
theorem putK_lt : ∀ (l : List Int) (n : Int) (j : Nat) (x : Int), j < putK l n → l[j]? = some x → x < n
  | [], n, j, x, h, _ => by simp [putK] at h
  | y :: l, n, j, x, h, hx => by
    unfold putK at h
    rw [List.takeWhile_cons] at h
    by_cases hy : y < n
    · rw [if_pos (by simpa using hy)] at h
      cases j with
      | zero => simp at hx; omega
      | succ j => exact putK_lt l n j x (by unfold putK; simpa using h) (by simpa using hx)
    · rw [if_neg (by simpa using hy)] at h; simp at h
theorem putK_at : ∀ (l : List Int) (n : Int) (x : Int), l[putK l n]? = some x → n ≤ x
  | [], n, x, h => by simp at h
  | y :: l, n, x, h => by
    unfold putK at h
    rw [List.takeWhile_cons] at h
    by_cases hy : y < n
    · rw [if_pos (by simpa using hy)] at h
      exact putK_at l n x (by unfold putK; simpa using h)
    · rw [if_neg (by simpa using hy)] at h
      simp at h; omega
theorem putK_is (l : List Int) (n : Int) (k : Nat) (hk : k ≤ l.length) (h1 : ∀ (j : Nat) (x : Int), j < k → l[j]? = some x → x < n) (h2 : ∀ x, l[k]? = some x → n ≤ x) : putK l n = k := by
  rcases Nat.lt_trichotomy (putK l n) k with h | h | h
  · have hx : l[putK l n]? = some (l[putK l n]'(by omega)) := List.getElem?_eq_getElem _
    have a := putK_at l n _ hx
    have b := h1 _ _ h hx
    omega
  · exact h
  · have := putK_le l n
    have hx : l[k]? = some (l[k]'(by omega)) := List.getElem?_eq_getElem _
    have a := putK_lt l n k _ h hx
    have b := h2 _ hx
    omega
theorem put_new {l : List Int} {n : Int} (hn : n ∉ l) : putR l n = l.take (putK l n) ++ n :: l.drop (putK l n) := by
  unfold putR
  rw [if_neg (fun h => hn (List.mem_of_getElem? h))]
theorem put_perm {l : List Int} {n : Int} (hn : n ∉ l) : (putR l n).Perm (l ++ [n]) := by
  rw [put_new hn]
  refine List.Perm.trans List.perm_middle ?_
  rw [List.take_append_drop]
  exact List.perm_append_singleton n l |>.symm
theorem put_sorted {l : List Int} {n : Int} (hn : n ∉ l) (hs : l.Pairwise (· < ·)) : (putR l n).Pairwise (· < ·) := by
  rw [put_new hn]
  have hsp := hs
  rw [← List.take_append_drop (putK l n) l, List.pairwise_append] at hsp
  obtain ⟨h1, h2, h3⟩ := hsp
  have ha : ∀ a ∈ l.take (putK l n), a < n := by
    intro a ha
    rw [List.mem_take_iff_getElem] at ha
    obtain ⟨j, hj, rfl⟩ := ha
    exact putK_lt l n j _ (by omega) (List.getElem?_eq_getElem _)
  have hb : ∀ b ∈ l.drop (putK l n), n < b := by
    intro b hb
    rw [List.mem_drop_iff_getElem] at hb
    obtain ⟨j, hj, rfl⟩ := hb
    have hk : putK l n < l.length := by omega
    have h4 := putK_at l n _ (List.getElem?_eq_getElem hk)
    have h5 : l[putK l n] ≠ n := fun e => hn (e ▸ List.getElem_mem hk)
    rcases Nat.eq_zero_or_pos j with rfl | hj0
    · simp only [Nat.add_zero]; omega
    · have := List.pairwise_iff_getElem.1 hs (putK l n) (putK l n + j) hk (by omega) (by omega)
      omega
  rw [List.pairwise_append]
  refine ⟨h1, List.pairwise_cons.2 ⟨hb, h2⟩, fun a ha' b hb' => ?_⟩
  rcases List.mem_cons.1 hb' with rfl | hb'
  · exact ha a ha'
  · exact h3 a ha' b hb'
theorem fold_put : ∀ (l acc : List Int), (acc ++ l).Nodup → acc.Pairwise (· < ·) → (l.foldl putR acc).Perm (acc ++ l) ∧ (l.foldl putR acc).Pairwise (· < ·)
  | [], acc, _, hs => ⟨by simp, hs⟩
  | x :: l, acc, hd, hs => by
    have hx : x ∉ acc := by
      intro hm
      rw [List.nodup_append] at hd
      exact hd.2.2 x hm x (by simp) rfl
    have hp := put_perm hx
    have hp2 : (putR acc x ++ l).Perm (acc ++ x :: l) := by
      have := hp.append_right l
      simpa using this
    obtain ⟨h1, h2⟩ := fold_put l (putR acc x) (hp2.nodup_iff.2 hd) (put_sorted hx hs)
    exact ⟨h1.trans hp2, h2⟩
theorem fold_put_sort (l : List Int) (hd : l.Nodup) : l.foldl putR [] = l.mergeSort (fun x y => decide (x ≤ y)) := by
  obtain ⟨h1, h2⟩ := fold_put l [] (by simpa using hd) List.Pairwise.nil
  have h3 := List.pairwise_mergeSort (le := fun x y : Int => decide (x ≤ y)) (by intro a b c; simp; omega) (by intro a b; simp; omega) l
  refine List.Perm.eq_of_pairwise (le := fun a b : Int => decide (a ≤ b) = true) (by intro a b _ _; simp; omega) (h2.imp (by intro a b h; simp; omega)) h3 ?_
  exact (by simpa using h1 : (l.foldl putR []).Perm l).trans (List.mergeSort_perm l _).symm
theorem put_len (l : List Int) (n : Int) : (putR l n).length ≤ l.length + 1 := by
  unfold putR
  split
  · omega
  · have := putK_le l n; simp; omega
theorem fold_len : ∀ (l acc : List Int), (l.foldl putR acc).length ≤ acc.length + l.length
  | [], acc => by simp
  | x :: l, acc => by
    have h1 := fold_len l (putR acc x); have := put_len acc x
    rw [List.foldl_cons, List.length_cons]; omega
def R_ReachedOf (m : Mach) : List Int × Bool := if R_GoodMachine m = true then ((ordR m 12).mergeSort (fun x y => decide (x ≤ y)), true) else ([], false)
end Go.Proofs.Ytedjahinlpehgaa
