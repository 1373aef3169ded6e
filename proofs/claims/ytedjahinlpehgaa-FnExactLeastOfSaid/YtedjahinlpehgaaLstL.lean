/- Plain laws of the least machine: the classes' first states, and what the program's walk through the machine meets. No function of the program is named here. -/
import Derived.Test.YtedjahinlpehgaaClsL
namespace Go.Proofs.Ytedjahinlpehgaa
set_option linter.unusedVariables false
open Go.ChangeShapes Go.WideShapes Go.ChangeAt Go.RowKit

theorem cl_finer {m : Mach} (hm : GoodM m) (r : Nat) : Finer (cl m (r + 1)) (cl m r) := by
  refine ⟨by rw [cl_length hm, cl_length hm], fun i j hi hj h => ?_⟩
  rw [cl_length hm] at hi hj
  have a1 := cl_alike hm (r + 1); have a0 := cl_alike hm r
  have h1 := (a1.2 i j (by rw [nw_length hm]; exact hi) (by rw [nw_length hm]; exact hj)).2 h
  have h2 := (nw_finer hm r).2 i j (by rw [nw_length hm]; exact hi) (by rw [nw_length hm]; exact hj) h1
  exact (a0.2 i j (by rw [nw_length hm]; exact hi) (by rw [nw_length hm]; exact hj)).1 h2
theorem cl_finer0 {m : Mach} (hm : GoodM m) : ∀ r, Finer (cl m r) (cl m 0)
  | 0 => ⟨rfl, fun _ _ _ _ h => h⟩
  | r + 1 => by
    have h1 := cl_finer hm r; have h2 := cl_finer0 hm r
    refine ⟨h1.1.trans h2.1, fun i j hi hj h => h2.2 i j hi hj (h1.2 i j ?_ ?_ h)⟩
    · rw [cl_length hm] at hi ⊢; exact hi
    · rw [cl_length hm] at hj ⊢; exact hj
theorem cls_at {m : Mach} (hm : GoodM m) {f : Int} (h0 : 0 ≤ f) (h1 : f < (m.1.length : Int)) : (clsR m)[f.toNat]? = some (clA (clsR m) f) := by
  have hl : f.toNat < (clsR m).length := by unfold clsR; rw [cl_length hm]; omega
  rw [List.getElem?_eq_getElem hl]
  unfold clA; simp [List.getD, hl]
/-- what the state and the first of its class have in common -/
theorem cls_same {m : Mach} (hm : GoodM m) {f : Int} (h0 : 0 ≤ f) (h1 : f < (m.1.length : Int)) :
    0 ≤ clA (clsR m) f ∧ clA (clsR m) f < (m.1.length : Int) ∧ (∀ k, k < 3 → clA (clsR m) (goI m (clA (clsR m) f) k) = clA (clsR m) (goI m f k)) ∧ endI m (clA (clsR m) f) = endI m f := by
  have hb := cl_in hm (rnd m) h0 h1
  have hb' : 0 ≤ clA (clsR m) f ∧ clA (clsR m) f ≤ f := hb
  have hst : fstL (marksR m (clsR m)) = clsR m := (rnd_stop hm).1
  have hfl : f.toNat < m.1.length := by omega
  have hx := marks_at (m := m) (c := clsR m) hfl
  have hle := fstL_le hx
  have hcf : at1 (marksR m (clsR m)) (mkAt m (clsR m) f.toNat) = clA (clsR m) f := by
    have h2 := fstL_at hx
    rw [hst, cls_at hm h0 h1] at h2
    exact (Option.some.inj h2).symm
  rw [hcf] at hle
  have hcl : (clA (clsR m) f).toNat < m.1.length := by omega
  have hmk : mkAt m (clsR m) (clA (clsR m) f).toNat = mkAt m (clsR m) f.toNat := by
    have h3 := hle.2.2
    rw [marks_at hcl] at h3
    exact Option.some.inj h3
  unfold mkAt at hmk
  rw [show (((clA (clsR m) f).toNat : Nat) : Int) = clA (clsR m) f by omega, show ((f.toNat : Nat) : Int) = f by omega] at hmk
  simp only [Prod.mk.injEq] at hmk
  obtain ⟨e0, g0, g1, g2⟩ := hmk
  refine ⟨hb'.1, by omega, fun k hk => ?_, ?_⟩
  · rcases k with _ | _ | _ | k
    · exact g0
    · exact g1
    · exact g2
    · omega
  · have hce := (cl_finer0 hm (rnd m)).2 (clA (clsR m) f).toNat f.toNat (by rw [cl_length hm]; exact hcl) (by rw [cl_length hm]; exact hfl) (by
      have c1 := cls_at hm hb'.1 (by omega : clA (clsR m) f < (m.1.length : Int))
      have c2 := cls_at hm h0 h1
      unfold clsR at c1 c2 ⊢
      rw [c1, c2]
      exact congrArg some e0)
    have hen := ((alike_fst m.2).2 (clA (clsR m) f).toNat f.toNat (by rw [hm.ends]; exact hcl) (by rw [hm.ends]; exact hfl)).2 hce
    unfold endI
    simp only [List.getD, hen]
theorem rowAt_go {m : Mach} (hm : GoodM m) {f : Int} (h0 : 0 ≤ f) (h1 : f < (m.1.length : Int)) : rowAt m f = [goI m f 0, goI m f 1, goI m f 2] := by
  obtain ⟨_, h3, _⟩ := row_in hm h0 h1
  have g0 := (goI_in hm h0 h1 (k := 0) (by omega)).1; have g1 := (goI_in hm h0 h1 (k := 1) (by omega)).1; have g2 := (goI_in hm h0 h1 (k := 2) (by omega)).1
  refine List.ext_getElem? fun j => ?_
  rcases j with _ | _ | _ | j
  · exact g0
  · exact g1
  · exact g2
  · rw [List.getElem?_eq_none (by omega), List.getElem?_eq_none (by simp)]
theorem cls_row {m : Mach} (hm : GoodM m) {f : Int} (h0 : 0 ≤ f) (h1 : f < (m.1.length : Int)) : rowAt (mC m) (clA (clsR m) f) = (rowAt m f).map (clA (clsR m)) := by
  obtain ⟨h2, h3, h4, _⟩ := cls_same hm h0 h1
  rw [mC_row hm h2 h3, rowAt_go hm h2 h3, rowAt_go hm h0 h1]
  simp only [List.map_cons, List.map_nil]
  rw [h4 0 (by omega), h4 1 (by omega), h4 2 (by omega)]
theorem cls_zero {m : Mach} (hm : GoodM m) : clA (clsR m) 0 = 0 := by
  have h := cl_in hm (rnd m) (k := 0) (Int.le_refl 0) (by have := hm.n1; omega)
  have h' : 0 ≤ clA (clsR m) 0 ∧ clA (clsR m) 0 ≤ 0 := h
  omega
/-- the order of the classes, round by round -/
def oC (m : Mach) (i : Nat) : List Int := ordR (mC m) i
theorem oC_inv {m : Mach} (hm : GoodM m) (i : Nat) : OInv m.1.length (oC m i) := by have := ord_inv (mC_good hm) i; rwa [mC_rows] at this
theorem oC_end {m : Mach} (hm : GoodM m) {i : Nat} (hi : i ≤ 12) (he : (oC m i).length ≤ i) : ordC m = oC m i := ord_end (mC_good hm) i hi he
theorem oC_next {m : Mach} {i : Nat} (hi : i < (oC m i).length) : oC m (i + 1) = (rowAt (mC m) ((oC m i).getD i 0)).foldl visit (oC m i) := ord_next hi
theorem visit_pre (o : List Int) (y : Int) : o <+: visit o y := by
  unfold visit; split
  · exact List.prefix_rfl
  · exact List.prefix_append _ _
theorem fold_pre : ∀ (l o : List Int), o <+: l.foldl visit o
  | [], o => List.prefix_rfl
  | y :: l, o => by rw [List.foldl_cons]; exact (visit_pre o y).trans (fold_pre l _)
theorem oC_pre {m : Mach} (i : Nat) : oC m i <+: oC m (i + 1) := by
  unfold oC
  rw [ordR]
  split
  · exact fold_pre _ _
  · exact List.prefix_rfl
theorem oC_to {m : Mach} {i : Nat} (hi : i ≤ 12) : oC m i <+: ordC m := by
  have : ∀ j, oC m i <+: oC m (i + j) := by
    intro j
    induction j with
    | zero => exact List.prefix_rfl
    | succ j ih => exact ih.trans (oC_pre (i + j))
  have h := this (12 - i)
  rw [show i + (12 - i) = 12 by omega] at h
  exact h
theorem visit_mem (o : List Int) (y : Int) : y ∈ visit o y := by
  unfold visit hasI
  split
  · rename_i h; simpa using h
  · simp
/-- the orders within a round lead to the whole one -/
theorem fold_to {m : Mach} (hm : GoodM m) {i : Nat} (hi : i < (oC m i).length) (j : Nat) : ((rowAt (mC m) ((oC m i).getD i 0)).take j).foldl visit (oC m i) <+: ordC m := by
  have h1 : ((rowAt (mC m) ((oC m i).getD i 0)).take j).foldl visit (oC m i) <+: (rowAt (mC m) ((oC m i).getD i 0)).foldl visit (oC m i) := by
    conv => rhs; rw [← List.take_append_drop j (rowAt (mC m) ((oC m i).getD i 0)), List.foldl_append]
    exact fold_pre _ _
  rw [← oC_next hi] at h1
  have h12 : i < 12 := by have := (oC_inv hm i).len; have := hm.n12; omega
  exact h1.trans (oC_to (by omega))
theorem visit_yes' {o : List Int} {y : Int} (h : y ∈ o) : visit o y = o := by unfold visit hasI; rw [if_pos (by simpa using h)]
theorem visit_no' {o : List Int} {y : Int} (h : y ∉ o) : visit o y = o ++ [y] := by unfold visit hasI; rw [if_neg (by simpa using h)]
/-- the number that a state's class gets is the place where it stands in the order under way -/
theorem at_yes {o t : List Int} {y : Int} (hn : t.Nodup) (hp : visit o y <+: t) {j : Nat} (hj : o[j]? = some y) : at1 t y = (j : Int) := by
  have hy : y ∈ o := List.mem_of_getElem? hj
  rw [visit_yes' hy] at hp
  exact at1_nd hn (by
    obtain ⟨r, rfl⟩ := hp
    rw [List.getElem?_append_left (List.getElem?_eq_some_iff.1 hj).1]; exact hj)
theorem at_no {o t : List Int} {y : Int} (hn : t.Nodup) (hp : visit o y <+: t) (hy : y ∉ o) : at1 t y = (o.length : Int) := by
  rw [visit_no' hy] at hp
  obtain ⟨r, rfl⟩ := hp
  exact at1_nd hn (by simp)
theorem oC_at {m : Mach} {i : Nat} (hi : i < (oC m i).length) (h12 : i ≤ 12) : (ordC m)[i]? = some ((oC m i).getD i 0) := by
  obtain ⟨r, hr⟩ := oC_to (m := m) h12
  rw [← hr, List.getElem?_append_left hi]
  simp [List.getD, hi]
/-- the order within a round, behind j letters -/
def oJ (m : Mach) (s : Int) (o : List Int) (j : Nat) : List Int := ((rowAt (mC m) s).take j).foldl visit o
theorem oJ_zero (m : Mach) (s : Int) (o : List Int) : oJ m s o 0 = o := by simp [oJ]
theorem oJ_full {m : Mach} (hm : GoodM m) {s : Int} (h0 : 0 ≤ s) (h1 : s < (m.1.length : Int)) (o : List Int) : oJ m s o 3 = (rowAt (mC m) s).foldl visit o := by
  unfold oJ
  rw [List.take_of_length_le (by have := (row_in (mC_good hm) h0 (by rw [mC_rows]; exact h1)).2.1; omega)]
theorem mC_at {m : Mach} (hm : GoodM m) {s : Int} (h0 : 0 ≤ s) (h1 : s < (m.1.length : Int)) {j : Nat} (hj : j < 3) : (rowAt (mC m) s)[j]? = some (clA (clsR m) (goI m s j)) := by
  rw [mC_row hm h0 h1, List.getElem?_map, (goI_in hm h0 h1 hj).1]; rfl
theorem oJ_next {m : Mach} (hm : GoodM m) {s : Int} (h0 : 0 ≤ s) (h1 : s < (m.1.length : Int)) (o : List Int) {j : Nat} (hj : j < 3) : oJ m s o (j + 1) = visit (oJ m s o j) (clA (clsR m) (goI m s j)) := fold_take _ _ _ _ (mC_at hm h0 h1 hj)
theorem oJ_yes {m : Mach} (hm : GoodM m) {s : Int} (h0 : 0 ≤ s) (h1 : s < (m.1.length : Int)) {o : List Int} {j : Nat} (hj : j < 3) (h : clA (clsR m) (goI m s j) ∈ oJ m s o j) : oJ m s o (j + 1) = oJ m s o j := by rw [oJ_next hm h0 h1 o hj, visit_yes' h]
theorem oJ_no {m : Mach} (hm : GoodM m) {s : Int} (h0 : 0 ≤ s) (h1 : s < (m.1.length : Int)) {o : List Int} {j : Nat} (hj : j < 3) (h : clA (clsR m) (goI m s j) ∉ oJ m s o j) : oJ m s o (j + 1) = oJ m s o j ++ [clA (clsR m) (goI m s j)] := by rw [oJ_next hm h0 h1 o hj, visit_no' h]
theorem oJ_inv {m : Mach} (hm : GoodM m) {s : Int} (h0 : 0 ≤ s) (h1 : s < (m.1.length : Int)) {o : List Int} (ho : OInv m.1.length o) (j : Nat) : OInv m.1.length (oJ m s o j) := by
  have h := row_in (mC_good hm) h0 (by rw [mC_rows]; exact h1)
  rw [mC_rows] at h
  exact ho.fold fun k hk => h.2.2 k (List.mem_of_mem_take hk)
theorem oJ_to {m : Mach} (hm : GoodM m) {i : Nat} {s : Int} (hi : i < (oC m i).length) (hs : (oC m i).getD i 0 = s) (j : Nat) : oJ m s (oC m i) j <+: ordC m := by
  subst hs; exact fold_to hm hi j
/-- the letter's number, where its class is known already -/
theorem oJ_at {m : Mach} (hm : GoodM m) {i : Nat} {s : Int} (hi : i < (oC m i).length) (hs : (oC m i).getD i 0 = s) (h0 : 0 ≤ s) (h1 : s < (m.1.length : Int)) {j : Nat} (hj : j < 3) :
    (∀ p : Nat, (oJ m s (oC m i) j)[p]? = some (clA (clsR m) (goI m s j)) → at1 (ordC m) (clA (clsR m) (goI m s j)) = (p : Int)) ∧
    (clA (clsR m) (goI m s j) ∉ oJ m s (oC m i) j → at1 (ordC m) (clA (clsR m) (goI m s j)) = ((oJ m s (oC m i) j).length : Int)) := by
  have hp := oJ_to hm hi hs (j + 1)
  rw [oJ_next hm h0 h1 _ hj] at hp
  have hn : (ordC m).Nodup := (oC_inv hm 12).nd
  exact ⟨fun p hp' => at_yes hn hp hp', fun h => at_no hn hp h⟩
def rowC (m : Mach) (s : Int) : List Int := (rowAt (mC m) s).map (at1 (ordC m))
theorem R_Least_no {m : Mach} (h : R_GoodMachine m = false) : R_LeastOf m = (([], []), false) := by unfold R_LeastOf; rw [if_neg (by rw [h]; simp)]
theorem R_Least_yes {m : Mach} (h : R_GoodMachine m = true) : R_LeastOf m = (((ordC m).map (rowC m), (ordC m).map (endI m)), true) := by unfold R_LeastOf; rw [if_pos h]; rfl
end Go.Proofs.Ytedjahinlpehgaa
