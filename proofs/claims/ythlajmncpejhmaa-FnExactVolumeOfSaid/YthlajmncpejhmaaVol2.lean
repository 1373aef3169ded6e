/- The program's VolumeOf. -/
import Derived.Test.YthlajmncpejhmaaVol1
import Derived.Test.YthlajmncpejhmaaUnionS
namespace Go.Proofs.Ythlajmncpejhmaa
set_option linter.unusedVariables false
open Go.ChangeShapes Go.WideShapes Go.ChangeAt Go.RowKit
set_option maxRecDepth 100000

/-! ### plain -/
theorem cnt_nonneg : ∀ (d : Nat) (L : List Bx), 0 ≤ cntB d L
  | 0, L => by unfold cntB; split <;> decide
  | d + 1, L => by rw [cntB]; exact sumZ_nonneg _ _ fun x => cnt_nonneg d _
theorem cnt_le1 (L : List Bx) : cntB 0 L ≤ 1 := by unfold cntB; split <;> decide
theorem cnt_step_le {d : Nat} {M : Int} (h : ∀ L, cntB d L ≤ M) (L : List Bx) : cntB (d + 1) L ≤ 2001 * M := by
  rw [cntB]
  have := sumZ_mono (f := fun x => cntB d (thereR x L)) (g := fun _ => M) 2001 (-1000) fun x => h _
  rw [sumZ_const] at this
  exact this
theorem cnt_bd2 {d : Nat} (hd : d ≤ 2) (L : List Bx) : cntB d L ≤ 4004001 := by
  have h0 := cnt_le1
  have h1 := fun L => cnt_step_le (M := 1) h0 L
  have h2 := fun L => cnt_step_le (M := 2001) (by simpa using h1) L
  rcases d with _ | _ | _ | d
  · have := h0 L; omega
  · have := h1 L; omega
  · exact Int.le_trans (h2 L) (by decide)
  · omega
theorem cnt_bd3 {d : Nat} (hd : d ≤ 3) (L : List Bx) : cntB d L ≤ 8012006001 := by
  rcases d with _ | d
  · have := cnt_le1 L; omega
  · have := cnt_step_le (M := 4004001) (fun L => cnt_bd2 (show d ≤ 2 by omega) L) L; omega
def stK (g : Int → Int) (ps : List Int) (k : Nat) : Int := sumI (fun j => (ps.getD (j + 1) 0 - ps.getD j 0) * g (ps.getD j 0)) (List.range k)
theorem stK_next (g : Int → Int) (ps : List Int) (k : Nat) : stK g ps (k + 1) = stK g ps k + (ps.getD (k + 1) 0 - ps.getD k 0) * g (ps.getD k 0) := by
  unfold stK
  rw [List.range_succ, sumI_app, sumI, sumI]; omega
theorem sumI_range_succ (f : Nat → Int) : ∀ k, sumI f (List.range (k + 1)) = f 0 + sumI (fun j => f (j + 1)) (List.range k)
  | 0 => by simp [List.range_succ, sumI]
  | k + 1 => by rw [List.range_succ, sumI_app, sumI_range_succ f k, List.range_succ, sumI_app, sumI, sumI, sumI, sumI]; omega
theorem steps_stK (g : Int → Int) : ∀ (ps : List Int) (p : Int), stepsI g (p :: ps) = stK g (p :: ps) ps.length
  | [], p => rfl
  | q :: ps, p => by
    rw [stepsI, steps_stK g ps q]
    unfold stK
    rw [List.length_cons, sumI_range_succ]
    rfl
theorem stK_term {g : Int → Int} (hg : ∀ x, 0 ≤ g x) {ps : List Int} (hs : ps.Pairwise (· < ·)) {k : Nat} (hk : k + 1 < ps.length) : 0 ≤ (ps.getD (k + 1) 0 - ps.getD k 0) * g (ps.getD k 0) := by
  have h1 : ps.getD (k + 1) 0 = ps[k + 1] := by simp [List.getD, hk]
  have h2 : ps.getD k 0 = ps[k]'(by omega) := by simp [List.getD, show k < ps.length by omega]
  have := List.pairwise_iff_getElem.1 hs k (k + 1) (by omega) hk (by omega)
  exact Int.mul_nonneg (by omega) (hg _)
theorem stK_mono {g : Int → Int} (hg : ∀ x, 0 ≤ g x) {ps : List Int} (hs : ps.Pairwise (· < ·)) : ∀ (j k : Nat), k + j < ps.length → stK g ps k ≤ stK g ps (k + j)
  | 0, k, _ => Int.le_refl _
  | j + 1, k, h => by
    have ih := stK_mono hg hs j k (by omega)
    rw [show k + (j + 1) = k + j + 1 by omega, stK_next]
    have := stK_term hg hs (k := k + j) (by omega)
    omega
theorem stK_zero (g : Int → Int) (ps : List Int) : stK g ps 0 = 0 := rfl
def thereI (x : Int) (i : Nat) (l : List Bx) : List Bx := l.filter fun b => inB x (b.getD i (0, 0)).1 (b.getD i (0, 0)).2
theorem there_drop (x : Int) (i : Nat) : ∀ l : List Bx, (thereI x i l).map (·.drop (i + 1)) = thereR x (l.map (·.drop i))
  | [] => rfl
  | b :: l => by
    have ih := there_drop x i l
    unfold thereI thereR at *
    rw [List.map_cons, List.filter_cons, List.filter_cons, getD_drop]
    split
    · rw [List.map_cons, List.map_cons, ih, List.tail_drop]
    · exact ih
theorem there_next {x : Int} {i j : Nat} {l : List Bx} {b : Bx} (h : l[j]? = some b) : thereI x i (l.take (j + 1)) = thereI x i (l.take j) ++ (if inB x (b.getD i (0, 0)).1 (b.getD i (0, 0)).2 = true then [b] else []) := by
  unfold thereI
  rw [take_next l j b h, List.filter_append]
  congr 1
  simp only [List.filter_cons, List.filter_nil]
theorem there_le (x : Int) (i : Nat) (l : List Bx) : (thereI x i l).length ≤ l.length := List.length_filter_le _ _
theorem there_ok {x : Int} {i : Nat} {l : List Bx} (h : ∀ b ∈ l, Ok3 b) : ∀ b ∈ thereI x i l, Ok3 b := fun b hb => h b (List.mem_filter.1 hb).1
/-- the count, place by place, as the program adds it up -/
theorem cnt_places {d i : Nat} (hd : i + (d + 1) = 3) {l : List Bx} (hl : ∀ b ∈ l, Ok3 b) (hne : 0 < l.length) :
    1 ≤ (plcR (edgeI l i)).length ∧ cntB (d + 1) (l.map (·.drop i)) = stK (fun x => cntB d (thereR x (l.map (·.drop i)))) (plcR (edgeI l i)) ((plcR (edgeI l i)).length - 1) := by
  obtain ⟨h1, h2⟩ := plc_inv (edgeI l i)
  have hpos : 0 < (plcR (edgeI l i)).length := by
    have hb : l[0]? = some l[0] := List.getElem?_eq_getElem hne
    have hm : (l[0].getD i (0, 0)).1 ∈ plcR (edgeI l i) := (h2 _).2 (by unfold edgeI; exact List.mem_flatMap.2 ⟨l[0], List.getElem_mem hne, by simp⟩)
    exact List.length_pos_of_mem hm
  refine ⟨hpos, ?_⟩
  have hm2 : ∀ q, q ∈ plcR (edgeI l i) ↔ q ∈ edgeL (l.map (·.drop i)) := fun q => by rw [edgeI_L]; exact h2 q
  generalize plcR (edgeI l i) = P at *
  match P, hpos, h1, hm2 with
  | p :: ps, _, h1, hm2 =>
    rw [List.length_cons, Nat.add_sub_cancel, ← steps_stK]
    refine cnt_steps ?_ h1 hm2
    intro b hb
    obtain ⟨c, hc, rfl⟩ := List.mem_map.1 hb
    have hok := hl c hc
    rw [getD_drop]
    exact hok.1 _ (by rw [List.getD_eq_getElem?_getD, List.getElem?_eq_getElem (show i < c.length by rw [hok.2]; omega)]; exact List.getElem_mem _)
end Go.Proofs.Ythlajmncpejhmaa
