/- Boxes by kinds: the contracts of HullOf in the words of the laws' frames. -/
import Derived.Test.YthlajmncpejhmaaHull
import Derived.Test.YthlajmncpejhmaaHBoxS
namespace Go.Proofs.Ythlajmncpejhmaa
set_option linter.unusedVariables false
open Go.ChangeShapes Go.WideShapes Go.ChangeAt Go.RowKit
set_option maxRecDepth 100000

abbrev Bx := List (Int × Int)
theorem side_flat {B : Nat} {w : World} : ∀ {vss : List (List Value)} {xs : Bx}, RdL kSide B w vss xs → vss.flatten = sds xs
  | [], [], _ => rfl
  | v :: vss, x :: xs, h => by
    obtain ⟨c, d, rfl, ⟨rfl, _⟩, rfl, _⟩ := h.1
    rw [List.flatten_cons, side_flat h.2, sds_cons]; rfl
theorem side_wf {B : Nat} {w : World} : ∀ {vss : List (List Value)} {xs : Bx}, RdL kSide B w vss xs → ∀ p ∈ xs, (Lit.int .i64 p.1).wf = true ∧ (Lit.int .i64 p.2).wf = true
  | [], [], _ => by simp
  | v :: vss, x :: xs, h => by
    obtain ⟨c, d, _, ⟨_, h1⟩, _, h2⟩ := h.1
    intro p hp
    rcases List.mem_cons.1 hp with rfl | hp
    · exact ⟨h1, h2⟩
    · exact side_wf h.2 p hp
theorem box_form {w : World} {cs : List Value} {xs : Bx} (h : kBox.rd w.heap.size w cs xs) : ∃ a cap, cs = [.slice a xs.length cap] ∧ Rw w a (sds xs) ∧ xs.length ≤ 9223372036854775807 ∧ ∀ p ∈ xs, (Lit.int .i64 p.1).wf = true ∧ (Lit.int .i64 p.2).wf = true := by
  obtain ⟨a, cap, vss, rfl, hcap, hrow, hl⟩ := h
  unfold maxLen at hcap
  exact ⟨a, cap, rfl, by rw [← side_flat hl]; exact hrow, by omega, side_wf hl⟩
theorem side_ow (w : World) : ∀ (xs : Bx), (∀ p ∈ xs, (Lit.int .i64 p.1).wf = true ∧ (Lit.int .i64 p.2).wf = true) → OwL kSide w (xs.map fun _ => []) (xs.map fun p => [Value.int .i64 p.1, Value.int .i64 p.2]) xs
  | [], _ => trivial
  | x :: xs, h => ⟨⟨[], [], [_], [_], rfl, rfl, ⟨rfl, rfl, (h x (by simp)).1⟩, rfl, rfl, (h x (by simp)).2⟩, side_ow w xs fun p hp => h p (by simp [hp])⟩
theorem nil_flat (xs : Bx) : (xs.map fun _ => ([] : List Nat)).flatten = [] := by induction xs with
  | nil => rfl
  | cons x r ih => simp [ih]
theorem box_ow {w : World} {base : Nat} {e : TypeId} {v : Value} {xs : Bx} (h : w.ownsRow base 64 2 v xs.length (sds xs)) (hw : ∀ p ∈ xs, (Lit.int .i64 p.1).wf = true ∧ (Lit.int .i64 p.2).wf = true) : kBox.ow v.ownBlock.toList w [v] xs :=
  ⟨v, _, _, rfl, own_mono h (Nat.zero_le _), side_ow w xs hw, by rw [nil_flat, List.append_nil], by cases v.ownBlock <;> simp⟩
theorem made_box {R : Bx × Bool} {w w' : World} {e : Ending} (hw : ∀ p ∈ R.1, (Lit.int .i64 p.1).wf = true ∧ (Lit.int .i64 p.2).wf = true) (h : MadeBox R w e w') : Made kBox (fun cs => .tuple #[.agg cs.toArray, .bool R.2]) R.1 w e w' := by
  obtain ⟨v, rfl, ho, hb⟩ := h
  refine ⟨[v], v.ownBlock.toList, rfl, box_ow (e := 0) ho hw, by cases v.ownBlock <;> simp, fun b hm => (ho.lt b (by simpa using hm)).1, hb⟩

def R_HullOf (a b : Bx) : Bx × Bool := HullR a b
theorem gs_bd {p : Int × Int} (h : gs p = true) : -1000 ≤ p.1 ∧ p.1 ≤ p.2 ∧ p.2 ≤ 1000 := by unfold gs at h; simp at h; omega
theorem good_at {xs : Bx} (h : GoodR xs = true) (i : Nat) (hi : i < 3) : -1000 ≤ (xs.getD i (0, 0)).1 ∧ (xs.getD i (0, 0)).1 ≤ (xs.getD i (0, 0)).2 ∧ (xs.getD i (0, 0)).2 ≤ 1000 := by
  have hl := good_len h
  unfold GoodR at h
  simp only [Bool.and_eq_true] at h
  have hlt : i < xs.length := by omega
  have e : xs.getD i (0, 0) = xs[i] := by simp [List.getD, hlt]
  rw [e]
  exact gs_bd (List.all_eq_true.1 h.2 _ (List.getElem_mem hlt))
theorem hull_wf (a b : Bx) : ∀ p ∈ (HullR a b).1, (Lit.int .i64 p.1).wf = true ∧ (Lit.int .i64 p.2).wf = true := by
  by_cases h : GoodR a = true ∧ GoodR b = true
  · rw [HullR_yes a b h]
    intro p hp
    simp only [zipF, List.mem_map, List.mem_range] at hp
    obtain ⟨i, hi, rfl⟩ := hp
    have h1 := good_at h.1 i hi; have h2 := good_at h.2 i hi
    generalize a.getD i (0, 0) = x at *
    generalize b.getD i (0, 0) = y at *
    unfold hullP
    exact ⟨WalkArith.wf_i64 (by split <;> omega), WalkArith.wf_i64 (by split <;> omega)⟩
  · rw [HullR_no a b h]; simp
theorem sides_cnt (xs : Bx) : kBox.cnt xs = 2 * xs.length := by
  show sumL kSide.cnt xs = _
  induction xs with
  | nil => rfl
  | cons x r ih => rw [sumL, ih, List.length_cons]; show 2 + _ = _; omega
theorem R_HullOf_ok (a b : Bx) (_h : kBox.wt a + kBox.wt b ≤ 1048576) : kBox.cnt (R_HullOf a b).1 ≤ 16777215 := by
  rw [sides_cnt]
  unfold R_HullOf HullR
  split <;> simp

theorem impl_HullOf (w : World) (cs0 cs1 : List Value) (a0 a1 : Bx) (h0 : kBox.rd w.heap.size w cs0 a0) (h1 : kBox.rd w.heap.size w cs1 a1) (_ht : kBox.wt a0 + kBox.wt a1 ≤ 1048576) :
    Calls Try.prog 12 #[.agg cs0.toArray, .agg cs1.toArray] w (Made kBox (fun cs => .tuple #[.agg cs.toArray, .bool (R_HullOf a0 a1).2]) (R_HullOf a0 a1).1 w) := by
  obtain ⟨a, cap, rfl, r1, l1, _⟩ := box_form h0
  obtain ⟨b, cap', rfl, r2, l2, _⟩ := box_form h1
  exact (impl_hullOf a b cap cap' a0 a1 w r1 r2 l1 l2).mono fun e w' h => made_box (hull_wf a0 a1) h
theorem spec_HullOf (w : World) (cs0 cs1 : List Value) (a0 a1 : Bx) (h0 : kBox.rd w.heap.size w cs0 a0) (h1 : kBox.rd w.heap.size w cs1 a1) (_ht : kBox.wt a0 + kBox.wt a1 ≤ 1048576) :
    Calls Try.prog 10 #[.agg cs0.toArray, .agg cs1.toArray] w (Made kBox (fun cs => .tuple #[.agg cs.toArray, .bool (R_HullOf a0 a1).2]) (R_HullOf a0 a1).1 w) := by
  obtain ⟨a, cap, rfl, r1, l1, _⟩ := box_form h0
  obtain ⟨b, cap', rfl, r2, l2, _⟩ := box_form h1
  exact (spec_hullOf a b cap cap' a0 a1 w r1 r2 l1 l2).mono fun e w' h => made_box (hull_wf a0 a1) h
end Go.Proofs.Ythlajmncpejhmaa
