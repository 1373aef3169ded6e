/- What both of two schemas tell, over kinds. -/
import Derived.Test.YtmlnecopbncdbaaMtO
import Derived.Test.YtmlnecopbncdbaaHSchema
namespace Go.Proofs.Ytmlnecopbncdbaa
set_option linter.unusedVariables false
set_option linter.unusedSimpArgs false
open Go.ChangeShapes Go.WideShapes Go.ChangeAt Go.RowKit
set_option maxRecDepth 100000

def toTy (x : Int × ByteArray × Int × Bool × Int × Int) : Ty := ⟨x.1, x.2.1, x.2.2.1, x.2.2.2.1, x.2.2.2.2.1, x.2.2.2.2.2⟩
def ofTy (x : Ty) : Int × ByteArray × Int × Bool × Int × Int := (x.kind, x.name, x.no, x.must, x.up, x.most)
noncomputable def R_MeetOf (a b : List (Int × ByteArray × Int × Bool × Int × Int)) : List (Int × ByteArray × Int × Bool × Int × Int) × Bool := ((meetB (a.map toTy) (b.map toTy)).1.map ofTy, (meetB (a.map toTy) (b.map toTy)).2)
theorem rd_rows {B : Nat} {w : World} : ∀ {xs : List (Int × ByteArray × Int × Bool × Int × Int)} {vss : List (List Value)}, RdL kType B w vss xs → vss.flatten = tysV (xs.map toTy) ∧ ∀ x ∈ xs.map toTy, x.name.size ≤ maxLen
  | [], vss, h => by
    cases vss with
    | nil => exact ⟨rfl, by simp⟩
    | cons v r => exact absurd h (by simp [RdL])
  | x :: r, vss, h => by
    cases vss with
    | nil => exact absurd h (by simp [RdL])
    | cons v us =>
      obtain ⟨h1, h2⟩ : kType.rd B w v x ∧ RdL kType B w us r := by simpa [RdL] using h
      obtain ⟨e, h3⟩ := rd_rows h2
      obtain ⟨rfl, -, hn, -⟩ := Type_rd h1
      refine ⟨by rw [List.flatten_cons, e]; rfl, ?_⟩
      intro y hy
      rcases List.mem_cons.1 hy with rfl | hy
      · exact hn
      · exact h3 y hy
theorem sch_of {w : World} {cs : List Value} {xs : List (Int × ByteArray × Int × Bool × Int × Int)} (h : kSchema.rd w.heap.size w cs xs) (hl : kSchema.wt xs ≤ 1048576) : ∃ a cap, cs = [.slice a (xs.map toTy).length cap] ∧ Sch w.heap.size w (xs.map toTy) a cap := by
  obtain ⟨a, cap, vss, rfl, ⟨hc1, hc2⟩, hrow, hrd⟩ := h
  obtain ⟨e, hn⟩ := rd_rows hrd
  have hw : xs.length + sumL kType.wt xs ≤ 1048576 := hl
  refine ⟨a, cap, by rw [List.length_map], ⟨by rw [List.length_map]; exact hc1, by unfold maxLen at hc2; omega, by rw [List.length_map]; omega, hn, by rw [← e]; exact hrow, Nat.le_refl _⟩⟩

theorem rows_small {L : List Ty} (h : GoodL L) : ∀ x ∈ L, (1 ≤ x.kind ∧ x.kind ≤ 5) ∧ x.name.size ≤ 10 ∧ (0 ≤ x.no ∧ x.no ≤ 30) ∧ (-1 ≤ x.up ∧ x.up ≤ 30) ∧ 0 ≤ x.most ∧ x.most ≤ 20 := by
  intro x hx
  obtain ⟨i, hi⟩ := List.getElem?_of_mem hx
  obtain ⟨⟨_, hl⟩, ⟨hr, _⟩, _⟩ := h
  have hil : i < L.length := (List.getElem?_eq_some_iff.1 hi).1
  obtain ⟨⟨hk, hm, hm'⟩, h0, h1⟩ := hr i x hi
  have hmost : 0 ≤ x.most ∧ x.most ≤ 20 := by
    by_cases h3 : x.kind = 3
    · exact hm h3
    · have := hm' h3; omega
  rcases Nat.eq_zero_or_pos i with hz | hp
  · obtain ⟨_, hu, hn, hno, _⟩ := h0 hz
    exact ⟨hk, by omega, by omega, by omega, hmost⟩
  · obtain ⟨j, y, hu, hj, _, _, _, hpo, _⟩ := h1 hp
    by_cases h5 : y.kind = 5
    · obtain ⟨hn, h30⟩ := hpo.1 h5
      have hn10 : x.name.size ≤ 10 := by
        have hn' : nameB x.name = true := hn
        unfold nameB at hn'
        simp only [Bool.and_eq_true, decide_eq_true_eq] at hn'
        exact hn'.2.2
      have h30' : 1 ≤ x.no ∧ x.no ≤ 30 := h30
      exact ⟨hk, hn10, by omega, by omega, hmost⟩
    · obtain ⟨hn, hno, _⟩ := hpo.2 h5
      have hn' : x.name.size = 0 := hn
      have hno' : x.no = 0 := hno
      exact ⟨hk, by omega, by omega, by omega, hmost⟩
theorem meetB_small (A D : List Ty) : (meetB A D).1 = [] ∨ GoodL (meetB A D).1 := by
  by_cases h : goodL A = true ∧ goodL D = true
  · cases hm : meetT (treeOf A 0) (treeOf D 0) with
    | none => left; rw [meetB_none h.1 h.2 hm]
    | some t =>
      rw [meetB_some h.1 h.2 hm]
      show tellL t = [] ∨ GoodL (tellL t)
      by_cases hg : goodT t = true
      · right
        have hw := right_wf _ (goodT_iff.1 hg).2.1
        unfold tellL
        rw [if_pos hg]
        exact goodL_iff.1 ((flat_good hw).trans hg)
      · left; unfold tellL; rw [if_neg hg]
  · left; rw [meetB_no h]
theorem meetB_rows (A D : List Ty) : (∀ x ∈ (meetB A D).1, (1 ≤ x.kind ∧ x.kind ≤ 5) ∧ x.name.size ≤ 10 ∧ (0 ≤ x.no ∧ x.no ≤ 30) ∧ (-1 ≤ x.up ∧ x.up ≤ 30) ∧ 0 ≤ x.most ∧ x.most ≤ 20) ∧ (meetB A D).1.length ≤ 30 := by
  rcases meetB_small A D with h | h
  · rw [h]; exact ⟨fun x hx => absurd hx (by simp), by simp⟩
  · exact ⟨rows_small h, h.1.2⟩
theorem wf_small {k : Int} (h : -1000 ≤ k) (h1 : k ≤ 1000) : (Lit.int .i64 k).wf = true := WalkArith.wf_i64 (by omega)
theorem type_ow (w : World) : ∀ (xs : List Ty), (∀ x ∈ xs, (1 ≤ x.kind ∧ x.kind ≤ 5) ∧ x.name.size ≤ 10 ∧ (0 ≤ x.no ∧ x.no ≤ 30) ∧ (-1 ≤ x.up ∧ x.up ≤ 30) ∧ 0 ≤ x.most ∧ x.most ≤ 20) → OwL kType w (xs.map fun _ => []) (xs.map tyv) (xs.map ofTy)
  | [], _ => trivial
  | x :: xs, h => by
    obtain ⟨⟨a1, a2⟩, b, ⟨c1, c2⟩, ⟨d1, d2⟩, e1, e2⟩ := h x (by simp)
    refine ⟨?_, type_ow w xs fun y hy => h y (by simp [hy])⟩
    exact ⟨[], [], [_], _, rfl, rfl, ⟨rfl, rfl, wf_small (k := x.kind) (by omega) (by omega)⟩, [], [], [_], _, rfl, rfl, ⟨rfl, rfl, by show x.name.size ≤ maxLen; unfold maxLen; omega⟩, [], [], [_], _, rfl, rfl, ⟨rfl, rfl, wf_small (k := x.no) (by omega) (by omega)⟩, [], [], [_], _, rfl, rfl, ⟨rfl, rfl, trivial⟩, [], [], [_], [_], rfl, rfl, ⟨rfl, rfl, wf_small (k := x.up) (by omega) (by omega)⟩, ⟨rfl, rfl, wf_small (k := x.most) (by omega) (by omega)⟩⟩
theorem nil_flatT (xs : List Ty) : (xs.map fun _ => ([] : List Nat)).flatten = [] := by
  induction xs with
  | nil => rfl
  | cons x r ih => simp [ih]
theorem made_meet {R : List Ty × Bool} {w w' : World} {e : Ending} (hw : ∀ x ∈ R.1, (1 ≤ x.kind ∧ x.kind ≤ 5) ∧ x.name.size ≤ 10 ∧ (0 ≤ x.no ∧ x.no ≤ 30) ∧ (-1 ≤ x.up ∧ x.up ≤ 30) ∧ 0 ≤ x.most ∧ x.most ≤ 20) (h : MeetOO R w e w') : Made kSchema (fun cs => .tuple #[.agg cs.toArray, .bool R.2]) (R.1.map ofTy) w e w' := by
  obtain ⟨v, rfl, ho, hb⟩ := h
  have hl : (R.1.map ofTy).length = R.1.length := List.length_map _
  refine ⟨[v], v.ownBlock.toList, rfl, ⟨v, R.1.map tyv, R.1.map fun _ => [], rfl, ?_, type_ow w' R.1 hw, by rw [nil_flatT, List.append_nil], by cases v.ownBlock <;> simp⟩, by cases v.ownBlock <;> simp, fun b hm => (ho.lt b (by simpa using hm)).1, hb⟩
  rw [hl]
  exact own_mono ho (Nat.zero_le _)
theorem types_cnt (xs : List (Int × ByteArray × Int × Bool × Int × Int)) : kSchema.cnt xs = 6 * xs.length := by
  show sumL kType.cnt xs = _
  induction xs with
  | nil => rfl
  | cons x r ih => rw [sumL, ih, List.length_cons]; show 6 + _ = _; omega
theorem R_MeetOf_ok (a b : List (Int × ByteArray × Int × Bool × Int × Int)) (_h : kSchema.wt a + kSchema.wt b ≤ 1048576) : kSchema.cnt (R_MeetOf a b).1 ≤ 16777215 := by
  rw [types_cnt]
  have := (meetB_rows (a.map toTy) (b.map toTy)).2
  unfold R_MeetOf
  rw [List.length_map]
  omega

theorem impl_MeetOf (w : World) (cs0 cs1 : List Value) (a0 a1 : List (Int × ByteArray × Int × Bool × Int × Int)) (h0 : kSchema.rd w.heap.size w cs0 a0) (h1 : kSchema.rd w.heap.size w cs1 a1) (ht : kSchema.wt a0 + kSchema.wt a1 ≤ 1048576) :
    Calls Try.prog 9 #[.agg cs0.toArray, .agg cs1.toArray] w (Made kSchema (fun cs => .tuple #[.agg cs.toArray, .bool (R_MeetOf a0 a1).2]) (R_MeetOf a0 a1).1 w) := by
  obtain ⟨a, cap, rfl, s1⟩ := sch_of h0 (by omega)
  obtain ⟨b, cap', rfl, s2⟩ := sch_of h1 (by omega)
  exact (impl_meetOO s1 s2).mono fun e w' h => made_meet (meetB_rows _ _).1 h
theorem spec_MeetOf (w : World) (cs0 cs1 : List Value) (a0 a1 : List (Int × ByteArray × Int × Bool × Int × Int)) (h0 : kSchema.rd w.heap.size w cs0 a0) (h1 : kSchema.rd w.heap.size w cs1 a1) (ht : kSchema.wt a0 + kSchema.wt a1 ≤ 1048576) :
    Calls Try.prog 7 #[.agg cs0.toArray, .agg cs1.toArray] w (Made kSchema (fun cs => .tuple #[.agg cs.toArray, .bool (R_MeetOf a0 a1).2]) (R_MeetOf a0 a1).1 w) := by
  obtain ⟨a, cap, rfl, s1⟩ := sch_of h0 (by omega)
  obtain ⟨b, cap', rfl, s2⟩ := sch_of h1 (by omega)
  exact (spec_meetOO s1 s2).mono fun e w' h => made_meet (meetB_rows _ _).1 h
end Go.Proofs.Ytmlnecopbncdbaa
