/- Paths of types: the reference's walks. -/
import Derived.Test.YtmlnecopbncdbaaTyY
import Derived.Test.YtmlnecopbncdbaaTyPl
namespace Go.Proofs.Ytmlnecopbncdbaa
set_option linter.unusedVariables false
set_option linter.unusedSimpArgs false
open Go.ChangeShapes Go.WideShapes Go.ChangeAt Go.RowKit
set_option maxRecDepth 100000

/-- what a path is told as -/
def PathO (L : List Ty) (k : Nat) (w : World) (e : Ending) (w' : World) : Prop :=
  e = .returned (.tuple #[.string (pathS L k), .bool (pathB L k)]) ∧ Below w.heap.size w w'
theorem path_zero (L : List Ty) : pathS L 0 = ⟨#[]⟩ ∧ pathB L 0 = true := by
  unfold pathS pathB; rw [pathN_zero]; exact ⟨rfl, rfl⟩
theorem path_list {L : List Ty} {k j : Nat} {x y : Ty} (hk : L[k]? = some x) (hj : x.up = (j : Int)) (hjk : j < k) (hy : L[j]? = some y) (h5 : ¬ y.kind = 5) : pathS L k = ⟨#[]⟩ ∧ pathB L k = false := by
  unfold pathS pathB; rw [pathN_step hk hj hjk hy, if_neg h5]; exact ⟨rfl, rfl⟩
theorem path_no {L : List Ty} {k j : Nat} {x y : Ty} (hk : L[k]? = some x) (hj : x.up = (j : Int)) (hjk : j < k) (hy : L[j]? = some y) (h5 : y.kind = 5) (hb : pathB L j = false) : pathS L k = ⟨#[]⟩ ∧ pathB L k = false := by
  unfold pathB at hb
  unfold pathS pathB; rw [pathN_step hk hj hjk hy, if_pos h5]
  cases hq : pathN L j with
  | none => exact ⟨rfl, rfl⟩
  | some ms => rw [hq] at hb; cases hb
theorem path_yes {L : List Ty} (h : RowsOK L) {k j : Nat} {x y : Ty} (hk : L[k]? = some x) (hj : x.up = (j : Int)) (hjk : j < k) (hy : L[j]? = some y) (h5 : y.kind = 5) (hb : pathB L j = true) : pathS L k = (if (pathS L j).toList.isEmpty = true then x.name else pathS L j ++ ⟨#[46]⟩ ++ x.name) ∧ pathB L k = true := by
  have hkl := (List.getElem?_eq_some_iff.1 hk).1
  unfold pathB at hb
  unfold pathS pathB; rw [pathN_step hk hj hjk hy, if_pos h5]
  cases hq : pathN L j with
  | none => rw [hq] at hb; cases hb
  | some ms =>
    refine ⟨?_, rfl⟩
    show joinD (ms ++ [x.name]) = _
    rw [joinD_snoc]
    by_cases hm : ms = []
    · rw [if_pos hm]
      subst hm
      rw [if_pos (by rw [isEm]; rfl)]
    · rw [if_neg hm, if_neg]
      rw [isEm, decide_eq_true_iff]
      intro hz
      refine joinD_ne (path_names h j ms (by omega) hq).1 hm ?_
      apply bL_inj
      have : (bL (joinD ms)).length = 0 := by rw [bL_len]; exact hz
      rw [List.length_eq_zero_iff.1 this]; rfl
set_option maxHeartbeats 4000000 in
theorem spec_l3Path_one {B : Nat} {w : World} {L : List Ty} {a : Option Addr} {cap : Nat} (h : Sch B w L a cap) (hrows : RowsOK L) (h30 : L.length ≤ 30) (k : Nat) (hk : k < L.length)
    (IH : ∀ (j : Nat) (wx : World), j < k → Sch B wx L a cap → Calls Try.prog 47 #[.agg #[.slice a L.length cap], .int .i64 (j : Int)] wx (PathO L j wx)) :
    Calls Try.prog 47 #[.agg #[.slice a L.length cap], .int .i64 (k : Int)] w (PathO L k w) := by
  obtain ⟨x, hx⟩ : ∃ x, L[k]? = some x := ⟨L[k], List.getElem?_eq_getElem hk⟩
  have hxn := h.hnm x (List.mem_of_getElem? hx)
  have hB1 := Below.alloc (Below.refl w.heap.size w) (Nat.le_refl _) (.cells #[.slice a L.length cap] 28)
  have hX1 := heap_alloc_new w (.cells #[.slice a L.length cap] 28)
  generalize hw1 : w.alloc (.cells #[.slice a L.length cap] 28) = w1 at *
  have l1 := hp_lt hX1
  obtain ⟨b, off, rfl, hbl, d0, d1, d2, d3, d4, d5⟩ := tys_cells (h.keep hB1).row hx
  have c1 : w1.cell? ⟨w.heap.size, 0, none⟩ = some (.slice (some ⟨b, off, none⟩) L.length cap) := by simp [World.cell?, hX1]
  have hbw : b < w1.heap.size := by have := h.hB; omega
  have hB2 := hB1.alloc (by omega) (.cells #[.int .i64 x.kind, .string x.name, .int .i64 x.no, .bool x.must, .int .i64 x.up, .int .i64 x.most] 85)
  have hX1 := hp_alloc (.cells #[.int .i64 x.kind, .string x.name, .int .i64 x.no, .bool x.must, .int .i64 x.up, .int .i64 x.most] 85) hX1
  have hX2 := heap_alloc_new w1 (.cells #[.int .i64 x.kind, .string x.name, .int .i64 x.no, .bool x.must, .int .i64 x.up, .int .i64 x.most] 85)
  generalize hw2 : w1.alloc (.cells #[.int .i64 x.kind, .string x.name, .int .i64 x.no, .bool x.must, .int .i64 x.up, .int .i64 x.most] 85) = w2 at *
  have l2 := hp_lt hX2
  have HX1 := Lib.hid hX1
  have HX2 := Lib.hid hX2
  have HB2 := Lib.hid hB2
  have H2 := Lib.hid (h.keep hB2)
  have HIH := Lib.hid IH
  have c2 : w2.cell? ⟨w.heap.size, 0, none⟩ = some (.slice (some ⟨b, off, none⟩) L.length cap) := by simp [World.cell?, hX1]
  obtain ⟨y0, y1, y2, y3, y4, y5⟩ := box6 hX2
  have HX := Lib.hid hx
  have hcm := h.hcm
  have hlc := h.hc
  unfold PathO
  clear hB1 hB2 hX1 hX2 h IH hx
  by_cases h0 : k = 0
  · have e1 : pathS L k = ⟨#[]⟩ := by rw [h0]; exact (path_zero L).1
    have e2 : pathB L k = true := by rw [h0]; exact (path_zero L).2
    have hk0 : ((k : Int) == 0) = true := by rw [beq_iff_eq]; omega
    rw [e1, e2]
    clear h0 e1 e2
    go_enter Try.func47, Try.ntmps47
    go_wp2_with fail
    go_ret2
    exact ⟨rfl, HB2.out⟩
  have hk0 : ((k : Int) == 0) = false := beq_eq_false_iff_ne.2 (by omega)
  obtain ⟨j, y, hj, hjk, hy, hpo, -⟩ := row_part hrows HX.out (by omega)
  obtain ⟨b2, off2, hbe, -, k0, -⟩ := tys_cells H2.out.row hy
  simp only [Option.some.injEq, Addr.mk.injEq, and_true] at hbe
  obtain ⟨rfl, rfl⟩ := hbe
  rw [hj] at y4
  have hjl : j < L.length := by omega
  clear h0
  by_cases h5 : y.kind = 5
  case neg =>
    obtain ⟨e1, e2⟩ := path_list HX.out hj hjk hy h5
    rw [e1, e2]
    have n5 : (y.kind != 5) = true := bne_iff_ne.2 h5
    clear h5 hy hj e1 e2 hpo
    go_enter Try.func47, Try.ntmps47
    go_wp2_with fail
    go_ret2
    exact ⟨rfl, HB2.out⟩
  have hnx : x.name.size ≤ 10 := (nameB_L (hpo.1 h5).1).2
  have hps := pathS_size hrows hjl
  have HC := Lib.hid (HIH.out j w2 hjk H2.out)
  have HNO := Lib.hid (fun hb => path_no HX.out hj hjk hy h5 hb)
  have HYES := Lib.hid (fun hb => path_yes hrows HX.out hj hjk hy h5 hb)
  rw [h5] at k0
  unfold PathO at HC
  clear hy hj h5 hpo
  generalize pathS L j = p at *
  generalize pathB L j = pb at *
  cases pb with
  | false =>
    obtain ⟨e1, e2⟩ := HNO.out rfl
    rw [e1, e2]
    clear e1 e2 HNO HYES
    go_enter Try.func47, Try.ntmps47
    go_wp2_with fail
    refine HC.out.mono ?_
    rintro e w3 ⟨rfl, hb⟩
    have HB3 := Lib.hid (HB2.out.trans (hb.mono HB2.out.size))
    clear hb
    go_wp2_with fail
    go_ret2
    exact ⟨rfl, HB3.out⟩
  | true =>
    obtain ⟨e1, e2⟩ := HYES.out rfl
    rw [e1, e2]
    clear e1 e2 HNO HYES
    cases hpe : p.toList.isEmpty with
    | true =>
      rw [if_pos rfl]
      go_enter Try.func47, Try.ntmps47
      go_wp2_with fail
      refine HC.out.mono ?_
      rintro e w3 ⟨rfl, hb⟩
      have HB3 := Lib.hid (HB2.out.trans (hb.mono HB2.out.size))
      have z1 := below_later hb y1
      clear hb
      go_wp2_with fail
      go_ret2
      exact ⟨rfl, HB3.out⟩
    | false =>
      rw [if_neg (by simp)]
      have s1 : ¬ 9223372036854775807 < p.size + (⟨#[46]⟩ : ByteArray).size := by show ¬ _ < p.size + 1; omega
      have s2 : ¬ 9223372036854775807 < (p ++ ⟨#[46]⟩).size + x.name.size := by rw [ByteArray.size_append]; show ¬ _ < p.size + 1 + _; omega
      go_enter Try.func47, Try.ntmps47
      go_wp2_with fail
      refine HC.out.mono ?_
      rintro e w3 ⟨rfl, hb⟩
      have HB3 := Lib.hid (HB2.out.trans (hb.mono HB2.out.size))
      have z1 := below_later hb y1
      clear hb
      go_wp2_with fail
      go_ret2
      exact ⟨rfl, HB3.out⟩
theorem spec_l3Path {B : Nat} {L : List Ty} {a : Option Addr} {cap : Nat} (hrows : RowsOK L) (h30 : L.length ≤ 30) : ∀ (f k : Nat) (w : World), k ≤ f → k < L.length → Sch B w L a cap → Calls Try.prog 47 #[.agg #[.slice a L.length cap], .int .i64 (k : Int)] w (PathO L k w)
  | 0, k, w, hf, hk, h => spec_l3Path_one h hrows h30 k hk (fun j wx h1 _ => by omega)
  | f + 1, k, w, hf, hk, h => spec_l3Path_one h hrows h30 k hk (fun j wx h1 h2 => spec_l3Path hrows h30 f j wx (by omega) (by omega) h2)
end Go.Proofs.Ytmlnecopbncdbaa
