/- Paths of types: the program's walk. -/
import Derived.Test.YtmlnecopbncdbaaPa1
namespace Go.Proofs.Ytmlnecopbncdbaa
set_option linter.unusedVariables false
set_option linter.unusedSimpArgs false
open Go.ChangeShapes Go.WideShapes Go.ChangeAt Go.RowKit
set_option maxRecDepth 100000

theorem joinD_put (n : ByteArray) (l : List ByteArray) (hl : ∀ a ∈ l, nameB a = true) : joinD (n :: l) = if (joinD l).toList.isEmpty = true then n ++ joinD l else n ++ (⟨#[46]⟩ ++ joinD l) := by
  rw [joinD_cons]
  by_cases h : l = []
  · subst h
    rw [if_pos rfl, joinD_nil, if_pos (by rw [isEm]; rfl)]
    apply bL_inj
    rw [bL_app]
    show bL n = bL n ++ []
    rw [List.append_nil]
  · rw [if_neg h, if_neg]
    rw [isEm, decide_eq_true_iff]
    intro hz
    refine joinD_ne hl h ?_
    apply bL_inj
    have : (bL (joinD l)).length = 0 := by rw [bL_len]; exact hz
    rw [List.length_eq_zero_iff.1 this]; rfl
/-- the rest of a path, behind a place on it -/
def RestOf (L : List Ty) (k0 kk : Nat) (out : ByteArray) : Prop :=
  ∃ ms, pathN L k0 = (pathN L kk).map (fun l => l ++ ms) ∧ out = joinD ms ∧ (∀ n ∈ ms, nameB n = true) ∧ ms.length + kk ≤ k0
theorem rest_start (L : List Ty) (k : Nat) : RestOf L k k ⟨#[]⟩ := ⟨[], by simp, rfl, by simp, by simp⟩
theorem rest_size {L : List Ty} {k0 kk : Nat} {out : ByteArray} (h : RestOf L k0 kk out) : out.size + 11 * kk ≤ 11 * k0 := by
  obtain ⟨ms, -, rfl, h3, h4⟩ := h
  have := joinD_size ms (fun n hn => (nameB_L (h3 n hn)).2)
  omega
theorem rest_end {L : List Ty} {k0 : Nat} {out : ByteArray} (h : RestOf L k0 0 out) : pathS L k0 = out ∧ pathB L k0 = true := by
  obtain ⟨ms, h1, rfl, -⟩ := h
  rw [pathN_zero] at h1
  unfold pathS pathB
  rw [h1]
  exact ⟨rfl, rfl⟩
theorem rest_no {L : List Ty} {k0 kk j : Nat} {out : ByteArray} {x y : Ty} (h : RestOf L k0 kk out) (hk : L[kk]? = some x) (hj : x.up = (j : Int)) (hjk : j < kk) (hy : L[j]? = some y) (h5 : ¬ y.kind = 5) : pathS L k0 = ⟨#[]⟩ ∧ pathB L k0 = false := by
  obtain ⟨ms, h1, -⟩ := h
  rw [pathN_step hk hj hjk hy, if_neg h5] at h1
  unfold pathS pathB
  rw [h1]
  exact ⟨rfl, rfl⟩
theorem rest_step {L : List Ty} {k0 kk j : Nat} {out : ByteArray} {x y : Ty} (h : RestOf L k0 kk out) (hk : L[kk]? = some x) (hj : x.up = (j : Int)) (hjk : j < kk) (hy : L[j]? = some y) (h5 : y.kind = 5) (hn : nameB x.name = true) : RestOf L k0 j (if out.toList.isEmpty = true then x.name ++ out else x.name ++ (⟨#[46]⟩ ++ out)) := by
  obtain ⟨ms, h1, rfl, h3, h4⟩ := h
  rw [pathN_step hk hj hjk hy, if_pos h5] at h1
  refine ⟨x.name :: ms, ?_, (joinD_put _ _ h3).symm, fun n hm => ?_, by rw [List.length_cons]; omega⟩
  · rw [h1]
    cases pathN L j with
    | none => rfl
    | some l => simp
  · rcases List.mem_cons.1 hm with rfl | hm
    · exact hn
    · exact h3 n hm
set_option maxHeartbeats 4000000 in
theorem impl_pathOf {B : Nat} {w : World} {L : List Ty} {a : Option Addr} {cap : Nat} (h : Sch B w L a cap) (hrows : RowsOK L) (h30 : L.length ≤ 30) (k : Nat) (hk : k < L.length) :
    Calls Try.prog 46 #[.agg #[.slice a L.length cap], .int .i64 (k : Int)] w (PathO L k w) := by
  have hB1 := Below.alloc (Below.refl w.heap.size w) (Nat.le_refl _) (.cells #[.slice a L.length cap] 28)
  have hX1 := heap_alloc_new w (.cells #[.slice a L.length cap] 28)
  generalize hw1 : w.alloc (.cells #[.slice a L.length cap] 28) = w1 at *
  have l1 := hp_lt hX1
  have HX1 := Lib.hid hX1
  have HB1 := Lib.hid hB1
  have HS1 := Lib.hid (h.keep hB1)
  have HR := Lib.hid hrows
  have hcm := h.hcm
  have hlc := h.hc
  have hBw := h.hB
  unfold PathO
  clear hB1 hX1 h hrows
  generalize hPS : pathS L k = PS at *
  generalize hPB : pathB L k = PB at *
  have HPS := Lib.hid hPS
  have HPB := Lib.hid hPB
  clear hPS hPB
  go_enter Try.func46, Try.ntmps46
  go_wp2_with fail
  go_loopw [1, 6] (fun kv ov wr => ∃ (kk : Nat) (out : ByteArray), kk ≤ k ∧ kv = .int .i64 (kk : Int) ∧ ov = .string out ∧ Hid (RestOf L k kk out) ∧ Hid (Below w1.heap.size w1 wr)) (fun kv _ _ => (intOf kv).toNat)
  case atStart => exact ⟨k, ⟨#[]⟩, Nat.le_refl _, rfl, rfl, Lib.hid (rest_start L k), Lib.hid (Below.refl _ _)⟩
  case round =>
    obtain ⟨wo, rfl⟩ : ∃ z : World, z = wr := ⟨_, rfl⟩
    obtain ⟨kk, out, hkk, rfl, rfl, HRE, HB⟩ := hrel
    have hzo := HB.out.size
    by_cases h0 : kk = 0
    · have hk1 : ¬ ((kk : Int) > 0) := by omega
      have hk2 : ¬ 0 < kk := by omega
      obtain ⟨e1, e2⟩ := rest_end (h0 ▸ HRE.out)
      rw [HPS.out] at e1
      rw [HPB.out] at e2
      subst e1 e2
      clear h0
      go_wp2_with fail
      go_ret2
      exact ⟨rfl, HB1.out.trans (HB.out.mono HB1.out.size)⟩
    have hk1 : ((kk : Int) > 0) := by omega
    have hk2 : 0 < kk := by omega
    obtain ⟨x, hx⟩ : ∃ x, L[kk]? = some x := ⟨L[kk], List.getElem?_eq_getElem (by omega)⟩
    obtain ⟨j, y, hj, hjk, hy, hpo, -⟩ := row_part HR.out hx hk2
    obtain ⟨b, off, rfl, hbl, d0, d1, d2, d3, d4, d5⟩ := tys_cells (HS1.out.keep HB.out).row hx
    obtain ⟨b2, off2, hbe, -, k0, -⟩ := tys_cells (HS1.out.keep HB.out).row hy
    simp only [Option.some.injEq, Addr.mk.injEq, and_true] at hbe
    obtain ⟨rfl, rfl⟩ := hbe
    have hbo : b < wo.heap.size := by omega
    have hx1o : w.heap.size < wo.heap.size := by omega
    have hkl : kk < L.length := by omega
    have hjl : j < L.length := by omega
    have HX := Lib.hid hx
    have HJ := Lib.hid hj
    have HY := Lib.hid hy
    have c1 : wo.cell? ⟨w.heap.size, 0, none⟩ = some (.slice (some ⟨b, off, none⟩) L.length cap) := by simp [World.cell?, hp_later HB.out HX1.out]
    rw [hj] at d4
    have hX2 := heap_alloc_new wo (.cells #[.int .i64 x.kind, .string x.name, .int .i64 x.no, .bool x.must, .int .i64 (j : Int), .int .i64 x.most] 85)
    have HB2 := Lib.hid (HB.out.alloc HB.out.size (.cells #[.int .i64 x.kind, .string x.name, .int .i64 x.no, .bool x.must, .int .i64 (j : Int), .int .i64 x.most] 85))
    have c2 := cell_alloc (.cells #[.int .i64 x.kind, .string x.name, .int .i64 x.no, .bool x.must, .int .i64 (j : Int), .int .i64 x.most] 85) c1
    have k2 := cell_alloc (.cells #[.int .i64 x.kind, .string x.name, .int .i64 x.no, .bool x.must, .int .i64 (j : Int), .int .i64 x.most] 85) k0
    clear hx hj hy
    generalize hw2 : wo.alloc (.cells #[.int .i64 x.kind, .string x.name, .int .i64 x.no, .bool x.must, .int .i64 (j : Int), .int .i64 x.most] 85) = w2 at *
    obtain ⟨y0, y1, y2, y3, y4, y5⟩ := box6 hX2
    clear hX2
    by_cases h5 : y.kind = 5
    case neg =>
      obtain ⟨e1, e2⟩ := rest_no HRE.out HX.out HJ.out hjk HY.out h5
      rw [HPS.out] at e1
      rw [HPB.out] at e2
      subst e1 e2
      have n5 : (y.kind != 5) = true := bne_iff_ne.2 h5
      clear h5
      go_wp2_with fail
      go_ret2
      exact ⟨rfl, HB1.out.trans (HB2.out.mono HB1.out.size)⟩
    have hnn := (hpo.1 h5).1
    have HST := Lib.hid (rest_step HRE.out HX.out HJ.out hjk HY.out h5 hnn)
    have hsz := rest_size HRE.out
    have hnx : x.name.size ≤ 10 := (nameB_L hnn).2
    rw [h5] at k0 k2
    clear h5 hnn hpo
    cases hoe : out.toList.isEmpty with
    | true =>
      rw [hoe, if_pos rfl] at HST
      have s2 : ¬ 9223372036854775807 < x.name.size + out.size := by omega
      go_wp2_with fail
      refine wp_region_G [] (fun w' => w'.cell? ⟨wo.heap.size, 1, none⟩ = some (.string x.name) ∧ w'.cell? ⟨wo.heap.size, 4, none⟩ = some (.int .i64 (j : Int))) (by kernel_rfl) ?_ (fun hHeld => ?_)
      · exact ⟨y1, y4⟩
      refine wpG_pure (i := 0) (oi := { dst := some 27, op := Go.Op.fieldAddr 85 (Go.Operand.tmp 7) 1, type := 0, pos := "l3_text.go:252", after := #[], guard := none }) (v := ?vg1) rfl (by kernel_rfl) (fun _ _ _ h => h) (Or.inr hHeld) (Or.inl ⟨by rfl, ?yg1⟩) ?_
      case yg1 => (intro wS _; go_simp <;> with_reducible rfl)
      try simp only [Act.put, List.setIfInBounds_toArray, List.set_cons_zero, List.set_cons_succ]
      refine wpG_load (i := 1) (oi := { dst := some 28, op := Go.Op.load 9 (Go.Operand.tmp 27), type := 9, pos := "l3_text.go:252", after := #[{ on := 0, ground := Go.Ground.data }], guard := none }) (v := ?vg2) [] rfl (by kernel_rfl) (fun _ _ _ h => h) hHeld (Or.inl ⟨by rfl, ?yg2⟩) ?_
      case yg2 => (intro wS hSw; (try dsimp only at hSw); go_simp <;> with_reducible rfl)
      try simp only [Act.put, List.setIfInBounds_toArray, List.set_cons_zero, List.set_cons_succ]
      refine wpG_pure (i := 2) (oi := { dst := some 29, op := Go.Op.move (Go.Operand.tmp 6), type := 9, pos := "l3_text.go:252", after := #[], guard := none }) (v := ?vg3) rfl (by kernel_rfl) (fun _ _ _ h => h) (Or.inr hHeld) (Or.inl ⟨by rfl, ?yg3⟩) ?_
      case yg3 => (intro wS _; go_simp <;> with_reducible rfl)
      try simp only [Act.put, List.setIfInBounds_toArray, List.set_cons_zero, List.set_cons_succ]
      refine wpG_pure (i := 3) (oi := { dst := some 30, op := Go.Op.binOp Go.BinOp.add 9 (Go.Operand.tmp 28) (Go.Operand.tmp 29) 9, type := 9, pos := "l3_text.go:252", after := #[{ on := 1, ground := Go.Ground.data }, { on := 2, ground := Go.Ground.data }], guard := none }) (v := ?vg4) rfl (by kernel_rfl) (fun _ _ _ h => h) (Or.inr hHeld) (Or.inl ⟨by rfl, ?yg4⟩) ?_
      case yg4 => (intro wS _; go_simp <;> with_reducible rfl)
      try simp only [Act.put, List.setIfInBounds_toArray, List.set_cons_zero, List.set_cons_succ]
      refine wpG_pure (i := 4) (oi := { dst := some 31, op := Go.Op.fieldAddr 85 (Go.Operand.tmp 7) 4, type := 0, pos := "l3_text.go:252", after := #[{ on := 6, ground := Go.Ground.gcOnly Go.Departure.lateStores }], guard := none }) (v := ?vg5) rfl (by kernel_rfl) (fun _ _ _ h => h) (Or.inr hHeld) (Or.inl ⟨by rfl, ?yg5⟩) ?_
      case yg5 => (intro wS _; go_simp <;> with_reducible rfl)
      try simp only [Act.put, List.setIfInBounds_toArray, List.set_cons_zero, List.set_cons_succ]
      refine wpG_load (i := 5) (oi := { dst := some 32, op := Go.Op.load 3 (Go.Operand.tmp 31), type := 3, pos := "l3_text.go:252", after := #[{ on := 4, ground := Go.Ground.data }, { on := 6, ground := Go.Ground.gcOnly Go.Departure.lateStores }], guard := none }) (v := ?vg6) [] rfl (by kernel_rfl) (fun _ _ _ h => h) hHeld (Or.inl ⟨by rfl, ?yg6⟩) ?_
      case yg6 => (intro wS hSw; (try dsimp only at hSw); go_simp <;> with_reducible rfl)
      try simp only [Act.put, List.setIfInBounds_toArray, List.set_cons_zero, List.set_cons_succ]
      refine wpG_pure (i := 6) (oi := { dst := some 6, op := Go.Op.assign (Go.Operand.tmp 30), type := 9, pos := "l3_text.go:252", after := #[{ on := 3, ground := Go.Ground.data }, { on := 0, ground := Go.Ground.phase }, { on := 1, ground := Go.Ground.phase }, { on := 2, ground := Go.Ground.phase }, { on := 3, ground := Go.Ground.phase }, { on := 4, ground := Go.Ground.textOnly Go.Departure.lateStores }, { on := 5, ground := Go.Ground.textOnly Go.Departure.lateStores }], guard := none }) (v := ?vg7) rfl (by kernel_rfl) (fun _ _ _ h => h) (Or.inr hHeld) (Or.inl ⟨by rfl, ?yg7⟩) ?_
      case yg7 => (intro wS _; go_simp <;> with_reducible rfl)
      try simp only [Act.put, List.setIfInBounds_toArray, List.set_cons_zero, List.set_cons_succ]
      refine wpG_pure (i := 7) (oi := { dst := some 1, op := Go.Op.assign (Go.Operand.tmp 32), type := 3, pos := "l3_text.go:252", after := #[{ on := 5, ground := Go.Ground.data }, { on := 6, ground := Go.Ground.chain }, { on := 0, ground := Go.Ground.phase }, { on := 1, ground := Go.Ground.phase }, { on := 2, ground := Go.Ground.phase }, { on := 3, ground := Go.Ground.phase }, { on := 4, ground := Go.Ground.phase }, { on := 5, ground := Go.Ground.phase }, { on := 6, ground := Go.Ground.phase }], guard := none }) (v := ?vg8) rfl (by kernel_rfl) (fun _ _ _ h => h) (Or.inr hHeld) (Or.inl ⟨by rfl, ?yg8⟩) ?_
      case yg8 => (intro wS _; go_simp <;> with_reducible rfl)
      try simp only [Act.put, List.setIfInBounds_toArray, List.set_cons_zero, List.set_cons_succ]
      refine wpG_done (by kernel_rfl) ?_
      go_wp2_with fail
      go_roundw
      case rel => exact ⟨j, _, by omega, rfl, rfl, HST, Lib.hid (HB2.out.drew)⟩
      case measure => (simp [intOf]; try omega)
    | false =>
      rw [hoe, if_neg (by simp)] at HST
      have s3 : ¬ 9223372036854775807 < x.name.size + (1 + out.size) := by omega
      have s1 : ¬ 9223372036854775807 < (⟨#[46]⟩ : ByteArray).size + out.size := by show ¬ _ < 1 + _; omega
      have s2 : ¬ 9223372036854775807 < x.name.size + ((⟨#[46]⟩ : ByteArray) ++ out).size := by rw [ByteArray.size_append]; show ¬ _ < _ + (1 + _); omega
      go_wp2_with fail
      refine wp_region_G [] (fun w' => w'.cell? ⟨wo.heap.size, 1, none⟩ = some (.string x.name) ∧ w'.cell? ⟨wo.heap.size, 4, none⟩ = some (.int .i64 (j : Int))) (by kernel_rfl) ?_ (fun hHeld => ?_)
      · exact ⟨y1, y4⟩
      refine wpG_pure (i := 0) (oi := { dst := some 27, op := Go.Op.fieldAddr 85 (Go.Operand.tmp 7) 1, type := 0, pos := "l3_text.go:252", after := #[], guard := none }) (v := ?vg9) rfl (by kernel_rfl) (fun _ _ _ h => h) (Or.inr hHeld) (Or.inl ⟨by rfl, ?yg9⟩) ?_
      case yg9 => (intro wS _; go_simp <;> with_reducible rfl)
      try simp only [Act.put, List.setIfInBounds_toArray, List.set_cons_zero, List.set_cons_succ]
      refine wpG_load (i := 1) (oi := { dst := some 28, op := Go.Op.load 9 (Go.Operand.tmp 27), type := 9, pos := "l3_text.go:252", after := #[{ on := 0, ground := Go.Ground.data }], guard := none }) (v := ?vg10) [] rfl (by kernel_rfl) (fun _ _ _ h => h) hHeld (Or.inl ⟨by rfl, ?yg10⟩) ?_
      case yg10 => (intro wS hSw; (try dsimp only at hSw); go_simp <;> with_reducible rfl)
      try simp only [Act.put, List.setIfInBounds_toArray, List.set_cons_zero, List.set_cons_succ]
      refine wpG_pure (i := 2) (oi := { dst := some 29, op := Go.Op.move (Go.Operand.tmp 6), type := 9, pos := "l3_text.go:252", after := #[], guard := none }) (v := ?vg11) rfl (by kernel_rfl) (fun _ _ _ h => h) (Or.inr hHeld) (Or.inl ⟨by rfl, ?yg11⟩) ?_
      case yg11 => (intro wS _; go_simp <;> with_reducible rfl)
      try simp only [Act.put, List.setIfInBounds_toArray, List.set_cons_zero, List.set_cons_succ]
      refine wpG_pure (i := 3) (oi := { dst := some 30, op := Go.Op.binOp Go.BinOp.add 9 (Go.Operand.tmp 28) (Go.Operand.tmp 29) 9, type := 9, pos := "l3_text.go:252", after := #[{ on := 1, ground := Go.Ground.data }, { on := 2, ground := Go.Ground.data }], guard := none }) (v := ?vg12) rfl (by kernel_rfl) (fun _ _ _ h => h) (Or.inr hHeld) (Or.inl ⟨by rfl, ?yg12⟩) ?_
      case yg12 => (intro wS _; go_simp <;> with_reducible rfl)
      try simp only [Act.put, List.setIfInBounds_toArray, List.set_cons_zero, List.set_cons_succ]
      refine wpG_pure (i := 4) (oi := { dst := some 31, op := Go.Op.fieldAddr 85 (Go.Operand.tmp 7) 4, type := 0, pos := "l3_text.go:252", after := #[{ on := 6, ground := Go.Ground.gcOnly Go.Departure.lateStores }], guard := none }) (v := ?vg13) rfl (by kernel_rfl) (fun _ _ _ h => h) (Or.inr hHeld) (Or.inl ⟨by rfl, ?yg13⟩) ?_
      case yg13 => (intro wS _; go_simp <;> with_reducible rfl)
      try simp only [Act.put, List.setIfInBounds_toArray, List.set_cons_zero, List.set_cons_succ]
      refine wpG_load (i := 5) (oi := { dst := some 32, op := Go.Op.load 3 (Go.Operand.tmp 31), type := 3, pos := "l3_text.go:252", after := #[{ on := 4, ground := Go.Ground.data }, { on := 6, ground := Go.Ground.gcOnly Go.Departure.lateStores }], guard := none }) (v := ?vg14) [] rfl (by kernel_rfl) (fun _ _ _ h => h) hHeld (Or.inl ⟨by rfl, ?yg14⟩) ?_
      case yg14 => (intro wS hSw; (try dsimp only at hSw); go_simp <;> with_reducible rfl)
      try simp only [Act.put, List.setIfInBounds_toArray, List.set_cons_zero, List.set_cons_succ]
      refine wpG_pure (i := 6) (oi := { dst := some 6, op := Go.Op.assign (Go.Operand.tmp 30), type := 9, pos := "l3_text.go:252", after := #[{ on := 3, ground := Go.Ground.data }, { on := 0, ground := Go.Ground.phase }, { on := 1, ground := Go.Ground.phase }, { on := 2, ground := Go.Ground.phase }, { on := 3, ground := Go.Ground.phase }, { on := 4, ground := Go.Ground.textOnly Go.Departure.lateStores }, { on := 5, ground := Go.Ground.textOnly Go.Departure.lateStores }], guard := none }) (v := ?vg15) rfl (by kernel_rfl) (fun _ _ _ h => h) (Or.inr hHeld) (Or.inl ⟨by rfl, ?yg15⟩) ?_
      case yg15 => (intro wS _; go_simp <;> with_reducible rfl)
      try simp only [Act.put, List.setIfInBounds_toArray, List.set_cons_zero, List.set_cons_succ]
      refine wpG_pure (i := 7) (oi := { dst := some 1, op := Go.Op.assign (Go.Operand.tmp 32), type := 3, pos := "l3_text.go:252", after := #[{ on := 5, ground := Go.Ground.data }, { on := 6, ground := Go.Ground.chain }, { on := 0, ground := Go.Ground.phase }, { on := 1, ground := Go.Ground.phase }, { on := 2, ground := Go.Ground.phase }, { on := 3, ground := Go.Ground.phase }, { on := 4, ground := Go.Ground.phase }, { on := 5, ground := Go.Ground.phase }, { on := 6, ground := Go.Ground.phase }], guard := none }) (v := ?vg16) rfl (by kernel_rfl) (fun _ _ _ h => h) (Or.inr hHeld) (Or.inl ⟨by rfl, ?yg16⟩) ?_
      case yg16 => (intro wS _; go_simp <;> with_reducible rfl)
      try simp only [Act.put, List.setIfInBounds_toArray, List.set_cons_zero, List.set_cons_succ]
      refine wpG_done (by kernel_rfl) ?_
      go_wp2_with fail
      go_roundw
      case rel => exact ⟨j, _, by omega, rfl, rfl, HST, Lib.hid (HB2.out.drew)⟩
      case measure => (simp [intOf]; try omega)
end Go.Proofs.Ytmlnecopbncdbaa
