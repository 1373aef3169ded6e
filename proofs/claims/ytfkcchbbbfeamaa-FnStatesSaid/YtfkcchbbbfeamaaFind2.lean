/- The contracts of the comparison that FindWords hands to the sort, and of the sort's parts over rows that are in order: they write nothing. -/
import Derived.Test.YtfkcchbbbfeamaaFind1
namespace Go.Proofs.Ytfkcchbbbfeamaa
set_option linter.unusedVariables false
open Go.ChangeShapes Go.WideShapes Go.ChangeAt Go.RowKit
set_option maxRecDepth 100000

set_option maxHeartbeats 4000000 in
theorem clo_cmp (bw : Nat) (a : Option Addr) (cap : Nat) (ws : List ByteArray) (x y : Fd) (w : World) (hbox : w.cell? ⟨bw, 0, none⟩ = some (.slice a ws.length cap)) (hrow : Rw w a (strs ws)) (hx : okF ws x) (hy : okF ws y) (hsz : ∀ s ∈ ws, 1 ≤ s.size ∧ s.size ≤ 20) (hl : ws.length ≤ 8) :
    Calls Try.prog 67 #[.agg #[.int .i64 x.1, .int .i64 x.2], .agg #[.int .i64 y.1, .int .i64 y.2], .pointer (some ⟨bw, 0, none⟩)] w fun e w' => e = .returned (.int .i64 (cmpF ws x y)) ∧ Below w.heap.size w w' := by
  obtain ⟨x1, x2⟩ := x
  obtain ⟨y1, y2⟩ := y
  obtain ⟨hx0, hx3, hx4, hx5⟩ := hx
  obtain ⟨hy0, hy3, hy4, hy5⟩ := hy
  simp only at hx0 hx3 hx4 hx5 hy0 hy3 hy4 hy5
  obtain ⟨i, rfl⟩ : ∃ i : Nat, x2 = (i : Int) := ⟨x2.toNat, by omega⟩
  obtain ⟨j, rfl⟩ : ∃ j : Nat, y2 = (j : Int) := ⟨y2.toNat, by omega⟩
  have hi : i < ws.length := by omega
  have hj : j < ws.length := by omega
  obtain ⟨b, off, rfl, hbl, hc⟩ := hrow.at (strs_ne hi)
  have s1 := hc i _ (strs_at ws i hi)
  have s2 := hc j _ (strs_at ws j hj)
  have z1 := (hsz (ws.getD i ByteArray.empty) (by rw [List.getD, List.getElem?_eq_getElem hi]; exact List.getElem_mem hi)).2
  have z2 := (hsz (ws.getD j ByteArray.empty) (by rw [List.getD, List.getElem?_eq_getElem hj]; exact List.getElem_mem hj)).2
  have hbw := World.block_lt_of_cell? w _ hbox
  unfold cmpF keyF
  simp only [Int.toNat_natCast]
  clear hc hrow hsz
  generalize ws.getD i ByteArray.empty = u at *
  generalize ws.getD j ByteArray.empty = v at *
  have hb2 : Below w.heap.size w ((w.alloc (.cells #[.int .i64 x1, .int .i64 (i : Int)] 62)).alloc (.cells #[.int .i64 y1, .int .i64 (j : Int)] 62)) := ((Below.refl _ _).alloc (Nat.le_refl _) _).alloc (by simp) _
  have k1 := below_later hb2 hbox
  have k2 := below_later hb2 s1
  have k3 := below_later hb2 s2
  have a0 : ((w.alloc (.cells #[.int .i64 x1, .int .i64 (i : Int)] 62)).alloc (.cells #[.int .i64 y1, .int .i64 (j : Int)] 62)).cell? ⟨w.heap.size, 0, none⟩ = some (.int .i64 x1) := by go_simp
  have a1 : ((w.alloc (.cells #[.int .i64 x1, .int .i64 (i : Int)] 62)).alloc (.cells #[.int .i64 y1, .int .i64 (j : Int)] 62)).cell? ⟨w.heap.size, 1, none⟩ = some (.int .i64 (i : Int)) := by go_simp
  have b0 : ((w.alloc (.cells #[.int .i64 x1, .int .i64 (i : Int)] 62)).alloc (.cells #[.int .i64 y1, .int .i64 (j : Int)] 62)).cell? ⟨w.heap.size + 1, 0, none⟩ = some (.int .i64 y1) := by go_simp
  have b1 : ((w.alloc (.cells #[.int .i64 x1, .int .i64 (i : Int)] 62)).alloc (.cells #[.int .i64 y1, .int .i64 (j : Int)] 62)).cell? ⟨w.heap.size + 1, 1, none⟩ = some (.int .i64 (j : Int)) := by go_simp
  have e1 : IntKind.i64.wrap (x1 + (u.size : Int)) = x1 + (u.size : Int) := IntWalk.i64_in _ (by omega)
  have e2 : IntKind.i64.wrap (y1 + (v.size : Int)) = y1 + (v.size : Int) := IntWalk.i64_in _ (by omega)
  have HB2 := Lib.hid hb2
  clear hb2 hbox s1 s2 hbl
  have HK1 := Lib.hid (fun wx => compare_int (x1 + (u.size : Int)) (y1 + (v.size : Int)) wx)
  have HK2 := Lib.hid (fun wx => compare_int (i : Int) (j : Int) wx)
  generalize cmpI (x1 + (u.size : Int)) (y1 + (v.size : Int)) = c1 at *
  generalize cmpI (i : Int) (j : Int) = c2 at *
  go_enter Try.func67, Try.ntmps67
  go_wp2_with fail
  generalize (w.alloc (.cells #[.int .i64 x1, .int .i64 (i : Int)] 62)).alloc (.cells #[.int .i64 y1, .int .i64 (j : Int)] 62) = w2 at *
  have HC1 := Lib.hid (HK1.out w2.drew)
  have HC2 := Lib.hid (HK2.out w2.drew)
  have HOR := Lib.hid (or_int w2.heap.size c1 c2 (w2.alloc (.cells #[.int .i64 c1, .int .i64 c2] 3)).drew (by show (w2.alloc _).cell? _ = _; rw [World.cell?_alloc_new]; rfl) (by show (w2.alloc _).cell? _ = _; rw [World.cell?_alloc_new]; rfl))
  refine wp_region_G [23] (fun w' => w'.cell? ⟨w.heap.size, 0, none⟩ = some (.int .i64 x1) ∧ w'.cell? ⟨w.heap.size, 1, none⟩ = some (.int .i64 (i : Int)) ∧ w'.cell? ⟨w.heap.size + 1, 0, none⟩ = some (.int .i64 y1) ∧ w'.cell? ⟨w.heap.size + 1, 1, none⟩ = some (.int .i64 (j : Int)) ∧ w'.cell? ⟨bw, 0, none⟩ = some (.slice (some ⟨b, off, none⟩) ws.length cap) ∧ w'.cell? ⟨b, off + i, none⟩ = some (.string u) ∧ w'.cell? ⟨b, off + j, none⟩ = some (.string v)) (by kernel_rfl) ?_ (fun hHeld => ?_)
  · exact ⟨a0, a1, b0, b1, k1, k2, k3⟩
  refine wpG_pure (i := 0) (oi := { dst := some 6, op := Go.Op.fieldAddr 62 (Go.Operand.tmp 3) 0, type := 0, pos := "l11_search.go:147", after := #[], guard := none }) (v := ?vg1) rfl (by kernel_rfl) (fun _ _ _ h => h) (Or.inr hHeld) (Or.inl ⟨by rfl, ?yg1⟩) ?_
  case yg1 => (intro wS _; go_simp <;> with_reducible rfl)
  try simp only [Act.put, List.setIfInBounds_toArray, List.set_cons_zero, List.set_cons_succ]
  refine wpG_load (i := 1) (oi := { dst := some 7, op := Go.Op.load 3 (Go.Operand.tmp 6), type := 3, pos := "l11_search.go:147", after := #[{ on := 0, ground := Go.Ground.data }], guard := none }) (v := ?vg2) [[23, 18, 8, 1]] rfl (by kernel_rfl) (fun _ _ _ h => h) hHeld (Or.inl ⟨by rfl, ?yg2⟩) ?_
  case yg2 => (intro wS hSw; (try dsimp only at hSw); go_simp <;> with_reducible rfl)
  try simp only [Act.put, List.setIfInBounds_toArray, List.set_cons_zero, List.set_cons_succ]
  refine wpG_load (i := 2) (oi := { dst := some 8, op := Go.Op.load 39 (Go.Operand.tmp 2), type := 39, pos := "l11_search.go:147", after := #[], guard := none }) (v := ?vg3) [[23, 18, 8, 7, 6, 5, 2]] rfl (by kernel_rfl) (fun _ _ _ h => h) hHeld (Or.inl ⟨by rfl, ?yg3⟩) ?_
  case yg3 => (intro wS hSw; (try dsimp only at hSw); go_simp <;> with_reducible rfl)
  try simp only [Act.put, List.setIfInBounds_toArray, List.set_cons_zero, List.set_cons_succ]
  refine wpG_pure (i := 3) (oi := { dst := some 9, op := Go.Op.fieldAddr 62 (Go.Operand.tmp 3) 1, type := 0, pos := "l11_search.go:147", after := #[], guard := none }) (v := ?vg4) rfl (by kernel_rfl) (fun _ _ _ h => h) (Or.inr hHeld) (Or.inl ⟨by rfl, ?yg4⟩) ?_
  case yg4 => (intro wS _; go_simp <;> with_reducible rfl)
  try simp only [Act.put, List.setIfInBounds_toArray, List.set_cons_zero, List.set_cons_succ]
  refine wpG_load (i := 4) (oi := { dst := some 10, op := Go.Op.load 3 (Go.Operand.tmp 9), type := 3, pos := "l11_search.go:147", after := #[{ on := 3, ground := Go.Ground.data }], guard := none }) (v := ?vg5) [[23, 18, 8, 7, 6, 5, 4]] rfl (by kernel_rfl) (fun _ _ _ h => h) hHeld (Or.inl ⟨by rfl, ?yg5⟩) ?_
  case yg5 => (intro wS hSw; (try dsimp only at hSw); go_simp <;> with_reducible rfl)
  try simp only [Act.put, List.setIfInBounds_toArray, List.set_cons_zero, List.set_cons_succ]
  refine wpG_pure (i := 5) (oi := { dst := some 11, op := Go.Op.indexAddr 39 (Go.Operand.tmp 8) (Go.Operand.tmp 10), type := 0, pos := "l11_search.go:147", after := #[{ on := 2, ground := Go.Ground.data }, { on := 4, ground := Go.Ground.data }], guard := none }) (v := ?vg6) rfl (by kernel_rfl) (fun _ _ _ h => h) (Or.inr hHeld) (Or.inl ⟨by rfl, ?yg6⟩) ?_
  case yg6 => (intro wS _; go_simp <;> with_reducible rfl)
  try simp only [Act.put, List.setIfInBounds_toArray, List.set_cons_zero, List.set_cons_succ]
  refine wpG_load (i := 6) (oi := { dst := some 12, op := Go.Op.load 9 (Go.Operand.tmp 11), type := 9, pos := "l11_search.go:147", after := #[{ on := 5, ground := Go.Ground.data }], guard := none }) (v := ?vg7) [[23, 18, 8, 7, 6]] rfl (by kernel_rfl) (fun _ _ _ h => h) hHeld (Or.inl ⟨by rfl, ?yg7⟩) ?_
  case yg7 => (intro wS hSw; (try dsimp only at hSw); go_simp <;> with_reducible rfl)
  try simp only [Act.put, List.setIfInBounds_toArray, List.set_cons_zero, List.set_cons_succ]
  refine wpG_pure (i := 7) (oi := { dst := some 13, op := Go.Op.call { callee := Go.Callee.builtin Go.Builtin.len, args := #[Go.Operand.tmp 12], argTypes := #[9] }, type := 3, pos := "l11_search.go:147", after := #[{ on := 6, ground := Go.Ground.data }], guard := none }) (v := ?vg8) rfl (by kernel_rfl) (fun _ _ _ h => h) (Or.inr hHeld) (Or.inl ⟨by rfl, ?yg8⟩) ?_
  case yg8 => (intro wS _; go_simp <;> with_reducible rfl)
  try simp only [Act.put, List.setIfInBounds_toArray, List.set_cons_zero, List.set_cons_succ]
  refine wpG_pure (i := 8) (oi := { dst := some 14, op := Go.Op.binOp Go.BinOp.add 3 (Go.Operand.tmp 7) (Go.Operand.tmp 13) 3, type := 3, pos := "l11_search.go:147", after := #[{ on := 1, ground := Go.Ground.data }, { on := 7, ground := Go.Ground.data }], guard := none }) (v := ?vg9) rfl (by kernel_rfl) (fun _ _ _ h => h) (Or.inr hHeld) (Or.inl ⟨by rfl, ?yg9⟩) ?_
  case yg9 => (intro wS _; go_simp <;> with_reducible rfl)
  try simp only [Act.put, List.setIfInBounds_toArray, List.set_cons_zero, List.set_cons_succ]
  refine wpG_pure (i := 9) (oi := { dst := some 15, op := Go.Op.fieldAddr 62 (Go.Operand.tmp 4) 0, type := 0, pos := "l11_search.go:147", after := #[], guard := none }) (v := ?vg10) rfl (by kernel_rfl) (fun _ _ _ h => h) (Or.inr hHeld) (Or.inl ⟨by rfl, ?yg10⟩) ?_
  case yg10 => (intro wS _; go_simp <;> with_reducible rfl)
  try simp only [Act.put, List.setIfInBounds_toArray, List.set_cons_zero, List.set_cons_succ]
  refine wpG_load (i := 10) (oi := { dst := some 16, op := Go.Op.load 3 (Go.Operand.tmp 15), type := 3, pos := "l11_search.go:147", after := #[{ on := 9, ground := Go.Ground.data }], guard := none }) (v := ?vg11) [[23, 18, 17, 10]] rfl (by kernel_rfl) (fun _ _ _ h => h) hHeld (Or.inl ⟨by rfl, ?yg11⟩) ?_
  case yg11 => (intro wS hSw; (try dsimp only at hSw); go_simp <;> with_reducible rfl)
  try simp only [Act.put, List.setIfInBounds_toArray, List.set_cons_zero, List.set_cons_succ]
  refine wpG_load (i := 11) (oi := { dst := some 17, op := Go.Op.load 39 (Go.Operand.tmp 2), type := 39, pos := "l11_search.go:147", after := #[], guard := none }) (v := ?vg12) [[23, 18, 17, 16, 15, 14, 11]] rfl (by kernel_rfl) (fun _ _ _ h => h) hHeld (Or.inl ⟨by rfl, ?yg12⟩) ?_
  case yg12 => (intro wS hSw; (try dsimp only at hSw); go_simp <;> with_reducible rfl)
  try simp only [Act.put, List.setIfInBounds_toArray, List.set_cons_zero, List.set_cons_succ]
  refine wpG_pure (i := 12) (oi := { dst := some 18, op := Go.Op.fieldAddr 62 (Go.Operand.tmp 4) 1, type := 0, pos := "l11_search.go:147", after := #[], guard := none }) (v := ?vg13) rfl (by kernel_rfl) (fun _ _ _ h => h) (Or.inr hHeld) (Or.inl ⟨by rfl, ?yg13⟩) ?_
  case yg13 => (intro wS _; go_simp <;> with_reducible rfl)
  try simp only [Act.put, List.setIfInBounds_toArray, List.set_cons_zero, List.set_cons_succ]
  refine wpG_load (i := 13) (oi := { dst := some 19, op := Go.Op.load 3 (Go.Operand.tmp 18), type := 3, pos := "l11_search.go:147", after := #[{ on := 12, ground := Go.Ground.data }], guard := none }) (v := ?vg14) [[23, 18, 17, 16, 15, 14, 13]] rfl (by kernel_rfl) (fun _ _ _ h => h) hHeld (Or.inl ⟨by rfl, ?yg14⟩) ?_
  case yg14 => (intro wS hSw; (try dsimp only at hSw); go_simp <;> with_reducible rfl)
  try simp only [Act.put, List.setIfInBounds_toArray, List.set_cons_zero, List.set_cons_succ]
  refine wpG_pure (i := 14) (oi := { dst := some 20, op := Go.Op.indexAddr 39 (Go.Operand.tmp 17) (Go.Operand.tmp 19), type := 0, pos := "l11_search.go:147", after := #[{ on := 11, ground := Go.Ground.data }, { on := 13, ground := Go.Ground.data }], guard := none }) (v := ?vg15) rfl (by kernel_rfl) (fun _ _ _ h => h) (Or.inr hHeld) (Or.inl ⟨by rfl, ?yg15⟩) ?_
  case yg15 => (intro wS _; go_simp <;> with_reducible rfl)
  try simp only [Act.put, List.setIfInBounds_toArray, List.set_cons_zero, List.set_cons_succ]
  refine wpG_load (i := 15) (oi := { dst := some 21, op := Go.Op.load 9 (Go.Operand.tmp 20), type := 9, pos := "l11_search.go:147", after := #[{ on := 14, ground := Go.Ground.data }], guard := none }) (v := ?vg16) [[23, 18, 17, 16, 15]] rfl (by kernel_rfl) (fun _ _ _ h => h) hHeld (Or.inl ⟨by rfl, ?yg16⟩) ?_
  case yg16 => (intro wS hSw; (try dsimp only at hSw); go_simp <;> with_reducible rfl)
  try simp only [Act.put, List.setIfInBounds_toArray, List.set_cons_zero, List.set_cons_succ]
  refine wpG_pure (i := 16) (oi := { dst := some 22, op := Go.Op.call { callee := Go.Callee.builtin Go.Builtin.len, args := #[Go.Operand.tmp 21], argTypes := #[9] }, type := 3, pos := "l11_search.go:147", after := #[{ on := 15, ground := Go.Ground.data }], guard := none }) (v := ?vg17) rfl (by kernel_rfl) (fun _ _ _ h => h) (Or.inr hHeld) (Or.inl ⟨by rfl, ?yg17⟩) ?_
  case yg17 => (intro wS _; go_simp <;> with_reducible rfl)
  try simp only [Act.put, List.setIfInBounds_toArray, List.set_cons_zero, List.set_cons_succ]
  refine wpG_pure (i := 17) (oi := { dst := some 23, op := Go.Op.binOp Go.BinOp.add 3 (Go.Operand.tmp 16) (Go.Operand.tmp 22) 3, type := 3, pos := "l11_search.go:147", after := #[{ on := 10, ground := Go.Ground.data }, { on := 16, ground := Go.Ground.data }], guard := none }) (v := ?vg18) rfl (by kernel_rfl) (fun _ _ _ h => h) (Or.inr hHeld) (Or.inl ⟨by rfl, ?yg18⟩) ?_
  case yg18 => (intro wS _; go_simp <;> with_reducible rfl)
  try simp only [Act.put, List.setIfInBounds_toArray, List.set_cons_zero, List.set_cons_succ]
  refine wpG_pure (i := 19) (oi := { dst := some 25, op := Go.Op.fieldAddr 62 (Go.Operand.tmp 3) 1, type := 0, pos := "l11_search.go:147", after := #[], guard := none }) (v := ?vg19) rfl (by kernel_rfl) (fun _ _ _ h => h) (Or.inr hHeld) (Or.inl ⟨by rfl, ?yg19⟩) ?_
  case yg19 => (intro wS _; go_simp <;> with_reducible rfl)
  try simp only [Act.put, List.setIfInBounds_toArray, List.set_cons_zero, List.set_cons_succ]
  refine wpG_load (i := 20) (oi := { dst := some 26, op := Go.Op.load 3 (Go.Operand.tmp 25), type := 3, pos := "l11_search.go:147", after := #[{ on := 19, ground := Go.Ground.data }], guard := none }) (v := ?vg20) [[23, 20]] rfl (by kernel_rfl) (fun _ _ _ h => h) hHeld (Or.inl ⟨by rfl, ?yg20⟩) ?_
  case yg20 => (intro wS hSw; (try dsimp only at hSw); go_simp <;> with_reducible rfl)
  try simp only [Act.put, List.setIfInBounds_toArray, List.set_cons_zero, List.set_cons_succ]
  refine wpG_pure (i := 21) (oi := { dst := some 27, op := Go.Op.fieldAddr 62 (Go.Operand.tmp 4) 1, type := 0, pos := "l11_search.go:147", after := #[], guard := none }) (v := ?vg21) rfl (by kernel_rfl) (fun _ _ _ h => h) (Or.inr hHeld) (Or.inl ⟨by rfl, ?yg21⟩) ?_
  case yg21 => (intro wS _; go_simp <;> with_reducible rfl)
  try simp only [Act.put, List.setIfInBounds_toArray, List.set_cons_zero, List.set_cons_succ]
  refine wpG_load (i := 22) (oi := { dst := some 28, op := Go.Op.load 3 (Go.Operand.tmp 27), type := 3, pos := "l11_search.go:147", after := #[{ on := 21, ground := Go.Ground.data }], guard := none }) (v := ?vg22) [[23, 22]] rfl (by kernel_rfl) (fun _ _ _ h => h) hHeld (Or.inl ⟨by rfl, ?yg22⟩) ?_
  case yg22 => (intro wS hSw; (try dsimp only at hSw); go_simp <;> with_reducible rfl)
  try simp only [Act.put, List.setIfInBounds_toArray, List.set_cons_zero, List.set_cons_succ]
  refine wpG_one (i := 18) (o := { dst := some 24, op := Go.Op.call { callee := Go.Callee.value (Go.Operand.func 69), args := #[Go.Operand.tmp 14, Go.Operand.tmp 23], argTypes := #[3, 3] }, type := 3, pos := "l11_search.go:147", after := #[{ on := 8, ground := Go.Ground.data }, { on := 17, ground := Go.Ground.data }], guard := none }) rfl (by kernel_rfl) (fun K hK => ?_)
  go_simp
  refine HC1.out.mono ?_
  rintro e w' ⟨rfl, rfl⟩
  refine hK.out _ _ (Or.inr ?khHeld23) (fun hHeld23S => ?_)
  case khHeld23 => exact ⟨a0, a1, b0, b1, k1, k2, k3⟩
  have hHeld23 := hHeld23S.held (by kernel_rfl)
  clear hK K
  try simp only [Act.put, List.setIfInBounds_toArray, List.set_cons_zero, List.set_cons_succ]
  refine wpG_one (i := 23) (o := { dst := some 29, op := Go.Op.call { callee := Go.Callee.value (Go.Operand.func 69), args := #[Go.Operand.tmp 26, Go.Operand.tmp 28], argTypes := #[3, 3] }, type := 3, pos := "l11_search.go:147", after := #[{ on := 20, ground := Go.Ground.data }, { on := 22, ground := Go.Ground.data }, { on := 18, ground := Go.Ground.chain }], guard := none }) rfl (by kernel_rfl) (fun K hK => ?_)
  go_simp
  refine HC2.out.mono ?_
  rintro e w' ⟨rfl, rfl⟩
  refine hK.out _ _ (Or.inl (by kernel_rfl)) (fun _ => ?_)
  clear hK K
  try simp only [Act.put, List.setIfInBounds_toArray, List.set_cons_zero, List.set_cons_succ]
  refine wpG_one (i := 24) (o := { dst := some 30, op := Go.Op.buildSlice 25 2 #[(0, Go.Operand.tmp 24), (1, Go.Operand.tmp 29)], type := 25, pos := "l11_search.go:147", after := #[{ on := 18, ground := Go.Ground.data }, { on := 23, ground := Go.Ground.data }], guard := none }) rfl (by kernel_rfl) (fun K hK => ?_)
  go_simp
  refine hK.out _ _ (Or.inl (by kernel_rfl)) (fun _ => ?_)
  clear hK K
  try simp only [Act.put, List.setIfInBounds_toArray, List.set_cons_zero, List.set_cons_succ]
  refine wpG_one (i := 25) (o := { dst := some 31, op := Go.Op.call { callee := Go.Callee.value (Go.Operand.func 68), args := #[Go.Operand.tmp 30], argTypes := #[25] }, type := 3, pos := "l11_search.go:147", after := #[{ on := 24, ground := Go.Ground.data }, { on := 23, ground := Go.Ground.chain }], guard := none }) rfl (by kernel_rfl) (fun K hK => ?_)
  go_simp
  refine HOR.out.mono ?_
  rintro e w' ⟨rfl, rfl⟩
  refine hK.out _ _ (Or.inl (by kernel_rfl)) (fun _ => ?_)
  clear hK K
  try simp only [Act.put, List.setIfInBounds_toArray, List.set_cons_zero, List.set_cons_succ]
  refine wpG_pure (i := 26) (oi := { dst := some 5, op := Go.Op.assign (Go.Operand.tmp 31), type := 3, pos := "l11_search.go:147", after := #[{ on := 25, ground := Go.Ground.data }, { on := 25, ground := Go.Ground.chain }, { on := 0, ground := Go.Ground.phase }, { on := 1, ground := Go.Ground.phase }, { on := 2, ground := Go.Ground.phase }, { on := 3, ground := Go.Ground.phase }, { on := 4, ground := Go.Ground.phase }, { on := 5, ground := Go.Ground.phase }, { on := 6, ground := Go.Ground.phase }, { on := 7, ground := Go.Ground.phase }, { on := 8, ground := Go.Ground.phase }, { on := 9, ground := Go.Ground.phase }, { on := 10, ground := Go.Ground.phase }, { on := 11, ground := Go.Ground.phase }, { on := 12, ground := Go.Ground.phase }, { on := 13, ground := Go.Ground.phase }, { on := 14, ground := Go.Ground.phase }, { on := 15, ground := Go.Ground.phase }, { on := 16, ground := Go.Ground.phase }, { on := 17, ground := Go.Ground.phase }, { on := 18, ground := Go.Ground.phase }, { on := 19, ground := Go.Ground.phase }, { on := 20, ground := Go.Ground.phase }, { on := 21, ground := Go.Ground.phase }, { on := 22, ground := Go.Ground.phase }, { on := 23, ground := Go.Ground.phase }, { on := 24, ground := Go.Ground.phase }, { on := 25, ground := Go.Ground.phase }], guard := none }) (v := ?vg27) rfl (by kernel_rfl) (fun _ _ _ h => h) (Or.inl (by kernel_rfl)) (Or.inl ⟨by rfl, ?yg27⟩) ?_
  case yg27 => (intro wS _; go_simp <;> with_reducible rfl)
  try simp only [Act.put, List.setIfInBounds_toArray, List.set_cons_zero, List.set_cons_succ]
  refine wpG_done (by kernel_rfl) ?_
  skip
  go_wp2_with fail
  go_ret
  exact ⟨rfl, rdrew (HB2.out.alloc HB2.out.size _) 1⟩
/-! ### the sort over a row that is in order -/
structure So (w0 : World) (g bw : Nat) (o : List Fd) : Prop where
  row : ∀ wx, Below w0.heap.size w0 wx → ∀ k, k < o.length → wx.cell? ⟨g, k * 2, none⟩ = some (.int .i64 (o.getD k (0, 0)).1) ∧ wx.cell? ⟨g, k * 2 + 1, none⟩ = some (.int .i64 (o.getD k (0, 0)).2)
  cmp : ∀ i j, i ≤ j → j < o.length → ∀ wx, Below w0.heap.size w0 wx → Calls Try.prog 67 #[.agg #[.int .i64 (o.getD j (0, 0)).1, .int .i64 (o.getD j (0, 0)).2], .agg #[.int .i64 (o.getD i (0, 0)).1, .int .i64 (o.getD i (0, 0)).2], .pointer (some ⟨bw, 0, none⟩)] wx fun e w' => ∃ c : Int, e = .returned (.int .i64 c) ∧ 0 ≤ c ∧ Below wx.heap.size wx w'
  len : o.length ≤ 2000
def NoW (w0 : World) (e : Ending) (w' : World) : Prop := e = .returned (.tuple #[]) ∧ Below w0.heap.size w0 w'
set_option maxHeartbeats 2000000 in
theorem sort_ins {w0 : World} {g bw : Nat} {o : List Fd} (hS : So w0 g bw o) (c : Nat) (hc : o.length ≤ c) (hc2 : c ≤ 9223372036854775807) (a b : Nat) (hab : a ≤ b) (hbn : b ≤ o.length) (w : World) (hb : Below w0.heap.size w0 w) :
    Calls Try.prog 81 #[.slice (some ⟨g, 0, none⟩) o.length c, .int .i64 (a : Int), .int .i64 (b : Int), .func (.func 67) #[] #[.pointer (some ⟨bw, 0, none⟩)]] w (NoW w0) := by
  have hln := hS.len
  have HS := Lib.hid hS; have HB := Lib.hid hb
  clear hS hb
  unfold NoW
  go_enter Try.func81, Try.ntmps81
  go_wp2_with fail
  go_loopw [8] (fun iv wr => ∃ i : Nat, a + 1 ≤ i ∧ i ≤ b + 1 ∧ iv = .int .i64 (i : Int) ∧ Hid (Below w0.heap.size w0 wr)) (fun iv _ => b + 1 - (intOf iv).toNat)
  case atStart => exact ⟨a + 1, Nat.le_refl _, by omega, by go_num, HB⟩
  case round =>
    clear HB
    obtain ⟨w1, rfl⟩ : ∃ z : World, z = wr := ⟨_, rfl⟩
    obtain ⟨i, hi1, hi2, rfl, HB⟩ := hrel
    by_cases hib : i < b
    case neg =>
      go_wp2_with fail
      first | (refine bodyPost_ret (results_none rfl _ _ _) rfl ?_) | (refine bodyPost_end (results_none rfl _ _ _) rfl ?_)
      exact ⟨rfl, HB.out⟩
    go_wp2_with fail
    go_loopw [9] (fun jv wr => jv = .int .i64 (i : Int) ∧ Hid (Below w0.heap.size w0 wr)) (fun _ _ => 0)
    case atStart => exact ⟨rfl, HB⟩
    case round =>
      clear HB
      obtain ⟨w2, rfl⟩ : ∃ z : World, z = wr := ⟨_, rfl⟩
      obtain ⟨rfl, HB⟩ := hrel
      obtain ⟨x0, x1⟩ := HS.out.row w2 HB.out i (by omega)
      obtain ⟨y0, y1⟩ := HS.out.row w2 HB.out (i - 1) (by omega)
      have HC := Lib.hid (HS.out.cmp (i - 1) i (by omega) (by omega) w2.drew (rdrew HB.out 1))
      have e1 : IntKind.i64.wrap ((i : Int) - 1) = ((i - 1 : Nat) : Int) := by rw [IntWalk.i64_in _ (by omega)]; omega
      have e2 : (i : Int) - 1 = ((i - 1 : Nat) : Int) := by omega
      have hai : (a : Int) < (i : Int) := by omega
      have hi3 : i - 1 < o.length := by omega
      have hi4 : i < o.length := by omega
      generalize i - 1 = i1 at *
      have e3 : IntKind.i64.wrap (i1 : Int) = (i1 : Int) := IntWalk.i64_in _ (by omega)
      generalize o.getD i (0, 0) = x at *
      generalize o.getD i1 (0, 0) = y at *
      go_wp2_with fail
      refine wp_region_G [14] (fun w' => w'.cell? ⟨g, i * 2, none⟩ = some (.int .i64 x.1) ∧ w'.cell? ⟨g, i * 2 + 1, none⟩ = some (.int .i64 x.2) ∧ w'.cell? ⟨g, i1 * 2, none⟩ = some (.int .i64 y.1) ∧ w'.cell? ⟨g, i1 * 2 + 1, none⟩ = some (.int .i64 y.2)) (by kernel_rfl) ?_ (fun hHeld => ?_)
      · exact ⟨x0, x1, y0, y1⟩
      refine wpG_pure (i := 0) (oi := { dst := some 18, op := Go.Op.move (Go.Operand.tmp 9), type := 3, pos := "zsortanyfunc.go:12", after := #[], guard := none }) (v := ?vg28) rfl (by kernel_rfl) (fun _ _ _ h => h) (Or.inr hHeld) (Or.inl ⟨by rfl, ?yg28⟩) ?_
      case yg28 => (intro wS _; go_simp <;> with_reducible rfl)
      try simp only [Act.put, List.setIfInBounds_toArray, List.set_cons_zero, List.set_cons_succ]
      refine wpG_pure (i := 1) (oi := { dst := some 19, op := Go.Op.move (Go.Operand.tmp 1), type := 3, pos := "zsortanyfunc.go:12", after := #[], guard := none }) (v := ?vg29) rfl (by kernel_rfl) (fun _ _ _ h => h) (Or.inr hHeld) (Or.inl ⟨by rfl, ?yg29⟩) ?_
      case yg29 => (intro wS _; go_simp <;> with_reducible rfl)
      try simp only [Act.put, List.setIfInBounds_toArray, List.set_cons_zero, List.set_cons_succ]
      refine wpG_pure (i := 2) (oi := { dst := some 20, op := Go.Op.binOp Go.BinOp.gtr 3 (Go.Operand.tmp 18) (Go.Operand.tmp 19) 3, type := 4, pos := "zsortanyfunc.go:12", after := #[{ on := 0, ground := Go.Ground.data }, { on := 1, ground := Go.Ground.data }], guard := none }) (v := ?vg30) rfl (by kernel_rfl) (fun _ _ _ h => h) (Or.inr hHeld) (Or.inl ⟨by rfl, ?yg30⟩) ?_
      case yg30 => (intro wS _; go_simp <;> with_reducible rfl)
      try simp only [Act.put, List.setIfInBounds_toArray, List.set_cons_zero, List.set_cons_succ]
      refine wpG_pure (i := 3) (oi := { dst := some 21, op := Go.Op.move (Go.Operand.tmp 20), type := 4, pos := "zsortanyfunc.go:12", after := #[{ on := 2, ground := Go.Ground.data }], guard := none }) (v := ?vg31) rfl (by kernel_rfl) (fun _ _ _ h => h) (Or.inr hHeld) (Or.inl ⟨by rfl, ?yg31⟩) ?_
      case yg31 => (intro wS _; go_simp <;> with_reducible rfl)
      try simp only [Act.put, List.setIfInBounds_toArray, List.set_cons_zero, List.set_cons_succ]
      refine wpG_pure (i := 4) (oi := { dst := some 22, op := Go.Op.move (Go.Operand.tmp 3), type := 92, pos := "zsortanyfunc.go:12", after := #[{ on := 3, ground := Go.Ground.guard }], guard := some (3, true) }) (v := ?vg32) rfl (by kernel_rfl) (fun _ _ _ h => h) (Or.inr hHeld) (Or.inl ⟨by rfl, ?yg32⟩) ?_
      case yg32 => (intro wS _; go_simp <;> with_reducible rfl)
      try simp only [Act.put, List.setIfInBounds_toArray, List.set_cons_zero, List.set_cons_succ]
      refine wpG_pure (i := 5) (oi := { dst := some 23, op := Go.Op.move (Go.Operand.tmp 0), type := 53, pos := "zsortanyfunc.go:12", after := #[{ on := 3, ground := Go.Ground.guard }], guard := some (3, true) }) (v := ?vg33) rfl (by kernel_rfl) (fun _ _ _ h => h) (Or.inr hHeld) (Or.inl ⟨by rfl, ?yg33⟩) ?_
      case yg33 => (intro wS _; go_simp <;> with_reducible rfl)
      try simp only [Act.put, List.setIfInBounds_toArray, List.set_cons_zero, List.set_cons_succ]
      refine wpG_pure (i := 6) (oi := { dst := some 24, op := Go.Op.move (Go.Operand.tmp 9), type := 3, pos := "zsortanyfunc.go:12", after := #[{ on := 3, ground := Go.Ground.guard }], guard := some (3, true) }) (v := ?vg34) rfl (by kernel_rfl) (fun _ _ _ h => h) (Or.inr hHeld) (Or.inl ⟨by rfl, ?yg34⟩) ?_
      case yg34 => (intro wS _; go_simp <;> with_reducible rfl)
      try simp only [Act.put, List.setIfInBounds_toArray, List.set_cons_zero, List.set_cons_succ]
      refine wpG_pure (i := 7) (oi := { dst := some 25, op := Go.Op.indexAddr 53 (Go.Operand.tmp 23) (Go.Operand.tmp 24), type := 0, pos := "zsortanyfunc.go:12", after := #[{ on := 5, ground := Go.Ground.data }, { on := 6, ground := Go.Ground.data }, { on := 3, ground := Go.Ground.guard }], guard := some (3, true) }) (v := ?vg35) rfl (by kernel_rfl) (fun _ _ _ h => h) (Or.inr hHeld) (Or.inl ⟨by rfl, ?yg35⟩) ?_
      case yg35 => (intro wS _; go_simp <;> with_reducible rfl)
      try simp only [Act.put, List.setIfInBounds_toArray, List.set_cons_zero, List.set_cons_succ]
      refine wpG_load (i := 8) (oi := { dst := some 26, op := Go.Op.load 62 (Go.Operand.tmp 25), type := 62, pos := "zsortanyfunc.go:12", after := #[{ on := 7, ground := Go.Ground.data }, { on := 3, ground := Go.Ground.guard }], guard := some (3, true) }) (v := ?vg36) [[14, 8]] rfl (by kernel_rfl) (fun _ _ _ h => h) hHeld (Or.inl ⟨by rfl, ?yg36⟩) ?_
      case yg36 => (intro wS hSw; (try dsimp only at hSw); go_simp <;> with_reducible rfl)
      try simp only [Act.put, List.setIfInBounds_toArray, List.set_cons_zero, List.set_cons_succ]
      refine wpG_pure (i := 9) (oi := { dst := some 27, op := Go.Op.move (Go.Operand.tmp 0), type := 53, pos := "zsortanyfunc.go:12", after := #[{ on := 3, ground := Go.Ground.guard }], guard := some (3, true) }) (v := ?vg37) rfl (by kernel_rfl) (fun _ _ _ h => h) (Or.inr hHeld) (Or.inl ⟨by rfl, ?yg37⟩) ?_
      case yg37 => (intro wS _; go_simp <;> with_reducible rfl)
      try simp only [Act.put, List.setIfInBounds_toArray, List.set_cons_zero, List.set_cons_succ]
      refine wpG_pure (i := 10) (oi := { dst := some 28, op := Go.Op.move (Go.Operand.tmp 9), type := 3, pos := "zsortanyfunc.go:12", after := #[{ on := 3, ground := Go.Ground.guard }], guard := some (3, true) }) (v := ?vg38) rfl (by kernel_rfl) (fun _ _ _ h => h) (Or.inr hHeld) (Or.inl ⟨by rfl, ?yg38⟩) ?_
      case yg38 => (intro wS _; go_simp <;> with_reducible rfl)
      try simp only [Act.put, List.setIfInBounds_toArray, List.set_cons_zero, List.set_cons_succ]
      refine wpG_pure (i := 11) (oi := { dst := some 29, op := Go.Op.binOp Go.BinOp.sub 3 (Go.Operand.tmp 28) (Go.Operand.const (Go.Value.int Go.IntKind.i64 1)) 3, type := 3, pos := "zsortanyfunc.go:12", after := #[{ on := 10, ground := Go.Ground.data }, { on := 3, ground := Go.Ground.guard }], guard := some (3, true) }) (v := ?vg39) rfl (by kernel_rfl) (fun _ _ _ h => h) (Or.inr hHeld) (Or.inl ⟨by rfl, ?yg39⟩) ?_
      case yg39 => (intro wS _; go_simp <;> with_reducible rfl)
      try simp only [Act.put, List.setIfInBounds_toArray, List.set_cons_zero, List.set_cons_succ]
      refine wpG_pure (i := 12) (oi := { dst := some 30, op := Go.Op.indexAddr 53 (Go.Operand.tmp 27) (Go.Operand.tmp 29), type := 0, pos := "zsortanyfunc.go:12", after := #[{ on := 9, ground := Go.Ground.data }, { on := 11, ground := Go.Ground.data }, { on := 3, ground := Go.Ground.guard }], guard := some (3, true) }) (v := ?vg40) rfl (by kernel_rfl) (fun _ _ _ h => h) (Or.inr hHeld) (Or.inl ⟨by rfl, ?yg40⟩) ?_
      case yg40 => (intro wS _; go_simp <;> with_reducible rfl)
      try simp only [Act.put, List.setIfInBounds_toArray, List.set_cons_zero, List.set_cons_succ]
      refine wpG_load (i := 13) (oi := { dst := some 31, op := Go.Op.load 62 (Go.Operand.tmp 30), type := 62, pos := "zsortanyfunc.go:12", after := #[{ on := 12, ground := Go.Ground.data }, { on := 3, ground := Go.Ground.guard }], guard := some (3, true) }) (v := ?vg41) [[14, 13]] rfl (by kernel_rfl) (fun _ _ _ h => h) hHeld (Or.inl ⟨by rfl, ?yg41⟩) ?_
      case yg41 => (intro wS hSw; (try dsimp only at hSw); go_simp <;> with_reducible rfl)
      try simp only [Act.put, List.setIfInBounds_toArray, List.set_cons_zero, List.set_cons_succ]
      refine wpG_one (i := 14) (o := { dst := some 32, op := Go.Op.call { callee := Go.Callee.value (Go.Operand.tmp 22), args := #[Go.Operand.tmp 26, Go.Operand.tmp 31], argTypes := #[62, 62] }, type := 3, pos := "zsortanyfunc.go:12", after := #[{ on := 4, ground := Go.Ground.data }, { on := 8, ground := Go.Ground.data }, { on := 13, ground := Go.Ground.data }, { on := 3, ground := Go.Ground.chain }, { on := 3, ground := Go.Ground.guard }], guard := some (3, true) }) rfl (by kernel_rfl) (fun K hK => ?_)
      go_simp
      refine HC.out.mono ?_
      rintro e w3 ⟨cv, rfl, hcv, hb3⟩
      have HB3 := Lib.hid (rstep HB.out (below_undrew hb3))
      clear hb3
      refine hK.out _ _ (Or.inl (by kernel_rfl)) (fun _ => ?_)
      clear hK K
      try simp only [Act.put, List.setIfInBounds_toArray, List.set_cons_zero, List.set_cons_succ]
      refine wpG_pure (i := 15) (oi := { dst := some 33, op := Go.Op.binOp Go.BinOp.lss 3 (Go.Operand.tmp 32) (Go.Operand.const (Go.Value.int Go.IntKind.i64 0)) 3, type := 4, pos := "zsortanyfunc.go:12", after := #[{ on := 14, ground := Go.Ground.data }, { on := 3, ground := Go.Ground.guard }], guard := some (3, true) }) (v := ?vg43) rfl (by kernel_rfl) (fun _ _ _ h => h) (Or.inl (by kernel_rfl)) (Or.inl ⟨by rfl, ?yg43⟩) ?_
      case yg43 => (intro wS _; go_simp <;> with_reducible rfl)
      try simp only [Act.put, List.setIfInBounds_toArray, List.set_cons_zero, List.set_cons_succ]
      refine wpG_pure (i := 16) (oi := { dst := some 34, op := Go.Op.pick (Go.Operand.tmp 21) (Go.Operand.tmp 33) (Go.Operand.const (Go.Value.bool false)), type := 4, pos := "zsortanyfunc.go:12", after := #[{ on := 3, ground := Go.Ground.data }, { on := 15, ground := Go.Ground.data }], guard := none }) (v := ?vg44) rfl (by kernel_rfl) (fun _ _ _ h => h) (Or.inl (by kernel_rfl)) (Or.inl ⟨by rfl, ?yg44⟩) ?_
      case yg44 => (intro wS _; go_simp <;> with_reducible rfl)
      try simp only [Act.put, List.setIfInBounds_toArray, List.set_cons_zero, List.set_cons_succ]
      refine wpG_done (by kernel_rfl) ?_
      skip
      have hcn : ¬ cv < 0 := by omega
      go_wp2_with fail
      go_roundw
      case rel => exact ⟨i + 1, by omega, by omega, by go_num, HB3⟩
      case measure => simp [intOf]; omega
end Go.Proofs.Ytfkcchbbbfeamaa
