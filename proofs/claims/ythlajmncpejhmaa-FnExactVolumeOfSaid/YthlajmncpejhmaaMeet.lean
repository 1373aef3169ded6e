/- The contracts of MeetBoxes, the program's and the reference's. -/
import Derived.Test.YthlajmncpejhmaaBoxK
namespace Go.Proofs.Ythlajmncpejhmaa
set_option linter.unusedVariables false
open Go.ChangeShapes Go.WideShapes Go.ChangeAt Go.RowKit
set_option maxRecDepth 100000

def meetP (a b : Int × Int) : Int × Int := (if b.1 > a.1 then b.1 else a.1, if b.2 < a.2 then b.2 else a.2)
theorem meet_good (xs ys : Bx) (hx : GoodR xs = true) (hy : GoodR ys = true) : GoodR (zipF meetP xs ys 3) = (zipF meetP xs ys 3).all fun p => decide (p.1 ≤ p.2) := by
  unfold GoodR
  rw [zipF_length]
  show (true && _) = _
  rw [Bool.true_and, Bool.eq_iff_iff, List.all_eq_true, List.all_eq_true]
  constructor
  · intro h p hp; have := gs_bd (h p hp); simp; omega
  · intro h p hp
    have hpl := h p hp
    simp only [zipF, List.mem_map, List.mem_range] at hp
    obtain ⟨i, hi, rfl⟩ := hp
    have h1 := good_at hx i hi; have h2 := good_at hy i hi
    generalize xs.getD i (0, 0) = x at *
    generalize ys.getD i (0, 0) = y at *
    unfold meetP at *
    unfold gs
    simp at hpl ⊢
    refine ⟨⟨?_, hpl⟩, ?_⟩ <;> split <;> omega
theorem box4_step {w wx wy : World} {o1 o2 o3 : Obj} (h : Below (w.heap.size + 3) (((w.alloc o1).alloc o2).alloc o3) wx) (hb : Below wx.heap.size wx wy) : Below (w.heap.size + 3) (((w.alloc o1).alloc o2).alloc o3) wy := box3_step h hb



set_option maxHeartbeats 4000000 in
theorem impl_meet (a b : Option Addr) (cap cap' : Nat) (xs ys : Bx) (w : World) (ha : Rw w a (sds xs)) (hb : Rw w b (sds ys)) (hx : xs.length = 3) (hy : ys.length = 3) :
    Calls Try.prog 48 #[.agg #[.slice a xs.length cap], .agg #[.slice b ys.length cap']] w (MadeBox (zipF meetP xs ys 3, GoodR (zipF meetP xs ys 3)) w) := by
  obtain ⟨i0, hi, hz0, hz1, hz2⟩ := info_parts Try.infoSide
  have HL1 := Lib.hid hx; have HL2 := Lib.hid hy
  have HA := Lib.hid ha; have HB := Lib.hid hb
  clear ha hb hx hy
  go_enter Try.func48, Try.ntmps48
  go_wp2_with fail
  go_loopw [13] (fun iv wr => ∃ (i : Nat) (v : Value), i ≤ 3 ∧ iv = .int .i64 (i : Int) ∧ Hid (wr.cell? ⟨(w.heap.size + 3), 0, none⟩ = some v ∧ wr.frozen? ⟨(w.heap.size + 3), 0, none⟩ = false ∧ (w.heap.size + 3) < wr.heap.size) ∧ Hid (wr.ownsRow ((w.heap.size + 3) + 1) 64 2 v i (sds (zipF meetP xs ys i))) ∧ Hid (Below (w.heap.size + 3) (((w.alloc (.cells #[.slice a xs.length cap] 28)).alloc (.cells #[.slice b ys.length cap'] 28)).alloc (.cells #[.slice none 0 0] 28)) wr)) (fun iv _ => 3 - (intOf iv).toNat)
  case atStart => exact ⟨0, _, by omega, rfl, ⟨by go_simp, by go_simp, by simp⟩, World.ownsRow_nil _ _ _ _, (Below.refl _ _).alloc (by simp) _⟩
  case round =>
    obtain ⟨i, v, hi3, rfl, HCL, HOR, HBR⟩ := hrel
    obtain ⟨co, cof, hlw⟩ := HCL.out
    have HBW := Lib.hid (box3_below HBR.out)
    by_cases hlt : i < 3
    · skip
      have HC3 : Hid (i + 1 ≤ maxLen) := by show i + 1 ≤ maxLen; unfold maxLen; omega
      have HC4 : Hid ((i + 1) * 16 ≤ 140737488355328) := by show (i + 1) * 16 ≤ 140737488355328; omega
      have hk1 : i < xs.length := by have := HL1.out; omega
      have hk2 : i < ys.length := by have := HL2.out; omega
      obtain ⟨b1, off1, rfl, hbl1, hc1⟩ := HA.out.at (sds_ne hk1)
      obtain ⟨b2, off2, rfl, hbl2, hc2⟩ := HB.out.at (sds_ne hk2)
      have d1 := (HBW.out.cell (p := ⟨b1, off1 + i * 2, none⟩) hbl1).trans (hc1 _ _ (sds_lo xs i hk1))
      have d2 : wr.cell? ⟨b1, off1 + i * 2 + 1, none⟩ = _ := (HBW.out.cell (p := ⟨b1, off1 + (i * 2 + 1), none⟩) hbl1).trans (hc1 _ _ (sds_hi xs i hk1))
      have d3 := (HBW.out.cell (p := ⟨b2, off2 + i * 2, none⟩) hbl2).trans (hc2 _ _ (sds_lo ys i hk2))
      have d4 : wr.cell? ⟨b2, off2 + i * 2 + 1, none⟩ = _ := (HBW.out.cell (p := ⟨b2, off2 + (i * 2 + 1), none⟩) hbl2).trans (hc2 _ _ (sds_hi ys i hk2))
      have d5 : wr.cell? ⟨w.heap.size + 1, 0, none⟩ = some (.slice (some ⟨b2, off2, none⟩) ys.length cap') := box3_b HBR.out 0
      have l1 : b1 < wr.heap.size := by omega
      have l2 : b2 < wr.heap.size := by omega
      have l3 : w.heap.size + 1 < wr.heap.size := by omega
      have HZ : Hid (∀ (wx : World) (v : Value), wx.ownsRow ((w.heap.size + 3) + 1) 64 2 v (i + 1) (sds (zipF meetP xs ys i) ++ [.int .i64 (meetP (xs.getD i (0, 0)) (ys.getD i (0, 0))).1, .int .i64 (meetP (xs.getD i (0, 0)) (ys.getD i (0, 0))).2]) → wx.ownsRow ((w.heap.size + 3) + 1) 64 2 v (i + 1) (sds (zipF meetP xs ys (i + 1)))) := by
        intro wx v h
        rw [zipF_snoc, sds_snoc]; exact h
      clear hc1 hc2
      generalize xs.getD i (0, 0) = p at *
      generalize ys.getD i (0, 0) = q at *
      obtain ⟨x1, x2⟩ := p
      obtain ⟨y1, y2⟩ := q
      have HZ' : Hid (meetP (x1, x2) (y1, y2) = (if y1 > x1 then y1 else x1, if y2 < x2 then y2 else x2)) := Lib.hid rfl
      go_wp2_with fail
      have HW1 : ∃ wx, wx = wr.alloc (.cells #[.int .i64 x1, .int .i64 x2] 64) := ⟨_, rfl⟩
      have m1 : (wr.alloc (.cells #[.int .i64 x1, .int .i64 x2] 64)).cell? ⟨b2, off2 + i * 2, none⟩ = some (.int .i64 y1) := cell_alloc _ d3
      have m2 : (wr.alloc (.cells #[.int .i64 x1, .int .i64 x2] 64)).cell? ⟨b2, off2 + i * 2 + 1, none⟩ = some (.int .i64 y2) := cell_alloc _ d4
      have m3 : (wr.alloc (.cells #[.int .i64 x1, .int .i64 x2] 64)).cell? ⟨w.heap.size + 1, 0, none⟩ = some (.slice (some ⟨b2, off2, none⟩) ys.length cap') := cell_alloc _ d5
      have m4 : (wr.alloc (.cells #[.int .i64 x1, .int .i64 x2] 64)).cell? ⟨(w.heap.size + 3), 0, none⟩ = some v := cell_alloc _ co
      have m5 : (wr.alloc (.cells #[.int .i64 x1, .int .i64 x2] 64)).cell? ⟨wr.heap.size, 0, none⟩ = some (.int .i64 x1) := by go_simp
      have m6 : (wr.alloc (.cells #[.int .i64 x1, .int .i64 x2] 64)).cell? ⟨wr.heap.size, 1, none⟩ = some (.int .i64 x2) := by go_simp
      have HM : Hid _ := Lib.hid (And.intro m1 (And.intro m2 (And.intro m3 (And.intro m4 (And.intro m5 m6)))))
      clear m1 m2 m3 m4 m5 m6
      have HNE : Hid (∀ k, k ≤ (w.heap.size + 3) ∨ wr.heap.size ≤ k → some k ≠ v.ownBlock) := Lib.hid (by intro k hk h; have := HOR.out.lt _ h.symm; omega)
      have HNEWS : Hid (∀ (j : Nat) (u : Value), [Value.int .i64 (if y1 > x1 then y1 else x1), Value.int .i64 (if y2 < x2 then y2 else x2)][j]? = some u → ((wr.alloc (.cells #[.int .i64 x1, .int .i64 x2] 64)).alloc (.cells #[.int .i64 (if y1 > x1 then y1 else x1), .int .i64 (if y2 < x2 then y2 else x2)] 64)).cell? ((⟨wr.heap.size + 1, 0, none⟩ : Addr).add j) = some u) := by
        have h := World.news_of_block (cs := #[Value.int .i64 (if y1 > x1 then y1 else x1), Value.int .i64 (if y2 < x2 then y2 else x2)]) (t := 64) (fr := (0, 0)) (heap_alloc_new (wr.alloc (.cells #[.int .i64 x1, .int .i64 x2] 64)) (.cells #[.int .i64 (if y1 > x1 then y1 else x1), .int .i64 (if y2 < x2 then y2 else x2)] 64))
        simp only [World.size_alloc] at h
        exact Lib.hid h
      have ALL := Lib.hid ((HBR.out.alloc (by have := HBR.out.size; simp at this; omega) (.cells #[.int .i64 x1, .int .i64 x2] 64)).alloc (by have := HBR.out.size; simp at this ⊢; omega) (.cells #[.int .i64 (if y1 > x1 then y1 else x1), .int .i64 (if y2 < x2 then y2 else x2)] 64))
      have COO := Lib.hid (And.intro (cell_alloc (.cells #[.int .i64 (if y1 > x1 then y1 else x1), .int .i64 (if y2 < x2 then y2 else x2)] 64) (cell_alloc (.cells #[.int .i64 x1, .int .i64 x2] 64) co)) ((frozen_alloc (.cells #[.int .i64 (if y1 > x1 then y1 else x1), .int .i64 (if y2 < x2 then y2 else x2)] 64) (by simp; omega) (frozen_alloc (.cells #[.int .i64 x1, .int .i64 x2] 64) hlw cof))))
      refine wp_region_G [22] (fun w' => w'.cell? ⟨b2, off2 + i * 2, none⟩ = some (.int .i64 y1) ∧ w'.cell? ⟨b2, off2 + i * 2 + 1, none⟩ = some (.int .i64 y2) ∧ w'.cell? ⟨w.heap.size + 1, 0, none⟩ = some (.slice (some ⟨b2, off2, none⟩) ys.length cap') ∧ w'.cell? ⟨(w.heap.size + 3), 0, none⟩ = some v ∧ w'.cell? ⟨wr.heap.size, 0, none⟩ = some (.int .i64 x1) ∧ w'.cell? ⟨wr.heap.size, 1, none⟩ = some (.int .i64 x2)) (by kernel_rfl) ?_ (fun hHeld => ?_)
      · exact HM.out
      refine wpG_pure (i := 0) (oi := { dst := some 18, op := Go.Op.fieldAddr 28 (Go.Operand.tmp 6) 0, type := 0, pos := "l9_cover.go:69", after := #[], guard := none }) (v := ?vg1) rfl (by kernel_rfl) (fun _ _ _ h => h) (Or.inr hHeld) (Or.inl ⟨by rfl, ?yg1⟩) ?_
      case yg1 => (intro wS _; go_simp <;> with_reducible rfl)
      try simp only [Act.put, List.setIfInBounds_toArray, List.set_cons_zero, List.set_cons_succ]
      refine wpG_load (i := 1) (oi := { dst := some 19, op := Go.Op.load 26 (Go.Operand.tmp 18), type := 26, pos := "l9_cover.go:69", after := #[{ on := 0, ground := Go.Ground.data }], guard := none }) (v := ?vg2) [[22, 1]] rfl (by kernel_rfl) (fun _ _ _ h => h) hHeld (Or.inl ⟨by rfl, ?yg2⟩) ?_
      case yg2 => (intro wS hSw; (try dsimp only at hSw); go_simp <;> with_reducible rfl)
      try simp only [Act.put, List.setIfInBounds_toArray, List.set_cons_zero, List.set_cons_succ]
      refine wpG_pure (i := 2) (oi := { dst := some 20, op := Go.Op.fieldAddr 64 (Go.Operand.tmp 8) 0, type := 0, pos := "l9_cover.go:69", after := #[], guard := none }) (v := ?vg3) rfl (by kernel_rfl) (fun _ _ _ h => h) (Or.inr hHeld) (Or.inl ⟨by rfl, ?yg3⟩) ?_
      case yg3 => (intro wS _; go_simp <;> with_reducible rfl)
      try simp only [Act.put, List.setIfInBounds_toArray, List.set_cons_zero, List.set_cons_succ]
      refine wpG_load (i := 3) (oi := { dst := some 21, op := Go.Op.load 3 (Go.Operand.tmp 20), type := 3, pos := "l9_cover.go:69", after := #[{ on := 2, ground := Go.Ground.data }], guard := none }) (v := ?vg4) [[22, 21, 20, 10, 3]] rfl (by kernel_rfl) (fun _ _ _ h => h) hHeld (Or.inl ⟨by rfl, ?yg4⟩) ?_
      case yg4 => (intro wS hSw; (try dsimp only at hSw); go_simp <;> with_reducible rfl)
      try simp only [Act.put, List.setIfInBounds_toArray, List.set_cons_zero, List.set_cons_succ]
      refine wpG_pure (i := 4) (oi := { dst := some 22, op := Go.Op.fieldAddr 28 (Go.Operand.tmp 3) 0, type := 0, pos := "l9_cover.go:69", after := #[], guard := none }) (v := ?vg5) rfl (by kernel_rfl) (fun _ _ _ h => h) (Or.inr hHeld) (Or.inl ⟨by rfl, ?yg5⟩) ?_
      case yg5 => (intro wS _; go_simp <;> with_reducible rfl)
      try simp only [Act.put, List.setIfInBounds_toArray, List.set_cons_zero, List.set_cons_succ]
      refine wpG_load (i := 5) (oi := { dst := some 23, op := Go.Op.load 26 (Go.Operand.tmp 22), type := 26, pos := "l9_cover.go:69", after := #[{ on := 4, ground := Go.Ground.data }], guard := none }) (v := ?vg6) [[22, 21, 20, 10, 9, 8, 7, 5]] rfl (by kernel_rfl) (fun _ _ _ h => h) hHeld (Or.inl ⟨by rfl, ?yg6⟩) ?_
      case yg6 => (intro wS hSw; (try dsimp only at hSw); go_simp <;> with_reducible rfl)
      try simp only [Act.put, List.setIfInBounds_toArray, List.set_cons_zero, List.set_cons_succ]
      refine wpG_pure (i := 6) (oi := { dst := some 24, op := Go.Op.move (Go.Operand.tmp 7), type := 3, pos := "l9_cover.go:69", after := #[], guard := none }) (v := ?vg7) rfl (by kernel_rfl) (fun _ _ _ h => h) (Or.inr hHeld) (Or.inl ⟨by rfl, ?yg7⟩) ?_
      case yg7 => (intro wS _; go_simp <;> with_reducible rfl)
      try simp only [Act.put, List.setIfInBounds_toArray, List.set_cons_zero, List.set_cons_succ]
      refine wpG_pure (i := 7) (oi := { dst := some 25, op := Go.Op.indexAddr 26 (Go.Operand.tmp 23) (Go.Operand.tmp 24), type := 0, pos := "l9_cover.go:69", after := #[{ on := 5, ground := Go.Ground.data }, { on := 6, ground := Go.Ground.data }], guard := none }) (v := ?vg8) rfl (by kernel_rfl) (fun _ _ _ h => h) (Or.inr hHeld) (Or.inl ⟨by rfl, ?yg8⟩) ?_
      case yg8 => (intro wS _; go_simp <;> with_reducible rfl)
      try simp only [Act.put, List.setIfInBounds_toArray, List.set_cons_zero, List.set_cons_succ]
      refine wpG_pure (i := 8) (oi := { dst := some 26, op := Go.Op.fieldAddr 64 (Go.Operand.tmp 25) 0, type := 0, pos := "l9_cover.go:69", after := #[{ on := 7, ground := Go.Ground.data }], guard := none }) (v := ?vg9) rfl (by kernel_rfl) (fun _ _ _ h => h) (Or.inr hHeld) (Or.inl ⟨by rfl, ?yg9⟩) ?_
      case yg9 => (intro wS _; go_simp <;> with_reducible rfl)
      try simp only [Act.put, List.setIfInBounds_toArray, List.set_cons_zero, List.set_cons_succ]
      refine wpG_load (i := 9) (oi := { dst := some 27, op := Go.Op.load 3 (Go.Operand.tmp 26), type := 3, pos := "l9_cover.go:69", after := #[{ on := 8, ground := Go.Ground.data }], guard := none }) (v := ?vg10) [[22, 21, 20, 10, 9]] rfl (by kernel_rfl) (fun _ _ _ h => h) hHeld (Or.inl ⟨by rfl, ?yg10⟩) ?_
      case yg10 => (intro wS hSw; (try dsimp only at hSw); go_simp <;> with_reducible rfl)
      try simp only [Act.put, List.setIfInBounds_toArray, List.set_cons_zero, List.set_cons_succ]
      refine wpG_pure (i := 10) (oi := { dst := some 28, op := Go.Op.call { callee := Go.Callee.builtin Go.Builtin.max, args := #[Go.Operand.tmp 21, Go.Operand.tmp 27], argTypes := #[3, 3] }, type := 3, pos := "l9_cover.go:69", after := #[{ on := 3, ground := Go.Ground.data }, { on := 9, ground := Go.Ground.data }], guard := none }) (v := ?vg11) rfl (by kernel_rfl) (fun _ _ _ h => h) (Or.inr hHeld) (Or.inl ⟨by rfl, ?yg11⟩) ?_
      case yg11 => (intro wS _; go_simp <;> with_reducible rfl)
      try simp only [Act.put, List.setIfInBounds_toArray, List.set_cons_zero, List.set_cons_succ]
      refine wpG_pure (i := 11) (oi := { dst := some 29, op := Go.Op.fieldAddr 64 (Go.Operand.tmp 8) 1, type := 0, pos := "l9_cover.go:69", after := #[], guard := none }) (v := ?vg12) rfl (by kernel_rfl) (fun _ _ _ h => h) (Or.inr hHeld) (Or.inl ⟨by rfl, ?yg12⟩) ?_
      case yg12 => (intro wS _; go_simp <;> with_reducible rfl)
      try simp only [Act.put, List.setIfInBounds_toArray, List.set_cons_zero, List.set_cons_succ]
      refine wpG_load (i := 12) (oi := { dst := some 30, op := Go.Op.load 3 (Go.Operand.tmp 29), type := 3, pos := "l9_cover.go:69", after := #[{ on := 11, ground := Go.Ground.data }], guard := none }) (v := ?vg13) [[22, 21, 20, 19, 12]] rfl (by kernel_rfl) (fun _ _ _ h => h) hHeld (Or.inl ⟨by rfl, ?yg13⟩) ?_
      case yg13 => (intro wS hSw; (try dsimp only at hSw); go_simp <;> with_reducible rfl)
      try simp only [Act.put, List.setIfInBounds_toArray, List.set_cons_zero, List.set_cons_succ]
      refine wpG_pure (i := 13) (oi := { dst := some 31, op := Go.Op.fieldAddr 28 (Go.Operand.tmp 3) 0, type := 0, pos := "l9_cover.go:69", after := #[], guard := none }) (v := ?vg14) rfl (by kernel_rfl) (fun _ _ _ h => h) (Or.inr hHeld) (Or.inl ⟨by rfl, ?yg14⟩) ?_
      case yg14 => (intro wS _; go_simp <;> with_reducible rfl)
      try simp only [Act.put, List.setIfInBounds_toArray, List.set_cons_zero, List.set_cons_succ]
      refine wpG_load (i := 14) (oi := { dst := some 32, op := Go.Op.load 26 (Go.Operand.tmp 31), type := 26, pos := "l9_cover.go:69", after := #[{ on := 13, ground := Go.Ground.data }], guard := none }) (v := ?vg15) [[22, 21, 20, 19, 18, 17, 16, 14]] rfl (by kernel_rfl) (fun _ _ _ h => h) hHeld (Or.inl ⟨by rfl, ?yg15⟩) ?_
      case yg15 => (intro wS hSw; (try dsimp only at hSw); go_simp <;> with_reducible rfl)
      try simp only [Act.put, List.setIfInBounds_toArray, List.set_cons_zero, List.set_cons_succ]
      refine wpG_pure (i := 15) (oi := { dst := some 33, op := Go.Op.move (Go.Operand.tmp 7), type := 3, pos := "l9_cover.go:69", after := #[], guard := none }) (v := ?vg16) rfl (by kernel_rfl) (fun _ _ _ h => h) (Or.inr hHeld) (Or.inl ⟨by rfl, ?yg16⟩) ?_
      case yg16 => (intro wS _; go_simp <;> with_reducible rfl)
      try simp only [Act.put, List.setIfInBounds_toArray, List.set_cons_zero, List.set_cons_succ]
      refine wpG_pure (i := 16) (oi := { dst := some 34, op := Go.Op.indexAddr 26 (Go.Operand.tmp 32) (Go.Operand.tmp 33), type := 0, pos := "l9_cover.go:69", after := #[{ on := 14, ground := Go.Ground.data }, { on := 15, ground := Go.Ground.data }], guard := none }) (v := ?vg17) rfl (by kernel_rfl) (fun _ _ _ h => h) (Or.inr hHeld) (Or.inl ⟨by rfl, ?yg17⟩) ?_
      case yg17 => (intro wS _; go_simp <;> with_reducible rfl)
      try simp only [Act.put, List.setIfInBounds_toArray, List.set_cons_zero, List.set_cons_succ]
      refine wpG_pure (i := 17) (oi := { dst := some 35, op := Go.Op.fieldAddr 64 (Go.Operand.tmp 34) 1, type := 0, pos := "l9_cover.go:69", after := #[{ on := 16, ground := Go.Ground.data }], guard := none }) (v := ?vg18) rfl (by kernel_rfl) (fun _ _ _ h => h) (Or.inr hHeld) (Or.inl ⟨by rfl, ?yg18⟩) ?_
      case yg18 => (intro wS _; go_simp <;> with_reducible rfl)
      try simp only [Act.put, List.setIfInBounds_toArray, List.set_cons_zero, List.set_cons_succ]
      refine wpG_load (i := 18) (oi := { dst := some 36, op := Go.Op.load 3 (Go.Operand.tmp 35), type := 3, pos := "l9_cover.go:69", after := #[{ on := 17, ground := Go.Ground.data }], guard := none }) (v := ?vg19) [[22, 21, 20, 19, 18]] rfl (by kernel_rfl) (fun _ _ _ h => h) hHeld (Or.inl ⟨by rfl, ?yg19⟩) ?_
      case yg19 => (intro wS hSw; (try dsimp only at hSw); go_simp <;> with_reducible rfl)
      try simp only [Act.put, List.setIfInBounds_toArray, List.set_cons_zero, List.set_cons_succ]
      refine wpG_pure (i := 19) (oi := { dst := some 37, op := Go.Op.call { callee := Go.Callee.builtin Go.Builtin.min, args := #[Go.Operand.tmp 30, Go.Operand.tmp 36], argTypes := #[3, 3] }, type := 3, pos := "l9_cover.go:69", after := #[{ on := 12, ground := Go.Ground.data }, { on := 18, ground := Go.Ground.data }], guard := none }) (v := ?vg20) rfl (by kernel_rfl) (fun _ _ _ h => h) (Or.inr hHeld) (Or.inl ⟨by rfl, ?yg20⟩) ?_
      case yg20 => (intro wS _; go_simp <;> with_reducible rfl)
      try simp only [Act.put, List.setIfInBounds_toArray, List.set_cons_zero, List.set_cons_succ]
      refine wpG_pure (i := 20) (oi := { dst := some 38, op := Go.Op.build 64 #[(0, Go.Operand.tmp 28), (1, Go.Operand.tmp 37)], type := 64, pos := "l9_cover.go:69", after := #[{ on := 10, ground := Go.Ground.data }, { on := 19, ground := Go.Ground.data }], guard := none }) (v := ?vg21) rfl (by kernel_rfl) (fun _ _ _ h => h) (Or.inr hHeld) (Or.inl ⟨by rfl, ?yg21⟩) ?_
      case yg21 => (intro wS _; go_simp <;> with_reducible rfl)
      try simp only [Act.put, List.setIfInBounds_toArray, List.set_cons_zero, List.set_cons_succ]
      refine wpG_one (i := 21) (o := { dst := some 39, op := Go.Op.buildSlice 26 1 #[(0, Go.Operand.tmp 38)], type := 26, pos := "l9_cover.go:69", after := #[{ on := 20, ground := Go.Ground.data }], guard := none }) rfl (by kernel_rfl) (fun K hK => ?_)
      go_simp
      refine hK.out _ _ (Or.inr ?khHeld22) (fun hHeld22S => ?_)
      case khHeld22 => exact ⟨cell_alloc _ HM.out.1, cell_alloc _ HM.out.2.1, cell_alloc _ HM.out.2.2.1, cell_alloc _ HM.out.2.2.2.1, cell_alloc _ HM.out.2.2.2.2.1, cell_alloc _ HM.out.2.2.2.2.2⟩
      have hHeld22 := hHeld22S.held (by kernel_rfl)
      clear hK K
      try simp only [Act.put, List.setIfInBounds_toArray, List.set_cons_zero, List.set_cons_succ]
      refine wpG_one (i := 22) (o := { dst := some 40, op := Go.Op.call { callee := Go.Callee.builtin Go.Builtin.append, args := #[Go.Operand.tmp 19, Go.Operand.tmp 39], argTypes := #[26, 26] }, type := 26, pos := "l9_cover.go:69", after := #[{ on := 1, ground := Go.Ground.data }, { on := 21, ground := Go.Ground.data }], guard := none }) rfl (by kernel_rfl) (fun K hK => ?_)
      refine step_append_lies _ rfl (.tmp 19) (.tmp 39) 26 rfl ((w.heap.size + 3) + 1) 64 i0 (.agg #[.int .i64 0, .int .i64 0]) 2 16 Try.underlying26 hi hz0 hz1 hz2 rfl (by decide) v i (sds (zipF meetP xs ys i)) rfl (((HOR.out.alloc _).alloc _).drew) ⟨wr.heap.size + 1, 0, none⟩ 1 1 [.int .i64 (if y1 > x1 then y1 else x1), .int .i64 (if y2 < x2 then y2 else x2)] rfl rfl HNEWS.out (by simp [Value.oneCell']) (by omega) HC3.out HC4.out (by simp; omega) (wr.heap.size + 2) (by simp) ?_
      intro g cp w4 hown hgrow hat hlt4
      have e1 := (hgrow.cell_far ⟨(w.heap.size + 3), 0, none⟩ (by simp; omega) (HNE.out (w.heap.size + 3) (.inl (by omega)))).trans COO.out.1
      have e2 := (hgrow.frozen_far ⟨(w.heap.size + 3), 0, none⟩ (by simp; omega) (HNE.out (w.heap.size + 3) (.inl (by omega)))).trans COO.out.2
      have hs4 : (w.heap.size + 3) < w4.heap.size := by have := hgrow.size; simp at this; omega
      have HO4 := Lib.hid hown; have HG4 := Lib.hid hgrow; clear hown hgrow hat
      refine hK.out _ _ (Or.inl (by kernel_rfl)) (fun _ => ?_)
      clear hK K
      try simp only [Act.put, List.setIfInBounds_toArray, List.set_cons_zero, List.set_cons_succ]
      refine wpG_pure (i := 23) (oi := { dst := some 41, op := Go.Op.fieldAddr 28 (Go.Operand.tmp 6) 0, type := 0, pos := "l9_cover.go:69", after := #[{ on := 0, ground := Go.Ground.phase }, { on := 1, ground := Go.Ground.phase }, { on := 2, ground := Go.Ground.phase }, { on := 3, ground := Go.Ground.phase }, { on := 4, ground := Go.Ground.phase }, { on := 5, ground := Go.Ground.phase }, { on := 6, ground := Go.Ground.phase }, { on := 7, ground := Go.Ground.phase }, { on := 8, ground := Go.Ground.phase }, { on := 9, ground := Go.Ground.phase }, { on := 10, ground := Go.Ground.phase }, { on := 11, ground := Go.Ground.phase }, { on := 12, ground := Go.Ground.phase }, { on := 13, ground := Go.Ground.phase }, { on := 14, ground := Go.Ground.phase }, { on := 15, ground := Go.Ground.phase }, { on := 16, ground := Go.Ground.phase }, { on := 17, ground := Go.Ground.phase }, { on := 18, ground := Go.Ground.phase }, { on := 19, ground := Go.Ground.phase }, { on := 20, ground := Go.Ground.phase }, { on := 21, ground := Go.Ground.phase }, { on := 22, ground := Go.Ground.phase }], guard := none }) (v := ?vg24) rfl (by kernel_rfl) (fun _ _ _ h => h) (Or.inl (by kernel_rfl)) (Or.inl ⟨by rfl, ?yg24⟩) ?_
      case yg24 => (intro wS _; go_simp <;> with_reducible rfl)
      try simp only [Act.put, List.setIfInBounds_toArray, List.set_cons_zero, List.set_cons_succ]
      refine wpG_one (i := 24) (o := { dst := none, op := Go.Op.store 26 (Go.Operand.tmp 41) (Go.Operand.tmp 40), type := 0, pos := "l9_cover.go:69", after := #[{ on := 23, ground := Go.Ground.data }, { on := 22, ground := Go.Ground.data }, { on := 22, ground := Go.Ground.chain }, { on := 0, ground := Go.Ground.phase }, { on := 1, ground := Go.Ground.phase }, { on := 2, ground := Go.Ground.phase }, { on := 3, ground := Go.Ground.phase }, { on := 4, ground := Go.Ground.phase }, { on := 5, ground := Go.Ground.phase }, { on := 6, ground := Go.Ground.phase }, { on := 7, ground := Go.Ground.phase }, { on := 8, ground := Go.Ground.phase }, { on := 9, ground := Go.Ground.phase }, { on := 10, ground := Go.Ground.phase }, { on := 11, ground := Go.Ground.phase }, { on := 12, ground := Go.Ground.phase }, { on := 13, ground := Go.Ground.phase }, { on := 14, ground := Go.Ground.phase }, { on := 15, ground := Go.Ground.phase }, { on := 16, ground := Go.Ground.phase }, { on := 17, ground := Go.Ground.phase }, { on := 18, ground := Go.Ground.phase }, { on := 19, ground := Go.Ground.phase }, { on := 20, ground := Go.Ground.phase }, { on := 21, ground := Go.Ground.phase }, { on := 22, ground := Go.Ground.phase }], guard := none }) rfl (by kernel_rfl) (fun K hK => ?_)
      go_simp
      refine hK.out _ _ (Or.inl (by kernel_rfl)) (fun _ => ?_)
      clear hK K
      try simp only [Act.put, List.setIfInBounds_toArray, List.set_cons_zero, List.set_cons_succ]
      refine wpG_done (by kernel_rfl) ?_
      have HB4 := Lib.hid (Below.grown ALL.out (below_undrewG HG4.out) (by have := HBR.out.size; simp at this ⊢; omega) (fun j hj => by have := (HOR.out.lt j hj).1; omega))
      have hrow4 := ownsRow_setCell_below HO4.out (a := ⟨(w.heap.size + 3), 0, none⟩) (Nat.lt_succ_self _) (.slice (some ⟨g, 0, none⟩) (i + 1) cp)
      have HOW : Hid ((w4.setCell ⟨(w.heap.size + 3), 0, none⟩ (.slice (some ⟨g, 0, none⟩) (i + 1) cp)).ownsRow ((w.heap.size + 3) + 1) 64 2 (.slice (some ⟨g, 0, none⟩) (i + 1) cp) (i + 1) (sds (zipF meetP xs ys (i + 1)))) := Lib.hid (HZ.out _ _ (by rw [HZ'.out]; exact hrow4))
      clear hrow4
      go_wp2_with fail
      go_roundw
      case rel => exact ⟨i + 1, _, by omega, by go_num, Lib.hid ⟨World.cell?_setCell_same _ _ _ e1, by rw [World.frozen?_setCell]; exact e2, by rw [World.size_setCell]; exact hs4⟩, HOW, Lib.hid (HB4.out.setCell (p := ⟨(w.heap.size + 3), 0, none⟩) (Nat.le_refl _) _)⟩
      case measure => simp [intOf]; omega
    · obtain rfl : i = 3 := by omega
      obtain ⟨g, cp, rfl, _, _⟩ := HOR.out.form (by omega : 1 ≤ 3)
      have k1 : wr.cell? ⟨w.heap.size + 2, 0, none⟩ = some (.slice none 0 0) := box3_c HBR.out 0
      have k2 : wr.frozen? ⟨w.heap.size + 2, 0, none⟩ = false := box3_f HBR.out 0
      have hl1 := HL1.out
      have hn3 : ¬ ((3 : Nat) : Int) < (xs.length : Int) := by omega
      have HGB := Lib.hid (fun wx (h : Rw wx (some ⟨g, 0, none⟩) (sds (zipF meetP xs ys 3))) => impl_goodBox (some ⟨g, 0, none⟩) cp (zipF meetP xs ys 3) wx h (by rw [zipF_length]; omega))
      simp only [zipF_length] at HGB
      have HOD := Lib.hid (own_rw (w := wr.drew) HOR.out)
      generalize GoodR (zipF meetP xs ys 3) = r at *
      have HCO := Lib.hid co
      clear hl1
      go_wp2_with fail
      refine wp_region_G [3] (fun w' => w'.cell? ⟨(w.heap.size + 3), 0, none⟩ = some (.slice (some ⟨g, 0, none⟩) 3 cp)) (by kernel_rfl) ?_ (fun hHeld => ?_)
      · exact HCO.out
      refine wpG_load (i := 0) (oi := { dst := some 43, op := Go.Op.load 28 (Go.Operand.tmp 6), type := 28, pos := "l9_cover.go:71", after := #[], guard := none }) (v := ?vg26) [[3, 0]] rfl (by kernel_rfl) (fun _ _ _ h => h) hHeld (Or.inl ⟨by rfl, ?yg26⟩) ?_
      case yg26 => (intro wS hSw; (try dsimp only at hSw); go_simp <;> with_reducible rfl)
      try simp only [Act.put, List.setIfInBounds_toArray, List.set_cons_zero, List.set_cons_succ]
      refine wpG_load (i := 1) (oi := { dst := some 44, op := Go.Op.load 28 (Go.Operand.tmp 6), type := 28, pos := "l9_cover.go:71", after := #[], guard := none }) (v := ?vg27) [[3, 2, 1]] rfl (by kernel_rfl) (fun _ _ _ h => h) hHeld (Or.inl ⟨by rfl, ?yg27⟩) ?_
      case yg27 => (intro wS hSw; (try dsimp only at hSw); go_simp <;> with_reducible rfl)
      try simp only [Act.put, List.setIfInBounds_toArray, List.set_cons_zero, List.set_cons_succ]
      refine wpG_one (i := 2) (o := { dst := some 45, op := Go.Op.call { callee := Go.Callee.value (Go.Operand.func 36), args := #[Go.Operand.tmp 44], argTypes := #[28] }, type := 4, pos := "l9_cover.go:71", after := #[{ on := 1, ground := Go.Ground.data }], guard := none }) rfl (by kernel_rfl) (fun K hK => ?_)
      go_simp
      refine (HGB.out _ HOD.out).mono ?_
      rintro e w5 ⟨rfl, hb5⟩
      have HB5 := Lib.hid (below_undrew hb5); clear hb5
      have k5 : w5.cell? ⟨w.heap.size + 2, 0, none⟩ = some (.slice none 0 0) := below_later HB5.out k1
      have k6 : w5.frozen? ⟨w.heap.size + 2, 0, none⟩ = false := (HB5.out.frozen (p := ⟨w.heap.size + 2, 0, none⟩) (by show w.heap.size + 2 < wr.heap.size; omega)).trans k2
      refine hK.out _ _ (Or.inr ?khHeld28) (fun hHeld28S => ?_)
      case khHeld28 => exact below_later HB5.out HCO.out
      have hHeld28 := hHeld28S.held (by kernel_rfl)
      clear hK K
      try simp only [Act.put, List.setIfInBounds_toArray, List.set_cons_zero, List.set_cons_succ]
      refine wpG_one (i := 3) (o := { dst := none, op := Go.Op.store 28 (Go.Operand.tmp 4) (Go.Operand.tmp 43), type := 0, pos := "l9_cover.go:71", after := #[{ on := 0, ground := Go.Ground.data }, { on := 2, ground := Go.Ground.chain }, { on := 0, ground := Go.Ground.phase }, { on := 1, ground := Go.Ground.textOnly Go.Departure.lateStores }, { on := 2, ground := Go.Ground.textOnly Go.Departure.lateStoresUnsure }], guard := none }) rfl (by kernel_rfl) (fun K hK => ?_)
      go_simp
      refine hK.out _ _ (Or.inl (by kernel_rfl)) (fun _ => ?_)
      clear hK K
      try simp only [Act.put, List.setIfInBounds_toArray, List.set_cons_zero, List.set_cons_succ]
      refine wpG_pure (i := 4) (oi := { dst := some 5, op := Go.Op.assign (Go.Operand.tmp 45), type := 4, pos := "l9_cover.go:71", after := #[{ on := 2, ground := Go.Ground.data }, { on := 3, ground := Go.Ground.chain }, { on := 0, ground := Go.Ground.phase }, { on := 1, ground := Go.Ground.phase }, { on := 2, ground := Go.Ground.phase }, { on := 3, ground := Go.Ground.phase }], guard := none }) (v := ?vg30) rfl (by kernel_rfl) (fun _ _ _ h => h) (Or.inl (by kernel_rfl)) (Or.inl ⟨by rfl, ?yg30⟩) ?_
      case yg30 => (intro wS _; go_simp <;> with_reducible rfl)
      try simp only [Act.put, List.setIfInBounds_toArray, List.set_cons_zero, List.set_cons_succ]
      refine wpG_done (by kernel_rfl) ?_
      go_wp2_with fail
      refine bodyPost_ret (v := .tuple #[.agg #[.slice (some ⟨g, 0, none⟩) 3 cp], .bool r]) (by simp [results, Try.results48, go_sem, k5]) rfl ⟨_, rfl, ?_, ?_⟩
      · show World.ownsRow _ _ _ _ _ (zipF meetP xs ys 3).length _
        rw [zipF_length]
        exact own_mono (ownsRow_setCell_below (own_later HOR.out HB5.out) (a := ⟨w.heap.size + 2, 0, none⟩) (by show w.heap.size + 2 < (w.heap.size + 3) + 1; omega) _) (by omega)
      · exact (HBW.out.trans (HB5.out.mono HBW.out.size)).setCell (p := ⟨w.heap.size + 2, 0, none⟩) (by show w.heap.size ≤ w.heap.size + 2; omega) _

def MR (xs ys : Bx) : Bx × Bool := if (zipF meetP xs ys 3).all (fun p => decide (p.1 ≤ p.2)) = true then (zipF meetP xs ys 3, true) else ([], false)
theorem MR_no (xs ys : Bx) (i : Nat) (hi : i < 3) (h : (meetP (xs.getD i (0, 0)) (ys.getD i (0, 0))).2 < (meetP (xs.getD i (0, 0)) (ys.getD i (0, 0))).1) : MR xs ys = ([], false) := by
  unfold MR
  rw [if_neg]
  intro hc
  have := List.all_eq_true.1 hc (meetP (xs.getD i (0, 0)) (ys.getD i (0, 0))) (by simp only [zipF, List.mem_map, List.mem_range]; exact ⟨i, hi, rfl⟩)
  have h2 := of_decide_eq_true this; omega
theorem MR_yes (xs ys : Bx) (h : (zipF meetP xs ys 3).all (fun p => decide (p.1 ≤ p.2)) = true) : MR xs ys = (zipF meetP xs ys 3, true) := by unfold MR; rw [if_pos h]


set_option maxHeartbeats 8000000 in
theorem spec_meet (a b : Option Addr) (cap cap' : Nat) (xs ys : Bx) (w : World) (ha : Rw w a (sds xs)) (hb : Rw w b (sds ys)) (hx : xs.length = 3) (hy : ys.length = 3) :
    Calls Try.prog 47 #[.agg #[.slice a xs.length cap], .agg #[.slice b ys.length cap']] w (MadeBox (MR xs ys) w) := by
  obtain ⟨i0, hi, hz0, hz1, hz2⟩ := info_parts Try.infoSide
  have HL1 := Lib.hid hx; have HL2 := Lib.hid hy
  have HA := Lib.hid ha; have HB := Lib.hid hb
  clear ha hb hx hy
  go_enter Try.func47, Try.ntmps47
  go_wp2_with fail
  go_loopw [14] (fun iv wr => ∃ (i : Nat) (v : Value), i ≤ 3 ∧ iv = .int .i64 (i : Int) ∧ Hid ((zipF meetP xs ys i).all (fun p => decide (p.1 ≤ p.2)) = true) ∧ Hid (wr.cell? ⟨(w.heap.size + 3), 0, none⟩ = some v ∧ wr.frozen? ⟨(w.heap.size + 3), 0, none⟩ = false ∧ (w.heap.size + 3) < wr.heap.size) ∧ Hid (wr.ownsRow ((w.heap.size + 3) + 1) 64 2 v i (sds (zipF meetP xs ys i))) ∧ Hid (Below (w.heap.size + 3) (((w.alloc (.cells #[.slice a xs.length cap] 28)).alloc (.cells #[.slice b ys.length cap'] 28)).alloc (.cells #[.slice none 0 0] 28)) wr)) (fun iv _ => 3 - (intOf iv).toNat)
  case atStart => exact ⟨0, _, by omega, rfl, rfl, ⟨by go_simp, by go_simp, by simp⟩, World.ownsRow_nil _ _ _ _, (Below.refl _ _).alloc (by simp) _⟩
  case round =>
    obtain ⟨i, v, hi3, rfl, HAL, HCL, HOR, HBR⟩ := hrel
    obtain ⟨co, cof, hlw⟩ := HCL.out
    have HBW := Lib.hid (box3_below HBR.out)
    by_cases hlt : i < 3
    · skip
      have HC3 : Hid (i + 1 ≤ maxLen) := by show i + 1 ≤ maxLen; unfold maxLen; omega
      have HC4 : Hid ((i + 1) * 16 ≤ 140737488355328) := by show (i + 1) * 16 ≤ 140737488355328; omega
      have hk1 : i < xs.length := by have := HL1.out; omega
      have hk2 : i < ys.length := by have := HL2.out; omega
      obtain ⟨b1, off1, rfl, hbl1, hc1⟩ := HA.out.at (sds_ne hk1)
      obtain ⟨b2, off2, rfl, hbl2, hc2⟩ := HB.out.at (sds_ne hk2)
      have d1 := (HBW.out.cell (p := ⟨b1, off1 + i * 2, none⟩) hbl1).trans (hc1 _ _ (sds_lo xs i hk1))
      have d2 : wr.cell? ⟨b1, off1 + i * 2 + 1, none⟩ = _ := (HBW.out.cell (p := ⟨b1, off1 + (i * 2 + 1), none⟩) hbl1).trans (hc1 _ _ (sds_hi xs i hk1))
      have d3 := (HBW.out.cell (p := ⟨b2, off2 + i * 2, none⟩) hbl2).trans (hc2 _ _ (sds_lo ys i hk2))
      have d4 : wr.cell? ⟨b2, off2 + i * 2 + 1, none⟩ = _ := (HBW.out.cell (p := ⟨b2, off2 + (i * 2 + 1), none⟩) hbl2).trans (hc2 _ _ (sds_hi ys i hk2))
      have d5 : wr.cell? ⟨w.heap.size + 1, 0, none⟩ = some (.slice (some ⟨b2, off2, none⟩) ys.length cap') := box3_b HBR.out 0
      have l1 : b1 < wr.heap.size := by omega
      have l2 : b2 < wr.heap.size := by omega
      have l3 : w.heap.size + 1 < wr.heap.size := by omega
      have HZ : Hid (∀ (wx : World) (v : Value), wx.ownsRow ((w.heap.size + 3) + 1) 64 2 v (i + 1) (sds (zipF meetP xs ys i) ++ [.int .i64 (meetP (xs.getD i (0, 0)) (ys.getD i (0, 0))).1, .int .i64 (meetP (xs.getD i (0, 0)) (ys.getD i (0, 0))).2]) → wx.ownsRow ((w.heap.size + 3) + 1) 64 2 v (i + 1) (sds (zipF meetP xs ys (i + 1)))) := by
        intro wx v h
        rw [zipF_snoc, sds_snoc]; exact h
      clear hc1 hc2
      have HMN : Hid ((meetP (xs.getD i (0, 0)) (ys.getD i (0, 0))).2 < (meetP (xs.getD i (0, 0)) (ys.getD i (0, 0))).1 → MR xs ys = ([], false)) := Lib.hid (MR_no xs ys i hlt)
      have HZS : Hid (zipF meetP xs ys (i + 1) = zipF meetP xs ys i ++ [meetP (xs.getD i (0, 0)) (ys.getD i (0, 0))]) := Lib.hid (zipF_snoc _ _ _ _)
      generalize xs.getD i (0, 0) = p at *
      generalize ys.getD i (0, 0) = q at *
      obtain ⟨x1, x2⟩ := p
      obtain ⟨y1, y2⟩ := q
      by_cases t1 : y1 > x1
      · by_cases t2 : y2 < x2
        · skip
          have HML : Hid (meetP (x1, x2) (y1, y2) = (y1, y2)) := by show (if y1 > x1 then y1 else x1, if y2 < x2 then y2 else x2) = _; first | rw [if_pos t1, if_pos t2] | rw [if_pos t1, if_neg t2] | rw [if_neg t1, if_pos t2] | rw [if_neg t1, if_neg t2]
          by_cases t3 : y2 < y1
          · have hno := HMN.out (by rw [HML.out]; exact t3)
            have HNO := Lib.hid hno
            clear hno
            have k1 : wr.cell? ⟨w.heap.size + 2, 0, none⟩ = some (.slice none 0 0) := box3_c HBR.out 0
            have k2 : wr.frozen? ⟨w.heap.size + 2, 0, none⟩ = false := box3_f HBR.out 0
            have l4 : w.heap.size + 2 < wr.heap.size := by omega
            go_wp2_with fail
            rw [HNO.out]
            have kr : (((wr.setCell ⟨w.heap.size + 1 + 1, 0, none⟩ (.slice none 0 0)).alloc (.cells #[.int .i64 y1, .int .i64 y2] 64)).alloc (.cells #[.int .i64 y1, .int .i64 y2] 64)).cell? ⟨w.heap.size + 1 + 1, 0, none⟩ = some (.slice none 0 0) := cell_alloc _ (cell_alloc _ (World.cell?_setCell_same _ _ _ k1))
            refine bodyPost_ret (v := .tuple #[.agg #[.slice none 0 0], .bool false]) (by simp [results, Try.results47, go_sem, kr]) rfl ⟨_, rfl, World.ownsRow_nil _ _ _ _, ?_⟩
            exact ((HBW.out.setCell (p := ⟨w.heap.size + 1 + 1, 0, none⟩) (by show w.heap.size ≤ w.heap.size + 1 + 1; omega) _).alloc (by have := HBW.out.size; simp; omega) _).alloc (by have := HBW.out.size; simp; omega) _
          · skip
            have HAL2 : Hid ((zipF meetP xs ys (i + 1)).all (fun p => decide (p.1 ≤ p.2)) = true) := Lib.hid (by rw [HZS.out]; simp only [List.all_append, HAL.out, List.all_cons, List.all_nil, Bool.true_and, Bool.and_true]; show decide ((meetP (x1, x2) (y1, y2)).1 ≤ (meetP (x1, x2) (y1, y2)).2) = true; rw [show meetP (x1, x2) (y1, y2) = (y1, y2) by (show (if y1 > x1 then y1 else x1, if y2 < x2 then y2 else x2) = _; first | rw [if_pos t1, if_pos t2] | rw [if_pos t1, if_neg t2] | rw [if_neg t1, if_pos t2] | rw [if_neg t1, if_neg t2])]; simp; omega)
            have HZ' : Hid (meetP (x1, x2) (y1, y2) = (y1, y2)) := by show (if y1 > x1 then y1 else x1, if y2 < x2 then y2 else x2) = _; first | rw [if_pos t1, if_pos t2] | rw [if_pos t1, if_neg t2] | rw [if_neg t1, if_pos t2] | rw [if_neg t1, if_neg t2]
            have ALL := Lib.hid ((((HBR.out.alloc (by have := HBR.out.size; simp at this; omega) (.cells #[.int .i64 y1, .int .i64 y2] 64)).alloc (by have := HBR.out.size; simp at this ⊢; omega) (.cells #[.int .i64 y1, .int .i64 y2] 64)).alloc (by have := HBR.out.size; simp at this ⊢; omega) (.cells #[.int .i64 y1, .int .i64 y2] 64)))
            have CO3 : Hid (((((wr.alloc (.cells #[.int .i64 y1, .int .i64 y2] 64)).alloc (.cells #[.int .i64 y1, .int .i64 y2] 64)).alloc (.cells #[.int .i64 y1, .int .i64 y2] 64)).cell? ⟨(w.heap.size + 3), 0, none⟩ = some v) ∧ ((((wr.alloc (.cells #[.int .i64 y1, .int .i64 y2] 64)).alloc (.cells #[.int .i64 y1, .int .i64 y2] 64)).alloc (.cells #[.int .i64 y1, .int .i64 y2] 64)).frozen? ⟨(w.heap.size + 3), 0, none⟩ = false)) :=
              Lib.hid ⟨((below_3 wr _ _ _).cell (p := ⟨(w.heap.size + 3), 0, none⟩) hlw).trans co, ((below_3 wr _ _ _).frozen (p := ⟨(w.heap.size + 3), 0, none⟩) hlw).trans cof⟩
            have HNEWS : Hid (∀ (j : Nat) (u : Value), [Value.int .i64 y1, Value.int .i64 y2][j]? = some u → (((wr.alloc (.cells #[.int .i64 y1, .int .i64 y2] 64)).alloc (.cells #[.int .i64 y1, .int .i64 y2] 64)).alloc (.cells #[.int .i64 y1, .int .i64 y2] 64)).cell? ((⟨wr.heap.size + 1 + 1, 0, none⟩ : Addr).add j) = some u) := by
              have h := World.news_of_block (cs := #[Value.int .i64 y1, Value.int .i64 y2]) (t := 64) (fr := (0, 0)) (heap_alloc_new ((wr.alloc (.cells #[.int .i64 y1, .int .i64 y2] 64)).alloc (.cells #[.int .i64 y1, .int .i64 y2] 64)) (.cells #[.int .i64 y1, .int .i64 y2] 64))
              simp only [World.size_alloc] at h
              exact Lib.hid h
            have HNE : Hid (some (w.heap.size + 3) ≠ v.ownBlock) := Lib.hid (by intro h; have := (HOR.out.lt _ h.symm).1; omega)
            have co' : wr.cell? ⟨w.heap.size + 1 + 1 + 1, 0, none⟩ = some v := co
            have cof' : wr.frozen? ⟨w.heap.size + 1 + 1 + 1, 0, none⟩ = false := cof
            have hlw' : w.heap.size + 1 + 1 + 1 < wr.heap.size := hlw
            have co2 : ((wr.alloc (.cells #[.int .i64 y1, .int .i64 y2] 64)).alloc (.cells #[.int .i64 y1, .int .i64 y2] 64)).cell? ⟨w.heap.size + 1 + 1 + 1, 0, none⟩ = some v := cell_alloc _ (cell_alloc _ co)
            go_wp2_with (at_builtin; refine wpList_append_own _ rfl _ _ 26 rfl ((w.heap.size + 3) + 1) 64 i0 (.agg #[.int .i64 0, .int .i64 0]) 2 16 Try.underlying26 hi hz0 hz1 hz2 rfl (by decide) _ i _ rfl (((HOR.out.alloc _).alloc _).alloc _) _ 1 1 [.int .i64 y1, .int .i64 y2] rfl rfl HNEWS.out (by simp [Value.oneCell']) HC3.out HC4.out (by simp; omega) ?_)
            intro v' w4 hown hgrow hnil
            obtain ⟨g, cp, rfl, _, _⟩ := hown.form (by omega : 1 ≤ i + 1)
            have hlt4 : (w.heap.size + 3) < w4.heap.size := by have := hgrow.size; simp at this; omega
            have e1 := (hgrow.cell_far ⟨(w.heap.size + 3), 0, none⟩ (by simp; omega) HNE.out).trans CO3.out.1
            have e2 := (hgrow.frozen_far ⟨(w.heap.size + 3), 0, none⟩ (by simp; omega) HNE.out).trans CO3.out.2
            have e1' : w4.cell? ⟨w.heap.size + 1 + 1 + 1, 0, none⟩ = some v := e1
            have e2' : w4.frozen? ⟨w.heap.size + 1 + 1 + 1, 0, none⟩ = false := e2
            have HB4 := Lib.hid (Below.grown ALL.out hgrow (by have := HBR.out.size; simp at this ⊢; omega) (fun j hj => by have := (HOR.out.lt j hj).1; omega))
            have hrow4 := ownsRow_setCell_below hown (a := ⟨(w.heap.size + 3), 0, none⟩) (Nat.lt_succ_self _) (.slice (some ⟨g, 0, none⟩) (i + 1) cp)
            have HOW : Hid ((w4.setCell ⟨(w.heap.size + 3), 0, none⟩ (.slice (some ⟨g, 0, none⟩) (i + 1) cp)).ownsRow ((w.heap.size + 3) + 1) 64 2 (.slice (some ⟨g, 0, none⟩) (i + 1) cp) (i + 1) (sds (zipF meetP xs ys (i + 1)))) := Lib.hid (HZ.out _ _ (by rw [HZ'.out]; exact hrow4))
            clear hown hgrow hnil hrow4
            go_wp2_with fail
            go_roundw
            case rel => exact ⟨i + 1, _, by omega, by go_num, HAL2, Lib.hid ⟨World.cell?_setCell_same _ _ _ e1, by rw [World.frozen?_setCell]; exact e2, by rw [World.size_setCell]; exact hlt4⟩, HOW, Lib.hid (HB4.out.setCell (p := ⟨(w.heap.size + 3), 0, none⟩) (Nat.le_refl _) _)⟩
            case measure => simp [intOf]; omega
        · skip
          have HML : Hid (meetP (x1, x2) (y1, y2) = (y1, x2)) := by show (if y1 > x1 then y1 else x1, if y2 < x2 then y2 else x2) = _; first | rw [if_pos t1, if_pos t2] | rw [if_pos t1, if_neg t2] | rw [if_neg t1, if_pos t2] | rw [if_neg t1, if_neg t2]
          by_cases t3 : x2 < y1
          · have hno := HMN.out (by rw [HML.out]; exact t3)
            have HNO := Lib.hid hno
            clear hno
            have k1 : wr.cell? ⟨w.heap.size + 2, 0, none⟩ = some (.slice none 0 0) := box3_c HBR.out 0
            have k2 : wr.frozen? ⟨w.heap.size + 2, 0, none⟩ = false := box3_f HBR.out 0
            have l4 : w.heap.size + 2 < wr.heap.size := by omega
            go_wp2_with fail
            rw [HNO.out]
            have kr : (((wr.setCell ⟨w.heap.size + 1 + 1, 0, none⟩ (.slice none 0 0)).alloc (.cells #[.int .i64 y1, .int .i64 x2] 64)).alloc (.cells #[.int .i64 y1, .int .i64 y2] 64)).cell? ⟨w.heap.size + 1 + 1, 0, none⟩ = some (.slice none 0 0) := cell_alloc _ (cell_alloc _ (World.cell?_setCell_same _ _ _ k1))
            refine bodyPost_ret (v := .tuple #[.agg #[.slice none 0 0], .bool false]) (by simp [results, Try.results47, go_sem, kr]) rfl ⟨_, rfl, World.ownsRow_nil _ _ _ _, ?_⟩
            exact ((HBW.out.setCell (p := ⟨w.heap.size + 1 + 1, 0, none⟩) (by show w.heap.size ≤ w.heap.size + 1 + 1; omega) _).alloc (by have := HBW.out.size; simp; omega) _).alloc (by have := HBW.out.size; simp; omega) _
          · skip
            have HAL2 : Hid ((zipF meetP xs ys (i + 1)).all (fun p => decide (p.1 ≤ p.2)) = true) := Lib.hid (by rw [HZS.out]; simp only [List.all_append, HAL.out, List.all_cons, List.all_nil, Bool.true_and, Bool.and_true]; show decide ((meetP (x1, x2) (y1, y2)).1 ≤ (meetP (x1, x2) (y1, y2)).2) = true; rw [show meetP (x1, x2) (y1, y2) = (y1, x2) by (show (if y1 > x1 then y1 else x1, if y2 < x2 then y2 else x2) = _; first | rw [if_pos t1, if_pos t2] | rw [if_pos t1, if_neg t2] | rw [if_neg t1, if_pos t2] | rw [if_neg t1, if_neg t2])]; simp; omega)
            have HZ' : Hid (meetP (x1, x2) (y1, y2) = (y1, x2)) := by show (if y1 > x1 then y1 else x1, if y2 < x2 then y2 else x2) = _; first | rw [if_pos t1, if_pos t2] | rw [if_pos t1, if_neg t2] | rw [if_neg t1, if_pos t2] | rw [if_neg t1, if_neg t2]
            have ALL := Lib.hid ((((HBR.out.alloc (by have := HBR.out.size; simp at this; omega) (.cells #[.int .i64 y1, .int .i64 x2] 64)).alloc (by have := HBR.out.size; simp at this ⊢; omega) (.cells #[.int .i64 y1, .int .i64 y2] 64)).alloc (by have := HBR.out.size; simp at this ⊢; omega) (.cells #[.int .i64 y1, .int .i64 x2] 64)))
            have CO3 : Hid (((((wr.alloc (.cells #[.int .i64 y1, .int .i64 x2] 64)).alloc (.cells #[.int .i64 y1, .int .i64 y2] 64)).alloc (.cells #[.int .i64 y1, .int .i64 x2] 64)).cell? ⟨(w.heap.size + 3), 0, none⟩ = some v) ∧ ((((wr.alloc (.cells #[.int .i64 y1, .int .i64 x2] 64)).alloc (.cells #[.int .i64 y1, .int .i64 y2] 64)).alloc (.cells #[.int .i64 y1, .int .i64 x2] 64)).frozen? ⟨(w.heap.size + 3), 0, none⟩ = false)) :=
              Lib.hid ⟨((below_3 wr _ _ _).cell (p := ⟨(w.heap.size + 3), 0, none⟩) hlw).trans co, ((below_3 wr _ _ _).frozen (p := ⟨(w.heap.size + 3), 0, none⟩) hlw).trans cof⟩
            have HNEWS : Hid (∀ (j : Nat) (u : Value), [Value.int .i64 y1, Value.int .i64 x2][j]? = some u → (((wr.alloc (.cells #[.int .i64 y1, .int .i64 x2] 64)).alloc (.cells #[.int .i64 y1, .int .i64 y2] 64)).alloc (.cells #[.int .i64 y1, .int .i64 x2] 64)).cell? ((⟨wr.heap.size + 1 + 1, 0, none⟩ : Addr).add j) = some u) := by
              have h := World.news_of_block (cs := #[Value.int .i64 y1, Value.int .i64 x2]) (t := 64) (fr := (0, 0)) (heap_alloc_new ((wr.alloc (.cells #[.int .i64 y1, .int .i64 x2] 64)).alloc (.cells #[.int .i64 y1, .int .i64 y2] 64)) (.cells #[.int .i64 y1, .int .i64 x2] 64))
              simp only [World.size_alloc] at h
              exact Lib.hid h
            have HNE : Hid (some (w.heap.size + 3) ≠ v.ownBlock) := Lib.hid (by intro h; have := (HOR.out.lt _ h.symm).1; omega)
            have co' : wr.cell? ⟨w.heap.size + 1 + 1 + 1, 0, none⟩ = some v := co
            have cof' : wr.frozen? ⟨w.heap.size + 1 + 1 + 1, 0, none⟩ = false := cof
            have hlw' : w.heap.size + 1 + 1 + 1 < wr.heap.size := hlw
            have co2 : ((wr.alloc (.cells #[.int .i64 y1, .int .i64 x2] 64)).alloc (.cells #[.int .i64 y1, .int .i64 y2] 64)).cell? ⟨w.heap.size + 1 + 1 + 1, 0, none⟩ = some v := cell_alloc _ (cell_alloc _ co)
            go_wp2_with (at_builtin; refine wpList_append_own _ rfl _ _ 26 rfl ((w.heap.size + 3) + 1) 64 i0 (.agg #[.int .i64 0, .int .i64 0]) 2 16 Try.underlying26 hi hz0 hz1 hz2 rfl (by decide) _ i _ rfl (((HOR.out.alloc _).alloc _).alloc _) _ 1 1 [.int .i64 y1, .int .i64 x2] rfl rfl HNEWS.out (by simp [Value.oneCell']) HC3.out HC4.out (by simp; omega) ?_)
            intro v' w4 hown hgrow hnil
            obtain ⟨g, cp, rfl, _, _⟩ := hown.form (by omega : 1 ≤ i + 1)
            have hlt4 : (w.heap.size + 3) < w4.heap.size := by have := hgrow.size; simp at this; omega
            have e1 := (hgrow.cell_far ⟨(w.heap.size + 3), 0, none⟩ (by simp; omega) HNE.out).trans CO3.out.1
            have e2 := (hgrow.frozen_far ⟨(w.heap.size + 3), 0, none⟩ (by simp; omega) HNE.out).trans CO3.out.2
            have e1' : w4.cell? ⟨w.heap.size + 1 + 1 + 1, 0, none⟩ = some v := e1
            have e2' : w4.frozen? ⟨w.heap.size + 1 + 1 + 1, 0, none⟩ = false := e2
            have HB4 := Lib.hid (Below.grown ALL.out hgrow (by have := HBR.out.size; simp at this ⊢; omega) (fun j hj => by have := (HOR.out.lt j hj).1; omega))
            have hrow4 := ownsRow_setCell_below hown (a := ⟨(w.heap.size + 3), 0, none⟩) (Nat.lt_succ_self _) (.slice (some ⟨g, 0, none⟩) (i + 1) cp)
            have HOW : Hid ((w4.setCell ⟨(w.heap.size + 3), 0, none⟩ (.slice (some ⟨g, 0, none⟩) (i + 1) cp)).ownsRow ((w.heap.size + 3) + 1) 64 2 (.slice (some ⟨g, 0, none⟩) (i + 1) cp) (i + 1) (sds (zipF meetP xs ys (i + 1)))) := Lib.hid (HZ.out _ _ (by rw [HZ'.out]; exact hrow4))
            clear hown hgrow hnil hrow4
            go_wp2_with fail
            go_roundw
            case rel => exact ⟨i + 1, _, by omega, by go_num, HAL2, Lib.hid ⟨World.cell?_setCell_same _ _ _ e1, by rw [World.frozen?_setCell]; exact e2, by rw [World.size_setCell]; exact hlt4⟩, HOW, Lib.hid (HB4.out.setCell (p := ⟨(w.heap.size + 3), 0, none⟩) (Nat.le_refl _) _)⟩
            case measure => simp [intOf]; omega
      · by_cases t2 : y2 < x2
        · skip
          have HML : Hid (meetP (x1, x2) (y1, y2) = (x1, y2)) := by show (if y1 > x1 then y1 else x1, if y2 < x2 then y2 else x2) = _; first | rw [if_pos t1, if_pos t2] | rw [if_pos t1, if_neg t2] | rw [if_neg t1, if_pos t2] | rw [if_neg t1, if_neg t2]
          by_cases t3 : y2 < x1
          · have hno := HMN.out (by rw [HML.out]; exact t3)
            have HNO := Lib.hid hno
            clear hno
            have k1 : wr.cell? ⟨w.heap.size + 2, 0, none⟩ = some (.slice none 0 0) := box3_c HBR.out 0
            have k2 : wr.frozen? ⟨w.heap.size + 2, 0, none⟩ = false := box3_f HBR.out 0
            have l4 : w.heap.size + 2 < wr.heap.size := by omega
            go_wp2_with fail
            rw [HNO.out]
            have kr : (((wr.setCell ⟨w.heap.size + 1 + 1, 0, none⟩ (.slice none 0 0)).alloc (.cells #[.int .i64 x1, .int .i64 y2] 64)).alloc (.cells #[.int .i64 y1, .int .i64 y2] 64)).cell? ⟨w.heap.size + 1 + 1, 0, none⟩ = some (.slice none 0 0) := cell_alloc _ (cell_alloc _ (World.cell?_setCell_same _ _ _ k1))
            refine bodyPost_ret (v := .tuple #[.agg #[.slice none 0 0], .bool false]) (by simp [results, Try.results47, go_sem, kr]) rfl ⟨_, rfl, World.ownsRow_nil _ _ _ _, ?_⟩
            exact ((HBW.out.setCell (p := ⟨w.heap.size + 1 + 1, 0, none⟩) (by show w.heap.size ≤ w.heap.size + 1 + 1; omega) _).alloc (by have := HBW.out.size; simp; omega) _).alloc (by have := HBW.out.size; simp; omega) _
          · skip
            have HAL2 : Hid ((zipF meetP xs ys (i + 1)).all (fun p => decide (p.1 ≤ p.2)) = true) := Lib.hid (by rw [HZS.out]; simp only [List.all_append, HAL.out, List.all_cons, List.all_nil, Bool.true_and, Bool.and_true]; show decide ((meetP (x1, x2) (y1, y2)).1 ≤ (meetP (x1, x2) (y1, y2)).2) = true; rw [show meetP (x1, x2) (y1, y2) = (x1, y2) by (show (if y1 > x1 then y1 else x1, if y2 < x2 then y2 else x2) = _; first | rw [if_pos t1, if_pos t2] | rw [if_pos t1, if_neg t2] | rw [if_neg t1, if_pos t2] | rw [if_neg t1, if_neg t2])]; simp; omega)
            have HZ' : Hid (meetP (x1, x2) (y1, y2) = (x1, y2)) := by show (if y1 > x1 then y1 else x1, if y2 < x2 then y2 else x2) = _; first | rw [if_pos t1, if_pos t2] | rw [if_pos t1, if_neg t2] | rw [if_neg t1, if_pos t2] | rw [if_neg t1, if_neg t2]
            have ALL := Lib.hid ((((HBR.out.alloc (by have := HBR.out.size; simp at this; omega) (.cells #[.int .i64 x1, .int .i64 y2] 64)).alloc (by have := HBR.out.size; simp at this ⊢; omega) (.cells #[.int .i64 y1, .int .i64 y2] 64)).alloc (by have := HBR.out.size; simp at this ⊢; omega) (.cells #[.int .i64 x1, .int .i64 y2] 64)))
            have CO3 : Hid (((((wr.alloc (.cells #[.int .i64 x1, .int .i64 y2] 64)).alloc (.cells #[.int .i64 y1, .int .i64 y2] 64)).alloc (.cells #[.int .i64 x1, .int .i64 y2] 64)).cell? ⟨(w.heap.size + 3), 0, none⟩ = some v) ∧ ((((wr.alloc (.cells #[.int .i64 x1, .int .i64 y2] 64)).alloc (.cells #[.int .i64 y1, .int .i64 y2] 64)).alloc (.cells #[.int .i64 x1, .int .i64 y2] 64)).frozen? ⟨(w.heap.size + 3), 0, none⟩ = false)) :=
              Lib.hid ⟨((below_3 wr _ _ _).cell (p := ⟨(w.heap.size + 3), 0, none⟩) hlw).trans co, ((below_3 wr _ _ _).frozen (p := ⟨(w.heap.size + 3), 0, none⟩) hlw).trans cof⟩
            have HNEWS : Hid (∀ (j : Nat) (u : Value), [Value.int .i64 x1, Value.int .i64 y2][j]? = some u → (((wr.alloc (.cells #[.int .i64 x1, .int .i64 y2] 64)).alloc (.cells #[.int .i64 y1, .int .i64 y2] 64)).alloc (.cells #[.int .i64 x1, .int .i64 y2] 64)).cell? ((⟨wr.heap.size + 1 + 1, 0, none⟩ : Addr).add j) = some u) := by
              have h := World.news_of_block (cs := #[Value.int .i64 x1, Value.int .i64 y2]) (t := 64) (fr := (0, 0)) (heap_alloc_new ((wr.alloc (.cells #[.int .i64 x1, .int .i64 y2] 64)).alloc (.cells #[.int .i64 y1, .int .i64 y2] 64)) (.cells #[.int .i64 x1, .int .i64 y2] 64))
              simp only [World.size_alloc] at h
              exact Lib.hid h
            have HNE : Hid (some (w.heap.size + 3) ≠ v.ownBlock) := Lib.hid (by intro h; have := (HOR.out.lt _ h.symm).1; omega)
            have co' : wr.cell? ⟨w.heap.size + 1 + 1 + 1, 0, none⟩ = some v := co
            have cof' : wr.frozen? ⟨w.heap.size + 1 + 1 + 1, 0, none⟩ = false := cof
            have hlw' : w.heap.size + 1 + 1 + 1 < wr.heap.size := hlw
            have co2 : ((wr.alloc (.cells #[.int .i64 x1, .int .i64 y2] 64)).alloc (.cells #[.int .i64 y1, .int .i64 y2] 64)).cell? ⟨w.heap.size + 1 + 1 + 1, 0, none⟩ = some v := cell_alloc _ (cell_alloc _ co)
            go_wp2_with (at_builtin; refine wpList_append_own _ rfl _ _ 26 rfl ((w.heap.size + 3) + 1) 64 i0 (.agg #[.int .i64 0, .int .i64 0]) 2 16 Try.underlying26 hi hz0 hz1 hz2 rfl (by decide) _ i _ rfl (((HOR.out.alloc _).alloc _).alloc _) _ 1 1 [.int .i64 x1, .int .i64 y2] rfl rfl HNEWS.out (by simp [Value.oneCell']) HC3.out HC4.out (by simp; omega) ?_)
            intro v' w4 hown hgrow hnil
            obtain ⟨g, cp, rfl, _, _⟩ := hown.form (by omega : 1 ≤ i + 1)
            have hlt4 : (w.heap.size + 3) < w4.heap.size := by have := hgrow.size; simp at this; omega
            have e1 := (hgrow.cell_far ⟨(w.heap.size + 3), 0, none⟩ (by simp; omega) HNE.out).trans CO3.out.1
            have e2 := (hgrow.frozen_far ⟨(w.heap.size + 3), 0, none⟩ (by simp; omega) HNE.out).trans CO3.out.2
            have e1' : w4.cell? ⟨w.heap.size + 1 + 1 + 1, 0, none⟩ = some v := e1
            have e2' : w4.frozen? ⟨w.heap.size + 1 + 1 + 1, 0, none⟩ = false := e2
            have HB4 := Lib.hid (Below.grown ALL.out hgrow (by have := HBR.out.size; simp at this ⊢; omega) (fun j hj => by have := (HOR.out.lt j hj).1; omega))
            have hrow4 := ownsRow_setCell_below hown (a := ⟨(w.heap.size + 3), 0, none⟩) (Nat.lt_succ_self _) (.slice (some ⟨g, 0, none⟩) (i + 1) cp)
            have HOW : Hid ((w4.setCell ⟨(w.heap.size + 3), 0, none⟩ (.slice (some ⟨g, 0, none⟩) (i + 1) cp)).ownsRow ((w.heap.size + 3) + 1) 64 2 (.slice (some ⟨g, 0, none⟩) (i + 1) cp) (i + 1) (sds (zipF meetP xs ys (i + 1)))) := Lib.hid (HZ.out _ _ (by rw [HZ'.out]; exact hrow4))
            clear hown hgrow hnil hrow4
            go_wp2_with fail
            go_roundw
            case rel => exact ⟨i + 1, _, by omega, by go_num, HAL2, Lib.hid ⟨World.cell?_setCell_same _ _ _ e1, by rw [World.frozen?_setCell]; exact e2, by rw [World.size_setCell]; exact hlt4⟩, HOW, Lib.hid (HB4.out.setCell (p := ⟨(w.heap.size + 3), 0, none⟩) (Nat.le_refl _) _)⟩
            case measure => simp [intOf]; omega
        · skip
          have HML : Hid (meetP (x1, x2) (y1, y2) = (x1, x2)) := by show (if y1 > x1 then y1 else x1, if y2 < x2 then y2 else x2) = _; first | rw [if_pos t1, if_pos t2] | rw [if_pos t1, if_neg t2] | rw [if_neg t1, if_pos t2] | rw [if_neg t1, if_neg t2]
          by_cases t3 : x2 < x1
          · have hno := HMN.out (by rw [HML.out]; exact t3)
            have HNO := Lib.hid hno
            clear hno
            have k1 : wr.cell? ⟨w.heap.size + 2, 0, none⟩ = some (.slice none 0 0) := box3_c HBR.out 0
            have k2 : wr.frozen? ⟨w.heap.size + 2, 0, none⟩ = false := box3_f HBR.out 0
            have l4 : w.heap.size + 2 < wr.heap.size := by omega
            go_wp2_with fail
            rw [HNO.out]
            have kr : (((wr.setCell ⟨w.heap.size + 1 + 1, 0, none⟩ (.slice none 0 0)).alloc (.cells #[.int .i64 x1, .int .i64 x2] 64)).alloc (.cells #[.int .i64 y1, .int .i64 y2] 64)).cell? ⟨w.heap.size + 1 + 1, 0, none⟩ = some (.slice none 0 0) := cell_alloc _ (cell_alloc _ (World.cell?_setCell_same _ _ _ k1))
            refine bodyPost_ret (v := .tuple #[.agg #[.slice none 0 0], .bool false]) (by simp [results, Try.results47, go_sem, kr]) rfl ⟨_, rfl, World.ownsRow_nil _ _ _ _, ?_⟩
            exact ((HBW.out.setCell (p := ⟨w.heap.size + 1 + 1, 0, none⟩) (by show w.heap.size ≤ w.heap.size + 1 + 1; omega) _).alloc (by have := HBW.out.size; simp; omega) _).alloc (by have := HBW.out.size; simp; omega) _
          · skip
            have HAL2 : Hid ((zipF meetP xs ys (i + 1)).all (fun p => decide (p.1 ≤ p.2)) = true) := Lib.hid (by rw [HZS.out]; simp only [List.all_append, HAL.out, List.all_cons, List.all_nil, Bool.true_and, Bool.and_true]; show decide ((meetP (x1, x2) (y1, y2)).1 ≤ (meetP (x1, x2) (y1, y2)).2) = true; rw [show meetP (x1, x2) (y1, y2) = (x1, x2) by (show (if y1 > x1 then y1 else x1, if y2 < x2 then y2 else x2) = _; first | rw [if_pos t1, if_pos t2] | rw [if_pos t1, if_neg t2] | rw [if_neg t1, if_pos t2] | rw [if_neg t1, if_neg t2])]; simp; omega)
            have HZ' : Hid (meetP (x1, x2) (y1, y2) = (x1, x2)) := by show (if y1 > x1 then y1 else x1, if y2 < x2 then y2 else x2) = _; first | rw [if_pos t1, if_pos t2] | rw [if_pos t1, if_neg t2] | rw [if_neg t1, if_pos t2] | rw [if_neg t1, if_neg t2]
            have ALL := Lib.hid ((((HBR.out.alloc (by have := HBR.out.size; simp at this; omega) (.cells #[.int .i64 x1, .int .i64 x2] 64)).alloc (by have := HBR.out.size; simp at this ⊢; omega) (.cells #[.int .i64 y1, .int .i64 y2] 64)).alloc (by have := HBR.out.size; simp at this ⊢; omega) (.cells #[.int .i64 x1, .int .i64 x2] 64)))
            have CO3 : Hid (((((wr.alloc (.cells #[.int .i64 x1, .int .i64 x2] 64)).alloc (.cells #[.int .i64 y1, .int .i64 y2] 64)).alloc (.cells #[.int .i64 x1, .int .i64 x2] 64)).cell? ⟨(w.heap.size + 3), 0, none⟩ = some v) ∧ ((((wr.alloc (.cells #[.int .i64 x1, .int .i64 x2] 64)).alloc (.cells #[.int .i64 y1, .int .i64 y2] 64)).alloc (.cells #[.int .i64 x1, .int .i64 x2] 64)).frozen? ⟨(w.heap.size + 3), 0, none⟩ = false)) :=
              Lib.hid ⟨((below_3 wr _ _ _).cell (p := ⟨(w.heap.size + 3), 0, none⟩) hlw).trans co, ((below_3 wr _ _ _).frozen (p := ⟨(w.heap.size + 3), 0, none⟩) hlw).trans cof⟩
            have HNEWS : Hid (∀ (j : Nat) (u : Value), [Value.int .i64 x1, Value.int .i64 x2][j]? = some u → (((wr.alloc (.cells #[.int .i64 x1, .int .i64 x2] 64)).alloc (.cells #[.int .i64 y1, .int .i64 y2] 64)).alloc (.cells #[.int .i64 x1, .int .i64 x2] 64)).cell? ((⟨wr.heap.size + 1 + 1, 0, none⟩ : Addr).add j) = some u) := by
              have h := World.news_of_block (cs := #[Value.int .i64 x1, Value.int .i64 x2]) (t := 64) (fr := (0, 0)) (heap_alloc_new ((wr.alloc (.cells #[.int .i64 x1, .int .i64 x2] 64)).alloc (.cells #[.int .i64 y1, .int .i64 y2] 64)) (.cells #[.int .i64 x1, .int .i64 x2] 64))
              simp only [World.size_alloc] at h
              exact Lib.hid h
            have HNE : Hid (some (w.heap.size + 3) ≠ v.ownBlock) := Lib.hid (by intro h; have := (HOR.out.lt _ h.symm).1; omega)
            have co' : wr.cell? ⟨w.heap.size + 1 + 1 + 1, 0, none⟩ = some v := co
            have cof' : wr.frozen? ⟨w.heap.size + 1 + 1 + 1, 0, none⟩ = false := cof
            have hlw' : w.heap.size + 1 + 1 + 1 < wr.heap.size := hlw
            have co2 : ((wr.alloc (.cells #[.int .i64 x1, .int .i64 x2] 64)).alloc (.cells #[.int .i64 y1, .int .i64 y2] 64)).cell? ⟨w.heap.size + 1 + 1 + 1, 0, none⟩ = some v := cell_alloc _ (cell_alloc _ co)
            go_wp2_with (at_builtin; refine wpList_append_own _ rfl _ _ 26 rfl ((w.heap.size + 3) + 1) 64 i0 (.agg #[.int .i64 0, .int .i64 0]) 2 16 Try.underlying26 hi hz0 hz1 hz2 rfl (by decide) _ i _ rfl (((HOR.out.alloc _).alloc _).alloc _) _ 1 1 [.int .i64 x1, .int .i64 x2] rfl rfl HNEWS.out (by simp [Value.oneCell']) HC3.out HC4.out (by simp; omega) ?_)
            intro v' w4 hown hgrow hnil
            obtain ⟨g, cp, rfl, _, _⟩ := hown.form (by omega : 1 ≤ i + 1)
            have hlt4 : (w.heap.size + 3) < w4.heap.size := by have := hgrow.size; simp at this; omega
            have e1 := (hgrow.cell_far ⟨(w.heap.size + 3), 0, none⟩ (by simp; omega) HNE.out).trans CO3.out.1
            have e2 := (hgrow.frozen_far ⟨(w.heap.size + 3), 0, none⟩ (by simp; omega) HNE.out).trans CO3.out.2
            have e1' : w4.cell? ⟨w.heap.size + 1 + 1 + 1, 0, none⟩ = some v := e1
            have e2' : w4.frozen? ⟨w.heap.size + 1 + 1 + 1, 0, none⟩ = false := e2
            have HB4 := Lib.hid (Below.grown ALL.out hgrow (by have := HBR.out.size; simp at this ⊢; omega) (fun j hj => by have := (HOR.out.lt j hj).1; omega))
            have hrow4 := ownsRow_setCell_below hown (a := ⟨(w.heap.size + 3), 0, none⟩) (Nat.lt_succ_self _) (.slice (some ⟨g, 0, none⟩) (i + 1) cp)
            have HOW : Hid ((w4.setCell ⟨(w.heap.size + 3), 0, none⟩ (.slice (some ⟨g, 0, none⟩) (i + 1) cp)).ownsRow ((w.heap.size + 3) + 1) 64 2 (.slice (some ⟨g, 0, none⟩) (i + 1) cp) (i + 1) (sds (zipF meetP xs ys (i + 1)))) := Lib.hid (HZ.out _ _ (by rw [HZ'.out]; exact hrow4))
            clear hown hgrow hnil hrow4
            go_wp2_with fail
            go_roundw
            case rel => exact ⟨i + 1, _, by omega, by go_num, HAL2, Lib.hid ⟨World.cell?_setCell_same _ _ _ e1, by rw [World.frozen?_setCell]; exact e2, by rw [World.size_setCell]; exact hlt4⟩, HOW, Lib.hid (HB4.out.setCell (p := ⟨(w.heap.size + 3), 0, none⟩) (Nat.le_refl _) _)⟩
            case measure => simp [intOf]; omega
    · obtain rfl : i = 3 := by omega
      obtain ⟨g, cp, rfl, _, _⟩ := HOR.out.form (by omega : 1 ≤ 3)
      have k1 : wr.cell? ⟨w.heap.size + 2, 0, none⟩ = some (.slice none 0 0) := box3_c HBR.out 0
      have k2 : wr.frozen? ⟨w.heap.size + 2, 0, none⟩ = false := box3_f HBR.out 0
      have HY := Lib.hid (MR_yes xs ys HAL.out)
      have hl1 := HL1.out
      have hn3 : ¬ ((3 : Nat) : Int) < (xs.length : Int) := by omega
      clear hl1
      go_wp2_with fail
      rw [HY.out]
      refine bodyPost_ret (v := .tuple #[.agg #[.slice (some ⟨g, 0, none⟩) 3 cp], .bool true]) (by simp [results, Try.results47, go_sem, k1]) rfl ⟨_, rfl, ?_, ?_⟩
      · show World.ownsRow _ _ _ _ _ (zipF meetP xs ys 3).length _
        rw [zipF_length]
        exact own_mono (ownsRow_setCell_below HOR.out (a := ⟨w.heap.size + 2, 0, none⟩) (by show w.heap.size + 2 < (w.heap.size + 3) + 1; omega) _) (by omega)
      · exact HBW.out.setCell (p := ⟨w.heap.size + 2, 0, none⟩) (by show w.heap.size ≤ w.heap.size + 2; omega) _

end Go.Proofs.Ythlajmncpejhmaa
