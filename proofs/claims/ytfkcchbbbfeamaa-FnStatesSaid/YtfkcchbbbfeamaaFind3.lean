/- The contracts of the sort's merge, and of the stable sort, over rows that are in order: they write nothing. -/
import Derived.Test.YtfkcchbbbfeamaaFind2
namespace Go.Proofs.Ytfkcchbbbfeamaa
set_option linter.unusedVariables false
open Go.ChangeShapes Go.WideShapes Go.ChangeAt Go.RowKit
set_option maxRecDepth 100000

set_option maxHeartbeats 1000000 in
theorem merge_a {w0 : World} {g bw : Nat} {o : List Fd} (hS : So w0 g bw o) (c : Nat) (hc : o.length ≤ c) (hc2 : c ≤ 9223372036854775807) (a m b : Nat) (w : World) (h1 : a < m) (h2 : m < b) (h3 : b ≤ o.length) (hb : Below w0.heap.size w0 w) (hma : m - a = 1) :
    Calls Try.prog 82 #[.slice (some ⟨g, 0, none⟩) o.length c, .int .i64 (a : Int), .int .i64 (m : Int), .int .i64 (b : Int), .func (.func 67) #[] #[.pointer (some ⟨bw, 0, none⟩)]] w (NoW w0) := by
  have hln := hS.len
  have HS := Lib.hid hS; have HB := Lib.hid hb
  clear hS hb
  unfold NoW at *
  have e1 : IntKind.i64.wrap ((m : Int) - (a : Int)) = ((m - a : Nat) : Int) := by rw [IntWalk.i64_in _ (by omega)]; omega
  have e1' : (m : Int) - (a : Int) = ((m - a : Nat) : Int) := by omega
  have hq : (((m - a : Nat) : Int) == 1) = true := by rw [hma]; rfl
  go_enter Try.func82, Try.ntmps82
  go_wp2_with fail
  go_loopw [10, 11] (fun iv jv wr => ∃ j : Nat, m ≤ j ∧ j ≤ b ∧ iv = .int .i64 (m : Int) ∧ jv = .int .i64 (j : Int) ∧ Hid (Below w0.heap.size w0 wr)) (fun _ jv _ => (intOf jv).toNat - m)
  case atStart => exact ⟨b, by omega, Nat.le_refl _, rfl, rfl, HB⟩
  case round =>
    clear HB
    obtain ⟨w2, rfl⟩ : ∃ z : World, z = wr := ⟨_, rfl⟩
    obtain ⟨j, hj1, hj2, rfl, rfl, HB⟩ := hrel
    by_cases hmj : m < j
    case neg =>
      have hm1 : (m : Int) - 1 = (a : Int) := by omega
      go_wp2_with fail
      go_loopw [13] (fun kv wr => kv = .int .i64 (a : Int) ∧ Hid (Below w0.heap.size w0 wr)) (fun _ _ => 0)
      case atStart => exact ⟨rfl, HB⟩
      case round =>
        clear HB
        obtain ⟨w4, rfl⟩ : ∃ z : World, z = wr := ⟨_, rfl⟩
        obtain ⟨rfl, HB⟩ := hrel
        go_wp2_with fail
        first | (refine bodyPost_ret (results_none rfl _ _ _) rfl ?_) | (refine bodyPost_end (results_none rfl _ _ _) rfl ?_)
        exact ⟨rfl, HB.out⟩
    obtain ⟨h, hh⟩ : ∃ h : Nat, (m + j) / 2 = h := ⟨_, rfl⟩
    have hhi : ((m : Int) + (j : Int)) / 2 = (h : Int) := by omega
    have hb1 : m ≤ h := by omega
    have hb2 : h < j := by omega
    clear hh
    have hL1 : (h) < o.length := by omega
    have hL2 : (a) < o.length := by omega
    have hW1 : IntKind.i64.wrap (((h) : Nat) : Int) = (((h) : Nat) : Int) := IntWalk.i64_in _ (by omega)
    have hW2 : IntKind.i64.wrap (((a) : Nat) : Int) = (((a) : Nat) : Int) := IntWalk.i64_in _ (by omega)
    obtain ⟨x0, x1⟩ := HS.out.row w2 HB.out (h) (by omega)
    obtain ⟨y0, y1⟩ := HS.out.row w2 HB.out (a) (by omega)
    have HC := Lib.hid (HS.out.cmp (a) (h) (by omega) (by omega) w2.drew (rdrew HB.out 1))
    generalize o.getD (h) (0, 0) = x at *
    generalize o.getD (a) (0, 0) = y at *
    go_wp2_with fail
    refine wp_region_G [9] (fun w' => w'.cell? ⟨g, (h) * 2, none⟩ = some (.int .i64 x.1) ∧ w'.cell? ⟨g, (h) * 2 + 1, none⟩ = some (.int .i64 x.2) ∧ w'.cell? ⟨g, (a) * 2, none⟩ = some (.int .i64 y.1) ∧ w'.cell? ⟨g, (a) * 2 + 1, none⟩ = some (.int .i64 y.2)) (by kernel_rfl) ?_ (fun hHeld => ?_)
    · exact ⟨x0, x1, y0, y1⟩
    refine wpG_pure (i := 0) (oi := { dst := some 40, op := Go.Op.move (Go.Operand.tmp 4), type := 92, pos := "zsortanyfunc.go:390", after := #[], guard := none }) (v := ?vg1) rfl (by kernel_rfl) (fun _ _ _ h => h) (Or.inr hHeld) (Or.inl ⟨by rfl, ?yg1⟩) ?_
    case yg1 => (intro wS _; go_simp <;> with_reducible rfl)
    try simp only [Act.put, List.setIfInBounds_toArray, List.set_cons_zero, List.set_cons_succ]
    refine wpG_pure (i := 1) (oi := { dst := some 41, op := Go.Op.move (Go.Operand.tmp 0), type := 53, pos := "zsortanyfunc.go:390", after := #[], guard := none }) (v := ?vg2) rfl (by kernel_rfl) (fun _ _ _ h => h) (Or.inr hHeld) (Or.inl ⟨by rfl, ?yg2⟩) ?_
    case yg2 => (intro wS _; go_simp <;> with_reducible rfl)
    try simp only [Act.put, List.setIfInBounds_toArray, List.set_cons_zero, List.set_cons_succ]
    refine wpG_pure (i := 2) (oi := { dst := some 42, op := Go.Op.move (Go.Operand.tmp 12), type := 3, pos := "zsortanyfunc.go:390", after := #[], guard := none }) (v := ?vg3) rfl (by kernel_rfl) (fun _ _ _ h => h) (Or.inr hHeld) (Or.inl ⟨by rfl, ?yg3⟩) ?_
    case yg3 => (intro wS _; go_simp <;> with_reducible rfl)
    try simp only [Act.put, List.setIfInBounds_toArray, List.set_cons_zero, List.set_cons_succ]
    refine wpG_pure (i := 3) (oi := { dst := some 43, op := Go.Op.indexAddr 53 (Go.Operand.tmp 41) (Go.Operand.tmp 42), type := 0, pos := "zsortanyfunc.go:390", after := #[{ on := 1, ground := Go.Ground.data }, { on := 2, ground := Go.Ground.data }], guard := none }) (v := ?vg4) rfl (by kernel_rfl) (fun _ _ _ h => h) (Or.inr hHeld) (Or.inl ⟨by rfl, ?yg4⟩) ?_
    case yg4 => (intro wS _; go_simp <;> with_reducible rfl)
    try simp only [Act.put, List.setIfInBounds_toArray, List.set_cons_zero, List.set_cons_succ]
    refine wpG_load (i := 4) (oi := { dst := some 44, op := Go.Op.load 62 (Go.Operand.tmp 43), type := 62, pos := "zsortanyfunc.go:390", after := #[{ on := 3, ground := Go.Ground.data }], guard := none }) (v := ?vg5) [[9, 4]] rfl (by kernel_rfl) (fun _ _ _ h => h) hHeld (Or.inl ⟨by rfl, ?yg5⟩) ?_
    case yg5 => (intro wS hSw; (try dsimp only at hSw); go_simp <;> with_reducible rfl)
    try simp only [Act.put, List.setIfInBounds_toArray, List.set_cons_zero, List.set_cons_succ]
    refine wpG_pure (i := 5) (oi := { dst := some 45, op := Go.Op.move (Go.Operand.tmp 0), type := 53, pos := "zsortanyfunc.go:390", after := #[], guard := none }) (v := ?vg6) rfl (by kernel_rfl) (fun _ _ _ h => h) (Or.inr hHeld) (Or.inl ⟨by rfl, ?yg6⟩) ?_
    case yg6 => (intro wS _; go_simp <;> with_reducible rfl)
    try simp only [Act.put, List.setIfInBounds_toArray, List.set_cons_zero, List.set_cons_succ]
    refine wpG_pure (i := 6) (oi := { dst := some 46, op := Go.Op.move (Go.Operand.tmp 1), type := 3, pos := "zsortanyfunc.go:390", after := #[], guard := none }) (v := ?vg7) rfl (by kernel_rfl) (fun _ _ _ h => h) (Or.inr hHeld) (Or.inl ⟨by rfl, ?yg7⟩) ?_
    case yg7 => (intro wS _; go_simp <;> with_reducible rfl)
    try simp only [Act.put, List.setIfInBounds_toArray, List.set_cons_zero, List.set_cons_succ]
    refine wpG_pure (i := 7) (oi := { dst := some 47, op := Go.Op.indexAddr 53 (Go.Operand.tmp 45) (Go.Operand.tmp 46), type := 0, pos := "zsortanyfunc.go:390", after := #[{ on := 5, ground := Go.Ground.data }, { on := 6, ground := Go.Ground.data }], guard := none }) (v := ?vg8) rfl (by kernel_rfl) (fun _ _ _ h => h) (Or.inr hHeld) (Or.inl ⟨by rfl, ?yg8⟩) ?_
    case yg8 => (intro wS _; go_simp <;> with_reducible rfl)
    try simp only [Act.put, List.setIfInBounds_toArray, List.set_cons_zero, List.set_cons_succ]
    refine wpG_load (i := 8) (oi := { dst := some 48, op := Go.Op.load 62 (Go.Operand.tmp 47), type := 62, pos := "zsortanyfunc.go:390", after := #[{ on := 7, ground := Go.Ground.data }], guard := none }) (v := ?vg9) [[9, 8]] rfl (by kernel_rfl) (fun _ _ _ h => h) hHeld (Or.inl ⟨by rfl, ?yg9⟩) ?_
    case yg9 => (intro wS hSw; (try dsimp only at hSw); go_simp <;> with_reducible rfl)
    try simp only [Act.put, List.setIfInBounds_toArray, List.set_cons_zero, List.set_cons_succ]
    refine wpG_one (i := 9) (o := { dst := some 49, op := Go.Op.call { callee := Go.Callee.value (Go.Operand.tmp 40), args := #[Go.Operand.tmp 44, Go.Operand.tmp 48], argTypes := #[62, 62] }, type := 3, pos := "zsortanyfunc.go:390", after := #[{ on := 0, ground := Go.Ground.data }, { on := 4, ground := Go.Ground.data }, { on := 8, ground := Go.Ground.data }], guard := none }) rfl (by kernel_rfl) (fun K hK => ?_)
    go_simp
    refine HC.out.mono ?_
    rintro e w3 ⟨cv, rfl, hcv, hb3⟩
    have HB3 := Lib.hid (rstep HB.out (below_undrew hb3))
    clear hb3
    refine hK.out _ _ (Or.inl (by kernel_rfl)) (fun _ => ?_)
    clear hK K
    try simp only [Act.put, List.setIfInBounds_toArray, List.set_cons_zero, List.set_cons_succ]
    refine wpG_pure (i := 10) (oi := { dst := some 50, op := Go.Op.binOp Go.BinOp.lss 3 (Go.Operand.tmp 49) (Go.Operand.const (Go.Value.int Go.IntKind.i64 0)) 3, type := 4, pos := "zsortanyfunc.go:390", after := #[{ on := 9, ground := Go.Ground.data }], guard := none }) (v := ?vg11) rfl (by kernel_rfl) (fun _ _ _ h => h) (Or.inl (by kernel_rfl)) (Or.inl ⟨by rfl, ?yg11⟩) ?_
    case yg11 => (intro wS _; go_simp <;> with_reducible rfl)
    try simp only [Act.put, List.setIfInBounds_toArray, List.set_cons_zero, List.set_cons_succ]
    refine wpG_done (by kernel_rfl) ?_
    skip
    have hcn : ¬ cv < 0 := by omega
    have hcd : decide (cv < 0) = false := decide_eq_false hcn
    have hcg : 0 ≤ cv := hcv
    have hce : (!decide (cv < 0)) = true := by rw [hcd]; rfl
    go_wp2_with fail
    go_roundw
    case rel => exact ⟨h, hb1, by omega, rfl, rfl, HB3⟩
    case measure => simp [intOf]; omega

set_option maxHeartbeats 1000000 in
theorem merge_b {w0 : World} {g bw : Nat} {o : List Fd} (hS : So w0 g bw o) (c : Nat) (hc : o.length ≤ c) (hc2 : c ≤ 9223372036854775807) (a m b : Nat) (w : World) (h1 : a < m) (h2 : m < b) (h3 : b ≤ o.length) (hb : Below w0.heap.size w0 w) (hma : ¬ m - a = 1) (hbm : b - m = 1) :
    Calls Try.prog 82 #[.slice (some ⟨g, 0, none⟩) o.length c, .int .i64 (a : Int), .int .i64 (m : Int), .int .i64 (b : Int), .func (.func 67) #[] #[.pointer (some ⟨bw, 0, none⟩)]] w (NoW w0) := by
  have hln := hS.len
  have HS := Lib.hid hS; have HB := Lib.hid hb
  clear hS hb
  unfold NoW at *
  have e1 : IntKind.i64.wrap ((m : Int) - (a : Int)) = ((m - a : Nat) : Int) := by rw [IntWalk.i64_in _ (by omega)]; omega
  have e1' : (m : Int) - (a : Int) = ((m - a : Nat) : Int) := by omega
  have hq : (((m - a : Nat) : Int) == 1) = false := by rw [beq_eq_false_iff_ne]; omega
  have e2 : (b : Int) - (m : Int) = ((b - m : Nat) : Int) := by omega
  have hq2 : (((b - m : Nat) : Int) == 1) = true := by rw [hbm]; rfl
  go_enter Try.func82, Try.ntmps82
  go_wp2_with fail
  go_loopw [14, 15] (fun iv jv wr => ∃ i : Nat, a ≤ i ∧ i ≤ m ∧ iv = .int .i64 (i : Int) ∧ jv = .int .i64 (m : Int) ∧ Hid (Below w0.heap.size w0 wr)) (fun iv _ _ => m - (intOf iv).toNat)
  case atStart => exact ⟨a, Nat.le_refl _, by omega, rfl, rfl, HB⟩
  case round =>
    clear HB
    obtain ⟨w2, rfl⟩ : ∃ z : World, z = wr := ⟨_, rfl⟩
    obtain ⟨j, hj1, hj2, rfl, rfl, HB⟩ := hrel
    by_cases hmj : j < m
    case neg =>
      obtain rfl : j = m := by omega
      go_wp2_with fail
      go_loopw [17] (fun kv wr => kv = .int .i64 (j : Int) ∧ Hid (Below w0.heap.size w0 wr)) (fun _ _ => 0)
      case atStart => exact ⟨rfl, HB⟩
      case round =>
        clear HB
        obtain ⟨w4, rfl⟩ : ∃ z : World, z = wr := ⟨_, rfl⟩
        obtain ⟨rfl, HB⟩ := hrel
        go_wp2_with fail
        first | (refine bodyPost_ret (results_none rfl _ _ _) rfl ?_) | (refine bodyPost_end (results_none rfl _ _ _) rfl ?_)
        exact ⟨rfl, HB.out⟩
    obtain ⟨h, hh⟩ : ∃ h : Nat, (j + m) / 2 = h := ⟨_, rfl⟩
    have hhi : ((j : Int) + (m : Int)) / 2 = (h : Int) := by omega
    have hb1 : j ≤ h := by omega
    have hb2 : h < m := by omega
    clear hh
    have hL1 : (m) < o.length := by omega
    have hL2 : (h) < o.length := by omega
    have hW1 : IntKind.i64.wrap (((m) : Nat) : Int) = (((m) : Nat) : Int) := IntWalk.i64_in _ (by omega)
    have hW2 : IntKind.i64.wrap (((h) : Nat) : Int) = (((h) : Nat) : Int) := IntWalk.i64_in _ (by omega)
    obtain ⟨x0, x1⟩ := HS.out.row w2 HB.out (m) (by omega)
    obtain ⟨y0, y1⟩ := HS.out.row w2 HB.out (h) (by omega)
    have HC := Lib.hid (HS.out.cmp (h) (m) (by omega) (by omega) w2.drew (rdrew HB.out 1))
    generalize o.getD (m) (0, 0) = x at *
    generalize o.getD (h) (0, 0) = y at *
    go_wp2_with fail
    refine wp_region_G [9] (fun w' => w'.cell? ⟨g, (m) * 2, none⟩ = some (.int .i64 x.1) ∧ w'.cell? ⟨g, (m) * 2 + 1, none⟩ = some (.int .i64 x.2) ∧ w'.cell? ⟨g, (h) * 2, none⟩ = some (.int .i64 y.1) ∧ w'.cell? ⟨g, (h) * 2 + 1, none⟩ = some (.int .i64 y.2)) (by kernel_rfl) ?_ (fun hHeld => ?_)
    · exact ⟨x0, x1, y0, y1⟩
    refine wpG_pure (i := 0) (oi := { dst := some 92, op := Go.Op.move (Go.Operand.tmp 4), type := 92, pos := "zsortanyfunc.go:414", after := #[], guard := none }) (v := ?vg12) rfl (by kernel_rfl) (fun _ _ _ h => h) (Or.inr hHeld) (Or.inl ⟨by rfl, ?yg12⟩) ?_
    case yg12 => (intro wS _; go_simp <;> with_reducible rfl)
    try simp only [Act.put, List.setIfInBounds_toArray, List.set_cons_zero, List.set_cons_succ]
    refine wpG_pure (i := 1) (oi := { dst := some 93, op := Go.Op.move (Go.Operand.tmp 0), type := 53, pos := "zsortanyfunc.go:414", after := #[], guard := none }) (v := ?vg13) rfl (by kernel_rfl) (fun _ _ _ h => h) (Or.inr hHeld) (Or.inl ⟨by rfl, ?yg13⟩) ?_
    case yg13 => (intro wS _; go_simp <;> with_reducible rfl)
    try simp only [Act.put, List.setIfInBounds_toArray, List.set_cons_zero, List.set_cons_succ]
    refine wpG_pure (i := 2) (oi := { dst := some 94, op := Go.Op.move (Go.Operand.tmp 2), type := 3, pos := "zsortanyfunc.go:414", after := #[], guard := none }) (v := ?vg14) rfl (by kernel_rfl) (fun _ _ _ h => h) (Or.inr hHeld) (Or.inl ⟨by rfl, ?yg14⟩) ?_
    case yg14 => (intro wS _; go_simp <;> with_reducible rfl)
    try simp only [Act.put, List.setIfInBounds_toArray, List.set_cons_zero, List.set_cons_succ]
    refine wpG_pure (i := 3) (oi := { dst := some 95, op := Go.Op.indexAddr 53 (Go.Operand.tmp 93) (Go.Operand.tmp 94), type := 0, pos := "zsortanyfunc.go:414", after := #[{ on := 1, ground := Go.Ground.data }, { on := 2, ground := Go.Ground.data }], guard := none }) (v := ?vg15) rfl (by kernel_rfl) (fun _ _ _ h => h) (Or.inr hHeld) (Or.inl ⟨by rfl, ?yg15⟩) ?_
    case yg15 => (intro wS _; go_simp <;> with_reducible rfl)
    try simp only [Act.put, List.setIfInBounds_toArray, List.set_cons_zero, List.set_cons_succ]
    refine wpG_load (i := 4) (oi := { dst := some 96, op := Go.Op.load 62 (Go.Operand.tmp 95), type := 62, pos := "zsortanyfunc.go:414", after := #[{ on := 3, ground := Go.Ground.data }], guard := none }) (v := ?vg16) [[9, 4]] rfl (by kernel_rfl) (fun _ _ _ h => h) hHeld (Or.inl ⟨by rfl, ?yg16⟩) ?_
    case yg16 => (intro wS hSw; (try dsimp only at hSw); go_simp <;> with_reducible rfl)
    try simp only [Act.put, List.setIfInBounds_toArray, List.set_cons_zero, List.set_cons_succ]
    refine wpG_pure (i := 5) (oi := { dst := some 97, op := Go.Op.move (Go.Operand.tmp 0), type := 53, pos := "zsortanyfunc.go:414", after := #[], guard := none }) (v := ?vg17) rfl (by kernel_rfl) (fun _ _ _ h => h) (Or.inr hHeld) (Or.inl ⟨by rfl, ?yg17⟩) ?_
    case yg17 => (intro wS _; go_simp <;> with_reducible rfl)
    try simp only [Act.put, List.setIfInBounds_toArray, List.set_cons_zero, List.set_cons_succ]
    refine wpG_pure (i := 6) (oi := { dst := some 98, op := Go.Op.move (Go.Operand.tmp 16), type := 3, pos := "zsortanyfunc.go:414", after := #[], guard := none }) (v := ?vg18) rfl (by kernel_rfl) (fun _ _ _ h => h) (Or.inr hHeld) (Or.inl ⟨by rfl, ?yg18⟩) ?_
    case yg18 => (intro wS _; go_simp <;> with_reducible rfl)
    try simp only [Act.put, List.setIfInBounds_toArray, List.set_cons_zero, List.set_cons_succ]
    refine wpG_pure (i := 7) (oi := { dst := some 99, op := Go.Op.indexAddr 53 (Go.Operand.tmp 97) (Go.Operand.tmp 98), type := 0, pos := "zsortanyfunc.go:414", after := #[{ on := 5, ground := Go.Ground.data }, { on := 6, ground := Go.Ground.data }], guard := none }) (v := ?vg19) rfl (by kernel_rfl) (fun _ _ _ h => h) (Or.inr hHeld) (Or.inl ⟨by rfl, ?yg19⟩) ?_
    case yg19 => (intro wS _; go_simp <;> with_reducible rfl)
    try simp only [Act.put, List.setIfInBounds_toArray, List.set_cons_zero, List.set_cons_succ]
    refine wpG_load (i := 8) (oi := { dst := some 100, op := Go.Op.load 62 (Go.Operand.tmp 99), type := 62, pos := "zsortanyfunc.go:414", after := #[{ on := 7, ground := Go.Ground.data }], guard := none }) (v := ?vg20) [[9, 8]] rfl (by kernel_rfl) (fun _ _ _ h => h) hHeld (Or.inl ⟨by rfl, ?yg20⟩) ?_
    case yg20 => (intro wS hSw; (try dsimp only at hSw); go_simp <;> with_reducible rfl)
    try simp only [Act.put, List.setIfInBounds_toArray, List.set_cons_zero, List.set_cons_succ]
    refine wpG_one (i := 9) (o := { dst := some 101, op := Go.Op.call { callee := Go.Callee.value (Go.Operand.tmp 92), args := #[Go.Operand.tmp 96, Go.Operand.tmp 100], argTypes := #[62, 62] }, type := 3, pos := "zsortanyfunc.go:414", after := #[{ on := 0, ground := Go.Ground.data }, { on := 4, ground := Go.Ground.data }, { on := 8, ground := Go.Ground.data }], guard := none }) rfl (by kernel_rfl) (fun K hK => ?_)
    go_simp
    refine HC.out.mono ?_
    rintro e w3 ⟨cv, rfl, hcv, hb3⟩
    have HB3 := Lib.hid (rstep HB.out (below_undrew hb3))
    clear hb3
    refine hK.out _ _ (Or.inl (by kernel_rfl)) (fun _ => ?_)
    clear hK K
    try simp only [Act.put, List.setIfInBounds_toArray, List.set_cons_zero, List.set_cons_succ]
    refine wpG_pure (i := 10) (oi := { dst := some 102, op := Go.Op.binOp Go.BinOp.lss 3 (Go.Operand.tmp 101) (Go.Operand.const (Go.Value.int Go.IntKind.i64 0)) 3, type := 4, pos := "zsortanyfunc.go:414", after := #[{ on := 9, ground := Go.Ground.data }], guard := none }) (v := ?vg22) rfl (by kernel_rfl) (fun _ _ _ h => h) (Or.inl (by kernel_rfl)) (Or.inl ⟨by rfl, ?yg22⟩) ?_
    case yg22 => (intro wS _; go_simp <;> with_reducible rfl)
    try simp only [Act.put, List.setIfInBounds_toArray, List.set_cons_zero, List.set_cons_succ]
    refine wpG_pure (i := 11) (oi := { dst := some 103, op := Go.Op.unOp Go.UnOp.not 4 (Go.Operand.tmp 102), type := 4, pos := "zsortanyfunc.go:414", after := #[{ on := 10, ground := Go.Ground.data }], guard := none }) (v := ?vg23) rfl (by kernel_rfl) (fun _ _ _ h => h) (Or.inl (by kernel_rfl)) (Or.inl ⟨by rfl, ?yg23⟩) ?_
    case yg23 => (intro wS _; go_simp <;> with_reducible rfl)
    try simp only [Act.put, List.setIfInBounds_toArray, List.set_cons_zero, List.set_cons_succ]
    refine wpG_done (by kernel_rfl) ?_
    skip
    have hcn : ¬ cv < 0 := by omega
    have hcd : decide (cv < 0) = false := decide_eq_false hcn
    have hcg : 0 ≤ cv := hcv
    have hce : (!decide (cv < 0)) = true := by rw [hcd]; rfl
    go_wp2_with fail
    go_roundw
    case rel => exact ⟨h + 1, by omega, by omega, by go_num, rfl, HB3⟩
    case measure => simp [intOf]; omega
    case roundEnd => rename_i hq9; rw [hcd] at hq9; exact absurd hq9 (by decide)

set_option maxHeartbeats 2000000 in
theorem merge_c {w0 : World} {g bw : Nat} {o : List Fd} (hS : So w0 g bw o) (c : Nat) (hc : o.length ≤ c) (hc2 : c ≤ 9223372036854775807) (f : Nat) (IH0 : ∀ (a m b : Nat) (w : World), a < m → m < b → b ≤ o.length → b - a ≤ f → Below w0.heap.size w0 w → Calls Try.prog 82 #[.slice (some ⟨g, 0, none⟩) o.length c, .int .i64 (a : Int), .int .i64 (m : Int), .int .i64 (b : Int), .func (.func 67) #[] #[.pointer (some ⟨bw, 0, none⟩)]] w (NoW w0)) (a m b : Nat) (w : World) (h1 : a < m) (h2 : m < b) (h3 : b ≤ o.length) (h4 : b - a ≤ f + 1) (hb : Below w0.heap.size w0 w) (hma : ¬ m - a = 1) (hbm : ¬ b - m = 1) :
    Calls Try.prog 82 #[.slice (some ⟨g, 0, none⟩) o.length c, .int .i64 (a : Int), .int .i64 (m : Int), .int .i64 (b : Int), .func (.func 67) #[] #[.pointer (some ⟨bw, 0, none⟩)]] w (NoW w0) := by
  have IH := Lib.hid IH0; clear IH0
  have hln := hS.len
  have HS := Lib.hid hS; have HB := Lib.hid hb
  clear hS hb
  unfold NoW at *
  have e1 : IntKind.i64.wrap ((m : Int) - (a : Int)) = ((m - a : Nat) : Int) := by rw [IntWalk.i64_in _ (by omega)]; omega
  have e1' : (m : Int) - (a : Int) = ((m - a : Nat) : Int) := by omega
  have hq : (((m - a : Nat) : Int) == 1) = false := by rw [beq_eq_false_iff_ne]; omega
  have e2 : (b : Int) - (m : Int) = ((b - m : Nat) : Int) := by omega
  have hq2 : (((b - m : Nat) : Int) == 1) = false := by rw [beq_eq_false_iff_ne]; omega
  obtain ⟨mid, hmid⟩ : ∃ mid, (a + b) / 2 = mid := ⟨_, rfl⟩
  have q1 : ((a : Int) + (b : Int)) / 2 = (mid : Int) := by omega
  obtain ⟨n, hn⟩ : ∃ n, mid + m = n := ⟨_, rfl⟩
  have q2 : (mid : Int) + (m : Int) = (n : Int) := by omega
  obtain ⟨p, hp⟩ : ∃ p, p + 1 = n := ⟨n - 1, by omega⟩
  have q3 : (n : Int) - 1 = (p : Int) := by omega
  by_cases hcs : mid < m
  · obtain ⟨st0, hst⟩ : ∃ st0, st0 + b = n := ⟨n - b, by omega⟩
    have q4 : (n : Int) - (b : Int) = (st0 : Int) := by omega
    go_enter Try.func82, Try.ntmps82
    go_wp2_with fail
    go_loopw [20, 21] (fun sv rv wr => ∃ st : Nat, st0 ≤ st ∧ st ≤ mid ∧ sv = .int .i64 (st : Int) ∧ rv = .int .i64 (mid : Int) ∧ Hid (Below w0.heap.size w0 wr)) (fun sv _ _ => mid - (intOf sv).toNat)
    case atStart => exact ⟨st0, Nat.le_refl _, by omega, rfl, rfl, HB⟩
    case round =>
      clear HB
      obtain ⟨w2, rfl⟩ : ∃ z : World, z = wr := ⟨_, rfl⟩
      obtain ⟨st, hs1, hs2, rfl, rfl, HB⟩ := hrel
      by_cases hlt : st < mid
      case neg =>
        obtain rfl : st = mid := by omega
        have q5 : (n : Int) - (st : Int) = (m : Int) := by omega
        go_wp2_with fail
        refine (IH.out st m b w2 (by omega) (by omega) h3 (by omega) HB.out).mono ?_
        rintro e w3 ⟨rfl, hb3⟩
        have HB3 := Lib.hid hb3; clear hb3
        go_wp2_with fail
        first | (refine bodyPost_ret (results_none rfl _ _ _) rfl ?_) | (refine bodyPost_end (results_none rfl _ _ _) rfl ?_)
        exact ⟨rfl, HB3.out⟩
      obtain ⟨cc, hcc⟩ : ∃ cc : Nat, (st + mid) / 2 = cc := ⟨_, rfl⟩
      have hci : ((st : Int) + (mid : Int)) / 2 = (cc : Int) := by omega
      obtain ⟨pc, hpc⟩ : ∃ pc, pc + cc = p := ⟨p - cc, by omega⟩
      have q6 : (p : Int) - (cc : Int) = (pc : Int) := by omega
      have hb1 : st ≤ cc := by omega
      have hb2 : cc < mid := by omega
      clear hcc
      have hL1 : (pc) < o.length := by omega
      have hL2 : (cc) < o.length := by omega
      have hW1 : IntKind.i64.wrap (((pc) : Nat) : Int) = (((pc) : Nat) : Int) := IntWalk.i64_in _ (by omega)
      have hW2 : IntKind.i64.wrap (((cc) : Nat) : Int) = (((cc) : Nat) : Int) := IntWalk.i64_in _ (by omega)
      obtain ⟨x0, x1⟩ := HS.out.row w2 HB.out (pc) (by omega)
      obtain ⟨y0, y1⟩ := HS.out.row w2 HB.out (cc) (by omega)
      have HC := Lib.hid (HS.out.cmp (cc) (pc) (by omega) (by omega) w2.drew (rdrew HB.out 1))
      generalize o.getD (pc) (0, 0) = x at *
      generalize o.getD (cc) (0, 0) = y at *
      go_wp2_with fail
      refine wp_region_G [11] (fun w' => w'.cell? ⟨g, (pc) * 2, none⟩ = some (.int .i64 x.1) ∧ w'.cell? ⟨g, (pc) * 2 + 1, none⟩ = some (.int .i64 x.2) ∧ w'.cell? ⟨g, (cc) * 2, none⟩ = some (.int .i64 y.1) ∧ w'.cell? ⟨g, (cc) * 2 + 1, none⟩ = some (.int .i64 y.2)) (by kernel_rfl) ?_ (fun hHeld => ?_)
      · exact ⟨x0, x1, y0, y1⟩
      refine wpG_pure (i := 0) (oi := { dst := some 158, op := Go.Op.move (Go.Operand.tmp 4), type := 92, pos := "zsortanyfunc.go:441", after := #[], guard := none }) (v := ?vg24) rfl (by kernel_rfl) (fun _ _ _ h => h) (Or.inr hHeld) (Or.inl ⟨by rfl, ?yg24⟩) ?_
      case yg24 => (intro wS _; go_simp <;> with_reducible rfl)
      try simp only [Act.put, List.setIfInBounds_toArray, List.set_cons_zero, List.set_cons_succ]
      refine wpG_pure (i := 1) (oi := { dst := some 159, op := Go.Op.move (Go.Operand.tmp 0), type := 53, pos := "zsortanyfunc.go:441", after := #[], guard := none }) (v := ?vg25) rfl (by kernel_rfl) (fun _ _ _ h => h) (Or.inr hHeld) (Or.inl ⟨by rfl, ?yg25⟩) ?_
      case yg25 => (intro wS _; go_simp <;> with_reducible rfl)
      try simp only [Act.put, List.setIfInBounds_toArray, List.set_cons_zero, List.set_cons_succ]
      refine wpG_pure (i := 2) (oi := { dst := some 160, op := Go.Op.move (Go.Operand.tmp 22), type := 3, pos := "zsortanyfunc.go:441", after := #[], guard := none }) (v := ?vg26) rfl (by kernel_rfl) (fun _ _ _ h => h) (Or.inr hHeld) (Or.inl ⟨by rfl, ?yg26⟩) ?_
      case yg26 => (intro wS _; go_simp <;> with_reducible rfl)
      try simp only [Act.put, List.setIfInBounds_toArray, List.set_cons_zero, List.set_cons_succ]
      refine wpG_pure (i := 3) (oi := { dst := some 161, op := Go.Op.move (Go.Operand.tmp 23), type := 3, pos := "zsortanyfunc.go:441", after := #[], guard := none }) (v := ?vg27) rfl (by kernel_rfl) (fun _ _ _ h => h) (Or.inr hHeld) (Or.inl ⟨by rfl, ?yg27⟩) ?_
      case yg27 => (intro wS _; go_simp <;> with_reducible rfl)
      try simp only [Act.put, List.setIfInBounds_toArray, List.set_cons_zero, List.set_cons_succ]
      refine wpG_pure (i := 4) (oi := { dst := some 162, op := Go.Op.binOp Go.BinOp.sub 3 (Go.Operand.tmp 160) (Go.Operand.tmp 161) 3, type := 3, pos := "zsortanyfunc.go:441", after := #[{ on := 2, ground := Go.Ground.data }, { on := 3, ground := Go.Ground.data }], guard := none }) (v := ?vg28) rfl (by kernel_rfl) (fun _ _ _ h => h) (Or.inr hHeld) (Or.inl ⟨by rfl, ?yg28⟩) ?_
      case yg28 => (intro wS _; go_simp <;> with_reducible rfl)
      try simp only [Act.put, List.setIfInBounds_toArray, List.set_cons_zero, List.set_cons_succ]
      refine wpG_pure (i := 5) (oi := { dst := some 163, op := Go.Op.indexAddr 53 (Go.Operand.tmp 159) (Go.Operand.tmp 162), type := 0, pos := "zsortanyfunc.go:441", after := #[{ on := 1, ground := Go.Ground.data }, { on := 4, ground := Go.Ground.data }], guard := none }) (v := ?vg29) rfl (by kernel_rfl) (fun _ _ _ h => h) (Or.inr hHeld) (Or.inl ⟨by rfl, ?yg29⟩) ?_
      case yg29 => (intro wS _; go_simp <;> with_reducible rfl)
      try simp only [Act.put, List.setIfInBounds_toArray, List.set_cons_zero, List.set_cons_succ]
      refine wpG_load (i := 6) (oi := { dst := some 164, op := Go.Op.load 62 (Go.Operand.tmp 163), type := 62, pos := "zsortanyfunc.go:441", after := #[{ on := 5, ground := Go.Ground.data }], guard := none }) (v := ?vg30) [[11, 6]] rfl (by kernel_rfl) (fun _ _ _ h => h) hHeld (Or.inl ⟨by rfl, ?yg30⟩) ?_
      case yg30 => (intro wS hSw; (try dsimp only at hSw); go_simp <;> with_reducible rfl)
      try simp only [Act.put, List.setIfInBounds_toArray, List.set_cons_zero, List.set_cons_succ]
      refine wpG_pure (i := 7) (oi := { dst := some 165, op := Go.Op.move (Go.Operand.tmp 0), type := 53, pos := "zsortanyfunc.go:441", after := #[], guard := none }) (v := ?vg31) rfl (by kernel_rfl) (fun _ _ _ h => h) (Or.inr hHeld) (Or.inl ⟨by rfl, ?yg31⟩) ?_
      case yg31 => (intro wS _; go_simp <;> with_reducible rfl)
      try simp only [Act.put, List.setIfInBounds_toArray, List.set_cons_zero, List.set_cons_succ]
      refine wpG_pure (i := 8) (oi := { dst := some 166, op := Go.Op.move (Go.Operand.tmp 23), type := 3, pos := "zsortanyfunc.go:441", after := #[], guard := none }) (v := ?vg32) rfl (by kernel_rfl) (fun _ _ _ h => h) (Or.inr hHeld) (Or.inl ⟨by rfl, ?yg32⟩) ?_
      case yg32 => (intro wS _; go_simp <;> with_reducible rfl)
      try simp only [Act.put, List.setIfInBounds_toArray, List.set_cons_zero, List.set_cons_succ]
      refine wpG_pure (i := 9) (oi := { dst := some 167, op := Go.Op.indexAddr 53 (Go.Operand.tmp 165) (Go.Operand.tmp 166), type := 0, pos := "zsortanyfunc.go:441", after := #[{ on := 7, ground := Go.Ground.data }, { on := 8, ground := Go.Ground.data }], guard := none }) (v := ?vg33) rfl (by kernel_rfl) (fun _ _ _ h => h) (Or.inr hHeld) (Or.inl ⟨by rfl, ?yg33⟩) ?_
      case yg33 => (intro wS _; go_simp <;> with_reducible rfl)
      try simp only [Act.put, List.setIfInBounds_toArray, List.set_cons_zero, List.set_cons_succ]
      refine wpG_load (i := 10) (oi := { dst := some 168, op := Go.Op.load 62 (Go.Operand.tmp 167), type := 62, pos := "zsortanyfunc.go:441", after := #[{ on := 9, ground := Go.Ground.data }], guard := none }) (v := ?vg34) [[11, 10]] rfl (by kernel_rfl) (fun _ _ _ h => h) hHeld (Or.inl ⟨by rfl, ?yg34⟩) ?_
      case yg34 => (intro wS hSw; (try dsimp only at hSw); go_simp <;> with_reducible rfl)
      try simp only [Act.put, List.setIfInBounds_toArray, List.set_cons_zero, List.set_cons_succ]
      refine wpG_one (i := 11) (o := { dst := some 169, op := Go.Op.call { callee := Go.Callee.value (Go.Operand.tmp 158), args := #[Go.Operand.tmp 164, Go.Operand.tmp 168], argTypes := #[62, 62] }, type := 3, pos := "zsortanyfunc.go:441", after := #[{ on := 0, ground := Go.Ground.data }, { on := 6, ground := Go.Ground.data }, { on := 10, ground := Go.Ground.data }], guard := none }) rfl (by kernel_rfl) (fun K hK => ?_)
      go_simp
      refine HC.out.mono ?_
      rintro e w3 ⟨cv, rfl, hcv, hb3⟩
      have HB3 := Lib.hid (rstep HB.out (below_undrew hb3))
      clear hb3
      refine hK.out _ _ (Or.inl (by kernel_rfl)) (fun _ => ?_)
      clear hK K
      try simp only [Act.put, List.setIfInBounds_toArray, List.set_cons_zero, List.set_cons_succ]
      refine wpG_pure (i := 12) (oi := { dst := some 170, op := Go.Op.binOp Go.BinOp.lss 3 (Go.Operand.tmp 169) (Go.Operand.const (Go.Value.int Go.IntKind.i64 0)) 3, type := 4, pos := "zsortanyfunc.go:441", after := #[{ on := 11, ground := Go.Ground.data }], guard := none }) (v := ?vg36) rfl (by kernel_rfl) (fun _ _ _ h => h) (Or.inl (by kernel_rfl)) (Or.inl ⟨by rfl, ?yg36⟩) ?_
      case yg36 => (intro wS _; go_simp <;> with_reducible rfl)
      try simp only [Act.put, List.setIfInBounds_toArray, List.set_cons_zero, List.set_cons_succ]
      refine wpG_pure (i := 13) (oi := { dst := some 171, op := Go.Op.unOp Go.UnOp.not 4 (Go.Operand.tmp 170), type := 4, pos := "zsortanyfunc.go:441", after := #[{ on := 12, ground := Go.Ground.data }], guard := none }) (v := ?vg37) rfl (by kernel_rfl) (fun _ _ _ h => h) (Or.inl (by kernel_rfl)) (Or.inl ⟨by rfl, ?yg37⟩) ?_
      case yg37 => (intro wS _; go_simp <;> with_reducible rfl)
      try simp only [Act.put, List.setIfInBounds_toArray, List.set_cons_zero, List.set_cons_succ]
      refine wpG_done (by kernel_rfl) ?_
      skip
      have hcn : ¬ cv < 0 := by omega
      have hcd : decide (cv < 0) = false := decide_eq_false hcn
      have hcg : 0 ≤ cv := hcv
      have hce : (!decide (cv < 0)) = true := by rw [hcd]; rfl
      go_wp2_with fail
      go_roundw
      case rel => exact ⟨cc + 1, by omega, by omega, by go_num, rfl, HB3⟩
      case measure => simp [intOf]; omega
      case roundEnd => rename_i hq9; rw [hcd] at hq9; exact absurd hq9 (by decide)
  · go_enter Try.func82, Try.ntmps82
    go_wp2_with fail
    go_loopw [20, 21] (fun sv rv wr => ∃ st : Nat, a ≤ st ∧ st ≤ m ∧ sv = .int .i64 (st : Int) ∧ rv = .int .i64 (m : Int) ∧ Hid (Below w0.heap.size w0 wr)) (fun sv _ _ => m - (intOf sv).toNat)
    case atStart => exact ⟨a, Nat.le_refl _, by omega, rfl, rfl, HB⟩
    case round =>
      clear HB
      obtain ⟨w2, rfl⟩ : ∃ z : World, z = wr := ⟨_, rfl⟩
      obtain ⟨st, hs1, hs2, rfl, rfl, HB⟩ := hrel
      by_cases hlt : st < m
      case neg =>
        obtain rfl : st = m := by omega
        have q5 : (n : Int) - (st : Int) = (mid : Int) := by omega
        by_cases hmm : st < mid
        · go_wp2_with fail
          refine (IH.out a st mid w2 (by omega) (by omega) (by omega) (by omega) HB.out).mono ?_
          rintro e w3 ⟨rfl, hb3⟩
          have HB3 := Lib.hid hb3; clear hb3
          go_wp2_with fail
          first | (refine bodyPost_ret (results_none rfl _ _ _) rfl ?_) | (refine bodyPost_end (results_none rfl _ _ _) rfl ?_)
          exact ⟨rfl, HB3.out⟩
        · go_wp2_with fail
          first | (refine bodyPost_ret (results_none rfl _ _ _) rfl ?_) | (refine bodyPost_end (results_none rfl _ _ _) rfl ?_)
          exact ⟨rfl, HB.out⟩
      obtain ⟨cc, hcc⟩ : ∃ cc : Nat, (st + m) / 2 = cc := ⟨_, rfl⟩
      have hci : ((st : Int) + (m : Int)) / 2 = (cc : Int) := by omega
      obtain ⟨pc, hpc⟩ : ∃ pc, pc + cc = p := ⟨p - cc, by omega⟩
      have q6 : (p : Int) - (cc : Int) = (pc : Int) := by omega
      have hb1 : st ≤ cc := by omega
      have hb2 : cc < m := by omega
      clear hcc
      have hL1 : (pc) < o.length := by omega
      have hL2 : (cc) < o.length := by omega
      have hW1 : IntKind.i64.wrap (((pc) : Nat) : Int) = (((pc) : Nat) : Int) := IntWalk.i64_in _ (by omega)
      have hW2 : IntKind.i64.wrap (((cc) : Nat) : Int) = (((cc) : Nat) : Int) := IntWalk.i64_in _ (by omega)
      obtain ⟨x0, x1⟩ := HS.out.row w2 HB.out (pc) (by omega)
      obtain ⟨y0, y1⟩ := HS.out.row w2 HB.out (cc) (by omega)
      have HC := Lib.hid (HS.out.cmp (cc) (pc) (by omega) (by omega) w2.drew (rdrew HB.out 1))
      generalize o.getD (pc) (0, 0) = x at *
      generalize o.getD (cc) (0, 0) = y at *
      go_wp2_with fail
      refine wp_region_G [11] (fun w' => w'.cell? ⟨g, (pc) * 2, none⟩ = some (.int .i64 x.1) ∧ w'.cell? ⟨g, (pc) * 2 + 1, none⟩ = some (.int .i64 x.2) ∧ w'.cell? ⟨g, (cc) * 2, none⟩ = some (.int .i64 y.1) ∧ w'.cell? ⟨g, (cc) * 2 + 1, none⟩ = some (.int .i64 y.2)) (by kernel_rfl) ?_ (fun hHeld => ?_)
      · exact ⟨x0, x1, y0, y1⟩
      refine wpG_pure (i := 0) (oi := { dst := some 158, op := Go.Op.move (Go.Operand.tmp 4), type := 92, pos := "zsortanyfunc.go:441", after := #[], guard := none }) (v := ?vg38) rfl (by kernel_rfl) (fun _ _ _ h => h) (Or.inr hHeld) (Or.inl ⟨by rfl, ?yg38⟩) ?_
      case yg38 => (intro wS _; go_simp <;> with_reducible rfl)
      try simp only [Act.put, List.setIfInBounds_toArray, List.set_cons_zero, List.set_cons_succ]
      refine wpG_pure (i := 1) (oi := { dst := some 159, op := Go.Op.move (Go.Operand.tmp 0), type := 53, pos := "zsortanyfunc.go:441", after := #[], guard := none }) (v := ?vg39) rfl (by kernel_rfl) (fun _ _ _ h => h) (Or.inr hHeld) (Or.inl ⟨by rfl, ?yg39⟩) ?_
      case yg39 => (intro wS _; go_simp <;> with_reducible rfl)
      try simp only [Act.put, List.setIfInBounds_toArray, List.set_cons_zero, List.set_cons_succ]
      refine wpG_pure (i := 2) (oi := { dst := some 160, op := Go.Op.move (Go.Operand.tmp 22), type := 3, pos := "zsortanyfunc.go:441", after := #[], guard := none }) (v := ?vg40) rfl (by kernel_rfl) (fun _ _ _ h => h) (Or.inr hHeld) (Or.inl ⟨by rfl, ?yg40⟩) ?_
      case yg40 => (intro wS _; go_simp <;> with_reducible rfl)
      try simp only [Act.put, List.setIfInBounds_toArray, List.set_cons_zero, List.set_cons_succ]
      refine wpG_pure (i := 3) (oi := { dst := some 161, op := Go.Op.move (Go.Operand.tmp 23), type := 3, pos := "zsortanyfunc.go:441", after := #[], guard := none }) (v := ?vg41) rfl (by kernel_rfl) (fun _ _ _ h => h) (Or.inr hHeld) (Or.inl ⟨by rfl, ?yg41⟩) ?_
      case yg41 => (intro wS _; go_simp <;> with_reducible rfl)
      try simp only [Act.put, List.setIfInBounds_toArray, List.set_cons_zero, List.set_cons_succ]
      refine wpG_pure (i := 4) (oi := { dst := some 162, op := Go.Op.binOp Go.BinOp.sub 3 (Go.Operand.tmp 160) (Go.Operand.tmp 161) 3, type := 3, pos := "zsortanyfunc.go:441", after := #[{ on := 2, ground := Go.Ground.data }, { on := 3, ground := Go.Ground.data }], guard := none }) (v := ?vg42) rfl (by kernel_rfl) (fun _ _ _ h => h) (Or.inr hHeld) (Or.inl ⟨by rfl, ?yg42⟩) ?_
      case yg42 => (intro wS _; go_simp <;> with_reducible rfl)
      try simp only [Act.put, List.setIfInBounds_toArray, List.set_cons_zero, List.set_cons_succ]
      refine wpG_pure (i := 5) (oi := { dst := some 163, op := Go.Op.indexAddr 53 (Go.Operand.tmp 159) (Go.Operand.tmp 162), type := 0, pos := "zsortanyfunc.go:441", after := #[{ on := 1, ground := Go.Ground.data }, { on := 4, ground := Go.Ground.data }], guard := none }) (v := ?vg43) rfl (by kernel_rfl) (fun _ _ _ h => h) (Or.inr hHeld) (Or.inl ⟨by rfl, ?yg43⟩) ?_
      case yg43 => (intro wS _; go_simp <;> with_reducible rfl)
      try simp only [Act.put, List.setIfInBounds_toArray, List.set_cons_zero, List.set_cons_succ]
      refine wpG_load (i := 6) (oi := { dst := some 164, op := Go.Op.load 62 (Go.Operand.tmp 163), type := 62, pos := "zsortanyfunc.go:441", after := #[{ on := 5, ground := Go.Ground.data }], guard := none }) (v := ?vg44) [[11, 6]] rfl (by kernel_rfl) (fun _ _ _ h => h) hHeld (Or.inl ⟨by rfl, ?yg44⟩) ?_
      case yg44 => (intro wS hSw; (try dsimp only at hSw); go_simp <;> with_reducible rfl)
      try simp only [Act.put, List.setIfInBounds_toArray, List.set_cons_zero, List.set_cons_succ]
      refine wpG_pure (i := 7) (oi := { dst := some 165, op := Go.Op.move (Go.Operand.tmp 0), type := 53, pos := "zsortanyfunc.go:441", after := #[], guard := none }) (v := ?vg45) rfl (by kernel_rfl) (fun _ _ _ h => h) (Or.inr hHeld) (Or.inl ⟨by rfl, ?yg45⟩) ?_
      case yg45 => (intro wS _; go_simp <;> with_reducible rfl)
      try simp only [Act.put, List.setIfInBounds_toArray, List.set_cons_zero, List.set_cons_succ]
      refine wpG_pure (i := 8) (oi := { dst := some 166, op := Go.Op.move (Go.Operand.tmp 23), type := 3, pos := "zsortanyfunc.go:441", after := #[], guard := none }) (v := ?vg46) rfl (by kernel_rfl) (fun _ _ _ h => h) (Or.inr hHeld) (Or.inl ⟨by rfl, ?yg46⟩) ?_
      case yg46 => (intro wS _; go_simp <;> with_reducible rfl)
      try simp only [Act.put, List.setIfInBounds_toArray, List.set_cons_zero, List.set_cons_succ]
      refine wpG_pure (i := 9) (oi := { dst := some 167, op := Go.Op.indexAddr 53 (Go.Operand.tmp 165) (Go.Operand.tmp 166), type := 0, pos := "zsortanyfunc.go:441", after := #[{ on := 7, ground := Go.Ground.data }, { on := 8, ground := Go.Ground.data }], guard := none }) (v := ?vg47) rfl (by kernel_rfl) (fun _ _ _ h => h) (Or.inr hHeld) (Or.inl ⟨by rfl, ?yg47⟩) ?_
      case yg47 => (intro wS _; go_simp <;> with_reducible rfl)
      try simp only [Act.put, List.setIfInBounds_toArray, List.set_cons_zero, List.set_cons_succ]
      refine wpG_load (i := 10) (oi := { dst := some 168, op := Go.Op.load 62 (Go.Operand.tmp 167), type := 62, pos := "zsortanyfunc.go:441", after := #[{ on := 9, ground := Go.Ground.data }], guard := none }) (v := ?vg48) [[11, 10]] rfl (by kernel_rfl) (fun _ _ _ h => h) hHeld (Or.inl ⟨by rfl, ?yg48⟩) ?_
      case yg48 => (intro wS hSw; (try dsimp only at hSw); go_simp <;> with_reducible rfl)
      try simp only [Act.put, List.setIfInBounds_toArray, List.set_cons_zero, List.set_cons_succ]
      refine wpG_one (i := 11) (o := { dst := some 169, op := Go.Op.call { callee := Go.Callee.value (Go.Operand.tmp 158), args := #[Go.Operand.tmp 164, Go.Operand.tmp 168], argTypes := #[62, 62] }, type := 3, pos := "zsortanyfunc.go:441", after := #[{ on := 0, ground := Go.Ground.data }, { on := 6, ground := Go.Ground.data }, { on := 10, ground := Go.Ground.data }], guard := none }) rfl (by kernel_rfl) (fun K hK => ?_)
      go_simp
      refine HC.out.mono ?_
      rintro e w3 ⟨cv, rfl, hcv, hb3⟩
      have HB3 := Lib.hid (rstep HB.out (below_undrew hb3))
      clear hb3
      refine hK.out _ _ (Or.inl (by kernel_rfl)) (fun _ => ?_)
      clear hK K
      try simp only [Act.put, List.setIfInBounds_toArray, List.set_cons_zero, List.set_cons_succ]
      refine wpG_pure (i := 12) (oi := { dst := some 170, op := Go.Op.binOp Go.BinOp.lss 3 (Go.Operand.tmp 169) (Go.Operand.const (Go.Value.int Go.IntKind.i64 0)) 3, type := 4, pos := "zsortanyfunc.go:441", after := #[{ on := 11, ground := Go.Ground.data }], guard := none }) (v := ?vg50) rfl (by kernel_rfl) (fun _ _ _ h => h) (Or.inl (by kernel_rfl)) (Or.inl ⟨by rfl, ?yg50⟩) ?_
      case yg50 => (intro wS _; go_simp <;> with_reducible rfl)
      try simp only [Act.put, List.setIfInBounds_toArray, List.set_cons_zero, List.set_cons_succ]
      refine wpG_pure (i := 13) (oi := { dst := some 171, op := Go.Op.unOp Go.UnOp.not 4 (Go.Operand.tmp 170), type := 4, pos := "zsortanyfunc.go:441", after := #[{ on := 12, ground := Go.Ground.data }], guard := none }) (v := ?vg51) rfl (by kernel_rfl) (fun _ _ _ h => h) (Or.inl (by kernel_rfl)) (Or.inl ⟨by rfl, ?yg51⟩) ?_
      case yg51 => (intro wS _; go_simp <;> with_reducible rfl)
      try simp only [Act.put, List.setIfInBounds_toArray, List.set_cons_zero, List.set_cons_succ]
      refine wpG_done (by kernel_rfl) ?_
      skip
      have hcn : ¬ cv < 0 := by omega
      have hcd : decide (cv < 0) = false := decide_eq_false hcn
      have hcg : 0 ≤ cv := hcv
      have hce : (!decide (cv < 0)) = true := by rw [hcd]; rfl
      go_wp2_with fail
      go_roundw
      case rel => exact ⟨cc + 1, by omega, by omega, by go_num, rfl, HB3⟩
      case measure => simp [intOf]; omega
      case roundEnd => rename_i hq9; rw [hcd] at hq9; exact absurd hq9 (by decide)

theorem sort_merge {w0 : World} {g bw : Nat} {o : List Fd} (hS : So w0 g bw o) (c : Nat) (hc : o.length ≤ c) (hc2 : c ≤ 9223372036854775807) : ∀ (f a m b : Nat) (w : World), a < m → m < b → b ≤ o.length → b - a ≤ f → Below w0.heap.size w0 w →
    Calls Try.prog 82 #[.slice (some ⟨g, 0, none⟩) o.length c, .int .i64 (a : Int), .int .i64 (m : Int), .int .i64 (b : Int), .func (.func 67) #[] #[.pointer (some ⟨bw, 0, none⟩)]] w (NoW w0)
  | 0, a, m, b, w, h1, h2, h3, h4, hb => by omega
  | f + 1, a, m, b, w, h1, h2, h3, h4, hb => by
    by_cases hma : m - a = 1
    · exact merge_a hS c hc hc2 a m b w h1 h2 h3 hb hma
    by_cases hbm : b - m = 1
    · exact merge_b hS c hc hc2 a m b w h1 h2 h3 hb hma hbm
    · exact merge_c hS c hc hc2 f (sort_merge hS c hc hc2 f) a m b w h1 h2 h3 h4 hb hma hbm
end Go.Proofs.Ytfkcchbbbfeamaa
