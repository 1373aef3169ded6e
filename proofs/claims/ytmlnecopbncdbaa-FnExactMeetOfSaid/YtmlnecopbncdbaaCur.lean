/- The contracts of the draws: choices read from bytes. What is drawn is only bounded. -/
import Derived.Test.YtmlnecopbncdbaaSched
import Derived.Test.YtmlnecopbncdbaaStrs
import Derived.Test.YtmlnecopbncdbaaInts
import Derived.Lib.SmallJoins
import Derived.Lib.VarintBits
namespace Go.Proofs.Ytmlnecopbncdbaa
set_option linter.unusedVariables false
set_option linter.unusedSimpArgs false
open Go.ChangeShapes Go.WideShapes Go.ChangeAt Go.RowKit
set_option maxRecDepth 100000

def u8s (cs : List UInt8) : List Value := cs.map fun c => Value.int .u8 (c.toNat : Int)
/-- the cursor: its bytes, its place (at most K), its sequence -/
def PC (w : World) (B K : Nat) : Prop :=
  ∃ (a : Option Addr) (c p : Nat) (seed : Int) (cs : List UInt8), w.heap[B]? = some (.cells #[.slice a cs.length c, .int .i64 (p : Int), .int .u64 seed] 75 (0, 0)) ∧ p ≤ K ∧ cs.length ≤ c ∧ c ≤ 9223372036854775807 ∧ 0 ≤ seed ∧ seed < 18446744073709551616 ∧ Rb B w a (u8s cs)
theorem u64_rng (n : Int) : 0 ≤ IntKind.u64.wrap n ∧ IntKind.u64.wrap n < 18446744073709551616 := by rw [IntKind.wrap_u64]; omega
theorem seed_byte (sd : Int) (h0 : 0 ≤ sd) (h1 : sd < 18446744073709551616) : ∃ r : Nat, wrap64 (bits BinOp.and IntKind.u64 (sd / 1099511627776) 255) = (r : Int) ∧ r ≤ 255 := by
  have h := bits_mask .u64 64 (by decide) wraps_u64 8 (by decide) (sd / 1099511627776) (by omega) (by omega)
  rw [show ((2 : Int) ^ 8 - 1) = 255 by decide] at h
  rw [h]
  refine ⟨(sd / 1099511627776 % 256).toNat, ?_, by omega⟩
  unfold wrap64
  omega
theorem wdrew {S : Nat → Prop} {a b : World} (h : Wrote S a b) : Wrote S a b.drew := h.trans ⟨rfl, rfl, rfl, Nat.le_refl _, fun _ _ _ => rfl⟩
theorem pdrew {w : World} {B K : Nat} (h : PC w B K) : PC w.drew B K := h
set_option maxHeartbeats 1000000 in
theorem cur_next (B K : Nat) (w : World) (h : PC w B K) (hK : K ≤ 1000000000000) :
    Calls Try.prog 76 #[.pointer (some ⟨B, 0, none⟩)] w fun e w' => ∃ r : Nat, e = .returned (.int .i64 (r : Int)) ∧ r ≤ 255 ∧ PC w' B (K + 1) ∧ Wrote (fun k => k = B) w w' := by
  obtain ⟨a, c, p, seed, cs, hb, hp, hl, hc, hs0, hs1, hr⟩ := h
  have c0 := Joins.cell_of_block hb 0
  have c1 := Joins.cell_of_block hb 1
  have c2 := Joins.cell_of_block hb 2
  have f1 := Joins.unfrozen_of_block hb 1
  have f2 := Joins.unfrozen_of_block hb 2
  simp at c0 c1 c2
  by_cases hlt : p < cs.length
  case neg =>
    go_enter Try.func76, Try.ntmps76
    go_wp2_with fail
    refine wp_region_G [] (fun w' => w'.cell? ⟨B, 1, none⟩ = some (.int .i64 (p : Int)) ∧ w'.cell? ⟨B, 0, none⟩ = some (.slice a cs.length c)) (by kernel_rfl) ?_ (fun hHeld => ?_)
    · exact ⟨c1, c0⟩
    refine wpG_pure (i := 0) (oi := { dst := some 4, op := Go.Op.move (Go.Operand.tmp 0), type := 72, pos := "l1_wire.go:14", after := #[], guard := none }) (v := ?vg1) rfl (by kernel_rfl) (fun _ _ _ h => h) (Or.inr hHeld) (Or.inl ⟨by rfl, ?yg1⟩) ?_
    case yg1 => (intro wS _; go_simp <;> with_reducible rfl)
    try simp only [Act.put, List.setIfInBounds_toArray, List.set_cons_zero, List.set_cons_succ]
    refine wpG_pure (i := 1) (oi := { dst := some 5, op := Go.Op.nilCheck (Go.Operand.tmp 4), type := 0, pos := "l1_wire.go:14", after := #[{ on := 0, ground := Go.Ground.data }], guard := none }) (v := ?vg2) rfl (by kernel_rfl) (fun _ _ _ h => h) (Or.inr hHeld) (Or.inl ⟨by rfl, ?yg2⟩) ?_
    case yg2 => (intro wS _; go_simp <;> with_reducible rfl)
    try simp only [Act.put, List.setIfInBounds_toArray, List.set_cons_zero, List.set_cons_succ]
    refine wpG_pure (i := 2) (oi := { dst := some 6, op := Go.Op.fieldAddr 75 (Go.Operand.tmp 5) 1, type := 0, pos := "l1_wire.go:14", after := #[{ on := 1, ground := Go.Ground.data }], guard := none }) (v := ?vg3) rfl (by kernel_rfl) (fun _ _ _ h => h) (Or.inr hHeld) (Or.inl ⟨by rfl, ?yg3⟩) ?_
    case yg3 => (intro wS _; go_simp <;> with_reducible rfl)
    try simp only [Act.put, List.setIfInBounds_toArray, List.set_cons_zero, List.set_cons_succ]
    refine wpG_load (i := 3) (oi := { dst := some 7, op := Go.Op.load 3 (Go.Operand.tmp 6), type := 3, pos := "l1_wire.go:14", after := #[{ on := 2, ground := Go.Ground.data }], guard := none }) (v := ?vg4) [] rfl (by kernel_rfl) (fun _ _ _ h => h) hHeld (Or.inl ⟨by rfl, ?yg4⟩) ?_
    case yg4 => (intro wS hSw; (try dsimp only at hSw); go_simp <;> with_reducible rfl)
    try simp only [Act.put, List.setIfInBounds_toArray, List.set_cons_zero, List.set_cons_succ]
    refine wpG_pure (i := 4) (oi := { dst := some 8, op := Go.Op.move (Go.Operand.tmp 0), type := 72, pos := "l1_wire.go:14", after := #[], guard := none }) (v := ?vg5) rfl (by kernel_rfl) (fun _ _ _ h => h) (Or.inr hHeld) (Or.inl ⟨by rfl, ?yg5⟩) ?_
    case yg5 => (intro wS _; go_simp <;> with_reducible rfl)
    try simp only [Act.put, List.setIfInBounds_toArray, List.set_cons_zero, List.set_cons_succ]
    refine wpG_pure (i := 5) (oi := { dst := some 9, op := Go.Op.nilCheck (Go.Operand.tmp 8), type := 0, pos := "l1_wire.go:14", after := #[{ on := 4, ground := Go.Ground.data }], guard := none }) (v := ?vg6) rfl (by kernel_rfl) (fun _ _ _ h => h) (Or.inr hHeld) (Or.inl ⟨by rfl, ?yg6⟩) ?_
    case yg6 => (intro wS _; go_simp <;> with_reducible rfl)
    try simp only [Act.put, List.setIfInBounds_toArray, List.set_cons_zero, List.set_cons_succ]
    refine wpG_pure (i := 6) (oi := { dst := some 10, op := Go.Op.fieldAddr 75 (Go.Operand.tmp 9) 0, type := 0, pos := "l1_wire.go:14", after := #[{ on := 5, ground := Go.Ground.data }], guard := none }) (v := ?vg7) rfl (by kernel_rfl) (fun _ _ _ h => h) (Or.inr hHeld) (Or.inl ⟨by rfl, ?yg7⟩) ?_
    case yg7 => (intro wS _; go_simp <;> with_reducible rfl)
    try simp only [Act.put, List.setIfInBounds_toArray, List.set_cons_zero, List.set_cons_succ]
    refine wpG_load (i := 7) (oi := { dst := some 11, op := Go.Op.load 35 (Go.Operand.tmp 10), type := 35, pos := "l1_wire.go:14", after := #[{ on := 6, ground := Go.Ground.data }], guard := none }) (v := ?vg8) [] rfl (by kernel_rfl) (fun _ _ _ h => h) hHeld (Or.inl ⟨by rfl, ?yg8⟩) ?_
    case yg8 => (intro wS hSw; (try dsimp only at hSw); go_simp <;> with_reducible rfl)
    try simp only [Act.put, List.setIfInBounds_toArray, List.set_cons_zero, List.set_cons_succ]
    refine wpG_pure (i := 8) (oi := { dst := some 12, op := Go.Op.call { callee := Go.Callee.builtin Go.Builtin.len, args := #[Go.Operand.tmp 11], argTypes := #[35] }, type := 3, pos := "l1_wire.go:14", after := #[{ on := 7, ground := Go.Ground.data }], guard := none }) (v := ?vg9) rfl (by kernel_rfl) (fun _ _ _ h => h) (Or.inr hHeld) (Or.inl ⟨by rfl, ?yg9⟩) ?_
    case yg9 => (intro wS _; go_simp <;> with_reducible rfl)
    try simp only [Act.put, List.setIfInBounds_toArray, List.set_cons_zero, List.set_cons_succ]
    refine wpG_pure (i := 9) (oi := { dst := some 13, op := Go.Op.binOp Go.BinOp.lss 3 (Go.Operand.tmp 7) (Go.Operand.tmp 12) 3, type := 4, pos := "l1_wire.go:14", after := #[{ on := 3, ground := Go.Ground.data }, { on := 8, ground := Go.Ground.data }], guard := none }) (v := ?vg10) rfl (by kernel_rfl) (fun _ _ _ h => h) (Or.inr hHeld) (Or.inl ⟨by rfl, ?yg10⟩) ?_
    case yg10 => (intro wS _; go_simp <;> with_reducible rfl)
    try simp only [Act.put, List.setIfInBounds_toArray, List.set_cons_zero, List.set_cons_succ]
    refine wpG_done (by kernel_rfl) ?_
    skip
    go_wp2_with fail
    have hb2 := Joins.block_setCell (i := 2) (Joins.block_setCell (i := 1) hb (.int .i64 ((p : Int) + 1))) (.int .u64 (IntKind.u64.wrap (IntKind.u64.wrap (IntKind.u64.wrap (seed * 6364136223846793005)) + 1442695040888963407)))
    have hsd : 0 ≤ IntKind.u64.wrap (IntKind.u64.wrap (IntKind.u64.wrap (seed * 6364136223846793005)) + 1442695040888963407) ∧ IntKind.u64.wrap (IntKind.u64.wrap (IntKind.u64.wrap (seed * 6364136223846793005)) + 1442695040888963407) < 18446744073709551616 := u64_rng _
    generalize IntKind.u64.wrap (IntKind.u64.wrap (IntKind.u64.wrap (seed * 6364136223846793005)) + 1442695040888963407) = sd at *
    have HW : Hid (Wrote (fun k => k = B) w ((w.setCell ⟨B, 1, none⟩ (.int .i64 ((p : Int) + 1))).setCell ⟨B, 2, none⟩ (.int .u64 sd))) := Lib.hid ((wrote_cell _ _ _ _).trans (wrote_cell _ _ _ _))
    have HR : Hid (Rb B ((w.setCell ⟨B, 1, none⟩ (.int .i64 ((p : Int) + 1))).setCell ⟨B, 2, none⟩ (.int .u64 sd)) a (u8s cs)) := Lib.hid ((hr.setCell _ _ _ (Nat.le_refl _)).setCell _ _ _ (Nat.le_refl _))
    generalize (w.setCell ⟨B, 1, none⟩ (.int .i64 ((p : Int) + 1))).setCell ⟨B, 2, none⟩ (.int .u64 sd) = wz at *
    simp only [List.setIfInBounds_toArray, List.set_cons_zero, List.set_cons_succ] at hb2
    have k0 := Joins.cell_of_block hb2 0
    have k1 := Joins.cell_of_block hb2 1
    have k2 := Joins.cell_of_block hb2 2
    simp at k0 k1 k2
    have HPC : Hid (PC wz B (K + 1)) := Lib.hid ⟨a, c, p + 1, sd, cs, by simpa using hb2, by omega, hl, hc, hsd.1, hsd.2, HR.out⟩
    clear hb2 c0 c1 c2 f1 f2 hr hb
    refine wp_region_G [] (fun w' => w'.cell? ⟨B, 1, none⟩ = some (.int .i64 ((p : Int) + 1)) ∧ w'.cell? ⟨B, 0, none⟩ = some (.slice a cs.length c)) (by kernel_rfl) ?_ (fun hHeld => ?_)
    · exact ⟨k1, k0⟩
    refine wpG_pure (i := 0) (oi := { dst := some 44, op := Go.Op.move (Go.Operand.tmp 0), type := 72, pos := "l1_wire.go:19", after := #[], guard := none }) (v := ?vg11) rfl (by kernel_rfl) (fun _ _ _ h => h) (Or.inr hHeld) (Or.inl ⟨by rfl, ?yg11⟩) ?_
    case yg11 => (intro wS _; go_simp <;> with_reducible rfl)
    try simp only [Act.put, List.setIfInBounds_toArray, List.set_cons_zero, List.set_cons_succ]
    refine wpG_pure (i := 1) (oi := { dst := some 45, op := Go.Op.nilCheck (Go.Operand.tmp 44), type := 0, pos := "l1_wire.go:19", after := #[{ on := 0, ground := Go.Ground.data }], guard := none }) (v := ?vg12) rfl (by kernel_rfl) (fun _ _ _ h => h) (Or.inr hHeld) (Or.inl ⟨by rfl, ?yg12⟩) ?_
    case yg12 => (intro wS _; go_simp <;> with_reducible rfl)
    try simp only [Act.put, List.setIfInBounds_toArray, List.set_cons_zero, List.set_cons_succ]
    refine wpG_pure (i := 2) (oi := { dst := some 46, op := Go.Op.fieldAddr 75 (Go.Operand.tmp 45) 1, type := 0, pos := "l1_wire.go:19", after := #[{ on := 1, ground := Go.Ground.data }], guard := none }) (v := ?vg13) rfl (by kernel_rfl) (fun _ _ _ h => h) (Or.inr hHeld) (Or.inl ⟨by rfl, ?yg13⟩) ?_
    case yg13 => (intro wS _; go_simp <;> with_reducible rfl)
    try simp only [Act.put, List.setIfInBounds_toArray, List.set_cons_zero, List.set_cons_succ]
    refine wpG_load (i := 3) (oi := { dst := some 47, op := Go.Op.load 3 (Go.Operand.tmp 46), type := 3, pos := "l1_wire.go:19", after := #[{ on := 2, ground := Go.Ground.data }], guard := none }) (v := ?vg14) [] rfl (by kernel_rfl) (fun _ _ _ h => h) hHeld (Or.inl ⟨by rfl, ?yg14⟩) ?_
    case yg14 => (intro wS hSw; (try dsimp only at hSw); go_simp <;> with_reducible rfl)
    try simp only [Act.put, List.setIfInBounds_toArray, List.set_cons_zero, List.set_cons_succ]
    refine wpG_pure (i := 4) (oi := { dst := some 48, op := Go.Op.move (Go.Operand.tmp 0), type := 72, pos := "l1_wire.go:19", after := #[], guard := none }) (v := ?vg15) rfl (by kernel_rfl) (fun _ _ _ h => h) (Or.inr hHeld) (Or.inl ⟨by rfl, ?yg15⟩) ?_
    case yg15 => (intro wS _; go_simp <;> with_reducible rfl)
    try simp only [Act.put, List.setIfInBounds_toArray, List.set_cons_zero, List.set_cons_succ]
    refine wpG_pure (i := 5) (oi := { dst := some 49, op := Go.Op.nilCheck (Go.Operand.tmp 48), type := 0, pos := "l1_wire.go:19", after := #[{ on := 4, ground := Go.Ground.data }], guard := none }) (v := ?vg16) rfl (by kernel_rfl) (fun _ _ _ h => h) (Or.inr hHeld) (Or.inl ⟨by rfl, ?yg16⟩) ?_
    case yg16 => (intro wS _; go_simp <;> with_reducible rfl)
    try simp only [Act.put, List.setIfInBounds_toArray, List.set_cons_zero, List.set_cons_succ]
    refine wpG_pure (i := 6) (oi := { dst := some 50, op := Go.Op.fieldAddr 75 (Go.Operand.tmp 49) 0, type := 0, pos := "l1_wire.go:19", after := #[{ on := 5, ground := Go.Ground.data }], guard := none }) (v := ?vg17) rfl (by kernel_rfl) (fun _ _ _ h => h) (Or.inr hHeld) (Or.inl ⟨by rfl, ?yg17⟩) ?_
    case yg17 => (intro wS _; go_simp <;> with_reducible rfl)
    try simp only [Act.put, List.setIfInBounds_toArray, List.set_cons_zero, List.set_cons_succ]
    refine wpG_load (i := 7) (oi := { dst := some 51, op := Go.Op.load 35 (Go.Operand.tmp 50), type := 35, pos := "l1_wire.go:19", after := #[{ on := 6, ground := Go.Ground.data }], guard := none }) (v := ?vg18) [] rfl (by kernel_rfl) (fun _ _ _ h => h) hHeld (Or.inl ⟨by rfl, ?yg18⟩) ?_
    case yg18 => (intro wS hSw; (try dsimp only at hSw); go_simp <;> with_reducible rfl)
    try simp only [Act.put, List.setIfInBounds_toArray, List.set_cons_zero, List.set_cons_succ]
    refine wpG_pure (i := 8) (oi := { dst := some 52, op := Go.Op.call { callee := Go.Callee.builtin Go.Builtin.len, args := #[Go.Operand.tmp 51], argTypes := #[35] }, type := 3, pos := "l1_wire.go:19", after := #[{ on := 7, ground := Go.Ground.data }], guard := none }) (v := ?vg19) rfl (by kernel_rfl) (fun _ _ _ h => h) (Or.inr hHeld) (Or.inl ⟨by rfl, ?yg19⟩) ?_
    case yg19 => (intro wS _; go_simp <;> with_reducible rfl)
    try simp only [Act.put, List.setIfInBounds_toArray, List.set_cons_zero, List.set_cons_succ]
    refine wpG_pure (i := 9) (oi := { dst := some 53, op := Go.Op.binOp Go.BinOp.leq 3 (Go.Operand.tmp 47) (Go.Operand.tmp 52) 3, type := 4, pos := "l1_wire.go:19", after := #[{ on := 3, ground := Go.Ground.data }, { on := 8, ground := Go.Ground.data }], guard := none }) (v := ?vg20) rfl (by kernel_rfl) (fun _ _ _ h => h) (Or.inr hHeld) (Or.inl ⟨by rfl, ?yg20⟩) ?_
    case yg20 => (intro wS _; go_simp <;> with_reducible rfl)
    try simp only [Act.put, List.setIfInBounds_toArray, List.set_cons_zero, List.set_cons_succ]
    refine wpG_done (by kernel_rfl) ?_
    skip
    go_wp2_with fail
    obtain ⟨r, hr1, hr2⟩ := seed_byte sd hsd.1 hsd.2
    go_ret
    exact ⟨r, by rw [← hr1]; rfl, hr2, HPC.out, wdrew (wdrew HW.out)⟩
  obtain ⟨b, off, rfl, hbl, hcc⟩ := hr.at (fun e => by have := congrArg List.length e; simp [u8s] at this; rw [this] at hlt; simp at hlt)
  have cb : w.cell? ⟨b, off + p, none⟩ = some (.int .u8 ((cs[p]'hlt).toNat : Int)) := hcc p _ (by simp [u8s, hlt])
  have hby : (cs[p]'hlt).toNat ≤ 255 := by have := (cs[p]'hlt).toNat_lt; omega
  generalize cs[p].toNat = by1 at *
  have hwb : IntKind.i64.wrap (by1 : Int) = (by1 : Int) := IntWalk.i64_in _ (by omega)
  go_enter Try.func76, Try.ntmps76
  go_wp2_with fail
  refine wp_region_G [] (fun w' => w'.cell? ⟨B, 1, none⟩ = some (.int .i64 (p : Int)) ∧ w'.cell? ⟨B, 0, none⟩ = some (.slice (some ⟨b, off, none⟩) cs.length c)) (by kernel_rfl) ?_ (fun hHeld => ?_)
  · exact ⟨c1, c0⟩
  refine wpG_pure (i := 0) (oi := { dst := some 4, op := Go.Op.move (Go.Operand.tmp 0), type := 72, pos := "l1_wire.go:14", after := #[], guard := none }) (v := ?vg21) rfl (by kernel_rfl) (fun _ _ _ h => h) (Or.inr hHeld) (Or.inl ⟨by rfl, ?yg21⟩) ?_
  case yg21 => (intro wS _; go_simp <;> with_reducible rfl)
  try simp only [Act.put, List.setIfInBounds_toArray, List.set_cons_zero, List.set_cons_succ]
  refine wpG_pure (i := 1) (oi := { dst := some 5, op := Go.Op.nilCheck (Go.Operand.tmp 4), type := 0, pos := "l1_wire.go:14", after := #[{ on := 0, ground := Go.Ground.data }], guard := none }) (v := ?vg22) rfl (by kernel_rfl) (fun _ _ _ h => h) (Or.inr hHeld) (Or.inl ⟨by rfl, ?yg22⟩) ?_
  case yg22 => (intro wS _; go_simp <;> with_reducible rfl)
  try simp only [Act.put, List.setIfInBounds_toArray, List.set_cons_zero, List.set_cons_succ]
  refine wpG_pure (i := 2) (oi := { dst := some 6, op := Go.Op.fieldAddr 75 (Go.Operand.tmp 5) 1, type := 0, pos := "l1_wire.go:14", after := #[{ on := 1, ground := Go.Ground.data }], guard := none }) (v := ?vg23) rfl (by kernel_rfl) (fun _ _ _ h => h) (Or.inr hHeld) (Or.inl ⟨by rfl, ?yg23⟩) ?_
  case yg23 => (intro wS _; go_simp <;> with_reducible rfl)
  try simp only [Act.put, List.setIfInBounds_toArray, List.set_cons_zero, List.set_cons_succ]
  refine wpG_load (i := 3) (oi := { dst := some 7, op := Go.Op.load 3 (Go.Operand.tmp 6), type := 3, pos := "l1_wire.go:14", after := #[{ on := 2, ground := Go.Ground.data }], guard := none }) (v := ?vg24) [] rfl (by kernel_rfl) (fun _ _ _ h => h) hHeld (Or.inl ⟨by rfl, ?yg24⟩) ?_
  case yg24 => (intro wS hSw; (try dsimp only at hSw); go_simp <;> with_reducible rfl)
  try simp only [Act.put, List.setIfInBounds_toArray, List.set_cons_zero, List.set_cons_succ]
  refine wpG_pure (i := 4) (oi := { dst := some 8, op := Go.Op.move (Go.Operand.tmp 0), type := 72, pos := "l1_wire.go:14", after := #[], guard := none }) (v := ?vg25) rfl (by kernel_rfl) (fun _ _ _ h => h) (Or.inr hHeld) (Or.inl ⟨by rfl, ?yg25⟩) ?_
  case yg25 => (intro wS _; go_simp <;> with_reducible rfl)
  try simp only [Act.put, List.setIfInBounds_toArray, List.set_cons_zero, List.set_cons_succ]
  refine wpG_pure (i := 5) (oi := { dst := some 9, op := Go.Op.nilCheck (Go.Operand.tmp 8), type := 0, pos := "l1_wire.go:14", after := #[{ on := 4, ground := Go.Ground.data }], guard := none }) (v := ?vg26) rfl (by kernel_rfl) (fun _ _ _ h => h) (Or.inr hHeld) (Or.inl ⟨by rfl, ?yg26⟩) ?_
  case yg26 => (intro wS _; go_simp <;> with_reducible rfl)
  try simp only [Act.put, List.setIfInBounds_toArray, List.set_cons_zero, List.set_cons_succ]
  refine wpG_pure (i := 6) (oi := { dst := some 10, op := Go.Op.fieldAddr 75 (Go.Operand.tmp 9) 0, type := 0, pos := "l1_wire.go:14", after := #[{ on := 5, ground := Go.Ground.data }], guard := none }) (v := ?vg27) rfl (by kernel_rfl) (fun _ _ _ h => h) (Or.inr hHeld) (Or.inl ⟨by rfl, ?yg27⟩) ?_
  case yg27 => (intro wS _; go_simp <;> with_reducible rfl)
  try simp only [Act.put, List.setIfInBounds_toArray, List.set_cons_zero, List.set_cons_succ]
  refine wpG_load (i := 7) (oi := { dst := some 11, op := Go.Op.load 35 (Go.Operand.tmp 10), type := 35, pos := "l1_wire.go:14", after := #[{ on := 6, ground := Go.Ground.data }], guard := none }) (v := ?vg28) [] rfl (by kernel_rfl) (fun _ _ _ h => h) hHeld (Or.inl ⟨by rfl, ?yg28⟩) ?_
  case yg28 => (intro wS hSw; (try dsimp only at hSw); go_simp <;> with_reducible rfl)
  try simp only [Act.put, List.setIfInBounds_toArray, List.set_cons_zero, List.set_cons_succ]
  refine wpG_pure (i := 8) (oi := { dst := some 12, op := Go.Op.call { callee := Go.Callee.builtin Go.Builtin.len, args := #[Go.Operand.tmp 11], argTypes := #[35] }, type := 3, pos := "l1_wire.go:14", after := #[{ on := 7, ground := Go.Ground.data }], guard := none }) (v := ?vg29) rfl (by kernel_rfl) (fun _ _ _ h => h) (Or.inr hHeld) (Or.inl ⟨by rfl, ?yg29⟩) ?_
  case yg29 => (intro wS _; go_simp <;> with_reducible rfl)
  try simp only [Act.put, List.setIfInBounds_toArray, List.set_cons_zero, List.set_cons_succ]
  refine wpG_pure (i := 9) (oi := { dst := some 13, op := Go.Op.binOp Go.BinOp.lss 3 (Go.Operand.tmp 7) (Go.Operand.tmp 12) 3, type := 4, pos := "l1_wire.go:14", after := #[{ on := 3, ground := Go.Ground.data }, { on := 8, ground := Go.Ground.data }], guard := none }) (v := ?vg30) rfl (by kernel_rfl) (fun _ _ _ h => h) (Or.inr hHeld) (Or.inl ⟨by rfl, ?yg30⟩) ?_
  case yg30 => (intro wS _; go_simp <;> with_reducible rfl)
  try simp only [Act.put, List.setIfInBounds_toArray, List.set_cons_zero, List.set_cons_succ]
  refine wpG_done (by kernel_rfl) ?_
  skip
  go_wp2_with fail
  refine wp_region_G [] (fun w' => w'.cell? ⟨B, 1, none⟩ = some (.int .i64 (p : Int)) ∧ w'.cell? ⟨B, 0, none⟩ = some (.slice (some ⟨b, off, none⟩) cs.length c) ∧ w'.cell? ⟨b, off + p, none⟩ = some (.int .u8 (by1 : Int))) (by kernel_rfl) ?_ (fun hHeld => ?_)
  · exact ⟨c1, c0, cb⟩
  refine wpG_pure (i := 0) (oi := { dst := some 14, op := Go.Op.move (Go.Operand.tmp 0), type := 72, pos := "l1_wire.go:15", after := #[], guard := none }) (v := ?vg31) rfl (by kernel_rfl) (fun _ _ _ h => h) (Or.inr hHeld) (Or.inl ⟨by rfl, ?yg31⟩) ?_
  case yg31 => (intro wS _; go_simp <;> with_reducible rfl)
  try simp only [Act.put, List.setIfInBounds_toArray, List.set_cons_zero, List.set_cons_succ]
  refine wpG_pure (i := 1) (oi := { dst := some 15, op := Go.Op.nilCheck (Go.Operand.tmp 14), type := 0, pos := "l1_wire.go:15", after := #[{ on := 0, ground := Go.Ground.data }], guard := none }) (v := ?vg32) rfl (by kernel_rfl) (fun _ _ _ h => h) (Or.inr hHeld) (Or.inl ⟨by rfl, ?yg32⟩) ?_
  case yg32 => (intro wS _; go_simp <;> with_reducible rfl)
  try simp only [Act.put, List.setIfInBounds_toArray, List.set_cons_zero, List.set_cons_succ]
  refine wpG_pure (i := 2) (oi := { dst := some 16, op := Go.Op.fieldAddr 75 (Go.Operand.tmp 15) 0, type := 0, pos := "l1_wire.go:15", after := #[{ on := 1, ground := Go.Ground.data }], guard := none }) (v := ?vg33) rfl (by kernel_rfl) (fun _ _ _ h => h) (Or.inr hHeld) (Or.inl ⟨by rfl, ?yg33⟩) ?_
  case yg33 => (intro wS _; go_simp <;> with_reducible rfl)
  try simp only [Act.put, List.setIfInBounds_toArray, List.set_cons_zero, List.set_cons_succ]
  refine wpG_load (i := 3) (oi := { dst := some 17, op := Go.Op.load 35 (Go.Operand.tmp 16), type := 35, pos := "l1_wire.go:15", after := #[{ on := 2, ground := Go.Ground.data }], guard := none }) (v := ?vg34) [] rfl (by kernel_rfl) (fun _ _ _ h => h) hHeld (Or.inl ⟨by rfl, ?yg34⟩) ?_
  case yg34 => (intro wS hSw; (try dsimp only at hSw); go_simp <;> with_reducible rfl)
  try simp only [Act.put, List.setIfInBounds_toArray, List.set_cons_zero, List.set_cons_succ]
  refine wpG_pure (i := 4) (oi := { dst := some 18, op := Go.Op.move (Go.Operand.tmp 0), type := 72, pos := "l1_wire.go:15", after := #[], guard := none }) (v := ?vg35) rfl (by kernel_rfl) (fun _ _ _ h => h) (Or.inr hHeld) (Or.inl ⟨by rfl, ?yg35⟩) ?_
  case yg35 => (intro wS _; go_simp <;> with_reducible rfl)
  try simp only [Act.put, List.setIfInBounds_toArray, List.set_cons_zero, List.set_cons_succ]
  refine wpG_pure (i := 5) (oi := { dst := some 19, op := Go.Op.nilCheck (Go.Operand.tmp 18), type := 0, pos := "l1_wire.go:15", after := #[{ on := 4, ground := Go.Ground.data }], guard := none }) (v := ?vg36) rfl (by kernel_rfl) (fun _ _ _ h => h) (Or.inr hHeld) (Or.inl ⟨by rfl, ?yg36⟩) ?_
  case yg36 => (intro wS _; go_simp <;> with_reducible rfl)
  try simp only [Act.put, List.setIfInBounds_toArray, List.set_cons_zero, List.set_cons_succ]
  refine wpG_pure (i := 6) (oi := { dst := some 20, op := Go.Op.fieldAddr 75 (Go.Operand.tmp 19) 1, type := 0, pos := "l1_wire.go:15", after := #[{ on := 5, ground := Go.Ground.data }], guard := none }) (v := ?vg37) rfl (by kernel_rfl) (fun _ _ _ h => h) (Or.inr hHeld) (Or.inl ⟨by rfl, ?yg37⟩) ?_
  case yg37 => (intro wS _; go_simp <;> with_reducible rfl)
  try simp only [Act.put, List.setIfInBounds_toArray, List.set_cons_zero, List.set_cons_succ]
  refine wpG_load (i := 7) (oi := { dst := some 21, op := Go.Op.load 3 (Go.Operand.tmp 20), type := 3, pos := "l1_wire.go:15", after := #[{ on := 6, ground := Go.Ground.data }], guard := none }) (v := ?vg38) [] rfl (by kernel_rfl) (fun _ _ _ h => h) hHeld (Or.inl ⟨by rfl, ?yg38⟩) ?_
  case yg38 => (intro wS hSw; (try dsimp only at hSw); go_simp <;> with_reducible rfl)
  try simp only [Act.put, List.setIfInBounds_toArray, List.set_cons_zero, List.set_cons_succ]
  refine wpG_pure (i := 8) (oi := { dst := some 22, op := Go.Op.indexAddr 35 (Go.Operand.tmp 17) (Go.Operand.tmp 21), type := 0, pos := "l1_wire.go:15", after := #[{ on := 3, ground := Go.Ground.data }, { on := 7, ground := Go.Ground.data }], guard := none }) (v := ?vg39) rfl (by kernel_rfl) (fun _ _ _ h => h) (Or.inr hHeld) (Or.inl ⟨by rfl, ?yg39⟩) ?_
  case yg39 => (intro wS _; go_simp <;> with_reducible rfl)
  try simp only [Act.put, List.setIfInBounds_toArray, List.set_cons_zero, List.set_cons_succ]
  refine wpG_load (i := 9) (oi := { dst := some 23, op := Go.Op.load 5 (Go.Operand.tmp 22), type := 5, pos := "l1_wire.go:15", after := #[{ on := 8, ground := Go.Ground.data }], guard := none }) (v := ?vg40) [] rfl (by kernel_rfl) (fun _ _ _ h => h) hHeld (Or.inl ⟨by rfl, ?yg40⟩) ?_
  case yg40 => (intro wS hSw; (try dsimp only at hSw); go_simp <;> with_reducible rfl)
  try simp only [Act.put, List.setIfInBounds_toArray, List.set_cons_zero, List.set_cons_succ]
  refine wpG_pure (i := 10) (oi := { dst := some 24, op := Go.Op.convert 5 3 (Go.Operand.tmp 23), type := 3, pos := "l1_wire.go:15", after := #[{ on := 9, ground := Go.Ground.data }], guard := none }) (v := ?vg41) rfl (by kernel_rfl) (fun _ _ _ h => h) (Or.inr hHeld) (Or.inl ⟨by rfl, ?yg41⟩) ?_
  case yg41 => (intro wS _; go_simp <;> with_reducible rfl)
  try simp only [Act.put, List.setIfInBounds_toArray, List.set_cons_zero, List.set_cons_succ]
  refine wpG_pure (i := 11) (oi := { dst := some 3, op := Go.Op.assign (Go.Operand.tmp 24), type := 3, pos := "l1_wire.go:15", after := #[{ on := 10, ground := Go.Ground.data }, { on := 0, ground := Go.Ground.phase }, { on := 1, ground := Go.Ground.phase }, { on := 2, ground := Go.Ground.phase }, { on := 3, ground := Go.Ground.phase }, { on := 4, ground := Go.Ground.phase }, { on := 5, ground := Go.Ground.phase }, { on := 6, ground := Go.Ground.phase }, { on := 7, ground := Go.Ground.phase }, { on := 8, ground := Go.Ground.phase }, { on := 9, ground := Go.Ground.phase }, { on := 10, ground := Go.Ground.phase }], guard := none }) (v := ?vg42) rfl (by kernel_rfl) (fun _ _ _ h => h) (Or.inr hHeld) (Or.inl ⟨by rfl, ?yg42⟩) ?_
  case yg42 => (intro wS _; go_simp <;> with_reducible rfl)
  try simp only [Act.put, List.setIfInBounds_toArray, List.set_cons_zero, List.set_cons_succ]
  refine wpG_done (by kernel_rfl) ?_
  skip
  go_wp2_with fail
  have hb2 := Joins.block_setCell (i := 2) (Joins.block_setCell (i := 1) hb (.int .i64 ((p : Int) + 1))) (.int .u64 (IntKind.u64.wrap (IntKind.u64.wrap (IntKind.u64.wrap (seed * 6364136223846793005) + (by1 : Int)) + 1442695040888963407)))
  have hsd : 0 ≤ IntKind.u64.wrap (IntKind.u64.wrap (IntKind.u64.wrap (seed * 6364136223846793005) + (by1 : Int)) + 1442695040888963407) ∧ IntKind.u64.wrap (IntKind.u64.wrap (IntKind.u64.wrap (seed * 6364136223846793005) + (by1 : Int)) + 1442695040888963407) < 18446744073709551616 := u64_rng _
  generalize IntKind.u64.wrap (IntKind.u64.wrap (IntKind.u64.wrap (seed * 6364136223846793005) + (by1 : Int)) + 1442695040888963407) = sd at *
  have HW : Hid (Wrote (fun k => k = B) w ((w.setCell ⟨B, 1, none⟩ (.int .i64 ((p : Int) + 1))).setCell ⟨B, 2, none⟩ (.int .u64 sd))) := Lib.hid ((wrote_cell _ _ _ _).trans (wrote_cell _ _ _ _))
  have HR : Hid (Rb B ((w.setCell ⟨B, 1, none⟩ (.int .i64 ((p : Int) + 1))).setCell ⟨B, 2, none⟩ (.int .u64 sd)) (some ⟨b, off, none⟩) (u8s cs)) := Lib.hid ((hr.setCell _ _ _ (Nat.le_refl _)).setCell _ _ _ (Nat.le_refl _))
  generalize (w.setCell ⟨B, 1, none⟩ (.int .i64 ((p : Int) + 1))).setCell ⟨B, 2, none⟩ (.int .u64 sd) = wz at *
  simp only [List.setIfInBounds_toArray, List.set_cons_zero, List.set_cons_succ] at hb2
  have k0 := Joins.cell_of_block hb2 0
  have k1 := Joins.cell_of_block hb2 1
  have k2 := Joins.cell_of_block hb2 2
  simp at k0 k1 k2
  have HPC : Hid (PC wz B (K + 1)) := Lib.hid ⟨(some ⟨b, off, none⟩), c, p + 1, sd, cs, by simpa using hb2, by omega, hl, hc, hsd.1, hsd.2, HR.out⟩
  clear hb2 c0 c1 c2 f1 f2 hr hb
  refine wp_region_G [] (fun w' => w'.cell? ⟨B, 1, none⟩ = some (.int .i64 ((p : Int) + 1)) ∧ w'.cell? ⟨B, 0, none⟩ = some (.slice (some ⟨b, off, none⟩) cs.length c)) (by kernel_rfl) ?_ (fun hHeld => ?_)
  · exact ⟨k1, k0⟩
  refine wpG_pure (i := 0) (oi := { dst := some 44, op := Go.Op.move (Go.Operand.tmp 0), type := 72, pos := "l1_wire.go:19", after := #[], guard := none }) (v := ?vg43) rfl (by kernel_rfl) (fun _ _ _ h => h) (Or.inr hHeld) (Or.inl ⟨by rfl, ?yg43⟩) ?_
  case yg43 => (intro wS _; go_simp <;> with_reducible rfl)
  try simp only [Act.put, List.setIfInBounds_toArray, List.set_cons_zero, List.set_cons_succ]
  refine wpG_pure (i := 1) (oi := { dst := some 45, op := Go.Op.nilCheck (Go.Operand.tmp 44), type := 0, pos := "l1_wire.go:19", after := #[{ on := 0, ground := Go.Ground.data }], guard := none }) (v := ?vg44) rfl (by kernel_rfl) (fun _ _ _ h => h) (Or.inr hHeld) (Or.inl ⟨by rfl, ?yg44⟩) ?_
  case yg44 => (intro wS _; go_simp <;> with_reducible rfl)
  try simp only [Act.put, List.setIfInBounds_toArray, List.set_cons_zero, List.set_cons_succ]
  refine wpG_pure (i := 2) (oi := { dst := some 46, op := Go.Op.fieldAddr 75 (Go.Operand.tmp 45) 1, type := 0, pos := "l1_wire.go:19", after := #[{ on := 1, ground := Go.Ground.data }], guard := none }) (v := ?vg45) rfl (by kernel_rfl) (fun _ _ _ h => h) (Or.inr hHeld) (Or.inl ⟨by rfl, ?yg45⟩) ?_
  case yg45 => (intro wS _; go_simp <;> with_reducible rfl)
  try simp only [Act.put, List.setIfInBounds_toArray, List.set_cons_zero, List.set_cons_succ]
  refine wpG_load (i := 3) (oi := { dst := some 47, op := Go.Op.load 3 (Go.Operand.tmp 46), type := 3, pos := "l1_wire.go:19", after := #[{ on := 2, ground := Go.Ground.data }], guard := none }) (v := ?vg46) [] rfl (by kernel_rfl) (fun _ _ _ h => h) hHeld (Or.inl ⟨by rfl, ?yg46⟩) ?_
  case yg46 => (intro wS hSw; (try dsimp only at hSw); go_simp <;> with_reducible rfl)
  try simp only [Act.put, List.setIfInBounds_toArray, List.set_cons_zero, List.set_cons_succ]
  refine wpG_pure (i := 4) (oi := { dst := some 48, op := Go.Op.move (Go.Operand.tmp 0), type := 72, pos := "l1_wire.go:19", after := #[], guard := none }) (v := ?vg47) rfl (by kernel_rfl) (fun _ _ _ h => h) (Or.inr hHeld) (Or.inl ⟨by rfl, ?yg47⟩) ?_
  case yg47 => (intro wS _; go_simp <;> with_reducible rfl)
  try simp only [Act.put, List.setIfInBounds_toArray, List.set_cons_zero, List.set_cons_succ]
  refine wpG_pure (i := 5) (oi := { dst := some 49, op := Go.Op.nilCheck (Go.Operand.tmp 48), type := 0, pos := "l1_wire.go:19", after := #[{ on := 4, ground := Go.Ground.data }], guard := none }) (v := ?vg48) rfl (by kernel_rfl) (fun _ _ _ h => h) (Or.inr hHeld) (Or.inl ⟨by rfl, ?yg48⟩) ?_
  case yg48 => (intro wS _; go_simp <;> with_reducible rfl)
  try simp only [Act.put, List.setIfInBounds_toArray, List.set_cons_zero, List.set_cons_succ]
  refine wpG_pure (i := 6) (oi := { dst := some 50, op := Go.Op.fieldAddr 75 (Go.Operand.tmp 49) 0, type := 0, pos := "l1_wire.go:19", after := #[{ on := 5, ground := Go.Ground.data }], guard := none }) (v := ?vg49) rfl (by kernel_rfl) (fun _ _ _ h => h) (Or.inr hHeld) (Or.inl ⟨by rfl, ?yg49⟩) ?_
  case yg49 => (intro wS _; go_simp <;> with_reducible rfl)
  try simp only [Act.put, List.setIfInBounds_toArray, List.set_cons_zero, List.set_cons_succ]
  refine wpG_load (i := 7) (oi := { dst := some 51, op := Go.Op.load 35 (Go.Operand.tmp 50), type := 35, pos := "l1_wire.go:19", after := #[{ on := 6, ground := Go.Ground.data }], guard := none }) (v := ?vg50) [] rfl (by kernel_rfl) (fun _ _ _ h => h) hHeld (Or.inl ⟨by rfl, ?yg50⟩) ?_
  case yg50 => (intro wS hSw; (try dsimp only at hSw); go_simp <;> with_reducible rfl)
  try simp only [Act.put, List.setIfInBounds_toArray, List.set_cons_zero, List.set_cons_succ]
  refine wpG_pure (i := 8) (oi := { dst := some 52, op := Go.Op.call { callee := Go.Callee.builtin Go.Builtin.len, args := #[Go.Operand.tmp 51], argTypes := #[35] }, type := 3, pos := "l1_wire.go:19", after := #[{ on := 7, ground := Go.Ground.data }], guard := none }) (v := ?vg51) rfl (by kernel_rfl) (fun _ _ _ h => h) (Or.inr hHeld) (Or.inl ⟨by rfl, ?yg51⟩) ?_
  case yg51 => (intro wS _; go_simp <;> with_reducible rfl)
  try simp only [Act.put, List.setIfInBounds_toArray, List.set_cons_zero, List.set_cons_succ]
  refine wpG_pure (i := 9) (oi := { dst := some 53, op := Go.Op.binOp Go.BinOp.leq 3 (Go.Operand.tmp 47) (Go.Operand.tmp 52) 3, type := 4, pos := "l1_wire.go:19", after := #[{ on := 3, ground := Go.Ground.data }, { on := 8, ground := Go.Ground.data }], guard := none }) (v := ?vg52) rfl (by kernel_rfl) (fun _ _ _ h => h) (Or.inr hHeld) (Or.inl ⟨by rfl, ?yg52⟩) ?_
  case yg52 => (intro wS _; go_simp <;> with_reducible rfl)
  try simp only [Act.put, List.setIfInBounds_toArray, List.set_cons_zero, List.set_cons_succ]
  refine wpG_done (by kernel_rfl) ?_
  skip
  go_wp2_with fail
  go_ret
  exact ⟨by1, rfl, hby, HPC.out, wdrew (wdrew (wdrew HW.out))⟩
end Go.Proofs.Ytmlnecopbncdbaa
