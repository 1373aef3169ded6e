/- Whether a variable is in a tree: the program's contract. -/
import Derived.Test.YtlmgckijbamgpaaTmC
namespace Go.Proofs.Ytlmgckijbamgpaa
set_option linter.unusedVariables false
open Go.ChangeShapes Go.WideShapes Go.ChangeAt Go.RowKit
set_option maxRecDepth 100000

theorem any_vars (v : Int) : ∀ (ks : List (Value × List Int)), (ks.any fun q => decide (v ∈ q.2)) = decide (v ∈ kPv ks)
  | [] => by simp [kPv]
  | k :: r => by
    have := any_vars v r
    rw [List.any_cons, this]
    unfold kPv
    rw [List.map_cons, List.flatten_cons]
    by_cases h1 : v ∈ k.2 <;> by_cases h2 : v ∈ (r.map (·.2)).flatten <;> simp [h1, h2]
set_option maxHeartbeats 4000000 in
theorem has_call (w : World) (b : Nat) (n : Int) (nm : ByteArray) (a : Option Addr) (c : Nat) (v : Int) (ks : List (Value × List Int)) (R : Bool) (hh : w.heap[b]? = some (.cells #[.int .i64 n, .string nm, .slice a ks.length c] 151)) (h5 : ks.length ≤ 5) (hnv : n ≠ v)
    (hC : ∀ wx : World, Below w.heap.size w wx → wx.cell? ⟨w.heap.size, 0, none⟩ = some (.int .i64 v) → Calls Try.prog 116 #[.slice a ks.length c, .func (.func 117) #[] #[.pointer (some ⟨w.heap.size, 0, none⟩)]] wx fun e w' => e = .returned (.bool R) ∧ Below wx.heap.size wx w') :
    Calls Try.prog 61 #[.pointer (some ⟨b, 0, none⟩), .int .i64 v] w fun e w' => e = .returned (.bool R) ∧ Below w.heap.size w w' := by
  have hb := hp_lt hh
  have HX := Lib.hid (hp_alloc (.cells #[.int .i64 v] 3) hh)
  have HB0 := Lib.hid ((Below.refl w.heap.size w).alloc (Nat.le_refl _) (.cells #[.int .i64 v] 3))
  have v0 : (w.alloc (.cells #[.int .i64 v] 3)).cell? ⟨w.heap.size, 0, none⟩ = some (.int .i64 v) := by simp
  have HC := Lib.hid hC
  have hne : (n == v) = false := beq_eq_false_iff_ne.2 hnv
  clear hh hC hnv
  generalize hw0 : w.alloc (.cells #[.int .i64 v] 3) = w0 at *
  obtain ⟨⟨t0, t1, t2⟩, -⟩ := box3 HX.out
  go_enter Try.func61, Try.ntmps61
  go_wp2_with fail
  refine wp_region_G [12] (fun w' => w'.cell? ⟨b, 0, none⟩ = some (.int .i64 n) ∧ w'.cell? ⟨b, 2, none⟩ = some (.slice a ks.length c) ∧ w'.cell? ⟨w.heap.size, 0, none⟩ = some (.int .i64 v)) (by kernel_rfl) ?_ (fun hHeld => ?_)
  · exact ⟨t0, t2, v0⟩
  refine wpG_pure (i := 0) (oi := { dst := some 5, op := Go.Op.move (Go.Operand.tmp 0), type := 92, pos := "l6_unify.go:107", after := #[], guard := none }) (v := ?vg1) rfl (by kernel_rfl) (fun _ _ _ h => h) (Or.inr hHeld) (Or.inl ⟨by rfl, ?yg1⟩) ?_
  case yg1 => (intro wS _; go_simp <;> with_reducible rfl)
  try simp only [Act.put, List.setIfInBounds_toArray, List.set_cons_zero, List.set_cons_succ]
  refine wpG_pure (i := 1) (oi := { dst := some 6, op := Go.Op.nilCheck (Go.Operand.tmp 5), type := 0, pos := "l6_unify.go:107", after := #[{ on := 0, ground := Go.Ground.data }], guard := none }) (v := ?vg2) rfl (by kernel_rfl) (fun _ _ _ h => h) (Or.inr hHeld) (Or.inl ⟨by rfl, ?yg2⟩) ?_
  case yg2 => (intro wS _; go_simp <;> with_reducible rfl)
  try simp only [Act.put, List.setIfInBounds_toArray, List.set_cons_zero, List.set_cons_succ]
  refine wpG_pure (i := 2) (oi := { dst := some 7, op := Go.Op.fieldAddr 151 (Go.Operand.tmp 6) 0, type := 0, pos := "l6_unify.go:107", after := #[{ on := 1, ground := Go.Ground.data }], guard := none }) (v := ?vg3) rfl (by kernel_rfl) (fun _ _ _ h => h) (Or.inr hHeld) (Or.inl ⟨by rfl, ?yg3⟩) ?_
  case yg3 => (intro wS _; go_simp <;> with_reducible rfl)
  try simp only [Act.put, List.setIfInBounds_toArray, List.set_cons_zero, List.set_cons_succ]
  refine wpG_load (i := 3) (oi := { dst := some 8, op := Go.Op.load 3 (Go.Operand.tmp 7), type := 3, pos := "l6_unify.go:107", after := #[{ on := 2, ground := Go.Ground.data }], guard := none }) (v := ?vg4) [[12, 6, 5, 3]] rfl (by kernel_rfl) (fun _ _ _ h => h) hHeld (Or.inl ⟨by rfl, ?yg4⟩) ?_
  case yg4 => (intro wS hSw; (try dsimp only at hSw); go_simp <;> with_reducible rfl)
  try simp only [Act.put, List.setIfInBounds_toArray, List.set_cons_zero, List.set_cons_succ]
  refine wpG_load (i := 4) (oi := { dst := some 9, op := Go.Op.load 3 (Go.Operand.tmp 3), type := 3, pos := "l6_unify.go:107", after := #[], guard := none }) (v := ?vg5) [[12, 6, 5, 4]] rfl (by kernel_rfl) (fun _ _ _ h => h) hHeld (Or.inl ⟨by rfl, ?yg5⟩) ?_
  case yg5 => (intro wS hSw; (try dsimp only at hSw); go_simp <;> with_reducible rfl)
  try simp only [Act.put, List.setIfInBounds_toArray, List.set_cons_zero, List.set_cons_succ]
  refine wpG_pure (i := 5) (oi := { dst := some 10, op := Go.Op.binOp Go.BinOp.eql 3 (Go.Operand.tmp 8) (Go.Operand.tmp 9) 3, type := 4, pos := "l6_unify.go:107", after := #[{ on := 3, ground := Go.Ground.data }, { on := 4, ground := Go.Ground.data }], guard := none }) (v := ?vg6) rfl (by kernel_rfl) (fun _ _ _ h => h) (Or.inr hHeld) (Or.inl ⟨by rfl, ?yg6⟩) ?_
  case yg6 => (intro wS _; go_simp <;> with_reducible rfl)
  try simp only [Act.put, List.setIfInBounds_toArray, List.set_cons_zero, List.set_cons_succ]
  refine wpG_pure (i := 6) (oi := { dst := some 11, op := Go.Op.move (Go.Operand.tmp 10), type := 4, pos := "l6_unify.go:107", after := #[{ on := 5, ground := Go.Ground.data }], guard := none }) (v := ?vg7) rfl (by kernel_rfl) (fun _ _ _ h => h) (Or.inr hHeld) (Or.inl ⟨by rfl, ?yg7⟩) ?_
  case yg7 => (intro wS _; go_simp <;> with_reducible rfl)
  try simp only [Act.put, List.setIfInBounds_toArray, List.set_cons_zero, List.set_cons_succ]
  refine wpG_pure (i := 7) (oi := { dst := some 12, op := Go.Op.move (Go.Operand.tmp 0), type := 92, pos := "l6_unify.go:107", after := #[{ on := 6, ground := Go.Ground.guard }], guard := some (6, false) }) (v := ?vg8) rfl (by kernel_rfl) (fun _ _ _ h => h) (Or.inr hHeld) (Or.inl ⟨by rfl, ?yg8⟩) ?_
  case yg8 => (intro wS _; go_simp <;> with_reducible rfl)
  try simp only [Act.put, List.setIfInBounds_toArray, List.set_cons_zero, List.set_cons_succ]
  refine wpG_pure (i := 8) (oi := { dst := some 13, op := Go.Op.nilCheck (Go.Operand.tmp 12), type := 0, pos := "l6_unify.go:107", after := #[{ on := 7, ground := Go.Ground.data }, { on := 6, ground := Go.Ground.guard }], guard := some (6, false) }) (v := ?vg9) rfl (by kernel_rfl) (fun _ _ _ h => h) (Or.inr hHeld) (Or.inl ⟨by rfl, ?yg9⟩) ?_
  case yg9 => (intro wS _; go_simp <;> with_reducible rfl)
  try simp only [Act.put, List.setIfInBounds_toArray, List.set_cons_zero, List.set_cons_succ]
  refine wpG_pure (i := 9) (oi := { dst := some 14, op := Go.Op.fieldAddr 151 (Go.Operand.tmp 13) 2, type := 0, pos := "l6_unify.go:107", after := #[{ on := 8, ground := Go.Ground.data }, { on := 6, ground := Go.Ground.guard }], guard := some (6, false) }) (v := ?vg10) rfl (by kernel_rfl) (fun _ _ _ h => h) (Or.inr hHeld) (Or.inl ⟨by rfl, ?yg10⟩) ?_
  case yg10 => (intro wS _; go_simp <;> with_reducible rfl)
  try simp only [Act.put, List.setIfInBounds_toArray, List.set_cons_zero, List.set_cons_succ]
  refine wpG_load (i := 10) (oi := { dst := some 15, op := Go.Op.load 149 (Go.Operand.tmp 14), type := 149, pos := "l6_unify.go:107", after := #[{ on := 9, ground := Go.Ground.data }, { on := 6, ground := Go.Ground.guard }], guard := some (6, false) }) (v := ?vg11) [[12, 10]] rfl (by kernel_rfl) (fun _ _ _ h => h) hHeld (Or.inl ⟨by rfl, ?yg11⟩) ?_
  case yg11 => (intro wS hSw; (try dsimp only at hSw); go_simp <;> with_reducible rfl)
  try simp only [Act.put, List.setIfInBounds_toArray, List.set_cons_zero, List.set_cons_succ]
  refine wpG_one (i := 11) (o := { dst := some 16, op := Go.Op.makeFunc (Go.Fn.func 117) #[] #[Go.Operand.tmp 3], type := 153, pos := "l6_unify.go:107", after := #[{ on := 6, ground := Go.Ground.guard }], guard := some (6, false) }) rfl (by kernel_rfl) (fun K hK => ?_)
  go_simp
  refine hK.out _ _ (Or.inr ?khHeld12) (fun hHeld12S => ?_)
  case khHeld12 => exact ⟨t0, t2, v0⟩
  have hHeld12 := hHeld12S.held (by kernel_rfl)
  clear hK K
  try simp only [Act.put, List.setIfInBounds_toArray, List.set_cons_zero, List.set_cons_succ]
  refine wpG_one (i := 12) (o := { dst := some 17, op := Go.Op.call { callee := Go.Callee.value (Go.Operand.func 116), args := #[Go.Operand.tmp 15, Go.Operand.tmp 16], argTypes := #[149, 153] }, type := 4, pos := "l6_unify.go:107", after := #[{ on := 10, ground := Go.Ground.data }, { on := 11, ground := Go.Ground.data }, { on := 6, ground := Go.Ground.chain }, { on := 6, ground := Go.Ground.guard }], guard := some (6, false) }) rfl (by kernel_rfl) (fun K hK => ?_)
  go_simp
  refine (HC.out w0.drew HB0.out.drew v0).mono ?_
  rintro e w3 ⟨rfl, hb3⟩
  have HB3 := Lib.hid (HB0.out.drew.trans (hb3.mono HB0.out.size))
  clear hb3
  refine hK.out _ _ (Or.inl (by kernel_rfl)) (fun _ => ?_)
  clear hK K
  try simp only [Act.put, List.setIfInBounds_toArray, List.set_cons_zero, List.set_cons_succ]
  refine wpG_pure (i := 13) (oi := { dst := some 18, op := Go.Op.pick (Go.Operand.tmp 11) (Go.Operand.const (Go.Value.bool true)) (Go.Operand.tmp 17), type := 4, pos := "l6_unify.go:107", after := #[{ on := 6, ground := Go.Ground.data }, { on := 12, ground := Go.Ground.data }], guard := none }) (v := ?vg14) rfl (by kernel_rfl) (fun _ _ _ h => h) (Or.inl (by kernel_rfl)) (Or.inl ⟨by rfl, ?yg14⟩) ?_
  case yg14 => (intro wS _; go_simp <;> with_reducible rfl)
  try simp only [Act.put, List.setIfInBounds_toArray, List.set_cons_zero, List.set_cons_succ]
  refine wpG_pure (i := 14) (oi := { dst := some 4, op := Go.Op.assign (Go.Operand.tmp 18), type := 4, pos := "l6_unify.go:107", after := #[{ on := 13, ground := Go.Ground.data }, { on := 12, ground := Go.Ground.chain }, { on := 0, ground := Go.Ground.phase }, { on := 1, ground := Go.Ground.phase }, { on := 2, ground := Go.Ground.phase }, { on := 3, ground := Go.Ground.phase }, { on := 4, ground := Go.Ground.phase }, { on := 5, ground := Go.Ground.phase }, { on := 6, ground := Go.Ground.phase }, { on := 7, ground := Go.Ground.phase }, { on := 8, ground := Go.Ground.phase }, { on := 9, ground := Go.Ground.phase }, { on := 10, ground := Go.Ground.phase }, { on := 11, ground := Go.Ground.phase }, { on := 12, ground := Go.Ground.phase }, { on := 13, ground := Go.Ground.phase }], guard := none }) (v := ?vg15) rfl (by kernel_rfl) (fun _ _ _ h => h) (Or.inl (by kernel_rfl)) (Or.inl ⟨by rfl, ?yg15⟩) ?_
  case yg15 => (intro wS _; go_simp <;> with_reducible rfl)
  try simp only [Act.put, List.setIfInBounds_toArray, List.set_cons_zero, List.set_cons_succ]
  refine wpG_done (by kernel_rfl) ?_
  go_wp2_with fail
  go_ret
  exact ⟨rfl, HB3.out⟩
set_option maxHeartbeats 4000000 in
theorem has_yes (w : World) (b : Nat) (nm : ByteArray) (a : Option Addr) (n c : Nat) (v : Int) (hh : w.heap[b]? = some (.cells #[.int .i64 v, .string nm, .slice a n c] 151)) :
    Calls Try.prog 61 #[.pointer (some ⟨b, 0, none⟩), .int .i64 v] w fun e w' => e = .returned (.bool true) ∧ Below w.heap.size w w' := by
  have hb := hp_lt hh
  have HX := Lib.hid (hp_alloc (.cells #[.int .i64 v] 3) hh)
  have HB0 := Lib.hid ((Below.refl w.heap.size w).alloc (Nat.le_refl _) (.cells #[.int .i64 v] 3))
  have v0 : (w.alloc (.cells #[.int .i64 v] 3)).cell? ⟨w.heap.size, 0, none⟩ = some (.int .i64 v) := by simp
  clear hh
  generalize hw0 : w.alloc (.cells #[.int .i64 v] 3) = w0 at *
  obtain ⟨⟨t0, t1, t2⟩, -⟩ := box3 HX.out
  go_enter Try.func61, Try.ntmps61
  go_wp2_with fail
  refine wp_region_G [] (fun w' => w'.cell? ⟨b, 0, none⟩ = some (.int .i64 v) ∧ w'.cell? ⟨w.heap.size, 0, none⟩ = some (.int .i64 v)) (by kernel_rfl) ?_ (fun hHeld => ?_)
  · exact ⟨t0, v0⟩
  refine wpG_pure (i := 0) (oi := { dst := some 5, op := Go.Op.move (Go.Operand.tmp 0), type := 92, pos := "l6_unify.go:107", after := #[], guard := none }) (v := ?vg16) rfl (by kernel_rfl) (fun _ _ _ h => h) (Or.inr hHeld) (Or.inl ⟨by rfl, ?yg16⟩) ?_
  case yg16 => (intro wS _; go_simp <;> with_reducible rfl)
  try simp only [Act.put, List.setIfInBounds_toArray, List.set_cons_zero, List.set_cons_succ]
  refine wpG_pure (i := 1) (oi := { dst := some 6, op := Go.Op.nilCheck (Go.Operand.tmp 5), type := 0, pos := "l6_unify.go:107", after := #[{ on := 0, ground := Go.Ground.data }], guard := none }) (v := ?vg17) rfl (by kernel_rfl) (fun _ _ _ h => h) (Or.inr hHeld) (Or.inl ⟨by rfl, ?yg17⟩) ?_
  case yg17 => (intro wS _; go_simp <;> with_reducible rfl)
  try simp only [Act.put, List.setIfInBounds_toArray, List.set_cons_zero, List.set_cons_succ]
  refine wpG_pure (i := 2) (oi := { dst := some 7, op := Go.Op.fieldAddr 151 (Go.Operand.tmp 6) 0, type := 0, pos := "l6_unify.go:107", after := #[{ on := 1, ground := Go.Ground.data }], guard := none }) (v := ?vg18) rfl (by kernel_rfl) (fun _ _ _ h => h) (Or.inr hHeld) (Or.inl ⟨by rfl, ?yg18⟩) ?_
  case yg18 => (intro wS _; go_simp <;> with_reducible rfl)
  try simp only [Act.put, List.setIfInBounds_toArray, List.set_cons_zero, List.set_cons_succ]
  refine wpG_load (i := 3) (oi := { dst := some 8, op := Go.Op.load 3 (Go.Operand.tmp 7), type := 3, pos := "l6_unify.go:107", after := #[{ on := 2, ground := Go.Ground.data }], guard := none }) (v := ?vg19) [] rfl (by kernel_rfl) (fun _ _ _ h => h) hHeld (Or.inl ⟨by rfl, ?yg19⟩) ?_
  case yg19 => (intro wS hSw; (try dsimp only at hSw); go_simp <;> with_reducible rfl)
  try simp only [Act.put, List.setIfInBounds_toArray, List.set_cons_zero, List.set_cons_succ]
  refine wpG_load (i := 4) (oi := { dst := some 9, op := Go.Op.load 3 (Go.Operand.tmp 3), type := 3, pos := "l6_unify.go:107", after := #[], guard := none }) (v := ?vg20) [] rfl (by kernel_rfl) (fun _ _ _ h => h) hHeld (Or.inl ⟨by rfl, ?yg20⟩) ?_
  case yg20 => (intro wS hSw; (try dsimp only at hSw); go_simp <;> with_reducible rfl)
  try simp only [Act.put, List.setIfInBounds_toArray, List.set_cons_zero, List.set_cons_succ]
  refine wpG_pure (i := 5) (oi := { dst := some 10, op := Go.Op.binOp Go.BinOp.eql 3 (Go.Operand.tmp 8) (Go.Operand.tmp 9) 3, type := 4, pos := "l6_unify.go:107", after := #[{ on := 3, ground := Go.Ground.data }, { on := 4, ground := Go.Ground.data }], guard := none }) (v := ?vg21) rfl (by kernel_rfl) (fun _ _ _ h => h) (Or.inr hHeld) (Or.inl ⟨by rfl, ?yg21⟩) ?_
  case yg21 => (intro wS _; go_simp <;> with_reducible rfl)
  try simp only [Act.put, List.setIfInBounds_toArray, List.set_cons_zero, List.set_cons_succ]
  refine wpG_pure (i := 6) (oi := { dst := some 11, op := Go.Op.move (Go.Operand.tmp 10), type := 4, pos := "l6_unify.go:107", after := #[{ on := 5, ground := Go.Ground.data }], guard := none }) (v := ?vg22) rfl (by kernel_rfl) (fun _ _ _ h => h) (Or.inr hHeld) (Or.inl ⟨by rfl, ?yg22⟩) ?_
  case yg22 => (intro wS _; go_simp <;> with_reducible rfl)
  try simp only [Act.put, List.setIfInBounds_toArray, List.set_cons_zero, List.set_cons_succ]
  refine wpG_pure (i := 7) (oi := { dst := some 12, op := Go.Op.move (Go.Operand.tmp 0), type := 92, pos := "l6_unify.go:107", after := #[{ on := 6, ground := Go.Ground.guard }], guard := some (6, false) }) (v := undef) rfl (by kernel_rfl) (fun _ _ _ h => h) (Or.inr hHeld) (Or.inr ⟨by rfl, rfl⟩) ?_
  try simp only [Act.put, List.setIfInBounds_toArray, List.set_cons_zero, List.set_cons_succ]
  refine wpG_pure (i := 8) (oi := { dst := some 13, op := Go.Op.nilCheck (Go.Operand.tmp 12), type := 0, pos := "l6_unify.go:107", after := #[{ on := 7, ground := Go.Ground.data }, { on := 6, ground := Go.Ground.guard }], guard := some (6, false) }) (v := undef) rfl (by kernel_rfl) (fun _ _ _ h => h) (Or.inr hHeld) (Or.inr ⟨by rfl, rfl⟩) ?_
  try simp only [Act.put, List.setIfInBounds_toArray, List.set_cons_zero, List.set_cons_succ]
  refine wpG_pure (i := 9) (oi := { dst := some 14, op := Go.Op.fieldAddr 151 (Go.Operand.tmp 13) 2, type := 0, pos := "l6_unify.go:107", after := #[{ on := 8, ground := Go.Ground.data }, { on := 6, ground := Go.Ground.guard }], guard := some (6, false) }) (v := undef) rfl (by kernel_rfl) (fun _ _ _ h => h) (Or.inr hHeld) (Or.inr ⟨by rfl, rfl⟩) ?_
  try simp only [Act.put, List.setIfInBounds_toArray, List.set_cons_zero, List.set_cons_succ]
  refine wpG_pure (i := 10) (oi := { dst := some 15, op := Go.Op.load 149 (Go.Operand.tmp 14), type := 149, pos := "l6_unify.go:107", after := #[{ on := 9, ground := Go.Ground.data }, { on := 6, ground := Go.Ground.guard }], guard := some (6, false) }) (v := undef) rfl (by kernel_rfl) (fun _ _ _ h => h) (Or.inr hHeld) (Or.inr ⟨by rfl, rfl⟩) ?_
  try simp only [Act.put, List.setIfInBounds_toArray, List.set_cons_zero, List.set_cons_succ]
  refine wpG_pure (i := 11) (oi := { dst := some 16, op := Go.Op.makeFunc (Go.Fn.func 117) #[] #[Go.Operand.tmp 3], type := 153, pos := "l6_unify.go:107", after := #[{ on := 6, ground := Go.Ground.guard }], guard := some (6, false) }) (v := undef) rfl (by kernel_rfl) (fun _ _ _ h => h) (Or.inr hHeld) (Or.inr ⟨by rfl, rfl⟩) ?_
  try simp only [Act.put, List.setIfInBounds_toArray, List.set_cons_zero, List.set_cons_succ]
  refine wpG_pure (i := 12) (oi := { dst := some 17, op := Go.Op.call { callee := Go.Callee.value (Go.Operand.func 116), args := #[Go.Operand.tmp 15, Go.Operand.tmp 16], argTypes := #[149, 153] }, type := 4, pos := "l6_unify.go:107", after := #[{ on := 10, ground := Go.Ground.data }, { on := 11, ground := Go.Ground.data }, { on := 6, ground := Go.Ground.chain }, { on := 6, ground := Go.Ground.guard }], guard := some (6, false) }) (v := undef) rfl (by kernel_rfl) (fun _ _ _ h => h) (Or.inr hHeld) (Or.inr ⟨by rfl, rfl⟩) ?_
  try simp only [Act.put, List.setIfInBounds_toArray, List.set_cons_zero, List.set_cons_succ]
  refine wpG_pure (i := 13) (oi := { dst := some 18, op := Go.Op.pick (Go.Operand.tmp 11) (Go.Operand.const (Go.Value.bool true)) (Go.Operand.tmp 17), type := 4, pos := "l6_unify.go:107", after := #[{ on := 6, ground := Go.Ground.data }, { on := 12, ground := Go.Ground.data }], guard := none }) (v := ?vg29) rfl (by kernel_rfl) (fun _ _ _ h => h) (Or.inr hHeld) (Or.inl ⟨by rfl, ?yg29⟩) ?_
  case yg29 => (intro wS _; go_simp <;> with_reducible rfl)
  try simp only [Act.put, List.setIfInBounds_toArray, List.set_cons_zero, List.set_cons_succ]
  refine wpG_pure (i := 14) (oi := { dst := some 4, op := Go.Op.assign (Go.Operand.tmp 18), type := 4, pos := "l6_unify.go:107", after := #[{ on := 13, ground := Go.Ground.data }, { on := 12, ground := Go.Ground.chain }, { on := 0, ground := Go.Ground.phase }, { on := 1, ground := Go.Ground.phase }, { on := 2, ground := Go.Ground.phase }, { on := 3, ground := Go.Ground.phase }, { on := 4, ground := Go.Ground.phase }, { on := 5, ground := Go.Ground.phase }, { on := 6, ground := Go.Ground.phase }, { on := 7, ground := Go.Ground.phase }, { on := 8, ground := Go.Ground.phase }, { on := 9, ground := Go.Ground.phase }, { on := 10, ground := Go.Ground.phase }, { on := 11, ground := Go.Ground.phase }, { on := 12, ground := Go.Ground.phase }, { on := 13, ground := Go.Ground.phase }], guard := none }) (v := ?vg30) rfl (by kernel_rfl) (fun _ _ _ h => h) (Or.inr hHeld) (Or.inl ⟨by rfl, ?yg30⟩) ?_
  case yg30 => (intro wS _; go_simp <;> with_reducible rfl)
  try simp only [Act.put, List.setIfInBounds_toArray, List.set_cons_zero, List.set_cons_succ]
  refine wpG_done (by kernel_rfl) ?_
  go_wp2_with fail
  go_ret
  exact ⟨rfl, HB0.out.drew⟩
set_option maxHeartbeats 1000000 in
theorem clo_has {w : World} {b : Nat} {v : Int} {k : Value} {R : Bool} (hc : w.cell? ⟨b, 0, none⟩ = some (.int .i64 v)) (H : Calls Try.prog 61 #[k, .int .i64 v] w fun e w' => e = .returned (.bool R) ∧ Below w.heap.size w w') :
    Calls Try.prog 117 #[k, .pointer (some ⟨b, 0, none⟩)] w fun e w' => e = .returned (.bool R) ∧ Below w.heap.size w w' := by
  have HH := Lib.hid H
  clear H
  go_enter Try.func117, Try.ntmps117
  go_wp2_with fail
  refine HH.out.mono ?_
  rintro e w' ⟨rfl, hb⟩
  have HB := Lib.hid hb; clear hb
  go_wp2_with fail
  go_ret
  exact ⟨rfl, HB.out⟩
theorem impl_has (S : Nat → Prop) (v : Int) (h1 : 1 ≤ v) : ∀ (d : Nat) (w : World) (p : Value) (vs : List Int), TP S w d p vs → Calls Try.prog 61 #[p, .int .i64 v] w fun e w' => e = .returned (.bool (decide (v ∈ vs))) ∧ Below w.heap.size w w'
  | 0, _, _, _, h => h.elim
  | d + 1, w, p, vs, h => by
    obtain ⟨b, n, nm, a, m, c, rfl, hs, hh, hc1, hc2, h4⟩ := h
    rcases h4 with ⟨g1, g2, rfl, rfl⟩ | ⟨rfl, ks, rfl, k5, krs, kall, rfl⟩
    · by_cases hv : n = v
      · subst hv
        have := has_yes w b nm a 0 c n hh
        simpa using this
      · have := has_call w b n nm a c v [] false hh (by simp) hv (fun wx _ _ => has_kid a c [] _ (fun q => decide (v ∈ q.2)) (.inl rfl) (by simp) (fun wy q _ hq => by simp at hq))
        have e : decide (v ∈ [n]) = false := by simp; omega
        rw [e]; exact this
    · have e := any_vars v ks
      unfold kPv at e
      rw [← e]
      exact has_call w b 0 nm a c v ks _ hh k5 (by omega) (fun wx hb hcell => has_kid a c ks _ (fun q => decide (v ∈ q.2)) (krs.rw.below hb) k5 (fun wy q hby hq => clo_has ((hby.cell (p := ⟨w.heap.size, 0, none⟩) (World.block_lt_of_cell? wx _ hcell)).trans hcell) (impl_has S v h1 d wy q.1 q.2 ((kall q hq).keep (kept_below (hb.trans (hby.mono hb.size))) (fun _ h _ => h)))))
end Go.Proofs.Ytlmgckijbamgpaa
