/- Two schemas, two rows of numbers that are the same. -/
import Derived.Test.YtmlnecopbncdbaaTyT
namespace Go.Proofs.Ytmlnecopbncdbaa
set_option linter.unusedVariables false
set_option linter.unusedSimpArgs false
open Go.ChangeShapes Go.WideShapes Go.ChangeAt Go.RowKit
set_option maxRecDepth 100000

set_option maxHeartbeats 2000000 in
theorem same_schemas {w : World} {L : List Ty} {a b : Option Addr} {ca cb : Nat} (ha : Rw w a (tysV L)) (hb : Rw w b (tysV L)) (hn : L.length ≤ 1000000) :
    Calls Try.prog 31 #[.agg #[.slice a L.length ca], .agg #[.slice b L.length cb]] w fun e w' => e = .returned (.bool true) ∧ Below w.heap.size w w' := by
  have hB1 := Below.alloc (Below.refl w.heap.size w) (Nat.le_refl _) (.cells #[.slice a L.length ca] 28)
  have hX1 := heap_alloc_new w (.cells #[.slice a L.length ca] 28)
  generalize hw1 : w.alloc (.cells #[.slice a L.length ca] 28) = w1 at *
  have l1 := hp_lt hX1
  have hB2 := hB1.alloc (Nat.le_of_lt l1) (.cells #[.slice b L.length cb] 28)
  have hX1 := hp_alloc (.cells #[.slice b L.length cb] 28) hX1
  have hX2 := heap_alloc_new w1 (.cells #[.slice b L.length cb] 28)
  generalize hw2 : w1.alloc (.cells #[.slice b L.length cb] 28) = w2 at *
  have l2 := hp_lt hX2
  have HB2 := Lib.hid hB2
  have HA := Lib.hid (ha.below hB2); have HB := Lib.hid (hb.below hB2)
  have c1 : w2.cell? ⟨w.heap.size, 0, none⟩ = some (.slice a L.length ca) := by simp [World.cell?, hX1]
  have c2 : w2.cell? ⟨w1.heap.size, 0, none⟩ = some (.slice b L.length cb) := by simp [World.cell?, hX2]
  clear ha hb hB1 hB2 hX1 hX2
  go_enter Try.func31, Try.ntmps31
  go_wp2_with fail
  go_loopw [16] (fun i wr => ∃ k : Nat, k ≤ L.length ∧ i = .int .i64 k ∧ Hid (Below w2.heap.size w2 wr)) (fun i _ => L.length - (intOf i).toNat)
  case atStart => exact ⟨0, Nat.zero_le _, rfl, Lib.hid (Below.refl _ _)⟩
  case round =>
    obtain ⟨wo, rfl⟩ : ∃ z : World, z = wr := ⟨_, rfl⟩
    obtain ⟨k, hk, rfl, HD⟩ := hrel
    have x0 := below_later HD.out c1
    have x1 := below_later HD.out c2
    by_cases hlk : k < L.length
    case neg =>
      go_wp2_with fail
      go_ret
      exact ⟨rfl, HB2.out.trans (HD.out.mono HB2.out.size)⟩
    obtain ⟨f, hf⟩ : ∃ f, L[k]? = some f := ⟨L[k], List.getElem?_eq_getElem hlk⟩
    obtain ⟨b1, o1, rfl, hbl1, e0, e1, e2, e3, e4, e5⟩ := tys_cells (HA.out.below HD.out).rb hf
    obtain ⟨b2, o2, rfl, hbl2, d0, d1, d2, d3, d4, d5⟩ := tys_cells (HB.out.below HD.out).rb hf
    obtain ⟨kd, nm, no, mu, up, mo⟩ := f
    simp only at d0 d1 d2 d3 d4 d5 e0 e1 e2 e3 e4 e5
    have q0 : (kd != kd) = false := by simp
    have q1 : (no != no) = false := by simp
    have q2 : (up != up) = false := by simp
    have q3 : (mo != mo) = false := by simp
    have q4 : (mu != mu) = false := by simp
    have q5 : (nm.toList != nm.toList) = false := by simp
    clear hf
    go_wp2_with fail
    refine wp_region_G [] (fun w' => w'.cell? ⟨w.heap.size, 0, none⟩ = some (.slice (some ⟨b1, o1, none⟩) L.length ca) ∧ w'.cell? ⟨w1.heap.size, 0, none⟩ = some (.slice (some ⟨b2, o2, none⟩) L.length cb) ∧ w'.cell? ⟨b1, o1 + k * 6, none⟩ = some (.int .i64 kd) ∧ w'.cell? ⟨b1, o1 + k * 6 + 1, none⟩ = some (.string nm) ∧ w'.cell? ⟨b1, o1 + k * 6 + 2, none⟩ = some (.int .i64 no) ∧ w'.cell? ⟨b1, o1 + k * 6 + 3, none⟩ = some (.bool mu) ∧ w'.cell? ⟨b1, o1 + k * 6 + 4, none⟩ = some (.int .i64 up) ∧ w'.cell? ⟨b1, o1 + k * 6 + 5, none⟩ = some (.int .i64 mo) ∧ w'.cell? ⟨b2, o2 + k * 6, none⟩ = some (.int .i64 kd) ∧ w'.cell? ⟨b2, o2 + k * 6 + 1, none⟩ = some (.string nm) ∧ w'.cell? ⟨b2, o2 + k * 6 + 2, none⟩ = some (.int .i64 no) ∧ w'.cell? ⟨b2, o2 + k * 6 + 3, none⟩ = some (.bool mu) ∧ w'.cell? ⟨b2, o2 + k * 6 + 4, none⟩ = some (.int .i64 up) ∧ w'.cell? ⟨b2, o2 + k * 6 + 5, none⟩ = some (.int .i64 mo)) (by kernel_rfl) ?_ (fun hHeld => ?_)
    · exact ⟨x0, x1, e0, e1, e2, e3, e4, e5, d0, d1, d2, d3, d4, d5⟩
    refine wpG_pure (i := 0) (oi := { dst := some 19, op := Go.Op.fieldAddr 28 (Go.Operand.tmp 2) 0, type := 0, pos := "laws.go:152", after := #[], guard := none }) (v := ?vg1) rfl (by kernel_rfl) (fun _ _ _ h => h) (Or.inr hHeld) (Or.inl ⟨by rfl, ?yg1⟩) ?_
    case yg1 => (intro wS _; go_simp <;> with_reducible rfl)
    try simp only [Act.put, List.setIfInBounds_toArray, List.set_cons_zero, List.set_cons_succ]
    refine wpG_load (i := 1) (oi := { dst := some 20, op := Go.Op.load 26 (Go.Operand.tmp 19), type := 26, pos := "laws.go:152", after := #[{ on := 0, ground := Go.Ground.data }], guard := none }) (v := ?vg2) [] rfl (by kernel_rfl) (fun _ _ _ h => h) hHeld (Or.inl ⟨by rfl, ?yg2⟩) ?_
    case yg2 => (intro wS hSw; (try dsimp only at hSw); go_simp <;> with_reducible rfl)
    try simp only [Act.put, List.setIfInBounds_toArray, List.set_cons_zero, List.set_cons_succ]
    refine wpG_pure (i := 2) (oi := { dst := some 21, op := Go.Op.move (Go.Operand.tmp 5), type := 3, pos := "laws.go:152", after := #[], guard := none }) (v := ?vg3) rfl (by kernel_rfl) (fun _ _ _ h => h) (Or.inr hHeld) (Or.inl ⟨by rfl, ?yg3⟩) ?_
    case yg3 => (intro wS _; go_simp <;> with_reducible rfl)
    try simp only [Act.put, List.setIfInBounds_toArray, List.set_cons_zero, List.set_cons_succ]
    refine wpG_pure (i := 3) (oi := { dst := some 22, op := Go.Op.indexAddr 26 (Go.Operand.tmp 20) (Go.Operand.tmp 21), type := 0, pos := "laws.go:152", after := #[{ on := 1, ground := Go.Ground.data }, { on := 2, ground := Go.Ground.data }], guard := none }) (v := ?vg4) rfl (by kernel_rfl) (fun _ _ _ h => h) (Or.inr hHeld) (Or.inl ⟨by rfl, ?yg4⟩) ?_
    case yg4 => (intro wS _; go_simp <;> with_reducible rfl)
    try simp only [Act.put, List.setIfInBounds_toArray, List.set_cons_zero, List.set_cons_succ]
    refine wpG_load (i := 4) (oi := { dst := some 23, op := Go.Op.load 85 (Go.Operand.tmp 22), type := 85, pos := "laws.go:152", after := #[{ on := 3, ground := Go.Ground.data }], guard := none }) (v := ?vg5) [] rfl (by kernel_rfl) (fun _ _ _ h => h) hHeld (Or.inl ⟨by rfl, ?yg5⟩) ?_
    case yg5 => (intro wS hSw; (try dsimp only at hSw); go_simp <;> with_reducible rfl)
    try simp only [Act.put, List.setIfInBounds_toArray, List.set_cons_zero, List.set_cons_succ]
    refine wpG_pure (i := 5) (oi := { dst := some 24, op := Go.Op.fieldAddr 28 (Go.Operand.tmp 3) 0, type := 0, pos := "laws.go:152", after := #[], guard := none }) (v := ?vg6) rfl (by kernel_rfl) (fun _ _ _ h => h) (Or.inr hHeld) (Or.inl ⟨by rfl, ?yg6⟩) ?_
    case yg6 => (intro wS _; go_simp <;> with_reducible rfl)
    try simp only [Act.put, List.setIfInBounds_toArray, List.set_cons_zero, List.set_cons_succ]
    refine wpG_load (i := 6) (oi := { dst := some 25, op := Go.Op.load 26 (Go.Operand.tmp 24), type := 26, pos := "laws.go:152", after := #[{ on := 5, ground := Go.Ground.data }], guard := none }) (v := ?vg7) [] rfl (by kernel_rfl) (fun _ _ _ h => h) hHeld (Or.inl ⟨by rfl, ?yg7⟩) ?_
    case yg7 => (intro wS hSw; (try dsimp only at hSw); go_simp <;> with_reducible rfl)
    try simp only [Act.put, List.setIfInBounds_toArray, List.set_cons_zero, List.set_cons_succ]
    refine wpG_pure (i := 7) (oi := { dst := some 26, op := Go.Op.move (Go.Operand.tmp 5), type := 3, pos := "laws.go:152", after := #[], guard := none }) (v := ?vg8) rfl (by kernel_rfl) (fun _ _ _ h => h) (Or.inr hHeld) (Or.inl ⟨by rfl, ?yg8⟩) ?_
    case yg8 => (intro wS _; go_simp <;> with_reducible rfl)
    try simp only [Act.put, List.setIfInBounds_toArray, List.set_cons_zero, List.set_cons_succ]
    refine wpG_pure (i := 8) (oi := { dst := some 27, op := Go.Op.indexAddr 26 (Go.Operand.tmp 25) (Go.Operand.tmp 26), type := 0, pos := "laws.go:152", after := #[{ on := 6, ground := Go.Ground.data }, { on := 7, ground := Go.Ground.data }], guard := none }) (v := ?vg9) rfl (by kernel_rfl) (fun _ _ _ h => h) (Or.inr hHeld) (Or.inl ⟨by rfl, ?yg9⟩) ?_
    case yg9 => (intro wS _; go_simp <;> with_reducible rfl)
    try simp only [Act.put, List.setIfInBounds_toArray, List.set_cons_zero, List.set_cons_succ]
    refine wpG_load (i := 9) (oi := { dst := some 28, op := Go.Op.load 85 (Go.Operand.tmp 27), type := 85, pos := "laws.go:152", after := #[{ on := 8, ground := Go.Ground.data }], guard := none }) (v := ?vg10) [] rfl (by kernel_rfl) (fun _ _ _ h => h) hHeld (Or.inl ⟨by rfl, ?yg10⟩) ?_
    case yg10 => (intro wS hSw; (try dsimp only at hSw); go_simp <;> with_reducible rfl)
    try simp only [Act.put, List.setIfInBounds_toArray, List.set_cons_zero, List.set_cons_succ]
    refine wpG_pure (i := 10) (oi := { dst := some 29, op := Go.Op.binOp Go.BinOp.neq 85 (Go.Operand.tmp 23) (Go.Operand.tmp 28) 85, type := 4, pos := "laws.go:152", after := #[{ on := 4, ground := Go.Ground.data }, { on := 9, ground := Go.Ground.data }], guard := none }) (v := ?vg11) rfl (by kernel_rfl) (fun _ _ _ h => h) (Or.inr hHeld) (Or.inl ⟨by rfl, ?yg11⟩) ?_
    case yg11 => (intro wS _; go_simp <;> with_reducible rfl)
    try simp only [Act.put, List.setIfInBounds_toArray, List.set_cons_zero, List.set_cons_succ]
    refine wpG_done (by kernel_rfl) ?_
    go_wp2_with fail
    go_roundw
    case rel => exact ⟨k + 1, by omega, by go_num, Lib.hid HD.out.drew⟩
    case measure => simp [intOf]; omega
set_option maxHeartbeats 1000000 in
theorem same_ints {w : World} {xs : List Int} {a b : Option Addr} {n ca cb : Nat} (hl : xs.length = n) (ha : Rw w a (ints xs)) (hb : Rw w b (ints xs)) (hn : n ≤ 1000000) :
    Calls Try.prog 32 #[.slice a n ca, .slice b n cb] w fun e w' => e = .returned (.bool true) ∧ Below w.heap.size w w' := by
  have HA := Lib.hid ha; have HB := Lib.hid hb
  have HL := Lib.hid hl
  clear ha hb hl
  go_enter Try.func32, Try.ntmps32
  go_wp2_with fail
  go_loopw [13] (fun i wr => ∃ k : Nat, k ≤ n ∧ i = .int .i64 k ∧ Hid (Below w.heap.size w wr)) (fun i _ => n - (intOf i).toNat)
  case atStart => exact ⟨0, Nat.zero_le _, rfl, Lib.hid (Below.refl _ _)⟩
  case round =>
    obtain ⟨wo, rfl⟩ : ∃ z : World, z = wr := ⟨_, rfl⟩
    obtain ⟨k, hk, rfl, HD⟩ := hrel
    by_cases hlk : k < n
    case neg =>
      go_wp2_with fail
      go_ret
      exact ⟨rfl, HD.out⟩
    have hne : ints xs ≠ [] := by intro e; have := congrArg List.length e; rw [ints_length, HL.out, List.length_nil] at this; omega
    have hk2 : (ints xs)[k]? = some (.int .i64 (xs.getD k 0)) := ints_at xs k (by rw [HL.out]; exact hlk)
    obtain ⟨b1, o1, rfl, hbl1, hc1⟩ := (HA.out.below HD.out).at hne
    obtain ⟨b2, o2, rfl, hbl2, hc2⟩ := (HB.out.below HD.out).at hne
    have e0 := hc1 k _ hk2
    have d0 := hc2 k _ hk2
    generalize xs.getD k 0 = x at *
    have q0 : (x != x) = false := by simp
    clear hc1 hc2 hk2 hne
    go_wp2_with fail
    refine wp_region_G [] (fun w' => w'.cell? ⟨b1, o1 + k, none⟩ = some (.int .i64 x) ∧ w'.cell? ⟨b2, o2 + k, none⟩ = some (.int .i64 x)) (by kernel_rfl) ?_ (fun hHeld => ?_)
    · exact ⟨e0, d0⟩
    refine wpG_pure (i := 0) (oi := { dst := some 16, op := Go.Op.move (Go.Operand.tmp 0), type := 51, pos := "laws.go:13", after := #[], guard := none }) (v := ?vg12) rfl (by kernel_rfl) (fun _ _ _ h => h) (Or.inr hHeld) (Or.inl ⟨by rfl, ?yg12⟩) ?_
    case yg12 => (intro wS _; go_simp <;> with_reducible rfl)
    try simp only [Act.put, List.setIfInBounds_toArray, List.set_cons_zero, List.set_cons_succ]
    refine wpG_pure (i := 1) (oi := { dst := some 17, op := Go.Op.move (Go.Operand.tmp 5), type := 3, pos := "laws.go:13", after := #[], guard := none }) (v := ?vg13) rfl (by kernel_rfl) (fun _ _ _ h => h) (Or.inr hHeld) (Or.inl ⟨by rfl, ?yg13⟩) ?_
    case yg13 => (intro wS _; go_simp <;> with_reducible rfl)
    try simp only [Act.put, List.setIfInBounds_toArray, List.set_cons_zero, List.set_cons_succ]
    refine wpG_pure (i := 2) (oi := { dst := some 18, op := Go.Op.indexAddr 51 (Go.Operand.tmp 16) (Go.Operand.tmp 17), type := 0, pos := "laws.go:13", after := #[{ on := 0, ground := Go.Ground.data }, { on := 1, ground := Go.Ground.data }], guard := none }) (v := ?vg14) rfl (by kernel_rfl) (fun _ _ _ h => h) (Or.inr hHeld) (Or.inl ⟨by rfl, ?yg14⟩) ?_
    case yg14 => (intro wS _; go_simp <;> with_reducible rfl)
    try simp only [Act.put, List.setIfInBounds_toArray, List.set_cons_zero, List.set_cons_succ]
    refine wpG_load (i := 3) (oi := { dst := some 19, op := Go.Op.load 3 (Go.Operand.tmp 18), type := 3, pos := "laws.go:13", after := #[{ on := 2, ground := Go.Ground.data }], guard := none }) (v := ?vg15) [] rfl (by kernel_rfl) (fun _ _ _ h => h) hHeld (Or.inl ⟨by rfl, ?yg15⟩) ?_
    case yg15 => (intro wS hSw; (try dsimp only at hSw); go_simp <;> with_reducible rfl)
    try simp only [Act.put, List.setIfInBounds_toArray, List.set_cons_zero, List.set_cons_succ]
    refine wpG_pure (i := 4) (oi := { dst := some 20, op := Go.Op.move (Go.Operand.tmp 1), type := 51, pos := "laws.go:13", after := #[], guard := none }) (v := ?vg16) rfl (by kernel_rfl) (fun _ _ _ h => h) (Or.inr hHeld) (Or.inl ⟨by rfl, ?yg16⟩) ?_
    case yg16 => (intro wS _; go_simp <;> with_reducible rfl)
    try simp only [Act.put, List.setIfInBounds_toArray, List.set_cons_zero, List.set_cons_succ]
    refine wpG_pure (i := 5) (oi := { dst := some 21, op := Go.Op.move (Go.Operand.tmp 5), type := 3, pos := "laws.go:13", after := #[], guard := none }) (v := ?vg17) rfl (by kernel_rfl) (fun _ _ _ h => h) (Or.inr hHeld) (Or.inl ⟨by rfl, ?yg17⟩) ?_
    case yg17 => (intro wS _; go_simp <;> with_reducible rfl)
    try simp only [Act.put, List.setIfInBounds_toArray, List.set_cons_zero, List.set_cons_succ]
    refine wpG_pure (i := 6) (oi := { dst := some 22, op := Go.Op.indexAddr 51 (Go.Operand.tmp 20) (Go.Operand.tmp 21), type := 0, pos := "laws.go:13", after := #[{ on := 4, ground := Go.Ground.data }, { on := 5, ground := Go.Ground.data }], guard := none }) (v := ?vg18) rfl (by kernel_rfl) (fun _ _ _ h => h) (Or.inr hHeld) (Or.inl ⟨by rfl, ?yg18⟩) ?_
    case yg18 => (intro wS _; go_simp <;> with_reducible rfl)
    try simp only [Act.put, List.setIfInBounds_toArray, List.set_cons_zero, List.set_cons_succ]
    refine wpG_load (i := 7) (oi := { dst := some 23, op := Go.Op.load 3 (Go.Operand.tmp 22), type := 3, pos := "laws.go:13", after := #[{ on := 6, ground := Go.Ground.data }], guard := none }) (v := ?vg19) [] rfl (by kernel_rfl) (fun _ _ _ h => h) hHeld (Or.inl ⟨by rfl, ?yg19⟩) ?_
    case yg19 => (intro wS hSw; (try dsimp only at hSw); go_simp <;> with_reducible rfl)
    try simp only [Act.put, List.setIfInBounds_toArray, List.set_cons_zero, List.set_cons_succ]
    refine wpG_pure (i := 8) (oi := { dst := some 24, op := Go.Op.binOp Go.BinOp.neq 3 (Go.Operand.tmp 19) (Go.Operand.tmp 23) 3, type := 4, pos := "laws.go:13", after := #[{ on := 3, ground := Go.Ground.data }, { on := 7, ground := Go.Ground.data }], guard := none }) (v := ?vg20) rfl (by kernel_rfl) (fun _ _ _ h => h) (Or.inr hHeld) (Or.inl ⟨by rfl, ?yg20⟩) ?_
    case yg20 => (intro wS _; go_simp <;> with_reducible rfl)
    try simp only [Act.put, List.setIfInBounds_toArray, List.set_cons_zero, List.set_cons_succ]
    refine wpG_done (by kernel_rfl) ?_
    go_wp2_with fail
    go_roundw
    case rel => exact ⟨k + 1, by omega, by go_num, Lib.hid HD.out.drew⟩
    case measure => simp [intOf]; omega
end Go.Proofs.Ytmlnecopbncdbaa
