/- Whether a schema takes in another one, how deep it is: both walks. -/
import Derived.Test.YtmlnecopbncdbaaSu3
import Derived.Test.YtmlnecopbncdbaaTyY
namespace Go.Proofs.Ytmlnecopbncdbaa
set_option linter.unusedVariables false
set_option linter.unusedSimpArgs false
open Go.ChangeShapes Go.WideShapes Go.ChangeAt Go.RowKit
set_option maxRecDepth 100000

theorem impl_kindOf_no {B : Nat} {w : World} {L : List Ty} {a : Option Addr} {cap : Nat} (h : Sch B w L a cap) (hg : goodL L = false) : Calls Try.prog 38 #[.agg #[.slice a L.length cap]] w fun e w' => e = .returned (.pointer none) ∧ Below w.heap.size w w' :=
  (impl_kindOf h).mono fun e w' ⟨v, he, hb, hv⟩ => by
    rcases hv with ⟨_, rfl⟩ | ⟨hq, _⟩
    · exact ⟨he, hb⟩
    · rw [hg] at hq; cases hq
theorem impl_kindOf_yes {B : Nat} {w : World} {L : List Ty} {a : Option Addr} {cap : Nat} (h : Sch B w L a cap) (hg : goodL L = true) : Calls Try.prog 38 #[.agg #[.slice a L.length cap]] w fun e w' => ∃ p, e = .returned (.pointer (some ⟨p, 0, none⟩)) ∧ Below w.heap.size w w' ∧ KP (fun b => w.heap.size ≤ b) w' (treeOf L 0) (.pointer (some ⟨p, 0, none⟩)) :=
  (impl_kindOf h).mono fun e w' ⟨v, he, hb, hv⟩ => by
    rcases hv with ⟨hq, _⟩ | ⟨_, p, rfl, hk⟩
    · rw [hg] at hq; cases hq
    · exact ⟨p, he, hb, hk⟩
theorem good_right {L : List Ty} (h : goodL L = true) : RightT (treeOf L 0) ∧ countT (treeOf L 0) ≤ 30 ∧ OneT L ∧ 0 < L.length := by
  have hg := goodL_iff.1 h
  obtain ⟨x0, h1, -, -, h4, h5, h6⟩ := hg.tree
  exact ⟨h4.2.1, h4.2.2.2, rows_one h5 (by have := hg.1.1; omega), by have := hg.1.1; omega⟩
/-- whether a schema takes in another one -/
noncomputable def isub (A D : List Ty) : Bool × Bool := if goodL A = true ∧ goodL D = true then (subT (treeOf A 0) (treeOf D 0), true) else (false, false)
/-- what the program's reading of a schema hands out, in one form -/
def KO (L : List Ty) (w : World) (e : Ending) (w' : World) : Prop :=
  ∃ p : Option Addr, e = .returned (.pointer p) ∧ Below w.heap.size w w' ∧ (goodL L = false → p = none) ∧ (goodL L = true → ∃ b, p = some ⟨b, 0, none⟩ ∧ KP (fun q => w.heap.size ≤ q) w' (treeOf L 0) (.pointer p))
theorem impl_ko {B : Nat} {w : World} {L : List Ty} {a : Option Addr} {cap : Nat} (h : Sch B w L a cap) : Calls Try.prog 38 #[.agg #[.slice a L.length cap]] w (KO L w) :=
  (impl_kindOf h).mono fun e w' ⟨v, he, hb, hv⟩ => by
    rcases hv with ⟨hq, rfl⟩ | ⟨hq, p, rfl, hk⟩
    · exact ⟨none, he, hb, fun _ => rfl, fun h => by rw [hq] at h; cases h⟩
    · exact ⟨_, he, hb, (fun h => by rw [hq] at h; cases h), fun _ => ⟨p, rfl, hk⟩⟩
theorem nrm {L : List Ty} {w w' : World} {e : Ending} (h : KO L w e w') : ∃ p : Option Addr, e = .returned (.pointer p) ∧ Below w.heap.size w w' ∧ ((goodL L = false → p = none) ∧ (goodL L = true → ∃ b, p = some ⟨b, 0, none⟩ ∧ KP (fun q => w.heap.size ≤ q) w' (treeOf L 0) (.pointer p))) := h
set_option maxHeartbeats 4000000 in
theorem impl_IsSubtype {B : Nat} {w : World} {A D : List Ty} {sa sd : Option Addr} {ca cd : Nat} (hA : Sch B w A sa ca) (hD : Sch B w D sd cd) :
    Calls Try.prog 20 #[.agg #[.slice sa A.length ca], .agg #[.slice sd D.length cd]] w fun e w' => e = .returned (.tuple #[.bool (isub A D).1, .bool (isub A D).2]) ∧ Below w.heap.size w w' := by
  have hB1 := Below.alloc (Below.refl w.heap.size w) (Nat.le_refl _) (.cells #[.slice sa A.length ca] 28)
  have hX1 := heap_alloc_new w (.cells #[.slice sa A.length ca] 28)
  generalize hw1 : w.alloc (.cells #[.slice sa A.length ca] 28) = w1 at *
  have l1 := hp_lt hX1
  have hB2 := hB1.alloc (Nat.le_of_lt l1) (.cells #[.slice sd D.length cd] 28)
  have hX1 := hp_alloc (.cells #[.slice sd D.length cd] 28) hX1
  have hX2 := heap_alloc_new w1 (.cells #[.slice sd D.length cd] 28)
  generalize hw2 : w1.alloc (.cells #[.slice sd D.length cd] 28) = w2 at *
  have l2 := hp_lt hX2
  have HB2 := Lib.hid hB2
  have HA2 := Lib.hid (hA.keep hB2)
  have HD2 := Lib.hid (hD.keep hB2)
  have c1 : w2.cell? ⟨w.heap.size, 0, none⟩ = some (.slice sa A.length ca) := by simp [World.cell?, hX1]
  have c2 : w2.cell? ⟨w1.heap.size, 0, none⟩ = some (.slice sd D.length cd) := by simp [World.cell?, hX2]
  have hdr := (Below.refl w2.heap.size w2).drew
  clear hB1 hB2 hX1 hX2
  have HK1 := Lib.hid (impl_ko (HA2.out.keep hdr))
  have HKD := Lib.hid (fun wx (hs : Sch B wx D sd cd) => impl_ko hs)
  unfold isub
  cases hga : goodL A with
  | false =>
    rw [if_neg (by simp)]
    have HGA := Lib.hid hga
    clear hga
    go_enter Try.func20, Try.ntmps20
    go_wp2_with fail
    refine wp_region_G [3] (fun w' => w'.cell? ⟨w.heap.size, 0, none⟩ = some (.slice sa A.length ca) ∧ w'.cell? ⟨w1.heap.size, 0, none⟩ = some (.slice sd D.length cd)) (by kernel_rfl) ?_ (fun hHeld => ?_)
    · exact ⟨c1, c2⟩
    refine wpG_load (i := 0) (oi := { dst := some 8, op := Go.Op.load 28 (Go.Operand.tmp 2), type := 28, pos := "l2_type.go:205", after := #[], guard := none }) (v := ?vg1) [[3, 1, 0]] rfl (by kernel_rfl) (fun _ _ _ h => h) hHeld (Or.inl ⟨by rfl, ?yg1⟩) ?_
    case yg1 => (intro wS hSw; (try dsimp only at hSw); go_simp <;> with_reducible rfl)
    try simp only [Act.put, List.setIfInBounds_toArray, List.set_cons_zero, List.set_cons_succ]
    refine wpG_load (i := 2) (oi := { dst := some 10, op := Go.Op.load 28 (Go.Operand.tmp 3), type := 28, pos := "l2_type.go:205", after := #[], guard := none }) (v := ?vg2) [[3, 2]] rfl (by kernel_rfl) (fun _ _ _ h => h) hHeld (Or.inl ⟨by rfl, ?yg2⟩) ?_
    case yg2 => (intro wS hSw; (try dsimp only at hSw); go_simp <;> with_reducible rfl)
    try simp only [Act.put, List.setIfInBounds_toArray, List.set_cons_zero, List.set_cons_succ]
    refine wpG_one (i := 1) (o := { dst := some 9, op := Go.Op.call { callee := Go.Callee.value (Go.Operand.func 38), args := #[Go.Operand.tmp 8], argTypes := #[28] }, type := 65, pos := "l2_type.go:205", after := #[{ on := 0, ground := Go.Ground.data }], guard := none }) rfl (by kernel_rfl) (fun K hK => ?_)
    go_simp
    refine HK1.out.mono ?_
    rintro e w3 hq3
    obtain ⟨p1, rfl, hb3, hk3⟩ := nrm hq3
    have HB3 := Lib.hid ((HB2.out.trans (hdr.mono HB2.out.size)).trans (hb3.mono (show w.heap.size ≤ w2.heap.size from HB2.out.size)))
    have HK2 := Lib.hid (HKD.out w3 (HD2.out.keep (hdr.trans hb3)))
    have d1 := below_later (hdr.trans hb3) c1
    have d2 := below_later (hdr.trans hb3) c2
    have HP1 := Lib.hid hk3
    clear hb3 hk3 hq3
    refine hK.out _ _ (Or.inr ?khHeld3) (fun hHeld3S => ?_)
    case khHeld3 => exact ⟨d1, d2⟩
    have hHeld3 := hHeld3S.held (by kernel_rfl)
    clear hK K
    try simp only [Act.put, List.setIfInBounds_toArray, List.set_cons_zero, List.set_cons_succ]
    refine wpG_one (i := 3) (o := { dst := some 11, op := Go.Op.call { callee := Go.Callee.value (Go.Operand.func 38), args := #[Go.Operand.tmp 10], argTypes := #[28] }, type := 65, pos := "l2_type.go:205", after := #[{ on := 2, ground := Go.Ground.data }, { on := 1, ground := Go.Ground.chain }], guard := none }) rfl (by kernel_rfl) (fun K hK => ?_)
    go_simp
    refine HK2.out.mono ?_
    rintro e w4 hq4
    obtain ⟨p2, rfl, hb4, hk4⟩ := nrm hq4
    have HB4 := Lib.hid (HB3.out.trans (hb4.mono HB3.out.size))
    have HBX := Lib.hid hb4
    have HP2 := Lib.hid hk4
    clear hb4 hk4 hq4
    refine hK.out _ _ (Or.inl (by kernel_rfl)) (fun _ => ?_)
    clear hK K
    try simp only [Act.put, List.setIfInBounds_toArray, List.set_cons_zero, List.set_cons_succ]
    refine wpG_pure (i := 4) (oi := { dst := some 6, op := Go.Op.assign (Go.Operand.tmp 9), type := 65, pos := "l2_type.go:205", after := #[{ on := 1, ground := Go.Ground.data }, { on := 3, ground := Go.Ground.chain }, { on := 0, ground := Go.Ground.phase }, { on := 1, ground := Go.Ground.phase }, { on := 2, ground := Go.Ground.textOnly Go.Departure.lateStores }, { on := 3, ground := Go.Ground.textOnly Go.Departure.lateStoresUnsure }], guard := none }) (v := ?vg5) rfl (by kernel_rfl) (fun _ _ _ h => h) (Or.inl (by kernel_rfl)) (Or.inl ⟨by rfl, ?yg5⟩) ?_
    case yg5 => (intro wS _; go_simp <;> with_reducible rfl)
    try simp only [Act.put, List.setIfInBounds_toArray, List.set_cons_zero, List.set_cons_succ]
    refine wpG_pure (i := 5) (oi := { dst := some 7, op := Go.Op.assign (Go.Operand.tmp 11), type := 65, pos := "l2_type.go:205", after := #[{ on := 3, ground := Go.Ground.data }, { on := 4, ground := Go.Ground.chain }, { on := 0, ground := Go.Ground.phase }, { on := 1, ground := Go.Ground.phase }, { on := 2, ground := Go.Ground.phase }, { on := 3, ground := Go.Ground.phase }, { on := 4, ground := Go.Ground.phase }], guard := none }) (v := ?vg6) rfl (by kernel_rfl) (fun _ _ _ h => h) (Or.inl (by kernel_rfl)) (Or.inl ⟨by rfl, ?yg6⟩) ?_
    case yg6 => (intro wS _; go_simp <;> with_reducible rfl)
    try simp only [Act.put, List.setIfInBounds_toArray, List.set_cons_zero, List.set_cons_succ]
    refine wpG_done (by kernel_rfl) ?_
    skip
    obtain rfl := HP1.out.1 HGA.out
    go_wp2_with fail
    go_ret2
    exact ⟨rfl, HB4.out⟩
  | true =>
  cases hgd : goodL D with
  | false =>
    rw [if_neg (by simp)]
    have HGA := Lib.hid hga
    have HGD := Lib.hid hgd
    clear hga hgd
    go_enter Try.func20, Try.ntmps20
    go_wp2_with fail
    refine wp_region_G [3] (fun w' => w'.cell? ⟨w.heap.size, 0, none⟩ = some (.slice sa A.length ca) ∧ w'.cell? ⟨w1.heap.size, 0, none⟩ = some (.slice sd D.length cd)) (by kernel_rfl) ?_ (fun hHeld => ?_)
    · exact ⟨c1, c2⟩
    refine wpG_load (i := 0) (oi := { dst := some 8, op := Go.Op.load 28 (Go.Operand.tmp 2), type := 28, pos := "l2_type.go:205", after := #[], guard := none }) (v := ?vg7) [[3, 1, 0]] rfl (by kernel_rfl) (fun _ _ _ h => h) hHeld (Or.inl ⟨by rfl, ?yg7⟩) ?_
    case yg7 => (intro wS hSw; (try dsimp only at hSw); go_simp <;> with_reducible rfl)
    try simp only [Act.put, List.setIfInBounds_toArray, List.set_cons_zero, List.set_cons_succ]
    refine wpG_load (i := 2) (oi := { dst := some 10, op := Go.Op.load 28 (Go.Operand.tmp 3), type := 28, pos := "l2_type.go:205", after := #[], guard := none }) (v := ?vg8) [[3, 2]] rfl (by kernel_rfl) (fun _ _ _ h => h) hHeld (Or.inl ⟨by rfl, ?yg8⟩) ?_
    case yg8 => (intro wS hSw; (try dsimp only at hSw); go_simp <;> with_reducible rfl)
    try simp only [Act.put, List.setIfInBounds_toArray, List.set_cons_zero, List.set_cons_succ]
    refine wpG_one (i := 1) (o := { dst := some 9, op := Go.Op.call { callee := Go.Callee.value (Go.Operand.func 38), args := #[Go.Operand.tmp 8], argTypes := #[28] }, type := 65, pos := "l2_type.go:205", after := #[{ on := 0, ground := Go.Ground.data }], guard := none }) rfl (by kernel_rfl) (fun K hK => ?_)
    go_simp
    refine HK1.out.mono ?_
    rintro e w3 hq3
    obtain ⟨p1, rfl, hb3, hk3⟩ := nrm hq3
    have HB3 := Lib.hid ((HB2.out.trans (hdr.mono HB2.out.size)).trans (hb3.mono (show w.heap.size ≤ w2.heap.size from HB2.out.size)))
    have HK2 := Lib.hid (HKD.out w3 (HD2.out.keep (hdr.trans hb3)))
    have d1 := below_later (hdr.trans hb3) c1
    have d2 := below_later (hdr.trans hb3) c2
    have HP1 := Lib.hid hk3
    clear hb3 hk3 hq3
    refine hK.out _ _ (Or.inr ?khHeld9) (fun hHeld9S => ?_)
    case khHeld9 => exact ⟨d1, d2⟩
    have hHeld9 := hHeld9S.held (by kernel_rfl)
    clear hK K
    try simp only [Act.put, List.setIfInBounds_toArray, List.set_cons_zero, List.set_cons_succ]
    refine wpG_one (i := 3) (o := { dst := some 11, op := Go.Op.call { callee := Go.Callee.value (Go.Operand.func 38), args := #[Go.Operand.tmp 10], argTypes := #[28] }, type := 65, pos := "l2_type.go:205", after := #[{ on := 2, ground := Go.Ground.data }, { on := 1, ground := Go.Ground.chain }], guard := none }) rfl (by kernel_rfl) (fun K hK => ?_)
    go_simp
    refine HK2.out.mono ?_
    rintro e w4 hq4
    obtain ⟨p2, rfl, hb4, hk4⟩ := nrm hq4
    have HB4 := Lib.hid (HB3.out.trans (hb4.mono HB3.out.size))
    have HBX := Lib.hid hb4
    have HP2 := Lib.hid hk4
    clear hb4 hk4 hq4
    refine hK.out _ _ (Or.inl (by kernel_rfl)) (fun _ => ?_)
    clear hK K
    try simp only [Act.put, List.setIfInBounds_toArray, List.set_cons_zero, List.set_cons_succ]
    refine wpG_pure (i := 4) (oi := { dst := some 6, op := Go.Op.assign (Go.Operand.tmp 9), type := 65, pos := "l2_type.go:205", after := #[{ on := 1, ground := Go.Ground.data }, { on := 3, ground := Go.Ground.chain }, { on := 0, ground := Go.Ground.phase }, { on := 1, ground := Go.Ground.phase }, { on := 2, ground := Go.Ground.textOnly Go.Departure.lateStores }, { on := 3, ground := Go.Ground.textOnly Go.Departure.lateStoresUnsure }], guard := none }) (v := ?vg11) rfl (by kernel_rfl) (fun _ _ _ h => h) (Or.inl (by kernel_rfl)) (Or.inl ⟨by rfl, ?yg11⟩) ?_
    case yg11 => (intro wS _; go_simp <;> with_reducible rfl)
    try simp only [Act.put, List.setIfInBounds_toArray, List.set_cons_zero, List.set_cons_succ]
    refine wpG_pure (i := 5) (oi := { dst := some 7, op := Go.Op.assign (Go.Operand.tmp 11), type := 65, pos := "l2_type.go:205", after := #[{ on := 3, ground := Go.Ground.data }, { on := 4, ground := Go.Ground.chain }, { on := 0, ground := Go.Ground.phase }, { on := 1, ground := Go.Ground.phase }, { on := 2, ground := Go.Ground.phase }, { on := 3, ground := Go.Ground.phase }, { on := 4, ground := Go.Ground.phase }], guard := none }) (v := ?vg12) rfl (by kernel_rfl) (fun _ _ _ h => h) (Or.inl (by kernel_rfl)) (Or.inl ⟨by rfl, ?yg12⟩) ?_
    case yg12 => (intro wS _; go_simp <;> with_reducible rfl)
    try simp only [Act.put, List.setIfInBounds_toArray, List.set_cons_zero, List.set_cons_succ]
    refine wpG_done (by kernel_rfl) ?_
    skip
    obtain ⟨b1, rfl, hk1⟩ := HP1.out.2 HGA.out
    obtain rfl := HP2.out.1 HGD.out
    clear hk1
    go_wp2_with fail
    go_ret2
    exact ⟨rfl, HB4.out⟩
  | true =>
    rw [if_pos ⟨rfl, rfl⟩]
    have HGA := Lib.hid hga
    have HGD := Lib.hid hgd
    obtain ⟨r1, n1, -, -⟩ := good_right hga
    obtain ⟨r2, n2, -, -⟩ := good_right hgd
    have HR := Lib.hid (And.intro r1 r2)
    clear hga hgd r1 r2
    go_enter Try.func20, Try.ntmps20
    go_wp2_with fail
    refine wp_region_G [3] (fun w' => w'.cell? ⟨w.heap.size, 0, none⟩ = some (.slice sa A.length ca) ∧ w'.cell? ⟨w1.heap.size, 0, none⟩ = some (.slice sd D.length cd)) (by kernel_rfl) ?_ (fun hHeld => ?_)
    · exact ⟨c1, c2⟩
    refine wpG_load (i := 0) (oi := { dst := some 8, op := Go.Op.load 28 (Go.Operand.tmp 2), type := 28, pos := "l2_type.go:205", after := #[], guard := none }) (v := ?vg13) [[3, 1, 0]] rfl (by kernel_rfl) (fun _ _ _ h => h) hHeld (Or.inl ⟨by rfl, ?yg13⟩) ?_
    case yg13 => (intro wS hSw; (try dsimp only at hSw); go_simp <;> with_reducible rfl)
    try simp only [Act.put, List.setIfInBounds_toArray, List.set_cons_zero, List.set_cons_succ]
    refine wpG_load (i := 2) (oi := { dst := some 10, op := Go.Op.load 28 (Go.Operand.tmp 3), type := 28, pos := "l2_type.go:205", after := #[], guard := none }) (v := ?vg14) [[3, 2]] rfl (by kernel_rfl) (fun _ _ _ h => h) hHeld (Or.inl ⟨by rfl, ?yg14⟩) ?_
    case yg14 => (intro wS hSw; (try dsimp only at hSw); go_simp <;> with_reducible rfl)
    try simp only [Act.put, List.setIfInBounds_toArray, List.set_cons_zero, List.set_cons_succ]
    refine wpG_one (i := 1) (o := { dst := some 9, op := Go.Op.call { callee := Go.Callee.value (Go.Operand.func 38), args := #[Go.Operand.tmp 8], argTypes := #[28] }, type := 65, pos := "l2_type.go:205", after := #[{ on := 0, ground := Go.Ground.data }], guard := none }) rfl (by kernel_rfl) (fun K hK => ?_)
    go_simp
    refine HK1.out.mono ?_
    rintro e w3 hq3
    obtain ⟨p1, rfl, hb3, hk3⟩ := nrm hq3
    have HB3 := Lib.hid ((HB2.out.trans (hdr.mono HB2.out.size)).trans (hb3.mono (show w.heap.size ≤ w2.heap.size from HB2.out.size)))
    have HK2 := Lib.hid (HKD.out w3 (HD2.out.keep (hdr.trans hb3)))
    have d1 := below_later (hdr.trans hb3) c1
    have d2 := below_later (hdr.trans hb3) c2
    have HP1 := Lib.hid hk3
    clear hb3 hk3 hq3
    refine hK.out _ _ (Or.inr ?khHeld15) (fun hHeld15S => ?_)
    case khHeld15 => exact ⟨d1, d2⟩
    have hHeld15 := hHeld15S.held (by kernel_rfl)
    clear hK K
    try simp only [Act.put, List.setIfInBounds_toArray, List.set_cons_zero, List.set_cons_succ]
    refine wpG_one (i := 3) (o := { dst := some 11, op := Go.Op.call { callee := Go.Callee.value (Go.Operand.func 38), args := #[Go.Operand.tmp 10], argTypes := #[28] }, type := 65, pos := "l2_type.go:205", after := #[{ on := 2, ground := Go.Ground.data }, { on := 1, ground := Go.Ground.chain }], guard := none }) rfl (by kernel_rfl) (fun K hK => ?_)
    go_simp
    refine HK2.out.mono ?_
    rintro e w4 hq4
    obtain ⟨p2, rfl, hb4, hk4⟩ := nrm hq4
    have HB4 := Lib.hid (HB3.out.trans (hb4.mono HB3.out.size))
    have HBX := Lib.hid hb4
    have HP2 := Lib.hid hk4
    clear hb4 hk4 hq4
    refine hK.out _ _ (Or.inl (by kernel_rfl)) (fun _ => ?_)
    clear hK K
    try simp only [Act.put, List.setIfInBounds_toArray, List.set_cons_zero, List.set_cons_succ]
    refine wpG_pure (i := 4) (oi := { dst := some 6, op := Go.Op.assign (Go.Operand.tmp 9), type := 65, pos := "l2_type.go:205", after := #[{ on := 1, ground := Go.Ground.data }, { on := 3, ground := Go.Ground.chain }, { on := 0, ground := Go.Ground.phase }, { on := 1, ground := Go.Ground.phase }, { on := 2, ground := Go.Ground.textOnly Go.Departure.lateStores }, { on := 3, ground := Go.Ground.textOnly Go.Departure.lateStoresUnsure }], guard := none }) (v := ?vg17) rfl (by kernel_rfl) (fun _ _ _ h => h) (Or.inl (by kernel_rfl)) (Or.inl ⟨by rfl, ?yg17⟩) ?_
    case yg17 => (intro wS _; go_simp <;> with_reducible rfl)
    try simp only [Act.put, List.setIfInBounds_toArray, List.set_cons_zero, List.set_cons_succ]
    refine wpG_pure (i := 5) (oi := { dst := some 7, op := Go.Op.assign (Go.Operand.tmp 11), type := 65, pos := "l2_type.go:205", after := #[{ on := 3, ground := Go.Ground.data }, { on := 4, ground := Go.Ground.chain }, { on := 0, ground := Go.Ground.phase }, { on := 1, ground := Go.Ground.phase }, { on := 2, ground := Go.Ground.phase }, { on := 3, ground := Go.Ground.phase }, { on := 4, ground := Go.Ground.phase }], guard := none }) (v := ?vg18) rfl (by kernel_rfl) (fun _ _ _ h => h) (Or.inl (by kernel_rfl)) (Or.inl ⟨by rfl, ?yg18⟩) ?_
    case yg18 => (intro wS _; go_simp <;> with_reducible rfl)
    try simp only [Act.put, List.setIfInBounds_toArray, List.set_cons_zero, List.set_cons_succ]
    refine wpG_done (by kernel_rfl) ?_
    skip
    obtain ⟨b1, rfl, hk1⟩ := HP1.out.2 HGA.out
    obtain ⟨b2, rfl, hk2⟩ := HP2.out.2 HGD.out
    have HC := Lib.hid (impl_under _ w4 _ _ _ _ (Nat.le_refl _) (hk1.later HBX.out) (hk2.keep (T := fun q => w3.drew.heap.size ≤ q) (Kept.refl _ _) (fun q hq _ => hq)) HR.out.1 HR.out.2 (by omega) (by omega))
    clear hk1 hk2
    go_wp2_with fail
    refine HC.out.mono ?_
    rintro e w5 ⟨rfl, hb5⟩
    have HB5 := Lib.hid (HB4.out.trans (hb5.mono HB4.out.size))
    clear hb5
    go_wp2_with fail
    go_ret2
    exact ⟨rfl, HB5.out⟩
set_option maxHeartbeats 4000000 in
theorem spec_IsSubtype {B : Nat} {w : World} {A D : List Ty} {sa sd : Option Addr} {ca cd : Nat} (hA : Sch B w A sa ca) (hD : Sch B w D sd cd) :
    Calls Try.prog 21 #[.agg #[.slice sa A.length ca], .agg #[.slice sd D.length cd]] w fun e w' => e = .returned (.tuple #[.bool (isub A D).1, .bool (isub A D).2]) ∧ Below w.heap.size w w' := by
  have hB1 := Below.alloc (Below.refl w.heap.size w) (Nat.le_refl _) (.cells #[.slice sa A.length ca] 28)
  have hX1 := heap_alloc_new w (.cells #[.slice sa A.length ca] 28)
  generalize hw1 : w.alloc (.cells #[.slice sa A.length ca] 28) = w1 at *
  have l1 := hp_lt hX1
  have hB2 := hB1.alloc (Nat.le_of_lt l1) (.cells #[.slice sd D.length cd] 28)
  have hX1 := hp_alloc (.cells #[.slice sd D.length cd] 28) hX1
  have hX2 := heap_alloc_new w1 (.cells #[.slice sd D.length cd] 28)
  generalize hw2 : w1.alloc (.cells #[.slice sd D.length cd] 28) = w2 at *
  have l2 := hp_lt hX2
  have HB2 := Lib.hid hB2
  have HA2 := Lib.hid (hA.keep hB2)
  have HD2 := Lib.hid (hD.keep hB2)
  have c1 : w2.cell? ⟨w.heap.size, 0, none⟩ = some (.slice sa A.length ca) := by simp [World.cell?, hX1]
  have c2 : w2.cell? ⟨w1.heap.size, 0, none⟩ = some (.slice sd D.length cd) := by simp [World.cell?, hX2]
  have hdr := (Below.refl w2.heap.size w2).drew
  clear hB1 hB2 hX1 hX2
  have HG1 := Lib.hid (spec_GoodSchema HA2.out)
  have HGD := Lib.hid (fun wx (hs : Sch B wx D sd cd) => spec_GoodSchema hs)
  unfold isub
  cases hga : goodL A with
  | false =>
    rw [if_neg (by simp)]
    rw [hga] at HG1
    clear hga
    go_enter Try.func21, Try.ntmps21
    go_wp2_with fail
    refine HG1.out.mono ?_
    rintro e w3 ⟨rfl, hb⟩
    have HB3 := Lib.hid (HB2.out.trans (hb.mono HB2.out.size))
    clear hb
    go_wp2_with fail
    go_ret2
    exact ⟨rfl, HB3.out⟩
  | true =>
  rw [hga] at HG1
  cases hgd : goodL D with
  | false =>
    rw [if_neg (by simp)]
    rw [hgd] at HGD
    clear hga hgd
    go_enter Try.func21, Try.ntmps21
    go_wp2_with fail
    refine HG1.out.mono ?_
    rintro e w3 ⟨rfl, hb⟩
    have HB3 := Lib.hid (HB2.out.trans (hb.mono HB2.out.size))
    have HG2 := Lib.hid (HGD.out w3 (HD2.out.keep hb))
    have d2 := below_later hb c2
    clear hb
    go_wp2_with fail
    refine HG2.out.mono ?_
    rintro e w4 ⟨rfl, hb⟩
    have HB4 := Lib.hid (HB3.out.trans (hb.mono HB3.out.size))
    clear hb
    go_wp2_with fail
    go_ret2
    exact ⟨rfl, HB4.out⟩
  | true =>
    rw [if_pos ⟨rfl, rfl⟩]
    rw [hgd] at HGD
    obtain ⟨r1, n1, o1, z1⟩ := good_right hga
    obtain ⟨r2, n2, o2, z2⟩ := good_right hgd
    have HR := Lib.hid (And.intro r1 r2)
    have HO := Lib.hid (And.intro o1 o2)
    clear hga hgd r1 r2 o1 o2
    go_enter Try.func21, Try.ntmps21
    go_wp2_with fail
    refine HG1.out.mono ?_
    rintro e w3 ⟨rfl, hb⟩
    have HB3 := Lib.hid (HB2.out.trans (hb.mono HB2.out.size))
    have HG2 := Lib.hid (HGD.out w3 (HD2.out.keep hb))
    have HA3 := Lib.hid (HA2.out.keep hb)
    have HD3 := Lib.hid (HD2.out.keep hb)
    have d1 := below_later hb c1
    have d2 := below_later hb c2
    clear hb
    go_wp2_with fail
    refine HG2.out.mono ?_
    rintro e w4 ⟨rfl, hb⟩
    have HB4 := Lib.hid (HB3.out.trans (hb.mono HB3.out.size))
    have hdr4 := (Below.refl w4.heap.size w4).drew
    have HT1 := Lib.hid (spec_l2Tree HO.out.1 _ 0 w4.drew (Nat.le_refl _) z1 ((HA3.out.keep hb).keep hdr4))
    have HD4 := Lib.hid ((HD3.out.keep hb).keep hdr4)
    have e1 := below_later hb d1
    have e2 := below_later hb d2
    unfold TreeO at HT1
    clear hb
    go_wp2_with fail
    refine wp_region_G [3] (fun w' => w'.cell? ⟨w.heap.size, 0, none⟩ = some (.slice sa A.length ca) ∧ w'.cell? ⟨w1.heap.size, 0, none⟩ = some (.slice sd D.length cd)) (by kernel_rfl) ?_ (fun hHeld => ?_)
    · exact ⟨e1, e2⟩
    refine wpG_load (i := 0) (oi := { dst := some 14, op := Go.Op.load 28 (Go.Operand.tmp 2), type := 28, pos := "l2_type.go:181", after := #[], guard := none }) (v := ?vg19) [[3, 1, 0]] rfl (by kernel_rfl) (fun _ _ _ h => h) hHeld (Or.inl ⟨by rfl, ?yg19⟩) ?_
    case yg19 => (intro wS hSw; (try dsimp only at hSw); go_simp <;> with_reducible rfl)
    try simp only [Act.put, List.setIfInBounds_toArray, List.set_cons_zero, List.set_cons_succ]
    refine wpG_load (i := 2) (oi := { dst := some 16, op := Go.Op.load 28 (Go.Operand.tmp 3), type := 28, pos := "l2_type.go:181", after := #[], guard := none }) (v := ?vg20) [[3, 2]] rfl (by kernel_rfl) (fun _ _ _ h => h) hHeld (Or.inl ⟨by rfl, ?yg20⟩) ?_
    case yg20 => (intro wS hSw; (try dsimp only at hSw); go_simp <;> with_reducible rfl)
    try simp only [Act.put, List.setIfInBounds_toArray, List.set_cons_zero, List.set_cons_succ]
    refine wpG_one (i := 1) (o := { dst := some 15, op := Go.Op.call { callee := Go.Callee.value (Go.Operand.func 35), args := #[Go.Operand.tmp 14, Go.Operand.const (Go.Value.int Go.IntKind.i64 0)], argTypes := #[28, 3] }, type := 59, pos := "l2_type.go:181", after := #[{ on := 0, ground := Go.Ground.data }], guard := none }) rfl (by kernel_rfl) (fun K hK => ?_)
    go_simp
    refine HT1.out.mono ?_
    rintro e w5 ⟨cs1, rfl, hb5, hk5⟩
    have HB5 := Lib.hid ((HB4.out.trans (hdr4.mono HB4.out.size)).trans (hb5.mono (show w.heap.size ≤ w4.heap.size from HB4.out.size)))
    have HT2 := Lib.hid (spec_l2Tree HO.out.2 _ 0 w5 (Nat.le_refl _) z2 (HD4.out.keep hb5))
    have f1 := below_later (hdr4.trans hb5) e1
    have f2 := below_later (hdr4.trans hb5) e2
    have HK5 := Lib.hid hk5
    unfold TreeO at HT2
    clear hb5 hk5
    refine hK.out _ _ (Or.inr ?khHeld21) (fun hHeld21S => ?_)
    case khHeld21 => exact ⟨f1, f2⟩
    have hHeld21 := hHeld21S.held (by kernel_rfl)
    clear hK K
    try simp only [Act.put, List.setIfInBounds_toArray, List.set_cons_zero, List.set_cons_succ]
    refine wpG_one (i := 3) (o := { dst := some 17, op := Go.Op.call { callee := Go.Callee.value (Go.Operand.func 35), args := #[Go.Operand.tmp 16, Go.Operand.const (Go.Value.int Go.IntKind.i64 0)], argTypes := #[28, 3] }, type := 59, pos := "l2_type.go:181", after := #[{ on := 2, ground := Go.Ground.data }, { on := 1, ground := Go.Ground.chain }], guard := none }) rfl (by kernel_rfl) (fun K hK => ?_)
    go_simp
    refine HT2.out.mono ?_
    rintro e w6 ⟨cs2, rfl, hb6, hk6⟩
    have HB6 := Lib.hid (HB5.out.trans (hb6.mono HB5.out.size))
    have g1 := below_later hb6 f1
    have g2 := below_later hb6 f2
    have HC := Lib.hid (spec_l2Sub _ w6 _ _ cs1 cs2 (Nat.le_refl _) (HK5.out.later hb6) hk6 HR.out.1 HR.out.2 (by omega) (by omega))
    clear hb6 hk6
    refine hK.out _ _ (Or.inl (by kernel_rfl)) (fun _ => ?_)
    clear hK K
    try simp only [Act.put, List.setIfInBounds_toArray, List.set_cons_zero, List.set_cons_succ]
    refine wpG_one (i := 4) (o := { dst := some 18, op := Go.Op.call { callee := Go.Callee.value (Go.Operand.func 55), args := #[Go.Operand.tmp 15, Go.Operand.tmp 17], argTypes := #[59, 59] }, type := 4, pos := "l2_type.go:181", after := #[{ on := 1, ground := Go.Ground.data }, { on := 3, ground := Go.Ground.data }, { on := 3, ground := Go.Ground.chain }], guard := none }) rfl (by kernel_rfl) (fun K hK => ?_)
    go_simp
    refine HC.out.mono ?_
    rintro e w7 ⟨rfl, hb7⟩
    have HB7 := Lib.hid (HB6.out.trans (hb7.mono HB6.out.size))
    clear hb7
    refine hK.out _ _ (Or.inl (by kernel_rfl)) (fun _ => ?_)
    clear hK K
    try simp only [Act.put, List.setIfInBounds_toArray, List.set_cons_zero, List.set_cons_succ]
    refine wpG_pure (i := 5) (oi := { dst := some 4, op := Go.Op.assign (Go.Operand.tmp 18), type := 4, pos := "l2_type.go:181", after := #[{ on := 4, ground := Go.Ground.data }, { on := 4, ground := Go.Ground.chain }, { on := 0, ground := Go.Ground.phase }, { on := 1, ground := Go.Ground.phase }, { on := 2, ground := Go.Ground.phase }, { on := 3, ground := Go.Ground.phase }, { on := 4, ground := Go.Ground.phase }], guard := none }) (v := ?vg24) rfl (by kernel_rfl) (fun _ _ _ h => h) (Or.inl (by kernel_rfl)) (Or.inl ⟨by rfl, ?yg24⟩) ?_
    case yg24 => (intro wS _; go_simp <;> with_reducible rfl)
    try simp only [Act.put, List.setIfInBounds_toArray, List.set_cons_zero, List.set_cons_succ]
    refine wpG_pure (i := 6) (oi := { dst := some 5, op := Go.Op.assign (Go.Operand.const (Go.Value.bool true)), type := 4, pos := "l2_type.go:181", after := #[{ on := 5, ground := Go.Ground.chain }, { on := 0, ground := Go.Ground.phase }, { on := 1, ground := Go.Ground.phase }, { on := 2, ground := Go.Ground.phase }, { on := 3, ground := Go.Ground.phase }, { on := 4, ground := Go.Ground.phase }, { on := 5, ground := Go.Ground.phase }], guard := none }) (v := ?vg25) rfl (by kernel_rfl) (fun _ _ _ h => h) (Or.inl (by kernel_rfl)) (Or.inl ⟨by rfl, ?yg25⟩) ?_
    case yg25 => (intro wS _; go_simp <;> with_reducible rfl)
    try simp only [Act.put, List.setIfInBounds_toArray, List.set_cons_zero, List.set_cons_succ]
    refine wpG_done (by kernel_rfl) ?_
    skip
    go_wp2_with fail
    go_ret2
    exact ⟨rfl, HB7.out⟩
/-- how deep a schema is -/
noncomputable def deepR (L : List Ty) : Int × Bool := if goodL L = true then ((deepT (treeOf L 0) : Int), true) else (0, false)
set_option maxHeartbeats 1000000 in
theorem impl_DeepOf {B : Nat} {w : World} {L : List Ty} {a : Option Addr} {cap : Nat} (h : Sch B w L a cap) : Calls Try.prog 29 #[.agg #[.slice a L.length cap]] w fun e w' => e = .returned (.tuple #[.int .i64 (deepR L).1, .bool (deepR L).2]) ∧ Below w.heap.size w w' := by
  have hB1 := Below.alloc (Below.refl w.heap.size w) (Nat.le_refl _) (.cells #[.slice a L.length cap] 28)
  have hX1 := heap_alloc_new w (.cells #[.slice a L.length cap] 28)
  generalize hw1 : w.alloc (.cells #[.slice a L.length cap] 28) = w1 at *
  have l1 := hp_lt hX1
  have HX1 := Lib.hid hX1
  have HB1 := Lib.hid hB1
  have HS1 := Lib.hid (h.keep hB1)
  have c1 : w1.cell? ⟨w.heap.size, 0, none⟩ = some (.slice a L.length cap) := by simp [World.cell?, hX1]
  unfold deepR
  clear hB1 hX1 h
  cases hg : goodL L with
  | false =>
    rw [if_neg (by simp)]
    have HK := Lib.hid (impl_kindOf_no HS1.out hg)
    clear hg
    go_enter Try.func29, Try.ntmps29
    go_wp2_with fail
    refine HK.out.mono ?_
    rintro e w3 ⟨rfl, hb⟩
    have HB3 := Lib.hid (HB1.out.trans (hb.mono HB1.out.size))
    clear hb
    go_wp2_with fail
    go_ret2
    exact ⟨rfl, HB3.out⟩
  | true =>
    rw [if_pos rfl]
    have HK := Lib.hid (impl_kindOf_yes HS1.out hg)
    obtain ⟨-, n1, -, -⟩ := good_right hg
    clear hg
    go_enter Try.func29, Try.ntmps29
    go_wp2_with fail
    refine HK.out.mono ?_
    rintro e w3 ⟨p, rfl, hb, hk⟩
    have HB3 := Lib.hid (HB1.out.trans (hb.mono HB1.out.size))
    have HC := Lib.hid (impl_deep _ w3 _ _ (Nat.le_refl _) hk (by omega))
    clear hb hk
    go_wp2_with fail
    refine HC.out.mono ?_
    rintro e w4 ⟨rfl, rfl⟩
    go_wp2_with fail
    go_ret2
    exact ⟨rfl, HB3.out⟩
set_option maxHeartbeats 1000000 in
theorem spec_DeepOf {B : Nat} {w : World} {L : List Ty} {a : Option Addr} {cap : Nat} (h : Sch B w L a cap) : Calls Try.prog 30 #[.agg #[.slice a L.length cap]] w fun e w' => e = .returned (.tuple #[.int .i64 (deepR L).1, .bool (deepR L).2]) ∧ Below w.heap.size w w' := by
  have hB1 := Below.alloc (Below.refl w.heap.size w) (Nat.le_refl _) (.cells #[.slice a L.length cap] 28)
  have hX1 := heap_alloc_new w (.cells #[.slice a L.length cap] 28)
  generalize hw1 : w.alloc (.cells #[.slice a L.length cap] 28) = w1 at *
  have l1 := hp_lt hX1
  have HX1 := Lib.hid hX1
  have HB1 := Lib.hid hB1
  have HS1 := Lib.hid (h.keep hB1)
  have c1 : w1.cell? ⟨w.heap.size, 0, none⟩ = some (.slice a L.length cap) := by simp [World.cell?, hX1]
  have HG := Lib.hid (spec_GoodSchema HS1.out)
  unfold deepR
  clear hB1 hX1 h
  cases hg : goodL L with
  | false =>
    rw [if_neg (by simp)]
    rw [hg] at HG
    clear hg
    go_enter Try.func30, Try.ntmps30
    go_wp2_with fail
    refine HG.out.mono ?_
    rintro e w3 ⟨rfl, hb⟩
    have HB3 := Lib.hid (HB1.out.trans (hb.mono HB1.out.size))
    clear hb
    go_wp2_with fail
    go_ret2
    exact ⟨rfl, HB3.out⟩
  | true =>
    rw [if_pos rfl]
    rw [hg] at HG
    obtain ⟨-, n1, o1, z1⟩ := good_right hg
    have HO := Lib.hid o1
    clear hg o1
    go_enter Try.func30, Try.ntmps30
    go_wp2_with fail
    refine HG.out.mono ?_
    rintro e w3 ⟨rfl, hb⟩
    have HB3 := Lib.hid (HB1.out.trans (hb.mono HB1.out.size))
    have HT := Lib.hid (spec_l2Tree HO.out _ 0 w3 (Nat.le_refl _) z1 (HS1.out.keep hb))
    have d1 := below_later hb c1
    unfold TreeO at HT
    clear hb
    go_wp2_with fail
    refine HT.out.mono ?_
    rintro e w4 ⟨cs, rfl, hb, hk⟩
    have HB4 := Lib.hid (HB3.out.trans (hb.mono HB3.out.size))
    have HC := Lib.hid (spec_l2Deep _ w4 _ cs (Nat.le_refl _) hk (by omega))
    clear hb hk
    go_wp2_with fail
    refine HC.out.mono ?_
    rintro e w5 ⟨rfl, hb⟩
    have HB5 := Lib.hid (HB4.out.trans (hb.mono HB4.out.size))
    clear hb
    go_wp2_with fail
    go_ret2
    exact ⟨rfl, HB5.out⟩
end Go.Proofs.Ytmlnecopbncdbaa
