/- What both of two schemas tell: the program. -/
import Derived.Test.YtmlnecopbncdbaaMtM
import Derived.Test.YtmlnecopbncdbaaSu4
import Derived.Test.YtmlnecopbncdbaaTyD
namespace Go.Proofs.Ytmlnecopbncdbaa
set_option linter.unusedVariables false
set_option linter.unusedSimpArgs false
open Go.ChangeShapes Go.WideShapes Go.ChangeAt Go.RowKit
set_option maxRecDepth 100000

/-- what both schemas tell -/
noncomputable def meetB (A D : List Ty) : List Ty × Bool := if goodL A = true ∧ goodL D = true then (match meetT (treeOf A 0) (treeOf D 0) with | some t => (tellL t, goodT t) | none => ([], false)) else ([], false)
theorem meetB_no {A D : List Ty} (h : ¬ (goodL A = true ∧ goodL D = true)) : meetB A D = ([], false) := by unfold meetB; rw [if_neg h]
theorem meetB_none {A D : List Ty} (hA : goodL A = true) (hD : goodL D = true) (h : meetT (treeOf A 0) (treeOf D 0) = none) : meetB A D = ([], false) := by unfold meetB; rw [if_pos ⟨hA, hD⟩, h]
theorem meetB_some {A D : List Ty} {t : Tr} (hA : goodL A = true) (hD : goodL D = true) (h : meetT (treeOf A 0) (treeOf D 0) = some t) : meetB A D = (tellL t, goodT t) := by unfold meetB; rw [if_pos ⟨hA, hD⟩, h]
/-- what is handed back -/
def MeetOO (R : List Ty × Bool) (w : World) (e : Ending) (w' : World) : Prop :=
  ∃ v, e = .returned (.tuple #[.agg #[v], .bool R.2]) ∧ w'.ownsRow w.heap.size 85 6 v R.1.length (tysV R.1) ∧ Below w.heap.size w w'
theorem meetoo_no {R : List Ty × Bool} {w w' : World} (h : R = ([], false)) (hb : Below w.heap.size w w') : MeetOO R w (.returned (.tuple #[.agg #[.slice none 0 0], .bool false])) w' := by
  subst h; exact ⟨_, rfl, World.ownsRow_nil _ _ _ _, hb⟩
theorem meetoo_yes {R : List Ty × Bool} {t : Tr} {w w' : World} {v : Value} (h : R = (tellL t, goodT t)) (ho : w'.ownsRow w.heap.size 85 6 v (tellL t).length (tysV (tellL t))) (hb : Below w.heap.size w w') : MeetOO R w (.returned (.tuple #[.agg #[v], .bool (goodT t)])) w' := by
  subst h; exact ⟨_, rfl, ho, hb⟩
set_option maxHeartbeats 1000000 in
theorem impl_schema_nil (w : World) : Calls Try.prog 40 #[.pointer none] w fun e w' => e = .returned (.tuple #[.agg #[.slice none 0 0], .bool false]) ∧ Below w.heap.size w w' := by
  have hB1 := Below.alloc (Below.refl w.heap.size w) (Nat.le_refl _) (.cells #[.slice none 0 0] 28)
  have hX1 := heap_alloc_new w (.cells #[.slice none 0 0] 28)
  generalize hw1 : w.alloc (.cells #[.slice none 0 0] 28) = w1 at *
  have HG := Lib.hid (impl_good_nil w1)
  have HX1 := Lib.hid hX1
  have HB1 := Lib.hid hB1
  clear hB1 hX1
  go_enter Try.func40, Try.ntmps40
  go_wp2_with fail
  refine HG.out.mono ?_
  rintro e w2 ⟨rfl, hb⟩
  have HB2 := Lib.hid (HB1.out.trans (hb.mono HB1.out.size))
  have hX2 := hp_later hb HX1.out
  have x0 : w2.cell? ⟨w.heap.size, 0, none⟩ = some (.slice none 0 0) := by simp [World.cell?, hX2]
  have f0 : w2.frozen? ⟨w.heap.size, 0, none⟩ = false := by simp [World.frozen?, hX2]
  have y0 : (w2.setCell ⟨w.heap.size, 0, none⟩ (.slice none 0 0)).cell? ⟨w.heap.size, 0, none⟩ = some (.slice none 0 0) := by simp [World.setCell, Array.getElem?_modify, hX2, World.cell?]
  clear hb hX2
  go_wp2_with fail
  refine bodyPost_ret (v := .tuple #[.agg #[.slice none 0 0], .bool false]) (by simp [results, Try.results40, go_sem, y0]) rfl ?_
  exact ⟨rfl, below_set HB2.out (Nat.le_refl _) 0 _⟩
set_option maxHeartbeats 8000000 in
theorem impl_meetOO {B : Nat} {w : World} {A D : List Ty} {sa sd : Option Addr} {ca cd : Nat} (hA : Sch B w A sa ca) (hD : Sch B w D sd cd) :
    Calls Try.prog 9 #[.agg #[.slice sa A.length ca], .agg #[.slice sd D.length cd]] w (MeetOO (meetB A D) w) := by
  have hB1 := Below.alloc (Below.refl w.heap.size w) (Nat.le_refl _) (.cells #[.slice sa A.length ca] 28)
  have hX1 := heap_alloc_new w (.cells #[.slice sa A.length ca] 28)
  generalize hw1 : w.alloc (.cells #[.slice sa A.length ca] 28) = w1 at *
  have l1 := hp_lt hX1
  have hB2 := hB1.alloc (Nat.le_of_lt l1) (.cells #[.slice sd D.length cd] 28)
  have hX1 := hp_alloc (.cells #[.slice sd D.length cd] 28) hX1
  have hX2 := heap_alloc_new w1 (.cells #[.slice sd D.length cd] 28)
  generalize hw2 : w1.alloc (.cells #[.slice sd D.length cd] 28) = w2 at *
  have l2 := hp_lt hX2
  have hB3 := hB2.alloc (by omega) (.cells #[.slice none 0 0] 28)
  have hX1 := hp_alloc (.cells #[.slice none 0 0] 28) hX1
  have hX2 := hp_alloc (.cells #[.slice none 0 0] 28) hX2
  have hX3 := heap_alloc_new w2 (.cells #[.slice none 0 0] 28)
  generalize hw3 : w2.alloc (.cells #[.slice none 0 0] 28) = w3 at *
  have l3 := hp_lt hX3
  have HB3 := Lib.hid hB3
  have HX3 := Lib.hid hX3
  have HA3 := Lib.hid (hA.keep hB3)
  have HD3 := Lib.hid (hD.keep hB3)
  have c1 : w3.cell? ⟨w.heap.size, 0, none⟩ = some (.slice sa A.length ca) := by simp [World.cell?, hX1]
  have c2 : w3.cell? ⟨w1.heap.size, 0, none⟩ = some (.slice sd D.length cd) := by simp [World.cell?, hX2]
  have hdr := (Below.refl w3.heap.size w3).drew
  clear hB1 hB2 hB3 hX1 hX2 hX3
  have HK1 := Lib.hid (impl_ko (HA3.out.keep hdr))
  have HKD := Lib.hid (fun wx (hs : Sch B wx D sd cd) => impl_ko hs)
  cases hga : goodL A with
  | false =>
    have HN : Hid (meetB A D = ([], false)) := Lib.hid (meetB_no (by simp [hga]))
    have HGA := Lib.hid hga
    clear hga
    go_enter Try.func9, Try.ntmps9
    go_wp2_with fail
    refine wp_region_G [3] (fun w' => w'.cell? ⟨w.heap.size, 0, none⟩ = some (.slice sa A.length ca) ∧ w'.cell? ⟨w1.heap.size, 0, none⟩ = some (.slice sd D.length cd)) (by kernel_rfl) ?_ (fun hHeld => ?_)
    · exact ⟨c1, c2⟩
    refine wpG_load (i := 0) (oi := { dst := some 8, op := Go.Op.load 28 (Go.Operand.tmp 2), type := 28, pos := "l2_type.go:250", after := #[], guard := none }) (v := ?vg1) [[3, 1, 0]] rfl (by kernel_rfl) (fun _ _ _ h => h) hHeld (Or.inl ⟨by rfl, ?yg1⟩) ?_
    case yg1 => (intro wS hSw; (try dsimp only at hSw); go_simp <;> with_reducible rfl)
    try simp only [Act.put, List.setIfInBounds_toArray, List.set_cons_zero, List.set_cons_succ]
    refine wpG_load (i := 2) (oi := { dst := some 10, op := Go.Op.load 28 (Go.Operand.tmp 3), type := 28, pos := "l2_type.go:250", after := #[], guard := none }) (v := ?vg2) [[3, 2]] rfl (by kernel_rfl) (fun _ _ _ h => h) hHeld (Or.inl ⟨by rfl, ?yg2⟩) ?_
    case yg2 => (intro wS hSw; (try dsimp only at hSw); go_simp <;> with_reducible rfl)
    try simp only [Act.put, List.setIfInBounds_toArray, List.set_cons_zero, List.set_cons_succ]
    refine wpG_one (i := 1) (o := { dst := some 9, op := Go.Op.call { callee := Go.Callee.value (Go.Operand.func 38), args := #[Go.Operand.tmp 8], argTypes := #[28] }, type := 65, pos := "l2_type.go:250", after := #[{ on := 0, ground := Go.Ground.data }], guard := none }) rfl (by kernel_rfl) (fun K hK => ?_)
    go_simp
    refine HK1.out.mono ?_
    rintro e w4 hq4
    obtain ⟨p1, rfl, hb4, hk4⟩ := nrm hq4
    have hb34 := hdr.trans hb4
    have HB4 := Lib.hid (HB3.out.trans (hb34.mono HB3.out.size))
    have HX4 := Lib.hid (hp_later hb34 HX3.out)
    have HK2 := Lib.hid (HKD.out w4 (HD3.out.keep hb34))
    have d1 := below_later hb34 c1
    have d2 := below_later hb34 c2
    have HP1 := Lib.hid hk4
    clear hb4 hk4 hq4 hb34
    refine hK.out _ _ (Or.inr ?khHeld3) (fun hHeld3S => ?_)
    case khHeld3 => exact ⟨d1, d2⟩
    have hHeld3 := hHeld3S.held (by kernel_rfl)
    clear hK K
    try simp only [Act.put, List.setIfInBounds_toArray, List.set_cons_zero, List.set_cons_succ]
    refine wpG_one (i := 3) (o := { dst := some 11, op := Go.Op.call { callee := Go.Callee.value (Go.Operand.func 38), args := #[Go.Operand.tmp 10], argTypes := #[28] }, type := 65, pos := "l2_type.go:250", after := #[{ on := 2, ground := Go.Ground.data }, { on := 1, ground := Go.Ground.chain }], guard := none }) rfl (by kernel_rfl) (fun K hK => ?_)
    go_simp
    refine HK2.out.mono ?_
    rintro e w5 hq5
    obtain ⟨p2, rfl, hb5, hk5⟩ := nrm hq5
    have HB5 := Lib.hid (HB4.out.trans (hb5.mono HB4.out.size))
    have HX5 := Lib.hid (hp_later hb5 HX4.out)
    have HBX := Lib.hid hb5
    have HP2 := Lib.hid hk5
    clear hb5 hk5 hq5
    refine hK.out _ _ (Or.inl (by kernel_rfl)) (fun _ => ?_)
    clear hK K
    try simp only [Act.put, List.setIfInBounds_toArray, List.set_cons_zero, List.set_cons_succ]
    refine wpG_pure (i := 4) (oi := { dst := some 6, op := Go.Op.assign (Go.Operand.tmp 9), type := 65, pos := "l2_type.go:250", after := #[{ on := 1, ground := Go.Ground.data }, { on := 3, ground := Go.Ground.chain }, { on := 0, ground := Go.Ground.phase }, { on := 1, ground := Go.Ground.phase }, { on := 2, ground := Go.Ground.textOnly Go.Departure.lateStores }, { on := 3, ground := Go.Ground.textOnly Go.Departure.lateStoresUnsure }], guard := none }) (v := ?vg5) rfl (by kernel_rfl) (fun _ _ _ h => h) (Or.inl (by kernel_rfl)) (Or.inl ⟨by rfl, ?yg5⟩) ?_
    case yg5 => (intro wS _; go_simp <;> with_reducible rfl)
    try simp only [Act.put, List.setIfInBounds_toArray, List.set_cons_zero, List.set_cons_succ]
    refine wpG_pure (i := 5) (oi := { dst := some 7, op := Go.Op.assign (Go.Operand.tmp 11), type := 65, pos := "l2_type.go:250", after := #[{ on := 3, ground := Go.Ground.data }, { on := 4, ground := Go.Ground.chain }, { on := 0, ground := Go.Ground.phase }, { on := 1, ground := Go.Ground.phase }, { on := 2, ground := Go.Ground.phase }, { on := 3, ground := Go.Ground.phase }, { on := 4, ground := Go.Ground.phase }], guard := none }) (v := ?vg6) rfl (by kernel_rfl) (fun _ _ _ h => h) (Or.inl (by kernel_rfl)) (Or.inl ⟨by rfl, ?yg6⟩) ?_
    case yg6 => (intro wS _; go_simp <;> with_reducible rfl)
    try simp only [Act.put, List.setIfInBounds_toArray, List.set_cons_zero, List.set_cons_succ]
    refine wpG_done (by kernel_rfl) ?_
    skip
    obtain rfl := HP1.out.1 HGA.out
    have z0 : (w5).cell? ⟨w2.heap.size, 0, none⟩ = some (.slice none 0 0) := by simp [World.cell?, HX5.out]
    have zf : (w5).frozen? ⟨w2.heap.size, 0, none⟩ = false := by simp [World.frozen?, HX5.out]
    have zy : ((w5).setCell ⟨w2.heap.size, 0, none⟩ (.slice none 0 0)).cell? ⟨w2.heap.size, 0, none⟩ = some (.slice none 0 0) := by simp [World.setCell, Array.getElem?_modify, HX5.out, World.cell?]
    go_wp2_with fail
    refine bodyPost_ret (v := .tuple #[.agg #[.slice none 0 0], .bool false]) (by simp [results, Try.results9, go_sem, zy]) rfl ?_
    exact meetoo_no HN.out (below_set HB5.out (show w.heap.size ≤ w2.heap.size by omega) 0 _)
  | true =>
  cases hgd : goodL D with
  | false =>
    have HN : Hid (meetB A D = ([], false)) := Lib.hid (meetB_no (by simp [hgd]))
    have HGA := Lib.hid hga
    have HGD := Lib.hid hgd
    clear hga hgd
    go_enter Try.func9, Try.ntmps9
    go_wp2_with fail
    refine wp_region_G [3] (fun w' => w'.cell? ⟨w.heap.size, 0, none⟩ = some (.slice sa A.length ca) ∧ w'.cell? ⟨w1.heap.size, 0, none⟩ = some (.slice sd D.length cd)) (by kernel_rfl) ?_ (fun hHeld => ?_)
    · exact ⟨c1, c2⟩
    refine wpG_load (i := 0) (oi := { dst := some 8, op := Go.Op.load 28 (Go.Operand.tmp 2), type := 28, pos := "l2_type.go:250", after := #[], guard := none }) (v := ?vg7) [[3, 1, 0]] rfl (by kernel_rfl) (fun _ _ _ h => h) hHeld (Or.inl ⟨by rfl, ?yg7⟩) ?_
    case yg7 => (intro wS hSw; (try dsimp only at hSw); go_simp <;> with_reducible rfl)
    try simp only [Act.put, List.setIfInBounds_toArray, List.set_cons_zero, List.set_cons_succ]
    refine wpG_load (i := 2) (oi := { dst := some 10, op := Go.Op.load 28 (Go.Operand.tmp 3), type := 28, pos := "l2_type.go:250", after := #[], guard := none }) (v := ?vg8) [[3, 2]] rfl (by kernel_rfl) (fun _ _ _ h => h) hHeld (Or.inl ⟨by rfl, ?yg8⟩) ?_
    case yg8 => (intro wS hSw; (try dsimp only at hSw); go_simp <;> with_reducible rfl)
    try simp only [Act.put, List.setIfInBounds_toArray, List.set_cons_zero, List.set_cons_succ]
    refine wpG_one (i := 1) (o := { dst := some 9, op := Go.Op.call { callee := Go.Callee.value (Go.Operand.func 38), args := #[Go.Operand.tmp 8], argTypes := #[28] }, type := 65, pos := "l2_type.go:250", after := #[{ on := 0, ground := Go.Ground.data }], guard := none }) rfl (by kernel_rfl) (fun K hK => ?_)
    go_simp
    refine HK1.out.mono ?_
    rintro e w4 hq4
    obtain ⟨p1, rfl, hb4, hk4⟩ := nrm hq4
    have hb34 := hdr.trans hb4
    have HB4 := Lib.hid (HB3.out.trans (hb34.mono HB3.out.size))
    have HX4 := Lib.hid (hp_later hb34 HX3.out)
    have HK2 := Lib.hid (HKD.out w4 (HD3.out.keep hb34))
    have d1 := below_later hb34 c1
    have d2 := below_later hb34 c2
    have HP1 := Lib.hid hk4
    clear hb4 hk4 hq4 hb34
    refine hK.out _ _ (Or.inr ?khHeld9) (fun hHeld9S => ?_)
    case khHeld9 => exact ⟨d1, d2⟩
    have hHeld9 := hHeld9S.held (by kernel_rfl)
    clear hK K
    try simp only [Act.put, List.setIfInBounds_toArray, List.set_cons_zero, List.set_cons_succ]
    refine wpG_one (i := 3) (o := { dst := some 11, op := Go.Op.call { callee := Go.Callee.value (Go.Operand.func 38), args := #[Go.Operand.tmp 10], argTypes := #[28] }, type := 65, pos := "l2_type.go:250", after := #[{ on := 2, ground := Go.Ground.data }, { on := 1, ground := Go.Ground.chain }], guard := none }) rfl (by kernel_rfl) (fun K hK => ?_)
    go_simp
    refine HK2.out.mono ?_
    rintro e w5 hq5
    obtain ⟨p2, rfl, hb5, hk5⟩ := nrm hq5
    have HB5 := Lib.hid (HB4.out.trans (hb5.mono HB4.out.size))
    have HX5 := Lib.hid (hp_later hb5 HX4.out)
    have HBX := Lib.hid hb5
    have HP2 := Lib.hid hk5
    clear hb5 hk5 hq5
    refine hK.out _ _ (Or.inl (by kernel_rfl)) (fun _ => ?_)
    clear hK K
    try simp only [Act.put, List.setIfInBounds_toArray, List.set_cons_zero, List.set_cons_succ]
    refine wpG_pure (i := 4) (oi := { dst := some 6, op := Go.Op.assign (Go.Operand.tmp 9), type := 65, pos := "l2_type.go:250", after := #[{ on := 1, ground := Go.Ground.data }, { on := 3, ground := Go.Ground.chain }, { on := 0, ground := Go.Ground.phase }, { on := 1, ground := Go.Ground.phase }, { on := 2, ground := Go.Ground.textOnly Go.Departure.lateStores }, { on := 3, ground := Go.Ground.textOnly Go.Departure.lateStoresUnsure }], guard := none }) (v := ?vg11) rfl (by kernel_rfl) (fun _ _ _ h => h) (Or.inl (by kernel_rfl)) (Or.inl ⟨by rfl, ?yg11⟩) ?_
    case yg11 => (intro wS _; go_simp <;> with_reducible rfl)
    try simp only [Act.put, List.setIfInBounds_toArray, List.set_cons_zero, List.set_cons_succ]
    refine wpG_pure (i := 5) (oi := { dst := some 7, op := Go.Op.assign (Go.Operand.tmp 11), type := 65, pos := "l2_type.go:250", after := #[{ on := 3, ground := Go.Ground.data }, { on := 4, ground := Go.Ground.chain }, { on := 0, ground := Go.Ground.phase }, { on := 1, ground := Go.Ground.phase }, { on := 2, ground := Go.Ground.phase }, { on := 3, ground := Go.Ground.phase }, { on := 4, ground := Go.Ground.phase }], guard := none }) (v := ?vg12) rfl (by kernel_rfl) (fun _ _ _ h => h) (Or.inl (by kernel_rfl)) (Or.inl ⟨by rfl, ?yg12⟩) ?_
    case yg12 => (intro wS _; go_simp <;> with_reducible rfl)
    try simp only [Act.put, List.setIfInBounds_toArray, List.set_cons_zero, List.set_cons_succ]
    refine wpG_done (by kernel_rfl) ?_
    skip
    obtain ⟨b1, rfl, hk1⟩ := HP1.out.2 HGA.out
    obtain rfl := HP2.out.1 HGD.out
    clear hk1
    have z0 : (w5).cell? ⟨w2.heap.size, 0, none⟩ = some (.slice none 0 0) := by simp [World.cell?, HX5.out]
    have zf : (w5).frozen? ⟨w2.heap.size, 0, none⟩ = false := by simp [World.frozen?, HX5.out]
    have zy : ((w5).setCell ⟨w2.heap.size, 0, none⟩ (.slice none 0 0)).cell? ⟨w2.heap.size, 0, none⟩ = some (.slice none 0 0) := by simp [World.setCell, Array.getElem?_modify, HX5.out, World.cell?]
    go_wp2_with fail
    refine bodyPost_ret (v := .tuple #[.agg #[.slice none 0 0], .bool false]) (by simp [results, Try.results9, go_sem, zy]) rfl ?_
    exact meetoo_no HN.out (below_set HB5.out (show w.heap.size ≤ w2.heap.size by omega) 0 _)
  | true =>
    have HGA := Lib.hid hga
    have HGD := Lib.hid hgd
    obtain ⟨r1, n1, -, -⟩ := good_right hga
    obtain ⟨r2, n2, -, -⟩ := good_right hgd
    have HR := Lib.hid (And.intro r1 r2)
    clear hga hgd r1 r2
    go_enter Try.func9, Try.ntmps9
    go_wp2_with fail
    refine wp_region_G [3] (fun w' => w'.cell? ⟨w.heap.size, 0, none⟩ = some (.slice sa A.length ca) ∧ w'.cell? ⟨w1.heap.size, 0, none⟩ = some (.slice sd D.length cd)) (by kernel_rfl) ?_ (fun hHeld => ?_)
    · exact ⟨c1, c2⟩
    refine wpG_load (i := 0) (oi := { dst := some 8, op := Go.Op.load 28 (Go.Operand.tmp 2), type := 28, pos := "l2_type.go:250", after := #[], guard := none }) (v := ?vg13) [[3, 1, 0]] rfl (by kernel_rfl) (fun _ _ _ h => h) hHeld (Or.inl ⟨by rfl, ?yg13⟩) ?_
    case yg13 => (intro wS hSw; (try dsimp only at hSw); go_simp <;> with_reducible rfl)
    try simp only [Act.put, List.setIfInBounds_toArray, List.set_cons_zero, List.set_cons_succ]
    refine wpG_load (i := 2) (oi := { dst := some 10, op := Go.Op.load 28 (Go.Operand.tmp 3), type := 28, pos := "l2_type.go:250", after := #[], guard := none }) (v := ?vg14) [[3, 2]] rfl (by kernel_rfl) (fun _ _ _ h => h) hHeld (Or.inl ⟨by rfl, ?yg14⟩) ?_
    case yg14 => (intro wS hSw; (try dsimp only at hSw); go_simp <;> with_reducible rfl)
    try simp only [Act.put, List.setIfInBounds_toArray, List.set_cons_zero, List.set_cons_succ]
    refine wpG_one (i := 1) (o := { dst := some 9, op := Go.Op.call { callee := Go.Callee.value (Go.Operand.func 38), args := #[Go.Operand.tmp 8], argTypes := #[28] }, type := 65, pos := "l2_type.go:250", after := #[{ on := 0, ground := Go.Ground.data }], guard := none }) rfl (by kernel_rfl) (fun K hK => ?_)
    go_simp
    refine HK1.out.mono ?_
    rintro e w4 hq4
    obtain ⟨p1, rfl, hb4, hk4⟩ := nrm hq4
    have hb34 := hdr.trans hb4
    have HB4 := Lib.hid (HB3.out.trans (hb34.mono HB3.out.size))
    have HX4 := Lib.hid (hp_later hb34 HX3.out)
    have HK2 := Lib.hid (HKD.out w4 (HD3.out.keep hb34))
    have d1 := below_later hb34 c1
    have d2 := below_later hb34 c2
    have HP1 := Lib.hid hk4
    clear hb4 hk4 hq4 hb34
    refine hK.out _ _ (Or.inr ?khHeld15) (fun hHeld15S => ?_)
    case khHeld15 => exact ⟨d1, d2⟩
    have hHeld15 := hHeld15S.held (by kernel_rfl)
    clear hK K
    try simp only [Act.put, List.setIfInBounds_toArray, List.set_cons_zero, List.set_cons_succ]
    refine wpG_one (i := 3) (o := { dst := some 11, op := Go.Op.call { callee := Go.Callee.value (Go.Operand.func 38), args := #[Go.Operand.tmp 10], argTypes := #[28] }, type := 65, pos := "l2_type.go:250", after := #[{ on := 2, ground := Go.Ground.data }, { on := 1, ground := Go.Ground.chain }], guard := none }) rfl (by kernel_rfl) (fun K hK => ?_)
    go_simp
    refine HK2.out.mono ?_
    rintro e w5 hq5
    obtain ⟨p2, rfl, hb5, hk5⟩ := nrm hq5
    have HB5 := Lib.hid (HB4.out.trans (hb5.mono HB4.out.size))
    have HX5 := Lib.hid (hp_later hb5 HX4.out)
    have HBX := Lib.hid hb5
    have HP2 := Lib.hid hk5
    clear hb5 hk5 hq5
    refine hK.out _ _ (Or.inl (by kernel_rfl)) (fun _ => ?_)
    clear hK K
    try simp only [Act.put, List.setIfInBounds_toArray, List.set_cons_zero, List.set_cons_succ]
    refine wpG_pure (i := 4) (oi := { dst := some 6, op := Go.Op.assign (Go.Operand.tmp 9), type := 65, pos := "l2_type.go:250", after := #[{ on := 1, ground := Go.Ground.data }, { on := 3, ground := Go.Ground.chain }, { on := 0, ground := Go.Ground.phase }, { on := 1, ground := Go.Ground.phase }, { on := 2, ground := Go.Ground.textOnly Go.Departure.lateStores }, { on := 3, ground := Go.Ground.textOnly Go.Departure.lateStoresUnsure }], guard := none }) (v := ?vg17) rfl (by kernel_rfl) (fun _ _ _ h => h) (Or.inl (by kernel_rfl)) (Or.inl ⟨by rfl, ?yg17⟩) ?_
    case yg17 => (intro wS _; go_simp <;> with_reducible rfl)
    try simp only [Act.put, List.setIfInBounds_toArray, List.set_cons_zero, List.set_cons_succ]
    refine wpG_pure (i := 5) (oi := { dst := some 7, op := Go.Op.assign (Go.Operand.tmp 11), type := 65, pos := "l2_type.go:250", after := #[{ on := 3, ground := Go.Ground.data }, { on := 4, ground := Go.Ground.chain }, { on := 0, ground := Go.Ground.phase }, { on := 1, ground := Go.Ground.phase }, { on := 2, ground := Go.Ground.phase }, { on := 3, ground := Go.Ground.phase }, { on := 4, ground := Go.Ground.phase }], guard := none }) (v := ?vg18) rfl (by kernel_rfl) (fun _ _ _ h => h) (Or.inl (by kernel_rfl)) (Or.inl ⟨by rfl, ?yg18⟩) ?_
    case yg18 => (intro wS _; go_simp <;> with_reducible rfl)
    try simp only [Act.put, List.setIfInBounds_toArray, List.set_cons_zero, List.set_cons_succ]
    refine wpG_done (by kernel_rfl) ?_
    skip
    obtain ⟨b1, rfl, hk1⟩ := HP1.out.2 HGA.out
    obtain ⟨b2, rfl, hk2⟩ := HP2.out.2 HGD.out
    have HC := Lib.hid (impl_meet _ (fun _ => True) w5 _ _ _ _ (Nat.le_refl _) ((hk1.later HBX.out).keep (T := fun _ => True) (Kept.refl _ _) (fun _ _ _ => trivial)) (hk2.keep (T := fun _ => True) (Kept.refl _ _) (fun _ _ _ => trivial)) HR.out.1 HR.out.2 (by omega) (by omega))
    unfold MeetP at HC
    clear hk1 hk2
    go_wp2_with fail
    refine HC.out.mono ?_
    rintro e w6 ⟨p, rfl, hb6, ⟨hno, rfl⟩ | ⟨t, g, hyes, rfl, hkt⟩⟩
    · have HN : Hid (meetB A D = ([], false)) := Lib.hid (meetB_none HGA.out HGD.out hno)
      have HB6 := Lib.hid (HB5.out.trans (hb6.mono HB5.out.size))
      have HX6 := Lib.hid (hp_later hb6 HX5.out)
      have HSN := Lib.hid (impl_schema_nil w6)
      clear hb6 hno
      go_wp2_with fail
      refine HSN.out.mono ?_
      rintro e w7 ⟨rfl, hb7⟩
      have HB7 := Lib.hid (HB6.out.trans (hb7.mono HB6.out.size))
      have HX7 := Lib.hid (hp_later hb7 HX6.out)
      clear hb7
      have z0 : (w7).cell? ⟨w2.heap.size, 0, none⟩ = some (.slice none 0 0) := by simp [World.cell?, HX7.out]
      have zf : (w7).frozen? ⟨w2.heap.size, 0, none⟩ = false := by simp [World.frozen?, HX7.out]
      have zy : ((w7).setCell ⟨w2.heap.size, 0, none⟩ (.slice none 0 0)).cell? ⟨w2.heap.size, 0, none⟩ = some (.slice none 0 0) := by simp [World.setCell, Array.getElem?_modify, HX7.out, World.cell?]
      go_wp2_with fail
      refine bodyPost_ret (v := .tuple #[.agg #[.slice none 0 0], .bool false]) (by simp [results, Try.results9, go_sem, zy]) rfl ?_
      exact meetoo_no HN.out (below_set HB7.out (show w.heap.size ≤ w2.heap.size by omega) 0 _)
    · have HN : Hid (meetB A D = (tellL t, goodT t)) := Lib.hid (meetB_some HGA.out HGD.out hyes)
      have hwf := meet_wf _ (Nat.le_refl _) (right_wf _ HR.out.1) (right_wf _ HR.out.2) hyes
      have hcn : countT t ≤ 1048576 := by
        have h1 : countT (treeOf A 0) * (1 + countT (treeOf D 0)) ≤ 30 * 31 := Nat.mul_le_mul n1 (by omega)
        omega
      have HB6 := Lib.hid (HB5.out.trans (hb6.mono HB5.out.size))
      have HX6 := Lib.hid (hp_later hb6 HX5.out)
      have HSN := Lib.hid (impl_schema hkt hcn)
      have hz6 : w2.heap.size < w6.heap.size := hp_lt HX6.out
      unfold TellO at HSN
      clear hb6 hyes hkt hwf
      generalize hgt : goodT t = GT at *
      go_wp2_with fail
      refine HSN.out.mono ?_
      rintro e w7 ⟨v, rfl, ho, hb7⟩
      have HB7 := Lib.hid (HB6.out.trans (hb7.mono HB6.out.size))
      have HX7 := Lib.hid (hp_later hb7 HX6.out)
      have HO7 := Lib.hid (own_mono (ownsRow_setCell_below ho (a := ⟨w2.heap.size, 0, none⟩) hz6 v) (show w.heap.size ≤ w6.heap.size by omega))
      obtain ⟨va, vc, rfl⟩ := form_of_own ho
      clear hb7 ho
      have z0 : (w7).cell? ⟨w2.heap.size, 0, none⟩ = some (.slice none 0 0) := by simp [World.cell?, HX7.out]
      have zf : (w7).frozen? ⟨w2.heap.size, 0, none⟩ = false := by simp [World.frozen?, HX7.out]
      have zy : ((w7).setCell ⟨w2.heap.size, 0, none⟩ (.slice va (tellL t).length vc)).cell? ⟨w2.heap.size, 0, none⟩ = some (.slice va (tellL t).length vc) := by simp [World.setCell, Array.getElem?_modify, HX7.out, World.cell?]
      go_wp2_with fail
      refine bodyPost_ret (v := .tuple #[.agg #[.slice va (tellL t).length vc], .bool GT]) (by simp [results, Try.results9, go_sem, zy]) rfl ?_
      rw [← hgt]
      exact meetoo_yes (by rw [hgt]; exact HN.out) HO7.out (below_set HB7.out (show w.heap.size ≤ w2.heap.size by omega) 0 _)
end Go.Proofs.Ytmlnecopbncdbaa
