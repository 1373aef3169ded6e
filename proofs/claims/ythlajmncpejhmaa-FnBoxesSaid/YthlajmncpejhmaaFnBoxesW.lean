/- The walk of FnBoxes: whatever the arguments, the call returns true and writes nothing that was there. -/
import Derived.Test.YthlajmncpejhmaaArgs
import Derived.Deep.RegionHeld3
import Derived.Test.YthlajmncpejhmaaBoxE
namespace Go.Proofs.Ythlajmncpejhmaa.fnBoxes
open Go.ChangeShapes Go.WideShapes Go.ChangeAt Go.RowKit
open Go.ChangeMaps (open_string shut_string)
set_option linter.unusedVariables false

theorem Try.infoBoxE : (Try.prog.info? 28).map (fun i => (i.zero, i.size, i.bytes)) = some (some (.agg #[.slice none 0 0]), 1, 24) := by kernel_rfl

set_option maxHeartbeats 4000000 in
set_option maxRecDepth 100000 in
theorem walk (w : World) (v0 : Value) (a0 : List UInt8) (w0 : IsBytes w v0 a0) (v1 : Value) (a1 : List UInt8) (w1 : IsBytes w v1 a1) :
    Calls Try.prog 8 #[v0, v1] w fun e w' => e = .returned (.bool true) ∧ Below w.heap.size w w' := by
  obtain ⟨i0, hi0, hz0, hz1, hz2⟩ := info_parts Try.infoBoxE
  obtain ⟨ca, cc, rfl, hr0, hl0, hm0⟩ := w0
  obtain ⟨ma, mc, rfl, hr1, hl1, hm1⟩ := w1
  unfold maxLen at hm0 hm1
  have HR0 := Lib.hid hr0; have HR1 := Lib.hid hr1
  clear hr0 hr1
  by_cases hsum : (1048576 : Int) < wrap64 ((a0.length : Int) + (a1.length : Int))
  case pos =>
    go_enter Try.func8, Try.ntmps8
    go_wp2_with fail
    go_ret
    exact ⟨rfl, Below.refl _ _⟩
  go_enter Try.func8, Try.ntmps8
  go_wp2_with fail
  refine (draw_boxCovers w ca cc a0 hl0 hm0 HR0.out.rb).mono ?_
  rintro e w1 ⟨qa, qb, c1, c2, a, b, rfl, ra, rb, ha3, hb3, hb⟩
  have hal1 : Below w1.heap.size w1 ((w1.alloc (.cells #[.slice qa a.length c1] 28)).alloc (.cells #[.slice qb b.length c2] 28)) := ((Below.refl _ _).alloc (Nat.le_refl _) _).alloc (by simp) _
  have HB := Lib.hid (rstep hb hal1)
  have RA := Lib.hid (kBox_ok.later ra hal1); have RB := Lib.hid (kBox_ok.later rb hal1)
  have ka : ((w1.alloc (.cells #[.slice qa a.length c1] 28)).alloc (.cells #[.slice qb b.length c2] 28)).cell? ⟨w1.heap.size, 0, none⟩ = some (.slice qa a.length c1) := by
    have h1 := ((Below.refl (w1.heap.size + 1) (w1.alloc (.cells #[.slice qa a.length c1] 28))).alloc (by simp) (.cells #[.slice qb b.length c2] 28)).cell (p := ⟨w1.heap.size, 0, none⟩) (Nat.lt_succ_self _)
    rw [h1, World.cell?_alloc_new]; rfl
  have kb : ((w1.alloc (.cells #[.slice qa a.length c1] 28)).alloc (.cells #[.slice qb b.length c2] 28)).cell? ⟨w1.heap.size + 1, 0, none⟩ = some (.slice qb b.length c2) := by simp
  have HA3 := Lib.hid ha3; have HB3 := Lib.hid hb3
  clear hb hal1 ra rb ha3 hb3 hsum
  have hwt : kBox.wt a + kBox.wt b ≤ 1048576 := by rw [box_wt HA3.out, box_wt HB3.out]; omega
  have HC1 := Lib.hid (fun wx h1 h2 => impl_BoxCovers wx [.slice qa a.length c1] [.slice qb b.length c2] a b h1 h2)
  have HC2 := Lib.hid (fun wx h1 h2 => spec_BoxCovers wx [.slice qa a.length c1] [.slice qb b.length c2] a b h1 h2)
  have HC3 := Lib.hid (fun wx h1 h2 => impl_HullOf wx [.slice qa a.length c1] [.slice qb b.length c2] a b h1 h2 hwt)
  have HC4 := Lib.hid (fun wx h1 h2 => spec_HullOf wx [.slice qa a.length c1] [.slice qb b.length c2] a b h1 h2 hwt)
  have HC5 := Lib.hid (fun wx h1 h2 => impl_MeetBoxes wx [.slice qa a.length c1] [.slice qb b.length c2] a b h1 h2 hwt)
  have HC6 := Lib.hid (fun wx h1 h2 => spec_MeetBoxes wx [.slice qa a.length c1] [.slice qb b.length c2] a b h1 h2 hwt)
  have HSIX := Lib.hid (fun p (hp : pointR p = true) (hok : (R_BoxCovers a b).2 = true) => six_of (a := a) (b := b) hp hok)
  have hhl := hull_len (a := a) (b := b); have hml := meet_len (a := a) (b := b)
  clear hwt
  generalize R_BoxCovers a b = RC at *
  generalize R_HullOf a b = RH at *
  generalize R_MeetBoxes a b = RM at *
  obtain ⟨is, ok⟩ := RC
  obtain ⟨h, on1⟩ := RH
  obtain ⟨m, two⟩ := RM
  have HHL : Hid (h.length ≤ 3) := Lib.hid hhl
  have HML : Hid (m.length ≤ 3) := Lib.hid hml
  clear hhl hml
  go_wp2_with fail
  generalize (w1.alloc (.cells #[.slice qa a.length c1] 28)).alloc (.cells #[.slice qb b.length c2] 28) = w2 at *
  generalize w1.heap.size = pa at *
  refine (HC1.out w2 RA.out RB.out).mono ?_
  rintro e w3 ⟨rfl, hb⟩
  replace ka := below_later hb ka; replace kb := below_later hb kb
  replace RA := Lib.hid (kBox_ok.later RA.out hb); replace RB := Lib.hid (kBox_ok.later RB.out hb)
  replace HB := Lib.hid (rstep HB.out hb)
  clear hb
  go_wp2_with fail
  refine (HC2.out w3 RA.out RB.out).mono ?_
  rintro e w4 ⟨rfl, hb⟩
  replace ka := below_later hb ka; replace kb := below_later hb kb
  replace RA := Lib.hid (kBox_ok.later RA.out hb); replace RB := Lib.hid (kBox_ok.later RB.out hb)
  replace HB := Lib.hid (rstep HB.out hb)
  clear hb
  go_wp2_with fail
  refine (HC3.out w4 RA.out RB.out).mono ?_
  rintro e wz hm
  obtain ⟨csz, he, hrd, hb⟩ := hm.reads kBox_ok
  obtain ⟨qh, ch, rfl⟩ := box_form1 hrd
  change e = .returned (.tuple #[.agg #[.slice qh (h).length ch], .bool on1]) at he
  subst he
  replace hrd : kBox.rd wz.heap.size wz [.slice qh (h).length ch] h := hrd
  have hal := hb.alloc hb.size (.cells #[.slice qh (h).length ch] 28)
  have kh : (wz.alloc (.cells #[.slice qh (h).length ch] 28)).cell? ⟨wz.heap.size, 0, none⟩ = some (.slice qh (h).length ch) := by rw [World.cell?_alloc_new]; rfl
  have RH := Lib.hid (kBox_ok.later hrd ((Below.refl wz.heap.size wz).alloc (Nat.le_refl _) (.cells #[.slice qh (h).length ch] 28)))
  replace ka := below_later hal ka; replace kb := below_later hal kb
  replace RA := Lib.hid (kBox_ok.later RA.out hal); replace RB := Lib.hid (kBox_ok.later RB.out hal)
  replace HB := Lib.hid (rstep HB.out hal)
  clear hm hrd hb hal
  go_wp2_with fail
  generalize wz.alloc (.cells #[.slice qh (h).length ch] 28) = w5 at *
  generalize wz.heap.size = ph at *
  refine (HC4.out w5 RA.out RB.out).mono ?_
  rintro e wz hm
  obtain ⟨csz, he, hrd, hb⟩ := hm.reads kBox_ok
  obtain ⟨qh2, ch2, rfl⟩ := box_form1 hrd
  change e = .returned (.tuple #[.agg #[.slice qh2 (h).length ch2], .bool on1]) at he
  subst he
  replace hrd : kBox.rd wz.heap.size wz [.slice qh2 (h).length ch2] h := hrd
  have hal := hb.alloc hb.size (.cells #[.slice qh2 (h).length ch2] 28)
  have kh2 : (wz.alloc (.cells #[.slice qh2 (h).length ch2] 28)).cell? ⟨wz.heap.size, 0, none⟩ = some (.slice qh2 (h).length ch2) := by rw [World.cell?_alloc_new]; rfl
  have RH2 := Lib.hid (kBox_ok.later hrd ((Below.refl wz.heap.size wz).alloc (Nat.le_refl _) (.cells #[.slice qh2 (h).length ch2] 28)))
  replace ka := below_later hal ka; replace kb := below_later hal kb; replace kh := below_later hal kh; replace RH := Lib.hid (kBox_ok.later RH.out hal)
  replace RA := Lib.hid (kBox_ok.later RA.out hal); replace RB := Lib.hid (kBox_ok.later RB.out hal)
  replace HB := Lib.hid (rstep HB.out hal)
  clear hm hrd hb hal
  go_wp2_with fail
  generalize wz.alloc (.cells #[.slice qh2 (h).length ch2] 28) = w6 at *
  generalize wz.heap.size = ph2 at *
  refine (HC5.out w6 RA.out RB.out).mono ?_
  rintro e wz hm
  obtain ⟨csz, he, hrd, hb⟩ := hm.reads kBox_ok
  obtain ⟨qm, cm, rfl⟩ := box_form1 hrd
  change e = .returned (.tuple #[.agg #[.slice qm (m).length cm], .bool two]) at he
  subst he
  replace hrd : kBox.rd wz.heap.size wz [.slice qm (m).length cm] m := hrd
  have hal := hb.alloc hb.size (.cells #[.slice qm (m).length cm] 28)
  have km : (wz.alloc (.cells #[.slice qm (m).length cm] 28)).cell? ⟨wz.heap.size, 0, none⟩ = some (.slice qm (m).length cm) := by rw [World.cell?_alloc_new]; rfl
  have RM := Lib.hid (kBox_ok.later hrd ((Below.refl wz.heap.size wz).alloc (Nat.le_refl _) (.cells #[.slice qm (m).length cm] 28)))
  replace ka := below_later hal ka; replace kb := below_later hal kb; replace kh := below_later hal kh; replace kh2 := below_later hal kh2; replace RH := Lib.hid (kBox_ok.later RH.out hal); replace RH2 := Lib.hid (kBox_ok.later RH2.out hal)
  replace RA := Lib.hid (kBox_ok.later RA.out hal); replace RB := Lib.hid (kBox_ok.later RB.out hal)
  replace HB := Lib.hid (rstep HB.out hal)
  clear hm hrd hb hal
  go_wp2_with fail
  generalize wz.alloc (.cells #[.slice qm (m).length cm] 28) = w7 at *
  generalize wz.heap.size = pm at *
  refine (HC6.out w7 RA.out RB.out).mono ?_
  rintro e wz hm
  obtain ⟨csz, he, hrd, hb⟩ := hm.reads kBox_ok
  obtain ⟨qm2, cm2, rfl⟩ := box_form1 hrd
  change e = .returned (.tuple #[.agg #[.slice qm2 (m).length cm2], .bool two]) at he
  subst he
  replace hrd : kBox.rd wz.heap.size wz [.slice qm2 (m).length cm2] m := hrd
  have hal := hb.alloc hb.size (.cells #[.slice qm2 (m).length cm2] 28)
  have km2 : (wz.alloc (.cells #[.slice qm2 (m).length cm2] 28)).cell? ⟨wz.heap.size, 0, none⟩ = some (.slice qm2 (m).length cm2) := by rw [World.cell?_alloc_new]; rfl
  have RM2 := Lib.hid (kBox_ok.later hrd ((Below.refl wz.heap.size wz).alloc (Nat.le_refl _) (.cells #[.slice qm2 (m).length cm2] 28)))
  replace ka := below_later hal ka; replace kb := below_later hal kb; replace kh := below_later hal kh; replace kh2 := below_later hal kh2; replace km := below_later hal km; replace RH := Lib.hid (kBox_ok.later RH.out hal); replace RH2 := Lib.hid (kBox_ok.later RH2.out hal); replace RM := Lib.hid (kBox_ok.later RM.out hal)
  replace RA := Lib.hid (kBox_ok.later RA.out hal); replace RB := Lib.hid (kBox_ok.later RB.out hal)
  replace HB := Lib.hid (rstep HB.out hal)
  clear hm hrd hb hal
  go_wp2_with fail
  generalize wz.alloc (.cells #[.slice qm2 (m).length cm2] 28) = w8 at *
  generalize wz.heap.size = pm2 at *
  clear HC1 HC2 HC3 HC4 HC5 HC6
  have HALL : Hid (∀ wx, Below w8.heap.size w8 wx → wx.cell? ⟨pa, 0, none⟩ = some (.slice qa a.length c1) ∧ wx.cell? ⟨pa + 1, 0, none⟩ = some (.slice qb b.length c2) ∧ wx.cell? ⟨ph, 0, none⟩ = some (.slice qh h.length ch) ∧ wx.cell? ⟨ph2, 0, none⟩ = some (.slice qh2 h.length ch2) ∧ wx.cell? ⟨pm, 0, none⟩ = some (.slice qm m.length cm) ∧ wx.cell? ⟨pm2, 0, none⟩ = some (.slice qm2 m.length cm2)) := Lib.hid fun wx hb => ⟨below_later hb ka, below_later hb kb, below_later hb kh, below_later hb kh2, below_later hb km, below_later hb km2⟩
  have HS1 : Hid (∀ wx, Below w8.heap.size w8 wx → Calls Try.prog 35 #[.agg #[.slice qh h.length ch], .agg #[.slice qh2 h.length ch2]] wx fun e w' => e = .returned (.bool true) ∧ Below wx.heap.size wx w') := Lib.hid fun wx hb => by
    have h1 := same_box qh qh2 ch ch2 h h wx (box_rw (kBox_ok.later RH.out hb)) (box_rw (kBox_ok.later RH2.out hb)) (by have := HHL.out; omega) (by have := HHL.out; omega)
    rwa [decide_eq_true (rfl : h = h)] at h1
  have HS2 : Hid (∀ wx, Below w8.heap.size w8 wx → Calls Try.prog 35 #[.agg #[.slice qm m.length cm], .agg #[.slice qm2 m.length cm2]] wx fun e w' => e = .returned (.bool true) ∧ Below wx.heap.size wx w') := Lib.hid fun wx hb => by
    have h1 := same_box qm qm2 cm cm2 m m wx (box_rw (kBox_ok.later RM.out hb)) (box_rw (kBox_ok.later RM2.out hb)) (by have := HML.out; omega) (by have := HML.out; omega)
    rwa [decide_eq_true (rfl : m = m)] at h1
  have HS3 := Lib.hid (fun wx (hb : Below w8.heap.size w8 wx) => same_box qh qa ch c1 h a wx (box_rw (kBox_ok.later RH.out hb)) (box_rw (kBox_ok.later RA.out hb)) (by have := HHL.out; omega) (by have := HA3.out; omega))
  have HG1 := Lib.hid (fun wx (hb : Below w8.heap.size w8 wx) => impl_goodBox qa c1 a wx (box_rw (kBox_ok.later RA.out hb)) (by have := HA3.out; omega))
  have HG2 := Lib.hid (fun wx (hb : Below w8.heap.size w8 wx) => spec_goodBox qa c1 a wx (box_rw (kBox_ok.later RA.out hb)) (by have := HA3.out; omega))
  generalize GoodR a = ga at HG1 HG2
  have HD8 : Hid (Below w8.heap.size w8 w8.drew) := Lib.hid (rdrew (Below.refl _ _) 1)
  have k8 := HALL.out _ HD8.out
  have b1 : (ok != ok) = false := by cases ok <;> rfl
  have b2 : (is != is) = false := by cases is <;> rfl
  have b3 : (on1 != on1) = false := by cases on1 <;> rfl
  have b4 : (two != two) = false := by cases two <;> rfl
  have b5 : (ga != ga) = false := by cases ga <;> rfl
  clear ka kb kh kh2 km km2
  go_upto_region 10 with fail
  go_cut [128] (fun s128 wx => s128 = .bool false ∧ Hid (Below w8.heap.size w8 wx))
  case first =>
    as_aux_lemma =>
      refine wp_region_G [34] (fun w' => w'.cell? ⟨pa, 0, none⟩ = some (.slice qa a.length c1) ∧ w'.cell? ⟨pa + 1, 0, none⟩ = some (.slice qb b.length c2) ∧ w'.cell? ⟨ph, 0, none⟩ = some (.slice qh h.length ch) ∧ w'.cell? ⟨ph2, 0, none⟩ = some (.slice qh2 h.length ch2) ∧ w'.cell? ⟨pm, 0, none⟩ = some (.slice qm m.length cm) ∧ w'.cell? ⟨pm2, 0, none⟩ = some (.slice qm2 m.length cm2)) (by kernel_rfl) ?_ (fun hHeld => ?_)
      · exact k8
      refine wpG_pure (i := 0) (oi := { dst := some 92, op := Go.Op.move (Go.Operand.tmp 8), type := 4, pos := "laws.go:775", after := #[], guard := none }) (v := ?vg1) rfl (by kernel_rfl) (fun _ _ _ h => h) (Or.inr hHeld) (Or.inl ⟨by rfl, ?yg1⟩) ?_
      case yg1 => (intro wS _; go_simp <;> with_reducible rfl)
      try simp only [Act.put, List.setIfInBounds_toArray, List.set_cons_zero, List.set_cons_succ]
      refine wpG_pure (i := 1) (oi := { dst := some 93, op := Go.Op.move (Go.Operand.tmp 10), type := 4, pos := "laws.go:775", after := #[], guard := none }) (v := ?vg2) rfl (by kernel_rfl) (fun _ _ _ h => h) (Or.inr hHeld) (Or.inl ⟨by rfl, ?yg2⟩) ?_
      case yg2 => (intro wS _; go_simp <;> with_reducible rfl)
      try simp only [Act.put, List.setIfInBounds_toArray, List.set_cons_zero, List.set_cons_succ]
      refine wpG_pure (i := 2) (oi := { dst := some 94, op := Go.Op.binOp Go.BinOp.neq 4 (Go.Operand.tmp 92) (Go.Operand.tmp 93) 4, type := 4, pos := "laws.go:775", after := #[{ on := 0, ground := Go.Ground.data }, { on := 1, ground := Go.Ground.data }], guard := none }) (v := ?vg3) rfl (by kernel_rfl) (fun _ _ _ h => h) (Or.inr hHeld) (Or.inl ⟨by rfl, ?yg3⟩) ?_
      case yg3 => (intro wS _; go_simp <;> with_reducible rfl)
      try simp only [Act.put, List.setIfInBounds_toArray, List.set_cons_zero, List.set_cons_succ]
      refine wpG_pure (i := 3) (oi := { dst := some 95, op := Go.Op.move (Go.Operand.tmp 94), type := 4, pos := "laws.go:775", after := #[{ on := 2, ground := Go.Ground.data }], guard := none }) (v := ?vg4) rfl (by kernel_rfl) (fun _ _ _ h => h) (Or.inr hHeld) (Or.inl ⟨by rfl, ?yg4⟩) ?_
      case yg4 => (intro wS _; go_simp <;> with_reducible rfl)
      try simp only [Act.put, List.setIfInBounds_toArray, List.set_cons_zero, List.set_cons_succ]
      refine wpG_pure (i := 4) (oi := { dst := some 96, op := Go.Op.move (Go.Operand.tmp 7), type := 4, pos := "laws.go:775", after := #[{ on := 3, ground := Go.Ground.guard }], guard := some (3, false) }) (v := ?vg5) rfl (by kernel_rfl) (fun _ _ _ h => h) (Or.inr hHeld) (Or.inl ⟨by rfl, ?yg5⟩) ?_
      case yg5 => (intro wS _; go_simp <;> with_reducible rfl)
      try simp only [Act.put, List.setIfInBounds_toArray, List.set_cons_zero, List.set_cons_succ]
      refine wpG_pure (i := 5) (oi := { dst := some 97, op := Go.Op.move (Go.Operand.tmp 9), type := 4, pos := "laws.go:775", after := #[{ on := 3, ground := Go.Ground.guard }], guard := some (3, false) }) (v := ?vg6) rfl (by kernel_rfl) (fun _ _ _ h => h) (Or.inr hHeld) (Or.inl ⟨by rfl, ?yg6⟩) ?_
      case yg6 => (intro wS _; go_simp <;> with_reducible rfl)
      try simp only [Act.put, List.setIfInBounds_toArray, List.set_cons_zero, List.set_cons_succ]
      refine wpG_pure (i := 6) (oi := { dst := some 98, op := Go.Op.binOp Go.BinOp.neq 4 (Go.Operand.tmp 96) (Go.Operand.tmp 97) 4, type := 4, pos := "laws.go:775", after := #[{ on := 4, ground := Go.Ground.data }, { on := 5, ground := Go.Ground.data }, { on := 3, ground := Go.Ground.guard }], guard := some (3, false) }) (v := ?vg7) rfl (by kernel_rfl) (fun _ _ _ h => h) (Or.inr hHeld) (Or.inl ⟨by rfl, ?yg7⟩) ?_
      case yg7 => (intro wS _; go_simp <;> with_reducible rfl)
      try simp only [Act.put, List.setIfInBounds_toArray, List.set_cons_zero, List.set_cons_succ]
      refine wpG_pure (i := 7) (oi := { dst := some 99, op := Go.Op.pick (Go.Operand.tmp 95) (Go.Operand.const (Go.Value.bool true)) (Go.Operand.tmp 98), type := 4, pos := "laws.go:775", after := #[{ on := 3, ground := Go.Ground.data }, { on := 6, ground := Go.Ground.data }], guard := none }) (v := ?vg8) rfl (by kernel_rfl) (fun _ _ _ h => h) (Or.inr hHeld) (Or.inl ⟨by rfl, ?yg8⟩) ?_
      case yg8 => (intro wS _; go_simp <;> with_reducible rfl)
      try simp only [Act.put, List.setIfInBounds_toArray, List.set_cons_zero, List.set_cons_succ]
      refine wpG_pure (i := 8) (oi := { dst := some 100, op := Go.Op.move (Go.Operand.tmp 99), type := 4, pos := "laws.go:775", after := #[{ on := 7, ground := Go.Ground.data }, { on := 3, ground := Go.Ground.chain }], guard := none }) (v := ?vg9) rfl (by kernel_rfl) (fun _ _ _ h => h) (Or.inr hHeld) (Or.inl ⟨by rfl, ?yg9⟩) ?_
      case yg9 => (intro wS _; go_simp <;> with_reducible rfl)
      try simp only [Act.put, List.setIfInBounds_toArray, List.set_cons_zero, List.set_cons_succ]
      refine wpG_pure (i := 9) (oi := { dst := some 101, op := Go.Op.move (Go.Operand.tmp 12), type := 4, pos := "laws.go:775", after := #[{ on := 8, ground := Go.Ground.guard }], guard := some (8, false) }) (v := ?vg10) rfl (by kernel_rfl) (fun _ _ _ h => h) (Or.inr hHeld) (Or.inl ⟨by rfl, ?yg10⟩) ?_
      case yg10 => (intro wS _; go_simp <;> with_reducible rfl)
      try simp only [Act.put, List.setIfInBounds_toArray, List.set_cons_zero, List.set_cons_succ]
      refine wpG_pure (i := 10) (oi := { dst := some 102, op := Go.Op.move (Go.Operand.tmp 14), type := 4, pos := "laws.go:775", after := #[{ on := 8, ground := Go.Ground.guard }], guard := some (8, false) }) (v := ?vg11) rfl (by kernel_rfl) (fun _ _ _ h => h) (Or.inr hHeld) (Or.inl ⟨by rfl, ?yg11⟩) ?_
      case yg11 => (intro wS _; go_simp <;> with_reducible rfl)
      try simp only [Act.put, List.setIfInBounds_toArray, List.set_cons_zero, List.set_cons_succ]
      refine wpG_pure (i := 11) (oi := { dst := some 103, op := Go.Op.binOp Go.BinOp.neq 4 (Go.Operand.tmp 101) (Go.Operand.tmp 102) 4, type := 4, pos := "laws.go:775", after := #[{ on := 9, ground := Go.Ground.data }, { on := 10, ground := Go.Ground.data }, { on := 8, ground := Go.Ground.guard }], guard := some (8, false) }) (v := ?vg12) rfl (by kernel_rfl) (fun _ _ _ h => h) (Or.inr hHeld) (Or.inl ⟨by rfl, ?yg12⟩) ?_
      case yg12 => (intro wS _; go_simp <;> with_reducible rfl)
      try simp only [Act.put, List.setIfInBounds_toArray, List.set_cons_zero, List.set_cons_succ]
      refine wpG_pure (i := 12) (oi := { dst := some 104, op := Go.Op.pick (Go.Operand.tmp 100) (Go.Operand.const (Go.Value.bool true)) (Go.Operand.tmp 103), type := 4, pos := "laws.go:775", after := #[{ on := 8, ground := Go.Ground.data }, { on := 11, ground := Go.Ground.data }], guard := none }) (v := ?vg13) rfl (by kernel_rfl) (fun _ _ _ h => h) (Or.inr hHeld) (Or.inl ⟨by rfl, ?yg13⟩) ?_
      case yg13 => (intro wS _; go_simp <;> with_reducible rfl)
      try simp only [Act.put, List.setIfInBounds_toArray, List.set_cons_zero, List.set_cons_succ]
      refine wpG_pure (i := 13) (oi := { dst := some 105, op := Go.Op.move (Go.Operand.tmp 104), type := 4, pos := "laws.go:775", after := #[{ on := 12, ground := Go.Ground.data }, { on := 8, ground := Go.Ground.chain }], guard := none }) (v := ?vg14) rfl (by kernel_rfl) (fun _ _ _ h => h) (Or.inr hHeld) (Or.inl ⟨by rfl, ?yg14⟩) ?_
      case yg14 => (intro wS _; go_simp <;> with_reducible rfl)
      try simp only [Act.put, List.setIfInBounds_toArray, List.set_cons_zero, List.set_cons_succ]
      refine wpG_load (i := 14) (oi := { dst := some 106, op := Go.Op.load 28 (Go.Operand.tmp 11), type := 28, pos := "laws.go:775", after := #[{ on := 13, ground := Go.Ground.guard }], guard := some (13, false) }) (v := ?vg15) [[34, 30, 29, 24, 19, 16, 14]] rfl (by kernel_rfl) (fun _ _ _ h => h) hHeld (Or.inl ⟨by rfl, ?yg15⟩) ?_
      case yg15 => (intro wS hSw; (try dsimp only at hSw); go_simp <;> with_reducible rfl)
      try simp only [Act.put, List.setIfInBounds_toArray, List.set_cons_zero, List.set_cons_succ]
      refine wpG_load (i := 15) (oi := { dst := some 107, op := Go.Op.load 28 (Go.Operand.tmp 13), type := 28, pos := "laws.go:775", after := #[{ on := 13, ground := Go.Ground.guard }], guard := some (13, false) }) (v := ?vg16) [[34, 30, 29, 24, 19, 16, 15]] rfl (by kernel_rfl) (fun _ _ _ h => h) hHeld (Or.inl ⟨by rfl, ?yg16⟩) ?_
      case yg16 => (intro wS hSw; (try dsimp only at hSw); go_simp <;> with_reducible rfl)
      try simp only [Act.put, List.setIfInBounds_toArray, List.set_cons_zero, List.set_cons_succ]
      refine wpG_one (i := 16) (o := { dst := some 108, op := Go.Op.call { callee := Go.Callee.value (Go.Operand.func 35), args := #[Go.Operand.tmp 106, Go.Operand.tmp 107], argTypes := #[28, 28] }, type := 4, pos := "laws.go:775", after := #[{ on := 14, ground := Go.Ground.data }, { on := 15, ground := Go.Ground.data }, { on := 13, ground := Go.Ground.chain }, { on := 13, ground := Go.Ground.guard }], guard := some (13, false) }) rfl (by kernel_rfl) (fun K hK => ?_)
      go_simp
      refine (HS1.out _ HD8.out).mono ?_
      rintro e wa ⟨rfl, hb⟩
      have HBa := Lib.hid (rstep HD8.out hb); clear hb
      refine hK.out _ _ (Or.inr ?khHeld17) (fun hHeld17S => ?_)
      case khHeld17 => exact HALL.out _ HBa.out
      have hHeld17 := hHeld17S.held (by kernel_rfl)
      clear hK K
      try simp only [Act.put, List.setIfInBounds_toArray, List.set_cons_zero, List.set_cons_succ]
      refine wpG_pure (i := 17) (oi := { dst := some 109, op := Go.Op.unOp Go.UnOp.not 4 (Go.Operand.tmp 108), type := 4, pos := "laws.go:775", after := #[{ on := 16, ground := Go.Ground.data }, { on := 13, ground := Go.Ground.guard }], guard := some (13, false) }) (v := ?vg18) rfl (by kernel_rfl) (fun _ _ _ h => h) (Or.inr hHeld17) (Or.inl ⟨by rfl, ?yg18⟩) ?_
      case yg18 => (intro wS _; go_simp <;> with_reducible rfl)
      try simp only [Act.put, List.setIfInBounds_toArray, List.set_cons_zero, List.set_cons_succ]
      refine wpG_pure (i := 18) (oi := { dst := some 110, op := Go.Op.pick (Go.Operand.tmp 105) (Go.Operand.const (Go.Value.bool true)) (Go.Operand.tmp 109), type := 4, pos := "laws.go:775", after := #[{ on := 13, ground := Go.Ground.data }, { on := 17, ground := Go.Ground.data }], guard := none }) (v := ?vg19) rfl (by kernel_rfl) (fun _ _ _ h => h) (Or.inr hHeld17) (Or.inl ⟨by rfl, ?yg19⟩) ?_
      case yg19 => (intro wS _; go_simp <;> with_reducible rfl)
      try simp only [Act.put, List.setIfInBounds_toArray, List.set_cons_zero, List.set_cons_succ]
      refine wpG_pure (i := 19) (oi := { dst := some 111, op := Go.Op.move (Go.Operand.tmp 110), type := 4, pos := "laws.go:775", after := #[{ on := 18, ground := Go.Ground.data }, { on := 16, ground := Go.Ground.chain }], guard := none }) (v := ?vg20) rfl (by kernel_rfl) (fun _ _ _ h => h) (Or.inr hHeld17) (Or.inl ⟨by rfl, ?yg20⟩) ?_
      case yg20 => (intro wS _; go_simp <;> with_reducible rfl)
      try simp only [Act.put, List.setIfInBounds_toArray, List.set_cons_zero, List.set_cons_succ]
      refine wpG_pure (i := 20) (oi := { dst := some 112, op := Go.Op.move (Go.Operand.tmp 16), type := 4, pos := "laws.go:775", after := #[{ on := 19, ground := Go.Ground.guard }], guard := some (19, false) }) (v := ?vg21) rfl (by kernel_rfl) (fun _ _ _ h => h) (Or.inr hHeld17) (Or.inl ⟨by rfl, ?yg21⟩) ?_
      case yg21 => (intro wS _; go_simp <;> with_reducible rfl)
      try simp only [Act.put, List.setIfInBounds_toArray, List.set_cons_zero, List.set_cons_succ]
      refine wpG_pure (i := 21) (oi := { dst := some 113, op := Go.Op.move (Go.Operand.tmp 18), type := 4, pos := "laws.go:775", after := #[{ on := 19, ground := Go.Ground.guard }], guard := some (19, false) }) (v := ?vg22) rfl (by kernel_rfl) (fun _ _ _ h => h) (Or.inr hHeld17) (Or.inl ⟨by rfl, ?yg22⟩) ?_
      case yg22 => (intro wS _; go_simp <;> with_reducible rfl)
      try simp only [Act.put, List.setIfInBounds_toArray, List.set_cons_zero, List.set_cons_succ]
      refine wpG_pure (i := 22) (oi := { dst := some 114, op := Go.Op.binOp Go.BinOp.neq 4 (Go.Operand.tmp 112) (Go.Operand.tmp 113) 4, type := 4, pos := "laws.go:775", after := #[{ on := 20, ground := Go.Ground.data }, { on := 21, ground := Go.Ground.data }, { on := 19, ground := Go.Ground.guard }], guard := some (19, false) }) (v := ?vg23) rfl (by kernel_rfl) (fun _ _ _ h => h) (Or.inr hHeld17) (Or.inl ⟨by rfl, ?yg23⟩) ?_
      case yg23 => (intro wS _; go_simp <;> with_reducible rfl)
      try simp only [Act.put, List.setIfInBounds_toArray, List.set_cons_zero, List.set_cons_succ]
      refine wpG_pure (i := 23) (oi := { dst := some 115, op := Go.Op.pick (Go.Operand.tmp 111) (Go.Operand.const (Go.Value.bool true)) (Go.Operand.tmp 114), type := 4, pos := "laws.go:775", after := #[{ on := 19, ground := Go.Ground.data }, { on := 22, ground := Go.Ground.data }], guard := none }) (v := ?vg24) rfl (by kernel_rfl) (fun _ _ _ h => h) (Or.inr hHeld17) (Or.inl ⟨by rfl, ?yg24⟩) ?_
      case yg24 => (intro wS _; go_simp <;> with_reducible rfl)
      try simp only [Act.put, List.setIfInBounds_toArray, List.set_cons_zero, List.set_cons_succ]
      refine wpG_pure (i := 24) (oi := { dst := some 116, op := Go.Op.move (Go.Operand.tmp 115), type := 4, pos := "laws.go:775", after := #[{ on := 23, ground := Go.Ground.data }, { on := 19, ground := Go.Ground.chain }], guard := none }) (v := ?vg25) rfl (by kernel_rfl) (fun _ _ _ h => h) (Or.inr hHeld17) (Or.inl ⟨by rfl, ?yg25⟩) ?_
      case yg25 => (intro wS _; go_simp <;> with_reducible rfl)
      try simp only [Act.put, List.setIfInBounds_toArray, List.set_cons_zero, List.set_cons_succ]
      refine wpG_load (i := 25) (oi := { dst := some 117, op := Go.Op.load 28 (Go.Operand.tmp 15), type := 28, pos := "laws.go:775", after := #[{ on := 24, ground := Go.Ground.guard }], guard := some (24, false) }) (v := ?vg26) [[34, 30, 27, 25]] rfl (by kernel_rfl) (fun _ _ _ h => h) hHeld17 (Or.inl ⟨by rfl, ?yg26⟩) ?_
      case yg26 => (intro wS hSw; (try dsimp only at hSw); go_simp <;> with_reducible rfl)
      try simp only [Act.put, List.setIfInBounds_toArray, List.set_cons_zero, List.set_cons_succ]
      refine wpG_load (i := 26) (oi := { dst := some 118, op := Go.Op.load 28 (Go.Operand.tmp 17), type := 28, pos := "laws.go:775", after := #[{ on := 24, ground := Go.Ground.guard }], guard := some (24, false) }) (v := ?vg27) [[34, 30, 27, 26]] rfl (by kernel_rfl) (fun _ _ _ h => h) hHeld17 (Or.inl ⟨by rfl, ?yg27⟩) ?_
      case yg27 => (intro wS hSw; (try dsimp only at hSw); go_simp <;> with_reducible rfl)
      try simp only [Act.put, List.setIfInBounds_toArray, List.set_cons_zero, List.set_cons_succ]
      refine wpG_one (i := 27) (o := { dst := some 119, op := Go.Op.call { callee := Go.Callee.value (Go.Operand.func 35), args := #[Go.Operand.tmp 117, Go.Operand.tmp 118], argTypes := #[28, 28] }, type := 4, pos := "laws.go:775", after := #[{ on := 25, ground := Go.Ground.data }, { on := 26, ground := Go.Ground.data }, { on := 24, ground := Go.Ground.chain }, { on := 24, ground := Go.Ground.guard }], guard := some (24, false) }) rfl (by kernel_rfl) (fun K hK => ?_)
      go_simp
      refine (HS2.out _ HBa.out).mono ?_
      rintro e wb ⟨rfl, hb⟩
      have HBb := Lib.hid (rstep HBa.out hb); clear hb
      refine hK.out _ _ (Or.inr ?khHeld28) (fun hHeld28S => ?_)
      case khHeld28 => exact HALL.out _ HBb.out
      have hHeld28 := hHeld28S.held (by kernel_rfl)
      clear hK K
      try simp only [Act.put, List.setIfInBounds_toArray, List.set_cons_zero, List.set_cons_succ]
      refine wpG_pure (i := 28) (oi := { dst := some 120, op := Go.Op.unOp Go.UnOp.not 4 (Go.Operand.tmp 119), type := 4, pos := "laws.go:775", after := #[{ on := 27, ground := Go.Ground.data }, { on := 24, ground := Go.Ground.guard }], guard := some (24, false) }) (v := ?vg29) rfl (by kernel_rfl) (fun _ _ _ h => h) (Or.inr hHeld28) (Or.inl ⟨by rfl, ?yg29⟩) ?_
      case yg29 => (intro wS _; go_simp <;> with_reducible rfl)
      try simp only [Act.put, List.setIfInBounds_toArray, List.set_cons_zero, List.set_cons_succ]
      refine wpG_pure (i := 29) (oi := { dst := some 121, op := Go.Op.pick (Go.Operand.tmp 116) (Go.Operand.const (Go.Value.bool true)) (Go.Operand.tmp 120), type := 4, pos := "laws.go:775", after := #[{ on := 24, ground := Go.Ground.data }, { on := 28, ground := Go.Ground.data }], guard := none }) (v := ?vg30) rfl (by kernel_rfl) (fun _ _ _ h => h) (Or.inr hHeld28) (Or.inl ⟨by rfl, ?yg30⟩) ?_
      case yg30 => (intro wS _; go_simp <;> with_reducible rfl)
      try simp only [Act.put, List.setIfInBounds_toArray, List.set_cons_zero, List.set_cons_succ]
      refine wpG_pure (i := 30) (oi := { dst := some 122, op := Go.Op.move (Go.Operand.tmp 121), type := 4, pos := "laws.go:775", after := #[{ on := 29, ground := Go.Ground.data }, { on := 27, ground := Go.Ground.chain }], guard := none }) (v := ?vg31) rfl (by kernel_rfl) (fun _ _ _ h => h) (Or.inr hHeld28) (Or.inl ⟨by rfl, ?yg31⟩) ?_
      case yg31 => (intro wS _; go_simp <;> with_reducible rfl)
      try simp only [Act.put, List.setIfInBounds_toArray, List.set_cons_zero, List.set_cons_succ]
      refine wpG_load (i := 31) (oi := { dst := some 123, op := Go.Op.load 28 (Go.Operand.tmp 5), type := 28, pos := "laws.go:775", after := #[{ on := 30, ground := Go.Ground.guard }], guard := some (30, false) }) (v := ?vg32) [[34, 32, 31]] rfl (by kernel_rfl) (fun _ _ _ h => h) hHeld28 (Or.inl ⟨by rfl, ?yg32⟩) ?_
      case yg32 => (intro wS hSw; (try dsimp only at hSw); go_simp <;> with_reducible rfl)
      try simp only [Act.put, List.setIfInBounds_toArray, List.set_cons_zero, List.set_cons_succ]
      refine wpG_load (i := 33) (oi := { dst := some 125, op := Go.Op.load 28 (Go.Operand.tmp 5), type := 28, pos := "laws.go:775", after := #[{ on := 30, ground := Go.Ground.guard }], guard := some (30, false) }) (v := ?vg33) [[34, 33]] rfl (by kernel_rfl) (fun _ _ _ h => h) hHeld28 (Or.inl ⟨by rfl, ?yg33⟩) ?_
      case yg33 => (intro wS hSw; (try dsimp only at hSw); go_simp <;> with_reducible rfl)
      try simp only [Act.put, List.setIfInBounds_toArray, List.set_cons_zero, List.set_cons_succ]
      refine wpG_one (i := 32) (o := { dst := some 124, op := Go.Op.call { callee := Go.Callee.value (Go.Operand.func 36), args := #[Go.Operand.tmp 123], argTypes := #[28] }, type := 4, pos := "laws.go:775", after := #[{ on := 31, ground := Go.Ground.data }, { on := 30, ground := Go.Ground.chain }, { on := 30, ground := Go.Ground.guard }], guard := some (30, false) }) rfl (by kernel_rfl) (fun K hK => ?_)
      go_simp
      refine (HG1.out _ HBb.out).mono ?_
      rintro e wc ⟨rfl, hb⟩
      have HBc := Lib.hid (rstep HBb.out hb); clear hb
      refine hK.out _ _ (Or.inr ?khHeld34) (fun hHeld34S => ?_)
      case khHeld34 => exact HALL.out _ HBc.out
      have hHeld34 := hHeld34S.held (by kernel_rfl)
      clear hK K
      try simp only [Act.put, List.setIfInBounds_toArray, List.set_cons_zero, List.set_cons_succ]
      refine wpG_one (i := 34) (o := { dst := some 126, op := Go.Op.call { callee := Go.Callee.value (Go.Operand.func 37), args := #[Go.Operand.tmp 125], argTypes := #[28] }, type := 4, pos := "laws.go:775", after := #[{ on := 33, ground := Go.Ground.data }, { on := 32, ground := Go.Ground.chain }, { on := 30, ground := Go.Ground.guard }], guard := some (30, false) }) rfl (by kernel_rfl) (fun K hK => ?_)
      go_simp
      refine (HG2.out _ HBc.out).mono ?_
      rintro e wd ⟨rfl, hb⟩
      have HBd := Lib.hid (rstep HBc.out hb); clear hb
      refine hK.out _ _ (Or.inl (by kernel_rfl)) (fun _ => ?_)
      clear hK K
      try simp only [Act.put, List.setIfInBounds_toArray, List.set_cons_zero, List.set_cons_succ]
      refine wpG_pure (i := 35) (oi := { dst := some 127, op := Go.Op.binOp Go.BinOp.neq 4 (Go.Operand.tmp 124) (Go.Operand.tmp 126) 4, type := 4, pos := "laws.go:775", after := #[{ on := 32, ground := Go.Ground.data }, { on := 34, ground := Go.Ground.data }, { on := 30, ground := Go.Ground.guard }], guard := some (30, false) }) (v := ?vg36) rfl (by kernel_rfl) (fun _ _ _ h => h) (Or.inl (by kernel_rfl)) (Or.inl ⟨by rfl, ?yg36⟩) ?_
      case yg36 => (intro wS _; go_simp <;> with_reducible rfl)
      try simp only [Act.put, List.setIfInBounds_toArray, List.set_cons_zero, List.set_cons_succ]
      refine wpG_pure (i := 36) (oi := { dst := some 128, op := Go.Op.pick (Go.Operand.tmp 122) (Go.Operand.const (Go.Value.bool true)) (Go.Operand.tmp 127), type := 4, pos := "laws.go:775", after := #[{ on := 30, ground := Go.Ground.data }, { on := 35, ground := Go.Ground.data }], guard := none }) (v := ?vg37) rfl (by kernel_rfl) (fun _ _ _ h => h) (Or.inl (by kernel_rfl)) (Or.inl ⟨by rfl, ?yg37⟩) ?_
      case yg37 => (intro wS _; go_simp <;> with_reducible rfl)
      try simp only [Act.put, List.setIfInBounds_toArray, List.set_cons_zero, List.set_cons_succ]
      refine wpG_done (by kernel_rfl) ?_
      skip
      go_wp2_with fail
      go_meet
      exact ⟨rfl, HBd⟩
  case rest =>
    obtain ⟨rfl, HBd⟩ := hcut
    obtain ⟨wd, rfl⟩ : ∃ z : World, z = wc := ⟨_, rfl⟩
    have HQ0 := Lib.hid HBd.out
    have HBW0 := Lib.hid (HB.out.trans (HBd.out.mono HB.out.size))
    clear HBd HD8 HB k8 HS1 HS2 HG1 HG2 b1 b2 b3 b4 b5
    go_wp2_with fail
    refine (point_of wd ma mc a1 hl1 hm1 (HR1.out.below HBW0.out)).mono ?_
    rintro e wp ⟨pg, pc, p, rfl, hp3, hpb, ho, hb⟩
    have HP3 := Lib.hid hp3; have HPB := Lib.hid hpb; have HPG := Lib.hid (point_good hp3 hpb)
    have HOP := Lib.hid ho
    have HBW := Lib.hid (rstep HBW0.out hb); have HQ := Lib.hid (rstep HQ0.out hb)
    clear hp3 hpb ho hb HBW0 HQ0
    go_upto_if 131 with fail
    go_cut [4] (fun s4 wx => s4 = .bool false ∧ Hid (Below wp.heap.size wp wx))
    case first =>
      as_aux_lemma =>
        cases ok with
        | false =>
          go_wp2_with fail
          go_meet
          exact ⟨rfl, Lib.hid (Below.refl _ _)⟩
        | true =>
          obtain ⟨x, y, z, q, hs⟩ : ∃ x y z q, SixB a b p x y z q is true on1 two h m := HSIX.out p HPG.out rfl
          have HS := Lib.hid hs
          obtain rfl := hs.h1
          have HEQ := HS.out.eq
          have HS4 := Lib.hid (fun wx hb => HEQ ▸ HS3.out wx hb)
          have HXY := Lib.hid hs.xy; have HIX := Lib.hid hs.ix
          have HWP := Lib.hid (Below.refl wp.heap.size wp)
          obtain ⟨ja, jb, jh, jh2, jm, jm2⟩ := HALL.out _ HQ.out
          clear hs HEQ HS3 HSIX
          go_wp2_with fail
          have hcall := impl_BoxHas wp [.slice qa (a).length c1] [.slice (some ⟨pg, 0, none⟩) p.length pc] a p (kBox_ok.later RA.out HQ.out) (point_rd HP3.out HPB.out HOP.out)
          rw [HP3.out, HS.out.bx] at hcall
          refine hcall.mono ?_
          clear hcall
          rintro e w9 ⟨rfl, hb⟩
          replace HBW := Lib.hid (rstep HBW.out hb); replace HOP := Lib.hid (own_later HOP.out hb)
          replace HQ := Lib.hid (rstep HQ.out hb); replace HWP := Lib.hid (rstep HWP.out hb)
          try clear ja jb jh jh2 jm jm2
          obtain ⟨ja, jb, jh, jh2, jm, jm2⟩ := HALL.out _ HQ.out
          clear hb
          go_wp2_with fail
          have hcall := impl_BoxHas w9 [.slice qb (b).length c2] [.slice (some ⟨pg, 0, none⟩) p.length pc] b p (kBox_ok.later RB.out HQ.out) (point_rd HP3.out HPB.out HOP.out)
          rw [HP3.out, HS.out.by'] at hcall
          refine hcall.mono ?_
          clear hcall
          rintro e w10 ⟨rfl, hb⟩
          replace HBW := Lib.hid (rstep HBW.out hb); replace HOP := Lib.hid (own_later HOP.out hb)
          replace HQ := Lib.hid (rstep HQ.out hb); replace HWP := Lib.hid (rstep HWP.out hb)
          try clear ja jb jh jh2 jm jm2
          obtain ⟨ja, jb, jh, jh2, jm, jm2⟩ := HALL.out _ HQ.out
          clear hb
          go_wp2_with fail
          have hcall := impl_BoxHas w10 [.slice qh (h).length ch] [.slice (some ⟨pg, 0, none⟩) p.length pc] h p (kBox_ok.later RH.out HQ.out) (point_rd HP3.out HPB.out HOP.out)
          rw [HP3.out, HS.out.bz] at hcall
          refine hcall.mono ?_
          clear hcall
          rintro e w11 ⟨rfl, hb⟩
          replace HBW := Lib.hid (rstep HBW.out hb); replace HOP := Lib.hid (own_later HOP.out hb)
          replace HQ := Lib.hid (rstep HQ.out hb); replace HWP := Lib.hid (rstep HWP.out hb)
          try clear ja jb jh jh2 jm jm2
          obtain ⟨ja, jb, jh, jh2, jm, jm2⟩ := HALL.out _ HQ.out
          clear hb
          go_upto_region 17 with fail
          go_cut [190] (fun s190 wx => s190 = .bool false ∧ Hid (Below w11.heap.size w11 wx))
          case first =>
            have HC4 := Lib.hid (HS4.out _ HQ.out)
            clear HALL HS4 HS HR0 HR1 RM RM2 RH RH2 RA RB HOP HBW
            cases is <;> cases x <;> cases y <;> cases z <;> first
              | (exact absurd (HXY.out rfl) (by decide))
              | (exact absurd (HIX.out rfl rfl) (by decide))
              | (as_aux_lemma =>
                   go_wp2_with fail
                   refine HC4.out.mono ?_
                   rintro e wq ⟨rfl, hb⟩
                   go_wp2_with fail
                   go_meet
                   exact ⟨rfl, Lib.hid hb⟩)
          case rest =>
            obtain ⟨rfl, HBC⟩ := hcut
            obtain ⟨w12, rfl⟩ : ∃ z : World, z = wc := ⟨_, rfl⟩
            replace HBW := Lib.hid (rstep HBW.out HBC.out); replace HOP := Lib.hid (own_later HOP.out HBC.out)
            replace HQ := Lib.hid (rstep HQ.out HBC.out); replace HWP := Lib.hid (rstep HWP.out HBC.out)
            clear ja jb jh jh2 jm jm2 HS4 HXY HIX
            obtain ⟨ja, jb, jh, jh2, jm, jm2⟩ := HALL.out _ HQ.out
            cases two with
            | true =>
              have HIN : Hid (q = (x && y)) := Lib.hid (by have h := HS.out.inn; rwa [if_pos rfl] at h)
              go_wp2_with fail
              have hcall := impl_BoxHas w12 [.slice qm (m).length cm] [.slice (some ⟨pg, 0, none⟩) p.length pc] m p (kBox_ok.later RM.out HQ.out) (point_rd HP3.out HPB.out HOP.out)
              rw [HP3.out, (HS.out.bq rfl)] at hcall
              refine hcall.mono ?_
              clear hcall
              rintro e w13 ⟨rfl, hb⟩
              replace HBW := Lib.hid (rstep HBW.out hb); replace HOP := Lib.hid (own_later HOP.out hb)
              replace HQ := Lib.hid (rstep HQ.out hb); replace HWP := Lib.hid (rstep HWP.out hb)
              try clear ja jb jh jh2 jm jm2
              obtain ⟨ja, jb, jh, jh2, jm, jm2⟩ := HALL.out _ HQ.out
              clear hb
              skip
              obtain rfl := HIN.out
              clear HALL HS HR0 HR1 RM RM2 RH RH2 RA RB HOP HBW HIN
              cases x <;> cases y <;> (as_aux_lemma => (go_wp2_with fail; go_meet; exact ⟨rfl, HWP⟩))
            | false =>
              have HIN : Hid (false = (x && y)) := Lib.hid (by have h := HS.out.inn; rwa [if_neg (by decide)] at h)
              clear HALL HS HR0 HR1 RM RM2 RH RH2 RA RB HOP HBW
              cases x <;> cases y <;> first | (exact absurd HIN.out (by decide)) | (as_aux_lemma => (go_wp2_with fail; go_meet; exact ⟨rfl, HWP⟩))
    case rest =>
      obtain ⟨rfl, HBC⟩ := hcut
      obtain ⟨w12, rfl⟩ : ∃ z : World, z = wc := ⟨_, rfl⟩
      replace HBW := Lib.hid (rstep HBW.out HBC.out); replace HOP := Lib.hid (own_later HOP.out HBC.out)
      clear HALL RM RM2 RH RH2 RA RB HSIX HS3 HQ HBC
      go_wp2_with fail
      as_aux_lemma =>
        refine (draw_leastCover w12 ma mc a1 hl1 hm1 (HR1.out.below HBW.out).rb).mono ?_
        rintro e w20 ⟨ql, cl, l, rfl, rl, hl21, hl3, hb⟩
        have HB20 := Lib.hid (rstep HBW.out hb)
        have HL20 := Lib.hid rl; have HOP20 := Lib.hid (own_later HOP.out hb)
        have hll := (sl_len rl).2
        have HL3 := Lib.hid hl3
        have HWL : Hid (kBoxS.wt l ≤ 100) := Lib.hid (boxes_wt hl21 hl3)
        clear hb rl hl3 HBW HOP
        have HCI := Lib.hid (fun wx (h : kBoxS.rd wx.heap.size wx [.slice ql l.length cl] l) => impl_LeastCover wx _ l h (by have := HWL.out; omega))
        have HCS := Lib.hid (fun wx (h : kBoxS.rd wx.heap.size wx [.slice ql l.length cl] l) => spec_LeastCover wx _ l h (by have := HWL.out; omega))
        have HLC : Hid (R_LeastCover l = (lcL l l.length, true) ∧ boxesR l = true ∨ R_LeastCover l = ([], false)) := Lib.hid (by
          by_cases h : boxesR l = true
          · exact .inl ⟨if_pos h, h⟩
          · exact .inr (if_neg h))
        generalize R_LeastCover l = RC at *
        obtain ⟨c, ok4⟩ := RC
        go_wp2_with fail
        refine (HCI.out w20 HL20.out).mono ?_
        rintro e w21 hm
        obtain ⟨cs5, he, hrd, hb⟩ := hm.reads kIntS_ok
        obtain ⟨q5, c5, rfl⟩ := kSl_form hrd
        change e = .returned (.tuple #[.slice q5 c.length c5, .bool ok4]) at he
        subst he
        have HB21 := Lib.hid (rstep HB20.out hb); have HL21 := Lib.hid (kBoxS_ok.later HL20.out hb); have HOP21 := Lib.hid (own_later HOP20.out hb)
        have HC21 := Lib.hid hrd
        clear hm hrd hb HB20 HL20 HOP20
        go_wp2_with fail
        refine (HCS.out w21 HL21.out).mono ?_
        rintro e w22 hm
        obtain ⟨cs6, he, hrd, hb⟩ := hm.reads kIntS_ok
        obtain ⟨q6, c6, rfl⟩ := kSl_form hrd
        change e = .returned (.tuple #[.slice q6 c.length c6, .bool ok4]) at he
        subst he
        have HB22 := Lib.hid (rstep HB21.out hb); have HL22 := Lib.hid (kBoxS_ok.later HL21.out hb); have HOP22 := Lib.hid (own_later HOP21.out hb)
        have HC22 := Lib.hid (kIntS_ok.later HC21.out hb)
        have hcl := (sl_len hrd).2
        have HSI := Lib.hid (same_ints q5 q6 c5 c6 c c w22 (rw_ints HC22.out) (rw_ints hrd) (by omega) (by omega))
        rw [decide_eq_true (rfl : c = c)] at HSI
        clear hm hrd hb HB21 HL21 HOP21 HC21 HCI HCS
        have hok4 : (ok4 != ok4) = false := by cases ok4 <;> rfl
        go_wp2_with fail
        refine HSI.out.mono ?_
        rintro e w23 ⟨rfl, hdr⟩
        have hb := hdr.below w22.heap.size
        have HB23 := Lib.hid (rstep HB22.out hb); have HL23 := Lib.hid (kBoxS_ok.later HL22.out hb); have HOP23 := Lib.hid (own_later HOP22.out hb)
        have HC23 := Lib.hid (kIntS_ok.later HC22.out hb)
        clear hdr hb HB22 HL22 HOP22 HC22 HSI
        rcases HLC.out with ⟨hc, hbx⟩ | hc
        case inr =>
          simp only [Prod.mk.injEq] at hc
          obtain ⟨rfl, rfl⟩ := hc
          clear HLC hok4
          go_wp2_with fail
          go_ret
          exact ⟨rfl, HB23.out⟩
        simp only [Prod.mk.injEq] at hc
        obtain ⟨hce, rfl⟩ := hc
        have HCE := Lib.hid hce; have HBX := Lib.hid hbx
        have HCM : Hid (∀ i : Nat, i < c.length → ∃ j : Nat, c[i]? = some (j : Int) ∧ j < l.length) := Lib.hid fun i hi => by
          obtain ⟨x, hx⟩ : ∃ x, c[i]? = some x := ⟨c[i], List.getElem?_eq_getElem hi⟩
          have h2 : x ∈ lcL l l.length := by rw [← hce]; exact List.mem_of_getElem? hx
          obtain ⟨j, hj, hjl, _⟩ := mem_lc.1 h2
          exact ⟨j, by rw [hx, hj], hjl⟩
        have HFL : Hid (fewR l c = fewR l (lcL l l.length)) := Lib.hid (by rw [hce])
        have hcl20 : c.length ≤ 21 := by rw [hce]; have := lcL_len l l.length; omega
        clear hce hbx HLC hok4
        go_wp2_with fail
        go_loopw [34, 235] (fun fv iv wr => ∃ (i : Nat) (v : Value) (vss : List (List Value)), i ≤ c.length ∧ iv = .int .i64 (i : Int) ∧ fv = v ∧ Hid (wr.ownsRow w23.heap.size 28 1 v i vss.flatten) ∧ Hid (RdL kBox w23.heap.size wr vss (fewR l (c.take i))) ∧ Hid (Below w23.heap.size w23 wr)) (fun _ iv _ => c.length - (intOf iv).toNat)
        case atStart => exact ⟨0, _, [], by omega, rfl, rfl, Lib.hid (World.ownsRow_nil _ _ _ _), Lib.hid (by rw [List.take_zero]; trivial), Lib.hid (Below.refl _ _)⟩
        case round =>
          obtain ⟨w24, rfl⟩ : ∃ z : World, z = wr := ⟨_, rfl⟩
          obtain ⟨i, v, vss, hi, rfl, rfl, HO, HRL, HB⟩ := hrel
          by_cases hic : i < c.length
          case pos =>
            obtain ⟨j, hj, hjl⟩ := HCM.out i hic
            obtain ⟨u1, b1, o1, hu1, rfl, hb1, hc1⟩ := sl_one kInt_ok rfl HC23.out hj
            obtain ⟨hu1, _⟩ := hu1
            simp only [List.cons.injEq, and_true] at hu1
            subst hu1
            have hlj : l[j]? = some (l.getD j []) := by simp [List.getD, hjl]
            obtain ⟨u2, b2, o2, hu2, rfl, hb2, hc2⟩ := sl_one kBox_ok rfl HL23.out hlj
            obtain ⟨a2, p2, hf2⟩ := box_form1 hu2
            simp only [List.cons.injEq, and_true] at hf2
            subst hf2
            replace hc1 := below_cellk HB.out hc1 hb1; replace hc2 := below_cellk HB.out hc2 hb2
            have HU2 := Lib.hid (kBox_ok.rbelow hu2 HB.out)
            have HTK : Hid (fewR l (c.take (i + 1)) = fewR l (c.take i) ++ [l.getD j []]) := Lib.hid (by rw [take_next c i _ hj]; simp [fewR])
            have e1 : ((j : Nat) : Int) < (l.length : Int) := by omega
            have e2 : (0 : Int) ≤ ((j : Nat) : Int) := by omega
            clear hj hlj hu2
            generalize l.getD j [] = bx at *
            go_wp2_with (at_builtin; refine wpList_append_own _ rfl _ _ 40 rfl _ 28 i0 (.agg #[.slice none 0 0]) 1 24 Try.underlying40 hi0 hz0 hz1 hz2 rfl (by decide) _ i _ rfl (HO.out.alloc _) _ 1 1 [.slice a2 bx.length p2] rfl rfl (news_one _ _ _) (by simp [Value.oneCell']) (by unfold maxLen; omega) (by omega) (Nat.le_trans HB.out.size (by simp)) ?_)
            intro v' w25 hown hgrow hnil
            have HBG := Lib.hid (Below.grown (HB.out.alloc HB.out.size _) hgrow (Nat.le_trans HB.out.size (by simp)) (fun j hj => (HO.out.lt j hj).1))
            have HBG2 : Hid (Below w23.heap.size w24 w25) := Lib.hid (Below.grown ((Below.refl _ _).alloc HB.out.size _) hgrow (Nat.le_trans HB.out.size (by simp)) (fun j hj => (HO.out.lt j hj).1))
            have HOW := Lib.hid hown; clear hown hgrow hnil
            have HRN : Hid (RdL kBox w23.heap.size w25 (vss ++ [[.slice a2 bx.length p2]]) (fewR l (c.take (i + 1)))) := Lib.hid (by
              rw [HTK.out]
              exact rdl_snoc (kBox_ok.rbelow HU2.out HBG2.out) (HRL.out.imp (fun _ _ h => kBox_ok.rbelow h HBG2.out)))
            go_wp2_with fail
            go_roundw
            case rel => exact ⟨i + 1, _, vss ++ [[.slice a2 bx.length p2]], by omega, by go_num, rfl, Lib.hid (by rw [List.flatten_append, List.flatten_singleton]; exact HOW.out), HRN, HBG⟩
            case measure => (simp [intOf]; try omega)
          obtain rfl : i = c.length := by omega
          obtain ⟨fa, fc, rfl⟩ := form_of_own HO.out
          have HB24 := Lib.hid (HB23.out.trans (HB.out.mono HB23.out.size))
          have HL24 := Lib.hid ((kBoxS_ok.rbelow HL23.out HB.out)); have HL24' := Lib.hid (kBoxS_ok.rmono HL24.out HB.out.size)
          have HFW : Hid ((fewR l c).length = c.length) := Lib.hid (by simp [fewR])
          have HF24 : Hid (kBoxS.rd w24.heap.size w24 [.slice fa c.length fc] (fewR l c)) := Lib.hid (by
            have h1 := HRL.out
            rw [List.take_length] at h1
            refine ⟨fa, fc, vss, by rw [HFW.out], ⟨by rw [HFW.out]; exact (own_caps HO.out).1, (own_caps HO.out).2⟩, own_rw HO.out, h1.imp (fun _ _ h => kBox_ok.rmono h HB.out.size)⟩)
          have HP24 := Lib.hid (point_rd HP3.out HPB.out (own_later HOP23.out HB.out))
          have HFG : Hid (boxesR (fewR l c) = true) := Lib.hid (by rw [HFL.out]; exact few_good HBX.out)
          have HU1 := Lib.hid (fun wx (h : kBoxS.rd wx.heap.size wx [.slice ql l.length cl] l) (h2 : kIntS.rd wx.heap.size wx [.slice (some ⟨pg, 0, none⟩) p.length pc] p) => impl_UnionHas wx _ _ l p h h2 (by have := HWL.out; have := point_wt HP3.out; omega))
          have HU2 := Lib.hid (fun wx (h : kBoxS.rd wx.heap.size wx [.slice fa c.length fc] (fewR l c)) (h2 : kIntS.rd wx.heap.size wx [.slice (some ⟨pg, 0, none⟩) p.length pc] p) => impl_UnionHas wx _ _ (fewR l c) p h h2 (by have := boxes_wt (l := fewR l c) (by rw [HFW.out]; omega) (fun x hx => good_len (List.all_eq_true.1 (by have h := HFG.out; unfold boxesR at h; rw [Bool.and_eq_true] at h; exact h.2) x hx)); have := point_wt HP3.out; omega))
          rw [show R_UnionHas l p = (l.any (hasR · p), true) from if_pos ⟨HBX.out, HPG.out⟩] at HU1
          rw [show R_UnionHas (fewR l c) p = (l.any (hasR · p), true) from by rw [HFL.out]; have := few_has (p := p) HBX.out HP3.out; unfold R_UnionHas; rw [if_pos ⟨few_good HBX.out, HPG.out⟩, this]] at HU2
          rw [HP3.out] at HU1 HU2 HP24
          generalize l.any (hasR · p) = un at *
          have hun : (un != un) = false := by cases un <;> rfl
          clear HO HRL HB HL23 HOP23 HC23 HB23
          go_wp2_with fail
          refine (HU1.out w24 HL24'.out HP24.out).mono ?_
          rintro e w26 ⟨rfl, hb⟩
          have HB26 := Lib.hid (rstep HB24.out hb); have HF26 := Lib.hid (kBoxS_ok.later HF24.out hb); have HP26 := Lib.hid (kIntS_ok.later HP24.out hb)
          clear hb HB24 HF24 HP24 HL24 HL24'
          go_wp2_with fail
          refine (HU2.out w26 HF26.out HP26.out).mono ?_
          rintro e w27 ⟨rfl, hb⟩
          have HB27 := Lib.hid (rstep HB26.out hb); have HF27 := Lib.hid (kBoxS_ok.later HF26.out hb)
          clear hb HB26 HF26 HP26 HU1 HU2
          go_wp2_with fail
          go_loopw [272] (fun iv wr => ∃ i : Nat, i ≤ c.length ∧ iv = .int .i64 (i : Int) ∧ Hid (Below w27.heap.size w27 wr)) (fun iv _ => c.length - (intOf iv).toNat)
          case atStart => exact ⟨0, by omega, rfl, Lib.hid (Below.refl _ _)⟩
          case round =>
            obtain ⟨w28, rfl⟩ : ∃ z : World, z = wr := ⟨_, rfl⟩
            obtain ⟨i, hi, rfl, HB28⟩ := hrel
            by_cases hil : i < c.length
            case neg =>
              have HBE := Lib.hid (HB27.out.trans (HB28.out.mono HB27.out.size))
              go_wp2_with fail
              go_ret
              exact ⟨rfl, HBE.out⟩
            go_wp2_with fail
            go_loopw [277] (fun jv wr => ∃ j : Nat, j ≤ c.length ∧ jv = .int .i64 (j : Int) ∧ Hid (Below w27.heap.size w27 wr)) (fun jv _ => c.length - (intOf jv).toNat)
            case atStart => exact ⟨0, by omega, rfl, HB28⟩
            case round =>
              clear HB28
              obtain ⟨w29, rfl⟩ : ∃ z : World, z = wr := ⟨_, rfl⟩
              obtain ⟨j, hj, rfl, HB29⟩ := hrel
              by_cases hjl : j < c.length
              case neg =>
                go_wp2_with fail
                go_roundw
                case rel => exact ⟨i + 1, by omega, by go_num, HB29⟩
                case measure => (simp [intOf]; try omega)
              have hxi : (fewR l c)[i]? = some ((fewR l c).getD i []) := by have := HFW.out; simp [List.getD, show i < (fewR l c).length by omega]
              have hxj : (fewR l c)[j]? = some ((fewR l c).getD j []) := by have := HFW.out; simp [List.getD, show j < (fewR l c).length by omega]
              obtain ⟨u1, b1, o1, hu1, hea, hb1, hc1⟩ := sl_one kBox_ok rfl HF27.out hxi
              obtain ⟨u2, b2, o2, hu2, hea2, hb2, hc2⟩ := sl_one kBox_ok rfl HF27.out hxj
              rw [hea] at hea2
              simp only [Option.some.injEq, Addr.mk.injEq, and_true] at hea2
              obtain ⟨rfl, rfl⟩ := hea2
              subst hea
              obtain ⟨a3, p3, hf3⟩ := box_form1 hu1
              obtain ⟨a4, p4, hf4⟩ := box_form1 hu2
              simp only [List.cons.injEq, and_true] at hf3 hf4
              subst hf3 hf4
              have HG : Hid (∀ k, k < c.length → GoodR ((fewR l c).getD k []) = true) := Lib.hid fun k hk => good_of HFG.out (by rw [HFW.out]; exact hk)
              have HCV := Lib.hid (fun wx (hb : Below w27.heap.size w27 wx) => impl_BoxCovers wx [.slice a3 ((fewR l c).getD i []).length p3] [.slice a4 ((fewR l c).getD j []).length p4] ((fewR l c).getD i []) ((fewR l c).getD j []) (kBox_ok.later hu1 hb) (kBox_ok.later hu2 hb))
              rw [show R_BoxCovers ((fewR l c).getD i []) ((fewR l c).getD j []) = (covR ((fewR l c).getD i []) ((fewR l c).getD j []), true) from BC_yes ⟨HG.out i hil, HG.out j hjl⟩] at HCV
              have HAP : Hid (¬ i = j → covR ((fewR l c).getD i []) ((fewR l c).getD j []) = false) := Lib.hid fun hne => by
                have h := few_apart (l := l) (i := i) (j := j) (by rw [← HCE.out]; exact hil) (by rw [← HCE.out]; exact hjl) hne
                rwa [← HCE.out] at h
              have HKC : Hid (∀ wx, Below w27.heap.size w27 wx → wx.cell? ⟨b1, o1 + i, none⟩ = some (.slice a3 ((fewR l c).getD i []).length p3) ∧ wx.cell? ⟨b1, o1 + j, none⟩ = some (.slice a4 ((fewR l c).getD j []).length p4)) := Lib.hid fun wx hb => ⟨below_cellk hb hc1 hb1, below_cellk hb hc2 hb2⟩
              clear hxi hxj hu1 hu2 hc1 hc2
              generalize covR ((fewR l c).getD i []) ((fewR l c).getD j []) = cv at *
              generalize (fewR l c).getD i [] = fi at *
              generalize (fewR l c).getD j [] = fj at *
              have hk := HKC.out w29 HB29.out
              go_wp2_with fail
              refine wp_region_G [8] (fun w' => w'.cell? ⟨b1, o1 + i, none⟩ = some (.slice a3 fi.length p3) ∧ w'.cell? ⟨b1, o1 + j, none⟩ = some (.slice a4 fj.length p4)) (by kernel_rfl) ?_ (fun hHeld => ?_)
              · exact hk
              refine wpG_pure (i := 0) (oi := { dst := some 281, op := Go.Op.move (Go.Operand.tmp 34), type := 40, pos := "laws.go:818", after := #[], guard := none }) (v := ?vg38) rfl (by kernel_rfl) (fun _ _ _ h => h) (Or.inr hHeld) (Or.inl ⟨by rfl, ?yg38⟩) ?_
              case yg38 => (intro wS _; go_simp <;> with_reducible rfl)
              try simp only [Act.put, List.setIfInBounds_toArray, List.set_cons_zero, List.set_cons_succ]
              refine wpG_pure (i := 1) (oi := { dst := some 282, op := Go.Op.move (Go.Operand.tmp 41), type := 3, pos := "laws.go:818", after := #[], guard := none }) (v := ?vg39) rfl (by kernel_rfl) (fun _ _ _ h => h) (Or.inr hHeld) (Or.inl ⟨by rfl, ?yg39⟩) ?_
              case yg39 => (intro wS _; go_simp <;> with_reducible rfl)
              try simp only [Act.put, List.setIfInBounds_toArray, List.set_cons_zero, List.set_cons_succ]
              refine wpG_pure (i := 2) (oi := { dst := some 283, op := Go.Op.indexAddr 40 (Go.Operand.tmp 281) (Go.Operand.tmp 282), type := 0, pos := "laws.go:818", after := #[{ on := 0, ground := Go.Ground.data }, { on := 1, ground := Go.Ground.data }], guard := none }) (v := ?vg40) rfl (by kernel_rfl) (fun _ _ _ h => h) (Or.inr hHeld) (Or.inl ⟨by rfl, ?yg40⟩) ?_
              case yg40 => (intro wS _; go_simp <;> with_reducible rfl)
              try simp only [Act.put, List.setIfInBounds_toArray, List.set_cons_zero, List.set_cons_succ]
              refine wpG_load (i := 3) (oi := { dst := some 284, op := Go.Op.load 28 (Go.Operand.tmp 283), type := 28, pos := "laws.go:818", after := #[{ on := 2, ground := Go.Ground.data }], guard := none }) (v := ?vg41) [[8, 3]] rfl (by kernel_rfl) (fun _ _ _ h => h) hHeld (Or.inl ⟨by rfl, ?yg41⟩) ?_
              case yg41 => (intro wS hSw; (try dsimp only at hSw); go_simp <;> with_reducible rfl)
              try simp only [Act.put, List.setIfInBounds_toArray, List.set_cons_zero, List.set_cons_succ]
              refine wpG_pure (i := 4) (oi := { dst := some 285, op := Go.Op.move (Go.Operand.tmp 34), type := 40, pos := "laws.go:818", after := #[], guard := none }) (v := ?vg42) rfl (by kernel_rfl) (fun _ _ _ h => h) (Or.inr hHeld) (Or.inl ⟨by rfl, ?yg42⟩) ?_
              case yg42 => (intro wS _; go_simp <;> with_reducible rfl)
              try simp only [Act.put, List.setIfInBounds_toArray, List.set_cons_zero, List.set_cons_succ]
              refine wpG_pure (i := 5) (oi := { dst := some 286, op := Go.Op.move (Go.Operand.tmp 42), type := 3, pos := "laws.go:818", after := #[], guard := none }) (v := ?vg43) rfl (by kernel_rfl) (fun _ _ _ h => h) (Or.inr hHeld) (Or.inl ⟨by rfl, ?yg43⟩) ?_
              case yg43 => (intro wS _; go_simp <;> with_reducible rfl)
              try simp only [Act.put, List.setIfInBounds_toArray, List.set_cons_zero, List.set_cons_succ]
              refine wpG_pure (i := 6) (oi := { dst := some 287, op := Go.Op.indexAddr 40 (Go.Operand.tmp 285) (Go.Operand.tmp 286), type := 0, pos := "laws.go:818", after := #[{ on := 4, ground := Go.Ground.data }, { on := 5, ground := Go.Ground.data }], guard := none }) (v := ?vg44) rfl (by kernel_rfl) (fun _ _ _ h => h) (Or.inr hHeld) (Or.inl ⟨by rfl, ?yg44⟩) ?_
              case yg44 => (intro wS _; go_simp <;> with_reducible rfl)
              try simp only [Act.put, List.setIfInBounds_toArray, List.set_cons_zero, List.set_cons_succ]
              refine wpG_load (i := 7) (oi := { dst := some 288, op := Go.Op.load 28 (Go.Operand.tmp 287), type := 28, pos := "laws.go:818", after := #[{ on := 6, ground := Go.Ground.data }], guard := none }) (v := ?vg45) [[8, 7]] rfl (by kernel_rfl) (fun _ _ _ h => h) hHeld (Or.inl ⟨by rfl, ?yg45⟩) ?_
              case yg45 => (intro wS hSw; (try dsimp only at hSw); go_simp <;> with_reducible rfl)
              try simp only [Act.put, List.setIfInBounds_toArray, List.set_cons_zero, List.set_cons_succ]
              refine wpG_one (i := 8) (o := { dst := some 289, op := Go.Op.call { callee := Go.Callee.value (Go.Operand.func 33), args := #[Go.Operand.tmp 284, Go.Operand.tmp 288], argTypes := #[28, 28] }, type := 38, pos := "laws.go:818", after := #[{ on := 3, ground := Go.Ground.data }, { on := 7, ground := Go.Ground.data }], guard := none }) rfl (by kernel_rfl) (fun K hK => ?_)
              go_simp
              refine (HCV.out _ (rdrew HB29.out 1)).mono ?_
              rintro e w30 ⟨rfl, hb⟩
              have HB30 := Lib.hid (rstep (rdrew HB29.out 1) hb)
              clear hb
              refine hK.out _ _ (Or.inl (by kernel_rfl)) (fun _ => ?_)
              clear hK K
              try simp only [Act.put, List.setIfInBounds_toArray, List.set_cons_zero, List.set_cons_succ]
              refine wpG_pure (i := 9) (oi := { dst := some 280, op := Go.Op.move (Go.Operand.tmp 289), type := 38, pos := "laws.go:818", after := #[{ on := 8, ground := Go.Ground.data }], guard := none }) (v := ?vg47) rfl (by kernel_rfl) (fun _ _ _ h => h) (Or.inl (by kernel_rfl)) (Or.inl ⟨by rfl, ?yg47⟩) ?_
              case yg47 => (intro wS _; go_simp <;> with_reducible rfl)
              try simp only [Act.put, List.setIfInBounds_toArray, List.set_cons_zero, List.set_cons_succ]
              refine wpG_pure (i := 10) (oi := { dst := some 290, op := Go.Op.extract (Go.Operand.tmp 280) 0, type := 4, pos := "laws.go:818", after := #[{ on := 9, ground := Go.Ground.data }], guard := none }) (v := ?vg48) rfl (by kernel_rfl) (fun _ _ _ h => h) (Or.inl (by kernel_rfl)) (Or.inl ⟨by rfl, ?yg48⟩) ?_
              case yg48 => (intro wS _; go_simp <;> with_reducible rfl)
              try simp only [Act.put, List.setIfInBounds_toArray, List.set_cons_zero, List.set_cons_succ]
              refine wpG_pure (i := 11) (oi := { dst := some 291, op := Go.Op.extract (Go.Operand.tmp 280) 1, type := 4, pos := "laws.go:818", after := #[{ on := 9, ground := Go.Ground.data }, { on := 12, ground := Go.Ground.gcOnly Go.Departure.lateStores }], guard := none }) (v := ?vg49) rfl (by kernel_rfl) (fun _ _ _ h => h) (Or.inl (by kernel_rfl)) (Or.inl ⟨by rfl, ?yg49⟩) ?_
              case yg49 => (intro wS _; go_simp <;> with_reducible rfl)
              try simp only [Act.put, List.setIfInBounds_toArray, List.set_cons_zero, List.set_cons_succ]
              refine wpG_pure (i := 12) (oi := { dst := some 43, op := Go.Op.assign (Go.Operand.tmp 290), type := 4, pos := "laws.go:818", after := #[{ on := 10, ground := Go.Ground.data }, { on := 8, ground := Go.Ground.chain }, { on := 0, ground := Go.Ground.phase }, { on := 1, ground := Go.Ground.phase }, { on := 2, ground := Go.Ground.phase }, { on := 3, ground := Go.Ground.phase }, { on := 4, ground := Go.Ground.phase }, { on := 5, ground := Go.Ground.phase }, { on := 6, ground := Go.Ground.phase }, { on := 7, ground := Go.Ground.phase }, { on := 8, ground := Go.Ground.phase }, { on := 9, ground := Go.Ground.phase }, { on := 10, ground := Go.Ground.phase }, { on := 11, ground := Go.Ground.textOnly Go.Departure.lateStores }], guard := none }) (v := ?vg50) rfl (by kernel_rfl) (fun _ _ _ h => h) (Or.inl (by kernel_rfl)) (Or.inl ⟨by rfl, ?yg50⟩) ?_
              case yg50 => (intro wS _; go_simp <;> with_reducible rfl)
              try simp only [Act.put, List.setIfInBounds_toArray, List.set_cons_zero, List.set_cons_succ]
              refine wpG_pure (i := 13) (oi := { dst := some 44, op := Go.Op.assign (Go.Operand.tmp 291), type := 4, pos := "laws.go:818", after := #[{ on := 11, ground := Go.Ground.data }, { on := 12, ground := Go.Ground.chain }, { on := 0, ground := Go.Ground.phase }, { on := 1, ground := Go.Ground.phase }, { on := 2, ground := Go.Ground.phase }, { on := 3, ground := Go.Ground.phase }, { on := 4, ground := Go.Ground.phase }, { on := 5, ground := Go.Ground.phase }, { on := 6, ground := Go.Ground.phase }, { on := 7, ground := Go.Ground.phase }, { on := 8, ground := Go.Ground.phase }, { on := 9, ground := Go.Ground.phase }, { on := 10, ground := Go.Ground.phase }, { on := 11, ground := Go.Ground.phase }, { on := 12, ground := Go.Ground.phase }], guard := none }) (v := ?vg51) rfl (by kernel_rfl) (fun _ _ _ h => h) (Or.inl (by kernel_rfl)) (Or.inl ⟨by rfl, ?yg51⟩) ?_
              case yg51 => (intro wS _; go_simp <;> with_reducible rfl)
              try simp only [Act.put, List.setIfInBounds_toArray, List.set_cons_zero, List.set_cons_succ]
              refine wpG_done (by kernel_rfl) ?_
              skip
              by_cases hij : i = j
              · have e1 : ((i : Int) != (j : Int)) = false := by simp [hij]
                clear hij HAP
                go_wp2_with fail
                go_roundw
                case rel => exact ⟨j + 1, by omega, by go_num, HB30⟩
                case measure => (simp [intOf]; try omega)
              · have e1 : ((i : Int) != (j : Int)) = true := by simp; omega
                obtain rfl := HAP.out hij
                clear hij HAP
                go_wp2_with fail
                go_roundw
                case rel => exact ⟨j + 1, by omega, by go_num, HB30⟩
                case measure => (simp [intOf]; try omega)

end Go.Proofs.Ythlajmncpejhmaa.fnBoxes
