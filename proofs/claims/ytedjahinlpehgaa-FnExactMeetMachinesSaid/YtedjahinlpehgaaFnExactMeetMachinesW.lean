/- The walk of FnExactMeetMachines: whatever the arguments, the call returns true and writes nothing that was there. -/
import Derived.Deep.RegionHeld3
import Derived.Test.YtedjahinlpehgaaMeetC
namespace Go.Proofs.Ytedjahinlpehgaa.fnExactMeetMachines
open Go.ChangeShapes Go.WideShapes Go.ChangeAt Go.RowKit
open Go.ChangeMaps (open_string shut_string)
set_option linter.unusedVariables false

set_option maxHeartbeats 1000000 in
set_option maxRecDepth 100000 in
theorem walk (w : World) (v0 : Value) (a0 : ((List (List Int)) × (List Bool))) (w0 : IsK kMachine (fun cs => .agg cs.toArray) w v0 a0) (v1 : Value) (a1 : ((List (List Int)) × (List Bool))) (w1 : IsK kMachine (fun cs => .agg cs.toArray) w v1 a1) :
    Calls Try.prog 6 #[v0, v1] w fun e w' => e = .returned (.bool true) ∧ Below w.heap.size w w' := by
  obtain ⟨cs0, rfl, hr0⟩ := w0
  obtain ⟨cs1, rfl, hr1⟩ := w1
  obtain ⟨ea0_0, ecap0_0, ea0_1, ecap0_1, rfl⟩ : ∃ ea0_0 ecap0_0 ea0_1 ecap0_1, cs0 = [.slice ea0_0 a0.1.length ecap0_0, .slice ea0_1 a0.2.length ecap0_1] := by
    obtain ⟨ea0_0, ecap0_0, ea0_1, ecap0_1, h, _⟩ := Machine_rd hr0
    exact ⟨ea0_0, ecap0_0, ea0_1, ecap0_1, h⟩
  obtain ⟨ea1_0, ecap1_0, ea1_1, ecap1_1, rfl⟩ : ∃ ea1_0 ecap1_0 ea1_1 ecap1_1, cs1 = [.slice ea1_0 a1.1.length ecap1_0, .slice ea1_1 a1.2.length ecap1_1] := by
    obtain ⟨ea1_0, ecap1_0, ea1_1, ecap1_1, h, _⟩ := Machine_rd hr1
    exact ⟨ea1_0, ecap1_0, ea1_1, ecap1_1, h⟩
  have HR0 := Lib.hid hr0; clear hr0
  have HZ0 := Lib.hid (fun (lx : Int) (wx : World) (hb : Below w.heap.size w wx) (g0 : 0 ≤ lx) (g1 : lx ≤ 1048576) => sz_Machine lx (kMachine_ok.later HR0.out hb) g0 g1)
  have HR1 := Lib.hid hr1; clear hr1
  have HZ1 := Lib.hid (fun (lx : Int) (wx : World) (hb : Below w.heap.size w wx) (g0 : 0 ≤ lx) (g1 : lx ≤ 1048576) => sz_Machine lx (kMachine_ok.later HR1.out hb) g0 g1)
  have HB0 := Lib.hid (box2_start w (.cells #[.slice ea0_0 a0.1.length ecap0_0, .slice ea0_1 a0.2.length ecap0_1] 25) (.cells #[.slice ea1_0 a1.1.length ecap1_0, .slice ea1_1 a1.2.length ecap1_1] 25))
  by_cases gz0 : (kMachine.wt a0 : Int) ≤ 1048576
  case neg =>
    have GZ0 : szR (1048576) (kMachine.wt a0) = -1 := szR_not gz0
    go_enter Try.func6, Try.ntmps6
    go_wp2_with fail
    refine (HZ0.out (1048576) _ (((Below.refl _ _).alloc (Nat.le_refl _) _).alloc (by simp) _) (by omega) (by omega)).mono ?_
    rw [GZ0]
    rintro e v1 ⟨rfl, hb⟩
    have HV1 := Lib.hid (box2_step HB0.out hb); clear hb
    have ac0_0_v1 := box2_a HV1.out 0
    have ac0_1_v1 := box2_a HV1.out 1
    have ac1_0_v1 := box2_b HV1.out 0
    have ac1_1_v1 := box2_b HV1.out 1
    go_wp2_with fail
    go_ret
    exact ⟨rfl, (box2_below HV1.out)⟩
  by_cases gz1 : (kMachine.wt a1 : Int) ≤ 1048576 - (kMachine.wt a0 : Int)
  case neg =>
    have GZ0 : szR (1048576) (kMachine.wt a0) = 1048576 - (kMachine.wt a0 : Int) := szR_fit gz0
    have GZ1 : szR (1048576 - (kMachine.wt a0 : Int)) (kMachine.wt a1) = -1 := szR_not gz1
    go_enter Try.func6, Try.ntmps6
    go_wp2_with fail
    refine (HZ0.out (1048576) _ (((Below.refl _ _).alloc (Nat.le_refl _) _).alloc (by simp) _) (by omega) (by omega)).mono ?_
    rw [GZ0]
    rintro e v1 ⟨rfl, hb⟩
    have HV1 := Lib.hid (box2_step HB0.out hb); clear hb
    have ac0_0_v1 := box2_a HV1.out 0
    have ac0_1_v1 := box2_a HV1.out 1
    have ac1_0_v1 := box2_b HV1.out 0
    have ac1_1_v1 := box2_b HV1.out 1
    go_wp2_with fail
    refine (HZ1.out (1048576 - (kMachine.wt a0 : Int)) _ (box2_below HV1.out) (by omega) (by omega)).mono ?_
    rw [GZ1]
    rintro e v2 ⟨rfl, hb⟩
    have HV2 := Lib.hid (box2_step HV1.out hb); clear hb ac0_0_v1 ac0_1_v1 ac1_0_v1 ac1_1_v1
    have ac0_0_v2 := box2_a HV2.out 0
    have ac0_1_v2 := box2_a HV2.out 1
    have ac1_0_v2 := box2_b HV2.out 0
    have ac1_1_v2 := box2_b HV2.out 1
    go_wp2_with fail
    go_ret
    exact ⟨rfl, (box2_below HV2.out)⟩
  have GZ0 : szR (1048576) (kMachine.wt a0) = 1048576 - (kMachine.wt a0 : Int) := szR_fit gz0
  have GZ1 : szR (1048576 - (kMachine.wt a0 : Int)) (kMachine.wt a1) = 1048576 - (kMachine.wt a0 : Int) - (kMachine.wt a1 : Int) := szR_fit gz1
  have HT : Hid (kMachine.wt a0 + kMachine.wt a1 ≤ 1048576) := Lib.hid (by omega)
  have HCN := Lib.hid (R_MeetMachines_ok a0 a1 HT.out)
  have HS := Lib.hid (fun (wx : World) (cx0 : List Value) (cx1 : List Value) (h0 : kMachine.rd wx.heap.size wx (cx0) a0) (h1 : kMachine.rd wx.heap.size wx (cx1) a1) => spec_MeetMachines wx cx0 cx1 a0 a1 h0 h1 HT.out)
  have HI := Lib.hid (fun (wx : World) (cx0 : List Value) (cx1 : List Value) (h0 : kMachine.rd wx.heap.size wx (cx0) a0) (h1 : kMachine.rd wx.heap.size wx (cx1) a1) => impl_MeetMachines wx cx0 cx1 a0 a1 h0 h1 HT.out)
  have HTO0 := Lib.hid (fun (wx : World) (hb : Below w.heap.size w wx) => to_Machine (kMachine_ok.later HR0.out hb) (by have := HT.out; omega))
  have HTO1 := Lib.hid (fun (wx : World) (hb : Below w.heap.size w wx) => to_Machine (kMachine_ok.later HR1.out hb) (by have := HT.out; omega))
  generalize hR : R_MeetMachines a0 a1 = R at *
  clear hR
  obtain ⟨r0, r1⟩ := R
  go_enter Try.func6, Try.ntmps6
  go_wp2_with fail
  refine (HZ0.out (1048576) _ (((Below.refl _ _).alloc (Nat.le_refl _) _).alloc (by simp) _) (by omega) (by omega)).mono ?_
  rw [GZ0]
  rintro e v1 ⟨rfl, hb⟩
  have HV1 := Lib.hid (box2_step HB0.out hb); clear hb
  have ac0_0_v1 := box2_a HV1.out 0
  have ac0_1_v1 := box2_a HV1.out 1
  have ac1_0_v1 := box2_b HV1.out 0
  have ac1_1_v1 := box2_b HV1.out 1
  go_wp2_with fail
  refine (HZ1.out (1048576 - (kMachine.wt a0 : Int)) _ (box2_below HV1.out) (by omega) (by omega)).mono ?_
  rw [GZ1]
  rintro e v2 ⟨rfl, hb⟩
  have HV2 := Lib.hid (box2_step HV1.out hb); clear hb ac0_0_v1 ac0_1_v1 ac1_0_v1 ac1_1_v1
  have ac0_0_v2 := box2_a HV2.out 0
  have ac0_1_v2 := box2_a HV2.out 1
  have ac1_0_v2 := box2_b HV2.out 0
  have ac1_1_v2 := box2_b HV2.out 1
  go_wp2_with fail
  have c_1 : v2.cell? ⟨w.heap.size, 0, none⟩ = some (.slice ea0_0 a0.1.length ecap0_0) := ac0_0_v2; clear ac0_0_v2
  have c_2 : v2.cell? ⟨w.heap.size, 1, none⟩ = some (.slice ea0_1 a0.2.length ecap0_1) := ac0_1_v2; clear ac0_1_v2
  have c_3 : v2.cell? ⟨w.heap.size + 1, 0, none⟩ = some (.slice ea1_0 a1.1.length ecap1_0) := ac1_0_v2; clear ac1_0_v2
  have c_4 : v2.cell? ⟨w.heap.size + 1, 1, none⟩ = some (.slice ea1_1 a1.2.length ecap1_1) := ac1_1_v2; clear ac1_1_v2
  have hz_5 : w.heap.size + 2 ≤ v2.heap.size := by have := (HV2.out).size; first | omega | (simp at this; omega)
  go_wp2_with fail
  go_cut [6, 7] (fun s6 s7 wx => ∃ (B : Nat) (ec0 : Option Addr) (cc0 : Nat) (ec1 : Option Addr) (cc1 : Nat), s6 = .pointer (some ⟨B, 0, none⟩) ∧ s7 = .bool r1 ∧ Hid (wx.cell? ⟨B, 0, none⟩ = some (.slice ec0 r0.1.length cc0) ∧ wx.cell? ⟨B, 1, none⟩ = some (.slice ec1 r0.2.length cc1) ∧ kMachine.rd wx.heap.size wx [.slice ec0 r0.1.length cc0, .slice ec1 r0.2.length cc1] r0 ∧ Below v2.heap.size v2 wx ∧ v2.heap.size ≤ B ∧ B < wx.heap.size))
  case first =>
    have HBASE := Lib.hid (Below.refl v2.heap.size v2)
    have hb_6 : Below v2.heap.size v2 v2.drew := (Below.refl _ _).drew
    have hz_7 : v2.heap.size ≤ v2.heap.size := by have := (hb_6).size; first | omega | (simp at this; omega)
    have HB_8 := Lib.hid (box2_step HV2.out hb_6)
    have hz_9 : w.heap.size + 2 ≤ v2.heap.size := Nat.le_trans hz_5 hz_7
    have c_10 : v2.drew.cell? ⟨w.heap.size, 0, none⟩ = some (.slice ea0_0 a0.1.length ecap0_0) := below_later (hb_6) c_1; clear c_1
    have c_11 : v2.drew.cell? ⟨w.heap.size, 1, none⟩ = some (.slice ea0_1 a0.2.length ecap0_1) := below_later (hb_6) c_2; clear c_2
    have c_12 : v2.drew.cell? ⟨w.heap.size + 1, 0, none⟩ = some (.slice ea1_0 a1.1.length ecap1_0) := below_later (hb_6) c_3; clear c_3
    have c_13 : v2.drew.cell? ⟨w.heap.size + 1, 1, none⟩ = some (.slice ea1_1 a1.2.length ecap1_1) := below_later (hb_6) c_4; clear c_4
    have HBASE_14 := Lib.hid (rstep HBASE.out hb_6); clear hb_6
    refine wp_region_G [3] (fun w' => w'.cell? ⟨w.heap.size, 0, none⟩ = some (.slice ea0_0 a0.1.length ecap0_0) ∧ w'.cell? ⟨w.heap.size, 1, none⟩ = some (.slice ea0_1 a0.2.length ecap0_1) ∧ w'.cell? ⟨w.heap.size + 1, 0, none⟩ = some (.slice ea1_0 a1.1.length ecap1_0) ∧ w'.cell? ⟨w.heap.size + 1, 1, none⟩ = some (.slice ea1_1 a1.2.length ecap1_1)) (by kernel_rfl) ?_ (fun hHeld => ?_)
    · exact ⟨c_10, c_11, c_12, c_13⟩
    refine wpG_load (i := 0) (oi := { dst := some 28, op := Go.Op.load 25 (Go.Operand.tmp 2), type := 25, pos := "exact.go:3654", after := #[], guard := none }) (v := ?vg104001) [[3, 1, 0]] rfl (by kernel_rfl) (fun _ _ _ h => h) hHeld (Or.inl ⟨by rfl, ?yg104001⟩) ?_
    case yg104001 => (intro wS hSw; (try dsimp only at hSw); go_simp <;> with_reducible rfl)
    try simp only [Act.put, List.setIfInBounds_toArray, List.set_cons_zero, List.set_cons_succ]
    refine wpG_load (i := 2) (oi := { dst := some 30, op := Go.Op.load 25 (Go.Operand.tmp 3), type := 25, pos := "exact.go:3654", after := #[], guard := none }) (v := ?vg104002) [[3, 2]] rfl (by kernel_rfl) (fun _ _ _ h => h) hHeld (Or.inl ⟨by rfl, ?yg104002⟩) ?_
    case yg104002 => (intro wS hSw; (try dsimp only at hSw); go_simp <;> with_reducible rfl)
    try simp only [Act.put, List.setIfInBounds_toArray, List.set_cons_zero, List.set_cons_succ]
    refine wpG_two (i := 1) (j := 8) (o := { dst := some 29, op := Go.Op.call { callee := Go.Callee.value (Go.Operand.func 13), args := #[Go.Operand.tmp 28], argTypes := #[25] }, type := 28, pos := "exact.go:3654", after := #[{ on := 0, ground := Go.Ground.data }], guard := none }) (o' := { dst := some 6, op := Go.Op.alloc 28, type := 0, pos := "exact.go:3654", after := #[], guard := none }) rfl rfl (by kernel_rfl) (fun K hK => ?_) (fun K hK => ?_)
    · skip
      go_simp
      refine (HTO0.out _ (box2_below HB_8.out)).mono ?_
      rintro e w_1 ⟨cs_15, fp_15, he, ho, hnd, hge, hb⟩
      have hrd := kMachine_ok.ord ho (B := w_1.heap.size) (kMachine_ok.olt ho)
      obtain ⟨ea0_15, ecap0_15, ea1_15, ecap1_15, rfl, _, _⟩ := Machine_rd hrd
      change e = .returned (.agg #[.slice ea0_15 a0.1.length ecap0_15, .slice ea1_15 a0.2.length ecap1_15]) at he
      subst he
      have hrd2 := kMachine_ok.ord ho (B := w_1.heap.size) (kMachine_ok.olt ho)
      have OW_16 := Lib.hid ho; have HN_19 := Lib.hid hnd
      have HL_17 : Hid (∀ b ∈ fp_15, v2.heap.size ≤ b) := Lib.hid fun b hm => by have := hge b hm; first | omega | (simp at this; omega)
      have HH_18 : Hid (∀ b ∈ fp_15, b < w_1.heap.size) := Lib.hid (kMachine_ok.olt ho)
      have RD_20 := Lib.hid hrd2; clear ho hnd hge hrd2 hrd
      have hb_21 := hb; clear hb
      have hz_22 : v2.heap.size ≤ w_1.heap.size := by have := (hb_21).size; first | omega | (simp at this; omega)
      have HB_23 := Lib.hid (box2_step HB_8.out hb_21)
      have hz_24 : w.heap.size + 2 ≤ w_1.heap.size := Nat.le_trans hz_9 hz_22
      have c_25 : w_1.cell? ⟨w.heap.size, 0, none⟩ = some (.slice ea0_0 a0.1.length ecap0_0) := below_later (hb_21) c_10; clear c_10
      have c_26 : w_1.cell? ⟨w.heap.size, 1, none⟩ = some (.slice ea0_1 a0.2.length ecap0_1) := below_later (hb_21) c_11; clear c_11
      have c_27 : w_1.cell? ⟨w.heap.size + 1, 0, none⟩ = some (.slice ea1_0 a1.1.length ecap1_0) := below_later (hb_21) c_12; clear c_12
      have c_28 : w_1.cell? ⟨w.heap.size + 1, 1, none⟩ = some (.slice ea1_1 a1.2.length ecap1_1) := below_later (hb_21) c_13; clear c_13
      have HBLAST := Lib.hid hb_21
      have HQ := Lib.hid hb_21; clear hb_21 HQ
      have hz_29 : w_1.heap.size ≤ w_1.heap.size := Nat.le_refl _
      have HBASE_30 := Lib.hid (rstep HBASE_14.out HBLAST.out); clear HBLAST
      refine hK.out _ _ (Or.inr ?khHeld104003) (fun hHeld104003S => ?_)
      case khHeld104003 => exact ⟨c_25, c_26, c_27, c_28⟩
      have hHeld104003 := hHeld104003S.held (by kernel_rfl)
      clear hK K
      try simp only [Act.put, List.setIfInBounds_toArray, List.set_cons_zero, List.set_cons_succ]
      refine wpG_two (i := 3) (j := 8) (o := { dst := some 31, op := Go.Op.call { callee := Go.Callee.value (Go.Operand.func 13), args := #[Go.Operand.tmp 30], argTypes := #[25] }, type := 28, pos := "exact.go:3654", after := #[{ on := 2, ground := Go.Ground.data }, { on := 1, ground := Go.Ground.chain }], guard := none }) (o' := { dst := some 6, op := Go.Op.alloc 28, type := 0, pos := "exact.go:3654", after := #[], guard := none }) rfl rfl (by kernel_rfl) (fun K hK => ?_) (fun K hK => ?_)
      · skip
        go_simp
        refine (HTO1.out _ (box2_below HB_23.out)).mono ?_
        rintro e w_2 ⟨cs_31, fp_31, he, ho, hnd, hge, hb⟩
        have hrd := kMachine_ok.ord ho (B := w_2.heap.size) (kMachine_ok.olt ho)
        obtain ⟨ea0_31, ecap0_31, ea1_31, ecap1_31, rfl, _, _⟩ := Machine_rd hrd
        change e = .returned (.agg #[.slice ea0_31 a1.1.length ecap0_31, .slice ea1_31 a1.2.length ecap1_31]) at he
        subst he
        have hrd2 := kMachine_ok.ord ho (B := w_2.heap.size) (kMachine_ok.olt ho)
        have OW_32 := Lib.hid ho; have HN_35 := Lib.hid hnd
        have HL_33 : Hid (∀ b ∈ fp_31, w_1.heap.size ≤ b) := Lib.hid fun b hm => by have := hge b hm; first | omega | (simp at this; omega)
        have HH_34 : Hid (∀ b ∈ fp_31, b < w_2.heap.size) := Lib.hid (kMachine_ok.olt ho)
        have RD_36 := Lib.hid hrd2; clear ho hnd hge hrd2 hrd
        have hb_37 := hb; clear hb
        have hz_38 : w_1.heap.size ≤ w_2.heap.size := by have := (hb_37).size; first | omega | (simp at this; omega)
        have HB_39 := Lib.hid (box2_step HB_23.out hb_37)
        have hz_40 : w.heap.size + 2 ≤ w_2.heap.size := Nat.le_trans hz_24 hz_38
        have c_41 : w_2.cell? ⟨w.heap.size, 0, none⟩ = some (.slice ea0_0 a0.1.length ecap0_0) := below_later (hb_37) c_25; clear c_25
        have c_42 : w_2.cell? ⟨w.heap.size, 1, none⟩ = some (.slice ea0_1 a0.2.length ecap0_1) := below_later (hb_37) c_26; clear c_26
        have c_43 : w_2.cell? ⟨w.heap.size + 1, 0, none⟩ = some (.slice ea1_0 a1.1.length ecap1_0) := below_later (hb_37) c_27; clear c_27
        have c_44 : w_2.cell? ⟨w.heap.size + 1, 1, none⟩ = some (.slice ea1_1 a1.2.length ecap1_1) := below_later (hb_37) c_28; clear c_28
        have RD_45 := Lib.hid (kMachine_ok.rbelow RD_20.out (Below.mono (hb_37) (by first | omega | (simp; done) | (simp; omega)))); clear RD_20
        have hz_46 : w_1.heap.size ≤ w_2.heap.size := Nat.le_trans hz_29 hz_38
        have HBLAST := Lib.hid hb_37
        have HQ := Lib.hid hb_37; clear hb_37 HQ
        have hz_47 : w_2.heap.size ≤ w_2.heap.size := Nat.le_refl _
        have HBASE_48 := Lib.hid (rstep HBASE_30.out HBLAST.out); clear HBLAST
        refine hK.out _ _ (Or.inl (by kernel_rfl)) (fun _ => ?_)
        clear hK K
        try simp only [Act.put, List.setIfInBounds_toArray, List.set_cons_zero, List.set_cons_succ]
        refine wpG_two (i := 4) (j := 8) (o := { dst := some 32, op := Go.Op.call { callee := Go.Callee.value (Go.Operand.func 22), args := #[Go.Operand.tmp 29, Go.Operand.tmp 31], argTypes := #[28, 28] }, type := 35, pos := "exact.go:3654", after := #[{ on := 1, ground := Go.Ground.data }, { on := 3, ground := Go.Ground.data }, { on := 3, ground := Go.Ground.chain }], guard := none }) (o' := { dst := some 6, op := Go.Op.alloc 28, type := 0, pos := "exact.go:3654", after := #[], guard := none }) rfl rfl (by kernel_rfl) (fun K hK => ?_) (fun K hK => ?_)
        · skip
          go_simp
          refine (HS.out _ [.slice ea0_15 a0.1.length ecap0_15, .slice ea1_15 a0.2.length ecap1_15] [.slice ea0_31 a1.1.length ecap0_31, .slice ea1_31 a1.2.length ecap1_31] (kMachine_ok.rmono RD_45.out (by first | omega | (simp; done) | (simp; omega))) (kMachine_ok.rmono RD_36.out (by first | omega | (simp; done) | (simp; omega)))).mono ?_
          rintro e w_3 ⟨cs_49, fp_49, he, ho, hnd, hge, hb⟩
          have hrd := kMachine_ok.ord ho (B := w_3.heap.size) (kMachine_ok.olt ho)
          obtain ⟨ea0_49, ecap0_49, ea1_49, ecap1_49, rfl⟩ : ∃ ea0_49 ecap0_49 ea1_49 ecap1_49, cs_49 = [.slice ea0_49 r0.1.length ecap0_49, .slice ea1_49 r0.2.length ecap1_49] := by
            obtain ⟨ea0_49, ecap0_49, ea1_49, ecap1_49, h, _⟩ := Machine_rd hrd
            exact ⟨ea0_49, ecap0_49, ea1_49, ecap1_49, h⟩
          change e = .returned (.tuple #[(.agg #[.slice ea0_49 r0.1.length ecap0_49, .slice ea1_49 r0.2.length ecap1_49]), (.bool r1)]) at he
          subst he
          have RD_50 := Lib.hid hrd; clear hrd
          have OW_51 := Lib.hid ho; have HN_54 := Lib.hid hnd
          have HL_52 : Hid (∀ b ∈ fp_49, w_2.heap.size ≤ b) := Lib.hid fun b hm => by have := hge b hm; first | omega | (simp at this; omega)
          have HH_53 : Hid (∀ b ∈ fp_49, b < w_3.heap.size) := Lib.hid (kMachine_ok.olt ho)
          clear ho hnd hge
          have hb_55 := hb; clear hb
          have hz_56 : w_2.heap.size ≤ w_3.heap.size := by have := (hb_55).size; first | omega | (simp at this; omega)
          have HB_57 := Lib.hid (box2_step HB_39.out hb_55)
          have hz_58 : w.heap.size + 2 ≤ w_3.heap.size := Nat.le_trans hz_40 hz_56
          have c_59 : w_3.cell? ⟨w.heap.size, 0, none⟩ = some (.slice ea0_0 a0.1.length ecap0_0) := below_later (hb_55) c_41; clear c_41
          have c_60 : w_3.cell? ⟨w.heap.size, 1, none⟩ = some (.slice ea0_1 a0.2.length ecap0_1) := below_later (hb_55) c_42; clear c_42
          have c_61 : w_3.cell? ⟨w.heap.size + 1, 0, none⟩ = some (.slice ea1_0 a1.1.length ecap1_0) := below_later (hb_55) c_43; clear c_43
          have c_62 : w_3.cell? ⟨w.heap.size + 1, 1, none⟩ = some (.slice ea1_1 a1.2.length ecap1_1) := below_later (hb_55) c_44; clear c_44
          have RD_63 := Lib.hid (kMachine_ok.rbelow RD_45.out (Below.mono (hb_55) (by first | omega | (simp; done) | (simp; omega)))); clear RD_45
          have hz_64 : w_1.heap.size ≤ w_3.heap.size := Nat.le_trans hz_46 hz_56
          have RD_65 := Lib.hid (kMachine_ok.rbelow RD_36.out (Below.mono (hb_55) (by first | omega | (simp; done) | (simp; omega)))); clear RD_36
          have hz_66 : w_2.heap.size ≤ w_3.heap.size := Nat.le_trans hz_47 hz_56
          have HBLAST := Lib.hid hb_55
          clear hb_55
          have hz_67 : w_3.heap.size ≤ w_3.heap.size := Nat.le_refl _
          have HBASE_68 := Lib.hid (rstep HBASE_48.out HBLAST.out); clear HBLAST
          refine hK.out _ _ (Or.inl (by kernel_rfl)) (fun _ => ?_)
          clear hK K
          try simp only [Act.put, List.setIfInBounds_toArray, List.set_cons_zero, List.set_cons_succ]
          refine wpG_pure (i := 5) (oi := { dst := some 27, op := Go.Op.move (Go.Operand.tmp 32), type := 35, pos := "exact.go:3654", after := #[{ on := 4, ground := Go.Ground.data }], guard := none }) (v := ?vg104006) rfl (by kernel_rfl) (fun _ _ _ h => h) (Or.inl (by kernel_rfl)) (Or.inl ⟨by rfl, ?yg104006⟩) ?_
          case yg104006 => (intro wS _; go_simp <;> with_reducible rfl)
          try simp only [Act.put, List.setIfInBounds_toArray, List.set_cons_zero, List.set_cons_succ]
          refine wpG_pure (i := 6) (oi := { dst := some 33, op := Go.Op.extract (Go.Operand.tmp 27) 0, type := 28, pos := "exact.go:3654", after := #[{ on := 5, ground := Go.Ground.data }], guard := none }) (v := ?vg104007) rfl (by kernel_rfl) (fun _ _ _ h => h) (Or.inl (by kernel_rfl)) (Or.inl ⟨by rfl, ?yg104007⟩) ?_
          case yg104007 => (intro wS _; go_simp <;> with_reducible rfl)
          try simp only [Act.put, List.setIfInBounds_toArray, List.set_cons_zero, List.set_cons_succ]
          refine wpG_pure (i := 7) (oi := { dst := some 34, op := Go.Op.extract (Go.Operand.tmp 27) 1, type := 4, pos := "exact.go:3654", after := #[{ on := 5, ground := Go.Ground.data }, { on := 9, ground := Go.Ground.gcOnly Go.Departure.lateStores }], guard := none }) (v := ?vg104008) rfl (by kernel_rfl) (fun _ _ _ h => h) (Or.inl (by kernel_rfl)) (Or.inl ⟨by rfl, ?yg104008⟩) ?_
          case yg104008 => (intro wS _; go_simp <;> with_reducible rfl)
          try simp only [Act.put, List.setIfInBounds_toArray, List.set_cons_zero, List.set_cons_succ]
          refine wpG_one (i := 8) (o := { dst := some 6, op := Go.Op.alloc 28, type := 0, pos := "exact.go:3654", after := #[], guard := none }) rfl (by kernel_rfl) (fun K hK => ?_)
          go_simp
          have hb_69 : Below w_3.heap.size w_3 (w_3.alloc (.cells #[Value.slice none 0 0, Value.slice none 0 0] 28)) := (Below.refl _ _).alloc (Nat.le_refl _) _
          have hz_70 : w_3.heap.size ≤ w_3.heap.size + 1 := by have := (hb_69).size; first | omega | (simp at this; omega)
          have HB_71 := Lib.hid (box2_step HB_57.out hb_69)
          have hz_72 : w.heap.size + 2 ≤ w_3.heap.size + 1 := Nat.le_trans hz_58 hz_70
          have c_73 : (w_3.alloc (.cells #[Value.slice none 0 0, Value.slice none 0 0] 28)).cell? ⟨w.heap.size, 0, none⟩ = some (.slice ea0_0 a0.1.length ecap0_0) := below_later (hb_69) c_59; clear c_59
          have c_74 : (w_3.alloc (.cells #[Value.slice none 0 0, Value.slice none 0 0] 28)).cell? ⟨w.heap.size, 1, none⟩ = some (.slice ea0_1 a0.2.length ecap0_1) := below_later (hb_69) c_60; clear c_60
          have c_75 : (w_3.alloc (.cells #[Value.slice none 0 0, Value.slice none 0 0] 28)).cell? ⟨w.heap.size + 1, 0, none⟩ = some (.slice ea1_0 a1.1.length ecap1_0) := below_later (hb_69) c_61; clear c_61
          have c_76 : (w_3.alloc (.cells #[Value.slice none 0 0, Value.slice none 0 0] 28)).cell? ⟨w.heap.size + 1, 1, none⟩ = some (.slice ea1_1 a1.2.length ecap1_1) := below_later (hb_69) c_62; clear c_62
          have RD_77 := Lib.hid (kMachine_ok.rbelow RD_63.out (Below.mono (hb_69) (by first | omega | (simp; done) | (simp; omega)))); clear RD_63
          have hz_78 : w_1.heap.size ≤ w_3.heap.size + 1 := Nat.le_trans hz_64 hz_70
          have RD_79 := Lib.hid (kMachine_ok.rbelow RD_65.out (Below.mono (hb_69) (by first | omega | (simp; done) | (simp; omega)))); clear RD_65
          have hz_80 : w_2.heap.size ≤ w_3.heap.size + 1 := Nat.le_trans hz_66 hz_70
          have OW_81 := Lib.hid (kMachine_ok.oframe OW_51.out (w' := (w_3.alloc (.cells #[Value.slice none 0 0, Value.slice none 0 0] 28))) fun b hm => (hb_69).block b (kMachine_ok.olt OW_51.out b hm)); clear OW_51
          have hz_82 : w_3.heap.size ≤ w_3.heap.size + 1 := Nat.le_trans hz_67 hz_70
          have HBASE_83 := Lib.hid (rstep HBASE_68.out hb_69); clear hb_69
          have c_84 : (w_3.alloc (.cells #[Value.slice none 0 0, Value.slice none 0 0] 28)).cell? ⟨w_3.heap.size, 0, none⟩ = some (Value.slice none 0 0) := by go_simp
          have c_85 : (w_3.alloc (.cells #[Value.slice none 0 0, Value.slice none 0 0] 28)).cell? ⟨w_3.heap.size, 1, none⟩ = some (Value.slice none 0 0) := by go_simp
          have f_86 : (w_3.alloc (.cells #[Value.slice none 0 0, Value.slice none 0 0] 28)).frozen? ⟨w_3.heap.size, 0, none⟩ = false := by go_simp
          have f_87 : (w_3.alloc (.cells #[Value.slice none 0 0, Value.slice none 0 0] 28)).frozen? ⟨w_3.heap.size, 1, none⟩ = false := by go_simp
          refine hK.out _ _ (Or.inl (by kernel_rfl)) (fun _ => ?_)
          clear hK K
          try simp only [Act.put, List.setIfInBounds_toArray, List.set_cons_zero, List.set_cons_succ]
          refine wpG_one (i := 9) (o := { dst := none, op := Go.Op.store 28 (Go.Operand.tmp 6) (Go.Operand.tmp 33), type := 0, pos := "exact.go:3654", after := #[{ on := 8, ground := Go.Ground.data }, { on := 6, ground := Go.Ground.data }, { on := 4, ground := Go.Ground.chain }, { on := 0, ground := Go.Ground.phase }, { on := 1, ground := Go.Ground.phase }, { on := 2, ground := Go.Ground.phase }, { on := 3, ground := Go.Ground.phase }, { on := 4, ground := Go.Ground.phase }, { on := 5, ground := Go.Ground.phase }, { on := 6, ground := Go.Ground.phase }, { on := 7, ground := Go.Ground.textOnly Go.Departure.lateStores }, { on := 8, ground := Go.Ground.phase }], guard := none }) rfl (by kernel_rfl) (fun K hK => ?_)
          go_simp
          refine hK.out _ _ (Or.inl (by kernel_rfl)) (fun _ => ?_)
          clear hK K
          try simp only [Act.put, List.setIfInBounds_toArray, List.set_cons_zero, List.set_cons_succ]
          refine wpG_pure (i := 10) (oi := { dst := some 7, op := Go.Op.assign (Go.Operand.tmp 34), type := 4, pos := "exact.go:3654", after := #[{ on := 7, ground := Go.Ground.data }, { on := 9, ground := Go.Ground.chain }, { on := 0, ground := Go.Ground.phase }, { on := 1, ground := Go.Ground.phase }, { on := 2, ground := Go.Ground.phase }, { on := 3, ground := Go.Ground.phase }, { on := 4, ground := Go.Ground.phase }, { on := 5, ground := Go.Ground.phase }, { on := 6, ground := Go.Ground.phase }, { on := 7, ground := Go.Ground.phase }, { on := 8, ground := Go.Ground.phase }, { on := 9, ground := Go.Ground.phase }], guard := none }) (v := ?vg104011) rfl (by kernel_rfl) (fun _ _ _ h => h) (Or.inl (by kernel_rfl)) (Or.inl ⟨by rfl, ?yg104011⟩) ?_
          case yg104011 => (intro wS _; go_simp <;> with_reducible rfl)
          try simp only [Act.put, List.setIfInBounds_toArray, List.set_cons_zero, List.set_cons_succ]
          refine wpG_done (by kernel_rfl) ?_
          go_wp2_with fail
          go_meet
          have hsame : ∀ b, b < w_3.heap.size → (w_3.alloc (.cells #[.slice ea0_49 r0.1.length ecap0_49, .slice ea1_49 r0.2.length ecap1_49] 28)).heap[b]? = w_3.heap[b]? := fun b hb => Below.block ((Below.refl _ _).alloc (Nat.le_refl _) _) b hb
          have hrdf : kMachine.rd (w_3.alloc (.cells #[.slice ea0_49 r0.1.length ecap0_49, .slice ea1_49 r0.2.length ecap1_49] 28)).heap.size (w_3.alloc (.cells #[.slice ea0_49 r0.1.length ecap0_49, .slice ea1_49 r0.2.length ecap1_49] 28)) [.slice ea0_49 r0.1.length ecap0_49, .slice ea1_49 r0.2.length ecap1_49] r0 := kMachine_ok.ord (kMachine_ok.oframe OW_81.out (fun b hm => (Below.block ((Below.refl w_3.heap.size w_3).alloc (Nat.le_refl _) _ : Below w_3.heap.size w_3 (w_3.alloc (.cells #[.slice ea0_49 r0.1.length ecap0_49, .slice ea1_49 r0.2.length ecap1_49] 28))) b (by have := HH_53.out b hm; first | omega | (simp; done) | (simp; omega))).trans (Below.block ((Below.refl w_3.heap.size w_3).alloc (Nat.le_refl _) _ : Below w_3.heap.size w_3 (w_3.alloc (.cells #[Value.slice none 0 0, Value.slice none 0 0] 28))) b (by have := HH_53.out b hm; first | omega | (simp; done) | (simp; omega))).symm)) (fun b hm => by have := HH_53.out b hm; first | omega | (simp; done) | (simp; omega))
          have hbf : Below v2.heap.size v2 (w_3.alloc (.cells #[.slice ea0_49 r0.1.length ecap0_49, .slice ea1_49 r0.2.length ecap1_49] 28)) := rstep HBASE_68.out ((Below.refl _ _).alloc (Nat.le_refl _) _)
          exact ⟨_, _, _, _, _, rfl, rfl, Lib.hid ⟨by go_simp, by go_simp, hrdf, hbf, by first | omega | (simp; done) | (simp; omega), by first | omega | (simp; done) | (simp; omega)⟩⟩
        · skip
          go_simp
          have hb_88 : Below w_2.heap.size w_2 (w_2.alloc (.cells #[Value.slice none 0 0, Value.slice none 0 0] 28)) := (Below.refl _ _).alloc (Nat.le_refl _) _
          have hz_89 : w_2.heap.size ≤ w_2.heap.size + 1 := by have := (hb_88).size; first | omega | (simp at this; omega)
          have HB_90 := Lib.hid (box2_step HB_39.out hb_88)
          have hz_91 : w.heap.size + 2 ≤ w_2.heap.size + 1 := Nat.le_trans hz_40 hz_89
          have c_92 : (w_2.alloc (.cells #[Value.slice none 0 0, Value.slice none 0 0] 28)).cell? ⟨w.heap.size, 0, none⟩ = some (.slice ea0_0 a0.1.length ecap0_0) := below_later (hb_88) c_41; clear c_41
          have c_93 : (w_2.alloc (.cells #[Value.slice none 0 0, Value.slice none 0 0] 28)).cell? ⟨w.heap.size, 1, none⟩ = some (.slice ea0_1 a0.2.length ecap0_1) := below_later (hb_88) c_42; clear c_42
          have c_94 : (w_2.alloc (.cells #[Value.slice none 0 0, Value.slice none 0 0] 28)).cell? ⟨w.heap.size + 1, 0, none⟩ = some (.slice ea1_0 a1.1.length ecap1_0) := below_later (hb_88) c_43; clear c_43
          have c_95 : (w_2.alloc (.cells #[Value.slice none 0 0, Value.slice none 0 0] 28)).cell? ⟨w.heap.size + 1, 1, none⟩ = some (.slice ea1_1 a1.2.length ecap1_1) := below_later (hb_88) c_44; clear c_44
          have RD_96 := Lib.hid (kMachine_ok.rbelow RD_45.out (Below.mono (hb_88) (by first | omega | (simp; done) | (simp; omega)))); clear RD_45
          have hz_97 : w_1.heap.size ≤ w_2.heap.size + 1 := Nat.le_trans hz_46 hz_89
          have RD_98 := Lib.hid (kMachine_ok.rbelow RD_36.out (Below.mono (hb_88) (by first | omega | (simp; done) | (simp; omega)))); clear RD_36
          have hz_99 : w_2.heap.size ≤ w_2.heap.size + 1 := Nat.le_trans hz_47 hz_89
          have HBASE_100 := Lib.hid (rstep HBASE_48.out hb_88); clear hb_88
          have c_101 : (w_2.alloc (.cells #[Value.slice none 0 0, Value.slice none 0 0] 28)).cell? ⟨w_2.heap.size, 0, none⟩ = some (Value.slice none 0 0) := by go_simp
          have c_102 : (w_2.alloc (.cells #[Value.slice none 0 0, Value.slice none 0 0] 28)).cell? ⟨w_2.heap.size, 1, none⟩ = some (Value.slice none 0 0) := by go_simp
          have f_103 : (w_2.alloc (.cells #[Value.slice none 0 0, Value.slice none 0 0] 28)).frozen? ⟨w_2.heap.size, 0, none⟩ = false := by go_simp
          have f_104 : (w_2.alloc (.cells #[Value.slice none 0 0, Value.slice none 0 0] 28)).frozen? ⟨w_2.heap.size, 1, none⟩ = false := by go_simp
          refine hK.out _ _ (Or.inl (by kernel_rfl)) (fun _ => ?_)
          clear hK K
          try simp only [Act.put, List.setIfInBounds_toArray, List.set_cons_zero, List.set_cons_succ]
          refine wpG_one (i := 4) (o := { dst := some 32, op := Go.Op.call { callee := Go.Callee.value (Go.Operand.func 22), args := #[Go.Operand.tmp 29, Go.Operand.tmp 31], argTypes := #[28, 28] }, type := 35, pos := "exact.go:3654", after := #[{ on := 1, ground := Go.Ground.data }, { on := 3, ground := Go.Ground.data }, { on := 3, ground := Go.Ground.chain }], guard := none }) rfl (by kernel_rfl) (fun K hK => ?_)
          go_simp
          refine (HS.out _ [.slice ea0_15 a0.1.length ecap0_15, .slice ea1_15 a0.2.length ecap1_15] [.slice ea0_31 a1.1.length ecap0_31, .slice ea1_31 a1.2.length ecap1_31] (kMachine_ok.rmono RD_96.out (by first | omega | (simp; done) | (simp; omega))) (kMachine_ok.rmono RD_98.out (by first | omega | (simp; done) | (simp; omega)))).mono ?_
          rintro e w_4 ⟨cs_105, fp_105, he, ho, hnd, hge, hb⟩
          have hrd := kMachine_ok.ord ho (B := w_4.heap.size) (kMachine_ok.olt ho)
          obtain ⟨ea0_105, ecap0_105, ea1_105, ecap1_105, rfl⟩ : ∃ ea0_105 ecap0_105 ea1_105 ecap1_105, cs_105 = [.slice ea0_105 r0.1.length ecap0_105, .slice ea1_105 r0.2.length ecap1_105] := by
            obtain ⟨ea0_105, ecap0_105, ea1_105, ecap1_105, h, _⟩ := Machine_rd hrd
            exact ⟨ea0_105, ecap0_105, ea1_105, ecap1_105, h⟩
          change e = .returned (.tuple #[(.agg #[.slice ea0_105 r0.1.length ecap0_105, .slice ea1_105 r0.2.length ecap1_105]), (.bool r1)]) at he
          subst he
          have RD_106 := Lib.hid hrd; clear hrd
          have OW_107 := Lib.hid ho; have HN_110 := Lib.hid hnd
          have HL_108 : Hid (∀ b ∈ fp_105, w_2.heap.size + 1 ≤ b) := Lib.hid fun b hm => by have := hge b hm; first | omega | (simp at this; omega)
          have HH_109 : Hid (∀ b ∈ fp_105, b < w_4.heap.size) := Lib.hid (kMachine_ok.olt ho)
          clear ho hnd hge
          have hb_111 := hb; clear hb
          have hz_112 : w_2.heap.size + 1 ≤ w_4.heap.size := by have := (hb_111).size; first | omega | (simp at this; omega)
          have HB_113 := Lib.hid (box2_step HB_90.out hb_111)
          have hz_114 : w.heap.size + 2 ≤ w_4.heap.size := Nat.le_trans hz_91 hz_112
          have c_115 : w_4.cell? ⟨w.heap.size, 0, none⟩ = some (.slice ea0_0 a0.1.length ecap0_0) := below_later (hb_111) c_92; clear c_92
          have c_116 : w_4.cell? ⟨w.heap.size, 1, none⟩ = some (.slice ea0_1 a0.2.length ecap0_1) := below_later (hb_111) c_93; clear c_93
          have c_117 : w_4.cell? ⟨w.heap.size + 1, 0, none⟩ = some (.slice ea1_0 a1.1.length ecap1_0) := below_later (hb_111) c_94; clear c_94
          have c_118 : w_4.cell? ⟨w.heap.size + 1, 1, none⟩ = some (.slice ea1_1 a1.2.length ecap1_1) := below_later (hb_111) c_95; clear c_95
          have c_119 : w_4.cell? ⟨w_2.heap.size, 0, none⟩ = some (Value.slice none 0 0) := below_later (hb_111) c_101; clear c_101
          have c_120 : w_4.cell? ⟨w_2.heap.size, 1, none⟩ = some (Value.slice none 0 0) := below_later (hb_111) c_102; clear c_102
          have f_121 : w_4.frozen? ⟨w_2.heap.size, 0, none⟩ = false := (Below.frozen (hb_111) (p := ⟨w_2.heap.size, 0, none⟩) (by show w_2.heap.size < _; first | omega | (simp; done) | (simp; omega))).trans f_103; clear f_103
          have f_122 : w_4.frozen? ⟨w_2.heap.size, 1, none⟩ = false := (Below.frozen (hb_111) (p := ⟨w_2.heap.size, 1, none⟩) (by show w_2.heap.size < _; first | omega | (simp; done) | (simp; omega))).trans f_104; clear f_104
          have RD_123 := Lib.hid (kMachine_ok.rbelow RD_96.out (Below.mono (hb_111) (by first | omega | (simp; done) | (simp; omega)))); clear RD_96
          have hz_124 : w_1.heap.size ≤ w_4.heap.size := Nat.le_trans hz_97 hz_112
          have RD_125 := Lib.hid (kMachine_ok.rbelow RD_98.out (Below.mono (hb_111) (by first | omega | (simp; done) | (simp; omega)))); clear RD_98
          have hz_126 : w_2.heap.size ≤ w_4.heap.size := Nat.le_trans hz_99 hz_112
          have HBLAST := Lib.hid hb_111
          clear hb_111
          have hz_127 : w_4.heap.size ≤ w_4.heap.size := Nat.le_refl _
          have HBASE_128 := Lib.hid (rstep HBASE_100.out HBLAST.out); clear HBLAST
          refine hK.out _ _ (Or.inl (by kernel_rfl)) (fun _ => ?_)
          clear hK K
          try simp only [Act.put, List.setIfInBounds_toArray, List.set_cons_zero, List.set_cons_succ]
          refine wpG_pure (i := 5) (oi := { dst := some 27, op := Go.Op.move (Go.Operand.tmp 32), type := 35, pos := "exact.go:3654", after := #[{ on := 4, ground := Go.Ground.data }], guard := none }) (v := ?vg104014) rfl (by kernel_rfl) (fun _ _ _ h => h) (Or.inl (by kernel_rfl)) (Or.inl ⟨by rfl, ?yg104014⟩) ?_
          case yg104014 => (intro wS _; go_simp <;> with_reducible rfl)
          try simp only [Act.put, List.setIfInBounds_toArray, List.set_cons_zero, List.set_cons_succ]
          refine wpG_pure (i := 6) (oi := { dst := some 33, op := Go.Op.extract (Go.Operand.tmp 27) 0, type := 28, pos := "exact.go:3654", after := #[{ on := 5, ground := Go.Ground.data }], guard := none }) (v := ?vg104015) rfl (by kernel_rfl) (fun _ _ _ h => h) (Or.inl (by kernel_rfl)) (Or.inl ⟨by rfl, ?yg104015⟩) ?_
          case yg104015 => (intro wS _; go_simp <;> with_reducible rfl)
          try simp only [Act.put, List.setIfInBounds_toArray, List.set_cons_zero, List.set_cons_succ]
          refine wpG_pure (i := 7) (oi := { dst := some 34, op := Go.Op.extract (Go.Operand.tmp 27) 1, type := 4, pos := "exact.go:3654", after := #[{ on := 5, ground := Go.Ground.data }, { on := 9, ground := Go.Ground.gcOnly Go.Departure.lateStores }], guard := none }) (v := ?vg104016) rfl (by kernel_rfl) (fun _ _ _ h => h) (Or.inl (by kernel_rfl)) (Or.inl ⟨by rfl, ?yg104016⟩) ?_
          case yg104016 => (intro wS _; go_simp <;> with_reducible rfl)
          try simp only [Act.put, List.setIfInBounds_toArray, List.set_cons_zero, List.set_cons_succ]
          refine wpG_one (i := 9) (o := { dst := none, op := Go.Op.store 28 (Go.Operand.tmp 6) (Go.Operand.tmp 33), type := 0, pos := "exact.go:3654", after := #[{ on := 8, ground := Go.Ground.data }, { on := 6, ground := Go.Ground.data }, { on := 4, ground := Go.Ground.chain }, { on := 0, ground := Go.Ground.phase }, { on := 1, ground := Go.Ground.phase }, { on := 2, ground := Go.Ground.phase }, { on := 3, ground := Go.Ground.phase }, { on := 4, ground := Go.Ground.phase }, { on := 5, ground := Go.Ground.phase }, { on := 6, ground := Go.Ground.phase }, { on := 7, ground := Go.Ground.textOnly Go.Departure.lateStores }, { on := 8, ground := Go.Ground.phase }], guard := none }) rfl (by kernel_rfl) (fun K hK => ?_)
          go_simp
          refine hK.out _ _ (Or.inl (by kernel_rfl)) (fun _ => ?_)
          clear hK K
          try simp only [Act.put, List.setIfInBounds_toArray, List.set_cons_zero, List.set_cons_succ]
          refine wpG_pure (i := 10) (oi := { dst := some 7, op := Go.Op.assign (Go.Operand.tmp 34), type := 4, pos := "exact.go:3654", after := #[{ on := 7, ground := Go.Ground.data }, { on := 9, ground := Go.Ground.chain }, { on := 0, ground := Go.Ground.phase }, { on := 1, ground := Go.Ground.phase }, { on := 2, ground := Go.Ground.phase }, { on := 3, ground := Go.Ground.phase }, { on := 4, ground := Go.Ground.phase }, { on := 5, ground := Go.Ground.phase }, { on := 6, ground := Go.Ground.phase }, { on := 7, ground := Go.Ground.phase }, { on := 8, ground := Go.Ground.phase }, { on := 9, ground := Go.Ground.phase }], guard := none }) (v := ?vg104018) rfl (by kernel_rfl) (fun _ _ _ h => h) (Or.inl (by kernel_rfl)) (Or.inl ⟨by rfl, ?yg104018⟩) ?_
          case yg104018 => (intro wS _; go_simp <;> with_reducible rfl)
          try simp only [Act.put, List.setIfInBounds_toArray, List.set_cons_zero, List.set_cons_succ]
          refine wpG_done (by kernel_rfl) ?_
          go_wp2_with fail
          go_meet
          have hrdf : kMachine.rd ((w_4.setCell ⟨w_2.heap.size, 0, none⟩ (.slice ea0_105 r0.1.length ecap0_105)).setCell ⟨w_2.heap.size, 1, none⟩ (.slice ea1_105 r0.2.length ecap1_105)).heap.size ((w_4.setCell ⟨w_2.heap.size, 0, none⟩ (.slice ea0_105 r0.1.length ecap0_105)).setCell ⟨w_2.heap.size, 1, none⟩ (.slice ea1_105 r0.2.length ecap1_105)) [.slice ea0_105 r0.1.length ecap0_105, .slice ea1_105 r0.2.length ecap1_105] r0 := kMachine_ok.ord (kMachine_ok.oframe OW_107.out (fun b hm => by rw [Below.heap_setCell _ _ _ _ (by show b ≠ w_2.heap.size; have := HL_108.out b hm; omega), Below.heap_setCell _ _ _ _ (by show b ≠ w_2.heap.size; have := HL_108.out b hm; omega)])) (fun b hm => by have := HH_109.out b hm; first | omega | (simp; done) | (simp; omega))
          have hbf : Below v2.heap.size v2 ((w_4.setCell ⟨w_2.heap.size, 0, none⟩ (.slice ea0_105 r0.1.length ecap0_105)).setCell ⟨w_2.heap.size, 1, none⟩ (.slice ea1_105 r0.2.length ecap1_105)) := ((HBASE_128.out.setCell (p := ⟨w_2.heap.size, 0, none⟩) (by show v2.heap.size ≤ w_2.heap.size; omega) _).setCell (p := ⟨w_2.heap.size, 1, none⟩) (by show v2.heap.size ≤ w_2.heap.size; omega) _)
          exact ⟨_, _, _, _, _, rfl, rfl, Lib.hid ⟨by go_simp, by go_simp, hrdf, hbf, by first | omega | (simp; done) | (simp; omega), by first | omega | (simp; done) | (simp; omega)⟩⟩
      · skip
        go_simp
        have hb_129 : Below w_1.heap.size w_1 (w_1.alloc (.cells #[Value.slice none 0 0, Value.slice none 0 0] 28)) := (Below.refl _ _).alloc (Nat.le_refl _) _
        have hz_130 : w_1.heap.size ≤ w_1.heap.size + 1 := by have := (hb_129).size; first | omega | (simp at this; omega)
        have HB_131 := Lib.hid (box2_step HB_23.out hb_129)
        have hz_132 : w.heap.size + 2 ≤ w_1.heap.size + 1 := Nat.le_trans hz_24 hz_130
        have c_133 : (w_1.alloc (.cells #[Value.slice none 0 0, Value.slice none 0 0] 28)).cell? ⟨w.heap.size, 0, none⟩ = some (.slice ea0_0 a0.1.length ecap0_0) := below_later (hb_129) c_25; clear c_25
        have c_134 : (w_1.alloc (.cells #[Value.slice none 0 0, Value.slice none 0 0] 28)).cell? ⟨w.heap.size, 1, none⟩ = some (.slice ea0_1 a0.2.length ecap0_1) := below_later (hb_129) c_26; clear c_26
        have c_135 : (w_1.alloc (.cells #[Value.slice none 0 0, Value.slice none 0 0] 28)).cell? ⟨w.heap.size + 1, 0, none⟩ = some (.slice ea1_0 a1.1.length ecap1_0) := below_later (hb_129) c_27; clear c_27
        have c_136 : (w_1.alloc (.cells #[Value.slice none 0 0, Value.slice none 0 0] 28)).cell? ⟨w.heap.size + 1, 1, none⟩ = some (.slice ea1_1 a1.2.length ecap1_1) := below_later (hb_129) c_28; clear c_28
        have RD_137 := Lib.hid (kMachine_ok.rbelow RD_20.out (Below.mono (hb_129) (by first | omega | (simp; done) | (simp; omega)))); clear RD_20
        have hz_138 : w_1.heap.size ≤ w_1.heap.size + 1 := Nat.le_trans hz_29 hz_130
        have HBASE_139 := Lib.hid (rstep HBASE_30.out hb_129); clear hb_129
        have c_140 : (w_1.alloc (.cells #[Value.slice none 0 0, Value.slice none 0 0] 28)).cell? ⟨w_1.heap.size, 0, none⟩ = some (Value.slice none 0 0) := by go_simp
        have c_141 : (w_1.alloc (.cells #[Value.slice none 0 0, Value.slice none 0 0] 28)).cell? ⟨w_1.heap.size, 1, none⟩ = some (Value.slice none 0 0) := by go_simp
        have f_142 : (w_1.alloc (.cells #[Value.slice none 0 0, Value.slice none 0 0] 28)).frozen? ⟨w_1.heap.size, 0, none⟩ = false := by go_simp
        have f_143 : (w_1.alloc (.cells #[Value.slice none 0 0, Value.slice none 0 0] 28)).frozen? ⟨w_1.heap.size, 1, none⟩ = false := by go_simp
        refine hK.out _ _ (Or.inr ?khHeld104019) (fun hHeld104019S => ?_)
        case khHeld104019 => exact ⟨c_133, c_134, c_135, c_136⟩
        have hHeld104019 := hHeld104019S.held (by kernel_rfl)
        clear hK K
        try simp only [Act.put, List.setIfInBounds_toArray, List.set_cons_zero, List.set_cons_succ]
        refine wpG_one (i := 3) (o := { dst := some 31, op := Go.Op.call { callee := Go.Callee.value (Go.Operand.func 13), args := #[Go.Operand.tmp 30], argTypes := #[25] }, type := 28, pos := "exact.go:3654", after := #[{ on := 2, ground := Go.Ground.data }, { on := 1, ground := Go.Ground.chain }], guard := none }) rfl (by kernel_rfl) (fun K hK => ?_)
        go_simp
        refine (HTO1.out _ (box2_below HB_131.out)).mono ?_
        rintro e w_5 ⟨cs_144, fp_144, he, ho, hnd, hge, hb⟩
        have hrd := kMachine_ok.ord ho (B := w_5.heap.size) (kMachine_ok.olt ho)
        obtain ⟨ea0_144, ecap0_144, ea1_144, ecap1_144, rfl, _, _⟩ := Machine_rd hrd
        change e = .returned (.agg #[.slice ea0_144 a1.1.length ecap0_144, .slice ea1_144 a1.2.length ecap1_144]) at he
        subst he
        have hrd2 := kMachine_ok.ord ho (B := w_5.heap.size) (kMachine_ok.olt ho)
        have OW_145 := Lib.hid ho; have HN_148 := Lib.hid hnd
        have HL_146 : Hid (∀ b ∈ fp_144, w_1.heap.size + 1 ≤ b) := Lib.hid fun b hm => by have := hge b hm; first | omega | (simp at this; omega)
        have HH_147 : Hid (∀ b ∈ fp_144, b < w_5.heap.size) := Lib.hid (kMachine_ok.olt ho)
        have RD_149 := Lib.hid hrd2; clear ho hnd hge hrd2 hrd
        have hb_150 := hb; clear hb
        have hz_151 : w_1.heap.size + 1 ≤ w_5.heap.size := by have := (hb_150).size; first | omega | (simp at this; omega)
        have HB_152 := Lib.hid (box2_step HB_131.out hb_150)
        have hz_153 : w.heap.size + 2 ≤ w_5.heap.size := Nat.le_trans hz_132 hz_151
        have c_154 : w_5.cell? ⟨w.heap.size, 0, none⟩ = some (.slice ea0_0 a0.1.length ecap0_0) := below_later (hb_150) c_133; clear c_133
        have c_155 : w_5.cell? ⟨w.heap.size, 1, none⟩ = some (.slice ea0_1 a0.2.length ecap0_1) := below_later (hb_150) c_134; clear c_134
        have c_156 : w_5.cell? ⟨w.heap.size + 1, 0, none⟩ = some (.slice ea1_0 a1.1.length ecap1_0) := below_later (hb_150) c_135; clear c_135
        have c_157 : w_5.cell? ⟨w.heap.size + 1, 1, none⟩ = some (.slice ea1_1 a1.2.length ecap1_1) := below_later (hb_150) c_136; clear c_136
        have c_158 : w_5.cell? ⟨w_1.heap.size, 0, none⟩ = some (Value.slice none 0 0) := below_later (hb_150) c_140; clear c_140
        have c_159 : w_5.cell? ⟨w_1.heap.size, 1, none⟩ = some (Value.slice none 0 0) := below_later (hb_150) c_141; clear c_141
        have f_160 : w_5.frozen? ⟨w_1.heap.size, 0, none⟩ = false := (Below.frozen (hb_150) (p := ⟨w_1.heap.size, 0, none⟩) (by show w_1.heap.size < _; first | omega | (simp; done) | (simp; omega))).trans f_142; clear f_142
        have f_161 : w_5.frozen? ⟨w_1.heap.size, 1, none⟩ = false := (Below.frozen (hb_150) (p := ⟨w_1.heap.size, 1, none⟩) (by show w_1.heap.size < _; first | omega | (simp; done) | (simp; omega))).trans f_143; clear f_143
        have RD_162 := Lib.hid (kMachine_ok.rbelow RD_137.out (Below.mono (hb_150) (by first | omega | (simp; done) | (simp; omega)))); clear RD_137
        have hz_163 : w_1.heap.size ≤ w_5.heap.size := Nat.le_trans hz_138 hz_151
        have HBLAST := Lib.hid hb_150
        have HQ := Lib.hid hb_150; clear hb_150 HQ
        have hz_164 : w_5.heap.size ≤ w_5.heap.size := Nat.le_refl _
        have HBASE_165 := Lib.hid (rstep HBASE_139.out HBLAST.out); clear HBLAST
        refine hK.out _ _ (Or.inl (by kernel_rfl)) (fun _ => ?_)
        clear hK K
        try simp only [Act.put, List.setIfInBounds_toArray, List.set_cons_zero, List.set_cons_succ]
        refine wpG_one (i := 4) (o := { dst := some 32, op := Go.Op.call { callee := Go.Callee.value (Go.Operand.func 22), args := #[Go.Operand.tmp 29, Go.Operand.tmp 31], argTypes := #[28, 28] }, type := 35, pos := "exact.go:3654", after := #[{ on := 1, ground := Go.Ground.data }, { on := 3, ground := Go.Ground.data }, { on := 3, ground := Go.Ground.chain }], guard := none }) rfl (by kernel_rfl) (fun K hK => ?_)
        go_simp
        refine (HS.out _ [.slice ea0_15 a0.1.length ecap0_15, .slice ea1_15 a0.2.length ecap1_15] [.slice ea0_144 a1.1.length ecap0_144, .slice ea1_144 a1.2.length ecap1_144] (kMachine_ok.rmono RD_162.out (by first | omega | (simp; done) | (simp; omega))) (kMachine_ok.rmono RD_149.out (by first | omega | (simp; done) | (simp; omega)))).mono ?_
        rintro e w_6 ⟨cs_166, fp_166, he, ho, hnd, hge, hb⟩
        have hrd := kMachine_ok.ord ho (B := w_6.heap.size) (kMachine_ok.olt ho)
        obtain ⟨ea0_166, ecap0_166, ea1_166, ecap1_166, rfl⟩ : ∃ ea0_166 ecap0_166 ea1_166 ecap1_166, cs_166 = [.slice ea0_166 r0.1.length ecap0_166, .slice ea1_166 r0.2.length ecap1_166] := by
          obtain ⟨ea0_166, ecap0_166, ea1_166, ecap1_166, h, _⟩ := Machine_rd hrd
          exact ⟨ea0_166, ecap0_166, ea1_166, ecap1_166, h⟩
        change e = .returned (.tuple #[(.agg #[.slice ea0_166 r0.1.length ecap0_166, .slice ea1_166 r0.2.length ecap1_166]), (.bool r1)]) at he
        subst he
        have RD_167 := Lib.hid hrd; clear hrd
        have OW_168 := Lib.hid ho; have HN_171 := Lib.hid hnd
        have HL_169 : Hid (∀ b ∈ fp_166, w_5.heap.size ≤ b) := Lib.hid fun b hm => by have := hge b hm; first | omega | (simp at this; omega)
        have HH_170 : Hid (∀ b ∈ fp_166, b < w_6.heap.size) := Lib.hid (kMachine_ok.olt ho)
        clear ho hnd hge
        have hb_172 := hb; clear hb
        have hz_173 : w_5.heap.size ≤ w_6.heap.size := by have := (hb_172).size; first | omega | (simp at this; omega)
        have HB_174 := Lib.hid (box2_step HB_152.out hb_172)
        have hz_175 : w.heap.size + 2 ≤ w_6.heap.size := Nat.le_trans hz_153 hz_173
        have c_176 : w_6.cell? ⟨w.heap.size, 0, none⟩ = some (.slice ea0_0 a0.1.length ecap0_0) := below_later (hb_172) c_154; clear c_154
        have c_177 : w_6.cell? ⟨w.heap.size, 1, none⟩ = some (.slice ea0_1 a0.2.length ecap0_1) := below_later (hb_172) c_155; clear c_155
        have c_178 : w_6.cell? ⟨w.heap.size + 1, 0, none⟩ = some (.slice ea1_0 a1.1.length ecap1_0) := below_later (hb_172) c_156; clear c_156
        have c_179 : w_6.cell? ⟨w.heap.size + 1, 1, none⟩ = some (.slice ea1_1 a1.2.length ecap1_1) := below_later (hb_172) c_157; clear c_157
        have c_180 : w_6.cell? ⟨w_1.heap.size, 0, none⟩ = some (Value.slice none 0 0) := below_later (hb_172) c_158; clear c_158
        have c_181 : w_6.cell? ⟨w_1.heap.size, 1, none⟩ = some (Value.slice none 0 0) := below_later (hb_172) c_159; clear c_159
        have f_182 : w_6.frozen? ⟨w_1.heap.size, 0, none⟩ = false := (Below.frozen (hb_172) (p := ⟨w_1.heap.size, 0, none⟩) (by show w_1.heap.size < _; first | omega | (simp; done) | (simp; omega))).trans f_160; clear f_160
        have f_183 : w_6.frozen? ⟨w_1.heap.size, 1, none⟩ = false := (Below.frozen (hb_172) (p := ⟨w_1.heap.size, 1, none⟩) (by show w_1.heap.size < _; first | omega | (simp; done) | (simp; omega))).trans f_161; clear f_161
        have RD_184 := Lib.hid (kMachine_ok.rbelow RD_162.out (Below.mono (hb_172) (by first | omega | (simp; done) | (simp; omega)))); clear RD_162
        have hz_185 : w_1.heap.size ≤ w_6.heap.size := Nat.le_trans hz_163 hz_173
        have RD_186 := Lib.hid (kMachine_ok.rbelow RD_149.out (Below.mono (hb_172) (by first | omega | (simp; done) | (simp; omega)))); clear RD_149
        have hz_187 : w_5.heap.size ≤ w_6.heap.size := Nat.le_trans hz_164 hz_173
        have HBLAST := Lib.hid hb_172
        clear hb_172
        have hz_188 : w_6.heap.size ≤ w_6.heap.size := Nat.le_refl _
        have HBASE_189 := Lib.hid (rstep HBASE_165.out HBLAST.out); clear HBLAST
        refine hK.out _ _ (Or.inl (by kernel_rfl)) (fun _ => ?_)
        clear hK K
        try simp only [Act.put, List.setIfInBounds_toArray, List.set_cons_zero, List.set_cons_succ]
        refine wpG_pure (i := 5) (oi := { dst := some 27, op := Go.Op.move (Go.Operand.tmp 32), type := 35, pos := "exact.go:3654", after := #[{ on := 4, ground := Go.Ground.data }], guard := none }) (v := ?vg104022) rfl (by kernel_rfl) (fun _ _ _ h => h) (Or.inl (by kernel_rfl)) (Or.inl ⟨by rfl, ?yg104022⟩) ?_
        case yg104022 => (intro wS _; go_simp <;> with_reducible rfl)
        try simp only [Act.put, List.setIfInBounds_toArray, List.set_cons_zero, List.set_cons_succ]
        refine wpG_pure (i := 6) (oi := { dst := some 33, op := Go.Op.extract (Go.Operand.tmp 27) 0, type := 28, pos := "exact.go:3654", after := #[{ on := 5, ground := Go.Ground.data }], guard := none }) (v := ?vg104023) rfl (by kernel_rfl) (fun _ _ _ h => h) (Or.inl (by kernel_rfl)) (Or.inl ⟨by rfl, ?yg104023⟩) ?_
        case yg104023 => (intro wS _; go_simp <;> with_reducible rfl)
        try simp only [Act.put, List.setIfInBounds_toArray, List.set_cons_zero, List.set_cons_succ]
        refine wpG_pure (i := 7) (oi := { dst := some 34, op := Go.Op.extract (Go.Operand.tmp 27) 1, type := 4, pos := "exact.go:3654", after := #[{ on := 5, ground := Go.Ground.data }, { on := 9, ground := Go.Ground.gcOnly Go.Departure.lateStores }], guard := none }) (v := ?vg104024) rfl (by kernel_rfl) (fun _ _ _ h => h) (Or.inl (by kernel_rfl)) (Or.inl ⟨by rfl, ?yg104024⟩) ?_
        case yg104024 => (intro wS _; go_simp <;> with_reducible rfl)
        try simp only [Act.put, List.setIfInBounds_toArray, List.set_cons_zero, List.set_cons_succ]
        refine wpG_one (i := 9) (o := { dst := none, op := Go.Op.store 28 (Go.Operand.tmp 6) (Go.Operand.tmp 33), type := 0, pos := "exact.go:3654", after := #[{ on := 8, ground := Go.Ground.data }, { on := 6, ground := Go.Ground.data }, { on := 4, ground := Go.Ground.chain }, { on := 0, ground := Go.Ground.phase }, { on := 1, ground := Go.Ground.phase }, { on := 2, ground := Go.Ground.phase }, { on := 3, ground := Go.Ground.phase }, { on := 4, ground := Go.Ground.phase }, { on := 5, ground := Go.Ground.phase }, { on := 6, ground := Go.Ground.phase }, { on := 7, ground := Go.Ground.textOnly Go.Departure.lateStores }, { on := 8, ground := Go.Ground.phase }], guard := none }) rfl (by kernel_rfl) (fun K hK => ?_)
        go_simp
        refine hK.out _ _ (Or.inl (by kernel_rfl)) (fun _ => ?_)
        clear hK K
        try simp only [Act.put, List.setIfInBounds_toArray, List.set_cons_zero, List.set_cons_succ]
        refine wpG_pure (i := 10) (oi := { dst := some 7, op := Go.Op.assign (Go.Operand.tmp 34), type := 4, pos := "exact.go:3654", after := #[{ on := 7, ground := Go.Ground.data }, { on := 9, ground := Go.Ground.chain }, { on := 0, ground := Go.Ground.phase }, { on := 1, ground := Go.Ground.phase }, { on := 2, ground := Go.Ground.phase }, { on := 3, ground := Go.Ground.phase }, { on := 4, ground := Go.Ground.phase }, { on := 5, ground := Go.Ground.phase }, { on := 6, ground := Go.Ground.phase }, { on := 7, ground := Go.Ground.phase }, { on := 8, ground := Go.Ground.phase }, { on := 9, ground := Go.Ground.phase }], guard := none }) (v := ?vg104026) rfl (by kernel_rfl) (fun _ _ _ h => h) (Or.inl (by kernel_rfl)) (Or.inl ⟨by rfl, ?yg104026⟩) ?_
        case yg104026 => (intro wS _; go_simp <;> with_reducible rfl)
        try simp only [Act.put, List.setIfInBounds_toArray, List.set_cons_zero, List.set_cons_succ]
        refine wpG_done (by kernel_rfl) ?_
        go_wp2_with fail
        go_meet
        have hrdf : kMachine.rd ((w_6.setCell ⟨w_1.heap.size, 0, none⟩ (.slice ea0_166 r0.1.length ecap0_166)).setCell ⟨w_1.heap.size, 1, none⟩ (.slice ea1_166 r0.2.length ecap1_166)).heap.size ((w_6.setCell ⟨w_1.heap.size, 0, none⟩ (.slice ea0_166 r0.1.length ecap0_166)).setCell ⟨w_1.heap.size, 1, none⟩ (.slice ea1_166 r0.2.length ecap1_166)) [.slice ea0_166 r0.1.length ecap0_166, .slice ea1_166 r0.2.length ecap1_166] r0 := kMachine_ok.ord (kMachine_ok.oframe OW_168.out (fun b hm => by rw [Below.heap_setCell _ _ _ _ (by show b ≠ w_1.heap.size; have := HL_169.out b hm; omega), Below.heap_setCell _ _ _ _ (by show b ≠ w_1.heap.size; have := HL_169.out b hm; omega)])) (fun b hm => by have := HH_170.out b hm; first | omega | (simp; done) | (simp; omega))
        have hbf : Below v2.heap.size v2 ((w_6.setCell ⟨w_1.heap.size, 0, none⟩ (.slice ea0_166 r0.1.length ecap0_166)).setCell ⟨w_1.heap.size, 1, none⟩ (.slice ea1_166 r0.2.length ecap1_166)) := ((HBASE_189.out.setCell (p := ⟨w_1.heap.size, 0, none⟩) (by show v2.heap.size ≤ w_1.heap.size; omega) _).setCell (p := ⟨w_1.heap.size, 1, none⟩) (by show v2.heap.size ≤ w_1.heap.size; omega) _)
        exact ⟨_, _, _, _, _, rfl, rfl, Lib.hid ⟨by go_simp, by go_simp, hrdf, hbf, by first | omega | (simp; done) | (simp; omega), by first | omega | (simp; done) | (simp; omega)⟩⟩
    · skip
      go_simp
      have hb_190 : Below v2.drew.heap.size v2.drew (v2.alloc (.cells #[Value.slice none 0 0, Value.slice none 0 0] 28)).drew := below_alloc_drew _ _
      have hz_191 : v2.heap.size ≤ v2.heap.size + 1 := by have := (hb_190).size; first | omega | (simp at this; omega)
      have HB_192 := Lib.hid (box2_step HB_8.out hb_190)
      have hz_193 : w.heap.size + 2 ≤ v2.heap.size + 1 := Nat.le_trans hz_9 hz_191
      have c_194 : (v2.alloc (.cells #[Value.slice none 0 0, Value.slice none 0 0] 28)).drew.cell? ⟨w.heap.size, 0, none⟩ = some (.slice ea0_0 a0.1.length ecap0_0) := below_later (hb_190) c_10; clear c_10
      have c_195 : (v2.alloc (.cells #[Value.slice none 0 0, Value.slice none 0 0] 28)).drew.cell? ⟨w.heap.size, 1, none⟩ = some (.slice ea0_1 a0.2.length ecap0_1) := below_later (hb_190) c_11; clear c_11
      have c_196 : (v2.alloc (.cells #[Value.slice none 0 0, Value.slice none 0 0] 28)).drew.cell? ⟨w.heap.size + 1, 0, none⟩ = some (.slice ea1_0 a1.1.length ecap1_0) := below_later (hb_190) c_12; clear c_12
      have c_197 : (v2.alloc (.cells #[Value.slice none 0 0, Value.slice none 0 0] 28)).drew.cell? ⟨w.heap.size + 1, 1, none⟩ = some (.slice ea1_1 a1.2.length ecap1_1) := below_later (hb_190) c_13; clear c_13
      have HBASE_198 := Lib.hid (rstep HBASE_14.out hb_190); clear hb_190
      have c_199 : (v2.alloc (.cells #[Value.slice none 0 0, Value.slice none 0 0] 28)).drew.cell? ⟨v2.heap.size, 0, none⟩ = some (Value.slice none 0 0) := by go_simp
      have c_200 : (v2.alloc (.cells #[Value.slice none 0 0, Value.slice none 0 0] 28)).drew.cell? ⟨v2.heap.size, 1, none⟩ = some (Value.slice none 0 0) := by go_simp
      have f_201 : (v2.alloc (.cells #[Value.slice none 0 0, Value.slice none 0 0] 28)).drew.frozen? ⟨v2.heap.size, 0, none⟩ = false := by go_simp
      have f_202 : (v2.alloc (.cells #[Value.slice none 0 0, Value.slice none 0 0] 28)).drew.frozen? ⟨v2.heap.size, 1, none⟩ = false := by go_simp
      refine hK.out _ _ (Or.inr ?khHeld104027) (fun hHeld104027S => ?_)
      case khHeld104027 => exact ⟨c_194, c_195, c_196, c_197⟩
      have hHeld104027 := hHeld104027S.held (by kernel_rfl)
      clear hK K
      try simp only [Act.put, List.setIfInBounds_toArray, List.set_cons_zero, List.set_cons_succ]
      refine wpG_one (i := 1) (o := { dst := some 29, op := Go.Op.call { callee := Go.Callee.value (Go.Operand.func 13), args := #[Go.Operand.tmp 28], argTypes := #[25] }, type := 28, pos := "exact.go:3654", after := #[{ on := 0, ground := Go.Ground.data }], guard := none }) rfl (by kernel_rfl) (fun K hK => ?_)
      go_simp
      refine (HTO0.out _ (box2_below HB_192.out)).mono ?_
      rintro e w_7 ⟨cs_203, fp_203, he, ho, hnd, hge, hb⟩
      have hrd := kMachine_ok.ord ho (B := w_7.heap.size) (kMachine_ok.olt ho)
      obtain ⟨ea0_203, ecap0_203, ea1_203, ecap1_203, rfl, _, _⟩ := Machine_rd hrd
      change e = .returned (.agg #[.slice ea0_203 a0.1.length ecap0_203, .slice ea1_203 a0.2.length ecap1_203]) at he
      subst he
      have hrd2 := kMachine_ok.ord ho (B := w_7.heap.size) (kMachine_ok.olt ho)
      have OW_204 := Lib.hid ho; have HN_207 := Lib.hid hnd
      have HL_205 : Hid (∀ b ∈ fp_203, v2.heap.size + 1 ≤ b) := Lib.hid fun b hm => by have := hge b hm; first | omega | (simp at this; omega)
      have HH_206 : Hid (∀ b ∈ fp_203, b < w_7.heap.size) := Lib.hid (kMachine_ok.olt ho)
      have RD_208 := Lib.hid hrd2; clear ho hnd hge hrd2 hrd
      have hb_209 := hb; clear hb
      have hz_210 : v2.heap.size + 1 ≤ w_7.heap.size := by have := (hb_209).size; first | omega | (simp at this; omega)
      have HB_211 := Lib.hid (box2_step HB_192.out hb_209)
      have hz_212 : w.heap.size + 2 ≤ w_7.heap.size := Nat.le_trans hz_193 hz_210
      have c_213 : w_7.cell? ⟨w.heap.size, 0, none⟩ = some (.slice ea0_0 a0.1.length ecap0_0) := below_later (hb_209) c_194; clear c_194
      have c_214 : w_7.cell? ⟨w.heap.size, 1, none⟩ = some (.slice ea0_1 a0.2.length ecap0_1) := below_later (hb_209) c_195; clear c_195
      have c_215 : w_7.cell? ⟨w.heap.size + 1, 0, none⟩ = some (.slice ea1_0 a1.1.length ecap1_0) := below_later (hb_209) c_196; clear c_196
      have c_216 : w_7.cell? ⟨w.heap.size + 1, 1, none⟩ = some (.slice ea1_1 a1.2.length ecap1_1) := below_later (hb_209) c_197; clear c_197
      have c_217 : w_7.cell? ⟨v2.heap.size, 0, none⟩ = some (Value.slice none 0 0) := below_later (hb_209) c_199; clear c_199
      have c_218 : w_7.cell? ⟨v2.heap.size, 1, none⟩ = some (Value.slice none 0 0) := below_later (hb_209) c_200; clear c_200
      have f_219 : w_7.frozen? ⟨v2.heap.size, 0, none⟩ = false := (Below.frozen (hb_209) (p := ⟨v2.heap.size, 0, none⟩) (by show v2.heap.size < _; first | omega | (simp; done) | (simp; omega))).trans f_201; clear f_201
      have f_220 : w_7.frozen? ⟨v2.heap.size, 1, none⟩ = false := (Below.frozen (hb_209) (p := ⟨v2.heap.size, 1, none⟩) (by show v2.heap.size < _; first | omega | (simp; done) | (simp; omega))).trans f_202; clear f_202
      have HBLAST := Lib.hid hb_209
      have HQ := Lib.hid hb_209; clear hb_209 HQ
      have hz_221 : w_7.heap.size ≤ w_7.heap.size := Nat.le_refl _
      have HBASE_222 := Lib.hid (rstep HBASE_198.out HBLAST.out); clear HBLAST
      refine hK.out _ _ (Or.inr ?khHeld104028) (fun hHeld104028S => ?_)
      case khHeld104028 => exact ⟨c_213, c_214, c_215, c_216⟩
      have hHeld104028 := hHeld104028S.held (by kernel_rfl)
      clear hK K
      try simp only [Act.put, List.setIfInBounds_toArray, List.set_cons_zero, List.set_cons_succ]
      refine wpG_one (i := 3) (o := { dst := some 31, op := Go.Op.call { callee := Go.Callee.value (Go.Operand.func 13), args := #[Go.Operand.tmp 30], argTypes := #[25] }, type := 28, pos := "exact.go:3654", after := #[{ on := 2, ground := Go.Ground.data }, { on := 1, ground := Go.Ground.chain }], guard := none }) rfl (by kernel_rfl) (fun K hK => ?_)
      go_simp
      refine (HTO1.out _ (box2_below HB_211.out)).mono ?_
      rintro e w_8 ⟨cs_223, fp_223, he, ho, hnd, hge, hb⟩
      have hrd := kMachine_ok.ord ho (B := w_8.heap.size) (kMachine_ok.olt ho)
      obtain ⟨ea0_223, ecap0_223, ea1_223, ecap1_223, rfl, _, _⟩ := Machine_rd hrd
      change e = .returned (.agg #[.slice ea0_223 a1.1.length ecap0_223, .slice ea1_223 a1.2.length ecap1_223]) at he
      subst he
      have hrd2 := kMachine_ok.ord ho (B := w_8.heap.size) (kMachine_ok.olt ho)
      have OW_224 := Lib.hid ho; have HN_227 := Lib.hid hnd
      have HL_225 : Hid (∀ b ∈ fp_223, w_7.heap.size ≤ b) := Lib.hid fun b hm => by have := hge b hm; first | omega | (simp at this; omega)
      have HH_226 : Hid (∀ b ∈ fp_223, b < w_8.heap.size) := Lib.hid (kMachine_ok.olt ho)
      have RD_228 := Lib.hid hrd2; clear ho hnd hge hrd2 hrd
      have hb_229 := hb; clear hb
      have hz_230 : w_7.heap.size ≤ w_8.heap.size := by have := (hb_229).size; first | omega | (simp at this; omega)
      have HB_231 := Lib.hid (box2_step HB_211.out hb_229)
      have hz_232 : w.heap.size + 2 ≤ w_8.heap.size := Nat.le_trans hz_212 hz_230
      have c_233 : w_8.cell? ⟨w.heap.size, 0, none⟩ = some (.slice ea0_0 a0.1.length ecap0_0) := below_later (hb_229) c_213; clear c_213
      have c_234 : w_8.cell? ⟨w.heap.size, 1, none⟩ = some (.slice ea0_1 a0.2.length ecap0_1) := below_later (hb_229) c_214; clear c_214
      have c_235 : w_8.cell? ⟨w.heap.size + 1, 0, none⟩ = some (.slice ea1_0 a1.1.length ecap1_0) := below_later (hb_229) c_215; clear c_215
      have c_236 : w_8.cell? ⟨w.heap.size + 1, 1, none⟩ = some (.slice ea1_1 a1.2.length ecap1_1) := below_later (hb_229) c_216; clear c_216
      have c_237 : w_8.cell? ⟨v2.heap.size, 0, none⟩ = some (Value.slice none 0 0) := below_later (hb_229) c_217; clear c_217
      have c_238 : w_8.cell? ⟨v2.heap.size, 1, none⟩ = some (Value.slice none 0 0) := below_later (hb_229) c_218; clear c_218
      have f_239 : w_8.frozen? ⟨v2.heap.size, 0, none⟩ = false := (Below.frozen (hb_229) (p := ⟨v2.heap.size, 0, none⟩) (by show v2.heap.size < _; first | omega | (simp; done) | (simp; omega))).trans f_219; clear f_219
      have f_240 : w_8.frozen? ⟨v2.heap.size, 1, none⟩ = false := (Below.frozen (hb_229) (p := ⟨v2.heap.size, 1, none⟩) (by show v2.heap.size < _; first | omega | (simp; done) | (simp; omega))).trans f_220; clear f_220
      have RD_241 := Lib.hid (kMachine_ok.rbelow RD_208.out (Below.mono (hb_229) (by first | omega | (simp; done) | (simp; omega)))); clear RD_208
      have hz_242 : w_7.heap.size ≤ w_8.heap.size := Nat.le_trans hz_221 hz_230
      have HBLAST := Lib.hid hb_229
      have HQ := Lib.hid hb_229; clear hb_229 HQ
      have hz_243 : w_8.heap.size ≤ w_8.heap.size := Nat.le_refl _
      have HBASE_244 := Lib.hid (rstep HBASE_222.out HBLAST.out); clear HBLAST
      refine hK.out _ _ (Or.inl (by kernel_rfl)) (fun _ => ?_)
      clear hK K
      try simp only [Act.put, List.setIfInBounds_toArray, List.set_cons_zero, List.set_cons_succ]
      refine wpG_one (i := 4) (o := { dst := some 32, op := Go.Op.call { callee := Go.Callee.value (Go.Operand.func 22), args := #[Go.Operand.tmp 29, Go.Operand.tmp 31], argTypes := #[28, 28] }, type := 35, pos := "exact.go:3654", after := #[{ on := 1, ground := Go.Ground.data }, { on := 3, ground := Go.Ground.data }, { on := 3, ground := Go.Ground.chain }], guard := none }) rfl (by kernel_rfl) (fun K hK => ?_)
      go_simp
      refine (HS.out _ [.slice ea0_203 a0.1.length ecap0_203, .slice ea1_203 a0.2.length ecap1_203] [.slice ea0_223 a1.1.length ecap0_223, .slice ea1_223 a1.2.length ecap1_223] (kMachine_ok.rmono RD_241.out (by first | omega | (simp; done) | (simp; omega))) (kMachine_ok.rmono RD_228.out (by first | omega | (simp; done) | (simp; omega)))).mono ?_
      rintro e w_9 ⟨cs_245, fp_245, he, ho, hnd, hge, hb⟩
      have hrd := kMachine_ok.ord ho (B := w_9.heap.size) (kMachine_ok.olt ho)
      obtain ⟨ea0_245, ecap0_245, ea1_245, ecap1_245, rfl⟩ : ∃ ea0_245 ecap0_245 ea1_245 ecap1_245, cs_245 = [.slice ea0_245 r0.1.length ecap0_245, .slice ea1_245 r0.2.length ecap1_245] := by
        obtain ⟨ea0_245, ecap0_245, ea1_245, ecap1_245, h, _⟩ := Machine_rd hrd
        exact ⟨ea0_245, ecap0_245, ea1_245, ecap1_245, h⟩
      change e = .returned (.tuple #[(.agg #[.slice ea0_245 r0.1.length ecap0_245, .slice ea1_245 r0.2.length ecap1_245]), (.bool r1)]) at he
      subst he
      have RD_246 := Lib.hid hrd; clear hrd
      have OW_247 := Lib.hid ho; have HN_250 := Lib.hid hnd
      have HL_248 : Hid (∀ b ∈ fp_245, w_8.heap.size ≤ b) := Lib.hid fun b hm => by have := hge b hm; first | omega | (simp at this; omega)
      have HH_249 : Hid (∀ b ∈ fp_245, b < w_9.heap.size) := Lib.hid (kMachine_ok.olt ho)
      clear ho hnd hge
      have hb_251 := hb; clear hb
      have hz_252 : w_8.heap.size ≤ w_9.heap.size := by have := (hb_251).size; first | omega | (simp at this; omega)
      have HB_253 := Lib.hid (box2_step HB_231.out hb_251)
      have hz_254 : w.heap.size + 2 ≤ w_9.heap.size := Nat.le_trans hz_232 hz_252
      have c_255 : w_9.cell? ⟨w.heap.size, 0, none⟩ = some (.slice ea0_0 a0.1.length ecap0_0) := below_later (hb_251) c_233; clear c_233
      have c_256 : w_9.cell? ⟨w.heap.size, 1, none⟩ = some (.slice ea0_1 a0.2.length ecap0_1) := below_later (hb_251) c_234; clear c_234
      have c_257 : w_9.cell? ⟨w.heap.size + 1, 0, none⟩ = some (.slice ea1_0 a1.1.length ecap1_0) := below_later (hb_251) c_235; clear c_235
      have c_258 : w_9.cell? ⟨w.heap.size + 1, 1, none⟩ = some (.slice ea1_1 a1.2.length ecap1_1) := below_later (hb_251) c_236; clear c_236
      have c_259 : w_9.cell? ⟨v2.heap.size, 0, none⟩ = some (Value.slice none 0 0) := below_later (hb_251) c_237; clear c_237
      have c_260 : w_9.cell? ⟨v2.heap.size, 1, none⟩ = some (Value.slice none 0 0) := below_later (hb_251) c_238; clear c_238
      have f_261 : w_9.frozen? ⟨v2.heap.size, 0, none⟩ = false := (Below.frozen (hb_251) (p := ⟨v2.heap.size, 0, none⟩) (by show v2.heap.size < _; first | omega | (simp; done) | (simp; omega))).trans f_239; clear f_239
      have f_262 : w_9.frozen? ⟨v2.heap.size, 1, none⟩ = false := (Below.frozen (hb_251) (p := ⟨v2.heap.size, 1, none⟩) (by show v2.heap.size < _; first | omega | (simp; done) | (simp; omega))).trans f_240; clear f_240
      have RD_263 := Lib.hid (kMachine_ok.rbelow RD_241.out (Below.mono (hb_251) (by first | omega | (simp; done) | (simp; omega)))); clear RD_241
      have hz_264 : w_7.heap.size ≤ w_9.heap.size := Nat.le_trans hz_242 hz_252
      have RD_265 := Lib.hid (kMachine_ok.rbelow RD_228.out (Below.mono (hb_251) (by first | omega | (simp; done) | (simp; omega)))); clear RD_228
      have hz_266 : w_8.heap.size ≤ w_9.heap.size := Nat.le_trans hz_243 hz_252
      have HBLAST := Lib.hid hb_251
      clear hb_251
      have hz_267 : w_9.heap.size ≤ w_9.heap.size := Nat.le_refl _
      have HBASE_268 := Lib.hid (rstep HBASE_244.out HBLAST.out); clear HBLAST
      refine hK.out _ _ (Or.inl (by kernel_rfl)) (fun _ => ?_)
      clear hK K
      try simp only [Act.put, List.setIfInBounds_toArray, List.set_cons_zero, List.set_cons_succ]
      refine wpG_pure (i := 5) (oi := { dst := some 27, op := Go.Op.move (Go.Operand.tmp 32), type := 35, pos := "exact.go:3654", after := #[{ on := 4, ground := Go.Ground.data }], guard := none }) (v := ?vg104031) rfl (by kernel_rfl) (fun _ _ _ h => h) (Or.inl (by kernel_rfl)) (Or.inl ⟨by rfl, ?yg104031⟩) ?_
      case yg104031 => (intro wS _; go_simp <;> with_reducible rfl)
      try simp only [Act.put, List.setIfInBounds_toArray, List.set_cons_zero, List.set_cons_succ]
      refine wpG_pure (i := 6) (oi := { dst := some 33, op := Go.Op.extract (Go.Operand.tmp 27) 0, type := 28, pos := "exact.go:3654", after := #[{ on := 5, ground := Go.Ground.data }], guard := none }) (v := ?vg104032) rfl (by kernel_rfl) (fun _ _ _ h => h) (Or.inl (by kernel_rfl)) (Or.inl ⟨by rfl, ?yg104032⟩) ?_
      case yg104032 => (intro wS _; go_simp <;> with_reducible rfl)
      try simp only [Act.put, List.setIfInBounds_toArray, List.set_cons_zero, List.set_cons_succ]
      refine wpG_pure (i := 7) (oi := { dst := some 34, op := Go.Op.extract (Go.Operand.tmp 27) 1, type := 4, pos := "exact.go:3654", after := #[{ on := 5, ground := Go.Ground.data }, { on := 9, ground := Go.Ground.gcOnly Go.Departure.lateStores }], guard := none }) (v := ?vg104033) rfl (by kernel_rfl) (fun _ _ _ h => h) (Or.inl (by kernel_rfl)) (Or.inl ⟨by rfl, ?yg104033⟩) ?_
      case yg104033 => (intro wS _; go_simp <;> with_reducible rfl)
      try simp only [Act.put, List.setIfInBounds_toArray, List.set_cons_zero, List.set_cons_succ]
      refine wpG_one (i := 9) (o := { dst := none, op := Go.Op.store 28 (Go.Operand.tmp 6) (Go.Operand.tmp 33), type := 0, pos := "exact.go:3654", after := #[{ on := 8, ground := Go.Ground.data }, { on := 6, ground := Go.Ground.data }, { on := 4, ground := Go.Ground.chain }, { on := 0, ground := Go.Ground.phase }, { on := 1, ground := Go.Ground.phase }, { on := 2, ground := Go.Ground.phase }, { on := 3, ground := Go.Ground.phase }, { on := 4, ground := Go.Ground.phase }, { on := 5, ground := Go.Ground.phase }, { on := 6, ground := Go.Ground.phase }, { on := 7, ground := Go.Ground.textOnly Go.Departure.lateStores }, { on := 8, ground := Go.Ground.phase }], guard := none }) rfl (by kernel_rfl) (fun K hK => ?_)
      go_simp
      refine hK.out _ _ (Or.inl (by kernel_rfl)) (fun _ => ?_)
      clear hK K
      try simp only [Act.put, List.setIfInBounds_toArray, List.set_cons_zero, List.set_cons_succ]
      refine wpG_pure (i := 10) (oi := { dst := some 7, op := Go.Op.assign (Go.Operand.tmp 34), type := 4, pos := "exact.go:3654", after := #[{ on := 7, ground := Go.Ground.data }, { on := 9, ground := Go.Ground.chain }, { on := 0, ground := Go.Ground.phase }, { on := 1, ground := Go.Ground.phase }, { on := 2, ground := Go.Ground.phase }, { on := 3, ground := Go.Ground.phase }, { on := 4, ground := Go.Ground.phase }, { on := 5, ground := Go.Ground.phase }, { on := 6, ground := Go.Ground.phase }, { on := 7, ground := Go.Ground.phase }, { on := 8, ground := Go.Ground.phase }, { on := 9, ground := Go.Ground.phase }], guard := none }) (v := ?vg104035) rfl (by kernel_rfl) (fun _ _ _ h => h) (Or.inl (by kernel_rfl)) (Or.inl ⟨by rfl, ?yg104035⟩) ?_
      case yg104035 => (intro wS _; go_simp <;> with_reducible rfl)
      try simp only [Act.put, List.setIfInBounds_toArray, List.set_cons_zero, List.set_cons_succ]
      refine wpG_done (by kernel_rfl) ?_
      go_wp2_with fail
      go_meet
      have hrdf : kMachine.rd ((w_9.setCell ⟨v2.heap.size, 0, none⟩ (.slice ea0_245 r0.1.length ecap0_245)).setCell ⟨v2.heap.size, 1, none⟩ (.slice ea1_245 r0.2.length ecap1_245)).heap.size ((w_9.setCell ⟨v2.heap.size, 0, none⟩ (.slice ea0_245 r0.1.length ecap0_245)).setCell ⟨v2.heap.size, 1, none⟩ (.slice ea1_245 r0.2.length ecap1_245)) [.slice ea0_245 r0.1.length ecap0_245, .slice ea1_245 r0.2.length ecap1_245] r0 := kMachine_ok.ord (kMachine_ok.oframe OW_247.out (fun b hm => by rw [Below.heap_setCell _ _ _ _ (by show b ≠ v2.heap.size; have := HL_248.out b hm; omega), Below.heap_setCell _ _ _ _ (by show b ≠ v2.heap.size; have := HL_248.out b hm; omega)])) (fun b hm => by have := HH_249.out b hm; first | omega | (simp; done) | (simp; omega))
      have hbf : Below v2.heap.size v2 ((w_9.setCell ⟨v2.heap.size, 0, none⟩ (.slice ea0_245 r0.1.length ecap0_245)).setCell ⟨v2.heap.size, 1, none⟩ (.slice ea1_245 r0.2.length ecap1_245)) := ((HBASE_268.out.setCell (p := ⟨v2.heap.size, 0, none⟩) (by show v2.heap.size ≤ v2.heap.size; omega) _).setCell (p := ⟨v2.heap.size, 1, none⟩) (by show v2.heap.size ≤ v2.heap.size; omega) _)
      exact ⟨_, _, _, _, _, rfl, rfl, Lib.hid ⟨by go_simp, by go_simp, hrdf, hbf, by first | omega | (simp; done) | (simp; omega), by first | omega | (simp; done) | (simp; omega)⟩⟩
  case rest =>
    obtain ⟨B8, ec0_8, cc0_8, ec1_8, cc1_8, rfl, rfl, HCUT8⟩ := hcut
    obtain ⟨wc8, rfl⟩ : ∃ z : World, z = wc := ⟨_, rfl⟩
    obtain ⟨hcc0_8, hcc1_8, hrdc, hbc, hB0_8, hB1_8⟩ := HCUT8.out
    have RD_269 := Lib.hid hrdc; clear hrdc
    have hb_270 := hbc; clear hbc
    have hz_271 : v2.heap.size ≤ wc8.heap.size := by have := (hb_270).size; first | omega | (simp at this; omega)
    have HB_272 := Lib.hid (box2_step HV2.out hb_270)
    have hz_273 : w.heap.size + 2 ≤ wc8.heap.size := Nat.le_trans hz_5 hz_271
    have c_274 : wc8.cell? ⟨w.heap.size, 0, none⟩ = some (.slice ea0_0 a0.1.length ecap0_0) := below_later (hb_270) c_1; clear c_1
    have c_275 : wc8.cell? ⟨w.heap.size, 1, none⟩ = some (.slice ea0_1 a0.2.length ecap0_1) := below_later (hb_270) c_2; clear c_2
    have c_276 : wc8.cell? ⟨w.heap.size + 1, 0, none⟩ = some (.slice ea1_0 a1.1.length ecap1_0) := below_later (hb_270) c_3; clear c_3
    have c_277 : wc8.cell? ⟨w.heap.size + 1, 1, none⟩ = some (.slice ea1_1 a1.2.length ecap1_1) := below_later (hb_270) c_4; clear c_4
    clear hb_270
    have hz_278 : wc8.heap.size ≤ wc8.heap.size := Nat.le_refl _
    go_wp2_with fail
    refine (HTO0.out _ (box2_below HB_272.out)).mono ?_
    rintro e w_10 ⟨cs_279, fp_279, he, ho, hnd, hge, hb⟩
    have hrd := kMachine_ok.ord ho (B := w_10.heap.size) (kMachine_ok.olt ho)
    obtain ⟨ea0_279, ecap0_279, ea1_279, ecap1_279, rfl, _, _⟩ := Machine_rd hrd
    change e = .returned (.agg #[.slice ea0_279 a0.1.length ecap0_279, .slice ea1_279 a0.2.length ecap1_279]) at he
    subst he
    have hrd2 := kMachine_ok.ord ho (B := w_10.heap.size) (kMachine_ok.olt ho)
    have OW_280 := Lib.hid ho; have HN_283 := Lib.hid hnd
    have HL_281 : Hid (∀ b ∈ fp_279, wc8.heap.size ≤ b) := Lib.hid fun b hm => by have := hge b hm; first | omega | (simp at this; omega)
    have HH_282 : Hid (∀ b ∈ fp_279, b < w_10.heap.size) := Lib.hid (kMachine_ok.olt ho)
    have RD_284 := Lib.hid hrd2; clear ho hnd hge hrd2 hrd
    have hb_285 := hb; clear hb
    have hz_286 : wc8.heap.size ≤ w_10.heap.size := by have := (hb_285).size; first | omega | (simp at this; omega)
    have HB_287 := Lib.hid (box2_step HB_272.out hb_285)
    have hz_288 : w.heap.size + 2 ≤ w_10.heap.size := Nat.le_trans hz_273 hz_286
    have c_289 : w_10.cell? ⟨w.heap.size, 0, none⟩ = some (.slice ea0_0 a0.1.length ecap0_0) := below_later (hb_285) c_274; clear c_274
    have c_290 : w_10.cell? ⟨w.heap.size, 1, none⟩ = some (.slice ea0_1 a0.2.length ecap0_1) := below_later (hb_285) c_275; clear c_275
    have c_291 : w_10.cell? ⟨w.heap.size + 1, 0, none⟩ = some (.slice ea1_0 a1.1.length ecap1_0) := below_later (hb_285) c_276; clear c_276
    have c_292 : w_10.cell? ⟨w.heap.size + 1, 1, none⟩ = some (.slice ea1_1 a1.2.length ecap1_1) := below_later (hb_285) c_277; clear c_277
    have c_293 : w_10.cell? ⟨B8, 0, none⟩ = some (.slice ec0_8 r0.1.length cc0_8) := below_later (hb_285) hcc0_8; clear hcc0_8
    have c_294 : w_10.cell? ⟨B8, 1, none⟩ = some (.slice ec1_8 r0.2.length cc1_8) := below_later (hb_285) hcc1_8; clear hcc1_8
    have RD_295 := Lib.hid (kMachine_ok.rbelow RD_269.out (Below.mono (hb_285) (by first | omega | (simp; done) | (simp; omega)))); clear RD_269
    have hz_296 : wc8.heap.size ≤ w_10.heap.size := Nat.le_trans hz_278 hz_286
    have HQ := Lib.hid hb_285; clear hb_285 HQ
    have hz_297 : w_10.heap.size ≤ w_10.heap.size := Nat.le_refl _
    have hb_298 : Below w_10.heap.size w_10 (w_10.alloc (.cells #[.slice ea0_279 a0.1.length ecap0_279, .slice ea1_279 a0.2.length ecap1_279] 28)) := (Below.refl _ _).alloc (Nat.le_refl _) _
    have hz_299 : w_10.heap.size ≤ w_10.heap.size + 1 := by have := (hb_298).size; first | omega | (simp at this; omega)
    have HB_300 := Lib.hid (box2_step HB_287.out hb_298)
    have hz_301 : w.heap.size + 2 ≤ w_10.heap.size + 1 := Nat.le_trans hz_288 hz_299
    have c_302 : (w_10.alloc (.cells #[.slice ea0_279 a0.1.length ecap0_279, .slice ea1_279 a0.2.length ecap1_279] 28)).cell? ⟨w.heap.size, 0, none⟩ = some (.slice ea0_0 a0.1.length ecap0_0) := below_later (hb_298) c_289; clear c_289
    have c_303 : (w_10.alloc (.cells #[.slice ea0_279 a0.1.length ecap0_279, .slice ea1_279 a0.2.length ecap1_279] 28)).cell? ⟨w.heap.size, 1, none⟩ = some (.slice ea0_1 a0.2.length ecap0_1) := below_later (hb_298) c_290; clear c_290
    have c_304 : (w_10.alloc (.cells #[.slice ea0_279 a0.1.length ecap0_279, .slice ea1_279 a0.2.length ecap1_279] 28)).cell? ⟨w.heap.size + 1, 0, none⟩ = some (.slice ea1_0 a1.1.length ecap1_0) := below_later (hb_298) c_291; clear c_291
    have c_305 : (w_10.alloc (.cells #[.slice ea0_279 a0.1.length ecap0_279, .slice ea1_279 a0.2.length ecap1_279] 28)).cell? ⟨w.heap.size + 1, 1, none⟩ = some (.slice ea1_1 a1.2.length ecap1_1) := below_later (hb_298) c_292; clear c_292
    have c_306 : (w_10.alloc (.cells #[.slice ea0_279 a0.1.length ecap0_279, .slice ea1_279 a0.2.length ecap1_279] 28)).cell? ⟨B8, 0, none⟩ = some (.slice ec0_8 r0.1.length cc0_8) := below_later (hb_298) c_293; clear c_293
    have c_307 : (w_10.alloc (.cells #[.slice ea0_279 a0.1.length ecap0_279, .slice ea1_279 a0.2.length ecap1_279] 28)).cell? ⟨B8, 1, none⟩ = some (.slice ec1_8 r0.2.length cc1_8) := below_later (hb_298) c_294; clear c_294
    have RD_308 := Lib.hid (kMachine_ok.rbelow RD_295.out (Below.mono (hb_298) (by first | omega | (simp; done) | (simp; omega)))); clear RD_295
    have hz_309 : wc8.heap.size ≤ w_10.heap.size + 1 := Nat.le_trans hz_296 hz_299
    have OW_310 := Lib.hid (kMachine_ok.oframe OW_280.out (w' := (w_10.alloc (.cells #[.slice ea0_279 a0.1.length ecap0_279, .slice ea1_279 a0.2.length ecap1_279] 28))) fun b hm => (hb_298).block b (kMachine_ok.olt OW_280.out b hm)); clear OW_280
    have hz_311 : w_10.heap.size ≤ w_10.heap.size + 1 := Nat.le_trans hz_297 hz_299
    clear hb_298
    have c_312 : (w_10.alloc (.cells #[.slice ea0_279 a0.1.length ecap0_279, .slice ea1_279 a0.2.length ecap1_279] 28)).cell? ⟨w_10.heap.size, 0, none⟩ = some (.slice ea0_279 a0.1.length ecap0_279) := by go_simp
    have c_313 : (w_10.alloc (.cells #[.slice ea0_279 a0.1.length ecap0_279, .slice ea1_279 a0.2.length ecap1_279] 28)).cell? ⟨w_10.heap.size, 1, none⟩ = some (.slice ea1_279 a0.2.length ecap1_279) := by go_simp
    go_wp2_with fail
    refine (HTO1.out _ (box2_below HB_300.out)).mono ?_
    rintro e w_11 ⟨cs_314, fp_314, he, ho, hnd, hge, hb⟩
    have hrd := kMachine_ok.ord ho (B := w_11.heap.size) (kMachine_ok.olt ho)
    obtain ⟨ea0_314, ecap0_314, ea1_314, ecap1_314, rfl, _, _⟩ := Machine_rd hrd
    change e = .returned (.agg #[.slice ea0_314 a1.1.length ecap0_314, .slice ea1_314 a1.2.length ecap1_314]) at he
    subst he
    have hrd2 := kMachine_ok.ord ho (B := w_11.heap.size) (kMachine_ok.olt ho)
    have OW_315 := Lib.hid ho; have HN_318 := Lib.hid hnd
    have HL_316 : Hid (∀ b ∈ fp_314, w_10.heap.size + 1 ≤ b) := Lib.hid fun b hm => by have := hge b hm; first | omega | (simp at this; omega)
    have HH_317 : Hid (∀ b ∈ fp_314, b < w_11.heap.size) := Lib.hid (kMachine_ok.olt ho)
    have RD_319 := Lib.hid hrd2; clear ho hnd hge hrd2 hrd
    have hb_320 := hb; clear hb
    have hz_321 : w_10.heap.size + 1 ≤ w_11.heap.size := by have := (hb_320).size; first | omega | (simp at this; omega)
    have HB_322 := Lib.hid (box2_step HB_300.out hb_320)
    have hz_323 : w.heap.size + 2 ≤ w_11.heap.size := Nat.le_trans hz_301 hz_321
    have c_324 : w_11.cell? ⟨w.heap.size, 0, none⟩ = some (.slice ea0_0 a0.1.length ecap0_0) := below_later (hb_320) c_302; clear c_302
    have c_325 : w_11.cell? ⟨w.heap.size, 1, none⟩ = some (.slice ea0_1 a0.2.length ecap0_1) := below_later (hb_320) c_303; clear c_303
    have c_326 : w_11.cell? ⟨w.heap.size + 1, 0, none⟩ = some (.slice ea1_0 a1.1.length ecap1_0) := below_later (hb_320) c_304; clear c_304
    have c_327 : w_11.cell? ⟨w.heap.size + 1, 1, none⟩ = some (.slice ea1_1 a1.2.length ecap1_1) := below_later (hb_320) c_305; clear c_305
    have c_328 : w_11.cell? ⟨B8, 0, none⟩ = some (.slice ec0_8 r0.1.length cc0_8) := below_later (hb_320) c_306; clear c_306
    have c_329 : w_11.cell? ⟨B8, 1, none⟩ = some (.slice ec1_8 r0.2.length cc1_8) := below_later (hb_320) c_307; clear c_307
    have c_330 : w_11.cell? ⟨w_10.heap.size, 0, none⟩ = some (.slice ea0_279 a0.1.length ecap0_279) := below_later (hb_320) c_312; clear c_312
    have c_331 : w_11.cell? ⟨w_10.heap.size, 1, none⟩ = some (.slice ea1_279 a0.2.length ecap1_279) := below_later (hb_320) c_313; clear c_313
    have RD_332 := Lib.hid (kMachine_ok.rbelow RD_308.out (Below.mono (hb_320) (by first | omega | (simp; done) | (simp; omega)))); clear RD_308
    have hz_333 : wc8.heap.size ≤ w_11.heap.size := Nat.le_trans hz_309 hz_321
    have OW_334 := Lib.hid (kMachine_ok.oframe OW_310.out (w' := w_11) fun b hm => (hb_320).block b (kMachine_ok.olt OW_310.out b hm)); clear OW_310
    have hz_335 : w_10.heap.size ≤ w_11.heap.size := Nat.le_trans hz_311 hz_321
    have HQ := Lib.hid hb_320; clear hb_320 HQ
    have hz_336 : w_11.heap.size ≤ w_11.heap.size := Nat.le_refl _
    have hb_337 : Below w_11.heap.size w_11 (w_11.alloc (.cells #[.slice ea0_314 a1.1.length ecap0_314, .slice ea1_314 a1.2.length ecap1_314] 28)) := (Below.refl _ _).alloc (Nat.le_refl _) _
    have hz_338 : w_11.heap.size ≤ w_11.heap.size + 1 := by have := (hb_337).size; first | omega | (simp at this; omega)
    have HB_339 := Lib.hid (box2_step HB_322.out hb_337)
    have hz_340 : w.heap.size + 2 ≤ w_11.heap.size + 1 := Nat.le_trans hz_323 hz_338
    have c_341 : (w_11.alloc (.cells #[.slice ea0_314 a1.1.length ecap0_314, .slice ea1_314 a1.2.length ecap1_314] 28)).cell? ⟨w.heap.size, 0, none⟩ = some (.slice ea0_0 a0.1.length ecap0_0) := below_later (hb_337) c_324; clear c_324
    have c_342 : (w_11.alloc (.cells #[.slice ea0_314 a1.1.length ecap0_314, .slice ea1_314 a1.2.length ecap1_314] 28)).cell? ⟨w.heap.size, 1, none⟩ = some (.slice ea0_1 a0.2.length ecap0_1) := below_later (hb_337) c_325; clear c_325
    have c_343 : (w_11.alloc (.cells #[.slice ea0_314 a1.1.length ecap0_314, .slice ea1_314 a1.2.length ecap1_314] 28)).cell? ⟨w.heap.size + 1, 0, none⟩ = some (.slice ea1_0 a1.1.length ecap1_0) := below_later (hb_337) c_326; clear c_326
    have c_344 : (w_11.alloc (.cells #[.slice ea0_314 a1.1.length ecap0_314, .slice ea1_314 a1.2.length ecap1_314] 28)).cell? ⟨w.heap.size + 1, 1, none⟩ = some (.slice ea1_1 a1.2.length ecap1_1) := below_later (hb_337) c_327; clear c_327
    have c_345 : (w_11.alloc (.cells #[.slice ea0_314 a1.1.length ecap0_314, .slice ea1_314 a1.2.length ecap1_314] 28)).cell? ⟨B8, 0, none⟩ = some (.slice ec0_8 r0.1.length cc0_8) := below_later (hb_337) c_328; clear c_328
    have c_346 : (w_11.alloc (.cells #[.slice ea0_314 a1.1.length ecap0_314, .slice ea1_314 a1.2.length ecap1_314] 28)).cell? ⟨B8, 1, none⟩ = some (.slice ec1_8 r0.2.length cc1_8) := below_later (hb_337) c_329; clear c_329
    have c_347 : (w_11.alloc (.cells #[.slice ea0_314 a1.1.length ecap0_314, .slice ea1_314 a1.2.length ecap1_314] 28)).cell? ⟨w_10.heap.size, 0, none⟩ = some (.slice ea0_279 a0.1.length ecap0_279) := below_later (hb_337) c_330; clear c_330
    have c_348 : (w_11.alloc (.cells #[.slice ea0_314 a1.1.length ecap0_314, .slice ea1_314 a1.2.length ecap1_314] 28)).cell? ⟨w_10.heap.size, 1, none⟩ = some (.slice ea1_279 a0.2.length ecap1_279) := below_later (hb_337) c_331; clear c_331
    have RD_349 := Lib.hid (kMachine_ok.rbelow RD_332.out (Below.mono (hb_337) (by first | omega | (simp; done) | (simp; omega)))); clear RD_332
    have hz_350 : wc8.heap.size ≤ w_11.heap.size + 1 := Nat.le_trans hz_333 hz_338
    have OW_351 := Lib.hid (kMachine_ok.oframe OW_334.out (w' := (w_11.alloc (.cells #[.slice ea0_314 a1.1.length ecap0_314, .slice ea1_314 a1.2.length ecap1_314] 28))) fun b hm => (hb_337).block b (kMachine_ok.olt OW_334.out b hm)); clear OW_334
    have hz_352 : w_10.heap.size ≤ w_11.heap.size + 1 := Nat.le_trans hz_335 hz_338
    have OW_353 := Lib.hid (kMachine_ok.oframe OW_315.out (w' := (w_11.alloc (.cells #[.slice ea0_314 a1.1.length ecap0_314, .slice ea1_314 a1.2.length ecap1_314] 28))) fun b hm => (hb_337).block b (kMachine_ok.olt OW_315.out b hm)); clear OW_315
    have hz_354 : w_11.heap.size ≤ w_11.heap.size + 1 := Nat.le_trans hz_336 hz_338
    clear hb_337
    have c_355 : (w_11.alloc (.cells #[.slice ea0_314 a1.1.length ecap0_314, .slice ea1_314 a1.2.length ecap1_314] 28)).cell? ⟨w_11.heap.size, 0, none⟩ = some (.slice ea0_314 a1.1.length ecap0_314) := by go_simp
    have c_356 : (w_11.alloc (.cells #[.slice ea0_314 a1.1.length ecap0_314, .slice ea1_314 a1.2.length ecap1_314] 28)).cell? ⟨w_11.heap.size, 1, none⟩ = some (.slice ea1_314 a1.2.length ecap1_314) := by go_simp
    go_wp2_with fail
    refine (HI.out _ [.slice ea0_279 a0.1.length ecap0_279, .slice ea1_279 a0.2.length ecap1_279] [.slice ea0_314 a1.1.length ecap0_314, .slice ea1_314 a1.2.length ecap1_314] (kMachine_ok.ord OW_351.out (fun b hm => by have := HH_282.out b hm; first | omega | (simp; done) | (simp; omega))) (kMachine_ok.ord OW_353.out (fun b hm => by have := HH_317.out b hm; first | omega | (simp; done) | (simp; omega)))).mono ?_
    rintro e w_12 ⟨cs_357, fp_357, he, ho, hnd, hge, hb⟩
    have hrd := kMachine_ok.ord ho (B := w_12.heap.size) (kMachine_ok.olt ho)
    obtain ⟨ea0_357, ecap0_357, ea1_357, ecap1_357, rfl⟩ : ∃ ea0_357 ecap0_357 ea1_357 ecap1_357, cs_357 = [.slice ea0_357 r0.1.length ecap0_357, .slice ea1_357 r0.2.length ecap1_357] := by
      obtain ⟨ea0_357, ecap0_357, ea1_357, ecap1_357, h, _⟩ := Machine_rd hrd
      exact ⟨ea0_357, ecap0_357, ea1_357, ecap1_357, h⟩
    change e = .returned (.tuple #[(.agg #[.slice ea0_357 r0.1.length ecap0_357, .slice ea1_357 r0.2.length ecap1_357]), (.bool r1)]) at he
    subst he
    have RD_358 := Lib.hid hrd; clear hrd
    have OW_359 := Lib.hid ho; have HN_362 := Lib.hid hnd
    have HL_360 : Hid (∀ b ∈ fp_357, w_11.heap.size + 1 ≤ b) := Lib.hid fun b hm => by have := hge b hm; first | omega | (simp at this; omega)
    have HH_361 : Hid (∀ b ∈ fp_357, b < w_12.heap.size) := Lib.hid (kMachine_ok.olt ho)
    clear ho hnd hge
    have hb_363 := hb; clear hb
    have hz_364 : w_11.heap.size + 1 ≤ w_12.heap.size := by have := (hb_363).size; first | omega | (simp at this; omega)
    have HB_365 := Lib.hid (box2_step HB_339.out hb_363)
    have hz_366 : w.heap.size + 2 ≤ w_12.heap.size := Nat.le_trans hz_340 hz_364
    have c_367 : w_12.cell? ⟨w.heap.size, 0, none⟩ = some (.slice ea0_0 a0.1.length ecap0_0) := below_later (hb_363) c_341; clear c_341
    have c_368 : w_12.cell? ⟨w.heap.size, 1, none⟩ = some (.slice ea0_1 a0.2.length ecap0_1) := below_later (hb_363) c_342; clear c_342
    have c_369 : w_12.cell? ⟨w.heap.size + 1, 0, none⟩ = some (.slice ea1_0 a1.1.length ecap1_0) := below_later (hb_363) c_343; clear c_343
    have c_370 : w_12.cell? ⟨w.heap.size + 1, 1, none⟩ = some (.slice ea1_1 a1.2.length ecap1_1) := below_later (hb_363) c_344; clear c_344
    have c_371 : w_12.cell? ⟨B8, 0, none⟩ = some (.slice ec0_8 r0.1.length cc0_8) := below_later (hb_363) c_345; clear c_345
    have c_372 : w_12.cell? ⟨B8, 1, none⟩ = some (.slice ec1_8 r0.2.length cc1_8) := below_later (hb_363) c_346; clear c_346
    have c_373 : w_12.cell? ⟨w_10.heap.size, 0, none⟩ = some (.slice ea0_279 a0.1.length ecap0_279) := below_later (hb_363) c_347; clear c_347
    have c_374 : w_12.cell? ⟨w_10.heap.size, 1, none⟩ = some (.slice ea1_279 a0.2.length ecap1_279) := below_later (hb_363) c_348; clear c_348
    have c_375 : w_12.cell? ⟨w_11.heap.size, 0, none⟩ = some (.slice ea0_314 a1.1.length ecap0_314) := below_later (hb_363) c_355; clear c_355
    have c_376 : w_12.cell? ⟨w_11.heap.size, 1, none⟩ = some (.slice ea1_314 a1.2.length ecap1_314) := below_later (hb_363) c_356; clear c_356
    have RD_377 := Lib.hid (kMachine_ok.rbelow RD_349.out (Below.mono (hb_363) (by first | omega | (simp; done) | (simp; omega)))); clear RD_349
    have hz_378 : wc8.heap.size ≤ w_12.heap.size := Nat.le_trans hz_350 hz_364
    have OW_379 := Lib.hid (kMachine_ok.oframe OW_351.out (w' := w_12) fun b hm => (hb_363).block b (kMachine_ok.olt OW_351.out b hm)); clear OW_351
    have hz_380 : w_10.heap.size ≤ w_12.heap.size := Nat.le_trans hz_352 hz_364
    have OW_381 := Lib.hid (kMachine_ok.oframe OW_353.out (w' := w_12) fun b hm => (hb_363).block b (kMachine_ok.olt OW_353.out b hm)); clear OW_353
    have hz_382 : w_11.heap.size ≤ w_12.heap.size := Nat.le_trans hz_354 hz_364
    clear hb_363
    have hz_383 : w_12.heap.size ≤ w_12.heap.size := Nat.le_refl _
    have hb_384 : Below w_12.heap.size w_12 (w_12.alloc (.cells #[.slice ea0_357 r0.1.length ecap0_357, .slice ea1_357 r0.2.length ecap1_357] 28)) := (Below.refl _ _).alloc (Nat.le_refl _) _
    have hz_385 : w_12.heap.size ≤ w_12.heap.size + 1 := by have := (hb_384).size; first | omega | (simp at this; omega)
    have HB_386 := Lib.hid (box2_step HB_365.out hb_384)
    have hz_387 : w.heap.size + 2 ≤ w_12.heap.size + 1 := Nat.le_trans hz_366 hz_385
    have c_388 : (w_12.alloc (.cells #[.slice ea0_357 r0.1.length ecap0_357, .slice ea1_357 r0.2.length ecap1_357] 28)).cell? ⟨w.heap.size, 0, none⟩ = some (.slice ea0_0 a0.1.length ecap0_0) := below_later (hb_384) c_367; clear c_367
    have c_389 : (w_12.alloc (.cells #[.slice ea0_357 r0.1.length ecap0_357, .slice ea1_357 r0.2.length ecap1_357] 28)).cell? ⟨w.heap.size, 1, none⟩ = some (.slice ea0_1 a0.2.length ecap0_1) := below_later (hb_384) c_368; clear c_368
    have c_390 : (w_12.alloc (.cells #[.slice ea0_357 r0.1.length ecap0_357, .slice ea1_357 r0.2.length ecap1_357] 28)).cell? ⟨w.heap.size + 1, 0, none⟩ = some (.slice ea1_0 a1.1.length ecap1_0) := below_later (hb_384) c_369; clear c_369
    have c_391 : (w_12.alloc (.cells #[.slice ea0_357 r0.1.length ecap0_357, .slice ea1_357 r0.2.length ecap1_357] 28)).cell? ⟨w.heap.size + 1, 1, none⟩ = some (.slice ea1_1 a1.2.length ecap1_1) := below_later (hb_384) c_370; clear c_370
    have c_392 : (w_12.alloc (.cells #[.slice ea0_357 r0.1.length ecap0_357, .slice ea1_357 r0.2.length ecap1_357] 28)).cell? ⟨B8, 0, none⟩ = some (.slice ec0_8 r0.1.length cc0_8) := below_later (hb_384) c_371; clear c_371
    have c_393 : (w_12.alloc (.cells #[.slice ea0_357 r0.1.length ecap0_357, .slice ea1_357 r0.2.length ecap1_357] 28)).cell? ⟨B8, 1, none⟩ = some (.slice ec1_8 r0.2.length cc1_8) := below_later (hb_384) c_372; clear c_372
    have c_394 : (w_12.alloc (.cells #[.slice ea0_357 r0.1.length ecap0_357, .slice ea1_357 r0.2.length ecap1_357] 28)).cell? ⟨w_10.heap.size, 0, none⟩ = some (.slice ea0_279 a0.1.length ecap0_279) := below_later (hb_384) c_373; clear c_373
    have c_395 : (w_12.alloc (.cells #[.slice ea0_357 r0.1.length ecap0_357, .slice ea1_357 r0.2.length ecap1_357] 28)).cell? ⟨w_10.heap.size, 1, none⟩ = some (.slice ea1_279 a0.2.length ecap1_279) := below_later (hb_384) c_374; clear c_374
    have c_396 : (w_12.alloc (.cells #[.slice ea0_357 r0.1.length ecap0_357, .slice ea1_357 r0.2.length ecap1_357] 28)).cell? ⟨w_11.heap.size, 0, none⟩ = some (.slice ea0_314 a1.1.length ecap0_314) := below_later (hb_384) c_375; clear c_375
    have c_397 : (w_12.alloc (.cells #[.slice ea0_357 r0.1.length ecap0_357, .slice ea1_357 r0.2.length ecap1_357] 28)).cell? ⟨w_11.heap.size, 1, none⟩ = some (.slice ea1_314 a1.2.length ecap1_314) := below_later (hb_384) c_376; clear c_376
    have RD_398 := Lib.hid (kMachine_ok.rbelow RD_377.out (Below.mono (hb_384) (by first | omega | (simp; done) | (simp; omega)))); clear RD_377
    have hz_399 : wc8.heap.size ≤ w_12.heap.size + 1 := Nat.le_trans hz_378 hz_385
    have OW_400 := Lib.hid (kMachine_ok.oframe OW_379.out (w' := (w_12.alloc (.cells #[.slice ea0_357 r0.1.length ecap0_357, .slice ea1_357 r0.2.length ecap1_357] 28))) fun b hm => (hb_384).block b (kMachine_ok.olt OW_379.out b hm)); clear OW_379
    have hz_401 : w_10.heap.size ≤ w_12.heap.size + 1 := Nat.le_trans hz_380 hz_385
    have OW_402 := Lib.hid (kMachine_ok.oframe OW_381.out (w' := (w_12.alloc (.cells #[.slice ea0_357 r0.1.length ecap0_357, .slice ea1_357 r0.2.length ecap1_357] 28))) fun b hm => (hb_384).block b (kMachine_ok.olt OW_381.out b hm)); clear OW_381
    have hz_403 : w_11.heap.size ≤ w_12.heap.size + 1 := Nat.le_trans hz_382 hz_385
    have OW_404 := Lib.hid (kMachine_ok.oframe OW_359.out (w' := (w_12.alloc (.cells #[.slice ea0_357 r0.1.length ecap0_357, .slice ea1_357 r0.2.length ecap1_357] 28))) fun b hm => (hb_384).block b (kMachine_ok.olt OW_359.out b hm)); clear OW_359
    have hz_405 : w_12.heap.size ≤ w_12.heap.size + 1 := Nat.le_trans hz_383 hz_385
    clear hb_384
    have c_406 : (w_12.alloc (.cells #[.slice ea0_357 r0.1.length ecap0_357, .slice ea1_357 r0.2.length ecap1_357] 28)).cell? ⟨w_12.heap.size, 0, none⟩ = some (.slice ea0_357 r0.1.length ecap0_357) := by go_simp
    have c_407 : (w_12.alloc (.cells #[.slice ea0_357 r0.1.length ecap0_357, .slice ea1_357 r0.2.length ecap1_357] 28)).cell? ⟨w_12.heap.size, 1, none⟩ = some (.slice ea1_357 r0.2.length ecap1_357) := by go_simp
    go_wp2_with fail
    refine (eq_Machine (w := (w_12.alloc (.cells #[.slice ea0_357 r0.1.length ecap0_357, .slice ea1_357 r0.2.length ecap1_357] 28))) (kMachine_ok.ord OW_404.out (fun b hm => by have := HH_361.out b hm; first | omega | (simp; done) | (simp; omega))) (kMachine_ok.rmono RD_398.out (by first | omega | (simp; done) | (simp; omega)))).mono ?_
    rintro e w_13 ⟨rfl, hb⟩
    have hb_408 := hb; clear hb
    have hz_409 : w_12.heap.size + 1 ≤ w_13.heap.size := by have := (hb_408).size; first | omega | (simp at this; omega)
    have HB_410 := Lib.hid (box2_step HB_386.out hb_408)
    have hz_411 : w.heap.size + 2 ≤ w_13.heap.size := Nat.le_trans hz_387 hz_409
    have c_412 : w_13.cell? ⟨w.heap.size, 0, none⟩ = some (.slice ea0_0 a0.1.length ecap0_0) := below_later (hb_408) c_388; clear c_388
    have c_413 : w_13.cell? ⟨w.heap.size, 1, none⟩ = some (.slice ea0_1 a0.2.length ecap0_1) := below_later (hb_408) c_389; clear c_389
    have c_414 : w_13.cell? ⟨w.heap.size + 1, 0, none⟩ = some (.slice ea1_0 a1.1.length ecap1_0) := below_later (hb_408) c_390; clear c_390
    have c_415 : w_13.cell? ⟨w.heap.size + 1, 1, none⟩ = some (.slice ea1_1 a1.2.length ecap1_1) := below_later (hb_408) c_391; clear c_391
    have c_416 : w_13.cell? ⟨B8, 0, none⟩ = some (.slice ec0_8 r0.1.length cc0_8) := below_later (hb_408) c_392; clear c_392
    have c_417 : w_13.cell? ⟨B8, 1, none⟩ = some (.slice ec1_8 r0.2.length cc1_8) := below_later (hb_408) c_393; clear c_393
    have c_418 : w_13.cell? ⟨w_10.heap.size, 0, none⟩ = some (.slice ea0_279 a0.1.length ecap0_279) := below_later (hb_408) c_394; clear c_394
    have c_419 : w_13.cell? ⟨w_10.heap.size, 1, none⟩ = some (.slice ea1_279 a0.2.length ecap1_279) := below_later (hb_408) c_395; clear c_395
    have c_420 : w_13.cell? ⟨w_11.heap.size, 0, none⟩ = some (.slice ea0_314 a1.1.length ecap0_314) := below_later (hb_408) c_396; clear c_396
    have c_421 : w_13.cell? ⟨w_11.heap.size, 1, none⟩ = some (.slice ea1_314 a1.2.length ecap1_314) := below_later (hb_408) c_397; clear c_397
    have c_422 : w_13.cell? ⟨w_12.heap.size, 0, none⟩ = some (.slice ea0_357 r0.1.length ecap0_357) := below_later (hb_408) c_406; clear c_406
    have c_423 : w_13.cell? ⟨w_12.heap.size, 1, none⟩ = some (.slice ea1_357 r0.2.length ecap1_357) := below_later (hb_408) c_407; clear c_407
    have RD_424 := Lib.hid (kMachine_ok.rbelow RD_398.out (Below.mono (hb_408) (by first | omega | (simp; done) | (simp; omega)))); clear RD_398
    have hz_425 : wc8.heap.size ≤ w_13.heap.size := Nat.le_trans hz_399 hz_409
    have OW_426 := Lib.hid (kMachine_ok.oframe OW_400.out (w' := w_13) fun b hm => (hb_408).block b (kMachine_ok.olt OW_400.out b hm)); clear OW_400
    have hz_427 : w_10.heap.size ≤ w_13.heap.size := Nat.le_trans hz_401 hz_409
    have OW_428 := Lib.hid (kMachine_ok.oframe OW_402.out (w' := w_13) fun b hm => (hb_408).block b (kMachine_ok.olt OW_402.out b hm)); clear OW_402
    have hz_429 : w_11.heap.size ≤ w_13.heap.size := Nat.le_trans hz_403 hz_409
    have OW_430 := Lib.hid (kMachine_ok.oframe OW_404.out (w' := w_13) fun b hm => (hb_408).block b (kMachine_ok.olt OW_404.out b hm)); clear OW_404
    have hz_431 : w_12.heap.size ≤ w_13.heap.size := Nat.le_trans hz_405 hz_409
    clear hb_408
    go_wp2_with fail
    have hb_432 : Below w_13.heap.size w_13 w_13.drew := (Below.refl _ _).drew
    have hz_433 : w_13.heap.size ≤ w_13.heap.size := by have := (hb_432).size; first | omega | (simp at this; omega)
    have HB_434 := Lib.hid (box2_step HB_410.out hb_432)
    have hz_435 : w.heap.size + 2 ≤ w_13.heap.size := Nat.le_trans hz_411 hz_433
    have c_436 : w_13.drew.cell? ⟨w.heap.size, 0, none⟩ = some (.slice ea0_0 a0.1.length ecap0_0) := below_later (hb_432) c_412; clear c_412
    have c_437 : w_13.drew.cell? ⟨w.heap.size, 1, none⟩ = some (.slice ea0_1 a0.2.length ecap0_1) := below_later (hb_432) c_413; clear c_413
    have c_438 : w_13.drew.cell? ⟨w.heap.size + 1, 0, none⟩ = some (.slice ea1_0 a1.1.length ecap1_0) := below_later (hb_432) c_414; clear c_414
    have c_439 : w_13.drew.cell? ⟨w.heap.size + 1, 1, none⟩ = some (.slice ea1_1 a1.2.length ecap1_1) := below_later (hb_432) c_415; clear c_415
    have c_440 : w_13.drew.cell? ⟨B8, 0, none⟩ = some (.slice ec0_8 r0.1.length cc0_8) := below_later (hb_432) c_416; clear c_416
    have c_441 : w_13.drew.cell? ⟨B8, 1, none⟩ = some (.slice ec1_8 r0.2.length cc1_8) := below_later (hb_432) c_417; clear c_417
    have c_442 : w_13.drew.cell? ⟨w_10.heap.size, 0, none⟩ = some (.slice ea0_279 a0.1.length ecap0_279) := below_later (hb_432) c_418; clear c_418
    have c_443 : w_13.drew.cell? ⟨w_10.heap.size, 1, none⟩ = some (.slice ea1_279 a0.2.length ecap1_279) := below_later (hb_432) c_419; clear c_419
    have c_444 : w_13.drew.cell? ⟨w_11.heap.size, 0, none⟩ = some (.slice ea0_314 a1.1.length ecap0_314) := below_later (hb_432) c_420; clear c_420
    have c_445 : w_13.drew.cell? ⟨w_11.heap.size, 1, none⟩ = some (.slice ea1_314 a1.2.length ecap1_314) := below_later (hb_432) c_421; clear c_421
    have c_446 : w_13.drew.cell? ⟨w_12.heap.size, 0, none⟩ = some (.slice ea0_357 r0.1.length ecap0_357) := below_later (hb_432) c_422; clear c_422
    have c_447 : w_13.drew.cell? ⟨w_12.heap.size, 1, none⟩ = some (.slice ea1_357 r0.2.length ecap1_357) := below_later (hb_432) c_423; clear c_423
    have RD_448 := Lib.hid (kMachine_ok.rbelow RD_424.out (Below.mono (hb_432) (by first | omega | (simp; done) | (simp; omega)))); clear RD_424
    have hz_449 : wc8.heap.size ≤ w_13.heap.size := Nat.le_trans hz_425 hz_433
    have OW_450 := Lib.hid (kMachine_ok.oframe OW_426.out (w' := w_13.drew) fun b hm => (hb_432).block b (kMachine_ok.olt OW_426.out b hm)); clear OW_426
    have hz_451 : w_10.heap.size ≤ w_13.heap.size := Nat.le_trans hz_427 hz_433
    have OW_452 := Lib.hid (kMachine_ok.oframe OW_428.out (w' := w_13.drew) fun b hm => (hb_432).block b (kMachine_ok.olt OW_428.out b hm)); clear OW_428
    have hz_453 : w_11.heap.size ≤ w_13.heap.size := Nat.le_trans hz_429 hz_433
    have OW_454 := Lib.hid (kMachine_ok.oframe OW_430.out (w' := w_13.drew) fun b hm => (hb_432).block b (kMachine_ok.olt OW_430.out b hm)); clear OW_430
    have hz_455 : w_12.heap.size ≤ w_13.heap.size := Nat.le_trans hz_431 hz_433
    clear hb_432
    refine wp_region_G [3] (fun w' => w'.cell? ⟨w.heap.size, 0, none⟩ = some (.slice ea0_0 a0.1.length ecap0_0) ∧ w'.cell? ⟨w.heap.size, 1, none⟩ = some (.slice ea0_1 a0.2.length ecap0_1) ∧ w'.cell? ⟨w_10.heap.size, 0, none⟩ = some (.slice ea0_279 a0.1.length ecap0_279) ∧ w'.cell? ⟨w_10.heap.size, 1, none⟩ = some (.slice ea1_279 a0.2.length ecap1_279)) (by kernel_rfl) ?_ (fun hHeld => ?_)
    · exact ⟨c_436, c_437, c_442, c_443⟩
    refine wpG_load (i := 0) (oi := { dst := some 54, op := Go.Op.load 28 (Go.Operand.tmp 8), type := 28, pos := "exact.go:3661", after := #[], guard := none }) (v := ?vg1) [[3, 0]] rfl (by kernel_rfl) (fun _ _ _ h => h) hHeld (Or.inl ⟨by rfl, ?yg1⟩) ?_
    case yg1 => (intro wS hSw; (try dsimp only at hSw); go_simp <;> with_reducible rfl)
    try simp only [Act.put, List.setIfInBounds_toArray, List.set_cons_zero, List.set_cons_succ]
    refine wpG_load (i := 1) (oi := { dst := some 55, op := Go.Op.load 25 (Go.Operand.tmp 2), type := 25, pos := "exact.go:3661", after := #[], guard := none }) (v := ?vg2) [[3, 2, 1]] rfl (by kernel_rfl) (fun _ _ _ h => h) hHeld (Or.inl ⟨by rfl, ?yg2⟩) ?_
    case yg2 => (intro wS hSw; (try dsimp only at hSw); go_simp <;> with_reducible rfl)
    try simp only [Act.put, List.setIfInBounds_toArray, List.set_cons_zero, List.set_cons_succ]
    refine wpG_one (i := 2) (o := { dst := some 56, op := Go.Op.call { callee := Go.Callee.value (Go.Operand.func 13), args := #[Go.Operand.tmp 55], argTypes := #[25] }, type := 28, pos := "exact.go:3661", after := #[{ on := 1, ground := Go.Ground.data }], guard := none }) rfl (by kernel_rfl) (fun K hK => ?_)
    go_simp
    refine (HTO0.out _ (box2_below HB_434.out)).mono ?_
    rintro e w_14 ⟨cs_456, fp_456, he, ho, hnd, hge, hb⟩
    have hrd := kMachine_ok.ord ho (B := w_14.heap.size) (kMachine_ok.olt ho)
    obtain ⟨ea0_456, ecap0_456, ea1_456, ecap1_456, rfl, _, _⟩ := Machine_rd hrd
    change e = .returned (.agg #[.slice ea0_456 a0.1.length ecap0_456, .slice ea1_456 a0.2.length ecap1_456]) at he
    subst he
    have hrd2 := kMachine_ok.ord ho (B := w_14.heap.size) (kMachine_ok.olt ho)
    have OW_457 := Lib.hid ho; have HN_460 := Lib.hid hnd
    have HL_458 : Hid (∀ b ∈ fp_456, w_13.heap.size ≤ b) := Lib.hid fun b hm => by have := hge b hm; first | omega | (simp at this; omega)
    have HH_459 : Hid (∀ b ∈ fp_456, b < w_14.heap.size) := Lib.hid (kMachine_ok.olt ho)
    have RD_461 := Lib.hid hrd2; clear ho hnd hge hrd2 hrd
    have hb_462 := hb; clear hb
    have hz_463 : w_13.heap.size ≤ w_14.heap.size := by have := (hb_462).size; first | omega | (simp at this; omega)
    have HB_464 := Lib.hid (box2_step HB_434.out hb_462)
    have hz_465 : w.heap.size + 2 ≤ w_14.heap.size := Nat.le_trans hz_435 hz_463
    have c_466 : w_14.cell? ⟨w.heap.size, 0, none⟩ = some (.slice ea0_0 a0.1.length ecap0_0) := below_later (hb_462) c_436; clear c_436
    have c_467 : w_14.cell? ⟨w.heap.size, 1, none⟩ = some (.slice ea0_1 a0.2.length ecap0_1) := below_later (hb_462) c_437; clear c_437
    have c_468 : w_14.cell? ⟨w.heap.size + 1, 0, none⟩ = some (.slice ea1_0 a1.1.length ecap1_0) := below_later (hb_462) c_438; clear c_438
    have c_469 : w_14.cell? ⟨w.heap.size + 1, 1, none⟩ = some (.slice ea1_1 a1.2.length ecap1_1) := below_later (hb_462) c_439; clear c_439
    have c_470 : w_14.cell? ⟨B8, 0, none⟩ = some (.slice ec0_8 r0.1.length cc0_8) := below_later (hb_462) c_440; clear c_440
    have c_471 : w_14.cell? ⟨B8, 1, none⟩ = some (.slice ec1_8 r0.2.length cc1_8) := below_later (hb_462) c_441; clear c_441
    have c_472 : w_14.cell? ⟨w_10.heap.size, 0, none⟩ = some (.slice ea0_279 a0.1.length ecap0_279) := below_later (hb_462) c_442; clear c_442
    have c_473 : w_14.cell? ⟨w_10.heap.size, 1, none⟩ = some (.slice ea1_279 a0.2.length ecap1_279) := below_later (hb_462) c_443; clear c_443
    have c_474 : w_14.cell? ⟨w_11.heap.size, 0, none⟩ = some (.slice ea0_314 a1.1.length ecap0_314) := below_later (hb_462) c_444; clear c_444
    have c_475 : w_14.cell? ⟨w_11.heap.size, 1, none⟩ = some (.slice ea1_314 a1.2.length ecap1_314) := below_later (hb_462) c_445; clear c_445
    have c_476 : w_14.cell? ⟨w_12.heap.size, 0, none⟩ = some (.slice ea0_357 r0.1.length ecap0_357) := below_later (hb_462) c_446; clear c_446
    have c_477 : w_14.cell? ⟨w_12.heap.size, 1, none⟩ = some (.slice ea1_357 r0.2.length ecap1_357) := below_later (hb_462) c_447; clear c_447
    have RD_478 := Lib.hid (kMachine_ok.rbelow RD_448.out (Below.mono (hb_462) (by first | omega | (simp; done) | (simp; omega)))); clear RD_448
    have hz_479 : wc8.heap.size ≤ w_14.heap.size := Nat.le_trans hz_449 hz_463
    have OW_480 := Lib.hid (kMachine_ok.oframe OW_450.out (w' := w_14) fun b hm => (hb_462).block b (kMachine_ok.olt OW_450.out b hm)); clear OW_450
    have hz_481 : w_10.heap.size ≤ w_14.heap.size := Nat.le_trans hz_451 hz_463
    have OW_482 := Lib.hid (kMachine_ok.oframe OW_452.out (w' := w_14) fun b hm => (hb_462).block b (kMachine_ok.olt OW_452.out b hm)); clear OW_452
    have hz_483 : w_11.heap.size ≤ w_14.heap.size := Nat.le_trans hz_453 hz_463
    have OW_484 := Lib.hid (kMachine_ok.oframe OW_454.out (w' := w_14) fun b hm => (hb_462).block b (kMachine_ok.olt OW_454.out b hm)); clear OW_454
    have hz_485 : w_12.heap.size ≤ w_14.heap.size := Nat.le_trans hz_455 hz_463
    have HQ := Lib.hid hb_462; clear hb_462 HQ
    have hz_486 : w_14.heap.size ≤ w_14.heap.size := Nat.le_refl _
    refine hK.out _ _ (Or.inr ?khHeld3) (fun hHeld3S => ?_)
    case khHeld3 => exact ⟨c_466, c_467, c_472, c_473⟩
    have hHeld3 := hHeld3S.held (by kernel_rfl)
    clear hK K
    try simp only [Act.put, List.setIfInBounds_toArray, List.set_cons_zero, List.set_cons_succ]
    refine wpG_one (i := 3) (o := { dst := some 57, op := Go.Op.call { callee := Go.Callee.value (Go.Operand.func 15), args := #[Go.Operand.tmp 54, Go.Operand.tmp 56], argTypes := #[28, 28] }, type := 4, pos := "exact.go:3661", after := #[{ on := 0, ground := Go.Ground.data }, { on := 2, ground := Go.Ground.data }, { on := 2, ground := Go.Ground.chain }], guard := none }) rfl (by kernel_rfl) (fun K hK => ?_)
    go_simp
    refine (eq_Machine (w := w_14) (kMachine_ok.ord OW_480.out (fun b hm => by have := HH_282.out b hm; first | omega | (simp; done) | (simp; omega))) (kMachine_ok.rmono RD_461.out (by first | omega | (simp; done) | (simp; omega)))).mono ?_
    rintro e w_15 ⟨rfl, hb⟩
    have hb_487 := hb; clear hb
    have hz_488 : w_14.heap.size ≤ w_15.heap.size := by have := (hb_487).size; first | omega | (simp at this; omega)
    have HB_489 := Lib.hid (box2_step HB_464.out hb_487)
    have hz_490 : w.heap.size + 2 ≤ w_15.heap.size := Nat.le_trans hz_465 hz_488
    have c_491 : w_15.cell? ⟨w.heap.size, 0, none⟩ = some (.slice ea0_0 a0.1.length ecap0_0) := below_later (hb_487) c_466; clear c_466
    have c_492 : w_15.cell? ⟨w.heap.size, 1, none⟩ = some (.slice ea0_1 a0.2.length ecap0_1) := below_later (hb_487) c_467; clear c_467
    have c_493 : w_15.cell? ⟨w.heap.size + 1, 0, none⟩ = some (.slice ea1_0 a1.1.length ecap1_0) := below_later (hb_487) c_468; clear c_468
    have c_494 : w_15.cell? ⟨w.heap.size + 1, 1, none⟩ = some (.slice ea1_1 a1.2.length ecap1_1) := below_later (hb_487) c_469; clear c_469
    have c_495 : w_15.cell? ⟨B8, 0, none⟩ = some (.slice ec0_8 r0.1.length cc0_8) := below_later (hb_487) c_470; clear c_470
    have c_496 : w_15.cell? ⟨B8, 1, none⟩ = some (.slice ec1_8 r0.2.length cc1_8) := below_later (hb_487) c_471; clear c_471
    have c_497 : w_15.cell? ⟨w_10.heap.size, 0, none⟩ = some (.slice ea0_279 a0.1.length ecap0_279) := below_later (hb_487) c_472; clear c_472
    have c_498 : w_15.cell? ⟨w_10.heap.size, 1, none⟩ = some (.slice ea1_279 a0.2.length ecap1_279) := below_later (hb_487) c_473; clear c_473
    have c_499 : w_15.cell? ⟨w_11.heap.size, 0, none⟩ = some (.slice ea0_314 a1.1.length ecap0_314) := below_later (hb_487) c_474; clear c_474
    have c_500 : w_15.cell? ⟨w_11.heap.size, 1, none⟩ = some (.slice ea1_314 a1.2.length ecap1_314) := below_later (hb_487) c_475; clear c_475
    have c_501 : w_15.cell? ⟨w_12.heap.size, 0, none⟩ = some (.slice ea0_357 r0.1.length ecap0_357) := below_later (hb_487) c_476; clear c_476
    have c_502 : w_15.cell? ⟨w_12.heap.size, 1, none⟩ = some (.slice ea1_357 r0.2.length ecap1_357) := below_later (hb_487) c_477; clear c_477
    have RD_503 := Lib.hid (kMachine_ok.rbelow RD_478.out (Below.mono (hb_487) (by first | omega | (simp; done) | (simp; omega)))); clear RD_478
    have hz_504 : wc8.heap.size ≤ w_15.heap.size := Nat.le_trans hz_479 hz_488
    have RD_505 := Lib.hid (kMachine_ok.rbelow RD_461.out (Below.mono (hb_487) (by first | omega | (simp; done) | (simp; omega)))); clear RD_461
    have hz_506 : w_14.heap.size ≤ w_15.heap.size := Nat.le_trans hz_486 hz_488
    have OW_507 := Lib.hid (kMachine_ok.oframe OW_480.out (w' := w_15) fun b hm => (hb_487).block b (kMachine_ok.olt OW_480.out b hm)); clear OW_480
    have hz_508 : w_10.heap.size ≤ w_15.heap.size := Nat.le_trans hz_481 hz_488
    have OW_509 := Lib.hid (kMachine_ok.oframe OW_482.out (w' := w_15) fun b hm => (hb_487).block b (kMachine_ok.olt OW_482.out b hm)); clear OW_482
    have hz_510 : w_11.heap.size ≤ w_15.heap.size := Nat.le_trans hz_483 hz_488
    have OW_511 := Lib.hid (kMachine_ok.oframe OW_484.out (w' := w_15) fun b hm => (hb_487).block b (kMachine_ok.olt OW_484.out b hm)); clear OW_484
    have hz_512 : w_12.heap.size ≤ w_15.heap.size := Nat.le_trans hz_485 hz_488
    clear hb_487
    refine hK.out _ _ (Or.inl (by kernel_rfl)) (fun _ => ?_)
    clear hK K
    try simp only [Act.put, List.setIfInBounds_toArray, List.set_cons_zero, List.set_cons_succ]
    refine wpG_pure (i := 4) (oi := { dst := some 58, op := Go.Op.unOp Go.UnOp.not 4 (Go.Operand.tmp 57), type := 4, pos := "exact.go:3661", after := #[{ on := 3, ground := Go.Ground.data }], guard := none }) (v := ?vg5) rfl (by kernel_rfl) (fun _ _ _ h => h) (Or.inl (by kernel_rfl)) (Or.inl ⟨by rfl, ?yg5⟩) ?_
    case yg5 => (intro wS _; go_simp <;> with_reducible rfl)
    try simp only [Act.put, List.setIfInBounds_toArray, List.set_cons_zero, List.set_cons_succ]
    refine wpG_done (by kernel_rfl) ?_
    go_wp2_with fail
    have hb_513 : Below w_15.heap.size w_15 w_15.drew := (Below.refl _ _).drew
    have hz_514 : w_15.heap.size ≤ w_15.heap.size := by have := (hb_513).size; first | omega | (simp at this; omega)
    have HB_515 := Lib.hid (box2_step HB_489.out hb_513)
    have hz_516 : w.heap.size + 2 ≤ w_15.heap.size := Nat.le_trans hz_490 hz_514
    have c_517 : w_15.drew.cell? ⟨w.heap.size, 0, none⟩ = some (.slice ea0_0 a0.1.length ecap0_0) := below_later (hb_513) c_491; clear c_491
    have c_518 : w_15.drew.cell? ⟨w.heap.size, 1, none⟩ = some (.slice ea0_1 a0.2.length ecap0_1) := below_later (hb_513) c_492; clear c_492
    have c_519 : w_15.drew.cell? ⟨w.heap.size + 1, 0, none⟩ = some (.slice ea1_0 a1.1.length ecap1_0) := below_later (hb_513) c_493; clear c_493
    have c_520 : w_15.drew.cell? ⟨w.heap.size + 1, 1, none⟩ = some (.slice ea1_1 a1.2.length ecap1_1) := below_later (hb_513) c_494; clear c_494
    have c_521 : w_15.drew.cell? ⟨B8, 0, none⟩ = some (.slice ec0_8 r0.1.length cc0_8) := below_later (hb_513) c_495; clear c_495
    have c_522 : w_15.drew.cell? ⟨B8, 1, none⟩ = some (.slice ec1_8 r0.2.length cc1_8) := below_later (hb_513) c_496; clear c_496
    have c_523 : w_15.drew.cell? ⟨w_10.heap.size, 0, none⟩ = some (.slice ea0_279 a0.1.length ecap0_279) := below_later (hb_513) c_497; clear c_497
    have c_524 : w_15.drew.cell? ⟨w_10.heap.size, 1, none⟩ = some (.slice ea1_279 a0.2.length ecap1_279) := below_later (hb_513) c_498; clear c_498
    have c_525 : w_15.drew.cell? ⟨w_11.heap.size, 0, none⟩ = some (.slice ea0_314 a1.1.length ecap0_314) := below_later (hb_513) c_499; clear c_499
    have c_526 : w_15.drew.cell? ⟨w_11.heap.size, 1, none⟩ = some (.slice ea1_314 a1.2.length ecap1_314) := below_later (hb_513) c_500; clear c_500
    have c_527 : w_15.drew.cell? ⟨w_12.heap.size, 0, none⟩ = some (.slice ea0_357 r0.1.length ecap0_357) := below_later (hb_513) c_501; clear c_501
    have c_528 : w_15.drew.cell? ⟨w_12.heap.size, 1, none⟩ = some (.slice ea1_357 r0.2.length ecap1_357) := below_later (hb_513) c_502; clear c_502
    have RD_529 := Lib.hid (kMachine_ok.rbelow RD_503.out (Below.mono (hb_513) (by first | omega | (simp; done) | (simp; omega)))); clear RD_503
    have hz_530 : wc8.heap.size ≤ w_15.heap.size := Nat.le_trans hz_504 hz_514
    have OW_531 := Lib.hid (kMachine_ok.oframe OW_507.out (w' := w_15.drew) fun b hm => (hb_513).block b (kMachine_ok.olt OW_507.out b hm)); clear OW_507
    have hz_532 : w_10.heap.size ≤ w_15.heap.size := Nat.le_trans hz_508 hz_514
    have OW_533 := Lib.hid (kMachine_ok.oframe OW_509.out (w' := w_15.drew) fun b hm => (hb_513).block b (kMachine_ok.olt OW_509.out b hm)); clear OW_509
    have hz_534 : w_11.heap.size ≤ w_15.heap.size := Nat.le_trans hz_510 hz_514
    have OW_535 := Lib.hid (kMachine_ok.oframe OW_511.out (w' := w_15.drew) fun b hm => (hb_513).block b (kMachine_ok.olt OW_511.out b hm)); clear OW_511
    have hz_536 : w_12.heap.size ≤ w_15.heap.size := Nat.le_trans hz_512 hz_514
    clear hb_513
    refine wp_region_G [3] (fun w' => w'.cell? ⟨w.heap.size + 1, 0, none⟩ = some (.slice ea1_0 a1.1.length ecap1_0) ∧ w'.cell? ⟨w.heap.size + 1, 1, none⟩ = some (.slice ea1_1 a1.2.length ecap1_1) ∧ w'.cell? ⟨w_11.heap.size, 0, none⟩ = some (.slice ea0_314 a1.1.length ecap0_314) ∧ w'.cell? ⟨w_11.heap.size, 1, none⟩ = some (.slice ea1_314 a1.2.length ecap1_314)) (by kernel_rfl) ?_ (fun hHeld => ?_)
    · exact ⟨c_519, c_520, c_525, c_526⟩
    refine wpG_load (i := 0) (oi := { dst := some 59, op := Go.Op.load 28 (Go.Operand.tmp 9), type := 28, pos := "exact.go:3664", after := #[], guard := none }) (v := ?vg6) [[3, 0]] rfl (by kernel_rfl) (fun _ _ _ h => h) hHeld (Or.inl ⟨by rfl, ?yg6⟩) ?_
    case yg6 => (intro wS hSw; (try dsimp only at hSw); go_simp <;> with_reducible rfl)
    try simp only [Act.put, List.setIfInBounds_toArray, List.set_cons_zero, List.set_cons_succ]
    refine wpG_load (i := 1) (oi := { dst := some 60, op := Go.Op.load 25 (Go.Operand.tmp 3), type := 25, pos := "exact.go:3664", after := #[], guard := none }) (v := ?vg7) [[3, 2, 1]] rfl (by kernel_rfl) (fun _ _ _ h => h) hHeld (Or.inl ⟨by rfl, ?yg7⟩) ?_
    case yg7 => (intro wS hSw; (try dsimp only at hSw); go_simp <;> with_reducible rfl)
    try simp only [Act.put, List.setIfInBounds_toArray, List.set_cons_zero, List.set_cons_succ]
    refine wpG_one (i := 2) (o := { dst := some 61, op := Go.Op.call { callee := Go.Callee.value (Go.Operand.func 13), args := #[Go.Operand.tmp 60], argTypes := #[25] }, type := 28, pos := "exact.go:3664", after := #[{ on := 1, ground := Go.Ground.data }], guard := none }) rfl (by kernel_rfl) (fun K hK => ?_)
    go_simp
    refine (HTO1.out _ (box2_below HB_515.out)).mono ?_
    rintro e w_16 ⟨cs_537, fp_537, he, ho, hnd, hge, hb⟩
    have hrd := kMachine_ok.ord ho (B := w_16.heap.size) (kMachine_ok.olt ho)
    obtain ⟨ea0_537, ecap0_537, ea1_537, ecap1_537, rfl, _, _⟩ := Machine_rd hrd
    change e = .returned (.agg #[.slice ea0_537 a1.1.length ecap0_537, .slice ea1_537 a1.2.length ecap1_537]) at he
    subst he
    have hrd2 := kMachine_ok.ord ho (B := w_16.heap.size) (kMachine_ok.olt ho)
    have OW_538 := Lib.hid ho; have HN_541 := Lib.hid hnd
    have HL_539 : Hid (∀ b ∈ fp_537, w_15.heap.size ≤ b) := Lib.hid fun b hm => by have := hge b hm; first | omega | (simp at this; omega)
    have HH_540 : Hid (∀ b ∈ fp_537, b < w_16.heap.size) := Lib.hid (kMachine_ok.olt ho)
    have RD_542 := Lib.hid hrd2; clear ho hnd hge hrd2 hrd
    have hb_543 := hb; clear hb
    have hz_544 : w_15.heap.size ≤ w_16.heap.size := by have := (hb_543).size; first | omega | (simp at this; omega)
    have HB_545 := Lib.hid (box2_step HB_515.out hb_543)
    have hz_546 : w.heap.size + 2 ≤ w_16.heap.size := Nat.le_trans hz_516 hz_544
    have c_547 : w_16.cell? ⟨w.heap.size, 0, none⟩ = some (.slice ea0_0 a0.1.length ecap0_0) := below_later (hb_543) c_517; clear c_517
    have c_548 : w_16.cell? ⟨w.heap.size, 1, none⟩ = some (.slice ea0_1 a0.2.length ecap0_1) := below_later (hb_543) c_518; clear c_518
    have c_549 : w_16.cell? ⟨w.heap.size + 1, 0, none⟩ = some (.slice ea1_0 a1.1.length ecap1_0) := below_later (hb_543) c_519; clear c_519
    have c_550 : w_16.cell? ⟨w.heap.size + 1, 1, none⟩ = some (.slice ea1_1 a1.2.length ecap1_1) := below_later (hb_543) c_520; clear c_520
    have c_551 : w_16.cell? ⟨B8, 0, none⟩ = some (.slice ec0_8 r0.1.length cc0_8) := below_later (hb_543) c_521; clear c_521
    have c_552 : w_16.cell? ⟨B8, 1, none⟩ = some (.slice ec1_8 r0.2.length cc1_8) := below_later (hb_543) c_522; clear c_522
    have c_553 : w_16.cell? ⟨w_10.heap.size, 0, none⟩ = some (.slice ea0_279 a0.1.length ecap0_279) := below_later (hb_543) c_523; clear c_523
    have c_554 : w_16.cell? ⟨w_10.heap.size, 1, none⟩ = some (.slice ea1_279 a0.2.length ecap1_279) := below_later (hb_543) c_524; clear c_524
    have c_555 : w_16.cell? ⟨w_11.heap.size, 0, none⟩ = some (.slice ea0_314 a1.1.length ecap0_314) := below_later (hb_543) c_525; clear c_525
    have c_556 : w_16.cell? ⟨w_11.heap.size, 1, none⟩ = some (.slice ea1_314 a1.2.length ecap1_314) := below_later (hb_543) c_526; clear c_526
    have c_557 : w_16.cell? ⟨w_12.heap.size, 0, none⟩ = some (.slice ea0_357 r0.1.length ecap0_357) := below_later (hb_543) c_527; clear c_527
    have c_558 : w_16.cell? ⟨w_12.heap.size, 1, none⟩ = some (.slice ea1_357 r0.2.length ecap1_357) := below_later (hb_543) c_528; clear c_528
    have RD_559 := Lib.hid (kMachine_ok.rbelow RD_529.out (Below.mono (hb_543) (by first | omega | (simp; done) | (simp; omega)))); clear RD_529
    have hz_560 : wc8.heap.size ≤ w_16.heap.size := Nat.le_trans hz_530 hz_544
    have OW_561 := Lib.hid (kMachine_ok.oframe OW_531.out (w' := w_16) fun b hm => (hb_543).block b (kMachine_ok.olt OW_531.out b hm)); clear OW_531
    have hz_562 : w_10.heap.size ≤ w_16.heap.size := Nat.le_trans hz_532 hz_544
    have OW_563 := Lib.hid (kMachine_ok.oframe OW_533.out (w' := w_16) fun b hm => (hb_543).block b (kMachine_ok.olt OW_533.out b hm)); clear OW_533
    have hz_564 : w_11.heap.size ≤ w_16.heap.size := Nat.le_trans hz_534 hz_544
    have OW_565 := Lib.hid (kMachine_ok.oframe OW_535.out (w' := w_16) fun b hm => (hb_543).block b (kMachine_ok.olt OW_535.out b hm)); clear OW_535
    have hz_566 : w_12.heap.size ≤ w_16.heap.size := Nat.le_trans hz_536 hz_544
    have HQ := Lib.hid hb_543; clear hb_543 HQ
    have hz_567 : w_16.heap.size ≤ w_16.heap.size := Nat.le_refl _
    refine hK.out _ _ (Or.inr ?khHeld8) (fun hHeld8S => ?_)
    case khHeld8 => exact ⟨c_549, c_550, c_555, c_556⟩
    have hHeld8 := hHeld8S.held (by kernel_rfl)
    clear hK K
    try simp only [Act.put, List.setIfInBounds_toArray, List.set_cons_zero, List.set_cons_succ]
    refine wpG_one (i := 3) (o := { dst := some 62, op := Go.Op.call { callee := Go.Callee.value (Go.Operand.func 15), args := #[Go.Operand.tmp 59, Go.Operand.tmp 61], argTypes := #[28, 28] }, type := 4, pos := "exact.go:3664", after := #[{ on := 0, ground := Go.Ground.data }, { on := 2, ground := Go.Ground.data }, { on := 2, ground := Go.Ground.chain }], guard := none }) rfl (by kernel_rfl) (fun K hK => ?_)
    go_simp
    refine (eq_Machine (w := w_16) (kMachine_ok.ord OW_563.out (fun b hm => by have := HH_317.out b hm; first | omega | (simp; done) | (simp; omega))) (kMachine_ok.rmono RD_542.out (by first | omega | (simp; done) | (simp; omega)))).mono ?_
    rintro e w_17 ⟨rfl, hb⟩
    have hb_568 := hb; clear hb
    have hz_569 : w_16.heap.size ≤ w_17.heap.size := by have := (hb_568).size; first | omega | (simp at this; omega)
    have HB_570 := Lib.hid (box2_step HB_545.out hb_568)
    have hz_571 : w.heap.size + 2 ≤ w_17.heap.size := Nat.le_trans hz_546 hz_569
    have c_572 : w_17.cell? ⟨w.heap.size, 0, none⟩ = some (.slice ea0_0 a0.1.length ecap0_0) := below_later (hb_568) c_547; clear c_547
    have c_573 : w_17.cell? ⟨w.heap.size, 1, none⟩ = some (.slice ea0_1 a0.2.length ecap0_1) := below_later (hb_568) c_548; clear c_548
    have c_574 : w_17.cell? ⟨w.heap.size + 1, 0, none⟩ = some (.slice ea1_0 a1.1.length ecap1_0) := below_later (hb_568) c_549; clear c_549
    have c_575 : w_17.cell? ⟨w.heap.size + 1, 1, none⟩ = some (.slice ea1_1 a1.2.length ecap1_1) := below_later (hb_568) c_550; clear c_550
    have c_576 : w_17.cell? ⟨B8, 0, none⟩ = some (.slice ec0_8 r0.1.length cc0_8) := below_later (hb_568) c_551; clear c_551
    have c_577 : w_17.cell? ⟨B8, 1, none⟩ = some (.slice ec1_8 r0.2.length cc1_8) := below_later (hb_568) c_552; clear c_552
    have c_578 : w_17.cell? ⟨w_10.heap.size, 0, none⟩ = some (.slice ea0_279 a0.1.length ecap0_279) := below_later (hb_568) c_553; clear c_553
    have c_579 : w_17.cell? ⟨w_10.heap.size, 1, none⟩ = some (.slice ea1_279 a0.2.length ecap1_279) := below_later (hb_568) c_554; clear c_554
    have c_580 : w_17.cell? ⟨w_11.heap.size, 0, none⟩ = some (.slice ea0_314 a1.1.length ecap0_314) := below_later (hb_568) c_555; clear c_555
    have c_581 : w_17.cell? ⟨w_11.heap.size, 1, none⟩ = some (.slice ea1_314 a1.2.length ecap1_314) := below_later (hb_568) c_556; clear c_556
    have c_582 : w_17.cell? ⟨w_12.heap.size, 0, none⟩ = some (.slice ea0_357 r0.1.length ecap0_357) := below_later (hb_568) c_557; clear c_557
    have c_583 : w_17.cell? ⟨w_12.heap.size, 1, none⟩ = some (.slice ea1_357 r0.2.length ecap1_357) := below_later (hb_568) c_558; clear c_558
    have RD_584 := Lib.hid (kMachine_ok.rbelow RD_559.out (Below.mono (hb_568) (by first | omega | (simp; done) | (simp; omega)))); clear RD_559
    have hz_585 : wc8.heap.size ≤ w_17.heap.size := Nat.le_trans hz_560 hz_569
    have RD_586 := Lib.hid (kMachine_ok.rbelow RD_542.out (Below.mono (hb_568) (by first | omega | (simp; done) | (simp; omega)))); clear RD_542
    have hz_587 : w_16.heap.size ≤ w_17.heap.size := Nat.le_trans hz_567 hz_569
    have OW_588 := Lib.hid (kMachine_ok.oframe OW_561.out (w' := w_17) fun b hm => (hb_568).block b (kMachine_ok.olt OW_561.out b hm)); clear OW_561
    have hz_589 : w_10.heap.size ≤ w_17.heap.size := Nat.le_trans hz_562 hz_569
    have OW_590 := Lib.hid (kMachine_ok.oframe OW_563.out (w' := w_17) fun b hm => (hb_568).block b (kMachine_ok.olt OW_563.out b hm)); clear OW_563
    have hz_591 : w_11.heap.size ≤ w_17.heap.size := Nat.le_trans hz_564 hz_569
    have OW_592 := Lib.hid (kMachine_ok.oframe OW_565.out (w' := w_17) fun b hm => (hb_568).block b (kMachine_ok.olt OW_565.out b hm)); clear OW_565
    have hz_593 : w_12.heap.size ≤ w_17.heap.size := Nat.le_trans hz_566 hz_569
    clear hb_568
    refine hK.out _ _ (Or.inl (by kernel_rfl)) (fun _ => ?_)
    clear hK K
    try simp only [Act.put, List.setIfInBounds_toArray, List.set_cons_zero, List.set_cons_succ]
    refine wpG_pure (i := 4) (oi := { dst := some 63, op := Go.Op.unOp Go.UnOp.not 4 (Go.Operand.tmp 62), type := 4, pos := "exact.go:3664", after := #[{ on := 3, ground := Go.Ground.data }], guard := none }) (v := ?vg10) rfl (by kernel_rfl) (fun _ _ _ h => h) (Or.inl (by kernel_rfl)) (Or.inl ⟨by rfl, ?yg10⟩) ?_
    case yg10 => (intro wS _; go_simp <;> with_reducible rfl)
    try simp only [Act.put, List.setIfInBounds_toArray, List.set_cons_zero, List.set_cons_succ]
    refine wpG_done (by kernel_rfl) ?_
    have hm_594 := mark_Machine (w := w_17) 1 OW_588.out HN_283.out (by omega) (by have := kMachine_ok.cwt a0; have := kMachine_ok.cwt a1; have := HT.out; have e0 : kMachine.s ≤ 8 := (by decide); have e1 : kMachine.s ≤ 8 := (by decide); omega)
    rw [show ((1 : Nat) : Int) = 1 from rfl] at hm_594
    have hqq_595 : ∃ z : Nat, 1 + kMachine.cnt a0 = z := ⟨_, rfl⟩
    obtain ⟨q_595, hq_595⟩ := hqq_595
    rw [hq_595] at hm_594
    have bq_595 : 1 ≤ q_595 := by omega
    have HM_596 := Lib.hid hm_594; clear hm_594
    have HQ_597 := Lib.hid hq_595; clear hq_595
    go_wp2_with fail
    refine HM_596.out.mono ?_
    rintro e w_18 ⟨rfl, ho, hw⟩
    have OW_598 := Lib.hid ho; clear ho
    have hw_599 := hw; clear hw
    have hz_600 : w_17.heap.size ≤ w_18.heap.size := by have := (hw_599).size; first | omega | (simp at this; omega)
    have HB_601 := Lib.hid (Below.trans HB_570.out (Wrote.below hw_599 (by first | omega | (simp; done) | (simp; omega)) (fun b hm => by have := HL_281.out b hm; omega)))
    have hz_602 : w.heap.size + 2 ≤ w_18.heap.size := Nat.le_trans hz_571 hz_600
    have c_603 : w_18.cell? ⟨w.heap.size, 0, none⟩ = some (.slice ea0_0 a0.1.length ecap0_0) := Wrote.cell (hw_599) c_572 (fun hm => by have := HL_281.out _ hm; have := HH_282.out _ hm; omega); clear c_572
    have c_604 : w_18.cell? ⟨w.heap.size, 1, none⟩ = some (.slice ea0_1 a0.2.length ecap0_1) := Wrote.cell (hw_599) c_573 (fun hm => by have := HL_281.out _ hm; have := HH_282.out _ hm; omega); clear c_573
    have c_605 : w_18.cell? ⟨w.heap.size + 1, 0, none⟩ = some (.slice ea1_0 a1.1.length ecap1_0) := Wrote.cell (hw_599) c_574 (fun hm => by have := HL_281.out _ hm; have := HH_282.out _ hm; omega); clear c_574
    have c_606 : w_18.cell? ⟨w.heap.size + 1, 1, none⟩ = some (.slice ea1_1 a1.2.length ecap1_1) := Wrote.cell (hw_599) c_575 (fun hm => by have := HL_281.out _ hm; have := HH_282.out _ hm; omega); clear c_575
    have c_607 : w_18.cell? ⟨B8, 0, none⟩ = some (.slice ec0_8 r0.1.length cc0_8) := Wrote.cell (hw_599) c_576 (fun hm => by have := HL_281.out _ hm; have := HH_282.out _ hm; omega); clear c_576
    have c_608 : w_18.cell? ⟨B8, 1, none⟩ = some (.slice ec1_8 r0.2.length cc1_8) := Wrote.cell (hw_599) c_577 (fun hm => by have := HL_281.out _ hm; have := HH_282.out _ hm; omega); clear c_577
    have c_609 : w_18.cell? ⟨w_10.heap.size, 0, none⟩ = some (.slice ea0_279 a0.1.length ecap0_279) := Wrote.cell (hw_599) c_578 (fun hm => by have := HL_281.out _ hm; have := HH_282.out _ hm; omega); clear c_578
    have c_610 : w_18.cell? ⟨w_10.heap.size, 1, none⟩ = some (.slice ea1_279 a0.2.length ecap1_279) := Wrote.cell (hw_599) c_579 (fun hm => by have := HL_281.out _ hm; have := HH_282.out _ hm; omega); clear c_579
    have c_611 : w_18.cell? ⟨w_11.heap.size, 0, none⟩ = some (.slice ea0_314 a1.1.length ecap0_314) := Wrote.cell (hw_599) c_580 (fun hm => by have := HL_281.out _ hm; have := HH_282.out _ hm; omega); clear c_580
    have c_612 : w_18.cell? ⟨w_11.heap.size, 1, none⟩ = some (.slice ea1_314 a1.2.length ecap1_314) := Wrote.cell (hw_599) c_581 (fun hm => by have := HL_281.out _ hm; have := HH_282.out _ hm; omega); clear c_581
    have c_613 : w_18.cell? ⟨w_12.heap.size, 0, none⟩ = some (.slice ea0_357 r0.1.length ecap0_357) := Wrote.cell (hw_599) c_582 (fun hm => by have := HL_281.out _ hm; have := HH_282.out _ hm; omega); clear c_582
    have c_614 : w_18.cell? ⟨w_12.heap.size, 1, none⟩ = some (.slice ea1_357 r0.2.length ecap1_357) := Wrote.cell (hw_599) c_583 (fun hm => by have := HL_281.out _ hm; have := HH_282.out _ hm; omega); clear c_583
    have RD_615 := Lib.hid (kMachine_ok.rbelow RD_584.out (Wrote.below hw_599 (by first | omega | (simp; done) | (simp; omega)) (fun b hm => by have := HL_281.out b hm; omega))); clear RD_584
    have hz_616 : wc8.heap.size ≤ w_18.heap.size := Nat.le_trans hz_585 hz_600
    have OW_617 := Lib.hid (kMachine_ok.oframe OW_590.out (w' := w_18) fun b hm => (hw_599).block b (kMachine_ok.olt OW_590.out b hm) (fun hc => by have := HL_316.out b hm; have := HH_317.out b hm; have := HL_281.out b hc; have := HH_282.out b hc; omega)); clear OW_590
    have hz_618 : w_11.heap.size ≤ w_18.heap.size := Nat.le_trans hz_591 hz_600
    have OW_619 := Lib.hid (kMachine_ok.oframe OW_592.out (w' := w_18) fun b hm => (hw_599).block b (kMachine_ok.olt OW_592.out b hm) (fun hc => by have := HL_360.out b hm; have := HH_361.out b hm; have := HL_281.out b hc; have := HH_282.out b hc; omega)); clear OW_592
    have hz_620 : w_12.heap.size ≤ w_18.heap.size := Nat.le_trans hz_593 hz_600
    clear hw_599
    have hz_621 : w_10.heap.size ≤ w_18.heap.size := by omega
    have hm_622 := mark_Machine (w := w_18) q_595 OW_617.out HN_318.out (by omega) (by have := kMachine_ok.cwt a0; have := kMachine_ok.cwt a1; have := HT.out; have e0 : kMachine.s ≤ 8 := (by decide); have e1 : kMachine.s ≤ 8 := (by decide); have := HQ_597.out; omega)
    have hqq_623 : ∃ z : Nat, q_595 + kMachine.cnt a1 = z := ⟨_, rfl⟩
    obtain ⟨q_623, hq_623⟩ := hqq_623
    rw [hq_623] at hm_622
    have bq_623 : 1 ≤ q_623 := by omega
    have HM_624 := Lib.hid hm_622; clear hm_622
    have HQ_625 := Lib.hid hq_623; clear hq_623
    go_wp2_with fail
    refine HM_624.out.mono ?_
    rintro e w_19 ⟨rfl, ho, hw⟩
    have OW_626 := Lib.hid ho; clear ho
    have hw_627 := hw; clear hw
    have hz_628 : w_18.heap.size ≤ w_19.heap.size := by have := (hw_627).size; first | omega | (simp at this; omega)
    have HB_629 := Lib.hid (Below.trans HB_601.out (Wrote.below hw_627 (by first | omega | (simp; done) | (simp; omega)) (fun b hm => by have := HL_316.out b hm; omega)))
    have hz_630 : w.heap.size + 2 ≤ w_19.heap.size := Nat.le_trans hz_602 hz_628
    have c_631 : w_19.cell? ⟨w.heap.size, 0, none⟩ = some (.slice ea0_0 a0.1.length ecap0_0) := Wrote.cell (hw_627) c_603 (fun hm => by have := HL_316.out _ hm; have := HH_317.out _ hm; omega); clear c_603
    have c_632 : w_19.cell? ⟨w.heap.size, 1, none⟩ = some (.slice ea0_1 a0.2.length ecap0_1) := Wrote.cell (hw_627) c_604 (fun hm => by have := HL_316.out _ hm; have := HH_317.out _ hm; omega); clear c_604
    have c_633 : w_19.cell? ⟨w.heap.size + 1, 0, none⟩ = some (.slice ea1_0 a1.1.length ecap1_0) := Wrote.cell (hw_627) c_605 (fun hm => by have := HL_316.out _ hm; have := HH_317.out _ hm; omega); clear c_605
    have c_634 : w_19.cell? ⟨w.heap.size + 1, 1, none⟩ = some (.slice ea1_1 a1.2.length ecap1_1) := Wrote.cell (hw_627) c_606 (fun hm => by have := HL_316.out _ hm; have := HH_317.out _ hm; omega); clear c_606
    have c_635 : w_19.cell? ⟨B8, 0, none⟩ = some (.slice ec0_8 r0.1.length cc0_8) := Wrote.cell (hw_627) c_607 (fun hm => by have := HL_316.out _ hm; have := HH_317.out _ hm; omega); clear c_607
    have c_636 : w_19.cell? ⟨B8, 1, none⟩ = some (.slice ec1_8 r0.2.length cc1_8) := Wrote.cell (hw_627) c_608 (fun hm => by have := HL_316.out _ hm; have := HH_317.out _ hm; omega); clear c_608
    have c_637 : w_19.cell? ⟨w_10.heap.size, 0, none⟩ = some (.slice ea0_279 a0.1.length ecap0_279) := Wrote.cell (hw_627) c_609 (fun hm => by have := HL_316.out _ hm; have := HH_317.out _ hm; omega); clear c_609
    have c_638 : w_19.cell? ⟨w_10.heap.size, 1, none⟩ = some (.slice ea1_279 a0.2.length ecap1_279) := Wrote.cell (hw_627) c_610 (fun hm => by have := HL_316.out _ hm; have := HH_317.out _ hm; omega); clear c_610
    have c_639 : w_19.cell? ⟨w_11.heap.size, 0, none⟩ = some (.slice ea0_314 a1.1.length ecap0_314) := Wrote.cell (hw_627) c_611 (fun hm => by have := HL_316.out _ hm; have := HH_317.out _ hm; omega); clear c_611
    have c_640 : w_19.cell? ⟨w_11.heap.size, 1, none⟩ = some (.slice ea1_314 a1.2.length ecap1_314) := Wrote.cell (hw_627) c_612 (fun hm => by have := HL_316.out _ hm; have := HH_317.out _ hm; omega); clear c_612
    have c_641 : w_19.cell? ⟨w_12.heap.size, 0, none⟩ = some (.slice ea0_357 r0.1.length ecap0_357) := Wrote.cell (hw_627) c_613 (fun hm => by have := HL_316.out _ hm; have := HH_317.out _ hm; omega); clear c_613
    have c_642 : w_19.cell? ⟨w_12.heap.size, 1, none⟩ = some (.slice ea1_357 r0.2.length ecap1_357) := Wrote.cell (hw_627) c_614 (fun hm => by have := HL_316.out _ hm; have := HH_317.out _ hm; omega); clear c_614
    have RD_643 := Lib.hid (kMachine_ok.rbelow RD_615.out (Wrote.below hw_627 (by first | omega | (simp; done) | (simp; omega)) (fun b hm => by have := HL_316.out b hm; omega))); clear RD_615
    have hz_644 : wc8.heap.size ≤ w_19.heap.size := Nat.le_trans hz_616 hz_628
    have OW_645 := Lib.hid (kMachine_ok.oframe OW_598.out (w' := w_19) fun b hm => (hw_627).block b (kMachine_ok.olt OW_598.out b hm) (fun hc => by have := HL_281.out b hm; have := HH_282.out b hm; have := HL_316.out b hc; have := HH_317.out b hc; omega)); clear OW_598
    have hz_646 : w_10.heap.size ≤ w_19.heap.size := Nat.le_trans hz_621 hz_628
    have OW_647 := Lib.hid (kMachine_ok.oframe OW_619.out (w' := w_19) fun b hm => (hw_627).block b (kMachine_ok.olt OW_619.out b hm) (fun hc => by have := HL_360.out b hm; have := HH_361.out b hm; have := HL_316.out b hc; have := HH_317.out b hc; omega)); clear OW_619
    have hz_648 : w_12.heap.size ≤ w_19.heap.size := Nat.le_trans hz_620 hz_628
    clear hw_627
    have hz_649 : w_11.heap.size ≤ w_19.heap.size := by omega
    have hneg : ¬ ((q_623 : Int) < 0) := by omega
    go_wp2_with fail
    refine (eq_Machine (w := w_19) (kMachine_ok.ord OW_647.out (fun b hm => by have := HH_361.out b hm; first | omega | (simp; done) | (simp; omega))) (kMachine_ok.rmono RD_643.out (by first | omega | (simp; done) | (simp; omega)))).mono ?_
    rintro e w_20 ⟨rfl, hb⟩
    have hb_650 := hb; clear hb
    have hz_651 : w_19.heap.size ≤ w_20.heap.size := by have := (hb_650).size; first | omega | (simp at this; omega)
    have HB_652 := Lib.hid (box2_step HB_629.out hb_650)
    have hz_653 : w.heap.size + 2 ≤ w_20.heap.size := Nat.le_trans hz_630 hz_651
    have c_654 : w_20.cell? ⟨w.heap.size, 0, none⟩ = some (.slice ea0_0 a0.1.length ecap0_0) := below_later (hb_650) c_631; clear c_631
    have c_655 : w_20.cell? ⟨w.heap.size, 1, none⟩ = some (.slice ea0_1 a0.2.length ecap0_1) := below_later (hb_650) c_632; clear c_632
    have c_656 : w_20.cell? ⟨w.heap.size + 1, 0, none⟩ = some (.slice ea1_0 a1.1.length ecap1_0) := below_later (hb_650) c_633; clear c_633
    have c_657 : w_20.cell? ⟨w.heap.size + 1, 1, none⟩ = some (.slice ea1_1 a1.2.length ecap1_1) := below_later (hb_650) c_634; clear c_634
    have c_658 : w_20.cell? ⟨B8, 0, none⟩ = some (.slice ec0_8 r0.1.length cc0_8) := below_later (hb_650) c_635; clear c_635
    have c_659 : w_20.cell? ⟨B8, 1, none⟩ = some (.slice ec1_8 r0.2.length cc1_8) := below_later (hb_650) c_636; clear c_636
    have c_660 : w_20.cell? ⟨w_10.heap.size, 0, none⟩ = some (.slice ea0_279 a0.1.length ecap0_279) := below_later (hb_650) c_637; clear c_637
    have c_661 : w_20.cell? ⟨w_10.heap.size, 1, none⟩ = some (.slice ea1_279 a0.2.length ecap1_279) := below_later (hb_650) c_638; clear c_638
    have c_662 : w_20.cell? ⟨w_11.heap.size, 0, none⟩ = some (.slice ea0_314 a1.1.length ecap0_314) := below_later (hb_650) c_639; clear c_639
    have c_663 : w_20.cell? ⟨w_11.heap.size, 1, none⟩ = some (.slice ea1_314 a1.2.length ecap1_314) := below_later (hb_650) c_640; clear c_640
    have c_664 : w_20.cell? ⟨w_12.heap.size, 0, none⟩ = some (.slice ea0_357 r0.1.length ecap0_357) := below_later (hb_650) c_641; clear c_641
    have c_665 : w_20.cell? ⟨w_12.heap.size, 1, none⟩ = some (.slice ea1_357 r0.2.length ecap1_357) := below_later (hb_650) c_642; clear c_642
    have RD_666 := Lib.hid (kMachine_ok.rbelow RD_643.out (Below.mono (hb_650) (by first | omega | (simp; done) | (simp; omega)))); clear RD_643
    have hz_667 : wc8.heap.size ≤ w_20.heap.size := Nat.le_trans hz_644 hz_651
    have OW_668 := Lib.hid (kMachine_ok.oframe OW_645.out (w' := w_20) fun b hm => (hb_650).block b (kMachine_ok.olt OW_645.out b hm)); clear OW_645
    have hz_669 : w_10.heap.size ≤ w_20.heap.size := Nat.le_trans hz_646 hz_651
    have OW_670 := Lib.hid (kMachine_ok.oframe OW_626.out (w' := w_20) fun b hm => (hb_650).block b (kMachine_ok.olt OW_626.out b hm)); clear OW_626
    have hz_671 : w_11.heap.size ≤ w_20.heap.size := Nat.le_trans hz_649 hz_651
    have OW_672 := Lib.hid (kMachine_ok.oframe OW_647.out (w' := w_20) fun b hm => (hb_650).block b (kMachine_ok.olt OW_647.out b hm)); clear OW_647
    have hz_673 : w_12.heap.size ≤ w_20.heap.size := Nat.le_trans hz_648 hz_651
    clear hb_650
    have hm_674 := mark_Machine (w := w_20) 1 OW_672.out HN_362.out (by omega) (by have := HCN.out; omega)
    rw [show ((1 : Nat) : Int) = 1 from rfl] at hm_674
    have hqq_675 : ∃ z : Nat, 1 + kMachine.cnt r0 = z := ⟨_, rfl⟩
    obtain ⟨q_675, hq_675⟩ := hqq_675
    rw [hq_675] at hm_674
    have HM_676 := Lib.hid hm_674; clear hm_674
    have HQ_677 := Lib.hid hq_675; clear hq_675
    go_wp2_with fail
    refine HM_676.out.mono ?_
    rintro e w_21 ⟨rfl, ho, hw⟩
    have OW_678 := Lib.hid ho; clear ho
    have hw_679 := hw; clear hw
    have hz_680 : w_20.heap.size ≤ w_21.heap.size := by have := (hw_679).size; first | omega | (simp at this; omega)
    have HB_681 := Lib.hid (Below.trans HB_652.out (Wrote.below hw_679 (by first | omega | (simp; done) | (simp; omega)) (fun b hm => by have := HL_360.out b hm; omega)))
    have hz_682 : w.heap.size + 2 ≤ w_21.heap.size := Nat.le_trans hz_653 hz_680
    have c_683 : w_21.cell? ⟨w.heap.size, 0, none⟩ = some (.slice ea0_0 a0.1.length ecap0_0) := Wrote.cell (hw_679) c_654 (fun hm => by have := HL_360.out _ hm; have := HH_361.out _ hm; omega); clear c_654
    have c_684 : w_21.cell? ⟨w.heap.size, 1, none⟩ = some (.slice ea0_1 a0.2.length ecap0_1) := Wrote.cell (hw_679) c_655 (fun hm => by have := HL_360.out _ hm; have := HH_361.out _ hm; omega); clear c_655
    have c_685 : w_21.cell? ⟨w.heap.size + 1, 0, none⟩ = some (.slice ea1_0 a1.1.length ecap1_0) := Wrote.cell (hw_679) c_656 (fun hm => by have := HL_360.out _ hm; have := HH_361.out _ hm; omega); clear c_656
    have c_686 : w_21.cell? ⟨w.heap.size + 1, 1, none⟩ = some (.slice ea1_1 a1.2.length ecap1_1) := Wrote.cell (hw_679) c_657 (fun hm => by have := HL_360.out _ hm; have := HH_361.out _ hm; omega); clear c_657
    have c_687 : w_21.cell? ⟨B8, 0, none⟩ = some (.slice ec0_8 r0.1.length cc0_8) := Wrote.cell (hw_679) c_658 (fun hm => by have := HL_360.out _ hm; have := HH_361.out _ hm; omega); clear c_658
    have c_688 : w_21.cell? ⟨B8, 1, none⟩ = some (.slice ec1_8 r0.2.length cc1_8) := Wrote.cell (hw_679) c_659 (fun hm => by have := HL_360.out _ hm; have := HH_361.out _ hm; omega); clear c_659
    have c_689 : w_21.cell? ⟨w_10.heap.size, 0, none⟩ = some (.slice ea0_279 a0.1.length ecap0_279) := Wrote.cell (hw_679) c_660 (fun hm => by have := HL_360.out _ hm; have := HH_361.out _ hm; omega); clear c_660
    have c_690 : w_21.cell? ⟨w_10.heap.size, 1, none⟩ = some (.slice ea1_279 a0.2.length ecap1_279) := Wrote.cell (hw_679) c_661 (fun hm => by have := HL_360.out _ hm; have := HH_361.out _ hm; omega); clear c_661
    have c_691 : w_21.cell? ⟨w_11.heap.size, 0, none⟩ = some (.slice ea0_314 a1.1.length ecap0_314) := Wrote.cell (hw_679) c_662 (fun hm => by have := HL_360.out _ hm; have := HH_361.out _ hm; omega); clear c_662
    have c_692 : w_21.cell? ⟨w_11.heap.size, 1, none⟩ = some (.slice ea1_314 a1.2.length ecap1_314) := Wrote.cell (hw_679) c_663 (fun hm => by have := HL_360.out _ hm; have := HH_361.out _ hm; omega); clear c_663
    have c_693 : w_21.cell? ⟨w_12.heap.size, 0, none⟩ = some (.slice ea0_357 r0.1.length ecap0_357) := Wrote.cell (hw_679) c_664 (fun hm => by have := HL_360.out _ hm; have := HH_361.out _ hm; omega); clear c_664
    have c_694 : w_21.cell? ⟨w_12.heap.size, 1, none⟩ = some (.slice ea1_357 r0.2.length ecap1_357) := Wrote.cell (hw_679) c_665 (fun hm => by have := HL_360.out _ hm; have := HH_361.out _ hm; omega); clear c_665
    have RD_695 := Lib.hid (kMachine_ok.rbelow RD_666.out (Wrote.below hw_679 (by first | omega | (simp; done) | (simp; omega)) (fun b hm => by have := HL_360.out b hm; omega))); clear RD_666
    have hz_696 : wc8.heap.size ≤ w_21.heap.size := Nat.le_trans hz_667 hz_680
    have OW_697 := Lib.hid (kMachine_ok.oframe OW_668.out (w' := w_21) fun b hm => (hw_679).block b (kMachine_ok.olt OW_668.out b hm) (fun hc => by have := HL_281.out b hm; have := HH_282.out b hm; have := HL_360.out b hc; have := HH_361.out b hc; omega)); clear OW_668
    have hz_698 : w_10.heap.size ≤ w_21.heap.size := Nat.le_trans hz_669 hz_680
    have OW_699 := Lib.hid (kMachine_ok.oframe OW_670.out (w' := w_21) fun b hm => (hw_679).block b (kMachine_ok.olt OW_670.out b hm) (fun hc => by have := HL_316.out b hm; have := HH_317.out b hm; have := HL_360.out b hc; have := HH_361.out b hc; omega)); clear OW_670
    have hz_700 : w_11.heap.size ≤ w_21.heap.size := Nat.le_trans hz_671 hz_680
    clear hw_679
    have hz_701 : w_12.heap.size ≤ w_21.heap.size := by omega
    have hm_702 := held_Machine (w := w_21) (x := r0) 1 (kMachine_ok.ord OW_678.out (fun b hm => by have := HH_361.out b hm; first | omega | (simp; done) | (simp; omega))) (by omega) (by have := HCN.out; omega)
    rw [show ((1 : Nat) : Int) = 1 from rfl, HQ_677.out] at hm_702
    have HM_703 := Lib.hid hm_702; clear hm_702
    go_wp2_with fail
    refine HM_703.out.mono ?_
    rintro e w_22 ⟨rfl, hb⟩
    have hb_704 := hb; clear hb
    have hz_705 : w_21.heap.size ≤ w_22.heap.size := by have := (hb_704).size; first | omega | (simp at this; omega)
    have HB_706 := Lib.hid (box2_step HB_681.out hb_704)
    have hz_707 : w.heap.size + 2 ≤ w_22.heap.size := Nat.le_trans hz_682 hz_705
    have c_708 : w_22.cell? ⟨w.heap.size, 0, none⟩ = some (.slice ea0_0 a0.1.length ecap0_0) := below_later (hb_704) c_683; clear c_683
    have c_709 : w_22.cell? ⟨w.heap.size, 1, none⟩ = some (.slice ea0_1 a0.2.length ecap0_1) := below_later (hb_704) c_684; clear c_684
    have c_710 : w_22.cell? ⟨w.heap.size + 1, 0, none⟩ = some (.slice ea1_0 a1.1.length ecap1_0) := below_later (hb_704) c_685; clear c_685
    have c_711 : w_22.cell? ⟨w.heap.size + 1, 1, none⟩ = some (.slice ea1_1 a1.2.length ecap1_1) := below_later (hb_704) c_686; clear c_686
    have c_712 : w_22.cell? ⟨B8, 0, none⟩ = some (.slice ec0_8 r0.1.length cc0_8) := below_later (hb_704) c_687; clear c_687
    have c_713 : w_22.cell? ⟨B8, 1, none⟩ = some (.slice ec1_8 r0.2.length cc1_8) := below_later (hb_704) c_688; clear c_688
    have c_714 : w_22.cell? ⟨w_10.heap.size, 0, none⟩ = some (.slice ea0_279 a0.1.length ecap0_279) := below_later (hb_704) c_689; clear c_689
    have c_715 : w_22.cell? ⟨w_10.heap.size, 1, none⟩ = some (.slice ea1_279 a0.2.length ecap1_279) := below_later (hb_704) c_690; clear c_690
    have c_716 : w_22.cell? ⟨w_11.heap.size, 0, none⟩ = some (.slice ea0_314 a1.1.length ecap0_314) := below_later (hb_704) c_691; clear c_691
    have c_717 : w_22.cell? ⟨w_11.heap.size, 1, none⟩ = some (.slice ea1_314 a1.2.length ecap1_314) := below_later (hb_704) c_692; clear c_692
    have c_718 : w_22.cell? ⟨w_12.heap.size, 0, none⟩ = some (.slice ea0_357 r0.1.length ecap0_357) := below_later (hb_704) c_693; clear c_693
    have c_719 : w_22.cell? ⟨w_12.heap.size, 1, none⟩ = some (.slice ea1_357 r0.2.length ecap1_357) := below_later (hb_704) c_694; clear c_694
    have RD_720 := Lib.hid (kMachine_ok.rbelow RD_695.out (Below.mono (hb_704) (by first | omega | (simp; done) | (simp; omega)))); clear RD_695
    have hz_721 : wc8.heap.size ≤ w_22.heap.size := Nat.le_trans hz_696 hz_705
    have OW_722 := Lib.hid (kMachine_ok.oframe OW_697.out (w' := w_22) fun b hm => (hb_704).block b (kMachine_ok.olt OW_697.out b hm)); clear OW_697
    have hz_723 : w_10.heap.size ≤ w_22.heap.size := Nat.le_trans hz_698 hz_705
    have OW_724 := Lib.hid (kMachine_ok.oframe OW_699.out (w' := w_22) fun b hm => (hb_704).block b (kMachine_ok.olt OW_699.out b hm)); clear OW_699
    have hz_725 : w_11.heap.size ≤ w_22.heap.size := Nat.le_trans hz_700 hz_705
    have OW_726 := Lib.hid (kMachine_ok.oframe OW_678.out (w' := w_22) fun b hm => (hb_704).block b (kMachine_ok.olt OW_678.out b hm)); clear OW_678
    have hz_727 : w_12.heap.size ≤ w_22.heap.size := Nat.le_trans hz_701 hz_705
    clear hb_704
    have hneg_728 : ¬ ((q_675 : Int) < 0) := by omega
    go_wp2_with fail
    go_cut [15, 16] (fun s15 s16 wx => ∃ (B : Nat) (ec0 : Option Addr) (cc0 : Nat) (ec1 : Option Addr) (cc1 : Nat), s15 = .pointer (some ⟨B, 0, none⟩) ∧ s16 = .bool r1 ∧ Hid (wx.cell? ⟨B, 0, none⟩ = some (.slice ec0 r0.1.length cc0) ∧ wx.cell? ⟨B, 1, none⟩ = some (.slice ec1 r0.2.length cc1) ∧ kMachine.rd wx.heap.size wx [.slice ec0 r0.1.length cc0, .slice ec1 r0.2.length cc1] r0 ∧ Below w_22.heap.size w_22 wx ∧ w_22.heap.size ≤ B ∧ B < wx.heap.size))
    case first =>
      have HBASE := Lib.hid (Below.refl w_22.heap.size w_22)
      have hb_729 : Below w_22.heap.size w_22 w_22.drew := (Below.refl _ _).drew
      have hz_730 : w_22.heap.size ≤ w_22.heap.size := by have := (hb_729).size; first | omega | (simp at this; omega)
      have HB_731 := Lib.hid (box2_step HB_706.out hb_729)
      have hz_732 : w.heap.size + 2 ≤ w_22.heap.size := Nat.le_trans hz_707 hz_730
      have c_733 : w_22.drew.cell? ⟨w.heap.size, 0, none⟩ = some (.slice ea0_0 a0.1.length ecap0_0) := below_later (hb_729) c_708; clear c_708
      have c_734 : w_22.drew.cell? ⟨w.heap.size, 1, none⟩ = some (.slice ea0_1 a0.2.length ecap0_1) := below_later (hb_729) c_709; clear c_709
      have c_735 : w_22.drew.cell? ⟨w.heap.size + 1, 0, none⟩ = some (.slice ea1_0 a1.1.length ecap1_0) := below_later (hb_729) c_710; clear c_710
      have c_736 : w_22.drew.cell? ⟨w.heap.size + 1, 1, none⟩ = some (.slice ea1_1 a1.2.length ecap1_1) := below_later (hb_729) c_711; clear c_711
      have c_737 : w_22.drew.cell? ⟨B8, 0, none⟩ = some (.slice ec0_8 r0.1.length cc0_8) := below_later (hb_729) c_712; clear c_712
      have c_738 : w_22.drew.cell? ⟨B8, 1, none⟩ = some (.slice ec1_8 r0.2.length cc1_8) := below_later (hb_729) c_713; clear c_713
      have c_739 : w_22.drew.cell? ⟨w_10.heap.size, 0, none⟩ = some (.slice ea0_279 a0.1.length ecap0_279) := below_later (hb_729) c_714; clear c_714
      have c_740 : w_22.drew.cell? ⟨w_10.heap.size, 1, none⟩ = some (.slice ea1_279 a0.2.length ecap1_279) := below_later (hb_729) c_715; clear c_715
      have c_741 : w_22.drew.cell? ⟨w_11.heap.size, 0, none⟩ = some (.slice ea0_314 a1.1.length ecap0_314) := below_later (hb_729) c_716; clear c_716
      have c_742 : w_22.drew.cell? ⟨w_11.heap.size, 1, none⟩ = some (.slice ea1_314 a1.2.length ecap1_314) := below_later (hb_729) c_717; clear c_717
      have c_743 : w_22.drew.cell? ⟨w_12.heap.size, 0, none⟩ = some (.slice ea0_357 r0.1.length ecap0_357) := below_later (hb_729) c_718; clear c_718
      have c_744 : w_22.drew.cell? ⟨w_12.heap.size, 1, none⟩ = some (.slice ea1_357 r0.2.length ecap1_357) := below_later (hb_729) c_719; clear c_719
      have RD_745 := Lib.hid (kMachine_ok.rbelow RD_720.out (Below.mono (hb_729) (by first | omega | (simp; done) | (simp; omega)))); clear RD_720
      have hz_746 : wc8.heap.size ≤ w_22.heap.size := Nat.le_trans hz_721 hz_730
      have OW_747 := Lib.hid (kMachine_ok.oframe OW_722.out (w' := w_22.drew) fun b hm => (hb_729).block b (kMachine_ok.olt OW_722.out b hm)); clear OW_722
      have hz_748 : w_10.heap.size ≤ w_22.heap.size := Nat.le_trans hz_723 hz_730
      have OW_749 := Lib.hid (kMachine_ok.oframe OW_724.out (w' := w_22.drew) fun b hm => (hb_729).block b (kMachine_ok.olt OW_724.out b hm)); clear OW_724
      have hz_750 : w_11.heap.size ≤ w_22.heap.size := Nat.le_trans hz_725 hz_730
      have OW_751 := Lib.hid (kMachine_ok.oframe OW_726.out (w' := w_22.drew) fun b hm => (hb_729).block b (kMachine_ok.olt OW_726.out b hm)); clear OW_726
      have hz_752 : w_12.heap.size ≤ w_22.heap.size := Nat.le_trans hz_727 hz_730
      have HBASE_753 := Lib.hid (rstep HBASE.out hb_729); clear hb_729
      refine wp_region_G [3] (fun w' => w'.cell? ⟨w.heap.size, 0, none⟩ = some (.slice ea0_0 a0.1.length ecap0_0) ∧ w'.cell? ⟨w.heap.size, 1, none⟩ = some (.slice ea0_1 a0.2.length ecap0_1) ∧ w'.cell? ⟨w.heap.size + 1, 0, none⟩ = some (.slice ea1_0 a1.1.length ecap1_0) ∧ w'.cell? ⟨w.heap.size + 1, 1, none⟩ = some (.slice ea1_1 a1.2.length ecap1_1)) (by kernel_rfl) ?_ (fun hHeld => ?_)
      · exact ⟨c_733, c_734, c_735, c_736⟩
      refine wpG_load (i := 0) (oi := { dst := some 95, op := Go.Op.load 25 (Go.Operand.tmp 2), type := 25, pos := "exact.go:3683", after := #[], guard := none }) (v := ?vg1204001) [[3, 1, 0]] rfl (by kernel_rfl) (fun _ _ _ h => h) hHeld (Or.inl ⟨by rfl, ?yg1204001⟩) ?_
      case yg1204001 => (intro wS hSw; (try dsimp only at hSw); go_simp <;> with_reducible rfl)
      try simp only [Act.put, List.setIfInBounds_toArray, List.set_cons_zero, List.set_cons_succ]
      refine wpG_load (i := 2) (oi := { dst := some 97, op := Go.Op.load 25 (Go.Operand.tmp 3), type := 25, pos := "exact.go:3683", after := #[], guard := none }) (v := ?vg1204002) [[3, 2]] rfl (by kernel_rfl) (fun _ _ _ h => h) hHeld (Or.inl ⟨by rfl, ?yg1204002⟩) ?_
      case yg1204002 => (intro wS hSw; (try dsimp only at hSw); go_simp <;> with_reducible rfl)
      try simp only [Act.put, List.setIfInBounds_toArray, List.set_cons_zero, List.set_cons_succ]
      refine wpG_two (i := 1) (j := 8) (o := { dst := some 96, op := Go.Op.call { callee := Go.Callee.value (Go.Operand.func 13), args := #[Go.Operand.tmp 95], argTypes := #[25] }, type := 28, pos := "exact.go:3683", after := #[{ on := 0, ground := Go.Ground.data }], guard := none }) (o' := { dst := some 15, op := Go.Op.alloc 28, type := 0, pos := "exact.go:3683", after := #[], guard := none }) rfl rfl (by kernel_rfl) (fun K hK => ?_) (fun K hK => ?_)
      · skip
        go_simp
        refine (HTO0.out _ (box2_below HB_731.out)).mono ?_
        rintro e w_23 ⟨cs_754, fp_754, he, ho, hnd, hge, hb⟩
        have hrd := kMachine_ok.ord ho (B := w_23.heap.size) (kMachine_ok.olt ho)
        obtain ⟨ea0_754, ecap0_754, ea1_754, ecap1_754, rfl, _, _⟩ := Machine_rd hrd
        change e = .returned (.agg #[.slice ea0_754 a0.1.length ecap0_754, .slice ea1_754 a0.2.length ecap1_754]) at he
        subst he
        have hrd2 := kMachine_ok.ord ho (B := w_23.heap.size) (kMachine_ok.olt ho)
        have OW_755 := Lib.hid ho; have HN_758 := Lib.hid hnd
        have HL_756 : Hid (∀ b ∈ fp_754, w_22.heap.size ≤ b) := Lib.hid fun b hm => by have := hge b hm; first | omega | (simp at this; omega)
        have HH_757 : Hid (∀ b ∈ fp_754, b < w_23.heap.size) := Lib.hid (kMachine_ok.olt ho)
        have RD_759 := Lib.hid hrd2; clear ho hnd hge hrd2 hrd
        have hb_760 := hb; clear hb
        have hz_761 : w_22.heap.size ≤ w_23.heap.size := by have := (hb_760).size; first | omega | (simp at this; omega)
        have HB_762 := Lib.hid (box2_step HB_731.out hb_760)
        have hz_763 : w.heap.size + 2 ≤ w_23.heap.size := Nat.le_trans hz_732 hz_761
        have c_764 : w_23.cell? ⟨w.heap.size, 0, none⟩ = some (.slice ea0_0 a0.1.length ecap0_0) := below_later (hb_760) c_733; clear c_733
        have c_765 : w_23.cell? ⟨w.heap.size, 1, none⟩ = some (.slice ea0_1 a0.2.length ecap0_1) := below_later (hb_760) c_734; clear c_734
        have c_766 : w_23.cell? ⟨w.heap.size + 1, 0, none⟩ = some (.slice ea1_0 a1.1.length ecap1_0) := below_later (hb_760) c_735; clear c_735
        have c_767 : w_23.cell? ⟨w.heap.size + 1, 1, none⟩ = some (.slice ea1_1 a1.2.length ecap1_1) := below_later (hb_760) c_736; clear c_736
        have c_768 : w_23.cell? ⟨B8, 0, none⟩ = some (.slice ec0_8 r0.1.length cc0_8) := below_later (hb_760) c_737; clear c_737
        have c_769 : w_23.cell? ⟨B8, 1, none⟩ = some (.slice ec1_8 r0.2.length cc1_8) := below_later (hb_760) c_738; clear c_738
        have c_770 : w_23.cell? ⟨w_10.heap.size, 0, none⟩ = some (.slice ea0_279 a0.1.length ecap0_279) := below_later (hb_760) c_739; clear c_739
        have c_771 : w_23.cell? ⟨w_10.heap.size, 1, none⟩ = some (.slice ea1_279 a0.2.length ecap1_279) := below_later (hb_760) c_740; clear c_740
        have c_772 : w_23.cell? ⟨w_11.heap.size, 0, none⟩ = some (.slice ea0_314 a1.1.length ecap0_314) := below_later (hb_760) c_741; clear c_741
        have c_773 : w_23.cell? ⟨w_11.heap.size, 1, none⟩ = some (.slice ea1_314 a1.2.length ecap1_314) := below_later (hb_760) c_742; clear c_742
        have c_774 : w_23.cell? ⟨w_12.heap.size, 0, none⟩ = some (.slice ea0_357 r0.1.length ecap0_357) := below_later (hb_760) c_743; clear c_743
        have c_775 : w_23.cell? ⟨w_12.heap.size, 1, none⟩ = some (.slice ea1_357 r0.2.length ecap1_357) := below_later (hb_760) c_744; clear c_744
        have RD_776 := Lib.hid (kMachine_ok.rbelow RD_745.out (Below.mono (hb_760) (by first | omega | (simp; done) | (simp; omega)))); clear RD_745
        have hz_777 : wc8.heap.size ≤ w_23.heap.size := Nat.le_trans hz_746 hz_761
        have OW_778 := Lib.hid (kMachine_ok.oframe OW_747.out (w' := w_23) fun b hm => (hb_760).block b (kMachine_ok.olt OW_747.out b hm)); clear OW_747
        have hz_779 : w_10.heap.size ≤ w_23.heap.size := Nat.le_trans hz_748 hz_761
        have OW_780 := Lib.hid (kMachine_ok.oframe OW_749.out (w' := w_23) fun b hm => (hb_760).block b (kMachine_ok.olt OW_749.out b hm)); clear OW_749
        have hz_781 : w_11.heap.size ≤ w_23.heap.size := Nat.le_trans hz_750 hz_761
        have OW_782 := Lib.hid (kMachine_ok.oframe OW_751.out (w' := w_23) fun b hm => (hb_760).block b (kMachine_ok.olt OW_751.out b hm)); clear OW_751
        have hz_783 : w_12.heap.size ≤ w_23.heap.size := Nat.le_trans hz_752 hz_761
        have HBLAST := Lib.hid hb_760
        have HQ := Lib.hid hb_760; clear hb_760 HQ
        have hz_784 : w_23.heap.size ≤ w_23.heap.size := Nat.le_refl _
        have HBASE_785 := Lib.hid (rstep HBASE_753.out HBLAST.out); clear HBLAST
        refine hK.out _ _ (Or.inr ?khHeld1204003) (fun hHeld1204003S => ?_)
        case khHeld1204003 => exact ⟨c_764, c_765, c_766, c_767⟩
        have hHeld1204003 := hHeld1204003S.held (by kernel_rfl)
        clear hK K
        try simp only [Act.put, List.setIfInBounds_toArray, List.set_cons_zero, List.set_cons_succ]
        refine wpG_two (i := 3) (j := 8) (o := { dst := some 98, op := Go.Op.call { callee := Go.Callee.value (Go.Operand.func 13), args := #[Go.Operand.tmp 97], argTypes := #[25] }, type := 28, pos := "exact.go:3683", after := #[{ on := 2, ground := Go.Ground.data }, { on := 1, ground := Go.Ground.chain }], guard := none }) (o' := { dst := some 15, op := Go.Op.alloc 28, type := 0, pos := "exact.go:3683", after := #[], guard := none }) rfl rfl (by kernel_rfl) (fun K hK => ?_) (fun K hK => ?_)
        · skip
          go_simp
          refine (HTO1.out _ (box2_below HB_762.out)).mono ?_
          rintro e w_24 ⟨cs_786, fp_786, he, ho, hnd, hge, hb⟩
          have hrd := kMachine_ok.ord ho (B := w_24.heap.size) (kMachine_ok.olt ho)
          obtain ⟨ea0_786, ecap0_786, ea1_786, ecap1_786, rfl, _, _⟩ := Machine_rd hrd
          change e = .returned (.agg #[.slice ea0_786 a1.1.length ecap0_786, .slice ea1_786 a1.2.length ecap1_786]) at he
          subst he
          have hrd2 := kMachine_ok.ord ho (B := w_24.heap.size) (kMachine_ok.olt ho)
          have OW_787 := Lib.hid ho; have HN_790 := Lib.hid hnd
          have HL_788 : Hid (∀ b ∈ fp_786, w_23.heap.size ≤ b) := Lib.hid fun b hm => by have := hge b hm; first | omega | (simp at this; omega)
          have HH_789 : Hid (∀ b ∈ fp_786, b < w_24.heap.size) := Lib.hid (kMachine_ok.olt ho)
          have RD_791 := Lib.hid hrd2; clear ho hnd hge hrd2 hrd
          have hb_792 := hb; clear hb
          have hz_793 : w_23.heap.size ≤ w_24.heap.size := by have := (hb_792).size; first | omega | (simp at this; omega)
          have HB_794 := Lib.hid (box2_step HB_762.out hb_792)
          have hz_795 : w.heap.size + 2 ≤ w_24.heap.size := Nat.le_trans hz_763 hz_793
          have c_796 : w_24.cell? ⟨w.heap.size, 0, none⟩ = some (.slice ea0_0 a0.1.length ecap0_0) := below_later (hb_792) c_764; clear c_764
          have c_797 : w_24.cell? ⟨w.heap.size, 1, none⟩ = some (.slice ea0_1 a0.2.length ecap0_1) := below_later (hb_792) c_765; clear c_765
          have c_798 : w_24.cell? ⟨w.heap.size + 1, 0, none⟩ = some (.slice ea1_0 a1.1.length ecap1_0) := below_later (hb_792) c_766; clear c_766
          have c_799 : w_24.cell? ⟨w.heap.size + 1, 1, none⟩ = some (.slice ea1_1 a1.2.length ecap1_1) := below_later (hb_792) c_767; clear c_767
          have c_800 : w_24.cell? ⟨B8, 0, none⟩ = some (.slice ec0_8 r0.1.length cc0_8) := below_later (hb_792) c_768; clear c_768
          have c_801 : w_24.cell? ⟨B8, 1, none⟩ = some (.slice ec1_8 r0.2.length cc1_8) := below_later (hb_792) c_769; clear c_769
          have c_802 : w_24.cell? ⟨w_10.heap.size, 0, none⟩ = some (.slice ea0_279 a0.1.length ecap0_279) := below_later (hb_792) c_770; clear c_770
          have c_803 : w_24.cell? ⟨w_10.heap.size, 1, none⟩ = some (.slice ea1_279 a0.2.length ecap1_279) := below_later (hb_792) c_771; clear c_771
          have c_804 : w_24.cell? ⟨w_11.heap.size, 0, none⟩ = some (.slice ea0_314 a1.1.length ecap0_314) := below_later (hb_792) c_772; clear c_772
          have c_805 : w_24.cell? ⟨w_11.heap.size, 1, none⟩ = some (.slice ea1_314 a1.2.length ecap1_314) := below_later (hb_792) c_773; clear c_773
          have c_806 : w_24.cell? ⟨w_12.heap.size, 0, none⟩ = some (.slice ea0_357 r0.1.length ecap0_357) := below_later (hb_792) c_774; clear c_774
          have c_807 : w_24.cell? ⟨w_12.heap.size, 1, none⟩ = some (.slice ea1_357 r0.2.length ecap1_357) := below_later (hb_792) c_775; clear c_775
          have RD_808 := Lib.hid (kMachine_ok.rbelow RD_776.out (Below.mono (hb_792) (by first | omega | (simp; done) | (simp; omega)))); clear RD_776
          have hz_809 : wc8.heap.size ≤ w_24.heap.size := Nat.le_trans hz_777 hz_793
          have RD_810 := Lib.hid (kMachine_ok.rbelow RD_759.out (Below.mono (hb_792) (by first | omega | (simp; done) | (simp; omega)))); clear RD_759
          have hz_811 : w_23.heap.size ≤ w_24.heap.size := Nat.le_trans hz_784 hz_793
          have OW_812 := Lib.hid (kMachine_ok.oframe OW_778.out (w' := w_24) fun b hm => (hb_792).block b (kMachine_ok.olt OW_778.out b hm)); clear OW_778
          have hz_813 : w_10.heap.size ≤ w_24.heap.size := Nat.le_trans hz_779 hz_793
          have OW_814 := Lib.hid (kMachine_ok.oframe OW_780.out (w' := w_24) fun b hm => (hb_792).block b (kMachine_ok.olt OW_780.out b hm)); clear OW_780
          have hz_815 : w_11.heap.size ≤ w_24.heap.size := Nat.le_trans hz_781 hz_793
          have OW_816 := Lib.hid (kMachine_ok.oframe OW_782.out (w' := w_24) fun b hm => (hb_792).block b (kMachine_ok.olt OW_782.out b hm)); clear OW_782
          have hz_817 : w_12.heap.size ≤ w_24.heap.size := Nat.le_trans hz_783 hz_793
          have HBLAST := Lib.hid hb_792
          have HQ := Lib.hid hb_792; clear hb_792 HQ
          have hz_818 : w_24.heap.size ≤ w_24.heap.size := Nat.le_refl _
          have HBASE_819 := Lib.hid (rstep HBASE_785.out HBLAST.out); clear HBLAST
          refine hK.out _ _ (Or.inl (by kernel_rfl)) (fun _ => ?_)
          clear hK K
          try simp only [Act.put, List.setIfInBounds_toArray, List.set_cons_zero, List.set_cons_succ]
          refine wpG_two (i := 4) (j := 8) (o := { dst := some 99, op := Go.Op.call { callee := Go.Callee.value (Go.Operand.func 23), args := #[Go.Operand.tmp 96, Go.Operand.tmp 98], argTypes := #[28, 28] }, type := 35, pos := "exact.go:3683", after := #[{ on := 1, ground := Go.Ground.data }, { on := 3, ground := Go.Ground.data }, { on := 3, ground := Go.Ground.chain }], guard := none }) (o' := { dst := some 15, op := Go.Op.alloc 28, type := 0, pos := "exact.go:3683", after := #[], guard := none }) rfl rfl (by kernel_rfl) (fun K hK => ?_) (fun K hK => ?_)
          · skip
            go_simp
            refine (HI.out _ [.slice ea0_754 a0.1.length ecap0_754, .slice ea1_754 a0.2.length ecap1_754] [.slice ea0_786 a1.1.length ecap0_786, .slice ea1_786 a1.2.length ecap1_786] (kMachine_ok.rmono RD_810.out (by first | omega | (simp; done) | (simp; omega))) (kMachine_ok.rmono RD_791.out (by first | omega | (simp; done) | (simp; omega)))).mono ?_
            rintro e w_25 ⟨cs_820, fp_820, he, ho, hnd, hge, hb⟩
            have hrd := kMachine_ok.ord ho (B := w_25.heap.size) (kMachine_ok.olt ho)
            obtain ⟨ea0_820, ecap0_820, ea1_820, ecap1_820, rfl⟩ : ∃ ea0_820 ecap0_820 ea1_820 ecap1_820, cs_820 = [.slice ea0_820 r0.1.length ecap0_820, .slice ea1_820 r0.2.length ecap1_820] := by
              obtain ⟨ea0_820, ecap0_820, ea1_820, ecap1_820, h, _⟩ := Machine_rd hrd
              exact ⟨ea0_820, ecap0_820, ea1_820, ecap1_820, h⟩
            change e = .returned (.tuple #[(.agg #[.slice ea0_820 r0.1.length ecap0_820, .slice ea1_820 r0.2.length ecap1_820]), (.bool r1)]) at he
            subst he
            have RD_821 := Lib.hid hrd; clear hrd
            have OW_822 := Lib.hid ho; have HN_825 := Lib.hid hnd
            have HL_823 : Hid (∀ b ∈ fp_820, w_24.heap.size ≤ b) := Lib.hid fun b hm => by have := hge b hm; first | omega | (simp at this; omega)
            have HH_824 : Hid (∀ b ∈ fp_820, b < w_25.heap.size) := Lib.hid (kMachine_ok.olt ho)
            clear ho hnd hge
            have hb_826 := hb; clear hb
            have hz_827 : w_24.heap.size ≤ w_25.heap.size := by have := (hb_826).size; first | omega | (simp at this; omega)
            have HB_828 := Lib.hid (box2_step HB_794.out hb_826)
            have hz_829 : w.heap.size + 2 ≤ w_25.heap.size := Nat.le_trans hz_795 hz_827
            have c_830 : w_25.cell? ⟨w.heap.size, 0, none⟩ = some (.slice ea0_0 a0.1.length ecap0_0) := below_later (hb_826) c_796; clear c_796
            have c_831 : w_25.cell? ⟨w.heap.size, 1, none⟩ = some (.slice ea0_1 a0.2.length ecap0_1) := below_later (hb_826) c_797; clear c_797
            have c_832 : w_25.cell? ⟨w.heap.size + 1, 0, none⟩ = some (.slice ea1_0 a1.1.length ecap1_0) := below_later (hb_826) c_798; clear c_798
            have c_833 : w_25.cell? ⟨w.heap.size + 1, 1, none⟩ = some (.slice ea1_1 a1.2.length ecap1_1) := below_later (hb_826) c_799; clear c_799
            have c_834 : w_25.cell? ⟨B8, 0, none⟩ = some (.slice ec0_8 r0.1.length cc0_8) := below_later (hb_826) c_800; clear c_800
            have c_835 : w_25.cell? ⟨B8, 1, none⟩ = some (.slice ec1_8 r0.2.length cc1_8) := below_later (hb_826) c_801; clear c_801
            have c_836 : w_25.cell? ⟨w_10.heap.size, 0, none⟩ = some (.slice ea0_279 a0.1.length ecap0_279) := below_later (hb_826) c_802; clear c_802
            have c_837 : w_25.cell? ⟨w_10.heap.size, 1, none⟩ = some (.slice ea1_279 a0.2.length ecap1_279) := below_later (hb_826) c_803; clear c_803
            have c_838 : w_25.cell? ⟨w_11.heap.size, 0, none⟩ = some (.slice ea0_314 a1.1.length ecap0_314) := below_later (hb_826) c_804; clear c_804
            have c_839 : w_25.cell? ⟨w_11.heap.size, 1, none⟩ = some (.slice ea1_314 a1.2.length ecap1_314) := below_later (hb_826) c_805; clear c_805
            have c_840 : w_25.cell? ⟨w_12.heap.size, 0, none⟩ = some (.slice ea0_357 r0.1.length ecap0_357) := below_later (hb_826) c_806; clear c_806
            have c_841 : w_25.cell? ⟨w_12.heap.size, 1, none⟩ = some (.slice ea1_357 r0.2.length ecap1_357) := below_later (hb_826) c_807; clear c_807
            have RD_842 := Lib.hid (kMachine_ok.rbelow RD_808.out (Below.mono (hb_826) (by first | omega | (simp; done) | (simp; omega)))); clear RD_808
            have hz_843 : wc8.heap.size ≤ w_25.heap.size := Nat.le_trans hz_809 hz_827
            have RD_844 := Lib.hid (kMachine_ok.rbelow RD_810.out (Below.mono (hb_826) (by first | omega | (simp; done) | (simp; omega)))); clear RD_810
            have hz_845 : w_23.heap.size ≤ w_25.heap.size := Nat.le_trans hz_811 hz_827
            have RD_846 := Lib.hid (kMachine_ok.rbelow RD_791.out (Below.mono (hb_826) (by first | omega | (simp; done) | (simp; omega)))); clear RD_791
            have hz_847 : w_24.heap.size ≤ w_25.heap.size := Nat.le_trans hz_818 hz_827
            have OW_848 := Lib.hid (kMachine_ok.oframe OW_812.out (w' := w_25) fun b hm => (hb_826).block b (kMachine_ok.olt OW_812.out b hm)); clear OW_812
            have hz_849 : w_10.heap.size ≤ w_25.heap.size := Nat.le_trans hz_813 hz_827
            have OW_850 := Lib.hid (kMachine_ok.oframe OW_814.out (w' := w_25) fun b hm => (hb_826).block b (kMachine_ok.olt OW_814.out b hm)); clear OW_814
            have hz_851 : w_11.heap.size ≤ w_25.heap.size := Nat.le_trans hz_815 hz_827
            have OW_852 := Lib.hid (kMachine_ok.oframe OW_816.out (w' := w_25) fun b hm => (hb_826).block b (kMachine_ok.olt OW_816.out b hm)); clear OW_816
            have hz_853 : w_12.heap.size ≤ w_25.heap.size := Nat.le_trans hz_817 hz_827
            have HBLAST := Lib.hid hb_826
            clear hb_826
            have hz_854 : w_25.heap.size ≤ w_25.heap.size := Nat.le_refl _
            have HBASE_855 := Lib.hid (rstep HBASE_819.out HBLAST.out); clear HBLAST
            refine hK.out _ _ (Or.inl (by kernel_rfl)) (fun _ => ?_)
            clear hK K
            try simp only [Act.put, List.setIfInBounds_toArray, List.set_cons_zero, List.set_cons_succ]
            refine wpG_pure (i := 5) (oi := { dst := some 94, op := Go.Op.move (Go.Operand.tmp 99), type := 35, pos := "exact.go:3683", after := #[{ on := 4, ground := Go.Ground.data }], guard := none }) (v := ?vg1204006) rfl (by kernel_rfl) (fun _ _ _ h => h) (Or.inl (by kernel_rfl)) (Or.inl ⟨by rfl, ?yg1204006⟩) ?_
            case yg1204006 => (intro wS _; go_simp <;> with_reducible rfl)
            try simp only [Act.put, List.setIfInBounds_toArray, List.set_cons_zero, List.set_cons_succ]
            refine wpG_pure (i := 6) (oi := { dst := some 100, op := Go.Op.extract (Go.Operand.tmp 94) 0, type := 28, pos := "exact.go:3683", after := #[{ on := 5, ground := Go.Ground.data }], guard := none }) (v := ?vg1204007) rfl (by kernel_rfl) (fun _ _ _ h => h) (Or.inl (by kernel_rfl)) (Or.inl ⟨by rfl, ?yg1204007⟩) ?_
            case yg1204007 => (intro wS _; go_simp <;> with_reducible rfl)
            try simp only [Act.put, List.setIfInBounds_toArray, List.set_cons_zero, List.set_cons_succ]
            refine wpG_pure (i := 7) (oi := { dst := some 101, op := Go.Op.extract (Go.Operand.tmp 94) 1, type := 4, pos := "exact.go:3683", after := #[{ on := 5, ground := Go.Ground.data }, { on := 9, ground := Go.Ground.gcOnly Go.Departure.lateStores }], guard := none }) (v := ?vg1204008) rfl (by kernel_rfl) (fun _ _ _ h => h) (Or.inl (by kernel_rfl)) (Or.inl ⟨by rfl, ?yg1204008⟩) ?_
            case yg1204008 => (intro wS _; go_simp <;> with_reducible rfl)
            try simp only [Act.put, List.setIfInBounds_toArray, List.set_cons_zero, List.set_cons_succ]
            refine wpG_one (i := 8) (o := { dst := some 15, op := Go.Op.alloc 28, type := 0, pos := "exact.go:3683", after := #[], guard := none }) rfl (by kernel_rfl) (fun K hK => ?_)
            go_simp
            have hb_856 : Below w_25.heap.size w_25 (w_25.alloc (.cells #[Value.slice none 0 0, Value.slice none 0 0] 28)) := (Below.refl _ _).alloc (Nat.le_refl _) _
            have hz_857 : w_25.heap.size ≤ w_25.heap.size + 1 := by have := (hb_856).size; first | omega | (simp at this; omega)
            have HB_858 := Lib.hid (box2_step HB_828.out hb_856)
            have hz_859 : w.heap.size + 2 ≤ w_25.heap.size + 1 := Nat.le_trans hz_829 hz_857
            have c_860 : (w_25.alloc (.cells #[Value.slice none 0 0, Value.slice none 0 0] 28)).cell? ⟨w.heap.size, 0, none⟩ = some (.slice ea0_0 a0.1.length ecap0_0) := below_later (hb_856) c_830; clear c_830
            have c_861 : (w_25.alloc (.cells #[Value.slice none 0 0, Value.slice none 0 0] 28)).cell? ⟨w.heap.size, 1, none⟩ = some (.slice ea0_1 a0.2.length ecap0_1) := below_later (hb_856) c_831; clear c_831
            have c_862 : (w_25.alloc (.cells #[Value.slice none 0 0, Value.slice none 0 0] 28)).cell? ⟨w.heap.size + 1, 0, none⟩ = some (.slice ea1_0 a1.1.length ecap1_0) := below_later (hb_856) c_832; clear c_832
            have c_863 : (w_25.alloc (.cells #[Value.slice none 0 0, Value.slice none 0 0] 28)).cell? ⟨w.heap.size + 1, 1, none⟩ = some (.slice ea1_1 a1.2.length ecap1_1) := below_later (hb_856) c_833; clear c_833
            have c_864 : (w_25.alloc (.cells #[Value.slice none 0 0, Value.slice none 0 0] 28)).cell? ⟨B8, 0, none⟩ = some (.slice ec0_8 r0.1.length cc0_8) := below_later (hb_856) c_834; clear c_834
            have c_865 : (w_25.alloc (.cells #[Value.slice none 0 0, Value.slice none 0 0] 28)).cell? ⟨B8, 1, none⟩ = some (.slice ec1_8 r0.2.length cc1_8) := below_later (hb_856) c_835; clear c_835
            have c_866 : (w_25.alloc (.cells #[Value.slice none 0 0, Value.slice none 0 0] 28)).cell? ⟨w_10.heap.size, 0, none⟩ = some (.slice ea0_279 a0.1.length ecap0_279) := below_later (hb_856) c_836; clear c_836
            have c_867 : (w_25.alloc (.cells #[Value.slice none 0 0, Value.slice none 0 0] 28)).cell? ⟨w_10.heap.size, 1, none⟩ = some (.slice ea1_279 a0.2.length ecap1_279) := below_later (hb_856) c_837; clear c_837
            have c_868 : (w_25.alloc (.cells #[Value.slice none 0 0, Value.slice none 0 0] 28)).cell? ⟨w_11.heap.size, 0, none⟩ = some (.slice ea0_314 a1.1.length ecap0_314) := below_later (hb_856) c_838; clear c_838
            have c_869 : (w_25.alloc (.cells #[Value.slice none 0 0, Value.slice none 0 0] 28)).cell? ⟨w_11.heap.size, 1, none⟩ = some (.slice ea1_314 a1.2.length ecap1_314) := below_later (hb_856) c_839; clear c_839
            have c_870 : (w_25.alloc (.cells #[Value.slice none 0 0, Value.slice none 0 0] 28)).cell? ⟨w_12.heap.size, 0, none⟩ = some (.slice ea0_357 r0.1.length ecap0_357) := below_later (hb_856) c_840; clear c_840
            have c_871 : (w_25.alloc (.cells #[Value.slice none 0 0, Value.slice none 0 0] 28)).cell? ⟨w_12.heap.size, 1, none⟩ = some (.slice ea1_357 r0.2.length ecap1_357) := below_later (hb_856) c_841; clear c_841
            have RD_872 := Lib.hid (kMachine_ok.rbelow RD_842.out (Below.mono (hb_856) (by first | omega | (simp; done) | (simp; omega)))); clear RD_842
            have hz_873 : wc8.heap.size ≤ w_25.heap.size + 1 := Nat.le_trans hz_843 hz_857
            have RD_874 := Lib.hid (kMachine_ok.rbelow RD_844.out (Below.mono (hb_856) (by first | omega | (simp; done) | (simp; omega)))); clear RD_844
            have hz_875 : w_23.heap.size ≤ w_25.heap.size + 1 := Nat.le_trans hz_845 hz_857
            have RD_876 := Lib.hid (kMachine_ok.rbelow RD_846.out (Below.mono (hb_856) (by first | omega | (simp; done) | (simp; omega)))); clear RD_846
            have hz_877 : w_24.heap.size ≤ w_25.heap.size + 1 := Nat.le_trans hz_847 hz_857
            have OW_878 := Lib.hid (kMachine_ok.oframe OW_848.out (w' := (w_25.alloc (.cells #[Value.slice none 0 0, Value.slice none 0 0] 28))) fun b hm => (hb_856).block b (kMachine_ok.olt OW_848.out b hm)); clear OW_848
            have hz_879 : w_10.heap.size ≤ w_25.heap.size + 1 := Nat.le_trans hz_849 hz_857
            have OW_880 := Lib.hid (kMachine_ok.oframe OW_850.out (w' := (w_25.alloc (.cells #[Value.slice none 0 0, Value.slice none 0 0] 28))) fun b hm => (hb_856).block b (kMachine_ok.olt OW_850.out b hm)); clear OW_850
            have hz_881 : w_11.heap.size ≤ w_25.heap.size + 1 := Nat.le_trans hz_851 hz_857
            have OW_882 := Lib.hid (kMachine_ok.oframe OW_852.out (w' := (w_25.alloc (.cells #[Value.slice none 0 0, Value.slice none 0 0] 28))) fun b hm => (hb_856).block b (kMachine_ok.olt OW_852.out b hm)); clear OW_852
            have hz_883 : w_12.heap.size ≤ w_25.heap.size + 1 := Nat.le_trans hz_853 hz_857
            have OW_884 := Lib.hid (kMachine_ok.oframe OW_822.out (w' := (w_25.alloc (.cells #[Value.slice none 0 0, Value.slice none 0 0] 28))) fun b hm => (hb_856).block b (kMachine_ok.olt OW_822.out b hm)); clear OW_822
            have hz_885 : w_25.heap.size ≤ w_25.heap.size + 1 := Nat.le_trans hz_854 hz_857
            have HBASE_886 := Lib.hid (rstep HBASE_855.out hb_856); clear hb_856
            have c_887 : (w_25.alloc (.cells #[Value.slice none 0 0, Value.slice none 0 0] 28)).cell? ⟨w_25.heap.size, 0, none⟩ = some (Value.slice none 0 0) := by go_simp
            have c_888 : (w_25.alloc (.cells #[Value.slice none 0 0, Value.slice none 0 0] 28)).cell? ⟨w_25.heap.size, 1, none⟩ = some (Value.slice none 0 0) := by go_simp
            have f_889 : (w_25.alloc (.cells #[Value.slice none 0 0, Value.slice none 0 0] 28)).frozen? ⟨w_25.heap.size, 0, none⟩ = false := by go_simp
            have f_890 : (w_25.alloc (.cells #[Value.slice none 0 0, Value.slice none 0 0] 28)).frozen? ⟨w_25.heap.size, 1, none⟩ = false := by go_simp
            refine hK.out _ _ (Or.inl (by kernel_rfl)) (fun _ => ?_)
            clear hK K
            try simp only [Act.put, List.setIfInBounds_toArray, List.set_cons_zero, List.set_cons_succ]
            refine wpG_one (i := 9) (o := { dst := none, op := Go.Op.store 28 (Go.Operand.tmp 15) (Go.Operand.tmp 100), type := 0, pos := "exact.go:3683", after := #[{ on := 8, ground := Go.Ground.data }, { on := 6, ground := Go.Ground.data }, { on := 4, ground := Go.Ground.chain }, { on := 0, ground := Go.Ground.phase }, { on := 1, ground := Go.Ground.phase }, { on := 2, ground := Go.Ground.phase }, { on := 3, ground := Go.Ground.phase }, { on := 4, ground := Go.Ground.phase }, { on := 5, ground := Go.Ground.phase }, { on := 6, ground := Go.Ground.phase }, { on := 7, ground := Go.Ground.textOnly Go.Departure.lateStores }, { on := 8, ground := Go.Ground.phase }], guard := none }) rfl (by kernel_rfl) (fun K hK => ?_)
            go_simp
            refine hK.out _ _ (Or.inl (by kernel_rfl)) (fun _ => ?_)
            clear hK K
            try simp only [Act.put, List.setIfInBounds_toArray, List.set_cons_zero, List.set_cons_succ]
            refine wpG_pure (i := 10) (oi := { dst := some 16, op := Go.Op.assign (Go.Operand.tmp 101), type := 4, pos := "exact.go:3683", after := #[{ on := 7, ground := Go.Ground.data }, { on := 9, ground := Go.Ground.chain }, { on := 0, ground := Go.Ground.phase }, { on := 1, ground := Go.Ground.phase }, { on := 2, ground := Go.Ground.phase }, { on := 3, ground := Go.Ground.phase }, { on := 4, ground := Go.Ground.phase }, { on := 5, ground := Go.Ground.phase }, { on := 6, ground := Go.Ground.phase }, { on := 7, ground := Go.Ground.phase }, { on := 8, ground := Go.Ground.phase }, { on := 9, ground := Go.Ground.phase }], guard := none }) (v := ?vg1204011) rfl (by kernel_rfl) (fun _ _ _ h => h) (Or.inl (by kernel_rfl)) (Or.inl ⟨by rfl, ?yg1204011⟩) ?_
            case yg1204011 => (intro wS _; go_simp <;> with_reducible rfl)
            try simp only [Act.put, List.setIfInBounds_toArray, List.set_cons_zero, List.set_cons_succ]
            refine wpG_done (by kernel_rfl) ?_
            go_wp2_with fail
            go_meet
            have hsame : ∀ b, b < w_25.heap.size → (w_25.alloc (.cells #[.slice ea0_820 r0.1.length ecap0_820, .slice ea1_820 r0.2.length ecap1_820] 28)).heap[b]? = w_25.heap[b]? := fun b hb => Below.block ((Below.refl _ _).alloc (Nat.le_refl _) _) b hb
            have hrdf : kMachine.rd (w_25.alloc (.cells #[.slice ea0_820 r0.1.length ecap0_820, .slice ea1_820 r0.2.length ecap1_820] 28)).heap.size (w_25.alloc (.cells #[.slice ea0_820 r0.1.length ecap0_820, .slice ea1_820 r0.2.length ecap1_820] 28)) [.slice ea0_820 r0.1.length ecap0_820, .slice ea1_820 r0.2.length ecap1_820] r0 := kMachine_ok.ord (kMachine_ok.oframe OW_884.out (fun b hm => (Below.block ((Below.refl w_25.heap.size w_25).alloc (Nat.le_refl _) _ : Below w_25.heap.size w_25 (w_25.alloc (.cells #[.slice ea0_820 r0.1.length ecap0_820, .slice ea1_820 r0.2.length ecap1_820] 28))) b (by have := HH_824.out b hm; first | omega | (simp; done) | (simp; omega))).trans (Below.block ((Below.refl w_25.heap.size w_25).alloc (Nat.le_refl _) _ : Below w_25.heap.size w_25 (w_25.alloc (.cells #[Value.slice none 0 0, Value.slice none 0 0] 28))) b (by have := HH_824.out b hm; first | omega | (simp; done) | (simp; omega))).symm)) (fun b hm => by have := HH_824.out b hm; first | omega | (simp; done) | (simp; omega))
            have hbf : Below w_22.heap.size w_22 (w_25.alloc (.cells #[.slice ea0_820 r0.1.length ecap0_820, .slice ea1_820 r0.2.length ecap1_820] 28)) := rstep HBASE_855.out ((Below.refl _ _).alloc (Nat.le_refl _) _)
            exact ⟨_, _, _, _, _, rfl, rfl, Lib.hid ⟨by go_simp, by go_simp, hrdf, hbf, by first | omega | (simp; done) | (simp; omega), by first | omega | (simp; done) | (simp; omega)⟩⟩
          · skip
            go_simp
            have hb_891 : Below w_24.heap.size w_24 (w_24.alloc (.cells #[Value.slice none 0 0, Value.slice none 0 0] 28)) := (Below.refl _ _).alloc (Nat.le_refl _) _
            have hz_892 : w_24.heap.size ≤ w_24.heap.size + 1 := by have := (hb_891).size; first | omega | (simp at this; omega)
            have HB_893 := Lib.hid (box2_step HB_794.out hb_891)
            have hz_894 : w.heap.size + 2 ≤ w_24.heap.size + 1 := Nat.le_trans hz_795 hz_892
            have c_895 : (w_24.alloc (.cells #[Value.slice none 0 0, Value.slice none 0 0] 28)).cell? ⟨w.heap.size, 0, none⟩ = some (.slice ea0_0 a0.1.length ecap0_0) := below_later (hb_891) c_796; clear c_796
            have c_896 : (w_24.alloc (.cells #[Value.slice none 0 0, Value.slice none 0 0] 28)).cell? ⟨w.heap.size, 1, none⟩ = some (.slice ea0_1 a0.2.length ecap0_1) := below_later (hb_891) c_797; clear c_797
            have c_897 : (w_24.alloc (.cells #[Value.slice none 0 0, Value.slice none 0 0] 28)).cell? ⟨w.heap.size + 1, 0, none⟩ = some (.slice ea1_0 a1.1.length ecap1_0) := below_later (hb_891) c_798; clear c_798
            have c_898 : (w_24.alloc (.cells #[Value.slice none 0 0, Value.slice none 0 0] 28)).cell? ⟨w.heap.size + 1, 1, none⟩ = some (.slice ea1_1 a1.2.length ecap1_1) := below_later (hb_891) c_799; clear c_799
            have c_899 : (w_24.alloc (.cells #[Value.slice none 0 0, Value.slice none 0 0] 28)).cell? ⟨B8, 0, none⟩ = some (.slice ec0_8 r0.1.length cc0_8) := below_later (hb_891) c_800; clear c_800
            have c_900 : (w_24.alloc (.cells #[Value.slice none 0 0, Value.slice none 0 0] 28)).cell? ⟨B8, 1, none⟩ = some (.slice ec1_8 r0.2.length cc1_8) := below_later (hb_891) c_801; clear c_801
            have c_901 : (w_24.alloc (.cells #[Value.slice none 0 0, Value.slice none 0 0] 28)).cell? ⟨w_10.heap.size, 0, none⟩ = some (.slice ea0_279 a0.1.length ecap0_279) := below_later (hb_891) c_802; clear c_802
            have c_902 : (w_24.alloc (.cells #[Value.slice none 0 0, Value.slice none 0 0] 28)).cell? ⟨w_10.heap.size, 1, none⟩ = some (.slice ea1_279 a0.2.length ecap1_279) := below_later (hb_891) c_803; clear c_803
            have c_903 : (w_24.alloc (.cells #[Value.slice none 0 0, Value.slice none 0 0] 28)).cell? ⟨w_11.heap.size, 0, none⟩ = some (.slice ea0_314 a1.1.length ecap0_314) := below_later (hb_891) c_804; clear c_804
            have c_904 : (w_24.alloc (.cells #[Value.slice none 0 0, Value.slice none 0 0] 28)).cell? ⟨w_11.heap.size, 1, none⟩ = some (.slice ea1_314 a1.2.length ecap1_314) := below_later (hb_891) c_805; clear c_805
            have c_905 : (w_24.alloc (.cells #[Value.slice none 0 0, Value.slice none 0 0] 28)).cell? ⟨w_12.heap.size, 0, none⟩ = some (.slice ea0_357 r0.1.length ecap0_357) := below_later (hb_891) c_806; clear c_806
            have c_906 : (w_24.alloc (.cells #[Value.slice none 0 0, Value.slice none 0 0] 28)).cell? ⟨w_12.heap.size, 1, none⟩ = some (.slice ea1_357 r0.2.length ecap1_357) := below_later (hb_891) c_807; clear c_807
            have RD_907 := Lib.hid (kMachine_ok.rbelow RD_808.out (Below.mono (hb_891) (by first | omega | (simp; done) | (simp; omega)))); clear RD_808
            have hz_908 : wc8.heap.size ≤ w_24.heap.size + 1 := Nat.le_trans hz_809 hz_892
            have RD_909 := Lib.hid (kMachine_ok.rbelow RD_810.out (Below.mono (hb_891) (by first | omega | (simp; done) | (simp; omega)))); clear RD_810
            have hz_910 : w_23.heap.size ≤ w_24.heap.size + 1 := Nat.le_trans hz_811 hz_892
            have RD_911 := Lib.hid (kMachine_ok.rbelow RD_791.out (Below.mono (hb_891) (by first | omega | (simp; done) | (simp; omega)))); clear RD_791
            have hz_912 : w_24.heap.size ≤ w_24.heap.size + 1 := Nat.le_trans hz_818 hz_892
            have OW_913 := Lib.hid (kMachine_ok.oframe OW_812.out (w' := (w_24.alloc (.cells #[Value.slice none 0 0, Value.slice none 0 0] 28))) fun b hm => (hb_891).block b (kMachine_ok.olt OW_812.out b hm)); clear OW_812
            have hz_914 : w_10.heap.size ≤ w_24.heap.size + 1 := Nat.le_trans hz_813 hz_892
            have OW_915 := Lib.hid (kMachine_ok.oframe OW_814.out (w' := (w_24.alloc (.cells #[Value.slice none 0 0, Value.slice none 0 0] 28))) fun b hm => (hb_891).block b (kMachine_ok.olt OW_814.out b hm)); clear OW_814
            have hz_916 : w_11.heap.size ≤ w_24.heap.size + 1 := Nat.le_trans hz_815 hz_892
            have OW_917 := Lib.hid (kMachine_ok.oframe OW_816.out (w' := (w_24.alloc (.cells #[Value.slice none 0 0, Value.slice none 0 0] 28))) fun b hm => (hb_891).block b (kMachine_ok.olt OW_816.out b hm)); clear OW_816
            have hz_918 : w_12.heap.size ≤ w_24.heap.size + 1 := Nat.le_trans hz_817 hz_892
            have HBASE_919 := Lib.hid (rstep HBASE_819.out hb_891); clear hb_891
            have c_920 : (w_24.alloc (.cells #[Value.slice none 0 0, Value.slice none 0 0] 28)).cell? ⟨w_24.heap.size, 0, none⟩ = some (Value.slice none 0 0) := by go_simp
            have c_921 : (w_24.alloc (.cells #[Value.slice none 0 0, Value.slice none 0 0] 28)).cell? ⟨w_24.heap.size, 1, none⟩ = some (Value.slice none 0 0) := by go_simp
            have f_922 : (w_24.alloc (.cells #[Value.slice none 0 0, Value.slice none 0 0] 28)).frozen? ⟨w_24.heap.size, 0, none⟩ = false := by go_simp
            have f_923 : (w_24.alloc (.cells #[Value.slice none 0 0, Value.slice none 0 0] 28)).frozen? ⟨w_24.heap.size, 1, none⟩ = false := by go_simp
            refine hK.out _ _ (Or.inl (by kernel_rfl)) (fun _ => ?_)
            clear hK K
            try simp only [Act.put, List.setIfInBounds_toArray, List.set_cons_zero, List.set_cons_succ]
            refine wpG_one (i := 4) (o := { dst := some 99, op := Go.Op.call { callee := Go.Callee.value (Go.Operand.func 23), args := #[Go.Operand.tmp 96, Go.Operand.tmp 98], argTypes := #[28, 28] }, type := 35, pos := "exact.go:3683", after := #[{ on := 1, ground := Go.Ground.data }, { on := 3, ground := Go.Ground.data }, { on := 3, ground := Go.Ground.chain }], guard := none }) rfl (by kernel_rfl) (fun K hK => ?_)
            go_simp
            refine (HI.out _ [.slice ea0_754 a0.1.length ecap0_754, .slice ea1_754 a0.2.length ecap1_754] [.slice ea0_786 a1.1.length ecap0_786, .slice ea1_786 a1.2.length ecap1_786] (kMachine_ok.rmono RD_909.out (by first | omega | (simp; done) | (simp; omega))) (kMachine_ok.rmono RD_911.out (by first | omega | (simp; done) | (simp; omega)))).mono ?_
            rintro e w_26 ⟨cs_924, fp_924, he, ho, hnd, hge, hb⟩
            have hrd := kMachine_ok.ord ho (B := w_26.heap.size) (kMachine_ok.olt ho)
            obtain ⟨ea0_924, ecap0_924, ea1_924, ecap1_924, rfl⟩ : ∃ ea0_924 ecap0_924 ea1_924 ecap1_924, cs_924 = [.slice ea0_924 r0.1.length ecap0_924, .slice ea1_924 r0.2.length ecap1_924] := by
              obtain ⟨ea0_924, ecap0_924, ea1_924, ecap1_924, h, _⟩ := Machine_rd hrd
              exact ⟨ea0_924, ecap0_924, ea1_924, ecap1_924, h⟩
            change e = .returned (.tuple #[(.agg #[.slice ea0_924 r0.1.length ecap0_924, .slice ea1_924 r0.2.length ecap1_924]), (.bool r1)]) at he
            subst he
            have RD_925 := Lib.hid hrd; clear hrd
            have OW_926 := Lib.hid ho; have HN_929 := Lib.hid hnd
            have HL_927 : Hid (∀ b ∈ fp_924, w_24.heap.size + 1 ≤ b) := Lib.hid fun b hm => by have := hge b hm; first | omega | (simp at this; omega)
            have HH_928 : Hid (∀ b ∈ fp_924, b < w_26.heap.size) := Lib.hid (kMachine_ok.olt ho)
            clear ho hnd hge
            have hb_930 := hb; clear hb
            have hz_931 : w_24.heap.size + 1 ≤ w_26.heap.size := by have := (hb_930).size; first | omega | (simp at this; omega)
            have HB_932 := Lib.hid (box2_step HB_893.out hb_930)
            have hz_933 : w.heap.size + 2 ≤ w_26.heap.size := Nat.le_trans hz_894 hz_931
            have c_934 : w_26.cell? ⟨w.heap.size, 0, none⟩ = some (.slice ea0_0 a0.1.length ecap0_0) := below_later (hb_930) c_895; clear c_895
            have c_935 : w_26.cell? ⟨w.heap.size, 1, none⟩ = some (.slice ea0_1 a0.2.length ecap0_1) := below_later (hb_930) c_896; clear c_896
            have c_936 : w_26.cell? ⟨w.heap.size + 1, 0, none⟩ = some (.slice ea1_0 a1.1.length ecap1_0) := below_later (hb_930) c_897; clear c_897
            have c_937 : w_26.cell? ⟨w.heap.size + 1, 1, none⟩ = some (.slice ea1_1 a1.2.length ecap1_1) := below_later (hb_930) c_898; clear c_898
            have c_938 : w_26.cell? ⟨B8, 0, none⟩ = some (.slice ec0_8 r0.1.length cc0_8) := below_later (hb_930) c_899; clear c_899
            have c_939 : w_26.cell? ⟨B8, 1, none⟩ = some (.slice ec1_8 r0.2.length cc1_8) := below_later (hb_930) c_900; clear c_900
            have c_940 : w_26.cell? ⟨w_10.heap.size, 0, none⟩ = some (.slice ea0_279 a0.1.length ecap0_279) := below_later (hb_930) c_901; clear c_901
            have c_941 : w_26.cell? ⟨w_10.heap.size, 1, none⟩ = some (.slice ea1_279 a0.2.length ecap1_279) := below_later (hb_930) c_902; clear c_902
            have c_942 : w_26.cell? ⟨w_11.heap.size, 0, none⟩ = some (.slice ea0_314 a1.1.length ecap0_314) := below_later (hb_930) c_903; clear c_903
            have c_943 : w_26.cell? ⟨w_11.heap.size, 1, none⟩ = some (.slice ea1_314 a1.2.length ecap1_314) := below_later (hb_930) c_904; clear c_904
            have c_944 : w_26.cell? ⟨w_12.heap.size, 0, none⟩ = some (.slice ea0_357 r0.1.length ecap0_357) := below_later (hb_930) c_905; clear c_905
            have c_945 : w_26.cell? ⟨w_12.heap.size, 1, none⟩ = some (.slice ea1_357 r0.2.length ecap1_357) := below_later (hb_930) c_906; clear c_906
            have c_946 : w_26.cell? ⟨w_24.heap.size, 0, none⟩ = some (Value.slice none 0 0) := below_later (hb_930) c_920; clear c_920
            have c_947 : w_26.cell? ⟨w_24.heap.size, 1, none⟩ = some (Value.slice none 0 0) := below_later (hb_930) c_921; clear c_921
            have f_948 : w_26.frozen? ⟨w_24.heap.size, 0, none⟩ = false := (Below.frozen (hb_930) (p := ⟨w_24.heap.size, 0, none⟩) (by show w_24.heap.size < _; first | omega | (simp; done) | (simp; omega))).trans f_922; clear f_922
            have f_949 : w_26.frozen? ⟨w_24.heap.size, 1, none⟩ = false := (Below.frozen (hb_930) (p := ⟨w_24.heap.size, 1, none⟩) (by show w_24.heap.size < _; first | omega | (simp; done) | (simp; omega))).trans f_923; clear f_923
            have RD_950 := Lib.hid (kMachine_ok.rbelow RD_907.out (Below.mono (hb_930) (by first | omega | (simp; done) | (simp; omega)))); clear RD_907
            have hz_951 : wc8.heap.size ≤ w_26.heap.size := Nat.le_trans hz_908 hz_931
            have RD_952 := Lib.hid (kMachine_ok.rbelow RD_909.out (Below.mono (hb_930) (by first | omega | (simp; done) | (simp; omega)))); clear RD_909
            have hz_953 : w_23.heap.size ≤ w_26.heap.size := Nat.le_trans hz_910 hz_931
            have RD_954 := Lib.hid (kMachine_ok.rbelow RD_911.out (Below.mono (hb_930) (by first | omega | (simp; done) | (simp; omega)))); clear RD_911
            have hz_955 : w_24.heap.size ≤ w_26.heap.size := Nat.le_trans hz_912 hz_931
            have OW_956 := Lib.hid (kMachine_ok.oframe OW_913.out (w' := w_26) fun b hm => (hb_930).block b (kMachine_ok.olt OW_913.out b hm)); clear OW_913
            have hz_957 : w_10.heap.size ≤ w_26.heap.size := Nat.le_trans hz_914 hz_931
            have OW_958 := Lib.hid (kMachine_ok.oframe OW_915.out (w' := w_26) fun b hm => (hb_930).block b (kMachine_ok.olt OW_915.out b hm)); clear OW_915
            have hz_959 : w_11.heap.size ≤ w_26.heap.size := Nat.le_trans hz_916 hz_931
            have OW_960 := Lib.hid (kMachine_ok.oframe OW_917.out (w' := w_26) fun b hm => (hb_930).block b (kMachine_ok.olt OW_917.out b hm)); clear OW_917
            have hz_961 : w_12.heap.size ≤ w_26.heap.size := Nat.le_trans hz_918 hz_931
            have HBLAST := Lib.hid hb_930
            clear hb_930
            have hz_962 : w_26.heap.size ≤ w_26.heap.size := Nat.le_refl _
            have HBASE_963 := Lib.hid (rstep HBASE_919.out HBLAST.out); clear HBLAST
            refine hK.out _ _ (Or.inl (by kernel_rfl)) (fun _ => ?_)
            clear hK K
            try simp only [Act.put, List.setIfInBounds_toArray, List.set_cons_zero, List.set_cons_succ]
            refine wpG_pure (i := 5) (oi := { dst := some 94, op := Go.Op.move (Go.Operand.tmp 99), type := 35, pos := "exact.go:3683", after := #[{ on := 4, ground := Go.Ground.data }], guard := none }) (v := ?vg1204014) rfl (by kernel_rfl) (fun _ _ _ h => h) (Or.inl (by kernel_rfl)) (Or.inl ⟨by rfl, ?yg1204014⟩) ?_
            case yg1204014 => (intro wS _; go_simp <;> with_reducible rfl)
            try simp only [Act.put, List.setIfInBounds_toArray, List.set_cons_zero, List.set_cons_succ]
            refine wpG_pure (i := 6) (oi := { dst := some 100, op := Go.Op.extract (Go.Operand.tmp 94) 0, type := 28, pos := "exact.go:3683", after := #[{ on := 5, ground := Go.Ground.data }], guard := none }) (v := ?vg1204015) rfl (by kernel_rfl) (fun _ _ _ h => h) (Or.inl (by kernel_rfl)) (Or.inl ⟨by rfl, ?yg1204015⟩) ?_
            case yg1204015 => (intro wS _; go_simp <;> with_reducible rfl)
            try simp only [Act.put, List.setIfInBounds_toArray, List.set_cons_zero, List.set_cons_succ]
            refine wpG_pure (i := 7) (oi := { dst := some 101, op := Go.Op.extract (Go.Operand.tmp 94) 1, type := 4, pos := "exact.go:3683", after := #[{ on := 5, ground := Go.Ground.data }, { on := 9, ground := Go.Ground.gcOnly Go.Departure.lateStores }], guard := none }) (v := ?vg1204016) rfl (by kernel_rfl) (fun _ _ _ h => h) (Or.inl (by kernel_rfl)) (Or.inl ⟨by rfl, ?yg1204016⟩) ?_
            case yg1204016 => (intro wS _; go_simp <;> with_reducible rfl)
            try simp only [Act.put, List.setIfInBounds_toArray, List.set_cons_zero, List.set_cons_succ]
            refine wpG_one (i := 9) (o := { dst := none, op := Go.Op.store 28 (Go.Operand.tmp 15) (Go.Operand.tmp 100), type := 0, pos := "exact.go:3683", after := #[{ on := 8, ground := Go.Ground.data }, { on := 6, ground := Go.Ground.data }, { on := 4, ground := Go.Ground.chain }, { on := 0, ground := Go.Ground.phase }, { on := 1, ground := Go.Ground.phase }, { on := 2, ground := Go.Ground.phase }, { on := 3, ground := Go.Ground.phase }, { on := 4, ground := Go.Ground.phase }, { on := 5, ground := Go.Ground.phase }, { on := 6, ground := Go.Ground.phase }, { on := 7, ground := Go.Ground.textOnly Go.Departure.lateStores }, { on := 8, ground := Go.Ground.phase }], guard := none }) rfl (by kernel_rfl) (fun K hK => ?_)
            go_simp
            refine hK.out _ _ (Or.inl (by kernel_rfl)) (fun _ => ?_)
            clear hK K
            try simp only [Act.put, List.setIfInBounds_toArray, List.set_cons_zero, List.set_cons_succ]
            refine wpG_pure (i := 10) (oi := { dst := some 16, op := Go.Op.assign (Go.Operand.tmp 101), type := 4, pos := "exact.go:3683", after := #[{ on := 7, ground := Go.Ground.data }, { on := 9, ground := Go.Ground.chain }, { on := 0, ground := Go.Ground.phase }, { on := 1, ground := Go.Ground.phase }, { on := 2, ground := Go.Ground.phase }, { on := 3, ground := Go.Ground.phase }, { on := 4, ground := Go.Ground.phase }, { on := 5, ground := Go.Ground.phase }, { on := 6, ground := Go.Ground.phase }, { on := 7, ground := Go.Ground.phase }, { on := 8, ground := Go.Ground.phase }, { on := 9, ground := Go.Ground.phase }], guard := none }) (v := ?vg1204018) rfl (by kernel_rfl) (fun _ _ _ h => h) (Or.inl (by kernel_rfl)) (Or.inl ⟨by rfl, ?yg1204018⟩) ?_
            case yg1204018 => (intro wS _; go_simp <;> with_reducible rfl)
            try simp only [Act.put, List.setIfInBounds_toArray, List.set_cons_zero, List.set_cons_succ]
            refine wpG_done (by kernel_rfl) ?_
            go_wp2_with fail
            go_meet
            have hrdf : kMachine.rd ((w_26.setCell ⟨w_24.heap.size, 0, none⟩ (.slice ea0_924 r0.1.length ecap0_924)).setCell ⟨w_24.heap.size, 1, none⟩ (.slice ea1_924 r0.2.length ecap1_924)).heap.size ((w_26.setCell ⟨w_24.heap.size, 0, none⟩ (.slice ea0_924 r0.1.length ecap0_924)).setCell ⟨w_24.heap.size, 1, none⟩ (.slice ea1_924 r0.2.length ecap1_924)) [.slice ea0_924 r0.1.length ecap0_924, .slice ea1_924 r0.2.length ecap1_924] r0 := kMachine_ok.ord (kMachine_ok.oframe OW_926.out (fun b hm => by rw [Below.heap_setCell _ _ _ _ (by show b ≠ w_24.heap.size; have := HL_927.out b hm; omega), Below.heap_setCell _ _ _ _ (by show b ≠ w_24.heap.size; have := HL_927.out b hm; omega)])) (fun b hm => by have := HH_928.out b hm; first | omega | (simp; done) | (simp; omega))
            have hbf : Below w_22.heap.size w_22 ((w_26.setCell ⟨w_24.heap.size, 0, none⟩ (.slice ea0_924 r0.1.length ecap0_924)).setCell ⟨w_24.heap.size, 1, none⟩ (.slice ea1_924 r0.2.length ecap1_924)) := ((HBASE_963.out.setCell (p := ⟨w_24.heap.size, 0, none⟩) (by show w_22.heap.size ≤ w_24.heap.size; omega) _).setCell (p := ⟨w_24.heap.size, 1, none⟩) (by show w_22.heap.size ≤ w_24.heap.size; omega) _)
            exact ⟨_, _, _, _, _, rfl, rfl, Lib.hid ⟨by go_simp, by go_simp, hrdf, hbf, by first | omega | (simp; done) | (simp; omega), by first | omega | (simp; done) | (simp; omega)⟩⟩
        · skip
          go_simp
          have hb_964 : Below w_23.heap.size w_23 (w_23.alloc (.cells #[Value.slice none 0 0, Value.slice none 0 0] 28)) := (Below.refl _ _).alloc (Nat.le_refl _) _
          have hz_965 : w_23.heap.size ≤ w_23.heap.size + 1 := by have := (hb_964).size; first | omega | (simp at this; omega)
          have HB_966 := Lib.hid (box2_step HB_762.out hb_964)
          have hz_967 : w.heap.size + 2 ≤ w_23.heap.size + 1 := Nat.le_trans hz_763 hz_965
          have c_968 : (w_23.alloc (.cells #[Value.slice none 0 0, Value.slice none 0 0] 28)).cell? ⟨w.heap.size, 0, none⟩ = some (.slice ea0_0 a0.1.length ecap0_0) := below_later (hb_964) c_764; clear c_764
          have c_969 : (w_23.alloc (.cells #[Value.slice none 0 0, Value.slice none 0 0] 28)).cell? ⟨w.heap.size, 1, none⟩ = some (.slice ea0_1 a0.2.length ecap0_1) := below_later (hb_964) c_765; clear c_765
          have c_970 : (w_23.alloc (.cells #[Value.slice none 0 0, Value.slice none 0 0] 28)).cell? ⟨w.heap.size + 1, 0, none⟩ = some (.slice ea1_0 a1.1.length ecap1_0) := below_later (hb_964) c_766; clear c_766
          have c_971 : (w_23.alloc (.cells #[Value.slice none 0 0, Value.slice none 0 0] 28)).cell? ⟨w.heap.size + 1, 1, none⟩ = some (.slice ea1_1 a1.2.length ecap1_1) := below_later (hb_964) c_767; clear c_767
          have c_972 : (w_23.alloc (.cells #[Value.slice none 0 0, Value.slice none 0 0] 28)).cell? ⟨B8, 0, none⟩ = some (.slice ec0_8 r0.1.length cc0_8) := below_later (hb_964) c_768; clear c_768
          have c_973 : (w_23.alloc (.cells #[Value.slice none 0 0, Value.slice none 0 0] 28)).cell? ⟨B8, 1, none⟩ = some (.slice ec1_8 r0.2.length cc1_8) := below_later (hb_964) c_769; clear c_769
          have c_974 : (w_23.alloc (.cells #[Value.slice none 0 0, Value.slice none 0 0] 28)).cell? ⟨w_10.heap.size, 0, none⟩ = some (.slice ea0_279 a0.1.length ecap0_279) := below_later (hb_964) c_770; clear c_770
          have c_975 : (w_23.alloc (.cells #[Value.slice none 0 0, Value.slice none 0 0] 28)).cell? ⟨w_10.heap.size, 1, none⟩ = some (.slice ea1_279 a0.2.length ecap1_279) := below_later (hb_964) c_771; clear c_771
          have c_976 : (w_23.alloc (.cells #[Value.slice none 0 0, Value.slice none 0 0] 28)).cell? ⟨w_11.heap.size, 0, none⟩ = some (.slice ea0_314 a1.1.length ecap0_314) := below_later (hb_964) c_772; clear c_772
          have c_977 : (w_23.alloc (.cells #[Value.slice none 0 0, Value.slice none 0 0] 28)).cell? ⟨w_11.heap.size, 1, none⟩ = some (.slice ea1_314 a1.2.length ecap1_314) := below_later (hb_964) c_773; clear c_773
          have c_978 : (w_23.alloc (.cells #[Value.slice none 0 0, Value.slice none 0 0] 28)).cell? ⟨w_12.heap.size, 0, none⟩ = some (.slice ea0_357 r0.1.length ecap0_357) := below_later (hb_964) c_774; clear c_774
          have c_979 : (w_23.alloc (.cells #[Value.slice none 0 0, Value.slice none 0 0] 28)).cell? ⟨w_12.heap.size, 1, none⟩ = some (.slice ea1_357 r0.2.length ecap1_357) := below_later (hb_964) c_775; clear c_775
          have RD_980 := Lib.hid (kMachine_ok.rbelow RD_776.out (Below.mono (hb_964) (by first | omega | (simp; done) | (simp; omega)))); clear RD_776
          have hz_981 : wc8.heap.size ≤ w_23.heap.size + 1 := Nat.le_trans hz_777 hz_965
          have RD_982 := Lib.hid (kMachine_ok.rbelow RD_759.out (Below.mono (hb_964) (by first | omega | (simp; done) | (simp; omega)))); clear RD_759
          have hz_983 : w_23.heap.size ≤ w_23.heap.size + 1 := Nat.le_trans hz_784 hz_965
          have OW_984 := Lib.hid (kMachine_ok.oframe OW_778.out (w' := (w_23.alloc (.cells #[Value.slice none 0 0, Value.slice none 0 0] 28))) fun b hm => (hb_964).block b (kMachine_ok.olt OW_778.out b hm)); clear OW_778
          have hz_985 : w_10.heap.size ≤ w_23.heap.size + 1 := Nat.le_trans hz_779 hz_965
          have OW_986 := Lib.hid (kMachine_ok.oframe OW_780.out (w' := (w_23.alloc (.cells #[Value.slice none 0 0, Value.slice none 0 0] 28))) fun b hm => (hb_964).block b (kMachine_ok.olt OW_780.out b hm)); clear OW_780
          have hz_987 : w_11.heap.size ≤ w_23.heap.size + 1 := Nat.le_trans hz_781 hz_965
          have OW_988 := Lib.hid (kMachine_ok.oframe OW_782.out (w' := (w_23.alloc (.cells #[Value.slice none 0 0, Value.slice none 0 0] 28))) fun b hm => (hb_964).block b (kMachine_ok.olt OW_782.out b hm)); clear OW_782
          have hz_989 : w_12.heap.size ≤ w_23.heap.size + 1 := Nat.le_trans hz_783 hz_965
          have HBASE_990 := Lib.hid (rstep HBASE_785.out hb_964); clear hb_964
          have c_991 : (w_23.alloc (.cells #[Value.slice none 0 0, Value.slice none 0 0] 28)).cell? ⟨w_23.heap.size, 0, none⟩ = some (Value.slice none 0 0) := by go_simp
          have c_992 : (w_23.alloc (.cells #[Value.slice none 0 0, Value.slice none 0 0] 28)).cell? ⟨w_23.heap.size, 1, none⟩ = some (Value.slice none 0 0) := by go_simp
          have f_993 : (w_23.alloc (.cells #[Value.slice none 0 0, Value.slice none 0 0] 28)).frozen? ⟨w_23.heap.size, 0, none⟩ = false := by go_simp
          have f_994 : (w_23.alloc (.cells #[Value.slice none 0 0, Value.slice none 0 0] 28)).frozen? ⟨w_23.heap.size, 1, none⟩ = false := by go_simp
          refine hK.out _ _ (Or.inr ?khHeld1204019) (fun hHeld1204019S => ?_)
          case khHeld1204019 => exact ⟨c_968, c_969, c_970, c_971⟩
          have hHeld1204019 := hHeld1204019S.held (by kernel_rfl)
          clear hK K
          try simp only [Act.put, List.setIfInBounds_toArray, List.set_cons_zero, List.set_cons_succ]
          refine wpG_one (i := 3) (o := { dst := some 98, op := Go.Op.call { callee := Go.Callee.value (Go.Operand.func 13), args := #[Go.Operand.tmp 97], argTypes := #[25] }, type := 28, pos := "exact.go:3683", after := #[{ on := 2, ground := Go.Ground.data }, { on := 1, ground := Go.Ground.chain }], guard := none }) rfl (by kernel_rfl) (fun K hK => ?_)
          go_simp
          refine (HTO1.out _ (box2_below HB_966.out)).mono ?_
          rintro e w_27 ⟨cs_995, fp_995, he, ho, hnd, hge, hb⟩
          have hrd := kMachine_ok.ord ho (B := w_27.heap.size) (kMachine_ok.olt ho)
          obtain ⟨ea0_995, ecap0_995, ea1_995, ecap1_995, rfl, _, _⟩ := Machine_rd hrd
          change e = .returned (.agg #[.slice ea0_995 a1.1.length ecap0_995, .slice ea1_995 a1.2.length ecap1_995]) at he
          subst he
          have hrd2 := kMachine_ok.ord ho (B := w_27.heap.size) (kMachine_ok.olt ho)
          have OW_996 := Lib.hid ho; have HN_999 := Lib.hid hnd
          have HL_997 : Hid (∀ b ∈ fp_995, w_23.heap.size + 1 ≤ b) := Lib.hid fun b hm => by have := hge b hm; first | omega | (simp at this; omega)
          have HH_998 : Hid (∀ b ∈ fp_995, b < w_27.heap.size) := Lib.hid (kMachine_ok.olt ho)
          have RD_1000 := Lib.hid hrd2; clear ho hnd hge hrd2 hrd
          have hb_1001 := hb; clear hb
          have hz_1002 : w_23.heap.size + 1 ≤ w_27.heap.size := by have := (hb_1001).size; first | omega | (simp at this; omega)
          have HB_1003 := Lib.hid (box2_step HB_966.out hb_1001)
          have hz_1004 : w.heap.size + 2 ≤ w_27.heap.size := Nat.le_trans hz_967 hz_1002
          have c_1005 : w_27.cell? ⟨w.heap.size, 0, none⟩ = some (.slice ea0_0 a0.1.length ecap0_0) := below_later (hb_1001) c_968; clear c_968
          have c_1006 : w_27.cell? ⟨w.heap.size, 1, none⟩ = some (.slice ea0_1 a0.2.length ecap0_1) := below_later (hb_1001) c_969; clear c_969
          have c_1007 : w_27.cell? ⟨w.heap.size + 1, 0, none⟩ = some (.slice ea1_0 a1.1.length ecap1_0) := below_later (hb_1001) c_970; clear c_970
          have c_1008 : w_27.cell? ⟨w.heap.size + 1, 1, none⟩ = some (.slice ea1_1 a1.2.length ecap1_1) := below_later (hb_1001) c_971; clear c_971
          have c_1009 : w_27.cell? ⟨B8, 0, none⟩ = some (.slice ec0_8 r0.1.length cc0_8) := below_later (hb_1001) c_972; clear c_972
          have c_1010 : w_27.cell? ⟨B8, 1, none⟩ = some (.slice ec1_8 r0.2.length cc1_8) := below_later (hb_1001) c_973; clear c_973
          have c_1011 : w_27.cell? ⟨w_10.heap.size, 0, none⟩ = some (.slice ea0_279 a0.1.length ecap0_279) := below_later (hb_1001) c_974; clear c_974
          have c_1012 : w_27.cell? ⟨w_10.heap.size, 1, none⟩ = some (.slice ea1_279 a0.2.length ecap1_279) := below_later (hb_1001) c_975; clear c_975
          have c_1013 : w_27.cell? ⟨w_11.heap.size, 0, none⟩ = some (.slice ea0_314 a1.1.length ecap0_314) := below_later (hb_1001) c_976; clear c_976
          have c_1014 : w_27.cell? ⟨w_11.heap.size, 1, none⟩ = some (.slice ea1_314 a1.2.length ecap1_314) := below_later (hb_1001) c_977; clear c_977
          have c_1015 : w_27.cell? ⟨w_12.heap.size, 0, none⟩ = some (.slice ea0_357 r0.1.length ecap0_357) := below_later (hb_1001) c_978; clear c_978
          have c_1016 : w_27.cell? ⟨w_12.heap.size, 1, none⟩ = some (.slice ea1_357 r0.2.length ecap1_357) := below_later (hb_1001) c_979; clear c_979
          have c_1017 : w_27.cell? ⟨w_23.heap.size, 0, none⟩ = some (Value.slice none 0 0) := below_later (hb_1001) c_991; clear c_991
          have c_1018 : w_27.cell? ⟨w_23.heap.size, 1, none⟩ = some (Value.slice none 0 0) := below_later (hb_1001) c_992; clear c_992
          have f_1019 : w_27.frozen? ⟨w_23.heap.size, 0, none⟩ = false := (Below.frozen (hb_1001) (p := ⟨w_23.heap.size, 0, none⟩) (by show w_23.heap.size < _; first | omega | (simp; done) | (simp; omega))).trans f_993; clear f_993
          have f_1020 : w_27.frozen? ⟨w_23.heap.size, 1, none⟩ = false := (Below.frozen (hb_1001) (p := ⟨w_23.heap.size, 1, none⟩) (by show w_23.heap.size < _; first | omega | (simp; done) | (simp; omega))).trans f_994; clear f_994
          have RD_1021 := Lib.hid (kMachine_ok.rbelow RD_980.out (Below.mono (hb_1001) (by first | omega | (simp; done) | (simp; omega)))); clear RD_980
          have hz_1022 : wc8.heap.size ≤ w_27.heap.size := Nat.le_trans hz_981 hz_1002
          have RD_1023 := Lib.hid (kMachine_ok.rbelow RD_982.out (Below.mono (hb_1001) (by first | omega | (simp; done) | (simp; omega)))); clear RD_982
          have hz_1024 : w_23.heap.size ≤ w_27.heap.size := Nat.le_trans hz_983 hz_1002
          have OW_1025 := Lib.hid (kMachine_ok.oframe OW_984.out (w' := w_27) fun b hm => (hb_1001).block b (kMachine_ok.olt OW_984.out b hm)); clear OW_984
          have hz_1026 : w_10.heap.size ≤ w_27.heap.size := Nat.le_trans hz_985 hz_1002
          have OW_1027 := Lib.hid (kMachine_ok.oframe OW_986.out (w' := w_27) fun b hm => (hb_1001).block b (kMachine_ok.olt OW_986.out b hm)); clear OW_986
          have hz_1028 : w_11.heap.size ≤ w_27.heap.size := Nat.le_trans hz_987 hz_1002
          have OW_1029 := Lib.hid (kMachine_ok.oframe OW_988.out (w' := w_27) fun b hm => (hb_1001).block b (kMachine_ok.olt OW_988.out b hm)); clear OW_988
          have hz_1030 : w_12.heap.size ≤ w_27.heap.size := Nat.le_trans hz_989 hz_1002
          have HBLAST := Lib.hid hb_1001
          have HQ := Lib.hid hb_1001; clear hb_1001 HQ
          have hz_1031 : w_27.heap.size ≤ w_27.heap.size := Nat.le_refl _
          have HBASE_1032 := Lib.hid (rstep HBASE_990.out HBLAST.out); clear HBLAST
          refine hK.out _ _ (Or.inl (by kernel_rfl)) (fun _ => ?_)
          clear hK K
          try simp only [Act.put, List.setIfInBounds_toArray, List.set_cons_zero, List.set_cons_succ]
          refine wpG_one (i := 4) (o := { dst := some 99, op := Go.Op.call { callee := Go.Callee.value (Go.Operand.func 23), args := #[Go.Operand.tmp 96, Go.Operand.tmp 98], argTypes := #[28, 28] }, type := 35, pos := "exact.go:3683", after := #[{ on := 1, ground := Go.Ground.data }, { on := 3, ground := Go.Ground.data }, { on := 3, ground := Go.Ground.chain }], guard := none }) rfl (by kernel_rfl) (fun K hK => ?_)
          go_simp
          refine (HI.out _ [.slice ea0_754 a0.1.length ecap0_754, .slice ea1_754 a0.2.length ecap1_754] [.slice ea0_995 a1.1.length ecap0_995, .slice ea1_995 a1.2.length ecap1_995] (kMachine_ok.rmono RD_1023.out (by first | omega | (simp; done) | (simp; omega))) (kMachine_ok.rmono RD_1000.out (by first | omega | (simp; done) | (simp; omega)))).mono ?_
          rintro e w_28 ⟨cs_1033, fp_1033, he, ho, hnd, hge, hb⟩
          have hrd := kMachine_ok.ord ho (B := w_28.heap.size) (kMachine_ok.olt ho)
          obtain ⟨ea0_1033, ecap0_1033, ea1_1033, ecap1_1033, rfl⟩ : ∃ ea0_1033 ecap0_1033 ea1_1033 ecap1_1033, cs_1033 = [.slice ea0_1033 r0.1.length ecap0_1033, .slice ea1_1033 r0.2.length ecap1_1033] := by
            obtain ⟨ea0_1033, ecap0_1033, ea1_1033, ecap1_1033, h, _⟩ := Machine_rd hrd
            exact ⟨ea0_1033, ecap0_1033, ea1_1033, ecap1_1033, h⟩
          change e = .returned (.tuple #[(.agg #[.slice ea0_1033 r0.1.length ecap0_1033, .slice ea1_1033 r0.2.length ecap1_1033]), (.bool r1)]) at he
          subst he
          have RD_1034 := Lib.hid hrd; clear hrd
          have OW_1035 := Lib.hid ho; have HN_1038 := Lib.hid hnd
          have HL_1036 : Hid (∀ b ∈ fp_1033, w_27.heap.size ≤ b) := Lib.hid fun b hm => by have := hge b hm; first | omega | (simp at this; omega)
          have HH_1037 : Hid (∀ b ∈ fp_1033, b < w_28.heap.size) := Lib.hid (kMachine_ok.olt ho)
          clear ho hnd hge
          have hb_1039 := hb; clear hb
          have hz_1040 : w_27.heap.size ≤ w_28.heap.size := by have := (hb_1039).size; first | omega | (simp at this; omega)
          have HB_1041 := Lib.hid (box2_step HB_1003.out hb_1039)
          have hz_1042 : w.heap.size + 2 ≤ w_28.heap.size := Nat.le_trans hz_1004 hz_1040
          have c_1043 : w_28.cell? ⟨w.heap.size, 0, none⟩ = some (.slice ea0_0 a0.1.length ecap0_0) := below_later (hb_1039) c_1005; clear c_1005
          have c_1044 : w_28.cell? ⟨w.heap.size, 1, none⟩ = some (.slice ea0_1 a0.2.length ecap0_1) := below_later (hb_1039) c_1006; clear c_1006
          have c_1045 : w_28.cell? ⟨w.heap.size + 1, 0, none⟩ = some (.slice ea1_0 a1.1.length ecap1_0) := below_later (hb_1039) c_1007; clear c_1007
          have c_1046 : w_28.cell? ⟨w.heap.size + 1, 1, none⟩ = some (.slice ea1_1 a1.2.length ecap1_1) := below_later (hb_1039) c_1008; clear c_1008
          have c_1047 : w_28.cell? ⟨B8, 0, none⟩ = some (.slice ec0_8 r0.1.length cc0_8) := below_later (hb_1039) c_1009; clear c_1009
          have c_1048 : w_28.cell? ⟨B8, 1, none⟩ = some (.slice ec1_8 r0.2.length cc1_8) := below_later (hb_1039) c_1010; clear c_1010
          have c_1049 : w_28.cell? ⟨w_10.heap.size, 0, none⟩ = some (.slice ea0_279 a0.1.length ecap0_279) := below_later (hb_1039) c_1011; clear c_1011
          have c_1050 : w_28.cell? ⟨w_10.heap.size, 1, none⟩ = some (.slice ea1_279 a0.2.length ecap1_279) := below_later (hb_1039) c_1012; clear c_1012
          have c_1051 : w_28.cell? ⟨w_11.heap.size, 0, none⟩ = some (.slice ea0_314 a1.1.length ecap0_314) := below_later (hb_1039) c_1013; clear c_1013
          have c_1052 : w_28.cell? ⟨w_11.heap.size, 1, none⟩ = some (.slice ea1_314 a1.2.length ecap1_314) := below_later (hb_1039) c_1014; clear c_1014
          have c_1053 : w_28.cell? ⟨w_12.heap.size, 0, none⟩ = some (.slice ea0_357 r0.1.length ecap0_357) := below_later (hb_1039) c_1015; clear c_1015
          have c_1054 : w_28.cell? ⟨w_12.heap.size, 1, none⟩ = some (.slice ea1_357 r0.2.length ecap1_357) := below_later (hb_1039) c_1016; clear c_1016
          have c_1055 : w_28.cell? ⟨w_23.heap.size, 0, none⟩ = some (Value.slice none 0 0) := below_later (hb_1039) c_1017; clear c_1017
          have c_1056 : w_28.cell? ⟨w_23.heap.size, 1, none⟩ = some (Value.slice none 0 0) := below_later (hb_1039) c_1018; clear c_1018
          have f_1057 : w_28.frozen? ⟨w_23.heap.size, 0, none⟩ = false := (Below.frozen (hb_1039) (p := ⟨w_23.heap.size, 0, none⟩) (by show w_23.heap.size < _; first | omega | (simp; done) | (simp; omega))).trans f_1019; clear f_1019
          have f_1058 : w_28.frozen? ⟨w_23.heap.size, 1, none⟩ = false := (Below.frozen (hb_1039) (p := ⟨w_23.heap.size, 1, none⟩) (by show w_23.heap.size < _; first | omega | (simp; done) | (simp; omega))).trans f_1020; clear f_1020
          have RD_1059 := Lib.hid (kMachine_ok.rbelow RD_1021.out (Below.mono (hb_1039) (by first | omega | (simp; done) | (simp; omega)))); clear RD_1021
          have hz_1060 : wc8.heap.size ≤ w_28.heap.size := Nat.le_trans hz_1022 hz_1040
          have RD_1061 := Lib.hid (kMachine_ok.rbelow RD_1023.out (Below.mono (hb_1039) (by first | omega | (simp; done) | (simp; omega)))); clear RD_1023
          have hz_1062 : w_23.heap.size ≤ w_28.heap.size := Nat.le_trans hz_1024 hz_1040
          have RD_1063 := Lib.hid (kMachine_ok.rbelow RD_1000.out (Below.mono (hb_1039) (by first | omega | (simp; done) | (simp; omega)))); clear RD_1000
          have hz_1064 : w_27.heap.size ≤ w_28.heap.size := Nat.le_trans hz_1031 hz_1040
          have OW_1065 := Lib.hid (kMachine_ok.oframe OW_1025.out (w' := w_28) fun b hm => (hb_1039).block b (kMachine_ok.olt OW_1025.out b hm)); clear OW_1025
          have hz_1066 : w_10.heap.size ≤ w_28.heap.size := Nat.le_trans hz_1026 hz_1040
          have OW_1067 := Lib.hid (kMachine_ok.oframe OW_1027.out (w' := w_28) fun b hm => (hb_1039).block b (kMachine_ok.olt OW_1027.out b hm)); clear OW_1027
          have hz_1068 : w_11.heap.size ≤ w_28.heap.size := Nat.le_trans hz_1028 hz_1040
          have OW_1069 := Lib.hid (kMachine_ok.oframe OW_1029.out (w' := w_28) fun b hm => (hb_1039).block b (kMachine_ok.olt OW_1029.out b hm)); clear OW_1029
          have hz_1070 : w_12.heap.size ≤ w_28.heap.size := Nat.le_trans hz_1030 hz_1040
          have HBLAST := Lib.hid hb_1039
          clear hb_1039
          have hz_1071 : w_28.heap.size ≤ w_28.heap.size := Nat.le_refl _
          have HBASE_1072 := Lib.hid (rstep HBASE_1032.out HBLAST.out); clear HBLAST
          refine hK.out _ _ (Or.inl (by kernel_rfl)) (fun _ => ?_)
          clear hK K
          try simp only [Act.put, List.setIfInBounds_toArray, List.set_cons_zero, List.set_cons_succ]
          refine wpG_pure (i := 5) (oi := { dst := some 94, op := Go.Op.move (Go.Operand.tmp 99), type := 35, pos := "exact.go:3683", after := #[{ on := 4, ground := Go.Ground.data }], guard := none }) (v := ?vg1204022) rfl (by kernel_rfl) (fun _ _ _ h => h) (Or.inl (by kernel_rfl)) (Or.inl ⟨by rfl, ?yg1204022⟩) ?_
          case yg1204022 => (intro wS _; go_simp <;> with_reducible rfl)
          try simp only [Act.put, List.setIfInBounds_toArray, List.set_cons_zero, List.set_cons_succ]
          refine wpG_pure (i := 6) (oi := { dst := some 100, op := Go.Op.extract (Go.Operand.tmp 94) 0, type := 28, pos := "exact.go:3683", after := #[{ on := 5, ground := Go.Ground.data }], guard := none }) (v := ?vg1204023) rfl (by kernel_rfl) (fun _ _ _ h => h) (Or.inl (by kernel_rfl)) (Or.inl ⟨by rfl, ?yg1204023⟩) ?_
          case yg1204023 => (intro wS _; go_simp <;> with_reducible rfl)
          try simp only [Act.put, List.setIfInBounds_toArray, List.set_cons_zero, List.set_cons_succ]
          refine wpG_pure (i := 7) (oi := { dst := some 101, op := Go.Op.extract (Go.Operand.tmp 94) 1, type := 4, pos := "exact.go:3683", after := #[{ on := 5, ground := Go.Ground.data }, { on := 9, ground := Go.Ground.gcOnly Go.Departure.lateStores }], guard := none }) (v := ?vg1204024) rfl (by kernel_rfl) (fun _ _ _ h => h) (Or.inl (by kernel_rfl)) (Or.inl ⟨by rfl, ?yg1204024⟩) ?_
          case yg1204024 => (intro wS _; go_simp <;> with_reducible rfl)
          try simp only [Act.put, List.setIfInBounds_toArray, List.set_cons_zero, List.set_cons_succ]
          refine wpG_one (i := 9) (o := { dst := none, op := Go.Op.store 28 (Go.Operand.tmp 15) (Go.Operand.tmp 100), type := 0, pos := "exact.go:3683", after := #[{ on := 8, ground := Go.Ground.data }, { on := 6, ground := Go.Ground.data }, { on := 4, ground := Go.Ground.chain }, { on := 0, ground := Go.Ground.phase }, { on := 1, ground := Go.Ground.phase }, { on := 2, ground := Go.Ground.phase }, { on := 3, ground := Go.Ground.phase }, { on := 4, ground := Go.Ground.phase }, { on := 5, ground := Go.Ground.phase }, { on := 6, ground := Go.Ground.phase }, { on := 7, ground := Go.Ground.textOnly Go.Departure.lateStores }, { on := 8, ground := Go.Ground.phase }], guard := none }) rfl (by kernel_rfl) (fun K hK => ?_)
          go_simp
          refine hK.out _ _ (Or.inl (by kernel_rfl)) (fun _ => ?_)
          clear hK K
          try simp only [Act.put, List.setIfInBounds_toArray, List.set_cons_zero, List.set_cons_succ]
          refine wpG_pure (i := 10) (oi := { dst := some 16, op := Go.Op.assign (Go.Operand.tmp 101), type := 4, pos := "exact.go:3683", after := #[{ on := 7, ground := Go.Ground.data }, { on := 9, ground := Go.Ground.chain }, { on := 0, ground := Go.Ground.phase }, { on := 1, ground := Go.Ground.phase }, { on := 2, ground := Go.Ground.phase }, { on := 3, ground := Go.Ground.phase }, { on := 4, ground := Go.Ground.phase }, { on := 5, ground := Go.Ground.phase }, { on := 6, ground := Go.Ground.phase }, { on := 7, ground := Go.Ground.phase }, { on := 8, ground := Go.Ground.phase }, { on := 9, ground := Go.Ground.phase }], guard := none }) (v := ?vg1204026) rfl (by kernel_rfl) (fun _ _ _ h => h) (Or.inl (by kernel_rfl)) (Or.inl ⟨by rfl, ?yg1204026⟩) ?_
          case yg1204026 => (intro wS _; go_simp <;> with_reducible rfl)
          try simp only [Act.put, List.setIfInBounds_toArray, List.set_cons_zero, List.set_cons_succ]
          refine wpG_done (by kernel_rfl) ?_
          go_wp2_with fail
          go_meet
          have hrdf : kMachine.rd ((w_28.setCell ⟨w_23.heap.size, 0, none⟩ (.slice ea0_1033 r0.1.length ecap0_1033)).setCell ⟨w_23.heap.size, 1, none⟩ (.slice ea1_1033 r0.2.length ecap1_1033)).heap.size ((w_28.setCell ⟨w_23.heap.size, 0, none⟩ (.slice ea0_1033 r0.1.length ecap0_1033)).setCell ⟨w_23.heap.size, 1, none⟩ (.slice ea1_1033 r0.2.length ecap1_1033)) [.slice ea0_1033 r0.1.length ecap0_1033, .slice ea1_1033 r0.2.length ecap1_1033] r0 := kMachine_ok.ord (kMachine_ok.oframe OW_1035.out (fun b hm => by rw [Below.heap_setCell _ _ _ _ (by show b ≠ w_23.heap.size; have := HL_1036.out b hm; omega), Below.heap_setCell _ _ _ _ (by show b ≠ w_23.heap.size; have := HL_1036.out b hm; omega)])) (fun b hm => by have := HH_1037.out b hm; first | omega | (simp; done) | (simp; omega))
          have hbf : Below w_22.heap.size w_22 ((w_28.setCell ⟨w_23.heap.size, 0, none⟩ (.slice ea0_1033 r0.1.length ecap0_1033)).setCell ⟨w_23.heap.size, 1, none⟩ (.slice ea1_1033 r0.2.length ecap1_1033)) := ((HBASE_1072.out.setCell (p := ⟨w_23.heap.size, 0, none⟩) (by show w_22.heap.size ≤ w_23.heap.size; omega) _).setCell (p := ⟨w_23.heap.size, 1, none⟩) (by show w_22.heap.size ≤ w_23.heap.size; omega) _)
          exact ⟨_, _, _, _, _, rfl, rfl, Lib.hid ⟨by go_simp, by go_simp, hrdf, hbf, by first | omega | (simp; done) | (simp; omega), by first | omega | (simp; done) | (simp; omega)⟩⟩
      · skip
        go_simp
        have hb_1073 : Below w_22.drew.heap.size w_22.drew (w_22.alloc (.cells #[Value.slice none 0 0, Value.slice none 0 0] 28)).drew := below_alloc_drew _ _
        have hz_1074 : w_22.heap.size ≤ w_22.heap.size + 1 := by have := (hb_1073).size; first | omega | (simp at this; omega)
        have HB_1075 := Lib.hid (box2_step HB_731.out hb_1073)
        have hz_1076 : w.heap.size + 2 ≤ w_22.heap.size + 1 := Nat.le_trans hz_732 hz_1074
        have c_1077 : (w_22.alloc (.cells #[Value.slice none 0 0, Value.slice none 0 0] 28)).drew.cell? ⟨w.heap.size, 0, none⟩ = some (.slice ea0_0 a0.1.length ecap0_0) := below_later (hb_1073) c_733; clear c_733
        have c_1078 : (w_22.alloc (.cells #[Value.slice none 0 0, Value.slice none 0 0] 28)).drew.cell? ⟨w.heap.size, 1, none⟩ = some (.slice ea0_1 a0.2.length ecap0_1) := below_later (hb_1073) c_734; clear c_734
        have c_1079 : (w_22.alloc (.cells #[Value.slice none 0 0, Value.slice none 0 0] 28)).drew.cell? ⟨w.heap.size + 1, 0, none⟩ = some (.slice ea1_0 a1.1.length ecap1_0) := below_later (hb_1073) c_735; clear c_735
        have c_1080 : (w_22.alloc (.cells #[Value.slice none 0 0, Value.slice none 0 0] 28)).drew.cell? ⟨w.heap.size + 1, 1, none⟩ = some (.slice ea1_1 a1.2.length ecap1_1) := below_later (hb_1073) c_736; clear c_736
        have c_1081 : (w_22.alloc (.cells #[Value.slice none 0 0, Value.slice none 0 0] 28)).drew.cell? ⟨B8, 0, none⟩ = some (.slice ec0_8 r0.1.length cc0_8) := below_later (hb_1073) c_737; clear c_737
        have c_1082 : (w_22.alloc (.cells #[Value.slice none 0 0, Value.slice none 0 0] 28)).drew.cell? ⟨B8, 1, none⟩ = some (.slice ec1_8 r0.2.length cc1_8) := below_later (hb_1073) c_738; clear c_738
        have c_1083 : (w_22.alloc (.cells #[Value.slice none 0 0, Value.slice none 0 0] 28)).drew.cell? ⟨w_10.heap.size, 0, none⟩ = some (.slice ea0_279 a0.1.length ecap0_279) := below_later (hb_1073) c_739; clear c_739
        have c_1084 : (w_22.alloc (.cells #[Value.slice none 0 0, Value.slice none 0 0] 28)).drew.cell? ⟨w_10.heap.size, 1, none⟩ = some (.slice ea1_279 a0.2.length ecap1_279) := below_later (hb_1073) c_740; clear c_740
        have c_1085 : (w_22.alloc (.cells #[Value.slice none 0 0, Value.slice none 0 0] 28)).drew.cell? ⟨w_11.heap.size, 0, none⟩ = some (.slice ea0_314 a1.1.length ecap0_314) := below_later (hb_1073) c_741; clear c_741
        have c_1086 : (w_22.alloc (.cells #[Value.slice none 0 0, Value.slice none 0 0] 28)).drew.cell? ⟨w_11.heap.size, 1, none⟩ = some (.slice ea1_314 a1.2.length ecap1_314) := below_later (hb_1073) c_742; clear c_742
        have c_1087 : (w_22.alloc (.cells #[Value.slice none 0 0, Value.slice none 0 0] 28)).drew.cell? ⟨w_12.heap.size, 0, none⟩ = some (.slice ea0_357 r0.1.length ecap0_357) := below_later (hb_1073) c_743; clear c_743
        have c_1088 : (w_22.alloc (.cells #[Value.slice none 0 0, Value.slice none 0 0] 28)).drew.cell? ⟨w_12.heap.size, 1, none⟩ = some (.slice ea1_357 r0.2.length ecap1_357) := below_later (hb_1073) c_744; clear c_744
        have RD_1089 := Lib.hid (kMachine_ok.rbelow RD_745.out (Below.mono (hb_1073) (by first | omega | (simp; done) | (simp; omega)))); clear RD_745
        have hz_1090 : wc8.heap.size ≤ w_22.heap.size + 1 := Nat.le_trans hz_746 hz_1074
        have OW_1091 := Lib.hid (kMachine_ok.oframe OW_747.out (w' := (w_22.alloc (.cells #[Value.slice none 0 0, Value.slice none 0 0] 28)).drew) fun b hm => (hb_1073).block b (kMachine_ok.olt OW_747.out b hm)); clear OW_747
        have hz_1092 : w_10.heap.size ≤ w_22.heap.size + 1 := Nat.le_trans hz_748 hz_1074
        have OW_1093 := Lib.hid (kMachine_ok.oframe OW_749.out (w' := (w_22.alloc (.cells #[Value.slice none 0 0, Value.slice none 0 0] 28)).drew) fun b hm => (hb_1073).block b (kMachine_ok.olt OW_749.out b hm)); clear OW_749
        have hz_1094 : w_11.heap.size ≤ w_22.heap.size + 1 := Nat.le_trans hz_750 hz_1074
        have OW_1095 := Lib.hid (kMachine_ok.oframe OW_751.out (w' := (w_22.alloc (.cells #[Value.slice none 0 0, Value.slice none 0 0] 28)).drew) fun b hm => (hb_1073).block b (kMachine_ok.olt OW_751.out b hm)); clear OW_751
        have hz_1096 : w_12.heap.size ≤ w_22.heap.size + 1 := Nat.le_trans hz_752 hz_1074
        have HBASE_1097 := Lib.hid (rstep HBASE_753.out hb_1073); clear hb_1073
        have c_1098 : (w_22.alloc (.cells #[Value.slice none 0 0, Value.slice none 0 0] 28)).drew.cell? ⟨w_22.heap.size, 0, none⟩ = some (Value.slice none 0 0) := by go_simp
        have c_1099 : (w_22.alloc (.cells #[Value.slice none 0 0, Value.slice none 0 0] 28)).drew.cell? ⟨w_22.heap.size, 1, none⟩ = some (Value.slice none 0 0) := by go_simp
        have f_1100 : (w_22.alloc (.cells #[Value.slice none 0 0, Value.slice none 0 0] 28)).drew.frozen? ⟨w_22.heap.size, 0, none⟩ = false := by go_simp
        have f_1101 : (w_22.alloc (.cells #[Value.slice none 0 0, Value.slice none 0 0] 28)).drew.frozen? ⟨w_22.heap.size, 1, none⟩ = false := by go_simp
        refine hK.out _ _ (Or.inr ?khHeld1204027) (fun hHeld1204027S => ?_)
        case khHeld1204027 => exact ⟨c_1077, c_1078, c_1079, c_1080⟩
        have hHeld1204027 := hHeld1204027S.held (by kernel_rfl)
        clear hK K
        try simp only [Act.put, List.setIfInBounds_toArray, List.set_cons_zero, List.set_cons_succ]
        refine wpG_one (i := 1) (o := { dst := some 96, op := Go.Op.call { callee := Go.Callee.value (Go.Operand.func 13), args := #[Go.Operand.tmp 95], argTypes := #[25] }, type := 28, pos := "exact.go:3683", after := #[{ on := 0, ground := Go.Ground.data }], guard := none }) rfl (by kernel_rfl) (fun K hK => ?_)
        go_simp
        refine (HTO0.out _ (box2_below HB_1075.out)).mono ?_
        rintro e w_29 ⟨cs_1102, fp_1102, he, ho, hnd, hge, hb⟩
        have hrd := kMachine_ok.ord ho (B := w_29.heap.size) (kMachine_ok.olt ho)
        obtain ⟨ea0_1102, ecap0_1102, ea1_1102, ecap1_1102, rfl, _, _⟩ := Machine_rd hrd
        change e = .returned (.agg #[.slice ea0_1102 a0.1.length ecap0_1102, .slice ea1_1102 a0.2.length ecap1_1102]) at he
        subst he
        have hrd2 := kMachine_ok.ord ho (B := w_29.heap.size) (kMachine_ok.olt ho)
        have OW_1103 := Lib.hid ho; have HN_1106 := Lib.hid hnd
        have HL_1104 : Hid (∀ b ∈ fp_1102, w_22.heap.size + 1 ≤ b) := Lib.hid fun b hm => by have := hge b hm; first | omega | (simp at this; omega)
        have HH_1105 : Hid (∀ b ∈ fp_1102, b < w_29.heap.size) := Lib.hid (kMachine_ok.olt ho)
        have RD_1107 := Lib.hid hrd2; clear ho hnd hge hrd2 hrd
        have hb_1108 := hb; clear hb
        have hz_1109 : w_22.heap.size + 1 ≤ w_29.heap.size := by have := (hb_1108).size; first | omega | (simp at this; omega)
        have HB_1110 := Lib.hid (box2_step HB_1075.out hb_1108)
        have hz_1111 : w.heap.size + 2 ≤ w_29.heap.size := Nat.le_trans hz_1076 hz_1109
        have c_1112 : w_29.cell? ⟨w.heap.size, 0, none⟩ = some (.slice ea0_0 a0.1.length ecap0_0) := below_later (hb_1108) c_1077; clear c_1077
        have c_1113 : w_29.cell? ⟨w.heap.size, 1, none⟩ = some (.slice ea0_1 a0.2.length ecap0_1) := below_later (hb_1108) c_1078; clear c_1078
        have c_1114 : w_29.cell? ⟨w.heap.size + 1, 0, none⟩ = some (.slice ea1_0 a1.1.length ecap1_0) := below_later (hb_1108) c_1079; clear c_1079
        have c_1115 : w_29.cell? ⟨w.heap.size + 1, 1, none⟩ = some (.slice ea1_1 a1.2.length ecap1_1) := below_later (hb_1108) c_1080; clear c_1080
        have c_1116 : w_29.cell? ⟨B8, 0, none⟩ = some (.slice ec0_8 r0.1.length cc0_8) := below_later (hb_1108) c_1081; clear c_1081
        have c_1117 : w_29.cell? ⟨B8, 1, none⟩ = some (.slice ec1_8 r0.2.length cc1_8) := below_later (hb_1108) c_1082; clear c_1082
        have c_1118 : w_29.cell? ⟨w_10.heap.size, 0, none⟩ = some (.slice ea0_279 a0.1.length ecap0_279) := below_later (hb_1108) c_1083; clear c_1083
        have c_1119 : w_29.cell? ⟨w_10.heap.size, 1, none⟩ = some (.slice ea1_279 a0.2.length ecap1_279) := below_later (hb_1108) c_1084; clear c_1084
        have c_1120 : w_29.cell? ⟨w_11.heap.size, 0, none⟩ = some (.slice ea0_314 a1.1.length ecap0_314) := below_later (hb_1108) c_1085; clear c_1085
        have c_1121 : w_29.cell? ⟨w_11.heap.size, 1, none⟩ = some (.slice ea1_314 a1.2.length ecap1_314) := below_later (hb_1108) c_1086; clear c_1086
        have c_1122 : w_29.cell? ⟨w_12.heap.size, 0, none⟩ = some (.slice ea0_357 r0.1.length ecap0_357) := below_later (hb_1108) c_1087; clear c_1087
        have c_1123 : w_29.cell? ⟨w_12.heap.size, 1, none⟩ = some (.slice ea1_357 r0.2.length ecap1_357) := below_later (hb_1108) c_1088; clear c_1088
        have c_1124 : w_29.cell? ⟨w_22.heap.size, 0, none⟩ = some (Value.slice none 0 0) := below_later (hb_1108) c_1098; clear c_1098
        have c_1125 : w_29.cell? ⟨w_22.heap.size, 1, none⟩ = some (Value.slice none 0 0) := below_later (hb_1108) c_1099; clear c_1099
        have f_1126 : w_29.frozen? ⟨w_22.heap.size, 0, none⟩ = false := (Below.frozen (hb_1108) (p := ⟨w_22.heap.size, 0, none⟩) (by show w_22.heap.size < _; first | omega | (simp; done) | (simp; omega))).trans f_1100; clear f_1100
        have f_1127 : w_29.frozen? ⟨w_22.heap.size, 1, none⟩ = false := (Below.frozen (hb_1108) (p := ⟨w_22.heap.size, 1, none⟩) (by show w_22.heap.size < _; first | omega | (simp; done) | (simp; omega))).trans f_1101; clear f_1101
        have RD_1128 := Lib.hid (kMachine_ok.rbelow RD_1089.out (Below.mono (hb_1108) (by first | omega | (simp; done) | (simp; omega)))); clear RD_1089
        have hz_1129 : wc8.heap.size ≤ w_29.heap.size := Nat.le_trans hz_1090 hz_1109
        have OW_1130 := Lib.hid (kMachine_ok.oframe OW_1091.out (w' := w_29) fun b hm => (hb_1108).block b (kMachine_ok.olt OW_1091.out b hm)); clear OW_1091
        have hz_1131 : w_10.heap.size ≤ w_29.heap.size := Nat.le_trans hz_1092 hz_1109
        have OW_1132 := Lib.hid (kMachine_ok.oframe OW_1093.out (w' := w_29) fun b hm => (hb_1108).block b (kMachine_ok.olt OW_1093.out b hm)); clear OW_1093
        have hz_1133 : w_11.heap.size ≤ w_29.heap.size := Nat.le_trans hz_1094 hz_1109
        have OW_1134 := Lib.hid (kMachine_ok.oframe OW_1095.out (w' := w_29) fun b hm => (hb_1108).block b (kMachine_ok.olt OW_1095.out b hm)); clear OW_1095
        have hz_1135 : w_12.heap.size ≤ w_29.heap.size := Nat.le_trans hz_1096 hz_1109
        have HBLAST := Lib.hid hb_1108
        have HQ := Lib.hid hb_1108; clear hb_1108 HQ
        have hz_1136 : w_29.heap.size ≤ w_29.heap.size := Nat.le_refl _
        have HBASE_1137 := Lib.hid (rstep HBASE_1097.out HBLAST.out); clear HBLAST
        refine hK.out _ _ (Or.inr ?khHeld1204028) (fun hHeld1204028S => ?_)
        case khHeld1204028 => exact ⟨c_1112, c_1113, c_1114, c_1115⟩
        have hHeld1204028 := hHeld1204028S.held (by kernel_rfl)
        clear hK K
        try simp only [Act.put, List.setIfInBounds_toArray, List.set_cons_zero, List.set_cons_succ]
        refine wpG_one (i := 3) (o := { dst := some 98, op := Go.Op.call { callee := Go.Callee.value (Go.Operand.func 13), args := #[Go.Operand.tmp 97], argTypes := #[25] }, type := 28, pos := "exact.go:3683", after := #[{ on := 2, ground := Go.Ground.data }, { on := 1, ground := Go.Ground.chain }], guard := none }) rfl (by kernel_rfl) (fun K hK => ?_)
        go_simp
        refine (HTO1.out _ (box2_below HB_1110.out)).mono ?_
        rintro e w_30 ⟨cs_1138, fp_1138, he, ho, hnd, hge, hb⟩
        have hrd := kMachine_ok.ord ho (B := w_30.heap.size) (kMachine_ok.olt ho)
        obtain ⟨ea0_1138, ecap0_1138, ea1_1138, ecap1_1138, rfl, _, _⟩ := Machine_rd hrd
        change e = .returned (.agg #[.slice ea0_1138 a1.1.length ecap0_1138, .slice ea1_1138 a1.2.length ecap1_1138]) at he
        subst he
        have hrd2 := kMachine_ok.ord ho (B := w_30.heap.size) (kMachine_ok.olt ho)
        have OW_1139 := Lib.hid ho; have HN_1142 := Lib.hid hnd
        have HL_1140 : Hid (∀ b ∈ fp_1138, w_29.heap.size ≤ b) := Lib.hid fun b hm => by have := hge b hm; first | omega | (simp at this; omega)
        have HH_1141 : Hid (∀ b ∈ fp_1138, b < w_30.heap.size) := Lib.hid (kMachine_ok.olt ho)
        have RD_1143 := Lib.hid hrd2; clear ho hnd hge hrd2 hrd
        have hb_1144 := hb; clear hb
        have hz_1145 : w_29.heap.size ≤ w_30.heap.size := by have := (hb_1144).size; first | omega | (simp at this; omega)
        have HB_1146 := Lib.hid (box2_step HB_1110.out hb_1144)
        have hz_1147 : w.heap.size + 2 ≤ w_30.heap.size := Nat.le_trans hz_1111 hz_1145
        have c_1148 : w_30.cell? ⟨w.heap.size, 0, none⟩ = some (.slice ea0_0 a0.1.length ecap0_0) := below_later (hb_1144) c_1112; clear c_1112
        have c_1149 : w_30.cell? ⟨w.heap.size, 1, none⟩ = some (.slice ea0_1 a0.2.length ecap0_1) := below_later (hb_1144) c_1113; clear c_1113
        have c_1150 : w_30.cell? ⟨w.heap.size + 1, 0, none⟩ = some (.slice ea1_0 a1.1.length ecap1_0) := below_later (hb_1144) c_1114; clear c_1114
        have c_1151 : w_30.cell? ⟨w.heap.size + 1, 1, none⟩ = some (.slice ea1_1 a1.2.length ecap1_1) := below_later (hb_1144) c_1115; clear c_1115
        have c_1152 : w_30.cell? ⟨B8, 0, none⟩ = some (.slice ec0_8 r0.1.length cc0_8) := below_later (hb_1144) c_1116; clear c_1116
        have c_1153 : w_30.cell? ⟨B8, 1, none⟩ = some (.slice ec1_8 r0.2.length cc1_8) := below_later (hb_1144) c_1117; clear c_1117
        have c_1154 : w_30.cell? ⟨w_10.heap.size, 0, none⟩ = some (.slice ea0_279 a0.1.length ecap0_279) := below_later (hb_1144) c_1118; clear c_1118
        have c_1155 : w_30.cell? ⟨w_10.heap.size, 1, none⟩ = some (.slice ea1_279 a0.2.length ecap1_279) := below_later (hb_1144) c_1119; clear c_1119
        have c_1156 : w_30.cell? ⟨w_11.heap.size, 0, none⟩ = some (.slice ea0_314 a1.1.length ecap0_314) := below_later (hb_1144) c_1120; clear c_1120
        have c_1157 : w_30.cell? ⟨w_11.heap.size, 1, none⟩ = some (.slice ea1_314 a1.2.length ecap1_314) := below_later (hb_1144) c_1121; clear c_1121
        have c_1158 : w_30.cell? ⟨w_12.heap.size, 0, none⟩ = some (.slice ea0_357 r0.1.length ecap0_357) := below_later (hb_1144) c_1122; clear c_1122
        have c_1159 : w_30.cell? ⟨w_12.heap.size, 1, none⟩ = some (.slice ea1_357 r0.2.length ecap1_357) := below_later (hb_1144) c_1123; clear c_1123
        have c_1160 : w_30.cell? ⟨w_22.heap.size, 0, none⟩ = some (Value.slice none 0 0) := below_later (hb_1144) c_1124; clear c_1124
        have c_1161 : w_30.cell? ⟨w_22.heap.size, 1, none⟩ = some (Value.slice none 0 0) := below_later (hb_1144) c_1125; clear c_1125
        have f_1162 : w_30.frozen? ⟨w_22.heap.size, 0, none⟩ = false := (Below.frozen (hb_1144) (p := ⟨w_22.heap.size, 0, none⟩) (by show w_22.heap.size < _; first | omega | (simp; done) | (simp; omega))).trans f_1126; clear f_1126
        have f_1163 : w_30.frozen? ⟨w_22.heap.size, 1, none⟩ = false := (Below.frozen (hb_1144) (p := ⟨w_22.heap.size, 1, none⟩) (by show w_22.heap.size < _; first | omega | (simp; done) | (simp; omega))).trans f_1127; clear f_1127
        have RD_1164 := Lib.hid (kMachine_ok.rbelow RD_1128.out (Below.mono (hb_1144) (by first | omega | (simp; done) | (simp; omega)))); clear RD_1128
        have hz_1165 : wc8.heap.size ≤ w_30.heap.size := Nat.le_trans hz_1129 hz_1145
        have RD_1166 := Lib.hid (kMachine_ok.rbelow RD_1107.out (Below.mono (hb_1144) (by first | omega | (simp; done) | (simp; omega)))); clear RD_1107
        have hz_1167 : w_29.heap.size ≤ w_30.heap.size := Nat.le_trans hz_1136 hz_1145
        have OW_1168 := Lib.hid (kMachine_ok.oframe OW_1130.out (w' := w_30) fun b hm => (hb_1144).block b (kMachine_ok.olt OW_1130.out b hm)); clear OW_1130
        have hz_1169 : w_10.heap.size ≤ w_30.heap.size := Nat.le_trans hz_1131 hz_1145
        have OW_1170 := Lib.hid (kMachine_ok.oframe OW_1132.out (w' := w_30) fun b hm => (hb_1144).block b (kMachine_ok.olt OW_1132.out b hm)); clear OW_1132
        have hz_1171 : w_11.heap.size ≤ w_30.heap.size := Nat.le_trans hz_1133 hz_1145
        have OW_1172 := Lib.hid (kMachine_ok.oframe OW_1134.out (w' := w_30) fun b hm => (hb_1144).block b (kMachine_ok.olt OW_1134.out b hm)); clear OW_1134
        have hz_1173 : w_12.heap.size ≤ w_30.heap.size := Nat.le_trans hz_1135 hz_1145
        have HBLAST := Lib.hid hb_1144
        have HQ := Lib.hid hb_1144; clear hb_1144 HQ
        have hz_1174 : w_30.heap.size ≤ w_30.heap.size := Nat.le_refl _
        have HBASE_1175 := Lib.hid (rstep HBASE_1137.out HBLAST.out); clear HBLAST
        refine hK.out _ _ (Or.inl (by kernel_rfl)) (fun _ => ?_)
        clear hK K
        try simp only [Act.put, List.setIfInBounds_toArray, List.set_cons_zero, List.set_cons_succ]
        refine wpG_one (i := 4) (o := { dst := some 99, op := Go.Op.call { callee := Go.Callee.value (Go.Operand.func 23), args := #[Go.Operand.tmp 96, Go.Operand.tmp 98], argTypes := #[28, 28] }, type := 35, pos := "exact.go:3683", after := #[{ on := 1, ground := Go.Ground.data }, { on := 3, ground := Go.Ground.data }, { on := 3, ground := Go.Ground.chain }], guard := none }) rfl (by kernel_rfl) (fun K hK => ?_)
        go_simp
        refine (HI.out _ [.slice ea0_1102 a0.1.length ecap0_1102, .slice ea1_1102 a0.2.length ecap1_1102] [.slice ea0_1138 a1.1.length ecap0_1138, .slice ea1_1138 a1.2.length ecap1_1138] (kMachine_ok.rmono RD_1166.out (by first | omega | (simp; done) | (simp; omega))) (kMachine_ok.rmono RD_1143.out (by first | omega | (simp; done) | (simp; omega)))).mono ?_
        rintro e w_31 ⟨cs_1176, fp_1176, he, ho, hnd, hge, hb⟩
        have hrd := kMachine_ok.ord ho (B := w_31.heap.size) (kMachine_ok.olt ho)
        obtain ⟨ea0_1176, ecap0_1176, ea1_1176, ecap1_1176, rfl⟩ : ∃ ea0_1176 ecap0_1176 ea1_1176 ecap1_1176, cs_1176 = [.slice ea0_1176 r0.1.length ecap0_1176, .slice ea1_1176 r0.2.length ecap1_1176] := by
          obtain ⟨ea0_1176, ecap0_1176, ea1_1176, ecap1_1176, h, _⟩ := Machine_rd hrd
          exact ⟨ea0_1176, ecap0_1176, ea1_1176, ecap1_1176, h⟩
        change e = .returned (.tuple #[(.agg #[.slice ea0_1176 r0.1.length ecap0_1176, .slice ea1_1176 r0.2.length ecap1_1176]), (.bool r1)]) at he
        subst he
        have RD_1177 := Lib.hid hrd; clear hrd
        have OW_1178 := Lib.hid ho; have HN_1181 := Lib.hid hnd
        have HL_1179 : Hid (∀ b ∈ fp_1176, w_30.heap.size ≤ b) := Lib.hid fun b hm => by have := hge b hm; first | omega | (simp at this; omega)
        have HH_1180 : Hid (∀ b ∈ fp_1176, b < w_31.heap.size) := Lib.hid (kMachine_ok.olt ho)
        clear ho hnd hge
        have hb_1182 := hb; clear hb
        have hz_1183 : w_30.heap.size ≤ w_31.heap.size := by have := (hb_1182).size; first | omega | (simp at this; omega)
        have HB_1184 := Lib.hid (box2_step HB_1146.out hb_1182)
        have hz_1185 : w.heap.size + 2 ≤ w_31.heap.size := Nat.le_trans hz_1147 hz_1183
        have c_1186 : w_31.cell? ⟨w.heap.size, 0, none⟩ = some (.slice ea0_0 a0.1.length ecap0_0) := below_later (hb_1182) c_1148; clear c_1148
        have c_1187 : w_31.cell? ⟨w.heap.size, 1, none⟩ = some (.slice ea0_1 a0.2.length ecap0_1) := below_later (hb_1182) c_1149; clear c_1149
        have c_1188 : w_31.cell? ⟨w.heap.size + 1, 0, none⟩ = some (.slice ea1_0 a1.1.length ecap1_0) := below_later (hb_1182) c_1150; clear c_1150
        have c_1189 : w_31.cell? ⟨w.heap.size + 1, 1, none⟩ = some (.slice ea1_1 a1.2.length ecap1_1) := below_later (hb_1182) c_1151; clear c_1151
        have c_1190 : w_31.cell? ⟨B8, 0, none⟩ = some (.slice ec0_8 r0.1.length cc0_8) := below_later (hb_1182) c_1152; clear c_1152
        have c_1191 : w_31.cell? ⟨B8, 1, none⟩ = some (.slice ec1_8 r0.2.length cc1_8) := below_later (hb_1182) c_1153; clear c_1153
        have c_1192 : w_31.cell? ⟨w_10.heap.size, 0, none⟩ = some (.slice ea0_279 a0.1.length ecap0_279) := below_later (hb_1182) c_1154; clear c_1154
        have c_1193 : w_31.cell? ⟨w_10.heap.size, 1, none⟩ = some (.slice ea1_279 a0.2.length ecap1_279) := below_later (hb_1182) c_1155; clear c_1155
        have c_1194 : w_31.cell? ⟨w_11.heap.size, 0, none⟩ = some (.slice ea0_314 a1.1.length ecap0_314) := below_later (hb_1182) c_1156; clear c_1156
        have c_1195 : w_31.cell? ⟨w_11.heap.size, 1, none⟩ = some (.slice ea1_314 a1.2.length ecap1_314) := below_later (hb_1182) c_1157; clear c_1157
        have c_1196 : w_31.cell? ⟨w_12.heap.size, 0, none⟩ = some (.slice ea0_357 r0.1.length ecap0_357) := below_later (hb_1182) c_1158; clear c_1158
        have c_1197 : w_31.cell? ⟨w_12.heap.size, 1, none⟩ = some (.slice ea1_357 r0.2.length ecap1_357) := below_later (hb_1182) c_1159; clear c_1159
        have c_1198 : w_31.cell? ⟨w_22.heap.size, 0, none⟩ = some (Value.slice none 0 0) := below_later (hb_1182) c_1160; clear c_1160
        have c_1199 : w_31.cell? ⟨w_22.heap.size, 1, none⟩ = some (Value.slice none 0 0) := below_later (hb_1182) c_1161; clear c_1161
        have f_1200 : w_31.frozen? ⟨w_22.heap.size, 0, none⟩ = false := (Below.frozen (hb_1182) (p := ⟨w_22.heap.size, 0, none⟩) (by show w_22.heap.size < _; first | omega | (simp; done) | (simp; omega))).trans f_1162; clear f_1162
        have f_1201 : w_31.frozen? ⟨w_22.heap.size, 1, none⟩ = false := (Below.frozen (hb_1182) (p := ⟨w_22.heap.size, 1, none⟩) (by show w_22.heap.size < _; first | omega | (simp; done) | (simp; omega))).trans f_1163; clear f_1163
        have RD_1202 := Lib.hid (kMachine_ok.rbelow RD_1164.out (Below.mono (hb_1182) (by first | omega | (simp; done) | (simp; omega)))); clear RD_1164
        have hz_1203 : wc8.heap.size ≤ w_31.heap.size := Nat.le_trans hz_1165 hz_1183
        have RD_1204 := Lib.hid (kMachine_ok.rbelow RD_1166.out (Below.mono (hb_1182) (by first | omega | (simp; done) | (simp; omega)))); clear RD_1166
        have hz_1205 : w_29.heap.size ≤ w_31.heap.size := Nat.le_trans hz_1167 hz_1183
        have RD_1206 := Lib.hid (kMachine_ok.rbelow RD_1143.out (Below.mono (hb_1182) (by first | omega | (simp; done) | (simp; omega)))); clear RD_1143
        have hz_1207 : w_30.heap.size ≤ w_31.heap.size := Nat.le_trans hz_1174 hz_1183
        have OW_1208 := Lib.hid (kMachine_ok.oframe OW_1168.out (w' := w_31) fun b hm => (hb_1182).block b (kMachine_ok.olt OW_1168.out b hm)); clear OW_1168
        have hz_1209 : w_10.heap.size ≤ w_31.heap.size := Nat.le_trans hz_1169 hz_1183
        have OW_1210 := Lib.hid (kMachine_ok.oframe OW_1170.out (w' := w_31) fun b hm => (hb_1182).block b (kMachine_ok.olt OW_1170.out b hm)); clear OW_1170
        have hz_1211 : w_11.heap.size ≤ w_31.heap.size := Nat.le_trans hz_1171 hz_1183
        have OW_1212 := Lib.hid (kMachine_ok.oframe OW_1172.out (w' := w_31) fun b hm => (hb_1182).block b (kMachine_ok.olt OW_1172.out b hm)); clear OW_1172
        have hz_1213 : w_12.heap.size ≤ w_31.heap.size := Nat.le_trans hz_1173 hz_1183
        have HBLAST := Lib.hid hb_1182
        clear hb_1182
        have hz_1214 : w_31.heap.size ≤ w_31.heap.size := Nat.le_refl _
        have HBASE_1215 := Lib.hid (rstep HBASE_1175.out HBLAST.out); clear HBLAST
        refine hK.out _ _ (Or.inl (by kernel_rfl)) (fun _ => ?_)
        clear hK K
        try simp only [Act.put, List.setIfInBounds_toArray, List.set_cons_zero, List.set_cons_succ]
        refine wpG_pure (i := 5) (oi := { dst := some 94, op := Go.Op.move (Go.Operand.tmp 99), type := 35, pos := "exact.go:3683", after := #[{ on := 4, ground := Go.Ground.data }], guard := none }) (v := ?vg1204031) rfl (by kernel_rfl) (fun _ _ _ h => h) (Or.inl (by kernel_rfl)) (Or.inl ⟨by rfl, ?yg1204031⟩) ?_
        case yg1204031 => (intro wS _; go_simp <;> with_reducible rfl)
        try simp only [Act.put, List.setIfInBounds_toArray, List.set_cons_zero, List.set_cons_succ]
        refine wpG_pure (i := 6) (oi := { dst := some 100, op := Go.Op.extract (Go.Operand.tmp 94) 0, type := 28, pos := "exact.go:3683", after := #[{ on := 5, ground := Go.Ground.data }], guard := none }) (v := ?vg1204032) rfl (by kernel_rfl) (fun _ _ _ h => h) (Or.inl (by kernel_rfl)) (Or.inl ⟨by rfl, ?yg1204032⟩) ?_
        case yg1204032 => (intro wS _; go_simp <;> with_reducible rfl)
        try simp only [Act.put, List.setIfInBounds_toArray, List.set_cons_zero, List.set_cons_succ]
        refine wpG_pure (i := 7) (oi := { dst := some 101, op := Go.Op.extract (Go.Operand.tmp 94) 1, type := 4, pos := "exact.go:3683", after := #[{ on := 5, ground := Go.Ground.data }, { on := 9, ground := Go.Ground.gcOnly Go.Departure.lateStores }], guard := none }) (v := ?vg1204033) rfl (by kernel_rfl) (fun _ _ _ h => h) (Or.inl (by kernel_rfl)) (Or.inl ⟨by rfl, ?yg1204033⟩) ?_
        case yg1204033 => (intro wS _; go_simp <;> with_reducible rfl)
        try simp only [Act.put, List.setIfInBounds_toArray, List.set_cons_zero, List.set_cons_succ]
        refine wpG_one (i := 9) (o := { dst := none, op := Go.Op.store 28 (Go.Operand.tmp 15) (Go.Operand.tmp 100), type := 0, pos := "exact.go:3683", after := #[{ on := 8, ground := Go.Ground.data }, { on := 6, ground := Go.Ground.data }, { on := 4, ground := Go.Ground.chain }, { on := 0, ground := Go.Ground.phase }, { on := 1, ground := Go.Ground.phase }, { on := 2, ground := Go.Ground.phase }, { on := 3, ground := Go.Ground.phase }, { on := 4, ground := Go.Ground.phase }, { on := 5, ground := Go.Ground.phase }, { on := 6, ground := Go.Ground.phase }, { on := 7, ground := Go.Ground.textOnly Go.Departure.lateStores }, { on := 8, ground := Go.Ground.phase }], guard := none }) rfl (by kernel_rfl) (fun K hK => ?_)
        go_simp
        refine hK.out _ _ (Or.inl (by kernel_rfl)) (fun _ => ?_)
        clear hK K
        try simp only [Act.put, List.setIfInBounds_toArray, List.set_cons_zero, List.set_cons_succ]
        refine wpG_pure (i := 10) (oi := { dst := some 16, op := Go.Op.assign (Go.Operand.tmp 101), type := 4, pos := "exact.go:3683", after := #[{ on := 7, ground := Go.Ground.data }, { on := 9, ground := Go.Ground.chain }, { on := 0, ground := Go.Ground.phase }, { on := 1, ground := Go.Ground.phase }, { on := 2, ground := Go.Ground.phase }, { on := 3, ground := Go.Ground.phase }, { on := 4, ground := Go.Ground.phase }, { on := 5, ground := Go.Ground.phase }, { on := 6, ground := Go.Ground.phase }, { on := 7, ground := Go.Ground.phase }, { on := 8, ground := Go.Ground.phase }, { on := 9, ground := Go.Ground.phase }], guard := none }) (v := ?vg1204035) rfl (by kernel_rfl) (fun _ _ _ h => h) (Or.inl (by kernel_rfl)) (Or.inl ⟨by rfl, ?yg1204035⟩) ?_
        case yg1204035 => (intro wS _; go_simp <;> with_reducible rfl)
        try simp only [Act.put, List.setIfInBounds_toArray, List.set_cons_zero, List.set_cons_succ]
        refine wpG_done (by kernel_rfl) ?_
        go_wp2_with fail
        go_meet
        have hrdf : kMachine.rd ((w_31.setCell ⟨w_22.heap.size, 0, none⟩ (.slice ea0_1176 r0.1.length ecap0_1176)).setCell ⟨w_22.heap.size, 1, none⟩ (.slice ea1_1176 r0.2.length ecap1_1176)).heap.size ((w_31.setCell ⟨w_22.heap.size, 0, none⟩ (.slice ea0_1176 r0.1.length ecap0_1176)).setCell ⟨w_22.heap.size, 1, none⟩ (.slice ea1_1176 r0.2.length ecap1_1176)) [.slice ea0_1176 r0.1.length ecap0_1176, .slice ea1_1176 r0.2.length ecap1_1176] r0 := kMachine_ok.ord (kMachine_ok.oframe OW_1178.out (fun b hm => by rw [Below.heap_setCell _ _ _ _ (by show b ≠ w_22.heap.size; have := HL_1179.out b hm; omega), Below.heap_setCell _ _ _ _ (by show b ≠ w_22.heap.size; have := HL_1179.out b hm; omega)])) (fun b hm => by have := HH_1180.out b hm; first | omega | (simp; done) | (simp; omega))
        have hbf : Below w_22.heap.size w_22 ((w_31.setCell ⟨w_22.heap.size, 0, none⟩ (.slice ea0_1176 r0.1.length ecap0_1176)).setCell ⟨w_22.heap.size, 1, none⟩ (.slice ea1_1176 r0.2.length ecap1_1176)) := ((HBASE_1215.out.setCell (p := ⟨w_22.heap.size, 0, none⟩) (by show w_22.heap.size ≤ w_22.heap.size; omega) _).setCell (p := ⟨w_22.heap.size, 1, none⟩) (by show w_22.heap.size ≤ w_22.heap.size; omega) _)
        exact ⟨_, _, _, _, _, rfl, rfl, Lib.hid ⟨by go_simp, by go_simp, hrdf, hbf, by first | omega | (simp; done) | (simp; omega), by first | omega | (simp; done) | (simp; omega)⟩⟩
    case rest =>
      obtain ⟨B31, ec0_31, cc0_31, ec1_31, cc1_31, rfl, rfl, HCUT31⟩ := hcut
      obtain ⟨wc31, rfl⟩ : ∃ z : World, z = wc := ⟨_, rfl⟩
      obtain ⟨hcc0_31, hcc1_31, hrdc, hbc, hB0_31, hB1_31⟩ := HCUT31.out
      have RD_1216 := Lib.hid hrdc; clear hrdc
      have hb_1217 := hbc; clear hbc
      have hz_1218 : w_22.heap.size ≤ wc31.heap.size := by have := (hb_1217).size; first | omega | (simp at this; omega)
      have HB_1219 := Lib.hid (box2_step HB_706.out hb_1217)
      have hz_1220 : w.heap.size + 2 ≤ wc31.heap.size := Nat.le_trans hz_707 hz_1218
      have c_1221 : wc31.cell? ⟨w.heap.size, 0, none⟩ = some (.slice ea0_0 a0.1.length ecap0_0) := below_later (hb_1217) c_708; clear c_708
      have c_1222 : wc31.cell? ⟨w.heap.size, 1, none⟩ = some (.slice ea0_1 a0.2.length ecap0_1) := below_later (hb_1217) c_709; clear c_709
      have c_1223 : wc31.cell? ⟨w.heap.size + 1, 0, none⟩ = some (.slice ea1_0 a1.1.length ecap1_0) := below_later (hb_1217) c_710; clear c_710
      have c_1224 : wc31.cell? ⟨w.heap.size + 1, 1, none⟩ = some (.slice ea1_1 a1.2.length ecap1_1) := below_later (hb_1217) c_711; clear c_711
      have c_1225 : wc31.cell? ⟨B8, 0, none⟩ = some (.slice ec0_8 r0.1.length cc0_8) := below_later (hb_1217) c_712; clear c_712
      have c_1226 : wc31.cell? ⟨B8, 1, none⟩ = some (.slice ec1_8 r0.2.length cc1_8) := below_later (hb_1217) c_713; clear c_713
      have c_1227 : wc31.cell? ⟨w_10.heap.size, 0, none⟩ = some (.slice ea0_279 a0.1.length ecap0_279) := below_later (hb_1217) c_714; clear c_714
      have c_1228 : wc31.cell? ⟨w_10.heap.size, 1, none⟩ = some (.slice ea1_279 a0.2.length ecap1_279) := below_later (hb_1217) c_715; clear c_715
      have c_1229 : wc31.cell? ⟨w_11.heap.size, 0, none⟩ = some (.slice ea0_314 a1.1.length ecap0_314) := below_later (hb_1217) c_716; clear c_716
      have c_1230 : wc31.cell? ⟨w_11.heap.size, 1, none⟩ = some (.slice ea1_314 a1.2.length ecap1_314) := below_later (hb_1217) c_717; clear c_717
      have c_1231 : wc31.cell? ⟨w_12.heap.size, 0, none⟩ = some (.slice ea0_357 r0.1.length ecap0_357) := below_later (hb_1217) c_718; clear c_718
      have c_1232 : wc31.cell? ⟨w_12.heap.size, 1, none⟩ = some (.slice ea1_357 r0.2.length ecap1_357) := below_later (hb_1217) c_719; clear c_719
      have RD_1233 := Lib.hid (kMachine_ok.rbelow RD_720.out (Below.mono (hb_1217) (by first | omega | (simp; done) | (simp; omega)))); clear RD_720
      have hz_1234 : wc8.heap.size ≤ wc31.heap.size := Nat.le_trans hz_721 hz_1218
      have OW_1235 := Lib.hid (kMachine_ok.oframe OW_722.out (w' := wc31) fun b hm => (hb_1217).block b (kMachine_ok.olt OW_722.out b hm)); clear OW_722
      have hz_1236 : w_10.heap.size ≤ wc31.heap.size := Nat.le_trans hz_723 hz_1218
      have OW_1237 := Lib.hid (kMachine_ok.oframe OW_724.out (w' := wc31) fun b hm => (hb_1217).block b (kMachine_ok.olt OW_724.out b hm)); clear OW_724
      have hz_1238 : w_11.heap.size ≤ wc31.heap.size := Nat.le_trans hz_725 hz_1218
      have OW_1239 := Lib.hid (kMachine_ok.oframe OW_726.out (w' := wc31) fun b hm => (hb_1217).block b (kMachine_ok.olt OW_726.out b hm)); clear OW_726
      have hz_1240 : w_12.heap.size ≤ wc31.heap.size := Nat.le_trans hz_727 hz_1218
      clear hb_1217
      have hz_1241 : wc31.heap.size ≤ wc31.heap.size := Nat.le_refl _
      go_wp2_with fail
      refine (eq_Machine (w := wc31) (kMachine_ok.rmono RD_1216.out (by first | omega | (simp; done) | (simp; omega))) (kMachine_ok.rmono RD_1233.out (by first | omega | (simp; done) | (simp; omega)))).mono ?_
      rintro e w_32 ⟨rfl, hb⟩
      have hb_1242 := hb; clear hb
      have hz_1243 : wc31.heap.size ≤ w_32.heap.size := by have := (hb_1242).size; first | omega | (simp at this; omega)
      have HB_1244 := Lib.hid (box2_step HB_1219.out hb_1242)
      have hz_1245 : w.heap.size + 2 ≤ w_32.heap.size := Nat.le_trans hz_1220 hz_1243
      have c_1246 : w_32.cell? ⟨w.heap.size, 0, none⟩ = some (.slice ea0_0 a0.1.length ecap0_0) := below_later (hb_1242) c_1221; clear c_1221
      have c_1247 : w_32.cell? ⟨w.heap.size, 1, none⟩ = some (.slice ea0_1 a0.2.length ecap0_1) := below_later (hb_1242) c_1222; clear c_1222
      have c_1248 : w_32.cell? ⟨w.heap.size + 1, 0, none⟩ = some (.slice ea1_0 a1.1.length ecap1_0) := below_later (hb_1242) c_1223; clear c_1223
      have c_1249 : w_32.cell? ⟨w.heap.size + 1, 1, none⟩ = some (.slice ea1_1 a1.2.length ecap1_1) := below_later (hb_1242) c_1224; clear c_1224
      have c_1250 : w_32.cell? ⟨B8, 0, none⟩ = some (.slice ec0_8 r0.1.length cc0_8) := below_later (hb_1242) c_1225; clear c_1225
      have c_1251 : w_32.cell? ⟨B8, 1, none⟩ = some (.slice ec1_8 r0.2.length cc1_8) := below_later (hb_1242) c_1226; clear c_1226
      have c_1252 : w_32.cell? ⟨w_10.heap.size, 0, none⟩ = some (.slice ea0_279 a0.1.length ecap0_279) := below_later (hb_1242) c_1227; clear c_1227
      have c_1253 : w_32.cell? ⟨w_10.heap.size, 1, none⟩ = some (.slice ea1_279 a0.2.length ecap1_279) := below_later (hb_1242) c_1228; clear c_1228
      have c_1254 : w_32.cell? ⟨w_11.heap.size, 0, none⟩ = some (.slice ea0_314 a1.1.length ecap0_314) := below_later (hb_1242) c_1229; clear c_1229
      have c_1255 : w_32.cell? ⟨w_11.heap.size, 1, none⟩ = some (.slice ea1_314 a1.2.length ecap1_314) := below_later (hb_1242) c_1230; clear c_1230
      have c_1256 : w_32.cell? ⟨w_12.heap.size, 0, none⟩ = some (.slice ea0_357 r0.1.length ecap0_357) := below_later (hb_1242) c_1231; clear c_1231
      have c_1257 : w_32.cell? ⟨w_12.heap.size, 1, none⟩ = some (.slice ea1_357 r0.2.length ecap1_357) := below_later (hb_1242) c_1232; clear c_1232
      have c_1258 : w_32.cell? ⟨B31, 0, none⟩ = some (.slice ec0_31 r0.1.length cc0_31) := below_later (hb_1242) hcc0_31; clear hcc0_31
      have c_1259 : w_32.cell? ⟨B31, 1, none⟩ = some (.slice ec1_31 r0.2.length cc1_31) := below_later (hb_1242) hcc1_31; clear hcc1_31
      have RD_1260 := Lib.hid (kMachine_ok.rbelow RD_1233.out (Below.mono (hb_1242) (by first | omega | (simp; done) | (simp; omega)))); clear RD_1233
      have hz_1261 : wc8.heap.size ≤ w_32.heap.size := Nat.le_trans hz_1234 hz_1243
      have RD_1262 := Lib.hid (kMachine_ok.rbelow RD_1216.out (Below.mono (hb_1242) (by first | omega | (simp; done) | (simp; omega)))); clear RD_1216
      have hz_1263 : wc31.heap.size ≤ w_32.heap.size := Nat.le_trans hz_1241 hz_1243
      have OW_1264 := Lib.hid (kMachine_ok.oframe OW_1235.out (w' := w_32) fun b hm => (hb_1242).block b (kMachine_ok.olt OW_1235.out b hm)); clear OW_1235
      have hz_1265 : w_10.heap.size ≤ w_32.heap.size := Nat.le_trans hz_1236 hz_1243
      have OW_1266 := Lib.hid (kMachine_ok.oframe OW_1237.out (w' := w_32) fun b hm => (hb_1242).block b (kMachine_ok.olt OW_1237.out b hm)); clear OW_1237
      have hz_1267 : w_11.heap.size ≤ w_32.heap.size := Nat.le_trans hz_1238 hz_1243
      have OW_1268 := Lib.hid (kMachine_ok.oframe OW_1239.out (w' := w_32) fun b hm => (hb_1242).block b (kMachine_ok.olt OW_1239.out b hm)); clear OW_1239
      have hz_1269 : w_12.heap.size ≤ w_32.heap.size := Nat.le_trans hz_1240 hz_1243
      clear hb_1242
      have hm_1270 := held_Machine (w := w_32) (x := r0) 1 (kMachine_ok.ord OW_1268.out (fun b hm => by have := HH_361.out b hm; first | omega | (simp; done) | (simp; omega))) (by omega) (by have := HCN.out; omega)
      rw [show ((1 : Nat) : Int) = 1 from rfl, HQ_677.out] at hm_1270
      have HM_1271 := Lib.hid hm_1270; clear hm_1270
      go_wp2_with fail
      refine HM_1271.out.mono ?_
      rintro e w_33 ⟨rfl, hb⟩
      have hb_1272 := hb; clear hb
      have hz_1273 : w_32.heap.size ≤ w_33.heap.size := by have := (hb_1272).size; first | omega | (simp at this; omega)
      have HB_1274 := Lib.hid (box2_step HB_1244.out hb_1272)
      have hz_1275 : w.heap.size + 2 ≤ w_33.heap.size := Nat.le_trans hz_1245 hz_1273
      have c_1276 : w_33.cell? ⟨w.heap.size, 0, none⟩ = some (.slice ea0_0 a0.1.length ecap0_0) := below_later (hb_1272) c_1246; clear c_1246
      have c_1277 : w_33.cell? ⟨w.heap.size, 1, none⟩ = some (.slice ea0_1 a0.2.length ecap0_1) := below_later (hb_1272) c_1247; clear c_1247
      have c_1278 : w_33.cell? ⟨w.heap.size + 1, 0, none⟩ = some (.slice ea1_0 a1.1.length ecap1_0) := below_later (hb_1272) c_1248; clear c_1248
      have c_1279 : w_33.cell? ⟨w.heap.size + 1, 1, none⟩ = some (.slice ea1_1 a1.2.length ecap1_1) := below_later (hb_1272) c_1249; clear c_1249
      have c_1280 : w_33.cell? ⟨B8, 0, none⟩ = some (.slice ec0_8 r0.1.length cc0_8) := below_later (hb_1272) c_1250; clear c_1250
      have c_1281 : w_33.cell? ⟨B8, 1, none⟩ = some (.slice ec1_8 r0.2.length cc1_8) := below_later (hb_1272) c_1251; clear c_1251
      have c_1282 : w_33.cell? ⟨w_10.heap.size, 0, none⟩ = some (.slice ea0_279 a0.1.length ecap0_279) := below_later (hb_1272) c_1252; clear c_1252
      have c_1283 : w_33.cell? ⟨w_10.heap.size, 1, none⟩ = some (.slice ea1_279 a0.2.length ecap1_279) := below_later (hb_1272) c_1253; clear c_1253
      have c_1284 : w_33.cell? ⟨w_11.heap.size, 0, none⟩ = some (.slice ea0_314 a1.1.length ecap0_314) := below_later (hb_1272) c_1254; clear c_1254
      have c_1285 : w_33.cell? ⟨w_11.heap.size, 1, none⟩ = some (.slice ea1_314 a1.2.length ecap1_314) := below_later (hb_1272) c_1255; clear c_1255
      have c_1286 : w_33.cell? ⟨w_12.heap.size, 0, none⟩ = some (.slice ea0_357 r0.1.length ecap0_357) := below_later (hb_1272) c_1256; clear c_1256
      have c_1287 : w_33.cell? ⟨w_12.heap.size, 1, none⟩ = some (.slice ea1_357 r0.2.length ecap1_357) := below_later (hb_1272) c_1257; clear c_1257
      have c_1288 : w_33.cell? ⟨B31, 0, none⟩ = some (.slice ec0_31 r0.1.length cc0_31) := below_later (hb_1272) c_1258; clear c_1258
      have c_1289 : w_33.cell? ⟨B31, 1, none⟩ = some (.slice ec1_31 r0.2.length cc1_31) := below_later (hb_1272) c_1259; clear c_1259
      have RD_1290 := Lib.hid (kMachine_ok.rbelow RD_1260.out (Below.mono (hb_1272) (by first | omega | (simp; done) | (simp; omega)))); clear RD_1260
      have hz_1291 : wc8.heap.size ≤ w_33.heap.size := Nat.le_trans hz_1261 hz_1273
      have RD_1292 := Lib.hid (kMachine_ok.rbelow RD_1262.out (Below.mono (hb_1272) (by first | omega | (simp; done) | (simp; omega)))); clear RD_1262
      have hz_1293 : wc31.heap.size ≤ w_33.heap.size := Nat.le_trans hz_1263 hz_1273
      have OW_1294 := Lib.hid (kMachine_ok.oframe OW_1264.out (w' := w_33) fun b hm => (hb_1272).block b (kMachine_ok.olt OW_1264.out b hm)); clear OW_1264
      have hz_1295 : w_10.heap.size ≤ w_33.heap.size := Nat.le_trans hz_1265 hz_1273
      have OW_1296 := Lib.hid (kMachine_ok.oframe OW_1266.out (w' := w_33) fun b hm => (hb_1272).block b (kMachine_ok.olt OW_1266.out b hm)); clear OW_1266
      have hz_1297 : w_11.heap.size ≤ w_33.heap.size := Nat.le_trans hz_1267 hz_1273
      have OW_1298 := Lib.hid (kMachine_ok.oframe OW_1268.out (w' := w_33) fun b hm => (hb_1272).block b (kMachine_ok.olt OW_1268.out b hm)); clear OW_1268
      have hz_1299 : w_12.heap.size ≤ w_33.heap.size := Nat.le_trans hz_1269 hz_1273
      clear hb_1272
      have hneg_1300 : ¬ ((q_675 : Int) < 0) := by omega
      go_wp2_with fail
      go_ret
      exact ⟨rfl, (box2_below HB_1274.out)⟩

end Go.Proofs.Ytedjahinlpehgaa.fnExactMeetMachines
