/- The walk of FnExactSameLanguage: whatever the arguments, the call returns true and writes nothing that was there. -/
import Derived.Deep.RegionHeld3
import Derived.Test.YtedjahinlpehgaaPair5
namespace Go.Proofs.Ytedjahinlpehgaa.fnExactSameLanguage
open Go.ChangeShapes Go.WideShapes Go.ChangeAt Go.RowKit
open Go.ChangeMaps (open_string shut_string)
set_option linter.unusedVariables false

set_option maxHeartbeats 1000000 in
set_option maxRecDepth 100000 in
theorem walk (w : World) (v0 : Value) (a0 : ((List (List Int)) × (List Bool))) (w0 : IsK kMachine (fun cs => .agg cs.toArray) w v0 a0) (v1 : Value) (a1 : ((List (List Int)) × (List Bool))) (w1 : IsK kMachine (fun cs => .agg cs.toArray) w v1 a1) :
    Calls Try.prog 7 #[v0, v1] w fun e w' => e = .returned (.bool true) ∧ Below w.heap.size w w' := by
  obtain ⟨cs0, rfl, hr0⟩ := w0
  obtain ⟨cs1, rfl, hr1⟩ := w1
  obtain ⟨ea0_0, ecap0_0, ea0_1, ecap0_1, rfl⟩ : ∃ ea0_0 ecap0_0 ea0_1 ecap0_1, cs0 = [.slice ea0_0 a0.1.length ecap0_0, .slice ea0_1 a0.2.length ecap0_1] := by
    obtain ⟨ea0_0, ecap0_0, ea0_1, ecap0_1, h, _⟩ := Machine_rd hr0
    exact ⟨ea0_0, ecap0_0, ea0_1, ecap0_1, h⟩
  obtain ⟨ea1_0, ecap1_0, ea1_1, ecap1_1, rfl⟩ : ∃ ea1_0 ecap1_0 ea1_1 ecap1_1, cs1 = [.slice ea1_0 a1.1.length ecap1_0, .slice ea1_1 a1.2.length ecap1_1] := by
    obtain ⟨ea1_0, ecap1_0, ea1_1, ecap1_1, h, _⟩ := Machine_rd hr1
    exact ⟨ea1_0, ecap1_0, ea1_1, ecap1_1, h⟩
  have HR0 := Lib.hid hr0; clear hr0
  have HZ0 := Lib.hid (fun (lx : Int) (wx : World) (hb : Below w.heap.size w wx) (g0 : 0 ≤ lx) (g1 : lx ≤ 1048576) => sz_Machine lx (kMachine_ok.later HR0.out hb) g0 g1)
  have HR1 := Lib.hid hr1; clear hr1
  have HZ1 := Lib.hid (fun (lx : Int) (wx : World) (hb : Below w.heap.size w wx) (g0 : 0 ≤ lx) (g1 : lx ≤ 1048576) => sz_Machine lx (kMachine_ok.later HR1.out hb) g0 g1)
  have HB0 := Lib.hid (box2_start w (.cells #[.slice ea0_0 a0.1.length ecap0_0, .slice ea0_1 a0.2.length ecap0_1] 25) (.cells #[.slice ea1_0 a1.1.length ecap1_0, .slice ea1_1 a1.2.length ecap1_1] 25))
  by_cases gz0 : (kMachine.wt a0 : Int) ≤ 1048576
  case neg =>
    have GZ0 : szR (1048576) (kMachine.wt a0) = -1 := szR_not gz0
    go_enter Try.func7, Try.ntmps7
    go_wp2_with fail
    refine (HZ0.out (1048576) _ (((Below.refl _ _).alloc (Nat.le_refl _) _).alloc (by simp) _) (by omega) (by omega)).mono ?_
    rw [GZ0]
    rintro e v1 ⟨rfl, hb⟩
    have HV1 := Lib.hid (box2_step HB0.out hb); clear hb
    have ac0_0_v1 := box2_a HV1.out 0
    have ac0_1_v1 := box2_a HV1.out 1
    have ac1_0_v1 := box2_b HV1.out 0
    have ac1_1_v1 := box2_b HV1.out 1
    go_wp2_with fail
    go_ret
    exact ⟨rfl, (box2_below HV1.out)⟩
  by_cases gz1 : (kMachine.wt a1 : Int) ≤ 1048576 - (kMachine.wt a0 : Int)
  case neg =>
    have GZ0 : szR (1048576) (kMachine.wt a0) = 1048576 - (kMachine.wt a0 : Int) := szR_fit gz0
    have GZ1 : szR (1048576 - (kMachine.wt a0 : Int)) (kMachine.wt a1) = -1 := szR_not gz1
    go_enter Try.func7, Try.ntmps7
    go_wp2_with fail
    refine (HZ0.out (1048576) _ (((Below.refl _ _).alloc (Nat.le_refl _) _).alloc (by simp) _) (by omega) (by omega)).mono ?_
    rw [GZ0]
    rintro e v1 ⟨rfl, hb⟩
    have HV1 := Lib.hid (box2_step HB0.out hb); clear hb
    have ac0_0_v1 := box2_a HV1.out 0
    have ac0_1_v1 := box2_a HV1.out 1
    have ac1_0_v1 := box2_b HV1.out 0
    have ac1_1_v1 := box2_b HV1.out 1
    go_wp2_with fail
    refine (HZ1.out (1048576 - (kMachine.wt a0 : Int)) _ (box2_below HV1.out) (by omega) (by omega)).mono ?_
    rw [GZ1]
    rintro e v2 ⟨rfl, hb⟩
    have HV2 := Lib.hid (box2_step HV1.out hb); clear hb ac0_0_v1 ac0_1_v1 ac1_0_v1 ac1_1_v1
    have ac0_0_v2 := box2_a HV2.out 0
    have ac0_1_v2 := box2_a HV2.out 1
    have ac1_0_v2 := box2_b HV2.out 0
    have ac1_1_v2 := box2_b HV2.out 1
    go_wp2_with fail
    go_ret
    exact ⟨rfl, (box2_below HV2.out)⟩
  have GZ0 : szR (1048576) (kMachine.wt a0) = 1048576 - (kMachine.wt a0 : Int) := szR_fit gz0
  have GZ1 : szR (1048576 - (kMachine.wt a0 : Int)) (kMachine.wt a1) = 1048576 - (kMachine.wt a0 : Int) - (kMachine.wt a1 : Int) := szR_fit gz1
  have HT : Hid (kMachine.wt a0 + kMachine.wt a1 ≤ 1048576) := Lib.hid (by omega)
  skip
  have HS := Lib.hid (fun (wx : World) (cx0 : List Value) (cx1 : List Value) (h0 : kMachine.rd wx.heap.size wx (cx0) a0) (h1 : kMachine.rd wx.heap.size wx (cx1) a1) => spec_SameLanguage wx cx0 cx1 a0 a1 h0 h1 HT.out)
  have HI := Lib.hid (fun (wx : World) (cx0 : List Value) (cx1 : List Value) (h0 : kMachine.rd wx.heap.size wx (cx0) a0) (h1 : kMachine.rd wx.heap.size wx (cx1) a1) => impl_SameLanguage wx cx0 cx1 a0 a1 h0 h1 HT.out)
  have HTO0 := Lib.hid (fun (wx : World) (hb : Below w.heap.size w wx) => to_Machine (kMachine_ok.later HR0.out hb) (by have := HT.out; omega))
  have HTO1 := Lib.hid (fun (wx : World) (hb : Below w.heap.size w wx) => to_Machine (kMachine_ok.later HR1.out hb) (by have := HT.out; omega))
  generalize hR : R_SameLanguage a0 a1 = R at *
  clear hR
  obtain ⟨r0, r1, r2⟩ := R
  go_enter Try.func7, Try.ntmps7
  go_wp2_with fail
  refine (HZ0.out (1048576) _ (((Below.refl _ _).alloc (Nat.le_refl _) _).alloc (by simp) _) (by omega) (by omega)).mono ?_
  rw [GZ0]
  rintro e v1 ⟨rfl, hb⟩
  have HV1 := Lib.hid (box2_step HB0.out hb); clear hb
  have ac0_0_v1 := box2_a HV1.out 0
  have ac0_1_v1 := box2_a HV1.out 1
  have ac1_0_v1 := box2_b HV1.out 0
  have ac1_1_v1 := box2_b HV1.out 1
  go_wp2_with fail
  refine (HZ1.out (1048576 - (kMachine.wt a0 : Int)) _ (box2_below HV1.out) (by omega) (by omega)).mono ?_
  rw [GZ1]
  rintro e v2 ⟨rfl, hb⟩
  have HV2 := Lib.hid (box2_step HV1.out hb); clear hb ac0_0_v1 ac0_1_v1 ac1_0_v1 ac1_1_v1
  have ac0_0_v2 := box2_a HV2.out 0
  have ac0_1_v2 := box2_a HV2.out 1
  have ac1_0_v2 := box2_b HV2.out 0
  have ac1_1_v2 := box2_b HV2.out 1
  go_wp2_with fail
  have c_1 : v2.cell? ⟨w.heap.size, 0, none⟩ = some (.slice ea0_0 a0.1.length ecap0_0) := ac0_0_v2; clear ac0_0_v2
  have c_2 : v2.cell? ⟨w.heap.size, 1, none⟩ = some (.slice ea0_1 a0.2.length ecap0_1) := ac0_1_v2; clear ac0_1_v2
  have c_3 : v2.cell? ⟨w.heap.size + 1, 0, none⟩ = some (.slice ea1_0 a1.1.length ecap1_0) := ac1_0_v2; clear ac1_0_v2
  have c_4 : v2.cell? ⟨w.heap.size + 1, 1, none⟩ = some (.slice ea1_1 a1.2.length ecap1_1) := ac1_1_v2; clear ac1_1_v2
  have hz_5 : w.heap.size + 2 ≤ v2.heap.size := by have := (HV2.out).size; first | omega | (simp at this; omega)
  go_wp2_with fail
  have hb_6 : Below v2.heap.size v2 v2.drew := (Below.refl _ _).drew
  have hz_7 : v2.heap.size ≤ v2.heap.size := by have := (hb_6).size; first | omega | (simp at this; omega)
  have HB_8 := Lib.hid (box2_step HV2.out hb_6)
  have hz_9 : w.heap.size + 2 ≤ v2.heap.size := Nat.le_trans hz_5 hz_7
  have c_10 : v2.drew.cell? ⟨w.heap.size, 0, none⟩ = some (.slice ea0_0 a0.1.length ecap0_0) := below_later (hb_6) c_1; clear c_1
  have c_11 : v2.drew.cell? ⟨w.heap.size, 1, none⟩ = some (.slice ea0_1 a0.2.length ecap0_1) := below_later (hb_6) c_2; clear c_2
  have c_12 : v2.drew.cell? ⟨w.heap.size + 1, 0, none⟩ = some (.slice ea1_0 a1.1.length ecap1_0) := below_later (hb_6) c_3; clear c_3
  have c_13 : v2.drew.cell? ⟨w.heap.size + 1, 1, none⟩ = some (.slice ea1_1 a1.2.length ecap1_1) := below_later (hb_6) c_4; clear c_4
  clear hb_6
  refine wp_region_G [3] (fun w' => w'.cell? ⟨w.heap.size, 0, none⟩ = some (.slice ea0_0 a0.1.length ecap0_0) ∧ w'.cell? ⟨w.heap.size, 1, none⟩ = some (.slice ea0_1 a0.2.length ecap0_1) ∧ w'.cell? ⟨w.heap.size + 1, 0, none⟩ = some (.slice ea1_0 a1.1.length ecap1_0) ∧ w'.cell? ⟨w.heap.size + 1, 1, none⟩ = some (.slice ea1_1 a1.2.length ecap1_1)) (by kernel_rfl) ?_ (fun hHeld => ?_)
  · exact ⟨c_10, c_11, c_12, c_13⟩
  refine wpG_load (i := 0) (oi := { dst := some 25, op := Go.Op.load 25 (Go.Operand.tmp 2), type := 25, pos := "exact.go:3627", after := #[], guard := none }) (v := ?vg1) [[3, 1, 0]] rfl (by kernel_rfl) (fun _ _ _ h => h) hHeld (Or.inl ⟨by rfl, ?yg1⟩) ?_
  case yg1 => (intro wS hSw; (try dsimp only at hSw); go_simp <;> with_reducible rfl)
  try simp only [Act.put, List.setIfInBounds_toArray, List.set_cons_zero, List.set_cons_succ]
  refine wpG_load (i := 2) (oi := { dst := some 27, op := Go.Op.load 25 (Go.Operand.tmp 3), type := 25, pos := "exact.go:3627", after := #[], guard := none }) (v := ?vg2) [[3, 2]] rfl (by kernel_rfl) (fun _ _ _ h => h) hHeld (Or.inl ⟨by rfl, ?yg2⟩) ?_
  case yg2 => (intro wS hSw; (try dsimp only at hSw); go_simp <;> with_reducible rfl)
  try simp only [Act.put, List.setIfInBounds_toArray, List.set_cons_zero, List.set_cons_succ]
  refine wpG_one (i := 1) (o := { dst := some 26, op := Go.Op.call { callee := Go.Callee.value (Go.Operand.func 13), args := #[Go.Operand.tmp 25], argTypes := #[25] }, type := 28, pos := "exact.go:3627", after := #[{ on := 0, ground := Go.Ground.data }], guard := none }) rfl (by kernel_rfl) (fun K hK => ?_)
  go_simp
  refine (HTO0.out _ (box2_below HB_8.out)).mono ?_
  rintro e w_1 ⟨cs_14, fp_14, he, ho, hnd, hge, hb⟩
  have hrd := kMachine_ok.ord ho (B := w_1.heap.size) (kMachine_ok.olt ho)
  obtain ⟨ea0_14, ecap0_14, ea1_14, ecap1_14, rfl, _, _⟩ := Machine_rd hrd
  change e = .returned (.agg #[.slice ea0_14 a0.1.length ecap0_14, .slice ea1_14 a0.2.length ecap1_14]) at he
  subst he
  have hrd2 := kMachine_ok.ord ho (B := w_1.heap.size) (kMachine_ok.olt ho)
  have OW_15 := Lib.hid ho; have HN_18 := Lib.hid hnd
  have HL_16 : Hid (∀ b ∈ fp_14, v2.heap.size ≤ b) := Lib.hid fun b hm => by have := hge b hm; first | omega | (simp at this; omega)
  have HH_17 : Hid (∀ b ∈ fp_14, b < w_1.heap.size) := Lib.hid (kMachine_ok.olt ho)
  have RD_19 := Lib.hid hrd2; clear ho hnd hge hrd2 hrd
  have hb_20 := hb; clear hb
  have hz_21 : v2.heap.size ≤ w_1.heap.size := by have := (hb_20).size; first | omega | (simp at this; omega)
  have HB_22 := Lib.hid (box2_step HB_8.out hb_20)
  have hz_23 : w.heap.size + 2 ≤ w_1.heap.size := Nat.le_trans hz_9 hz_21
  have c_24 : w_1.cell? ⟨w.heap.size, 0, none⟩ = some (.slice ea0_0 a0.1.length ecap0_0) := below_later (hb_20) c_10; clear c_10
  have c_25 : w_1.cell? ⟨w.heap.size, 1, none⟩ = some (.slice ea0_1 a0.2.length ecap0_1) := below_later (hb_20) c_11; clear c_11
  have c_26 : w_1.cell? ⟨w.heap.size + 1, 0, none⟩ = some (.slice ea1_0 a1.1.length ecap1_0) := below_later (hb_20) c_12; clear c_12
  have c_27 : w_1.cell? ⟨w.heap.size + 1, 1, none⟩ = some (.slice ea1_1 a1.2.length ecap1_1) := below_later (hb_20) c_13; clear c_13
  have HQ := Lib.hid hb_20; clear hb_20 HQ
  have hz_28 : w_1.heap.size ≤ w_1.heap.size := Nat.le_refl _
  refine hK.out _ _ (Or.inr ?khHeld3) (fun hHeld3S => ?_)
  case khHeld3 => exact ⟨c_24, c_25, c_26, c_27⟩
  have hHeld3 := hHeld3S.held (by kernel_rfl)
  clear hK K
  try simp only [Act.put, List.setIfInBounds_toArray, List.set_cons_zero, List.set_cons_succ]
  refine wpG_one (i := 3) (o := { dst := some 28, op := Go.Op.call { callee := Go.Callee.value (Go.Operand.func 13), args := #[Go.Operand.tmp 27], argTypes := #[25] }, type := 28, pos := "exact.go:3627", after := #[{ on := 2, ground := Go.Ground.data }, { on := 1, ground := Go.Ground.chain }], guard := none }) rfl (by kernel_rfl) (fun K hK => ?_)
  go_simp
  refine (HTO1.out _ (box2_below HB_22.out)).mono ?_
  rintro e w_2 ⟨cs_29, fp_29, he, ho, hnd, hge, hb⟩
  have hrd := kMachine_ok.ord ho (B := w_2.heap.size) (kMachine_ok.olt ho)
  obtain ⟨ea0_29, ecap0_29, ea1_29, ecap1_29, rfl, _, _⟩ := Machine_rd hrd
  change e = .returned (.agg #[.slice ea0_29 a1.1.length ecap0_29, .slice ea1_29 a1.2.length ecap1_29]) at he
  subst he
  have hrd2 := kMachine_ok.ord ho (B := w_2.heap.size) (kMachine_ok.olt ho)
  have OW_30 := Lib.hid ho; have HN_33 := Lib.hid hnd
  have HL_31 : Hid (∀ b ∈ fp_29, w_1.heap.size ≤ b) := Lib.hid fun b hm => by have := hge b hm; first | omega | (simp at this; omega)
  have HH_32 : Hid (∀ b ∈ fp_29, b < w_2.heap.size) := Lib.hid (kMachine_ok.olt ho)
  have RD_34 := Lib.hid hrd2; clear ho hnd hge hrd2 hrd
  have hb_35 := hb; clear hb
  have hz_36 : w_1.heap.size ≤ w_2.heap.size := by have := (hb_35).size; first | omega | (simp at this; omega)
  have HB_37 := Lib.hid (box2_step HB_22.out hb_35)
  have hz_38 : w.heap.size + 2 ≤ w_2.heap.size := Nat.le_trans hz_23 hz_36
  have c_39 : w_2.cell? ⟨w.heap.size, 0, none⟩ = some (.slice ea0_0 a0.1.length ecap0_0) := below_later (hb_35) c_24; clear c_24
  have c_40 : w_2.cell? ⟨w.heap.size, 1, none⟩ = some (.slice ea0_1 a0.2.length ecap0_1) := below_later (hb_35) c_25; clear c_25
  have c_41 : w_2.cell? ⟨w.heap.size + 1, 0, none⟩ = some (.slice ea1_0 a1.1.length ecap1_0) := below_later (hb_35) c_26; clear c_26
  have c_42 : w_2.cell? ⟨w.heap.size + 1, 1, none⟩ = some (.slice ea1_1 a1.2.length ecap1_1) := below_later (hb_35) c_27; clear c_27
  have RD_43 := Lib.hid (kMachine_ok.rbelow RD_19.out (Below.mono (hb_35) (by first | omega | (simp; done) | (simp; omega)))); clear RD_19
  have hz_44 : w_1.heap.size ≤ w_2.heap.size := Nat.le_trans hz_28 hz_36
  have HQ := Lib.hid hb_35; clear hb_35 HQ
  have hz_45 : w_2.heap.size ≤ w_2.heap.size := Nat.le_refl _
  refine hK.out _ _ (Or.inl (by kernel_rfl)) (fun _ => ?_)
  clear hK K
  try simp only [Act.put, List.setIfInBounds_toArray, List.set_cons_zero, List.set_cons_succ]
  refine wpG_one (i := 4) (o := { dst := some 29, op := Go.Op.call { callee := Go.Callee.value (Go.Operand.func 24), args := #[Go.Operand.tmp 26, Go.Operand.tmp 28], argTypes := #[28, 28] }, type := 40, pos := "exact.go:3627", after := #[{ on := 1, ground := Go.Ground.data }, { on := 3, ground := Go.Ground.data }, { on := 3, ground := Go.Ground.chain }], guard := none }) rfl (by kernel_rfl) (fun K hK => ?_)
  go_simp
  refine (HS.out _ [.slice ea0_14 a0.1.length ecap0_14, .slice ea1_14 a0.2.length ecap1_14] [.slice ea0_29 a1.1.length ecap0_29, .slice ea1_29 a1.2.length ecap1_29] (kMachine_ok.rmono RD_43.out (by first | omega | (simp; done) | (simp; omega))) (kMachine_ok.rmono RD_34.out (by first | omega | (simp; done) | (simp; omega)))).mono ?_
  rintro e w_3 ⟨rfl, hb⟩
  have hb_47 := hb; clear hb
  have hz_48 : w_2.heap.size ≤ w_3.heap.size := by have := (hb_47).size; first | omega | (simp at this; omega)
  have HB_49 := Lib.hid (box2_step HB_37.out hb_47)
  have hz_50 : w.heap.size + 2 ≤ w_3.heap.size := Nat.le_trans hz_38 hz_48
  have c_51 : w_3.cell? ⟨w.heap.size, 0, none⟩ = some (.slice ea0_0 a0.1.length ecap0_0) := below_later (hb_47) c_39; clear c_39
  have c_52 : w_3.cell? ⟨w.heap.size, 1, none⟩ = some (.slice ea0_1 a0.2.length ecap0_1) := below_later (hb_47) c_40; clear c_40
  have c_53 : w_3.cell? ⟨w.heap.size + 1, 0, none⟩ = some (.slice ea1_0 a1.1.length ecap1_0) := below_later (hb_47) c_41; clear c_41
  have c_54 : w_3.cell? ⟨w.heap.size + 1, 1, none⟩ = some (.slice ea1_1 a1.2.length ecap1_1) := below_later (hb_47) c_42; clear c_42
  have RD_55 := Lib.hid (kMachine_ok.rbelow RD_43.out (Below.mono (hb_47) (by first | omega | (simp; done) | (simp; omega)))); clear RD_43
  have hz_56 : w_1.heap.size ≤ w_3.heap.size := Nat.le_trans hz_44 hz_48
  have RD_57 := Lib.hid (kMachine_ok.rbelow RD_34.out (Below.mono (hb_47) (by first | omega | (simp; done) | (simp; omega)))); clear RD_34
  have hz_58 : w_2.heap.size ≤ w_3.heap.size := Nat.le_trans hz_45 hz_48
  clear hb_47
  refine hK.out _ _ (Or.inl (by kernel_rfl)) (fun _ => ?_)
  clear hK K
  try simp only [Act.put, List.setIfInBounds_toArray, List.set_cons_zero, List.set_cons_succ]
  refine wpG_pure (i := 5) (oi := { dst := some 24, op := Go.Op.move (Go.Operand.tmp 29), type := 40, pos := "exact.go:3627", after := #[{ on := 4, ground := Go.Ground.data }], guard := none }) (v := ?vg6) rfl (by kernel_rfl) (fun _ _ _ h => h) (Or.inl (by kernel_rfl)) (Or.inl ⟨by rfl, ?yg6⟩) ?_
  case yg6 => (intro wS _; go_simp <;> with_reducible rfl)
  try simp only [Act.put, List.setIfInBounds_toArray, List.set_cons_zero, List.set_cons_succ]
  refine wpG_pure (i := 6) (oi := { dst := some 30, op := Go.Op.extract (Go.Operand.tmp 24) 0, type := 9, pos := "exact.go:3627", after := #[{ on := 5, ground := Go.Ground.data }], guard := none }) (v := ?vg7) rfl (by kernel_rfl) (fun _ _ _ h => h) (Or.inl (by kernel_rfl)) (Or.inl ⟨by rfl, ?yg7⟩) ?_
  case yg7 => (intro wS _; go_simp <;> with_reducible rfl)
  try simp only [Act.put, List.setIfInBounds_toArray, List.set_cons_zero, List.set_cons_succ]
  refine wpG_pure (i := 7) (oi := { dst := some 31, op := Go.Op.extract (Go.Operand.tmp 24) 1, type := 4, pos := "exact.go:3627", after := #[{ on := 5, ground := Go.Ground.data }, { on := 9, ground := Go.Ground.gcOnly Go.Departure.lateStores }], guard := none }) (v := ?vg8) rfl (by kernel_rfl) (fun _ _ _ h => h) (Or.inl (by kernel_rfl)) (Or.inl ⟨by rfl, ?yg8⟩) ?_
  case yg8 => (intro wS _; go_simp <;> with_reducible rfl)
  try simp only [Act.put, List.setIfInBounds_toArray, List.set_cons_zero, List.set_cons_succ]
  refine wpG_pure (i := 8) (oi := { dst := some 32, op := Go.Op.extract (Go.Operand.tmp 24) 2, type := 4, pos := "exact.go:3627", after := #[{ on := 5, ground := Go.Ground.data }, { on := 10, ground := Go.Ground.gcOnly Go.Departure.lateStores }], guard := none }) (v := ?vg9) rfl (by kernel_rfl) (fun _ _ _ h => h) (Or.inl (by kernel_rfl)) (Or.inl ⟨by rfl, ?yg9⟩) ?_
  case yg9 => (intro wS _; go_simp <;> with_reducible rfl)
  try simp only [Act.put, List.setIfInBounds_toArray, List.set_cons_zero, List.set_cons_succ]
  refine wpG_pure (i := 9) (oi := { dst := some 6, op := Go.Op.assign (Go.Operand.tmp 30), type := 9, pos := "exact.go:3627", after := #[{ on := 6, ground := Go.Ground.data }, { on := 4, ground := Go.Ground.chain }, { on := 0, ground := Go.Ground.phase }, { on := 1, ground := Go.Ground.phase }, { on := 2, ground := Go.Ground.phase }, { on := 3, ground := Go.Ground.phase }, { on := 4, ground := Go.Ground.phase }, { on := 5, ground := Go.Ground.phase }, { on := 6, ground := Go.Ground.phase }, { on := 7, ground := Go.Ground.textOnly Go.Departure.lateStores }, { on := 8, ground := Go.Ground.textOnly Go.Departure.lateStores }], guard := none }) (v := ?vg10) rfl (by kernel_rfl) (fun _ _ _ h => h) (Or.inl (by kernel_rfl)) (Or.inl ⟨by rfl, ?yg10⟩) ?_
  case yg10 => (intro wS _; go_simp <;> with_reducible rfl)
  try simp only [Act.put, List.setIfInBounds_toArray, List.set_cons_zero, List.set_cons_succ]
  refine wpG_pure (i := 10) (oi := { dst := some 7, op := Go.Op.assign (Go.Operand.tmp 31), type := 4, pos := "exact.go:3627", after := #[{ on := 7, ground := Go.Ground.data }, { on := 9, ground := Go.Ground.chain }, { on := 0, ground := Go.Ground.phase }, { on := 1, ground := Go.Ground.phase }, { on := 2, ground := Go.Ground.phase }, { on := 3, ground := Go.Ground.phase }, { on := 4, ground := Go.Ground.phase }, { on := 5, ground := Go.Ground.phase }, { on := 6, ground := Go.Ground.phase }, { on := 7, ground := Go.Ground.phase }, { on := 8, ground := Go.Ground.textOnly Go.Departure.lateStores }, { on := 9, ground := Go.Ground.phase }], guard := none }) (v := ?vg11) rfl (by kernel_rfl) (fun _ _ _ h => h) (Or.inl (by kernel_rfl)) (Or.inl ⟨by rfl, ?yg11⟩) ?_
  case yg11 => (intro wS _; go_simp <;> with_reducible rfl)
  try simp only [Act.put, List.setIfInBounds_toArray, List.set_cons_zero, List.set_cons_succ]
  refine wpG_pure (i := 11) (oi := { dst := some 8, op := Go.Op.assign (Go.Operand.tmp 32), type := 4, pos := "exact.go:3627", after := #[{ on := 8, ground := Go.Ground.data }, { on := 10, ground := Go.Ground.chain }, { on := 0, ground := Go.Ground.phase }, { on := 1, ground := Go.Ground.phase }, { on := 2, ground := Go.Ground.phase }, { on := 3, ground := Go.Ground.phase }, { on := 4, ground := Go.Ground.phase }, { on := 5, ground := Go.Ground.phase }, { on := 6, ground := Go.Ground.phase }, { on := 7, ground := Go.Ground.phase }, { on := 8, ground := Go.Ground.phase }, { on := 9, ground := Go.Ground.phase }, { on := 10, ground := Go.Ground.phase }], guard := none }) (v := ?vg12) rfl (by kernel_rfl) (fun _ _ _ h => h) (Or.inl (by kernel_rfl)) (Or.inl ⟨by rfl, ?yg12⟩) ?_
  case yg12 => (intro wS _; go_simp <;> with_reducible rfl)
  try simp only [Act.put, List.setIfInBounds_toArray, List.set_cons_zero, List.set_cons_succ]
  refine wpG_done (by kernel_rfl) ?_
  go_wp2_with fail
  refine (HTO0.out _ (box2_below HB_49.out)).mono ?_
  rintro e w_4 ⟨cs_59, fp_59, he, ho, hnd, hge, hb⟩
  have hrd := kMachine_ok.ord ho (B := w_4.heap.size) (kMachine_ok.olt ho)
  obtain ⟨ea0_59, ecap0_59, ea1_59, ecap1_59, rfl, _, _⟩ := Machine_rd hrd
  change e = .returned (.agg #[.slice ea0_59 a0.1.length ecap0_59, .slice ea1_59 a0.2.length ecap1_59]) at he
  subst he
  have hrd2 := kMachine_ok.ord ho (B := w_4.heap.size) (kMachine_ok.olt ho)
  have OW_60 := Lib.hid ho; have HN_63 := Lib.hid hnd
  have HL_61 : Hid (∀ b ∈ fp_59, w_3.heap.size ≤ b) := Lib.hid fun b hm => by have := hge b hm; first | omega | (simp at this; omega)
  have HH_62 : Hid (∀ b ∈ fp_59, b < w_4.heap.size) := Lib.hid (kMachine_ok.olt ho)
  have RD_64 := Lib.hid hrd2; clear ho hnd hge hrd2 hrd
  have hb_65 := hb; clear hb
  have hz_66 : w_3.heap.size ≤ w_4.heap.size := by have := (hb_65).size; first | omega | (simp at this; omega)
  have HB_67 := Lib.hid (box2_step HB_49.out hb_65)
  have hz_68 : w.heap.size + 2 ≤ w_4.heap.size := Nat.le_trans hz_50 hz_66
  have c_69 : w_4.cell? ⟨w.heap.size, 0, none⟩ = some (.slice ea0_0 a0.1.length ecap0_0) := below_later (hb_65) c_51; clear c_51
  have c_70 : w_4.cell? ⟨w.heap.size, 1, none⟩ = some (.slice ea0_1 a0.2.length ecap0_1) := below_later (hb_65) c_52; clear c_52
  have c_71 : w_4.cell? ⟨w.heap.size + 1, 0, none⟩ = some (.slice ea1_0 a1.1.length ecap1_0) := below_later (hb_65) c_53; clear c_53
  have c_72 : w_4.cell? ⟨w.heap.size + 1, 1, none⟩ = some (.slice ea1_1 a1.2.length ecap1_1) := below_later (hb_65) c_54; clear c_54
  have HQ := Lib.hid hb_65; clear hb_65 HQ
  have hz_73 : w_4.heap.size ≤ w_4.heap.size := Nat.le_refl _
  have hb_74 : Below w_4.heap.size w_4 (w_4.alloc (.cells #[.slice ea0_59 a0.1.length ecap0_59, .slice ea1_59 a0.2.length ecap1_59] 28)) := (Below.refl _ _).alloc (Nat.le_refl _) _
  have hz_75 : w_4.heap.size ≤ w_4.heap.size + 1 := by have := (hb_74).size; first | omega | (simp at this; omega)
  have HB_76 := Lib.hid (box2_step HB_67.out hb_74)
  have hz_77 : w.heap.size + 2 ≤ w_4.heap.size + 1 := Nat.le_trans hz_68 hz_75
  have c_78 : (w_4.alloc (.cells #[.slice ea0_59 a0.1.length ecap0_59, .slice ea1_59 a0.2.length ecap1_59] 28)).cell? ⟨w.heap.size, 0, none⟩ = some (.slice ea0_0 a0.1.length ecap0_0) := below_later (hb_74) c_69; clear c_69
  have c_79 : (w_4.alloc (.cells #[.slice ea0_59 a0.1.length ecap0_59, .slice ea1_59 a0.2.length ecap1_59] 28)).cell? ⟨w.heap.size, 1, none⟩ = some (.slice ea0_1 a0.2.length ecap0_1) := below_later (hb_74) c_70; clear c_70
  have c_80 : (w_4.alloc (.cells #[.slice ea0_59 a0.1.length ecap0_59, .slice ea1_59 a0.2.length ecap1_59] 28)).cell? ⟨w.heap.size + 1, 0, none⟩ = some (.slice ea1_0 a1.1.length ecap1_0) := below_later (hb_74) c_71; clear c_71
  have c_81 : (w_4.alloc (.cells #[.slice ea0_59 a0.1.length ecap0_59, .slice ea1_59 a0.2.length ecap1_59] 28)).cell? ⟨w.heap.size + 1, 1, none⟩ = some (.slice ea1_1 a1.2.length ecap1_1) := below_later (hb_74) c_72; clear c_72
  have OW_82 := Lib.hid (kMachine_ok.oframe OW_60.out (w' := (w_4.alloc (.cells #[.slice ea0_59 a0.1.length ecap0_59, .slice ea1_59 a0.2.length ecap1_59] 28))) fun b hm => (hb_74).block b (kMachine_ok.olt OW_60.out b hm)); clear OW_60
  have hz_83 : w_4.heap.size ≤ w_4.heap.size + 1 := Nat.le_trans hz_73 hz_75
  clear hb_74
  have c_84 : (w_4.alloc (.cells #[.slice ea0_59 a0.1.length ecap0_59, .slice ea1_59 a0.2.length ecap1_59] 28)).cell? ⟨w_4.heap.size, 0, none⟩ = some (.slice ea0_59 a0.1.length ecap0_59) := by go_simp
  have c_85 : (w_4.alloc (.cells #[.slice ea0_59 a0.1.length ecap0_59, .slice ea1_59 a0.2.length ecap1_59] 28)).cell? ⟨w_4.heap.size, 1, none⟩ = some (.slice ea1_59 a0.2.length ecap1_59) := by go_simp
  go_wp2_with fail
  refine (HTO1.out _ (box2_below HB_76.out)).mono ?_
  rintro e w_5 ⟨cs_86, fp_86, he, ho, hnd, hge, hb⟩
  have hrd := kMachine_ok.ord ho (B := w_5.heap.size) (kMachine_ok.olt ho)
  obtain ⟨ea0_86, ecap0_86, ea1_86, ecap1_86, rfl, _, _⟩ := Machine_rd hrd
  change e = .returned (.agg #[.slice ea0_86 a1.1.length ecap0_86, .slice ea1_86 a1.2.length ecap1_86]) at he
  subst he
  have hrd2 := kMachine_ok.ord ho (B := w_5.heap.size) (kMachine_ok.olt ho)
  have OW_87 := Lib.hid ho; have HN_90 := Lib.hid hnd
  have HL_88 : Hid (∀ b ∈ fp_86, w_4.heap.size + 1 ≤ b) := Lib.hid fun b hm => by have := hge b hm; first | omega | (simp at this; omega)
  have HH_89 : Hid (∀ b ∈ fp_86, b < w_5.heap.size) := Lib.hid (kMachine_ok.olt ho)
  have RD_91 := Lib.hid hrd2; clear ho hnd hge hrd2 hrd
  have hb_92 := hb; clear hb
  have hz_93 : w_4.heap.size + 1 ≤ w_5.heap.size := by have := (hb_92).size; first | omega | (simp at this; omega)
  have HB_94 := Lib.hid (box2_step HB_76.out hb_92)
  have hz_95 : w.heap.size + 2 ≤ w_5.heap.size := Nat.le_trans hz_77 hz_93
  have c_96 : w_5.cell? ⟨w.heap.size, 0, none⟩ = some (.slice ea0_0 a0.1.length ecap0_0) := below_later (hb_92) c_78; clear c_78
  have c_97 : w_5.cell? ⟨w.heap.size, 1, none⟩ = some (.slice ea0_1 a0.2.length ecap0_1) := below_later (hb_92) c_79; clear c_79
  have c_98 : w_5.cell? ⟨w.heap.size + 1, 0, none⟩ = some (.slice ea1_0 a1.1.length ecap1_0) := below_later (hb_92) c_80; clear c_80
  have c_99 : w_5.cell? ⟨w.heap.size + 1, 1, none⟩ = some (.slice ea1_1 a1.2.length ecap1_1) := below_later (hb_92) c_81; clear c_81
  have c_100 : w_5.cell? ⟨w_4.heap.size, 0, none⟩ = some (.slice ea0_59 a0.1.length ecap0_59) := below_later (hb_92) c_84; clear c_84
  have c_101 : w_5.cell? ⟨w_4.heap.size, 1, none⟩ = some (.slice ea1_59 a0.2.length ecap1_59) := below_later (hb_92) c_85; clear c_85
  have OW_102 := Lib.hid (kMachine_ok.oframe OW_82.out (w' := w_5) fun b hm => (hb_92).block b (kMachine_ok.olt OW_82.out b hm)); clear OW_82
  have hz_103 : w_4.heap.size ≤ w_5.heap.size := Nat.le_trans hz_83 hz_93
  have HQ := Lib.hid hb_92; clear hb_92 HQ
  have hz_104 : w_5.heap.size ≤ w_5.heap.size := Nat.le_refl _
  have hb_105 : Below w_5.heap.size w_5 (w_5.alloc (.cells #[.slice ea0_86 a1.1.length ecap0_86, .slice ea1_86 a1.2.length ecap1_86] 28)) := (Below.refl _ _).alloc (Nat.le_refl _) _
  have hz_106 : w_5.heap.size ≤ w_5.heap.size + 1 := by have := (hb_105).size; first | omega | (simp at this; omega)
  have HB_107 := Lib.hid (box2_step HB_94.out hb_105)
  have hz_108 : w.heap.size + 2 ≤ w_5.heap.size + 1 := Nat.le_trans hz_95 hz_106
  have c_109 : (w_5.alloc (.cells #[.slice ea0_86 a1.1.length ecap0_86, .slice ea1_86 a1.2.length ecap1_86] 28)).cell? ⟨w.heap.size, 0, none⟩ = some (.slice ea0_0 a0.1.length ecap0_0) := below_later (hb_105) c_96; clear c_96
  have c_110 : (w_5.alloc (.cells #[.slice ea0_86 a1.1.length ecap0_86, .slice ea1_86 a1.2.length ecap1_86] 28)).cell? ⟨w.heap.size, 1, none⟩ = some (.slice ea0_1 a0.2.length ecap0_1) := below_later (hb_105) c_97; clear c_97
  have c_111 : (w_5.alloc (.cells #[.slice ea0_86 a1.1.length ecap0_86, .slice ea1_86 a1.2.length ecap1_86] 28)).cell? ⟨w.heap.size + 1, 0, none⟩ = some (.slice ea1_0 a1.1.length ecap1_0) := below_later (hb_105) c_98; clear c_98
  have c_112 : (w_5.alloc (.cells #[.slice ea0_86 a1.1.length ecap0_86, .slice ea1_86 a1.2.length ecap1_86] 28)).cell? ⟨w.heap.size + 1, 1, none⟩ = some (.slice ea1_1 a1.2.length ecap1_1) := below_later (hb_105) c_99; clear c_99
  have c_113 : (w_5.alloc (.cells #[.slice ea0_86 a1.1.length ecap0_86, .slice ea1_86 a1.2.length ecap1_86] 28)).cell? ⟨w_4.heap.size, 0, none⟩ = some (.slice ea0_59 a0.1.length ecap0_59) := below_later (hb_105) c_100; clear c_100
  have c_114 : (w_5.alloc (.cells #[.slice ea0_86 a1.1.length ecap0_86, .slice ea1_86 a1.2.length ecap1_86] 28)).cell? ⟨w_4.heap.size, 1, none⟩ = some (.slice ea1_59 a0.2.length ecap1_59) := below_later (hb_105) c_101; clear c_101
  have OW_115 := Lib.hid (kMachine_ok.oframe OW_102.out (w' := (w_5.alloc (.cells #[.slice ea0_86 a1.1.length ecap0_86, .slice ea1_86 a1.2.length ecap1_86] 28))) fun b hm => (hb_105).block b (kMachine_ok.olt OW_102.out b hm)); clear OW_102
  have hz_116 : w_4.heap.size ≤ w_5.heap.size + 1 := Nat.le_trans hz_103 hz_106
  have OW_117 := Lib.hid (kMachine_ok.oframe OW_87.out (w' := (w_5.alloc (.cells #[.slice ea0_86 a1.1.length ecap0_86, .slice ea1_86 a1.2.length ecap1_86] 28))) fun b hm => (hb_105).block b (kMachine_ok.olt OW_87.out b hm)); clear OW_87
  have hz_118 : w_5.heap.size ≤ w_5.heap.size + 1 := Nat.le_trans hz_104 hz_106
  clear hb_105
  have c_119 : (w_5.alloc (.cells #[.slice ea0_86 a1.1.length ecap0_86, .slice ea1_86 a1.2.length ecap1_86] 28)).cell? ⟨w_5.heap.size, 0, none⟩ = some (.slice ea0_86 a1.1.length ecap0_86) := by go_simp
  have c_120 : (w_5.alloc (.cells #[.slice ea0_86 a1.1.length ecap0_86, .slice ea1_86 a1.2.length ecap1_86] 28)).cell? ⟨w_5.heap.size, 1, none⟩ = some (.slice ea1_86 a1.2.length ecap1_86) := by go_simp
  go_wp2_with fail
  refine (HI.out _ [.slice ea0_59 a0.1.length ecap0_59, .slice ea1_59 a0.2.length ecap1_59] [.slice ea0_86 a1.1.length ecap0_86, .slice ea1_86 a1.2.length ecap1_86] (kMachine_ok.ord OW_115.out (fun b hm => by have := HH_62.out b hm; first | omega | (simp; done) | (simp; omega))) (kMachine_ok.ord OW_117.out (fun b hm => by have := HH_89.out b hm; first | omega | (simp; done) | (simp; omega)))).mono ?_
  rintro e w_6 ⟨rfl, hb⟩
  have hb_122 := hb; clear hb
  have hz_123 : w_5.heap.size + 1 ≤ w_6.heap.size := by have := (hb_122).size; first | omega | (simp at this; omega)
  have HB_124 := Lib.hid (box2_step HB_107.out hb_122)
  have hz_125 : w.heap.size + 2 ≤ w_6.heap.size := Nat.le_trans hz_108 hz_123
  have c_126 : w_6.cell? ⟨w.heap.size, 0, none⟩ = some (.slice ea0_0 a0.1.length ecap0_0) := below_later (hb_122) c_109; clear c_109
  have c_127 : w_6.cell? ⟨w.heap.size, 1, none⟩ = some (.slice ea0_1 a0.2.length ecap0_1) := below_later (hb_122) c_110; clear c_110
  have c_128 : w_6.cell? ⟨w.heap.size + 1, 0, none⟩ = some (.slice ea1_0 a1.1.length ecap1_0) := below_later (hb_122) c_111; clear c_111
  have c_129 : w_6.cell? ⟨w.heap.size + 1, 1, none⟩ = some (.slice ea1_1 a1.2.length ecap1_1) := below_later (hb_122) c_112; clear c_112
  have c_130 : w_6.cell? ⟨w_4.heap.size, 0, none⟩ = some (.slice ea0_59 a0.1.length ecap0_59) := below_later (hb_122) c_113; clear c_113
  have c_131 : w_6.cell? ⟨w_4.heap.size, 1, none⟩ = some (.slice ea1_59 a0.2.length ecap1_59) := below_later (hb_122) c_114; clear c_114
  have c_132 : w_6.cell? ⟨w_5.heap.size, 0, none⟩ = some (.slice ea0_86 a1.1.length ecap0_86) := below_later (hb_122) c_119; clear c_119
  have c_133 : w_6.cell? ⟨w_5.heap.size, 1, none⟩ = some (.slice ea1_86 a1.2.length ecap1_86) := below_later (hb_122) c_120; clear c_120
  have OW_134 := Lib.hid (kMachine_ok.oframe OW_115.out (w' := w_6) fun b hm => (hb_122).block b (kMachine_ok.olt OW_115.out b hm)); clear OW_115
  have hz_135 : w_4.heap.size ≤ w_6.heap.size := Nat.le_trans hz_116 hz_123
  have OW_136 := Lib.hid (kMachine_ok.oframe OW_117.out (w' := w_6) fun b hm => (hb_122).block b (kMachine_ok.olt OW_117.out b hm)); clear OW_117
  have hz_137 : w_5.heap.size ≤ w_6.heap.size := Nat.le_trans hz_118 hz_123
  clear hb_122
  go_wp2_with fail
  have hb_138 : Below w_6.heap.size w_6 w_6.drew := (Below.refl _ _).drew
  have hz_139 : w_6.heap.size ≤ w_6.heap.size := by have := (hb_138).size; first | omega | (simp at this; omega)
  have HB_140 := Lib.hid (box2_step HB_124.out hb_138)
  have hz_141 : w.heap.size + 2 ≤ w_6.heap.size := Nat.le_trans hz_125 hz_139
  have c_142 : w_6.drew.cell? ⟨w.heap.size, 0, none⟩ = some (.slice ea0_0 a0.1.length ecap0_0) := below_later (hb_138) c_126; clear c_126
  have c_143 : w_6.drew.cell? ⟨w.heap.size, 1, none⟩ = some (.slice ea0_1 a0.2.length ecap0_1) := below_later (hb_138) c_127; clear c_127
  have c_144 : w_6.drew.cell? ⟨w.heap.size + 1, 0, none⟩ = some (.slice ea1_0 a1.1.length ecap1_0) := below_later (hb_138) c_128; clear c_128
  have c_145 : w_6.drew.cell? ⟨w.heap.size + 1, 1, none⟩ = some (.slice ea1_1 a1.2.length ecap1_1) := below_later (hb_138) c_129; clear c_129
  have c_146 : w_6.drew.cell? ⟨w_4.heap.size, 0, none⟩ = some (.slice ea0_59 a0.1.length ecap0_59) := below_later (hb_138) c_130; clear c_130
  have c_147 : w_6.drew.cell? ⟨w_4.heap.size, 1, none⟩ = some (.slice ea1_59 a0.2.length ecap1_59) := below_later (hb_138) c_131; clear c_131
  have c_148 : w_6.drew.cell? ⟨w_5.heap.size, 0, none⟩ = some (.slice ea0_86 a1.1.length ecap0_86) := below_later (hb_138) c_132; clear c_132
  have c_149 : w_6.drew.cell? ⟨w_5.heap.size, 1, none⟩ = some (.slice ea1_86 a1.2.length ecap1_86) := below_later (hb_138) c_133; clear c_133
  have OW_150 := Lib.hid (kMachine_ok.oframe OW_134.out (w' := w_6.drew) fun b hm => (hb_138).block b (kMachine_ok.olt OW_134.out b hm)); clear OW_134
  have hz_151 : w_4.heap.size ≤ w_6.heap.size := Nat.le_trans hz_135 hz_139
  have OW_152 := Lib.hid (kMachine_ok.oframe OW_136.out (w' := w_6.drew) fun b hm => (hb_138).block b (kMachine_ok.olt OW_136.out b hm)); clear OW_136
  have hz_153 : w_5.heap.size ≤ w_6.heap.size := Nat.le_trans hz_137 hz_139
  clear hb_138
  refine wp_region_G [3] (fun w' => w'.cell? ⟨w.heap.size, 0, none⟩ = some (.slice ea0_0 a0.1.length ecap0_0) ∧ w'.cell? ⟨w.heap.size, 1, none⟩ = some (.slice ea0_1 a0.2.length ecap0_1) ∧ w'.cell? ⟨w_4.heap.size, 0, none⟩ = some (.slice ea0_59 a0.1.length ecap0_59) ∧ w'.cell? ⟨w_4.heap.size, 1, none⟩ = some (.slice ea1_59 a0.2.length ecap1_59)) (by kernel_rfl) ?_ (fun hHeld => ?_)
  · exact ⟨c_142, c_143, c_146, c_147⟩
  refine wpG_load (i := 0) (oi := { dst := some 57, op := Go.Op.load 28 (Go.Operand.tmp 9), type := 28, pos := "exact.go:3634", after := #[], guard := none }) (v := ?vg13) [[3, 0]] rfl (by kernel_rfl) (fun _ _ _ h => h) hHeld (Or.inl ⟨by rfl, ?yg13⟩) ?_
  case yg13 => (intro wS hSw; (try dsimp only at hSw); go_simp <;> with_reducible rfl)
  try simp only [Act.put, List.setIfInBounds_toArray, List.set_cons_zero, List.set_cons_succ]
  refine wpG_load (i := 1) (oi := { dst := some 58, op := Go.Op.load 25 (Go.Operand.tmp 2), type := 25, pos := "exact.go:3634", after := #[], guard := none }) (v := ?vg14) [[3, 2, 1]] rfl (by kernel_rfl) (fun _ _ _ h => h) hHeld (Or.inl ⟨by rfl, ?yg14⟩) ?_
  case yg14 => (intro wS hSw; (try dsimp only at hSw); go_simp <;> with_reducible rfl)
  try simp only [Act.put, List.setIfInBounds_toArray, List.set_cons_zero, List.set_cons_succ]
  refine wpG_one (i := 2) (o := { dst := some 59, op := Go.Op.call { callee := Go.Callee.value (Go.Operand.func 13), args := #[Go.Operand.tmp 58], argTypes := #[25] }, type := 28, pos := "exact.go:3634", after := #[{ on := 1, ground := Go.Ground.data }], guard := none }) rfl (by kernel_rfl) (fun K hK => ?_)
  go_simp
  refine (HTO0.out _ (box2_below HB_140.out)).mono ?_
  rintro e w_7 ⟨cs_154, fp_154, he, ho, hnd, hge, hb⟩
  have hrd := kMachine_ok.ord ho (B := w_7.heap.size) (kMachine_ok.olt ho)
  obtain ⟨ea0_154, ecap0_154, ea1_154, ecap1_154, rfl, _, _⟩ := Machine_rd hrd
  change e = .returned (.agg #[.slice ea0_154 a0.1.length ecap0_154, .slice ea1_154 a0.2.length ecap1_154]) at he
  subst he
  have hrd2 := kMachine_ok.ord ho (B := w_7.heap.size) (kMachine_ok.olt ho)
  have OW_155 := Lib.hid ho; have HN_158 := Lib.hid hnd
  have HL_156 : Hid (∀ b ∈ fp_154, w_6.heap.size ≤ b) := Lib.hid fun b hm => by have := hge b hm; first | omega | (simp at this; omega)
  have HH_157 : Hid (∀ b ∈ fp_154, b < w_7.heap.size) := Lib.hid (kMachine_ok.olt ho)
  have RD_159 := Lib.hid hrd2; clear ho hnd hge hrd2 hrd
  have hb_160 := hb; clear hb
  have hz_161 : w_6.heap.size ≤ w_7.heap.size := by have := (hb_160).size; first | omega | (simp at this; omega)
  have HB_162 := Lib.hid (box2_step HB_140.out hb_160)
  have hz_163 : w.heap.size + 2 ≤ w_7.heap.size := Nat.le_trans hz_141 hz_161
  have c_164 : w_7.cell? ⟨w.heap.size, 0, none⟩ = some (.slice ea0_0 a0.1.length ecap0_0) := below_later (hb_160) c_142; clear c_142
  have c_165 : w_7.cell? ⟨w.heap.size, 1, none⟩ = some (.slice ea0_1 a0.2.length ecap0_1) := below_later (hb_160) c_143; clear c_143
  have c_166 : w_7.cell? ⟨w.heap.size + 1, 0, none⟩ = some (.slice ea1_0 a1.1.length ecap1_0) := below_later (hb_160) c_144; clear c_144
  have c_167 : w_7.cell? ⟨w.heap.size + 1, 1, none⟩ = some (.slice ea1_1 a1.2.length ecap1_1) := below_later (hb_160) c_145; clear c_145
  have c_168 : w_7.cell? ⟨w_4.heap.size, 0, none⟩ = some (.slice ea0_59 a0.1.length ecap0_59) := below_later (hb_160) c_146; clear c_146
  have c_169 : w_7.cell? ⟨w_4.heap.size, 1, none⟩ = some (.slice ea1_59 a0.2.length ecap1_59) := below_later (hb_160) c_147; clear c_147
  have c_170 : w_7.cell? ⟨w_5.heap.size, 0, none⟩ = some (.slice ea0_86 a1.1.length ecap0_86) := below_later (hb_160) c_148; clear c_148
  have c_171 : w_7.cell? ⟨w_5.heap.size, 1, none⟩ = some (.slice ea1_86 a1.2.length ecap1_86) := below_later (hb_160) c_149; clear c_149
  have OW_172 := Lib.hid (kMachine_ok.oframe OW_150.out (w' := w_7) fun b hm => (hb_160).block b (kMachine_ok.olt OW_150.out b hm)); clear OW_150
  have hz_173 : w_4.heap.size ≤ w_7.heap.size := Nat.le_trans hz_151 hz_161
  have OW_174 := Lib.hid (kMachine_ok.oframe OW_152.out (w' := w_7) fun b hm => (hb_160).block b (kMachine_ok.olt OW_152.out b hm)); clear OW_152
  have hz_175 : w_5.heap.size ≤ w_7.heap.size := Nat.le_trans hz_153 hz_161
  have HQ := Lib.hid hb_160; clear hb_160 HQ
  have hz_176 : w_7.heap.size ≤ w_7.heap.size := Nat.le_refl _
  refine hK.out _ _ (Or.inr ?khHeld15) (fun hHeld15S => ?_)
  case khHeld15 => exact ⟨c_164, c_165, c_168, c_169⟩
  have hHeld15 := hHeld15S.held (by kernel_rfl)
  clear hK K
  try simp only [Act.put, List.setIfInBounds_toArray, List.set_cons_zero, List.set_cons_succ]
  refine wpG_one (i := 3) (o := { dst := some 60, op := Go.Op.call { callee := Go.Callee.value (Go.Operand.func 15), args := #[Go.Operand.tmp 57, Go.Operand.tmp 59], argTypes := #[28, 28] }, type := 4, pos := "exact.go:3634", after := #[{ on := 0, ground := Go.Ground.data }, { on := 2, ground := Go.Ground.data }, { on := 2, ground := Go.Ground.chain }], guard := none }) rfl (by kernel_rfl) (fun K hK => ?_)
  go_simp
  refine (eq_Machine (w := w_7) (kMachine_ok.ord OW_172.out (fun b hm => by have := HH_62.out b hm; first | omega | (simp; done) | (simp; omega))) (kMachine_ok.rmono RD_159.out (by first | omega | (simp; done) | (simp; omega)))).mono ?_
  rintro e w_8 ⟨rfl, hb⟩
  have hb_177 := hb; clear hb
  have hz_178 : w_7.heap.size ≤ w_8.heap.size := by have := (hb_177).size; first | omega | (simp at this; omega)
  have HB_179 := Lib.hid (box2_step HB_162.out hb_177)
  have hz_180 : w.heap.size + 2 ≤ w_8.heap.size := Nat.le_trans hz_163 hz_178
  have c_181 : w_8.cell? ⟨w.heap.size, 0, none⟩ = some (.slice ea0_0 a0.1.length ecap0_0) := below_later (hb_177) c_164; clear c_164
  have c_182 : w_8.cell? ⟨w.heap.size, 1, none⟩ = some (.slice ea0_1 a0.2.length ecap0_1) := below_later (hb_177) c_165; clear c_165
  have c_183 : w_8.cell? ⟨w.heap.size + 1, 0, none⟩ = some (.slice ea1_0 a1.1.length ecap1_0) := below_later (hb_177) c_166; clear c_166
  have c_184 : w_8.cell? ⟨w.heap.size + 1, 1, none⟩ = some (.slice ea1_1 a1.2.length ecap1_1) := below_later (hb_177) c_167; clear c_167
  have c_185 : w_8.cell? ⟨w_4.heap.size, 0, none⟩ = some (.slice ea0_59 a0.1.length ecap0_59) := below_later (hb_177) c_168; clear c_168
  have c_186 : w_8.cell? ⟨w_4.heap.size, 1, none⟩ = some (.slice ea1_59 a0.2.length ecap1_59) := below_later (hb_177) c_169; clear c_169
  have c_187 : w_8.cell? ⟨w_5.heap.size, 0, none⟩ = some (.slice ea0_86 a1.1.length ecap0_86) := below_later (hb_177) c_170; clear c_170
  have c_188 : w_8.cell? ⟨w_5.heap.size, 1, none⟩ = some (.slice ea1_86 a1.2.length ecap1_86) := below_later (hb_177) c_171; clear c_171
  have RD_189 := Lib.hid (kMachine_ok.rbelow RD_159.out (Below.mono (hb_177) (by first | omega | (simp; done) | (simp; omega)))); clear RD_159
  have hz_190 : w_7.heap.size ≤ w_8.heap.size := Nat.le_trans hz_176 hz_178
  have OW_191 := Lib.hid (kMachine_ok.oframe OW_172.out (w' := w_8) fun b hm => (hb_177).block b (kMachine_ok.olt OW_172.out b hm)); clear OW_172
  have hz_192 : w_4.heap.size ≤ w_8.heap.size := Nat.le_trans hz_173 hz_178
  have OW_193 := Lib.hid (kMachine_ok.oframe OW_174.out (w' := w_8) fun b hm => (hb_177).block b (kMachine_ok.olt OW_174.out b hm)); clear OW_174
  have hz_194 : w_5.heap.size ≤ w_8.heap.size := Nat.le_trans hz_175 hz_178
  clear hb_177
  refine hK.out _ _ (Or.inl (by kernel_rfl)) (fun _ => ?_)
  clear hK K
  try simp only [Act.put, List.setIfInBounds_toArray, List.set_cons_zero, List.set_cons_succ]
  refine wpG_pure (i := 4) (oi := { dst := some 61, op := Go.Op.unOp Go.UnOp.not 4 (Go.Operand.tmp 60), type := 4, pos := "exact.go:3634", after := #[{ on := 3, ground := Go.Ground.data }], guard := none }) (v := ?vg17) rfl (by kernel_rfl) (fun _ _ _ h => h) (Or.inl (by kernel_rfl)) (Or.inl ⟨by rfl, ?yg17⟩) ?_
  case yg17 => (intro wS _; go_simp <;> with_reducible rfl)
  try simp only [Act.put, List.setIfInBounds_toArray, List.set_cons_zero, List.set_cons_succ]
  refine wpG_done (by kernel_rfl) ?_
  go_wp2_with fail
  have hb_195 : Below w_8.heap.size w_8 w_8.drew := (Below.refl _ _).drew
  have hz_196 : w_8.heap.size ≤ w_8.heap.size := by have := (hb_195).size; first | omega | (simp at this; omega)
  have HB_197 := Lib.hid (box2_step HB_179.out hb_195)
  have hz_198 : w.heap.size + 2 ≤ w_8.heap.size := Nat.le_trans hz_180 hz_196
  have c_199 : w_8.drew.cell? ⟨w.heap.size, 0, none⟩ = some (.slice ea0_0 a0.1.length ecap0_0) := below_later (hb_195) c_181; clear c_181
  have c_200 : w_8.drew.cell? ⟨w.heap.size, 1, none⟩ = some (.slice ea0_1 a0.2.length ecap0_1) := below_later (hb_195) c_182; clear c_182
  have c_201 : w_8.drew.cell? ⟨w.heap.size + 1, 0, none⟩ = some (.slice ea1_0 a1.1.length ecap1_0) := below_later (hb_195) c_183; clear c_183
  have c_202 : w_8.drew.cell? ⟨w.heap.size + 1, 1, none⟩ = some (.slice ea1_1 a1.2.length ecap1_1) := below_later (hb_195) c_184; clear c_184
  have c_203 : w_8.drew.cell? ⟨w_4.heap.size, 0, none⟩ = some (.slice ea0_59 a0.1.length ecap0_59) := below_later (hb_195) c_185; clear c_185
  have c_204 : w_8.drew.cell? ⟨w_4.heap.size, 1, none⟩ = some (.slice ea1_59 a0.2.length ecap1_59) := below_later (hb_195) c_186; clear c_186
  have c_205 : w_8.drew.cell? ⟨w_5.heap.size, 0, none⟩ = some (.slice ea0_86 a1.1.length ecap0_86) := below_later (hb_195) c_187; clear c_187
  have c_206 : w_8.drew.cell? ⟨w_5.heap.size, 1, none⟩ = some (.slice ea1_86 a1.2.length ecap1_86) := below_later (hb_195) c_188; clear c_188
  have OW_207 := Lib.hid (kMachine_ok.oframe OW_191.out (w' := w_8.drew) fun b hm => (hb_195).block b (kMachine_ok.olt OW_191.out b hm)); clear OW_191
  have hz_208 : w_4.heap.size ≤ w_8.heap.size := Nat.le_trans hz_192 hz_196
  have OW_209 := Lib.hid (kMachine_ok.oframe OW_193.out (w' := w_8.drew) fun b hm => (hb_195).block b (kMachine_ok.olt OW_193.out b hm)); clear OW_193
  have hz_210 : w_5.heap.size ≤ w_8.heap.size := Nat.le_trans hz_194 hz_196
  clear hb_195
  refine wp_region_G [3] (fun w' => w'.cell? ⟨w.heap.size + 1, 0, none⟩ = some (.slice ea1_0 a1.1.length ecap1_0) ∧ w'.cell? ⟨w.heap.size + 1, 1, none⟩ = some (.slice ea1_1 a1.2.length ecap1_1) ∧ w'.cell? ⟨w_5.heap.size, 0, none⟩ = some (.slice ea0_86 a1.1.length ecap0_86) ∧ w'.cell? ⟨w_5.heap.size, 1, none⟩ = some (.slice ea1_86 a1.2.length ecap1_86)) (by kernel_rfl) ?_ (fun hHeld => ?_)
  · exact ⟨c_201, c_202, c_205, c_206⟩
  refine wpG_load (i := 0) (oi := { dst := some 62, op := Go.Op.load 28 (Go.Operand.tmp 10), type := 28, pos := "exact.go:3637", after := #[], guard := none }) (v := ?vg18) [[3, 0]] rfl (by kernel_rfl) (fun _ _ _ h => h) hHeld (Or.inl ⟨by rfl, ?yg18⟩) ?_
  case yg18 => (intro wS hSw; (try dsimp only at hSw); go_simp <;> with_reducible rfl)
  try simp only [Act.put, List.setIfInBounds_toArray, List.set_cons_zero, List.set_cons_succ]
  refine wpG_load (i := 1) (oi := { dst := some 63, op := Go.Op.load 25 (Go.Operand.tmp 3), type := 25, pos := "exact.go:3637", after := #[], guard := none }) (v := ?vg19) [[3, 2, 1]] rfl (by kernel_rfl) (fun _ _ _ h => h) hHeld (Or.inl ⟨by rfl, ?yg19⟩) ?_
  case yg19 => (intro wS hSw; (try dsimp only at hSw); go_simp <;> with_reducible rfl)
  try simp only [Act.put, List.setIfInBounds_toArray, List.set_cons_zero, List.set_cons_succ]
  refine wpG_one (i := 2) (o := { dst := some 64, op := Go.Op.call { callee := Go.Callee.value (Go.Operand.func 13), args := #[Go.Operand.tmp 63], argTypes := #[25] }, type := 28, pos := "exact.go:3637", after := #[{ on := 1, ground := Go.Ground.data }], guard := none }) rfl (by kernel_rfl) (fun K hK => ?_)
  go_simp
  refine (HTO1.out _ (box2_below HB_197.out)).mono ?_
  rintro e w_9 ⟨cs_211, fp_211, he, ho, hnd, hge, hb⟩
  have hrd := kMachine_ok.ord ho (B := w_9.heap.size) (kMachine_ok.olt ho)
  obtain ⟨ea0_211, ecap0_211, ea1_211, ecap1_211, rfl, _, _⟩ := Machine_rd hrd
  change e = .returned (.agg #[.slice ea0_211 a1.1.length ecap0_211, .slice ea1_211 a1.2.length ecap1_211]) at he
  subst he
  have hrd2 := kMachine_ok.ord ho (B := w_9.heap.size) (kMachine_ok.olt ho)
  have OW_212 := Lib.hid ho; have HN_215 := Lib.hid hnd
  have HL_213 : Hid (∀ b ∈ fp_211, w_8.heap.size ≤ b) := Lib.hid fun b hm => by have := hge b hm; first | omega | (simp at this; omega)
  have HH_214 : Hid (∀ b ∈ fp_211, b < w_9.heap.size) := Lib.hid (kMachine_ok.olt ho)
  have RD_216 := Lib.hid hrd2; clear ho hnd hge hrd2 hrd
  have hb_217 := hb; clear hb
  have hz_218 : w_8.heap.size ≤ w_9.heap.size := by have := (hb_217).size; first | omega | (simp at this; omega)
  have HB_219 := Lib.hid (box2_step HB_197.out hb_217)
  have hz_220 : w.heap.size + 2 ≤ w_9.heap.size := Nat.le_trans hz_198 hz_218
  have c_221 : w_9.cell? ⟨w.heap.size, 0, none⟩ = some (.slice ea0_0 a0.1.length ecap0_0) := below_later (hb_217) c_199; clear c_199
  have c_222 : w_9.cell? ⟨w.heap.size, 1, none⟩ = some (.slice ea0_1 a0.2.length ecap0_1) := below_later (hb_217) c_200; clear c_200
  have c_223 : w_9.cell? ⟨w.heap.size + 1, 0, none⟩ = some (.slice ea1_0 a1.1.length ecap1_0) := below_later (hb_217) c_201; clear c_201
  have c_224 : w_9.cell? ⟨w.heap.size + 1, 1, none⟩ = some (.slice ea1_1 a1.2.length ecap1_1) := below_later (hb_217) c_202; clear c_202
  have c_225 : w_9.cell? ⟨w_4.heap.size, 0, none⟩ = some (.slice ea0_59 a0.1.length ecap0_59) := below_later (hb_217) c_203; clear c_203
  have c_226 : w_9.cell? ⟨w_4.heap.size, 1, none⟩ = some (.slice ea1_59 a0.2.length ecap1_59) := below_later (hb_217) c_204; clear c_204
  have c_227 : w_9.cell? ⟨w_5.heap.size, 0, none⟩ = some (.slice ea0_86 a1.1.length ecap0_86) := below_later (hb_217) c_205; clear c_205
  have c_228 : w_9.cell? ⟨w_5.heap.size, 1, none⟩ = some (.slice ea1_86 a1.2.length ecap1_86) := below_later (hb_217) c_206; clear c_206
  have OW_229 := Lib.hid (kMachine_ok.oframe OW_207.out (w' := w_9) fun b hm => (hb_217).block b (kMachine_ok.olt OW_207.out b hm)); clear OW_207
  have hz_230 : w_4.heap.size ≤ w_9.heap.size := Nat.le_trans hz_208 hz_218
  have OW_231 := Lib.hid (kMachine_ok.oframe OW_209.out (w' := w_9) fun b hm => (hb_217).block b (kMachine_ok.olt OW_209.out b hm)); clear OW_209
  have hz_232 : w_5.heap.size ≤ w_9.heap.size := Nat.le_trans hz_210 hz_218
  have HQ := Lib.hid hb_217; clear hb_217 HQ
  have hz_233 : w_9.heap.size ≤ w_9.heap.size := Nat.le_refl _
  refine hK.out _ _ (Or.inr ?khHeld20) (fun hHeld20S => ?_)
  case khHeld20 => exact ⟨c_223, c_224, c_227, c_228⟩
  have hHeld20 := hHeld20S.held (by kernel_rfl)
  clear hK K
  try simp only [Act.put, List.setIfInBounds_toArray, List.set_cons_zero, List.set_cons_succ]
  refine wpG_one (i := 3) (o := { dst := some 65, op := Go.Op.call { callee := Go.Callee.value (Go.Operand.func 15), args := #[Go.Operand.tmp 62, Go.Operand.tmp 64], argTypes := #[28, 28] }, type := 4, pos := "exact.go:3637", after := #[{ on := 0, ground := Go.Ground.data }, { on := 2, ground := Go.Ground.data }, { on := 2, ground := Go.Ground.chain }], guard := none }) rfl (by kernel_rfl) (fun K hK => ?_)
  go_simp
  refine (eq_Machine (w := w_9) (kMachine_ok.ord OW_231.out (fun b hm => by have := HH_89.out b hm; first | omega | (simp; done) | (simp; omega))) (kMachine_ok.rmono RD_216.out (by first | omega | (simp; done) | (simp; omega)))).mono ?_
  rintro e w_10 ⟨rfl, hb⟩
  have hb_234 := hb; clear hb
  have hz_235 : w_9.heap.size ≤ w_10.heap.size := by have := (hb_234).size; first | omega | (simp at this; omega)
  have HB_236 := Lib.hid (box2_step HB_219.out hb_234)
  have hz_237 : w.heap.size + 2 ≤ w_10.heap.size := Nat.le_trans hz_220 hz_235
  have c_238 : w_10.cell? ⟨w.heap.size, 0, none⟩ = some (.slice ea0_0 a0.1.length ecap0_0) := below_later (hb_234) c_221; clear c_221
  have c_239 : w_10.cell? ⟨w.heap.size, 1, none⟩ = some (.slice ea0_1 a0.2.length ecap0_1) := below_later (hb_234) c_222; clear c_222
  have c_240 : w_10.cell? ⟨w.heap.size + 1, 0, none⟩ = some (.slice ea1_0 a1.1.length ecap1_0) := below_later (hb_234) c_223; clear c_223
  have c_241 : w_10.cell? ⟨w.heap.size + 1, 1, none⟩ = some (.slice ea1_1 a1.2.length ecap1_1) := below_later (hb_234) c_224; clear c_224
  have c_242 : w_10.cell? ⟨w_4.heap.size, 0, none⟩ = some (.slice ea0_59 a0.1.length ecap0_59) := below_later (hb_234) c_225; clear c_225
  have c_243 : w_10.cell? ⟨w_4.heap.size, 1, none⟩ = some (.slice ea1_59 a0.2.length ecap1_59) := below_later (hb_234) c_226; clear c_226
  have c_244 : w_10.cell? ⟨w_5.heap.size, 0, none⟩ = some (.slice ea0_86 a1.1.length ecap0_86) := below_later (hb_234) c_227; clear c_227
  have c_245 : w_10.cell? ⟨w_5.heap.size, 1, none⟩ = some (.slice ea1_86 a1.2.length ecap1_86) := below_later (hb_234) c_228; clear c_228
  have RD_246 := Lib.hid (kMachine_ok.rbelow RD_216.out (Below.mono (hb_234) (by first | omega | (simp; done) | (simp; omega)))); clear RD_216
  have hz_247 : w_9.heap.size ≤ w_10.heap.size := Nat.le_trans hz_233 hz_235
  have OW_248 := Lib.hid (kMachine_ok.oframe OW_229.out (w' := w_10) fun b hm => (hb_234).block b (kMachine_ok.olt OW_229.out b hm)); clear OW_229
  have hz_249 : w_4.heap.size ≤ w_10.heap.size := Nat.le_trans hz_230 hz_235
  have OW_250 := Lib.hid (kMachine_ok.oframe OW_231.out (w' := w_10) fun b hm => (hb_234).block b (kMachine_ok.olt OW_231.out b hm)); clear OW_231
  have hz_251 : w_5.heap.size ≤ w_10.heap.size := Nat.le_trans hz_232 hz_235
  clear hb_234
  refine hK.out _ _ (Or.inl (by kernel_rfl)) (fun _ => ?_)
  clear hK K
  try simp only [Act.put, List.setIfInBounds_toArray, List.set_cons_zero, List.set_cons_succ]
  refine wpG_pure (i := 4) (oi := { dst := some 66, op := Go.Op.unOp Go.UnOp.not 4 (Go.Operand.tmp 65), type := 4, pos := "exact.go:3637", after := #[{ on := 3, ground := Go.Ground.data }], guard := none }) (v := ?vg22) rfl (by kernel_rfl) (fun _ _ _ h => h) (Or.inl (by kernel_rfl)) (Or.inl ⟨by rfl, ?yg22⟩) ?_
  case yg22 => (intro wS _; go_simp <;> with_reducible rfl)
  try simp only [Act.put, List.setIfInBounds_toArray, List.set_cons_zero, List.set_cons_succ]
  refine wpG_done (by kernel_rfl) ?_
  go_wp2_with fail
  go_ret
  exact ⟨rfl, (box2_below HB_236.out)⟩

end Go.Proofs.Ytedjahinlpehgaa.fnExactSameLanguage
