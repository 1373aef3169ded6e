/- The walk of FnExactRunMachine: whatever the arguments, the call returns true and writes nothing that was there. -/
import Derived.Deep.RegionHeld3
import Derived.Test.YtedjahinlpehgaaRun
namespace Go.Proofs.Ytedjahinlpehgaa.fnExactRunMachine
open Go.ChangeShapes Go.WideShapes Go.ChangeAt Go.RowKit
open Go.ChangeMaps (open_string shut_string)
set_option linter.unusedVariables false

set_option maxHeartbeats 1000000 in
set_option maxRecDepth 100000 in
theorem walk (w : World) (v0 : Value) (a0 : ((List (List Int)) × (List Bool))) (w0 : IsK kMachine (fun cs => .agg cs.toArray) w v0 a0) (a1 : ByteArray) (w1 : a1.size ≤ maxLen) :
    Calls Try.prog 4 #[v0, .string a1] w fun e w' => e = .returned (.bool true) ∧ Below w.heap.size w w' := by
  obtain ⟨cs0, rfl, hr0⟩ := w0
  have h63_1 : a1.size ≤ 9223372036854775807 := w1
  obtain ⟨ea0_0, ecap0_0, ea0_1, ecap0_1, rfl⟩ : ∃ ea0_0 ecap0_0 ea0_1 ecap0_1, cs0 = [.slice ea0_0 a0.1.length ecap0_0, .slice ea0_1 a0.2.length ecap0_1] := by
    obtain ⟨ea0_0, ecap0_0, ea0_1, ecap0_1, h, _⟩ := Machine_rd hr0
    exact ⟨ea0_0, ecap0_0, ea0_1, ecap0_1, h⟩
  have HR0 := Lib.hid hr0; clear hr0
  have HZ0 := Lib.hid (fun (lx : Int) (wx : World) (hb : Below w.heap.size w wx) (g0 : 0 ≤ lx) (g1 : lx ≤ 1048576) => sz_Machine lx (kMachine_ok.later HR0.out hb) g0 g1)
  have HB0 := Lib.hid (box_start w (.cells #[.slice ea0_0 a0.1.length ecap0_0, .slice ea0_1 a0.2.length ecap0_1] 25))
  by_cases gl1 : 1048576 < a1.size
  case pos =>
    go_enter Try.func4, Try.ntmps4
    go_wp2_with fail
    go_ret
    exact ⟨rfl, (Below.refl _ _).alloc (Nat.le_refl _) _⟩
  by_cases gz0 : (kMachine.wt a0 : Int) ≤ 1048576
  case neg =>
    have GZ0 : szR (1048576) (kMachine.wt a0) = -1 := szR_not gz0
    go_enter Try.func4, Try.ntmps4
    go_wp2_with fail
    refine (HZ0.out (1048576) _ ((Below.refl _ _).alloc (Nat.le_refl _) _) (by omega) (by omega)).mono ?_
    rw [GZ0]
    rintro e v1 ⟨rfl, hb⟩
    have HV1 := Lib.hid (box_step HB0.out hb); clear hb
    have ac0_0_v1 := box_cell HV1.out 0
    have ac0_1_v1 := box_cell HV1.out 1
    go_wp2_with fail
    go_ret
    exact ⟨rfl, (box_below HV1.out)⟩
  have GZ0 : szR (1048576) (kMachine.wt a0) = 1048576 - (kMachine.wt a0 : Int) := szR_fit gz0
  have HT : Hid (kMachine.wt a0 ≤ 1048576) := Lib.hid (by omega)
  skip
  have HS := Lib.hid (fun (wx : World) (cx0 : List Value) (h0 : kMachine.rd wx.heap.size wx (cx0) a0) => spec_RunMachine wx cx0 a0 a1 h0 w1 HT.out)
  have HI := Lib.hid (fun (wx : World) (cx0 : List Value) (h0 : kMachine.rd wx.heap.size wx (cx0) a0) => impl_RunMachine wx cx0 a0 a1 h0 w1 HT.out)
  have HTO0 := Lib.hid (fun (wx : World) (hb : Below w.heap.size w wx) => to_Machine (kMachine_ok.later HR0.out hb) (by have := HT.out; omega))
  generalize hR : R_RunMachine a0 a1 = R at *
  clear hR
  obtain ⟨r0, r1⟩ := R
  go_enter Try.func4, Try.ntmps4
  go_wp2_with fail
  refine (HZ0.out (1048576) _ ((Below.refl _ _).alloc (Nat.le_refl _) _) (by omega) (by omega)).mono ?_
  rw [GZ0]
  rintro e v1 ⟨rfl, hb⟩
  have HV1 := Lib.hid (box_step HB0.out hb); clear hb
  have ac0_0_v1 := box_cell HV1.out 0
  have ac0_1_v1 := box_cell HV1.out 1
  go_wp2_with fail
  have c_1 : v1.cell? ⟨w.heap.size, 0, none⟩ = some (.slice ea0_0 a0.1.length ecap0_0) := ac0_0_v1; clear ac0_0_v1
  have c_2 : v1.cell? ⟨w.heap.size, 1, none⟩ = some (.slice ea0_1 a0.2.length ecap0_1) := ac0_1_v1; clear ac0_1_v1
  have hz_3 : w.heap.size + 1 ≤ v1.heap.size := by have := (HV1.out).size; first | omega | (simp at this; omega)
  go_wp2_with fail
  refine (HTO0.out _ (box_below HV1.out)).mono ?_
  rintro e w_1 ⟨cs_4, fp_4, he, ho, hnd, hge, hb⟩
  have hrd := kMachine_ok.ord ho (B := w_1.heap.size) (kMachine_ok.olt ho)
  obtain ⟨ea0_4, ecap0_4, ea1_4, ecap1_4, rfl, _, _⟩ := Machine_rd hrd
  change e = .returned (.agg #[.slice ea0_4 a0.1.length ecap0_4, .slice ea1_4 a0.2.length ecap1_4]) at he
  subst he
  have hrd2 := kMachine_ok.ord ho (B := w_1.heap.size) (kMachine_ok.olt ho)
  have OW_5 := Lib.hid ho; have HN_8 := Lib.hid hnd
  have HL_6 : Hid (∀ b ∈ fp_4, v1.heap.size ≤ b) := Lib.hid fun b hm => by have := hge b hm; first | omega | (simp at this; omega)
  have HH_7 : Hid (∀ b ∈ fp_4, b < w_1.heap.size) := Lib.hid (kMachine_ok.olt ho)
  have RD_9 := Lib.hid hrd2; clear ho hnd hge hrd2 hrd
  have hb_10 := hb; clear hb
  have hz_11 : v1.heap.size ≤ w_1.heap.size := by have := (hb_10).size; first | omega | (simp at this; omega)
  have HB_12 := Lib.hid (box_step HV1.out hb_10)
  have hz_13 : w.heap.size + 1 ≤ w_1.heap.size := Nat.le_trans hz_3 hz_11
  have c_14 : w_1.cell? ⟨w.heap.size, 0, none⟩ = some (.slice ea0_0 a0.1.length ecap0_0) := below_later (hb_10) c_1; clear c_1
  have c_15 : w_1.cell? ⟨w.heap.size, 1, none⟩ = some (.slice ea0_1 a0.2.length ecap0_1) := below_later (hb_10) c_2; clear c_2
  have HQ := Lib.hid hb_10; clear hb_10 HQ
  have hz_16 : w_1.heap.size ≤ w_1.heap.size := Nat.le_refl _
  go_wp2_with fail
  refine (HS.out _ [.slice ea0_4 a0.1.length ecap0_4, .slice ea1_4 a0.2.length ecap1_4] (kMachine_ok.rmono RD_9.out (by first | omega | (simp; done) | (simp; omega)))).mono ?_
  rintro e w_2 ⟨rfl, hb⟩
  have hb_18 := hb; clear hb
  have hz_19 : w_1.heap.size ≤ w_2.heap.size := by have := (hb_18).size; first | omega | (simp at this; omega)
  have HB_20 := Lib.hid (box_step HB_12.out hb_18)
  have hz_21 : w.heap.size + 1 ≤ w_2.heap.size := Nat.le_trans hz_13 hz_19
  have c_22 : w_2.cell? ⟨w.heap.size, 0, none⟩ = some (.slice ea0_0 a0.1.length ecap0_0) := below_later (hb_18) c_14; clear c_14
  have c_23 : w_2.cell? ⟨w.heap.size, 1, none⟩ = some (.slice ea0_1 a0.2.length ecap0_1) := below_later (hb_18) c_15; clear c_15
  have RD_24 := Lib.hid (kMachine_ok.rbelow RD_9.out (Below.mono (hb_18) (by first | omega | (simp; done) | (simp; omega)))); clear RD_9
  have hz_25 : w_1.heap.size ≤ w_2.heap.size := Nat.le_trans hz_16 hz_19
  clear hb_18
  go_wp2_with fail
  refine (HTO0.out _ (box_below HB_20.out)).mono ?_
  rintro e w_3 ⟨cs_26, fp_26, he, ho, hnd, hge, hb⟩
  have hrd := kMachine_ok.ord ho (B := w_3.heap.size) (kMachine_ok.olt ho)
  obtain ⟨ea0_26, ecap0_26, ea1_26, ecap1_26, rfl, _, _⟩ := Machine_rd hrd
  change e = .returned (.agg #[.slice ea0_26 a0.1.length ecap0_26, .slice ea1_26 a0.2.length ecap1_26]) at he
  subst he
  have hrd2 := kMachine_ok.ord ho (B := w_3.heap.size) (kMachine_ok.olt ho)
  have OW_27 := Lib.hid ho; have HN_30 := Lib.hid hnd
  have HL_28 : Hid (∀ b ∈ fp_26, w_2.heap.size ≤ b) := Lib.hid fun b hm => by have := hge b hm; first | omega | (simp at this; omega)
  have HH_29 : Hid (∀ b ∈ fp_26, b < w_3.heap.size) := Lib.hid (kMachine_ok.olt ho)
  have RD_31 := Lib.hid hrd2; clear ho hnd hge hrd2 hrd
  have hb_32 := hb; clear hb
  have hz_33 : w_2.heap.size ≤ w_3.heap.size := by have := (hb_32).size; first | omega | (simp at this; omega)
  have HB_34 := Lib.hid (box_step HB_20.out hb_32)
  have hz_35 : w.heap.size + 1 ≤ w_3.heap.size := Nat.le_trans hz_21 hz_33
  have c_36 : w_3.cell? ⟨w.heap.size, 0, none⟩ = some (.slice ea0_0 a0.1.length ecap0_0) := below_later (hb_32) c_22; clear c_22
  have c_37 : w_3.cell? ⟨w.heap.size, 1, none⟩ = some (.slice ea0_1 a0.2.length ecap0_1) := below_later (hb_32) c_23; clear c_23
  have HQ := Lib.hid hb_32; clear hb_32 HQ
  have hz_38 : w_3.heap.size ≤ w_3.heap.size := Nat.le_refl _
  have hb_39 : Below w_3.heap.size w_3 (w_3.alloc (.cells #[.slice ea0_26 a0.1.length ecap0_26, .slice ea1_26 a0.2.length ecap1_26] 28)) := (Below.refl _ _).alloc (Nat.le_refl _) _
  have hz_40 : w_3.heap.size ≤ w_3.heap.size + 1 := by have := (hb_39).size; first | omega | (simp at this; omega)
  have HB_41 := Lib.hid (box_step HB_34.out hb_39)
  have hz_42 : w.heap.size + 1 ≤ w_3.heap.size + 1 := Nat.le_trans hz_35 hz_40
  have c_43 : (w_3.alloc (.cells #[.slice ea0_26 a0.1.length ecap0_26, .slice ea1_26 a0.2.length ecap1_26] 28)).cell? ⟨w.heap.size, 0, none⟩ = some (.slice ea0_0 a0.1.length ecap0_0) := below_later (hb_39) c_36; clear c_36
  have c_44 : (w_3.alloc (.cells #[.slice ea0_26 a0.1.length ecap0_26, .slice ea1_26 a0.2.length ecap1_26] 28)).cell? ⟨w.heap.size, 1, none⟩ = some (.slice ea0_1 a0.2.length ecap0_1) := below_later (hb_39) c_37; clear c_37
  have OW_45 := Lib.hid (kMachine_ok.oframe OW_27.out (w' := (w_3.alloc (.cells #[.slice ea0_26 a0.1.length ecap0_26, .slice ea1_26 a0.2.length ecap1_26] 28))) fun b hm => (hb_39).block b (kMachine_ok.olt OW_27.out b hm)); clear OW_27
  have hz_46 : w_3.heap.size ≤ w_3.heap.size + 1 := Nat.le_trans hz_38 hz_40
  clear hb_39
  have c_47 : (w_3.alloc (.cells #[.slice ea0_26 a0.1.length ecap0_26, .slice ea1_26 a0.2.length ecap1_26] 28)).cell? ⟨w_3.heap.size, 0, none⟩ = some (.slice ea0_26 a0.1.length ecap0_26) := by go_simp
  have c_48 : (w_3.alloc (.cells #[.slice ea0_26 a0.1.length ecap0_26, .slice ea1_26 a0.2.length ecap1_26] 28)).cell? ⟨w_3.heap.size, 1, none⟩ = some (.slice ea1_26 a0.2.length ecap1_26) := by go_simp
  go_wp2_with fail
  refine (HI.out _ [.slice ea0_26 a0.1.length ecap0_26, .slice ea1_26 a0.2.length ecap1_26] (kMachine_ok.ord OW_45.out (fun b hm => by have := HH_29.out b hm; first | omega | (simp; omega)))).mono ?_
  rintro e w_4 ⟨rfl, hb⟩
  have hb_50 := hb; clear hb
  have hz_51 : w_3.heap.size + 1 ≤ w_4.heap.size := by have := (hb_50).size; first | omega | (simp at this; omega)
  have HB_52 := Lib.hid (box_step HB_41.out hb_50)
  have hz_53 : w.heap.size + 1 ≤ w_4.heap.size := Nat.le_trans hz_42 hz_51
  have c_54 : w_4.cell? ⟨w.heap.size, 0, none⟩ = some (.slice ea0_0 a0.1.length ecap0_0) := below_later (hb_50) c_43; clear c_43
  have c_55 : w_4.cell? ⟨w.heap.size, 1, none⟩ = some (.slice ea0_1 a0.2.length ecap0_1) := below_later (hb_50) c_44; clear c_44
  have c_56 : w_4.cell? ⟨w_3.heap.size, 0, none⟩ = some (.slice ea0_26 a0.1.length ecap0_26) := below_later (hb_50) c_47; clear c_47
  have c_57 : w_4.cell? ⟨w_3.heap.size, 1, none⟩ = some (.slice ea1_26 a0.2.length ecap1_26) := below_later (hb_50) c_48; clear c_48
  have OW_58 := Lib.hid (kMachine_ok.oframe OW_45.out (w' := w_4) fun b hm => (hb_50).block b (kMachine_ok.olt OW_45.out b hm)); clear OW_45
  have hz_59 : w_3.heap.size ≤ w_4.heap.size := Nat.le_trans hz_46 hz_51
  clear hb_50
  go_wp2_with fail
  have hb_60 : Below w_4.heap.size w_4 w_4.drew := (Below.refl _ _).drew
  have hz_61 : w_4.heap.size ≤ w_4.heap.size := by have := (hb_60).size; first | omega | (simp at this; omega)
  have HB_62 := Lib.hid (box_step HB_52.out hb_60)
  have hz_63 : w.heap.size + 1 ≤ w_4.heap.size := Nat.le_trans hz_53 hz_61
  have c_64 : w_4.drew.cell? ⟨w.heap.size, 0, none⟩ = some (.slice ea0_0 a0.1.length ecap0_0) := below_later (hb_60) c_54; clear c_54
  have c_65 : w_4.drew.cell? ⟨w.heap.size, 1, none⟩ = some (.slice ea0_1 a0.2.length ecap0_1) := below_later (hb_60) c_55; clear c_55
  have c_66 : w_4.drew.cell? ⟨w_3.heap.size, 0, none⟩ = some (.slice ea0_26 a0.1.length ecap0_26) := below_later (hb_60) c_56; clear c_56
  have c_67 : w_4.drew.cell? ⟨w_3.heap.size, 1, none⟩ = some (.slice ea1_26 a0.2.length ecap1_26) := below_later (hb_60) c_57; clear c_57
  have OW_68 := Lib.hid (kMachine_ok.oframe OW_58.out (w' := w_4.drew) fun b hm => (hb_60).block b (kMachine_ok.olt OW_58.out b hm)); clear OW_58
  have hz_69 : w_3.heap.size ≤ w_4.heap.size := Nat.le_trans hz_59 hz_61
  clear hb_60
  refine wp_region_G [3] (fun w' => w'.cell? ⟨w.heap.size, 0, none⟩ = some (.slice ea0_0 a0.1.length ecap0_0) ∧ w'.cell? ⟨w.heap.size, 1, none⟩ = some (.slice ea0_1 a0.2.length ecap0_1) ∧ w'.cell? ⟨w_3.heap.size, 0, none⟩ = some (.slice ea0_26 a0.1.length ecap0_26) ∧ w'.cell? ⟨w_3.heap.size, 1, none⟩ = some (.slice ea1_26 a0.2.length ecap1_26)) (by kernel_rfl) ?_ (fun hHeld => ?_)
  · exact ⟨c_64, c_65, c_66, c_67⟩
  refine wpG_load (i := 0) (oi := { dst := some 42, op := Go.Op.load 28 (Go.Operand.tmp 8), type := 28, pos := "exact.go:3472", after := #[], guard := none }) (v := ?vg1) [[3, 0]] rfl (by kernel_rfl) (fun _ _ _ h => h) hHeld (Or.inl ⟨by rfl, ?yg1⟩) ?_
  case yg1 => (intro wS hSw; (try dsimp only at hSw); go_simp <;> with_reducible rfl)
  try simp only [Act.put, List.setIfInBounds_toArray, List.set_cons_zero, List.set_cons_succ]
  refine wpG_load (i := 1) (oi := { dst := some 43, op := Go.Op.load 25 (Go.Operand.tmp 2), type := 25, pos := "exact.go:3472", after := #[], guard := none }) (v := ?vg2) [[3, 2, 1]] rfl (by kernel_rfl) (fun _ _ _ h => h) hHeld (Or.inl ⟨by rfl, ?yg2⟩) ?_
  case yg2 => (intro wS hSw; (try dsimp only at hSw); go_simp <;> with_reducible rfl)
  try simp only [Act.put, List.setIfInBounds_toArray, List.set_cons_zero, List.set_cons_succ]
  refine wpG_one (i := 2) (o := { dst := some 44, op := Go.Op.call { callee := Go.Callee.value (Go.Operand.func 13), args := #[Go.Operand.tmp 43], argTypes := #[25] }, type := 28, pos := "exact.go:3472", after := #[{ on := 1, ground := Go.Ground.data }], guard := none }) rfl (by kernel_rfl) (fun K hK => ?_)
  go_simp
  refine (HTO0.out _ (box_below HB_62.out)).mono ?_
  rintro e w_5 ⟨cs_70, fp_70, he, ho, hnd, hge, hb⟩
  have hrd := kMachine_ok.ord ho (B := w_5.heap.size) (kMachine_ok.olt ho)
  obtain ⟨ea0_70, ecap0_70, ea1_70, ecap1_70, rfl, _, _⟩ := Machine_rd hrd
  change e = .returned (.agg #[.slice ea0_70 a0.1.length ecap0_70, .slice ea1_70 a0.2.length ecap1_70]) at he
  subst he
  have hrd2 := kMachine_ok.ord ho (B := w_5.heap.size) (kMachine_ok.olt ho)
  have OW_71 := Lib.hid ho; have HN_74 := Lib.hid hnd
  have HL_72 : Hid (∀ b ∈ fp_70, w_4.heap.size ≤ b) := Lib.hid fun b hm => by have := hge b hm; first | omega | (simp at this; omega)
  have HH_73 : Hid (∀ b ∈ fp_70, b < w_5.heap.size) := Lib.hid (kMachine_ok.olt ho)
  have RD_75 := Lib.hid hrd2; clear ho hnd hge hrd2 hrd
  have hb_76 := hb; clear hb
  have hz_77 : w_4.heap.size ≤ w_5.heap.size := by have := (hb_76).size; first | omega | (simp at this; omega)
  have HB_78 := Lib.hid (box_step HB_62.out hb_76)
  have hz_79 : w.heap.size + 1 ≤ w_5.heap.size := Nat.le_trans hz_63 hz_77
  have c_80 : w_5.cell? ⟨w.heap.size, 0, none⟩ = some (.slice ea0_0 a0.1.length ecap0_0) := below_later (hb_76) c_64; clear c_64
  have c_81 : w_5.cell? ⟨w.heap.size, 1, none⟩ = some (.slice ea0_1 a0.2.length ecap0_1) := below_later (hb_76) c_65; clear c_65
  have c_82 : w_5.cell? ⟨w_3.heap.size, 0, none⟩ = some (.slice ea0_26 a0.1.length ecap0_26) := below_later (hb_76) c_66; clear c_66
  have c_83 : w_5.cell? ⟨w_3.heap.size, 1, none⟩ = some (.slice ea1_26 a0.2.length ecap1_26) := below_later (hb_76) c_67; clear c_67
  have OW_84 := Lib.hid (kMachine_ok.oframe OW_68.out (w' := w_5) fun b hm => (hb_76).block b (kMachine_ok.olt OW_68.out b hm)); clear OW_68
  have hz_85 : w_3.heap.size ≤ w_5.heap.size := Nat.le_trans hz_69 hz_77
  have HQ := Lib.hid hb_76; clear hb_76 HQ
  have hz_86 : w_5.heap.size ≤ w_5.heap.size := Nat.le_refl _
  refine hK.out _ _ (Or.inr ?khHeld3) (fun hHeld3S => ?_)
  case khHeld3 => exact ⟨c_80, c_81, c_82, c_83⟩
  have hHeld3 := hHeld3S.held (by kernel_rfl)
  clear hK K
  try simp only [Act.put, List.setIfInBounds_toArray, List.set_cons_zero, List.set_cons_succ]
  refine wpG_one (i := 3) (o := { dst := some 45, op := Go.Op.call { callee := Go.Callee.value (Go.Operand.func 15), args := #[Go.Operand.tmp 42, Go.Operand.tmp 44], argTypes := #[28, 28] }, type := 4, pos := "exact.go:3472", after := #[{ on := 0, ground := Go.Ground.data }, { on := 2, ground := Go.Ground.data }, { on := 2, ground := Go.Ground.chain }], guard := none }) rfl (by kernel_rfl) (fun K hK => ?_)
  go_simp
  refine (eq_Machine (w := w_5) (kMachine_ok.ord OW_84.out (fun b hm => by have := HH_29.out b hm; first | omega | (simp; omega))) (kMachine_ok.rmono RD_75.out (by first | omega | (simp; done) | (simp; omega)))).mono ?_
  rintro e w_6 ⟨rfl, hb⟩
  have hb_87 := hb; clear hb
  have hz_88 : w_5.heap.size ≤ w_6.heap.size := by have := (hb_87).size; first | omega | (simp at this; omega)
  have HB_89 := Lib.hid (box_step HB_78.out hb_87)
  have hz_90 : w.heap.size + 1 ≤ w_6.heap.size := Nat.le_trans hz_79 hz_88
  have c_91 : w_6.cell? ⟨w.heap.size, 0, none⟩ = some (.slice ea0_0 a0.1.length ecap0_0) := below_later (hb_87) c_80; clear c_80
  have c_92 : w_6.cell? ⟨w.heap.size, 1, none⟩ = some (.slice ea0_1 a0.2.length ecap0_1) := below_later (hb_87) c_81; clear c_81
  have c_93 : w_6.cell? ⟨w_3.heap.size, 0, none⟩ = some (.slice ea0_26 a0.1.length ecap0_26) := below_later (hb_87) c_82; clear c_82
  have c_94 : w_6.cell? ⟨w_3.heap.size, 1, none⟩ = some (.slice ea1_26 a0.2.length ecap1_26) := below_later (hb_87) c_83; clear c_83
  have RD_95 := Lib.hid (kMachine_ok.rbelow RD_75.out (Below.mono (hb_87) (by first | omega | (simp; done) | (simp; omega)))); clear RD_75
  have hz_96 : w_5.heap.size ≤ w_6.heap.size := Nat.le_trans hz_86 hz_88
  have OW_97 := Lib.hid (kMachine_ok.oframe OW_84.out (w' := w_6) fun b hm => (hb_87).block b (kMachine_ok.olt OW_84.out b hm)); clear OW_84
  have hz_98 : w_3.heap.size ≤ w_6.heap.size := Nat.le_trans hz_85 hz_88
  clear hb_87
  refine hK.out _ _ (Or.inl (by kernel_rfl)) (fun _ => ?_)
  clear hK K
  try simp only [Act.put, List.setIfInBounds_toArray, List.set_cons_zero, List.set_cons_succ]
  refine wpG_pure (i := 4) (oi := { dst := some 46, op := Go.Op.unOp Go.UnOp.not 4 (Go.Operand.tmp 45), type := 4, pos := "exact.go:3472", after := #[{ on := 3, ground := Go.Ground.data }], guard := none }) (v := ?vg5) rfl (by kernel_rfl) (fun _ _ _ h => h) (Or.inl (by kernel_rfl)) (Or.inl ⟨by rfl, ?yg5⟩) ?_
  case yg5 => (intro wS _; go_simp <;> with_reducible rfl)
  try simp only [Act.put, List.setIfInBounds_toArray, List.set_cons_zero, List.set_cons_succ]
  refine wpG_done (by kernel_rfl) ?_
  go_wp2_with fail
  go_ret
  exact ⟨rfl, (box_below HB_89.out)⟩

end Go.Proofs.Ytedjahinlpehgaa.fnExactRunMachine
