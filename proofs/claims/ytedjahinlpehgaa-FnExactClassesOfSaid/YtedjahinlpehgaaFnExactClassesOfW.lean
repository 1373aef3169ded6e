/- The walk of FnExactClassesOf: whatever the arguments, the call returns true and writes nothing that was there. -/
import Derived.Deep.RegionHeld3
import Derived.Test.YtedjahinlpehgaaCls5
namespace Go.Proofs.Ytedjahinlpehgaa.fnExactClassesOf
open Go.ChangeShapes Go.WideShapes Go.ChangeAt Go.RowKit
open Go.ChangeMaps (open_string shut_string)
set_option linter.unusedVariables false

set_option maxHeartbeats 1000000 in
set_option maxRecDepth 100000 in
theorem walk (w : World) (v0 : Value) (a0 : ((List (List Int)) × (List Bool))) (w0 : IsK kMachine (fun cs => .agg cs.toArray) w v0 a0) :
    Calls Try.prog 8 #[v0] w fun e w' => e = .returned (.bool true) ∧ Below w.heap.size w w' := by
  obtain ⟨cs0, rfl, hr0⟩ := w0
  obtain ⟨ea0_0, ecap0_0, ea0_1, ecap0_1, rfl⟩ : ∃ ea0_0 ecap0_0 ea0_1 ecap0_1, cs0 = [.slice ea0_0 a0.1.length ecap0_0, .slice ea0_1 a0.2.length ecap0_1] := by
    obtain ⟨ea0_0, ecap0_0, ea0_1, ecap0_1, h, _⟩ := Machine_rd hr0
    exact ⟨ea0_0, ecap0_0, ea0_1, ecap0_1, h⟩
  have HR0 := Lib.hid hr0; clear hr0
  have HZ0 := Lib.hid (fun (lx : Int) (wx : World) (hb : Below w.heap.size w wx) (g0 : 0 ≤ lx) (g1 : lx ≤ 1048576) => sz_Machine lx (kMachine_ok.later HR0.out hb) g0 g1)
  have HB0 := Lib.hid (box_start w (.cells #[.slice ea0_0 a0.1.length ecap0_0, .slice ea0_1 a0.2.length ecap0_1] 25))
  by_cases gz0 : (kMachine.wt a0 : Int) ≤ 1048576
  case neg =>
    have GZ0 : szR (1048576) (kMachine.wt a0) = -1 := szR_not gz0
    go_enter Try.func8, Try.ntmps8
    go_wp2_with fail
    refine (HZ0.out (1048576) _ ((Below.refl _ _).alloc (Nat.le_refl _) _) (by omega) (by omega)).mono ?_
    rw [GZ0]
    rintro e v1 ⟨rfl, hb⟩
    have HV1 := Lib.hid (box_step HB0.out hb); clear hb
    have ac0_0_v1 := box_cell HV1.out 0
    have ac0_1_v1 := box_cell HV1.out 1
    go_wp2_with fail
    go_ret
    exact ⟨rfl, (box_below HV1.out)⟩
  have GZ0 : szR (1048576) (kMachine.wt a0) = 1048576 - (kMachine.wt a0 : Int) := szR_fit gz0
  have HT : Hid (kMachine.wt a0 ≤ 1048576) := Lib.hid (by omega)
  have HCN := Lib.hid (R_ClassesOf_ok a0 HT.out)
  have HS := Lib.hid (fun (wx : World) (cx0 : List Value) (h0 : kMachine.rd wx.heap.size wx (cx0) a0) => spec_ClassesOf wx cx0 a0 h0 HT.out)
  have HI := Lib.hid (fun (wx : World) (cx0 : List Value) (h0 : kMachine.rd wx.heap.size wx (cx0) a0) => impl_ClassesOf wx cx0 a0 h0 HT.out)
  have HTO0 := Lib.hid (fun (wx : World) (hb : Below w.heap.size w wx) => to_Machine (kMachine_ok.later HR0.out hb) (by have := HT.out; omega))
  generalize hR : R_ClassesOf a0 = R at *
  clear hR
  obtain ⟨r0, r1, r2⟩ := R
  go_enter Try.func8, Try.ntmps8
  go_wp2_with fail
  refine (HZ0.out (1048576) _ ((Below.refl _ _).alloc (Nat.le_refl _) _) (by omega) (by omega)).mono ?_
  rw [GZ0]
  rintro e v1 ⟨rfl, hb⟩
  have HV1 := Lib.hid (box_step HB0.out hb); clear hb
  have ac0_0_v1 := box_cell HV1.out 0
  have ac0_1_v1 := box_cell HV1.out 1
  go_wp2_with fail
  have c_1 : v1.cell? ⟨w.heap.size, 0, none⟩ = some (.slice ea0_0 a0.1.length ecap0_0) := ac0_0_v1; clear ac0_0_v1
  have c_2 : v1.cell? ⟨w.heap.size, 1, none⟩ = some (.slice ea0_1 a0.2.length ecap0_1) := ac0_1_v1; clear ac0_1_v1
  have hz_3 : w.heap.size + 1 ≤ v1.heap.size := by have := (HV1.out).size; first | omega | (simp at this; omega)
  go_wp2_with fail
  refine (HTO0.out _ (box_below HV1.out)).mono ?_
  rintro e w_1 ⟨cs_4, fp_4, he, ho, hnd, hge, hb⟩
  have hrd := kMachine_ok.ord ho (B := w_1.heap.size) (kMachine_ok.olt ho)
  obtain ⟨ea0_4, ecap0_4, ea1_4, ecap1_4, rfl, _, _⟩ := Machine_rd hrd
  change e = .returned (.agg #[.slice ea0_4 a0.1.length ecap0_4, .slice ea1_4 a0.2.length ecap1_4]) at he
  subst he
  have hrd2 := kMachine_ok.ord ho (B := w_1.heap.size) (kMachine_ok.olt ho)
  have OW_5 := Lib.hid ho; have HN_8 := Lib.hid hnd
  have HL_6 : Hid (∀ b ∈ fp_4, v1.heap.size ≤ b) := Lib.hid fun b hm => by have := hge b hm; first | omega | (simp at this; omega)
  have HH_7 : Hid (∀ b ∈ fp_4, b < w_1.heap.size) := Lib.hid (kMachine_ok.olt ho)
  have RD_9 := Lib.hid hrd2; clear ho hnd hge hrd2 hrd
  have hb_10 := hb; clear hb
  have hz_11 : v1.heap.size ≤ w_1.heap.size := by have := (hb_10).size; first | omega | (simp at this; omega)
  have HB_12 := Lib.hid (box_step HV1.out hb_10)
  have hz_13 : w.heap.size + 1 ≤ w_1.heap.size := Nat.le_trans hz_3 hz_11
  have c_14 : w_1.cell? ⟨w.heap.size, 0, none⟩ = some (.slice ea0_0 a0.1.length ecap0_0) := below_later (hb_10) c_1; clear c_1
  have c_15 : w_1.cell? ⟨w.heap.size, 1, none⟩ = some (.slice ea0_1 a0.2.length ecap0_1) := below_later (hb_10) c_2; clear c_2
  have HQ := Lib.hid hb_10; clear hb_10 HQ
  have hz_16 : w_1.heap.size ≤ w_1.heap.size := Nat.le_refl _
  go_wp2_with fail
  refine ((HS.out _ [.slice ea0_4 a0.1.length ecap0_4, .slice ea1_4 a0.2.length ecap1_4] (kMachine_ok.rmono RD_9.out (by first | omega | (simp; done) | (simp; omega)))).mono (fun _ _ h => Made.reads kIntS_ok h)).mono ?_
  rintro e w_2 ⟨cs_17, he, hrd, hb⟩
  obtain ⟨ea_17, ecap_17, rfl⟩ := kSl_form hrd
  change e = .returned (.tuple #[(.slice ea_17 r0.length ecap_17), (.int .i64 r1), (.bool r2)]) at he
  subst he
  have RD_18 := Lib.hid hrd; clear hrd
  have hb_19 := hb; clear hb
  have hz_20 : w_1.heap.size ≤ w_2.heap.size := by have := (hb_19).size; first | omega | (simp at this; omega)
  have HB_21 := Lib.hid (box_step HB_12.out hb_19)
  have hz_22 : w.heap.size + 1 ≤ w_2.heap.size := Nat.le_trans hz_13 hz_20
  have c_23 : w_2.cell? ⟨w.heap.size, 0, none⟩ = some (.slice ea0_0 a0.1.length ecap0_0) := below_later (hb_19) c_14; clear c_14
  have c_24 : w_2.cell? ⟨w.heap.size, 1, none⟩ = some (.slice ea0_1 a0.2.length ecap0_1) := below_later (hb_19) c_15; clear c_15
  have RD_25 := Lib.hid (kMachine_ok.rbelow RD_9.out (Below.mono (hb_19) (by first | omega | (simp; done) | (simp; omega)))); clear RD_9
  have hz_26 : w_1.heap.size ≤ w_2.heap.size := Nat.le_trans hz_16 hz_20
  clear hb_19
  have hz_27 : w_2.heap.size ≤ w_2.heap.size := Nat.le_refl _
  go_wp2_with fail
  refine (HTO0.out _ (box_below HB_21.out)).mono ?_
  rintro e w_3 ⟨cs_28, fp_28, he, ho, hnd, hge, hb⟩
  have hrd := kMachine_ok.ord ho (B := w_3.heap.size) (kMachine_ok.olt ho)
  obtain ⟨ea0_28, ecap0_28, ea1_28, ecap1_28, rfl, _, _⟩ := Machine_rd hrd
  change e = .returned (.agg #[.slice ea0_28 a0.1.length ecap0_28, .slice ea1_28 a0.2.length ecap1_28]) at he
  subst he
  have hrd2 := kMachine_ok.ord ho (B := w_3.heap.size) (kMachine_ok.olt ho)
  have OW_29 := Lib.hid ho; have HN_32 := Lib.hid hnd
  have HL_30 : Hid (∀ b ∈ fp_28, w_2.heap.size ≤ b) := Lib.hid fun b hm => by have := hge b hm; first | omega | (simp at this; omega)
  have HH_31 : Hid (∀ b ∈ fp_28, b < w_3.heap.size) := Lib.hid (kMachine_ok.olt ho)
  have RD_33 := Lib.hid hrd2; clear ho hnd hge hrd2 hrd
  have hb_34 := hb; clear hb
  have hz_35 : w_2.heap.size ≤ w_3.heap.size := by have := (hb_34).size; first | omega | (simp at this; omega)
  have HB_36 := Lib.hid (box_step HB_21.out hb_34)
  have hz_37 : w.heap.size + 1 ≤ w_3.heap.size := Nat.le_trans hz_22 hz_35
  have c_38 : w_3.cell? ⟨w.heap.size, 0, none⟩ = some (.slice ea0_0 a0.1.length ecap0_0) := below_later (hb_34) c_23; clear c_23
  have c_39 : w_3.cell? ⟨w.heap.size, 1, none⟩ = some (.slice ea0_1 a0.2.length ecap0_1) := below_later (hb_34) c_24; clear c_24
  have RD_40 := Lib.hid (kIntS_ok.rbelow RD_18.out (Below.mono (hb_34) (by first | omega | (simp; done) | (simp; omega)))); clear RD_18
  have hz_41 : w_2.heap.size ≤ w_3.heap.size := Nat.le_trans hz_27 hz_35
  have HQ := Lib.hid hb_34; clear hb_34 HQ
  have hz_42 : w_3.heap.size ≤ w_3.heap.size := Nat.le_refl _
  have hb_43 : Below w_3.heap.size w_3 (w_3.alloc (.cells #[.slice ea0_28 a0.1.length ecap0_28, .slice ea1_28 a0.2.length ecap1_28] 28)) := (Below.refl _ _).alloc (Nat.le_refl _) _
  have hz_44 : w_3.heap.size ≤ w_3.heap.size + 1 := by have := (hb_43).size; first | omega | (simp at this; omega)
  have HB_45 := Lib.hid (box_step HB_36.out hb_43)
  have hz_46 : w.heap.size + 1 ≤ w_3.heap.size + 1 := Nat.le_trans hz_37 hz_44
  have c_47 : (w_3.alloc (.cells #[.slice ea0_28 a0.1.length ecap0_28, .slice ea1_28 a0.2.length ecap1_28] 28)).cell? ⟨w.heap.size, 0, none⟩ = some (.slice ea0_0 a0.1.length ecap0_0) := below_later (hb_43) c_38; clear c_38
  have c_48 : (w_3.alloc (.cells #[.slice ea0_28 a0.1.length ecap0_28, .slice ea1_28 a0.2.length ecap1_28] 28)).cell? ⟨w.heap.size, 1, none⟩ = some (.slice ea0_1 a0.2.length ecap0_1) := below_later (hb_43) c_39; clear c_39
  have RD_49 := Lib.hid (kIntS_ok.rbelow RD_40.out (Below.mono (hb_43) (by first | omega | (simp; done) | (simp; omega)))); clear RD_40
  have hz_50 : w_2.heap.size ≤ w_3.heap.size + 1 := Nat.le_trans hz_41 hz_44
  have OW_51 := Lib.hid (kMachine_ok.oframe OW_29.out (w' := (w_3.alloc (.cells #[.slice ea0_28 a0.1.length ecap0_28, .slice ea1_28 a0.2.length ecap1_28] 28))) fun b hm => (hb_43).block b (kMachine_ok.olt OW_29.out b hm)); clear OW_29
  have hz_52 : w_3.heap.size ≤ w_3.heap.size + 1 := Nat.le_trans hz_42 hz_44
  clear hb_43
  have c_53 : (w_3.alloc (.cells #[.slice ea0_28 a0.1.length ecap0_28, .slice ea1_28 a0.2.length ecap1_28] 28)).cell? ⟨w_3.heap.size, 0, none⟩ = some (.slice ea0_28 a0.1.length ecap0_28) := by go_simp
  have c_54 : (w_3.alloc (.cells #[.slice ea0_28 a0.1.length ecap0_28, .slice ea1_28 a0.2.length ecap1_28] 28)).cell? ⟨w_3.heap.size, 1, none⟩ = some (.slice ea1_28 a0.2.length ecap1_28) := by go_simp
  go_wp2_with fail
  refine (HI.out _ [.slice ea0_28 a0.1.length ecap0_28, .slice ea1_28 a0.2.length ecap1_28] (kMachine_ok.ord OW_51.out (fun b hm => by have := HH_31.out b hm; first | omega | (simp; done) | (simp; omega)))).mono ?_
  rintro e w_4 ⟨cs_55, fp_55, he, ho, hnd, hge, hb⟩
  have hrd := kIntS_ok.ord ho (B := w_4.heap.size) (kIntS_ok.olt ho)
  obtain ⟨ea_55, ecap_55, rfl⟩ := kSl_form hrd
  change e = .returned (.tuple #[(.slice ea_55 r0.length ecap_55), (.int .i64 r1), (.bool r2)]) at he
  subst he
  have RD_56 := Lib.hid hrd; clear hrd
  have OW_57 := Lib.hid ho; have HN_60 := Lib.hid hnd
  have HL_58 : Hid (∀ b ∈ fp_55, w_3.heap.size + 1 ≤ b) := Lib.hid fun b hm => by have := hge b hm; first | omega | (simp at this; omega)
  have HH_59 : Hid (∀ b ∈ fp_55, b < w_4.heap.size) := Lib.hid (kIntS_ok.olt ho)
  clear ho hnd hge
  have hb_61 := hb; clear hb
  have hz_62 : w_3.heap.size + 1 ≤ w_4.heap.size := by have := (hb_61).size; first | omega | (simp at this; omega)
  have HB_63 := Lib.hid (box_step HB_45.out hb_61)
  have hz_64 : w.heap.size + 1 ≤ w_4.heap.size := Nat.le_trans hz_46 hz_62
  have c_65 : w_4.cell? ⟨w.heap.size, 0, none⟩ = some (.slice ea0_0 a0.1.length ecap0_0) := below_later (hb_61) c_47; clear c_47
  have c_66 : w_4.cell? ⟨w.heap.size, 1, none⟩ = some (.slice ea0_1 a0.2.length ecap0_1) := below_later (hb_61) c_48; clear c_48
  have c_67 : w_4.cell? ⟨w_3.heap.size, 0, none⟩ = some (.slice ea0_28 a0.1.length ecap0_28) := below_later (hb_61) c_53; clear c_53
  have c_68 : w_4.cell? ⟨w_3.heap.size, 1, none⟩ = some (.slice ea1_28 a0.2.length ecap1_28) := below_later (hb_61) c_54; clear c_54
  have RD_69 := Lib.hid (kIntS_ok.rbelow RD_49.out (Below.mono (hb_61) (by first | omega | (simp; done) | (simp; omega)))); clear RD_49
  have hz_70 : w_2.heap.size ≤ w_4.heap.size := Nat.le_trans hz_50 hz_62
  have OW_71 := Lib.hid (kMachine_ok.oframe OW_51.out (w' := w_4) fun b hm => (hb_61).block b (kMachine_ok.olt OW_51.out b hm)); clear OW_51
  have hz_72 : w_3.heap.size ≤ w_4.heap.size := Nat.le_trans hz_52 hz_62
  clear hb_61
  have hz_73 : w_4.heap.size ≤ w_4.heap.size := Nat.le_refl _
  go_wp2_with fail
  refine (eq_IntS (w := w_4) (kIntS_ok.ord OW_57.out (fun b hm => by have := HH_59.out b hm; first | omega | (simp; done) | (simp; omega))) (kIntS_ok.rmono RD_69.out (by first | omega | (simp; done) | (simp; omega)))).mono ?_
  rintro e w_5 ⟨rfl, hb⟩
  have hb_74 := hb; clear hb
  have hz_75 : w_4.heap.size ≤ w_5.heap.size := by have := (hb_74).size; first | omega | (simp at this; omega)
  have HB_76 := Lib.hid (box_step HB_63.out hb_74)
  have hz_77 : w.heap.size + 1 ≤ w_5.heap.size := Nat.le_trans hz_64 hz_75
  have c_78 : w_5.cell? ⟨w.heap.size, 0, none⟩ = some (.slice ea0_0 a0.1.length ecap0_0) := below_later (hb_74) c_65; clear c_65
  have c_79 : w_5.cell? ⟨w.heap.size, 1, none⟩ = some (.slice ea0_1 a0.2.length ecap0_1) := below_later (hb_74) c_66; clear c_66
  have c_80 : w_5.cell? ⟨w_3.heap.size, 0, none⟩ = some (.slice ea0_28 a0.1.length ecap0_28) := below_later (hb_74) c_67; clear c_67
  have c_81 : w_5.cell? ⟨w_3.heap.size, 1, none⟩ = some (.slice ea1_28 a0.2.length ecap1_28) := below_later (hb_74) c_68; clear c_68
  have RD_82 := Lib.hid (kIntS_ok.rbelow RD_69.out (Below.mono (hb_74) (by first | omega | (simp; done) | (simp; omega)))); clear RD_69
  have hz_83 : w_2.heap.size ≤ w_5.heap.size := Nat.le_trans hz_70 hz_75
  have OW_84 := Lib.hid (kMachine_ok.oframe OW_71.out (w' := w_5) fun b hm => (hb_74).block b (kMachine_ok.olt OW_71.out b hm)); clear OW_71
  have hz_85 : w_3.heap.size ≤ w_5.heap.size := Nat.le_trans hz_72 hz_75
  have OW_86 := Lib.hid (kIntS_ok.oframe OW_57.out (w' := w_5) fun b hm => (hb_74).block b (kIntS_ok.olt OW_57.out b hm)); clear OW_57
  have hz_87 : w_4.heap.size ≤ w_5.heap.size := Nat.le_trans hz_73 hz_75
  clear hb_74
  go_wp2_with fail
  have hb_88 : Below w_5.heap.size w_5 w_5.drew := (Below.refl _ _).drew
  have hz_89 : w_5.heap.size ≤ w_5.heap.size := by have := (hb_88).size; first | omega | (simp at this; omega)
  have HB_90 := Lib.hid (box_step HB_76.out hb_88)
  have hz_91 : w.heap.size + 1 ≤ w_5.heap.size := Nat.le_trans hz_77 hz_89
  have c_92 : w_5.drew.cell? ⟨w.heap.size, 0, none⟩ = some (.slice ea0_0 a0.1.length ecap0_0) := below_later (hb_88) c_78; clear c_78
  have c_93 : w_5.drew.cell? ⟨w.heap.size, 1, none⟩ = some (.slice ea0_1 a0.2.length ecap0_1) := below_later (hb_88) c_79; clear c_79
  have c_94 : w_5.drew.cell? ⟨w_3.heap.size, 0, none⟩ = some (.slice ea0_28 a0.1.length ecap0_28) := below_later (hb_88) c_80; clear c_80
  have c_95 : w_5.drew.cell? ⟨w_3.heap.size, 1, none⟩ = some (.slice ea1_28 a0.2.length ecap1_28) := below_later (hb_88) c_81; clear c_81
  have RD_96 := Lib.hid (kIntS_ok.rbelow RD_82.out (Below.mono (hb_88) (by first | omega | (simp; done) | (simp; omega)))); clear RD_82
  have hz_97 : w_2.heap.size ≤ w_5.heap.size := Nat.le_trans hz_83 hz_89
  have OW_98 := Lib.hid (kMachine_ok.oframe OW_84.out (w' := w_5.drew) fun b hm => (hb_88).block b (kMachine_ok.olt OW_84.out b hm)); clear OW_84
  have hz_99 : w_3.heap.size ≤ w_5.heap.size := Nat.le_trans hz_85 hz_89
  have OW_100 := Lib.hid (kIntS_ok.oframe OW_86.out (w' := w_5.drew) fun b hm => (hb_88).block b (kIntS_ok.olt OW_86.out b hm)); clear OW_86
  have hz_101 : w_4.heap.size ≤ w_5.heap.size := Nat.le_trans hz_87 hz_89
  clear hb_88
  refine wp_region_G [3] (fun w' => w'.cell? ⟨w.heap.size, 0, none⟩ = some (.slice ea0_0 a0.1.length ecap0_0) ∧ w'.cell? ⟨w.heap.size, 1, none⟩ = some (.slice ea0_1 a0.2.length ecap0_1) ∧ w'.cell? ⟨w_3.heap.size, 0, none⟩ = some (.slice ea0_28 a0.1.length ecap0_28) ∧ w'.cell? ⟨w_3.heap.size, 1, none⟩ = some (.slice ea1_28 a0.2.length ecap1_28)) (by kernel_rfl) ?_ (fun hHeld => ?_)
  · exact ⟨c_92, c_93, c_94, c_95⟩
  refine wpG_load (i := 0) (oi := { dst := some 51, op := Go.Op.load 28 (Go.Operand.tmp 7), type := 28, pos := "exact.go:3537", after := #[], guard := none }) (v := ?vg1) [[3, 0]] rfl (by kernel_rfl) (fun _ _ _ h => h) hHeld (Or.inl ⟨by rfl, ?yg1⟩) ?_
  case yg1 => (intro wS hSw; (try dsimp only at hSw); go_simp <;> with_reducible rfl)
  try simp only [Act.put, List.setIfInBounds_toArray, List.set_cons_zero, List.set_cons_succ]
  refine wpG_load (i := 1) (oi := { dst := some 52, op := Go.Op.load 25 (Go.Operand.tmp 1), type := 25, pos := "exact.go:3537", after := #[], guard := none }) (v := ?vg2) [[3, 2, 1]] rfl (by kernel_rfl) (fun _ _ _ h => h) hHeld (Or.inl ⟨by rfl, ?yg2⟩) ?_
  case yg2 => (intro wS hSw; (try dsimp only at hSw); go_simp <;> with_reducible rfl)
  try simp only [Act.put, List.setIfInBounds_toArray, List.set_cons_zero, List.set_cons_succ]
  refine wpG_one (i := 2) (o := { dst := some 53, op := Go.Op.call { callee := Go.Callee.value (Go.Operand.func 13), args := #[Go.Operand.tmp 52], argTypes := #[25] }, type := 28, pos := "exact.go:3537", after := #[{ on := 1, ground := Go.Ground.data }], guard := none }) rfl (by kernel_rfl) (fun K hK => ?_)
  go_simp
  refine (HTO0.out _ (box_below HB_90.out)).mono ?_
  rintro e w_6 ⟨cs_102, fp_102, he, ho, hnd, hge, hb⟩
  have hrd := kMachine_ok.ord ho (B := w_6.heap.size) (kMachine_ok.olt ho)
  obtain ⟨ea0_102, ecap0_102, ea1_102, ecap1_102, rfl, _, _⟩ := Machine_rd hrd
  change e = .returned (.agg #[.slice ea0_102 a0.1.length ecap0_102, .slice ea1_102 a0.2.length ecap1_102]) at he
  subst he
  have hrd2 := kMachine_ok.ord ho (B := w_6.heap.size) (kMachine_ok.olt ho)
  have OW_103 := Lib.hid ho; have HN_106 := Lib.hid hnd
  have HL_104 : Hid (∀ b ∈ fp_102, w_5.heap.size ≤ b) := Lib.hid fun b hm => by have := hge b hm; first | omega | (simp at this; omega)
  have HH_105 : Hid (∀ b ∈ fp_102, b < w_6.heap.size) := Lib.hid (kMachine_ok.olt ho)
  have RD_107 := Lib.hid hrd2; clear ho hnd hge hrd2 hrd
  have hb_108 := hb; clear hb
  have hz_109 : w_5.heap.size ≤ w_6.heap.size := by have := (hb_108).size; first | omega | (simp at this; omega)
  have HB_110 := Lib.hid (box_step HB_90.out hb_108)
  have hz_111 : w.heap.size + 1 ≤ w_6.heap.size := Nat.le_trans hz_91 hz_109
  have c_112 : w_6.cell? ⟨w.heap.size, 0, none⟩ = some (.slice ea0_0 a0.1.length ecap0_0) := below_later (hb_108) c_92; clear c_92
  have c_113 : w_6.cell? ⟨w.heap.size, 1, none⟩ = some (.slice ea0_1 a0.2.length ecap0_1) := below_later (hb_108) c_93; clear c_93
  have c_114 : w_6.cell? ⟨w_3.heap.size, 0, none⟩ = some (.slice ea0_28 a0.1.length ecap0_28) := below_later (hb_108) c_94; clear c_94
  have c_115 : w_6.cell? ⟨w_3.heap.size, 1, none⟩ = some (.slice ea1_28 a0.2.length ecap1_28) := below_later (hb_108) c_95; clear c_95
  have RD_116 := Lib.hid (kIntS_ok.rbelow RD_96.out (Below.mono (hb_108) (by first | omega | (simp; done) | (simp; omega)))); clear RD_96
  have hz_117 : w_2.heap.size ≤ w_6.heap.size := Nat.le_trans hz_97 hz_109
  have OW_118 := Lib.hid (kMachine_ok.oframe OW_98.out (w' := w_6) fun b hm => (hb_108).block b (kMachine_ok.olt OW_98.out b hm)); clear OW_98
  have hz_119 : w_3.heap.size ≤ w_6.heap.size := Nat.le_trans hz_99 hz_109
  have OW_120 := Lib.hid (kIntS_ok.oframe OW_100.out (w' := w_6) fun b hm => (hb_108).block b (kIntS_ok.olt OW_100.out b hm)); clear OW_100
  have hz_121 : w_4.heap.size ≤ w_6.heap.size := Nat.le_trans hz_101 hz_109
  have HQ := Lib.hid hb_108; clear hb_108 HQ
  have hz_122 : w_6.heap.size ≤ w_6.heap.size := Nat.le_refl _
  refine hK.out _ _ (Or.inr ?khHeld3) (fun hHeld3S => ?_)
  case khHeld3 => exact ⟨c_112, c_113, c_114, c_115⟩
  have hHeld3 := hHeld3S.held (by kernel_rfl)
  clear hK K
  try simp only [Act.put, List.setIfInBounds_toArray, List.set_cons_zero, List.set_cons_succ]
  refine wpG_one (i := 3) (o := { dst := some 54, op := Go.Op.call { callee := Go.Callee.value (Go.Operand.func 15), args := #[Go.Operand.tmp 51, Go.Operand.tmp 53], argTypes := #[28, 28] }, type := 4, pos := "exact.go:3537", after := #[{ on := 0, ground := Go.Ground.data }, { on := 2, ground := Go.Ground.data }, { on := 2, ground := Go.Ground.chain }], guard := none }) rfl (by kernel_rfl) (fun K hK => ?_)
  go_simp
  refine (eq_Machine (w := w_6) (kMachine_ok.ord OW_118.out (fun b hm => by have := HH_31.out b hm; first | omega | (simp; done) | (simp; omega))) (kMachine_ok.rmono RD_107.out (by first | omega | (simp; done) | (simp; omega)))).mono ?_
  rintro e w_7 ⟨rfl, hb⟩
  have hb_123 := hb; clear hb
  have hz_124 : w_6.heap.size ≤ w_7.heap.size := by have := (hb_123).size; first | omega | (simp at this; omega)
  have HB_125 := Lib.hid (box_step HB_110.out hb_123)
  have hz_126 : w.heap.size + 1 ≤ w_7.heap.size := Nat.le_trans hz_111 hz_124
  have c_127 : w_7.cell? ⟨w.heap.size, 0, none⟩ = some (.slice ea0_0 a0.1.length ecap0_0) := below_later (hb_123) c_112; clear c_112
  have c_128 : w_7.cell? ⟨w.heap.size, 1, none⟩ = some (.slice ea0_1 a0.2.length ecap0_1) := below_later (hb_123) c_113; clear c_113
  have c_129 : w_7.cell? ⟨w_3.heap.size, 0, none⟩ = some (.slice ea0_28 a0.1.length ecap0_28) := below_later (hb_123) c_114; clear c_114
  have c_130 : w_7.cell? ⟨w_3.heap.size, 1, none⟩ = some (.slice ea1_28 a0.2.length ecap1_28) := below_later (hb_123) c_115; clear c_115
  have RD_131 := Lib.hid (kIntS_ok.rbelow RD_116.out (Below.mono (hb_123) (by first | omega | (simp; done) | (simp; omega)))); clear RD_116
  have hz_132 : w_2.heap.size ≤ w_7.heap.size := Nat.le_trans hz_117 hz_124
  have RD_133 := Lib.hid (kMachine_ok.rbelow RD_107.out (Below.mono (hb_123) (by first | omega | (simp; done) | (simp; omega)))); clear RD_107
  have hz_134 : w_6.heap.size ≤ w_7.heap.size := Nat.le_trans hz_122 hz_124
  have OW_135 := Lib.hid (kMachine_ok.oframe OW_118.out (w' := w_7) fun b hm => (hb_123).block b (kMachine_ok.olt OW_118.out b hm)); clear OW_118
  have hz_136 : w_3.heap.size ≤ w_7.heap.size := Nat.le_trans hz_119 hz_124
  have OW_137 := Lib.hid (kIntS_ok.oframe OW_120.out (w' := w_7) fun b hm => (hb_123).block b (kIntS_ok.olt OW_120.out b hm)); clear OW_120
  have hz_138 : w_4.heap.size ≤ w_7.heap.size := Nat.le_trans hz_121 hz_124
  clear hb_123
  refine hK.out _ _ (Or.inl (by kernel_rfl)) (fun _ => ?_)
  clear hK K
  try simp only [Act.put, List.setIfInBounds_toArray, List.set_cons_zero, List.set_cons_succ]
  refine wpG_pure (i := 4) (oi := { dst := some 55, op := Go.Op.unOp Go.UnOp.not 4 (Go.Operand.tmp 54), type := 4, pos := "exact.go:3537", after := #[{ on := 3, ground := Go.Ground.data }], guard := none }) (v := ?vg5) rfl (by kernel_rfl) (fun _ _ _ h => h) (Or.inl (by kernel_rfl)) (Or.inl ⟨by rfl, ?yg5⟩) ?_
  case yg5 => (intro wS _; go_simp <;> with_reducible rfl)
  try simp only [Act.put, List.setIfInBounds_toArray, List.set_cons_zero, List.set_cons_succ]
  refine wpG_done (by kernel_rfl) ?_
  have hm_139 := mark_Machine (w := w_7) 1 OW_135.out HN_32.out (by omega) (by have := kMachine_ok.cwt a0; have := HT.out; have e0 : kMachine.s ≤ 8 := (by decide); omega)
  rw [show ((1 : Nat) : Int) = 1 from rfl] at hm_139
  have hqq_140 : ∃ z : Nat, 1 + kMachine.cnt a0 = z := ⟨_, rfl⟩
  obtain ⟨q_140, hq_140⟩ := hqq_140
  rw [hq_140] at hm_139
  have bq_140 : 1 ≤ q_140 := by omega
  have HM_141 := Lib.hid hm_139; clear hm_139
  have HQ_142 := Lib.hid hq_140; clear hq_140
  go_wp2_with fail
  refine HM_141.out.mono ?_
  rintro e w_8 ⟨rfl, ho, hw⟩
  have OW_143 := Lib.hid ho; clear ho
  have hw_144 := hw; clear hw
  have hz_145 : w_7.heap.size ≤ w_8.heap.size := by have := (hw_144).size; first | omega | (simp at this; omega)
  have HB_146 := Lib.hid (Below.trans HB_125.out (Wrote.below hw_144 (by first | omega | (simp; done) | (simp; omega)) (fun b hm => by have := HL_30.out b hm; omega)))
  have hz_147 : w.heap.size + 1 ≤ w_8.heap.size := Nat.le_trans hz_126 hz_145
  have c_148 : w_8.cell? ⟨w.heap.size, 0, none⟩ = some (.slice ea0_0 a0.1.length ecap0_0) := Wrote.cell (hw_144) c_127 (fun hm => by have := HL_30.out _ hm; have := HH_31.out _ hm; omega); clear c_127
  have c_149 : w_8.cell? ⟨w.heap.size, 1, none⟩ = some (.slice ea0_1 a0.2.length ecap0_1) := Wrote.cell (hw_144) c_128 (fun hm => by have := HL_30.out _ hm; have := HH_31.out _ hm; omega); clear c_128
  have c_150 : w_8.cell? ⟨w_3.heap.size, 0, none⟩ = some (.slice ea0_28 a0.1.length ecap0_28) := Wrote.cell (hw_144) c_129 (fun hm => by have := HL_30.out _ hm; have := HH_31.out _ hm; omega); clear c_129
  have c_151 : w_8.cell? ⟨w_3.heap.size, 1, none⟩ = some (.slice ea1_28 a0.2.length ecap1_28) := Wrote.cell (hw_144) c_130 (fun hm => by have := HL_30.out _ hm; have := HH_31.out _ hm; omega); clear c_130
  have RD_152 := Lib.hid (kIntS_ok.rbelow RD_131.out (Wrote.below hw_144 (by first | omega | (simp; done) | (simp; omega)) (fun b hm => by have := HL_30.out b hm; omega))); clear RD_131
  have hz_153 : w_2.heap.size ≤ w_8.heap.size := Nat.le_trans hz_132 hz_145
  have OW_154 := Lib.hid (kIntS_ok.oframe OW_137.out (w' := w_8) fun b hm => (hw_144).block b (kIntS_ok.olt OW_137.out b hm) (fun hc => by have := HL_58.out b hm; have := HH_59.out b hm; have := HL_30.out b hc; have := HH_31.out b hc; omega)); clear OW_137
  have hz_155 : w_4.heap.size ≤ w_8.heap.size := Nat.le_trans hz_138 hz_145
  clear hw_144
  have hz_156 : w_3.heap.size ≤ w_8.heap.size := by omega
  have hneg : ¬ ((q_140 : Int) < 0) := by omega
  go_wp2_with fail
  refine (eq_IntS (w := w_8) (kIntS_ok.ord OW_154.out (fun b hm => by have := HH_59.out b hm; first | omega | (simp; done) | (simp; omega))) (kIntS_ok.rmono RD_152.out (by first | omega | (simp; done) | (simp; omega)))).mono ?_
  rintro e w_9 ⟨rfl, hb⟩
  have hb_157 := hb; clear hb
  have hz_158 : w_8.heap.size ≤ w_9.heap.size := by have := (hb_157).size; first | omega | (simp at this; omega)
  have HB_159 := Lib.hid (box_step HB_146.out hb_157)
  have hz_160 : w.heap.size + 1 ≤ w_9.heap.size := Nat.le_trans hz_147 hz_158
  have c_161 : w_9.cell? ⟨w.heap.size, 0, none⟩ = some (.slice ea0_0 a0.1.length ecap0_0) := below_later (hb_157) c_148; clear c_148
  have c_162 : w_9.cell? ⟨w.heap.size, 1, none⟩ = some (.slice ea0_1 a0.2.length ecap0_1) := below_later (hb_157) c_149; clear c_149
  have c_163 : w_9.cell? ⟨w_3.heap.size, 0, none⟩ = some (.slice ea0_28 a0.1.length ecap0_28) := below_later (hb_157) c_150; clear c_150
  have c_164 : w_9.cell? ⟨w_3.heap.size, 1, none⟩ = some (.slice ea1_28 a0.2.length ecap1_28) := below_later (hb_157) c_151; clear c_151
  have RD_165 := Lib.hid (kIntS_ok.rbelow RD_152.out (Below.mono (hb_157) (by first | omega | (simp; done) | (simp; omega)))); clear RD_152
  have hz_166 : w_2.heap.size ≤ w_9.heap.size := Nat.le_trans hz_153 hz_158
  have OW_167 := Lib.hid (kMachine_ok.oframe OW_143.out (w' := w_9) fun b hm => (hb_157).block b (kMachine_ok.olt OW_143.out b hm)); clear OW_143
  have hz_168 : w_3.heap.size ≤ w_9.heap.size := Nat.le_trans hz_156 hz_158
  have OW_169 := Lib.hid (kIntS_ok.oframe OW_154.out (w' := w_9) fun b hm => (hb_157).block b (kIntS_ok.olt OW_154.out b hm)); clear OW_154
  have hz_170 : w_4.heap.size ≤ w_9.heap.size := Nat.le_trans hz_155 hz_158
  clear hb_157
  have hm_171 := mark_IntS (w := w_9) 1 OW_169.out (by omega) (by have := HCN.out; omega)
  rw [show ((1 : Nat) : Int) = 1 from rfl] at hm_171
  have hqq_172 : ∃ z : Nat, 1 + kIntS.cnt r0 = z := ⟨_, rfl⟩
  obtain ⟨q_172, hq_172⟩ := hqq_172
  rw [hq_172] at hm_171
  have HM_173 := Lib.hid hm_171; clear hm_171
  have HQ_174 := Lib.hid hq_172; clear hq_172
  go_wp2_with fail
  refine HM_173.out.mono ?_
  rintro e w_10 ⟨rfl, ho, hw⟩
  have OW_175 := Lib.hid ho; clear ho
  have hw_176 := hw; clear hw
  have hz_177 : w_9.heap.size ≤ w_10.heap.size := by have := (hw_176).size; first | omega | (simp at this; omega)
  have HB_178 := Lib.hid (Below.trans HB_159.out (Wrote.below hw_176 (by first | omega | (simp; done) | (simp; omega)) (fun b hm => by have := HL_58.out b hm; omega)))
  have hz_179 : w.heap.size + 1 ≤ w_10.heap.size := Nat.le_trans hz_160 hz_177
  have c_180 : w_10.cell? ⟨w.heap.size, 0, none⟩ = some (.slice ea0_0 a0.1.length ecap0_0) := Wrote.cell (hw_176) c_161 (fun hm => by have := HL_58.out _ hm; have := HH_59.out _ hm; omega); clear c_161
  have c_181 : w_10.cell? ⟨w.heap.size, 1, none⟩ = some (.slice ea0_1 a0.2.length ecap0_1) := Wrote.cell (hw_176) c_162 (fun hm => by have := HL_58.out _ hm; have := HH_59.out _ hm; omega); clear c_162
  have c_182 : w_10.cell? ⟨w_3.heap.size, 0, none⟩ = some (.slice ea0_28 a0.1.length ecap0_28) := Wrote.cell (hw_176) c_163 (fun hm => by have := HL_58.out _ hm; have := HH_59.out _ hm; omega); clear c_163
  have c_183 : w_10.cell? ⟨w_3.heap.size, 1, none⟩ = some (.slice ea1_28 a0.2.length ecap1_28) := Wrote.cell (hw_176) c_164 (fun hm => by have := HL_58.out _ hm; have := HH_59.out _ hm; omega); clear c_164
  have RD_184 := Lib.hid (kIntS_ok.rbelow RD_165.out (Wrote.below hw_176 (by first | omega | (simp; done) | (simp; omega)) (fun b hm => by have := HL_58.out b hm; omega))); clear RD_165
  have hz_185 : w_2.heap.size ≤ w_10.heap.size := Nat.le_trans hz_166 hz_177
  have OW_186 := Lib.hid (kMachine_ok.oframe OW_167.out (w' := w_10) fun b hm => (hw_176).block b (kMachine_ok.olt OW_167.out b hm) (fun hc => by have := HL_30.out b hm; have := HH_31.out b hm; have := HL_58.out b hc; have := HH_59.out b hc; omega)); clear OW_167
  have hz_187 : w_3.heap.size ≤ w_10.heap.size := Nat.le_trans hz_168 hz_177
  clear hw_176
  have hz_188 : w_4.heap.size ≤ w_10.heap.size := by omega
  have hm_189 := held_IntS (w := w_10) (xs := r0) 1 (kIntS_ok.ord OW_175.out (fun b hm => by have := HH_59.out b hm; first | omega | (simp; done) | (simp; omega))) (by omega) (by have := HCN.out; omega)
  rw [show ((1 : Nat) : Int) = 1 from rfl, HQ_174.out] at hm_189
  have HM_190 := Lib.hid hm_189; clear hm_189
  go_wp2_with fail
  refine HM_190.out.mono ?_
  rintro e w_11 ⟨rfl, hb⟩
  have hb_191 := hb; clear hb
  have hz_192 : w_10.heap.size ≤ w_11.heap.size := by have := (hb_191).size; first | omega | (simp at this; omega)
  have HB_193 := Lib.hid (box_step HB_178.out hb_191)
  have hz_194 : w.heap.size + 1 ≤ w_11.heap.size := Nat.le_trans hz_179 hz_192
  have c_195 : w_11.cell? ⟨w.heap.size, 0, none⟩ = some (.slice ea0_0 a0.1.length ecap0_0) := below_later (hb_191) c_180; clear c_180
  have c_196 : w_11.cell? ⟨w.heap.size, 1, none⟩ = some (.slice ea0_1 a0.2.length ecap0_1) := below_later (hb_191) c_181; clear c_181
  have c_197 : w_11.cell? ⟨w_3.heap.size, 0, none⟩ = some (.slice ea0_28 a0.1.length ecap0_28) := below_later (hb_191) c_182; clear c_182
  have c_198 : w_11.cell? ⟨w_3.heap.size, 1, none⟩ = some (.slice ea1_28 a0.2.length ecap1_28) := below_later (hb_191) c_183; clear c_183
  have RD_199 := Lib.hid (kIntS_ok.rbelow RD_184.out (Below.mono (hb_191) (by first | omega | (simp; done) | (simp; omega)))); clear RD_184
  have hz_200 : w_2.heap.size ≤ w_11.heap.size := Nat.le_trans hz_185 hz_192
  have OW_201 := Lib.hid (kMachine_ok.oframe OW_186.out (w' := w_11) fun b hm => (hb_191).block b (kMachine_ok.olt OW_186.out b hm)); clear OW_186
  have hz_202 : w_3.heap.size ≤ w_11.heap.size := Nat.le_trans hz_187 hz_192
  have OW_203 := Lib.hid (kIntS_ok.oframe OW_175.out (w' := w_11) fun b hm => (hb_191).block b (kIntS_ok.olt OW_175.out b hm)); clear OW_175
  have hz_204 : w_4.heap.size ≤ w_11.heap.size := Nat.le_trans hz_188 hz_192
  clear hb_191
  have hneg_205 : ¬ ((q_172 : Int) < 0) := by omega
  go_wp2_with fail
  refine (HTO0.out _ (box_below HB_193.out)).mono ?_
  rintro e w_12 ⟨cs_206, fp_206, he, ho, hnd, hge, hb⟩
  have hrd := kMachine_ok.ord ho (B := w_12.heap.size) (kMachine_ok.olt ho)
  obtain ⟨ea0_206, ecap0_206, ea1_206, ecap1_206, rfl, _, _⟩ := Machine_rd hrd
  change e = .returned (.agg #[.slice ea0_206 a0.1.length ecap0_206, .slice ea1_206 a0.2.length ecap1_206]) at he
  subst he
  have hrd2 := kMachine_ok.ord ho (B := w_12.heap.size) (kMachine_ok.olt ho)
  have OW_207 := Lib.hid ho; have HN_210 := Lib.hid hnd
  have HL_208 : Hid (∀ b ∈ fp_206, w_11.heap.size ≤ b) := Lib.hid fun b hm => by have := hge b hm; first | omega | (simp at this; omega)
  have HH_209 : Hid (∀ b ∈ fp_206, b < w_12.heap.size) := Lib.hid (kMachine_ok.olt ho)
  have RD_211 := Lib.hid hrd2; clear ho hnd hge hrd2 hrd
  have hb_212 := hb; clear hb
  have hz_213 : w_11.heap.size ≤ w_12.heap.size := by have := (hb_212).size; first | omega | (simp at this; omega)
  have HB_214 := Lib.hid (box_step HB_193.out hb_212)
  have hz_215 : w.heap.size + 1 ≤ w_12.heap.size := Nat.le_trans hz_194 hz_213
  have c_216 : w_12.cell? ⟨w.heap.size, 0, none⟩ = some (.slice ea0_0 a0.1.length ecap0_0) := below_later (hb_212) c_195; clear c_195
  have c_217 : w_12.cell? ⟨w.heap.size, 1, none⟩ = some (.slice ea0_1 a0.2.length ecap0_1) := below_later (hb_212) c_196; clear c_196
  have c_218 : w_12.cell? ⟨w_3.heap.size, 0, none⟩ = some (.slice ea0_28 a0.1.length ecap0_28) := below_later (hb_212) c_197; clear c_197
  have c_219 : w_12.cell? ⟨w_3.heap.size, 1, none⟩ = some (.slice ea1_28 a0.2.length ecap1_28) := below_later (hb_212) c_198; clear c_198
  have RD_220 := Lib.hid (kIntS_ok.rbelow RD_199.out (Below.mono (hb_212) (by first | omega | (simp; done) | (simp; omega)))); clear RD_199
  have hz_221 : w_2.heap.size ≤ w_12.heap.size := Nat.le_trans hz_200 hz_213
  have OW_222 := Lib.hid (kMachine_ok.oframe OW_201.out (w' := w_12) fun b hm => (hb_212).block b (kMachine_ok.olt OW_201.out b hm)); clear OW_201
  have hz_223 : w_3.heap.size ≤ w_12.heap.size := Nat.le_trans hz_202 hz_213
  have OW_224 := Lib.hid (kIntS_ok.oframe OW_203.out (w' := w_12) fun b hm => (hb_212).block b (kIntS_ok.olt OW_203.out b hm)); clear OW_203
  have hz_225 : w_4.heap.size ≤ w_12.heap.size := Nat.le_trans hz_204 hz_213
  have HQ := Lib.hid hb_212; clear hb_212 HQ
  have hz_226 : w_12.heap.size ≤ w_12.heap.size := Nat.le_refl _
  go_wp2_with fail
  refine ((HI.out _ [.slice ea0_206 a0.1.length ecap0_206, .slice ea1_206 a0.2.length ecap1_206] (kMachine_ok.rmono RD_211.out (by first | omega | (simp; done) | (simp; omega)))).mono (fun _ _ h => Made.reads kIntS_ok h)).mono ?_
  rintro e w_13 ⟨cs_227, he, hrd, hb⟩
  obtain ⟨ea_227, ecap_227, rfl⟩ := kSl_form hrd
  change e = .returned (.tuple #[(.slice ea_227 r0.length ecap_227), (.int .i64 r1), (.bool r2)]) at he
  subst he
  have RD_228 := Lib.hid hrd; clear hrd
  have hb_229 := hb; clear hb
  have hz_230 : w_12.heap.size ≤ w_13.heap.size := by have := (hb_229).size; first | omega | (simp at this; omega)
  have HB_231 := Lib.hid (box_step HB_214.out hb_229)
  have hz_232 : w.heap.size + 1 ≤ w_13.heap.size := Nat.le_trans hz_215 hz_230
  have c_233 : w_13.cell? ⟨w.heap.size, 0, none⟩ = some (.slice ea0_0 a0.1.length ecap0_0) := below_later (hb_229) c_216; clear c_216
  have c_234 : w_13.cell? ⟨w.heap.size, 1, none⟩ = some (.slice ea0_1 a0.2.length ecap0_1) := below_later (hb_229) c_217; clear c_217
  have c_235 : w_13.cell? ⟨w_3.heap.size, 0, none⟩ = some (.slice ea0_28 a0.1.length ecap0_28) := below_later (hb_229) c_218; clear c_218
  have c_236 : w_13.cell? ⟨w_3.heap.size, 1, none⟩ = some (.slice ea1_28 a0.2.length ecap1_28) := below_later (hb_229) c_219; clear c_219
  have RD_237 := Lib.hid (kIntS_ok.rbelow RD_220.out (Below.mono (hb_229) (by first | omega | (simp; done) | (simp; omega)))); clear RD_220
  have hz_238 : w_2.heap.size ≤ w_13.heap.size := Nat.le_trans hz_221 hz_230
  have RD_239 := Lib.hid (kMachine_ok.rbelow RD_211.out (Below.mono (hb_229) (by first | omega | (simp; done) | (simp; omega)))); clear RD_211
  have hz_240 : w_12.heap.size ≤ w_13.heap.size := Nat.le_trans hz_226 hz_230
  have OW_241 := Lib.hid (kMachine_ok.oframe OW_222.out (w' := w_13) fun b hm => (hb_229).block b (kMachine_ok.olt OW_222.out b hm)); clear OW_222
  have hz_242 : w_3.heap.size ≤ w_13.heap.size := Nat.le_trans hz_223 hz_230
  have OW_243 := Lib.hid (kIntS_ok.oframe OW_224.out (w' := w_13) fun b hm => (hb_229).block b (kIntS_ok.olt OW_224.out b hm)); clear OW_224
  have hz_244 : w_4.heap.size ≤ w_13.heap.size := Nat.le_trans hz_225 hz_230
  clear hb_229
  have hz_245 : w_13.heap.size ≤ w_13.heap.size := Nat.le_refl _
  go_wp2_with fail
  refine (eq_IntS (w := w_13) (kIntS_ok.rmono RD_228.out (by first | omega | (simp; done) | (simp; omega))) (kIntS_ok.rmono RD_237.out (by first | omega | (simp; done) | (simp; omega)))).mono ?_
  rintro e w_14 ⟨rfl, hb⟩
  have hb_246 := hb; clear hb
  have hz_247 : w_13.heap.size ≤ w_14.heap.size := by have := (hb_246).size; first | omega | (simp at this; omega)
  have HB_248 := Lib.hid (box_step HB_231.out hb_246)
  have hz_249 : w.heap.size + 1 ≤ w_14.heap.size := Nat.le_trans hz_232 hz_247
  have c_250 : w_14.cell? ⟨w.heap.size, 0, none⟩ = some (.slice ea0_0 a0.1.length ecap0_0) := below_later (hb_246) c_233; clear c_233
  have c_251 : w_14.cell? ⟨w.heap.size, 1, none⟩ = some (.slice ea0_1 a0.2.length ecap0_1) := below_later (hb_246) c_234; clear c_234
  have c_252 : w_14.cell? ⟨w_3.heap.size, 0, none⟩ = some (.slice ea0_28 a0.1.length ecap0_28) := below_later (hb_246) c_235; clear c_235
  have c_253 : w_14.cell? ⟨w_3.heap.size, 1, none⟩ = some (.slice ea1_28 a0.2.length ecap1_28) := below_later (hb_246) c_236; clear c_236
  have RD_254 := Lib.hid (kIntS_ok.rbelow RD_237.out (Below.mono (hb_246) (by first | omega | (simp; done) | (simp; omega)))); clear RD_237
  have hz_255 : w_2.heap.size ≤ w_14.heap.size := Nat.le_trans hz_238 hz_247
  have RD_256 := Lib.hid (kIntS_ok.rbelow RD_228.out (Below.mono (hb_246) (by first | omega | (simp; done) | (simp; omega)))); clear RD_228
  have hz_257 : w_13.heap.size ≤ w_14.heap.size := Nat.le_trans hz_245 hz_247
  have OW_258 := Lib.hid (kMachine_ok.oframe OW_241.out (w' := w_14) fun b hm => (hb_246).block b (kMachine_ok.olt OW_241.out b hm)); clear OW_241
  have hz_259 : w_3.heap.size ≤ w_14.heap.size := Nat.le_trans hz_242 hz_247
  have OW_260 := Lib.hid (kIntS_ok.oframe OW_243.out (w' := w_14) fun b hm => (hb_246).block b (kIntS_ok.olt OW_243.out b hm)); clear OW_243
  have hz_261 : w_4.heap.size ≤ w_14.heap.size := Nat.le_trans hz_244 hz_247
  clear hb_246
  have hm_262 := held_IntS (w := w_14) (xs := r0) 1 (kIntS_ok.ord OW_260.out (fun b hm => by have := HH_59.out b hm; first | omega | (simp; done) | (simp; omega))) (by omega) (by have := HCN.out; omega)
  rw [show ((1 : Nat) : Int) = 1 from rfl, HQ_174.out] at hm_262
  have HM_263 := Lib.hid hm_262; clear hm_262
  go_wp2_with fail
  refine HM_263.out.mono ?_
  rintro e w_15 ⟨rfl, hb⟩
  have hb_264 := hb; clear hb
  have hz_265 : w_14.heap.size ≤ w_15.heap.size := by have := (hb_264).size; first | omega | (simp at this; omega)
  have HB_266 := Lib.hid (box_step HB_248.out hb_264)
  have hz_267 : w.heap.size + 1 ≤ w_15.heap.size := Nat.le_trans hz_249 hz_265
  have c_268 : w_15.cell? ⟨w.heap.size, 0, none⟩ = some (.slice ea0_0 a0.1.length ecap0_0) := below_later (hb_264) c_250; clear c_250
  have c_269 : w_15.cell? ⟨w.heap.size, 1, none⟩ = some (.slice ea0_1 a0.2.length ecap0_1) := below_later (hb_264) c_251; clear c_251
  have c_270 : w_15.cell? ⟨w_3.heap.size, 0, none⟩ = some (.slice ea0_28 a0.1.length ecap0_28) := below_later (hb_264) c_252; clear c_252
  have c_271 : w_15.cell? ⟨w_3.heap.size, 1, none⟩ = some (.slice ea1_28 a0.2.length ecap1_28) := below_later (hb_264) c_253; clear c_253
  have RD_272 := Lib.hid (kIntS_ok.rbelow RD_254.out (Below.mono (hb_264) (by first | omega | (simp; done) | (simp; omega)))); clear RD_254
  have hz_273 : w_2.heap.size ≤ w_15.heap.size := Nat.le_trans hz_255 hz_265
  have RD_274 := Lib.hid (kIntS_ok.rbelow RD_256.out (Below.mono (hb_264) (by first | omega | (simp; done) | (simp; omega)))); clear RD_256
  have hz_275 : w_13.heap.size ≤ w_15.heap.size := Nat.le_trans hz_257 hz_265
  have OW_276 := Lib.hid (kMachine_ok.oframe OW_258.out (w' := w_15) fun b hm => (hb_264).block b (kMachine_ok.olt OW_258.out b hm)); clear OW_258
  have hz_277 : w_3.heap.size ≤ w_15.heap.size := Nat.le_trans hz_259 hz_265
  have OW_278 := Lib.hid (kIntS_ok.oframe OW_260.out (w' := w_15) fun b hm => (hb_264).block b (kIntS_ok.olt OW_260.out b hm)); clear OW_260
  have hz_279 : w_4.heap.size ≤ w_15.heap.size := Nat.le_trans hz_261 hz_265
  clear hb_264
  have hneg_280 : ¬ ((q_172 : Int) < 0) := by omega
  go_wp2_with fail
  go_ret
  exact ⟨rfl, (box_below HB_266.out)⟩

end Go.Proofs.Ytedjahinlpehgaa.fnExactClassesOf
