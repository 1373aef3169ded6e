/- The walk of FnExactLeastOf: whatever the arguments, the call returns true and writes nothing that was there. -/
import Derived.Deep.RegionHeld3
import Derived.Test.YtedjahinlpehgaaLstC
namespace Go.Proofs.Ytedjahinlpehgaa.fnExactLeastOf
open Go.ChangeShapes Go.WideShapes Go.ChangeAt Go.RowKit
open Go.ChangeMaps (open_string shut_string)
set_option linter.unusedVariables false

set_option maxHeartbeats 1000000 in
set_option maxRecDepth 100000 in
theorem walk (w : World) (v0 : Value) (a0 : ((List (List Int)) × (List Bool))) (w0 : IsK kMachine (fun cs => .agg cs.toArray) w v0 a0) :
    Calls Try.prog 9 #[v0] w fun e w' => e = .returned (.bool true) ∧ Below w.heap.size w w' := by
  obtain ⟨cs0, rfl, hr0⟩ := w0
  obtain ⟨ea0_0, ecap0_0, ea0_1, ecap0_1, rfl⟩ : ∃ ea0_0 ecap0_0 ea0_1 ecap0_1, cs0 = [.slice ea0_0 a0.1.length ecap0_0, .slice ea0_1 a0.2.length ecap0_1] := by
    obtain ⟨ea0_0, ecap0_0, ea0_1, ecap0_1, h, _⟩ := Machine_rd hr0
    exact ⟨ea0_0, ecap0_0, ea0_1, ecap0_1, h⟩
  have HR0 := Lib.hid hr0; clear hr0
  have HZ0 := Lib.hid (fun (lx : Int) (wx : World) (hb : Below w.heap.size w wx) (g0 : 0 ≤ lx) (g1 : lx ≤ 1048576) => sz_Machine lx (kMachine_ok.later HR0.out hb) g0 g1)
  have HB0 := Lib.hid (box_start w (.cells #[.slice ea0_0 a0.1.length ecap0_0, .slice ea0_1 a0.2.length ecap0_1] 25))
  by_cases gz0 : (kMachine.wt a0 : Int) ≤ 1048576
  case neg =>
    have GZ0 : szR (1048576) (kMachine.wt a0) = -1 := szR_not gz0
    go_enter Try.func9, Try.ntmps9
    go_wp2_with fail
    refine (HZ0.out (1048576) _ ((Below.refl _ _).alloc (Nat.le_refl _) _) (by omega) (by omega)).mono ?_
    rw [GZ0]
    rintro e v1 ⟨rfl, hb⟩
    have HV1 := Lib.hid (box_step HB0.out hb); clear hb
    have ac0_0_v1 := box_cell HV1.out 0
    have ac0_1_v1 := box_cell HV1.out 1
    go_wp2_with fail
    go_ret
    exact ⟨rfl, (box_below HV1.out)⟩
  have GZ0 : szR (1048576) (kMachine.wt a0) = 1048576 - (kMachine.wt a0 : Int) := szR_fit gz0
  have HT : Hid (kMachine.wt a0 ≤ 1048576) := Lib.hid (by omega)
  have HCN := Lib.hid (R_LeastOf_ok a0 HT.out)
  have HS := Lib.hid (fun (wx : World) (cx0 : List Value) (h0 : kMachine.rd wx.heap.size wx (cx0) a0) => spec_LeastOf wx cx0 a0 h0 HT.out)
  have HI := Lib.hid (fun (wx : World) (cx0 : List Value) (h0 : kMachine.rd wx.heap.size wx (cx0) a0) => impl_LeastOf wx cx0 a0 h0 HT.out)
  have HTO0 := Lib.hid (fun (wx : World) (hb : Below w.heap.size w wx) => to_Machine (kMachine_ok.later HR0.out hb) (by have := HT.out; omega))
  generalize hR : R_LeastOf a0 = R at *
  clear hR
  obtain ⟨r0, r1⟩ := R
  go_enter Try.func9, Try.ntmps9
  go_wp2_with fail
  refine (HZ0.out (1048576) _ ((Below.refl _ _).alloc (Nat.le_refl _) _) (by omega) (by omega)).mono ?_
  rw [GZ0]
  rintro e v1 ⟨rfl, hb⟩
  have HV1 := Lib.hid (box_step HB0.out hb); clear hb
  have ac0_0_v1 := box_cell HV1.out 0
  have ac0_1_v1 := box_cell HV1.out 1
  go_wp2_with fail
  have c_1 : v1.cell? ⟨w.heap.size, 0, none⟩ = some (.slice ea0_0 a0.1.length ecap0_0) := ac0_0_v1; clear ac0_0_v1
  have c_2 : v1.cell? ⟨w.heap.size, 1, none⟩ = some (.slice ea0_1 a0.2.length ecap0_1) := ac0_1_v1; clear ac0_1_v1
  have hz_3 : w.heap.size + 1 ≤ v1.heap.size := by have := (HV1.out).size; first | omega | (simp at this; omega)
  go_wp2_with fail
  refine (HTO0.out _ (box_below HV1.out)).mono ?_
  rintro e w_1 ⟨cs_4, fp_4, he, ho, hnd, hge, hb⟩
  have hrd := kMachine_ok.ord ho (B := w_1.heap.size) (kMachine_ok.olt ho)
  obtain ⟨ea0_4, ecap0_4, ea1_4, ecap1_4, rfl, _, _⟩ := Machine_rd hrd
  change e = .returned (.agg #[.slice ea0_4 a0.1.length ecap0_4, .slice ea1_4 a0.2.length ecap1_4]) at he
  subst he
  have hrd2 := kMachine_ok.ord ho (B := w_1.heap.size) (kMachine_ok.olt ho)
  have OW_5 := Lib.hid ho; have HN_8 := Lib.hid hnd
  have HL_6 : Hid (∀ b ∈ fp_4, v1.heap.size ≤ b) := Lib.hid fun b hm => by have := hge b hm; first | omega | (simp at this; omega)
  have HH_7 : Hid (∀ b ∈ fp_4, b < w_1.heap.size) := Lib.hid (kMachine_ok.olt ho)
  have RD_9 := Lib.hid hrd2; clear ho hnd hge hrd2 hrd
  have hb_10 := hb; clear hb
  have hz_11 : v1.heap.size ≤ w_1.heap.size := by have := (hb_10).size; first | omega | (simp at this; omega)
  have HB_12 := Lib.hid (box_step HV1.out hb_10)
  have hz_13 : w.heap.size + 1 ≤ w_1.heap.size := Nat.le_trans hz_3 hz_11
  have c_14 : w_1.cell? ⟨w.heap.size, 0, none⟩ = some (.slice ea0_0 a0.1.length ecap0_0) := below_later (hb_10) c_1; clear c_1
  have c_15 : w_1.cell? ⟨w.heap.size, 1, none⟩ = some (.slice ea0_1 a0.2.length ecap0_1) := below_later (hb_10) c_2; clear c_2
  have HQ := Lib.hid hb_10; clear hb_10 HQ
  have hz_16 : w_1.heap.size ≤ w_1.heap.size := Nat.le_refl _
  go_wp2_with fail
  refine ((HS.out _ [.slice ea0_4 a0.1.length ecap0_4, .slice ea1_4 a0.2.length ecap1_4] (kMachine_ok.rmono RD_9.out (by first | omega | (simp; done) | (simp; omega)))).mono (fun _ _ h => Made.reads kMachine_ok h)).mono ?_
  rintro e w_2 ⟨cs_17, he, hrd, hb⟩
  obtain ⟨ea0_17, ecap0_17, ea1_17, ecap1_17, rfl⟩ : ∃ ea0_17 ecap0_17 ea1_17 ecap1_17, cs_17 = [.slice ea0_17 r0.1.length ecap0_17, .slice ea1_17 r0.2.length ecap1_17] := by
    obtain ⟨ea0_17, ecap0_17, ea1_17, ecap1_17, h, _⟩ := Machine_rd hrd
    exact ⟨ea0_17, ecap0_17, ea1_17, ecap1_17, h⟩
  change e = .returned (.tuple #[(.agg #[.slice ea0_17 r0.1.length ecap0_17, .slice ea1_17 r0.2.length ecap1_17]), (.bool r1)]) at he
  subst he
  have RD_18 := Lib.hid hrd; clear hrd
  have hb_19 := hb; clear hb
  have hz_20 : w_1.heap.size ≤ w_2.heap.size := by have := (hb_19).size; first | omega | (simp at this; omega)
  have HB_21 := Lib.hid (box_step HB_12.out hb_19)
  have hz_22 : w.heap.size + 1 ≤ w_2.heap.size := Nat.le_trans hz_13 hz_20
  have c_23 : w_2.cell? ⟨w.heap.size, 0, none⟩ = some (.slice ea0_0 a0.1.length ecap0_0) := below_later (hb_19) c_14; clear c_14
  have c_24 : w_2.cell? ⟨w.heap.size, 1, none⟩ = some (.slice ea0_1 a0.2.length ecap0_1) := below_later (hb_19) c_15; clear c_15
  have RD_25 := Lib.hid (kMachine_ok.rbelow RD_9.out (Below.mono (hb_19) (by first | omega | (simp; done) | (simp; omega)))); clear RD_9
  have hz_26 : w_1.heap.size ≤ w_2.heap.size := Nat.le_trans hz_16 hz_20
  clear hb_19
  have hz_27 : w_2.heap.size ≤ w_2.heap.size := Nat.le_refl _
  have hb_28 : Below w_2.heap.size w_2 (w_2.alloc (.cells #[.slice ea0_17 r0.1.length ecap0_17, .slice ea1_17 r0.2.length ecap1_17] 28)) := (Below.refl _ _).alloc (Nat.le_refl _) _
  have hz_29 : w_2.heap.size ≤ w_2.heap.size + 1 := by have := (hb_28).size; first | omega | (simp at this; omega)
  have HB_30 := Lib.hid (box_step HB_21.out hb_28)
  have hz_31 : w.heap.size + 1 ≤ w_2.heap.size + 1 := Nat.le_trans hz_22 hz_29
  have c_32 : (w_2.alloc (.cells #[.slice ea0_17 r0.1.length ecap0_17, .slice ea1_17 r0.2.length ecap1_17] 28)).cell? ⟨w.heap.size, 0, none⟩ = some (.slice ea0_0 a0.1.length ecap0_0) := below_later (hb_28) c_23; clear c_23
  have c_33 : (w_2.alloc (.cells #[.slice ea0_17 r0.1.length ecap0_17, .slice ea1_17 r0.2.length ecap1_17] 28)).cell? ⟨w.heap.size, 1, none⟩ = some (.slice ea0_1 a0.2.length ecap0_1) := below_later (hb_28) c_24; clear c_24
  have RD_34 := Lib.hid (kMachine_ok.rbelow RD_25.out (Below.mono (hb_28) (by first | omega | (simp; done) | (simp; omega)))); clear RD_25
  have hz_35 : w_1.heap.size ≤ w_2.heap.size + 1 := Nat.le_trans hz_26 hz_29
  have RD_36 := Lib.hid (kMachine_ok.rbelow RD_18.out (Below.mono (hb_28) (by first | omega | (simp; done) | (simp; omega)))); clear RD_18
  have hz_37 : w_2.heap.size ≤ w_2.heap.size + 1 := Nat.le_trans hz_27 hz_29
  clear hb_28
  have c_38 : (w_2.alloc (.cells #[.slice ea0_17 r0.1.length ecap0_17, .slice ea1_17 r0.2.length ecap1_17] 28)).cell? ⟨w_2.heap.size, 0, none⟩ = some (.slice ea0_17 r0.1.length ecap0_17) := by go_simp
  have c_39 : (w_2.alloc (.cells #[.slice ea0_17 r0.1.length ecap0_17, .slice ea1_17 r0.2.length ecap1_17] 28)).cell? ⟨w_2.heap.size, 1, none⟩ = some (.slice ea1_17 r0.2.length ecap1_17) := by go_simp
  go_wp2_with fail
  refine (HTO0.out _ (box_below HB_30.out)).mono ?_
  rintro e w_3 ⟨cs_40, fp_40, he, ho, hnd, hge, hb⟩
  have hrd := kMachine_ok.ord ho (B := w_3.heap.size) (kMachine_ok.olt ho)
  obtain ⟨ea0_40, ecap0_40, ea1_40, ecap1_40, rfl, _, _⟩ := Machine_rd hrd
  change e = .returned (.agg #[.slice ea0_40 a0.1.length ecap0_40, .slice ea1_40 a0.2.length ecap1_40]) at he
  subst he
  have hrd2 := kMachine_ok.ord ho (B := w_3.heap.size) (kMachine_ok.olt ho)
  have OW_41 := Lib.hid ho; have HN_44 := Lib.hid hnd
  have HL_42 : Hid (∀ b ∈ fp_40, w_2.heap.size + 1 ≤ b) := Lib.hid fun b hm => by have := hge b hm; first | omega | (simp at this; omega)
  have HH_43 : Hid (∀ b ∈ fp_40, b < w_3.heap.size) := Lib.hid (kMachine_ok.olt ho)
  have RD_45 := Lib.hid hrd2; clear ho hnd hge hrd2 hrd
  have hb_46 := hb; clear hb
  have hz_47 : w_2.heap.size + 1 ≤ w_3.heap.size := by have := (hb_46).size; first | omega | (simp at this; omega)
  have HB_48 := Lib.hid (box_step HB_30.out hb_46)
  have hz_49 : w.heap.size + 1 ≤ w_3.heap.size := Nat.le_trans hz_31 hz_47
  have c_50 : w_3.cell? ⟨w.heap.size, 0, none⟩ = some (.slice ea0_0 a0.1.length ecap0_0) := below_later (hb_46) c_32; clear c_32
  have c_51 : w_3.cell? ⟨w.heap.size, 1, none⟩ = some (.slice ea0_1 a0.2.length ecap0_1) := below_later (hb_46) c_33; clear c_33
  have c_52 : w_3.cell? ⟨w_2.heap.size, 0, none⟩ = some (.slice ea0_17 r0.1.length ecap0_17) := below_later (hb_46) c_38; clear c_38
  have c_53 : w_3.cell? ⟨w_2.heap.size, 1, none⟩ = some (.slice ea1_17 r0.2.length ecap1_17) := below_later (hb_46) c_39; clear c_39
  have RD_54 := Lib.hid (kMachine_ok.rbelow RD_36.out (Below.mono (hb_46) (by first | omega | (simp; done) | (simp; omega)))); clear RD_36
  have hz_55 : w_2.heap.size ≤ w_3.heap.size := Nat.le_trans hz_37 hz_47
  have HQ := Lib.hid hb_46; clear hb_46 HQ
  have hz_56 : w_3.heap.size ≤ w_3.heap.size := Nat.le_refl _
  have hb_57 : Below w_3.heap.size w_3 (w_3.alloc (.cells #[.slice ea0_40 a0.1.length ecap0_40, .slice ea1_40 a0.2.length ecap1_40] 28)) := (Below.refl _ _).alloc (Nat.le_refl _) _
  have hz_58 : w_3.heap.size ≤ w_3.heap.size + 1 := by have := (hb_57).size; first | omega | (simp at this; omega)
  have HB_59 := Lib.hid (box_step HB_48.out hb_57)
  have hz_60 : w.heap.size + 1 ≤ w_3.heap.size + 1 := Nat.le_trans hz_49 hz_58
  have c_61 : (w_3.alloc (.cells #[.slice ea0_40 a0.1.length ecap0_40, .slice ea1_40 a0.2.length ecap1_40] 28)).cell? ⟨w.heap.size, 0, none⟩ = some (.slice ea0_0 a0.1.length ecap0_0) := below_later (hb_57) c_50; clear c_50
  have c_62 : (w_3.alloc (.cells #[.slice ea0_40 a0.1.length ecap0_40, .slice ea1_40 a0.2.length ecap1_40] 28)).cell? ⟨w.heap.size, 1, none⟩ = some (.slice ea0_1 a0.2.length ecap0_1) := below_later (hb_57) c_51; clear c_51
  have c_63 : (w_3.alloc (.cells #[.slice ea0_40 a0.1.length ecap0_40, .slice ea1_40 a0.2.length ecap1_40] 28)).cell? ⟨w_2.heap.size, 0, none⟩ = some (.slice ea0_17 r0.1.length ecap0_17) := below_later (hb_57) c_52; clear c_52
  have c_64 : (w_3.alloc (.cells #[.slice ea0_40 a0.1.length ecap0_40, .slice ea1_40 a0.2.length ecap1_40] 28)).cell? ⟨w_2.heap.size, 1, none⟩ = some (.slice ea1_17 r0.2.length ecap1_17) := below_later (hb_57) c_53; clear c_53
  have RD_65 := Lib.hid (kMachine_ok.rbelow RD_54.out (Below.mono (hb_57) (by first | omega | (simp; done) | (simp; omega)))); clear RD_54
  have hz_66 : w_2.heap.size ≤ w_3.heap.size + 1 := Nat.le_trans hz_55 hz_58
  have OW_67 := Lib.hid (kMachine_ok.oframe OW_41.out (w' := (w_3.alloc (.cells #[.slice ea0_40 a0.1.length ecap0_40, .slice ea1_40 a0.2.length ecap1_40] 28))) fun b hm => (hb_57).block b (kMachine_ok.olt OW_41.out b hm)); clear OW_41
  have hz_68 : w_3.heap.size ≤ w_3.heap.size + 1 := Nat.le_trans hz_56 hz_58
  clear hb_57
  have c_69 : (w_3.alloc (.cells #[.slice ea0_40 a0.1.length ecap0_40, .slice ea1_40 a0.2.length ecap1_40] 28)).cell? ⟨w_3.heap.size, 0, none⟩ = some (.slice ea0_40 a0.1.length ecap0_40) := by go_simp
  have c_70 : (w_3.alloc (.cells #[.slice ea0_40 a0.1.length ecap0_40, .slice ea1_40 a0.2.length ecap1_40] 28)).cell? ⟨w_3.heap.size, 1, none⟩ = some (.slice ea1_40 a0.2.length ecap1_40) := by go_simp
  go_wp2_with fail
  refine (HI.out _ [.slice ea0_40 a0.1.length ecap0_40, .slice ea1_40 a0.2.length ecap1_40] (kMachine_ok.ord OW_67.out (fun b hm => by have := HH_43.out b hm; first | omega | (simp; done) | (simp; omega)))).mono ?_
  rintro e w_4 ⟨cs_71, fp_71, he, ho, hnd, hge, hb⟩
  have hrd := kMachine_ok.ord ho (B := w_4.heap.size) (kMachine_ok.olt ho)
  obtain ⟨ea0_71, ecap0_71, ea1_71, ecap1_71, rfl⟩ : ∃ ea0_71 ecap0_71 ea1_71 ecap1_71, cs_71 = [.slice ea0_71 r0.1.length ecap0_71, .slice ea1_71 r0.2.length ecap1_71] := by
    obtain ⟨ea0_71, ecap0_71, ea1_71, ecap1_71, h, _⟩ := Machine_rd hrd
    exact ⟨ea0_71, ecap0_71, ea1_71, ecap1_71, h⟩
  change e = .returned (.tuple #[(.agg #[.slice ea0_71 r0.1.length ecap0_71, .slice ea1_71 r0.2.length ecap1_71]), (.bool r1)]) at he
  subst he
  have RD_72 := Lib.hid hrd; clear hrd
  have OW_73 := Lib.hid ho; have HN_76 := Lib.hid hnd
  have HL_74 : Hid (∀ b ∈ fp_71, w_3.heap.size + 1 ≤ b) := Lib.hid fun b hm => by have := hge b hm; first | omega | (simp at this; omega)
  have HH_75 : Hid (∀ b ∈ fp_71, b < w_4.heap.size) := Lib.hid (kMachine_ok.olt ho)
  clear ho hnd hge
  have hb_77 := hb; clear hb
  have hz_78 : w_3.heap.size + 1 ≤ w_4.heap.size := by have := (hb_77).size; first | omega | (simp at this; omega)
  have HB_79 := Lib.hid (box_step HB_59.out hb_77)
  have hz_80 : w.heap.size + 1 ≤ w_4.heap.size := Nat.le_trans hz_60 hz_78
  have c_81 : w_4.cell? ⟨w.heap.size, 0, none⟩ = some (.slice ea0_0 a0.1.length ecap0_0) := below_later (hb_77) c_61; clear c_61
  have c_82 : w_4.cell? ⟨w.heap.size, 1, none⟩ = some (.slice ea0_1 a0.2.length ecap0_1) := below_later (hb_77) c_62; clear c_62
  have c_83 : w_4.cell? ⟨w_2.heap.size, 0, none⟩ = some (.slice ea0_17 r0.1.length ecap0_17) := below_later (hb_77) c_63; clear c_63
  have c_84 : w_4.cell? ⟨w_2.heap.size, 1, none⟩ = some (.slice ea1_17 r0.2.length ecap1_17) := below_later (hb_77) c_64; clear c_64
  have c_85 : w_4.cell? ⟨w_3.heap.size, 0, none⟩ = some (.slice ea0_40 a0.1.length ecap0_40) := below_later (hb_77) c_69; clear c_69
  have c_86 : w_4.cell? ⟨w_3.heap.size, 1, none⟩ = some (.slice ea1_40 a0.2.length ecap1_40) := below_later (hb_77) c_70; clear c_70
  have RD_87 := Lib.hid (kMachine_ok.rbelow RD_65.out (Below.mono (hb_77) (by first | omega | (simp; done) | (simp; omega)))); clear RD_65
  have hz_88 : w_2.heap.size ≤ w_4.heap.size := Nat.le_trans hz_66 hz_78
  have OW_89 := Lib.hid (kMachine_ok.oframe OW_67.out (w' := w_4) fun b hm => (hb_77).block b (kMachine_ok.olt OW_67.out b hm)); clear OW_67
  have hz_90 : w_3.heap.size ≤ w_4.heap.size := Nat.le_trans hz_68 hz_78
  clear hb_77
  have hz_91 : w_4.heap.size ≤ w_4.heap.size := Nat.le_refl _
  have hb_92 : Below w_4.heap.size w_4 (w_4.alloc (.cells #[.slice ea0_71 r0.1.length ecap0_71, .slice ea1_71 r0.2.length ecap1_71] 28)) := (Below.refl _ _).alloc (Nat.le_refl _) _
  have hz_93 : w_4.heap.size ≤ w_4.heap.size + 1 := by have := (hb_92).size; first | omega | (simp at this; omega)
  have HB_94 := Lib.hid (box_step HB_79.out hb_92)
  have hz_95 : w.heap.size + 1 ≤ w_4.heap.size + 1 := Nat.le_trans hz_80 hz_93
  have c_96 : (w_4.alloc (.cells #[.slice ea0_71 r0.1.length ecap0_71, .slice ea1_71 r0.2.length ecap1_71] 28)).cell? ⟨w.heap.size, 0, none⟩ = some (.slice ea0_0 a0.1.length ecap0_0) := below_later (hb_92) c_81; clear c_81
  have c_97 : (w_4.alloc (.cells #[.slice ea0_71 r0.1.length ecap0_71, .slice ea1_71 r0.2.length ecap1_71] 28)).cell? ⟨w.heap.size, 1, none⟩ = some (.slice ea0_1 a0.2.length ecap0_1) := below_later (hb_92) c_82; clear c_82
  have c_98 : (w_4.alloc (.cells #[.slice ea0_71 r0.1.length ecap0_71, .slice ea1_71 r0.2.length ecap1_71] 28)).cell? ⟨w_2.heap.size, 0, none⟩ = some (.slice ea0_17 r0.1.length ecap0_17) := below_later (hb_92) c_83; clear c_83
  have c_99 : (w_4.alloc (.cells #[.slice ea0_71 r0.1.length ecap0_71, .slice ea1_71 r0.2.length ecap1_71] 28)).cell? ⟨w_2.heap.size, 1, none⟩ = some (.slice ea1_17 r0.2.length ecap1_17) := below_later (hb_92) c_84; clear c_84
  have c_100 : (w_4.alloc (.cells #[.slice ea0_71 r0.1.length ecap0_71, .slice ea1_71 r0.2.length ecap1_71] 28)).cell? ⟨w_3.heap.size, 0, none⟩ = some (.slice ea0_40 a0.1.length ecap0_40) := below_later (hb_92) c_85; clear c_85
  have c_101 : (w_4.alloc (.cells #[.slice ea0_71 r0.1.length ecap0_71, .slice ea1_71 r0.2.length ecap1_71] 28)).cell? ⟨w_3.heap.size, 1, none⟩ = some (.slice ea1_40 a0.2.length ecap1_40) := below_later (hb_92) c_86; clear c_86
  have RD_102 := Lib.hid (kMachine_ok.rbelow RD_87.out (Below.mono (hb_92) (by first | omega | (simp; done) | (simp; omega)))); clear RD_87
  have hz_103 : w_2.heap.size ≤ w_4.heap.size + 1 := Nat.le_trans hz_88 hz_93
  have OW_104 := Lib.hid (kMachine_ok.oframe OW_89.out (w' := (w_4.alloc (.cells #[.slice ea0_71 r0.1.length ecap0_71, .slice ea1_71 r0.2.length ecap1_71] 28))) fun b hm => (hb_92).block b (kMachine_ok.olt OW_89.out b hm)); clear OW_89
  have hz_105 : w_3.heap.size ≤ w_4.heap.size + 1 := Nat.le_trans hz_90 hz_93
  have OW_106 := Lib.hid (kMachine_ok.oframe OW_73.out (w' := (w_4.alloc (.cells #[.slice ea0_71 r0.1.length ecap0_71, .slice ea1_71 r0.2.length ecap1_71] 28))) fun b hm => (hb_92).block b (kMachine_ok.olt OW_73.out b hm)); clear OW_73
  have hz_107 : w_4.heap.size ≤ w_4.heap.size + 1 := Nat.le_trans hz_91 hz_93
  clear hb_92
  have c_108 : (w_4.alloc (.cells #[.slice ea0_71 r0.1.length ecap0_71, .slice ea1_71 r0.2.length ecap1_71] 28)).cell? ⟨w_4.heap.size, 0, none⟩ = some (.slice ea0_71 r0.1.length ecap0_71) := by go_simp
  have c_109 : (w_4.alloc (.cells #[.slice ea0_71 r0.1.length ecap0_71, .slice ea1_71 r0.2.length ecap1_71] 28)).cell? ⟨w_4.heap.size, 1, none⟩ = some (.slice ea1_71 r0.2.length ecap1_71) := by go_simp
  go_wp2_with fail
  refine (eq_Machine (w := (w_4.alloc (.cells #[.slice ea0_71 r0.1.length ecap0_71, .slice ea1_71 r0.2.length ecap1_71] 28))) (kMachine_ok.ord OW_106.out (fun b hm => by have := HH_75.out b hm; first | omega | (simp; done) | (simp; omega))) (kMachine_ok.rmono RD_102.out (by first | omega | (simp; done) | (simp; omega)))).mono ?_
  rintro e w_5 ⟨rfl, hb⟩
  have hb_110 := hb; clear hb
  have hz_111 : w_4.heap.size + 1 ≤ w_5.heap.size := by have := (hb_110).size; first | omega | (simp at this; omega)
  have HB_112 := Lib.hid (box_step HB_94.out hb_110)
  have hz_113 : w.heap.size + 1 ≤ w_5.heap.size := Nat.le_trans hz_95 hz_111
  have c_114 : w_5.cell? ⟨w.heap.size, 0, none⟩ = some (.slice ea0_0 a0.1.length ecap0_0) := below_later (hb_110) c_96; clear c_96
  have c_115 : w_5.cell? ⟨w.heap.size, 1, none⟩ = some (.slice ea0_1 a0.2.length ecap0_1) := below_later (hb_110) c_97; clear c_97
  have c_116 : w_5.cell? ⟨w_2.heap.size, 0, none⟩ = some (.slice ea0_17 r0.1.length ecap0_17) := below_later (hb_110) c_98; clear c_98
  have c_117 : w_5.cell? ⟨w_2.heap.size, 1, none⟩ = some (.slice ea1_17 r0.2.length ecap1_17) := below_later (hb_110) c_99; clear c_99
  have c_118 : w_5.cell? ⟨w_3.heap.size, 0, none⟩ = some (.slice ea0_40 a0.1.length ecap0_40) := below_later (hb_110) c_100; clear c_100
  have c_119 : w_5.cell? ⟨w_3.heap.size, 1, none⟩ = some (.slice ea1_40 a0.2.length ecap1_40) := below_later (hb_110) c_101; clear c_101
  have c_120 : w_5.cell? ⟨w_4.heap.size, 0, none⟩ = some (.slice ea0_71 r0.1.length ecap0_71) := below_later (hb_110) c_108; clear c_108
  have c_121 : w_5.cell? ⟨w_4.heap.size, 1, none⟩ = some (.slice ea1_71 r0.2.length ecap1_71) := below_later (hb_110) c_109; clear c_109
  have RD_122 := Lib.hid (kMachine_ok.rbelow RD_102.out (Below.mono (hb_110) (by first | omega | (simp; done) | (simp; omega)))); clear RD_102
  have hz_123 : w_2.heap.size ≤ w_5.heap.size := Nat.le_trans hz_103 hz_111
  have OW_124 := Lib.hid (kMachine_ok.oframe OW_104.out (w' := w_5) fun b hm => (hb_110).block b (kMachine_ok.olt OW_104.out b hm)); clear OW_104
  have hz_125 : w_3.heap.size ≤ w_5.heap.size := Nat.le_trans hz_105 hz_111
  have OW_126 := Lib.hid (kMachine_ok.oframe OW_106.out (w' := w_5) fun b hm => (hb_110).block b (kMachine_ok.olt OW_106.out b hm)); clear OW_106
  have hz_127 : w_4.heap.size ≤ w_5.heap.size := Nat.le_trans hz_107 hz_111
  clear hb_110
  go_wp2_with fail
  have hb_128 : Below w_5.heap.size w_5 w_5.drew := (Below.refl _ _).drew
  have hz_129 : w_5.heap.size ≤ w_5.heap.size := by have := (hb_128).size; first | omega | (simp at this; omega)
  have HB_130 := Lib.hid (box_step HB_112.out hb_128)
  have hz_131 : w.heap.size + 1 ≤ w_5.heap.size := Nat.le_trans hz_113 hz_129
  have c_132 : w_5.drew.cell? ⟨w.heap.size, 0, none⟩ = some (.slice ea0_0 a0.1.length ecap0_0) := below_later (hb_128) c_114; clear c_114
  have c_133 : w_5.drew.cell? ⟨w.heap.size, 1, none⟩ = some (.slice ea0_1 a0.2.length ecap0_1) := below_later (hb_128) c_115; clear c_115
  have c_134 : w_5.drew.cell? ⟨w_2.heap.size, 0, none⟩ = some (.slice ea0_17 r0.1.length ecap0_17) := below_later (hb_128) c_116; clear c_116
  have c_135 : w_5.drew.cell? ⟨w_2.heap.size, 1, none⟩ = some (.slice ea1_17 r0.2.length ecap1_17) := below_later (hb_128) c_117; clear c_117
  have c_136 : w_5.drew.cell? ⟨w_3.heap.size, 0, none⟩ = some (.slice ea0_40 a0.1.length ecap0_40) := below_later (hb_128) c_118; clear c_118
  have c_137 : w_5.drew.cell? ⟨w_3.heap.size, 1, none⟩ = some (.slice ea1_40 a0.2.length ecap1_40) := below_later (hb_128) c_119; clear c_119
  have c_138 : w_5.drew.cell? ⟨w_4.heap.size, 0, none⟩ = some (.slice ea0_71 r0.1.length ecap0_71) := below_later (hb_128) c_120; clear c_120
  have c_139 : w_5.drew.cell? ⟨w_4.heap.size, 1, none⟩ = some (.slice ea1_71 r0.2.length ecap1_71) := below_later (hb_128) c_121; clear c_121
  have RD_140 := Lib.hid (kMachine_ok.rbelow RD_122.out (Below.mono (hb_128) (by first | omega | (simp; done) | (simp; omega)))); clear RD_122
  have hz_141 : w_2.heap.size ≤ w_5.heap.size := Nat.le_trans hz_123 hz_129
  have OW_142 := Lib.hid (kMachine_ok.oframe OW_124.out (w' := w_5.drew) fun b hm => (hb_128).block b (kMachine_ok.olt OW_124.out b hm)); clear OW_124
  have hz_143 : w_3.heap.size ≤ w_5.heap.size := Nat.le_trans hz_125 hz_129
  have OW_144 := Lib.hid (kMachine_ok.oframe OW_126.out (w' := w_5.drew) fun b hm => (hb_128).block b (kMachine_ok.olt OW_126.out b hm)); clear OW_126
  have hz_145 : w_4.heap.size ≤ w_5.heap.size := Nat.le_trans hz_127 hz_129
  clear hb_128
  refine wp_region_G [3] (fun w' => w'.cell? ⟨w.heap.size, 0, none⟩ = some (.slice ea0_0 a0.1.length ecap0_0) ∧ w'.cell? ⟨w.heap.size, 1, none⟩ = some (.slice ea0_1 a0.2.length ecap0_1) ∧ w'.cell? ⟨w_3.heap.size, 0, none⟩ = some (.slice ea0_40 a0.1.length ecap0_40) ∧ w'.cell? ⟨w_3.heap.size, 1, none⟩ = some (.slice ea1_40 a0.2.length ecap1_40)) (by kernel_rfl) ?_ (fun hHeld => ?_)
  · exact ⟨c_132, c_133, c_136, c_137⟩
  refine wpG_load (i := 0) (oi := { dst := some 41, op := Go.Op.load 28 (Go.Operand.tmp 6), type := 28, pos := "exact.go:3583", after := #[], guard := none }) (v := ?vg1) [[3, 0]] rfl (by kernel_rfl) (fun _ _ _ h => h) hHeld (Or.inl ⟨by rfl, ?yg1⟩) ?_
  case yg1 => (intro wS hSw; (try dsimp only at hSw); go_simp <;> with_reducible rfl)
  try simp only [Act.put, List.setIfInBounds_toArray, List.set_cons_zero, List.set_cons_succ]
  refine wpG_load (i := 1) (oi := { dst := some 42, op := Go.Op.load 25 (Go.Operand.tmp 1), type := 25, pos := "exact.go:3583", after := #[], guard := none }) (v := ?vg2) [[3, 2, 1]] rfl (by kernel_rfl) (fun _ _ _ h => h) hHeld (Or.inl ⟨by rfl, ?yg2⟩) ?_
  case yg2 => (intro wS hSw; (try dsimp only at hSw); go_simp <;> with_reducible rfl)
  try simp only [Act.put, List.setIfInBounds_toArray, List.set_cons_zero, List.set_cons_succ]
  refine wpG_one (i := 2) (o := { dst := some 43, op := Go.Op.call { callee := Go.Callee.value (Go.Operand.func 13), args := #[Go.Operand.tmp 42], argTypes := #[25] }, type := 28, pos := "exact.go:3583", after := #[{ on := 1, ground := Go.Ground.data }], guard := none }) rfl (by kernel_rfl) (fun K hK => ?_)
  go_simp
  refine (HTO0.out _ (box_below HB_130.out)).mono ?_
  rintro e w_6 ⟨cs_146, fp_146, he, ho, hnd, hge, hb⟩
  have hrd := kMachine_ok.ord ho (B := w_6.heap.size) (kMachine_ok.olt ho)
  obtain ⟨ea0_146, ecap0_146, ea1_146, ecap1_146, rfl, _, _⟩ := Machine_rd hrd
  change e = .returned (.agg #[.slice ea0_146 a0.1.length ecap0_146, .slice ea1_146 a0.2.length ecap1_146]) at he
  subst he
  have hrd2 := kMachine_ok.ord ho (B := w_6.heap.size) (kMachine_ok.olt ho)
  have OW_147 := Lib.hid ho; have HN_150 := Lib.hid hnd
  have HL_148 : Hid (∀ b ∈ fp_146, w_5.heap.size ≤ b) := Lib.hid fun b hm => by have := hge b hm; first | omega | (simp at this; omega)
  have HH_149 : Hid (∀ b ∈ fp_146, b < w_6.heap.size) := Lib.hid (kMachine_ok.olt ho)
  have RD_151 := Lib.hid hrd2; clear ho hnd hge hrd2 hrd
  have hb_152 := hb; clear hb
  have hz_153 : w_5.heap.size ≤ w_6.heap.size := by have := (hb_152).size; first | omega | (simp at this; omega)
  have HB_154 := Lib.hid (box_step HB_130.out hb_152)
  have hz_155 : w.heap.size + 1 ≤ w_6.heap.size := Nat.le_trans hz_131 hz_153
  have c_156 : w_6.cell? ⟨w.heap.size, 0, none⟩ = some (.slice ea0_0 a0.1.length ecap0_0) := below_later (hb_152) c_132; clear c_132
  have c_157 : w_6.cell? ⟨w.heap.size, 1, none⟩ = some (.slice ea0_1 a0.2.length ecap0_1) := below_later (hb_152) c_133; clear c_133
  have c_158 : w_6.cell? ⟨w_2.heap.size, 0, none⟩ = some (.slice ea0_17 r0.1.length ecap0_17) := below_later (hb_152) c_134; clear c_134
  have c_159 : w_6.cell? ⟨w_2.heap.size, 1, none⟩ = some (.slice ea1_17 r0.2.length ecap1_17) := below_later (hb_152) c_135; clear c_135
  have c_160 : w_6.cell? ⟨w_3.heap.size, 0, none⟩ = some (.slice ea0_40 a0.1.length ecap0_40) := below_later (hb_152) c_136; clear c_136
  have c_161 : w_6.cell? ⟨w_3.heap.size, 1, none⟩ = some (.slice ea1_40 a0.2.length ecap1_40) := below_later (hb_152) c_137; clear c_137
  have c_162 : w_6.cell? ⟨w_4.heap.size, 0, none⟩ = some (.slice ea0_71 r0.1.length ecap0_71) := below_later (hb_152) c_138; clear c_138
  have c_163 : w_6.cell? ⟨w_4.heap.size, 1, none⟩ = some (.slice ea1_71 r0.2.length ecap1_71) := below_later (hb_152) c_139; clear c_139
  have RD_164 := Lib.hid (kMachine_ok.rbelow RD_140.out (Below.mono (hb_152) (by first | omega | (simp; done) | (simp; omega)))); clear RD_140
  have hz_165 : w_2.heap.size ≤ w_6.heap.size := Nat.le_trans hz_141 hz_153
  have OW_166 := Lib.hid (kMachine_ok.oframe OW_142.out (w' := w_6) fun b hm => (hb_152).block b (kMachine_ok.olt OW_142.out b hm)); clear OW_142
  have hz_167 : w_3.heap.size ≤ w_6.heap.size := Nat.le_trans hz_143 hz_153
  have OW_168 := Lib.hid (kMachine_ok.oframe OW_144.out (w' := w_6) fun b hm => (hb_152).block b (kMachine_ok.olt OW_144.out b hm)); clear OW_144
  have hz_169 : w_4.heap.size ≤ w_6.heap.size := Nat.le_trans hz_145 hz_153
  have HQ := Lib.hid hb_152; clear hb_152 HQ
  have hz_170 : w_6.heap.size ≤ w_6.heap.size := Nat.le_refl _
  refine hK.out _ _ (Or.inr ?khHeld3) (fun hHeld3S => ?_)
  case khHeld3 => exact ⟨c_156, c_157, c_160, c_161⟩
  have hHeld3 := hHeld3S.held (by kernel_rfl)
  clear hK K
  try simp only [Act.put, List.setIfInBounds_toArray, List.set_cons_zero, List.set_cons_succ]
  refine wpG_one (i := 3) (o := { dst := some 44, op := Go.Op.call { callee := Go.Callee.value (Go.Operand.func 15), args := #[Go.Operand.tmp 41, Go.Operand.tmp 43], argTypes := #[28, 28] }, type := 4, pos := "exact.go:3583", after := #[{ on := 0, ground := Go.Ground.data }, { on := 2, ground := Go.Ground.data }, { on := 2, ground := Go.Ground.chain }], guard := none }) rfl (by kernel_rfl) (fun K hK => ?_)
  go_simp
  refine (eq_Machine (w := w_6) (kMachine_ok.ord OW_166.out (fun b hm => by have := HH_43.out b hm; first | omega | (simp; done) | (simp; omega))) (kMachine_ok.rmono RD_151.out (by first | omega | (simp; done) | (simp; omega)))).mono ?_
  rintro e w_7 ⟨rfl, hb⟩
  have hb_171 := hb; clear hb
  have hz_172 : w_6.heap.size ≤ w_7.heap.size := by have := (hb_171).size; first | omega | (simp at this; omega)
  have HB_173 := Lib.hid (box_step HB_154.out hb_171)
  have hz_174 : w.heap.size + 1 ≤ w_7.heap.size := Nat.le_trans hz_155 hz_172
  have c_175 : w_7.cell? ⟨w.heap.size, 0, none⟩ = some (.slice ea0_0 a0.1.length ecap0_0) := below_later (hb_171) c_156; clear c_156
  have c_176 : w_7.cell? ⟨w.heap.size, 1, none⟩ = some (.slice ea0_1 a0.2.length ecap0_1) := below_later (hb_171) c_157; clear c_157
  have c_177 : w_7.cell? ⟨w_2.heap.size, 0, none⟩ = some (.slice ea0_17 r0.1.length ecap0_17) := below_later (hb_171) c_158; clear c_158
  have c_178 : w_7.cell? ⟨w_2.heap.size, 1, none⟩ = some (.slice ea1_17 r0.2.length ecap1_17) := below_later (hb_171) c_159; clear c_159
  have c_179 : w_7.cell? ⟨w_3.heap.size, 0, none⟩ = some (.slice ea0_40 a0.1.length ecap0_40) := below_later (hb_171) c_160; clear c_160
  have c_180 : w_7.cell? ⟨w_3.heap.size, 1, none⟩ = some (.slice ea1_40 a0.2.length ecap1_40) := below_later (hb_171) c_161; clear c_161
  have c_181 : w_7.cell? ⟨w_4.heap.size, 0, none⟩ = some (.slice ea0_71 r0.1.length ecap0_71) := below_later (hb_171) c_162; clear c_162
  have c_182 : w_7.cell? ⟨w_4.heap.size, 1, none⟩ = some (.slice ea1_71 r0.2.length ecap1_71) := below_later (hb_171) c_163; clear c_163
  have RD_183 := Lib.hid (kMachine_ok.rbelow RD_164.out (Below.mono (hb_171) (by first | omega | (simp; done) | (simp; omega)))); clear RD_164
  have hz_184 : w_2.heap.size ≤ w_7.heap.size := Nat.le_trans hz_165 hz_172
  have RD_185 := Lib.hid (kMachine_ok.rbelow RD_151.out (Below.mono (hb_171) (by first | omega | (simp; done) | (simp; omega)))); clear RD_151
  have hz_186 : w_6.heap.size ≤ w_7.heap.size := Nat.le_trans hz_170 hz_172
  have OW_187 := Lib.hid (kMachine_ok.oframe OW_166.out (w' := w_7) fun b hm => (hb_171).block b (kMachine_ok.olt OW_166.out b hm)); clear OW_166
  have hz_188 : w_3.heap.size ≤ w_7.heap.size := Nat.le_trans hz_167 hz_172
  have OW_189 := Lib.hid (kMachine_ok.oframe OW_168.out (w' := w_7) fun b hm => (hb_171).block b (kMachine_ok.olt OW_168.out b hm)); clear OW_168
  have hz_190 : w_4.heap.size ≤ w_7.heap.size := Nat.le_trans hz_169 hz_172
  clear hb_171
  refine hK.out _ _ (Or.inl (by kernel_rfl)) (fun _ => ?_)
  clear hK K
  try simp only [Act.put, List.setIfInBounds_toArray, List.set_cons_zero, List.set_cons_succ]
  refine wpG_pure (i := 4) (oi := { dst := some 45, op := Go.Op.unOp Go.UnOp.not 4 (Go.Operand.tmp 44), type := 4, pos := "exact.go:3583", after := #[{ on := 3, ground := Go.Ground.data }], guard := none }) (v := ?vg5) rfl (by kernel_rfl) (fun _ _ _ h => h) (Or.inl (by kernel_rfl)) (Or.inl ⟨by rfl, ?yg5⟩) ?_
  case yg5 => (intro wS _; go_simp <;> with_reducible rfl)
  try simp only [Act.put, List.setIfInBounds_toArray, List.set_cons_zero, List.set_cons_succ]
  refine wpG_done (by kernel_rfl) ?_
  have hm_191 := mark_Machine (w := w_7) 1 OW_187.out HN_44.out (by omega) (by have := kMachine_ok.cwt a0; have := HT.out; have e0 : kMachine.s ≤ 8 := (by decide); omega)
  rw [show ((1 : Nat) : Int) = 1 from rfl] at hm_191
  have hqq_192 : ∃ z : Nat, 1 + kMachine.cnt a0 = z := ⟨_, rfl⟩
  obtain ⟨q_192, hq_192⟩ := hqq_192
  rw [hq_192] at hm_191
  have bq_192 : 1 ≤ q_192 := by omega
  have HM_193 := Lib.hid hm_191; clear hm_191
  have HQ_194 := Lib.hid hq_192; clear hq_192
  go_wp2_with fail
  refine HM_193.out.mono ?_
  rintro e w_8 ⟨rfl, ho, hw⟩
  have OW_195 := Lib.hid ho; clear ho
  have hw_196 := hw; clear hw
  have hz_197 : w_7.heap.size ≤ w_8.heap.size := by have := (hw_196).size; first | omega | (simp at this; omega)
  have HB_198 := Lib.hid (Below.trans HB_173.out (Wrote.below hw_196 (by first | omega | (simp; done) | (simp; omega)) (fun b hm => by have := HL_42.out b hm; omega)))
  have hz_199 : w.heap.size + 1 ≤ w_8.heap.size := Nat.le_trans hz_174 hz_197
  have c_200 : w_8.cell? ⟨w.heap.size, 0, none⟩ = some (.slice ea0_0 a0.1.length ecap0_0) := Wrote.cell (hw_196) c_175 (fun hm => by have := HL_42.out _ hm; have := HH_43.out _ hm; omega); clear c_175
  have c_201 : w_8.cell? ⟨w.heap.size, 1, none⟩ = some (.slice ea0_1 a0.2.length ecap0_1) := Wrote.cell (hw_196) c_176 (fun hm => by have := HL_42.out _ hm; have := HH_43.out _ hm; omega); clear c_176
  have c_202 : w_8.cell? ⟨w_2.heap.size, 0, none⟩ = some (.slice ea0_17 r0.1.length ecap0_17) := Wrote.cell (hw_196) c_177 (fun hm => by have := HL_42.out _ hm; have := HH_43.out _ hm; omega); clear c_177
  have c_203 : w_8.cell? ⟨w_2.heap.size, 1, none⟩ = some (.slice ea1_17 r0.2.length ecap1_17) := Wrote.cell (hw_196) c_178 (fun hm => by have := HL_42.out _ hm; have := HH_43.out _ hm; omega); clear c_178
  have c_204 : w_8.cell? ⟨w_3.heap.size, 0, none⟩ = some (.slice ea0_40 a0.1.length ecap0_40) := Wrote.cell (hw_196) c_179 (fun hm => by have := HL_42.out _ hm; have := HH_43.out _ hm; omega); clear c_179
  have c_205 : w_8.cell? ⟨w_3.heap.size, 1, none⟩ = some (.slice ea1_40 a0.2.length ecap1_40) := Wrote.cell (hw_196) c_180 (fun hm => by have := HL_42.out _ hm; have := HH_43.out _ hm; omega); clear c_180
  have c_206 : w_8.cell? ⟨w_4.heap.size, 0, none⟩ = some (.slice ea0_71 r0.1.length ecap0_71) := Wrote.cell (hw_196) c_181 (fun hm => by have := HL_42.out _ hm; have := HH_43.out _ hm; omega); clear c_181
  have c_207 : w_8.cell? ⟨w_4.heap.size, 1, none⟩ = some (.slice ea1_71 r0.2.length ecap1_71) := Wrote.cell (hw_196) c_182 (fun hm => by have := HL_42.out _ hm; have := HH_43.out _ hm; omega); clear c_182
  have RD_208 := Lib.hid (kMachine_ok.rbelow RD_183.out (Wrote.below hw_196 (by first | omega | (simp; done) | (simp; omega)) (fun b hm => by have := HL_42.out b hm; omega))); clear RD_183
  have hz_209 : w_2.heap.size ≤ w_8.heap.size := Nat.le_trans hz_184 hz_197
  have OW_210 := Lib.hid (kMachine_ok.oframe OW_189.out (w' := w_8) fun b hm => (hw_196).block b (kMachine_ok.olt OW_189.out b hm) (fun hc => by have := HL_74.out b hm; have := HH_75.out b hm; have := HL_42.out b hc; have := HH_43.out b hc; omega)); clear OW_189
  have hz_211 : w_4.heap.size ≤ w_8.heap.size := Nat.le_trans hz_190 hz_197
  clear hw_196
  have hz_212 : w_3.heap.size ≤ w_8.heap.size := by omega
  have hneg : ¬ ((q_192 : Int) < 0) := by omega
  go_wp2_with fail
  refine (eq_Machine (w := w_8) (kMachine_ok.ord OW_210.out (fun b hm => by have := HH_75.out b hm; first | omega | (simp; done) | (simp; omega))) (kMachine_ok.rmono RD_208.out (by first | omega | (simp; done) | (simp; omega)))).mono ?_
  rintro e w_9 ⟨rfl, hb⟩
  have hb_213 := hb; clear hb
  have hz_214 : w_8.heap.size ≤ w_9.heap.size := by have := (hb_213).size; first | omega | (simp at this; omega)
  have HB_215 := Lib.hid (box_step HB_198.out hb_213)
  have hz_216 : w.heap.size + 1 ≤ w_9.heap.size := Nat.le_trans hz_199 hz_214
  have c_217 : w_9.cell? ⟨w.heap.size, 0, none⟩ = some (.slice ea0_0 a0.1.length ecap0_0) := below_later (hb_213) c_200; clear c_200
  have c_218 : w_9.cell? ⟨w.heap.size, 1, none⟩ = some (.slice ea0_1 a0.2.length ecap0_1) := below_later (hb_213) c_201; clear c_201
  have c_219 : w_9.cell? ⟨w_2.heap.size, 0, none⟩ = some (.slice ea0_17 r0.1.length ecap0_17) := below_later (hb_213) c_202; clear c_202
  have c_220 : w_9.cell? ⟨w_2.heap.size, 1, none⟩ = some (.slice ea1_17 r0.2.length ecap1_17) := below_later (hb_213) c_203; clear c_203
  have c_221 : w_9.cell? ⟨w_3.heap.size, 0, none⟩ = some (.slice ea0_40 a0.1.length ecap0_40) := below_later (hb_213) c_204; clear c_204
  have c_222 : w_9.cell? ⟨w_3.heap.size, 1, none⟩ = some (.slice ea1_40 a0.2.length ecap1_40) := below_later (hb_213) c_205; clear c_205
  have c_223 : w_9.cell? ⟨w_4.heap.size, 0, none⟩ = some (.slice ea0_71 r0.1.length ecap0_71) := below_later (hb_213) c_206; clear c_206
  have c_224 : w_9.cell? ⟨w_4.heap.size, 1, none⟩ = some (.slice ea1_71 r0.2.length ecap1_71) := below_later (hb_213) c_207; clear c_207
  have RD_225 := Lib.hid (kMachine_ok.rbelow RD_208.out (Below.mono (hb_213) (by first | omega | (simp; done) | (simp; omega)))); clear RD_208
  have hz_226 : w_2.heap.size ≤ w_9.heap.size := Nat.le_trans hz_209 hz_214
  have OW_227 := Lib.hid (kMachine_ok.oframe OW_195.out (w' := w_9) fun b hm => (hb_213).block b (kMachine_ok.olt OW_195.out b hm)); clear OW_195
  have hz_228 : w_3.heap.size ≤ w_9.heap.size := Nat.le_trans hz_212 hz_214
  have OW_229 := Lib.hid (kMachine_ok.oframe OW_210.out (w' := w_9) fun b hm => (hb_213).block b (kMachine_ok.olt OW_210.out b hm)); clear OW_210
  have hz_230 : w_4.heap.size ≤ w_9.heap.size := Nat.le_trans hz_211 hz_214
  clear hb_213
  have hm_231 := mark_Machine (w := w_9) 1 OW_229.out HN_76.out (by omega) (by have := HCN.out; omega)
  rw [show ((1 : Nat) : Int) = 1 from rfl] at hm_231
  have hqq_232 : ∃ z : Nat, 1 + kMachine.cnt r0 = z := ⟨_, rfl⟩
  obtain ⟨q_232, hq_232⟩ := hqq_232
  rw [hq_232] at hm_231
  have HM_233 := Lib.hid hm_231; clear hm_231
  have HQ_234 := Lib.hid hq_232; clear hq_232
  go_wp2_with fail
  refine HM_233.out.mono ?_
  rintro e w_10 ⟨rfl, ho, hw⟩
  have OW_235 := Lib.hid ho; clear ho
  have hw_236 := hw; clear hw
  have hz_237 : w_9.heap.size ≤ w_10.heap.size := by have := (hw_236).size; first | omega | (simp at this; omega)
  have HB_238 := Lib.hid (Below.trans HB_215.out (Wrote.below hw_236 (by first | omega | (simp; done) | (simp; omega)) (fun b hm => by have := HL_74.out b hm; omega)))
  have hz_239 : w.heap.size + 1 ≤ w_10.heap.size := Nat.le_trans hz_216 hz_237
  have c_240 : w_10.cell? ⟨w.heap.size, 0, none⟩ = some (.slice ea0_0 a0.1.length ecap0_0) := Wrote.cell (hw_236) c_217 (fun hm => by have := HL_74.out _ hm; have := HH_75.out _ hm; omega); clear c_217
  have c_241 : w_10.cell? ⟨w.heap.size, 1, none⟩ = some (.slice ea0_1 a0.2.length ecap0_1) := Wrote.cell (hw_236) c_218 (fun hm => by have := HL_74.out _ hm; have := HH_75.out _ hm; omega); clear c_218
  have c_242 : w_10.cell? ⟨w_2.heap.size, 0, none⟩ = some (.slice ea0_17 r0.1.length ecap0_17) := Wrote.cell (hw_236) c_219 (fun hm => by have := HL_74.out _ hm; have := HH_75.out _ hm; omega); clear c_219
  have c_243 : w_10.cell? ⟨w_2.heap.size, 1, none⟩ = some (.slice ea1_17 r0.2.length ecap1_17) := Wrote.cell (hw_236) c_220 (fun hm => by have := HL_74.out _ hm; have := HH_75.out _ hm; omega); clear c_220
  have c_244 : w_10.cell? ⟨w_3.heap.size, 0, none⟩ = some (.slice ea0_40 a0.1.length ecap0_40) := Wrote.cell (hw_236) c_221 (fun hm => by have := HL_74.out _ hm; have := HH_75.out _ hm; omega); clear c_221
  have c_245 : w_10.cell? ⟨w_3.heap.size, 1, none⟩ = some (.slice ea1_40 a0.2.length ecap1_40) := Wrote.cell (hw_236) c_222 (fun hm => by have := HL_74.out _ hm; have := HH_75.out _ hm; omega); clear c_222
  have c_246 : w_10.cell? ⟨w_4.heap.size, 0, none⟩ = some (.slice ea0_71 r0.1.length ecap0_71) := Wrote.cell (hw_236) c_223 (fun hm => by have := HL_74.out _ hm; have := HH_75.out _ hm; omega); clear c_223
  have c_247 : w_10.cell? ⟨w_4.heap.size, 1, none⟩ = some (.slice ea1_71 r0.2.length ecap1_71) := Wrote.cell (hw_236) c_224 (fun hm => by have := HL_74.out _ hm; have := HH_75.out _ hm; omega); clear c_224
  have RD_248 := Lib.hid (kMachine_ok.rbelow RD_225.out (Wrote.below hw_236 (by first | omega | (simp; done) | (simp; omega)) (fun b hm => by have := HL_74.out b hm; omega))); clear RD_225
  have hz_249 : w_2.heap.size ≤ w_10.heap.size := Nat.le_trans hz_226 hz_237
  have OW_250 := Lib.hid (kMachine_ok.oframe OW_227.out (w' := w_10) fun b hm => (hw_236).block b (kMachine_ok.olt OW_227.out b hm) (fun hc => by have := HL_42.out b hm; have := HH_43.out b hm; have := HL_74.out b hc; have := HH_75.out b hc; omega)); clear OW_227
  have hz_251 : w_3.heap.size ≤ w_10.heap.size := Nat.le_trans hz_228 hz_237
  clear hw_236
  have hz_252 : w_4.heap.size ≤ w_10.heap.size := by omega
  have hm_253 := held_Machine (w := w_10) (x := r0) 1 (kMachine_ok.ord OW_235.out (fun b hm => by have := HH_75.out b hm; first | omega | (simp; done) | (simp; omega))) (by omega) (by have := HCN.out; omega)
  rw [show ((1 : Nat) : Int) = 1 from rfl, HQ_234.out] at hm_253
  have HM_254 := Lib.hid hm_253; clear hm_253
  go_wp2_with fail
  refine HM_254.out.mono ?_
  rintro e w_11 ⟨rfl, hb⟩
  have hb_255 := hb; clear hb
  have hz_256 : w_10.heap.size ≤ w_11.heap.size := by have := (hb_255).size; first | omega | (simp at this; omega)
  have HB_257 := Lib.hid (box_step HB_238.out hb_255)
  have hz_258 : w.heap.size + 1 ≤ w_11.heap.size := Nat.le_trans hz_239 hz_256
  have c_259 : w_11.cell? ⟨w.heap.size, 0, none⟩ = some (.slice ea0_0 a0.1.length ecap0_0) := below_later (hb_255) c_240; clear c_240
  have c_260 : w_11.cell? ⟨w.heap.size, 1, none⟩ = some (.slice ea0_1 a0.2.length ecap0_1) := below_later (hb_255) c_241; clear c_241
  have c_261 : w_11.cell? ⟨w_2.heap.size, 0, none⟩ = some (.slice ea0_17 r0.1.length ecap0_17) := below_later (hb_255) c_242; clear c_242
  have c_262 : w_11.cell? ⟨w_2.heap.size, 1, none⟩ = some (.slice ea1_17 r0.2.length ecap1_17) := below_later (hb_255) c_243; clear c_243
  have c_263 : w_11.cell? ⟨w_3.heap.size, 0, none⟩ = some (.slice ea0_40 a0.1.length ecap0_40) := below_later (hb_255) c_244; clear c_244
  have c_264 : w_11.cell? ⟨w_3.heap.size, 1, none⟩ = some (.slice ea1_40 a0.2.length ecap1_40) := below_later (hb_255) c_245; clear c_245
  have c_265 : w_11.cell? ⟨w_4.heap.size, 0, none⟩ = some (.slice ea0_71 r0.1.length ecap0_71) := below_later (hb_255) c_246; clear c_246
  have c_266 : w_11.cell? ⟨w_4.heap.size, 1, none⟩ = some (.slice ea1_71 r0.2.length ecap1_71) := below_later (hb_255) c_247; clear c_247
  have RD_267 := Lib.hid (kMachine_ok.rbelow RD_248.out (Below.mono (hb_255) (by first | omega | (simp; done) | (simp; omega)))); clear RD_248
  have hz_268 : w_2.heap.size ≤ w_11.heap.size := Nat.le_trans hz_249 hz_256
  have OW_269 := Lib.hid (kMachine_ok.oframe OW_250.out (w' := w_11) fun b hm => (hb_255).block b (kMachine_ok.olt OW_250.out b hm)); clear OW_250
  have hz_270 : w_3.heap.size ≤ w_11.heap.size := Nat.le_trans hz_251 hz_256
  have OW_271 := Lib.hid (kMachine_ok.oframe OW_235.out (w' := w_11) fun b hm => (hb_255).block b (kMachine_ok.olt OW_235.out b hm)); clear OW_235
  have hz_272 : w_4.heap.size ≤ w_11.heap.size := Nat.le_trans hz_252 hz_256
  clear hb_255
  have hneg_273 : ¬ ((q_232 : Int) < 0) := by omega
  go_wp2_with fail
  refine (HTO0.out _ (box_below HB_257.out)).mono ?_
  rintro e w_12 ⟨cs_274, fp_274, he, ho, hnd, hge, hb⟩
  have hrd := kMachine_ok.ord ho (B := w_12.heap.size) (kMachine_ok.olt ho)
  obtain ⟨ea0_274, ecap0_274, ea1_274, ecap1_274, rfl, _, _⟩ := Machine_rd hrd
  change e = .returned (.agg #[.slice ea0_274 a0.1.length ecap0_274, .slice ea1_274 a0.2.length ecap1_274]) at he
  subst he
  have hrd2 := kMachine_ok.ord ho (B := w_12.heap.size) (kMachine_ok.olt ho)
  have OW_275 := Lib.hid ho; have HN_278 := Lib.hid hnd
  have HL_276 : Hid (∀ b ∈ fp_274, w_11.heap.size ≤ b) := Lib.hid fun b hm => by have := hge b hm; first | omega | (simp at this; omega)
  have HH_277 : Hid (∀ b ∈ fp_274, b < w_12.heap.size) := Lib.hid (kMachine_ok.olt ho)
  have RD_279 := Lib.hid hrd2; clear ho hnd hge hrd2 hrd
  have hb_280 := hb; clear hb
  have hz_281 : w_11.heap.size ≤ w_12.heap.size := by have := (hb_280).size; first | omega | (simp at this; omega)
  have HB_282 := Lib.hid (box_step HB_257.out hb_280)
  have hz_283 : w.heap.size + 1 ≤ w_12.heap.size := Nat.le_trans hz_258 hz_281
  have c_284 : w_12.cell? ⟨w.heap.size, 0, none⟩ = some (.slice ea0_0 a0.1.length ecap0_0) := below_later (hb_280) c_259; clear c_259
  have c_285 : w_12.cell? ⟨w.heap.size, 1, none⟩ = some (.slice ea0_1 a0.2.length ecap0_1) := below_later (hb_280) c_260; clear c_260
  have c_286 : w_12.cell? ⟨w_2.heap.size, 0, none⟩ = some (.slice ea0_17 r0.1.length ecap0_17) := below_later (hb_280) c_261; clear c_261
  have c_287 : w_12.cell? ⟨w_2.heap.size, 1, none⟩ = some (.slice ea1_17 r0.2.length ecap1_17) := below_later (hb_280) c_262; clear c_262
  have c_288 : w_12.cell? ⟨w_3.heap.size, 0, none⟩ = some (.slice ea0_40 a0.1.length ecap0_40) := below_later (hb_280) c_263; clear c_263
  have c_289 : w_12.cell? ⟨w_3.heap.size, 1, none⟩ = some (.slice ea1_40 a0.2.length ecap1_40) := below_later (hb_280) c_264; clear c_264
  have c_290 : w_12.cell? ⟨w_4.heap.size, 0, none⟩ = some (.slice ea0_71 r0.1.length ecap0_71) := below_later (hb_280) c_265; clear c_265
  have c_291 : w_12.cell? ⟨w_4.heap.size, 1, none⟩ = some (.slice ea1_71 r0.2.length ecap1_71) := below_later (hb_280) c_266; clear c_266
  have RD_292 := Lib.hid (kMachine_ok.rbelow RD_267.out (Below.mono (hb_280) (by first | omega | (simp; done) | (simp; omega)))); clear RD_267
  have hz_293 : w_2.heap.size ≤ w_12.heap.size := Nat.le_trans hz_268 hz_281
  have OW_294 := Lib.hid (kMachine_ok.oframe OW_269.out (w' := w_12) fun b hm => (hb_280).block b (kMachine_ok.olt OW_269.out b hm)); clear OW_269
  have hz_295 : w_3.heap.size ≤ w_12.heap.size := Nat.le_trans hz_270 hz_281
  have OW_296 := Lib.hid (kMachine_ok.oframe OW_271.out (w' := w_12) fun b hm => (hb_280).block b (kMachine_ok.olt OW_271.out b hm)); clear OW_271
  have hz_297 : w_4.heap.size ≤ w_12.heap.size := Nat.le_trans hz_272 hz_281
  have HQ := Lib.hid hb_280; clear hb_280 HQ
  have hz_298 : w_12.heap.size ≤ w_12.heap.size := Nat.le_refl _
  go_wp2_with fail
  refine ((HI.out _ [.slice ea0_274 a0.1.length ecap0_274, .slice ea1_274 a0.2.length ecap1_274] (kMachine_ok.rmono RD_279.out (by first | omega | (simp; done) | (simp; omega)))).mono (fun _ _ h => Made.reads kMachine_ok h)).mono ?_
  rintro e w_13 ⟨cs_299, he, hrd, hb⟩
  obtain ⟨ea0_299, ecap0_299, ea1_299, ecap1_299, rfl⟩ : ∃ ea0_299 ecap0_299 ea1_299 ecap1_299, cs_299 = [.slice ea0_299 r0.1.length ecap0_299, .slice ea1_299 r0.2.length ecap1_299] := by
    obtain ⟨ea0_299, ecap0_299, ea1_299, ecap1_299, h, _⟩ := Machine_rd hrd
    exact ⟨ea0_299, ecap0_299, ea1_299, ecap1_299, h⟩
  change e = .returned (.tuple #[(.agg #[.slice ea0_299 r0.1.length ecap0_299, .slice ea1_299 r0.2.length ecap1_299]), (.bool r1)]) at he
  subst he
  have RD_300 := Lib.hid hrd; clear hrd
  have hb_301 := hb; clear hb
  have hz_302 : w_12.heap.size ≤ w_13.heap.size := by have := (hb_301).size; first | omega | (simp at this; omega)
  have HB_303 := Lib.hid (box_step HB_282.out hb_301)
  have hz_304 : w.heap.size + 1 ≤ w_13.heap.size := Nat.le_trans hz_283 hz_302
  have c_305 : w_13.cell? ⟨w.heap.size, 0, none⟩ = some (.slice ea0_0 a0.1.length ecap0_0) := below_later (hb_301) c_284; clear c_284
  have c_306 : w_13.cell? ⟨w.heap.size, 1, none⟩ = some (.slice ea0_1 a0.2.length ecap0_1) := below_later (hb_301) c_285; clear c_285
  have c_307 : w_13.cell? ⟨w_2.heap.size, 0, none⟩ = some (.slice ea0_17 r0.1.length ecap0_17) := below_later (hb_301) c_286; clear c_286
  have c_308 : w_13.cell? ⟨w_2.heap.size, 1, none⟩ = some (.slice ea1_17 r0.2.length ecap1_17) := below_later (hb_301) c_287; clear c_287
  have c_309 : w_13.cell? ⟨w_3.heap.size, 0, none⟩ = some (.slice ea0_40 a0.1.length ecap0_40) := below_later (hb_301) c_288; clear c_288
  have c_310 : w_13.cell? ⟨w_3.heap.size, 1, none⟩ = some (.slice ea1_40 a0.2.length ecap1_40) := below_later (hb_301) c_289; clear c_289
  have c_311 : w_13.cell? ⟨w_4.heap.size, 0, none⟩ = some (.slice ea0_71 r0.1.length ecap0_71) := below_later (hb_301) c_290; clear c_290
  have c_312 : w_13.cell? ⟨w_4.heap.size, 1, none⟩ = some (.slice ea1_71 r0.2.length ecap1_71) := below_later (hb_301) c_291; clear c_291
  have RD_313 := Lib.hid (kMachine_ok.rbelow RD_292.out (Below.mono (hb_301) (by first | omega | (simp; done) | (simp; omega)))); clear RD_292
  have hz_314 : w_2.heap.size ≤ w_13.heap.size := Nat.le_trans hz_293 hz_302
  have RD_315 := Lib.hid (kMachine_ok.rbelow RD_279.out (Below.mono (hb_301) (by first | omega | (simp; done) | (simp; omega)))); clear RD_279
  have hz_316 : w_12.heap.size ≤ w_13.heap.size := Nat.le_trans hz_298 hz_302
  have OW_317 := Lib.hid (kMachine_ok.oframe OW_294.out (w' := w_13) fun b hm => (hb_301).block b (kMachine_ok.olt OW_294.out b hm)); clear OW_294
  have hz_318 : w_3.heap.size ≤ w_13.heap.size := Nat.le_trans hz_295 hz_302
  have OW_319 := Lib.hid (kMachine_ok.oframe OW_296.out (w' := w_13) fun b hm => (hb_301).block b (kMachine_ok.olt OW_296.out b hm)); clear OW_296
  have hz_320 : w_4.heap.size ≤ w_13.heap.size := Nat.le_trans hz_297 hz_302
  clear hb_301
  have hz_321 : w_13.heap.size ≤ w_13.heap.size := Nat.le_refl _
  have hb_322 : Below w_13.heap.size w_13 (w_13.alloc (.cells #[.slice ea0_299 r0.1.length ecap0_299, .slice ea1_299 r0.2.length ecap1_299] 28)) := (Below.refl _ _).alloc (Nat.le_refl _) _
  have hz_323 : w_13.heap.size ≤ w_13.heap.size + 1 := by have := (hb_322).size; first | omega | (simp at this; omega)
  have HB_324 := Lib.hid (box_step HB_303.out hb_322)
  have hz_325 : w.heap.size + 1 ≤ w_13.heap.size + 1 := Nat.le_trans hz_304 hz_323
  have c_326 : (w_13.alloc (.cells #[.slice ea0_299 r0.1.length ecap0_299, .slice ea1_299 r0.2.length ecap1_299] 28)).cell? ⟨w.heap.size, 0, none⟩ = some (.slice ea0_0 a0.1.length ecap0_0) := below_later (hb_322) c_305; clear c_305
  have c_327 : (w_13.alloc (.cells #[.slice ea0_299 r0.1.length ecap0_299, .slice ea1_299 r0.2.length ecap1_299] 28)).cell? ⟨w.heap.size, 1, none⟩ = some (.slice ea0_1 a0.2.length ecap0_1) := below_later (hb_322) c_306; clear c_306
  have c_328 : (w_13.alloc (.cells #[.slice ea0_299 r0.1.length ecap0_299, .slice ea1_299 r0.2.length ecap1_299] 28)).cell? ⟨w_2.heap.size, 0, none⟩ = some (.slice ea0_17 r0.1.length ecap0_17) := below_later (hb_322) c_307; clear c_307
  have c_329 : (w_13.alloc (.cells #[.slice ea0_299 r0.1.length ecap0_299, .slice ea1_299 r0.2.length ecap1_299] 28)).cell? ⟨w_2.heap.size, 1, none⟩ = some (.slice ea1_17 r0.2.length ecap1_17) := below_later (hb_322) c_308; clear c_308
  have c_330 : (w_13.alloc (.cells #[.slice ea0_299 r0.1.length ecap0_299, .slice ea1_299 r0.2.length ecap1_299] 28)).cell? ⟨w_3.heap.size, 0, none⟩ = some (.slice ea0_40 a0.1.length ecap0_40) := below_later (hb_322) c_309; clear c_309
  have c_331 : (w_13.alloc (.cells #[.slice ea0_299 r0.1.length ecap0_299, .slice ea1_299 r0.2.length ecap1_299] 28)).cell? ⟨w_3.heap.size, 1, none⟩ = some (.slice ea1_40 a0.2.length ecap1_40) := below_later (hb_322) c_310; clear c_310
  have c_332 : (w_13.alloc (.cells #[.slice ea0_299 r0.1.length ecap0_299, .slice ea1_299 r0.2.length ecap1_299] 28)).cell? ⟨w_4.heap.size, 0, none⟩ = some (.slice ea0_71 r0.1.length ecap0_71) := below_later (hb_322) c_311; clear c_311
  have c_333 : (w_13.alloc (.cells #[.slice ea0_299 r0.1.length ecap0_299, .slice ea1_299 r0.2.length ecap1_299] 28)).cell? ⟨w_4.heap.size, 1, none⟩ = some (.slice ea1_71 r0.2.length ecap1_71) := below_later (hb_322) c_312; clear c_312
  have RD_334 := Lib.hid (kMachine_ok.rbelow RD_313.out (Below.mono (hb_322) (by first | omega | (simp; done) | (simp; omega)))); clear RD_313
  have hz_335 : w_2.heap.size ≤ w_13.heap.size + 1 := Nat.le_trans hz_314 hz_323
  have RD_336 := Lib.hid (kMachine_ok.rbelow RD_315.out (Below.mono (hb_322) (by first | omega | (simp; done) | (simp; omega)))); clear RD_315
  have hz_337 : w_12.heap.size ≤ w_13.heap.size + 1 := Nat.le_trans hz_316 hz_323
  have RD_338 := Lib.hid (kMachine_ok.rbelow RD_300.out (Below.mono (hb_322) (by first | omega | (simp; done) | (simp; omega)))); clear RD_300
  have hz_339 : w_13.heap.size ≤ w_13.heap.size + 1 := Nat.le_trans hz_321 hz_323
  have OW_340 := Lib.hid (kMachine_ok.oframe OW_317.out (w' := (w_13.alloc (.cells #[.slice ea0_299 r0.1.length ecap0_299, .slice ea1_299 r0.2.length ecap1_299] 28))) fun b hm => (hb_322).block b (kMachine_ok.olt OW_317.out b hm)); clear OW_317
  have hz_341 : w_3.heap.size ≤ w_13.heap.size + 1 := Nat.le_trans hz_318 hz_323
  have OW_342 := Lib.hid (kMachine_ok.oframe OW_319.out (w' := (w_13.alloc (.cells #[.slice ea0_299 r0.1.length ecap0_299, .slice ea1_299 r0.2.length ecap1_299] 28))) fun b hm => (hb_322).block b (kMachine_ok.olt OW_319.out b hm)); clear OW_319
  have hz_343 : w_4.heap.size ≤ w_13.heap.size + 1 := Nat.le_trans hz_320 hz_323
  clear hb_322
  have c_344 : (w_13.alloc (.cells #[.slice ea0_299 r0.1.length ecap0_299, .slice ea1_299 r0.2.length ecap1_299] 28)).cell? ⟨w_13.heap.size, 0, none⟩ = some (.slice ea0_299 r0.1.length ecap0_299) := by go_simp
  have c_345 : (w_13.alloc (.cells #[.slice ea0_299 r0.1.length ecap0_299, .slice ea1_299 r0.2.length ecap1_299] 28)).cell? ⟨w_13.heap.size, 1, none⟩ = some (.slice ea1_299 r0.2.length ecap1_299) := by go_simp
  go_wp2_with fail
  refine (eq_Machine (w := (w_13.alloc (.cells #[.slice ea0_299 r0.1.length ecap0_299, .slice ea1_299 r0.2.length ecap1_299] 28))) (kMachine_ok.rmono RD_338.out (by first | omega | (simp; done) | (simp; omega))) (kMachine_ok.rmono RD_334.out (by first | omega | (simp; done) | (simp; omega)))).mono ?_
  rintro e w_14 ⟨rfl, hb⟩
  have hb_346 := hb; clear hb
  have hz_347 : w_13.heap.size + 1 ≤ w_14.heap.size := by have := (hb_346).size; first | omega | (simp at this; omega)
  have HB_348 := Lib.hid (box_step HB_324.out hb_346)
  have hz_349 : w.heap.size + 1 ≤ w_14.heap.size := Nat.le_trans hz_325 hz_347
  have c_350 : w_14.cell? ⟨w.heap.size, 0, none⟩ = some (.slice ea0_0 a0.1.length ecap0_0) := below_later (hb_346) c_326; clear c_326
  have c_351 : w_14.cell? ⟨w.heap.size, 1, none⟩ = some (.slice ea0_1 a0.2.length ecap0_1) := below_later (hb_346) c_327; clear c_327
  have c_352 : w_14.cell? ⟨w_2.heap.size, 0, none⟩ = some (.slice ea0_17 r0.1.length ecap0_17) := below_later (hb_346) c_328; clear c_328
  have c_353 : w_14.cell? ⟨w_2.heap.size, 1, none⟩ = some (.slice ea1_17 r0.2.length ecap1_17) := below_later (hb_346) c_329; clear c_329
  have c_354 : w_14.cell? ⟨w_3.heap.size, 0, none⟩ = some (.slice ea0_40 a0.1.length ecap0_40) := below_later (hb_346) c_330; clear c_330
  have c_355 : w_14.cell? ⟨w_3.heap.size, 1, none⟩ = some (.slice ea1_40 a0.2.length ecap1_40) := below_later (hb_346) c_331; clear c_331
  have c_356 : w_14.cell? ⟨w_4.heap.size, 0, none⟩ = some (.slice ea0_71 r0.1.length ecap0_71) := below_later (hb_346) c_332; clear c_332
  have c_357 : w_14.cell? ⟨w_4.heap.size, 1, none⟩ = some (.slice ea1_71 r0.2.length ecap1_71) := below_later (hb_346) c_333; clear c_333
  have c_358 : w_14.cell? ⟨w_13.heap.size, 0, none⟩ = some (.slice ea0_299 r0.1.length ecap0_299) := below_later (hb_346) c_344; clear c_344
  have c_359 : w_14.cell? ⟨w_13.heap.size, 1, none⟩ = some (.slice ea1_299 r0.2.length ecap1_299) := below_later (hb_346) c_345; clear c_345
  have RD_360 := Lib.hid (kMachine_ok.rbelow RD_334.out (Below.mono (hb_346) (by first | omega | (simp; done) | (simp; omega)))); clear RD_334
  have hz_361 : w_2.heap.size ≤ w_14.heap.size := Nat.le_trans hz_335 hz_347
  have RD_362 := Lib.hid (kMachine_ok.rbelow RD_338.out (Below.mono (hb_346) (by first | omega | (simp; done) | (simp; omega)))); clear RD_338
  have hz_363 : w_13.heap.size ≤ w_14.heap.size := Nat.le_trans hz_339 hz_347
  have OW_364 := Lib.hid (kMachine_ok.oframe OW_340.out (w' := w_14) fun b hm => (hb_346).block b (kMachine_ok.olt OW_340.out b hm)); clear OW_340
  have hz_365 : w_3.heap.size ≤ w_14.heap.size := Nat.le_trans hz_341 hz_347
  have OW_366 := Lib.hid (kMachine_ok.oframe OW_342.out (w' := w_14) fun b hm => (hb_346).block b (kMachine_ok.olt OW_342.out b hm)); clear OW_342
  have hz_367 : w_4.heap.size ≤ w_14.heap.size := Nat.le_trans hz_343 hz_347
  clear hb_346
  have hm_368 := held_Machine (w := w_14) (x := r0) 1 (kMachine_ok.ord OW_366.out (fun b hm => by have := HH_75.out b hm; first | omega | (simp; done) | (simp; omega))) (by omega) (by have := HCN.out; omega)
  rw [show ((1 : Nat) : Int) = 1 from rfl, HQ_234.out] at hm_368
  have HM_369 := Lib.hid hm_368; clear hm_368
  go_wp2_with fail
  refine HM_369.out.mono ?_
  rintro e w_15 ⟨rfl, hb⟩
  have hb_370 := hb; clear hb
  have hz_371 : w_14.heap.size ≤ w_15.heap.size := by have := (hb_370).size; first | omega | (simp at this; omega)
  have HB_372 := Lib.hid (box_step HB_348.out hb_370)
  have hz_373 : w.heap.size + 1 ≤ w_15.heap.size := Nat.le_trans hz_349 hz_371
  have c_374 : w_15.cell? ⟨w.heap.size, 0, none⟩ = some (.slice ea0_0 a0.1.length ecap0_0) := below_later (hb_370) c_350; clear c_350
  have c_375 : w_15.cell? ⟨w.heap.size, 1, none⟩ = some (.slice ea0_1 a0.2.length ecap0_1) := below_later (hb_370) c_351; clear c_351
  have c_376 : w_15.cell? ⟨w_2.heap.size, 0, none⟩ = some (.slice ea0_17 r0.1.length ecap0_17) := below_later (hb_370) c_352; clear c_352
  have c_377 : w_15.cell? ⟨w_2.heap.size, 1, none⟩ = some (.slice ea1_17 r0.2.length ecap1_17) := below_later (hb_370) c_353; clear c_353
  have c_378 : w_15.cell? ⟨w_3.heap.size, 0, none⟩ = some (.slice ea0_40 a0.1.length ecap0_40) := below_later (hb_370) c_354; clear c_354
  have c_379 : w_15.cell? ⟨w_3.heap.size, 1, none⟩ = some (.slice ea1_40 a0.2.length ecap1_40) := below_later (hb_370) c_355; clear c_355
  have c_380 : w_15.cell? ⟨w_4.heap.size, 0, none⟩ = some (.slice ea0_71 r0.1.length ecap0_71) := below_later (hb_370) c_356; clear c_356
  have c_381 : w_15.cell? ⟨w_4.heap.size, 1, none⟩ = some (.slice ea1_71 r0.2.length ecap1_71) := below_later (hb_370) c_357; clear c_357
  have c_382 : w_15.cell? ⟨w_13.heap.size, 0, none⟩ = some (.slice ea0_299 r0.1.length ecap0_299) := below_later (hb_370) c_358; clear c_358
  have c_383 : w_15.cell? ⟨w_13.heap.size, 1, none⟩ = some (.slice ea1_299 r0.2.length ecap1_299) := below_later (hb_370) c_359; clear c_359
  have RD_384 := Lib.hid (kMachine_ok.rbelow RD_360.out (Below.mono (hb_370) (by first | omega | (simp; done) | (simp; omega)))); clear RD_360
  have hz_385 : w_2.heap.size ≤ w_15.heap.size := Nat.le_trans hz_361 hz_371
  have RD_386 := Lib.hid (kMachine_ok.rbelow RD_362.out (Below.mono (hb_370) (by first | omega | (simp; done) | (simp; omega)))); clear RD_362
  have hz_387 : w_13.heap.size ≤ w_15.heap.size := Nat.le_trans hz_363 hz_371
  have OW_388 := Lib.hid (kMachine_ok.oframe OW_364.out (w' := w_15) fun b hm => (hb_370).block b (kMachine_ok.olt OW_364.out b hm)); clear OW_364
  have hz_389 : w_3.heap.size ≤ w_15.heap.size := Nat.le_trans hz_365 hz_371
  have OW_390 := Lib.hid (kMachine_ok.oframe OW_366.out (w' := w_15) fun b hm => (hb_370).block b (kMachine_ok.olt OW_366.out b hm)); clear OW_366
  have hz_391 : w_4.heap.size ≤ w_15.heap.size := Nat.le_trans hz_367 hz_371
  clear hb_370
  have hneg_392 : ¬ ((q_232 : Int) < 0) := by omega
  go_wp2_with fail
  go_ret
  exact ⟨rfl, (box_below HB_372.out)⟩

end Go.Proofs.Ytedjahinlpehgaa.fnExactLeastOf
