/- The walk of FnExactVarsOf: whatever the arguments, the call returns true and writes nothing that was there. -/
import Derived.Deep.RegionHeld3
import Derived.Test.YtlmgckijbamgpaaTmE
import Derived.Test.YtlmgckijbamgpaaHIntS
import Derived.Test.YtlmgckijbamgpaaHTerm
namespace Go.Proofs.Ytlmgckijbamgpaa.fnExactVarsOf
open Go.ChangeShapes Go.WideShapes Go.ChangeAt Go.RowKit
open Go.ChangeMaps (open_string shut_string)
set_option linter.unusedVariables false

set_option maxHeartbeats 1000000 in
set_option maxRecDepth 100000 in
theorem walk (w : World) (v0 : Value) (a0 : (List (Int × ByteArray × Int))) (w0 : IsK kTerm (fun cs => .agg cs.toArray) w v0 a0) :
    Calls Try.prog 3 #[v0] w fun e w' => e = .returned (.bool true) ∧ Below w.heap.size w w' := by
  obtain ⟨cs0, rfl, hr0⟩ := w0
  obtain ⟨ea0_0, ecap0_0, rfl⟩ : ∃ ea0_0 ecap0_0, cs0 = [.slice ea0_0 a0.length ecap0_0] := by
    obtain ⟨ea0_0, ecap0_0, h, _⟩ := Term_rd hr0
    exact ⟨ea0_0, ecap0_0, h⟩
  have HR0 := Lib.hid hr0; clear hr0
  have HZ0 := Lib.hid (fun (lx : Int) (wx : World) (hb : Below w.heap.size w wx) (g0 : 0 ≤ lx) (g1 : lx ≤ 1048576) => sz_Term lx (kTerm_ok.later HR0.out hb) g0 g1)
  have HB0 := Lib.hid (box_start w (.cells #[.slice ea0_0 a0.length ecap0_0] 24))
  by_cases gz0 : (kTerm.wt a0 : Int) ≤ 1048576
  case neg =>
    have GZ0 : szR (1048576) (kTerm.wt a0) = -1 := szR_not gz0
    go_enter Try.func3, Try.ntmps3
    go_wp2_with fail
    refine (HZ0.out (1048576) _ ((Below.refl _ _).alloc (Nat.le_refl _) _) (by omega) (by omega)).mono ?_
    rw [GZ0]
    rintro e v1 ⟨rfl, hb⟩
    have HV1 := Lib.hid (box_step HB0.out hb); clear hb
    have ac0_0_v1 := box_cell HV1.out 0
    go_wp2_with fail
    go_ret
    exact ⟨rfl, (box_below HV1.out)⟩
  have GZ0 : szR (1048576) (kTerm.wt a0) = 1048576 - (kTerm.wt a0 : Int) := szR_fit gz0
  have HT : Hid (kTerm.wt a0 ≤ 1048576) := Lib.hid (by omega)
  have HCN := Lib.hid (R_VarsOf_ok a0 HT.out)
  have HS := Lib.hid (fun (wx : World) (cx0 : List Value) (h0 : kTerm.rd wx.heap.size wx (cx0) a0) => spec_VarsOf wx cx0 a0 h0 HT.out)
  have HI := Lib.hid (fun (wx : World) (cx0 : List Value) (h0 : kTerm.rd wx.heap.size wx (cx0) a0) => impl_VarsOf wx cx0 a0 h0 HT.out)
  have HTO0 := Lib.hid (fun (wx : World) (hb : Below w.heap.size w wx) => to_Term (kTerm_ok.later HR0.out hb) (by have := HT.out; omega))
  generalize hR : R_VarsOf a0 = R at *
  clear hR
  obtain ⟨r0, r1⟩ := R
  go_enter Try.func3, Try.ntmps3
  go_wp2_with fail
  refine (HZ0.out (1048576) _ ((Below.refl _ _).alloc (Nat.le_refl _) _) (by omega) (by omega)).mono ?_
  rw [GZ0]
  rintro e v1 ⟨rfl, hb⟩
  have HV1 := Lib.hid (box_step HB0.out hb); clear hb
  have ac0_0_v1 := box_cell HV1.out 0
  go_wp2_with fail
  have c_1 : v1.cell? ⟨w.heap.size, 0, none⟩ = some (.slice ea0_0 a0.length ecap0_0) := ac0_0_v1; clear ac0_0_v1
  have hz_2 : w.heap.size + 1 ≤ v1.heap.size := by have := (HV1.out).size; first | omega | (simp at this; omega)
  go_wp2_with fail
  refine (HTO0.out _ (box_below HV1.out)).mono ?_
  rintro e w_1 ⟨cs_3, fp_3, he, ho, hnd, hge, hb⟩
  have hrd := kTerm_ok.ord ho (B := w_1.heap.size) (kTerm_ok.olt ho)
  obtain ⟨ea0_3, ecap0_3, rfl, _⟩ := Term_rd hrd
  change e = .returned (.agg #[.slice ea0_3 a0.length ecap0_3]) at he
  subst he
  have hrd2 := kTerm_ok.ord ho (B := w_1.heap.size) (kTerm_ok.olt ho)
  have OW_4 := Lib.hid ho; have HN_7 := Lib.hid hnd
  have HL_5 : Hid (∀ b ∈ fp_3, v1.heap.size ≤ b) := Lib.hid fun b hm => by have := hge b hm; first | omega | (simp at this; omega)
  have HH_6 : Hid (∀ b ∈ fp_3, b < w_1.heap.size) := Lib.hid (kTerm_ok.olt ho)
  have RD_8 := Lib.hid hrd2; clear ho hnd hge hrd2 hrd
  have hb_9 := hb; clear hb
  have hz_10 : v1.heap.size ≤ w_1.heap.size := by have := (hb_9).size; first | omega | (simp at this; omega)
  have HB_11 := Lib.hid (box_step HV1.out hb_9)
  have hz_12 : w.heap.size + 1 ≤ w_1.heap.size := Nat.le_trans hz_2 hz_10
  have c_13 : w_1.cell? ⟨w.heap.size, 0, none⟩ = some (.slice ea0_0 a0.length ecap0_0) := below_later (hb_9) c_1; clear c_1
  have HQ := Lib.hid hb_9; clear hb_9 HQ
  have hz_14 : w_1.heap.size ≤ w_1.heap.size := Nat.le_refl _
  go_wp2_with fail
  refine ((HS.out _ [.slice ea0_3 a0.length ecap0_3] (kTerm_ok.rmono RD_8.out (by first | omega | (simp; done) | (simp; omega)))).mono (fun _ _ h => Made.reads kIntS_ok h)).mono ?_
  rintro e w_2 ⟨cs_15, he, hrd, hb⟩
  obtain ⟨ea_15, ecap_15, rfl⟩ := kSl_form hrd
  change e = .returned (.tuple #[(.slice ea_15 r0.length ecap_15), (.bool r1)]) at he
  subst he
  have RD_16 := Lib.hid hrd; clear hrd
  have hb_17 := hb; clear hb
  have hz_18 : w_1.heap.size ≤ w_2.heap.size := by have := (hb_17).size; first | omega | (simp at this; omega)
  have HB_19 := Lib.hid (box_step HB_11.out hb_17)
  have hz_20 : w.heap.size + 1 ≤ w_2.heap.size := Nat.le_trans hz_12 hz_18
  have c_21 : w_2.cell? ⟨w.heap.size, 0, none⟩ = some (.slice ea0_0 a0.length ecap0_0) := below_later (hb_17) c_13; clear c_13
  have RD_22 := Lib.hid (kTerm_ok.rbelow RD_8.out (Below.mono (hb_17) (by first | omega | (simp; done) | (simp; omega)))); clear RD_8
  have hz_23 : w_1.heap.size ≤ w_2.heap.size := Nat.le_trans hz_14 hz_18
  clear hb_17
  have hz_24 : w_2.heap.size ≤ w_2.heap.size := Nat.le_refl _
  go_wp2_with fail
  refine (HTO0.out _ (box_below HB_19.out)).mono ?_
  rintro e w_3 ⟨cs_25, fp_25, he, ho, hnd, hge, hb⟩
  have hrd := kTerm_ok.ord ho (B := w_3.heap.size) (kTerm_ok.olt ho)
  obtain ⟨ea0_25, ecap0_25, rfl, _⟩ := Term_rd hrd
  change e = .returned (.agg #[.slice ea0_25 a0.length ecap0_25]) at he
  subst he
  have hrd2 := kTerm_ok.ord ho (B := w_3.heap.size) (kTerm_ok.olt ho)
  have OW_26 := Lib.hid ho; have HN_29 := Lib.hid hnd
  have HL_27 : Hid (∀ b ∈ fp_25, w_2.heap.size ≤ b) := Lib.hid fun b hm => by have := hge b hm; first | omega | (simp at this; omega)
  have HH_28 : Hid (∀ b ∈ fp_25, b < w_3.heap.size) := Lib.hid (kTerm_ok.olt ho)
  have RD_30 := Lib.hid hrd2; clear ho hnd hge hrd2 hrd
  have hb_31 := hb; clear hb
  have hz_32 : w_2.heap.size ≤ w_3.heap.size := by have := (hb_31).size; first | omega | (simp at this; omega)
  have HB_33 := Lib.hid (box_step HB_19.out hb_31)
  have hz_34 : w.heap.size + 1 ≤ w_3.heap.size := Nat.le_trans hz_20 hz_32
  have c_35 : w_3.cell? ⟨w.heap.size, 0, none⟩ = some (.slice ea0_0 a0.length ecap0_0) := below_later (hb_31) c_21; clear c_21
  have RD_36 := Lib.hid (kIntS_ok.rbelow RD_16.out (Below.mono (hb_31) (by first | omega | (simp; done) | (simp; omega)))); clear RD_16
  have hz_37 : w_2.heap.size ≤ w_3.heap.size := Nat.le_trans hz_24 hz_32
  have HQ := Lib.hid hb_31; clear hb_31 HQ
  have hz_38 : w_3.heap.size ≤ w_3.heap.size := Nat.le_refl _
  have hb_39 : Below w_3.heap.size w_3 (w_3.alloc (.cells #[.slice ea0_25 a0.length ecap0_25] 31)) := (Below.refl _ _).alloc (Nat.le_refl _) _
  have hz_40 : w_3.heap.size ≤ w_3.heap.size + 1 := by have := (hb_39).size; first | omega | (simp at this; omega)
  have HB_41 := Lib.hid (box_step HB_33.out hb_39)
  have hz_42 : w.heap.size + 1 ≤ w_3.heap.size + 1 := Nat.le_trans hz_34 hz_40
  have c_43 : (w_3.alloc (.cells #[.slice ea0_25 a0.length ecap0_25] 31)).cell? ⟨w.heap.size, 0, none⟩ = some (.slice ea0_0 a0.length ecap0_0) := below_later (hb_39) c_35; clear c_35
  have RD_44 := Lib.hid (kIntS_ok.rbelow RD_36.out (Below.mono (hb_39) (by first | omega | (simp; done) | (simp; omega)))); clear RD_36
  have hz_45 : w_2.heap.size ≤ w_3.heap.size + 1 := Nat.le_trans hz_37 hz_40
  have OW_46 := Lib.hid (kTerm_ok.oframe OW_26.out (w' := (w_3.alloc (.cells #[.slice ea0_25 a0.length ecap0_25] 31))) fun b hm => (hb_39).block b (kTerm_ok.olt OW_26.out b hm)); clear OW_26
  have hz_47 : w_3.heap.size ≤ w_3.heap.size + 1 := Nat.le_trans hz_38 hz_40
  clear hb_39
  have c_48 : (w_3.alloc (.cells #[.slice ea0_25 a0.length ecap0_25] 31)).cell? ⟨w_3.heap.size, 0, none⟩ = some (.slice ea0_25 a0.length ecap0_25) := by go_simp
  go_wp2_with fail
  refine (HI.out _ [.slice ea0_25 a0.length ecap0_25] (kTerm_ok.ord OW_46.out (fun b hm => by have := HH_28.out b hm; first | omega | (simp; done) | (simp; omega)))).mono ?_
  rintro e w_4 ⟨cs_49, fp_49, he, ho, hnd, hge, hb⟩
  have hrd := kIntS_ok.ord ho (B := w_4.heap.size) (kIntS_ok.olt ho)
  obtain ⟨ea_49, ecap_49, rfl⟩ := kSl_form hrd
  change e = .returned (.tuple #[(.slice ea_49 r0.length ecap_49), (.bool r1)]) at he
  subst he
  have RD_50 := Lib.hid hrd; clear hrd
  have OW_51 := Lib.hid ho; have HN_54 := Lib.hid hnd
  have HL_52 : Hid (∀ b ∈ fp_49, w_3.heap.size + 1 ≤ b) := Lib.hid fun b hm => by have := hge b hm; first | omega | (simp at this; omega)
  have HH_53 : Hid (∀ b ∈ fp_49, b < w_4.heap.size) := Lib.hid (kIntS_ok.olt ho)
  clear ho hnd hge
  have hb_55 := hb; clear hb
  have hz_56 : w_3.heap.size + 1 ≤ w_4.heap.size := by have := (hb_55).size; first | omega | (simp at this; omega)
  have HB_57 := Lib.hid (box_step HB_41.out hb_55)
  have hz_58 : w.heap.size + 1 ≤ w_4.heap.size := Nat.le_trans hz_42 hz_56
  have c_59 : w_4.cell? ⟨w.heap.size, 0, none⟩ = some (.slice ea0_0 a0.length ecap0_0) := below_later (hb_55) c_43; clear c_43
  have c_60 : w_4.cell? ⟨w_3.heap.size, 0, none⟩ = some (.slice ea0_25 a0.length ecap0_25) := below_later (hb_55) c_48; clear c_48
  have RD_61 := Lib.hid (kIntS_ok.rbelow RD_44.out (Below.mono (hb_55) (by first | omega | (simp; done) | (simp; omega)))); clear RD_44
  have hz_62 : w_2.heap.size ≤ w_4.heap.size := Nat.le_trans hz_45 hz_56
  have OW_63 := Lib.hid (kTerm_ok.oframe OW_46.out (w' := w_4) fun b hm => (hb_55).block b (kTerm_ok.olt OW_46.out b hm)); clear OW_46
  have hz_64 : w_3.heap.size ≤ w_4.heap.size := Nat.le_trans hz_47 hz_56
  clear hb_55
  have hz_65 : w_4.heap.size ≤ w_4.heap.size := Nat.le_refl _
  go_wp2_with fail
  refine (eq_IntS (w := w_4) (kIntS_ok.ord OW_51.out (fun b hm => by have := HH_53.out b hm; first | omega | (simp; done) | (simp; omega))) (kIntS_ok.rmono RD_61.out (by first | omega | (simp; done) | (simp; omega)))).mono ?_
  rintro e w_5 ⟨rfl, hb⟩
  have hb_66 := hb; clear hb
  have hz_67 : w_4.heap.size ≤ w_5.heap.size := by have := (hb_66).size; first | omega | (simp at this; omega)
  have HB_68 := Lib.hid (box_step HB_57.out hb_66)
  have hz_69 : w.heap.size + 1 ≤ w_5.heap.size := Nat.le_trans hz_58 hz_67
  have c_70 : w_5.cell? ⟨w.heap.size, 0, none⟩ = some (.slice ea0_0 a0.length ecap0_0) := below_later (hb_66) c_59; clear c_59
  have c_71 : w_5.cell? ⟨w_3.heap.size, 0, none⟩ = some (.slice ea0_25 a0.length ecap0_25) := below_later (hb_66) c_60; clear c_60
  have RD_72 := Lib.hid (kIntS_ok.rbelow RD_61.out (Below.mono (hb_66) (by first | omega | (simp; done) | (simp; omega)))); clear RD_61
  have hz_73 : w_2.heap.size ≤ w_5.heap.size := Nat.le_trans hz_62 hz_67
  have OW_74 := Lib.hid (kTerm_ok.oframe OW_63.out (w' := w_5) fun b hm => (hb_66).block b (kTerm_ok.olt OW_63.out b hm)); clear OW_63
  have hz_75 : w_3.heap.size ≤ w_5.heap.size := Nat.le_trans hz_64 hz_67
  have OW_76 := Lib.hid (kIntS_ok.oframe OW_51.out (w' := w_5) fun b hm => (hb_66).block b (kIntS_ok.olt OW_51.out b hm)); clear OW_51
  have hz_77 : w_4.heap.size ≤ w_5.heap.size := Nat.le_trans hz_65 hz_67
  clear hb_66
  go_wp2_with fail
  have hb_78 : Below w_5.heap.size w_5 w_5.drew := (Below.refl _ _).drew
  have hz_79 : w_5.heap.size ≤ w_5.heap.size := by have := (hb_78).size; first | omega | (simp at this; omega)
  have HB_80 := Lib.hid (box_step HB_68.out hb_78)
  have hz_81 : w.heap.size + 1 ≤ w_5.heap.size := Nat.le_trans hz_69 hz_79
  have c_82 : w_5.drew.cell? ⟨w.heap.size, 0, none⟩ = some (.slice ea0_0 a0.length ecap0_0) := below_later (hb_78) c_70; clear c_70
  have c_83 : w_5.drew.cell? ⟨w_3.heap.size, 0, none⟩ = some (.slice ea0_25 a0.length ecap0_25) := below_later (hb_78) c_71; clear c_71
  have RD_84 := Lib.hid (kIntS_ok.rbelow RD_72.out (Below.mono (hb_78) (by first | omega | (simp; done) | (simp; omega)))); clear RD_72
  have hz_85 : w_2.heap.size ≤ w_5.heap.size := Nat.le_trans hz_73 hz_79
  have OW_86 := Lib.hid (kTerm_ok.oframe OW_74.out (w' := w_5.drew) fun b hm => (hb_78).block b (kTerm_ok.olt OW_74.out b hm)); clear OW_74
  have hz_87 : w_3.heap.size ≤ w_5.heap.size := Nat.le_trans hz_75 hz_79
  have OW_88 := Lib.hid (kIntS_ok.oframe OW_76.out (w' := w_5.drew) fun b hm => (hb_78).block b (kIntS_ok.olt OW_76.out b hm)); clear OW_76
  have hz_89 : w_4.heap.size ≤ w_5.heap.size := Nat.le_trans hz_77 hz_79
  clear hb_78
  refine wp_region_G [3] (fun w' => w'.cell? ⟨w.heap.size, 0, none⟩ = some (.slice ea0_0 a0.length ecap0_0) ∧ w'.cell? ⟨w_3.heap.size, 0, none⟩ = some (.slice ea0_25 a0.length ecap0_25)) (by kernel_rfl) ?_ (fun hHeld => ?_)
  · exact ⟨c_82, c_83⟩
  refine wpG_load (i := 0) (oi := { dst := some 41, op := Go.Op.load 31 (Go.Operand.tmp 6), type := 31, pos := "exact.go:6173", after := #[], guard := none }) (v := ?vg1) [[3, 0]] rfl (by kernel_rfl) (fun _ _ _ h => h) hHeld (Or.inl ⟨by rfl, ?yg1⟩) ?_
  case yg1 => (intro wS hSw; (try dsimp only at hSw); go_simp <;> with_reducible rfl)
  try simp only [Act.put, List.setIfInBounds_toArray, List.set_cons_zero, List.set_cons_succ]
  refine wpG_load (i := 1) (oi := { dst := some 42, op := Go.Op.load 24 (Go.Operand.tmp 1), type := 24, pos := "exact.go:6173", after := #[], guard := none }) (v := ?vg2) [[3, 2, 1]] rfl (by kernel_rfl) (fun _ _ _ h => h) hHeld (Or.inl ⟨by rfl, ?yg2⟩) ?_
  case yg2 => (intro wS hSw; (try dsimp only at hSw); go_simp <;> with_reducible rfl)
  try simp only [Act.put, List.setIfInBounds_toArray, List.set_cons_zero, List.set_cons_succ]
  refine wpG_one (i := 2) (o := { dst := some 43, op := Go.Op.call { callee := Go.Callee.value (Go.Operand.func 10), args := #[Go.Operand.tmp 42], argTypes := #[24] }, type := 31, pos := "exact.go:6173", after := #[{ on := 1, ground := Go.Ground.data }], guard := none }) rfl (by kernel_rfl) (fun K hK => ?_)
  go_simp
  refine (HTO0.out _ (box_below HB_80.out)).mono ?_
  rintro e w_6 ⟨cs_90, fp_90, he, ho, hnd, hge, hb⟩
  have hrd := kTerm_ok.ord ho (B := w_6.heap.size) (kTerm_ok.olt ho)
  obtain ⟨ea0_90, ecap0_90, rfl, _⟩ := Term_rd hrd
  change e = .returned (.agg #[.slice ea0_90 a0.length ecap0_90]) at he
  subst he
  have hrd2 := kTerm_ok.ord ho (B := w_6.heap.size) (kTerm_ok.olt ho)
  have OW_91 := Lib.hid ho; have HN_94 := Lib.hid hnd
  have HL_92 : Hid (∀ b ∈ fp_90, w_5.heap.size ≤ b) := Lib.hid fun b hm => by have := hge b hm; first | omega | (simp at this; omega)
  have HH_93 : Hid (∀ b ∈ fp_90, b < w_6.heap.size) := Lib.hid (kTerm_ok.olt ho)
  have RD_95 := Lib.hid hrd2; clear ho hnd hge hrd2 hrd
  have hb_96 := hb; clear hb
  have hz_97 : w_5.heap.size ≤ w_6.heap.size := by have := (hb_96).size; first | omega | (simp at this; omega)
  have HB_98 := Lib.hid (box_step HB_80.out hb_96)
  have hz_99 : w.heap.size + 1 ≤ w_6.heap.size := Nat.le_trans hz_81 hz_97
  have c_100 : w_6.cell? ⟨w.heap.size, 0, none⟩ = some (.slice ea0_0 a0.length ecap0_0) := below_later (hb_96) c_82; clear c_82
  have c_101 : w_6.cell? ⟨w_3.heap.size, 0, none⟩ = some (.slice ea0_25 a0.length ecap0_25) := below_later (hb_96) c_83; clear c_83
  have RD_102 := Lib.hid (kIntS_ok.rbelow RD_84.out (Below.mono (hb_96) (by first | omega | (simp; done) | (simp; omega)))); clear RD_84
  have hz_103 : w_2.heap.size ≤ w_6.heap.size := Nat.le_trans hz_85 hz_97
  have OW_104 := Lib.hid (kTerm_ok.oframe OW_86.out (w' := w_6) fun b hm => (hb_96).block b (kTerm_ok.olt OW_86.out b hm)); clear OW_86
  have hz_105 : w_3.heap.size ≤ w_6.heap.size := Nat.le_trans hz_87 hz_97
  have OW_106 := Lib.hid (kIntS_ok.oframe OW_88.out (w' := w_6) fun b hm => (hb_96).block b (kIntS_ok.olt OW_88.out b hm)); clear OW_88
  have hz_107 : w_4.heap.size ≤ w_6.heap.size := Nat.le_trans hz_89 hz_97
  have HQ := Lib.hid hb_96; clear hb_96 HQ
  have hz_108 : w_6.heap.size ≤ w_6.heap.size := Nat.le_refl _
  refine hK.out _ _ (Or.inr ?khHeld3) (fun hHeld3S => ?_)
  case khHeld3 => exact ⟨c_100, c_101⟩
  have hHeld3 := hHeld3S.held (by kernel_rfl)
  clear hK K
  try simp only [Act.put, List.setIfInBounds_toArray, List.set_cons_zero, List.set_cons_succ]
  refine wpG_one (i := 3) (o := { dst := some 44, op := Go.Op.call { callee := Go.Callee.value (Go.Operand.func 13), args := #[Go.Operand.tmp 41, Go.Operand.tmp 43], argTypes := #[31, 31] }, type := 4, pos := "exact.go:6173", after := #[{ on := 0, ground := Go.Ground.data }, { on := 2, ground := Go.Ground.data }, { on := 2, ground := Go.Ground.chain }], guard := none }) rfl (by kernel_rfl) (fun K hK => ?_)
  go_simp
  refine (eq_Term (w := w_6) (kTerm_ok.ord OW_104.out (fun b hm => by have := HH_28.out b hm; first | omega | (simp; done) | (simp; omega))) (kTerm_ok.rmono RD_95.out (by first | omega | (simp; done) | (simp; omega)))).mono ?_
  rintro e w_7 ⟨rfl, hb⟩
  have hb_109 := hb; clear hb
  have hz_110 : w_6.heap.size ≤ w_7.heap.size := by have := (hb_109).size; first | omega | (simp at this; omega)
  have HB_111 := Lib.hid (box_step HB_98.out hb_109)
  have hz_112 : w.heap.size + 1 ≤ w_7.heap.size := Nat.le_trans hz_99 hz_110
  have c_113 : w_7.cell? ⟨w.heap.size, 0, none⟩ = some (.slice ea0_0 a0.length ecap0_0) := below_later (hb_109) c_100; clear c_100
  have c_114 : w_7.cell? ⟨w_3.heap.size, 0, none⟩ = some (.slice ea0_25 a0.length ecap0_25) := below_later (hb_109) c_101; clear c_101
  have RD_115 := Lib.hid (kIntS_ok.rbelow RD_102.out (Below.mono (hb_109) (by first | omega | (simp; done) | (simp; omega)))); clear RD_102
  have hz_116 : w_2.heap.size ≤ w_7.heap.size := Nat.le_trans hz_103 hz_110
  have RD_117 := Lib.hid (kTerm_ok.rbelow RD_95.out (Below.mono (hb_109) (by first | omega | (simp; done) | (simp; omega)))); clear RD_95
  have hz_118 : w_6.heap.size ≤ w_7.heap.size := Nat.le_trans hz_108 hz_110
  have OW_119 := Lib.hid (kTerm_ok.oframe OW_104.out (w' := w_7) fun b hm => (hb_109).block b (kTerm_ok.olt OW_104.out b hm)); clear OW_104
  have hz_120 : w_3.heap.size ≤ w_7.heap.size := Nat.le_trans hz_105 hz_110
  have OW_121 := Lib.hid (kIntS_ok.oframe OW_106.out (w' := w_7) fun b hm => (hb_109).block b (kIntS_ok.olt OW_106.out b hm)); clear OW_106
  have hz_122 : w_4.heap.size ≤ w_7.heap.size := Nat.le_trans hz_107 hz_110
  clear hb_109
  refine hK.out _ _ (Or.inl (by kernel_rfl)) (fun _ => ?_)
  clear hK K
  try simp only [Act.put, List.setIfInBounds_toArray, List.set_cons_zero, List.set_cons_succ]
  refine wpG_pure (i := 4) (oi := { dst := some 45, op := Go.Op.unOp Go.UnOp.not 4 (Go.Operand.tmp 44), type := 4, pos := "exact.go:6173", after := #[{ on := 3, ground := Go.Ground.data }], guard := none }) (v := ?vg5) rfl (by kernel_rfl) (fun _ _ _ h => h) (Or.inl (by kernel_rfl)) (Or.inl ⟨by rfl, ?yg5⟩) ?_
  case yg5 => (intro wS _; go_simp <;> with_reducible rfl)
  try simp only [Act.put, List.setIfInBounds_toArray, List.set_cons_zero, List.set_cons_succ]
  refine wpG_done (by kernel_rfl) ?_
  have hm_123 := mark_Term (w := w_7) 1 OW_119.out HN_29.out (by omega) (by have := kTerm_ok.cwt a0; have := HT.out; have e0 : kTerm.s ≤ 8 := (by decide); omega)
  rw [show ((1 : Nat) : Int) = 1 from rfl] at hm_123
  have hqq_124 : ∃ z : Nat, 1 + kTerm.cnt a0 = z := ⟨_, rfl⟩
  obtain ⟨q_124, hq_124⟩ := hqq_124
  rw [hq_124] at hm_123
  have bq_124 : 1 ≤ q_124 := by omega
  have HM_125 := Lib.hid hm_123; clear hm_123
  have HQ_126 := Lib.hid hq_124; clear hq_124
  go_wp2_with fail
  refine HM_125.out.mono ?_
  rintro e w_8 ⟨rfl, ho, hw⟩
  have OW_127 := Lib.hid ho; clear ho
  have hw_128 := hw; clear hw
  have hz_129 : w_7.heap.size ≤ w_8.heap.size := by have := (hw_128).size; first | omega | (simp at this; omega)
  have HB_130 := Lib.hid (Below.trans HB_111.out (Wrote.below hw_128 (by first | omega | (simp; done) | (simp; omega)) (fun b hm => by have := HL_27.out b hm; omega)))
  have hz_131 : w.heap.size + 1 ≤ w_8.heap.size := Nat.le_trans hz_112 hz_129
  have c_132 : w_8.cell? ⟨w.heap.size, 0, none⟩ = some (.slice ea0_0 a0.length ecap0_0) := Wrote.cell (hw_128) c_113 (fun hm => by have := HL_27.out _ hm; have := HH_28.out _ hm; omega); clear c_113
  have c_133 : w_8.cell? ⟨w_3.heap.size, 0, none⟩ = some (.slice ea0_25 a0.length ecap0_25) := Wrote.cell (hw_128) c_114 (fun hm => by have := HL_27.out _ hm; have := HH_28.out _ hm; omega); clear c_114
  have RD_134 := Lib.hid (kIntS_ok.rbelow RD_115.out (Wrote.below hw_128 (by first | omega | (simp; done) | (simp; omega)) (fun b hm => by have := HL_27.out b hm; omega))); clear RD_115
  have hz_135 : w_2.heap.size ≤ w_8.heap.size := Nat.le_trans hz_116 hz_129
  have OW_136 := Lib.hid (kIntS_ok.oframe OW_121.out (w' := w_8) fun b hm => (hw_128).block b (kIntS_ok.olt OW_121.out b hm) (fun hc => by have := HL_52.out b hm; have := HH_53.out b hm; have := HL_27.out b hc; have := HH_28.out b hc; omega)); clear OW_121
  have hz_137 : w_4.heap.size ≤ w_8.heap.size := Nat.le_trans hz_122 hz_129
  clear hw_128
  have hz_138 : w_3.heap.size ≤ w_8.heap.size := by omega
  have hneg : ¬ ((q_124 : Int) < 0) := by omega
  go_wp2_with fail
  refine (eq_IntS (w := w_8) (kIntS_ok.ord OW_136.out (fun b hm => by have := HH_53.out b hm; first | omega | (simp; done) | (simp; omega))) (kIntS_ok.rmono RD_134.out (by first | omega | (simp; done) | (simp; omega)))).mono ?_
  rintro e w_9 ⟨rfl, hb⟩
  have hb_139 := hb; clear hb
  have hz_140 : w_8.heap.size ≤ w_9.heap.size := by have := (hb_139).size; first | omega | (simp at this; omega)
  have HB_141 := Lib.hid (box_step HB_130.out hb_139)
  have hz_142 : w.heap.size + 1 ≤ w_9.heap.size := Nat.le_trans hz_131 hz_140
  have c_143 : w_9.cell? ⟨w.heap.size, 0, none⟩ = some (.slice ea0_0 a0.length ecap0_0) := below_later (hb_139) c_132; clear c_132
  have c_144 : w_9.cell? ⟨w_3.heap.size, 0, none⟩ = some (.slice ea0_25 a0.length ecap0_25) := below_later (hb_139) c_133; clear c_133
  have RD_145 := Lib.hid (kIntS_ok.rbelow RD_134.out (Below.mono (hb_139) (by first | omega | (simp; done) | (simp; omega)))); clear RD_134
  have hz_146 : w_2.heap.size ≤ w_9.heap.size := Nat.le_trans hz_135 hz_140
  have OW_147 := Lib.hid (kTerm_ok.oframe OW_127.out (w' := w_9) fun b hm => (hb_139).block b (kTerm_ok.olt OW_127.out b hm)); clear OW_127
  have hz_148 : w_3.heap.size ≤ w_9.heap.size := Nat.le_trans hz_138 hz_140
  have OW_149 := Lib.hid (kIntS_ok.oframe OW_136.out (w' := w_9) fun b hm => (hb_139).block b (kIntS_ok.olt OW_136.out b hm)); clear OW_136
  have hz_150 : w_4.heap.size ≤ w_9.heap.size := Nat.le_trans hz_137 hz_140
  clear hb_139
  have hm_151 := mark_IntS (w := w_9) 1 OW_149.out (by omega) (by have := HCN.out; omega)
  rw [show ((1 : Nat) : Int) = 1 from rfl] at hm_151
  have hqq_152 : ∃ z : Nat, 1 + kIntS.cnt r0 = z := ⟨_, rfl⟩
  obtain ⟨q_152, hq_152⟩ := hqq_152
  rw [hq_152] at hm_151
  have HM_153 := Lib.hid hm_151; clear hm_151
  have HQ_154 := Lib.hid hq_152; clear hq_152
  go_wp2_with fail
  refine HM_153.out.mono ?_
  rintro e w_10 ⟨rfl, ho, hw⟩
  have OW_155 := Lib.hid ho; clear ho
  have hw_156 := hw; clear hw
  have hz_157 : w_9.heap.size ≤ w_10.heap.size := by have := (hw_156).size; first | omega | (simp at this; omega)
  have HB_158 := Lib.hid (Below.trans HB_141.out (Wrote.below hw_156 (by first | omega | (simp; done) | (simp; omega)) (fun b hm => by have := HL_52.out b hm; omega)))
  have hz_159 : w.heap.size + 1 ≤ w_10.heap.size := Nat.le_trans hz_142 hz_157
  have c_160 : w_10.cell? ⟨w.heap.size, 0, none⟩ = some (.slice ea0_0 a0.length ecap0_0) := Wrote.cell (hw_156) c_143 (fun hm => by have := HL_52.out _ hm; have := HH_53.out _ hm; omega); clear c_143
  have c_161 : w_10.cell? ⟨w_3.heap.size, 0, none⟩ = some (.slice ea0_25 a0.length ecap0_25) := Wrote.cell (hw_156) c_144 (fun hm => by have := HL_52.out _ hm; have := HH_53.out _ hm; omega); clear c_144
  have RD_162 := Lib.hid (kIntS_ok.rbelow RD_145.out (Wrote.below hw_156 (by first | omega | (simp; done) | (simp; omega)) (fun b hm => by have := HL_52.out b hm; omega))); clear RD_145
  have hz_163 : w_2.heap.size ≤ w_10.heap.size := Nat.le_trans hz_146 hz_157
  have OW_164 := Lib.hid (kTerm_ok.oframe OW_147.out (w' := w_10) fun b hm => (hw_156).block b (kTerm_ok.olt OW_147.out b hm) (fun hc => by have := HL_27.out b hm; have := HH_28.out b hm; have := HL_52.out b hc; have := HH_53.out b hc; omega)); clear OW_147
  have hz_165 : w_3.heap.size ≤ w_10.heap.size := Nat.le_trans hz_148 hz_157
  clear hw_156
  have hz_166 : w_4.heap.size ≤ w_10.heap.size := by omega
  have hm_167 := held_IntS (w := w_10) (xs := r0) 1 (kIntS_ok.ord OW_155.out (fun b hm => by have := HH_53.out b hm; first | omega | (simp; done) | (simp; omega))) (by omega) (by have := HCN.out; omega)
  rw [show ((1 : Nat) : Int) = 1 from rfl, HQ_154.out] at hm_167
  have HM_168 := Lib.hid hm_167; clear hm_167
  go_wp2_with fail
  refine HM_168.out.mono ?_
  rintro e w_11 ⟨rfl, hb⟩
  have hb_169 := hb; clear hb
  have hz_170 : w_10.heap.size ≤ w_11.heap.size := by have := (hb_169).size; first | omega | (simp at this; omega)
  have HB_171 := Lib.hid (box_step HB_158.out hb_169)
  have hz_172 : w.heap.size + 1 ≤ w_11.heap.size := Nat.le_trans hz_159 hz_170
  have c_173 : w_11.cell? ⟨w.heap.size, 0, none⟩ = some (.slice ea0_0 a0.length ecap0_0) := below_later (hb_169) c_160; clear c_160
  have c_174 : w_11.cell? ⟨w_3.heap.size, 0, none⟩ = some (.slice ea0_25 a0.length ecap0_25) := below_later (hb_169) c_161; clear c_161
  have RD_175 := Lib.hid (kIntS_ok.rbelow RD_162.out (Below.mono (hb_169) (by first | omega | (simp; done) | (simp; omega)))); clear RD_162
  have hz_176 : w_2.heap.size ≤ w_11.heap.size := Nat.le_trans hz_163 hz_170
  have OW_177 := Lib.hid (kTerm_ok.oframe OW_164.out (w' := w_11) fun b hm => (hb_169).block b (kTerm_ok.olt OW_164.out b hm)); clear OW_164
  have hz_178 : w_3.heap.size ≤ w_11.heap.size := Nat.le_trans hz_165 hz_170
  have OW_179 := Lib.hid (kIntS_ok.oframe OW_155.out (w' := w_11) fun b hm => (hb_169).block b (kIntS_ok.olt OW_155.out b hm)); clear OW_155
  have hz_180 : w_4.heap.size ≤ w_11.heap.size := Nat.le_trans hz_166 hz_170
  clear hb_169
  have hneg_181 : ¬ ((q_152 : Int) < 0) := by omega
  go_wp2_with fail
  refine (HTO0.out _ (box_below HB_171.out)).mono ?_
  rintro e w_12 ⟨cs_182, fp_182, he, ho, hnd, hge, hb⟩
  have hrd := kTerm_ok.ord ho (B := w_12.heap.size) (kTerm_ok.olt ho)
  obtain ⟨ea0_182, ecap0_182, rfl, _⟩ := Term_rd hrd
  change e = .returned (.agg #[.slice ea0_182 a0.length ecap0_182]) at he
  subst he
  have hrd2 := kTerm_ok.ord ho (B := w_12.heap.size) (kTerm_ok.olt ho)
  have OW_183 := Lib.hid ho; have HN_186 := Lib.hid hnd
  have HL_184 : Hid (∀ b ∈ fp_182, w_11.heap.size ≤ b) := Lib.hid fun b hm => by have := hge b hm; first | omega | (simp at this; omega)
  have HH_185 : Hid (∀ b ∈ fp_182, b < w_12.heap.size) := Lib.hid (kTerm_ok.olt ho)
  have RD_187 := Lib.hid hrd2; clear ho hnd hge hrd2 hrd
  have hb_188 := hb; clear hb
  have hz_189 : w_11.heap.size ≤ w_12.heap.size := by have := (hb_188).size; first | omega | (simp at this; omega)
  have HB_190 := Lib.hid (box_step HB_171.out hb_188)
  have hz_191 : w.heap.size + 1 ≤ w_12.heap.size := Nat.le_trans hz_172 hz_189
  have c_192 : w_12.cell? ⟨w.heap.size, 0, none⟩ = some (.slice ea0_0 a0.length ecap0_0) := below_later (hb_188) c_173; clear c_173
  have c_193 : w_12.cell? ⟨w_3.heap.size, 0, none⟩ = some (.slice ea0_25 a0.length ecap0_25) := below_later (hb_188) c_174; clear c_174
  have RD_194 := Lib.hid (kIntS_ok.rbelow RD_175.out (Below.mono (hb_188) (by first | omega | (simp; done) | (simp; omega)))); clear RD_175
  have hz_195 : w_2.heap.size ≤ w_12.heap.size := Nat.le_trans hz_176 hz_189
  have OW_196 := Lib.hid (kTerm_ok.oframe OW_177.out (w' := w_12) fun b hm => (hb_188).block b (kTerm_ok.olt OW_177.out b hm)); clear OW_177
  have hz_197 : w_3.heap.size ≤ w_12.heap.size := Nat.le_trans hz_178 hz_189
  have OW_198 := Lib.hid (kIntS_ok.oframe OW_179.out (w' := w_12) fun b hm => (hb_188).block b (kIntS_ok.olt OW_179.out b hm)); clear OW_179
  have hz_199 : w_4.heap.size ≤ w_12.heap.size := Nat.le_trans hz_180 hz_189
  have HQ := Lib.hid hb_188; clear hb_188 HQ
  have hz_200 : w_12.heap.size ≤ w_12.heap.size := Nat.le_refl _
  go_wp2_with fail
  refine ((HI.out _ [.slice ea0_182 a0.length ecap0_182] (kTerm_ok.rmono RD_187.out (by first | omega | (simp; done) | (simp; omega)))).mono (fun _ _ h => Made.reads kIntS_ok h)).mono ?_
  rintro e w_13 ⟨cs_201, he, hrd, hb⟩
  obtain ⟨ea_201, ecap_201, rfl⟩ := kSl_form hrd
  change e = .returned (.tuple #[(.slice ea_201 r0.length ecap_201), (.bool r1)]) at he
  subst he
  have RD_202 := Lib.hid hrd; clear hrd
  have hb_203 := hb; clear hb
  have hz_204 : w_12.heap.size ≤ w_13.heap.size := by have := (hb_203).size; first | omega | (simp at this; omega)
  have HB_205 := Lib.hid (box_step HB_190.out hb_203)
  have hz_206 : w.heap.size + 1 ≤ w_13.heap.size := Nat.le_trans hz_191 hz_204
  have c_207 : w_13.cell? ⟨w.heap.size, 0, none⟩ = some (.slice ea0_0 a0.length ecap0_0) := below_later (hb_203) c_192; clear c_192
  have c_208 : w_13.cell? ⟨w_3.heap.size, 0, none⟩ = some (.slice ea0_25 a0.length ecap0_25) := below_later (hb_203) c_193; clear c_193
  have RD_209 := Lib.hid (kIntS_ok.rbelow RD_194.out (Below.mono (hb_203) (by first | omega | (simp; done) | (simp; omega)))); clear RD_194
  have hz_210 : w_2.heap.size ≤ w_13.heap.size := Nat.le_trans hz_195 hz_204
  have RD_211 := Lib.hid (kTerm_ok.rbelow RD_187.out (Below.mono (hb_203) (by first | omega | (simp; done) | (simp; omega)))); clear RD_187
  have hz_212 : w_12.heap.size ≤ w_13.heap.size := Nat.le_trans hz_200 hz_204
  have OW_213 := Lib.hid (kTerm_ok.oframe OW_196.out (w' := w_13) fun b hm => (hb_203).block b (kTerm_ok.olt OW_196.out b hm)); clear OW_196
  have hz_214 : w_3.heap.size ≤ w_13.heap.size := Nat.le_trans hz_197 hz_204
  have OW_215 := Lib.hid (kIntS_ok.oframe OW_198.out (w' := w_13) fun b hm => (hb_203).block b (kIntS_ok.olt OW_198.out b hm)); clear OW_198
  have hz_216 : w_4.heap.size ≤ w_13.heap.size := Nat.le_trans hz_199 hz_204
  clear hb_203
  have hz_217 : w_13.heap.size ≤ w_13.heap.size := Nat.le_refl _
  go_wp2_with fail
  refine (eq_IntS (w := w_13) (kIntS_ok.rmono RD_202.out (by first | omega | (simp; done) | (simp; omega))) (kIntS_ok.rmono RD_209.out (by first | omega | (simp; done) | (simp; omega)))).mono ?_
  rintro e w_14 ⟨rfl, hb⟩
  have hb_218 := hb; clear hb
  have hz_219 : w_13.heap.size ≤ w_14.heap.size := by have := (hb_218).size; first | omega | (simp at this; omega)
  have HB_220 := Lib.hid (box_step HB_205.out hb_218)
  have hz_221 : w.heap.size + 1 ≤ w_14.heap.size := Nat.le_trans hz_206 hz_219
  have c_222 : w_14.cell? ⟨w.heap.size, 0, none⟩ = some (.slice ea0_0 a0.length ecap0_0) := below_later (hb_218) c_207; clear c_207
  have c_223 : w_14.cell? ⟨w_3.heap.size, 0, none⟩ = some (.slice ea0_25 a0.length ecap0_25) := below_later (hb_218) c_208; clear c_208
  have RD_224 := Lib.hid (kIntS_ok.rbelow RD_209.out (Below.mono (hb_218) (by first | omega | (simp; done) | (simp; omega)))); clear RD_209
  have hz_225 : w_2.heap.size ≤ w_14.heap.size := Nat.le_trans hz_210 hz_219
  have RD_226 := Lib.hid (kIntS_ok.rbelow RD_202.out (Below.mono (hb_218) (by first | omega | (simp; done) | (simp; omega)))); clear RD_202
  have hz_227 : w_13.heap.size ≤ w_14.heap.size := Nat.le_trans hz_217 hz_219
  have OW_228 := Lib.hid (kTerm_ok.oframe OW_213.out (w' := w_14) fun b hm => (hb_218).block b (kTerm_ok.olt OW_213.out b hm)); clear OW_213
  have hz_229 : w_3.heap.size ≤ w_14.heap.size := Nat.le_trans hz_214 hz_219
  have OW_230 := Lib.hid (kIntS_ok.oframe OW_215.out (w' := w_14) fun b hm => (hb_218).block b (kIntS_ok.olt OW_215.out b hm)); clear OW_215
  have hz_231 : w_4.heap.size ≤ w_14.heap.size := Nat.le_trans hz_216 hz_219
  clear hb_218
  have hm_232 := held_IntS (w := w_14) (xs := r0) 1 (kIntS_ok.ord OW_230.out (fun b hm => by have := HH_53.out b hm; first | omega | (simp; done) | (simp; omega))) (by omega) (by have := HCN.out; omega)
  rw [show ((1 : Nat) : Int) = 1 from rfl, HQ_154.out] at hm_232
  have HM_233 := Lib.hid hm_232; clear hm_232
  go_wp2_with fail
  refine HM_233.out.mono ?_
  rintro e w_15 ⟨rfl, hb⟩
  have hb_234 := hb; clear hb
  have hz_235 : w_14.heap.size ≤ w_15.heap.size := by have := (hb_234).size; first | omega | (simp at this; omega)
  have HB_236 := Lib.hid (box_step HB_220.out hb_234)
  have hz_237 : w.heap.size + 1 ≤ w_15.heap.size := Nat.le_trans hz_221 hz_235
  have c_238 : w_15.cell? ⟨w.heap.size, 0, none⟩ = some (.slice ea0_0 a0.length ecap0_0) := below_later (hb_234) c_222; clear c_222
  have c_239 : w_15.cell? ⟨w_3.heap.size, 0, none⟩ = some (.slice ea0_25 a0.length ecap0_25) := below_later (hb_234) c_223; clear c_223
  have RD_240 := Lib.hid (kIntS_ok.rbelow RD_224.out (Below.mono (hb_234) (by first | omega | (simp; done) | (simp; omega)))); clear RD_224
  have hz_241 : w_2.heap.size ≤ w_15.heap.size := Nat.le_trans hz_225 hz_235
  have RD_242 := Lib.hid (kIntS_ok.rbelow RD_226.out (Below.mono (hb_234) (by first | omega | (simp; done) | (simp; omega)))); clear RD_226
  have hz_243 : w_13.heap.size ≤ w_15.heap.size := Nat.le_trans hz_227 hz_235
  have OW_244 := Lib.hid (kTerm_ok.oframe OW_228.out (w' := w_15) fun b hm => (hb_234).block b (kTerm_ok.olt OW_228.out b hm)); clear OW_228
  have hz_245 : w_3.heap.size ≤ w_15.heap.size := Nat.le_trans hz_229 hz_235
  have OW_246 := Lib.hid (kIntS_ok.oframe OW_230.out (w' := w_15) fun b hm => (hb_234).block b (kIntS_ok.olt OW_230.out b hm)); clear OW_230
  have hz_247 : w_4.heap.size ≤ w_15.heap.size := Nat.le_trans hz_231 hz_235
  clear hb_234
  have hneg_248 : ¬ ((q_152 : Int) < 0) := by omega
  go_wp2_with fail
  go_ret
  exact ⟨rfl, (box_below HB_236.out)⟩

end Go.Proofs.Ytlmgckijbamgpaa.fnExactVarsOf
