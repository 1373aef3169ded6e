/- The walk of FnExactUnionHas: whatever the arguments, the call returns true and writes nothing that was there. -/
import Derived.Deep.RegionHeld3
import Derived.Test.YthlajmncpejhmaaUnionS
namespace Go.Proofs.Ythlajmncpejhmaa.fnExactUnionHas
open Go.ChangeShapes Go.WideShapes Go.ChangeAt Go.RowKit
open Go.ChangeMaps (open_string shut_string)
set_option linter.unusedVariables false

set_option maxHeartbeats 1000000 in
set_option maxRecDepth 100000 in
theorem walk (w : World) (v0 : Value) (a0 : (List (List (Int × Int)))) (w0 : IsK kBoxS one w v0 a0) (v1 : Value) (a1 : (List Int)) (w1 : IsK kIntS one w v1 a1) :
    Calls Try.prog 5 #[v0, v1] w fun e w' => e = .returned (.bool true) ∧ Below w.heap.size w w' := by
  obtain ⟨cs0, rfl, hr0⟩ := w0
  obtain ⟨cs1, rfl, hr1⟩ := w1
  obtain ⟨ea0, ecap0, rfl⟩ := kSl_form hr0
  obtain ⟨ea1, ecap1, rfl⟩ := kSl_form hr1
  show Calls Try.prog 5 #[.slice ea0 a0.length ecap0, .slice ea1 a1.length ecap1] w _
  have hn0 := (sl_len hr0).2
  have hn1 := (sl_len hr1).2
  have HR0 := Lib.hid hr0; clear hr0
  have HZ0 := Lib.hid (fun (lx : Int) (wx : World) (hb : Below w.heap.size w wx) (g0 : 0 ≤ lx) (g1 : lx ≤ 1048576) => sz_BoxS lx (kBoxS_ok.later HR0.out hb) g0 g1)
  have HR1 := Lib.hid hr1; clear hr1
  have HB0 : Hid (Below w.heap.size w w) := Lib.hid (Below.refl _ _)
  by_cases gl1 : 1048576 < a1.length
  case pos =>
    go_enter Try.func5, Try.ntmps5
    go_wp2_with fail
    go_ret
    exact ⟨rfl, (HB0.out)⟩
  by_cases gz0 : (kBoxS.wt a0 : Int) ≤ 1048576
  case neg =>
    have GZ0 : szR (1048576) (kBoxS.wt a0) = -1 := szR_not gz0
    go_enter Try.func5, Try.ntmps5
    go_wp2_with fail
    refine (HZ0.out (1048576) _ (HB0.out) (by omega) (by omega)).mono ?_
    rw [GZ0]
    rintro e v1 ⟨rfl, hb⟩
    have HV1 := Lib.hid (rstep HB0.out hb); clear hb
    go_wp2_with fail
    go_ret
    exact ⟨rfl, (HV1.out)⟩
  have GZ0 : szR (1048576) (kBoxS.wt a0) = 1048576 - (kBoxS.wt a0 : Int) := szR_fit gz0
  have GW1 : kIntS.wt a1 ≤ 1048576 := by have h : kIntS.wt a1 = a1.length := wt_ints a1; omega
  have HT : Hid (kBoxS.wt a0 + kIntS.wt a1 ≤ 2097152) := Lib.hid (by omega)
  skip
  have HS := Lib.hid (fun (wx : World) (cx0 : List Value) (cx1 : List Value) (h0 : kBoxS.rd wx.heap.size wx (cx0) a0) (h1 : kIntS.rd wx.heap.size wx (cx1) a1) => spec_UnionHas wx cx0 cx1 a0 a1 h0 h1 HT.out)
  have HI := Lib.hid (fun (wx : World) (cx0 : List Value) (cx1 : List Value) (h0 : kBoxS.rd wx.heap.size wx (cx0) a0) (h1 : kIntS.rd wx.heap.size wx (cx1) a1) => impl_UnionHas wx cx0 cx1 a0 a1 h0 h1 HT.out)
  have HTO0 := Lib.hid (fun (wx : World) (hb : Below w.heap.size w wx) => to_BoxS (kBoxS_ok.later HR0.out hb) (by have := HT.out; omega))
  have HTO1 := Lib.hid (fun (wx : World) (hb : Below w.heap.size w wx) => to_IntS (kIntS_ok.later HR1.out hb) (by have := HT.out; omega))
  generalize hR : R_UnionHas a0 a1 = R at *
  clear hR
  obtain ⟨r0, r1⟩ := R
  go_enter Try.func5, Try.ntmps5
  go_wp2_with fail
  refine (HZ0.out (1048576) _ (HB0.out) (by omega) (by omega)).mono ?_
  rw [GZ0]
  rintro e v1 ⟨rfl, hb⟩
  have HV1 := Lib.hid (rstep HB0.out hb); clear hb
  go_wp2_with fail
  have hz_1 : w.heap.size + 0 ≤ v1.heap.size := by have := (HV1.out).size; first | omega | (simp at this; omega)
  go_wp2_with fail
  refine (HTO0.out _ (HV1.out)).mono ?_
  rintro e w_1 ⟨cs_2, fp_2, he, ho, hnd, hge, hb⟩
  have hrd := kBoxS_ok.ord ho (B := w_1.heap.size) (kBoxS_ok.olt ho)
  obtain ⟨ea_2, ecap_2, rfl⟩ := kSl_form hrd
  change e = .returned (.slice ea_2 a0.length ecap_2) at he
  subst he
  have hrd2 := kBoxS_ok.ord ho (B := w_1.heap.size) (kBoxS_ok.olt ho)
  have OW_3 := Lib.hid ho; have HN_6 := Lib.hid hnd
  have HL_4 : Hid (∀ b ∈ fp_2, v1.heap.size ≤ b) := Lib.hid fun b hm => by have := hge b hm; first | omega | (simp at this; omega)
  have HH_5 : Hid (∀ b ∈ fp_2, b < w_1.heap.size) := Lib.hid (kBoxS_ok.olt ho)
  have RD_7 := Lib.hid hrd2; clear ho hnd hge hrd2 hrd
  have hb_8 := hb; clear hb
  have hz_9 : v1.heap.size ≤ w_1.heap.size := by have := (hb_8).size; first | omega | (simp at this; omega)
  have HB_10 := Lib.hid (rstep HV1.out hb_8)
  have hz_11 : w.heap.size + 0 ≤ w_1.heap.size := Nat.le_trans hz_1 hz_9
  have HQ := Lib.hid hb_8; clear hb_8 HQ
  have hz_12 : w_1.heap.size ≤ w_1.heap.size := Nat.le_refl _
  go_wp2_with fail
  refine (HTO1.out _ (HB_10.out)).mono ?_
  rintro e w_2 ⟨cs_13, fp_13, he, ho, hnd, hge, hb⟩
  have hrd := kIntS_ok.ord ho (B := w_2.heap.size) (kIntS_ok.olt ho)
  obtain ⟨ea_13, ecap_13, rfl⟩ := kSl_form hrd
  change e = .returned (.slice ea_13 a1.length ecap_13) at he
  subst he
  have hrd2 := kIntS_ok.ord ho (B := w_2.heap.size) (kIntS_ok.olt ho)
  have OW_14 := Lib.hid ho; have HN_17 := Lib.hid hnd
  have HL_15 : Hid (∀ b ∈ fp_13, w_1.heap.size ≤ b) := Lib.hid fun b hm => by have := hge b hm; first | omega | (simp at this; omega)
  have HH_16 : Hid (∀ b ∈ fp_13, b < w_2.heap.size) := Lib.hid (kIntS_ok.olt ho)
  have RD_18 := Lib.hid hrd2; clear ho hnd hge hrd2 hrd
  have hb_19 := hb; clear hb
  have hz_20 : w_1.heap.size ≤ w_2.heap.size := by have := (hb_19).size; first | omega | (simp at this; omega)
  have HB_21 := Lib.hid (rstep HB_10.out hb_19)
  have hz_22 : w.heap.size + 0 ≤ w_2.heap.size := Nat.le_trans hz_11 hz_20
  have RD_23 := Lib.hid (kBoxS_ok.rbelow RD_7.out (Below.mono (hb_19) (by first | omega | (simp; done) | (simp; omega)))); clear RD_7
  have hz_24 : w_1.heap.size ≤ w_2.heap.size := Nat.le_trans hz_12 hz_20
  have HQ := Lib.hid hb_19; clear hb_19 HQ
  have hz_25 : w_2.heap.size ≤ w_2.heap.size := Nat.le_refl _
  go_wp2_with fail
  refine (HS.out _ [.slice ea_2 a0.length ecap_2] [.slice ea_13 a1.length ecap_13] (kBoxS_ok.rmono RD_23.out (by first | omega | (simp; done) | (simp; omega))) (kIntS_ok.rmono RD_18.out (by first | omega | (simp; done) | (simp; omega)))).mono ?_
  rintro e w_3 ⟨rfl, hb⟩
  have hb_27 := hb; clear hb
  have hz_28 : w_2.heap.size ≤ w_3.heap.size := by have := (hb_27).size; first | omega | (simp at this; omega)
  have HB_29 := Lib.hid (rstep HB_21.out hb_27)
  have hz_30 : w.heap.size + 0 ≤ w_3.heap.size := Nat.le_trans hz_22 hz_28
  have RD_31 := Lib.hid (kBoxS_ok.rbelow RD_23.out (Below.mono (hb_27) (by first | omega | (simp; done) | (simp; omega)))); clear RD_23
  have hz_32 : w_1.heap.size ≤ w_3.heap.size := Nat.le_trans hz_24 hz_28
  have RD_33 := Lib.hid (kIntS_ok.rbelow RD_18.out (Below.mono (hb_27) (by first | omega | (simp; done) | (simp; omega)))); clear RD_18
  have hz_34 : w_2.heap.size ≤ w_3.heap.size := Nat.le_trans hz_25 hz_28
  clear hb_27
  go_wp2_with fail
  refine (HTO0.out _ (HB_29.out)).mono ?_
  rintro e w_4 ⟨cs_35, fp_35, he, ho, hnd, hge, hb⟩
  have hrd := kBoxS_ok.ord ho (B := w_4.heap.size) (kBoxS_ok.olt ho)
  obtain ⟨ea_35, ecap_35, rfl⟩ := kSl_form hrd
  change e = .returned (.slice ea_35 a0.length ecap_35) at he
  subst he
  have hrd2 := kBoxS_ok.ord ho (B := w_4.heap.size) (kBoxS_ok.olt ho)
  have OW_36 := Lib.hid ho; have HN_39 := Lib.hid hnd
  have HL_37 : Hid (∀ b ∈ fp_35, w_3.heap.size ≤ b) := Lib.hid fun b hm => by have := hge b hm; first | omega | (simp at this; omega)
  have HH_38 : Hid (∀ b ∈ fp_35, b < w_4.heap.size) := Lib.hid (kBoxS_ok.olt ho)
  have RD_40 := Lib.hid hrd2; clear ho hnd hge hrd2 hrd
  have hb_41 := hb; clear hb
  have hz_42 : w_3.heap.size ≤ w_4.heap.size := by have := (hb_41).size; first | omega | (simp at this; omega)
  have HB_43 := Lib.hid (rstep HB_29.out hb_41)
  have hz_44 : w.heap.size + 0 ≤ w_4.heap.size := Nat.le_trans hz_30 hz_42
  have HQ := Lib.hid hb_41; clear hb_41 HQ
  have hz_45 : w_4.heap.size ≤ w_4.heap.size := Nat.le_refl _
  go_wp2_with fail
  refine (HTO1.out _ (HB_43.out)).mono ?_
  rintro e w_5 ⟨cs_46, fp_46, he, ho, hnd, hge, hb⟩
  have hrd := kIntS_ok.ord ho (B := w_5.heap.size) (kIntS_ok.olt ho)
  obtain ⟨ea_46, ecap_46, rfl⟩ := kSl_form hrd
  change e = .returned (.slice ea_46 a1.length ecap_46) at he
  subst he
  have hrd2 := kIntS_ok.ord ho (B := w_5.heap.size) (kIntS_ok.olt ho)
  have OW_47 := Lib.hid ho; have HN_50 := Lib.hid hnd
  have HL_48 : Hid (∀ b ∈ fp_46, w_4.heap.size ≤ b) := Lib.hid fun b hm => by have := hge b hm; first | omega | (simp at this; omega)
  have HH_49 : Hid (∀ b ∈ fp_46, b < w_5.heap.size) := Lib.hid (kIntS_ok.olt ho)
  have RD_51 := Lib.hid hrd2; clear ho hnd hge hrd2 hrd
  have hb_52 := hb; clear hb
  have hz_53 : w_4.heap.size ≤ w_5.heap.size := by have := (hb_52).size; first | omega | (simp at this; omega)
  have HB_54 := Lib.hid (rstep HB_43.out hb_52)
  have hz_55 : w.heap.size + 0 ≤ w_5.heap.size := Nat.le_trans hz_44 hz_53
  have OW_56 := Lib.hid (kBoxS_ok.oframe OW_36.out (w' := w_5) fun b hm => (hb_52).block b (kBoxS_ok.olt OW_36.out b hm)); clear OW_36
  have hz_57 : w_4.heap.size ≤ w_5.heap.size := Nat.le_trans hz_45 hz_53
  have HQ := Lib.hid hb_52; clear hb_52 HQ
  have hz_58 : w_5.heap.size ≤ w_5.heap.size := Nat.le_refl _
  go_wp2_with fail
  refine (HI.out _ [.slice ea_35 a0.length ecap_35] [.slice ea_46 a1.length ecap_46] (kBoxS_ok.ord OW_56.out (fun b hm => by have := HH_38.out b hm; first | omega | (simp; done) | (simp; omega))) (kIntS_ok.ord OW_47.out (fun b hm => by have := HH_49.out b hm; first | omega | (simp; done) | (simp; omega)))).mono ?_
  rintro e w_6 ⟨rfl, hb⟩
  have hb_60 := hb; clear hb
  have hz_61 : w_5.heap.size ≤ w_6.heap.size := by have := (hb_60).size; first | omega | (simp at this; omega)
  have HB_62 := Lib.hid (rstep HB_54.out hb_60)
  have hz_63 : w.heap.size + 0 ≤ w_6.heap.size := Nat.le_trans hz_55 hz_61
  have OW_64 := Lib.hid (kBoxS_ok.oframe OW_56.out (w' := w_6) fun b hm => (hb_60).block b (kBoxS_ok.olt OW_56.out b hm)); clear OW_56
  have hz_65 : w_4.heap.size ≤ w_6.heap.size := Nat.le_trans hz_57 hz_61
  have OW_66 := Lib.hid (kIntS_ok.oframe OW_47.out (w' := w_6) fun b hm => (hb_60).block b (kIntS_ok.olt OW_47.out b hm)); clear OW_47
  have hz_67 : w_5.heap.size ≤ w_6.heap.size := Nat.le_trans hz_58 hz_61
  clear hb_60
  go_wp2_with fail
  refine (HTO0.out _ (HB_62.out)).mono ?_
  rintro e w_7 ⟨cs_68, fp_68, he, ho, hnd, hge, hb⟩
  have hrd := kBoxS_ok.ord ho (B := w_7.heap.size) (kBoxS_ok.olt ho)
  obtain ⟨ea_68, ecap_68, rfl⟩ := kSl_form hrd
  change e = .returned (.slice ea_68 a0.length ecap_68) at he
  subst he
  have hrd2 := kBoxS_ok.ord ho (B := w_7.heap.size) (kBoxS_ok.olt ho)
  have OW_69 := Lib.hid ho; have HN_72 := Lib.hid hnd
  have HL_70 : Hid (∀ b ∈ fp_68, w_6.heap.size ≤ b) := Lib.hid fun b hm => by have := hge b hm; first | omega | (simp at this; omega)
  have HH_71 : Hid (∀ b ∈ fp_68, b < w_7.heap.size) := Lib.hid (kBoxS_ok.olt ho)
  have RD_73 := Lib.hid hrd2; clear ho hnd hge hrd2 hrd
  have hb_74 := hb; clear hb
  have hz_75 : w_6.heap.size ≤ w_7.heap.size := by have := (hb_74).size; first | omega | (simp at this; omega)
  have HB_76 := Lib.hid (rstep HB_62.out hb_74)
  have hz_77 : w.heap.size + 0 ≤ w_7.heap.size := Nat.le_trans hz_63 hz_75
  have OW_78 := Lib.hid (kBoxS_ok.oframe OW_64.out (w' := w_7) fun b hm => (hb_74).block b (kBoxS_ok.olt OW_64.out b hm)); clear OW_64
  have hz_79 : w_4.heap.size ≤ w_7.heap.size := Nat.le_trans hz_65 hz_75
  have OW_80 := Lib.hid (kIntS_ok.oframe OW_66.out (w' := w_7) fun b hm => (hb_74).block b (kIntS_ok.olt OW_66.out b hm)); clear OW_66
  have hz_81 : w_5.heap.size ≤ w_7.heap.size := Nat.le_trans hz_67 hz_75
  have HQ := Lib.hid hb_74; clear hb_74 HQ
  have hz_82 : w_7.heap.size ≤ w_7.heap.size := Nat.le_refl _
  go_wp2_with fail
  refine (eq_BoxS (w := w_7) (kBoxS_ok.ord OW_78.out (fun b hm => by have := HH_38.out b hm; first | omega | (simp; done) | (simp; omega))) (kBoxS_ok.rmono RD_73.out (by first | omega | (simp; done) | (simp; omega)))).mono ?_
  rintro e w_8 ⟨rfl, hb⟩
  have hb_83 := hb; clear hb
  have hz_84 : w_7.heap.size ≤ w_8.heap.size := by have := (hb_83).size; first | omega | (simp at this; omega)
  have HB_85 := Lib.hid (rstep HB_76.out hb_83)
  have hz_86 : w.heap.size + 0 ≤ w_8.heap.size := Nat.le_trans hz_77 hz_84
  have RD_87 := Lib.hid (kBoxS_ok.rbelow RD_73.out (Below.mono (hb_83) (by first | omega | (simp; done) | (simp; omega)))); clear RD_73
  have hz_88 : w_7.heap.size ≤ w_8.heap.size := Nat.le_trans hz_82 hz_84
  have OW_89 := Lib.hid (kBoxS_ok.oframe OW_78.out (w' := w_8) fun b hm => (hb_83).block b (kBoxS_ok.olt OW_78.out b hm)); clear OW_78
  have hz_90 : w_4.heap.size ≤ w_8.heap.size := Nat.le_trans hz_79 hz_84
  have OW_91 := Lib.hid (kIntS_ok.oframe OW_80.out (w' := w_8) fun b hm => (hb_83).block b (kIntS_ok.olt OW_80.out b hm)); clear OW_80
  have hz_92 : w_5.heap.size ≤ w_8.heap.size := Nat.le_trans hz_81 hz_84
  clear hb_83
  go_wp2_with fail
  refine (HTO1.out _ (HB_85.out)).mono ?_
  rintro e w_9 ⟨cs_93, fp_93, he, ho, hnd, hge, hb⟩
  have hrd := kIntS_ok.ord ho (B := w_9.heap.size) (kIntS_ok.olt ho)
  obtain ⟨ea_93, ecap_93, rfl⟩ := kSl_form hrd
  change e = .returned (.slice ea_93 a1.length ecap_93) at he
  subst he
  have hrd2 := kIntS_ok.ord ho (B := w_9.heap.size) (kIntS_ok.olt ho)
  have OW_94 := Lib.hid ho; have HN_97 := Lib.hid hnd
  have HL_95 : Hid (∀ b ∈ fp_93, w_8.heap.size ≤ b) := Lib.hid fun b hm => by have := hge b hm; first | omega | (simp at this; omega)
  have HH_96 : Hid (∀ b ∈ fp_93, b < w_9.heap.size) := Lib.hid (kIntS_ok.olt ho)
  have RD_98 := Lib.hid hrd2; clear ho hnd hge hrd2 hrd
  have hb_99 := hb; clear hb
  have hz_100 : w_8.heap.size ≤ w_9.heap.size := by have := (hb_99).size; first | omega | (simp at this; omega)
  have HB_101 := Lib.hid (rstep HB_85.out hb_99)
  have hz_102 : w.heap.size + 0 ≤ w_9.heap.size := Nat.le_trans hz_86 hz_100
  have OW_103 := Lib.hid (kBoxS_ok.oframe OW_89.out (w' := w_9) fun b hm => (hb_99).block b (kBoxS_ok.olt OW_89.out b hm)); clear OW_89
  have hz_104 : w_4.heap.size ≤ w_9.heap.size := Nat.le_trans hz_90 hz_100
  have OW_105 := Lib.hid (kIntS_ok.oframe OW_91.out (w' := w_9) fun b hm => (hb_99).block b (kIntS_ok.olt OW_91.out b hm)); clear OW_91
  have hz_106 : w_5.heap.size ≤ w_9.heap.size := Nat.le_trans hz_92 hz_100
  have HQ := Lib.hid hb_99; clear hb_99 HQ
  have hz_107 : w_9.heap.size ≤ w_9.heap.size := Nat.le_refl _
  go_wp2_with fail
  refine (eq_IntS (w := w_9) (kIntS_ok.ord OW_105.out (fun b hm => by have := HH_49.out b hm; first | omega | (simp; done) | (simp; omega))) (kIntS_ok.rmono RD_98.out (by first | omega | (simp; done) | (simp; omega)))).mono ?_
  rintro e w_10 ⟨rfl, hb⟩
  have hb_108 := hb; clear hb
  have hz_109 : w_9.heap.size ≤ w_10.heap.size := by have := (hb_108).size; first | omega | (simp at this; omega)
  have HB_110 := Lib.hid (rstep HB_101.out hb_108)
  have hz_111 : w.heap.size + 0 ≤ w_10.heap.size := Nat.le_trans hz_102 hz_109
  have RD_112 := Lib.hid (kIntS_ok.rbelow RD_98.out (Below.mono (hb_108) (by first | omega | (simp; done) | (simp; omega)))); clear RD_98
  have hz_113 : w_9.heap.size ≤ w_10.heap.size := Nat.le_trans hz_107 hz_109
  have OW_114 := Lib.hid (kBoxS_ok.oframe OW_103.out (w' := w_10) fun b hm => (hb_108).block b (kBoxS_ok.olt OW_103.out b hm)); clear OW_103
  have hz_115 : w_4.heap.size ≤ w_10.heap.size := Nat.le_trans hz_104 hz_109
  have OW_116 := Lib.hid (kIntS_ok.oframe OW_105.out (w' := w_10) fun b hm => (hb_108).block b (kIntS_ok.olt OW_105.out b hm)); clear OW_105
  have hz_117 : w_5.heap.size ≤ w_10.heap.size := Nat.le_trans hz_106 hz_109
  clear hb_108
  go_wp2_with fail
  go_ret
  exact ⟨rfl, (HB_110.out)⟩

end Go.Proofs.Ythlajmncpejhmaa.fnExactUnionHas
