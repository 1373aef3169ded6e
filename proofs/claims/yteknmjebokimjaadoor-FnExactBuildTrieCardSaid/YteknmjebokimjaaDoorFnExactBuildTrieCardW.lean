/- The walk of FnExactBuildTrie: whatever the arguments, the call returns true and writes nothing that was there. -/
import Derived.Test.YteknmjebokimjaaDoorBld2
import Derived.Test.YteknmjebokimjaaDoorHTrieN2
import Derived.Test.YteknmjebokimjaaDoorDoor
namespace Go.Proofs.YteknmjebokimjaaDoor.fnExactBuildTrieCard
open Go.ChangeShapes Go.WideShapes Go.ChangeAt Go.RowKit
set_option linter.unusedVariables false

set_option maxHeartbeats 1000000 in
set_option maxRecDepth 100000 in
theorem walk (w : World) (m : Int) (hm : w.cell? ⟨0, 0, none⟩ = some (.int .i64 m)) (v0 : Value) (a0 : (List (ByteArray × Int))) (w0 : IsK kSubS one w v0 a0) :
    Calls Tryd.prog 3 #[v0] w fun e w' => e = .returned (.bool true) ∧ Below w.heap.size w w' := by
  obtain ⟨cs0, rfl, hr0⟩ := w0
  obtain ⟨ea0, ecap0, rfl⟩ := kSl_form hr0
  show Calls Tryd.prog 3 #[.slice ea0 a0.length ecap0] w _
  have hn0 := (sl_len hr0).2
  have HR0 := Lib.hid hr0; clear hr0
  have HZ0 := Lib.hid (fun (lx : Int) (wx : World) (hb : Below w.heap.size w wx) (g0 : 0 ≤ lx) (g1 : lx ≤ 1048576) => sz_SubS lx (kSubS_ok.later HR0.out hb) g0 g1)
  have HB0 : Hid (Below w.heap.size w w) := Lib.hid (Below.refl _ _)
  by_cases gz0 : (kSubS.wt a0 : Int) ≤ 1048576
  case neg =>
    have GZ0 : szR (1048576) (kSubS.wt a0) = -1 := szR_not gz0
    go_enter Tryd.func3, Tryd.ntmps3
    go_wp2_with fail
    refine (HZ0.out (1048576) _ (HB0.out) (by omega) (by omega)).mono ?_
    rw [GZ0]
    rintro e v1 ⟨rfl, hb⟩
    have HV1 := Lib.hid (rstep HB0.out hb); clear hb
    go_wp2_with fail
    go_ret
    exact ⟨rfl, (HV1.out)⟩
  have GZ0 : szR (1048576) (kSubS.wt a0) = 1048576 - (kSubS.wt a0 : Int) := szR_fit gz0
  have HT : Hid (kSubS.wt a0 ≤ 1048576) := Lib.hid (by omega)
  have HCN := Lib.hid (R_BuildTrie_ok a0 HT.out)
  have HM := Lib.hid hm; clear hm
  have HS := Lib.hid (fun (wx : World) (cx0 : List Value) (h0 : kSubS.rd wx.heap.size wx (cx0) a0) => spec_BuildTrie wx cx0 a0 h0 HT.out)
  have HI := Lib.hid (fun (wx : World) (cx0 : List Value) (h0 : kSubS.rd wx.heap.size wx (cx0) a0) (hbx : Below w.heap.size w wx) => impl_BuildTrie wx cx0 a0 h0 HT.out m (below_later hbx HM.out))
  have HTO0 := Lib.hid (fun (wx : World) (hb : Below w.heap.size w wx) => to_SubS (kSubS_ok.later HR0.out hb) (by have := HT.out; omega))
  generalize hR : R_BuildTrie a0 = R at *
  clear hR
  obtain ⟨r0, r1⟩ := R
  go_enter Tryd.func3, Tryd.ntmps3
  go_wp2_with fail
  refine (HZ0.out (1048576) _ (HB0.out) (by omega) (by omega)).mono ?_
  rw [GZ0]
  rintro e v1 ⟨rfl, hb⟩
  have HV1 := Lib.hid (rstep HB0.out hb); clear hb
  go_wp2_with fail
  have hz_1 : w.heap.size + 0 ≤ v1.heap.size := by have := (HV1.out).size; first | omega | (simp at this; omega)
  go_wp2_with fail
  refine (HTO0.out _ (HV1.out)).mono ?_
  rintro e w_1 ⟨cs_2, fp_2, he, ho, hnd, hge, hb⟩
  have hrd := kSubS_ok.ord ho (B := w_1.heap.size) (kSubS_ok.olt ho)
  obtain ⟨ea_2, ecap_2, rfl⟩ := kSl_form hrd
  change e = .returned (.slice ea_2 a0.length ecap_2) at he
  subst he
  have hrd2 := kSubS_ok.ord ho (B := w_1.heap.size) (kSubS_ok.olt ho)
  have OW_3 := Lib.hid ho; have HN_6 := Lib.hid hnd
  have HL_4 : Hid (∀ b ∈ fp_2, v1.heap.size ≤ b) := Lib.hid fun b hm => by have := hge b hm; first | omega | (simp at this; omega)
  have HH_5 : Hid (∀ b ∈ fp_2, b < w_1.heap.size) := Lib.hid (kSubS_ok.olt ho)
  have RD_7 := Lib.hid hrd2; clear ho hnd hge hrd2 hrd
  have hb_8 := hb; clear hb
  have hz_9 : v1.heap.size ≤ w_1.heap.size := by have := (hb_8).size; first | omega | (simp at this; omega)
  have HB_10 := Lib.hid (rstep HV1.out hb_8)
  have hz_11 : w.heap.size + 0 ≤ w_1.heap.size := Nat.le_trans hz_1 hz_9
  have HQ := Lib.hid hb_8; clear hb_8 HQ
  have hz_12 : w_1.heap.size ≤ w_1.heap.size := Nat.le_refl _
  go_wp2_with fail
  refine ((HS.out _ [.slice ea_2 a0.length ecap_2] (kSubS_ok.rmono RD_7.out (by first | omega | (simp; done) | (simp; omega)))).mono (fun _ _ h => Made.reads kTrieNodeS_ok h)).mono ?_
  rintro e w_2 ⟨cs_13, he, hrd, hb⟩
  obtain ⟨ea_13, ecap_13, rfl⟩ := kSl_form hrd
  change e = .returned (.tuple #[(.slice ea_13 r0.length ecap_13), (.bool r1)]) at he
  subst he
  have RD_14 := Lib.hid hrd; clear hrd
  have hb_15 := hb; clear hb
  have hz_16 : w_1.heap.size ≤ w_2.heap.size := by have := (hb_15).size; first | omega | (simp at this; omega)
  have HB_17 := Lib.hid (rstep HB_10.out hb_15)
  have hz_18 : w.heap.size + 0 ≤ w_2.heap.size := Nat.le_trans hz_11 hz_16
  have RD_19 := Lib.hid (kSubS_ok.rbelow RD_7.out (Below.mono (hb_15) (by first | omega | (simp; done) | (simp; omega)))); clear RD_7
  have hz_20 : w_1.heap.size ≤ w_2.heap.size := Nat.le_trans hz_12 hz_16
  clear hb_15
  have hz_21 : w_2.heap.size ≤ w_2.heap.size := Nat.le_refl _
  go_wp2_with fail
  refine (HTO0.out _ (HB_17.out)).mono ?_
  rintro e w_3 ⟨cs_22, fp_22, he, ho, hnd, hge, hb⟩
  have hrd := kSubS_ok.ord ho (B := w_3.heap.size) (kSubS_ok.olt ho)
  obtain ⟨ea_22, ecap_22, rfl⟩ := kSl_form hrd
  change e = .returned (.slice ea_22 a0.length ecap_22) at he
  subst he
  have hrd2 := kSubS_ok.ord ho (B := w_3.heap.size) (kSubS_ok.olt ho)
  have OW_23 := Lib.hid ho; have HN_26 := Lib.hid hnd
  have HL_24 : Hid (∀ b ∈ fp_22, w_2.heap.size ≤ b) := Lib.hid fun b hm => by have := hge b hm; first | omega | (simp at this; omega)
  have HH_25 : Hid (∀ b ∈ fp_22, b < w_3.heap.size) := Lib.hid (kSubS_ok.olt ho)
  have RD_27 := Lib.hid hrd2; clear ho hnd hge hrd2 hrd
  have hb_28 := hb; clear hb
  have hz_29 : w_2.heap.size ≤ w_3.heap.size := by have := (hb_28).size; first | omega | (simp at this; omega)
  have HB_30 := Lib.hid (rstep HB_17.out hb_28)
  have hz_31 : w.heap.size + 0 ≤ w_3.heap.size := Nat.le_trans hz_18 hz_29
  have RD_32 := Lib.hid (kTrieNodeS_ok.rbelow RD_14.out (Below.mono (hb_28) (by first | omega | (simp; done) | (simp; omega)))); clear RD_14
  have hz_33 : w_2.heap.size ≤ w_3.heap.size := Nat.le_trans hz_21 hz_29
  have HQ := Lib.hid hb_28; clear hb_28 HQ
  have hz_34 : w_3.heap.size ≤ w_3.heap.size := Nat.le_refl _
  go_wp2_with fail
  refine (HI.out _ [.slice ea_22 a0.length ecap_22] (kSubS_ok.ord OW_23.out (fun b hm => by have := HH_25.out b hm; first | omega | (simp; done) | (simp; omega))) (HB_30.out)).mono ?_
  rintro e w_4 ⟨cs_35, fp_35, he, ho, hnd, hge, hb⟩
  have hrd := kTrieNodeS_ok.ord ho (B := w_4.heap.size) (kTrieNodeS_ok.olt ho)
  obtain ⟨ea_35, ecap_35, rfl⟩ := kSl_form hrd
  change e = .returned (.tuple #[(.slice ea_35 r0.length ecap_35), (.bool r1)]) at he
  subst he
  have RD_36 := Lib.hid hrd; clear hrd
  have OW_37 := Lib.hid ho; have HN_40 := Lib.hid hnd
  have HL_38 : Hid (∀ b ∈ fp_35, w_3.heap.size ≤ b) := Lib.hid fun b hm => by have := hge b hm; first | omega | (simp at this; omega)
  have HH_39 : Hid (∀ b ∈ fp_35, b < w_4.heap.size) := Lib.hid (kTrieNodeS_ok.olt ho)
  clear ho hnd hge
  have hb_41 := hb; clear hb
  have hz_42 : w_3.heap.size ≤ w_4.heap.size := by have := (hb_41).size; first | omega | (simp at this; omega)
  have HB_43 := Lib.hid (rstep HB_30.out hb_41)
  have hz_44 : w.heap.size + 0 ≤ w_4.heap.size := Nat.le_trans hz_31 hz_42
  have RD_45 := Lib.hid (kTrieNodeS_ok.rbelow RD_32.out (Below.mono (hb_41) (by first | omega | (simp; done) | (simp; omega)))); clear RD_32
  have hz_46 : w_2.heap.size ≤ w_4.heap.size := Nat.le_trans hz_33 hz_42
  have OW_47 := Lib.hid (kSubS_ok.oframe OW_23.out (w' := w_4) fun b hm => (hb_41).block b (kSubS_ok.olt OW_23.out b hm)); clear OW_23
  have hz_48 : w_3.heap.size ≤ w_4.heap.size := Nat.le_trans hz_34 hz_42
  clear hb_41
  have hz_49 : w_4.heap.size ≤ w_4.heap.size := Nat.le_refl _
  go_wp2_with fail
  refine (eq_TrieNodeS (w := w_4) (kTrieNodeS_ok.ord OW_37.out (fun b hm => by have := HH_39.out b hm; first | omega | (simp; done) | (simp; omega))) (kTrieNodeS_ok.rmono RD_45.out (by first | omega | (simp; done) | (simp; omega)))).mono ?_
  rintro e w_5 ⟨rfl, hb⟩
  have hb_50 := hb; clear hb
  have hz_51 : w_4.heap.size ≤ w_5.heap.size := by have := (hb_50).size; first | omega | (simp at this; omega)
  have HB_52 := Lib.hid (rstep HB_43.out hb_50)
  have hz_53 : w.heap.size + 0 ≤ w_5.heap.size := Nat.le_trans hz_44 hz_51
  have RD_54 := Lib.hid (kTrieNodeS_ok.rbelow RD_45.out (Below.mono (hb_50) (by first | omega | (simp; done) | (simp; omega)))); clear RD_45
  have hz_55 : w_2.heap.size ≤ w_5.heap.size := Nat.le_trans hz_46 hz_51
  have OW_56 := Lib.hid (kSubS_ok.oframe OW_47.out (w' := w_5) fun b hm => (hb_50).block b (kSubS_ok.olt OW_47.out b hm)); clear OW_47
  have hz_57 : w_3.heap.size ≤ w_5.heap.size := Nat.le_trans hz_48 hz_51
  have OW_58 := Lib.hid (kTrieNodeS_ok.oframe OW_37.out (w' := w_5) fun b hm => (hb_50).block b (kTrieNodeS_ok.olt OW_37.out b hm)); clear OW_37
  have hz_59 : w_4.heap.size ≤ w_5.heap.size := Nat.le_trans hz_49 hz_51
  clear hb_50
  go_wp2_with fail
  refine (HTO0.out _ (HB_52.out)).mono ?_
  rintro e w_6 ⟨cs_60, fp_60, he, ho, hnd, hge, hb⟩
  have hrd := kSubS_ok.ord ho (B := w_6.heap.size) (kSubS_ok.olt ho)
  obtain ⟨ea_60, ecap_60, rfl⟩ := kSl_form hrd
  change e = .returned (.slice ea_60 a0.length ecap_60) at he
  subst he
  have hrd2 := kSubS_ok.ord ho (B := w_6.heap.size) (kSubS_ok.olt ho)
  have OW_61 := Lib.hid ho; have HN_64 := Lib.hid hnd
  have HL_62 : Hid (∀ b ∈ fp_60, w_5.heap.size ≤ b) := Lib.hid fun b hm => by have := hge b hm; first | omega | (simp at this; omega)
  have HH_63 : Hid (∀ b ∈ fp_60, b < w_6.heap.size) := Lib.hid (kSubS_ok.olt ho)
  have RD_65 := Lib.hid hrd2; clear ho hnd hge hrd2 hrd
  have hb_66 := hb; clear hb
  have hz_67 : w_5.heap.size ≤ w_6.heap.size := by have := (hb_66).size; first | omega | (simp at this; omega)
  have HB_68 := Lib.hid (rstep HB_52.out hb_66)
  have hz_69 : w.heap.size + 0 ≤ w_6.heap.size := Nat.le_trans hz_53 hz_67
  have RD_70 := Lib.hid (kTrieNodeS_ok.rbelow RD_54.out (Below.mono (hb_66) (by first | omega | (simp; done) | (simp; omega)))); clear RD_54
  have hz_71 : w_2.heap.size ≤ w_6.heap.size := Nat.le_trans hz_55 hz_67
  have OW_72 := Lib.hid (kSubS_ok.oframe OW_56.out (w' := w_6) fun b hm => (hb_66).block b (kSubS_ok.olt OW_56.out b hm)); clear OW_56
  have hz_73 : w_3.heap.size ≤ w_6.heap.size := Nat.le_trans hz_57 hz_67
  have OW_74 := Lib.hid (kTrieNodeS_ok.oframe OW_58.out (w' := w_6) fun b hm => (hb_66).block b (kTrieNodeS_ok.olt OW_58.out b hm)); clear OW_58
  have hz_75 : w_4.heap.size ≤ w_6.heap.size := Nat.le_trans hz_59 hz_67
  have HQ := Lib.hid hb_66; clear hb_66 HQ
  have hz_76 : w_6.heap.size ≤ w_6.heap.size := Nat.le_refl _
  go_wp2_with fail
  refine (eq_SubS (w := w_6) (kSubS_ok.ord OW_72.out (fun b hm => by have := HH_25.out b hm; first | omega | (simp; done) | (simp; omega))) (kSubS_ok.rmono RD_65.out (by first | omega | (simp; done) | (simp; omega)))).mono ?_
  rintro e w_7 ⟨rfl, hb⟩
  have hb_77 := hb; clear hb
  have hz_78 : w_6.heap.size ≤ w_7.heap.size := by have := (hb_77).size; first | omega | (simp at this; omega)
  have HB_79 := Lib.hid (rstep HB_68.out hb_77)
  have hz_80 : w.heap.size + 0 ≤ w_7.heap.size := Nat.le_trans hz_69 hz_78
  have RD_81 := Lib.hid (kTrieNodeS_ok.rbelow RD_70.out (Below.mono (hb_77) (by first | omega | (simp; done) | (simp; omega)))); clear RD_70
  have hz_82 : w_2.heap.size ≤ w_7.heap.size := Nat.le_trans hz_71 hz_78
  have RD_83 := Lib.hid (kSubS_ok.rbelow RD_65.out (Below.mono (hb_77) (by first | omega | (simp; done) | (simp; omega)))); clear RD_65
  have hz_84 : w_6.heap.size ≤ w_7.heap.size := Nat.le_trans hz_76 hz_78
  have OW_85 := Lib.hid (kSubS_ok.oframe OW_72.out (w' := w_7) fun b hm => (hb_77).block b (kSubS_ok.olt OW_72.out b hm)); clear OW_72
  have hz_86 : w_3.heap.size ≤ w_7.heap.size := Nat.le_trans hz_73 hz_78
  have OW_87 := Lib.hid (kTrieNodeS_ok.oframe OW_74.out (w' := w_7) fun b hm => (hb_77).block b (kTrieNodeS_ok.olt OW_74.out b hm)); clear OW_74
  have hz_88 : w_4.heap.size ≤ w_7.heap.size := Nat.le_trans hz_75 hz_78
  clear hb_77
  have hm_89 := mark_SubS (w := w_7) 1 OW_85.out (by omega) (by have := kSubS_ok.cwt a0; have := HT.out; have e0 : kSubS.s ≤ 8 := (by decide); omega)
  rw [show ((1 : Nat) : Int) = 1 from rfl] at hm_89
  have hqq_90 : ∃ z : Nat, 1 + kSubS.cnt a0 = z := ⟨_, rfl⟩
  obtain ⟨q_90, hq_90⟩ := hqq_90
  rw [hq_90] at hm_89
  have bq_90 : 1 ≤ q_90 := by omega
  have HM_91 := Lib.hid hm_89; clear hm_89
  have HQ_92 := Lib.hid hq_90; clear hq_90
  go_wp2_with fail
  refine HM_91.out.mono ?_
  rintro e w_8 ⟨rfl, ho, hw⟩
  have OW_93 := Lib.hid ho; clear ho
  have hw_94 := hw; clear hw
  have hz_95 : w_7.heap.size ≤ w_8.heap.size := by have := (hw_94).size; first | omega | (simp at this; omega)
  have HB_96 := Lib.hid (Below.trans HB_79.out (Wrote.below hw_94 (by first | omega | (simp; done) | (simp; omega)) (fun b hm => by have := HL_24.out b hm; omega)))
  have hz_97 : w.heap.size + 0 ≤ w_8.heap.size := Nat.le_trans hz_80 hz_95
  have RD_98 := Lib.hid (kTrieNodeS_ok.rbelow RD_81.out (Wrote.below hw_94 (by first | omega | (simp; done) | (simp; omega)) (fun b hm => by have := HL_24.out b hm; omega))); clear RD_81
  have hz_99 : w_2.heap.size ≤ w_8.heap.size := Nat.le_trans hz_82 hz_95
  have OW_100 := Lib.hid (kTrieNodeS_ok.oframe OW_87.out (w' := w_8) fun b hm => (hw_94).block b (kTrieNodeS_ok.olt OW_87.out b hm) (fun hc => by have := HL_38.out b hm; have := HH_39.out b hm; have := HL_24.out b hc; have := HH_25.out b hc; omega)); clear OW_87
  have hz_101 : w_4.heap.size ≤ w_8.heap.size := Nat.le_trans hz_88 hz_95
  clear hw_94
  have hz_102 : w_3.heap.size ≤ w_8.heap.size := by omega
  have hneg : ¬ ((q_90 : Int) < 0) := by omega
  go_wp2_with fail
  refine (eq_TrieNodeS (w := w_8) (kTrieNodeS_ok.ord OW_100.out (fun b hm => by have := HH_39.out b hm; first | omega | (simp; done) | (simp; omega))) (kTrieNodeS_ok.rmono RD_98.out (by first | omega | (simp; done) | (simp; omega)))).mono ?_
  rintro e w_9 ⟨rfl, hb⟩
  have hb_103 := hb; clear hb
  have hz_104 : w_8.heap.size ≤ w_9.heap.size := by have := (hb_103).size; first | omega | (simp at this; omega)
  have HB_105 := Lib.hid (rstep HB_96.out hb_103)
  have hz_106 : w.heap.size + 0 ≤ w_9.heap.size := Nat.le_trans hz_97 hz_104
  have RD_107 := Lib.hid (kTrieNodeS_ok.rbelow RD_98.out (Below.mono (hb_103) (by first | omega | (simp; done) | (simp; omega)))); clear RD_98
  have hz_108 : w_2.heap.size ≤ w_9.heap.size := Nat.le_trans hz_99 hz_104
  have OW_109 := Lib.hid (kSubS_ok.oframe OW_93.out (w' := w_9) fun b hm => (hb_103).block b (kSubS_ok.olt OW_93.out b hm)); clear OW_93
  have hz_110 : w_3.heap.size ≤ w_9.heap.size := Nat.le_trans hz_102 hz_104
  have OW_111 := Lib.hid (kTrieNodeS_ok.oframe OW_100.out (w' := w_9) fun b hm => (hb_103).block b (kTrieNodeS_ok.olt OW_100.out b hm)); clear OW_100
  have hz_112 : w_4.heap.size ≤ w_9.heap.size := Nat.le_trans hz_101 hz_104
  clear hb_103
  have hm_113 := mark_TrieNodeS (w := w_9) 1 OW_111.out (by omega) (by have := HCN.out; omega)
  rw [show ((1 : Nat) : Int) = 1 from rfl] at hm_113
  have hqq_114 : ∃ z : Nat, 1 + kTrieNodeS.cnt r0 = z := ⟨_, rfl⟩
  obtain ⟨q_114, hq_114⟩ := hqq_114
  rw [hq_114] at hm_113
  have HM_115 := Lib.hid hm_113; clear hm_113
  have HQ_116 := Lib.hid hq_114; clear hq_114
  go_wp2_with fail
  refine HM_115.out.mono ?_
  rintro e w_10 ⟨rfl, ho, hw⟩
  have OW_117 := Lib.hid ho; clear ho
  have hw_118 := hw; clear hw
  have hz_119 : w_9.heap.size ≤ w_10.heap.size := by have := (hw_118).size; first | omega | (simp at this; omega)
  have HB_120 := Lib.hid (Below.trans HB_105.out (Wrote.below hw_118 (by first | omega | (simp; done) | (simp; omega)) (fun b hm => by have := HL_38.out b hm; omega)))
  have hz_121 : w.heap.size + 0 ≤ w_10.heap.size := Nat.le_trans hz_106 hz_119
  have RD_122 := Lib.hid (kTrieNodeS_ok.rbelow RD_107.out (Wrote.below hw_118 (by first | omega | (simp; done) | (simp; omega)) (fun b hm => by have := HL_38.out b hm; omega))); clear RD_107
  have hz_123 : w_2.heap.size ≤ w_10.heap.size := Nat.le_trans hz_108 hz_119
  have OW_124 := Lib.hid (kSubS_ok.oframe OW_109.out (w' := w_10) fun b hm => (hw_118).block b (kSubS_ok.olt OW_109.out b hm) (fun hc => by have := HL_24.out b hm; have := HH_25.out b hm; have := HL_38.out b hc; have := HH_39.out b hc; omega)); clear OW_109
  have hz_125 : w_3.heap.size ≤ w_10.heap.size := Nat.le_trans hz_110 hz_119
  clear hw_118
  have hz_126 : w_4.heap.size ≤ w_10.heap.size := by omega
  have hm_127 := held_TrieNodeS (w := w_10) (xs := r0) 1 (kTrieNodeS_ok.ord OW_117.out (fun b hm => by have := HH_39.out b hm; first | omega | (simp; done) | (simp; omega))) (by omega) (by have := HCN.out; omega)
  rw [show ((1 : Nat) : Int) = 1 from rfl, HQ_116.out] at hm_127
  have HM_128 := Lib.hid hm_127; clear hm_127
  go_wp2_with fail
  refine HM_128.out.mono ?_
  rintro e w_11 ⟨rfl, hb⟩
  have hb_129 := hb; clear hb
  have hz_130 : w_10.heap.size ≤ w_11.heap.size := by have := (hb_129).size; first | omega | (simp at this; omega)
  have HB_131 := Lib.hid (rstep HB_120.out hb_129)
  have hz_132 : w.heap.size + 0 ≤ w_11.heap.size := Nat.le_trans hz_121 hz_130
  have RD_133 := Lib.hid (kTrieNodeS_ok.rbelow RD_122.out (Below.mono (hb_129) (by first | omega | (simp; done) | (simp; omega)))); clear RD_122
  have hz_134 : w_2.heap.size ≤ w_11.heap.size := Nat.le_trans hz_123 hz_130
  have OW_135 := Lib.hid (kSubS_ok.oframe OW_124.out (w' := w_11) fun b hm => (hb_129).block b (kSubS_ok.olt OW_124.out b hm)); clear OW_124
  have hz_136 : w_3.heap.size ≤ w_11.heap.size := Nat.le_trans hz_125 hz_130
  have OW_137 := Lib.hid (kTrieNodeS_ok.oframe OW_117.out (w' := w_11) fun b hm => (hb_129).block b (kTrieNodeS_ok.olt OW_117.out b hm)); clear OW_117
  have hz_138 : w_4.heap.size ≤ w_11.heap.size := Nat.le_trans hz_126 hz_130
  clear hb_129
  have hneg_139 : ¬ ((q_114 : Int) < 0) := by omega
  go_wp2_with fail
  refine (HTO0.out _ (HB_131.out)).mono ?_
  rintro e w_12 ⟨cs_140, fp_140, he, ho, hnd, hge, hb⟩
  have hrd := kSubS_ok.ord ho (B := w_12.heap.size) (kSubS_ok.olt ho)
  obtain ⟨ea_140, ecap_140, rfl⟩ := kSl_form hrd
  change e = .returned (.slice ea_140 a0.length ecap_140) at he
  subst he
  have hrd2 := kSubS_ok.ord ho (B := w_12.heap.size) (kSubS_ok.olt ho)
  have OW_141 := Lib.hid ho; have HN_144 := Lib.hid hnd
  have HL_142 : Hid (∀ b ∈ fp_140, w_11.heap.size ≤ b) := Lib.hid fun b hm => by have := hge b hm; first | omega | (simp at this; omega)
  have HH_143 : Hid (∀ b ∈ fp_140, b < w_12.heap.size) := Lib.hid (kSubS_ok.olt ho)
  have RD_145 := Lib.hid hrd2; clear ho hnd hge hrd2 hrd
  have hb_146 := hb; clear hb
  have hz_147 : w_11.heap.size ≤ w_12.heap.size := by have := (hb_146).size; first | omega | (simp at this; omega)
  have HB_148 := Lib.hid (rstep HB_131.out hb_146)
  have hz_149 : w.heap.size + 0 ≤ w_12.heap.size := Nat.le_trans hz_132 hz_147
  have RD_150 := Lib.hid (kTrieNodeS_ok.rbelow RD_133.out (Below.mono (hb_146) (by first | omega | (simp; done) | (simp; omega)))); clear RD_133
  have hz_151 : w_2.heap.size ≤ w_12.heap.size := Nat.le_trans hz_134 hz_147
  have OW_152 := Lib.hid (kSubS_ok.oframe OW_135.out (w' := w_12) fun b hm => (hb_146).block b (kSubS_ok.olt OW_135.out b hm)); clear OW_135
  have hz_153 : w_3.heap.size ≤ w_12.heap.size := Nat.le_trans hz_136 hz_147
  have OW_154 := Lib.hid (kTrieNodeS_ok.oframe OW_137.out (w' := w_12) fun b hm => (hb_146).block b (kTrieNodeS_ok.olt OW_137.out b hm)); clear OW_137
  have hz_155 : w_4.heap.size ≤ w_12.heap.size := Nat.le_trans hz_138 hz_147
  have HQ := Lib.hid hb_146; clear hb_146 HQ
  have hz_156 : w_12.heap.size ≤ w_12.heap.size := Nat.le_refl _
  go_wp2_with fail
  refine ((HI.out _ [.slice ea_140 a0.length ecap_140] (kSubS_ok.rmono RD_145.out (by first | omega | (simp; done) | (simp; omega))) (HB_148.out)).mono (fun _ _ h => Made.reads kTrieNodeS_ok h)).mono ?_
  rintro e w_13 ⟨cs_157, he, hrd, hb⟩
  obtain ⟨ea_157, ecap_157, rfl⟩ := kSl_form hrd
  change e = .returned (.tuple #[(.slice ea_157 r0.length ecap_157), (.bool r1)]) at he
  subst he
  have RD_158 := Lib.hid hrd; clear hrd
  have hb_159 := hb; clear hb
  have hz_160 : w_12.heap.size ≤ w_13.heap.size := by have := (hb_159).size; first | omega | (simp at this; omega)
  have HB_161 := Lib.hid (rstep HB_148.out hb_159)
  have hz_162 : w.heap.size + 0 ≤ w_13.heap.size := Nat.le_trans hz_149 hz_160
  have RD_163 := Lib.hid (kTrieNodeS_ok.rbelow RD_150.out (Below.mono (hb_159) (by first | omega | (simp; done) | (simp; omega)))); clear RD_150
  have hz_164 : w_2.heap.size ≤ w_13.heap.size := Nat.le_trans hz_151 hz_160
  have RD_165 := Lib.hid (kSubS_ok.rbelow RD_145.out (Below.mono (hb_159) (by first | omega | (simp; done) | (simp; omega)))); clear RD_145
  have hz_166 : w_12.heap.size ≤ w_13.heap.size := Nat.le_trans hz_156 hz_160
  have OW_167 := Lib.hid (kSubS_ok.oframe OW_152.out (w' := w_13) fun b hm => (hb_159).block b (kSubS_ok.olt OW_152.out b hm)); clear OW_152
  have hz_168 : w_3.heap.size ≤ w_13.heap.size := Nat.le_trans hz_153 hz_160
  have OW_169 := Lib.hid (kTrieNodeS_ok.oframe OW_154.out (w' := w_13) fun b hm => (hb_159).block b (kTrieNodeS_ok.olt OW_154.out b hm)); clear OW_154
  have hz_170 : w_4.heap.size ≤ w_13.heap.size := Nat.le_trans hz_155 hz_160
  clear hb_159
  have hz_171 : w_13.heap.size ≤ w_13.heap.size := Nat.le_refl _
  go_wp2_with fail
  refine (eq_TrieNodeS (w := w_13) (kTrieNodeS_ok.rmono RD_158.out (by first | omega | (simp; done) | (simp; omega))) (kTrieNodeS_ok.rmono RD_163.out (by first | omega | (simp; done) | (simp; omega)))).mono ?_
  rintro e w_14 ⟨rfl, hb⟩
  have hb_172 := hb; clear hb
  have hz_173 : w_13.heap.size ≤ w_14.heap.size := by have := (hb_172).size; first | omega | (simp at this; omega)
  have HB_174 := Lib.hid (rstep HB_161.out hb_172)
  have hz_175 : w.heap.size + 0 ≤ w_14.heap.size := Nat.le_trans hz_162 hz_173
  have RD_176 := Lib.hid (kTrieNodeS_ok.rbelow RD_163.out (Below.mono (hb_172) (by first | omega | (simp; done) | (simp; omega)))); clear RD_163
  have hz_177 : w_2.heap.size ≤ w_14.heap.size := Nat.le_trans hz_164 hz_173
  have RD_178 := Lib.hid (kTrieNodeS_ok.rbelow RD_158.out (Below.mono (hb_172) (by first | omega | (simp; done) | (simp; omega)))); clear RD_158
  have hz_179 : w_13.heap.size ≤ w_14.heap.size := Nat.le_trans hz_171 hz_173
  have OW_180 := Lib.hid (kSubS_ok.oframe OW_167.out (w' := w_14) fun b hm => (hb_172).block b (kSubS_ok.olt OW_167.out b hm)); clear OW_167
  have hz_181 : w_3.heap.size ≤ w_14.heap.size := Nat.le_trans hz_168 hz_173
  have OW_182 := Lib.hid (kTrieNodeS_ok.oframe OW_169.out (w' := w_14) fun b hm => (hb_172).block b (kTrieNodeS_ok.olt OW_169.out b hm)); clear OW_169
  have hz_183 : w_4.heap.size ≤ w_14.heap.size := Nat.le_trans hz_170 hz_173
  clear hb_172
  have hm_184 := held_TrieNodeS (w := w_14) (xs := r0) 1 (kTrieNodeS_ok.ord OW_182.out (fun b hm => by have := HH_39.out b hm; first | omega | (simp; done) | (simp; omega))) (by omega) (by have := HCN.out; omega)
  rw [show ((1 : Nat) : Int) = 1 from rfl, HQ_116.out] at hm_184
  have HM_185 := Lib.hid hm_184; clear hm_184
  go_wp2_with fail
  refine HM_185.out.mono ?_
  rintro e w_15 ⟨rfl, hb⟩
  have hb_186 := hb; clear hb
  have hz_187 : w_14.heap.size ≤ w_15.heap.size := by have := (hb_186).size; first | omega | (simp at this; omega)
  have HB_188 := Lib.hid (rstep HB_174.out hb_186)
  have hz_189 : w.heap.size + 0 ≤ w_15.heap.size := Nat.le_trans hz_175 hz_187
  have RD_190 := Lib.hid (kTrieNodeS_ok.rbelow RD_176.out (Below.mono (hb_186) (by first | omega | (simp; done) | (simp; omega)))); clear RD_176
  have hz_191 : w_2.heap.size ≤ w_15.heap.size := Nat.le_trans hz_177 hz_187
  have RD_192 := Lib.hid (kTrieNodeS_ok.rbelow RD_178.out (Below.mono (hb_186) (by first | omega | (simp; done) | (simp; omega)))); clear RD_178
  have hz_193 : w_13.heap.size ≤ w_15.heap.size := Nat.le_trans hz_179 hz_187
  have OW_194 := Lib.hid (kSubS_ok.oframe OW_180.out (w' := w_15) fun b hm => (hb_186).block b (kSubS_ok.olt OW_180.out b hm)); clear OW_180
  have hz_195 : w_3.heap.size ≤ w_15.heap.size := Nat.le_trans hz_181 hz_187
  have OW_196 := Lib.hid (kTrieNodeS_ok.oframe OW_182.out (w' := w_15) fun b hm => (hb_186).block b (kTrieNodeS_ok.olt OW_182.out b hm)); clear OW_182
  have hz_197 : w_4.heap.size ≤ w_15.heap.size := Nat.le_trans hz_183 hz_187
  clear hb_186
  have hneg_198 : ¬ ((q_114 : Int) < 0) := by omega
  go_wp2_with fail
  go_ret
  exact ⟨rfl, (HB_188.out)⟩

end Go.Proofs.YteknmjebokimjaaDoor.fnExactBuildTrieCard
