/- The walk of FnExactVolumeOf: whatever the arguments, the call returns true and writes nothing that was there. -/
import Derived.Deep.RegionHeld3
import Derived.Test.YthlajmncpejhmaaVol9
import Derived.Test.YthlajmncpejhmaaHBoxS
namespace Go.Proofs.Ythlajmncpejhmaa.fnExactVolumeOf
open Go.ChangeShapes Go.WideShapes Go.ChangeAt Go.RowKit
open Go.ChangeMaps (open_string shut_string)
set_option linter.unusedVariables false

set_option maxHeartbeats 1000000 in
set_option maxRecDepth 100000 in
theorem walk (w : World) (v0 : Value) (a0 : (List (List (Int × Int)))) (w0 : IsK kBoxS one w v0 a0) :
    Calls Try.prog 7 #[v0] w fun e w' => e = .returned (.bool true) ∧ Below w.heap.size w w' := by
  obtain ⟨cs0, rfl, hr0⟩ := w0
  obtain ⟨ea0, ecap0, rfl⟩ := kSl_form hr0
  show Calls Try.prog 7 #[.slice ea0 a0.length ecap0] w _
  have hn0 := (sl_len hr0).2
  have HR0 := Lib.hid hr0; clear hr0
  have HZ0 := Lib.hid (fun (lx : Int) (wx : World) (hb : Below w.heap.size w wx) (g0 : 0 ≤ lx) (g1 : lx ≤ 1048576) => sz_BoxS lx (kBoxS_ok.later HR0.out hb) g0 g1)
  have HB0 : Hid (Below w.heap.size w w) := Lib.hid (Below.refl _ _)
  by_cases gz0 : (kBoxS.wt a0 : Int) ≤ 1048576
  case neg =>
    have GZ0 : szR (1048576) (kBoxS.wt a0) = -1 := szR_not gz0
    go_enter Try.func7, Try.ntmps7
    go_wp2_with fail
    refine (HZ0.out (1048576) _ (HB0.out) (by omega) (by omega)).mono ?_
    rw [GZ0]
    rintro e v1 ⟨rfl, hb⟩
    have HV1 := Lib.hid (rstep HB0.out hb); clear hb
    go_wp2_with fail
    go_ret
    exact ⟨rfl, (HV1.out)⟩
  have GZ0 : szR (1048576) (kBoxS.wt a0) = 1048576 - (kBoxS.wt a0 : Int) := szR_fit gz0
  have HT : Hid (kBoxS.wt a0 ≤ 1048576) := Lib.hid (by omega)
  skip
  have HS := Lib.hid (fun (wx : World) (cx0 : List Value) (h0 : kBoxS.rd wx.heap.size wx (cx0) a0) => spec_VolumeOf wx cx0 a0 h0 HT.out)
  have HI := Lib.hid (fun (wx : World) (cx0 : List Value) (h0 : kBoxS.rd wx.heap.size wx (cx0) a0) => impl_VolumeOf wx cx0 a0 h0 HT.out)
  have HTO0 := Lib.hid (fun (wx : World) (hb : Below w.heap.size w wx) => to_BoxS (kBoxS_ok.later HR0.out hb) (by have := HT.out; omega))
  generalize hR : R_VolumeOf a0 = R at *
  clear hR
  obtain ⟨r0, r1⟩ := R
  go_enter Try.func7, Try.ntmps7
  go_wp2_with fail
  refine (HZ0.out (1048576) _ (HB0.out) (by omega) (by omega)).mono ?_
  rw [GZ0]
  rintro e v1 ⟨rfl, hb⟩
  have HV1 := Lib.hid (rstep HB0.out hb); clear hb
  go_wp2_with fail
  have hz_1 : w.heap.size + 0 ≤ v1.heap.size := by have := (HV1.out).size; first | omega | (simp at this; omega)
  go_wp2_with fail
  refine (HTO0.out _ (HV1.out)).mono ?_
  rintro e w_1 ⟨cs_2, fp_2, he, ho, hnd, hge, hb⟩
  have hrd := kBoxS_ok.ord ho (B := w_1.heap.size) (kBoxS_ok.olt ho)
  obtain ⟨ea_2, ecap_2, rfl⟩ := kSl_form hrd
  change e = .returned (.slice ea_2 a0.length ecap_2) at he
  subst he
  have hrd2 := kBoxS_ok.ord ho (B := w_1.heap.size) (kBoxS_ok.olt ho)
  have OW_3 := Lib.hid ho; have HN_6 := Lib.hid hnd
  have HL_4 : Hid (∀ b ∈ fp_2, v1.heap.size ≤ b) := Lib.hid fun b hm => by have := hge b hm; first | omega | (simp at this; omega)
  have HH_5 : Hid (∀ b ∈ fp_2, b < w_1.heap.size) := Lib.hid (kBoxS_ok.olt ho)
  have RD_7 := Lib.hid hrd2; clear ho hnd hge hrd2 hrd
  have hb_8 := hb; clear hb
  have hz_9 : v1.heap.size ≤ w_1.heap.size := by have := (hb_8).size; first | omega | (simp at this; omega)
  have HB_10 := Lib.hid (rstep HV1.out hb_8)
  have hz_11 : w.heap.size + 0 ≤ w_1.heap.size := Nat.le_trans hz_1 hz_9
  have HQ := Lib.hid hb_8; clear hb_8 HQ
  have hz_12 : w_1.heap.size ≤ w_1.heap.size := Nat.le_refl _
  go_wp2_with fail
  refine (HS.out _ [.slice ea_2 a0.length ecap_2] (kBoxS_ok.rmono RD_7.out (by first | omega | (simp; done) | (simp; omega)))).mono ?_
  rintro e w_2 ⟨rfl, hb⟩
  have hb_14 := hb; clear hb
  have hz_15 : w_1.heap.size ≤ w_2.heap.size := by have := (hb_14).size; first | omega | (simp at this; omega)
  have HB_16 := Lib.hid (rstep HB_10.out hb_14)
  have hz_17 : w.heap.size + 0 ≤ w_2.heap.size := Nat.le_trans hz_11 hz_15
  have RD_18 := Lib.hid (kBoxS_ok.rbelow RD_7.out (Below.mono (hb_14) (by first | omega | (simp; done) | (simp; omega)))); clear RD_7
  have hz_19 : w_1.heap.size ≤ w_2.heap.size := Nat.le_trans hz_12 hz_15
  clear hb_14
  go_wp2_with fail
  refine (HTO0.out _ (HB_16.out)).mono ?_
  rintro e w_3 ⟨cs_20, fp_20, he, ho, hnd, hge, hb⟩
  have hrd := kBoxS_ok.ord ho (B := w_3.heap.size) (kBoxS_ok.olt ho)
  obtain ⟨ea_20, ecap_20, rfl⟩ := kSl_form hrd
  change e = .returned (.slice ea_20 a0.length ecap_20) at he
  subst he
  have hrd2 := kBoxS_ok.ord ho (B := w_3.heap.size) (kBoxS_ok.olt ho)
  have OW_21 := Lib.hid ho; have HN_24 := Lib.hid hnd
  have HL_22 : Hid (∀ b ∈ fp_20, w_2.heap.size ≤ b) := Lib.hid fun b hm => by have := hge b hm; first | omega | (simp at this; omega)
  have HH_23 : Hid (∀ b ∈ fp_20, b < w_3.heap.size) := Lib.hid (kBoxS_ok.olt ho)
  have RD_25 := Lib.hid hrd2; clear ho hnd hge hrd2 hrd
  have hb_26 := hb; clear hb
  have hz_27 : w_2.heap.size ≤ w_3.heap.size := by have := (hb_26).size; first | omega | (simp at this; omega)
  have HB_28 := Lib.hid (rstep HB_16.out hb_26)
  have hz_29 : w.heap.size + 0 ≤ w_3.heap.size := Nat.le_trans hz_17 hz_27
  have HQ := Lib.hid hb_26; clear hb_26 HQ
  have hz_30 : w_3.heap.size ≤ w_3.heap.size := Nat.le_refl _
  go_wp2_with fail
  refine (HI.out _ [.slice ea_20 a0.length ecap_20] (kBoxS_ok.ord OW_21.out (fun b hm => by have := HH_23.out b hm; first | omega | (simp; done) | (simp; omega)))).mono ?_
  rintro e w_4 ⟨rfl, hb⟩
  have hb_32 := hb; clear hb
  have hz_33 : w_3.heap.size ≤ w_4.heap.size := by have := (hb_32).size; first | omega | (simp at this; omega)
  have HB_34 := Lib.hid (rstep HB_28.out hb_32)
  have hz_35 : w.heap.size + 0 ≤ w_4.heap.size := Nat.le_trans hz_29 hz_33
  have OW_36 := Lib.hid (kBoxS_ok.oframe OW_21.out (w' := w_4) fun b hm => (hb_32).block b (kBoxS_ok.olt OW_21.out b hm)); clear OW_21
  have hz_37 : w_3.heap.size ≤ w_4.heap.size := Nat.le_trans hz_30 hz_33
  clear hb_32
  go_wp2_with fail
  refine (HTO0.out _ (HB_34.out)).mono ?_
  rintro e w_5 ⟨cs_38, fp_38, he, ho, hnd, hge, hb⟩
  have hrd := kBoxS_ok.ord ho (B := w_5.heap.size) (kBoxS_ok.olt ho)
  obtain ⟨ea_38, ecap_38, rfl⟩ := kSl_form hrd
  change e = .returned (.slice ea_38 a0.length ecap_38) at he
  subst he
  have hrd2 := kBoxS_ok.ord ho (B := w_5.heap.size) (kBoxS_ok.olt ho)
  have OW_39 := Lib.hid ho; have HN_42 := Lib.hid hnd
  have HL_40 : Hid (∀ b ∈ fp_38, w_4.heap.size ≤ b) := Lib.hid fun b hm => by have := hge b hm; first | omega | (simp at this; omega)
  have HH_41 : Hid (∀ b ∈ fp_38, b < w_5.heap.size) := Lib.hid (kBoxS_ok.olt ho)
  have RD_43 := Lib.hid hrd2; clear ho hnd hge hrd2 hrd
  have hb_44 := hb; clear hb
  have hz_45 : w_4.heap.size ≤ w_5.heap.size := by have := (hb_44).size; first | omega | (simp at this; omega)
  have HB_46 := Lib.hid (rstep HB_34.out hb_44)
  have hz_47 : w.heap.size + 0 ≤ w_5.heap.size := Nat.le_trans hz_35 hz_45
  have OW_48 := Lib.hid (kBoxS_ok.oframe OW_36.out (w' := w_5) fun b hm => (hb_44).block b (kBoxS_ok.olt OW_36.out b hm)); clear OW_36
  have hz_49 : w_3.heap.size ≤ w_5.heap.size := Nat.le_trans hz_37 hz_45
  have HQ := Lib.hid hb_44; clear hb_44 HQ
  have hz_50 : w_5.heap.size ≤ w_5.heap.size := Nat.le_refl _
  go_wp2_with fail
  refine (eq_BoxS (w := w_5) (kBoxS_ok.ord OW_48.out (fun b hm => by have := HH_23.out b hm; first | omega | (simp; done) | (simp; omega))) (kBoxS_ok.rmono RD_43.out (by first | omega | (simp; done) | (simp; omega)))).mono ?_
  rintro e w_6 ⟨rfl, hb⟩
  have hb_51 := hb; clear hb
  have hz_52 : w_5.heap.size ≤ w_6.heap.size := by have := (hb_51).size; first | omega | (simp at this; omega)
  have HB_53 := Lib.hid (rstep HB_46.out hb_51)
  have hz_54 : w.heap.size + 0 ≤ w_6.heap.size := Nat.le_trans hz_47 hz_52
  have RD_55 := Lib.hid (kBoxS_ok.rbelow RD_43.out (Below.mono (hb_51) (by first | omega | (simp; done) | (simp; omega)))); clear RD_43
  have hz_56 : w_5.heap.size ≤ w_6.heap.size := Nat.le_trans hz_50 hz_52
  have OW_57 := Lib.hid (kBoxS_ok.oframe OW_48.out (w' := w_6) fun b hm => (hb_51).block b (kBoxS_ok.olt OW_48.out b hm)); clear OW_48
  have hz_58 : w_3.heap.size ≤ w_6.heap.size := Nat.le_trans hz_49 hz_52
  clear hb_51
  go_wp2_with fail
  go_ret
  exact ⟨rfl, (HB_53.out)⟩

end Go.Proofs.Ythlajmncpejhmaa.fnExactVolumeOf
