/- The walk of FnVarint: whatever the arguments, the call returns true and writes nothing that was there. -/
import Derived.Test.YtlmgckijbamgpaaArgs
import Derived.Deep.RegionHeld3
import Derived.Test.YtlmgckijbamgpaaVarLaw
namespace Go.Proofs.Ytlmgckijbamgpaa.fnVarint
open Go.ChangeShapes Go.WideShapes Go.ChangeAt Go.RowKit
open Go.ChangeMaps (open_string shut_string)
set_option linter.unusedVariables false


set_option maxHeartbeats 1000000 in
set_option maxRecDepth 100000 in
theorem walk (w : World) (v0 : Value) (a0 : List UInt8) (w0 : IsBytes w v0 a0) (v1 : Value) (a1 : List UInt8) (w1 : IsBytes w v1 a1) :
    Calls Try.prog 4 #[v0, v1] w fun e w' => e = .returned (.bool true) ∧ Below w.heap.size w w' := by
  obtain ⟨ca, cc, rfl, hr0, hl0, hm0⟩ := w0
  obtain ⟨ma, mc, rfl, hr1, hl1, hm1⟩ := w1
  unfold maxLen at hm0 hm1
  have HR0 := Lib.hid hr0; have HR1 := Lib.hid hr1
  clear hr0 hr1
  by_cases hsum : (1048576 : Int) < wrap64 ((a0.length : Int) + (a1.length : Int))
  case pos =>
    go_enter Try.func4, Try.ntmps4
    go_wp2_with fail
    go_ret
    exact ⟨rfl, Below.refl _ _⟩
  go_enter Try.func4, Try.ntmps4
  go_wp2_with fail
  refine (draw_VarintOf w ca cc a0 hl0 hm0 HR0.out.rb).mono ?_
  rintro e w1 ⟨n, rfl, hn1, hn2, hb⟩
  have HB1 := Lib.hid hb; clear hb hsum
  have HIV := Lib.hid (impl_VarintOf n w1)
  have HSV := Lib.hid (fun wx => spec_VarintOf n wx)
  cases g : inR n 0 2000000001 with
  | false =>
    have hR : R_Varint n = (⟨#[]⟩, false) := by unfold R_Varint; rw [g]; rfl
    rw [hR] at HIV HSV
    clear g hR
    go_wp2_with fail
    refine HIV.out.mono ?_
    rintro e w2 ⟨rfl, hb⟩
    have HB2 := Lib.hid (rstep HB1.out hb); clear hb
    go_wp2_with fail
    refine (HSV.out _).mono ?_
    rintro e w3 ⟨rfl, hb⟩
    have HB3 := Lib.hid (rstep HB2.out hb); clear hb
    go_wp2_with fail
    refine (draw_FoldNumber w3 ma mc a1 hl1 hm1 (HR1.out.below HB3.out).rb).mono ?_
    rintro e wb1 ⟨f, rfl, hf, hb⟩
    have HD1 := Lib.hid (rstep HB3.out hb); clear hb
    have HIF := Lib.hid (impl_FoldNumber f wb1)
    have HSF := Lib.hid (spec_FoldNumber f wb1)
    cases g : inR f (-1000000000) 1000000000 with
    | false =>
      rw [show R_Fold f = (0, false) by unfold R_Fold; rw [g]; rfl] at HIF HSF
      clear g
      go_wp2_with fail
      refine HIF.out.mono ?_
      rintro e w' ⟨rfl, rfl⟩
      go_wp2_with fail
      refine HSF.out.mono ?_
      rintro e w' ⟨rfl, rfl⟩
      go_wp2_with fail
      refine (draw_UnfoldNumber wb1 ma mc a1 hl1 hm1 (HR1.out.below HD1.out).rb).mono ?_
      rintro e wc1 ⟨u, rfl, hu1, hu2, hb⟩
      have HC1 := Lib.hid (rstep HD1.out hb); clear hb
      have HIU := Lib.hid (impl_UnfoldNumber u wc1)
      have HSU := Lib.hid (spec_UnfoldNumber u wc1)
      generalize (R_Unfold u).1 = un at *
      generalize (R_Unfold u).2 = uo at *
      go_wp2_with fail
      refine HIU.out.mono ?_
      rintro e w' ⟨rfl, rfl⟩
      go_wp2_with fail
      refine HSU.out.mono ?_
      rintro e w' ⟨rfl, rfl⟩
      go_wp2_with fail
      refine (draw_TakeVarint wc1 ma mc a1 hl1 hm1 (HR1.out.below HC1.out).rb).mono ?_
      rintro e wc2 ⟨t, k, rfl, ht, hk1, hk2, hb⟩
      have HC2 := Lib.hid (rstep HC1.out hb); clear hb
      have HIT := Lib.hid (impl_TakeVarint t k wc2 (by omega) (by omega) (by omega))
      have HST := Lib.hid (spec_TakeVarint t k wc2 (by omega) (by omega) (by omega))
      generalize (R_Take t k).1 = tn at *
      generalize (R_Take t k).2.1 = te at *
      generalize (R_Take t k).2.2 = tk at *
      go_wp2_with fail
      refine HIT.out.mono ?_
      rintro e w' ⟨rfl, rfl⟩
      go_wp2_with fail
      refine HST.out.mono ?_
      rintro e w' ⟨rfl, rfl⟩
      go_wp2_with fail
      go_ret
      exact ⟨by simp, HC2.out⟩
    | true =>
      rw [show R_Fold f = (foldI f, true) by unfold R_Fold; rw [g]; rfl] at HIF HSF
      have hr := inR_iff.1 g
      have hb := fold_bd f hr.1 hr.2
      have HUU := Lib.hid (impl_UnfoldNumber (foldI f) wb1)
      rw [R_Unfold_back g] at HUU
      have hb0 : ¬ foldI f < 0 := by omega
      generalize foldI f = x at *
      clear g hr hb
      go_wp2_with fail
      refine HIF.out.mono ?_
      rintro e w' ⟨rfl, rfl⟩
      go_wp2_with fail
      refine HSF.out.mono ?_
      rintro e w' ⟨rfl, rfl⟩
      go_wp2_with fail
      refine HUU.out.mono ?_
      rintro e w' ⟨rfl, rfl⟩
      go_wp2_with fail
      refine (draw_UnfoldNumber wb1 ma mc a1 hl1 hm1 (HR1.out.below HD1.out).rb).mono ?_
      rintro e wc1 ⟨u, rfl, hu1, hu2, hb⟩
      have HC1 := Lib.hid (rstep HD1.out hb); clear hb
      have HIU := Lib.hid (impl_UnfoldNumber u wc1)
      have HSU := Lib.hid (spec_UnfoldNumber u wc1)
      generalize (R_Unfold u).1 = un at *
      generalize (R_Unfold u).2 = uo at *
      go_wp2_with fail
      refine HIU.out.mono ?_
      rintro e w' ⟨rfl, rfl⟩
      go_wp2_with fail
      refine HSU.out.mono ?_
      rintro e w' ⟨rfl, rfl⟩
      go_wp2_with fail
      refine (draw_TakeVarint wc1 ma mc a1 hl1 hm1 (HR1.out.below HC1.out).rb).mono ?_
      rintro e wc2 ⟨t, k, rfl, ht, hk1, hk2, hb⟩
      have HC2 := Lib.hid (rstep HC1.out hb); clear hb
      have HIT := Lib.hid (impl_TakeVarint t k wc2 (by omega) (by omega) (by omega))
      have HST := Lib.hid (spec_TakeVarint t k wc2 (by omega) (by omega) (by omega))
      generalize (R_Take t k).1 = tn at *
      generalize (R_Take t k).2.1 = te at *
      generalize (R_Take t k).2.2 = tk at *
      go_wp2_with fail
      refine HIT.out.mono ?_
      rintro e w' ⟨rfl, rfl⟩
      go_wp2_with fail
      refine HST.out.mono ?_
      rintro e w' ⟨rfl, rfl⟩
      go_wp2_with fail
      go_ret
      exact ⟨by simp, HC2.out⟩
  | true =>
    have hr := inR_iff.1 g
    obtain ⟨k, rfl⟩ : ∃ k : Nat, n = (k : Int) := ⟨n.toNat, by omega⟩
    have hR : R_Varint (k : Int) = (⟨(vb k).toArray⟩, true) := by unfold R_Varint; rw [g, if_pos rfl]; rfl
    rw [hR] at HIV HSV
    have hk : k ≤ 2000000001 := by omega
    have h5 := vb_five hk
    have hsz : (⟨(vb k).toArray⟩ : ByteArray).size = (vb k).length := rfl
    have hsx : ((⟨(vb k).toArray⟩ : ByteArray) ++ { data := #[120] }).size = (vb k).length + 1 := by rw [ByteArray.size_append, hsz]; rfl
    have HTK := Lib.hid (fun wx => impl_TakeVarint ((⟨(vb k).toArray⟩ : ByteArray) ++ { data := #[120] }) 0 wx (by omega) (by decide) (by decide))
    rw [R_Take_back hk] at HTK
    clear g hR hr hsx
    generalize vb k = vk at *
    go_wp2_with fail
    refine HIV.out.mono ?_
    rintro e w2 ⟨rfl, hb⟩
    have HB2 := Lib.hid (rstep HB1.out hb); clear hb
    go_wp2_with fail
    refine (HSV.out _).mono ?_
    rintro e w3 ⟨rfl, hb⟩
    have HB3 := Lib.hid (rstep HB2.out hb); clear hb
    have h5i : ¬ (vk.length : Int) > 5 := by omega
    go_wp2_with fail
    refine (HTK.out _).mono ?_
    rintro e w' ⟨rfl, rfl⟩
    go_wp2_with fail
    refine (draw_FoldNumber w3 ma mc a1 hl1 hm1 (HR1.out.below HB3.out).rb).mono ?_
    rintro e wb1 ⟨f, rfl, hf, hb⟩
    have HD1 := Lib.hid (rstep HB3.out hb); clear hb
    have HIF := Lib.hid (impl_FoldNumber f wb1)
    have HSF := Lib.hid (spec_FoldNumber f wb1)
    cases g : inR f (-1000000000) 1000000000 with
    | false =>
      rw [show R_Fold f = (0, false) by unfold R_Fold; rw [g]; rfl] at HIF HSF
      clear g
      go_wp2_with fail
      refine HIF.out.mono ?_
      rintro e w' ⟨rfl, rfl⟩
      go_wp2_with fail
      refine HSF.out.mono ?_
      rintro e w' ⟨rfl, rfl⟩
      go_wp2_with fail
      refine (draw_UnfoldNumber wb1 ma mc a1 hl1 hm1 (HR1.out.below HD1.out).rb).mono ?_
      rintro e wc1 ⟨u, rfl, hu1, hu2, hb⟩
      have HC1 := Lib.hid (rstep HD1.out hb); clear hb
      have HIU := Lib.hid (impl_UnfoldNumber u wc1)
      have HSU := Lib.hid (spec_UnfoldNumber u wc1)
      generalize (R_Unfold u).1 = un at *
      generalize (R_Unfold u).2 = uo at *
      go_wp2_with fail
      refine HIU.out.mono ?_
      rintro e w' ⟨rfl, rfl⟩
      go_wp2_with fail
      refine HSU.out.mono ?_
      rintro e w' ⟨rfl, rfl⟩
      go_wp2_with fail
      refine (draw_TakeVarint wc1 ma mc a1 hl1 hm1 (HR1.out.below HC1.out).rb).mono ?_
      rintro e wc2 ⟨t, k, rfl, ht, hk1, hk2, hb⟩
      have HC2 := Lib.hid (rstep HC1.out hb); clear hb
      have HIT := Lib.hid (impl_TakeVarint t k wc2 (by omega) (by omega) (by omega))
      have HST := Lib.hid (spec_TakeVarint t k wc2 (by omega) (by omega) (by omega))
      generalize (R_Take t k).1 = tn at *
      generalize (R_Take t k).2.1 = te at *
      generalize (R_Take t k).2.2 = tk at *
      go_wp2_with fail
      refine HIT.out.mono ?_
      rintro e w' ⟨rfl, rfl⟩
      go_wp2_with fail
      refine HST.out.mono ?_
      rintro e w' ⟨rfl, rfl⟩
      go_wp2_with fail
      go_ret
      exact ⟨by simp, HC2.out⟩
    | true =>
      rw [show R_Fold f = (foldI f, true) by unfold R_Fold; rw [g]; rfl] at HIF HSF
      have hr := inR_iff.1 g
      have hb := fold_bd f hr.1 hr.2
      have HUU := Lib.hid (impl_UnfoldNumber (foldI f) wb1)
      rw [R_Unfold_back g] at HUU
      have hb0 : ¬ foldI f < 0 := by omega
      generalize foldI f = x at *
      clear g hr hb
      go_wp2_with fail
      refine HIF.out.mono ?_
      rintro e w' ⟨rfl, rfl⟩
      go_wp2_with fail
      refine HSF.out.mono ?_
      rintro e w' ⟨rfl, rfl⟩
      go_wp2_with fail
      refine HUU.out.mono ?_
      rintro e w' ⟨rfl, rfl⟩
      go_wp2_with fail
      refine (draw_UnfoldNumber wb1 ma mc a1 hl1 hm1 (HR1.out.below HD1.out).rb).mono ?_
      rintro e wc1 ⟨u, rfl, hu1, hu2, hb⟩
      have HC1 := Lib.hid (rstep HD1.out hb); clear hb
      have HIU := Lib.hid (impl_UnfoldNumber u wc1)
      have HSU := Lib.hid (spec_UnfoldNumber u wc1)
      generalize (R_Unfold u).1 = un at *
      generalize (R_Unfold u).2 = uo at *
      go_wp2_with fail
      refine HIU.out.mono ?_
      rintro e w' ⟨rfl, rfl⟩
      go_wp2_with fail
      refine HSU.out.mono ?_
      rintro e w' ⟨rfl, rfl⟩
      go_wp2_with fail
      refine (draw_TakeVarint wc1 ma mc a1 hl1 hm1 (HR1.out.below HC1.out).rb).mono ?_
      rintro e wc2 ⟨t, k, rfl, ht, hk1, hk2, hb⟩
      have HC2 := Lib.hid (rstep HC1.out hb); clear hb
      have HIT := Lib.hid (impl_TakeVarint t k wc2 (by omega) (by omega) (by omega))
      have HST := Lib.hid (spec_TakeVarint t k wc2 (by omega) (by omega) (by omega))
      generalize (R_Take t k).1 = tn at *
      generalize (R_Take t k).2.1 = te at *
      generalize (R_Take t k).2.2 = tk at *
      go_wp2_with fail
      refine HIT.out.mono ?_
      rintro e w' ⟨rfl, rfl⟩
      go_wp2_with fail
      refine HST.out.mono ?_
      rintro e w' ⟨rfl, rfl⟩
      go_wp2_with fail
      go_ret
      exact ⟨by simp, HC2.out⟩

end Go.Proofs.Ytlmgckijbamgpaa.fnVarint
