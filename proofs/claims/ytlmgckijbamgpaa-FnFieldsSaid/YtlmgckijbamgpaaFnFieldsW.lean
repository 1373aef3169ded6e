/- The walk of FnFields: whatever the arguments, the call returns true and writes nothing that was there. -/
import Derived.Test.YtlmgckijbamgpaaArgs
import Derived.Deep.RegionHeld3
import Derived.Test.YtlmgckijbamgpaaFldR
namespace Go.Proofs.Ytlmgckijbamgpaa.fnFields
open Go.ChangeShapes Go.WideShapes Go.ChangeAt Go.RowKit
open Go.ChangeMaps (open_string shut_string)
set_option linter.unusedVariables false
set_option linter.unusedSimpArgs false


set_option maxHeartbeats 12000000 in
set_option maxRecDepth 100000 in
theorem walk (w : World) (v0 : Value) (a0 : List UInt8) (w0 : IsBytes w v0 a0) (v1 : Value) (a1 : List UInt8) (w1 : IsBytes w v1 a1) :
    Calls Try.prog 5 #[v0, v1] w fun e w' => e = .returned (.bool true) ∧ Below w.heap.size w w' := by
  obtain ⟨ca, cc, rfl, hr0, hl0, hm0⟩ := w0
  obtain ⟨ma, mc, rfl, hr1, hl1, hm1⟩ := w1
  unfold maxLen at hm0 hm1
  have HR0 := Lib.hid hr0; have HR1 := Lib.hid hr1
  clear hr0 hr1
  by_cases hsum : (1048576 : Int) < wrap64 ((a0.length : Int) + (a1.length : Int))
  case pos =>
    go_enter Try.func5, Try.ntmps5
    go_wp2_with fail
    go_ret
    exact ⟨rfl, Below.refl _ _⟩
  go_enter Try.func5, Try.ntmps5
  go_wp2_with fail
  refine (draw_FieldsBytes w ca cc a0 hl0 hm0 HR0.out.rb).mono ?_
  rintro e w1 ⟨v, l, rfl, hol, hl41, hdb, hb⟩
  have HB1 := Lib.hid hb; clear hb hsum
  obtain ⟨la, lc, rfl⟩ := form_of_own hol
  have HL1 := Lib.hid hol
  have HIF := Lib.hid (impl_FieldsBytes la lc l w1 (own_rw hol) (by omega) (fun f hf => Nat.le_trans (hdb f hf).2.2.2 (by decide)))
  have HSF := Lib.hid (fun wx (h : Rw wx la (fdsV l)) => spec_FieldsBytes la lc l wx h (by omega))
  have HIS := Lib.hid (fun wx (h : wx.ownsRow w.heap.size 57 4 (.slice la l.length lc) l.length (fdsV l)) => impl_SortFields la lc l wx ⟨_, h⟩ (by omega))
  have HSS := Lib.hid (fun wx (h : Rw wx la (fdsV l)) => spec_SortFields la lc l wx h (by omega))
  have hs41 := srtO_len hl41
  obtain ⟨n, hn⟩ : ∃ n, l.length = n := ⟨_, rfl⟩
  clear hol hdb
  cases g : R_FieldsBytes l with
  | mk s ok =>
  rw [g] at HIF HSF
  cases ok with
  | false =>
    clear g
    unfold SrtO at HIS HSS
    generalize (R_Sort l).1 = sl at *
    generalize (R_Sort l).2 = so at *
    rw [hn] at HL1 HIF HSF HIS HSS
    obtain ⟨m, hm⟩ : ∃ m, sl.length = m := ⟨_, rfl⟩
    have HMM := Lib.hid hm
    rw [hm] at HIS HSS
    go_wp2_with fail
    refine HIF.out.mono ?_
    rintro e w2 ⟨rfl, hb⟩
    have HB2 := Lib.hid (rstep HB1.out hb); have HL2 := Lib.hid (own_later HL1.out hb); clear hb
    go_wp2_with fail
    refine (HSF.out _ (own_rw HL2.out)).mono ?_
    rintro e w3 ⟨rfl, hb⟩
    have HB3 := Lib.hid (rstep HB2.out hb); have HL3 := Lib.hid (own_later HL2.out hb); clear hb
    go_wp2_with fail
    refine (HIS.out _ HL3.out).mono ?_
    rintro e w4 ⟨t, rfl, hot, hb⟩
    have HB4 := Lib.hid (rstep HB3.out hb); have HL4 := Lib.hid (own_later HL3.out hb); clear hb
    obtain ⟨ta, tc, rfl⟩ := form_of_own hot
    have HT4 := Lib.hid hot; clear hot
    go_wp2_with fail
    refine (HSS.out _ (own_rw HL4.out)).mono ?_
    rintro e w5 ⟨u, rfl, hou, hb⟩
    have HB5 := Lib.hid (rstep HB4.out hb); have HT5 := Lib.hid (own_later HT4.out hb); clear hb
    obtain ⟨ua, uc, rfl⟩ := form_of_own hou
    have HU5 := Lib.hid hou; clear hou
    have HSM := Lib.hid (same_flds ta ua tc uc sl w5 (own_rw HT5.out) (own_rw HU5.out) (by omega))
    rw [hm] at HSM
    clear hm hn
    cases so with
    | false =>
      go_wp2_with fail
      refine HSM.out.mono ?_
      rintro e w6 ⟨rfl, hd⟩
      have HB6 := Lib.hid (rstep HB5.out (hd.below _)); clear hd
      go_wp2_with fail
      refine (draw_ReadFields w6 ma mc a1 hl1 hm1 (HR1.out.below HB6.out).rb).mono ?_
      rintro e wb1 ⟨b, rfl, hbs, hb⟩
      have HD1 := Lib.hid (rstep HB6.out hb); clear hb
      have HIR := Lib.hid (impl_ReadFields b wb1 (by omega))
      have HSR := Lib.hid (fun wx => spec_ReadFields b wx (by omega))
      cases g : R_Read b with
      | none =>
        rw [g] at HIR HSR
        have HE0 := Lib.hid (fun xa xc wx => impl_FieldsBytes xa xc [] wx (.inl rfl) (by decide) (by simp))
        generalize hq : R_FieldsBytes [] = q at HE0
        clear g hq
        unfold ReadO at HIR HSR
        go_wp2_with fail
        refine HIR.out.mono ?_
        rintro e wb2 ⟨x, rfl, hox, hb⟩
        have HD2 := Lib.hid (rstep HD1.out hb); clear hb
        obtain ⟨xa, xc, rfl⟩ := form_of_own hox
        have HX := Lib.hid hox
        clear hox
        go_wp2_with fail
        refine (HSR.out _).mono ?_
        rintro e wb3 ⟨y, rfl, hoy, hb⟩
        have HD3 := Lib.hid (rstep HD2.out hb); clear hb
        obtain ⟨ya, yc, rfl⟩ := form_of_own hoy
        clear hoy
        go_wp2_with fail
        refine (same_flds xa ya xc yc [] wb3 (.inl rfl) (.inl rfl) (by decide)).mono ?_
        rintro e wb4 ⟨rfl, hd⟩
        have HD4 := Lib.hid (rstep HD3.out (hd.below _)); clear hd
        go_wp2_with fail
        refine (HE0.out xa xc _).mono ?_
        rintro e wb5 ⟨rfl, hb⟩
        have HD5 := Lib.hid (rstep HD4.out hb); clear hb
        go_wp2_with fail
        go_ret
        exact ⟨rfl, HD5.out⟩
      | some r =>
        rw [g] at HIR HSR
        have hbb := bytes_back g
        have hsm := flds_small hbb
        have HE0 := Lib.hid (fun xa xc wx (h : Rw wx xa (fdsV r)) => impl_FieldsBytes xa xc r wx h (by omega) (fun f hf => Nat.le_trans (hsm.2 f hf) (by decide)))
        rw [hbb] at HE0
        have hr40 := hsm.1
        clear g hbb hsm
        unfold ReadO at HIR HSR
        go_wp2_with fail
        refine HIR.out.mono ?_
        rintro e wb2 ⟨x, rfl, hox, hb⟩
        have HD2 := Lib.hid (rstep HD1.out hb); clear hb
        obtain ⟨xa, xc, rfl⟩ := form_of_own hox
        have HX := Lib.hid hox
        clear hox
        go_wp2_with fail
        refine (HSR.out _).mono ?_
        rintro e wb3 ⟨y, rfl, hoy, hb⟩
        have HX3 := Lib.hid (own_later HX.out hb)
        have HD3 := Lib.hid (rstep HD2.out hb); clear hb
        obtain ⟨ya, yc, rfl⟩ := form_of_own hoy
        have HY := Lib.hid hoy
        clear hoy
        go_wp2_with fail
        refine (same_flds xa ya xc yc r wb3 (own_rw HX3.out) (own_rw HY.out) (by omega)).mono ?_
        rintro e wb4 ⟨rfl, hd⟩
        have HX4 := Lib.hid (own_later HX3.out (hd.below _))
        have HD4 := Lib.hid (rstep HD3.out (hd.below _)); clear hd
        go_wp2_with fail
        refine (HE0.out xa xc wb4 (own_rw HX4.out)).mono ?_
        rintro e wb5 ⟨rfl, hb⟩
        have HD5 := Lib.hid (rstep HD4.out hb); clear hb
        go_wp2_with fail
        go_ret
        exact ⟨rfl, HD5.out⟩
    | true =>
      go_wp2_with fail
      refine HSM.out.mono ?_
      rintro e w6 ⟨rfl, hd⟩
      have HB6 := Lib.hid (rstep HB5.out (hd.below _)); clear hd
      go_wp2_with fail
      refine (draw_ReadFields w6 ma mc a1 hl1 hm1 (HR1.out.below HB6.out).rb).mono ?_
      rintro e wb1 ⟨b, rfl, hbs, hb⟩
      have HD1 := Lib.hid (rstep HB6.out hb); clear hb
      have HIR := Lib.hid (impl_ReadFields b wb1 (by omega))
      have HSR := Lib.hid (fun wx => spec_ReadFields b wx (by omega))
      cases g : R_Read b with
      | none =>
        rw [g] at HIR HSR
        have HE0 := Lib.hid (fun xa xc wx => impl_FieldsBytes xa xc [] wx (.inl rfl) (by decide) (by simp))
        generalize hq : R_FieldsBytes [] = q at HE0
        clear g hq
        unfold ReadO at HIR HSR
        go_wp2_with fail
        refine HIR.out.mono ?_
        rintro e wb2 ⟨x, rfl, hox, hb⟩
        have HD2 := Lib.hid (rstep HD1.out hb); clear hb
        obtain ⟨xa, xc, rfl⟩ := form_of_own hox
        have HX := Lib.hid hox
        clear hox
        go_wp2_with fail
        refine (HSR.out _).mono ?_
        rintro e wb3 ⟨y, rfl, hoy, hb⟩
        have HD3 := Lib.hid (rstep HD2.out hb); clear hb
        obtain ⟨ya, yc, rfl⟩ := form_of_own hoy
        clear hoy
        go_wp2_with fail
        refine (same_flds xa ya xc yc [] wb3 (.inl rfl) (.inl rfl) (by decide)).mono ?_
        rintro e wb4 ⟨rfl, hd⟩
        have HD4 := Lib.hid (rstep HD3.out (hd.below _)); clear hd
        go_wp2_with fail
        refine (HE0.out xa xc _).mono ?_
        rintro e wb5 ⟨rfl, hb⟩
        have HD5 := Lib.hid (rstep HD4.out hb); clear hb
        go_wp2_with fail
        go_ret
        exact ⟨rfl, HD5.out⟩
      | some r =>
        rw [g] at HIR HSR
        have hbb := bytes_back g
        have hsm := flds_small hbb
        have HE0 := Lib.hid (fun xa xc wx (h : Rw wx xa (fdsV r)) => impl_FieldsBytes xa xc r wx h (by omega) (fun f hf => Nat.le_trans (hsm.2 f hf) (by decide)))
        rw [hbb] at HE0
        have hr40 := hsm.1
        clear g hbb hsm
        unfold ReadO at HIR HSR
        go_wp2_with fail
        refine HIR.out.mono ?_
        rintro e wb2 ⟨x, rfl, hox, hb⟩
        have HD2 := Lib.hid (rstep HD1.out hb); clear hb
        obtain ⟨xa, xc, rfl⟩ := form_of_own hox
        have HX := Lib.hid hox
        clear hox
        go_wp2_with fail
        refine (HSR.out _).mono ?_
        rintro e wb3 ⟨y, rfl, hoy, hb⟩
        have HX3 := Lib.hid (own_later HX.out hb)
        have HD3 := Lib.hid (rstep HD2.out hb); clear hb
        obtain ⟨ya, yc, rfl⟩ := form_of_own hoy
        have HY := Lib.hid hoy
        clear hoy
        go_wp2_with fail
        refine (same_flds xa ya xc yc r wb3 (own_rw HX3.out) (own_rw HY.out) (by omega)).mono ?_
        rintro e wb4 ⟨rfl, hd⟩
        have HX4 := Lib.hid (own_later HX3.out (hd.below _))
        have HD4 := Lib.hid (rstep HD3.out (hd.below _)); clear hd
        go_wp2_with fail
        refine (HE0.out xa xc wb4 (own_rw HX4.out)).mono ?_
        rintro e wb5 ⟨rfl, hb⟩
        have HD5 := Lib.hid (rstep HD4.out hb); clear hb
        go_wp2_with fail
        go_ret
        exact ⟨rfl, HD5.out⟩
  | true =>
    obtain ⟨k1, k2, k3, s2, k4, k5⟩ := flds_ok g
    have hsm := flds_small k4
    have HRD := Lib.hid (fun wx => impl_ReadFields s wx (by omega))
    have HFB := Lib.hid (fun xa xc wx (h : Rw wx xa (fdsV (srtF l))) => impl_FieldsBytes xa xc (srtF l) wx h (by omega) (fun f hf => Nat.le_trans (hsm.2 f hf) (by decide)))
    rw [k4] at HFB
    rw [k1] at HRD
    rw [k2] at HIS HSS
    unfold SrtO at HIS HSS
    unfold ReadO at HRD
    simp only [Option.getD_some, Option.isSome_some] at HRD
    simp only at HIS HSS HFB
    have hsl := srtF_len l
    have hk5 : (s2.size : Int) = (s.size : Int) := by omega
    obtain ⟨sl, hsle⟩ : ∃ sl, srtF l = sl := ⟨_, rfl⟩
    have HST : Hid (∀ (j : Nat) (x y : Fld), sl[j]? = some x → sl[j + 1]? = some y → ¬ x.no > y.no) := Lib.hid (by rw [← hsle]; exact fun j x y => srt_step)
    rw [hsle] at HIS HSS HFB hsl
    have HMM := Lib.hid hsl
    rw [hsl] at HIS HSS HFB
    have HNL := Lib.hid hn
    rw [hn] at HL1 HIF HSF HIS HSS HRD HFB
    rw [hn] at hl41
    clear k1 k2 k3 k4 k5 hsm hsle hs41 g hsl
    go_wp2_with fail
    refine HIF.out.mono ?_
    rintro e w2 ⟨rfl, hb⟩
    have HB2 := Lib.hid (rstep HB1.out hb); have HL2 := Lib.hid (own_later HL1.out hb); clear hb
    go_wp2_with fail
    refine (HSF.out _ (own_rw HL2.out)).mono ?_
    rintro e w3 ⟨rfl, hb⟩
    have HB3 := Lib.hid (rstep HB2.out hb); have HL3 := Lib.hid (own_later HL2.out hb); clear hb
    go_wp2_with fail
    refine (HIS.out _ HL3.out).mono ?_
    rintro e w4 ⟨t, rfl, hot, hb⟩
    have HB4 := Lib.hid (rstep HB3.out hb); have HL4 := Lib.hid (own_later HL3.out hb); clear hb
    obtain ⟨ta, tc, rfl⟩ := form_of_own hot
    have HT4 := Lib.hid hot; clear hot
    go_wp2_with fail
    refine (HSS.out _ (own_rw HL4.out)).mono ?_
    rintro e w5 ⟨u, rfl, hou, hb⟩
    have HB5 := Lib.hid (rstep HB4.out hb); have HT5 := Lib.hid (own_later HT4.out hb); have HL5 := Lib.hid (own_later HL4.out hb); clear hb
    obtain ⟨ua, uc, rfl⟩ := form_of_own hou
    have HU5 := Lib.hid hou; clear hou
    have HSM := Lib.hid (same_flds ta ua tc uc sl w5 (own_rw HT5.out) (own_rw HU5.out) (by have := HMM.out; omega))
    rw [HMM.out, hn] at HSM
    have HSB := Lib.hid (fun xa xc wx (h1 : Rw wx xa (fdsV l)) (h2 : Rw wx la (fdsV l)) => same_flds xa la xc lc l wx h1 h2 (by omega))
    rw [hn] at HSB
    clear hn
    go_wp2_with fail
    refine HSM.out.mono ?_
    rintro e w6 ⟨rfl, hd⟩
    have HB6 := Lib.hid (rstep HB5.out (hd.below _)); have HT6 := Lib.hid (own_later HT5.out (hd.below _)); have HL6 := Lib.hid (own_later HL5.out (hd.below _)); clear hd
    go_wp2_with fail
    refine (HRD.out _).mono ?_
    rintro e w7 ⟨k, rfl, hok, hb⟩
    have HB7 := Lib.hid (rstep HB6.out hb); have HT7 := Lib.hid (own_later HT6.out hb); have HL7 := Lib.hid (own_later HL6.out hb); clear hb
    obtain ⟨ka, kc, rfl⟩ := form_of_own hok
    have HK7 := Lib.hid hok; clear hok
    go_wp2_with fail
    refine (HFB.out ta tc _ (own_rw HT7.out)).mono ?_
    rintro e w8 ⟨rfl, hb⟩
    have HB8 := Lib.hid (rstep HB7.out hb); have HT8 := Lib.hid (own_later HT7.out hb); have HL8 := Lib.hid (own_later HL7.out hb); have HK8 := Lib.hid (own_later HK7.out hb); clear hb
    go_wp2_with fail
    refine (HSB.out ka kc _ (own_rw HK8.out) (own_rw HL8.out)).mono ?_
    rintro e w9 ⟨rfl, hd⟩
    have HB9 := Lib.hid (rstep HB8.out (hd.below _)); have HT9 := Lib.hid (own_later HT8.out (hd.below _)); clear hd
    go_wp2_with fail
    go_loopw [109] (fun iv wr => ∃ j : Nat, j ≤ n ∧ iv = .int .i64 (j : Int) ∧ Hid (Below w.heap.size w wr) ∧ Hid (Rw wr ta (fdsV sl))) (fun iv _ => n - (intOf iv).toNat)
    case atStart => exact ⟨0, Nat.zero_le _, rfl, HB9, Lib.hid (own_rw HT9.out)⟩
    case round =>
      obtain ⟨wx, rfl⟩ : ∃ z : World, z = wr := ⟨_, rfl⟩
      obtain ⟨j, hj, rfl, HBX, HRX⟩ := hrel
      by_cases hjn : j < n
      case neg =>
        go_wp2_with fail
        refine (draw_ReadFields wx ma mc a1 hl1 hm1 (HR1.out.below HBX.out).rb).mono ?_
        rintro e wb1 ⟨b, rfl, hbs, hb⟩
        have HD1 := Lib.hid (rstep HBX.out hb); clear hb
        have HIR := Lib.hid (impl_ReadFields b wb1 (by omega))
        have HSR := Lib.hid (fun wx => spec_ReadFields b wx (by omega))
        cases g : R_Read b with
        | none =>
          rw [g] at HIR HSR
          have HE0 := Lib.hid (fun xa xc wx => impl_FieldsBytes xa xc [] wx (.inl rfl) (by decide) (by simp))
          generalize hq : R_FieldsBytes [] = q at HE0
          clear g hq
          unfold ReadO at HIR HSR
          go_wp2_with fail
          refine HIR.out.mono ?_
          rintro e wb2 ⟨x, rfl, hox, hb⟩
          have HD2 := Lib.hid (rstep HD1.out hb); clear hb
          obtain ⟨xa, xc, rfl⟩ := form_of_own hox
          have HX := Lib.hid hox
          clear hox
          go_wp2_with fail
          refine (HSR.out _).mono ?_
          rintro e wb3 ⟨y, rfl, hoy, hb⟩
          have HD3 := Lib.hid (rstep HD2.out hb); clear hb
          obtain ⟨ya, yc, rfl⟩ := form_of_own hoy
          clear hoy
          go_wp2_with fail
          refine (same_flds xa ya xc yc [] wb3 (.inl rfl) (.inl rfl) (by decide)).mono ?_
          rintro e wb4 ⟨rfl, hd⟩
          have HD4 := Lib.hid (rstep HD3.out (hd.below _)); clear hd
          go_wp2_with fail
          refine (HE0.out xa xc _).mono ?_
          rintro e wb5 ⟨rfl, hb⟩
          have HD5 := Lib.hid (rstep HD4.out hb); clear hb
          go_wp2_with fail
          go_ret
          exact ⟨rfl, HD5.out⟩
        | some r =>
          rw [g] at HIR HSR
          have hbb := bytes_back g
          have hsm := flds_small hbb
          have HE0 := Lib.hid (fun xa xc wx (h : Rw wx xa (fdsV r)) => impl_FieldsBytes xa xc r wx h (by omega) (fun f hf => Nat.le_trans (hsm.2 f hf) (by decide)))
          rw [hbb] at HE0
          have hr40 := hsm.1
          clear g hbb hsm
          unfold ReadO at HIR HSR
          go_wp2_with fail
          refine HIR.out.mono ?_
          rintro e wb2 ⟨x, rfl, hox, hb⟩
          have HD2 := Lib.hid (rstep HD1.out hb); clear hb
          obtain ⟨xa, xc, rfl⟩ := form_of_own hox
          have HX := Lib.hid hox
          clear hox
          go_wp2_with fail
          refine (HSR.out _).mono ?_
          rintro e wb3 ⟨y, rfl, hoy, hb⟩
          have HX3 := Lib.hid (own_later HX.out hb)
          have HD3 := Lib.hid (rstep HD2.out hb); clear hb
          obtain ⟨ya, yc, rfl⟩ := form_of_own hoy
          have HY := Lib.hid hoy
          clear hoy
          go_wp2_with fail
          refine (same_flds xa ya xc yc r wb3 (own_rw HX3.out) (own_rw HY.out) (by omega)).mono ?_
          rintro e wb4 ⟨rfl, hd⟩
          have HX4 := Lib.hid (own_later HX3.out (hd.below _))
          have HD4 := Lib.hid (rstep HD3.out (hd.below _)); clear hd
          go_wp2_with fail
          refine (HE0.out xa xc wb4 (own_rw HX4.out)).mono ?_
          rintro e wb5 ⟨rfl, hb⟩
          have HD5 := Lib.hid (rstep HD4.out hb); clear hb
          go_wp2_with fail
          go_ret
          exact ⟨rfl, HD5.out⟩
      by_cases hj0 : j = 0
      · subst hj0
        go_wp2_with fail
        go_quiet (fail)
        go_wp2_with fail
        go_roundw
        case rel => exact ⟨1, by omega, by go_num, Lib.hid (rdrew HBX.out nq), Lib.hid (HRX.out.below (rdrew (Below.refl _ _) nq))⟩
        case measure => simp [intOf]; omega
      obtain ⟨j1, hj1⟩ : ∃ j1, j = j1 + 1 := ⟨j - 1, by omega⟩
      obtain ⟨x, hx⟩ : ∃ x, sl[j1]? = some x := ⟨sl[j1]'(by have := HMM.out; have := HNL.out; omega), List.getElem?_eq_getElem _⟩
      obtain ⟨y, hy⟩ : ∃ y, sl[j]? = some y := ⟨sl[j]'(by have := HMM.out; have := HNL.out; omega), List.getElem?_eq_getElem _⟩
      have hno := HST.out j1 x y hx (by rw [← hj1]; exact hy)
      obtain ⟨b1, o1, rfl, hbl1, hbw1, c0, -, -, -⟩ := row4 HRX.out (Below.refl _ _) hx
      obtain ⟨b2, o2, hae, hbl2, hbw2, d0, -, -, -⟩ := row4 HRX.out (Below.refl _ _) hy
      cases hae
      have q1 : (1 : Int) ≤ (j : Int) := by omega
      have q2 : (0 : Int) ≤ (j : Int) - 1 := by omega
      have q3 : (j : Int) - 1 < (n : Int) := by omega
      have q4 : ((j : Int) - 1).toNat = j1 := by omega
      have q5 : 0 < j := by omega
      have hjq : (j : Int) < (n : Int) := by omega
      clear hx hy hj1
      go_wp2_with fail
      go_quiet (fail)
      go_wp2_with fail
      go_roundw
      case rel => exact ⟨j + 1, by omega, by go_num, Lib.hid (rdrew HBX.out nq), Lib.hid (HRX.out.below (rdrew (Below.refl _ _) nq))⟩
      case measure => simp [intOf]; omega

end Go.Proofs.Ytlmgckijbamgpaa.fnFields
