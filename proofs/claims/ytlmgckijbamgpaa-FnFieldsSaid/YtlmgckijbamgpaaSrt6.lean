/- The merge of two runs of fields: the walk. -/
import Derived.Test.YtlmgckijbamgpaaSrt5
namespace Go.Proofs.Ytlmgckijbamgpaa
set_option linter.unusedVariables false
set_option linter.unusedSimpArgs false
open Go.ChangeShapes Go.WideShapes Go.ChangeAt Go.RowKit
set_option maxRecDepth 100000

def MCall (w0 : World) (g n cap : Nat) (a m b : Nat) : Prop := ∀ (L : List Fld) (w : World), So L a m → So L m b → RowS w0 g n cap L w → Calls Try.prog 142 #[.slice (some ⟨g, 0, none⟩) n cap, .int .i64 (a : Int), .int .i64 (m : Int), .int .i64 (b : Int), .func (.func 86) #[] #[]] w (SortP w0 g n cap L a b)
set_option maxHeartbeats 16000000 in
theorem merge_c (w0 : World) (g n cap : Nat) (L : List Fld) (a m b : Nat) (w : World) (hnc : n ≤ cap) (hcm : cap ≤ 9223372036854775807) (hn : n ≤ 1000000) (h1 : a < m) (h2 : m < b) (h3 : b ≤ n) (hma : ¬ m - a = 1) (hbm : ¬ b - m = 1) (hs1 : So L a m) (hs2 : So L m b) (hR : RowS w0 g n cap L w)
    (f : Nat) (hf : b - a ≤ f + 1) (IH : ∀ a m b, a < m → m < b → b ≤ n → b - a ≤ f → MCall w0 g n cap a m b) :
    Calls Try.prog 142 #[.slice (some ⟨g, 0, none⟩) n cap, .int .i64 (a : Int), .int .i64 (m : Int), .int .i64 (b : Int), .func (.func 86) #[] #[]] w (SortP w0 g n cap L a b) := by
  have HR0 := Lib.hid hR
  have HSA := Lib.hid hs1; have HSB0 := Lib.hid hs2
  have HI := Lib.hid IH
  clear hR hs1 hs2 IH
  unfold SortP
  have e1 : IntKind.i64.wrap ((m : Int) - (a : Int)) = ((m - a : Nat) : Int) := by rw [IntWalk.i64_in _ (by omega)]; omega
  have e1' : (m : Int) - (a : Int) = ((m - a : Nat) : Int) := by omega
  have hq : (((m - a : Nat) : Int) == 1) = false := by rw [beq_eq_false_iff_ne]; omega
  have e2 : (b : Int) - (m : Int) = ((b - m : Nat) : Int) := by omega
  have hq2 : (((b - m : Nat) : Int) == 1) = false := by rw [beq_eq_false_iff_ne]; omega
  obtain ⟨mid, hmid⟩ : ∃ mid, mid = (a + b) / 2 := ⟨_, rfl⟩
  have q1 : ((a : Int) + (b : Int)) / 2 = (mid : Int) := by omega
  obtain ⟨nn, hnm⟩ : ∃ nn, mid + m = nn := ⟨_, rfl⟩
  have q2 : (mid : Int) + (m : Int) = (nn : Int) := by omega
  obtain ⟨p, hp⟩ : ∃ p, p + 1 = nn := ⟨nn - 1, by omega⟩
  have q3 : (nn : Int) - 1 = (p : Int) := by omega
  have hpm : p + 1 = mid + m := by omega
  have hm1 : a < mid := by omega
  have hm2 : mid < b := by omega
  have HMID := Lib.hid hmid
  by_cases hcs : mid < m
  · obtain ⟨st0, hst⟩ : ∃ st0, st0 + b = nn := ⟨nn - b, by omega⟩
    have q4 : (nn : Int) - (b : Int) = (st0 : Int) := by omega
    have hst0 : a ≤ st0 ∧ st0 ≤ mid := by omega
    have hgt : (m : Int) > (mid : Int) := by omega
    have hst1 : st0 + b = mid + m := by omega
    clear hmid hst
    go_enter Try.func142, Try.ntmps142
    go_wp2_with fail
    go_loopw [20, 21] (fun sv rv wr => ∃ (st r : Nat), sv = .int .i64 (st : Int) ∧ rv = .int .i64 (r : Int) ∧ Hid (RowS w0 g n cap L wr) ∧ Hid (FindC L p st0 mid st r)) (fun sv rv _ => (intOf rv).toNat - (intOf sv).toNat)
    case atStart => exact ⟨st0, mid, rfl, rfl, HR0, Lib.hid (find_start hst0.2)⟩
    case round =>
      clear HR0
      obtain ⟨w2, rfl⟩ : ∃ z : World, z = wr := ⟨_, rfl⟩
      obtain ⟨st, r, rfl, rfl, HR, HFC⟩ := hrel
      obtain ⟨ho1, ho2, ho3⟩ := HFC.out.ord
      have hlen := HR.out.len
      by_cases hlt : st < r
      case neg =>
        obtain rfl : r = st := by omega
        obtain ⟨st, hste⟩ : ∃ z, z = r := ⟨_, rfl⟩
        obtain ⟨e, hes⟩ : ∃ z, z + st = nn := ⟨nn - st, by omega⟩
        subst hste
        rw [← hnm] at hes
        have hes2 : e + st = nn := by omega
        clear hlt ho1 ho2 ho3
        have HCUT := Lib.hid (find_cut (e := e) HFC.out h1 h2 HMID.out hpm hes (by omega) HSA.out HSB0.out)
        have hord := HCUT.out.ord
        have q5 : (nn : Int) - (st : Int) = (e : Int) := by omega
        by_cases hc1 : st < m ∧ m < e
        · have q1a : (st : Int) < (m : Int) := by omega
          have q1b : (m : Int) < (e : Int) := by omega
          have H1 := Lib.hid (sort_rotate w0 g n cap L st m e w2 hnc hcm hn hc1.1 hc1.2 (by omega) HR.out (.func (.func 86) #[] #[]))
          unfold RtO at H1
          go_wp2_with fail
          refine H1.out.mono ?_
          rintro e7 w7 ⟨rfl, N, hr7, hrt7⟩
          have HRN := Lib.hid hr7
          have HCR := Lib.hid (cut_rt HCUT.out hrt7 HSA.out HSB0.out)
          have HTN := Lib.hid ((rt_st hrt7 (by omega) (by omega) (by have := HR.out.len; omega) HCUT.out.low).wide (a' := a) (b' := b) (by omega) (by omega))
          clear hr7 hrt7
          by_cases hc2 : a < st ∧ st < mid
          · have q2a : (a : Int) < (st : Int) := by omega
            have q2b : (st : Int) < (mid : Int) := by omega
            have H2 := Lib.hid (HI.out a st mid hc2.1 hc2.2 (by omega) (by omega) N w7 HCR.out.1 HCR.out.2.1 HRN.out)
            unfold SortP at H2
            go_wp2_with fail
            refine H2.out.mono ?_
            rintro e8 w8 ⟨rfl, N1, hr8, hst8, hso8⟩
            have HRW := Lib.hid hr8
            have HS1 := Lib.hid (show St L N a b ∧ St N N1 a mid ∧ _ ∧ So N1 mid e ∧ So N1 e b ∧ So N1 a mid ∧ b ≤ (N).length ∧ True from ⟨HTN.out, hst8, HCR.out.2.2.2.2, hst8.keep_so HCR.out.2.2.1 (.inr (Nat.le_refl _)), hst8.keep_so HCR.out.2.2.2.1 (.inr (by omega)), hso8, by have := HRN.out.len; omega, trivial⟩)
            clear hr8 hst8 hso8
            by_cases hc3 : mid < e ∧ e < b
            · have q3a : (mid : Int) < (e : Int) := by omega
              have q3b : (e : Int) < (b : Int) := by omega
              have H3 := Lib.hid (HI.out mid e b hc3.1 hc3.2 h3 (by omega) N1 w8 (HS1.out.2.2.2.1) (HS1.out.2.2.2.2.1) HRW.out)
              unfold SortP at H3
              go_wp2_with fail
              all_goals
                refine H3.out.mono ?_
                rintro e9 w9 ⟨rfl, N2, hr9, hst9, hso9⟩
                have HR9 := Lib.hid hr9
                have HF := Lib.hid (cut_end (a := a) (mid := mid) (b := b) (by omega) (by omega) HS1.out.2.2.1 HS1.out.2.1 hst9 HS1.out.2.2.2.2.2.1 hso9 HS1.out.2.2.2.2.2.2.1)
                have HT := Lib.hid (HS1.out.1.trans ((HS1.out.2.1.wide (Nat.le_refl _) (by omega)).trans (hst9.wide (by omega) (Nat.le_refl _))))
                clear hr9 hst9 hso9
                go_wp2_with fail
                all_goals
                  first | (refine bodyPost_ret (results_none rfl _ _ _) rfl ?_) | (refine bodyPost_end (results_none rfl _ _ _) rfl ?_)
                  exact ⟨rfl, N2, HR9.out, HT.out, HF.out⟩
            · have HSB := Lib.hid (so_join HS1.out.2.2.2.1 HS1.out.2.2.2.2.1 hc3 (by omega) (by omega))
              have HF := Lib.hid (cut_end (a := a) (mid := mid) (b := b) (by omega) (by omega) HS1.out.2.2.1 HS1.out.2.1 (St.refl _ _ _) HS1.out.2.2.2.2.2.1 HSB.out HS1.out.2.2.2.2.2.2.1)
              have HT := Lib.hid (HS1.out.1.trans (HS1.out.2.1.wide (Nat.le_refl _) (by omega)))
              by_cases hc3a : mid < e
              · have q3a : (mid : Int) < (e : Int) := by omega
                have q3b : ¬ (e : Int) < (b : Int) := by omega
                go_wp2_with fail
                all_goals
                  first | (refine bodyPost_ret (results_none rfl _ _ _) rfl ?_) | (refine bodyPost_end (results_none rfl _ _ _) rfl ?_)
                  exact ⟨rfl, N1, HRW.out, HT.out, HF.out⟩
              · have q3a : ¬ (mid : Int) < (e : Int) := by omega
                go_wp2_with fail
                all_goals
                  first | (refine bodyPost_ret (results_none rfl _ _ _) rfl ?_) | (refine bodyPost_end (results_none rfl _ _ _) rfl ?_)
                  exact ⟨rfl, N1, HRW.out, HT.out, HF.out⟩
          · have HRW := HRN
            have HS1 := Lib.hid (show St L N a b ∧ St N N a mid ∧ _ ∧ So N mid e ∧ So N e b ∧ So N a mid ∧ b ≤ (N).length ∧ True from ⟨HTN.out, St.refl _ _ _, HCR.out.2.2.2.2, HCR.out.2.2.1, HCR.out.2.2.2.1, so_join HCR.out.1 HCR.out.2.1 hc2 (by omega) (by omega), by have := HRN.out.len; omega, trivial⟩)
            by_cases hc2a : a < st
            · have q2a : (a : Int) < (st : Int) := by omega
              have q2b : ¬ (st : Int) < (mid : Int) := by omega
              by_cases hc3 : mid < e ∧ e < b
              · have q3a : (mid : Int) < (e : Int) := by omega
                have q3b : (e : Int) < (b : Int) := by omega
                have H3 := Lib.hid (HI.out mid e b hc3.1 hc3.2 h3 (by omega) N w7 (HS1.out.2.2.2.1) (HS1.out.2.2.2.2.1) HRW.out)
                unfold SortP at H3
                go_wp2_with fail
                all_goals
                  refine H3.out.mono ?_
                  rintro e9 w9 ⟨rfl, N2, hr9, hst9, hso9⟩
                  have HR9 := Lib.hid hr9
                  have HF := Lib.hid (cut_end (a := a) (mid := mid) (b := b) (by omega) (by omega) HS1.out.2.2.1 HS1.out.2.1 hst9 HS1.out.2.2.2.2.2.1 hso9 HS1.out.2.2.2.2.2.2.1)
                  have HT := Lib.hid (HS1.out.1.trans ((HS1.out.2.1.wide (Nat.le_refl _) (by omega)).trans (hst9.wide (by omega) (Nat.le_refl _))))
                  clear hr9 hst9 hso9
                  go_wp2_with fail
                  all_goals
                    first | (refine bodyPost_ret (results_none rfl _ _ _) rfl ?_) | (refine bodyPost_end (results_none rfl _ _ _) rfl ?_)
                    exact ⟨rfl, N2, HR9.out, HT.out, HF.out⟩
              · have HSB := Lib.hid (so_join HS1.out.2.2.2.1 HS1.out.2.2.2.2.1 hc3 (by omega) (by omega))
                have HF := Lib.hid (cut_end (a := a) (mid := mid) (b := b) (by omega) (by omega) HS1.out.2.2.1 HS1.out.2.1 (St.refl _ _ _) HS1.out.2.2.2.2.2.1 HSB.out HS1.out.2.2.2.2.2.2.1)
                have HT := Lib.hid (HS1.out.1.trans (HS1.out.2.1.wide (Nat.le_refl _) (by omega)))
                by_cases hc3a : mid < e
                · have q3a : (mid : Int) < (e : Int) := by omega
                  have q3b : ¬ (e : Int) < (b : Int) := by omega
                  go_wp2_with fail
                  all_goals
                    first | (refine bodyPost_ret (results_none rfl _ _ _) rfl ?_) | (refine bodyPost_end (results_none rfl _ _ _) rfl ?_)
                    exact ⟨rfl, N, HRW.out, HT.out, HF.out⟩
                · have q3a : ¬ (mid : Int) < (e : Int) := by omega
                  go_wp2_with fail
                  all_goals
                    first | (refine bodyPost_ret (results_none rfl _ _ _) rfl ?_) | (refine bodyPost_end (results_none rfl _ _ _) rfl ?_)
                    exact ⟨rfl, N, HRW.out, HT.out, HF.out⟩
            · have q2a : ¬ (a : Int) < (st : Int) := by omega
              by_cases hc3 : mid < e ∧ e < b
              · have q3a : (mid : Int) < (e : Int) := by omega
                have q3b : (e : Int) < (b : Int) := by omega
                have H3 := Lib.hid (HI.out mid e b hc3.1 hc3.2 h3 (by omega) N w7 (HS1.out.2.2.2.1) (HS1.out.2.2.2.2.1) HRW.out)
                unfold SortP at H3
                go_wp2_with fail
                all_goals
                  refine H3.out.mono ?_
                  rintro e9 w9 ⟨rfl, N2, hr9, hst9, hso9⟩
                  have HR9 := Lib.hid hr9
                  have HF := Lib.hid (cut_end (a := a) (mid := mid) (b := b) (by omega) (by omega) HS1.out.2.2.1 HS1.out.2.1 hst9 HS1.out.2.2.2.2.2.1 hso9 HS1.out.2.2.2.2.2.2.1)
                  have HT := Lib.hid (HS1.out.1.trans ((HS1.out.2.1.wide (Nat.le_refl _) (by omega)).trans (hst9.wide (by omega) (Nat.le_refl _))))
                  clear hr9 hst9 hso9
                  go_wp2_with fail
                  all_goals
                    first | (refine bodyPost_ret (results_none rfl _ _ _) rfl ?_) | (refine bodyPost_end (results_none rfl _ _ _) rfl ?_)
                    exact ⟨rfl, N2, HR9.out, HT.out, HF.out⟩
              · have HSB := Lib.hid (so_join HS1.out.2.2.2.1 HS1.out.2.2.2.2.1 hc3 (by omega) (by omega))
                have HF := Lib.hid (cut_end (a := a) (mid := mid) (b := b) (by omega) (by omega) HS1.out.2.2.1 HS1.out.2.1 (St.refl _ _ _) HS1.out.2.2.2.2.2.1 HSB.out HS1.out.2.2.2.2.2.2.1)
                have HT := Lib.hid (HS1.out.1.trans (HS1.out.2.1.wide (Nat.le_refl _) (by omega)))
                by_cases hc3a : mid < e
                · have q3a : (mid : Int) < (e : Int) := by omega
                  have q3b : ¬ (e : Int) < (b : Int) := by omega
                  go_wp2_with fail
                  all_goals
                    first | (refine bodyPost_ret (results_none rfl _ _ _) rfl ?_) | (refine bodyPost_end (results_none rfl _ _ _) rfl ?_)
                    exact ⟨rfl, N, HRW.out, HT.out, HF.out⟩
                · have q3a : ¬ (mid : Int) < (e : Int) := by omega
                  go_wp2_with fail
                  all_goals
                    first | (refine bodyPost_ret (results_none rfl _ _ _) rfl ?_) | (refine bodyPost_end (results_none rfl _ _ _) rfl ?_)
                    exact ⟨rfl, N, HRW.out, HT.out, HF.out⟩
        · have HRN := HR
          have HRT : Hid (RtS L L st m e) := Lib.hid ⟨rfl, fun t => by
            repeat' split
            all_goals first | rfl | (exfalso; omega) | (congr 1; omega)⟩
          have HCR := Lib.hid (cut_rt HCUT.out HRT.out HSA.out HSB0.out)
          have HTN := Lib.hid (St.refl L a b)
          by_cases hc1a : st < m
          · have q1a : (st : Int) < (m : Int) := by omega
            have q1b : ¬ (m : Int) < (e : Int) := by omega
            by_cases hc2 : a < st ∧ st < mid
            · have q2a : (a : Int) < (st : Int) := by omega
              have q2b : (st : Int) < (mid : Int) := by omega
              have H2 := Lib.hid (HI.out a st mid hc2.1 hc2.2 (by omega) (by omega) L w2 HCR.out.1 HCR.out.2.1 HRN.out)
              unfold SortP at H2
              go_wp2_with fail
              refine H2.out.mono ?_
              rintro e8 w8 ⟨rfl, N1, hr8, hst8, hso8⟩
              have HRW := Lib.hid hr8
              have HS1 := Lib.hid (show St L L a b ∧ St L N1 a mid ∧ _ ∧ So N1 mid e ∧ So N1 e b ∧ So N1 a mid ∧ b ≤ (L).length ∧ True from ⟨HTN.out, hst8, HCR.out.2.2.2.2, hst8.keep_so HCR.out.2.2.1 (.inr (Nat.le_refl _)), hst8.keep_so HCR.out.2.2.2.1 (.inr (by omega)), hso8, by have := HRN.out.len; omega, trivial⟩)
              clear hr8 hst8 hso8
              by_cases hc3 : mid < e ∧ e < b
              · have q3a : (mid : Int) < (e : Int) := by omega
                have q3b : (e : Int) < (b : Int) := by omega
                have H3 := Lib.hid (HI.out mid e b hc3.1 hc3.2 h3 (by omega) N1 w8 (HS1.out.2.2.2.1) (HS1.out.2.2.2.2.1) HRW.out)
                unfold SortP at H3
                go_wp2_with fail
                all_goals
                  refine H3.out.mono ?_
                  rintro e9 w9 ⟨rfl, N2, hr9, hst9, hso9⟩
                  have HR9 := Lib.hid hr9
                  have HF := Lib.hid (cut_end (a := a) (mid := mid) (b := b) (by omega) (by omega) HS1.out.2.2.1 HS1.out.2.1 hst9 HS1.out.2.2.2.2.2.1 hso9 HS1.out.2.2.2.2.2.2.1)
                  have HT := Lib.hid (HS1.out.1.trans ((HS1.out.2.1.wide (Nat.le_refl _) (by omega)).trans (hst9.wide (by omega) (Nat.le_refl _))))
                  clear hr9 hst9 hso9
                  go_wp2_with fail
                  all_goals
                    first | (refine bodyPost_ret (results_none rfl _ _ _) rfl ?_) | (refine bodyPost_end (results_none rfl _ _ _) rfl ?_)
                    exact ⟨rfl, N2, HR9.out, HT.out, HF.out⟩
              · have HSB := Lib.hid (so_join HS1.out.2.2.2.1 HS1.out.2.2.2.2.1 hc3 (by omega) (by omega))
                have HF := Lib.hid (cut_end (a := a) (mid := mid) (b := b) (by omega) (by omega) HS1.out.2.2.1 HS1.out.2.1 (St.refl _ _ _) HS1.out.2.2.2.2.2.1 HSB.out HS1.out.2.2.2.2.2.2.1)
                have HT := Lib.hid (HS1.out.1.trans (HS1.out.2.1.wide (Nat.le_refl _) (by omega)))
                by_cases hc3a : mid < e
                · have q3a : (mid : Int) < (e : Int) := by omega
                  have q3b : ¬ (e : Int) < (b : Int) := by omega
                  go_wp2_with fail
                  all_goals
                    first | (refine bodyPost_ret (results_none rfl _ _ _) rfl ?_) | (refine bodyPost_end (results_none rfl _ _ _) rfl ?_)
                    exact ⟨rfl, N1, HRW.out, HT.out, HF.out⟩
                · have q3a : ¬ (mid : Int) < (e : Int) := by omega
                  go_wp2_with fail
                  all_goals
                    first | (refine bodyPost_ret (results_none rfl _ _ _) rfl ?_) | (refine bodyPost_end (results_none rfl _ _ _) rfl ?_)
                    exact ⟨rfl, N1, HRW.out, HT.out, HF.out⟩
            · have HRW := HRN
              have HS1 := Lib.hid (show St L L a b ∧ St L L a mid ∧ _ ∧ So L mid e ∧ So L e b ∧ So L a mid ∧ b ≤ (L).length ∧ True from ⟨HTN.out, St.refl _ _ _, HCR.out.2.2.2.2, HCR.out.2.2.1, HCR.out.2.2.2.1, so_join HCR.out.1 HCR.out.2.1 hc2 (by omega) (by omega), by have := HRN.out.len; omega, trivial⟩)
              by_cases hc2a : a < st
              · have q2a : (a : Int) < (st : Int) := by omega
                have q2b : ¬ (st : Int) < (mid : Int) := by omega
                by_cases hc3 : mid < e ∧ e < b
                · have q3a : (mid : Int) < (e : Int) := by omega
                  have q3b : (e : Int) < (b : Int) := by omega
                  have H3 := Lib.hid (HI.out mid e b hc3.1 hc3.2 h3 (by omega) L w2 (HS1.out.2.2.2.1) (HS1.out.2.2.2.2.1) HRW.out)
                  unfold SortP at H3
                  go_wp2_with fail
                  all_goals
                    refine H3.out.mono ?_
                    rintro e9 w9 ⟨rfl, N2, hr9, hst9, hso9⟩
                    have HR9 := Lib.hid hr9
                    have HF := Lib.hid (cut_end (a := a) (mid := mid) (b := b) (by omega) (by omega) HS1.out.2.2.1 HS1.out.2.1 hst9 HS1.out.2.2.2.2.2.1 hso9 HS1.out.2.2.2.2.2.2.1)
                    have HT := Lib.hid (HS1.out.1.trans ((HS1.out.2.1.wide (Nat.le_refl _) (by omega)).trans (hst9.wide (by omega) (Nat.le_refl _))))
                    clear hr9 hst9 hso9
                    go_wp2_with fail
                    all_goals
                      first | (refine bodyPost_ret (results_none rfl _ _ _) rfl ?_) | (refine bodyPost_end (results_none rfl _ _ _) rfl ?_)
                      exact ⟨rfl, N2, HR9.out, HT.out, HF.out⟩
                · have HSB := Lib.hid (so_join HS1.out.2.2.2.1 HS1.out.2.2.2.2.1 hc3 (by omega) (by omega))
                  have HF := Lib.hid (cut_end (a := a) (mid := mid) (b := b) (by omega) (by omega) HS1.out.2.2.1 HS1.out.2.1 (St.refl _ _ _) HS1.out.2.2.2.2.2.1 HSB.out HS1.out.2.2.2.2.2.2.1)
                  have HT := Lib.hid (HS1.out.1.trans (HS1.out.2.1.wide (Nat.le_refl _) (by omega)))
                  by_cases hc3a : mid < e
                  · have q3a : (mid : Int) < (e : Int) := by omega
                    have q3b : ¬ (e : Int) < (b : Int) := by omega
                    go_wp2_with fail
                    all_goals
                      first | (refine bodyPost_ret (results_none rfl _ _ _) rfl ?_) | (refine bodyPost_end (results_none rfl _ _ _) rfl ?_)
                      exact ⟨rfl, L, HRW.out, HT.out, HF.out⟩
                  · have q3a : ¬ (mid : Int) < (e : Int) := by omega
                    go_wp2_with fail
                    all_goals
                      first | (refine bodyPost_ret (results_none rfl _ _ _) rfl ?_) | (refine bodyPost_end (results_none rfl _ _ _) rfl ?_)
                      exact ⟨rfl, L, HRW.out, HT.out, HF.out⟩
              · have q2a : ¬ (a : Int) < (st : Int) := by omega
                by_cases hc3 : mid < e ∧ e < b
                · have q3a : (mid : Int) < (e : Int) := by omega
                  have q3b : (e : Int) < (b : Int) := by omega
                  have H3 := Lib.hid (HI.out mid e b hc3.1 hc3.2 h3 (by omega) L w2 (HS1.out.2.2.2.1) (HS1.out.2.2.2.2.1) HRW.out)
                  unfold SortP at H3
                  go_wp2_with fail
                  all_goals
                    refine H3.out.mono ?_
                    rintro e9 w9 ⟨rfl, N2, hr9, hst9, hso9⟩
                    have HR9 := Lib.hid hr9
                    have HF := Lib.hid (cut_end (a := a) (mid := mid) (b := b) (by omega) (by omega) HS1.out.2.2.1 HS1.out.2.1 hst9 HS1.out.2.2.2.2.2.1 hso9 HS1.out.2.2.2.2.2.2.1)
                    have HT := Lib.hid (HS1.out.1.trans ((HS1.out.2.1.wide (Nat.le_refl _) (by omega)).trans (hst9.wide (by omega) (Nat.le_refl _))))
                    clear hr9 hst9 hso9
                    go_wp2_with fail
                    all_goals
                      first | (refine bodyPost_ret (results_none rfl _ _ _) rfl ?_) | (refine bodyPost_end (results_none rfl _ _ _) rfl ?_)
                      exact ⟨rfl, N2, HR9.out, HT.out, HF.out⟩
                · have HSB := Lib.hid (so_join HS1.out.2.2.2.1 HS1.out.2.2.2.2.1 hc3 (by omega) (by omega))
                  have HF := Lib.hid (cut_end (a := a) (mid := mid) (b := b) (by omega) (by omega) HS1.out.2.2.1 HS1.out.2.1 (St.refl _ _ _) HS1.out.2.2.2.2.2.1 HSB.out HS1.out.2.2.2.2.2.2.1)
                  have HT := Lib.hid (HS1.out.1.trans (HS1.out.2.1.wide (Nat.le_refl _) (by omega)))
                  by_cases hc3a : mid < e
                  · have q3a : (mid : Int) < (e : Int) := by omega
                    have q3b : ¬ (e : Int) < (b : Int) := by omega
                    go_wp2_with fail
                    all_goals
                      first | (refine bodyPost_ret (results_none rfl _ _ _) rfl ?_) | (refine bodyPost_end (results_none rfl _ _ _) rfl ?_)
                      exact ⟨rfl, L, HRW.out, HT.out, HF.out⟩
                  · have q3a : ¬ (mid : Int) < (e : Int) := by omega
                    go_wp2_with fail
                    all_goals
                      first | (refine bodyPost_ret (results_none rfl _ _ _) rfl ?_) | (refine bodyPost_end (results_none rfl _ _ _) rfl ?_)
                      exact ⟨rfl, L, HRW.out, HT.out, HF.out⟩
          · have q1a : ¬ (st : Int) < (m : Int) := by omega
            by_cases hc2 : a < st ∧ st < mid
            · have q2a : (a : Int) < (st : Int) := by omega
              have q2b : (st : Int) < (mid : Int) := by omega
              have H2 := Lib.hid (HI.out a st mid hc2.1 hc2.2 (by omega) (by omega) L w2 HCR.out.1 HCR.out.2.1 HRN.out)
              unfold SortP at H2
              go_wp2_with fail
              refine H2.out.mono ?_
              rintro e8 w8 ⟨rfl, N1, hr8, hst8, hso8⟩
              have HRW := Lib.hid hr8
              have HS1 := Lib.hid (show St L L a b ∧ St L N1 a mid ∧ _ ∧ So N1 mid e ∧ So N1 e b ∧ So N1 a mid ∧ b ≤ (L).length ∧ True from ⟨HTN.out, hst8, HCR.out.2.2.2.2, hst8.keep_so HCR.out.2.2.1 (.inr (Nat.le_refl _)), hst8.keep_so HCR.out.2.2.2.1 (.inr (by omega)), hso8, by have := HRN.out.len; omega, trivial⟩)
              clear hr8 hst8 hso8
              by_cases hc3 : mid < e ∧ e < b
              · have q3a : (mid : Int) < (e : Int) := by omega
                have q3b : (e : Int) < (b : Int) := by omega
                have H3 := Lib.hid (HI.out mid e b hc3.1 hc3.2 h3 (by omega) N1 w8 (HS1.out.2.2.2.1) (HS1.out.2.2.2.2.1) HRW.out)
                unfold SortP at H3
                go_wp2_with fail
                all_goals
                  refine H3.out.mono ?_
                  rintro e9 w9 ⟨rfl, N2, hr9, hst9, hso9⟩
                  have HR9 := Lib.hid hr9
                  have HF := Lib.hid (cut_end (a := a) (mid := mid) (b := b) (by omega) (by omega) HS1.out.2.2.1 HS1.out.2.1 hst9 HS1.out.2.2.2.2.2.1 hso9 HS1.out.2.2.2.2.2.2.1)
                  have HT := Lib.hid (HS1.out.1.trans ((HS1.out.2.1.wide (Nat.le_refl _) (by omega)).trans (hst9.wide (by omega) (Nat.le_refl _))))
                  clear hr9 hst9 hso9
                  go_wp2_with fail
                  all_goals
                    first | (refine bodyPost_ret (results_none rfl _ _ _) rfl ?_) | (refine bodyPost_end (results_none rfl _ _ _) rfl ?_)
                    exact ⟨rfl, N2, HR9.out, HT.out, HF.out⟩
              · have HSB := Lib.hid (so_join HS1.out.2.2.2.1 HS1.out.2.2.2.2.1 hc3 (by omega) (by omega))
                have HF := Lib.hid (cut_end (a := a) (mid := mid) (b := b) (by omega) (by omega) HS1.out.2.2.1 HS1.out.2.1 (St.refl _ _ _) HS1.out.2.2.2.2.2.1 HSB.out HS1.out.2.2.2.2.2.2.1)
                have HT := Lib.hid (HS1.out.1.trans (HS1.out.2.1.wide (Nat.le_refl _) (by omega)))
                by_cases hc3a : mid < e
                · have q3a : (mid : Int) < (e : Int) := by omega
                  have q3b : ¬ (e : Int) < (b : Int) := by omega
                  go_wp2_with fail
                  all_goals
                    first | (refine bodyPost_ret (results_none rfl _ _ _) rfl ?_) | (refine bodyPost_end (results_none rfl _ _ _) rfl ?_)
                    exact ⟨rfl, N1, HRW.out, HT.out, HF.out⟩
                · have q3a : ¬ (mid : Int) < (e : Int) := by omega
                  go_wp2_with fail
                  all_goals
                    first | (refine bodyPost_ret (results_none rfl _ _ _) rfl ?_) | (refine bodyPost_end (results_none rfl _ _ _) rfl ?_)
                    exact ⟨rfl, N1, HRW.out, HT.out, HF.out⟩
            · have HRW := HRN
              have HS1 := Lib.hid (show St L L a b ∧ St L L a mid ∧ _ ∧ So L mid e ∧ So L e b ∧ So L a mid ∧ b ≤ (L).length ∧ True from ⟨HTN.out, St.refl _ _ _, HCR.out.2.2.2.2, HCR.out.2.2.1, HCR.out.2.2.2.1, so_join HCR.out.1 HCR.out.2.1 hc2 (by omega) (by omega), by have := HRN.out.len; omega, trivial⟩)
              by_cases hc2a : a < st
              · have q2a : (a : Int) < (st : Int) := by omega
                have q2b : ¬ (st : Int) < (mid : Int) := by omega
                by_cases hc3 : mid < e ∧ e < b
                · have q3a : (mid : Int) < (e : Int) := by omega
                  have q3b : (e : Int) < (b : Int) := by omega
                  have H3 := Lib.hid (HI.out mid e b hc3.1 hc3.2 h3 (by omega) L w2 (HS1.out.2.2.2.1) (HS1.out.2.2.2.2.1) HRW.out)
                  unfold SortP at H3
                  go_wp2_with fail
                  all_goals
                    refine H3.out.mono ?_
                    rintro e9 w9 ⟨rfl, N2, hr9, hst9, hso9⟩
                    have HR9 := Lib.hid hr9
                    have HF := Lib.hid (cut_end (a := a) (mid := mid) (b := b) (by omega) (by omega) HS1.out.2.2.1 HS1.out.2.1 hst9 HS1.out.2.2.2.2.2.1 hso9 HS1.out.2.2.2.2.2.2.1)
                    have HT := Lib.hid (HS1.out.1.trans ((HS1.out.2.1.wide (Nat.le_refl _) (by omega)).trans (hst9.wide (by omega) (Nat.le_refl _))))
                    clear hr9 hst9 hso9
                    go_wp2_with fail
                    all_goals
                      first | (refine bodyPost_ret (results_none rfl _ _ _) rfl ?_) | (refine bodyPost_end (results_none rfl _ _ _) rfl ?_)
                      exact ⟨rfl, N2, HR9.out, HT.out, HF.out⟩
                · have HSB := Lib.hid (so_join HS1.out.2.2.2.1 HS1.out.2.2.2.2.1 hc3 (by omega) (by omega))
                  have HF := Lib.hid (cut_end (a := a) (mid := mid) (b := b) (by omega) (by omega) HS1.out.2.2.1 HS1.out.2.1 (St.refl _ _ _) HS1.out.2.2.2.2.2.1 HSB.out HS1.out.2.2.2.2.2.2.1)
                  have HT := Lib.hid (HS1.out.1.trans (HS1.out.2.1.wide (Nat.le_refl _) (by omega)))
                  by_cases hc3a : mid < e
                  · have q3a : (mid : Int) < (e : Int) := by omega
                    have q3b : ¬ (e : Int) < (b : Int) := by omega
                    go_wp2_with fail
                    all_goals
                      first | (refine bodyPost_ret (results_none rfl _ _ _) rfl ?_) | (refine bodyPost_end (results_none rfl _ _ _) rfl ?_)
                      exact ⟨rfl, L, HRW.out, HT.out, HF.out⟩
                  · have q3a : ¬ (mid : Int) < (e : Int) := by omega
                    go_wp2_with fail
                    all_goals
                      first | (refine bodyPost_ret (results_none rfl _ _ _) rfl ?_) | (refine bodyPost_end (results_none rfl _ _ _) rfl ?_)
                      exact ⟨rfl, L, HRW.out, HT.out, HF.out⟩
              · have q2a : ¬ (a : Int) < (st : Int) := by omega
                by_cases hc3 : mid < e ∧ e < b
                · have q3a : (mid : Int) < (e : Int) := by omega
                  have q3b : (e : Int) < (b : Int) := by omega
                  have H3 := Lib.hid (HI.out mid e b hc3.1 hc3.2 h3 (by omega) L w2 (HS1.out.2.2.2.1) (HS1.out.2.2.2.2.1) HRW.out)
                  unfold SortP at H3
                  go_wp2_with fail
                  all_goals
                    refine H3.out.mono ?_
                    rintro e9 w9 ⟨rfl, N2, hr9, hst9, hso9⟩
                    have HR9 := Lib.hid hr9
                    have HF := Lib.hid (cut_end (a := a) (mid := mid) (b := b) (by omega) (by omega) HS1.out.2.2.1 HS1.out.2.1 hst9 HS1.out.2.2.2.2.2.1 hso9 HS1.out.2.2.2.2.2.2.1)
                    have HT := Lib.hid (HS1.out.1.trans ((HS1.out.2.1.wide (Nat.le_refl _) (by omega)).trans (hst9.wide (by omega) (Nat.le_refl _))))
                    clear hr9 hst9 hso9
                    go_wp2_with fail
                    all_goals
                      first | (refine bodyPost_ret (results_none rfl _ _ _) rfl ?_) | (refine bodyPost_end (results_none rfl _ _ _) rfl ?_)
                      exact ⟨rfl, N2, HR9.out, HT.out, HF.out⟩
                · have HSB := Lib.hid (so_join HS1.out.2.2.2.1 HS1.out.2.2.2.2.1 hc3 (by omega) (by omega))
                  have HF := Lib.hid (cut_end (a := a) (mid := mid) (b := b) (by omega) (by omega) HS1.out.2.2.1 HS1.out.2.1 (St.refl _ _ _) HS1.out.2.2.2.2.2.1 HSB.out HS1.out.2.2.2.2.2.2.1)
                  have HT := Lib.hid (HS1.out.1.trans (HS1.out.2.1.wide (Nat.le_refl _) (by omega)))
                  by_cases hc3a : mid < e
                  · have q3a : (mid : Int) < (e : Int) := by omega
                    have q3b : ¬ (e : Int) < (b : Int) := by omega
                    go_wp2_with fail
                    all_goals
                      first | (refine bodyPost_ret (results_none rfl _ _ _) rfl ?_) | (refine bodyPost_end (results_none rfl _ _ _) rfl ?_)
                      exact ⟨rfl, L, HRW.out, HT.out, HF.out⟩
                  · have q3a : ¬ (mid : Int) < (e : Int) := by omega
                    go_wp2_with fail
                    all_goals
                      first | (refine bodyPost_ret (results_none rfl _ _ _) rfl ?_) | (refine bodyPost_end (results_none rfl _ _ _) rfl ?_)
                      exact ⟨rfl, L, HRW.out, HT.out, HF.out⟩
      obtain ⟨c, hcc⟩ : ∃ c : Nat, (st + r) / 2 = c := ⟨_, rfl⟩
      have hci : ((st : Int) + (r : Int)) / 2 = (c : Int) := by omega
      obtain ⟨pc, hpc⟩ : ∃ pc, pc + c = p := ⟨p - c, by omega⟩
      have q6 : (p : Int) - (c : Int) = (pc : Int) := by omega
      have hb1 : st ≤ c := by omega
      have hb2 : c < r := by omega
      have hpce : p - c = pc := by omega
      clear hcc
      obtain ⟨M, hM⟩ : ∃ M, M = L := ⟨_, rfl⟩
      rw [← hM] at HR hlen HFC HSA HSB0
      obtain ⟨x, hx⟩ := getD_of (L := M) (i := pc) (by omega)
      obtain ⟨y, hy⟩ := getD_of (L := M) (i := c) (by omega)
      have HC := Lib.hid (clo_srt x y w2.drew)
      obtain ⟨x0, x1, x2, x3⟩ := HR.out.at hx
      obtain ⟨y0, y1, y2, y3⟩ := HR.out.at hy
      have hgs := (HR.out.own.lt g rfl).2
      have k1 := kf_of hx
      have k2 := kf_of hy
      have hHIn : pc < n := by omega
      have hLOn : c < n := by omega
      by_cases hxy : x.no < y.no
      · have hcc : cmpI x.no y.no = -1 := by unfold cmpI; rw [if_pos hxy]
        rw [hcc] at HC
        have HFN := Lib.hid (find_hi HFC.out hb1 hb2 (by omega) (by omega) (by omega) (by omega) HSA.out HSB0.out (by rw [hpce]; omega))
        clear hxy hcc hx hy hpce hpc
        have hW1 : IntKind.i64.wrap (((pc) : Nat) : Int) = (((pc) : Nat) : Int) := IntWalk.i64_in _ (by omega)
        have hW2 : IntKind.i64.wrap (((c) : Nat) : Int) = (((c) : Nat) : Int) := IntWalk.i64_in _ (by omega)
        go_wp2_with fail
        refine wp_region_G [11] (fun w' => (w'.cell? ⟨g, (pc) * 4, none⟩ = some (.int .i64 x.no) ∧ w'.cell? ⟨g, (pc) * 4 + 1, none⟩ = some (.int .i64 x.kind) ∧ w'.cell? ⟨g, (pc) * 4 + 2, none⟩ = some (.int .i64 x.num) ∧ w'.cell? ⟨g, (pc) * 4 + 3, none⟩ = some (.string x.data)) ∧ w'.cell? ⟨g, (c) * 4, none⟩ = some (.int .i64 y.no) ∧ w'.cell? ⟨g, (c) * 4 + 1, none⟩ = some (.int .i64 y.kind) ∧ w'.cell? ⟨g, (c) * 4 + 2, none⟩ = some (.int .i64 y.num) ∧ w'.cell? ⟨g, (c) * 4 + 3, none⟩ = some (.string y.data)) (by kernel_rfl) ?_ (fun hHeld => ?_)
        · exact ⟨⟨x0, x1, x2, x3⟩, y0, y1, y2, y3⟩
        refine wpG_pure (i := 0) (oi := { dst := some 158, op := Go.Op.move (Go.Operand.tmp 4), type := 114, pos := "zsortanyfunc.go:441", after := #[], guard := none }) (v := ?vg1) rfl (by kernel_rfl) (fun _ _ _ h => h) (Or.inr hHeld) (Or.inl ⟨by rfl, ?yg1⟩) ?_
        case yg1 => (intro wS _; go_simp <;> with_reducible rfl)
        try simp only [Act.put, List.setIfInBounds_toArray, List.set_cons_zero, List.set_cons_succ]
        refine wpG_pure (i := 1) (oi := { dst := some 159, op := Go.Op.move (Go.Operand.tmp 0), type := 49, pos := "zsortanyfunc.go:441", after := #[], guard := none }) (v := ?vg2) rfl (by kernel_rfl) (fun _ _ _ h => h) (Or.inr hHeld) (Or.inl ⟨by rfl, ?yg2⟩) ?_
        case yg2 => (intro wS _; go_simp <;> with_reducible rfl)
        try simp only [Act.put, List.setIfInBounds_toArray, List.set_cons_zero, List.set_cons_succ]
        refine wpG_pure (i := 2) (oi := { dst := some 160, op := Go.Op.move (Go.Operand.tmp 22), type := 3, pos := "zsortanyfunc.go:441", after := #[], guard := none }) (v := ?vg3) rfl (by kernel_rfl) (fun _ _ _ h => h) (Or.inr hHeld) (Or.inl ⟨by rfl, ?yg3⟩) ?_
        case yg3 => (intro wS _; go_simp <;> with_reducible rfl)
        try simp only [Act.put, List.setIfInBounds_toArray, List.set_cons_zero, List.set_cons_succ]
        refine wpG_pure (i := 3) (oi := { dst := some 161, op := Go.Op.move (Go.Operand.tmp 23), type := 3, pos := "zsortanyfunc.go:441", after := #[], guard := none }) (v := ?vg4) rfl (by kernel_rfl) (fun _ _ _ h => h) (Or.inr hHeld) (Or.inl ⟨by rfl, ?yg4⟩) ?_
        case yg4 => (intro wS _; go_simp <;> with_reducible rfl)
        try simp only [Act.put, List.setIfInBounds_toArray, List.set_cons_zero, List.set_cons_succ]
        refine wpG_pure (i := 4) (oi := { dst := some 162, op := Go.Op.binOp Go.BinOp.sub 3 (Go.Operand.tmp 160) (Go.Operand.tmp 161) 3, type := 3, pos := "zsortanyfunc.go:441", after := #[{ on := 2, ground := Go.Ground.data }, { on := 3, ground := Go.Ground.data }], guard := none }) (v := ?vg5) rfl (by kernel_rfl) (fun _ _ _ h => h) (Or.inr hHeld) (Or.inl ⟨by rfl, ?yg5⟩) ?_
        case yg5 => (intro wS _; go_simp <;> with_reducible rfl)
        try simp only [Act.put, List.setIfInBounds_toArray, List.set_cons_zero, List.set_cons_succ]
        refine wpG_pure (i := 5) (oi := { dst := some 163, op := Go.Op.indexAddr 49 (Go.Operand.tmp 159) (Go.Operand.tmp 162), type := 0, pos := "zsortanyfunc.go:441", after := #[{ on := 1, ground := Go.Ground.data }, { on := 4, ground := Go.Ground.data }], guard := none }) (v := ?vg6) rfl (by kernel_rfl) (fun _ _ _ h => h) (Or.inr hHeld) (Or.inl ⟨by rfl, ?yg6⟩) ?_
        case yg6 => (intro wS _; go_simp <;> with_reducible rfl)
        try simp only [Act.put, List.setIfInBounds_toArray, List.set_cons_zero, List.set_cons_succ]
        refine wpG_load (i := 6) (oi := { dst := some 164, op := Go.Op.load 57 (Go.Operand.tmp 163), type := 57, pos := "zsortanyfunc.go:441", after := #[{ on := 5, ground := Go.Ground.data }], guard := none }) (v := ?vg7) [[11, 6]] rfl (by kernel_rfl) (fun _ _ _ h => h) hHeld (Or.inl ⟨by rfl, ?yg7⟩) ?_
        case yg7 => (intro wS hSw; (try dsimp only at hSw); go_simp <;> with_reducible rfl)
        try simp only [Act.put, List.setIfInBounds_toArray, List.set_cons_zero, List.set_cons_succ]
        refine wpG_pure (i := 7) (oi := { dst := some 165, op := Go.Op.move (Go.Operand.tmp 0), type := 49, pos := "zsortanyfunc.go:441", after := #[], guard := none }) (v := ?vg8) rfl (by kernel_rfl) (fun _ _ _ h => h) (Or.inr hHeld) (Or.inl ⟨by rfl, ?yg8⟩) ?_
        case yg8 => (intro wS _; go_simp <;> with_reducible rfl)
        try simp only [Act.put, List.setIfInBounds_toArray, List.set_cons_zero, List.set_cons_succ]
        refine wpG_pure (i := 8) (oi := { dst := some 166, op := Go.Op.move (Go.Operand.tmp 23), type := 3, pos := "zsortanyfunc.go:441", after := #[], guard := none }) (v := ?vg9) rfl (by kernel_rfl) (fun _ _ _ h => h) (Or.inr hHeld) (Or.inl ⟨by rfl, ?yg9⟩) ?_
        case yg9 => (intro wS _; go_simp <;> with_reducible rfl)
        try simp only [Act.put, List.setIfInBounds_toArray, List.set_cons_zero, List.set_cons_succ]
        refine wpG_pure (i := 9) (oi := { dst := some 167, op := Go.Op.indexAddr 49 (Go.Operand.tmp 165) (Go.Operand.tmp 166), type := 0, pos := "zsortanyfunc.go:441", after := #[{ on := 7, ground := Go.Ground.data }, { on := 8, ground := Go.Ground.data }], guard := none }) (v := ?vg10) rfl (by kernel_rfl) (fun _ _ _ h => h) (Or.inr hHeld) (Or.inl ⟨by rfl, ?yg10⟩) ?_
        case yg10 => (intro wS _; go_simp <;> with_reducible rfl)
        try simp only [Act.put, List.setIfInBounds_toArray, List.set_cons_zero, List.set_cons_succ]
        refine wpG_load (i := 10) (oi := { dst := some 168, op := Go.Op.load 57 (Go.Operand.tmp 167), type := 57, pos := "zsortanyfunc.go:441", after := #[{ on := 9, ground := Go.Ground.data }], guard := none }) (v := ?vg11) [[11, 10]] rfl (by kernel_rfl) (fun _ _ _ h => h) hHeld (Or.inl ⟨by rfl, ?yg11⟩) ?_
        case yg11 => (intro wS hSw; (try dsimp only at hSw); go_simp <;> with_reducible rfl)
        try simp only [Act.put, List.setIfInBounds_toArray, List.set_cons_zero, List.set_cons_succ]
        refine wpG_one (i := 11) (o := { dst := some 169, op := Go.Op.call { callee := Go.Callee.value (Go.Operand.tmp 158), args := #[Go.Operand.tmp 164, Go.Operand.tmp 168], argTypes := #[57, 57] }, type := 3, pos := "zsortanyfunc.go:441", after := #[{ on := 0, ground := Go.Ground.data }, { on := 6, ground := Go.Ground.data }, { on := 10, ground := Go.Ground.data }], guard := none }) rfl (by kernel_rfl) (fun K hK => ?_)
        go_simp
        refine HC.out.mono ?_
        rintro e w3 ⟨rfl, hb3⟩
        have HR3 := Lib.hid (HR.out.drew.step hb3)
        clear hb3
        refine hK.out _ _ (Or.inl (by kernel_rfl)) (fun _ => ?_)
        clear hK K
        try simp only [Act.put, List.setIfInBounds_toArray, List.set_cons_zero, List.set_cons_succ]
        refine wpG_pure (i := 12) (oi := { dst := some 170, op := Go.Op.binOp Go.BinOp.lss 3 (Go.Operand.tmp 169) (Go.Operand.const (Go.Value.int Go.IntKind.i64 0)) 3, type := 4, pos := "zsortanyfunc.go:441", after := #[{ on := 11, ground := Go.Ground.data }], guard := none }) (v := ?vg13) rfl (by kernel_rfl) (fun _ _ _ h => h) (Or.inl (by kernel_rfl)) (Or.inl ⟨by rfl, ?yg13⟩) ?_
        case yg13 => (intro wS _; go_simp <;> with_reducible rfl)
        try simp only [Act.put, List.setIfInBounds_toArray, List.set_cons_zero, List.set_cons_succ]
        refine wpG_pure (i := 13) (oi := { dst := some 171, op := Go.Op.unOp Go.UnOp.not 4 (Go.Operand.tmp 170), type := 4, pos := "zsortanyfunc.go:441", after := #[{ on := 12, ground := Go.Ground.data }], guard := none }) (v := ?vg14) rfl (by kernel_rfl) (fun _ _ _ h => h) (Or.inl (by kernel_rfl)) (Or.inl ⟨by rfl, ?yg14⟩) ?_
        case yg14 => (intro wS _; go_simp <;> with_reducible rfl)
        try simp only [Act.put, List.setIfInBounds_toArray, List.set_cons_zero, List.set_cons_succ]
        refine wpG_done (by kernel_rfl) ?_
        go_wp2_with fail
        go_roundw
        case rel => exact ⟨st, c, rfl, rfl, by rw [← hM]; exact HR3, by rw [← hM]; exact HFN⟩
        case measure => simp [intOf]; omega
      · have hcc : cmpI x.no y.no = 0 ∨ cmpI x.no y.no = 1 := by unfold cmpI; rw [if_neg hxy]; split <;> simp
        generalize cmpI x.no y.no = cv at *
        have hcn : ¬ cv < 0 := by omega
        have hcd : decide (cv < 0) = false := decide_eq_false hcn
        have hce : (!decide (cv < 0)) = true := by rw [hcd]; rfl
        have HFN := Lib.hid (find_lo HFC.out hb1 hb2 (by omega) (by omega) (by omega) (by omega) HSA.out HSB0.out (by rw [hpce]; omega))
        clear hxy hcc hx hy hpce hpc
        have hW1 : IntKind.i64.wrap (((pc) : Nat) : Int) = (((pc) : Nat) : Int) := IntWalk.i64_in _ (by omega)
        have hW2 : IntKind.i64.wrap (((c) : Nat) : Int) = (((c) : Nat) : Int) := IntWalk.i64_in _ (by omega)
        go_wp2_with fail
        refine wp_region_G [11] (fun w' => (w'.cell? ⟨g, (pc) * 4, none⟩ = some (.int .i64 x.no) ∧ w'.cell? ⟨g, (pc) * 4 + 1, none⟩ = some (.int .i64 x.kind) ∧ w'.cell? ⟨g, (pc) * 4 + 2, none⟩ = some (.int .i64 x.num) ∧ w'.cell? ⟨g, (pc) * 4 + 3, none⟩ = some (.string x.data)) ∧ w'.cell? ⟨g, (c) * 4, none⟩ = some (.int .i64 y.no) ∧ w'.cell? ⟨g, (c) * 4 + 1, none⟩ = some (.int .i64 y.kind) ∧ w'.cell? ⟨g, (c) * 4 + 2, none⟩ = some (.int .i64 y.num) ∧ w'.cell? ⟨g, (c) * 4 + 3, none⟩ = some (.string y.data)) (by kernel_rfl) ?_ (fun hHeld => ?_)
        · exact ⟨⟨x0, x1, x2, x3⟩, y0, y1, y2, y3⟩
        refine wpG_pure (i := 0) (oi := { dst := some 158, op := Go.Op.move (Go.Operand.tmp 4), type := 114, pos := "zsortanyfunc.go:441", after := #[], guard := none }) (v := ?vg15) rfl (by kernel_rfl) (fun _ _ _ h => h) (Or.inr hHeld) (Or.inl ⟨by rfl, ?yg15⟩) ?_
        case yg15 => (intro wS _; go_simp <;> with_reducible rfl)
        try simp only [Act.put, List.setIfInBounds_toArray, List.set_cons_zero, List.set_cons_succ]
        refine wpG_pure (i := 1) (oi := { dst := some 159, op := Go.Op.move (Go.Operand.tmp 0), type := 49, pos := "zsortanyfunc.go:441", after := #[], guard := none }) (v := ?vg16) rfl (by kernel_rfl) (fun _ _ _ h => h) (Or.inr hHeld) (Or.inl ⟨by rfl, ?yg16⟩) ?_
        case yg16 => (intro wS _; go_simp <;> with_reducible rfl)
        try simp only [Act.put, List.setIfInBounds_toArray, List.set_cons_zero, List.set_cons_succ]
        refine wpG_pure (i := 2) (oi := { dst := some 160, op := Go.Op.move (Go.Operand.tmp 22), type := 3, pos := "zsortanyfunc.go:441", after := #[], guard := none }) (v := ?vg17) rfl (by kernel_rfl) (fun _ _ _ h => h) (Or.inr hHeld) (Or.inl ⟨by rfl, ?yg17⟩) ?_
        case yg17 => (intro wS _; go_simp <;> with_reducible rfl)
        try simp only [Act.put, List.setIfInBounds_toArray, List.set_cons_zero, List.set_cons_succ]
        refine wpG_pure (i := 3) (oi := { dst := some 161, op := Go.Op.move (Go.Operand.tmp 23), type := 3, pos := "zsortanyfunc.go:441", after := #[], guard := none }) (v := ?vg18) rfl (by kernel_rfl) (fun _ _ _ h => h) (Or.inr hHeld) (Or.inl ⟨by rfl, ?yg18⟩) ?_
        case yg18 => (intro wS _; go_simp <;> with_reducible rfl)
        try simp only [Act.put, List.setIfInBounds_toArray, List.set_cons_zero, List.set_cons_succ]
        refine wpG_pure (i := 4) (oi := { dst := some 162, op := Go.Op.binOp Go.BinOp.sub 3 (Go.Operand.tmp 160) (Go.Operand.tmp 161) 3, type := 3, pos := "zsortanyfunc.go:441", after := #[{ on := 2, ground := Go.Ground.data }, { on := 3, ground := Go.Ground.data }], guard := none }) (v := ?vg19) rfl (by kernel_rfl) (fun _ _ _ h => h) (Or.inr hHeld) (Or.inl ⟨by rfl, ?yg19⟩) ?_
        case yg19 => (intro wS _; go_simp <;> with_reducible rfl)
        try simp only [Act.put, List.setIfInBounds_toArray, List.set_cons_zero, List.set_cons_succ]
        refine wpG_pure (i := 5) (oi := { dst := some 163, op := Go.Op.indexAddr 49 (Go.Operand.tmp 159) (Go.Operand.tmp 162), type := 0, pos := "zsortanyfunc.go:441", after := #[{ on := 1, ground := Go.Ground.data }, { on := 4, ground := Go.Ground.data }], guard := none }) (v := ?vg20) rfl (by kernel_rfl) (fun _ _ _ h => h) (Or.inr hHeld) (Or.inl ⟨by rfl, ?yg20⟩) ?_
        case yg20 => (intro wS _; go_simp <;> with_reducible rfl)
        try simp only [Act.put, List.setIfInBounds_toArray, List.set_cons_zero, List.set_cons_succ]
        refine wpG_load (i := 6) (oi := { dst := some 164, op := Go.Op.load 57 (Go.Operand.tmp 163), type := 57, pos := "zsortanyfunc.go:441", after := #[{ on := 5, ground := Go.Ground.data }], guard := none }) (v := ?vg21) [[11, 6]] rfl (by kernel_rfl) (fun _ _ _ h => h) hHeld (Or.inl ⟨by rfl, ?yg21⟩) ?_
        case yg21 => (intro wS hSw; (try dsimp only at hSw); go_simp <;> with_reducible rfl)
        try simp only [Act.put, List.setIfInBounds_toArray, List.set_cons_zero, List.set_cons_succ]
        refine wpG_pure (i := 7) (oi := { dst := some 165, op := Go.Op.move (Go.Operand.tmp 0), type := 49, pos := "zsortanyfunc.go:441", after := #[], guard := none }) (v := ?vg22) rfl (by kernel_rfl) (fun _ _ _ h => h) (Or.inr hHeld) (Or.inl ⟨by rfl, ?yg22⟩) ?_
        case yg22 => (intro wS _; go_simp <;> with_reducible rfl)
        try simp only [Act.put, List.setIfInBounds_toArray, List.set_cons_zero, List.set_cons_succ]
        refine wpG_pure (i := 8) (oi := { dst := some 166, op := Go.Op.move (Go.Operand.tmp 23), type := 3, pos := "zsortanyfunc.go:441", after := #[], guard := none }) (v := ?vg23) rfl (by kernel_rfl) (fun _ _ _ h => h) (Or.inr hHeld) (Or.inl ⟨by rfl, ?yg23⟩) ?_
        case yg23 => (intro wS _; go_simp <;> with_reducible rfl)
        try simp only [Act.put, List.setIfInBounds_toArray, List.set_cons_zero, List.set_cons_succ]
        refine wpG_pure (i := 9) (oi := { dst := some 167, op := Go.Op.indexAddr 49 (Go.Operand.tmp 165) (Go.Operand.tmp 166), type := 0, pos := "zsortanyfunc.go:441", after := #[{ on := 7, ground := Go.Ground.data }, { on := 8, ground := Go.Ground.data }], guard := none }) (v := ?vg24) rfl (by kernel_rfl) (fun _ _ _ h => h) (Or.inr hHeld) (Or.inl ⟨by rfl, ?yg24⟩) ?_
        case yg24 => (intro wS _; go_simp <;> with_reducible rfl)
        try simp only [Act.put, List.setIfInBounds_toArray, List.set_cons_zero, List.set_cons_succ]
        refine wpG_load (i := 10) (oi := { dst := some 168, op := Go.Op.load 57 (Go.Operand.tmp 167), type := 57, pos := "zsortanyfunc.go:441", after := #[{ on := 9, ground := Go.Ground.data }], guard := none }) (v := ?vg25) [[11, 10]] rfl (by kernel_rfl) (fun _ _ _ h => h) hHeld (Or.inl ⟨by rfl, ?yg25⟩) ?_
        case yg25 => (intro wS hSw; (try dsimp only at hSw); go_simp <;> with_reducible rfl)
        try simp only [Act.put, List.setIfInBounds_toArray, List.set_cons_zero, List.set_cons_succ]
        refine wpG_one (i := 11) (o := { dst := some 169, op := Go.Op.call { callee := Go.Callee.value (Go.Operand.tmp 158), args := #[Go.Operand.tmp 164, Go.Operand.tmp 168], argTypes := #[57, 57] }, type := 3, pos := "zsortanyfunc.go:441", after := #[{ on := 0, ground := Go.Ground.data }, { on := 6, ground := Go.Ground.data }, { on := 10, ground := Go.Ground.data }], guard := none }) rfl (by kernel_rfl) (fun K hK => ?_)
        go_simp
        refine HC.out.mono ?_
        rintro e w3 ⟨rfl, hb3⟩
        have HR3 := Lib.hid (HR.out.drew.step hb3)
        clear hb3
        refine hK.out _ _ (Or.inl (by kernel_rfl)) (fun _ => ?_)
        clear hK K
        try simp only [Act.put, List.setIfInBounds_toArray, List.set_cons_zero, List.set_cons_succ]
        refine wpG_pure (i := 12) (oi := { dst := some 170, op := Go.Op.binOp Go.BinOp.lss 3 (Go.Operand.tmp 169) (Go.Operand.const (Go.Value.int Go.IntKind.i64 0)) 3, type := 4, pos := "zsortanyfunc.go:441", after := #[{ on := 11, ground := Go.Ground.data }], guard := none }) (v := ?vg27) rfl (by kernel_rfl) (fun _ _ _ h => h) (Or.inl (by kernel_rfl)) (Or.inl ⟨by rfl, ?yg27⟩) ?_
        case yg27 => (intro wS _; go_simp <;> with_reducible rfl)
        try simp only [Act.put, List.setIfInBounds_toArray, List.set_cons_zero, List.set_cons_succ]
        refine wpG_pure (i := 13) (oi := { dst := some 171, op := Go.Op.unOp Go.UnOp.not 4 (Go.Operand.tmp 170), type := 4, pos := "zsortanyfunc.go:441", after := #[{ on := 12, ground := Go.Ground.data }], guard := none }) (v := ?vg28) rfl (by kernel_rfl) (fun _ _ _ h => h) (Or.inl (by kernel_rfl)) (Or.inl ⟨by rfl, ?yg28⟩) ?_
        case yg28 => (intro wS _; go_simp <;> with_reducible rfl)
        try simp only [Act.put, List.setIfInBounds_toArray, List.set_cons_zero, List.set_cons_succ]
        refine wpG_done (by kernel_rfl) ?_
        go_wp2_with fail
        go_roundw
        case rel => exact ⟨c + 1, r, by go_num, rfl, by rw [← hM]; exact HR3, by rw [← hM]; exact HFN⟩
        case measure => simp [intOf]; omega
        try (case roundEnd => rename_i hq9; rw [hcd] at hq9; exact absurd hq9 (by decide))
  · have hgt : ¬ (m : Int) > (mid : Int) := by omega
    clear hmid
    go_enter Try.func142, Try.ntmps142
    go_wp2_with fail
    go_loopw [20, 21] (fun sv rv wr => ∃ (st r : Nat), sv = .int .i64 (st : Int) ∧ rv = .int .i64 (r : Int) ∧ Hid (RowS w0 g n cap L wr) ∧ Hid (FindC L p a m st r)) (fun sv rv _ => (intOf rv).toNat - (intOf sv).toNat)
    case atStart => exact ⟨a, m, rfl, rfl, HR0, Lib.hid (find_start (by omega))⟩
    case round =>
      clear HR0
      obtain ⟨w2, rfl⟩ : ∃ z : World, z = wr := ⟨_, rfl⟩
      obtain ⟨st, r, rfl, rfl, HR, HFC⟩ := hrel
      obtain ⟨ho1, ho2, ho3⟩ := HFC.out.ord
      have hlen := HR.out.len
      by_cases hlt : st < r
      case neg =>
        obtain rfl : r = st := by omega
        obtain ⟨st, hste⟩ : ∃ z, z = r := ⟨_, rfl⟩
        obtain ⟨e, hes⟩ : ∃ z, z + st = nn := ⟨nn - st, by omega⟩
        subst hste
        rw [← hnm] at hes
        have hes2 : e + st = nn := by omega
        clear hlt ho1 ho2 ho3
        have HCUT := Lib.hid (find_cut (e := e) HFC.out h1 h2 HMID.out hpm hes (by omega) HSA.out HSB0.out)
        have hord := HCUT.out.ord
        have q5 : (nn : Int) - (st : Int) = (e : Int) := by omega
        by_cases hc1 : st < m ∧ m < e
        · have q1a : (st : Int) < (m : Int) := by omega
          have q1b : (m : Int) < (e : Int) := by omega
          have H1 := Lib.hid (sort_rotate w0 g n cap L st m e w2 hnc hcm hn hc1.1 hc1.2 (by omega) HR.out (.func (.func 86) #[] #[]))
          unfold RtO at H1
          go_wp2_with fail
          refine H1.out.mono ?_
          rintro e7 w7 ⟨rfl, N, hr7, hrt7⟩
          have HRN := Lib.hid hr7
          have HCR := Lib.hid (cut_rt HCUT.out hrt7 HSA.out HSB0.out)
          have HTN := Lib.hid ((rt_st hrt7 (by omega) (by omega) (by have := HR.out.len; omega) HCUT.out.low).wide (a' := a) (b' := b) (by omega) (by omega))
          clear hr7 hrt7
          by_cases hc2 : a < st ∧ st < mid
          · have q2a : (a : Int) < (st : Int) := by omega
            have q2b : (st : Int) < (mid : Int) := by omega
            have H2 := Lib.hid (HI.out a st mid hc2.1 hc2.2 (by omega) (by omega) N w7 HCR.out.1 HCR.out.2.1 HRN.out)
            unfold SortP at H2
            go_wp2_with fail
            refine H2.out.mono ?_
            rintro e8 w8 ⟨rfl, N1, hr8, hst8, hso8⟩
            have HRW := Lib.hid hr8
            have HS1 := Lib.hid (show St L N a b ∧ St N N1 a mid ∧ _ ∧ So N1 mid e ∧ So N1 e b ∧ So N1 a mid ∧ b ≤ (N).length ∧ True from ⟨HTN.out, hst8, HCR.out.2.2.2.2, hst8.keep_so HCR.out.2.2.1 (.inr (Nat.le_refl _)), hst8.keep_so HCR.out.2.2.2.1 (.inr (by omega)), hso8, by have := HRN.out.len; omega, trivial⟩)
            clear hr8 hst8 hso8
            by_cases hc3 : mid < e ∧ e < b
            · have q3a : (mid : Int) < (e : Int) := by omega
              have q3b : (e : Int) < (b : Int) := by omega
              have H3 := Lib.hid (HI.out mid e b hc3.1 hc3.2 h3 (by omega) N1 w8 (HS1.out.2.2.2.1) (HS1.out.2.2.2.2.1) HRW.out)
              unfold SortP at H3
              go_wp2_with fail
              all_goals
                refine H3.out.mono ?_
                rintro e9 w9 ⟨rfl, N2, hr9, hst9, hso9⟩
                have HR9 := Lib.hid hr9
                have HF := Lib.hid (cut_end (a := a) (mid := mid) (b := b) (by omega) (by omega) HS1.out.2.2.1 HS1.out.2.1 hst9 HS1.out.2.2.2.2.2.1 hso9 HS1.out.2.2.2.2.2.2.1)
                have HT := Lib.hid (HS1.out.1.trans ((HS1.out.2.1.wide (Nat.le_refl _) (by omega)).trans (hst9.wide (by omega) (Nat.le_refl _))))
                clear hr9 hst9 hso9
                go_wp2_with fail
                all_goals
                  first | (refine bodyPost_ret (results_none rfl _ _ _) rfl ?_) | (refine bodyPost_end (results_none rfl _ _ _) rfl ?_)
                  exact ⟨rfl, N2, HR9.out, HT.out, HF.out⟩
            · have HSB := Lib.hid (so_join HS1.out.2.2.2.1 HS1.out.2.2.2.2.1 hc3 (by omega) (by omega))
              have HF := Lib.hid (cut_end (a := a) (mid := mid) (b := b) (by omega) (by omega) HS1.out.2.2.1 HS1.out.2.1 (St.refl _ _ _) HS1.out.2.2.2.2.2.1 HSB.out HS1.out.2.2.2.2.2.2.1)
              have HT := Lib.hid (HS1.out.1.trans (HS1.out.2.1.wide (Nat.le_refl _) (by omega)))
              by_cases hc3a : mid < e
              · have q3a : (mid : Int) < (e : Int) := by omega
                have q3b : ¬ (e : Int) < (b : Int) := by omega
                go_wp2_with fail
                all_goals
                  first | (refine bodyPost_ret (results_none rfl _ _ _) rfl ?_) | (refine bodyPost_end (results_none rfl _ _ _) rfl ?_)
                  exact ⟨rfl, N1, HRW.out, HT.out, HF.out⟩
              · have q3a : ¬ (mid : Int) < (e : Int) := by omega
                go_wp2_with fail
                all_goals
                  first | (refine bodyPost_ret (results_none rfl _ _ _) rfl ?_) | (refine bodyPost_end (results_none rfl _ _ _) rfl ?_)
                  exact ⟨rfl, N1, HRW.out, HT.out, HF.out⟩
          · have HRW := HRN
            have HS1 := Lib.hid (show St L N a b ∧ St N N a mid ∧ _ ∧ So N mid e ∧ So N e b ∧ So N a mid ∧ b ≤ (N).length ∧ True from ⟨HTN.out, St.refl _ _ _, HCR.out.2.2.2.2, HCR.out.2.2.1, HCR.out.2.2.2.1, so_join HCR.out.1 HCR.out.2.1 hc2 (by omega) (by omega), by have := HRN.out.len; omega, trivial⟩)
            by_cases hc2a : a < st
            · have q2a : (a : Int) < (st : Int) := by omega
              have q2b : ¬ (st : Int) < (mid : Int) := by omega
              by_cases hc3 : mid < e ∧ e < b
              · have q3a : (mid : Int) < (e : Int) := by omega
                have q3b : (e : Int) < (b : Int) := by omega
                have H3 := Lib.hid (HI.out mid e b hc3.1 hc3.2 h3 (by omega) N w7 (HS1.out.2.2.2.1) (HS1.out.2.2.2.2.1) HRW.out)
                unfold SortP at H3
                go_wp2_with fail
                all_goals
                  refine H3.out.mono ?_
                  rintro e9 w9 ⟨rfl, N2, hr9, hst9, hso9⟩
                  have HR9 := Lib.hid hr9
                  have HF := Lib.hid (cut_end (a := a) (mid := mid) (b := b) (by omega) (by omega) HS1.out.2.2.1 HS1.out.2.1 hst9 HS1.out.2.2.2.2.2.1 hso9 HS1.out.2.2.2.2.2.2.1)
                  have HT := Lib.hid (HS1.out.1.trans ((HS1.out.2.1.wide (Nat.le_refl _) (by omega)).trans (hst9.wide (by omega) (Nat.le_refl _))))
                  clear hr9 hst9 hso9
                  go_wp2_with fail
                  all_goals
                    first | (refine bodyPost_ret (results_none rfl _ _ _) rfl ?_) | (refine bodyPost_end (results_none rfl _ _ _) rfl ?_)
                    exact ⟨rfl, N2, HR9.out, HT.out, HF.out⟩
              · have HSB := Lib.hid (so_join HS1.out.2.2.2.1 HS1.out.2.2.2.2.1 hc3 (by omega) (by omega))
                have HF := Lib.hid (cut_end (a := a) (mid := mid) (b := b) (by omega) (by omega) HS1.out.2.2.1 HS1.out.2.1 (St.refl _ _ _) HS1.out.2.2.2.2.2.1 HSB.out HS1.out.2.2.2.2.2.2.1)
                have HT := Lib.hid (HS1.out.1.trans (HS1.out.2.1.wide (Nat.le_refl _) (by omega)))
                by_cases hc3a : mid < e
                · have q3a : (mid : Int) < (e : Int) := by omega
                  have q3b : ¬ (e : Int) < (b : Int) := by omega
                  go_wp2_with fail
                  all_goals
                    first | (refine bodyPost_ret (results_none rfl _ _ _) rfl ?_) | (refine bodyPost_end (results_none rfl _ _ _) rfl ?_)
                    exact ⟨rfl, N, HRW.out, HT.out, HF.out⟩
                · have q3a : ¬ (mid : Int) < (e : Int) := by omega
                  go_wp2_with fail
                  all_goals
                    first | (refine bodyPost_ret (results_none rfl _ _ _) rfl ?_) | (refine bodyPost_end (results_none rfl _ _ _) rfl ?_)
                    exact ⟨rfl, N, HRW.out, HT.out, HF.out⟩
            · have q2a : ¬ (a : Int) < (st : Int) := by omega
              by_cases hc3 : mid < e ∧ e < b
              · have q3a : (mid : Int) < (e : Int) := by omega
                have q3b : (e : Int) < (b : Int) := by omega
                have H3 := Lib.hid (HI.out mid e b hc3.1 hc3.2 h3 (by omega) N w7 (HS1.out.2.2.2.1) (HS1.out.2.2.2.2.1) HRW.out)
                unfold SortP at H3
                go_wp2_with fail
                all_goals
                  refine H3.out.mono ?_
                  rintro e9 w9 ⟨rfl, N2, hr9, hst9, hso9⟩
                  have HR9 := Lib.hid hr9
                  have HF := Lib.hid (cut_end (a := a) (mid := mid) (b := b) (by omega) (by omega) HS1.out.2.2.1 HS1.out.2.1 hst9 HS1.out.2.2.2.2.2.1 hso9 HS1.out.2.2.2.2.2.2.1)
                  have HT := Lib.hid (HS1.out.1.trans ((HS1.out.2.1.wide (Nat.le_refl _) (by omega)).trans (hst9.wide (by omega) (Nat.le_refl _))))
                  clear hr9 hst9 hso9
                  go_wp2_with fail
                  all_goals
                    first | (refine bodyPost_ret (results_none rfl _ _ _) rfl ?_) | (refine bodyPost_end (results_none rfl _ _ _) rfl ?_)
                    exact ⟨rfl, N2, HR9.out, HT.out, HF.out⟩
              · have HSB := Lib.hid (so_join HS1.out.2.2.2.1 HS1.out.2.2.2.2.1 hc3 (by omega) (by omega))
                have HF := Lib.hid (cut_end (a := a) (mid := mid) (b := b) (by omega) (by omega) HS1.out.2.2.1 HS1.out.2.1 (St.refl _ _ _) HS1.out.2.2.2.2.2.1 HSB.out HS1.out.2.2.2.2.2.2.1)
                have HT := Lib.hid (HS1.out.1.trans (HS1.out.2.1.wide (Nat.le_refl _) (by omega)))
                by_cases hc3a : mid < e
                · have q3a : (mid : Int) < (e : Int) := by omega
                  have q3b : ¬ (e : Int) < (b : Int) := by omega
                  go_wp2_with fail
                  all_goals
                    first | (refine bodyPost_ret (results_none rfl _ _ _) rfl ?_) | (refine bodyPost_end (results_none rfl _ _ _) rfl ?_)
                    exact ⟨rfl, N, HRW.out, HT.out, HF.out⟩
                · have q3a : ¬ (mid : Int) < (e : Int) := by omega
                  go_wp2_with fail
                  all_goals
                    first | (refine bodyPost_ret (results_none rfl _ _ _) rfl ?_) | (refine bodyPost_end (results_none rfl _ _ _) rfl ?_)
                    exact ⟨rfl, N, HRW.out, HT.out, HF.out⟩
        · have HRN := HR
          have HRT : Hid (RtS L L st m e) := Lib.hid ⟨rfl, fun t => by
            repeat' split
            all_goals first | rfl | (exfalso; omega) | (congr 1; omega)⟩
          have HCR := Lib.hid (cut_rt HCUT.out HRT.out HSA.out HSB0.out)
          have HTN := Lib.hid (St.refl L a b)
          by_cases hc1a : st < m
          · have q1a : (st : Int) < (m : Int) := by omega
            have q1b : ¬ (m : Int) < (e : Int) := by omega
            by_cases hc2 : a < st ∧ st < mid
            · have q2a : (a : Int) < (st : Int) := by omega
              have q2b : (st : Int) < (mid : Int) := by omega
              have H2 := Lib.hid (HI.out a st mid hc2.1 hc2.2 (by omega) (by omega) L w2 HCR.out.1 HCR.out.2.1 HRN.out)
              unfold SortP at H2
              go_wp2_with fail
              refine H2.out.mono ?_
              rintro e8 w8 ⟨rfl, N1, hr8, hst8, hso8⟩
              have HRW := Lib.hid hr8
              have HS1 := Lib.hid (show St L L a b ∧ St L N1 a mid ∧ _ ∧ So N1 mid e ∧ So N1 e b ∧ So N1 a mid ∧ b ≤ (L).length ∧ True from ⟨HTN.out, hst8, HCR.out.2.2.2.2, hst8.keep_so HCR.out.2.2.1 (.inr (Nat.le_refl _)), hst8.keep_so HCR.out.2.2.2.1 (.inr (by omega)), hso8, by have := HRN.out.len; omega, trivial⟩)
              clear hr8 hst8 hso8
              by_cases hc3 : mid < e ∧ e < b
              · have q3a : (mid : Int) < (e : Int) := by omega
                have q3b : (e : Int) < (b : Int) := by omega
                have H3 := Lib.hid (HI.out mid e b hc3.1 hc3.2 h3 (by omega) N1 w8 (HS1.out.2.2.2.1) (HS1.out.2.2.2.2.1) HRW.out)
                unfold SortP at H3
                go_wp2_with fail
                all_goals
                  refine H3.out.mono ?_
                  rintro e9 w9 ⟨rfl, N2, hr9, hst9, hso9⟩
                  have HR9 := Lib.hid hr9
                  have HF := Lib.hid (cut_end (a := a) (mid := mid) (b := b) (by omega) (by omega) HS1.out.2.2.1 HS1.out.2.1 hst9 HS1.out.2.2.2.2.2.1 hso9 HS1.out.2.2.2.2.2.2.1)
                  have HT := Lib.hid (HS1.out.1.trans ((HS1.out.2.1.wide (Nat.le_refl _) (by omega)).trans (hst9.wide (by omega) (Nat.le_refl _))))
                  clear hr9 hst9 hso9
                  go_wp2_with fail
                  all_goals
                    first | (refine bodyPost_ret (results_none rfl _ _ _) rfl ?_) | (refine bodyPost_end (results_none rfl _ _ _) rfl ?_)
                    exact ⟨rfl, N2, HR9.out, HT.out, HF.out⟩
              · have HSB := Lib.hid (so_join HS1.out.2.2.2.1 HS1.out.2.2.2.2.1 hc3 (by omega) (by omega))
                have HF := Lib.hid (cut_end (a := a) (mid := mid) (b := b) (by omega) (by omega) HS1.out.2.2.1 HS1.out.2.1 (St.refl _ _ _) HS1.out.2.2.2.2.2.1 HSB.out HS1.out.2.2.2.2.2.2.1)
                have HT := Lib.hid (HS1.out.1.trans (HS1.out.2.1.wide (Nat.le_refl _) (by omega)))
                by_cases hc3a : mid < e
                · have q3a : (mid : Int) < (e : Int) := by omega
                  have q3b : ¬ (e : Int) < (b : Int) := by omega
                  go_wp2_with fail
                  all_goals
                    first | (refine bodyPost_ret (results_none rfl _ _ _) rfl ?_) | (refine bodyPost_end (results_none rfl _ _ _) rfl ?_)
                    exact ⟨rfl, N1, HRW.out, HT.out, HF.out⟩
                · have q3a : ¬ (mid : Int) < (e : Int) := by omega
                  go_wp2_with fail
                  all_goals
                    first | (refine bodyPost_ret (results_none rfl _ _ _) rfl ?_) | (refine bodyPost_end (results_none rfl _ _ _) rfl ?_)
                    exact ⟨rfl, N1, HRW.out, HT.out, HF.out⟩
            · have HRW := HRN
              have HS1 := Lib.hid (show St L L a b ∧ St L L a mid ∧ _ ∧ So L mid e ∧ So L e b ∧ So L a mid ∧ b ≤ (L).length ∧ True from ⟨HTN.out, St.refl _ _ _, HCR.out.2.2.2.2, HCR.out.2.2.1, HCR.out.2.2.2.1, so_join HCR.out.1 HCR.out.2.1 hc2 (by omega) (by omega), by have := HRN.out.len; omega, trivial⟩)
              by_cases hc2a : a < st
              · have q2a : (a : Int) < (st : Int) := by omega
                have q2b : ¬ (st : Int) < (mid : Int) := by omega
                by_cases hc3 : mid < e ∧ e < b
                · have q3a : (mid : Int) < (e : Int) := by omega
                  have q3b : (e : Int) < (b : Int) := by omega
                  have H3 := Lib.hid (HI.out mid e b hc3.1 hc3.2 h3 (by omega) L w2 (HS1.out.2.2.2.1) (HS1.out.2.2.2.2.1) HRW.out)
                  unfold SortP at H3
                  go_wp2_with fail
                  all_goals
                    refine H3.out.mono ?_
                    rintro e9 w9 ⟨rfl, N2, hr9, hst9, hso9⟩
                    have HR9 := Lib.hid hr9
                    have HF := Lib.hid (cut_end (a := a) (mid := mid) (b := b) (by omega) (by omega) HS1.out.2.2.1 HS1.out.2.1 hst9 HS1.out.2.2.2.2.2.1 hso9 HS1.out.2.2.2.2.2.2.1)
                    have HT := Lib.hid (HS1.out.1.trans ((HS1.out.2.1.wide (Nat.le_refl _) (by omega)).trans (hst9.wide (by omega) (Nat.le_refl _))))
                    clear hr9 hst9 hso9
                    go_wp2_with fail
                    all_goals
                      first | (refine bodyPost_ret (results_none rfl _ _ _) rfl ?_) | (refine bodyPost_end (results_none rfl _ _ _) rfl ?_)
                      exact ⟨rfl, N2, HR9.out, HT.out, HF.out⟩
                · have HSB := Lib.hid (so_join HS1.out.2.2.2.1 HS1.out.2.2.2.2.1 hc3 (by omega) (by omega))
                  have HF := Lib.hid (cut_end (a := a) (mid := mid) (b := b) (by omega) (by omega) HS1.out.2.2.1 HS1.out.2.1 (St.refl _ _ _) HS1.out.2.2.2.2.2.1 HSB.out HS1.out.2.2.2.2.2.2.1)
                  have HT := Lib.hid (HS1.out.1.trans (HS1.out.2.1.wide (Nat.le_refl _) (by omega)))
                  by_cases hc3a : mid < e
                  · have q3a : (mid : Int) < (e : Int) := by omega
                    have q3b : ¬ (e : Int) < (b : Int) := by omega
                    go_wp2_with fail
                    all_goals
                      first | (refine bodyPost_ret (results_none rfl _ _ _) rfl ?_) | (refine bodyPost_end (results_none rfl _ _ _) rfl ?_)
                      exact ⟨rfl, L, HRW.out, HT.out, HF.out⟩
                  · have q3a : ¬ (mid : Int) < (e : Int) := by omega
                    go_wp2_with fail
                    all_goals
                      first | (refine bodyPost_ret (results_none rfl _ _ _) rfl ?_) | (refine bodyPost_end (results_none rfl _ _ _) rfl ?_)
                      exact ⟨rfl, L, HRW.out, HT.out, HF.out⟩
              · have q2a : ¬ (a : Int) < (st : Int) := by omega
                by_cases hc3 : mid < e ∧ e < b
                · have q3a : (mid : Int) < (e : Int) := by omega
                  have q3b : (e : Int) < (b : Int) := by omega
                  have H3 := Lib.hid (HI.out mid e b hc3.1 hc3.2 h3 (by omega) L w2 (HS1.out.2.2.2.1) (HS1.out.2.2.2.2.1) HRW.out)
                  unfold SortP at H3
                  go_wp2_with fail
                  all_goals
                    refine H3.out.mono ?_
                    rintro e9 w9 ⟨rfl, N2, hr9, hst9, hso9⟩
                    have HR9 := Lib.hid hr9
                    have HF := Lib.hid (cut_end (a := a) (mid := mid) (b := b) (by omega) (by omega) HS1.out.2.2.1 HS1.out.2.1 hst9 HS1.out.2.2.2.2.2.1 hso9 HS1.out.2.2.2.2.2.2.1)
                    have HT := Lib.hid (HS1.out.1.trans ((HS1.out.2.1.wide (Nat.le_refl _) (by omega)).trans (hst9.wide (by omega) (Nat.le_refl _))))
                    clear hr9 hst9 hso9
                    go_wp2_with fail
                    all_goals
                      first | (refine bodyPost_ret (results_none rfl _ _ _) rfl ?_) | (refine bodyPost_end (results_none rfl _ _ _) rfl ?_)
                      exact ⟨rfl, N2, HR9.out, HT.out, HF.out⟩
                · have HSB := Lib.hid (so_join HS1.out.2.2.2.1 HS1.out.2.2.2.2.1 hc3 (by omega) (by omega))
                  have HF := Lib.hid (cut_end (a := a) (mid := mid) (b := b) (by omega) (by omega) HS1.out.2.2.1 HS1.out.2.1 (St.refl _ _ _) HS1.out.2.2.2.2.2.1 HSB.out HS1.out.2.2.2.2.2.2.1)
                  have HT := Lib.hid (HS1.out.1.trans (HS1.out.2.1.wide (Nat.le_refl _) (by omega)))
                  by_cases hc3a : mid < e
                  · have q3a : (mid : Int) < (e : Int) := by omega
                    have q3b : ¬ (e : Int) < (b : Int) := by omega
                    go_wp2_with fail
                    all_goals
                      first | (refine bodyPost_ret (results_none rfl _ _ _) rfl ?_) | (refine bodyPost_end (results_none rfl _ _ _) rfl ?_)
                      exact ⟨rfl, L, HRW.out, HT.out, HF.out⟩
                  · have q3a : ¬ (mid : Int) < (e : Int) := by omega
                    go_wp2_with fail
                    all_goals
                      first | (refine bodyPost_ret (results_none rfl _ _ _) rfl ?_) | (refine bodyPost_end (results_none rfl _ _ _) rfl ?_)
                      exact ⟨rfl, L, HRW.out, HT.out, HF.out⟩
          · have q1a : ¬ (st : Int) < (m : Int) := by omega
            by_cases hc2 : a < st ∧ st < mid
            · have q2a : (a : Int) < (st : Int) := by omega
              have q2b : (st : Int) < (mid : Int) := by omega
              have H2 := Lib.hid (HI.out a st mid hc2.1 hc2.2 (by omega) (by omega) L w2 HCR.out.1 HCR.out.2.1 HRN.out)
              unfold SortP at H2
              go_wp2_with fail
              refine H2.out.mono ?_
              rintro e8 w8 ⟨rfl, N1, hr8, hst8, hso8⟩
              have HRW := Lib.hid hr8
              have HS1 := Lib.hid (show St L L a b ∧ St L N1 a mid ∧ _ ∧ So N1 mid e ∧ So N1 e b ∧ So N1 a mid ∧ b ≤ (L).length ∧ True from ⟨HTN.out, hst8, HCR.out.2.2.2.2, hst8.keep_so HCR.out.2.2.1 (.inr (Nat.le_refl _)), hst8.keep_so HCR.out.2.2.2.1 (.inr (by omega)), hso8, by have := HRN.out.len; omega, trivial⟩)
              clear hr8 hst8 hso8
              by_cases hc3 : mid < e ∧ e < b
              · have q3a : (mid : Int) < (e : Int) := by omega
                have q3b : (e : Int) < (b : Int) := by omega
                have H3 := Lib.hid (HI.out mid e b hc3.1 hc3.2 h3 (by omega) N1 w8 (HS1.out.2.2.2.1) (HS1.out.2.2.2.2.1) HRW.out)
                unfold SortP at H3
                go_wp2_with fail
                all_goals
                  refine H3.out.mono ?_
                  rintro e9 w9 ⟨rfl, N2, hr9, hst9, hso9⟩
                  have HR9 := Lib.hid hr9
                  have HF := Lib.hid (cut_end (a := a) (mid := mid) (b := b) (by omega) (by omega) HS1.out.2.2.1 HS1.out.2.1 hst9 HS1.out.2.2.2.2.2.1 hso9 HS1.out.2.2.2.2.2.2.1)
                  have HT := Lib.hid (HS1.out.1.trans ((HS1.out.2.1.wide (Nat.le_refl _) (by omega)).trans (hst9.wide (by omega) (Nat.le_refl _))))
                  clear hr9 hst9 hso9
                  go_wp2_with fail
                  all_goals
                    first | (refine bodyPost_ret (results_none rfl _ _ _) rfl ?_) | (refine bodyPost_end (results_none rfl _ _ _) rfl ?_)
                    exact ⟨rfl, N2, HR9.out, HT.out, HF.out⟩
              · have HSB := Lib.hid (so_join HS1.out.2.2.2.1 HS1.out.2.2.2.2.1 hc3 (by omega) (by omega))
                have HF := Lib.hid (cut_end (a := a) (mid := mid) (b := b) (by omega) (by omega) HS1.out.2.2.1 HS1.out.2.1 (St.refl _ _ _) HS1.out.2.2.2.2.2.1 HSB.out HS1.out.2.2.2.2.2.2.1)
                have HT := Lib.hid (HS1.out.1.trans (HS1.out.2.1.wide (Nat.le_refl _) (by omega)))
                by_cases hc3a : mid < e
                · have q3a : (mid : Int) < (e : Int) := by omega
                  have q3b : ¬ (e : Int) < (b : Int) := by omega
                  go_wp2_with fail
                  all_goals
                    first | (refine bodyPost_ret (results_none rfl _ _ _) rfl ?_) | (refine bodyPost_end (results_none rfl _ _ _) rfl ?_)
                    exact ⟨rfl, N1, HRW.out, HT.out, HF.out⟩
                · have q3a : ¬ (mid : Int) < (e : Int) := by omega
                  go_wp2_with fail
                  all_goals
                    first | (refine bodyPost_ret (results_none rfl _ _ _) rfl ?_) | (refine bodyPost_end (results_none rfl _ _ _) rfl ?_)
                    exact ⟨rfl, N1, HRW.out, HT.out, HF.out⟩
            · have HRW := HRN
              have HS1 := Lib.hid (show St L L a b ∧ St L L a mid ∧ _ ∧ So L mid e ∧ So L e b ∧ So L a mid ∧ b ≤ (L).length ∧ True from ⟨HTN.out, St.refl _ _ _, HCR.out.2.2.2.2, HCR.out.2.2.1, HCR.out.2.2.2.1, so_join HCR.out.1 HCR.out.2.1 hc2 (by omega) (by omega), by have := HRN.out.len; omega, trivial⟩)
              by_cases hc2a : a < st
              · have q2a : (a : Int) < (st : Int) := by omega
                have q2b : ¬ (st : Int) < (mid : Int) := by omega
                by_cases hc3 : mid < e ∧ e < b
                · have q3a : (mid : Int) < (e : Int) := by omega
                  have q3b : (e : Int) < (b : Int) := by omega
                  have H3 := Lib.hid (HI.out mid e b hc3.1 hc3.2 h3 (by omega) L w2 (HS1.out.2.2.2.1) (HS1.out.2.2.2.2.1) HRW.out)
                  unfold SortP at H3
                  go_wp2_with fail
                  all_goals
                    refine H3.out.mono ?_
                    rintro e9 w9 ⟨rfl, N2, hr9, hst9, hso9⟩
                    have HR9 := Lib.hid hr9
                    have HF := Lib.hid (cut_end (a := a) (mid := mid) (b := b) (by omega) (by omega) HS1.out.2.2.1 HS1.out.2.1 hst9 HS1.out.2.2.2.2.2.1 hso9 HS1.out.2.2.2.2.2.2.1)
                    have HT := Lib.hid (HS1.out.1.trans ((HS1.out.2.1.wide (Nat.le_refl _) (by omega)).trans (hst9.wide (by omega) (Nat.le_refl _))))
                    clear hr9 hst9 hso9
                    go_wp2_with fail
                    all_goals
                      first | (refine bodyPost_ret (results_none rfl _ _ _) rfl ?_) | (refine bodyPost_end (results_none rfl _ _ _) rfl ?_)
                      exact ⟨rfl, N2, HR9.out, HT.out, HF.out⟩
                · have HSB := Lib.hid (so_join HS1.out.2.2.2.1 HS1.out.2.2.2.2.1 hc3 (by omega) (by omega))
                  have HF := Lib.hid (cut_end (a := a) (mid := mid) (b := b) (by omega) (by omega) HS1.out.2.2.1 HS1.out.2.1 (St.refl _ _ _) HS1.out.2.2.2.2.2.1 HSB.out HS1.out.2.2.2.2.2.2.1)
                  have HT := Lib.hid (HS1.out.1.trans (HS1.out.2.1.wide (Nat.le_refl _) (by omega)))
                  by_cases hc3a : mid < e
                  · have q3a : (mid : Int) < (e : Int) := by omega
                    have q3b : ¬ (e : Int) < (b : Int) := by omega
                    go_wp2_with fail
                    all_goals
                      first | (refine bodyPost_ret (results_none rfl _ _ _) rfl ?_) | (refine bodyPost_end (results_none rfl _ _ _) rfl ?_)
                      exact ⟨rfl, L, HRW.out, HT.out, HF.out⟩
                  · have q3a : ¬ (mid : Int) < (e : Int) := by omega
                    go_wp2_with fail
                    all_goals
                      first | (refine bodyPost_ret (results_none rfl _ _ _) rfl ?_) | (refine bodyPost_end (results_none rfl _ _ _) rfl ?_)
                      exact ⟨rfl, L, HRW.out, HT.out, HF.out⟩
              · have q2a : ¬ (a : Int) < (st : Int) := by omega
                by_cases hc3 : mid < e ∧ e < b
                · have q3a : (mid : Int) < (e : Int) := by omega
                  have q3b : (e : Int) < (b : Int) := by omega
                  have H3 := Lib.hid (HI.out mid e b hc3.1 hc3.2 h3 (by omega) L w2 (HS1.out.2.2.2.1) (HS1.out.2.2.2.2.1) HRW.out)
                  unfold SortP at H3
                  go_wp2_with fail
                  all_goals
                    refine H3.out.mono ?_
                    rintro e9 w9 ⟨rfl, N2, hr9, hst9, hso9⟩
                    have HR9 := Lib.hid hr9
                    have HF := Lib.hid (cut_end (a := a) (mid := mid) (b := b) (by omega) (by omega) HS1.out.2.2.1 HS1.out.2.1 hst9 HS1.out.2.2.2.2.2.1 hso9 HS1.out.2.2.2.2.2.2.1)
                    have HT := Lib.hid (HS1.out.1.trans ((HS1.out.2.1.wide (Nat.le_refl _) (by omega)).trans (hst9.wide (by omega) (Nat.le_refl _))))
                    clear hr9 hst9 hso9
                    go_wp2_with fail
                    all_goals
                      first | (refine bodyPost_ret (results_none rfl _ _ _) rfl ?_) | (refine bodyPost_end (results_none rfl _ _ _) rfl ?_)
                      exact ⟨rfl, N2, HR9.out, HT.out, HF.out⟩
                · have HSB := Lib.hid (so_join HS1.out.2.2.2.1 HS1.out.2.2.2.2.1 hc3 (by omega) (by omega))
                  have HF := Lib.hid (cut_end (a := a) (mid := mid) (b := b) (by omega) (by omega) HS1.out.2.2.1 HS1.out.2.1 (St.refl _ _ _) HS1.out.2.2.2.2.2.1 HSB.out HS1.out.2.2.2.2.2.2.1)
                  have HT := Lib.hid (HS1.out.1.trans (HS1.out.2.1.wide (Nat.le_refl _) (by omega)))
                  by_cases hc3a : mid < e
                  · have q3a : (mid : Int) < (e : Int) := by omega
                    have q3b : ¬ (e : Int) < (b : Int) := by omega
                    go_wp2_with fail
                    all_goals
                      first | (refine bodyPost_ret (results_none rfl _ _ _) rfl ?_) | (refine bodyPost_end (results_none rfl _ _ _) rfl ?_)
                      exact ⟨rfl, L, HRW.out, HT.out, HF.out⟩
                  · have q3a : ¬ (mid : Int) < (e : Int) := by omega
                    go_wp2_with fail
                    all_goals
                      first | (refine bodyPost_ret (results_none rfl _ _ _) rfl ?_) | (refine bodyPost_end (results_none rfl _ _ _) rfl ?_)
                      exact ⟨rfl, L, HRW.out, HT.out, HF.out⟩
      obtain ⟨c, hcc⟩ : ∃ c : Nat, (st + r) / 2 = c := ⟨_, rfl⟩
      have hci : ((st : Int) + (r : Int)) / 2 = (c : Int) := by omega
      obtain ⟨pc, hpc⟩ : ∃ pc, pc + c = p := ⟨p - c, by omega⟩
      have q6 : (p : Int) - (c : Int) = (pc : Int) := by omega
      have hb1 : st ≤ c := by omega
      have hb2 : c < r := by omega
      have hpce : p - c = pc := by omega
      clear hcc
      obtain ⟨M, hM⟩ : ∃ M, M = L := ⟨_, rfl⟩
      rw [← hM] at HR hlen HFC HSA HSB0
      obtain ⟨x, hx⟩ := getD_of (L := M) (i := pc) (by omega)
      obtain ⟨y, hy⟩ := getD_of (L := M) (i := c) (by omega)
      have HC := Lib.hid (clo_srt x y w2.drew)
      obtain ⟨x0, x1, x2, x3⟩ := HR.out.at hx
      obtain ⟨y0, y1, y2, y3⟩ := HR.out.at hy
      have hgs := (HR.out.own.lt g rfl).2
      have k1 := kf_of hx
      have k2 := kf_of hy
      have hHIn : pc < n := by omega
      have hLOn : c < n := by omega
      by_cases hxy : x.no < y.no
      · have hcc : cmpI x.no y.no = -1 := by unfold cmpI; rw [if_pos hxy]
        rw [hcc] at HC
        have HFN := Lib.hid (find_hi HFC.out hb1 hb2 (by omega) (by omega) (by omega) (by omega) HSA.out HSB0.out (by rw [hpce]; omega))
        clear hxy hcc hx hy hpce hpc
        have hW1 : IntKind.i64.wrap (((pc) : Nat) : Int) = (((pc) : Nat) : Int) := IntWalk.i64_in _ (by omega)
        have hW2 : IntKind.i64.wrap (((c) : Nat) : Int) = (((c) : Nat) : Int) := IntWalk.i64_in _ (by omega)
        go_wp2_with fail
        refine wp_region_G [11] (fun w' => (w'.cell? ⟨g, (pc) * 4, none⟩ = some (.int .i64 x.no) ∧ w'.cell? ⟨g, (pc) * 4 + 1, none⟩ = some (.int .i64 x.kind) ∧ w'.cell? ⟨g, (pc) * 4 + 2, none⟩ = some (.int .i64 x.num) ∧ w'.cell? ⟨g, (pc) * 4 + 3, none⟩ = some (.string x.data)) ∧ w'.cell? ⟨g, (c) * 4, none⟩ = some (.int .i64 y.no) ∧ w'.cell? ⟨g, (c) * 4 + 1, none⟩ = some (.int .i64 y.kind) ∧ w'.cell? ⟨g, (c) * 4 + 2, none⟩ = some (.int .i64 y.num) ∧ w'.cell? ⟨g, (c) * 4 + 3, none⟩ = some (.string y.data)) (by kernel_rfl) ?_ (fun hHeld => ?_)
        · exact ⟨⟨x0, x1, x2, x3⟩, y0, y1, y2, y3⟩
        refine wpG_pure (i := 0) (oi := { dst := some 158, op := Go.Op.move (Go.Operand.tmp 4), type := 114, pos := "zsortanyfunc.go:441", after := #[], guard := none }) (v := ?vg29) rfl (by kernel_rfl) (fun _ _ _ h => h) (Or.inr hHeld) (Or.inl ⟨by rfl, ?yg29⟩) ?_
        case yg29 => (intro wS _; go_simp <;> with_reducible rfl)
        try simp only [Act.put, List.setIfInBounds_toArray, List.set_cons_zero, List.set_cons_succ]
        refine wpG_pure (i := 1) (oi := { dst := some 159, op := Go.Op.move (Go.Operand.tmp 0), type := 49, pos := "zsortanyfunc.go:441", after := #[], guard := none }) (v := ?vg30) rfl (by kernel_rfl) (fun _ _ _ h => h) (Or.inr hHeld) (Or.inl ⟨by rfl, ?yg30⟩) ?_
        case yg30 => (intro wS _; go_simp <;> with_reducible rfl)
        try simp only [Act.put, List.setIfInBounds_toArray, List.set_cons_zero, List.set_cons_succ]
        refine wpG_pure (i := 2) (oi := { dst := some 160, op := Go.Op.move (Go.Operand.tmp 22), type := 3, pos := "zsortanyfunc.go:441", after := #[], guard := none }) (v := ?vg31) rfl (by kernel_rfl) (fun _ _ _ h => h) (Or.inr hHeld) (Or.inl ⟨by rfl, ?yg31⟩) ?_
        case yg31 => (intro wS _; go_simp <;> with_reducible rfl)
        try simp only [Act.put, List.setIfInBounds_toArray, List.set_cons_zero, List.set_cons_succ]
        refine wpG_pure (i := 3) (oi := { dst := some 161, op := Go.Op.move (Go.Operand.tmp 23), type := 3, pos := "zsortanyfunc.go:441", after := #[], guard := none }) (v := ?vg32) rfl (by kernel_rfl) (fun _ _ _ h => h) (Or.inr hHeld) (Or.inl ⟨by rfl, ?yg32⟩) ?_
        case yg32 => (intro wS _; go_simp <;> with_reducible rfl)
        try simp only [Act.put, List.setIfInBounds_toArray, List.set_cons_zero, List.set_cons_succ]
        refine wpG_pure (i := 4) (oi := { dst := some 162, op := Go.Op.binOp Go.BinOp.sub 3 (Go.Operand.tmp 160) (Go.Operand.tmp 161) 3, type := 3, pos := "zsortanyfunc.go:441", after := #[{ on := 2, ground := Go.Ground.data }, { on := 3, ground := Go.Ground.data }], guard := none }) (v := ?vg33) rfl (by kernel_rfl) (fun _ _ _ h => h) (Or.inr hHeld) (Or.inl ⟨by rfl, ?yg33⟩) ?_
        case yg33 => (intro wS _; go_simp <;> with_reducible rfl)
        try simp only [Act.put, List.setIfInBounds_toArray, List.set_cons_zero, List.set_cons_succ]
        refine wpG_pure (i := 5) (oi := { dst := some 163, op := Go.Op.indexAddr 49 (Go.Operand.tmp 159) (Go.Operand.tmp 162), type := 0, pos := "zsortanyfunc.go:441", after := #[{ on := 1, ground := Go.Ground.data }, { on := 4, ground := Go.Ground.data }], guard := none }) (v := ?vg34) rfl (by kernel_rfl) (fun _ _ _ h => h) (Or.inr hHeld) (Or.inl ⟨by rfl, ?yg34⟩) ?_
        case yg34 => (intro wS _; go_simp <;> with_reducible rfl)
        try simp only [Act.put, List.setIfInBounds_toArray, List.set_cons_zero, List.set_cons_succ]
        refine wpG_load (i := 6) (oi := { dst := some 164, op := Go.Op.load 57 (Go.Operand.tmp 163), type := 57, pos := "zsortanyfunc.go:441", after := #[{ on := 5, ground := Go.Ground.data }], guard := none }) (v := ?vg35) [[11, 6]] rfl (by kernel_rfl) (fun _ _ _ h => h) hHeld (Or.inl ⟨by rfl, ?yg35⟩) ?_
        case yg35 => (intro wS hSw; (try dsimp only at hSw); go_simp <;> with_reducible rfl)
        try simp only [Act.put, List.setIfInBounds_toArray, List.set_cons_zero, List.set_cons_succ]
        refine wpG_pure (i := 7) (oi := { dst := some 165, op := Go.Op.move (Go.Operand.tmp 0), type := 49, pos := "zsortanyfunc.go:441", after := #[], guard := none }) (v := ?vg36) rfl (by kernel_rfl) (fun _ _ _ h => h) (Or.inr hHeld) (Or.inl ⟨by rfl, ?yg36⟩) ?_
        case yg36 => (intro wS _; go_simp <;> with_reducible rfl)
        try simp only [Act.put, List.setIfInBounds_toArray, List.set_cons_zero, List.set_cons_succ]
        refine wpG_pure (i := 8) (oi := { dst := some 166, op := Go.Op.move (Go.Operand.tmp 23), type := 3, pos := "zsortanyfunc.go:441", after := #[], guard := none }) (v := ?vg37) rfl (by kernel_rfl) (fun _ _ _ h => h) (Or.inr hHeld) (Or.inl ⟨by rfl, ?yg37⟩) ?_
        case yg37 => (intro wS _; go_simp <;> with_reducible rfl)
        try simp only [Act.put, List.setIfInBounds_toArray, List.set_cons_zero, List.set_cons_succ]
        refine wpG_pure (i := 9) (oi := { dst := some 167, op := Go.Op.indexAddr 49 (Go.Operand.tmp 165) (Go.Operand.tmp 166), type := 0, pos := "zsortanyfunc.go:441", after := #[{ on := 7, ground := Go.Ground.data }, { on := 8, ground := Go.Ground.data }], guard := none }) (v := ?vg38) rfl (by kernel_rfl) (fun _ _ _ h => h) (Or.inr hHeld) (Or.inl ⟨by rfl, ?yg38⟩) ?_
        case yg38 => (intro wS _; go_simp <;> with_reducible rfl)
        try simp only [Act.put, List.setIfInBounds_toArray, List.set_cons_zero, List.set_cons_succ]
        refine wpG_load (i := 10) (oi := { dst := some 168, op := Go.Op.load 57 (Go.Operand.tmp 167), type := 57, pos := "zsortanyfunc.go:441", after := #[{ on := 9, ground := Go.Ground.data }], guard := none }) (v := ?vg39) [[11, 10]] rfl (by kernel_rfl) (fun _ _ _ h => h) hHeld (Or.inl ⟨by rfl, ?yg39⟩) ?_
        case yg39 => (intro wS hSw; (try dsimp only at hSw); go_simp <;> with_reducible rfl)
        try simp only [Act.put, List.setIfInBounds_toArray, List.set_cons_zero, List.set_cons_succ]
        refine wpG_one (i := 11) (o := { dst := some 169, op := Go.Op.call { callee := Go.Callee.value (Go.Operand.tmp 158), args := #[Go.Operand.tmp 164, Go.Operand.tmp 168], argTypes := #[57, 57] }, type := 3, pos := "zsortanyfunc.go:441", after := #[{ on := 0, ground := Go.Ground.data }, { on := 6, ground := Go.Ground.data }, { on := 10, ground := Go.Ground.data }], guard := none }) rfl (by kernel_rfl) (fun K hK => ?_)
        go_simp
        refine HC.out.mono ?_
        rintro e w3 ⟨rfl, hb3⟩
        have HR3 := Lib.hid (HR.out.drew.step hb3)
        clear hb3
        refine hK.out _ _ (Or.inl (by kernel_rfl)) (fun _ => ?_)
        clear hK K
        try simp only [Act.put, List.setIfInBounds_toArray, List.set_cons_zero, List.set_cons_succ]
        refine wpG_pure (i := 12) (oi := { dst := some 170, op := Go.Op.binOp Go.BinOp.lss 3 (Go.Operand.tmp 169) (Go.Operand.const (Go.Value.int Go.IntKind.i64 0)) 3, type := 4, pos := "zsortanyfunc.go:441", after := #[{ on := 11, ground := Go.Ground.data }], guard := none }) (v := ?vg41) rfl (by kernel_rfl) (fun _ _ _ h => h) (Or.inl (by kernel_rfl)) (Or.inl ⟨by rfl, ?yg41⟩) ?_
        case yg41 => (intro wS _; go_simp <;> with_reducible rfl)
        try simp only [Act.put, List.setIfInBounds_toArray, List.set_cons_zero, List.set_cons_succ]
        refine wpG_pure (i := 13) (oi := { dst := some 171, op := Go.Op.unOp Go.UnOp.not 4 (Go.Operand.tmp 170), type := 4, pos := "zsortanyfunc.go:441", after := #[{ on := 12, ground := Go.Ground.data }], guard := none }) (v := ?vg42) rfl (by kernel_rfl) (fun _ _ _ h => h) (Or.inl (by kernel_rfl)) (Or.inl ⟨by rfl, ?yg42⟩) ?_
        case yg42 => (intro wS _; go_simp <;> with_reducible rfl)
        try simp only [Act.put, List.setIfInBounds_toArray, List.set_cons_zero, List.set_cons_succ]
        refine wpG_done (by kernel_rfl) ?_
        go_wp2_with fail
        go_roundw
        case rel => exact ⟨st, c, rfl, rfl, by rw [← hM]; exact HR3, by rw [← hM]; exact HFN⟩
        case measure => simp [intOf]; omega
      · have hcc : cmpI x.no y.no = 0 ∨ cmpI x.no y.no = 1 := by unfold cmpI; rw [if_neg hxy]; split <;> simp
        generalize cmpI x.no y.no = cv at *
        have hcn : ¬ cv < 0 := by omega
        have hcd : decide (cv < 0) = false := decide_eq_false hcn
        have hce : (!decide (cv < 0)) = true := by rw [hcd]; rfl
        have HFN := Lib.hid (find_lo HFC.out hb1 hb2 (by omega) (by omega) (by omega) (by omega) HSA.out HSB0.out (by rw [hpce]; omega))
        clear hxy hcc hx hy hpce hpc
        have hW1 : IntKind.i64.wrap (((pc) : Nat) : Int) = (((pc) : Nat) : Int) := IntWalk.i64_in _ (by omega)
        have hW2 : IntKind.i64.wrap (((c) : Nat) : Int) = (((c) : Nat) : Int) := IntWalk.i64_in _ (by omega)
        go_wp2_with fail
        refine wp_region_G [11] (fun w' => (w'.cell? ⟨g, (pc) * 4, none⟩ = some (.int .i64 x.no) ∧ w'.cell? ⟨g, (pc) * 4 + 1, none⟩ = some (.int .i64 x.kind) ∧ w'.cell? ⟨g, (pc) * 4 + 2, none⟩ = some (.int .i64 x.num) ∧ w'.cell? ⟨g, (pc) * 4 + 3, none⟩ = some (.string x.data)) ∧ w'.cell? ⟨g, (c) * 4, none⟩ = some (.int .i64 y.no) ∧ w'.cell? ⟨g, (c) * 4 + 1, none⟩ = some (.int .i64 y.kind) ∧ w'.cell? ⟨g, (c) * 4 + 2, none⟩ = some (.int .i64 y.num) ∧ w'.cell? ⟨g, (c) * 4 + 3, none⟩ = some (.string y.data)) (by kernel_rfl) ?_ (fun hHeld => ?_)
        · exact ⟨⟨x0, x1, x2, x3⟩, y0, y1, y2, y3⟩
        refine wpG_pure (i := 0) (oi := { dst := some 158, op := Go.Op.move (Go.Operand.tmp 4), type := 114, pos := "zsortanyfunc.go:441", after := #[], guard := none }) (v := ?vg43) rfl (by kernel_rfl) (fun _ _ _ h => h) (Or.inr hHeld) (Or.inl ⟨by rfl, ?yg43⟩) ?_
        case yg43 => (intro wS _; go_simp <;> with_reducible rfl)
        try simp only [Act.put, List.setIfInBounds_toArray, List.set_cons_zero, List.set_cons_succ]
        refine wpG_pure (i := 1) (oi := { dst := some 159, op := Go.Op.move (Go.Operand.tmp 0), type := 49, pos := "zsortanyfunc.go:441", after := #[], guard := none }) (v := ?vg44) rfl (by kernel_rfl) (fun _ _ _ h => h) (Or.inr hHeld) (Or.inl ⟨by rfl, ?yg44⟩) ?_
        case yg44 => (intro wS _; go_simp <;> with_reducible rfl)
        try simp only [Act.put, List.setIfInBounds_toArray, List.set_cons_zero, List.set_cons_succ]
        refine wpG_pure (i := 2) (oi := { dst := some 160, op := Go.Op.move (Go.Operand.tmp 22), type := 3, pos := "zsortanyfunc.go:441", after := #[], guard := none }) (v := ?vg45) rfl (by kernel_rfl) (fun _ _ _ h => h) (Or.inr hHeld) (Or.inl ⟨by rfl, ?yg45⟩) ?_
        case yg45 => (intro wS _; go_simp <;> with_reducible rfl)
        try simp only [Act.put, List.setIfInBounds_toArray, List.set_cons_zero, List.set_cons_succ]
        refine wpG_pure (i := 3) (oi := { dst := some 161, op := Go.Op.move (Go.Operand.tmp 23), type := 3, pos := "zsortanyfunc.go:441", after := #[], guard := none }) (v := ?vg46) rfl (by kernel_rfl) (fun _ _ _ h => h) (Or.inr hHeld) (Or.inl ⟨by rfl, ?yg46⟩) ?_
        case yg46 => (intro wS _; go_simp <;> with_reducible rfl)
        try simp only [Act.put, List.setIfInBounds_toArray, List.set_cons_zero, List.set_cons_succ]
        refine wpG_pure (i := 4) (oi := { dst := some 162, op := Go.Op.binOp Go.BinOp.sub 3 (Go.Operand.tmp 160) (Go.Operand.tmp 161) 3, type := 3, pos := "zsortanyfunc.go:441", after := #[{ on := 2, ground := Go.Ground.data }, { on := 3, ground := Go.Ground.data }], guard := none }) (v := ?vg47) rfl (by kernel_rfl) (fun _ _ _ h => h) (Or.inr hHeld) (Or.inl ⟨by rfl, ?yg47⟩) ?_
        case yg47 => (intro wS _; go_simp <;> with_reducible rfl)
        try simp only [Act.put, List.setIfInBounds_toArray, List.set_cons_zero, List.set_cons_succ]
        refine wpG_pure (i := 5) (oi := { dst := some 163, op := Go.Op.indexAddr 49 (Go.Operand.tmp 159) (Go.Operand.tmp 162), type := 0, pos := "zsortanyfunc.go:441", after := #[{ on := 1, ground := Go.Ground.data }, { on := 4, ground := Go.Ground.data }], guard := none }) (v := ?vg48) rfl (by kernel_rfl) (fun _ _ _ h => h) (Or.inr hHeld) (Or.inl ⟨by rfl, ?yg48⟩) ?_
        case yg48 => (intro wS _; go_simp <;> with_reducible rfl)
        try simp only [Act.put, List.setIfInBounds_toArray, List.set_cons_zero, List.set_cons_succ]
        refine wpG_load (i := 6) (oi := { dst := some 164, op := Go.Op.load 57 (Go.Operand.tmp 163), type := 57, pos := "zsortanyfunc.go:441", after := #[{ on := 5, ground := Go.Ground.data }], guard := none }) (v := ?vg49) [[11, 6]] rfl (by kernel_rfl) (fun _ _ _ h => h) hHeld (Or.inl ⟨by rfl, ?yg49⟩) ?_
        case yg49 => (intro wS hSw; (try dsimp only at hSw); go_simp <;> with_reducible rfl)
        try simp only [Act.put, List.setIfInBounds_toArray, List.set_cons_zero, List.set_cons_succ]
        refine wpG_pure (i := 7) (oi := { dst := some 165, op := Go.Op.move (Go.Operand.tmp 0), type := 49, pos := "zsortanyfunc.go:441", after := #[], guard := none }) (v := ?vg50) rfl (by kernel_rfl) (fun _ _ _ h => h) (Or.inr hHeld) (Or.inl ⟨by rfl, ?yg50⟩) ?_
        case yg50 => (intro wS _; go_simp <;> with_reducible rfl)
        try simp only [Act.put, List.setIfInBounds_toArray, List.set_cons_zero, List.set_cons_succ]
        refine wpG_pure (i := 8) (oi := { dst := some 166, op := Go.Op.move (Go.Operand.tmp 23), type := 3, pos := "zsortanyfunc.go:441", after := #[], guard := none }) (v := ?vg51) rfl (by kernel_rfl) (fun _ _ _ h => h) (Or.inr hHeld) (Or.inl ⟨by rfl, ?yg51⟩) ?_
        case yg51 => (intro wS _; go_simp <;> with_reducible rfl)
        try simp only [Act.put, List.setIfInBounds_toArray, List.set_cons_zero, List.set_cons_succ]
        refine wpG_pure (i := 9) (oi := { dst := some 167, op := Go.Op.indexAddr 49 (Go.Operand.tmp 165) (Go.Operand.tmp 166), type := 0, pos := "zsortanyfunc.go:441", after := #[{ on := 7, ground := Go.Ground.data }, { on := 8, ground := Go.Ground.data }], guard := none }) (v := ?vg52) rfl (by kernel_rfl) (fun _ _ _ h => h) (Or.inr hHeld) (Or.inl ⟨by rfl, ?yg52⟩) ?_
        case yg52 => (intro wS _; go_simp <;> with_reducible rfl)
        try simp only [Act.put, List.setIfInBounds_toArray, List.set_cons_zero, List.set_cons_succ]
        refine wpG_load (i := 10) (oi := { dst := some 168, op := Go.Op.load 57 (Go.Operand.tmp 167), type := 57, pos := "zsortanyfunc.go:441", after := #[{ on := 9, ground := Go.Ground.data }], guard := none }) (v := ?vg53) [[11, 10]] rfl (by kernel_rfl) (fun _ _ _ h => h) hHeld (Or.inl ⟨by rfl, ?yg53⟩) ?_
        case yg53 => (intro wS hSw; (try dsimp only at hSw); go_simp <;> with_reducible rfl)
        try simp only [Act.put, List.setIfInBounds_toArray, List.set_cons_zero, List.set_cons_succ]
        refine wpG_one (i := 11) (o := { dst := some 169, op := Go.Op.call { callee := Go.Callee.value (Go.Operand.tmp 158), args := #[Go.Operand.tmp 164, Go.Operand.tmp 168], argTypes := #[57, 57] }, type := 3, pos := "zsortanyfunc.go:441", after := #[{ on := 0, ground := Go.Ground.data }, { on := 6, ground := Go.Ground.data }, { on := 10, ground := Go.Ground.data }], guard := none }) rfl (by kernel_rfl) (fun K hK => ?_)
        go_simp
        refine HC.out.mono ?_
        rintro e w3 ⟨rfl, hb3⟩
        have HR3 := Lib.hid (HR.out.drew.step hb3)
        clear hb3
        refine hK.out _ _ (Or.inl (by kernel_rfl)) (fun _ => ?_)
        clear hK K
        try simp only [Act.put, List.setIfInBounds_toArray, List.set_cons_zero, List.set_cons_succ]
        refine wpG_pure (i := 12) (oi := { dst := some 170, op := Go.Op.binOp Go.BinOp.lss 3 (Go.Operand.tmp 169) (Go.Operand.const (Go.Value.int Go.IntKind.i64 0)) 3, type := 4, pos := "zsortanyfunc.go:441", after := #[{ on := 11, ground := Go.Ground.data }], guard := none }) (v := ?vg55) rfl (by kernel_rfl) (fun _ _ _ h => h) (Or.inl (by kernel_rfl)) (Or.inl ⟨by rfl, ?yg55⟩) ?_
        case yg55 => (intro wS _; go_simp <;> with_reducible rfl)
        try simp only [Act.put, List.setIfInBounds_toArray, List.set_cons_zero, List.set_cons_succ]
        refine wpG_pure (i := 13) (oi := { dst := some 171, op := Go.Op.unOp Go.UnOp.not 4 (Go.Operand.tmp 170), type := 4, pos := "zsortanyfunc.go:441", after := #[{ on := 12, ground := Go.Ground.data }], guard := none }) (v := ?vg56) rfl (by kernel_rfl) (fun _ _ _ h => h) (Or.inl (by kernel_rfl)) (Or.inl ⟨by rfl, ?yg56⟩) ?_
        case yg56 => (intro wS _; go_simp <;> with_reducible rfl)
        try simp only [Act.put, List.setIfInBounds_toArray, List.set_cons_zero, List.set_cons_succ]
        refine wpG_done (by kernel_rfl) ?_
        go_wp2_with fail
        go_roundw
        case rel => exact ⟨c + 1, r, by go_num, rfl, by rw [← hM]; exact HR3, by rw [← hM]; exact HFN⟩
        case measure => simp [intOf]; omega
        try (case roundEnd => rename_i hq9; rw [hcd] at hq9; exact absurd hq9 (by decide))
end Go.Proofs.Ytlmgckijbamgpaa
