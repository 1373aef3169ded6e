/- The stable sort over a row of fields. -/
import Derived.Test.YtlmgckijbamgpaaSrt6
import Derived.Laws.AppendOwnNone
namespace Go.Proofs.Ytlmgckijbamgpaa
set_option linter.unusedVariables false
set_option linter.unusedSimpArgs false
open Go.ChangeShapes Go.WideShapes Go.ChangeAt Go.RowKit
set_option maxRecDepth 100000

theorem sort_merge (w0 : World) (g n cap : Nat) (hnc : n ≤ cap) (hcm : cap ≤ 9223372036854775807) (hn : n ≤ 1000000) : ∀ (f a m b : Nat), a < m → m < b → b ≤ n → b - a ≤ f → MCall w0 g n cap a m b
  | 0, a, m, b, h1, h2, h3, h4 => by omega
  | f + 1, a, m, b, h1, h2, h3, h4 => by
    intro L w s1 s2 hR
    by_cases hma : m - a = 1
    · exact merge_a w0 g n cap L a m b w hnc hcm hn h1 h2 h3 hma s2 hR
    by_cases hbm : b - m = 1
    · exact merge_b w0 g n cap L a m b w hnc hcm hn h1 h2 h3 hma hbm s1 hR
    · exact merge_c w0 g n cap L a m b w hnc hcm hn h1 h2 h3 hma hbm s1 s2 hR f h4 (sort_merge w0 g n cap hnc hcm hn f)
set_option maxHeartbeats 8000000 in
theorem sort_stable (w0 : World) (g n cap : Nat) (L : List Fld) (w : World) (hnc : n ≤ cap) (hcm : cap ≤ 9223372036854775807) (hn : n ≤ 40) (hR : RowS w0 g n cap L w) :
    Calls Try.prog 127 #[.slice (some ⟨g, 0, none⟩) n cap, .int .i64 (n : Int), .func (.func 86) #[] #[]] w (SortP w0 g n cap L 0 n) := by
  have HI := Lib.hid (fun (M : List Fld) (a b : Nat) (wx : World) h1 h2 h3 => sort_ins w0 g n cap M a b wx hnc hcm (by omega) h1 h2 h3)
  have HM := Lib.hid (fun a m b h1 h2 h3 => sort_merge w0 g n cap hnc hcm (by omega) (b - a) a m b h1 h2 h3 (Nat.le_refl _))
  have HR0 := Lib.hid hR
  clear hR
  unfold MCall at HM
  unfold SortP at *
  go_enter Try.func127, Try.ntmps127
  go_wp2_with fail
  go_loopw [7, 8] (fun av bv wr => ∃ (a : Nat) (M : List Fld), a ≤ n ∧ (a = 0 ∨ a = 20 ∨ a = 40) ∧ av = .int .i64 (a : Int) ∧ bv = .int .i64 ((a : Int) + 20) ∧ Hid (RowS w0 g n cap M wr) ∧ Hid (St L M 0 n) ∧ Hid (So M 0 (min a 20) ∧ So M 20 a)) (fun av _ _ => n - (intOf av).toNat)
  case atStart => exact ⟨0, L, Nat.zero_le _, .inl rfl, rfl, rfl, HR0, Lib.hid (St.refl _ _ _), Lib.hid ⟨fun x y h1 h2 h3 => by omega, fun x y h1 h2 h3 => by omega⟩⟩
  case round =>
    clear HR0
    obtain ⟨w1, rfl⟩ : ∃ z : World, z = wr := ⟨_, rfl⟩
    obtain ⟨a, M, ha, hac, rfl, rfl, HR, HST, HSO⟩ := hrel
    by_cases hab : a + 20 ≤ n
    · have e1 : (a : Int) + 20 = ((a + 20 : Nat) : Int) := by omega
      have HI2 := Lib.hid (HI.out M a (a + 20) w1 (by omega) hab HR.out)
      have hab2 : (a : Int) + 20 ≤ (n : Int) := by omega
      rw [← e1] at HI2
      clear e1
      go_wp2_with fail
      refine HI2.out.mono ?_
      rintro e w2 ⟨rfl, M2, hr, hst, hso⟩
      have HR2 := Lib.hid hr
      have HST2 := Lib.hid (HST.out.trans (hst.wide (Nat.zero_le _) hab))
      have HSO2 : Hid (So M2 0 (min (a + 20) 20) ∧ So M2 20 (a + 20)) := Lib.hid (by
        rcases hac with rfl | rfl | rfl
        · exact ⟨hso, fun x y h1 h2 h3 => by omega⟩
        · exact ⟨hst.keep_so HSO.out.1 (.inl (by omega)), hso⟩
        · omega)
      clear hr hst hso HR HST HSO
      go_wp2_with fail
      go_roundw
      case rel => exact ⟨a + 20, M2, hab, by omega, by go_num, by go_num, HR2, HST2, HSO2⟩
      case measure => simp [intOf]; omega
    · go_wp2_with fail
      refine (HI.out M a n w1 ha (Nat.le_refl _) HR.out).mono ?_
      rintro e w2 ⟨rfl, M2, hr, hst, hso⟩
      have HR2 := Lib.hid hr
      have HST2 := Lib.hid (HST.out.trans (hst.wide (Nat.zero_le _) (Nat.le_refl _)))
      have HSO2 : Hid (So M2 0 (min n 20) ∧ So M2 20 n) := Lib.hid (by
        rcases hac with rfl | rfl | rfl
        · exact ⟨fun x y h1 h2 h3 => hso x y h1 h2 (by omega), fun x y h1 h2 h3 => by omega⟩
        · have q := hst.keep_so HSO.out.1 (.inl (by omega))
          exact ⟨fun x y h1 h2 h3 => q x y h1 h2 (by omega), hso⟩
        · have hn4 : n = 40 := by omega
          subst hn4
          have q := hst.keep_so HSO.out.1 (.inl (by omega))
          exact ⟨fun x y h1 h2 h3 => q x y h1 h2 (by omega), hst.keep_so HSO.out.2 (.inl (by omega))⟩)
      clear hr hst hso HR HST HSO hab
      go_wp2_with fail
      go_loopw [6] (fun sv wr => ∃ (s : Nat) (M : List Fld), sv = .int .i64 (s : Int) ∧ Hid (RowS w0 g n cap M wr) ∧ Hid (St L M 0 n) ∧ (s = 20 ∨ s = 40) ∧ Hid ((s = 20 ∧ So M 0 (min n 20) ∧ So M 20 n) ∨ (s = 40 ∧ So M 0 n))) (fun sv _ => 100 - (intOf sv).toNat)
      case atStart => exact ⟨20, M2, rfl, HR2, HST2, .inl rfl, Lib.hid (.inl ⟨rfl, HSO2.out⟩)⟩
      case round =>
        clear HR2 HST2 HSO2
        obtain ⟨w3, rfl⟩ : ∃ z : World, z = wr := ⟨_, rfl⟩
        obtain ⟨s, M3, rfl, HR, HST, hsc, HSO⟩ := hrel
        by_cases hsn : s < n
        case neg =>
          have HF : Hid (So M3 0 n) := Lib.hid (by
            rcases HSO.out with ⟨q1, q2, q3⟩ | ⟨q1, q2⟩
            · exact fun x y h1 h2 h3 => q2 x y h1 h2 (by omega)
            · exact q2)
          go_wp2_with fail
          first | (refine bodyPost_ret (results_none rfl _ _ _) rfl ?_) | (refine bodyPost_end (results_none rfl _ _ _) rfl ?_)
          exact ⟨rfl, M3, HR.out, HST.out, HF.out⟩
        have HS20 := Lib.hid (show s = 20 by omega)
        have hs1 : 1 ≤ s ∧ s ≤ 4000 := by omega
        have HSO' : Hid (So M3 0 s ∧ So M3 s n) := Lib.hid (by
          rcases HSO.out with ⟨q1, q2, q3⟩ | ⟨q1, q2⟩
          · subst q1; exact ⟨fun x y h1 h2 h3 => q2 x y h1 h2 (by omega), q3⟩
          · omega)
        clear HSO hsc
        go_wp2_with fail
        go_loopw [7, 8] (fun av bv wr => ∃ (a : Nat) (M : List Fld), a ≤ n ∧ av = .int .i64 (a : Int) ∧ bv = .int .i64 ((a : Int) + 2 * (s : Int)) ∧ Hid (RowS w0 g n cap M wr) ∧ Hid (St L M 0 n) ∧ Hid ((a = 0 ∧ So M 0 s ∧ So M s n) ∨ (a = 40 ∧ So M 0 n))) (fun av _ _ => n - (intOf av).toNat)
        case atStart => exact ⟨0, M3, Nat.zero_le _, rfl, by go_num, HR, HST, Lib.hid (.inl ⟨rfl, HSO'.out⟩)⟩
        case round =>
          clear HR HST HSO'
          obtain ⟨w4, rfl⟩ : ∃ z : World, z = wr := ⟨_, rfl⟩
          obtain ⟨a, M4, ha, rfl, rfl, HR, HST, HSO⟩ := hrel
          have e2 : ((a + s : Nat) : Int) = (a : Int) + (s : Int) := by omega
          by_cases ha0 : a = 0
          · have HSO' : Hid (So M4 a (a + s) ∧ So M4 (a + s) n) := Lib.hid (by
              subst ha0
              rcases HSO.out with ⟨q1, q2, q3⟩ | ⟨q1, q2⟩
              · rw [Nat.zero_add]; exact ⟨q2, q3⟩
              · omega)
            have HAA := Lib.hid ha0
            have has : a + s < n := by omega
            clear ha0
            by_cases hn4 : a + 2 * s ≤ n
            · have e1 : ((a + 2 * s : Nat) : Int) = (a : Int) + 2 * (s : Int) := by omega
              have HM2 := Lib.hid (HM.out a (a + s) (a + 2 * s) (by omega) (by omega) hn4 M4 w4 HSO'.out.1 (fun x y h1 h2 h3 => HSO'.out.2 x y h1 h2 (by omega)) HR.out)
              rw [e1, e2] at HM2
              have hab2 : (a : Int) + 2 * (s : Int) ≤ (n : Int) := by omega
              clear e1 e2
              go_wp2_with fail
              refine HM2.out.mono ?_
              rintro e w5 ⟨rfl, M5, hr, hst, hso⟩
              have HR5 := Lib.hid hr
              have HST5 := Lib.hid (HST.out.trans (hst.wide (Nat.zero_le _) hn4))
              have HSO5 : Hid (So M5 0 n) := Lib.hid (fun x y h1 h2 h3 => hso x y (by have := HAA.out; omega) h2 (by have := HAA.out; have := HS20.out; omega))
              clear hr hst hso
              go_wp2_with fail
              go_roundw
              case rel => exact ⟨a + 2 * s, M5, hn4, by go_num, by go_num, HR5, HST5, Lib.hid (.inr ⟨by have := HAA.out; have := HS20.out; omega, HSO5.out⟩)⟩
              case measure => simp [intOf]; omega
            · have HM2 := Lib.hid (HM.out a (a + s) n (by omega) (by omega) (Nat.le_refl _) M4 w4 HSO'.out.1 HSO'.out.2 HR.out)
              rw [e2] at HM2
              have hab2 : ¬ (a : Int) + 2 * (s : Int) ≤ (n : Int) := by omega
              have hms2 : (a : Int) + (s : Int) < (n : Int) := by omega
              clear e2
              go_wp2_with fail
              refine HM2.out.mono ?_
              rintro e w5 ⟨rfl, M5, hr, hst, hso⟩
              have HR5 := Lib.hid hr
              have HST5 := Lib.hid (HST.out.trans (hst.wide (Nat.zero_le _) (Nat.le_refl _)))
              have HSO5 : Hid (So M5 0 n) := Lib.hid (fun x y h1 h2 h3 => hso x y (by have := HAA.out; omega) h2 h3)
              clear hr hst hso
              go_wp2_with fail
              go_roundw
              case rel => exact ⟨s * 2, M5, by go_num, HR5, HST5, .inr (by have := HS20.out; omega), Lib.hid (.inr ⟨by have := HS20.out; omega, HSO5.out⟩)⟩
              case measure => simp [intOf]; omega
          · have HF : Hid (So M4 0 n) := Lib.hid (by
              rcases HSO.out with ⟨q1, q2, q3⟩ | ⟨q1, q2⟩
              · omega
              · exact q2)
            have hab2 : ¬ (a : Int) + 2 * (s : Int) ≤ (n : Int) := by have := HS20.out; have := HSO.out; omega
            have hms2 : ¬ (a : Int) + (s : Int) < (n : Int) := by have := HS20.out; have := HSO.out; omega
            clear e2 ha0
            go_wp2_with fail
            go_roundw
            case rel => exact ⟨s * 2, M4, by go_num, HR, HST, .inr (by have := HS20.out; omega), Lib.hid (.inr ⟨by have := HS20.out; omega, HF.out⟩)⟩
            case measure => simp [intOf]; omega
set_option maxHeartbeats 1000000 in
theorem sort_func (w0 : World) (g n cap : Nat) (L : List Fld) (w : World) (hnc : n ≤ cap) (hcm : cap ≤ 9223372036854775807) (hn : n ≤ 40) (hR : RowS w0 g n cap L w) :
    Calls Try.prog 85 #[.slice (some ⟨g, 0, none⟩) n cap, .func (.func 86) #[] #[]] w (SortP w0 g n cap L 0 n) := by
  have H := Lib.hid (sort_stable w0 g n cap L w hnc hcm hn hR)
  clear hR
  unfold SortP at *
  go_enter Try.func85, Try.ntmps85
  go_wp2_with fail
  refine H.out.mono ?_
  rintro e w5 ⟨rfl, hb2⟩
  have HB2 := Lib.hid hb2; clear hb2
  go_wp2_with fail
  first | (refine bodyPost_ret (results_none rfl _ _ _) rfl ?_) | (refine bodyPost_end (results_none rfl _ _ _) rfl ?_)
  exact ⟨rfl, HB2.out⟩
end Go.Proofs.Ytlmgckijbamgpaa
