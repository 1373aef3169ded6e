/- The contracts of the stable sort over rows that are in order: it writes nothing. -/
import Derived.Test.YtfkcchbbbfeamaaFind3
namespace Go.Proofs.Ytfkcchbbbfeamaa
set_option linter.unusedVariables false
open Go.ChangeShapes Go.WideShapes Go.ChangeAt Go.RowKit
set_option maxRecDepth 100000

set_option maxHeartbeats 4000000 in
theorem sort_stable {w0 : World} {g bw : Nat} {o : List Fd} (hS : So w0 g bw o) (c : Nat) (hc : o.length ≤ c) (hc2 : c ≤ 9223372036854775807) (w : World) (hb : Below w0.heap.size w0 w) :
    Calls Try.prog 77 #[.slice (some ⟨g, 0, none⟩) o.length c, .int .i64 (o.length : Int), .func (.func 67) #[] #[.pointer (some ⟨bw, 0, none⟩)]] w (NoW w0) := by
  have hln := hS.len
  have HI := Lib.hid (fun a b w h1 h2 hb => sort_ins hS c hc hc2 a b h1 h2 w hb)
  have HM := Lib.hid (fun a m b w h1 h2 h3 hb => sort_merge hS c hc hc2 (b - a) a m b w h1 h2 h3 (Nat.le_refl _) hb)
  have HB := Lib.hid hb
  clear hS hb
  unfold NoW at *
  generalize hN : o.length = N at *
  go_enter Try.func77, Try.ntmps77
  go_wp2_with fail
  go_loopw [7, 8] (fun av bv wr => ∃ a : Nat, a ≤ N ∧ av = .int .i64 (a : Int) ∧ bv = .int .i64 ((a : Int) + 20) ∧ Hid (Below w0.heap.size w0 wr)) (fun av _ _ => N - (intOf av).toNat)
  case atStart => exact ⟨0, Nat.zero_le _, rfl, rfl, HB⟩
  case round =>
    clear HB
    obtain ⟨w1, rfl⟩ : ∃ z : World, z = wr := ⟨_, rfl⟩
    obtain ⟨a, ha, rfl, rfl, HB⟩ := hrel
    by_cases hab : a + 20 ≤ N
    · have e1 : (a : Int) + 20 = ((a + 20 : Nat) : Int) := by omega
      have HI2 := Lib.hid (HI.out a (a + 20) w1 (by omega) hab HB.out)
      have hab2 : (a : Int) + 20 ≤ (N : Int) := by omega
      rw [← e1] at HI2
      clear e1
      go_wp2_with fail
      refine HI2.out.mono ?_
      rintro e w2 ⟨rfl, hb2⟩
      have HB2 := Lib.hid hb2; clear hb2
      go_wp2_with fail
      go_roundw
      case rel => exact ⟨a + 20, hab, by go_num, by go_num, HB2⟩
      case measure => simp [intOf]; omega
    · go_wp2_with fail
      refine (HI.out a N w1 ha (Nat.le_refl _) HB.out).mono ?_
      rintro e w2 ⟨rfl, hb2⟩
      have HB2 := Lib.hid hb2; clear hb2 HB hab
      go_wp2_with fail
      go_loopw [6] (fun sv wr => ∃ s : Nat, 20 ≤ s ∧ s ≤ 4000 ∧ sv = .int .i64 (s : Int) ∧ Hid (Below w0.heap.size w0 wr)) (fun sv _ => 5000 - (intOf sv).toNat)
      case atStart => exact ⟨20, Nat.le_refl _, by omega, rfl, HB2⟩
      case round =>
        clear HB2
        obtain ⟨w3, rfl⟩ : ∃ z : World, z = wr := ⟨_, rfl⟩
        obtain ⟨s, hs1, hs2, rfl, HB⟩ := hrel
        by_cases hsn : s < N
        case neg =>
          go_wp2_with fail
          first | (refine bodyPost_ret (results_none rfl _ _ _) rfl ?_) | (refine bodyPost_end (results_none rfl _ _ _) rfl ?_)
          exact ⟨rfl, HB.out⟩
        go_wp2_with fail
        go_loopw [7, 8] (fun av bv wr => ∃ a : Nat, a ≤ N ∧ av = .int .i64 (a : Int) ∧ bv = .int .i64 ((a : Int) + 2 * (s : Int)) ∧ Hid (Below w0.heap.size w0 wr)) (fun av _ _ => N - (intOf av).toNat)
        case atStart => exact ⟨0, Nat.zero_le _, rfl, by go_num, HB⟩
        case round =>
          clear HB
          obtain ⟨w4, rfl⟩ : ∃ z : World, z = wr := ⟨_, rfl⟩
          obtain ⟨a, ha, rfl, rfl, HB⟩ := hrel
          have e2 : ((a + s : Nat) : Int) = (a : Int) + (s : Int) := by omega
          by_cases hab : a + 2 * s ≤ N
          · have e1 : ((a + 2 * s : Nat) : Int) = (a : Int) + 2 * (s : Int) := by omega
            have HM2 := Lib.hid (HM.out a (a + s) (a + 2 * s) w4 (by omega) (by omega) hab HB.out)
            rw [e1, e2] at HM2
            have hab2 : (a : Int) + 2 * (s : Int) ≤ (N : Int) := by omega
            clear e1 e2
            go_wp2_with fail
            refine HM2.out.mono ?_
            rintro e w5 ⟨rfl, hb2⟩
            have HB2 := Lib.hid hb2; clear hb2
            go_wp2_with fail
            go_roundw
            case rel => exact ⟨a + 2 * s, hab, by go_num, by go_num, HB2⟩
            case measure => simp [intOf]; omega
          · by_cases hms : a + s < N
            · have HM2 := Lib.hid (HM.out a (a + s) N w4 (by omega) hms (Nat.le_refl _) HB.out)
              rw [e2] at HM2
              have hab2 : ¬ (a : Int) + 2 * (s : Int) ≤ (N : Int) := by omega
              have hms2 : (a : Int) + (s : Int) < (N : Int) := by omega
              clear e2
              go_wp2_with fail
              refine HM2.out.mono ?_
              rintro e w5 ⟨rfl, hb2⟩
              have HB2 := Lib.hid hb2; clear hb2
              go_wp2_with fail
              go_roundw
              case rel => exact ⟨s * 2, by omega, by omega, by go_num, HB2⟩
              case measure => simp [intOf]; omega
            · have hab2 : ¬ (a : Int) + 2 * (s : Int) ≤ (N : Int) := by omega
              have hms2 : ¬ (a : Int) + (s : Int) < (N : Int) := by omega
              clear e2
              go_wp2_with fail
              go_roundw
              case rel => exact ⟨s * 2, by omega, by omega, by go_num, HB⟩
              case measure => simp [intOf]; omega
set_option maxHeartbeats 1000000 in
theorem sort_func {w0 : World} {g bw : Nat} {o : List Fd} (hS : So w0 g bw o) (c : Nat) (hc : o.length ≤ c) (hc2 : c ≤ 9223372036854775807) (w : World) (hb : Below w0.heap.size w0 w) :
    Calls Try.prog 66 #[.slice (some ⟨g, 0, none⟩) o.length c, .func (.func 67) #[] #[.pointer (some ⟨bw, 0, none⟩)]] w (NoW w0) := by
  have H := Lib.hid (sort_stable hS c hc hc2 w hb)
  clear hS hb
  unfold NoW at *
  go_enter Try.func66, Try.ntmps66
  go_wp2_with fail
  refine H.out.mono ?_
  rintro e w5 ⟨rfl, hb2⟩
  have HB2 := Lib.hid hb2; clear hb2
  go_wp2_with fail
  first | (refine bodyPost_ret (results_none rfl _ _ _) rfl ?_) | (refine bodyPost_end (results_none rfl _ _ _) rfl ?_)
  exact ⟨rfl, HB2.out⟩
end Go.Proofs.Ytfkcchbbbfeamaa
