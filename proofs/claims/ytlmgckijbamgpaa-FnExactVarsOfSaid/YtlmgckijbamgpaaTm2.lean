/- Names: the walks. -/
import Derived.Test.YtlmgckijbamgpaaTm1
namespace Go.Proofs.Ytlmgckijbamgpaa
set_option linter.unusedVariables false
open Go.ChangeShapes Go.WideShapes Go.ChangeAt Go.RowKit
set_option maxRecDepth 100000

theorem low_at {s : ByteArray} {i : Nat} (h : i < s.size) : (s.data.toList.take (i + 1)).all lowB = ((s.data.toList.take i).all lowB && lowB s[i]) := by
  rw [take_snoc s i h, List.all_append]; simp
theorem low_no {s : ByteArray} {i : Nat} (h : i < s.size) (hb : lowB s[i] = false) : nmB s = false := by
  unfold nmB
  have : s.data.toList.all lowB = false := by
    rw [List.all_eq_false]
    exact ⟨s.data.toList[i]'(by simpa using h), List.getElem_mem _, by show ¬ lowB s[i] = true; simp [hb]⟩
  rw [this]; rfl
set_option maxHeartbeats 1000000 in
theorem impl_nameOK (s : ByteArray) (w : World) (hs : s.size ≤ maxLen) : Calls Try.prog 138 #[.string s] w fun e w' => e = .returned (.bool (nmB s)) ∧ w = w' := by
  unfold maxLen at hs
  generalize hR : nmB s = R
  have HR := Lib.hid hR
  clear hR
  have HIN := Lib.hid (impl_within (s.size : Int) 1 10 w)
  go_enter Try.func138, Try.ntmps138
  go_wp2_with fail
  go_loop [6] (fun iv => ∃ (i : Nat), i ≤ s.size ∧ iv = .int .i64 (i : Int) ∧ Hid ((s.data.toList.take i).all lowB = true)) (fun iv => s.size - (intOf iv).toNat)
  case atStart => exact ⟨0, by omega, rfl, Lib.hid rfl⟩
  case round =>
    obtain ⟨i, hi, rfl, HA⟩ := hrel
    by_cases hlt : i < s.size
    · have HNO := Lib.hid (low_no hlt)
      have HYES : Hid (lowB s[i] = true → (s.data.toList.take (i + 1)).all lowB = true) := Lib.hid fun h => by rw [low_at hlt, HA.out, h]; rfl
      have hc : s[i].toNat < 256 := UInt8.toNat_lt _
      unfold lowB at HNO HYES
      by_cases h1 : s[i].toNat < 97
      · have h1i : (s[i].toNat : Int) < 97 := by omega
        have hr : R = false := by rw [← HR.out]; exact HNO.out (by simp; omega)
        subst hr
        clear HNO HYES
        go_wp2_with fail
        go_ret
        exact ⟨rfl, rfl⟩
      · have h1i : ¬ (s[i].toNat : Int) < 97 := by omega
        by_cases h2 : 122 < s[i].toNat
        · have h2i : (s[i].toNat : Int) > 122 := by omega
          have hr : R = false := by rw [← HR.out]; exact HNO.out (by simp; omega)
          subst hr
          clear HNO HYES
          go_wp2_with fail
          go_ret
          exact ⟨rfl, rfl⟩
        · have h2i : ¬ (s[i].toNat : Int) > 122 := by omega
          have HY := Lib.hid (HYES.out (by simp; omega))
          clear HNO HYES
          go_wp2_with fail
          go_round
          case rel => exact ⟨i + 1, by omega, by go_num, HY⟩
          case measure => (simp [intOf]; try omega)
    · obtain rfl : i = s.size := by omega
      have ha := HA.out
      rw [List.take_of_length_le (by simp)] at ha
      have hr : R = inR (s.size : Int) 1 10 := by rw [← HR.out]; unfold nmB; rw [ha]; rfl
      rw [← hr] at HIN
      clear ha hr
      go_wp2_with fail
      refine HIN.out.mono ?_
      rintro e w' ⟨rfl, rfl⟩
      go_wp2_with fail
      go_ret
      exact ⟨rfl, rfl⟩
set_option maxHeartbeats 1000000 in
theorem spec_l2Name (s : ByteArray) (w : World) (hs : s.size ≤ maxLen) : Calls Try.prog 145 #[.string s] w fun e w' => e = .returned (.bool (nmB s)) ∧ w = w' := by
  unfold maxLen at hs
  generalize hR : nmB s = R
  have HR := Lib.hid hR
  clear hR
  have HIN := Lib.hid (spec_in (s.size : Int) 1 10 w)
  go_enter Try.func145, Try.ntmps145
  go_wp2_with fail
  go_loop [3] (fun iv => ∃ (i : Nat), i ≤ s.size ∧ iv = .int .i64 (i : Int) ∧ Hid ((s.data.toList.take i).all lowB = true)) (fun iv => s.size - (intOf iv).toNat)
  case atStart => exact ⟨0, by omega, rfl, Lib.hid rfl⟩
  case round =>
    obtain ⟨i, hi, rfl, HA⟩ := hrel
    by_cases hlt : i < s.size
    · have HNO := Lib.hid (low_no hlt)
      have HYES : Hid (lowB s[i] = true → (s.data.toList.take (i + 1)).all lowB = true) := Lib.hid fun h => by rw [low_at hlt, HA.out, h]; rfl
      have hc : s[i].toNat < 256 := UInt8.toNat_lt _
      unfold lowB at HNO HYES
      by_cases h1 : s[i].toNat < 97
      · have h1i : (s[i].toNat : Int) < 97 := by omega
        have hr : R = false := by rw [← HR.out]; exact HNO.out (by simp; omega)
        subst hr
        clear HNO HYES
        go_wp2_with fail
        go_ret
        exact ⟨rfl, rfl⟩
      · have h1i : ¬ (s[i].toNat : Int) < 97 := by omega
        by_cases h2 : 122 < s[i].toNat
        · have h2i : (s[i].toNat : Int) > 122 := by omega
          have hr : R = false := by rw [← HR.out]; exact HNO.out (by simp; omega)
          subst hr
          clear HNO HYES
          go_wp2_with fail
          go_ret
          exact ⟨rfl, rfl⟩
        · have h2i : ¬ (s[i].toNat : Int) > 122 := by omega
          have HY := Lib.hid (HYES.out (by simp; omega))
          clear HNO HYES
          go_wp2_with fail
          go_round
          case rel => exact ⟨i + 1, by omega, by go_num, HY⟩
          case measure => (simp [intOf]; try omega)
    · obtain rfl : i = s.size := by omega
      have ha := HA.out
      rw [List.take_of_length_le (by simp)] at ha
      have hr : R = inR (s.size : Int) 1 10 := by rw [← HR.out]; unfold nmB; rw [ha]; rfl
      rw [← hr] at HIN
      clear ha hr
      go_wp2_with fail
      refine HIN.out.mono ?_
      rintro e w' ⟨rfl, rfl⟩
      go_wp2_with fail
      go_ret
      exact ⟨rfl, rfl⟩
set_option maxHeartbeats 400000 in
theorem spec_l6Name (s : ByteArray) (w : World) (hs : s.size ≤ maxLen) : Calls Try.prog 137 #[.string s] w fun e w' => e = .returned (.bool (nm4 s)) ∧ w = w' := by
  have H := Lib.hid (spec_l2Name s w hs)
  unfold maxLen at hs
  unfold nm4
  cases h : nmB s with
  | false =>
    rw [h] at H
    rw [Bool.false_and]
    go_enter Try.func137, Try.ntmps137
    go_wp2_with fail
    refine H.out.mono ?_
    rintro e w' ⟨rfl, rfl⟩
    go_wp2_with fail
    go_ret
    exact ⟨rfl, rfl⟩
  | true =>
    rw [h] at H
    rw [Bool.true_and]
    go_enter Try.func137, Try.ntmps137
    go_wp2_with fail
    refine H.out.mono ?_
    rintro e w' ⟨rfl, rfl⟩
    go_wp2_with fail
    go_ret
    exact ⟨by simp; try omega, rfl⟩
end Go.Proofs.Ytlmgckijbamgpaa
