/- The contracts of the laws' small words: whether two lists of numbers are alike, whether a list holds a number. -/
import Derived.Test.YthlajmncpejhmaaInts
namespace Go.Proofs.Ythlajmncpejhmaa
set_option linter.unusedVariables false
open Go.ChangeShapes Go.WideShapes Go.ChangeAt Go.RowKit

theorem take_more {α : Type} {xs ys : List α} {k : Nat} (d : α) (hl : xs.length = ys.length) (hk : k < xs.length) (h : xs.take k = ys.take k) (he : xs.getD k d = ys.getD k d) : xs.take (k + 1) = ys.take (k + 1) := by
  have hk2 : k < ys.length := by omega
  rw [List.take_succ_eq_append_getElem hk, List.take_succ_eq_append_getElem hk2, h]
  simp only [List.getD, List.getElem?_eq_getElem hk, List.getElem?_eq_getElem hk2, Option.getD_some] at he
  rw [he]
theorem take_less {α : Type} {xs ys : List α} {k : Nat} (d : α) (he : xs.getD k d ≠ ys.getD k d) : xs ≠ ys := fun h => he (by rw [h])

set_option maxHeartbeats 400000 in
theorem same_ints (a b : Option Addr) (cap cap' : Nat) (xs ys : List Int) (w : World) (ha : Rw w a (ints xs)) (hb : Rw w b (ints ys)) (hn : xs.length ≤ 9223372036854775807) (hn2 : ys.length ≤ 9223372036854775807) :
    Calls Try.prog 41 #[.slice a xs.length cap, .slice b ys.length cap'] w fun e w' => e = .returned (.bool (decide (xs = ys))) ∧ Drawn w w' := by
  by_cases hl : xs.length = ys.length
  case neg =>
    have hd : decide (xs = ys) = false := by simp; intro h; exact hl (by rw [h])
    rw [hd]; clear hd ha hb
    go_enter Try.func41, Try.ntmps41
    go_wp2_with fail
    go_ret
    exact ⟨rfl, Drawn.refl w⟩
  have HL := Lib.hid hl
  have HE : Hid (xs.take xs.length = ys.take xs.length → decide (xs = ys) = true) := Lib.hid fun h => by rw [List.take_length, hl, List.take_length] at h; simp [h]
  rw [← hl]; clear hl hn2
  go_enter Try.func41, Try.ntmps41
  go_wp2_with fail
  go_loopw [13] (fun i wr => ∃ k : Nat, k ≤ xs.length ∧ i = .int .i64 k ∧ Hid (xs.take k = ys.take k) ∧ Drawn w wr) (fun i _ => xs.length - (intOf i).toNat)
  case atStart => exact ⟨0, Nat.zero_le _, rfl, rfl, Drawn.refl w⟩
  case round =>
    obtain ⟨k, hk, rfl, HT, n, rfl⟩ := hrel
    by_cases hlk : k < xs.length
    · obtain ⟨b1, off1, rfl, hbl1, hc1⟩ := ha.at (ints_ne hlk)
      obtain ⟨b2, off2, rfl, hbl2, hc2⟩ := hb.at (ints_ne (k := k) (by have := HL.out; omega))
      have hd1 := hc1 k _ (ints_at xs k hlk)
      have hd2 := hc2 k _ (ints_at ys k (by have := HL.out; omega))
      clear hc1 hc2 ha hb
      by_cases he : xs.getD k 0 = ys.getD k 0
      · have HT2 := Lib.hid (take_more 0 HL.out hlk HT.out he)
        rw [← he] at hd2
        clear HT he
        generalize xs.getD k 0 = s at *
        have hbe : (s != s) = false := by simp
        go_wp2_with fail
        go_quiet (fail)
        go_wp2_with fail
        go_roundw
        case rel => exact ⟨k + 1, by omega, by go_num, HT2.out, ⟨_, rfl⟩⟩
        case measure => simp [intOf]; omega
      · have hN : decide (xs = ys) = false := by simp; exact take_less 0 he
        have hbe : (xs.getD k 0 != ys.getD k 0) = true := by simpa using he
        have HN := Lib.hid hN
        clear HT hN he
        generalize xs.getD k 0 = s at *
        generalize ys.getD k 0 = t at *
        go_wp2_with fail
        go_quiet (fail)
        go_wp2_with fail
        go_ret
        exact ⟨ret_bool HN.out.symm, drawn_more _ _ _⟩
    · go_wp2_with fail
      go_ret
      obtain rfl : k = xs.length := by omega
      exact ⟨ret_bool (HE.out HT.out).symm, n, rfl⟩

end Go.Proofs.Ythlajmncpejhmaa
