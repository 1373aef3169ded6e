/- A number taken out of bytes: the walks. -/
import Derived.Test.YtlmgckijbamgpaaVar5
import Derived.Lib.VarintBits
namespace Go.Proofs.Ytlmgckijbamgpaa
set_option linter.unusedVariables false
set_option linter.unusedSimpArgs false
open Go.ChangeShapes Go.WideShapes Go.ChangeAt Go.RowKit
set_option maxRecDepth 100000

theorem or_shift {n i c : Nat} (hi : i < 5) (hn : n < 128 ^ i) (hc : c < 128) : bits .or .i64 (n : Int) (wrap64 ((c : Int) * 2 ^ (7 * i))) = ((n + c * 128 ^ i : Nat) : Int) := by
  have key : ∀ j : Nat, j ≤ 28 → (n : Int) < 2 ^ j → bits .or .i64 (n : Int) (wrap64 ((c : Int) * 2 ^ j)) = (n : Int) + (c : Int) * 2 ^ j := by
    intro j hj hnj
    have h1 : (2 : Int) ^ j ≤ 2 ^ 28 := by
      have := Nat.pow_le_pow_right (show 0 < 2 by decide) hj
      exact_mod_cast this
    have h2 : (c : Int) * 2 ^ j ≤ 127 * 2 ^ 28 := Int.mul_le_mul (by omega) h1 (by have : (0 : Int) < 2 ^ j := Int.pow_pos (by decide); omega) (by decide)
    have h0 : (0 : Int) ≤ (c : Int) * 2 ^ j := Int.mul_nonneg (by omega) (by have : (0 : Int) < 2 ^ j := Int.pow_pos (by decide); omega)
    have hw : wrap64 ((c : Int) * 2 ^ j) = (c : Int) * 2 ^ j := IntWalk.wrap64_in _ (by omega)
    rw [hw]
    exact bits_join_low .i64 63 (by decide) (fun n h0 h1 => IntWalk.i64_in n (by omega)) j (n : Int) _ (by omega) hnj (by omega) h0 (by simp) (by omega)
  have h7 : (128 : Nat) ^ i = 2 ^ (7 * i) := by rw [Nat.pow_mul]
  rw [key (7 * i) (by omega) (by rw [h7] at hn; exact_mod_cast hn), h7]
  push_cast
  rfl
theorem and_u8 {c : Nat} (h : c < 256) : bits .and .u8 (c : Int) 127 = ((c % 128 : Nat) : Int) := by
  have := bits_mask .u8 8 (by decide) wraps_u8 7 (by decide) (c : Int) (by omega) (by omega)
  rw [show (127 : Int) = 2 ^ 7 - 1 by decide, this]; omega
theorem drop_byte {s : ByteArray} {k : Nat} (h : k < s.size) : s.data.toList.drop k = s[k] :: s.data.toList.drop (k + 1) := by
  rw [List.drop_eq_getElem_cons (show k < s.data.toList.length by simpa using h)]
  rfl
/-- how a number is taken: what the walks hand out -/
def TakeRes (R : Nat × Nat × Bool) (a : Nat) (w : World) (e : Ending) (w' : World) : Prop :=
  ∃ (n : Nat) (en : Int), e = .returned (.tuple #[.int .i64 (n : Int), .int .i64 en, .bool R.2.2]) ∧ n < 34359738368 ∧ (R.2.2 = true → n = R.1 ∧ en = (a : Int) + (R.2.1 : Int)) ∧ w = w'
theorem take_word {n i c : Nat} (hi : i < 5) (hn : n < 128 ^ i) (hc : c < 256) : bits .or .i64 (n : Int) (wrap64 (wrap64 (bits .and .u8 (c : Int) 127) * 2 ^ (7 * i))) = ((n + c % 128 * 128 ^ i : Nat) : Int) := by
  have e := IntWalk.wrap64_in ((c % 128 : Nat) : Int) (by omega)
  rw [and_u8 hc, e]
  exact or_shift hi hn (by omega)
set_option maxHeartbeats 2000000 in
theorem impl_take (s : ByteArray) (a : Nat) (w : World) (hs : s.size ≤ 1048576) (ha : a ≤ 2097152) : Calls Try.prog 70 #[.string s, .int .i64 (a : Int)] w (TakeRes (takeF 5 (s.data.toList.drop a) 0 0) a w) := by
  generalize hT : takeF 5 (s.data.toList.drop a) 0 0 = R
  have HT := Lib.hid hT
  clear hT
  go_enter Try.func70, Try.ntmps70
  go_wp2_with fail
  go_loopw [7, 8] (fun nv iv wr => ∃ (n i : Nat), i ≤ 5 ∧ n < 128 ^ i ∧ nv = .int .i64 (n : Int) ∧ iv = .int .i64 (i : Int) ∧ Hid (takeF (5 - i) (s.data.toList.drop (a + i)) i n = R) ∧ wr = w) (fun _ iv _ => 5 - (intOf iv).toNat)
  case atStart => exact ⟨0, 0, by omega, by simp, rfl, rfl, HT, rfl⟩
  case round =>
    obtain ⟨n, i, hi, hn, rfl, rfl, HR, rfl⟩ := hrel
    by_cases h5 : i < 5
    · by_cases hl : a + i < s.size
      · have hli : (a : Int) + (i : Int) < (s.size : Int) := by omega
        have hr := HR.out
        rw [drop_byte hl, show 5 - i = (4 - i) + 1 by omega, takeF] at hr
        have hw := take_word h5 hn (UInt8.toNat_lt s[a + i])
        have hc : s[a + i].toNat < 256 := UInt8.toNat_lt _
        have hp : 128 ^ (i + 1) = 128 ^ i * 128 := Nat.pow_succ ..
        have hN : n + s[a + i].toNat % 128 * 128 ^ i < 128 ^ (i + 1) := by
          have : s[a + i].toNat % 128 * 128 ^ i ≤ 127 * 128 ^ i := Nat.mul_le_mul_right _ (by omega)
          omega
        generalize n + s[a + i].toNat % 128 * 128 ^ i = N at *
        have HRN := Lib.hid hr
        clear hr
        by_cases hc8 : s[a + i].toNat < 128
        · have hci : (s[a + i].toNat : Int) < 128 := by omega
          have hrn := HRN.out
          rw [if_pos hc8] at hrn
          have hN5 : N < 34359738368 := Nat.lt_of_lt_of_le hN (Nat.le_trans (Nat.pow_le_pow_right (by decide) (show i + 1 ≤ 5 by omega)) (by decide))
          clear HRN
          by_cases hm : N ≤ 2000000001
          · have hmi : (N : Int) ≤ 2000000001 := by omega
            by_cases h0 : 0 < s[a + i].toNat
            · have h0i : (s[a + i].toNat : Int) > 0 := by omega
              rw [if_pos ⟨hm, .inl h0⟩] at hrn
              subst hrn
              go_wp2_with fail
              go_ret3
              exact ⟨N, _, rfl, hN5, by simp; try omega, rfl⟩
            · have h0i : ¬ (s[a + i].toNat : Int) > 0 := by omega
              clear h0
              by_cases hi0 : i = 0
              · have hib : ((i : Int) == 0) = true := by rw [hi0]; rfl
                rw [if_pos ⟨hm, .inr hi0⟩] at hrn
                subst hrn
                clear hi0
                go_wp2_with fail
                go_ret3
                exact ⟨N, _, rfl, hN5, by simp; try omega, rfl⟩
              · have hib : ((i : Int) == 0) = false := beq_eq_false_iff_ne.2 (by omega)
                rw [if_neg (by intro hh; rcases hh.2 with hh | hh; · omega
                               · exact hi0 hh)] at hrn
                subst hrn
                clear hi0
                go_wp2_with fail
                go_ret3
                exact ⟨N, _, rfl, hN5, by simp; try omega, rfl⟩
          · have hmi : ¬ (N : Int) ≤ 2000000001 := by omega
            rw [if_neg (by omega)] at hrn
            subst hrn
            go_wp2_with fail
            go_ret3
            exact ⟨N, _, rfl, hN5, by simp; try omega, rfl⟩
        · have hci : ¬ (s[a + i].toNat : Int) < 128 := by omega
          have hrn := HRN.out
          rw [if_neg hc8] at hrn
          have HRM := Lib.hid hrn
          clear HRN hrn
          go_wp2_with fail
          go_roundw
          case rel => exact ⟨N, i + 1, by omega, hN, rfl, by go_num, Lib.hid (by rw [show 5 - (i + 1) = 4 - i by omega, show a + (i + 1) = a + i + 1 by omega]; exact HRM.out), trivial⟩
          case measure => (simp [intOf]; try omega)
      · have hli : ¬ (a : Int) + (i : Int) < (s.size : Int) := by omega
        have hr := HR.out
        rw [List.drop_eq_nil_of_le (by simp; omega), show 5 - i = (4 - i) + 1 by omega, takeF] at hr
        subst hr
        go_wp2_with fail
        go_ret3
        exact ⟨0, 0, rfl, by decide, by simp, rfl⟩
    · obtain rfl : i = 5 := by omega
      have hr := HR.out
      rw [Nat.sub_self, takeF] at hr
      subst hr
      go_wp2_with fail
      go_ret3
      exact ⟨0, 0, rfl, by decide, by simp, rfl⟩
end Go.Proofs.Ytlmgckijbamgpaa
