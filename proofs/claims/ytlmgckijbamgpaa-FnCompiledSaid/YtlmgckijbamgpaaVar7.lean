/- A number taken out of bytes: the reference's walk and the exported functions. -/
import Derived.Test.YtlmgckijbamgpaaVar6
namespace Go.Proofs.Ytlmgckijbamgpaa
set_option linter.unusedVariables false
set_option linter.unusedSimpArgs false
open Go.ChangeShapes Go.WideShapes Go.ChangeAt Go.RowKit
set_option maxRecDepth 100000

def takeEnd (R : Nat × Nat × Bool) (a : Nat) : Int := if R.2.2 = true then (a : Int) + (R.2.1 : Int) else 0
theorem take_wordS {n i c : Nat} (hi : i < 5) (hn : n < 128 ^ i) (hc : c < 256) : bits .or .i64 (n : Int) (wrap64 (bits .and .i64 (c : Int) 127 * 2 ^ (7 * i))) = ((n + c % 128 * 128 ^ i : Nat) : Int) := by
  rw [and127 (by omega), show (c : Int) % 128 = ((c % 128 : Nat) : Int) by omega]
  exact or_shift hi hn (by omega)
set_option maxHeartbeats 2000000 in
theorem spec_take (s : ByteArray) (a : Nat) (w : World) (hs : s.size ≤ 1048576) (ha : a ≤ 2097152) : Calls Try.prog 78 #[.string s, .int .i64 (a : Int)] w fun e w' => e = .returned (.tuple #[.int .i64 ((takeF 5 (s.data.toList.drop a) 0 0).1 : Int), .int .i64 (takeEnd (takeF 5 (s.data.toList.drop a) 0 0) a), .bool (takeF 5 (s.data.toList.drop a) 0 0).2.2]) ∧ w = w' := by
  generalize hT : takeF 5 (s.data.toList.drop a) 0 0 = R
  have HT := Lib.hid hT
  clear hT
  go_enter Try.func78, Try.ntmps78
  go_wp2_with fail
  go_loopw [7, 8] (fun nv iv wr => ∃ (n i : Nat), i ≤ 5 ∧ n < 128 ^ i ∧ nv = .int .i64 (n : Int) ∧ iv = .int .i64 (i : Int) ∧ Hid (takeF (5 - i) (s.data.toList.drop (a + i)) i n = R) ∧ wr = w) (fun _ iv _ => 5 - (intOf iv).toNat)
  case atStart => exact ⟨0, 0, by omega, by simp, rfl, rfl, HT, rfl⟩
  case round =>
    obtain ⟨n, i, hi, hn, rfl, rfl, HR, rfl⟩ := hrel
    by_cases h5 : i < 5
    · by_cases hl : a + i < s.size
      · have hli : (a : Int) + (i : Int) < (s.size : Int) := by omega
        have hr := HR.out
        rw [drop_byte hl, show 5 - i = (4 - i) + 1 by omega, takeF] at hr
        have hw := take_wordS h5 hn (UInt8.toNat_lt s[a + i])
        have hc : s[a + i].toNat < 256 := UInt8.toNat_lt _
        have hp : 128 ^ (i + 1) = 128 ^ i * 128 := Nat.pow_succ ..
        have hN : n + s[a + i].toNat % 128 * 128 ^ i < 128 ^ (i + 1) := by
          have : s[a + i].toNat % 128 * 128 ^ i ≤ 127 * 128 ^ i := Nat.mul_le_mul_right _ (by omega)
          omega
        generalize n + s[a + i].toNat % 128 * 128 ^ i = N at *
        have HRN := Lib.hid hr
        clear hr
        by_cases hc8 : s[a + i].toNat < 128
        · have hci : (s[a + i].toNat : Int) < 128 := by omega
          have hrn := HRN.out
          rw [if_pos hc8] at hrn
          clear HRN
          by_cases hA : 0 < i
          · have hiA : (i : Int) > 0 := by omega
            by_cases h0 : s[a + i].toNat = 0
            · have hb : ((s[a + i].toNat : Int) == 0) = true := by rw [h0]; rfl
              rw [if_neg (by omega)] at hrn
              subst hrn
              clear h0
              go_wp2_with fail
              go_ret3
              exact ⟨rfl, rfl⟩
            · have hb : ((s[a + i].toNat : Int) == 0) = false := beq_eq_false_iff_ne.2 (by omega)
              by_cases hm : N ≤ 2000000001
              · have hmi : ¬ (N : Int) > 2000000001 := by omega
                rw [if_pos ⟨hm, by omega⟩] at hrn
                subst hrn
                clear h0
                go_wp2_with fail
                go_ret3
                exact ⟨rfl, rfl⟩
              · have hmi : (N : Int) > 2000000001 := by omega
                rw [if_neg (by omega)] at hrn
                subst hrn
                clear h0
                go_wp2_with fail
                go_ret3
                exact ⟨rfl, rfl⟩
          · have hiA : ¬ (i : Int) > 0 := by omega
            have h0 : i = 0 := by omega
            have hb : ((s[a + i].toNat : Int) == 0) = ((s[a + i].toNat : Int) == 0) := rfl
            by_cases hm : N ≤ 2000000001
            · have hmi : ¬ (N : Int) > 2000000001 := by omega
              rw [if_pos ⟨hm, by omega⟩] at hrn
              subst hrn
              clear h0
              go_wp2_with fail
              go_ret3
              exact ⟨rfl, rfl⟩
            · have hmi : (N : Int) > 2000000001 := by omega
              rw [if_neg (by omega)] at hrn
              subst hrn
              clear h0
              go_wp2_with fail
              go_ret3
              exact ⟨rfl, rfl⟩
        · have hci : ¬ (s[a + i].toNat : Int) < 128 := by omega
          have hrn := HRN.out
          rw [if_neg hc8] at hrn
          have HRM := Lib.hid hrn
          clear HRN hrn
          go_wp2_with fail
          go_roundw
          case rel => exact ⟨N, i + 1, by omega, hN, rfl, by go_num, Lib.hid (by rw [show 5 - (i + 1) = 4 - i by omega, show a + (i + 1) = a + i + 1 by omega]; exact HRM.out), trivial⟩
          case measure => (simp [intOf]; try omega)
      · have hli : ¬ (a : Int) + (i : Int) < (s.size : Int) := by omega
        have hr := HR.out
        rw [List.drop_eq_nil_of_le (by simp; omega), show 5 - i = (4 - i) + 1 by omega, takeF] at hr
        subst hr
        go_wp2_with fail
        go_ret3
        exact ⟨rfl, rfl⟩
    · obtain rfl : i = 5 := by omega
      have hr := HR.out
      rw [Nat.sub_self, takeF] at hr
      subst hr
      go_wp2_with fail
      go_ret3
      exact ⟨rfl, rfl⟩

def R_Take (s : ByteArray) (a : Int) : Nat × Int × Bool := if a < 0 ∨ 400 < s.size then (0, 0, false) else ((takeF 5 (s.data.toList.drop a.toNat) 0 0).1, takeEnd (takeF 5 (s.data.toList.drop a.toNat) 0 0) a.toNat, (takeF 5 (s.data.toList.drop a.toNat) 0 0).2.2)
theorem takeF_no : ∀ (f k n : Nat) (l : List UInt8), (takeF f l k n).2.2 = false → (takeF f l k n).1 = 0
  | 0, k, n, l => by simp [takeF]
  | f + 1, k, n, [] => by simp [takeF]
  | f + 1, k, n, b :: r => by
    unfold takeF
    split
    · split
      · simp
      · simp
    · exact takeF_no f _ _ r
set_option maxHeartbeats 1000000 in
theorem spec_TakeVarint (s : ByteArray) (a : Int) (w : World) (hs : s.size ≤ 1048576) (ha : a ≤ 2097152) (hb : -2097152 ≤ a) : Calls Try.prog 28 #[.string s, .int .i64 a] w fun e w' => e = .returned (.tuple #[.int .i64 ((R_Take s a).1 : Int), .int .i64 (R_Take s a).2.1, .bool (R_Take s a).2.2]) ∧ w = w' := by
  unfold R_Take
  by_cases h4 : 400 < s.size
  · have h4i : (s.size : Int) > 400 := by omega
    rw [if_pos (.inr h4)]
    go_enter Try.func28, Try.ntmps28
    go_wp2_with fail
    go_ret3
    exact ⟨rfl, rfl⟩
  · have h4i : ¬ (s.size : Int) > 400 := by omega
    by_cases h0 : a < 0
    · rw [if_pos (.inl h0)]
      go_enter Try.func28, Try.ntmps28
      go_wp2_with fail
      go_ret3
      exact ⟨rfl, rfl⟩
    · obtain ⟨k, rfl⟩ : ∃ k : Nat, a = (k : Int) := ⟨a.toNat, by omega⟩
      rw [if_neg (by omega), show ((k : Nat) : Int).toNat = k by omega]
      by_cases hl : (k : Int) ≥ (s.size : Int)
      · rw [List.drop_eq_nil_of_le (by simp; omega)]
        go_enter Try.func28, Try.ntmps28
        go_wp2_with fail
        go_ret3
        exact ⟨rfl, rfl⟩
      · have H := Lib.hid (spec_take s k w hs (by omega))
        go_enter Try.func28, Try.ntmps28
        go_wp2_with fail
        refine H.out.mono ?_
        rintro e w' ⟨rfl, rfl⟩
        go_wp2_with fail
        go_ret3
        exact ⟨rfl, rfl⟩
set_option maxHeartbeats 1000000 in
theorem impl_TakeVarint (s : ByteArray) (a : Int) (w : World) (hs : s.size ≤ 1048576) (ha : a ≤ 2097152) (hb : -2097152 ≤ a) : Calls Try.prog 20 #[.string s, .int .i64 a] w fun e w' => e = .returned (.tuple #[.int .i64 ((R_Take s a).1 : Int), .int .i64 (R_Take s a).2.1, .bool (R_Take s a).2.2]) ∧ w = w' := by
  unfold R_Take
  by_cases h4 : 400 < s.size
  · have h4i : (s.size : Int) > 400 := by omega
    rw [if_pos (.inr h4)]
    go_enter Try.func20, Try.ntmps20
    go_wp2_with fail
    go_ret3
    exact ⟨rfl, rfl⟩
  · have h4i : ¬ (s.size : Int) > 400 := by omega
    by_cases h0 : a < 0
    · rw [if_pos (.inl h0)]
      go_enter Try.func20, Try.ntmps20
      go_wp2_with fail
      go_ret3
      exact ⟨rfl, rfl⟩
    · obtain ⟨k, rfl⟩ : ∃ k : Nat, a = (k : Int) := ⟨a.toNat, by omega⟩
      rw [if_neg (by omega), show ((k : Nat) : Int).toNat = k by omega]
      have H := Lib.hid (impl_take s k w hs (by omega))
      have hno := takeF_no 5 0 0 (s.data.toList.drop k)
      generalize takeF 5 (s.data.toList.drop k) 0 0 = R at *
      obtain ⟨r1, r2, r3⟩ := R
      cases r3 with
      | false =>
        obtain rfl : r1 = 0 := hno rfl
        go_enter Try.func20, Try.ntmps20
        go_wp2_with fail
        refine H.out.mono ?_
        rintro e w' ⟨n, en, rfl, hn, hr, rfl⟩
        go_wp2_with fail
        go_ret3
        exact ⟨rfl, rfl⟩
      | true =>
        go_enter Try.func20, Try.ntmps20
        go_wp2_with fail
        refine H.out.mono ?_
        rintro e w' ⟨n, en, rfl, hn, hr, rfl⟩
        obtain ⟨rfl, rfl⟩ := hr rfl
        go_wp2_with fail
        go_ret3
        exact ⟨rfl, rfl⟩
end Go.Proofs.Ytlmgckijbamgpaa
