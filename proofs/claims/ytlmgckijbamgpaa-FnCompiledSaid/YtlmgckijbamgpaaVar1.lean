/- Numbers in bytes: the walks of what puts them. -/
import Derived.Test.YtlmgckijbamgpaaVarL
import Derived.Lib.EndianBits
import Derived.Laws.BitsLemmas
import Derived.Test.YtlmgckijbamgpaaDig
namespace Go.Proofs.Ytlmgckijbamgpaa
set_option linter.unusedVariables false
set_option linter.unusedSimpArgs false
open Go.ChangeShapes Go.WideShapes Go.ChangeAt Go.RowKit
set_option maxRecDepth 100000

theorem and127 {m : Nat} (h : m < 9223372036854775808) : bits .and .i64 (m : Int) 127 = (m : Int) % 128 :=
  bits_mask .i64 63 (by decide) (fun n h0 h1 => IntWalk.i64_in n (by omega)) 7 (by decide) (m : Int) (by omega) (by omega)
theorem or128 {m : Nat} (h : m < 128) : bits .or .u8 (m : Int) 128 = (m : Int) + 128 :=
  bits_join_low .u8 8 (by decide) wraps_u8 7 (m : Int) 128 (by omega) (by omega) (by omega) (by decide) (by decide) (by decide)
theorem put_dig (out : List UInt8) {b : Nat} (hb : b < 256) : (⟨out.toArray⟩ : ByteArray) ++ dig1 (b : Int) = ⟨(out ++ [UInt8.ofNat b]).toArray⟩ := by
  unfold dig1 strOfNums
  apply ByteArray.ext
  simp
set_option maxHeartbeats 1000000 in
theorem spec_varint (n : Nat) (w : World) (hn : n < 128 ^ 6) : Calls Try.prog 69 #[.int .i64 (n : Int)] w fun e w' => e = .returned (.string ⟨(vb n).toArray⟩) ∧ Below w.heap.size w w' := by
  go_enter Try.func69, Try.ntmps69
  go_wp2_with fail
  go_loopw [0, 3] (fun nv sv wr => ∃ (f m : Nat) (out : List UInt8), m < 128 ^ (f + 1) ∧ out.length + f ≤ 5 ∧ nv = .int .i64 (m : Int) ∧ sv = .string ⟨out.toArray⟩ ∧ Hid (out ++ vbF f m = vb n) ∧ Hid (Below w.heap.size w wr)) (fun nv _ _ => (intOf nv).toNat)
  case atStart => exact ⟨5, n, [], hn, by simp, rfl, rfl, Lib.hid rfl, Lib.hid (Below.refl _ _)⟩
  case round =>
    obtain ⟨f, m, out, hm, hf, rfl, rfl, HE, HB⟩ := hrel
    have hm6 : m < 128 ^ 6 := Nat.lt_of_lt_of_le hm (Nat.pow_le_pow_right (by decide) (by omega))
    have hm7 : m < 4398046511104 := by simpa using hm6
    clear hm6
    have hsz : (⟨out.toArray⟩ : ByteArray).size = out.length := rfl
    have hd1 := dig1_size
    by_cases hc : 128 ≤ m
    · match f, hm with
      | 0, hm => simp at hm; omega
      | f + 1, hm =>
      have e1 := and127 (m := m) (by omega)
      have e2 : (m : Int) % 128 % 256 = ((m % 128 : Nat) : Int) := by omega
      have e3 := or128 (m := m % 128) (by omega)
      have hcv := conv_byte wr (bits .or .u8 (bits .and .i64 (m : Int) 127 % 256) 128)
      have HPD := Lib.hid (put_dig out (b := m % 128 + 128) (by omega))
      have HEN : Hid ((out ++ [UInt8.ofNat (m % 128 + 128)]) ++ vbF f (m / 128) = vb n) := Lib.hid (by
        rw [← HE.out, vbF, if_pos hc, List.append_assoc]; rfl)
      have HV : Hid (bits .or .u8 (bits .and .i64 (m : Int) 127 % 256) 128 = ((m % 128 + 128 : Nat) : Int)) := Lib.hid (by rw [e1, e2, e3]; omega)
      clear e1 e2 e3
      go_wp2_with fail
      go_roundw
      case rel => exact ⟨f, m / 128, out ++ [UInt8.ofNat (m % 128 + 128)], by rw [Nat.pow_succ] at hm; omega, by simp; omega, by congr 1, by rw [HV.out, HPD.out], HEN, Lib.hid (HB.out.alloc HB.out.size _)⟩
      case measure => (simp [intOf]; try omega)
    · have hcv := conv_byte wr (m : Int)
      have HPD := Lib.hid (put_dig out (b := m) (by omega))
      have HEN : Hid (out ++ [UInt8.ofNat m] = vb n) := Lib.hid (by
        rw [← HE.out]
        cases f with
        | zero => rfl
        | succ f => rw [vbF, if_neg hc])
      go_wp2_with fail
      go_ret
      exact ⟨by rw [HPD.out, HEN.out]; rfl, HB.out.alloc HB.out.size _⟩
end Go.Proofs.Ytlmgckijbamgpaa
