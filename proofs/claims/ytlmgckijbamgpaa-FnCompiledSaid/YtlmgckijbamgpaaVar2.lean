/- Numbers in bytes: the walk of the program's varint. -/
import Derived.Test.YtlmgckijbamgpaaVar1
import Derived.Deep.AppendLies
namespace Go.Proofs.Ytlmgckijbamgpaa
set_option linter.unusedVariables false
set_option linter.unusedSimpArgs false
open Go.ChangeShapes Go.WideShapes Go.ChangeAt Go.RowKit
set_option maxRecDepth 100000

theorem Try.infoU8V : (Try.prog.info? 5).map (fun i => (i.zero, i.size, i.bytes)) = some (some (.int .u8 0), 1, 1) := by kernel_rfl
theorem or128w {m : Nat} (h : m < 256) : bits .or .u8 (m : Int) 128 = ((m % 128 + 128 : Nat) : Int) := by
  have h1 := (bits_nat .u8 8 (by decide) wraps_u8 m 128 h (by decide)).2
  have h2 : ∀ y : Fin 256, (y.val ||| 128) = y.val % 128 + 128 := by decide
  have h3 := h2 ⟨m, h⟩
  simp only at h3
  rw [h3] at h1
  exact h1
theorem byts_snoc (out : List UInt8) {b : Nat} (hb : b < 256) : byts (out ++ [UInt8.ofNat b]) = byts out ++ [.int .u8 (b : Int)] := by
  unfold byts
  rw [List.map_append, List.map_singleton, ofNat_toNat hb]
set_option maxHeartbeats 2000000 in
theorem impl_varint (base n : Nat) (v : Value) (xs : List UInt8) (w : World) (ho : w.ownsRow base 5 1 v xs.length (byts xs)) (hb : base ≤ w.heap.size) (hn : n < 128 ^ 6) (hx : xs.length ≤ 1048576) :
    Calls Try.prog 67 #[v, .int .i64 (n : Int)] w fun e w' => ∃ v', e = .returned v' ∧ w'.ownsRow base 5 1 v' (xs ++ vb n).length (byts (xs ++ vb n)) ∧ Below base w w' := by
  obtain ⟨i0, hJ, hz0, hz1, hz2⟩ := info_parts Try.infoU8V
  have HO := Lib.hid ho
  clear ho
  go_enter Try.func67, Try.ntmps67
  go_wp2_with fail
  go_loopw [0, 1] (fun sv nv wr => ∃ (f m : Nat) (out : List UInt8), m < 128 ^ (f + 1) ∧ m ≤ n ∧ out.length + f ≤ 5 + xs.length ∧ nv = .int .i64 (m : Int) ∧ Hid (wr.ownsRow base 5 1 sv out.length (byts out)) ∧ Hid (out ++ vbF f m = xs ++ vb n) ∧ Hid (Below base w wr)) (fun _ nv _ => (intOf nv).toNat)
  case atStart => exact ⟨5, n, xs, hn, Nat.le_refl _, by omega, rfl, HO, Lib.hid rfl, Lib.hid (Below.refl _ _)⟩
  case round =>
    obtain ⟨f, m, out, hm, hmn, hf, rfl, HR, HE, HB⟩ := hrel
    have hbs := HB.out.size
    have hbs' : base ≤ wr.heap.size := by omega
    have hm7 : m < 4398046511104 := by have : n < 4398046511104 := by simpa using hn
                                       omega
    clear hn
    by_cases hc : 128 ≤ m
    · match f, hm with
      | 0, hm => simp at hm; omega
      | f + 1, hm =>
      have HEN : Hid ((out ++ [UInt8.ofNat (m % 128 + 128)]) ++ vbF f (m / 128) = xs ++ vb n) := Lib.hid (by
        rw [← HE.out, vbF, if_pos hc, List.append_assoc]; rfl)
      have hv : bits .or .u8 ((m : Int) % 256) 128 = ((m % 128 + 128 : Nat) : Int) := by
        have := or128w (m := m % 256) (by omega)
        rw [show (m : Int) % 256 = ((m % 256 : Nat) : Int) by omega, this]; congr 2; omega
      have HSN := Lib.hid (byts_snoc out (b := m % 128 + 128) (by omega))
      go_wp2_with (at_builtin; refine wpList_append_lies _ rfl _ _ 38 rfl base 5 i0 (.int .u8 0) 1 1 Try.underlying38 hJ hz0 hz1 hz2 rfl (by decide) _ out.length _ rfl (HR.out.alloc _) _ 1 1 [.int .u8 _] rfl rfl (news_one _ _ _) (by simp [Value.oneCell']) (by decide) (by unfold maxLen; omega) (by omega) (by simp; omega) _ rfl ?_)
      intro g cp w4 hown hgrow hat hlt
      have HO4 : Hid (w4.ownsRow base 5 1 (.slice (some ⟨g, 0, none⟩) (out.length + 1) cp) (out.length + 1) (byts (out ++ [UInt8.ofNat (m % 128 + 128)]))) := Lib.hid (by rw [HSN.out]; exact hown)
      have HB4 := Lib.hid (Below.grown (HB.out.alloc hbs' (.cells #[.int .u8 _] 5)) hgrow (by simp; omega) (fun q hq => (HR.out.lt q hq).1))
      clear hown hgrow hat
      go_wp2_with fail
      go_roundw
      case rel => exact ⟨f, m / 128, out ++ [UInt8.ofNat (m % 128 + 128)], by rw [Nat.pow_succ] at hm; omega, by omega, by simp; omega, by congr 1, by rw [List.length_append]; exact HO4, HEN, HB4⟩
      case measure => (simp [intOf]; try omega)
    · have HEN : Hid (out ++ [UInt8.ofNat m] = xs ++ vb n) := Lib.hid (by
        rw [← HE.out]
        cases f with
        | zero => rfl
        | succ f => rw [vbF, if_neg hc])
      have HSN := Lib.hid (byts_snoc out (b := m) (by omega))
      go_wp2_with (at_builtin; refine wpList_append_lies _ rfl _ _ 38 rfl base 5 i0 (.int .u8 0) 1 1 Try.underlying38 hJ hz0 hz1 hz2 rfl (by decide) _ out.length _ rfl (HR.out.alloc _) _ 1 1 [.int .u8 _] rfl rfl (news_one _ _ _) (by simp [Value.oneCell']) (by decide) (by unfold maxLen; omega) (by omega) (by simp; omega) _ rfl ?_)
      intro g cp w4 hown hgrow hat hlt
      have HO4 : Hid (w4.ownsRow base 5 1 (.slice (some ⟨g, 0, none⟩) (out.length + 1) cp) (out.length + 1) (byts (out ++ [UInt8.ofNat (m)]))) := Lib.hid (by rw [HSN.out]; exact hown)
      have HB4 := Lib.hid (Below.grown (HB.out.alloc hbs' (.cells #[.int .u8 _] 5)) hgrow (by simp; omega) (fun q hq => (HR.out.lt q hq).1))
      clear hown hgrow hat
      go_wp2_with fail
      go_ret
      refine ⟨_, rfl, ?_, HB4.out⟩
      rw [← HEN.out, List.length_append]; exact HO4.out
end Go.Proofs.Ytlmgckijbamgpaa
