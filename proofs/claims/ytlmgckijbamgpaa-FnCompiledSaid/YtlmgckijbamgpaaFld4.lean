/- The draws of fields: a spoilt text. -/
import Derived.Test.YtlmgckijbamgpaaFld3
import Derived.Test.YtlmgckijbamgpaaVar8
namespace Go.Proofs.Ytlmgckijbamgpaa
set_option linter.unusedVariables false
set_option linter.unusedSimpArgs false
open Go.ChangeShapes Go.WideShapes Go.ChangeAt Go.RowKit
set_option maxRecDepth 100000

set_option maxHeartbeats 4000000 in
theorem cur_spoilt (B K : Nat) (t0 wi : ByteArray) (w : World) (h : PC w B K) (hK : K ≤ 800000000000) (ht : t0.size ≤ 1048576) (hw1 : 1 ≤ wi.size) (hw2 : wi.size ≤ 1000) :
    Calls Try.prog 90 #[.pointer (some ⟨B, 0, none⟩), .string t0, .string wi] w fun e w' => ∃ s : ByteArray, e = .returned (.string s) ∧ s.size ≤ t0.size + 2 ∧ PC w' B (K + 40) ∧ Wrote (WS B w.heap.size) w w' := by
  have HP := Lib.hid (fun (K' : Nat) (n : Int) wx (hx : PC wx B K') (h1 : K' ≤ 900000000000) (h2 : n ≤ 2147483648) => cur_pick B K' n wx hx h1 h2)
  have HH := Lib.hid h
  have hBl := h.lt
  clear h
  go_enter Try.func90, Try.ntmps90
  go_wp2_with fail
  refine (HP.out K 3 w HH.out (by omega) (by omega)).mono ?_
  rintro e wa ⟨r0, rfl, hr0, hp, hw⟩
  have HPa := Lib.hid hp
  have HWa := Lib.hid (ws_cur (n := w.heap.size) hw); clear hp hw
  have hr2 : r0 ≤ 2 := by omega
  clear hr0
  go_wp2_with fail
  go_loopw [1, 7] (fun tv nv wr => ∃ (m : Nat) (t : ByteArray), m ≤ 2 ∧ nv = .int .i64 (m : Int) ∧ tv = .string t ∧ t.size + m ≤ t0.size + 2 ∧ Hid (PC wr B (K + 2 + 8 * (2 - m))) ∧ Hid (Wrote (WS B w.heap.size) w wr)) (fun _ nv _ => (intOf nv).toNat)
  case atStart => exact ⟨r0, t0, hr2, rfl, rfl, by omega, Lib.hid (HPa.out.mono (by omega)), HWa⟩
  case round =>
    obtain ⟨w1, rfl⟩ : ∃ z : World, z = wr := ⟨_, rfl⟩
    obtain ⟨m, t, hm, rfl, rfl, hts, HP1, HW1⟩ := hrel
    by_cases hm0 : 0 < m
    case neg =>
      obtain rfl : m = 0 := by omega
      go_wp2_with fail
      go_ret
      exact ⟨t, rfl, by omega, HP1.out.mono (by omega), HW1.out⟩
    by_cases ht0 : 0 < t.size
    case neg =>
      have ht1 : ¬ (t.size : Int) > 0 := by omega
      go_wp2_with fail
      go_ret
      exact ⟨t, rfl, by omega, HP1.out.mono (by omega), HW1.out⟩
    go_wp2_with fail
    refine (HP.out _ (t.size : Int) w1 HP1.out (by omega) (by omega)).mono ?_
    rintro e w2 ⟨i, rfl, hi, hp, hw⟩
    have HP2 := Lib.hid hp
    have HW2 := Lib.hid (HW1.out.trans (ws_cur (n := w.heap.size) hw)); clear hp hw
    have hit : i < t.size := by omega
    clear hi
    go_wp2_with fail
    refine (HP.out _ (wi.size : Int) w2 HP2.out (by omega) (by omega)).mono ?_
    rintro e w3 ⟨j, rfl, hj, hp, hw⟩
    have HW3 := Lib.hid (HW2.out.trans (ws_cur (n := w.heap.size) hw))
    have hj2 : j < wi.size := by omega
    clear hj
    have hcv := conv_byte w3 (wi[j].toNat : Int)
    have hd1 := dig1_size
    have hbb := Below.refl w3.heap.size w3
    have HP3 := Lib.hid (hp.later (hbb.alloc (Nat.le_refl _) (.cells #[.int .u8 (wi[j].toNat : Int)] 5)))
    have HW3' := Lib.hid (HW3.out.trans (ws_below (B := B) ((hbb.alloc (Nat.le_refl _) (.cells #[.int .u8 (wi[j].toNat : Int)] 5)).mono HW3.out.size) HW3.out.size))
    clear hp hw hbb
    generalize hD : dig1 (wi[j].toNat : Int) = d at *
    have hds : d.size = 1 := by rw [← hD]; exact hd1 _
    clear hd1 hD
    go_wp2_with fail
    generalize w3.alloc (.cells #[.int .u8 (wi[j].toNat : Int)] 5) = w5 at *
    refine (HP.out _ 3 w5 HP3.out (by omega) (by omega)).mono ?_
    rintro e w4 ⟨c, rfl, hc, hp, hw⟩
    have HP4 := Lib.hid hp
    have HW4 := Lib.hid (HW3'.out.trans (ws_cur (n := w.heap.size) hw)); clear hp hw
    have hc3 : c ≤ 2 := by omega
    clear hc
    have s1 : (t.extract 0 i).size = i := by rw [ByteArray.size_extract]; omega
    have s2 : (t.extract i t.size).size = t.size - i := by rw [ByteArray.size_extract]; omega
    have s3 : (t.extract (i + 1) t.size).size = t.size - (i + 1) := by rw [ByteArray.size_extract]; omega
    have s4 : (t.extract 0 i ++ d).size = i + 1 := by rw [ByteArray.size_append]; omega
    cases h0 : ((c : Int) == 0) with
    | true =>
      go_wp2_with fail
      go_quiet (fail)
      go_wp2_with fail
      go_roundw
      case rel => exact ⟨m - 1, _, by omega, by go_num, rfl, by rw [ByteArray.size_append, s4, s2]; omega, Lib.hid (HP4.out.mono (by omega)), Lib.hid (HW4.out.drewN _)⟩
      case measure => (simp [intOf]; try omega)
    | false =>
      cases h1 : ((c : Int) == 1) with
      | true =>
        go_wp2_with fail
        go_quiet (fail)
        go_wp2_with fail
        go_roundw
        case rel => exact ⟨m - 1, _, by omega, by go_num, rfl, by rw [ByteArray.size_append, s4, s3]; omega, Lib.hid (HP4.out.mono (by omega)), Lib.hid (HW4.out.drewN _)⟩
        case measure => (simp [intOf]; try omega)
      | false =>
        go_wp2_with fail
        go_quiet (fail)
        go_wp2_with fail
        go_roundw
        case rel => exact ⟨m - 1, _, by omega, by go_num, rfl, by rw [ByteArray.size_append, s1, s3]; omega, Lib.hid (HP4.out.mono (by omega)), Lib.hid (HW4.out.drewN _)⟩
        case measure => (simp [intOf]; try omega)
end Go.Proofs.Ytlmgckijbamgpaa
