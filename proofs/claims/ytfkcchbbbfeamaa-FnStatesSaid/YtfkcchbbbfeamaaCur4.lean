/- The contracts of the draws: long texts. -/
import Derived.Test.YtfkcchbbbfeamaaCur3
namespace Go.Proofs.Ytfkcchbbbfeamaa
set_option linter.unusedVariables false
open Go.ChangeShapes Go.WideShapes Go.ChangeAt Go.RowKit
set_option maxRecDepth 100000

def TextOf (B K : Nat) (w : World) (e : Ending) (w' : World) : Prop :=
  ∃ s : ByteArray, e = .returned (.string s) ∧ s.size ≤ 400 ∧ PC w' B (K + 200) ∧ Wrote (WS B w.heap.size) w w'
set_option maxHeartbeats 2000000 in
theorem cur_text (B K : Nat) (w : World) (h : PC w B K) (hK : K ≤ 800000000000) :
    Calls Try.prog 51 #[.pointer (some ⟨B, 0, none⟩)] w (TextOf B K w) := by
  have HP1 := Lib.hid (fun (K' : Nat) (n : Int) wx (hx : PC wx B K') (h1 : K' ≤ 900000000000) (h2 : n ≤ 2147483648) => cur_pick B K' n wx hx h1 h2)
  have HO1 := Lib.hid (fun (K' : Nat) (n : Int) wx (hx : PC wx B K') (h1 : K' ≤ 900000000000) (h2 : n ≤ 2147483648) => cur_one B K' n wx hx h1 h2)
  have HPC := Lib.hid h; clear h
  unfold TextOf
  go_enter Try.func51, Try.ntmps51
  go_wp2_with fail
  refine (HP1.out K 16 _ HPC.out (by omega) (by omega)).mono ?_
  rintro e w1 ⟨r1, rfl, hr1, hp, hw⟩
  have HPC1 := Lib.hid hp; have HW1 := Lib.hid hw; clear hp hw
  go_wp2_with fail
  refine (HO1.out _ 20 _ HPC1.out (by omega) (by omega)).mono ?_
  rintro e w2 ⟨b2, rfl, hp, hw⟩
  have HPCS : Hid (PC w2 B (K + 4)) := Lib.hid (hp.mono (by omega)); have HWS : Hid (Wrote (WS B w.heap.size) w w2) := Lib.hid (ws_cur (HW1.out.trans hw)); clear hp hw
  cases b2 with
  | false =>
    have hr9 : r1 ≤ 15 := by omega
    go_wp2_with fail
    go_loopw [3, 4] (fun sv nv wr => ∃ (n : Nat) (s : ByteArray), nv = .int .i64 (n : Int) ∧ sv = .string s ∧ n ≤ 90 ∧ s.size + 4 * n ≤ 360 ∧ Hid (PC wr B (K + 190 - 2 * n)) ∧ Hid (Wrote (WS B w.heap.size) w wr)) (fun _ nv _ => (intOf nv).toNat)
    case atStart => exact ⟨r1, ByteArray.empty, by go_num, rfl, by omega, by simp; try omega, HPCS.out.mono (by omega), HWS⟩
    case round =>
      obtain ⟨n, s, rfl, rfl, hn9, hs, HPR, HWR⟩ := hrel
      by_cases hn0 : 0 < n
      case neg =>
        by_cases hs2 : 200 < s.size
        · go_wp2_with fail
          refine (HO1.out _ 4 _ HPR.out (by omega) (by omega)).mono ?_
          rintro e w6 ⟨b6, rfl, hp, hw⟩
          have HP6 := Lib.hid hp; have HW6 := Lib.hid (HWR.out.trans (ws_cur hw)); clear hp hw
          cases b6 with
          | true =>
            go_wp2_with fail
            go_ret
            exact ⟨s, rfl, by omega, HP6.out.mono (by omega), HW6.out⟩
          | false =>
            go_wp2_with fail
            go_ret
            exact ⟨_, rfl, by simp [ByteArray.size_extract]; omega, HP6.out.mono (by omega), HW6.out⟩
        · go_wp2_with fail
          go_ret
          exact ⟨s, rfl, by omega, HPR.out.mono (by omega), HWR.out⟩
      have HBL := Lib.hid ((Below.refl wr.heap.size wr).alloc (Nat.le_refl _) (.cells ([{ data := #[97] }, { data := #[98] }, { data := #[97, 98] }, { data := #[97, 97] }, { data := #[104, 101, 114, 115] }, { data := #[115, 104, 101] }].map Value.string).toArray 9))
      have HOF := Lib.hid (cur_of B (K + 190 - 2 * n) [{ data := #[97] }, { data := #[98] }, { data := #[97, 98] }, { data := #[97, 97] }, { data := #[104, 101, 114, 115] }, { data := #[115, 104, 101] }] wr.heap.size 0 6 _ (HPR.out.later HBL.out) (by omega) (by decide) (by decide) (by decide) (by decide) (by have := HPR.out.lt; omega) (lit_cells wr _ _))
      have hwz := HWR.out.size
      go_wp2_with fail
      refine HOF.out.mono ?_
      rintro e w5 ⟨x, hx, rfl, hp, hw⟩
      have hx5 : x.size ≤ 4 := by simp only [List.mem_cons, List.not_mem_nil, or_false] at hx; rcases hx with rfl | rfl | rfl | rfl | rfl | rfl <;> decide
      have HP5 := Lib.hid hp
      have HW5 := Lib.hid ((HWR.out.trans (ws_below (HBL.out.mono hwz) hwz)).trans (ws_cur hw)); clear hp hx hw
      go_wp2_with fail
      go_roundw
      case rel => exact ⟨n - 1, s ++ x, by go_num, rfl, by omega, by rw [ByteArray.size_append]; omega, HP5.out.mono (by omega), HW5⟩
      case measure => simp [intOf]; omega
  | true =>
    go_wp2_with fail
    go_loopw [3, 4] (fun sv nv wr => ∃ (n : Nat) (s : ByteArray), nv = .int .i64 (n : Int) ∧ sv = .string s ∧ n ≤ 90 ∧ s.size + 4 * n ≤ 360 ∧ Hid (PC wr B (K + 190 - 2 * n)) ∧ Hid (Wrote (WS B w.heap.size) w wr)) (fun _ nv _ => (intOf nv).toNat)
    case atStart => exact ⟨90, ByteArray.empty, by go_num, rfl, by omega, by simp; try omega, HPCS.out.mono (by omega), HWS⟩
    case round =>
      obtain ⟨n, s, rfl, rfl, hn9, hs, HPR, HWR⟩ := hrel
      by_cases hn0 : 0 < n
      case neg =>
        by_cases hs2 : 200 < s.size
        · go_wp2_with fail
          refine (HO1.out _ 4 _ HPR.out (by omega) (by omega)).mono ?_
          rintro e w6 ⟨b6, rfl, hp, hw⟩
          have HP6 := Lib.hid hp; have HW6 := Lib.hid (HWR.out.trans (ws_cur hw)); clear hp hw
          cases b6 with
          | true =>
            go_wp2_with fail
            go_ret
            exact ⟨s, rfl, by omega, HP6.out.mono (by omega), HW6.out⟩
          | false =>
            go_wp2_with fail
            go_ret
            exact ⟨_, rfl, by simp [ByteArray.size_extract]; omega, HP6.out.mono (by omega), HW6.out⟩
        · go_wp2_with fail
          go_ret
          exact ⟨s, rfl, by omega, HPR.out.mono (by omega), HWR.out⟩
      have HBL := Lib.hid ((Below.refl wr.heap.size wr).alloc (Nat.le_refl _) (.cells ([{ data := #[97] }, { data := #[98] }, { data := #[97, 98] }, { data := #[97, 97] }, { data := #[104, 101, 114, 115] }, { data := #[115, 104, 101] }].map Value.string).toArray 9))
      have HOF := Lib.hid (cur_of B (K + 190 - 2 * n) [{ data := #[97] }, { data := #[98] }, { data := #[97, 98] }, { data := #[97, 97] }, { data := #[104, 101, 114, 115] }, { data := #[115, 104, 101] }] wr.heap.size 0 6 _ (HPR.out.later HBL.out) (by omega) (by decide) (by decide) (by decide) (by decide) (by have := HPR.out.lt; omega) (lit_cells wr _ _))
      have hwz := HWR.out.size
      go_wp2_with fail
      refine HOF.out.mono ?_
      rintro e w5 ⟨x, hx, rfl, hp, hw⟩
      have hx5 : x.size ≤ 4 := by simp only [List.mem_cons, List.not_mem_nil, or_false] at hx; rcases hx with rfl | rfl | rfl | rfl | rfl | rfl <;> decide
      have HP5 := Lib.hid hp
      have HW5 := Lib.hid ((HWR.out.trans (ws_below (HBL.out.mono hwz) hwz)).trans (ws_cur hw)); clear hp hx hw
      go_wp2_with fail
      go_roundw
      case rel => exact ⟨n - 1, s ++ x, by go_num, rfl, by omega, by rw [ByteArray.size_append]; omega, HP5.out.mono (by omega), HW5⟩
      case measure => simp [intOf]; omega
end Go.Proofs.Ytfkcchbbbfeamaa
