/- The contracts of the draws of texts and words: what is drawn is only bounded. -/
import Derived.Test.YtfkcchbbbfeamaaCur5
namespace Go.Proofs.Ytfkcchbbbfeamaa
set_option linter.unusedVariables false
open Go.ChangeShapes Go.WideShapes Go.ChangeAt Go.RowKit
set_option maxRecDepth 100000

set_option maxHeartbeats 400000 in
theorem cur_word (B K : Nat) (w : World) (h : PC w B K) (hK : K ≤ 800000000000) :
    Calls Try.prog 52 #[.pointer (some ⟨B, 0, none⟩)] w fun e w' => ∃ s : ByteArray, e = .returned (.string s) ∧ s.size ≤ 4 ∧ PC w' B (K + 2) ∧ Wrote (WS B w.heap.size) w w' := by
  have HBL := Lib.hid ((Below.refl w.heap.size w).alloc (Nat.le_refl _) (.cells ([{ data := #[97] }, { data := #[97, 98] }, { data := #[97, 98, 97] }, { data := #[104, 101] }, { data := #[115, 104, 101] }, { data := #[104, 101, 114, 115] }, { data := #[104, 105, 115] }, { data := #[97, 97, 97] }, { data := #[98] }].map Value.string).toArray 9))
  have HOF := Lib.hid (cur_of B K [{ data := #[97] }, { data := #[97, 98] }, { data := #[97, 98, 97] }, { data := #[104, 101] }, { data := #[115, 104, 101] }, { data := #[104, 101, 114, 115] }, { data := #[104, 105, 115] }, { data := #[97, 97, 97] }, { data := #[98] }] w.heap.size 0 9 _ (h.later HBL.out) (by omega) (by decide) (by decide) (by decide) (by decide) (by have := h.lt; omega) (lit_cells w _ _))
  clear h
  go_enter Try.func52, Try.ntmps52
  go_wp2_with fail
  refine HOF.out.mono ?_
  rintro e w5 ⟨x, hx, rfl, hp, hw⟩
  have hx5 : x.size ≤ 4 := by simp only [List.mem_cons, List.not_mem_nil, or_false] at hx; rcases hx with rfl | rfl | rfl | rfl | rfl | rfl | rfl | rfl | rfl <;> decide
  have HP5 := Lib.hid hp
  have HW5 := Lib.hid ((ws_below HBL.out (Nat.le_refl _)).trans (ws_cur (B := B) (n := w.heap.size) hw)); clear hp hx hw
  go_wp2_with fail
  go_ret
  exact ⟨x, rfl, hx5, HP5.out, HW5.out⟩

set_option maxHeartbeats 400000 in
theorem draw_borders (w : World) (a : Option Addr) (c : Nat) (cs : List UInt8) (hl : cs.length ≤ c) (hc : c ≤ 9223372036854775807) (hr : Rb w.heap.size w a (u8s cs)) :
    Calls Try.prog 24 #[.slice a cs.length c] w fun e w' => ∃ s : ByteArray, e = .returned (.string s) ∧ s.size ≤ 400 ∧ Below w.heap.size w w' := by
  have hb0 : Below w.heap.size w (w.alloc (.cells #[.slice a cs.length c, .int .i64 0, .int .u64 0] 75)) := (Below.refl _ _).alloc (Nat.le_refl _) _
  have hp0 := pc_start w a c cs hl hc hr
  have HZ0 : Hid ((w.alloc (.cells #[.slice a cs.length c, .int .i64 0, .int .u64 0] 75)).heap.size = w.heap.size + 1) := Lib.hid (by simp)
  go_enter Try.func24, Try.ntmps24
  go_wp2_with fail
  generalize w.alloc (.cells #[.slice a cs.length c, .int .i64 0, .int .u64 0] 75) = w0 at *
  have HB0 := Lib.hid hb0; have HP0 := Lib.hid hp0
  clear hb0 hp0 hr
  refine (cur_text w.heap.size 0 w0 HP0.out (by omega)).mono ?_
  rintro e w1 ⟨s, rfl, hs, _, hw⟩
  have HB1 := Lib.hid (HB0.out.trans (ws_all (ws_wide hw (Nat.le_refl _) HB0.out.size) HB0.out.size)); clear hw
  go_wp2_with fail
  go_ret
  exact ⟨s, rfl, hs, HB1.out⟩

set_option maxHeartbeats 1000000 in
theorem draw_findAll (w : World) (a : Option Addr) (c : Nat) (cs : List UInt8) (hl : cs.length ≤ c) (hc : c ≤ 9223372036854775807) (hr : Rb w.heap.size w a (u8s cs)) :
    Calls Try.prog 21 #[.slice a cs.length c] w fun e w' => ∃ s p : ByteArray, e = .returned (.tuple #[.string s, .string p]) ∧ s.size ≤ 400 ∧ p.size ≤ 4 ∧ Below w.heap.size w w' := by
  have hb0 : Below w.heap.size w (w.alloc (.cells #[.slice a cs.length c, .int .i64 0, .int .u64 0] 75)) := (Below.refl _ _).alloc (Nat.le_refl _) _
  have hp0 := pc_start w a c cs hl hc hr
  have HZ0 : Hid ((w.alloc (.cells #[.slice a cs.length c, .int .i64 0, .int .u64 0] 75)).heap.size = w.heap.size + 1) := Lib.hid (by simp)
  go_enter Try.func21, Try.ntmps21
  go_wp2_with fail
  generalize w.alloc (.cells #[.slice a cs.length c, .int .i64 0, .int .u64 0] 75) = w0 at *
  have HB0 := Lib.hid hb0; have HP0 := Lib.hid hp0
  clear hb0 hp0 hr
  refine (cur_text w.heap.size 0 w0 HP0.out (by omega)).mono ?_
  rintro e w1 ⟨s, rfl, hs, hp, hw⟩
  have HB1 := Lib.hid (HB0.out.trans (ws_all (ws_wide hw (Nat.le_refl _) HB0.out.size) HB0.out.size)); have HP1 := Lib.hid hp; clear hw hp
  go_wp2_with fail
  refine (cur_word w.heap.size _ w1 HP1.out (by omega)).mono ?_
  rintro e w2 ⟨p, rfl, hps, hp, hw⟩
  have HB2 := Lib.hid (HB1.out.trans (ws_all (ws_wide hw (Nat.le_refl _) HB1.out.size) HB1.out.size)); have HP2 := Lib.hid hp; clear hw hp
  go_wp2_with fail
  refine (cur_one w.heap.size _ 12 w2 HP2.out (by omega) (by omega)).mono ?_
  rintro e w3 ⟨b, rfl, hp, hw⟩
  have HB3 := Lib.hid (HB2.out.trans (ws_all (ws_wide (ws_cur (n := w.heap.size) hw) (Nat.le_refl _) (Nat.le_refl _)) HB2.out.size)); have HP3 := Lib.hid hp; clear hw hp
  cases b with
  | false =>
    go_wp2_with fail
    go_ret2
    exact ⟨s, p, rfl, hs, hps, HB3.out⟩
  | true =>
    have HBL := Lib.hid ((Below.refl w3.heap.size w3).alloc (Nat.le_refl _) (.cells ([ByteArray.empty, { data := #[97, 98, 97, 98] }, { data := #[97, 97, 97, 97] }].map Value.string).toArray 9))
    have HOF := Lib.hid (cur_of w.heap.size _ [ByteArray.empty, { data := #[97, 98, 97, 98] }, { data := #[97, 97, 97, 97] }] w3.heap.size 0 3 _ (HP3.out.later HBL.out) (by omega) (by decide) (by decide) (by decide) (by decide) (by have := HP3.out.lt; omega) (lit_cells w3 _ _))
    go_wp2_with fail
    refine HOF.out.mono ?_
    rintro e w5 ⟨x, hx, rfl, hp, hw⟩
    have hx5 : x.size ≤ 4 := by simp only [List.mem_cons, List.not_mem_nil, or_false] at hx; rcases hx with rfl | rfl | rfl <;> decide
    have HB5 := Lib.hid ((HB3.out.trans (HBL.out.mono HB3.out.size)).trans (ws_all (ws_wide (ws_cur (n := w.heap.size) hw) (Nat.le_refl _) (Nat.le_refl _)) (Nat.le_trans HB3.out.size HBL.out.size))); clear hp hx hw
    go_wp2_with fail
    go_ret2
    exact ⟨s, x, rfl, hs, hx5, HB5.out⟩
end Go.Proofs.Ytfkcchbbbfeamaa
