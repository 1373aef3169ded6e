/- The draws of numbers: what is drawn is only bounded. -/
import Derived.Test.YtlmgckijbamgpaaVar7
import Derived.Test.YtlmgckijbamgpaaCur5
namespace Go.Proofs.Ytlmgckijbamgpaa
set_option linter.unusedVariables false
set_option linter.unusedSimpArgs false
open Go.ChangeShapes Go.WideShapes Go.ChangeAt Go.RowKit
set_option maxRecDepth 100000

theorem cur_number (B K : Nat) (w : World) (h : PC w B K) (hK : K ≤ 800000000000) :
    Calls Try.prog 71 #[.pointer (some ⟨B, 0, none⟩)] w fun e w' => ∃ n : Int, e = .returned (.int .i64 n) ∧ (-1000000001 ≤ n ∧ n ≤ 1000000001) ∧ PC w' B (K + 4) ∧ Wrote (WS B w.heap.size) w w' := by
  have HP := Lib.hid (fun (K' : Nat) (n : Int) wx (hx : PC wx B K') (h1 : K' ≤ 900000000000) (h2 : n ≤ 2147483648) => cur_pick B K' n wx hx h1 h2)
  have HH := Lib.hid h; clear h
  go_enter Try.func71, Try.ntmps71
  go_wp2_with fail
  refine (HP.out K 6 w HH.out (by omega) (by omega)).mono ?_
  rintro e w1 ⟨r, rfl, hr, hp, hw⟩
  have HP1 := Lib.hid hp
  have HW1 := Lib.hid (ws_cur (n := w.heap.size) hw); clear hp hw
  have hr6 : r ≤ 5 := by omega
  clear hr
  by_cases h0 : r = 0
  · subst h0
    have HBL := Lib.hid ((Below.refl w1.heap.size w1).alloc (Nat.le_refl _) (.cells (([-1000000001, -1000000000, -1, 0, 63, 64, -64, -65, 1000000000, 1000000001] : List Int).map (Value.int .i64)).toArray 3))
    have HAM := Lib.hid (cur_among B _ ([-1000000001, -1000000000, -1, 0, 63, 64, -64, -65, 1000000000, 1000000001] : List Int) w1.heap.size 0 10 _ (HP1.out.later HBL.out) (by omega) (by decide) (by decide) (by decide) (by decide) (by have := HP1.out.lt; omega) (lit_ints w1 _ _))
    simp only [List.map_cons, List.map_nil] at HAM HBL
    go_wp2_with fail
    refine HAM.out.mono ?_
    rintro e w2 ⟨x, hx, rfl, hp, hw⟩
    have hx2 : -1000000001 ≤ x ∧ x ≤ 1000000001 := by simp only [List.mem_cons, List.not_mem_nil, or_false] at hx; omega
    have HP2 := Lib.hid hp
    have HW2 := Lib.hid ((HW1.out.trans (ws_below (HBL.out.mono HW1.out.size) HW1.out.size)).trans (ws_cur (n := w.heap.size) hw)); clear hp hw hx
    go_wp2_with fail
    go_ret
    exact ⟨x, rfl, hx2, HP2.out.mono (by omega), HW2.out⟩
  · have hb0 : ((r : Int) == 0) = false := beq_eq_false_iff_ne.2 (by omega)
    cases hb1 : ((r : Int) == 1) with
    | true =>
      go_wp2_with fail
      refine (HP.out _ 100000 w1 HP1.out (by omega) (by omega)).mono ?_
      rintro e w2 ⟨q, rfl, hq, hp, hw⟩
      have HP2 := Lib.hid hp
      have HW2 := Lib.hid (HW1.out.trans (ws_cur (n := w.heap.size) hw)); clear hp hw
      have hq2 : q ≤ 99999 := by omega
      go_wp2_with fail
      go_ret
      exact ⟨_, rfl, by omega, HP2.out.mono (by omega), HW2.out⟩
    | false =>
      go_wp2_with fail
      refine (HP.out _ 20 w1 HP1.out (by omega) (by omega)).mono ?_
      rintro e w2 ⟨q, rfl, hq, hp, hw⟩
      have HP2 := Lib.hid hp
      have HW2 := Lib.hid (HW1.out.trans (ws_cur (n := w.heap.size) hw)); clear hp hw
      have hq2 : q ≤ 19 := by omega
      go_wp2_with fail
      go_ret
      exact ⟨_, rfl, by omega, HP2.out.mono (by omega), HW2.out⟩
theorem cur_small (B K : Nat) (w : World) (h : PC w B K) (hK : K ≤ 800000000000) :
    Calls Try.prog 121 #[.pointer (some ⟨B, 0, none⟩)] w fun e w' => ∃ n : Int, e = .returned (.int .i64 n) ∧ (-1000000000 ≤ n ∧ n ≤ 1000000000) ∧ PC w' B (K + 4) ∧ Wrote (WS B w.heap.size) w w' := by
  have HN := Lib.hid (cur_number B K w h hK); clear h
  go_enter Try.func121, Try.ntmps121
  go_wp2_with fail
  refine HN.out.mono ?_
  rintro e w1 ⟨n, rfl, hn, hp, hw⟩
  have HP1 := Lib.hid hp
  have HW1 := Lib.hid hw; clear hp hw
  have HS := Lib.hid (spec_number n w1)
  cases g : inR n (-1000000000) 1000000000 with
  | false =>
    rw [g] at HS
    go_wp2_with fail
    refine HS.out.mono ?_
    rintro e w' ⟨rfl, rfl⟩
    go_wp2_with fail
    go_ret
    exact ⟨7, rfl, by omega, HP1.out, HW1.out⟩
  | true =>
    rw [g] at HS
    have hr := inR_iff.1 g
    go_wp2_with fail
    refine HS.out.mono ?_
    rintro e w' ⟨rfl, rfl⟩
    go_wp2_with fail
    go_ret
    exact ⟨n, rfl, hr, HP1.out, HW1.out⟩
theorem draw_VarintOf (w : World) (a : Option Addr) (c : Nat) (cs : List UInt8) (hl : cs.length ≤ c) (hc : c ≤ 9223372036854775807) (hr : Rb w.heap.size w a (u8s cs)) :
    Calls Try.prog 17 #[.slice a cs.length c] w fun e w' => ∃ n : Int, e = .returned (.int .i64 n) ∧ -1 ≤ n ∧ n ≤ 2000000100 ∧ Below w.heap.size w w' := by
  have hb0 : Below w.heap.size w (w.alloc (.cells #[.slice a cs.length c, .int .i64 0, .int .u64 0] 100)) := (Below.refl _ _).alloc (Nat.le_refl _) _
  have hp0 := pc_start w a c cs hl hc hr
  have HZ0 : Hid ((w.alloc (.cells #[.slice a cs.length c, .int .i64 0, .int .u64 0] 100)).heap.size = w.heap.size + 1) := Lib.hid (by simp)
  go_enter Try.func17, Try.ntmps17
  go_wp2_with fail
  generalize w.alloc (.cells #[.slice a cs.length c, .int .i64 0, .int .u64 0] 100) = w0 at *
  have HB0 := Lib.hid hb0; have HP0 := Lib.hid hp0
  clear hb0 hp0 hr
  have HBL := Lib.hid ((Below.refl w0.heap.size w0).alloc (Nat.le_refl _) (.cells (([-1, 0, 127, 128, 16383, 16384, 2000000001, 2000000002] : List Int).map (Value.int .i64)).toArray 3))
  have HAM := Lib.hid (cur_among w.heap.size 0 ([-1, 0, 127, 128, 16383, 16384, 2000000001, 2000000002] : List Int) w0.heap.size 0 8 _ (HP0.out.later HBL.out) (by omega) (by decide) (by decide) (by decide) (by decide) (by have := HZ0.out; omega) (lit_ints w0 _ _))
  simp only [List.map_cons, List.map_nil] at HAM HBL
  rw [HZ0.out] at HAM
  refine HAM.out.mono ?_
  rintro e w1 ⟨x, hx, rfl, hp, hw⟩
  have hx2 : -1 ≤ x ∧ x ≤ 2000000002 := by simp only [List.mem_cons, List.not_mem_nil, or_false] at hx; omega
  have HW1 : Hid (Below w.heap.size w w1) := Lib.hid ((HB0.out.trans (HBL.out.mono HB0.out.size)).trans (ws_all (ws_wide (ws_cur (n := w.heap.size) hw) (Nat.le_refl _) (Nat.le_refl _)) (Nat.le_trans HB0.out.size HBL.out.size)))
  have HP1 := Lib.hid hp; clear hp hw hx
  go_wp2_with fail
  refine (cur_pick w.heap.size _ 2 w1 HP1.out (by omega) (by omega)).mono ?_
  rintro e w2 ⟨r, rfl, hr, hp, hw⟩
  have HP2 := Lib.hid hp
  have HB2 := Lib.hid (HW1.out.trans (ws_all (ws_wide (ws_cur (n := w.heap.size) hw) (Nat.le_refl _) (Nat.le_refl _)) HW1.out.size)); clear hw hp
  have hr2 : r ≤ 1 := by omega
  go_wp2_with fail
  refine (cur_pick w.heap.size _ 50 w2 HP2.out (by omega) (by omega)).mono ?_
  rintro e w3 ⟨q, rfl, hq, hp, hw⟩
  have HB3 := Lib.hid (HB2.out.trans (ws_all (ws_wide (ws_cur (n := w.heap.size) hw) (Nat.le_refl _) (Nat.le_refl _)) HB2.out.size)); clear hw hp
  have hq2 : q ≤ 49 := by omega
  have hrq : 0 ≤ (r : Int) * (q : Int) ∧ (r : Int) * (q : Int) ≤ 49 := by
    rcases (show r = 0 ∨ r = 1 by omega) with rfl | rfl
    · simp
    · simp; omega
  clear hr hq
  go_wp2_with fail
  go_ret
  exact ⟨_, rfl, by omega, by omega, HB3.out⟩
theorem draw_UnfoldNumber (w : World) (a : Option Addr) (c : Nat) (cs : List UInt8) (hl : cs.length ≤ c) (hc : c ≤ 9223372036854775807) (hr : Rb w.heap.size w a (u8s cs)) :
    Calls Try.prog 25 #[.slice a cs.length c] w fun e w' => ∃ n : Int, e = .returned (.int .i64 n) ∧ -1 ≤ n ∧ n ≤ 2000000100 ∧ Below w.heap.size w w' := by
  have H := Lib.hid (draw_VarintOf w a c cs hl hc hr); clear hr
  go_enter Try.func25, Try.ntmps25
  go_wp2_with fail
  refine H.out.mono ?_
  rintro e w1 ⟨n, rfl, h1, h2, hb⟩
  have HB := Lib.hid hb; clear hb
  go_wp2_with fail
  go_ret
  exact ⟨n, rfl, h1, h2, HB.out⟩
theorem draw_FoldNumber (w : World) (a : Option Addr) (c : Nat) (cs : List UInt8) (hl : cs.length ≤ c) (hc : c ≤ 9223372036854775807) (hr : Rb w.heap.size w a (u8s cs)) :
    Calls Try.prog 21 #[.slice a cs.length c] w fun e w' => ∃ n : Int, e = .returned (.int .i64 n) ∧ (-1000000001 ≤ n ∧ n ≤ 1000000001) ∧ Below w.heap.size w w' := by
  have hb0 : Below w.heap.size w (w.alloc (.cells #[.slice a cs.length c, .int .i64 0, .int .u64 0] 100)) := (Below.refl _ _).alloc (Nat.le_refl _) _
  have hp0 := pc_start w a c cs hl hc hr
  have HZ0 : Hid ((w.alloc (.cells #[.slice a cs.length c, .int .i64 0, .int .u64 0] 100)).heap.size = w.heap.size + 1) := Lib.hid (by simp)
  go_enter Try.func21, Try.ntmps21
  go_wp2_with fail
  generalize w.alloc (.cells #[.slice a cs.length c, .int .i64 0, .int .u64 0] 100) = w0 at *
  have HB0 := Lib.hid hb0; have HP0 := Lib.hid hp0
  clear hb0 hp0 hr
  refine (cur_number w.heap.size 0 w0 HP0.out (by omega)).mono ?_
  rintro e w1 ⟨n, rfl, hn, _, hw⟩
  have HB1 := Lib.hid (HB0.out.trans (ws_all (ws_wide hw (Nat.le_refl _) HB0.out.size) HB0.out.size)); clear hw
  go_wp2_with fail
  go_ret
  exact ⟨n, rfl, hn, HB1.out⟩
end Go.Proofs.Ytlmgckijbamgpaa
