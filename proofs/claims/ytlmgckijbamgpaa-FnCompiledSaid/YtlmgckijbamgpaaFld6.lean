/- The draws of fields, of their bytes, of a text and a place. -/
import Derived.Test.YtlmgckijbamgpaaFld5
namespace Go.Proofs.Ytlmgckijbamgpaa
set_option linter.unusedVariables false
set_option linter.unusedSimpArgs false
open Go.ChangeShapes Go.WideShapes Go.ChangeAt Go.RowKit
set_option maxRecDepth 100000

theorem RF_size (l : List Fld) : (R_FieldsBytes l).1.size ≤ 400 := by
  unfold R_FieldsBytes
  split
  · rename_i h; exact h.2
  · decide
set_option maxHeartbeats 400000 in
theorem draw_FieldsBytes (w : World) (a : Option Addr) (c : Nat) (cs : List UInt8) (hl : cs.length ≤ c) (hc : c ≤ 9223372036854775807) (hr : Rb w.heap.size w a (u8s cs)) :
    Calls Try.prog 29 #[.slice a cs.length c] w fun e w' => ∃ v l, e = .returned v ∧ w'.ownsRow w.heap.size 57 4 v l.length (fdsV l) ∧ l.length ≤ 41 ∧ (∀ f ∈ l, DB f) ∧ Below w.heap.size w w' := by
  have hb0 : Below w.heap.size w (w.alloc (.cells #[.slice a cs.length c, .int .i64 0, .int .u64 0] 100)) := (Below.refl _ _).alloc (Nat.le_refl _) _
  have hp0 := pc_start w a c cs hl hc hr
  have HZ0 : Hid ((w.alloc (.cells #[.slice a cs.length c, .int .i64 0, .int .u64 0] 100)).heap.size = w.heap.size + 1) := Lib.hid (by simp)
  go_enter Try.func29, Try.ntmps29
  go_wp2_with fail
  generalize w.alloc (.cells #[.slice a cs.length c, .int .i64 0, .int .u64 0] 100) = w0 at *
  have HB0 := Lib.hid hb0; have HP0 := Lib.hid hp0
  clear hb0 hp0 hr
  refine (cur_fields w.heap.size 0 w0 HP0.out (by omega)).mono ?_
  rintro e w1 ⟨v, l, rfl, hl, hd, hs⟩
  have HS := Lib.hid hs; have HD := Lib.hid hd
  have HB1 := Lib.hid (HB0.out.trans (ws_all (ws_wide hs.wr (Nat.le_refl _) HB0.out.size) HB0.out.size)); clear hs hd
  have hz := HB0.out.size
  obtain ⟨qa, qc, rfl⟩ := form_of_own HS.out.own
  go_wp2_with fail
  go_ret
  exact ⟨_, l, rfl, own_mono HS.out.own hz, hl, HD.out, HB1.out⟩
set_option maxHeartbeats 1000000 in
theorem draw_ReadFields (w : World) (a : Option Addr) (c : Nat) (cs : List UInt8) (hl : cs.length ≤ c) (hc : c ≤ 9223372036854775807) (hr : Rb w.heap.size w a (u8s cs)) :
    Calls Try.prog 36 #[.slice a cs.length c] w fun e w' => ∃ s : ByteArray, e = .returned (.string s) ∧ s.size ≤ 402 ∧ Below w.heap.size w w' := by
  have hb0 : Below w.heap.size w (w.alloc (.cells #[.slice a cs.length c, .int .i64 0, .int .u64 0] 100)) := (Below.refl _ _).alloc (Nat.le_refl _) _
  have hp0 := pc_start w a c cs hl hc hr
  have HZ0 : Hid ((w.alloc (.cells #[.slice a cs.length c, .int .i64 0, .int .u64 0] 100)).heap.size = w.heap.size + 1) := Lib.hid (by simp)
  go_enter Try.func36, Try.ntmps36
  go_wp2_with fail
  generalize w.alloc (.cells #[.slice a cs.length c, .int .i64 0, .int .u64 0] 100) = w0 at *
  have HB0 := Lib.hid hb0; have HP0 := Lib.hid hp0
  clear hb0 hp0 hr
  refine (cur_fields w.heap.size 0 w0 HP0.out (by omega)).mono ?_
  rintro e w1 ⟨v, l, rfl, hl, hd, hs⟩
  have HS := Lib.hid hs
  have HB1 := Lib.hid (HB0.out.trans (ws_all (ws_wide hs.wr (Nat.le_refl _) HB0.out.size) HB0.out.size)); clear hs hd
  have HP1 := Lib.hid HS.out.pc
  obtain ⟨qa, qc, rfl⟩ := form_of_own HS.out.own
  have HF := Lib.hid (spec_FieldsBytes qa qc l w1 (own_rw HS.out.own) (by omega))
  have hsz := RF_size l
  go_wp2_with fail
  refine HF.out.mono ?_
  rintro e w2 ⟨rfl, hb⟩
  have HB2 := Lib.hid (HB1.out.trans (hb.mono HB1.out.size))
  have HP2 := Lib.hid (HP1.out.later hb)
  clear hb HF
  generalize (R_FieldsBytes l).1 = s at *
  generalize (R_FieldsBytes l).2 = ok at *
  go_wp2_with fail
  refine (cur_one w.heap.size _ 3 w2 HP2.out (by omega) (by omega)).mono ?_
  rintro e w3 ⟨b, rfl, hp, hw⟩
  have HP3 := Lib.hid hp
  have HB3 := Lib.hid (HB2.out.trans (ws_all (ws_wide (ws_cur (n := w.heap.size) hw) (Nat.le_refl _) (Nat.le_refl _)) HB2.out.size)); clear hw hp
  cases b with
  | false =>
    go_wp2_with fail
    go_ret
    exact ⟨s, rfl, by omega, HB3.out⟩
  | true =>
    go_wp2_with fail
    refine (cur_spoilt w.heap.size _ s { data := #[0, 128, 8, 18, 255] } w3 HP3.out (by omega) (by omega) (by decide) (by decide)).mono ?_
    rintro e w4 ⟨t, rfl, ht, _, hw⟩
    have HB4 := Lib.hid (HB3.out.trans (ws_all (ws_wide hw (Nat.le_refl _) HB3.out.size) HB3.out.size)); clear hw
    go_wp2_with fail
    go_ret
    exact ⟨t, rfl, by omega, HB4.out⟩
set_option maxHeartbeats 1000000 in
theorem draw_TakeVarint (w : World) (a : Option Addr) (c : Nat) (cs : List UInt8) (hl : cs.length ≤ c) (hc : c ≤ 9223372036854775807) (hr : Rb w.heap.size w a (u8s cs)) :
    Calls Try.prog 27 #[.slice a cs.length c] w fun e w' => ∃ (s : ByteArray) (k : Int), e = .returned (.tuple #[.string s, .int .i64 k]) ∧ s.size ≤ 402 ∧ -1 ≤ k ∧ k ≤ 403 ∧ Below w.heap.size w w' := by
  have HRR := Lib.hid hr
  have hb0 : Below w.heap.size w (w.alloc (.cells #[.slice a cs.length c, .int .i64 0, .int .u64 0] 100)) := (Below.refl _ _).alloc (Nat.le_refl _) _
  have hp0 := pc_start w a c cs hl hc hr
  have HZ0 : Hid ((w.alloc (.cells #[.slice a cs.length c, .int .i64 0, .int .u64 0] 100)).heap.size = w.heap.size + 1) := Lib.hid (by simp)
  go_enter Try.func27, Try.ntmps27
  go_wp2_with fail
  generalize w.alloc (.cells #[.slice a cs.length c, .int .i64 0, .int .u64 0] 100) = w0 at *
  have HB0 := Lib.hid hb0; have HP0 := Lib.hid hp0
  clear hb0 hp0 hr
  have hz := HB0.out.size
  have HDR := Lib.hid (draw_ReadFields w0 a c cs hl hc ((HRR.out.below HB0.out).mono hz))
  refine HDR.out.mono ?_
  rintro e w1 ⟨s, rfl, hs, hb⟩
  have HP1 := Lib.hid (HP0.out.later hb)
  have HB1 := Lib.hid (HB0.out.trans (hb.mono hz)); clear hb
  go_wp2_with fail
  refine (cur_pick w.heap.size _ ((s.size : Int) + 2) w1 HP1.out (by omega) (by omega)).mono ?_
  rintro e w2 ⟨r, rfl, hr, hp, hw⟩
  have HB2 := Lib.hid (HB1.out.trans (ws_all (ws_wide (ws_cur (n := w.heap.size) hw) (Nat.le_refl _) (Nat.le_refl _)) HB1.out.size)); clear hw hp
  have hr2 : (r : Int) ≤ 403 := by omega
  clear hr
  go_wp2_with fail
  go_ret2
  exact ⟨s, _, rfl, hs, by omega, by omega, HB2.out⟩
end Go.Proofs.Ytlmgckijbamgpaa
