/- The contracts of the draws for logs and their proofs: what is handed out is only bounded. -/
import Derived.Test.YtdhkagabkhepgaaCur4
namespace Go.Proofs.Ytdhkagabkhepgaa
set_option linter.unusedVariables false
open Go.ChangeShapes Go.WideShapes Go.ChangeAt Go.RowKit
set_option maxRecDepth 100000

theorem pc_start (w : World) (a : Option Addr) (c : Nat) (cs : List UInt8) (hl : cs.length ≤ c) (hc : c ≤ 9223372036854775807) (hr : Rb w.heap.size w a (u8s cs)) :
    PC (w.alloc (.cells #[.slice a cs.length c, .int .i64 0, .int .u64 0] 84)) w.heap.size 0 :=
  ⟨a, c, 0, 0, cs, heap_alloc_new w _, Nat.le_refl _, hl, hc, by decide, by decide, hr.below ((Below.refl _ _).alloc (Nat.le_refl _) _)⟩
theorem ws_all {n : Nat} {a b : World} (h : Wrote (WS n n) a b) (hn : n ≤ a.heap.size) : Below n a b := ⟨h.os, h.tape, h.output, h.size, fun k hk => h.block k (by omega) (by rintro (hc | hc) <;> omega)⟩
theorem ws_wide {B n m : Nat} {a b : World} (h : Wrote (WS B m) a b) (hB : n ≤ B) (hm : n ≤ m) : Wrote (WS n n) a b := h.mono fun k _ hk => by rcases hk with hk | hk <;> exact .inr (by omega)
theorem lit_ints (w : World) (l : List Int) (T : TypeId) (i : Nat) (x : Int) (h : l[i]? = some x) : (w.alloc (.cells (l.map (Value.int .i64)).toArray T)).cell? ⟨w.heap.size, 0 + i, none⟩ = some (.int .i64 x) := by
  rw [Nat.zero_add, World.cell?_alloc_new]; simp [h]
set_option maxHeartbeats 400000 in
theorem draw_leaf (w : World) (a : Option Addr) (c : Nat) (cs : List UInt8) (hl : cs.length ≤ c) (hc : c ≤ 9223372036854775807) (hr : Rb w.heap.size w a (u8s cs)) :
    Calls Try.prog 42 #[.slice a cs.length c] w fun e w' => ∃ s : ByteArray, e = .returned (.string s) ∧ s.size ≤ 400 ∧ Below w.heap.size w w' := by
  have hb0 : Below w.heap.size w (w.alloc (.cells #[.slice a cs.length c, .int .i64 0, .int .u64 0] 84)) := (Below.refl _ _).alloc (Nat.le_refl _) _
  have hp0 := pc_start w a c cs hl hc hr
  have HZ0 : Hid ((w.alloc (.cells #[.slice a cs.length c, .int .i64 0, .int .u64 0] 84)).heap.size = w.heap.size + 1) := Lib.hid (by simp)
  go_enter Try.func42, Try.ntmps42
  go_wp2_with fail
  generalize w.alloc (.cells #[.slice a cs.length c, .int .i64 0, .int .u64 0] 84) = w0 at *
  have HB0 := Lib.hid hb0; have HP0 := Lib.hid hp0
  clear hb0 hp0 hr
  refine (cur_text w.heap.size 0 w0 HP0.out (by omega)).mono ?_
  rintro e w1 ⟨s, rfl, hs, _, hw⟩
  have HB1 := Lib.hid (HB0.out.trans (ws_all (ws_wide hw (Nat.le_refl _) HB0.out.size) HB0.out.size)); clear hw
  go_wp2_with fail
  go_ret
  exact ⟨s, rfl, hs, HB1.out⟩
set_option maxHeartbeats 400000 in
theorem draw_split (w : World) (a : Option Addr) (c : Nat) (cs : List UInt8) (hl : cs.length ≤ c) (hc : c ≤ 9223372036854775807) (hr : Rb w.heap.size w a (u8s cs)) :
    Calls Try.prog 46 #[.slice a cs.length c] w fun e w' => ∃ r : Nat, e = .returned (.int .i64 (r : Int)) ∧ r ≤ 42 ∧ Below w.heap.size w w' := by
  have hb0 : Below w.heap.size w (w.alloc (.cells #[.slice a cs.length c, .int .i64 0, .int .u64 0] 84)) := (Below.refl _ _).alloc (Nat.le_refl _) _
  have hp0 := pc_start w a c cs hl hc hr
  have HZ0 : Hid ((w.alloc (.cells #[.slice a cs.length c, .int .i64 0, .int .u64 0] 84)).heap.size = w.heap.size + 1) := Lib.hid (by simp)
  go_enter Try.func46, Try.ntmps46
  go_wp2_with fail
  generalize w.alloc (.cells #[.slice a cs.length c, .int .i64 0, .int .u64 0] 84) = w0 at *
  have HB0 := Lib.hid hb0; have HP0 := Lib.hid hp0
  clear hb0 hp0 hr
  refine (cur_pick w.heap.size 0 43 w0 HP0.out (by omega) (by omega)).mono ?_
  rintro e w1 ⟨r, rfl, hr, _, hw⟩
  have HB1 := Lib.hid (HB0.out.trans (ws_all (ws_wide (ws_cur (n := w.heap.size) hw) (Nat.le_refl _) (Nat.le_refl _)) HB0.out.size)); clear hw
  have hr2 : r ≤ 42 := by omega
  go_wp2_with fail
  go_ret
  exact ⟨r, rfl, hr2, HB1.out⟩
set_option maxHeartbeats 2000000 in
theorem draw_node (w : World) (a : Option Addr) (c : Nat) (cs : List UInt8) (hl : cs.length ≤ c) (hc : c ≤ 9223372036854775807) (hr : Rb w.heap.size w a (u8s cs)) :
    Calls Try.prog 41 #[.slice a cs.length c] w fun e w' => ∃ x y : Int, e = .returned (.tuple #[.int .i64 x, .int .i64 y]) ∧ -1 ≤ x ∧ x ≤ 1000003 ∧ 0 ≤ y ∧ y ≤ 900000 ∧ Below w.heap.size w w' := by
  have hb0 : Below w.heap.size w (w.alloc (.cells #[.slice a cs.length c, .int .i64 0, .int .u64 0] 84)) := (Below.refl _ _).alloc (Nat.le_refl _) _
  have hp0 := pc_start w a c cs hl hc hr
  have HZ0 : Hid ((w.alloc (.cells #[.slice a cs.length c, .int .i64 0, .int .u64 0] 84)).heap.size = w.heap.size + 1) := Lib.hid (by simp)
  go_enter Try.func41, Try.ntmps41
  go_wp2_with fail
  generalize w.alloc (.cells #[.slice a cs.length c, .int .i64 0, .int .u64 0] 84) = w0 at *
  have HB0 := Lib.hid hb0; have HP0 := Lib.hid hp0
  clear hb0 hp0 hr
  have HBL := Lib.hid ((Below.refl w0.heap.size w0).alloc (Nat.le_refl _) (.cells (([-1, 0, 5, 1000002, 1000003] : List Int).map (Value.int .i64)).toArray 3))
  have HAM := Lib.hid (cur_among w.heap.size 0 ([-1, 0, 5, 1000002, 1000003] : List Int) w0.heap.size 0 5 _ (HP0.out.later HBL.out) (by omega) (by decide) (by decide) (by decide) (by decide) (by have := HZ0.out; omega) (lit_ints w0 _ _))
  simp only [List.map_cons, List.map_nil] at HAM HBL
  rw [HZ0.out] at HAM
  refine HAM.out.mono ?_
  rintro e w1 ⟨x, hx, rfl, hp, hw⟩
  have hx2 : -1 ≤ x ∧ x ≤ 1000003 := by simp only [List.mem_cons, List.not_mem_nil, or_false] at hx; omega
  have HW1 : Hid (Below w.heap.size w w1) := Lib.hid ((HB0.out.trans (HBL.out.mono HB0.out.size)).trans (ws_all (ws_wide (ws_cur (n := w.heap.size) hw) (Nat.le_refl _) (Nat.le_refl _)) (Nat.le_trans HB0.out.size HBL.out.size)))
  have HP1 := Lib.hid hp; clear hp hw hx
  go_wp2_with fail
  refine (cur_pick w.heap.size _ 900000 w1 HP1.out (by omega) (by omega)).mono ?_
  rintro e w2 ⟨r, rfl, hr, _, hw⟩
  have HB2 := Lib.hid (HW1.out.trans (ws_all (ws_wide (ws_cur (n := w.heap.size) hw) (Nat.le_refl _) (Nat.le_refl _)) HW1.out.size)); clear hw
  have hr2 : (r : Int) ≤ 900000 := by omega
  go_wp2_with fail
  go_ret2
  exact ⟨x, r, rfl, hx2.1, hx2.2, by omega, hr2, HB2.out⟩
/-- a log, and a number -/
def LogN (lo : Int) (w : World) (e : Ending) (w' : World) : Prop :=
  ∃ v ss k, e = .returned (.tuple #[v, .int .i64 k]) ∧ w'.ownsRow w.heap.size 9 1 v ss.length (strs ss) ∧ ss.length ≤ 41 ∧ (∀ s ∈ ss, s.size ≤ 26) ∧ lo ≤ k ∧ k ≤ 50 ∧ Below w.heap.size w w'
set_option maxHeartbeats 400000 in
theorem draw_proveIn (w : World) (a : Option Addr) (c : Nat) (cs : List UInt8) (hl : cs.length ≤ c) (hc : c ≤ 9223372036854775807) (hr : Rb w.heap.size w a (u8s cs)) :
    Calls Try.prog 38 #[.slice a cs.length c] w (LogN (-1) w) := by
  unfold LogN
  have hb0 : Below w.heap.size w (w.alloc (.cells #[.slice a cs.length c, .int .i64 0, .int .u64 0] 84)) := (Below.refl _ _).alloc (Nat.le_refl _) _
  have hp0 := pc_start w a c cs hl hc hr
  have HZ0 : Hid ((w.alloc (.cells #[.slice a cs.length c, .int .i64 0, .int .u64 0] 84)).heap.size = w.heap.size + 1) := Lib.hid (by simp)
  go_enter Try.func38, Try.ntmps38
  go_wp2_with fail
  generalize w.alloc (.cells #[.slice a cs.length c, .int .i64 0, .int .u64 0] 84) = w0 at *
  have HB0 := Lib.hid hb0; have HP0 := Lib.hid hp0
  clear hb0 hp0 hr
  refine (cur_log w.heap.size 0 w0 HP0.out (by omega)).mono ?_
  rintro e w1 ⟨v, ss, rfl, ho, hs1, hs2, hp, hw⟩
  have HB1 := Lib.hid (HB0.out.trans (ws_all (ws_wide hw (Nat.le_refl _) HB0.out.size) HB0.out.size))
  have HO1 := Lib.hid (own_mono ho HB0.out.size); have HP1 := Lib.hid hp; have HS2 := Lib.hid hs2
  have hvb : ∀ k, v.ownBlock = some k → ¬ k = w.heap.size := fun k hk => by have := (ho.lt k hk).1; have := HZ0.out; omega
  clear hw ho hp hs2
  obtain ⟨qa, qc, rfl⟩ := form_of_own HO1.out
  go_wp2_with fail
  refine (cur_pick w.heap.size _ ((ss.length : Int) + 2) w1 HP1.out (by omega) (by omega)).mono ?_
  rintro e w2 ⟨r, rfl, hr, _, hw⟩
  have HO2 := Lib.hid (hw.own HO1.out hvb)
  have HB2 := Lib.hid (HB1.out.trans (ws_all (ws_wide (ws_cur (n := w.heap.size) hw) (Nat.le_refl _) (Nat.le_refl _)) HB1.out.size)); clear hw hvb
  have hr2 : (r : Int) ≤ 43 := by omega
  go_wp2_with fail
  go_ret2
  exact ⟨_, ss, _, rfl, HO2.out, hs1, HS2.out, by omega, by omega, HB2.out⟩

set_option maxHeartbeats 400000 in
theorem draw_proveGrew (w : World) (a : Option Addr) (c : Nat) (cs : List UInt8) (hl : cs.length ≤ c) (hc : c ≤ 9223372036854775807) (hr : Rb w.heap.size w a (u8s cs)) :
    Calls Try.prog 43 #[.slice a cs.length c] w (LogN (0) w) := by
  unfold LogN
  have hb0 : Below w.heap.size w (w.alloc (.cells #[.slice a cs.length c, .int .i64 0, .int .u64 0] 84)) := (Below.refl _ _).alloc (Nat.le_refl _) _
  have hp0 := pc_start w a c cs hl hc hr
  have HZ0 : Hid ((w.alloc (.cells #[.slice a cs.length c, .int .i64 0, .int .u64 0] 84)).heap.size = w.heap.size + 1) := Lib.hid (by simp)
  go_enter Try.func43, Try.ntmps43
  go_wp2_with fail
  generalize w.alloc (.cells #[.slice a cs.length c, .int .i64 0, .int .u64 0] 84) = w0 at *
  have HB0 := Lib.hid hb0; have HP0 := Lib.hid hp0
  clear hb0 hp0 hr
  refine (cur_log w.heap.size 0 w0 HP0.out (by omega)).mono ?_
  rintro e w1 ⟨v, ss, rfl, ho, hs1, hs2, hp, hw⟩
  have HB1 := Lib.hid (HB0.out.trans (ws_all (ws_wide hw (Nat.le_refl _) HB0.out.size) HB0.out.size))
  have HO1 := Lib.hid (own_mono ho HB0.out.size); have HP1 := Lib.hid hp; have HS2 := Lib.hid hs2
  have hvb : ∀ k, v.ownBlock = some k → ¬ k = w.heap.size := fun k hk => by have := (ho.lt k hk).1; have := HZ0.out; omega
  clear hw ho hp hs2
  obtain ⟨qa, qc, rfl⟩ := form_of_own HO1.out
  go_wp2_with fail
  refine (cur_pick w.heap.size _ ((ss.length : Int) + 2) w1 HP1.out (by omega) (by omega)).mono ?_
  rintro e w2 ⟨r, rfl, hr, _, hw⟩
  have HO2 := Lib.hid (hw.own HO1.out hvb)
  have HB2 := Lib.hid (HB1.out.trans (ws_all (ws_wide (ws_cur (n := w.heap.size) hw) (Nat.le_refl _) (Nat.le_refl _)) HB1.out.size)); clear hw hvb
  have hr2 : (r : Int) ≤ 43 := by omega
  go_wp2_with fail
  go_ret2
  exact ⟨_, ss, _, rfl, HO2.out, hs1, HS2.out, by omega, by omega, HB2.out⟩

end Go.Proofs.Ytdhkagabkhepgaa
