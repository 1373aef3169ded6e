/- The contracts of the laws' helpers over State, by kinds. (Written by genhelp.py.) -/
import Derived.Test.YtfkcchbbbfeamaaHIntS
import Derived.Lib.SmallJoins
import Derived.Deep.RegionHeld3
namespace Go.Proofs.Ytfkcchbbbfeamaa
set_option linter.unusedVariables false
open Go.ChangeShapes Go.WideShapes Go.ChangeAt Go.RowKit
set_option maxRecDepth 100000


def kState : Kind (Int × UInt8 × Int × (List Int)) := kPair kInt (kPair kByte (kPair kInt kIntS))
theorem kState_ok : kState.Ok := kPair_ok kInt_ok (kPair_ok kByte_ok (kPair_ok kInt_ok (kIntS_ok)))


theorem State_rd {B : Nat} {w : World} {v : List Value} {x : (Int × UInt8 × Int × (List Int))} (h : kState.rd B w v x) : ∃ a3 cap3, v = [Value.int .i64 x.1, Value.int .u8 (x.2.1.toNat : Int), Value.int .i64 x.2.2.1, Value.slice a3 x.2.2.2.length cap3] ∧ (Lit.int .i64 x.1).wf = true ∧ (Lit.int .i64 x.2.2.1).wf = true ∧ kIntS.rd B w [.slice a3 x.2.2.2.length cap3] x.2.2.2 := by
  obtain ⟨_, _, rfl, ⟨rfl, h0⟩, ⟨_, _, rfl, ⟨rfl, h1⟩, ⟨_, _, rfl, ⟨rfl, h2⟩, ⟨a3, cap3, vss3, rfl, h3⟩⟩⟩⟩ := h
  exact ⟨a3, cap3, rfl, h0, h2, ⟨a3, cap3, vss3, rfl, h3⟩⟩


set_option maxHeartbeats 1000000 in
theorem eq_State {cs cs' : List Value} {x : (Int × UInt8 × Int × (List Int))} {w : World} (h : kState.rd w.heap.size w cs x) (h' : kState.rd w.heap.size w cs' x) :
    Calls Try.prog 63 #[.agg cs.toArray, .agg cs'.toArray] w fun e w' => e = .returned (.bool true) ∧ Below w.heap.size w w' := by
  obtain ⟨a3, cap3, rfl, _, _, h3⟩ := State_rd h
  obtain ⟨a3', cap3', rfl, _, _, h3'⟩ := State_rd h'
  clear h h'
  have H3 := Lib.hid (fun (wx : World) (hb : Below w.heap.size w wx) => eq_IntS (kIntS_ok.later h3 hb) (kIntS_ok.later h3' hb)); clear h3 h3'
  have HB0 := Lib.hid (box2_start w (.cells #[Value.int .i64 x.1, Value.int .u8 (x.2.1.toNat : Int), Value.int .i64 x.2.2.1, Value.slice a3 x.2.2.2.length cap3] 64) (.cells #[Value.int .i64 x.1, Value.int .u8 (x.2.1.toNat : Int), Value.int .i64 x.2.2.1, Value.slice a3' x.2.2.2.length cap3'] 64))
  go_enter Try.func63, Try.ntmps63
  go_wp2_with fail
  refine (H3.out _ (box2_below HB0.out)).mono ?_
  rintro e w4 ⟨rfl, hb3⟩
  have HB4 := Lib.hid (box2_step HB0.out hb3); clear hb3
  have hp3_0 := box2_a HB4.out 0; have hq3_0 := box2_b HB4.out 0
  have hp3_1 := box2_a HB4.out 1; have hq3_1 := box2_b HB4.out 1
  have hp3_2 := box2_a HB4.out 2; have hq3_2 := box2_b HB4.out 2
  have hp3_3 := box2_a HB4.out 3; have hq3_3 := box2_b HB4.out 3
  go_wp2_with fail
  go_ret
  exact ⟨rfl, box2_below HB4.out⟩


theorem State_ow {fp : List Nat} {w : World} {v : List Value} {x : (Int × UInt8 × Int × (List Int))} (h : kState.ow fp w v x) : ∃ a3 cap3, v = [Value.int .i64 x.1, Value.int .u8 (x.2.1.toNat : Int), Value.int .i64 x.2.2.1, .slice a3 x.2.2.2.length cap3] ∧ (Lit.int .i64 x.1).wf = true ∧ (Lit.int .i64 x.2.2.1).wf = true ∧ kIntS.ow fp w [.slice a3 x.2.2.2.length cap3] x.2.2.2 := by
  obtain ⟨f0, g0, _, _, hfp0, rfl, ⟨rfl, rfl, h0⟩, ⟨f1, g1, _, _, hfp1, rfl, ⟨rfl, rfl, h1⟩, ⟨f2, g2, _, _, hfp2, rfl, ⟨rfl, rfl, h2⟩, ⟨sv, vss, fps, rfl, ho, hr⟩⟩⟩⟩ := h
  simp only [List.nil_append] at hfp0; subst hfp0
  simp only [List.nil_append] at hfp1; subst hfp1
  simp only [List.nil_append] at hfp2; subst hfp2
  obtain ⟨a, cap, rfl⟩ := form_of_own ho
  exact ⟨a, cap, rfl, h0, h2, ⟨_, vss, fps, rfl, ho, hr⟩⟩


theorem State_owm {fp : List Nat} {w : World} {x : (Int × UInt8 × Int × (List Int))} {a : Option Addr} {m cap : Nat} (h0 : (Lit.int .i64 x.1).wf = true) (h2 : (Lit.int .i64 x.2.2.1).wf = true) (h3 : kIntS.ow fp w [.slice a m cap] x.2.2.2) : kState.ow fp w [Value.int .i64 x.1, Value.int .u8 (x.2.1.toNat : Int), Value.int .i64 x.2.2.1, .slice a m cap] x := ⟨[], fp, [_], [_, _, _], rfl, rfl, ⟨rfl, rfl, h0⟩, ⟨[], fp, [_], [_, _], rfl, rfl, ⟨rfl, rfl, trivial⟩, ⟨[], fp, [_], [_], rfl, rfl, ⟨rfl, rfl, h2⟩, h3⟩⟩⟩


end Go.Proofs.Ytfkcchbbbfeamaa
