/- The contracts of the laws' helpers over Found, by kinds. (Written by genhelp.py.) -/
import Derived.Test.YtfkcchbbbfeamaaHBase
import Derived.Lib.SmallJoins
import Derived.Deep.RegionHeld3
namespace Go.Proofs.Ytfkcchbbbfeamaa
set_option linter.unusedVariables false
open Go.ChangeShapes Go.WideShapes Go.ChangeAt Go.RowKit
set_option maxRecDepth 100000


def kFound : Kind (Int × Int) := kPair kInt kInt
theorem kFound_ok : kFound.Ok := kPair_ok kInt_ok (kInt_ok)


theorem Found_rd {B : Nat} {w : World} {v : List Value} {x : (Int × Int)} (h : kFound.rd B w v x) : v = [Value.int .i64 x.1, Value.int .i64 x.2] ∧ (Lit.int .i64 x.1).wf = true ∧ (Lit.int .i64 x.2).wf = true := by
  obtain ⟨_, _, rfl, ⟨rfl, h0⟩, ⟨rfl, h1⟩⟩ := h
  exact ⟨rfl, h0, h1⟩


set_option maxHeartbeats 1000000 in
theorem eq_Found {cs cs' : List Value} {x : (Int × Int)} {w : World} (h : kFound.rd w.heap.size w cs x) (h' : kFound.rd w.heap.size w cs' x) :
    Calls Try.prog 70 #[.agg cs.toArray, .agg cs'.toArray] w fun e w' => e = .returned (.bool true) ∧ Below w.heap.size w w' := by
  obtain ⟨rfl, _, _⟩ := Found_rd h
  obtain ⟨rfl, _, _⟩ := Found_rd h'
  clear h h'
  have HB0 := Lib.hid (box2_start w (.cells #[Value.int .i64 x.1, Value.int .i64 x.2] 62) (.cells #[Value.int .i64 x.1, Value.int .i64 x.2] 62))
  go_enter Try.func70, Try.ntmps70
  go_wp2_with fail
  go_ret
  exact ⟨rfl, box2_below HB0.out⟩


theorem Found_ow {fp : List Nat} {w : World} {v : List Value} {x : (Int × Int)} (h : kFound.ow fp w v x) : v = [Value.int .i64 x.1, Value.int .i64 x.2] ∧ fp = [] ∧ (Lit.int .i64 x.1).wf = true ∧ (Lit.int .i64 x.2).wf = true := by
  obtain ⟨f0, g0, _, _, hfp0, rfl, ⟨rfl, rfl, h0⟩, ⟨rfl, rfl, h1⟩⟩ := h
  simp only [List.nil_append] at hfp0; subst hfp0
  exact ⟨rfl, rfl, h0, h1⟩


theorem Found_owm {w : World} {x : (Int × Int)} (h0 : (Lit.int .i64 x.1).wf = true) (h1 : (Lit.int .i64 x.2).wf = true) : kFound.ow [] w [Value.int .i64 x.1, Value.int .i64 x.2] x := ⟨[], [], [_], [_], rfl, rfl, ⟨rfl, rfl, h0⟩, ⟨rfl, rfl, h1⟩⟩


end Go.Proofs.Ytfkcchbbbfeamaa
