/- The contracts of the laws' helpers over Side, by kinds. (Written by genhelp.py.) -/
import Derived.Test.YthlajmncpejhmaaHBase
import Derived.Lib.SmallJoins
import Derived.Deep.RegionHeld3
namespace Go.Proofs.Ythlajmncpejhmaa
set_option linter.unusedVariables false
open Go.ChangeShapes Go.WideShapes Go.ChangeAt Go.RowKit
set_option maxRecDepth 100000


def kSide : Kind (Int × Int) := kPair kInt kInt
theorem kSide_ok : kSide.Ok := kPair_ok kInt_ok (kInt_ok)


theorem Side_rd {B : Nat} {w : World} {v : List Value} {x : (Int × Int)} (h : kSide.rd B w v x) : v = [Value.int .i64 x.1, Value.int .i64 x.2] ∧ (Lit.int .i64 x.1).wf = true ∧ (Lit.int .i64 x.2).wf = true := by
  obtain ⟨_, _, rfl, ⟨rfl, h0⟩, ⟨rfl, h1⟩⟩ := h
  exact ⟨rfl, h0, h1⟩


theorem reads_Side : Reads Try.prog 85 2 kSide.rd := readsK_struct Try.underlying85 (by kernel_rfl) (readsF_cons (off := 0) (m := 1) (K := kInt) (L := kInt) rfl (readsK_int Try.underlying3 (by kernel_rfl)) (readsF_one rfl (readsK_int Try.underlying3 (by kernel_rfl))))


theorem arg_Side {H : Type} {enc : TypeId × Value → H} {W : World} {r : Reach} {b0 : Nat} {v : Value} {d : DataW H} {ps : List MemPlace} (hval : Value.okWide Try.prog W r b0 85 v) (h : DataW.Trod enc Try.prog W 0 (fun _ => true) true 85 v d ps) : ∃ x, IsK kSide (fun cs => .agg cs.toArray) W v x := argAggK Try.underlying85 reads_Side hval h


set_option maxHeartbeats 1000000 in
theorem eq_Side {cs cs' : List Value} {x : (Int × Int)} {w : World} (h : kSide.rd w.heap.size w cs x) (h' : kSide.rd w.heap.size w cs' x) :
    Calls Try.prog 68 #[.agg cs.toArray, .agg cs'.toArray] w fun e w' => e = .returned (.bool true) ∧ Below w.heap.size w w' := by
  obtain ⟨rfl, _, _⟩ := Side_rd h
  obtain ⟨rfl, _, _⟩ := Side_rd h'
  clear h h'
  have HB0 := Lib.hid (box2_start w (.cells #[Value.int .i64 x.1, Value.int .i64 x.2] 64) (.cells #[Value.int .i64 x.1, Value.int .i64 x.2] 64))
  go_enter Try.func68, Try.ntmps68
  go_wp2_with fail
  go_ret
  exact ⟨rfl, box2_below HB0.out⟩


set_option maxHeartbeats 1000000 in
theorem to_Side {cs : List Value} {x : (Int × Int)} {w : World} (h : kSide.rd w.heap.size w cs x) (hw : kSide.wt x ≤ 1048576) :
    Calls Try.prog 67 #[.agg cs.toArray] w (Made kSide (fun cs => .agg cs.toArray) x w) := by
  obtain ⟨rfl, h0, h1⟩ := Side_rd h
  have hw2 : 0 + (0) ≤ 1048576 := hw
  have HP0 := Lib.hid h0
  have HP1 := Lib.hid h1
  clear h hw hw2 h0 h1
  go_enter Try.func67, Try.ntmps67
  go_wp2_with fail
  refine bodyPost_ret (v := .agg #[Value.int .i64 x.1, Value.int .i64 x.2]) (by simp [results, Try.results67, go_sem]) rfl ?_
  refine ⟨[_, _], [] ++ ([]), rfl, ⟨[], [], [_], [_], rfl, rfl, ⟨rfl, rfl, HP0.out⟩, ⟨rfl, rfl, HP1.out⟩⟩, by simp, by simp, below_3 _ _ _ _⟩


theorem Side_ow {fp : List Nat} {w : World} {v : List Value} {x : (Int × Int)} (h : kSide.ow fp w v x) : v = [Value.int .i64 x.1, Value.int .i64 x.2] ∧ fp = [] ∧ (Lit.int .i64 x.1).wf = true ∧ (Lit.int .i64 x.2).wf = true := by
  obtain ⟨f0, g0, _, _, hfp0, rfl, ⟨rfl, rfl, h0⟩, ⟨rfl, rfl, h1⟩⟩ := h
  simp only [List.nil_append] at hfp0; subst hfp0
  exact ⟨rfl, rfl, h0, h1⟩


theorem Side_owm {w : World} {x : (Int × Int)} (h0 : (Lit.int .i64 x.1).wf = true) (h1 : (Lit.int .i64 x.2).wf = true) : kSide.ow [] w [Value.int .i64 x.1, Value.int .i64 x.2] x := ⟨[], [], [_], [_], rfl, rfl, ⟨rfl, rfl, h0⟩, ⟨rfl, rfl, h1⟩⟩


end Go.Proofs.Ythlajmncpejhmaa
