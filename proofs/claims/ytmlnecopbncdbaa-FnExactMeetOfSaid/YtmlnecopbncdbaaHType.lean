/- The contracts of the laws' helpers over Type, by kinds. (Written by genhelp.py.) -/
import Derived.Test.YtmlnecopbncdbaaHStr
import Derived.Lib.SmallJoins
import Derived.Deep.RegionHeld3
namespace Go.Proofs.Ytmlnecopbncdbaa
set_option linter.unusedVariables false
set_option linter.unusedSimpArgs false
open Go.ChangeShapes Go.WideShapes Go.ChangeAt Go.RowKit
set_option maxRecDepth 100000


def kType : Kind (Int × ByteArray × Int × Bool × Int × Int) := kPair kInt (kPair kStr (kPair kInt (kPair kBool (kPair kInt kInt))))
theorem kType_ok : kType.Ok := kPair_ok kInt_ok (kPair_ok kStr_ok (kPair_ok kInt_ok (kPair_ok kBool_ok (kPair_ok kInt_ok (kInt_ok)))))


theorem Type_rd {B : Nat} {w : World} {v : List Value} {x : (Int × ByteArray × Int × Bool × Int × Int)} (h : kType.rd B w v x) : v = [Value.int .i64 x.1, Value.string x.2.1, Value.int .i64 x.2.2.1, Value.bool x.2.2.2.1, Value.int .i64 x.2.2.2.2.1, Value.int .i64 x.2.2.2.2.2] ∧ (Lit.int .i64 x.1).wf = true ∧ x.2.1.size ≤ maxLen ∧ (Lit.int .i64 x.2.2.1).wf = true ∧ (Lit.int .i64 x.2.2.2.2.1).wf = true ∧ (Lit.int .i64 x.2.2.2.2.2).wf = true := by
  obtain ⟨_, _, rfl, ⟨rfl, h0⟩, ⟨_, _, rfl, ⟨rfl, h1⟩, ⟨_, _, rfl, ⟨rfl, h2⟩, ⟨_, _, rfl, ⟨rfl, h3⟩, ⟨_, _, rfl, ⟨rfl, h4⟩, ⟨rfl, h5⟩⟩⟩⟩⟩⟩ := h
  exact ⟨rfl, h0, h1, h2, h4, h5⟩


theorem reads_Type : Reads Try.prog 94 6 kType.rd := readsK_struct Try.underlying94 (by kernel_rfl) (readsF_cons (off := 0) (m := 5) (K := kInt) (L := (kPair kStr (kPair kInt (kPair kBool (kPair kInt kInt))))) rfl (readsK_int Try.underlying3 (by kernel_rfl)) (readsF_cons (off := 1) (m := 4) (K := kStr) (L := (kPair kInt (kPair kBool (kPair kInt kInt)))) rfl (readsK_str mt Try.underlying9 (by kernel_rfl)) (readsF_cons (off := 2) (m := 3) (K := kInt) (L := (kPair kBool (kPair kInt kInt))) rfl (readsK_int Try.underlying3 (by kernel_rfl)) (readsF_cons (off := 3) (m := 2) (K := kBool) (L := (kPair kInt kInt)) rfl (readsK_bool Try.underlying4 (by kernel_rfl)) (readsF_cons (off := 4) (m := 1) (K := kInt) (L := kInt) rfl (readsK_int Try.underlying3 (by kernel_rfl)) (readsF_one rfl (readsK_int Try.underlying3 (by kernel_rfl))))))))


theorem arg_Type {H : Type} {enc : TypeId × Value → H} {W : World} {r : Reach} {b0 : Nat} {v : Value} {d : DataW H} {ps : List MemPlace} (hval : Value.okWide Try.prog W r b0 94 v) (h : DataW.Trod enc Try.prog W 0 (fun _ => true) true 94 v d ps) : ∃ x, IsK kType (fun cs => .agg cs.toArray) W v x := argAggK Try.underlying94 reads_Type hval h


set_option maxHeartbeats 1000000 in
theorem sz_Type {cs : List Value} {x : (Int × ByteArray × Int × Bool × Int × Int)} {w : World} (l : Int) (h : kType.rd w.heap.size w cs x) (h0 : 0 ≤ l) (h1 : l ≤ 1048576) :
    Calls Try.prog 63 #[.agg cs.toArray, .int .i64 l] w fun e w' => e = .returned (.int .i64 (szR l (kType.wt x))) ∧ Below w.heap.size w w' := by
  obtain ⟨rfl, h0, h1, h2, h4, h5⟩ := Type_rd h
  unfold maxLen at h1
  clear h
  have hw : kType.wt x = x.2.1.size := by show 0 + (x.2.1.size + (0 + (0 + (0 + (0))))) = _; omega
  rw [hw]; clear hw
  by_cases g1 : (x.2.1.size : Int) ≤ l
  case neg =>
    go_enter Try.func63, Try.ntmps63
    go_wp2_with fail
    go_ret
    exact ⟨ret_int (szR_not (by omega)).symm, (Below.refl _ _).alloc (Nat.le_refl _) _⟩
  go_enter Try.func63, Try.ntmps63
  go_wp2_with fail
  go_ret
  exact ⟨ret_int (by rw [szR_fit (by omega)]; try omega), (Below.refl _ _).alloc (Nat.le_refl _) _⟩


set_option maxHeartbeats 1000000 in
theorem eq_Type {cs cs' : List Value} {x : (Int × ByteArray × Int × Bool × Int × Int)} {w : World} (h : kType.rd w.heap.size w cs x) (h' : kType.rd w.heap.size w cs' x) :
    Calls Try.prog 73 #[.agg cs.toArray, .agg cs'.toArray] w fun e w' => e = .returned (.bool true) ∧ Below w.heap.size w w' := by
  obtain ⟨rfl, _, _, _, _, _⟩ := Type_rd h
  obtain ⟨rfl, _, _, _, _, _⟩ := Type_rd h'
  clear h h'
  have HB0 := Lib.hid (box2_start w (.cells #[Value.int .i64 x.1, Value.string x.2.1, Value.int .i64 x.2.2.1, Value.bool x.2.2.2.1, Value.int .i64 x.2.2.2.2.1, Value.int .i64 x.2.2.2.2.2] 85) (.cells #[Value.int .i64 x.1, Value.string x.2.1, Value.int .i64 x.2.2.1, Value.bool x.2.2.2.1, Value.int .i64 x.2.2.2.2.1, Value.int .i64 x.2.2.2.2.2] 85))
  go_enter Try.func73, Try.ntmps73
  go_wp2_with fail
  go_ret
  exact ⟨rfl, box2_below HB0.out⟩


set_option maxHeartbeats 1000000 in
theorem to_Type {cs : List Value} {x : (Int × ByteArray × Int × Bool × Int × Int)} {w : World} (h : kType.rd w.heap.size w cs x) (hw : kType.wt x ≤ 1048576) :
    Calls Try.prog 68 #[.agg cs.toArray] w (Made kType (fun cs => .agg cs.toArray) x w) := by
  obtain ⟨rfl, h0, h1, h2, h4, h5⟩ := Type_rd h
  have hw2 : 0 + (x.2.1.size + (0 + (0 + (0 + (0))))) ≤ 1048576 := hw
  have HP0 := Lib.hid h0
  have HP1 := Lib.hid h1
  have HP2 := Lib.hid h2
  have HP4 := Lib.hid h4
  have HP5 := Lib.hid h5
  clear h hw hw2 h0 h1 h2 h4 h5
  go_enter Try.func68, Try.ntmps68
  go_wp2_with fail
  refine bodyPost_ret (v := .agg #[Value.int .i64 x.1, Value.string x.2.1, Value.int .i64 x.2.2.1, Value.bool x.2.2.2.1, Value.int .i64 x.2.2.2.2.1, Value.int .i64 x.2.2.2.2.2]) (by simp [results, Try.results68, go_sem]) rfl ?_
  refine ⟨[_, _, _, _, _, _], [] ++ ([] ++ ([] ++ ([] ++ ([] ++ ([]))))), rfl, ⟨[], [] ++ ([] ++ ([] ++ ([] ++ ([])))), [_], [_, _, _, _, _], rfl, rfl, ⟨rfl, rfl, HP0.out⟩, ⟨[], [] ++ ([] ++ ([] ++ ([]))), [_], [_, _, _, _], rfl, rfl, ⟨rfl, rfl, HP1.out⟩, ⟨[], [] ++ ([] ++ ([])), [_], [_, _, _], rfl, rfl, ⟨rfl, rfl, HP2.out⟩, ⟨[], [] ++ ([]), [_], [_, _], rfl, rfl, ⟨rfl, rfl, trivial⟩, ⟨[], [], [_], [_], rfl, rfl, ⟨rfl, rfl, HP4.out⟩, ⟨rfl, rfl, HP5.out⟩⟩⟩⟩⟩⟩, by simp, by simp, below_3 _ _ _ _⟩


theorem Type_ow {fp : List Nat} {w : World} {v : List Value} {x : (Int × ByteArray × Int × Bool × Int × Int)} (h : kType.ow fp w v x) : v = [Value.int .i64 x.1, Value.string x.2.1, Value.int .i64 x.2.2.1, Value.bool x.2.2.2.1, Value.int .i64 x.2.2.2.2.1, Value.int .i64 x.2.2.2.2.2] ∧ fp = [] ∧ (Lit.int .i64 x.1).wf = true ∧ x.2.1.size ≤ maxLen ∧ (Lit.int .i64 x.2.2.1).wf = true ∧ (Lit.int .i64 x.2.2.2.2.1).wf = true ∧ (Lit.int .i64 x.2.2.2.2.2).wf = true := by
  obtain ⟨f0, g0, _, _, hfp0, rfl, ⟨rfl, rfl, h0⟩, ⟨f1, g1, _, _, hfp1, rfl, ⟨rfl, rfl, h1⟩, ⟨f2, g2, _, _, hfp2, rfl, ⟨rfl, rfl, h2⟩, ⟨f3, g3, _, _, hfp3, rfl, ⟨rfl, rfl, h3⟩, ⟨f4, g4, _, _, hfp4, rfl, ⟨rfl, rfl, h4⟩, ⟨rfl, rfl, h5⟩⟩⟩⟩⟩⟩ := h
  simp only [List.nil_append] at hfp0; subst hfp0
  simp only [List.nil_append] at hfp1; subst hfp1
  simp only [List.nil_append] at hfp2; subst hfp2
  simp only [List.nil_append] at hfp3; subst hfp3
  simp only [List.nil_append] at hfp4; subst hfp4
  exact ⟨rfl, rfl, h0, h1, h2, h4, h5⟩


theorem Type_owm {w : World} {x : (Int × ByteArray × Int × Bool × Int × Int)} (h0 : (Lit.int .i64 x.1).wf = true) (h1 : x.2.1.size ≤ maxLen) (h2 : (Lit.int .i64 x.2.2.1).wf = true) (h4 : (Lit.int .i64 x.2.2.2.2.1).wf = true) (h5 : (Lit.int .i64 x.2.2.2.2.2).wf = true) : kType.ow [] w [Value.int .i64 x.1, Value.string x.2.1, Value.int .i64 x.2.2.1, Value.bool x.2.2.2.1, Value.int .i64 x.2.2.2.2.1, Value.int .i64 x.2.2.2.2.2] x := ⟨[], [], [_], [_, _, _, _, _], rfl, rfl, ⟨rfl, rfl, h0⟩, ⟨[], [], [_], [_, _, _, _], rfl, rfl, ⟨rfl, rfl, h1⟩, ⟨[], [], [_], [_, _, _], rfl, rfl, ⟨rfl, rfl, h2⟩, ⟨[], [], [_], [_, _], rfl, rfl, ⟨rfl, rfl, trivial⟩, ⟨[], [], [_], [_], rfl, rfl, ⟨rfl, rfl, h4⟩, ⟨rfl, rfl, h5⟩⟩⟩⟩⟩⟩


end Go.Proofs.Ytmlnecopbncdbaa
