/- The contracts of the laws' helpers over Cell, by kinds. (Written by genhelp.py.) -/
import Derived.Test.YtlmgckijbamgpaaHStr
import Derived.Lib.SmallJoins
import Derived.Deep.RegionHeld3
namespace Go.Proofs.Ytlmgckijbamgpaa
set_option linter.unusedVariables false
open Go.ChangeShapes Go.WideShapes Go.ChangeAt Go.RowKit
set_option maxRecDepth 100000


def kCell : Kind (Int × ByteArray × Int) := kPair kInt (kPair kStr kInt)
theorem kCell_ok : kCell.Ok := kPair_ok kInt_ok (kPair_ok kStr_ok (kInt_ok))


theorem Cell_rd {B : Nat} {w : World} {v : List Value} {x : (Int × ByteArray × Int)} (h : kCell.rd B w v x) : v = [Value.int .i64 x.1, Value.string x.2.1, Value.int .i64 x.2.2] ∧ (Lit.int .i64 x.1).wf = true ∧ x.2.1.size ≤ maxLen ∧ (Lit.int .i64 x.2.2).wf = true := by
  obtain ⟨_, _, rfl, ⟨rfl, h0⟩, ⟨_, _, rfl, ⟨rfl, h1⟩, ⟨rfl, h2⟩⟩⟩ := h
  exact ⟨rfl, h0, h1, h2⟩


theorem reads_Cell : Reads Try.prog 142 3 kCell.rd := readsK_struct Try.underlying142 (by kernel_rfl) (readsF_cons (off := 0) (m := 2) (K := kInt) (L := (kPair kStr kInt)) rfl (readsK_int Try.underlying3 (by kernel_rfl)) (readsF_cons (off := 1) (m := 1) (K := kStr) (L := kInt) rfl (readsK_str mt Try.underlying9 (by kernel_rfl)) (readsF_one rfl (readsK_int Try.underlying3 (by kernel_rfl)))))


theorem arg_Cell {H : Type} {enc : TypeId × Value → H} {W : World} {r : Reach} {b0 : Nat} {v : Value} {d : DataW H} {ps : List MemPlace} (hval : Value.okWide Try.prog W r b0 142 v) (h : DataW.Trod enc Try.prog W 0 (fun _ => true) true 142 v d ps) : ∃ x, IsK kCell (fun cs => .agg cs.toArray) W v x := argAggK Try.underlying142 reads_Cell hval h


set_option maxHeartbeats 1000000 in
theorem sz_Cell {cs : List Value} {x : (Int × ByteArray × Int)} {w : World} (l : Int) (h : kCell.rd w.heap.size w cs x) (h0 : 0 ≤ l) (h1 : l ≤ 1048576) :
    Calls Try.prog 112 #[.agg cs.toArray, .int .i64 l] w fun e w' => e = .returned (.int .i64 (szR l (kCell.wt x))) ∧ Below w.heap.size w w' := by
  obtain ⟨rfl, h0, h1, h2⟩ := Cell_rd h
  unfold maxLen at h1
  clear h
  have hw : kCell.wt x = x.2.1.size := by show 0 + (x.2.1.size + (0)) = _; omega
  rw [hw]; clear hw
  by_cases g1 : (x.2.1.size : Int) ≤ l
  case neg =>
    go_enter Try.func112, Try.ntmps112
    go_wp2_with fail
    go_ret
    exact ⟨ret_int (szR_not (by omega)).symm, (Below.refl _ _).alloc (Nat.le_refl _) _⟩
  go_enter Try.func112, Try.ntmps112
  go_wp2_with fail
  go_ret
  exact ⟨ret_int (by rw [szR_fit (by omega)]; try omega), (Below.refl _ _).alloc (Nat.le_refl _) _⟩


set_option maxHeartbeats 1000000 in
theorem eq_Cell {cs cs' : List Value} {x : (Int × ByteArray × Int)} {w : World} (h : kCell.rd w.heap.size w cs x) (h' : kCell.rd w.heap.size w cs' x) :
    Calls Try.prog 118 #[.agg cs.toArray, .agg cs'.toArray] w fun e w' => e = .returned (.bool true) ∧ Below w.heap.size w w' := by
  obtain ⟨rfl, _, _, _⟩ := Cell_rd h
  obtain ⟨rfl, _, _, _⟩ := Cell_rd h'
  clear h h'
  have HB0 := Lib.hid (box2_start w (.cells #[Value.int .i64 x.1, Value.string x.2.1, Value.int .i64 x.2.2] 145) (.cells #[Value.int .i64 x.1, Value.string x.2.1, Value.int .i64 x.2.2] 145))
  go_enter Try.func118, Try.ntmps118
  go_wp2_with fail
  go_ret
  exact ⟨rfl, box2_below HB0.out⟩


set_option maxHeartbeats 1000000 in
theorem to_Cell {cs : List Value} {x : (Int × ByteArray × Int)} {w : World} (h : kCell.rd w.heap.size w cs x) (hw : kCell.wt x ≤ 1048576) :
    Calls Try.prog 114 #[.agg cs.toArray] w (Made kCell (fun cs => .agg cs.toArray) x w) := by
  obtain ⟨rfl, h0, h1, h2⟩ := Cell_rd h
  have hw2 : 0 + (x.2.1.size + (0)) ≤ 1048576 := hw
  have HP0 := Lib.hid h0
  have HP1 := Lib.hid h1
  have HP2 := Lib.hid h2
  clear h hw hw2 h0 h1 h2
  go_enter Try.func114, Try.ntmps114
  go_wp2_with fail
  refine bodyPost_ret (v := .agg #[Value.int .i64 x.1, Value.string x.2.1, Value.int .i64 x.2.2]) (by simp [results, Try.results114, go_sem]) rfl ?_
  refine ⟨[_, _, _], [] ++ ([] ++ ([])), rfl, ⟨[], [] ++ ([]), [_], [_, _], rfl, rfl, ⟨rfl, rfl, HP0.out⟩, ⟨[], [], [_], [_], rfl, rfl, ⟨rfl, rfl, HP1.out⟩, ⟨rfl, rfl, HP2.out⟩⟩⟩, by simp, by simp, below_3 _ _ _ _⟩


theorem Cell_ow {fp : List Nat} {w : World} {v : List Value} {x : (Int × ByteArray × Int)} (h : kCell.ow fp w v x) : v = [Value.int .i64 x.1, Value.string x.2.1, Value.int .i64 x.2.2] ∧ fp = [] ∧ (Lit.int .i64 x.1).wf = true ∧ x.2.1.size ≤ maxLen ∧ (Lit.int .i64 x.2.2).wf = true := by
  obtain ⟨f0, g0, _, _, hfp0, rfl, ⟨rfl, rfl, h0⟩, ⟨f1, g1, _, _, hfp1, rfl, ⟨rfl, rfl, h1⟩, ⟨rfl, rfl, h2⟩⟩⟩ := h
  simp only [List.nil_append] at hfp0; subst hfp0
  simp only [List.nil_append] at hfp1; subst hfp1
  exact ⟨rfl, rfl, h0, h1, h2⟩


theorem Cell_owm {w : World} {x : (Int × ByteArray × Int)} (h0 : (Lit.int .i64 x.1).wf = true) (h1 : x.2.1.size ≤ maxLen) (h2 : (Lit.int .i64 x.2.2).wf = true) : kCell.ow [] w [Value.int .i64 x.1, Value.string x.2.1, Value.int .i64 x.2.2] x := ⟨[], [], [_], [_, _], rfl, rfl, ⟨rfl, rfl, h0⟩, ⟨[], [], [_], [_], rfl, rfl, ⟨rfl, rfl, h1⟩, ⟨rfl, rfl, h2⟩⟩⟩


end Go.Proofs.Ytlmgckijbamgpaa
