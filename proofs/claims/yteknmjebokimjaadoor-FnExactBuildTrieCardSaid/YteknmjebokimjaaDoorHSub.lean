/- The contracts of the laws' helpers over Sub, by kinds. (Written by genhelp.py.) -/
import Derived.Test.YteknmjebokimjaaDoorHStr
import Derived.Lib.SmallJoins
import Derived.Deep.RegionHeld3
namespace Go.Proofs.YteknmjebokimjaaDoor
set_option linter.unusedVariables false
open Go.ChangeShapes Go.WideShapes Go.ChangeAt Go.RowKit
set_option maxRecDepth 100000


def kSub : Kind (ByteArray × Int) := kPair kStr kInt
theorem kSub_ok : kSub.Ok := kPair_ok kStr_ok (kInt_ok)


theorem Sub_rd {B : Nat} {w : World} {v : List Value} {x : (ByteArray × Int)} (h : kSub.rd B w v x) : v = [Value.string x.1, Value.int .i64 x.2] ∧ x.1.size ≤ maxLen ∧ (Lit.int .i64 x.2).wf = true := by
  obtain ⟨_, _, rfl, ⟨rfl, h0⟩, ⟨rfl, h1⟩⟩ := h
  exact ⟨rfl, h0, h1⟩


theorem reads_Sub : Reads Tryd.prog 52 2 kSub.rd := readsK_struct Tryd.underlying52 (by kernel_rfl) (readsF_cons (off := 0) (m := 1) (K := kStr) (L := kInt) rfl (readsK_str mt Tryd.underlying9 (by kernel_rfl)) (readsF_one rfl (readsK_int Tryd.underlying3 (by kernel_rfl))))


theorem arg_Sub {H : Type} {enc : TypeId × Value → H} {W : World} {r : Reach} {b0 : Nat} {v : Value} {d : DataW H} {ps : List MemPlace} (hval : Value.okWide Tryd.prog W r b0 52 v) (h : DataW.Trod enc Tryd.prog W 0 (fun _ => true) true 52 v d ps) : ∃ x, IsK kSub (fun cs => .agg cs.toArray) W v x := argAggK Tryd.underlying52 reads_Sub hval h


set_option maxHeartbeats 1000000 in
theorem sz_Sub {cs : List Value} {x : (ByteArray × Int)} {w : World} (l : Int) (h : kSub.rd w.heap.size w cs x) (h0 : 0 ≤ l) (h1 : l ≤ 1048576) :
    Calls Tryd.prog 39 #[.agg cs.toArray, .int .i64 l] w fun e w' => e = .returned (.int .i64 (szR l (kSub.wt x))) ∧ Below w.heap.size w w' := by
  obtain ⟨rfl, h0, h1⟩ := Sub_rd h
  unfold maxLen at h0
  clear h
  have hw : kSub.wt x = x.1.size := by show x.1.size + (0) = _; omega
  rw [hw]; clear hw
  by_cases g0 : (x.1.size : Int) ≤ l
  case neg =>
    go_enter Tryd.func39, Tryd.ntmps39
    go_wp2_with fail
    go_ret
    exact ⟨ret_int (szR_not (by omega)).symm, (Below.refl _ _).alloc (Nat.le_refl _) _⟩
  go_enter Tryd.func39, Tryd.ntmps39
  go_wp2_with fail
  go_ret
  exact ⟨ret_int (by rw [szR_fit (by omega)]; try omega), (Below.refl _ _).alloc (Nat.le_refl _) _⟩


set_option maxHeartbeats 1000000 in
theorem eq_Sub {cs cs' : List Value} {x : (ByteArray × Int)} {w : World} (h : kSub.rd w.heap.size w cs x) (h' : kSub.rd w.heap.size w cs' x) :
    Calls Tryd.prog 48 #[.agg cs.toArray, .agg cs'.toArray] w fun e w' => e = .returned (.bool true) ∧ Below w.heap.size w w' := by
  obtain ⟨rfl, _, _⟩ := Sub_rd h
  obtain ⟨rfl, _, _⟩ := Sub_rd h'
  clear h h'
  have HB0 := Lib.hid (box2_start w (.cells #[Value.string x.1, Value.int .i64 x.2] 55) (.cells #[Value.string x.1, Value.int .i64 x.2] 55))
  go_enter Tryd.func48, Tryd.ntmps48
  go_wp2_with fail
  go_ret
  exact ⟨rfl, box2_below HB0.out⟩


set_option maxHeartbeats 1000000 in
theorem to_Sub {cs : List Value} {x : (ByteArray × Int)} {w : World} (h : kSub.rd w.heap.size w cs x) (hw : kSub.wt x ≤ 1048576) :
    Calls Tryd.prog 42 #[.agg cs.toArray] w (Made kSub (fun cs => .agg cs.toArray) x w) := by
  obtain ⟨rfl, h0, h1⟩ := Sub_rd h
  have hw2 : x.1.size + (0) ≤ 1048576 := hw
  have HP0 := Lib.hid h0
  have HP1 := Lib.hid h1
  clear h hw hw2 h0 h1
  go_enter Tryd.func42, Tryd.ntmps42
  go_wp2_with fail
  refine bodyPost_ret (v := .agg #[Value.string x.1, Value.int .i64 x.2]) (by simp [results, Tryd.results42, go_sem]) rfl ?_
  refine ⟨[_, _], [] ++ ([]), rfl, ⟨[], [], [_], [_], rfl, rfl, ⟨rfl, rfl, HP0.out⟩, ⟨rfl, rfl, HP1.out⟩⟩, by simp, by simp, below_3 _ _ _ _⟩


theorem Sub_ow {fp : List Nat} {w : World} {v : List Value} {x : (ByteArray × Int)} (h : kSub.ow fp w v x) : v = [Value.string x.1, Value.int .i64 x.2] ∧ fp = [] ∧ x.1.size ≤ maxLen ∧ (Lit.int .i64 x.2).wf = true := by
  obtain ⟨f0, g0, _, _, hfp0, rfl, ⟨rfl, rfl, h0⟩, ⟨rfl, rfl, h1⟩⟩ := h
  simp only [List.nil_append] at hfp0; subst hfp0
  exact ⟨rfl, rfl, h0, h1⟩


theorem Sub_owm {w : World} {x : (ByteArray × Int)} (h0 : x.1.size ≤ maxLen) (h1 : (Lit.int .i64 x.2).wf = true) : kSub.ow [] w [Value.string x.1, Value.int .i64 x.2] x := ⟨[], [], [_], [_], rfl, rfl, ⟨rfl, rfl, h0⟩, ⟨rfl, rfl, h1⟩⟩


end Go.Proofs.YteknmjebokimjaaDoor
