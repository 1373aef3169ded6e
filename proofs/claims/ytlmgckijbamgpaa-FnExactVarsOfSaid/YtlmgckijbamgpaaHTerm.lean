/- The contracts of the laws' helpers over Term, by kinds. (Written by genhelp.py.) -/
import Derived.Test.YtlmgckijbamgpaaHCellS
import Derived.Lib.SmallJoins
import Derived.Deep.RegionHeld3
namespace Go.Proofs.Ytlmgckijbamgpaa
set_option linter.unusedVariables false
open Go.ChangeShapes Go.WideShapes Go.ChangeAt Go.RowKit
set_option maxRecDepth 100000


def kTerm : Kind (List (Int × ByteArray × Int)) := kCellS
theorem kTerm_ok : kTerm.Ok := kCellS_ok


theorem Term_rd {B : Nat} {w : World} {v : List Value} {x : (List (Int × ByteArray × Int))} (h : kTerm.rd B w v x) : ∃ a0 cap0, v = [Value.slice a0 x.length cap0] ∧ kCellS.rd B w [.slice a0 x.length cap0] x := by
  obtain ⟨a0, cap0, vss0, rfl, h0⟩ := h
  exact ⟨a0, cap0, rfl, ⟨a0, cap0, vss0, rfl, h0⟩⟩


theorem reads_Term : Reads Try.prog 24 1 kTerm.rd := readsK_struct Try.underlying24 (by kernel_rfl) (readsF_one rfl reads_CellS)


theorem arg_Term {H : Type} {enc : TypeId × Value → H} {W : World} {r : Reach} {b0 : Nat} {v : Value} {d : DataW H} {ps : List MemPlace} (hval : Value.okWide Try.prog W r b0 24 v) (h : DataW.Trod enc Try.prog W 0 (fun _ => true) true 24 v d ps) : ∃ x, IsK kTerm (fun cs => .agg cs.toArray) W v x := argAggK Try.underlying24 reads_Term hval h


set_option maxHeartbeats 1000000 in
theorem sz_Term {cs : List Value} {x : (List (Int × ByteArray × Int))} {w : World} (l : Int) (h : kTerm.rd w.heap.size w cs x) (h0 : 0 ≤ l) (h1 : l ≤ 1048576) :
    Calls Try.prog 8 #[.agg cs.toArray, .int .i64 l] w fun e w' => e = .returned (.int .i64 (szR l (kTerm.wt x))) ∧ Below w.heap.size w w' := by
  obtain ⟨a0, cap0, rfl, h0⟩ := Term_rd h
  clear h
  have hw : kTerm.wt x = kCellS.wt x := rfl
  rw [hw]; clear hw
  have H0 := Lib.hid (fun (lx : Int) (wx : World) (hb : Below w.heap.size w wx) (g0 : 0 ≤ lx) (g1 : lx ≤ 1048576) => sz_CellS lx (kCellS_ok.later h0 hb) g0 g1)
  clear h0
  generalize hn0 : kCellS.wt x = n0 at *
  clear hn0
  by_cases g0 : (n0 : Int) ≤ l
  case neg =>
    have G0 : szR (l) n0 = -1 := szR_not g0
    go_enter Try.func8, Try.ntmps8
    go_wp2_with fail
    refine ((H0.out (l) _ ((Below.refl _ _).alloc (Nat.le_refl _) _) (by omega) (by omega))).mono ?_
    rw [G0]
    rintro e w1 ⟨rfl, hb0⟩
    have HB0 := Lib.hid (box_step (box_start w _) hb0); clear hb0
    have hc0_0 := box_cell HB0.out 0
    go_wp2_with fail
    go_ret
    exact ⟨ret_int (szR_not (by omega)).symm, box_below HB0.out⟩
  have G0 : szR (l) n0 = l - (n0 : Int) := szR_fit g0
  go_enter Try.func8, Try.ntmps8
  go_wp2_with fail
  refine ((H0.out (l) _ ((Below.refl _ _).alloc (Nat.le_refl _) _) (by omega) (by omega))).mono ?_
  rw [G0]
  rintro e w1 ⟨rfl, hb0⟩
  have HB0 := Lib.hid (box_step (box_start w _) hb0); clear hb0
  have hc0_0 := box_cell HB0.out 0
  go_wp2_with fail
  go_ret
  exact ⟨ret_int (by rw [szR_fit (by omega)]; try omega), box_below HB0.out⟩


set_option maxHeartbeats 1000000 in
theorem eq_Term {cs cs' : List Value} {x : (List (Int × ByteArray × Int))} {w : World} (h : kTerm.rd w.heap.size w cs x) (h' : kTerm.rd w.heap.size w cs' x) :
    Calls Try.prog 13 #[.agg cs.toArray, .agg cs'.toArray] w fun e w' => e = .returned (.bool true) ∧ Below w.heap.size w w' := by
  obtain ⟨a0, cap0, rfl, h0⟩ := Term_rd h
  obtain ⟨a0', cap0', rfl, h0'⟩ := Term_rd h'
  clear h h'
  have H0 := Lib.hid (fun (wx : World) (hb : Below w.heap.size w wx) => eq_CellS (kCellS_ok.later h0 hb) (kCellS_ok.later h0' hb)); clear h0 h0'
  have HB0 := Lib.hid (box2_start w (.cells #[Value.slice a0 x.length cap0] 31) (.cells #[Value.slice a0' x.length cap0'] 31))
  go_enter Try.func13, Try.ntmps13
  go_wp2_with fail
  refine (H0.out _ (box2_below HB0.out)).mono ?_
  rintro e w1 ⟨rfl, hb0⟩
  have HB1 := Lib.hid (box2_step HB0.out hb0); clear hb0
  have hp0_0 := box2_a HB1.out 0; have hq0_0 := box2_b HB1.out 0
  go_wp2_with fail
  go_ret
  exact ⟨rfl, box2_below HB1.out⟩


set_option maxHeartbeats 1000000 in
theorem to_Term {cs : List Value} {x : (List (Int × ByteArray × Int))} {w : World} (h : kTerm.rd w.heap.size w cs x) (hw : kTerm.wt x ≤ 1048576) :
    Calls Try.prog 10 #[.agg cs.toArray] w (Made kTerm (fun cs => .agg cs.toArray) x w) := by
  obtain ⟨a0, cap0, rfl, h0⟩ := Term_rd h
  have hw2 : kCellS.wt x ≤ 1048576 := hw
  have H0 := Lib.hid (fun (wx : World) (hb : Below w.heap.size w wx) => to_CellS (kCellS_ok.later h0 hb) (by omega))
  clear h hw hw2 h0
  go_enter Try.func10, Try.ntmps10
  go_wp2_with fail
  refine (H0.out _ (below_3 w _ _ _)).mono ?_
  rintro e w1 ⟨cs1, fp1, he, ho, hnd, hge, hb⟩
  have hrd1 := kCellS_ok.ord ho (B := w1.heap.size) (kCellS_ok.olt ho)
  obtain ⟨c1, ccap1, _, rfl, _⟩ := hrd1
  change e = .returned (.slice c1 x.length ccap1) at he
  subst he
  have hsz1 : w.heap.size + 3 ≤ w1.heap.size := by have := hb.size; simp at this; omega
  have HB1 := Lib.hid ((below_3 w _ _ _).trans (hb.mono (by simp; omega)))
  have HG1 : Hid (∀ b ∈ fp1, w.heap.size + 3 ≤ b) := Lib.hid fun b hm => by have := hge b hm; simp at this; omega
  have b1_0 : w1.cell? ⟨w.heap.size, 0, none⟩ = some (Value.slice a0 x.length cap0) := (hb.cell (p := ⟨w.heap.size, 0, none⟩) (by simp <;> omega)).trans (by go_simp)
  have s1_0 : w1.cell? ⟨w.heap.size + 1, 0, none⟩ = some (Value.slice none 0 0) := (hb.cell (p := ⟨w.heap.size + 1, 0, none⟩) (by simp <;> omega)).trans (by go_simp)
  have o1_0 : w1.cell? ⟨w.heap.size + 2, 0, none⟩ = some (Value.slice none 0 0) := (hb.cell (p := ⟨w.heap.size + 2, 0, none⟩) (by simp <;> omega)).trans (by go_simp)
  have sf1_0 : w1.frozen? ⟨w.heap.size + 1, 0, none⟩ = false := (hb.frozen (p := ⟨w.heap.size + 1, 0, none⟩) (by simp <;> omega)).trans (by go_simp)
  have of1_0 : w1.frozen? ⟨w.heap.size + 2, 0, none⟩ = false := (hb.frozen (p := ⟨w.heap.size + 2, 0, none⟩) (by simp <;> omega)).trans (by go_simp)
  have HL1 : Hid (∀ b ∈ fp1, b < w1.heap.size) := Lib.hid (kCellS_ok.olt ho)
  have HO1_1 := Lib.hid ho; have HN1 := Lib.hid hnd
  clear ho hnd hge hb
  go_wp2_with fail
  refine bodyPost_ret (v := .agg #[.slice c1 x.length ccap1]) (by simp [results, Try.results10, go_sem, s1_0, o1_0]) rfl ?_
  have same : ∀ b, w.heap.size + 3 ≤ b → (((w1.setCell ⟨w.heap.size + 2, 0, none⟩ (.slice c1 x.length ccap1)).setCell ⟨w.heap.size + 1, 0, none⟩ (.slice c1 x.length ccap1))).heap[b]? = w1.heap[b]? := fun b hm => by rw [Below.heap_setCell _ _ _ _ (by show b ≠ w.heap.size + 1; omega), Below.heap_setCell _ _ _ _ (by show b ≠ w.heap.size + 2; omega)]
  have own1 := kCellS_ok.oframe HO1_1.out fun b hm => same b (by have := HG1.out b hm; omega)
  refine ⟨[_], fp1, rfl, own1, ?_, ?_, ?_⟩
  · try simp only [List.nil_append, List.append_nil]
    exact HN1.out
  · intro b hm
    try simp only [List.nil_append, List.append_nil, List.mem_append] at hm
    have := HG1.out b hm; omega
  · exact ((HB1.out.setCell (p := ⟨w.heap.size + 2, 0, none⟩) (by show w.heap.size ≤ w.heap.size + 2; omega) _).setCell (p := ⟨w.heap.size + 1, 0, none⟩) (by show w.heap.size ≤ w.heap.size + 1; omega) _)


theorem Term_ow {fp : List Nat} {w : World} {v : List Value} {x : (List (Int × ByteArray × Int))} (h : kTerm.ow fp w v x) : ∃ a0 cap0, v = [.slice a0 x.length cap0] ∧ kCellS.ow fp w [.slice a0 x.length cap0] x := by
  obtain ⟨sv, vss, fps, rfl, ho, hr⟩ := h
  obtain ⟨a, cap, rfl⟩ := form_of_own ho
  exact ⟨a, cap, rfl, ⟨_, vss, fps, rfl, ho, hr⟩⟩


theorem Term_owm {fp : List Nat} {w : World} {x : (List (Int × ByteArray × Int))} {a : Option Addr} {m cap : Nat} (h0 : kCellS.ow fp w [.slice a m cap] x) : kTerm.ow fp w [.slice a m cap] x := h0


set_option maxHeartbeats 1000000 in
theorem mark_Term {cs : List Value} {x : (List (Int × ByteArray × Int))} {w : World} {fp : List Nat} (k0 : Nat) (h : kTerm.ow fp w cs x) (hn : fp.Nodup) (h0 : 1 ≤ k0) (h1 : k0 + kTerm.cnt x ≤ 16777216) :
    Calls Try.prog 14 #[.agg cs.toArray, .int .i64 (k0 : Int)] w fun e w' => e = .returned (.int .i64 ((k0 + kTerm.cnt x : Nat) : Int)) ∧ kTerm.ow fp w' cs (kTerm.mark k0 x) ∧ Wrote (fun b => b ∈ fp) w w' := by
  have hlen := kCellS_ok.olt h
  obtain ⟨a, cap, rfl⟩ : ∃ a cap, cs = [.slice a x.length cap] := by
    obtain ⟨sv, _, _, rfl, ho, _⟩ := h
    obtain ⟨a, c, rfl⟩ := form_of_own ho
    exact ⟨a, c, rfl⟩
  have HM := Lib.hid (mark_CellS k0 (kCellS_ok.oframe h (w' := w.alloc (.cells #[.slice a x.length cap] 31)) fun b hb => Below.block ((Below.refl _ _).alloc (Nat.le_refl _) _) b (hlen b hb)) h0 h1)
  clear h hlen
  go_enter Try.func14, Try.ntmps14
  go_wp2_with fail
  refine HM.out.mono ?_
  rintro e w1 ⟨rfl, ho1, hw1⟩
  have HO := Lib.hid ho1; have HW := Lib.hid hw1
  clear ho1 hw1
  go_wp2_with fail
  go_ret
  exact ⟨rfl, HO.out, (Wrote.of_below ((Below.refl _ _).alloc (Nat.le_refl _) _)).trans HW.out⟩


end Go.Proofs.Ytlmgckijbamgpaa
