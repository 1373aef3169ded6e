/- The contracts of the laws' helpers over Machine, by kinds. (Written by genhelp.py.) -/
import Derived.Test.YtedjahinlpehgaaHIntSS
import Derived.Test.YtedjahinlpehgaaHBoolS
import Derived.Lib.SmallJoins
import Derived.Deep.RegionHeld3
namespace Go.Proofs.Ytedjahinlpehgaa
set_option linter.unusedVariables false
open Go.ChangeShapes Go.WideShapes Go.ChangeAt Go.RowKit
set_option maxRecDepth 100000


def kMachine : Kind ((List (List Int)) × (List Bool)) := kPair kIntSS kBoolS
theorem kMachine_ok : kMachine.Ok := kPair_ok kIntSS_ok (kBoolS_ok)


theorem Machine_rd {B : Nat} {w : World} {v : List Value} {x : ((List (List Int)) × (List Bool))} (h : kMachine.rd B w v x) : ∃ a0 cap0 a1 cap1, v = [Value.slice a0 x.1.length cap0, Value.slice a1 x.2.length cap1] ∧ kIntSS.rd B w [.slice a0 x.1.length cap0] x.1 ∧ kBoolS.rd B w [.slice a1 x.2.length cap1] x.2 := by
  obtain ⟨_, _, rfl, ⟨a0, cap0, vss0, rfl, h0⟩, ⟨a1, cap1, vss1, rfl, h1⟩⟩ := h
  exact ⟨a0, cap0, a1, cap1, rfl, ⟨a0, cap0, vss0, rfl, h0⟩, ⟨a1, cap1, vss1, rfl, h1⟩⟩


theorem reads_Machine : Reads Try.prog 25 2 kMachine.rd := readsK_struct Try.underlying25 (by kernel_rfl) (readsF_cons (off := 0) (m := 1) (K := kIntSS) (L := kBoolS) rfl reads_IntSS (readsF_one rfl reads_BoolS))


theorem arg_Machine {H : Type} {enc : TypeId × Value → H} {W : World} {r : Reach} {b0 : Nat} {v : Value} {d : DataW H} {ps : List MemPlace} (hval : Value.okWide Try.prog W r b0 25 v) (h : DataW.Trod enc Try.prog W 0 (fun _ => true) true 25 v d ps) : ∃ x, IsK kMachine (fun cs => .agg cs.toArray) W v x := argAggK Try.underlying25 reads_Machine hval h


set_option maxHeartbeats 1000000 in
theorem sz_Machine {cs : List Value} {x : ((List (List Int)) × (List Bool))} {w : World} (l : Int) (h : kMachine.rd w.heap.size w cs x) (h0 : 0 ≤ l) (h1 : l ≤ 1048576) :
    Calls Try.prog 11 #[.agg cs.toArray, .int .i64 l] w fun e w' => e = .returned (.int .i64 (szR l (kMachine.wt x))) ∧ Below w.heap.size w w' := by
  obtain ⟨a0, cap0, a1, cap1, rfl, h0, h1⟩ := Machine_rd h
  clear h
  have hw : kMachine.wt x = kIntSS.wt x.1 + (kBoolS.wt x.2) := rfl
  rw [hw]; clear hw
  have H0 := Lib.hid (fun (lx : Int) (wx : World) (hb : Below w.heap.size w wx) (g0 : 0 ≤ lx) (g1 : lx ≤ 1048576) => sz_IntSS lx (kIntSS_ok.later h0 hb) g0 g1)
  clear h0
  generalize hn0 : kIntSS.wt x.1 = n0 at *
  clear hn0
  have H1 := Lib.hid (fun (lx : Int) (wx : World) (hb : Below w.heap.size w wx) (g0 : 0 ≤ lx) (g1 : lx ≤ 1048576) => sz_BoolS lx (kBoolS_ok.later h1 hb) g0 g1)
  clear h1
  generalize hn1 : kBoolS.wt x.2 = n1 at *
  clear hn1
  by_cases g0 : (n0 : Int) ≤ l
  case neg =>
    have G0 : szR (l) n0 = -1 := szR_not g0
    go_enter Try.func11, Try.ntmps11
    go_wp2_with fail
    refine ((H0.out (l) _ ((Below.refl _ _).alloc (Nat.le_refl _) _) (by omega) (by omega))).mono ?_
    rw [G0]
    rintro e w1 ⟨rfl, hb0⟩
    have HB0 := Lib.hid (box_step (box_start w _) hb0); clear hb0
    have hc0_0 := box_cell HB0.out 0
    have hc0_1 := box_cell HB0.out 1
    go_wp2_with fail
    go_ret
    exact ⟨ret_int (szR_not (by push_cast; omega)).symm, box_below HB0.out⟩
  by_cases g1 : (n1 : Int) ≤ l - (n0 : Int)
  case neg =>
    have G0 : szR (l) n0 = l - (n0 : Int) := szR_fit g0
    have G1 : szR (l - (n0 : Int)) n1 = -1 := szR_not g1
    go_enter Try.func11, Try.ntmps11
    go_wp2_with fail
    refine ((H0.out (l) _ ((Below.refl _ _).alloc (Nat.le_refl _) _) (by omega) (by omega))).mono ?_
    rw [G0]
    rintro e w1 ⟨rfl, hb0⟩
    have HB0 := Lib.hid (box_step (box_start w _) hb0); clear hb0
    have hc0_0 := box_cell HB0.out 0
    have hc0_1 := box_cell HB0.out 1
    go_wp2_with fail
    refine ((H1.out (l - (n0 : Int)) _ (box_below HB0.out) (by omega) (by omega))).mono ?_
    rw [G1]
    rintro e w2 ⟨rfl, hb1⟩
    have HB1 := Lib.hid (box_step HB0.out hb1); clear hb1
    have hc1_0 := box_cell HB1.out 0
    have hc1_1 := box_cell HB1.out 1
    go_wp2_with fail
    go_ret
    exact ⟨ret_int (szR_not (by push_cast; omega)).symm, box_below HB1.out⟩
  have G0 : szR (l) n0 = l - (n0 : Int) := szR_fit g0
  have G1 : szR (l - (n0 : Int)) n1 = l - (n0 : Int) - (n1 : Int) := szR_fit g1
  go_enter Try.func11, Try.ntmps11
  go_wp2_with fail
  refine ((H0.out (l) _ ((Below.refl _ _).alloc (Nat.le_refl _) _) (by omega) (by omega))).mono ?_
  rw [G0]
  rintro e w1 ⟨rfl, hb0⟩
  have HB0 := Lib.hid (box_step (box_start w _) hb0); clear hb0
  have hc0_0 := box_cell HB0.out 0
  have hc0_1 := box_cell HB0.out 1
  go_wp2_with fail
  refine ((H1.out (l - (n0 : Int)) _ (box_below HB0.out) (by omega) (by omega))).mono ?_
  rw [G1]
  rintro e w2 ⟨rfl, hb1⟩
  have HB1 := Lib.hid (box_step HB0.out hb1); clear hb1
  have hc1_0 := box_cell HB1.out 0
  have hc1_1 := box_cell HB1.out 1
  go_wp2_with fail
  go_ret
  exact ⟨ret_int (by rw [szR_fit (by push_cast; omega)]; push_cast; omega), box_below HB1.out⟩


set_option maxHeartbeats 1000000 in
theorem eq_Machine {cs cs' : List Value} {x : ((List (List Int)) × (List Bool))} {w : World} (h : kMachine.rd w.heap.size w cs x) (h' : kMachine.rd w.heap.size w cs' x) :
    Calls Try.prog 15 #[.agg cs.toArray, .agg cs'.toArray] w fun e w' => e = .returned (.bool true) ∧ Below w.heap.size w w' := by
  obtain ⟨a0, cap0, a1, cap1, rfl, h0, h1⟩ := Machine_rd h
  obtain ⟨a0', cap0', a1', cap1', rfl, h0', h1'⟩ := Machine_rd h'
  clear h h'
  have H0 := Lib.hid (fun (wx : World) (hb : Below w.heap.size w wx) => eq_IntSS (kIntSS_ok.later h0 hb) (kIntSS_ok.later h0' hb)); clear h0 h0'
  have H1 := Lib.hid (fun (wx : World) (hb : Below w.heap.size w wx) => eq_BoolS (kBoolS_ok.later h1 hb) (kBoolS_ok.later h1' hb)); clear h1 h1'
  have HB0 := Lib.hid (box2_start w (.cells #[Value.slice a0 x.1.length cap0, Value.slice a1 x.2.length cap1] 28) (.cells #[Value.slice a0' x.1.length cap0', Value.slice a1' x.2.length cap1'] 28))
  go_enter Try.func15, Try.ntmps15
  go_wp2_with fail
  refine (H0.out _ (box2_below HB0.out)).mono ?_
  rintro e w1 ⟨rfl, hb0⟩
  have HB1 := Lib.hid (box2_step HB0.out hb0); clear hb0
  have hp0_0 := box2_a HB1.out 0; have hq0_0 := box2_b HB1.out 0
  have hp0_1 := box2_a HB1.out 1; have hq0_1 := box2_b HB1.out 1
  go_wp2_with fail
  refine (H1.out _ (box2_below HB1.out)).mono ?_
  rintro e w2 ⟨rfl, hb1⟩
  have HB2 := Lib.hid (box2_step HB1.out hb1); clear hb1
  have hp1_0 := box2_a HB2.out 0; have hq1_0 := box2_b HB2.out 0
  have hp1_1 := box2_a HB2.out 1; have hq1_1 := box2_b HB2.out 1
  go_wp2_with fail
  go_ret
  exact ⟨rfl, box2_below HB2.out⟩


set_option maxHeartbeats 1000000 in
theorem to_Machine {cs : List Value} {x : ((List (List Int)) × (List Bool))} {w : World} (h : kMachine.rd w.heap.size w cs x) (hw : kMachine.wt x ≤ 1048576) :
    Calls Try.prog 13 #[.agg cs.toArray] w (Made kMachine (fun cs => .agg cs.toArray) x w) := by
  obtain ⟨a0, cap0, a1, cap1, rfl, h0, h1⟩ := Machine_rd h
  have hw2 : kIntSS.wt x.1 + (kBoolS.wt x.2) ≤ 1048576 := hw
  have H0 := Lib.hid (fun (wx : World) (hb : Below w.heap.size w wx) => to_IntSS (kIntSS_ok.later h0 hb) (by omega))
  have H1 := Lib.hid (fun (wx : World) (hb : Below w.heap.size w wx) => to_BoolS (kBoolS_ok.later h1 hb) (by omega))
  clear h hw hw2 h0 h1
  go_enter Try.func13, Try.ntmps13
  go_wp2_with fail
  refine (H0.out _ (below_3 w _ _ _)).mono ?_
  rintro e w1 ⟨cs1, fp1, he, ho, hnd, hge, hb⟩
  have hrd1 := kIntSS_ok.ord ho (B := w1.heap.size) (kIntSS_ok.olt ho)
  obtain ⟨c1, ccap1, _, rfl, _⟩ := hrd1
  change e = .returned (.slice c1 x.1.length ccap1) at he
  subst he
  have hsz1 : w.heap.size + 3 ≤ w1.heap.size := by have := hb.size; simp at this; omega
  have HB1 := Lib.hid ((below_3 w _ _ _).trans (hb.mono (by simp; omega)))
  have HG1 : Hid (∀ b ∈ fp1, w.heap.size + 3 ≤ b) := Lib.hid fun b hm => by have := hge b hm; simp at this; omega
  have b1_0 : w1.cell? ⟨w.heap.size, 0, none⟩ = some (Value.slice a0 x.1.length cap0) := (hb.cell (p := ⟨w.heap.size, 0, none⟩) (by simp <;> omega)).trans (by go_simp)
  have s1_0 : w1.cell? ⟨w.heap.size + 1, 0, none⟩ = some (Value.slice none 0 0) := (hb.cell (p := ⟨w.heap.size + 1, 0, none⟩) (by simp <;> omega)).trans (by go_simp)
  have o1_0 : w1.cell? ⟨w.heap.size + 2, 0, none⟩ = some (Value.slice none 0 0) := (hb.cell (p := ⟨w.heap.size + 2, 0, none⟩) (by simp <;> omega)).trans (by go_simp)
  have sf1_0 : w1.frozen? ⟨w.heap.size + 1, 0, none⟩ = false := (hb.frozen (p := ⟨w.heap.size + 1, 0, none⟩) (by simp <;> omega)).trans (by go_simp)
  have of1_0 : w1.frozen? ⟨w.heap.size + 2, 0, none⟩ = false := (hb.frozen (p := ⟨w.heap.size + 2, 0, none⟩) (by simp <;> omega)).trans (by go_simp)
  have b1_1 : w1.cell? ⟨w.heap.size, 1, none⟩ = some (Value.slice a1 x.2.length cap1) := (hb.cell (p := ⟨w.heap.size, 1, none⟩) (by simp <;> omega)).trans (by go_simp)
  have s1_1 : w1.cell? ⟨w.heap.size + 1, 1, none⟩ = some (Value.slice none 0 0) := (hb.cell (p := ⟨w.heap.size + 1, 1, none⟩) (by simp <;> omega)).trans (by go_simp)
  have o1_1 : w1.cell? ⟨w.heap.size + 2, 1, none⟩ = some (Value.slice none 0 0) := (hb.cell (p := ⟨w.heap.size + 2, 1, none⟩) (by simp <;> omega)).trans (by go_simp)
  have sf1_1 : w1.frozen? ⟨w.heap.size + 1, 1, none⟩ = false := (hb.frozen (p := ⟨w.heap.size + 1, 1, none⟩) (by simp <;> omega)).trans (by go_simp)
  have of1_1 : w1.frozen? ⟨w.heap.size + 2, 1, none⟩ = false := (hb.frozen (p := ⟨w.heap.size + 2, 1, none⟩) (by simp <;> omega)).trans (by go_simp)
  have HL1 : Hid (∀ b ∈ fp1, b < w1.heap.size) := Lib.hid (kIntSS_ok.olt ho)
  have HO1_1 := Lib.hid ho; have HN1 := Lib.hid hnd
  clear ho hnd hge hb
  go_wp2_with fail
  have HLX := HL1
  refine (H1.out _ (HB1.out.setCell (p := ⟨w.heap.size + 2, 0, none⟩) (by show w.heap.size ≤ w.heap.size + 2; omega) _)).mono ?_
  rintro e w2 ⟨cs2, fp2, he, ho, hnd, hge, hb⟩
  have hrd2 := kBoolS_ok.ord ho (B := w2.heap.size) (kBoolS_ok.olt ho)
  obtain ⟨c2, ccap2, _, rfl, _⟩ := hrd2
  change e = .returned (.slice c2 x.2.length ccap2) at he
  subst he
  have hsz2 : w.heap.size + 3 ≤ w2.heap.size := by have := hb.size; simp at this; omega
  have HB2 := Lib.hid ((HB1.out.setCell (p := ⟨w.heap.size + 2, 0, none⟩) (by show w.heap.size ≤ w.heap.size + 2; omega) _).trans (hb.mono (by simp; omega)))
  have HG2 : Hid (∀ b ∈ fp2, w1.heap.size ≤ b) := Lib.hid fun b hm => by have := hge b hm; simp at this; omega
  have b2_0 : w2.cell? ⟨w.heap.size, 0, none⟩ = some (Value.slice a0 x.1.length cap0) := (hb.cell (p := ⟨w.heap.size, 0, none⟩) (by simp <;> omega)).trans (by go_simp)
  have s2_0 : w2.cell? ⟨w.heap.size + 1, 0, none⟩ = some (Value.slice none 0 0) := (hb.cell (p := ⟨w.heap.size + 1, 0, none⟩) (by simp <;> omega)).trans (by go_simp)
  have o2_0 : w2.cell? ⟨w.heap.size + 2, 0, none⟩ = some (.slice c1 x.1.length ccap1) := (hb.cell (p := ⟨w.heap.size + 2, 0, none⟩) (by simp <;> omega)).trans (by go_simp)
  have sf2_0 : w2.frozen? ⟨w.heap.size + 1, 0, none⟩ = false := (hb.frozen (p := ⟨w.heap.size + 1, 0, none⟩) (by simp <;> omega)).trans (by go_simp)
  have of2_0 : w2.frozen? ⟨w.heap.size + 2, 0, none⟩ = false := (hb.frozen (p := ⟨w.heap.size + 2, 0, none⟩) (by simp <;> omega)).trans (by go_simp)
  have b2_1 : w2.cell? ⟨w.heap.size, 1, none⟩ = some (Value.slice a1 x.2.length cap1) := (hb.cell (p := ⟨w.heap.size, 1, none⟩) (by simp <;> omega)).trans (by go_simp)
  have s2_1 : w2.cell? ⟨w.heap.size + 1, 1, none⟩ = some (Value.slice none 0 0) := (hb.cell (p := ⟨w.heap.size + 1, 1, none⟩) (by simp <;> omega)).trans (by go_simp)
  have o2_1 : w2.cell? ⟨w.heap.size + 2, 1, none⟩ = some (Value.slice none 0 0) := (hb.cell (p := ⟨w.heap.size + 2, 1, none⟩) (by simp <;> omega)).trans (by go_simp)
  have sf2_1 : w2.frozen? ⟨w.heap.size + 1, 1, none⟩ = false := (hb.frozen (p := ⟨w.heap.size + 1, 1, none⟩) (by simp <;> omega)).trans (by go_simp)
  have of2_1 : w2.frozen? ⟨w.heap.size + 2, 1, none⟩ = false := (hb.frozen (p := ⟨w.heap.size + 2, 1, none⟩) (by simp <;> omega)).trans (by go_simp)
  have HL2 : Hid (∀ b ∈ fp2, b < w2.heap.size) := Lib.hid (kBoolS_ok.olt ho)
  have HO2_2 := Lib.hid ho; have HN2 := Lib.hid hnd
  have HO1_2 := Lib.hid (kIntSS_ok.oframe HO1_1.out (w' := w2) fun b hm => (hb.block b (by simp; have := HL1.out b hm; omega)).trans (by rw [Below.heap_setCell _ _ _ _ (by have := HG1.out b hm; show b ≠ w.heap.size + 2; omega)]))
  have HL1 : Hid (∀ b ∈ fp1, b < w2.heap.size) := Lib.hid fun b hm => by have := HL1.out b hm; have := hb.size; simp at this; omega
  clear ho hnd hge hb
  clear b1_0 s1_0 o1_0 sf1_0 of1_0
  clear b1_1 s1_1 o1_1 sf1_1 of1_1
  go_wp2_with fail
  refine bodyPost_ret (v := .agg #[.slice c1 x.1.length ccap1, .slice c2 x.2.length ccap2]) (by simp [results, Try.results13, go_sem, s2_0, s2_1, o2_0, o2_1]) rfl ?_
  have same : ∀ b, w.heap.size + 3 ≤ b → ((((w2.setCell ⟨w.heap.size + 2, 1, none⟩ (.slice c2 x.2.length ccap2)).setCell ⟨w.heap.size + 1, 0, none⟩ (.slice c1 x.1.length ccap1)).setCell ⟨w.heap.size + 1, 1, none⟩ (.slice c2 x.2.length ccap2))).heap[b]? = w2.heap[b]? := fun b hm => by rw [Below.heap_setCell _ _ _ _ (by show b ≠ w.heap.size + 1; omega), Below.heap_setCell _ _ _ _ (by show b ≠ w.heap.size + 1; omega), Below.heap_setCell _ _ _ _ (by show b ≠ w.heap.size + 2; omega)]
  have own1 := kIntSS_ok.oframe HO1_2.out fun b hm => same b (by have := HG1.out b hm; omega)
  have own2 := kBoolS_ok.oframe HO2_2.out fun b hm => same b (by have := HG2.out b hm; omega)
  refine ⟨[_, _], fp1 ++ (fp2), rfl, ⟨fp1, fp2, [_], [_], rfl, rfl, own1, own2⟩, ?_, ?_, ?_⟩
  · try simp only [List.nil_append, List.append_nil]
    rw [List.nodup_append]
    exact ⟨HN1.out, HN2.out, fun p hp q hq he => by subst he; have := HG2.out p hq; have := HLX.out p hp; omega⟩
  · intro b hm
    simp only [List.nil_append, List.append_nil, List.mem_append] at hm
    rcases hm with hm | hm
    · have := HG1.out b hm; omega
    · have := HG2.out b hm; omega
  · exact (((HB2.out.setCell (p := ⟨w.heap.size + 2, 1, none⟩) (by show w.heap.size ≤ w.heap.size + 2; omega) _).setCell (p := ⟨w.heap.size + 1, 0, none⟩) (by show w.heap.size ≤ w.heap.size + 1; omega) _).setCell (p := ⟨w.heap.size + 1, 1, none⟩) (by show w.heap.size ≤ w.heap.size + 1; omega) _)


set_option maxHeartbeats 1000000 in
theorem mark_Machine {cs : List Value} {x : ((List (List Int)) × (List Bool))} {w : World} {fp : List Nat} (k0 : Nat) (h : kMachine.ow fp w cs x) (hn : fp.Nodup) (h0 : 1 ≤ k0) (h1 : k0 + kMachine.cnt x ≤ 16777216) :
    Calls Try.prog 20 #[.agg cs.toArray, .int .i64 (k0 : Int)] w fun e w' => e = .returned (.int .i64 ((k0 + kMachine.cnt x : Nat) : Int)) ∧ kMachine.ow fp w' cs (kMachine.mark k0 x) ∧ Wrote (fun b => b ∈ fp) w w' := by
  obtain ⟨f, g, c, d, rfl, rfl, ho, ho'⟩ := h
  have hl := kIntSS_ok.olt ho; have hl' := kBoolS_ok.olt ho'
  obtain ⟨a0, cap0, rfl⟩ : ∃ a cap, c = [.slice a x.1.length cap] := by
    obtain ⟨sv, _, _, rfl, ho, _⟩ := ho
    obtain ⟨a, c, rfl⟩ := form_of_own ho
    exact ⟨a, c, rfl⟩
  obtain ⟨a1, cap1, rfl⟩ : ∃ a cap, d = [.slice a x.2.length cap] := by
    obtain ⟨sv, _, _, rfl, ho, _⟩ := ho'
    obtain ⟨a, c, rfl⟩ := form_of_own ho
    exact ⟨a, c, rfl⟩
  rw [List.nodup_append] at hn
  have hc : kMachine.cnt x = kIntSS.cnt x.1 + kBoolS.cnt x.2 := rfl
  rw [hc] at h1
  have hb0 : Below w.heap.size w (w.alloc (.cells #[.slice a0 x.1.length cap0, .slice a1 x.2.length cap1] 28)) := (Below.refl _ _).alloc (Nat.le_refl _) _
  have HB0 := Lib.hid hb0
  have HM := Lib.hid (mark_IntSS k0 (kIntSS_ok.oframe ho (w' := w.alloc (.cells #[.slice a0 x.1.length cap0, .slice a1 x.2.length cap1] 28)) fun b hb => hb0.block b (hl b hb)) h0 (by omega))
  have HO' := Lib.hid (kBoolS_ok.oframe ho' (w' := w.alloc (.cells #[.slice a0 x.1.length cap0, .slice a1 x.2.length cap1] 28)) fun b hb => hb0.block b (hl' b hb))
  have HL := Lib.hid hl; have HL' := Lib.hid hl'; have HN := Lib.hid hn; have H1 := Lib.hid h1
  clear ho ho' hl hl' hn hb0 h1 hc
  go_enter Try.func20, Try.ntmps20
  go_wp2_with fail
  refine HM.out.mono ?_
  rintro e w1 ⟨rfl, ho1, hw1⟩
  have hc1 : w1.cell? ⟨w.heap.size, 1, none⟩ = some (.slice a1 x.2.length cap1) := hw1.cell (by go_simp) (fun hm => by have := HL.out _ hm; omega)
  have HM2 := Lib.hid (mark_BoolS (k0 + kIntSS.cnt x.1) (kBoolS_ok.oframe HO'.out (w' := w1) fun b hb => hw1.block b (by have := HL'.out b hb; simp; omega) (fun hf => HN.out.2.2 b hf b hb rfl)) (by omega) (by have := H1.out; omega))
  have HO1 := Lib.hid ho1; have HW1 := Lib.hid hw1
  clear ho1 hw1
  go_wp2_with fail
  refine HM2.out.mono ?_
  rintro e w2 ⟨rfl, ho2, hw2⟩
  have HO2 := Lib.hid ho2; have HW2 := Lib.hid hw2
  clear ho2 hw2 hc1
  go_wp2_with fail
  go_ret
  refine ⟨?_, ⟨f, g, _, _, rfl, rfl, kIntSS_ok.oframe HO1.out fun b hb => HW2.out.block b (kIntSS_ok.olt HO1.out b hb) (fun hg => HN.out.2.2 b hb b hg rfl), HO2.out⟩, ?_⟩
  · exact ret_int (by rw [show kMachine.cnt x = kIntSS.cnt x.1 + kBoolS.cnt x.2 from rfl]; omega)
  · exact (Wrote.of_below HB0.out).trans ((HW1.out.mono fun b _ hb => List.mem_append.2 (.inl hb)).trans (HW2.out.mono fun b _ hb => List.mem_append.2 (.inr hb)))


set_option maxHeartbeats 1000000 in
theorem held_Machine {cs : List Value} {x : ((List (List Int)) × (List Bool))} {w : World} (k0 : Nat) (h : kMachine.rd w.heap.size w cs (kMachine.mark k0 x)) (h0 : 1 ≤ k0) (h1 : k0 + kMachine.cnt x ≤ 16777216) :
    Calls Try.prog 21 #[.agg cs.toArray, .int .i64 (k0 : Int)] w fun e w' => e = .returned (.int .i64 ((k0 + kMachine.cnt x : Nat) : Int)) ∧ Below w.heap.size w w' := by
  obtain ⟨c, d, rfl, hr, hr'⟩ := h
  obtain ⟨a0, cap0, hcs⟩ : ∃ a cap, c = [.slice a (kIntSS.mark k0 x.1).length cap] := by obtain ⟨a, cap, _, e, _⟩ := hr; exact ⟨a, cap, e⟩
  obtain ⟨a1, cap1, hds⟩ : ∃ a cap, d = [.slice a (kBoolS.mark (k0 + kIntSS.cnt x.1) x.2).length cap] := by obtain ⟨a, cap, _, e, _⟩ := hr'; exact ⟨a, cap, e⟩
  generalize (kIntSS.mark k0 x.1).length = ln at hcs
  generalize (kBoolS.mark (k0 + kIntSS.cnt x.1) x.2).length = ln' at hds
  subst hcs hds
  have hc : kMachine.cnt x = kIntSS.cnt x.1 + kBoolS.cnt x.2 := rfl
  rw [hc] at h1
  have HM := Lib.hid (held_IntSS k0 (kIntSS_ok.later hr (w' := w.alloc (.cells #[.slice a0 ln cap0, .slice a1 ln' cap1] 28)) ((Below.refl _ _).alloc (Nat.le_refl _) _)) h0 (by omega))
  have HM2 := Lib.hid (fun wx (hb : Below w.heap.size w wx) => held_BoolS (w := wx) (k0 + kIntSS.cnt x.1) (kBoolS_ok.later hr' hb) (by omega) (by omega))
  have H1 := Lib.hid h1
  clear hr hr' h1 hc
  have hneg : ¬ (((k0 + kIntSS.cnt x.1 : Nat) : Int) < 0) := by omega
  have hneg' : ¬ (((k0 + kIntSS.cnt x.1 + kBoolS.cnt x.2 : Nat) : Int) < 0) := by omega
  go_enter Try.func21, Try.ntmps21
  go_wp2_with fail
  refine HM.out.mono ?_
  rintro e w1 ⟨rfl, hb1⟩
  have HB1 := Lib.hid (box_step (box_start w _) hb1); clear hb1
  have hp0 := box_cell HB1.out 0; have hp1 := box_cell HB1.out 1
  go_wp2_with fail
  refine (HM2.out _ (box_below HB1.out)).mono ?_
  rintro e w2 ⟨rfl, hb2⟩
  have HB2 := Lib.hid (box_step HB1.out hb2); clear hb2 hp0 hp1
  go_wp2_with fail
  go_ret
  exact ⟨ret_int (by rw [show kMachine.cnt x = kIntSS.cnt x.1 + kBoolS.cnt x.2 from rfl]; omega), box_below HB2.out⟩


end Go.Proofs.Ytedjahinlpehgaa
