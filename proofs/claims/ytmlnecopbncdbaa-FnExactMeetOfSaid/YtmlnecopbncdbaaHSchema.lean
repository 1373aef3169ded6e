/- The contracts of the laws' helpers over Schema, by kinds. (Written by genhelp.py.) -/
import Derived.Test.YtmlnecopbncdbaaHTypeN2
import Derived.Lib.SmallJoins
import Derived.Deep.RegionHeld3
namespace Go.Proofs.Ytmlnecopbncdbaa
set_option linter.unusedVariables false
set_option linter.unusedSimpArgs false
open Go.ChangeShapes Go.WideShapes Go.ChangeAt Go.RowKit
set_option maxRecDepth 100000


def kSchema : Kind (List (Int × ByteArray × Int × Bool × Int × Int)) := kTypeS
theorem kSchema_ok : kSchema.Ok := kTypeS_ok


theorem Schema_rd {B : Nat} {w : World} {v : List Value} {x : (List (Int × ByteArray × Int × Bool × Int × Int))} (h : kSchema.rd B w v x) : ∃ a0 cap0, v = [Value.slice a0 x.length cap0] ∧ kTypeS.rd B w [.slice a0 x.length cap0] x := by
  obtain ⟨a0, cap0, vss0, rfl, h0⟩ := h
  exact ⟨a0, cap0, rfl, ⟨a0, cap0, vss0, rfl, h0⟩⟩


theorem reads_Schema : Reads Try.prog 24 1 kSchema.rd := readsK_struct Try.underlying24 (by kernel_rfl) (readsF_one rfl reads_TypeS)


theorem arg_Schema {H : Type} {enc : TypeId × Value → H} {W : World} {r : Reach} {b0 : Nat} {v : Value} {d : DataW H} {ps : List MemPlace} (hval : Value.okWide Try.prog W r b0 24 v) (h : DataW.Trod enc Try.prog W 0 (fun _ => true) true 24 v d ps) : ∃ x, IsK kSchema (fun cs => .agg cs.toArray) W v x := argAggK Try.underlying24 reads_Schema hval h


set_option maxHeartbeats 1000000 in
theorem sz_Schema {cs : List Value} {x : (List (Int × ByteArray × Int × Bool × Int × Int))} {w : World} (l : Int) (h : kSchema.rd w.heap.size w cs x) (h0 : 0 ≤ l) (h1 : l ≤ 1048576) :
    Calls Try.prog 6 #[.agg cs.toArray, .int .i64 l] w fun e w' => e = .returned (.int .i64 (szR l (kSchema.wt x))) ∧ Below w.heap.size w w' := by
  obtain ⟨a0, cap0, rfl, h0⟩ := Schema_rd h
  clear h
  have hw : kSchema.wt x = kTypeS.wt x := rfl
  rw [hw]; clear hw
  have H0 := Lib.hid (fun (lx : Int) (wx : World) (hb : Below w.heap.size w wx) (g0 : 0 ≤ lx) (g1 : lx ≤ 1048576) => sz_TypeS lx (kTypeS_ok.later h0 hb) g0 g1)
  clear h0
  generalize hn0 : kTypeS.wt x = n0 at *
  clear hn0
  by_cases g0 : (n0 : Int) ≤ l
  case neg =>
    have G0 : szR (l) n0 = -1 := szR_not g0
    go_enter Try.func6, Try.ntmps6
    go_wp2_with fail
    refine ((H0.out (l) _ ((Below.refl _ _).alloc (Nat.le_refl _) _) (by omega) (by omega))).mono ?_
    rw [G0]
    rintro e w1 ⟨rfl, hb0⟩
    have HB0 := Lib.hid (box_step (box_start w _) hb0); clear hb0
    have hc0_0 := box_cell HB0.out 0
    go_wp2_with fail
    go_ret
    exact ⟨ret_int (szR_not (by omega)).symm, box_below HB0.out⟩
  have G0 : szR (l) n0 = l - (n0 : Int) := szR_fit g0
  go_enter Try.func6, Try.ntmps6
  go_wp2_with fail
  refine ((H0.out (l) _ ((Below.refl _ _).alloc (Nat.le_refl _) _) (by omega) (by omega))).mono ?_
  rw [G0]
  rintro e w1 ⟨rfl, hb0⟩
  have HB0 := Lib.hid (box_step (box_start w _) hb0); clear hb0
  have hc0_0 := box_cell HB0.out 0
  go_wp2_with fail
  go_ret
  exact ⟨ret_int (by rw [szR_fit (by omega)]; try omega), box_below HB0.out⟩


set_option maxHeartbeats 1000000 in
theorem eq_Schema {cs cs' : List Value} {x : (List (Int × ByteArray × Int × Bool × Int × Int))} {w : World} (h : kSchema.rd w.heap.size w cs x) (h' : kSchema.rd w.heap.size w cs' x) :
    Calls Try.prog 10 #[.agg cs.toArray, .agg cs'.toArray] w fun e w' => e = .returned (.bool true) ∧ Below w.heap.size w w' := by
  obtain ⟨a0, cap0, rfl, h0⟩ := Schema_rd h
  obtain ⟨a0', cap0', rfl, h0'⟩ := Schema_rd h'
  clear h h'
  have H0 := Lib.hid (fun (wx : World) (hb : Below w.heap.size w wx) => eq_TypeS (kTypeS_ok.later h0 hb) (kTypeS_ok.later h0' hb)); clear h0 h0'
  have HB0 := Lib.hid (box2_start w (.cells #[Value.slice a0 x.length cap0] 28) (.cells #[Value.slice a0' x.length cap0'] 28))
  go_enter Try.func10, Try.ntmps10
  go_wp2_with fail
  refine (H0.out _ (box2_below HB0.out)).mono ?_
  rintro e w1 ⟨rfl, hb0⟩
  have HB1 := Lib.hid (box2_step HB0.out hb0); clear hb0
  have hp0_0 := box2_a HB1.out 0; have hq0_0 := box2_b HB1.out 0
  go_wp2_with fail
  go_ret
  exact ⟨rfl, box2_below HB1.out⟩


set_option maxHeartbeats 1000000 in
theorem to_Schema {cs : List Value} {x : (List (Int × ByteArray × Int × Bool × Int × Int))} {w : World} (h : kSchema.rd w.heap.size w cs x) (hw : kSchema.wt x ≤ 1048576) :
    Calls Try.prog 8 #[.agg cs.toArray] w (Made kSchema (fun cs => .agg cs.toArray) x w) := by
  obtain ⟨a0, cap0, rfl, h0⟩ := Schema_rd h
  have hw2 : kTypeS.wt x ≤ 1048576 := hw
  have H0 := Lib.hid (fun (wx : World) (hb : Below w.heap.size w wx) => to_TypeS (kTypeS_ok.later h0 hb) (by omega))
  clear h hw hw2 h0
  go_enter Try.func8, Try.ntmps8
  go_wp2_with fail
  refine (H0.out _ (below_3 w _ _ _)).mono ?_
  rintro e w1 ⟨cs1, fp1, he, ho, hnd, hge, hb⟩
  have hrd1 := kTypeS_ok.ord ho (B := w1.heap.size) (kTypeS_ok.olt ho)
  obtain ⟨c1, ccap1, _, rfl, _⟩ := hrd1
  change e = .returned (.slice c1 x.length ccap1) at he
  subst he
  have hsz1 : w.heap.size + 3 ≤ w1.heap.size := by have := hb.size; simp at this; omega
  have HB1 := Lib.hid ((below_3 w _ _ _).trans (hb.mono (by simp; omega)))
  have HG1 : Hid (∀ b ∈ fp1, w.heap.size + 3 ≤ b) := Lib.hid fun b hm => by have := hge b hm; simp at this; omega
  have b1_0 : w1.cell? ⟨w.heap.size, 0, none⟩ = some (Value.slice a0 x.length cap0) := (hb.cell (p := ⟨w.heap.size, 0, none⟩) (by simp <;> omega)).trans (by go_simp)
  have s1_0 : w1.cell? ⟨w.heap.size + 1, 0, none⟩ = some (Value.slice none 0 0) := (hb.cell (p := ⟨w.heap.size + 1, 0, none⟩) (by simp <;> omega)).trans (by go_simp)
  have o1_0 : w1.cell? ⟨w.heap.size + 2, 0, none⟩ = some (Value.slice none 0 0) := (hb.cell (p := ⟨w.heap.size + 2, 0, none⟩) (by simp <;> omega)).trans (by go_simp)
  have sf1_0 : w1.frozen? ⟨w.heap.size + 1, 0, none⟩ = false := (hb.frozen (p := ⟨w.heap.size + 1, 0, none⟩) (by simp <;> omega)).trans (by go_simp)
  have of1_0 : w1.frozen? ⟨w.heap.size + 2, 0, none⟩ = false := (hb.frozen (p := ⟨w.heap.size + 2, 0, none⟩) (by simp <;> omega)).trans (by go_simp)
  have HL1 : Hid (∀ b ∈ fp1, b < w1.heap.size) := Lib.hid (kTypeS_ok.olt ho)
  have HO1_1 := Lib.hid ho; have HN1 := Lib.hid hnd
  clear ho hnd hge hb
  go_wp2_with fail
  refine bodyPost_ret (v := .agg #[.slice c1 x.length ccap1]) (by simp [results, Try.results8, go_sem, s1_0, o1_0]) rfl ?_
  have same : ∀ b, w.heap.size + 3 ≤ b → (((w1.setCell ⟨w.heap.size + 2, 0, none⟩ (.slice c1 x.length ccap1)).setCell ⟨w.heap.size + 1, 0, none⟩ (.slice c1 x.length ccap1))).heap[b]? = w1.heap[b]? := fun b hm => by rw [Below.heap_setCell _ _ _ _ (by show b ≠ w.heap.size + 1; omega), Below.heap_setCell _ _ _ _ (by show b ≠ w.heap.size + 2; omega)]
  have own1 := kTypeS_ok.oframe HO1_1.out fun b hm => same b (by have := HG1.out b hm; omega)
  refine ⟨[_], fp1, rfl, own1, ?_, ?_, ?_⟩
  · try simp only [List.nil_append, List.append_nil]
    exact HN1.out
  · intro b hm
    try simp only [List.nil_append, List.append_nil, List.mem_append] at hm
    have := HG1.out b hm; omega
  · exact ((HB1.out.setCell (p := ⟨w.heap.size + 2, 0, none⟩) (by show w.heap.size ≤ w.heap.size + 2; omega) _).setCell (p := ⟨w.heap.size + 1, 0, none⟩) (by show w.heap.size ≤ w.heap.size + 1; omega) _)


theorem Schema_ow {fp : List Nat} {w : World} {v : List Value} {x : (List (Int × ByteArray × Int × Bool × Int × Int))} (h : kSchema.ow fp w v x) : ∃ a0 cap0, v = [.slice a0 x.length cap0] ∧ kTypeS.ow fp w [.slice a0 x.length cap0] x := by
  obtain ⟨sv, vss, fps, rfl, ho, hr⟩ := h
  obtain ⟨a, cap, rfl⟩ := form_of_own ho
  exact ⟨a, cap, rfl, ⟨_, vss, fps, rfl, ho, hr⟩⟩


theorem Schema_owm {fp : List Nat} {w : World} {x : (List (Int × ByteArray × Int × Bool × Int × Int))} {a : Option Addr} {m cap : Nat} (h0 : kTypeS.ow fp w [.slice a m cap] x) : kSchema.ow fp w [.slice a m cap] x := h0


set_option maxHeartbeats 1000000 in
theorem mark_Schema {cs : List Value} {x : (List (Int × ByteArray × Int × Bool × Int × Int))} {w : World} {fp : List Nat} (k0 : Nat) (h : kSchema.ow fp w cs x) (hn : fp.Nodup) (h0 : 1 ≤ k0) (h1 : k0 + kSchema.cnt x ≤ 16777216) :
    Calls Try.prog 11 #[.agg cs.toArray, .int .i64 (k0 : Int)] w fun e w' => e = .returned (.int .i64 ((k0 + kSchema.cnt x : Nat) : Int)) ∧ kSchema.ow fp w' cs (kSchema.mark k0 x) ∧ Wrote (fun b => b ∈ fp) w w' := by
  have hlen := kTypeS_ok.olt h
  obtain ⟨a, cap, rfl⟩ : ∃ a cap, cs = [.slice a x.length cap] := by
    obtain ⟨sv, _, _, rfl, ho, _⟩ := h
    obtain ⟨a, c, rfl⟩ := form_of_own ho
    exact ⟨a, c, rfl⟩
  have HM := Lib.hid (mark_TypeS k0 (kTypeS_ok.oframe h (w' := w.alloc (.cells #[.slice a x.length cap] 28)) fun b hb => Below.block ((Below.refl _ _).alloc (Nat.le_refl _) _) b (hlen b hb)) h0 h1)
  clear h hlen
  go_enter Try.func11, Try.ntmps11
  go_wp2_with fail
  refine HM.out.mono ?_
  rintro e w1 ⟨rfl, ho1, hw1⟩
  have HO := Lib.hid ho1; have HW := Lib.hid hw1
  clear ho1 hw1
  go_wp2_with fail
  go_ret
  exact ⟨rfl, HO.out, (Wrote.of_below ((Below.refl _ _).alloc (Nat.le_refl _) _)).trans HW.out⟩


set_option maxHeartbeats 1000000 in
theorem held_Schema {cs : List Value} {x : (List (Int × ByteArray × Int × Bool × Int × Int))} {w : World} (k0 : Nat) (h : kSchema.rd w.heap.size w cs (kSchema.mark k0 x)) (h0 : 1 ≤ k0) (h1 : k0 + kSchema.cnt x ≤ 16777216) :
    Calls Try.prog 12 #[.agg cs.toArray, .int .i64 (k0 : Int)] w fun e w' => e = .returned (.int .i64 ((k0 + kSchema.cnt x : Nat) : Int)) ∧ Below w.heap.size w w' := by
  obtain ⟨a, cap, hcs⟩ : ∃ a cap, cs = [.slice a (kTypeS.mark k0 x).length cap] := by obtain ⟨a, cap, _, e, _⟩ := h; exact ⟨a, cap, e⟩
  generalize (kTypeS.mark k0 x).length = ln at hcs
  subst hcs
  have HM := Lib.hid (held_TypeS k0 (kTypeS_ok.later h (w' := w.alloc (.cells #[.slice a ln cap] 28)) ((Below.refl _ _).alloc (Nat.le_refl _) _)) h0 h1)
  clear h
  go_enter Try.func12, Try.ntmps12
  go_wp2_with fail
  refine HM.out.mono ?_
  rintro e w1 ⟨rfl, hb1⟩
  have HB1 := Lib.hid (box_step (box_start w _) hb1); clear hb1
  have hneg : ¬ (((k0 + kTypeS.cnt x : Nat) : Int) < 0) := by omega
  go_wp2_with fail
  go_ret
  exact ⟨rfl, box_below HB1.out⟩


end Go.Proofs.Ytmlnecopbncdbaa
