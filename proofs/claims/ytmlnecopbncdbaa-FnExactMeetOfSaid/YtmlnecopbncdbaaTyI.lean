/- The draws of types: a type for a part. -/
import Derived.Test.YtmlnecopbncdbaaTyH
import Derived.Test.YtmlnecopbncdbaaCur2
namespace Go.Proofs.Ytmlnecopbncdbaa
set_option linter.unusedVariables false
set_option linter.unusedSimpArgs false
open Go.ChangeShapes Go.WideShapes Go.ChangeAt Go.RowKit
set_option maxRecDepth 100000

theorem PC.wrote {S : Nat → Prop} {w w' : World} {B K : Nat} (h : PC w B K) (hw : Wrote S w w') (hS : ∀ k, k ≤ B → ¬ S k) : PC w' B K := by
  have hl := h.lt
  obtain ⟨a, c, p, seed, cs, h1, h2, h3, h4, h5, h6, h7⟩ := h
  refine ⟨a, c, p, seed, cs, (hw.block B hl (hS B (Nat.le_refl _))).trans h1, h2, h3, h4, h5, h6, ?_⟩
  rcases h7 with h7 | ⟨b, off, ha, hb, hc⟩
  · exact .inl h7
  · exact .inr ⟨b, off, ha, hb, fun i u hi => (World.cell?_of_block (w := w) (a := ⟨b, off + i, none⟩) (hw.block b (by omega) (hS b (by omega)))).trans (hc i u hi)⟩
def costT : Nat → Nat
  | 0 => 4
  | d + 1 => 2 + 5 * (4 + costT d)
def numT : Nat → Nat
  | 0 => 1
  | d + 1 => 1 + 5 * numT d
theorem costT_pos (d : Nat) : 4 ≤ costT d := by cases d <;> simp [costT]; omega
theorem costT_ge : ∀ (d : Nat), d ≤ costT d
  | 0 => Nat.zero_le _
  | d + 1 => by have := costT_ge d; rw [costT]; omega
theorem numT_pos (d : Nat) : 1 ≤ numT d := by cases d <;> simp [numT]
/-- a type that was drawn -/
def TypO (B K N : Nat) (w : World) (e : Ending) (w' : World) : Prop :=
  ∃ t cs, e = .returned (.agg cs.toArray) ∧ KS (fun q => w.heap.size ≤ q) w' t cs ∧ WfT t ∧ countT t ≤ N ∧ PC w' B K ∧ Wrote (fun k => k = B) w w'
theorem ks_leaf (S : Nat → Prop) (w : World) (k mo : Int) : KS S w (.node k ⟨#[]⟩ 0 false mo []) [.int .i64 k, .string ⟨#[]⟩, .int .i64 0, .bool false, .int .i64 mo, .slice none 0 0] := by
  rw [KS]
  exact ⟨none, 0, [], rfl, Nat.zero_le _, by simp, by decide, .inl rfl, by rw [KSs]⟩
theorem wf_leaf (k mo : Int) : WfT (.node k ⟨#[]⟩ 0 false mo []) := by rw [WfT, WfL]; exact ⟨fun _ => rfl, trivial⟩
theorem count_leaf (k mo : Int) : countT (.node k ⟨#[]⟩ 0 false mo []) = 1 := by rw [countT, countL]
theorem wrote_new {S : Nat → Prop} {a b : World} (h : Wrote S a b) {X : Nat} (hX : a.heap.size ≤ X) (i : Nat) (u : Value) : Wrote S a (b.setCell ⟨X, i, none⟩ u) :=
  h.then (wrote_cell b X i u) (fun k hk e => by omega)
theorem wrote_new6 {S : Nat → Prop} {a b : World} (h : Wrote S a b) {X : Nat} (hX : a.heap.size ≤ X) (p0 p1 p2 p3 p4 p5 : Value) : Wrote S a ((((((b.setCell ⟨X, 0, none⟩ p0).setCell ⟨X, 1, none⟩ p1).setCell ⟨X, 2, none⟩ p2).setCell ⟨X, 3, none⟩ p3).setCell ⟨X, 4, none⟩ p4).setCell ⟨X, 5, none⟩ p5) :=
  wrote_new (wrote_new (wrote_new (wrote_new (wrote_new (wrote_new h hX 0 p0) hX 1 p1) hX 2 p2) hX 3 p3) hX 4 p4) hX 5 p5
theorem wrote_self6 (b : World) (X : Nat) (p0 p1 p2 p3 p4 p5 : Value) : Wrote (fun k => k = X) b ((((((b.setCell ⟨X, 0, none⟩ p0).setCell ⟨X, 1, none⟩ p1).setCell ⟨X, 2, none⟩ p2).setCell ⟨X, 3, none⟩ p3).setCell ⟨X, 4, none⟩ p4).setCell ⟨X, 5, none⟩ p5) :=
  (((((wrote_cell b X 0 p0).trans (wrote_cell _ X 1 p1)).trans (wrote_cell _ X 2 p2)).trans (wrote_cell _ X 3 p3)).trans (wrote_cell _ X 4 p4)).trans (wrote_cell _ X 5 p5)
set_option maxHeartbeats 4000000 in
theorem draw_typeOf_one (B K d : Nat) (w : World) (h : PC w B K) (hK : K + costT d ≤ 900000000000)
    (IHT : ∀ (d' : Nat) (wx : World) (K' : Nat), d = d' + 1 → PC wx B K' → K' + costT d' ≤ 900000000000 → Calls Try.prog 89 #[.pointer (some ⟨B, 0, none⟩), .int .i64 (d' : Int)] wx (TypO B (K' + costT d') (numT d') wx))
    (IHM : ∀ (d' : Nat) (wx : World) (K' : Nat), d = d' + 1 → PC wx B K' → K' + 5 * (4 + costT d') ≤ 900000000000 → Calls Try.prog 77 #[.pointer (some ⟨B, 0, none⟩), .int .i64 (d' : Int)] wx (TypO B (K' + 5 * (4 + costT d')) (1 + 5 * numT d') wx)) :
    Calls Try.prog 89 #[.pointer (some ⟨B, 0, none⟩), .int .i64 (d : Int)] w (TypO B (K + costT d) (numT d) w) := by
  have hd4 := costT_pos d
  have hBl := h.lt
  have hB1 := Below.alloc (Below.refl w.heap.size w) (Nat.le_refl _) (.cells #[.int .i64 0, .string { data := #[] }, .int .i64 0, .bool false, .int .i64 0, .slice none 0 0] 59)
  have hX1 := heap_alloc_new w (.cells #[.int .i64 0, .string { data := #[] }, .int .i64 0, .bool false, .int .i64 0, .slice none 0 0] 59)
  generalize hw1 : w.alloc (.cells #[.int .i64 0, .string { data := #[] }, .int .i64 0, .bool false, .int .i64 0, .slice none 0 0] 59) = w1 at *
  have l1 := hp_lt hX1
  have HX1 := Lib.hid hX1
  have HW1 := Lib.hid (Wrote.of_below (S := fun k => k = B) hB1)
  have HP6 := Lib.hid (cur_pick B K 6 w1 (h.later hB1) (by omega) (by omega))
  have HIT := Lib.hid IHT
  have HIM := Lib.hid IHM
  unfold TypO
  clear hB1 hX1 h IHT IHM
  obtain ⟨D, hD⟩ : ∃ D : Int, D = (d : Int) := ⟨_, rfl⟩
  rw [← hD]
  have hdb : d ≤ 900000000000 := by have := costT_ge d; omega
  have HD := Lib.hid hD
  clear hD
  go_enter Try.func89, Try.ntmps89
  go_wp2_with fail
  refine HP6.out.mono ?_
  rintro e w2 ⟨r, rfl, hr, hp, hw⟩
  have HPC := Lib.hid hp
  have HW2 := Lib.hid (HW1.out.trans hw)
  have HX2 := Lib.hid ((hw.block w.heap.size l1 (by omega)).trans HX1.out)
  have l2 : w.heap.size < w2.heap.size := by have := hw.size; omega
  clear hp hw
  have hr6 : r < 6 := by omega
  clear hr
  by_cases h01 : r = 0 ∨ r = 1
  · rcases h01 with rfl | rfl
    · skip
      have HWF := Lib.hid (wrote_new6 HW2.out (X := w.heap.size) (Nat.le_refl _) (.int .i64 (1)) (.string { data := #[] }) (.int .i64 0) (.bool false) (.int .i64 (0)) (.slice none 0 0))
      have HPF := Lib.hid (HPC.out.wrote (wrote_self6 w2 w.heap.size (.int .i64 (1)) (.string { data := #[] }) (.int .i64 0) (.bool false) (.int .i64 (0)) (.slice none 0 0)) (fun k hk => by omega))
      obtain ⟨sa0, -, -, -, -, -⟩ := box6 HX2.out
      have sf0 := box6_z HX2.out 0
      have HSA := Lib.hid (box6_t0 HX2.out (.int .i64 (1)))
      generalize hsA : (w2).setCell ⟨w.heap.size, 0, none⟩ (.int .i64 (1)) = wsA at *
      obtain ⟨-, sa1, -, -, -, -⟩ := box6 HSA.out
      have sf1 := box6_z HSA.out 1
      have HSB := Lib.hid (box6_t1 HSA.out (.string { data := #[] }))
      generalize hsB : wsA.setCell ⟨w.heap.size, 1, none⟩ (.string { data := #[] }) = wsB at *
      obtain ⟨-, -, sa2, -, -, -⟩ := box6 HSB.out
      have sf2 := box6_z HSB.out 2
      have HSC := Lib.hid (box6_t2 HSB.out (.int .i64 0))
      generalize hsC : wsB.setCell ⟨w.heap.size, 2, none⟩ (.int .i64 0) = wsC at *
      obtain ⟨-, -, -, sa3, -, -⟩ := box6 HSC.out
      have sf3 := box6_z HSC.out 3
      have HSD := Lib.hid (box6_t3 HSC.out (.bool false))
      generalize hsD : wsC.setCell ⟨w.heap.size, 3, none⟩ (.bool false) = wsD at *
      obtain ⟨-, -, -, -, sa4, -⟩ := box6 HSD.out
      have sf4 := box6_z HSD.out 4
      have HSE := Lib.hid (box6_t4 HSD.out (.int .i64 (0)))
      generalize hsE : wsD.setCell ⟨w.heap.size, 4, none⟩ (.int .i64 (0)) = wsE at *
      obtain ⟨-, -, -, -, -, sa5⟩ := box6 HSE.out
      have sf5 := box6_z HSE.out 5
      have HSF := Lib.hid (box6_t5 HSE.out (.slice none 0 0))
      generalize hsF : wsE.setCell ⟨w.heap.size, 5, none⟩ (.slice none 0 0) = wsF at *
      obtain ⟨sg0, sg1, sg2, sg3, sg4, sg5⟩ := box6 HSF.out
      go_wp2_with fail
      refine bodyPost_ret (v := .agg #[.int .i64 (1), .string { data := #[] }, .int .i64 0, .bool false, .int .i64 (0), .slice none 0 0]) (by simp [results, Try.results89, go_sem, sg0, sg1, sg2, sg3, sg4, sg5]) rfl ?_
      exact ⟨_, _, rfl, ks_leaf _ _ (1) (0), wf_leaf _ _, by rw [count_leaf]; exact numT_pos d, HPF.out.mono (by have := costT_pos d; omega), HWF.out⟩
    · skip
      have HWF := Lib.hid (wrote_new6 HW2.out (X := w.heap.size) (Nat.le_refl _) (.int .i64 (1)) (.string { data := #[] }) (.int .i64 0) (.bool false) (.int .i64 (0)) (.slice none 0 0))
      have HPF := Lib.hid (HPC.out.wrote (wrote_self6 w2 w.heap.size (.int .i64 (1)) (.string { data := #[] }) (.int .i64 0) (.bool false) (.int .i64 (0)) (.slice none 0 0)) (fun k hk => by omega))
      obtain ⟨sa0, -, -, -, -, -⟩ := box6 HX2.out
      have sf0 := box6_z HX2.out 0
      have HSA := Lib.hid (box6_t0 HX2.out (.int .i64 (1)))
      generalize hsA : (w2).setCell ⟨w.heap.size, 0, none⟩ (.int .i64 (1)) = wsA at *
      obtain ⟨-, sa1, -, -, -, -⟩ := box6 HSA.out
      have sf1 := box6_z HSA.out 1
      have HSB := Lib.hid (box6_t1 HSA.out (.string { data := #[] }))
      generalize hsB : wsA.setCell ⟨w.heap.size, 1, none⟩ (.string { data := #[] }) = wsB at *
      obtain ⟨-, -, sa2, -, -, -⟩ := box6 HSB.out
      have sf2 := box6_z HSB.out 2
      have HSC := Lib.hid (box6_t2 HSB.out (.int .i64 0))
      generalize hsC : wsB.setCell ⟨w.heap.size, 2, none⟩ (.int .i64 0) = wsC at *
      obtain ⟨-, -, -, sa3, -, -⟩ := box6 HSC.out
      have sf3 := box6_z HSC.out 3
      have HSD := Lib.hid (box6_t3 HSC.out (.bool false))
      generalize hsD : wsC.setCell ⟨w.heap.size, 3, none⟩ (.bool false) = wsD at *
      obtain ⟨-, -, -, -, sa4, -⟩ := box6 HSD.out
      have sf4 := box6_z HSD.out 4
      have HSE := Lib.hid (box6_t4 HSD.out (.int .i64 (0)))
      generalize hsE : wsD.setCell ⟨w.heap.size, 4, none⟩ (.int .i64 (0)) = wsE at *
      obtain ⟨-, -, -, -, -, sa5⟩ := box6 HSE.out
      have sf5 := box6_z HSE.out 5
      have HSF := Lib.hid (box6_t5 HSE.out (.slice none 0 0))
      generalize hsF : wsE.setCell ⟨w.heap.size, 5, none⟩ (.slice none 0 0) = wsF at *
      obtain ⟨sg0, sg1, sg2, sg3, sg4, sg5⟩ := box6 HSF.out
      go_wp2_with fail
      refine bodyPost_ret (v := .agg #[.int .i64 (1), .string { data := #[] }, .int .i64 0, .bool false, .int .i64 (0), .slice none 0 0]) (by simp [results, Try.results89, go_sem, sg0, sg1, sg2, sg3, sg4, sg5]) rfl ?_
      exact ⟨_, _, rfl, ks_leaf _ _ (1) (0), wf_leaf _ _, by rw [count_leaf]; exact numT_pos d, HPF.out.mono (by have := costT_pos d; omega), HWF.out⟩
  by_cases h2 : r = 2
  · subst h2
    have HWF := Lib.hid (wrote_new6 HW2.out (X := w.heap.size) (Nat.le_refl _) (.int .i64 (2)) (.string { data := #[] }) (.int .i64 0) (.bool false) (.int .i64 (0)) (.slice none 0 0))
    have HPF := Lib.hid (HPC.out.wrote (wrote_self6 w2 w.heap.size (.int .i64 (2)) (.string { data := #[] }) (.int .i64 0) (.bool false) (.int .i64 (0)) (.slice none 0 0)) (fun k hk => by omega))
    obtain ⟨sa0, -, -, -, -, -⟩ := box6 HX2.out
    have sf0 := box6_z HX2.out 0
    have HSA := Lib.hid (box6_t0 HX2.out (.int .i64 (2)))
    generalize hsA : (w2).setCell ⟨w.heap.size, 0, none⟩ (.int .i64 (2)) = wsA at *
    obtain ⟨-, sa1, -, -, -, -⟩ := box6 HSA.out
    have sf1 := box6_z HSA.out 1
    have HSB := Lib.hid (box6_t1 HSA.out (.string { data := #[] }))
    generalize hsB : wsA.setCell ⟨w.heap.size, 1, none⟩ (.string { data := #[] }) = wsB at *
    obtain ⟨-, -, sa2, -, -, -⟩ := box6 HSB.out
    have sf2 := box6_z HSB.out 2
    have HSC := Lib.hid (box6_t2 HSB.out (.int .i64 0))
    generalize hsC : wsB.setCell ⟨w.heap.size, 2, none⟩ (.int .i64 0) = wsC at *
    obtain ⟨-, -, -, sa3, -, -⟩ := box6 HSC.out
    have sf3 := box6_z HSC.out 3
    have HSD := Lib.hid (box6_t3 HSC.out (.bool false))
    generalize hsD : wsC.setCell ⟨w.heap.size, 3, none⟩ (.bool false) = wsD at *
    obtain ⟨-, -, -, -, sa4, -⟩ := box6 HSD.out
    have sf4 := box6_z HSD.out 4
    have HSE := Lib.hid (box6_t4 HSD.out (.int .i64 (0)))
    generalize hsE : wsD.setCell ⟨w.heap.size, 4, none⟩ (.int .i64 (0)) = wsE at *
    obtain ⟨-, -, -, -, -, sa5⟩ := box6 HSE.out
    have sf5 := box6_z HSE.out 5
    have HSF := Lib.hid (box6_t5 HSE.out (.slice none 0 0))
    generalize hsF : wsE.setCell ⟨w.heap.size, 5, none⟩ (.slice none 0 0) = wsF at *
    obtain ⟨sg0, sg1, sg2, sg3, sg4, sg5⟩ := box6 HSF.out
    go_wp2_with fail
    refine bodyPost_ret (v := .agg #[.int .i64 (2), .string { data := #[] }, .int .i64 0, .bool false, .int .i64 (0), .slice none 0 0]) (by simp [results, Try.results89, go_sem, sg0, sg1, sg2, sg3, sg4, sg5]) rfl ?_
    exact ⟨_, _, rfl, ks_leaf _ _ (2) (0), wf_leaf _ _, by rw [count_leaf]; exact numT_pos d, HPF.out.mono (by have := costT_pos d; omega), HWF.out⟩
  by_cases h3 : r = 3
  · subst h3
    have HP5 := Lib.hid (cur_pick B (K + 2) 5 w2 HPC.out (by omega) (by omega))
    go_wp2_with fail
    refine HP5.out.mono ?_
    rintro e w3 ⟨m, rfl, hm, hp, hw⟩
    have HPC3 := Lib.hid hp
    have HW3 := Lib.hid (HW2.out.trans hw)
    have HX3 := Lib.hid ((hw.block w.heap.size l2 (by omega)).trans HX2.out)
    clear hp hw hm
    have HWF := Lib.hid (wrote_new6 HW3.out (X := w.heap.size) (Nat.le_refl _) (.int .i64 (3)) (.string { data := #[] }) (.int .i64 0) (.bool false) (.int .i64 ((m : Int))) (.slice none 0 0))
    have HPF := Lib.hid (HPC3.out.wrote (wrote_self6 w3 w.heap.size (.int .i64 (3)) (.string { data := #[] }) (.int .i64 0) (.bool false) (.int .i64 ((m : Int))) (.slice none 0 0)) (fun k hk => by omega))
    obtain ⟨sa0, -, -, -, -, -⟩ := box6 HX3.out
    have sf0 := box6_z HX3.out 0
    have HSA := Lib.hid (box6_t0 HX3.out (.int .i64 (3)))
    generalize hsA : (w3).setCell ⟨w.heap.size, 0, none⟩ (.int .i64 (3)) = wsA at *
    obtain ⟨-, sa1, -, -, -, -⟩ := box6 HSA.out
    have sf1 := box6_z HSA.out 1
    have HSB := Lib.hid (box6_t1 HSA.out (.string { data := #[] }))
    generalize hsB : wsA.setCell ⟨w.heap.size, 1, none⟩ (.string { data := #[] }) = wsB at *
    obtain ⟨-, -, sa2, -, -, -⟩ := box6 HSB.out
    have sf2 := box6_z HSB.out 2
    have HSC := Lib.hid (box6_t2 HSB.out (.int .i64 0))
    generalize hsC : wsB.setCell ⟨w.heap.size, 2, none⟩ (.int .i64 0) = wsC at *
    obtain ⟨-, -, -, sa3, -, -⟩ := box6 HSC.out
    have sf3 := box6_z HSC.out 3
    have HSD := Lib.hid (box6_t3 HSC.out (.bool false))
    generalize hsD : wsC.setCell ⟨w.heap.size, 3, none⟩ (.bool false) = wsD at *
    obtain ⟨-, -, -, -, sa4, -⟩ := box6 HSD.out
    have sf4 := box6_z HSD.out 4
    have HSE := Lib.hid (box6_t4 HSD.out (.int .i64 ((m : Int))))
    generalize hsE : wsD.setCell ⟨w.heap.size, 4, none⟩ (.int .i64 ((m : Int))) = wsE at *
    obtain ⟨-, -, -, -, -, sa5⟩ := box6 HSE.out
    have sf5 := box6_z HSE.out 5
    have HSF := Lib.hid (box6_t5 HSE.out (.slice none 0 0))
    generalize hsF : wsE.setCell ⟨w.heap.size, 5, none⟩ (.slice none 0 0) = wsF at *
    obtain ⟨sg0, sg1, sg2, sg3, sg4, sg5⟩ := box6 HSF.out
    go_wp2_with fail
    refine bodyPost_ret (v := .agg #[.int .i64 (3), .string { data := #[] }, .int .i64 0, .bool false, .int .i64 ((m : Int)), .slice none 0 0]) (by simp [results, Try.results89, go_sem, sg0, sg1, sg2, sg3, sg4, sg5]) rfl ?_
    exact ⟨_, _, rfl, ks_leaf _ _ (3) ((m : Int)), wf_leaf _ _, by rw [count_leaf]; exact numT_pos d, HPF.out.mono (by have := costT_pos d; omega), HWF.out⟩
  by_cases h4 : r = 4
  · subst h4
    by_cases hd0 : D > 0
    case neg =>
      have hd1 : ¬ 0 < D := hd0
      have HWF := Lib.hid (wrote_new6 HW2.out (X := w.heap.size) (Nat.le_refl _) (.int .i64 (1)) (.string { data := #[] }) (.int .i64 0) (.bool false) (.int .i64 (0)) (.slice none 0 0))
      have HPF := Lib.hid (HPC.out.wrote (wrote_self6 w2 w.heap.size (.int .i64 (1)) (.string { data := #[] }) (.int .i64 0) (.bool false) (.int .i64 (0)) (.slice none 0 0)) (fun k hk => by omega))
      obtain ⟨sa0, -, -, -, -, -⟩ := box6 HX2.out
      have sf0 := box6_z HX2.out 0
      have HSA := Lib.hid (box6_t0 HX2.out (.int .i64 (1)))
      generalize hsA : (w2).setCell ⟨w.heap.size, 0, none⟩ (.int .i64 (1)) = wsA at *
      obtain ⟨-, sa1, -, -, -, -⟩ := box6 HSA.out
      have sf1 := box6_z HSA.out 1
      have HSB := Lib.hid (box6_t1 HSA.out (.string { data := #[] }))
      generalize hsB : wsA.setCell ⟨w.heap.size, 1, none⟩ (.string { data := #[] }) = wsB at *
      obtain ⟨-, -, sa2, -, -, -⟩ := box6 HSB.out
      have sf2 := box6_z HSB.out 2
      have HSC := Lib.hid (box6_t2 HSB.out (.int .i64 0))
      generalize hsC : wsB.setCell ⟨w.heap.size, 2, none⟩ (.int .i64 0) = wsC at *
      obtain ⟨-, -, -, sa3, -, -⟩ := box6 HSC.out
      have sf3 := box6_z HSC.out 3
      have HSD := Lib.hid (box6_t3 HSC.out (.bool false))
      generalize hsD : wsC.setCell ⟨w.heap.size, 3, none⟩ (.bool false) = wsD at *
      obtain ⟨-, -, -, -, sa4, -⟩ := box6 HSD.out
      have sf4 := box6_z HSD.out 4
      have HSE := Lib.hid (box6_t4 HSD.out (.int .i64 (0)))
      generalize hsE : wsD.setCell ⟨w.heap.size, 4, none⟩ (.int .i64 (0)) = wsE at *
      obtain ⟨-, -, -, -, -, sa5⟩ := box6 HSE.out
      have sf5 := box6_z HSE.out 5
      have HSF := Lib.hid (box6_t5 HSE.out (.slice none 0 0))
      generalize hsF : wsE.setCell ⟨w.heap.size, 5, none⟩ (.slice none 0 0) = wsF at *
      obtain ⟨sg0, sg1, sg2, sg3, sg4, sg5⟩ := box6 HSF.out
      go_wp2_with fail
      refine bodyPost_ret (v := .agg #[.int .i64 (1), .string { data := #[] }, .int .i64 0, .bool false, .int .i64 (0), .slice none 0 0]) (by simp [results, Try.results89, go_sem, sg0, sg1, sg2, sg3, sg4, sg5]) rfl ?_
      exact ⟨_, _, rfl, ks_leaf _ _ (1) (0), wf_leaf _ _, by rw [count_leaf]; exact numT_pos d, HPF.out.mono (by have := costT_pos d; omega), HWF.out⟩
    have hd1 : 0 < D := hd0
    obtain ⟨d, rfl⟩ : ∃ d', d = d' + 1 := ⟨d - 1, by have := HD.out; omega⟩
    have hdd : IntKind.i64.wrap (D - 1) = (d : Int) := by have := HD.out; rw [IntWalk.i64_in _ (by omega)]; omega
    have HC := Lib.hid (HIT.out d w2 (K + 2) rfl HPC.out (by simp only [costT] at hK; omega))
    unfold TypO at HC
    go_wp2_with fail
    refine HC.out.mono ?_
    rintro e w3 ⟨t, cs, rfl, hks, hwf, hct, hp, hw⟩
    obtain ⟨qa, qc, qss, rfl, hqn, hqk, hqc, -⟩ := hks.open
    have HPC3 := Lib.hid hp
    have HW3 := Lib.hid (HW2.out.trans hw)
    have HX3 := Lib.hid ((hw.block w.heap.size l2 (by omega)).trans HX2.out)
    have HKS3 := Lib.hid hks
    have l3 : w2.heap.size ≤ w3.heap.size := hw.size
    have HWF3 := Lib.hid hwf
    have hB4 := Below.alloc (Below.refl w3.heap.size w3) (Nat.le_refl _) (.cells #[.int .i64 t.kind, .string t.name, .int .i64 t.no, .bool t.must, .int .i64 t.most, .slice qa t.kids.length qc] 59)
    have hX4 := heap_alloc_new w3 (.cells #[.int .i64 t.kind, .string t.name, .int .i64 t.no, .bool t.must, .int .i64 t.most, .slice qa t.kids.length qc] 59)
    clear hp hw hks hwf
    generalize hw4 : w3.alloc (.cells #[.int .i64 t.kind, .string t.name, .int .i64 t.no, .bool t.must, .int .i64 t.most, .slice qa t.kids.length qc] 59) = w4 at *
    have l4 := hp_lt hX4
    have HX4 := Lib.hid (hp_later hB4 HX3.out)
    have HP4 := Lib.hid (HPC3.out.later hB4)
    have HKR : Hid (KS (fun q => w.heap.size ≤ q) ((((((w4.setCell ⟨w.heap.size, 0, none⟩ (.int .i64 4)).setCell ⟨w.heap.size, 1, none⟩ (.string { data := #[] })).setCell ⟨w.heap.size, 2, none⟩ (.int .i64 0)).setCell ⟨w.heap.size, 3, none⟩ (.bool false)).setCell ⟨w.heap.size, 4, none⟩ (.int .i64 0)).setCell ⟨w.heap.size, 5, none⟩ (.slice (some ⟨w3.heap.size, 0, none⟩) 1 1)) (.node 4 ⟨#[]⟩ 0 false 0 [t]) [.int .i64 4, .string ⟨#[]⟩, .int .i64 0, .bool false, .int .i64 0, .slice (some ⟨w3.heap.size, 0, none⟩) 1 1]) := Lib.hid (by
      have hkp : Kept (fun q => w2.heap.size ≤ q) w4 ((((((w4.setCell ⟨w.heap.size, 0, none⟩ (.int .i64 4)).setCell ⟨w.heap.size, 1, none⟩ (.string { data := #[] })).setCell ⟨w.heap.size, 2, none⟩ (.int .i64 0)).setCell ⟨w.heap.size, 3, none⟩ (.bool false)).setCell ⟨w.heap.size, 4, none⟩ (.int .i64 0)).setCell ⟨w.heap.size, 5, none⟩ (.slice (some ⟨w3.heap.size, 0, none⟩) 1 1)) :=
        (wrote_self6 w4 w.heap.size (.int .i64 4) (.string { data := #[] }) (.int .i64 0) (.bool false) (.int .i64 0) (.slice (some ⟨w3.heap.size, 0, none⟩) 1 1)).kept (fun k hk e => by omega)
      rw [KS]
      refine ⟨some ⟨w3.heap.size, 0, none⟩, 1, [[.int .i64 t.kind, .string t.name, .int .i64 t.no, .bool t.must, .int .i64 t.most, .slice qa t.kids.length qc]], rfl, Nat.zero_le _, by simp, by decide, RS.keep (S := fun q => w2.heap.size ≤ q) (.inr ⟨w3.heap.size, 0, rfl, l3, l4, fun i u hi => ?_⟩) hkp (fun q hq _ => by omega), ?_⟩
      · simp only [List.flatten_cons, List.flatten_nil, List.append_nil] at hi
        rw [Nat.zero_add]
        simp only [World.cell?, hX4]
        simpa using hi
      · rw [KSs]
        refine ⟨_, [], rfl, ?_, by rw [KSs]⟩
        exact ((HKS3.out.keep (T := fun q => w2.heap.size ≤ q) (kept_below hB4) (fun q hq _ => hq))).keep hkp (fun q hq _ => by omega))
    have HWF := Lib.hid (wrote_new6 (HW3.out.trans (Wrote.of_below (S := fun k => k = B) hB4)) (X := w.heap.size) (Nat.le_refl _) (.int .i64 4) (.string { data := #[] }) (.int .i64 0) (.bool false) (.int .i64 0) (.slice (some ⟨w3.heap.size, 0, none⟩) 1 1))
    have HPF := Lib.hid (HP4.out.wrote (wrote_self6 w4 w.heap.size (.int .i64 4) (.string { data := #[] }) (.int .i64 0) (.bool false) (.int .i64 0) (.slice (some ⟨w3.heap.size, 0, none⟩) 1 1)) (fun k hk => by omega))
    clear hB4 hX4
    obtain ⟨sa0, -, -, -, -, -⟩ := box6 HX4.out
    have sf0 := box6_z HX4.out 0
    have HSA := Lib.hid (box6_t0 HX4.out (.int .i64 4))
    generalize hsA : (w4).setCell ⟨w.heap.size, 0, none⟩ (.int .i64 4) = wsA at *
    obtain ⟨-, sa1, -, -, -, -⟩ := box6 HSA.out
    have sf1 := box6_z HSA.out 1
    have HSB := Lib.hid (box6_t1 HSA.out (.string { data := #[] }))
    generalize hsB : wsA.setCell ⟨w.heap.size, 1, none⟩ (.string { data := #[] }) = wsB at *
    obtain ⟨-, -, sa2, -, -, -⟩ := box6 HSB.out
    have sf2 := box6_z HSB.out 2
    have HSC := Lib.hid (box6_t2 HSB.out (.int .i64 0))
    generalize hsC : wsB.setCell ⟨w.heap.size, 2, none⟩ (.int .i64 0) = wsC at *
    obtain ⟨-, -, -, sa3, -, -⟩ := box6 HSC.out
    have sf3 := box6_z HSC.out 3
    have HSD := Lib.hid (box6_t3 HSC.out (.bool false))
    generalize hsD : wsC.setCell ⟨w.heap.size, 3, none⟩ (.bool false) = wsD at *
    obtain ⟨-, -, -, -, sa4, -⟩ := box6 HSD.out
    have sf4 := box6_z HSD.out 4
    have HSE := Lib.hid (box6_t4 HSD.out (.int .i64 0))
    generalize hsE : wsD.setCell ⟨w.heap.size, 4, none⟩ (.int .i64 0) = wsE at *
    obtain ⟨-, -, -, -, -, sa5⟩ := box6 HSE.out
    have sf5 := box6_z HSE.out 5
    have HSF := Lib.hid (box6_t5 HSE.out (.slice (some ⟨w3.heap.size, 0, none⟩) 1 1))
    generalize hsF : wsE.setCell ⟨w.heap.size, 5, none⟩ (.slice (some ⟨w3.heap.size, 0, none⟩) 1 1) = wsF at *
    obtain ⟨sg0, sg1, sg2, sg3, sg4, sg5⟩ := box6 HSF.out
    go_wp2_with fail
    refine bodyPost_ret (v := .agg #[.int .i64 4, .string { data := #[] }, .int .i64 0, .bool false, .int .i64 0, .slice (some ⟨w3.heap.size, 0, none⟩) 1 1]) (by simp [results, Try.results89, go_sem, sg0, sg1, sg2, sg3, sg4, sg5]) rfl ?_
    exact ⟨_, _, rfl, HKR.out, by rw [WfT, WfL, WfL]; exact ⟨(fun h => by cases h), HWF3.out, trivial⟩, by rw [countT, countL, countL, numT]; have := numT_pos d; omega, HPF.out.mono (by rw [costT]; omega), HWF.out⟩
  have h5 : r = 5 := by omega
  subst h5
  by_cases hd0 : D > 0
  case neg =>
    have hd1 : ¬ 0 < D := hd0
    have HWF := Lib.hid (wrote_new6 HW2.out (X := w.heap.size) (Nat.le_refl _) (.int .i64 (1)) (.string { data := #[] }) (.int .i64 0) (.bool false) (.int .i64 (0)) (.slice none 0 0))
    have HPF := Lib.hid (HPC.out.wrote (wrote_self6 w2 w.heap.size (.int .i64 (1)) (.string { data := #[] }) (.int .i64 0) (.bool false) (.int .i64 (0)) (.slice none 0 0)) (fun k hk => by omega))
    obtain ⟨sa0, -, -, -, -, -⟩ := box6 HX2.out
    have sf0 := box6_z HX2.out 0
    have HSA := Lib.hid (box6_t0 HX2.out (.int .i64 (1)))
    generalize hsA : (w2).setCell ⟨w.heap.size, 0, none⟩ (.int .i64 (1)) = wsA at *
    obtain ⟨-, sa1, -, -, -, -⟩ := box6 HSA.out
    have sf1 := box6_z HSA.out 1
    have HSB := Lib.hid (box6_t1 HSA.out (.string { data := #[] }))
    generalize hsB : wsA.setCell ⟨w.heap.size, 1, none⟩ (.string { data := #[] }) = wsB at *
    obtain ⟨-, -, sa2, -, -, -⟩ := box6 HSB.out
    have sf2 := box6_z HSB.out 2
    have HSC := Lib.hid (box6_t2 HSB.out (.int .i64 0))
    generalize hsC : wsB.setCell ⟨w.heap.size, 2, none⟩ (.int .i64 0) = wsC at *
    obtain ⟨-, -, -, sa3, -, -⟩ := box6 HSC.out
    have sf3 := box6_z HSC.out 3
    have HSD := Lib.hid (box6_t3 HSC.out (.bool false))
    generalize hsD : wsC.setCell ⟨w.heap.size, 3, none⟩ (.bool false) = wsD at *
    obtain ⟨-, -, -, -, sa4, -⟩ := box6 HSD.out
    have sf4 := box6_z HSD.out 4
    have HSE := Lib.hid (box6_t4 HSD.out (.int .i64 (0)))
    generalize hsE : wsD.setCell ⟨w.heap.size, 4, none⟩ (.int .i64 (0)) = wsE at *
    obtain ⟨-, -, -, -, -, sa5⟩ := box6 HSE.out
    have sf5 := box6_z HSE.out 5
    have HSF := Lib.hid (box6_t5 HSE.out (.slice none 0 0))
    generalize hsF : wsE.setCell ⟨w.heap.size, 5, none⟩ (.slice none 0 0) = wsF at *
    obtain ⟨sg0, sg1, sg2, sg3, sg4, sg5⟩ := box6 HSF.out
    go_wp2_with fail
    refine bodyPost_ret (v := .agg #[.int .i64 (1), .string { data := #[] }, .int .i64 0, .bool false, .int .i64 (0), .slice none 0 0]) (by simp [results, Try.results89, go_sem, sg0, sg1, sg2, sg3, sg4, sg5]) rfl ?_
    exact ⟨_, _, rfl, ks_leaf _ _ (1) (0), wf_leaf _ _, by rw [count_leaf]; exact numT_pos d, HPF.out.mono (by have := costT_pos d; omega), HWF.out⟩
  have hd1 : 0 < D := hd0
  obtain ⟨d, rfl⟩ : ∃ d', d = d' + 1 := ⟨d - 1, by have := HD.out; omega⟩
  have hdd : IntKind.i64.wrap (D - 1) = (d : Int) := by have := HD.out; rw [IntWalk.i64_in _ (by omega)]; omega
  have HC := Lib.hid (HIM.out d w2 (K + 2) rfl HPC.out (by simp only [costT] at hK; omega))
  unfold TypO at HC
  go_wp2_with fail
  refine HC.out.mono ?_
  rintro e w3 ⟨t, cs, rfl, hks, hwf, hct, hp, hw⟩
  obtain ⟨qa, qc, qss, rfl, hqn, hqk, hqc, -⟩ := hks.open
  have HPC3 := Lib.hid hp
  have HW3 := Lib.hid (HW2.out.trans hw)
  have HX3 := Lib.hid ((hw.block w.heap.size l2 (by omega)).trans HX2.out)
  have HKS3 := Lib.hid hks
  have l3 : w2.heap.size ≤ w3.heap.size := hw.size
  have HWF3 := Lib.hid hwf
  clear hp hw hks hwf
  have HKR : Hid (KS (fun q => w.heap.size ≤ q) ((((((w3.setCell ⟨w.heap.size, 0, none⟩ (.int .i64 t.kind)).setCell ⟨w.heap.size, 1, none⟩ (.string t.name)).setCell ⟨w.heap.size, 2, none⟩ (.int .i64 t.no)).setCell ⟨w.heap.size, 3, none⟩ (.bool t.must)).setCell ⟨w.heap.size, 4, none⟩ (.int .i64 t.most)).setCell ⟨w.heap.size, 5, none⟩ (.slice qa t.kids.length qc)) t [.int .i64 t.kind, .string t.name, .int .i64 t.no, .bool t.must, .int .i64 t.most, .slice qa t.kids.length qc]) := Lib.hid (by
    refine HKS3.out.keep ((wrote_self6 w3 w.heap.size (.int .i64 t.kind) (.string t.name) (.int .i64 t.no) (.bool t.must) (.int .i64 t.most) (.slice qa t.kids.length qc)).kept (fun k hk e => by omega)) (fun q hq _ => by omega))
  have HWF := Lib.hid (wrote_new6 HW3.out (X := w.heap.size) (Nat.le_refl _) (.int .i64 t.kind) (.string t.name) (.int .i64 t.no) (.bool t.must) (.int .i64 t.most) (.slice qa t.kids.length qc))
  have HPF := Lib.hid (HPC3.out.wrote (wrote_self6 w3 w.heap.size (.int .i64 t.kind) (.string t.name) (.int .i64 t.no) (.bool t.must) (.int .i64 t.most) (.slice qa t.kids.length qc)) (fun k hk => by omega))
  obtain ⟨sa0, -, -, -, -, -⟩ := box6 HX3.out
  have sf0 := box6_z HX3.out 0
  have HSA := Lib.hid (box6_t0 HX3.out (.int .i64 t.kind))
  generalize hsA : (w3).setCell ⟨w.heap.size, 0, none⟩ (.int .i64 t.kind) = wsA at *
  obtain ⟨-, sa1, -, -, -, -⟩ := box6 HSA.out
  have sf1 := box6_z HSA.out 1
  have HSB := Lib.hid (box6_t1 HSA.out (.string t.name))
  generalize hsB : wsA.setCell ⟨w.heap.size, 1, none⟩ (.string t.name) = wsB at *
  obtain ⟨-, -, sa2, -, -, -⟩ := box6 HSB.out
  have sf2 := box6_z HSB.out 2
  have HSC := Lib.hid (box6_t2 HSB.out (.int .i64 t.no))
  generalize hsC : wsB.setCell ⟨w.heap.size, 2, none⟩ (.int .i64 t.no) = wsC at *
  obtain ⟨-, -, -, sa3, -, -⟩ := box6 HSC.out
  have sf3 := box6_z HSC.out 3
  have HSD := Lib.hid (box6_t3 HSC.out (.bool t.must))
  generalize hsD : wsC.setCell ⟨w.heap.size, 3, none⟩ (.bool t.must) = wsD at *
  obtain ⟨-, -, -, -, sa4, -⟩ := box6 HSD.out
  have sf4 := box6_z HSD.out 4
  have HSE := Lib.hid (box6_t4 HSD.out (.int .i64 t.most))
  generalize hsE : wsD.setCell ⟨w.heap.size, 4, none⟩ (.int .i64 t.most) = wsE at *
  obtain ⟨-, -, -, -, -, sa5⟩ := box6 HSE.out
  have sf5 := box6_z HSE.out 5
  have HSF := Lib.hid (box6_t5 HSE.out (.slice qa t.kids.length qc))
  generalize hsF : wsE.setCell ⟨w.heap.size, 5, none⟩ (.slice qa t.kids.length qc) = wsF at *
  obtain ⟨sg0, sg1, sg2, sg3, sg4, sg5⟩ := box6 HSF.out
  go_wp2_with fail
  refine bodyPost_ret (v := .agg #[.int .i64 t.kind, .string t.name, .int .i64 t.no, .bool t.must, .int .i64 t.most, .slice qa t.kids.length qc]) (by simp [results, Try.results89, go_sem, sg0, sg1, sg2, sg3, sg4, sg5]) rfl ?_
  exact ⟨_, _, rfl, HKR.out, HWF3.out, by rw [numT]; exact hct, HPF.out.mono (by rw [costT]; omega), HWF.out⟩
end Go.Proofs.Ytmlnecopbncdbaa
