/- What both of two types tell: the reference, where the kinds differ. -/
import Derived.Test.YtmlnecopbncdbaaMtR
namespace Go.Proofs.Ytmlnecopbncdbaa
set_option linter.unusedVariables false
set_option linter.unusedSimpArgs false
open Go.ChangeShapes Go.WideShapes Go.ChangeAt Go.RowKit
set_option maxRecDepth 100000

theorem below_set6 {n : Nat} {a b : World} (h : Below n a b) {X : Nat} (hX : n ≤ X) (p0 p1 p2 p3 p4 p5 : Value) : Below n a (set6 b X p0 p1 p2 p3 p4 p5) :=
  below_set (below_set (below_set (below_set (below_set (below_set h hX 0 p0) hX 1 p1) hX 2 p2) hX 3 p3) hX 4 p4) hX 5 p5
theorem ks_set6 {S T : Nat → Prop} {w8 : World} {t : Tr} {cs : List Value} (h : KS S w8 t cs) {X : Nat} (hX : ¬ S X) (hT : ∀ q, S q → T q) (p0 p1 p2 p3 p4 p5 : Value) : KS T (set6 w8 X p0 p1 p2 p3 p4 p5) t cs :=
  KS.keep (kept_set6 (Kept.refl S w8) hX p0 p1 p2 p3 p4 p5) (fun q h _ => hT q h) _ _ h
theorem ks_new6 {S T : Nat → Prop} {w8 : World} {t : Tr} {cs : List Value} (h : KS S w8 t cs) (o : Obj) (hT : ∀ q, S q → T q) (p0 p1 p2 p3 p4 p5 : Value) : KS T (set6 (w8.alloc o) w8.heap.size p0 p1 p2 p3 p4 p5) t cs := by
  have h1 : KS (fun q => S q ∧ q < w8.heap.size) w8 t cs := KS.keep (Kept.refl S w8) (fun q h hl => ⟨h, hl⟩) _ _ h
  exact KS.keep (kept_set6 (kept_alloc (Kept.refl (fun q => S q ∧ q < w8.heap.size) w8) o) (X := w8.heap.size) (fun q => by have := q.2; omega) p0 p1 p2 p3 p4 p5) (fun q h _ => hT q h.1) _ _ h1
theorem ks_one {S : Nat → Prop} {n X6 X4 : Nat} {w8 : World} {z : Tr} {kk : Int} {nn : ByteArray} {oo : Int} {mm : Bool} {pp : Int} {sa : Option Addr} {sn sc : Nat} (h : KS (mrS S n X6 X4) w8 z [.int .i64 kk, .string nn, .int .i64 oo, .bool mm, .int .i64 pp, .slice sa sn sc]) (hn : n ≤ w8.heap.size) (h6 : X6 < w8.heap.size) (h4 : X4 < w8.heap.size) (h6n : n ≤ X6) (h4n : n ≤ X4) (k : Int) (nm : ByteArray) (no : Int) (m : Bool) (mo : Int) (hnm : nm.size ≤ maxLen) (T8 : TypeId) :
    KS (fun q => S q ∨ n ≤ q) (set6 ((w8.alloc (.cells #[.int .i64 kk, .string nn, .int .i64 oo, .bool mm, .int .i64 pp, .slice sa sn sc] T8)).setCell ⟨X6, 5, none⟩ (.slice (some ⟨w8.heap.size, 0, none⟩) 1 1)) X4 (.int .i64 k) (.string nm) (.int .i64 no) (.bool m) (.int .i64 mo) (.slice (some ⟨w8.heap.size, 0, none⟩) 1 1)) (.node k nm no m mo [z]) [.int .i64 k, .string nm, .int .i64 no, .bool m, .int .i64 mo, .slice (some ⟨w8.heap.size, 0, none⟩) 1 1] := by
  have hX := heap_alloc_new w8 (.cells #[.int .i64 kk, .string nn, .int .i64 oo, .bool mm, .int .i64 pp, .slice sa sn sc] T8)
  have hsz : (w8.alloc (.cells #[.int .i64 kk, .string nn, .int .i64 oo, .bool mm, .int .i64 pp, .slice sa sn sc] T8)).heap.size = w8.heap.size + 1 := by simp
  have hk8 := kept_alloc (Kept.refl (mrS S n X6 X4) w8) (.cells #[.int .i64 kk, .string nn, .int .i64 oo, .bool mm, .int .i64 pp, .slice sa sn sc] T8)
  have hkA := kept_set6 (kept_set hk8 (mrS_X h6n) 5 (.slice (some ⟨w8.heap.size, 0, none⟩) 1 1)) (X := X4) (mrS_Y h4n) (.int .i64 k) (.string nm) (.int .i64 no) (.bool m) (.int .i64 mo) (.slice (some ⟨w8.heap.size, 0, none⟩) 1 1)
  have hkB := kept_set6 (kept_set (Kept.refl (fun q => q = w8.heap.size) (w8.alloc (.cells #[.int .i64 kk, .string nn, .int .i64 oo, .bool mm, .int .i64 pp, .slice sa sn sc] T8))) (X := X6) (by omega) 5 (.slice (some ⟨w8.heap.size, 0, none⟩) 1 1)) (X := X4) (by omega) (.int .i64 k) (.string nm) (.int .i64 no) (.bool m) (.int .i64 mo) (.slice (some ⟨w8.heap.size, 0, none⟩) 1 1)
  unfold set6
  rw [KS]
  refine ⟨some ⟨w8.heap.size, 0, none⟩, 1, [[.int .i64 kk, .string nn, .int .i64 oo, .bool mm, .int .i64 pp, .slice sa sn sc]], rfl, hnm, by simp, by decide, RS.keep (S := fun q => q = w8.heap.size) (.inr ⟨w8.heap.size, 0, rfl, rfl, by omega, fun i u hi => ?_⟩) hkB (fun q hq _ => .inr (by omega)), ?_⟩
  · simp only [List.flatten_cons, List.flatten_nil, List.append_nil] at hi
    rw [Nat.zero_add]
    simp only [World.cell?, hX]
    simpa using hi
  · rw [KSs]
    refine ⟨_, [], rfl, KS.keep hkA (fun q hq _ => ?_) _ _ h, by rw [KSs]⟩
    rcases hq with ⟨h1, _⟩ | ⟨h1, _⟩
    · exact .inl h1
    · exact .inr h1
/-- what the reference tells of both -/
def MeetV (S : Nat → Prop) (a b : Tr) (w : World) (e : Ending) (w' : World) : Prop :=
  ∃ (kk : Int) (nn : ByteArray) (oo : Int) (mm : Bool) (pp : Int) (sa : Option Addr) (sn sc : Nat) (ok : Bool), e = .returned (.tuple #[.agg #[.int .i64 kk, .string nn, .int .i64 oo, .bool mm, .int .i64 pp, .slice sa sn sc], .bool ok]) ∧ Below w.heap.size w w' ∧ ((meetT a b = none ∧ ok = false) ∨ (∃ t, meetT a b = some t ∧ ok = true ∧ KS (fun q => S q ∨ w.heap.size ≤ q) w' t [.int .i64 kk, .string nn, .int .i64 oo, .bool mm, .int .i64 pp, .slice sa sn sc]))
set_option maxHeartbeats 4000000 in
theorem meet_ne {w : World} (k k' : Int) (nm nm' : ByteArray) (no no' : Int) (m m' : Bool) (mo mo' : Int) (ks us : List Tr) (va vb : Option Addr) (ca cb : Nat) (hk : ¬ k = k') : Calls Try.prog 34 #[.agg #[.int .i64 k, .string nm, .int .i64 no, .bool m, .int .i64 mo, .slice va ks.length ca], .agg #[.int .i64 k', .string nm', .int .i64 no', .bool m', .int .i64 mo', .slice vb us.length cb]] w fun e w' => e = .returned (.tuple #[.agg #[.int .i64 0, .string { data := #[] }, .int .i64 0, .bool false, .int .i64 0, .slice none 0 0], .bool false]) ∧ Below w.heap.size w w' := by
  have nk : (k != k') = true := bne_iff_ne.2 hk
  clear hk
  have hB1 := Below.alloc (Below.refl w.heap.size w) (Nat.le_refl _) (.cells #[.int .i64 k, .string nm, .int .i64 no, .bool m, .int .i64 mo, .slice va ks.length ca] 59)
  have hX1 := heap_alloc_new w (.cells #[.int .i64 k, .string nm, .int .i64 no, .bool m, .int .i64 mo, .slice va ks.length ca] 59)
  generalize hw1 : w.alloc (.cells #[.int .i64 k, .string nm, .int .i64 no, .bool m, .int .i64 mo, .slice va ks.length ca] 59) = w1 at *
  have l1 := hp_lt hX1
  have hB2 := hB1.alloc (Nat.le_of_lt l1) (.cells #[.int .i64 k', .string nm', .int .i64 no', .bool m', .int .i64 mo', .slice vb us.length cb] 59)
  have hX1 := hp_alloc (.cells #[.int .i64 k', .string nm', .int .i64 no', .bool m', .int .i64 mo', .slice vb us.length cb] 59) hX1
  have hX2 := heap_alloc_new w1 (.cells #[.int .i64 k', .string nm', .int .i64 no', .bool m', .int .i64 mo', .slice vb us.length cb] 59)
  generalize hw2 : w1.alloc (.cells #[.int .i64 k', .string nm', .int .i64 no', .bool m', .int .i64 mo', .slice vb us.length cb] 59) = w2 at *
  have l2 := hp_lt hX2
  have hB3 := hB2.alloc (by omega) (.cells #[.int .i64 0, .string { data := #[] }, .int .i64 0, .bool false, .int .i64 0, .slice none 0 0] 59)
  have hX1 := hp_alloc (.cells #[.int .i64 0, .string { data := #[] }, .int .i64 0, .bool false, .int .i64 0, .slice none 0 0] 59) hX1
  have hX2 := hp_alloc (.cells #[.int .i64 0, .string { data := #[] }, .int .i64 0, .bool false, .int .i64 0, .slice none 0 0] 59) hX2
  have hX3 := heap_alloc_new w2 (.cells #[.int .i64 0, .string { data := #[] }, .int .i64 0, .bool false, .int .i64 0, .slice none 0 0] 59)
  generalize hw3 : w2.alloc (.cells #[.int .i64 0, .string { data := #[] }, .int .i64 0, .bool false, .int .i64 0, .slice none 0 0] 59) = w3 at *
  have l3 := hp_lt hX3
  have HB3 := Lib.hid hB3
  have HX1 := Lib.hid hX1
  have HX2 := Lib.hid hX2
  have HX3 := Lib.hid hX3
  obtain ⟨a0, a1, a2, a3, a4, a5⟩ := box6 hX1
  obtain ⟨b0, b1, b2, b3, b4, b5⟩ := box6 hX2
  clear hB1 hB2 hB3 hX1 hX2 hX3
  have HBF := Lib.hid (below_set (below_set (below_set (below_set (below_set (below_set HB3.out (show w.heap.size ≤ w2.heap.size by omega) 0 (.int .i64 0)) (show w.heap.size ≤ w2.heap.size by omega) 1 (.string { data := #[] })) (show w.heap.size ≤ w2.heap.size by omega) 2 (.int .i64 0)) (show w.heap.size ≤ w2.heap.size by omega) 3 (.bool false)) (show w.heap.size ≤ w2.heap.size by omega) 4 (.int .i64 0)) (show w.heap.size ≤ w2.heap.size by omega) 5 (.slice none 0 0))
  obtain ⟨sa0, -, -, -, -, -⟩ := box6 HX3.out
  have sf0 := box6_z HX3.out 0
  have HSA := Lib.hid (box6_t0 HX3.out (.int .i64 0))
  generalize hsA : (w3).setCell ⟨w2.heap.size, 0, none⟩ (.int .i64 0) = wsA at *
  obtain ⟨-, sa1, -, -, -, -⟩ := box6 HSA.out
  have sf1 := box6_z HSA.out 1
  have HSB := Lib.hid (box6_t1 HSA.out (.string { data := #[] }))
  generalize hsB : wsA.setCell ⟨w2.heap.size, 1, none⟩ (.string { data := #[] }) = wsB at *
  obtain ⟨-, -, sa2, -, -, -⟩ := box6 HSB.out
  have sf2 := box6_z HSB.out 2
  have HSC := Lib.hid (box6_t2 HSB.out (.int .i64 0))
  generalize hsC : wsB.setCell ⟨w2.heap.size, 2, none⟩ (.int .i64 0) = wsC at *
  obtain ⟨-, -, -, sa3, -, -⟩ := box6 HSC.out
  have sf3 := box6_z HSC.out 3
  have HSD := Lib.hid (box6_t3 HSC.out (.bool false))
  generalize hsD : wsC.setCell ⟨w2.heap.size, 3, none⟩ (.bool false) = wsD at *
  obtain ⟨-, -, -, -, sa4, -⟩ := box6 HSD.out
  have sf4 := box6_z HSD.out 4
  have HSE := Lib.hid (box6_t4 HSD.out (.int .i64 0))
  generalize hsE : wsD.setCell ⟨w2.heap.size, 4, none⟩ (.int .i64 0) = wsE at *
  obtain ⟨-, -, -, -, -, sa5⟩ := box6 HSE.out
  have sf5 := box6_z HSE.out 5
  have HSF := Lib.hid (box6_t5 HSE.out (.slice none 0 0))
  generalize hsF : wsE.setCell ⟨w2.heap.size, 5, none⟩ (.slice none 0 0) = wsF at *
  obtain ⟨sg0, sg1, sg2, sg3, sg4, sg5⟩ := box6 HSF.out
  go_enter Try.func34, Try.ntmps34
  go_wp2_with fail
  refine bodyPost_ret (v := .tuple #[.agg #[.int .i64 0, .string { data := #[] }, .int .i64 0, .bool false, .int .i64 0, .slice none 0 0], .bool false]) (by simp [results, Try.results34, go_sem, sg0, sg1, sg2, sg3, sg4, sg5]) rfl ?_
  exact ⟨rfl, HBF.out⟩
end Go.Proofs.Ytmlnecopbncdbaa
