/- When a type takes in another one: the reference's walk. -/
import Derived.Test.YtmlnecopbncdbaaTyX
import Derived.Test.YtmlnecopbncdbaaSu1
namespace Go.Proofs.Ytmlnecopbncdbaa
set_option linter.unusedVariables false
set_option linter.unusedSimpArgs false
open Go.ChangeShapes Go.WideShapes Go.ChangeAt Go.RowKit
set_option maxRecDepth 100000

/-- the part with a number, by value -/
def ByO (S : Nat → Prop) (t : Tr) (no : Int) (w : World) (e : Ending) (w' : World) : Prop :=
  ∃ cs b, e = .returned (.tuple #[.agg cs.toArray, .bool b]) ∧ Below w.heap.size w w' ∧ ((byNo t.kids no = none ∧ b = false ∧ cs = [.int .i64 0, .string { data := #[] }, .int .i64 0, .bool false, .int .i64 0, .slice none 0 0]) ∨ ∃ x, byNo t.kids no = some x ∧ b = true ∧ KS S w' x cs)
theorem byNo_take {us : List Tr} {i : Nat} {no : Int} {x : Tr} (hn : ∀ z ∈ us.take i, ¬ z.no = no) (hx : us[i]? = some x) (he : x.no = no) : byNo us no = some x := by
  obtain ⟨h1, rfl⟩ := List.getElem?_eq_some_iff.1 hx
  unfold byNo
  rw [List.find?_eq_some_iff_getElem]
  refine ⟨by simp [he], i, h1, rfl, fun j hj => ?_⟩
  have := hn us[j] (by rw [List.mem_take_iff_getElem]; exact ⟨j, by omega, rfl⟩)
  simpa using this
theorem byNo_none {us : List Tr} {no : Int} (hn : ∀ z ∈ us, ¬ z.no = no) : byNo us no = none := by
  unfold byNo
  rw [List.find?_eq_none]
  intro x hx
  simpa using hn x hx
theorem kept_set6 {S : Nat → Prop} {a b : World} (h : Kept S a b) {X : Nat} (hX : ¬ S X) (p0 p1 p2 p3 p4 p5 : Value) : Kept S a ((((((b.setCell ⟨X, 0, none⟩ p0).setCell ⟨X, 1, none⟩ p1).setCell ⟨X, 2, none⟩ p2).setCell ⟨X, 3, none⟩ p3).setCell ⟨X, 4, none⟩ p4).setCell ⟨X, 5, none⟩ p5) :=
  kept_set (kept_set (kept_set (kept_set (kept_set (kept_set h hX 0 p0) hX 1 p1) hX 2 p2) hX 3 p3) hX 4 p4) hX 5 p5
set_option maxHeartbeats 4000000 in
theorem spec_l2By {S : Nat → Prop} {w : World} {t : Tr} {cs : List Value} (h : KS S w t cs) (hl : t.kids.length ≤ 1048576) (no : Int) : Calls Try.prog 65 #[.agg cs.toArray, .int .i64 no] w (ByO S t no w) := by
  obtain ⟨a, c, vss, rfl, hnm, hkc, hcm, hrow, hks⟩ := h.open
  have hB1 := Below.alloc (Below.refl w.heap.size w) (Nat.le_refl _) (.cells #[.int .i64 t.kind, .string t.name, .int .i64 t.no, .bool t.must, .int .i64 t.most, .slice a t.kids.length c] 59)
  have hX1 := heap_alloc_new w (.cells #[.int .i64 t.kind, .string t.name, .int .i64 t.no, .bool t.must, .int .i64 t.most, .slice a t.kids.length c] 59)
  generalize hw1 : w.alloc (.cells #[.int .i64 t.kind, .string t.name, .int .i64 t.no, .bool t.must, .int .i64 t.most, .slice a t.kids.length c] 59) = w1 at *
  have l1 := hp_lt hX1
  have hB2 := hB1.alloc (Nat.le_of_lt l1) (.cells #[.int .i64 0, .string { data := #[] }, .int .i64 0, .bool false, .int .i64 0, .slice none 0 0] 59)
  have hX1 := hp_alloc (.cells #[.int .i64 0, .string { data := #[] }, .int .i64 0, .bool false, .int .i64 0, .slice none 0 0] 59) hX1
  have hX2 := heap_alloc_new w1 (.cells #[.int .i64 0, .string { data := #[] }, .int .i64 0, .bool false, .int .i64 0, .slice none 0 0] 59)
  generalize hw2 : w1.alloc (.cells #[.int .i64 0, .string { data := #[] }, .int .i64 0, .bool false, .int .i64 0, .slice none 0 0] 59) = w2 at *
  have l2 := hp_lt hX2
  have HB2 := Lib.hid hB2
  have HX2 := Lib.hid hX2
  have HRO := Lib.hid (hrow.keep (T := fun q => S q ∧ q < w.heap.size) (kept_below hB2) (fun _ h hl => ⟨h, hl⟩))
  have HKS := Lib.hid (KSs.keep (T := fun q => S q ∧ q < w.heap.size) (kept_below hB2) (fun _ h hl => ⟨h, hl⟩) _ _ hks)
  obtain ⟨x0, x1, x2, x3, x4, x5⟩ := box6 hX1
  unfold ByO
  clear hrow hks h hB1 hB2 hX1 hX2
  generalize t.kids = ks at *
  show Calls Try.prog 65 #[.agg #[.int .i64 t.kind, .string t.name, .int .i64 t.no, .bool t.must, .int .i64 t.most, .slice a ks.length c], _] w _
  go_enter Try.func65, Try.ntmps65
  go_wp2_with fail
  go_loopw [11] (fun iv wr => ∃ i : Nat, i ≤ ks.length ∧ iv = .int .i64 (i : Int) ∧ Hid (∀ z ∈ ks.take i, ¬ z.no = no) ∧ Hid (Below w2.heap.size w2 wr)) (fun iv _ => ks.length - (intOf iv).toNat)
  case atStart => exact ⟨0, by omega, rfl, Lib.hid (by simp), Lib.hid (Below.refl _ _)⟩
  case round =>
    obtain ⟨wo, rfl⟩ : ∃ z : World, z = wr := ⟨_, rfl⟩
    obtain ⟨i, hi, rfl, HN, HB⟩ := hrel
    have hzo := HB.out.size
    have HXo := Lib.hid (hp_later HB.out HX2.out)
    have HBo := Lib.hid (HB2.out.trans (HB.out.mono HB2.out.size))
    by_cases hil : i < ks.length
    case neg =>
      obtain rfl : i = ks.length := by omega
      have HNO := Lib.hid (byNo_none (us := ks) (no := no) (by have := HN.out; rwa [List.take_length] at this))
      have HBF := Lib.hid (below_set (below_set (below_set (below_set (below_set (below_set HBo.out (Nat.le_of_lt l1) 0 (.int .i64 0)) (Nat.le_of_lt l1) 1 (.string { data := #[] })) (Nat.le_of_lt l1) 2 (.int .i64 0)) (Nat.le_of_lt l1) 3 (.bool false)) (Nat.le_of_lt l1) 4 (.int .i64 0)) (Nat.le_of_lt l1) 5 (.slice none 0 0))
      obtain ⟨sa0, -, -, -, -, -⟩ := box6 HXo.out
      have sf0 := box6_z HXo.out 0
      have HSA := Lib.hid (box6_t0 HXo.out (.int .i64 0))
      generalize hsA : (wo).setCell ⟨w1.heap.size, 0, none⟩ (.int .i64 0) = wsA at *
      obtain ⟨-, sa1, -, -, -, -⟩ := box6 HSA.out
      have sf1 := box6_z HSA.out 1
      have HSB := Lib.hid (box6_t1 HSA.out (.string { data := #[] }))
      generalize hsB : wsA.setCell ⟨w1.heap.size, 1, none⟩ (.string { data := #[] }) = wsB at *
      obtain ⟨-, -, sa2, -, -, -⟩ := box6 HSB.out
      have sf2 := box6_z HSB.out 2
      have HSC := Lib.hid (box6_t2 HSB.out (.int .i64 0))
      generalize hsC : wsB.setCell ⟨w1.heap.size, 2, none⟩ (.int .i64 0) = wsC at *
      obtain ⟨-, -, -, sa3, -, -⟩ := box6 HSC.out
      have sf3 := box6_z HSC.out 3
      have HSD := Lib.hid (box6_t3 HSC.out (.bool false))
      generalize hsD : wsC.setCell ⟨w1.heap.size, 3, none⟩ (.bool false) = wsD at *
      obtain ⟨-, -, -, -, sa4, -⟩ := box6 HSD.out
      have sf4 := box6_z HSD.out 4
      have HSE := Lib.hid (box6_t4 HSD.out (.int .i64 0))
      generalize hsE : wsD.setCell ⟨w1.heap.size, 4, none⟩ (.int .i64 0) = wsE at *
      obtain ⟨-, -, -, -, -, sa5⟩ := box6 HSE.out
      have sf5 := box6_z HSE.out 5
      have HSF := Lib.hid (box6_t5 HSE.out (.slice none 0 0))
      generalize hsF : wsE.setCell ⟨w1.heap.size, 5, none⟩ (.slice none 0 0) = wsF at *
      obtain ⟨sg0, sg1, sg2, sg3, sg4, sg5⟩ := box6 HSF.out
      go_wp2_with fail
      refine bodyPost_ret (v := .tuple #[.agg #[.int .i64 0, .string { data := #[] }, .int .i64 0, .bool false, .int .i64 0, .slice none 0 0], .bool false]) (by simp [results, Try.results65, go_sem, sg0, sg1, sg2, sg3, sg4, sg5]) rfl ?_
      exact ⟨_, _, rfl, HBF.out, .inl ⟨HNO.out, rfl, rfl⟩⟩
    obtain ⟨x, hx⟩ : ∃ x, ks[i]? = some x := ⟨ks[i], List.getElem?_eq_getElem hil⟩
    obtain ⟨rb, off, va, ca, rfl, hrb, r0, r1, r2, r3, r4, r5, hkp, -⟩ := kss_at HRO.out HKS.out HB.out hx
    have hrbo : rb < wo.heap.size := by omega
    have HBN := Lib.hid (HB.out.alloc HB.out.size (.cells #[.int .i64 x.kind, .string x.name, .int .i64 x.no, .bool x.must, .int .i64 x.most, .slice va x.kids.length ca] 59))
    have HX := Lib.hid hx
    by_cases hno : x.no = no
    case neg =>
      have hq : (x.no == no) = false := beq_eq_false_iff_ne.2 hno
      have HN2 := Lib.hid (take_mem (P := fun z => ¬ z.no = no) HN.out hx hno)
      clear hx hkp hno
      go_wp2_with fail
      go_roundw
      case rel => exact ⟨i + 1, by omega, by go_num, HN2, HBN⟩
      case measure => (simp [intOf]; try omega)
    have hq : (x.no == no) = true := beq_iff_eq.2 hno
    have HYS := Lib.hid (byNo_take HN.out hx hno)
    have HBNW := Lib.hid (HB2.out.trans (HBN.out.mono HB2.out.size))
    have HXn := Lib.hid (hp_alloc (.cells #[.int .i64 x.kind, .string x.name, .int .i64 x.no, .bool x.must, .int .i64 x.most, .slice va x.kids.length ca] 59) HXo.out)
    have HNn := Lib.hid (heap_alloc_new wo (.cells #[.int .i64 x.kind, .string x.name, .int .i64 x.no, .bool x.must, .int .i64 x.most, .slice va x.kids.length ca] 59))
    have hXS : ¬ (S w1.heap.size ∧ w1.heap.size < w.heap.size) := fun q => by have := q.2; omega
    have HKN := Lib.hid (hkp.keep (T := S) (kept_set6 (kept_below HBN.out) (X := w1.heap.size) (S := fun q => S q ∧ q < w.heap.size) hXS (.int .i64 x.kind) (.string x.name) (.int .i64 x.no) (.bool x.must) (.int .i64 x.most) (.slice va x.kids.length ca)) (fun _ h _ => h.1))
    have hzn : wo.heap.size < (wo.alloc (.cells #[.int .i64 x.kind, .string x.name, .int .i64 x.no, .bool x.must, .int .i64 x.most, .slice va x.kids.length ca] 59)).heap.size := by simp
    generalize hwn : wo.alloc (.cells #[.int .i64 x.kind, .string x.name, .int .i64 x.no, .bool x.must, .int .i64 x.most, .slice va x.kids.length ca] 59) = wn at *
    obtain ⟨e0, e1, e2, e3, e4, e5⟩ := box6 HNn.out
    have HBF := Lib.hid (below_set (below_set (below_set (below_set (below_set (below_set HBNW.out (Nat.le_of_lt l1) 0 (.int .i64 x.kind)) (Nat.le_of_lt l1) 1 (.string x.name)) (Nat.le_of_lt l1) 2 (.int .i64 x.no)) (Nat.le_of_lt l1) 3 (.bool x.must)) (Nat.le_of_lt l1) 4 (.int .i64 x.most)) (Nat.le_of_lt l1) 5 (.slice va x.kids.length ca))
    clear hx hkp hno hXS
    obtain ⟨sa0, -, -, -, -, -⟩ := box6 HXn.out
    have sf0 := box6_z HXn.out 0
    have HSA := Lib.hid (box6_t0 HXn.out (.int .i64 x.kind))
    generalize hsA : (wn).setCell ⟨w1.heap.size, 0, none⟩ (.int .i64 x.kind) = wsA at *
    obtain ⟨-, sa1, -, -, -, -⟩ := box6 HSA.out
    have sf1 := box6_z HSA.out 1
    have HSB := Lib.hid (box6_t1 HSA.out (.string x.name))
    generalize hsB : wsA.setCell ⟨w1.heap.size, 1, none⟩ (.string x.name) = wsB at *
    obtain ⟨-, -, sa2, -, -, -⟩ := box6 HSB.out
    have sf2 := box6_z HSB.out 2
    have HSC := Lib.hid (box6_t2 HSB.out (.int .i64 x.no))
    generalize hsC : wsB.setCell ⟨w1.heap.size, 2, none⟩ (.int .i64 x.no) = wsC at *
    obtain ⟨-, -, -, sa3, -, -⟩ := box6 HSC.out
    have sf3 := box6_z HSC.out 3
    have HSD := Lib.hid (box6_t3 HSC.out (.bool x.must))
    generalize hsD : wsC.setCell ⟨w1.heap.size, 3, none⟩ (.bool x.must) = wsD at *
    obtain ⟨-, -, -, -, sa4, -⟩ := box6 HSD.out
    have sf4 := box6_z HSD.out 4
    have HSE := Lib.hid (box6_t4 HSD.out (.int .i64 x.most))
    generalize hsE : wsD.setCell ⟨w1.heap.size, 4, none⟩ (.int .i64 x.most) = wsE at *
    obtain ⟨-, -, -, -, -, sa5⟩ := box6 HSE.out
    have sf5 := box6_z HSE.out 5
    have HSF := Lib.hid (box6_t5 HSE.out (.slice va x.kids.length ca))
    generalize hsF : wsE.setCell ⟨w1.heap.size, 5, none⟩ (.slice va x.kids.length ca) = wsF at *
    obtain ⟨sg0, sg1, sg2, sg3, sg4, sg5⟩ := box6 HSF.out
    go_wp2_with fail
    refine bodyPost_ret (v := .tuple #[.agg #[.int .i64 x.kind, .string x.name, .int .i64 x.no, .bool x.must, .int .i64 x.most, .slice va x.kids.length ca], .bool true]) (by simp [results, Try.results65, go_sem, sg0, sg1, sg2, sg3, sg4, sg5]) rfl ?_
    exact ⟨_, _, rfl, HBF.out, .inr ⟨x, HYS.out, rfl, HKN.out⟩⟩
end Go.Proofs.Ytmlnecopbncdbaa
