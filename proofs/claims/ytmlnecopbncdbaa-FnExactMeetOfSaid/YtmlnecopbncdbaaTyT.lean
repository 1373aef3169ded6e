/- Whether a schema is good, its tree: the program's walks. -/
import Derived.Test.YtmlnecopbncdbaaTyR
namespace Go.Proofs.Ytmlnecopbncdbaa
set_option linter.unusedVariables false
set_option linter.unusedSimpArgs false
open Go.ChangeShapes Go.WideShapes Go.ChangeAt Go.RowKit
set_option maxRecDepth 100000

theorem goodT_eq (t : Tr) : goodT t = ((t.kind == 5) && (t.name.toList.isEmpty && ((t.no == 0) && (!t.must && (rightB t && (decide (deepT t ≤ 5) && decide (countT t ≤ 30))))))) := by
  rw [Bool.eq_iff_iff, goodT_iff]
  unfold GoodT HeadOK
  rw [isEm]
  simp only [Bool.and_eq_true, beq_iff_eq, decide_eq_true_eq, Bool.not_eq_true', rightB_iff, and_assoc]
set_option maxHeartbeats 4000000 in
theorem impl_good {S : Nat → Prop} {w : World} {t : Tr} {p : Value} (h : KP S w t p) (hl : countT t ≤ 1048576) : Calls Try.prog 69 #[p] w fun e w' => e = .returned (.bool (goodT t)) ∧ Below w.heap.size w w' := by
  have HRT := Lib.hid (impl_right _ w t p (Nat.le_refl _) h hl)
  have HDP := Lib.hid (fun wx (hb : Below w.heap.size w wx) => impl_deep _ wx t p (Nat.le_refl _) (h.keep (kept_below hb) (fun _ h _ => h)) hl)
  have HCT := Lib.hid (fun wx (hb : Below w.heap.size w wx) => impl_count _ wx t p (Nat.le_refl _) (h.keep (kept_below hb) (fun _ h _ => h)) hl)
  obtain ⟨b, a, c, vs, rfl, hS, hb, hc, -⟩ := h.open
  obtain ⟨x0, x1, x2, x3, x4, x5⟩ := box6 hc
  have hdc := deep_count t
  rw [goodT_eq]
  clear h hc
  cases h1 : (t.kind == 5) with
  | false =>
    rw [Bool.false_and]
    go_enter Try.func69, Try.ntmps69
    go_wp2_with fail
    go_ret
    exact ⟨rfl, Below.refl _ _⟩
  | true =>
  rw [Bool.true_and]
  cases h2 : t.name.toList.isEmpty with
  | false =>
    rw [Bool.false_and]
    go_enter Try.func69, Try.ntmps69
    go_wp2_with fail
    go_ret
    exact ⟨rfl, Below.refl _ _⟩
  | true =>
  rw [Bool.true_and]
  cases h3 : (t.no == 0) with
  | false =>
    rw [Bool.false_and]
    go_enter Try.func69, Try.ntmps69
    go_wp2_with fail
    go_ret
    exact ⟨rfl, Below.refl _ _⟩
  | true =>
  rw [Bool.true_and]
  cases h4 : t.must with
  | true =>
    rw [h4] at x3
    rw [Bool.not_true, Bool.false_and]
    go_enter Try.func69, Try.ntmps69
    go_wp2_with fail
    go_ret
    exact ⟨rfl, Below.refl _ _⟩
  | false =>
  rw [h4] at x3
  rw [Bool.not_false, Bool.true_and]
  generalize rightB t = R at *
  cases R with
  | false =>
    rw [Bool.false_and]
    go_enter Try.func69, Try.ntmps69
    go_wp2_with fail
    refine HRT.out.mono ?_
    rintro e w1 ⟨rfl, hb⟩
    have HB := Lib.hid hb
    clear hb
    go_wp2_with fail
    go_ret
    exact ⟨rfl, HB.out⟩
  | true =>
  rw [Bool.true_and]
  by_cases h5 : deepT t ≤ 5
  case neg =>
    have h5i : ¬ (deepT t : Int) ≤ 5 := by omega
    rw [decide_eq_false h5, Bool.false_and]
    go_enter Try.func69, Try.ntmps69
    go_wp2_with fail
    refine HRT.out.mono ?_
    rintro e w1 ⟨rfl, hb⟩
    have HB := Lib.hid hb
    clear hb
    go_wp2_with fail
    refine (HDP.out w1 HB.out).mono ?_
    rintro e w2 ⟨rfl, rfl⟩
    go_wp2_with fail
    go_ret
    exact ⟨rfl, HB.out⟩
  have h5i : (deepT t : Int) ≤ 5 := by omega
  rw [decide_eq_true h5, Bool.true_and]
  by_cases h6 : countT t ≤ 30
  case neg =>
    have h6i : ¬ (countT t : Int) ≤ 30 := by omega
    rw [decide_eq_false h6]
    go_enter Try.func69, Try.ntmps69
    go_wp2_with fail
    refine HRT.out.mono ?_
    rintro e w1 ⟨rfl, hb⟩
    have HB := Lib.hid hb
    clear hb
    go_wp2_with fail
    refine (HDP.out w1 HB.out).mono ?_
    rintro e w2 ⟨rfl, rfl⟩
    go_wp2_with fail
    refine (HCT.out w1 HB.out).mono ?_
    rintro e w2 ⟨rfl, rfl⟩
    go_wp2_with fail
    go_ret
    first | exact ⟨rfl, HB.out⟩ | exact ⟨ret_bool (decide_eq_false (by omega)), HB.out⟩
  have h6i : (countT t : Int) ≤ 30 := by omega
  rw [decide_eq_true h6]
  go_enter Try.func69, Try.ntmps69
  go_wp2_with fail
  refine HRT.out.mono ?_
  rintro e w1 ⟨rfl, hb⟩
  have HB := Lib.hid hb
  clear hb
  go_wp2_with fail
  refine (HDP.out w1 HB.out).mono ?_
  rintro e w2 ⟨rfl, rfl⟩
  go_wp2_with fail
  refine (HCT.out w1 HB.out).mono ?_
  rintro e w2 ⟨rfl, rfl⟩
  go_wp2_with fail
  go_ret
  first | exact ⟨rfl, HB.out⟩ | exact ⟨ret_bool (decide_eq_true (by omega)), HB.out⟩
set_option maxHeartbeats 1000000 in
theorem impl_good_nil (w : World) : Calls Try.prog 69 #[.pointer none] w fun e w' => e = .returned (.bool false) ∧ Below w.heap.size w w' := by
  go_enter Try.func69, Try.ntmps69
  go_wp2_with fail
  go_ret
  exact ⟨rfl, Below.refl _ _⟩
/-! ### the tree of a schema -/
/-- a schema in memory -/
structure Sch (B : Nat) (w : World) (L : List Ty) (a : Option Addr) (cap : Nat) : Prop where
  hc : L.length ≤ cap
  hcm : cap ≤ 9223372036854775807
  hl : L.length ≤ 1048576
  hnm : ∀ x ∈ L, x.name.size ≤ maxLen
  row : Rb B w a (tysV L)
  hB : B ≤ w.heap.size
theorem Sch.later {B : Nat} {w w' : World} {L : List Ty} {a : Option Addr} {cap : Nat} (h : Sch B w L a cap) (hb : Below B w w') : Sch B w' L a cap :=
  ⟨h.hc, h.hcm, h.hl, h.hnm, h.row.below hb, Nat.le_trans h.hB hb.size⟩
theorem Sch.keep {B : Nat} {w w' : World} {L : List Ty} {a : Option Addr} {cap : Nat} (h : Sch B w L a cap) (hb : Below w.heap.size w w') : Sch B w' L a cap := h.later (hb.mono h.hB)
theorem Sch.from {B : Nat} {w : World} {L : List Ty} {a : Option Addr} {cap : Nat} (h : Sch B w L a cap) {i : Nat} (hi : i < L.length) : Calls Try.prog 60 #[.slice a L.length cap, .int .i64 (i : Int)] w (FromOf L i w) :=
  impl_from B L a cap h.hc h.hcm h.hl h.hnm _ i w (Nat.le_refl _) hi h.row h.hB
/-- what the program's tree of a schema is -/
def KindO (L : List Ty) (w : World) (e : Ending) (w' : World) : Prop :=
  ∃ v, e = .returned v ∧ Below w.heap.size w w' ∧ ((goodL L = false ∧ v = .pointer none) ∨ (goodL L = true ∧ ∃ p, v = .pointer (some ⟨p, 0, none⟩) ∧ KP (fun b => w.heap.size ≤ b) w' (treeOf L 0) v))
theorem not_good {L : List Ty} (h : ¬ GoodL L) : goodL L = false := by rw [Bool.eq_false_iff, Ne, goodL_iff]; exact h
set_option maxHeartbeats 2000000 in
theorem impl_kindOf {B : Nat} {w : World} {L : List Ty} {a : Option Addr} {cap : Nat} (h : Sch B w L a cap) : Calls Try.prog 38 #[.agg #[.slice a L.length cap]] w (KindO L w) := by
  unfold KindO
  have hB0 := Below.alloc (Below.refl w.heap.size w) (Nat.le_refl _) (.cells #[.slice a L.length cap] 28)
  have hx : (w.alloc (.cells #[.slice a L.length cap] 28)).cell? ⟨w.heap.size, 0, none⟩ = some (.slice a L.length cap) := by simp
  have hwl : w.heap.size < (w.alloc (.cells #[.slice a L.length cap] 28)).heap.size := by simp
  generalize hw1 : w.alloc (.cells #[.slice a L.length cap] 28) = w1 at *
  have H1 := Lib.hid (h.keep hB0)
  have HB1 := Lib.hid hB0
  have HI := Lib.hid (fun wx => impl_within (L.length : Int) 1 30 wx)
  have hlm := h.hl
  clear hB0 h
  cases hr : inR (L.length : Int) 1 30 with
  | false =>
    have HN : Hid (goodL L = false) := Lib.hid (not_good (fun g => by
      have := g.1
      rw [Bool.eq_false_iff, Ne, inR_iff2] at hr
      omega))
    rw [hr] at HI
    clear hr
    go_enter Try.func38, Try.ntmps38
    go_wp2_with fail
    refine (HI.out _).mono ?_
    rintro e w2 ⟨rfl, rfl⟩
    go_wp2_with fail
    go_ret
    exact ⟨_, rfl, HB1.out, .inl ⟨HN.out, rfl⟩⟩
  | true =>
  obtain ⟨l1, l2⟩ := inR_iff2.1 hr
  rw [hr] at HI
  obtain ⟨x, hx0⟩ : ∃ x, L[0]? = some x := ⟨L[0], List.getElem?_eq_getElem (by omega)⟩
  obtain ⟨b, off, rfl, hbl, -, -, -, -, c4, -⟩ := tys_cells H1.out.row hx0
  rw [Nat.zero_mul, Nat.add_zero] at c4
  have l3 : 0 < L.length := by omega
  have l4 : (0 : Int) < (L.length : Int) := by omega
  clear hr l1
  by_cases hup : x.up = -1
  case neg =>
    have HN : Hid (goodL L = false) := Lib.hid (not_good (fun g => by
      obtain ⟨y, h0, hro, -⟩ := g.tree
      rw [hx0] at h0; cases h0
      exact hup hro.2.1))
    have hun : (x.up != -1) = true := bne_iff_ne.2 hup
    clear hup
    go_enter Try.func38, Try.ntmps38
    go_wp2_with fail
    refine (HI.out _).mono ?_
    rintro e w2 ⟨rfl, rfl⟩
    go_wp2_with fail
    go_ret
    exact ⟨_, rfl, HB1.out, .inl ⟨HN.out, rfl⟩⟩
  have HF := Lib.hid (H1.out.from l3)
  have HGT := Lib.hid (fun t e (hT : PTree L 0 t e) => good_tree hx0 hT)
  have HUP := Lib.hid hup
  rw [hup] at c4
  clear hup hx0
  go_enter Try.func38, Try.ntmps38
  go_wp2_with fail
  refine (HI.out _).mono ?_
  rintro e w2 ⟨rfl, rfl⟩
  go_wp2_with fail
  refine HF.out.mono ?_
  rintro e w2 ⟨pb, t, en, rfl, hen, hpt, hb2, hkp⟩
  have hb0 := below_later hb2 hx
  have HB2 := Lib.hid (HB1.out.trans (hb2.mono HB1.out.size))
  have HG := Lib.hid (HGT.out t en hpt)
  have HTR := Lib.hid hpt.of
  have HGD := Lib.hid (impl_good hkp (by have := hpt.count; omega))
  have HKP := Lib.hid hkp
  clear hb2 hpt hkp
  by_cases hne : en = L.length
  case neg =>
    have HN : Hid (goodL L = false) := Lib.hid (not_good (fun g => hne (HG.out.1 g).2.2.1))
    have hnn : ((en : Int) != (L.length : Int)) = true := bne_iff_ne.2 (by omega)
    go_wp2_with fail
    go_ret
    exact ⟨_, rfl, HB2.out, .inl ⟨HN.out, rfl⟩⟩
  subst hne
  cases hgt : goodT t with
  | false =>
    have HN : Hid (goodL L = false) := Lib.hid (not_good (fun g => by rw [goodT_iff.2 (HG.out.1 g).2.2.2] at hgt; cases hgt))
    rw [hgt] at HGD
    clear hgt
    go_wp2_with fail
    refine HGD.out.mono ?_
    rintro e w3 ⟨rfl, hb3⟩
    have HB3 := Lib.hid (HB2.out.trans (hb3.mono HB2.out.size))
    clear hb3
    go_wp2_with fail
    go_ret
    exact ⟨_, rfl, HB3.out, .inl ⟨HN.out, rfl⟩⟩
  | true =>
    have HY : Hid (goodL L = true) := Lib.hid (goodL_iff.2 (HG.out.2 ⟨by omega, HUP.out, rfl, goodT_iff.1 hgt⟩))
    rw [hgt] at HGD
    clear hgt
    go_wp2_with fail
    refine HGD.out.mono ?_
    rintro e w3 ⟨rfl, hb3⟩
    have HB3 := Lib.hid (HB2.out.trans (hb3.mono HB2.out.size))
    have HK3 := Lib.hid (HKP.out.keep (T := fun b => w.heap.size ≤ b) (kept_below hb3) (fun b hb _ => Nat.le_trans (Nat.le_of_lt hwl) hb))
    clear hb3
    go_wp2_with fail
    go_ret
    exact ⟨_, rfl, HB3.out, .inr ⟨HY.out, pb, rfl, by rw [HTR.out]; exact HK3.out⟩⟩
set_option maxHeartbeats 1000000 in
theorem impl_GoodSchema {B : Nat} {w : World} {L : List Ty} {a : Option Addr} {cap : Nat} (h : Sch B w L a cap) : Calls Try.prog 22 #[.agg #[.slice a L.length cap]] w fun e w' => e = .returned (.bool (goodL L)) ∧ Below w.heap.size w w' := by
  have hB0 := Below.alloc (Below.refl w.heap.size w) (Nat.le_refl _) (.cells #[.slice a L.length cap] 28)
  have hx : (w.alloc (.cells #[.slice a L.length cap] 28)).cell? ⟨w.heap.size, 0, none⟩ = some (.slice a L.length cap) := by simp
  have hwl : w.heap.size < (w.alloc (.cells #[.slice a L.length cap] 28)).heap.size := by simp
  generalize hw1 : w.alloc (.cells #[.slice a L.length cap] 28) = w1 at *
  have HB1 := Lib.hid hB0
  have HK := Lib.hid (impl_kindOf (h.keep hB0))
  clear hB0 h
  cases hg : goodL L
  all_goals
    go_enter Try.func22, Try.ntmps22
    go_wp2_with fail
    refine HK.out.mono ?_
    rintro e w2 ⟨v, rfl, hb2, ⟨hq, rfl⟩ | ⟨hq, pb, rfl, -⟩⟩
    · first
        | (rw [hg] at hq; cases hq; done)
        | (have HB2 := Lib.hid (HB1.out.trans (hb2.mono HB1.out.size))
           clear hb2
           go_wp2_with fail
           go_ret
           exact ⟨rfl, HB2.out⟩)
    · first
        | (rw [hg] at hq; cases hq; done)
        | (have HB2 := Lib.hid (HB1.out.trans (hb2.mono HB1.out.size))
           clear hb2
           go_wp2_with fail
           go_ret
           exact ⟨rfl, HB2.out⟩)
end Go.Proofs.Ytmlnecopbncdbaa
