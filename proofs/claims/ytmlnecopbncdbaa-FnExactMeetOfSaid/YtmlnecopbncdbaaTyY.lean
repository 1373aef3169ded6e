/- Whether a schema is good: the reference's walk. -/
import Derived.Test.YtmlnecopbncdbaaTyX
namespace Go.Proofs.Ytmlnecopbncdbaa
set_option linter.unusedVariables false
set_option linter.unusedSimpArgs false
open Go.ChangeShapes Go.WideShapes Go.ChangeAt Go.RowKit
set_option maxRecDepth 100000

theorem rowAt_iff {L : List Ty} {i : Nat} {x : Ty} (hx : L[i]? = some x) : RowAt L i ↔ KindOK x ∧ (i = 0 → RootOK x) ∧ (0 < i → PartAt L i x) := by
  constructor
  · intro h; exact h x hx
  · intro h y hy
    rw [hx] at hy; cases hy; exact h
theorem row_up {L : List Ty} {q : Nat} {y : Ty} (h : RowAt L q) (hy : L[q]? = some y) : -1 ≤ y.up ∧ y.up < (q : Int) := by
  obtain ⟨_, h1, h2⟩ := (rowAt_iff hy).1 h
  by_cases hq : q = 0
  · have := (h1 hq).2.1; omega
  · obtain ⟨j, z, g1, g2, _⟩ := h2 (by omega)
    omega
noncomputable def partAtB (L : List Ty) (i : Nat) (x : Ty) : Bool := @decide (PartAt L i x) (Classical.propDecidable _)
theorem partAtB_iff {L : List Ty} {i : Nat} {x : Ty} : partAtB L i x = true ↔ PartAt L i x := by unfold partAtB; exact @decide_eq_true_iff _ (Classical.propDecidable _)
set_option maxHeartbeats 8000000 in
theorem spec_GoodSchema {B : Nat} {w : World} {L : List Ty} {a : Option Addr} {cap : Nat} (h : Sch B w L a cap) : Calls Try.prog 23 #[.agg #[.slice a L.length cap]] w fun e w' => e = .returned (.bool (goodL L)) ∧ Below w.heap.size w w' := by
  have hB1 := Below.alloc (Below.refl w.heap.size w) (Nat.le_refl _) (.cells #[.slice a L.length cap] 28)
  have hX1 := heap_alloc_new w (.cells #[.slice a L.length cap] 28)
  have v1 : (w.alloc (.cells #[.slice a L.length cap] 28)).cell? ⟨w.heap.size, 0, none⟩ = some (.slice a L.length cap) := by simp
  generalize hw1 : w.alloc (.cells #[.slice a L.length cap] 28) = w1 at *
  have l1 := hp_lt hX1
  have HB1 := Lib.hid hB1
  have HX1 := Lib.hid hX1
  have HS1 := Lib.hid (h.keep hB1)
  have hlm := h.hl
  have hcm := h.hcm
  have hlc := h.hc
  have hBw := h.hB
  have HI30 := Lib.hid (fun wx => spec_in (L.length : Int) 1 30 wx)
  have HG : Hid (GoodL L ↔ goodL L = true) := Lib.hid goodL_iff.symm
  generalize hR : goodL L = R at *
  have HRF : Hid (¬ GoodL L → R = false) := Lib.hid (fun q => by rw [Bool.eq_false_iff]; exact fun e => q (HG.out.2 e))
  clear hB1 hX1 h hR
  cases hr : inR (L.length : Int) 1 30 with
  | false =>
    obtain rfl : R = false := HRF.out (fun g => by
      have := g.1
      rw [Bool.eq_false_iff, Ne, inR_iff2] at hr
      omega)
    rw [hr] at HI30
    go_enter Try.func23, Try.ntmps23
    go_wp2_with fail
    refine (HI30.out _).mono ?_
    rintro e w' ⟨rfl, rfl⟩
    go_wp2_with fail
    go_ret
    exact ⟨rfl, HB1.out⟩
  | true =>
  obtain ⟨m1, m2⟩ := inR_iff2.1 hr
  rw [hr] at HI30
  clear hr
  go_enter Try.func23, Try.ntmps23
  go_wp2_with fail
  refine (HI30.out _).mono ?_
  rintro e w' ⟨rfl, rfl⟩
  go_wp2_with fail
  go_loopw [15] (fun iv wr => ∃ i : Nat, i ≤ L.length ∧ iv = .int .i64 (i : Int) ∧ Hid (Below w1.heap.size w1 wr) ∧ Hid (∀ q, q < i → RowAt L q)) (fun iv _ => L.length - (intOf iv).toNat)
  case atStart => exact ⟨0, by omega, rfl, Lib.hid (Below.refl _ _), Lib.hid (fun q hq => by omega)⟩
  case round =>
    obtain ⟨wo, rfl⟩ : ∃ z : World, z = wr := ⟨_, rfl⟩
    obtain ⟨i, hi, rfl, HB, HQ⟩ := hrel
    have s1 := below_later HB.out v1
    have hzo := HB.out.size
    by_cases hil : i < L.length
    case neg =>
      obtain rfl : i = L.length := by omega
      have HALL : Hid (∀ q, RowAt L q) := Lib.hid (fun q => by
        by_cases hq : q < L.length
        · exact HQ.out q hq
        · intro y hy; rw [List.getElem?_eq_none (by omega)] at hy; cases hy)
      have HB0 := Lib.hid HB.out
      have HBW0 := Lib.hid (HB1.out.trans (HB.out.mono HB1.out.size))
      have HS0 := Lib.hid (HS1.out.keep HB.out)
      clear HQ HB
      go_wp2_with fail
      go_loopw [85] (fun iv wr => ∃ i : Nat, i ≤ L.length ∧ iv = .int .i64 (i : Int) ∧ Hid (Below wo.heap.size wo wr) ∧ Hid (∀ q, q < i → OneAt L q)) (fun iv _ => L.length - (intOf iv).toNat)
      case atStart => exact ⟨0, by omega, rfl, Lib.hid (Below.refl _ _), Lib.hid (fun q hq => by omega)⟩
      case round =>
        obtain ⟨wp, rfl⟩ : ∃ z : World, z = wr := ⟨_, rfl⟩
        obtain ⟨i, hi, rfl, HB, HQ⟩ := hrel
        have s2 := below_later HB.out s1
        have hzp := HB.out.size
        by_cases hil : i < L.length
        case neg =>
          obtain rfl : i = L.length := by omega
          have HONE : Hid (∀ q, OneAt L q) := Lib.hid (fun q => by
            by_cases hq : q < L.length
            · exact HQ.out q hq
            · intro y hy; rw [List.getElem?_eq_none (by omega)] at hy; cases hy)
          have hone := rows_one ⟨HALL.out, HONE.out⟩ (by omega)
          have HTR := Lib.hid (spec_l2Tree hone _ 0 wp (Nat.le_refl _) (by omega) (HS0.out.keep HB.out))
          have HCT : Hid (countT (treeOf L 0) ≤ 1048576) := Lib.hid (by
            have := (hone.kids (k := 0) (List.getElem?_eq_getElem (by omega))).2
            omega)
          have HRD : Hid (R = decide (deepT (treeOf L 0) ≤ 5)) := Lib.hid (by
            rw [Bool.eq_iff_iff, ← HG.out, decide_eq_true_iff]
            exact ⟨fun g => g.2.2, fun g => ⟨⟨by omega, by omega⟩, ⟨HALL.out, HONE.out⟩, g⟩⟩)
          clear hone
          go_wp2_with fail
          refine HTR.out.mono ?_
          rintro e w5 ⟨cs, rfl, hb5, hks⟩
          have HDP := Lib.hid (spec_l2Deep _ w5 _ cs (Nat.le_refl _) hks HCT.out)
          have HB5 := Lib.hid (HBW0.out.trans ((HB.out.trans (hb5.mono HB.out.size)).mono HBW0.out.size))
          clear hb5 hks
          go_wp2_with fail
          refine HDP.out.mono ?_
          rintro e w6 ⟨rfl, hb6⟩
          have HB6 := Lib.hid (HB5.out.trans (hb6.mono HB5.out.size))
          clear hb6
          go_wp2_with fail
          go_ret
          exact ⟨ret_bool (by rw [HRD.out]; exact decide_eq_decide.2 (by omega)), HB6.out⟩
        obtain ⟨x, hx⟩ : ∃ x, L[i]? = some x := ⟨L[i], List.getElem?_eq_getElem hil⟩
        obtain ⟨b, off, rfl, hbl, d0, d1, d2, d3, d4, d5⟩ := tys_cells (HS0.out.keep HB.out).row hx
        have hbo : b < wp.heap.size := by omega
        have HX := Lib.hid hx
        obtain ⟨kd, nm, no, mu, up, mo⟩ := x
        simp only at d0 d1 d2 d3 d4 d5
        have HBN := Lib.hid (HB.out.alloc HB.out.size (.cells #[.int .i64 kd, .string nm, .int .i64 no, .bool mu, .int .i64 up, .int .i64 mo] 85))
        have HBW := Lib.hid (HBW0.out.trans (HBN.out.mono HBW0.out.size))
        have HSN := Lib.hid (HS0.out.keep HBN.out)
        have HNR : Hid (¬ OneAt L i → R = false) := Lib.hid (fun q => HRF.out (fun g => q (g.2.1.2 i)))
        have hx1o : w.heap.size < wp.heap.size := by omega
        have HKI := Lib.hid (spec_l2Kids HSN.out i hil)
        have HQ2 : Hid (OneAt L i → ∀ q, q < i + 1 → OneAt L q) := Lib.hid (fun hok q hq => by
          by_cases e : q = i
          · rw [e]; exact hok
          · exact HQ.out q (by omega))
        clear hx
        by_cases h4 : kd = 4
        case neg =>
          have n4 : (kd == 4) = false := beq_eq_false_iff_ne.2 h4
          have HN := Lib.hid (HQ2.out (fun y hy h => by rw [HX.out] at hy; cases hy; exact absurd h h4))
          clear h4
          go_wp2_with fail
          go_roundw
          case rel => exact ⟨i + 1, by omega, by go_num, HBN, HN⟩
          case measure => (simp [intOf]; try omega)
        subst h4
        have HLN := Lib.hid (kidsI_kidsH (L := L) (p := i) (s := i + 1) L.length)
        by_cases hkn : (kidsI L i (i + 1) L.length).length = 1
        case neg =>
          obtain rfl : R = false := HNR.out (fun q => hkn (by rw [HLN.out]; exact q _ HX.out rfl))
          have hk1 : (((kidsI L i (i + 1) L.length).length : Int) != 1) = true := bne_iff_ne.2 (by omega)
          have hkl := kidsI_len (L := L) (k := i) (s := i + 1) L.length
          unfold KidsO at HKI
          clear hkn
          generalize kidsI L i (i + 1) L.length = KL at *
          go_wp2_with fail
          refine HKI.out.mono ?_
          rintro e w5 ⟨v, rfl, hown, hb5⟩
          obtain ⟨ka, kc, rfl⟩ := form_of_own hown
          have HB5 := Lib.hid (HBW.out.trans (hb5.mono HBW.out.size))
          clear hown hb5
          go_wp2_with fail
          go_ret
          exact ⟨rfl, HB5.out⟩
        have HN := Lib.hid (HQ2.out (fun y hy h => by rw [← kidsI_kidsH]; exact hkn))
        have hk1 : (((kidsI L i (i + 1) L.length).length : Int) != 1) = false := by rw [hkn]; rfl
        unfold KidsO at HKI
        clear hkn
        generalize kidsI L i (i + 1) L.length = KL at *
        go_wp2_with fail
        refine HKI.out.mono ?_
        rintro e w5 ⟨v, rfl, hown, hb5⟩
        obtain ⟨ka, kc, rfl⟩ := form_of_own hown
        have HB5 := Lib.hid (HBN.out.trans (hb5.mono HBN.out.size))
        clear hown hb5
        go_wp2_with fail
        go_roundw
        case rel => exact ⟨i + 1, by omega, by go_num, HB5, HN⟩
        case measure => (simp [intOf]; try omega)
    obtain ⟨x, hx⟩ : ∃ x, L[i]? = some x := ⟨L[i], List.getElem?_eq_getElem hil⟩
    obtain ⟨b, off, rfl, hbl, d0, d1, d2, d3, d4, d5⟩ := tys_cells (HS1.out.keep HB.out).row hx
    have hbo : b < wo.heap.size := by omega
    have HX := Lib.hid hx
    obtain ⟨kd, nm, no, mu, up, mo⟩ := x
    simp only at d0 d1 d2 d3 d4 d5
    have HBN := Lib.hid (HB.out.alloc HB.out.size (.cells #[.int .i64 kd, .string nm, .int .i64 no, .bool mu, .int .i64 up, .int .i64 mo] 85))
    have HBW := Lib.hid (HB1.out.trans (HBN.out.mono HB1.out.size))
    have HSN := Lib.hid (HS1.out.keep HBN.out)
    have HNR : Hid (¬ RowAt L i → R = false) := Lib.hid (fun q => HRF.out (fun g => q (g.2.1.1 i)))
    have HI15 := Lib.hid (fun wx => spec_in kd 1 5 wx)
    have HI20 := Lib.hid (fun wx => spec_in mo 0 20 wx)
    have hx1o : w.heap.size < wo.heap.size := by omega
    clear hx
    have HNK : Hid (¬ KindOK ⟨kd, nm, no, mu, up, mo⟩ → R = false) := Lib.hid (fun h => HNR.out (fun q => h ((rowAt_iff HX.out).1 q).1))
    cases hr1 : inR kd 1 5 with
    | false =>
      obtain rfl : R = false := HNK.out (fun q => by
        have := q.1
        rw [Bool.eq_false_iff, Ne, inR_iff2] at hr1
        exact hr1 this)
      rw [hr1] at HI15
      go_wp2_with fail
      refine (HI15.out _).mono ?_
      rintro e w' ⟨rfl, rfl⟩
      go_wp2_with fail
      go_ret
      exact ⟨rfl, HBW.out⟩
    | true =>
    have k15 := inR_iff2.1 hr1
    rw [hr1] at HI15
    clear hr1
    by_cases h3 : kd = 3
    · subst h3
      cases hr2 : inR mo 0 20 with
      | false =>
        obtain rfl : R = false := HNK.out (fun q => by
          have := q.2.1 rfl
          rw [Bool.eq_false_iff, Ne, inR_iff2] at hr2
          exact hr2 this)
        rw [hr2] at HI20
        go_wp2_with fail
        refine (HI15.out _).mono ?_
        rintro e w' ⟨rfl, rfl⟩
        go_wp2_with fail
        refine (HI20.out _).mono ?_
        rintro e w' ⟨rfl, rfl⟩
        go_wp2_with fail
        go_ret
        exact ⟨rfl, HBW.out⟩
      | true =>
      have HKO : Hid (KindOK ⟨3, nm, no, mu, up, mo⟩) := Lib.hid ⟨k15, fun _ => inR_iff2.1 hr2, fun q => absurd rfl q⟩
      rw [hr2] at HI20
      clear hr2
      by_cases hi0 : i = 0
      · have i1 : ((i : Int) == 0) = true := by rw [beq_iff_eq]; omega
        obtain rfl : R = false := HNR.out (fun q => by
          have := (((rowAt_iff HX.out).1 q).2.1 hi0).1
          simp only at this; omega)
        clear hi0
        go_wp2_with fail
        refine (HI15.out _).mono ?_
        rintro e w' ⟨rfl, rfl⟩
        go_wp2_with fail
        refine (HI20.out _).mono ?_
        rintro e w' ⟨rfl, rfl⟩
        go_wp2_with fail
        go_ret
        exact ⟨rfl, HBW.out⟩
      · have i1 : ((i : Int) == 0) = false := beq_eq_false_iff_ne.2 (by omega)
        have i2 : ((i : Int) > 0) := by omega
        have i3 : 0 < i := by omega
        have HPA := Lib.hid (spec_l2Part (HSN.out) i _ i3 HX.out (fun q y hq hy => row_up (HQ.out q hq) hy) (partAtB L i ⟨3, nm, no, mu, up, mo⟩) partAtB_iff)
        cases hpa : partAtB L i ⟨3, nm, no, mu, up, mo⟩ with
        | false =>
          obtain rfl : R = false := HNR.out (fun q => by
            have := ((rowAt_iff HX.out).1 q).2.2 i3
            rw [← partAtB_iff, hpa] at this; cases this)
          rw [hpa] at HPA
          go_wp2_with fail
          refine (HI15.out _).mono ?_
          rintro e w' ⟨rfl, rfl⟩
          go_wp2_with fail
          refine (HI20.out _).mono ?_
          rintro e w' ⟨rfl, rfl⟩
          go_wp2_with fail
          refine HPA.out.mono ?_
          rintro e w' ⟨rfl, hb⟩
          have HBW := Lib.hid (HBW.out.trans (hb.mono HBW.out.size))
          clear hb
          go_wp2_with fail
          go_ret
          exact ⟨rfl, HBW.out⟩
        | true =>
          have HROK : RowAt L i := (rowAt_iff HX.out).2 ⟨HKO.out, fun q => by omega, fun _ => partAtB_iff.1 hpa⟩
          rw [hpa] at HPA
          go_wp2_with fail
          refine (HI15.out _).mono ?_
          rintro e w' ⟨rfl, rfl⟩
          go_wp2_with fail
          refine (HI20.out _).mono ?_
          rintro e w' ⟨rfl, rfl⟩
          go_wp2_with fail
          refine HPA.out.mono ?_
          rintro e w' ⟨rfl, hb⟩
          have HBN := Lib.hid (HBN.out.trans (hb.mono HBN.out.size))
          clear hb
          go_wp2_with fail
          have HQ2 : Hid (∀ q, q < i + 1 → RowAt L q) := Lib.hid (fun q hq => by
            by_cases e : q = i
            · rw [e]; exact HROK
            · exact HQ.out q (by omega))
          go_roundw
          case rel => exact ⟨i + 1, by omega, by go_num, HBN, HQ2⟩
          case measure => (simp [intOf]; try omega)
    · have n3 : (kd == 3) = false := beq_eq_false_iff_ne.2 h3
      have n3b : (kd != 3) = true := bne_iff_ne.2 h3
      by_cases h0 : mo = 0
      case neg =>
        obtain rfl : R = false := HNK.out (fun q => h0 (q.2.2 h3))
        have m0 : (mo != 0) = true := bne_iff_ne.2 h0
        go_wp2_with fail
        refine (HI15.out _).mono ?_
        rintro e w' ⟨rfl, rfl⟩
        go_wp2_with fail
        go_ret
        exact ⟨rfl, HBW.out⟩
      subst h0
      have HKO : Hid (KindOK ⟨kd, nm, no, mu, up, 0⟩) := Lib.hid ⟨k15, fun q => absurd q h3, fun _ => rfl⟩
      clear h3
      by_cases hi0 : i = 0
      · have i1 : ((i : Int) == 0) = true := by rw [beq_iff_eq]; omega
        have i2 : ¬ ((i : Int) > 0) := by omega
        have i3 : ¬ 0 < i := by omega
        have HROOT : Hid (¬ RootOK ⟨kd, nm, no, mu, up, 0⟩ → R = false) := Lib.hid (fun h => HNR.out (fun q => h (((rowAt_iff HX.out).1 q).2.1 hi0)))
        have HROOTY : Hid (RootOK ⟨kd, nm, no, mu, up, 0⟩ → RowAt L i) := Lib.hid (fun h => (rowAt_iff HX.out).2 ⟨HKO.out, fun _ => h, fun q => by omega⟩)
        clear hi0
        cases g1 : (kd != 5) with
        | true =>
          obtain rfl : R = false := HROOT.out (fun h => by have := h.1; simp only at this; rw [this] at g1; cases g1)
          go_wp2_with fail
          refine (HI15.out _).mono ?_
          rintro e w' ⟨rfl, rfl⟩
          go_wp2_with fail
          go_ret
          exact ⟨rfl, HBW.out⟩
        | false =>
        cases g2 : (up != -1) with
        | true =>
          obtain rfl : R = false := HROOT.out (fun h => by have := h.2.1; simp only at this; rw [this] at g2; cases g2)
          go_wp2_with fail
          refine (HI15.out _).mono ?_
          rintro e w' ⟨rfl, rfl⟩
          go_wp2_with fail
          go_ret
          exact ⟨rfl, HBW.out⟩
        | false =>
        cases g3 : nm.toList.isEmpty with
        | false =>
          obtain rfl : R = false := HROOT.out (fun h => by have := h.2.2.1; simp only at this; rw [isEm, this] at g3; cases g3)
          go_wp2_with fail
          refine (HI15.out _).mono ?_
          rintro e w' ⟨rfl, rfl⟩
          go_wp2_with fail
          go_ret
          exact ⟨rfl, HBW.out⟩
        | true =>
        cases g4 : (no != 0) with
        | true =>
          obtain rfl : R = false := HROOT.out (fun h => by have := h.2.2.2.1; simp only at this; rw [this] at g4; cases g4)
          go_wp2_with fail
          refine (HI15.out _).mono ?_
          rintro e w' ⟨rfl, rfl⟩
          go_wp2_with fail
          go_ret
          exact ⟨rfl, HBW.out⟩
        | false =>
        cases mu with
        | true =>
          obtain rfl : R = false := HROOT.out (fun h => by have := h.2.2.2.2; simp only at this; cases this)
          go_wp2_with fail
          refine (HI15.out _).mono ?_
          rintro e w' ⟨rfl, rfl⟩
          go_wp2_with fail
          go_ret
          exact ⟨rfl, HBW.out⟩
        | false =>
        have HROK : RowAt L i := HROOTY.out ⟨by simpa using g1, by simpa using g2, by rw [isEm] at g3; simpa using g3, by simpa using g4, rfl⟩
        go_wp2_with fail
        refine (HI15.out _).mono ?_
        rintro e w' ⟨rfl, rfl⟩
        go_wp2_with fail
        have HQ2 : Hid (∀ q, q < i + 1 → RowAt L q) := Lib.hid (fun q hq => by
          by_cases e : q = i
          · rw [e]; exact HROK
          · exact HQ.out q (by omega))
        go_roundw
        case rel => exact ⟨i + 1, by omega, by go_num, HBN, HQ2⟩
        case measure => (simp [intOf]; try omega)
      · have i1 : ((i : Int) == 0) = false := beq_eq_false_iff_ne.2 (by omega)
        have i2 : ((i : Int) > 0) := by omega
        have i3 : 0 < i := by omega
        have HPA := Lib.hid (spec_l2Part (HSN.out) i _ i3 HX.out (fun q y hq hy => row_up (HQ.out q hq) hy) (partAtB L i ⟨kd, nm, no, mu, up, 0⟩) partAtB_iff)
        cases hpa : partAtB L i ⟨kd, nm, no, mu, up, 0⟩ with
        | false =>
          obtain rfl : R = false := HNR.out (fun q => by
            have := ((rowAt_iff HX.out).1 q).2.2 i3
            rw [← partAtB_iff, hpa] at this; cases this)
          rw [hpa] at HPA
          go_wp2_with fail
          refine (HI15.out _).mono ?_
          rintro e w' ⟨rfl, rfl⟩
          go_wp2_with fail
          refine HPA.out.mono ?_
          rintro e w' ⟨rfl, hb⟩
          have HBW := Lib.hid (HBW.out.trans (hb.mono HBW.out.size))
          clear hb
          go_wp2_with fail
          go_ret
          exact ⟨rfl, HBW.out⟩
        | true =>
          have HROK : RowAt L i := (rowAt_iff HX.out).2 ⟨HKO.out, fun q => by omega, fun _ => partAtB_iff.1 hpa⟩
          rw [hpa] at HPA
          go_wp2_with fail
          refine (HI15.out _).mono ?_
          rintro e w' ⟨rfl, rfl⟩
          go_wp2_with fail
          refine HPA.out.mono ?_
          rintro e w' ⟨rfl, hb⟩
          have HBN := Lib.hid (HBN.out.trans (hb.mono HBN.out.size))
          clear hb
          go_wp2_with fail
          have HQ2 : Hid (∀ q, q < i + 1 → RowAt L q) := Lib.hid (fun q hq => by
            by_cases e : q = i
            · rw [e]; exact HROK
            · exact HQ.out q (by omega))
          go_roundw
          case rel => exact ⟨i + 1, by omega, by go_num, HBN, HQ2⟩
          case measure => (simp [intOf]; try omega)
end Go.Proofs.Ytmlnecopbncdbaa
