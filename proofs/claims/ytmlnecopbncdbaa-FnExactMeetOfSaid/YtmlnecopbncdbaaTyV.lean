/- Whether a type stands right at its place: the reference's walk. -/
import Derived.Test.YtmlnecopbncdbaaTyU
namespace Go.Proofs.Ytmlnecopbncdbaa
set_option linter.unusedVariables false
set_option linter.unusedSimpArgs false
open Go.ChangeShapes Go.WideShapes Go.ChangeAt Go.RowKit
set_option maxRecDepth 100000

theorem toList_eq {a b : ByteArray} : (a.toList == b.toList) = true ↔ a = b := by
  rw [beq_iff_eq, ByteArray.toList_eq, ByteArray.toList_eq]
  constructor
  · intro h
    have h2 : a.data = b.data := Array.toList_inj.1 h
    cases a; cases b; simp only at h2; rw [h2]
  · intro h; rw [h]
theorem toList_ne {a b : ByteArray} (h : ¬ a = b) : (a.toList == b.toList) = false := by
  rw [Bool.eq_false_iff, Ne, toList_eq]; exact h
noncomputable def ancB (L : List Ty) (i j : Nat) : Bool := @decide (Anc L i j) (Classical.propDecidable _)
theorem ancB_iff {L : List Ty} {i j : Nat} : ancB L i j = true ↔ Anc L i j := by unfold ancB; exact @decide_eq_true_iff _ (Classical.propDecidable _)
set_option maxHeartbeats 8000000 in
theorem spec_l2Part {B : Nat} {w : World} {L : List Ty} {a : Option Addr} {cap : Nat} (h : Sch B w L a cap) (i : Nat) (x : Ty) (hi0 : 0 < i) (hx : L[i]? = some x) (hbef : ∀ q y, q < i → L[q]? = some y → -1 ≤ y.up ∧ y.up < (q : Int)) (R : Bool) (hR : R = true ↔ PartAt L i x) :
    Calls Try.prog 57 #[.agg #[.slice a L.length cap], .int .i64 (i : Int)] w fun e w' => e = .returned (.bool R) ∧ Below w.heap.size w w' := by
  have hil := (List.getElem?_eq_some_iff.1 hx).1
  have hxn := h.hnm x (List.mem_of_getElem? hx)
  have hB0 := Below.alloc (Below.refl w.heap.size w) (Nat.le_refl _) (.cells #[.slice a L.length cap] 28)
  have hv1 : (w.alloc (.cells #[.slice a L.length cap] 28)).cell? ⟨w.heap.size, 0, none⟩ = some (.slice a L.length cap) := by simp
  have hwl : w.heap.size < (w.alloc (.cells #[.slice a L.length cap] 28)).heap.size := by simp
  generalize hw1 : w.alloc (.cells #[.slice a L.length cap] 28) = w1 at *
  obtain ⟨b, off, rfl, hbl, d0, d1, d2, d3, d4, d5⟩ := tys_cells (h.keep hB0).row hx
  have hbw : b < w1.heap.size := by have := h.hB; omega
  have HXX := Lib.hid hx
  have HR := Lib.hid hR
  obtain ⟨kd, nm, no, mu, up, mo⟩ := x
  simp only at d0 d1 d2 d3 d4 d5 hxn
  have hX := heap_alloc_new w1 (.cells #[.int .i64 kd, .string nm, .int .i64 no, .bool mu, .int .i64 up, .int .i64 mo] 85)
  have hB2 := hB0.alloc (Nat.le_of_lt hwl) (.cells #[.int .i64 kd, .string nm, .int .i64 no, .bool mu, .int .i64 up, .int .i64 mo] 85)
  have hv2 := cell_alloc (.cells #[.int .i64 kd, .string nm, .int .i64 no, .bool mu, .int .i64 up, .int .i64 mo] 85) hv1
  have hwl2 : w1.heap.size < (w1.alloc (.cells #[.int .i64 kd, .string nm, .int .i64 no, .bool mu, .int .i64 up, .int .i64 mo] 85)).heap.size := by simp
  generalize hw2 : w1.alloc (.cells #[.int .i64 kd, .string nm, .int .i64 no, .bool mu, .int .i64 up, .int .i64 mo] 85) = w2 at *
  obtain ⟨x0, x1, x2, x3, x4, x5⟩ := box6 hX
  have HX := Lib.hid hX
  have HB2 := Lib.hid hB2
  have H2 := Lib.hid (h.keep hB2)
  have hlm := h.hl
  have hcm := h.hcm
  have hlc := h.hc
  have HAR := Lib.hid (fun j hj => spec_l2Around (h.keep hB2) i j _ hi0 hx hj hbef (ancB L (i - 1) j) ancB_iff)
  have HNM := Lib.hid (fun wx => spec_l2Name nm wx hxn)
  have HIN := Lib.hid (fun wx => spec_in no 1 30 wx)
  clear hx hR hbef h hB0 hB2 hX
  by_cases hn : up < 0
  · obtain rfl : R = false := by
      rw [Bool.eq_false_iff, Ne, HR.out]
      rintro ⟨j, y, h1, _⟩
      simp only at h1; omega
    go_enter Try.func57, Try.ntmps57
    go_wp2_with fail
    go_ret
    exact ⟨rfl, HB2.out⟩
  by_cases hge : up ≥ (i : Int)
  · obtain rfl : R = false := by
      rw [Bool.eq_false_iff, Ne, HR.out]
      rintro ⟨j, y, h1, h2, _⟩
      simp only at h1; omega
    go_enter Try.func57, Try.ntmps57
    go_wp2_with fail
    go_ret
    exact ⟨rfl, HB2.out⟩
  obtain ⟨j, rfl⟩ : ∃ j : Nat, up = (j : Int) := ⟨up.toNat, by omega⟩
  have hji : j < i := by omega
  have hjl : j < L.length := by omega
  have HAJ := Lib.hid (HAR.out j rfl)
  obtain ⟨y, hy⟩ : ∃ y, L[j]? = some y := ⟨L[j], List.getElem?_eq_getElem hjl⟩
  obtain ⟨b2, off2, hbe, -, k0, -, -, -, -, -⟩ := tys_cells H2.out.row hy
  simp only [Option.some.injEq, Addr.mk.injEq, and_true] at hbe
  obtain ⟨rfl, rfl⟩ := hbe
  have HHO := Lib.hid (fun wx => spec_holds y.kind wx)
  have HY := Lib.hid hy
  clear HAR hy
  cases hh : holdsK y.kind with
  | false =>
    obtain rfl : R = false := by
      rw [Bool.eq_false_iff, Ne, HR.out]
      rintro ⟨j', y', h1, h2, h3, h4, _⟩
      simp only at h1
      obtain rfl : j' = j := by omega
      rw [HY.out] at h3; cases h3
      rw [hh] at h4; cases h4
    rw [hh] at HHO
    go_enter Try.func57, Try.ntmps57
    go_wp2_with fail
    refine (HHO.out _).mono ?_
    rintro e w' ⟨rfl, rfl⟩
    go_wp2_with fail
    go_ret
    exact ⟨rfl, HB2.out⟩
  | true =>
  rw [hh] at HHO
  cases ha : ancB L (i - 1) j with
  | false =>
    obtain rfl : R = false := by
      rw [Bool.eq_false_iff, Ne, HR.out]
      rintro ⟨j', y', h1, h2, h3, h4, h5, _⟩
      simp only at h1
      obtain rfl : j' = j := by omega
      rw [ancB_iff.2 h5] at ha; cases ha
    rw [ha] at HAJ
    go_enter Try.func57, Try.ntmps57
    go_wp2_with fail
    refine (HHO.out _).mono ?_
    rintro e w' ⟨rfl, rfl⟩
    go_wp2_with fail
    refine (HAJ.out).mono ?_
    rintro e w' ⟨rfl, rfl⟩
    go_wp2_with fail
    go_ret
    exact ⟨rfl, HB2.out⟩
  | true =>
  rw [ha] at HAJ
  -- it is a part of one around it
  have HP : Hid (R = true ↔ PartOf y.kind ⟨kd, nm, no, mu, mo⟩ ∧ (y.kind = 5 → ∀ k z, j < k → k < i → L[k]? = some z → z.up = (j : Int) → z.no < no ∧ ¬ z.name = nm)) := Lib.hid (by
    rw [HR.out]
    constructor
    · rintro ⟨j', y', h1, h2, h3, h4, h5, h6, h7⟩
      simp only at h1
      obtain rfl : j' = j := by omega
      rw [HY.out] at h3; cases h3
      exact ⟨h6, fun h5 k z g1 g2 g3 g4 => h7 h5 k z g1 g2 g3 g4⟩
    · rintro ⟨h6, h7⟩
      exact ⟨j, y, rfl, hji, HY.out, hh, ancB_iff.1 ha, h6, fun h5 k z g1 g2 g3 g4 => h7 h5 k z g1 g2 g3 g4⟩)
  clear HR HXX
  by_cases h4 : y.kind = 4
  · have hRR : R = ((nm.toList.isEmpty && (no == 0)) && !mu) := by
      rw [Bool.eq_iff_iff, HP.out, h4, ← decide_eq_true_iff (p := PartOf 4 _), partB_eq]
      simp [partB]
    rw [h4] at k0
    rw [h4] at HHO
    clear HP HNM HIN
    rw [hRR]
    generalize he : nm.toList.isEmpty = e1
    generalize hno : (no == 0) = e2
    clear hRR
    cases e1 <;> cases e2 <;> cases mu
    all_goals
      go_enter Try.func57, Try.ntmps57
      go_wp2_with fail
      refine (HHO.out _).mono ?_
      rintro e w' ⟨rfl, rfl⟩
      go_wp2_with fail
      refine (HAJ.out).mono ?_
      rintro e w' ⟨rfl, rfl⟩
      go_wp2_with fail
      go_ret
      exact ⟨rfl, HB2.out⟩
  have h5 : y.kind = 5 := by
    have : y.kind = 4 ∨ y.kind = 5 := by simpa [holdsK] using hh
    omega
  rw [h5] at k0
  rw [h5] at HHO
  have HP2 : Hid (R = true ↔ (nameB nm = true ∧ inR no 1 30 = true) ∧ ∀ k z, j < k → k < i → L[k]? = some z → z.up = (j : Int) → z.no < no ∧ ¬ z.name = nm) := Lib.hid (by
    rw [HP.out, h5, ← decide_eq_true_iff (p := PartOf 5 _), partB_eq]
    unfold partB
    rw [if_pos rfl, Bool.and_eq_true]
    exact ⟨fun q => ⟨q.1, q.2 rfl⟩, fun q => ⟨q.1, fun _ => q.2⟩⟩)
  clear HP h4 hh
  cases hb1 : nameB nm with
  | false =>
    obtain rfl : R = false := by
      rw [Bool.eq_false_iff, Ne, HP2.out]
      rintro ⟨⟨q, _⟩, _⟩
      rw [hb1] at q; cases q
    rw [hb1] at HNM
    go_enter Try.func57, Try.ntmps57
    go_wp2_with fail
    refine (HHO.out _).mono ?_
    rintro e w' ⟨rfl, rfl⟩
    go_wp2_with fail
    refine (HAJ.out).mono ?_
    rintro e w' ⟨rfl, rfl⟩
    go_wp2_with fail
    refine (HNM.out _).mono ?_
    rintro e w' ⟨rfl, rfl⟩
    go_wp2_with fail
    go_ret
    exact ⟨rfl, HB2.out⟩
  | true =>
  rw [hb1] at HNM
  cases hb2 : inR no 1 30 with
  | false =>
    obtain rfl : R = false := by
      rw [Bool.eq_false_iff, Ne, HP2.out]
      rintro ⟨⟨_, q⟩, _⟩
      rw [hb2] at q; cases q
    rw [hb2] at HIN
    go_enter Try.func57, Try.ntmps57
    go_wp2_with fail
    refine (HHO.out _).mono ?_
    rintro e w' ⟨rfl, rfl⟩
    go_wp2_with fail
    refine (HAJ.out).mono ?_
    rintro e w' ⟨rfl, rfl⟩
    go_wp2_with fail
    refine (HNM.out _).mono ?_
    rintro e w' ⟨rfl, rfl⟩
    go_wp2_with fail
    refine (HIN.out _).mono ?_
    rintro e w' ⟨rfl, rfl⟩
    go_wp2_with fail
    go_ret
    exact ⟨rfl, HB2.out⟩
  | true =>
  rw [hb2] at HIN
  have HP3 : Hid (R = true ↔ ∀ k z, j < k → k < i → L[k]? = some z → z.up = (j : Int) → z.no < no ∧ ¬ z.name = nm) := Lib.hid (by
    rw [HP2.out, hb1, hb2]
    exact ⟨fun q => q.2, fun q => ⟨⟨rfl, rfl⟩, q⟩⟩)
  clear HP2 hb1 hb2
  have j1 : IntKind.i64.wrap ((j : Int) + 1) = (j : Int) + 1 := IntWalk.i64_in _ (by omega)
  go_enter Try.func57, Try.ntmps57
  go_wp2_with fail
  refine (HHO.out _).mono ?_
  rintro e w' ⟨rfl, rfl⟩
  go_wp2_with fail
  refine (HAJ.out).mono ?_
  rintro e w' ⟨rfl, rfl⟩
  go_wp2_with fail
  refine (HNM.out _).mono ?_
  rintro e w' ⟨rfl, rfl⟩
  go_wp2_with fail
  refine (HIN.out _).mono ?_
  rintro e w' ⟨rfl, rfl⟩
  go_wp2_with fail
  go_loopw [6] (fun kv wr => ∃ k : Nat, j < k ∧ k ≤ i ∧ kv = .int .i64 (k : Int) ∧ Hid (Below w2.heap.size w2 wr) ∧ Hid (∀ q z, j < q → q < k → L[q]? = some z → z.up = (j : Int) → z.no < no ∧ ¬ z.name = nm)) (fun kv _ => i - (intOf kv).toNat)
  case atStart => exact ⟨j + 1, by omega, by omega, by go_num, Lib.hid (Below.refl _ _), Lib.hid (fun q z h1 h2 => by omega)⟩
  case round =>
    obtain ⟨wo, rfl⟩ : ∃ z : World, z = wr := ⟨_, rfl⟩
    obtain ⟨k, hjk, hki, rfl, HB, HQ⟩ := hrel
    have HBW := Lib.hid (HB2.out.trans (HB.out.mono HB2.out.size))
    have hzo := HB.out.size
    by_cases hlt : k < i
    case neg =>
      obtain rfl : k = i := by omega
      obtain rfl : R = true := by
        rw [HP3.out]
        exact HQ.out
      go_wp2_with fail
      go_ret
      exact ⟨rfl, HBW.out⟩
    obtain ⟨z, hz⟩ : ∃ z, L[k]? = some z := ⟨L[k], List.getElem?_eq_getElem (by omega)⟩
    obtain ⟨b2, off2, hbe, -, r0, r1, r2, r3, r4, r5⟩ := tys_cells (H2.out.keep HB.out).row hz
    simp only [Option.some.injEq, Addr.mk.injEq, and_true] at hbe
    obtain ⟨rfl, rfl⟩ := hbe
    have s1 := below_later HB.out hv2
    obtain ⟨t0, t1, t2, t3, t4, t5⟩ := box6 (hp_later HB.out HX.out)
    have HBN := Lib.hid (HBW.out.alloc (HBW.out.size) (.cells #[.int .i64 z.kind, .string z.name, .int .i64 z.no, .bool z.must, .int .i64 z.up, .int .i64 z.most] 85))
    have HBM := Lib.hid (HB.out.alloc (HB.out.size) (.cells #[.int .i64 z.kind, .string z.name, .int .i64 z.no, .bool z.must, .int .i64 z.up, .int .i64 z.most] 85))
    have hbo : b < wo.heap.size := by omega
    have hx1o : w1.heap.size < wo.heap.size := by omega
    have hx2o : w.heap.size < wo.heap.size := by omega
    have hkl : k < L.length := by omega
    have HNX : Hid ((z.up = (j : Int) → z.no < no ∧ ¬ z.name = nm) → ∀ q z, j < q → q < k + 1 → L[q]? = some z → z.up = (j : Int) → z.no < no ∧ ¬ z.name = nm) := Lib.hid (fun hq q z' g1 g2 g3 g4 => by
      by_cases e : q = k
      · subst e
        rw [hz] at g3; cases g3
        exact hq g4
      · exact HQ.out q z' g1 (by omega) g3 g4)
    have HNO : Hid (z.up = (j : Int) → ¬ (z.no < no ∧ ¬ z.name = nm) → R = false) := Lib.hid (fun hq1 hq2 => by
      rw [Bool.eq_false_iff, Ne, HP3.out]
      intro hall
      exact hq2 (hall k z hjk hlt hz hq1))
    clear hz x0 x1 x2 x3 x4 x5 d0 d1 d2 d3 d4 d5 k0 HAJ HHO HNM HIN
    by_cases hzu : z.up = (j : Int)
    case neg =>
      have q1 : (z.up == (j : Int)) = false := beq_eq_false_iff_ne.2 hzu
      have HN := Lib.hid (HNX.out (fun e => absurd e hzu))
      clear hzu HNX HNO
      go_wp2_with fail
      go_roundw
      case rel => exact ⟨k + 1, by omega, by omega, by go_num, HBM, HN⟩
      case measure => (simp [intOf]; try omega)
    have q1 : (z.up == (j : Int)) = true := beq_iff_eq.2 hzu
    have HZU := Lib.hid hzu
    clear hzu
    by_cases hno : z.no ≥ no
    · obtain rfl : R = false := HNO.out HZU.out (fun q => by have := q.1; omega)
      clear HNX HNO
      go_wp2_with fail
      go_ret
      exact ⟨rfl, HBN.out⟩
    cases hnn : (z.name.toList == nm.toList) with
    | true =>
      obtain rfl : R = false := HNO.out HZU.out (fun q => q.2 (toList_eq.1 hnn))
      clear HNX HNO
      go_wp2_with fail
      go_ret
      exact ⟨rfl, HBN.out⟩
    | false =>
      have HN := Lib.hid (HNX.out (fun _ => ⟨by omega, fun e => by rw [toList_eq.2 e] at hnn; cases hnn⟩))
      clear HNX HNO
      go_wp2_with fail
      go_roundw
      case rel => exact ⟨k + 1, by omega, by omega, by go_num, HBM, HN⟩
      case measure => (simp [intOf]; try omega)
end Go.Proofs.Ytmlnecopbncdbaa
