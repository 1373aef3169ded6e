/- The contracts of BoxCovers and BoxHas. -/
import Derived.Test.YthlajmncpejhmaaCover
import Derived.Test.YthlajmncpejhmaaUnionS
import Derived.Test.YthlajmncpejhmaaBoxLaw
namespace Go.Proofs.Ythlajmncpejhmaa
set_option linter.unusedVariables false
open Go.ChangeShapes Go.WideShapes Go.ChangeAt Go.RowKit
set_option maxRecDepth 100000

def R_BoxCovers (a b : Bx) : Bool × Bool := if GoodR a = true ∧ GoodR b = true then (covR a b, true) else (false, false)
def R_BoxHas (a : Bx) (p : List Int) : Bool × Bool := if GoodR a = true ∧ pointR p = true then (hasR a p, true) else (false, false)
theorem BC_no {a b : Bx} (h : ¬ (GoodR a = true ∧ GoodR b = true)) : R_BoxCovers a b = (false, false) := if_neg h
theorem BC_yes {a b : Bx} (h : GoodR a = true ∧ GoodR b = true) : R_BoxCovers a b = (covR a b, true) := if_pos h
theorem BH_no {a : Bx} {p : List Int} (h : ¬ (GoodR a = true ∧ pointR p = true)) : R_BoxHas a p = (false, false) := if_neg h
theorem BH_yes {a : Bx} {p : List Int} (h : GoodR a = true ∧ pointR p = true) : R_BoxHas a p = (hasR a p, true) := if_pos h
theorem point_len {p : List Int} (h : pointR p = true) : p.length = 3 := by unfold pointR at h; simp at h; exact h.1

set_option maxHeartbeats 1000000 in
theorem impl_BoxCovers (w : World) (cs ds : List Value) (a b : Bx) (h : kBox.rd w.heap.size w cs a) (h' : kBox.rd w.heap.size w ds b) :
    Calls Try.prog 33 #[.agg cs.toArray, .agg ds.toArray] w fun e w' => e = .returned (.tuple #[.bool (R_BoxCovers a b).1, .bool (R_BoxCovers a b).2]) ∧ Below w.heap.size w w' := by
  obtain ⟨x, c, rfl, r1, l1, -⟩ := box_form h
  obtain ⟨y, c', rfl, r2, l2, -⟩ := box_form h'
  show Calls Try.prog 33 #[.agg #[.slice x a.length c], .agg #[.slice y b.length c']] w _
  have HG1 := Lib.hid (fun wx (h : Rw wx x (sds a)) => impl_goodBox x c a wx h l1)
  have HG2 := Lib.hid (fun wx (h : Rw wx y (sds b)) => impl_goodBox y c' b wx h l2)
  have HC := Lib.hid (fun wx (hb : Below w.heap.size w wx) (hl : a.length = b.length) => impl_covers (kBox_ok.later h hb) (kBox_ok.later h' hb) hl)
  have HA := Lib.hid r1; have HBb := Lib.hid r2
  clear h h' r1 r2
  cases g1 : GoodR a with
  | false =>
    rw [BC_no (fun h => by rw [g1] at h; cases h.1)]
    rw [g1] at HG1
    go_enter Try.func33, Try.ntmps33
    go_wp2_with fail
    have c0 : ((w.alloc (.cells #[.slice x a.length c] 28)).alloc (.cells #[.slice y b.length c'] 28)).cell? ⟨w.heap.size, 0, none⟩ = some (.slice x a.length c) := by
      have h1 := ((Below.refl (w.heap.size + 1) (w.alloc (.cells #[.slice x a.length c] 28))).alloc (by simp) (.cells #[.slice y b.length c'] 28)).cell (p := ⟨w.heap.size, 0, none⟩) (Nat.lt_succ_self _)
      rw [h1, World.cell?_alloc_new]; rfl
    have c1 : ((w.alloc (.cells #[.slice x a.length c] 28)).alloc (.cells #[.slice y b.length c'] 28)).cell? ⟨w.heap.size + 1, 0, none⟩ = some (.slice y b.length c') := by simp
    have HB0 : Hid (Below w.heap.size w ((w.alloc (.cells #[.slice x a.length c] 28)).alloc (.cells #[.slice y b.length c'] 28))) := Lib.hid (((Below.refl _ _).alloc (Nat.le_refl _) _).alloc (by simp) _)
    generalize (w.alloc (.cells #[.slice x a.length c] 28)).alloc (.cells #[.slice y b.length c'] 28) = w0 at *
    refine (HG1.out _ (HA.out.below HB0.out)).mono ?_
    rintro e w1 ⟨rfl, hb⟩
    have HB1 := Lib.hid (rstep HB0.out hb)
    replace c0 := below_later hb c0
    replace c1 := below_later hb c1
    clear hb
    go_wp2_with fail
    go_ret2
    exact ⟨rfl, HB1.out⟩
  | true =>
    rw [g1] at HG1
    cases g2 : GoodR b with
    | false =>
      rw [BC_no (fun h => by rw [g2] at h; cases h.2)]
      rw [g2] at HG2
      clear g1 g2
      go_enter Try.func33, Try.ntmps33
      go_wp2_with fail
      have c0 : ((w.alloc (.cells #[.slice x a.length c] 28)).alloc (.cells #[.slice y b.length c'] 28)).cell? ⟨w.heap.size, 0, none⟩ = some (.slice x a.length c) := by
        have h1 := ((Below.refl (w.heap.size + 1) (w.alloc (.cells #[.slice x a.length c] 28))).alloc (by simp) (.cells #[.slice y b.length c'] 28)).cell (p := ⟨w.heap.size, 0, none⟩) (Nat.lt_succ_self _)
        rw [h1, World.cell?_alloc_new]; rfl
      have c1 : ((w.alloc (.cells #[.slice x a.length c] 28)).alloc (.cells #[.slice y b.length c'] 28)).cell? ⟨w.heap.size + 1, 0, none⟩ = some (.slice y b.length c') := by simp
      have HB0 : Hid (Below w.heap.size w ((w.alloc (.cells #[.slice x a.length c] 28)).alloc (.cells #[.slice y b.length c'] 28))) := Lib.hid (((Below.refl _ _).alloc (Nat.le_refl _) _).alloc (by simp) _)
      generalize (w.alloc (.cells #[.slice x a.length c] 28)).alloc (.cells #[.slice y b.length c'] 28) = w0 at *
      refine (HG1.out _ (HA.out.below HB0.out)).mono ?_
      rintro e w1 ⟨rfl, hb⟩
      have HB1 := Lib.hid (rstep HB0.out hb)
      replace c0 := below_later hb c0
      replace c1 := below_later hb c1
      clear hb
      go_wp2_with fail
      refine (HG2.out _ (HBb.out.below HB1.out)).mono ?_
      rintro e w2 ⟨rfl, hb⟩
      have HB2 := Lib.hid (rstep HB1.out hb); clear hb
      go_wp2_with fail
      go_ret2
      exact ⟨rfl, HB2.out⟩
    | true =>
      rw [BC_yes ⟨g1, g2⟩]
      have HL := Lib.hid (show a.length = b.length by rw [good_len g1, good_len g2])
      rw [g2] at HG2
      clear g1 g2
      go_enter Try.func33, Try.ntmps33
      go_wp2_with fail
      have c0 : ((w.alloc (.cells #[.slice x a.length c] 28)).alloc (.cells #[.slice y b.length c'] 28)).cell? ⟨w.heap.size, 0, none⟩ = some (.slice x a.length c) := by
        have h1 := ((Below.refl (w.heap.size + 1) (w.alloc (.cells #[.slice x a.length c] 28))).alloc (by simp) (.cells #[.slice y b.length c'] 28)).cell (p := ⟨w.heap.size, 0, none⟩) (Nat.lt_succ_self _)
        rw [h1, World.cell?_alloc_new]; rfl
      have c1 : ((w.alloc (.cells #[.slice x a.length c] 28)).alloc (.cells #[.slice y b.length c'] 28)).cell? ⟨w.heap.size + 1, 0, none⟩ = some (.slice y b.length c') := by simp
      have HB0 : Hid (Below w.heap.size w ((w.alloc (.cells #[.slice x a.length c] 28)).alloc (.cells #[.slice y b.length c'] 28))) := Lib.hid (((Below.refl _ _).alloc (Nat.le_refl _) _).alloc (by simp) _)
      generalize (w.alloc (.cells #[.slice x a.length c] 28)).alloc (.cells #[.slice y b.length c'] 28) = w0 at *
      refine (HG1.out _ (HA.out.below HB0.out)).mono ?_
      rintro e w1 ⟨rfl, hb⟩
      have HB1 := Lib.hid (rstep HB0.out hb)
      replace c0 := below_later hb c0
      replace c1 := below_later hb c1
      clear hb
      go_wp2_with fail
      refine (HG2.out _ (HBb.out.below HB1.out)).mono ?_
      rintro e w2 ⟨rfl, hb⟩
      have HB2 := Lib.hid (rstep HB1.out hb)
      replace c0 := below_later hb c0
      replace c1 := below_later hb c1
      clear hb
      go_wp2_with fail
      refine (HC.out _ HB2.out HL.out).mono ?_
      rintro e w3 ⟨rfl, hb⟩
      have HB3 := Lib.hid (rstep HB2.out hb); clear hb
      go_wp2_with fail
      go_ret2
      exact ⟨rfl, HB3.out⟩
set_option maxHeartbeats 1000000 in
theorem spec_BoxCovers (w : World) (cs ds : List Value) (a b : Bx) (h : kBox.rd w.heap.size w cs a) (h' : kBox.rd w.heap.size w ds b) :
    Calls Try.prog 34 #[.agg cs.toArray, .agg ds.toArray] w fun e w' => e = .returned (.tuple #[.bool (R_BoxCovers a b).1, .bool (R_BoxCovers a b).2]) ∧ Below w.heap.size w w' := by
  obtain ⟨x, c, rfl, r1, l1, -⟩ := box_form h
  obtain ⟨y, c', rfl, r2, l2, -⟩ := box_form h'
  show Calls Try.prog 34 #[.agg #[.slice x a.length c], .agg #[.slice y b.length c']] w _
  have HG1 := Lib.hid (fun wx (h : Rw wx x (sds a)) => spec_goodBox x c a wx h l1)
  have HG2 := Lib.hid (fun wx (h : Rw wx y (sds b)) => spec_goodBox y c' b wx h l2)
  have HC := Lib.hid (fun wx (hb : Below w.heap.size w wx) (hl : a.length = b.length) => spec_covers (kBox_ok.later h hb) (kBox_ok.later h' hb) hl)
  have HA := Lib.hid r1; have HBb := Lib.hid r2
  clear h h' r1 r2
  cases g1 : GoodR a with
  | false =>
    rw [BC_no (fun h => by rw [g1] at h; cases h.1)]
    rw [g1] at HG1
    go_enter Try.func34, Try.ntmps34
    go_wp2_with fail
    have c0 : ((w.alloc (.cells #[.slice x a.length c] 28)).alloc (.cells #[.slice y b.length c'] 28)).cell? ⟨w.heap.size, 0, none⟩ = some (.slice x a.length c) := by
      have h1 := ((Below.refl (w.heap.size + 1) (w.alloc (.cells #[.slice x a.length c] 28))).alloc (by simp) (.cells #[.slice y b.length c'] 28)).cell (p := ⟨w.heap.size, 0, none⟩) (Nat.lt_succ_self _)
      rw [h1, World.cell?_alloc_new]; rfl
    have c1 : ((w.alloc (.cells #[.slice x a.length c] 28)).alloc (.cells #[.slice y b.length c'] 28)).cell? ⟨w.heap.size + 1, 0, none⟩ = some (.slice y b.length c') := by simp
    have HB0 : Hid (Below w.heap.size w ((w.alloc (.cells #[.slice x a.length c] 28)).alloc (.cells #[.slice y b.length c'] 28))) := Lib.hid (((Below.refl _ _).alloc (Nat.le_refl _) _).alloc (by simp) _)
    generalize (w.alloc (.cells #[.slice x a.length c] 28)).alloc (.cells #[.slice y b.length c'] 28) = w0 at *
    refine (HG1.out _ (HA.out.below HB0.out)).mono ?_
    rintro e w1 ⟨rfl, hb⟩
    have HB1 := Lib.hid (rstep HB0.out hb)
    replace c0 := below_later hb c0
    replace c1 := below_later hb c1
    clear hb
    go_wp2_with fail
    go_ret2
    exact ⟨rfl, HB1.out⟩
  | true =>
    rw [g1] at HG1
    cases g2 : GoodR b with
    | false =>
      rw [BC_no (fun h => by rw [g2] at h; cases h.2)]
      rw [g2] at HG2
      clear g1 g2
      go_enter Try.func34, Try.ntmps34
      go_wp2_with fail
      have c0 : ((w.alloc (.cells #[.slice x a.length c] 28)).alloc (.cells #[.slice y b.length c'] 28)).cell? ⟨w.heap.size, 0, none⟩ = some (.slice x a.length c) := by
        have h1 := ((Below.refl (w.heap.size + 1) (w.alloc (.cells #[.slice x a.length c] 28))).alloc (by simp) (.cells #[.slice y b.length c'] 28)).cell (p := ⟨w.heap.size, 0, none⟩) (Nat.lt_succ_self _)
        rw [h1, World.cell?_alloc_new]; rfl
      have c1 : ((w.alloc (.cells #[.slice x a.length c] 28)).alloc (.cells #[.slice y b.length c'] 28)).cell? ⟨w.heap.size + 1, 0, none⟩ = some (.slice y b.length c') := by simp
      have HB0 : Hid (Below w.heap.size w ((w.alloc (.cells #[.slice x a.length c] 28)).alloc (.cells #[.slice y b.length c'] 28))) := Lib.hid (((Below.refl _ _).alloc (Nat.le_refl _) _).alloc (by simp) _)
      generalize (w.alloc (.cells #[.slice x a.length c] 28)).alloc (.cells #[.slice y b.length c'] 28) = w0 at *
      refine (HG1.out _ (HA.out.below HB0.out)).mono ?_
      rintro e w1 ⟨rfl, hb⟩
      have HB1 := Lib.hid (rstep HB0.out hb)
      replace c0 := below_later hb c0
      replace c1 := below_later hb c1
      clear hb
      go_wp2_with fail
      refine (HG2.out _ (HBb.out.below HB1.out)).mono ?_
      rintro e w2 ⟨rfl, hb⟩
      have HB2 := Lib.hid (rstep HB1.out hb); clear hb
      go_wp2_with fail
      go_ret2
      exact ⟨rfl, HB2.out⟩
    | true =>
      rw [BC_yes ⟨g1, g2⟩]
      have HL := Lib.hid (show a.length = b.length by rw [good_len g1, good_len g2])
      rw [g2] at HG2
      clear g1 g2
      go_enter Try.func34, Try.ntmps34
      go_wp2_with fail
      have c0 : ((w.alloc (.cells #[.slice x a.length c] 28)).alloc (.cells #[.slice y b.length c'] 28)).cell? ⟨w.heap.size, 0, none⟩ = some (.slice x a.length c) := by
        have h1 := ((Below.refl (w.heap.size + 1) (w.alloc (.cells #[.slice x a.length c] 28))).alloc (by simp) (.cells #[.slice y b.length c'] 28)).cell (p := ⟨w.heap.size, 0, none⟩) (Nat.lt_succ_self _)
        rw [h1, World.cell?_alloc_new]; rfl
      have c1 : ((w.alloc (.cells #[.slice x a.length c] 28)).alloc (.cells #[.slice y b.length c'] 28)).cell? ⟨w.heap.size + 1, 0, none⟩ = some (.slice y b.length c') := by simp
      have HB0 : Hid (Below w.heap.size w ((w.alloc (.cells #[.slice x a.length c] 28)).alloc (.cells #[.slice y b.length c'] 28))) := Lib.hid (((Below.refl _ _).alloc (Nat.le_refl _) _).alloc (by simp) _)
      generalize (w.alloc (.cells #[.slice x a.length c] 28)).alloc (.cells #[.slice y b.length c'] 28) = w0 at *
      refine (HG1.out _ (HA.out.below HB0.out)).mono ?_
      rintro e w1 ⟨rfl, hb⟩
      have HB1 := Lib.hid (rstep HB0.out hb)
      replace c0 := below_later hb c0
      replace c1 := below_later hb c1
      clear hb
      go_wp2_with fail
      refine (HG2.out _ (HBb.out.below HB1.out)).mono ?_
      rintro e w2 ⟨rfl, hb⟩
      have HB2 := Lib.hid (rstep HB1.out hb)
      replace c0 := below_later hb c0
      replace c1 := below_later hb c1
      clear hb
      go_wp2_with fail
      refine (HC.out _ HB2.out HL.out).mono ?_
      rintro e w3 ⟨rfl, hb⟩
      have HB3 := Lib.hid (rstep HB2.out hb); clear hb
      go_wp2_with fail
      go_ret2
      exact ⟨rfl, HB3.out⟩

set_option maxHeartbeats 1000000 in
theorem impl_BoxHas (w : World) (cs ds : List Value) (a : Bx) (p : List Int) (h : kBox.rd w.heap.size w cs a) (h' : kIntS.rd w.heap.size w ds p) :
    Calls Try.prog 39 #[.agg cs.toArray, one ds] w fun e w' => e = .returned (.tuple #[.bool (R_BoxHas a p).1, .bool (R_BoxHas a p).2]) ∧ Below w.heap.size w w' := by
  obtain ⟨x, c, rfl, r1, l1, -⟩ := box_form h
  obtain ⟨y, c', rfl⟩ := kSl_form h'
  show Calls Try.prog 39 #[.agg #[.slice x a.length c], .slice y p.length c'] w _
  have HG1 := Lib.hid (fun wx (h : Rw wx x (sds a)) => impl_goodBox x c a wx h l1)
  have HG2 := Lib.hid (fun wx (hb : Below w.heap.size w wx) => impl_pointOK (kIntS_ok.later h' hb))
  have HC := Lib.hid (fun wx (hb : Below w.heap.size w wx) (hl : a.length = p.length) => impl_has (kBox_ok.later h hb) (kIntS_ok.later h' hb) hl)
  have HA := Lib.hid r1
  clear h h' r1
  have HB0 : Hid (Below w.heap.size w (w.alloc (.cells #[.slice x a.length c] 28))) := Lib.hid ((Below.refl _ _).alloc (Nat.le_refl _) _)
  have c0 : (w.alloc (.cells #[.slice x a.length c] 28)).cell? ⟨w.heap.size, 0, none⟩ = some (.slice x a.length c) := by rw [World.cell?_alloc_new]; rfl
  cases g1 : GoodR a with
  | false =>
    rw [BH_no (fun h => by rw [g1] at h; cases h.1)]
    rw [g1] at HG1
    go_enter Try.func39, Try.ntmps39
    go_wp2_with fail
    refine (HG1.out _ (HA.out.below HB0.out)).mono ?_
    rintro e w1 ⟨rfl, hb⟩
    have HB1 := Lib.hid (rstep HB0.out hb)
    clear hb
    go_wp2_with fail
    go_ret2
    exact ⟨rfl, HB1.out⟩
  | true =>
    rw [g1] at HG1
    cases g2 : pointR p with
    | false =>
      rw [BH_no (fun h => by rw [g2] at h; cases h.2)]
      rw [g2] at HG2
      clear g1 g2
      go_enter Try.func39, Try.ntmps39
      go_wp2_with fail
      refine (HG1.out _ (HA.out.below HB0.out)).mono ?_
      rintro e w1 ⟨rfl, hb⟩
      have HB1 := Lib.hid (rstep HB0.out hb)
      clear hb
      go_wp2_with fail
      refine (HG2.out _ HB1.out).mono ?_
      rintro e w2 ⟨rfl, hb⟩
      have HB2 := Lib.hid (rstep HB1.out hb); clear hb
      go_wp2_with fail
      go_ret2
      exact ⟨rfl, HB2.out⟩
    | true =>
      rw [BH_yes ⟨g1, g2⟩]
      have HL := Lib.hid (show a.length = p.length by rw [good_len g1, point_len g2])
      rw [g2] at HG2
      clear g1 g2
      go_enter Try.func39, Try.ntmps39
      go_wp2_with fail
      refine (HG1.out _ (HA.out.below HB0.out)).mono ?_
      rintro e w1 ⟨rfl, hb⟩
      have HB1 := Lib.hid (rstep HB0.out hb)
      replace c0 := below_later hb c0
      clear hb
      go_wp2_with fail
      refine (HG2.out _ HB1.out).mono ?_
      rintro e w2 ⟨rfl, hb⟩
      have HB2 := Lib.hid (rstep HB1.out hb)
      replace c0 := below_later hb c0
      clear hb
      go_wp2_with fail
      refine (HC.out _ HB2.out HL.out).mono ?_
      rintro e w3 ⟨rfl, hb⟩
      have HB3 := Lib.hid (rstep HB2.out hb); clear hb
      go_wp2_with fail
      go_ret2
      exact ⟨rfl, HB3.out⟩
end Go.Proofs.Ythlajmncpejhmaa
