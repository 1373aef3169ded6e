/- The contracts of MeetBoxes, the program's and the reference's: the callers of meet. -/
import Derived.Test.YthlajmncpejhmaaMeet
namespace Go.Proofs.Ythlajmncpejhmaa
set_option linter.unusedVariables false
open Go.ChangeShapes Go.WideShapes Go.ChangeAt Go.RowKit
set_option maxRecDepth 100000

def MBR (xs ys : Bx) : Bx × Bool := if GoodR xs = true ∧ GoodR ys = true then MR xs ys else ([], false)
theorem MBR_no (xs ys : Bx) (h : ¬ (GoodR xs = true ∧ GoodR ys = true)) : MBR xs ys = ([], false) := if_neg h
theorem MBR_yes (xs ys : Bx) (h : GoodR xs = true ∧ GoodR ys = true) : MBR xs ys = MR xs ys := if_pos h
theorem MR_good (xs ys : Bx) (h : GoodR xs = true ∧ GoodR ys = true) : MR xs ys = (if GoodR (zipF meetP xs ys 3) = true then (zipF meetP xs ys 3, true) else ([], false)) := by
  unfold MR; rw [meet_good xs ys h.1 h.2]


set_option maxHeartbeats 4000000 in
theorem spec_meetBoxes (a b : Option Addr) (cap cap' : Nat) (xs ys : List (Int × Int)) (w : World) (ha : Rw w a (sds xs)) (hb : Rw w b (sds ys)) (hx : xs.length ≤ 9223372036854775807) (hy : ys.length ≤ 9223372036854775807)  :
    Calls Try.prog 16 #[.agg #[.slice a xs.length cap], .agg #[.slice b ys.length cap']] w (MadeBox (MBR xs ys) w) := by
  obtain ⟨i0, hi, hz0, hz1, hz2⟩ := info_parts Try.infoSide
  have HG1 := Lib.hid (fun wx (h : Rw wx a (sds xs)) => spec_goodBox a cap xs wx h hx)
  have HG2 := Lib.hid (fun wx (h : Rw wx b (sds ys)) => spec_goodBox b cap' ys wx h hy)
  have HA := Lib.hid ha; have HB := Lib.hid hb
  have hb3 : ∀ o1 o2 o3, Below w.heap.size w (((w.alloc o1).alloc o2).alloc o3) := below_3 w
  have HB3 := Lib.hid hb3
  clear ha hb hb3
  cases g1 : GoodR xs with
  | false =>
    rw [MBR_no xs ys (fun h => by rw [g1] at h; exact absurd h.1 (by decide))]
    rw [g1] at HG1
    clear g1
    go_enter Try.func16, Try.ntmps16
    go_wp2_with fail
    refine (HG1.out _ (HA.out.below (HB3.out _ _ _))).mono ?_
    rintro e w2 ⟨rfl, hb2⟩
    have HX2 := Lib.hid (box3_step (box3_start w _ _ _) hb2)
    clear hb2
    have cb := box3_b HX2.out 0
    have cc := box3_c HX2.out 0
    have cf := box3_f HX2.out 0
    go_wp2_with fail
    refine bodyPost_ret (v := .tuple #[.agg #[.slice none 0 0], .bool false]) (by simp [results, Try.results16, go_sem, cc]) rfl ⟨_, rfl, World.ownsRow_nil _ _ _ _, ?_⟩
    exact (box3_below HX2.out).setCell (p := ⟨w.heap.size + 2, 0, none⟩) (by show w.heap.size ≤ w.heap.size + 2; omega) _
  | true =>
    rw [g1] at HG1
    cases g2 : GoodR ys with
    | false =>
      rw [MBR_no xs ys (fun h => by rw [g2] at h; exact absurd h.2 (by decide))]
      rw [g2] at HG2
      clear g1 g2
      go_enter Try.func16, Try.ntmps16
      go_wp2_with fail
      refine (HG1.out _ (HA.out.below (HB3.out _ _ _))).mono ?_
      rintro e w2 ⟨rfl, hb2⟩
      have HX2 := Lib.hid (box3_step (box3_start w _ _ _) hb2)
      clear hb2
      have cb := box3_b HX2.out 0
      have cc := box3_c HX2.out 0
      have cf := box3_f HX2.out 0
      go_wp2_with fail
      refine (HG2.out _ (HB.out.below (box3_below HX2.out))).mono ?_
      rintro e w3 ⟨rfl, hb3⟩
      have HX3 := Lib.hid (box3_step HX2.out hb3)
      clear hb3 cb cc cf
      have cc := box3_c HX3.out 0
      have cf := box3_f HX3.out 0
      go_wp2_with fail
      refine bodyPost_ret (v := .tuple #[.agg #[.slice none 0 0], .bool false]) (by simp [results, Try.results16, go_sem, cc]) rfl ⟨_, rfl, World.ownsRow_nil _ _ _ _, ?_⟩
      exact (box3_below HX3.out).setCell (p := ⟨w.heap.size + 2, 0, none⟩) (by show w.heap.size ≤ w.heap.size + 2; omega) _
    | true =>
      rw [MBR_yes xs ys ⟨g1, g2⟩]
      skip
      have HL1 := Lib.hid (good_len g1)
      have HL2 := Lib.hid (good_len g2)
      rw [g2] at HG2
      clear g1 g2
      go_enter Try.func16, Try.ntmps16
      go_wp2_with fail
      refine (HG1.out _ (HA.out.below (HB3.out _ _ _))).mono ?_
      rintro e w2 ⟨rfl, hb2⟩
      have HX2 := Lib.hid (box3_step (box3_start w _ _ _) hb2)
      clear hb2
      have cb := box3_b HX2.out 0
      have cc := box3_c HX2.out 0
      have cf := box3_f HX2.out 0
      go_wp2_with fail
      refine (HG2.out _ (HB.out.below (box3_below HX2.out))).mono ?_
      rintro e w3 ⟨rfl, hb3⟩
      have HX3 := Lib.hid (box3_step HX2.out hb3)
      clear hb3 cb cc cf
      have cb := box3_b HX3.out 0
      have cc := box3_c HX3.out 0
      have cf := box3_f HX3.out 0
      have ca : w3.cell? ⟨w.heap.size, 0, none⟩ = some (.slice a xs.length cap) := (HX3.out.cell (p := ⟨w.heap.size, 0, none⟩) (by show w.heap.size < w.heap.size + 3; omega)).trans (by go_simp)
      have hsz := box3_size HX3.out
      have hs0 : w.heap.size < w3.heap.size := by omega
      have hs1 : w.heap.size + 1 < w3.heap.size := by omega
      have hs2 : w.heap.size + 2 < w3.heap.size := by omega
      go_wp2_with fail
      have HCM := Lib.hid (fun (wx : World) (h1 : Rw wx a (sds xs)) (h2 : Rw wx b (sds ys)) => spec_meet a b cap cap' xs ys wx h1 h2 HL1.out HL2.out)
      go_wp2_with fail
      refine (HCM.out _ (HA.out.below (box3_below HX3.out)) (HB.out.below (box3_below HX3.out))).mono ?_
      rintro e w5 ⟨v5, rfl, ho5, hb5⟩
      have HX5 := Lib.hid (box3_step HX3.out hb5)
      have k5 := box3_c HX5.out 0
      have k6 := box3_f HX5.out 0
      have HO5 := Lib.hid ho5
      obtain ⟨a5, cap5, rfl⟩ := form_of_own ho5
      clear ho5
      generalize MR xs ys = R at *
      obtain ⟨z, r⟩ := R
      go_wp2_with fail
      refine bodyPost_ret (v := .tuple #[.agg #[.slice a5 z.length cap5], .bool r]) (by simp [results, Try.results16, go_sem, k5]) rfl ⟨_, rfl, ?_, ?_⟩
      · exact own_mono (ownsRow_setCell_below HO5.out (a := ⟨w.heap.size + 2, 0, none⟩) (by show w.heap.size + 2 < w3.heap.size; omega) _) (by omega)
      · exact (box3_below HX5.out).setCell (p := ⟨w.heap.size + 2, 0, none⟩) (by show w.heap.size ≤ w.heap.size + 2; omega) _
set_option maxHeartbeats 4000000 in
theorem impl_meetBoxes_t (a b : Option Addr) (cap cap' : Nat) (xs ys : List (Int × Int)) (w : World) (ha : Rw w a (sds xs)) (hb : Rw w b (sds ys)) (hx : xs.length ≤ 9223372036854775807) (hy : ys.length ≤ 9223372036854775807) (hz : GoodR (zipF meetP xs ys 3) = true) :
    Calls Try.prog 17 #[.agg #[.slice a xs.length cap], .agg #[.slice b ys.length cap']] w (MadeBox (MBR xs ys) w) := by
  obtain ⟨i0, hi, hz0, hz1, hz2⟩ := info_parts Try.infoSide
  have HG1 := Lib.hid (fun wx (h : Rw wx a (sds xs)) => impl_goodBox a cap xs wx h hx)
  have HG2 := Lib.hid (fun wx (h : Rw wx b (sds ys)) => impl_goodBox b cap' ys wx h hy)
  have HA := Lib.hid ha; have HB := Lib.hid hb
  have hb3 : ∀ o1 o2 o3, Below w.heap.size w (((w.alloc o1).alloc o2).alloc o3) := below_3 w
  have HB3 := Lib.hid hb3
  clear ha hb hb3
  cases g1 : GoodR xs with
  | false =>
    rw [MBR_no xs ys (fun h => by rw [g1] at h; exact absurd h.1 (by decide))]
    rw [g1] at HG1
    clear g1
    go_enter Try.func17, Try.ntmps17
    go_wp2_with fail
    refine (HG1.out _ (HA.out.below (HB3.out _ _ _))).mono ?_
    rintro e w2 ⟨rfl, hb2⟩
    have HX2 := Lib.hid (box3_step (box3_start w _ _ _) hb2)
    clear hb2
    have cb := box3_b HX2.out 0
    have cc := box3_c HX2.out 0
    have cf := box3_f HX2.out 0
    go_wp2_with fail
    refine bodyPost_ret (v := .tuple #[.agg #[.slice none 0 0], .bool false]) (by simp [results, Try.results17, go_sem, cc]) rfl ⟨_, rfl, World.ownsRow_nil _ _ _ _, ?_⟩
    exact (box3_below HX2.out).setCell (p := ⟨w.heap.size + 2, 0, none⟩) (by show w.heap.size ≤ w.heap.size + 2; omega) _
  | true =>
    rw [g1] at HG1
    cases g2 : GoodR ys with
    | false =>
      rw [MBR_no xs ys (fun h => by rw [g2] at h; exact absurd h.2 (by decide))]
      rw [g2] at HG2
      clear g1 g2
      go_enter Try.func17, Try.ntmps17
      go_wp2_with fail
      refine (HG1.out _ (HA.out.below (HB3.out _ _ _))).mono ?_
      rintro e w2 ⟨rfl, hb2⟩
      have HX2 := Lib.hid (box3_step (box3_start w _ _ _) hb2)
      clear hb2
      have cb := box3_b HX2.out 0
      have cc := box3_c HX2.out 0
      have cf := box3_f HX2.out 0
      go_wp2_with fail
      refine (HG2.out _ (HB.out.below (box3_below HX2.out))).mono ?_
      rintro e w3 ⟨rfl, hb3⟩
      have HX3 := Lib.hid (box3_step HX2.out hb3)
      clear hb3 cb cc cf
      have cc := box3_c HX3.out 0
      have cf := box3_f HX3.out 0
      go_wp2_with fail
      refine bodyPost_ret (v := .tuple #[.agg #[.slice none 0 0], .bool false]) (by simp [results, Try.results17, go_sem, cc]) rfl ⟨_, rfl, World.ownsRow_nil _ _ _ _, ?_⟩
      exact (box3_below HX3.out).setCell (p := ⟨w.heap.size + 2, 0, none⟩) (by show w.heap.size ≤ w.heap.size + 2; omega) _
    | true =>
      rw [MBR_yes xs ys ⟨g1, g2⟩]
      rw [MR_good xs ys ⟨g1, g2⟩, if_pos hz]
      have HGZ := Lib.hid hz; clear hz
      have HL1 := Lib.hid (good_len g1)
      have HL2 := Lib.hid (good_len g2)
      rw [g2] at HG2
      clear g1 g2
      go_enter Try.func17, Try.ntmps17
      go_wp2_with fail
      refine (HG1.out _ (HA.out.below (HB3.out _ _ _))).mono ?_
      rintro e w2 ⟨rfl, hb2⟩
      have HX2 := Lib.hid (box3_step (box3_start w _ _ _) hb2)
      clear hb2
      have cb := box3_b HX2.out 0
      have cc := box3_c HX2.out 0
      have cf := box3_f HX2.out 0
      go_wp2_with fail
      refine (HG2.out _ (HB.out.below (box3_below HX2.out))).mono ?_
      rintro e w3 ⟨rfl, hb3⟩
      have HX3 := Lib.hid (box3_step HX2.out hb3)
      clear hb3 cb cc cf
      have cb := box3_b HX3.out 0
      have cc := box3_c HX3.out 0
      have cf := box3_f HX3.out 0
      have ca : w3.cell? ⟨w.heap.size, 0, none⟩ = some (.slice a xs.length cap) := (HX3.out.cell (p := ⟨w.heap.size, 0, none⟩) (by show w.heap.size < w.heap.size + 3; omega)).trans (by go_simp)
      have hsz := box3_size HX3.out
      have hs0 : w.heap.size < w3.heap.size := by omega
      have hs1 : w.heap.size + 1 < w3.heap.size := by omega
      have hs2 : w.heap.size + 2 < w3.heap.size := by omega
      go_wp2_with fail
      have HCM := Lib.hid (fun (wx : World) (h1 : Rw wx a (sds xs)) (h2 : Rw wx b (sds ys)) => impl_meet a b cap cap' xs ys wx h1 h2 HL1.out HL2.out)
      rw [HGZ.out] at HCM
      have HZL : Hid ((zipF meetP xs ys 3).length = 3) := Lib.hid (zipF_length _ _ _ _)
      generalize zipF meetP xs ys 3 = z at *
      refine (HCM.out _ (HA.out.below (box3_below HX3.out)) (HB.out.below (box3_below HX3.out))).mono ?_
      rintro e w5 ⟨v5, rfl, ho5, hb5⟩
      have hz5 : (z, true).1.length = 3 := HZL.out
      rw [hz5] at ho5
      obtain ⟨g5, cp5, rfl, _, _⟩ := ho5.form (by omega : 1 ≤ 3)
      have HO5 := Lib.hid ho5; clear ho5
      have HX5 := Lib.hid (box3_step HX3.out hb5); clear hb5
      have k5 : w5.cell? ⟨w.heap.size + 2, 0, none⟩ = some (.slice none 0 0) := box3_c HX5.out 0
      have k6 := box3_f HX5.out 0
      have k7 := box3_size HX5.out
      have k8 : w.heap.size + 2 < w5.heap.size := by omega
      have k9 : w5.heap.size ≠ w.heap.size + 2 := by omega
      go_wp2_with fail
      have kc : ((w5.setCell ⟨w.heap.size + 1 + 1, 0, none⟩ (.slice (some ⟨g5, 0, none⟩) 3 cp5)).alloc (.cells #[.slice (some ⟨g5, 0, none⟩) 3 cp5] 28)).cell? ⟨w.heap.size + 1 + 1, 0, none⟩ = some (.slice (some ⟨g5, 0, none⟩) 3 cp5) := cell_alloc _ (World.cell?_setCell_same _ _ _ k5)
      refine bodyPost_ret (v := .tuple #[.agg #[.slice (some ⟨g5, 0, none⟩) 3 cp5], .bool true]) (by simp [results, Try.results17, go_sem, kc]) rfl ⟨_, rfl, ?_, ?_⟩
      · show World.ownsRow _ _ _ _ _ z.length _
        rw [HZL.out]
        exact own_mono ((ownsRow_setCell_below HO5.out (a := ⟨w.heap.size + 2, 0, none⟩) (by show w.heap.size + 2 < w3.heap.size; omega) _).alloc _) (by omega)
      · exact ((box3_below HX5.out).setCell (p := ⟨w.heap.size + 2, 0, none⟩) (by show w.heap.size ≤ w.heap.size + 2; omega) _).alloc (by rw [World.size_setCell]; exact (box3_below HX5.out).size) _
set_option maxHeartbeats 4000000 in
theorem impl_meetBoxes_f (a b : Option Addr) (cap cap' : Nat) (xs ys : List (Int × Int)) (w : World) (ha : Rw w a (sds xs)) (hb : Rw w b (sds ys)) (hx : xs.length ≤ 9223372036854775807) (hy : ys.length ≤ 9223372036854775807) (hz : GoodR (zipF meetP xs ys 3) = false) :
    Calls Try.prog 17 #[.agg #[.slice a xs.length cap], .agg #[.slice b ys.length cap']] w (MadeBox (MBR xs ys) w) := by
  obtain ⟨i0, hi, hz0, hz1, hz2⟩ := info_parts Try.infoSide
  have HG1 := Lib.hid (fun wx (h : Rw wx a (sds xs)) => impl_goodBox a cap xs wx h hx)
  have HG2 := Lib.hid (fun wx (h : Rw wx b (sds ys)) => impl_goodBox b cap' ys wx h hy)
  have HA := Lib.hid ha; have HB := Lib.hid hb
  have hb3 : ∀ o1 o2 o3, Below w.heap.size w (((w.alloc o1).alloc o2).alloc o3) := below_3 w
  have HB3 := Lib.hid hb3
  clear ha hb hb3
  cases g1 : GoodR xs with
  | false =>
    rw [MBR_no xs ys (fun h => by rw [g1] at h; exact absurd h.1 (by decide))]
    rw [g1] at HG1
    clear g1
    go_enter Try.func17, Try.ntmps17
    go_wp2_with fail
    refine (HG1.out _ (HA.out.below (HB3.out _ _ _))).mono ?_
    rintro e w2 ⟨rfl, hb2⟩
    have HX2 := Lib.hid (box3_step (box3_start w _ _ _) hb2)
    clear hb2
    have cb := box3_b HX2.out 0
    have cc := box3_c HX2.out 0
    have cf := box3_f HX2.out 0
    go_wp2_with fail
    refine bodyPost_ret (v := .tuple #[.agg #[.slice none 0 0], .bool false]) (by simp [results, Try.results17, go_sem, cc]) rfl ⟨_, rfl, World.ownsRow_nil _ _ _ _, ?_⟩
    exact (box3_below HX2.out).setCell (p := ⟨w.heap.size + 2, 0, none⟩) (by show w.heap.size ≤ w.heap.size + 2; omega) _
  | true =>
    rw [g1] at HG1
    cases g2 : GoodR ys with
    | false =>
      rw [MBR_no xs ys (fun h => by rw [g2] at h; exact absurd h.2 (by decide))]
      rw [g2] at HG2
      clear g1 g2
      go_enter Try.func17, Try.ntmps17
      go_wp2_with fail
      refine (HG1.out _ (HA.out.below (HB3.out _ _ _))).mono ?_
      rintro e w2 ⟨rfl, hb2⟩
      have HX2 := Lib.hid (box3_step (box3_start w _ _ _) hb2)
      clear hb2
      have cb := box3_b HX2.out 0
      have cc := box3_c HX2.out 0
      have cf := box3_f HX2.out 0
      go_wp2_with fail
      refine (HG2.out _ (HB.out.below (box3_below HX2.out))).mono ?_
      rintro e w3 ⟨rfl, hb3⟩
      have HX3 := Lib.hid (box3_step HX2.out hb3)
      clear hb3 cb cc cf
      have cc := box3_c HX3.out 0
      have cf := box3_f HX3.out 0
      go_wp2_with fail
      refine bodyPost_ret (v := .tuple #[.agg #[.slice none 0 0], .bool false]) (by simp [results, Try.results17, go_sem, cc]) rfl ⟨_, rfl, World.ownsRow_nil _ _ _ _, ?_⟩
      exact (box3_below HX3.out).setCell (p := ⟨w.heap.size + 2, 0, none⟩) (by show w.heap.size ≤ w.heap.size + 2; omega) _
    | true =>
      rw [MBR_yes xs ys ⟨g1, g2⟩]
      rw [MR_good xs ys ⟨g1, g2⟩, if_neg (by rw [hz]; decide)]
      have HGZ := Lib.hid hz; clear hz
      have HL1 := Lib.hid (good_len g1)
      have HL2 := Lib.hid (good_len g2)
      rw [g2] at HG2
      clear g1 g2
      go_enter Try.func17, Try.ntmps17
      go_wp2_with fail
      refine (HG1.out _ (HA.out.below (HB3.out _ _ _))).mono ?_
      rintro e w2 ⟨rfl, hb2⟩
      have HX2 := Lib.hid (box3_step (box3_start w _ _ _) hb2)
      clear hb2
      have cb := box3_b HX2.out 0
      have cc := box3_c HX2.out 0
      have cf := box3_f HX2.out 0
      go_wp2_with fail
      refine (HG2.out _ (HB.out.below (box3_below HX2.out))).mono ?_
      rintro e w3 ⟨rfl, hb3⟩
      have HX3 := Lib.hid (box3_step HX2.out hb3)
      clear hb3 cb cc cf
      have cb := box3_b HX3.out 0
      have cc := box3_c HX3.out 0
      have cf := box3_f HX3.out 0
      have ca : w3.cell? ⟨w.heap.size, 0, none⟩ = some (.slice a xs.length cap) := (HX3.out.cell (p := ⟨w.heap.size, 0, none⟩) (by show w.heap.size < w.heap.size + 3; omega)).trans (by go_simp)
      have hsz := box3_size HX3.out
      have hs0 : w.heap.size < w3.heap.size := by omega
      have hs1 : w.heap.size + 1 < w3.heap.size := by omega
      have hs2 : w.heap.size + 2 < w3.heap.size := by omega
      go_wp2_with fail
      have HCM := Lib.hid (fun (wx : World) (h1 : Rw wx a (sds xs)) (h2 : Rw wx b (sds ys)) => impl_meet a b cap cap' xs ys wx h1 h2 HL1.out HL2.out)
      rw [HGZ.out] at HCM
      have HZL : Hid ((zipF meetP xs ys 3).length = 3) := Lib.hid (zipF_length _ _ _ _)
      generalize zipF meetP xs ys 3 = z at *
      refine (HCM.out _ (HA.out.below (box3_below HX3.out)) (HB.out.below (box3_below HX3.out))).mono ?_
      rintro e w5 ⟨v5, rfl, ho5, hb5⟩
      have hz5 : (z, false).1.length = 3 := HZL.out
      rw [hz5] at ho5
      obtain ⟨g5, cp5, rfl, _, _⟩ := ho5.form (by omega : 1 ≤ 3)
      have HO5 := Lib.hid ho5; clear ho5
      have HX5 := Lib.hid (box3_step HX3.out hb5); clear hb5
      have k5 : w5.cell? ⟨w.heap.size + 2, 0, none⟩ = some (.slice none 0 0) := box3_c HX5.out 0
      have k6 := box3_f HX5.out 0
      have k7 := box3_size HX5.out
      have k8 : w.heap.size + 2 < w5.heap.size := by omega
      have k9 : w5.heap.size ≠ w.heap.size + 2 := by omega
      go_wp2_with fail
      have kc : ((w5.setCell ⟨w.heap.size + 1 + 1, 0, none⟩ (.slice none 0 0)).alloc (.cells #[.slice (some ⟨g5, 0, none⟩) 3 cp5] 28)).cell? ⟨w.heap.size + 1 + 1, 0, none⟩ = some (.slice none 0 0) := cell_alloc _ (World.cell?_setCell_same _ _ _ k5)
      refine bodyPost_ret (v := .tuple #[.agg #[.slice none 0 0], .bool false]) (by simp [results, Try.results17, go_sem, kc]) rfl ⟨_, rfl, World.ownsRow_nil _ _ _ _, ?_⟩
      exact ((box3_below HX5.out).setCell (p := ⟨w.heap.size + 2, 0, none⟩) (by show w.heap.size ≤ w.heap.size + 2; omega) _).alloc (by rw [World.size_setCell]; exact (box3_below HX5.out).size) _

theorem impl_meetBoxes (a b : Option Addr) (cap cap' : Nat) (xs ys : List (Int × Int)) (w : World) (ha : Rw w a (sds xs)) (hb : Rw w b (sds ys)) (hx : xs.length ≤ 9223372036854775807) (hy : ys.length ≤ 9223372036854775807) :
    Calls Try.prog 17 #[.agg #[.slice a xs.length cap], .agg #[.slice b ys.length cap']] w (MadeBox (MBR xs ys) w) := by
  cases h : GoodR (zipF meetP xs ys 3) with
  | true => exact impl_meetBoxes_t a b cap cap' xs ys w ha hb hx hy h
  | false => exact impl_meetBoxes_f a b cap cap' xs ys w ha hb hx hy h

def R_MeetBoxes (a b : Bx) : Bx × Bool := MBR a b
theorem meet_wf (a b : Bx) : ∀ p ∈ (MBR a b).1, (Lit.int .i64 p.1).wf = true ∧ (Lit.int .i64 p.2).wf = true := by
  by_cases h : GoodR a = true ∧ GoodR b = true
  · rw [MBR_yes a b h]
    unfold MR
    split
    · intro p hp
      simp only [zipF, List.mem_map, List.mem_range] at hp
      obtain ⟨i, hi, rfl⟩ := hp
      have h1 := good_at h.1 i hi; have h2 := good_at h.2 i hi
      generalize a.getD i (0, 0) = x at *
      generalize b.getD i (0, 0) = y at *
      unfold meetP
      exact ⟨WalkArith.wf_i64 (by split <;> omega), WalkArith.wf_i64 (by split <;> omega)⟩
    · simp
  · rw [MBR_no a b h]; simp
theorem R_MeetBoxes_ok (a b : Bx) (_h : kBox.wt a + kBox.wt b ≤ 1048576) : kBox.cnt (R_MeetBoxes a b).1 ≤ 16777215 := by
  rw [sides_cnt]
  unfold R_MeetBoxes MBR MR
  split
  · split <;> simp [zipF]
  · simp

theorem impl_MeetBoxes (w : World) (cs0 cs1 : List Value) (a0 a1 : Bx) (h0 : kBox.rd w.heap.size w cs0 a0) (h1 : kBox.rd w.heap.size w cs1 a1) (_ht : kBox.wt a0 + kBox.wt a1 ≤ 1048576) :
    Calls Try.prog 17 #[.agg cs0.toArray, .agg cs1.toArray] w (Made kBox (fun cs => .tuple #[.agg cs.toArray, .bool (R_MeetBoxes a0 a1).2]) (R_MeetBoxes a0 a1).1 w) := by
  obtain ⟨a, cap, rfl, r1, l1, _⟩ := box_form h0
  obtain ⟨b, cap', rfl, r2, l2, _⟩ := box_form h1
  exact (impl_meetBoxes a b cap cap' a0 a1 w r1 r2 l1 l2).mono fun e w' h => made_box (meet_wf a0 a1) h
theorem spec_MeetBoxes (w : World) (cs0 cs1 : List Value) (a0 a1 : Bx) (h0 : kBox.rd w.heap.size w cs0 a0) (h1 : kBox.rd w.heap.size w cs1 a1) (_ht : kBox.wt a0 + kBox.wt a1 ≤ 1048576) :
    Calls Try.prog 16 #[.agg cs0.toArray, .agg cs1.toArray] w (Made kBox (fun cs => .tuple #[.agg cs.toArray, .bool (R_MeetBoxes a0 a1).2]) (R_MeetBoxes a0 a1).1 w) := by
  obtain ⟨a, cap, rfl, r1, l1, _⟩ := box_form h0
  obtain ⟨b, cap', rfl, r2, l2, _⟩ := box_form h1
  exact (spec_meetBoxes a b cap cap' a0 a1 w r1 r2 l1 l2).mono fun e w' h => made_box (meet_wf a0 a1) h
end Go.Proofs.Ythlajmncpejhmaa
