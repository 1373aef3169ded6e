/- The contracts of HullOf, the program's and the reference's. -/
import Derived.Test.YthlajmncpejhmaaBoxH
import Derived.Test.YthlajmncpejhmaaGoodBox
import Derived.OwnWalk
import Derived.Deep.AppendLies
import Derived.Lib.SmallJoins
import Derived.Test.YthlajmncpejhmaaSched
namespace Go.Proofs.Ythlajmncpejhmaa
set_option linter.unusedVariables false
open Go.ChangeShapes Go.WideShapes Go.ChangeAt Go.RowKit
set_option maxRecDepth 100000

def hullP (a b : Int × Int) : Int × Int := (if b.1 < a.1 then b.1 else a.1, if b.2 > a.2 then b.2 else a.2)
def zipF (f : Int × Int → Int × Int → Int × Int) (xs ys : List (Int × Int)) (k : Nat) : List (Int × Int) := (List.range k).map fun i => f (xs.getD i (0, 0)) (ys.getD i (0, 0))
@[simp] theorem zipF_length (f : Int × Int → Int × Int → Int × Int) (xs ys : List (Int × Int)) (k : Nat) : (zipF f xs ys k).length = k := by simp [zipF]
theorem zipF_snoc (f : Int × Int → Int × Int → Int × Int) (xs ys : List (Int × Int)) (k : Nat) : zipF f xs ys (k + 1) = zipF f xs ys k ++ [f (xs.getD k (0, 0)) (ys.getD k (0, 0))] := by simp [zipF, List.range_succ]
def HullR (xs ys : List (Int × Int)) : List (Int × Int) × Bool := if GoodR xs = true ∧ GoodR ys = true then (zipF hullP xs ys 3, true) else ([], false)
theorem HullR_no (xs ys : List (Int × Int)) (h : ¬ (GoodR xs = true ∧ GoodR ys = true)) : HullR xs ys = ([], false) := by unfold HullR; rw [if_neg h]
theorem HullR_yes (xs ys : List (Int × Int)) (h : GoodR xs = true ∧ GoodR ys = true) : HullR xs ys = (zipF hullP xs ys 3, true) := by unfold HullR; rw [if_pos h]
theorem good_len {xs : List (Int × Int)} (h : GoodR xs = true) : xs.length = 3 := by unfold GoodR at h; simp at h; exact h.1
def MadeBox (R : List (Int × Int) × Bool) (w : World) (e : Ending) (w' : World) : Prop :=
  ∃ v, e = .returned (.tuple #[.agg #[v], .bool R.2]) ∧ w'.ownsRow w.heap.size 64 2 v R.1.length (sds R.1) ∧ Below w.heap.size w w'

theorem box3_start (w : World) (o1 o2 o3 : Obj) : Below (w.heap.size + 3) (((w.alloc o1).alloc o2).alloc o3) (((w.alloc o1).alloc o2).alloc o3) := Below.refl _ _
theorem box3_step {w wx wy : World} {o1 o2 o3 : Obj} (h : Below (w.heap.size + 3) (((w.alloc o1).alloc o2).alloc o3) wx) (hb : Below wx.heap.size wx wy) : Below (w.heap.size + 3) (((w.alloc o1).alloc o2).alloc o3) wy :=
  h.trans (hb.mono (by have := h.size; simp at this; omega))
theorem box3_below {w wx : World} {o1 o2 o3 : Obj} (h : Below (w.heap.size + 3) (((w.alloc o1).alloc o2).alloc o3) wx) : Below w.heap.size w wx := (below_3 w _ _ _).trans (h.mono (by omega))
theorem box3_size {w wx : World} {o1 o2 o3 : Obj} (h : Below (w.heap.size + 3) (((w.alloc o1).alloc o2).alloc o3) wx) : w.heap.size + 3 ≤ wx.heap.size := by have := h.size; simp at this; omega
theorem box3_b {w wx : World} {C1 C2 C3 : Array Value} {T1 T2 T3 : TypeId} (h : Below (w.heap.size + 3) (((w.alloc (.cells C1 T1)).alloc (.cells C2 T2)).alloc (.cells C3 T3)) wx) (i : Nat) : wx.cell? ⟨w.heap.size + 1, i, none⟩ = C2[i]? :=
  (h.cell (p := ⟨w.heap.size + 1, i, none⟩) (by show w.heap.size + 1 < w.heap.size + 3; omega)).trans (by go_simp)
theorem box3_c {w wx : World} {C1 C2 C3 : Array Value} {T1 T2 T3 : TypeId} (h : Below (w.heap.size + 3) (((w.alloc (.cells C1 T1)).alloc (.cells C2 T2)).alloc (.cells C3 T3)) wx) (i : Nat) : wx.cell? ⟨w.heap.size + 2, i, none⟩ = C3[i]? :=
  (h.cell (p := ⟨w.heap.size + 2, i, none⟩) (by show w.heap.size + 2 < w.heap.size + 3; omega)).trans (by go_simp)
theorem box3_f {w wx : World} {C1 C2 C3 : Array Value} {T1 T2 T3 : TypeId} (h : Below (w.heap.size + 3) (((w.alloc (.cells C1 T1)).alloc (.cells C2 T2)).alloc (.cells C3 T3)) wx) (i : Nat) : wx.frozen? ⟨w.heap.size + 2, i, none⟩ = false :=
  (h.frozen (p := ⟨w.heap.size + 2, i, none⟩) (by show w.heap.size + 2 < w.heap.size + 3; omega)).trans (by go_simp)

set_option maxHeartbeats 4000000 in
theorem impl_hullOf (a b : Option Addr) (cap cap' : Nat) (xs ys : List (Int × Int)) (w : World) (ha : Rw w a (sds xs)) (hb : Rw w b (sds ys)) (hx : xs.length ≤ 9223372036854775807) (hy : ys.length ≤ 9223372036854775807) :
    Calls Try.prog 12 #[.agg #[.slice a xs.length cap], .agg #[.slice b ys.length cap']] w (MadeBox (HullR xs ys) w) := by
  obtain ⟨i0, hi, hz0, hz1, hz2⟩ := info_parts Try.infoSide
  have HG1 := Lib.hid (fun wx (h : Rw wx a (sds xs)) => impl_goodBox a cap xs wx h hx)
  have HG2 := Lib.hid (fun wx (h : Rw wx b (sds ys)) => impl_goodBox b cap' ys wx h hy)
  have HA := Lib.hid ha; have HB := Lib.hid hb
  have hb3 : ∀ o1 o2 o3, Below w.heap.size w (((w.alloc o1).alloc o2).alloc o3) := below_3 w
  have HB3 := Lib.hid hb3
  clear ha hb hb3
  cases g1 : GoodR xs with
  | false =>
    rw [HullR_no xs ys (fun h => by rw [g1] at h; exact absurd h.1 (by decide))]
    rw [g1] at HG1
    clear g1
    go_enter Try.func12, Try.ntmps12
    go_wp2_with fail
    refine (HG1.out _ (HA.out.below (HB3.out _ _ _))).mono ?_
    rintro e w2 ⟨rfl, hb2⟩
    have HX2 := Lib.hid (box3_step (box3_start w _ _ _) hb2)
    clear hb2
    have cb := box3_b HX2.out 0
    have cc := box3_c HX2.out 0
    have cf := box3_f HX2.out 0
    go_wp2_with fail
    refine bodyPost_ret (v := .tuple #[.agg #[.slice none 0 0], .bool false]) (by simp [results, Try.results12, go_sem, cc]) rfl ⟨_, rfl, World.ownsRow_nil _ _ _ _, ?_⟩
    exact (box3_below HX2.out).setCell (p := ⟨w.heap.size + 2, 0, none⟩) (by show w.heap.size ≤ w.heap.size + 2; omega) _
  | true =>
    rw [g1] at HG1
    cases g2 : GoodR ys with
    | false =>
      rw [HullR_no xs ys (fun h => by rw [g2] at h; exact absurd h.2 (by decide))]
      rw [g2] at HG2
      clear g1 g2
      go_enter Try.func12, Try.ntmps12
      go_wp2_with fail
      refine (HG1.out _ (HA.out.below (HB3.out _ _ _))).mono ?_
      rintro e w2 ⟨rfl, hb2⟩
      have HX2 := Lib.hid (box3_step (box3_start w _ _ _) hb2)
      clear hb2
      have cb := box3_b HX2.out 0
      have cc := box3_c HX2.out 0
      have cf := box3_f HX2.out 0
      go_wp2_with fail
      refine (HG2.out _ (HB.out.below (box3_below HX2.out))).mono ?_
      rintro e w3 ⟨rfl, hb3⟩
      have HX3 := Lib.hid (box3_step HX2.out hb3)
      clear hb3 cb cc cf
      have cc := box3_c HX3.out 0
      have cf := box3_f HX3.out 0
      go_wp2_with fail
      refine bodyPost_ret (v := .tuple #[.agg #[.slice none 0 0], .bool false]) (by simp [results, Try.results12, go_sem, cc]) rfl ⟨_, rfl, World.ownsRow_nil _ _ _ _, ?_⟩
      exact (box3_below HX3.out).setCell (p := ⟨w.heap.size + 2, 0, none⟩) (by show w.heap.size ≤ w.heap.size + 2; omega) _
    | true =>
      rw [HullR_yes xs ys ⟨g1, g2⟩]
      have HL1 := Lib.hid (good_len g1)
      have HL2 := Lib.hid (good_len g2)
      rw [g2] at HG2
      clear g1 g2
      go_enter Try.func12, Try.ntmps12
      go_wp2_with fail
      refine (HG1.out _ (HA.out.below (HB3.out _ _ _))).mono ?_
      rintro e w2 ⟨rfl, hb2⟩
      have HX2 := Lib.hid (box3_step (box3_start w _ _ _) hb2)
      clear hb2
      have cb := box3_b HX2.out 0
      have cc := box3_c HX2.out 0
      have cf := box3_f HX2.out 0
      go_wp2_with fail
      refine (HG2.out _ (HB.out.below (box3_below HX2.out))).mono ?_
      rintro e w3 ⟨rfl, hb3⟩
      have HX3 := Lib.hid (box3_step HX2.out hb3)
      clear hb3 cb cc cf
      have cb := box3_b HX3.out 0
      have cc := box3_c HX3.out 0
      have cf := box3_f HX3.out 0
      have ca : w3.cell? ⟨w.heap.size, 0, none⟩ = some (.slice a xs.length cap) := (HX3.out.cell (p := ⟨w.heap.size, 0, none⟩) (by show w.heap.size < w.heap.size + 3; omega)).trans (by go_simp)
      have hsz := box3_size HX3.out
      have hs0 : w.heap.size < w3.heap.size := by omega
      have hs1 : w.heap.size + 1 < w3.heap.size := by omega
      have hs2 : w.heap.size + 2 < w3.heap.size := by omega
      go_wp2_with fail
      go_loopw [22] (fun iv wr => ∃ (i : Nat) (v : Value), i ≤ 3 ∧ iv = .int .i64 (i : Int) ∧ Hid (wr.cell? ⟨w3.heap.size, 0, none⟩ = some v ∧ wr.frozen? ⟨w3.heap.size, 0, none⟩ = false ∧ w3.heap.size < wr.heap.size) ∧ Hid (wr.ownsRow (w3.heap.size + 1) 64 2 v i (sds (zipF hullP xs ys i))) ∧ Hid (Below w3.heap.size w3 wr)) (fun iv _ => 3 - (intOf iv).toNat)
      case atStart => exact ⟨0, _, by omega, rfl, ⟨by go_simp, by go_simp, by simp⟩, World.ownsRow_nil _ _ _ _, (Below.refl _ _).alloc (Nat.le_refl _) _⟩
      case round =>
        obtain ⟨i, v, hi3, rfl, HCL, HOR, HBR⟩ := hrel
        obtain ⟨co, cof, hlw⟩ := HCL.out
        have HBW := Lib.hid ((box3_below HX3.out).trans (HBR.out.mono (by omega)))
        by_cases hlt : i < 3
        · have HC3 : Hid (i + 1 ≤ maxLen) := by show i + 1 ≤ maxLen; unfold maxLen; omega
          have HC4 : Hid ((i + 1) * 16 ≤ 140737488355328) := by show (i + 1) * 16 ≤ 140737488355328; omega
          have hk1 : i < xs.length := by have := HL1.out; omega
          have hk2 : i < ys.length := by have := HL2.out; omega
          obtain ⟨b1, off1, rfl, hbl1, hc1⟩ := HA.out.at (sds_ne hk1)
          obtain ⟨b2, off2, rfl, hbl2, hc2⟩ := HB.out.at (sds_ne hk2)
          have d1 := (HBW.out.cell (p := ⟨b1, off1 + i * 2, none⟩) hbl1).trans (hc1 _ _ (sds_lo xs i hk1))
          have d2 : wr.cell? ⟨b1, off1 + i * 2 + 1, none⟩ = _ := (HBW.out.cell (p := ⟨b1, off1 + (i * 2 + 1), none⟩) hbl1).trans (hc1 _ _ (sds_hi xs i hk1))
          have d3 := (HBW.out.cell (p := ⟨b2, off2 + i * 2, none⟩) hbl2).trans (hc2 _ _ (sds_lo ys i hk2))
          have d4 : wr.cell? ⟨b2, off2 + i * 2 + 1, none⟩ = _ := (HBW.out.cell (p := ⟨b2, off2 + (i * 2 + 1), none⟩) hbl2).trans (hc2 _ _ (sds_hi ys i hk2))
          have d5 := (HBR.out.cell (p := ⟨w.heap.size + 1, 0, none⟩) hs1).trans cb
          have l1 : b1 < wr.heap.size := by omega
          have l2 : b2 < wr.heap.size := by omega
          have l3 : w.heap.size + 1 < wr.heap.size := by omega
          have HZ : Hid (∀ (wx : World) (v : Value), wx.ownsRow (w3.heap.size + 1) 64 2 v (i + 1) (sds (zipF hullP xs ys i) ++ [.int .i64 (hullP (xs.getD i (0, 0)) (ys.getD i (0, 0))).1, .int .i64 (hullP (xs.getD i (0, 0)) (ys.getD i (0, 0))).2]) → wx.ownsRow (w3.heap.size + 1) 64 2 v (i + 1) (sds (zipF hullP xs ys (i + 1)))) := by
            intro wx v h
            rw [zipF_snoc, sds_snoc]; exact h
          clear hc1 hc2 HG1 HG2
          generalize xs.getD i (0, 0) = p at *
          generalize ys.getD i (0, 0) = q at *
          obtain ⟨x1, x2⟩ := p
          obtain ⟨y1, y2⟩ := q
          have HZ' : Hid (hullP (x1, x2) (y1, y2) = (if y1 < x1 then y1 else x1, if y2 > x2 then y2 else x2)) := Lib.hid rfl
          go_wp2_with fail
          have HW1 : ∃ wx, wx = wr.alloc (.cells #[.int .i64 x1, .int .i64 x2] 64) := ⟨_, rfl⟩
          have m1 : (wr.alloc (.cells #[.int .i64 x1, .int .i64 x2] 64)).cell? ⟨b2, off2 + i * 2, none⟩ = some (.int .i64 y1) := cell_alloc _ d3
          have m2 : (wr.alloc (.cells #[.int .i64 x1, .int .i64 x2] 64)).cell? ⟨b2, off2 + i * 2 + 1, none⟩ = some (.int .i64 y2) := cell_alloc _ d4
          have m3 : (wr.alloc (.cells #[.int .i64 x1, .int .i64 x2] 64)).cell? ⟨w.heap.size + 1, 0, none⟩ = some (.slice (some ⟨b2, off2, none⟩) ys.length cap') := cell_alloc _ d5
          have m4 : (wr.alloc (.cells #[.int .i64 x1, .int .i64 x2] 64)).cell? ⟨w3.heap.size, 0, none⟩ = some v := cell_alloc _ co
          have m5 : (wr.alloc (.cells #[.int .i64 x1, .int .i64 x2] 64)).cell? ⟨wr.heap.size, 0, none⟩ = some (.int .i64 x1) := by go_simp
          have m6 : (wr.alloc (.cells #[.int .i64 x1, .int .i64 x2] 64)).cell? ⟨wr.heap.size, 1, none⟩ = some (.int .i64 x2) := by go_simp
          have HM : Hid _ := Lib.hid (And.intro m1 (And.intro m2 (And.intro m3 (And.intro m4 (And.intro m5 m6)))))
          clear m1 m2 m3 m4 m5 m6
          have HNE : Hid (∀ k, k ≤ w3.heap.size ∨ wr.heap.size ≤ k → some k ≠ v.ownBlock) := Lib.hid (by intro k hk h; have := HOR.out.lt _ h.symm; omega)
          have HNEWS : Hid (∀ (j : Nat) (u : Value), [Value.int .i64 (if y1 < x1 then y1 else x1), Value.int .i64 (if y2 > x2 then y2 else x2)][j]? = some u → ((wr.alloc (.cells #[.int .i64 x1, .int .i64 x2] 64)).alloc (.cells #[.int .i64 (if y1 < x1 then y1 else x1), .int .i64 (if y2 > x2 then y2 else x2)] 64)).cell? ((⟨wr.heap.size + 1, 0, none⟩ : Addr).add j) = some u) := by
            have h := World.news_of_block (cs := #[Value.int .i64 (if y1 < x1 then y1 else x1), Value.int .i64 (if y2 > x2 then y2 else x2)]) (t := 64) (fr := (0, 0)) (heap_alloc_new (wr.alloc (.cells #[.int .i64 x1, .int .i64 x2] 64)) (.cells #[.int .i64 (if y1 < x1 then y1 else x1), .int .i64 (if y2 > x2 then y2 else x2)] 64))
            simp only [World.size_alloc] at h
            exact Lib.hid h
          have ALL := Lib.hid ((HBR.out.alloc HBR.out.size (.cells #[.int .i64 x1, .int .i64 x2] 64)).alloc (by have := HBR.out.size; simp; omega) (.cells #[.int .i64 (if y1 < x1 then y1 else x1), .int .i64 (if y2 > x2 then y2 else x2)] 64))
          have COO := Lib.hid (And.intro (cell_alloc (.cells #[.int .i64 (if y1 < x1 then y1 else x1), .int .i64 (if y2 > x2 then y2 else x2)] 64) (cell_alloc (.cells #[.int .i64 x1, .int .i64 x2] 64) co)) ((frozen_alloc (.cells #[.int .i64 (if y1 < x1 then y1 else x1), .int .i64 (if y2 > x2 then y2 else x2)] 64) (by simp; omega) (frozen_alloc (.cells #[.int .i64 x1, .int .i64 x2] 64) hlw cof))))
          refine wp_region_G [22] (fun w' => w'.cell? ⟨b2, off2 + i * 2, none⟩ = some (.int .i64 y1) ∧ w'.cell? ⟨b2, off2 + i * 2 + 1, none⟩ = some (.int .i64 y2) ∧ w'.cell? ⟨w.heap.size + 1, 0, none⟩ = some (.slice (some ⟨b2, off2, none⟩) ys.length cap') ∧ w'.cell? ⟨w3.heap.size, 0, none⟩ = some v ∧ w'.cell? ⟨wr.heap.size, 0, none⟩ = some (.int .i64 x1) ∧ w'.cell? ⟨wr.heap.size, 1, none⟩ = some (.int .i64 x2)) (by kernel_rfl) ?_ (fun hHeld => ?_)
          · exact HM.out
          refine wpG_pure (i := 0) (oi := { dst := some 27, op := Go.Op.fieldAddr 28 (Go.Operand.tmp 6) 0, type := 0, pos := "l9_cover.go:91", after := #[], guard := none }) (v := ?vg1) rfl (by kernel_rfl) (fun _ _ _ h => h) (Or.inr hHeld) (Or.inl ⟨by rfl, ?yg1⟩) ?_
          case yg1 => (intro wS _; go_simp <;> with_reducible rfl)
          try simp only [Act.put, List.setIfInBounds_toArray, List.set_cons_zero, List.set_cons_succ]
          refine wpG_load (i := 1) (oi := { dst := some 28, op := Go.Op.load 26 (Go.Operand.tmp 27), type := 26, pos := "l9_cover.go:91", after := #[{ on := 0, ground := Go.Ground.data }], guard := none }) (v := ?vg2) [[22, 1]] rfl (by kernel_rfl) (fun _ _ _ h => h) hHeld (Or.inl ⟨by rfl, ?yg2⟩) ?_
          case yg2 => (intro wS hSw; (try dsimp only at hSw); go_simp <;> with_reducible rfl)
          try simp only [Act.put, List.setIfInBounds_toArray, List.set_cons_zero, List.set_cons_succ]
          refine wpG_pure (i := 2) (oi := { dst := some 29, op := Go.Op.fieldAddr 64 (Go.Operand.tmp 8) 0, type := 0, pos := "l9_cover.go:91", after := #[], guard := none }) (v := ?vg3) rfl (by kernel_rfl) (fun _ _ _ h => h) (Or.inr hHeld) (Or.inl ⟨by rfl, ?yg3⟩) ?_
          case yg3 => (intro wS _; go_simp <;> with_reducible rfl)
          try simp only [Act.put, List.setIfInBounds_toArray, List.set_cons_zero, List.set_cons_succ]
          refine wpG_load (i := 3) (oi := { dst := some 30, op := Go.Op.load 3 (Go.Operand.tmp 29), type := 3, pos := "l9_cover.go:91", after := #[{ on := 2, ground := Go.Ground.data }], guard := none }) (v := ?vg4) [[22, 21, 20, 10, 3]] rfl (by kernel_rfl) (fun _ _ _ h => h) hHeld (Or.inl ⟨by rfl, ?yg4⟩) ?_
          case yg4 => (intro wS hSw; (try dsimp only at hSw); go_simp <;> with_reducible rfl)
          try simp only [Act.put, List.setIfInBounds_toArray, List.set_cons_zero, List.set_cons_succ]
          refine wpG_pure (i := 4) (oi := { dst := some 31, op := Go.Op.fieldAddr 28 (Go.Operand.tmp 3) 0, type := 0, pos := "l9_cover.go:91", after := #[], guard := none }) (v := ?vg5) rfl (by kernel_rfl) (fun _ _ _ h => h) (Or.inr hHeld) (Or.inl ⟨by rfl, ?yg5⟩) ?_
          case yg5 => (intro wS _; go_simp <;> with_reducible rfl)
          try simp only [Act.put, List.setIfInBounds_toArray, List.set_cons_zero, List.set_cons_succ]
          refine wpG_load (i := 5) (oi := { dst := some 32, op := Go.Op.load 26 (Go.Operand.tmp 31), type := 26, pos := "l9_cover.go:91", after := #[{ on := 4, ground := Go.Ground.data }], guard := none }) (v := ?vg6) [[22, 21, 20, 10, 9, 8, 7, 5]] rfl (by kernel_rfl) (fun _ _ _ h => h) hHeld (Or.inl ⟨by rfl, ?yg6⟩) ?_
          case yg6 => (intro wS hSw; (try dsimp only at hSw); go_simp <;> with_reducible rfl)
          try simp only [Act.put, List.setIfInBounds_toArray, List.set_cons_zero, List.set_cons_succ]
          refine wpG_pure (i := 6) (oi := { dst := some 33, op := Go.Op.move (Go.Operand.tmp 7), type := 3, pos := "l9_cover.go:91", after := #[], guard := none }) (v := ?vg7) rfl (by kernel_rfl) (fun _ _ _ h => h) (Or.inr hHeld) (Or.inl ⟨by rfl, ?yg7⟩) ?_
          case yg7 => (intro wS _; go_simp <;> with_reducible rfl)
          try simp only [Act.put, List.setIfInBounds_toArray, List.set_cons_zero, List.set_cons_succ]
          refine wpG_pure (i := 7) (oi := { dst := some 34, op := Go.Op.indexAddr 26 (Go.Operand.tmp 32) (Go.Operand.tmp 33), type := 0, pos := "l9_cover.go:91", after := #[{ on := 5, ground := Go.Ground.data }, { on := 6, ground := Go.Ground.data }], guard := none }) (v := ?vg8) rfl (by kernel_rfl) (fun _ _ _ h => h) (Or.inr hHeld) (Or.inl ⟨by rfl, ?yg8⟩) ?_
          case yg8 => (intro wS _; go_simp <;> with_reducible rfl)
          try simp only [Act.put, List.setIfInBounds_toArray, List.set_cons_zero, List.set_cons_succ]
          refine wpG_pure (i := 8) (oi := { dst := some 35, op := Go.Op.fieldAddr 64 (Go.Operand.tmp 34) 0, type := 0, pos := "l9_cover.go:91", after := #[{ on := 7, ground := Go.Ground.data }], guard := none }) (v := ?vg9) rfl (by kernel_rfl) (fun _ _ _ h => h) (Or.inr hHeld) (Or.inl ⟨by rfl, ?yg9⟩) ?_
          case yg9 => (intro wS _; go_simp <;> with_reducible rfl)
          try simp only [Act.put, List.setIfInBounds_toArray, List.set_cons_zero, List.set_cons_succ]
          refine wpG_load (i := 9) (oi := { dst := some 36, op := Go.Op.load 3 (Go.Operand.tmp 35), type := 3, pos := "l9_cover.go:91", after := #[{ on := 8, ground := Go.Ground.data }], guard := none }) (v := ?vg10) [[22, 21, 20, 10, 9]] rfl (by kernel_rfl) (fun _ _ _ h => h) hHeld (Or.inl ⟨by rfl, ?yg10⟩) ?_
          case yg10 => (intro wS hSw; (try dsimp only at hSw); go_simp <;> with_reducible rfl)
          try simp only [Act.put, List.setIfInBounds_toArray, List.set_cons_zero, List.set_cons_succ]
          refine wpG_pure (i := 10) (oi := { dst := some 37, op := Go.Op.call { callee := Go.Callee.builtin Go.Builtin.min, args := #[Go.Operand.tmp 30, Go.Operand.tmp 36], argTypes := #[3, 3] }, type := 3, pos := "l9_cover.go:91", after := #[{ on := 3, ground := Go.Ground.data }, { on := 9, ground := Go.Ground.data }], guard := none }) (v := ?vg11) rfl (by kernel_rfl) (fun _ _ _ h => h) (Or.inr hHeld) (Or.inl ⟨by rfl, ?yg11⟩) ?_
          case yg11 => (intro wS _; go_simp <;> with_reducible rfl)
          try simp only [Act.put, List.setIfInBounds_toArray, List.set_cons_zero, List.set_cons_succ]
          refine wpG_pure (i := 11) (oi := { dst := some 38, op := Go.Op.fieldAddr 64 (Go.Operand.tmp 8) 1, type := 0, pos := "l9_cover.go:91", after := #[], guard := none }) (v := ?vg12) rfl (by kernel_rfl) (fun _ _ _ h => h) (Or.inr hHeld) (Or.inl ⟨by rfl, ?yg12⟩) ?_
          case yg12 => (intro wS _; go_simp <;> with_reducible rfl)
          try simp only [Act.put, List.setIfInBounds_toArray, List.set_cons_zero, List.set_cons_succ]
          refine wpG_load (i := 12) (oi := { dst := some 39, op := Go.Op.load 3 (Go.Operand.tmp 38), type := 3, pos := "l9_cover.go:91", after := #[{ on := 11, ground := Go.Ground.data }], guard := none }) (v := ?vg13) [[22, 21, 20, 19, 12]] rfl (by kernel_rfl) (fun _ _ _ h => h) hHeld (Or.inl ⟨by rfl, ?yg13⟩) ?_
          case yg13 => (intro wS hSw; (try dsimp only at hSw); go_simp <;> with_reducible rfl)
          try simp only [Act.put, List.setIfInBounds_toArray, List.set_cons_zero, List.set_cons_succ]
          refine wpG_pure (i := 13) (oi := { dst := some 40, op := Go.Op.fieldAddr 28 (Go.Operand.tmp 3) 0, type := 0, pos := "l9_cover.go:91", after := #[], guard := none }) (v := ?vg14) rfl (by kernel_rfl) (fun _ _ _ h => h) (Or.inr hHeld) (Or.inl ⟨by rfl, ?yg14⟩) ?_
          case yg14 => (intro wS _; go_simp <;> with_reducible rfl)
          try simp only [Act.put, List.setIfInBounds_toArray, List.set_cons_zero, List.set_cons_succ]
          refine wpG_load (i := 14) (oi := { dst := some 41, op := Go.Op.load 26 (Go.Operand.tmp 40), type := 26, pos := "l9_cover.go:91", after := #[{ on := 13, ground := Go.Ground.data }], guard := none }) (v := ?vg15) [[22, 21, 20, 19, 18, 17, 16, 14]] rfl (by kernel_rfl) (fun _ _ _ h => h) hHeld (Or.inl ⟨by rfl, ?yg15⟩) ?_
          case yg15 => (intro wS hSw; (try dsimp only at hSw); go_simp <;> with_reducible rfl)
          try simp only [Act.put, List.setIfInBounds_toArray, List.set_cons_zero, List.set_cons_succ]
          refine wpG_pure (i := 15) (oi := { dst := some 42, op := Go.Op.move (Go.Operand.tmp 7), type := 3, pos := "l9_cover.go:91", after := #[], guard := none }) (v := ?vg16) rfl (by kernel_rfl) (fun _ _ _ h => h) (Or.inr hHeld) (Or.inl ⟨by rfl, ?yg16⟩) ?_
          case yg16 => (intro wS _; go_simp <;> with_reducible rfl)
          try simp only [Act.put, List.setIfInBounds_toArray, List.set_cons_zero, List.set_cons_succ]
          refine wpG_pure (i := 16) (oi := { dst := some 43, op := Go.Op.indexAddr 26 (Go.Operand.tmp 41) (Go.Operand.tmp 42), type := 0, pos := "l9_cover.go:91", after := #[{ on := 14, ground := Go.Ground.data }, { on := 15, ground := Go.Ground.data }], guard := none }) (v := ?vg17) rfl (by kernel_rfl) (fun _ _ _ h => h) (Or.inr hHeld) (Or.inl ⟨by rfl, ?yg17⟩) ?_
          case yg17 => (intro wS _; go_simp <;> with_reducible rfl)
          try simp only [Act.put, List.setIfInBounds_toArray, List.set_cons_zero, List.set_cons_succ]
          refine wpG_pure (i := 17) (oi := { dst := some 44, op := Go.Op.fieldAddr 64 (Go.Operand.tmp 43) 1, type := 0, pos := "l9_cover.go:91", after := #[{ on := 16, ground := Go.Ground.data }], guard := none }) (v := ?vg18) rfl (by kernel_rfl) (fun _ _ _ h => h) (Or.inr hHeld) (Or.inl ⟨by rfl, ?yg18⟩) ?_
          case yg18 => (intro wS _; go_simp <;> with_reducible rfl)
          try simp only [Act.put, List.setIfInBounds_toArray, List.set_cons_zero, List.set_cons_succ]
          refine wpG_load (i := 18) (oi := { dst := some 45, op := Go.Op.load 3 (Go.Operand.tmp 44), type := 3, pos := "l9_cover.go:91", after := #[{ on := 17, ground := Go.Ground.data }], guard := none }) (v := ?vg19) [[22, 21, 20, 19, 18]] rfl (by kernel_rfl) (fun _ _ _ h => h) hHeld (Or.inl ⟨by rfl, ?yg19⟩) ?_
          case yg19 => (intro wS hSw; (try dsimp only at hSw); go_simp <;> with_reducible rfl)
          try simp only [Act.put, List.setIfInBounds_toArray, List.set_cons_zero, List.set_cons_succ]
          refine wpG_pure (i := 19) (oi := { dst := some 46, op := Go.Op.call { callee := Go.Callee.builtin Go.Builtin.max, args := #[Go.Operand.tmp 39, Go.Operand.tmp 45], argTypes := #[3, 3] }, type := 3, pos := "l9_cover.go:91", after := #[{ on := 12, ground := Go.Ground.data }, { on := 18, ground := Go.Ground.data }], guard := none }) (v := ?vg20) rfl (by kernel_rfl) (fun _ _ _ h => h) (Or.inr hHeld) (Or.inl ⟨by rfl, ?yg20⟩) ?_
          case yg20 => (intro wS _; go_simp <;> with_reducible rfl)
          try simp only [Act.put, List.setIfInBounds_toArray, List.set_cons_zero, List.set_cons_succ]
          refine wpG_pure (i := 20) (oi := { dst := some 47, op := Go.Op.build 64 #[(0, Go.Operand.tmp 37), (1, Go.Operand.tmp 46)], type := 64, pos := "l9_cover.go:91", after := #[{ on := 10, ground := Go.Ground.data }, { on := 19, ground := Go.Ground.data }], guard := none }) (v := ?vg21) rfl (by kernel_rfl) (fun _ _ _ h => h) (Or.inr hHeld) (Or.inl ⟨by rfl, ?yg21⟩) ?_
          case yg21 => (intro wS _; go_simp <;> with_reducible rfl)
          try simp only [Act.put, List.setIfInBounds_toArray, List.set_cons_zero, List.set_cons_succ]
          refine wpG_one (i := 21) (o := { dst := some 48, op := Go.Op.buildSlice 26 1 #[(0, Go.Operand.tmp 47)], type := 26, pos := "l9_cover.go:91", after := #[{ on := 20, ground := Go.Ground.data }], guard := none }) rfl (by kernel_rfl) (fun K hK => ?_)
          go_simp
          refine hK.out _ _ (Or.inr ?khHeld22) (fun hHeld22S => ?_)
          case khHeld22 => exact ⟨cell_alloc _ HM.out.1, cell_alloc _ HM.out.2.1, cell_alloc _ HM.out.2.2.1, cell_alloc _ HM.out.2.2.2.1, cell_alloc _ HM.out.2.2.2.2.1, cell_alloc _ HM.out.2.2.2.2.2⟩
          have hHeld22 := hHeld22S.held (by kernel_rfl)
          clear hK K
          try simp only [Act.put, List.setIfInBounds_toArray, List.set_cons_zero, List.set_cons_succ]
          refine wpG_one (i := 22) (o := { dst := some 49, op := Go.Op.call { callee := Go.Callee.builtin Go.Builtin.append, args := #[Go.Operand.tmp 28, Go.Operand.tmp 48], argTypes := #[26, 26] }, type := 26, pos := "l9_cover.go:91", after := #[{ on := 1, ground := Go.Ground.data }, { on := 21, ground := Go.Ground.data }], guard := none }) rfl (by kernel_rfl) (fun K hK => ?_)
          refine step_append_lies _ rfl (.tmp 28) (.tmp 48) 26 rfl (w3.heap.size + 1) 64 i0 (.agg #[.int .i64 0, .int .i64 0]) 2 16 Try.underlying26 hi hz0 hz1 hz2 rfl (by decide) v i (sds (zipF hullP xs ys i)) rfl (((HOR.out.alloc _).alloc _).drew) ⟨wr.heap.size + 1, 0, none⟩ 1 1 [.int .i64 (if y1 < x1 then y1 else x1), .int .i64 (if y2 > x2 then y2 else x2)] rfl rfl HNEWS.out (by simp [Value.oneCell']) (by omega) HC3.out HC4.out (by simp; omega) (wr.heap.size + 2) (by simp) ?_
          intro g cp w4 hown hgrow hat hlt4
          have e1 := (hgrow.cell_far ⟨w3.heap.size, 0, none⟩ (by simp; omega) (HNE.out w3.heap.size (.inl (by omega)))).trans COO.out.1
          have e2 := (hgrow.frozen_far ⟨w3.heap.size, 0, none⟩ (by simp; omega) (HNE.out w3.heap.size (.inl (by omega)))).trans COO.out.2
          have hs4 : w3.heap.size < w4.heap.size := by have := hgrow.size; simp at this; omega
          have HO4 := Lib.hid hown; have HG4 := Lib.hid hgrow; clear hown hgrow hat
          refine hK.out _ _ (Or.inl (by kernel_rfl)) (fun _ => ?_)
          clear hK K
          try simp only [Act.put, List.setIfInBounds_toArray, List.set_cons_zero, List.set_cons_succ]
          refine wpG_pure (i := 23) (oi := { dst := some 50, op := Go.Op.fieldAddr 28 (Go.Operand.tmp 6) 0, type := 0, pos := "l9_cover.go:91", after := #[{ on := 0, ground := Go.Ground.phase }, { on := 1, ground := Go.Ground.phase }, { on := 2, ground := Go.Ground.phase }, { on := 3, ground := Go.Ground.phase }, { on := 4, ground := Go.Ground.phase }, { on := 5, ground := Go.Ground.phase }, { on := 6, ground := Go.Ground.phase }, { on := 7, ground := Go.Ground.phase }, { on := 8, ground := Go.Ground.phase }, { on := 9, ground := Go.Ground.phase }, { on := 10, ground := Go.Ground.phase }, { on := 11, ground := Go.Ground.phase }, { on := 12, ground := Go.Ground.phase }, { on := 13, ground := Go.Ground.phase }, { on := 14, ground := Go.Ground.phase }, { on := 15, ground := Go.Ground.phase }, { on := 16, ground := Go.Ground.phase }, { on := 17, ground := Go.Ground.phase }, { on := 18, ground := Go.Ground.phase }, { on := 19, ground := Go.Ground.phase }, { on := 20, ground := Go.Ground.phase }, { on := 21, ground := Go.Ground.phase }, { on := 22, ground := Go.Ground.phase }], guard := none }) (v := ?vg24) rfl (by kernel_rfl) (fun _ _ _ h => h) (Or.inl (by kernel_rfl)) (Or.inl ⟨by rfl, ?yg24⟩) ?_
          case yg24 => (intro wS _; go_simp <;> with_reducible rfl)
          try simp only [Act.put, List.setIfInBounds_toArray, List.set_cons_zero, List.set_cons_succ]
          refine wpG_one (i := 24) (o := { dst := none, op := Go.Op.store 26 (Go.Operand.tmp 50) (Go.Operand.tmp 49), type := 0, pos := "l9_cover.go:91", after := #[{ on := 23, ground := Go.Ground.data }, { on := 22, ground := Go.Ground.data }, { on := 22, ground := Go.Ground.chain }, { on := 0, ground := Go.Ground.phase }, { on := 1, ground := Go.Ground.phase }, { on := 2, ground := Go.Ground.phase }, { on := 3, ground := Go.Ground.phase }, { on := 4, ground := Go.Ground.phase }, { on := 5, ground := Go.Ground.phase }, { on := 6, ground := Go.Ground.phase }, { on := 7, ground := Go.Ground.phase }, { on := 8, ground := Go.Ground.phase }, { on := 9, ground := Go.Ground.phase }, { on := 10, ground := Go.Ground.phase }, { on := 11, ground := Go.Ground.phase }, { on := 12, ground := Go.Ground.phase }, { on := 13, ground := Go.Ground.phase }, { on := 14, ground := Go.Ground.phase }, { on := 15, ground := Go.Ground.phase }, { on := 16, ground := Go.Ground.phase }, { on := 17, ground := Go.Ground.phase }, { on := 18, ground := Go.Ground.phase }, { on := 19, ground := Go.Ground.phase }, { on := 20, ground := Go.Ground.phase }, { on := 21, ground := Go.Ground.phase }, { on := 22, ground := Go.Ground.phase }], guard := none }) rfl (by kernel_rfl) (fun K hK => ?_)
          go_simp
          refine hK.out _ _ (Or.inl (by kernel_rfl)) (fun _ => ?_)
          clear hK K
          try simp only [Act.put, List.setIfInBounds_toArray, List.set_cons_zero, List.set_cons_succ]
          refine wpG_done (by kernel_rfl) ?_
          have HB4 := Lib.hid (Below.grown ALL.out (below_undrewG HG4.out) (by have := HBR.out.size; simp; omega) (fun j hj => by have := (HOR.out.lt j hj).1; omega))
          have hrow4 := ownsRow_setCell_below HO4.out (a := ⟨w3.heap.size, 0, none⟩) (Nat.lt_succ_self _) (.slice (some ⟨g, 0, none⟩) (i + 1) cp)
          have HOW : Hid ((w4.setCell ⟨w3.heap.size, 0, none⟩ (.slice (some ⟨g, 0, none⟩) (i + 1) cp)).ownsRow (w3.heap.size + 1) 64 2 (.slice (some ⟨g, 0, none⟩) (i + 1) cp) (i + 1) (sds (zipF hullP xs ys (i + 1)))) := Lib.hid (HZ.out _ _ (by rw [HZ'.out]; exact hrow4))
          clear hrow4
          go_wp2_with fail
          go_roundw
          case rel => exact ⟨i + 1, _, by omega, by go_num, Lib.hid ⟨World.cell?_setCell_same _ _ _ e1, by rw [World.frozen?_setCell]; exact e2, by rw [World.size_setCell]; exact hs4⟩, HOW, Lib.hid (HB4.out.setCell (p := ⟨w3.heap.size, 0, none⟩) (Nat.le_refl _) _)⟩
          case measure => simp [intOf]; omega
        · obtain rfl : i = 3 := by omega
          obtain ⟨g, cp, rfl, _, _⟩ := HOR.out.form (by omega : 1 ≤ 3)
          have k1 := (HBR.out.cell (p := ⟨w.heap.size + 2, 0, none⟩) hs2).trans cc
          have k2 := (HBR.out.frozen (p := ⟨w.heap.size + 2, 0, none⟩) hs2).trans cf
          have hl1 := HL1.out
          have hn3 : ¬ ((3 : Nat) : Int) < (xs.length : Int) := by omega
          clear hl1
          go_wp2_with fail
          refine bodyPost_ret (v := .tuple #[.agg #[.slice (some ⟨g, 0, none⟩) 3 cp], .bool true]) (by simp [results, Try.results12, go_sem, k1]) rfl ⟨_, rfl, ?_, ?_⟩
          · show World.ownsRow _ _ _ _ _ (zipF hullP xs ys 3).length _
            rw [zipF_length]
            exact own_mono (ownsRow_setCell_below HOR.out (a := ⟨w.heap.size + 2, 0, none⟩) (by show w.heap.size + 2 < w3.heap.size + 1; omega) _) (by omega)
          · exact HBW.out.setCell (p := ⟨w.heap.size + 2, 0, none⟩) (by show w.heap.size ≤ w.heap.size + 2; omega) _

set_option maxHeartbeats 4000000 in
theorem spec_hullOf (a b : Option Addr) (cap cap' : Nat) (xs ys : List (Int × Int)) (w : World) (ha : Rw w a (sds xs)) (hb : Rw w b (sds ys)) (hx : xs.length ≤ 9223372036854775807) (hy : ys.length ≤ 9223372036854775807) :
    Calls Try.prog 10 #[.agg #[.slice a xs.length cap], .agg #[.slice b ys.length cap']] w (MadeBox (HullR xs ys) w) := by
  obtain ⟨i0, hi, hz0, hz1, hz2⟩ := info_parts Try.infoSide
  have HG1 := Lib.hid (fun wx (h : Rw wx a (sds xs)) => spec_goodBox a cap xs wx h hx)
  have HG2 := Lib.hid (fun wx (h : Rw wx b (sds ys)) => spec_goodBox b cap' ys wx h hy)
  have HA := Lib.hid ha; have HB := Lib.hid hb
  have hb3 : ∀ o1 o2 o3, Below w.heap.size w (((w.alloc o1).alloc o2).alloc o3) := below_3 w
  have HB3 := Lib.hid hb3
  clear ha hb hb3
  cases g1 : GoodR xs with
  | false =>
    rw [HullR_no xs ys (fun h => by rw [g1] at h; exact absurd h.1 (by decide))]
    rw [g1] at HG1
    clear g1
    go_enter Try.func10, Try.ntmps10
    go_wp2_with fail
    refine (HG1.out _ (HA.out.below (HB3.out _ _ _))).mono ?_
    rintro e w2 ⟨rfl, hb2⟩
    have HX2 := Lib.hid (box3_step (box3_start w _ _ _) hb2)
    clear hb2
    have cb := box3_b HX2.out 0
    have cc := box3_c HX2.out 0
    have cf := box3_f HX2.out 0
    go_wp2_with fail
    refine bodyPost_ret (v := .tuple #[.agg #[.slice none 0 0], .bool false]) (by simp [results, Try.results10, go_sem, cc]) rfl ⟨_, rfl, World.ownsRow_nil _ _ _ _, ?_⟩
    exact (box3_below HX2.out).setCell (p := ⟨w.heap.size + 2, 0, none⟩) (by show w.heap.size ≤ w.heap.size + 2; omega) _
  | true =>
    rw [g1] at HG1
    cases g2 : GoodR ys with
    | false =>
      rw [HullR_no xs ys (fun h => by rw [g2] at h; exact absurd h.2 (by decide))]
      rw [g2] at HG2
      clear g1 g2
      go_enter Try.func10, Try.ntmps10
      go_wp2_with fail
      refine (HG1.out _ (HA.out.below (HB3.out _ _ _))).mono ?_
      rintro e w2 ⟨rfl, hb2⟩
      have HX2 := Lib.hid (box3_step (box3_start w _ _ _) hb2)
      clear hb2
      have cb := box3_b HX2.out 0
      have cc := box3_c HX2.out 0
      have cf := box3_f HX2.out 0
      go_wp2_with fail
      refine (HG2.out _ (HB.out.below (box3_below HX2.out))).mono ?_
      rintro e w3 ⟨rfl, hb3⟩
      have HX3 := Lib.hid (box3_step HX2.out hb3)
      clear hb3 cb cc cf
      have cc := box3_c HX3.out 0
      have cf := box3_f HX3.out 0
      go_wp2_with fail
      refine bodyPost_ret (v := .tuple #[.agg #[.slice none 0 0], .bool false]) (by simp [results, Try.results10, go_sem, cc]) rfl ⟨_, rfl, World.ownsRow_nil _ _ _ _, ?_⟩
      exact (box3_below HX3.out).setCell (p := ⟨w.heap.size + 2, 0, none⟩) (by show w.heap.size ≤ w.heap.size + 2; omega) _
    | true =>
      rw [HullR_yes xs ys ⟨g1, g2⟩]
      have HL1 := Lib.hid (good_len g1)
      have HL2 := Lib.hid (good_len g2)
      rw [g2] at HG2
      clear g1 g2
      go_enter Try.func10, Try.ntmps10
      go_wp2_with fail
      refine (HG1.out _ (HA.out.below (HB3.out _ _ _))).mono ?_
      rintro e w2 ⟨rfl, hb2⟩
      have HX2 := Lib.hid (box3_step (box3_start w _ _ _) hb2)
      clear hb2
      have cb := box3_b HX2.out 0
      have cc := box3_c HX2.out 0
      have cf := box3_f HX2.out 0
      go_wp2_with fail
      refine (HG2.out _ (HB.out.below (box3_below HX2.out))).mono ?_
      rintro e w3 ⟨rfl, hb3⟩
      have HX3 := Lib.hid (box3_step HX2.out hb3)
      clear hb3 cb cc cf
      have cb := box3_b HX3.out 0
      have cc := box3_c HX3.out 0
      have cf := box3_f HX3.out 0
      have ca : w3.cell? ⟨w.heap.size, 0, none⟩ = some (.slice a xs.length cap) := (HX3.out.cell (p := ⟨w.heap.size, 0, none⟩) (by show w.heap.size < w.heap.size + 3; omega)).trans (by go_simp)
      have hsz := box3_size HX3.out
      have hs0 : w.heap.size < w3.heap.size := by omega
      have hs1 : w.heap.size + 1 < w3.heap.size := by omega
      have hs2 : w.heap.size + 2 < w3.heap.size := by omega
      go_wp2_with fail
      go_loopw [23] (fun iv wr => ∃ (i : Nat) (v : Value), i ≤ 3 ∧ iv = .int .i64 (i : Int) ∧ Hid (wr.cell? ⟨w3.heap.size, 0, none⟩ = some v ∧ wr.frozen? ⟨w3.heap.size, 0, none⟩ = false ∧ w3.heap.size < wr.heap.size) ∧ Hid (wr.ownsRow (w3.heap.size + 1) 64 2 v i (sds (zipF hullP xs ys i))) ∧ Hid (Below w3.heap.size w3 wr)) (fun iv _ => 3 - (intOf iv).toNat)
      case atStart => exact ⟨0, _, by omega, rfl, ⟨by go_simp, by go_simp, by simp⟩, World.ownsRow_nil _ _ _ _, (Below.refl _ _).alloc (Nat.le_refl _) _⟩
      case round =>
        obtain ⟨i, v, hi3, rfl, HCL, HOR, HBR⟩ := hrel
        obtain ⟨co, cof, hlw⟩ := HCL.out
        have HBW := Lib.hid ((box3_below HX3.out).trans (HBR.out.mono (by omega)))
        by_cases hlt : i < 3
        · have HC3 : Hid (i + 1 ≤ maxLen) := by show i + 1 ≤ maxLen; unfold maxLen; omega
          have HC4 : Hid ((i + 1) * 16 ≤ 140737488355328) := by show (i + 1) * 16 ≤ 140737488355328; omega
          have hk1 : i < xs.length := by have := HL1.out; omega
          have hk2 : i < ys.length := by have := HL2.out; omega
          obtain ⟨b1, off1, rfl, hbl1, hc1⟩ := HA.out.at (sds_ne hk1)
          obtain ⟨b2, off2, rfl, hbl2, hc2⟩ := HB.out.at (sds_ne hk2)
          have d1 := (HBW.out.cell (p := ⟨b1, off1 + i * 2, none⟩) hbl1).trans (hc1 _ _ (sds_lo xs i hk1))
          have d2 : wr.cell? ⟨b1, off1 + i * 2 + 1, none⟩ = _ := (HBW.out.cell (p := ⟨b1, off1 + (i * 2 + 1), none⟩) hbl1).trans (hc1 _ _ (sds_hi xs i hk1))
          have d3 := (HBW.out.cell (p := ⟨b2, off2 + i * 2, none⟩) hbl2).trans (hc2 _ _ (sds_lo ys i hk2))
          have d4 : wr.cell? ⟨b2, off2 + i * 2 + 1, none⟩ = _ := (HBW.out.cell (p := ⟨b2, off2 + (i * 2 + 1), none⟩) hbl2).trans (hc2 _ _ (sds_hi ys i hk2))
          have d5 := (HBR.out.cell (p := ⟨w.heap.size + 1, 0, none⟩) hs1).trans cb
          have l1 : b1 < wr.heap.size := by omega
          have l2 : b2 < wr.heap.size := by omega
          have l3 : w.heap.size + 1 < wr.heap.size := by omega
          have HZ : Hid (∀ (wx : World) (v : Value), wx.ownsRow (w3.heap.size + 1) 64 2 v (i + 1) (sds (zipF hullP xs ys i) ++ [.int .i64 (hullP (xs.getD i (0, 0)) (ys.getD i (0, 0))).1, .int .i64 (hullP (xs.getD i (0, 0)) (ys.getD i (0, 0))).2]) → wx.ownsRow (w3.heap.size + 1) 64 2 v (i + 1) (sds (zipF hullP xs ys (i + 1)))) := by
            intro wx v h
            rw [zipF_snoc, sds_snoc]; exact h
          clear hc1 hc2 HG1 HG2
          generalize xs.getD i (0, 0) = p at *
          generalize ys.getD i (0, 0) = q at *
          obtain ⟨x1, x2⟩ := p
          obtain ⟨y1, y2⟩ := q
          by_cases t1 : y1 < x1
          · by_cases t2 : y2 > x2
            · skip
              have HZ' : Hid (hullP (x1, x2) (y1, y2) = (y1, y2)) := by show hullP _ _ = _; simp [hullP, t1, t2]
              have ALL := Lib.hid ((((HBR.out.alloc HBR.out.size (.cells #[.int .i64 y1, .int .i64 y2] 64)).alloc (by have := HBR.out.size; simp; omega) (.cells #[.int .i64 y1, .int .i64 y2] 64)).alloc (by have := HBR.out.size; simp; omega) (.cells #[.int .i64 y1, .int .i64 y2] 64)))
              have CO3 : Hid (((((wr.alloc (.cells #[.int .i64 y1, .int .i64 y2] 64)).alloc (.cells #[.int .i64 y1, .int .i64 y2] 64)).alloc (.cells #[.int .i64 y1, .int .i64 y2] 64)).cell? ⟨w3.heap.size, 0, none⟩ = some v) ∧ ((((wr.alloc (.cells #[.int .i64 y1, .int .i64 y2] 64)).alloc (.cells #[.int .i64 y1, .int .i64 y2] 64)).alloc (.cells #[.int .i64 y1, .int .i64 y2] 64)).frozen? ⟨w3.heap.size, 0, none⟩ = false)) :=
                Lib.hid ⟨((below_3 wr _ _ _).cell (p := ⟨w3.heap.size, 0, none⟩) hlw).trans co, ((below_3 wr _ _ _).frozen (p := ⟨w3.heap.size, 0, none⟩) hlw).trans cof⟩
              have HNEWS : Hid (∀ (j : Nat) (u : Value), [Value.int .i64 y1, Value.int .i64 y2][j]? = some u → (((wr.alloc (.cells #[.int .i64 y1, .int .i64 y2] 64)).alloc (.cells #[.int .i64 y1, .int .i64 y2] 64)).alloc (.cells #[.int .i64 y1, .int .i64 y2] 64)).cell? ((⟨wr.heap.size + 1 + 1, 0, none⟩ : Addr).add j) = some u) := by
                have h := World.news_of_block (cs := #[Value.int .i64 y1, Value.int .i64 y2]) (t := 64) (fr := (0, 0)) (heap_alloc_new ((wr.alloc (.cells #[.int .i64 y1, .int .i64 y2] 64)).alloc (.cells #[.int .i64 y1, .int .i64 y2] 64)) (.cells #[.int .i64 y1, .int .i64 y2] 64))
                simp only [World.size_alloc] at h
                exact Lib.hid h
              have HNE : Hid (some w3.heap.size ≠ v.ownBlock) := Lib.hid (by intro h; have := (HOR.out.lt _ h.symm).1; omega)
              go_wp2_with (at_builtin; refine wpList_append_own _ rfl _ _ 26 rfl (w3.heap.size + 1) 64 i0 (.agg #[.int .i64 0, .int .i64 0]) 2 16 Try.underlying26 hi hz0 hz1 hz2 rfl (by decide) _ i _ rfl (((HOR.out.alloc _).alloc _).alloc _) _ 1 1 [.int .i64 y1, .int .i64 y2] rfl rfl HNEWS.out (by simp [Value.oneCell']) HC3.out HC4.out (by simp; omega) ?_)
              intro v' w4 hown hgrow hnil
              obtain ⟨g, cp, rfl, _, _⟩ := hown.form (by omega : 1 ≤ i + 1)
              have hlt4 : w3.heap.size < w4.heap.size := by have := hgrow.size; simp at this; omega
              have e1 := (hgrow.cell_far ⟨w3.heap.size, 0, none⟩ (by simp; omega) HNE.out).trans CO3.out.1
              have e2 := (hgrow.frozen_far ⟨w3.heap.size, 0, none⟩ (by simp; omega) HNE.out).trans CO3.out.2
              have HB4 := Lib.hid (Below.grown ALL.out hgrow (by have := HBR.out.size; simp; omega) (fun j hj => by have := (HOR.out.lt j hj).1; omega))
              have hrow4 := ownsRow_setCell_below hown (a := ⟨w3.heap.size, 0, none⟩) (Nat.lt_succ_self _) (.slice (some ⟨g, 0, none⟩) (i + 1) cp)
              have HOW : Hid ((w4.setCell ⟨w3.heap.size, 0, none⟩ (.slice (some ⟨g, 0, none⟩) (i + 1) cp)).ownsRow (w3.heap.size + 1) 64 2 (.slice (some ⟨g, 0, none⟩) (i + 1) cp) (i + 1) (sds (zipF hullP xs ys (i + 1)))) := Lib.hid (HZ.out _ _ (by rw [HZ'.out]; exact hrow4))
              clear hown hgrow hnil hrow4
              go_wp2_with fail
              go_roundw
              case rel => exact ⟨i + 1, _, by omega, by go_num, Lib.hid ⟨World.cell?_setCell_same _ _ _ e1, by rw [World.frozen?_setCell]; exact e2, by rw [World.size_setCell]; exact hlt4⟩, HOW, Lib.hid (HB4.out.setCell (p := ⟨w3.heap.size, 0, none⟩) (Nat.le_refl _) _)⟩
              case measure => simp [intOf]; omega
            · skip
              have HZ' : Hid (hullP (x1, x2) (y1, y2) = (y1, x2)) := by show hullP _ _ = _; simp [hullP, t1, t2]
              have ALL := Lib.hid ((((HBR.out.alloc HBR.out.size (.cells #[.int .i64 y1, .int .i64 x2] 64)).alloc (by have := HBR.out.size; simp; omega) (.cells #[.int .i64 y1, .int .i64 y2] 64)).alloc (by have := HBR.out.size; simp; omega) (.cells #[.int .i64 y1, .int .i64 x2] 64)))
              have CO3 : Hid (((((wr.alloc (.cells #[.int .i64 y1, .int .i64 x2] 64)).alloc (.cells #[.int .i64 y1, .int .i64 y2] 64)).alloc (.cells #[.int .i64 y1, .int .i64 x2] 64)).cell? ⟨w3.heap.size, 0, none⟩ = some v) ∧ ((((wr.alloc (.cells #[.int .i64 y1, .int .i64 x2] 64)).alloc (.cells #[.int .i64 y1, .int .i64 y2] 64)).alloc (.cells #[.int .i64 y1, .int .i64 x2] 64)).frozen? ⟨w3.heap.size, 0, none⟩ = false)) :=
                Lib.hid ⟨((below_3 wr _ _ _).cell (p := ⟨w3.heap.size, 0, none⟩) hlw).trans co, ((below_3 wr _ _ _).frozen (p := ⟨w3.heap.size, 0, none⟩) hlw).trans cof⟩
              have HNEWS : Hid (∀ (j : Nat) (u : Value), [Value.int .i64 y1, Value.int .i64 x2][j]? = some u → (((wr.alloc (.cells #[.int .i64 y1, .int .i64 x2] 64)).alloc (.cells #[.int .i64 y1, .int .i64 y2] 64)).alloc (.cells #[.int .i64 y1, .int .i64 x2] 64)).cell? ((⟨wr.heap.size + 1 + 1, 0, none⟩ : Addr).add j) = some u) := by
                have h := World.news_of_block (cs := #[Value.int .i64 y1, Value.int .i64 x2]) (t := 64) (fr := (0, 0)) (heap_alloc_new ((wr.alloc (.cells #[.int .i64 y1, .int .i64 x2] 64)).alloc (.cells #[.int .i64 y1, .int .i64 y2] 64)) (.cells #[.int .i64 y1, .int .i64 x2] 64))
                simp only [World.size_alloc] at h
                exact Lib.hid h
              have HNE : Hid (some w3.heap.size ≠ v.ownBlock) := Lib.hid (by intro h; have := (HOR.out.lt _ h.symm).1; omega)
              go_wp2_with (at_builtin; refine wpList_append_own _ rfl _ _ 26 rfl (w3.heap.size + 1) 64 i0 (.agg #[.int .i64 0, .int .i64 0]) 2 16 Try.underlying26 hi hz0 hz1 hz2 rfl (by decide) _ i _ rfl (((HOR.out.alloc _).alloc _).alloc _) _ 1 1 [.int .i64 y1, .int .i64 x2] rfl rfl HNEWS.out (by simp [Value.oneCell']) HC3.out HC4.out (by simp; omega) ?_)
              intro v' w4 hown hgrow hnil
              obtain ⟨g, cp, rfl, _, _⟩ := hown.form (by omega : 1 ≤ i + 1)
              have hlt4 : w3.heap.size < w4.heap.size := by have := hgrow.size; simp at this; omega
              have e1 := (hgrow.cell_far ⟨w3.heap.size, 0, none⟩ (by simp; omega) HNE.out).trans CO3.out.1
              have e2 := (hgrow.frozen_far ⟨w3.heap.size, 0, none⟩ (by simp; omega) HNE.out).trans CO3.out.2
              have HB4 := Lib.hid (Below.grown ALL.out hgrow (by have := HBR.out.size; simp; omega) (fun j hj => by have := (HOR.out.lt j hj).1; omega))
              have hrow4 := ownsRow_setCell_below hown (a := ⟨w3.heap.size, 0, none⟩) (Nat.lt_succ_self _) (.slice (some ⟨g, 0, none⟩) (i + 1) cp)
              have HOW : Hid ((w4.setCell ⟨w3.heap.size, 0, none⟩ (.slice (some ⟨g, 0, none⟩) (i + 1) cp)).ownsRow (w3.heap.size + 1) 64 2 (.slice (some ⟨g, 0, none⟩) (i + 1) cp) (i + 1) (sds (zipF hullP xs ys (i + 1)))) := Lib.hid (HZ.out _ _ (by rw [HZ'.out]; exact hrow4))
              clear hown hgrow hnil hrow4
              go_wp2_with fail
              go_roundw
              case rel => exact ⟨i + 1, _, by omega, by go_num, Lib.hid ⟨World.cell?_setCell_same _ _ _ e1, by rw [World.frozen?_setCell]; exact e2, by rw [World.size_setCell]; exact hlt4⟩, HOW, Lib.hid (HB4.out.setCell (p := ⟨w3.heap.size, 0, none⟩) (Nat.le_refl _) _)⟩
              case measure => simp [intOf]; omega
          · by_cases t2 : y2 > x2
            · skip
              have HZ' : Hid (hullP (x1, x2) (y1, y2) = (x1, y2)) := by show hullP _ _ = _; simp [hullP, t1, t2]
              have ALL := Lib.hid ((((HBR.out.alloc HBR.out.size (.cells #[.int .i64 x1, .int .i64 y2] 64)).alloc (by have := HBR.out.size; simp; omega) (.cells #[.int .i64 y1, .int .i64 y2] 64)).alloc (by have := HBR.out.size; simp; omega) (.cells #[.int .i64 x1, .int .i64 y2] 64)))
              have CO3 : Hid (((((wr.alloc (.cells #[.int .i64 x1, .int .i64 y2] 64)).alloc (.cells #[.int .i64 y1, .int .i64 y2] 64)).alloc (.cells #[.int .i64 x1, .int .i64 y2] 64)).cell? ⟨w3.heap.size, 0, none⟩ = some v) ∧ ((((wr.alloc (.cells #[.int .i64 x1, .int .i64 y2] 64)).alloc (.cells #[.int .i64 y1, .int .i64 y2] 64)).alloc (.cells #[.int .i64 x1, .int .i64 y2] 64)).frozen? ⟨w3.heap.size, 0, none⟩ = false)) :=
                Lib.hid ⟨((below_3 wr _ _ _).cell (p := ⟨w3.heap.size, 0, none⟩) hlw).trans co, ((below_3 wr _ _ _).frozen (p := ⟨w3.heap.size, 0, none⟩) hlw).trans cof⟩
              have HNEWS : Hid (∀ (j : Nat) (u : Value), [Value.int .i64 x1, Value.int .i64 y2][j]? = some u → (((wr.alloc (.cells #[.int .i64 x1, .int .i64 y2] 64)).alloc (.cells #[.int .i64 y1, .int .i64 y2] 64)).alloc (.cells #[.int .i64 x1, .int .i64 y2] 64)).cell? ((⟨wr.heap.size + 1 + 1, 0, none⟩ : Addr).add j) = some u) := by
                have h := World.news_of_block (cs := #[Value.int .i64 x1, Value.int .i64 y2]) (t := 64) (fr := (0, 0)) (heap_alloc_new ((wr.alloc (.cells #[.int .i64 x1, .int .i64 y2] 64)).alloc (.cells #[.int .i64 y1, .int .i64 y2] 64)) (.cells #[.int .i64 x1, .int .i64 y2] 64))
                simp only [World.size_alloc] at h
                exact Lib.hid h
              have HNE : Hid (some w3.heap.size ≠ v.ownBlock) := Lib.hid (by intro h; have := (HOR.out.lt _ h.symm).1; omega)
              go_wp2_with (at_builtin; refine wpList_append_own _ rfl _ _ 26 rfl (w3.heap.size + 1) 64 i0 (.agg #[.int .i64 0, .int .i64 0]) 2 16 Try.underlying26 hi hz0 hz1 hz2 rfl (by decide) _ i _ rfl (((HOR.out.alloc _).alloc _).alloc _) _ 1 1 [.int .i64 x1, .int .i64 y2] rfl rfl HNEWS.out (by simp [Value.oneCell']) HC3.out HC4.out (by simp; omega) ?_)
              intro v' w4 hown hgrow hnil
              obtain ⟨g, cp, rfl, _, _⟩ := hown.form (by omega : 1 ≤ i + 1)
              have hlt4 : w3.heap.size < w4.heap.size := by have := hgrow.size; simp at this; omega
              have e1 := (hgrow.cell_far ⟨w3.heap.size, 0, none⟩ (by simp; omega) HNE.out).trans CO3.out.1
              have e2 := (hgrow.frozen_far ⟨w3.heap.size, 0, none⟩ (by simp; omega) HNE.out).trans CO3.out.2
              have HB4 := Lib.hid (Below.grown ALL.out hgrow (by have := HBR.out.size; simp; omega) (fun j hj => by have := (HOR.out.lt j hj).1; omega))
              have hrow4 := ownsRow_setCell_below hown (a := ⟨w3.heap.size, 0, none⟩) (Nat.lt_succ_self _) (.slice (some ⟨g, 0, none⟩) (i + 1) cp)
              have HOW : Hid ((w4.setCell ⟨w3.heap.size, 0, none⟩ (.slice (some ⟨g, 0, none⟩) (i + 1) cp)).ownsRow (w3.heap.size + 1) 64 2 (.slice (some ⟨g, 0, none⟩) (i + 1) cp) (i + 1) (sds (zipF hullP xs ys (i + 1)))) := Lib.hid (HZ.out _ _ (by rw [HZ'.out]; exact hrow4))
              clear hown hgrow hnil hrow4
              go_wp2_with fail
              go_roundw
              case rel => exact ⟨i + 1, _, by omega, by go_num, Lib.hid ⟨World.cell?_setCell_same _ _ _ e1, by rw [World.frozen?_setCell]; exact e2, by rw [World.size_setCell]; exact hlt4⟩, HOW, Lib.hid (HB4.out.setCell (p := ⟨w3.heap.size, 0, none⟩) (Nat.le_refl _) _)⟩
              case measure => simp [intOf]; omega
            · skip
              have HZ' : Hid (hullP (x1, x2) (y1, y2) = (x1, x2)) := by show hullP _ _ = _; simp [hullP, t1, t2]
              have ALL := Lib.hid ((((HBR.out.alloc HBR.out.size (.cells #[.int .i64 x1, .int .i64 x2] 64)).alloc (by have := HBR.out.size; simp; omega) (.cells #[.int .i64 y1, .int .i64 y2] 64)).alloc (by have := HBR.out.size; simp; omega) (.cells #[.int .i64 x1, .int .i64 x2] 64)))
              have CO3 : Hid (((((wr.alloc (.cells #[.int .i64 x1, .int .i64 x2] 64)).alloc (.cells #[.int .i64 y1, .int .i64 y2] 64)).alloc (.cells #[.int .i64 x1, .int .i64 x2] 64)).cell? ⟨w3.heap.size, 0, none⟩ = some v) ∧ ((((wr.alloc (.cells #[.int .i64 x1, .int .i64 x2] 64)).alloc (.cells #[.int .i64 y1, .int .i64 y2] 64)).alloc (.cells #[.int .i64 x1, .int .i64 x2] 64)).frozen? ⟨w3.heap.size, 0, none⟩ = false)) :=
                Lib.hid ⟨((below_3 wr _ _ _).cell (p := ⟨w3.heap.size, 0, none⟩) hlw).trans co, ((below_3 wr _ _ _).frozen (p := ⟨w3.heap.size, 0, none⟩) hlw).trans cof⟩
              have HNEWS : Hid (∀ (j : Nat) (u : Value), [Value.int .i64 x1, Value.int .i64 x2][j]? = some u → (((wr.alloc (.cells #[.int .i64 x1, .int .i64 x2] 64)).alloc (.cells #[.int .i64 y1, .int .i64 y2] 64)).alloc (.cells #[.int .i64 x1, .int .i64 x2] 64)).cell? ((⟨wr.heap.size + 1 + 1, 0, none⟩ : Addr).add j) = some u) := by
                have h := World.news_of_block (cs := #[Value.int .i64 x1, Value.int .i64 x2]) (t := 64) (fr := (0, 0)) (heap_alloc_new ((wr.alloc (.cells #[.int .i64 x1, .int .i64 x2] 64)).alloc (.cells #[.int .i64 y1, .int .i64 y2] 64)) (.cells #[.int .i64 x1, .int .i64 x2] 64))
                simp only [World.size_alloc] at h
                exact Lib.hid h
              have HNE : Hid (some w3.heap.size ≠ v.ownBlock) := Lib.hid (by intro h; have := (HOR.out.lt _ h.symm).1; omega)
              go_wp2_with (at_builtin; refine wpList_append_own _ rfl _ _ 26 rfl (w3.heap.size + 1) 64 i0 (.agg #[.int .i64 0, .int .i64 0]) 2 16 Try.underlying26 hi hz0 hz1 hz2 rfl (by decide) _ i _ rfl (((HOR.out.alloc _).alloc _).alloc _) _ 1 1 [.int .i64 x1, .int .i64 x2] rfl rfl HNEWS.out (by simp [Value.oneCell']) HC3.out HC4.out (by simp; omega) ?_)
              intro v' w4 hown hgrow hnil
              obtain ⟨g, cp, rfl, _, _⟩ := hown.form (by omega : 1 ≤ i + 1)
              have hlt4 : w3.heap.size < w4.heap.size := by have := hgrow.size; simp at this; omega
              have e1 := (hgrow.cell_far ⟨w3.heap.size, 0, none⟩ (by simp; omega) HNE.out).trans CO3.out.1
              have e2 := (hgrow.frozen_far ⟨w3.heap.size, 0, none⟩ (by simp; omega) HNE.out).trans CO3.out.2
              have HB4 := Lib.hid (Below.grown ALL.out hgrow (by have := HBR.out.size; simp; omega) (fun j hj => by have := (HOR.out.lt j hj).1; omega))
              have hrow4 := ownsRow_setCell_below hown (a := ⟨w3.heap.size, 0, none⟩) (Nat.lt_succ_self _) (.slice (some ⟨g, 0, none⟩) (i + 1) cp)
              have HOW : Hid ((w4.setCell ⟨w3.heap.size, 0, none⟩ (.slice (some ⟨g, 0, none⟩) (i + 1) cp)).ownsRow (w3.heap.size + 1) 64 2 (.slice (some ⟨g, 0, none⟩) (i + 1) cp) (i + 1) (sds (zipF hullP xs ys (i + 1)))) := Lib.hid (HZ.out _ _ (by rw [HZ'.out]; exact hrow4))
              clear hown hgrow hnil hrow4
              go_wp2_with fail
              go_roundw
              case rel => exact ⟨i + 1, _, by omega, by go_num, Lib.hid ⟨World.cell?_setCell_same _ _ _ e1, by rw [World.frozen?_setCell]; exact e2, by rw [World.size_setCell]; exact hlt4⟩, HOW, Lib.hid (HB4.out.setCell (p := ⟨w3.heap.size, 0, none⟩) (Nat.le_refl _) _)⟩
              case measure => simp [intOf]; omega
        · obtain rfl : i = 3 := by omega
          obtain ⟨g, cp, rfl, _, _⟩ := HOR.out.form (by omega : 1 ≤ 3)
          have k1 := (HBR.out.cell (p := ⟨w.heap.size + 2, 0, none⟩) hs2).trans cc
          have k2 := (HBR.out.frozen (p := ⟨w.heap.size + 2, 0, none⟩) hs2).trans cf
          have hl1 := HL1.out
          have hn3 : ¬ ((3 : Nat) : Int) < (xs.length : Int) := by omega
          clear hl1
          go_wp2_with fail
          refine bodyPost_ret (v := .tuple #[.agg #[.slice (some ⟨g, 0, none⟩) 3 cp], .bool true]) (by simp [results, Try.results10, go_sem, k1]) rfl ⟨_, rfl, ?_, ?_⟩
          · show World.ownsRow _ _ _ _ _ (zipF hullP xs ys 3).length _
            rw [zipF_length]
            exact own_mono (ownsRow_setCell_below HOR.out (a := ⟨w.heap.size + 2, 0, none⟩) (by show w.heap.size + 2 < w3.heap.size + 1; omega) _) (by omega)
          · exact HBW.out.setCell (p := ⟨w.heap.size + 2, 0, none⟩) (by show w.heap.size ≤ w.heap.size + 2; omega) _

end Go.Proofs.Ythlajmncpejhmaa
