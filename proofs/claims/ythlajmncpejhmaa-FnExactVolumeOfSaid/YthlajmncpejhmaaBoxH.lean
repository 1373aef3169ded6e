/- The contracts of the laws' helpers over boxes (a struct of one row of pairs). -/
import Derived.Test.YthlajmncpejhmaaSides
namespace Go.Proofs.Ythlajmncpejhmaa
set_option linter.unusedVariables false
open Go.ChangeShapes Go.WideShapes Go.ChangeAt Go.RowKit
set_option maxRecDepth 100000

set_option maxHeartbeats 400000 in
theorem sz_box (a : Option Addr) (cap n : Nat) (l : Int) (w : World) (hn : n ≤ maxLen) (h0 : 0 ≤ l) (h1 : l ≤ 1048576) :
    Calls Try.prog 9 #[.agg #[.slice a n cap], .int .i64 l] w fun e w' => e = .returned (.int .i64 (szInts l n)) ∧ Below w.heap.size w w' := by
  by_cases hlt : l - (n : Int) < 0
  · have hf : szInts l n = -1 := by unfold szInts; rw [if_pos hlt]
    rw [hf]
    have HI := Lib.hid (fun wx => sz_sides a cap n l wx hn h0 h1)
    rw [hf] at HI
    clear hf
    go_enter Try.func9, Try.ntmps9
    go_wp2_with (go_at_call 42; refine (HI.out _).mono ?_; rintro e w' ⟨rfl, rfl⟩)
    go_ret
    exact ⟨rfl, (Below.refl _ _).alloc (Nat.le_refl _) _⟩
  · have hf : szInts l n = l - n := by unfold szInts; rw [if_neg hlt]
    rw [hf]
    have HI := Lib.hid (fun wx => sz_sides a cap n l wx hn h0 h1)
    rw [hf] at HI
    clear hf
    go_enter Try.func9, Try.ntmps9
    go_wp2_with (go_at_call 42; refine (HI.out _).mono ?_; rintro e w' ⟨rfl, rfl⟩)
    go_ret
    exact ⟨rfl, (Below.refl _ _).alloc (Nat.le_refl _) _⟩

set_option maxHeartbeats 1000000 in
theorem to_box (a : Option Addr) (cap : Nat) (xs : List (Int × Int)) (w : World) (hrow : Rw w a (sds xs)) (hn : xs.length ≤ 1048576) :
    Calls Try.prog 11 #[.agg #[.slice a xs.length cap]] w fun e w' => e = .returned (.agg #[.slice (some ⟨w.heap.size + 3, 0, none⟩) xs.length xs.length]) ∧ w'.ownsRow (w.heap.size + 3) 64 2 (.slice (some ⟨w.heap.size + 3, 0, none⟩) xs.length xs.length) xs.length (sds xs) ∧ Below w.heap.size w w' := by
  have HR := Lib.hid hrow
  clear hrow
  go_enter Try.func11, Try.ntmps11
  go_wp2_with fail
  refine (to_sides a cap xs _ (HR.out.below (below_3 _ _ _ _)) hn).mono ?_
  rintro e w1 ⟨rfl, ho, hb⟩
  have hs : w.heap.size + 3 ≤ w1.heap.size := by have := hb.size; simp at this; omega
  have HBB := Lib.hid ((below_3 _ _ _ _).trans (hb.mono (by simp; omega)))
  have c1 : w1.cell? ⟨w.heap.size + 1, 0, none⟩ = some (.slice none 0 0) := (hb.cell (p := ⟨w.heap.size + 1, 0, none⟩) (by simp)).trans (by go_simp)
  have c2 : w1.cell? ⟨w.heap.size + 2, 0, none⟩ = some (.slice none 0 0) := (hb.cell (p := ⟨w.heap.size + 2, 0, none⟩) (by simp)).trans (by go_simp)
  have f1 : w1.frozen? ⟨w.heap.size + 1, 0, none⟩ = false := (hb.frozen (p := ⟨w.heap.size + 1, 0, none⟩) (by simp)).trans (by go_simp)
  have f2 : w1.frozen? ⟨w.heap.size + 2, 0, none⟩ = false := (hb.frozen (p := ⟨w.heap.size + 2, 0, none⟩) (by simp)).trans (by go_simp)
  have HO : Hid (w1.ownsRow (w.heap.size + 3) 64 2 (.slice (some ⟨w.heap.size + 3, 0, none⟩) xs.length xs.length) xs.length (sds xs)) := by simp only [World.size_alloc] at ho; exact ho
  clear ho hb
  go_wp2_with fail
  refine bodyPost_ret (v := .agg #[.slice (some ⟨w.heap.size + 3, 0, none⟩) xs.length xs.length]) (by simp [results, Try.results11, go_sem, c1, c2]) rfl ⟨rfl, ?_, ?_⟩
  · exact ownsRow_setCell_below (ownsRow_setCell_below HO.out (a := ⟨w.heap.size + 2, 0, none⟩) (by simp) _) (a := ⟨w.heap.size + 1, 0, none⟩) (by simp) _
  · exact (HBB.out.setCell (p := ⟨w.heap.size + 2, 0, none⟩) (by show w.heap.size ≤ w.heap.size + 2; omega) _).setCell (p := ⟨w.heap.size + 1, 0, none⟩) (by show w.heap.size ≤ w.heap.size + 1; omega) _

set_option maxHeartbeats 400000 in
theorem eq_box (a b : Option Addr) (cap cap' : Nat) (xs : List (Int × Int)) (w : World) (ha : Rw w a (sds xs)) (hb : Rw w b (sds xs)) (hn : xs.length ≤ 1048576) :
    Calls Try.prog 13 #[.agg #[.slice a xs.length cap], .agg #[.slice b xs.length cap']] w fun e w' => e = .returned (.bool true) ∧ Below w.heap.size w w' := by
  have HA := Lib.hid ha; have HB := Lib.hid hb
  clear ha hb
  go_enter Try.func13, Try.ntmps13
  go_wp2_with fail
  refine (eq_sides a b cap cap' xs _ ((HA.out.alloc _).alloc _) ((HB.out.alloc _).alloc _) hn).mono ?_
  rintro e w' ⟨rfl, hb2⟩
  have HB2 := Lib.hid hb2; clear hb2
  go_wp2_with fail
  go_ret
  exact ⟨rfl, (((Below.refl _ _).alloc (Nat.le_refl _) _).alloc (by simp) _).trans (HB2.out.mono (by simp; omega))⟩

set_option maxHeartbeats 400000 in
theorem held_box (a : Option Addr) (cap n : Nat) (k0 : Int) (w : World) (ha : Rw w a (sds (pmarks k0 n))) (hn : n ≤ 1099511627776) (h0 : 0 ≤ k0) (h1 : k0 ≤ 1099511627776) :
    Calls Try.prog 15 #[.agg #[.slice a n cap], .int .i64 k0] w fun e w' => e = .returned (.int .i64 (k0 + 2 * (n : Int))) ∧ Below w.heap.size w w' := by
  have HA := Lib.hid ha
  clear ha
  go_enter Try.func15, Try.ntmps15
  go_wp2_with fail
  refine (held_sides a cap n k0 _ (HA.out.alloc _) hn h0 h1).mono ?_
  rintro e w' ⟨rfl, rfl⟩
  go_wp2_with fail
  go_ret
  exact ⟨rfl, (Below.refl _ _).alloc (Nat.le_refl _) _⟩

set_option maxHeartbeats 400000 in
theorem mark_box (base : Nat) (v : Value) (xs : List (Int × Int)) (k0 : Int) (w : World) (a : Option Addr) (cap : Nat) (hv : v = .slice a xs.length cap) (ha : w.ownsRow base 64 2 v xs.length (sds xs)) (hn : xs.length ≤ 1099511627776) (h0 : 0 ≤ k0) (h1 : k0 ≤ 1099511627776) :
    Calls Try.prog 14 #[.agg #[v], .int .i64 k0] w fun e w' => e = .returned (.int .i64 (k0 + 2 * (xs.length : Int))) ∧ w'.ownsRow base 64 2 v xs.length (sds (pmarks k0 xs.length)) ∧ Wrote (fun k => v.ownBlock = some k) w w' := by
  subst hv
  have HA := Lib.hid ha
  clear ha
  go_enter Try.func14, Try.ntmps14
  go_wp2_with fail
  refine (mark_sides base _ xs k0 _ a cap rfl (HA.out.alloc _) hn h0 h1).mono ?_
  rintro e w' ⟨rfl, ho, hw⟩
  have HO := Lib.hid ho; have HW := Lib.hid hw; clear ho hw
  go_wp2_with fail
  go_ret
  exact ⟨rfl, HO.out, (Wrote.of_below ((Below.refl _ _).alloc (Nat.le_refl _) _)).trans HW.out⟩

end Go.Proofs.Ythlajmncpejhmaa
