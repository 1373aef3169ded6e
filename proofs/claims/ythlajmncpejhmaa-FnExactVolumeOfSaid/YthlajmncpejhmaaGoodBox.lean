/- The contracts of GoodBox, the program's and the reference's. -/
import Derived.Test.YthlajmncpejhmaaSides
import Derived.Test.YthlajmncpejhmaaRanges
namespace Go.Proofs.Ythlajmncpejhmaa
set_option linter.unusedVariables false
open Go.ChangeShapes Go.WideShapes Go.ChangeAt Go.RowKit
set_option maxRecDepth 100000

def gs (p : Int × Int) : Bool := decide (-1000 ≤ p.1) && decide (p.1 ≤ p.2) && decide (p.2 ≤ 1000)
def bad (p : Int × Int) : Bool := !gs p
def GoodR (xs : List (Int × Int)) : Bool := xs.length == 3 && xs.all gs
theorem any_bad (xs : List (Int × Int)) : xs.any bad = !xs.all gs := by
  induction xs with
  | nil => rfl
  | cons x r ih => simp only [List.any_cons, List.all_cons, ih, bad]; cases gs x <;> simp

set_option maxHeartbeats 400000 in
theorem bad_clo (p : Int × Int) (w : World) : Calls Try.prog 64 #[.agg #[.int .i64 p.1, .int .i64 p.2]] w fun e w' => e = .returned (.bool (bad p)) ∧ Below w.heap.size w w' := by
  obtain ⟨x, y⟩ := p
  have hbx : ∀ W : World, Below W.heap.size W (W.alloc (.cells #[.int .i64 x, .int .i64 y] 64)) := fun W => (Below.refl _ _).alloc (Nat.le_refl _) _
  by_cases h1 : x < -1000
  · have hf : bad (x, y) = true := by simp [bad, gs]; omega
    rw [hf]
    clear hf
    go_enter Try.func64, Try.ntmps64
    go_wp2_with fail
    go_ret
    exact ⟨rfl, hbx _⟩
  by_cases h2 : y < x
  · have hf : bad (x, y) = true := by simp [bad, gs]; omega
    rw [hf]
    clear hf
    go_enter Try.func64, Try.ntmps64
    go_wp2_with fail
    go_ret
    exact ⟨rfl, hbx _⟩
  by_cases h3 : 1000 < y
  · have hf : bad (x, y) = true := by simp [bad, gs]; omega
    rw [hf]
    clear hf
    go_enter Try.func64, Try.ntmps64
    go_wp2_with fail
    go_ret
    exact ⟨rfl, hbx _⟩
  · have hf : bad (x, y) = false := by simp [bad, gs]; omega
    rw [hf]
    clear hf
    go_enter Try.func64, Try.ntmps64
    go_wp2_with fail
    go_ret
    exact ⟨rfl, hbx _⟩

set_option maxHeartbeats 400000 in
theorem sides_index (a : Option Addr) (cap : Nat) (xs : List (Int × Int)) (w : World) (hrow : Rw w a (sds xs)) (hn : xs.length ≤ 9223372036854775807) :
    Calls Try.prog 77 #[.slice a xs.length cap, .func (.func 64) #[] #[]] w fun e w' => e = .returned (.int .i64 (fidx bad xs)) ∧ Below w.heap.size w w' := by
  go_enter Try.func77, Try.ntmps77
  go_wp2
  go_loopw [8] (fun i wr => ∃ k : Nat, k ≤ xs.length ∧ i = .int .i64 k ∧ Hid ((xs.take k).any bad = false) ∧ Hid (Below w.heap.size w wr)) (fun i _ => xs.length - (intOf i).toNat)
  case atStart => exact ⟨0, Nat.zero_le _, rfl, rfl, Below.refl _ _⟩
  case round =>
    obtain ⟨k, hk, rfl, HA, HBR⟩ := hrel
    by_cases hlk : k < xs.length
    · obtain ⟨b, off, rfl, hbl, hc⟩ := hrow.at (sds_ne hlk)
      have c1 := (HBR.out.cell (p := ⟨b, off + k * 2, none⟩) hbl).trans (hc _ _ (sds_lo xs k hlk))
      have c2 : wr.cell? ⟨b, off + k * 2 + 1, none⟩ = _ := (HBR.out.cell (p := ⟨b, off + (k * 2 + 1), none⟩) hbl).trans (hc _ _ (sds_hi xs k hlk))
      have hyes : bad (xs.getD k (0, 0)) = true → fidx bad xs = k := fidx_here bad xs (0, 0) k hlk HA.out
      have hno : bad (xs.getD k (0, 0)) = false → (xs.take (k + 1)).any bad = false := fidx_next bad xs (0, 0) k hlk HA.out
      have HY := Lib.hid hyes; have HN := Lib.hid hno
      have HT := Lib.hid (bad_clo (xs.getD k (0, 0)))
      have HROW := Lib.hid hrow
      clear hc hrow hyes hno
      cases hp : bad (xs.getD k (0, 0)) with
      | true =>
        rw [hp] at HT
        have HP := Lib.hid hp
        clear hp
        generalize xs.getD k (0, 0) = p at *
        obtain ⟨x, y⟩ := p
        go_wp2_with (go_at_call 64; refine (HT.out _).mono ?_; rintro e w2 ⟨rfl, hb2⟩; have HB2 := Lib.hid hb2; clear hb2)
        go_ret
        exact ⟨ret_int (HY.out HP.out).symm, HBR.out.trans (HB2.out.mono HBR.out.size)⟩
      | false =>
        rw [hp] at HT
        have HP := Lib.hid hp
        clear hp
        generalize xs.getD k (0, 0) = p at *
        obtain ⟨x, y⟩ := p
        go_wp2_with (go_at_call 64; refine (HT.out _).mono ?_; rintro e w2 ⟨rfl, hb2⟩; have HB2 := Lib.hid hb2; clear hb2)
        go_roundw
        case rel => exact ⟨k + 1, by omega, by go_num, HN.out HP.out, HBR.out.trans (HB2.out.mono HBR.out.size)⟩
        case measure => simp [intOf]; omega
    · go_wp2
      go_ret
      obtain rfl : k = xs.length := by omega
      have h1 := HA.out
      rw [List.take_length] at h1
      exact ⟨ret_int (fidx_none bad xs h1).symm, HBR.out⟩

set_option maxHeartbeats 400000 in
theorem sides_contains (a : Option Addr) (cap : Nat) (xs : List (Int × Int)) (w : World) (hrow : Rw w a (sds xs)) (hn : xs.length ≤ 9223372036854775807) :
    Calls Try.prog 63 #[.slice a xs.length cap, .func (.func 64) #[] #[]] w fun e w' => e = .returned (.bool (xs.any bad)) ∧ Below w.heap.size w w' := by
  by_cases h : 0 ≤ fidx bad xs
  · have H := Lib.hid ((fidx_any bad xs).1 h)
    go_enter Try.func63, Try.ntmps63
    go_wp2_with (go_at_call 77; refine (sides_index a cap xs _ hrow hn).mono ?_; rintro e w' ⟨rfl, hb2⟩; have HB2 := Lib.hid hb2; clear hb2)
    go_ret
    exact ⟨ret_bool (by rw [H.out]; try (simp; try omega)), HB2.out⟩
  · have H := Lib.hid (Bool.eq_false_iff.2 fun hc => h ((fidx_any bad xs).2 hc))
    go_enter Try.func63, Try.ntmps63
    go_wp2_with (go_at_call 77; refine (sides_index a cap xs _ hrow hn).mono ?_; rintro e w' ⟨rfl, hb2⟩; have HB2 := Lib.hid hb2; clear hb2)
    go_ret
    exact ⟨ret_bool (by rw [H.out]; try (simp; try omega)), HB2.out⟩

set_option maxHeartbeats 400000 in
theorem impl_goodBox (a : Option Addr) (cap : Nat) (xs : List (Int × Int)) (w : World) (hrow : Rw w a (sds xs)) (hn : xs.length ≤ 9223372036854775807) :
    Calls Try.prog 36 #[.agg #[.slice a xs.length cap]] w fun e w' => e = .returned (.bool (GoodR xs)) ∧ Below w.heap.size w w' := by
  have HR := Lib.hid hrow
  clear hrow
  have hb0 := fun (o : Obj) => (Below.refl w.heap.size w).alloc (Nat.le_refl _) o
  have HB0 := Lib.hid hb0
  clear hb0
  by_cases h3 : xs.length = 3
  · have hd : ((xs.length : Int) == 3) = true := by simp; omega
    have hf : GoodR xs = !(xs.any bad) := by unfold GoodR; rw [any_bad, h3]; simp
    rw [hf]
    clear hf h3
    go_enter Try.func36, Try.ntmps36
    go_wp2_with (go_at_call 63; refine (sides_contains a cap xs _ (HR.out.alloc _) hn).mono ?_; rintro e w' ⟨rfl, hb2⟩; have HB2 := Lib.hid hb2; clear hb2)
    go_ret
    exact ⟨rfl, (HB0.out _).trans (HB2.out.mono (by simp))⟩
  · have hd : ((xs.length : Int) == 3) = false := by simp; omega
    have hf : GoodR xs = false := by unfold GoodR; simp [h3]
    rw [hf]
    clear hf
    go_enter Try.func36, Try.ntmps36
    go_wp2_with fail
    go_ret
    exact ⟨rfl, HB0.out _⟩

theorem int3 (xs : List (Int × Int)) (h1 : xs.all gs = true) : ((xs.length : Int) == 3) = GoodR xs := by
  unfold GoodR
  rw [h1, Bool.and_true]
  by_cases h : xs.length = 3
  · rw [h]; rfl
  · have e1 : ((xs.length : Int) == 3) = false := by rw [beq_eq_false_iff_ne]; omega
    have e2 : (xs.length == 3) = false := by rw [beq_eq_false_iff_ne]; exact h
    rw [e1, e2]
theorem all_next {α : Type} (p : α → Bool) (xs : List α) (d : α) (k : Nat) (h : k < xs.length) (ha : (xs.take k).all p = true) (hp : p (xs.getD k d) = true) : (xs.take (k + 1)).all p = true := by
  have hg : xs.getD k d = xs[k] := by simp [List.getD, h]
  rw [hg] at hp
  rw [List.take_succ_eq_append_getElem h, List.all_append, ha]; simp [hp]
theorem all_here {α : Type} (p : α → Bool) (xs : List α) (d : α) (k : Nat) (h : k < xs.length) (hp : p (xs.getD k d) = false) : xs.all p = false := by
  have hg : xs.getD k d = xs[k] := by simp [List.getD, h]
  rw [hg] at hp
  rw [List.all_eq_false]
  exact ⟨xs[k], List.getElem_mem h, by simp [hp]⟩

set_option maxHeartbeats 1000000 in
theorem spec_goodBox (a : Option Addr) (cap : Nat) (xs : List (Int × Int)) (w : World) (hrow : Rw w a (sds xs)) (hn : xs.length ≤ 9223372036854775807) :
    Calls Try.prog 37 #[.agg #[.slice a xs.length cap]] w fun e w' => e = .returned (.bool (GoodR xs)) ∧ Below w.heap.size w w' := by
  have HR := Lib.hid hrow
  have HBX := Lib.hid (box_start w (.cells #[.slice a xs.length cap] 28))
  go_enter Try.func37, Try.ntmps37
  go_wp2
  go_loopw [8] (fun i wr => ∃ k : Nat, k ≤ xs.length ∧ i = .int .i64 k ∧ Hid ((xs.take k).all gs = true) ∧ Hid (Below (w.heap.size + 1) (w.alloc (.cells #[.slice a xs.length cap] 28)) wr)) (fun i _ => xs.length - (intOf i).toNat)
  case atStart => exact ⟨0, Nat.zero_le _, rfl, rfl, Below.refl _ _⟩
  case round =>
    obtain ⟨k, hk, rfl, HA, HBR⟩ := hrel
    have HBB := Lib.hid (box_below HBR.out)
    have hbc := box_cell HBR.out 0
    by_cases hlk : k < xs.length
    · obtain ⟨b, off, rfl, hbl, hc⟩ := hrow.at (sds_ne hlk)
      have c1 := (HBB.out.cell (p := ⟨b, off + k * 2, none⟩) hbl).trans (hc _ _ (sds_lo xs k hlk))
      have c2 : wr.cell? ⟨b, off + k * 2 + 1, none⟩ = _ := (HBB.out.cell (p := ⟨b, off + (k * 2 + 1), none⟩) hbl).trans (hc _ _ (sds_hi xs k hlk))
      have hyes : gs (xs.getD k (0, 0)) = true → (xs.take (k + 1)).all gs = true := all_next gs xs (0, 0) k hlk HA.out
      have hno : gs (xs.getD k (0, 0)) = false → GoodR xs = false := fun h => by unfold GoodR; rw [all_here gs xs (0, 0) k hlk h]; simp
      have HY := Lib.hid hyes; have HN := Lib.hid hno
      clear hc hyes hno
      generalize xs.getD k (0, 0) = p at *
      obtain ⟨x, y⟩ := p
      have H1 := Lib.hid (fun w => l1In_any x (-1000) 1000 w)
      have H2 := Lib.hid (fun w => l1In_any y x 1000 w)
      have HROW := Lib.hid hrow
      clear hrow
      cases h1 : inB x (-1000) 1000 with
      | false =>
        rw [h1] at H1
        have HG := Lib.hid (HN.out (by simp [inB] at h1; simp [gs]; omega))
        clear h1
        go_wp2_with (go_at_call 65; refine (H1.out _).mono ?_; rintro e w' ⟨rfl, rfl⟩)
        go_ret
        exact ⟨ret_bool HG.out.symm, (box_below HBR.out).alloc HBB.out.size _⟩
      | true =>
        rw [h1] at H1
        cases h2 : inB y x 1000 with
        | false =>
          rw [h2] at H2
          have HG := Lib.hid (HN.out (by simp [inB] at h1 h2; simp [gs]; omega))
          clear h1 h2
          go_wp2_with (go_at_call 65; first | (with_reducible refine (H1.out _).mono ?_; rintro e w' ⟨rfl, rfl⟩) | (with_reducible refine (H2.out _).mono ?_; rintro e w' ⟨rfl, rfl⟩))
          go_ret
          exact ⟨ret_bool HG.out.symm, (box_below HBR.out).alloc HBB.out.size _⟩
        | true =>
          rw [h2] at H2
          have HG := Lib.hid (HY.out (by simp [inB] at h1 h2; simp [gs]; omega))
          clear h1 h2
          go_wp2_with (go_at_call 65; first | (with_reducible refine (H1.out _).mono ?_; rintro e w' ⟨rfl, rfl⟩) | (with_reducible refine (H2.out _).mono ?_; rintro e w' ⟨rfl, rfl⟩))
          go_roundw
          case rel => exact ⟨k + 1, by omega, by go_num, HG.out, box_step HBR.out ((Below.refl _ _).alloc (Nat.le_refl _) _)⟩
          case measure => simp [intOf]; omega
    · clear hrow
      go_wp2
      go_ret
      obtain rfl : k = xs.length := by omega
      have h1 := HA.out
      rw [List.take_length] at h1
      exact ⟨ret_bool (int3 _ h1), HBB.out⟩

end Go.Proofs.Ythlajmncpejhmaa
