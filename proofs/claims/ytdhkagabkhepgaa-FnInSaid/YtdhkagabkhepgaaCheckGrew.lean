/- CheckGrew, the program's and the reference's: one plain function. -/
import Derived.Test.YtdhkagabkhepgaaCheckIn
namespace Go.Proofs.Ytdhkagabkhepgaa
set_option linter.unusedVariables false
open Go.ChangeShapes Go.WideShapes Go.ChangeAt Go.RowKit

def CheckGrewR (old oldn root many : Int) (p : List Int) : Bool × Bool :=
  if sumB old && sumB root && inB many 1 40 && inB oldn 1 many && sumsB p then
    (if (bothF 40 many.toNat oldn.toNat true old p).2 then ((bothF 40 many.toNat oldn.toNat true old p).1.1 == old && (bothF 40 many.toNat oldn.toNat true old p).1.2 == root, true) else (false, false))
  else (false, false)

set_option maxHeartbeats 2000000 in
theorem impl_checkGrew (old oldn root many : Int) (a : Option Addr) (c : Nat) (p : List Int) (w : World) (hr : Rw w a (ints p)) (hn : p.length ≤ 1048576) (hpc : p.length ≤ c) (hc : c ≤ 9223372036854775807) :
    Calls Try.prog 27 #[.int .i64 old, .int .i64 oldn, .int .i64 root, .int .i64 many, .agg #[.slice a p.length c]] w fun e w' => e = .returned (.tuple #[.bool (CheckGrewR old oldn root many p).1, .bool (CheckGrewR old oldn root many p).2]) ∧ Below w.heap.size w w' := by
  have HB0 := Lib.hid ((Below.refl w.heap.size w).alloc (Nat.le_refl _) (.cells #[.slice a p.length c] 41))
  cases h0 : sumB old with
  | false =>
    have hf : CheckGrewR old oldn root many p = (false, false) := by unfold CheckGrewR; simp [h0]
    rw [hf]; clear hf hr
    go_enter Try.func27, Try.ntmps27
    go_wp2_with (first | (go_at_call 49; refine (impl_sum _ _).mono ?_; rintro e w' ⟨rfl, rfl⟩) | (go_at_call 53; refine (within_any _ _ _ _).mono ?_; rintro e w' ⟨rfl, rfl⟩))
    go_ret2
    exact ⟨rfl, HB0.out⟩
  | true =>
  cases h1 : sumB root with
  | false =>
    have hf : CheckGrewR old oldn root many p = (false, false) := by unfold CheckGrewR; simp [h1]
    rw [hf]; clear hf hr
    go_enter Try.func27, Try.ntmps27
    go_wp2_with (first | (go_at_call 49; refine (impl_sum _ _).mono ?_; rintro e w' ⟨rfl, rfl⟩) | (go_at_call 53; refine (within_any _ _ _ _).mono ?_; rintro e w' ⟨rfl, rfl⟩))
    go_ret2
    exact ⟨rfl, HB0.out⟩
  | true =>
  cases h2 : inB many 1 40 with
  | false =>
    have hf : CheckGrewR old oldn root many p = (false, false) := by unfold CheckGrewR; simp [h2]
    rw [hf]; clear hf hr
    go_enter Try.func27, Try.ntmps27
    go_wp2_with (first | (go_at_call 49; refine (impl_sum _ _).mono ?_; rintro e w' ⟨rfl, rfl⟩) | (go_at_call 53; refine (within_any _ _ _ _).mono ?_; rintro e w' ⟨rfl, rfl⟩))
    go_ret2
    exact ⟨rfl, HB0.out⟩
  | true =>
  have hm := inB_of h2
  obtain ⟨hm0, hm1⟩ := hm
  cases h3 : inB oldn 1 many with
  | false =>
    have hf : CheckGrewR old oldn root many p = (false, false) := by unfold CheckGrewR; simp [h3]
    rw [hf]; clear hf hr
    go_enter Try.func27, Try.ntmps27
    go_wp2_with (first | (go_at_call 49; refine (impl_sum _ _).mono ?_; rintro e w' ⟨rfl, rfl⟩) | (go_at_call 53; refine (within_any _ _ _ _).mono ?_; rintro e w' ⟨rfl, rfl⟩))
    go_ret2
    exact ⟨rfl, HB0.out⟩
  | true =>
  have hk := inB_of h3
  obtain ⟨hk0, hk1⟩ := hk
  have HR := Lib.hid hr
  cases h5 : sumsB p with
  | false =>
    have hf : CheckGrewR old oldn root many p = (false, false) := by unfold CheckGrewR; simp [h5]
    rw [hf]; clear hf hr
    go_enter Try.func27, Try.ntmps27
    go_wp2_with (first | (go_at_call 49; refine (impl_sum _ _).mono ?_; rintro e w' ⟨rfl, rfl⟩) | (go_at_call 53; refine (within_any _ _ _ _).mono ?_; rintro e w' ⟨rfl, rfl⟩))
    refine (sumsOK_any a c p _ (HR.out.alloc _) hn).mono ?_
    rintro e w2 ⟨rfl, hb2⟩
    have HB2 := Lib.hid (below_of _ hb2 HB0.out HB0.out.size); clear hb2
    go_wp2_with fail
    go_ret2
    exact ⟨rfl, HB2.out⟩
  | true =>
  have hp := sumsB_all h5
  obtain ⟨n, rfl⟩ := Int.eq_ofNat_of_zero_le (show 0 ≤ many by omega)
  obtain ⟨m, rfl⟩ := Int.eq_ofNat_of_zero_le (show 0 ≤ oldn by omega)
  have hold : inR old := inB_of h0
  have hf : CheckGrewR old (m : Int) root (n : Int) p = (if (bothF 40 n m true old p).2 then ((bothF 40 n m true old p).1.1 == old && (bothF 40 n m true old p).1.2 == root, true) else (false, false)) := by
    unfold CheckGrewR; simp [h0, h1, h2, h3, h5]
  rw [hf]
  have hag := grew_agree 40 n m true old p
  have hin := fun (wx : World) (R : Nat) (hcur : Cur wx R p false) => grew_any 40 n m true old R p false wx (by omega) (by omega) (by omega) (by omega) hold hp hcur
  clear hf hr hp hold
  generalize grewF 40 n m true old p false = r at *
  generalize bothF 40 n m true old p = u at *
  obtain ⟨⟨va, vb⟩, rest, bad⟩ := r
  obtain ⟨⟨ua, uc⟩, ub⟩ := u
  have HIN := Lib.hid hin; clear hin
  cases ub with
  | true =>
    have hr := hag.1 rfl
    simp only [Prod.mk.injEq] at hr
    obtain ⟨⟨rfl, rfl⟩, rfl, rfl⟩ := hr
    clear hag
    cases h6 : (va == old) with
    | true =>
      go_enter Try.func27, Try.ntmps27
      go_wp2_with (first | (go_at_call 49; refine (impl_sum _ _).mono ?_; rintro e w' ⟨rfl, rfl⟩) | (go_at_call 53; refine (within_any _ _ _ _).mono ?_; rintro e w' ⟨rfl, rfl⟩))
      refine (sumsOK_any a c p _ (HR.out.alloc _) hn).mono ?_
      rintro e w2 ⟨rfl, hb2⟩
      have hcl : w2.cell? ⟨w.heap.size, 0, none⟩ = some (.slice a p.length c) := (hb2.cell (p := ⟨w.heap.size, 0, none⟩) (by simp)).trans (by simp)
      have hsz : w.heap.size < w2.heap.size := Nat.lt_of_lt_of_le (by simp) hb2.size
      have HB2 := Lib.hid (below_of _ hb2 HB0.out HB0.out.size); clear hb2
      go_wp2_with fail
      refine (HIN.out _ w2.heap.size ⟨a, c, alloc_block _ _ _ rfl, hpc, hc, Rb.below (HR.out.below HB2.out) ((Below.refl _ _).alloc (Nat.le_refl _) _)⟩).mono ?_
      rintro e w3 ⟨rfl, ⟨a', c', hb', _⟩, hw3⟩
      have HBB := Lib.hid (HB2.out.trans ((((Below.refl w2.heap.size w2).alloc (Nat.le_refl _) _).trans (Wrote.below hw3 (B := w2.heap.size) (by simp) (fun k hk => by omega))).mono (Nat.le_of_lt hsz)))
      clear hw3 HIN
      have c0 := Joins.cell_of_block hb' 0
      have c1 := Joins.cell_of_block hb' 1
      simp at c0 c1
      clear hb'
      go_wp2_with fail
      go_ret2
      exact ⟨rfl, HBB.out⟩
    | false =>
      go_enter Try.func27, Try.ntmps27
      go_wp2_with (first | (go_at_call 49; refine (impl_sum _ _).mono ?_; rintro e w' ⟨rfl, rfl⟩) | (go_at_call 53; refine (within_any _ _ _ _).mono ?_; rintro e w' ⟨rfl, rfl⟩))
      refine (sumsOK_any a c p _ (HR.out.alloc _) hn).mono ?_
      rintro e w2 ⟨rfl, hb2⟩
      have hcl : w2.cell? ⟨w.heap.size, 0, none⟩ = some (.slice a p.length c) := (hb2.cell (p := ⟨w.heap.size, 0, none⟩) (by simp)).trans (by simp)
      have hsz : w.heap.size < w2.heap.size := Nat.lt_of_lt_of_le (by simp) hb2.size
      have HB2 := Lib.hid (below_of _ hb2 HB0.out HB0.out.size); clear hb2
      go_wp2_with fail
      refine (HIN.out _ w2.heap.size ⟨a, c, alloc_block _ _ _ rfl, hpc, hc, Rb.below (HR.out.below HB2.out) ((Below.refl _ _).alloc (Nat.le_refl _) _)⟩).mono ?_
      rintro e w3 ⟨rfl, ⟨a', c', hb', _⟩, hw3⟩
      have HBB := Lib.hid (HB2.out.trans ((((Below.refl w2.heap.size w2).alloc (Nat.le_refl _) _).trans (Wrote.below hw3 (B := w2.heap.size) (by simp) (fun k hk => by omega))).mono (Nat.le_of_lt hsz)))
      clear hw3 HIN
      have c0 := Joins.cell_of_block hb' 0
      have c1 := Joins.cell_of_block hb' 1
      simp at c0 c1
      clear hb'
      go_wp2_with fail
      go_ret2
      exact ⟨rfl, HBB.out⟩
  | false =>
    have hr := hag.2 rfl
    clear hag
    cases bad with
    | true =>
      clear hr
      go_enter Try.func27, Try.ntmps27
      go_wp2_with (first | (go_at_call 49; refine (impl_sum _ _).mono ?_; rintro e w' ⟨rfl, rfl⟩) | (go_at_call 53; refine (within_any _ _ _ _).mono ?_; rintro e w' ⟨rfl, rfl⟩))
      refine (sumsOK_any a c p _ (HR.out.alloc _) hn).mono ?_
      rintro e w2 ⟨rfl, hb2⟩
      have hcl : w2.cell? ⟨w.heap.size, 0, none⟩ = some (.slice a p.length c) := (hb2.cell (p := ⟨w.heap.size, 0, none⟩) (by simp)).trans (by simp)
      have hsz : w.heap.size < w2.heap.size := Nat.lt_of_lt_of_le (by simp) hb2.size
      have HB2 := Lib.hid (below_of _ hb2 HB0.out HB0.out.size); clear hb2
      go_wp2_with fail
      refine (HIN.out _ w2.heap.size ⟨a, c, alloc_block _ _ _ rfl, hpc, hc, Rb.below (HR.out.below HB2.out) ((Below.refl _ _).alloc (Nat.le_refl _) _)⟩).mono ?_
      rintro e w3 ⟨rfl, ⟨a', c', hb', _⟩, hw3⟩
      have HBB := Lib.hid (HB2.out.trans ((((Below.refl w2.heap.size w2).alloc (Nat.le_refl _) _).trans (Wrote.below hw3 (B := w2.heap.size) (by simp) (fun k hk => by omega))).mono (Nat.le_of_lt hsz)))
      clear hw3 HIN
      have c0 := Joins.cell_of_block hb' 0
      have c1 := Joins.cell_of_block hb' 1
      simp at c0 c1
      clear hb'
      go_wp2_with fail
      go_ret2
      exact ⟨rfl, HBB.out⟩
    | false =>
      have hne : rest ≠ [] := by rcases hr with h | h; cases h; exact h
      have hl : 0 < rest.length := List.length_pos_iff.2 hne
      clear hr hne
      go_enter Try.func27, Try.ntmps27
      go_wp2_with (first | (go_at_call 49; refine (impl_sum _ _).mono ?_; rintro e w' ⟨rfl, rfl⟩) | (go_at_call 53; refine (within_any _ _ _ _).mono ?_; rintro e w' ⟨rfl, rfl⟩))
      refine (sumsOK_any a c p _ (HR.out.alloc _) hn).mono ?_
      rintro e w2 ⟨rfl, hb2⟩
      have hcl : w2.cell? ⟨w.heap.size, 0, none⟩ = some (.slice a p.length c) := (hb2.cell (p := ⟨w.heap.size, 0, none⟩) (by simp)).trans (by simp)
      have hsz : w.heap.size < w2.heap.size := Nat.lt_of_lt_of_le (by simp) hb2.size
      have HB2 := Lib.hid (below_of _ hb2 HB0.out HB0.out.size); clear hb2
      go_wp2_with fail
      refine (HIN.out _ w2.heap.size ⟨a, c, alloc_block _ _ _ rfl, hpc, hc, Rb.below (HR.out.below HB2.out) ((Below.refl _ _).alloc (Nat.le_refl _) _)⟩).mono ?_
      rintro e w3 ⟨rfl, ⟨a', c', hb', _⟩, hw3⟩
      have HBB := Lib.hid (HB2.out.trans ((((Below.refl w2.heap.size w2).alloc (Nat.le_refl _) _).trans (Wrote.below hw3 (B := w2.heap.size) (by simp) (fun k hk => by omega))).mono (Nat.le_of_lt hsz)))
      clear hw3 HIN
      have c0 := Joins.cell_of_block hb' 0
      have c1 := Joins.cell_of_block hb' 1
      simp at c0 c1
      clear hb'
      generalize rest.length = len at *
      go_wp2_with fail
      go_ret2
      exact ⟨rfl, HBB.out⟩

set_option maxHeartbeats 2000000 in
theorem spec_checkGrew (old oldn root many : Int) (a : Option Addr) (c : Nat) (p : List Int) (w : World) (hr : Rw w a (ints p)) (hn : p.length ≤ 1048576) (hpc : p.length ≤ c) (hc : c ≤ 9223372036854775807) :
    Calls Try.prog 25 #[.int .i64 old, .int .i64 oldn, .int .i64 root, .int .i64 many, .agg #[.slice a p.length c]] w fun e w' => e = .returned (.tuple #[.bool (CheckGrewR old oldn root many p).1, .bool (CheckGrewR old oldn root many p).2]) ∧ Below w.heap.size w w' := by
  have HB0 := Lib.hid ((Below.refl w.heap.size w).alloc (Nat.le_refl _) (.cells #[.slice a p.length c] 41))
  cases h0 : sumB old with
  | false =>
    have hf : CheckGrewR old oldn root many p = (false, false) := by unfold CheckGrewR; simp [h0]
    rw [hf]; clear hf hr
    go_enter Try.func25, Try.ntmps25
    go_wp2_with (first | (go_at_call 47; refine (spec_sum _ _).mono ?_; rintro e w' ⟨rfl, rfl⟩) | (go_at_call 51; refine (l1In_any _ _ _ _).mono ?_; rintro e w' ⟨rfl, rfl⟩))
    go_ret2
    exact ⟨rfl, HB0.out⟩
  | true =>
  cases h1 : sumB root with
  | false =>
    have hf : CheckGrewR old oldn root many p = (false, false) := by unfold CheckGrewR; simp [h1]
    rw [hf]; clear hf hr
    go_enter Try.func25, Try.ntmps25
    go_wp2_with (first | (go_at_call 47; refine (spec_sum _ _).mono ?_; rintro e w' ⟨rfl, rfl⟩) | (go_at_call 51; refine (l1In_any _ _ _ _).mono ?_; rintro e w' ⟨rfl, rfl⟩))
    go_ret2
    exact ⟨rfl, HB0.out⟩
  | true =>
  cases h2 : inB many 1 40 with
  | false =>
    have hf : CheckGrewR old oldn root many p = (false, false) := by unfold CheckGrewR; simp [h2]
    rw [hf]; clear hf hr
    go_enter Try.func25, Try.ntmps25
    go_wp2_with (first | (go_at_call 47; refine (spec_sum _ _).mono ?_; rintro e w' ⟨rfl, rfl⟩) | (go_at_call 51; refine (l1In_any _ _ _ _).mono ?_; rintro e w' ⟨rfl, rfl⟩))
    go_ret2
    exact ⟨rfl, HB0.out⟩
  | true =>
  have hm := inB_of h2
  obtain ⟨hm0, hm1⟩ := hm
  cases h3 : inB oldn 1 many with
  | false =>
    have hf : CheckGrewR old oldn root many p = (false, false) := by unfold CheckGrewR; simp [h3]
    rw [hf]; clear hf hr
    go_enter Try.func25, Try.ntmps25
    go_wp2_with (first | (go_at_call 47; refine (spec_sum _ _).mono ?_; rintro e w' ⟨rfl, rfl⟩) | (go_at_call 51; refine (l1In_any _ _ _ _).mono ?_; rintro e w' ⟨rfl, rfl⟩))
    go_ret2
    exact ⟨rfl, HB0.out⟩
  | true =>
  have hk := inB_of h3
  obtain ⟨hk0, hk1⟩ := hk
  have HR := Lib.hid hr
  cases h5 : proofB p with
  | false =>
    have hf : CheckGrewR old oldn root many p = (false, false) := by
      unfold CheckGrewR
      by_cases hg : (sumB old && sumB root && inB many 1 40 && inB oldn 1 many && sumsB p) = true
      · rw [if_pos hg]
        have h6 : sumsB p = true := by simp at hg; exact hg.2
        have h7 : ¬ p.length ≤ 20 := by intro hc; unfold proofB at h5; rw [h6] at h5; simp at h5; omega
        have h8 := grewD_le many.toNat (by omega) oldn.toNat (by omega) (by omega) true
        rw [bothF_ok, if_neg (by simp; omega)]
      · rw [if_neg hg]
    rw [hf]; clear hf hr
    go_enter Try.func25, Try.ntmps25
    go_wp2_with (first | (go_at_call 47; refine (spec_sum _ _).mono ?_; rintro e w' ⟨rfl, rfl⟩) | (go_at_call 51; refine (l1In_any _ _ _ _).mono ?_; rintro e w' ⟨rfl, rfl⟩))
    refine (l13Proof_any a c p _ (HR.out.alloc _) hn).mono ?_
    rintro e w2 ⟨rfl, hb2⟩
    have HB2 := Lib.hid (below_of _ hb2 HB0.out HB0.out.size); clear hb2
    go_wp2_with fail
    go_ret2
    exact ⟨rfl, HB2.out⟩
  | true =>
  have h6 : sumsB p = true := by unfold proofB at h5; simp at h5; exact h5.1
  have hp := sumsB_all h6
  obtain ⟨n, rfl⟩ := Int.eq_ofNat_of_zero_le (show 0 ≤ many by omega)
  obtain ⟨m, rfl⟩ := Int.eq_ofNat_of_zero_le (show 0 ≤ oldn by omega)
  have hold : inR old := inB_of h0
  have hf : CheckGrewR old (m : Int) root (n : Int) p = (if (bothF 40 n m true old p).2 then ((bothF 40 n m true old p).1.1 == old && (bothF 40 n m true old p).1.2 == root, true) else (false, false)) := by
    unfold CheckGrewR; simp [h0, h1, h2, h3, h6]
  rw [hf]
  have hin := fun (wx : World) (hw : Rw wx a (ints p)) => both_any 40 n m true old a p.length c p wx (by omega) (by omega) (by omega) (by omega) hold hp rfl hpc hc hw
  clear hf hr hp hold h6
  generalize bothF 40 n m true old p = u at *
  obtain ⟨⟨ua, uc⟩, ub⟩ := u
  have HIN := Lib.hid hin; clear hin
  cases ub with
  | true =>
    cases h6 : (ua == old) with
    | true =>
      go_enter Try.func25, Try.ntmps25
      go_wp2_with (first | (go_at_call 47; refine (spec_sum _ _).mono ?_; rintro e w' ⟨rfl, rfl⟩) | (go_at_call 51; refine (l1In_any _ _ _ _).mono ?_; rintro e w' ⟨rfl, rfl⟩))
      refine (l13Proof_any a c p _ (HR.out.alloc _) hn).mono ?_
      rintro e w2 ⟨rfl, hb2⟩
      have hcl : w2.cell? ⟨w.heap.size, 0, none⟩ = some (.slice a p.length c) := (hb2.cell (p := ⟨w.heap.size, 0, none⟩) (by simp)).trans (by simp)
      have HB2 := Lib.hid (below_of _ hb2 HB0.out HB0.out.size); clear hb2
      have HRR := Lib.hid (HR.out.below HB2.out)
      go_wp2_with fail
      refine (HIN.out _ HRR.out).mono ?_
      rintro e w' ⟨rfl, n1, rfl⟩
      go_wp2_with fail
      go_ret2
      exact ⟨rfl, below_drewN HB2.out _⟩
    | false =>
      go_enter Try.func25, Try.ntmps25
      go_wp2_with (first | (go_at_call 47; refine (spec_sum _ _).mono ?_; rintro e w' ⟨rfl, rfl⟩) | (go_at_call 51; refine (l1In_any _ _ _ _).mono ?_; rintro e w' ⟨rfl, rfl⟩))
      refine (l13Proof_any a c p _ (HR.out.alloc _) hn).mono ?_
      rintro e w2 ⟨rfl, hb2⟩
      have hcl : w2.cell? ⟨w.heap.size, 0, none⟩ = some (.slice a p.length c) := (hb2.cell (p := ⟨w.heap.size, 0, none⟩) (by simp)).trans (by simp)
      have HB2 := Lib.hid (below_of _ hb2 HB0.out HB0.out.size); clear hb2
      have HRR := Lib.hid (HR.out.below HB2.out)
      go_wp2_with fail
      refine (HIN.out _ HRR.out).mono ?_
      rintro e w' ⟨rfl, n1, rfl⟩
      go_wp2_with fail
      go_ret2
      exact ⟨rfl, below_drewN HB2.out _⟩
  | false =>
    go_enter Try.func25, Try.ntmps25
    go_wp2_with (first | (go_at_call 47; refine (spec_sum _ _).mono ?_; rintro e w' ⟨rfl, rfl⟩) | (go_at_call 51; refine (l1In_any _ _ _ _).mono ?_; rintro e w' ⟨rfl, rfl⟩))
    refine (l13Proof_any a c p _ (HR.out.alloc _) hn).mono ?_
    rintro e w2 ⟨rfl, hb2⟩
    have hcl : w2.cell? ⟨w.heap.size, 0, none⟩ = some (.slice a p.length c) := (hb2.cell (p := ⟨w.heap.size, 0, none⟩) (by simp)).trans (by simp)
    have HB2 := Lib.hid (below_of _ hb2 HB0.out HB0.out.size); clear hb2
    have HRR := Lib.hid (HR.out.below HB2.out)
    go_wp2_with fail
    refine (HIN.out _ HRR.out).mono ?_
    rintro e w' ⟨rfl, n1, rfl⟩
    go_wp2_with fail
    go_ret2
    exact ⟨rfl, below_drewN HB2.out _⟩

end Go.Proofs.Ytdhkagabkhepgaa
