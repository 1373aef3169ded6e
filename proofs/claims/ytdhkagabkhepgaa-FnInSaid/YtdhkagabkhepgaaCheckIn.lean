/- CheckIn, the program's and the reference's: one plain function. -/
import Derived.Test.YtdhkagabkhepgaaLogSpec2
namespace Go.Proofs.Ytdhkagabkhepgaa
set_option linter.unusedVariables false
open Go.ChangeShapes Go.WideShapes Go.ChangeAt Go.RowKit

def CheckInR (root many k : Int) (s : ByteArray) (p : List Int) : Bool × Bool :=
  if sumB root && inB many 1 40 && inB k 0 (many - 1) && decide (s.size ≤ 20) && sumsB p then
    (if (upF 40 many.toNat k.toNat (leaf s.data.toList) p).2 then ((upF 40 many.toNat k.toNat (leaf s.data.toList) p).1 == root, true) else (false, false))
  else (false, false)

theorem alloc_block (w : World) (o : Obj) (g : Nat) (hg : g = w.heap.size) : (w.alloc o).heap[g]? = some o := by subst hg; exact heap_alloc_new w o

set_option maxHeartbeats 1000000 in
theorem impl_checkIn (root many k : Int) (s : ByteArray) (a : Option Addr) (c : Nat) (p : List Int) (w : World) (hs : s.size ≤ maxLen) (hr : Rw w a (ints p)) (hn : p.length ≤ 1048576) (hpc : p.length ≤ c) (hc : c ≤ 9223372036854775807) :
    Calls Try.prog 30 #[.int .i64 root, .int .i64 many, .int .i64 k, .string s, .agg #[.slice a p.length c]] w fun e w' => e = .returned (.tuple #[.bool (CheckInR root many k s p).1, .bool (CheckInR root many k s p).2]) ∧ Below w.heap.size w w' := by
  have HB0 := Lib.hid ((Below.refl w.heap.size w).alloc (Nat.le_refl _) (.cells #[.slice a p.length c] 41))
  have hs63 : s.size ≤ 9223372036854775807 := hs
  cases h1 : sumB root with
  | false =>
    have hf : CheckInR root many k s p = (false, false) := by unfold CheckInR; simp [h1]
    rw [hf]; clear hf hr
    go_enter Try.func30, Try.ntmps30
    go_wp2_with (first | (go_at_call 49; refine (impl_sum _ _).mono ?_; rintro e w' ⟨rfl, rfl⟩) | (go_at_call 53; refine (within_any _ _ _ _).mono ?_; rintro e w' ⟨rfl, rfl⟩))
    go_ret2
    exact ⟨rfl, HB0.out⟩
  | true =>
  cases h2 : inB many 1 40 with
  | false =>
    have hf : CheckInR root many k s p = (false, false) := by unfold CheckInR; simp [h2]
    rw [hf]; clear hf hr
    go_enter Try.func30, Try.ntmps30
    go_wp2_with (first | (go_at_call 49; refine (impl_sum _ _).mono ?_; rintro e w' ⟨rfl, rfl⟩) | (go_at_call 53; refine (within_any _ _ _ _).mono ?_; rintro e w' ⟨rfl, rfl⟩))
    go_ret2
    exact ⟨rfl, HB0.out⟩
  | true =>
  have hm := inB_of h2
  obtain ⟨hm0, hm1⟩ := hm
  cases h3 : inB k 0 (many - 1) with
  | false =>
    have hf : CheckInR root many k s p = (false, false) := by unfold CheckInR; simp [h3]
    rw [hf]; clear hf hr
    go_enter Try.func30, Try.ntmps30
    go_wp2_with (first | (go_at_call 49; refine (impl_sum _ _).mono ?_; rintro e w' ⟨rfl, rfl⟩) | (go_at_call 53; refine (within_any _ _ _ _).mono ?_; rintro e w' ⟨rfl, rfl⟩))
    go_ret2
    exact ⟨rfl, HB0.out⟩
  | true =>
  have hk := inB_of h3
  obtain ⟨hk0, hk1⟩ := hk
  by_cases h4 : 20 < s.size
  · have hf : CheckInR root many k s p = (false, false) := by unfold CheckInR; rw [show decide (s.size ≤ 20) = false from by simp; omega]; simp
    rw [hf]; clear hf hr
    go_enter Try.func30, Try.ntmps30
    go_wp2_with (first | (go_at_call 49; refine (impl_sum _ _).mono ?_; rintro e w' ⟨rfl, rfl⟩) | (go_at_call 53; refine (within_any _ _ _ _).mono ?_; rintro e w' ⟨rfl, rfl⟩))
    go_ret2
    exact ⟨rfl, HB0.out⟩
  have h4' : s.size ≤ 20 := by omega
  have HR := Lib.hid hr
  cases h5 : sumsB p with
  | false =>
    have hf : CheckInR root many k s p = (false, false) := by unfold CheckInR; simp [h5]
    rw [hf]; clear hf hr
    go_enter Try.func30, Try.ntmps30
    go_wp2_with (first | (go_at_call 49; refine (impl_sum _ _).mono ?_; rintro e w' ⟨rfl, rfl⟩) | (go_at_call 53; refine (within_any _ _ _ _).mono ?_; rintro e w' ⟨rfl, rfl⟩))
    refine (sumsOK_any a c p _ (HR.out.alloc _) hn).mono ?_
    rintro e w2 ⟨rfl, hb2⟩
    have HB2 := Lib.hid (below_of _ hb2 HB0.out HB0.out.size); clear hb2
    go_wp2_with fail
    go_ret2
    exact ⟨rfl, HB2.out⟩
  | true =>
  have hp := sumsB_all h5
  obtain ⟨n, rfl⟩ := Int.eq_ofNat_of_zero_le (show 0 ≤ many by omega)
  obtain ⟨j, rfl⟩ := Int.eq_ofNat_of_zero_le (show 0 ≤ k by omega)
  have hlf := leaf_bd s.data.toList
  have hf : CheckInR root (n : Int) (j : Int) s p = (if (upF 40 n j (leaf s.data.toList) p).2 then ((upF 40 n j (leaf s.data.toList) p).1 == root, true) else (false, false)) := by
    unfold CheckInR; simp [h1, h2, h3, h4', h5]
  have hag := in_agree 40 n j (leaf s.data.toList) p
  have hib := inF_bd 40 n j (leaf s.data.toList) p false hlf hp
  rw [hf]
  have hin := fun (wx : World) (R : Nat) (hcur : Cur wx R p false) => in_any 40 n j (leaf s.data.toList) R p false wx (by omega) (by omega) (by omega) (by omega) hlf hp hcur
  clear hf hr hp hib
  generalize inF 40 n j (leaf s.data.toList) p false = r at *
  generalize upF 40 n j (leaf s.data.toList) p = u at *
  obtain ⟨v, rest, bad⟩ := r
  obtain ⟨uv, ub⟩ := u
  have HIN := Lib.hid hin; clear hin
  have HLF := Lib.hid hlf; clear hlf
  cases ub with
  | true =>
    have hr := hag.1 rfl
    simp only [Prod.mk.injEq] at hr
    obtain ⟨rfl, rfl, rfl⟩ := hr
    clear hag
    go_enter Try.func30, Try.ntmps30
    go_wp2_with (first | (go_at_call 49; refine (impl_sum _ _).mono ?_; rintro e w' ⟨rfl, rfl⟩) | (go_at_call 53; refine (within_any _ _ _ _).mono ?_; rintro e w' ⟨rfl, rfl⟩))
    refine (sumsOK_any a c p _ (HR.out.alloc _) hn).mono ?_
    rintro e w2 ⟨rfl, hb2⟩
    have hcl : w2.cell? ⟨w.heap.size, 0, none⟩ = some (.slice a p.length c) := (hb2.cell (p := ⟨w.heap.size, 0, none⟩) (by simp)).trans (by simp)
    have hsz : w.heap.size < w2.heap.size := Nat.lt_of_lt_of_le (by simp) hb2.size
    have HB2 := Lib.hid (below_of _ hb2 HB0.out HB0.out.size); clear hb2
    go_wp2_with fail
    refine (impl_leaf _ _ hs).mono ?_
    rintro e w' ⟨rfl, rfl⟩
    go_wp2_with fail
    refine (HIN.out _ w2.heap.size ⟨a, c, alloc_block _ _ _ rfl, hpc, hc, Rb.below (HR.out.below HB2.out) ((Below.refl _ _).alloc (Nat.le_refl _) _)⟩).mono ?_
    rintro e w3 ⟨rfl, ⟨a', c', hb', _⟩, hw3⟩
    have HBB := Lib.hid (HB2.out.trans ((((Below.refl w2.heap.size w2).alloc (Nat.le_refl _) _).trans (Wrote.below hw3 (B := w2.heap.size) (by simp) (fun k hk => by omega))).mono (Nat.le_of_lt hsz)))
    clear hw3 HIN
    have c0 := Joins.cell_of_block hb' 0
    have c1 := Joins.cell_of_block hb' 1
    simp at c0 c1
    clear hb'
    go_wp2_with fail
    go_ret2
    exact ⟨rfl, HBB.out⟩
  | false =>
    have hr := hag.2 rfl
    clear hag
    cases bad with
    | true =>
      clear hr
      go_enter Try.func30, Try.ntmps30
      go_wp2_with (first | (go_at_call 49; refine (impl_sum _ _).mono ?_; rintro e w' ⟨rfl, rfl⟩) | (go_at_call 53; refine (within_any _ _ _ _).mono ?_; rintro e w' ⟨rfl, rfl⟩))
      refine (sumsOK_any a c p _ (HR.out.alloc _) hn).mono ?_
      rintro e w2 ⟨rfl, hb2⟩
      have hcl : w2.cell? ⟨w.heap.size, 0, none⟩ = some (.slice a p.length c) := (hb2.cell (p := ⟨w.heap.size, 0, none⟩) (by simp)).trans (by simp)
      have hsz : w.heap.size < w2.heap.size := Nat.lt_of_lt_of_le (by simp) hb2.size
      have HB2 := Lib.hid (below_of _ hb2 HB0.out HB0.out.size); clear hb2
      go_wp2_with fail
      refine (impl_leaf _ _ hs).mono ?_
      rintro e w' ⟨rfl, rfl⟩
      go_wp2_with fail
      refine (HIN.out _ w2.heap.size ⟨a, c, alloc_block _ _ _ rfl, hpc, hc, Rb.below (HR.out.below HB2.out) ((Below.refl _ _).alloc (Nat.le_refl _) _)⟩).mono ?_
      rintro e w3 ⟨rfl, ⟨a', c', hb', _⟩, hw3⟩
      have HBB := Lib.hid (HB2.out.trans ((((Below.refl w2.heap.size w2).alloc (Nat.le_refl _) _).trans (Wrote.below hw3 (B := w2.heap.size) (by simp) (fun k hk => by omega))).mono (Nat.le_of_lt hsz)))
      clear hw3 HIN
      have c0 := Joins.cell_of_block hb' 0
      have c1 := Joins.cell_of_block hb' 1
      simp at c0 c1
      clear hb'
      go_wp2_with fail
      go_ret2
      exact ⟨rfl, HBB.out⟩
    | false =>
      have hne : rest ≠ [] := by rcases hr with h | h; cases h; exact h
      have hl : 0 < rest.length := List.length_pos_iff.2 hne
      clear hr hne
      go_enter Try.func30, Try.ntmps30
      go_wp2_with (first | (go_at_call 49; refine (impl_sum _ _).mono ?_; rintro e w' ⟨rfl, rfl⟩) | (go_at_call 53; refine (within_any _ _ _ _).mono ?_; rintro e w' ⟨rfl, rfl⟩))
      refine (sumsOK_any a c p _ (HR.out.alloc _) hn).mono ?_
      rintro e w2 ⟨rfl, hb2⟩
      have hcl : w2.cell? ⟨w.heap.size, 0, none⟩ = some (.slice a p.length c) := (hb2.cell (p := ⟨w.heap.size, 0, none⟩) (by simp)).trans (by simp)
      have hsz : w.heap.size < w2.heap.size := Nat.lt_of_lt_of_le (by simp) hb2.size
      have HB2 := Lib.hid (below_of _ hb2 HB0.out HB0.out.size); clear hb2
      go_wp2_with fail
      refine (impl_leaf _ _ hs).mono ?_
      rintro e w' ⟨rfl, rfl⟩
      go_wp2_with fail
      refine (HIN.out _ w2.heap.size ⟨a, c, alloc_block _ _ _ rfl, hpc, hc, Rb.below (HR.out.below HB2.out) ((Below.refl _ _).alloc (Nat.le_refl _) _)⟩).mono ?_
      rintro e w3 ⟨rfl, ⟨a', c', hb', _⟩, hw3⟩
      have HBB := Lib.hid (HB2.out.trans ((((Below.refl w2.heap.size w2).alloc (Nat.le_refl _) _).trans (Wrote.below hw3 (B := w2.heap.size) (by simp) (fun k hk => by omega))).mono (Nat.le_of_lt hsz)))
      clear hw3 HIN
      have c0 := Joins.cell_of_block hb' 0
      have c1 := Joins.cell_of_block hb' 1
      simp at c0 c1
      clear hb'
      generalize rest.length = len at *
      go_wp2_with fail
      go_ret2
      exact ⟨rfl, HBB.out⟩

set_option maxHeartbeats 1000000 in
theorem spec_checkIn (root many k : Int) (s : ByteArray) (a : Option Addr) (c : Nat) (p : List Int) (w : World) (hs : s.size ≤ maxLen) (hr : Rw w a (ints p)) (hn : p.length ≤ 1048576) (hpc : p.length ≤ c) (hc : c ≤ 9223372036854775807) :
    Calls Try.prog 29 #[.int .i64 root, .int .i64 many, .int .i64 k, .string s, .agg #[.slice a p.length c]] w fun e w' => e = .returned (.tuple #[.bool (CheckInR root many k s p).1, .bool (CheckInR root many k s p).2]) ∧ Below w.heap.size w w' := by
  have HB0 := Lib.hid ((Below.refl w.heap.size w).alloc (Nat.le_refl _) (.cells #[.slice a p.length c] 41))
  have hs63 : s.size ≤ 9223372036854775807 := hs
  cases h1 : sumB root with
  | false =>
    have hf : CheckInR root many k s p = (false, false) := by unfold CheckInR; simp [h1]
    rw [hf]; clear hf hr
    go_enter Try.func29, Try.ntmps29
    go_wp2_with (first | (go_at_call 47; refine (spec_sum _ _).mono ?_; rintro e w' ⟨rfl, rfl⟩) | (go_at_call 51; refine (l1In_any _ _ _ _).mono ?_; rintro e w' ⟨rfl, rfl⟩))
    go_ret2
    exact ⟨rfl, HB0.out⟩
  | true =>
  cases h2 : inB many 1 40 with
  | false =>
    have hf : CheckInR root many k s p = (false, false) := by unfold CheckInR; simp [h2]
    rw [hf]; clear hf hr
    go_enter Try.func29, Try.ntmps29
    go_wp2_with (first | (go_at_call 47; refine (spec_sum _ _).mono ?_; rintro e w' ⟨rfl, rfl⟩) | (go_at_call 51; refine (l1In_any _ _ _ _).mono ?_; rintro e w' ⟨rfl, rfl⟩))
    go_ret2
    exact ⟨rfl, HB0.out⟩
  | true =>
  have hm := inB_of h2
  obtain ⟨hm0, hm1⟩ := hm
  by_cases hk0 : k < 0
  · have hf : CheckInR root many k s p = (false, false) := by unfold CheckInR; rw [inB_no (n := k) (by omega)]; simp
    rw [hf]; clear hf hr
    go_enter Try.func29, Try.ntmps29
    go_wp2_with (first | (go_at_call 47; refine (spec_sum _ _).mono ?_; rintro e w' ⟨rfl, rfl⟩) | (go_at_call 51; refine (l1In_any _ _ _ _).mono ?_; rintro e w' ⟨rfl, rfl⟩))
    go_ret2
    exact ⟨rfl, HB0.out⟩
  by_cases hk1 : many ≤ k
  · have hf : CheckInR root many k s p = (false, false) := by unfold CheckInR; rw [inB_no (n := k) (by omega)]; simp
    rw [hf]; clear hf hr
    go_enter Try.func29, Try.ntmps29
    go_wp2_with (first | (go_at_call 47; refine (spec_sum _ _).mono ?_; rintro e w' ⟨rfl, rfl⟩) | (go_at_call 51; refine (l1In_any _ _ _ _).mono ?_; rintro e w' ⟨rfl, rfl⟩))
    go_ret2
    exact ⟨rfl, HB0.out⟩
  by_cases h4 : 20 < s.size
  · have hf : CheckInR root many k s p = (false, false) := by unfold CheckInR; rw [show decide (s.size ≤ 20) = false from by simp; omega]; simp
    rw [hf]; clear hf hr
    go_enter Try.func29, Try.ntmps29
    go_wp2_with (first | (go_at_call 47; refine (spec_sum _ _).mono ?_; rintro e w' ⟨rfl, rfl⟩) | (go_at_call 51; refine (l1In_any _ _ _ _).mono ?_; rintro e w' ⟨rfl, rfl⟩))
    go_ret2
    exact ⟨rfl, HB0.out⟩
  have h4' : s.size ≤ 20 := by omega
  have HR := Lib.hid hr
  cases h5 : proofB p with
  | false =>
    have hf : CheckInR root many k s p = (false, false) := by
      unfold CheckInR
      by_cases hg : (sumB root && inB many 1 40 && inB k 0 (many - 1) && decide (s.size ≤ 20) && sumsB p) = true
      · rw [if_pos hg]
        have h6 : sumsB p = true := by simp at hg; exact hg.2
        have h7 : ¬ p.length ≤ 20 := by intro hc; unfold proofB at h5; rw [h6] at h5; simp at h5; omega
        have h8 := inD_le many.toNat (by omega) k.toNat (by omega)
        rw [upF_ok, if_neg (by simp; omega)]
      · rw [if_neg hg]
    rw [hf]; clear hf hr
    go_enter Try.func29, Try.ntmps29
    go_wp2_with (first | (go_at_call 47; refine (spec_sum _ _).mono ?_; rintro e w' ⟨rfl, rfl⟩) | (go_at_call 51; refine (l1In_any _ _ _ _).mono ?_; rintro e w' ⟨rfl, rfl⟩))
    refine (l13Proof_any a c p _ (HR.out.alloc _) hn).mono ?_
    rintro e w2 ⟨rfl, hb2⟩
    have HB2 := Lib.hid (below_of _ hb2 HB0.out HB0.out.size); clear hb2
    go_wp2_with fail
    go_ret2
    exact ⟨rfl, HB2.out⟩
  | true =>
  have h6 : sumsB p = true := by unfold proofB at h5; simp at h5; exact h5.1
  have hp := sumsB_all h6
  obtain ⟨n, rfl⟩ := Int.eq_ofNat_of_zero_le (show 0 ≤ many by omega)
  obtain ⟨j, rfl⟩ := Int.eq_ofNat_of_zero_le (show 0 ≤ k by omega)
  have hlf := leaf_bd s.data.toList
  have hf : CheckInR root (n : Int) (j : Int) s p = (if (upF 40 n j (leaf s.data.toList) p).2 then ((upF 40 n j (leaf s.data.toList) p).1 == root, true) else (false, false)) := by
    unfold CheckInR; rw [inB_yes (n := (j : Int)) (by omega)]; simp [h1, h2, h4', h6]
  rw [hf]
  have hin := fun (wx : World) (hw : Rw wx a (ints p)) => up_any 40 n j (leaf s.data.toList) a p.length c p wx (by omega) (by omega) (by omega) (by omega) hlf hp rfl hpc hc hw
  clear hf hr hp h6
  generalize upF 40 n j (leaf s.data.toList) p = u at *
  obtain ⟨uv, ub⟩ := u
  have HIN := Lib.hid hin; clear hin
  have HLF := Lib.hid hlf; clear hlf
  cases ub with
  | true =>
    go_enter Try.func29, Try.ntmps29
    go_wp2_with (first | (go_at_call 47; refine (spec_sum _ _).mono ?_; rintro e w' ⟨rfl, rfl⟩) | (go_at_call 51; refine (l1In_any _ _ _ _).mono ?_; rintro e w' ⟨rfl, rfl⟩))
    refine (l13Proof_any a c p _ (HR.out.alloc _) hn).mono ?_
    rintro e w2 ⟨rfl, hb2⟩
    have hcl : w2.cell? ⟨w.heap.size, 0, none⟩ = some (.slice a p.length c) := (hb2.cell (p := ⟨w.heap.size, 0, none⟩) (by simp)).trans (by simp)
    have HB2 := Lib.hid (below_of _ hb2 HB0.out HB0.out.size); clear hb2
    have HRR := Lib.hid (HR.out.below HB2.out)
    go_wp2_with fail
    go_quiet ((first | (go_at_call 13; (first | (with_reducible exact quiet_same (spec_leaf _ _ hs)) | (with_reducible exact quiet_same_add (spec_leaf _ _ hs)))) | (go_at_call 66; (first | (with_reducible exact quiet_same (HIN.out _ (HRR.out.drewN _))) | (with_reducible exact quiet_same_add (HIN.out _ (HRR.out.drewN _)))))))
    go_wp2_with fail
    go_ret2
    exact ⟨rfl, below_drewN HB2.out _⟩
  | false =>
    go_enter Try.func29, Try.ntmps29
    go_wp2_with (first | (go_at_call 47; refine (spec_sum _ _).mono ?_; rintro e w' ⟨rfl, rfl⟩) | (go_at_call 51; refine (l1In_any _ _ _ _).mono ?_; rintro e w' ⟨rfl, rfl⟩))
    refine (l13Proof_any a c p _ (HR.out.alloc _) hn).mono ?_
    rintro e w2 ⟨rfl, hb2⟩
    have hcl : w2.cell? ⟨w.heap.size, 0, none⟩ = some (.slice a p.length c) := (hb2.cell (p := ⟨w.heap.size, 0, none⟩) (by simp)).trans (by simp)
    have HB2 := Lib.hid (below_of _ hb2 HB0.out HB0.out.size); clear hb2
    have HRR := Lib.hid (HR.out.below HB2.out)
    go_wp2_with fail
    go_quiet ((first | (go_at_call 13; (first | (with_reducible exact quiet_same (spec_leaf _ _ hs)) | (with_reducible exact quiet_same_add (spec_leaf _ _ hs)))) | (go_at_call 66; (first | (with_reducible exact quiet_same (HIN.out _ (HRR.out.drewN _))) | (with_reducible exact quiet_same_add (HIN.out _ (HRR.out.drewN _)))))))
    go_wp2_with fail
    go_ret2
    exact ⟨rfl, below_drewN HB2.out _⟩

end Go.Proofs.Ytdhkagabkhepgaa
