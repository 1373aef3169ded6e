/- The exported functions over numbers: the walks. -/
import Derived.Test.YtlmgckijbamgpaaVar3
namespace Go.Proofs.Ytlmgckijbamgpaa
set_option linter.unusedVariables false
set_option linter.unusedSimpArgs false
open Go.ChangeShapes Go.WideShapes Go.ChangeAt Go.RowKit
set_option maxRecDepth 100000

theorem inR_iff {n lo hi : Int} : inR n lo hi = true ↔ lo ≤ n ∧ n ≤ hi := by unfold inR; simp
def R_Fold (n : Int) : Int × Bool := if inR n (-1000000000) 1000000000 = true then (foldI n, true) else (0, false)
def R_Unfold (n : Int) : Int × Bool := if inR n 0 2000000000 = true then (unfoldI n, true) else (0, false)
set_option maxHeartbeats 400000 in
theorem impl_FoldNumber (n : Int) (w : World) : Calls Try.prog 22 #[.int .i64 n] w fun e w' => e = .returned (.tuple #[.int .i64 (R_Fold n).1, .bool (R_Fold n).2]) ∧ w = w' := by
  have H := Lib.hid (impl_numberOK n w)
  unfold R_Fold
  cases g : inR n (-1000000000) 1000000000 with
  | false =>
    rw [g] at H
    rw [if_neg (by simp)]
    go_enter Try.func22, Try.ntmps22
    go_wp2_with fail
    refine H.out.mono ?_
    rintro e w' ⟨rfl, rfl⟩
    go_wp2_with fail
    go_ret2
    exact ⟨rfl, rfl⟩
  | true =>
    rw [g] at H
    rw [if_pos rfl]
    have hr := inR_iff.1 g
    have H2 := Lib.hid (impl_fold n w (by omega))
    go_enter Try.func22, Try.ntmps22
    go_wp2_with fail
    refine H.out.mono ?_
    rintro e w' ⟨rfl, rfl⟩
    go_wp2_with fail
    refine H2.out.mono ?_
    rintro e w' ⟨rfl, rfl⟩
    go_wp2_with fail
    go_ret2
    exact ⟨rfl, rfl⟩
set_option maxHeartbeats 400000 in
theorem spec_FoldNumber (n : Int) (w : World) : Calls Try.prog 23 #[.int .i64 n] w fun e w' => e = .returned (.tuple #[.int .i64 (R_Fold n).1, .bool (R_Fold n).2]) ∧ w = w' := by
  have H := Lib.hid (spec_number n w)
  unfold R_Fold
  cases g : inR n (-1000000000) 1000000000 with
  | false =>
    rw [g] at H
    rw [if_neg (by simp)]
    go_enter Try.func23, Try.ntmps23
    go_wp2_with fail
    refine H.out.mono ?_
    rintro e w' ⟨rfl, rfl⟩
    go_wp2_with fail
    go_ret2
    exact ⟨rfl, rfl⟩
  | true =>
    rw [g] at H
    rw [if_pos rfl]
    have hr := inR_iff.1 g
    have H2 := Lib.hid (spec_fold n w (by omega))
    go_enter Try.func23, Try.ntmps23
    go_wp2_with fail
    refine H.out.mono ?_
    rintro e w' ⟨rfl, rfl⟩
    go_wp2_with fail
    refine H2.out.mono ?_
    rintro e w' ⟨rfl, rfl⟩
    go_wp2_with fail
    go_ret2
    exact ⟨rfl, rfl⟩
set_option maxHeartbeats 400000 in
theorem impl_UnfoldNumber (n : Int) (w : World) : Calls Try.prog 24 #[.int .i64 n] w fun e w' => e = .returned (.tuple #[.int .i64 (R_Unfold n).1, .bool (R_Unfold n).2]) ∧ w = w' := by
  have H := Lib.hid (impl_within n 0 2000000000 w)
  unfold R_Unfold
  cases g : inR n 0 2000000000 with
  | false =>
    rw [g] at H
    rw [if_neg (by simp)]
    go_enter Try.func24, Try.ntmps24
    go_wp2_with fail
    refine H.out.mono ?_
    rintro e w' ⟨rfl, rfl⟩
    go_wp2_with fail
    go_ret2
    exact ⟨rfl, rfl⟩
  | true =>
    rw [g] at H
    rw [if_pos rfl]
    have hr := inR_iff.1 g
    have H2 := Lib.hid (impl_unfold n w (by omega))
    go_enter Try.func24, Try.ntmps24
    go_wp2_with fail
    refine H.out.mono ?_
    rintro e w' ⟨rfl, rfl⟩
    go_wp2_with fail
    refine H2.out.mono ?_
    rintro e w' ⟨rfl, rfl⟩
    go_wp2_with fail
    go_ret2
    exact ⟨rfl, rfl⟩
set_option maxHeartbeats 400000 in
theorem spec_UnfoldNumber (n : Int) (w : World) : Calls Try.prog 26 #[.int .i64 n] w fun e w' => e = .returned (.tuple #[.int .i64 (R_Unfold n).1, .bool (R_Unfold n).2]) ∧ w = w' := by
  have H := Lib.hid (spec_in n 0 2000000000 w)
  unfold R_Unfold
  cases g : inR n 0 2000000000 with
  | false =>
    rw [g] at H
    rw [if_neg (by simp)]
    go_enter Try.func26, Try.ntmps26
    go_wp2_with fail
    refine H.out.mono ?_
    rintro e w' ⟨rfl, rfl⟩
    go_wp2_with fail
    go_ret2
    exact ⟨rfl, rfl⟩
  | true =>
    rw [g] at H
    rw [if_pos rfl]
    have hr := inR_iff.1 g
    have H2 := Lib.hid (spec_unfold n w (by omega))
    go_enter Try.func26, Try.ntmps26
    go_wp2_with fail
    refine H.out.mono ?_
    rintro e w' ⟨rfl, rfl⟩
    go_wp2_with fail
    refine H2.out.mono ?_
    rintro e w' ⟨rfl, rfl⟩
    go_wp2_with fail
    go_ret2
    exact ⟨rfl, rfl⟩
end Go.Proofs.Ytlmgckijbamgpaa
