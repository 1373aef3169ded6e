/- Numbers folded in, and whether they are in a range: the walks. -/
import Derived.Test.YtlmgckijbamgpaaVar2
namespace Go.Proofs.Ytlmgckijbamgpaa
set_option linter.unusedVariables false
set_option linter.unusedSimpArgs false
open Go.ChangeShapes Go.WideShapes Go.ChangeAt Go.RowKit
set_option maxRecDepth 100000

def inR (n lo hi : Int) : Bool := decide (lo ≤ n) && decide (n ≤ hi)
set_option maxHeartbeats 400000 in
theorem impl_within (n lo hi : Int) (w : World) : Calls Try.prog 66 #[.int .i64 n, .int .i64 lo, .int .i64 hi] w fun e w' => e = .returned (.bool (inR n lo hi)) ∧ w = w' := by
  unfold inR
  by_cases h1 : lo ≤ n
  · go_enter Try.func66, Try.ntmps66
    go_wp2_with fail
    go_ret
    exact ⟨by simp [h1]; try omega, rfl⟩
  · go_enter Try.func66, Try.ntmps66
    go_wp2_with fail
    go_ret
    exact ⟨by simp [h1]; try omega, rfl⟩
set_option maxHeartbeats 400000 in
theorem spec_in (n lo hi : Int) (w : World) : Calls Try.prog 68 #[.int .i64 n, .int .i64 lo, .int .i64 hi] w fun e w' => e = .returned (.bool (inR n lo hi)) ∧ w = w' := by
  unfold inR
  by_cases h1 : lo ≤ n
  · go_enter Try.func68, Try.ntmps68
    go_wp2_with fail
    go_ret
    exact ⟨by simp [h1]; try omega, rfl⟩
  · go_enter Try.func68, Try.ntmps68
    go_wp2_with fail
    go_ret
    exact ⟨by simp [h1]; try omega, rfl⟩
set_option maxHeartbeats 400000 in
theorem impl_fold (n : Int) (w : World) (h : -1000000000 ≤ n ∧ n ≤ 1000000000) : Calls Try.prog 73 #[.int .i64 n] w fun e w' => e = .returned (.int .i64 (foldI n)) ∧ w = w' := by
  have e1 : IntKind.i64.wrap (-2 * n) = -2 * n := IntWalk.i64_in _ (by omega)
  have e2 : IntKind.i64.wrap (-2 * n - 1) = -2 * n - 1 := IntWalk.i64_in _ (by omega)
  have e3 : IntKind.i64.wrap (2 * n) = 2 * n := IntWalk.i64_in _ (by omega)
  unfold foldI
  by_cases h1 : n < 0
  · rw [if_pos h1]
    go_enter Try.func73, Try.ntmps73
    go_wp2_with fail
    go_ret
    exact ⟨rfl, rfl⟩
  · rw [if_neg h1]
    go_enter Try.func73, Try.ntmps73
    go_wp2_with fail
    go_ret
    exact ⟨rfl, rfl⟩
set_option maxHeartbeats 400000 in
theorem spec_fold (n : Int) (w : World) (h : -1000000000 ≤ n ∧ n ≤ 1000000000) : Calls Try.prog 75 #[.int .i64 n] w fun e w' => e = .returned (.int .i64 (foldI n)) ∧ w = w' := by
  have e1 : IntKind.i64.wrap (-2 * n) = -2 * n := IntWalk.i64_in _ (by omega)
  have e2 : IntKind.i64.wrap (-2 * n - 1) = -2 * n - 1 := IntWalk.i64_in _ (by omega)
  have e3 : IntKind.i64.wrap (2 * n) = 2 * n := IntWalk.i64_in _ (by omega)
  unfold foldI
  by_cases h1 : n < 0
  · rw [if_pos h1]
    go_enter Try.func75, Try.ntmps75
    go_wp2_with fail
    go_ret
    exact ⟨rfl, rfl⟩
  · rw [if_neg h1]
    go_enter Try.func75, Try.ntmps75
    go_wp2_with fail
    go_ret
    exact ⟨rfl, rfl⟩
set_option maxHeartbeats 400000 in
theorem impl_unfold (n : Int) (w : World) (h : 0 ≤ n ∧ n ≤ 2000000001) : Calls Try.prog 76 #[.int .i64 n] w fun e w' => e = .returned (.int .i64 (unfoldI n)) ∧ w = w' := by
  have e1 : IntKind.i64.wrap (n + 1) = n + 1 := IntWalk.i64_in _ (by omega)
  have e2 : IntKind.i64.wrap (-(n + 1)) = -(n + 1) := IntWalk.i64_in _ (by omega)
  have e3 : n.tmod 2 = n % 2 := Int.tmod_eq_emod_of_nonneg h.1
  have e4 : n.tdiv 2 = n / 2 := Int.tdiv_eq_ediv_of_nonneg h.1
  unfold unfoldI
  by_cases h1 : n % 2 = 1
  · have e5 : (-(n + 1)).tdiv 2 = -((n + 1) / 2) := by rw [Int.neg_tdiv, Int.tdiv_eq_ediv_of_nonneg (by omega)]
    have e6 : IntKind.i64.wrap (-((n + 1) / 2)) = -((n + 1) / 2) := IntWalk.i64_in _ (by omega)
    rw [if_pos h1]
    go_enter Try.func76, Try.ntmps76
    go_wp2_with fail
    go_ret
    exact ⟨rfl, rfl⟩
  · have e6 : IntKind.i64.wrap (n / 2) = n / 2 := IntWalk.i64_in _ (by omega)
    rw [if_neg h1]
    go_enter Try.func76, Try.ntmps76
    go_wp2_with fail
    go_ret
    exact ⟨rfl, rfl⟩
set_option maxHeartbeats 400000 in
theorem spec_unfold (n : Int) (w : World) (h : 0 ≤ n ∧ n ≤ 2000000001) : Calls Try.prog 77 #[.int .i64 n] w fun e w' => e = .returned (.int .i64 (unfoldI n)) ∧ w = w' := by
  have e1 : IntKind.i64.wrap (n + 1) = n + 1 := IntWalk.i64_in _ (by omega)
  have e2 : IntKind.i64.wrap (-(n + 1)) = -(n + 1) := IntWalk.i64_in _ (by omega)
  have e3 : n.tmod 2 = n % 2 := Int.tmod_eq_emod_of_nonneg h.1
  have e4 : n.tdiv 2 = n / 2 := Int.tdiv_eq_ediv_of_nonneg h.1
  unfold unfoldI
  by_cases h1 : n % 2 = 1
  · have e5 : (-(n + 1)).tdiv 2 = -((n + 1) / 2) := by rw [Int.neg_tdiv, Int.tdiv_eq_ediv_of_nonneg (by omega)]
    have e6 : IntKind.i64.wrap (-((n + 1) / 2)) = -((n + 1) / 2) := IntWalk.i64_in _ (by omega)
    rw [if_pos h1]
    go_enter Try.func77, Try.ntmps77
    go_wp2_with fail
    go_ret
    exact ⟨rfl, rfl⟩
  · have e6 : IntKind.i64.wrap (n / 2) = n / 2 := IntWalk.i64_in _ (by omega)
    rw [if_neg h1]
    go_enter Try.func77, Try.ntmps77
    go_wp2_with fail
    go_ret
    exact ⟨rfl, rfl⟩
theorem impl_numberOK (n : Int) (w : World) : Calls Try.prog 72 #[.int .i64 n] w fun e w' => e = .returned (.bool (inR n (-1000000000) 1000000000)) ∧ w = w' := by
  have H := Lib.hid (impl_within n (-1000000000) 1000000000 w)
  go_enter Try.func72, Try.ntmps72
  go_wp2_with fail
  refine H.out.mono ?_
  rintro e w' ⟨rfl, rfl⟩
  go_wp2_with fail
  go_ret
  exact ⟨rfl, rfl⟩
theorem spec_number (n : Int) (w : World) : Calls Try.prog 74 #[.int .i64 n] w fun e w' => e = .returned (.bool (inR n (-1000000000) 1000000000)) ∧ w = w' := by
  have H := Lib.hid (spec_in n (-1000000000) 1000000000 w)
  go_enter Try.func74, Try.ntmps74
  go_wp2_with fail
  refine H.out.mono ?_
  rintro e w' ⟨rfl, rfl⟩
  go_wp2_with fail
  go_ret
  exact ⟨rfl, rfl⟩
end Go.Proofs.Ytlmgckijbamgpaa
