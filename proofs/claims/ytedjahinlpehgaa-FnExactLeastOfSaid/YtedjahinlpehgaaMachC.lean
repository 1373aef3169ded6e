/- How much a machine of at most twelve states counts. No function of the program is named here. -/
import Derived.Test.YtedjahinlpehgaaTurn
namespace Go.Proofs.Ytedjahinlpehgaa
set_option linter.unusedVariables false
open Go.ChangeShapes Go.WideShapes Go.ChangeAt Go.RowKit

theorem ints_cnt3 (xs : List Int) : kIntS.cnt xs = xs.length := by
  show sumL kInt.cnt xs = xs.length
  induction xs with
  | nil => rfl
  | cons x r ih => rw [sumL, ih, List.length_cons]; show 1 + _ = _; omega
theorem bools_cnt3 (xs : List Bool) : kBoolS.cnt xs = xs.length := by
  show sumL kBool.cnt xs = xs.length
  induction xs with
  | nil => rfl
  | cons x r ih => rw [sumL, ih, List.length_cons]; show 1 + _ = _; omega
theorem intss_cnt3 : ∀ (xs : List (List Int)), (∀ r ∈ xs, r.length ≤ 3) → kIntSS.cnt xs ≤ 3 * xs.length
  | [], _ => by show (0 : Nat) ≤ _; omega
  | x :: r, h => by
    have ih := intss_cnt3 r fun y hy => h y (by simp [hy])
    have hx := h x (by simp)
    have e : kIntSS.cnt (x :: r) = kIntS.cnt x + kIntSS.cnt r := rfl
    rw [e, ints_cnt3, List.length_cons]; omega
theorem mach_cnt {m : Mach} (h1 : m.1.length ≤ 12) (h3 : ∀ r ∈ m.1, r.length ≤ 3) (h2 : m.2.length ≤ 12) : kMachine.cnt m ≤ 16777215 := by
  have e : kMachine.cnt m = kIntSS.cnt m.1 + kBoolS.cnt m.2 := rfl
  have := intss_cnt3 m.1 h3
  rw [e, bools_cnt3]; omega
end Go.Proofs.Ytedjahinlpehgaa
