/- MeetMachines' result is small. -/
import Derived.Test.YtedjahinlpehgaaPair8
import Derived.Test.YtedjahinlpehgaaMachC
namespace Go.Proofs.Ytedjahinlpehgaa
set_option linter.unusedVariables false
open Go.ChangeShapes Go.WideShapes Go.ChangeAt Go.RowKit

theorem R_MeetMachines_ok (A B : Mach) (_h : kMachine.wt A + kMachine.wt B ≤ 1048576) : kMachine.cnt (R_MeetMachines A B).1 ≤ 16777215 := by
  by_cases h : R_GoodMachine A = true ∧ R_GoodMachine B = true ∧ (pairsR A B).length ≤ 12
  · rw [MM_yes h]
    refine mach_cnt (by simpa using h.2.2) ?_ (by simpa using h.2.2)
    intro r hr
    simp only [List.mem_map] at hr
    obtain ⟨p, _, rfl⟩ := hr
    exact Nat.le_refl 3
  · rw [MM_no h]; exact mach_cnt (by simp) (by simp) (by simp)
end Go.Proofs.Ytedjahinlpehgaa
