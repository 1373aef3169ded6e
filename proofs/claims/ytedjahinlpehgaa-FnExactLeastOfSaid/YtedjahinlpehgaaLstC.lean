/- LeastOf's result is small. -/
import Derived.Test.YtedjahinlpehgaaLst2
namespace Go.Proofs.Ytedjahinlpehgaa
set_option linter.unusedVariables false
open Go.ChangeShapes Go.WideShapes Go.ChangeAt Go.RowKit

theorem R_LeastOf_ok (m : Mach) (_h : kMachine.wt m ≤ 1048576) : kMachine.cnt (R_LeastOf m).1 ≤ 16777215 := by
  cases g : R_GoodMachine m with
  | false => rw [R_Least_no g]; exact mach_cnt (by simp) (by simp) (by simp)
  | true =>
    rw [R_Least_yes g]
    have hm := good_of g
    have hi : OInv m.1.length (ordC m) := oC_inv hm 12
    have h1 := hi.len; have h2 := hm.n12
    refine mach_cnt (by simp only [List.length_map]; omega) ?_ (by simp only [List.length_map]; omega)
    intro r hr
    simp only [List.mem_map] at hr
    obtain ⟨s, hs, rfl⟩ := hr
    have := hi.rg s hs
    rw [rowC_len hm this.1 this.2]; exact Nat.le_refl 3
end Go.Proofs.Ytedjahinlpehgaa
