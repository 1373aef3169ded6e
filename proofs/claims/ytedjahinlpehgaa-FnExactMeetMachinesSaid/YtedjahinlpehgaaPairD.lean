/- What the program's walk through the pairs leaves. -/
import Derived.Test.YtedjahinlpehgaaPairW
namespace Go.Proofs.Ytedjahinlpehgaa
set_option linter.unusedVariables false
open Go.ChangeShapes Go.WideShapes Go.ChangeAt Go.RowKit
set_option maxRecDepth 100000

/-- what the walk leaves -/
def WalkEnd (w : World) (S : Nat → Prop) (I : World → Prop) (J : Pr → World → Prop) (stop : Pr → Bool) (A B : Mach) (e : Ending) (w' : World) : Prop :=
  ∃ v1 v2, e = .returned (.tuple #[v1, v2]) ∧ Wrote S w w' ∧
    ((∃ (i : Nat) (p : Pr), (pairsR A B)[i]? = some p ∧ stop p = true ∧ ((pairsR A B).take i).any stop = false ∧ J p w') ∨
     ((pairsR A B).any stop = false ∧ I w' ∧ ∃ gp cp gt ct bm fp, v1 = .slice (some ⟨gp, 0, none⟩) (pairsR A B).length cp ∧ WS (w.heap.size + 2) w' gp cp gt ct bm v2 fp (pairsR A B) ((pairsR A B).map (goesP A B (pairsR A B)))))
end Go.Proofs.Ytedjahinlpehgaa
