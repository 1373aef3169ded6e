/- The contracts of the draws: long texts. -/
import Derived.Test.YtmlnecopbncdbaaCur3
namespace Go.Proofs.Ytmlnecopbncdbaa
set_option linter.unusedVariables false
set_option linter.unusedSimpArgs false
open Go.ChangeShapes Go.WideShapes Go.ChangeAt Go.RowKit
set_option maxRecDepth 100000

def TextOf (B K : Nat) (w : World) (e : Ending) (w' : World) : Prop :=
  ∃ s : ByteArray, e = .returned (.string s) ∧ s.size ≤ 400 ∧ PC w' B (K + 200) ∧ Wrote (WS B w.heap.size) w w'
end Go.Proofs.Ytmlnecopbncdbaa
