/- The kind of texts. -/
import Derived.Test.YteknmjebokimjaaHBase
namespace Go.Proofs.Yteknmjebokimjaa
set_option linter.unusedVariables false
open Go.ChangeShapes Go.WideShapes Go.ChangeAt Go.RowKit
def mt (_ : Nat) : ByteArray := ByteArray.empty
def kStr : Kind ByteArray := kStrOf mt
theorem kStr_ok : kStr.Ok := kOf_ok _ _ _ _
end Go.Proofs.Yteknmjebokimjaa
