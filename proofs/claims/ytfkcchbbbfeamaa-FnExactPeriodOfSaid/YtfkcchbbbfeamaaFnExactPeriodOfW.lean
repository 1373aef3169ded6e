/- The walk of FnExactPeriodOf: whatever the arguments, the call returns true and writes nothing that was there. -/
import Derived.Test.YtfkcchbbbfeamaaArgs
import Derived.Deep.RegionHeld3
import Derived.Test.YtfkcchbbbfeamaaBorders2
namespace Go.Proofs.Ytfkcchbbbfeamaa.fnExactPeriodOf
open Go.ChangeShapes Go.WideShapes Go.ChangeAt Go.RowKit
open Go.ChangeMaps (open_string shut_string)
set_option linter.unusedVariables false

set_option maxHeartbeats 1000000 in
set_option maxRecDepth 100000 in
theorem walk (w : World) (a0 : ByteArray) (w0 : a0.size ≤ maxLen) :
    Calls Try.prog 3 #[.string a0] w fun e w' => e = .returned (.bool true) ∧ Below w.heap.size w w' := by
  have h63 : a0.size ≤ 9223372036854775807 := w0
  by_cases h : 1048576 < a0.size
  · go_enter Try.func3, Try.ntmps3
    go_wp2_with fail
    go_ret
    exact ⟨rfl, Below.refl _ _⟩
  have HS := Lib.hid (fun w => spec_periodOf a0 w w0)
  have HI := Lib.hid (fun w => impl_periodOf a0 w w0)
  generalize PeriodR a0 = R at *
  go_enter Try.func3, Try.ntmps3
  go_wp2_with fail
  refine (HS.out _).mono ?_
  rintro e w2 ⟨rfl, hb2⟩
  have HW := Lib.hid hb2; clear hb2
  go_wp2_with fail
  refine (HI.out _).mono ?_
  rintro e w4 ⟨rfl, hb4⟩
  have R4 := Lib.hid (rstep (Below.refl _ _) hb4); clear hb4
  go_wp2_with fail
  go_ret
  exact ⟨rfl, HW.out.trans (R4.out.mono HW.out.size)⟩

end Go.Proofs.Ytfkcchbbbfeamaa.fnExactPeriodOf
