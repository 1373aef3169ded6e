/- The walk of FnExactGoodTopic: whatever the arguments, the call returns true and writes nothing that was there. -/
import Derived.Test.YteknmjebokimjaaDoorTopic3
namespace Go.Proofs.YteknmjebokimjaaDoor.fnExactGoodTopicCard
open Go.ChangeShapes Go.WideShapes Go.ChangeAt Go.RowKit
set_option linter.unusedVariables false

set_option maxHeartbeats 1000000 in
set_option maxRecDepth 100000 in
theorem walk (w : World) (m : Int) (hm : w.cell? ⟨0, 0, none⟩ = some (.int .i64 m)) (a0 : ByteArray) (w0 : a0.size ≤ maxLen) :
    Calls Tryd.prog 6 #[.string a0] w fun e w' => e = .returned (.bool true) ∧ Below w.heap.size w w' := by
  by_cases gl : 1048576 < a0.size
  case pos =>
    unfold maxLen at w0
    go_enter Tryd.func6, Tryd.ntmps6
    go_wp2_with fail
    go_ret
    exact ⟨rfl, Below.refl _ _⟩
  unfold maxLen at w0
  have HS := Lib.hid (fun wx => spec_goodTopic a0 wx (by omega))
  have HI := Lib.hid (fun wx (h : wx.cell? ⟨0, 0, none⟩ = some (.int .i64 m)) => impl_goodTopic a0 wx m (by omega) h)
  generalize gTop a0 = R at *
  have HM := Lib.hid hm; clear hm
  go_enter Tryd.func6, Tryd.ntmps6
  go_wp2_with fail
  refine (HS.out _).mono ?_
  rintro e w1 ⟨rfl, hb⟩
  have HB1 := Lib.hid hb; clear hb
  have HM1 := Lib.hid (below_later HB1.out HM.out)
  go_wp2_with fail
  refine (HI.out _ HM1.out).mono ?_
  rintro e w2 ⟨rfl, hb⟩
  have HB2 := Lib.hid (HB1.out.trans (hb.mono HB1.out.size)); clear hb
  go_wp2_with fail
  go_ret
  exact ⟨rfl, HB2.out⟩

end Go.Proofs.YteknmjebokimjaaDoor.fnExactGoodTopicCard
