/- The walk of FnExactTopicFits: whatever the arguments, the call returns true and writes nothing that was there. -/
import Derived.Test.YteknmjebokimjaaDoorTopic3
namespace Go.Proofs.YteknmjebokimjaaDoor.fnExactTopicFitsCard
open Go.ChangeShapes Go.WideShapes Go.ChangeAt Go.RowKit
set_option linter.unusedVariables false

set_option maxHeartbeats 1000000 in
set_option maxRecDepth 100000 in
theorem walk (w : World) (m : Int) (hm : w.cell? ⟨0, 0, none⟩ = some (.int .i64 m)) (a0 : ByteArray) (w0 : a0.size ≤ maxLen) (a1 : ByteArray) (w1 : a1.size ≤ maxLen) :
    Calls Tryd.prog 9 #[.string a0, .string a1] w fun e w' => e = .returned (.bool true) ∧ Below w.heap.size w w' := by
  by_cases gl : 1048576 < a0.size
  case pos =>
    unfold maxLen at w0
    go_enter Tryd.func9, Tryd.ntmps9
    go_wp2_with fail
    go_ret
    exact ⟨rfl, Below.refl _ _⟩
  by_cases gl1 : 1048576 < a1.size
  case pos =>
    unfold maxLen at w0 w1
    go_enter Tryd.func9, Tryd.ntmps9
    go_wp2_with fail
    go_ret
    exact ⟨rfl, Below.refl _ _⟩
  unfold maxLen at w0 w1
  have HS := Lib.hid (fun wx => spec_TopicFits a0 a1 wx (by omega) (by omega))
  have HI := Lib.hid (fun wx (h : wx.cell? ⟨0, 0, none⟩ = some (.int .i64 m)) => impl_TopicFits a0 a1 wx m (by omega) (by omega) h)
  rw [topic_fits] at HI
  generalize hR : TopicR fitsR (gPat a0) (gTop a1) a0 a1 = R at *
  clear hR
  obtain ⟨r0, r1⟩ := R
  have HM := Lib.hid hm; clear hm
  go_enter Tryd.func9, Tryd.ntmps9
  go_wp2_with fail
  refine (HS.out _).mono ?_
  rintro e x1 ⟨rfl, hb⟩
  have HB1 := Lib.hid hb; clear hb
  have HM1 := Lib.hid (below_later HB1.out HM.out)
  go_wp2_with fail
  refine (HI.out _ HM1.out).mono ?_
  rintro e x2 ⟨rfl, hb⟩
  have HB2 := Lib.hid (HB1.out.trans (hb.mono HB1.out.size)); clear hb
  go_wp2_with fail
  go_ret
  exact ⟨rfl, HB2.out⟩

end Go.Proofs.YteknmjebokimjaaDoor.fnExactTopicFitsCard
