/- The reference's volume: its contract. -/
import Derived.Test.YthlajmncpejhmaaVol8
namespace Go.Proofs.Ythlajmncpejhmaa
set_option linter.unusedVariables false
open Go.ChangeShapes Go.WideShapes Go.ChangeAt Go.RowKit
set_option maxRecDepth 100000
set_option maxHeartbeats 1000000 in
theorem spec_VolumeOf (w : World) (cs0 : List Value) (a0 : List Bx) (h0 : kBoxS.rd w.heap.size w cs0 a0) (_ht : kBoxS.wt a0 ≤ 1048576) :
    Calls Try.prog 30 #[one cs0] w fun e w' => e = .returned (.tuple #[.int .i64 (R_VolumeOf a0).1, .bool (R_VolumeOf a0).2]) ∧ Below w.heap.size w w' := by
  have HOK := Lib.hid (spec_boxes h0)
  obtain ⟨ea, ecap, rfl⟩ := kSl_form h0
  show Calls Try.prog 30 #[.slice ea a0.length ecap] w _
  cases g : boxesR a0 with
  | false =>
    have hR : R_VolumeOf a0 = (0, false) := by unfold R_VolumeOf; rw [if_neg (by rw [g]; simp)]
    rw [hR]; rw [g] at HOK
    clear hR g h0
    go_enter Try.func30, Try.ntmps30
    go_wp2_with fail
    refine HOK.out.mono ?_
    rintro e w1 ⟨rfl, hb⟩
    have HB := Lib.hid hb; clear hb
    go_wp2_with fail
    go_ret2
    exact ⟨rfl, HB.out⟩
  | true =>
    have hR : R_VolumeOf a0 = (volumeR a0, true) := by unfold R_VolumeOf; rw [if_pos g]
    rw [hR]
    exact spec_volume ea ecap a0 w h0 g
end Go.Proofs.Ythlajmncpejhmaa
