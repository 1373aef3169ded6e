/- The walk of FnExactCheckGrew: whatever the arguments, the call returns true and writes nothing that was there. -/
import Derived.Test.YtdhkagabkhepgaaArgs
import Derived.Deep.RegionHeld3
import Derived.Test.YtdhkagabkhepgaaCheckGrew
import Derived.Test.YtdhkagabkhepgaaProofH
namespace Go.Proofs.Ytdhkagabkhepgaa.fnExactCheckGrew
open Go.ChangeShapes Go.WideShapes Go.ChangeAt Go.RowKit
open Go.ChangeMaps (open_string shut_string)
set_option linter.unusedVariables false

set_option maxHeartbeats 1000000 in
set_option maxRecDepth 100000 in
theorem walk (w : World) (a0 : Int) (w0 : (Lit.int .i64 a0).wf = true) (a1 : Int) (w1 : (Lit.int .i64 a1).wf = true) (a2 : Int) (w2 : (Lit.int .i64 a2).wf = true) (a3 : Int) (w3 : (Lit.int .i64 a3).wf = true) (v4 : Value) (a4 : List Int) (w4 : IsProof w v4 a4) :
    Calls Try.prog 7 #[.int .i64 a0, .int .i64 a1, .int .i64 a2, .int .i64 a3, v4] w fun e w' => e = .returned (.bool true) ∧ Below w.heap.size w w' := by
  obtain ⟨a, cap, rfl, hrow, hc1, hc2, hwf⟩ := w4
  have hn63 : a4.length ≤ maxLen := Nat.le_trans hc1 hc2
  have hz := fun wx => sz_proof a cap a4.length 1048576 wx hn63 (by omega) (by omega)
  have HB0 := Lib.hid (box_start w (.cells #[.slice a a4.length cap] 37))
  by_cases hlen : 1048576 < a4.length
  · have hf : szInts 1048576 a4.length = -1 := by unfold szInts; rw [if_pos (by omega)]
    rw [hf] at hz
    have HZ := Lib.hid hz
    clear hrow hz hf
    go_enter Try.func7, Try.ntmps7
    go_wp2_with fail
    refine (HZ.out _).mono ?_
    rintro e w1 ⟨rfl, hb1⟩
    have HB1 := Lib.hid (box_step HB0.out hb1); clear hb1
    go_wp2_with fail
    go_ret
    exact ⟨rfl, box_below HB1.out⟩
  have hf : szInts 1048576 a4.length = 1048576 - a4.length := by unfold szInts; rw [if_neg (by omega)]
  have hn : a4.length ≤ 1048576 := by omega
  rw [hf] at hz
  have HZ := Lib.hid hz
  have HR := Lib.hid hrow
  clear hrow hz hf hwf
  go_enter Try.func7, Try.ntmps7
  go_wp2_with fail
  refine (HZ.out _).mono ?_
  rintro e w1 ⟨rfl, hb1⟩
  have HB1 := Lib.hid (box_step HB0.out hb1); clear hb1
  have hcl := box_cell HB1.out 0
  go_wp2_with fail
  refine (to_proof a cap a4 _ (HR.out.below (box_below HB1.out)) hn).mono ?_
  rintro e w2 ⟨rfl, ho2, hb2⟩
  have HB2 := Lib.hid (box_step HB1.out hb2); have HO2 := Lib.hid ho2; clear hb2 ho2 hcl
  have hcl := box_cell HB2.out 0
  go_wp2_with fail
  refine (spec_checkGrew _ _ _ _ _ _ a4 _ (own_rw HO2.out) hn (Nat.le_refl _) (by omega)).mono ?_
  rintro e w3' ⟨rfl, hb3⟩
  have HB3 := Lib.hid (box_step HB2.out hb3); clear hb3 hcl
  have hcl := box_cell HB3.out 0
  go_wp2_with fail
  refine (to_proof a cap a4 _ (HR.out.below (box_below HB3.out)) hn).mono ?_
  rintro e w4 ⟨rfl, ho4, hb4⟩
  have HB4 := Lib.hid (box_step (box_step HB3.out hb4) ((Below.refl w4.heap.size w4).alloc (Nat.le_refl _) (.cells #[.slice (some ⟨w3'.heap.size + 3, 0, none⟩) a4.length a4.length] 41)))
  have HO4 := Lib.hid ho4
  have HX4 := Lib.hid (box_start w4 (.cells #[.slice (some ⟨w3'.heap.size + 3, 0, none⟩) a4.length a4.length] 41))
  clear hb4 ho4 hcl
  go_wp2_with fail
  refine (impl_checkGrew _ _ _ _ _ _ a4 _ (own_rw (HO4.out.alloc _)) hn (Nat.le_refl _) (by omega)).mono ?_
  rintro e w5 ⟨rfl, hb5⟩
  have HB5 := Lib.hid (box_step HB4.out hb5); have HX5 := Lib.hid (box_step HX4.out hb5); clear hb5
  have hcl := box_cell HB5.out 0
  have hcx := box_cell HX5.out 0
  go_wp2_with fail
  have HB5d := Lib.hid HB5.out.drew; have HX5d := Lib.hid HX5.out.drew
  go_region_held3 (fun w' => w'.cell? ⟨w.heap.size, 0, none⟩ = some (.slice a a4.length cap) ∧ w'.cell? ⟨w4.heap.size, 0, none⟩ = some (.slice (some ⟨w3'.heap.size + 3, 0, none⟩) a4.length a4.length)) ((first | exact ⟨hcl, hcx⟩ | exact ⟨box_cell HB6.out 0, box_cell HX6.out 0⟩ | exact ⟨box_cell HB7.out 0, box_cell HX7.out 0⟩)) (first | (go_at_call 26; refine (to_proof a cap a4 _ (HR.out.below (box_below HB5d.out)) hn).mono ?_; rintro e w6 ⟨rfl, ho6, hb6⟩; have HB6 := Lib.hid (box_step HB5d.out hb6); have HX6 := Lib.hid (box_step HX5d.out hb6); have HO6 := Lib.hid ho6; clear hb6 ho6 hcl hcx) | (go_at_call 28; refine (eq_proof _ _ _ _ a4 _ (own_rw (own_later HO4.out (box_below HX6.out))) (own_rw HO6.out) hn).mono ?_; rintro e w7 ⟨rfl, hb7⟩; have HB7 := Lib.hid (box_step HB6.out hb7); have HX7 := Lib.hid (box_step HX6.out hb7); clear hb7))
  go_wp2_with fail
  go_ret
  exact ⟨rfl, box_below HB7.out⟩

end Go.Proofs.Ytdhkagabkhepgaa.fnExactCheckGrew
