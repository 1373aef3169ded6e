/- The walk of FnExactFindAll: whatever the arguments, the call returns true and writes nothing that was there. -/
import Derived.Test.YtfkcchbbbfeamaaArgs
import Derived.Deep.RegionHeld3
import Derived.Test.YtfkcchbbbfeamaaBorders2
import Derived.Test.YtfkcchbbbfeamaaFindAll
namespace Go.Proofs.Ytfkcchbbbfeamaa.fnExactFindAll
open Go.ChangeShapes Go.WideShapes Go.ChangeAt Go.RowKit
open Go.ChangeMaps (open_string shut_string)
set_option linter.unusedVariables false

set_option maxHeartbeats 1000000 in
set_option maxRecDepth 100000 in
theorem walk (w : World) (a0 : ByteArray) (w0 : a0.size ≤ maxLen) (a1 : ByteArray) (w1 : a1.size ≤ maxLen) :
    Calls Try.prog 5 #[.string a0, .string a1] w fun e w' => e = .returned (.bool true) ∧ Below w.heap.size w w' := by
  have h63 : a0.size ≤ 9223372036854775807 := w0
  have h64 : a1.size ≤ 9223372036854775807 := w1
  by_cases h : 1048576 < a0.size ∨ 1048576 < a1.size
  · rcases h with h | h
    · go_enter Try.func5, Try.ntmps5
      go_wp2_with fail
      go_ret
      exact ⟨rfl, Below.refl _ _⟩
    · by_cases h' : 1048576 < a0.size
      · go_enter Try.func5, Try.ntmps5
        go_wp2_with fail
        go_ret
        exact ⟨rfl, Below.refl _ _⟩
      · go_enter Try.func5, Try.ntmps5
        go_wp2_with fail
        go_ret
        exact ⟨rfl, Below.refl _ _⟩
  have g1 : ¬ 1048576 < a0.size := fun x => h (.inl x)
  have g2 : ¬ 1048576 < a1.size := fun x => h (.inr x)
  have HPL := Lib.hid (FindR_len a0 a1)
  have HS := Lib.hid (fun w => spec_findAll a0 a1 w w0 w1)
  have HI := Lib.hid (fun w => impl_findAll a0 a1 w w0 w1)
  generalize FindR a0 a1 = R at *
  obtain ⟨xs, lk, ok⟩ := R
  go_enter Try.func5, Try.ntmps5
  go_wp2_with fail
  refine (HS.out _).mono ?_
  rintro e w2 ⟨v2, rfl, ho2, hb2⟩
  obtain ⟨a2, c2, rfl⟩ := form_of_own ho2
  have HW := Lib.hid hb2; have HO2 := Lib.hid ho2; clear hb2 ho2
  go_wp2_with fail
  refine (HI.out _).mono ?_
  rintro e w4 ⟨v4, rfl, ho4, hb4⟩
  obtain ⟨a4, c4, rfl⟩ := form_of_own ho4
  have R4 := Lib.hid (rstep (Below.refl _ _) hb4); have O4 := Lib.hid ho4; clear hb4 ho4
  go_wp2_with fail
  refine (eq_ints _ _ _ _ xs _ (own_rw O4.out) (own_rw (own_below HO2.out R4.out (fun k hk => (HO2.out.lt k hk).2))) HPL.out).mono ?_
  rintro e w' ⟨rfl, n5, rfl⟩
  have R5 := Lib.hid (rdrew R4.out n5); have O5 := Lib.hid (own_drewN O4.out n5); clear R4 O4
  go_wp2_with fail
  refine (mark_ints _ _ xs 1 _ _ _ rfl O5.out (Nat.le_trans HPL.out (by omega)) (by omega) (by omega)).mono ?_
  rintro e w6 ⟨rfl, ho6, hw6⟩
  have R6 := Lib.hid (rwrote R5.out hw6 (fun k hk => (O5.out.lt k hk).1)); have O6 := Lib.hid ho6
  clear hw6 ho6 R5 O5
  go_wp2_with fail
  refine (held_ints _ _ xs.length 1 _ (own_rw O6.out) (Nat.le_trans HPL.out (by omega)) (by omega) (by omega)).mono ?_
  rintro e w' ⟨rfl, rfl⟩
  have hneg : ¬ (1 + (xs.length : Int) < 0) := by omega
  go_wp2_with fail
  refine (HI.out _).mono ?_
  rintro e w8 ⟨v8, rfl, ho8, hb8⟩
  obtain ⟨a8, c8, rfl⟩ := form_of_own ho8
  have R8 := Lib.hid (rstep R6.out hb8); have O8 := Lib.hid (own_later O6.out hb8); have N8 := Lib.hid ho8
  clear ho8 hb8 R6 O6
  go_wp2_with fail
  refine (eq_ints _ _ _ _ xs _ (own_rw N8.out) (own_rw (own_below HO2.out R8.out (fun k hk => (HO2.out.lt k hk).2))) HPL.out).mono ?_
  rintro e w' ⟨rfl, n9, rfl⟩
  have R9 := Lib.hid (rdrew R8.out n9); have O9 := Lib.hid (own_drewN O8.out n9); clear R8 O8
  go_wp2_with fail
  refine (held_ints _ _ xs.length 1 _ (own_rw O9.out) (Nat.le_trans HPL.out (by omega)) (by omega) (by omega)).mono ?_
  rintro e w' ⟨rfl, rfl⟩
  go_wp2_with fail
  go_ret
  exact ⟨rfl, HW.out.trans (R9.out.mono HW.out.size)⟩

end Go.Proofs.Ytfkcchbbbfeamaa.fnExactFindAll
