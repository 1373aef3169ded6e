/- The contracts of BordersOf and PeriodOf, the program's and the reference's. -/
import Derived.Test.YtfkcchbbbfeamaaBorders
namespace Go.Proofs.Ytfkcchbbbfeamaa
set_option linter.unusedVariables false
open Go.ChangeShapes Go.WideShapes Go.ChangeAt Go.RowKit

def MadeIntsOk (xs : List Int) (ok : Bool) (w : World) (e : Ending) (w' : World) : Prop :=
  ∃ v, e = .returned (.tuple #[v, .bool ok]) ∧ w'.ownsRow w.heap.size 3 1 v xs.length (ints xs) ∧ Below w.heap.size w w'
def BordersR (s : ByteArray) : List Int × Bool := if inB (s.size : Int) 1 200 then (nats (bordL s s.size), true) else ([], false)
theorem BordersR_len (s : ByteArray) : (BordersR s).1.length ≤ 1048576 := by
  unfold BordersR
  by_cases h : inB (s.size : Int) 1 200 = true
  · rw [if_pos h]; have := inB_of h; simp [bordL_length]; omega
  · rw [if_neg h]; simp
def PeriodR (s : ByteArray) : Int × Bool := if inB (s.size : Int) 1 200 then ((s.size : Int) - ((bordL s s.size).getD (s.size - 1) 0 : Nat), true) else (0, false)

set_option maxHeartbeats 1000000 in
theorem impl_bordersOf (s : ByteArray) (w : World) (hs : s.size ≤ maxLen) :
    Calls Try.prog 15 #[.string s] w (MadeIntsOk (BordersR s).1 (BordersR s).2 w) := by
  unfold maxLen at hs
  cases h : inB (s.size : Int) 1 200 with
  | false =>
    have hf : BordersR s = ([], false) := by unfold BordersR; rw [h]; rfl
    rw [hf]
    go_enter Try.func15, Try.ntmps15
    go_wp2_with (go_at_call 49; refine (within_any _ _ _ _).mono ?_; rintro e w' ⟨rfl, rfl⟩)
    go_ret2
    exact ⟨_, rfl, World.ownsRow_nil _ _ _ _, Below.refl _ _⟩
  | true =>
    have hf : BordersR s = (nats (bordL s s.size), true) := by unfold BordersR; rw [h]; rfl
    rw [hf]
    have hb := inB_of h
    have HB : Hid (1 ≤ s.size ∧ s.size ≤ 200) := by show _ ∧ _; omega
    clear hf hb
    go_enter Try.func15, Try.ntmps15
    go_wp2_with (go_at_call 49; refine (within_any _ _ _ _).mono ?_; rintro e w' ⟨rfl, rfl⟩)
    refine (impl_borders s _ HB.out.2 HB.out.1).mono ?_
    rintro e w1 ⟨rfl, ho, hb1⟩
    have HO := Lib.hid ho; have HB1 := Lib.hid hb1; clear ho hb1
    go_wp2_with fail
    go_ret2
    exact ⟨_, rfl, by rw [nats_length, bordL_length]; exact HO.out, HB1.out⟩
set_option maxHeartbeats 1000000 in
theorem spec_bordersOf (s : ByteArray) (w : World) (hs : s.size ≤ maxLen) :
    Calls Try.prog 14 #[.string s] w (MadeIntsOk (BordersR s).1 (BordersR s).2 w) := by
  unfold maxLen at hs
  cases h : inB (s.size : Int) 1 200 with
  | false =>
    have hf : BordersR s = ([], false) := by unfold BordersR; rw [h]; rfl
    rw [hf]
    go_enter Try.func14, Try.ntmps14
    go_wp2_with (go_at_call 47; refine (l1In_any _ _ _ _).mono ?_; rintro e w' ⟨rfl, rfl⟩)
    go_ret2
    exact ⟨_, rfl, World.ownsRow_nil _ _ _ _, Below.refl _ _⟩
  | true =>
    have hf : BordersR s = (nats (bordL s s.size), true) := by unfold BordersR; rw [h]; rfl
    rw [hf]
    have hb := inB_of h
    have HB : Hid (1 ≤ s.size ∧ s.size ≤ 200) := by show _ ∧ _; omega
    clear hf hb
    go_enter Try.func14, Try.ntmps14
    go_wp2_with (go_at_call 47; refine (l1In_any _ _ _ _).mono ?_; rintro e w' ⟨rfl, rfl⟩)
    refine (spec_borders s _ HB.out.2).mono ?_
    rintro e w1 ⟨v, rfl, ho, hb1⟩
    have HO := Lib.hid ho; have HB1 := Lib.hid hb1; clear ho hb1
    go_wp2_with fail
    go_ret2
    exact ⟨_, rfl, HO.out, HB1.out⟩
theorem PeriodR_no (s : ByteArray) (h : inB (s.size : Int) 1 200 = false) : PeriodR s = (0, false) := by unfold PeriodR; rw [h]; rfl
theorem PeriodR_yes (s : ByteArray) (h : inB (s.size : Int) 1 200 = true) : PeriodR s = ((s.size : Int) - ((bordL s s.size).getD (s.size - 1) 0 : Nat), true) := by unfold PeriodR; rw [h]; rfl
set_option maxHeartbeats 1000000 in
theorem impl_periodOf (s : ByteArray) (w : World) (hs : s.size ≤ maxLen) :
    Calls Try.prog 13 #[.string s] w fun e w' => e = .returned (.tuple #[.int .i64 (PeriodR s).1, .bool (PeriodR s).2]) ∧ Below w.heap.size w w' := by
  have hB := impl_bordersOf s w hs
  unfold maxLen at hs
  cases h : inB (s.size : Int) 1 200 with
  | false =>
    rw [PeriodR_no s h]
    have hf : BordersR s = ([], false) := by unfold BordersR; rw [h]; rfl
    rw [hf] at hB
    have HBO := Lib.hid hB
    clear hf hB
    go_enter Try.func13, Try.ntmps13
    go_wp2_with fail
    refine HBO.out.mono ?_
    rintro e w2 ⟨v2, rfl, ho2, hb2⟩
    have HW := Lib.hid hb2; clear hb2 ho2
    go_wp2_with fail
    go_ret2
    exact ⟨rfl, HW.out⟩
  | true =>
    rw [PeriodR_yes s h]
    have hf : BordersR s = (nats (bordL s s.size), true) := by unfold BordersR; rw [h]; rfl
    rw [hf] at hB
    have hb := inB_of h
    have h1 : 1 ≤ s.size := by omega
    have h2 : s.size ≤ 200 := by omega
    have hle := bordL_le s s.size (s.size - 1) (by rw [bordL_length]; omega)
    have HBO := Lib.hid hB
    clear hf hB hb
    have he : (ints (nats (bordL s s.size)))[s.size - 1]? = some (.int .i64 (((bordL s s.size).getD (s.size - 1) 0 : Nat) : Int)) := by
      rw [ints_at _ _ (by rw [nats_length, bordL_length]; omega), nats_getD]
    generalize (bordL s s.size).getD (s.size - 1) 0 = q at *
    have HE := Lib.hid he
    clear he
    go_enter Try.func13, Try.ntmps13
    go_wp2_with fail
    refine HBO.out.mono ?_
    rintro e w2 ⟨v2, rfl, ho2, hb2⟩
    have hnl : (nats (bordL s s.size)).length = s.size := by rw [nats_length, bordL_length]
    rw [hnl] at ho2
    obtain ⟨g, cp, rfl, _, _⟩ := ho2.form h1
    have hc := ho2.cellAt (s.size - 1) (by omega)
    rw [HE.out] at hc
    have HW := Lib.hid hb2; clear hb2 ho2 hnl HBO
    go_wp2_with fail
    go_ret2
    exact ⟨rfl, HW.out⟩

set_option maxHeartbeats 1000000 in
theorem spec_periodOf (s : ByteArray) (w : World) (hs : s.size ≤ maxLen) :
    Calls Try.prog 12 #[.string s] w fun e w' => e = .returned (.tuple #[.int .i64 (PeriodR s).1, .bool (PeriodR s).2]) ∧ Below w.heap.size w w' := by
  unfold maxLen at hs
  cases h : inB (s.size : Int) 1 200 with
  | false =>
    rw [PeriodR_no s h]
    go_enter Try.func12, Try.ntmps12
    go_wp2_with (go_at_call 47; refine (l1In_any _ _ _ _).mono ?_; rintro e w' ⟨rfl, rfl⟩)
    go_ret2
    exact ⟨rfl, Below.refl _ _⟩
  | true =>
    rw [PeriodR_yes s h]
    have hb := inB_of h
    have h1 : 1 ≤ s.size := by omega
    have h2 : s.size ≤ 200 := by omega
    have hle := bordL_le s s.size (s.size - 1) (by rw [bordL_length]; omega)
    have HBO := Lib.hid (fun wx => spec_borders s wx h2)
    clear hb
    have he : (ints (nats (bordL s s.size)))[s.size - 1]? = some (.int .i64 (((bordL s s.size).getD (s.size - 1) 0 : Nat) : Int)) := by
      rw [ints_at _ _ (by rw [nats_length, bordL_length]; omega), nats_getD]
    generalize (bordL s s.size).getD (s.size - 1) 0 = q at *
    have HE := Lib.hid he
    clear he
    go_enter Try.func12, Try.ntmps12
    go_wp2_with (go_at_call 47; refine (l1In_any _ _ _ _).mono ?_; rintro e w' ⟨rfl, rfl⟩)
    refine (HBO.out _).mono ?_
    rintro e w2 ⟨v2, rfl, ho2, hb2⟩
    have hnl : (nats (bordL s s.size)).length = s.size := by rw [nats_length, bordL_length]
    rw [hnl] at ho2
    obtain ⟨g, cp, rfl, _, _⟩ := ho2.form h1
    have hc := ho2.cellAt (s.size - 1) (by omega)
    rw [HE.out] at hc
    have HW := Lib.hid hb2; clear hb2 ho2 hnl HBO
    go_wp2_with fail
    go_ret2
    exact ⟨rfl, HW.out⟩
end Go.Proofs.Ytfkcchbbbfeamaa
