/- Whether a field is good: both walks. -/
import Derived.Test.YtlmgckijbamgpaaVar7
import Derived.Test.YtlmgckijbamgpaaFldL
import Derived.Test.YtlmgckijbamgpaaSched
namespace Go.Proofs.Ytlmgckijbamgpaa
set_option linter.unusedVariables false
set_option linter.unusedSimpArgs false
open Go.ChangeShapes Go.WideShapes Go.ChangeAt Go.RowKit
set_option maxRecDepth 100000

theorem inR_dec (n lo hi : Int) : inR n lo hi = decide (lo ≤ n ∧ n ≤ hi) := by unfold inR; by_cases h1 : lo ≤ n <;> by_cases h2 : n ≤ hi <;> simp [h1, h2]
theorem okF_eq (f : Fld) : okF f = (inR f.no 1 30 && (if f.kind = 0 then inR f.num (-1000000000) 1000000000 && f.data.toList.isEmpty else if f.kind = 2 then f.num == 0 else false)) := by
  have e : f.data.toList.isEmpty = decide (f.data.size = 0) := by
    rw [ByteArray.toList_eq]
    show f.data.data.toList.isEmpty = decide (f.data.data.size = 0)
    rw [← Array.length_toList]
    cases f.data.data.toList <;> simp
  rw [inR_dec, inR_dec, e]; rfl
theorem kind_eq {a b : Int} (h : ¬ a = b) : (a == b) = false := beq_eq_false_iff_ne.2 h
set_option maxHeartbeats 1000000 in
theorem spec_field (f : Fld) (w : World) : Calls Try.prog 82 #[.agg #[.int .i64 f.no, .int .i64 f.kind, .int .i64 f.num, .string f.data]] w fun e w' => e = .returned (.bool (okF f)) ∧ Below w.heap.size w w' := by
  rw [okF_eq]
  obtain ⟨no, kd, nm, dt⟩ := f
  simp only
  have HIN := Lib.hid (fun wx => spec_in no 1 30 wx)
  have HNU := Lib.hid (fun wx => spec_number nm wx)
  have HB := Lib.hid ((Below.refl w.heap.size w).alloc (Nat.le_refl _) (.cells #[.int .i64 no, .int .i64 kd, .int .i64 nm, .string dt] 57))
  cases h1 : inR no 1 30 with
  | false =>
    rw [h1] at HIN
    rw [Bool.false_and]
    go_enter Try.func82, Try.ntmps82
    go_wp2_with (refine (HIN.out _).mono ?_; rintro e w' ⟨rfl, rfl⟩)
    go_ret
    exact ⟨rfl, HB.out⟩
  | true =>
    rw [h1] at HIN
    rw [Bool.true_and]
    by_cases h0 : kd = 0
    · subst h0
      rw [if_pos rfl]
      cases h2 : inR nm (-1000000000) 1000000000 with
      | false =>
        rw [h2] at HNU
        rw [Bool.false_and]
        go_enter Try.func82, Try.ntmps82
        go_wp2_with (first | (refine (HIN.out _).mono ?_; rintro e w' ⟨rfl, rfl⟩) | (refine (HNU.out _).mono ?_; rintro e w' ⟨rfl, rfl⟩))
        go_ret
        exact ⟨rfl, HB.out⟩
      | true =>
        rw [h2] at HNU
        rw [Bool.true_and]
        generalize hE : dt.toList.isEmpty = E
        have HE := Lib.hid hE
        go_enter Try.func82, Try.ntmps82
        go_wp2_with (first | (refine (HIN.out _).mono ?_; rintro e w' ⟨rfl, rfl⟩) | (refine (HNU.out _).mono ?_; rintro e w' ⟨rfl, rfl⟩))
        go_ret
        exact ⟨rfl, HB.out⟩
    · rw [if_neg h0]
      have k0 := kind_eq h0
      by_cases h2 : kd = 2
      · subst h2
        rw [if_pos rfl]
        go_enter Try.func82, Try.ntmps82
        go_wp2_with (refine (HIN.out _).mono ?_; rintro e w' ⟨rfl, rfl⟩)
        go_ret
        exact ⟨rfl, HB.out⟩
      · have k2 := kind_eq h2
        rw [if_neg h2]
        go_enter Try.func82, Try.ntmps82
        go_wp2_with (refine (HIN.out _).mono ?_; rintro e w' ⟨rfl, rfl⟩)
        go_ret
        exact ⟨rfl, HB.out⟩
set_option maxHeartbeats 1000000 in
theorem impl_fieldOK (f : Fld) (w : World) : Calls Try.prog 125 #[.agg #[.int .i64 f.no, .int .i64 f.kind, .int .i64 f.num, .string f.data]] w fun e w' => e = .returned (.bool (okF f)) ∧ Below w.heap.size w w' := by
  rw [okF_eq]
  obtain ⟨no, kd, nm, dt⟩ := f
  simp only
  have HIN := Lib.hid (fun wx => impl_within no 1 30 wx)
  have HNU := Lib.hid (fun wx => impl_numberOK nm wx)
  have HB := Lib.hid ((Below.refl w.heap.size w).alloc (Nat.le_refl _) (.cells #[.int .i64 no, .int .i64 kd, .int .i64 nm, .string dt] 57))
  cases h1 : inR no 1 30 with
  | false =>
    rw [h1] at HIN
    rw [Bool.false_and]
    go_enter Try.func125, Try.ntmps125
    go_wp2_with (refine (HIN.out _).mono ?_; rintro e w' ⟨rfl, rfl⟩)
    go_ret
    exact ⟨rfl, HB.out⟩
  | true =>
    rw [h1] at HIN
    rw [Bool.true_and]
    by_cases h0 : kd = 0
    · subst h0
      rw [if_pos rfl]
      cases h2 : inR nm (-1000000000) 1000000000 with
      | false =>
        rw [h2] at HNU
        rw [Bool.false_and]
        go_enter Try.func125, Try.ntmps125
        go_wp2_with (first | (refine (HIN.out _).mono ?_; rintro e w' ⟨rfl, rfl⟩) | (refine (HNU.out _).mono ?_; rintro e w' ⟨rfl, rfl⟩))
        go_ret
        exact ⟨rfl, HB.out⟩
      | true =>
        rw [h2] at HNU
        rw [Bool.true_and]
        generalize hE : dt.toList.isEmpty = E
        have HE := Lib.hid hE
        go_enter Try.func125, Try.ntmps125
        go_wp2_with (first | (refine (HIN.out _).mono ?_; rintro e w' ⟨rfl, rfl⟩) | (refine (HNU.out _).mono ?_; rintro e w' ⟨rfl, rfl⟩))
        go_ret
        exact ⟨rfl, HB.out⟩
    · rw [if_neg h0]
      have k0 := kind_eq h0
      by_cases h2 : kd = 2
      · subst h2
        rw [if_pos rfl]
        go_enter Try.func125, Try.ntmps125
        go_wp2_with (refine (HIN.out _).mono ?_; rintro e w' ⟨rfl, rfl⟩)
        go_ret
        exact ⟨rfl, HB.out⟩
      · have k2 := kind_eq h2
        rw [if_neg h2]
        go_enter Try.func125, Try.ntmps125
        go_wp2_with (refine (HIN.out _).mono ?_; rintro e w' ⟨rfl, rfl⟩)
        go_ret
        exact ⟨rfl, HB.out⟩
end Go.Proofs.Ytlmgckijbamgpaa
