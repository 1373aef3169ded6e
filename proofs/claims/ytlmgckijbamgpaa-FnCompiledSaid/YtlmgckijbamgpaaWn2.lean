/- Whether a want is right: both walks. -/
import Derived.Test.YtlmgckijbamgpaaWn1
import Derived.Test.YtlmgckijbamgpaaFld1
namespace Go.Proofs.Ytlmgckijbamgpaa
set_option linter.unusedVariables false
set_option linter.unusedSimpArgs false
open Go.ChangeShapes Go.WideShapes Go.ChangeAt Go.RowKit
set_option maxRecDepth 100000

theorem emp_size (dt : ByteArray) : dt.toList.isEmpty = decide (dt.size = 0) := by
  rw [ByteArray.toList_eq]
  show dt.data.toList.isEmpty = decide (dt.data.size = 0)
  rw [← Array.length_toList]
  cases dt.data.toList <;> simp
theorem emp_yes {dt : ByteArray} (h : dt.size = 0) : dt.toList.isEmpty = true := by rw [emp_size]; exact decide_eq_true h
theorem emp_no {dt : ByteArray} (h : ¬ dt.size = 0) : dt.toList.isEmpty = false := by rw [emp_size]; exact decide_eq_false h
set_option maxHeartbeats 4000000 in
theorem impl_testOK (kd nm : Int) (tx : ByteArray) (w : World) : Calls Try.prog 134 #[.int .i64 kd, .int .i64 nm, .string tx] w fun e w' => e = .returned (.bool (decide (TestW kd nm tx.size))) ∧ w = w' := by
  have HNU := Lib.hid (fun wx => impl_numberOK nm wx)
  by_cases h1 : 1 ≤ kd ∧ kd ≤ 3
  · have hk : kd = 1 ∨ kd = 2 ∨ kd = 3 := by omega
    cases h2 : inR nm (-1000000000) 1000000000 with
    | false =>
      rw [h2] at HNU
      rw [show decide (TestW kd nm tx.size) = false from decide_eq_false (fun h => by have := inR_iff.2 (h.2.1 h1.2); rw [this] at h2; cases h2)]
      clear h1 h2
      rcases hk with rfl | rfl | rfl
      all_goals
        go_enter Try.func134, Try.ntmps134
        go_wp2_with (refine (HNU.out _).mono ?_; rintro e w' ⟨rfl, rfl⟩)
        go_ret
        first | exact ⟨rfl, rfl⟩ | exact ⟨by simp, rfl⟩
    | true =>
      rw [h2] at HNU
      have h3 := inR_iff.1 h2
      by_cases h4 : tx.size = 0
      · rw [show decide (TestW kd nm tx.size) = true from decide_eq_true (by unfold TestW; omega)]
        have he := emp_yes h4
        clear h1 h2 h3 h4
        rcases hk with rfl | rfl | rfl
        all_goals
          go_enter Try.func134, Try.ntmps134
          go_wp2_with (refine (HNU.out _).mono ?_; rintro e w' ⟨rfl, rfl⟩)
          go_ret
          first | exact ⟨rfl, rfl⟩ | exact ⟨by simp, rfl⟩
      · rw [show decide (TestW kd nm tx.size) = false from decide_eq_false (by unfold TestW; omega)]
        have he := emp_no h4
        clear h1 h2 h3 h4
        rcases hk with rfl | rfl | rfl
        all_goals
          go_enter Try.func134, Try.ntmps134
          go_wp2_with (refine (HNU.out _).mono ?_; rintro e w' ⟨rfl, rfl⟩)
          go_ret
          first | exact ⟨rfl, rfl⟩ | exact ⟨by simp, rfl⟩
  · by_cases h4 : kd = 4
    · subst h4
      by_cases h5 : nm = 0
      · subst h5
        by_cases h6 : tx.size = 0
        · rw [show decide (TestW 4 0 tx.size) = true from decide_eq_true (by unfold TestW; omega)]
          have he := emp_yes h6
          clear h6 h1
          go_enter Try.func134, Try.ntmps134
          go_wp2_with (refine (HNU.out _).mono ?_; rintro e w' ⟨rfl, rfl⟩)
          go_ret
          first | exact ⟨rfl, rfl⟩ | exact ⟨by simp, rfl⟩
        · rw [show decide (TestW 4 0 tx.size) = false from decide_eq_false (by unfold TestW; omega)]
          have he := emp_no h6
          clear h6 h1
          go_enter Try.func134, Try.ntmps134
          go_wp2_with (refine (HNU.out _).mono ?_; rintro e w' ⟨rfl, rfl⟩)
          go_ret
          first | exact ⟨rfl, rfl⟩ | exact ⟨by simp, rfl⟩
      · rw [show decide (TestW 4 nm tx.size) = false from decide_eq_false (by unfold TestW; omega)]
        have q := kind_eq h5
        clear h1
        go_enter Try.func134, Try.ntmps134
        go_wp2_with (refine (HNU.out _).mono ?_; rintro e w' ⟨rfl, rfl⟩)
        go_ret
        first | exact ⟨rfl, rfl⟩ | exact ⟨by simp, rfl⟩
    · by_cases h5 : kd = 5
      · subst h5
        by_cases h5 : nm = 0
        · subst h5
          by_cases h6 : tx.size ≤ 30
          · rw [show decide (TestW 5 0 tx.size) = true from decide_eq_true (by unfold TestW; omega)]
            have he : (tx.size : Int) ≤ 30 := by omega
            clear h6 h1
            go_enter Try.func134, Try.ntmps134
            go_wp2_with (refine (HNU.out _).mono ?_; rintro e w' ⟨rfl, rfl⟩)
            go_ret
            first | exact ⟨rfl, rfl⟩ | exact ⟨by simp, rfl⟩
          · rw [show decide (TestW 5 0 tx.size) = false from decide_eq_false (by unfold TestW; omega)]
            have he : ¬ (tx.size : Int) ≤ 30 := by omega
            clear h6 h1
            go_enter Try.func134, Try.ntmps134
            go_wp2_with (refine (HNU.out _).mono ?_; rintro e w' ⟨rfl, rfl⟩)
            go_ret
            first | exact ⟨rfl, rfl⟩ | exact ⟨by simp, rfl⟩
        · rw [show decide (TestW 5 nm tx.size) = false from decide_eq_false (by unfold TestW; omega)]
          have q := kind_eq h5
          clear h1
          go_enter Try.func134, Try.ntmps134
          go_wp2_with (refine (HNU.out _).mono ?_; rintro e w' ⟨rfl, rfl⟩)
          go_ret
          first | exact ⟨rfl, rfl⟩ | exact ⟨by simp, rfl⟩
      · rw [show decide (TestW kd nm tx.size) = false from decide_eq_false (by unfold TestW; omega)]
        have q1 := kind_eq (show ¬ kd = 1 by omega)
        have q2 := kind_eq (show ¬ kd = 2 by omega)
        have q3 := kind_eq (show ¬ kd = 3 by omega)
        have q4 := kind_eq h4
        have q5 := kind_eq h5
        clear h1
        go_enter Try.func134, Try.ntmps134
        go_wp2_with (refine (HNU.out _).mono ?_; rintro e w' ⟨rfl, rfl⟩)
        go_ret
        first | exact ⟨rfl, rfl⟩ | exact ⟨by simp, rfl⟩
end Go.Proofs.Ytlmgckijbamgpaa
