/- Whether a want is right: both walks. -/
import Derived.Test.YtlmgckijbamgpaaWn2
namespace Go.Proofs.Ytlmgckijbamgpaa
set_option linter.unusedVariables false
set_option linter.unusedSimpArgs false
open Go.ChangeShapes Go.WideShapes Go.ChangeAt Go.RowKit
set_option maxRecDepth 100000

theorem tl_nil (tx : ByteArray) : tx.toList = [] ↔ tx.size = 0 := by
  have h := emp_size tx
  rw [Bool.eq_iff_iff, List.isEmpty_iff, decide_eq_true_eq] at h
  exact h
def OkA (kd no nm : Int) (ts : Nat) (a b : Int) (i : Nat) : Prop :=
  ((kd = 6 ∨ kd = 7) ∧ no = 0 ∧ nm = 0 ∧ ts = 0 ∧ 0 ≤ a ∧ a < b ∧ b < (i : Int)) ∨
  (kd = 8 ∧ no = 0 ∧ nm = 0 ∧ ts = 0 ∧ 0 ≤ a ∧ a < (i : Int) ∧ b = 0) ∨
  ((1 ≤ no ∧ no ≤ 30) ∧ TestW kd nm ts ∧ a = 0 ∧ b = 0)
theorem okA_yes {kd no nm a b : Int} {tx : ByteArray} {i : Nat} (h : OkA kd no nm tx.size a b i) : okW ⟨kd, no, nm, tx, a, b⟩ i = true := okW_yes h
theorem okA_no {kd no nm a b : Int} {tx : ByteArray} {i : Nat} (h : ¬ OkA kd no nm tx.size a b i) : okW ⟨kd, no, nm, tx, a, b⟩ i = false := okW_no h
theorem inR_f {n lo hi : Int} : inR n lo hi = false ↔ ¬ (lo ≤ n ∧ n ≤ hi) := by rw [← inR_iff]; simp

set_option maxHeartbeats 8000000 in
theorem impl_wantOK (kd no nm : Int) (tx : ByteArray) (a b : Int) (i : Nat) (w : World) (hi : i ≤ 1000000) : Calls Try.prog 105 #[.agg #[.int .i64 kd, .int .i64 no, .int .i64 nm, .string tx, .int .i64 a, .int .i64 b], .int .i64 (i : Int)] w fun e w' => e = .returned (.bool (okW ⟨kd, no, nm, tx, a, b⟩ i)) ∧ Below w.heap.size w w' := by
  obtain ⟨r, hr⟩ : ∃ r, r = okW ⟨kd, no, nm, tx, a, b⟩ i := ⟨_, rfl⟩
  rw [← hr]
  have HB := Lib.hid (fun kd no nm a b => (Below.refl w.heap.size w).alloc (Nat.le_refl _) (.cells #[.int .i64 kd, .int .i64 no, .int .i64 nm, .string tx, .int .i64 a, .int .i64 b] 134))
  have HNO := Lib.hid (fun wx => impl_within no 1 30 wx)
  have HTE := Lib.hid (fun wx => impl_testOK kd nm tx wx)
  have HIA := Lib.hid (fun wx => impl_within a 0 ((i : Int) - 1) wx)
  have hwi : IntKind.i64.wrap ((i : Int) - 1) = (i : Int) - 1 := IntWalk.i64_in _ (by omega)
  by_cases c6 : kd = 6
  case pos =>
    subst c6
    by_cases h1 : no = 0
    case neg =>
      have kh1 := kind_eq h1
      obtain rfl : r = false := by rw [hr]; exact okA_no (by unfold OkA TestW; omega)
      clear hr
      go_enter Try.func105, Try.ntmps105
      go_wp2_with (first | ((with_reducible refine (HNO.out _).mono ?_); rintro e w' ⟨rfl, rfl⟩) | ((with_reducible refine (HTE.out _).mono ?_); rintro e w' ⟨rfl, rfl⟩) | ((with_reducible refine (HIA.out _).mono ?_); rintro e w' ⟨rfl, rfl⟩))
      go_ret
      first | exact ⟨rfl, HB.out _ _ _ _ _⟩ | exact ⟨ret_bool (decide_eq_false (by omega)), HB.out _ _ _ _ _⟩
    subst h1
    by_cases h2 : nm = 0
    case neg =>
      have kh2 := kind_eq h2
      obtain rfl : r = false := by rw [hr]; exact okA_no (by unfold OkA TestW; omega)
      clear hr
      go_enter Try.func105, Try.ntmps105
      go_wp2_with (first | ((with_reducible refine (HNO.out _).mono ?_); rintro e w' ⟨rfl, rfl⟩) | ((with_reducible refine (HTE.out _).mono ?_); rintro e w' ⟨rfl, rfl⟩) | ((with_reducible refine (HIA.out _).mono ?_); rintro e w' ⟨rfl, rfl⟩))
      go_ret
      first | exact ⟨rfl, HB.out _ _ _ _ _⟩ | exact ⟨ret_bool (decide_eq_false (by omega)), HB.out _ _ _ _ _⟩
    subst h2
    by_cases h3 : tx.size = 0
    case neg =>
      have kh3 := emp_no h3
      obtain rfl : r = false := by rw [hr]; exact okA_no (by unfold OkA TestW; omega)
      clear hr
      go_enter Try.func105, Try.ntmps105
      go_wp2_with (first | ((with_reducible refine (HNO.out _).mono ?_); rintro e w' ⟨rfl, rfl⟩) | ((with_reducible refine (HTE.out _).mono ?_); rintro e w' ⟨rfl, rfl⟩) | ((with_reducible refine (HIA.out _).mono ?_); rintro e w' ⟨rfl, rfl⟩))
      go_ret
      first | exact ⟨rfl, HB.out _ _ _ _ _⟩ | exact ⟨ret_bool (decide_eq_false (by omega)), HB.out _ _ _ _ _⟩
    have kh3 := emp_yes h3
    by_cases h4 : 0 ≤ a
    case neg =>
      obtain rfl : r = false := by rw [hr]; exact okA_no (by unfold OkA TestW; omega)
      clear hr
      go_enter Try.func105, Try.ntmps105
      go_wp2_with (first | ((with_reducible refine (HNO.out _).mono ?_); rintro e w' ⟨rfl, rfl⟩) | ((with_reducible refine (HTE.out _).mono ?_); rintro e w' ⟨rfl, rfl⟩) | ((with_reducible refine (HIA.out _).mono ?_); rintro e w' ⟨rfl, rfl⟩))
      go_ret
      first | exact ⟨rfl, HB.out _ _ _ _ _⟩ | exact ⟨ret_bool (decide_eq_false (by omega)), HB.out _ _ _ _ _⟩
    by_cases h5 : a < b
    case neg =>
      obtain rfl : r = false := by rw [hr]; exact okA_no (by unfold OkA TestW; omega)
      clear hr
      go_enter Try.func105, Try.ntmps105
      go_wp2_with (first | ((with_reducible refine (HNO.out _).mono ?_); rintro e w' ⟨rfl, rfl⟩) | ((with_reducible refine (HTE.out _).mono ?_); rintro e w' ⟨rfl, rfl⟩) | ((with_reducible refine (HIA.out _).mono ?_); rintro e w' ⟨rfl, rfl⟩))
      go_ret
      first | exact ⟨rfl, HB.out _ _ _ _ _⟩ | exact ⟨ret_bool (decide_eq_false (by omega)), HB.out _ _ _ _ _⟩
    by_cases h6 : b < (i : Int)
    case neg =>
      obtain rfl : r = false := by rw [hr]; exact okA_no (by unfold OkA TestW; omega)
      clear hr
      go_enter Try.func105, Try.ntmps105
      go_wp2_with (first | ((with_reducible refine (HNO.out _).mono ?_); rintro e w' ⟨rfl, rfl⟩) | ((with_reducible refine (HTE.out _).mono ?_); rintro e w' ⟨rfl, rfl⟩) | ((with_reducible refine (HIA.out _).mono ?_); rintro e w' ⟨rfl, rfl⟩))
      go_ret
      first | exact ⟨rfl, HB.out _ _ _ _ _⟩ | exact ⟨ret_bool (decide_eq_false (by omega)), HB.out _ _ _ _ _⟩
    obtain rfl : r = true := by rw [hr]; exact okA_yes (by unfold OkA TestW; omega)
    clear hr
    go_enter Try.func105, Try.ntmps105
    go_wp2_with (first | ((with_reducible refine (HNO.out _).mono ?_); rintro e w' ⟨rfl, rfl⟩) | ((with_reducible refine (HTE.out _).mono ?_); rintro e w' ⟨rfl, rfl⟩) | ((with_reducible refine (HIA.out _).mono ?_); rintro e w' ⟨rfl, rfl⟩))
    go_ret
    exact ⟨rfl, HB.out _ _ _ _ _⟩
  by_cases c7 : kd = 7
  case pos =>
    subst c7
    by_cases h7 : no = 0
    case neg =>
      have kh7 := kind_eq h7
      obtain rfl : r = false := by rw [hr]; exact okA_no (by unfold OkA TestW; omega)
      clear hr
      go_enter Try.func105, Try.ntmps105
      go_wp2_with (first | ((with_reducible refine (HNO.out _).mono ?_); rintro e w' ⟨rfl, rfl⟩) | ((with_reducible refine (HTE.out _).mono ?_); rintro e w' ⟨rfl, rfl⟩) | ((with_reducible refine (HIA.out _).mono ?_); rintro e w' ⟨rfl, rfl⟩))
      go_ret
      first | exact ⟨rfl, HB.out _ _ _ _ _⟩ | exact ⟨ret_bool (decide_eq_false (by omega)), HB.out _ _ _ _ _⟩
    subst h7
    by_cases h8 : nm = 0
    case neg =>
      have kh8 := kind_eq h8
      obtain rfl : r = false := by rw [hr]; exact okA_no (by unfold OkA TestW; omega)
      clear hr
      go_enter Try.func105, Try.ntmps105
      go_wp2_with (first | ((with_reducible refine (HNO.out _).mono ?_); rintro e w' ⟨rfl, rfl⟩) | ((with_reducible refine (HTE.out _).mono ?_); rintro e w' ⟨rfl, rfl⟩) | ((with_reducible refine (HIA.out _).mono ?_); rintro e w' ⟨rfl, rfl⟩))
      go_ret
      first | exact ⟨rfl, HB.out _ _ _ _ _⟩ | exact ⟨ret_bool (decide_eq_false (by omega)), HB.out _ _ _ _ _⟩
    subst h8
    by_cases h9 : tx.size = 0
    case neg =>
      have kh9 := emp_no h9
      obtain rfl : r = false := by rw [hr]; exact okA_no (by unfold OkA TestW; omega)
      clear hr
      go_enter Try.func105, Try.ntmps105
      go_wp2_with (first | ((with_reducible refine (HNO.out _).mono ?_); rintro e w' ⟨rfl, rfl⟩) | ((with_reducible refine (HTE.out _).mono ?_); rintro e w' ⟨rfl, rfl⟩) | ((with_reducible refine (HIA.out _).mono ?_); rintro e w' ⟨rfl, rfl⟩))
      go_ret
      first | exact ⟨rfl, HB.out _ _ _ _ _⟩ | exact ⟨ret_bool (decide_eq_false (by omega)), HB.out _ _ _ _ _⟩
    have kh9 := emp_yes h9
    by_cases h10 : 0 ≤ a
    case neg =>
      obtain rfl : r = false := by rw [hr]; exact okA_no (by unfold OkA TestW; omega)
      clear hr
      go_enter Try.func105, Try.ntmps105
      go_wp2_with (first | ((with_reducible refine (HNO.out _).mono ?_); rintro e w' ⟨rfl, rfl⟩) | ((with_reducible refine (HTE.out _).mono ?_); rintro e w' ⟨rfl, rfl⟩) | ((with_reducible refine (HIA.out _).mono ?_); rintro e w' ⟨rfl, rfl⟩))
      go_ret
      first | exact ⟨rfl, HB.out _ _ _ _ _⟩ | exact ⟨ret_bool (decide_eq_false (by omega)), HB.out _ _ _ _ _⟩
    by_cases h11 : a < b
    case neg =>
      obtain rfl : r = false := by rw [hr]; exact okA_no (by unfold OkA TestW; omega)
      clear hr
      go_enter Try.func105, Try.ntmps105
      go_wp2_with (first | ((with_reducible refine (HNO.out _).mono ?_); rintro e w' ⟨rfl, rfl⟩) | ((with_reducible refine (HTE.out _).mono ?_); rintro e w' ⟨rfl, rfl⟩) | ((with_reducible refine (HIA.out _).mono ?_); rintro e w' ⟨rfl, rfl⟩))
      go_ret
      first | exact ⟨rfl, HB.out _ _ _ _ _⟩ | exact ⟨ret_bool (decide_eq_false (by omega)), HB.out _ _ _ _ _⟩
    by_cases h12 : b < (i : Int)
    case neg =>
      obtain rfl : r = false := by rw [hr]; exact okA_no (by unfold OkA TestW; omega)
      clear hr
      go_enter Try.func105, Try.ntmps105
      go_wp2_with (first | ((with_reducible refine (HNO.out _).mono ?_); rintro e w' ⟨rfl, rfl⟩) | ((with_reducible refine (HTE.out _).mono ?_); rintro e w' ⟨rfl, rfl⟩) | ((with_reducible refine (HIA.out _).mono ?_); rintro e w' ⟨rfl, rfl⟩))
      go_ret
      first | exact ⟨rfl, HB.out _ _ _ _ _⟩ | exact ⟨ret_bool (decide_eq_false (by omega)), HB.out _ _ _ _ _⟩
    obtain rfl : r = true := by rw [hr]; exact okA_yes (by unfold OkA TestW; omega)
    clear hr
    go_enter Try.func105, Try.ntmps105
    go_wp2_with (first | ((with_reducible refine (HNO.out _).mono ?_); rintro e w' ⟨rfl, rfl⟩) | ((with_reducible refine (HTE.out _).mono ?_); rintro e w' ⟨rfl, rfl⟩) | ((with_reducible refine (HIA.out _).mono ?_); rintro e w' ⟨rfl, rfl⟩))
    go_ret
    exact ⟨rfl, HB.out _ _ _ _ _⟩
  by_cases c8 : kd = 8
  case pos =>
    subst c8
    by_cases h13 : no = 0
    case neg =>
      have kh13 := kind_eq h13
      obtain rfl : r = false := by rw [hr]; exact okA_no (by unfold OkA TestW; omega)
      clear hr
      go_enter Try.func105, Try.ntmps105
      go_wp2_with (first | ((with_reducible refine (HNO.out _).mono ?_); rintro e w' ⟨rfl, rfl⟩) | ((with_reducible refine (HTE.out _).mono ?_); rintro e w' ⟨rfl, rfl⟩) | ((with_reducible refine (HIA.out _).mono ?_); rintro e w' ⟨rfl, rfl⟩))
      go_ret
      first | exact ⟨rfl, HB.out _ _ _ _ _⟩ | exact ⟨ret_bool (decide_eq_false (by omega)), HB.out _ _ _ _ _⟩
    subst h13
    by_cases h14 : nm = 0
    case neg =>
      have kh14 := kind_eq h14
      obtain rfl : r = false := by rw [hr]; exact okA_no (by unfold OkA TestW; omega)
      clear hr
      go_enter Try.func105, Try.ntmps105
      go_wp2_with (first | ((with_reducible refine (HNO.out _).mono ?_); rintro e w' ⟨rfl, rfl⟩) | ((with_reducible refine (HTE.out _).mono ?_); rintro e w' ⟨rfl, rfl⟩) | ((with_reducible refine (HIA.out _).mono ?_); rintro e w' ⟨rfl, rfl⟩))
      go_ret
      first | exact ⟨rfl, HB.out _ _ _ _ _⟩ | exact ⟨ret_bool (decide_eq_false (by omega)), HB.out _ _ _ _ _⟩
    subst h14
    by_cases h15 : tx.size = 0
    case neg =>
      have kh15 := emp_no h15
      obtain rfl : r = false := by rw [hr]; exact okA_no (by unfold OkA TestW; omega)
      clear hr
      go_enter Try.func105, Try.ntmps105
      go_wp2_with (first | ((with_reducible refine (HNO.out _).mono ?_); rintro e w' ⟨rfl, rfl⟩) | ((with_reducible refine (HTE.out _).mono ?_); rintro e w' ⟨rfl, rfl⟩) | ((with_reducible refine (HIA.out _).mono ?_); rintro e w' ⟨rfl, rfl⟩))
      go_ret
      first | exact ⟨rfl, HB.out _ _ _ _ _⟩ | exact ⟨ret_bool (decide_eq_false (by omega)), HB.out _ _ _ _ _⟩
    have kh15 := emp_yes h15
    by_cases h16 : 0 ≤ a ∧ a ≤ (i : Int) - 1
    case neg =>
      rw [inR_f.2 h16] at HIA
      obtain rfl : r = false := by rw [hr]; exact okA_no (by unfold OkA TestW; omega)
      clear hr
      go_enter Try.func105, Try.ntmps105
      go_wp2_with (first | ((with_reducible refine (HNO.out _).mono ?_); rintro e w' ⟨rfl, rfl⟩) | ((with_reducible refine (HTE.out _).mono ?_); rintro e w' ⟨rfl, rfl⟩) | ((with_reducible refine (HIA.out _).mono ?_); rintro e w' ⟨rfl, rfl⟩))
      go_ret
      first | exact ⟨rfl, HB.out _ _ _ _ _⟩ | exact ⟨ret_bool (decide_eq_false (by omega)), HB.out _ _ _ _ _⟩
    rw [inR_iff.2 h16] at HIA
    by_cases h17 : b = 0
    case neg =>
      have kh17 := kind_eq h17
      obtain rfl : r = false := by rw [hr]; exact okA_no (by unfold OkA TestW; omega)
      clear hr
      go_enter Try.func105, Try.ntmps105
      go_wp2_with (first | ((with_reducible refine (HNO.out _).mono ?_); rintro e w' ⟨rfl, rfl⟩) | ((with_reducible refine (HTE.out _).mono ?_); rintro e w' ⟨rfl, rfl⟩) | ((with_reducible refine (HIA.out _).mono ?_); rintro e w' ⟨rfl, rfl⟩))
      go_ret
      first | exact ⟨rfl, HB.out _ _ _ _ _⟩ | exact ⟨ret_bool (decide_eq_false (by omega)), HB.out _ _ _ _ _⟩
    subst h17
    obtain rfl : r = true := by rw [hr]; exact okA_yes (by unfold OkA TestW; omega)
    clear hr
    go_enter Try.func105, Try.ntmps105
    go_wp2_with (first | ((with_reducible refine (HNO.out _).mono ?_); rintro e w' ⟨rfl, rfl⟩) | ((with_reducible refine (HTE.out _).mono ?_); rintro e w' ⟨rfl, rfl⟩) | ((with_reducible refine (HIA.out _).mono ?_); rintro e w' ⟨rfl, rfl⟩))
    go_ret
    exact ⟨rfl, HB.out _ _ _ _ _⟩
  have k6 := kind_eq c6
  have k7 := kind_eq c7
  have k8 := kind_eq c8
  by_cases h18 : 1 ≤ no ∧ no ≤ 30
  case neg =>
    rw [inR_f.2 h18] at HNO
    obtain rfl : r = false := by rw [hr]; exact okA_no (by unfold OkA TestW; omega)
    clear hr
    go_enter Try.func105, Try.ntmps105
    go_wp2_with (first | ((with_reducible refine (HNO.out _).mono ?_); rintro e w' ⟨rfl, rfl⟩) | ((with_reducible refine (HTE.out _).mono ?_); rintro e w' ⟨rfl, rfl⟩) | ((with_reducible refine (HIA.out _).mono ?_); rintro e w' ⟨rfl, rfl⟩))
    go_ret
    first | exact ⟨rfl, HB.out _ _ _ _ _⟩ | exact ⟨ret_bool (decide_eq_false (by omega)), HB.out _ _ _ _ _⟩
  rw [inR_iff.2 h18] at HNO
  by_cases ht : TestW kd nm tx.size
  case neg =>
    rw [decide_eq_false ht] at HTE
    unfold TestW at ht
    obtain rfl : r = false := by rw [hr]; exact okA_no (by unfold OkA TestW; omega)
    clear hr
    go_enter Try.func105, Try.ntmps105
    go_wp2_with (first | ((with_reducible refine (HNO.out _).mono ?_); rintro e w' ⟨rfl, rfl⟩) | ((with_reducible refine (HTE.out _).mono ?_); rintro e w' ⟨rfl, rfl⟩) | ((with_reducible refine (HIA.out _).mono ?_); rintro e w' ⟨rfl, rfl⟩))
    go_ret
    first | exact ⟨rfl, HB.out _ _ _ _ _⟩ | exact ⟨ret_bool (decide_eq_false (by omega)), HB.out _ _ _ _ _⟩
  rw [decide_eq_true ht] at HTE
  unfold TestW at ht
  by_cases h19 : a = 0
  case neg =>
    have kh19 := kind_eq h19
    obtain rfl : r = false := by rw [hr]; exact okA_no (by unfold OkA TestW; omega)
    clear hr
    go_enter Try.func105, Try.ntmps105
    go_wp2_with (first | ((with_reducible refine (HNO.out _).mono ?_); rintro e w' ⟨rfl, rfl⟩) | ((with_reducible refine (HTE.out _).mono ?_); rintro e w' ⟨rfl, rfl⟩) | ((with_reducible refine (HIA.out _).mono ?_); rintro e w' ⟨rfl, rfl⟩))
    go_ret
    first | exact ⟨rfl, HB.out _ _ _ _ _⟩ | exact ⟨ret_bool (decide_eq_false (by omega)), HB.out _ _ _ _ _⟩
  subst h19
  by_cases h20 : b = 0
  case neg =>
    have kh20 := kind_eq h20
    obtain rfl : r = false := by rw [hr]; exact okA_no (by unfold OkA TestW; omega)
    clear hr
    go_enter Try.func105, Try.ntmps105
    go_wp2_with (first | ((with_reducible refine (HNO.out _).mono ?_); rintro e w' ⟨rfl, rfl⟩) | ((with_reducible refine (HTE.out _).mono ?_); rintro e w' ⟨rfl, rfl⟩) | ((with_reducible refine (HIA.out _).mono ?_); rintro e w' ⟨rfl, rfl⟩))
    go_ret
    first | exact ⟨rfl, HB.out _ _ _ _ _⟩ | exact ⟨ret_bool (decide_eq_false (by omega)), HB.out _ _ _ _ _⟩
  subst h20
  obtain rfl : r = true := by rw [hr]; exact okA_yes (by unfold OkA TestW; omega)
  clear hr
  go_enter Try.func105, Try.ntmps105
  go_wp2_with (first | ((with_reducible refine (HNO.out _).mono ?_); rintro e w' ⟨rfl, rfl⟩) | ((with_reducible refine (HTE.out _).mono ?_); rintro e w' ⟨rfl, rfl⟩) | ((with_reducible refine (HIA.out _).mono ?_); rintro e w' ⟨rfl, rfl⟩))
  go_ret
  exact ⟨rfl, HB.out _ _ _ _ _⟩
set_option maxHeartbeats 8000000 in
theorem spec_l7Want (kd no nm : Int) (tx : ByteArray) (a b : Int) (i : Nat) (w : World) (hi : i ≤ 1000000) : Calls Try.prog 109 #[.agg #[.int .i64 kd, .int .i64 no, .int .i64 nm, .string tx, .int .i64 a, .int .i64 b], .int .i64 (i : Int)] w fun e w' => e = .returned (.bool (okW ⟨kd, no, nm, tx, a, b⟩ i)) ∧ Below w.heap.size w w' := by
  obtain ⟨r, hr⟩ : ∃ r, r = okW ⟨kd, no, nm, tx, a, b⟩ i := ⟨_, rfl⟩
  rw [← hr]
  have HB := Lib.hid (fun kd no nm a b => (Below.refl w.heap.size w).alloc (Nat.le_refl _) (.cells #[.int .i64 kd, .int .i64 no, .int .i64 nm, .string tx, .int .i64 a, .int .i64 b] 134))
  have HK1 := Lib.hid (fun wx => spec_in kd 1 5 wx)
  have HK2 := Lib.hid (fun wx => spec_in kd 6 7 wx)
  have HNO := Lib.hid (fun wx => spec_in no 0 30 wx)
  have HNU := Lib.hid (fun wx => spec_number nm wx)
  by_cases hl : 1 ≤ kd ∧ kd ≤ 5
  case pos =>
    rw [inR_iff.2 hl] at HK1
    by_cases hn : no = 0
    case pos =>
      subst hn
      obtain rfl : r = false := by rw [hr]; exact okA_no (by unfold OkA TestW; omega)
      clear hr
      go_enter Try.func109, Try.ntmps109
      go_wp2_with (first | ((with_reducible refine (HK1.out _).mono ?_); rintro e w' ⟨rfl, rfl⟩) | ((with_reducible refine (HK2.out _).mono ?_); rintro e w' ⟨rfl, rfl⟩) | ((with_reducible refine (HNO.out _).mono ?_); rintro e w' ⟨rfl, rfl⟩) | ((with_reducible refine (HNU.out _).mono ?_); rintro e w' ⟨rfl, rfl⟩))
      go_ret
      first | exact ⟨rfl, HB.out _ _ _ _ _⟩ | exact ⟨ret_bool (decide_eq_false (by omega)), HB.out _ _ _ _ _⟩
    have kn := bne_iff_ne.2 hn
    by_cases h21 : 0 ≤ no ∧ no ≤ 30
    case neg =>
      rw [inR_f.2 h21] at HNO
      obtain rfl : r = false := by rw [hr]; exact okA_no (by unfold OkA TestW; omega)
      clear hr
      go_enter Try.func109, Try.ntmps109
      go_wp2_with (first | ((with_reducible refine (HK1.out _).mono ?_); rintro e w' ⟨rfl, rfl⟩) | ((with_reducible refine (HK2.out _).mono ?_); rintro e w' ⟨rfl, rfl⟩) | ((with_reducible refine (HNO.out _).mono ?_); rintro e w' ⟨rfl, rfl⟩) | ((with_reducible refine (HNU.out _).mono ?_); rintro e w' ⟨rfl, rfl⟩))
      go_ret
      first | exact ⟨rfl, HB.out _ _ _ _ _⟩ | exact ⟨ret_bool (decide_eq_false (by omega)), HB.out _ _ _ _ _⟩
    rw [inR_iff.2 h21] at HNO
    by_cases h22 : ¬ (tx.size : Int) > 30
    case neg =>
      obtain rfl : r = false := by rw [hr]; exact okA_no (by unfold OkA TestW; omega)
      clear hr
      go_enter Try.func109, Try.ntmps109
      go_wp2_with (first | ((with_reducible refine (HK1.out _).mono ?_); rintro e w' ⟨rfl, rfl⟩) | ((with_reducible refine (HK2.out _).mono ?_); rintro e w' ⟨rfl, rfl⟩) | ((with_reducible refine (HNO.out _).mono ?_); rintro e w' ⟨rfl, rfl⟩) | ((with_reducible refine (HNU.out _).mono ?_); rintro e w' ⟨rfl, rfl⟩))
      go_ret
      first | exact ⟨rfl, HB.out _ _ _ _ _⟩ | exact ⟨ret_bool (decide_eq_false (by omega)), HB.out _ _ _ _ _⟩
    by_cases h23 : -1000000000 ≤ nm ∧ nm ≤ 1000000000
    case neg =>
      rw [inR_f.2 h23] at HNU
      obtain rfl : r = false := by rw [hr]; exact okA_no (by unfold OkA TestW; omega)
      clear hr
      go_enter Try.func109, Try.ntmps109
      go_wp2_with (first | ((with_reducible refine (HK1.out _).mono ?_); rintro e w' ⟨rfl, rfl⟩) | ((with_reducible refine (HK2.out _).mono ?_); rintro e w' ⟨rfl, rfl⟩) | ((with_reducible refine (HNO.out _).mono ?_); rintro e w' ⟨rfl, rfl⟩) | ((with_reducible refine (HNU.out _).mono ?_); rintro e w' ⟨rfl, rfl⟩))
      go_ret
      first | exact ⟨rfl, HB.out _ _ _ _ _⟩ | exact ⟨ret_bool (decide_eq_false (by omega)), HB.out _ _ _ _ _⟩
    rw [inR_iff.2 h23] at HNU
    by_cases c4 : kd = 4
    case pos =>
      subst c4
      by_cases h24 : nm = 0
      case neg =>
        have kh24 := kind_eq h24
        have nh24 := bne_iff_ne.2 h24
        obtain rfl : r = false := by rw [hr]; exact okA_no (by unfold OkA TestW; omega)
        clear hr
        go_enter Try.func109, Try.ntmps109
        go_wp2_with (first | ((with_reducible refine (HK1.out _).mono ?_); rintro e w' ⟨rfl, rfl⟩) | ((with_reducible refine (HK2.out _).mono ?_); rintro e w' ⟨rfl, rfl⟩) | ((with_reducible refine (HNO.out _).mono ?_); rintro e w' ⟨rfl, rfl⟩) | ((with_reducible refine (HNU.out _).mono ?_); rintro e w' ⟨rfl, rfl⟩))
        go_ret
        first | exact ⟨rfl, HB.out _ _ _ _ _⟩ | exact ⟨ret_bool (decide_eq_false (by omega)), HB.out _ _ _ _ _⟩
      subst h24
      by_cases h25 : tx.size = 0
      case neg =>
        have kh25 := emp_no h25
        obtain rfl : r = false := by rw [hr]; exact okA_no (by unfold OkA TestW; omega)
        clear hr
        go_enter Try.func109, Try.ntmps109
        go_wp2_with (first | ((with_reducible refine (HK1.out _).mono ?_); rintro e w' ⟨rfl, rfl⟩) | ((with_reducible refine (HK2.out _).mono ?_); rintro e w' ⟨rfl, rfl⟩) | ((with_reducible refine (HNO.out _).mono ?_); rintro e w' ⟨rfl, rfl⟩) | ((with_reducible refine (HNU.out _).mono ?_); rintro e w' ⟨rfl, rfl⟩))
        go_ret
        first | exact ⟨rfl, HB.out _ _ _ _ _⟩ | exact ⟨ret_bool (decide_eq_false (by omega)), HB.out _ _ _ _ _⟩
      have kh25 := emp_yes h25
      by_cases h26 : a = 0
      case neg =>
        have kh26 := kind_eq h26
        have nh26 := bne_iff_ne.2 h26
        obtain rfl : r = false := by rw [hr]; exact okA_no (by unfold OkA TestW; omega)
        clear hr
        go_enter Try.func109, Try.ntmps109
        go_wp2_with (first | ((with_reducible refine (HK1.out _).mono ?_); rintro e w' ⟨rfl, rfl⟩) | ((with_reducible refine (HK2.out _).mono ?_); rintro e w' ⟨rfl, rfl⟩) | ((with_reducible refine (HNO.out _).mono ?_); rintro e w' ⟨rfl, rfl⟩) | ((with_reducible refine (HNU.out _).mono ?_); rintro e w' ⟨rfl, rfl⟩))
        go_ret
        first | exact ⟨rfl, HB.out _ _ _ _ _⟩ | exact ⟨ret_bool (decide_eq_false (by omega)), HB.out _ _ _ _ _⟩
      subst h26
      by_cases h27 : b = 0
      case neg =>
        have kh27 := kind_eq h27
        have nh27 := bne_iff_ne.2 h27
        obtain rfl : r = false := by rw [hr]; exact okA_no (by unfold OkA TestW; omega)
        clear hr
        go_enter Try.func109, Try.ntmps109
        go_wp2_with (first | ((with_reducible refine (HK1.out _).mono ?_); rintro e w' ⟨rfl, rfl⟩) | ((with_reducible refine (HK2.out _).mono ?_); rintro e w' ⟨rfl, rfl⟩) | ((with_reducible refine (HNO.out _).mono ?_); rintro e w' ⟨rfl, rfl⟩) | ((with_reducible refine (HNU.out _).mono ?_); rintro e w' ⟨rfl, rfl⟩))
        go_ret
        first | exact ⟨rfl, HB.out _ _ _ _ _⟩ | exact ⟨ret_bool (decide_eq_false (by omega)), HB.out _ _ _ _ _⟩
      subst h27
      obtain rfl : r = true := by rw [hr]; exact okA_yes (by unfold OkA TestW; omega)
      clear hr
      go_enter Try.func109, Try.ntmps109
      go_wp2_with (first | ((with_reducible refine (HK1.out _).mono ?_); rintro e w' ⟨rfl, rfl⟩) | ((with_reducible refine (HK2.out _).mono ?_); rintro e w' ⟨rfl, rfl⟩) | ((with_reducible refine (HNO.out _).mono ?_); rintro e w' ⟨rfl, rfl⟩) | ((with_reducible refine (HNU.out _).mono ?_); rintro e w' ⟨rfl, rfl⟩))
      go_ret
      exact ⟨rfl, HB.out _ _ _ _ _⟩
    by_cases c5 : kd = 5
    case pos =>
      subst c5
      by_cases h28 : nm = 0
      case neg =>
        have kh28 := kind_eq h28
        have nh28 := bne_iff_ne.2 h28
        obtain rfl : r = false := by rw [hr]; exact okA_no (by unfold OkA TestW; omega)
        clear hr
        go_enter Try.func109, Try.ntmps109
        go_wp2_with (first | ((with_reducible refine (HK1.out _).mono ?_); rintro e w' ⟨rfl, rfl⟩) | ((with_reducible refine (HK2.out _).mono ?_); rintro e w' ⟨rfl, rfl⟩) | ((with_reducible refine (HNO.out _).mono ?_); rintro e w' ⟨rfl, rfl⟩) | ((with_reducible refine (HNU.out _).mono ?_); rintro e w' ⟨rfl, rfl⟩))
        go_ret
        first | exact ⟨rfl, HB.out _ _ _ _ _⟩ | exact ⟨ret_bool (decide_eq_false (by omega)), HB.out _ _ _ _ _⟩
      subst h28
      by_cases h29 : a = 0
      case neg =>
        have kh29 := kind_eq h29
        have nh29 := bne_iff_ne.2 h29
        obtain rfl : r = false := by rw [hr]; exact okA_no (by unfold OkA TestW; omega)
        clear hr
        go_enter Try.func109, Try.ntmps109
        go_wp2_with (first | ((with_reducible refine (HK1.out _).mono ?_); rintro e w' ⟨rfl, rfl⟩) | ((with_reducible refine (HK2.out _).mono ?_); rintro e w' ⟨rfl, rfl⟩) | ((with_reducible refine (HNO.out _).mono ?_); rintro e w' ⟨rfl, rfl⟩) | ((with_reducible refine (HNU.out _).mono ?_); rintro e w' ⟨rfl, rfl⟩))
        go_ret
        first | exact ⟨rfl, HB.out _ _ _ _ _⟩ | exact ⟨ret_bool (decide_eq_false (by omega)), HB.out _ _ _ _ _⟩
      subst h29
      by_cases h30 : b = 0
      case neg =>
        have kh30 := kind_eq h30
        have nh30 := bne_iff_ne.2 h30
        obtain rfl : r = false := by rw [hr]; exact okA_no (by unfold OkA TestW; omega)
        clear hr
        go_enter Try.func109, Try.ntmps109
        go_wp2_with (first | ((with_reducible refine (HK1.out _).mono ?_); rintro e w' ⟨rfl, rfl⟩) | ((with_reducible refine (HK2.out _).mono ?_); rintro e w' ⟨rfl, rfl⟩) | ((with_reducible refine (HNO.out _).mono ?_); rintro e w' ⟨rfl, rfl⟩) | ((with_reducible refine (HNU.out _).mono ?_); rintro e w' ⟨rfl, rfl⟩))
        go_ret
        first | exact ⟨rfl, HB.out _ _ _ _ _⟩ | exact ⟨ret_bool (decide_eq_false (by omega)), HB.out _ _ _ _ _⟩
      subst h30
      obtain rfl : r = true := by rw [hr]; exact okA_yes (by unfold OkA TestW; omega)
      clear hr
      go_enter Try.func109, Try.ntmps109
      go_wp2_with (first | ((with_reducible refine (HK1.out _).mono ?_); rintro e w' ⟨rfl, rfl⟩) | ((with_reducible refine (HK2.out _).mono ?_); rintro e w' ⟨rfl, rfl⟩) | ((with_reducible refine (HNO.out _).mono ?_); rintro e w' ⟨rfl, rfl⟩) | ((with_reducible refine (HNU.out _).mono ?_); rintro e w' ⟨rfl, rfl⟩))
      go_ret
      exact ⟨rfl, HB.out _ _ _ _ _⟩
    have c3 : ¬ kd > 3 := by omega
    have k5 := bne_iff_ne.2 c5
    by_cases h31 : tx.size = 0
    case neg =>
      have kh31 := emp_no h31
      obtain rfl : r = false := by rw [hr]; exact okA_no (by unfold OkA TestW; omega)
      clear hr
      go_enter Try.func109, Try.ntmps109
      go_wp2_with (first | ((with_reducible refine (HK1.out _).mono ?_); rintro e w' ⟨rfl, rfl⟩) | ((with_reducible refine (HK2.out _).mono ?_); rintro e w' ⟨rfl, rfl⟩) | ((with_reducible refine (HNO.out _).mono ?_); rintro e w' ⟨rfl, rfl⟩) | ((with_reducible refine (HNU.out _).mono ?_); rintro e w' ⟨rfl, rfl⟩))
      go_ret
      first | exact ⟨rfl, HB.out _ _ _ _ _⟩ | exact ⟨ret_bool (decide_eq_false (by omega)), HB.out _ _ _ _ _⟩
    have kh31 := emp_yes h31
    by_cases h32 : a = 0
    case neg =>
      have kh32 := kind_eq h32
      have nh32 := bne_iff_ne.2 h32
      obtain rfl : r = false := by rw [hr]; exact okA_no (by unfold OkA TestW; omega)
      clear hr
      go_enter Try.func109, Try.ntmps109
      go_wp2_with (first | ((with_reducible refine (HK1.out _).mono ?_); rintro e w' ⟨rfl, rfl⟩) | ((with_reducible refine (HK2.out _).mono ?_); rintro e w' ⟨rfl, rfl⟩) | ((with_reducible refine (HNO.out _).mono ?_); rintro e w' ⟨rfl, rfl⟩) | ((with_reducible refine (HNU.out _).mono ?_); rintro e w' ⟨rfl, rfl⟩))
      go_ret
      first | exact ⟨rfl, HB.out _ _ _ _ _⟩ | exact ⟨ret_bool (decide_eq_false (by omega)), HB.out _ _ _ _ _⟩
    subst h32
    by_cases h33 : b = 0
    case neg =>
      have kh33 := kind_eq h33
      have nh33 := bne_iff_ne.2 h33
      obtain rfl : r = false := by rw [hr]; exact okA_no (by unfold OkA TestW; omega)
      clear hr
      go_enter Try.func109, Try.ntmps109
      go_wp2_with (first | ((with_reducible refine (HK1.out _).mono ?_); rintro e w' ⟨rfl, rfl⟩) | ((with_reducible refine (HK2.out _).mono ?_); rintro e w' ⟨rfl, rfl⟩) | ((with_reducible refine (HNO.out _).mono ?_); rintro e w' ⟨rfl, rfl⟩) | ((with_reducible refine (HNU.out _).mono ?_); rintro e w' ⟨rfl, rfl⟩))
      go_ret
      first | exact ⟨rfl, HB.out _ _ _ _ _⟩ | exact ⟨ret_bool (decide_eq_false (by omega)), HB.out _ _ _ _ _⟩
    subst h33
    obtain rfl : r = true := by rw [hr]; exact okA_yes (by unfold OkA TestW; omega)
    clear hr
    go_enter Try.func109, Try.ntmps109
    go_wp2_with (first | ((with_reducible refine (HK1.out _).mono ?_); rintro e w' ⟨rfl, rfl⟩) | ((with_reducible refine (HK2.out _).mono ?_); rintro e w' ⟨rfl, rfl⟩) | ((with_reducible refine (HNO.out _).mono ?_); rintro e w' ⟨rfl, rfl⟩) | ((with_reducible refine (HNU.out _).mono ?_); rintro e w' ⟨rfl, rfl⟩))
    go_ret
    exact ⟨rfl, HB.out _ _ _ _ _⟩
  rw [inR_f.2 hl] at HK1
  by_cases hn : no = 0
  case neg =>
    have kn := bne_iff_ne.2 hn
    obtain rfl : r = false := by rw [hr]; exact okA_no (by unfold OkA TestW; omega)
    clear hr
    go_enter Try.func109, Try.ntmps109
    go_wp2_with (first | ((with_reducible refine (HK1.out _).mono ?_); rintro e w' ⟨rfl, rfl⟩) | ((with_reducible refine (HK2.out _).mono ?_); rintro e w' ⟨rfl, rfl⟩) | ((with_reducible refine (HNO.out _).mono ?_); rintro e w' ⟨rfl, rfl⟩) | ((with_reducible refine (HNU.out _).mono ?_); rintro e w' ⟨rfl, rfl⟩))
    go_ret
    first | exact ⟨rfl, HB.out _ _ _ _ _⟩ | exact ⟨ret_bool (decide_eq_false (by omega)), HB.out _ _ _ _ _⟩
  subst hn
  rw [show inR 0 0 30 = true from rfl] at HNO
  by_cases h34 : ¬ (tx.size : Int) > 30
  case neg =>
    obtain rfl : r = false := by rw [hr]; exact okA_no (by unfold OkA TestW; omega)
    clear hr
    go_enter Try.func109, Try.ntmps109
    go_wp2_with (first | ((with_reducible refine (HK1.out _).mono ?_); rintro e w' ⟨rfl, rfl⟩) | ((with_reducible refine (HK2.out _).mono ?_); rintro e w' ⟨rfl, rfl⟩) | ((with_reducible refine (HNO.out _).mono ?_); rintro e w' ⟨rfl, rfl⟩) | ((with_reducible refine (HNU.out _).mono ?_); rintro e w' ⟨rfl, rfl⟩))
    go_ret
    first | exact ⟨rfl, HB.out _ _ _ _ _⟩ | exact ⟨ret_bool (decide_eq_false (by omega)), HB.out _ _ _ _ _⟩
  by_cases h35 : -1000000000 ≤ nm ∧ nm ≤ 1000000000
  case neg =>
    rw [inR_f.2 h35] at HNU
    obtain rfl : r = false := by rw [hr]; exact okA_no (by unfold OkA TestW; omega)
    clear hr
    go_enter Try.func109, Try.ntmps109
    go_wp2_with (first | ((with_reducible refine (HK1.out _).mono ?_); rintro e w' ⟨rfl, rfl⟩) | ((with_reducible refine (HK2.out _).mono ?_); rintro e w' ⟨rfl, rfl⟩) | ((with_reducible refine (HNO.out _).mono ?_); rintro e w' ⟨rfl, rfl⟩) | ((with_reducible refine (HNU.out _).mono ?_); rintro e w' ⟨rfl, rfl⟩))
    go_ret
    first | exact ⟨rfl, HB.out _ _ _ _ _⟩ | exact ⟨ret_bool (decide_eq_false (by omega)), HB.out _ _ _ _ _⟩
  rw [inR_iff.2 h35] at HNU
  by_cases c3 : kd > 3
  case neg =>
    have k5 := bne_iff_ne.2 (show ¬ kd = 5 by omega)
    have k8 := kind_eq (show ¬ kd = 8 by omega)
    rw [inR_f.2 (show ¬ (6 ≤ kd ∧ kd ≤ 7) by omega)] at HK2
    by_cases h36 : tx.size = 0
    case neg =>
      have kh36 := emp_no h36
      obtain rfl : r = false := by rw [hr]; exact okA_no (by unfold OkA TestW; omega)
      clear hr
      go_enter Try.func109, Try.ntmps109
      go_wp2_with (first | ((with_reducible refine (HK1.out _).mono ?_); rintro e w' ⟨rfl, rfl⟩) | ((with_reducible refine (HK2.out _).mono ?_); rintro e w' ⟨rfl, rfl⟩) | ((with_reducible refine (HNO.out _).mono ?_); rintro e w' ⟨rfl, rfl⟩) | ((with_reducible refine (HNU.out _).mono ?_); rintro e w' ⟨rfl, rfl⟩))
      go_ret
      first | exact ⟨rfl, HB.out _ _ _ _ _⟩ | exact ⟨ret_bool (decide_eq_false (by omega)), HB.out _ _ _ _ _⟩
    have kh36 := emp_yes h36
    obtain rfl : r = false := by rw [hr]; exact okA_no (by unfold OkA TestW; omega)
    clear hr
    go_enter Try.func109, Try.ntmps109
    go_wp2_with (first | ((with_reducible refine (HK1.out _).mono ?_); rintro e w' ⟨rfl, rfl⟩) | ((with_reducible refine (HK2.out _).mono ?_); rintro e w' ⟨rfl, rfl⟩) | ((with_reducible refine (HNO.out _).mono ?_); rintro e w' ⟨rfl, rfl⟩) | ((with_reducible refine (HNU.out _).mono ?_); rintro e w' ⟨rfl, rfl⟩))
    go_ret
    first | exact ⟨rfl, HB.out _ _ _ _ _⟩ | exact ⟨ret_bool (decide_eq_false (by omega)), HB.out _ _ _ _ _⟩
  have k5 := bne_iff_ne.2 (show ¬ kd = 5 by omega)
  by_cases h37 : nm = 0
  case neg =>
    have kh37 := kind_eq h37
    have nh37 := bne_iff_ne.2 h37
    obtain rfl : r = false := by rw [hr]; exact okA_no (by unfold OkA TestW; omega)
    clear hr
    go_enter Try.func109, Try.ntmps109
    go_wp2_with (first | ((with_reducible refine (HK1.out _).mono ?_); rintro e w' ⟨rfl, rfl⟩) | ((with_reducible refine (HK2.out _).mono ?_); rintro e w' ⟨rfl, rfl⟩) | ((with_reducible refine (HNO.out _).mono ?_); rintro e w' ⟨rfl, rfl⟩) | ((with_reducible refine (HNU.out _).mono ?_); rintro e w' ⟨rfl, rfl⟩))
    go_ret
    first | exact ⟨rfl, HB.out _ _ _ _ _⟩ | exact ⟨ret_bool (decide_eq_false (by omega)), HB.out _ _ _ _ _⟩
  subst h37
  by_cases h38 : tx.size = 0
  case neg =>
    have kh38 := emp_no h38
    obtain rfl : r = false := by rw [hr]; exact okA_no (by unfold OkA TestW; omega)
    clear hr
    go_enter Try.func109, Try.ntmps109
    go_wp2_with (first | ((with_reducible refine (HK1.out _).mono ?_); rintro e w' ⟨rfl, rfl⟩) | ((with_reducible refine (HK2.out _).mono ?_); rintro e w' ⟨rfl, rfl⟩) | ((with_reducible refine (HNO.out _).mono ?_); rintro e w' ⟨rfl, rfl⟩) | ((with_reducible refine (HNU.out _).mono ?_); rintro e w' ⟨rfl, rfl⟩))
    go_ret
    first | exact ⟨rfl, HB.out _ _ _ _ _⟩ | exact ⟨ret_bool (decide_eq_false (by omega)), HB.out _ _ _ _ _⟩
  have kh38 := emp_yes h38
  by_cases c8 : kd = 8
  case pos =>
    subst c8
    by_cases h39 : 0 ≤ a
    case neg =>
      obtain rfl : r = false := by rw [hr]; exact okA_no (by unfold OkA TestW; omega)
      clear hr
      go_enter Try.func109, Try.ntmps109
      go_wp2_with (first | ((with_reducible refine (HK1.out _).mono ?_); rintro e w' ⟨rfl, rfl⟩) | ((with_reducible refine (HK2.out _).mono ?_); rintro e w' ⟨rfl, rfl⟩) | ((with_reducible refine (HNO.out _).mono ?_); rintro e w' ⟨rfl, rfl⟩) | ((with_reducible refine (HNU.out _).mono ?_); rintro e w' ⟨rfl, rfl⟩))
      go_ret
      first | exact ⟨rfl, HB.out _ _ _ _ _⟩ | exact ⟨ret_bool (decide_eq_false (by omega)), HB.out _ _ _ _ _⟩
    by_cases h40 : a < (i : Int)
    case neg =>
      obtain rfl : r = false := by rw [hr]; exact okA_no (by unfold OkA TestW; omega)
      clear hr
      go_enter Try.func109, Try.ntmps109
      go_wp2_with (first | ((with_reducible refine (HK1.out _).mono ?_); rintro e w' ⟨rfl, rfl⟩) | ((with_reducible refine (HK2.out _).mono ?_); rintro e w' ⟨rfl, rfl⟩) | ((with_reducible refine (HNO.out _).mono ?_); rintro e w' ⟨rfl, rfl⟩) | ((with_reducible refine (HNU.out _).mono ?_); rintro e w' ⟨rfl, rfl⟩))
      go_ret
      first | exact ⟨rfl, HB.out _ _ _ _ _⟩ | exact ⟨ret_bool (decide_eq_false (by omega)), HB.out _ _ _ _ _⟩
    by_cases h41 : b = 0
    case neg =>
      have kh41 := kind_eq h41
      have nh41 := bne_iff_ne.2 h41
      obtain rfl : r = false := by rw [hr]; exact okA_no (by unfold OkA TestW; omega)
      clear hr
      go_enter Try.func109, Try.ntmps109
      go_wp2_with (first | ((with_reducible refine (HK1.out _).mono ?_); rintro e w' ⟨rfl, rfl⟩) | ((with_reducible refine (HK2.out _).mono ?_); rintro e w' ⟨rfl, rfl⟩) | ((with_reducible refine (HNO.out _).mono ?_); rintro e w' ⟨rfl, rfl⟩) | ((with_reducible refine (HNU.out _).mono ?_); rintro e w' ⟨rfl, rfl⟩))
      go_ret
      first | exact ⟨rfl, HB.out _ _ _ _ _⟩ | exact ⟨ret_bool (decide_eq_false (by omega)), HB.out _ _ _ _ _⟩
    subst h41
    obtain rfl : r = true := by rw [hr]; exact okA_yes (by unfold OkA TestW; omega)
    clear hr
    go_enter Try.func109, Try.ntmps109
    go_wp2_with (first | ((with_reducible refine (HK1.out _).mono ?_); rintro e w' ⟨rfl, rfl⟩) | ((with_reducible refine (HK2.out _).mono ?_); rintro e w' ⟨rfl, rfl⟩) | ((with_reducible refine (HNO.out _).mono ?_); rintro e w' ⟨rfl, rfl⟩) | ((with_reducible refine (HNU.out _).mono ?_); rintro e w' ⟨rfl, rfl⟩))
    go_ret
    exact ⟨rfl, HB.out _ _ _ _ _⟩
  have k8 := kind_eq c8
  by_cases h42 : 6 ≤ kd ∧ kd ≤ 7
  case neg =>
    rw [inR_f.2 h42] at HK2
    obtain rfl : r = false := by rw [hr]; exact okA_no (by unfold OkA TestW; omega)
    clear hr
    go_enter Try.func109, Try.ntmps109
    go_wp2_with (first | ((with_reducible refine (HK1.out _).mono ?_); rintro e w' ⟨rfl, rfl⟩) | ((with_reducible refine (HK2.out _).mono ?_); rintro e w' ⟨rfl, rfl⟩) | ((with_reducible refine (HNO.out _).mono ?_); rintro e w' ⟨rfl, rfl⟩) | ((with_reducible refine (HNU.out _).mono ?_); rintro e w' ⟨rfl, rfl⟩))
    go_ret
    first | exact ⟨rfl, HB.out _ _ _ _ _⟩ | exact ⟨ret_bool (decide_eq_false (by omega)), HB.out _ _ _ _ _⟩
  rw [inR_iff.2 h42] at HK2
  by_cases h43 : 0 ≤ a
  case neg =>
    obtain rfl : r = false := by rw [hr]; exact okA_no (by unfold OkA TestW; omega)
    clear hr
    go_enter Try.func109, Try.ntmps109
    go_wp2_with (first | ((with_reducible refine (HK1.out _).mono ?_); rintro e w' ⟨rfl, rfl⟩) | ((with_reducible refine (HK2.out _).mono ?_); rintro e w' ⟨rfl, rfl⟩) | ((with_reducible refine (HNO.out _).mono ?_); rintro e w' ⟨rfl, rfl⟩) | ((with_reducible refine (HNU.out _).mono ?_); rintro e w' ⟨rfl, rfl⟩))
    go_ret
    first | exact ⟨rfl, HB.out _ _ _ _ _⟩ | exact ⟨ret_bool (decide_eq_false (by omega)), HB.out _ _ _ _ _⟩
  by_cases h44 : a < b
  case neg =>
    obtain rfl : r = false := by rw [hr]; exact okA_no (by unfold OkA TestW; omega)
    clear hr
    go_enter Try.func109, Try.ntmps109
    go_wp2_with (first | ((with_reducible refine (HK1.out _).mono ?_); rintro e w' ⟨rfl, rfl⟩) | ((with_reducible refine (HK2.out _).mono ?_); rintro e w' ⟨rfl, rfl⟩) | ((with_reducible refine (HNO.out _).mono ?_); rintro e w' ⟨rfl, rfl⟩) | ((with_reducible refine (HNU.out _).mono ?_); rintro e w' ⟨rfl, rfl⟩))
    go_ret
    first | exact ⟨rfl, HB.out _ _ _ _ _⟩ | exact ⟨ret_bool (decide_eq_false (by omega)), HB.out _ _ _ _ _⟩
  by_cases h45 : b < (i : Int)
  case neg =>
    obtain rfl : r = false := by rw [hr]; exact okA_no (by unfold OkA TestW; omega)
    clear hr
    go_enter Try.func109, Try.ntmps109
    go_wp2_with (first | ((with_reducible refine (HK1.out _).mono ?_); rintro e w' ⟨rfl, rfl⟩) | ((with_reducible refine (HK2.out _).mono ?_); rintro e w' ⟨rfl, rfl⟩) | ((with_reducible refine (HNO.out _).mono ?_); rintro e w' ⟨rfl, rfl⟩) | ((with_reducible refine (HNU.out _).mono ?_); rintro e w' ⟨rfl, rfl⟩))
    go_ret
    first | exact ⟨rfl, HB.out _ _ _ _ _⟩ | exact ⟨ret_bool (decide_eq_false (by omega)), HB.out _ _ _ _ _⟩
  obtain rfl : r = true := by rw [hr]; exact okA_yes (by unfold OkA TestW; omega)
  clear hr
  go_enter Try.func109, Try.ntmps109
  go_wp2_with (first | ((with_reducible refine (HK1.out _).mono ?_); rintro e w' ⟨rfl, rfl⟩) | ((with_reducible refine (HK2.out _).mono ?_); rintro e w' ⟨rfl, rfl⟩) | ((with_reducible refine (HNO.out _).mono ?_); rintro e w' ⟨rfl, rfl⟩) | ((with_reducible refine (HNU.out _).mono ?_); rintro e w' ⟨rfl, rfl⟩))
  go_ret
  exact ⟨rfl, HB.out _ _ _ _ _⟩
end Go.Proofs.Ytlmgckijbamgpaa
