/- The contracts over logs: sums of nodes, where a log is cut, its root. Program and reference come to the same plain functions. -/
import Derived.Test.YtdhkagabkhepgaaRanges
import Derived.Test.YtdhkagabkhepgaaLeaf
namespace Go.Proofs.Ytdhkagabkhepgaa
set_option linter.unusedVariables false
open Go.ChangeShapes Go.WideShapes Go.ChangeAt Go.RowKit

def nodeS (a b : Int) : Int := (131 * a + 17 * b + 11) % 1000003
theorem nodeS_bd (a b : Int) : 0 ≤ nodeS a b ∧ nodeS a b ≤ 1000002 := by unfold nodeS; omega
def sumB (n : Int) : Bool := inB n 0 1000002
def NodeSumR (a b : Int) : Int × Bool := if sumB a && sumB b then (nodeS a b, true) else (0, false)

def splitF : Nat → Nat → Nat → Nat
  | 0, k, _ => k
  | f + 1, k, n => if 2 * k < n then splitF f (k * 2) n else k
def splitN (n : Nat) : Nat := splitF n 1 n
theorem splitF_bd : ∀ (f k n : Nat), 1 ≤ k → (k < n ∨ k = 1) → n ≤ k + f → 1 ≤ splitF f k n ∧ (2 ≤ n → splitF f k n < n)
  | 0, k, n, h, h1, h2 => by simp only [splitF]; omega
  | f + 1, k, n, h, h1, h2 => by
    unfold splitF
    by_cases hc : 2 * k < n
    · rw [if_pos hc]; exact splitF_bd f (k * 2) n (by omega) (by omega) (by omega)
    · rw [if_neg hc]; omega
theorem splitN_bd (n : Nat) : 1 ≤ splitN n ∧ (2 ≤ n → splitN n < n) := splitF_bd n 1 n (by omega) (by omega) (by omega)

theorem splitN_lt (n : Nat) (h : 2 ≤ n) : splitN n < n := (splitN_bd n).2 h
theorem splitN_pos (n : Nat) : 1 ≤ splitN n := (splitN_bd n).1

def rootL (l : List ByteArray) : Int :=
  match l with
  | [] => 1
  | [s] => leaf s.data.toList
  | a :: b :: r => nodeS (rootL ((a :: b :: r).take (splitN (a :: b :: r).length))) (rootL ((a :: b :: r).drop (splitN (a :: b :: r).length)))
termination_by l.length
decreasing_by
  · have := splitN_lt (a :: b :: r).length (by simp); rw [List.length_take]; omega
  · have := splitN_pos (a :: b :: r).length; rw [List.length_drop]; simp at this ⊢; omega

theorem rootL_two (l : List ByteArray) (h : 2 ≤ l.length) : rootL l = nodeS (rootL (l.take (splitN l.length))) (rootL (l.drop (splitN l.length))) := by
  match l, h with
  | a :: b :: r, _ => rw [rootL]
theorem rootL_one (l : List ByteArray) (h : l.length = 1) : rootL l = leaf (l.getD 0 ByteArray.empty).data.toList := by
  match l, h with
  | [a], _ => rw [rootL]; rfl
theorem rootL_nil (l : List ByteArray) (h : l.length = 0) : rootL l = 1 := by
  match l, h with
  | [], _ => rw [rootL]
theorem rootL_bd (l : List ByteArray) : 0 ≤ rootL l ∧ rootL l ≤ 1000002 := by
  match l with
  | [] => rw [rootL]; omega
  | [a] => rw [rootL]; exact leaf_bd _
  | a :: b :: r => rw [rootL]; exact nodeS_bd _ _

/-! ### walks -/
theorem spec_node (a b : Int) (w : World) (ha : 0 ≤ a ∧ a ≤ 1000002) (hb : 0 ≤ b ∧ b ≤ 1000002) :
    Calls Try.prog 48 #[.int .i64 a, .int .i64 b] w fun e w' => e = .returned (.int .i64 (nodeS a b)) ∧ w = w' := by
  obtain ⟨ha0, ha1⟩ := ha
  obtain ⟨hb0, hb1⟩ := hb
  go_enter Try.func48, Try.ntmps48
  go_wp2
  go_ret
  exact ⟨rfl, rfl⟩
theorem impl_node (a b : Int) (w : World) (ha : 0 ≤ a ∧ a ≤ 1000002) (hb : 0 ≤ b ∧ b ≤ 1000002) :
    Calls Try.prog 50 #[.int .i64 a, .int .i64 b] w fun e w' => e = .returned (.int .i64 (nodeS a b)) ∧ w = w' := by
  obtain ⟨ha0, ha1⟩ := ha
  obtain ⟨hb0, hb1⟩ := hb
  go_enter Try.func50, Try.ntmps50
  go_wp2
  go_ret
  exact ⟨rfl, rfl⟩
theorem spec_sum (a : Int) (w : World) : Calls Try.prog 47 #[.int .i64 a] w fun e w' => e = .returned (.bool (sumB a)) ∧ w = w' := by
  go_enter Try.func47, Try.ntmps47
  go_wp2_with (go_at_call 51; refine (l1In_any _ _ _ _).mono ?_; rintro e w' ⟨rfl, rfl⟩)
  go_ret
  exact ⟨rfl, rfl⟩
theorem impl_sum (a : Int) (w : World) : Calls Try.prog 49 #[.int .i64 a] w fun e w' => e = .returned (.bool (sumB a)) ∧ w = w' := by
  go_enter Try.func49, Try.ntmps49
  go_wp2_with (go_at_call 53; refine (within_any _ _ _ _).mono ?_; rintro e w' ⟨rfl, rfl⟩)
  go_ret
  exact ⟨rfl, rfl⟩
theorem spec_nodeSum (a b : Int) (w : World) : Calls Try.prog 15 #[.int .i64 a, .int .i64 b] w fun e w' => e = .returned (.tuple #[.int .i64 (NodeSumR a b).1, .bool (NodeSumR a b).2]) ∧ w = w' := by
  by_cases ha : sumB a = true
  · by_cases hb : sumB b = true
    · have hA := Lib.hid (inB_of ha)
      have hB := Lib.hid (inB_of hb)
      have hf : NodeSumR a b = (nodeS a b, true) := by unfold NodeSumR; simp [ha, hb]
      rw [hf]
      go_enter Try.func15, Try.ntmps15
      go_wp2_with (first | (go_at_call 47; refine (spec_sum _ _).mono ?_; rintro e w' ⟨rfl, rfl⟩) | (go_at_call 48; refine (spec_node _ _ _ hA.out hB.out).mono ?_; rintro e w' ⟨rfl, rfl⟩))
      go_ret2
      exact ⟨rfl, rfl⟩
    · have hb' : sumB b = false := by simpa using hb
      have hf : NodeSumR a b = (0, false) := by unfold NodeSumR; simp [hb']
      rw [hf]
      clear hb
      go_enter Try.func15, Try.ntmps15
      go_wp2_with (go_at_call 47; refine (spec_sum _ _).mono ?_; rintro e w' ⟨rfl, rfl⟩)
      go_ret2
      exact ⟨rfl, rfl⟩
  · have ha' : sumB a = false := by simpa using ha
    have hf : NodeSumR a b = (0, false) := by unfold NodeSumR; simp [ha']
    rw [hf]
    clear ha
    go_enter Try.func15, Try.ntmps15
    go_wp2_with (go_at_call 47; refine (spec_sum _ _).mono ?_; rintro e w' ⟨rfl, rfl⟩)
    go_ret2
    exact ⟨rfl, rfl⟩
theorem impl_nodeSum (a b : Int) (w : World) : Calls Try.prog 16 #[.int .i64 a, .int .i64 b] w fun e w' => e = .returned (.tuple #[.int .i64 (NodeSumR a b).1, .bool (NodeSumR a b).2]) ∧ w = w' := by
  by_cases ha : sumB a = true
  · by_cases hb : sumB b = true
    · have hA := Lib.hid (inB_of ha)
      have hB := Lib.hid (inB_of hb)
      have hf : NodeSumR a b = (nodeS a b, true) := by unfold NodeSumR; simp [ha, hb]
      rw [hf]
      go_enter Try.func16, Try.ntmps16
      go_wp2_with (first | (go_at_call 49; refine (impl_sum _ _).mono ?_; rintro e w' ⟨rfl, rfl⟩) | (go_at_call 50; refine (impl_node _ _ _ hA.out hB.out).mono ?_; rintro e w' ⟨rfl, rfl⟩))
      go_ret2
      exact ⟨rfl, rfl⟩
    · have hb' : sumB b = false := by simpa using hb
      have hf : NodeSumR a b = (0, false) := by unfold NodeSumR; simp [hb']
      rw [hf]
      clear hb
      go_enter Try.func16, Try.ntmps16
      go_wp2_with (go_at_call 49; refine (impl_sum _ _).mono ?_; rintro e w' ⟨rfl, rfl⟩)
      go_ret2
      exact ⟨rfl, rfl⟩
  · have ha' : sumB a = false := by simpa using ha
    have hf : NodeSumR a b = (0, false) := by unfold NodeSumR; simp [ha']
    rw [hf]
    clear ha
    go_enter Try.func16, Try.ntmps16
    go_wp2_with (go_at_call 49; refine (impl_sum _ _).mono ?_; rintro e w' ⟨rfl, rfl⟩)
    go_ret2
    exact ⟨rfl, rfl⟩

theorem spec_split (n : Nat) (w : World) (hn : n ≤ 1099511627776) : Calls Try.prog 52 #[.int .i64 (n : Int)] w fun e w' => e = .returned (.int .i64 (splitN n : Nat)) ∧ w = w' := by
  go_enter Try.func52, Try.ntmps52
  go_wp2
  go_loop [3] (fun kv => ∃ (f k : Nat), 1 ≤ k ∧ (k < n ∨ k = 1) ∧ n ≤ k + f ∧ Hid (splitF f k n = splitN n) ∧ kv = .int .i64 (k : Int)) (fun kv => n - (intOf kv).toNat)
  case atStart => exact ⟨n, 1, by omega, by omega, by omega, rfl, rfl⟩
  case round =>
    obtain ⟨f, k, hk1, hk2, hk3, HS, rfl⟩ := hrel
    by_cases hc : 2 * k < n
    · have hf : f = (f - 1) + 1 := by omega
      go_wp2
      go_round
      case rel => exact ⟨f - 1, k * 2, by omega, by omega, by omega, (by have h1 := HS.out; rw [hf, splitF, if_pos hc] at h1; exact h1), by go_num⟩
      case measure => simp [intOf]; omega
    · go_wp2
      go_ret
      refine ⟨ret_int ?_, rfl⟩
      have h1 := HS.out
      cases f with
      | zero => rw [splitF] at h1; rw [h1]
      | succ f => rw [splitF, if_neg hc] at h1; rw [h1]
theorem impl_split (n : Nat) (w : World) (hn : n ≤ 1099511627776) : Calls Try.prog 54 #[.int .i64 (n : Int)] w fun e w' => e = .returned (.int .i64 (splitN n : Nat)) ∧ w = w' := by
  go_enter Try.func54, Try.ntmps54
  go_wp2
  go_loop [3] (fun kv => ∃ (f k : Nat), 1 ≤ k ∧ (k < n ∨ k = 1) ∧ n ≤ k + f ∧ Hid (splitF f k n = splitN n) ∧ kv = .int .i64 (k : Int)) (fun kv => n - (intOf kv).toNat)
  case atStart => exact ⟨n, 1, by omega, by omega, by omega, rfl, rfl⟩
  case round =>
    obtain ⟨f, k, hk1, hk2, hk3, HS, rfl⟩ := hrel
    by_cases hc : 2 * k < n
    · have hf : f = (f - 1) + 1 := by omega
      go_wp2
      go_round
      case rel => exact ⟨f - 1, k * 2, by omega, by omega, by omega, (by have h1 := HS.out; rw [hf, splitF, if_pos hc] at h1; exact h1), by go_num⟩
      case measure => simp [intOf]; omega
    · go_wp2
      go_ret
      refine ⟨ret_int ?_, rfl⟩
      have h1 := HS.out
      cases f with
      | zero => rw [splitF] at h1; rw [h1]
      | succ f => rw [splitF, if_neg hc] at h1; rw [h1]

def SplitAtR (n : Int) : Int × Bool := if inB n 2 40 then (((splitN n.toNat : Nat) : Int), true) else (0, false)
theorem spec_splitAt (n : Int) (w : World) : Calls Try.prog 17 #[.int .i64 n] w fun e w' => e = .returned (.tuple #[.int .i64 (SplitAtR n).1, .bool (SplitAtR n).2]) ∧ w = w' := by
  by_cases ha : inB n 2 40 = true
  · have hb := inB_of ha
    have hf : SplitAtR n = (((splitN n.toNat : Nat) : Int), true) := by unfold SplitAtR; simp [ha]
    rw [hf]
    clear hf
    obtain ⟨m, rfl⟩ := Int.eq_ofNat_of_zero_le (show 0 ≤ n by omega)
    rw [Int.toNat_natCast]
    have hm : m ≤ 1099511627776 := by omega
    clear hb
    go_enter Try.func17, Try.ntmps17
    go_wp2_with (first | (go_at_call 51; refine (l1In_any _ _ _ _).mono ?_; rintro e w' ⟨rfl, rfl⟩) | (go_at_call 52; refine (spec_split m _ hm).mono ?_; rintro e w' ⟨rfl, rfl⟩))
    go_ret2
    exact ⟨rfl, rfl⟩
  · have ha' : inB n 2 40 = false := by simpa using ha
    have hf : SplitAtR n = (0, false) := by unfold SplitAtR; simp [ha']
    rw [hf]
    clear ha
    go_enter Try.func17, Try.ntmps17
    go_wp2_with (go_at_call 51; refine (l1In_any _ _ _ _).mono ?_; rintro e w' ⟨rfl, rfl⟩)
    go_ret2
    exact ⟨rfl, rfl⟩
theorem impl_splitAt (n : Int) (w : World) : Calls Try.prog 18 #[.int .i64 n] w fun e w' => e = .returned (.tuple #[.int .i64 (SplitAtR n).1, .bool (SplitAtR n).2]) ∧ w = w' := by
  by_cases ha : inB n 2 40 = true
  · have hb := inB_of ha
    have hf : SplitAtR n = (((splitN n.toNat : Nat) : Int), true) := by unfold SplitAtR; simp [ha]
    rw [hf]
    clear hf
    obtain ⟨m, rfl⟩ := Int.eq_ofNat_of_zero_le (show 0 ≤ n by omega)
    rw [Int.toNat_natCast]
    have hm : m ≤ 1099511627776 := by omega
    clear hb
    go_enter Try.func18, Try.ntmps18
    go_wp2_with (first | (go_at_call 53; refine (within_any _ _ _ _).mono ?_; rintro e w' ⟨rfl, rfl⟩) | (go_at_call 54; refine (impl_split m _ hm).mono ?_; rintro e w' ⟨rfl, rfl⟩))
    go_ret2
    exact ⟨rfl, rfl⟩
  · have ha' : inB n 2 40 = false := by simpa using ha
    have hf : SplitAtR n = (0, false) := by unfold SplitAtR; simp [ha']
    rw [hf]
    clear ha
    go_enter Try.func18, Try.ntmps18
    go_wp2_with (go_at_call 53; refine (within_any _ _ _ _).mono ?_; rintro e w' ⟨rfl, rfl⟩)
    go_ret2
    exact ⟨rfl, rfl⟩
end Go.Proofs.Ytdhkagabkhepgaa
