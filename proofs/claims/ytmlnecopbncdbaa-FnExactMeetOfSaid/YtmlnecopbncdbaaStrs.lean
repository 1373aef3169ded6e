/- The contracts of the laws' helpers over lists of texts: how much they hold, a copy of them, whether two are alike. -/
import Derived.Test.YtmlnecopbncdbaaBase
namespace Go.Proofs.Ytmlnecopbncdbaa
set_option linter.unusedVariables false
set_option linter.unusedSimpArgs false
open Go.ChangeShapes Go.WideShapes Go.ChangeAt Go.RowKit

/-! ### plain -/
def szFrom : Int → List ByteArray → Int
  | l, [] => l
  | l, s :: r => if l - (s.size : Int) < 0 then -1 else szFrom (l - s.size) r
def szStrs (l : Int) (ss : List ByteArray) : Int := if l - (ss.length : Int) < 0 then -1 else szFrom (l - ss.length) ss

theorem szFrom_sum : ∀ (ss : List ByteArray) (l : Int), 0 ≤ l → 0 ≤ szFrom l ss → ((ss.map ByteArray.size).sum : Int) ≤ l
  | [], l, h, _ => by simpa using h
  | s :: r, l, _, h1 => by
    unfold szFrom at h1
    by_cases hc : l - (s.size : Int) < 0
    · rw [if_pos hc] at h1; omega
    · rw [if_neg hc] at h1
      have := szFrom_sum r (l - s.size) (by omega) h1
      simp only [List.map_cons, List.sum_cons, Int.natCast_add]
      omega
theorem szStrs_ok {ss : List ByteArray} {l : Int} (_h : 0 ≤ l) (h1 : 0 ≤ szStrs l ss) : (ss.length : Int) + ((ss.map ByteArray.size).sum : Int) ≤ l := by
  unfold szStrs at h1
  by_cases hc : l - (ss.length : Int) < 0
  · rw [if_pos hc] at h1; omega
  · rw [if_neg hc] at h1
    have := szFrom_sum ss _ (by omega) h1
    omega
theorem szFrom_le : ∀ (ss : List ByteArray) (l : Int), 0 ≤ l → -1 ≤ szFrom l ss ∧ szFrom l ss ≤ l
  | [], l, h => by simp only [szFrom]; omega
  | s :: r, l, h => by
    unfold szFrom
    by_cases hc : l - (s.size : Int) < 0
    · rw [if_pos hc]; omega
    · rw [if_neg hc]
      have := szFrom_le r (l - s.size) (by omega)
      omega
theorem szStrs_le (ss : List ByteArray) (l : Int) (h : 0 ≤ l) : -1 ≤ szStrs l ss ∧ szStrs l ss ≤ l := by
  unfold szStrs
  by_cases hc : l - (ss.length : Int) < 0
  · rw [if_pos hc]; omega
  · rw [if_neg hc]
    have := szFrom_le ss (l - ss.length) (by omega)
    omega
theorem drop_getD (ss : List ByteArray) (k : Nat) (h : k < ss.length) : ss.drop k = ss.getD k ByteArray.empty :: ss.drop (k + 1) := by
  rw [List.drop_eq_getElem_cons h]; simp [h]
theorem size_le_sum (ss : List ByteArray) (k : Nat) : (ss.getD k ByteArray.empty).size ≤ (ss.map ByteArray.size).sum := by
  induction ss generalizing k with
  | nil => simp [ByteArray.empty, ByteArray.size, ByteArray.emptyWithCapacity]; rfl
  | cons s r ih =>
    cases k with
    | zero => simp
    | succ k => have := ih k; simp only [List.getD_cons_succ, List.map_cons, List.sum_cons]; omega

theorem strs_ne {ss : List ByteArray} {k : Nat} (h : k < ss.length) : strs ss ≠ [] := by
  intro e; have := congrArg List.length e; simp at this; rw [this] at h; simp at h

theorem Try.infoStr : (Try.prog.info? 9).map (fun i => (i.zero, i.size, i.bytes)) = some (some (.string ByteArray.empty), 1, 16) := by kernel_rfl

end Go.Proofs.Ytmlnecopbncdbaa
