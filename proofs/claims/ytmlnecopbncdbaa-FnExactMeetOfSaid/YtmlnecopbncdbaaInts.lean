/- The contracts of the laws' helpers over lists of numbers: how much they hold, a copy, whether two are alike, marks laid into one and looked for. -/
import Derived.Test.YtmlnecopbncdbaaBase
namespace Go.Proofs.Ytmlnecopbncdbaa
set_option linter.unusedVariables false
set_option linter.unusedSimpArgs false
open Go.ChangeShapes Go.WideShapes Go.ChangeAt Go.RowKit

def szInts (l : Int) (n : Nat) : Int := if l - (n : Int) < 0 then -1 else l - n
/-- k, k + 1 and so on, n of them. -/
def marks (k : Int) (n : Nat) : List Int := (List.range n).map fun (i : Nat) => k + (i : Int)
@[simp] theorem marks_length (k : Int) (n : Nat) : (marks k n).length = n := by simp [marks]
theorem marks_at (k : Int) (n i : Nat) (h : i < n) : (ints (marks k n))[i]? = some (.int .i64 (k + i)) := by simp [ints, marks, h]

theorem ints_ne {xs : List Int} {k : Nat} (h : k < xs.length) : ints xs ≠ [] := by
  intro e; have := congrArg List.length e; simp at this; rw [this] at h; simp at h

theorem Try.infoInt : (Try.prog.info? 3).map (fun i => (i.zero, i.size, i.bytes)) = some (some (.int .i64 0), 1, 8) := by kernel_rfl

theorem marks_set (k0 : Int) (xs : List Int) (k : Nat) (h : k < xs.length) :
    (ints (marks k0 k ++ xs.drop k)).set k (.int .i64 (k0 + k)) = ints (marks k0 (k + 1) ++ xs.drop (k + 1)) := by
  rw [List.drop_eq_getElem_cons h]
  generalize xs.drop (k + 1) = r
  generalize xs[k] = q
  simp [ints, marks, List.range_succ]

end Go.Proofs.Ytmlnecopbncdbaa
