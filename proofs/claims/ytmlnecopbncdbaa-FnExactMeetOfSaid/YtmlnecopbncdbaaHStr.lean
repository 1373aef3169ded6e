/- The kind of texts. -/
import Derived.Test.YtmlnecopbncdbaaHBase
import Derived.Test.YtmlnecopbncdbaaMarkText
namespace Go.Proofs.Ytmlnecopbncdbaa
set_option linter.unusedVariables false
set_option linter.unusedSimpArgs false
open Go.ChangeShapes Go.WideShapes Go.ChangeAt Go.RowKit
def kStr : Kind ByteArray := kStrOf mt
theorem mtS_size : ∀ (f k : Nat) (s : ByteArray), (mtS f k s).size ≤ f + s.size
  | 0, _, s => by simp [mtS]
  | f + 1, k, s => by
    unfold mtS
    split
    · omega
    · have h := mtS_size f (k / 10) (dig1 (48 + (k : Int) % 10) ++ s)
      rw [ByteArray.size_append, dig1_size] at h
      omega
theorem mt_len {k : Nat} (h : k ≤ 16777216) : (mt k).size ≤ maxLen := by
  unfold mt maxLen
  rw [ByteArray.size_append]
  have h1 := mtS_size k k ByteArray.empty
  have h2 : ByteArray.empty.size = 0 := rfl
  have h3 : ({ data := #[109] } : ByteArray).size = 1 := rfl
  omega
theorem kStr_ok : kStr.Ok := kOf_ok _ _ _ _
end Go.Proofs.Ytmlnecopbncdbaa
