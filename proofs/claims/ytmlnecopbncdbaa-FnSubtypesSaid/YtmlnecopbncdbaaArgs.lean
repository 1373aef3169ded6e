/- How the laws' arguments read, type by type. -/
import Derived.Test.YtmlnecopbncdbaaRead
namespace Go.Proofs.Ytmlnecopbncdbaa
set_option linter.unusedVariables false
set_option linter.unusedSimpArgs false
open Go.ChangeShapes Go.WideShapes Go.ChangeAt Go.RowKit
set_option maxRecDepth 100000

section
variable {H : Type} {enc : TypeId × Value → H} {W : World} {r : Reach} {b0 : Nat} {v : Value} {d : DataW H} {ps : List MemPlace}

def IsStrs (w : World) (v : Value) (ss : List ByteArray) : Prop := ∃ a cap, v = .slice a ss.length cap ∧ Rw w a (strs ss) ∧ ss.length ≤ cap ∧ cap ≤ maxLen ∧ ∀ s ∈ ss, s.size ≤ maxLen
theorem argStrs (hval : Value.okWide Try.prog W r b0 80 v) (h : DataW.Trod enc Try.prog W 0 (fun _ => true) true 80 v d ps) : ∃ ss, IsStrs W v ss := by
  obtain ⟨fuel, hf⟩ := h
  obtain ⟨ss, hs⟩ := (reads_slice Try.underlying80 (by kernel_rfl) (by omega) (reads_str Try.underlying9 (by kernel_rfl))).read hf
  obtain ⟨a, cap, h1, h2, h3, h3', h4⟩ := rSl_str hs
  exact ⟨ss, a, cap, arg_slice Try.underlying80 hval h1, h2, h3, h3', h4⟩
def IsBytes (w : World) (v : Value) (xs : List UInt8) : Prop := ∃ a cap, v = .slice a xs.length cap ∧ Rw w a (byts xs) ∧ xs.length ≤ cap ∧ cap ≤ maxLen
theorem argBytes (hval : Value.okWide Try.prog W r b0 35 v) (h : DataW.Trod enc Try.prog W 0 (fun _ => true) true 35 v d ps) : ∃ ss, IsBytes W v ss := by
  obtain ⟨fuel, hf⟩ := h
  obtain ⟨ss, hs⟩ := (reads_slice Try.underlying35 (by kernel_rfl) (by omega) (reads_byte Try.underlying5 (by kernel_rfl))).read hf
  obtain ⟨a, cap, h1, h2, h3, h3'⟩ := rSl_byte hs
  exact ⟨ss, a, cap, arg_slice Try.underlying35 hval h1, h2, h3, h3'⟩
end
end Go.Proofs.Ytmlnecopbncdbaa
