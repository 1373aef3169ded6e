/- How the laws' arguments read, type by type. -/
import Derived.Test.YtdhkagabkhepgaaRead
namespace Go.Proofs.Ytdhkagabkhepgaa
set_option linter.unusedVariables false
open Go.ChangeShapes Go.WideShapes Go.ChangeAt Go.RowKit
set_option maxRecDepth 100000

section
variable {H : Type} {enc : TypeId × Value → H} {W : World} {r : Reach} {b0 : Nat} {v : Value} {d : DataW H} {ps : List MemPlace}

def IsStrs (w : World) (v : Value) (ss : List ByteArray) : Prop := ∃ a cap, v = .slice a ss.length cap ∧ Rw w a (strs ss) ∧ ss.length ≤ cap ∧ cap ≤ maxLen ∧ ∀ s ∈ ss, s.size ≤ maxLen
theorem argStrs (hval : Value.okWide Try.prog W r b0 29 v) (h : DataW.Trod enc Try.prog W 0 (fun _ => true) true 29 v d ps) : ∃ ss, IsStrs W v ss := by
  obtain ⟨fuel, hf⟩ := h
  obtain ⟨ss, hs⟩ := (reads_slice Try.underlying29 (by kernel_rfl) (by omega) (reads_str Try.underlying9 (by kernel_rfl))).read hf
  obtain ⟨a, cap, h1, h2, h3, h3', h4⟩ := rSl_str hs
  exact ⟨ss, a, cap, arg_slice Try.underlying29 hval h1, h2, h3, h3', h4⟩
def IsBytes (w : World) (v : Value) (xs : List UInt8) : Prop := ∃ a cap, v = .slice a xs.length cap ∧ Rw w a (byts xs) ∧ xs.length ≤ cap ∧ cap ≤ maxLen
theorem argBytes (hval : Value.okWide Try.prog W r b0 51 v) (h : DataW.Trod enc Try.prog W 0 (fun _ => true) true 51 v d ps) : ∃ ss, IsBytes W v ss := by
  obtain ⟨fuel, hf⟩ := h
  obtain ⟨ss, hs⟩ := (reads_slice Try.underlying51 (by kernel_rfl) (by omega) (reads_byte Try.underlying5 (by kernel_rfl))).read hf
  obtain ⟨a, cap, h1, h2, h3, h3'⟩ := rSl_byte hs
  exact ⟨ss, a, cap, arg_slice Try.underlying51 hval h1, h2, h3, h3'⟩
def IsProof (w : World) (v : Value) (xs : List Int) : Prop := ∃ a cap, v = .agg #[.slice a xs.length cap] ∧ Rw w a (ints xs) ∧ xs.length ≤ cap ∧ cap ≤ maxLen ∧ ∀ n ∈ xs, (Lit.int .i64 n).wf = true
theorem argProof (hval : Value.okWide Try.prog W r b0 37 v) (h : DataW.Trod enc Try.prog W 0 (fun _ => true) true 37 v d ps) : ∃ ss, IsProof W v ss := by
  obtain ⟨fuel, hf⟩ := h
  obtain ⟨ss, hs⟩ := (reads_struct1 Try.underlying37 (by kernel_rfl) rfl (reads_slice Try.underlying35 (by kernel_rfl) (by omega) (reads_int Try.underlying3 (by kernel_rfl)))).read hf
  obtain ⟨a, cap, h1, h2, h3, h3', h4⟩ := rSl_int hs
  refine ⟨ss, a, cap, ?_, h2, h3, h3', h4⟩
  rw [arg_struct Try.underlying37 hval, h1]
end
end Go.Proofs.Ytdhkagabkhepgaa
