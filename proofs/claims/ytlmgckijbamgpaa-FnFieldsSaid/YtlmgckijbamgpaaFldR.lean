/- Fields come back: what the law asks, in plain Lean. -/
import Derived.Test.YtlmgckijbamgpaaFldP
import Derived.Test.YtlmgckijbamgpaaSrt9
import Derived.Test.YtlmgckijbamgpaaFldQ
import Derived.Test.YtlmgckijbamgpaaFs3
import Derived.Test.YtlmgckijbamgpaaFrN
namespace Go.Proofs.Ytlmgckijbamgpaa
set_option linter.unusedVariables false
set_option linter.unusedSimpArgs false
set_option maxRecDepth 100000

theorem flds_ok {l : List Fld} {s : ByteArray} (h : R_FieldsBytes l = (s, true)) : R_Read s = some l ∧ R_Sort l = (srtF l, true) ∧ s.size ≤ 400 ∧ ∃ s2, R_FieldsBytes (srtF l) = (s2, true) ∧ s2.size = s.size := by
  have h0 := h
  unfold R_FieldsBytes at h
  split at h
  · rename_i hg
    cases h
    refine ⟨fields_back h0, by unfold R_Sort; rw [if_pos hg.1], hg.2, ⟨(fieldsB (srtF l)).toArray⟩, ?_, ?_⟩
    · unfold R_FieldsBytes
      rw [if_pos ⟨srtF_good hg.1, by rw [srtF_bytes]; exact hg.2⟩]
    · show (fieldsB (srtF l)).length = (fieldsB l).length
      exact srtF_bytes l
  · cases h
theorem flds_small {l : List Fld} {s : ByteArray} (h : R_FieldsBytes l = (s, true)) : l.length ≤ 40 ∧ ∀ f ∈ l, f.data.size ≤ 400 := by
  constructor
  · rcases Nat.lt_or_ge 40 l.length with h1 | h1
    · rw [RF_long h1] at h; cases h
    · exact h1
  · intro f hf
    rcases Nat.lt_or_ge 400 f.data.size with h1 | h1
    · rw [RF_no hf (.inr h1)] at h; cases h
    · exact h1
theorem srt_step {l : List Fld} {j : Nat} {x y : Fld} (hx : (srtF l)[j]? = some x) (hy : (srtF l)[j + 1]? = some y) : ¬ x.no > y.no := by
  have := srtF_srt l
  unfold Srt at this
  rw [List.pairwise_iff_getElem] at this
  obtain ⟨h1, rfl⟩ := List.getElem?_eq_some_iff.1 hx
  obtain ⟨h2, rfl⟩ := List.getElem?_eq_some_iff.1 hy
  have := this j (j + 1) h1 h2 (by omega)
  omega
theorem srtO_len {l : List Fld} (h : l.length ≤ 41) : (R_Sort l).1.length ≤ 41 := by
  unfold R_Sort
  split
  · show (srtF l).length ≤ 41; rw [srtF_len]; exact h
  · simp
end Go.Proofs.Ytlmgckijbamgpaa
