/- Fields and their bytes, in plain Lean. No program in sight. -/
import Derived.Test.YtlmgckijbamgpaaVarL
namespace Go.Proofs.Ytlmgckijbamgpaa
set_option linter.unusedVariables false
set_option linter.unusedSimpArgs false

structure Fld where
  no : Int
  kind : Int
  num : Int
  data : ByteArray
def fv (f : Fld) : List Value := [.int .i64 f.no, .int .i64 f.kind, .int .i64 f.num, .string f.data]
def fdsV (l : List Fld) : List Value := (l.map fv).flatten
theorem fdsV_cons (f : Fld) (l : List Fld) : fdsV (f :: l) = .int .i64 f.no :: .int .i64 f.kind :: .int .i64 f.num :: .string f.data :: fdsV l := rfl
theorem fdsV_snoc (l : List Fld) (f : Fld) : fdsV (l ++ [f]) = fdsV l ++ [.int .i64 f.no, .int .i64 f.kind, .int .i64 f.num, .string f.data] := by simp [fdsV, fv]
theorem fdsV_len : ∀ (l : List Fld), (fdsV l).length = l.length * 4
  | [] => rfl
  | f :: r => by rw [fdsV_cons]; simp only [List.length_cons]; rw [fdsV_len r]; omega
theorem fdsV_ne {l : List Fld} {k : Nat} (h : k < l.length) : fdsV l ≠ [] := by
  intro e; have := congrArg List.length e; rw [fdsV_len] at this; simp at this; omega
theorem fdsV_at : ∀ (l : List Fld) (i : Nat) (f : Fld), l[i]? = some f → (fdsV l)[i * 4]? = some (.int .i64 f.no) ∧ (fdsV l)[i * 4 + 1]? = some (.int .i64 f.kind) ∧ (fdsV l)[i * 4 + 2]? = some (.int .i64 f.num) ∧ (fdsV l)[i * 4 + 3]? = some (.string f.data)
  | [], i, f, h => by simp at h
  | x :: r, 0, f, h => by simp at h; subst h; exact ⟨rfl, rfl, rfl, rfl⟩
  | x :: r, i + 1, f, h => by
    have := fdsV_at r i f (by simpa using h)
    rw [fdsV_cons]
    refine ⟨?_, ?_, ?_, ?_⟩
    · rw [show (i + 1) * 4 = i * 4 + 1 + 1 + 1 + 1 by omega]; simpa using this.1
    · rw [show (i + 1) * 4 + 1 = i * 4 + 1 + 1 + 1 + 1 + 1 by omega]; simpa using this.2.1
    · rw [show (i + 1) * 4 + 2 = i * 4 + 2 + 1 + 1 + 1 + 1 by omega]; simpa using this.2.2.1
    · rw [show (i + 1) * 4 + 3 = i * 4 + 3 + 1 + 1 + 1 + 1 by omega]; simpa using this.2.2.2
def okF (f : Fld) : Bool := decide (1 ≤ f.no ∧ f.no ≤ 30) && (if f.kind = 0 then decide (-1000000000 ≤ f.num ∧ f.num ≤ 1000000000) && decide (f.data.size = 0) else if f.kind = 2 then decide (f.num = 0) else false)
theorem okF_iff {f : Fld} : okF f = true ↔ (1 ≤ f.no ∧ f.no ≤ 30) ∧ ((f.kind = 0 ∧ (-1000000000 ≤ f.num ∧ f.num ≤ 1000000000) ∧ f.data.size = 0) ∨ (f.kind = 2 ∧ f.num = 0)) := by
  unfold okF
  by_cases h0 : f.kind = 0
  · simp only [h0, Bool.and_eq_true, decide_eq_true_eq]
    constructor
    · intro h; exact ⟨h.1, .inl ⟨trivial, by simpa using h.2⟩⟩
    · rintro ⟨h1, ⟨_, h2⟩ | ⟨h2, _⟩⟩
      · exact ⟨h1, by simpa using h2⟩
      · omega
  · by_cases h2 : f.kind = 2
    · simp only [h2, Bool.and_eq_true, decide_eq_true_eq]
      constructor
      · intro h; exact ⟨h.1, .inr ⟨trivial, by simpa using h.2⟩⟩
      · rintro ⟨h1, ⟨h3, _⟩ | ⟨_, h3⟩⟩
        · omega
        · exact ⟨h1, by simpa using h3⟩
    · simp [h0, h2]
/-- the bytes of a field, of fields -/
def fieldB (f : Fld) : List UInt8 := vb (8 * f.no + f.kind).toNat ++ (if f.kind = 0 then vb (foldI f.num).toNat else vb f.data.size ++ f.data.data.toList)
def fieldsB (l : List Fld) : List UInt8 := (l.map fieldB).flatten
theorem fieldsB_cons (f : Fld) (l : List Fld) : fieldsB (f :: l) = fieldB f ++ fieldsB l := rfl
theorem fieldsB_snoc (l : List Fld) (f : Fld) : fieldsB (l ++ [f]) = fieldsB l ++ fieldB f := by simp [fieldsB]
theorem fieldsB_append (a b : List Fld) : fieldsB (a ++ b) = fieldsB a ++ fieldsB b := by simp [fieldsB]
theorem fieldB_len (f : Fld) : f.kind = 0 ∨ f.data.size + 2 ≤ (fieldB f).length := by
  by_cases h : f.kind = 0
  · exact .inl h
  · right
    unfold fieldB
    rw [if_neg h]
    have h1 := (vbF_len 5 (8 * f.no + f.kind).toNat).1
    have h2 := (vbF_len 5 f.data.size).1
    rw [List.length_append, List.length_append, vb, vb]
    have : f.data.data.toList.length = f.data.size := by simp
    omega
theorem fieldB_most (f : Fld) : (fieldB f).length ≤ 12 + f.data.size := by
  unfold fieldB
  have h1 := (vbF_len 5 (8 * f.no + f.kind).toNat).2
  have h2 := (vbF_len 5 f.data.size).2
  have h3 := (vbF_len 5 (foldI f.num).toNat).2
  have : f.data.data.toList.length = f.data.size := by simp
  split
  · rw [List.length_append, vb, vb]; omega
  · rw [List.length_append, List.length_append, vb, vb]; omega
theorem fieldsB_mem {l : List Fld} {f : Fld} (h : f ∈ l) : (fieldB f).length ≤ (fieldsB l).length := by
  induction l with
  | nil => simp at h
  | cons x r ih =>
    rw [fieldsB_cons, List.length_append]
    rcases List.mem_cons.1 h with rfl | h
    · omega
    · have := ih h; omega
def goodFs (l : List Fld) : Bool := decide (l.length ≤ 40) && l.all okF
def R_FieldsBytes (l : List Fld) : ByteArray × Bool := if goodFs l = true ∧ (fieldsB l).length ≤ 400 then (⟨(fieldsB l).toArray⟩, true) else (⟨#[]⟩, false)
end Go.Proofs.Ytlmgckijbamgpaa
