/- Fields read out of bytes, in plain Lean. No program in sight. -/
import Derived.Test.YtlmgckijbamgpaaFldL
namespace Go.Proofs.Ytlmgckijbamgpaa
set_option linter.unusedVariables false
set_option linter.unusedSimpArgs false

def tk (s : ByteArray) (a : Nat) : Nat × Nat × Bool := takeF 5 (s.data.toList.drop a) 0 0
theorem tk_bd (s : ByteArray) (a : Nat) : (tk s a).1 ≤ 2000000001 := takeF_bd _ _ _ _
theorem tk_len {s : ByteArray} {a : Nat} (h : (tk s a).2.2 = true) : 0 < (tk s a).2.1 ∧ a + (tk s a).2.1 ≤ s.size ∧ a < s.size := by
  have := takeF_len 5 0 0 (s.data.toList.drop a) h
  unfold tk
  rw [List.length_drop] at this
  have e : s.data.toList.length = s.size := by simp
  rw [e] at this
  omega
/-- the field at a place, and where it ends -/
def fldAt (s : ByteArray) (a : Nat) : Option (Fld × Nat) :=
  if (tk s a).2.2 = true ∧ (tk s (a + (tk s a).2.1)).2.2 = true then
    (if (tk s a).1 % 8 = 0 then
      (if okF ⟨((tk s a).1 / 8 : Nat), 0, unfoldI ((tk s (a + (tk s a).2.1)).1 : Int), ⟨#[]⟩⟩ = true then
        some (⟨((tk s a).1 / 8 : Nat), 0, unfoldI ((tk s (a + (tk s a).2.1)).1 : Int), ⟨#[]⟩⟩, a + (tk s a).2.1 + (tk s (a + (tk s a).2.1)).2.1) else none)
    else if (tk s a).1 % 8 = 2 then
      (if a + (tk s a).2.1 + (tk s (a + (tk s a).2.1)).2.1 + (tk s (a + (tk s a).2.1)).1 ≤ s.size ∧ okF ⟨((tk s a).1 / 8 : Nat), 2, 0, s.extract (a + (tk s a).2.1 + (tk s (a + (tk s a).2.1)).2.1) (a + (tk s a).2.1 + (tk s (a + (tk s a).2.1)).2.1 + (tk s (a + (tk s a).2.1)).1)⟩ = true then
        some (⟨((tk s a).1 / 8 : Nat), 2, 0, s.extract (a + (tk s a).2.1 + (tk s (a + (tk s a).2.1)).2.1) (a + (tk s a).2.1 + (tk s (a + (tk s a).2.1)).2.1 + (tk s (a + (tk s a).2.1)).1)⟩, a + (tk s a).2.1 + (tk s (a + (tk s a).2.1)).2.1 + (tk s (a + (tk s a).2.1)).1) else none)
    else none)
  else none
theorem fldAt_eq {s : ByteArray} {a n1 u1 n2 u2 : Nat} (h1 : tk s a = (n1, u1, true)) (h2 : tk s (a + u1) = (n2, u2, true)) : fldAt s a =
    (if n1 % 8 = 0 then (if okF ⟨(n1 / 8 : Nat), 0, unfoldI (n2 : Int), ⟨#[]⟩⟩ = true then some (⟨(n1 / 8 : Nat), 0, unfoldI (n2 : Int), ⟨#[]⟩⟩, a + u1 + u2) else none)
     else if n1 % 8 = 2 then (if a + u1 + u2 + n2 ≤ s.size ∧ okF ⟨(n1 / 8 : Nat), 2, 0, s.extract (a + u1 + u2) (a + u1 + u2 + n2)⟩ = true then some (⟨(n1 / 8 : Nat), 2, 0, s.extract (a + u1 + u2) (a + u1 + u2 + n2)⟩, a + u1 + u2 + n2) else none)
     else none) := by
  unfold fldAt
  rw [h1]
  simp only
  rw [h2]
  simp
theorem fldAt_no1 {s : ByteArray} {a : Nat} (h1 : (tk s a).2.2 = false) : fldAt s a = none := by
  unfold fldAt; rw [h1]; simp
theorem fldAt_no2 {s : ByteArray} {a n1 u1 : Nat} (h1 : tk s a = (n1, u1, true)) (h2 : (tk s (a + u1)).2.2 = false) : fldAt s a = none := by
  unfold fldAt; rw [h1]; simp only; rw [h2]; simp
theorem fldAt_end {s : ByteArray} {a e : Nat} {f : Fld} (h : fldAt s a = some (f, e)) : a < e ∧ e ≤ s.size ∧ okF f = true ∧ f.data.size ≤ s.size := by
  cases hb1 : (tk s a).2.2 with
  | false => rw [fldAt_no1 hb1] at h; cases h
  | true =>
    have l1 := tk_len hb1
    obtain ⟨⟨n1, u1, b1⟩, h1⟩ : ∃ q, tk s a = q := ⟨_, rfl⟩
    rw [h1] at hb1 l1
    simp only at hb1 l1
    subst hb1
    cases hb2 : (tk s (a + u1)).2.2 with
    | false => rw [fldAt_no2 h1 hb2] at h; cases h
    | true =>
      have l2 := tk_len hb2
      obtain ⟨⟨n2, u2, b2⟩, h2⟩ : ∃ q, tk s (a + u1) = q := ⟨_, rfl⟩
      rw [h2] at hb2 l2
      simp only at hb2 l2
      subst hb2
      rw [fldAt_eq h1 h2] at h
      split at h
      · split at h
        · rename_i hok
          simp only [Option.some.injEq, Prod.mk.injEq] at h
          obtain ⟨rfl, rfl⟩ := h
          exact ⟨by omega, by omega, hok, by show (0 : Nat) ≤ _; omega⟩
        · cases h
      · split at h
        · split at h
          · rename_i hok
            simp only [Option.some.injEq, Prod.mk.injEq] at h
            obtain ⟨rfl, rfl⟩ := h
            exact ⟨by omega, by omega, hok.2, by simp only [ByteArray.size_extract]; omega⟩
          · cases h
        · cases h
/-- all fields from a place on -/
def rdL (s : ByteArray) : Nat → Nat → Nat → Option (List Fld)
  | 0, a, _ => if a < s.size then none else some []
  | f + 1, a, c => if a < s.size then (match fldAt s a with
      | none => none
      | some (x, e) => if c = 40 then none else (match rdL s f e (c + 1) with
        | none => none
        | some r => some (x :: r))) else some []
def preL (out : List Fld) (R : Option (List Fld)) : Option (List Fld) := match R with | none => none | some r => some (out ++ r)
theorem preL_nil (R : Option (List Fld)) : preL [] R = R := by cases R <;> rfl
theorem rdL_end {s : ByteArray} {f a c : Nat} (h : s.size ≤ a) : rdL s f a c = some [] := by
  cases f <;> unfold rdL <;> rw [if_neg (by omega)]
theorem rdL_no {s : ByteArray} {f a c : Nat} (h : a < s.size) (hf : fldAt s a = none) (hz : s.size - a ≤ f) : rdL s f a c = none := by
  cases f with
  | zero => omega
  | succ f => unfold rdL; rw [if_pos h, hf]
theorem rdL_full {s : ByteArray} {f a : Nat} (h : a < s.size) (hz : s.size - a ≤ f) : rdL s f a 40 = none := by
  cases f with
  | zero => omega
  | succ f =>
    unfold rdL; rw [if_pos h]
    cases fldAt s a with
    | none => rfl
    | some p => rfl
theorem rdL_next {s : ByteArray} {f a c e : Nat} {x : Fld} {out : List Fld} (h : a < s.size) (hf : fldAt s a = some (x, e)) (hc : c ≠ 40) (hz : s.size - a ≤ f) : preL out (rdL s f a c) = preL (out ++ [x]) (rdL s (f - 1) e (c + 1)) := by
  cases f with
  | zero => omega
  | succ f =>
    rw [rdL, if_pos h, hf]
    simp only [if_neg hc, Nat.add_sub_cancel]
    cases rdL s f e (c + 1) with
    | none => rfl
    | some r => simp [preL]
def R_Read (s : ByteArray) : Option (List Fld) := if 400 < s.size then none else rdL s s.size 0 0
theorem rdL_mem {s : ByteArray} : ∀ (f a c : Nat) (l : List Fld), c ≤ 40 → rdL s f a c = some l → l.length + c ≤ 40 ∧ ∀ x ∈ l, okF x = true ∧ x.data.size ≤ s.size
  | 0, a, c, l, hc, h => by
    unfold rdL at h; split at h
    · cases h
    · simp only [Option.some.injEq] at h; subst h; exact ⟨by simpa using hc, by simp⟩
  | f + 1, a, c, l, hc, h => by
    unfold rdL at h
    split at h
    · cases hf : fldAt s a with
      | none => rw [hf] at h; cases h
      | some p =>
        obtain ⟨x, e⟩ := p
        rw [hf] at h
        simp only at h
        split at h
        · cases h
        · cases hr : rdL s f e (c + 1) with
          | none => rw [hr] at h; cases h
          | some r =>
            rw [hr] at h
            simp only [Option.some.injEq] at h
            subst h
            obtain ⟨i1, i2⟩ := rdL_mem f e (c + 1) r (by omega) hr
            have := fldAt_end hf
            exact ⟨by rw [List.length_cons]; omega, fun y hy => by rcases List.mem_cons.1 hy with rfl | hy; exact this.2.2; exact i2 y hy⟩
    · simp only [Option.some.injEq] at h; subst h; exact ⟨by simpa using hc, by simp⟩
end Go.Proofs.Ytlmgckijbamgpaa
