/- Plain laws on proofs over logs: what is made of sums from their front on (the program) is what is made of them from their end on (the reference). No program in sight. -/
import Derived.Test.YtdhkagabkhepgaaLog
namespace Go.Proofs.Ytdhkagabkhepgaa
set_option linter.unusedVariables false

/-- the next sum; the third part: that one lacked -/
def nextP (p : List Int) (bad : Bool) : Int × List Int × Bool := match p with | [] => (0, [], true) | x :: r => (x, r, bad)

def inF : Nat → Nat → Nat → Int → List Int → Bool → Int × List Int × Bool
  | 0, _, _, lf, p, bad => (lf, p, bad)
  | m + 1, n, k, lf, p, bad =>
    if n = 1 then (lf, p, bad)
    else if k < splitN n then
      (nodeS (inF m (splitN n) k lf p bad).1 (nextP (inF m (splitN n) k lf p bad).2.1 (inF m (splitN n) k lf p bad).2.2).1, (nextP (inF m (splitN n) k lf p bad).2.1 (inF m (splitN n) k lf p bad).2.2).2)
    else
      (nodeS (nextP (inF m (n - splitN n) (k - splitN n) lf p bad).2.1 (inF m (n - splitN n) (k - splitN n) lf p bad).2.2).1 (inF m (n - splitN n) (k - splitN n) lf p bad).1, (nextP (inF m (n - splitN n) (k - splitN n) lf p bad).2.1 (inF m (n - splitN n) (k - splitN n) lf p bad).2.2).2)

def upF : Nat → Nat → Nat → Int → List Int → Int × Bool
  | 0, _, _, lf, p => (lf, p.isEmpty)
  | m + 1, n, k, lf, p =>
    if n = 1 then (lf, p.isEmpty)
    else if p = [] then (0, false)
    else if k < splitN n then (nodeS (upF m (splitN n) k lf p.dropLast).1 (p.getLastD 0), (upF m (splitN n) k lf p.dropLast).2)
    else (nodeS (p.getLastD 0) (upF m (n - splitN n) (k - splitN n) lf p.dropLast).1, (upF m (n - splitN n) (k - splitN n) lf p.dropLast).2)

def inD : Nat → Nat → Nat → Nat
  | 0, _, _ => 0
  | m + 1, n, k => if n = 1 then 0 else if k < splitN n then inD m (splitN n) k + 1 else inD m (n - splitN n) (k - splitN n) + 1

theorem isEmpty_dec (p : List Int) : p.isEmpty = decide (p.length = 0) := by cases p <;> simp

theorem upF_ok : ∀ (m n k : Nat) (lf : Int) (p : List Int), (upF m n k lf p).2 = decide (p.length = inD m n k)
  | 0, n, k, lf, p => by simp [upF, inD, isEmpty_dec]
  | m + 1, n, k, lf, p => by
    unfold upF inD
    by_cases h1 : n = 1
    · rw [if_pos h1, if_pos h1]; simp [isEmpty_dec]
    · rw [if_neg h1, if_neg h1]
      by_cases h2 : p = []
      · rw [if_pos h2, h2]
        by_cases h3 : k < splitN n
        · rw [if_pos h3]; simp
        · rw [if_neg h3]; simp
      · rw [if_neg h2]
        have hl : 0 < p.length := List.length_pos_iff.2 h2
        by_cases h3 : k < splitN n
        · rw [if_pos h3, if_pos h3]
          show (upF m (splitN n) k lf p.dropLast).2 = _
          rw [upF_ok m, List.length_dropLast, decide_eq_decide]; omega
        · rw [if_neg h3, if_neg h3]
          show (upF m (n - splitN n) (k - splitN n) lf p.dropLast).2 = _
          rw [upF_ok m, List.length_dropLast, decide_eq_decide]; omega

theorem split_last (p : List Int) (h : p ≠ []) : p = p.dropLast ++ [p.getLastD 0] := by
  rw [List.getLastD_eq_getLast?, List.getLast?_eq_some_getLast h]
  exact (List.dropLast_concat_getLast h).symm

theorem inF_fits : ∀ (m n k : Nat) (lf : Int) (p q : List Int) (b : Bool), p.length = inD m n k → inF m n k lf (p ++ q) b = ((upF m n k lf p).1, q, b)
  | 0, n, k, lf, p, q, b, h => by
    have : p = [] := List.eq_nil_of_length_eq_zero h
    subst this; simp [inF, upF]
  | m + 1, n, k, lf, p, q, b, h => by
    unfold inF upF
    unfold inD at h
    by_cases h1 : n = 1
    · rw [if_pos h1] at h
      have : p = [] := List.eq_nil_of_length_eq_zero h
      subst this; simp [h1]
    · rw [if_neg h1] at h
      rw [if_neg h1, if_neg h1]
      have hne : p ≠ [] := by intro hc; subst hc; by_cases h3 : k < splitN n <;> simp [h3] at h
      rw [if_neg hne]
      have hp := split_last p hne
      generalize p.getLastD 0 = x at *
      generalize hd : p.dropLast = d at *
      subst hp
      by_cases h3 : k < splitN n
      · rw [if_pos h3] at h
        rw [if_pos h3, if_pos h3, List.append_assoc, inF_fits m _ _ _ d ([x] ++ q) b (by simp at h; omega)]
        simp [nextP]
      · rw [if_neg h3] at h
        rw [if_neg h3, if_neg h3, List.append_assoc, inF_fits m _ _ _ d ([x] ++ q) b (by simp at h; omega)]
        simp [nextP]

theorem inF_short : ∀ (m n k : Nat) (lf : Int) (p : List Int) (b : Bool), p.length < inD m n k → (inF m n k lf p b).2 = ([], true)
  | 0, n, k, lf, p, b, h => by simp [inD] at h
  | m + 1, n, k, lf, p, b, h => by
    unfold inF
    unfold inD at h
    by_cases h1 : n = 1
    · rw [if_pos h1] at h; omega
    · rw [if_neg h1] at h
      rw [if_neg h1]
      by_cases h3 : k < splitN n
      · rw [if_pos h3] at h
        rw [if_pos h3]
        show (nextP _ _).2 = _
        by_cases h4 : p.length < inD m (splitN n) k
        · rw [inF_short m _ _ lf p b h4]; rfl
        · have := inF_fits m (splitN n) k lf p [] b (by omega)
          rw [List.append_nil] at this
          rw [this]; rfl
      · rw [if_neg h3] at h
        rw [if_neg h3]
        show (nextP _ _).2 = _
        by_cases h4 : p.length < inD m (n - splitN n) (k - splitN n)
        · rw [inF_short m _ _ lf p b h4]; rfl
        · have := inF_fits m (n - splitN n) (k - splitN n) lf p [] b (by omega)
          rw [List.append_nil] at this
          rw [this]; rfl

/-- **The two ways agree**: what the program takes the reference takes, and with the same sum. -/
theorem in_agree (m n k : Nat) (lf : Int) (p : List Int) :
    ((upF m n k lf p).2 = true → inF m n k lf p false = ((upF m n k lf p).1, [], false)) ∧
    ((upF m n k lf p).2 = false → (inF m n k lf p false).2.2 = true ∨ (inF m n k lf p false).2.1 ≠ []) := by
  rw [upF_ok]
  constructor
  · intro h
    have := inF_fits m n k lf p [] false (by simpa using h)
    rwa [List.append_nil] at this
  · intro h
    have h' : p.length ≠ inD m n k := by simpa using h
    by_cases hlt : p.length < inD m n k
    · left; rw [inF_short m n k lf p false hlt]
    · right
      have := inF_fits m n k lf (p.take (inD m n k)) (p.drop (inD m n k)) false (by rw [List.length_take]; omega)
      rw [List.take_append_drop] at this
      rw [this]
      intro hc
      have := congrArg List.length hc
      simp at this
      omega

theorem inD_le : ∀ n, n < 41 → ∀ k, k < n → inD 40 n k ≤ 6 := by decide +kernel

/-! ### that a log grew -/
def grewF : Nat → Nat → Nat → Bool → Int → List Int → Bool → (Int × Int) × List Int × Bool
  | 0, _, _, _, old, p, bad => ((old, old), p, bad)
  | f + 1, n, m, whole, old, p, bad =>
    if m = n then (if whole then ((old, old), p, bad) else (((nextP p bad).1, (nextP p bad).1), (nextP p bad).2))
    else if m ≤ splitN n then
      ((((grewF f (splitN n) m whole old p bad).1.1), nodeS (grewF f (splitN n) m whole old p bad).1.2 (nextP (grewF f (splitN n) m whole old p bad).2.1 (grewF f (splitN n) m whole old p bad).2.2).1), (nextP (grewF f (splitN n) m whole old p bad).2.1 (grewF f (splitN n) m whole old p bad).2.2).2)
    else
      ((nodeS (nextP (grewF f (n - splitN n) (m - splitN n) false old p bad).2.1 (grewF f (n - splitN n) (m - splitN n) false old p bad).2.2).1 (grewF f (n - splitN n) (m - splitN n) false old p bad).1.1,
        nodeS (nextP (grewF f (n - splitN n) (m - splitN n) false old p bad).2.1 (grewF f (n - splitN n) (m - splitN n) false old p bad).2.2).1 (grewF f (n - splitN n) (m - splitN n) false old p bad).1.2),
       (nextP (grewF f (n - splitN n) (m - splitN n) false old p bad).2.1 (grewF f (n - splitN n) (m - splitN n) false old p bad).2.2).2)

def bothF : Nat → Nat → Nat → Bool → Int → List Int → (Int × Int) × Bool
  | 0, _, _, _, old, p => ((old, old), p.isEmpty)
  | f + 1, n, m, whole, old, p =>
    if m = n then (if whole then ((old, old), p.isEmpty) else if p.length = 1 then ((p.getD 0 0, p.getD 0 0), true) else ((0, 0), false))
    else if p = [] then ((0, 0), false)
    else if m ≤ splitN n then (((bothF f (splitN n) m whole old p.dropLast).1.1, nodeS (bothF f (splitN n) m whole old p.dropLast).1.2 (p.getLastD 0)), (bothF f (splitN n) m whole old p.dropLast).2)
    else ((nodeS (p.getLastD 0) (bothF f (n - splitN n) (m - splitN n) false old p.dropLast).1.1, nodeS (p.getLastD 0) (bothF f (n - splitN n) (m - splitN n) false old p.dropLast).1.2), (bothF f (n - splitN n) (m - splitN n) false old p.dropLast).2)

def grewD : Nat → Nat → Nat → Bool → Nat
  | 0, _, _, _ => 0
  | f + 1, n, m, whole => if m = n then (if whole then 0 else 1) else if m ≤ splitN n then grewD f (splitN n) m whole + 1 else grewD f (n - splitN n) (m - splitN n) false + 1

theorem bothF_ok : ∀ (f n m : Nat) (wh : Bool) (old : Int) (p : List Int), (bothF f n m wh old p).2 = decide (p.length = grewD f n m wh)
  | 0, n, m, wh, old, p => by simp [bothF, grewD, isEmpty_dec]
  | f + 1, n, m, wh, old, p => by
    unfold bothF grewD
    by_cases h1 : m = n
    · rw [if_pos h1, if_pos h1]
      cases wh
      · by_cases h2 : p.length = 1 <;> simp [h2]
      · simp [isEmpty_dec]
    · rw [if_neg h1, if_neg h1]
      by_cases h2 : p = []
      · rw [if_pos h2, h2]
        by_cases h3 : m ≤ splitN n
        · rw [if_pos h3]; simp
        · rw [if_neg h3]; simp
      · rw [if_neg h2]
        have hl : 0 < p.length := List.length_pos_iff.2 h2
        by_cases h3 : m ≤ splitN n
        · rw [if_pos h3, if_pos h3]
          show (bothF f (splitN n) m wh old p.dropLast).2 = _
          rw [bothF_ok f, List.length_dropLast, decide_eq_decide]; omega
        · rw [if_neg h3, if_neg h3]
          show (bothF f (n - splitN n) (m - splitN n) false old p.dropLast).2 = _
          rw [bothF_ok f, List.length_dropLast, decide_eq_decide]; omega

theorem grewF_fits : ∀ (f n m : Nat) (wh : Bool) (old : Int) (p q : List Int) (b : Bool), p.length = grewD f n m wh → grewF f n m wh old (p ++ q) b = ((bothF f n m wh old p).1, q, b)
  | 0, n, m, wh, old, p, q, b, h => by
    have : p = [] := List.eq_nil_of_length_eq_zero h
    subst this; simp [grewF, bothF]
  | f + 1, n, m, wh, old, p, q, b, h => by
    unfold grewF bothF
    unfold grewD at h
    by_cases h1 : m = n
    · rw [if_pos h1] at h
      rw [if_pos h1, if_pos h1]
      cases wh
      · simp at h
        match p, h with
        | [x], _ => simp [nextP]
      · simp at h; subst h; simp
    · rw [if_neg h1] at h
      rw [if_neg h1, if_neg h1]
      have hne : p ≠ [] := by intro hc; subst hc; by_cases h3 : m ≤ splitN n <;> simp [h3] at h
      rw [if_neg hne]
      have hp := split_last p hne
      generalize p.getLastD 0 = x at *
      generalize hd : p.dropLast = d at *
      subst hp
      by_cases h3 : m ≤ splitN n
      · rw [if_pos h3] at h
        rw [if_pos h3, if_pos h3, List.append_assoc, grewF_fits f _ _ _ _ d ([x] ++ q) b (by simp at h; omega)]
        simp [nextP]
      · rw [if_neg h3] at h
        rw [if_neg h3, if_neg h3, List.append_assoc, grewF_fits f _ _ _ _ d ([x] ++ q) b (by simp at h; omega)]
        simp [nextP]

theorem grewF_short : ∀ (f n m : Nat) (wh : Bool) (old : Int) (p : List Int) (b : Bool), p.length < grewD f n m wh → (grewF f n m wh old p b).2 = ([], true)
  | 0, n, m, wh, old, p, b, h => by simp [grewD] at h
  | f + 1, n, m, wh, old, p, b, h => by
    unfold grewF
    unfold grewD at h
    by_cases h1 : m = n
    · rw [if_pos h1] at h
      rw [if_pos h1]
      cases wh
      · simp at h; subst h; rfl
      · simp at h
    · rw [if_neg h1] at h
      rw [if_neg h1]
      by_cases h3 : m ≤ splitN n
      · rw [if_pos h3] at h
        rw [if_pos h3]
        show (nextP _ _).2 = _
        by_cases h4 : p.length < grewD f (splitN n) m wh
        · rw [grewF_short f _ _ _ old p b h4]; rfl
        · have := grewF_fits f (splitN n) m wh old p [] b (by omega)
          rw [List.append_nil] at this
          rw [this]; rfl
      · rw [if_neg h3] at h
        rw [if_neg h3]
        show (nextP _ _).2 = _
        by_cases h4 : p.length < grewD f (n - splitN n) (m - splitN n) false
        · rw [grewF_short f _ _ _ old p b h4]; rfl
        · have := grewF_fits f (n - splitN n) (m - splitN n) false old p [] b (by omega)
          rw [List.append_nil] at this
          rw [this]; rfl

theorem grew_agree (f n m : Nat) (wh : Bool) (old : Int) (p : List Int) :
    ((bothF f n m wh old p).2 = true → grewF f n m wh old p false = ((bothF f n m wh old p).1, [], false)) ∧
    ((bothF f n m wh old p).2 = false → (grewF f n m wh old p false).2.2 = true ∨ (grewF f n m wh old p false).2.1 ≠ []) := by
  rw [bothF_ok]
  constructor
  · intro h
    have := grewF_fits f n m wh old p [] false (by simpa using h)
    rwa [List.append_nil] at this
  · intro h
    have h' : p.length ≠ grewD f n m wh := by simpa using h
    by_cases hlt : p.length < grewD f n m wh
    · left; rw [grewF_short f n m wh old p false hlt]
    · right
      have := grewF_fits f n m wh old (p.take (grewD f n m wh)) (p.drop (grewD f n m wh)) false (by rw [List.length_take]; omega)
      rw [List.take_append_drop] at this
      rw [this]
      intro hc
      have := congrArg List.length hc
      simp at this
      omega

theorem grewD_le : ∀ n, n < 41 → ∀ m, m < n + 1 → 1 ≤ m → ∀ wh, grewD 40 n m wh ≤ 7 := by decide +kernel

/-! ### bounds -/
abbrev inR (x : Int) : Prop := 0 ≤ x ∧ x ≤ 1000002
def allR (p : List Int) : Prop := ∀ x ∈ p, inR x
theorem nextP_bd {p : List Int} {b : Bool} (h : allR p) : inR (nextP p b).1 ∧ allR (nextP p b).2.1 := by
  cases p with
  | nil => exact ⟨⟨by simp [nextP], by simp [nextP]⟩, h⟩
  | cons x r => exact ⟨h x (by simp), fun y hy => h y (by simp [nextP] at hy; simp [hy])⟩
theorem inF_bd : ∀ (m n k : Nat) (lf : Int) (p : List Int) (b : Bool), inR lf → allR p → inR (inF m n k lf p b).1 ∧ allR (inF m n k lf p b).2.1
  | 0, _, _, lf, p, b, h1, h2 => ⟨h1, h2⟩
  | m + 1, n, k, lf, p, b, h1, h2 => by
    unfold inF
    by_cases h : n = 1
    · rw [if_pos h]; exact ⟨h1, h2⟩
    · rw [if_neg h]
      by_cases h3 : k < splitN n
      · rw [if_pos h3]
        have := inF_bd m (splitN n) k lf p b h1 h2
        exact ⟨nodeS_bd _ _, (nextP_bd this.2).2⟩
      · rw [if_neg h3]
        have := inF_bd m (n - splitN n) (k - splitN n) lf p b h1 h2
        exact ⟨nodeS_bd _ _, (nextP_bd this.2).2⟩
theorem upF_bd : ∀ (m n k : Nat) (lf : Int) (p : List Int), inR lf → inR (upF m n k lf p).1
  | 0, _, _, lf, p, h1 => h1
  | m + 1, n, k, lf, p, h1 => by
    unfold upF
    by_cases h : n = 1
    · rw [if_pos h]; exact h1
    · rw [if_neg h]
      by_cases h2 : p = []
      · rw [if_pos h2]; exact ⟨by simp, by simp⟩
      · rw [if_neg h2]
        by_cases h3 : k < splitN n
        · rw [if_pos h3]; exact nodeS_bd _ _
        · rw [if_neg h3]; exact nodeS_bd _ _
theorem grewF_bd : ∀ (f n m : Nat) (wh : Bool) (old : Int) (p : List Int) (b : Bool), inR old → allR p → inR (grewF f n m wh old p b).1.1 ∧ inR (grewF f n m wh old p b).1.2 ∧ allR (grewF f n m wh old p b).2.1
  | 0, _, _, _, old, p, b, h1, h2 => ⟨h1, h1, h2⟩
  | f + 1, n, m, wh, old, p, b, h1, h2 => by
    unfold grewF
    by_cases h : m = n
    · rw [if_pos h]
      cases wh
      · exact ⟨(nextP_bd h2).1, (nextP_bd h2).1, (nextP_bd h2).2⟩
      · exact ⟨h1, h1, h2⟩
    · rw [if_neg h]
      by_cases h3 : m ≤ splitN n
      · rw [if_pos h3]
        have := grewF_bd f (splitN n) m wh old p b h1 h2
        exact ⟨this.1, nodeS_bd _ _, (nextP_bd this.2.2).2⟩
      · rw [if_neg h3]
        have := grewF_bd f (n - splitN n) (m - splitN n) false old p b h1 h2
        exact ⟨nodeS_bd _ _, nodeS_bd _ _, (nextP_bd this.2.2).2⟩
theorem getD_bd {p : List Int} (h : allR p) (i : Nat) : inR (p.getD i 0) := by
  by_cases hi : i < p.length
  · exact h _ (by simp [List.getD, hi])
  · rw [List.getD, List.getElem?_eq_none (by omega)]; exact ⟨by simp, by simp⟩
theorem last_bd {p : List Int} (h : allR p) : inR (p.getLastD 0) := by
  by_cases hp : p = []
  · subst hp; exact ⟨by simp, by simp⟩
  · exact h _ (by rw [List.getLastD_eq_getLast?, List.getLast?_eq_some_getLast hp]; exact List.getLast_mem hp)
theorem dropLast_bd {p : List Int} (h : allR p) : allR p.dropLast := fun x hx => h x ((List.dropLast_sublist p).subset hx)
theorem bothF_bd : ∀ (f n m : Nat) (wh : Bool) (old : Int) (p : List Int), inR old → allR p → inR (bothF f n m wh old p).1.1 ∧ inR (bothF f n m wh old p).1.2
  | 0, _, _, _, old, p, h1, h2 => ⟨h1, h1⟩
  | f + 1, n, m, wh, old, p, h1, h2 => by
    unfold bothF
    by_cases h : m = n
    · rw [if_pos h]
      cases wh
      · by_cases hl : p.length = 1
        · simp only [hl, if_true]; exact ⟨getD_bd h2 0, getD_bd h2 0⟩
        · simp only [hl, if_false]; exact ⟨⟨by simp, by simp⟩, ⟨by simp, by simp⟩⟩
      · exact ⟨h1, h1⟩
    · rw [if_neg h]
      by_cases h4 : p = []
      · rw [if_pos h4]; exact ⟨⟨by simp, by simp⟩, ⟨by simp, by simp⟩⟩
      · rw [if_neg h4]
        by_cases h3 : m ≤ splitN n
        · rw [if_pos h3]
          exact ⟨(bothF_bd f _ _ _ _ _ h1 (dropLast_bd h2)).1, nodeS_bd _ _⟩
        · rw [if_neg h3]; exact ⟨nodeS_bd _ _, nodeS_bd _ _⟩
end Go.Proofs.Ytdhkagabkhepgaa
