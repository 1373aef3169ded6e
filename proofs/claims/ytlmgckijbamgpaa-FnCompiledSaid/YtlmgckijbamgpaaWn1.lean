/- Wants and filters, in plain Lean. No program in sight. -/
import Derived.Test.YtlmgckijbamgpaaFldL
namespace Go.Proofs.Ytlmgckijbamgpaa
set_option linter.unusedVariables false
set_option linter.unusedSimpArgs false
set_option maxRecDepth 100000

structure Wn where
  kind : Int
  no : Int
  num : Int
  text : ByteArray
  a : Int
  b : Int
def wnv (w : Wn) : List Value := [.int .i64 w.kind, .int .i64 w.no, .int .i64 w.num, .string w.text, .int .i64 w.a, .int .i64 w.b]
def wnsV (l : List Wn) : List Value := (l.map wnv).flatten
theorem wnsV_cons (f : Wn) (l : List Wn) : wnsV (f :: l) = .int .i64 f.kind :: .int .i64 f.no :: .int .i64 f.num :: .string f.text :: .int .i64 f.a :: .int .i64 f.b :: wnsV l := rfl
theorem wnsV_append (a b : List Wn) : wnsV (a ++ b) = wnsV a ++ wnsV b := by simp [wnsV]
theorem wnsV_snoc (l : List Wn) (f : Wn) : wnsV (l ++ [f]) = wnsV l ++ [.int .i64 f.kind, .int .i64 f.no, .int .i64 f.num, .string f.text, .int .i64 f.a, .int .i64 f.b] := by simp [wnsV, wnv]
theorem wnsV_len : ∀ (l : List Wn), (wnsV l).length = l.length * 6
  | [] => rfl
  | f :: r => by rw [wnsV_cons]; simp only [List.length_cons]; rw [wnsV_len r]; omega
theorem wnsV_ne {l : List Wn} {k : Nat} (h : k < l.length) : wnsV l ≠ [] := by
  intro e; have := congrArg List.length e; rw [wnsV_len] at this; simp at this; omega
theorem wnsV_at : ∀ (l : List Wn) (i : Nat) (f : Wn), l[i]? = some f → (wnsV l)[i * 6]? = some (.int .i64 f.kind) ∧ (wnsV l)[i * 6 + 1]? = some (.int .i64 f.no) ∧ (wnsV l)[i * 6 + 2]? = some (.int .i64 f.num) ∧ (wnsV l)[i * 6 + 3]? = some (.string f.text) ∧ (wnsV l)[i * 6 + 4]? = some (.int .i64 f.a) ∧ (wnsV l)[i * 6 + 5]? = some (.int .i64 f.b)
  | [], i, f, h => by simp at h
  | x :: r, 0, f, h => by simp at h; subst h; exact ⟨rfl, rfl, rfl, rfl, rfl, rfl⟩
  | x :: r, i + 1, f, h => by
    have := wnsV_at r i f (by simpa using h)
    rw [wnsV_cons]
    have e : ∀ j, (i + 1) * 6 + j = i * 6 + j + 1 + 1 + 1 + 1 + 1 + 1 := fun j => by omega
    refine ⟨?_, ?_, ?_, ?_, ?_, ?_⟩
    · rw [show (i + 1) * 6 = i * 6 + 1 + 1 + 1 + 1 + 1 + 1 by omega]; simpa using this.1
    · rw [e 1]; simpa using this.2.1
    · rw [e 2]; simpa using this.2.2.1
    · rw [e 3]; simpa using this.2.2.2.1
    · rw [e 4]; simpa using this.2.2.2.2.1
    · rw [e 5]; simpa using this.2.2.2.2.2
theorem wnsV_set : ∀ (l : List Wn) (k : Nat) (f : Wn), k < l.length → ((((((wnsV l).set (k * 6) (.int .i64 f.kind)).set (k * 6 + 1) (.int .i64 f.no)).set (k * 6 + 2) (.int .i64 f.num)).set (k * 6 + 3) (.string f.text)).set (k * 6 + 4) (.int .i64 f.a)).set (k * 6 + 5) (.int .i64 f.b) = wnsV (l.set k f)
  | [], k, f, h => by simp at h
  | x :: r, 0, f, h => rfl
  | x :: r, k + 1, f, h => by
    have := wnsV_set r k f (by simpa using h)
    rw [List.set_cons_succ, wnsV_cons, wnsV_cons, ← this]
    rw [show (k + 1) * 6 = k * 6 + 1 + 1 + 1 + 1 + 1 + 1 by omega]
    simp only [List.set_cons_succ, Nat.add_assoc]
theorem wnsV_oc (l : List Wn) : ∀ u ∈ wnsV l, u.oneCell' = true := by
  intro u hu
  unfold wnsV wnv at hu
  rw [List.mem_flatten] at hu
  obtain ⟨x, hx, hu⟩ := hu
  obtain ⟨f, _, rfl⟩ := List.mem_map.1 hx
  simp only [List.mem_cons, List.not_mem_nil, or_false] at hu
  rcases hu with rfl | rfl | rfl | rfl | rfl | rfl <;> rfl

/-! ### what is right of a want -/
def TestW (kd nm : Int) (ts : Nat) : Prop := (1 ≤ kd ∧ kd ≤ 5) ∧ (kd ≤ 3 → -1000000000 ≤ nm ∧ nm ≤ 1000000000) ∧ (3 < kd → nm = 0) ∧ (kd < 5 → ts = 0) ∧ ts ≤ 30
instance (kd nm : Int) (ts : Nat) : Decidable (TestW kd nm ts) := by unfold TestW; infer_instance
def OkW (w : Wn) (i : Nat) : Prop :=
  ((w.kind = 6 ∨ w.kind = 7) ∧ w.no = 0 ∧ w.num = 0 ∧ w.text.size = 0 ∧ 0 ≤ w.a ∧ w.a < w.b ∧ w.b < (i : Int)) ∨
  (w.kind = 8 ∧ w.no = 0 ∧ w.num = 0 ∧ w.text.size = 0 ∧ 0 ≤ w.a ∧ w.a < (i : Int) ∧ w.b = 0) ∨
  ((1 ≤ w.no ∧ w.no ≤ 30) ∧ TestW w.kind w.num w.text.size ∧ w.a = 0 ∧ w.b = 0)
instance (w : Wn) (i : Nat) : Decidable (OkW w i) := by unfold OkW; infer_instance
def okW (w : Wn) (i : Nat) : Bool := decide (OkW w i)
theorem okW_yes {w : Wn} {i : Nat} (h : OkW w i) : okW w i = true := decide_eq_true h
theorem okW_no {w : Wn} {i : Nat} (h : ¬ OkW w i) : okW w i = false := decide_eq_false h
def okAll : List Wn → Nat → Bool
  | [], _ => true
  | w :: r, i => okW w i && okAll r (i + 1)
theorem okAll_app : ∀ (a b : List Wn) (i : Nat), okAll (a ++ b) i = (okAll a i && okAll b (i + a.length))
  | [], b, i => by simp [okAll]
  | x :: r, b, i => by
    rw [List.cons_append, okAll, okAll, okAll_app r b, List.length_cons, Bool.and_assoc, show i + 1 + r.length = i + (r.length + 1) by omega]
theorem okAll_at : ∀ (l : List Wn) (i k : Nat) (w : Wn), okAll l i = true → l[k]? = some w → OkW w (i + k)
  | [], i, k, w, _, h => by simp at h
  | x :: r, i, 0, w, h, hw => by
    simp at hw; subst hw
    rw [okAll, Bool.and_eq_true] at h
    exact of_decide_eq_true h.1
  | x :: r, i, k + 1, w, h, hw => by
    rw [okAll, Bool.and_eq_true] at h
    have := okAll_at r (i + 1) k w h.2 (by simpa using hw)
    rwa [show i + 1 + k = i + (k + 1) by omega] at this
theorem okAll_next {l : List Wn} {k : Nat} {w : Wn} (h : okAll (l.take k) 0 = true) (hw : l[k]? = some w) (ho : okW w k = true) : okAll (l.take (k + 1)) 0 = true := by
  obtain ⟨hk, rfl⟩ := List.getElem?_eq_some_iff.1 hw
  rw [List.take_succ_eq_append_getElem hk, okAll_app, h, List.length_take, Nat.min_eq_left (by omega), Nat.zero_add]
  simp [okAll, ho]
theorem okAll_no {l : List Wn} {k : Nat} {w : Wn} (hw : l[k]? = some w) (ho : okW w k = false) : okAll l 0 = false := by
  rcases h : okAll l 0 with _ | _
  · rfl
  · have := okAll_at l 0 k w h hw
    rw [Nat.zero_add] at this
    rw [okW_yes this] at ho; cases ho
def partsW (w : Wn) : List Int := if w.kind = 6 ∨ w.kind = 7 then [w.a, w.b] else if w.kind = 8 then [w.a] else []
def bump (u : List Int) (k : Int) : List Int := u.set k.toNat (u.getD k.toNat 0 + 1)
def usesW (l : List Wn) (n : Nat) : List Int := (l.flatMap partsW).foldl bump (List.replicate n 0)
def R_GoodW (l : List Wn) : Bool := decide (1 ≤ l.length ∧ l.length ≤ 20) && (okAll l 0 && ((usesW l l.length).take (l.length - 1)).all (fun x => x == 1))
theorem bump_len (u : List Int) (k : Int) : (bump u k).length = u.length := by unfold bump; simp
theorem bumps_len : ∀ (L : List Int) (u : List Int), (L.foldl bump u).length = u.length
  | [], u => rfl
  | k :: r, u => by rw [List.foldl_cons, bumps_len r, bump_len]
theorem usesW_len (l : List Wn) (n : Nat) : (usesW l n).length = n := by unfold usesW; rw [bumps_len]; simp
theorem bump_bd {u : List Int} {k m : Int} (h : ∀ x ∈ u, 0 ≤ x ∧ x ≤ m) (hm : 0 ≤ m) : ∀ x ∈ bump u k, 0 ≤ x ∧ x ≤ m + 1 := by
  intro x hx
  unfold bump at hx
  rcases List.mem_or_eq_of_mem_set hx with hx | rfl
  · have := h x hx; omega
  · rcases Nat.lt_or_ge k.toNat u.length with hk | hk
    · have := h _ (List.getElem_mem hk)
      simp only [List.getD, List.getElem?_eq_getElem hk, Option.getD_some]; omega
    · simp only [List.getD, List.getElem?_eq_none hk, Option.getD_none]; omega
theorem bumps_bd : ∀ (L : List Int) (u : List Int) (m : Int), (∀ x ∈ u, 0 ≤ x ∧ x ≤ m) → 0 ≤ m → ∀ x ∈ L.foldl bump u, 0 ≤ x ∧ x ≤ m + L.length
  | [], u, m, h, hm => by simpa using h
  | k :: r, u, m, h, hm => by
    rw [List.foldl_cons]
    intro x hx
    have := bumps_bd r (bump u k) (m + 1) (bump_bd h hm) (by omega) x hx
    rw [List.length_cons]; omega
theorem parts_len (w : Wn) : (partsW w).length ≤ 2 := by
  unfold partsW
  split
  · simp
  · split <;> simp
theorem flat_len : ∀ (l : List Wn), (l.flatMap partsW).length ≤ 2 * l.length
  | [] => by simp
  | w :: r => by
    have h1 := parts_len w
    have h2 := flat_len r
    rw [List.flatMap_cons, List.length_append, List.length_cons]; omega
theorem usesW_bd (l : List Wn) (n : Nat) (L : List Int) : ∀ x ∈ L.foldl bump (usesW l n), 0 ≤ x ∧ x ≤ 2 * l.length + L.length := by
  intro x hx
  unfold usesW at hx
  rw [← List.foldl_append] at hx
  have h0 : ∀ x ∈ List.replicate n (0 : Int), 0 ≤ x ∧ x ≤ 0 := fun x hx => by rw [List.eq_of_mem_replicate hx]; omega
  have := bumps_bd _ _ 0 h0 (by omega) x hx
  have h2 := flat_len l
  rw [List.length_append] at this
  omega
theorem usesW_next {l : List Wn} {k n : Nat} {w : Wn} (hw : l[k]? = some w) : usesW (l.take (k + 1)) n = (partsW w).foldl bump (usesW (l.take k) n) := by
  obtain ⟨hk, rfl⟩ := List.getElem?_eq_some_iff.1 hw
  unfold usesW
  rw [List.take_succ_eq_append_getElem hk, List.flatMap_append, List.foldl_append]
  simp
/-- the parts of a right want lie ahead of it -/
theorem parts_lt {w : Wn} {i : Nat} (h : OkW w i) : ∀ k ∈ partsW w, 0 ≤ k ∧ k < (i : Int) := by
  intro k hk
  unfold partsW at hk
  unfold OkW TestW at h
  split at hk
  · simp only [List.mem_cons, List.not_mem_nil, or_false] at hk
    rcases hk with rfl | rfl <;> omega
  · split at hk
    · simp only [List.mem_cons, List.not_mem_nil, or_false] at hk
      subst hk; omega
    · simp at hk
end Go.Proofs.Ytlmgckijbamgpaa
