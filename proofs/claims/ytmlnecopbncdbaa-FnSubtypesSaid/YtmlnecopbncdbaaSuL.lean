/- When a type takes in another one, in plain Lean: that a type takes in itself, and what it takes in takes in. -/
import Derived.Test.YtmlnecopbncdbaaTyE
namespace Go.Proofs.Ytmlnecopbncdbaa
set_option linter.unusedVariables false
set_option linter.unusedSimpArgs false
set_option maxRecDepth 100000

/-- the part with a number -/
def byNo (us : List Tr) (no : Int) : Option Tr := us.find? (fun x => x.no == no)
mutual
/-- whether each value of the first type is one of the second -/
def subT (a : Tr) : Tr → Bool
  | .node k _ _ _ mo ks => (a.kind == k && decide (a.most ≤ mo)) && (if k = 4 then subF a.kids ks else subL a.kids ks)
/-- of a list: the one part -/
def subF (us : List Tr) : List Tr → Bool
  | [] => true
  | y :: _ => match us with
    | [] => false
    | x :: _ => subT x y
def subL (us : List Tr) : List Tr → Bool
  | [] => true
  | y :: r => (match byNo us y.no with
    | none => false
    | some x => (!y.must || x.must) && subT x y) && subL us r
end
theorem subL_iff (us : List Tr) : ∀ (l : List Tr), subL us l = true ↔ ∀ y ∈ l, ∃ x, byNo us y.no = some x ∧ (y.must = true → x.must = true) ∧ subT x y = true
  | [] => by simp [subL]
  | y :: r => by
    rw [subL, Bool.and_eq_true, subL_iff us r]
    constructor
    · rintro ⟨h1, h2⟩ z hz
      rcases List.mem_cons.1 hz with rfl | hz
      · cases hb : byNo us z.no with
        | none => rw [hb] at h1; cases h1
        | some x =>
          rw [hb] at h1
          simp only [Bool.and_eq_true, Bool.or_eq_true, Bool.not_eq_true'] at h1
          refine ⟨x, rfl, fun hm => ?_, h1.2⟩
          rcases h1.1 with h | h
          · rw [h] at hm; cases hm
          · exact h
      · exact h2 z hz
    · intro h
      refine ⟨?_, fun z hz => h z (List.mem_cons_of_mem _ hz)⟩
      obtain ⟨x, h1, h2, h3⟩ := h y (by simp)
      rw [h1]
      simp only [Bool.and_eq_true, Bool.or_eq_true, Bool.not_eq_true']
      refine ⟨?_, h3⟩
      cases hm : y.must with
      | false => exact .inl rfl
      | true => exact .inr (h2 hm)
theorem subF_iff (us l : List Tr) : subF us l = true ↔ ∀ y r, l = y :: r → ∃ x q, us = x :: q ∧ subT x y = true := by
  cases l with
  | nil => simp [subF]
  | cons y r =>
    cases us with
    | nil =>
      constructor
      · intro h; simp [subF] at h
      · intro h; obtain ⟨x, q, e, _⟩ := h y r rfl; cases e
    | cons x q =>
      constructor
      · intro h y' r' e
        cases e
        exact ⟨x, q, rfl, by simpa [subF] using h⟩
      · intro h
        obtain ⟨x', q', e, h1⟩ := h y r rfl
        cases e
        simpa [subF] using h1
theorem byNo_no {us : List Tr} {no : Int} {x : Tr} (h : byNo us no = some x) : x.no = no ∧ x ∈ us := by
  unfold byNo at h
  exact ⟨by have := List.find?_some h; simpa using this, List.mem_of_find?_eq_some h⟩
/-- parts by numbers that differ -/
theorem byNo_self : ∀ {us : List Tr} {x : Tr}, us.Pairwise (fun a b => ¬ a.no = b.no) → x ∈ us → byNo us x.no = some x
  | [], x, _, h => by simp at h
  | a :: l, x, hp, h => by
    rw [List.pairwise_cons] at hp
    unfold byNo
    rw [List.find?_cons]
    rcases List.mem_cons.1 h with rfl | h
    · simp
    · have : (a.no == x.no) = false := by rw [beq_eq_false_iff_ne]; exact hp.1 x h
      rw [this]
      exact byNo_self hp.2 h
theorem hds_pair {R : Hd → Hd → Prop} : ∀ {l : List Tr}, (hds l).Pairwise R → l.Pairwise (fun a b => R a.hd b.hd)
  | [], _ => by simp
  | t :: r, h => by
    rw [hds, List.pairwise_cons] at h
    rw [List.pairwise_cons]
    refine ⟨fun b hb => h.1 b.hd ?_, hds_pair h.2⟩
    rw [hds_map]; exact List.mem_map.2 ⟨b, hb, rfl⟩
theorem RightL_all {k : Int} : ∀ {l : List Tr}, RightL k l ↔ ∀ t ∈ l, PartOf k t.hd ∧ RightT t
  | [] => by simp [RightL]
  | t :: r => by rw [RightL, RightL_all (l := r)]; simp [and_assoc]
/-- the parts of a message differ by their numbers -/
theorem right_nos {t : Tr} (h : RightT t) (hk : t.kind = 5) : t.kids.Pairwise (fun a b => ¬ a.no = b.no) := by
  cases t with
  | node k n o m mo ks =>
    rw [RightT] at h
    have := hds_pair (h.1.2.2.2.2.1 hk)
    exact this.imp (fun {a b} hab he => by have h1 : a.no < b.no := hab.1; omega)
theorem right_kids {t : Tr} (h : RightT t) : ∀ x ∈ t.kids, PartOf t.kind x.hd ∧ RightT x := by
  cases t with
  | node k n o m mo ks =>
    rw [RightT] at h
    exact RightL_all.1 h.2
theorem right_list {t : Tr} (h : RightT t) (hk : t.kind = 4) : ∃ x, t.kids = [x] := by
  cases t with
  | node k n o m mo ks =>
    rw [RightT] at h
    have := h.1.2.2.2.1 hk
    rw [hds_map, List.length_map] at this
    exact List.length_eq_one_iff.1 this
theorem right_most {t : Tr} (h : RightT t) (hk : ¬ t.kind = 3) : t.most = 0 := by
  cases t with
  | node k n o m mo ks =>
    rw [RightT] at h
    exact h.1.2.2.1 hk
theorem right_leaf {t : Tr} (h : RightT t) (hk : ¬ (t.kind = 4 ∨ t.kind = 5)) : t.kids = [] := by
  cases t with
  | node k n o m mo ks =>
    rw [RightT] at h
    have := h.1.2.2.2.2.2 hk
    cases ks with
    | nil => rfl
    | cons a l => rw [hds] at this; cases this
theorem subT_eq (a b : Tr) : subT a b = ((a.kind == b.kind && decide (a.most ≤ b.most)) && (if b.kind = 4 then subF a.kids b.kids else subL a.kids b.kids)) := by
  cases b with
  | node k n o m mo ks => rw [subT]; rfl
theorem size_lt {t x : Tr} (h : x ∈ t.kids) : countT x < countT t := by
  cases t with
  | node k n o m mo ks =>
    rw [countT]
    have : ∀ {l : List Tr}, x ∈ l → countT x ≤ countL l := by
      intro l
      induction l with
      | nil => intro h; simp at h
      | cons y r ih =>
        intro h
        rw [countL]
        rcases List.mem_cons.1 h with rfl | h
        · omega
        · have := ih h; omega
    have := this (l := ks) h
    omega
theorem sub_refl : ∀ (f : Nat) (t : Tr), countT t ≤ f → RightT t → subT t t = true
  | 0, t, hf, _ => by cases t with | node k n o m mo ks => rw [countT] at hf; omega
  | f + 1, t, hf, h => by
    have ih : ∀ x ∈ t.kids, subT x x = true := fun x hx => sub_refl f x (by have := size_lt hx; omega) (right_kids h x hx).2
    rw [subT_eq, beq_self_eq_true, Bool.true_and, decide_eq_true (Int.le_refl _), Bool.true_and]
    by_cases h4 : t.kind = 4
    · rw [if_pos h4]
      obtain ⟨x, hx⟩ := right_list h h4
      rw [hx, subF_iff]
      intro y r e
      cases e
      exact ⟨_, _, rfl, ih _ (by rw [hx]; simp)⟩
    · rw [if_neg h4, subL_iff]
      intro y hy
      by_cases h5 : t.kind = 5
      · exact ⟨y, byNo_self (right_nos h h5) hy, fun hm => hm, ih y hy⟩
      · rw [right_leaf h (by omega)] at hy; simp at hy
theorem sub_trans : ∀ (f : Nat) (a b c : Tr), countT c ≤ f → subT a b = true → subT b c = true → subT a c = true
  | 0, a, b, c, hf, _, _ => by cases c with | node k n o m mo ks => rw [countT] at hf; omega
  | f + 1, a, b, c, hf, h1, h2 => by
    rw [subT_eq, Bool.and_eq_true, Bool.and_eq_true, beq_iff_eq, decide_eq_true_iff] at h1 h2 ⊢
    obtain ⟨⟨k1, m1⟩, r1⟩ := h1
    obtain ⟨⟨k2, m2⟩, r2⟩ := h2
    refine ⟨⟨k1.trans k2, Int.le_trans m1 m2⟩, ?_⟩
    by_cases h4 : c.kind = 4
    · rw [if_pos (k2.trans h4)] at r1
      rw [if_pos h4] at r2 ⊢
      rw [subF_iff] at r1 r2 ⊢
      intro z r hz
      obtain ⟨y, q, hy, h3⟩ := r2 z r hz
      obtain ⟨x, p, hx, h5⟩ := r1 y q hy
      exact ⟨x, p, hx, sub_trans f x y z (by have := size_lt (t := c) (x := z) (by rw [hz]; simp); omega) h5 h3⟩
    · rw [if_neg (fun e => h4 (k2.symm.trans e))] at r1
      rw [if_neg h4] at r2 ⊢
      rw [subL_iff] at r1 r2 ⊢
      intro z hz
      obtain ⟨y, e1, e2, e3⟩ := r2 z hz
      obtain ⟨hn, hy⟩ := byNo_no e1
      obtain ⟨x, f1, f2, f3⟩ := r1 y hy
      rw [hn] at f1
      exact ⟨x, f1, fun hm => f2 (e2 hm), sub_trans f x y z (by have := size_lt hz; omega) f3 e3⟩
end Go.Proofs.Ytmlnecopbncdbaa
