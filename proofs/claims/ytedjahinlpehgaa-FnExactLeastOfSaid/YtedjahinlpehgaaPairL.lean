/- Plain laws of the pairs of states of two machines that are reached, each with its first text. No function of the program is named here. -/
import Derived.Test.YtedjahinlpehgaaReachL
import Derived.Test.YtedjahinlpehgaaDig
namespace Go.Proofs.Ytedjahinlpehgaa
set_option linter.unusedVariables false
open Go.ChangeShapes Go.WideShapes Go.ChangeAt Go.RowKit

theorem nd_inj {α : Type} {l : List α} (h : l.Nodup) {i j : Nat} {x : α} (hi : l[i]? = some x) (hj : l[j]? = some x) : i = j := by
  obtain ⟨h1, h2⟩ := List.getElem?_eq_some_iff.1 hi
  obtain ⟨h3, h4⟩ := List.getElem?_eq_some_iff.1 hj
  have hp := List.pairwise_iff_getElem.1 h
  rcases Nat.lt_trichotomy i j with hc | hc | hc
  · exact absurd (h2.trans h4.symm) (hp i j h1 h3 hc)
  · exact hc
  · exact absurd (h4.trans h2.symm) (hp j i h3 h1 hc)
abbrev Pr := Int × Int × ByteArray
def pr0 : Pr := (0, 0, ByteArray.empty)
def sameK (p q : Pr) : Bool := decide (p.1 = q.1 ∧ p.2.1 = q.2.1)
def hasP (o : List Pr) (q : Pr) : Bool := o.any (sameK q)
def visitP (o : List Pr) (q : Pr) : List Pr := if hasP o q = true then o else o ++ [q]
def letB (k : Nat) : ByteArray := dig1 (97 + (k : Int))
def goI (m : Mach) (p : Int) (k : Nat) : Int := (rowAt m p).getD k 0
def nextP (A B : Mach) (p : Pr) (k : Nat) : Pr := (goI A p.1 k, goI B p.2.1 k, p.2.2 ++ letB k)
def foldP (A B : Mach) (p : Pr) (o : List Pr) : Nat → List Pr
  | 0 => o
  | k + 1 => visitP (foldP A B p o k) (nextP A B p k)
def ordP (A B : Mach) : Nat → List Pr
  | 0 => [pr0]
  | i + 1 => if i < (ordP A B i).length then foldP A B ((ordP A B i).getD i pr0) (ordP A B i) 3 else ordP A B i
def keyP (p : Pr) : Int × Int := (p.1, p.2.1)
theorem sameK_iff {p q : Pr} : sameK p q = true ↔ keyP p = keyP q := by unfold sameK keyP; simp
theorem hasP_iff {o : List Pr} {q : Pr} : hasP o q = true ↔ keyP q ∈ o.map keyP := by
  unfold hasP
  rw [List.any_eq_true, List.mem_map]
  constructor
  · rintro ⟨p, hp, h⟩; exact ⟨p, hp, (sameK_iff.1 h).symm⟩
  · rintro ⟨p, hp, h⟩; exact ⟨p, hp, sameK_iff.2 h.symm⟩
structure PInv (n m d : Nat) (o : List Pr) : Prop where
  nd : (o.map keyP).Nodup
  rg : ∀ p ∈ o, 0 ≤ p.1 ∧ p.1 < (n : Int) ∧ 0 ≤ p.2.1 ∧ p.2.1 < (m : Int)
  sz : ∀ p ∈ o, p.2.2.size ≤ d
  one : 1 ≤ o.length
theorem PInv.len {n m d : Nat} {o : List Pr} (h : PInv n m d o) : o.length ≤ n * m := by
  have hs : o.map keyP ⊆ (List.range n).flatMap (fun i : Nat => (List.range m).map fun j : Nat => ((i : Int), (j : Int))) := by
    intro k hk
    rw [List.mem_map] at hk
    obtain ⟨p, hp, rfl⟩ := hk
    obtain ⟨h1, h2, h3, h4⟩ := h.rg p hp
    simp only [List.mem_flatMap, List.mem_map, List.mem_range]
    refine ⟨p.1.toNat, by omega, p.2.1.toNat, by omega, ?_⟩
    unfold keyP
    rw [Prod.mk.injEq]
    exact ⟨by omega, by omega⟩
  have h1 := List.Nodup.length_le_of_subset h.nd hs
  have h2 : ∀ k : Nat, ((List.range k).flatMap (fun i : Nat => (List.range m).map fun j : Nat => ((i : Int), (j : Int)))).length = k * m := by
    intro k
    induction k with
    | zero => simp
    | succ k ih => rw [List.range_succ, List.flatMap_append, List.length_append, ih, Nat.add_mul]; simp
  rw [h2, List.length_map] at h1
  exact h1
theorem PInv.visit {n m d : Nat} {o : List Pr} (h : PInv n m d o) {q : Pr} (hq : 0 ≤ q.1 ∧ q.1 < (n : Int) ∧ 0 ≤ q.2.1 ∧ q.2.1 < (m : Int)) (hd : q.2.2.size ≤ d) : PInv n m d (visitP o q) := by
  unfold visitP
  split
  · exact h
  · rename_i hc
    have hn : keyP q ∉ o.map keyP := fun hm => hc (hasP_iff.2 hm)
    refine ⟨?_, ?_, ?_, by simp⟩
    · rw [List.map_append, List.nodup_append]
      exact ⟨h.nd, by simp, fun a ha b hb => by simp at hb; subst hb; intro e; exact hn (e ▸ ha)⟩
    · intro j hj
      rcases List.mem_append.1 hj with hj | hj
      · exact h.rg j hj
      · simp at hj; subst hj; exact hq
    · intro j hj
      rcases List.mem_append.1 hj with hj | hj
      · exact h.sz j hj
      · simp at hj; subst hj; exact hd
theorem goI_in {m : Mach} (h : GoodM m) {p : Int} (h0 : 0 ≤ p) (h1 : p < (m.1.length : Int)) {k : Nat} (hk : k < 3) : (rowAt m p)[k]? = some (goI m p k) ∧ 0 ≤ goI m p k ∧ goI m p k < (m.1.length : Int) := by
  obtain ⟨_, r2, r3⟩ := row_in h h0 h1
  have hkl : k < (rowAt m p).length := by omega
  have e : (rowAt m p)[k]? = some (goI m p k) := by unfold goI; simp [List.getD, hkl]
  exact ⟨e, r3 _ (List.mem_of_getElem? e)⟩
theorem letB_size (k : Nat) : (letB k).size = 1 := dig1_size _
theorem PInv.mono {n m d d' : Nat} {o : List Pr} (h : PInv n m d o) (hd : d ≤ d') : PInv n m d' o := ⟨h.nd, h.rg, fun p hp => Nat.le_trans (h.sz p hp) hd, h.one⟩
theorem PInv.fold {A B : Mach} (hA : GoodM A) (hB : GoodM B) {d : Nat} {o : List Pr} (h : PInv A.1.length B.1.length (d + 1) o) {p : Pr} (hp : 0 ≤ p.1 ∧ p.1 < (A.1.length : Int) ∧ 0 ≤ p.2.1 ∧ p.2.1 < (B.1.length : Int)) (hs : p.2.2.size ≤ d) : ∀ k, k ≤ 3 → PInv A.1.length B.1.length (d + 1) (foldP A B p o k)
  | 0, _ => h
  | k + 1, hk => by
    have ih := PInv.fold hA hB h hp hs k (by omega)
    have h1 := goI_in hA hp.1 hp.2.1 (k := k) (by omega)
    have h2 := goI_in hB hp.2.2.1 hp.2.2.2 (k := k) (by omega)
    exact ih.visit ⟨h1.2.1, h1.2.2, h2.2.1, h2.2.2⟩ (by show (p.2.2 ++ letB k).size ≤ _; rw [ByteArray.size_append, letB_size]; omega)
theorem ordP_inv {A B : Mach} (hA : GoodM A) (hB : GoodM B) : ∀ i, PInv A.1.length B.1.length i (ordP A B i)
  | 0 => ⟨by simp [ordP], by intro p hp; simp [ordP] at hp; subst hp; have := hA.n1; have := hB.n1; exact ⟨Int.le_refl _, by show (0 : Int) < _; omega, Int.le_refl _, by show (0 : Int) < _; omega⟩, by intro p hp; simp [ordP] at hp; subst hp; exact Nat.le_refl _, by simp [ordP]⟩
  | i + 1 => by
    have ih := ordP_inv hA hB i
    rw [ordP]
    split
    · rename_i hi
      have hm : (ordP A B i).getD i pr0 ∈ ordP A B i := by
        have : (ordP A B i).getD i pr0 = (ordP A B i)[i] := by simp [List.getD, hi]
        rw [this]; exact List.getElem_mem hi
      exact (ih.mono (Nat.le_succ _)).fold hA hB (ih.rg _ hm) (ih.sz _ hm) 3 (Nat.le_refl _)
    · exact ih.mono (Nat.le_succ _)
theorem visitP_pre (o : List Pr) (q : Pr) : o <+: visitP o q := by
  unfold visitP; split
  · exact List.prefix_rfl
  · exact List.prefix_append _ _
theorem foldP_pre (A B : Mach) (p : Pr) (o : List Pr) : ∀ k, o <+: foldP A B p o k
  | 0 => List.prefix_rfl
  | k + 1 => (foldP_pre A B p o k).trans (visitP_pre _ _)
theorem foldP_step (A B : Mach) (p : Pr) (o : List Pr) (k : Nat) : ∀ j, foldP A B p o k <+: foldP A B p o (k + j)
  | 0 => List.prefix_rfl
  | j + 1 => (foldP_step A B p o k j).trans (visitP_pre _ _)
theorem ordP_pre (A B : Mach) (i : Nat) : ∀ j, ordP A B i <+: ordP A B (i + j)
  | 0 => List.prefix_rfl
  | j + 1 => by
    refine (ordP_pre A B i j).trans ?_
    show _ <+: ordP A B ((i + j) + 1)
    rw [ordP]
    split
    · exact foldP_pre _ _ _ _ _
    · exact List.prefix_rfl
theorem ordP_stay (A B : Mach) (i : Nat) (h : (ordP A B i).length ≤ i) : ∀ j, ordP A B (i + j) = ordP A B i
  | 0 => rfl
  | j + 1 => by
    have ih := ordP_stay A B i h j
    show ordP A B ((i + j) + 1) = _
    rw [ordP, if_neg (by rw [ih]; omega), ih]
theorem ordP_len {A B : Mach} (hA : GoodM A) (hB : GoodM B) (i : Nat) : (ordP A B i).length ≤ 144 := by
  have h := (ordP_inv hA hB i).len
  have h1 := hA.n12; have h2 := hB.n12
  have := Nat.mul_le_mul h1 h2
  omega
/-- the whole order -/
def pairsR (A B : Mach) : List Pr := ordP A B 144
theorem ordP_end {A B : Mach} (i : Nat) (hi : i ≤ 144) (he : (ordP A B i).length ≤ i) : pairsR A B = ordP A B i := by
  have := ordP_stay A B i he (144 - i)
  rw [show i + (144 - i) = 144 by omega] at this
  exact this
theorem ordP_next {A B : Mach} {i : Nat} (hi : i < (ordP A B i).length) : ordP A B (i + 1) = foldP A B ((ordP A B i).getD i pr0) (ordP A B i) 3 := by rw [ordP, if_pos hi]
theorem ordP_to (A B : Mach) (i : Nat) (hi : i ≤ 144) : ordP A B i <+: pairsR A B := by
  have := ordP_pre A B i (144 - i)
  rw [show i + (144 - i) = 144 by omega] at this
  exact this
theorem pre_at {α : Type} {a b : List α} (h : a <+: b) {i : Nat} (hi : i < a.length) : b[i]? = a[i]? := by
  obtain ⟨t, rfl⟩ := h
  rw [List.getElem?_append_left hi]
theorem ordP_at {A B : Mach} {i j : Nat} (hi : i ≤ 144) (hj : j < (ordP A B i).length) : (pairsR A B)[j]? = (ordP A B i)[j]? := pre_at (ordP_to A B i hi) hj
/-- the order while a pair's letters are gone through, is ahead of the whole order -/
theorem foldP_to {A B : Mach} {i k : Nat} (hi : i < 144) (hl : i < (ordP A B i).length) (hk : k ≤ 3) : foldP A B ((ordP A B i).getD i pr0) (ordP A B i) k <+: pairsR A B := by
  have h1 := foldP_step A B ((ordP A B i).getD i pr0) (ordP A B i) k (3 - k)
  rw [show k + (3 - k) = 3 by omega, ← ordP_next hl] at h1
  exact h1.trans (ordP_to A B (i + 1) (by omega))
/-! ### a pair's place -/
def isK (x y : Int) (p : Pr) : Bool := decide (p.1 = x ∧ p.2.1 = y)
def idxP (o : List Pr) (x y : Int) : Int := fidx (isK x y) o
theorem idxP_at {o : List Pr} (h : (o.map keyP).Nodup) {i : Nat} {p : Pr} (hp : o[i]? = some p) : idxP o p.1 p.2.1 = (i : Int) := by
  obtain ⟨hi, rfl⟩ := List.getElem?_eq_some_iff.1 hp
  unfold idxP
  refine fidx_here _ o pr0 i hi ?_ (by simp [List.getD, hi, isK])
  rw [List.any_eq_false]
  intro q hq hs
  rw [List.mem_take_iff_getElem] at hq
  obtain ⟨j, hj, rfl⟩ := hq
  unfold isK at hs
  simp only [decide_eq_true_eq] at hs
  have h1 : (o.map keyP)[j]? = some (keyP o[i]) := by
    rw [List.getElem?_map, List.getElem?_eq_getElem (by omega)]
    simp only [Option.map_some, keyP, Option.some.injEq, Prod.mk.injEq]; exact hs
  have h2 : (o.map keyP)[i]? = some (keyP o[i]) := by rw [List.getElem?_map, List.getElem?_eq_getElem hi]; rfl
  have := nd_inj h h1 h2
  omega
theorem idxP_none {o : List Pr} {q : Pr} (h : hasP o q = false) : idxP o q.1 q.2.1 = -1 := by
  refine fidx_none _ _ ?_
  rw [List.any_eq_false]
  intro p hp hs
  have : hasP o q = true := by
    unfold hasP; rw [List.any_eq_true]
    refine ⟨p, hp, ?_⟩
    unfold isK at hs; unfold sameK
    simp only [decide_eq_true_eq] at hs ⊢
    exact ⟨hs.1.symm, hs.2.symm⟩
  rw [this] at h; cases h
theorem hasP_at {o : List Pr} {q : Pr} (h : hasP o q = true) : ∃ (i : Nat) (p : Pr), o[i]? = some p ∧ p.1 = q.1 ∧ p.2.1 = q.2.1 := by
  unfold hasP at h
  rw [List.any_eq_true] at h
  obtain ⟨p, hp, hs⟩ := h
  obtain ⟨i, hi⟩ := List.getElem?_of_mem hp
  unfold sameK at hs
  simp only [decide_eq_true_eq] at hs
  exact ⟨i, p, hi, hs.1.symm, hs.2.symm⟩
theorem idxP_some {o : List Pr} {q : Pr} (hn : (o.map keyP).Nodup) (h : hasP o q = true) : ∃ i : Nat, i < o.length ∧ idxP o q.1 q.2.1 = (i : Int) := by
  obtain ⟨i, p, hp, h1, h2⟩ := hasP_at h
  refine ⟨i, (List.getElem?_eq_some_iff.1 hp).1, ?_⟩
  rw [← h1, ← h2]
  exact idxP_at hn hp
/-- the place in a beginning is the place in the whole -/
theorem idxP_pre {o t : List Pr} (hn : (t.map keyP).Nodup) (hp : o <+: t) {q : Pr} (h : hasP o q = true) : idxP t q.1 q.2.1 = idxP o q.1 q.2.1 := by
  obtain ⟨i, p, h1, h2, h3⟩ := hasP_at h
  have hno : (o.map keyP).Nodup := by
    obtain ⟨r, rfl⟩ := hp
    rw [List.map_append, List.nodup_append] at hn
    exact hn.1
  have hi := (List.getElem?_eq_some_iff.1 h1).1
  rw [← h2, ← h3, idxP_at hno h1, idxP_at hn (by rw [pre_at hp hi]; exact h1)]
theorem has_visit (o : List Pr) (q : Pr) : hasP (visitP o q) q = true := by
  unfold visitP
  split
  · assumption
  · rw [hasP_iff]; simp
theorem visit_yes {o : List Pr} {q : Pr} (h : hasP o q = true) : visitP o q = o := by unfold visitP; rw [if_pos h]
theorem visit_no {o : List Pr} {q : Pr} (h : hasP o q = false) : visitP o q = o ++ [q] := by unfold visitP; rw [if_neg (by rw [h]; simp)]
theorem has_pre {o t : List Pr} (hp : o <+: t) {q : Pr} (h : hasP o q = true) : hasP t q = true := by
  obtain ⟨r, rfl⟩ := hp
  rw [hasP_iff] at *
  rw [List.map_append, List.mem_append]
  exact .inl h
/-! ### the laws' answers -/
def endI (m : Mach) (p : Int) : Bool := m.2.getD p.toNat false
def diffP (A B : Mach) (p : Pr) : Bool := endI A p.1 != endI B p.2.1
def R_SameLanguage (A B : Mach) : ByteArray × Bool × Bool :=
  if R_GoodMachine A = true ∧ R_GoodMachine B = true then
    match (pairsR A B).find? (diffP A B) with
    | some p => (p.2.2, false, true)
    | none => (ByteArray.empty, true, true)
  else (ByteArray.empty, false, false)
def goesP (A B : Mach) (o : List Pr) (p : Pr) : List Int := [0, 1, 2].map fun k => idxP o (goI A p.1 k) (goI B p.2.1 k)
def bothP (A B : Mach) (p : Pr) : Bool := endI A p.1 && endI B p.2.1
def R_MeetMachines (A B : Mach) : Mach × Bool :=
  if R_GoodMachine A = true ∧ R_GoodMachine B = true ∧ (pairsR A B).length ≤ 12 then
    (((pairsR A B).map (goesP A B (pairsR A B)), (pairsR A B).map (bothP A B)), true)
  else (([], []), false)
theorem find_here {α : Type} {p : α → Bool} {l : List α} {i : Nat} {x : α} (hx : l[i]? = some x) (hp : p x = true) (hb : (l.take i).any p = false) : l.find? p = some x := by
  obtain ⟨hi, rfl⟩ := List.getElem?_eq_some_iff.1 hx
  have e : l = l.take i ++ l.drop i := (List.take_append_drop i l).symm
  have e2 : (l.take i).find? p = none := List.find?_eq_none.2 (by intro y hy; rw [List.any_eq_false] at hb; exact hb y hy)
  have e3 : l.find? p = (l.take i ++ l.drop i).find? p := congrArg (List.find? p) e
  rw [e3, List.find?_append, e2, List.drop_eq_getElem_cons hi, List.find?_cons, hp]; rfl
theorem find_none {α : Type} {p : α → Bool} {l : List α} (h : l.any p = false) : l.find? p = none := by
  rw [List.find?_eq_none]; rw [List.any_eq_false] at h; exact h
theorem end_in {m : Mach} (h : GoodM m) {p : Int} (h0 : 0 ≤ p) (h1 : p < (m.1.length : Int)) : m.2[p.toNat]? = some (endI m p) := by
  have hk : p.toNat < m.2.length := by rw [h.ends]; omega
  unfold endI; simp [List.getD, hk]
/-- a pair's goal is in the whole order -/
theorem goal_in {A B : Mach} {i k : Nat} (hi : i < 144) (hl : i < (ordP A B i).length) (hk : k < 3) : hasP (pairsR A B) (nextP A B ((ordP A B i).getD i pr0) k) = true := by
  refine has_pre (foldP_to hi hl (k := k + 1) (by omega)) ?_
  exact has_visit _ _
end Go.Proofs.Ytedjahinlpehgaa
