/- Plain laws of classes of states: by first places and by numbers, round by round. No function of the program is named here. -/
import Derived.Test.YtedjahinlpehgaaPairL
namespace Go.Proofs.Ytedjahinlpehgaa
set_option linter.unusedVariables false
open Go.ChangeShapes Go.WideShapes Go.ChangeAt Go.RowKit

section
variable {α β : Type} [DecidableEq α] [DecidableEq β]
/-- the first place -/
def at1 (l : List α) (x : α) : Int := fidx (fun y => decide (y = x)) l
theorem at1_here {l : List α} {i : Nat} {x : α} (hx : l[i]? = some x) (hb : ∀ j, j < i → l[j]? ≠ some x) : at1 l x = (i : Int) := by
  obtain ⟨hi, rfl⟩ := List.getElem?_eq_some_iff.1 hx
  unfold at1
  refine fidx_here _ l l[i] i hi ?_ (by simp [List.getD, hi])
  rw [List.any_eq_false]
  intro q hq hs
  rw [List.mem_take_iff_getElem] at hq
  obtain ⟨j, hj, rfl⟩ := hq
  simp only [decide_eq_true_eq] at hs
  exact hb j (by omega) (by rw [List.getElem?_eq_getElem (by omega), hs])
theorem at1_ex {l : List α} {x : α} (hx : x ∈ l) : ∃ i : Nat, l[i]? = some x ∧ (∀ j, j < i → l[j]? ≠ some x) ∧ at1 l x = (i : Int) := by
  have : ∃ i : Nat, l[i]? = some x := List.getElem?_of_mem hx
  obtain ⟨i0, hi0⟩ := this
  have key : ∀ (n i : Nat), i ≤ n → l[i]? = some x → ∃ i : Nat, l[i]? = some x ∧ (∀ j, j < i → l[j]? ≠ some x) := by
    intro n
    induction n with
    | zero => intro i hi h; exact ⟨i, h, fun j hj => by omega⟩
    | succ n ih =>
      intro i hi h
      by_cases hc : ∃ j, j < i ∧ l[j]? = some x
      · obtain ⟨j, hj, hjx⟩ := hc
        exact ih j (by omega) hjx
      · exact ⟨i, h, fun j hj hx => hc ⟨j, hj, hx⟩⟩
  obtain ⟨i, h1, h2⟩ := key i0 i0 (Nat.le_refl _) hi0
  exact ⟨i, h1, h2, at1_here h1 h2⟩
/-- the list of first places -/
def fstL (l : List α) : List Int := l.map (at1 l)
@[simp] theorem fstL_length (l : List α) : (fstL l).length = l.length := by simp [fstL]
theorem fstL_at {l : List α} {i : Nat} {x : α} (hx : l[i]? = some x) : (fstL l)[i]? = some (at1 l x) := by simp [fstL, hx]
theorem fstL_le {l : List α} {i : Nat} {x : α} (hx : l[i]? = some x) : 0 ≤ at1 l x ∧ at1 l x ≤ (i : Int) ∧ l[(at1 l x).toNat]? = some x := by
  obtain ⟨j, h1, h2, h3⟩ := at1_ex (List.mem_of_getElem? hx)
  rw [h3]
  refine ⟨by omega, ?_, by simpa using h1⟩
  rcases Nat.lt_or_ge i j with h | h
  · exact absurd hx (h2 i h)
  · omega
/-- two lists that are alike -/
def Alike (l : List α) (r : List β) : Prop := l.length = r.length ∧ ∀ i j, i < l.length → j < l.length → (l[i]? = l[j]? ↔ r[i]? = r[j]?)
theorem at1_alike {l : List α} {r : List β} (h : Alike l r) {i : Nat} {x : α} {y : β} (hx : l[i]? = some x) (hy : r[i]? = some y) : at1 l x = at1 r y := by
  have hil := (List.getElem?_eq_some_iff.1 hx).1
  obtain ⟨k, h1, h2, h3⟩ := at1_ex (List.mem_of_getElem? hx)
  have hk := (List.getElem?_eq_some_iff.1 h1).1
  rw [h3]
  refine (at1_here ?_ ?_).symm
  · rw [← hy]; exact (h.2 k i hk hil).1 (by rw [h1, hx])
  · intro j hj he
    refine h2 j hj ?_
    rw [← hx]
    exact (h.2 j i (by omega) hil).2 (by rw [he, hy])
theorem fstL_alike {l : List α} {r : List β} (h : Alike l r) : fstL l = fstL r := by
  apply List.ext_getElem?
  intro i
  by_cases hi : i < l.length
  · have hx : l[i]? = some l[i] := List.getElem?_eq_getElem hi
    have hy : r[i]? = some (r[i]'(by have := h.1; omega)) := List.getElem?_eq_getElem _
    rw [fstL_at hx, fstL_at hy, at1_alike h hx hy]
  · rw [List.getElem?_eq_none (by simp; omega), List.getElem?_eq_none (by simp; have := h.1; omega)]
theorem alike_fst (l : List α) : Alike l (fstL l) := by
  refine ⟨by simp, fun i j hi hj => ?_⟩
  have hx : l[i]? = some l[i] := List.getElem?_eq_getElem hi
  have hy : l[j]? = some l[j] := List.getElem?_eq_getElem hj
  rw [fstL_at hx, fstL_at hy, hx, hy]
  constructor
  · intro h; rw [Option.some.inj h]
  · intro h
    have e := Option.some.inj h
    have h1 := (fstL_le hx).2.2; have h2 := (fstL_le hy).2.2
    rw [e] at h1
    rw [h1] at h2; exact h2
omit [DecidableEq α] [DecidableEq β] in
theorem Alike.symm {l : List α} {r : List β} (h : Alike l r) : Alike r l := ⟨h.1.symm, fun i j hi hj => (h.2 i j (by rw [h.1]; exact hi) (by rw [h.1]; exact hj)).symm⟩
omit [DecidableEq α] [DecidableEq β] in
theorem Alike.trans {γ : Type} {l : List α} {r : List β} {s : List γ} (h : Alike l r) (k : Alike r s) : Alike l s :=
  ⟨h.1.trans k.1, fun i j hi hj => (h.2 i j hi hj).trans (k.2 i j (by rw [← h.1]; exact hi) (by rw [← h.1]; exact hj))⟩
theorem alike_of_fst {l : List α} {r : List β} (h : fstL l = fstL r) : Alike l r := (alike_fst l).trans (h ▸ (alike_fst r).symm)

/-! ### numbers -/
def addD (o : List α) (x : α) : List α := if x ∈ o then o else o ++ [x]
def dist (l : List α) : List α := l.foldl addD []
def numR (l : List α) : List Int := l.map (at1 (dist l))
@[simp] theorem numR_length (l : List α) : (numR l).length = l.length := by simp [numR]
theorem dist_snoc (l : List α) (x : α) : dist (l ++ [x]) = addD (dist l) x := by simp [dist, List.foldl_append]
theorem dist_mem {x : α} (l : List α) : x ∈ dist l ↔ x ∈ l := by
  have : ∀ (l o : List α), x ∈ l.foldl addD o ↔ x ∈ o ∨ x ∈ l := by
    intro l
    induction l with
    | nil => intro o; simp
    | cons y l ih =>
      intro o
      rw [List.foldl_cons, ih]
      unfold addD
      split
      · rename_i hy
        constructor
        · rintro (h | h)
          · exact .inl h
          · exact .inr (by simp [h])
        · rintro (h | h)
          · exact .inl h
          · rcases List.mem_cons.1 h with rfl | h
            · exact .inl hy
            · exact .inr h
      · simp only [List.mem_append, List.mem_singleton, List.mem_cons, List.not_mem_nil, or_false, or_assoc, false_or]
  rw [dist, this]; simp
theorem dist_nodup (l : List α) : (dist l).Nodup := by
  have : ∀ (l o : List α), o.Nodup → (l.foldl addD o).Nodup := by
    intro l
    induction l with
    | nil => intro o h; exact h
    | cons y l ih =>
      intro o h
      rw [List.foldl_cons]
      refine ih _ ?_
      unfold addD
      split
      · exact h
      · rename_i hy
        rw [List.nodup_append]
        exact ⟨h, by simp, fun a ha b hb => by simp at hb; subst hb; intro e; exact hy (e ▸ ha)⟩
  exact this l [] List.nodup_nil
theorem dist_pre (l r : List α) : dist l <+: dist (l ++ r) := by
  have : ∀ (r o : List α), o <+: r.foldl addD o := by
    intro r
    induction r with
    | nil => intro o; exact List.prefix_rfl
    | cons y r ih =>
      intro o
      rw [List.foldl_cons]
      refine List.IsPrefix.trans ?_ (ih _)
      unfold addD
      split
      · exact List.prefix_rfl
      · exact List.prefix_append _ _
  rw [dist, dist, List.foldl_append]
  exact this r _
theorem dist_len (l : List α) : (dist l).length ≤ l.length := by
  have : ∀ (l o : List α), (l.foldl addD o).length ≤ o.length + l.length := by
    intro l
    induction l with
    | nil => intro o; simp
    | cons y l ih =>
      intro o
      rw [List.foldl_cons]
      have h1 := ih (addD o y)
      have h2 : (addD o y).length ≤ o.length + 1 := by unfold addD; split <;> simp
      rw [List.length_cons]; omega
  have h := this l []
  rw [List.length_nil, Nat.zero_add] at h; exact h
theorem at1_nd {l : List α} (h : l.Nodup) {i : Nat} {x : α} (hx : l[i]? = some x) : at1 l x = (i : Int) := by
  refine at1_here hx fun j hj he => ?_
  have := nd_inj h he hx
  omega
theorem at1_pre {l t : List α} (hp : l <+: t) {x : α} (hx : x ∈ l) : at1 t x = at1 l x := by
  obtain ⟨i, h1, h2, h3⟩ := at1_ex hx
  have hi := (List.getElem?_eq_some_iff.1 h1).1
  rw [h3]
  exact at1_here (by rw [pre_at hp hi]; exact h1) fun j hj => by rw [pre_at hp (by omega)]; exact h2 j hj
theorem alike_num (l : List α) : Alike l (numR l) := by
  refine ⟨by simp, fun i j hi hj => ?_⟩
  have hx : l[i]? = some l[i] := List.getElem?_eq_getElem hi
  have hy : l[j]? = some l[j] := List.getElem?_eq_getElem hj
  have nx : (numR l)[i]? = some (at1 (dist l) l[i]) := by simp [numR, hi]
  have ny : (numR l)[j]? = some (at1 (dist l) l[j]) := by simp [numR, hj]
  rw [nx, ny, hx, hy]
  constructor
  · intro h; rw [Option.some.inj h]
  · intro h
    have e := Option.some.inj h
    obtain ⟨a, a1, _, a3⟩ := at1_ex ((dist_mem l).2 (List.getElem_mem hi))
    obtain ⟨b, b1, _, b3⟩ := at1_ex ((dist_mem l).2 (List.getElem_mem hj))
    rw [a3, b3] at e
    have : a = b := by omega
    subst this
    rw [a1] at b1; exact b1
/-- how many there are, told by the first places -/
def isRep (l : List α) (i : Nat) : Bool := decide ((fstL l)[i]? = some (i : Int))
theorem rep_iff {l : List α} {i : Nat} {x : α} (hx : l[i]? = some x) : isRep l i = true ↔ x ∉ l.take i := by
  unfold isRep
  rw [decide_eq_true_eq, fstL_at hx]
  obtain ⟨k, h1, h2, h3⟩ := at1_ex (List.mem_of_getElem? hx)
  rw [h3]
  constructor
  · intro h hm
    have : k = i := by have := Option.some.inj h; omega
    subst this
    rw [List.mem_take_iff_getElem] at hm
    obtain ⟨j, hj, he⟩ := hm
    exact h2 j (by omega) (by rw [List.getElem?_eq_getElem (by omega), he])
  · intro h
    congr 1
    rcases Nat.lt_trichotomy k i with hc | hc | hc
    · exact absurd (by rw [List.mem_take_iff_getElem]; exact ⟨k, by have := (List.getElem?_eq_some_iff.1 h1).1; omega, (List.getElem?_eq_some_iff.1 h1).2⟩) h
    · omega
    · exact absurd hx (h2 i hc)
theorem dist_count (l : List α) : ∀ i, i ≤ l.length → (dist (l.take i)).length = ((List.range i).filter (isRep l)).length
  | 0, _ => by simp [dist]
  | i + 1, hi => by
    have ih := dist_count l i (by omega)
    have hx : l[i]? = some (l[i]'(by omega)) := List.getElem?_eq_getElem _
    rw [take_next l i _ hx, dist_snoc, List.range_succ, List.filter_append, List.length_append, ← ih]
    by_cases hc : l[i]'(by omega) ∈ l.take i
    · have : isRep l i = false := by rw [Bool.eq_false_iff]; intro h; exact (rep_iff hx).1 h hc
      simp only [addD, (dist_mem _).2 hc, if_true, List.filter_cons, this, Bool.false_eq_true, if_false, List.filter_nil, List.length_nil, Nat.add_zero]
    · have h1 : isRep l i = true := (rep_iff hx).2 hc
      have h2 : ¬ l[i]'(by omega) ∈ dist (l.take i) := fun h => hc ((dist_mem _).1 h)
      simp only [addD, h2, if_false, List.length_append, List.length_singleton, List.filter_cons, h1, if_true, List.filter_nil]
theorem dist_reps (l : List α) : (dist l).length = ((List.range l.length).filter (isRep l)).length := by
  have := dist_count l l.length (Nat.le_refl _); rwa [List.take_length] at this
/-- r is finer than l -/
def Finer (r : List β) (l : List α) : Prop := r.length = l.length ∧ ∀ i j, i < l.length → j < l.length → r[i]? = r[j]? → l[i]? = l[j]?
theorem finer_rep {r : List β} {l : List α} (h : Finer r l) {i : Nat} (hi : i < l.length) (hr : isRep l i = true) : isRep r i = true := by
  have hx : l[i]? = some l[i] := List.getElem?_eq_getElem hi
  have hir : i < r.length := by rw [h.1]; exact hi
  have hy : r[i]? = some r[i] := List.getElem?_eq_getElem hir
  rw [rep_iff hy]
  intro hm
  rw [List.mem_take_iff_getElem] at hm
  obtain ⟨j, hj, he⟩ := hm
  refine (rep_iff hx).1 hr ?_
  have := h.2 j i (by omega) hi (by rw [List.getElem?_eq_getElem (by omega), he, hy])
  rw [List.mem_take_iff_getElem]
  refine ⟨j, by omega, ?_⟩
  rw [hx, List.getElem?_eq_getElem (by omega)] at this
  exact Option.some.inj this
theorem finer_len {r : List β} {l : List α} (h : Finer r l) : (dist l).length ≤ (dist r).length := by
  rw [dist_reps, dist_reps, h.1]
  have e : (List.range l.length).filter (isRep l) = ((List.range l.length).filter (isRep r)).filter (isRep l) := by
    rw [List.filter_filter]
    apply List.filter_congr
    intro i hi
    rw [List.mem_range] at hi
    cases hl : isRep l i with
    | false => simp
    | true => rw [finer_rep h hi hl]; rfl
  rw [e]
  exact List.length_filter_le _ _
theorem finer_same {r : List β} {l : List α} (h : Finer r l) (hc : (dist r).length = (dist l).length) : fstL r = fstL l := by
  have hrep : ∀ i, i < l.length → isRep r i = true → isRep l i = true := by
    have e : (List.range l.length).filter (isRep l) = ((List.range l.length).filter (isRep r)).filter (isRep l) := by
      rw [List.filter_filter]
      apply List.filter_congr
      intro i hi
      rw [List.mem_range] at hi
      cases hl : isRep l i with
      | false => simp
      | true => rw [finer_rep h hi hl]; rfl
    rw [dist_reps, dist_reps, h.1, e] at hc
    have he := List.Sublist.eq_of_length (List.filter_sublist (l := (List.range l.length).filter (isRep r)) (p := isRep l)) hc.symm
    intro i hi hr
    have hm : i ∈ (List.range l.length).filter (isRep r) := by rw [List.mem_filter, List.mem_range]; exact ⟨hi, hr⟩
    rw [← he, List.mem_filter] at hm
    exact hm.2
  apply List.ext_getElem?
  intro i
  by_cases hi : i < l.length
  · have hx : l[i]? = some l[i] := List.getElem?_eq_getElem hi
    have hir : i < r.length := by rw [h.1]; exact hi
    have hy : r[i]? = some r[i] := List.getElem?_eq_getElem hir
    rw [fstL_at hx, fstL_at hy]
    obtain ⟨k, k1, k2, k3⟩ := at1_ex (List.mem_of_getElem? hy)
    have hk := (List.getElem?_eq_some_iff.1 k1).1
    have hkl : k < l.length := by rw [← h.1]; exact hk
    have hrk : isRep r k = true := by unfold isRep; rw [decide_eq_true_eq, fstL_at k1, k3]
    have hlk := hrep k hkl hrk
    have hxk : l[k]? = some l[k] := List.getElem?_eq_getElem hkl
    have hki := h.2 k i hkl hi (by rw [k1, hy])
    unfold isRep at hlk
    rw [decide_eq_true_eq, fstL_at hxk] at hlk
    have e2 : l[k] = l[i] := by rw [hxk, hx] at hki; exact Option.some.inj hki
    rw [k3, ← e2]
    exact hlk.symm
  · rw [List.getElem?_eq_none (by rw [fstL_length, h.1]; omega), List.getElem?_eq_none (by simp; omega)]
theorem same_len {r : List β} {l : List α} (hl : r.length = l.length) (h : fstL r = fstL l) : (dist r).length = (dist l).length := by
  rw [dist_reps, dist_reps, hl]
  have : isRep r = isRep l := by funext i; unfold isRep; rw [h]
  rw [this]
theorem dist_alike {r : List β} {l : List α} (h : Alike r l) : (dist r).length = (dist l).length := same_len h.1 (fstL_alike h)
end

/-! ### the classes, round by round -/
abbrev Mk := Int × Int × Int × Int
def clA (c : List Int) (k : Int) : Int := c.getD k.toNat 0
def mkAt (m : Mach) (c : List Int) (i : Nat) : Mk := (clA c (i : Int), clA c (goI m (i : Int) 0), clA c (goI m (i : Int) 1), clA c (goI m (i : Int) 2))
def marksR (m : Mach) (c : List Int) : List Mk := (List.range m.1.length).map (mkAt m c)
def mk0 (m : Mach) : List Mk := m.2.map fun e => (if e = true then 1 else 0, 0, 0, 0)
def cl (m : Mach) : Nat → List Int
  | 0 => fstL m.2
  | r + 1 => fstL (marksR m (cl m r))
def nw (m : Mach) : Nat → List Int
  | 0 => numR (mk0 m)
  | r + 1 => numR (marksR m (nw m r))
def cnt (m : Mach) : Nat → Nat
  | 0 => (dist (mk0 m)).length
  | r + 1 => (dist (marksR m (nw m r))).length
@[simp] theorem marksR_length (m : Mach) (c : List Int) : (marksR m c).length = m.1.length := by simp [marksR]
theorem marks_at {m : Mach} {c : List Int} {i : Nat} (hi : i < m.1.length) : (marksR m c)[i]? = some (mkAt m c i) := by simp [marksR, hi]
theorem mk0_alike (m : Mach) : Alike (mk0 m) m.2 := by
  refine ⟨by simp [mk0], fun i j hi hj => ?_⟩
  simp only [mk0, List.length_map] at hi hj
  simp only [mk0, List.getElem?_map, List.getElem?_eq_getElem hi, List.getElem?_eq_getElem hj, Option.map_some, Option.some.injEq]
  constructor
  · intro h
    have := congrArg Prod.fst h
    cases h1 : m.2[i] <;> cases h2 : m.2[j] <;> simp [h1, h2] at this ⊢
  · intro h; rw [h]
theorem clA_at {c : List Int} {k : Nat} {x : Int} (h : c[k]? = some x) : clA c (k : Int) = x := by
  unfold clA; simp [List.getD, h]
theorem marks_alike {m : Mach} (hm : GoodM m) {c d : List Int} (hl : c.length = m.1.length) (h : Alike c d) : Alike (marksR m c) (marksR m d) := by
  have ha : ∀ x y : Int, 0 ≤ x → x < (m.1.length : Int) → 0 ≤ y → y < (m.1.length : Int) → (clA c x = clA c y ↔ clA d x = clA d y) := by
    intro x y hx0 hx1 hy0 hy1
    have hxl : x.toNat < c.length := by omega
    have hyl : y.toNat < c.length := by omega
    have h2 := h.1
    have e := h.2 x.toNat y.toNat hxl hyl
    rw [List.getElem?_eq_getElem hxl, List.getElem?_eq_getElem hyl, List.getElem?_eq_getElem (l := d) (by omega), List.getElem?_eq_getElem (l := d) (by omega), Option.some.injEq, Option.some.injEq] at e
    unfold clA
    simpa [List.getD, hxl, hyl, (show x.toNat < d.length by omega), (show y.toNat < d.length by omega)] using e
  refine ⟨by simp, fun i j hi hj => ?_⟩
  rw [marksR_length] at hi hj
  rw [marks_at hi, marks_at hj, marks_at hi, marks_at hj, Option.some.injEq, Option.some.injEq]
  unfold mkAt
  rw [Prod.mk.injEq, Prod.mk.injEq, Prod.mk.injEq, Prod.mk.injEq, Prod.mk.injEq, Prod.mk.injEq]
  have g : ∀ k, k < 3 → (clA c (goI m (i : Int) k) = clA c (goI m (j : Int) k) ↔ clA d (goI m (i : Int) k) = clA d (goI m (j : Int) k)) := by
    intro k hk
    have h1 := (goI_in hm (p := (i : Int)) (by omega) (by omega) hk).2
    have h2 := (goI_in hm (p := (j : Int)) (by omega) (by omega) hk).2
    exact ha _ _ h1.1 h1.2 h2.1 h2.2
  rw [ha i j (by omega) (by omega) (by omega) (by omega), g 0 (by omega), g 1 (by omega), g 2 (by omega)]
theorem cl_length {m : Mach} (hm : GoodM m) : ∀ r, (cl m r).length = m.1.length
  | 0 => by rw [cl, fstL_length]; exact hm.ends
  | r + 1 => by rw [cl, fstL_length, marksR_length]
theorem nw_length {m : Mach} (hm : GoodM m) : ∀ r, (nw m r).length = m.1.length
  | 0 => by rw [nw, numR_length]; simp only [mk0, List.length_map]; exact hm.ends
  | r + 1 => by rw [nw, numR_length, marksR_length]
theorem cl_nw {m : Mach} (hm : GoodM m) : ∀ r, fstL (nw m r) = cl m r
  | 0 => by
    rw [nw, cl, ← fstL_alike (alike_num (mk0 m))]
    exact fstL_alike (mk0_alike m)
  | r + 1 => by
    have ih := cl_nw hm r
    rw [nw, cl, ← fstL_alike (alike_num (marksR m (nw m r)))]
    refine fstL_alike (marks_alike hm (nw_length hm r) ?_)
    have := alike_fst (nw m r)
    rwa [ih] at this
theorem cl_alike {m : Mach} (hm : GoodM m) (r : Nat) : Alike (nw m r) (cl m r) := by have := alike_fst (nw m r); rwa [cl_nw hm r] at this
theorem cnt_nw {m : Mach} (r : Nat) : cnt m r = (dist (nw m r)).length := by
  cases r with
  | zero => rw [cnt, nw]; exact dist_alike (alike_num _)
  | succ r => rw [cnt, nw]; exact dist_alike (alike_num _)
theorem nw_finer {m : Mach} (hm : GoodM m) (r : Nat) : Finer (nw m (r + 1)) (nw m r) := by
  refine ⟨by rw [nw_length hm, nw_length hm], fun i j hi hj h => ?_⟩
  rw [nw_length hm] at hi hj
  have h1 := ((alike_num (marksR m (nw m r))).2 i j (by simpa using hi) (by simpa using hj)).2 h
  rw [marks_at hi, marks_at hj, Option.some.injEq] at h1
  have h2 := congrArg Prod.fst h1
  have hi2 : i < (nw m r).length := by rw [nw_length hm]; exact hi
  have hj2 : j < (nw m r).length := by rw [nw_length hm]; exact hj
  rw [List.getElem?_eq_getElem hi2, List.getElem?_eq_getElem hj2]
  simp only [mkAt] at h2
  rw [clA_at (List.getElem?_eq_getElem hi2), clA_at (List.getElem?_eq_getElem hj2)] at h2
  rw [h2]
/-- both tell alike that nothing turns -/
theorem stop_iff {m : Mach} (hm : GoodM m) (r : Nat) : cnt m (r + 1) = cnt m r ↔ cl m (r + 1) = cl m r := by
  rw [cnt_nw, cnt_nw, ← cl_nw hm, ← cl_nw hm]
  constructor
  · intro h; exact finer_same (nw_finer hm r) h
  · intro h; exact same_len (by rw [nw_length hm, nw_length hm]) h
theorem cnt_mono {m : Mach} (hm : GoodM m) (r : Nat) : cnt m r ≤ cnt m (r + 1) := by rw [cnt_nw, cnt_nw]; exact finer_len (nw_finer hm r)
theorem cnt_le {m : Mach} (hm : GoodM m) (r : Nat) : cnt m r ≤ m.1.length := by rw [cnt_nw]; have := dist_len (nw m r); rw [nw_length hm] at this; exact this
theorem cnt_pos {m : Mach} (hm : GoodM m) (r : Nat) : 1 ≤ cnt m r := by
  rw [cnt_nw]
  have h1 := hm.n1
  have h2 : 0 < (nw m r).length := by rw [nw_length hm]; omega
  have h3 := (dist_mem (nw m r)).2 (List.getElem_mem h2)
  have := List.length_pos_of_mem h3
  omega
/-- the round in which nothing turns -/
def rndF (m : Mach) : Nat → Nat → Nat
  | 0, r => r
  | f + 1, r => if cl m (r + 1) = cl m r then r else rndF m f (r + 1)
def rnd (m : Mach) : Nat := rndF m 12 0
/-- what holds when round r begins -/
structure AtR (m : Mach) (r : Nat) : Prop where
  le : r < 12
  grew : r + 1 ≤ cnt m r
  is : rnd m = rndF m (12 - r) r
theorem AtR.zero {m : Mach} (hm : GoodM m) : AtR m 0 := ⟨by omega, cnt_pos hm 0, rfl⟩
theorem AtR.stop {m : Mach} {r : Nat} (h : AtR m r) (hs : cl m (r + 1) = cl m r) : rnd m = r := by
  rw [h.is]
  have h1 := h.le
  rw [show 12 - r = (11 - r) + 1 by omega, rndF, if_pos hs]
theorem AtR.next {m : Mach} (hm : GoodM m) {r : Nat} (h : AtR m r) (hs : ¬ cl m (r + 1) = cl m r) : AtR m (r + 1) := by
  have h1 := h.le
  have h2 := h.grew
  have h3 := cnt_mono hm r
  have h4 : cnt m (r + 1) ≠ cnt m r := fun e => hs ((stop_iff hm r).1 e)
  have h5 := cnt_le hm (r + 1)
  have h6 := hm.n12
  refine ⟨by omega, by omega, ?_⟩
  rw [h.is, show 12 - r = (12 - (r + 1)) + 1 by omega, rndF, if_neg hs]
theorem rnd_stop {m : Mach} (hm : GoodM m) : cl m (rnd m + 1) = cl m (rnd m) ∧ rnd m < 12 := by
  have : ∀ f r, 12 - r = f → AtR m r → cl m (rnd m + 1) = cl m (rnd m) ∧ rnd m < 12 := by
    intro f
    induction f with
    | zero => intro r hf h; have := h.le; omega
    | succ f ih =>
      intro r hf h
      by_cases hs : cl m (r + 1) = cl m r
      · rw [h.stop hs]; exact ⟨hs, h.le⟩
      · exact ih (r + 1) (by omega) (h.next hm hs)
  exact this 12 0 rfl (AtR.zero hm)
def R_ClassesOf (m : Mach) : List Int × Int × Bool := if R_GoodMachine m = true then (cl m (rnd m), (rnd m : Int), true) else ([], 0, false)

/-! ### the least machine -/
def clsR (m : Mach) : List Int := cl m (rnd m)
def mC (m : Mach) : Mach := (m.1.map fun row => row.map (clA (clsR m)), m.2)
def ordC (m : Mach) : List Int := ordR (mC m) 12
def R_LeastOf (m : Mach) : Mach × Bool :=
  if R_GoodMachine m = true then (((ordC m).map fun s => (rowAt (mC m) s).map (at1 (ordC m)), (ordC m).map (endI m)), true) else (([], []), false)
theorem cl_in {m : Mach} (hm : GoodM m) (r : Nat) {k : Int} (h0 : 0 ≤ k) (h1 : k < (m.1.length : Int)) : 0 ≤ clA (cl m r) k ∧ clA (cl m r) k ≤ k := by
  have hk : k.toNat < (nw m r).length := by rw [nw_length hm]; omega
  have hx : (nw m r)[k.toNat]? = some (nw m r)[k.toNat] := List.getElem?_eq_getElem hk
  have h2 := fstL_at hx
  rw [cl_nw hm] at h2
  have h3 := clA_at h2
  rw [show ((k.toNat : Nat) : Int) = k by omega] at h3
  rw [h3]
  have := fstL_le hx
  omega
theorem mC_rows (m : Mach) : (mC m).1.length = m.1.length := by simp [mC]
theorem mC_good {m : Mach} (hm : GoodM m) : GoodM (mC m) := by
  refine ⟨by rw [mC_rows]; exact hm.n1, by rw [mC_rows]; exact hm.n12, by rw [mC_rows]; exact hm.ends, fun k l hl => ?_⟩
  simp only [mC, List.getElem?_map, Option.map_eq_some_iff] at hl
  obtain ⟨row, hr, rfl⟩ := hl
  obtain ⟨h3, hb⟩ := hm.row k row hr
  refine ⟨by simpa using h3, fun j y hy => ?_⟩
  rw [mC_rows]
  simp only [List.getElem?_map, Option.map_eq_some_iff] at hy
  obtain ⟨z, hz, rfl⟩ := hy
  have h4 := hb j z hz
  have h5 := cl_in hm (rnd m) h4.1 h4.2
  have h6 : clA (clsR m) z = clA (cl m (rnd m)) z := rfl
  omega
theorem mC_row {m : Mach} (hm : GoodM m) {k : Int} (h0 : 0 ≤ k) (h1 : k < (m.1.length : Int)) : rowAt (mC m) k = (rowAt m k).map (clA (clsR m)) := by
  have hk : k.toNat < m.1.length := by omega
  unfold rowAt mC
  simp [List.getD, hk]
end Go.Proofs.Ytedjahinlpehgaa
