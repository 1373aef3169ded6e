/- Programs of filters in plain Lean: what a want is compiled to, and that it tells what the want tells. No program in sight. -/
import Derived.Test.YtlmgckijbamgpaaFltL
namespace Go.Proofs.Ytlmgckijbamgpaa
set_option linter.unusedVariables false
set_option linter.unusedSimpArgs false
set_option maxRecDepth 100000

structure Ins where
  code : Int
  kind : Int
  no : Int
  num : Int
  text : ByteArray
  dest : Int
def insv (x : Ins) : List Value := [.int .i64 x.code, .int .i64 x.kind, .int .i64 x.no, .int .i64 x.num, .string x.text, .int .i64 x.dest]
def insV (l : List Ins) : List Value := (l.map insv).flatten
theorem insV_cons (f : Ins) (l : List Ins) : insV (f :: l) = .int .i64 f.code :: .int .i64 f.kind :: .int .i64 f.no :: .int .i64 f.num :: .string f.text :: .int .i64 f.dest :: insV l := rfl
theorem insV_append (a b : List Ins) : insV (a ++ b) = insV a ++ insV b := by simp [insV]
theorem insV_snoc (l : List Ins) (f : Ins) : insV (l ++ [f]) = insV l ++ [.int .i64 f.code, .int .i64 f.kind, .int .i64 f.no, .int .i64 f.num, .string f.text, .int .i64 f.dest] := by simp [insV, insv]
theorem insV_len : ∀ (l : List Ins), (insV l).length = l.length * 6
  | [] => rfl
  | f :: r => by rw [insV_cons]; simp only [List.length_cons]; rw [insV_len r]; omega
theorem insV_ne {l : List Ins} {k : Nat} (h : k < l.length) : insV l ≠ [] := by
  intro e; have := congrArg List.length e; rw [insV_len] at this; simp at this; omega
theorem insV_at : ∀ (l : List Ins) (i : Nat) (f : Ins), l[i]? = some f → (insV l)[i * 6]? = some (.int .i64 f.code) ∧ (insV l)[i * 6 + 1]? = some (.int .i64 f.kind) ∧ (insV l)[i * 6 + 2]? = some (.int .i64 f.no) ∧ (insV l)[i * 6 + 3]? = some (.int .i64 f.num) ∧ (insV l)[i * 6 + 4]? = some (.string f.text) ∧ (insV l)[i * 6 + 5]? = some (.int .i64 f.dest)
  | [], i, f, h => by simp at h
  | x :: r, 0, f, h => by simp at h; subst h; exact ⟨rfl, rfl, rfl, rfl, rfl, rfl⟩
  | x :: r, i + 1, f, h => by
    have := insV_at r i f (by simpa using h)
    rw [insV_cons]
    have e : ∀ j, (i + 1) * 6 + j = i * 6 + j + 1 + 1 + 1 + 1 + 1 + 1 := fun j => by omega
    refine ⟨?_, ?_, ?_, ?_, ?_, ?_⟩
    · rw [show (i + 1) * 6 = i * 6 + 1 + 1 + 1 + 1 + 1 + 1 by omega]; simpa using this.1
    · rw [e 1]; simpa using this.2.1
    · rw [e 2]; simpa using this.2.2.1
    · rw [e 3]; simpa using this.2.2.2.1
    · rw [e 4]; simpa using this.2.2.2.2.1
    · rw [e 5]; simpa using this.2.2.2.2.2
theorem insV_oc (l : List Ins) : ∀ u ∈ insV l, u.oneCell' = true := by
  intro u hu
  unfold insV insv at hu
  rw [List.mem_flatten] at hu
  obtain ⟨x, hx, hu⟩ := hu
  obtain ⟨f, _, rfl⟩ := List.mem_map.1 hx
  simp only [List.mem_cons, List.not_mem_nil, or_false] at hu
  rcases hu with rfl | rfl | rfl | rfl | rfl | rfl <;> rfl
/-- the number and the target of one are turned -/
def setNum (l : List Ins) (k : Nat) (u : Int) : List Ins := match l[k]? with
  | none => l
  | some f => l.set k ⟨f.code, f.kind, f.no, u, f.text, f.dest⟩
def setTo (l : List Ins) (k : Nat) (u : Int) : List Ins := match l[k]? with
  | none => l
  | some f => l.set k ⟨f.code, f.kind, f.no, f.num, f.text, u⟩
theorem insV_num : ∀ (l : List Ins) (k : Nat) (u : Int), (insV l).set (k * 6 + 3) (.int .i64 u) = insV (setNum l k u)
  | [], k, u => by simp [insV, setNum]
  | x :: r, 0, u => rfl
  | x :: r, k + 1, u => by
    have ih := insV_num r k u
    have e : setNum (x :: r) (k + 1) u = x :: setNum r k u := by
      unfold setNum
      simp only [List.getElem?_cons_succ]
      cases r[k]? <;> rfl
    rw [e, insV_cons, insV_cons, ← ih, show (k + 1) * 6 + 3 = k * 6 + 3 + 1 + 1 + 1 + 1 + 1 + 1 by omega]
    simp only [List.set_cons_succ]
theorem insV_to : ∀ (l : List Ins) (k : Nat) (u : Int), (insV l).set (k * 6 + 5) (.int .i64 u) = insV (setTo l k u)
  | [], k, u => by simp [insV, setTo]
  | x :: r, 0, u => rfl
  | x :: r, k + 1, u => by
    have ih := insV_to r k u
    have e : setTo (x :: r) (k + 1) u = x :: setTo r k u := by
      unfold setTo
      simp only [List.getElem?_cons_succ]
      cases r[k]? <;> rfl
    rw [e, insV_cons, insV_cons, ← ih, show (k + 1) * 6 + 5 = k * 6 + 5 + 1 + 1 + 1 + 1 + 1 + 1 by omega]
    simp only [List.set_cons_succ]
theorem setNum_mid (a b : List Ins) (f : Ins) (u : Int) : setNum (a ++ f :: b) a.length u = a ++ ⟨f.code, f.kind, f.no, u, f.text, f.dest⟩ :: b := by simp [setNum]
theorem setTo_mid (a b : List Ins) (f : Ins) (u : Int) : setTo (a ++ f :: b) a.length u = a ++ ⟨f.code, f.kind, f.no, f.num, f.text, u⟩ :: b := by simp [setTo]

/-! ### what a want is compiled to -/
def cmpW (l : List Wn) : Nat → Nat → Nat → List Ins
  | 0, _, _ => []
  | f + 1, k, off => match l[k]? with
    | none => []
    | some w => if w.kind = 8 then cmpW l f w.a.toNat off ++ [⟨4, 0, 0, 0, ⟨#[]⟩, 0⟩]
        else if w.kind = 6 ∨ w.kind = 7 then cmpW l f w.a.toNat off ++ ⟨3, 0, 0, if w.kind = 7 then 1 else 0, ⟨#[]⟩, ((off + (cmpW l f w.a.toNat off).length + 1 + (cmpW l f w.b.toNat (off + (cmpW l f w.a.toNat off).length + 1)).length : Nat) : Int)⟩ :: cmpW l f w.b.toNat (off + (cmpW l f w.a.toNat off).length + 1)
        else [⟨1, 0, w.no, 0, ⟨#[]⟩, 0⟩, ⟨2, w.kind, 0, w.num, w.text, 0⟩]
def cmp (l : List Wn) (k off : Nat) : List Ins := cmpW l (k + 1) k off
theorem cmpW_more {l : List Wn} (h : okAll l 0 = true) : ∀ (k f : Nat) (off : Nat), k < f → cmpW l f k off = cmp l k off := by
  intro k
  induction k using Nat.strongRecOn with
  | ind k ih =>
    intro f off hf
    obtain ⟨f, rfl⟩ : ∃ g, f = g + 1 := ⟨f - 1, by omega⟩
    unfold cmp
    rw [cmpW, cmpW]
    cases hw : l[k]? with
    | none => rfl
    | some w =>
      have ho := okAll_at l 0 k w h hw
      rw [Nat.zero_add] at ho
      simp only
      by_cases h8 : w.kind = 8
      · have := ok8 ho h8
        rw [if_pos h8, if_pos h8, ih w.a.toNat (by omega) f off (by omega), ih w.a.toNat (by omega) k off (by omega)]
      · rw [if_neg h8, if_neg h8]
        by_cases h67 : w.kind = 6 ∨ w.kind = 7
        · have := ok67 ho h67
          rw [if_pos h67, if_pos h67, ih w.a.toNat (by omega) f off (by omega), ih w.a.toNat (by omega) k off (by omega), ih w.b.toNat (by omega) f _ (by omega), ih w.b.toNat (by omega) k _ (by omega)]
        · rw [if_neg h67, if_neg h67]
theorem cmp_eq {l : List Wn} (h : okAll l 0 = true) {k : Nat} {w : Wn} (off : Nat) (hw : l[k]? = some w) : cmp l k off = (if w.kind = 8 then cmp l w.a.toNat off ++ [⟨4, 0, 0, 0, ⟨#[]⟩, 0⟩]
        else if w.kind = 6 ∨ w.kind = 7 then cmp l w.a.toNat off ++ ⟨3, 0, 0, if w.kind = 7 then 1 else 0, ⟨#[]⟩, ((off + (cmp l w.a.toNat off).length + 1 + (cmp l w.b.toNat (off + (cmp l w.a.toNat off).length + 1)).length : Nat) : Int)⟩ :: cmp l w.b.toNat (off + (cmp l w.a.toNat off).length + 1)
        else [⟨1, 0, w.no, 0, ⟨#[]⟩, 0⟩, ⟨2, w.kind, 0, w.num, w.text, 0⟩]) := by
  have ho := okAll_at l 0 k w h hw
  rw [Nat.zero_add] at ho
  conv => lhs; unfold cmp
  rw [cmpW, hw]
  simp only
  by_cases h8 : w.kind = 8
  · have := ok8 ho h8
    rw [if_pos h8, if_pos h8, cmpW_more h _ _ _ (show w.a.toNat < k by omega)]
  · rw [if_neg h8, if_neg h8]
    by_cases h67 : w.kind = 6 ∨ w.kind = 7
    · have := ok67 ho h67
      rw [if_pos h67, if_pos h67, cmpW_more h _ _ _ (show w.a.toNat < k by omega), cmpW_more h _ _ _ (show w.b.toNat < k by omega)]
    · rw [if_neg h67, if_neg h67]
/-- how long it is -/
def ln (l : List Wn) (k : Nat) : Nat := (cmp l k 0).length
theorem cmp_len {l : List Wn} (h : okAll l 0 = true) : ∀ (k off : Nat), (cmp l k off).length = ln l k := by
  intro k
  induction k using Nat.strongRecOn with
  | ind k ih =>
    intro off
    unfold ln
    cases hw : l[k]? with
    | none => unfold cmp; rw [cmpW, cmpW, hw]
    | some w =>
      have ho := okAll_at l 0 k w h hw
      rw [Nat.zero_add] at ho
      rw [cmp_eq h off hw, cmp_eq h 0 hw]
      by_cases h8 : w.kind = 8
      · have := ok8 ho h8
        rw [if_pos h8, if_pos h8, List.length_append, List.length_append, ih _ (by omega), ih _ (by omega)]
      · rw [if_neg h8, if_neg h8]
        by_cases h67 : w.kind = 6 ∨ w.kind = 7
        · have := ok67 ho h67
          rw [if_pos h67, if_pos h67, List.length_append, List.length_append, List.length_cons, List.length_cons, ih w.a.toNat (by omega), ih w.a.toNat (by omega), ih w.b.toNat (by omega), ih w.b.toNat (by omega)]
        · rw [if_neg h67, if_neg h67]
theorem ln_le {l : List Wn} (h : okAll l 0 = true) {k : Nat} {w : Wn} (hw : l[k]? = some w) : ln l k ≤ 2 + ((partsW w).map fun p => ln l p.toNat).sum := by
  conv => lhs; unfold ln
  rw [cmp_eq h 0 hw]
  unfold partsW
  by_cases h8 : w.kind = 8
  · rw [if_pos h8, if_neg (by omega), if_pos h8, List.length_append, cmp_len h]
    simp
    omega
  · rw [if_neg h8]
    by_cases h67 : w.kind = 6 ∨ w.kind = 7
    · rw [if_pos h67, if_pos h67, List.length_append, List.length_cons, cmp_len h, cmp_len h]
      simp
      omega
    · rw [if_neg h67, if_neg h67, if_neg h8]
      simp
theorem ln_tele {l : List Wn} (h : okAll l 0 = true) : ∀ m, m ≤ l.length → ((List.range m).map (ln l)).sum ≤ 2 * m + (((l.take m).flatMap partsW).map fun p => ln l p.toNat).sum
  | 0, _ => by simp
  | m + 1, hm => by
    have ih := ln_tele h m (by omega)
    have hw : l[m]? = some (l[m]'(by omega)) := List.getElem?_eq_getElem (by omega)
    have h1 := ln_le h hw
    rw [List.range_succ, List.map_append, List.sum_append, List.take_succ_eq_append_getElem (by omega), List.flatMap_append, List.map_append, List.sum_append]
    simp only [List.map_cons, List.map_nil, List.sum_cons, List.sum_nil, List.flatMap_cons, List.flatMap_nil, List.append_nil]
    omega
theorem flat_perm {l : List Wn} (h : R_GoodW l = true) : (l.flatMap partsW).Perm ((List.range (l.length - 1)).map fun (j : Nat) => (j : Int)) := by
  have hg := good_iff.1 h
  rw [List.perm_iff_count]
  intro a
  have hc : ∀ (n : Nat) (a : Int), ((List.range n).map fun (j : Nat) => (j : Int)).count a = if 0 ≤ a ∧ a < (n : Int) then 1 else 0 := by
    intro n a
    induction n with
    | zero => rw [if_neg (show ¬ (0 ≤ a ∧ a < ((0 : Nat) : Int)) by omega)]; rfl
    | succ n ih =>
      rw [List.range_succ, List.map_append, List.count_append, ih]
      simp only [List.map_cons, List.map_nil, List.count_cons, List.count_nil]
      by_cases e : (n : Int) = a
      · rw [if_neg (show ¬ (0 ≤ a ∧ a < (n : Int)) by omega), if_pos (show 0 ≤ a ∧ a < ((n + 1 : Nat) : Int) by omega), if_pos (beq_iff_eq.2 e)]
      · rw [if_neg (show ¬ ((n : Int) == a) = true by rw [beq_iff_eq]; exact e)]
        by_cases c : 0 ≤ a ∧ a < (n : Int)
        · rw [if_pos c, if_pos (show 0 ≤ a ∧ a < ((n + 1 : Nat) : Int) by omega)]
        · rw [if_neg c, if_neg (show ¬ (0 ≤ a ∧ a < ((n + 1 : Nat) : Int)) by omega)]
  rw [hc]
  by_cases c : 0 ≤ a ∧ a < ((l.length - 1 : Nat) : Int)
  · rw [if_pos c]
    have := hg.2.2 a.toNat (by omega)
    rwa [Int.toNat_of_nonneg c.1] at this
  · rw [if_neg c]
    exact count_out (okAll_parts hg.2.1) (by omega)
theorem ln_all {l : List Wn} (h : R_GoodW l = true) : ln l (l.length - 1) ≤ 2 * l.length := by
  have hg := good_iff.1 h
  have h1 := ln_tele hg.2.1 l.length (Nat.le_refl _)
  rw [List.take_length] at h1
  have h2 := ((flat_perm h).map (fun p => ln l p.toNat)).sum_nat
  rw [h2, List.map_map] at h1
  have e : l.length = (l.length - 1) + 1 := by omega
  have e2 : ((fun p => ln l p.toNat) ∘ fun (j : Nat) => (j : Int)) = ln l := by funext j; simp
  rw [e2] at h1
  have e3 : ((List.range l.length).map (ln l)).sum = ((List.range (l.length - 1)).map (ln l)).sum + ln l (l.length - 1) := by
    conv => lhs; rw [e, List.range_succ, List.map_append, List.sum_append]
    simp
  omega
def endI : Ins := ⟨5, 0, 0, 0, ⟨#[]⟩, 0⟩
def R_Compile (l : List Wn) : List Ins × Bool := if R_GoodW l = true then (cmp l (l.length - 1) 0 ++ [endI], true) else ([], false)
theorem cmpl_len {l : List Wn} : (R_Compile l).1.length ≤ 41 := by
  unfold R_Compile
  split
  · rename_i h
    have h1 := ln_all h
    have h2 := good_len h
    show (cmp l (l.length - 1) 0 ++ [endI]).length ≤ 41
    rw [List.length_append, cmp_len (good_ok h)]
    simp; omega
  · simp

/-! ### what is right of an instruction -/
def goodI (x : Ins) (i n : Nat) : Prop :=
  (x.code = 1 ∧ i + 1 < n ∧ (1 ≤ x.no ∧ x.no ≤ 30) ∧ x.kind = 0 ∧ x.num = 0 ∧ x.text = ⟨#[]⟩ ∧ x.dest = 0) ∨
  (x.code = 2 ∧ i + 1 < n ∧ x.no = 0 ∧ x.dest = 0 ∧ TestW x.kind x.num x.text.size) ∨
  (x.code = 3 ∧ i + 1 < n ∧ (x.num = 0 ∨ x.num = 1) ∧ ((i : Int) + 1 ≤ x.dest ∧ x.dest ≤ (n : Int) - 1) ∧ x.kind = 0 ∧ x.no = 0 ∧ x.text = ⟨#[]⟩) ∨
  (x.code = 4 ∧ i + 1 < n ∧ x.kind = 0 ∧ x.no = 0 ∧ x.num = 0 ∧ x.text = ⟨#[]⟩ ∧ x.dest = 0) ∨
  (x.code = 5 ∧ i + 1 = n ∧ x.kind = 0 ∧ x.no = 0 ∧ x.num = 0 ∧ x.text = ⟨#[]⟩ ∧ x.dest = 0)
def GoodP (p : List Ins) : Prop := (1 ≤ p.length ∧ p.length ≤ 60) ∧ ∀ i x, p[i]? = some x → goodI x i p.length
theorem okl {w : Wn} {k : Nat} (h : OkW w k) (h67 : ¬ (w.kind = 6 ∨ w.kind = 7)) (h8 : ¬ w.kind = 8) : (1 ≤ w.no ∧ w.no ≤ 30) ∧ TestW w.kind w.num w.text.size := by
  unfold OkW at h
  rcases h with h | h | h
  · exact absurd h.1 h67
  · exact absurd h.1 h8
  · exact ⟨h.1, h.2.1⟩
theorem cmp_good {l : List Wn} (h : okAll l 0 = true) : ∀ (k off N : Nat), off + (cmp l k off).length < N → ∀ i x, (cmp l k off)[i]? = some x → goodI x (off + i) N := by
  intro k
  induction k using Nat.strongRecOn with
  | ind k ih =>
    intro off N hN i x hx
    cases hw : l[k]? with
    | none => unfold cmp at hx; rw [cmpW, hw] at hx; simp at hx
    | some w =>
      have ho := okAll_at l 0 k w h hw
      rw [Nat.zero_add] at ho
      rw [cmp_eq h off hw] at hx hN
      by_cases h8 : w.kind = 8
      · have := ok8 ho h8
        rw [if_pos h8] at hx hN
        rw [List.length_append, List.length_singleton] at hN
        rw [List.getElem?_append] at hx
        split at hx
        · exact ih _ (by omega) off N (by omega) i x hx
        · rename_i hi
          have hi2 : i = (cmp l w.a.toNat off).length := by
            have := (List.getElem?_eq_some_iff.1 hx).1
            simp at this; omega
          subst hi2
          simp at hx
          subst hx
          right; right; right; left
          exact ⟨rfl, by omega, rfl, rfl, rfl, rfl, rfl⟩
      · rw [if_neg h8] at hx hN
        by_cases h67 : w.kind = 6 ∨ w.kind = 7
        · have := ok67 ho h67
          rw [if_pos h67] at hx hN
          rw [List.length_append, List.length_cons] at hN
          rw [List.getElem?_append] at hx
          split at hx
          · exact ih _ (by omega) off N (by omega) i x hx
          · rename_i hi
            cases hj : i - (cmp l w.a.toNat off).length with
            | zero =>
              rw [hj, List.getElem?_cons_zero, Option.some.injEq] at hx
              subst hx
              right; right; left
              refine ⟨rfl, by omega, ?_, by simp only; omega, rfl, rfl, rfl⟩
              simp only
              split
              · exact .inr rfl
              · exact .inl rfl
            | succ j =>
              rw [hj, List.getElem?_cons_succ] at hx
              have := ih _ (show w.b.toNat < k by omega) (off + (cmp l w.a.toNat off).length + 1) N (by omega) j x hx
              rwa [show off + (cmp l w.a.toNat off).length + 1 + j = off + i by omega] at this
        · rw [if_neg h67] at hx hN
          obtain ⟨q1, q2⟩ := okl ho h67 h8
          simp at hN
          match i, hx with
          | 0, hx =>
            simp at hx; subst hx
            left
            exact ⟨rfl, by omega, q1, rfl, rfl, rfl, rfl⟩
          | 1, hx =>
            simp at hx; subst hx
            right; left
            exact ⟨rfl, by omega, rfl, rfl, q2⟩
          | i + 2, hx => simp at hx
theorem cmpl_good {l : List Wn} (h : R_GoodW l = true) : GoodP (cmp l (l.length - 1) 0 ++ [endI]) := by
  have h1 := ln_all h
  have h2 := good_len h
  have hl : (cmp l (l.length - 1) 0 ++ [endI]).length = ln l (l.length - 1) + 1 := by rw [List.length_append, cmp_len (good_ok h)]; rfl
  refine ⟨by rw [hl]; omega, fun i x hx => ?_⟩
  rw [hl]
  rw [List.getElem?_append] at hx
  split at hx
  · have := cmp_good (good_ok h) (l.length - 1) 0 (ln l (l.length - 1) + 1) (by rw [cmp_len (good_ok h)]; omega) i x hx
    rwa [Nat.zero_add] at this
  · rename_i hi
    have hi2 : i = (cmp l (l.length - 1) 0).length := by
      have := (List.getElem?_eq_some_iff.1 hx).1
      simp at this; omega
    subst hi2
    simp at hx
    subst hx
    rw [cmp_len (good_ok h)]
    right; right; right; right
    exact ⟨rfl, rfl, rfl, rfl, rfl, rfl, rfl⟩

/-! ### how it runs -/
def tstI (l : List Fld) (pl : Int) (x : Ins) : Bool := decide (0 ≤ pl) && (match l[pl.toNat]? with | some f => fldA f.kind f.num f.data x.kind x.num x.text | none => false)
def fidxI {α : Type} (p : α → Bool) (xs : List α) : Int := match xs.findIdx? p with | some i => (i : Int) | none => -1
def fpos (l : List Fld) (no : Int) : Int := fidxI (fun f => f.no == no) l
def nxt (x : Ins) (l : List Fld) (at' : Nat) (flag : Bool) (pl : Int) : Nat × Bool × Int :=
  if x.code = 1 then (at' + 1, flag, fpos l x.no)
  else if x.code = 2 then (at' + 1, tstI l pl x, pl)
  else if x.code = 3 then ((if flag = (x.num == 1) then x.dest.toNat else at' + 1), flag, pl)
  else (at' + 1, !flag, pl)
inductive Runs (p : List Ins) (l : List Fld) : Nat → Bool → Int → Bool → Prop
  | fin {at' : Nat} {flag : Bool} {pl : Int} {x : Ins} : p[at']? = some x → x.code = 5 → Runs p l at' flag pl flag
  | go {at' : Nat} {flag : Bool} {pl : Int} {x : Ins} {R : Bool} : p[at']? = some x → ¬ x.code = 5 → Runs p l (nxt x l at' flag pl).1 (nxt x l at' flag pl).2.1 (nxt x l at' flag pl).2.2 R → Runs p l at' flag pl R
theorem Runs.inv {p : List Ins} {l : List Fld} {at' : Nat} {flag : Bool} {pl : Int} {R : Bool} (h : Runs p l at' flag pl R) : ∃ x, p[at']? = some x ∧ ((x.code = 5 ∧ R = flag) ∨ (¬ x.code = 5 ∧ Runs p l (nxt x l at' flag pl).1 (nxt x l at' flag pl).2.1 (nxt x l at' flag pl).2.2 R)) := by
  cases h with
  | fin h1 h2 => exact ⟨_, h1, .inl ⟨h2, rfl⟩⟩
  | go h1 h2 h3 => exact ⟨_, h1, .inr ⟨h2, h3⟩⟩
theorem tst_leaf (fs : List Fld) (w : Wn) : tstI fs (fpos fs w.no) ⟨2, w.kind, 0, w.num, w.text, 0⟩ = leafF fs w := by
  unfold tstI fpos fidxI leafF
  cases h : fs.findIdx? (fun f => f.no == w.no) with
  | none =>
    have : fs.find? (fun f => f.no == w.no) = none := by
      rw [List.find?_eq_none]
      rw [List.findIdx?_eq_none_iff] at h
      intro x hx; rw [h x hx]; simp
    rw [this]; rfl
  | some i =>
    obtain ⟨hi, hp, hn⟩ := List.findIdx?_eq_some_iff_getElem.1 h
    have : fs.find? (fun f => f.no == w.no) = some fs[i] := by
      rw [List.find?_eq_some_iff_getElem]
      refine ⟨hp, i, hi, rfl, fun j hj => ?_⟩
      have := hn j hj
      simpa using this
    rw [this]
    simp only
    rw [decide_eq_true (by omega), Bool.true_and, Int.toNat_natCast, List.getElem?_eq_getElem hi]
    rfl
theorem seg {p : List Ins} {l : List Wn} (fs : List Fld) (hpw : fs.Pairwise (fun x y => x.no < y.no)) (h : okAll l 0 = true) : ∀ (k : Nat), k < l.length → ∀ (off : Nat) (flag : Bool) (pl : Int) (R : Bool), (∀ i x, (cmp l k off)[i]? = some x → p[off + i]? = some x) → (∀ pl', Runs p fs (off + (cmp l k off).length) (soK l fs k) pl' R) → Runs p fs off flag pl R := by
  intro k
  induction k using Nat.strongRecOn with
  | ind k ih =>
    intro hk off flag pl R hp hR
    have hw : l[k]? = some l[k] := List.getElem?_eq_getElem hk
    generalize l[k] = w at hw
    have ho := okAll_at l 0 k w h hw
    rw [Nat.zero_add] at ho
    rw [cmp_eq h off hw] at hp hR
    rw [soK_eq fs h hw] at hR
    by_cases h8 : w.kind = 8
    · have := ok8 ho h8
      rw [if_pos h8] at hp hR
      rw [if_neg (by omega), if_neg (by omega), if_pos h8] at hR
      rw [List.length_append, List.length_singleton] at hR
      refine ih w.a.toNat (by omega) (by omega) off flag pl R (fun i x hx => hp i x ?_) (fun pl' => ?_)
      · rw [List.getElem?_append_left (List.getElem?_eq_some_iff.1 hx).1]; exact hx
      · have hx := hp (cmp l w.a.toNat off).length ⟨4, 0, 0, 0, ⟨#[]⟩, 0⟩ (by simp)
        refine Runs.go hx (by decide) ?_
        have := hR pl'
        rwa [← Nat.add_assoc] at this
    · rw [if_neg h8] at hp hR
      by_cases h67 : w.kind = 6 ∨ w.kind = 7
      · have := ok67 ho h67
        rw [if_pos h67] at hp hR
        rw [List.length_append, List.length_cons] at hR
        have hA : ∀ i x, (cmp l w.a.toNat off)[i]? = some x → p[off + i]? = some x := fun i x hx => hp i x (by rw [List.getElem?_append_left (List.getElem?_eq_some_iff.1 hx).1]; exact hx)
        have hB : ∀ i x, (cmp l w.b.toNat (off + (cmp l w.a.toNat off).length + 1))[i]? = some x → p[off + (cmp l w.a.toNat off).length + 1 + i]? = some x := fun i x hx => by
          have := hp ((cmp l w.a.toNat off).length + (i + 1)) x (by rw [List.getElem?_append_right (by omega), show (cmp l w.a.toNat off).length + (i + 1) - (cmp l w.a.toNat off).length = i + 1 by omega, List.getElem?_cons_succ]; exact hx)
          rwa [show off + ((cmp l w.a.toNat off).length + (i + 1)) = off + (cmp l w.a.toNat off).length + 1 + i by omega] at this
        have hJ := hp (cmp l w.a.toNat off).length _ (by rw [List.getElem?_append_right (Nat.le_refl _), Nat.sub_self, List.getElem?_cons_zero])
        refine ih w.a.toNat (by omega) (by omega) off flag pl R hA (fun pl' => ?_)
        refine Runs.go hJ (show ¬ (3 : Int) = 5 by decide) ?_
        generalize hlb : (cmp l w.b.toNat (off + (cmp l w.a.toNat off).length + 1)).length = lb at *
        generalize hla : (cmp l w.a.toNat off).length = la at *
        have hN : ∀ (num : Int) (f : Bool), nxt ⟨3, 0, 0, num, ⟨#[]⟩, ((off + la + 1 + lb : Nat) : Int)⟩ fs (off + la) f pl' = ((if f = (num == 1) then off + la + 1 + lb else off + la + 1), f, pl') := by
          intro num f
          unfold nxt
          rw [if_neg (show ¬ (3 : Int) = 1 by decide), if_neg (show ¬ (3 : Int) = 2 by decide), if_pos rfl]
          simp only [Int.toNat_natCast]
        rw [hN]
        have hend := hR pl'
        rw [show off + (la + (lb + 1)) = off + la + 1 + lb by omega] at hend
        have hgo : ∀ f, soK l fs w.b.toNat = (if w.kind = 6 then soK l fs w.a.toNat && soK l fs w.b.toNat else if w.kind = 7 then soK l fs w.a.toNat || soK l fs w.b.toNat else if w.kind = 8 then !soK l fs w.a.toNat else leafW fs w) → Runs p fs (off + la + 1) f pl' R := by
          intro f he
          refine ih w.b.toNat (by omega) (by omega) (off + la + 1) f pl' R hB (fun pl2 => ?_)
          have h2 := hR pl2
          rw [show off + (la + (lb + 1)) = off + la + 1 + lb by omega, ← he] at h2
          rw [hlb]; exact h2
        rcases h67 with h6 | h7
        · rw [if_neg (show ¬ w.kind = 7 by omega)]
          rw [if_pos h6] at hend
          rw [if_pos h6] at hgo
          cases ha : soK l fs w.a.toNat with
          | false =>
            rw [ha] at hend
            simp only [Bool.false_and] at hend
            simpa using hend
          | true =>
            rw [ha] at hgo
            simpa using hgo true (by simp)
        · rw [if_pos h7]
          rw [if_neg (show ¬ w.kind = 6 by omega), if_pos h7] at hend
          rw [if_neg (show ¬ w.kind = 6 by omega), if_pos h7] at hgo
          cases ha : soK l fs w.a.toNat with
          | true =>
            rw [ha] at hend
            simp only [Bool.true_or] at hend
            simpa using hend
          | false =>
            rw [ha] at hgo
            simpa using hgo false (by simp)
      · rw [if_neg h67] at hp hR
        rw [if_neg (by omega), if_neg (by omega), if_neg h8] at hR
        have h0 := hp 0 ⟨1, 0, w.no, 0, ⟨#[]⟩, 0⟩ rfl
        have h1 := hp 1 ⟨2, w.kind, 0, w.num, w.text, 0⟩ rfl
        refine Runs.go h0 (show ¬ (1 : Int) = 5 by decide) ?_
        refine Runs.go h1 (show ¬ (2 : Int) = 5 by decide) ?_
        have := hR (fpos fs w.no)
        rw [← leaf_eq w hpw, ← tst_leaf fs w] at this
        exact this
/-- a program of a filter tells what the filter tells -/
theorem run_all {l : List Wn} (fs : List Fld) (hpw : fs.Pairwise (fun x y => x.no < y.no)) (h : R_GoodW l = true) : Runs (cmp l (l.length - 1) 0 ++ [endI]) fs 0 false (-1) (soK l fs (l.length - 1)) := by
  have h2 := good_len h
  refine seg fs hpw (good_ok h) (l.length - 1) (by omega) 0 false (-1) _ (fun i x hx => ?_) (fun pl' => ?_)
  · rw [Nat.zero_add, List.getElem?_append_left (List.getElem?_eq_some_iff.1 hx).1]; exact hx
  · exact Runs.fin (x := endI) (by rw [Nat.zero_add, List.getElem?_append_right (Nat.le_refl _), Nat.sub_self]; rfl) rfl
end Go.Proofs.Ytlmgckijbamgpaa
