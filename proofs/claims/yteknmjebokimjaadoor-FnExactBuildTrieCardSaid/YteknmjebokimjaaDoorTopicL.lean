/- Plain laws of topics and patterns: a text cut at each slash, its levels, what takes in what. No function of the program is named here. -/
import Derived.Test.YteknmjebokimjaaDoorRanges
import Derived.Lib.SplitLaws
import Derived.Lib.IndexBytes
namespace Go.Proofs.YteknmjebokimjaaDoor
set_option linter.unusedVariables false
open Go

/-- a text cut at each byte c -/
def cutL (c : UInt8) : List UInt8 → List (List UInt8)
  | [] => [[]]
  | b :: l => if b == c then [] :: cutL c l else match cutL c l with
    | h :: t => (b :: h) :: t
    | [] => [[b]]
theorem cutL_ne (c : UInt8) (l : List UInt8) : cutL c l ≠ [] := by
  cases l with
  | nil => simp [cutL]
  | cons b l =>
    unfold cutL
    split
    · simp
    · split <;> simp
theorem cutL_eq (c : UInt8) (l : List UInt8) : cutL c (c :: l) = [] :: cutL c l := by simp [cutL]
theorem cutL_cons (c b : UInt8) (l h : List UInt8) (t : List (List UInt8)) (hb : b ≠ c) (hl : cutL c l = h :: t) : cutL c (b :: l) = (b :: h) :: t := by
  simp [cutL, hb, hl]
/-- no c in h, then c: the first piece is h -/
theorem cutL_at (c : UInt8) : ∀ (h r : List UInt8), (∀ x ∈ h, x ≠ c) → cutL c (h ++ c :: r) = h :: cutL c r
  | [], r, _ => cutL_eq c r
  | b :: h, r, hh => by
    rw [List.cons_append]
    exact cutL_cons c b _ h _ (hh b (by simp)) (cutL_at c h r fun x hx => hh x (by simp [hx]))
theorem cutL_none (c : UInt8) : ∀ (h : List UInt8), (∀ x ∈ h, x ≠ c) → cutL c h = [h]
  | [], _ => rfl
  | b :: h, hh => cutL_cons c b _ h _ (hh b (by simp)) (cutL_none c h fun x hx => hh x (by simp [hx]))
theorem cutL_length (c : UInt8) (l : List UInt8) : (cutL c l).length = l.count c + 1 := by
  induction l with
  | nil => rfl
  | cons b l ih =>
    by_cases h : b = c
    · subst h; rw [cutL_eq]; simp [ih]
    · cases hc : cutL c l with
      | nil => exact absurd hc (cutL_ne c l)
      | cons x y => rw [cutL_cons c b l x y h hc, List.count_cons_of_ne (by simpa using h)]; rw [hc] at ih; exact ih

theorem splitK_cut (c : UInt8) : ∀ (n : Nat) (l : List UInt8), l.length ≤ n → Lib.splitK [c] 0 (Lib.count l [c]) l = cutL c l := by
  intro n
  induction n with
  | zero => intro l hl; cases l with
    | nil => rw [Lib.count_one]; rfl
    | cons b l => simp at hl
  | succ n ih =>
    intro l hl
    rw [Lib.count_one]
    by_cases hm : Lib.index l [c] = -1
    · have h0 : ∀ x ∈ l, x ≠ c := by
        rw [Lib.index_one] at hm
        intro x hx e
        subst e
        obtain ⟨k, hk⟩ := List.getElem?_of_mem hx
        exact Lib.indexByte_none hm k hk
      rw [cutL_none c l h0]
      have : l.count c = 0 := List.count_eq_zero.2 fun hc => h0 c hc rfl
      rw [this]; rfl
    · have hge := Lib.index_ge l [c]
      obtain ⟨i, hi⟩ : ∃ i : Nat, Lib.index l [c] = i := ⟨(Lib.index l [c]).toNat, by omega⟩
      have hi' := hi
      rw [Lib.index_one] at hi'
      obtain ⟨hc, hno⟩ := Lib.indexByte_some hi'
      obtain ⟨hlt, hget⟩ := List.getElem?_eq_some_iff.1 hc
      have hl2 : l = l.take i ++ c :: l.drop (i + 1) := by
        rw [← hget, ← List.drop_eq_getElem_cons hlt, List.take_append_drop]
      have hn : ∀ x ∈ l.take i, x ≠ c := by
        intro x hx e
        subst e
        obtain ⟨k, hk⟩ := List.getElem?_of_mem hx
        rw [List.getElem?_take] at hk
        split at hk
        · exact hno k ‹_› hk
        · cases hk
      have hcount : l.count c = (l.drop (i + 1)).count c + 1 := by
        have h0 : (l.take i).count c = 0 := List.count_eq_zero.2 fun hc => hn c hc rfl
        conv => lhs; rw [hl2]
        rw [List.count_append, h0]; simp
      rw [hcount, Lib.splitK, hi]
      have hm' : ¬ ((i : Int) == -1) = true := by simp
      rw [if_neg hm']
      have e1 : ((i : Int)).toNat = i := by omega
      rw [e1]
      simp only [Nat.add_zero, List.length_singleton]
      have hih := ih (l.drop (i + 1)) (by simp; omega)
      rw [Lib.count_one] at hih
      rw [hih]
      conv => rhs; rw [hl2, cutL_at c _ _ hn]


theorem ba_ext {a b : ByteArray} (h : a.data.toList = b.data.toList) : a = b := by
  obtain ⟨⟨x⟩⟩ := a; obtain ⟨⟨y⟩⟩ := b; simp at h; rw [h]
theorem map_data_inj {xs ys : List ByteArray} (h : xs.map (·.data.toList) = ys.map (·.data.toList)) : xs = ys := by
  induction xs generalizing ys with
  | nil => cases ys with
    | nil => rfl
    | cons y ys => simp at h
  | cons x xs ih => cases ys with
    | nil => simp at h
    | cons y ys => simp only [List.map_cons, List.cons.injEq] at h; rw [ba_ext h.1, ih h.2]
/-- the pieces of a text between bytes c -/
def pieces (c : UInt8) (s : ByteArray) : List ByteArray := (cutL c s.data.toList).map fun l => ⟨l.toArray⟩
theorem pieces_data (c : UInt8) (s : ByteArray) : (pieces c s).map (·.data.toList) = cutL c s.data.toList := by
  unfold pieces; rw [List.map_map]; conv => rhs; rw [← List.map_id (cutL c s.data.toList)]
  rfl
theorem pieces_length (c : UInt8) (s : ByteArray) : (pieces c s).length = s.data.toList.count c + 1 := by
  rw [← cutL_length, ← pieces_data, List.length_map]
theorem pieces_ne (c : UInt8) (s : ByteArray) : pieces c s ≠ [] := by
  intro h; have := pieces_length c s; rw [h] at this; simp at this
theorem pieces_le (c : UInt8) (s : ByteArray) : (pieces c s).length ≤ s.size + 1 := by
  rw [pieces_length]; have := List.count_le_length (a := c) (l := s.data.toList); have h : s.data.toList.length = s.size := rfl
  omega
theorem splitB_pieces (c : UInt8) (s : ByteArray) : Lib.splitB ⟨#[c]⟩ 0 (Lib.countB s ⟨#[c]⟩) s = pieces c s := by
  apply map_data_inj
  rw [Lib.splitB_data, pieces_data]
  exact splitK_cut c _ _ (Nat.le_refl _)
theorem countB_pieces (c : UInt8) (s : ByteArray) : Lib.countB s ⟨#[c]⟩ + 1 = (pieces c s).length := by
  rw [pieces_length]; show Lib.count _ [c] + 1 = _; rw [Lib.count_one]
theorem cutL_sub (c : UInt8) : ∀ (l p : List UInt8), p ∈ cutL c l → p.length ≤ l.length
  | [], p, h => by simp [cutL] at h; subst h; exact Nat.le_refl _
  | b :: l, p, h => by
    by_cases hb : b = c
    · subst hb
      rw [cutL_eq] at h
      rcases List.mem_cons.1 h with h | h
      · subst h; simp
      · have := cutL_sub b l p h; simp; omega
    · cases hc : cutL c l with
      | nil => exact absurd hc (cutL_ne c l)
      | cons x y =>
        rw [cutL_cons c b l x y hb hc] at h
        have ih := fun p (hp : p ∈ x :: y) => cutL_sub c l p (hc ▸ hp)
        rcases List.mem_cons.1 h with h | h
        · subst h; have := ih x (by simp); simp; omega
        · have := ih p (by simp [h]); simp; omega
theorem pieces_size (c : UInt8) (s p : ByteArray) (h : p ∈ pieces c s) : p.size ≤ s.size := by
  unfold pieces at h
  obtain ⟨l, hl, rfl⟩ := List.mem_map.1 h
  exact cutL_sub c _ _ hl

/-- how far a text has been cut: up to i, the last piece not over beginning at f, the pieces ahead in out -/
structure Cut (c : UInt8) (s : ByteArray) (i f : Nat) (out : List ByteArray) : Prop where
  le : f ≤ i
  end_ : i ≤ s.size
  so : cutL c s.data.toList = out.map (·.data.toList) ++ cutL c (s.data.toList.drop f)
  no : ∀ x ∈ (s.data.toList.drop f).take (i - f), x ≠ c
theorem cut_start (c : UInt8) (s : ByteArray) : Cut c s 0 0 [] := ⟨Nat.le_refl _, Nat.zero_le _, by simp, by simp⟩
theorem data_len (s : ByteArray) : s.data.toList.length = s.size := rfl
theorem drop_at (s : ByteArray) (i f : Nat) (hf : f ≤ i) (hi : i < s.size) : s.data.toList.drop f = (s.data.toList.drop f).take (i - f) ++ s[i] :: s.data.toList.drop (i + 1) := by
  have hl : i < s.data.toList.length := by rw [data_len]; exact hi
  have h2 : (s.data.toList.drop f).drop (i - f) = s[i] :: s.data.toList.drop (i + 1) := by
    rw [List.drop_drop, show f + (i - f) = i by omega, List.drop_eq_getElem_cons hl]; rfl
  rw [← h2, List.take_append_drop]
theorem cut_no {c : UInt8} {s : ByteArray} {i f : Nat} {out : List ByteArray} (h : Cut c s i f out) (hi : i < s.size) (hne : s[i] ≠ c) : Cut c s (i + 1) f out := by
  refine ⟨by have := h.le; omega, hi, h.so, fun x hx => ?_⟩
  have e := drop_at s i f h.le hi
  have hle := h.le
  have hl : ((s.data.toList.drop f).take (i - f)).length = i - f := by rw [List.length_take, List.length_drop, data_len]; omega
  rw [e, List.take_append, hl, show i + 1 - f - (i - f) = 1 by omega] at hx
  rcases List.mem_append.1 hx with hx | hx
  · exact h.no x (List.mem_of_mem_take hx)
  · simp at hx; subst hx; exact hne
theorem extract_toList (s : ByteArray) (f i : Nat) : (s.extract f i).data.toList = (s.data.toList.drop f).take (i - f) := by
  exact Lib.extract_data s f i
theorem cut_yes {c : UInt8} {s : ByteArray} {i f : Nat} {out : List ByteArray} (h : Cut c s i f out) (hi : i < s.size) (he : s[i] = c) : Cut c s (i + 1) (i + 1) (out ++ [s.extract f i]) := by
  refine ⟨Nat.le_refl _, hi, ?_, by simp⟩
  rw [h.so, drop_at s i f h.le hi, he, cutL_at c _ _ h.no, List.map_append, List.append_assoc]
  simp only [List.map_cons, List.map_nil, List.singleton_append, extract_toList]
theorem cut_end {c : UInt8} {s : ByteArray} {f : Nat} {out : List ByteArray} (h : Cut c s s.size f out) : out ++ [s.extract f s.size] = pieces c s := by
  apply map_data_inj
  have hle := h.le
  rw [pieces_data, h.so]
  have hn : ∀ x ∈ s.data.toList.drop f, x ≠ c := by
    intro x hx
    refine h.no x ?_
    rw [List.take_of_length_le (by rw [List.length_drop, data_len]; omega)]; exact hx
  rw [cutL_none c _ hn, List.map_append]
  simp only [List.map_cons, List.map_nil, extract_toList]
  rw [List.take_of_length_le (by rw [List.length_drop, data_len]; omega)]



/-! ### levels -/
def lvlB (c : UInt8) : Bool := (decide (97 ≤ c.toNat) && decide (c.toNat ≤ 122)) || (decide (48 ≤ c.toNat) && decide (c.toNat ≤ 57))
def lvl (s : ByteArray) : Bool := s.data.toList.all lvlB && inB (s.size : Int) 1 6
def any1 : ByteArray := ⟨#[43]⟩
def more : ByteArray := ⟨#[35]⟩
def lvlOK (s : ByteArray) : Bool := decide (s = any1) || (decide (s = more) || lvl s)
theorem lvl_any1 : lvl any1 = false := by decide
theorem lvl_more : lvl more = false := by decide
theorem lvl_not_more {s : ByteArray} (h : lvl s = true) : s ≠ more := by intro e; rw [e, lvl_more] at h; cases h
theorem any1_ne_more : any1 ≠ more := by decide
def spPat : List ByteArray → Bool
  | [] => true
  | x :: r => (lvl x || (decide (x = any1) || (decide (x = more) && r.isEmpty))) && spPat r
def okL (l : List ByteArray) : Bool := !l.any (fun x => !lvlOK x) && !l.dropLast.any (fun x => decide (x = more))
theorem spPat_okL : ∀ l : List ByteArray, spPat l = okL l
  | [] => by simp [spPat, okL]
  | [x] => by
    unfold spPat okL lvlOK
    simp only [spPat, List.isEmpty_nil, Bool.and_true, List.any_cons, List.any_nil, Bool.or_false, Bool.not_not, List.dropLast_singleton, Bool.not_false]
    cases lvl x <;> cases decide (x = any1) <;> cases decide (x = more) <;> rfl
  | x :: y :: r => by
    have ih := spPat_okL (y :: r)
    rw [spPat, ih]
    unfold okL
    rw [show (x :: y :: r).dropLast = x :: (y :: r).dropLast from rfl]
    have e1 : (x :: y :: r).any (fun x => !lvlOK x) = (!lvlOK x || (y :: r).any (fun x => !lvlOK x)) := rfl
    have e2 : (x :: (y :: r).dropLast).any (fun x => decide (x = more)) = (decide (x = more) || (y :: r).dropLast.any (fun x => decide (x = more))) := rfl
    rw [e1, e2]
    generalize (y :: r).any (fun x => !lvlOK x) = A
    generalize (y :: r).dropLast.any (fun x => decide (x = more)) = B
    by_cases h2 : x = more
    · subst h2
      simp [lvl_more, Ne.symm any1_ne_more]
    · unfold lvlOK
      simp only [h2, List.isEmpty_cons, Bool.and_false, Bool.or_false, decide_false, Bool.false_or]
      cases lvl x <;> cases decide (x = any1) <;> cases A <;> cases B <;> rfl
def gPat (s : ByteArray) : Bool := decide ((pieces 47 s).length ≤ 6) && okL (pieces 47 s)
def gTop (s : ByteArray) : Bool := decide ((pieces 47 s).length ≤ 6) && (pieces 47 s).all lvl
theorem all_okL {l : List ByteArray} (h : l.all lvl = true) : okL l = true := by
  rw [List.all_eq_true] at h
  unfold okL
  simp only [Bool.and_eq_true, Bool.not_eq_true', List.any_eq_false, decide_eq_true_eq, lvlOK]
  refine ⟨fun x hx => by simp [h x hx], fun x hm => lvl_not_more (h x ?_)⟩
  exact (List.dropLast_sublist l).mem hm
theorem gTop_gPat {s : ByteArray} (h : gTop s = true) : gPat s = true := by
  unfold gTop at h; unfold gPat
  rw [Bool.and_eq_true] at *
  exact ⟨h.1, all_okL h.2⟩
theorem gTop_eq {s : ByteArray} (h : gPat s = true) : gTop s = (pieces 47 s).all lvl := by
  unfold gPat at h; unfold gTop
  rw [Bool.and_eq_true] at h
  rw [h.1, Bool.true_and]
theorem gTop_no {s : ByteArray} (h : gPat s = false) : gTop s = false := by
  cases hg : gTop s with
  | false => rfl
  | true => rw [gTop_gPat hg] at h; cases h

/-! ### what takes in what -/
def fitsR : List ByteArray → List ByteArray → Bool
  | [], q => q.isEmpty
  | x :: p, q => if x = more then true else match q with
    | [] => false
    | y :: q => if x ≠ any1 ∧ x ≠ y then false else fitsR p q
def coversR : List ByteArray → List ByteArray → Bool
  | [], q => q.isEmpty
  | x :: p, q => if x = more then true else match q with
    | [] => false
    | y :: q => if y = more then false else if x ≠ any1 ∧ x ≠ y then false else coversR p q
def takesR : List ByteArray → List ByteArray → Bool
  | [], q => q.isEmpty
  | x :: p, q => if x = more then true else match q with
    | [] => false
    | y :: q => if x ≠ y ∧ (x ≠ any1 ∨ y = more) then false else takesR p q
theorem takes_covers : ∀ p q : List ByteArray, takesR p q = coversR p q
  | [], q => rfl
  | x :: p, [] => rfl
  | x :: p, y :: q => by
    rw [takesR, coversR]
    by_cases h1 : x = more
    · rw [if_pos h1, if_pos h1]
    · rw [if_neg h1, if_neg h1]
      show (if x ≠ y ∧ (x ≠ any1 ∨ y = more) then false else takesR p q) = if y = more then false else if x ≠ any1 ∧ x ≠ y then false else coversR p q
      rw [takes_covers p q]
      by_cases h2 : y = more
      · rw [if_pos h2, if_pos ⟨fun e => h1 (e.trans h2), .inr h2⟩]
      · rw [if_neg h2]
        by_cases h3 : x ≠ any1 ∧ x ≠ y
        · rw [if_pos h3, if_pos ⟨h3.2, .inl h3.1⟩]
        · rw [if_neg h3, if_neg (fun h => h3 ⟨h.2.resolve_right h2, h.1⟩)]
theorem covers_fits : ∀ p q : List ByteArray, (∀ y ∈ q, y ≠ more) → coversR p q = fitsR p q
  | [], q, _ => rfl
  | x :: p, [], _ => rfl
  | x :: p, y :: q, h => by
    rw [coversR, fitsR]
    show (if x = more then true else if y = more then false else if x ≠ any1 ∧ x ≠ y then false else coversR p q) = if x = more then true else if x ≠ any1 ∧ x ≠ y then false else fitsR p q
    rw [covers_fits p q fun z hz => h z (by simp [hz]), if_neg (h y (by simp))]
theorem takes_fits {p q : List ByteArray} (h : q.all lvl = true) : takesR p q = fitsR p q := by
  rw [List.all_eq_true] at h
  rw [takes_covers, covers_fits p q fun y hy => lvl_not_more (h y hy)]
def meetR : List ByteArray → List ByteArray → Bool
  | [], [] => true
  | [], y :: _ => decide (y = more)
  | x :: _, [] => decide (x = more)
  | x :: p, y :: q => if x = more ∨ y = more then true else if x ≠ any1 ∧ y ≠ any1 ∧ x ≠ y then false else meetR p q

def TopicR (f : List ByteArray → List ByteArray → Bool) (g h : Bool) (p q : ByteArray) : Bool × Bool := if g && h then (f (pieces 47 p) (pieces 47 q), true) else (false, false)
end Go.Proofs.YteknmjebokimjaaDoor
