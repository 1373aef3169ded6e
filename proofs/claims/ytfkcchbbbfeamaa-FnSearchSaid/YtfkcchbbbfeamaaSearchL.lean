/- Borders are the longest ones, and the search tells all places by at most two looks at each byte (Knuth, Morris and Pratt): plain laws, no program in sight. -/
import Derived.Test.YtfkcchbbbfeamaaFindAll
import Derived.Laws.Strings
namespace Go.Proofs.Ytfkcchbbbfeamaa
set_option linter.unusedVariables false
open Go.ChangeShapes Go.WideShapes Go.ChangeAt Go.RowKit

/-- x is a border of what begins a text and is m long -/
def Bd (s : ByteArray) (m x : Nat) : Prop := x < m ∧ ∀ j, j < x → atS s j = atS s (m - x + j)
/-- the longest one -/
def Lg (s : ByteArray) (m x : Nat) : Prop := Bd s m x ∧ ∀ y, Bd s m y → y ≤ x
theorem bd_zero (s : ByteArray) {m : Nat} (h : 0 < m) : Bd s m 0 := ⟨h, fun j hj => by omega⟩
theorem bd_trans {s : ByteArray} {m x y : Nat} (h : Bd s m x) (k : Bd s x y) : Bd s m y := by
  have h1 := h.1; have k1 := k.1
  refine ⟨by omega, fun j hj => ?_⟩
  rw [k.2 j hj, h.2 (x - y + j) (by omega)]
  congr 1; omega
theorem bd_inner {s : ByteArray} {m x y : Nat} (h : Bd s m x) (k : Bd s m y) (hl : y < x) : Bd s x y := by
  have h1 := h.1
  refine ⟨hl, fun j hj => ?_⟩
  rw [k.2 j hj, h.2 (x - y + j) (by omega)]
  congr 1; omega
theorem bd_succ {s : ByteArray} {m y : Nat} (h : Bd s m y) (e : atS s y = atS s m) : Bd s (m + 1) (y + 1) := by
  have h1 := h.1
  refine ⟨by omega, fun j hj => ?_⟩
  by_cases hj2 : j = y
  · subst hj2; rw [e]; congr 1; omega
  · rw [h.2 j (by omega)]; congr 1; omega
theorem bd_pred {s : ByteArray} {m y : Nat} (h : Bd s (m + 1) (y + 1)) : Bd s m y ∧ atS s y = atS s m := by
  have h1 := h.1
  refine ⟨⟨by omega, fun j hj => ?_⟩, ?_⟩
  · rw [h.2 j (by omega)]; congr 1; omega
  · rw [h.2 y (by omega)]; congr 1; omega
def LgL (s : ByteArray) (out : List Nat) : Prop := ∀ j, j < out.length → Lg s (j + 1) (out.getD j 0)
theorem fb_lg (s : ByteArray) (out : List Nat) (c : UInt8) (m : Nat) (hL : LgL s out) (hm : out.length = m) :
    ∀ (f k : Nat), k ≤ f → Bd s m k → (∀ y, Bd s m y → atS s y = c → y ≤ k) →
      Bd s m (fb s out c f k) ∧ (∀ y, Bd s m y → atS s y = c → y ≤ fb s out c f k) ∧ (fb s out c f k = 0 ∨ atS s (fb s out c f k) = c)
  | 0, k, hk, hb, ha => ⟨hb, ha, .inl (by unfold fb; omega)⟩
  | f + 1, k, hk, hb, ha => by
    unfold fb
    by_cases hc : 0 < k ∧ atS s k ≠ c
    · rw [if_pos hc]
      have hg := hL (k - 1) (by have := hb.1; omega)
      rw [show k - 1 + 1 = k by omega] at hg
      have hlt := hg.1.1
      refine fb_lg s out c m hL hm f _ (by omega) (bd_trans hb hg.1) (fun y hy hc2 => ?_)
      have h1 := ha y hy hc2
      have h2 : y ≠ k := fun e => hc.2 (e ▸ hc2)
      exact hg.2 y (bd_inner hb hy (by omega))
    · rw [if_neg hc]
      refine ⟨hb, ha, ?_⟩
      by_cases h0 : k = 0
      · exact .inl h0
      · refine .inr ?_
        by_cases he : atS s k = c
        · exact he
        · exact absurd ⟨by omega, he⟩ hc
theorem bordL_lg (s : ByteArray) : ∀ i, LgL s (bordL s i)
  | 0 => fun j h => by simp [bordL] at h
  | i + 1 => by
    intro j h
    have ih := bordL_lg s i
    rw [bordL_length] at h
    rw [bordL, getD_app, bordL_length]
    by_cases hj : j < i
    · rw [if_pos hj]; exact ih j (by rw [bordL_length]; exact hj)
    rw [if_neg hj, if_pos (by omega)]
    obtain rfl : j = i := by omega
    by_cases h0 : j = 0
    · rw [if_pos h0]; subst h0
      exact ⟨bd_zero s (by omega), fun y hy => by have := hy.1; omega⟩
    rw [if_neg h0]
    have hg := ih (j - 1) (by rw [bordL_length]; omega)
    rw [show j - 1 + 1 = j by omega] at hg
    obtain ⟨h1, h2, h3⟩ := fb_lg s (bordL s j) (atS s j) j ih (bordL_length s j) _ _ (Nat.le_refl _) hg.1 (fun y hy _ => hg.2 y hy)
    unfold nextB
    generalize fb s (bordL s j) (atS s j) ((bordL s j).getD (j - 1) 0) ((bordL s j).getD (j - 1) 0) = k at *
    by_cases he : atS s k = atS s j
    · rw [if_pos he]
      refine ⟨bd_succ h1 he, fun y hy => ?_⟩
      cases y with
      | zero => omega
      | succ y => have := bd_pred hy; have := h2 y this.1 this.2; omega
    · rw [if_neg he]
      rcases h3 with rfl | h3
      · refine ⟨bd_zero s (by omega), fun y hy => ?_⟩
        cases y with
        | zero => omega
        | succ y =>
          have := bd_pred hy
          have h4 := h2 y this.1 this.2
          obtain rfl : y = 0 := by omega
          exact absurd this.2 he
      · exact absurd h3 he
theorem bk_lg (p : ByteArray) (k : Nat) (h0 : 0 < k) (h : k ≤ p.size) : Lg p k (bk p k) := by
  have := bordL_lg p p.size (k - 1) (by rw [bordL_length]; omega)
  rw [show k - 1 + 1 = k by omega] at this
  exact this
theorem border_at (s : ByteArray) (k : Nat) (h : k < s.size) : Lg s (k + 1) ((bordL s s.size).getD k 0) := bordL_lg s s.size k (by rw [bordL_length]; exact h)
/-- the period -/
theorem period_at (s : ByteArray) (i x : Nat) (h : Lg s s.size x) (h1 : s.size - x ≤ i) (h2 : i < s.size) : atS s i = atS s (i - (s.size - x)) := by
  have := h.1.1
  rw [h.1.2 (i - (s.size - x)) (by omega)]
  congr 1; omega

/-! ### a text in a text -/
/-- x bytes of p stand ahead of place i -/
def Sf (s p : ByteArray) (i x : Nat) : Prop := x ≤ i ∧ ∀ j, j < x → atS p j = atS s (i - x + j)
theorem sf_inner {s p : ByteArray} {i x y : Nat} (h : Sf s p i x) (k : Sf s p i y) (hl : y < x) : Bd p x y := by
  have h1 := h.1
  refine ⟨hl, fun j hj => ?_⟩
  rw [k.2 j hj, h.2 (x - y + j) (by omega)]
  congr 1; omega
theorem sf_trans {s p : ByteArray} {i x y : Nat} (h : Sf s p i x) (k : Bd p x y) : Sf s p i y := by
  have h1 := h.1; have k1 := k.1
  refine ⟨by omega, fun j hj => ?_⟩
  rw [k.2 j hj, h.2 (x - y + j) (by omega)]
  congr 1; omega
theorem sf_succ {s p : ByteArray} {i y : Nat} (h : Sf s p i y) (e : atS p y = atS s i) : Sf s p (i + 1) (y + 1) := by
  have h1 := h.1
  refine ⟨by omega, fun j hj => ?_⟩
  by_cases hj2 : j = y
  · subst hj2; rw [e]; congr 1; omega
  · rw [h.2 j (by omega)]; congr 1; omega
theorem sf_pred {s p : ByteArray} {i y : Nat} (h : Sf s p (i + 1) (y + 1)) : Sf s p i y ∧ atS p y = atS s i := by
  have h1 := h.1
  refine ⟨⟨by omega, fun j hj => ?_⟩, ?_⟩
  · rw [h.2 j (by omega)]; congr 1; omega
  · rw [h.2 y (by omega)]; congr 1; omega
theorem sf_zero (s p : ByteArray) (i : Nat) : Sf s p i 0 := ⟨by omega, fun j hj => by omega⟩
theorem fbN_sf (s p : ByteArray) (c : UInt8) (i : Nat) :
    ∀ (f : Nat) (q : Nat × Nat), q.1 ≤ f → q.1 < p.size → Sf s p i q.1 → (∀ y, y < p.size → Sf s p i y → atS p y = c → y ≤ q.1) →
      (fbN p c f q).1 < p.size ∧ Sf s p i (fbN p c f q).1 ∧ (∀ y, y < p.size → Sf s p i y → atS p y = c → y ≤ (fbN p c f q).1) ∧ ((fbN p c f q).1 = 0 ∨ atS p (fbN p c f q).1 = c)
  | 0, q, hk, hl, hb, ha => ⟨hl, hb, ha, .inl (by unfold fbN; omega)⟩
  | f + 1, q, hk, hl, hb, ha => by
    unfold fbN
    by_cases hc : 0 < q.1 ∧ atS p q.1 ≠ c
    · rw [if_pos hc]
      have hg := bk_lg p q.1 hc.1 (by omega)
      have hlt := hg.1.1
      refine fbN_sf s p c i f _ (by simp only; omega) (by simp only; omega) (sf_trans hb hg.1) (fun y hy1 hy hc2 => ?_)
      have h1 := ha y hy1 hy hc2
      have h2 : y ≠ q.1 := fun e => hc.2 (e ▸ hc2)
      exact hg.2 y (sf_inner hb hy (by omega))
    · rw [if_neg hc]
      refine ⟨hl, hb, ha, ?_⟩
      by_cases h0 : q.1 = 0
      · exact .inl h0
      · refine .inr ?_
        by_cases he : atS p q.1 = c
        · exact he
        · exact absurd ⟨by omega, he⟩ hc
theorem fbN_look (p : ByteArray) (c : UInt8) : ∀ (f : Nat) (q : Nat × Nat), q.1 < p.size → (fbN p c f q).2 + (fbN p c f q).1 ≤ q.2 + q.1
  | 0, q, _ => Nat.le_refl _
  | f + 1, q, h => by
    unfold fbN
    by_cases hc : 0 < q.1 ∧ atS p q.1 ≠ c
    · rw [if_pos hc]
      have h1 := (bk_lg p q.1 hc.1 (by omega)).1.1
      have := fbN_look p c f (bk p q.1, q.2 + 1) (by simp only; omega)
      simp only at this
      omega
    · rw [if_neg hc]; exact Nat.le_refl _
/-- what holds behind i bytes -/
structure FI (s p : ByteArray) (i : Nat) (st : List Int × Nat × Nat) : Prop where
  lt : st.2.1 < p.size
  sf : Sf s p i st.2.1
  top : ∀ y, y < p.size → Sf s p i y → y ≤ st.2.1
  look : st.2.2 + st.2.1 ≤ 2 * i
  mem : ∀ x : Int, x ∈ st.1 ↔ ∃ j : Nat, x = j ∧ j + p.size ≤ i ∧ Sf s p (j + p.size) p.size
theorem findSt_inv (s p : ByteArray) (hp : 1 ≤ p.size) : ∀ i, FI s p i (findSt s p i)
  | 0 => ⟨hp, sf_zero s p 0, fun y hy h => h.1, by simp [findSt], fun x => ⟨fun h => by simp [findSt] at h, fun ⟨j, _, h, _⟩ => by omega⟩⟩
  | i + 1 => by
    have I := findSt_inv s p hp i
    rw [findSt]
    generalize findSt s p i = st at *
    obtain ⟨o, k, l⟩ := st
    obtain ⟨h1, h2, h3, h4⟩ := fbN_sf s p (atS s i) i k (k, l + 1) (Nat.le_refl _) I.lt I.sf (fun y hy hs _ => I.top y hy hs)
    have h5 := fbN_look p (atS s i) k (k, l + 1) I.lt
    have hlook := I.look
    have hmem := I.mem
    clear I
    simp only at *
    generalize fbN p (atS s i) k (k, l + 1) = q at *
    obtain ⟨k1, l1⟩ := q
    simp only at *
    have key : ∃ k2, (if atS p k1 = atS s i then k1 + 1 else k1) = k2 ∧ k2 ≤ k1 + 1 ∧ Sf s p (i + 1) k2 ∧ ∀ y, y ≤ p.size → Sf s p (i + 1) y → y ≤ k2 := by
      by_cases he : atS p k1 = atS s i
      · refine ⟨k1 + 1, if_pos he, Nat.le_refl _, sf_succ h2 he, fun y hy hs => ?_⟩
        cases y with
        | zero => omega
        | succ y => have := sf_pred hs; have := h3 y (by omega) this.1 this.2; omega
      · rcases h4 with rfl | h4
        · refine ⟨0, if_neg he, by omega, sf_zero _ _ _, fun y hy hs => ?_⟩
          cases y with
          | zero => omega
          | succ y =>
            have := sf_pred hs
            have h6 := h3 y (by omega) this.1 this.2
            obtain rfl : y = 0 := by omega
            exact absurd this.2 he
        · exact absurd h4 he
    obtain ⟨k2, he, hk2, hs2, ht2⟩ := key
    unfold finN
    simp only [he]
    by_cases hf : k2 = p.size
    · rw [if_pos hf]
      have hg := bk_lg p k2 (by omega) (by omega)
      have hg1 := hg.1.1
      have hpi := hs2.1
      refine ⟨by simp only; omega, sf_trans hs2 hg.1, fun y hy hs => ?_, by simp only; omega, fun x => ?_⟩
      · exact hg.2 y (sf_inner hs2 hs (by omega))
      · rw [List.mem_append, hmem]
        constructor
        · rintro (⟨j, rfl, hj, hs⟩ | hx)
          · exact ⟨j, rfl, by omega, hs⟩
          · simp only [List.mem_singleton] at hx
            exact ⟨i + 1 - k2, by omega, by omega, by rw [show i + 1 - k2 + p.size = i + 1 by omega, ← hf]; exact hs2⟩
        · rintro ⟨j, rfl, hj, hs⟩
          by_cases hj2 : j + p.size ≤ i
          · exact .inl ⟨j, rfl, hj2, hs⟩
          · right; simp only [List.mem_singleton]; omega
    · rw [if_neg hf]
      have : k2 ≤ p.size := by omega
      refine ⟨by simp only; omega, hs2, fun y hy hs => ht2 y (by omega) hs, by simp only; omega, fun x => ?_⟩
      rw [hmem]
      constructor
      · rintro ⟨j, rfl, hj, hs⟩
        exact ⟨j, rfl, by omega, hs⟩
      · rintro ⟨j, rfl, hj, hs⟩
        refine ⟨j, rfl, ?_, hs⟩
        by_cases hj2 : j + p.size = i + 1
        · rw [hj2] at hs
          have := ht2 _ (Nat.le_refl _) hs
          omega
        · omega
/-- a piece of a text is another text just if all its bytes are -/
theorem extract_eq (s p : ByteArray) (i : Nat) (h : i + p.size ≤ s.size) : s.extract i (i + p.size) = p ↔ ∀ j, j < p.size → atS p j = atS s (i + j) := by
  have key : (s.extract i (i + p.size)).data.toList = (s.data.toList.drop i).take p.size := by
    rw [ByteArray.data_extract, Array.toList_extract, List.extract_eq_take_drop]
    congr 1; omega
  constructor
  · intro he j hj
    have h2 : p.data.toList = (s.data.toList.drop i).take p.size := by rw [← key, he]
    unfold atS
    rw [h2, List.getD, List.getD, List.getElem?_take, if_pos hj, List.getElem?_drop]
  · intro ha
    have : (s.extract i (i + p.size)).data = p.data := by
      apply Array.toList_inj.1
      rw [key]
      apply List.ext_getElem?
      intro j
      rw [List.getElem?_take]
      have hsl : s.data.toList.length = s.size := by simp
      have hpl : p.data.toList.length = p.size := by simp
      by_cases hj : j < p.size
      · rw [if_pos hj, List.getElem?_drop]
        have := ha j hj
        unfold atS at this
        rw [List.getD, List.getD, List.getElem?_eq_getElem (by omega), List.getElem?_eq_getElem (by omega)] at this
        rw [List.getElem?_eq_getElem (by omega), List.getElem?_eq_getElem (by omega)]
        simp only [Option.getD_some] at this
        rw [this]
      · rw [if_neg hj, List.getElem?_eq_none (by omega)]
    exact ByteArray.ext this
theorem eqL (x y : ByteArray) : (x.toList == y.toList) = decide (x = y) := by
  rw [ByteArray.toList_eq, ByteArray.toList_eq]
  by_cases h : x = y
  · rw [h]; simp
  · rw [decide_eq_false h, beq_eq_false_iff_ne]
    intro e; exact h (ByteArray.ext (Array.toList_inj.1 e))
theorem pre_eq (s : ByteArray) (k y : Nat) (hk : k < s.size) (hy : y ≤ k) : s.extract 0 y = s.extract (k + 1 - y) (k + 1) ↔ Bd s (k + 1) y := by
  have hs : (s.extract 0 y).size = y := by rw [ByteArray.size_extract]; omega
  have h := extract_eq s (s.extract 0 y) (k + 1 - y) (by rw [hs]; omega)
  rw [hs, show k + 1 - y + y = k + 1 by omega] at h
  rw [eq_comm, h]
  have ha : ∀ j, j < y → atS (s.extract 0 y) j = atS s j := by
    intro j hj
    unfold atS
    rw [ByteArray.data_extract, Array.toList_extract, List.extract_eq_take_drop, List.getD, List.getD, List.getElem?_take, if_pos (by omega), List.getElem?_drop, Nat.zero_add]
  constructor
  · intro h2
    exact ⟨by omega, fun j hj => by rw [← h2 j hj, ha j hj]⟩
  · rintro ⟨_, h2⟩ j hj
    rw [ha j hj, h2 j hj]
theorem find_has (s p : ByteArray) (hp : 1 ≤ p.size) (i : Nat) (h : i + p.size ≤ s.size) : ((s.extract i (i + p.size)).toList == p.toList) = decide ((i : Int) ∈ (findSt s p s.size).1) := by
  rw [eqL]
  have h1 := (findSt_inv s p hp s.size).mem (i : Int)
  have h2 := extract_eq s p i h
  by_cases hm : (i : Int) ∈ (findSt s p s.size).1
  · rw [decide_eq_true hm]
    obtain ⟨j, hj, _, hs⟩ := h1.1 hm
    obtain rfl : i = j := by omega
    rw [decide_eq_true (h2.2 fun j hj => by have := hs.2 j hj; rw [this]; congr 1; omega)]
  · rw [decide_eq_false hm]
    rw [decide_eq_false]
    intro he
    exact hm (h1.2 ⟨i, rfl, h, by omega, fun j hj => by rw [h2.1 he j hj]; congr 1; omega⟩)
theorem find_rng (s p : ByteArray) (hp : 1 ≤ p.size) (x : Int) (h : x ∈ (findSt s p s.size).1) : 0 ≤ x ∧ x + p.size ≤ s.size := by
  obtain ⟨j, rfl, h, _⟩ := ((findSt_inv s p hp s.size).mem x).1 h
  omega
theorem find_looks (s p : ByteArray) (hp : 1 ≤ p.size) : (findSt s p s.size).2.2 ≤ 2 * s.size := by
  have := (findSt_inv s p hp s.size).look; omega
theorem bord_le (t : ByteArray) (k : Nat) (h : k < t.size) : (bordL t t.size).getD k 0 ≤ k := by have := (border_at t k h).1.1; omega
theorem bord_yes (t : ByteArray) (k : Nat) (h : k < t.size) : ((t.extract 0 ((bordL t t.size).getD k 0)).toList == (t.extract (k + 1 - (bordL t t.size).getD k 0) (k + 1)).toList) = true := by
  rw [eqL, decide_eq_true_iff, pre_eq t k _ h (bord_le t k h)]
  exact (border_at t k h).1
theorem bord_no (t : ByteArray) (k y : Nat) (h : k < t.size) (h1 : (bordL t t.size).getD k 0 < y) (h2 : y ≤ k) : ((t.extract 0 y).toList == (t.extract (k + 1 - y) (k + 1)).toList) = false := by
  rw [eqL, decide_eq_false_iff_not, pre_eq t k _ h h2]
  intro hb
  have := (border_at t k h).2 y hb
  omega
theorem period_eq (t : ByteArray) (i : Nat) (h1 : t.size - (bordL t t.size).getD (t.size - 1) 0 ≤ i) (h2 : i < t.size) : atS t i = atS t (i - (t.size - (bordL t t.size).getD (t.size - 1) 0)) := by
  have := border_at t (t.size - 1) (by omega)
  rw [show t.size - 1 + 1 = t.size by omega] at this
  exact period_at t i _ this h1 h2
end Go.Proofs.Ytfkcchbbbfeamaa
