/- The states of words (Aho and Corasick), in plain Lean: which texts there are, which ending is the longest, what the falls come to, which words stand where. No program in sight. -/
import Derived.Test.YtfkcchbbbfeamaaFindAll
namespace Go.Proofs.Ytfkcchbbbfeamaa
set_option linter.unusedVariables false

/-! ### texts as lists of bytes -/
abbrev bL (s : ByteArray) : List UInt8 := s.data.toList
theorem bL_ext {s t : ByteArray} (h : bL s = bL t) : s = t := ByteArray.ext (Array.toList_inj.1 h)
theorem bL_size (s : ByteArray) : (bL s).length = s.size := by simp [bL]
theorem bL_ex (s : ByteArray) (a b : Nat) : bL (s.extract a b) = ((bL s).drop a).take (b - a) := by
  unfold bL; rw [ByteArray.data_extract, Array.toList_extract, List.extract_eq_take_drop]
theorem bL_pre (s : ByteArray) (n : Nat) : bL (s.extract 0 n) = (bL s).take n := by rw [bL_ex]; simp
theorem bL_suf (s : ByteArray) (n : Nat) : bL (s.extract n s.size) = (bL s).drop n := by
  rw [bL_ex, List.take_of_length_le (by rw [List.length_drop, bL_size]; exact Nat.le_refl _)]
theorem bL_nil {s : ByteArray} : bL s = [] ↔ s.size = 0 := by rw [← bL_size]; exact List.length_eq_zero_iff.symm
theorem size_zero {s : ByteArray} (h : s.size = 0) : s = ByteArray.empty := bL_ext (by rw [bL_nil.2 h]; rfl)
theorem ex_size (s : ByteArray) (a b : Nat) (h : b ≤ s.size) : (s.extract a b).size = b - a := by rw [ByteArray.size_extract, Nat.min_eq_left h]
theorem bL_app (s t : ByteArray) : bL (s ++ t) = bL s ++ bL t := by unfold bL; rw [ByteArray.data_append, Array.toList_append]
/-! ### the beginnings of words -/
def startsB (ws : List ByteArray) (s : ByteArray) : Bool := decide (s.size = 0) || ws.any fun w => decide (s.size ≤ w.size) && decide (w.extract 0 s.size = s)
def longF (p : ByteArray → Bool) : Nat → ByteArray → ByteArray
  | 0, s => s
  | f + 1, s => if p s then s else longF p f (s.extract 1 s.size)
def longR (ws : List ByteArray) (s : ByteArray) : ByteArray := longF (startsB ws) s.size s
def putT (acc : List ByteArray) (s : ByteArray) : List ByteArray := if acc.any (fun x => decide (x = s)) = true then acc else acc ++ [s]
theorem any_mem {acc : List ByteArray} {s : ByteArray} : acc.any (fun x => decide (x = s)) = true ↔ s ∈ acc := by
  rw [List.any_eq_true]; exact ⟨fun ⟨x, hx, h⟩ => by rw [decide_eq_true_eq] at h; exact h ▸ hx, fun h => ⟨s, h, by simp⟩⟩
theorem put_yes {acc : List ByteArray} {s : ByteArray} (h : s ∈ acc) : putT acc s = acc := by unfold putT; rw [if_pos (any_mem.2 h)]
theorem put_no {acc : List ByteArray} {s : ByteArray} (h : s ∉ acc) : putT acc s = acc ++ [s] := by unfold putT; rw [if_neg (fun e => h (any_mem.1 e))]
def prefsN (w : ByteArray) (n : Nat) : List ByteArray := (List.range n).map fun i => w.extract 0 (i + 1)
def wordT (acc : List ByteArray) (w : ByteArray) : List ByteArray := (prefsN w w.size).foldl putT acc
def textsR (ws : List ByteArray) : List ByteArray := ws.foldl wordT [ByteArray.empty]
def atR (l : List ByteArray) (s : ByteArray) : Int := fidx (fun x => decide (x = s)) l
def endsB (s w : ByteArray) : Bool := decide (w.size ≤ s.size) && decide (s.extract (s.size - w.size) s.size = w)

theorem starts_iff {ws : List ByteArray} {s : ByteArray} : startsB ws s = true ↔ s.size = 0 ∨ ∃ w ∈ ws, bL s <+: bL w := by
  unfold startsB
  rw [Bool.or_eq_true, decide_eq_true_eq, List.any_eq_true]
  constructor
  · rintro (h | ⟨w, hw, h⟩)
    · exact .inl h
    · rw [Bool.and_eq_true, decide_eq_true_eq, decide_eq_true_eq] at h
      refine .inr ⟨w, hw, ?_⟩
      rw [← h.2, bL_pre]; exact List.take_prefix _ _
  · rintro (h | ⟨w, hw, h⟩)
    · exact .inl h
    · refine .inr ⟨w, hw, ?_⟩
      have hl := h.length_le
      rw [bL_size, bL_size] at hl
      rw [Bool.and_eq_true, decide_eq_true_eq, decide_eq_true_eq]
      refine ⟨hl, bL_ext ?_⟩
      rw [bL_pre, ← bL_size]
      exact (List.prefix_iff_eq_take.1 h).symm
theorem ends_iff {s w : ByteArray} : endsB s w = true ↔ bL w <:+ bL s := by
  unfold endsB
  rw [Bool.and_eq_true, decide_eq_true_eq, decide_eq_true_eq]
  constructor
  · rintro ⟨h1, h2⟩
    rw [← h2, bL_suf]; exact List.drop_suffix _ _
  · intro h
    have hl := h.length_le
    rw [bL_size, bL_size] at hl
    refine ⟨hl, bL_ext ?_⟩
    rw [bL_suf]
    have := List.suffix_iff_eq_drop.1 h
    rw [bL_size, bL_size] at this
    exact this.symm
/-! ### the longest ending -/
theorem long_spec (p : ByteArray → Bool) (h0 : ∀ s : ByteArray, s.size = 0 → p s = true) : ∀ (f : Nat) (s : ByteArray), s.size ≤ f → p (longF p f s) = true ∧ bL (longF p f s) <:+ bL s ∧ ∀ t, p t = true → bL t <:+ bL s → bL t <:+ bL (longF p f s)
  | 0, s, h => ⟨h0 s (by omega), List.suffix_refl _, fun _ _ h => h⟩
  | f + 1, s, h => by
    unfold longF
    by_cases hp : p s = true
    · rw [if_pos hp]; exact ⟨hp, List.suffix_refl _, fun _ _ h => h⟩
    · rw [if_neg hp]
      have hs : 0 < s.size := by
        rcases Nat.eq_zero_or_pos s.size with h1 | h1
        · exact absurd (h0 s h1) hp
        · exact h1
      have hz : (s.extract 1 s.size).size ≤ f := by rw [ex_size _ _ _ (Nat.le_refl _)]; omega
      obtain ⟨h1, h2, h3⟩ := long_spec p h0 f _ hz
      rw [bL_suf] at h2 h3
      refine ⟨h1, h2.trans (List.drop_suffix _ _), fun t ht hs2 => h3 t ht ?_⟩
      -- an ending that is not the whole is an ending of the rest
      have hne : bL t ≠ bL s := fun e => hp (bL_ext e ▸ ht)
      have hlt : (bL t).length < (bL s).length := by
        rcases Nat.lt_or_ge (bL t).length (bL s).length with h4 | h4
        · exact h4
        · exact absurd (hs2.eq_of_length_le h4) hne
      rw [List.suffix_iff_eq_drop] at hs2 ⊢
      rw [List.drop_drop, List.length_drop]
      rw [hs2]
      congr 1
      rw [← hs2]; omega
theorem longR_spec (ws : List ByteArray) (s : ByteArray) : startsB ws (longR ws s) = true ∧ bL (longR ws s) <:+ bL s ∧ ∀ t, startsB ws t = true → bL t <:+ bL s → bL t <:+ bL (longR ws s) :=
  long_spec (startsB ws) (fun s h => starts_iff.2 (.inl h)) s.size s (Nat.le_refl _)
theorem suffix_eq {a b : List UInt8} (h : a <:+ b) (k : b <:+ a) : a = b := h.eq_of_length_le k.length_le
theorem longR_is {ws : List ByteArray} {s u : ByteArray} (h1 : startsB ws u = true) (h2 : bL u <:+ bL s) (h3 : ∀ t, startsB ws t = true → bL t <:+ bL s → bL t <:+ bL u) : longR ws s = u := by
  obtain ⟨k1, k2, k3⟩ := longR_spec ws s
  exact bL_ext (suffix_eq (h3 _ k1 k2) (k3 u h1 h2))
/-- of a text and one byte more: the longest ending hangs on the longest ending of the text alone -/
theorem starts_init {ws : List ByteArray} {t u : ByteArray} (h : startsB ws t = true) (hp : bL u <+: bL t) : startsB ws u = true := by
  rcases starts_iff.1 h with h | ⟨w, hw, h⟩
  · refine starts_iff.2 (.inl ?_)
    have := hp.length_le
    rw [bL_size, bL_size] at this; omega
  · exact starts_iff.2 (.inr ⟨w, hw, hp.trans h⟩)
theorem longR_next (ws : List ByteArray) (s b : ByteArray) (hb : b.size = 1) : longR ws (longR ws s ++ b) = longR ws (s ++ b) := by
  obtain ⟨k1, k2, k3⟩ := longR_spec ws s
  obtain ⟨j1, j2, j3⟩ := longR_spec ws (longR ws s ++ b)
  refine (longR_is j1 ?_ ?_).symm
  · refine j2.trans ?_
    rw [bL_app, bL_app]
    obtain ⟨q, hq⟩ := k2
    exact ⟨q, by rw [← List.append_assoc, hq]⟩
  · intro t ht hs
    refine j3 t ht ?_
    rw [bL_app] at hs ⊢
    -- t is empty, or an ending of s and the byte
    have hbl : (bL b).length = 1 := by rw [bL_size, hb]
    rcases Nat.eq_zero_or_pos t.size with h0 | h0
    · rw [bL_nil.2 h0]; exact List.nil_suffix
    · obtain ⟨x, hx⟩ : ∃ x, bL b = [x] := List.length_eq_one_iff.1 hbl
      rw [hx] at hs ⊢
      have hne : bL t ≠ [] := fun e => by have := bL_nil.1 e; omega
      obtain ⟨q, hq⟩ := hs
      have e1 := List.dropLast_concat_getLast hne
      rw [← e1, ← List.append_assoc] at hq
      obtain ⟨hq1, hq2⟩ := List.append_inj' hq rfl
      rw [← e1, hq2]
      -- the text without its last byte
      have ht2 : startsB ws (t.extract 0 (t.size - 1)) = true := starts_init ht (by rw [bL_pre]; exact List.take_prefix _ _)
      have hd : bL (t.extract 0 (t.size - 1)) = (bL t).dropLast := by rw [bL_pre, List.dropLast_eq_take, bL_size]
      have := k3 _ ht2 (by rw [hd]; exact ⟨q, hq1⟩)
      rw [hd] at this
      obtain ⟨q2, hq3⟩ := this
      exact ⟨q2, by rw [← List.append_assoc, hq3]⟩
/-! ### the texts -/
theorem mem_put {acc : List ByteArray} {s t : ByteArray} : t ∈ putT acc s ↔ t ∈ acc ∨ t = s := by
  by_cases h : s ∈ acc
  · rw [put_yes h]; exact ⟨.inl, fun h2 => h2.elim id (fun e => e ▸ h)⟩
  · rw [put_no h, List.mem_append, List.mem_singleton]
theorem mem_fold_put : ∀ (l acc : List ByteArray) (t : ByteArray), t ∈ l.foldl putT acc ↔ t ∈ acc ∨ t ∈ l
  | [], acc, t => by simp
  | s :: l, acc, t => by rw [List.foldl_cons, mem_fold_put l, mem_put, List.mem_cons, or_assoc]
theorem mem_prefs {w t : ByteArray} {n : Nat} (hn : n ≤ w.size) : t ∈ prefsN w n ↔ 0 < t.size ∧ t.size ≤ n ∧ bL t <+: bL w := by
  unfold prefsN
  rw [List.mem_map]
  constructor
  · rintro ⟨i, hi, rfl⟩
    rw [List.mem_range] at hi
    rw [ex_size _ _ _ (by omega), bL_pre]
    exact ⟨by omega, by omega, List.take_prefix _ _⟩
  · rintro ⟨h0, h1, h2⟩
    refine ⟨t.size - 1, List.mem_range.2 (by omega), bL_ext ?_⟩
    rw [bL_pre, show t.size - 1 + 1 = t.size by omega, ← bL_size]
    exact (List.prefix_iff_eq_take.1 h2).symm
theorem mem_fold_words : ∀ (ws acc : List ByteArray) (t : ByteArray), t ∈ ws.foldl wordT acc ↔ t ∈ acc ∨ ∃ w ∈ ws, 0 < t.size ∧ bL t <+: bL w
  | [], acc, t => by simp
  | w :: ws, acc, t => by
    rw [List.foldl_cons, mem_fold_words ws, wordT, mem_fold_put, mem_prefs (Nat.le_refl _), or_assoc]
    refine or_congr Iff.rfl ⟨?_, ?_⟩
    · rintro (⟨h1, _, h2⟩ | ⟨v, hv, h⟩)
      · exact ⟨w, by simp, h1, h2⟩
      · exact ⟨v, by simp [hv], h⟩
    · rintro ⟨v, hv, h1, h2⟩
      rcases List.mem_cons.1 hv with rfl | hv
      · exact .inl ⟨h1, by have := h2.length_le; rw [bL_size, bL_size] at this; exact this, h2⟩
      · exact .inr ⟨v, hv, h1, h2⟩
theorem mem_texts {ws : List ByteArray} {t : ByteArray} : t ∈ textsR ws ↔ startsB ws t = true := by
  unfold textsR
  rw [mem_fold_words, starts_iff, List.mem_singleton]
  constructor
  · rintro (rfl | ⟨w, hw, _, h⟩)
    · exact .inl rfl
    · exact .inr ⟨w, hw, h⟩
  · rintro (h | ⟨w, hw, h⟩)
    · exact .inl (size_zero h)
    · rcases Nat.eq_zero_or_pos t.size with h0 | h0
      · exact .inl (size_zero h0)
      · exact .inr ⟨w, hw, h0, h⟩
theorem nodup_put {acc : List ByteArray} (s : ByteArray) (h : acc.Nodup) : (putT acc s).Nodup := by
  by_cases hs : s ∈ acc
  · rw [put_yes hs]; exact h
  · rw [put_no hs, List.nodup_append]
    exact ⟨h, by simp, fun a ha b hb e => hs (by rw [List.mem_singleton.1 hb] at e; exact e ▸ ha)⟩
theorem nodup_fold_put : ∀ (l acc : List ByteArray), acc.Nodup → (l.foldl putT acc).Nodup
  | [], _, h => h
  | s :: l, acc, h => nodup_fold_put l _ (nodup_put s h)
theorem nodup_fold_words : ∀ (ws acc : List ByteArray), acc.Nodup → (ws.foldl wordT acc).Nodup
  | [], _, h => h
  | w :: ws, acc, h => nodup_fold_words ws _ (nodup_fold_put _ _ h)
theorem texts_nodup (ws : List ByteArray) : (textsR ws).Nodup := nodup_fold_words ws _ (by simp)
theorem at_mem {l : List ByteArray} {s : ByteArray} (h : s ∈ l) : ∃ k : Nat, atR l s = k ∧ l[k]? = some s := by
  unfold atR fidx
  cases hf : l.findIdx? (fun x => decide (x = s)) with
  | none => rw [List.findIdx?_eq_none_iff] at hf; simpa using hf s h
  | some i =>
    obtain ⟨hi, hp, _⟩ := List.findIdx?_eq_some_iff_getElem.1 hf
    exact ⟨i, rfl, by rw [List.getElem?_eq_getElem hi]; simpa using hp⟩
theorem at_none {l : List ByteArray} {s : ByteArray} (h : s ∉ l) : atR l s = -1 := by
  unfold atR fidx
  have : l.findIdx? (fun x => decide (x = s)) = none := by rw [List.findIdx?_eq_none_iff]; intro x hx; simp; exact fun e => h (e ▸ hx)
  rw [this]
theorem nodup_same {l : List ByteArray} (hn : l.Nodup) {i j : Nat} {s : ByteArray} (hi : l[i]? = some s) (hj : l[j]? = some s) : i = j := by
  obtain ⟨h1, h2⟩ := List.getElem?_eq_some_iff.1 hi
  obtain ⟨h3, h4⟩ := List.getElem?_eq_some_iff.1 hj
  rcases Nat.lt_trichotomy i j with h | h | h
  · exact absurd (h2.trans h4.symm) (List.pairwise_iff_getElem.1 hn i j h1 h3 h)
  · exact h
  · exact absurd (h4.trans h2.symm) (List.pairwise_iff_getElem.1 hn j i h3 h1 h)
theorem at_is {l : List ByteArray} (hn : l.Nodup) {k : Nat} {s : ByteArray} (h : l[k]? = some s) : atR l s = k := by
  obtain ⟨j, h1, h2⟩ := at_mem (List.mem_of_getElem? h)
  rw [h1, nodup_same hn h2 h]
theorem put_mono {acc : List ByteArray} {s t : ByteArray} {k : Nat} (h : acc[k]? = some t) : (putT acc s)[k]? = some t := by
  by_cases hs : s ∈ acc
  · rw [put_yes hs]; exact h
  · rw [put_no hs, List.getElem?_append_left (List.getElem?_eq_some_iff.1 h).1]; exact h
theorem fold_put_mono : ∀ (l acc : List ByteArray) {t : ByteArray} {k : Nat}, acc[k]? = some t → (l.foldl putT acc)[k]? = some t
  | [], _, _, _, h => h
  | s :: l, acc, t, k, h => fold_put_mono l _ (put_mono h)
theorem fold_words_mono : ∀ (ws acc : List ByteArray) {t : ByteArray} {k : Nat}, acc[k]? = some t → (ws.foldl wordT acc)[k]? = some t
  | [], _, _, _, h => h
  | w :: ws, acc, t, k, h => fold_words_mono ws _ (fold_put_mono _ _ h)
theorem texts_zero (ws : List ByteArray) : (textsR ws)[0]? = some ByteArray.empty := fold_words_mono ws _ rfl
theorem prefsN_succ (w : ByteArray) (n : Nat) : prefsN w (n + 1) = prefsN w n ++ [w.extract 0 (n + 1)] := by unfold prefsN; rw [List.range_succ, List.map_append]; rfl
theorem fold_put_len : ∀ (l acc : List ByteArray), (l.foldl putT acc).length ≤ acc.length + l.length
  | [], _ => by simp
  | s :: l, acc => by
    have := fold_put_len l (putT acc s)
    have h2 : (putT acc s).length ≤ acc.length + 1 := by by_cases hs : s ∈ acc <;> simp [put_yes, put_no, hs]
    rw [List.foldl_cons, List.length_cons]; omega
theorem fold_words_len : ∀ (ws acc : List ByteArray), (∀ w ∈ ws, w.size ≤ 20) → (ws.foldl wordT acc).length ≤ acc.length + 20 * ws.length
  | [], _, _ => by simp
  | w :: ws, acc, h => by
    have h1 := fold_words_len ws (wordT acc w) (fun v hv => h v (by simp [hv]))
    have h2 := fold_put_len (prefsN w w.size) acc
    have h3 : (prefsN w w.size).length = w.size := by simp [prefsN]
    have h4 := h w (by simp)
    unfold wordT at h1 ⊢
    rw [List.foldl_cons, List.length_cons]; omega
/-! ### states -/
abbrev St := Int × UInt8 × Int × List Int
def endsL (ws : List ByteArray) (t : ByteArray) (n : Nat) : List Int := ((List.range n).filter fun k => endsB t (ws.getD k ByteArray.empty)).map fun k : Nat => (k : Int)
def upR (ws : List ByteArray) (t : ByteArray) : Int := if t.size = 0 then -1 else atR (textsR ws) (t.extract 0 (t.size - 1))
def byteR (t : ByteArray) : UInt8 := if t.size = 0 then 0 else atS t (t.size - 1)
def failR (ws : List ByteArray) (t : ByteArray) : Int := if t.size = 0 then 0 else atR (textsR ws) (longR ws (t.extract 1 t.size))
def stR (ws : List ByteArray) (t : ByteArray) : St := (upR ws t, byteR t, failR ws t, endsL ws t ws.length)
def wordsB (ws : List ByteArray) : Bool := decide (ws.length ≤ 8) && ws.all fun w => inB (w.size : Int) 1 20
def one1 (b : UInt8) : ByteArray := { data := #[b] }
def tx (ws : List ByteArray) (k : Nat) : ByteArray := (textsR ws).getD k ByteArray.empty
def R_BuildStates (ws : List ByteArray) : List St × Bool := if wordsB ws = true then ((textsR ws).map (stR ws), true) else ([], false)
def R_StepState (ws : List ByteArray) (k : Int) (b : UInt8) : Int × Bool :=
  if wordsB ws = true ∧ 0 ≤ k ∧ k < (textsR ws).length then (atR (textsR ws) (longR ws (tx ws k.toNat ++ one1 b)), true) else (0, false)
def R_LongestEnd (ws : List ByteArray) (s : ByteArray) : Int × Bool := if s.size ≤ 200 ∧ wordsB ws = true then ((longR ws s).size, true) else (0, false)
def foundAt (ws : List ByteArray) (s : ByteArray) (e n : Nat) : List (Int × Int) := (endsL ws (s.extract 0 e) n).map fun k => ((e : Int) - ((ws.getD k.toNat ByteArray.empty).size : Int), k)
def foundL (ws : List ByteArray) (s : ByteArray) : Nat → List (Int × Int)
  | 0 => []
  | e + 1 => foundL ws s e ++ foundAt ws s (e + 1) ws.length
def R_FindWords (s : ByteArray) (ws : List ByteArray) : List (Int × Int) × Bool := if s.size ≤ 200 ∧ wordsB ws = true then (foundL ws s s.size, true) else ([], false)

theorem tx_at {ws : List ByteArray} {k : Nat} (h : k < (textsR ws).length) : (textsR ws)[k]? = some (tx ws k) := by
  unfold tx; rw [List.getD, List.getElem?_eq_getElem h]; rfl
theorem tx_mem {ws : List ByteArray} {k : Nat} (h : k < (textsR ws).length) : startsB ws (tx ws k) = true := mem_texts.1 (List.mem_of_getElem? (tx_at h))
theorem tx_zero (ws : List ByteArray) : tx ws 0 = ByteArray.empty := by unfold tx; rw [List.getD, texts_zero]; rfl
theorem texts_pos (ws : List ByteArray) : 0 < (textsR ws).length := (List.getElem?_eq_some_iff.1 (texts_zero ws)).1
/-- the number of a text that is there -/
theorem num_of {ws : List ByteArray} {t : ByteArray} (h : startsB ws t = true) : ∃ k : Nat, atR (textsR ws) t = k ∧ k < (textsR ws).length ∧ tx ws k = t := by
  obtain ⟨k, h1, h2⟩ := at_mem (mem_texts.2 h)
  refine ⟨k, h1, (List.getElem?_eq_some_iff.1 h2).1, ?_⟩
  unfold tx; rw [List.getD, h2]; rfl
theorem num_tx {ws : List ByteArray} {k : Nat} (h : k < (textsR ws).length) : atR (textsR ws) (tx ws k) = k := at_is (texts_nodup ws) (tx_at h)
theorem tx_inj {ws : List ByteArray} {j k : Nat} (hj : j < (textsR ws).length) (hk : k < (textsR ws).length) (h : tx ws j = tx ws k) : j = k :=
  nodup_same (texts_nodup ws) (tx_at hj) (by rw [h]; exact tx_at hk)
theorem num_zero (ws : List ByteArray) : atR (textsR ws) ByteArray.empty = 0 := by have := num_tx (texts_pos ws); rwa [tx_zero] at this
theorem tx_pos {ws : List ByteArray} {k : Nat} (hk : k < (textsR ws).length) : 0 < k ↔ 0 < (tx ws k).size := by
  constructor
  · intro h
    rcases Nat.eq_zero_or_pos (tx ws k).size with h0 | h0
    · have := tx_inj hk (texts_pos ws) ((size_zero h0).trans (tx_zero ws).symm); omega
    · exact h0
  · intro h
    rcases Nat.eq_zero_or_pos k with h0 | h0
    · rw [h0, tx_zero] at h; simp at h
    · exact h0
theorem starts_empty (ws : List ByteArray) : startsB ws ByteArray.empty = true := starts_iff.2 (.inl rfl)
theorem bL_one (b : UInt8) : bL (one1 b) = [b] := rfl
theorem split_one {t : ByteArray} (h : 0 < t.size) : t.extract 0 (t.size - 1) ++ one1 (atS t (t.size - 1)) = t := by
  apply bL_ext
  rw [bL_app, bL_pre, bL_one]
  have h1 : (bL t).length = t.size := bL_size t
  unfold atS
  have h2 : t.size - 1 < (bL t).length := by omega
  rw [List.getD, List.getElem?_eq_getElem h2]
  simp only [Option.getD_some]
  rw [← List.take_succ_eq_append_getElem h2, List.take_of_length_le (by omega)]
/-- which states stand below state k by byte c -/
theorem below_iff {ws : List ByteArray} {j k : Nat} {c : UInt8} (hj : j < (textsR ws).length) (hk : k < (textsR ws).length) :
    (0 < j ∧ upR ws (tx ws j) = (k : Int) ∧ byteR (tx ws j) = c) ↔ tx ws j = tx ws k ++ one1 c := by
  constructor
  · rintro ⟨h0, h1, h2⟩
    have hp := (tx_pos hj).1 h0
    unfold upR at h1; unfold byteR at h2
    rw [if_neg (by omega)] at h1 h2
    have hs : startsB ws ((tx ws j).extract 0 ((tx ws j).size - 1)) = true := starts_init (tx_mem hj) (by rw [bL_pre]; exact List.take_prefix _ _)
    obtain ⟨q, q1, q2, q3⟩ := num_of hs
    obtain rfl : q = k := by omega
    rw [q3, ← h2]; exact (split_one hp).symm
  · intro h
    have hz : (tx ws j).size = (tx ws k).size + 1 := by rw [h, ByteArray.size_append]; rfl
    have hp : 0 < (tx ws j).size := by omega
    have e1 := split_one hp
    have e2 : bL ((tx ws j).extract 0 ((tx ws j).size - 1)) ++ [atS (tx ws j) ((tx ws j).size - 1)] = bL (tx ws k) ++ [c] := by
      rw [← bL_one, ← bL_one, ← bL_app, ← bL_app, e1, h]
    obtain ⟨e3, e4⟩ := List.append_inj' e2 rfl
    have e5 := bL_ext e3
    simp only [List.cons.injEq, and_true] at e4
    refine ⟨(tx_pos hj).2 hp, ?_, ?_⟩
    · unfold upR; rw [if_neg (by omega), e5, num_tx hk]
    · unfold byteR; rw [if_neg (by omega)]; exact e4
/-- the state that stands below state k by byte c, nought without one: the last of the list that fits -/
def toR (ws : List ByteArray) (k : Nat) (c : UInt8) : Nat → Nat
  | 0 => 0
  | n + 1 => if upR ws (tx ws n) = (k : Int) ∧ 0 < n ∧ byteR (tx ws n) = c then n else toR ws k c n
theorem toR_le (ws : List ByteArray) (k : Nat) (c : UInt8) : ∀ n, toR ws k c n ≤ n
  | 0 => Nat.le_refl _
  | n + 1 => by unfold toR; split; omega; have := toR_le ws k c n; omega
theorem toR_none {ws : List ByteArray} {k : Nat} {c : UInt8} (hk : k < (textsR ws).length) (h : startsB ws (tx ws k ++ one1 c) = false) : ∀ n, n ≤ (textsR ws).length → toR ws k c n = 0
  | 0, _ => rfl
  | n + 1, hn => by
    unfold toR
    rw [if_neg]
    · exact toR_none hk h n (by omega)
    · rintro ⟨h1, h2, h3⟩
      have := (below_iff (c := c) (show n < _ by omega) hk).1 ⟨h2, h1, h3⟩
      rw [← this, tx_mem (by omega)] at h; cases h
theorem toR_some {ws : List ByteArray} {k : Nat} {c : UInt8} (hk : k < (textsR ws).length) {j : Nat} (hj : j < (textsR ws).length) (h : tx ws j = tx ws k ++ one1 c) : ∀ n, n ≤ (textsR ws).length → toR ws k c n = if j < n then j else 0
  | 0, _ => by simp [toR]
  | n + 1, hn => by
    unfold toR
    by_cases he : n = j
    · subst he
      have := (below_iff (c := c) hj hk).2 h
      rw [if_pos ⟨this.2.1, this.1, this.2.2⟩, if_pos (by omega)]
    · rw [if_neg, toR_some hk hj h n (by omega)]
      · by_cases hl : j < n
        · rw [if_pos hl, if_pos (by omega)]
        · rw [if_neg hl, if_neg (by omega)]
      · rintro ⟨h1, h2, h3⟩
        have := (below_iff (c := c) (show n < _ by omega) hk).1 ⟨h2, h1, h3⟩
        exact he (tx_inj (by omega) hj (this.trans h.symm))
/-- by falls alone -/
theorem long_self {ws : List ByteArray} {t : ByteArray} (h : startsB ws t = true) : longR ws t = t := longR_is h (List.suffix_refl _) (fun _ _ h => h)
theorem long_drop {ws : List ByteArray} {t : ByteArray} (h : startsB ws t = false) : longR ws t = longR ws (t.extract 1 t.size) := by
  obtain ⟨k1, k2, k3⟩ := longR_spec ws (t.extract 1 t.size)
  rw [bL_suf] at k2 k3
  refine longR_is k1 (k2.trans (List.drop_suffix _ _)) (fun u hu hs => k3 u hu ?_)
  have hne : bL u ≠ bL t := fun e => by rw [bL_ext e, h] at hu; cases hu
  have hlt : (bL u).length < (bL t).length := by
    rcases Nat.lt_or_ge (bL u).length (bL t).length with h4 | h4
    · exact h4
    · exact absurd (hs.eq_of_length_le h4) hne
  rw [List.suffix_iff_eq_drop] at hs ⊢
  rw [List.drop_drop, List.length_drop, hs]
  congr 1
  rw [← hs]; omega
theorem fall_here {ws : List ByteArray} {k : Nat} {c : UInt8} (hk : k < (textsR ws).length) (h : startsB ws (tx ws k ++ one1 c) = true) :
    0 < toR ws k c (textsR ws).length ∧ (toR ws k c (textsR ws).length : Int) = atR (textsR ws) (longR ws (tx ws k ++ one1 c)) := by
  obtain ⟨j, h1, h2, h3⟩ := num_of h
  rw [toR_some hk h2 h3 _ (Nat.le_refl _), if_pos h2, long_self h, h1]
  refine ⟨(tx_pos h2).2 ?_, rfl⟩
  rw [h3, ByteArray.size_append]; show 0 < _ + 1; omega
theorem fall_zero {ws : List ByteArray} {c : UInt8} (h : startsB ws (tx ws 0 ++ one1 c) = false) :
    toR ws 0 c (textsR ws).length = 0 ∧ atR (textsR ws) (longR ws (tx ws 0 ++ one1 c)) = 0 := by
  refine ⟨toR_none (texts_pos ws) h _ (Nat.le_refl _), ?_⟩
  have : longR ws (tx ws 0 ++ one1 c) = ByteArray.empty := by
    rw [long_drop h]
    have hz : ((tx ws 0 ++ one1 c).extract 1 (tx ws 0 ++ one1 c).size).size = 0 := by
      rw [ex_size _ _ _ (Nat.le_refl _), ByteArray.size_append, tx_zero]; rfl
    rw [size_zero hz]
    exact long_self (starts_empty ws)
  rw [this, num_zero]
theorem fall_on {ws : List ByteArray} {k : Nat} {c : UInt8} (hk : k < (textsR ws).length) (h0 : 0 < k) (h : startsB ws (tx ws k ++ one1 c) = false) :
    toR ws k c (textsR ws).length = 0 ∧ ∃ q : Nat, failR ws (tx ws k) = q ∧ q < (textsR ws).length ∧ (tx ws q).size < (tx ws k).size ∧ longR ws (tx ws q ++ one1 c) = longR ws (tx ws k ++ one1 c) := by
  refine ⟨toR_none hk h _ (Nat.le_refl _), ?_⟩
  have hp := (tx_pos hk).1 h0
  have hl := longR_spec ws ((tx ws k).extract 1 (tx ws k).size)
  obtain ⟨q, q1, q2, q3⟩ := num_of hl.1
  refine ⟨q, by unfold failR; rw [if_neg (by omega)]; exact q1, q2, ?_, ?_⟩
  · rw [q3]
    have := hl.2.1.length_le
    rw [bL_size, bL_size, ex_size _ _ _ (Nat.le_refl _)] at this; omega
  · rw [q3, longR_next ws _ (one1 c) rfl, long_drop h]
    congr 1
    apply bL_ext
    rw [bL_app, bL_suf, bL_suf, bL_app, List.drop_append_of_le_length (by rw [bL_size]; omega)]
/-! ### the words that stand there -/
theorem ends_of {ws : List ByteArray} {s : ByteArray} {k : Nat} (hk : k < ws.length) : endsB s (ws.getD k ByteArray.empty) = endsB (longR ws s) (ws.getD k ByteArray.empty) := by
  have hw : ws.getD k ByteArray.empty ∈ ws := by rw [List.getD, List.getElem?_eq_getElem hk]; exact List.getElem_mem hk
  obtain ⟨k1, k2, k3⟩ := longR_spec ws s
  rw [Bool.eq_iff_iff, ends_iff, ends_iff]
  exact ⟨fun h => k3 _ (starts_iff.2 (.inr ⟨_, hw, List.prefix_refl _⟩)) h, fun h => h.trans k2⟩
theorem endsL_of (ws : List ByteArray) (s : ByteArray) : endsL ws s ws.length = endsL ws (longR ws s) ws.length := by
  unfold endsL
  congr 1
  apply List.filter_congr
  intro k hk
  exact ends_of (List.mem_range.1 hk)
theorem next_text (ws : List ByteArray) (s : ByteArray) (i : Nat) (hi : i < s.size) (c : UInt8) (hc : c = atS s i) : longR ws (longR ws (s.extract 0 i) ++ one1 c) = longR ws (s.extract 0 (i + 1)) := by
  rw [longR_next ws _ (one1 c) rfl]
  congr 1
  apply bL_ext
  have hl : i < (bL s).length := by rw [bL_size]; exact hi
  rw [bL_app, bL_pre, bL_pre, bL_one, List.take_succ_eq_append_getElem hl, hc]
  unfold atS
  rw [List.getD, List.getElem?_eq_getElem hl]; rfl
theorem found_len (ws : List ByteArray) (s : ByteArray) (e : Nat) : (foundAt ws s e ws.length).length = (endsL ws (longR ws (s.extract 0 e)) ws.length).length := by
  unfold foundAt; rw [List.length_map, endsL_of]
theorem found_at (ws : List ByteArray) (s : ByteArray) (e j : Nat) (k : Int) (h : (endsL ws (longR ws (s.extract 0 e)) ws.length)[j]? = some k) : (foundAt ws s e ws.length)[j]? = some ((e : Int) - ((ws.getD k.toNat ByteArray.empty).size : Int), k) := by
  unfold foundAt; rw [List.getElem?_map, endsL_of, h]; rfl
theorem ends_mem {ws : List ByteArray} {t : ByteArray} {n : Nat} {k : Int} (h : k ∈ endsL ws t n) : ∃ j : Nat, k = j ∧ j < n ∧ endsB t (ws.getD j ByteArray.empty) = true := by
  unfold endsL at h
  obtain ⟨j, hj, rfl⟩ := List.mem_map.1 h
  rw [List.mem_filter, List.mem_range] at hj
  exact ⟨j, rfl, hj.1, hj.2⟩
theorem foundL_split (ws : List ByteArray) (s : ByteArray) (e : Nat) : ∀ d, ∃ r, foundL ws s (e + d) = foundL ws s e ++ r
  | 0 => ⟨[], by simp⟩
  | d + 1 => by
    obtain ⟨r, hr⟩ := foundL_split ws s e d
    exact ⟨r ++ foundAt ws s (e + d + 1) ws.length, by rw [← Nat.add_assoc, foundL, hr, List.append_assoc]⟩
/-- what the search told, taken one after the other -/
theorem foundL_at (ws : List ByteArray) (s : ByteArray) (e j : Nat) (he : e < s.size) (k : Int) (h : (endsL ws (longR ws (s.extract 0 (e + 1))) ws.length)[j]? = some k) :
    (foundL ws s s.size)[(foundL ws s e).length + j]? = some (((e + 1 : Nat) : Int) - ((ws.getD k.toNat ByteArray.empty).size : Int), k) := by
  obtain ⟨r, hr⟩ := foundL_split ws s (e + 1) (s.size - (e + 1))
  rw [show e + 1 + (s.size - (e + 1)) = s.size by omega] at hr
  rw [hr, foundL, List.append_assoc, List.getElem?_append_right (by omega), Nat.add_sub_cancel_left]
  have h2 := found_at ws s (e + 1) j k h
  rw [List.getElem?_append_left (List.getElem?_eq_some_iff.1 h2).1]
  exact h2
theorem foundL_len (ws : List ByteArray) (s : ByteArray) (e : Nat) : (foundL ws s (e + 1)).length = (foundL ws s e).length + (endsL ws (longR ws (s.extract 0 (e + 1))) ws.length).length := by
  rw [foundL, List.length_append, found_len]
end Go.Proofs.Ytfkcchbbbfeamaa
