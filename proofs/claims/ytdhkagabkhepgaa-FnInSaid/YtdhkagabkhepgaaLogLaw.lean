/- Plain laws on logs: what a proof that a text is in a log makes of other sums, what a proof that a log grew makes of other roots. No program in sight. -/
import Derived.Test.YtdhkagabkhepgaaCheckIn
import Derived.Test.YtdhkagabkhepgaaCheckGrew
import Derived.Test.YtdhkagabkhepgaaProve2
import Derived.Test.YtdhkagabkhepgaaProveG
namespace Go.Proofs.Ytdhkagabkhepgaa
set_option linter.unusedVariables false

theorem nodeS_left {a b c : Int} (ha : inR a) (hb : inR b) (h : nodeS a c = nodeS b c) : a = b := by
  unfold nodeS at h; unfold inR at *; omega
theorem nodeS_right {a b c : Int} (ha : inR a) (hb : inR b) (h : nodeS c a = nodeS c b) : a = b := by
  unfold nodeS at h; unfold inR at *; omega
theorem last_snoc (q : List Int) (x : Int) : (q ++ [x]).getLastD 0 = x := by simp [List.getLastD_eq_getLast?]
theorem ne_snoc (q : List Int) (x : Int) : q ++ [x] ≠ [] := by simp
/-- what the proof makes of a leaf's sum is the root just if that is the leaf's own -/
theorem up_pin : ∀ (f m k : Nat) (ss : List ByteArray) (lf : Int), ss.length ≤ f → ss.length ≤ m → k < ss.length → inR lf →
    (upF f ss.length k lf (pinL m ss k)).2 = true ∧ ((upF f ss.length k lf (pinL m ss k)).1 = rootL ss ↔ lf = leaf (ss.getD k ByteArray.empty).data.toList)
  | 0, m, k, ss, lf, h1, h2, h3, _ => by omega
  | f + 1, 0, k, ss, lf, h1, h2, h3, _ => by omega
  | f + 1, m + 1, k, ss, lf, h1, h2, h3, h4 => by
    unfold upF pinL
    by_cases hn : ss.length = 1
    · rw [if_pos hn, if_pos hn]
      obtain rfl : k = 0 := by omega
      rw [rootL_one ss hn]
      simp
    rw [if_neg hn, if_neg hn]
    have hs1 := splitN_pos ss.length
    have hs2 := splitN_lt ss.length (by omega)
    rw [rootL_two ss (by omega)]
    by_cases hk : k < splitN ss.length
    · rw [if_pos hk, if_neg (ne_snoc _ _), if_pos hk, List.dropLast_concat, last_snoc]
      have hl : (ss.take (splitN ss.length)).length = splitN ss.length := by rw [List.length_take]; omega
      have ih := up_pin f m k (ss.take (splitN ss.length)) lf (by omega) (by omega) (by omega) h4
      rw [hl] at ih
      have hg : (ss.take (splitN ss.length)).getD k ByteArray.empty = ss.getD k ByteArray.empty := by
        rw [List.getD, List.getD, List.getElem?_take, if_pos hk]
      rw [hg] at ih
      refine ⟨ih.1, ?_⟩
      rw [← ih.2]
      exact ⟨fun h => nodeS_left (upF_bd f _ _ _ _ h4) (rootL_bd _) h, fun h => by simp only; rw [h]⟩
    · rw [if_neg hk, if_neg (ne_snoc _ _), if_neg hk, List.dropLast_concat, last_snoc]
      have hl : (ss.drop (splitN ss.length)).length = ss.length - splitN ss.length := by rw [List.length_drop]
      have ih := up_pin f m (k - splitN ss.length) (ss.drop (splitN ss.length)) lf (by omega) (by omega) (by omega) h4
      rw [hl] at ih
      have hg : (ss.drop (splitN ss.length)).getD (k - splitN ss.length) ByteArray.empty = ss.getD k ByteArray.empty := by
        rw [List.getD, List.getD, List.getElem?_drop]; congr 2; omega
      rw [hg] at ih
      refine ⟨ih.1, ?_⟩
      rw [← ih.2]
      exact ⟨fun h => nodeS_right (upF_bd f _ _ _ _ h4) (rootL_bd _) h, fun h => by simp only; rw [h]⟩
theorem pin_rng : ∀ (m k : Nat) (ss : List ByteArray), ∀ x ∈ pinL m ss k, inR x
  | 0, k, ss, x, h => by simp [pinL] at h
  | m + 1, k, ss, x, h => by
    unfold pinL at h
    by_cases hn : ss.length = 1
    · rw [if_pos hn] at h; simp at h
    rw [if_neg hn] at h
    by_cases hk : k < splitN ss.length
    · rw [if_pos hk] at h
      rcases List.mem_append.1 h with h | h
      · exact pin_rng m _ _ x h
      · obtain rfl := List.mem_singleton.1 h; exact rootL_bd _
    · rw [if_neg hk] at h
      rcases List.mem_append.1 h with h | h
      · exact pin_rng m _ _ x h
      · obtain rfl := List.mem_singleton.1 h; exact rootL_bd _
theorem sumsB_of {p : List Int} (h : ∀ x ∈ p, inR x) : sumsB p = true := by
  unfold sumsB
  rw [Bool.not_eq_true', List.any_eq_false]
  intro x hx
  unfold badS sumB
  rw [inB_yes (h x hx)]; simp
theorem sumB_of {x : Int} (h : inR x) : sumB x = true := inB_yes h
/-- **A proof that a text is in a log holds, and holds for no text of another sum** -/
theorem checkIn_law (ss : List ByteArray) (k : Nat) (s : ByteArray) (hl : logB ss = true) (hk : k < ss.length) (hs : s.size ≤ 20) :
    CheckInR (rootL ss) (ss.length : Int) (k : Int) s (pinL ss.length ss k) = (decide (leaf s.data.toList = leaf (ss.getD k ByteArray.empty).data.toList), true) := by
  have h40 := logB_len hl
  obtain ⟨h1, h2⟩ := up_pin 40 ss.length k ss (leaf s.data.toList) h40 (Nat.le_refl _) hk (leaf_bd _)
  unfold CheckInR
  rw [sumB_of (rootL_bd ss), inB_yes (n := (ss.length : Int)) (by omega), inB_yes (n := (k : Int)) (by omega), sumsB_of (pin_rng _ _ _), decide_eq_true hs]
  simp only [Bool.and_self, if_true, Int.toNat_natCast, h1]
  congr 1
  rw [Bool.eq_iff_iff, beq_iff_eq, decide_eq_true_iff]
  exact h2
theorem log_at {ss : List ByteArray} (h : logB ss = true) (k : Nat) (hk : k < ss.length) : (ss.getD k ByteArray.empty).size ≤ 20 := by
  unfold logB at h
  rw [Bool.and_eq_true, Bool.not_eq_true', List.any_eq_false] at h
  have := h.2 ss[k] (List.getElem_mem hk)
  unfold longS at this
  rw [List.getD, List.getElem?_eq_getElem hk]
  simp at this ⊢; omega

/-! ### that a log grew -/
theorem splitF_same : ∀ (f g k n m : Nat), n ≤ k + f → m ≤ k + g → 1 ≤ k → m ≤ n → splitF f k n < m → splitF g k m = splitF f k n
  | 0, g, k, n, m, h1, h2, h3, h4, h5 => by simp only [splitF] at h5; omega
  | f + 1, 0, k, n, m, h1, h2, h3, h4, h5 => by
    exfalso
    have := (splitF_ge (f + 1) k n)
    omega
  | f + 1, g + 1, k, n, m, h1, h2, h3, h4, h5 => by
    unfold splitF at h5 ⊢
    by_cases hc : 2 * k < n
    · rw [if_pos hc] at h5 ⊢
      have hge := splitF_ge f (k * 2) n
      rw [if_pos (by omega)]
      exact splitF_same f g (k * 2) n m (by omega) (by omega) (by omega) h4 h5
    · rw [if_neg hc] at h5 ⊢
      rw [if_neg (by omega)]
where splitF_ge : ∀ (f k n : Nat), k ≤ splitF f k n
  | 0, _, _ => Nat.le_refl _
  | f + 1, k, n => by
    unfold splitF
    by_cases hc : 2 * k < n
    · rw [if_pos hc]; have := splitF_ge f (k * 2) n; omega
    · rw [if_neg hc]; exact Nat.le_refl _
theorem splitN_same {n m : Nat} (h : m ≤ n) (h2 : splitN n < m) : splitN m = splitN n := splitF_same n m 1 n m (by omega) (by omega) (by omega) h h2
theorem both_no : ∀ (f g m : Nat) (ss : List ByteArray) (o : Int), ss.length ≤ f → ss.length ≤ g → 1 ≤ m → m ≤ ss.length →
    bothF f ss.length m false o (pgrL g ss m false) = ((rootL (ss.take m), rootL ss), true)
  | 0, g, m, ss, o, h1, h2, h3, h4 => by omega
  | f + 1, 0, m, ss, o, h1, h2, h3, h4 => by omega
  | f + 1, g + 1, m, ss, o, h1, h2, h3, h4 => by
    unfold bothF pgrL
    by_cases hn : m = ss.length
    · rw [if_pos hn, if_pos hn, hn, List.take_length]; simp
    rw [if_neg hn, if_neg hn]
    have hs1 := splitN_pos ss.length
    have hs2 := splitN_lt ss.length (by omega)
    rw [rootL_two ss (by omega)]
    by_cases hk : m ≤ splitN ss.length
    · rw [if_pos hk, if_neg (ne_snoc _ _), if_pos hk, List.dropLast_concat, last_snoc]
      have hl : (ss.take (splitN ss.length)).length = splitN ss.length := by rw [List.length_take]; omega
      have ih := both_no f g m (ss.take (splitN ss.length)) o (by omega) (by omega) h3 (by omega)
      rw [hl] at ih
      rw [ih, List.take_take, Nat.min_eq_left hk]
    · rw [if_neg hk, if_neg (ne_snoc _ _), if_neg hk, List.dropLast_concat, last_snoc]
      have hl : (ss.drop (splitN ss.length)).length = ss.length - splitN ss.length := by rw [List.length_drop]
      have ih := both_no f g (m - splitN ss.length) (ss.drop (splitN ss.length)) o (by omega) (by omega) (by omega) (by omega)
      rw [hl] at ih
      rw [ih]
      have hm : (ss.take m).length = m := by rw [List.length_take]; omega
      rw [rootL_two (ss.take m) (by omega), hm, splitN_same h4 (by omega), List.take_take, Nat.min_eq_left (by omega), List.drop_take]
theorem both_ok : ∀ (f g m : Nat) (ss : List ByteArray) (o : Int), ss.length ≤ f → ss.length ≤ g → 1 ≤ m → m ≤ ss.length → inR o →
    (bothF f ss.length m true o (pgrL g ss m true)).2 = true ∧ inR (bothF f ss.length m true o (pgrL g ss m true)).1.2 ∧ (((bothF f ss.length m true o (pgrL g ss m true)).1.1 = o ∧ (bothF f ss.length m true o (pgrL g ss m true)).1.2 = rootL ss) ↔ o = rootL (ss.take m))
  | 0, g, m, ss, o, h1, h2, h3, h4, _ => by omega
  | f + 1, 0, m, ss, o, h1, h2, h3, h4, _ => by omega
  | f + 1, g + 1, m, ss, o, h1, h2, h3, h4, h5 => by
    unfold bothF pgrL
    by_cases hn : m = ss.length
    · rw [if_pos hn, if_pos hn, hn, List.take_length]; simp; exact h5
    rw [if_neg hn, if_neg hn]
    have hs1 := splitN_pos ss.length
    have hs2 := splitN_lt ss.length (by omega)
    rw [rootL_two ss (by omega)]
    by_cases hk : m ≤ splitN ss.length
    · rw [if_pos hk, if_neg (ne_snoc _ _), if_pos hk, List.dropLast_concat, last_snoc]
      have hl : (ss.take (splitN ss.length)).length = splitN ss.length := by rw [List.length_take]; omega
      have ih := both_ok f g m (ss.take (splitN ss.length)) o (by omega) (by omega) h3 (by omega) h5
      rw [hl, List.take_take, Nat.min_eq_left hk] at ih
      refine ⟨ih.1, nodeS_bd _ _, ?_⟩
      rw [← ih.2.2]
      exact ⟨fun h => ⟨h.1, nodeS_left ih.2.1 (rootL_bd _) h.2⟩, fun h => ⟨h.1, by simp only; rw [h.2]⟩⟩
    · rw [if_neg hk, if_neg (ne_snoc _ _), if_neg hk, List.dropLast_concat, last_snoc]
      have hl : (ss.drop (splitN ss.length)).length = ss.length - splitN ss.length := by rw [List.length_drop]
      have ih := both_no f g (m - splitN ss.length) (ss.drop (splitN ss.length)) o (by omega) (by omega) (by omega) (by omega)
      rw [hl] at ih
      rw [ih]
      have hm : (ss.take m).length = m := by rw [List.length_take]; omega
      rw [rootL_two (ss.take m) (by omega), hm, splitN_same h4 (by omega), List.take_take, Nat.min_eq_left (by omega), List.drop_take]
      exact ⟨rfl, nodeS_bd _ _, by simp only [and_true]; exact eq_comm⟩
theorem pgr_rng : ∀ (m k : Nat) (wh : Bool) (ss : List ByteArray), ∀ x ∈ pgrL m ss k wh, inR x
  | 0, k, wh, ss, x, h => by simp [pgrL] at h
  | m + 1, k, wh, ss, x, h => by
    unfold pgrL at h
    by_cases hn : k = ss.length
    · rw [if_pos hn] at h
      cases wh
      · simp at h; rw [h]; exact rootL_bd _
      · simp at h
    rw [if_neg hn] at h
    by_cases hk : k ≤ splitN ss.length
    · rw [if_pos hk] at h
      rcases List.mem_append.1 h with h | h
      · exact pgr_rng m _ _ _ x h
      · obtain rfl := List.mem_singleton.1 h; exact rootL_bd _
    · rw [if_neg hk] at h
      rcases List.mem_append.1 h with h | h
      · exact pgr_rng m _ _ _ x h
      · obtain rfl := List.mem_singleton.1 h; exact rootL_bd _
/-- **That a log only grew is proved, and for no other first root** -/
theorem checkGrew_law (ss : List ByteArray) (m : Nat) (o : Int) (hl : logB ss = true) (h1 : 1 ≤ m) (h2 : m ≤ ss.length) (ho : inR o) :
    CheckGrewR o (m : Int) (rootL ss) (ss.length : Int) (pgrL ss.length ss m true) = (decide (o = rootL (ss.take m)), true) := by
  have h40 := logB_len hl
  obtain ⟨e1, _, e2⟩ := both_ok 40 ss.length m ss o h40 (Nat.le_refl _) h1 h2 ho
  unfold CheckGrewR
  rw [sumB_of ho, sumB_of (rootL_bd ss), inB_yes (n := (ss.length : Int)) (by omega), inB_yes (n := (m : Int)) (by omega), sumsB_of (pgr_rng _ _ _ _)]
  simp only [Bool.and_self, if_true, Int.toNat_natCast, e1]
  congr 1
  rw [Bool.eq_iff_iff, Bool.and_eq_true, beq_iff_eq, beq_iff_eq, decide_eq_true_iff]
  exact e2
theorem split_law (k : Nat) (h : 2 ≤ k) : splitN k < k ∧ k ≤ 2 * splitN k := ⟨splitN_lt k h, splitF_half k 1 k (by omega) (by omega)⟩
where splitF_half : ∀ (f k n : Nat), n ≤ k + f → 1 ≤ k → n ≤ 2 * splitF f k n
  | 0, k, n, h, h1 => by simp only [splitF]; omega
  | f + 1, k, n, h, h1 => by
    unfold splitF
    by_cases hc : 2 * k < n
    · rw [if_pos hc]; exact splitF_half f (k * 2) n (by omega) (by omega)
    · rw [if_neg hc]; omega
end Go.Proofs.Ytdhkagabkhepgaa
