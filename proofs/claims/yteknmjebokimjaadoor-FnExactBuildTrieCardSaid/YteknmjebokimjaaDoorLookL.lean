/- Plain laws of looking up in a trie: who is come to, how many nodes. No function of the program is named here. -/
import Derived.Test.YteknmjebokimjaaDoorTrie
import Derived.Test.YteknmjebokimjaaDoorWho2
namespace Go.Proofs.YteknmjebokimjaaDoor
set_option linter.unusedVariables false
open Go.ChangeShapes Go.WideShapes Go.ChangeAt Go.RowKit

def hashR (t : List Nd) (u : Nat) : List Int × Nat := if 0 ≤ kidR t u more then ((nd t (kidR t u more).toNat).2.2, 1) else ([], 0)
def goR (f : Nat → List Int × Nat) (k : Int) : List Int × Nat := if 0 ≤ k then f k.toNat else ([], 0)
def downR (t : List Nd) : List ByteArray → Nat → List Int × Nat
  | [], u => ((hashR t u).1 ++ (nd t u).2.2, (hashR t u).2 + 1)
  | x :: r, u => ((hashR t u).1 ++ ((goR (downR t r) (kidR t u x)).1 ++ (goR (downR t r) (kidR t u any1)).1), (hashR t u).2 + 1 + (goR (downR t r) (kidR t u x)).2 + (goR (downR t r) (kidR t u any1)).2)
def puts (xs l : List Int) : List Int := l.foldl putR xs
def R_LookUp (t : List Nd) (s : ByteArray) : List Int × Int × Bool := if R_GoodTrie t = true ∧ gTop s = true then (puts [] (downR t (pieces 47 s) 0).1, ((downR t (pieces 47 s) 0).2 : Int), true) else ([], 0, false)

theorem kid_lt {t : List Nd} {u : Int} {s : ByteArray} (h : 0 ≤ kidR t u s) : (kidR t u s).toNat < t.length ∧ sib t u s (kidR t u s).toNat = true := by
  unfold kidR at *
  cases hf : (List.range t.length).find? (sib t u s) with
  | none => rw [hf] at h; simp only at h; omega
  | some j =>
    have h1 := List.find?_some hf
    have h2 := List.mem_range.1 (List.mem_of_find?_eq_some hf)
    simp only [Int.toNat_natCast]
    exact ⟨h2, h1⟩
theorem kid_lvl {t : List Nd} {u : Int} {s : ByteArray} (h : 0 ≤ kidR t u s) : (nd t (kidR t u s).toNat).1 = s := by
  have := (kid_lt h).2
  unfold sib at this
  simp only [Bool.and_eq_true, decide_eq_true_eq] at this
  exact this.2.2
theorem fidx_kidR {t : List Nd} {u : Int} {s : ByteArray} (hr : (nd t 0).2.1 = -1) (hu : 0 ≤ u) : fidx (kidP u s) t = kidR t u s := by
  have hat : ∀ j (hj : j < t.length), nd t j = t[j] := fun j hj => nd_at (List.getElem?_eq_getElem hj)
  have hsib : ∀ j (hj : j < t.length), sib t u s j = (decide (0 < j) && kidP u s t[j]) := fun j hj => by unfold sib kidP; rw [hat j hj]
  have h0 : ∀ (hj : 0 < t.length), kidP u s t[0] = false := fun hj => by
    have : t[0].2.1 = -1 := by rw [← hat 0 hj]; exact hr
    unfold kidP; rw [this]; simp; omega
  unfold fidx
  cases hf : t.findIdx? (kidP u s) with
  | none =>
    rw [List.findIdx?_eq_none_iff] at hf
    exact (kid_no fun j hj => by rw [hsib j hj, hf _ (List.getElem_mem hj), Bool.and_false]).symm
  | some i =>
    obtain ⟨h1, h2, h3⟩ := List.findIdx?_eq_some_iff_getElem.1 hf
    refine (kid_at h1 (fun j hj => ?_) ?_).symm
    · rw [hsib j (by omega)]
      have := h3 j hj
      simp only [Bool.not_eq_true] at this
      rw [this, Bool.and_false]
    · rcases Nat.eq_zero_or_pos i with rfl | hi
      · rw [h0 h1] at h2; cases h2
      · rw [hsib i h1, h2]; simp [hi]
theorem nd_who {t : List Nd} (h : whosN t ≤ 30) (k : Nat) : (nd t k).2.2.length ≤ 30 := by
  unfold nd
  simp only [List.getD]
  cases hk : t[k]? with
  | none => simp
  | some x =>
    have h1 := sumL_take (fun x : Nd => x.2.2.length) t k x hk
    have h2 := sumL_le (fun x : Nd => x.2.2.length) t (k + 1)
    unfold whosN at h
    simp only [Option.getD_some]
    omega
theorem hash_len {t : List Nd} (h : whosN t ≤ 30) (u : Nat) : (hashR t u).1.length ≤ 30 ∧ (hashR t u).2 ≤ 1 := by
  unfold hashR
  split
  · exact ⟨nd_who h _, Nat.le_refl _⟩
  · simp
theorem down_len {t : List Nd} (h : whosN t ≤ 30) : ∀ (l : List ByteArray) (u : Nat), (downR t l u).1.length + 30 ≤ 90 * 2 ^ l.length ∧ (downR t l u).2 + 2 ≤ 4 * 2 ^ l.length
  | [], u => by
    have h1 := hash_len h u
    have h2 := nd_who h u
    simp only [downR, List.length_append, List.length_nil, Nat.pow_zero]
    omega
  | x :: r, u => by
    have h1 := hash_len h u
    have hp : 1 ≤ 2 ^ r.length := Nat.one_le_two_pow
    have hgo : ∀ k : Int, (goR (downR t r) k).1.length + 30 ≤ 90 * 2 ^ r.length ∧ (goR (downR t r) k).2 + 2 ≤ 4 * 2 ^ r.length := fun k => by
      unfold goR
      split
      · exact down_len h r k.toNat
      · simp; omega
    have h2 := hgo (kidR t u x)
    have h3 := hgo (kidR t u any1)
    simp only [downR, List.length_append, List.length_cons, Nat.pow_succ]
    omega
theorem pow6 {n : Nat} (h : n ≤ 6) : 2 ^ n ≤ 64 := Nat.pow_le_pow_right (by decide) h
theorem down_bound {t : List Nd} (h : whosN t ≤ 30) {l : List ByteArray} (hl : l.length ≤ 6) (u : Nat) : (downR t l u).1.length ≤ 5760 ∧ (downR t l u).2 ≤ 256 := by
  have h1 := down_len h l u
  have h2 := pow6 hl
  omega
theorem go_bound {t : List Nd} (h : whosN t ≤ 30) {l : List ByteArray} (hl : l.length ≤ 6) (k : Int) : (goR (downR t l) k).1.length ≤ 5760 ∧ (goR (downR t l) k).2 ≤ 256 := by
  unfold goR
  split
  · exact down_bound h hl _
  · simp

theorem mem_put_iff {l : List Int} {n x : Int} (hs : l.Pairwise (· < ·)) : x ∈ putR l n ↔ x ∈ l ∨ x = n := by
  refine ⟨mem_put, fun h => ?_⟩
  by_cases hn : n ∈ l
  · rw [(put_in hs hn).2]
    rcases h with h | rfl
    · exact h
    · exact hn
  · rw [put_new hn]
    rcases h with h | rfl
    · rw [← List.take_append_drop (putK l n) l] at h
      rcases List.mem_append.1 h with h | h
      · exact List.mem_append.2 (.inl h)
      · exact List.mem_append.2 (.inr (List.mem_cons_of_mem _ h))
    · simp
theorem puts_sorted {l : List Int} : ∀ {xs : List Int}, xs.Pairwise (· < ·) → (puts xs l).Pairwise (· < ·) := by
  induction l with
  | nil => exact fun h => h
  | cons a r ih => exact fun h => ih (put_keep a h)
theorem mem_puts {l : List Int} : ∀ {xs : List Int}, xs.Pairwise (· < ·) → ∀ x, x ∈ puts xs l ↔ x ∈ xs ∨ x ∈ l := by
  induction l with
  | nil => intro xs _ x; simp [puts]
  | cons a r ih =>
    intro xs h x
    show x ∈ puts (putR xs a) r ↔ _
    rw [ih (put_keep a h), mem_put_iff h, List.mem_cons, or_assoc]
theorem sorted_ext : ∀ {l1 l2 : List Int}, l1.Pairwise (· < ·) → l2.Pairwise (· < ·) → (∀ x, x ∈ l1 ↔ x ∈ l2) → l1 = l2
  | [], [], _, _, _ => rfl
  | [], b :: _, _, _, h => absurd ((h b).2 (by simp)) (by simp)
  | a :: _, [], _, _, h => absurd ((h a).1 (by simp)) (by simp)
  | a :: r, b :: s, h1, h2, h => by
    rw [List.pairwise_cons] at h1 h2
    have hab : a = b := by
      have h3 := (h a).1 (by simp)
      have h4 := (h b).2 (by simp)
      rcases List.mem_cons.1 h3 with h3 | h3
      · exact h3
      · rcases List.mem_cons.1 h4 with h4 | h4
        · exact h4.symm
        · have := h1.1 b h4; have := h2.1 a h3; omega
    subst hab
    rw [sorted_ext h1.2 h2.2 fun x => ?_]
    constructor
    · intro hx
      rcases List.mem_cons.1 ((h x).1 (by simp [hx])) with h3 | h3
      · have := h1.1 x hx; omega
      · exact h3
    · intro hx
      rcases List.mem_cons.1 ((h x).2 (by simp [hx])) with h3 | h3
      · have := h2.1 x hx; omega
      · exact h3
theorem puts_eq {xs l1 l2 : List Int} (hs : xs.Pairwise (· < ·)) (h : ∀ x, x ∈ l1 ↔ x ∈ l2) : puts xs l1 = puts xs l2 :=
  sorted_ext (puts_sorted hs) (puts_sorted hs) fun x => by rw [mem_puts hs, mem_puts hs, h x]
theorem puts_app (xs a b : List Int) : puts xs (a ++ b) = puts (puts xs a) b := List.foldl_append
theorem puts_comm {xs a b : List Int} (hs : xs.Pairwise (· < ·)) : puts (puts xs a) b = puts xs (b ++ a) := by
  rw [← puts_app]; exact puts_eq hs fun x => by rw [List.mem_append, List.mem_append, or_comm]
theorem puts_len (xs l : List Int) : (puts xs l).length ≤ xs.length + l.length := fold_len l xs
theorem puts_take (xs l : List Int) (j : Nat) (y : Int) (h : l[j]? = some y) : puts xs (l.take (j + 1)) = putR (puts xs (l.take j)) y := by
  unfold puts; rw [List.take_add_one, h]; simp
theorem hash_no {t : List Nd} {u : Nat} (h : kidR t u more < 0) : hashR t u = ([], 0) := by unfold hashR; rw [if_neg (by omega)]
theorem hash_yes {t : List Nd} {u : Nat} (h : 0 ≤ kidR t u more) : hashR t u = ((nd t (kidR t u more).toNat).2.2, 1) := by unfold hashR; rw [if_pos h]
theorem go_no {f : Nat → List Int × Nat} {k : Int} (h : k < 0) : goR f k = ([], 0) := by unfold goR; rw [if_neg (by omega)]
theorem go_yes {f : Nat → List Int × Nat} {k : Int} (h : 0 ≤ k) : goR f k = f k.toNat := by unfold goR; rw [if_pos h]
theorem R_Look_no {t : List Nd} {s : ByteArray} (h : ¬ (R_GoodTrie t = true ∧ gTop s = true)) : R_LookUp t s = ([], 0, false) := by unfold R_LookUp; rw [if_neg h]
theorem R_Look_yes {t : List Nd} {s : ByteArray} (h : R_GoodTrie t = true ∧ gTop s = true) : R_LookUp t s = (puts [] (downR t (pieces 47 s) 0).1, ((downR t (pieces 47 s) 0).2 : Int), true) := by unfold R_LookUp; rw [if_pos h]
/-- what a good trie gives -/
theorem good_root {t : List Nd} (h : R_GoodTrie t = true) : 1 ≤ t.length ∧ t.length ≤ 181 ∧ (nd t 0).2.1 = -1 ∧ (nd t 0).1 = ByteArray.empty ∧ whosN t ≤ 30 := by
  unfold R_GoodTrie rootB at h
  simp only [Bool.and_eq_true, decide_eq_true_eq] at h
  exact ⟨h.1.1, h.1.2.1, h.1.2.2.1, h.1.2.2.2.1, h.2.2⟩
theorem gTop_levels {s : ByteArray} (h : gTop s = true) : (pieces 47 s).length ≤ 6 ∧ ∀ x ∈ pieces 47 s, x ≠ more := by
  unfold gTop at h
  simp only [Bool.and_eq_true, decide_eq_true_eq, List.all_eq_true] at h
  exact ⟨h.1, fun x hx => lvl_not_more (h.2 x hx)⟩
theorem puts_wf {l xs : List Int} (h1 : ∀ n ∈ xs, (Lit.int .i64 n).wf = true) (h2 : ∀ n ∈ l, (Lit.int .i64 n).wf = true) (hs : xs.Pairwise (· < ·)) : ∀ n ∈ puts xs l, (Lit.int .i64 n).wf = true := fun n hn => by
  rcases (mem_puts hs n).1 hn with h | h
  · exact h1 n h
  · exact h2 n h
theorem down_mem {t : List Nd} : ∀ (l : List ByteArray) (u : Nat) (n : Int), n ∈ (downR t l u).1 → ∃ k, n ∈ (nd t k).2.2
  | [], u, n, h => by
    simp only [downR, List.mem_append] at h
    rcases h with h | h
    · unfold hashR at h
      split at h
      · exact ⟨_, h⟩
      · cases h
    · exact ⟨_, h⟩
  | x :: r, u, n, h => by
    simp only [downR, List.mem_append] at h
    rcases h with h | h | h
    · unfold hashR at h
      split at h
      · exact ⟨_, h⟩
      · cases h
    · unfold goR at h
      split at h
      · exact down_mem r _ n h
      · cases h
    · unfold goR at h
      split at h
      · exact down_mem r _ n h
      · cases h
end Go.Proofs.YteknmjebokimjaaDoor
