/- Numbers in bytes, seven bits each, in plain Lean: what is put and what is taken. No program in sight. -/
import Derived.Test.YtlmgckijbamgpaaBase
namespace Go.Proofs.Ytlmgckijbamgpaa
set_option linter.unusedVariables false
set_option linter.unusedSimpArgs false

def vbF : Nat → Nat → List UInt8
  | 0, n => [UInt8.ofNat n]
  | f + 1, n => if 128 ≤ n then UInt8.ofNat (n % 128 + 128) :: vbF f (n / 128) else [UInt8.ofNat n]
def vb (n : Nat) : List UInt8 := vbF 5 n
theorem vbF_len : ∀ (f n : Nat), 1 ≤ (vbF f n).length ∧ (vbF f n).length ≤ f + 1
  | 0, n => by simp [vbF]
  | f + 1, n => by
    unfold vbF
    have := vbF_len f (n / 128)
    split
    · rw [List.length_cons]; omega
    · simp
theorem vbF_short : ∀ (f n : Nat), n < 128 ^ f → (vbF f n).length ≤ max f 1
  | 0, n, h => by simp [vbF]
  | f + 1, n, h => by
    unfold vbF
    split
    · have h2 := vbF_short f (n / 128) (by rw [Nat.pow_succ] at h; omega)
      have h3 : f ≠ 0 := by rintro rfl; simp at h; omega
      rw [List.length_cons]; omega
    · simp
/-- what is taken: the number and how many bytes it had -/
def takeF : Nat → List UInt8 → Nat → Nat → Nat × Nat × Bool
  | 0, _, _, _ => (0, 0, false)
  | _ + 1, [], _, _ => (0, 0, false)
  | f + 1, b :: r, k, n =>
    if b.toNat < 128 then (if n + b.toNat % 128 * 128 ^ k ≤ 2000000001 ∧ (0 < b.toNat ∨ k = 0) then (n + b.toNat % 128 * 128 ^ k, k + 1, true) else (0, 0, false))
    else takeF f r (k + 1) (n + b.toNat % 128 * 128 ^ k)
theorem ofNat_toNat {n : Nat} (h : n < 256) : (UInt8.ofNat n).toNat = n := by
  rw [UInt8.toNat_ofNat']; exact Nat.mod_eq_of_lt h
theorem take_vb : ∀ (f j k m n : Nat) (r : List UInt8), f + 1 ≤ j → n < 128 ^ (f + 1) → (0 < n ∨ k = 0) → m + n * 128 ^ k ≤ 2000000001 → takeF j (vbF f n ++ r) k m = (m + n * 128 ^ k, k + (vbF f n).length, true)
  | f, 0, _, _, _, _, hj, _, _, _ => by omega
  | 0, j + 1, k, m, n, r, hj, hn, h0, hm => by
    have hn' : n < 128 := by simpa using hn
    unfold vbF takeF
    rw [List.cons_append]
    simp only
    rw [ofNat_toNat (by omega), if_pos hn', Nat.mod_eq_of_lt hn', if_pos ⟨hm, h0⟩]
    rfl
  | f + 1, j + 1, k, m, n, r, hj, hn, h0, hm => by
    unfold vbF
    by_cases hc : 128 ≤ n
    · rw [if_pos hc, List.cons_append, takeF, ofNat_toNat (by omega), if_neg (by omega)]
      have e1 : (n % 128 + 128) % 128 = n % 128 := by omega
      have e2 : m + n % 128 * 128 ^ k + n / 128 * 128 ^ (k + 1) = m + n * 128 ^ k := by
        have : n = n % 128 + 128 * (n / 128) := by omega
        rw [Nat.pow_succ, show n / 128 * (128 ^ k * 128) = 128 * (n / 128) * 128 ^ k by rw [Nat.mul_comm (128 ^ k), ← Nat.mul_assoc, Nat.mul_comm (n / 128)], Nat.add_assoc, ← Nat.add_mul, ← this]
      rw [e1, take_vb f j (k + 1) _ (n / 128) r (by omega) (by rw [Nat.pow_succ] at hn; omega) (.inl (by omega)) (by rw [e2]; exact hm), e2, List.length_cons]
      rw [show k + 1 + (vbF f (n / 128)).length = k + ((vbF f (n / 128)).length + 1) by omega]
    · have hn' : n < 128 := by omega
      rw [if_neg hc, List.cons_append, takeF, ofNat_toNat (by omega), if_pos hn', Nat.mod_eq_of_lt hn', if_pos ⟨hm, h0⟩]
      rfl
theorem takeF_bd : ∀ (f k n : Nat) (l : List UInt8), (takeF f l k n).1 ≤ 2000000001
  | 0, k, n, l => by simp [takeF]
  | f + 1, k, n, [] => by simp [takeF]
  | f + 1, k, n, b :: r => by
    unfold takeF
    split
    · split
      · rename_i h; exact h.1
      · simp
    · exact takeF_bd f _ _ r
theorem takeF_len : ∀ (f k n : Nat) (l : List UInt8), (takeF f l k n).2.2 = true → k < (takeF f l k n).2.1 ∧ (takeF f l k n).2.1 ≤ k + l.length
  | 0, k, n, l => by simp [takeF]
  | f + 1, k, n, [] => by simp [takeF]
  | f + 1, k, n, b :: r => by
    unfold takeF
    split
    · split
      · simp
      · simp
    · intro h
      have := takeF_len f _ _ r h
      rw [List.length_cons]; omega
def foldI (n : Int) : Int := if n < 0 then -2 * n - 1 else 2 * n
def unfoldI (n : Int) : Int := if n % 2 = 1 then -((n + 1) / 2) else n / 2
theorem fold_back (n : Int) : unfoldI (foldI n) = n := by unfold unfoldI foldI; split <;> split <;> omega
theorem fold_bd (n : Int) (h1 : -1000000000 ≤ n) (h2 : n ≤ 1000000000) : 0 ≤ foldI n ∧ foldI n ≤ 2000000000 := by unfold foldI; split <;> omega
end Go.Proofs.Ytlmgckijbamgpaa
