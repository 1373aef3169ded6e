/- The variables of a term, in order: the plain law. -/
import Derived.Test.YtlmgckijbamgpaaTm1
namespace Go.Proofs.Ytlmgckijbamgpaa
set_option linter.unusedVariables false
open Go.ChangeShapes Go.WideShapes Go.ChangeAt Go.RowKit
set_option maxRecDepth 100000

def pickN (p : Int → Bool) : Nat → List Int
  | 0 => []
  | k + 1 => pickN p k ++ (if p ((k : Int) + 1) = true then [(k : Int) + 1] else [])
def mask (b1 b2 b3 b4 b5 b6 : Bool) (x : Int) : Bool := if x = 1 then b1 else if x = 2 then b2 else if x = 3 then b3 else if x = 4 then b4 else if x = 5 then b5 else b6
theorem pick_key : ∀ b1 b2 b3 b4 b5 b6 : Bool, ∀ v : Fin 6, putR (pickN (mask b1 b2 b3 b4 b5 b6) 6) ((v.val : Int) + 1) = pickN (fun x => mask b1 b2 b3 b4 b5 b6 x || decide (x = (v.val : Int) + 1)) 6 := by decide
theorem pick_ext {p q : Int → Bool} (h : ∀ x : Int, 1 ≤ x → x ≤ 6 → p x = q x) : pickN p 6 = pickN q 6 := by
  simp only [pickN]
  rw [h (((0 : Nat) : Int) + 1) (by decide) (by decide), h (((1 : Nat) : Int) + 1) (by decide) (by decide), h (((2 : Nat) : Int) + 1) (by decide) (by decide), h (((3 : Nat) : Int) + 1) (by decide) (by decide), h (((4 : Nat) : Int) + 1) (by decide) (by decide), h (((5 : Nat) : Int) + 1) (by decide) (by decide)]
theorem mask_all (p : Int → Bool) (x : Int) (h1 : 1 ≤ x) (h2 : x ≤ 6) : p x = mask (p 1) (p 2) (p 3) (p 4) (p 5) (p 6) x := by
  have : x = 1 ∨ x = 2 ∨ x = 3 ∨ x = 4 ∨ x = 5 ∨ x = 6 := by omega
  rcases this with rfl | rfl | rfl | rfl | rfl | rfl <;> rfl
theorem pick_put (p : Int → Bool) (v : Int) (h1 : 1 ≤ v) (h2 : v ≤ 6) : putR (pickN p 6) v = pickN (fun x => p x || decide (x = v)) 6 := by
  obtain ⟨k, rfl⟩ : ∃ k : Fin 6, v = (k.val : Int) + 1 := ⟨⟨(v - 1).toNat, by omega⟩, by simp; omega⟩
  rw [pick_ext (mask_all p), pick_key]
  exact pick_ext fun x hx1 hx2 => by rw [← mask_all p x hx1 hx2]
theorem fold_pick : ∀ (vs : List Int) (p : Int → Bool), (∀ v ∈ vs, 1 ≤ v ∧ v ≤ 6) → vs.foldl putR (pickN p 6) = pickN (fun x => p x || decide (x ∈ vs)) 6
  | [], p, _ => by simp
  | v :: r, p, h => by
    have hv := h v (by simp)
    rw [List.foldl_cons, pick_put p v hv.1 hv.2, fold_pick r _ fun x hx => h x (by simp [hx])]
    refine pick_ext fun x _ _ => ?_
    by_cases h1 : x = v <;> by_cases h2 : x ∈ r <;> simp [h1, h2]
theorem fold_vars {vs : List Int} (h : ∀ v ∈ vs, 1 ≤ v ∧ v ≤ 6) : vs.foldl putR [] = pickN (fun x => decide (x ∈ vs)) 6 := by
  have := fold_pick vs (fun _ => false) h
  have e : pickN (fun _ => false) 6 = [] := rfl
  rw [e] at this
  rw [this]
  exact pick_ext fun x _ _ => by simp
theorem pickN_len (p : Int → Bool) : ∀ k, (pickN p k).length ≤ k
  | 0 => by simp [pickN]
  | k + 1 => by
    have := pickN_len p k
    unfold pickN
    rw [List.length_append]
    split <;> simp <;> omega
theorem pickN_bd (p : Int → Bool) : ∀ k, ∀ x ∈ pickN p k, 1 ≤ x ∧ x ≤ (k : Int)
  | 0, x, h => by simp [pickN] at h
  | k + 1, x, h => by
    unfold pickN at h
    rcases List.mem_append.1 h with h | h
    · have := pickN_bd p k x h; push_cast; omega
    · split at h
      · simp at h; push_cast; omega
      · simp at h
theorem pK_vl {g : List Cel → Option (List Int × List Cel)} (hg : ∀ l vs r, g l = some (vs, r) → vs.length + r.length ≤ l.length) : ∀ (k : Nat) (l : List Cel) (vs : List Int) (r : List Cel), pK g k l = some (vs, r) → vs.length + r.length ≤ l.length
  | 0, l, vs, r, h => by simp [pK] at h; obtain ⟨rfl, rfl⟩ := h; simp
  | k + 1, l, vs, r, h => by
    unfold pK at h
    cases h1 : g l with
    | none => rw [h1] at h; cases h
    | some p =>
      obtain ⟨us, r1⟩ := p
      rw [h1] at h
      simp only at h
      cases h2 : pK g k r1 with
      | none => rw [h2] at h; cases h
      | some q =>
        obtain ⟨ws, r2⟩ := q
        rw [h2] at h
        simp only [Option.some.injEq, Prod.mk.injEq] at h
        obtain ⟨rfl, rfl⟩ := h
        have a := hg l us r1 h1
        have b := pK_vl hg k r1 ws r2 h2
        rw [List.length_append]; omega
theorem pT_vl : ∀ (f : Nat) (l : List Cel) (vs : List Int) (r : List Cel), pT f l = some (vs, r) → vs.length + r.length ≤ l.length
  | 0, l, vs, r, h => by simp [pT] at h
  | f + 1, [], vs, r, h => by simp [pT] at h
  | f + 1, c :: t, vs, r, h => by
    unfold pT at h
    split at h
    · split at h
      · have := pK_vl (pT_vl f) _ _ _ _ h
        rw [List.length_cons]; omega
      · cases h
    · split at h
      · simp only [Option.some.injEq, Prod.mk.injEq] at h
        obtain ⟨rfl, rfl⟩ := h
        simp; omega
      · cases h
end Go.Proofs.Ytlmgckijbamgpaa
