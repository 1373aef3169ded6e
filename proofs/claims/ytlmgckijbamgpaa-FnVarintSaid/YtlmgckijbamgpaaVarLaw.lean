/- Numbers come back from their bytes and from their folds: the plain law. -/
import Derived.Test.YtlmgckijbamgpaaFld6
namespace Go.Proofs.Ytlmgckijbamgpaa
set_option linter.unusedVariables false
open Go.ChangeShapes Go.WideShapes Go.ChangeAt Go.RowKit
set_option maxRecDepth 100000

theorem vbF_up : ∀ (f n : Nat), n < 128 ^ (f + 1) → vbF (f + 1) n = vbF f n
  | 0, n, h => by
    have : n < 128 := by simpa using h
    show (if 128 ≤ n then _ else _) = [UInt8.ofNat n]
    rw [if_neg (by omega)]
  | f + 1, n, h => by
    rw [vbF]
    by_cases hc : 128 ≤ n
    · rw [if_pos hc, vbF_up f (n / 128) (by rw [Nat.pow_succ] at h; omega)]
      conv => rhs; rw [vbF, if_pos hc]
    · rw [if_neg hc]
      conv => rhs; rw [vbF, if_neg hc]
theorem vb_five {n : Nat} (h : n ≤ 2000000001) : (vb n).length ≤ 5 := by
  have := vbF_short 5 n (by show n < 34359738368; omega)
  have : max 5 1 = 5 := rfl
  unfold vb; omega
theorem take_vb5 {n : Nat} (h : n ≤ 2000000001) (r : List UInt8) : takeF 5 (vb n ++ r) 0 0 = (n, (vb n).length, true) := by
  have e : vb n = vbF 4 n := vbF_up 4 n (by show n < 34359738368; omega)
  rw [e, take_vb 4 5 0 0 n r (by omega) (by show n < 34359738368; omega) (.inr rfl) (by simpa using h)]
  simp
theorem R_Take_back {n : Nat} (h : n ≤ 2000000001) : R_Take (⟨(vb n).toArray⟩ ++ { data := #[120] }) 0 = (n, ((vb n).length : Int), true) := by
  have e : (⟨(vb n).toArray⟩ : ByteArray) ++ { data := #[120] } = ⟨(vb n ++ [120]).toArray⟩ := str_app _ [120]
  have hs := vb_five h
  have hz : (⟨(vb n ++ [120]).toArray⟩ : ByteArray).size = (vb n).length + 1 := by rw [str_len]; simp
  unfold R_Take
  rw [e, if_neg (by omega)]
  show ((takeF 5 (vb n ++ [120]) 0 0).1, takeEnd (takeF 5 (vb n ++ [120]) 0 0) 0, (takeF 5 (vb n ++ [120]) 0 0).2.2) = _
  rw [take_vb5 h]
  simp [takeEnd]
theorem R_Unfold_back {n : Int} (h : inR n (-1000000000) 1000000000 = true) : R_Unfold (foldI n) = (n, true) := by
  have hr := inR_iff.1 h
  have hb := fold_bd n hr.1 hr.2
  unfold R_Unfold
  rw [if_pos (inR_iff.2 hb), fold_back]
end Go.Proofs.Ytlmgckijbamgpaa
