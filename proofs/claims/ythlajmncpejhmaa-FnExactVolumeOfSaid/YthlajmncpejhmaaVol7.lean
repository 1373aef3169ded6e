/- The reference's volume: plain laws of its sums. -/
import Derived.Test.YthlajmncpejhmaaVol6
import Derived.Test.YthlajmncpejhmaaUnionS
import Derived.Laws.AppendOwnNone
namespace Go.Proofs.Ythlajmncpejhmaa
set_option linter.unusedVariables false
open Go.ChangeShapes Go.WideShapes Go.ChangeAt Go.RowKit
set_option maxRecDepth 100000

def psR (l : List Bx) (k j : Nat) : List Bx := partsR (l.getD k []) (l.take j)
theorem psR_zero (l : List Bx) (k : Nat) : psR l k 0 = [l.getD k []] := rfl
theorem psR_next {l : List Bx} {k j : Nat} {o : Bx} (h : l[j]? = some o) : psR l k (j + 1) = (psR l k j).flatMap (cutS · o) := by
  unfold psR partsR
  rw [take_next l j o h, List.foldl_append]; rfl
theorem psR_ok {l : List Bx} (hl : ∀ b ∈ l, Ok3 b) {k : Nat} (hk : k < l.length) (j : Nat) : ∀ p ∈ psR l k j, Ok3 p := by
  have hg : Ok3 (l.getD k []) := by rw [List.getD_eq_getElem?_getD, List.getElem?_eq_getElem hk]; exact hl _ (List.getElem_mem _)
  exact (parts_inv (l.take j) (fun o ho => hl o (List.mem_of_mem_take ho)) [l.getD k []] (by intro p hp; simp at hp; subst hp; exact hg)).1
theorem vol_bd : ∀ b : Bx, InR b → volB b ≤ (2001 : Int) ^ b.length
  | [], _ => by simp [volB]
  | s :: b, h => by
    have hs := h s (by simp)
    have h1 := vol_bd b fun t ht => h t (by simp [ht])
    have h2 := vol_pos b fun t ht => h t (by simp [ht])
    rw [volB, List.length_cons, Int.pow_succ, Int.mul_comm ((2001 : Int) ^ b.length)]
    exact Int.mul_le_mul (by omega) h1 (by omega) (by omega)
theorem vol_bd3 {b : Bx} (h : Ok3 b) : volB b ≤ 8012006001 := by
  have := vol_bd b h.1
  rw [h.2] at this; simpa using this
theorem len_le_vol : ∀ {ps : List Bx}, (∀ p ∈ ps, Ok3 p) → (ps.length : Int) ≤ sumI volB ps
  | [], _ => by simp [sumI]
  | p :: ps, h => by
    have h1 := vol_pos p (h p (by simp)).1
    have h2 := len_le_vol (ps := ps) fun q hq => h q (by simp [hq])
    rw [sumI, List.length_cons]; omega
theorem psR_len {l : List Bx} (hl : ∀ b ∈ l, Ok3 b) {k : Nat} (hk : k < l.length) (j : Nat) : (psR l k j).length ≤ 8012006001 := by
  have hg : Ok3 (l.getD k []) := by rw [List.getD_eq_getElem?_getD, List.getElem?_eq_getElem hk]; exact hl _ (List.getElem_mem _)
  have h1 := len_le_vol (psR_ok hl hk j)
  have h2 := parts_vol (b := l.getD k []) (os := l.take j) hg fun o ho => hl o (List.mem_of_mem_take ho)
  have h3 : sumP 3 (fun q => if (l.take j).any (hasR · q) = true then 0 else ind (l.getD k []) q) ≤ sumP 3 (ind (l.getD k [])) := sumP_mono 3 fun q => by
    have := ind_01 (l.getD k []) q
    split <;> omega
  have h4 := vol_sum (l.getD k []) hg.1
  rw [hg.2] at h4
  have h5 := vol_bd3 hg
  unfold psR at h1 ⊢
  omega
theorem cnt_next {l : List Bx} (hl : ∀ b ∈ l, Ok3 b) {k : Nat} (hk : k < l.length) : cntB 3 (l.take (k + 1)) = cntB 3 (l.take k) + sumI volB (psR l k k) := by
  have h1 := vol_parts hl (k + 1) (by omega)
  have h2 := vol_parts hl k (by omega)
  rw [List.range_succ, sumI_app, h2, sumI, sumI, partSum] at h1
  unfold psR; omega
theorem sumI_take {f : Bx → Int} : ∀ (ps : List Bx) (m : Nat), (∀ p ∈ ps, 0 ≤ f p) → 0 ≤ sumI f (ps.take m) ∧ sumI f (ps.take m) ≤ sumI f ps
  | [], m, _ => by simp [sumI]
  | p :: ps, 0, h => by
    have h1 := h p (by simp); have h2 := (sumI_take ps ps.length fun q hq => h q (by simp [hq])).1
    rw [List.take_length] at h2
    rw [List.take_zero, sumI, sumI]; omega
  | p :: ps, m + 1, h => by
    have h1 := h p (by simp); have h2 := sumI_take ps m fun q hq => h q (by simp [hq])
    rw [List.take_succ_cons, sumI, sumI]; omega
theorem sumI_nextV {f : Bx → Int} {ps : List Bx} {m : Nat} {p : Bx} (h : ps[m]? = some p) : sumI f (ps.take (m + 1)) = sumI f (ps.take m) + f p := by
  rw [take_next ps m p h, sumI_app, sumI, sumI, Int.add_zero]
theorem volB_app : ∀ (a b : Bx), volB (a ++ b) = volB a * volB b
  | [], b => by simp [volB]
  | s :: a, b => by rw [List.cons_append, volB, volB, volB_app a b, Int.mul_assoc]
theorem volB_next {p : Bx} {i : Nat} {s : Int × Int} (h : p[i]? = some s) : volB (p.take (i + 1)) = volB (p.take i) * (s.2 - s.1 + 1) := by
  rw [take_next p i s h, volB_app]; simp [volB]
theorem vol_take {p : Bx} (h : Ok3 p) (i : Nat) : 1 ≤ volB (p.take i) ∧ volB (p.take i) ≤ 8012006001 := by
  have hin : InR (p.take i) := fun s hs => h.1 s (List.mem_of_mem_take hs)
  refine ⟨vol_pos _ hin, ?_⟩
  have h1 := vol_pos (p.drop i) fun s hs => h.1 s (List.mem_of_mem_drop hs)
  have h2 := volB_app (p.take i) (p.drop i)
  rw [List.take_append_drop] at h2
  have h3 := vol_bd3 h
  have h4 : volB (p.take i) * 1 ≤ volB (p.take i) * volB (p.drop i) := Int.mul_le_mul_of_nonneg_left h1 (by have := vol_pos _ hin; omega)
  omega
def nxR (ps : List Bx) (o : Bx) (m : Nat) : List Bx := (ps.take m).flatMap (cutS · o)
theorem nxR_next {ps : List Bx} {o p : Bx} {m : Nat} (h : ps[m]? = some p) : nxR ps o (m + 1) = nxR ps o m ++ cutS p o := by
  unfold nxR; rw [take_next ps m p h, List.flatMap_append]; simp
theorem nxR_len (ps : List Bx) (o : Bx) (m : Nat) : (nxR ps o m).length ≤ (ps.flatMap (cutS · o)).length := by
  unfold nxR
  have h : ps.flatMap (cutS · o) = (ps.take m).flatMap (cutS · o) ++ (ps.drop m).flatMap (cutS · o) := by rw [← List.flatMap_append, List.take_append_drop]
  rw [h, List.length_append]; omega
theorem bxat_of_rd {w : World} {u : Value} {x : Bx} (h : kBox.rd w.heap.size w [u] x) (hx : Ok3 x) : BxAt w u x (fun _ => True) := by
  obtain ⟨a, cap, vss, hu, ⟨hc1, hc2⟩, h1, h2⟩ := h
  simp only [List.cons.injEq, and_true] at hu
  subst hu
  rw [side_flat h2] at h1
  obtain ⟨b, off, rfl, hb, hc⟩ := Rw.at h1 (sds_ne (k := 0) (by rw [hx.2]; omega))
  rw [hx.2] at hc1 ⊢
  exact ⟨b, off, cap, rfl, ⟨hc1, hc2⟩, hb, trivial, hx.2, hc⟩
theorem BxAt.rw {w : World} {b off cap n : Nat} {x : Bx} {N : Nat → Prop} (h : BxAt w (.slice (some ⟨b, off, none⟩) n cap) x N) : Rw w (some ⟨b, off, none⟩) (sds x) := by
  obtain ⟨b', off', cap', hv, _, hl, _, _, hc⟩ := h
  cases hv
  exact .inr ⟨b, off, rfl, hl, hc⟩
end Go.Proofs.Ythlajmncpejhmaa
