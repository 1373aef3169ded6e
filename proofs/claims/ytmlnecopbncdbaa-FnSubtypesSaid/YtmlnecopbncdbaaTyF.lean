/- A tree told as a row, and that this row is the row of the tree. In plain Lean. -/
import Derived.Test.YtmlnecopbncdbaaTyE
namespace Go.Proofs.Ytmlnecopbncdbaa
set_option linter.unusedVariables false
set_option linter.unusedSimpArgs false
set_option maxRecDepth 100000

mutual
def flatT (up : Int) (k : Nat) : Tr → List Ty
  | .node kd n no m mo ks => ⟨kd, n, no, m, up, mo⟩ :: flatL k (k + 1) ks
def flatL (p s : Nat) : List Tr → List Ty
  | [] => []
  | t :: r => flatT (p : Int) s t ++ flatL p (s + countT t) r
end
mutual
def WfT : Tr → Prop
  | .node k _ _ _ _ ks => (holdsK k = false → ks = []) ∧ WfL ks
def WfL : List Tr → Prop
  | [] => True
  | t :: r => WfT t ∧ WfL r
end
mutual
theorem flatT_len (up : Int) (k : Nat) : ∀ t, (flatT up k t).length = countT t
  | .node kd n no m mo ks => by rw [flatT, countT, List.length_cons, flatL_len]; omega
theorem flatL_len (p s : Nat) : ∀ ts, (flatL p s ts).length = countL ts
  | [] => by simp [flatL, countL]
  | t :: r => by rw [flatL, countL, List.length_append, flatT_len, flatL_len]
end
theorem head_app {α : Type} {a b : List α} {x : α} (h : (a ++ b).head? = some x) : a.head? = some x ∨ (a = [] ∧ b.head? = some x) := by
  cases a with
  | nil => exact .inr ⟨rfl, h⟩
  | cons y l => exact .inl h
theorem flatL_head {p s : Nat} {ts : List Tr} {x : Ty} (h : (flatL p s ts).head? = some x) : x.up = (p : Int) := by
  match ts, h with
  | [], h => simp [flatL] at h
  | .node kd n no m mo ks :: r, h =>
    rw [flatL, flatT] at h
    simp at h
    rw [← h]
theorem flatL_nil {p s : Nat} {ts : List Tr} (h : flatL p s ts = []) : ts = [] := by
  match ts, h with
  | [], _ => rfl
  | .node kd n no m mo ks :: r, h => rw [flatL, flatT] at h; simp at h
mutual
theorem flatT_sub (L : List Ty) (up : Int) (s : Nat) : ∀ (t : Tr) (pre post : List Ty), WfT t → L = pre ++ flatT up s t ++ post → pre.length = s → (∀ x, post.head? = some x → x.up < (s : Int)) → ∃ x ks, L[s]? = some x ∧ x.up = up ∧ t = trOf x ks ∧ (holdsK x.kind = true → Seg L s (s + 1) ks (s + countT t)) ∧ (holdsK x.kind = false → ks = [] ∧ s + countT t = s + 1)
  | .node kd n no m mo ks, pre, post, hw, hL, hp, hpost => by
    rw [WfT] at hw
    refine ⟨⟨kd, n, no, m, up, mo⟩, ks, ?_, rfl, rfl, fun hk => ?_, fun hk => ?_⟩
    · rw [hL, flatT, ← hp]; simp
    · rw [countT, ← Nat.add_assoc]
      refine flatL_sub L s (s + 1) ks (pre ++ [⟨kd, n, no, m, up, mo⟩]) post hw.2 ?_ (by simp [hp]) (by omega) hpost
      rw [hL, flatT]; simp
    · have := hw.1 hk
      subst this
      exact ⟨rfl, by simp [countT, countL]⟩
theorem flatL_sub (L : List Ty) (p s : Nat) : ∀ (ts : List Tr) (pre post : List Ty), WfL ts → L = pre ++ flatL p s ts ++ post → pre.length = s → p < s → (∀ x, post.head? = some x → x.up < (p : Int)) → Seg L p s ts (s + countL ts)
  | [], pre, post, _, hL, hp, hps, hpost => by
    refine .nil (fun x hx hu => ?_)
    have : post.head? = some x := by
      rw [hL, flatL, List.append_nil, List.getElem?_append_right (by omega), hp, Nat.sub_self] at hx
      rw [List.head?_eq_getElem?]; exact hx
    have := hpost x this
    omega
  | t :: r, pre, post, hw, hL, hp, hps, hpost => by
    rw [WfL] at hw
    rw [flatL] at hL
    have h1 := flatT_sub L (p : Int) s t pre (flatL p (s + countT t) r ++ post) hw.1 (by rw [hL]; simp) hp (fun x hx => by
      rcases head_app hx with h | ⟨h, h2⟩
      · have := flatL_head h; omega
      · have := hpost x h2; omega)
    obtain ⟨x, ks, a1, a2, rfl, a4, a5⟩ := h1
    have h2 := flatL_sub L p (s + countT (trOf x ks)) r (pre ++ flatT (p : Int) s (trOf x ks)) post hw.2 (by rw [hL]; simp) (by rw [List.length_append, flatT_len, hp]) (by omega) hpost
    rw [countL, ← Nat.add_assoc]
    exact .cons a1 a2 a4 a5 h2
end
theorem flat_tree (up : Int) {t : Tr} (hw : WfT t) : PTree (flatT up 0 t) 0 t (countT t) ∧ ∃ x, (flatT up 0 t)[0]? = some x ∧ x.up = up := by
  obtain ⟨x, ks, h1, h2, h3, h4, h5⟩ := flatT_sub (flatT up 0 t) up 0 t [] [] hw (by simp) rfl (by simp)
  rw [Nat.zero_add (countT t)] at h4 h5
  exact ⟨⟨x, ks, h1, h3, h4, h5⟩, x, h1, h2⟩
/-- a tree told as a row -/
def flat (t : Tr) : List Ty := flatT (-1) 0 t
theorem flat_good {t : Tr} (hw : WfT t) : goodL (flat t) = goodT t := by
  rw [Bool.eq_iff_iff, goodL_iff, goodT_iff]
  obtain ⟨h1, x, h2, h3⟩ := flat_tree (-1) hw
  have h4 := good_tree h2 h1
  unfold flat
  rw [h4, flatT_len]
  constructor
  · rintro ⟨_, _, _, h⟩; exact h
  · intro h; exact ⟨h.2.2.2, h3, rfl, h⟩
theorem flat_len (t : Tr) : (flat t).length = countT t := flatT_len _ _ _
mutual
theorem right_wf : ∀ t, RightT t → WfT t
  | .node k n no m mo ks, h => by
    rw [RightT] at h
    rw [WfT]
    refine ⟨fun hk => ?_, right_wfL k ks h.2⟩
    have h1 := fit_leaf (h := ⟨k, n, no, m, mo⟩) hk h.1
    cases ks with
    | nil => rfl
    | cons a l => rw [hds] at h1; cases h1
theorem right_wfL (k : Int) : ∀ ts, RightL k ts → WfL ts
  | [], _ => by rw [WfL]; trivial
  | t :: r, h => by
    rw [RightL] at h
    rw [WfL]
    exact ⟨right_wf t h.2.1, right_wfL k r h.2.2⟩
end
theorem Seg.wf {L : List Ty} {p s e : Nat} {ts : List Tr} (h : Seg L p s ts e) : WfL ts := by
  induction h with
  | nil _ => rw [WfL]; trivial
  | cons hx hu hy hn hr ih1 ih2 =>
    rename_i p s m e x ks ts
    rw [WfL, trOf, WfT]
    refine ⟨⟨fun hk => (hn hk).1, ?_⟩, ih2⟩
    cases hb : holdsK x.kind with
    | true => exact ih1 hb
    | false => rw [(hn hb).1, WfL]; trivial
theorem PTree.wf {L : List Ty} {i e : Nat} {t : Tr} (h : PTree L i t e) : WfT t := by
  obtain ⟨x, ks, hx, rfl, hy, hn⟩ := h
  rw [trOf, WfT]
  refine ⟨fun hk => (hn hk).1, ?_⟩
  cases hb : holdsK x.kind with
  | true => exact (hy hb).wf
  | false => rw [(hn hb).1, WfL]; trivial
end Go.Proofs.Ytmlnecopbncdbaa
