/- Each place of a row has its one tree; what the parts of a type are; a tree told as a row. In plain Lean. -/
import Derived.Test.YtmlnecopbncdbaaTyS
namespace Go.Proofs.Ytmlnecopbncdbaa
set_option linter.unusedVariables false
set_option linter.unusedSimpArgs false
set_option maxRecDepth 100000

theorem seg_ex (L : List Ty) : ∀ (f p s : Nat), L.length - s ≤ f → p < s → ∃ ts e, Seg L p s ts e
  | f, p, s, hf, hps => by
    rcases hx : L[s]? with _ | x
    · exact ⟨[], s, .nil (fun x h => by rw [hx] at h; cases h)⟩
    · by_cases hu : x.up = (p : Int)
      · have hs := (List.getElem?_eq_some_iff.1 hx).1
        match f, hf with
        | 0, hf => omega
        | f + 1, hf =>
          cases hb : holdsK x.kind with
          | true =>
            obtain ⟨ks, m, hk⟩ := seg_ex L f s (s + 1) (by omega) (by omega)
            have hm := hk.le
            obtain ⟨ts, e, ht⟩ := seg_ex L f p m (by omega) (by omega)
            exact ⟨_, e, .cons hx hu (fun _ => hk) (fun h => by rw [hb] at h; cases h) ht⟩
          | false =>
            obtain ⟨ts, e, ht⟩ := seg_ex L f p (s + 1) (by omega) (by omega)
            exact ⟨_, e, .cons (ks := []) hx hu (fun h => by rw [hb] at h; cases h) (fun _ => ⟨rfl, rfl⟩) ht⟩
      · exact ⟨[], s, .nil (fun y h => by rw [hx] at h; cases h; exact hu)⟩
theorem tree_ex {L : List Ty} {i : Nat} {x : Ty} (hx : L[i]? = some x) : ∃ t e, PTree L i t e := by
  cases hb : holdsK x.kind with
  | true =>
    obtain ⟨ks, e, h⟩ := seg_ex L _ i (i + 1) (Nat.le_refl _) (by omega)
    exact ⟨_, e, x, ks, hx, rfl, fun _ => h, fun h => by rw [hb] at h; cases h⟩
  | false => exact ⟨_, i + 1, x, [], hx, rfl, (fun h => by rw [hb] at h; cases h), fun _ => ⟨rfl, rfl⟩⟩
theorem Seg.same {L : List Ty} {p s e : Nat} {ts : List Tr} (h : Seg L p s ts e) : ∀ {ts' : List Tr} {e' : Nat}, Seg L p s ts' e' → ts = ts' ∧ e = e' := by
  induction h with
  | nil hn =>
    intro ts' e' h'
    cases h' with
    | nil _ => exact ⟨rfl, rfl⟩
    | cons hx hu _ _ _ => exact absurd hu (hn _ hx)
  | cons hx hu hy hn hr ih1 ih2 =>
    rename_i p s m e x ks ts
    intro ts' e' h'
    cases h' with
    | nil hn' => exact absurd hu (hn' _ hx)
    | cons hx' hu' hy' hn' hr' =>
      rename_i m' x' ks' ts'
      rw [hx] at hx'; cases hx'
      have hkm : ks = ks' ∧ m = m' := by
        cases hb : holdsK x.kind with
        | true => exact ih1 hb (hy' hb)
        | false =>
          obtain ⟨a1, a2⟩ := hn hb
          obtain ⟨b1, b2⟩ := hn' hb
          exact ⟨a1.trans b1.symm, a2.trans b2.symm⟩
      obtain ⟨rfl, rfl⟩ := hkm
      obtain ⟨rfl, rfl⟩ := ih2 hr'
      exact ⟨rfl, rfl⟩
theorem PTree.same {L : List Ty} {i e e' : Nat} {t t' : Tr} (h : PTree L i t e) (h' : PTree L i t' e') : t = t' ∧ e = e' := by
  obtain ⟨x, ks, hx, rfl, hy, hn⟩ := h
  obtain ⟨x', ks', hx', rfl, hy', hn'⟩ := h'
  rw [hx] at hx'; cases hx'
  cases hb : holdsK x.kind with
  | true =>
    obtain ⟨rfl, rfl⟩ := (hy hb).same (hy' hb)
    exact ⟨rfl, rfl⟩
  | false =>
    obtain ⟨rfl, rfl⟩ := hn hb
    obtain ⟨rfl, rfl⟩ := hn' hb
    exact ⟨rfl, rfl⟩
/-- the tree of a place -/
noncomputable def treeOf (L : List Ty) (i : Nat) : Tr := Classical.epsilon (h := ⟨.node 0 ⟨#[]⟩ 0 false 0 []⟩) fun t => ∃ e, PTree L i t e
theorem PTree.of {L : List Ty} {i e : Nat} {t : Tr} (h : PTree L i t e) : treeOf L i = t := by
  have := Classical.epsilon_spec_aux (α := Tr) ⟨.node 0 ⟨#[]⟩ 0 false 0 []⟩ (fun t => ∃ e, PTree L i t e) ⟨t, e, h⟩
  obtain ⟨e', h'⟩ := this
  exact (h'.same h).1
/-- the places of the parts of p between s and e -/
def kidsI (L : List Ty) (p s : Nat) : Nat → List Nat
  | 0 => []
  | e + 1 => kidsI L p s e ++ (if s ≤ e then (match L[e]? with | some x => if x.up = (p : Int) then [e] else [] | none => []) else [])
theorem kidsI_same {L : List Ty} {p s : Nat} : ∀ e, e ≤ s → kidsI L p s e = []
  | 0, _ => rfl
  | e + 1, h => by rw [kidsI, kidsI_same e (by omega), if_neg (by omega)]; rfl
theorem kidsI_none {L : List Ty} {p s m : Nat} : ∀ e, m ≤ e → (∀ i x, m ≤ i → i < e → L[i]? = some x → ¬ x.up = (p : Int)) → kidsI L p s e = kidsI L p s m
  | 0, h, _ => by rw [show m = 0 by omega]
  | e + 1, h, hn => by
    by_cases he : m = e + 1
    · rw [he]
    · rw [kidsI, kidsI_none e (by omega) (fun i x h1 h2 => hn i x h1 (by omega))]
      split
      · cases hx : L[e]? with
        | none => simp
        | some x =>
          have := hn e x (by omega) (by omega) hx
          simp [this]
      · simp
theorem kidsI_split {L : List Ty} {p s m : Nat} : ∀ e, s ≤ m → m ≤ e → kidsI L p s e = kidsI L p s m ++ kidsI L p m e
  | 0, _, h => by rw [show m = 0 by omega]; simp [kidsI]
  | e + 1, hs, h => by
    by_cases he : m = e + 1
    · rw [he, kidsI_same (s := e + 1) (e + 1) (Nat.le_refl _), List.append_nil]
    · rw [kidsI, kidsI_split e hs (by omega), kidsI, if_pos (by omega), if_pos (by omega), List.append_assoc]
theorem kidsI_one {L : List Ty} {p s : Nat} {x : Ty} (hx : L[s]? = some x) (hu : x.up = (p : Int)) : kidsI L p s (s + 1) = [s] := by
  rw [kidsI, kidsI_same s (Nat.le_refl _), if_pos (Nat.le_refl _), hx]
  simp [hu]
theorem kidsI_lt {L : List Ty} {p s i : Nat} : ∀ e, i ∈ kidsI L p s e → s ≤ i ∧ i < e ∧ ∃ x, L[i]? = some x ∧ x.up = (p : Int)
  | 0, hm => by simp [kidsI] at hm
  | e + 1, hm => by
    rw [kidsI] at hm
    rcases List.mem_append.1 hm with hm | hm
    · obtain ⟨h1, h2, h3⟩ := kidsI_lt e hm
      exact ⟨h1, by omega, h3⟩
    · by_cases hs : s ≤ e
      · rw [if_pos hs] at hm
        cases hx : L[e]? with
        | none => rw [hx] at hm; simp at hm
        | some x =>
          rw [hx] at hm
          by_cases hu : x.up = (p : Int)
          · simp [hu] at hm
            subst hm
            exact ⟨hs, by omega, x, hx, hu⟩
          · simp [hu] at hm
      · rw [if_neg hs] at hm; simp at hm
theorem kidsI_kidsH {L : List Ty} {p s : Nat} : ∀ e, (kidsI L p s e).length = (kidsH L p s e).length
  | 0 => rfl
  | e + 1 => by
    rw [kidsI, kidsH, List.length_append, List.length_append, kidsI_kidsH e]
    congr 1
    split
    · cases L[e]? with
      | none => rfl
      | some x => by_cases hu : x.up = (p : Int) <;> simp [hu]
    · rfl
/-- the trees of places -/
def Trees (L : List Ty) : List Nat → List Tr → Prop
  | [], ts => ts = []
  | i :: r, ts => ∃ t us e, ts = t :: us ∧ PTree L i t e ∧ Trees L r us
theorem Seg.trees {L : List Ty} {p s e : Nat} {ts : List Tr} (h : Seg L p s ts e) (hps : p < s) : Trees L (kidsI L p s e) ts := by
  induction h with
  | nil _ => rw [kidsI_same _ (Nat.le_refl _)]; rfl
  | cons hx hu hy hn hr ih1 ih2 =>
    rename_i p s m e x ks ts
    have hm := Seg.mid hy hn
    have hme := hr.le
    have e1 : kidsI L p s e = s :: kidsI L p m e := by
      rw [kidsI_split (m := m) e (by omega) hme, kidsI_split (m := s + 1) m (by omega) hm, kidsI_one hx hu, kidsI_none (m := s + 1) m hm, kidsI_same _ (Nat.le_refl _)]
      · rfl
      · intro i y h1 h2 hiy
        cases hb : holdsK x.kind with
        | true =>
          have := (hy hb).up (by omega) i y h1 h2 hiy
          omega
        | false => have := (hn hb).2; omega
    rw [e1]
    exact ⟨_, _, m, rfl, ⟨x, ks, hx, rfl, hy, hn⟩, ih2 (by omega)⟩
/-- each place within has its tree within, and behind it no one names it -/
theorem Seg.sub {L : List Ty} {p s e : Nat} {ts : List Tr} (h : Seg L p s ts e) (hps : p < s) : ∀ k, s ≤ k → k < e → ∃ t m, PTree L k t m ∧ m ≤ e ∧ ∀ i z, m ≤ i → i < e → L[i]? = some z → ¬ z.up = (k : Int) := by
  induction h with
  | nil _ => intro k h1 h2; omega
  | cons hx hu hy hn hr ih1 ih2 =>
    rename_i p s m e x ks ts
    have hm := Seg.mid hy hn
    have hme := hr.le
    intro k h1 h2
    have hfar : ∀ q, s ≤ q → q < m → ∀ i z, m ≤ i → i < e → L[i]? = some z → ¬ z.up = (q : Int) := by
      intro q h1 h2 i z h3 h4 hz
      have := hr.up (by omega) i z h3 h4 hz
      omega
    by_cases e1 : k = s
    · subst e1
      exact ⟨_, m, ⟨x, ks, hx, rfl, hy, hn⟩, hme, hfar k (Nat.le_refl _) (by omega)⟩
    · by_cases e2 : k < m
      · cases hb : holdsK x.kind with
        | true =>
          obtain ⟨t, m2, a1, a2, a3⟩ := ih1 hb (by omega) k (by omega) e2
          refine ⟨t, m2, a1, by omega, fun i z b1 b2 hz => ?_⟩
          by_cases hi : i < m
          · exact a3 i z b1 hi hz
          · exact hfar k h1 e2 i z (by omega) b2 hz
        | false => have := (hn hb).2; omega
      · obtain ⟨t, m2, a1, a2, a3⟩ := ih2 (by omega) k (by omega) h2
        exact ⟨t, m2, a1, a2, a3⟩
/-- in a row that is one tree each place has its tree, with just the parts that name it -/
theorem PTree.sub {L : List Ty} {t : Tr} {x : Ty} (hx : L[0]? = some x) (hk : holdsK x.kind = true) (h : PTree L 0 t L.length) (k : Nat) (hkl : k < L.length) : ∃ t m, PTree L k t m ∧ m ≤ L.length ∧ ∀ i z, m ≤ i → L[i]? = some z → ¬ z.up = (k : Int) := by
  have h' := h
  obtain ⟨y, ks, hy, rfl, hyy, -⟩ := h
  rw [hx] at hy; cases hy
  have hs := hyy hk
  by_cases h0 : k = 0
  · subst h0
    exact ⟨_, _, h', Nat.le_refl _, fun i z b1 hz => by have := (List.getElem?_eq_some_iff.1 hz).1; omega⟩
  · obtain ⟨t, m, a1, a2, a3⟩ := hs.sub (by omega) k (by omega) hkl
    exact ⟨t, m, a1, a2, fun i z b1 hz => a3 i z b1 (List.getElem?_eq_some_iff.1 hz).1 hz⟩
theorem PTree.trees {L : List Ty} {k m : Nat} {t : Tr} {x : Ty} (h : PTree L k t m) (hm : m ≤ L.length) (hx : L[k]? = some x) (hno : ∀ i z, m ≤ i → L[i]? = some z → ¬ z.up = (k : Int)) : t = trOf x t.kids ∧ Trees L (kidsI L k (k + 1) L.length) t.kids := by
  obtain ⟨y, ks, hy, rfl, hyy, hnn⟩ := h
  rw [hx] at hy; cases hy
  refine ⟨rfl, ?_⟩
  rw [kidsI_none (m := m) _ hm (fun i z b1 _ hz => hno i z b1 hz)]
  cases hb : holdsK x.kind with
  | true => exact (hyy hb).trees (by omega)
  | false =>
    obtain ⟨rfl, rfl⟩ := hnn hb
    rw [kidsI_same _ (Nat.le_refl _)]
    rfl
theorem Seg.count {L : List Ty} {p s e : Nat} {ts : List Tr} (h : Seg L p s ts e) : countL ts + s = e := by
  induction h with
  | nil _ => simp [countL]
  | cons hx hu hy hn hr ih1 ih2 =>
    rename_i p s m e x ks ts
    rw [countL, trOf, countT]
    cases hb : holdsK x.kind with
    | true => have := ih1 hb; omega
    | false => obtain ⟨rfl, rfl⟩ := hn hb; simp [countL]; omega
theorem PTree.count {L : List Ty} {i e : Nat} {t : Tr} (h : PTree L i t e) : countT t + i = e := by
  obtain ⟨x, ks, hx, rfl, hy, hn⟩ := h
  rw [trOf, countT]
  cases hb : holdsK x.kind with
  | true => have := (hy hb).count; omega
  | false => obtain ⟨rfl, rfl⟩ := hn hb; simp [countL]; omega
/-! ### good rows, good trees -/
def HeadOK (t : Tr) : Prop := t.kind = 5 ∧ t.name.size = 0 ∧ t.no = 0 ∧ t.must = false
def GoodT (t : Tr) : Prop := HeadOK t ∧ RightT t ∧ deepT t ≤ 5 ∧ countT t ≤ 30
def GoodL (L : List Ty) : Prop := (1 ≤ L.length ∧ L.length ≤ 30) ∧ RowsOK L ∧ deepT (treeOf L 0) ≤ 5
noncomputable def goodL (L : List Ty) : Bool := @decide (GoodL L) (Classical.propDecidable _)
noncomputable def goodT (t : Tr) : Bool := @decide (GoodT t) (Classical.propDecidable _)
theorem goodL_iff {L : List Ty} : goodL L = true ↔ GoodL L := by unfold goodL; exact @decide_eq_true_iff _ (Classical.propDecidable _)
theorem goodT_iff {t : Tr} : goodT t = true ↔ GoodT t := by unfold goodT; exact @decide_eq_true_iff _ (Classical.propDecidable _)
theorem good_tree {L : List Ty} {t : Tr} {e : Nat} {x0 : Ty} (h0 : L[0]? = some x0) (hT : PTree L 0 t e) : GoodL L ↔ (L.length ≤ 30 ∧ x0.up = -1 ∧ e = L.length ∧ GoodT t) := by
  unfold GoodL
  rw [rows_tree h0 hT, hT.of]
  have hc := hT.count
  have hl := (List.getElem?_eq_some_iff.1 h0).1
  have hhd : t.kind = x0.kind ∧ t.name = x0.name ∧ t.no = x0.no ∧ t.must = x0.must := by
    obtain ⟨y, ks, hy, rfl, -⟩ := hT
    rw [h0] at hy; cases hy
    exact ⟨rfl, rfl, rfl, rfl⟩
  unfold GoodT HeadOK RootOK
  rw [hhd.1, hhd.2.1, hhd.2.2.1, hhd.2.2.2]
  constructor
  · rintro ⟨⟨h1, h2⟩, ⟨⟨a1, a2, a3, a4, a5⟩, h4, h5⟩, h6⟩
    exact ⟨h2, a2, h4, ⟨a1, a3, a4, a5⟩, h5, h6, by omega⟩
  · rintro ⟨h2, a2, h4, ⟨a1, a3, a4, a5⟩, h5, h6, h7⟩
    exact ⟨⟨by omega, h2⟩, ⟨⟨a1, a2, a3, a4, a5⟩, h4, h5⟩, h6⟩
theorem GoodL.tree {L : List Ty} (h : GoodL L) : ∃ x0, L[0]? = some x0 ∧ RootOK x0 ∧ PTree L 0 (treeOf L 0) L.length ∧ GoodT (treeOf L 0) ∧ RowsOK L ∧ L.length ≤ 30 := by
  have hl : 0 < L.length := by have := h.1.1; omega
  have h0 : L[0]? = some L[0] := List.getElem?_eq_getElem hl
  obtain ⟨t, e, hT⟩ := tree_ex h0
  have h1 := (good_tree h0 hT).1 h
  have h2 := (rows_tree h0 hT).1 h.2.1
  have he : e = L.length := h2.2.1
  subst he
  rw [hT.of]
  exact ⟨_, h0, h2.1, hT, h1.2.2.2, h.2.1, h.1.2⟩
end Go.Proofs.Ytmlnecopbncdbaa
