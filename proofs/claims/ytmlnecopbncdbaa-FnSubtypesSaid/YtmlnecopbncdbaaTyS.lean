/- The reference's way over the row, and that it is the program's way over the tree. In plain Lean. -/
import Derived.Test.YtmlnecopbncdbaaTyG
namespace Go.Proofs.Ytmlnecopbncdbaa
set_option linter.unusedVariables false
set_option linter.unusedSimpArgs false
set_option maxRecDepth 100000

/-- a part at its place: the type it is a part of is one around it -/
def PartAt (L : List Ty) (i : Nat) (x : Ty) : Prop := ∃ (j : Nat) (y : Ty), x.up = (j : Int) ∧ j < i ∧ L[j]? = some y ∧ holdsK y.kind = true ∧ Anc L (i - 1) j ∧ PartOf y.kind x.hd ∧ (y.kind = 5 → ∀ k z, j < k → k < i → L[k]? = some z → z.up = x.up → z.no < x.no ∧ ¬ z.name = x.name)
def KindOK (x : Ty) : Prop := (1 ≤ x.kind ∧ x.kind ≤ 5) ∧ (x.kind = 3 → 0 ≤ x.most ∧ x.most ≤ 20) ∧ (¬ x.kind = 3 → x.most = 0)
def RootOK (x : Ty) : Prop := x.kind = 5 ∧ x.up = -1 ∧ x.name.size = 0 ∧ x.no = 0 ∧ x.must = false
def RowAt (L : List Ty) (i : Nat) : Prop := ∀ x, L[i]? = some x → KindOK x ∧ (i = 0 → RootOK x) ∧ (0 < i → PartAt L i x)
def OneAt (L : List Ty) (i : Nat) : Prop := ∀ x, L[i]? = some x → x.kind = 4 → (kidsH L i (i + 1) L.length).length = 1
/-- the row stands -/
def RowsOK (L : List Ty) : Prop := (∀ i, RowAt L i) ∧ ∀ i, OneAt L i
theorem kidsH_mem {L : List Ty} {p s i : Nat} {x : Ty} (hx : L[i]? = some x) (hu : x.up = (p : Int)) (hs : s ≤ i) : ∀ e, i < e → x.hd ∈ kidsH L p s e
  | 0, h => by omega
  | e + 1, h => by
    rw [kidsH]
    by_cases he : i = e
    · subst he
      rw [if_pos hs, hx]
      simp [hu]
    · exact List.mem_append_left _ (kidsH_mem hx hu hs e (by omega))
theorem kidsH_from {L : List Ty} {p s : Nat} {h : Hd} : ∀ e, h ∈ kidsH L p s e → ∃ i x, s ≤ i ∧ i < e ∧ L[i]? = some x ∧ x.up = (p : Int) ∧ h = x.hd
  | 0, hm => by simp [kidsH] at hm
  | e + 1, hm => by
    rw [kidsH] at hm
    rcases List.mem_append.1 hm with hm | hm
    · obtain ⟨i, x, h1, h2, h3⟩ := kidsH_from e hm
      exact ⟨i, x, h1, by omega, h3⟩
    · by_cases hs : s ≤ e
      · rw [if_pos hs] at hm
        cases hx : L[e]? with
        | none => rw [hx] at hm; simp at hm
        | some x =>
          rw [hx] at hm
          by_cases hu : x.up = (p : Int)
          · simp [hu] at hm
            exact ⟨e, x, hs, by omega, hx, hu, hm⟩
          · simp [hu] at hm
      · rw [if_neg hs] at hm; simp at hm
theorem kidsH_pair {L : List Ty} {p s : Nat} {R : Hd → Hd → Prop} : ∀ e, (∀ i j x y, s ≤ i → i < j → j < e → L[i]? = some x → L[j]? = some y → x.up = (p : Int) → y.up = (p : Int) → R x.hd y.hd) → (kidsH L p s e).Pairwise R
  | 0, _ => by simp [kidsH]
  | e + 1, h => by
    rw [kidsH, List.pairwise_append]
    refine ⟨kidsH_pair e (fun i j x y h1 h2 h3 => h i j x y h1 h2 (by omega)), ?_, ?_⟩
    · split
      · cases L[e]? with
        | none => simp
        | some x => by_cases hu : x.up = (p : Int) <;> simp [hu]
      · simp
    · intro a ha b hb
      obtain ⟨i, x, h1, h2, h3, h4, rfl⟩ := kidsH_from e ha
      split at hb
      · cases hx : L[e]? with
        | none => rw [hx] at hb; simp at hb
        | some y =>
          rw [hx] at hb
          by_cases hu : y.up = (p : Int)
          · simp [hu] at hb
            subst hb
            exact h i e x y h1 h2 (by omega) h3 hx h4 hu
          · simp [hu] at hb
      · simp at hb
theorem Anc.trans {L : List Ty} {i j q : Nat} (h : Anc L i j) (k : Anc L j q) : Anc L i q := by
  induction h with
  | refl => exact k
  | step hx hu hj _ ih => exact .step hx hu hj (ih k)
/-- each part of p in a segment comes up to p; the type ahead of a part of the segment is within its parent -/
theorem Seg.ancs {L : List Ty} {p s e : Nat} {ts : List Tr} (h : Seg L p s ts e) (hps : p < s) : ∀ i, s ≤ i → i < e → Anc L i p := by
  intro i
  induction i using Nat.strongRecOn with
  | _ i ih =>
    intro h1 h2
    -- L[i] is there
    rcases hx : L[i]? with _ | x
    · exfalso
      have : i < L.length := by
        -- within a segment all places are there
        clear ih
        induction h with
        | nil _ => omega
        | cons hy hu hyy hn hr ih1 ih2 =>
          rename_i p s m e y ks ts
          have hm := Seg.mid hyy hn
          have hsl := (List.getElem?_eq_some_iff.1 hy).1
          by_cases e1 : i = s
          · omega
          · by_cases e2 : i < m
            · cases hb : holdsK y.kind with
              | true => exact ih1 hb (by omega) (by omega) e2
              | false => have := (hn hb).2; omega
            · exact ih2 (by omega) (by omega) h2
      rw [List.getElem?_eq_none_iff] at hx
      omega
    · obtain ⟨a1, a2, a3⟩ := h.up hps i x h1 h2 hx
      rcases a3 with a3 | a3
      · exact .step hx a3 (by omega) .refl
      · exact .step (j := x.up.toNat) hx (by omega) (by omega) (ih _ (by omega) (by omega) (by omega))
theorem Seg.around {L : List Ty} {p s e : Nat} {ts : List Tr} (h : Seg L p s ts e) (hps : p < s) (h0 : Anc L (s - 1) p) : ∀ i j x, s ≤ i → i < e → L[i]? = some x → x.up = ((j : Nat) : Int) → Anc L (i - 1) j := by
  induction h with
  | nil _ => intro i j x h1 h2; omega
  | cons hy hu hyy hn hr ih1 ih2 =>
    rename_i p s m e y ks ts
    have hm := Seg.mid hyy hn
    intro i j x h1 h2 hx hj
    by_cases e1 : i = s
    · subst e1
      rw [hy] at hx; cases hx
      obtain rfl : j = p := by omega
      exact h0
    · by_cases e2 : i < m
      · cases hb : holdsK y.kind with
        | true => exact ih1 hb (by omega) (by rw [Nat.add_sub_cancel]; exact .refl) i j x (by omega) e2 hx hj
        | false => have := (hn hb).2; omega
      · refine ih2 (by omega) ?_ i j x (by omega) h2 hx hj
        have hsp : Anc L s p := .step hy hu hps .refl
        cases hb : holdsK y.kind with
        | false => rw [(hn hb).2, Nat.add_sub_cancel]; exact hsp
        | true =>
          by_cases hms : m = s + 1
          · rw [hms, Nat.add_sub_cancel]; exact hsp
          · exact ((hyy hb).ancs (by omega) (m - 1) (by omega) (by omega)).trans hsp
theorem fit_hd {x : Ty} {ks : List Hd} (h : Fit x.hd ks) : KindOK x := ⟨h.1, h.2.1, h.2.2.1⟩
/-- the two ways come to one -/
theorem rows_tree {L : List Ty} {t : Tr} {e : Nat} {x0 : Ty} (h0 : L[0]? = some x0) (hT : PTree L 0 t e) : RowsOK L ↔ (RootOK x0 ∧ e = L.length ∧ RightT t) := by
  obtain ⟨x, ks, hx, rfl, hy, hn⟩ := hT
  rw [h0] at hx; cases hx
  constructor
  · rintro ⟨hrow, hone⟩
    have hroot := (hrow 0 x0 h0).2.1 rfl
    have hseg := hy (by simp [holdsK, hroot.1])
    have hlen := (List.getElem?_eq_some_iff.1 h0).1
    have hle := hseg.len (by omega)
    have he : e = L.length := by
      rcases Nat.lt_or_ge e L.length with hlt | hge
      · exfalso
        have hge1 := hseg.le
        obtain ⟨z, hz⟩ : ∃ z, L[e]? = some z := ⟨_, List.getElem?_eq_getElem hlt⟩
        obtain ⟨j, y, h1, h2, h3, h4, h5, -⟩ := (hrow e z hz).2.2 (by omega)
        by_cases hj : j = 0
        · subst hj
          exact hseg.stop z hz h1
        · exact hseg.tail (by omega) j (by omega) h5 h2 z y hz h3 h4 h1
      · omega
    subst he
    refine ⟨hroot, rfl, ?_⟩
    have hok : ∀ i, OkAt L L.length i := by
      intro i y hy2
      obtain ⟨⟨k1, k2, k3⟩, -, -⟩ := hrow i y hy2
      refine ⟨k1, k2, k3, fun h4 => hone i y hy2 h4, fun h5 => ?_, fun hno => ?_⟩
      · refine kidsH_pair _ (fun a b u v a1 a2 a3 hu hv huu hvu => ?_)
        obtain ⟨j, z, b1, b2, b3, b4, b5, b6, b7⟩ := (hrow b v hv).2.2 (by omega)
        obtain rfl : j = i := by omega
        rw [hy2] at b3; cases b3
        exact b7 h5 a u (by omega) a2 hu (by omega)
      · rcases hk : kidsH L i (i + 1) L.length with _ | ⟨hd, tl⟩
        · rfl
        · exfalso
          obtain ⟨a, u, a1, a2, a3, a4, a5⟩ := kidsH_from (h := hd) L.length (by rw [hk]; simp)
          obtain ⟨j, z, b1, b2, b3, b4, -⟩ := (hrow a u a3).2.2 (by omega)
          obtain rfl : j = i := by omega
          rw [hy2] at b3; cases b3
          simp [holdsK] at b4
          exact hno (by simpa [Ty.hd] using b4)
    have hpar : ∀ i, ParAt L i := by
      intro i y j z hy2 hj hz
      by_cases hi : i = 0
      · subst hi
        rw [h0] at hy2; cases hy2
        have := hroot.2.1
        omega
      · obtain ⟨j2, z2, b1, b2, b3, b4, b5, b6, -⟩ := (hrow i y hy2).2.2 (by omega)
        obtain rfl : j2 = j := by omega
        rw [hz] at b3; cases b3
        exact b6
    rw [trOf, RightT]
    refine ⟨?_, (hseg.right (by omega) h0).2 (fun i _ _ => ⟨hok i, hpar i⟩)⟩
    have := hok 0 x0 h0
    rw [hseg.kids (by omega)] at this
    exact this
  · rintro ⟨hroot, rfl, hr⟩
    have hseg := hy (by simp [holdsK, hroot.1])
    rw [trOf, RightT] at hr
    have hall := (hseg.right (by omega) h0).1 hr.2
    have hok : ∀ i, i < L.length → OkAt L L.length i := by
      intro i hi
      by_cases h : i = 0
      · subst h
        intro y hy2
        rw [h0] at hy2; cases hy2
        rw [hseg.kids (by omega)]
        exact hr.1
      · exact (hall i (by omega) hi).1
    refine ⟨fun i y hy2 => ?_, fun i y hy2 h4 => ?_⟩
    · have hi := (List.getElem?_eq_some_iff.1 hy2).1
      refine ⟨fit_hd (hok i hi y hy2), fun h => ?_, fun hpos => ?_⟩
      · subst h
        rw [h0] at hy2; cases hy2
        exact hroot
      · obtain ⟨c1, c2, c3⟩ := hseg.up (by omega) i y (by omega) hi hy2
        obtain ⟨j, hj⟩ : ∃ j : Nat, y.up = (j : Int) := ⟨y.up.toNat, by omega⟩
        have hjl : j < L.length := by omega
        obtain ⟨z, hz⟩ : ∃ z, L[j]? = some z := ⟨_, List.getElem?_eq_getElem hjl⟩
        have hmem := kidsH_mem (s := j + 1) hy2 hj (by omega) L.length hi
        have hf := hok j hjl z hz
        refine ⟨j, z, hj, by omega, hz, ?_, hseg.around (by omega) .refl i j y (by omega) hi hy2 hj, (hall i (by omega) hi).2 y j z hy2 hj hz, fun h5 k u k1 k2 hu hup => ?_⟩
        · cases hb : holdsK z.kind with
          | true => rfl
          | false =>
            rw [fit_leaf (h := z.hd) hb hf] at hmem
            simp at hmem
        · have hp := hf.2.2.2.2.1 h5
          rw [kidsH_split (m := i) L.length (by omega) (by omega), List.pairwise_append] at hp
          exact hp.2.2 u.hd (kidsH_mem hu (by omega) (by omega) i k2) y.hd (kidsH_mem hy2 hj (Nat.le_refl _) L.length hi)
    · have hi := (List.getElem?_eq_some_iff.1 hy2).1
      exact (hok i hi y hy2).2.2.2.1 h4
end Go.Proofs.Ytmlnecopbncdbaa
