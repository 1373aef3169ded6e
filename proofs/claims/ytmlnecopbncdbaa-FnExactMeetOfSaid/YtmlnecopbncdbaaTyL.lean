/- Types in a row and as trees, which are right, subtypes, what two trees both tell: plain. -/
import Derived.Test.YtmlnecopbncdbaaRows
namespace Go.Proofs.Ytmlnecopbncdbaa
set_option linter.unusedVariables false
set_option linter.unusedSimpArgs false
set_option maxRecDepth 100000

structure Ty where
  kind : Int
  name : ByteArray
  no : Int
  must : Bool
  up : Int
  most : Int
/-- a type as a tree -/
inductive Tr where
  | node (kind : Int) (name : ByteArray) (no : Int) (must : Bool) (most : Int) (kids : List Tr)
def Tr.kind : Tr → Int | .node k _ _ _ _ _ => k
def Tr.name : Tr → ByteArray | .node _ n _ _ _ _ => n
def Tr.no : Tr → Int | .node _ _ n _ _ _ => n
def Tr.must : Tr → Bool | .node _ _ _ m _ _ => m
def Tr.most : Tr → Int | .node _ _ _ _ m _ => m
def Tr.kids : Tr → List Tr | .node _ _ _ _ _ l => l
def holdsK (k : Int) : Bool := decide (k = 4 ∨ k = 5)
def trOf (x : Ty) (ks : List Tr) : Tr := .node x.kind x.name x.no x.must x.most ks
/-- from s on lie the parts of p, one behind the other, as far as e -/
inductive Seg (L : List Ty) : Nat → Nat → List Tr → Nat → Prop
  | nil {p s : Nat} : (∀ x, L[s]? = some x → ¬ x.up = (p : Int)) → Seg L p s [] s
  | cons {p s m e : Nat} {x : Ty} {ks ts : List Tr} : L[s]? = some x → x.up = (p : Int) → (holdsK x.kind = true → Seg L s (s + 1) ks m) → (holdsK x.kind = false → ks = [] ∧ m = s + 1) → Seg L p m ts e → Seg L p s (trOf x ks :: ts) e
/-- the type at a place, with all that it holds, as a tree, and where that ends -/
def PTree (L : List Ty) (i : Nat) (t : Tr) (e : Nat) : Prop := ∃ x ks, L[i]? = some x ∧ t = trOf x ks ∧ (holdsK x.kind = true → Seg L i (i + 1) ks e) ∧ (holdsK x.kind = false → ks = [] ∧ e = i + 1)
theorem Seg.le {L : List Ty} {p s e : Nat} {ts : List Tr} (h : Seg L p s ts e) : s ≤ e := by
  induction h with
  | nil _ => exact Nat.le_refl _
  | cons hx hu hy hn hr ih1 ih2 =>
    rename_i p s m e x ks ts
    cases hb : holdsK x.kind with
    | true => have := ih1 hb; omega
    | false => have := (hn hb).2; omega
theorem Seg.mid {L : List Ty} {s m : Nat} {x : Ty} {ks : List Tr} (hy : holdsK x.kind = true → Seg L s (s + 1) ks m) (hn : holdsK x.kind = false → ks = [] ∧ m = s + 1) : s + 1 ≤ m := by
  cases hb : holdsK x.kind with
  | true => exact (hy hb).le
  | false => have := (hn hb).2; omega
theorem Seg.len {L : List Ty} {p s e : Nat} {ts : List Tr} (h : Seg L p s ts e) (hs : s ≤ L.length) : e ≤ L.length := by
  induction h with
  | nil _ => exact hs
  | cons hx hu hy hn hr ih1 ih2 =>
    rename_i p s m e x ks ts
    have hl := (List.getElem?_eq_some_iff.1 hx).1
    refine ih2 ?_
    cases hb : holdsK x.kind with
    | true => exact ih1 hb (by omega)
    | false => have := (hn hb).2; omega
/-- what lies between has its place there, too -/
theorem Seg.up {L : List Ty} {p s e : Nat} {ts : List Tr} (h : Seg L p s ts e) (hps : p < s) : ∀ i x, s ≤ i → i < e → L[i]? = some x → (p : Int) ≤ x.up ∧ x.up < (i : Int) ∧ (x.up = (p : Int) ∨ (s : Int) ≤ x.up) := by
  induction h with
  | nil _ => intro i x h1 h2; omega
  | cons hx hu hy hn hr ih1 ih2 =>
    rename_i p s m e y ks ts
    have hm := Seg.mid hy hn
    intro i x h1 h2 hix
    by_cases e1 : i = s
    · subst e1
      rw [hx] at hix; cases hix
      rw [hu]; exact ⟨by omega, by omega, .inl rfl⟩
    · by_cases e2 : i < m
      · cases hb : holdsK y.kind with
        | true =>
          have := ih1 hb (by omega) i x (by omega) e2 hix
          exact ⟨by omega, by omega, .inr (by omega)⟩
        | false => have := (hn hb).2; omega
      · have := ih2 (by omega) i x (by omega) h2 hix
        exact ⟨by omega, by omega, by omega⟩
/-- at the end no more part follows -/
theorem Seg.stop {L : List Ty} {p s e : Nat} {ts : List Tr} (h : Seg L p s ts e) : ∀ x, L[e]? = some x → ¬ x.up = (p : Int) := by
  induction h with
  | nil h => exact h
  | cons _ _ _ _ _ _ ih2 => exact ih2
/-- an ancestor, or the place itself -/
inductive Anc (L : List Ty) : Nat → Nat → Prop
  | refl {i : Nat} : Anc L i i
  | step {i j q : Nat} {x : Ty} : L[i]? = some x → x.up = (j : Int) → j < i → Anc L j q → Anc L i q
theorem Anc.le {L : List Ty} {i q : Nat} (h : Anc L i q) : q ≤ i := by
  induction h with
  | refl => exact Nat.le_refl _
  | step _ _ hj _ ih => omega
/-- behind the end nothing more belongs to those that end there -/
theorem Seg.tail {L : List Ty} {p s e : Nat} {ts : List Tr} (h : Seg L p s ts e) (hps : p < s) : ∀ q, s ≤ q → Anc L (e - 1) q → q < e → ∀ x y, L[e]? = some x → L[q]? = some y → holdsK y.kind = true → ¬ x.up = (q : Int) := by
  induction h with
  | nil _ => intro q h1 _ h2; omega
  | cons hx hu hy hn hr ih1 ih2 =>
    rename_i p s m e x0 ks ts
    have hm := Seg.mid hy hn
    have hme := hr.le
    intro q h1 ha h2 x y hxe hyq hyk
    by_cases hqm : m ≤ q
    · exact ih2 (by omega) q hqm ha h2 x y hxe hyq hyk
    · -- q lies in the first part: then e = m, else the way up from e - 1 does not come to q
      by_cases hem : e = m
      · subst hem
        by_cases hqs : q = s
        · subst hqs
          rw [hx] at hyq; cases hyq
          have hseg := hy hyk
          -- the end of the parts of q
          intro hup
          exact hseg.stop _ hxe hup
        · cases hb : holdsK x0.kind with
          | true => exact ih1 hb (by omega) q (by omega) ha (by omega) x y hxe hyq hyk
          | false => have := (hn hb).2; omega
      · exfalso
        -- from e - 1 ≥ m all ways up stay from m on, or go to p
        have key : ∀ i q, Anc L i q → m ≤ i → i < e → m ≤ q ∨ q ≤ p := by
          intro i q ha
          induction ha with
          | refl => intro h1 _; exact .inl h1
          | step hz hzu hzj ha' ih =>
            rename_i i j q z
            intro h1 h2
            have := hr.up (by omega) i z h1 h2 hz
            rw [hzu] at this
            rcases this.2.2 with h3 | h3
            · have : j = p := by omega
              subst this
              exact .inr ha'.le
            · exact ih (by omega) (by omega)
        have := key (e - 1) q ha (by omega) (by omega)
        omega
end Go.Proofs.Ytmlnecopbncdbaa
namespace Go.Proofs.Ytmlnecopbncdbaa
set_option maxRecDepth 100000

def lowC (c : UInt8) : Bool := decide (97 ≤ c.toNat) && decide (c.toNat ≤ 122)
def nameB (s : ByteArray) : Bool := s.data.toList.all lowC && (decide (1 ≤ s.size) && decide (s.size ≤ 10))
/-- the head of a type -/
structure Hd where
  kind : Int
  name : ByteArray
  no : Int
  must : Bool
  most : Int
def Ty.hd (x : Ty) : Hd := ⟨x.kind, x.name, x.no, x.must, x.most⟩
def Tr.hd (t : Tr) : Hd := ⟨t.kind, t.name, t.no, t.must, t.most⟩
theorem trOf_hd (x : Ty) (ks : List Tr) : (trOf x ks).hd = x.hd := rfl
/-- whether a type may be a part of one of a kind -/
def PartOf (k : Int) (h : Hd) : Prop := (k = 5 → nameB h.name = true ∧ 1 ≤ h.no ∧ h.no ≤ 30) ∧ (¬ k = 5 → h.name.size = 0 ∧ h.no = 0 ∧ h.must = false)
instance (k : Int) (h : Hd) : Decidable (PartOf k h) := by unfold PartOf; infer_instance
/-- whether a type and its parts fit -/
def Fit (h : Hd) (ks : List Hd) : Prop := (1 ≤ h.kind ∧ h.kind ≤ 5) ∧ (h.kind = 3 → 0 ≤ h.most ∧ h.most ≤ 20) ∧ (¬ h.kind = 3 → h.most = 0) ∧ (h.kind = 4 → ks.length = 1) ∧ (h.kind = 5 → ks.Pairwise (fun a b => a.no < b.no ∧ ¬ a.name = b.name)) ∧ (¬ (h.kind = 4 ∨ h.kind = 5) → ks = [])
mutual
def RightT : Tr → Prop
  | .node k n o m mo ks => Fit ⟨k, n, o, m, mo⟩ (hds ks) ∧ RightL k ks
def RightL (k : Int) : List Tr → Prop
  | [] => True
  | t :: r => PartOf k t.hd ∧ RightT t ∧ RightL k r
def hds : List Tr → List Hd
  | [] => []
  | t :: r => t.hd :: hds r
end
mutual
def deepT : Tr → Nat
  | .node k _ _ _ _ ks => deepL ks + (if holdsK k = true then 1 else 0)
def deepL : List Tr → Nat
  | [] => 0
  | t :: r => max (deepT t) (deepL r)
end
mutual
def countT : Tr → Nat
  | .node _ _ _ _ _ ks => 1 + countL ks
def countL : List Tr → Nat
  | [] => 0
  | t :: r => countT t + countL r
end
theorem hds_map : ∀ (l : List Tr), hds l = l.map Tr.hd
  | [] => by simp [hds]
  | t :: r => by rw [hds, hds_map r]; rfl
/-- the heads of the parts of p between s and e -/
def kidsH (L : List Ty) (p s : Nat) : Nat → List Hd
  | 0 => []
  | e + 1 => kidsH L p s e ++ (if s ≤ e then (match L[e]? with | some x => if x.up = (p : Int) then [x.hd] else [] | none => []) else [])
theorem kidsH_same {L : List Ty} {p s : Nat} : ∀ e, e ≤ s → kidsH L p s e = []
  | 0, _ => rfl
  | e + 1, h => by rw [kidsH, kidsH_same e (by omega), if_neg (by omega)]; rfl
theorem kidsH_none {L : List Ty} {p s m : Nat} : ∀ e, m ≤ e → (∀ i x, m ≤ i → i < e → L[i]? = some x → ¬ x.up = (p : Int)) → kidsH L p s e = kidsH L p s m
  | 0, h, _ => by rw [show m = 0 by omega]
  | e + 1, h, hn => by
    by_cases he : m = e + 1
    · rw [he]
    · rw [kidsH, kidsH_none e (by omega) (fun i x h1 h2 => hn i x h1 (by omega))]
      split
      · cases hx : L[e]? with
        | none => simp
        | some x =>
          have := hn e x (by omega) (by omega) hx
          simp [this]
      · simp
theorem kidsH_split {L : List Ty} {p s m : Nat} : ∀ e, s ≤ m → m ≤ e → kidsH L p s e = kidsH L p s m ++ kidsH L p m e
  | 0, _, h => by rw [show m = 0 by omega]; simp [kidsH]
  | e + 1, hs, h => by
    by_cases he : m = e + 1
    · rw [he, kidsH_same (s := e + 1) (e + 1) (Nat.le_refl _), List.append_nil]
    · rw [kidsH, kidsH_split e hs (by omega), kidsH, if_pos (by omega), if_pos (by omega), List.append_assoc]
theorem kidsH_one {L : List Ty} {p s : Nat} {x : Ty} (hx : L[s]? = some x) (hu : x.up = (p : Int)) : kidsH L p s (s + 1) = [x.hd] := by
  rw [kidsH, kidsH_same s (Nat.le_refl _), if_pos (Nat.le_refl _), hx]
  simp [hu]
/-- the parts are those that name p -/
theorem Seg.kids {L : List Ty} {p s e : Nat} {ts : List Tr} (h : Seg L p s ts e) (hps : p < s) : kidsH L p s e = hds ts := by
  induction h with
  | nil _ => rw [kidsH_same _ (Nat.le_refl _)]; simp [hds]
  | cons hx hu hy hn hr ih1 ih2 =>
    rename_i p s m e x ks ts
    have hm := Seg.mid hy hn
    have hme := hr.le
    rw [hds, ← ih2 (by omega), kidsH_split (m := m) e (by omega) hme, kidsH_split (m := s + 1) m (by omega) hm, kidsH_one hx hu, trOf_hd]
    rw [kidsH_none (m := s + 1) m hm, kidsH_same _ (Nat.le_refl _)]
    · rfl
    · intro i y h1 h2 hiy
      cases hb : holdsK x.kind with
      | true =>
        have := (hy hb).up (by omega) i y h1 h2 hiy
        omega
      | false => have := (hn hb).2; omega
/-- what is right of the type at a place, its parts being told as far as e -/
def OkAt (L : List Ty) (e i : Nat) : Prop := ∀ x, L[i]? = some x → Fit x.hd (kidsH L i (i + 1) e)
def ParAt (L : List Ty) (i : Nat) : Prop := ∀ x j y, L[i]? = some x → x.up = ((j : Nat) : Int) → L[j]? = some y → PartOf y.kind x.hd
theorem fit_leaf {h : Hd} (hb : holdsK h.kind = false) {ks : List Hd} (hf : Fit h ks) : ks = [] := hf.2.2.2.2.2 (by simpa [holdsK] using hb)
/-- the tree is right just if each of its places is -/
theorem Seg.right {L : List Ty} {p s e : Nat} {ts : List Tr} (h : Seg L p s ts e) (hps : p < s) {y : Ty} (hy0 : L[p]? = some y) : (RightL y.kind ts ↔ ∀ i, s ≤ i → i < e → OkAt L e i ∧ ParAt L i) := by
  induction h generalizing y with
  | nil _ =>
    constructor
    · intro _ i h1 h2; omega
    · intro _; simp [RightL]
  | cons hx hu hy hn hr ih1 ih2 =>
    rename_i p s m e x ks ts
    have hm := Seg.mid hy hn
    have hme := hr.le
    -- behind m no one names a place of [s, m)
    have hfar : ∀ q, s ≤ q → q < m → kidsH L q (q + 1) e = kidsH L q (q + 1) m := by
      intro q h1 h2
      refine kidsH_none e hme (fun i z h3 h4 hz => ?_)
      have := hr.up (by omega) i z h3 h4 hz
      omega
    have hkids : kidsH L s (s + 1) m = hds ks := by
      cases hb : holdsK x.kind with
      | true => exact (hy hb).kids (by omega)
      | false =>
        obtain ⟨h1, h2⟩ := hn hb
        subst h1; rw [h2, kidsH_same _ (Nat.le_refl _)]; simp [hds]
    have hsub : RightL x.kind ks ↔ ∀ i, s + 1 ≤ i → i < m → OkAt L m i ∧ ParAt L i := by
      cases hb : holdsK x.kind with
      | true => exact ih1 hb (by omega) hx
      | false =>
        obtain ⟨h1, h2⟩ := hn hb
        subst h1
        constructor
        · intro _ i h3 h4; omega
        · intro _; simp [RightL]
    have hmove : ∀ i, s ≤ i → i < m → (OkAt L m i ↔ OkAt L e i) := by
      intro i h1 h2
      unfold OkAt
      rw [hfar i h1 h2]
    rw [RightL, ih2 (by omega) hy0]
    constructor
    · rintro ⟨h1, h2, h3⟩ i hi1 hi2
      rw [trOf, RightT] at h2
      by_cases e1 : i = s
      · subst e1
        refine ⟨?_, ?_⟩
        · intro z hz
          rw [hx] at hz; cases hz
          rw [hfar i (Nat.le_refl _) (by omega), hkids]
          exact h2.1
        · intro z j w hz hzj hw
          rw [hx] at hz; cases hz
          have : j = p := by omega
          subst this
          rw [hy0] at hw; cases hw
          exact h1
      · by_cases e2 : i < m
        · have := hsub.1 h2.2 i (by omega) e2
          exact ⟨(hmove i hi1 e2).1 this.1, this.2⟩
        · exact h3 i (by omega) hi2
    · intro hall
      have hs := hall s (Nat.le_refl _) (by omega)
      refine ⟨hs.2 x p y hx hu hy0, ?_, fun i h1 h2 => hall i (by omega) h2⟩
      rw [trOf, RightT]
      refine ⟨?_, hsub.2 (fun i h1 h2 => ?_)⟩
      · have := hs.1 x hx
        rw [hfar s (Nat.le_refl _) (by omega), hkids] at this
        exact this
      · have := hall i (by omega) (by omega)
        exact ⟨(hmove i (by omega) h2).2 this.1, this.2⟩
end Go.Proofs.Ytmlnecopbncdbaa
namespace Go.Proofs.Ytmlnecopbncdbaa
set_option maxRecDepth 100000

/-- a part at its place: the type it is a part of is one around it -/
def PartAt (L : List Ty) (i : Nat) (x : Ty) : Prop := ∃ (j : Nat) (y : Ty), x.up = (j : Int) ∧ j < i ∧ L[j]? = some y ∧ holdsK y.kind = true ∧ Anc L (i - 1) j ∧ PartOf y.kind x.hd ∧ (y.kind = 5 → ∀ k z, j < k → k < i → L[k]? = some z → z.up = x.up → z.no < x.no ∧ ¬ z.name = x.name)
def KindOK (x : Ty) : Prop := (1 ≤ x.kind ∧ x.kind ≤ 5) ∧ (x.kind = 3 → 0 ≤ x.most ∧ x.most ≤ 20) ∧ (¬ x.kind = 3 → x.most = 0)
def RootOK (x : Ty) : Prop := x.kind = 5 ∧ x.up = -1 ∧ x.name.size = 0 ∧ x.no = 0 ∧ x.must = false
def RowAt (L : List Ty) (i : Nat) : Prop := ∀ x, L[i]? = some x → KindOK x ∧ (i = 0 → RootOK x) ∧ (0 < i → PartAt L i x)
def OneAt (L : List Ty) (i : Nat) : Prop := ∀ x, L[i]? = some x → x.kind = 4 → (kidsH L i (i + 1) L.length).length = 1
/-- the row stands -/
def RowsOK (L : List Ty) : Prop := (∀ i, RowAt L i) ∧ ∀ i, OneAt L i
theorem kidsH_mem {L : List Ty} {p s i : Nat} {x : Ty} (hx : L[i]? = some x) (hu : x.up = (p : Int)) (hs : s ≤ i) : ∀ e, i < e → x.hd ∈ kidsH L p s e
  | 0, h => by omega
  | e + 1, h => by
    rw [kidsH]
    by_cases he : i = e
    · subst he
      rw [if_pos hs, hx]
      simp [hu]
    · exact List.mem_append_left _ (kidsH_mem hx hu hs e (by omega))
theorem kidsH_from {L : List Ty} {p s : Nat} {h : Hd} : ∀ e, h ∈ kidsH L p s e → ∃ i x, s ≤ i ∧ i < e ∧ L[i]? = some x ∧ x.up = (p : Int) ∧ h = x.hd
  | 0, hm => by simp [kidsH] at hm
  | e + 1, hm => by
    rw [kidsH] at hm
    rcases List.mem_append.1 hm with hm | hm
    · obtain ⟨i, x, h1, h2, h3⟩ := kidsH_from e hm
      exact ⟨i, x, h1, by omega, h3⟩
    · by_cases hs : s ≤ e
      · rw [if_pos hs] at hm
        cases hx : L[e]? with
        | none => rw [hx] at hm; simp at hm
        | some x =>
          rw [hx] at hm
          by_cases hu : x.up = (p : Int)
          · simp [hu] at hm
            exact ⟨e, x, hs, by omega, hx, hu, hm⟩
          · simp [hu] at hm
      · rw [if_neg hs] at hm; simp at hm
theorem kidsH_pair {L : List Ty} {p s : Nat} {R : Hd → Hd → Prop} : ∀ e, (∀ i j x y, s ≤ i → i < j → j < e → L[i]? = some x → L[j]? = some y → x.up = (p : Int) → y.up = (p : Int) → R x.hd y.hd) → (kidsH L p s e).Pairwise R
  | 0, _ => by simp [kidsH]
  | e + 1, h => by
    rw [kidsH, List.pairwise_append]
    refine ⟨kidsH_pair e (fun i j x y h1 h2 h3 => h i j x y h1 h2 (by omega)), ?_, ?_⟩
    · split
      · cases L[e]? with
        | none => simp
        | some x => by_cases hu : x.up = (p : Int) <;> simp [hu]
      · simp
    · intro a ha b hb
      obtain ⟨i, x, h1, h2, h3, h4, rfl⟩ := kidsH_from e ha
      split at hb
      · cases hx : L[e]? with
        | none => rw [hx] at hb; simp at hb
        | some y =>
          rw [hx] at hb
          by_cases hu : y.up = (p : Int)
          · simp [hu] at hb
            subst hb
            exact h i e x y h1 h2 (by omega) h3 hx h4 hu
          · simp [hu] at hb
      · simp at hb
theorem Anc.trans {L : List Ty} {i j q : Nat} (h : Anc L i j) (k : Anc L j q) : Anc L i q := by
  induction h with
  | refl => exact k
  | step hx hu hj _ ih => exact .step hx hu hj (ih k)
/-- each part of p in a segment comes up to p; the type ahead of a part of the segment is within its parent -/
theorem Seg.ancs {L : List Ty} {p s e : Nat} {ts : List Tr} (h : Seg L p s ts e) (hps : p < s) : ∀ i, s ≤ i → i < e → Anc L i p := by
  intro i
  induction i using Nat.strongRecOn with
  | _ i ih =>
    intro h1 h2
    -- L[i] is there
    rcases hx : L[i]? with _ | x
    · exfalso
      have : i < L.length := by
        -- within a segment all places are there
        clear ih
        induction h with
        | nil _ => omega
        | cons hy hu hyy hn hr ih1 ih2 =>
          rename_i p s m e y ks ts
          have hm := Seg.mid hyy hn
          have hsl := (List.getElem?_eq_some_iff.1 hy).1
          by_cases e1 : i = s
          · omega
          · by_cases e2 : i < m
            · cases hb : holdsK y.kind with
              | true => exact ih1 hb (by omega) (by omega) e2
              | false => have := (hn hb).2; omega
            · exact ih2 (by omega) (by omega) h2
      rw [List.getElem?_eq_none_iff] at hx
      omega
    · obtain ⟨a1, a2, a3⟩ := h.up hps i x h1 h2 hx
      rcases a3 with a3 | a3
      · exact .step hx a3 (by omega) .refl
      · exact .step (j := x.up.toNat) hx (by omega) (by omega) (ih _ (by omega) (by omega) (by omega))
theorem Seg.around {L : List Ty} {p s e : Nat} {ts : List Tr} (h : Seg L p s ts e) (hps : p < s) (h0 : Anc L (s - 1) p) : ∀ i j x, s ≤ i → i < e → L[i]? = some x → x.up = ((j : Nat) : Int) → Anc L (i - 1) j := by
  induction h with
  | nil _ => intro i j x h1 h2; omega
  | cons hy hu hyy hn hr ih1 ih2 =>
    rename_i p s m e y ks ts
    have hm := Seg.mid hyy hn
    intro i j x h1 h2 hx hj
    by_cases e1 : i = s
    · subst e1
      rw [hy] at hx; cases hx
      obtain rfl : j = p := by omega
      exact h0
    · by_cases e2 : i < m
      · cases hb : holdsK y.kind with
        | true => exact ih1 hb (by omega) (by rw [Nat.add_sub_cancel]; exact .refl) i j x (by omega) e2 hx hj
        | false => have := (hn hb).2; omega
      · refine ih2 (by omega) ?_ i j x (by omega) h2 hx hj
        have hsp : Anc L s p := .step hy hu hps .refl
        cases hb : holdsK y.kind with
        | false => rw [(hn hb).2, Nat.add_sub_cancel]; exact hsp
        | true =>
          by_cases hms : m = s + 1
          · rw [hms, Nat.add_sub_cancel]; exact hsp
          · exact ((hyy hb).ancs (by omega) (m - 1) (by omega) (by omega)).trans hsp
theorem fit_hd {x : Ty} {ks : List Hd} (h : Fit x.hd ks) : KindOK x := ⟨h.1, h.2.1, h.2.2.1⟩
/-- the two ways come to one -/
theorem rows_tree {L : List Ty} {t : Tr} {e : Nat} {x0 : Ty} (h0 : L[0]? = some x0) (hT : PTree L 0 t e) : RowsOK L ↔ (RootOK x0 ∧ e = L.length ∧ RightT t) := by
  obtain ⟨x, ks, hx, rfl, hy, hn⟩ := hT
  rw [h0] at hx; cases hx
  constructor
  · rintro ⟨hrow, hone⟩
    have hroot := (hrow 0 x0 h0).2.1 rfl
    have hseg := hy (by simp [holdsK, hroot.1])
    have hlen := (List.getElem?_eq_some_iff.1 h0).1
    have hle := hseg.len (by omega)
    have he : e = L.length := by
      rcases Nat.lt_or_ge e L.length with hlt | hge
      · exfalso
        have hge1 := hseg.le
        obtain ⟨z, hz⟩ : ∃ z, L[e]? = some z := ⟨_, List.getElem?_eq_getElem hlt⟩
        obtain ⟨j, y, h1, h2, h3, h4, h5, -⟩ := (hrow e z hz).2.2 (by omega)
        by_cases hj : j = 0
        · subst hj
          exact hseg.stop z hz h1
        · exact hseg.tail (by omega) j (by omega) h5 h2 z y hz h3 h4 h1
      · omega
    subst he
    refine ⟨hroot, rfl, ?_⟩
    have hok : ∀ i, OkAt L L.length i := by
      intro i y hy2
      obtain ⟨⟨k1, k2, k3⟩, -, -⟩ := hrow i y hy2
      refine ⟨k1, k2, k3, fun h4 => hone i y hy2 h4, fun h5 => ?_, fun hno => ?_⟩
      · refine kidsH_pair _ (fun a b u v a1 a2 a3 hu hv huu hvu => ?_)
        obtain ⟨j, z, b1, b2, b3, b4, b5, b6, b7⟩ := (hrow b v hv).2.2 (by omega)
        obtain rfl : j = i := by omega
        rw [hy2] at b3; cases b3
        exact b7 h5 a u (by omega) a2 hu (by omega)
      · rcases hk : kidsH L i (i + 1) L.length with _ | ⟨hd, tl⟩
        · rfl
        · exfalso
          obtain ⟨a, u, a1, a2, a3, a4, a5⟩ := kidsH_from (h := hd) L.length (by rw [hk]; simp)
          obtain ⟨j, z, b1, b2, b3, b4, -⟩ := (hrow a u a3).2.2 (by omega)
          obtain rfl : j = i := by omega
          rw [hy2] at b3; cases b3
          simp [holdsK] at b4
          exact hno (by simpa [Ty.hd] using b4)
    have hpar : ∀ i, ParAt L i := by
      intro i y j z hy2 hj hz
      by_cases hi : i = 0
      · subst hi
        rw [h0] at hy2; cases hy2
        have := hroot.2.1
        omega
      · obtain ⟨j2, z2, b1, b2, b3, b4, b5, b6, -⟩ := (hrow i y hy2).2.2 (by omega)
        obtain rfl : j2 = j := by omega
        rw [hz] at b3; cases b3
        exact b6
    rw [trOf, RightT]
    refine ⟨?_, (hseg.right (by omega) h0).2 (fun i _ _ => ⟨hok i, hpar i⟩)⟩
    have := hok 0 x0 h0
    rw [hseg.kids (by omega)] at this
    exact this
  · rintro ⟨hroot, rfl, hr⟩
    have hseg := hy (by simp [holdsK, hroot.1])
    rw [trOf, RightT] at hr
    have hall := (hseg.right (by omega) h0).1 hr.2
    have hok : ∀ i, i < L.length → OkAt L L.length i := by
      intro i hi
      by_cases h : i = 0
      · subst h
        intro y hy2
        rw [h0] at hy2; cases hy2
        rw [hseg.kids (by omega)]
        exact hr.1
      · exact (hall i (by omega) hi).1
    refine ⟨fun i y hy2 => ?_, fun i y hy2 h4 => ?_⟩
    · have hi := (List.getElem?_eq_some_iff.1 hy2).1
      refine ⟨fit_hd (hok i hi y hy2), fun h => ?_, fun hpos => ?_⟩
      · subst h
        rw [h0] at hy2; cases hy2
        exact hroot
      · obtain ⟨c1, c2, c3⟩ := hseg.up (by omega) i y (by omega) hi hy2
        obtain ⟨j, hj⟩ : ∃ j : Nat, y.up = (j : Int) := ⟨y.up.toNat, by omega⟩
        have hjl : j < L.length := by omega
        obtain ⟨z, hz⟩ : ∃ z, L[j]? = some z := ⟨_, List.getElem?_eq_getElem hjl⟩
        have hmem := kidsH_mem (s := j + 1) hy2 hj (by omega) L.length hi
        have hf := hok j hjl z hz
        refine ⟨j, z, hj, by omega, hz, ?_, hseg.around (by omega) .refl i j y (by omega) hi hy2 hj, (hall i (by omega) hi).2 y j z hy2 hj hz, fun h5 k u k1 k2 hu hup => ?_⟩
        · cases hb : holdsK z.kind with
          | true => rfl
          | false =>
            rw [fit_leaf (h := z.hd) hb hf] at hmem
            simp at hmem
        · have hp := hf.2.2.2.2.1 h5
          rw [kidsH_split (m := i) L.length (by omega) (by omega), List.pairwise_append] at hp
          exact hp.2.2 u.hd (kidsH_mem hu (by omega) (by omega) i k2) y.hd (kidsH_mem hy2 hj (Nat.le_refl _) L.length hi)
    · have hi := (List.getElem?_eq_some_iff.1 hy2).1
      exact (hok i hi y hy2).2.2.2.1 h4
end Go.Proofs.Ytmlnecopbncdbaa
namespace Go.Proofs.Ytmlnecopbncdbaa
set_option maxRecDepth 100000

theorem seg_ex (L : List Ty) : ∀ (f p s : Nat), L.length - s ≤ f → p < s → ∃ ts e, Seg L p s ts e
  | f, p, s, hf, hps => by
    rcases hx : L[s]? with _ | x
    · exact ⟨[], s, .nil (fun x h => by rw [hx] at h; cases h)⟩
    · by_cases hu : x.up = (p : Int)
      · have hs := (List.getElem?_eq_some_iff.1 hx).1
        match f, hf with
        | 0, hf => omega
        | f + 1, hf =>
          cases hb : holdsK x.kind with
          | true =>
            obtain ⟨ks, m, hk⟩ := seg_ex L f s (s + 1) (by omega) (by omega)
            have hm := hk.le
            obtain ⟨ts, e, ht⟩ := seg_ex L f p m (by omega) (by omega)
            exact ⟨_, e, .cons hx hu (fun _ => hk) (fun h => by rw [hb] at h; cases h) ht⟩
          | false =>
            obtain ⟨ts, e, ht⟩ := seg_ex L f p (s + 1) (by omega) (by omega)
            exact ⟨_, e, .cons (ks := []) hx hu (fun h => by rw [hb] at h; cases h) (fun _ => ⟨rfl, rfl⟩) ht⟩
      · exact ⟨[], s, .nil (fun y h => by rw [hx] at h; cases h; exact hu)⟩
theorem tree_ex {L : List Ty} {i : Nat} {x : Ty} (hx : L[i]? = some x) : ∃ t e, PTree L i t e := by
  cases hb : holdsK x.kind with
  | true =>
    obtain ⟨ks, e, h⟩ := seg_ex L _ i (i + 1) (Nat.le_refl _) (by omega)
    exact ⟨_, e, x, ks, hx, rfl, fun _ => h, fun h => by rw [hb] at h; cases h⟩
  | false => exact ⟨_, i + 1, x, [], hx, rfl, (fun h => by rw [hb] at h; cases h), fun _ => ⟨rfl, rfl⟩⟩
theorem Seg.same {L : List Ty} {p s e : Nat} {ts : List Tr} (h : Seg L p s ts e) : ∀ {ts' : List Tr} {e' : Nat}, Seg L p s ts' e' → ts = ts' ∧ e = e' := by
  induction h with
  | nil hn =>
    intro ts' e' h'
    cases h' with
    | nil _ => exact ⟨rfl, rfl⟩
    | cons hx hu _ _ _ => exact absurd hu (hn _ hx)
  | cons hx hu hy hn hr ih1 ih2 =>
    rename_i p s m e x ks ts
    intro ts' e' h'
    cases h' with
    | nil hn' => exact absurd hu (hn' _ hx)
    | cons hx' hu' hy' hn' hr' =>
      rename_i m' x' ks' ts'
      rw [hx] at hx'; cases hx'
      have hkm : ks = ks' ∧ m = m' := by
        cases hb : holdsK x.kind with
        | true => exact ih1 hb (hy' hb)
        | false =>
          obtain ⟨a1, a2⟩ := hn hb
          obtain ⟨b1, b2⟩ := hn' hb
          exact ⟨a1.trans b1.symm, a2.trans b2.symm⟩
      obtain ⟨rfl, rfl⟩ := hkm
      obtain ⟨rfl, rfl⟩ := ih2 hr'
      exact ⟨rfl, rfl⟩
theorem PTree.same {L : List Ty} {i e e' : Nat} {t t' : Tr} (h : PTree L i t e) (h' : PTree L i t' e') : t = t' ∧ e = e' := by
  obtain ⟨x, ks, hx, rfl, hy, hn⟩ := h
  obtain ⟨x', ks', hx', rfl, hy', hn'⟩ := h'
  rw [hx] at hx'; cases hx'
  cases hb : holdsK x.kind with
  | true =>
    obtain ⟨rfl, rfl⟩ := (hy hb).same (hy' hb)
    exact ⟨rfl, rfl⟩
  | false =>
    obtain ⟨rfl, rfl⟩ := hn hb
    obtain ⟨rfl, rfl⟩ := hn' hb
    exact ⟨rfl, rfl⟩
/-- the tree of a place -/
noncomputable def treeOf (L : List Ty) (i : Nat) : Tr := Classical.epsilon (h := ⟨.node 0 ⟨#[]⟩ 0 false 0 []⟩) fun t => ∃ e, PTree L i t e
theorem PTree.of {L : List Ty} {i e : Nat} {t : Tr} (h : PTree L i t e) : treeOf L i = t := by
  have := Classical.epsilon_spec_aux (α := Tr) ⟨.node 0 ⟨#[]⟩ 0 false 0 []⟩ (fun t => ∃ e, PTree L i t e) ⟨t, e, h⟩
  obtain ⟨e', h'⟩ := this
  exact (h'.same h).1
/-- the places of the parts of p between s and e -/
def kidsI (L : List Ty) (p s : Nat) : Nat → List Nat
  | 0 => []
  | e + 1 => kidsI L p s e ++ (if s ≤ e then (match L[e]? with | some x => if x.up = (p : Int) then [e] else [] | none => []) else [])
theorem kidsI_same {L : List Ty} {p s : Nat} : ∀ e, e ≤ s → kidsI L p s e = []
  | 0, _ => rfl
  | e + 1, h => by rw [kidsI, kidsI_same e (by omega), if_neg (by omega)]; rfl
theorem kidsI_none {L : List Ty} {p s m : Nat} : ∀ e, m ≤ e → (∀ i x, m ≤ i → i < e → L[i]? = some x → ¬ x.up = (p : Int)) → kidsI L p s e = kidsI L p s m
  | 0, h, _ => by rw [show m = 0 by omega]
  | e + 1, h, hn => by
    by_cases he : m = e + 1
    · rw [he]
    · rw [kidsI, kidsI_none e (by omega) (fun i x h1 h2 => hn i x h1 (by omega))]
      split
      · cases hx : L[e]? with
        | none => simp
        | some x =>
          have := hn e x (by omega) (by omega) hx
          simp [this]
      · simp
theorem kidsI_split {L : List Ty} {p s m : Nat} : ∀ e, s ≤ m → m ≤ e → kidsI L p s e = kidsI L p s m ++ kidsI L p m e
  | 0, _, h => by rw [show m = 0 by omega]; simp [kidsI]
  | e + 1, hs, h => by
    by_cases he : m = e + 1
    · rw [he, kidsI_same (s := e + 1) (e + 1) (Nat.le_refl _), List.append_nil]
    · rw [kidsI, kidsI_split e hs (by omega), kidsI, if_pos (by omega), if_pos (by omega), List.append_assoc]
theorem kidsI_one {L : List Ty} {p s : Nat} {x : Ty} (hx : L[s]? = some x) (hu : x.up = (p : Int)) : kidsI L p s (s + 1) = [s] := by
  rw [kidsI, kidsI_same s (Nat.le_refl _), if_pos (Nat.le_refl _), hx]
  simp [hu]
theorem kidsI_lt {L : List Ty} {p s i : Nat} : ∀ e, i ∈ kidsI L p s e → s ≤ i ∧ i < e ∧ ∃ x, L[i]? = some x ∧ x.up = (p : Int)
  | 0, hm => by simp [kidsI] at hm
  | e + 1, hm => by
    rw [kidsI] at hm
    rcases List.mem_append.1 hm with hm | hm
    · obtain ⟨h1, h2, h3⟩ := kidsI_lt e hm
      exact ⟨h1, by omega, h3⟩
    · by_cases hs : s ≤ e
      · rw [if_pos hs] at hm
        cases hx : L[e]? with
        | none => rw [hx] at hm; simp at hm
        | some x =>
          rw [hx] at hm
          by_cases hu : x.up = (p : Int)
          · simp [hu] at hm
            subst hm
            exact ⟨hs, by omega, x, hx, hu⟩
          · simp [hu] at hm
      · rw [if_neg hs] at hm; simp at hm
theorem kidsI_kidsH {L : List Ty} {p s : Nat} : ∀ e, (kidsI L p s e).length = (kidsH L p s e).length
  | 0 => rfl
  | e + 1 => by
    rw [kidsI, kidsH, List.length_append, List.length_append, kidsI_kidsH e]
    congr 1
    split
    · cases L[e]? with
      | none => rfl
      | some x => by_cases hu : x.up = (p : Int) <;> simp [hu]
    · rfl
/-- the trees of places -/
def Trees (L : List Ty) : List Nat → List Tr → Prop
  | [], ts => ts = []
  | i :: r, ts => ∃ t us e, ts = t :: us ∧ PTree L i t e ∧ Trees L r us
theorem Seg.trees {L : List Ty} {p s e : Nat} {ts : List Tr} (h : Seg L p s ts e) (hps : p < s) : Trees L (kidsI L p s e) ts := by
  induction h with
  | nil _ => rw [kidsI_same _ (Nat.le_refl _)]; rfl
  | cons hx hu hy hn hr ih1 ih2 =>
    rename_i p s m e x ks ts
    have hm := Seg.mid hy hn
    have hme := hr.le
    have e1 : kidsI L p s e = s :: kidsI L p m e := by
      rw [kidsI_split (m := m) e (by omega) hme, kidsI_split (m := s + 1) m (by omega) hm, kidsI_one hx hu, kidsI_none (m := s + 1) m hm, kidsI_same _ (Nat.le_refl _)]
      · rfl
      · intro i y h1 h2 hiy
        cases hb : holdsK x.kind with
        | true =>
          have := (hy hb).up (by omega) i y h1 h2 hiy
          omega
        | false => have := (hn hb).2; omega
    rw [e1]
    exact ⟨_, _, m, rfl, ⟨x, ks, hx, rfl, hy, hn⟩, ih2 (by omega)⟩
/-- each place within has its tree within, and behind it no one names it -/
theorem Seg.sub {L : List Ty} {p s e : Nat} {ts : List Tr} (h : Seg L p s ts e) (hps : p < s) : ∀ k, s ≤ k → k < e → ∃ t m, PTree L k t m ∧ m ≤ e ∧ ∀ i z, m ≤ i → i < e → L[i]? = some z → ¬ z.up = (k : Int) := by
  induction h with
  | nil _ => intro k h1 h2; omega
  | cons hx hu hy hn hr ih1 ih2 =>
    rename_i p s m e x ks ts
    have hm := Seg.mid hy hn
    have hme := hr.le
    intro k h1 h2
    have hfar : ∀ q, s ≤ q → q < m → ∀ i z, m ≤ i → i < e → L[i]? = some z → ¬ z.up = (q : Int) := by
      intro q h1 h2 i z h3 h4 hz
      have := hr.up (by omega) i z h3 h4 hz
      omega
    by_cases e1 : k = s
    · subst e1
      exact ⟨_, m, ⟨x, ks, hx, rfl, hy, hn⟩, hme, hfar k (Nat.le_refl _) (by omega)⟩
    · by_cases e2 : k < m
      · cases hb : holdsK x.kind with
        | true =>
          obtain ⟨t, m2, a1, a2, a3⟩ := ih1 hb (by omega) k (by omega) e2
          refine ⟨t, m2, a1, by omega, fun i z b1 b2 hz => ?_⟩
          by_cases hi : i < m
          · exact a3 i z b1 hi hz
          · exact hfar k h1 e2 i z (by omega) b2 hz
        | false => have := (hn hb).2; omega
      · obtain ⟨t, m2, a1, a2, a3⟩ := ih2 (by omega) k (by omega) h2
        exact ⟨t, m2, a1, a2, a3⟩
/-- in a row that is one tree each place has its tree, with just the parts that name it -/
theorem PTree.sub {L : List Ty} {t : Tr} {x : Ty} (hx : L[0]? = some x) (hk : holdsK x.kind = true) (h : PTree L 0 t L.length) (k : Nat) (hkl : k < L.length) : ∃ t m, PTree L k t m ∧ m ≤ L.length ∧ ∀ i z, m ≤ i → L[i]? = some z → ¬ z.up = (k : Int) := by
  have h' := h
  obtain ⟨y, ks, hy, rfl, hyy, -⟩ := h
  rw [hx] at hy; cases hy
  have hs := hyy hk
  by_cases h0 : k = 0
  · subst h0
    exact ⟨_, _, h', Nat.le_refl _, fun i z b1 hz => by have := (List.getElem?_eq_some_iff.1 hz).1; omega⟩
  · obtain ⟨t, m, a1, a2, a3⟩ := hs.sub (by omega) k (by omega) hkl
    exact ⟨t, m, a1, a2, fun i z b1 hz => a3 i z b1 (List.getElem?_eq_some_iff.1 hz).1 hz⟩
theorem PTree.trees {L : List Ty} {k m : Nat} {t : Tr} {x : Ty} (h : PTree L k t m) (hm : m ≤ L.length) (hx : L[k]? = some x) (hno : ∀ i z, m ≤ i → L[i]? = some z → ¬ z.up = (k : Int)) : t = trOf x t.kids ∧ Trees L (kidsI L k (k + 1) L.length) t.kids := by
  obtain ⟨y, ks, hy, rfl, hyy, hnn⟩ := h
  rw [hx] at hy; cases hy
  refine ⟨rfl, ?_⟩
  rw [kidsI_none (m := m) _ hm (fun i z b1 _ hz => hno i z b1 hz)]
  cases hb : holdsK x.kind with
  | true => exact (hyy hb).trees (by omega)
  | false =>
    obtain ⟨rfl, rfl⟩ := hnn hb
    rw [kidsI_same _ (Nat.le_refl _)]
    rfl
theorem Seg.count {L : List Ty} {p s e : Nat} {ts : List Tr} (h : Seg L p s ts e) : countL ts + s = e := by
  induction h with
  | nil _ => simp [countL]
  | cons hx hu hy hn hr ih1 ih2 =>
    rename_i p s m e x ks ts
    rw [countL, trOf, countT]
    cases hb : holdsK x.kind with
    | true => have := ih1 hb; omega
    | false => obtain ⟨rfl, rfl⟩ := hn hb; simp [countL]; omega
theorem PTree.count {L : List Ty} {i e : Nat} {t : Tr} (h : PTree L i t e) : countT t + i = e := by
  obtain ⟨x, ks, hx, rfl, hy, hn⟩ := h
  rw [trOf, countT]
  cases hb : holdsK x.kind with
  | true => have := (hy hb).count; omega
  | false => obtain ⟨rfl, rfl⟩ := hn hb; simp [countL]; omega
/-! ### good rows, good trees -/
def HeadOK (t : Tr) : Prop := t.kind = 5 ∧ t.name.size = 0 ∧ t.no = 0 ∧ t.must = false
def GoodT (t : Tr) : Prop := HeadOK t ∧ RightT t ∧ deepT t ≤ 5 ∧ countT t ≤ 30
def GoodL (L : List Ty) : Prop := (1 ≤ L.length ∧ L.length ≤ 30) ∧ RowsOK L ∧ deepT (treeOf L 0) ≤ 5
noncomputable def goodL (L : List Ty) : Bool := @decide (GoodL L) (Classical.propDecidable _)
noncomputable def goodT (t : Tr) : Bool := @decide (GoodT t) (Classical.propDecidable _)
theorem goodL_iff {L : List Ty} : goodL L = true ↔ GoodL L := by unfold goodL; exact @decide_eq_true_iff _ (Classical.propDecidable _)
theorem goodT_iff {t : Tr} : goodT t = true ↔ GoodT t := by unfold goodT; exact @decide_eq_true_iff _ (Classical.propDecidable _)
theorem good_tree {L : List Ty} {t : Tr} {e : Nat} {x0 : Ty} (h0 : L[0]? = some x0) (hT : PTree L 0 t e) : GoodL L ↔ (L.length ≤ 30 ∧ x0.up = -1 ∧ e = L.length ∧ GoodT t) := by
  unfold GoodL
  rw [rows_tree h0 hT, hT.of]
  have hc := hT.count
  have hl := (List.getElem?_eq_some_iff.1 h0).1
  have hhd : t.kind = x0.kind ∧ t.name = x0.name ∧ t.no = x0.no ∧ t.must = x0.must := by
    obtain ⟨y, ks, hy, rfl, -⟩ := hT
    rw [h0] at hy; cases hy
    exact ⟨rfl, rfl, rfl, rfl⟩
  unfold GoodT HeadOK RootOK
  rw [hhd.1, hhd.2.1, hhd.2.2.1, hhd.2.2.2]
  constructor
  · rintro ⟨⟨h1, h2⟩, ⟨⟨a1, a2, a3, a4, a5⟩, h4, h5⟩, h6⟩
    exact ⟨h2, a2, h4, ⟨a1, a3, a4, a5⟩, h5, h6, by omega⟩
  · rintro ⟨h2, a2, h4, ⟨a1, a3, a4, a5⟩, h5, h6, h7⟩
    exact ⟨⟨by omega, h2⟩, ⟨⟨a1, a2, a3, a4, a5⟩, h4, h5⟩, h6⟩
theorem GoodL.tree {L : List Ty} (h : GoodL L) : ∃ x0, L[0]? = some x0 ∧ RootOK x0 ∧ PTree L 0 (treeOf L 0) L.length ∧ GoodT (treeOf L 0) ∧ RowsOK L ∧ L.length ≤ 30 := by
  have hl : 0 < L.length := by have := h.1.1; omega
  have h0 : L[0]? = some L[0] := List.getElem?_eq_getElem hl
  obtain ⟨t, e, hT⟩ := tree_ex h0
  have h1 := (good_tree h0 hT).1 h
  have h2 := (rows_tree h0 hT).1 h.2.1
  have he : e = L.length := h2.2.1
  subst he
  rw [hT.of]
  exact ⟨_, h0, h2.1, hT, h1.2.2.2, h.2.1, h.1.2⟩
end Go.Proofs.Ytmlnecopbncdbaa
namespace Go.Proofs.Ytmlnecopbncdbaa
set_option maxRecDepth 100000

/-- the part with a number -/
def byNo (us : List Tr) (no : Int) : Option Tr := us.find? (fun x => x.no == no)
mutual
/-- whether each value of the first type is one of the second -/
def subT (a : Tr) : Tr → Bool
  | .node k _ _ _ mo ks => (a.kind == k && decide (a.most ≤ mo)) && (if k = 4 then subF a.kids ks else subL a.kids ks)
/-- of a list: the one part -/
def subF (us : List Tr) : List Tr → Bool
  | [] => true
  | y :: _ => match us with
    | [] => false
    | x :: _ => subT x y
def subL (us : List Tr) : List Tr → Bool
  | [] => true
  | y :: r => (match byNo us y.no with
    | none => false
    | some x => (!y.must || x.must) && subT x y) && subL us r
end
theorem subL_iff (us : List Tr) : ∀ (l : List Tr), subL us l = true ↔ ∀ y ∈ l, ∃ x, byNo us y.no = some x ∧ (y.must = true → x.must = true) ∧ subT x y = true
  | [] => by simp [subL]
  | y :: r => by
    rw [subL, Bool.and_eq_true, subL_iff us r]
    constructor
    · rintro ⟨h1, h2⟩ z hz
      rcases List.mem_cons.1 hz with rfl | hz
      · cases hb : byNo us z.no with
        | none => rw [hb] at h1; cases h1
        | some x =>
          rw [hb] at h1
          simp only [Bool.and_eq_true, Bool.or_eq_true, Bool.not_eq_true'] at h1
          refine ⟨x, rfl, fun hm => ?_, h1.2⟩
          rcases h1.1 with h | h
          · rw [h] at hm; cases hm
          · exact h
      · exact h2 z hz
    · intro h
      refine ⟨?_, fun z hz => h z (List.mem_cons_of_mem _ hz)⟩
      obtain ⟨x, h1, h2, h3⟩ := h y (by simp)
      rw [h1]
      simp only [Bool.and_eq_true, Bool.or_eq_true, Bool.not_eq_true']
      refine ⟨?_, h3⟩
      cases hm : y.must with
      | false => exact .inl rfl
      | true => exact .inr (h2 hm)
theorem subF_iff (us l : List Tr) : subF us l = true ↔ ∀ y r, l = y :: r → ∃ x q, us = x :: q ∧ subT x y = true := by
  cases l with
  | nil => simp [subF]
  | cons y r =>
    cases us with
    | nil =>
      constructor
      · intro h; simp [subF] at h
      · intro h; obtain ⟨x, q, e, _⟩ := h y r rfl; cases e
    | cons x q =>
      constructor
      · intro h y' r' e
        cases e
        exact ⟨x, q, rfl, by simpa [subF] using h⟩
      · intro h
        obtain ⟨x', q', e, h1⟩ := h y r rfl
        cases e
        simpa [subF] using h1
theorem byNo_no {us : List Tr} {no : Int} {x : Tr} (h : byNo us no = some x) : x.no = no ∧ x ∈ us := by
  unfold byNo at h
  exact ⟨by have := List.find?_some h; simpa using this, List.mem_of_find?_eq_some h⟩
/-- parts by numbers that differ -/
theorem byNo_self : ∀ {us : List Tr} {x : Tr}, us.Pairwise (fun a b => ¬ a.no = b.no) → x ∈ us → byNo us x.no = some x
  | [], x, _, h => by simp at h
  | a :: l, x, hp, h => by
    rw [List.pairwise_cons] at hp
    unfold byNo
    rw [List.find?_cons]
    rcases List.mem_cons.1 h with rfl | h
    · simp
    · have : (a.no == x.no) = false := by rw [beq_eq_false_iff_ne]; exact hp.1 x h
      rw [this]
      exact byNo_self hp.2 h
theorem hds_pair {R : Hd → Hd → Prop} : ∀ {l : List Tr}, (hds l).Pairwise R → l.Pairwise (fun a b => R a.hd b.hd)
  | [], _ => by simp
  | t :: r, h => by
    rw [hds, List.pairwise_cons] at h
    rw [List.pairwise_cons]
    refine ⟨fun b hb => h.1 b.hd ?_, hds_pair h.2⟩
    rw [hds_map]; exact List.mem_map.2 ⟨b, hb, rfl⟩
theorem RightL_all {k : Int} : ∀ {l : List Tr}, RightL k l ↔ ∀ t ∈ l, PartOf k t.hd ∧ RightT t
  | [] => by simp [RightL]
  | t :: r => by rw [RightL, RightL_all (l := r)]; simp [and_assoc]
/-- the parts of a message differ by their numbers -/
theorem right_nos {t : Tr} (h : RightT t) (hk : t.kind = 5) : t.kids.Pairwise (fun a b => ¬ a.no = b.no) := by
  cases t with
  | node k n o m mo ks =>
    rw [RightT] at h
    have := hds_pair (h.1.2.2.2.2.1 hk)
    exact this.imp (fun {a b} hab he => by have h1 : a.no < b.no := hab.1; omega)
theorem right_kids {t : Tr} (h : RightT t) : ∀ x ∈ t.kids, PartOf t.kind x.hd ∧ RightT x := by
  cases t with
  | node k n o m mo ks =>
    rw [RightT] at h
    exact RightL_all.1 h.2
theorem right_list {t : Tr} (h : RightT t) (hk : t.kind = 4) : ∃ x, t.kids = [x] := by
  cases t with
  | node k n o m mo ks =>
    rw [RightT] at h
    have := h.1.2.2.2.1 hk
    rw [hds_map, List.length_map] at this
    exact List.length_eq_one_iff.1 this
theorem right_most {t : Tr} (h : RightT t) (hk : ¬ t.kind = 3) : t.most = 0 := by
  cases t with
  | node k n o m mo ks =>
    rw [RightT] at h
    exact h.1.2.2.1 hk
theorem right_leaf {t : Tr} (h : RightT t) (hk : ¬ (t.kind = 4 ∨ t.kind = 5)) : t.kids = [] := by
  cases t with
  | node k n o m mo ks =>
    rw [RightT] at h
    have := h.1.2.2.2.2.2 hk
    cases ks with
    | nil => rfl
    | cons a l => rw [hds] at this; cases this
theorem subT_eq (a b : Tr) : subT a b = ((a.kind == b.kind && decide (a.most ≤ b.most)) && (if b.kind = 4 then subF a.kids b.kids else subL a.kids b.kids)) := by
  cases b with
  | node k n o m mo ks => rw [subT]; rfl
theorem size_lt {t x : Tr} (h : x ∈ t.kids) : countT x < countT t := by
  cases t with
  | node k n o m mo ks =>
    rw [countT]
    have : ∀ {l : List Tr}, x ∈ l → countT x ≤ countL l := by
      intro l
      induction l with
      | nil => intro h; simp at h
      | cons y r ih =>
        intro h
        rw [countL]
        rcases List.mem_cons.1 h with rfl | h
        · omega
        · have := ih h; omega
    have := this (l := ks) h
    omega
theorem sub_refl : ∀ (f : Nat) (t : Tr), countT t ≤ f → RightT t → subT t t = true
  | 0, t, hf, _ => by cases t with | node k n o m mo ks => rw [countT] at hf; omega
  | f + 1, t, hf, h => by
    have ih : ∀ x ∈ t.kids, subT x x = true := fun x hx => sub_refl f x (by have := size_lt hx; omega) (right_kids h x hx).2
    rw [subT_eq, beq_self_eq_true, Bool.true_and, decide_eq_true (Int.le_refl _), Bool.true_and]
    by_cases h4 : t.kind = 4
    · rw [if_pos h4]
      obtain ⟨x, hx⟩ := right_list h h4
      rw [hx, subF_iff]
      intro y r e
      cases e
      exact ⟨_, _, rfl, ih _ (by rw [hx]; simp)⟩
    · rw [if_neg h4, subL_iff]
      intro y hy
      by_cases h5 : t.kind = 5
      · exact ⟨y, byNo_self (right_nos h h5) hy, fun hm => hm, ih y hy⟩
      · rw [right_leaf h (by omega)] at hy; simp at hy
theorem sub_trans : ∀ (f : Nat) (a b c : Tr), countT c ≤ f → subT a b = true → subT b c = true → subT a c = true
  | 0, a, b, c, hf, _, _ => by cases c with | node k n o m mo ks => rw [countT] at hf; omega
  | f + 1, a, b, c, hf, h1, h2 => by
    rw [subT_eq, Bool.and_eq_true, Bool.and_eq_true, beq_iff_eq, decide_eq_true_iff] at h1 h2 ⊢
    obtain ⟨⟨k1, m1⟩, r1⟩ := h1
    obtain ⟨⟨k2, m2⟩, r2⟩ := h2
    refine ⟨⟨k1.trans k2, Int.le_trans m1 m2⟩, ?_⟩
    by_cases h4 : c.kind = 4
    · rw [if_pos (k2.trans h4)] at r1
      rw [if_pos h4] at r2 ⊢
      rw [subF_iff] at r1 r2 ⊢
      intro z r hz
      obtain ⟨y, q, hy, h3⟩ := r2 z r hz
      obtain ⟨x, p, hx, h5⟩ := r1 y q hy
      exact ⟨x, p, hx, sub_trans f x y z (by have := size_lt (t := c) (x := z) (by rw [hz]; simp); omega) h5 h3⟩
    · rw [if_neg (fun e => h4 (k2.symm.trans e))] at r1
      rw [if_neg h4] at r2 ⊢
      rw [subL_iff] at r1 r2 ⊢
      intro z hz
      obtain ⟨y, e1, e2, e3⟩ := r2 z hz
      obtain ⟨hn, hy⟩ := byNo_no e1
      obtain ⟨x, f1, f2, f3⟩ := r1 y hy
      rw [hn] at f1
      exact ⟨x, f1, fun hm => f2 (e2 hm), sub_trans f x y z (by have := size_lt hz; omega) f3 e3⟩
end Go.Proofs.Ytmlnecopbncdbaa
namespace Go.Proofs.Ytmlnecopbncdbaa
set_option maxRecDepth 100000

mutual
def flatT (up : Int) (k : Nat) : Tr → List Ty
  | .node kd n no m mo ks => ⟨kd, n, no, m, up, mo⟩ :: flatL k (k + 1) ks
def flatL (p s : Nat) : List Tr → List Ty
  | [] => []
  | t :: r => flatT (p : Int) s t ++ flatL p (s + countT t) r
end
mutual
def WfT : Tr → Prop
  | .node k _ _ _ _ ks => (holdsK k = false → ks = []) ∧ WfL ks
def WfL : List Tr → Prop
  | [] => True
  | t :: r => WfT t ∧ WfL r
end
mutual
theorem flatT_len (up : Int) (k : Nat) : ∀ t, (flatT up k t).length = countT t
  | .node kd n no m mo ks => by rw [flatT, countT, List.length_cons, flatL_len]; omega
theorem flatL_len (p s : Nat) : ∀ ts, (flatL p s ts).length = countL ts
  | [] => by simp [flatL, countL]
  | t :: r => by rw [flatL, countL, List.length_append, flatT_len, flatL_len]
end
theorem head_app {α : Type} {a b : List α} {x : α} (h : (a ++ b).head? = some x) : a.head? = some x ∨ (a = [] ∧ b.head? = some x) := by
  cases a with
  | nil => exact .inr ⟨rfl, h⟩
  | cons y l => exact .inl h
theorem flatL_head {p s : Nat} {ts : List Tr} {x : Ty} (h : (flatL p s ts).head? = some x) : x.up = (p : Int) := by
  match ts, h with
  | [], h => simp [flatL] at h
  | .node kd n no m mo ks :: r, h =>
    rw [flatL, flatT] at h
    simp at h
    rw [← h]
theorem flatL_nil {p s : Nat} {ts : List Tr} (h : flatL p s ts = []) : ts = [] := by
  match ts, h with
  | [], _ => rfl
  | .node kd n no m mo ks :: r, h => rw [flatL, flatT] at h; simp at h
mutual
theorem flatT_sub (L : List Ty) (up : Int) (s : Nat) : ∀ (t : Tr) (pre post : List Ty), WfT t → L = pre ++ flatT up s t ++ post → pre.length = s → (∀ x, post.head? = some x → x.up < (s : Int)) → ∃ x ks, L[s]? = some x ∧ x.up = up ∧ t = trOf x ks ∧ (holdsK x.kind = true → Seg L s (s + 1) ks (s + countT t)) ∧ (holdsK x.kind = false → ks = [] ∧ s + countT t = s + 1)
  | .node kd n no m mo ks, pre, post, hw, hL, hp, hpost => by
    rw [WfT] at hw
    refine ⟨⟨kd, n, no, m, up, mo⟩, ks, ?_, rfl, rfl, fun hk => ?_, fun hk => ?_⟩
    · rw [hL, flatT, ← hp]; simp
    · rw [countT, ← Nat.add_assoc]
      refine flatL_sub L s (s + 1) ks (pre ++ [⟨kd, n, no, m, up, mo⟩]) post hw.2 ?_ (by simp [hp]) (by omega) hpost
      rw [hL, flatT]; simp
    · have := hw.1 hk
      subst this
      exact ⟨rfl, by simp [countT, countL]⟩
theorem flatL_sub (L : List Ty) (p s : Nat) : ∀ (ts : List Tr) (pre post : List Ty), WfL ts → L = pre ++ flatL p s ts ++ post → pre.length = s → p < s → (∀ x, post.head? = some x → x.up < (p : Int)) → Seg L p s ts (s + countL ts)
  | [], pre, post, _, hL, hp, hps, hpost => by
    refine .nil (fun x hx hu => ?_)
    have : post.head? = some x := by
      rw [hL, flatL, List.append_nil, List.getElem?_append_right (by omega), hp, Nat.sub_self] at hx
      rw [List.head?_eq_getElem?]; exact hx
    have := hpost x this
    omega
  | t :: r, pre, post, hw, hL, hp, hps, hpost => by
    rw [WfL] at hw
    rw [flatL] at hL
    have h1 := flatT_sub L (p : Int) s t pre (flatL p (s + countT t) r ++ post) hw.1 (by rw [hL]; simp) hp (fun x hx => by
      rcases head_app hx with h | ⟨h, h2⟩
      · have := flatL_head h; omega
      · have := hpost x h2; omega)
    obtain ⟨x, ks, a1, a2, rfl, a4, a5⟩ := h1
    have h2 := flatL_sub L p (s + countT (trOf x ks)) r (pre ++ flatT (p : Int) s (trOf x ks)) post hw.2 (by rw [hL]; simp) (by rw [List.length_append, flatT_len, hp]) (by omega) hpost
    rw [countL, ← Nat.add_assoc]
    exact .cons a1 a2 a4 a5 h2
end
theorem flat_tree (up : Int) {t : Tr} (hw : WfT t) : PTree (flatT up 0 t) 0 t (countT t) ∧ ∃ x, (flatT up 0 t)[0]? = some x ∧ x.up = up := by
  obtain ⟨x, ks, h1, h2, h3, h4, h5⟩ := flatT_sub (flatT up 0 t) up 0 t [] [] hw (by simp) rfl (by simp)
  rw [Nat.zero_add (countT t)] at h4 h5
  exact ⟨⟨x, ks, h1, h3, h4, h5⟩, x, h1, h2⟩
/-- a tree told as a row -/
def flat (t : Tr) : List Ty := flatT (-1) 0 t
theorem flat_good {t : Tr} (hw : WfT t) : goodL (flat t) = goodT t := by
  rw [Bool.eq_iff_iff, goodL_iff, goodT_iff]
  obtain ⟨h1, x, h2, h3⟩ := flat_tree (-1) hw
  have h4 := good_tree h2 h1
  unfold flat
  rw [h4, flatT_len]
  constructor
  · rintro ⟨_, _, _, h⟩; exact h
  · intro h; exact ⟨h.2.2.2, h3, rfl, h⟩
theorem flat_len (t : Tr) : (flat t).length = countT t := flatT_len _ _ _
mutual
theorem right_wf : ∀ t, RightT t → WfT t
  | .node k n no m mo ks, h => by
    rw [RightT] at h
    rw [WfT]
    refine ⟨fun hk => ?_, right_wfL k ks h.2⟩
    have h1 := fit_leaf (h := ⟨k, n, no, m, mo⟩) hk h.1
    cases ks with
    | nil => rfl
    | cons a l => rw [hds] at h1; cases h1
theorem right_wfL (k : Int) : ∀ ts, RightL k ts → WfL ts
  | [], _ => by rw [WfL]; trivial
  | t :: r, h => by
    rw [RightL] at h
    rw [WfL]
    exact ⟨right_wf t h.2.1, right_wfL k r h.2.2⟩
end
theorem Seg.wf {L : List Ty} {p s e : Nat} {ts : List Tr} (h : Seg L p s ts e) : WfL ts := by
  induction h with
  | nil _ => rw [WfL]; trivial
  | cons hx hu hy hn hr ih1 ih2 =>
    rename_i p s m e x ks ts
    rw [WfL, trOf, WfT]
    refine ⟨⟨fun hk => (hn hk).1, ?_⟩, ih2⟩
    cases hb : holdsK x.kind with
    | true => exact ih1 hb
    | false => rw [(hn hb).1, WfL]; trivial
theorem PTree.wf {L : List Ty} {i e : Nat} {t : Tr} (h : PTree L i t e) : WfT t := by
  obtain ⟨x, ks, hx, rfl, hy, hn⟩ := h
  rw [trOf, WfT]
  refine ⟨fun hk => (hn hk).1, ?_⟩
  cases hb : holdsK x.kind with
  | true => exact (hy hb).wf
  | false => rw [(hn hb).1, WfL]; trivial
end Go.Proofs.Ytmlnecopbncdbaa
namespace Go.Proofs.Ytmlnecopbncdbaa
set_option maxRecDepth 100000

/-- a part is put where its number says -/
def putNo (l : List Tr) (x : Tr) : List Tr := l.takeWhile (fun t => decide (t.no < x.no)) ++ x :: l.dropWhile (fun t => decide (t.no < x.no))
def sortNo (l : List Tr) : List Tr := l.foldl putNo []
mutual
/-- what both types tell -/
def meetT : Tr → Tr → Option Tr
  | .node k n no m mo ks, b => if k = b.kind then (if k = 4 then (match meetF ks b.kids with | none => none | some z => some (.node k n no (m || b.must) (min mo b.most) z)) else (match meetL ks b.kids with | none => none | some l => some (.node k n no (m || b.must) (min mo b.most) (sortNo (l ++ b.kids.filter (fun y => (byNo ks y.no).isNone)))))) else none
def meetF : List Tr → List Tr → Option (List Tr)
  | [], _ => none
  | x :: _, us => match us with | [] => none | y :: _ => (match meetT x y with | none => none | some z => some [z])
def meetL : List Tr → List Tr → Option (List Tr)
  | [], _ => some []
  | x :: r, us => match (match byNo us x.no with | none => some x | some y => meetT x y) with | none => none | some z => (match meetL r us with | none => none | some l => some (z :: l))
end
/-- a part and what the other type tells of it -/
def meetP (us : List Tr) (x : Tr) : Option Tr := match byNo us x.no with | none => some x | some y => meetT x y
def restP (ks us : List Tr) : List Tr := us.filter (fun y => (byNo ks y.no).isNone)
theorem meetT_ne {a b : Tr} (h : ¬ a.kind = b.kind) : meetT a b = none := by
  cases a with | node k n no m mo ks => (change ¬ k = b.kind at h; rw [meetT, if_neg h])
theorem meetT_lst {a b x y : Tr} {p q : List Tr} (h : a.kind = b.kind) (h4 : a.kind = 4) (ha : a.kids = x :: p) (hb : b.kids = y :: q) : meetT a b = (match meetT x y with | none => none | some z => some (.node a.kind a.name a.no (a.must || b.must) (min a.most b.most) [z])) := by
  cases a with
  | node k n no m mo ks =>
    change k = b.kind at h
    change k = 4 at h4
    rw [meetT, if_pos h, if_pos h4]
    change ks = _ at ha
    subst ha
    rw [hb, meetF]
    cases meetT x y <;> rfl
theorem meetT_msg {a b : Tr} (h : a.kind = b.kind) (h4 : ¬ a.kind = 4) : meetT a b = (match meetL a.kids b.kids with | none => none | some l => some (.node a.kind a.name a.no (a.must || b.must) (min a.most b.most) (sortNo (l ++ restP a.kids b.kids)))) := by
  cases a with
  | node k n no m mo ks =>
    change k = b.kind at h
    change ¬ k = 4 at h4
    rw [meetT, if_pos h, if_neg h4]
    rfl
theorem meetL_cons (x : Tr) (r us : List Tr) : meetL (x :: r) us = (match meetP us x with | none => none | some z => (match meetL r us with | none => none | some l => some (z :: l))) := by rw [meetL]; rfl
theorem meetL_snoc (us : List Tr) (x : Tr) : ∀ (r : List Tr), meetL (r ++ [x]) us = (match meetL r us with | none => none | some l => (match meetP us x with | none => none | some z => some (l ++ [z])))
  | [] => by
    rw [List.nil_append, meetL_cons, meetL]
    cases meetP us x <;> rfl
  | y :: r => by
    rw [List.cons_append, meetL_cons, meetL_cons, meetL_snoc us x r]
    cases meetP us y with
    | none => rfl
    | some z =>
      cases meetL r us with
      | none => rfl
      | some l => cases meetP us x <;> rfl
theorem meetL_no {us : List Tr} : ∀ {r : List Tr} {x : Tr}, x ∈ r → meetP us x = none → meetL r us = none
  | [], x, h, _ => by simp at h
  | y :: r, x, h, hn => by
    rw [meetL_cons]
    rcases List.mem_cons.1 h with rfl | h
    · rw [hn]
    · rw [meetL_no h hn]
      cases meetP us y <;> rfl
theorem meetL_take {us r : List Tr} {i : Nat} {x z : Tr} {l : List Tr} (hx : r[i]? = some x) (hl : meetL (r.take i) us = some l) (hz : meetP us x = some z) : meetL (r.take (i + 1)) us = some (l ++ [z]) := by
  obtain ⟨h1, rfl⟩ := List.getElem?_eq_some_iff.1 hx
  rw [List.take_succ_eq_append_getElem h1, meetL_snoc, hl, hz]
theorem restP_take {ks us : List Tr} {i : Nat} {y : Tr} (hy : us[i]? = some y) : restP ks (us.take (i + 1)) = (if (byNo ks y.no).isNone = true then restP ks (us.take i) ++ [y] else restP ks (us.take i)) := by
  obtain ⟨h1, rfl⟩ := List.getElem?_eq_some_iff.1 hy
  rw [List.take_succ_eq_append_getElem h1]
  unfold restP
  rw [List.filter_append]
  by_cases h : (byNo ks us[i].no).isNone = true
  · rw [if_pos h]; simp [h]
  · rw [if_neg h]; simp [h]
theorem meetL_len {us : List Tr} : ∀ {r l : List Tr}, meetL r us = some l → l.length = r.length
  | [], l, h => by rw [meetL] at h; cases h; rfl
  | x :: r, l, h => by
    rw [meetL_cons] at h
    cases hp : meetP us x with
    | none => rw [hp] at h; cases h
    | some z =>
      cases hl : meetL r us with
      | none => rw [hp, hl] at h; cases h
      | some q =>
        rw [hp, hl] at h; cases h
        simp [meetL_len hl]
theorem meetT_head {a b t : Tr} (h : meetT a b = some t) : t.kind = a.kind ∧ t.no = a.no := by
  cases a with
  | node k n no m mo ks =>
    rw [meetT] at h
    by_cases h1 : k = b.kind
    · rw [if_pos h1] at h
      by_cases h4 : k = 4
      · rw [if_pos h4] at h
        cases hm : meetF ks b.kids with
        | none => rw [hm] at h; cases h
        | some z => rw [hm] at h; cases h; exact ⟨rfl, rfl⟩
      · rw [if_neg h4] at h
        cases hm : meetL ks b.kids with
        | none => rw [hm] at h; cases h
        | some z => rw [hm] at h; cases h; exact ⟨rfl, rfl⟩
    · rw [if_neg h1] at h; cases h
theorem meetP_no {us : List Tr} {x z : Tr} (h : meetP us x = some z) : z.no = x.no := by
  unfold meetP at h
  cases hb : byNo us x.no with
  | none => rw [hb] at h; cases h; rfl
  | some y => rw [hb] at h; exact (meetT_head h).2
theorem meetL_nos {us : List Tr} : ∀ {r l : List Tr}, meetL r us = some l → l.map Tr.no = r.map Tr.no
  | [], l, h => by rw [meetL] at h; cases h; rfl
  | x :: r, l, h => by
    rw [meetL_cons] at h
    cases hp : meetP us x with
    | none => rw [hp] at h; cases h
    | some z =>
      cases hl : meetL r us with
      | none => rw [hp, hl] at h; cases h
      | some q =>
        rw [hp, hl] at h; cases h
        rw [List.map_cons, List.map_cons, meetP_no hp, meetL_nos hl]
/-! ### the order by numbers -/
theorem putNo_perm (l : List Tr) (x : Tr) : (putNo l x).Perm (x :: l) := by
  unfold putNo
  refine (List.perm_middle).trans ?_
  rw [List.takeWhile_append_dropWhile]
theorem foldPut_perm : ∀ (l u : List Tr), (l.foldl putNo u).Perm (l ++ u)
  | [], u => List.Perm.refl _
  | x :: r, u => by
    rw [List.foldl_cons]
    refine (foldPut_perm r _).trans ?_
    refine ((putNo_perm u x).append_left r).trans ?_
    exact List.perm_middle
theorem sortNo_perm (l : List Tr) : (sortNo l).Perm l := by
  have := foldPut_perm l []
  rwa [List.append_nil] at this
theorem sortNo_len (l : List Tr) : (sortNo l).length = l.length := (sortNo_perm l).length_eq
theorem sortNo_snoc (l : List Tr) (x : Tr) : sortNo (l ++ [x]) = putNo (sortNo l) x := by
  unfold sortNo
  rw [List.foldl_append]; rfl
theorem putNo_sorted {l : List Tr} {x : Tr} (h : l.Pairwise (fun a b => a.no ≤ b.no)) : (putNo l x).Pairwise (fun a b => a.no ≤ b.no) := by
  unfold putNo
  induction l with
  | nil => simp
  | cons y r ih =>
    rw [List.pairwise_cons] at h
    by_cases hy : y.no < x.no
    · rw [List.takeWhile_cons_of_pos (by simpa using hy), List.dropWhile_cons_of_pos (by simpa using hy), List.cons_append, List.pairwise_cons]
      refine ⟨fun b hb => ?_, ih h.2⟩
      have hb2 := (putNo_perm r x).mem_iff.1 hb
      rcases List.mem_cons.1 hb2 with rfl | hb2
      · omega
      · exact h.1 b hb2
    · rw [List.takeWhile_cons_of_neg (by simpa using hy), List.dropWhile_cons_of_neg (by simpa using hy), List.nil_append, List.pairwise_cons, List.pairwise_cons]
      refine ⟨fun b hb => ?_, h⟩
      rcases List.mem_cons.1 hb with rfl | hb
      · omega
      · have := h.1 b hb; omega
theorem sortNo_sorted (l : List Tr) : (sortNo l).Pairwise (fun a b => a.no ≤ b.no) := by
  unfold sortNo
  suffices ∀ (l u : List Tr), u.Pairwise (fun a b => a.no ≤ b.no) → (l.foldl putNo u).Pairwise (fun a b => a.no ≤ b.no) from this l [] List.Pairwise.nil
  intro l
  induction l with
  | nil => intro u h; exact h
  | cons x r ih => intro u h; rw [List.foldl_cons]; exact ih _ (putNo_sorted h)
/-- where all numbers differ, there is one order -/
theorem sorted_one {l : List Tr} (hd : l.Pairwise (fun a b => ¬ a.no = b.no)) : ∀ {u v : List Tr}, u.Perm l → v.Perm l → u.Pairwise (fun a b => a.no ≤ b.no) → v.Pairwise (fun a b => a.no ≤ b.no) → u = v := by
  intro u v hu hv su sv
  have hinj : ∀ a ∈ l, ∀ b ∈ l, a.no = b.no → a = b := by
    clear hu hv su sv
    induction l with
    | nil => intro a ha; simp at ha
    | cons x r ih =>
      rw [List.pairwise_cons] at hd
      intro a ha b hb he
      rcases List.mem_cons.1 ha with h1 | h1 <;> rcases List.mem_cons.1 hb with h2 | h2
      · rw [h1, h2]
      · exact absurd (h1 ▸ he) (hd.1 b h2)
      · exact absurd (h2 ▸ he.symm) (hd.1 a h1)
      · exact ih hd.2 a h1 b h2 he
  refine List.Perm.eq_of_pairwise (le := fun a b => a.no ≤ b.no) ?_ su sv (hu.trans hv.symm)
  intro a b ha hb h1 h2
  exact hinj a (hu.mem_iff.1 ha) b (hv.mem_iff.1 hb) (by omega)
/-- the parts of what both tell differ by their numbers -/
theorem meet_nos {ks us l : List Tr} (h : meetL ks us = some l) (hk : ks.Pairwise (fun a b => ¬ a.no = b.no)) (hu : us.Pairwise (fun a b => ¬ a.no = b.no)) : (l ++ restP ks us).Pairwise (fun a b => ¬ a.no = b.no) := by
  have hm := meetL_nos h
  rw [List.pairwise_append]
  refine ⟨?_, hu.filter _, ?_⟩
  · have h1 : (ks.map Tr.no).Pairwise (fun a b => ¬ a = b) := List.pairwise_map.2 hk
    rw [← hm] at h1
    exact List.pairwise_map.1 h1
  · intro a ha b hb he
    unfold restP at hb
    rw [List.mem_filter] at hb
    have hbn := hb.2
    have : a.no ∈ ks.map Tr.no := by rw [← hm]; exact List.mem_map.2 ⟨a, ha, rfl⟩
    obtain ⟨x, hx, hxa⟩ := List.mem_map.1 this
    have hnone := Option.isNone_iff_eq_none.1 hbn
    unfold byNo at hnone
    rw [List.find?_eq_none] at hnone
    exact hnone x hx (by simp [hxa, he])
/-! ### what is made is in order -/
theorem WfL_all : ∀ {l : List Tr}, WfL l ↔ ∀ t ∈ l, WfT t
  | [] => by simp [WfL]
  | t :: r => by rw [WfL, WfL_all (l := r)]; simp
theorem wf_kids {t : Tr} (h : WfT t) : ∀ x ∈ t.kids, WfT x := by
  cases t with
  | node k n o m mo ks => rw [WfT] at h; exact WfL_all.1 h.2
theorem meetP_in {us : List Tr} {x z : Tr} (h : meetP us x = some z) : z = x ∨ ∃ y ∈ us, meetT x y = some z := by
  unfold meetP at h
  cases hb : byNo us x.no with
  | none => rw [hb] at h; cases h; exact .inl rfl
  | some y => rw [hb] at h; exact .inr ⟨y, (byNo_no hb).2, h⟩
theorem meetL_in {us : List Tr} : ∀ {r l : List Tr}, meetL r us = some l → ∀ z ∈ l, ∃ x ∈ r, meetP us x = some z
  | [], l, h => by rw [meetL] at h; cases h; simp
  | x :: r, l, h => by
    rw [meetL_cons] at h
    cases hp : meetP us x with
    | none => rw [hp] at h; cases h
    | some z =>
      cases hl : meetL r us with
      | none => rw [hp, hl] at h; cases h
      | some q =>
        rw [hp, hl] at h; cases h
        intro y hy
        rcases List.mem_cons.1 hy with rfl | hy
        · exact ⟨x, by simp, hp⟩
        · obtain ⟨v, h1, h2⟩ := meetL_in hl y hy
          exact ⟨v, by simp [h1], h2⟩
theorem meetL_nil {us l : List Tr} (h : meetL [] us = some l) : l = [] := by rw [meetL] at h; cases h; rfl
theorem countL_app : ∀ (l u : List Tr), countL (l ++ u) = countL l + countL u
  | [], u => by simp [countL]
  | x :: r, u => by rw [List.cons_append, countL, countL, countL_app r u]; omega
theorem countL_perm {l u : List Tr} (h : l.Perm u) : countL l = countL u := by
  induction h with
  | nil => rfl
  | cons x _ ih => rw [countL, countL, ih]
  | swap x y l => rw [countL, countL, countL, countL]; omega
  | trans _ _ h1 h2 => exact h1.trans h2
theorem countL_filter (p : Tr → Bool) : ∀ (l : List Tr), countL (l.filter p) ≤ countL l
  | [] => Nat.le_refl _
  | x :: r => by
    rw [List.filter_cons]
    have := countL_filter p r
    split
    · rw [countL, countL]; omega
    · rw [countL]; omega
theorem count_node (t : Tr) : countT t = 1 + countL t.kids := by
  cases t with | node k n o m mo ks => rw [countT]; rfl
theorem meet_wf : ∀ (f : Nat) {a b t : Tr}, countT a ≤ f → WfT a → WfT b → meetT a b = some t → WfT t ∧ countT t ≤ countT a * (1 + countT b)
  | 0, a, b, t, hf, _, _, _ => by have := count_node a; omega
  | f + 1, a, b, t, hf, ha, hb, h => by
    have ih : ∀ x ∈ a.kids, ∀ y ∈ b.kids, ∀ z, meetT x y = some z → WfT z ∧ countT z ≤ countT x * (1 + countT y) := fun x hx y hy z hz =>
      meet_wf f (by have := size_lt hx; omega) (wf_kids ha x hx) (wf_kids hb y hy) hz
    have hca := count_node a
    have hcb := count_node b
    by_cases hk : a.kind = b.kind
    case neg => rw [meetT_ne hk] at h; cases h
    by_cases h4 : a.kind = 4
    · cases hak : a.kids with
      | nil =>
        cases a with
        | node k n no m mo ks =>
          change ks = [] at hak
          change k = 4 at h4
          change k = b.kind at hk
          rw [meetT, if_pos hk, if_pos h4, hak, meetF] at h; cases h
      | cons x p =>
        cases hbk : b.kids with
        | nil =>
          cases a with
          | node k n no m mo ks =>
            change ks = _ at hak
            change k = 4 at h4
            change k = b.kind at hk
            rw [meetT, if_pos hk, if_pos h4, hak, hbk, meetF] at h; cases h
        | cons y q =>
          rw [meetT_lst hk h4 hak hbk] at h
          cases hz : meetT x y with
          | none => rw [hz] at h; cases h
          | some z =>
            rw [hz] at h; cases h
            obtain ⟨h1, h2⟩ := ih x (by rw [hak]; simp) y (by rw [hbk]; simp) z hz
            refine ⟨?_, ?_⟩
            · rw [WfT, WfL, WfL]
              exact ⟨fun hh => by rw [h4] at hh; simp [holdsK] at hh, h1, trivial⟩
            · rw [countT, countL, countL]
              rw [hak, countL] at hca
              rw [hbk, countL] at hcb
              have h3 : countT x * (1 + countT y) ≤ countT x * countT b := Nat.mul_le_mul_left _ (by omega)
              have h5 : (1 + countT x) * countT b ≤ countT a * (1 + countT b) := Nat.mul_le_mul (by omega) (by omega)
              rw [Nat.add_mul] at h5
              omega
    · rw [meetT_msg hk h4] at h
      cases hl : meetL a.kids b.kids with
      | none => rw [hl] at h; cases h
      | some l =>
        rw [hl] at h; cases h
        refine ⟨?_, ?_⟩
        · rw [WfT, WfL_all]
          refine ⟨fun hh => ?_, fun z hz => ?_⟩
          · have e1 : a.kids = [] := by cases a with | node k n o m mo ks => rw [WfT] at ha; exact ha.1 hh
            have e2 : b.kids = [] := by cases b with | node k n o m mo ks => rw [WfT] at hb; exact hb.1 (by rw [← hh]; exact congrArg holdsK hk.symm)
            rw [e1] at hl
            rw [meetL_nil hl, e2]; rfl
          · have hz := (sortNo_perm _).mem_iff.1 hz
            rcases List.mem_append.1 hz with hz | hz
            · obtain ⟨x, hx, hp⟩ := meetL_in hl z hz
              rcases meetP_in hp with rfl | ⟨y, hy, hm⟩
              · exact wf_kids ha _ hx
              · exact (ih x hx y hy z hm).1
            · unfold restP at hz
              exact wf_kids hb z (List.mem_filter.1 hz).1
        · rw [countT, countL_perm (sortNo_perm _), countL_app]
          have h1 : countL (restP a.kids b.kids) ≤ countL b.kids := countL_filter _ _
          have key : ∀ (r l : List Tr), (∀ x ∈ r, x ∈ a.kids) → meetL r b.kids = some l → countL l ≤ countL r * countT b := by
            intro r
            induction r with
            | nil => intro l _ hl; rw [meetL_nil hl, countL]; omega
            | cons x r ihr =>
              intro l hr hl
              rw [meetL_cons] at hl
              cases hp : meetP b.kids x with
              | none => rw [hp] at hl; cases hl
              | some z =>
                cases hl2 : meetL r b.kids with
                | none => rw [hp, hl2] at hl; cases hl
                | some q =>
                  rw [hp, hl2] at hl; cases hl
                  have h2 := ihr q (fun v hv => hr v (by simp [hv])) hl2
                  have h3 : countT z ≤ countT x * countT b := by
                    rcases meetP_in hp with rfl | ⟨y, hy, hm⟩
                    · exact Nat.le_mul_of_pos_right _ (by omega)
                    · have h4 := (ih x (hr x (by simp)) y hy z hm).2
                      have h5 := size_lt hy
                      exact Nat.le_trans h4 (Nat.mul_le_mul_left _ (by omega))
                  rw [countL, countL, Nat.add_mul]
                  omega
          have h2 := key a.kids l (fun x hx => hx) hl
          have h3 : (1 + countL a.kids) * countT b ≤ countT a * (1 + countT b) := Nat.mul_le_mul (by omega) (by omega)
          rw [Nat.add_mul] at h3
          omega
end Go.Proofs.Ytmlnecopbncdbaa
