/- When a schema is good: the program's way over the tree, the reference's way over the row. In plain Lean. -/
import Derived.Test.YtmlnecopbncdbaaTyL
namespace Go.Proofs.Ytmlnecopbncdbaa
set_option linter.unusedVariables false
set_option linter.unusedSimpArgs false
set_option maxRecDepth 100000

def lowC (c : UInt8) : Bool := decide (97 ≤ c.toNat) && decide (c.toNat ≤ 122)
def nameB (s : ByteArray) : Bool := s.data.toList.all lowC && (decide (1 ≤ s.size) && decide (s.size ≤ 10))
/-- the head of a type -/
structure Hd where
  kind : Int
  name : ByteArray
  no : Int
  must : Bool
  most : Int
def Ty.hd (x : Ty) : Hd := ⟨x.kind, x.name, x.no, x.must, x.most⟩
def Tr.hd (t : Tr) : Hd := ⟨t.kind, t.name, t.no, t.must, t.most⟩
theorem trOf_hd (x : Ty) (ks : List Tr) : (trOf x ks).hd = x.hd := rfl
/-- whether a type may be a part of one of a kind -/
def PartOf (k : Int) (h : Hd) : Prop := (k = 5 → nameB h.name = true ∧ 1 ≤ h.no ∧ h.no ≤ 30) ∧ (¬ k = 5 → h.name.size = 0 ∧ h.no = 0 ∧ h.must = false)
instance (k : Int) (h : Hd) : Decidable (PartOf k h) := by unfold PartOf; infer_instance
/-- whether a type and its parts fit -/
def Fit (h : Hd) (ks : List Hd) : Prop := (1 ≤ h.kind ∧ h.kind ≤ 5) ∧ (h.kind = 3 → 0 ≤ h.most ∧ h.most ≤ 20) ∧ (¬ h.kind = 3 → h.most = 0) ∧ (h.kind = 4 → ks.length = 1) ∧ (h.kind = 5 → ks.Pairwise (fun a b => a.no < b.no ∧ ¬ a.name = b.name)) ∧ (¬ (h.kind = 4 ∨ h.kind = 5) → ks = [])
mutual
def RightT : Tr → Prop
  | .node k n o m mo ks => Fit ⟨k, n, o, m, mo⟩ (hds ks) ∧ RightL k ks
def RightL (k : Int) : List Tr → Prop
  | [] => True
  | t :: r => PartOf k t.hd ∧ RightT t ∧ RightL k r
def hds : List Tr → List Hd
  | [] => []
  | t :: r => t.hd :: hds r
end
mutual
def deepT : Tr → Nat
  | .node k _ _ _ _ ks => deepL ks + (if holdsK k = true then 1 else 0)
def deepL : List Tr → Nat
  | [] => 0
  | t :: r => max (deepT t) (deepL r)
end
mutual
def countT : Tr → Nat
  | .node _ _ _ _ _ ks => 1 + countL ks
def countL : List Tr → Nat
  | [] => 0
  | t :: r => countT t + countL r
end
theorem hds_map : ∀ (l : List Tr), hds l = l.map Tr.hd
  | [] => by simp [hds]
  | t :: r => by rw [hds, hds_map r]; rfl
/-- the heads of the parts of p between s and e -/
def kidsH (L : List Ty) (p s : Nat) : Nat → List Hd
  | 0 => []
  | e + 1 => kidsH L p s e ++ (if s ≤ e then (match L[e]? with | some x => if x.up = (p : Int) then [x.hd] else [] | none => []) else [])
theorem kidsH_same {L : List Ty} {p s : Nat} : ∀ e, e ≤ s → kidsH L p s e = []
  | 0, _ => rfl
  | e + 1, h => by rw [kidsH, kidsH_same e (by omega), if_neg (by omega)]; rfl
theorem kidsH_none {L : List Ty} {p s m : Nat} : ∀ e, m ≤ e → (∀ i x, m ≤ i → i < e → L[i]? = some x → ¬ x.up = (p : Int)) → kidsH L p s e = kidsH L p s m
  | 0, h, _ => by rw [show m = 0 by omega]
  | e + 1, h, hn => by
    by_cases he : m = e + 1
    · rw [he]
    · rw [kidsH, kidsH_none e (by omega) (fun i x h1 h2 => hn i x h1 (by omega))]
      split
      · cases hx : L[e]? with
        | none => simp
        | some x =>
          have := hn e x (by omega) (by omega) hx
          simp [this]
      · simp
theorem kidsH_split {L : List Ty} {p s m : Nat} : ∀ e, s ≤ m → m ≤ e → kidsH L p s e = kidsH L p s m ++ kidsH L p m e
  | 0, _, h => by rw [show m = 0 by omega]; simp [kidsH]
  | e + 1, hs, h => by
    by_cases he : m = e + 1
    · rw [he, kidsH_same (s := e + 1) (e + 1) (Nat.le_refl _), List.append_nil]
    · rw [kidsH, kidsH_split e hs (by omega), kidsH, if_pos (by omega), if_pos (by omega), List.append_assoc]
theorem kidsH_one {L : List Ty} {p s : Nat} {x : Ty} (hx : L[s]? = some x) (hu : x.up = (p : Int)) : kidsH L p s (s + 1) = [x.hd] := by
  rw [kidsH, kidsH_same s (Nat.le_refl _), if_pos (Nat.le_refl _), hx]
  simp [hu]
/-- the parts are those that name p -/
theorem Seg.kids {L : List Ty} {p s e : Nat} {ts : List Tr} (h : Seg L p s ts e) (hps : p < s) : kidsH L p s e = hds ts := by
  induction h with
  | nil _ => rw [kidsH_same _ (Nat.le_refl _)]; simp [hds]
  | cons hx hu hy hn hr ih1 ih2 =>
    rename_i p s m e x ks ts
    have hm := Seg.mid hy hn
    have hme := hr.le
    rw [hds, ← ih2 (by omega), kidsH_split (m := m) e (by omega) hme, kidsH_split (m := s + 1) m (by omega) hm, kidsH_one hx hu, trOf_hd]
    rw [kidsH_none (m := s + 1) m hm, kidsH_same _ (Nat.le_refl _)]
    · rfl
    · intro i y h1 h2 hiy
      cases hb : holdsK x.kind with
      | true =>
        have := (hy hb).up (by omega) i y h1 h2 hiy
        omega
      | false => have := (hn hb).2; omega
/-- what is right of the type at a place, its parts being told as far as e -/
def OkAt (L : List Ty) (e i : Nat) : Prop := ∀ x, L[i]? = some x → Fit x.hd (kidsH L i (i + 1) e)
def ParAt (L : List Ty) (i : Nat) : Prop := ∀ x j y, L[i]? = some x → x.up = ((j : Nat) : Int) → L[j]? = some y → PartOf y.kind x.hd
theorem fit_leaf {h : Hd} (hb : holdsK h.kind = false) {ks : List Hd} (hf : Fit h ks) : ks = [] := hf.2.2.2.2.2 (by simpa [holdsK] using hb)
/-- the tree is right just if each of its places is -/
theorem Seg.right {L : List Ty} {p s e : Nat} {ts : List Tr} (h : Seg L p s ts e) (hps : p < s) {y : Ty} (hy0 : L[p]? = some y) : (RightL y.kind ts ↔ ∀ i, s ≤ i → i < e → OkAt L e i ∧ ParAt L i) := by
  induction h generalizing y with
  | nil _ =>
    constructor
    · intro _ i h1 h2; omega
    · intro _; simp [RightL]
  | cons hx hu hy hn hr ih1 ih2 =>
    rename_i p s m e x ks ts
    have hm := Seg.mid hy hn
    have hme := hr.le
    -- behind m no one names a place of [s, m)
    have hfar : ∀ q, s ≤ q → q < m → kidsH L q (q + 1) e = kidsH L q (q + 1) m := by
      intro q h1 h2
      refine kidsH_none e hme (fun i z h3 h4 hz => ?_)
      have := hr.up (by omega) i z h3 h4 hz
      omega
    have hkids : kidsH L s (s + 1) m = hds ks := by
      cases hb : holdsK x.kind with
      | true => exact (hy hb).kids (by omega)
      | false =>
        obtain ⟨h1, h2⟩ := hn hb
        subst h1; rw [h2, kidsH_same _ (Nat.le_refl _)]; simp [hds]
    have hsub : RightL x.kind ks ↔ ∀ i, s + 1 ≤ i → i < m → OkAt L m i ∧ ParAt L i := by
      cases hb : holdsK x.kind with
      | true => exact ih1 hb (by omega) hx
      | false =>
        obtain ⟨h1, h2⟩ := hn hb
        subst h1
        constructor
        · intro _ i h3 h4; omega
        · intro _; simp [RightL]
    have hmove : ∀ i, s ≤ i → i < m → (OkAt L m i ↔ OkAt L e i) := by
      intro i h1 h2
      unfold OkAt
      rw [hfar i h1 h2]
    rw [RightL, ih2 (by omega) hy0]
    constructor
    · rintro ⟨h1, h2, h3⟩ i hi1 hi2
      rw [trOf, RightT] at h2
      by_cases e1 : i = s
      · subst e1
        refine ⟨?_, ?_⟩
        · intro z hz
          rw [hx] at hz; cases hz
          rw [hfar i (Nat.le_refl _) (by omega), hkids]
          exact h2.1
        · intro z j w hz hzj hw
          rw [hx] at hz; cases hz
          have : j = p := by omega
          subst this
          rw [hy0] at hw; cases hw
          exact h1
      · by_cases e2 : i < m
        · have := hsub.1 h2.2 i (by omega) e2
          exact ⟨(hmove i hi1 e2).1 this.1, this.2⟩
        · exact h3 i (by omega) hi2
    · intro hall
      have hs := hall s (Nat.le_refl _) (by omega)
      refine ⟨hs.2 x p y hx hu hy0, ?_, fun i h1 h2 => hall i (by omega) h2⟩
      rw [trOf, RightT]
      refine ⟨?_, hsub.2 (fun i h1 h2 => ?_)⟩
      · have := hs.1 x hx
        rw [hfar s (Nat.le_refl _) (by omega), hkids] at this
        exact this
      · have := hall i (by omega) (by omega)
        exact ⟨(hmove i (by omega) h2).2 this.1, this.2⟩
end Go.Proofs.Ytmlnecopbncdbaa
