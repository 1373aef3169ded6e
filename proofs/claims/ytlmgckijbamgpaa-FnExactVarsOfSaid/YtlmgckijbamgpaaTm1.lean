/- Terms: how they are read out of cells, in plain Lean; how trees lie in memory; names. -/
import Derived.Test.YtlmgckijbamgpaaInR
import Derived.Test.YtlmgckijbamgpaaHTerm
import Derived.Test.YtlmgckijbamgpaaPut
namespace Go.Proofs.Ytlmgckijbamgpaa
set_option linter.unusedVariables false
open Go.ChangeShapes Go.WideShapes Go.ChangeAt Go.RowKit
set_option maxRecDepth 100000

abbrev Cel := Int × ByteArray × Int
def lowB (c : UInt8) : Bool := decide (97 ≤ c.toNat) && decide (c.toNat ≤ 122)
def nmB (s : ByteArray) : Bool := s.data.toList.all lowB && inR (s.size : Int) 1 10
def nm4 (s : ByteArray) : Bool := nmB s && decide (s.size ≤ 4)
def varB (c : Cel) : Bool := inR c.1 1 6 && (decide (c.2.1.size = 0) && decide (c.2.2 = 0))
def nodeB (c : Cel) : Bool := nm4 c.2.1 && inR c.2.2 0 5
/-- the parts of a term -/
def pK (g : List Cel → Option (List Int × List Cel)) : Nat → List Cel → Option (List Int × List Cel)
  | 0, r => some ([], r)
  | k + 1, r => match g r with
    | none => none
    | some (vs, r1) => match pK g k r1 with
      | none => none
      | some (us, r2) => some (vs ++ us, r2)
/-- a term: its variables in order, and what is left -/
def pT : Nat → List Cel → Option (List Int × List Cel)
  | 0, _ => none
  | _ + 1, [] => none
  | f + 1, c :: r => if c.1 = 0 then (if nodeB c = true then pK (pT f) c.2.2.toNat r else none) else (if varB c = true then some ([c.1], r) else none)
/-- some of the parts are read: k of them are left -/
def Suf (r l : List Cel) : Prop := ∃ k, k ≤ l.length ∧ r = l.drop k
theorem Suf.refl (l : List Cel) : Suf l l := ⟨0, by omega, rfl⟩
theorem Suf.trans {a b c : List Cel} (h : Suf a b) (k : Suf b c) : Suf a c := by
  obtain ⟨i, hi, rfl⟩ := h; obtain ⟨j, hj, rfl⟩ := k
  rw [List.length_drop] at hi
  exact ⟨j + i, by omega, by rw [List.drop_drop]⟩
theorem Suf.len {a b : List Cel} (h : Suf a b) : a.length ≤ b.length := by obtain ⟨i, hi, rfl⟩ := h; simp
theorem pK_suf {g : List Cel → Option (List Int × List Cel)} (hg : ∀ l vs r, g l = some (vs, r) → Suf r l) : ∀ (k : Nat) (l : List Cel) (vs : List Int) (r : List Cel), pK g k l = some (vs, r) → Suf r l
  | 0, l, vs, r, h => by simp [pK] at h; rw [h.2]; exact Suf.refl _
  | k + 1, l, vs, r, h => by
    unfold pK at h
    cases h1 : g l with
    | none => rw [h1] at h; cases h
    | some p =>
      obtain ⟨us, r1⟩ := p
      rw [h1] at h
      simp only at h
      cases h2 : pK g k r1 with
      | none => rw [h2] at h; cases h
      | some q =>
        obtain ⟨ws, r2⟩ := q
        rw [h2] at h
        simp only [Option.some.injEq, Prod.mk.injEq] at h
        obtain ⟨_, rfl⟩ := h
        exact (pK_suf hg k r1 ws r2 h2).trans (hg l us r1 h1)
theorem pT_suf1 : ∀ (f : Nat) (l : List Cel) (vs : List Int) (r : List Cel), pT f l = some (vs, r) → Suf r (l.drop 1) ∧ l ≠ []
  | 0, l, vs, r, h => by simp [pT] at h
  | f + 1, [], vs, r, h => by simp [pT] at h
  | f + 1, c :: t, vs, r, h => by
    refine ⟨?_, by simp⟩
    unfold pT at h
    split at h
    · split at h
      · exact pK_suf (fun l us q hq => by
          have := pT_suf1 f l us q hq
          exact this.1.trans ⟨1, by have := this.2; cases l with
            | nil => exact absurd rfl this
            | cons _ _ => simp, rfl⟩) _ _ _ _ h
      · cases h
    · split at h
      · simp only [Option.some.injEq, Prod.mk.injEq] at h
        rw [← h.2]; exact Suf.refl _
      · cases h
theorem pT_suf {f : Nat} {l : List Cel} {vs : List Int} {r : List Cel} (h : pT f l = some (vs, r)) : Suf r l ∧ r.length < l.length := by
  obtain ⟨h1, h2⟩ := pT_suf1 f l vs r h
  have h3 := h1.len
  match l, h2 with
  | c :: t, _ => exact ⟨h1.trans ⟨1, by simp, rfl⟩, by simp at h3 ⊢; omega⟩
theorem pK_bd {g : List Cel → Option (List Int × List Cel)} (hg : ∀ l vs r, g l = some (vs, r) → ∀ v ∈ vs, 1 ≤ v ∧ v ≤ 6) : ∀ (k : Nat) (l : List Cel) (vs : List Int) (r : List Cel), pK g k l = some (vs, r) → ∀ v ∈ vs, 1 ≤ v ∧ v ≤ 6
  | 0, l, vs, r, h => by simp [pK] at h; rw [h.1]; simp
  | k + 1, l, vs, r, h => by
    unfold pK at h
    cases h1 : g l with
    | none => rw [h1] at h; cases h
    | some p =>
      obtain ⟨us, r1⟩ := p
      rw [h1] at h
      simp only at h
      cases h2 : pK g k r1 with
      | none => rw [h2] at h; cases h
      | some q =>
        obtain ⟨ws, r2⟩ := q
        rw [h2] at h
        simp only [Option.some.injEq, Prod.mk.injEq] at h
        obtain ⟨rfl, _⟩ := h
        intro v hv
        rcases List.mem_append.1 hv with hv | hv
        · exact hg l us r1 h1 v hv
        · exact pK_bd hg k r1 ws r2 h2 v hv
theorem inR_iff2 {n lo hi : Int} : inR n lo hi = true ↔ lo ≤ n ∧ n ≤ hi := by unfold inR; simp
theorem pT_bd : ∀ (f : Nat) (l : List Cel) (vs : List Int) (r : List Cel), pT f l = some (vs, r) → ∀ v ∈ vs, 1 ≤ v ∧ v ≤ 6
  | 0, l, vs, r, h => by simp [pT] at h
  | f + 1, [], vs, r, h => by simp [pT] at h
  | f + 1, c :: t, vs, r, h => by
    unfold pT at h
    split at h
    · split at h
      · exact pK_bd (pT_bd f) _ _ _ _ h
      · cases h
    · split at h
      · rename_i hv
        simp only [Option.some.injEq, Prod.mk.injEq] at h
        rw [← h.1]
        unfold varB at hv
        simp only [Bool.and_eq_true] at hv
        have := inR_iff2.1 hv.1
        intro v hm; simp at hm; subst hm; exact this
      · cases h

/-! ### memory -/
/-- a row in a block that S allows -/
def RS (S : Nat → Prop) (w : World) (a : Option Addr) (vs : List Value) : Prop := vs = [] ∨ ∃ b off, a = some ⟨b, off, none⟩ ∧ S b ∧ b < w.heap.size ∧ ∀ i u, vs[i]? = some u → w.cell? ⟨b, off + i, none⟩ = some u
def Kept (S : Nat → Prop) (w w' : World) : Prop := w.heap.size ≤ w'.heap.size ∧ ∀ b, S b → b < w.heap.size → w'.heap[b]? = w.heap[b]?
theorem RS.keep {S T : Nat → Prop} {w w' : World} {a : Option Addr} {vs : List Value} (h : RS S w a vs) (hk : Kept S w w') (hT : ∀ b, S b → b < w.heap.size → T b) : RS T w' a vs := by
  rcases h with h | ⟨b, off, ha, hs, hb, hc⟩
  · exact .inl h
  · exact .inr ⟨b, off, ha, hT b hs hb, Nat.lt_of_lt_of_le hb hk.1, fun i u hi => (World.cell?_of_block (w := w) (a := ⟨b, off + i, none⟩) (hk.2 b hs hb)).trans (hc i u hi)⟩
theorem RS.rw {S : Nat → Prop} {w : World} {a : Option Addr} {vs : List Value} (h : RS S w a vs) : Rw w a vs := by
  rcases h with h | ⟨b, off, ha, _, hb, hc⟩
  · exact .inl h
  · exact .inr ⟨b, off, ha, hb, hc⟩
theorem RS.own {S : Nat → Prop} {w : World} {base : Nat} {e : TypeId} {size : Nat} {a : Option Addr} {n cap : Nat} {xs : List Value} (h : w.ownsRow base e size (.slice a n cap) n xs) (hS : ∀ g, (Value.slice a n cap).ownBlock = some g → S g) : RS S w a xs := by
  rcases h.2 with ⟨h0, hn⟩ | ⟨g, cap', cur, hv, hb, hg, hnc, hcm, hcs, htake⟩
  · left
    have := h.1
    subst hn
    simpa using this
  · cases hv
    rcases own_rw h with h0 | ⟨b, off, ha, hb2, hc⟩
    · exact .inl h0
    · simp only [Option.some.injEq, Addr.mk.injEq, and_true] at ha
      obtain ⟨rfl, rfl⟩ := ha
      exact .inr ⟨_, _, rfl, hS _ rfl, hb2, hc⟩
theorem kept_below {S : Nat → Prop} {w w' : World} (h : Below w.heap.size w w') : Kept S w w' := ⟨h.size, fun b _ hb => h.block b hb⟩
theorem Kept.trans {S T : Nat → Prop} {a b c : World} (h : Kept S a b) (k : Kept T b c) (hT : ∀ x, S x → x < a.heap.size → T x) : Kept S a c :=
  ⟨Nat.le_trans h.1 k.1, fun x hs hx => (k.2 x (hT x hs hx) (Nat.lt_of_lt_of_le hx h.1)).trans (h.2 x hs hx)⟩
/-- the reference's tree, by value -/
def TS (S : Nat → Prop) (w : World) : Nat → List Value → List Int → Prop
  | 0, _, _ => False
  | d + 1, cs, vs => ∃ v nm a n c, cs = [.int .i64 v, .string nm, .slice a n c] ∧ n ≤ c ∧ c ≤ 9223372036854775807 ∧ ((1 ≤ v ∧ v ≤ 6 ∧ vs = [v]) ∨ (v = 0 ∧ ∃ ks : List (List Value × List Int), ks.length = n ∧ n ≤ 5 ∧ RS S w a (ks.map (·.1)).flatten ∧ (∀ k ∈ ks, TS S w d k.1 k.2) ∧ vs = (ks.map (·.2)).flatten))
theorem TS.keep {S T : Nat → Prop} {w w' : World} (hk : Kept S w w') (hT : ∀ b, S b → b < w.heap.size → T b) : ∀ (d : Nat) (cs : List Value) (vs : List Int), TS S w d cs vs → TS T w' d cs vs
  | 0, _, _, h => h.elim
  | d + 1, cs, vs, h => by
    obtain ⟨v, nm, a, n, c, h1, h2, h3, h4⟩ := h
    refine ⟨v, nm, a, n, c, h1, h2, h3, ?_⟩
    rcases h4 with h4 | ⟨h5, ks, k1, k2, k3, k4, k5⟩
    · exact .inl h4
    · exact .inr ⟨h5, ks, k1, k2, k3.keep hk hT, fun k hm => TS.keep hk hT d k.1 k.2 (k4 k hm), k5⟩
theorem TS.cells {S : Nat → Prop} {w : World} {d : Nat} {cs : List Value} {vs : List Int} (h : TS S w d cs vs) : cs.length = 3 := by
  match d, h with
  | d + 1, h => obtain ⟨v, nm, a, n, c, h1, _⟩ := h; rw [h1]; rfl
/-- the program's tree, by its pointer -/
def TP (S : Nat → Prop) (w : World) : Nat → Value → List Int → Prop
  | 0, _, _ => False
  | d + 1, p, vs => ∃ b v nm a n c, p = .pointer (some ⟨b, 0, none⟩) ∧ S b ∧ w.heap[b]? = some (.cells #[.int .i64 v, .string nm, .slice a n c] 151) ∧ n ≤ c ∧ c ≤ 9223372036854775807 ∧ ((1 ≤ v ∧ v ≤ 6 ∧ vs = [v] ∧ n = 0) ∨ (v = 0 ∧ ∃ ks : List (Value × List Int), ks.length = n ∧ n ≤ 5 ∧ RS S w a (ks.map (·.1)) ∧ (∀ k ∈ ks, TP S w d k.1 k.2) ∧ vs = (ks.map (·.2)).flatten))
theorem TP.keep {S T : Nat → Prop} {w w' : World} (hk : Kept S w w') (hT : ∀ b, S b → b < w.heap.size → T b) : ∀ (d : Nat) (p : Value) (vs : List Int), TP S w d p vs → TP T w' d p vs
  | 0, _, _, h => h.elim
  | d + 1, cs, vs, h => by
    obtain ⟨b, v, nm, a, n, c, h1, hs, hh, h2, h3, h4⟩ := h
    have hb := (Array.getElem?_eq_some_iff.1 hh).1
    refine ⟨b, v, nm, a, n, c, h1, hT b hs hb, (hk.2 b hs hb).trans hh, h2, h3, ?_⟩
    rcases h4 with h4 | ⟨h5, ks, k1, k2, k3, k4, k5⟩
    · exact .inl h4
    · exact .inr ⟨h5, ks, k1, k2, k3.keep hk hT, fun k hm => TP.keep hk hT d k.1 k.2 (k4 k hm), k5⟩
/-- cells of terms as they are handed in -/
def CRow (B : Nat) (w : World) (a : Option Addr) (l : List Cel) : Prop :=
  ∀ (k : Nat) (c : Cel), l[k]? = some c → ∃ b off, a = some ⟨b, off, none⟩ ∧ b < B ∧ w.cell? ⟨b, off + k * 3, none⟩ = some (.int .i64 c.1) ∧ w.cell? ⟨b, off + k * 3 + 1, none⟩ = some (.string c.2.1) ∧ w.cell? ⟨b, off + k * 3 + 2, none⟩ = some (.int .i64 c.2.2)
theorem CRow.below {B : Nat} {w w' : World} {a : Option Addr} {l : List Cel} (h : CRow B w a l) (hb : Below B w w') : CRow B w' a l := by
  intro k c hk
  obtain ⟨b, off, ha, hl, c0, c1, c2⟩ := h k c hk
  exact ⟨b, off, ha, hl, (hb.cell (p := ⟨b, _, none⟩) hl).trans c0, (hb.cell (p := ⟨b, _, none⟩) hl).trans c1, (hb.cell (p := ⟨b, _, none⟩) hl).trans c2⟩
theorem CRow.tail {B : Nat} {w : World} {b off : Nat} {c : Cel} {l : List Cel} (h : CRow B w (some ⟨b, off, none⟩) (c :: l)) : CRow B w (some ⟨b, off + 3, none⟩) l := by
  intro k x hk
  obtain ⟨b', off', ha, hl, c0, c1, c2⟩ := h (k + 1) x (by simpa using hk)
  simp only [Option.some.injEq, Addr.mk.injEq, and_true] at ha
  obtain ⟨rfl, rfl⟩ := ha
  have e : off + (k + 1) * 3 = off + 3 + k * 3 := by omega
  rw [e] at c0 c1 c2
  exact ⟨b, off + 3, rfl, hl, c0, c1, c2⟩
theorem CRow.nil {B : Nat} {w : World} (a : Option Addr) : CRow B w a [] := by intro k c h; simp at h
theorem cr_of {B : Nat} {w : World} {a : Option Addr} {n cap : Nat} {l : List Cel} (h : kCellS.rd B w [.slice a n cap] l) : CRow B w a l ∧ n = l.length ∧ l.length ≤ cap ∧ cap ≤ 9223372036854775807 ∧ ∀ c ∈ l, (Lit.int .i64 c.1).wf = true ∧ c.2.1.size ≤ maxLen ∧ (Lit.int .i64 c.2.2).wf = true := by
  obtain ⟨h1, h2, h3⟩ := sl_len h
  refine ⟨?_, h1, h2, h3, ?_⟩
  · intro k c hk
    obtain ⟨v, b, off, hv, ha, hb, hcell⟩ := sl_at kCell_ok (n := 3) rfl (by decide) h hk
    have hr := Cell_rd hv
    obtain ⟨rfl, _⟩ := hr
    exact ⟨b, off, ha, hb, by have := hcell 0 _ rfl; simpa [Nat.add_assoc] using this, by have := hcell 1 _ rfl; simpa [Nat.add_assoc] using this, by have := hcell 2 _ rfl; simpa [Nat.add_assoc] using this⟩
  · intro c hc
    obtain ⟨k, hk, rfl⟩ := List.getElem_of_mem hc
    obtain ⟨v, b, off, hv, ha, hb, hcell⟩ := sl_at kCell_ok (n := 3) rfl (by decide) h (List.getElem?_eq_getElem hk)
    obtain ⟨_, r1, r2, r3⟩ := Cell_rd hv
    exact ⟨r1, r2, r3⟩
end Go.Proofs.Ytlmgckijbamgpaa
