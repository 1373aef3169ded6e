/- How schemas and their trees lie in memory. -/
import Derived.Test.YtmlnecopbncdbaaTyL
import Derived.Test.YtmlnecopbncdbaaMem
namespace Go.Proofs.Ytmlnecopbncdbaa
set_option linter.unusedVariables false
set_option linter.unusedSimpArgs false
open Go.ChangeShapes Go.WideShapes Go.ChangeAt Go.RowKit
set_option maxRecDepth 100000

/-! ### rows of types -/
def tyv (w : Ty) : List Value := [.int .i64 w.kind, .string w.name, .int .i64 w.no, .bool w.must, .int .i64 w.up, .int .i64 w.most]
def tysV (l : List Ty) : List Value := (l.map tyv).flatten
theorem tysV_cons (f : Ty) (l : List Ty) : tysV (f :: l) = .int .i64 f.kind :: .string f.name :: .int .i64 f.no :: .bool f.must :: .int .i64 f.up :: .int .i64 f.most :: tysV l := rfl
theorem tysV_append (a b : List Ty) : tysV (a ++ b) = tysV a ++ tysV b := by simp [tysV]
theorem tysV_snoc (l : List Ty) (f : Ty) : tysV (l ++ [f]) = tysV l ++ [.int .i64 f.kind, .string f.name, .int .i64 f.no, .bool f.must, .int .i64 f.up, .int .i64 f.most] := by simp [tysV, tyv]
theorem tysV_len : ∀ (l : List Ty), (tysV l).length = l.length * 6
  | [] => rfl
  | f :: r => by rw [tysV_cons]; simp only [List.length_cons]; rw [tysV_len r]; omega
theorem tysV_ne {l : List Ty} {k : Nat} (h : k < l.length) : tysV l ≠ [] := by
  intro e; have := congrArg List.length e; rw [tysV_len] at this; simp at this; omega
theorem tysV_at : ∀ (l : List Ty) (i : Nat) (f : Ty), l[i]? = some f → (tysV l)[i * 6]? = some (.int .i64 f.kind) ∧ (tysV l)[i * 6 + 1]? = some (.string f.name) ∧ (tysV l)[i * 6 + 2]? = some (.int .i64 f.no) ∧ (tysV l)[i * 6 + 3]? = some (.bool f.must) ∧ (tysV l)[i * 6 + 4]? = some (.int .i64 f.up) ∧ (tysV l)[i * 6 + 5]? = some (.int .i64 f.most)
  | [], i, f, h => by simp at h
  | x :: r, 0, f, h => by simp at h; subst h; exact ⟨rfl, rfl, rfl, rfl, rfl, rfl⟩
  | x :: r, i + 1, f, h => by
    have := tysV_at r i f (by simpa using h)
    rw [tysV_cons]
    have e : ∀ j, (i + 1) * 6 + j = i * 6 + j + 1 + 1 + 1 + 1 + 1 + 1 := fun j => by omega
    refine ⟨?_, ?_, ?_, ?_, ?_, ?_⟩
    · rw [show (i + 1) * 6 = i * 6 + 1 + 1 + 1 + 1 + 1 + 1 by omega]; simpa using this.1
    · rw [e 1]; simpa using this.2.1
    · rw [e 2]; simpa using this.2.2.1
    · rw [e 3]; simpa using this.2.2.2.1
    · rw [e 4]; simpa using this.2.2.2.2.1
    · rw [e 5]; simpa using this.2.2.2.2.2
theorem tysV_set : ∀ (l : List Ty) (k : Nat) (f : Ty), k < l.length → ((((((tysV l).set (k * 6) (.int .i64 f.kind)).set (k * 6 + 1) (.string f.name)).set (k * 6 + 2) (.int .i64 f.no)).set (k * 6 + 3) (.bool f.must)).set (k * 6 + 4) (.int .i64 f.up)).set (k * 6 + 5) (.int .i64 f.most) = tysV (l.set k f)
  | [], k, f, h => by simp at h
  | x :: r, 0, f, h => rfl
  | x :: r, k + 1, f, h => by
    have := tysV_set r k f (by simpa using h)
    rw [List.set_cons_succ, tysV_cons, tysV_cons, ← this]
    rw [show (k + 1) * 6 = k * 6 + 1 + 1 + 1 + 1 + 1 + 1 by omega]
    simp only [List.set_cons_succ, Nat.add_assoc]
theorem tysV_oc (l : List Ty) : ∀ u ∈ tysV l, u.oneCell' = true := by
  intro u hu
  unfold tysV tyv at hu
  rw [List.mem_flatten] at hu
  obtain ⟨x, hx, hu⟩ := hu
  obtain ⟨f, _, rfl⟩ := List.mem_map.1 hx
  simp only [List.mem_cons, List.not_mem_nil, or_false] at hu
  rcases hu with rfl | rfl | rfl | rfl | rfl | rfl <;> rfl

theorem tys_cells {B : Nat} {w : World} {a : Option Addr} {L : List Ty} {k : Nat} {x : Ty} (h : Rb B w a (tysV L)) (hk : L[k]? = some x) : ∃ b off, a = some ⟨b, off, none⟩ ∧ b < B ∧ w.cell? ⟨b, off + k * 6, none⟩ = some (.int .i64 x.kind) ∧ w.cell? ⟨b, off + k * 6 + 1, none⟩ = some (.string x.name) ∧ w.cell? ⟨b, off + k * 6 + 2, none⟩ = some (.int .i64 x.no) ∧ w.cell? ⟨b, off + k * 6 + 3, none⟩ = some (.bool x.must) ∧ w.cell? ⟨b, off + k * 6 + 4, none⟩ = some (.int .i64 x.up) ∧ w.cell? ⟨b, off + k * 6 + 5, none⟩ = some (.int .i64 x.most) := by
  have hl := (List.getElem?_eq_some_iff.1 hk).1
  obtain ⟨b, off, rfl, hb, hc⟩ := h.at (tysV_ne hl)
  obtain ⟨a0, a1, a2, a3, a4, a5⟩ := tysV_at L k x hk
  refine ⟨b, off, rfl, hb, hc _ _ a0, ?_, ?_, ?_, ?_, ?_⟩
  · rw [Nat.add_assoc]; exact hc _ _ a1
  · rw [Nat.add_assoc]; exact hc _ _ a2
  · rw [Nat.add_assoc]; exact hc _ _ a3
  · rw [Nat.add_assoc]; exact hc _ _ a4
  · rw [Nat.add_assoc]; exact hc _ _ a5
-- the program's tree, by its pointer
mutual
def KP (S : Nat → Prop) (w : World) : Tr → Value → Prop
  | .node k nm no m mo ks, p => ∃ b a c vs, p = .pointer (some ⟨b, 0, none⟩) ∧ S b ∧ w.heap[b]? = some (.cells #[.int .i64 k, .string nm, .int .i64 no, .bool m, .int .i64 mo, .slice a ks.length c] 103) ∧ nm.size ≤ maxLen ∧ ks.length ≤ c ∧ c ≤ 9223372036854775807 ∧ RS S w a vs ∧ KPs S w ks vs
def KPs (S : Nat → Prop) (w : World) : List Tr → List Value → Prop
  | [], vs => vs = []
  | t :: r, vs => ∃ v us, vs = v :: us ∧ KP S w t v ∧ KPs S w r us
end
mutual
theorem KP.keep {S T : Nat → Prop} {w w' : World} (hk : Kept S w w') (hT : ∀ b, S b → b < w.heap.size → T b) : ∀ (t : Tr) (p : Value), KP S w t p → KP T w' t p
  | .node k nm no m mo ks, p, h => by
    rw [KP] at h ⊢
    obtain ⟨b, a, c, vs, h1, h2, h3, hn, h4, h5, h6, h7⟩ := h
    have hb := (Array.getElem?_eq_some_iff.1 h3).1
    exact ⟨b, a, c, vs, h1, hT b h2 hb, (hk.2 b h2 hb).trans h3, hn, h4, h5, h6.keep hk hT, KPs.keep hk hT ks vs h7⟩
theorem KPs.keep {S T : Nat → Prop} {w w' : World} (hk : Kept S w w') (hT : ∀ b, S b → b < w.heap.size → T b) : ∀ (ts : List Tr) (vs : List Value), KPs S w ts vs → KPs T w' ts vs
  | [], vs, h => by rw [KPs] at h ⊢; exact h
  | t :: r, vs, h => by
    rw [KPs] at h ⊢
    obtain ⟨v, us, h1, h2, h3⟩ := h
    exact ⟨v, us, h1, KP.keep hk hT t v h2, KPs.keep hk hT r us h3⟩
end
theorem KPs.len {S : Nat → Prop} {w : World} : ∀ {ts : List Tr} {vs : List Value}, KPs S w ts vs → vs.length = ts.length
  | [], vs, h => by rw [KPs] at h; rw [h]; rfl
  | t :: r, vs, h => by
    rw [KPs] at h
    obtain ⟨v, us, rfl, -, h3⟩ := h
    simp [KPs.len h3]
theorem KPs.at {S : Nat → Prop} {w : World} : ∀ {ts : List Tr} {vs : List Value} {i : Nat} {t : Tr}, KPs S w ts vs → ts[i]? = some t → ∃ v, vs[i]? = some v ∧ KP S w t v
  | [], vs, i, t, h, ht => by simp at ht
  | x :: r, vs, 0, t, h, ht => by
    rw [KPs] at h
    obtain ⟨v, us, rfl, h2, -⟩ := h
    simp at ht; subst ht
    exact ⟨v, rfl, h2⟩
  | x :: r, vs, i + 1, t, h, ht => by
    rw [KPs] at h
    obtain ⟨v, us, rfl, -, h3⟩ := h
    obtain ⟨u, h4, h5⟩ := KPs.at (i := i) h3 (by simpa using ht)
    exact ⟨u, by simpa using h4, h5⟩
theorem KPs.put {S : Nat → Prop} {w : World} {t : Tr} {v : Value} (hv : KP S w t v) : ∀ {ts : List Tr} {vs : List Value}, KPs S w ts vs → KPs S w (ts ++ [t]) (vs ++ [v])
  | [], vs, h => by
    rw [KPs] at h; subst h
    rw [List.nil_append, List.nil_append, KPs]
    exact ⟨v, [], rfl, hv, by rw [KPs]⟩
  | x :: r, vs, h => by
    rw [KPs] at h
    obtain ⟨u, us, rfl, h2, h3⟩ := h
    rw [List.cons_append, KPs]
    exact ⟨u, us ++ [v], rfl, h2, KPs.put hv h3⟩
theorem KP.ptr {S : Nat → Prop} {w : World} {t : Tr} {p : Value} (h : KP S w t p) : ∃ b, p = .pointer (some ⟨b, 0, none⟩) ∧ S b ∧ b < w.heap.size := by
  match t, h with
  | .node k nm no m mo ks, h =>
    rw [KP] at h
    obtain ⟨b, a, c, vs, h1, h2, h3, -⟩ := h
    exact ⟨b, h1, h2, (Array.getElem?_eq_some_iff.1 h3).1⟩
-- the reference's tree, by value
mutual
def KS (S : Nat → Prop) (w : World) : Tr → List Value → Prop
  | .node k nm no m mo ks, cs => ∃ a c vss, cs = [.int .i64 k, .string nm, .int .i64 no, .bool m, .int .i64 mo, .slice a ks.length c] ∧ nm.size ≤ maxLen ∧ ks.length ≤ c ∧ c ≤ 9223372036854775807 ∧ RS S w a (List.flatten vss) ∧ KSs S w ks vss
def KSs (S : Nat → Prop) (w : World) : List Tr → List (List Value) → Prop
  | [], vs => vs = []
  | t :: r, vs => ∃ v us, vs = v :: us ∧ KS S w t v ∧ KSs S w r us
end
mutual
theorem KS.keep {S T : Nat → Prop} {w w' : World} (hk : Kept S w w') (hT : ∀ b, S b → b < w.heap.size → T b) : ∀ (t : Tr) (p : List Value), KS S w t p → KS T w' t p
  | .node k nm no m mo ks, p, h => by
    rw [KS] at h ⊢
    obtain ⟨a, c, vs, h1, hn, h4, h5, h6, h7⟩ := h
    exact ⟨a, c, vs, h1, hn, h4, h5, h6.keep hk hT, KSs.keep hk hT ks vs h7⟩
theorem KSs.keep {S T : Nat → Prop} {w w' : World} (hk : Kept S w w') (hT : ∀ b, S b → b < w.heap.size → T b) : ∀ (ts : List Tr) (vs : List (List Value)), KSs S w ts vs → KSs T w' ts vs
  | [], vs, h => by rw [KSs] at h ⊢; exact h
  | t :: r, vs, h => by
    rw [KSs] at h ⊢
    obtain ⟨v, us, h1, h2, h3⟩ := h
    exact ⟨v, us, h1, KS.keep hk hT t v h2, KSs.keep hk hT r us h3⟩
end
theorem KS.cells {S : Nat → Prop} {w : World} {t : Tr} {cs : List Value} (h : KS S w t cs) : cs.length = 6 := by
  match t, h with
  | .node k nm no m mo ks, h =>
    rw [KS] at h
    obtain ⟨a, c, vs, rfl, -⟩ := h
    rfl
theorem KSs.len {S : Nat → Prop} {w : World} : ∀ {ts : List Tr} {vs : List (List Value)}, KSs S w ts vs → vs.length = ts.length ∧ ∀ v ∈ vs, v.length = 6
  | [], vs, h => by rw [KSs] at h; rw [h]; simp
  | t :: r, vs, h => by
    rw [KSs] at h
    obtain ⟨v, us, rfl, h2, h3⟩ := h
    have := KSs.len h3
    have h4 := h2.cells
    exact ⟨by simp [this.1], fun x hx => by
      rcases List.mem_cons.1 hx with rfl | hx
      · exact h4
      · exact this.2 x hx⟩
theorem KSs.at {S : Nat → Prop} {w : World} : ∀ {ts : List Tr} {vs : List (List Value)} {i : Nat} {t : Tr}, KSs S w ts vs → ts[i]? = some t → ∃ v, vs[i]? = some v ∧ KS S w t v
  | [], vs, i, t, h, ht => by simp at ht
  | x :: r, vs, 0, t, h, ht => by
    rw [KSs] at h
    obtain ⟨v, us, rfl, h2, -⟩ := h
    simp at ht; subst ht
    exact ⟨v, rfl, h2⟩
  | x :: r, vs, i + 1, t, h, ht => by
    rw [KSs] at h
    obtain ⟨v, us, rfl, -, h3⟩ := h
    obtain ⟨u, h4, h5⟩ := KSs.at (i := i) h3 (by simpa using ht)
    exact ⟨u, by simpa using h4, h5⟩
theorem KSs.put {S : Nat → Prop} {w : World} {t : Tr} {v : List Value} (hv : KS S w t v) : ∀ {ts : List Tr} {vs : List (List Value)}, KSs S w ts vs → KSs S w (ts ++ [t]) (vs ++ [v])
  | [], vs, h => by
    rw [KSs] at h; subst h
    rw [List.nil_append, List.nil_append, KSs]
    exact ⟨v, [], rfl, hv, by rw [KSs]⟩
  | x :: r, vs, h => by
    rw [KSs] at h
    obtain ⟨u, us, rfl, h2, h3⟩ := h
    rw [List.cons_append, KSs]
    exact ⟨u, us ++ [v], rfl, h2, KSs.put hv h3⟩
/-- a place in a row of rows of six -/
theorem flat_six : ∀ (vss : List (List Value)) (i : Nat) (v : List Value) (j : Nat), (∀ v ∈ vss, v.length = 6) → vss[i]? = some v → j < 6 → (List.flatten vss)[i * 6 + j]? = v[j]?
  | [], i, v, j, _, h, _ => by simp at h
  | x :: r, 0, v, j, hl, h, hj => by
    simp at h; subst h
    rw [List.flatten_cons, Nat.zero_mul, Nat.zero_add, List.getElem?_append_left (by rw [hl x (by simp)]; exact hj)]
  | x :: r, i + 1, v, j, hl, h, hj => by
    have hx := hl x (by simp)
    rw [List.flatten_cons, List.getElem?_append_right (by omega), hx, show (i + 1) * 6 + j - 6 = i * 6 + j by omega]
    exact flat_six r i v j (fun v hv => hl v (by simp [hv])) (by simpa using h) hj
theorem flat_len6 : ∀ (vss : List (List Value)), (∀ v ∈ vss, v.length = 6) → (List.flatten vss).length = vss.length * 6
  | [], _ => rfl
  | x :: r, hl => by
    rw [List.flatten_cons, List.length_append, hl x (by simp), flat_len6 r (fun v hv => hl v (by simp [hv])), List.length_cons]
    omega
end Go.Proofs.Ytmlnecopbncdbaa
