/- Schemas in plain Lean: rows of types, trees, when a row is the row of a tree. No program in sight. -/
import Derived.Test.YtmlnecopbncdbaaRows
namespace Go.Proofs.Ytmlnecopbncdbaa
set_option linter.unusedVariables false
set_option linter.unusedSimpArgs false
set_option maxRecDepth 100000

structure Ty where
  kind : Int
  name : ByteArray
  no : Int
  must : Bool
  up : Int
  most : Int
/-- a type as a tree -/
inductive Tr where
  | node (kind : Int) (name : ByteArray) (no : Int) (must : Bool) (most : Int) (kids : List Tr)
def Tr.kind : Tr → Int | .node k _ _ _ _ _ => k
def Tr.name : Tr → ByteArray | .node _ n _ _ _ _ => n
def Tr.no : Tr → Int | .node _ _ n _ _ _ => n
def Tr.must : Tr → Bool | .node _ _ _ m _ _ => m
def Tr.most : Tr → Int | .node _ _ _ _ m _ => m
def Tr.kids : Tr → List Tr | .node _ _ _ _ _ l => l
def holdsK (k : Int) : Bool := decide (k = 4 ∨ k = 5)
def trOf (x : Ty) (ks : List Tr) : Tr := .node x.kind x.name x.no x.must x.most ks
/-- from s on lie the parts of p, one behind the other, as far as e -/
inductive Seg (L : List Ty) : Nat → Nat → List Tr → Nat → Prop
  | nil {p s : Nat} : (∀ x, L[s]? = some x → ¬ x.up = (p : Int)) → Seg L p s [] s
  | cons {p s m e : Nat} {x : Ty} {ks ts : List Tr} : L[s]? = some x → x.up = (p : Int) → (holdsK x.kind = true → Seg L s (s + 1) ks m) → (holdsK x.kind = false → ks = [] ∧ m = s + 1) → Seg L p m ts e → Seg L p s (trOf x ks :: ts) e
/-- the type at a place, with all that it holds, as a tree, and where that ends -/
def PTree (L : List Ty) (i : Nat) (t : Tr) (e : Nat) : Prop := ∃ x ks, L[i]? = some x ∧ t = trOf x ks ∧ (holdsK x.kind = true → Seg L i (i + 1) ks e) ∧ (holdsK x.kind = false → ks = [] ∧ e = i + 1)
theorem Seg.le {L : List Ty} {p s e : Nat} {ts : List Tr} (h : Seg L p s ts e) : s ≤ e := by
  induction h with
  | nil _ => exact Nat.le_refl _
  | cons hx hu hy hn hr ih1 ih2 =>
    rename_i p s m e x ks ts
    cases hb : holdsK x.kind with
    | true => have := ih1 hb; omega
    | false => have := (hn hb).2; omega
theorem Seg.mid {L : List Ty} {s m : Nat} {x : Ty} {ks : List Tr} (hy : holdsK x.kind = true → Seg L s (s + 1) ks m) (hn : holdsK x.kind = false → ks = [] ∧ m = s + 1) : s + 1 ≤ m := by
  cases hb : holdsK x.kind with
  | true => exact (hy hb).le
  | false => have := (hn hb).2; omega
theorem Seg.len {L : List Ty} {p s e : Nat} {ts : List Tr} (h : Seg L p s ts e) (hs : s ≤ L.length) : e ≤ L.length := by
  induction h with
  | nil _ => exact hs
  | cons hx hu hy hn hr ih1 ih2 =>
    rename_i p s m e x ks ts
    have hl := (List.getElem?_eq_some_iff.1 hx).1
    refine ih2 ?_
    cases hb : holdsK x.kind with
    | true => exact ih1 hb (by omega)
    | false => have := (hn hb).2; omega
/-- what lies between has its place there, too -/
theorem Seg.up {L : List Ty} {p s e : Nat} {ts : List Tr} (h : Seg L p s ts e) (hps : p < s) : ∀ i x, s ≤ i → i < e → L[i]? = some x → (p : Int) ≤ x.up ∧ x.up < (i : Int) ∧ (x.up = (p : Int) ∨ (s : Int) ≤ x.up) := by
  induction h with
  | nil _ => intro i x h1 h2; omega
  | cons hx hu hy hn hr ih1 ih2 =>
    rename_i p s m e y ks ts
    have hm := Seg.mid hy hn
    intro i x h1 h2 hix
    by_cases e1 : i = s
    · subst e1
      rw [hx] at hix; cases hix
      rw [hu]; exact ⟨by omega, by omega, .inl rfl⟩
    · by_cases e2 : i < m
      · cases hb : holdsK y.kind with
        | true =>
          have := ih1 hb (by omega) i x (by omega) e2 hix
          exact ⟨by omega, by omega, .inr (by omega)⟩
        | false => have := (hn hb).2; omega
      · have := ih2 (by omega) i x (by omega) h2 hix
        exact ⟨by omega, by omega, by omega⟩
/-- at the end no more part follows -/
theorem Seg.stop {L : List Ty} {p s e : Nat} {ts : List Tr} (h : Seg L p s ts e) : ∀ x, L[e]? = some x → ¬ x.up = (p : Int) := by
  induction h with
  | nil h => exact h
  | cons _ _ _ _ _ _ ih2 => exact ih2
/-- an ancestor, or the place itself -/
inductive Anc (L : List Ty) : Nat → Nat → Prop
  | refl {i : Nat} : Anc L i i
  | step {i j q : Nat} {x : Ty} : L[i]? = some x → x.up = (j : Int) → j < i → Anc L j q → Anc L i q
theorem Anc.le {L : List Ty} {i q : Nat} (h : Anc L i q) : q ≤ i := by
  induction h with
  | refl => exact Nat.le_refl _
  | step _ _ hj _ ih => omega
/-- behind the end nothing more belongs to those that end there -/
theorem Seg.tail {L : List Ty} {p s e : Nat} {ts : List Tr} (h : Seg L p s ts e) (hps : p < s) : ∀ q, s ≤ q → Anc L (e - 1) q → q < e → ∀ x y, L[e]? = some x → L[q]? = some y → holdsK y.kind = true → ¬ x.up = (q : Int) := by
  induction h with
  | nil _ => intro q h1 _ h2; omega
  | cons hx hu hy hn hr ih1 ih2 =>
    rename_i p s m e x0 ks ts
    have hm := Seg.mid hy hn
    have hme := hr.le
    intro q h1 ha h2 x y hxe hyq hyk
    by_cases hqm : m ≤ q
    · exact ih2 (by omega) q hqm ha h2 x y hxe hyq hyk
    · -- q lies in the first part: then e = m, else the way up from e - 1 does not come to q
      by_cases hem : e = m
      · subst hem
        by_cases hqs : q = s
        · subst hqs
          rw [hx] at hyq; cases hyq
          have hseg := hy hyk
          -- the end of the parts of q
          intro hup
          exact hseg.stop _ hxe hup
        · cases hb : holdsK x0.kind with
          | true => exact ih1 hb (by omega) q (by omega) ha (by omega) x y hxe hyq hyk
          | false => have := (hn hb).2; omega
      · exfalso
        -- from e - 1 ≥ m all ways up stay from m on, or go to p
        have key : ∀ i q, Anc L i q → m ≤ i → i < e → m ≤ q ∨ q ≤ p := by
          intro i q ha
          induction ha with
          | refl => intro h1 _; exact .inl h1
          | step hz hzu hzj ha' ih =>
            rename_i i j q z
            intro h1 h2
            have := hr.up (by omega) i z h1 h2 hz
            rw [hzu] at this
            rcases this.2.2 with h3 | h3
            · have : j = p := by omega
              subst this
              exact .inr ha'.le
            · exact ih (by omega) (by omega)
        have := key (e - 1) q ha (by omega) (by omega)
        omega
end Go.Proofs.Ytmlnecopbncdbaa
