/- What both of two types tell: the program's result while it is made. -/
import Derived.Test.YtmlnecopbncdbaaMtY
import Derived.Test.YtmlnecopbncdbaaMtR
namespace Go.Proofs.Ytmlnecopbncdbaa
set_option linter.unusedVariables false
set_option linter.unusedSimpArgs false
open Go.ChangeShapes Go.WideShapes Go.ChangeAt Go.RowKit
set_option maxRecDepth 100000

/-- the blocks that the program's tree may lie in -/
def mpS (S : Nat → Prop) (n X : Nat) (q : Nat) : Prop := (S q ∧ q < n) ∨ (n ≤ q ∧ ¬ q = X)
theorem mpS_X {S : Nat → Prop} {n X : Nat} (hX : n ≤ X) : ¬ mpS S n X X := by
  rintro (⟨_, h⟩ | ⟨_, h⟩)
  · omega
  · exact h rfl
structure OutP (S1 : Nat → Prop) (X base : Nat) (w0 : World) (k : Int) (nm : ByteArray) (no : Int) (m : Bool) (mo : Int) (L : List Tr) (v : Value) (vs : List Value) (wr : World) : Prop where
  cells : wr.heap[X]? = some (.cells #[.int .i64 k, .string nm, .int .i64 no, .bool m, .int .i64 mo, v] 103)
  own : wr.ownsRow base 65 1 v L.length vs
  kps : KPs (fun q => S1 q ∧ v.ownBlock ≠ some q) wr L vs
  wrote : Wrote (fun q => q = X) w0 wr
  lt : X < base
  le : base ≤ w0.heap.size
  ge : w0.heap.size ≤ base
theorem OutP.size {S1 : Nat → Prop} {X base : Nat} {w0 : World} {k : Int} {nm : ByteArray} {no : Int} {m : Bool} {mo : Int} {L : List Tr} {v : Value} {vs : List Value} {wr : World} (h : OutP S1 X base w0 k nm no m mo L v vs wr) : w0.heap.size ≤ wr.heap.size := h.wrote.size
theorem OutP.later {S1 : Nat → Prop} {X base : Nat} {w0 : World} {k : Int} {nm : ByteArray} {no : Int} {m : Bool} {mo : Int} {L : List Tr} {v : Value} {vs : List Value} {wr wq : World} (h : OutP S1 X base w0 k nm no m mo L v vs wr) (hb : Below wr.heap.size wr wq) : OutP S1 X base w0 k nm no m mo L v vs wq :=
  ⟨hp_later hb h.cells, own_later h.own hb, KPs.keep (kept_below hb) (fun _ h _ => h) _ _ h.kps, h.wrote.trans (Wrote.of_below hb), h.lt, h.le, h.ge⟩
theorem OutP.app {S1 : Nat → Prop} {X base : Nat} {w0 : World} {k : Int} {nm : ByteArray} {no : Int} {m : Bool} {mo : Int} {L : List Tr} {v : Value} {vs : List Value} {wq w8 : World} {t : Tr} {pb g cp : Nat} (h : OutP S1 X base w0 k nm no m mo L v vs wq) (hp : KP (fun q => S1 q ∧ v.ownBlock ≠ some q) wq t (.pointer (some ⟨pb, 0, none⟩)))
    (hown : w8.ownsRow base 65 1 (.slice (some ⟨g, 0, none⟩) (L.length + 1) cp) (L.length + 1) (vs ++ [.pointer (some ⟨pb, 0, none⟩)])) (hgrow : (wq.alloc (.cells #[.pointer (some ⟨pb, 0, none⟩)] 65)).grownBy w8 v.ownBlock) (hat : v.ownBlock = some g ∨ g = wq.heap.size + 1) (hS : ¬ S1 X) :
    OutP S1 X base w0 k nm no m mo (L ++ [t]) (.slice (some ⟨g, 0, none⟩) (L.length + 1) cp) (vs ++ [.pointer (some ⟨pb, 0, none⟩)]) (w8.setCell ⟨X, 5, none⟩ (.slice (some ⟨g, 0, none⟩) (L.length + 1) cp)) ∧ w8.heap[X]? = some (.cells #[.int .i64 k, .string nm, .int .i64 no, .bool m, .int .i64 mo, v] 103) := by
  have hlt := h.lt
  have hle := h.le
  have hge := h.ge
  have hz := h.size
  have hnX : v.ownBlock ≠ some X := tag_at h.own hlt
  have hX8 := hp_grown hgrow (hp_alloc (.cells #[.pointer (some ⟨pb, 0, none⟩)] 65) h.cells) hnX
  have hkp := kept_set (kept_grown (kept_alloc (Kept.refl (fun q => S1 q ∧ v.ownBlock ≠ some q) wq) (.cells #[.pointer (some ⟨pb, 0, none⟩)] 65)) hgrow (fun k hk _ => hk.2)) (X := X) (fun hs => hS hs.1) 5 (.slice (some ⟨g, 0, none⟩) (L.length + 1) cp)
  have hto : ∀ x, (S1 x ∧ v.ownBlock ≠ some x) → x < wq.heap.size → (S1 x ∧ (Value.slice (some ⟨g, 0, none⟩) (L.length + 1) cp).ownBlock ≠ some x) := fun x hx hl => ⟨hx.1, fun e => by
    simp only [Value.ownBlock, Option.some.injEq] at e
    rcases hat with h | h
    · exact hx.2 (by rw [h, e])
    · omega⟩
  refine ⟨⟨box6_t5 hX8 _, ?_, ?_, ?_, hlt, hle, hge⟩, hX8⟩
  · rw [List.length_append]
    exact ownsRow_setCell_below hown (a := ⟨X, 5, none⟩) hlt _
  · exact KPs.put (KP.keep hkp hto _ _ hp) (KPs.keep hkp hto _ _ h.kps)
  · refine Wrote.setCell (wrote_grown (h.wrote.trans (Wrote.of_below ((Below.refl wq.heap.size wq).alloc (Nat.le_refl _) _))) hgrow (fun k hk => ?_)) (p := ⟨X, 5, none⟩) rfl _
    have := (h.own.lt k hk).1
    omega
theorem OutP.form {S1 : Nat → Prop} {X base : Nat} {w0 : World} {k : Int} {nm : ByteArray} {no : Int} {m : Bool} {mo : Int} {L : List Tr} {v : Value} {vs : List Value} {wr : World} (h : OutP S1 X base w0 k nm no m mo L v vs wr) : ∃ a c, v = .slice a L.length c := form_of_own h.own
/-- what is told of both, by pointer, behind the order -/
theorem OutP.done {S : Nat → Prop} {n X base : Nat} {w0 : World} {k : Int} {nm : ByteArray} {no : Int} {m : Bool} {mo : Int} {L us : List Tr} {a : Option Addr} {ln c : Nat} {vs vs' : List Value} {wr w' : World} (h : OutP (mpS S n X) X base w0 k nm no m mo L (.slice a ln c) vs wr) (hn : nm.size ≤ maxLen) (hX : n ≤ X) (hb : n ≤ base) (hus : us.length = L.length)
    (ho : w'.ownsRow base 65 1 (.slice a ln c) L.length vs') (hk : KPs (fun q => mpS S n X q ∧ (Value.slice a ln c).ownBlock ≠ some q) w' us vs') (hg : wr.grownBy w' (Value.slice a ln c).ownBlock) :
    KP (fun q => S q ∨ n ≤ q) w' (.node k nm no m mo us) (.pointer (some ⟨X, 0, none⟩)) := by
  obtain ⟨a', c', hv⟩ := h.form
  simp only [Value.slice.injEq] at hv
  obtain ⟨rfl, rfl, rfl⟩ := hv
  have hcap := own_cap ho
  have hnX : (Value.slice a L.length c).ownBlock ≠ some X := tag_at h.own h.lt
  rw [KP]
  refine ⟨X, a, c, vs', rfl, .inr hX, ?_, hn, by rw [hus]; exact hcap.1, hcap.2, RS.own (S := fun q => S q ∨ n ≤ q) ho (fun g hg => .inr (by have := (ho.lt g hg).1; omega)), KPs.keep (Kept.refl _ _) (fun q hq _ => ?_) _ _ hk⟩
  · rw [hus]; exact hp_grown hg h.cells hnX
  · rcases hq.1 with ⟨h1, _⟩ | ⟨h1, _⟩
    · exact .inl h1
    · exact .inr h1
end Go.Proofs.Ytmlnecopbncdbaa
