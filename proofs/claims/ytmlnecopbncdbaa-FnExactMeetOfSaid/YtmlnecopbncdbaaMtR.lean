/- What both of two types tell: the reference's result while it is made. -/
import Derived.Test.YtmlnecopbncdbaaMtQ
import Derived.Test.YtmlnecopbncdbaaTyI
namespace Go.Proofs.Ytmlnecopbncdbaa
set_option linter.unusedVariables false
set_option linter.unusedSimpArgs false
open Go.ChangeShapes Go.WideShapes Go.ChangeAt Go.RowKit
set_option maxRecDepth 100000

theorem putNo_len (l : List Tr) (x : Tr) : (putNo l x).length = l.length + 1 := (putNo_perm l x).length_eq.trans (List.length_cons)
/-- the world behind the six stores of a type -/
def set6 (w : World) (X : Nat) (p0 p1 p2 p3 p4 p5 : Value) : World := (((((w.setCell ⟨X, 0, none⟩ p0).setCell ⟨X, 1, none⟩ p1).setCell ⟨X, 2, none⟩ p2).setCell ⟨X, 3, none⟩ p3).setCell ⟨X, 4, none⟩ p4).setCell ⟨X, 5, none⟩ p5
theorem set6_heap {w : World} {X : Nat} {a b c d e f : Value} {T : TypeId} (h : w.heap[X]? = some (.cells #[a, b, c, d, e, f] T)) (p0 p1 p2 p3 p4 p5 : Value) : (set6 w X p0 p1 p2 p3 p4 p5).heap[X]? = some (.cells #[p0, p1, p2, p3, p4, p5] T) :=
  box6_t5 (box6_t4 (box6_t3 (box6_t2 (box6_t1 (box6_t0 h p0) p1) p2) p3) p4) p5
theorem set6_own {w : World} {base : Nat} {e : TypeId} {size : Nat} {v : Value} {n : Nat} {xs : List Value} (h : w.ownsRow base e size v n xs) {X : Nat} (hX : X < base) (p0 p1 p2 p3 p4 p5 : Value) : (set6 w X p0 p1 p2 p3 p4 p5).ownsRow base e size v n xs :=
  ownsRow_setCell_below (ownsRow_setCell_below (ownsRow_setCell_below (ownsRow_setCell_below (ownsRow_setCell_below (ownsRow_setCell_below h (a := ⟨X, 0, none⟩) hX p0) (a := ⟨X, 1, none⟩) hX p1) (a := ⟨X, 2, none⟩) hX p2) (a := ⟨X, 3, none⟩) hX p3) (a := ⟨X, 4, none⟩) hX p4) (a := ⟨X, 5, none⟩) hX p5
theorem set6_wrote (b : World) (X : Nat) (p0 p1 p2 p3 p4 p5 : Value) : Wrote (fun k => k = X) b (set6 b X p0 p1 p2 p3 p4 p5) := wrote_self6 b X p0 p1 p2 p3 p4 p5
theorem set6_size (b : World) (X : Nat) (p0 p1 p2 p3 p4 p5 : Value) : b.heap.size ≤ (set6 b X p0 p1 p2 p3 p4 p5).heap.size := (set6_wrote b X p0 p1 p2 p3 p4 p5).size
/-- the blocks that the reference's tree may lie in: those of the arguments, and new ones beside the two boxes that are written -/
def mrS (S : Nat → Prop) (n X Y : Nat) (q : Nat) : Prop := (S q ∧ q < n) ∨ (n ≤ q ∧ ¬ q = X ∧ ¬ q = Y)
structure OutAt (S1 : Nat → Prop) (X base : Nat) (w0 : World) (k : Int) (nm : ByteArray) (no : Int) (m : Bool) (mo : Int) (L : List Tr) (v : Value) (vss : List (List Value)) (wr : World) : Prop where
  cells : wr.heap[X]? = some (.cells #[.int .i64 k, .string nm, .int .i64 no, .bool m, .int .i64 mo, v] 59)
  own : wr.ownsRow base 59 6 v L.length (List.flatten vss)
  kss : KSs S1 wr L vss
  nil : L = [] → v = .slice none 0 0
  wrote : Wrote (fun q => q = X) w0 wr
  lt : X < base
  le : base ≤ w0.heap.size
theorem OutAt.size {S1 : Nat → Prop} {X base : Nat} {w0 : World} {k : Int} {nm : ByteArray} {no : Int} {m : Bool} {mo : Int} {L : List Tr} {v : Value} {vss : List (List Value)} {wr : World} (h : OutAt S1 X base w0 k nm no m mo L v vss wr) : w0.heap.size ≤ wr.heap.size := h.wrote.size
theorem OutAt.later {S1 : Nat → Prop} {X base : Nat} {w0 : World} {k : Int} {nm : ByteArray} {no : Int} {m : Bool} {mo : Int} {L : List Tr} {v : Value} {vss : List (List Value)} {wr wq : World} (h : OutAt S1 X base w0 k nm no m mo L v vss wr) (hb : Below wr.heap.size wr wq) : OutAt S1 X base w0 k nm no m mo L v vss wq :=
  ⟨hp_later hb h.cells, own_later h.own hb, KSs.keep (kept_below hb) (fun _ h _ => h) _ _ h.kss, h.nil, h.wrote.trans (Wrote.of_below hb), h.lt, h.le⟩
theorem OutAt.put {S1 : Nat → Prop} {X base : Nat} {w0 : World} {k : Int} {nm : ByteArray} {no : Int} {m : Bool} {mo : Int} {L : List Tr} {v : Value} {vss : List (List Value)} {wq wp : World} (h : OutAt S1 X base w0 k nm no m mo L v vss wq) (hb : Below wq.heap.size wq wp) {x : Tr} {v' : Value} {vss' : List (List Value)} (ho : wp.ownsRow wq.heap.size 59 6 v' (L.length + 1) (List.flatten vss')) (hk : KSs S1 wp (putNo L x) vss') (hS : ¬ S1 X) :
    OutAt S1 X base w0 k nm no m mo (putNo L x) v' vss' (set6 wp X (.int .i64 k) (.string nm) (.int .i64 no) (.bool m) (.int .i64 mo) v') := by
  have hz := h.size
  have hle := h.le
  refine ⟨set6_heap (hp_later hb h.cells) _ _ _ _ _ _, ?_, ?_, ?_, ?_, h.lt, h.le⟩
  · rw [putNo_len]
    exact set6_own (own_mono ho (by omega)) h.lt _ _ _ _ _ _
  · exact KSs.keep (kept_set6 (Kept.refl S1 wp) hS _ _ _ _ _ _) (fun _ h _ => h) _ _ hk
  · intro e
    have := putNo_len L x
    rw [e] at this
    simp at this
  · exact (h.wrote.trans (Wrote.of_below hb)).trans (set6_wrote wp X _ _ _ _ _ _)
theorem OutAt.form {S1 : Nat → Prop} {X base : Nat} {w0 : World} {k : Int} {nm : ByteArray} {no : Int} {m : Bool} {mo : Int} {L : List Tr} {v : Value} {vss : List (List Value)} {wr : World} (h : OutAt S1 X base w0 k nm no m mo L v vss wr) : ∃ a c, v = .slice a L.length c := form_of_own h.own
/-- putting a part into the result -/
theorem out_put {S1 : Nat → Prop} {X base : Nat} {w0 : World} {k : Int} {nm : ByteArray} {no : Int} {m : Bool} {mo : Int} {L : List Tr} {v : Value} {vss : List (List Value)} {wq : World} (h : OutAt S1 X base w0 k nm no m mo L v vss wq) (hS : ¬ S1 X) (hl : L.length ≤ 1048576) {x : Tr} {px : List Value} (hx : KS S1 wq x px) :
    Calls Try.prog 66 #[.agg #[.int .i64 k, .string nm, .int .i64 no, .bool m, .int .i64 mo, v], .agg px.toArray] wq fun e wp => ∃ a c vss', e = .returned (.agg #[.int .i64 k, .string nm, .int .i64 no, .bool m, .int .i64 mo, .slice a (L.length + 1) c]) ∧ Below wq.heap.size wq wp ∧ OutAt S1 X base w0 k nm no m mo (putNo L x) (.slice a (L.length + 1) c) vss' (set6 wp X (.int .i64 k) (.string nm) (.int .i64 no) (.bool m) (.int .i64 mo) (.slice a (L.length + 1) c)) := by
  have hput : Calls Try.prog 66 #[.agg #[.int .i64 k, .string nm, .int .i64 no, .bool m, .int .i64 mo, v], .agg px.toArray] wq (PutO S1 k nm no m mo L x wq) := by
    by_cases hL : L = []
    · have hv := h.nil hL
      rw [hv, hL]
      exact spec_put_nil k nm no m mo hx
    · rcases h.own.2 with ⟨-, h0⟩ | ⟨g, cap, cur, hv, -⟩
      · exact absurd (List.length_eq_zero_iff.1 h0) hL
      · have ho := h.own
        rw [hv] at ho ⊢
        exact spec_put_own k nm no m mo ho h.kss hl (List.length_pos_iff.2 hL) hx
  refine hput.mono ?_
  rintro e wp ⟨v', vss', rfl, hb, ho, hk⟩
  obtain ⟨a, c, rfl⟩ := form_of_own ho
  exact ⟨a, c, vss', rfl, hb, h.put hb ho hk hS⟩
theorem mrS_X {S : Nat → Prop} {n X Y : Nat} (hX : n ≤ X) : ¬ mrS S n X Y X := by
  rintro (⟨_, h⟩ | ⟨_, h, _⟩)
  · omega
  · exact h rfl
theorem mrS_Y {S : Nat → Prop} {n X Y : Nat} (hY : n ≤ Y) : ¬ mrS S n X Y Y := by
  rintro (⟨_, h⟩ | ⟨_, _, h⟩)
  · omega
  · exact h rfl
/-- what is told of both, by value -/
theorem OutAt.done {S : Nat → Prop} {n X Y base : Nat} {w0 : World} {k : Int} {nm : ByteArray} {no : Int} {m : Bool} {mo : Int} {L : List Tr} {a : Option Addr} {ln c : Nat} {vss : List (List Value)} {wr : World} (h : OutAt (mrS S n X Y) X base w0 k nm no m mo L (.slice a ln c) vss wr) (hn : nm.size ≤ maxLen) (hY : n ≤ Y) (hb : n ≤ base) (hYb : Y < base) (hX : X < base) :
    KS (fun q => S q ∨ n ≤ q) (set6 wr Y (.int .i64 k) (.string nm) (.int .i64 no) (.bool m) (.int .i64 mo) (.slice a ln c)) (.node k nm no m mo L) [.int .i64 k, .string nm, .int .i64 no, .bool m, .int .i64 mo, .slice a ln c] := by
  obtain ⟨a', c', hv⟩ := h.form
  simp only [Value.slice.injEq] at hv
  obtain ⟨rfl, rfl, rfl⟩ := hv
  have hcap := own_cap h.own
  have hkp := kept_set6 (Kept.refl (mrS S n X Y) wr) (mrS_Y hY) (.int .i64 k) (.string nm) (.int .i64 no) (.bool m) (.int .i64 mo) (.slice a L.length c)
  have hto : ∀ q, mrS S n X Y q → q < wr.heap.size → S q ∨ n ≤ q := fun q hq _ => by
    rcases hq with ⟨h1, _⟩ | ⟨h1, _⟩
    · exact .inl h1
    · exact .inr h1
  rw [KS]
  refine ⟨a, c, vss, rfl, hn, hcap.1, hcap.2, ?_, KSs.keep hkp hto _ _ h.kss⟩
  exact (RS.own (S := mrS S n X Y) h.own (fun g hg => .inr (by have := (h.own.lt g hg).1; exact ⟨by omega, by omega, by omega⟩))).keep hkp hto
end Go.Proofs.Ytmlnecopbncdbaa
