/- The contracts of the draws for logs and their proofs: what is handed out is only bounded. -/
import Derived.Test.YtmlnecopbncdbaaCur4
namespace Go.Proofs.Ytmlnecopbncdbaa
set_option linter.unusedVariables false
set_option linter.unusedSimpArgs false
open Go.ChangeShapes Go.WideShapes Go.ChangeAt Go.RowKit
set_option maxRecDepth 100000

theorem pc_start (w : World) (a : Option Addr) (c : Nat) (cs : List UInt8) (hl : cs.length ≤ c) (hc : c ≤ 9223372036854775807) (hr : Rb w.heap.size w a (u8s cs)) :
    PC (w.alloc (.cells #[.slice a cs.length c, .int .i64 0, .int .u64 0] 75)) w.heap.size 0 :=
  ⟨a, c, 0, 0, cs, heap_alloc_new w _, Nat.le_refl _, hl, hc, by decide, by decide, hr.below ((Below.refl _ _).alloc (Nat.le_refl _) _)⟩
theorem ws_all {n : Nat} {a b : World} (h : Wrote (WS n n) a b) (hn : n ≤ a.heap.size) : Below n a b := ⟨h.os, h.tape, h.output, h.size, fun k hk => h.block k (by omega) (by rintro (hc | hc) <;> omega)⟩
theorem ws_wide {B n m : Nat} {a b : World} (h : Wrote (WS B m) a b) (hB : n ≤ B) (hm : n ≤ m) : Wrote (WS n n) a b := h.mono fun k _ hk => by rcases hk with hk | hk <;> exact .inr (by omega)
theorem lit_ints (w : World) (l : List Int) (T : TypeId) (i : Nat) (x : Int) (h : l[i]? = some x) : (w.alloc (.cells (l.map (Value.int .i64)).toArray T)).cell? ⟨w.heap.size, 0 + i, none⟩ = some (.int .i64 x) := by
  rw [Nat.zero_add, World.cell?_alloc_new]; simp [h]
/-- a log, and a number -/
def LogN (lo : Int) (w : World) (e : Ending) (w' : World) : Prop :=
  ∃ v ss k, e = .returned (.tuple #[v, .int .i64 k]) ∧ w'.ownsRow w.heap.size 9 1 v ss.length (strs ss) ∧ ss.length ≤ 41 ∧ (∀ s ∈ ss, s.size ≤ 26) ∧ lo ≤ k ∧ k ≤ 50 ∧ Below w.heap.size w w'


end Go.Proofs.Ytmlnecopbncdbaa
