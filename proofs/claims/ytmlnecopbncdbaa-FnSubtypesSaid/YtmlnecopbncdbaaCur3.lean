/- The contracts of the draws: logs and long texts. -/
import Derived.Test.YtmlnecopbncdbaaCur2
import Derived.Deep.AppendLies
namespace Go.Proofs.Ytmlnecopbncdbaa
set_option linter.unusedVariables false
set_option linter.unusedSimpArgs false
open Go.ChangeShapes Go.WideShapes Go.ChangeAt Go.RowKit
set_option maxRecDepth 100000

theorem Try.infoStrC : (Try.prog.info? 9).map (fun i => (i.zero, i.size, i.bytes)) = some (some (.string ByteArray.empty), 1, 16) := by kernel_rfl
theorem strs_put (xs : List ByteArray) (x : ByteArray) : strs (xs ++ [x]) = strs xs ++ [.string x] := by simp [strs]
theorem strs_set (xs : List ByteArray) (i : Nat) (x : ByteArray) : (strs xs).set i (.string x) = strs (xs.set i x) := by simp [strs, List.map_set]
theorem strs_len (xs : List ByteArray) : (strs xs).length = xs.length := by simp [strs]
theorem lit_cells (w : World) (l : List ByteArray) (T : TypeId) (i : Nat) (x : ByteArray) (h : l[i]? = some x) : (w.alloc (.cells (l.map Value.string).toArray T)).cell? ⟨w.heap.size, 0 + i, none⟩ = some (.string x) := by
  rw [Nat.zero_add, World.cell?_alloc_new]; simp [h]
/-- what a draw may write: the cursor's block, and what was not there -/
def WS (B n : Nat) (k : Nat) : Prop := k = B ∨ n ≤ k
def longest26 : ByteArray := { data := #[97, 32, 116, 101, 120, 116, 32, 111, 102, 32, 109, 111, 114, 101, 32, 116, 104, 97, 110, 32, 116, 119, 101, 110, 116, 121] }
def LogOf (B K : Nat) (w : World) (e : Ending) (w' : World) : Prop :=
  ∃ v ss, e = .returned v ∧ w'.ownsRow w.heap.size 9 1 v ss.length (strs ss) ∧ ss.length ≤ 41 ∧ (∀ s ∈ ss, s.size ≤ 26) ∧ PC w' B (K + 100) ∧ Wrote (WS B w.heap.size) w w'
theorem ws_cur {B n : Nat} {a b : World} (h : Wrote (fun k => k = B) a b) : Wrote (WS B n) a b := h.mono fun _ _ hk => .inl hk
theorem ws_below {B n : Nat} {a b : World} (h : Below n a b) (hn : n ≤ a.heap.size) : Wrote (WS B n) a b := ⟨h.os, h.tape, h.output, h.size, fun k hk hs => h.block k (Nat.lt_of_not_le fun hc => hs (.inr hc))⟩
theorem ws_grown {B n : Nat} {a b : World} {row : Option Nat} (h : a.grownBy b row) (hr : ∀ k, row = some k → n ≤ k) : Wrote (WS B n) a b := ⟨h.os, h.tape, h.output, h.size, fun k hk hs => h.block k hk fun e => hs (.inr (hr k e.symm))⟩
theorem pc_grown {B K n : Nat} {a b : World} {row : Option Nat} (h : PC a B K) (hB : B < n) (hg : a.grownBy b row) (hr : ∀ k, row = some k → n ≤ k) : PC b B K := by
  have hl := h.lt
  obtain ⟨q, c, p, seed, cs, h1, h2, h3, h4, h5, h6, h7⟩ := h
  refine ⟨q, c, p, seed, cs, (hg.block B hl fun e => by have := hr B e.symm; omega).trans h1, h2, h3, h4, h5, h6, ?_⟩
  rcases h7 with h0 | ⟨b', off, ha, hb, hc⟩
  · exact .inl h0
  · exact .inr ⟨b', off, ha, hb, fun i u hi => hg.cell (hc i u hi) fun e => by have := hr b' e.symm; omega⟩
end Go.Proofs.Ytmlnecopbncdbaa
