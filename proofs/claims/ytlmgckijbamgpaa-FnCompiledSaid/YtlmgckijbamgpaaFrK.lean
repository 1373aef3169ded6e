/- A row of fields, one of them turned: plain laws and memory. -/
import Derived.Test.YtlmgckijbamgpaaFrS
namespace Go.Proofs.Ytlmgckijbamgpaa
set_option linter.unusedVariables false
set_option linter.unusedSimpArgs false
open Go.ChangeShapes Go.WideShapes Go.ChangeAt Go.RowKit
set_option maxRecDepth 100000

theorem fdsV_set : ∀ (l : List Fld) (k : Nat) (f : Fld), k < l.length → ((((fdsV l).set (k * 4) (.int .i64 f.no)).set (k * 4 + 1) (.int .i64 f.kind)).set (k * 4 + 2) (.int .i64 f.num)).set (k * 4 + 3) (.string f.data) = fdsV (l.set k f)
  | [], k, f, h => by simp at h
  | x :: r, 0, f, h => rfl
  | x :: r, k + 1, f, h => by
    have := fdsV_set r k f (by simpa using h)
    rw [List.set_cons_succ, fdsV_cons, fdsV_cons, ← this]
    rw [show (k + 1) * 4 = k * 4 + 1 + 1 + 1 + 1 by omega]
    simp only [List.set_cons_succ, Nat.add_assoc]
/-- one field of an own row is turned, cell by cell -/
theorem st4row {wx : World} {base g n cap : Nat} {l : List Fld} (h : wx.ownsRow base 57 4 (.slice (some ⟨g, 0, none⟩) n cap) n (fdsV l)) (hn : l.length = n) {k : Nat} (hk : k < n) (f : Fld) :
    ∃ (wA wB wC wD : World) (x0 x1 x2 x3 : Value), wx.setCell ⟨g, k * 4, none⟩ (.int .i64 f.no) = wA ∧ wA.setCell ⟨g, k * 4 + 1, none⟩ (.int .i64 f.kind) = wB ∧ wB.setCell ⟨g, k * 4 + 2, none⟩ (.int .i64 f.num) = wC ∧ wC.setCell ⟨g, k * 4 + 3, none⟩ (.string f.data) = wD ∧
      ((wx.cell? ⟨g, k * 4, none⟩ = some x0 ∧ wx.frozen? ⟨g, k * 4, none⟩ = false) ∧ (wA.cell? ⟨g, k * 4 + 1, none⟩ = some x1 ∧ wA.frozen? ⟨g, k * 4 + 1, none⟩ = false) ∧ (wB.cell? ⟨g, k * 4 + 2, none⟩ = some x2 ∧ wB.frozen? ⟨g, k * 4 + 2, none⟩ = false) ∧ (wC.cell? ⟨g, k * 4 + 3, none⟩ = some x3 ∧ wC.frozen? ⟨g, k * 4 + 3, none⟩ = false)) ∧
      wD.ownsRow base 57 4 (.slice (some ⟨g, 0, none⟩) n cap) n (fdsV (l.set k f)) ∧ Wrote (fun b => b = g) wx wD := by
  have hl := fdsV_len l
  have a0 := h.stored (k * 4) (.int .i64 f.no)
  have a1 := a0.1.stored (k * 4 + 1) (.int .i64 f.kind)
  have a2 := a1.1.stored (k * 4 + 2) (.int .i64 f.num)
  have a3 := a2.1.stored (k * 4 + 3) (.string f.data)
  have hs : ∀ (us : List Value) (j : Nat), us.length = l.length * 4 → j < n * 4 → ∃ x, us[j]? = some x := fun us j hu hj => ⟨_, List.getElem?_eq_getElem (by omega)⟩
  obtain ⟨x0, e0⟩ := hs _ (k * 4) hl (by omega)
  obtain ⟨x1, e1⟩ := hs ((fdsV l).set (k * 4) (.int .i64 f.no)) (k * 4 + 1) (by simp [hl]) (by omega)
  obtain ⟨x2, e2⟩ := hs (((fdsV l).set (k * 4) (.int .i64 f.no)).set (k * 4 + 1) (.int .i64 f.kind)) (k * 4 + 2) (by simp [hl]) (by omega)
  obtain ⟨x3, e3⟩ := hs ((((fdsV l).set (k * 4) (.int .i64 f.no)).set (k * 4 + 1) (.int .i64 f.kind)).set (k * 4 + 2) (.int .i64 f.num)) (k * 4 + 3) (by simp [hl]) (by omega)
  refine ⟨_, _, _, _, x0, x1, x2, x3, rfl, rfl, rfl, rfl, ⟨⟨?_, h.frozenAt _⟩, ⟨?_, a0.1.frozenAt _⟩, ⟨?_, a1.1.frozenAt _⟩, ⟨?_, a2.1.frozenAt _⟩⟩, ?_, ?_⟩
  · rw [h.cellAt _ (by omega)]; exact e0
  · rw [a0.1.cellAt _ (by omega)]; exact e1
  · rw [a1.1.cellAt _ (by omega)]; exact e2
  · rw [a2.1.cellAt _ (by omega)]; exact e3
  · rw [← fdsV_set l k f (by omega)]; exact a3.1
  · exact ((((wrote_cell wx g (k * 4) _).trans (wrote_cell _ g (k * 4 + 1) _)).trans (wrote_cell _ g (k * 4 + 2) _)).trans (wrote_cell _ g (k * 4 + 3) _))
end Go.Proofs.Ytlmgckijbamgpaa
