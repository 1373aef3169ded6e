/- The kinds of plain data. -/
import Derived.Test.YtmlnecopbncdbaaKind
import Derived.Test.YtmlnecopbncdbaaSched
namespace Go.Proofs.Ytmlnecopbncdbaa
set_option linter.unusedVariables false
set_option linter.unusedSimpArgs false
open Go.ChangeShapes Go.WideShapes Go.ChangeAt Go.RowKit
theorem below_3 (w : World) (o1 o2 o3 : Obj) : Below w.heap.size w (((w.alloc o1).alloc o2).alloc o3) :=
  (((Below.refl _ _).alloc (Nat.le_refl _) _).alloc (by simp) _).alloc (by simp; omega) _
/-! ### two boxes -/
theorem box2_start (w : World) (o1 o2 : Obj) : Below (w.heap.size + 2) ((w.alloc o1).alloc o2) ((w.alloc o1).alloc o2) := Below.refl _ _
theorem box2_step {w wx wy : World} {o1 o2 : Obj} (h : Below (w.heap.size + 2) ((w.alloc o1).alloc o2) wx) (hb : Below wx.heap.size wx wy) : Below (w.heap.size + 2) ((w.alloc o1).alloc o2) wy :=
  h.trans (hb.mono (by have := h.size; simp at this; omega))
theorem box2_below {w wx : World} {o1 o2 : Obj} (h : Below (w.heap.size + 2) ((w.alloc o1).alloc o2) wx) : Below w.heap.size w wx :=
  ((((Below.refl _ _).alloc (Nat.le_refl _) _).alloc (by simp) _ : Below w.heap.size w ((w.alloc o1).alloc o2))).trans (h.mono (by omega))
theorem box2_a {w wx : World} {C1 C2 : Array Value} {T1 T2 : TypeId} (h : Below (w.heap.size + 2) ((w.alloc (.cells C1 T1)).alloc (.cells C2 T2)) wx) (i : Nat) : wx.cell? ⟨w.heap.size, i, none⟩ = C1[i]? :=
  (h.cell (p := ⟨w.heap.size, i, none⟩) (by show w.heap.size < w.heap.size + 2; omega)).trans (by go_simp)
theorem box2_b {w wx : World} {C1 C2 : Array Value} {T1 T2 : TypeId} (h : Below (w.heap.size + 2) ((w.alloc (.cells C1 T1)).alloc (.cells C2 T2)) wx) (i : Nat) : wx.cell? ⟨w.heap.size + 1, i, none⟩ = C2[i]? :=
  (h.cell (p := ⟨w.heap.size + 1, i, none⟩) (by show w.heap.size + 1 < w.heap.size + 2; omega)).trans (by go_simp)
theorem kInt_ok : kInt.Ok := kOf_ok _ _ _ _
theorem kBool_ok : kBool.Ok := kOf_ok _ _ _ _
theorem kByte_ok : kByte.Ok := kOf_ok _ _ _ _
theorem sum_ints (xs : List Int) : sumL kInt.wt xs = 0 := by
  induction xs with
  | nil => rfl
  | cons x r ih => rw [sumL, ih]; rfl
theorem wt_ints {e : TypeId} (xs : List Int) : (kSl e kInt).wt xs = xs.length := by show xs.length + sumL kInt.wt xs = _; rw [sum_ints]; rfl
end Go.Proofs.Ytmlnecopbncdbaa
