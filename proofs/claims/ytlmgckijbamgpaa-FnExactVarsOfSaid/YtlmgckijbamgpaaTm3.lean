/- A term read out of cells: the reference's walk. -/
import Derived.Test.YtlmgckijbamgpaaTm2
import Derived.Deep.AppendLies
namespace Go.Proofs.Ytlmgckijbamgpaa
set_option linter.unusedVariables false
open Go.ChangeShapes Go.WideShapes Go.ChangeAt Go.RowKit
set_option maxRecDepth 100000

theorem box3 {wx : World} {X : Nat} {a b c : Value} {T : TypeId} (h : wx.heap[X]? = some (.cells #[a, b, c] T)) : (wx.cell? ⟨X, 0, none⟩ = some a ∧ wx.cell? ⟨X, 1, none⟩ = some b ∧ wx.cell? ⟨X, 2, none⟩ = some c) ∧ wx.frozen? ⟨X, 0, none⟩ = false ∧ wx.frozen? ⟨X, 1, none⟩ = false ∧ wx.frozen? ⟨X, 2, none⟩ = false := by
  simp [World.cell?, World.frozen?, h]
theorem box3_s0 {wx : World} {X : Nat} {a b c : Value} {T : TypeId} (h : wx.heap[X]? = some (.cells #[a, b, c] T)) (p : Value) : (wx.setCell ⟨X, 0, none⟩ p).heap[X]? = some (.cells #[p, b, c] T) := by simp [World.setCell, Array.getElem?_modify, h]
theorem box3_s1 {wx : World} {X : Nat} {a b c : Value} {T : TypeId} (h : wx.heap[X]? = some (.cells #[a, b, c] T)) (p : Value) : (wx.setCell ⟨X, 1, none⟩ p).heap[X]? = some (.cells #[a, p, c] T) := by simp [World.setCell, Array.getElem?_modify, h]
theorem box3_s2 {wx : World} {X : Nat} {a b c : Value} {T : TypeId} (h : wx.heap[X]? = some (.cells #[a, b, c] T)) (p : Value) : (wx.setCell ⟨X, 2, none⟩ p).heap[X]? = some (.cells #[a, b, p] T) := by simp [World.setCell, Array.getElem?_modify, h]
theorem hp_lt {wx : World} {X : Nat} {o : Obj} (h : wx.heap[X]? = some o) : X < wx.heap.size := (Array.getElem?_eq_some_iff.1 h).1
theorem hp_later {wx wy : World} (h : Below wx.heap.size wx wy) {X : Nat} {o : Obj} (hX : wx.heap[X]? = some o) : wy.heap[X]? = some o := (h.block X (hp_lt hX)).trans hX
theorem hp_alloc {wx : World} (o' : Obj) {X : Nat} {o : Obj} (hX : wx.heap[X]? = some o) : (wx.alloc o').heap[X]? = some o := hp_later ((Below.refl _ _).alloc (Nat.le_refl _) o') hX
theorem hp_grown {wx wy : World} {row : Option Nat} (h : wx.grownBy wy row) {X : Nat} {o : Obj} (hX : wx.heap[X]? = some o) (hr : row ≠ some X) : wy.heap[X]? = some o := (h.block X (hp_lt hX) (fun e => hr e.symm)).trans hX
theorem hp_set {wx : World} {Y i : Nat} {u : Value} {X : Nat} {o : Obj} (hX : wx.heap[X]? = some o) (hr : X ≠ Y) : (wx.setCell ⟨Y, i, none⟩ u).heap[X]? = some o := by
  rw [Below.heap_setCell _ _ _ _ (by exact hr)]; exact hX
theorem below_set {n : Nat} {a b : World} (h : Below n a b) {X : Nat} (hX : n ≤ X) (i : Nat) (u : Value) : Below n a (b.setCell ⟨X, i, none⟩ u) :=
  h.trans ⟨rfl, rfl, rfl, by simp [World.setCell], fun k hk => Below.heap_setCell _ _ _ _ (by intro e; simp only at e; omega)⟩
theorem kept_set {S : Nat → Prop} {a b : World} (h : Kept S a b) {X : Nat} (hX : ¬ S X) (i : Nat) (u : Value) : Kept S a (b.setCell ⟨X, i, none⟩ u) :=
  ⟨by have := h.1; simpa [World.setCell] using this, fun k hk hl => by rw [Below.heap_setCell _ _ _ _ (by rintro rfl; exact hX hk)]; exact h.2 k hk hl⟩
theorem kept_alloc {S : Nat → Prop} {a b : World} (h : Kept S a b) (o : Obj) : Kept S a (b.alloc o) :=
  ⟨Nat.le_trans h.1 (by simp), fun k hk hl => (((Below.refl b.heap.size b).alloc (Nat.le_refl _) o).block k (Nat.lt_of_lt_of_le hl h.1)).trans (h.2 k hk hl)⟩
theorem kept_grown {S : Nat → Prop} {a b c : World} {row : Option Nat} (h : Kept S a b) (hg : b.grownBy c row) (hr : ∀ k, S k → k < a.heap.size → row ≠ some k) : Kept S a c :=
  ⟨Nat.le_trans h.1 hg.size, fun k hk hl => (hg.block k (Nat.lt_of_lt_of_le hl h.1) (fun e => hr k hk hl e.symm)).trans (h.2 k hk hl)⟩
theorem pT_nil (f : Nat) : pT f [] = none := by cases f <;> rfl
theorem drop_cel {L : List Cel} {k : Nat} {c : Cel} (h : L[k]? = some c) : L.drop k = c :: L.drop (k + 1) := by
  obtain ⟨hk, rfl⟩ := List.getElem?_eq_some_iff.1 h
  exact List.drop_eq_getElem_cons hk
/-- what reading hands out -/
def ReadOf (L : List Cel) (R : Option (List Int × List Cel)) (d : Nat) (w : World) (e : Ending) (w' : World) : Prop :=
  ∃ v nm sa sn sc en, e = .returned (.tuple #[.agg #[.int .i64 v, .string nm, .slice sa sn sc], .int .i64 en]) ∧ Below w.heap.size w w' ∧ (R = none → en = 0) ∧ (∀ vs r, R = some (vs, r) → en = (L.length : Int) - (r.length : Int) ∧ TS (fun b => w.heap.size ≤ b) w' d [.int .i64 v, .string nm, .slice sa sn sc] vs)
theorem isEm (x : ByteArray) : x.toList.isEmpty = decide (x.size = 0) := by
  rw [ByteArray.toList_eq]
  show x.data.toList.isEmpty = decide (x.data.size = 0)
  rw [← Array.length_toList]
  cases x.data.toList <;> simp
set_option maxHeartbeats 4000000 in
theorem spec_read_nil (a : Option Addr) (cap : Nat) (L : List Cel) (f : Nat) (w : World) (hc : L.length ≤ cap) (hcm : cap ≤ 9223372036854775807) :
    Calls Try.prog 113 #[.slice a L.length cap, .int .i64 (L.length : Int)] w (ReadOf L (pT f (L.drop L.length)) f w) := by
  have HNO : Hid (pT f (L.drop L.length) = none) := Lib.hid (by rw [List.drop_length]; exact pT_nil f)
  generalize pT f (L.drop L.length) = R at *
  unfold ReadOf
  have HX0 := Lib.hid (heap_alloc_new w (.cells #[.int .i64 0, .string { data := #[] }, .slice none 0 0] 87))
  have HB0 := Lib.hid ((Below.refl w.heap.size w).alloc (Nat.le_refl _) (.cells #[.int .i64 0, .string { data := #[] }, .slice none 0 0] 87))
  generalize hw0 : w.alloc (.cells #[.int .i64 0, .string { data := #[] }, .slice none 0 0] 87) = w0 at *
  have HBC := Lib.hid (below_set (below_set (below_set HB0.out (Nat.le_refl _) 0 (.int .i64 0)) (Nat.le_refl _) 1 (.string { data := #[] })) (Nat.le_refl _) 2 (.slice none 0 0))
  obtain ⟨⟨sa0, -, -⟩, sf0, -, -⟩ := box3 HX0.out
  have HSA := Lib.hid (box3_s0 HX0.out (.int .i64 0))
  generalize hsA : (w0).setCell ⟨w.heap.size, 0, none⟩ (.int .i64 0) = wsA at *
  obtain ⟨⟨-, sa1, -⟩, -, sf1, -⟩ := box3 HSA.out
  have HSB := Lib.hid (box3_s1 HSA.out (.string { data := #[] }))
  generalize hsB : wsA.setCell ⟨w.heap.size, 1, none⟩ (.string { data := #[] }) = wsB at *
  obtain ⟨⟨-, -, sa2⟩, -, -, sf2⟩ := box3 HSB.out
  have HSC := Lib.hid (box3_s2 HSB.out (.slice none 0 0))
  generalize hsC : wsB.setCell ⟨w.heap.size, 2, none⟩ (.slice none 0 0) = wsC at *
  obtain ⟨⟨sg0, sg1, sg2⟩, -⟩ := box3 HSC.out
  go_enter Try.func113, Try.ntmps113
  go_wp2_with fail
  refine bodyPost_ret (v := .tuple #[.agg #[.int .i64 0, .string { data := #[] }, .slice none 0 0], .int .i64 0]) (by simp [results, Try.results113, go_sem, sg0, sg1, sg2]) rfl ?_
  exact ⟨_, _, _, _, _, _, rfl, HBC.out, fun _ => rfl, fun vs r h => by rw [HNO.out] at h; cases h⟩
end Go.Proofs.Ytlmgckijbamgpaa
