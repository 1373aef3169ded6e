/- The contracts of the draws of boxes: what is drawn is only bounded. -/
import Derived.Test.YthlajmncpejhmaaCur5
import Derived.Test.YthlajmncpejhmaaUnionS
import Derived.Test.YthlajmncpejhmaaCover
import Derived.Laws.OwnMore
import Derived.Deep.AppendLies
namespace Go.Proofs.Ythlajmncpejhmaa
set_option linter.unusedVariables false
open Go.ChangeShapes Go.WideShapes Go.ChangeAt Go.RowKit
set_option maxRecDepth 100000

/-- a box under way: its cell, its sides, the cell of the result -/
def BX (w : World) (B K : Nat) (v : Value) (xs : Bx) (wx : World) : Prop :=
  wx.heap[w.heap.size + 1]? = some (.cells #[v] 28) ∧ wx.ownsRow (w.heap.size + 2) 64 2 v xs.length (sds xs) ∧ wx.heap[w.heap.size]? = some (.cells #[.slice none 0 0] 28) ∧ Wrote (WS B w.heap.size) w wx ∧ PC wx B K
theorem bx_cur {w : World} {B K K' : Nat} {v : Value} {xs : Bx} {wx wy : World} (h : BX w B K v xs wx) (hB : B < w.heap.size) (hw : Wrote (fun k => k = B) wx wy) (hp : PC wy B K') : BX w B K' v xs wy := by
  obtain ⟨h1, h2, h3, h4, h5⟩ := h
  exact ⟨(hw.block _ (Array.getElem?_eq_some_iff.1 h1).1 (by omega)).trans h1, hw.own h2 (fun k hk => by have := (h2.lt k hk).1; omega), (hw.block _ (Array.getElem?_eq_some_iff.1 h3).1 (by omega)).trans h3, h4.trans (ws_cur hw), hp⟩
theorem bx_drew {w : World} {B K : Nat} {v : Value} {xs : Bx} {wx : World} (h : BX w B K v xs wx) : BX w B K v xs wx.drew := by
  obtain ⟨h1, h2, h3, h4, h5⟩ := h
  exact ⟨h1, h2, h3, wdrew h4, h5⟩
theorem side_type {w : World} {base B n : Nat} {v : Value} {us : Array Value} {xs : List Value} (ho : w.ownsRow base 64 2 v n xs) (h : w.heap[B]? = some (.cells us 28)) : v.ownBlock ≠ some B := by
  intro e
  rcases ho.2 with ⟨rfl, _⟩ | ⟨g, cap, cur, rfl, _, hh, _⟩
  · cases e
  · simp only [Value.ownBlock, Option.some.injEq] at e
    subst e
    rw [h] at hh
    simp at hh
theorem bx_cells {w : World} {B K : Nat} {v : Value} {xs : Bx} {wx : World} (h : BX w B K v xs wx) : wx.cell? ⟨w.heap.size + 1, 0, none⟩ = some v ∧ wx.frozen? ⟨w.heap.size + 1, 0, none⟩ = false ∧ wx.cell? ⟨w.heap.size, 0, none⟩ = some (.slice none 0 0) ∧ wx.frozen? ⟨w.heap.size, 0, none⟩ = false := by
  obtain ⟨h1, _, h3, _⟩ := h
  exact ⟨by simp [World.cell?, h1], by simp [World.frozen?, h1], by simp [World.cell?, h3], by simp [World.frozen?, h3]⟩
theorem bx_alloc {w : World} {B K : Nat} {v : Value} {xs : Bx} {wx : World} (h : BX w B K v xs wx) (o : Obj) : BX w B K v xs (wx.alloc o) := by
  obtain ⟨h1, h2, h3, h4, h5⟩ := h
  have hb : Below wx.heap.size wx (wx.alloc o) := (Below.refl _ _).alloc (Nat.le_refl _) o
  exact ⟨(hb.block _ (Array.getElem?_eq_some_iff.1 h1).1).trans h1, h2.alloc o, (hb.block _ (Array.getElem?_eq_some_iff.1 h3).1).trans h3, h4.trans (ws_below (hb.mono h4.size) h4.size), h5.later hb⟩
theorem bx_mid {w : World} {B K : Nat} {v : Value} {xs : Bx} {wx wy : World} (h : BX w B K v xs wx) (hg : wx.grownBy wy v.ownBlock) : wy.cell? ⟨w.heap.size + 1, 0, none⟩ = some v ∧ wy.frozen? ⟨w.heap.size + 1, 0, none⟩ = false := by
  have n1 := side_type h.2.1 h.1
  have k1 := (hg.block _ (Array.getElem?_eq_some_iff.1 h.1).1 (fun e => n1 e.symm)).trans h.1
  exact ⟨by simp [World.cell?, k1], by simp [World.frozen?, k1]⟩
/-- the row grows, and is stored -/
theorem bx_grow {w : World} {B K : Nat} {v v' : Value} {xs ys : Bx} {wx wy : World} (h : BX w B K v xs wx) (hB : B < w.heap.size) (ho : wy.ownsRow (w.heap.size + 2) 64 2 v' ys.length (sds ys)) (hg : wx.grownBy wy v.ownBlock) :
    BX w B K v' ys (wy.setCell ⟨w.heap.size + 1, 0, none⟩ v') := by
  obtain ⟨h1, h2, h3, h4, h5⟩ := h
  have n1 := side_type h2 h1
  have n3 := side_type h2 h3
  have k1 := (hg.block _ (Array.getElem?_eq_some_iff.1 h1).1 (fun e => n1 e.symm)).trans h1
  have k3 := (hg.block _ (Array.getElem?_eq_some_iff.1 h3).1 (fun e => n3 e.symm)).trans h3
  have k4 := h4.trans (ws_grown hg (fun k hk => by have := (h2.lt k hk).1; omega))
  have k5 := pc_grown h5 hB hg (fun k hk => by have := (h2.lt k hk).1; omega)
  have m1 := side_type ho k1
  have w5 : Wrote (fun k => k = w.heap.size + 1) wy (wy.setCell ⟨w.heap.size + 1, 0, none⟩ v') := wrote_cell _ _ _ _
  refine ⟨by simp [World.setCell, Array.getElem?_modify, k1], w5.own ho (fun k hk e => m1 (e ▸ hk)), (w5.block _ (Array.getElem?_eq_some_iff.1 k3).1 (fun e => by omega)).trans k3, k4.trans (w5.mono fun k _ hk => .inr (by omega)), ?_⟩
  exact pc_grown (n := w.heap.size) k5 hB (row := some (w.heap.size + 1)) ⟨w5.os, w5.tape, w5.output, w5.size, fun k hk hs => w5.block k hk (fun e => hs (by rw [e]))⟩ (fun k hk => by simp only [Option.some.injEq] at hk; omega)
/-- one cell of the row turns: the row, and what it stands for, apart -/
theorem bx_cell {w : World} {B K g c n : Nat} {us : List Value} {wx : World} (h1 : wx.heap[w.heap.size + 1]? = some (.cells #[.slice (some ⟨g, 0, none⟩) n c] 28)) (h2 : wx.ownsRow (w.heap.size + 2) 64 2 (.slice (some ⟨g, 0, none⟩) n c) n us) (h3 : wx.heap[w.heap.size]? = some (.cells #[.slice none 0 0] 28)) (h4 : Wrote (WS B w.heap.size) w wx) (h5 : PC wx B K) (hB : B < w.heap.size) (r : Nat) (z : Value) :
    (wx.setCell ⟨g, r, none⟩ z).heap[w.heap.size + 1]? = some (.cells #[.slice (some ⟨g, 0, none⟩) n c] 28) ∧ (wx.setCell ⟨g, r, none⟩ z).ownsRow (w.heap.size + 2) 64 2 (.slice (some ⟨g, 0, none⟩) n c) n (us.set r z) ∧ (wx.setCell ⟨g, r, none⟩ z).heap[w.heap.size]? = some (.cells #[.slice none 0 0] 28) ∧ Wrote (WS B w.heap.size) w (wx.setCell ⟨g, r, none⟩ z) ∧ PC (wx.setCell ⟨g, r, none⟩ z) B K := by
  have hs := h2.stored r z
  have hg := (h2.lt g rfl).1
  have n1 := side_type h2 h1
  have n3 := side_type h2 h3
  exact ⟨(hs.2.block _ (Array.getElem?_eq_some_iff.1 h1).1 (fun e => n1 e.symm)).trans h1, hs.1, (hs.2.block _ (Array.getElem?_eq_some_iff.1 h3).1 (fun e => n3 e.symm)).trans h3, h4.trans (ws_grown hs.2 (fun k hk => by simp only [Option.some.injEq] at hk; omega)), pc_grown h5 hB hs.2 (fun k hk => by simp only [Option.some.injEq] at hk; omega)⟩
/-- the first side turns -/
theorem bx_first {w : World} {B K g c : Nat} {x0 : Int × Int} {xs : Bx} {wx : World} (h : BX w B K (.slice (some ⟨g, 0, none⟩) (x0 :: xs).length c) (x0 :: xs) wx) (hB : B < w.heap.size) (p q : Int) :
    BX w B K (.slice (some ⟨g, 0, none⟩) ((p, q) :: xs).length c) ((p, q) :: xs) ((wx.setCell ⟨g, 0, none⟩ (.int .i64 p)).setCell ⟨g, 1, none⟩ (.int .i64 q)) := by
  obtain ⟨h1, h2, h3, h4, h5⟩ := h
  obtain ⟨k1, k2, k3, k4, k5⟩ := bx_cell h1 h2 h3 h4 h5 hB 0 (.int .i64 p)
  obtain ⟨m1, m2, m3, m4, m5⟩ := bx_cell k1 k2 k3 k4 k5 hB 1 (.int .i64 q)
  exact ⟨m1, m2, m3, m4, m5⟩
theorem bx_first' {w : World} {B K g c n : Nat} {xs : Bx} {wx : World} (h : BX w B K (.slice (some ⟨g, 0, none⟩) n c) xs wx) (hB : B < w.heap.size) (hn : xs.length = n) (h0 : 0 < n) (p q : Int) :
    BX w B K (.slice (some ⟨g, 0, none⟩) n c) ((p, q) :: xs.tail) ((wx.setCell ⟨g, 0, none⟩ (.int .i64 p)).setCell ⟨g, 1, none⟩ (.int .i64 q)) := by
  subst hn
  match xs, h0 with
  | x0 :: tl, _ => exact bx_first h hB p q
def litLo : List Int := [-1001, -1000, 3]
def litHi : List Int := [1000, 1001, 2]
/-- the first side under way: the two literals, where they are made -/
def BL (w : World) (B K : Nat) (v : Value) (xs : Bx) (l1 l2 : Option Nat) (wx : World) : Prop :=
  BX w B K v xs wx ∧ (∀ b, l1 = some b → w.heap.size + 1 < b ∧ wx.heap[b]? = some (.cells (litLo.map (Value.int .i64)).toArray 3)) ∧ (∀ b, l2 = some b → w.heap.size + 1 < b ∧ wx.heap[b]? = some (.cells (litHi.map (Value.int .i64)).toArray 3))
theorem bx_size {w : World} {B K : Nat} {v : Value} {xs : Bx} {wx : World} (h : BX w B K v xs wx) : w.heap.size + 1 < wx.heap.size := (Array.getElem?_eq_some_iff.1 h.1).1
theorem heap_old {wx : World} {o x : Obj} {b : Nat} (h : wx.heap[b]? = some x) : (wx.alloc o).heap[b]? = some x :=
  (((Below.refl wx.heap.size wx).alloc (Nat.le_refl _) o).block b (Array.getElem?_eq_some_iff.1 h).1).trans h
theorem bl_lo {w : World} {B K : Nat} {v : Value} {xs : Bx} {l2 : Option Nat} {wx : World} (h : BL w B K v xs none l2 wx) : BL w B K v xs (some wx.heap.size) l2 (wx.alloc (.cells (litLo.map (Value.int .i64)).toArray 3)) :=
  ⟨bx_alloc h.1 _, fun b hb => by simp only [Option.some.injEq] at hb; subst hb; exact ⟨bx_size h.1, heap_alloc_new wx _⟩, fun b hb => ⟨(h.2.2 b hb).1, heap_old (h.2.2 b hb).2⟩⟩
theorem bl_hi {w : World} {B K : Nat} {v : Value} {xs : Bx} {l1 : Option Nat} {wx : World} (h : BL w B K v xs l1 none wx) : BL w B K v xs l1 (some wx.heap.size) (wx.alloc (.cells (litHi.map (Value.int .i64)).toArray 3)) :=
  ⟨bx_alloc h.1 _, fun b hb => ⟨(h.2.1 b hb).1, heap_old (h.2.1 b hb).2⟩, fun b hb => by simp only [Option.some.injEq] at hb; subst hb; exact ⟨bx_size h.1, heap_alloc_new wx _⟩⟩
theorem bl_cur {w : World} {B K K' : Nat} {v : Value} {xs : Bx} {l1 l2 : Option Nat} {wx wy : World} (h : BL w B K v xs l1 l2 wx) (hB : B < w.heap.size) (hw : Wrote (fun k => k = B) wx wy) (hp : PC wy B K') : BL w B K' v xs l1 l2 wy :=
  ⟨bx_cur h.1 hB hw hp, fun b hb => ⟨(h.2.1 b hb).1, (hw.block b (Array.getElem?_eq_some_iff.1 (h.2.1 b hb).2).1 (by have := (h.2.1 b hb).1; omega)).trans (h.2.1 b hb).2⟩, fun b hb => ⟨(h.2.2 b hb).1, (hw.block b (Array.getElem?_eq_some_iff.1 (h.2.2 b hb).2).1 (by have := (h.2.2 b hb).1; omega)).trans (h.2.2 b hb).2⟩⟩
theorem lit_cell {wx : World} {b : Nat} {l : List Int} (h : wx.heap[b]? = some (.cells (l.map (Value.int .i64)).toArray 3)) (i : Nat) (x : Int) (hi : l[i]? = some x) : wx.cell? ⟨b, 0 + i, none⟩ = some (.int .i64 x) := by
  rw [Nat.zero_add]; simp [World.cell?, h, hi]
theorem bl_alo {w : World} {B K b b' : Nat} {v : Value} {xs : Bx} {l2 : Option Nat} {wx : World} (h : BL w B K v xs (some b) l2 wx) (hB : B < w.heap.size) (hK : K ≤ 900000000000) (hbb : b' = b) :
    Calls Try.prog 76 #[.pointer (some ⟨B, 0, none⟩), .slice (some ⟨b', 0, none⟩) 3 3] wx fun e w' => ∃ x : Int, e = .returned (.int .i64 x) ∧ (-2000 ≤ x ∧ x ≤ 2000) ∧ BL w B (K + 2) v xs (some b) l2 w' := by
  subst hbb
  have hl := h.2.1 _ rfl
  refine (cur_among B K litLo _ 0 3 wx h.1.2.2.2.2 hK (by decide) (by decide) (by decide) (by decide) (by omega) (lit_cell hl.2)).mono ?_
  rintro e w' ⟨x, hx, rfl, hp, hw⟩
  exact ⟨x, rfl, by simp only [litLo, List.mem_cons, List.not_mem_nil, or_false] at hx; omega, bl_cur h hB hw hp⟩
theorem bl_ahi {w : World} {B K b b' : Nat} {v : Value} {xs : Bx} {l1 : Option Nat} {wx : World} (h : BL w B K v xs l1 (some b) wx) (hB : B < w.heap.size) (hK : K ≤ 900000000000) (hbb : b' = b) :
    Calls Try.prog 76 #[.pointer (some ⟨B, 0, none⟩), .slice (some ⟨b', 0, none⟩) 3 3] wx fun e w' => ∃ x : Int, e = .returned (.int .i64 x) ∧ (-2000 ≤ x ∧ x ≤ 2000) ∧ BL w B (K + 2) v xs l1 (some b) w' := by
  subst hbb
  have hl := h.2.2 _ rfl
  refine (cur_among B K litHi _ 0 3 wx h.1.2.2.2.2 hK (by decide) (by decide) (by decide) (by decide) (by omega) (lit_cell hl.2)).mono ?_
  rintro e w' ⟨x, hx, rfl, hp, hw⟩
  exact ⟨x, rfl, by simp only [litHi, List.mem_cons, List.not_mem_nil, or_false] at hx; omega, bl_cur h hB hw hp⟩
theorem bl_row {w : World} {B K g c n : Nat} {xs : Bx} {l1 l2 : Option Nat} {wx : World} (h : BL w B K (.slice (some ⟨g, 0, none⟩) n c) xs l1 l2 wx) (h0 : 0 < xs.length) (hn : xs.length = n) :
    wx.cell? ⟨g, 0, none⟩ = some (.int .i64 (xs.getD 0 (0, 0)).1) ∧ wx.cell? ⟨g, 1, none⟩ = some (.int .i64 (xs.getD 0 (0, 0)).2) ∧ wx.frozen? ⟨g, 0, none⟩ = false ∧ wx.frozen? ⟨g, 1, none⟩ = false := by
  subst hn
  have ho := h.1.2.1
  have e1 := sds_lo xs 0 h0
  have e2 := sds_hi xs 0 h0
  rw [Nat.zero_mul] at e1 e2
  refine ⟨?_, ?_, ho.frozenAt 0, ho.frozenAt 1⟩
  · rw [ho.cellAt 0 (by omega)]; exact e1
  · rw [ho.cellAt 1 (by omega)]; exact e2
def BoxOf (B K : Nat) (w : World) (e : Ending) (w' : World) : Prop :=
  ∃ v xs, e = .returned (.agg #[v]) ∧ w'.ownsRow w.heap.size 64 2 v xs.length (sds xs) ∧ xs.length = 3 ∧ (∀ p ∈ xs, (-2000 ≤ p.1 ∧ p.1 ≤ 2000) ∧ (-2000 ≤ p.2 ∧ p.2 ≤ 2000)) ∧ PC w' B (K + 40) ∧ Wrote (WS B w.heap.size) w w'
set_option maxHeartbeats 2000000 in
theorem cur_box (B KQ : Nat) (w : World) (h : PC w B KQ) (hK : KQ ≤ 800000000000) :
    Calls Try.prog 61 #[.pointer (some ⟨B, 0, none⟩)] w (BoxOf B KQ w) := by
  have hBl := h.lt
  obtain ⟨i0, hi, hz0, hz1, hz2⟩ := info_parts Try.infoSide
  have hb2 : Below w.heap.size w ((w.alloc (.cells #[.slice none 0 0] 28)).alloc (.cells #[.slice none 0 0] 28)) := ((Below.refl _ _).alloc (Nat.le_refl _) _).alloc (by simp) _
  have HBS : Hid (BX w B KQ (.slice none 0 0) [] ((w.alloc (.cells #[.slice none 0 0] 28)).alloc (.cells #[.slice none 0 0] 28))) := Lib.hid ⟨by have := heap_alloc_new (w.alloc (.cells #[.slice none 0 0] 28)) (.cells #[.slice none 0 0] 28); simpa using this, World.ownsRow_nil _ _ _ _, by
      have k := ((Below.refl (w.heap.size + 1) (w.alloc (.cells #[.slice none 0 0] 28))).alloc (by simp) (.cells #[.slice none 0 0] 28)).block w.heap.size (by omega)
      rw [k]; exact heap_alloc_new w _, ws_below hb2 (Nat.le_refl _), h.later hb2⟩
  clear hb2 h
  unfold BoxOf
  go_enter Try.func61, Try.ntmps61
  go_wp2_with fail
  go_loopw [4] (fun iv wr => ∃ (i : Nat) (v : Value) (xs : Bx), i ≤ 3 ∧ iv = .int .i64 (i : Int) ∧ xs.length = i ∧ Hid (BX w B (KQ + 4 * i) v xs wr) ∧ Hid (∀ p ∈ xs, (-2000 ≤ p.1 ∧ p.1 ≤ 2000) ∧ (-2000 ≤ p.2 ∧ p.2 ≤ 2000))) (fun iv _ => 3 - (intOf iv).toNat)
  case atStart => exact ⟨0, _, [], by omega, rfl, rfl, HBS, Lib.hid (by simp)⟩
  case round =>
    clear HBS
    obtain ⟨w1, rfl⟩ : ∃ z : World, z = wr := ⟨_, rfl⟩
    obtain ⟨i, v, xs, hi3, rfl, hxl, HBS, HSB⟩ := hrel
    obtain ⟨qa, qc, rfl⟩ := form_of_own HBS.out.2.1
    have HXL := Lib.hid hxl
    rw [hxl] at HBS
    clear hxl
    by_cases hil : i < 3
    case neg =>
      obtain rfl : i = 3 := by omega
      have ho3 := HBS.out.2.1
      rw [HXL.out] at ho3
      obtain ⟨g, qc', hv, hg1, hg2⟩ := ho3.form (by omega)
      clear ho3
      simp only [Value.slice.injEq] at hv
      obtain ⟨rfl, -, -⟩ := hv
      go_wp2_with fail
      refine (cur_one B _ 20 w1 HBS.out.2.2.2.2 (by omega) (by omega)).mono ?_
      rintro e w2 ⟨b2, rfl, hp, hw⟩
      replace HBS := Lib.hid (bx_cur HBS.out hBl hw hp); clear hp hw
      cases b2 with
      | false =>
        obtain ⟨d0, e0, d1, e1⟩ := bx_cells HBS.out
        have HOE := Lib.hid HBS.out.2.1; have HWE := Lib.hid HBS.out.2.2.2.1; have HPE := Lib.hid HBS.out.2.2.2.2
        clear HBS
        go_wp2_with fail
        have hk : (w2.setCell ⟨w.heap.size, 0, none⟩ (.slice (some ⟨g, 0, none⟩) 3 qc)).cell? ⟨w.heap.size, 0, none⟩ = some (.slice (some ⟨g, 0, none⟩) 3 qc) := World.cell?_setCell_same _ _ _ d1
        have w6 : Wrote (fun k => k = w.heap.size) w2 (w2.setCell ⟨w.heap.size, 0, none⟩ (.slice (some ⟨g, 0, none⟩) 3 qc)) := wrote_cell _ _ _ _
        refine bodyPost_ret (v := .agg #[.slice (some ⟨g, 0, none⟩) 3 qc]) (by simp [results, Try.results61, go_sem, hk]) rfl ⟨_, xs, rfl, ?_, HXL.out, HSB.out, ?_, ?_⟩
        · exact own_mono (ownsRow_setCell_below HOE.out (a := ⟨w.heap.size, 0, none⟩) (by simp) _) (by omega)
        · exact (pc_grown (n := w.heap.size) HPE.out hBl (row := some w.heap.size) ⟨w6.os, w6.tape, w6.output, w6.size, fun k hk hs => w6.block k hk (fun e => hs (by rw [e]))⟩ (fun k hk => by simp only [Option.some.injEq] at hk; omega)).mono (by omega)
        · exact HWE.out.trans (w6.mono fun k _ hk => .inr (by omega))
      | true =>
        obtain ⟨d0, e0, -, -⟩ := bx_cells HBS.out
        have HBL : Hid (BL w B (KQ + 4 * 3 + 2) (.slice (some ⟨g, 0, none⟩) 3 qc) xs none none w2.drew) := Lib.hid (show BL w B (KQ + 4 * 3 + 2) (.slice (some ⟨g, 0, none⟩) 3 qc) xs none none w2.drew from ⟨bx_drew HBS.out, (fun _ h => nomatch h), (fun _ h => nomatch h)⟩)
        clear HBS
        go_wp2_with fail
        refine wp_region_G [10] (fun w' => w'.cell? ⟨w.heap.size + 1, 0, none⟩ = some (.slice (some ⟨g, 0, none⟩) 3 qc)) (by kernel_rfl) ?_ (fun hHeld => ?_)
        · exact d0
        refine wpG_pure (i := 0) (oi := { dst := some 26, op := Go.Op.fieldAddr 28 (Go.Operand.tmp 3) 0, type := 0, pos := "l9_cover.go:202", after := #[], guard := none }) (v := ?vg1) rfl (by kernel_rfl) (fun _ _ _ h => h) (Or.inr hHeld) (Or.inl ⟨by rfl, ?yg1⟩) ?_
        case yg1 => (intro wS _; go_simp <;> with_reducible rfl)
        try simp only [Act.put, List.setIfInBounds_toArray, List.set_cons_zero, List.set_cons_succ]
        refine wpG_load (i := 1) (oi := { dst := some 27, op := Go.Op.load 26 (Go.Operand.tmp 26), type := 26, pos := "l9_cover.go:202", after := #[{ on := 0, ground := Go.Ground.data }], guard := none }) (v := ?vg2) [[10, 1]] rfl (by kernel_rfl) (fun _ _ _ h => h) hHeld (Or.inl ⟨by rfl, ?yg2⟩) ?_
        case yg2 => (intro wS hSw; (try dsimp only at hSw); go_simp <;> with_reducible rfl)
        try simp only [Act.put, List.setIfInBounds_toArray, List.set_cons_zero, List.set_cons_succ]
        refine wpG_pure (i := 2) (oi := { dst := some 28, op := Go.Op.move (Go.Operand.tmp 0), type := 74, pos := "l9_cover.go:202", after := #[], guard := none }) (v := ?vg3) rfl (by kernel_rfl) (fun _ _ _ h => h) (Or.inr hHeld) (Or.inl ⟨by rfl, ?yg3⟩) ?_
        case yg3 => (intro wS _; go_simp <;> with_reducible rfl)
        try simp only [Act.put, List.setIfInBounds_toArray, List.set_cons_zero, List.set_cons_succ]
        refine wpG_pure (i := 5) (oi := { dst := some 31, op := Go.Op.move (Go.Operand.tmp 0), type := 74, pos := "l9_cover.go:202", after := #[], guard := none }) (v := ?vg4) rfl (by kernel_rfl) (fun _ _ _ h => h) (Or.inr hHeld) (Or.inl ⟨by rfl, ?yg4⟩) ?_
        case yg4 => (intro wS _; go_simp <;> with_reducible rfl)
        try simp only [Act.put, List.setIfInBounds_toArray, List.set_cons_zero, List.set_cons_succ]
        refine wpG_two (i := 3) (j := 6) (o := { dst := some 29, op := Go.Op.buildSlice 36 3 #[(0, Go.Operand.const (Go.Value.int Go.IntKind.i64 (-1001))), (1, Go.Operand.const (Go.Value.int Go.IntKind.i64 (-1000))), (2, Go.Operand.const (Go.Value.int Go.IntKind.i64 3))], type := 36, pos := "l9_cover.go:202", after := #[], guard := none }) (o' := { dst := some 32, op := Go.Op.buildSlice 36 3 #[(0, Go.Operand.const (Go.Value.int Go.IntKind.i64 1000)), (1, Go.Operand.const (Go.Value.int Go.IntKind.i64 1001)), (2, Go.Operand.const (Go.Value.int Go.IntKind.i64 2))], type := 36, pos := "l9_cover.go:202", after := #[], guard := none }) rfl rfl (by kernel_rfl) (fun K hK => ?_) (fun K hK => ?_)
        · skip
          go_simp
          replace HBL := Lib.hid (bl_lo HBL.out)
          refine hK.out _ _ (Or.inr ?khHeld5) (fun hHeld5S => ?_)
          case khHeld5 => exact (bx_cells HBL.out.1).1
          have hHeld5 := hHeld5S.held (by kernel_rfl)
          clear hK K
          try simp only [Act.put, List.setIfInBounds_toArray, List.set_cons_zero, List.set_cons_succ]
          refine wpG_two (i := 4) (j := 6) (o := { dst := some 30, op := Go.Op.call { callee := Go.Callee.value (Go.Operand.func 76), args := #[Go.Operand.tmp 28, Go.Operand.tmp 29], argTypes := #[74, 36] }, type := 3, pos := "l9_cover.go:202", after := #[{ on := 2, ground := Go.Ground.data }, { on := 3, ground := Go.Ground.data }], guard := none }) (o' := { dst := some 32, op := Go.Op.buildSlice 36 3 #[(0, Go.Operand.const (Go.Value.int Go.IntKind.i64 1000)), (1, Go.Operand.const (Go.Value.int Go.IntKind.i64 1001)), (2, Go.Operand.const (Go.Value.int Go.IntKind.i64 2))], type := 36, pos := "l9_cover.go:202", after := #[], guard := none }) rfl rfl (by kernel_rfl) (fun K hK => ?_) (fun K hK => ?_)
          · skip
            go_simp
            refine (bl_alo HBL.out hBl (by omega) (by first | (simp; done) | rfl)).mono ?_
            rintro e w4 ⟨p, rfl, hpb, hb⟩
            replace HBL := Lib.hid hb; clear hb
            refine hK.out _ _ (Or.inr ?khHeld6) (fun hHeld6S => ?_)
            case khHeld6 => exact (bx_cells HBL.out.1).1
            have hHeld6 := hHeld6S.held (by kernel_rfl)
            clear hK K
            try simp only [Act.put, List.setIfInBounds_toArray, List.set_cons_zero, List.set_cons_succ]
            refine wpG_one (i := 6) (o := { dst := some 32, op := Go.Op.buildSlice 36 3 #[(0, Go.Operand.const (Go.Value.int Go.IntKind.i64 1000)), (1, Go.Operand.const (Go.Value.int Go.IntKind.i64 1001)), (2, Go.Operand.const (Go.Value.int Go.IntKind.i64 2))], type := 36, pos := "l9_cover.go:202", after := #[], guard := none }) rfl (by kernel_rfl) (fun K hK => ?_)
            go_simp
            replace HBL := Lib.hid (bl_hi HBL.out)
            refine hK.out _ _ (Or.inr ?khHeld7) (fun hHeld7S => ?_)
            case khHeld7 => exact (bx_cells HBL.out.1).1
            have hHeld7 := hHeld7S.held (by kernel_rfl)
            clear hK K
            try simp only [Act.put, List.setIfInBounds_toArray, List.set_cons_zero, List.set_cons_succ]
            refine wpG_one (i := 7) (o := { dst := some 33, op := Go.Op.call { callee := Go.Callee.value (Go.Operand.func 76), args := #[Go.Operand.tmp 31, Go.Operand.tmp 32], argTypes := #[74, 36] }, type := 3, pos := "l9_cover.go:202", after := #[{ on := 5, ground := Go.Ground.data }, { on := 6, ground := Go.Ground.data }, { on := 4, ground := Go.Ground.chain }], guard := none }) rfl (by kernel_rfl) (fun K hK => ?_)
            go_simp
            refine (bl_ahi HBL.out hBl (by omega) (by first | (simp; done) | rfl)).mono ?_
            rintro e w5 ⟨q, rfl, hqb, hb⟩
            replace HBL := Lib.hid hb; clear hb
            refine hK.out _ _ (Or.inr ?khHeld8) (fun hHeld8S => ?_)
            case khHeld8 => exact (bx_cells HBL.out.1).1
            have hHeld8 := hHeld8S.held (by kernel_rfl)
            clear hK K
            try simp only [Act.put, List.setIfInBounds_toArray, List.set_cons_zero, List.set_cons_succ]
            refine wpG_pure (i := 8) (oi := { dst := some 34, op := Go.Op.build 64 #[(0, Go.Operand.tmp 30), (1, Go.Operand.tmp 33)], type := 64, pos := "l9_cover.go:202", after := #[{ on := 4, ground := Go.Ground.data }, { on := 7, ground := Go.Ground.data }], guard := none }) (v := ?vg9) rfl (by kernel_rfl) (fun _ _ _ h => h) (Or.inr hHeld8) (Or.inl ⟨by rfl, ?yg9⟩) ?_
            case yg9 => (intro wS _; go_simp <;> with_reducible rfl)
            try simp only [Act.put, List.setIfInBounds_toArray, List.set_cons_zero, List.set_cons_succ]
            refine wpG_pure (i := 9) (oi := { dst := some 35, op := Go.Op.indexAddr 26 (Go.Operand.tmp 27) (Go.Operand.const (Go.Value.int Go.IntKind.i64 0)), type := 0, pos := "l9_cover.go:202", after := #[{ on := 1, ground := Go.Ground.data }, { on := 0, ground := Go.Ground.phase }, { on := 1, ground := Go.Ground.phase }, { on := 2, ground := Go.Ground.phase }, { on := 3, ground := Go.Ground.phase }, { on := 4, ground := Go.Ground.phase }, { on := 5, ground := Go.Ground.phase }, { on := 6, ground := Go.Ground.phase }, { on := 7, ground := Go.Ground.phase }, { on := 8, ground := Go.Ground.phase }], guard := none }) (v := ?vg10) rfl (by kernel_rfl) (fun _ _ _ h => h) (Or.inr hHeld8) (Or.inl ⟨by rfl, ?yg10⟩) ?_
            case yg10 => (intro wS _; go_simp <;> with_reducible rfl)
            try simp only [Act.put, List.setIfInBounds_toArray, List.set_cons_zero, List.set_cons_succ]
            refine wpG_one (i := 10) (o := { dst := none, op := Go.Op.store 64 (Go.Operand.tmp 35) (Go.Operand.tmp 34), type := 0, pos := "l9_cover.go:202", after := #[{ on := 9, ground := Go.Ground.data }, { on := 8, ground := Go.Ground.data }, { on := 7, ground := Go.Ground.chain }, { on := 0, ground := Go.Ground.phase }, { on := 1, ground := Go.Ground.phase }, { on := 2, ground := Go.Ground.phase }, { on := 3, ground := Go.Ground.phase }, { on := 4, ground := Go.Ground.phase }, { on := 5, ground := Go.Ground.phase }, { on := 6, ground := Go.Ground.phase }, { on := 7, ground := Go.Ground.phase }, { on := 8, ground := Go.Ground.phase }], guard := none }) rfl (by kernel_rfl) (fun K hK => ?_)
            obtain ⟨k0, k1, f0, f1⟩ := bl_row HBL.out (by rw [HXL.out]; omega) HXL.out
            go_simp
            refine hK.out _ _ (Or.inl (by kernel_rfl)) (fun _ => ?_)
            clear hK K
            try simp only [Act.put, List.setIfInBounds_toArray, List.set_cons_zero, List.set_cons_succ]
            refine wpG_done (by kernel_rfl) ?_
            have HBS := Lib.hid (bx_first' HBL.out.1 hBl HXL.out (by omega) p q)
            have HSB2 : Hid (∀ u ∈ (p, q) :: xs.tail, (-2000 ≤ u.1 ∧ u.1 ≤ 2000) ∧ (-2000 ≤ u.2 ∧ u.2 ≤ 2000)) := Lib.hid (fun u hu => by rcases List.mem_cons.1 hu with rfl | hu; exact ⟨hpb, hqb⟩; exact HSB.out u (List.mem_of_mem_tail hu))
            have hln : ((p, q) :: xs.tail).length = 3 := by rw [List.length_cons, List.length_tail, HXL.out]
            clear HBL k0 k1 f0 f1
            generalize (w5.setCell ⟨g, 0, none⟩ (.int .i64 p)).setCell ⟨g, 1, none⟩ (.int .i64 q) = w6 at *
            obtain ⟨d0, e0, d1, e1⟩ := bx_cells HBS.out
            have HOE := Lib.hid HBS.out.2.1; have HWE := Lib.hid HBS.out.2.2.2.1; have HPE := Lib.hid HBS.out.2.2.2.2
            clear HBS
            go_wp2_with fail
            have hk : (w6.setCell ⟨w.heap.size, 0, none⟩ (.slice (some ⟨g, 0, none⟩) 3 qc)).cell? ⟨w.heap.size, 0, none⟩ = some (.slice (some ⟨g, 0, none⟩) 3 qc) := World.cell?_setCell_same _ _ _ d1
            have w6 : Wrote (fun k => k = w.heap.size) w6 (w6.setCell ⟨w.heap.size, 0, none⟩ (.slice (some ⟨g, 0, none⟩) 3 qc)) := wrote_cell _ _ _ _
            refine bodyPost_ret (v := .agg #[.slice (some ⟨g, 0, none⟩) 3 qc]) (by simp [results, Try.results61, go_sem, hk]) rfl ⟨_, ((p, q) :: xs.tail), rfl, ?_, hln, HSB2.out, ?_, ?_⟩
            · exact own_mono (ownsRow_setCell_below HOE.out (a := ⟨w.heap.size, 0, none⟩) (by simp) _) (by omega)
            · exact (pc_grown (n := w.heap.size) HPE.out hBl (row := some w.heap.size) ⟨w6.os, w6.tape, w6.output, w6.size, fun k hk hs => w6.block k hk (fun e => hs (by rw [e]))⟩ (fun k hk => by simp only [Option.some.injEq] at hk; omega)).mono (by omega)
            · exact HWE.out.trans (w6.mono fun k _ hk => .inr (by omega))
          · skip
            go_simp
            replace HBL := Lib.hid (bl_hi HBL.out)
            refine hK.out _ _ (Or.inr ?khHeld12) (fun hHeld12S => ?_)
            case khHeld12 => exact (bx_cells HBL.out.1).1
            have hHeld12 := hHeld12S.held (by kernel_rfl)
            clear hK K
            try simp only [Act.put, List.setIfInBounds_toArray, List.set_cons_zero, List.set_cons_succ]
            refine wpG_one (i := 4) (o := { dst := some 30, op := Go.Op.call { callee := Go.Callee.value (Go.Operand.func 76), args := #[Go.Operand.tmp 28, Go.Operand.tmp 29], argTypes := #[74, 36] }, type := 3, pos := "l9_cover.go:202", after := #[{ on := 2, ground := Go.Ground.data }, { on := 3, ground := Go.Ground.data }], guard := none }) rfl (by kernel_rfl) (fun K hK => ?_)
            go_simp
            refine (bl_alo HBL.out hBl (by omega) (by first | (simp; done) | rfl)).mono ?_
            rintro e w4 ⟨p, rfl, hpb, hb⟩
            replace HBL := Lib.hid hb; clear hb
            refine hK.out _ _ (Or.inr ?khHeld13) (fun hHeld13S => ?_)
            case khHeld13 => exact (bx_cells HBL.out.1).1
            have hHeld13 := hHeld13S.held (by kernel_rfl)
            clear hK K
            try simp only [Act.put, List.setIfInBounds_toArray, List.set_cons_zero, List.set_cons_succ]
            refine wpG_one (i := 7) (o := { dst := some 33, op := Go.Op.call { callee := Go.Callee.value (Go.Operand.func 76), args := #[Go.Operand.tmp 31, Go.Operand.tmp 32], argTypes := #[74, 36] }, type := 3, pos := "l9_cover.go:202", after := #[{ on := 5, ground := Go.Ground.data }, { on := 6, ground := Go.Ground.data }, { on := 4, ground := Go.Ground.chain }], guard := none }) rfl (by kernel_rfl) (fun K hK => ?_)
            go_simp
            refine (bl_ahi HBL.out hBl (by omega) (by first | (simp; done) | rfl)).mono ?_
            rintro e w5 ⟨q, rfl, hqb, hb⟩
            replace HBL := Lib.hid hb; clear hb
            refine hK.out _ _ (Or.inr ?khHeld14) (fun hHeld14S => ?_)
            case khHeld14 => exact (bx_cells HBL.out.1).1
            have hHeld14 := hHeld14S.held (by kernel_rfl)
            clear hK K
            try simp only [Act.put, List.setIfInBounds_toArray, List.set_cons_zero, List.set_cons_succ]
            refine wpG_pure (i := 8) (oi := { dst := some 34, op := Go.Op.build 64 #[(0, Go.Operand.tmp 30), (1, Go.Operand.tmp 33)], type := 64, pos := "l9_cover.go:202", after := #[{ on := 4, ground := Go.Ground.data }, { on := 7, ground := Go.Ground.data }], guard := none }) (v := ?vg15) rfl (by kernel_rfl) (fun _ _ _ h => h) (Or.inr hHeld14) (Or.inl ⟨by rfl, ?yg15⟩) ?_
            case yg15 => (intro wS _; go_simp <;> with_reducible rfl)
            try simp only [Act.put, List.setIfInBounds_toArray, List.set_cons_zero, List.set_cons_succ]
            refine wpG_pure (i := 9) (oi := { dst := some 35, op := Go.Op.indexAddr 26 (Go.Operand.tmp 27) (Go.Operand.const (Go.Value.int Go.IntKind.i64 0)), type := 0, pos := "l9_cover.go:202", after := #[{ on := 1, ground := Go.Ground.data }, { on := 0, ground := Go.Ground.phase }, { on := 1, ground := Go.Ground.phase }, { on := 2, ground := Go.Ground.phase }, { on := 3, ground := Go.Ground.phase }, { on := 4, ground := Go.Ground.phase }, { on := 5, ground := Go.Ground.phase }, { on := 6, ground := Go.Ground.phase }, { on := 7, ground := Go.Ground.phase }, { on := 8, ground := Go.Ground.phase }], guard := none }) (v := ?vg16) rfl (by kernel_rfl) (fun _ _ _ h => h) (Or.inr hHeld14) (Or.inl ⟨by rfl, ?yg16⟩) ?_
            case yg16 => (intro wS _; go_simp <;> with_reducible rfl)
            try simp only [Act.put, List.setIfInBounds_toArray, List.set_cons_zero, List.set_cons_succ]
            refine wpG_one (i := 10) (o := { dst := none, op := Go.Op.store 64 (Go.Operand.tmp 35) (Go.Operand.tmp 34), type := 0, pos := "l9_cover.go:202", after := #[{ on := 9, ground := Go.Ground.data }, { on := 8, ground := Go.Ground.data }, { on := 7, ground := Go.Ground.chain }, { on := 0, ground := Go.Ground.phase }, { on := 1, ground := Go.Ground.phase }, { on := 2, ground := Go.Ground.phase }, { on := 3, ground := Go.Ground.phase }, { on := 4, ground := Go.Ground.phase }, { on := 5, ground := Go.Ground.phase }, { on := 6, ground := Go.Ground.phase }, { on := 7, ground := Go.Ground.phase }, { on := 8, ground := Go.Ground.phase }], guard := none }) rfl (by kernel_rfl) (fun K hK => ?_)
            obtain ⟨k0, k1, f0, f1⟩ := bl_row HBL.out (by rw [HXL.out]; omega) HXL.out
            go_simp
            refine hK.out _ _ (Or.inl (by kernel_rfl)) (fun _ => ?_)
            clear hK K
            try simp only [Act.put, List.setIfInBounds_toArray, List.set_cons_zero, List.set_cons_succ]
            refine wpG_done (by kernel_rfl) ?_
            have HBS := Lib.hid (bx_first' HBL.out.1 hBl HXL.out (by omega) p q)
            have HSB2 : Hid (∀ u ∈ (p, q) :: xs.tail, (-2000 ≤ u.1 ∧ u.1 ≤ 2000) ∧ (-2000 ≤ u.2 ∧ u.2 ≤ 2000)) := Lib.hid (fun u hu => by rcases List.mem_cons.1 hu with rfl | hu; exact ⟨hpb, hqb⟩; exact HSB.out u (List.mem_of_mem_tail hu))
            have hln : ((p, q) :: xs.tail).length = 3 := by rw [List.length_cons, List.length_tail, HXL.out]
            clear HBL k0 k1 f0 f1
            generalize (w5.setCell ⟨g, 0, none⟩ (.int .i64 p)).setCell ⟨g, 1, none⟩ (.int .i64 q) = w6 at *
            obtain ⟨d0, e0, d1, e1⟩ := bx_cells HBS.out
            have HOE := Lib.hid HBS.out.2.1; have HWE := Lib.hid HBS.out.2.2.2.1; have HPE := Lib.hid HBS.out.2.2.2.2
            clear HBS
            go_wp2_with fail
            have hk : (w6.setCell ⟨w.heap.size, 0, none⟩ (.slice (some ⟨g, 0, none⟩) 3 qc)).cell? ⟨w.heap.size, 0, none⟩ = some (.slice (some ⟨g, 0, none⟩) 3 qc) := World.cell?_setCell_same _ _ _ d1
            have w6 : Wrote (fun k => k = w.heap.size) w6 (w6.setCell ⟨w.heap.size, 0, none⟩ (.slice (some ⟨g, 0, none⟩) 3 qc)) := wrote_cell _ _ _ _
            refine bodyPost_ret (v := .agg #[.slice (some ⟨g, 0, none⟩) 3 qc]) (by simp [results, Try.results61, go_sem, hk]) rfl ⟨_, ((p, q) :: xs.tail), rfl, ?_, hln, HSB2.out, ?_, ?_⟩
            · exact own_mono (ownsRow_setCell_below HOE.out (a := ⟨w.heap.size, 0, none⟩) (by simp) _) (by omega)
            · exact (pc_grown (n := w.heap.size) HPE.out hBl (row := some w.heap.size) ⟨w6.os, w6.tape, w6.output, w6.size, fun k hk hs => w6.block k hk (fun e => hs (by rw [e]))⟩ (fun k hk => by simp only [Option.some.injEq] at hk; omega)).mono (by omega)
            · exact HWE.out.trans (w6.mono fun k _ hk => .inr (by omega))
        · skip
          go_simp
          replace HBL := Lib.hid (bl_hi HBL.out)
          refine hK.out _ _ (Or.inr ?khHeld18) (fun hHeld18S => ?_)
          case khHeld18 => exact (bx_cells HBL.out.1).1
          have hHeld18 := hHeld18S.held (by kernel_rfl)
          clear hK K
          try simp only [Act.put, List.setIfInBounds_toArray, List.set_cons_zero, List.set_cons_succ]
          refine wpG_one (i := 3) (o := { dst := some 29, op := Go.Op.buildSlice 36 3 #[(0, Go.Operand.const (Go.Value.int Go.IntKind.i64 (-1001))), (1, Go.Operand.const (Go.Value.int Go.IntKind.i64 (-1000))), (2, Go.Operand.const (Go.Value.int Go.IntKind.i64 3))], type := 36, pos := "l9_cover.go:202", after := #[], guard := none }) rfl (by kernel_rfl) (fun K hK => ?_)
          go_simp
          replace HBL := Lib.hid (bl_lo HBL.out)
          refine hK.out _ _ (Or.inr ?khHeld19) (fun hHeld19S => ?_)
          case khHeld19 => exact (bx_cells HBL.out.1).1
          have hHeld19 := hHeld19S.held (by kernel_rfl)
          clear hK K
          try simp only [Act.put, List.setIfInBounds_toArray, List.set_cons_zero, List.set_cons_succ]
          refine wpG_one (i := 4) (o := { dst := some 30, op := Go.Op.call { callee := Go.Callee.value (Go.Operand.func 76), args := #[Go.Operand.tmp 28, Go.Operand.tmp 29], argTypes := #[74, 36] }, type := 3, pos := "l9_cover.go:202", after := #[{ on := 2, ground := Go.Ground.data }, { on := 3, ground := Go.Ground.data }], guard := none }) rfl (by kernel_rfl) (fun K hK => ?_)
          go_simp
          refine (bl_alo HBL.out hBl (by omega) (by first | (simp; done) | rfl)).mono ?_
          rintro e w4 ⟨p, rfl, hpb, hb⟩
          replace HBL := Lib.hid hb; clear hb
          refine hK.out _ _ (Or.inr ?khHeld20) (fun hHeld20S => ?_)
          case khHeld20 => exact (bx_cells HBL.out.1).1
          have hHeld20 := hHeld20S.held (by kernel_rfl)
          clear hK K
          try simp only [Act.put, List.setIfInBounds_toArray, List.set_cons_zero, List.set_cons_succ]
          refine wpG_one (i := 7) (o := { dst := some 33, op := Go.Op.call { callee := Go.Callee.value (Go.Operand.func 76), args := #[Go.Operand.tmp 31, Go.Operand.tmp 32], argTypes := #[74, 36] }, type := 3, pos := "l9_cover.go:202", after := #[{ on := 5, ground := Go.Ground.data }, { on := 6, ground := Go.Ground.data }, { on := 4, ground := Go.Ground.chain }], guard := none }) rfl (by kernel_rfl) (fun K hK => ?_)
          go_simp
          refine (bl_ahi HBL.out hBl (by omega) (by first | (simp; done) | rfl)).mono ?_
          rintro e w5 ⟨q, rfl, hqb, hb⟩
          replace HBL := Lib.hid hb; clear hb
          refine hK.out _ _ (Or.inr ?khHeld21) (fun hHeld21S => ?_)
          case khHeld21 => exact (bx_cells HBL.out.1).1
          have hHeld21 := hHeld21S.held (by kernel_rfl)
          clear hK K
          try simp only [Act.put, List.setIfInBounds_toArray, List.set_cons_zero, List.set_cons_succ]
          refine wpG_pure (i := 8) (oi := { dst := some 34, op := Go.Op.build 64 #[(0, Go.Operand.tmp 30), (1, Go.Operand.tmp 33)], type := 64, pos := "l9_cover.go:202", after := #[{ on := 4, ground := Go.Ground.data }, { on := 7, ground := Go.Ground.data }], guard := none }) (v := ?vg22) rfl (by kernel_rfl) (fun _ _ _ h => h) (Or.inr hHeld21) (Or.inl ⟨by rfl, ?yg22⟩) ?_
          case yg22 => (intro wS _; go_simp <;> with_reducible rfl)
          try simp only [Act.put, List.setIfInBounds_toArray, List.set_cons_zero, List.set_cons_succ]
          refine wpG_pure (i := 9) (oi := { dst := some 35, op := Go.Op.indexAddr 26 (Go.Operand.tmp 27) (Go.Operand.const (Go.Value.int Go.IntKind.i64 0)), type := 0, pos := "l9_cover.go:202", after := #[{ on := 1, ground := Go.Ground.data }, { on := 0, ground := Go.Ground.phase }, { on := 1, ground := Go.Ground.phase }, { on := 2, ground := Go.Ground.phase }, { on := 3, ground := Go.Ground.phase }, { on := 4, ground := Go.Ground.phase }, { on := 5, ground := Go.Ground.phase }, { on := 6, ground := Go.Ground.phase }, { on := 7, ground := Go.Ground.phase }, { on := 8, ground := Go.Ground.phase }], guard := none }) (v := ?vg23) rfl (by kernel_rfl) (fun _ _ _ h => h) (Or.inr hHeld21) (Or.inl ⟨by rfl, ?yg23⟩) ?_
          case yg23 => (intro wS _; go_simp <;> with_reducible rfl)
          try simp only [Act.put, List.setIfInBounds_toArray, List.set_cons_zero, List.set_cons_succ]
          refine wpG_one (i := 10) (o := { dst := none, op := Go.Op.store 64 (Go.Operand.tmp 35) (Go.Operand.tmp 34), type := 0, pos := "l9_cover.go:202", after := #[{ on := 9, ground := Go.Ground.data }, { on := 8, ground := Go.Ground.data }, { on := 7, ground := Go.Ground.chain }, { on := 0, ground := Go.Ground.phase }, { on := 1, ground := Go.Ground.phase }, { on := 2, ground := Go.Ground.phase }, { on := 3, ground := Go.Ground.phase }, { on := 4, ground := Go.Ground.phase }, { on := 5, ground := Go.Ground.phase }, { on := 6, ground := Go.Ground.phase }, { on := 7, ground := Go.Ground.phase }, { on := 8, ground := Go.Ground.phase }], guard := none }) rfl (by kernel_rfl) (fun K hK => ?_)
          obtain ⟨k0, k1, f0, f1⟩ := bl_row HBL.out (by rw [HXL.out]; omega) HXL.out
          go_simp
          refine hK.out _ _ (Or.inl (by kernel_rfl)) (fun _ => ?_)
          clear hK K
          try simp only [Act.put, List.setIfInBounds_toArray, List.set_cons_zero, List.set_cons_succ]
          refine wpG_done (by kernel_rfl) ?_
          have HBS := Lib.hid (bx_first' HBL.out.1 hBl HXL.out (by omega) p q)
          have HSB2 : Hid (∀ u ∈ (p, q) :: xs.tail, (-2000 ≤ u.1 ∧ u.1 ≤ 2000) ∧ (-2000 ≤ u.2 ∧ u.2 ≤ 2000)) := Lib.hid (fun u hu => by rcases List.mem_cons.1 hu with rfl | hu; exact ⟨hpb, hqb⟩; exact HSB.out u (List.mem_of_mem_tail hu))
          have hln : ((p, q) :: xs.tail).length = 3 := by rw [List.length_cons, List.length_tail, HXL.out]
          clear HBL k0 k1 f0 f1
          generalize (w5.setCell ⟨g, 0, none⟩ (.int .i64 p)).setCell ⟨g, 1, none⟩ (.int .i64 q) = w6 at *
          obtain ⟨d0, e0, d1, e1⟩ := bx_cells HBS.out
          have HOE := Lib.hid HBS.out.2.1; have HWE := Lib.hid HBS.out.2.2.2.1; have HPE := Lib.hid HBS.out.2.2.2.2
          clear HBS
          go_wp2_with fail
          have hk : (w6.setCell ⟨w.heap.size, 0, none⟩ (.slice (some ⟨g, 0, none⟩) 3 qc)).cell? ⟨w.heap.size, 0, none⟩ = some (.slice (some ⟨g, 0, none⟩) 3 qc) := World.cell?_setCell_same _ _ _ d1
          have w6 : Wrote (fun k => k = w.heap.size) w6 (w6.setCell ⟨w.heap.size, 0, none⟩ (.slice (some ⟨g, 0, none⟩) 3 qc)) := wrote_cell _ _ _ _
          refine bodyPost_ret (v := .agg #[.slice (some ⟨g, 0, none⟩) 3 qc]) (by simp [results, Try.results61, go_sem, hk]) rfl ⟨_, ((p, q) :: xs.tail), rfl, ?_, hln, HSB2.out, ?_, ?_⟩
          · exact own_mono (ownsRow_setCell_below HOE.out (a := ⟨w.heap.size, 0, none⟩) (by simp) _) (by omega)
          · exact (pc_grown (n := w.heap.size) HPE.out hBl (row := some w.heap.size) ⟨w6.os, w6.tape, w6.output, w6.size, fun k hk hs => w6.block k hk (fun e => hs (by rw [e]))⟩ (fun k hk => by simp only [Option.some.injEq] at hk; omega)).mono (by omega)
          · exact HWE.out.trans (w6.mono fun k _ hk => .inr (by omega))
    go_wp2_with fail
    refine (cur_pick B _ 6 w1 HBS.out.2.2.2.2 (by omega) (by omega)).mono ?_
    rintro e w2 ⟨r, rfl, hr, hp, hw⟩
    replace HBS := Lib.hid (bx_cur HBS.out hBl hw hp); clear hp hw
    obtain ⟨d0, e0, -, -⟩ := bx_cells HBS.out
    have hr5 : r ≤ 5 := by omega
    clear hr
    go_wp2_with fail
    refine wp_region_G [9] (fun w' => w'.cell? ⟨w.heap.size + 1, 0, none⟩ = some (.slice qa i qc)) (by kernel_rfl) ?_ (fun hHeld => ?_)
    · exact d0
    refine wpG_pure (i := 0) (oi := { dst := some 13, op := Go.Op.fieldAddr 28 (Go.Operand.tmp 3) 0, type := 0, pos := "l9_cover.go:199", after := #[], guard := none }) (v := ?vg25) rfl (by kernel_rfl) (fun _ _ _ h => h) (Or.inr hHeld) (Or.inl ⟨by rfl, ?yg25⟩) ?_
    case yg25 => (intro wS _; go_simp <;> with_reducible rfl)
    try simp only [Act.put, List.setIfInBounds_toArray, List.set_cons_zero, List.set_cons_succ]
    refine wpG_load (i := 1) (oi := { dst := some 14, op := Go.Op.load 26 (Go.Operand.tmp 13), type := 26, pos := "l9_cover.go:199", after := #[{ on := 0, ground := Go.Ground.data }], guard := none }) (v := ?vg26) [[9, 1]] rfl (by kernel_rfl) (fun _ _ _ h => h) hHeld (Or.inl ⟨by rfl, ?yg26⟩) ?_
    case yg26 => (intro wS hSw; (try dsimp only at hSw); go_simp <;> with_reducible rfl)
    try simp only [Act.put, List.setIfInBounds_toArray, List.set_cons_zero, List.set_cons_succ]
    refine wpG_pure (i := 2) (oi := { dst := some 15, op := Go.Op.move (Go.Operand.tmp 5), type := 3, pos := "l9_cover.go:199", after := #[], guard := none }) (v := ?vg27) rfl (by kernel_rfl) (fun _ _ _ h => h) (Or.inr hHeld) (Or.inl ⟨by rfl, ?yg27⟩) ?_
    case yg27 => (intro wS _; go_simp <;> with_reducible rfl)
    try simp only [Act.put, List.setIfInBounds_toArray, List.set_cons_zero, List.set_cons_succ]
    refine wpG_pure (i := 3) (oi := { dst := some 16, op := Go.Op.move (Go.Operand.tmp 5), type := 3, pos := "l9_cover.go:199", after := #[], guard := none }) (v := ?vg28) rfl (by kernel_rfl) (fun _ _ _ h => h) (Or.inr hHeld) (Or.inl ⟨by rfl, ?yg28⟩) ?_
    case yg28 => (intro wS _; go_simp <;> with_reducible rfl)
    try simp only [Act.put, List.setIfInBounds_toArray, List.set_cons_zero, List.set_cons_succ]
    refine wpG_pure (i := 4) (oi := { dst := some 17, op := Go.Op.move (Go.Operand.tmp 0), type := 74, pos := "l9_cover.go:199", after := #[], guard := none }) (v := ?vg29) rfl (by kernel_rfl) (fun _ _ _ h => h) (Or.inr hHeld) (Or.inl ⟨by rfl, ?yg29⟩) ?_
    case yg29 => (intro wS _; go_simp <;> with_reducible rfl)
    try simp only [Act.put, List.setIfInBounds_toArray, List.set_cons_zero, List.set_cons_succ]
    refine wpG_one (i := 5) (o := { dst := some 18, op := Go.Op.call { callee := Go.Callee.value (Go.Operand.func 75), args := #[Go.Operand.tmp 17, Go.Operand.const (Go.Value.int Go.IntKind.i64 5)], argTypes := #[74, 3] }, type := 3, pos := "l9_cover.go:199", after := #[{ on := 4, ground := Go.Ground.data }], guard := none }) rfl (by kernel_rfl) (fun K hK => ?_)
    go_simp
    refine (cur_pick B (KQ + 4 * i + 2) 5 _ (pdrew HBS.out.2.2.2.2) (by omega) (by omega)).mono ?_
    rintro e w7 ⟨r7, rfl, hr7, hp7, hw7⟩
    have hr4 : r7 ≤ 4 := by omega
    have hwr : IntKind.i64.wrap ((r : Int) + (r7 : Int)) = (r : Int) + (r7 : Int) := IntWalk.i64_in _ (by omega)
    replace HBS := Lib.hid (bx_alloc (bx_cur (bx_drew HBS.out) hBl hw7 hp7) (.cells #[.int .i64 (r : Int), .int .i64 ((r : Int) + (r7 : Int))] 64))
    have HNW := Lib.hid (World.news_of_block (cs := #[Value.int .i64 (r : Int), .int .i64 ((r : Int) + (r7 : Int))]) (t := 64) (fr := (0, 0)) (heap_alloc_new w7 (.cells #[.int .i64 (r : Int), .int .i64 ((r : Int) + (r7 : Int))] 64)))
    have d7 := hw7.cell d0 (by omega)
    clear hp7 hw7 hr7
    refine hK.out _ _ (Or.inr ?khHeld30) (fun hHeld30S => ?_)
    case khHeld30 => exact d7
    have hHeld30 := hHeld30S.held (by kernel_rfl)
    clear hK K
    try simp only [Act.put, List.setIfInBounds_toArray, List.set_cons_zero, List.set_cons_succ]
    refine wpG_pure (i := 6) (oi := { dst := some 19, op := Go.Op.binOp Go.BinOp.add 3 (Go.Operand.tmp 16) (Go.Operand.tmp 18) 3, type := 3, pos := "l9_cover.go:199", after := #[{ on := 3, ground := Go.Ground.data }, { on := 5, ground := Go.Ground.data }], guard := none }) (v := ?vg31) rfl (by kernel_rfl) (fun _ _ _ h => h) (Or.inr hHeld30) (Or.inl ⟨by rfl, ?yg31⟩) ?_
    case yg31 => (intro wS _; go_simp <;> with_reducible rfl)
    try simp only [Act.put, List.setIfInBounds_toArray, List.set_cons_zero, List.set_cons_succ]
    refine wpG_pure (i := 7) (oi := { dst := some 20, op := Go.Op.build 64 #[(0, Go.Operand.tmp 15), (1, Go.Operand.tmp 19)], type := 64, pos := "l9_cover.go:199", after := #[{ on := 2, ground := Go.Ground.data }, { on := 6, ground := Go.Ground.data }], guard := none }) (v := ?vg32) rfl (by kernel_rfl) (fun _ _ _ h => h) (Or.inr hHeld30) (Or.inl ⟨by rfl, ?yg32⟩) ?_
    case yg32 => (intro wS _; go_simp <;> with_reducible rfl)
    try simp only [Act.put, List.setIfInBounds_toArray, List.set_cons_zero, List.set_cons_succ]
    refine wpG_one (i := 8) (o := { dst := some 21, op := Go.Op.buildSlice 26 1 #[(0, Go.Operand.tmp 20)], type := 26, pos := "l9_cover.go:199", after := #[{ on := 7, ground := Go.Ground.data }], guard := none }) rfl (by kernel_rfl) (fun K hK => ?_)
    go_simp
    refine hK.out _ _ (Or.inr ?khHeld33) (fun hHeld33S => ?_)
    case khHeld33 => exact (bx_cells HBS.out).1
    have hHeld33 := hHeld33S.held (by kernel_rfl)
    clear hK K
    try simp only [Act.put, List.setIfInBounds_toArray, List.set_cons_zero, List.set_cons_succ]
    refine wpG_one (i := 9) (o := { dst := some 22, op := Go.Op.call { callee := Go.Callee.builtin Go.Builtin.append, args := #[Go.Operand.tmp 14, Go.Operand.tmp 21], argTypes := #[26, 26] }, type := 26, pos := "l9_cover.go:199", after := #[{ on := 1, ground := Go.Ground.data }, { on := 8, ground := Go.Ground.data }, { on := 5, ground := Go.Ground.chain }], guard := none }) rfl (by kernel_rfl) (fun K hK => ?_)
    refine step_append_lies _ rfl (.tmp 14) (.tmp 21) 26 rfl (w.heap.size + 2) 64 i0 (.agg #[.int .i64 0, .int .i64 0]) 2 16 Try.underlying26 hi hz0 hz1 hz2 rfl (by decide) _ i (sds xs) rfl (by have := HBS.out.2.1; rw [HXL.out] at this; exact this) ⟨w7.heap.size, 0, none⟩ 1 1 [.int .i64 (r : Int), .int .i64 ((r : Int) + (r7 : Int))] rfl rfl HNW.out (by simp [Value.oneCell']) (by omega) (by unfold maxLen; omega) (by omega) (by have := HBS.out.2.2.2.1.size; have := (Array.getElem?_eq_some_iff.1 HBS.out.1).1; omega) (w7.heap.size + 1) (by simp) ?_
    intro g8 c8 w8 hown hgrow _ _
    obtain ⟨d8, e8⟩ := bx_mid HBS.out hgrow
    have HG8 : Hid (BX w B (KQ + 4 * i + 2 + 2) (.slice (some ⟨g8, 0, none⟩) (i + 1) c8) (xs ++ [((r : Int), (r : Int) + (r7 : Int))]) (w8.setCell ⟨w.heap.size + 1, 0, none⟩ (.slice (some ⟨g8, 0, none⟩) (i + 1) c8))) := Lib.hid (bx_grow HBS.out hBl (by rw [sds_snoc, List.length_append, HXL.out]; exact hown) hgrow)
    clear hown hgrow HBS
    refine hK.out _ _ (Or.inl (by kernel_rfl)) (fun _ => ?_)
    clear hK K
    try simp only [Act.put, List.setIfInBounds_toArray, List.set_cons_zero, List.set_cons_succ]
    refine wpG_pure (i := 10) (oi := { dst := some 23, op := Go.Op.fieldAddr 28 (Go.Operand.tmp 3) 0, type := 0, pos := "l9_cover.go:199", after := #[{ on := 0, ground := Go.Ground.phase }, { on := 1, ground := Go.Ground.phase }, { on := 2, ground := Go.Ground.phase }, { on := 3, ground := Go.Ground.phase }, { on := 4, ground := Go.Ground.phase }, { on := 5, ground := Go.Ground.phase }, { on := 6, ground := Go.Ground.phase }, { on := 7, ground := Go.Ground.phase }, { on := 8, ground := Go.Ground.phase }, { on := 9, ground := Go.Ground.phase }], guard := none }) (v := ?vg35) rfl (by kernel_rfl) (fun _ _ _ h => h) (Or.inl (by kernel_rfl)) (Or.inl ⟨by rfl, ?yg35⟩) ?_
    case yg35 => (intro wS _; go_simp <;> with_reducible rfl)
    try simp only [Act.put, List.setIfInBounds_toArray, List.set_cons_zero, List.set_cons_succ]
    refine wpG_one (i := 11) (o := { dst := none, op := Go.Op.store 26 (Go.Operand.tmp 23) (Go.Operand.tmp 22), type := 0, pos := "l9_cover.go:199", after := #[{ on := 10, ground := Go.Ground.data }, { on := 9, ground := Go.Ground.data }, { on := 9, ground := Go.Ground.chain }, { on := 0, ground := Go.Ground.phase }, { on := 1, ground := Go.Ground.phase }, { on := 2, ground := Go.Ground.phase }, { on := 3, ground := Go.Ground.phase }, { on := 4, ground := Go.Ground.phase }, { on := 5, ground := Go.Ground.phase }, { on := 6, ground := Go.Ground.phase }, { on := 7, ground := Go.Ground.phase }, { on := 8, ground := Go.Ground.phase }, { on := 9, ground := Go.Ground.phase }], guard := none }) rfl (by kernel_rfl) (fun K hK => ?_)
    go_simp
    refine hK.out _ _ (Or.inl (by kernel_rfl)) (fun _ => ?_)
    clear hK K
    try simp only [Act.put, List.setIfInBounds_toArray, List.set_cons_zero, List.set_cons_succ]
    refine wpG_done (by kernel_rfl) ?_
    have HSB2 : Hid (∀ p ∈ xs ++ [((r : Int), (r : Int) + (r7 : Int))], (-2000 ≤ p.1 ∧ p.1 ≤ 2000) ∧ (-2000 ≤ p.2 ∧ p.2 ≤ 2000)) := Lib.hid (by
      intro p hp
      rcases List.mem_append.1 hp with hp | hp
      · exact HSB.out p hp
      · simp at hp; subst hp; simp only; omega)
    go_wp2_with fail
    go_roundw
    case rel => exact ⟨i + 1, _, xs ++ [((r : Int), (r : Int) + (r7 : Int))], by omega, by go_num, by rw [List.length_append, HXL.out]; rfl, HG8, HSB2⟩
    case measure => simp [intOf]; omega
end Go.Proofs.Ythlajmncpejhmaa
