/- The draws of schemas: one that may be spoilt. -/
import Derived.Test.YtmlnecopbncdbaaTyN
import Derived.Test.YtmlnecopbncdbaaCur5
namespace Go.Proofs.Ytmlnecopbncdbaa
set_option linter.unusedVariables false
set_option linter.unusedSimpArgs false
open Go.ChangeShapes Go.WideShapes Go.ChangeAt Go.RowKit
set_option maxRecDepth 100000

def Ty.atKind (x : Ty) (v : Int) : Ty := ⟨v, x.name, x.no, x.must, x.up, x.most⟩
def Ty.atName (x : Ty) (v : ByteArray) : Ty := ⟨x.kind, v, x.no, x.must, x.up, x.most⟩
def Ty.atNo (x : Ty) (v : Int) : Ty := ⟨x.kind, x.name, v, x.must, x.up, x.most⟩
def Ty.atMust (x : Ty) (v : Bool) : Ty := ⟨x.kind, x.name, x.no, v, x.up, x.most⟩
def Ty.atUp (x : Ty) (v : Int) : Ty := ⟨x.kind, x.name, x.no, x.must, v, x.most⟩
def Ty.atMost (x : Ty) (v : Int) : Ty := ⟨x.kind, x.name, x.no, x.must, x.up, v⟩
theorem tysV_put (f : Ty → Ty) (j : Nat) (u : Value) (hf : ∀ (x : Ty) (r : List Value), (tyv x ++ r).set j u = tyv (f x) ++ r) : ∀ (L : List Ty) (k : Nat) (x : Ty), L[k]? = some x → (tysV L).set (k * 6 + j) u = tysV (L.set k (f x))
  | [], k, x, h => by simp at h
  | y :: r, 0, x, h => by
    simp at h; subst h
    rw [List.set_cons_zero, Nat.zero_mul, Nat.zero_add]
    exact hf y (tysV r)
  | y :: r, k + 1, x, h => by
    have := tysV_put f j u hf r k x (by simpa using h)
    rw [List.set_cons_succ, tysV_cons, tysV_cons, ← this]
    rw [show (k + 1) * 6 + j = k * 6 + j + 1 + 1 + 1 + 1 + 1 + 1 by omega]
    simp only [List.set_cons_succ]
/-- a schema of one's own under way: its row (block g), the cell that holds it (X), the result's cell (A), the cursor (B) -/
structure SB (w0 : World) (B K A X base n g cap : Nat) (L : List Ty) (w : World) : Prop where
  own : w.ownsRow base 85 6 (.slice (some ⟨g, 0, none⟩) n cap) n (tysV L)
  len : L.length = n
  nm : ∀ x ∈ L, x.name.size ≤ maxLen
  box : w.heap[X]? = some (.cells #[.slice (some ⟨g, 0, none⟩) n cap] 28)
  res : w.heap[A]? = some (.cells #[.slice none 0 0] 28)
  cur : PC w B K
  wr : Wrote (fun k => k = B) w0 w
  hB : B < w0.heap.size
  hA : w0.heap.size ≤ A
  hX : A < X
  hb : A < base
  hg : g ≠ X
theorem SB.ge {w0 w : World} {B K A X base n g cap : Nat} {L : List Ty} (h : SB w0 B K A X base n g cap L w) : base ≤ g ∧ g < w.heap.size := h.own.lt g rfl
theorem SB.wrote {w0 w w' : World} {B K K' A X base n g cap : Nat} {L : List Ty} (h : SB w0 B K A X base n g cap L w) (hw : Wrote (fun k => k = B) w w') (hp : PC w' B K') : SB w0 B K' A X base n g cap L w' := by
  have hge := h.ge
  have h1 := h.hB; have h2 := h.hA; have h3 := h.hX; have h4 := h.hb
  have hxl := hp_lt h.box
  exact ⟨hw.own h.own (fun k hk e => by simp only [Value.ownBlock, Option.some.injEq] at hk; omega), h.len, h.nm, (hw.block X hxl (by omega)).trans h.box, (hw.block A (hp_lt h.res) (by omega)).trans h.res, hp, h.wr.trans hw, h.hB, h.hA, h.hX, h.hb, h.hg⟩
theorem SB.later {w0 w w' : World} {B K A X base n g cap : Nat} {L : List Ty} (h : SB w0 B K A X base n g cap L w) (hb : Below w.heap.size w w') : SB w0 B K A X base n g cap L w' :=
  h.wrote (Wrote.of_below hb) (h.cur.later hb)
theorem SB.drew {w0 w : World} {B K A X base n g cap : Nat} {L : List Ty} (h : SB w0 B K A X base n g cap L w) : SB w0 B K A X base n g cap L w.drew := h.later (Below.refl _ _).drew
theorem SB.alloc {w0 w : World} {B K A X base n g cap : Nat} {L : List Ty} (h : SB w0 B K A X base n g cap L w) (o : Obj) : SB w0 B K A X base n g cap L (w.alloc o) := h.later ((Below.refl _ _).alloc (Nat.le_refl _) o)
theorem SB.cell {w0 w : World} {B K A X base n g cap : Nat} {L : List Ty} (h : SB w0 B K A X base n g cap L w) : w.cell? ⟨X, 0, none⟩ = some (.slice (some ⟨g, 0, none⟩) n cap) := by simp [World.cell?, h.box]
theorem SB.at {w0 w : World} {B K A X base n g cap : Nat} {L : List Ty} (h : SB w0 B K A X base n g cap L w) {k : Nat} {x : Ty} (hx : L[k]? = some x) : w.cell? ⟨g, k * 6, none⟩ = some (.int .i64 x.kind) ∧ w.cell? ⟨g, k * 6 + 1, none⟩ = some (.string x.name) ∧ w.cell? ⟨g, k * 6 + 2, none⟩ = some (.int .i64 x.no) ∧ w.cell? ⟨g, k * 6 + 3, none⟩ = some (.bool x.must) ∧ w.cell? ⟨g, k * 6 + 4, none⟩ = some (.int .i64 x.up) ∧ w.cell? ⟨g, k * 6 + 5, none⟩ = some (.int .i64 x.most) := by
  have hl := h.len
  have hk := (List.getElem?_eq_some_iff.1 hx).1
  obtain ⟨a0, a1, a2, a3, a4, a5⟩ := tysV_at L k x hx
  refine ⟨?_, ?_, ?_, ?_, ?_, ?_⟩
  · rw [h.own.cellAt _ (by omega)]; exact a0
  · rw [h.own.cellAt _ (by omega)]; exact a1
  · rw [h.own.cellAt _ (by omega)]; exact a2
  · rw [h.own.cellAt _ (by omega)]; exact a3
  · rw [h.own.cellAt _ (by omega)]; exact a4
  · rw [h.own.cellAt _ (by omega)]; exact a5
theorem SB.frz {w0 w : World} {B K A X base n g cap : Nat} {L : List Ty} (h : SB w0 B K A X base n g cap L w) (j : Nat) : w.frozen? ⟨g, j, none⟩ = false := h.own.frozenAt j
theorem SB.put {w0 w : World} {B K A X base n g cap : Nat} {L : List Ty} (h : SB w0 B K A X base n g cap L w) {k j : Nat} {u : Value} {L' : List Ty} (hs : (tysV L).set (k * 6 + j) u = tysV L') (hl : L'.length = L.length) (hn : ∀ x ∈ L', x.name.size ≤ maxLen) : SB w0 B K A X base n g cap L' (w.setCell ⟨g, k * 6 + j, none⟩ u) := by
  have hge := h.ge
  have h1 := h.hB; have h2 := h.hA; have h3 := h.hX; have h4 := h.hb; have h5 := h.hg
  have hws := wrote_cell w g (k * 6 + j) u
  refine ⟨hs ▸ (h.own.stored (k * 6 + j) u).1, hl.trans h.len, hn, (hws.block X (hp_lt h.box) (by omega)).trans h.box, (hws.block A (hp_lt h.res) (by omega)).trans h.res, h.cur.wrote hws (fun k hk => by omega), wrote_new h.wr (X := g) (by omega) _ u, h1, h2, h3, h4, h5⟩
theorem mem_set_nm {L : List Ty} {k : Nat} {y : Ty} (h : ∀ x ∈ L, x.name.size ≤ maxLen) (hy : y.name.size ≤ maxLen) : ∀ x ∈ L.set k y, x.name.size ≤ maxLen := fun x hx => by
  rcases List.mem_or_eq_of_mem_set hx with h1 | h1
  · exact h x h1
  · rw [h1]; exact hy
theorem SB.putKind {w0 w : World} {B K A X base n g cap : Nat} {L : List Ty} (h : SB w0 B K A X base n g cap L w) {k : Nat} {x : Ty} (hx : L[k]? = some x) (v : Int) : SB w0 B K A X base n g cap (L.set k (x.atKind v)) (w.setCell ⟨g, k * 6, none⟩ (.int .i64 v)) :=
  h.put (j := 0) (tysV_put (fun x => x.atKind v) 0 (.int .i64 v) (fun _ _ => rfl) L k x hx) (by simp) (mem_set_nm h.nm (h.nm x (List.mem_of_getElem? hx)))
theorem SB.putName {w0 w : World} {B K A X base n g cap : Nat} {L : List Ty} (h : SB w0 B K A X base n g cap L w) {k : Nat} {x : Ty} (hx : L[k]? = some x) (v : ByteArray) (hv : v.size ≤ maxLen) : SB w0 B K A X base n g cap (L.set k (x.atName v)) (w.setCell ⟨g, k * 6 + 1, none⟩ (.string v)) :=
  h.put (tysV_put (fun x => x.atName v) 1 (.string v) (fun _ _ => rfl) L k x hx) (by simp) (mem_set_nm h.nm hv)
theorem SB.putNo {w0 w : World} {B K A X base n g cap : Nat} {L : List Ty} (h : SB w0 B K A X base n g cap L w) {k : Nat} {x : Ty} (hx : L[k]? = some x) (v : Int) : SB w0 B K A X base n g cap (L.set k (x.atNo v)) (w.setCell ⟨g, k * 6 + 2, none⟩ (.int .i64 v)) :=
  h.put (tysV_put (fun x => x.atNo v) 2 (.int .i64 v) (fun _ _ => rfl) L k x hx) (by simp) (mem_set_nm h.nm (h.nm x (List.mem_of_getElem? hx)))
theorem SB.putMust {w0 w : World} {B K A X base n g cap : Nat} {L : List Ty} (h : SB w0 B K A X base n g cap L w) {k : Nat} {x : Ty} (hx : L[k]? = some x) (v : Bool) : SB w0 B K A X base n g cap (L.set k (x.atMust v)) (w.setCell ⟨g, k * 6 + 3, none⟩ (.bool v)) :=
  h.put (tysV_put (fun x => x.atMust v) 3 (.bool v) (fun _ _ => rfl) L k x hx) (by simp) (mem_set_nm h.nm (h.nm x (List.mem_of_getElem? hx)))
theorem SB.putUp {w0 w : World} {B K A X base n g cap : Nat} {L : List Ty} (h : SB w0 B K A X base n g cap L w) {k : Nat} {x : Ty} (hx : L[k]? = some x) (v : Int) : SB w0 B K A X base n g cap (L.set k (x.atUp v)) (w.setCell ⟨g, k * 6 + 4, none⟩ (.int .i64 v)) :=
  h.put (tysV_put (fun x => x.atUp v) 4 (.int .i64 v) (fun _ _ => rfl) L k x hx) (by simp) (mem_set_nm h.nm (h.nm x (List.mem_of_getElem? hx)))
theorem SB.putMost {w0 w : World} {B K A X base n g cap : Nat} {L : List Ty} (h : SB w0 B K A X base n g cap L w) {k : Nat} {x : Ty} (hx : L[k]? = some x) (v : Int) : SB w0 B K A X base n g cap (L.set k (x.atMost v)) (w.setCell ⟨g, k * 6 + 5, none⟩ (.int .i64 v)) :=
  h.put (tysV_put (fun x => x.atMost v) 5 (.int .i64 v) (fun _ _ => rfl) L k x hx) (by simp) (mem_set_nm h.nm (h.nm x (List.mem_of_getElem? hx)))
/-- the end: the schema is stored as the result -/
theorem SB.done {w0 w : World} {B K A X base n g cap : Nat} {L : List Ty} (h : SB w0 B K A X base n g cap L w) (hb : w0.heap.size ≤ base) :
    w.cell? ⟨A, 0, none⟩ = some (.slice none 0 0) ∧ w.frozen? ⟨A, 0, none⟩ = false ∧ (w.setCell ⟨A, 0, none⟩ (.slice (some ⟨g, 0, none⟩) n cap)).cell? ⟨A, 0, none⟩ = some (.slice (some ⟨g, 0, none⟩) n cap) ∧ (w.setCell ⟨A, 0, none⟩ (.slice (some ⟨g, 0, none⟩) n cap)).ownsRow w0.heap.size 85 6 (.slice (some ⟨g, 0, none⟩) n cap) n (tysV L) ∧ PC (w.setCell ⟨A, 0, none⟩ (.slice (some ⟨g, 0, none⟩) n cap)) B K ∧ Wrote (fun k => k = B) w0 (w.setCell ⟨A, 0, none⟩ (.slice (some ⟨g, 0, none⟩) n cap)) := by
  have hge := h.ge
  have h1 := h.hB; have h2 := h.hA; have h3 := h.hX; have h4 := h.hb; have h5 := h.hg
  have hws := wrote_cell w A 0 (.slice (some ⟨g, 0, none⟩) n cap)
  exact ⟨by simp [World.cell?, h.res], by simp [World.frozen?, h.res], by simp [World.setCell, Array.getElem?_modify, h.res, World.cell?], own_mono (hws.own h.own (fun k hk e => by simp only [Value.ownBlock, Option.some.injEq] at hk; omega)) hb, h.cur.wrote hws (fun k hk => by omega), wrote_new h.wr h2 0 _⟩
theorem ty_own {w : World} {base : Nat} {L : List Ty} {a : Option Addr} {cap : Nat} (h : w.ownsRow base 85 6 (.slice a L.length cap) L.length (tysV L)) (hl : 1 ≤ L.length) : ∃ g, a = some ⟨g, 0, none⟩ ∧ base ≤ g ∧ g < w.heap.size := by
  rcases h.2 with ⟨hv, h0⟩ | ⟨g, cap', cur, hv, hb, hg, _⟩
  · omega
  · cases hv
    exact ⟨g, rfl, hb, hp_lt hg⟩
theorem mk_DrS {B K : Nat} {w w' : World} {L L' : List Ty} {g cap : Nat} (hl : L'.length = L.length) (h1 : 1 ≤ L.length ∧ L.length ≤ 30) (hn : ∀ x ∈ L', x.name.size ≤ maxLen) (ho : w'.ownsRow w.heap.size 85 6 (.slice (some ⟨g, 0, none⟩) L.length cap) L.length (tysV L')) (hp : PC w' B K) (hw : Wrote (fun k => k = B) w w') : DrS B K w (.returned (.agg #[.slice (some ⟨g, 0, none⟩) L.length cap])) w' := by
  rw [← hl] at ho ⊢
  exact ⟨L', _, cap, rfl, by rw [hl]; exact h1, hn, ho, hp, hw⟩
set_option maxHeartbeats 8000000 in
theorem draw_maybe (B K : Nat) (w : World) (h : PC w B K) (hK : K ≤ 700000000000) : Calls Try.prog 48 #[.pointer (some ⟨B, 0, none⟩)] w (DrS B (K + 10100) w) := by
  have hBl := h.lt
  have hB1 := Below.alloc (Below.refl w.heap.size w) (Nat.le_refl _) (.cells #[.slice none 0 0] 28)
  have hX1 := heap_alloc_new w (.cells #[.slice none 0 0] 28)
  generalize hw1 : w.alloc (.cells #[.slice none 0 0] 28) = w1 at *
  have l1 := hp_lt hX1
  have HX1 := Lib.hid hX1
  have HW1 := Lib.hid (Wrote.of_below (S := fun k => k = B) hB1)
  have HSC := Lib.hid (draw_schema B K w1 (h.later hB1) (by omega))
  clear hB1 hX1 h
  go_enter Try.func48, Try.ntmps48
  go_wp2_with fail
  refine HSC.out.mono ?_
  rintro e w2 ⟨L, a, cap, rfl, hll, hnm, ho, hp, hw⟩
  obtain ⟨g, rfl, hgb, hgl⟩ := ty_own ho hll.1
  have HS2 : Hid (SB w B (K + 10000) w.heap.size w2.heap.size w1.heap.size L.length g cap L (w2.alloc (.cells #[.slice (some ⟨g, 0, none⟩) L.length cap] 28))) := Lib.hid (by
    have hb := (Below.refl w2.heap.size w2).alloc (Nat.le_refl _) (.cells #[.slice (some ⟨g, 0, none⟩) L.length cap] 28)
    have hz := hw.size
    exact ⟨ho.alloc _, rfl, hnm, heap_alloc_new w2 _, hp_later hb ((hw.block w.heap.size l1 (by omega)).trans HX1.out), hp.later hb, (HW1.out.trans hw).trans (Wrote.of_below hb), hBl, Nat.le_refl _, by omega, l1, by omega⟩)
  have hcapb := own_cap ho
  clear hnm ho hp hw hgb HSC HX1 HW1
  generalize hw3 : w2.alloc (.cells #[.slice (some ⟨g, 0, none⟩) L.length cap] 28) = w3 at *
  generalize hXe : w2.heap.size = X at *
  have HON := Lib.hid (cur_one B (K + 10000) 12 w3 HS2.out.cur (by omega) (by omega))
  have z0 := HS2.out.cell
  go_wp2_with fail
  refine HON.out.mono ?_
  rintro e w4 ⟨b, rfl, hp, hw⟩
  have HS3 := Lib.hid (HS2.out.wrote hw hp)
  clear hp hw HON HS2 z0 hXe
  cases b with
  | false =>
    obtain ⟨x0, f0, y0, HRO, HRP, HRW⟩ := (HS3.out).done (by omega)
    have z0 := (HS3.out).cell
    go_wp2_with fail
    refine bodyPost_ret (v := .agg #[.slice (some ⟨g, 0, none⟩) L.length cap]) (by simp [results, Try.results48, go_sem, y0]) rfl ?_
    exact mk_DrS HS3.out.len hll HS3.out.nm HRO (HRP.mono (by omega)) HRW
  | true =>
  have z0 := HS3.out.cell
  have HPK := Lib.hid (cur_pick B (K + 10002) (L.length : Int) w4 HS3.out.cur (by omega) (by omega))
  go_wp2_with fail
  refine HPK.out.mono ?_
  rintro e w5 ⟨k, rfl, hk, hp, hw⟩
  have hkl : k < L.length := by omega
  have HS3 := Lib.hid (HS3.out.wrote hw hp)
  clear hp hw HPK hk z0
  have HPM := Lib.hid (cur_pick B (K + 10004) 5 w5 HS3.out.cur (by omega) (by omega))
  go_wp2_with fail
  refine HPM.out.mono ?_
  rintro e w4 ⟨m, rfl, hm, hp, hw⟩
  have HS4 := Lib.hid (HS3.out.wrote hw hp)
  have hm5 : m < 5 := by omega
  clear hp hw HPM hm
  have z0 := HS4.out.cell
  obtain ⟨x, hx⟩ : ∃ x, L[k]? = some x := ⟨L[k], List.getElem?_eq_getElem hkl⟩
  have HX := Lib.hid hx
  have hlc : (k : Int) < (L.length : Int) := by omega
  clear hx
  by_cases m0 : m = 0
  · subst m0
    have HCL := Lib.hid (fun wx (hx : PC wx B (K + 10006)) => cur_pick B (K + 10006) 7 wx hx (by omega) (by omega))
    go_wp2_with fail
    refine wp_region_G [7] (fun w' => w'.cell? ⟨X, 0, none⟩ = some (.slice (some ⟨g, 0, none⟩) L.length cap)) (by kernel_rfl) ?_ (fun hHeld => ?_)
    · exact z0
    refine wpG_pure (i := 0) (oi := { dst := some 26, op := Go.Op.fieldAddr 28 (Go.Operand.tmp 3) 0, type := 0, pos := "l2_type.go:332", after := #[], guard := none }) (v := ?vg1) rfl (by kernel_rfl) (fun _ _ _ h => h) (Or.inr hHeld) (Or.inl ⟨by rfl, ?yg1⟩) ?_
    case yg1 => (intro wS _; go_simp <;> with_reducible rfl)
    try simp only [Act.put, List.setIfInBounds_toArray, List.set_cons_zero, List.set_cons_succ]
    refine wpG_load (i := 1) (oi := { dst := some 27, op := Go.Op.load 26 (Go.Operand.tmp 26), type := 26, pos := "l2_type.go:332", after := #[{ on := 0, ground := Go.Ground.data }], guard := none }) (v := ?vg2) [[7, 1]] rfl (by kernel_rfl) (fun _ _ _ h => h) hHeld (Or.inl ⟨by rfl, ?yg2⟩) ?_
    case yg2 => (intro wS hSw; (try dsimp only at hSw); go_simp <;> with_reducible rfl)
    try simp only [Act.put, List.setIfInBounds_toArray, List.set_cons_zero, List.set_cons_succ]
    refine wpG_pure (i := 2) (oi := { dst := some 28, op := Go.Op.move (Go.Operand.tmp 4), type := 3, pos := "l2_type.go:332", after := #[], guard := none }) (v := ?vg3) rfl (by kernel_rfl) (fun _ _ _ h => h) (Or.inr hHeld) (Or.inl ⟨by rfl, ?yg3⟩) ?_
    case yg3 => (intro wS _; go_simp <;> with_reducible rfl)
    try simp only [Act.put, List.setIfInBounds_toArray, List.set_cons_zero, List.set_cons_succ]
    refine wpG_pure (i := 3) (oi := { dst := some 29, op := Go.Op.move (Go.Operand.tmp 0), type := 72, pos := "l2_type.go:332", after := #[], guard := none }) (v := ?vg4) rfl (by kernel_rfl) (fun _ _ _ h => h) (Or.inr hHeld) (Or.inl ⟨by rfl, ?yg4⟩) ?_
    case yg4 => (intro wS _; go_simp <;> with_reducible rfl)
    try simp only [Act.put, List.setIfInBounds_toArray, List.set_cons_zero, List.set_cons_succ]
    refine wpG_one (i := 4) (o := { dst := some 30, op := Go.Op.call { callee := Go.Callee.value (Go.Operand.func 49), args := #[Go.Operand.tmp 29, Go.Operand.const (Go.Value.int Go.IntKind.i64 7)], argTypes := #[72, 3] }, type := 3, pos := "l2_type.go:332", after := #[{ on := 3, ground := Go.Ground.data }], guard := none }) rfl (by kernel_rfl) (fun K hK => ?_)
    go_simp
    refine (HCL.out _ HS4.out.drew.cur).mono ?_
    rintro e w6 ⟨r6, rfl, hr6, hp6, hw6⟩
    have HS6 := Lib.hid (HS4.out.drew.wrote hw6 hp6)
    have q0 := HS6.out.cell
    obtain ⟨b0, b1, b2, b3, b4, b5⟩ := HS6.out.at HX.out
    clear hp6 hw6
    refine hK.out _ _ (Or.inr ?khHeld5) (fun hHeld5S => ?_)
    case khHeld5 => exact q0
    have hHeld5 := hHeld5S.held (by kernel_rfl)
    clear hK K
    try simp only [Act.put, List.setIfInBounds_toArray, List.set_cons_zero, List.set_cons_succ]
    refine wpG_pure (i := 5) (oi := { dst := some 31, op := Go.Op.indexAddr 26 (Go.Operand.tmp 27) (Go.Operand.tmp 28), type := 0, pos := "l2_type.go:332", after := #[{ on := 1, ground := Go.Ground.data }, { on := 2, ground := Go.Ground.data }, { on := 0, ground := Go.Ground.phase }, { on := 1, ground := Go.Ground.phase }, { on := 2, ground := Go.Ground.phase }, { on := 3, ground := Go.Ground.phase }, { on := 4, ground := Go.Ground.phase }], guard := none }) (v := ?vg6) rfl (by kernel_rfl) (fun _ _ _ h => h) (Or.inr hHeld5) (Or.inl ⟨by rfl, ?yg6⟩) ?_
    case yg6 => (intro wS _; go_simp <;> with_reducible rfl)
    try simp only [Act.put, List.setIfInBounds_toArray, List.set_cons_zero, List.set_cons_succ]
    refine wpG_pure (i := 6) (oi := { dst := some 32, op := Go.Op.fieldAddr 85 (Go.Operand.tmp 31) 0, type := 0, pos := "l2_type.go:332", after := #[{ on := 5, ground := Go.Ground.data }, { on := 0, ground := Go.Ground.phase }, { on := 1, ground := Go.Ground.phase }, { on := 2, ground := Go.Ground.phase }, { on := 3, ground := Go.Ground.phase }, { on := 4, ground := Go.Ground.phase }], guard := none }) (v := ?vg7) rfl (by kernel_rfl) (fun _ _ _ h => h) (Or.inr hHeld5) (Or.inl ⟨by rfl, ?yg7⟩) ?_
    case yg7 => (intro wS _; go_simp <;> with_reducible rfl)
    try simp only [Act.put, List.setIfInBounds_toArray, List.set_cons_zero, List.set_cons_succ]
    refine wpG_one (i := 7) (o := { dst := none, op := Go.Op.store 3 (Go.Operand.tmp 32) (Go.Operand.tmp 30), type := 0, pos := "l2_type.go:332", after := #[{ on := 6, ground := Go.Ground.data }, { on := 4, ground := Go.Ground.data }, { on := 4, ground := Go.Ground.chain }, { on := 0, ground := Go.Ground.phase }, { on := 1, ground := Go.Ground.phase }, { on := 2, ground := Go.Ground.phase }, { on := 3, ground := Go.Ground.phase }, { on := 4, ground := Go.Ground.phase }], guard := none }) rfl (by kernel_rfl) (fun K hK => ?_)
    have f6 := HS6.out.frz (k * 6)
    go_simp
    refine hK.out _ _ (Or.inl (by kernel_rfl)) (fun _ => ?_)
    clear hK K
    try simp only [Act.put, List.setIfInBounds_toArray, List.set_cons_zero, List.set_cons_succ]
    refine wpG_done (by kernel_rfl) ?_
    skip
    have HS7 := Lib.hid (HS6.out.putKind HX.out (r6 : Int))
    generalize w6.setCell ⟨g, k * 6, none⟩ (.int .i64 (r6 : Int)) = w7 at *
    obtain ⟨x0, f0, y0, HRO, HRP, HRW⟩ := (HS7.out).done (by omega)
    have z0 := (HS7.out).cell
    go_wp2_with fail
    refine bodyPost_ret (v := .agg #[.slice (some ⟨g, 0, none⟩) L.length cap]) (by simp [results, Try.results48, go_sem, y0]) rfl ?_
    exact mk_DrS HS7.out.len hll HS7.out.nm HRO (HRP.mono (by omega)) HRW
  by_cases m1 : m = 1
  · subst m1
    clear m0
    have HCL := Lib.hid (fun wx (hx : PC wx B (K + 10006)) => cur_pick B (K + 10006) 4 wx hx (by omega) (by omega))
    go_wp2_with fail
    refine wp_region_G [7] (fun w' => w'.cell? ⟨X, 0, none⟩ = some (.slice (some ⟨g, 0, none⟩) L.length cap)) (by kernel_rfl) ?_ (fun hHeld => ?_)
    · exact z0
    refine wpG_pure (i := 0) (oi := { dst := some 35, op := Go.Op.fieldAddr 28 (Go.Operand.tmp 3) 0, type := 0, pos := "l2_type.go:334", after := #[], guard := none }) (v := ?vg9) rfl (by kernel_rfl) (fun _ _ _ h => h) (Or.inr hHeld) (Or.inl ⟨by rfl, ?yg9⟩) ?_
    case yg9 => (intro wS _; go_simp <;> with_reducible rfl)
    try simp only [Act.put, List.setIfInBounds_toArray, List.set_cons_zero, List.set_cons_succ]
    refine wpG_load (i := 1) (oi := { dst := some 36, op := Go.Op.load 26 (Go.Operand.tmp 35), type := 26, pos := "l2_type.go:334", after := #[{ on := 0, ground := Go.Ground.data }], guard := none }) (v := ?vg10) [[7, 1]] rfl (by kernel_rfl) (fun _ _ _ h => h) hHeld (Or.inl ⟨by rfl, ?yg10⟩) ?_
    case yg10 => (intro wS hSw; (try dsimp only at hSw); go_simp <;> with_reducible rfl)
    try simp only [Act.put, List.setIfInBounds_toArray, List.set_cons_zero, List.set_cons_succ]
    refine wpG_pure (i := 2) (oi := { dst := some 37, op := Go.Op.move (Go.Operand.tmp 4), type := 3, pos := "l2_type.go:334", after := #[], guard := none }) (v := ?vg11) rfl (by kernel_rfl) (fun _ _ _ h => h) (Or.inr hHeld) (Or.inl ⟨by rfl, ?yg11⟩) ?_
    case yg11 => (intro wS _; go_simp <;> with_reducible rfl)
    try simp only [Act.put, List.setIfInBounds_toArray, List.set_cons_zero, List.set_cons_succ]
    refine wpG_pure (i := 3) (oi := { dst := some 38, op := Go.Op.move (Go.Operand.tmp 0), type := 72, pos := "l2_type.go:334", after := #[], guard := none }) (v := ?vg12) rfl (by kernel_rfl) (fun _ _ _ h => h) (Or.inr hHeld) (Or.inl ⟨by rfl, ?yg12⟩) ?_
    case yg12 => (intro wS _; go_simp <;> with_reducible rfl)
    try simp only [Act.put, List.setIfInBounds_toArray, List.set_cons_zero, List.set_cons_succ]
    refine wpG_one (i := 4) (o := { dst := some 39, op := Go.Op.call { callee := Go.Callee.value (Go.Operand.func 49), args := #[Go.Operand.tmp 38, Go.Operand.const (Go.Value.int Go.IntKind.i64 4)], argTypes := #[72, 3] }, type := 3, pos := "l2_type.go:334", after := #[{ on := 3, ground := Go.Ground.data }], guard := none }) rfl (by kernel_rfl) (fun K hK => ?_)
    go_simp
    refine (HCL.out _ HS4.out.drew.cur).mono ?_
    rintro e w6 ⟨r6, rfl, hr6, hp6, hw6⟩
    have HS6 := Lib.hid (HS4.out.drew.wrote hw6 hp6)
    have q0 := HS6.out.cell
    obtain ⟨b0, b1, b2, b3, b4, b5⟩ := HS6.out.at HX.out
    clear hp6 hw6
    refine hK.out _ _ (Or.inr ?khHeld13) (fun hHeld13S => ?_)
    case khHeld13 => exact q0
    have hHeld13 := hHeld13S.held (by kernel_rfl)
    clear hK K
    try simp only [Act.put, List.setIfInBounds_toArray, List.set_cons_zero, List.set_cons_succ]
    refine wpG_pure (i := 5) (oi := { dst := some 40, op := Go.Op.indexAddr 26 (Go.Operand.tmp 36) (Go.Operand.tmp 37), type := 0, pos := "l2_type.go:334", after := #[{ on := 1, ground := Go.Ground.data }, { on := 2, ground := Go.Ground.data }, { on := 0, ground := Go.Ground.phase }, { on := 1, ground := Go.Ground.phase }, { on := 2, ground := Go.Ground.phase }, { on := 3, ground := Go.Ground.phase }, { on := 4, ground := Go.Ground.phase }], guard := none }) (v := ?vg14) rfl (by kernel_rfl) (fun _ _ _ h => h) (Or.inr hHeld13) (Or.inl ⟨by rfl, ?yg14⟩) ?_
    case yg14 => (intro wS _; go_simp <;> with_reducible rfl)
    try simp only [Act.put, List.setIfInBounds_toArray, List.set_cons_zero, List.set_cons_succ]
    refine wpG_pure (i := 6) (oi := { dst := some 41, op := Go.Op.fieldAddr 85 (Go.Operand.tmp 40) 2, type := 0, pos := "l2_type.go:334", after := #[{ on := 5, ground := Go.Ground.data }, { on := 0, ground := Go.Ground.phase }, { on := 1, ground := Go.Ground.phase }, { on := 2, ground := Go.Ground.phase }, { on := 3, ground := Go.Ground.phase }, { on := 4, ground := Go.Ground.phase }], guard := none }) (v := ?vg15) rfl (by kernel_rfl) (fun _ _ _ h => h) (Or.inr hHeld13) (Or.inl ⟨by rfl, ?yg15⟩) ?_
    case yg15 => (intro wS _; go_simp <;> with_reducible rfl)
    try simp only [Act.put, List.setIfInBounds_toArray, List.set_cons_zero, List.set_cons_succ]
    refine wpG_one (i := 7) (o := { dst := none, op := Go.Op.store 3 (Go.Operand.tmp 41) (Go.Operand.tmp 39), type := 0, pos := "l2_type.go:334", after := #[{ on := 6, ground := Go.Ground.data }, { on := 4, ground := Go.Ground.data }, { on := 4, ground := Go.Ground.chain }, { on := 0, ground := Go.Ground.phase }, { on := 1, ground := Go.Ground.phase }, { on := 2, ground := Go.Ground.phase }, { on := 3, ground := Go.Ground.phase }, { on := 4, ground := Go.Ground.phase }], guard := none }) rfl (by kernel_rfl) (fun K hK => ?_)
    have f6 := HS6.out.frz (k * 6 + 2)
    go_simp
    refine hK.out _ _ (Or.inl (by kernel_rfl)) (fun _ => ?_)
    clear hK K
    try simp only [Act.put, List.setIfInBounds_toArray, List.set_cons_zero, List.set_cons_succ]
    refine wpG_done (by kernel_rfl) ?_
    skip
    have HS7 := Lib.hid (HS6.out.putNo HX.out (r6 : Int))
    generalize w6.setCell ⟨g, k * 6 + 2, none⟩ (.int .i64 (r6 : Int)) = w7 at *
    obtain ⟨x0, f0, y0, HRO, HRP, HRW⟩ := (HS7.out).done (by omega)
    have z0 := (HS7.out).cell
    go_wp2_with fail
    refine bodyPost_ret (v := .agg #[.slice (some ⟨g, 0, none⟩) L.length cap]) (by simp [results, Try.results48, go_sem, y0]) rfl ?_
    exact mk_DrS HS7.out.len hll HS7.out.nm HRO (HRP.mono (by omega)) HRW
  by_cases m2 : m = 2
  · subst m2
    clear m0 m1
    have HCL := Lib.hid (fun wx (hx : PC wx B (K + 10006)) => cur_pick B (K + 10006) 4 wx hx (by omega) (by omega))
    go_wp2_with fail
    refine wp_region_G [8] (fun w' => w'.cell? ⟨X, 0, none⟩ = some (.slice (some ⟨g, 0, none⟩) L.length cap)) (by kernel_rfl) ?_ (fun hHeld => ?_)
    · exact z0
    refine wpG_pure (i := 0) (oi := { dst := some 44, op := Go.Op.fieldAddr 28 (Go.Operand.tmp 3) 0, type := 0, pos := "l2_type.go:336", after := #[], guard := none }) (v := ?vg17) rfl (by kernel_rfl) (fun _ _ _ h => h) (Or.inr hHeld) (Or.inl ⟨by rfl, ?yg17⟩) ?_
    case yg17 => (intro wS _; go_simp <;> with_reducible rfl)
    try simp only [Act.put, List.setIfInBounds_toArray, List.set_cons_zero, List.set_cons_succ]
    refine wpG_load (i := 1) (oi := { dst := some 45, op := Go.Op.load 26 (Go.Operand.tmp 44), type := 26, pos := "l2_type.go:336", after := #[{ on := 0, ground := Go.Ground.data }], guard := none }) (v := ?vg18) [[8, 1]] rfl (by kernel_rfl) (fun _ _ _ h => h) hHeld (Or.inl ⟨by rfl, ?yg18⟩) ?_
    case yg18 => (intro wS hSw; (try dsimp only at hSw); go_simp <;> with_reducible rfl)
    try simp only [Act.put, List.setIfInBounds_toArray, List.set_cons_zero, List.set_cons_succ]
    refine wpG_pure (i := 2) (oi := { dst := some 46, op := Go.Op.move (Go.Operand.tmp 4), type := 3, pos := "l2_type.go:336", after := #[], guard := none }) (v := ?vg19) rfl (by kernel_rfl) (fun _ _ _ h => h) (Or.inr hHeld) (Or.inl ⟨by rfl, ?yg19⟩) ?_
    case yg19 => (intro wS _; go_simp <;> with_reducible rfl)
    try simp only [Act.put, List.setIfInBounds_toArray, List.set_cons_zero, List.set_cons_succ]
    refine wpG_pure (i := 3) (oi := { dst := some 47, op := Go.Op.move (Go.Operand.tmp 0), type := 72, pos := "l2_type.go:336", after := #[], guard := none }) (v := ?vg20) rfl (by kernel_rfl) (fun _ _ _ h => h) (Or.inr hHeld) (Or.inl ⟨by rfl, ?yg20⟩) ?_
    case yg20 => (intro wS _; go_simp <;> with_reducible rfl)
    try simp only [Act.put, List.setIfInBounds_toArray, List.set_cons_zero, List.set_cons_succ]
    refine wpG_one (i := 4) (o := { dst := some 48, op := Go.Op.call { callee := Go.Callee.value (Go.Operand.func 49), args := #[Go.Operand.tmp 47, Go.Operand.const (Go.Value.int Go.IntKind.i64 4)], argTypes := #[72, 3] }, type := 3, pos := "l2_type.go:336", after := #[{ on := 3, ground := Go.Ground.data }], guard := none }) rfl (by kernel_rfl) (fun K hK => ?_)
    go_simp
    refine (HCL.out _ HS4.out.drew.cur).mono ?_
    rintro e w6 ⟨r6, rfl, hr6, hp6, hw6⟩
    have HS6 := Lib.hid (HS4.out.drew.wrote hw6 hp6)
    have q0 := HS6.out.cell
    obtain ⟨b0, b1, b2, b3, b4, b5⟩ := HS6.out.at HX.out
    clear hp6 hw6
    have hr7 : IntKind.i64.wrap ((r6 : Int) - 1) = (r6 : Int) - 1 := IntWalk.i64_in _ (by omega)
    refine hK.out _ _ (Or.inr ?khHeld21) (fun hHeld21S => ?_)
    case khHeld21 => exact q0
    have hHeld21 := hHeld21S.held (by kernel_rfl)
    clear hK K
    try simp only [Act.put, List.setIfInBounds_toArray, List.set_cons_zero, List.set_cons_succ]
    refine wpG_pure (i := 5) (oi := { dst := some 49, op := Go.Op.binOp Go.BinOp.sub 3 (Go.Operand.tmp 48) (Go.Operand.const (Go.Value.int Go.IntKind.i64 1)) 3, type := 3, pos := "l2_type.go:336", after := #[{ on := 4, ground := Go.Ground.data }], guard := none }) (v := ?vg22) rfl (by kernel_rfl) (fun _ _ _ h => h) (Or.inr hHeld21) (Or.inl ⟨by rfl, ?yg22⟩) ?_
    case yg22 => (intro wS _; go_simp <;> with_reducible rfl)
    try simp only [Act.put, List.setIfInBounds_toArray, List.set_cons_zero, List.set_cons_succ]
    refine wpG_pure (i := 6) (oi := { dst := some 50, op := Go.Op.indexAddr 26 (Go.Operand.tmp 45) (Go.Operand.tmp 46), type := 0, pos := "l2_type.go:336", after := #[{ on := 1, ground := Go.Ground.data }, { on := 2, ground := Go.Ground.data }, { on := 0, ground := Go.Ground.phase }, { on := 1, ground := Go.Ground.phase }, { on := 2, ground := Go.Ground.phase }, { on := 3, ground := Go.Ground.phase }, { on := 4, ground := Go.Ground.phase }, { on := 5, ground := Go.Ground.phase }], guard := none }) (v := ?vg23) rfl (by kernel_rfl) (fun _ _ _ h => h) (Or.inr hHeld21) (Or.inl ⟨by rfl, ?yg23⟩) ?_
    case yg23 => (intro wS _; go_simp <;> with_reducible rfl)
    try simp only [Act.put, List.setIfInBounds_toArray, List.set_cons_zero, List.set_cons_succ]
    refine wpG_pure (i := 7) (oi := { dst := some 51, op := Go.Op.fieldAddr 85 (Go.Operand.tmp 50) 4, type := 0, pos := "l2_type.go:336", after := #[{ on := 6, ground := Go.Ground.data }, { on := 0, ground := Go.Ground.phase }, { on := 1, ground := Go.Ground.phase }, { on := 2, ground := Go.Ground.phase }, { on := 3, ground := Go.Ground.phase }, { on := 4, ground := Go.Ground.phase }, { on := 5, ground := Go.Ground.phase }], guard := none }) (v := ?vg24) rfl (by kernel_rfl) (fun _ _ _ h => h) (Or.inr hHeld21) (Or.inl ⟨by rfl, ?yg24⟩) ?_
    case yg24 => (intro wS _; go_simp <;> with_reducible rfl)
    try simp only [Act.put, List.setIfInBounds_toArray, List.set_cons_zero, List.set_cons_succ]
    refine wpG_one (i := 8) (o := { dst := none, op := Go.Op.store 3 (Go.Operand.tmp 51) (Go.Operand.tmp 49), type := 0, pos := "l2_type.go:336", after := #[{ on := 7, ground := Go.Ground.data }, { on := 5, ground := Go.Ground.data }, { on := 4, ground := Go.Ground.chain }, { on := 0, ground := Go.Ground.phase }, { on := 1, ground := Go.Ground.phase }, { on := 2, ground := Go.Ground.phase }, { on := 3, ground := Go.Ground.phase }, { on := 4, ground := Go.Ground.phase }, { on := 5, ground := Go.Ground.phase }], guard := none }) rfl (by kernel_rfl) (fun K hK => ?_)
    have f6 := HS6.out.frz (k * 6 + 4)
    go_simp
    refine hK.out _ _ (Or.inl (by kernel_rfl)) (fun _ => ?_)
    clear hK K
    try simp only [Act.put, List.setIfInBounds_toArray, List.set_cons_zero, List.set_cons_succ]
    refine wpG_done (by kernel_rfl) ?_
    skip
    have HS7 := Lib.hid (HS6.out.putUp HX.out ((r6 : Int) - 1))
    generalize w6.setCell ⟨g, k * 6 + 4, none⟩ (.int .i64 ((r6 : Int) - 1)) = w7 at *
    obtain ⟨x0, f0, y0, HRO, HRP, HRW⟩ := (HS7.out).done (by omega)
    have z0 := (HS7.out).cell
    go_wp2_with fail
    refine bodyPost_ret (v := .agg #[.slice (some ⟨g, 0, none⟩) L.length cap]) (by simp [results, Try.results48, go_sem, y0]) rfl ?_
    exact mk_DrS HS7.out.len hll HS7.out.nm HRO (HRP.mono (by omega)) HRW
  by_cases m3 : m = 3
  · subst m3
    clear m0 m1 m2
    have HS5 := Lib.hid (HS4.out.drew.alloc (.cells #[.int .i64 (-1), .int .i64 20, .int .i64 21] 3))
    have HCL := Lib.hid (cur_among B (K + 10006) [-1, 20, 21] w4.heap.size 0 3 _ HS5.out.cur (by omega) (by decide) (by decide) (by decide) (by decide) (by have := HS4.out.cur.lt; omega) (lit_ints w4.drew [-1, 20, 21] 3))
    go_wp2_with fail
    refine wp_region_G [8] (fun w' => w'.cell? ⟨X, 0, none⟩ = some (.slice (some ⟨g, 0, none⟩) L.length cap)) (by kernel_rfl) ?_ (fun hHeld => ?_)
    · exact z0
    refine wpG_pure (i := 0) (oi := { dst := some 54, op := Go.Op.fieldAddr 28 (Go.Operand.tmp 3) 0, type := 0, pos := "l2_type.go:338", after := #[], guard := none }) (v := ?vg26) rfl (by kernel_rfl) (fun _ _ _ h => h) (Or.inr hHeld) (Or.inl ⟨by rfl, ?yg26⟩) ?_
    case yg26 => (intro wS _; go_simp <;> with_reducible rfl)
    try simp only [Act.put, List.setIfInBounds_toArray, List.set_cons_zero, List.set_cons_succ]
    refine wpG_load (i := 1) (oi := { dst := some 55, op := Go.Op.load 26 (Go.Operand.tmp 54), type := 26, pos := "l2_type.go:338", after := #[{ on := 0, ground := Go.Ground.data }], guard := none }) (v := ?vg27) [[8, 1]] rfl (by kernel_rfl) (fun _ _ _ h => h) hHeld (Or.inl ⟨by rfl, ?yg27⟩) ?_
    case yg27 => (intro wS hSw; (try dsimp only at hSw); go_simp <;> with_reducible rfl)
    try simp only [Act.put, List.setIfInBounds_toArray, List.set_cons_zero, List.set_cons_succ]
    refine wpG_pure (i := 2) (oi := { dst := some 56, op := Go.Op.move (Go.Operand.tmp 4), type := 3, pos := "l2_type.go:338", after := #[], guard := none }) (v := ?vg28) rfl (by kernel_rfl) (fun _ _ _ h => h) (Or.inr hHeld) (Or.inl ⟨by rfl, ?yg28⟩) ?_
    case yg28 => (intro wS _; go_simp <;> with_reducible rfl)
    try simp only [Act.put, List.setIfInBounds_toArray, List.set_cons_zero, List.set_cons_succ]
    refine wpG_pure (i := 3) (oi := { dst := some 57, op := Go.Op.move (Go.Operand.tmp 0), type := 72, pos := "l2_type.go:338", after := #[], guard := none }) (v := ?vg29) rfl (by kernel_rfl) (fun _ _ _ h => h) (Or.inr hHeld) (Or.inl ⟨by rfl, ?yg29⟩) ?_
    case yg29 => (intro wS _; go_simp <;> with_reducible rfl)
    try simp only [Act.put, List.setIfInBounds_toArray, List.set_cons_zero, List.set_cons_succ]
    refine wpG_one (i := 4) (o := { dst := some 58, op := Go.Op.buildSlice 51 3 #[(0, Go.Operand.const (Go.Value.int Go.IntKind.i64 (-1))), (1, Go.Operand.const (Go.Value.int Go.IntKind.i64 20)), (2, Go.Operand.const (Go.Value.int Go.IntKind.i64 21))], type := 51, pos := "l2_type.go:338", after := #[], guard := none }) rfl (by kernel_rfl) (fun K hK => ?_)
    go_simp
    refine hK.out _ _ (Or.inr ?khHeld30) (fun hHeld30S => ?_)
    case khHeld30 => exact HS5.out.cell
    have hHeld30 := hHeld30S.held (by kernel_rfl)
    clear hK K
    try simp only [Act.put, List.setIfInBounds_toArray, List.set_cons_zero, List.set_cons_succ]
    refine wpG_one (i := 5) (o := { dst := some 59, op := Go.Op.call { callee := Go.Callee.value (Go.Operand.func 75), args := #[Go.Operand.tmp 57, Go.Operand.tmp 58], argTypes := #[72, 51] }, type := 3, pos := "l2_type.go:338", after := #[{ on := 3, ground := Go.Ground.data }, { on := 4, ground := Go.Ground.data }], guard := none }) rfl (by kernel_rfl) (fun K hK => ?_)
    go_simp
    refine HCL.out.mono ?_
    rintro e w6 ⟨r6, hr6, rfl, hp6, hw6⟩
    have HS6 := Lib.hid (HS5.out.wrote hw6 hp6)
    have q0 := HS6.out.cell
    obtain ⟨b0, b1, b2, b3, b4, b5⟩ := HS6.out.at HX.out
    clear hp6 hw6
    refine hK.out _ _ (Or.inr ?khHeld31) (fun hHeld31S => ?_)
    case khHeld31 => exact q0
    have hHeld31 := hHeld31S.held (by kernel_rfl)
    clear hK K
    try simp only [Act.put, List.setIfInBounds_toArray, List.set_cons_zero, List.set_cons_succ]
    refine wpG_pure (i := 6) (oi := { dst := some 60, op := Go.Op.indexAddr 26 (Go.Operand.tmp 55) (Go.Operand.tmp 56), type := 0, pos := "l2_type.go:338", after := #[{ on := 1, ground := Go.Ground.data }, { on := 2, ground := Go.Ground.data }, { on := 0, ground := Go.Ground.phase }, { on := 1, ground := Go.Ground.phase }, { on := 2, ground := Go.Ground.phase }, { on := 3, ground := Go.Ground.phase }, { on := 4, ground := Go.Ground.phase }, { on := 5, ground := Go.Ground.phase }], guard := none }) (v := ?vg32) rfl (by kernel_rfl) (fun _ _ _ h => h) (Or.inr hHeld31) (Or.inl ⟨by rfl, ?yg32⟩) ?_
    case yg32 => (intro wS _; go_simp <;> with_reducible rfl)
    try simp only [Act.put, List.setIfInBounds_toArray, List.set_cons_zero, List.set_cons_succ]
    refine wpG_pure (i := 7) (oi := { dst := some 61, op := Go.Op.fieldAddr 85 (Go.Operand.tmp 60) 5, type := 0, pos := "l2_type.go:338", after := #[{ on := 6, ground := Go.Ground.data }, { on := 0, ground := Go.Ground.phase }, { on := 1, ground := Go.Ground.phase }, { on := 2, ground := Go.Ground.phase }, { on := 3, ground := Go.Ground.phase }, { on := 4, ground := Go.Ground.phase }, { on := 5, ground := Go.Ground.phase }], guard := none }) (v := ?vg33) rfl (by kernel_rfl) (fun _ _ _ h => h) (Or.inr hHeld31) (Or.inl ⟨by rfl, ?yg33⟩) ?_
    case yg33 => (intro wS _; go_simp <;> with_reducible rfl)
    try simp only [Act.put, List.setIfInBounds_toArray, List.set_cons_zero, List.set_cons_succ]
    refine wpG_one (i := 8) (o := { dst := none, op := Go.Op.store 3 (Go.Operand.tmp 61) (Go.Operand.tmp 59), type := 0, pos := "l2_type.go:338", after := #[{ on := 7, ground := Go.Ground.data }, { on := 5, ground := Go.Ground.data }, { on := 5, ground := Go.Ground.chain }, { on := 0, ground := Go.Ground.phase }, { on := 1, ground := Go.Ground.phase }, { on := 2, ground := Go.Ground.phase }, { on := 3, ground := Go.Ground.phase }, { on := 4, ground := Go.Ground.phase }, { on := 5, ground := Go.Ground.phase }], guard := none }) rfl (by kernel_rfl) (fun K hK => ?_)
    have f6 := HS6.out.frz (k * 6 + 5)
    go_simp
    refine hK.out _ _ (Or.inl (by kernel_rfl)) (fun _ => ?_)
    clear hK K
    try simp only [Act.put, List.setIfInBounds_toArray, List.set_cons_zero, List.set_cons_succ]
    refine wpG_done (by kernel_rfl) ?_
    skip
    have HS7 := Lib.hid (HS6.out.putMost HX.out r6)
    generalize w6.setCell ⟨g, k * 6 + 5, none⟩ (.int .i64 r6) = w7 at *
    obtain ⟨x0, f0, y0, HRO, HRP, HRW⟩ := (HS7.out).done (by omega)
    have z0 := (HS7.out).cell
    go_wp2_with fail
    refine bodyPost_ret (v := .agg #[.slice (some ⟨g, 0, none⟩) L.length cap]) (by simp [results, Try.results48, go_sem, y0]) rfl ?_
    exact mk_DrS HS7.out.len hll HS7.out.nm HRO (HRP.mono (by omega)) HRW
  have m4 : m = 4 := by omega
  subst m4
  clear m0 m1 m2 m3
  have HS5 := Lib.hid (HS4.out.drew.alloc (.cells #[.string { data := #[] }, .string { data := #[97] }, .string { data := #[65] }] 9))
  have HCL := Lib.hid (cur_of B (K + 10006) [{ data := #[] }, { data := #[97] }, { data := #[65] }] w4.heap.size 0 3 _ HS5.out.cur (by omega) (by decide) (by decide) (by decide) (by decide) (by have := HS4.out.cur.lt; omega) (lit_cells w4.drew [{ data := #[] }, { data := #[97] }, { data := #[65] }] 9))
  go_wp2_with fail
  refine wp_region_G [8] (fun w' => w'.cell? ⟨X, 0, none⟩ = some (.slice (some ⟨g, 0, none⟩) L.length cap)) (by kernel_rfl) ?_ (fun hHeld => ?_)
  · exact z0
  refine wpG_pure (i := 0) (oi := { dst := some 16, op := Go.Op.fieldAddr 28 (Go.Operand.tmp 3) 0, type := 0, pos := "l2_type.go:340", after := #[], guard := none }) (v := ?vg35) rfl (by kernel_rfl) (fun _ _ _ h => h) (Or.inr hHeld) (Or.inl ⟨by rfl, ?yg35⟩) ?_
  case yg35 => (intro wS _; go_simp <;> with_reducible rfl)
  try simp only [Act.put, List.setIfInBounds_toArray, List.set_cons_zero, List.set_cons_succ]
  refine wpG_load (i := 1) (oi := { dst := some 17, op := Go.Op.load 26 (Go.Operand.tmp 16), type := 26, pos := "l2_type.go:340", after := #[{ on := 0, ground := Go.Ground.data }], guard := none }) (v := ?vg36) [[8, 1]] rfl (by kernel_rfl) (fun _ _ _ h => h) hHeld (Or.inl ⟨by rfl, ?yg36⟩) ?_
  case yg36 => (intro wS hSw; (try dsimp only at hSw); go_simp <;> with_reducible rfl)
  try simp only [Act.put, List.setIfInBounds_toArray, List.set_cons_zero, List.set_cons_succ]
  refine wpG_pure (i := 2) (oi := { dst := some 18, op := Go.Op.move (Go.Operand.tmp 4), type := 3, pos := "l2_type.go:340", after := #[], guard := none }) (v := ?vg37) rfl (by kernel_rfl) (fun _ _ _ h => h) (Or.inr hHeld) (Or.inl ⟨by rfl, ?yg37⟩) ?_
  case yg37 => (intro wS _; go_simp <;> with_reducible rfl)
  try simp only [Act.put, List.setIfInBounds_toArray, List.set_cons_zero, List.set_cons_succ]
  refine wpG_pure (i := 3) (oi := { dst := some 19, op := Go.Op.move (Go.Operand.tmp 0), type := 72, pos := "l2_type.go:340", after := #[], guard := none }) (v := ?vg38) rfl (by kernel_rfl) (fun _ _ _ h => h) (Or.inr hHeld) (Or.inl ⟨by rfl, ?yg38⟩) ?_
  case yg38 => (intro wS _; go_simp <;> with_reducible rfl)
  try simp only [Act.put, List.setIfInBounds_toArray, List.set_cons_zero, List.set_cons_succ]
  refine wpG_one (i := 4) (o := { dst := some 20, op := Go.Op.buildSlice 80 3 #[(0, Go.Operand.const (Go.Value.string { data := #[] })), (1, Go.Operand.const (Go.Value.string { data := #[97] })), (2, Go.Operand.const (Go.Value.string { data := #[65] }))], type := 80, pos := "l2_type.go:340", after := #[], guard := none }) rfl (by kernel_rfl) (fun K hK => ?_)
  go_simp
  refine hK.out _ _ (Or.inr ?khHeld39) (fun hHeld39S => ?_)
  case khHeld39 => exact HS5.out.cell
  have hHeld39 := hHeld39S.held (by kernel_rfl)
  clear hK K
  try simp only [Act.put, List.setIfInBounds_toArray, List.set_cons_zero, List.set_cons_succ]
  refine wpG_one (i := 5) (o := { dst := some 21, op := Go.Op.call { callee := Go.Callee.value (Go.Operand.func 51), args := #[Go.Operand.tmp 19, Go.Operand.tmp 20], argTypes := #[72, 80] }, type := 9, pos := "l2_type.go:340", after := #[{ on := 3, ground := Go.Ground.data }, { on := 4, ground := Go.Ground.data }], guard := none }) rfl (by kernel_rfl) (fun K hK => ?_)
  go_simp
  refine HCL.out.mono ?_
  rintro e w6 ⟨r6, hr6, rfl, hp6, hw6⟩
  have HS6 := Lib.hid (HS5.out.wrote hw6 hp6)
  have q0 := HS6.out.cell
  obtain ⟨b0, b1, b2, b3, b4, b5⟩ := HS6.out.at HX.out
  clear hp6 hw6
  refine hK.out _ _ (Or.inr ?khHeld40) (fun hHeld40S => ?_)
  case khHeld40 => exact q0
  have hHeld40 := hHeld40S.held (by kernel_rfl)
  clear hK K
  try simp only [Act.put, List.setIfInBounds_toArray, List.set_cons_zero, List.set_cons_succ]
  refine wpG_pure (i := 6) (oi := { dst := some 22, op := Go.Op.indexAddr 26 (Go.Operand.tmp 17) (Go.Operand.tmp 18), type := 0, pos := "l2_type.go:340", after := #[{ on := 1, ground := Go.Ground.data }, { on := 2, ground := Go.Ground.data }, { on := 0, ground := Go.Ground.phase }, { on := 1, ground := Go.Ground.phase }, { on := 2, ground := Go.Ground.phase }, { on := 3, ground := Go.Ground.phase }, { on := 4, ground := Go.Ground.phase }, { on := 5, ground := Go.Ground.phase }], guard := none }) (v := ?vg41) rfl (by kernel_rfl) (fun _ _ _ h => h) (Or.inr hHeld40) (Or.inl ⟨by rfl, ?yg41⟩) ?_
  case yg41 => (intro wS _; go_simp <;> with_reducible rfl)
  try simp only [Act.put, List.setIfInBounds_toArray, List.set_cons_zero, List.set_cons_succ]
  refine wpG_pure (i := 7) (oi := { dst := some 23, op := Go.Op.fieldAddr 85 (Go.Operand.tmp 22) 1, type := 0, pos := "l2_type.go:340", after := #[{ on := 6, ground := Go.Ground.data }, { on := 0, ground := Go.Ground.phase }, { on := 1, ground := Go.Ground.phase }, { on := 2, ground := Go.Ground.phase }, { on := 3, ground := Go.Ground.phase }, { on := 4, ground := Go.Ground.phase }, { on := 5, ground := Go.Ground.phase }], guard := none }) (v := ?vg42) rfl (by kernel_rfl) (fun _ _ _ h => h) (Or.inr hHeld40) (Or.inl ⟨by rfl, ?yg42⟩) ?_
  case yg42 => (intro wS _; go_simp <;> with_reducible rfl)
  try simp only [Act.put, List.setIfInBounds_toArray, List.set_cons_zero, List.set_cons_succ]
  refine wpG_one (i := 8) (o := { dst := none, op := Go.Op.store 9 (Go.Operand.tmp 23) (Go.Operand.tmp 21), type := 0, pos := "l2_type.go:340", after := #[{ on := 7, ground := Go.Ground.data }, { on := 5, ground := Go.Ground.data }, { on := 5, ground := Go.Ground.chain }, { on := 0, ground := Go.Ground.phase }, { on := 1, ground := Go.Ground.phase }, { on := 2, ground := Go.Ground.phase }, { on := 3, ground := Go.Ground.phase }, { on := 4, ground := Go.Ground.phase }, { on := 5, ground := Go.Ground.phase }], guard := none }) rfl (by kernel_rfl) (fun K hK => ?_)
  have f6 := HS6.out.frz (k * 6 + 1)
  go_simp
  refine hK.out _ _ (Or.inl (by kernel_rfl)) (fun _ => ?_)
  clear hK K
  try simp only [Act.put, List.setIfInBounds_toArray, List.set_cons_zero, List.set_cons_succ]
  refine wpG_done (by kernel_rfl) ?_
  skip
  have HS7 := Lib.hid (HS6.out.putName HX.out r6 (by
    simp only [List.mem_cons, List.not_mem_nil, or_false] at hr6
    rcases hr6 with rfl | rfl | rfl <;> (unfold maxLen; decide)))
  generalize w6.setCell ⟨g, k * 6 + 1, none⟩ (.string r6) = w7 at *
  obtain ⟨x0, f0, y0, HRO, HRP, HRW⟩ := (HS7.out).done (by omega)
  have z0 := (HS7.out).cell
  go_wp2_with fail
  refine bodyPost_ret (v := .agg #[.slice (some ⟨g, 0, none⟩) L.length cap]) (by simp [results, Try.results48, go_sem, y0]) rfl ?_
  exact mk_DrS HS7.out.len hll HS7.out.nm HRO (HRP.mono (by omega)) HRW
end Go.Proofs.Ytmlnecopbncdbaa
