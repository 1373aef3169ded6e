/- The draw of a filter. -/
import Derived.Test.YtlmgckijbamgpaaDrR
namespace Go.Proofs.Ytlmgckijbamgpaa
set_option linter.unusedVariables false
set_option linter.unusedSimpArgs false
open Go.ChangeShapes Go.WideShapes Go.ChangeAt Go.RowKit
set_option maxRecDepth 100000

/-- a filter drawn -/
def FilterOf (B K : Nat) (w : World) (e : Ending) (w' : World) : Prop :=
  ∃ a c l, e = .returned (.agg #[.slice a l.length c]) ∧ l.length ≤ 20 ∧ w'.ownsRow w.heap.size 134 6 (.slice a l.length c) l.length (wnsV l) ∧ PC w' B (K + 300) ∧ Wrote (WS B w.heap.size) w w'
/-- one cell of a row of wants is turned -/
def turnW (l : List Wn) (k i : Nat) (u : Int) : List Wn := match l[k]? with
  | none => l
  | some f => l.set k (if i = 0 then ⟨u, f.no, f.num, f.text, f.a, f.b⟩ else if i = 1 then ⟨f.kind, u, f.num, f.text, f.a, f.b⟩ else ⟨f.kind, f.no, f.num, f.text, u, f.b⟩)
theorem turnW_len (l : List Wn) (k i : Nat) (u : Int) : (turnW l k i u).length = l.length := by
  unfold turnW
  split <;> simp
theorem wns_set1 : ∀ (l : List Wn) (k : Nat) (i : Nat) (u : Int), k < l.length → (i = 0 ∨ i = 1 ∨ i = 4) → (wnsV l).set (k * 6 + i) (.int .i64 u) = wnsV (turnW l k i u)
  | [], k, i, u, h, _ => by simp at h
  | x :: r, 0, i, u, h, hi => by rcases hi with rfl | rfl | rfl <;> rfl
  | x :: r, k + 1, i, u, h, hi => by
    have ih := wns_set1 r k i u (by simpa using h) hi
    have e : turnW (x :: r) (k + 1) i u = x :: turnW r k i u := by
      unfold turnW
      simp only [List.getElem?_cons_succ]
      cases r[k]? with
      | none => rfl
      | some f => rfl
    rw [e, wnsV_cons, wnsV_cons, ← ih]
    rw [show (k + 1) * 6 + i = k * 6 + i + 1 + 1 + 1 + 1 + 1 + 1 by omega]
    simp only [List.set_cons_succ]
theorem pc_wrote {w w' : World} {B K X : Nat} (h : PC w B K) (hw : Wrote (fun k => k = X) w w') (hX : B < X) : PC w' B K :=
  pc_grown (n := X) h hX (row := some X) ⟨hw.os, hw.tape, hw.output, hw.size, fun k hk hs => hw.block k hk (fun e => hs (by rw [e]))⟩ (fun k hk => by simp only [Option.some.injEq] at hk; omega)
/-- a filter under way: its row, its box, the result's box -/
structure FW (w : World) (B K g n cp X3 : Nat) (l : List Wn) (wx : World) : Prop where
  own : wx.ownsRow (w.heap.size + 1) 134 6 (.slice (some ⟨g, 0, none⟩) n cp) n (wnsV l)
  pc : PC wx B K
  x2 : wx.heap[w.heap.size]? = some (.cells #[.slice none 0 0] 61)
  x3 : wx.heap[X3]? = some (.cells #[.slice (some ⟨g, 0, none⟩) n cp] 61)
  wr : Wrote (WS B w.heap.size) w wx
  len : l.length = n
  ne : ¬ X3 = g ∧ w.heap.size < X3
theorem FW.cur {w : World} {B K K' g n cp X3 : Nat} {l : List Wn} {wx wy : World} (h : FW w B K g n cp X3 l wx) (hB : B < w.heap.size) (hw : Wrote (fun k => k = B) wx wy) (hp : PC wy B K') : FW w B K' g n cp X3 l wy :=
  ⟨hw.own h.own (fun k hk e => by have := (h.own.lt k hk).1; omega), hp, hw.heap h.x2 (by omega), hw.heap h.x3 (by have := h.ne.2; omega), h.wr.trans (ws_cur hw), h.len, h.ne⟩
theorem FW.drew {w : World} {B K g n cp X3 : Nat} {l : List Wn} {wx : World} (h : FW w B K g n cp X3 l wx) : FW w B K g n cp X3 l wx.drew :=
  ⟨own_later h.own (below_drew (Below.refl _ _)), pdrew h.pc, h.x2, h.x3, wdrew h.wr, h.len, h.ne⟩
theorem FW.more {w : World} {B K K' g n cp X3 : Nat} {l : List Wn} {wx : World} (h : FW w B K g n cp X3 l wx) (hk : K ≤ K') : FW w B K' g n cp X3 l wx := ⟨h.own, h.pc.mono hk, h.x2, h.x3, h.wr, h.len, h.ne⟩
theorem FW.put {w : World} {B K g n cp X3 : Nat} {l : List Wn} {wx : World} (h : FW w B K g n cp X3 l wx) (hB : B < w.heap.size) (k i : Nat) (u : Int) (hk : k < n) (hi : i = 0 ∨ i = 1 ∨ i = 4) : FW w B K g n cp X3 (turnW l k i u) (wx.setCell ⟨g, k * 6 + i, none⟩ (.int .i64 u)) := by
  have hg := (h.own.lt g rfl).1
  have hw := wrote_cell wx g (k * 6 + i) (.int .i64 u)
  refine ⟨?_, pc_wrote h.pc hw (by omega), hw.heap h.x2 (by omega), hw.heap h.x3 h.ne.1, h.wr.trans (hw.mono fun q _ hq => .inr (by omega)), by rw [turnW_len]; exact h.len, h.ne⟩
  rw [← wns_set1 l k i u (by rw [h.len]; exact hk) hi]
  exact (h.own.stored (k * 6 + i) (.int .i64 u)).1
theorem FW.cells {w : World} {B K g n cp X3 : Nat} {l : List Wn} {wx : World} (h : FW w B K g n cp X3 l wx) (k : Nat) (hk : k < n) (i : Nat) (hi : i < 6) : (∃ x, wx.cell? ⟨g, k * 6 + i, none⟩ = some x) ∧ wx.frozen? ⟨g, k * 6 + i, none⟩ = false := by
  refine ⟨?_, h.own.frozenAt _⟩
  rw [h.own.cellAt _ (by omega)]
  exact ⟨_, List.getElem?_eq_getElem (by rw [wnsV_len, h.len]; omega)⟩
theorem FW.box {w : World} {B K g n cp X3 : Nat} {l : List Wn} {wx : World} (h : FW w B K g n cp X3 l wx) : wx.cell? ⟨X3, 0, none⟩ = some (.slice (some ⟨g, 0, none⟩) n cp) ∧ wx.cell? ⟨w.heap.size, 0, none⟩ = some (.slice none 0 0) ∧ wx.frozen? ⟨w.heap.size, 0, none⟩ = false := by
  have h3 := h.x3
  have h2 := h.x2
  simp [World.cell?, World.frozen?, h2, h3]
theorem FW.ret {w : World} {B K K' g n cp X3 : Nat} {l : List Wn} {wx : World} (h : FW w B K g n cp X3 l wx) (hB : B < w.heap.size) (hK : K ≤ K' + 300) (hn : n ≤ 20) : FilterOf B K' w (.returned (.agg #[.slice (some ⟨g, 0, none⟩) n cp])) (wx.setCell ⟨w.heap.size, 0, none⟩ (.slice (some ⟨g, 0, none⟩) n cp)) := by
  have hw := wrote_cell wx w.heap.size 0 (.slice (some ⟨g, 0, none⟩) n cp)
  have e := h.len
  refine ⟨some ⟨g, 0, none⟩, cp, l, by rw [e], by omega, ?_, (pc_wrote h.pc hw hB).mono hK, h.wr.trans (hw.mono fun q _ hq => .inr (by omega))⟩
  rw [e]
  exact own_mono (ownsRow_setCell_below h.own (a := ⟨w.heap.size, 0, none⟩) (Nat.lt_succ_self _) _) (Nat.le_succ _)
set_option maxHeartbeats 4000000 in
theorem cur_filter (B K : Nat) (w : World) (h : PC w B K) (hK : K ≤ 600000000000) :
    Calls Try.prog 92 #[.pointer (some ⟨B, 0, none⟩)] w (FilterOf B K w) := by
  have hBl := h.lt
  have HB0 := Lib.hid ((Below.refl w.heap.size w).alloc (Nat.le_refl _) (.cells #[.slice none 0 0] 61))
  have HX0 := Lib.hid (heap_alloc_new w (.cells #[.slice none 0 0] 61))
  have HS0 : Hid ((w.alloc (.cells #[.slice none 0 0] 61)).heap.size = w.heap.size + 1) := Lib.hid (by simp)
  have HP0 := Lib.hid (h.later HB0.out)
  clear h
  go_enter Try.func92, Try.ntmps92
  go_wp2_with fail
  generalize w.alloc (.cells #[.slice none 0 0] 61) = w0 at *
  refine (cur_pick B K 4 _ HP0.out (by omega) (by omega)).mono ?_
  rintro e w1 ⟨r1, rfl, hr1, hp, hw⟩
  have hr3 : r1 ≤ 3 := by omega
  have hXB : ¬ w.heap.size = B := by omega
  have HX1 := Lib.hid (hw.heap HX0.out hXB)
  have HW1 := Lib.hid ((ws_below (B := B) HB0.out (Nat.le_refl _)).trans (ws_cur (n := w.heap.size) hw))
  have HS1 : Hid (w.heap.size + 1 ≤ w1.heap.size) := Lib.hid (by have := hw.size; have := HS0.out; omega)
  have HQ : Hid (WQ (w.heap.size + 1) B (K + 2) w1 (.slice none 0 0) (.slice none 0 0) [] w1) := Lib.hid ⟨World.ownsRow_nil _ _ _ _, hp, Wrote.refl _ _, fun k hk => .inl hk⟩
  clear hp hw hr1
  go_wp2_with fail
  have hsz := szW_le hr3
  refine (cur_wants (w.heap.size + 1) B (by omega) r1 hr3 (K + 2) (.slice none 0 0) [] w1 (by omega) (by simp; omega) HS1.out HQ.out).mono ?_
  rintro e w2 ⟨v, l, rfl, ⟨hl1, hl2⟩, hq⟩
  rw [List.nil_append] at hq
  obtain ⟨g, cp, hv, hg1, hg2⟩ := hq.own.form (by omega)
  obtain ⟨n, hn⟩ : ∃ n, l.length = n := ⟨_, rfl⟩
  have HX2 := Lib.hid (hq.wl.heap HX1.out (by rintro (h | h | h); exact hXB h; (simp [Value.ownBlock] at h); have := HS1.out; omega))
  have HW2 := Lib.hid (HW1.out.trans (hq.wl.mono fun q _ hq2 => by
    rcases hq2 with h | h | h
    · exact Or.inl h
    · simp [Value.ownBlock] at h
    · exact Or.inr (by have := HS1.out; omega)))
  subst hv
  rw [hn] at hl1 hl2 hq ⊢
  obtain ⟨X3, hX3⟩ : ∃ X3, w2.heap.size = X3 := ⟨_, rfl⟩
  have hgl := hq.own.lt g rfl
  have HF0 : Hid (FW w B (K + 2 + 12 * szW r1) g n cp X3 l (w2.alloc (.cells #[.slice (some ⟨g, 0, none⟩) n cp] 61))) := Lib.hid
    ⟨(hn ▸ hq.own).alloc _, hq.pc.later ((Below.refl _ _).alloc (Nat.le_refl _) _), heap_later ((Below.refl _ _).alloc (Nat.le_refl _) _) HX2.out, by rw [← hX3]; exact heap_alloc_new w2 _, HW2.out.trans (ws_below ((Below.refl w.heap.size w2).alloc HW2.out.size _) HW2.out.size), hn, by omega, by have := HW2.out.size; have := HX2.out; have := heap_lt this; omega⟩
  clear hq hn HQ HX0 HX1 HX2 HW1 HW2 HS0 HS1 HP0 HB0 hgl
  have hn20 : ¬ (n : Int) > 20 := by omega
  have hnn : n ≤ 15 := by omega
  go_wp2_with fail
  generalize w2.alloc (.cells #[.slice (some ⟨g, 0, none⟩) n cp] 61) = w3 at *
  clear hX3
  obtain ⟨K3, hK3⟩ : ∃ K3, K + 2 + 12 * szW r1 = K3 := ⟨_, rfl⟩
  rw [hK3] at HF0
  have hK3b : K3 ≤ K + 182 := by omega
  clear hK3 hsz hl2
  refine (cur_one B _ 20 _ HF0.out.pc (by omega) (by omega)).mono ?_
  rintro e w4 ⟨b, rfl, hp, hw⟩
  have HF := Lib.hid (HF0.out.cur hBl hw hp); clear hp hw HF0
  cases b with
  | false =>
    obtain ⟨b3, b2, f2⟩ := (HF).out.box
    have y9 := World.cell?_setCell_same w4 ⟨w.heap.size, 0, none⟩ (.slice (some ⟨g, 0, none⟩) n cp) b2
    have HR := Lib.hid (FW.ret (K' := K) (HF).out hBl (by omega) (by omega))
    go_wp2_with fail
    refine bodyPost_ret (v := .agg #[.slice (some ⟨g, 0, none⟩) n cp]) (by simp [results, Try.results92, go_sem, y9]) rfl ?_
    exact HR.out
  | true =>
  obtain ⟨b3, -, -⟩ := HF.out.box
  go_wp2_with fail
  refine (cur_pick B _ (n : Int) _ HF.out.pc (by omega) (by omega)).mono ?_
  rintro e w5 ⟨k, rfl, hk, hp, hw⟩
  replace HF := Lib.hid (HF.out.cur hBl hw hp); clear hp hw b3
  have hkn : k < n := by omega
  clear hk
  go_wp2_with fail
  refine (cur_pick B _ 3 _ HF.out.pc (by omega) (by omega)).mono ?_
  rintro e w6 ⟨c, rfl, hc, hp, hw⟩
  replace HF := Lib.hid (HF.out.cur hBl hw hp); clear hp hw
  have hc3 : c ≤ 2 := by omega
  clear hc
  cases h0 : ((c : Int) == 0) with
  | true =>
    go_wp2_with fail
    replace HF := Lib.hid HF.out.drew
    obtain ⟨b3, b2, f2⟩ := HF.out.box
    refine wp_region_G [7] (fun w' => w'.cell? ⟨X3, 0, none⟩ = some (.slice (some ⟨g, 0, none⟩) n cp)) (by kernel_rfl) ?_ (fun hHeld => ?_)
    · exact b3
    refine wpG_pure (i := 0) (oi := { dst := some 40, op := Go.Op.fieldAddr 61 (Go.Operand.tmp 3) 0, type := 0, pos := "l7_filter.go:204", after := #[], guard := none }) (v := ?vg1) rfl (by kernel_rfl) (fun _ _ _ h => h) (Or.inr hHeld) (Or.inl ⟨by rfl, ?yg1⟩) ?_
    case yg1 => (intro wS _; go_simp <;> with_reducible rfl)
    try simp only [Act.put, List.setIfInBounds_toArray, List.set_cons_zero, List.set_cons_succ]
    refine wpG_load (i := 1) (oi := { dst := some 41, op := Go.Op.load 59 (Go.Operand.tmp 40), type := 59, pos := "l7_filter.go:204", after := #[{ on := 0, ground := Go.Ground.data }], guard := none }) (v := ?vg2) [[7, 1]] rfl (by kernel_rfl) (fun _ _ _ h => h) hHeld (Or.inl ⟨by rfl, ?yg2⟩) ?_
    case yg2 => (intro wS hSw; (try dsimp only at hSw); go_simp <;> with_reducible rfl)
    try simp only [Act.put, List.setIfInBounds_toArray, List.set_cons_zero, List.set_cons_succ]
    refine wpG_pure (i := 2) (oi := { dst := some 42, op := Go.Op.move (Go.Operand.tmp 4), type := 3, pos := "l7_filter.go:204", after := #[], guard := none }) (v := ?vg3) rfl (by kernel_rfl) (fun _ _ _ h => h) (Or.inr hHeld) (Or.inl ⟨by rfl, ?yg3⟩) ?_
    case yg3 => (intro wS _; go_simp <;> with_reducible rfl)
    try simp only [Act.put, List.setIfInBounds_toArray, List.set_cons_zero, List.set_cons_succ]
    refine wpG_pure (i := 3) (oi := { dst := some 43, op := Go.Op.move (Go.Operand.tmp 0), type := 97, pos := "l7_filter.go:204", after := #[], guard := none }) (v := ?vg4) rfl (by kernel_rfl) (fun _ _ _ h => h) (Or.inr hHeld) (Or.inl ⟨by rfl, ?yg4⟩) ?_
    case yg4 => (intro wS _; go_simp <;> with_reducible rfl)
    try simp only [Act.put, List.setIfInBounds_toArray, List.set_cons_zero, List.set_cons_succ]
    refine wpG_one (i := 4) (o := { dst := some 44, op := Go.Op.call { callee := Go.Callee.value (Go.Operand.func 65), args := #[Go.Operand.tmp 43, Go.Operand.const (Go.Value.int Go.IntKind.i64 10)], argTypes := #[97, 3] }, type := 3, pos := "l7_filter.go:204", after := #[{ on := 3, ground := Go.Ground.data }], guard := none }) rfl (by kernel_rfl) (fun K hK => ?_)
    go_simp
    refine (cur_pick B _ 10 _ HF.out.pc (by omega) (by omega)).mono ?_
    rintro e wt ⟨rt, rfl, hrt, hp, hw⟩
    have HF2 := Lib.hid (HF.out.cur hBl hw hp)
    have hrt2 : rt ≤ 31 := by omega
    have hrw : IntKind.i64.wrap ((rt : Int) - 1) = (rt : Int) - 1 := IntWalk.i64_in _ (by omega)
    clear hp hw hrt b2 f2
    obtain ⟨b4, -, -⟩ := HF2.out.box
    obtain ⟨⟨x4, c4'⟩, f4'⟩ := HF2.out.cells k hkn 0 (by decide)
    have c4 : wt.cell? ⟨g, k * 6, none⟩ = some x4 := c4'
    have f4 : wt.frozen? ⟨g, k * 6, none⟩ = false := f4'
    clear c4' f4'
    refine hK.out _ _ (Or.inr ?khHeld5) (fun hHeld5S => ?_)
    case khHeld5 => exact b4
    have hHeld5 := hHeld5S.held (by kernel_rfl)
    clear hK K
    try simp only [Act.put, List.setIfInBounds_toArray, List.set_cons_zero, List.set_cons_succ]
    refine wpG_pure (i := 5) (oi := { dst := some 45, op := Go.Op.indexAddr 59 (Go.Operand.tmp 41) (Go.Operand.tmp 42), type := 0, pos := "l7_filter.go:204", after := #[{ on := 1, ground := Go.Ground.data }, { on := 2, ground := Go.Ground.data }, { on := 0, ground := Go.Ground.phase }, { on := 1, ground := Go.Ground.phase }, { on := 2, ground := Go.Ground.phase }, { on := 3, ground := Go.Ground.phase }, { on := 4, ground := Go.Ground.phase }], guard := none }) (v := ?vg6) rfl (by kernel_rfl) (fun _ _ _ h => h) (Or.inr hHeld5) (Or.inl ⟨by rfl, ?yg6⟩) ?_
    case yg6 => (intro wS _; go_simp <;> with_reducible rfl)
    try simp only [Act.put, List.setIfInBounds_toArray, List.set_cons_zero, List.set_cons_succ]
    refine wpG_pure (i := 6) (oi := { dst := some 46, op := Go.Op.fieldAddr 134 (Go.Operand.tmp 45) 0, type := 0, pos := "l7_filter.go:204", after := #[{ on := 5, ground := Go.Ground.data }, { on := 0, ground := Go.Ground.phase }, { on := 1, ground := Go.Ground.phase }, { on := 2, ground := Go.Ground.phase }, { on := 3, ground := Go.Ground.phase }, { on := 4, ground := Go.Ground.phase }], guard := none }) (v := ?vg7) rfl (by kernel_rfl) (fun _ _ _ h => h) (Or.inr hHeld5) (Or.inl ⟨by rfl, ?yg7⟩) ?_
    case yg7 => (intro wS _; go_simp <;> with_reducible rfl)
    try simp only [Act.put, List.setIfInBounds_toArray, List.set_cons_zero, List.set_cons_succ]
    refine wpG_one (i := 7) (o := { dst := none, op := Go.Op.store 3 (Go.Operand.tmp 46) (Go.Operand.tmp 44), type := 0, pos := "l7_filter.go:204", after := #[{ on := 6, ground := Go.Ground.data }, { on := 4, ground := Go.Ground.data }, { on := 4, ground := Go.Ground.chain }, { on := 0, ground := Go.Ground.phase }, { on := 1, ground := Go.Ground.phase }, { on := 2, ground := Go.Ground.phase }, { on := 3, ground := Go.Ground.phase }, { on := 4, ground := Go.Ground.phase }], guard := none }) rfl (by kernel_rfl) (fun K hK => ?_)
    go_simp
    refine hK.out _ _ (Or.inl (by kernel_rfl)) (fun _ => ?_)
    clear hK K
    try simp only [Act.put, List.setIfInBounds_toArray, List.set_cons_zero, List.set_cons_succ]
    refine wpG_done (by kernel_rfl) ?_
    have HF3 : Hid (FW w B _ g n cp X3 (turnW l k 0 ((rt : Int))) (wt.setCell ⟨g, k * 6, none⟩ (.int .i64 ((rt : Int))))) := Lib.hid (HF2.out.put hBl k 0 ((rt : Int)) hkn (by decide))
    generalize hw9 : wt.setCell ⟨g, k * 6, none⟩ (.int .i64 ((rt : Int))) = w9 at *
    clear hw9 b4 c4 f4
    obtain ⟨b3, b2, f2⟩ := (HF3).out.box
    have y9 := World.cell?_setCell_same w9 ⟨w.heap.size, 0, none⟩ (.slice (some ⟨g, 0, none⟩) n cp) b2
    have HR := Lib.hid (FW.ret (K' := K) (HF3).out hBl (by omega) (by omega))
    go_wp2_with fail
    refine bodyPost_ret (v := .agg #[.slice (some ⟨g, 0, none⟩) n cp]) (by simp [results, Try.results92, go_sem, y9]) rfl ?_
    exact HR.out
  | false =>
    cases h1 : ((c : Int) == 1) with
    | true =>
      go_wp2_with fail
      replace HF := Lib.hid HF.out.drew
      obtain ⟨b3, b2, f2⟩ := HF.out.box
      refine wp_region_G [8] (fun w' => w'.cell? ⟨X3, 0, none⟩ = some (.slice (some ⟨g, 0, none⟩) n cp)) (by kernel_rfl) ?_ (fun hHeld => ?_)
      · exact b3
      refine wpG_pure (i := 0) (oi := { dst := some 49, op := Go.Op.fieldAddr 61 (Go.Operand.tmp 3) 0, type := 0, pos := "l7_filter.go:206", after := #[], guard := none }) (v := ?vg9) rfl (by kernel_rfl) (fun _ _ _ h => h) (Or.inr hHeld) (Or.inl ⟨by rfl, ?yg9⟩) ?_
      case yg9 => (intro wS _; go_simp <;> with_reducible rfl)
      try simp only [Act.put, List.setIfInBounds_toArray, List.set_cons_zero, List.set_cons_succ]
      refine wpG_load (i := 1) (oi := { dst := some 50, op := Go.Op.load 59 (Go.Operand.tmp 49), type := 59, pos := "l7_filter.go:206", after := #[{ on := 0, ground := Go.Ground.data }], guard := none }) (v := ?vg10) [[8, 1]] rfl (by kernel_rfl) (fun _ _ _ h => h) hHeld (Or.inl ⟨by rfl, ?yg10⟩) ?_
      case yg10 => (intro wS hSw; (try dsimp only at hSw); go_simp <;> with_reducible rfl)
      try simp only [Act.put, List.setIfInBounds_toArray, List.set_cons_zero, List.set_cons_succ]
      refine wpG_pure (i := 2) (oi := { dst := some 51, op := Go.Op.move (Go.Operand.tmp 4), type := 3, pos := "l7_filter.go:206", after := #[], guard := none }) (v := ?vg11) rfl (by kernel_rfl) (fun _ _ _ h => h) (Or.inr hHeld) (Or.inl ⟨by rfl, ?yg11⟩) ?_
      case yg11 => (intro wS _; go_simp <;> with_reducible rfl)
      try simp only [Act.put, List.setIfInBounds_toArray, List.set_cons_zero, List.set_cons_succ]
      refine wpG_pure (i := 3) (oi := { dst := some 52, op := Go.Op.move (Go.Operand.tmp 0), type := 97, pos := "l7_filter.go:206", after := #[], guard := none }) (v := ?vg12) rfl (by kernel_rfl) (fun _ _ _ h => h) (Or.inr hHeld) (Or.inl ⟨by rfl, ?yg12⟩) ?_
      case yg12 => (intro wS _; go_simp <;> with_reducible rfl)
      try simp only [Act.put, List.setIfInBounds_toArray, List.set_cons_zero, List.set_cons_succ]
      refine wpG_one (i := 4) (o := { dst := some 53, op := Go.Op.call { callee := Go.Callee.value (Go.Operand.func 65), args := #[Go.Operand.tmp 52, Go.Operand.const (Go.Value.int Go.IntKind.i64 4)], argTypes := #[97, 3] }, type := 3, pos := "l7_filter.go:206", after := #[{ on := 3, ground := Go.Ground.data }], guard := none }) rfl (by kernel_rfl) (fun K hK => ?_)
      go_simp
      refine (cur_pick B _ 4 _ HF.out.pc (by omega) (by omega)).mono ?_
      rintro e wt ⟨rt, rfl, hrt, hp, hw⟩
      have HF2 := Lib.hid (HF.out.cur hBl hw hp)
      have hrt2 : rt ≤ 31 := by omega
      have hrw : IntKind.i64.wrap ((rt : Int) - 1) = (rt : Int) - 1 := IntWalk.i64_in _ (by omega)
      clear hp hw hrt b2 f2
      obtain ⟨b4, -, -⟩ := HF2.out.box
      obtain ⟨⟨x4, c4'⟩, f4'⟩ := HF2.out.cells k hkn 4 (by decide)
      have c4 : wt.cell? ⟨g, k * 6 + 4, none⟩ = some x4 := c4'
      have f4 : wt.frozen? ⟨g, k * 6 + 4, none⟩ = false := f4'
      clear c4' f4'
      refine hK.out _ _ (Or.inr ?khHeld13) (fun hHeld13S => ?_)
      case khHeld13 => exact b4
      have hHeld13 := hHeld13S.held (by kernel_rfl)
      clear hK K
      try simp only [Act.put, List.setIfInBounds_toArray, List.set_cons_zero, List.set_cons_succ]
      refine wpG_pure (i := 5) (oi := { dst := some 54, op := Go.Op.binOp Go.BinOp.sub 3 (Go.Operand.tmp 53) (Go.Operand.const (Go.Value.int Go.IntKind.i64 1)) 3, type := 3, pos := "l7_filter.go:206", after := #[{ on := 4, ground := Go.Ground.data }], guard := none }) (v := ?vg14) rfl (by kernel_rfl) (fun _ _ _ h => h) (Or.inr hHeld13) (Or.inl ⟨by rfl, ?yg14⟩) ?_
      case yg14 => (intro wS _; go_simp <;> with_reducible rfl)
      try simp only [Act.put, List.setIfInBounds_toArray, List.set_cons_zero, List.set_cons_succ]
      refine wpG_pure (i := 6) (oi := { dst := some 55, op := Go.Op.indexAddr 59 (Go.Operand.tmp 50) (Go.Operand.tmp 51), type := 0, pos := "l7_filter.go:206", after := #[{ on := 1, ground := Go.Ground.data }, { on := 2, ground := Go.Ground.data }, { on := 0, ground := Go.Ground.phase }, { on := 1, ground := Go.Ground.phase }, { on := 2, ground := Go.Ground.phase }, { on := 3, ground := Go.Ground.phase }, { on := 4, ground := Go.Ground.phase }, { on := 5, ground := Go.Ground.phase }], guard := none }) (v := ?vg15) rfl (by kernel_rfl) (fun _ _ _ h => h) (Or.inr hHeld13) (Or.inl ⟨by rfl, ?yg15⟩) ?_
      case yg15 => (intro wS _; go_simp <;> with_reducible rfl)
      try simp only [Act.put, List.setIfInBounds_toArray, List.set_cons_zero, List.set_cons_succ]
      refine wpG_pure (i := 7) (oi := { dst := some 56, op := Go.Op.fieldAddr 134 (Go.Operand.tmp 55) 4, type := 0, pos := "l7_filter.go:206", after := #[{ on := 6, ground := Go.Ground.data }, { on := 0, ground := Go.Ground.phase }, { on := 1, ground := Go.Ground.phase }, { on := 2, ground := Go.Ground.phase }, { on := 3, ground := Go.Ground.phase }, { on := 4, ground := Go.Ground.phase }, { on := 5, ground := Go.Ground.phase }], guard := none }) (v := ?vg16) rfl (by kernel_rfl) (fun _ _ _ h => h) (Or.inr hHeld13) (Or.inl ⟨by rfl, ?yg16⟩) ?_
      case yg16 => (intro wS _; go_simp <;> with_reducible rfl)
      try simp only [Act.put, List.setIfInBounds_toArray, List.set_cons_zero, List.set_cons_succ]
      refine wpG_one (i := 8) (o := { dst := none, op := Go.Op.store 3 (Go.Operand.tmp 56) (Go.Operand.tmp 54), type := 0, pos := "l7_filter.go:206", after := #[{ on := 7, ground := Go.Ground.data }, { on := 5, ground := Go.Ground.data }, { on := 4, ground := Go.Ground.chain }, { on := 0, ground := Go.Ground.phase }, { on := 1, ground := Go.Ground.phase }, { on := 2, ground := Go.Ground.phase }, { on := 3, ground := Go.Ground.phase }, { on := 4, ground := Go.Ground.phase }, { on := 5, ground := Go.Ground.phase }], guard := none }) rfl (by kernel_rfl) (fun K hK => ?_)
      go_simp
      refine hK.out _ _ (Or.inl (by kernel_rfl)) (fun _ => ?_)
      clear hK K
      try simp only [Act.put, List.setIfInBounds_toArray, List.set_cons_zero, List.set_cons_succ]
      refine wpG_done (by kernel_rfl) ?_
      have HF3 : Hid (FW w B _ g n cp X3 (turnW l k 4 ((rt : Int) - 1)) (wt.setCell ⟨g, k * 6 + 4, none⟩ (.int .i64 ((rt : Int) - 1)))) := Lib.hid (HF2.out.put hBl k 4 ((rt : Int) - 1) hkn (by decide))
      generalize hw9 : wt.setCell ⟨g, k * 6 + 4, none⟩ (.int .i64 ((rt : Int) - 1)) = w9 at *
      clear hw9 b4 c4 f4
      obtain ⟨b3, b2, f2⟩ := (HF3).out.box
      have y9 := World.cell?_setCell_same w9 ⟨w.heap.size, 0, none⟩ (.slice (some ⟨g, 0, none⟩) n cp) b2
      have HR := Lib.hid (FW.ret (K' := K) (HF3).out hBl (by omega) (by omega))
      go_wp2_with fail
      refine bodyPost_ret (v := .agg #[.slice (some ⟨g, 0, none⟩) n cp]) (by simp [results, Try.results92, go_sem, y9]) rfl ?_
      exact HR.out
    | false =>
      go_wp2_with fail
      replace HF := Lib.hid HF.out.drew
      obtain ⟨b3, b2, f2⟩ := HF.out.box
      refine wp_region_G [7] (fun w' => w'.cell? ⟨X3, 0, none⟩ = some (.slice (some ⟨g, 0, none⟩) n cp)) (by kernel_rfl) ?_ (fun hHeld => ?_)
      · exact b3
      refine wpG_pure (i := 0) (oi := { dst := some 31, op := Go.Op.fieldAddr 61 (Go.Operand.tmp 3) 0, type := 0, pos := "l7_filter.go:208", after := #[], guard := none }) (v := ?vg18) rfl (by kernel_rfl) (fun _ _ _ h => h) (Or.inr hHeld) (Or.inl ⟨by rfl, ?yg18⟩) ?_
      case yg18 => (intro wS _; go_simp <;> with_reducible rfl)
      try simp only [Act.put, List.setIfInBounds_toArray, List.set_cons_zero, List.set_cons_succ]
      refine wpG_load (i := 1) (oi := { dst := some 32, op := Go.Op.load 59 (Go.Operand.tmp 31), type := 59, pos := "l7_filter.go:208", after := #[{ on := 0, ground := Go.Ground.data }], guard := none }) (v := ?vg19) [[7, 1]] rfl (by kernel_rfl) (fun _ _ _ h => h) hHeld (Or.inl ⟨by rfl, ?yg19⟩) ?_
      case yg19 => (intro wS hSw; (try dsimp only at hSw); go_simp <;> with_reducible rfl)
      try simp only [Act.put, List.setIfInBounds_toArray, List.set_cons_zero, List.set_cons_succ]
      refine wpG_pure (i := 2) (oi := { dst := some 33, op := Go.Op.move (Go.Operand.tmp 4), type := 3, pos := "l7_filter.go:208", after := #[], guard := none }) (v := ?vg20) rfl (by kernel_rfl) (fun _ _ _ h => h) (Or.inr hHeld) (Or.inl ⟨by rfl, ?yg20⟩) ?_
      case yg20 => (intro wS _; go_simp <;> with_reducible rfl)
      try simp only [Act.put, List.setIfInBounds_toArray, List.set_cons_zero, List.set_cons_succ]
      refine wpG_pure (i := 3) (oi := { dst := some 34, op := Go.Op.move (Go.Operand.tmp 0), type := 97, pos := "l7_filter.go:208", after := #[], guard := none }) (v := ?vg21) rfl (by kernel_rfl) (fun _ _ _ h => h) (Or.inr hHeld) (Or.inl ⟨by rfl, ?yg21⟩) ?_
      case yg21 => (intro wS _; go_simp <;> with_reducible rfl)
      try simp only [Act.put, List.setIfInBounds_toArray, List.set_cons_zero, List.set_cons_succ]
      refine wpG_one (i := 4) (o := { dst := some 35, op := Go.Op.call { callee := Go.Callee.value (Go.Operand.func 65), args := #[Go.Operand.tmp 34, Go.Operand.const (Go.Value.int Go.IntKind.i64 32)], argTypes := #[97, 3] }, type := 3, pos := "l7_filter.go:208", after := #[{ on := 3, ground := Go.Ground.data }], guard := none }) rfl (by kernel_rfl) (fun K hK => ?_)
      go_simp
      refine (cur_pick B _ 32 _ HF.out.pc (by omega) (by omega)).mono ?_
      rintro e wt ⟨rt, rfl, hrt, hp, hw⟩
      have HF2 := Lib.hid (HF.out.cur hBl hw hp)
      have hrt2 : rt ≤ 31 := by omega
      have hrw : IntKind.i64.wrap ((rt : Int) - 1) = (rt : Int) - 1 := IntWalk.i64_in _ (by omega)
      clear hp hw hrt b2 f2
      obtain ⟨b4, -, -⟩ := HF2.out.box
      obtain ⟨⟨x4, c4'⟩, f4'⟩ := HF2.out.cells k hkn 1 (by decide)
      have c4 : wt.cell? ⟨g, k * 6 + 1, none⟩ = some x4 := c4'
      have f4 : wt.frozen? ⟨g, k * 6 + 1, none⟩ = false := f4'
      clear c4' f4'
      refine hK.out _ _ (Or.inr ?khHeld22) (fun hHeld22S => ?_)
      case khHeld22 => exact b4
      have hHeld22 := hHeld22S.held (by kernel_rfl)
      clear hK K
      try simp only [Act.put, List.setIfInBounds_toArray, List.set_cons_zero, List.set_cons_succ]
      refine wpG_pure (i := 5) (oi := { dst := some 36, op := Go.Op.indexAddr 59 (Go.Operand.tmp 32) (Go.Operand.tmp 33), type := 0, pos := "l7_filter.go:208", after := #[{ on := 1, ground := Go.Ground.data }, { on := 2, ground := Go.Ground.data }, { on := 0, ground := Go.Ground.phase }, { on := 1, ground := Go.Ground.phase }, { on := 2, ground := Go.Ground.phase }, { on := 3, ground := Go.Ground.phase }, { on := 4, ground := Go.Ground.phase }], guard := none }) (v := ?vg23) rfl (by kernel_rfl) (fun _ _ _ h => h) (Or.inr hHeld22) (Or.inl ⟨by rfl, ?yg23⟩) ?_
      case yg23 => (intro wS _; go_simp <;> with_reducible rfl)
      try simp only [Act.put, List.setIfInBounds_toArray, List.set_cons_zero, List.set_cons_succ]
      refine wpG_pure (i := 6) (oi := { dst := some 37, op := Go.Op.fieldAddr 134 (Go.Operand.tmp 36) 1, type := 0, pos := "l7_filter.go:208", after := #[{ on := 5, ground := Go.Ground.data }, { on := 0, ground := Go.Ground.phase }, { on := 1, ground := Go.Ground.phase }, { on := 2, ground := Go.Ground.phase }, { on := 3, ground := Go.Ground.phase }, { on := 4, ground := Go.Ground.phase }], guard := none }) (v := ?vg24) rfl (by kernel_rfl) (fun _ _ _ h => h) (Or.inr hHeld22) (Or.inl ⟨by rfl, ?yg24⟩) ?_
      case yg24 => (intro wS _; go_simp <;> with_reducible rfl)
      try simp only [Act.put, List.setIfInBounds_toArray, List.set_cons_zero, List.set_cons_succ]
      refine wpG_one (i := 7) (o := { dst := none, op := Go.Op.store 3 (Go.Operand.tmp 37) (Go.Operand.tmp 35), type := 0, pos := "l7_filter.go:208", after := #[{ on := 6, ground := Go.Ground.data }, { on := 4, ground := Go.Ground.data }, { on := 4, ground := Go.Ground.chain }, { on := 0, ground := Go.Ground.phase }, { on := 1, ground := Go.Ground.phase }, { on := 2, ground := Go.Ground.phase }, { on := 3, ground := Go.Ground.phase }, { on := 4, ground := Go.Ground.phase }], guard := none }) rfl (by kernel_rfl) (fun K hK => ?_)
      go_simp
      refine hK.out _ _ (Or.inl (by kernel_rfl)) (fun _ => ?_)
      clear hK K
      try simp only [Act.put, List.setIfInBounds_toArray, List.set_cons_zero, List.set_cons_succ]
      refine wpG_done (by kernel_rfl) ?_
      have HF3 : Hid (FW w B _ g n cp X3 (turnW l k 1 ((rt : Int))) (wt.setCell ⟨g, k * 6 + 1, none⟩ (.int .i64 ((rt : Int))))) := Lib.hid (HF2.out.put hBl k 1 ((rt : Int)) hkn (by decide))
      generalize hw9 : wt.setCell ⟨g, k * 6 + 1, none⟩ (.int .i64 ((rt : Int))) = w9 at *
      clear hw9 b4 c4 f4
      obtain ⟨b3, b2, f2⟩ := (HF3).out.box
      have y9 := World.cell?_setCell_same w9 ⟨w.heap.size, 0, none⟩ (.slice (some ⟨g, 0, none⟩) n cp) b2
      have HR := Lib.hid (FW.ret (K' := K) (HF3).out hBl (by omega) (by omega))
      go_wp2_with fail
      refine bodyPost_ret (v := .agg #[.slice (some ⟨g, 0, none⟩) n cp]) (by simp [results, Try.results92, go_sem, y9]) rfl ?_
      exact HR.out
/-- what was drawn: a filter and bytes -/
def MatO (w : World) (e : Ending) (w' : World) : Prop :=
  ∃ a c l s, e = .returned (.tuple #[.agg #[.slice a l.length c], .string s]) ∧ l.length ≤ 20 ∧ s.size ≤ 402 ∧ w'.ownsRow w.heap.size 134 6 (.slice a l.length c) l.length (wnsV l) ∧ Below w.heap.size w w'
def TwoO (w : World) (e : Ending) (w' : World) : Prop :=
  ∃ a c l a2 c2 l2, e = .returned (.tuple #[.agg #[.slice a l.length c], .agg #[.slice a2 l2.length c2]]) ∧ (l.length ≤ 20 ∧ l2.length ≤ 20) ∧ w'.ownsRow w.heap.size 134 6 (.slice a l.length c) l.length (wnsV l) ∧ w'.ownsRow w.heap.size 134 6 (.slice a2 l2.length c2) l2.length (wnsV l2) ∧ Below w.heap.size w w'
set_option maxHeartbeats 1000000 in
theorem draw_Matches (w : World) (a : Option Addr) (c : Nat) (cs : List UInt8) (hl : cs.length ≤ c) (hc : c ≤ 9223372036854775807) (hr : Rb w.heap.size w a (u8s cs)) :
    Calls Try.prog 38 #[.slice a cs.length c] w (MatO w) := by
  have HBA := Lib.hid ((Below.refl w.heap.size w).alloc (Nat.le_refl _) (.cells #[.slice none 0 0] 61))
  have HSA : Hid ((w.alloc (.cells #[.slice none 0 0] 61)).heap.size = w.heap.size + 1) := Lib.hid (by simp)
  have hp0 := pc_start (w.alloc (.cells #[.slice none 0 0] 61)) a c cs hl hc ((hr.below HBA.out).mono HBA.out.size)
  rw [HSA.out] at hp0
  have HP0 := Lib.hid hp0
  have hbb := (Below.refl (w.alloc (.cells #[.slice none 0 0] 61)).heap.size (w.alloc (.cells #[.slice none 0 0] 61))).alloc (Nat.le_refl _) (.cells #[.slice a cs.length c, .int .i64 0, .int .u64 0] 100)
  have HX0 := Lib.hid (heap_keep hbb (heap_alloc_new w (.cells #[.slice none 0 0] 61)))
  have HB0 := Lib.hid (HBA.out.trans (hbb.mono HBA.out.size))
  have HZ0 : Hid (((w.alloc (.cells #[.slice none 0 0] 61)).alloc (.cells #[.slice a cs.length c, .int .i64 0, .int .u64 0] 100)).heap.size = w.heap.size + 2) := Lib.hid (by simp)
  clear hp0 hbb hr hl hc
  go_enter Try.func38, Try.ntmps38
  go_wp2_with fail
  generalize (w.alloc (.cells #[.slice none 0 0] 61)).alloc (.cells #[.slice a cs.length c, .int .i64 0, .int .u64 0] 100) = w0 at *
  refine (cur_filter (w.heap.size + 1) 0 w0 HP0.out (by omega)).mono ?_
  rintro e w1 ⟨fa, fc, l, rfl, hl20, ho, hp, hw⟩
  have hz := HZ0.out
  have HX1 := Lib.hid (hw.heap HX0.out (by rintro (h | h) <;> omega))
  have HW1 := Lib.hid (HB0.out.trans (ws_all (ws_wide (n := w.heap.size) hw (by omega) (by omega)) (by omega)))
  have HO1 := Lib.hid ho; have HP1 := Lib.hid hp
  have HZ1 : Hid (w.heap.size + 2 ≤ w1.heap.size) := Lib.hid (by have := hw.size; omega)
  clear hw ho hp
  go_wp2_with fail
  refine (cur_rising (w.heap.size + 1) _ w1 HP1.out (by omega)).mono ?_
  rintro e w2 ⟨s, rfl, hs, hp, hw⟩
  have hz1 := HZ1.out
  have HX2 := Lib.hid (hw.heap HX1.out (by rintro (h | h) <;> omega))
  have HW2 := Lib.hid (HW1.out.trans (ws_all (ws_wide (n := w.heap.size) hw (by omega) (by omega)) (by omega)))
  have HO2 := Lib.hid (hw.own HO1.out (fun k hk h => by have := HO1.out.lt k hk; rcases h with h | h <;> omega))
  clear hw hp hz hz1
  have hx2 := HX2.out
  have y0 : w2.cell? ⟨w.heap.size, 0, none⟩ = some (.slice none 0 0) := by simp [World.cell?, hx2]
  have f0 : w2.frozen? ⟨w.heap.size, 0, none⟩ = false := by simp [World.frozen?, hx2]
  have y9 := World.cell?_setCell_same w2 ⟨w.heap.size, 0, none⟩ (.slice fa l.length fc) y0
  have HO3 := Lib.hid (ownsRow_setCell_below HO2.out (a := ⟨w.heap.size, 0, none⟩) (by rw [HZ0.out]; show w.heap.size < w.heap.size + 2; omega) (.slice fa l.length fc))
  have HB3 := Lib.hid (HW2.out.setCell (p := ⟨w.heap.size, 0, none⟩) (Nat.le_refl _) (.slice fa l.length fc))
  clear hx2
  go_wp2_with fail
  refine bodyPost_ret (v := .tuple #[.agg #[.slice fa l.length fc], .string s]) (by simp [results, Try.results38, go_sem, y9]) rfl ⟨fa, fc, l, s, rfl, hl20, hs, ?_, HB3.out⟩
  exact own_mono HO3.out (by rw [HZ0.out]; omega)
set_option maxHeartbeats 1000000 in
theorem draw_BothFilters (w : World) (a : Option Addr) (c : Nat) (cs : List UInt8) (hl : cs.length ≤ c) (hc : c ≤ 9223372036854775807) (hr : Rb w.heap.size w a (u8s cs)) :
    Calls Try.prog 53 #[.slice a cs.length c] w (TwoO w) := by
  have HBA := Lib.hid (((Below.refl w.heap.size w).alloc (Nat.le_refl _) (.cells #[.slice none 0 0] 61)).alloc (by simp) (.cells #[.slice none 0 0] 61))
  have HSA : Hid (((w.alloc (.cells #[.slice none 0 0] 61)).alloc (.cells #[.slice none 0 0] 61)).heap.size = w.heap.size + 2) := Lib.hid (by simp)
  have HXA := Lib.hid (heap_keep ((Below.refl (w.alloc (.cells #[.slice none 0 0] 61)).heap.size _).alloc (Nat.le_refl _) (.cells #[.slice none 0 0] 61)) (heap_alloc_new w (.cells #[.slice none 0 0] 61)))
  have HXB := Lib.hid (heap_alloc_new (w.alloc (.cells #[.slice none 0 0] 61)) (.cells #[.slice none 0 0] 61))
  rw [World.size_alloc] at HXB
  have hp0 := pc_start ((w.alloc (.cells #[.slice none 0 0] 61)).alloc (.cells #[.slice none 0 0] 61)) a c cs hl hc ((hr.below HBA.out).mono HBA.out.size)
  rw [HSA.out] at hp0
  have HP0 := Lib.hid hp0
  have hbb := (Below.refl ((w.alloc (.cells #[.slice none 0 0] 61)).alloc (.cells #[.slice none 0 0] 61)).heap.size _).alloc (Nat.le_refl _) (.cells #[.slice a cs.length c, .int .i64 0, .int .u64 0] 100)
  have HX0 := Lib.hid (heap_keep hbb HXA.out)
  have HY0 := Lib.hid (heap_keep hbb HXB.out)
  have HB0 := Lib.hid (HBA.out.trans (hbb.mono HBA.out.size))
  have HZ0 : Hid ((((w.alloc (.cells #[.slice none 0 0] 61)).alloc (.cells #[.slice none 0 0] 61)).alloc (.cells #[.slice a cs.length c, .int .i64 0, .int .u64 0] 100)).heap.size = w.heap.size + 3) := Lib.hid (by simp)
  clear hp0 hbb hr hl hc
  go_enter Try.func53, Try.ntmps53
  go_wp2_with fail
  generalize ((w.alloc (.cells #[.slice none 0 0] 61)).alloc (.cells #[.slice none 0 0] 61)).alloc (.cells #[.slice a cs.length c, .int .i64 0, .int .u64 0] 100) = w0 at *
  refine (cur_filter (w.heap.size + 2) 0 w0 HP0.out (by omega)).mono ?_
  rintro e w1 ⟨fa, fc, l, rfl, hl20, ho, hp, hw⟩
  have hz := HZ0.out
  have HX1 := Lib.hid (hw.heap HX0.out (by rintro (h | h) <;> omega))
  have HY1 := Lib.hid (hw.heap HY0.out (by rintro (h | h) <;> omega))
  have HW1 := Lib.hid (HB0.out.trans (ws_all (ws_wide (n := w.heap.size) hw (by omega) (by omega)) (by omega)))
  have HO1 := Lib.hid ho; have HP1 := Lib.hid hp
  have HZ1 : Hid (w.heap.size + 3 ≤ w1.heap.size) := Lib.hid (by have := hw.size; omega)
  clear hw ho hp
  go_wp2_with fail
  refine (cur_filter (w.heap.size + 2) _ w1 HP1.out (by omega)).mono ?_
  rintro e w2 ⟨ga, gc, l2, rfl, hl220, ho, hp, hw⟩
  have hz1 := HZ1.out
  have HX2 := Lib.hid (hw.heap HX1.out (by rintro (h | h) <;> omega))
  have HY2 := Lib.hid (hw.heap HY1.out (by rintro (h | h) <;> omega))
  have HW2 := Lib.hid (HW1.out.trans (ws_all (ws_wide (n := w.heap.size) hw (by omega) (by omega)) (by omega)))
  have HO2 := Lib.hid (hw.own HO1.out (fun k hk h => by have := HO1.out.lt k hk; rcases h with h | h <;> omega))
  have HQ2 := Lib.hid (own_mono (base' := w.heap.size + 3) ho hz1)
  clear hw hp hz hz1 ho
  have hx2 := HX2.out
  have hy2 := HY2.out
  have y0 : w2.cell? ⟨w.heap.size, 0, none⟩ = some (.slice none 0 0) := by simp [World.cell?, hx2]
  have f0 : w2.frozen? ⟨w.heap.size, 0, none⟩ = false := by simp [World.frozen?, hx2]
  have y1 : w2.cell? ⟨w.heap.size + 1, 0, none⟩ = some (.slice none 0 0) := by simp [World.cell?, hy2]
  have f1 : w2.frozen? ⟨w.heap.size + 1, 0, none⟩ = false := by simp [World.frozen?, hy2]
  have y9 := World.cell?_setCell_same w2 ⟨w.heap.size, 0, none⟩ (.slice fa l.length fc) y0
  have hw3 := wrote_cell w2 w.heap.size 0 (.slice fa l.length fc)
  have HO3 := Lib.hid (ownsRow_setCell_below HO2.out (a := ⟨w.heap.size, 0, none⟩) (by rw [HZ0.out]; show w.heap.size < w.heap.size + 3; omega) (.slice fa l.length fc))
  have HQ3 := Lib.hid (ownsRow_setCell_below HQ2.out (a := ⟨w.heap.size, 0, none⟩) (by show w.heap.size < w.heap.size + 3; omega) (.slice fa l.length fc))
  have HB3 := Lib.hid (HW2.out.setCell (p := ⟨w.heap.size, 0, none⟩) (Nat.le_refl _) (.slice fa l.length fc))
  have y1' := hw3.cell y1 (by omega)
  have hf1' : (w2.setCell ⟨w.heap.size, 0, none⟩ (.slice fa l.length fc)).frozen? ⟨w.heap.size + 1, 0, none⟩ = false := by
    have h := hw3.heap hy2 (by omega)
    simp [World.frozen?, h]
  generalize hwd : w2.setCell ⟨w.heap.size, 0, none⟩ (.slice fa l.length fc) = w3 at *
  have hw4 := wrote_cell w3 (w.heap.size + 1) 0 (.slice ga l2.length gc)
  have y8 := World.cell?_setCell_same w3 ⟨w.heap.size + 1, 0, none⟩ (.slice ga l2.length gc) y1'
  have y9' := hw4.cell y9 (by omega)
  have HO4 := Lib.hid (ownsRow_setCell_below HO3.out (a := ⟨w.heap.size + 1, 0, none⟩) (by rw [HZ0.out]; show w.heap.size + 1 < w.heap.size + 3; omega) (.slice ga l2.length gc))
  have HQ4 := Lib.hid (ownsRow_setCell_below HQ3.out (a := ⟨w.heap.size + 1, 0, none⟩) (by show w.heap.size + 1 < w.heap.size + 3; omega) (.slice ga l2.length gc))
  have HB4 := Lib.hid (HB3.out.setCell (p := ⟨w.heap.size + 1, 0, none⟩) (by show w.heap.size ≤ w.heap.size + 1; omega) (.slice ga l2.length gc))
  clear hx2 hy2 hw3 hw4
  go_wp2_with fail
  refine bodyPost_ret (v := .tuple #[.agg #[.slice fa l.length fc], .agg #[.slice ga l2.length gc]]) (by simp [results, Try.results53, go_sem, y9', y8]) rfl ⟨fa, fc, l, ga, gc, l2, rfl, ⟨hl20, hl220⟩, ?_, ?_, HB4.out⟩
  · exact own_mono HO4.out (by rw [HZ0.out]; omega)
  · exact own_mono HQ4.out (by omega)
end Go.Proofs.Ytlmgckijbamgpaa
