/- The contracts of the draws of rows of boxes, and of two boxes: what is drawn is only bounded. -/
import Derived.Test.YthlajmncpejhmaaCurB
namespace Go.Proofs.Ythlajmncpejhmaa
set_option linter.unusedVariables false
open Go.ChangeShapes Go.WideShapes Go.ChangeAt Go.RowKit
set_option maxRecDepth 100000

theorem Try.infoBoxC : (Try.prog.info? 28).map (fun i => (i.zero, i.size, i.bytes)) = some (some (.agg #[.slice none 0 0]), 1, 24) := by kernel_rfl
def okP (x : Bx) : Prop := x.length = 3 ∧ ∀ p ∈ x, (-2000 ≤ p.1 ∧ p.1 ≤ 2000) ∧ (-2000 ≤ p.2 ∧ p.2 ≤ 2000)
/-- boxes under way: the row of their slices, each box's own sides -/
def BSs (w : World) (B K : Nat) (v : Value) (vs : List Value) (l : List Bx) (wr : World) : Prop :=
  wr.ownsRow w.heap.size 28 1 v l.length vs ∧ (∀ (i : Nat) (u : Value) (x : Bx), vs[i]? = some u → l[i]? = some x → wr.ownsRow w.heap.size 64 2 u x.length (sds x)) ∧ Wrote (WS B w.heap.size) w wr ∧ PC wr B K
theorem bss_len {w : World} {B K : Nat} {v : Value} {vs : List Value} {l : List Bx} {wr : World} (h : BSs w B K v vs l wr) : vs.length = l.length := by have := h.1.1; omega
theorem bss_wrote {w : World} {B K K' m : Nat} {v : Value} {vs : List Value} {l : List Bx} {wx wy : World} (h : BSs w B K v vs l wx) (hB : B < w.heap.size) (hw : Wrote (WS B m) wx wy) (hm : wx.heap.size ≤ m) (hp : PC wy B K') : BSs w B K' v vs l wy := by
  obtain ⟨h1, h2, h3, h4⟩ := h
  have key : ∀ {e : TypeId} {size n : Nat} {u : Value} {xs : List Value}, wx.ownsRow w.heap.size e size u n xs → wy.ownsRow w.heap.size e size u n xs := fun ho => hw.own ho (fun k hk => by have := ho.lt k hk; rintro (h | h) <;> omega)
  exact ⟨key h1, fun i u x hu hx => key (h2 i u x hu hx), h3.trans (hw.mono fun k _ hk => by rcases hk with h | h; exact .inl h; exact .inr (by have := h3.size; omega)), hp⟩
theorem bss_cur {w : World} {B K K' : Nat} {v : Value} {vs : List Value} {l : List Bx} {wx wy : World} (h : BSs w B K v vs l wx) (hB : B < w.heap.size) (hw : Wrote (fun k => k = B) wx wy) (hp : PC wy B K') : BSs w B K' v vs l wy :=
  bss_wrote h hB (ws_cur (n := wx.heap.size) hw) (Nat.le_refl _) hp
theorem bss_below {w : World} {B K : Nat} {v : Value} {vs : List Value} {l : List Bx} {wx wy : World} (h : BSs w B K v vs l wx) (hB : B < w.heap.size) (hb : Below wx.heap.size wx wy) : BSs w B K v vs l wy :=
  bss_wrote h hB (ws_below hb (Nat.le_refl _)) (Nat.le_refl _) (h.2.2.2.later hb)
theorem own_diff {w : World} {b1 b2 e1 e2 s1 s2 n1 n2 : Nat} {u v : Value} {xs ys : List Value} (h1 : w.ownsRow b1 e1 s1 u n1 xs) (h2 : w.ownsRow b2 e2 s2 v n2 ys) (he : e1 ≠ e2) (k : Nat) (hu : u.ownBlock = some k) : v.ownBlock ≠ some k := by
  intro hv
  rcases h1.2 with ⟨rfl, _⟩ | ⟨g, cap, cur, rfl, _, hh, _⟩
  · cases hu
  · rcases h2.2 with ⟨rfl, _⟩ | ⟨g', cap', cur', rfl, _, hh', _⟩
    · cases hv
    · simp only [Value.ownBlock, Option.some.injEq] at hu hv
      subst hu; subst hv
      rw [hh] at hh'
      simp only [Option.some.injEq, Obj.cells.injEq] at hh'
      exact he hh'.2.1
/-- the row of boxes grows by one -/
theorem bss_app {w : World} {B K : Nat} {v v' u : Value} {vs : List Value} {l : List Bx} {x : Bx} {wx wy : World} (h : BSs w B K v vs l wx) (hB : B < w.heap.size) (hu : wx.ownsRow w.heap.size 64 2 u x.length (sds x)) (ho : wy.ownsRow w.heap.size 28 1 v' (l.length + 1) (vs ++ [u])) (hg : wx.grownBy wy v.ownBlock) : BSs w B K v' (vs ++ [u]) (l ++ [x]) wy := by
  have hvl := bss_len h
  obtain ⟨h1, h2, h3, h4⟩ := h
  have key : ∀ {n : Nat} {z : Value} {xs : List Value}, wx.ownsRow w.heap.size 64 2 z n xs → wy.ownsRow w.heap.size 64 2 z n xs := by
    intro n z xs hz
    exact (Wrote.of_grown hg).own hz (fun k hk hc => own_diff hz h1 (by decide) k hk hc)
  refine ⟨by rw [List.length_append]; exact ho, fun i z y hz hy => ?_, h3.trans (ws_grown hg (fun k hk => (h1.lt k hk).1)), pc_grown h4 hB hg (fun k hk => (h1.lt k hk).1)⟩
  rcases Nat.lt_trichotomy i l.length with hi | hi | hi
  · rw [List.getElem?_append_left (by omega)] at hz hy
    exact key (h2 i z y hz hy)
  · subst hi
    rw [List.getElem?_append_right (by omega)] at hz hy
    rw [hvl, Nat.sub_self] at hz
    rw [Nat.sub_self] at hy
    simp only [List.getElem?_cons_zero, Option.some.injEq] at hz hy
    subst hz; subst hy
    exact key hu
  · rw [List.getElem?_append_right (by omega)] at hy
    have : i - l.length ≠ 0 := by omega
    match hq : i - l.length, hy with
    | 0, _ => omega
    | q + 1, hy => simp at hy
theorem flat_ones : ∀ vs : List Value, (vs.map fun u => [u]).flatten = vs
  | [] => rfl
  | u :: us => by rw [List.map_cons, List.flatten_cons, flat_ones us]; rfl
theorem bss_rd {w : World} {B K : Nat} {v : Value} {vs : List Value} {l : List Bx} {wr : World} (h : BSs w B K v vs l wr) (hl : ∀ x ∈ l, okP x) : kBoxS.rd wr.heap.size wr [v] l := by
  have hvl := bss_len h
  obtain ⟨h1, h2, h3, h4⟩ := h
  obtain ⟨a, cap, rfl⟩ := form_of_own h1
  have hfl : (vs.map fun u => [u]).flatten = vs := flat_ones vs
  refine ⟨a, cap, vs.map fun u => [u], rfl, own_caps h1, by rw [hfl]; exact own_rw h1, RdL_of (by rw [List.length_map]; exact hvl) ?_⟩
  intro i u x hu hx
  rw [List.getElem?_map] at hu
  obtain ⟨u', hu', rfl⟩ := Option.map_eq_some_iff.1 hu
  have ho := h2 i u' x hu' hx
  have hk := hl x (List.mem_of_getElem? hx)
  exact kBox_ok.ord (box_ow (e := 0) ho (fun p hp => ⟨WalkArith.wf_i64 (by have := hk.2 p hp; omega), WalkArith.wf_i64 (by have := hk.2 p hp; omega)⟩)) (kBox_ok.olt (box_ow (e := 0) ho (fun p hp => ⟨WalkArith.wf_i64 (by have := hk.2 p hp; omega), WalkArith.wf_i64 (by have := hk.2 p hp; omega)⟩)))
/-- the blocks of boxes under way lie below bb -/
def Blt (bb : Nat) (v : Value) (vs : List Value) : Prop := (∀ k, v.ownBlock = some k → k < bb) ∧ ∀ (i : Nat) (u : Value), vs[i]? = some u → ∀ k, u.ownBlock = some k → k < bb
theorem bss_lt {w : World} {B K : Nat} {v : Value} {vs : List Value} {l : List Bx} {wx : World} (h : BSs w B K v vs l wx) : Blt wx.heap.size v vs := by
  have hvl := bss_len h
  refine ⟨fun k hk => (h.1.lt k hk).2, fun i u hu k hk => ?_⟩
  have hi := (List.getElem?_eq_some_iff.1 hu).1
  exact ((h.2.1 i u _ hu (List.getElem?_eq_getElem (show i < l.length by omega))).lt k hk).2
theorem bss_set {w : World} {B K bb : Nat} {v z : Value} {vs : List Value} {l : List Bx} {wx : World} (h : BSs w B K v vs l wx) (hB : B < w.heap.size) (hlt : Blt bb v vs) (hb : w.heap.size ≤ bb) : BSs w B K v vs l (wx.setCell ⟨bb, 0, none⟩ z) := by
  obtain ⟨h1, h2, h3, h4⟩ := h
  have hw : Wrote (fun k => k = bb) wx (wx.setCell ⟨bb, 0, none⟩ z) := wrote_cell _ _ _ _
  exact ⟨hw.own h1 (fun k hk => by have := hlt.1 k hk; omega), fun i u x hu hx => hw.own (h2 i u x hu hx) (fun k hk => by have := hlt.2 i u hu k hk; omega), h3.trans (hw.mono fun k _ hk => .inr (by omega)), pc_grown (n := w.heap.size) h4 hB (row := some bb) ⟨hw.os, hw.tape, hw.output, hw.size, fun k hk hs => hw.block k hk (fun e => hs (by rw [e]))⟩ (fun k hk => by simp only [Option.some.injEq] at hk; omega)⟩
def BoxesOf (B K : Nat) (w : World) (e : Ending) (w' : World) : Prop :=
  ∃ v vs l, e = .returned v ∧ BSs w B (K + 2000) v vs l w' ∧ l.length ≤ 21 ∧ ∀ x ∈ l, okP x
theorem bss_mono {w : World} {B K K' : Nat} {v : Value} {vs : List Value} {l : List Bx} {wr : World} (h : BSs w B K v vs l wr) (hk : K ≤ K') : BSs w B K' v vs l wr := ⟨h.1, h.2.1, h.2.2.1, h.2.2.2.mono hk⟩
set_option maxHeartbeats 2000000 in
theorem cur_boxes (B KQ : Nat) (w : World) (h : PC w B KQ) (hK : KQ ≤ 700000000000) :
    Calls Try.prog 66 #[.pointer (some ⟨B, 0, none⟩)] w (BoxesOf B KQ w) := by
  obtain ⟨i0, hi, hz0, hz1, hz2⟩ := info_parts Try.infoBoxC
  have hBl := h.lt
  have HPC := Lib.hid h; clear h
  unfold BoxesOf
  go_enter Try.func66, Try.ntmps66
  go_wp2_with fail
  refine (cur_pick B KQ 6 _ HPC.out (by omega) (by omega)).mono ?_
  rintro e w1 ⟨r1, rfl, hr1, hp, hw⟩
  have HPC1 := Lib.hid hp; have HW1 := Lib.hid hw; clear hp hw
  go_wp2_with fail
  refine (cur_one B _ 20 _ HPC1.out (by omega) (by omega)).mono ?_
  rintro e w2 ⟨b2, rfl, hp, hw⟩
  have HPC2 := Lib.hid hp; have HW2 := Lib.hid (HW1.out.trans hw); clear hp hw
  cases b2 with
  | false =>
    have HBS0 : Hid (BSs w B (KQ + 6 + 44 * ([] : List Bx).length) (.slice none 0 0) [] [] w2) := Lib.hid ⟨World.ownsRow_nil _ _ _ _, fun i u x hu _ => by simp at hu, ws_cur HW2.out, HPC2.out.mono (by simp)⟩
    have hr9 : r1 ≤ 21 := by omega
    go_wp2_with fail
    go_loopw [3, 4] (fun lv nv wr => ∃ (n : Nat) (v : Value) (vs : List Value) (l : List Bx), nv = .int .i64 (n : Int) ∧ lv = v ∧ n + l.length ≤ 21 ∧ Hid (BSs w B (KQ + 6 + 44 * l.length) v vs l wr) ∧ Hid (∀ x ∈ l, okP x)) (fun _ nv _ => (intOf nv).toNat)
    case atStart => exact ⟨r1, _, [], [], by go_num, rfl, by simp; try omega, HBS0, Lib.hid (by simp)⟩
    case round =>
      clear HBS0
      obtain ⟨w1, rfl⟩ : ∃ z : World, z = wr := ⟨_, rfl⟩
      obtain ⟨n, v, vs, l, rfl, rfl, hnl, HBS, HOK⟩ := hrel
      obtain ⟨qa, qc, hv⟩ := form_of_own HBS.out.1
      subst hv
      by_cases hn0 : 0 < n
      case neg =>
        go_wp2_with fail
        go_ret
        exact ⟨_, _, l, rfl, bss_mono HBS.out (by omega), by omega, HOK.out⟩
      go_wp2_with fail
      refine (cur_box B _ w1 HBS.out.2.2.2 (by omega)).mono ?_
      rintro e w2 ⟨u, x, rfl, hox, hx3, hxb, hp, hw⟩
      have hsz1 := HBS.out.2.2.1.size
      have hal : Below w2.heap.size w2 (w2.alloc (.cells #[u] 28)) := (Below.refl _ _).alloc (Nat.le_refl _) _
      have hbb : (w2.alloc (.cells #[u] 28)).heap[w2.heap.size]? = some (.cells #[u] 28) := heap_alloc_new w2 _
      have HXO := Lib.hid (own_later (own_mono hox hsz1) hal); have HXX : Hid (okP x) := Lib.hid ⟨hx3, hxb⟩
      have hub : ∀ k, u.ownBlock = some k → k < w2.heap.size ∧ k ≠ B := fun k hk => by have := hox.lt k hk; omega
      have hbw := bss_wrote HBS.out hBl hw (Nat.le_refl _) hp
      have HLT := Lib.hid (bss_lt hbw)
      replace HBS := Lib.hid (bss_below hbw hBl hal)
      have hB2 : B < w2.heap.size := by have := hw.size; omega
      have hw2z := hw.size
      have hbw2 : w.heap.size ≤ w2.heap.size := Nat.le_trans hsz1 hw.size
      clear hox hx3 hxb hp hw hal hbw
      obtain ⟨ua, uc, hu⟩ := form_of_own HXO.out
      subst hu
      by_cases hl0 : 0 < l.length
      case neg =>
        have hl0' : decide (0 < l.length) = false := decide_eq_false hl0
        clear hbb
        have HNW : Hid (∀ j u, [Value.slice ua x.length uc][j]? = some u → ((w2.alloc (.cells #[.slice ua x.length uc] 28)).alloc (.cells #[.slice ua x.length uc] 28)).cell? ((⟨w2.heap.size + 1, 0, none⟩ : Addr).add j) = some u) := Lib.hid (by have := news_one (w2.alloc (.cells #[.slice ua x.length uc] 28)) (.slice ua x.length uc) 28; simpa using this)
        go_wp2_with (at_builtin; refine wpList_append_own _ rfl _ _ 40 rfl w.heap.size 28 i0 (.agg #[.slice none 0 0]) 1 24 Try.underlying40 hi hz0 hz1 hz2 rfl (by decide) _ l.length _ rfl (HBS.out.1.alloc _) ⟨w2.heap.size + 1, 0, none⟩ 1 1 [.slice ua x.length uc] rfl rfl (HNW.out) (by simp [Value.oneCell']) (by unfold maxLen; omega) (by omega) (Nat.le_trans HBS.out.2.2.1.size (by simp)) ?_)
        intro v7 w7 hown hgrow _
        have hal : Below (w2.alloc (.cells #[.slice ua x.length uc] 28)).heap.size (w2.alloc (.cells #[.slice ua x.length uc] 28)) ((w2.alloc (.cells #[.slice ua x.length uc] 28)).alloc (.cells #[.slice ua x.length uc] 28)) := (Below.refl _ _).alloc (Nat.le_refl _) _
        have HBS7 := Lib.hid (bss_app (bss_below HBS.out hBl hal) hBl (own_later HXO.out hal) hown hgrow)
        have HOK7 : Hid (∀ y ∈ l ++ [x], okP y) := Lib.hid (fun y hy => by
          rcases List.mem_append.1 hy with h | h
          · exact HOK.out y h
          · rw [List.mem_singleton.1 h]; exact HXX.out)
        clear hown hgrow hal HBS
        have hn1 : ((n : Int) - 1) = ((n - 1 : Nat) : Int) := by omega
        go_wp2_with fail
        go_roundw
        case rel => exact ⟨n - 1, _, _, l ++ [x], by go_num, rfl, by simp; omega, Lib.hid (bss_mono HBS7.out (by simp; omega)), HOK7⟩
        case measure => simp [intOf]; omega
      have hl0' : decide (0 < l.length) = true := decide_eq_true hl0
      go_wp2_with fail
      generalize w2.alloc (.cells #[.slice ua x.length uc] 28) = w3 at *
      generalize w2.heap.size = bb at *
      refine (cur_one B _ 8 w3 HBS.out.2.2.2 (by omega) (by omega)).mono ?_
      rintro e w4 ⟨b4, rfl, hp, hw⟩
      replace HBS := Lib.hid (bss_cur HBS.out hBl hw hp)
      replace HXO := Lib.hid (hw.own HXO.out (fun k hk => (hub k hk).2))
      replace hbb := (hw.block bb (Array.getElem?_eq_some_iff.1 hbb).1 (by omega)).trans hbb
      clear hp hw
      cases b4 with
      | false =>
        have c0 : w4.cell? ⟨bb, 0, none⟩ = some (.slice ua x.length uc) := by simp [World.cell?, hbb]
        go_wp2_with (at_builtin; refine wpList_append_own _ rfl _ _ 40 rfl w.heap.size 28 i0 (.agg #[.slice none 0 0]) 1 24 Try.underlying40 hi hz0 hz1 hz2 rfl (by decide) _ l.length _ rfl (HBS.out.1.alloc _) _ 1 1 [.slice ua x.length uc] rfl rfl (news_one _ _ _) (by simp [Value.oneCell']) (by unfold maxLen; omega) (by omega) (Nat.le_trans HBS.out.2.2.1.size (by simp)) ?_)
        intro v7 w7 hown hgrow _
        have hal : Below w4.heap.size w4 (w4.alloc (.cells #[.slice ua x.length uc] 28)) := (Below.refl _ _).alloc (Nat.le_refl _) _
        have HBS7 := Lib.hid (bss_app (bss_below HBS.out hBl hal) hBl (own_later HXO.out hal) hown hgrow)
        have HOK7 : Hid (∀ y ∈ l ++ [x], okP y) := Lib.hid (fun y hy => by
          rcases List.mem_append.1 hy with h | h
          · exact HOK.out y h
          · rw [List.mem_singleton.1 h]; exact HXX.out)
        clear hown hgrow hal HBS
        have hn1 : ((n : Int) - 1) = ((n - 1 : Nat) : Int) := by omega
        go_wp2_with fail
        go_roundw
        case rel => exact ⟨n - 1, _, _, l ++ [x], by go_num, rfl, by simp; omega, Lib.hid (bss_mono HBS7.out (by simp; omega)), HOK7⟩
        case measure => simp [intOf]; omega
      | true =>
        obtain ⟨g, qc', hv, hg1, hg2⟩ := HBS.out.1.form (by omega)
        simp only [Value.slice.injEq] at hv
        obtain ⟨rfl, -, -⟩ := hv
        obtain ⟨x0, hx0⟩ : ∃ x0, l[0]? = some x0 := ⟨l[0], List.getElem?_eq_getElem hl0⟩
        have hvl := bss_len HBS.out
        obtain ⟨u0, hu0⟩ : ∃ u0, vs[0]? = some u0 := ⟨vs[0]'(by omega), List.getElem?_eq_getElem (by omega)⟩
        have hown0 := HBS.out.2.1 0 u0 x0 hu0 hx0
        obtain ⟨u0a, u0c, rfl⟩ := form_of_own hown0
        have c1 : w4.cell? ⟨g, 0, none⟩ = some (.slice u0a x0.length u0c) := by rw [HBS.out.1.cellAt 0 (by omega)]; exact hu0
        have c0 : w4.cell? ⟨bb, 0, none⟩ = some (.slice ua x.length uc) := by simp [World.cell?, hbb]
        have f0 : w4.frozen? ⟨bb, 0, none⟩ = false := by simp [World.frozen?, hbb]
        have HX0 : Hid (okP x0) := Lib.hid (HOK.out x0 (List.mem_of_getElem? hx0))
        have wset : Below bb w4 (w4.setCell ⟨bb, 0, none⟩ (.slice u0a x0.length u0c)) := (Below.refl bb w4).setCell (p := ⟨bb, 0, none⟩) (Nat.le_refl _) _
        have hbz := (Array.getElem?_eq_some_iff.1 hbb).1
        have c2 : (w4.setCell ⟨bb, 0, none⟩ (.slice u0a x0.length u0c)).cell? ⟨bb, 0, none⟩ = some (.slice u0a x0.length u0c) := World.cell?_setCell_same _ _ _ c0
        have HBS5 : Hid (BSs w B (KQ + 6 + 44 * l.length + 40 + 2) (.slice (some ⟨g, 0, none⟩) l.length qc) vs l (w4.setCell ⟨bb, 0, none⟩ (.slice u0a x0.length u0c))) := Lib.hid (bss_set HBS.out hBl HLT.out hbw2)
        replace HBS := HBS5
        have HXO0 : Hid ((w4.setCell ⟨bb, 0, none⟩ (.slice u0a x0.length u0c)).ownsRow w.heap.size 64 2 (.slice u0a x0.length u0c) x0.length (sds x0)) := Lib.hid (HBS.out.2.1 0 _ x0 hu0 hx0)
        clear hown0 hu0 hx0 wset HBS5 hvl HXO HXX
        have HNW : Hid (∀ j u, [Value.slice u0a x0.length u0c][j]? = some u → ((w4.setCell ⟨bb, 0, none⟩ (.slice u0a x0.length u0c)).alloc (.cells #[.slice u0a x0.length u0c] 28)).cell? ((⟨w4.heap.size, 0, none⟩ : Addr).add j) = some u) := Lib.hid (by have := news_one (w4.setCell ⟨bb, 0, none⟩ (.slice u0a x0.length u0c)) (.slice u0a x0.length u0c) 28; simpa using this)
        go_wp2_with (at_builtin; refine wpList_append_own _ rfl _ _ 40 rfl w.heap.size 28 i0 (.agg #[.slice none 0 0]) 1 24 Try.underlying40 hi hz0 hz1 hz2 rfl (by decide) _ l.length _ rfl (HBS.out.1.alloc _) ⟨w4.heap.size, 0, none⟩ 1 1 [.slice u0a x0.length u0c] rfl rfl (HNW.out) (by simp [Value.oneCell']) (by unfold maxLen; omega) (by omega) (Nat.le_trans HBS.out.2.2.1.size (by simp)) ?_)
        intro v7 w7 hown hgrow _
        have hal : Below (w4.setCell ⟨bb, 0, none⟩ (.slice u0a x0.length u0c)).heap.size (w4.setCell ⟨bb, 0, none⟩ (.slice u0a x0.length u0c)) ((w4.setCell ⟨bb, 0, none⟩ (.slice u0a x0.length u0c)).alloc (.cells #[.slice u0a x0.length u0c] 28)) := (Below.refl _ _).alloc (Nat.le_refl _) _
        have HBS7 := Lib.hid (bss_app (bss_below HBS.out hBl hal) hBl (own_later HXO0.out hal) hown hgrow)
        have HOK7 : Hid (∀ y ∈ l ++ [x0], okP y) := Lib.hid (fun y hy => by
          rcases List.mem_append.1 hy with h | h
          · exact HOK.out y h
          · rw [List.mem_singleton.1 h]; exact HX0.out)
        clear hown hgrow hal HBS
        have hn1 : ((n : Int) - 1) = ((n - 1 : Nat) : Int) := by omega
        go_wp2_with fail
        go_roundw
        case rel => exact ⟨n - 1, _, _, l ++ [x0], by go_num, rfl, by simp; omega, Lib.hid (bss_mono HBS7.out (by simp; omega)), HOK7⟩
        case measure => simp [intOf]; omega
  | true =>
    go_wp2_with fail
    refine (cur_pick B _ 2 _ HPC2.out (by omega) (by omega)).mono ?_
    rintro e w3 ⟨r3, rfl, hr3, hp, hw⟩
    have HBS0 : Hid (BSs w B (KQ + 6 + 44 * ([] : List Bx).length) (.slice none 0 0) [] [] w3) := Lib.hid ⟨World.ownsRow_nil _ _ _ _, fun i u x hu _ => by simp at hu, ws_cur (HW2.out.trans hw), hp.mono (by simp)⟩
    have hr4 : r3 ≤ 1 := by omega
    clear hp hw
    go_wp2_with fail
    go_loopw [3, 4] (fun lv nv wr => ∃ (n : Nat) (v : Value) (vs : List Value) (l : List Bx), nv = .int .i64 (n : Int) ∧ lv = v ∧ n + l.length ≤ 21 ∧ Hid (BSs w B (KQ + 6 + 44 * l.length) v vs l wr) ∧ Hid (∀ x ∈ l, okP x)) (fun _ nv _ => (intOf nv).toNat)
    case atStart => exact ⟨(20 + r3), _, [], [], by go_num, rfl, by simp; try omega, HBS0, Lib.hid (by simp)⟩
    case round =>
      clear HBS0
      obtain ⟨w1, rfl⟩ : ∃ z : World, z = wr := ⟨_, rfl⟩
      obtain ⟨n, v, vs, l, rfl, rfl, hnl, HBS, HOK⟩ := hrel
      obtain ⟨qa, qc, hv⟩ := form_of_own HBS.out.1
      subst hv
      by_cases hn0 : 0 < n
      case neg =>
        go_wp2_with fail
        go_ret
        exact ⟨_, _, l, rfl, bss_mono HBS.out (by omega), by omega, HOK.out⟩
      go_wp2_with fail
      refine (cur_box B _ w1 HBS.out.2.2.2 (by omega)).mono ?_
      rintro e w2 ⟨u, x, rfl, hox, hx3, hxb, hp, hw⟩
      have hsz1 := HBS.out.2.2.1.size
      have hal : Below w2.heap.size w2 (w2.alloc (.cells #[u] 28)) := (Below.refl _ _).alloc (Nat.le_refl _) _
      have hbb : (w2.alloc (.cells #[u] 28)).heap[w2.heap.size]? = some (.cells #[u] 28) := heap_alloc_new w2 _
      have HXO := Lib.hid (own_later (own_mono hox hsz1) hal); have HXX : Hid (okP x) := Lib.hid ⟨hx3, hxb⟩
      have hub : ∀ k, u.ownBlock = some k → k < w2.heap.size ∧ k ≠ B := fun k hk => by have := hox.lt k hk; omega
      have hbw := bss_wrote HBS.out hBl hw (Nat.le_refl _) hp
      have HLT := Lib.hid (bss_lt hbw)
      replace HBS := Lib.hid (bss_below hbw hBl hal)
      have hB2 : B < w2.heap.size := by have := hw.size; omega
      have hw2z := hw.size
      have hbw2 : w.heap.size ≤ w2.heap.size := Nat.le_trans hsz1 hw.size
      clear hox hx3 hxb hp hw hal hbw
      obtain ⟨ua, uc, hu⟩ := form_of_own HXO.out
      subst hu
      by_cases hl0 : 0 < l.length
      case neg =>
        have hl0' : decide (0 < l.length) = false := decide_eq_false hl0
        clear hbb
        have HNW : Hid (∀ j u, [Value.slice ua x.length uc][j]? = some u → ((w2.alloc (.cells #[.slice ua x.length uc] 28)).alloc (.cells #[.slice ua x.length uc] 28)).cell? ((⟨w2.heap.size + 1, 0, none⟩ : Addr).add j) = some u) := Lib.hid (by have := news_one (w2.alloc (.cells #[.slice ua x.length uc] 28)) (.slice ua x.length uc) 28; simpa using this)
        go_wp2_with (at_builtin; refine wpList_append_own _ rfl _ _ 40 rfl w.heap.size 28 i0 (.agg #[.slice none 0 0]) 1 24 Try.underlying40 hi hz0 hz1 hz2 rfl (by decide) _ l.length _ rfl (HBS.out.1.alloc _) ⟨w2.heap.size + 1, 0, none⟩ 1 1 [.slice ua x.length uc] rfl rfl (HNW.out) (by simp [Value.oneCell']) (by unfold maxLen; omega) (by omega) (Nat.le_trans HBS.out.2.2.1.size (by simp)) ?_)
        intro v7 w7 hown hgrow _
        have hal : Below (w2.alloc (.cells #[.slice ua x.length uc] 28)).heap.size (w2.alloc (.cells #[.slice ua x.length uc] 28)) ((w2.alloc (.cells #[.slice ua x.length uc] 28)).alloc (.cells #[.slice ua x.length uc] 28)) := (Below.refl _ _).alloc (Nat.le_refl _) _
        have HBS7 := Lib.hid (bss_app (bss_below HBS.out hBl hal) hBl (own_later HXO.out hal) hown hgrow)
        have HOK7 : Hid (∀ y ∈ l ++ [x], okP y) := Lib.hid (fun y hy => by
          rcases List.mem_append.1 hy with h | h
          · exact HOK.out y h
          · rw [List.mem_singleton.1 h]; exact HXX.out)
        clear hown hgrow hal HBS
        have hn1 : ((n : Int) - 1) = ((n - 1 : Nat) : Int) := by omega
        go_wp2_with fail
        go_roundw
        case rel => exact ⟨n - 1, _, _, l ++ [x], by go_num, rfl, by simp; omega, Lib.hid (bss_mono HBS7.out (by simp; omega)), HOK7⟩
        case measure => simp [intOf]; omega
      have hl0' : decide (0 < l.length) = true := decide_eq_true hl0
      go_wp2_with fail
      generalize w2.alloc (.cells #[.slice ua x.length uc] 28) = w3 at *
      generalize w2.heap.size = bb at *
      refine (cur_one B _ 8 w3 HBS.out.2.2.2 (by omega) (by omega)).mono ?_
      rintro e w4 ⟨b4, rfl, hp, hw⟩
      replace HBS := Lib.hid (bss_cur HBS.out hBl hw hp)
      replace HXO := Lib.hid (hw.own HXO.out (fun k hk => (hub k hk).2))
      replace hbb := (hw.block bb (Array.getElem?_eq_some_iff.1 hbb).1 (by omega)).trans hbb
      clear hp hw
      cases b4 with
      | false =>
        have c0 : w4.cell? ⟨bb, 0, none⟩ = some (.slice ua x.length uc) := by simp [World.cell?, hbb]
        go_wp2_with (at_builtin; refine wpList_append_own _ rfl _ _ 40 rfl w.heap.size 28 i0 (.agg #[.slice none 0 0]) 1 24 Try.underlying40 hi hz0 hz1 hz2 rfl (by decide) _ l.length _ rfl (HBS.out.1.alloc _) _ 1 1 [.slice ua x.length uc] rfl rfl (news_one _ _ _) (by simp [Value.oneCell']) (by unfold maxLen; omega) (by omega) (Nat.le_trans HBS.out.2.2.1.size (by simp)) ?_)
        intro v7 w7 hown hgrow _
        have hal : Below w4.heap.size w4 (w4.alloc (.cells #[.slice ua x.length uc] 28)) := (Below.refl _ _).alloc (Nat.le_refl _) _
        have HBS7 := Lib.hid (bss_app (bss_below HBS.out hBl hal) hBl (own_later HXO.out hal) hown hgrow)
        have HOK7 : Hid (∀ y ∈ l ++ [x], okP y) := Lib.hid (fun y hy => by
          rcases List.mem_append.1 hy with h | h
          · exact HOK.out y h
          · rw [List.mem_singleton.1 h]; exact HXX.out)
        clear hown hgrow hal HBS
        have hn1 : ((n : Int) - 1) = ((n - 1 : Nat) : Int) := by omega
        go_wp2_with fail
        go_roundw
        case rel => exact ⟨n - 1, _, _, l ++ [x], by go_num, rfl, by simp; omega, Lib.hid (bss_mono HBS7.out (by simp; omega)), HOK7⟩
        case measure => simp [intOf]; omega
      | true =>
        obtain ⟨g, qc', hv, hg1, hg2⟩ := HBS.out.1.form (by omega)
        simp only [Value.slice.injEq] at hv
        obtain ⟨rfl, -, -⟩ := hv
        obtain ⟨x0, hx0⟩ : ∃ x0, l[0]? = some x0 := ⟨l[0], List.getElem?_eq_getElem hl0⟩
        have hvl := bss_len HBS.out
        obtain ⟨u0, hu0⟩ : ∃ u0, vs[0]? = some u0 := ⟨vs[0]'(by omega), List.getElem?_eq_getElem (by omega)⟩
        have hown0 := HBS.out.2.1 0 u0 x0 hu0 hx0
        obtain ⟨u0a, u0c, rfl⟩ := form_of_own hown0
        have c1 : w4.cell? ⟨g, 0, none⟩ = some (.slice u0a x0.length u0c) := by rw [HBS.out.1.cellAt 0 (by omega)]; exact hu0
        have c0 : w4.cell? ⟨bb, 0, none⟩ = some (.slice ua x.length uc) := by simp [World.cell?, hbb]
        have f0 : w4.frozen? ⟨bb, 0, none⟩ = false := by simp [World.frozen?, hbb]
        have HX0 : Hid (okP x0) := Lib.hid (HOK.out x0 (List.mem_of_getElem? hx0))
        have wset : Below bb w4 (w4.setCell ⟨bb, 0, none⟩ (.slice u0a x0.length u0c)) := (Below.refl bb w4).setCell (p := ⟨bb, 0, none⟩) (Nat.le_refl _) _
        have hbz := (Array.getElem?_eq_some_iff.1 hbb).1
        have c2 : (w4.setCell ⟨bb, 0, none⟩ (.slice u0a x0.length u0c)).cell? ⟨bb, 0, none⟩ = some (.slice u0a x0.length u0c) := World.cell?_setCell_same _ _ _ c0
        have HBS5 : Hid (BSs w B (KQ + 6 + 44 * l.length + 40 + 2) (.slice (some ⟨g, 0, none⟩) l.length qc) vs l (w4.setCell ⟨bb, 0, none⟩ (.slice u0a x0.length u0c))) := Lib.hid (bss_set HBS.out hBl HLT.out hbw2)
        replace HBS := HBS5
        have HXO0 : Hid ((w4.setCell ⟨bb, 0, none⟩ (.slice u0a x0.length u0c)).ownsRow w.heap.size 64 2 (.slice u0a x0.length u0c) x0.length (sds x0)) := Lib.hid (HBS.out.2.1 0 _ x0 hu0 hx0)
        clear hown0 hu0 hx0 wset HBS5 hvl HXO HXX
        have HNW : Hid (∀ j u, [Value.slice u0a x0.length u0c][j]? = some u → ((w4.setCell ⟨bb, 0, none⟩ (.slice u0a x0.length u0c)).alloc (.cells #[.slice u0a x0.length u0c] 28)).cell? ((⟨w4.heap.size, 0, none⟩ : Addr).add j) = some u) := Lib.hid (by have := news_one (w4.setCell ⟨bb, 0, none⟩ (.slice u0a x0.length u0c)) (.slice u0a x0.length u0c) 28; simpa using this)
        go_wp2_with (at_builtin; refine wpList_append_own _ rfl _ _ 40 rfl w.heap.size 28 i0 (.agg #[.slice none 0 0]) 1 24 Try.underlying40 hi hz0 hz1 hz2 rfl (by decide) _ l.length _ rfl (HBS.out.1.alloc _) ⟨w4.heap.size, 0, none⟩ 1 1 [.slice u0a x0.length u0c] rfl rfl (HNW.out) (by simp [Value.oneCell']) (by unfold maxLen; omega) (by omega) (Nat.le_trans HBS.out.2.2.1.size (by simp)) ?_)
        intro v7 w7 hown hgrow _
        have hal : Below (w4.setCell ⟨bb, 0, none⟩ (.slice u0a x0.length u0c)).heap.size (w4.setCell ⟨bb, 0, none⟩ (.slice u0a x0.length u0c)) ((w4.setCell ⟨bb, 0, none⟩ (.slice u0a x0.length u0c)).alloc (.cells #[.slice u0a x0.length u0c] 28)) := (Below.refl _ _).alloc (Nat.le_refl _) _
        have HBS7 := Lib.hid (bss_app (bss_below HBS.out hBl hal) hBl (own_later HXO0.out hal) hown hgrow)
        have HOK7 : Hid (∀ y ∈ l ++ [x0], okP y) := Lib.hid (fun y hy => by
          rcases List.mem_append.1 hy with h | h
          · exact HOK.out y h
          · rw [List.mem_singleton.1 h]; exact HX0.out)
        clear hown hgrow hal HBS
        have hn1 : ((n : Int) - 1) = ((n - 1 : Nat) : Int) := by omega
        go_wp2_with fail
        go_roundw
        case rel => exact ⟨n - 1, _, _, l ++ [x0], by go_num, rfl, by simp; omega, Lib.hid (bss_mono HBS7.out (by simp; omega)), HOK7⟩
        case measure => simp [intOf]; omega
end Go.Proofs.Ythlajmncpejhmaa
