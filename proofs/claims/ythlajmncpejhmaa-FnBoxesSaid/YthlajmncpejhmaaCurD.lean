/- The contracts of the law's draws: two boxes, a row of boxes, a point; and of its small word sameBox. -/
import Derived.Test.YthlajmncpejhmaaCurC
import Derived.Test.YthlajmncpejhmaaBoxLaw
namespace Go.Proofs.Ythlajmncpejhmaa
set_option linter.unusedVariables false
open Go.ChangeShapes Go.WideShapes Go.ChangeAt Go.RowKit
set_option maxRecDepth 100000

theorem boxes_wt {l : List Bx} (hn : l.length ≤ 21) (h : ∀ x ∈ l, x.length = 3) : kBoxS.wt l ≤ 100 := by
  have key : ∀ l : List Bx, (∀ x ∈ l, x.length = 3) → sumL kBox.wt l = 3 * l.length := by
    intro l
    induction l with
    | nil => intro _; rfl
    | cons x r ih =>
      intro h
      have h2 : kBox.wt x = 3 := by
        have h3 : ∀ y : Bx, sumL kSide.wt y = 0 := by
          intro y
          induction y with
          | nil => rfl
          | cons p q ihq => rw [sumL, ihq]; rfl
        show x.length + sumL kSide.wt x = 3
        rw [h3, h x (by simp)]
      rw [sumL, ih (fun y hy => h y (by simp [hy])), h2, List.length_cons]; omega
  show l.length + sumL kBox.wt l ≤ 100
  rw [key l h]; omega
set_option maxHeartbeats 400000 in
theorem draw_leastCover (w : World) (a : Option Addr) (c : Nat) (cs : List UInt8) (hl : cs.length ≤ c) (hc : c ≤ 9223372036854775807) (hr : Rb w.heap.size w a (u8s cs)) :
    Calls Try.prog 40 #[.slice a cs.length c] w fun e w' => ∃ (q : Option Addr) (qc : Nat) (l : List Bx), e = .returned (.slice q l.length qc) ∧ kBoxS.rd w'.heap.size w' [.slice q l.length qc] l ∧ l.length ≤ 21 ∧ (∀ x ∈ l, x.length = 3) ∧ Below w.heap.size w w' := by
  have hb0 : Below w.heap.size w (w.alloc (.cells #[.slice a cs.length c, .int .i64 0, .int .u64 0] 77)) := (Below.refl _ _).alloc (Nat.le_refl _) _
  have hp0 := pc_start w a c cs hl hc hr
  have HZ0 : Hid ((w.alloc (.cells #[.slice a cs.length c, .int .i64 0, .int .u64 0] 77)).heap.size = w.heap.size + 1) := Lib.hid (by simp)
  go_enter Try.func40, Try.ntmps40
  go_wp2_with fail
  generalize w.alloc (.cells #[.slice a cs.length c, .int .i64 0, .int .u64 0] 77) = w0 at *
  have HB0 := Lib.hid hb0; have HP0 := Lib.hid hp0
  clear hb0 hp0 hr
  refine (cur_boxes w.heap.size 0 w0 HP0.out (by omega)).mono ?_
  rintro e w1 ⟨v, vs, l, rfl, hb, hl, hk⟩
  obtain ⟨q, qc, rfl⟩ := form_of_own hb.1
  have HB1 := Lib.hid (HB0.out.trans (ws_all (ws_wide hb.2.2.1 (Nat.le_refl _) HB0.out.size) HB0.out.size))
  have HR1 := Lib.hid (bss_rd hb hk)
  have HK := Lib.hid hk
  clear hb hk
  go_wp2_with fail
  go_ret
  exact ⟨q, qc, l, rfl, HR1.out, hl, fun x hx => (HK.out x hx).1, HB1.out⟩
/-- the draw of two boxes under way: the cells of the results, the cursor -/
def DB (w : World) (K : Nat) (wx : World) : Prop :=
  Below w.heap.size w wx ∧ PC wx (w.heap.size + 2) K ∧ wx.heap[w.heap.size]? = some (.cells #[.slice none 0 0] 28) ∧ wx.heap[w.heap.size + 1]? = some (.cells #[.slice none 0 0] 28) ∧ w.heap.size + 3 ≤ wx.heap.size
theorem db_wrote {w : World} {K K' m : Nat} {wx wy : World} (h : DB w K wx) (hw : Wrote (WS (w.heap.size + 2) m) wx wy) (hm : w.heap.size + 3 ≤ m) (hp : PC wy (w.heap.size + 2) K') : DB w K' wy := by
  obtain ⟨h1, h2, h3, h4, h5⟩ := h
  exact ⟨h1.trans (ws_all (ws_wide hw (by omega) (by omega)) h1.size), hp, (hw.block _ (by omega) (by rintro (h | h) <;> omega)).trans h3, (hw.block _ (by omega) (by rintro (h | h) <;> omega)).trans h4, Nat.le_trans h5 hw.size⟩
theorem db_below {w : World} {K : Nat} {wx wy : World} (h : DB w K wx) (hb : Below wx.heap.size wx wy) : DB w K wy := by
  obtain ⟨h1, h2, h3, h4, h5⟩ := h
  exact ⟨h1.trans (hb.mono h1.size), h2.later hb, (hb.block _ (by omega)).trans h3, (hb.block _ (by omega)).trans h4, Nat.le_trans h5 hb.size⟩
theorem db_set {w : World} {K bb : Nat} {z : Value} {wx : World} (h : DB w K wx) (hb : w.heap.size + 3 ≤ bb) : DB w K (wx.setCell ⟨bb, 0, none⟩ z) := by
  have hw : Wrote (fun k => k = bb) wx (wx.setCell ⟨bb, 0, none⟩ z) := wrote_cell _ _ _ _
  refine db_wrote h (m := w.heap.size + 3) (hw.mono fun k _ hk => .inr (by omega)) (Nat.le_refl _) ?_
  exact pc_grown (n := w.heap.size + 3) h.2.1 (by omega) (row := some bb) ⟨hw.os, hw.tape, hw.output, hw.size, fun k hk hs => hw.block k hk (fun e => hs (by rw [e]))⟩ (fun k hk => by simp only [Option.some.injEq] at hk; omega)
/-- own sides stay through what the cursor does -/
theorem own_ws {w : World} {m n : Nat} {wx wy : World} {v : Value} {x : Bx} (ho : wx.ownsRow (w.heap.size + 3) 64 2 v n (sds x)) (hw : Wrote (WS (w.heap.size + 2) m) wx wy) (hm : wx.heap.size ≤ m) : wy.ownsRow (w.heap.size + 3) 64 2 v n (sds x) :=
  hw.own ho (fun k hk => by have := ho.lt k hk; rintro (h | h) <;> omega)
theorem heap_ws {w : World} {m bb : Nat} {o : Obj} {wx wy : World} (h : wx.heap[bb]? = some o) (hb : w.heap.size + 3 ≤ bb) (hw : Wrote (WS (w.heap.size + 2) m) wx wy) (hm : wx.heap.size ≤ m) : wy.heap[bb]? = some o :=
  (hw.block bb (Array.getElem?_eq_some_iff.1 h).1 (by have := (Array.getElem?_eq_some_iff.1 h).1; rintro (h | h) <;> omega)).trans h
def TwoBoxes (w : World) (e : Ending) (w' : World) : Prop :=
  ∃ (qa qb : Option Addr) (ca cb : Nat) (a b : Bx), e = .returned (.tuple #[.agg #[.slice qa a.length ca], .agg #[.slice qb b.length cb]]) ∧ kBox.rd w'.heap.size w' [.slice qa a.length ca] a ∧ kBox.rd w'.heap.size w' [.slice qb b.length cb] b ∧ a.length = 3 ∧ b.length = 3 ∧ Below w.heap.size w w'
theorem own_box_rd {w : World} {base cap : Nat} {q : Option Addr} {a : Bx} (ho : w.ownsRow base 64 2 (.slice q a.length cap) a.length (sds a)) (hw : ∀ p ∈ a, (Lit.int .i64 p.1).wf = true ∧ (Lit.int .i64 p.2).wf = true) : kBox.rd w.heap.size w [.slice q a.length cap] a :=
  kBox_ok.ord (box_ow (e := 0) ho hw) (kBox_ok.olt (box_ow (e := 0) ho hw))
theorem own_box_rd' {w : World} {base cap : Nat} {q : Option Addr} {a : Bx} (h3 : a.length = 3) (ho : w.ownsRow base 64 2 (.slice q 3 cap) 3 (sds a)) (hw : ∀ p ∈ a, (Lit.int .i64 p.1).wf = true ∧ (Lit.int .i64 p.2).wf = true) : kBox.rd w.heap.size w [.slice q a.length cap] a :=
  own_box_rd (base := base) (by rw [h3]; exact ho) hw
theorem ok_wf {x : Bx} (h : okP x) : ∀ p ∈ x, (Lit.int .i64 p.1).wf = true ∧ (Lit.int .i64 p.2).wf = true := fun p hp => ⟨WalkArith.wf_i64 (by have := h.2 p hp; omega), WalkArith.wf_i64 (by have := h.2 p hp; omega)⟩
theorem db_end {w : World} {K : Nat} {wx : World} (h : DB w K wx) (VA VB : Value) :
    ((wx.setCell ⟨w.heap.size, 0, none⟩ VA).setCell ⟨w.heap.size + 1, 0, none⟩ VB).cell? ⟨w.heap.size, 0, none⟩ = some VA ∧
    ((wx.setCell ⟨w.heap.size, 0, none⟩ VA).setCell ⟨w.heap.size + 1, 0, none⟩ VB).cell? ⟨w.heap.size + 1, 0, none⟩ = some VB ∧
    Below w.heap.size w ((wx.setCell ⟨w.heap.size, 0, none⟩ VA).setCell ⟨w.heap.size + 1, 0, none⟩ VB) ∧
    (∀ {v : Value} {n : Nat} {xs : List Value}, wx.ownsRow (w.heap.size + 3) 64 2 v n xs → ((wx.setCell ⟨w.heap.size, 0, none⟩ VA).setCell ⟨w.heap.size + 1, 0, none⟩ VB).ownsRow (w.heap.size + 3) 64 2 v n xs) := by
  obtain ⟨h1, h2, h3, h4, h5⟩ := h
  have w1 : Wrote (fun k => k = w.heap.size) wx (wx.setCell ⟨w.heap.size, 0, none⟩ VA) := wrote_cell _ _ _ _
  have w2 : Wrote (fun k => k = w.heap.size + 1) (wx.setCell ⟨w.heap.size, 0, none⟩ VA) ((wx.setCell ⟨w.heap.size, 0, none⟩ VA).setCell ⟨w.heap.size + 1, 0, none⟩ VB) := wrote_cell _ _ _ _
  have c0 : wx.cell? ⟨w.heap.size, 0, none⟩ = some (.slice none 0 0) := by simp [World.cell?, h3]
  have c1 : wx.cell? ⟨w.heap.size + 1, 0, none⟩ = some (.slice none 0 0) := by simp [World.cell?, h4]
  refine ⟨w2.cell (World.cell?_setCell_same _ _ _ c0) (by omega), World.cell?_setCell_same _ _ _ (w1.cell c1 (by omega)), (h1.setCell (p := ⟨w.heap.size, 0, none⟩) (Nat.le_refl _) _).setCell (p := ⟨w.heap.size + 1, 0, none⟩) (by show w.heap.size ≤ w.heap.size + 1; omega) _, fun ho => ?_⟩
  exact w2.own (w1.own ho (fun k hk => by have := (ho.lt k hk).1; omega)) (fun k hk => by have := (ho.lt k hk).1; omega)
set_option maxHeartbeats 2000000 in
theorem draw_boxCovers (w : World) (a : Option Addr) (c : Nat) (cs : List UInt8) (hl : cs.length ≤ c) (hc : c ≤ 9223372036854775807) (hr : Rb w.heap.size w a (u8s cs)) :
    Calls Try.prog 32 #[.slice a cs.length c] w (TwoBoxes w) := by
  have hdb : DB w 0 (((w.alloc (.cells #[.slice none 0 0] 28)).alloc (.cells #[.slice none 0 0] 28)).alloc (.cells #[.slice a cs.length c, .int .i64 0, .int .u64 0] 77)) := by
    have hb2 : Below w.heap.size w ((w.alloc (.cells #[.slice none 0 0] 28)).alloc (.cells #[.slice none 0 0] 28)) := ((Below.refl _ _).alloc (Nat.le_refl _) _).alloc (by simp) _
    have hp := pc_start ((w.alloc (.cells #[.slice none 0 0] 28)).alloc (.cells #[.slice none 0 0] 28)) a c cs hl hc ((hr.below hb2).mono (by simp; omega))
    have hz : ((w.alloc (.cells #[.slice none 0 0] 28)).alloc (.cells #[.slice none 0 0] 28)).heap.size = w.heap.size + 2 := by simp
    rw [hz] at hp
    refine ⟨hb2.alloc (by simp; omega) _, hp, ?_, ?_, by simp⟩
    · have k1 := ((Below.refl (w.heap.size + 1) (w.alloc (.cells #[.slice none 0 0] 28))).alloc (by simp) (.cells #[.slice none 0 0] 28)).block w.heap.size (by omega)
      have k2 := ((Below.refl (w.heap.size + 2) ((w.alloc (.cells #[.slice none 0 0] 28)).alloc (.cells #[.slice none 0 0] 28))).alloc (by simp) (.cells #[.slice a cs.length c, .int .i64 0, .int .u64 0] 77)).block w.heap.size (by omega)
      rw [k2, k1]; exact heap_alloc_new w _
    · have k2 := ((Below.refl (w.heap.size + 2) ((w.alloc (.cells #[.slice none 0 0] 28)).alloc (.cells #[.slice none 0 0] 28))).alloc (by simp) (.cells #[.slice a cs.length c, .int .i64 0, .int .u64 0] 77)).block (w.heap.size + 1) (by omega)
      rw [k2]
      have := heap_alloc_new (w.alloc (.cells #[.slice none 0 0] 28)) (.cells #[.slice none 0 0] 28)
      simpa using this
  unfold TwoBoxes
  go_enter Try.func32, Try.ntmps32
  go_wp2_with fail
  generalize ((w.alloc (.cells #[.slice none 0 0] 28)).alloc (.cells #[.slice none 0 0] 28)).alloc (.cells #[.slice a cs.length c, .int .i64 0, .int .u64 0] 77) = w0 at *
  have HDB := Lib.hid hdb
  clear hdb hr
  refine (cur_box (w.heap.size + 2) 0 w0 HDB.out.2.1 (by omega)).mono ?_
  rintro e w1 ⟨u, x, rfl, hox, hx3, hxb, hp, hw⟩
  have HXX : Hid (okP x) := Lib.hid ⟨hx3, hxb⟩
  have hal1 : Below w1.heap.size w1 (w1.alloc (.cells #[u] 28)) := (Below.refl _ _).alloc (Nat.le_refl _) _
  have HOX := Lib.hid (own_later (own_mono hox HDB.out.2.2.2.2) hal1)
  have hz1 : w.heap.size + 3 ≤ w1.heap.size := Nat.le_trans HDB.out.2.2.2.2 hw.size
  replace HDB := Lib.hid (db_below (db_wrote HDB.out hw HDB.out.2.2.2.2 hp) hal1)
  have hka := heap_alloc_new w1 (.cells #[u] 28)
  clear hox hxb hp hw hal1
  obtain ⟨ua, uc, rfl⟩ := form_of_own HOX.out
  have HX3 := Lib.hid hx3
  rw [hx3] at HOX hka HDB ⊢
  clear hx3
  go_wp2_with fail
  generalize w1.alloc (.cells #[.slice ua 3 uc] 28) = w2 at *
  generalize w1.heap.size = ba at *
  refine (cur_box (w.heap.size + 2) _ w2 HDB.out.2.1 (by omega)).mono ?_
  rintro e w3 ⟨t, y, rfl, hoy, hy3, hyb, hp, hw⟩
  have HYY : Hid (okP y) := Lib.hid ⟨hy3, hyb⟩
  have hal3 : Below w3.heap.size w3 (w3.alloc (.cells #[t] 28)) := (Below.refl _ _).alloc (Nat.le_refl _) _
  have HOY := Lib.hid (own_later (own_mono hoy HDB.out.2.2.2.2) hal3)
  replace HOX := Lib.hid (own_later (own_ws HOX.out hw (Nat.le_refl _)) hal3)
  have hab : ba < w3.heap.size := (Array.getElem?_eq_some_iff.1 (heap_ws hka hz1 hw (Nat.le_refl _))).1
  replace hka := heap_old (o := .cells #[t] 28) (heap_ws hka hz1 hw (Nat.le_refl _))
  have hz3 : w.heap.size + 3 ≤ w3.heap.size := Nat.le_trans HDB.out.2.2.2.2 hw.size
  replace HDB := Lib.hid (db_below (db_wrote HDB.out hw HDB.out.2.2.2.2 hp) hal3)
  have hkb := heap_alloc_new w3 (.cells #[t] 28)
  clear hoy hyb hp hw hal3
  obtain ⟨ta, tc, rfl⟩ := form_of_own HOY.out
  have HY3 := Lib.hid hy3
  rw [hy3] at HOY hkb HDB HOX hka ⊢
  clear hy3
  go_wp2_with fail
  generalize w3.alloc (.cells #[.slice ta 3 tc] 28) = w4 at *
  generalize w3.heap.size = bb at *
  refine (cur_one (w.heap.size + 2) _ 3 w4 HDB.out.2.1 (by omega) (by omega)).mono ?_
  rintro e w5 ⟨b5, rfl, hp, hw⟩
  replace HOX := Lib.hid (own_ws HOX.out (ws_cur hw) (Nat.le_refl _))
  replace HOY := Lib.hid (own_ws HOY.out (ws_cur hw) (Nat.le_refl _))
  replace hka := heap_ws hka hz1 (ws_cur hw) (Nat.le_refl _)
  replace hkb := heap_ws hkb hz3 (ws_cur hw) (Nat.le_refl _)
  replace HDB := Lib.hid (db_wrote HDB.out (ws_cur hw) HDB.out.2.2.2.2 hp)
  clear hp hw
  have da : w5.cell? ⟨ba, 0, none⟩ = some (.slice ua 3 uc) := by simp [World.cell?, hka]
  have db : w5.cell? ⟨bb, 0, none⟩ = some (.slice ta 3 tc) := by simp [World.cell?, hkb]
  cases b5 with
  | false =>
    have HEN := Lib.hid (db_end HDB.out (.slice ua 3 uc) (.slice ta 3 tc))
    have HO1 := Lib.hid (own_drewN (HEN.out.2.2.2 HOX.out) 1)
    have HO2 := Lib.hid (own_drewN (HEN.out.2.2.2 HOY.out) 1)
    obtain ⟨-, -, r0, r1, rz⟩ := HDB.out
    have k0 : w5.cell? ⟨w.heap.size, 0, none⟩ = some (.slice none 0 0) := by simp [World.cell?, r0]
    have k1 : w5.cell? ⟨w.heap.size + 1, 0, none⟩ = some (.slice none 0 0) := by simp [World.cell?, r1]
    have f0 : w5.frozen? ⟨w.heap.size, 0, none⟩ = false := by simp [World.frozen?, r0]
    have f1 : w5.frozen? ⟨w.heap.size + 1, 0, none⟩ = false := by simp [World.frozen?, r1]
    clear r0 r1 HDB
    go_wp2_with fail
    refine wp_region_G [3] (fun w' => w'.cell? ⟨ba, 0, none⟩ = some (.slice ua 3 uc) ∧ w'.cell? ⟨bb, 0, none⟩ = some (.slice ta 3 tc)) (by kernel_rfl) ?_ (fun hHeld => ?_)
    · exact ⟨da, db⟩
    refine wpG_load (i := 0) (oi := { dst := some 26, op := Go.Op.load 28 (Go.Operand.tmp 5), type := 28, pos := "l9_cover.go:253", after := #[], guard := none }) (v := ?vg1) [[3, 0]] rfl (by kernel_rfl) (fun _ _ _ h => h) hHeld (Or.inl ⟨by rfl, ?yg1⟩) ?_
    case yg1 => (intro wS hSw; (try dsimp only at hSw); go_simp <;> with_reducible rfl)
    try simp only [Act.put, List.setIfInBounds_toArray, List.set_cons_zero, List.set_cons_succ]
    refine wpG_load (i := 1) (oi := { dst := some 27, op := Go.Op.load 28 (Go.Operand.tmp 6), type := 28, pos := "l9_cover.go:253", after := #[{ on := 2, ground := Go.Ground.gcOnly Go.Departure.lateStores }], guard := none }) (v := ?vg2) [[3, 1]] rfl (by kernel_rfl) (fun _ _ _ h => h) hHeld (Or.inl ⟨by rfl, ?yg2⟩) ?_
    case yg2 => (intro wS hSw; (try dsimp only at hSw); go_simp <;> with_reducible rfl)
    try simp only [Act.put, List.setIfInBounds_toArray, List.set_cons_zero, List.set_cons_succ]
    refine wpG_one (i := 2) (o := { dst := none, op := Go.Op.store 28 (Go.Operand.tmp 2) (Go.Operand.tmp 26), type := 0, pos := "l9_cover.go:253", after := #[{ on := 0, ground := Go.Ground.data }, { on := 0, ground := Go.Ground.phase }, { on := 1, ground := Go.Ground.textOnly Go.Departure.lateStores }], guard := none }) rfl (by kernel_rfl) (fun K hK => ?_)
    go_simp
    refine hK.out _ _ (Or.inr ?khHeld3) (fun hHeld3S => ?_)
    case khHeld3 => exact ⟨(wrote_cell w5.drew w.heap.size 0 _).cell da (by omega), (wrote_cell w5.drew w.heap.size 0 _).cell db (by omega)⟩
    have hHeld3 := hHeld3S.held (by kernel_rfl)
    clear hK K
    try simp only [Act.put, List.setIfInBounds_toArray, List.set_cons_zero, List.set_cons_succ]
    refine wpG_one (i := 3) (o := { dst := none, op := Go.Op.store 28 (Go.Operand.tmp 3) (Go.Operand.tmp 27), type := 0, pos := "l9_cover.go:253", after := #[{ on := 1, ground := Go.Ground.data }, { on := 2, ground := Go.Ground.chain }, { on := 0, ground := Go.Ground.phase }, { on := 1, ground := Go.Ground.phase }, { on := 2, ground := Go.Ground.phase }], guard := none }) rfl (by kernel_rfl) (fun K hK => ?_)
    go_simp
    refine hK.out _ _ (Or.inl (by kernel_rfl)) (fun _ => ?_)
    clear hK K
    try simp only [Act.put, List.setIfInBounds_toArray, List.set_cons_zero, List.set_cons_succ]
    refine wpG_done (by kernel_rfl) ?_
    skip
    go_wp2_with fail
    obtain ⟨hk0, hk1, hbel, -⟩ := HEN.out
    have hj0 : (((w5.setCell ⟨w.heap.size, 0, none⟩ (.slice ua 3 uc)).setCell ⟨w.heap.size + 1, 0, none⟩ (.slice ta 3 tc)).drew).cell? ⟨w.heap.size, 0, none⟩ = some (.slice ua 3 uc) := hk0
    have hj1 : (((w5.setCell ⟨w.heap.size, 0, none⟩ (.slice ua 3 uc)).setCell ⟨w.heap.size + 1, 0, none⟩ (.slice ta 3 tc)).drew).cell? ⟨w.heap.size + 1, 0, none⟩ = some (.slice ta 3 tc) := hk1
    refine bodyPost_ret (v := .tuple #[.agg #[.slice ua 3 uc], .agg #[.slice ta 3 tc]]) (by simp [results, Try.results32, go_sem, hj0, hj1, hk0, hk1]) rfl ⟨ua, ta, uc, tc, x, y, ?_, own_box_rd' HX3.out HO1.out (ok_wf HXX.out), own_box_rd' HY3.out HO2.out (ok_wf HYY.out), HX3.out, HY3.out, rdrew hbel 1⟩
    rw [HX3.out, HY3.out]
  | true =>
    have HH := Lib.hid (spec_hullOf ua ta uc tc x y w5 (own_rw HOX.out) (own_rw HOY.out) (by rw [HX3.out]; omega) (by rw [HY3.out]; omega))
    rw [HX3.out, HY3.out] at HH
    have HRW := Lib.hid (hull_wf x y)
    have HRL : Hid ((HullR x y).2 = true → (HullR x y).1.length = 3) := Lib.hid (by
      by_cases h : GoodR x = true ∧ GoodR y = true
      · intro _; rw [HullR_yes x y h]; simp
      · rw [HullR_no x y h]; intro h; cases h)
    generalize HullR x y = R at *
    obtain ⟨z, ok⟩ := R
    go_wp2_with fail
    refine HH.out.mono ?_
    rintro e w6 ⟨v6, rfl, ho6, hb6⟩
    obtain ⟨za, zc, rfl⟩ := form_of_own ho6
    have hal : Below w5.heap.size w5 (w6.alloc (.cells #[.slice za z.length zc] 28)) := hb6.alloc hb6.size _
    have HOZ := Lib.hid (own_mono (ho6.alloc (.cells #[.slice za z.length zc] 28)) HDB.out.2.2.2.2)
    replace HOX := Lib.hid (own_later HOX.out hal); replace HOY := Lib.hid (own_later HOY.out hal)
    replace da := below_later hal da; replace db := below_later hal db
    have fa : (w6.alloc (.cells #[.slice za z.length zc] 28)).frozen? ⟨ba, 0, none⟩ = false := by
      have hb7 := (Array.getElem?_eq_some_iff.1 hka).1
      rw [hal.frozen (p := ⟨ba, 0, none⟩) hb7]; simp [World.frozen?, hka]
    have hlta : ba < w6.heap.size := Nat.lt_of_lt_of_le (Array.getElem?_eq_some_iff.1 hka).1 hb6.size
    replace HDB := Lib.hid (db_below HDB.out hal)
    have dz : (w6.alloc (.cells #[.slice za z.length zc] 28)).cell? ⟨w6.heap.size, 0, none⟩ = some (.slice za z.length zc) := by rw [World.cell?_alloc_new]; rfl
    have hlt6 : ∀ k, (Value.slice za z.length zc).ownBlock = some k → k ≠ ba := fun k hk e => by have h1 := (ho6.lt k hk).1; have h2 := (Array.getElem?_eq_some_iff.1 hka).1; omega
    have HOXL : Hid (∀ k, (Value.slice ta 3 tc).ownBlock = some k → k ≠ ba) := Lib.hid (fun k hk e => side_type HOY.out ((hal.block ba (Array.getElem?_eq_some_iff.1 hka).1).trans hka) (e ▸ hk))
    clear ho6 hb6 hal hka hkb HH
    cases ok with
    | false =>
      go_wp2_with fail
      generalize w6.alloc (.cells #[.slice za z.length zc] 28) = w7 at *
      have HEN := Lib.hid (db_end HDB.out (.slice ua 3 uc) (.slice ta 3 tc))
      have HO1 := Lib.hid (own_drewN (HEN.out.2.2.2 HOX.out) 1)
      have HO2 := Lib.hid (own_drewN (HEN.out.2.2.2 HOY.out) 1)
      obtain ⟨-, -, r0, r1, rz⟩ := HDB.out
      have k0 : w7.cell? ⟨w.heap.size, 0, none⟩ = some (.slice none 0 0) := by simp [World.cell?, r0]
      have k1 : w7.cell? ⟨w.heap.size + 1, 0, none⟩ = some (.slice none 0 0) := by simp [World.cell?, r1]
      have f0 : w7.frozen? ⟨w.heap.size, 0, none⟩ = false := by simp [World.frozen?, r0]
      have f1 : w7.frozen? ⟨w.heap.size + 1, 0, none⟩ = false := by simp [World.frozen?, r1]
      clear r0 r1 HDB
      go_wp2_with fail
      refine wp_region_G [3] (fun w' => w'.cell? ⟨ba, 0, none⟩ = some (.slice ua 3 uc) ∧ w'.cell? ⟨bb, 0, none⟩ = some (.slice ta 3 tc)) (by kernel_rfl) ?_ (fun hHeld => ?_)
      · exact ⟨da, db⟩
      refine wpG_load (i := 0) (oi := { dst := some 26, op := Go.Op.load 28 (Go.Operand.tmp 5), type := 28, pos := "l9_cover.go:253", after := #[], guard := none }) (v := ?vg5) [[3, 0]] rfl (by kernel_rfl) (fun _ _ _ h => h) hHeld (Or.inl ⟨by rfl, ?yg5⟩) ?_
      case yg5 => (intro wS hSw; (try dsimp only at hSw); go_simp <;> with_reducible rfl)
      try simp only [Act.put, List.setIfInBounds_toArray, List.set_cons_zero, List.set_cons_succ]
      refine wpG_load (i := 1) (oi := { dst := some 27, op := Go.Op.load 28 (Go.Operand.tmp 6), type := 28, pos := "l9_cover.go:253", after := #[{ on := 2, ground := Go.Ground.gcOnly Go.Departure.lateStores }], guard := none }) (v := ?vg6) [[3, 1]] rfl (by kernel_rfl) (fun _ _ _ h => h) hHeld (Or.inl ⟨by rfl, ?yg6⟩) ?_
      case yg6 => (intro wS hSw; (try dsimp only at hSw); go_simp <;> with_reducible rfl)
      try simp only [Act.put, List.setIfInBounds_toArray, List.set_cons_zero, List.set_cons_succ]
      refine wpG_one (i := 2) (o := { dst := none, op := Go.Op.store 28 (Go.Operand.tmp 2) (Go.Operand.tmp 26), type := 0, pos := "l9_cover.go:253", after := #[{ on := 0, ground := Go.Ground.data }, { on := 0, ground := Go.Ground.phase }, { on := 1, ground := Go.Ground.textOnly Go.Departure.lateStores }], guard := none }) rfl (by kernel_rfl) (fun K hK => ?_)
      go_simp
      refine hK.out _ _ (Or.inr ?khHeld7) (fun hHeld7S => ?_)
      case khHeld7 => exact ⟨(wrote_cell w7.drew w.heap.size 0 _).cell da (by omega), (wrote_cell w7.drew w.heap.size 0 _).cell db (by omega)⟩
      have hHeld7 := hHeld7S.held (by kernel_rfl)
      clear hK K
      try simp only [Act.put, List.setIfInBounds_toArray, List.set_cons_zero, List.set_cons_succ]
      refine wpG_one (i := 3) (o := { dst := none, op := Go.Op.store 28 (Go.Operand.tmp 3) (Go.Operand.tmp 27), type := 0, pos := "l9_cover.go:253", after := #[{ on := 1, ground := Go.Ground.data }, { on := 2, ground := Go.Ground.chain }, { on := 0, ground := Go.Ground.phase }, { on := 1, ground := Go.Ground.phase }, { on := 2, ground := Go.Ground.phase }], guard := none }) rfl (by kernel_rfl) (fun K hK => ?_)
      go_simp
      refine hK.out _ _ (Or.inl (by kernel_rfl)) (fun _ => ?_)
      clear hK K
      try simp only [Act.put, List.setIfInBounds_toArray, List.set_cons_zero, List.set_cons_succ]
      refine wpG_done (by kernel_rfl) ?_
      skip
      go_wp2_with fail
      obtain ⟨hk0, hk1, hbel, -⟩ := HEN.out
      have hj0 : (((w7.setCell ⟨w.heap.size, 0, none⟩ (.slice ua 3 uc)).setCell ⟨w.heap.size + 1, 0, none⟩ (.slice ta 3 tc)).drew).cell? ⟨w.heap.size, 0, none⟩ = some (.slice ua 3 uc) := hk0
      have hj1 : (((w7.setCell ⟨w.heap.size, 0, none⟩ (.slice ua 3 uc)).setCell ⟨w.heap.size + 1, 0, none⟩ (.slice ta 3 tc)).drew).cell? ⟨w.heap.size + 1, 0, none⟩ = some (.slice ta 3 tc) := hk1
      refine bodyPost_ret (v := .tuple #[.agg #[.slice ua 3 uc], .agg #[.slice ta 3 tc]]) (by simp [results, Try.results32, go_sem, hj0, hj1, hk0, hk1]) rfl ⟨ua, ta, uc, tc, x, y, ?_, own_box_rd' HX3.out HO1.out (ok_wf HXX.out), own_box_rd' HY3.out HO2.out (ok_wf HYY.out), HX3.out, HY3.out, rdrew hbel 1⟩
      rw [HX3.out, HY3.out]
    | true =>
      have hz3 : z.length = 3 := HRL.out rfl
      have HZ3 := Lib.hid hz3
      rw [hz3] at HOZ dz da db fa HDB HOX HOY hlt6 ⊢
      clear hz3
      go_wp2_with fail
      rw [← World.setCell_alloc_past _ _ _ _ hlta]
      have HDB2 := Lib.hid (db_set (z := .slice za 3 zc) HDB.out hz1)
      have HWS := Lib.hid (wrote_cell (w6.alloc (.cells #[.slice za 3 zc] 28)) ba 0 (.slice za 3 zc))
      have HOZ2 := Lib.hid (HWS.out.own HOZ.out hlt6)
      have HOY2 := Lib.hid (HWS.out.own HOY.out HOXL.out)
      have da2 := World.cell?_setCell_same _ _ (.slice za 3 zc) da
      have db2 := HWS.out.cell db (by omega)
      clear HDB HOZ HOY da db HWS hlt6 HOXL HOX fa dz hlta
      generalize (w6.alloc (.cells #[.slice za 3 zc] 28)).setCell ⟨ba, 0, none⟩ (.slice za 3 zc) = w7 at *
      have da := da2; have db := db2; have HOY := HOY2; have HDB := HDB2; have HOZ := HOZ2
      clear da2 db2 HOY2 HDB2 HOZ2
      have HEN := Lib.hid (db_end HDB.out (.slice za 3 zc) (.slice ta 3 tc))
      have HO1 := Lib.hid (own_drewN (HEN.out.2.2.2 HOZ.out) 1)
      have HO2 := Lib.hid (own_drewN (HEN.out.2.2.2 HOY.out) 1)
      obtain ⟨-, -, r0, r1, rz⟩ := HDB.out
      have k0 : w7.cell? ⟨w.heap.size, 0, none⟩ = some (.slice none 0 0) := by simp [World.cell?, r0]
      have k1 : w7.cell? ⟨w.heap.size + 1, 0, none⟩ = some (.slice none 0 0) := by simp [World.cell?, r1]
      have f0 : w7.frozen? ⟨w.heap.size, 0, none⟩ = false := by simp [World.frozen?, r0]
      have f1 : w7.frozen? ⟨w.heap.size + 1, 0, none⟩ = false := by simp [World.frozen?, r1]
      clear r0 r1 HDB
      go_wp2_with fail
      refine wp_region_G [3] (fun w' => w'.cell? ⟨ba, 0, none⟩ = some (.slice za 3 zc) ∧ w'.cell? ⟨bb, 0, none⟩ = some (.slice ta 3 tc)) (by kernel_rfl) ?_ (fun hHeld => ?_)
      · exact ⟨da, db⟩
      refine wpG_load (i := 0) (oi := { dst := some 26, op := Go.Op.load 28 (Go.Operand.tmp 5), type := 28, pos := "l9_cover.go:253", after := #[], guard := none }) (v := ?vg9) [[3, 0]] rfl (by kernel_rfl) (fun _ _ _ h => h) hHeld (Or.inl ⟨by rfl, ?yg9⟩) ?_
      case yg9 => (intro wS hSw; (try dsimp only at hSw); go_simp <;> with_reducible rfl)
      try simp only [Act.put, List.setIfInBounds_toArray, List.set_cons_zero, List.set_cons_succ]
      refine wpG_load (i := 1) (oi := { dst := some 27, op := Go.Op.load 28 (Go.Operand.tmp 6), type := 28, pos := "l9_cover.go:253", after := #[{ on := 2, ground := Go.Ground.gcOnly Go.Departure.lateStores }], guard := none }) (v := ?vg10) [[3, 1]] rfl (by kernel_rfl) (fun _ _ _ h => h) hHeld (Or.inl ⟨by rfl, ?yg10⟩) ?_
      case yg10 => (intro wS hSw; (try dsimp only at hSw); go_simp <;> with_reducible rfl)
      try simp only [Act.put, List.setIfInBounds_toArray, List.set_cons_zero, List.set_cons_succ]
      refine wpG_one (i := 2) (o := { dst := none, op := Go.Op.store 28 (Go.Operand.tmp 2) (Go.Operand.tmp 26), type := 0, pos := "l9_cover.go:253", after := #[{ on := 0, ground := Go.Ground.data }, { on := 0, ground := Go.Ground.phase }, { on := 1, ground := Go.Ground.textOnly Go.Departure.lateStores }], guard := none }) rfl (by kernel_rfl) (fun K hK => ?_)
      go_simp
      refine hK.out _ _ (Or.inr ?khHeld11) (fun hHeld11S => ?_)
      case khHeld11 => exact ⟨(wrote_cell w7.drew w.heap.size 0 _).cell da (by omega), (wrote_cell w7.drew w.heap.size 0 _).cell db (by omega)⟩
      have hHeld11 := hHeld11S.held (by kernel_rfl)
      clear hK K
      try simp only [Act.put, List.setIfInBounds_toArray, List.set_cons_zero, List.set_cons_succ]
      refine wpG_one (i := 3) (o := { dst := none, op := Go.Op.store 28 (Go.Operand.tmp 3) (Go.Operand.tmp 27), type := 0, pos := "l9_cover.go:253", after := #[{ on := 1, ground := Go.Ground.data }, { on := 2, ground := Go.Ground.chain }, { on := 0, ground := Go.Ground.phase }, { on := 1, ground := Go.Ground.phase }, { on := 2, ground := Go.Ground.phase }], guard := none }) rfl (by kernel_rfl) (fun K hK => ?_)
      go_simp
      refine hK.out _ _ (Or.inl (by kernel_rfl)) (fun _ => ?_)
      clear hK K
      try simp only [Act.put, List.setIfInBounds_toArray, List.set_cons_zero, List.set_cons_succ]
      refine wpG_done (by kernel_rfl) ?_
      skip
      go_wp2_with fail
      obtain ⟨hk0, hk1, hbel, -⟩ := HEN.out
      have hj0 : (((w7.setCell ⟨w.heap.size, 0, none⟩ (.slice za 3 zc)).setCell ⟨w.heap.size + 1, 0, none⟩ (.slice ta 3 tc)).drew).cell? ⟨w.heap.size, 0, none⟩ = some (.slice za 3 zc) := hk0
      have hj1 : (((w7.setCell ⟨w.heap.size, 0, none⟩ (.slice za 3 zc)).setCell ⟨w.heap.size + 1, 0, none⟩ (.slice ta 3 tc)).drew).cell? ⟨w.heap.size + 1, 0, none⟩ = some (.slice ta 3 tc) := hk1
      refine bodyPost_ret (v := .tuple #[.agg #[.slice za 3 zc], .agg #[.slice ta 3 tc]]) (by simp [results, Try.results32, go_sem, hj0, hj1, hk0, hk1]) rfl ⟨za, ta, zc, tc, z, y, ?_, own_box_rd' HZ3.out HO1.out (HRW.out), own_box_rd' HY3.out HO2.out (ok_wf HYY.out), HZ3.out, HY3.out, rdrew hbel 1⟩
      rw [HZ3.out, HY3.out]
end Go.Proofs.Ythlajmncpejhmaa
