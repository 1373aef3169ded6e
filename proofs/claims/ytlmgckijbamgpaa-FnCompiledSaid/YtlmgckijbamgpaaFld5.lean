/- The draws of fields. -/
import Derived.Test.YtlmgckijbamgpaaFld4
namespace Go.Proofs.Ytlmgckijbamgpaa
set_option linter.unusedVariables false
set_option linter.unusedSimpArgs false
open Go.ChangeShapes Go.WideShapes Go.ChangeAt Go.RowKit
set_option maxRecDepth 100000

theorem Try.infoFld : (Try.prog.info? 57).map (fun i => (i.zero, i.size, i.bytes)) = some (some (.agg #[.int .i64 0, .int .i64 0, .int .i64 0, .string ByteArray.empty]), 4, 40) := by kernel_rfl
def DB (f : Fld) : Prop := (0 ≤ f.no ∧ f.no ≤ 31) ∧ (0 ≤ f.kind ∧ f.kind ≤ 3) ∧ (-1000000001 ≤ f.num ∧ f.num ≤ 1000000001) ∧ f.data.size ≤ 9
/-- the row under way -/
structure FSt (w : World) (B K : Nat) (v : Value) (l : List Fld) (wx : World) : Prop where
  own : wx.ownsRow w.heap.size 57 4 v l.length (fdsV l)
  pc : PC wx B K
  wr : Wrote (WS B w.heap.size) w wx
theorem FSt.ws {w : World} {B K K' : Nat} {v : Value} {l : List Fld} {wx wy : World} (h : FSt w B K v l wx) (hB : B < w.heap.size) (hw : Wrote (WS B wx.heap.size) wx wy) (hp : PC wy B K') : FSt w B K' v l wy :=
  ⟨hw.own h.own (fun k hk hs => by have := h.own.lt k hk; rcases hs with e | e <;> omega), hp, h.wr.trans (hw.mono fun k _ hk => by have := h.wr.size; rcases hk with e | e; exact .inl e; exact .inr (by omega))⟩
theorem FSt.alloc {w : World} {B K : Nat} {v : Value} {l : List Fld} {wx : World} (h : FSt w B K v l wx) (hB : B < w.heap.size) (o : Obj) : FSt w B K v l (wx.alloc o) :=
  h.ws hB (ws_below ((Below.refl _ _).alloc (Nat.le_refl _) o) (Nat.le_refl _)) (h.pc.later ((Below.refl _ _).alloc (Nat.le_refl _) o))
theorem FSt.set {w : World} {B K : Nat} {v : Value} {l : List Fld} {wx : World} (h : FSt w B K v l wx) (hB : B < w.heap.size) (X i : Nat) (u : Value) (hX : w.heap.size ≤ X) (hv : ∀ k, v.ownBlock = some k → k < X) : FSt w B K v l (wx.setCell ⟨X, i, none⟩ u) := by
  have w5 : Wrote (fun k => k = X) wx (wx.setCell ⟨X, i, none⟩ u) := wrote_cell _ _ _ _
  refine ⟨w5.own h.own (fun k hk e => by have := hv k hk; omega), ?_, h.wr.trans (w5.mono fun k _ hk => .inr (by omega))⟩
  exact pc_grown (n := w.heap.size) h.pc hB (row := some X) ⟨w5.os, w5.tape, w5.output, w5.size, fun k hk hs => w5.block k hk (fun e => hs (by rw [e]))⟩ (fun k hk => by simp only [Option.some.injEq] at hk; omega)
theorem FSt.grow {w : World} {B K : Nat} {v v' : Value} {l : List Fld} {wx wy : World} (h : FSt w B K v l wx) (hB : B < w.heap.size) (f : Fld) (ho : wy.ownsRow w.heap.size 57 4 v' (l.length + 1) (fdsV l ++ [.int .i64 f.no, .int .i64 f.kind, .int .i64 f.num, .string f.data])) (hg : wx.grownBy wy v.ownBlock) : FSt w B K v' (l ++ [f]) wy :=
  ⟨by rw [fdsV_snoc, List.length_append]; exact ho, pc_grown h.pc hB hg (fun k hk => (h.own.lt k hk).1), h.wr.trans (ws_grown hg (fun k hk => (h.own.lt k hk).1))⟩
theorem FSt.first {w : World} {B K g c n : Nat} {l : List Fld} {wx : World} (h : FSt w B K (.slice (some ⟨g, 0, none⟩) n c) l wx) (hB : B < w.heap.size) (hn : l.length = n) (h0 : 0 < n) (f : Fld) :
    FSt w B K (.slice (some ⟨g, 0, none⟩) n c) (f :: l.tail) ((((wx.setCell ⟨g, 0, none⟩ (.int .i64 f.no)).setCell ⟨g, 1, none⟩ (.int .i64 f.kind)).setCell ⟨g, 2, none⟩ (.int .i64 f.num)).setCell ⟨g, 3, none⟩ (.string f.data)) := by
  match l, hn with
  | [], hn => simp at hn; omega
  | f0 :: tl, hn =>
    subst hn
    have hg := (h.own.lt g rfl).1
    have key : ∀ (wy : World) (us : List Value), wy.ownsRow w.heap.size 57 4 (.slice (some ⟨g, 0, none⟩) (f0 :: tl).length c) (f0 :: tl).length us → PC wy B K → Wrote (WS B w.heap.size) w wy → ∀ r u, (wy.setCell ⟨g, r, none⟩ u).ownsRow w.heap.size 57 4 (.slice (some ⟨g, 0, none⟩) (f0 :: tl).length c) (f0 :: tl).length (us.set r u) ∧ PC (wy.setCell ⟨g, r, none⟩ u) B K ∧ Wrote (WS B w.heap.size) w (wy.setCell ⟨g, r, none⟩ u) := by
      intro wy us ho hp hw r u
      have hs := ho.stored r u
      exact ⟨hs.1, pc_grown hp hB hs.2 (fun k hk => by simp only [Option.some.injEq] at hk; omega), hw.trans (ws_grown hs.2 (fun k hk => by simp only [Option.some.injEq] at hk; omega))⟩
    obtain ⟨a1, a2, a3⟩ := key _ _ h.own h.pc h.wr 0 (.int .i64 f.no)
    obtain ⟨b1, b2, b3⟩ := key _ _ a1 a2 a3 1 (.int .i64 f.kind)
    obtain ⟨c1, c2, c3⟩ := key _ _ b1 b2 b3 2 (.int .i64 f.num)
    obtain ⟨d1, d2, d3⟩ := key _ _ c1 c2 c3 3 (.string f.data)
    exact ⟨d1, d2, d3⟩
theorem FSt.fcells {w : World} {B K g c n : Nat} {l : List Fld} {wx : World} (h : FSt w B K (.slice (some ⟨g, 0, none⟩) n c) l wx) (hn : l.length = n) (h0 : 0 < n) (p q r : Value) :
    (wx.cell? ⟨g, 0, none⟩ = some (.int .i64 (l.getD 0 ⟨0, 0, 0, ByteArray.empty⟩).no) ∧ wx.frozen? ⟨g, 0, none⟩ = false) ∧
    ((wx.setCell ⟨g, 0, none⟩ p).cell? ⟨g, 1, none⟩ = some (.int .i64 (l.getD 0 ⟨0, 0, 0, ByteArray.empty⟩).kind) ∧ (wx.setCell ⟨g, 0, none⟩ p).frozen? ⟨g, 1, none⟩ = false) ∧
    (((wx.setCell ⟨g, 0, none⟩ p).setCell ⟨g, 1, none⟩ q).cell? ⟨g, 2, none⟩ = some (.int .i64 (l.getD 0 ⟨0, 0, 0, ByteArray.empty⟩).num) ∧ ((wx.setCell ⟨g, 0, none⟩ p).setCell ⟨g, 1, none⟩ q).frozen? ⟨g, 2, none⟩ = false) ∧
    ((((wx.setCell ⟨g, 0, none⟩ p).setCell ⟨g, 1, none⟩ q).setCell ⟨g, 2, none⟩ r).cell? ⟨g, 3, none⟩ = some (.string (l.getD 0 ⟨0, 0, 0, ByteArray.empty⟩).data) ∧ (((wx.setCell ⟨g, 0, none⟩ p).setCell ⟨g, 1, none⟩ q).setCell ⟨g, 2, none⟩ r).frozen? ⟨g, 3, none⟩ = false) := by
  match l, hn with
  | [], hn => simp at hn; omega
  | f0 :: tl, hn =>
    subst hn
    have ho := h.own
    have a0 := ho.stored 0 p
    have a1 := a0.1.stored 1 q
    have a2 := a1.1.stored 2 r
    have e0 : (0 : Nat) < ((f0 :: tl).length) * 4 := by simp
    refine ⟨⟨?_, ho.frozenAt 0⟩, ⟨?_, a0.1.frozenAt 1⟩, ⟨?_, a1.1.frozenAt 2⟩, ⟨?_, a2.1.frozenAt 3⟩⟩
    · rw [ho.cellAt 0 (by simp)]; rfl
    · rw [a0.1.cellAt 1 (by simp; omega)]; rfl
    · rw [a1.1.cellAt 2 (by simp; omega)]; rfl
    · rw [a2.1.cellAt 3 (by simp; omega)]; rfl
def FieldsOf (B K : Nat) (w : World) (e : Ending) (w' : World) : Prop :=
  ∃ v l, e = .returned v ∧ l.length ≤ 41 ∧ (∀ f ∈ l, DB f) ∧ FSt w B (K + 700) v l w'
theorem FSt.more {w : World} {B K K' : Nat} {v : Value} {l : List Fld} {wx : World} (h : FSt w B K v l wx) (hk : K ≤ K') : FSt w B K' v l wx := ⟨h.own, h.pc.mono hk, h.wr⟩
theorem db_snoc {l : List Fld} {f : Fld} (h : ∀ g ∈ l, DB g) (hf : DB f) : ∀ g ∈ l ++ [f], DB g := by
  intro g hg
  rcases List.mem_append.1 hg with hg | hg
  · exact h g hg
  · simp at hg; subst hg; exact hf
theorem db_first {l : List Fld} {f : Fld} (h : ∀ g ∈ l, DB g) (hf : DB f) : ∀ g ∈ f :: l.tail, DB g := by
  intro g hg
  rcases List.mem_cons.1 hg with rfl | hg
  · exact hf
  · exact h g (List.mem_of_mem_tail hg)
theorem box4 {wx : World} {X : Nat} {a b c d : Value} {T : TypeId} (h : wx.heap[X]? = some (.cells #[a, b, c, d] T)) : (wx.cell? ⟨X, 0, none⟩ = some a ∧ wx.cell? ⟨X, 1, none⟩ = some b ∧ wx.cell? ⟨X, 2, none⟩ = some c ∧ wx.cell? ⟨X, 3, none⟩ = some d) ∧ wx.frozen? ⟨X, 0, none⟩ = false ∧ wx.frozen? ⟨X, 1, none⟩ = false ∧ wx.frozen? ⟨X, 2, none⟩ = false ∧ wx.frozen? ⟨X, 3, none⟩ = false := by
  simp [World.cell?, World.frozen?, h]
theorem box4_s0 {wx : World} {X : Nat} {a b c d : Value} {T : TypeId} (h : wx.heap[X]? = some (.cells #[a, b, c, d] T)) (p : Value) : (wx.setCell ⟨X, 0, none⟩ p).heap[X]? = some (.cells #[p, b, c, d] T) := by simp [World.setCell, Array.getElem?_modify, h]
theorem box4_s1 {wx : World} {X : Nat} {a b c d : Value} {T : TypeId} (h : wx.heap[X]? = some (.cells #[a, b, c, d] T)) (p : Value) : (wx.setCell ⟨X, 1, none⟩ p).heap[X]? = some (.cells #[a, p, c, d] T) := by simp [World.setCell, Array.getElem?_modify, h]
theorem box4_s2 {wx : World} {X : Nat} {a b c d : Value} {T : TypeId} (h : wx.heap[X]? = some (.cells #[a, b, c, d] T)) (p : Value) : (wx.setCell ⟨X, 2, none⟩ p).heap[X]? = some (.cells #[a, b, p, d] T) := by simp [World.setCell, Array.getElem?_modify, h]
theorem box4_s3 {wx : World} {X : Nat} {a b c d : Value} {T : TypeId} (h : wx.heap[X]? = some (.cells #[a, b, c, d] T)) (p : Value) : (wx.setCell ⟨X, 3, none⟩ p).heap[X]? = some (.cells #[a, b, c, p] T) := by simp [World.setCell, Array.getElem?_modify, h]
theorem heap_lt {wx : World} {X : Nat} {o : Obj} (h : wx.heap[X]? = some o) : X < wx.heap.size := (Array.getElem?_eq_some_iff.1 h).1
theorem Wrote.heap {S : Nat → Prop} {wx wy : World} (h : Wrote S wx wy) {X : Nat} {o : Obj} (hX : wx.heap[X]? = some o) (hS : ¬ S X) : wy.heap[X]? = some o := (h.block X (heap_lt hX) hS).trans hX
theorem heap_later {wx wy : World} (h : Below wx.heap.size wx wy) {X : Nat} {o : Obj} (hX : wx.heap[X]? = some o) : wy.heap[X]? = some o := (h.block X (heap_lt hX)).trans hX
def litD : List ByteArray := [{ data := #[] }, { data := #[97, 98] }, { data := #[0, 255] }, { data := #[115, 111, 109, 101, 32, 116, 101, 120, 116] }]

set_option maxHeartbeats 600000 in
theorem cur_fields (B K : Nat) (w : World) (h : PC w B K) (hK : K ≤ 700000000000) :
    Calls Try.prog 79 #[.pointer (some ⟨B, 0, none⟩)] w (FieldsOf B K w) := by
  obtain ⟨i0, hi, hz0, hz1, hz2⟩ := info_parts Try.infoFld
  have hBl := h.lt
  have HP := Lib.hid (fun (K' : Nat) (n : Int) wx (hx : PC wx B K') (h1 : K' ≤ 900000000000) (h2 : n ≤ 2147483648) => cur_pick B K' n wx hx h1 h2)
  have HPC := Lib.hid h; clear h
  unfold FieldsOf
  go_enter Try.func79, Try.ntmps79
  go_wp2_with fail
  refine (HP.out K 6 _ HPC.out (by omega) (by omega)).mono ?_
  rintro e wa ⟨r1, rfl, hr1, hp, hw⟩
  have HPC1 := Lib.hid hp; have HW1 := Lib.hid hw; clear hp hw
  go_wp2_with fail
  refine (cur_one B _ 30 _ HPC1.out (by omega) (by omega)).mono ?_
  rintro e wb ⟨b2, rfl, hp, hw⟩
  have HPC2 := Lib.hid hp; have HW2 := Lib.hid (HW1.out.trans hw); clear hp hw
  cases b2 with
  | false =>
    have HFS : Hid (FSt w B (K + 6) (.slice none 0 0) [] wb) := Lib.hid ⟨World.ownsRow_nil _ _ _ _, HPC2.out.mono (by omega), ws_cur HW2.out⟩
    have hr9 : r1 ≤ 41 := by omega
    go_wp2_with fail
    go_loopw [3, 4] (fun lv nv wr => ∃ (n : Nat) (v : Value) (l : List Fld), lv = v ∧ nv = .int .i64 (n : Int) ∧ n + l.length ≤ 41 ∧ Hid (FSt w B (K + 6 + 12 * l.length) v l wr) ∧ Hid (∀ f ∈ l, DB f)) (fun _ nv _ => (intOf nv).toNat)
    case atStart => exact ⟨r1, _, [], rfl, by go_num, by simp; try omega, Lib.hid (HFS.out.more (by simp; try omega)), Lib.hid (by simp)⟩
    case round =>
      clear HFS
      obtain ⟨w1, rfl⟩ : ∃ z : World, z = wr := ⟨_, rfl⟩
      obtain ⟨n, v, l, rfl, rfl, hnl, HS, HD⟩ := hrel
      by_cases hn0 : 0 < n
      case neg =>
        obtain rfl : n = 0 := by omega
        by_cases hs0 : 0 < l.length
        case neg =>
          obtain ⟨qa, qc, rfl⟩ := form_of_own HS.out.own
          have hl0 : l.length = 0 := by omega
          go_wp2_with fail
          go_ret
          exact ⟨_, l, rfl, by omega, HD.out, HS.out.more (by omega)⟩
        obtain ⟨g, cp, hv, hg1, hg2⟩ := HS.out.own.form (by omega)
        subst hv
        go_wp2_with fail
        refine (cur_one B _ 20 w1 HS.out.pc (by omega) (by omega)).mono ?_
        rintro e w2 ⟨b, rfl, hp, hw⟩
        have HS2 := Lib.hid (HS.out.ws hBl (ws_cur hw) hp); clear hp hw
        cases b with
        | false =>
          go_wp2_with fail
          go_ret
          exact ⟨_, l, rfl, by omega, HD.out, HS2.out.more (by omega)⟩
        | true =>
          have HBL := Lib.hid ((Below.refl w2.heap.size w2).alloc (Nat.le_refl _) (.cells (([0, 30, 31] : List Int).map (Value.int .i64)).toArray 3))
          have HAM := Lib.hid (cur_among B _ ([0, 30, 31] : List Int) w2.heap.size 0 3 _ (HS2.out.pc.later HBL.out) (by omega) (by decide) (by decide) (by decide) (by decide) (by have := HS2.out.pc.lt; omega) (lit_ints w2 _ _))
          have HS3 := Lib.hid (HS2.out.alloc hBl (.cells (([0, 30, 31] : List Int).map (Value.int .i64)).toArray 3))
          simp only [List.map_cons, List.map_nil] at HAM HS3
          clear HBL
          go_wp2_with fail
          refine HAM.out.mono ?_
          rintro e w4 ⟨x, hx, rfl, hp, hw⟩
          have hx2 : 0 ≤ x ∧ x ≤ 31 := by simp only [List.mem_cons, List.not_mem_nil, or_false] at hx; omega
          have HS4 := Lib.hid (HS3.out.ws hBl (ws_cur hw) hp); clear hp hw hx HAM HS3
          go_wp2_with fail
          refine (HP.out _ 4 w4 HS4.out.pc (by omega) (by omega)).mono ?_
          rintro e w5 ⟨r, rfl, hr, hp, hw⟩
          have HS5 := Lib.hid (HS4.out.ws hBl (ws_cur hw) hp); clear hp hw
          have hr3 : r ≤ 3 := by omega
          clear hr
          go_wp2_with fail
          refine (cur_number B _ w5 HS5.out.pc (by omega)).mono ?_
          rintro e w6 ⟨y, rfl, hy, hp, hw⟩
          have HS6 := Lib.hid (HS5.out.ws hBl hw hp); clear hp hw
          obtain ⟨⟨e0, f0⟩, ⟨e1, f1⟩, ⟨e2, f2⟩, ⟨e3, f3⟩⟩ := HS6.out.fcells rfl hs0 (.int .i64 x) (.int .i64 (r : Int)) (.int .i64 y)
          have HS7 := Lib.hid (HS6.out.first hBl rfl hs0 (Fld.mk x (r : Int) y { data := #[] }))
          have HD7 := Lib.hid (db_first HD.out (f := Fld.mk x (r : Int) y { data := #[] }) ⟨by simp only; omega, by simp only; omega, by simp only; omega, by simp only; decide⟩)
          simp only at HS7
          generalize hA : w6.setCell ⟨g, 0, none⟩ (.int .i64 x) = wA at *
          generalize hB : wA.setCell ⟨g, 1, none⟩ (.int .i64 (r : Int)) = wB at *
          generalize hC : wB.setCell ⟨g, 2, none⟩ (.int .i64 y) = wC at *
          generalize hD : wC.setCell ⟨g, 3, none⟩ (.string { data := #[] }) = wD at *
          go_wp2_with fail
          go_ret
          exact ⟨_, _, rfl, by simp; omega, HD7.out, HS7.out.more (by omega)⟩
      obtain ⟨qa, qc, rfl⟩ := form_of_own HS.out.own
      go_wp2_with fail
      refine (HP.out _ 6 w1 HS.out.pc (by omega) (by omega)).mono ?_
      rintro e w2 ⟨r, rfl, hr, hp, hw⟩
      have HS2 := Lib.hid (HS.out.ws hBl (ws_cur hw) hp); clear hp hw
      have hr5 : r ≤ 5 := by omega
      clear hr
      go_wp2_with fail
      refine (cur_small B _ w2 HS2.out.pc (by omega)).mono ?_
      rintro e w3 ⟨x, rfl, hx, hp, hw⟩
      have HS3 := Lib.hid (HS2.out.ws hBl hw hp); clear hp hw
      have hXz := HS3.out.wr.size
      have hvX : ∀ k, (Value.slice qa l.length qc).ownBlock = some k → k < w3.heap.size := fun k hk => (HS3.out.own.lt k hk).2
      have HS4 := Lib.hid (HS3.out.alloc hBl (.cells #[.int .i64 (1 + (r : Int)), .int .i64 0, .int .i64 x, .string { data := #[] }] 57))
      have HX4 := Lib.hid (heap_alloc_new w3 (.cells #[.int .i64 (1 + (r : Int)), .int .i64 0, .int .i64 x, .string { data := #[] }] 57))
      have z4 : w3.heap.size < (w3.alloc (.cells #[.int .i64 (1 + (r : Int)), .int .i64 0, .int .i64 x, .string { data := #[] }] 57)).heap.size := by simp
      go_wp2_with fail
      generalize w3.alloc (.cells #[.int .i64 (1 + (r : Int)), .int .i64 0, .int .i64 x, .string { data := #[] }] 57) = w4 at *
      refine (cur_one B _ 3 w4 HS4.out.pc (by omega) (by omega)).mono ?_
      rintro e w5 ⟨b, rfl, hp, hw⟩
      have HS5 := Lib.hid (HS4.out.ws hBl (ws_cur hw) hp)
      have hXB : ¬ w3.heap.size = B := by omega
      have HX5 := Lib.hid (hw.heap HX4.out hXB)
      have z5 : w3.heap.size < w5.heap.size := Nat.lt_of_lt_of_le z4 hw.size
      clear hp hw HX4
      cases b with
      | false =>
        obtain ⟨⟨e0, e1, e2, e3⟩, -⟩ := box4 HX5.out
        have HNW := Lib.hid (World.news_of_block (cs := #[Value.int .i64 (Fld.mk (1 + (r : Int)) 0 x { data := #[] }).no, .int .i64 (Fld.mk (1 + (r : Int)) 0 x { data := #[] }).kind, .int .i64 (Fld.mk (1 + (r : Int)) 0 x { data := #[] }).num, .string (Fld.mk (1 + (r : Int)) 0 x { data := #[] }).data]) (t := 57) (fr := (0, 0)) (heap_alloc_new w5 (.cells #[.int .i64 (Fld.mk (1 + (r : Int)) 0 x { data := #[] }).no, .int .i64 (Fld.mk (1 + (r : Int)) 0 x { data := #[] }).kind, .int .i64 (Fld.mk (1 + (r : Int)) 0 x { data := #[] }).num, .string (Fld.mk (1 + (r : Int)) 0 x { data := #[] }).data] 57)))
        have hWz := HS5.out.wr.size
        go_wp2_with (at_builtin; refine wpList_append_own _ rfl _ _ 49 rfl w.heap.size 57 i0 (.agg #[.int .i64 0, .int .i64 0, .int .i64 0, .string ByteArray.empty]) 4 40 Try.underlying49 hi hz0 hz1 hz2 rfl (by decide) _ l.length _ rfl (HS5.out.own.alloc _) _ 1 1 [.int .i64 (Fld.mk (1 + (r : Int)) 0 x { data := #[] }).no, .int .i64 (Fld.mk (1 + (r : Int)) 0 x { data := #[] }).kind, .int .i64 (Fld.mk (1 + (r : Int)) 0 x { data := #[] }).num, .string (Fld.mk (1 + (r : Int)) 0 x { data := #[] }).data] rfl rfl HNW.out (by simp [Value.oneCell']) (by unfold maxLen; omega) (by omega) (Nat.le_trans hWz (by simp)) ?_)
        intro v9 w9 hown hgrow _
        have HS9 := Lib.hid ((HS5.out.alloc hBl _).grow hBl (Fld.mk (1 + (r : Int)) 0 x { data := #[] }) hown hgrow)
        clear hown hgrow HNW
        go_wp2_with fail
        go_roundw
        case rel => exact ⟨n - 1, _, l ++ [Fld.mk (1 + (r : Int)) 0 x { data := #[] }], rfl, by go_num, by simp; omega, Lib.hid (HS9.out.more (by simp; omega)), Lib.hid (db_snoc HD.out ⟨by simp only; omega, by simp only; omega, by simp only; omega, by simp only; decide⟩)⟩
        case measure => (simp [intOf]; try omega)
      | true =>
        go_wp2_with fail
        refine (HP.out _ 6 w5 HS5.out.pc (by omega) (by omega)).mono ?_
        rintro e w6 ⟨r2, rfl, hr2, hp, hw⟩
        have HS6 := Lib.hid (HS5.out.ws hBl (ws_cur hw) hp)
        have HX6 := Lib.hid (hw.heap HX5.out hXB)
        have z6 : w3.heap.size < w6.heap.size := Nat.lt_of_lt_of_le z5 hw.size
        clear hp hw
        have hr6 : r2 ≤ 5 := by omega
        clear hr2
        have HBL := Lib.hid ((Below.refl w6.heap.size w6).alloc (Nat.le_refl _) (.cells (litD.map Value.string).toArray 9))
        have HOF := Lib.hid (cur_of B _ litD w6.heap.size 0 4 _ (HS6.out.pc.later HBL.out) (by omega) (by decide) (by decide) (by decide) (by decide) (by have := HS6.out.pc.lt; omega) (lit_cells w6 _ _))
        have HS7 := Lib.hid (HS6.out.alloc hBl (.cells (litD.map Value.string).toArray 9))
        have HX7 := Lib.hid (heap_later HBL.out HX6.out)
        simp only [litD, List.map_cons, List.map_nil] at HOF HS7 HX7
        clear HBL
        go_wp2_with fail
        refine HOF.out.mono ?_
        rintro e w8 ⟨y, hy, rfl, hp, hw⟩
        have hy9 : y.size ≤ 9 := by simp only [List.mem_cons, List.not_mem_nil, or_false] at hy; rcases hy with rfl | rfl | rfl | rfl <;> decide
        have HS8 := Lib.hid (HS7.out.ws hBl (ws_cur hw) hp)
        have HX8 := Lib.hid (hw.heap HX7.out hXB)
        obtain ⟨⟨e0, e1, e2, e3⟩, f0, f1, f2, f3⟩ := box4 HX8.out
        have z8 : w3.heap.size < w8.heap.size := Nat.lt_of_lt_of_le z6 (by have := hw.size; simp at this; omega)
        have HS9 := Lib.hid ((((HS8.out.set hBl w3.heap.size 0 (.int .i64 (1 + (r2 : Int))) hXz hvX).set hBl w3.heap.size 1 (.int .i64 2) hXz hvX).set hBl w3.heap.size 2 (.int .i64 0) hXz hvX).set hBl w3.heap.size 3 (.string y) hXz hvX)
        clear hp hw hy HOF HS7 HS6 HS5
        clear e0 e1 e2 e3 f0 f1 f2 f3
        obtain ⟨⟨e0, -, -, -⟩, f0, -, -, -⟩ := box4 HX8.out
        have HXA := Lib.hid (box4_s0 HX8.out (.int .i64 (1 + (r2 : Int))))
        generalize hA : w8.setCell ⟨w3.heap.size, 0, none⟩ (.int .i64 (1 + (r2 : Int))) = wA at *
        obtain ⟨⟨-, e1, -, -⟩, -, f1, -, -⟩ := box4 HXA.out
        have HXB := Lib.hid (box4_s1 HXA.out (.int .i64 2))
        generalize hB : wA.setCell ⟨w3.heap.size, 1, none⟩ (.int .i64 2) = wB at *
        obtain ⟨⟨-, -, e2, -⟩, -, -, f2, -⟩ := box4 HXB.out
        have HXC := Lib.hid (box4_s2 HXB.out (.int .i64 0))
        generalize hC : wB.setCell ⟨w3.heap.size, 2, none⟩ (.int .i64 0) = wC at *
        obtain ⟨⟨-, -, -, e3⟩, -, -, -, f3⟩ := box4 HXC.out
        have HXD := Lib.hid (box4_s3 HXC.out (.string y))
        generalize hD : wC.setCell ⟨w3.heap.size, 3, none⟩ (.string y) = w9 at *
        obtain ⟨⟨g0, g1, g2, g3⟩, -⟩ := box4 HXD.out
        have HNW := Lib.hid (World.news_of_block (cs := #[Value.int .i64 (Fld.mk (1 + (r2 : Int)) 2 0 y).no, .int .i64 (Fld.mk (1 + (r2 : Int)) 2 0 y).kind, .int .i64 (Fld.mk (1 + (r2 : Int)) 2 0 y).num, .string (Fld.mk (1 + (r2 : Int)) 2 0 y).data]) (t := 57) (fr := (0, 0)) (heap_alloc_new w9 (.cells #[.int .i64 (Fld.mk (1 + (r2 : Int)) 2 0 y).no, .int .i64 (Fld.mk (1 + (r2 : Int)) 2 0 y).kind, .int .i64 (Fld.mk (1 + (r2 : Int)) 2 0 y).num, .string (Fld.mk (1 + (r2 : Int)) 2 0 y).data] 57)))
        have hWz := HS9.out.wr.size
        go_wp2_with (at_builtin; refine wpList_append_own _ rfl _ _ 49 rfl w.heap.size 57 i0 (.agg #[.int .i64 0, .int .i64 0, .int .i64 0, .string ByteArray.empty]) 4 40 Try.underlying49 hi hz0 hz1 hz2 rfl (by decide) _ l.length _ rfl (HS9.out.own.alloc _) _ 1 1 [.int .i64 (Fld.mk (1 + (r2 : Int)) 2 0 y).no, .int .i64 (Fld.mk (1 + (r2 : Int)) 2 0 y).kind, .int .i64 (Fld.mk (1 + (r2 : Int)) 2 0 y).num, .string (Fld.mk (1 + (r2 : Int)) 2 0 y).data] rfl rfl HNW.out (by simp [Value.oneCell']) (by unfold maxLen; omega) (by omega) (Nat.le_trans hWz (by simp)) ?_)
        intro v9 w9 hown hgrow _
        have HS9 := Lib.hid ((HS9.out.alloc hBl _).grow hBl (Fld.mk (1 + (r2 : Int)) 2 0 y) hown hgrow)
        clear hown hgrow HNW
        go_wp2_with fail
        go_roundw
        case rel => exact ⟨n - 1, _, l ++ [Fld.mk (1 + (r2 : Int)) 2 0 y], rfl, by go_num, by simp; omega, Lib.hid (HS9.out.more (by simp; omega)), Lib.hid (db_snoc HD.out ⟨by simp only; omega, by simp only; omega, by simp only; omega, hy9⟩)⟩
        case measure => (simp [intOf]; try omega)
  | true =>
    go_wp2_with fail
    refine (HP.out _ 2 _ HPC2.out (by omega) (by omega)).mono ?_
    rintro e wc ⟨r3, rfl, hr3, hp, hw⟩
    have HFS : Hid (FSt w B (K + 6) (.slice none 0 0) [] wc) := Lib.hid ⟨World.ownsRow_nil _ _ _ _, hp.mono (by omega), ws_cur (HW2.out.trans hw)⟩
    clear hp hw
    have hr4 : r3 ≤ 1 := by omega
    clear hr3
    go_wp2_with fail
    go_loopw [3, 4] (fun lv nv wr => ∃ (n : Nat) (v : Value) (l : List Fld), lv = v ∧ nv = .int .i64 (n : Int) ∧ n + l.length ≤ 41 ∧ Hid (FSt w B (K + 6 + 12 * l.length) v l wr) ∧ Hid (∀ f ∈ l, DB f)) (fun _ nv _ => (intOf nv).toNat)
    case atStart => exact ⟨(40 + r3), _, [], rfl, by go_num, by simp; try omega, Lib.hid (HFS.out.more (by simp; try omega)), Lib.hid (by simp)⟩
    case round =>
      clear HFS
      obtain ⟨w1, rfl⟩ : ∃ z : World, z = wr := ⟨_, rfl⟩
      obtain ⟨n, v, l, rfl, rfl, hnl, HS, HD⟩ := hrel
      by_cases hn0 : 0 < n
      case neg =>
        obtain rfl : n = 0 := by omega
        by_cases hs0 : 0 < l.length
        case neg =>
          obtain ⟨qa, qc, rfl⟩ := form_of_own HS.out.own
          have hl0 : l.length = 0 := by omega
          go_wp2_with fail
          go_ret
          exact ⟨_, l, rfl, by omega, HD.out, HS.out.more (by omega)⟩
        obtain ⟨g, cp, hv, hg1, hg2⟩ := HS.out.own.form (by omega)
        subst hv
        go_wp2_with fail
        refine (cur_one B _ 20 w1 HS.out.pc (by omega) (by omega)).mono ?_
        rintro e w2 ⟨b, rfl, hp, hw⟩
        have HS2 := Lib.hid (HS.out.ws hBl (ws_cur hw) hp); clear hp hw
        cases b with
        | false =>
          go_wp2_with fail
          go_ret
          exact ⟨_, l, rfl, by omega, HD.out, HS2.out.more (by omega)⟩
        | true =>
          have HBL := Lib.hid ((Below.refl w2.heap.size w2).alloc (Nat.le_refl _) (.cells (([0, 30, 31] : List Int).map (Value.int .i64)).toArray 3))
          have HAM := Lib.hid (cur_among B _ ([0, 30, 31] : List Int) w2.heap.size 0 3 _ (HS2.out.pc.later HBL.out) (by omega) (by decide) (by decide) (by decide) (by decide) (by have := HS2.out.pc.lt; omega) (lit_ints w2 _ _))
          have HS3 := Lib.hid (HS2.out.alloc hBl (.cells (([0, 30, 31] : List Int).map (Value.int .i64)).toArray 3))
          simp only [List.map_cons, List.map_nil] at HAM HS3
          clear HBL
          go_wp2_with fail
          refine HAM.out.mono ?_
          rintro e w4 ⟨x, hx, rfl, hp, hw⟩
          have hx2 : 0 ≤ x ∧ x ≤ 31 := by simp only [List.mem_cons, List.not_mem_nil, or_false] at hx; omega
          have HS4 := Lib.hid (HS3.out.ws hBl (ws_cur hw) hp); clear hp hw hx HAM HS3
          go_wp2_with fail
          refine (HP.out _ 4 w4 HS4.out.pc (by omega) (by omega)).mono ?_
          rintro e w5 ⟨r, rfl, hr, hp, hw⟩
          have HS5 := Lib.hid (HS4.out.ws hBl (ws_cur hw) hp); clear hp hw
          have hr3 : r ≤ 3 := by omega
          clear hr
          go_wp2_with fail
          refine (cur_number B _ w5 HS5.out.pc (by omega)).mono ?_
          rintro e w6 ⟨y, rfl, hy, hp, hw⟩
          have HS6 := Lib.hid (HS5.out.ws hBl hw hp); clear hp hw
          obtain ⟨⟨e0, f0⟩, ⟨e1, f1⟩, ⟨e2, f2⟩, ⟨e3, f3⟩⟩ := HS6.out.fcells rfl hs0 (.int .i64 x) (.int .i64 (r : Int)) (.int .i64 y)
          have HS7 := Lib.hid (HS6.out.first hBl rfl hs0 (Fld.mk x (r : Int) y { data := #[] }))
          have HD7 := Lib.hid (db_first HD.out (f := Fld.mk x (r : Int) y { data := #[] }) ⟨by simp only; omega, by simp only; omega, by simp only; omega, by simp only; decide⟩)
          simp only at HS7
          generalize hA : w6.setCell ⟨g, 0, none⟩ (.int .i64 x) = wA at *
          generalize hB : wA.setCell ⟨g, 1, none⟩ (.int .i64 (r : Int)) = wB at *
          generalize hC : wB.setCell ⟨g, 2, none⟩ (.int .i64 y) = wC at *
          generalize hD : wC.setCell ⟨g, 3, none⟩ (.string { data := #[] }) = wD at *
          go_wp2_with fail
          go_ret
          exact ⟨_, _, rfl, by simp; omega, HD7.out, HS7.out.more (by omega)⟩
      obtain ⟨qa, qc, rfl⟩ := form_of_own HS.out.own
      go_wp2_with fail
      refine (HP.out _ 6 w1 HS.out.pc (by omega) (by omega)).mono ?_
      rintro e w2 ⟨r, rfl, hr, hp, hw⟩
      have HS2 := Lib.hid (HS.out.ws hBl (ws_cur hw) hp); clear hp hw
      have hr5 : r ≤ 5 := by omega
      clear hr
      go_wp2_with fail
      refine (cur_small B _ w2 HS2.out.pc (by omega)).mono ?_
      rintro e w3 ⟨x, rfl, hx, hp, hw⟩
      have HS3 := Lib.hid (HS2.out.ws hBl hw hp); clear hp hw
      have hXz := HS3.out.wr.size
      have hvX : ∀ k, (Value.slice qa l.length qc).ownBlock = some k → k < w3.heap.size := fun k hk => (HS3.out.own.lt k hk).2
      have HS4 := Lib.hid (HS3.out.alloc hBl (.cells #[.int .i64 (1 + (r : Int)), .int .i64 0, .int .i64 x, .string { data := #[] }] 57))
      have HX4 := Lib.hid (heap_alloc_new w3 (.cells #[.int .i64 (1 + (r : Int)), .int .i64 0, .int .i64 x, .string { data := #[] }] 57))
      have z4 : w3.heap.size < (w3.alloc (.cells #[.int .i64 (1 + (r : Int)), .int .i64 0, .int .i64 x, .string { data := #[] }] 57)).heap.size := by simp
      go_wp2_with fail
      generalize w3.alloc (.cells #[.int .i64 (1 + (r : Int)), .int .i64 0, .int .i64 x, .string { data := #[] }] 57) = w4 at *
      refine (cur_one B _ 3 w4 HS4.out.pc (by omega) (by omega)).mono ?_
      rintro e w5 ⟨b, rfl, hp, hw⟩
      have HS5 := Lib.hid (HS4.out.ws hBl (ws_cur hw) hp)
      have hXB : ¬ w3.heap.size = B := by omega
      have HX5 := Lib.hid (hw.heap HX4.out hXB)
      have z5 : w3.heap.size < w5.heap.size := Nat.lt_of_lt_of_le z4 hw.size
      clear hp hw HX4
      cases b with
      | false =>
        obtain ⟨⟨e0, e1, e2, e3⟩, -⟩ := box4 HX5.out
        have HNW := Lib.hid (World.news_of_block (cs := #[Value.int .i64 (Fld.mk (1 + (r : Int)) 0 x { data := #[] }).no, .int .i64 (Fld.mk (1 + (r : Int)) 0 x { data := #[] }).kind, .int .i64 (Fld.mk (1 + (r : Int)) 0 x { data := #[] }).num, .string (Fld.mk (1 + (r : Int)) 0 x { data := #[] }).data]) (t := 57) (fr := (0, 0)) (heap_alloc_new w5 (.cells #[.int .i64 (Fld.mk (1 + (r : Int)) 0 x { data := #[] }).no, .int .i64 (Fld.mk (1 + (r : Int)) 0 x { data := #[] }).kind, .int .i64 (Fld.mk (1 + (r : Int)) 0 x { data := #[] }).num, .string (Fld.mk (1 + (r : Int)) 0 x { data := #[] }).data] 57)))
        have hWz := HS5.out.wr.size
        go_wp2_with (at_builtin; refine wpList_append_own _ rfl _ _ 49 rfl w.heap.size 57 i0 (.agg #[.int .i64 0, .int .i64 0, .int .i64 0, .string ByteArray.empty]) 4 40 Try.underlying49 hi hz0 hz1 hz2 rfl (by decide) _ l.length _ rfl (HS5.out.own.alloc _) _ 1 1 [.int .i64 (Fld.mk (1 + (r : Int)) 0 x { data := #[] }).no, .int .i64 (Fld.mk (1 + (r : Int)) 0 x { data := #[] }).kind, .int .i64 (Fld.mk (1 + (r : Int)) 0 x { data := #[] }).num, .string (Fld.mk (1 + (r : Int)) 0 x { data := #[] }).data] rfl rfl HNW.out (by simp [Value.oneCell']) (by unfold maxLen; omega) (by omega) (Nat.le_trans hWz (by simp)) ?_)
        intro v9 w9 hown hgrow _
        have HS9 := Lib.hid ((HS5.out.alloc hBl _).grow hBl (Fld.mk (1 + (r : Int)) 0 x { data := #[] }) hown hgrow)
        clear hown hgrow HNW
        go_wp2_with fail
        go_roundw
        case rel => exact ⟨n - 1, _, l ++ [Fld.mk (1 + (r : Int)) 0 x { data := #[] }], rfl, by go_num, by simp; omega, Lib.hid (HS9.out.more (by simp; omega)), Lib.hid (db_snoc HD.out ⟨by simp only; omega, by simp only; omega, by simp only; omega, by simp only; decide⟩)⟩
        case measure => (simp [intOf]; try omega)
      | true =>
        go_wp2_with fail
        refine (HP.out _ 6 w5 HS5.out.pc (by omega) (by omega)).mono ?_
        rintro e w6 ⟨r2, rfl, hr2, hp, hw⟩
        have HS6 := Lib.hid (HS5.out.ws hBl (ws_cur hw) hp)
        have HX6 := Lib.hid (hw.heap HX5.out hXB)
        have z6 : w3.heap.size < w6.heap.size := Nat.lt_of_lt_of_le z5 hw.size
        clear hp hw
        have hr6 : r2 ≤ 5 := by omega
        clear hr2
        have HBL := Lib.hid ((Below.refl w6.heap.size w6).alloc (Nat.le_refl _) (.cells (litD.map Value.string).toArray 9))
        have HOF := Lib.hid (cur_of B _ litD w6.heap.size 0 4 _ (HS6.out.pc.later HBL.out) (by omega) (by decide) (by decide) (by decide) (by decide) (by have := HS6.out.pc.lt; omega) (lit_cells w6 _ _))
        have HS7 := Lib.hid (HS6.out.alloc hBl (.cells (litD.map Value.string).toArray 9))
        have HX7 := Lib.hid (heap_later HBL.out HX6.out)
        simp only [litD, List.map_cons, List.map_nil] at HOF HS7 HX7
        clear HBL
        go_wp2_with fail
        refine HOF.out.mono ?_
        rintro e w8 ⟨y, hy, rfl, hp, hw⟩
        have hy9 : y.size ≤ 9 := by simp only [List.mem_cons, List.not_mem_nil, or_false] at hy; rcases hy with rfl | rfl | rfl | rfl <;> decide
        have HS8 := Lib.hid (HS7.out.ws hBl (ws_cur hw) hp)
        have HX8 := Lib.hid (hw.heap HX7.out hXB)
        obtain ⟨⟨e0, e1, e2, e3⟩, f0, f1, f2, f3⟩ := box4 HX8.out
        have z8 : w3.heap.size < w8.heap.size := Nat.lt_of_lt_of_le z6 (by have := hw.size; simp at this; omega)
        have HS9 := Lib.hid ((((HS8.out.set hBl w3.heap.size 0 (.int .i64 (1 + (r2 : Int))) hXz hvX).set hBl w3.heap.size 1 (.int .i64 2) hXz hvX).set hBl w3.heap.size 2 (.int .i64 0) hXz hvX).set hBl w3.heap.size 3 (.string y) hXz hvX)
        clear hp hw hy HOF HS7 HS6 HS5
        clear e0 e1 e2 e3 f0 f1 f2 f3
        obtain ⟨⟨e0, -, -, -⟩, f0, -, -, -⟩ := box4 HX8.out
        have HXA := Lib.hid (box4_s0 HX8.out (.int .i64 (1 + (r2 : Int))))
        generalize hA : w8.setCell ⟨w3.heap.size, 0, none⟩ (.int .i64 (1 + (r2 : Int))) = wA at *
        obtain ⟨⟨-, e1, -, -⟩, -, f1, -, -⟩ := box4 HXA.out
        have HXB := Lib.hid (box4_s1 HXA.out (.int .i64 2))
        generalize hB : wA.setCell ⟨w3.heap.size, 1, none⟩ (.int .i64 2) = wB at *
        obtain ⟨⟨-, -, e2, -⟩, -, -, f2, -⟩ := box4 HXB.out
        have HXC := Lib.hid (box4_s2 HXB.out (.int .i64 0))
        generalize hC : wB.setCell ⟨w3.heap.size, 2, none⟩ (.int .i64 0) = wC at *
        obtain ⟨⟨-, -, -, e3⟩, -, -, -, f3⟩ := box4 HXC.out
        have HXD := Lib.hid (box4_s3 HXC.out (.string y))
        generalize hD : wC.setCell ⟨w3.heap.size, 3, none⟩ (.string y) = w9 at *
        obtain ⟨⟨g0, g1, g2, g3⟩, -⟩ := box4 HXD.out
        have HNW := Lib.hid (World.news_of_block (cs := #[Value.int .i64 (Fld.mk (1 + (r2 : Int)) 2 0 y).no, .int .i64 (Fld.mk (1 + (r2 : Int)) 2 0 y).kind, .int .i64 (Fld.mk (1 + (r2 : Int)) 2 0 y).num, .string (Fld.mk (1 + (r2 : Int)) 2 0 y).data]) (t := 57) (fr := (0, 0)) (heap_alloc_new w9 (.cells #[.int .i64 (Fld.mk (1 + (r2 : Int)) 2 0 y).no, .int .i64 (Fld.mk (1 + (r2 : Int)) 2 0 y).kind, .int .i64 (Fld.mk (1 + (r2 : Int)) 2 0 y).num, .string (Fld.mk (1 + (r2 : Int)) 2 0 y).data] 57)))
        have hWz := HS9.out.wr.size
        go_wp2_with (at_builtin; refine wpList_append_own _ rfl _ _ 49 rfl w.heap.size 57 i0 (.agg #[.int .i64 0, .int .i64 0, .int .i64 0, .string ByteArray.empty]) 4 40 Try.underlying49 hi hz0 hz1 hz2 rfl (by decide) _ l.length _ rfl (HS9.out.own.alloc _) _ 1 1 [.int .i64 (Fld.mk (1 + (r2 : Int)) 2 0 y).no, .int .i64 (Fld.mk (1 + (r2 : Int)) 2 0 y).kind, .int .i64 (Fld.mk (1 + (r2 : Int)) 2 0 y).num, .string (Fld.mk (1 + (r2 : Int)) 2 0 y).data] rfl rfl HNW.out (by simp [Value.oneCell']) (by unfold maxLen; omega) (by omega) (Nat.le_trans hWz (by simp)) ?_)
        intro v9 w9 hown hgrow _
        have HS9 := Lib.hid ((HS9.out.alloc hBl _).grow hBl (Fld.mk (1 + (r2 : Int)) 2 0 y) hown hgrow)
        clear hown hgrow HNW
        go_wp2_with fail
        go_roundw
        case rel => exact ⟨n - 1, _, l ++ [Fld.mk (1 + (r2 : Int)) 2 0 y], rfl, by go_num, by simp; omega, Lib.hid (HS9.out.more (by simp; omega)), Lib.hid (db_snoc HD.out ⟨by simp only; omega, by simp only; omega, by simp only; omega, hy9⟩)⟩
        case measure => (simp [intOf]; try omega)
end Go.Proofs.Ytlmgckijbamgpaa
