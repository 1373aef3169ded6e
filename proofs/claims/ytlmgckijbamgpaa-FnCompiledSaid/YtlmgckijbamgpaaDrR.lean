/- The draw of rising fields' bytes. -/
import Derived.Test.YtlmgckijbamgpaaFld6
import Derived.Test.YtlmgckijbamgpaaFltV
namespace Go.Proofs.Ytlmgckijbamgpaa
set_option linter.unusedVariables false
set_option linter.unusedSimpArgs false
open Go.ChangeShapes Go.WideShapes Go.ChangeAt Go.RowKit
set_option maxRecDepth 100000

def litR : List ByteArray := [{ data := #[] }, { data := #[97, 98] }, { data := #[116, 101, 120, 116] }]
def RisOf (B K : Nat) (w : World) (e : Ending) (w' : World) : Prop :=
  ∃ s : ByteArray, e = .returned (.string s) ∧ s.size ≤ 402 ∧ PC w' B (K + 300) ∧ Wrote (WS B w.heap.size) w w'
set_option maxHeartbeats 2000000 in
theorem cur_rising (B K : Nat) (w : World) (h : PC w B K) (hK : K ≤ 700000000000) :
    Calls Try.prog 93 #[.pointer (some ⟨B, 0, none⟩)] w (RisOf B K w) := by
  obtain ⟨i0, hi, hz0, hz1, hz2⟩ := info_parts Try.infoFld
  have hBl := h.lt
  have HFS : Hid (FSt w B (K + 20) (.slice none 0 0) [] w) := Lib.hid ⟨World.ownsRow_nil _ _ _ _, h.mono (by omega), Wrote.refl _ _⟩
  clear h
  unfold RisOf
  go_enter Try.func93, Try.ntmps93
  go_wp2_with fail
  go_loopw [3, 4] (fun lv nv wr => ∃ (n : Nat) (v : Value) (l : List Fld), lv = v ∧ nv = .int .i64 (n : Int) ∧ n ≤ 7 ∧ l.length ≤ n ∧ Hid (FSt w B (K + 20 * n) v l wr)) (fun _ nv _ => 7 - (intOf nv).toNat)
  case atStart => exact ⟨1, _, [], rfl, by go_num, by omega, by simp, HFS⟩
  case round =>
    clear HFS
    obtain ⟨w1, rfl⟩ : ∃ z : World, z = wr := ⟨_, rfl⟩
    obtain ⟨n, v, l, rfl, rfl, hn7, hnl, HS⟩ := hrel
    obtain ⟨qa, qc, rfl⟩ := form_of_own HS.out.own
    by_cases hlt : n < 7
    case neg =>
      have hge : ¬ (n : Int) < 7 := by omega
      have HF := Lib.hid (spec_FieldsBytes qa qc l w1 (own_rw HS.out.own) (by omega))
      have hsz := RF_size l
      generalize (R_FieldsBytes l).1 = s at *
      generalize (R_FieldsBytes l).2 = ok at *
      go_wp2_with fail
      refine HF.out.mono ?_
      rintro e w2 ⟨rfl, hb⟩
      have HS2 := Lib.hid (HS.out.ws hBl (ws_below hb (Nat.le_refl _)) (HS.out.pc.later hb)); clear hb HF
      go_wp2_with fail
      refine (cur_one B _ 12 w2 HS2.out.pc (by omega) (by omega)).mono ?_
      rintro e w3 ⟨b, rfl, hp, hw⟩
      have HS3 := Lib.hid (HS2.out.ws hBl (ws_cur hw) hp); clear hp hw
      cases b with
      | false =>
        go_wp2_with fail
        go_ret
        exact ⟨s, rfl, by omega, HS3.out.pc.mono (by omega), HS3.out.wr⟩
      | true =>
        go_wp2_with fail
        refine (cur_spoilt B _ s { data := #[0, 8, 18] } w3 HS3.out.pc (by omega) (by omega) (by decide) (by decide)).mono ?_
        rintro e w4 ⟨t, rfl, ht, hp, hw⟩
        have HS4 := Lib.hid (HS3.out.ws hBl hw hp); clear hp hw
        go_wp2_with fail
        go_ret
        exact ⟨t, rfl, by omega, HS4.out.pc.mono (by omega), HS4.out.wr⟩
    have hlti : (n : Int) < 7 := by omega
    go_wp2_with fail
    refine (cur_one B _ 2 w1 HS.out.pc (by omega) (by omega)).mono ?_
    rintro e w2 ⟨b, rfl, hp, hw⟩
    have HS2 := Lib.hid (HS.out.ws hBl (ws_cur hw) hp); clear hp hw
    cases b with
    | false =>
      go_wp2_with fail
      go_roundw
      case rel => exact ⟨n + 1, _, l, rfl, by go_num, by omega, by omega, Lib.hid (HS2.out.more (by omega))⟩
      case measure => (simp [intOf]; try omega)
    | true =>
    go_wp2_with fail
    refine (cur_small B _ w2 HS2.out.pc (by omega)).mono ?_
    rintro e w3 ⟨x, rfl, hx, hp, hw⟩
    have HS3 := Lib.hid (HS2.out.ws hBl hw hp); clear hp hw
    have hXz := HS3.out.wr.size
    have hvX : ∀ k, (Value.slice qa l.length qc).ownBlock = some k → k < w3.heap.size := fun k hk => (HS3.out.own.lt k hk).2
    have HS4 := Lib.hid (HS3.out.alloc hBl (.cells #[.int .i64 (n : Int), .int .i64 0, .int .i64 x, .string { data := #[] }] 57))
    have HX4 := Lib.hid (heap_alloc_new w3 (.cells #[.int .i64 (n : Int), .int .i64 0, .int .i64 x, .string { data := #[] }] 57))
    have z4 : w3.heap.size < (w3.alloc (.cells #[.int .i64 (n : Int), .int .i64 0, .int .i64 x, .string { data := #[] }] 57)).heap.size := by simp
    go_wp2_with fail
    generalize w3.alloc (.cells #[.int .i64 (n : Int), .int .i64 0, .int .i64 x, .string { data := #[] }] 57) = w4 at *
    refine (cur_one B _ 3 w4 HS4.out.pc (by omega) (by omega)).mono ?_
    rintro e w5 ⟨b, rfl, hp, hw⟩
    have HS5 := Lib.hid (HS4.out.ws hBl (ws_cur hw) hp)
    have hXB : ¬ w3.heap.size = B := by omega
    have HX5 := Lib.hid (hw.heap HX4.out hXB)
    have z5 : w3.heap.size < w5.heap.size := Nat.lt_of_lt_of_le z4 hw.size
    clear hp hw HX4
    cases b with
    | false =>
      obtain ⟨⟨e0, e1, e2, e3⟩, -⟩ := box4 HX5.out
      have HNW := Lib.hid (World.news_of_block (cs := #[Value.int .i64 (Fld.mk (n : Int) 0 x { data := #[] }).no, .int .i64 (Fld.mk (n : Int) 0 x { data := #[] }).kind, .int .i64 (Fld.mk (n : Int) 0 x { data := #[] }).num, .string (Fld.mk (n : Int) 0 x { data := #[] }).data]) (t := 57) (fr := (0, 0)) (heap_alloc_new w5 (.cells #[.int .i64 (Fld.mk (n : Int) 0 x { data := #[] }).no, .int .i64 (Fld.mk (n : Int) 0 x { data := #[] }).kind, .int .i64 (Fld.mk (n : Int) 0 x { data := #[] }).num, .string (Fld.mk (n : Int) 0 x { data := #[] }).data] 57)))
      have hWz := HS5.out.wr.size
      go_wp2_with (at_builtin; refine wpList_append_own _ rfl _ _ 49 rfl w.heap.size 57 i0 (.agg #[.int .i64 0, .int .i64 0, .int .i64 0, .string ByteArray.empty]) 4 40 Try.underlying49 hi hz0 hz1 hz2 rfl (by decide) _ l.length _ rfl (HS5.out.own.alloc _) _ 1 1 [.int .i64 (Fld.mk (n : Int) 0 x { data := #[] }).no, .int .i64 (Fld.mk (n : Int) 0 x { data := #[] }).kind, .int .i64 (Fld.mk (n : Int) 0 x { data := #[] }).num, .string (Fld.mk (n : Int) 0 x { data := #[] }).data] rfl rfl HNW.out (by simp [Value.oneCell']) (by unfold maxLen; omega) (by omega) (Nat.le_trans hWz (by simp)) ?_)
      intro v9 w9 hown hgrow _
      have HS9 := Lib.hid ((HS5.out.alloc hBl _).grow hBl (Fld.mk (n : Int) 0 x { data := #[] }) hown hgrow)
      clear hown hgrow HNW
      go_wp2_with fail
      go_roundw
      case rel => exact ⟨n + 1, _, l ++ [Fld.mk (n : Int) 0 x { data := #[] }], rfl, by go_num, by omega, by simp; omega, Lib.hid (HS9.out.more (by omega))⟩
      case measure => (simp [intOf]; try omega)
    | true =>
      have HBL := Lib.hid ((Below.refl w5.heap.size w5).alloc (Nat.le_refl _) (.cells (litR.map Value.string).toArray 9))
      have HOF := Lib.hid (cur_of B _ litR w5.heap.size 0 3 _ (HS5.out.pc.later HBL.out) (by omega) (by decide) (by decide) (by decide) (by decide) (by have := HS5.out.pc.lt; omega) (lit_cells w5 _ _))
      have HS7 := Lib.hid (HS5.out.alloc hBl (.cells (litR.map Value.string).toArray 9))
      have HX7 := Lib.hid (heap_later HBL.out HX5.out)
      simp only [litR, List.map_cons, List.map_nil] at HOF HS7 HX7
      clear HBL
      go_wp2_with fail
      refine HOF.out.mono ?_
      rintro e w8 ⟨y, hy, rfl, hp, hw⟩
      have HS8 := Lib.hid (HS7.out.ws hBl (ws_cur hw) hp)
      have HX8 := Lib.hid (hw.heap HX7.out hXB)
      obtain ⟨⟨e0, e1, e2, e3⟩, f0, f1, f2, f3⟩ := box4 HX8.out
      have z8 : w3.heap.size < w8.heap.size := Nat.lt_of_lt_of_le z5 (by have := hw.size; simp at this; omega)
      have HS9 := Lib.hid ((((HS8.out.set hBl w3.heap.size 0 (.int .i64 (n : Int)) hXz hvX).set hBl w3.heap.size 1 (.int .i64 2) hXz hvX).set hBl w3.heap.size 2 (.int .i64 0) hXz hvX).set hBl w3.heap.size 3 (.string y) hXz hvX)
      clear hp hw hy HOF HS7 HS5
      clear e0 e1 e2 e3 f0 f1 f2 f3
      obtain ⟨⟨e0, -, -, -⟩, f0, -, -, -⟩ := box4 HX8.out
      have HXA := Lib.hid (box4_s0 HX8.out (.int .i64 (n : Int)))
      generalize hA : w8.setCell ⟨w3.heap.size, 0, none⟩ (.int .i64 (n : Int)) = wA at *
      obtain ⟨⟨-, e1, -, -⟩, -, f1, -, -⟩ := box4 HXA.out
      have HXB := Lib.hid (box4_s1 HXA.out (.int .i64 2))
      generalize hB : wA.setCell ⟨w3.heap.size, 1, none⟩ (.int .i64 2) = wB at *
      obtain ⟨⟨-, -, e2, -⟩, -, -, f2, -⟩ := box4 HXB.out
      have HXC := Lib.hid (box4_s2 HXB.out (.int .i64 0))
      generalize hC : wB.setCell ⟨w3.heap.size, 2, none⟩ (.int .i64 0) = wC at *
      obtain ⟨⟨-, -, -, e3⟩, -, -, -, f3⟩ := box4 HXC.out
      have HXD := Lib.hid (box4_s3 HXC.out (.string y))
      generalize hD : wC.setCell ⟨w3.heap.size, 3, none⟩ (.string y) = w9 at *
      obtain ⟨⟨g0, g1, g2, g3⟩, -⟩ := box4 HXD.out
      have HNW := Lib.hid (World.news_of_block (cs := #[Value.int .i64 (Fld.mk (n : Int) 2 0 y).no, .int .i64 (Fld.mk (n : Int) 2 0 y).kind, .int .i64 (Fld.mk (n : Int) 2 0 y).num, .string (Fld.mk (n : Int) 2 0 y).data]) (t := 57) (fr := (0, 0)) (heap_alloc_new w9 (.cells #[.int .i64 (Fld.mk (n : Int) 2 0 y).no, .int .i64 (Fld.mk (n : Int) 2 0 y).kind, .int .i64 (Fld.mk (n : Int) 2 0 y).num, .string (Fld.mk (n : Int) 2 0 y).data] 57)))
      have hWz := HS9.out.wr.size
      go_wp2_with (at_builtin; refine wpList_append_own _ rfl _ _ 49 rfl w.heap.size 57 i0 (.agg #[.int .i64 0, .int .i64 0, .int .i64 0, .string ByteArray.empty]) 4 40 Try.underlying49 hi hz0 hz1 hz2 rfl (by decide) _ l.length _ rfl (HS9.out.own.alloc _) _ 1 1 [.int .i64 (Fld.mk (n : Int) 2 0 y).no, .int .i64 (Fld.mk (n : Int) 2 0 y).kind, .int .i64 (Fld.mk (n : Int) 2 0 y).num, .string (Fld.mk (n : Int) 2 0 y).data] rfl rfl HNW.out (by simp [Value.oneCell']) (by unfold maxLen; omega) (by omega) (Nat.le_trans hWz (by simp)) ?_)
      intro v9 w9 hown hgrow _
      have HS9 := Lib.hid ((HS9.out.alloc hBl _).grow hBl (Fld.mk (n : Int) 2 0 y) hown hgrow)
      clear hown hgrow HNW
      go_wp2_with fail
      go_roundw
      case rel => exact ⟨n + 1, _, l ++ [Fld.mk (n : Int) 2 0 y], rfl, by go_num, by omega, by simp; omega, Lib.hid (HS9.out.more (by omega))⟩
      case measure => (simp [intOf]; try omega)
/-- wants put behind others, under way -/
structure WQ (m0 B K : Nat) (wx0 : World) (v0 v : Value) (l : List Wn) (wx : World) : Prop where
  own : wx.ownsRow m0 134 6 v l.length (wnsV l)
  pc : PC wx B K
  wl : Wrote (fun k => k = B ∨ v0.ownBlock = some k ∨ wx0.heap.size ≤ k) wx0 wx
  ob : ∀ k, v.ownBlock = some k → v0.ownBlock = some k ∨ wx0.heap.size ≤ k
theorem WQ.more {m0 B K K' : Nat} {wx0 : World} {v0 v : Value} {l : List Wn} {wx : World} (h : WQ m0 B K wx0 v0 v l wx) (hk : K ≤ K') : WQ m0 B K' wx0 v0 v l wx := ⟨h.own, h.pc.mono hk, h.wl, h.ob⟩
theorem WQ.cur {m0 B K K' : Nat} {wx0 : World} {v0 v : Value} {l : List Wn} {wx wy : World} (h : WQ m0 B K wx0 v0 v l wx) (hB : B < m0) (hw : Wrote (fun k => k = B) wx wy) (hp : PC wy B K') : WQ m0 B K' wx0 v0 v l wy :=
  ⟨hw.own h.own (fun k hk e => by have := (h.own.lt k hk).1; omega), hp, h.wl.trans (hw.mono fun k _ hk => .inl hk), h.ob⟩
theorem WQ.alloc {m0 B K : Nat} {wx0 : World} {v0 v : Value} {l : List Wn} {wx : World} (h : WQ m0 B K wx0 v0 v l wx) (o : Obj) : WQ m0 B K wx0 v0 v l (wx.alloc o) :=
  ⟨h.own.alloc o, h.pc.later ((Below.refl _ _).alloc (Nat.le_refl _) o), h.wl.trans (Wrote.of_below ((Below.refl _ _).alloc (Nat.le_refl _) o)), h.ob⟩
theorem WQ.set {m0 B K : Nat} {wx0 : World} {v0 v : Value} {l : List Wn} {wx : World} (h : WQ m0 B K wx0 v0 v l wx) (X i : Nat) (u : Value) (hX : wx0.heap.size ≤ X) (hXB : B < X) (hv : ∀ k, v.ownBlock = some k → ¬ k = X) : WQ m0 B K wx0 v0 v l (wx.setCell ⟨X, i, none⟩ u) := by
  have w5 : Wrote (fun k => k = X) wx (wx.setCell ⟨X, i, none⟩ u) := wrote_cell _ _ _ _
  refine ⟨w5.own h.own (fun k hk e => hv k hk e), ?_, h.wl.trans (w5.mono fun k _ hk => .inr (.inr (by omega))), h.ob⟩
  exact pc_grown (n := X) h.pc hXB (row := some X) ⟨w5.os, w5.tape, w5.output, w5.size, fun k hk hs => w5.block k hk (fun e => hs (by rw [e]))⟩ (fun k hk => by simp only [Option.some.injEq] at hk; omega)
theorem WQ.grow {m0 B K g cp : Nat} {wx0 : World} {v0 v : Value} {l : List Wn} {wx wy : World} (h : WQ m0 B K wx0 v0 v l wx) (hB : B < m0) (f : Wn) (n : Nat) (hn : l.length = n)
    (ho : wy.ownsRow m0 134 6 (.slice (some ⟨g, 0, none⟩) (n + 1) cp) (n + 1) (wnsV l ++ [.int .i64 f.kind, .int .i64 f.no, .int .i64 f.num, .string f.text, .int .i64 f.a, .int .i64 f.b])) (hg : wx.grownBy wy v.ownBlock) (hH : v.ownBlock = some g ∨ g = wx.heap.size) :
    WQ m0 B K wx0 v0 (.slice (some ⟨g, 0, none⟩) (n + 1) cp) (l ++ [f]) wy :=
  ⟨own_wn hn ho, pc_grown h.pc hB hg (fun k hk => (h.own.lt k hk).1), h.wl.trans ((Wrote.of_grown hg).mono fun k _ hk => .inr (h.ob k hk)), fun k hk => by
    have e : g = k := by simpa [Value.ownBlock] using hk
    subst e
    rcases hH with hH | hH
    · exact h.ob _ hH
    · right; have := h.wl.size; omega⟩
theorem WQ.start {m0 B K : Nat} {wx0 : World} {v0 v : Value} {l : List Wn} {wx : World} (h : WQ m0 B K wx0 v0 v l wx) : WQ m0 B K wx v v l wx := ⟨h.own, h.pc, Wrote.refl _ _, fun k hk => .inl hk⟩
theorem WQ.sub {m0 B K K2 : Nat} {wx0 : World} {v0 v v2 : Value} {l l2 : List Wn} {wx wy : World} (h : WQ m0 B K wx0 v0 v l wx) (h2 : WQ m0 B K2 wx v v2 l2 wy) : WQ m0 B K2 wx0 v0 v2 l2 wy :=
  ⟨h2.own, h2.pc, h.wl.trans (h2.wl.mono fun k _ hk => by
    rcases hk with hk | hk | hk
    · exact .inl hk
    · exact .inr (h.ob k hk)
    · right; right; have := h.wl.size; omega), fun k hk => by
    rcases h2.ob k hk with hk | hk
    · exact h.ob k hk
    · right; have := h.wl.size; omega⟩
theorem bx_set {wx : World} {X i : Nat} {C : Array Value} {T : TypeId} (h : wx.heap[X]? = some (.cells C T)) (p : Value) : (wx.setCell ⟨X, i, none⟩ p).heap[X]? = some (.cells (C.setIfInBounds i p) T) := by simp [World.setCell, Array.getElem?_modify, h]
theorem box6f {wx : World} {X : Nat} {a b c d e f : Value} {T : TypeId} (h : wx.heap[X]? = some (.cells #[a, b, c, d, e, f] T)) : wx.frozen? ⟨X, 0, none⟩ = false ∧ wx.frozen? ⟨X, 1, none⟩ = false ∧ wx.frozen? ⟨X, 2, none⟩ = false ∧ wx.frozen? ⟨X, 3, none⟩ = false ∧ wx.frozen? ⟨X, 4, none⟩ = false ∧ wx.frozen? ⟨X, 5, none⟩ = false := by
  simp [World.frozen?, h]
def szW : Nat → Nat
  | 0 => 1
  | d + 1 => 1 + 2 * szW d
theorem szW_le {d : Nat} (h : d ≤ 3) : 1 ≤ szW d ∧ szW d ≤ 15 := by
  have : d = 0 ∨ d = 1 ∨ d = 2 ∨ d = 3 := by omega
  rcases this with rfl | rfl | rfl | rfl <;> decide
def litW : List ByteArray := [{ data := #[] }, { data := #[97] }, { data := #[115, 111, 109, 101] }, { data := #[120] }]
def WantsOf (m0 B K d : Nat) (v : Value) (l : List Wn) (wx : World) (e : Ending) (w' : World) : Prop :=
  ∃ v' r, e = .returned v' ∧ (1 ≤ r.length ∧ r.length ≤ szW d) ∧ WQ m0 B (K + 12 * szW d) wx v v' (l ++ r) w'
set_option maxHeartbeats 4000000 in
theorem cur_wants (m0 B : Nat) (hB : B < m0) : ∀ (d : Nat), d ≤ 3 → ∀ (K : Nat) (v : Value) (l : List Wn) (wx : World), K + 12 * szW d ≤ 700000000000 → l.length + szW d ≤ 100 → m0 ≤ wx.heap.size → WQ m0 B K wx v v l wx →
    Calls Try.prog 130 #[.pointer (some ⟨B, 0, none⟩), .int .i64 (d : Int), v] wx (WantsOf m0 B K d v l wx) := by
  intro d
  induction d with
  | zero =>
    intro _ K v l wx hK hl hm hq
    obtain ⟨i0, hi, hz0, hz1, hz2⟩ := info_parts Try.infoWant
    obtain ⟨va, vc, rfl⟩ := form_of_own hq.own
    have HQ0 := Lib.hid hq
    clear hq
    obtain ⟨n, hn⟩ : ∃ n, l.length = n := ⟨_, rfl⟩
    have HN := Lib.hid hn
    have hsz : szW 0 = 1 := rfl
    rw [hn] at hl HQ0 ⊢
    clear hn
    go_enter Try.func130, Try.ntmps130
    go_wp2_with fail
    refine (cur_pick B K 8 _ HQ0.out.pc (by omega) (by omega)).mono ?_
    rintro e w1 ⟨r1, rfl, hr1, hp, hw⟩
    have HQ1 := Lib.hid (HQ0.out.cur hB hw hp); clear hp hw
    have hr7 : r1 ≤ 7 := by omega
    clear hr1
    go_wp2_with fail
    refine (cur_pick B _ 5 _ HQ1.out.pc (by omega) (by omega)).mono ?_
    rintro e w2 ⟨r2, rfl, hr2, hp, hw⟩
    have HQ2 := Lib.hid (HQ1.out.cur hB hw hp); clear hp hw
    have hr4 : r2 ≤ 4 := by omega
    clear hr2
    obtain ⟨kd, hkd⟩ : ∃ kd : Int, 1 + (r2 : Int) = kd := ⟨_, rfl⟩
    have hk1 : 1 ≤ kd := by omega
    have hk5 : kd ≤ 5 := by omega
    have HA := Lib.hid (heap_alloc_new w2 (.cells #[.int .i64 kd, .int .i64 0, .int .i64 0, .string { data := #[] }, .int .i64 0, .int .i64 0] 134))
    have HQB := Lib.hid ((HQ2).out.alloc (.cells #[.int .i64 kd, .int .i64 0, .int .i64 0, .string { data := #[] }, .int .i64 0, .int .i64 0] 134))
    obtain ⟨X, hX⟩ : ∃ X, (w2).heap.size = X := ⟨_, rfl⟩
    have hBX : B < X := by have := (HQ2).out.wl.size; omega
    have hwX : wx.heap.size ≤ X := by have := (HQ2).out.wl.size; omega
    have HVX : Hid (∀ k, (Value.slice va n vc).ownBlock = some k → ¬ k = X) := Lib.hid (fun k hk => by have := ((HQ2).out.own.lt k hk).2; omega)
    have hXB : ¬ X = B := by omega
    go_wp2_with fail
    rw [hX] at HA
    generalize (w2).alloc (.cells #[.int .i64 kd, .int .i64 0, .int .i64 0, .string { data := #[] }, .int .i64 0, .int .i64 0] 134) = wb at *
    clear hX
    refine (cur_pick B _ 6 _ HQB.out.pc (by omega) (by omega)).mono ?_
    rintro e wc ⟨r3, rfl, hr3, hp, hw⟩
    have HQC := Lib.hid (HQB.out.cur hB hw hp)
    have HXC := Lib.hid (hw.heap HA.out hXB)
    clear hp hw HA
    have hr5 : r3 ≤ 5 := by omega
    clear hr3
    obtain ⟨-, e1, -, -, -, -⟩ := box6 HXC.out
    obtain ⟨-, f1, -, -, -, -⟩ := box6f HXC.out
    have HQD := Lib.hid (HQC.out.set X 1 (.int .i64 (1 + (r3 : Int))) hwX hBX HVX.out)
    have HXD : Hid ((wc.setCell ⟨X, 1, none⟩ (.int .i64 (1 + (r3 : Int)))).heap[X]? = some (.cells #[.int .i64 kd, .int .i64 (1 + (r3 : Int)), .int .i64 0, .string { data := #[] }, .int .i64 0, .int .i64 0] 134)) := Lib.hid (bx_set HXC.out _)
    generalize hwd : wc.setCell ⟨X, 1, none⟩ (.int .i64 (1 + (r3 : Int))) = wd at *
    by_cases h3 : kd ≤ 3
    · have h5 := kind_eq (show ¬ kd = 5 by omega)
      go_wp2_with fail
      clear hwd e1 f1
      refine (cur_pick B _ 12 _ HQD.out.pc (by omega) (by omega)).mono ?_
      rintro e we ⟨r4, rfl, hr4, hp, hw⟩
      have HQE := Lib.hid (HQD.out.cur hB hw hp)
      have HXE := Lib.hid (hw.heap HXD.out hXB)
      clear hp hw
      have hr11 : r4 ≤ 11 := by omega
      clear hr4
      obtain ⟨-, -, e2, -, -, -⟩ := box6 HXE.out
      obtain ⟨-, -, f2, -, -, -⟩ := box6f HXE.out
      have HQF := Lib.hid (HQE.out.set X 2 (.int .i64 ((r4 : Int) - 4)) hwX hBX HVX.out)
      have HXF : Hid ((we.setCell ⟨X, 2, none⟩ (.int .i64 ((r4 : Int) - 4))).heap[X]? = some (.cells #[.int .i64 kd, .int .i64 (1 + (r3 : Int)), .int .i64 ((r4 : Int) - 4), .string { data := #[] }, .int .i64 0, .int .i64 0] 134)) := Lib.hid (bx_set HXE.out _)
      generalize hwf : we.setCell ⟨X, 2, none⟩ (.int .i64 ((r4 : Int) - 4)) = wf at *
      have hXz : X < wf.heap.size := heap_lt HXF.out
      have HNW := Lib.hid (World.news_of_block (cs := #[.int .i64 (kd), .int .i64 (1 + (r3 : Int)), .int .i64 ((r4 : Int) - 4), .string ({ data := #[] }), .int .i64 (0), .int .i64 (0)]) (t := 134) (fr := (0, 0)) (heap_alloc_new wf (.cells #[.int .i64 (kd), .int .i64 (1 + (r3 : Int)), .int .i64 ((r4 : Int) - 4), .string ({ data := #[] }), .int .i64 (0), .int .i64 (0)] 134)))
      have HQA := Lib.hid ((HQF).out.alloc (.cells #[.int .i64 (kd), .int .i64 (1 + (r3 : Int)), .int .i64 ((r4 : Int) - 4), .string ({ data := #[] }), .int .i64 (0), .int .i64 (0)] 134))
      have HMZ : Hid (m0 ≤ (wf).heap.size) := Lib.hid (by have := (HQF).out.wl.size; omega)
      obtain ⟨e0, e1, e2, e3, e4, e5⟩ := box6 (HXF).out
      obtain ⟨n9, hn9⟩ : ∃ n9, (l).length = n9 := ⟨_, rfl⟩
      have hn40 : n9 ≤ 100 := by rw [← hn9]; have := HN.out; omega
      have HN9 := Lib.hid hn9
      have HO9 := Lib.hid HQA.out.own
      rw [hn9] at HO9
      clear hn9
      go_wp2_with (at_builtin; refine wpList_append_lies _ rfl _ _ 59 rfl m0 134 i0 (.agg #[.int .i64 0, .int .i64 0, .int .i64 0, .string ByteArray.empty, .int .i64 0, .int .i64 0]) 6 56 Try.underlying59 hi hz0 hz1 hz2 rfl (by decide) _ n9 (wnsV (l)) rfl HO9.out _ 1 1 [.int .i64 (kd), .int .i64 (1 + (r3 : Int)), .int .i64 ((r4 : Int) - 4), .string ({ data := #[] }), .int .i64 (0), .int .i64 (0)] rfl rfl HNW.out (by simp [Value.oneCell']) (by omega) (by unfold maxLen; omega) (by omega) (Nat.le_trans HMZ.out (by simp)) _ rfl ?_)
      intro g9 c9 w9 hown hgrow hH hlt
      have HQ9 := Lib.hid (HQA.out.grow hB (⟨kd, 1 + (r3 : Int), (r4 : Int) - 4, { data := #[] }, 0, 0⟩ : Wn) n9 HN9.out hown hgrow (by rw [World.size_alloc]; exact hH))
      clear hown hgrow hH hlt HNW HO9 e0 e1 e2 e3 e4 e5
      go_wp2_with fail
      go_ret
      refine ⟨_, [⟨kd, 1 + (r3 : Int), (r4 : Int) - 4, { data := #[] }, 0, 0⟩], rfl, ⟨by simp; try omega, by simp; omega⟩, ?_⟩
      have h := HQ9.out
      rw [show (l) ++ [(⟨kd, 1 + (r3 : Int), (r4 : Int) - 4, { data := #[] }, 0, 0⟩ : Wn)] = l ++ ([⟨kd, 1 + (r3 : Int), (r4 : Int) - 4, { data := #[] }, 0, 0⟩]) by simp] at h
      exact h.more (by omega)
    · by_cases h4 : kd = 5
      · subst h4
        have HBL := Lib.hid ((Below.refl wd.heap.size wd).alloc (Nat.le_refl _) (.cells (litW.map Value.string).toArray 9))
        have HOF := Lib.hid (cur_of B _ litW wd.heap.size 0 4 _ (HQD.out.pc.later HBL.out) (by omega) (by decide) (by decide) (by decide) (by decide) (by have := HQD.out.pc.lt; omega) (lit_cells wd _ _))
        have HQE := Lib.hid (HQD.out.alloc (.cells (litW.map Value.string).toArray 9))
        have HXE := Lib.hid (heap_later HBL.out HXD.out)
        simp only [litW, List.map_cons, List.map_nil] at HOF HQE HXE
        clear HBL
        go_wp2_with fail
        clear hwd e1 f1
        refine HOF.out.mono ?_
        rintro e we ⟨y, hy, rfl, hp, hw⟩
        have HQF := Lib.hid (HQE.out.cur hB hw hp)
        have HXF := Lib.hid (hw.heap HXE.out hXB)
        clear hp hw hy HOF HXE HQE
        obtain ⟨-, -, -, e3, -, -⟩ := box6 HXF.out
        obtain ⟨-, -, -, f3, -, -⟩ := box6f HXF.out
        have HQG := Lib.hid (HQF.out.set X 3 (.string y) hwX hBX HVX.out)
        have HXG : Hid ((we.setCell ⟨X, 3, none⟩ (.string y)).heap[X]? = some (.cells #[.int .i64 5, .int .i64 (1 + (r3 : Int)), .int .i64 0, .string y, .int .i64 0, .int .i64 0] 134)) := Lib.hid (bx_set HXF.out _)
        generalize hwf : we.setCell ⟨X, 3, none⟩ (.string y) = wf at *
        have hXz : X < wf.heap.size := heap_lt HXG.out
        have HNW := Lib.hid (World.news_of_block (cs := #[.int .i64 (5), .int .i64 (1 + (r3 : Int)), .int .i64 (0), .string (y), .int .i64 (0), .int .i64 (0)]) (t := 134) (fr := (0, 0)) (heap_alloc_new wf (.cells #[.int .i64 (5), .int .i64 (1 + (r3 : Int)), .int .i64 (0), .string (y), .int .i64 (0), .int .i64 (0)] 134)))
        have HQA := Lib.hid ((HQG).out.alloc (.cells #[.int .i64 (5), .int .i64 (1 + (r3 : Int)), .int .i64 (0), .string (y), .int .i64 (0), .int .i64 (0)] 134))
        have HMZ : Hid (m0 ≤ (wf).heap.size) := Lib.hid (by have := (HQG).out.wl.size; omega)
        obtain ⟨e0, e1, e2, e3, e4, e5⟩ := box6 (HXG).out
        obtain ⟨n9, hn9⟩ : ∃ n9, (l).length = n9 := ⟨_, rfl⟩
        have hn40 : n9 ≤ 100 := by rw [← hn9]; have := HN.out; omega
        have HN9 := Lib.hid hn9
        have HO9 := Lib.hid HQA.out.own
        rw [hn9] at HO9
        clear hn9
        go_wp2_with (at_builtin; refine wpList_append_lies _ rfl _ _ 59 rfl m0 134 i0 (.agg #[.int .i64 0, .int .i64 0, .int .i64 0, .string ByteArray.empty, .int .i64 0, .int .i64 0]) 6 56 Try.underlying59 hi hz0 hz1 hz2 rfl (by decide) _ n9 (wnsV (l)) rfl HO9.out _ 1 1 [.int .i64 (5), .int .i64 (1 + (r3 : Int)), .int .i64 (0), .string (y), .int .i64 (0), .int .i64 (0)] rfl rfl HNW.out (by simp [Value.oneCell']) (by omega) (by unfold maxLen; omega) (by omega) (Nat.le_trans HMZ.out (by simp)) _ rfl ?_)
        intro g9 c9 w9 hown hgrow hH hlt
        have HQ9 := Lib.hid (HQA.out.grow hB (⟨5, 1 + (r3 : Int), 0, y, 0, 0⟩ : Wn) n9 HN9.out hown hgrow (by rw [World.size_alloc]; exact hH))
        clear hown hgrow hH hlt HNW HO9 e0 e1 e2 e3 e4 e5
        go_wp2_with fail
        go_ret
        refine ⟨_, [⟨5, 1 + (r3 : Int), 0, y, 0, 0⟩], rfl, ⟨by simp; try omega, by simp; omega⟩, ?_⟩
        have h := HQ9.out
        rw [show (l) ++ [(⟨5, 1 + (r3 : Int), 0, y, 0, 0⟩ : Wn)] = l ++ ([⟨5, 1 + (r3 : Int), 0, y, 0, 0⟩]) by simp] at h
        exact h.more (by omega)
      · have h5 := kind_eq h4
        have hXz : X < wd.heap.size := heap_lt HXD.out
        clear h4
        have HNW := Lib.hid (World.news_of_block (cs := #[.int .i64 (kd), .int .i64 (1 + (r3 : Int)), .int .i64 (0), .string ({ data := #[] }), .int .i64 (0), .int .i64 (0)]) (t := 134) (fr := (0, 0)) (heap_alloc_new wd (.cells #[.int .i64 (kd), .int .i64 (1 + (r3 : Int)), .int .i64 (0), .string ({ data := #[] }), .int .i64 (0), .int .i64 (0)] 134)))
        have HQA := Lib.hid ((HQD).out.alloc (.cells #[.int .i64 (kd), .int .i64 (1 + (r3 : Int)), .int .i64 (0), .string ({ data := #[] }), .int .i64 (0), .int .i64 (0)] 134))
        have HMZ : Hid (m0 ≤ (wd).heap.size) := Lib.hid (by have := (HQD).out.wl.size; omega)
        obtain ⟨e0, e1, e2, e3, e4, e5⟩ := box6 (HXD).out
        obtain ⟨n9, hn9⟩ : ∃ n9, (l).length = n9 := ⟨_, rfl⟩
        have hn40 : n9 ≤ 100 := by rw [← hn9]; have := HN.out; omega
        have HN9 := Lib.hid hn9
        have HO9 := Lib.hid HQA.out.own
        rw [hn9] at HO9
        clear hn9
        go_wp2_with (at_builtin; refine wpList_append_lies _ rfl _ _ 59 rfl m0 134 i0 (.agg #[.int .i64 0, .int .i64 0, .int .i64 0, .string ByteArray.empty, .int .i64 0, .int .i64 0]) 6 56 Try.underlying59 hi hz0 hz1 hz2 rfl (by decide) _ n9 (wnsV (l)) rfl HO9.out _ 1 1 [.int .i64 (kd), .int .i64 (1 + (r3 : Int)), .int .i64 (0), .string ({ data := #[] }), .int .i64 (0), .int .i64 (0)] rfl rfl HNW.out (by simp [Value.oneCell']) (by omega) (by unfold maxLen; omega) (by omega) (Nat.le_trans HMZ.out (by simp)) _ rfl ?_)
        intro g9 c9 w9 hown hgrow hH hlt
        have HQ9 := Lib.hid (HQA.out.grow hB (⟨kd, 1 + (r3 : Int), 0, { data := #[] }, 0, 0⟩ : Wn) n9 HN9.out hown hgrow (by rw [World.size_alloc]; exact hH))
        clear hown hgrow hH hlt HNW HO9 e0 e1 e2 e3 e4 e5
        go_wp2_with fail
        go_ret
        refine ⟨_, [⟨kd, 1 + (r3 : Int), 0, { data := #[] }, 0, 0⟩], rfl, ⟨by simp; try omega, by simp; omega⟩, ?_⟩
        have h := HQ9.out
        rw [show (l) ++ [(⟨kd, 1 + (r3 : Int), 0, { data := #[] }, 0, 0⟩ : Wn)] = l ++ ([⟨kd, 1 + (r3 : Int), 0, { data := #[] }, 0, 0⟩]) by simp] at h
        exact h.more (by omega)
  | succ d ih =>
    intro hd3 K v l wx hK hl hm hq
    have IH := Lib.hid (ih (by omega))
    clear ih
    obtain ⟨i0, hi, hz0, hz1, hz2⟩ := info_parts Try.infoWant
    obtain ⟨va, vc, rfl⟩ := form_of_own hq.own
    have HQ0 := Lib.hid hq
    clear hq
    have hsz2 := szW_le (d := d) (by omega)
    have HSZ : Hid (szW (d + 1) = 1 + 2 * szW d) := Lib.hid rfl
    obtain ⟨z, hz⟩ : ∃ z, szW d = z := ⟨_, rfl⟩
    obtain ⟨z2, hz2'⟩ : ∃ z2, szW (d + 1) = z2 := ⟨_, rfl⟩
    unfold WantsOf
    unfold WantsOf at IH
    rw [hz2'] at hl hK ⊢
    rw [hz, hz2'] at HSZ
    rw [hz] at IH hsz2
    have hsz : z2 = 1 + 2 * z := HSZ.out
    clear HSZ hz hz2'
    obtain ⟨n, hn⟩ : ∃ n, l.length = n := ⟨_, rfl⟩
    have HN := Lib.hid hn
    rw [hn] at hl HQ0 ⊢
    clear hn
    obtain ⟨D, hD⟩ : ∃ D : Int, ((d + 1 : Nat) : Int) = D := ⟨_, rfl⟩
    rw [hD]
    have hD1 : 1 ≤ D := by omega
    have hD3 : D ≤ 4 := by omega
    have hDd : D - 1 = (d : Int) := by omega
    clear hD hd3
    have hz1' : 1 ≤ z2 := by omega
    have HZZ := Lib.hid hsz
    clear hsz
    go_enter Try.func130, Try.ntmps130
    go_wp2_with fail
    refine (cur_pick B K 8 _ HQ0.out.pc (by omega) (by omega)).mono ?_
    rintro e w1 ⟨r1, rfl, hr1, hp, hw⟩
    have HQ1 := Lib.hid (HQ0.out.cur hB hw hp); clear hp hw
    have hr7 : r1 ≤ 7 := by omega
    clear hr1
    obtain ⟨kd, hkd⟩ : ∃ kd : Int, 1 + (r1 : Int) = kd := ⟨_, rfl⟩
    have hk1 : 1 ≤ kd := by omega
    have hk8 : kd ≤ 8 := by omega
    by_cases hk5 : kd ≤ 5
    · have hsz := Lib.hid HZZ.out
      have HA := Lib.hid (heap_alloc_new w1 (.cells #[.int .i64 kd, .int .i64 0, .int .i64 0, .string { data := #[] }, .int .i64 0, .int .i64 0] 134))
      have HQB := Lib.hid ((HQ1).out.alloc (.cells #[.int .i64 kd, .int .i64 0, .int .i64 0, .string { data := #[] }, .int .i64 0, .int .i64 0] 134))
      obtain ⟨X, hX⟩ : ∃ X, (w1).heap.size = X := ⟨_, rfl⟩
      have hBX : B < X := by have := (HQ1).out.wl.size; omega
      have hwX : wx.heap.size ≤ X := by have := (HQ1).out.wl.size; omega
      have HVX : Hid (∀ k, (Value.slice va n vc).ownBlock = some k → ¬ k = X) := Lib.hid (fun k hk => by have := ((HQ1).out.own.lt k hk).2; omega)
      have hXB : ¬ X = B := by omega
      go_wp2_with fail
      rw [hX] at HA
      generalize (w1).alloc (.cells #[.int .i64 kd, .int .i64 0, .int .i64 0, .string { data := #[] }, .int .i64 0, .int .i64 0] 134) = wb at *
      clear hX
      refine (cur_pick B _ 6 _ HQB.out.pc (by omega) (by omega)).mono ?_
      rintro e wc ⟨r3, rfl, hr3, hp, hw⟩
      have HQC := Lib.hid (HQB.out.cur hB hw hp)
      have HXC := Lib.hid (hw.heap HA.out hXB)
      clear hp hw HA
      have hr5 : r3 ≤ 5 := by omega
      clear hr3
      obtain ⟨-, e1, -, -, -, -⟩ := box6 HXC.out
      obtain ⟨-, f1, -, -, -, -⟩ := box6f HXC.out
      have HQD := Lib.hid (HQC.out.set X 1 (.int .i64 (1 + (r3 : Int))) hwX hBX HVX.out)
      have HXD : Hid ((wc.setCell ⟨X, 1, none⟩ (.int .i64 (1 + (r3 : Int)))).heap[X]? = some (.cells #[.int .i64 kd, .int .i64 (1 + (r3 : Int)), .int .i64 0, .string { data := #[] }, .int .i64 0, .int .i64 0] 134)) := Lib.hid (bx_set HXC.out _)
      generalize hwd : wc.setCell ⟨X, 1, none⟩ (.int .i64 (1 + (r3 : Int))) = wd at *
      by_cases h3 : kd ≤ 3
      · have h5 := kind_eq (show ¬ kd = 5 by omega)
        go_wp2_with fail
        clear hwd e1 f1
        refine (cur_pick B _ 12 _ HQD.out.pc (by omega) (by omega)).mono ?_
        rintro e we ⟨r4, rfl, hr4, hp, hw⟩
        have HQE := Lib.hid (HQD.out.cur hB hw hp)
        have HXE := Lib.hid (hw.heap HXD.out hXB)
        clear hp hw
        have hr11 : r4 ≤ 11 := by omega
        clear hr4
        obtain ⟨-, -, e2, -, -, -⟩ := box6 HXE.out
        obtain ⟨-, -, f2, -, -, -⟩ := box6f HXE.out
        have HQF := Lib.hid (HQE.out.set X 2 (.int .i64 ((r4 : Int) - 4)) hwX hBX HVX.out)
        have HXF : Hid ((we.setCell ⟨X, 2, none⟩ (.int .i64 ((r4 : Int) - 4))).heap[X]? = some (.cells #[.int .i64 kd, .int .i64 (1 + (r3 : Int)), .int .i64 ((r4 : Int) - 4), .string { data := #[] }, .int .i64 0, .int .i64 0] 134)) := Lib.hid (bx_set HXE.out _)
        generalize hwf : we.setCell ⟨X, 2, none⟩ (.int .i64 ((r4 : Int) - 4)) = wf at *
        have hXz : X < wf.heap.size := heap_lt HXF.out
        have HNW := Lib.hid (World.news_of_block (cs := #[.int .i64 (kd), .int .i64 (1 + (r3 : Int)), .int .i64 ((r4 : Int) - 4), .string ({ data := #[] }), .int .i64 (0), .int .i64 (0)]) (t := 134) (fr := (0, 0)) (heap_alloc_new wf (.cells #[.int .i64 (kd), .int .i64 (1 + (r3 : Int)), .int .i64 ((r4 : Int) - 4), .string ({ data := #[] }), .int .i64 (0), .int .i64 (0)] 134)))
        have HQA := Lib.hid ((HQF).out.alloc (.cells #[.int .i64 (kd), .int .i64 (1 + (r3 : Int)), .int .i64 ((r4 : Int) - 4), .string ({ data := #[] }), .int .i64 (0), .int .i64 (0)] 134))
        have HMZ : Hid (m0 ≤ (wf).heap.size) := Lib.hid (by have := (HQF).out.wl.size; omega)
        obtain ⟨e0, e1, e2, e3, e4, e5⟩ := box6 (HXF).out
        obtain ⟨n9, hn9⟩ : ∃ n9, (l).length = n9 := ⟨_, rfl⟩
        have hn40 : n9 ≤ 100 := by rw [← hn9]; have := HN.out; omega
        have HN9 := Lib.hid hn9
        have HO9 := Lib.hid HQA.out.own
        rw [hn9] at HO9
        clear hn9
        go_wp2_with (at_builtin; refine wpList_append_lies _ rfl _ _ 59 rfl m0 134 i0 (.agg #[.int .i64 0, .int .i64 0, .int .i64 0, .string ByteArray.empty, .int .i64 0, .int .i64 0]) 6 56 Try.underlying59 hi hz0 hz1 hz2 rfl (by decide) _ n9 (wnsV (l)) rfl HO9.out _ 1 1 [.int .i64 (kd), .int .i64 (1 + (r3 : Int)), .int .i64 ((r4 : Int) - 4), .string ({ data := #[] }), .int .i64 (0), .int .i64 (0)] rfl rfl HNW.out (by simp [Value.oneCell']) (by omega) (by unfold maxLen; omega) (by omega) (Nat.le_trans HMZ.out (by simp)) _ rfl ?_)
        intro g9 c9 w9 hown hgrow hH hlt
        have HQ9 := Lib.hid (HQA.out.grow hB (⟨kd, 1 + (r3 : Int), (r4 : Int) - 4, { data := #[] }, 0, 0⟩ : Wn) n9 HN9.out hown hgrow (by rw [World.size_alloc]; exact hH))
        clear hown hgrow hH hlt HNW HO9 e0 e1 e2 e3 e4 e5
        go_wp2_with fail
        go_ret
        refine ⟨_, [⟨kd, 1 + (r3 : Int), (r4 : Int) - 4, { data := #[] }, 0, 0⟩], rfl, ⟨by simp; try omega, by simp; omega⟩, ?_⟩
        have h := HQ9.out
        rw [show (l) ++ [(⟨kd, 1 + (r3 : Int), (r4 : Int) - 4, { data := #[] }, 0, 0⟩ : Wn)] = l ++ ([⟨kd, 1 + (r3 : Int), (r4 : Int) - 4, { data := #[] }, 0, 0⟩]) by simp] at h
        exact h.more (by omega)
      · by_cases h4 : kd = 5
        · subst h4
          have HBL := Lib.hid ((Below.refl wd.heap.size wd).alloc (Nat.le_refl _) (.cells (litW.map Value.string).toArray 9))
          have HOF := Lib.hid (cur_of B _ litW wd.heap.size 0 4 _ (HQD.out.pc.later HBL.out) (by omega) (by decide) (by decide) (by decide) (by decide) (by have := HQD.out.pc.lt; omega) (lit_cells wd _ _))
          have HQE := Lib.hid (HQD.out.alloc (.cells (litW.map Value.string).toArray 9))
          have HXE := Lib.hid (heap_later HBL.out HXD.out)
          simp only [litW, List.map_cons, List.map_nil] at HOF HQE HXE
          clear HBL
          go_wp2_with fail
          clear hwd e1 f1
          refine HOF.out.mono ?_
          rintro e we ⟨y, hy, rfl, hp, hw⟩
          have HQF := Lib.hid (HQE.out.cur hB hw hp)
          have HXF := Lib.hid (hw.heap HXE.out hXB)
          clear hp hw hy HOF HXE HQE
          obtain ⟨-, -, -, e3, -, -⟩ := box6 HXF.out
          obtain ⟨-, -, -, f3, -, -⟩ := box6f HXF.out
          have HQG := Lib.hid (HQF.out.set X 3 (.string y) hwX hBX HVX.out)
          have HXG : Hid ((we.setCell ⟨X, 3, none⟩ (.string y)).heap[X]? = some (.cells #[.int .i64 5, .int .i64 (1 + (r3 : Int)), .int .i64 0, .string y, .int .i64 0, .int .i64 0] 134)) := Lib.hid (bx_set HXF.out _)
          generalize hwf : we.setCell ⟨X, 3, none⟩ (.string y) = wf at *
          have hXz : X < wf.heap.size := heap_lt HXG.out
          have HNW := Lib.hid (World.news_of_block (cs := #[.int .i64 (5), .int .i64 (1 + (r3 : Int)), .int .i64 (0), .string (y), .int .i64 (0), .int .i64 (0)]) (t := 134) (fr := (0, 0)) (heap_alloc_new wf (.cells #[.int .i64 (5), .int .i64 (1 + (r3 : Int)), .int .i64 (0), .string (y), .int .i64 (0), .int .i64 (0)] 134)))
          have HQA := Lib.hid ((HQG).out.alloc (.cells #[.int .i64 (5), .int .i64 (1 + (r3 : Int)), .int .i64 (0), .string (y), .int .i64 (0), .int .i64 (0)] 134))
          have HMZ : Hid (m0 ≤ (wf).heap.size) := Lib.hid (by have := (HQG).out.wl.size; omega)
          obtain ⟨e0, e1, e2, e3, e4, e5⟩ := box6 (HXG).out
          obtain ⟨n9, hn9⟩ : ∃ n9, (l).length = n9 := ⟨_, rfl⟩
          have hn40 : n9 ≤ 100 := by rw [← hn9]; have := HN.out; omega
          have HN9 := Lib.hid hn9
          have HO9 := Lib.hid HQA.out.own
          rw [hn9] at HO9
          clear hn9
          go_wp2_with (at_builtin; refine wpList_append_lies _ rfl _ _ 59 rfl m0 134 i0 (.agg #[.int .i64 0, .int .i64 0, .int .i64 0, .string ByteArray.empty, .int .i64 0, .int .i64 0]) 6 56 Try.underlying59 hi hz0 hz1 hz2 rfl (by decide) _ n9 (wnsV (l)) rfl HO9.out _ 1 1 [.int .i64 (5), .int .i64 (1 + (r3 : Int)), .int .i64 (0), .string (y), .int .i64 (0), .int .i64 (0)] rfl rfl HNW.out (by simp [Value.oneCell']) (by omega) (by unfold maxLen; omega) (by omega) (Nat.le_trans HMZ.out (by simp)) _ rfl ?_)
          intro g9 c9 w9 hown hgrow hH hlt
          have HQ9 := Lib.hid (HQA.out.grow hB (⟨5, 1 + (r3 : Int), 0, y, 0, 0⟩ : Wn) n9 HN9.out hown hgrow (by rw [World.size_alloc]; exact hH))
          clear hown hgrow hH hlt HNW HO9 e0 e1 e2 e3 e4 e5
          go_wp2_with fail
          go_ret
          refine ⟨_, [⟨5, 1 + (r3 : Int), 0, y, 0, 0⟩], rfl, ⟨by simp; try omega, by simp; omega⟩, ?_⟩
          have h := HQ9.out
          rw [show (l) ++ [(⟨5, 1 + (r3 : Int), 0, y, 0, 0⟩ : Wn)] = l ++ ([⟨5, 1 + (r3 : Int), 0, y, 0, 0⟩]) by simp] at h
          exact h.more (by omega)
        · have h5 := kind_eq h4
          have hXz : X < wd.heap.size := heap_lt HXD.out
          clear h4
          have HNW := Lib.hid (World.news_of_block (cs := #[.int .i64 (kd), .int .i64 (1 + (r3 : Int)), .int .i64 (0), .string ({ data := #[] }), .int .i64 (0), .int .i64 (0)]) (t := 134) (fr := (0, 0)) (heap_alloc_new wd (.cells #[.int .i64 (kd), .int .i64 (1 + (r3 : Int)), .int .i64 (0), .string ({ data := #[] }), .int .i64 (0), .int .i64 (0)] 134)))
          have HQA := Lib.hid ((HQD).out.alloc (.cells #[.int .i64 (kd), .int .i64 (1 + (r3 : Int)), .int .i64 (0), .string ({ data := #[] }), .int .i64 (0), .int .i64 (0)] 134))
          have HMZ : Hid (m0 ≤ (wd).heap.size) := Lib.hid (by have := (HQD).out.wl.size; omega)
          obtain ⟨e0, e1, e2, e3, e4, e5⟩ := box6 (HXD).out
          obtain ⟨n9, hn9⟩ : ∃ n9, (l).length = n9 := ⟨_, rfl⟩
          have hn40 : n9 ≤ 100 := by rw [← hn9]; have := HN.out; omega
          have HN9 := Lib.hid hn9
          have HO9 := Lib.hid HQA.out.own
          rw [hn9] at HO9
          clear hn9
          go_wp2_with (at_builtin; refine wpList_append_lies _ rfl _ _ 59 rfl m0 134 i0 (.agg #[.int .i64 0, .int .i64 0, .int .i64 0, .string ByteArray.empty, .int .i64 0, .int .i64 0]) 6 56 Try.underlying59 hi hz0 hz1 hz2 rfl (by decide) _ n9 (wnsV (l)) rfl HO9.out _ 1 1 [.int .i64 (kd), .int .i64 (1 + (r3 : Int)), .int .i64 (0), .string ({ data := #[] }), .int .i64 (0), .int .i64 (0)] rfl rfl HNW.out (by simp [Value.oneCell']) (by omega) (by unfold maxLen; omega) (by omega) (Nat.le_trans HMZ.out (by simp)) _ rfl ?_)
          intro g9 c9 w9 hown hgrow hH hlt
          have HQ9 := Lib.hid (HQA.out.grow hB (⟨kd, 1 + (r3 : Int), 0, { data := #[] }, 0, 0⟩ : Wn) n9 HN9.out hown hgrow (by rw [World.size_alloc]; exact hH))
          clear hown hgrow hH hlt HNW HO9 e0 e1 e2 e3 e4 e5
          go_wp2_with fail
          go_ret
          refine ⟨_, [⟨kd, 1 + (r3 : Int), 0, { data := #[] }, 0, 0⟩], rfl, ⟨by simp; try omega, by simp; omega⟩, ?_⟩
          have h := HQ9.out
          rw [show (l) ++ [(⟨kd, 1 + (r3 : Int), 0, { data := #[] }, 0, 0⟩ : Wn)] = l ++ ([⟨kd, 1 + (r3 : Int), 0, { data := #[] }, 0, 0⟩]) by simp] at h
          exact h.more (by omega)
    have HA := Lib.hid (heap_alloc_new w1 (.cells #[.int .i64 kd, .int .i64 0, .int .i64 0, .string { data := #[] }, .int .i64 0, .int .i64 0] 134))
    have HQB := Lib.hid (HQ1.out.alloc (.cells #[.int .i64 kd, .int .i64 0, .int .i64 0, .string { data := #[] }, .int .i64 0, .int .i64 0] 134))
    have HSB : Hid (w1.heap.size < (w1.alloc (.cells #[.int .i64 kd, .int .i64 0, .int .i64 0, .string { data := #[] }, .int .i64 0, .int .i64 0] 134)).heap.size) := Lib.hid (by simp)
    obtain ⟨X, hX⟩ : ∃ X, w1.heap.size = X := ⟨_, rfl⟩
    have hBX : B < X := by have := HQ1.out.wl.size; omega
    have hwX : wx.heap.size ≤ X := by have := HQ1.out.wl.size; omega
    have HVX : Hid (∀ k, (Value.slice va n vc).ownBlock = some k → ¬ k = X) := Lib.hid (fun k hk => by have := (HQ1.out.own.lt k hk).2; omega)
    have hXB : ¬ X = B := by omega
    by_cases h8 : kd = 8
    · subst h8
      go_wp2_with fail
      rw [hX] at HA HSB
      generalize w1.alloc (.cells #[.int .i64 8, .int .i64 0, .int .i64 0, .string { data := #[] }, .int .i64 0, .int .i64 0] 134) = wb at *
      clear hX
      refine (IH.out _ _ (l) wb (by have := HZZ.out; omega) (by have := HZZ.out; first | (have := HN.out; omega) | (have := HN.out; have := hr.out; simp only [List.length_append] at *; omega)) (by have := (HQB).out.wl.size; omega) (HQB).out.start).mono ?_
      rintro e wc ⟨v2, r, rfl, hrr, hq2⟩
      have hr := Lib.hid hrr
      have HQC := Lib.hid ((HQB).out.sub hq2)
      have HXC := Lib.hid (hq2.wl.heap (HA).out (by rintro (h | h | h); exact hXB h; exact (HVX).out _ h rfl; have := (HSB).out; omega))
      obtain ⟨n2, hnn⟩ : ∃ q, ((l) ++ r).length = q := ⟨_, rfl⟩
      obtain ⟨qa, qc, rfl⟩ := form_of_own hq2.own
      have HVC := Lib.hid (fun k hk => show ¬ k = X from (by rcases hq2.ob k hk with h | h; exact (HVX).out k h; have := (HSB).out; omega))
      have HSC : Hid (X < (wc).heap.size) := Lib.hid (heap_lt (HXC).out)
      have HLC := Lib.hid hnn
      rw [hnn] at HQC HVC ⊢
      have hn50 : n2 ≤ 100 := by rw [← hnn, List.length_append]; have := HZZ.out; first | (have := HN.out; omega) | (have := HN.out; have := hr.out; simp only [List.length_append] at *; omega)
      have hn51 : 1 ≤ n2 := by rw [← hnn, List.length_append]; omega
      clear hq2 hrr hnn
      have hnw : IntKind.i64.wrap ((n2 : Int) - 1) = (n2 : Int) - 1 := IntWalk.i64_in _ (by omega)
      obtain ⟨-, -, -, -, e4, e5⟩ := box6 (HXC).out
      obtain ⟨-, -, -, -, f4, f5⟩ := box6f (HXC).out
      have HQD := Lib.hid ((HQC).out.set X 4 (.int .i64 ((n2 : Int) - 1)) hwX hBX (HVC).out)
      have HXD : Hid (((wc).setCell ⟨X, 4, none⟩ (.int .i64 ((n2 : Int) - 1))).heap[X]? = some (.cells #[.int .i64 8, .int .i64 0, .int .i64 0, .string { data := #[] }, .int .i64 ((n2 : Int) - 1), .int .i64 0] 134)) := Lib.hid (bx_set (HXC).out _)
      generalize hA4 : (wc).setCell ⟨X, 4, none⟩ (.int .i64 ((n2 : Int) - 1)) = wd at *
      have hXz : X < wd.heap.size := heap_lt HXD.out
      have hsz := HZZ.out
      have hrr := hr.out
      have HNW := Lib.hid (World.news_of_block (cs := #[.int .i64 (8), .int .i64 (0), .int .i64 (0), .string ({ data := #[] }), .int .i64 ((n2 : Int) - 1), .int .i64 (0)]) (t := 134) (fr := (0, 0)) (heap_alloc_new wd (.cells #[.int .i64 (8), .int .i64 (0), .int .i64 (0), .string ({ data := #[] }), .int .i64 ((n2 : Int) - 1), .int .i64 (0)] 134)))
      have HQA := Lib.hid ((HQD).out.alloc (.cells #[.int .i64 (8), .int .i64 (0), .int .i64 (0), .string ({ data := #[] }), .int .i64 ((n2 : Int) - 1), .int .i64 (0)] 134))
      have HMZ : Hid (m0 ≤ (wd).heap.size) := Lib.hid (by have := (HQD).out.wl.size; omega)
      obtain ⟨e0, e1, e2, e3, e4, e5⟩ := box6 (HXD).out
      obtain ⟨n9, hn9⟩ : ∃ n9, (l ++ r).length = n9 := ⟨_, rfl⟩
      have hn40 : n9 ≤ 100 := by rw [← hn9]; have := HLC.out; omega
      have HN9 := Lib.hid hn9
      have HO9 := Lib.hid HQA.out.own
      rw [hn9] at HO9
      clear hn9
      go_wp2_with (at_builtin; refine wpList_append_lies _ rfl _ _ 59 rfl m0 134 i0 (.agg #[.int .i64 0, .int .i64 0, .int .i64 0, .string ByteArray.empty, .int .i64 0, .int .i64 0]) 6 56 Try.underlying59 hi hz0 hz1 hz2 rfl (by decide) _ n9 (wnsV (l ++ r)) rfl HO9.out _ 1 1 [.int .i64 (8), .int .i64 (0), .int .i64 (0), .string ({ data := #[] }), .int .i64 ((n2 : Int) - 1), .int .i64 (0)] rfl rfl HNW.out (by simp [Value.oneCell']) (by omega) (by unfold maxLen; omega) (by omega) (Nat.le_trans HMZ.out (by simp)) _ rfl ?_)
      intro g9 c9 w9 hown hgrow hH hlt
      have HQ9 := Lib.hid (HQA.out.grow hB (⟨8, 0, 0, { data := #[] }, (n2 : Int) - 1, 0⟩ : Wn) n9 HN9.out hown hgrow (by rw [World.size_alloc]; exact hH))
      clear hown hgrow hH hlt HNW HO9 e0 e1 e2 e3 e4 e5
      go_wp2_with fail
      go_ret
      refine ⟨_, r ++ [⟨8, 0, 0, { data := #[] }, (n2 : Int) - 1, 0⟩], rfl, ⟨by simp; try omega, by simp; omega⟩, ?_⟩
      have h := HQ9.out
      rw [show (l ++ r) ++ [(⟨8, 0, 0, { data := #[] }, (n2 : Int) - 1, 0⟩ : Wn)] = l ++ (r ++ [⟨8, 0, 0, { data := #[] }, (n2 : Int) - 1, 0⟩]) by simp] at h
      exact h.more (by omega)
    have k8 := kind_eq h8
    go_wp2_with fail
    rw [hX] at HA HSB
    generalize w1.alloc (.cells #[.int .i64 kd, .int .i64 0, .int .i64 0, .string { data := #[] }, .int .i64 0, .int .i64 0] 134) = wb at *
    clear hX
    refine (IH.out _ _ (l) wb (by have := HZZ.out; omega) (by have := HZZ.out; first | (have := HN.out; omega) | (have := HN.out; have := hr.out; simp only [List.length_append] at *; omega)) (by have := (HQB).out.wl.size; omega) (HQB).out.start).mono ?_
    rintro e wc ⟨v2, r, rfl, hrr, hq2⟩
    have hr := Lib.hid hrr
    have HQC := Lib.hid ((HQB).out.sub hq2)
    have HXC := Lib.hid (hq2.wl.heap (HA).out (by rintro (h | h | h); exact hXB h; exact (HVX).out _ h rfl; have := (HSB).out; omega))
    obtain ⟨n2, hnn⟩ : ∃ q, ((l) ++ r).length = q := ⟨_, rfl⟩
    obtain ⟨qa, qc, rfl⟩ := form_of_own hq2.own
    have HVC := Lib.hid (fun k hk => show ¬ k = X from (by rcases hq2.ob k hk with h | h; exact (HVX).out k h; have := (HSB).out; omega))
    have HSC : Hid (X < (wc).heap.size) := Lib.hid (heap_lt (HXC).out)
    have HLC := Lib.hid hnn
    rw [hnn] at HQC HVC ⊢
    have hn50 : n2 ≤ 100 := by rw [← hnn, List.length_append]; have := HZZ.out; first | (have := HN.out; omega) | (have := HN.out; have := hr.out; simp only [List.length_append] at *; omega)
    have hn51 : 1 ≤ n2 := by rw [← hnn, List.length_append]; omega
    clear hq2 hrr hnn
    have hnw : IntKind.i64.wrap ((n2 : Int) - 1) = (n2 : Int) - 1 := IntWalk.i64_in _ (by omega)
    obtain ⟨-, -, -, -, e4, e5⟩ := box6 (HXC).out
    obtain ⟨-, -, -, -, f4, f5⟩ := box6f (HXC).out
    have HQD := Lib.hid ((HQC).out.set X 4 (.int .i64 ((n2 : Int) - 1)) hwX hBX (HVC).out)
    have HXD : Hid (((wc).setCell ⟨X, 4, none⟩ (.int .i64 ((n2 : Int) - 1))).heap[X]? = some (.cells #[.int .i64 kd, .int .i64 0, .int .i64 0, .string { data := #[] }, .int .i64 ((n2 : Int) - 1), .int .i64 0] 134)) := Lib.hid (bx_set (HXC).out _)
    generalize hA4 : (wc).setCell ⟨X, 4, none⟩ (.int .i64 ((n2 : Int) - 1)) = wd at *
    have HSD : Hid (X < wd.heap.size) := Lib.hid (heap_lt HXD.out)
    go_wp2_with fail
    clear e4 f4 hA4
    refine (IH.out _ _ (l ++ r) wd (by have := HZZ.out; omega) (by have := HZZ.out; first | (have := HN.out; omega) | (have := HN.out; have := hr.out; simp only [List.length_append] at *; omega)) (by have := (HQD).out.wl.size; omega) (HQD).out.start).mono ?_
    rintro e we ⟨v2, r', rfl, hrr, hq2⟩
    have hr' := Lib.hid hrr
    have HQE := Lib.hid ((HQD).out.sub hq2)
    have HXE := Lib.hid (hq2.wl.heap (HXD).out (by rintro (h | h | h); exact hXB h; exact (HVC).out _ h rfl; have := (HSD).out; omega))
    obtain ⟨n3, hnn⟩ : ∃ q, ((l ++ r) ++ r').length = q := ⟨_, rfl⟩
    obtain ⟨qa', qc', rfl⟩ := form_of_own hq2.own
    have HVE := Lib.hid (fun k hk => show ¬ k = X from (by rcases hq2.ob k hk with h | h; exact (HVC).out k h; have := (HSD).out; omega))
    have HSE : Hid (X < (we).heap.size) := Lib.hid (heap_lt (HXE).out)
    have HLE := Lib.hid hnn
    rw [hnn] at HQE HVE ⊢
    have hn50 : n3 ≤ 100 := by rw [← hnn, List.length_append]; have := HZZ.out; first | (have := HN.out; omega) | (have := HN.out; have := hr.out; simp only [List.length_append] at *; omega)
    have hn51 : 1 ≤ n3 := by rw [← hnn, List.length_append]; omega
    clear hq2 hrr hnn
    rw [List.append_assoc] at HQE HLE
    have hnw2 : IntKind.i64.wrap ((n3 : Int) - 1) = (n3 : Int) - 1 := IntWalk.i64_in _ (by omega)
    obtain ⟨-, -, -, -, e4, e5⟩ := box6 (HXE).out
    obtain ⟨-, -, -, -, f4, f5⟩ := box6f (HXE).out
    have HQF := Lib.hid ((HQE).out.set X 5 (.int .i64 ((n3 : Int) - 1)) hwX hBX (HVE).out)
    have HXF : Hid (((we).setCell ⟨X, 5, none⟩ (.int .i64 ((n3 : Int) - 1))).heap[X]? = some (.cells #[.int .i64 kd, .int .i64 0, .int .i64 0, .string { data := #[] }, .int .i64 ((n2 : Int) - 1), .int .i64 ((n3 : Int) - 1)] 134)) := Lib.hid (bx_set (HXE).out _)
    generalize hA4 : (we).setCell ⟨X, 5, none⟩ (.int .i64 ((n3 : Int) - 1)) = wf at *
    have hXz : X < wf.heap.size := heap_lt HXF.out
    have hsz := HZZ.out
    have hrr := hr.out
    have hrr' := hr'.out
    have HNW := Lib.hid (World.news_of_block (cs := #[.int .i64 (kd), .int .i64 (0), .int .i64 (0), .string ({ data := #[] }), .int .i64 ((n2 : Int) - 1), .int .i64 ((n3 : Int) - 1)]) (t := 134) (fr := (0, 0)) (heap_alloc_new wf (.cells #[.int .i64 (kd), .int .i64 (0), .int .i64 (0), .string ({ data := #[] }), .int .i64 ((n2 : Int) - 1), .int .i64 ((n3 : Int) - 1)] 134)))
    have HQA := Lib.hid ((HQF).out.alloc (.cells #[.int .i64 (kd), .int .i64 (0), .int .i64 (0), .string ({ data := #[] }), .int .i64 ((n2 : Int) - 1), .int .i64 ((n3 : Int) - 1)] 134))
    have HMZ : Hid (m0 ≤ (wf).heap.size) := Lib.hid (by have := (HQF).out.wl.size; omega)
    obtain ⟨e0, e1, e2, e3, e4, e5⟩ := box6 (HXF).out
    obtain ⟨n9, hn9⟩ : ∃ n9, (l ++ (r ++ r')).length = n9 := ⟨_, rfl⟩
    have hn40 : n9 ≤ 100 := by rw [← hn9]; have := HLE.out; omega
    have HN9 := Lib.hid hn9
    have HO9 := Lib.hid HQA.out.own
    rw [hn9] at HO9
    clear hn9
    go_wp2_with (at_builtin; refine wpList_append_lies _ rfl _ _ 59 rfl m0 134 i0 (.agg #[.int .i64 0, .int .i64 0, .int .i64 0, .string ByteArray.empty, .int .i64 0, .int .i64 0]) 6 56 Try.underlying59 hi hz0 hz1 hz2 rfl (by decide) _ n9 (wnsV (l ++ (r ++ r'))) rfl HO9.out _ 1 1 [.int .i64 (kd), .int .i64 (0), .int .i64 (0), .string ({ data := #[] }), .int .i64 ((n2 : Int) - 1), .int .i64 ((n3 : Int) - 1)] rfl rfl HNW.out (by simp [Value.oneCell']) (by omega) (by unfold maxLen; omega) (by omega) (Nat.le_trans HMZ.out (by simp)) _ rfl ?_)
    intro g9 c9 w9 hown hgrow hH hlt
    have HQ9 := Lib.hid (HQA.out.grow hB (⟨kd, 0, 0, { data := #[] }, (n2 : Int) - 1, (n3 : Int) - 1⟩ : Wn) n9 HN9.out hown hgrow (by rw [World.size_alloc]; exact hH))
    clear hown hgrow hH hlt HNW HO9 e0 e1 e2 e3 e4 e5
    go_wp2_with fail
    go_ret
    refine ⟨_, r ++ r' ++ [⟨kd, 0, 0, { data := #[] }, (n2 : Int) - 1, (n3 : Int) - 1⟩], rfl, ⟨by simp; try omega, by simp; omega⟩, ?_⟩
    have h := HQ9.out
    rw [show (l ++ (r ++ r')) ++ [(⟨kd, 0, 0, { data := #[] }, (n2 : Int) - 1, (n3 : Int) - 1⟩ : Wn)] = l ++ (r ++ r' ++ [⟨kd, 0, 0, { data := #[] }, (n2 : Int) - 1, (n3 : Int) - 1⟩]) by simp] at h
    exact h.more (by omega)
end Go.Proofs.Ytlmgckijbamgpaa
