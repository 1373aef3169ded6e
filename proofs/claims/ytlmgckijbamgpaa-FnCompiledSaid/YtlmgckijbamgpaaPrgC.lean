/- What a want is compiled to: the program's walk. -/
import Derived.Test.YtlmgckijbamgpaaPrgA
namespace Go.Proofs.Ytlmgckijbamgpaa
set_option linter.unusedVariables false
set_option linter.unusedSimpArgs false
open Go.ChangeShapes Go.WideShapes Go.ChangeAt Go.RowKit
set_option maxRecDepth 100000

theorem Try.infoIns : (Try.prog.info? 125).map (fun i => (i.zero, i.size, i.bytes)) = some (some (.agg #[.int .i64 0, .int .i64 0, .int .i64 0, .int .i64 0, .string ByteArray.empty, .int .i64 0]), 6, 56) := by kernel_rfl
/-- code put behind others, under way -/
structure IQ (m0 : Nat) (wx0 : World) (v0 v : Value) (q : List Ins) (wx : World) : Prop where
  own : wx.ownsRow m0 125 6 v q.length (insV q)
  wl : Wrote (fun k => v0.ownBlock = some k ∨ wx0.heap.size ≤ k) wx0 wx
  ob : ∀ k, v.ownBlock = some k → v0.ownBlock = some k ∨ wx0.heap.size ≤ k
  bel : Below m0 wx0 wx
theorem IQ.call {m0 : Nat} {wx0 : World} {v0 v : Value} {q : List Ins} {wx wy : World} (h : IQ m0 wx0 v0 v q wx) (hb : Below wx.heap.size wx wy) (hm : m0 ≤ wx.heap.size) : IQ m0 wx0 v0 v q wy :=
  ⟨own_later h.own hb, h.wl.trans (Wrote.of_below hb), h.ob, h.bel.trans (hb.mono hm)⟩
theorem IQ.start {m0 : Nat} {v : Value} {q : List Ins} {wx : World} (h : wx.ownsRow m0 125 6 v q.length (insV q)) : IQ m0 wx v v q wx := ⟨h, Wrote.refl _ _, fun k hk => .inl hk, Below.refl _ _⟩
theorem IQ.sub {m0 : Nat} {wx0 : World} {v0 v v2 : Value} {q q2 : List Ins} {wx wy : World} (h : IQ m0 wx0 v0 v q wx) (h2 : IQ m0 wx v v2 q2 wy) : IQ m0 wx0 v0 v2 q2 wy :=
  ⟨h2.own, h.wl.trans (h2.wl.mono fun k _ hk => by
    rcases hk with hk | hk
    · exact h.ob k hk
    · right; have := h.wl.size; omega), fun k hk => by
    rcases h2.ob k hk with hk | hk
    · exact h.ob k hk
    · right; have := h.wl.size; omega, h.bel.trans h2.bel⟩
theorem IQ.grow {m0 g cp : Nat} {wx0 : World} {v0 v : Value} {q : List Ins} {wx wy : World} (h : IQ m0 wx0 v0 v q wx) (hm : m0 ≤ wx.heap.size) (fs : List Ins) (n m : Nat) (hn : q.length = n) (hfm : fs.length = m)
    (ho : wy.ownsRow m0 125 6 (.slice (some ⟨g, 0, none⟩) (n + m) cp) (n + m) (insV q ++ insV fs)) (hg : wx.grownBy wy v.ownBlock) (hH : v.ownBlock = some g ∨ g = wx.heap.size) :
    IQ m0 wx0 v0 (.slice (some ⟨g, 0, none⟩) (n + m) cp) (q ++ fs) wy :=
  ⟨by rw [insV_append, List.length_append, hn, hfm]; exact ho, h.wl.trans ((Wrote.of_grown hg).mono fun k _ hk => h.ob k hk), fun k hk => by
    have e : g = k := by simpa [Value.ownBlock] using hk
    subst e
    rcases hH with hH | hH
    · exact h.ob _ hH
    · right; have := h.wl.size; omega, Below.grown h.bel hg hm (fun k hk => (h.own.lt k hk).1)⟩
theorem IQ.putNum {m0 g n cp : Nat} {wx0 : World} {v0 : Value} {q : List Ins} {wx : World} (h : IQ m0 wx0 v0 (.slice (some ⟨g, 0, none⟩) n cp) q wx) (hn : q.length = n) (k : Nat) (u : Int) : IQ m0 wx0 v0 (.slice (some ⟨g, 0, none⟩) n cp) (setNum q k u) (wx.setCell ⟨g, k * 6 + 3, none⟩ (.int .i64 u)) := by
  have hg := (h.own.lt g rfl).1
  have hw := wrote_cell wx g (k * 6 + 3) (.int .i64 u)
  have e : (setNum q k u).length = q.length := by unfold setNum; split <;> simp
  refine ⟨?_, h.wl.trans (hw.mono fun b _ hb => by subst hb; exact h.ob _ rfl), h.ob, h.bel.setCell (p := ⟨g, k * 6 + 3, none⟩) hg _⟩
  have ho := h.own
  rw [hn] at ho
  rw [e, hn, ← insV_num]
  exact (ho.stored (k * 6 + 3) (.int .i64 u)).1
theorem IQ.putTo {m0 g n cp : Nat} {wx0 : World} {v0 : Value} {q : List Ins} {wx : World} (h : IQ m0 wx0 v0 (.slice (some ⟨g, 0, none⟩) n cp) q wx) (hn : q.length = n) (k : Nat) (u : Int) : IQ m0 wx0 v0 (.slice (some ⟨g, 0, none⟩) n cp) (setTo q k u) (wx.setCell ⟨g, k * 6 + 5, none⟩ (.int .i64 u)) := by
  have hg := (h.own.lt g rfl).1
  have hw := wrote_cell wx g (k * 6 + 5) (.int .i64 u)
  have e : (setTo q k u).length = q.length := by unfold setTo; split <;> simp
  refine ⟨?_, h.wl.trans (hw.mono fun b _ hb => by subst hb; exact h.ob _ rfl), h.ob, h.bel.setCell (p := ⟨g, k * 6 + 5, none⟩) hg _⟩
  have ho := h.own
  rw [hn] at ho
  rw [e, hn, ← insV_to]
  exact (ho.stored (k * 6 + 5) (.int .i64 u)).1
theorem IQ.cells {m0 g n cp : Nat} {wx0 : World} {v0 : Value} {q : List Ins} {wx : World} (h : IQ m0 wx0 v0 (.slice (some ⟨g, 0, none⟩) n cp) q wx) (hn : q.length = n) (k : Nat) (hk : k < n) (i : Nat) (hi : i < 6) : (∃ x, wx.cell? ⟨g, k * 6 + i, none⟩ = some x) ∧ wx.frozen? ⟨g, k * 6 + i, none⟩ = false := by
  have ho := h.own
  rw [hn] at ho
  refine ⟨?_, ho.frozenAt _⟩
  rw [ho.cellAt _ (by omega)]
  exact ⟨_, List.getElem?_eq_getElem (by rw [insV_len]; omega)⟩
/-- the filter that is compiled lies below -/
structure FM (m0 p : Nat) (la : Option Addr) (lc : Nat) (l : List Wn) (wx : World) : Prop where
  cell : wx.cell? ⟨p, 0, none⟩ = some (.slice la l.length lc)
  row : Rb m0 wx la (wnsV l)
  lt : p < m0
theorem FM.later {m0 p : Nat} {la : Option Addr} {lc : Nat} {l : List Wn} {wx wy : World} (h : FM m0 p la lc l wx) (hb : Below m0 wx wy) : FM m0 p la lc l wy :=
  ⟨below_cellk hb h.cell h.lt, h.row.below hb, h.lt⟩
theorem ln_67 {l : List Wn} (h : okAll l 0 = true) {k : Nat} {w : Wn} (hw : l[k]? = some w) (h67 : w.kind = 6 ∨ w.kind = 7) : ln l k = ln l w.a.toNat + 1 + ln l w.b.toNat := by
  conv => lhs; unfold ln
  rw [cmp_eq h 0 hw, if_neg (by omega), if_pos h67, List.length_append, List.length_cons, cmp_len h, cmp_len h]; omega
theorem ln_8 {l : List Wn} (h : okAll l 0 = true) {k : Nat} {w : Wn} (hw : l[k]? = some w) (h8 : w.kind = 8) : ln l k = ln l w.a.toNat + 1 := by
  conv => lhs; unfold ln
  rw [cmp_eq h 0 hw, if_pos h8, List.length_append, cmp_len h]; rfl
theorem ln_leaf {l : List Wn} (h : okAll l 0 = true) {k : Nat} {w : Wn} (hw : l[k]? = some w) (h67 : ¬ (w.kind = 6 ∨ w.kind = 7)) (h8 : ¬ w.kind = 8) : ln l k = 2 := by
  conv => lhs; unfold ln
  rw [cmp_eq h 0 hw, if_neg h8, if_neg h67]; rfl
def CompO (m0 : Nat) (q' : List Ins) (v : Value) (wx : World) (e : Ending) (w' : World) : Prop := ∃ v', e = .returned v' ∧ IQ m0 wx v v' q' w'
set_option maxHeartbeats 8000000 in
theorem impl_compile (m0 lc : Nat) (l : List Wn) (hok : okAll l 0 = true) (hn : l.length ≤ 20) : ∀ (k : Nat), k < l.length → ∀ (p : Nat) (la : Option Addr) (q : List Ins) (v : Value) (wx : World), m0 ≤ wx.heap.size → q.length + ln l k ≤ 1000 → FM m0 p la lc l wx → wx.ownsRow m0 125 6 v q.length (insV q) →
    Calls Try.prog 94 #[.pointer (some ⟨p, 0, none⟩), v, .int .i64 (k : Int)] wx (CompO m0 (q ++ cmp l k q.length) v wx) := by
  obtain ⟨i0, hi, hz0, hz1, hz2⟩ := info_parts Try.infoIns
  intro k
  induction k using Nat.strongRecOn with
  | ind k ih =>
    intro hk p la q v wx hm hlen hfm ho
    have IH := Lib.hid ih
    clear ih
    have HFM := Lib.hid hfm
    have HO := Lib.hid ho
    have HM0 := Lib.hid hm
    obtain ⟨w0, hw⟩ : ∃ w0, l[k]? = some w0 := ⟨l[k], List.getElem?_eq_getElem hk⟩
    have hoW := okAll_at l 0 k w0 hok hw
    rw [Nat.zero_add] at hoW
    have hcell := hfm.cell
    obtain ⟨b, off, hae, hbx, hbw, c0, c1, c2, c3, c4, c5⟩ := row6 (hfm.row.rw hm) (Below.refl _ _) hw
    subst hae
    have HW := Lib.hid hw
    obtain ⟨va, vc, rfl⟩ := form_of_own ho
    obtain ⟨n, hnq⟩ : ∃ n, q.length = n := ⟨_, rfl⟩
    have HNQ := Lib.hid hnq
    obtain ⟨T, hT⟩ : ∃ T, q ++ cmp l k q.length = T := ⟨_, rfl⟩
    rw [hT]
    have HT := Lib.hid hT
    have hb1k := hlen
    rw [hnq] at HO hlen hb1k HT ⊢
    clear hfm ho hm hw hnq hT
    have hlen2 := hlen
    obtain ⟨kd, no, nm, tx, xa, xb⟩ := w0
    simp only at c0 c1 c2 c3 c4 c5
    have HA := Lib.hid (heap_alloc_new wx (.cells #[.int .i64 kd, .int .i64 no, .int .i64 nm, .string tx, .int .i64 xa, .int .i64 xb] 134))
    have HBY := Lib.hid ((Below.refl wx.heap.size wx).alloc (Nat.le_refl _) (.cells #[.int .i64 kd, .int .i64 no, .int .i64 nm, .string tx, .int .i64 xa, .int .i64 xb] 134))
    obtain ⟨nl, hnl⟩ : ∃ nl, l.length = nl := ⟨_, rfl⟩
    have HNL := Lib.hid hnl
    rw [hnl] at hk hcell
    clear hnl
    generalize hwy : wx.alloc (.cells #[.int .i64 kd, .int .i64 no, .int .i64 nm, .string tx, .int .i64 xa, .int .i64 xb] 134) = wy at *
    obtain ⟨y0, y1, y2, y3, y4, y5⟩ := box6 HA.out
    have HM1 : Hid (m0 ≤ wy.heap.size) := Lib.hid (Nat.le_trans HM0.out HBY.out.size)
    have HFY := Lib.hid (HFM.out.later (HBY.out.mono HM0.out))
    have HQ0 : Hid (IQ m0 wx (.slice va n vc) (.slice va n vc) q wy) := Lib.hid ((IQ.start (by rw [HNQ.out]; exact HO.out)).call HBY.out HM0.out)
    by_cases h8 : kd = 8
    · subst h8
      obtain ⟨q1, q2⟩ := ok8 hoW rfl
      simp only at q1 q2
      obtain ⟨x, rfl⟩ : ∃ x : Nat, xa = (x : Int) := ⟨xa.toNat, by omega⟩
      have hl8 := ln_8 hok HW.out rfl
      simp only [Int.toNat_natCast] at hl8
      have HTE : Hid ((q ++ cmp l x n) ++ [⟨4, 0, 0, 0, ⟨#[]⟩, 0⟩] = T) := Lib.hid (by rw [← HT.out, cmp_eq hok n HW.out, if_pos rfl, List.append_assoc, Int.toNat_natCast])
      have hxk : x < k := by omega
      have HX := Lib.hid (IH.out x hxk (by have := HNL.out; omega) p (some ⟨b, off, none⟩) q (.slice va n vc) wy HM1.out (by have := HNQ.out; omega) HFY.out HQ0.out.own)
      rw [HNQ.out] at HX
      have HLX : Hid ((q ++ cmp l x n).length = n + ln l x) := Lib.hid (by rw [List.length_append, cmp_len hok, HNQ.out])
      generalize q ++ cmp l x n = q2 at *
      clear hoW HT IH
      go_enter Try.func94, Try.ntmps94
      go_wp2_with fail
      refine HX.out.mono ?_
      rintro e w2 ⟨v2, rfl, hq2⟩
      have HQ2 := Lib.hid (HQ0.out.sub hq2)
      obtain ⟨va2, vc2, rfl⟩ := form_of_own hq2.own
      obtain ⟨n2, hn2⟩ : ∃ n2, q2.length = n2 := ⟨_, rfl⟩
      have HN2 := Lib.hid hn2
      rw [hn2] at HQ2 ⊢
      have hn2b : n2 ≤ 1000 := by have := HLX.out; omega
      have HM2 : Hid (m0 ≤ w2.heap.size) := Lib.hid (Nat.le_trans HM1.out hq2.wl.size)
      clear hq2 hn2 HX
      have HNW := Lib.hid (World.news_of_block (cs := #[.int .i64 4, .int .i64 0, .int .i64 0, .int .i64 0, .string ⟨#[]⟩, .int .i64 0]) (t := 125) (fr := (0, 0)) (heap_alloc_new w2 (.cells #[.int .i64 4, .int .i64 0, .int .i64 0, .int .i64 0, .string ⟨#[]⟩, .int .i64 0] 125)))
      have HQA := Lib.hid ((HQ2).out.call ((Below.refl (w2).heap.size w2).alloc (Nat.le_refl _) (.cells #[.int .i64 4, .int .i64 0, .int .i64 0, .int .i64 0, .string ⟨#[]⟩, .int .i64 0] 125)) (HM2).out)
      have HO9 := Lib.hid HQA.out.own
      rw [(HN2).out] at HO9
      go_wp2_with (at_builtin; refine wpList_append_lies _ rfl _ _ 64 rfl m0 125 i0 (.agg #[.int .i64 0, .int .i64 0, .int .i64 0, .int .i64 0, .string ByteArray.empty, .int .i64 0]) 6 56 Try.underlying64 hi hz0 hz1 hz2 rfl (by decide) _ n2 _ rfl HO9.out _ 1 1 [.int .i64 4, .int .i64 0, .int .i64 0, .int .i64 0, .string ⟨#[]⟩, .int .i64 0] rfl rfl HNW.out (by simp [Value.oneCell']) (by omega) (by unfold maxLen; omega) (by omega) (Nat.le_trans (HM2).out (by simp)) _ rfl ?_)
      intro g9 c9 w9 hown hgrow hH hlt
      have HQ9 := Lib.hid (HQA.out.grow (Nat.le_trans HM2.out (by simp)) [⟨4, 0, 0, 0, ⟨#[]⟩, 0⟩] n2 1 HN2.out rfl hown hgrow (by rw [World.size_alloc]; exact hH))
      rw [HTE.out] at HQ9
      clear hown hgrow hH hlt HNW HO9
      go_wp2_with fail
      go_ret
      exact ⟨_, rfl, HQ9.out⟩
    have k8 := kind_eq h8
    by_cases h67 : kd = 6 ∨ kd = 7
    case neg =>
      have hl2' := ln_leaf hok HW.out h67 h8
      have HTE : Hid (q ++ [⟨1, 0, no, 0, ⟨#[]⟩, 0⟩, ⟨2, kd, 0, nm, tx, 0⟩] = T) := Lib.hid (by rw [← HT.out, cmp_eq hok n HW.out, if_neg h8, if_neg h67])
      have k6 := kind_eq (show ¬ kd = 6 by omega)
      have k7 := kind_eq (show ¬ kd = 7 by omega)
      clear hoW HT IH h8 h67
      go_enter Try.func94, Try.ntmps94
      have HNW := Lib.hid (World.news_of_block (cs := #[.int .i64 1, .int .i64 0, .int .i64 no, .int .i64 0, .string ⟨#[]⟩, .int .i64 0, .int .i64 2, .int .i64 kd, .int .i64 0, .int .i64 nm, .string tx, .int .i64 0]) (t := 125) (fr := (0, 0)) (heap_alloc_new wy (.cells #[.int .i64 1, .int .i64 0, .int .i64 no, .int .i64 0, .string ⟨#[]⟩, .int .i64 0, .int .i64 2, .int .i64 kd, .int .i64 0, .int .i64 nm, .string tx, .int .i64 0] 125)))
      have HQA := Lib.hid ((HQ0).out.call ((Below.refl (wy).heap.size wy).alloc (Nat.le_refl _) (.cells #[.int .i64 1, .int .i64 0, .int .i64 no, .int .i64 0, .string ⟨#[]⟩, .int .i64 0, .int .i64 2, .int .i64 kd, .int .i64 0, .int .i64 nm, .string tx, .int .i64 0] 125)) (HM1).out)
      have HO9 := Lib.hid HQA.out.own
      rw [(HNQ).out] at HO9
      go_wp2_with (at_builtin; refine wpList_append_lies _ rfl _ _ 64 rfl m0 125 i0 (.agg #[.int .i64 0, .int .i64 0, .int .i64 0, .int .i64 0, .string ByteArray.empty, .int .i64 0]) 6 56 Try.underlying64 hi hz0 hz1 hz2 rfl (by decide) _ n _ rfl HO9.out _ 2 2 [.int .i64 1, .int .i64 0, .int .i64 no, .int .i64 0, .string ⟨#[]⟩, .int .i64 0, .int .i64 2, .int .i64 kd, .int .i64 0, .int .i64 nm, .string tx, .int .i64 0] rfl rfl HNW.out (by simp [Value.oneCell']) (by omega) (by unfold maxLen; omega) (by omega) (Nat.le_trans (HM1).out (by simp)) _ rfl ?_)
      intro g9 c9 w9 hown hgrow hH hlt
      have HQ9 := Lib.hid (HQA.out.grow (Nat.le_trans HM1.out (by simp)) [⟨1, 0, no, 0, ⟨#[]⟩, 0⟩, ⟨2, kd, 0, nm, tx, 0⟩] n 2 HNQ.out rfl hown hgrow (by rw [World.size_alloc]; exact hH))
      rw [HTE.out] at HQ9
      clear hown hgrow hH hlt HNW HO9
      go_wp2_with fail
      go_ret
      exact ⟨_, rfl, HQ9.out⟩
    obtain ⟨r1, r2, r3⟩ := ok67 hoW h67
    simp only at r1 r2 r3
    obtain ⟨x, rfl⟩ : ∃ x : Nat, xa = (x : Int) := ⟨xa.toNat, by omega⟩
    obtain ⟨y, rfl⟩ : ∃ y : Nat, xb = (y : Int) := ⟨xb.toNat, by omega⟩
    have hl67 := ln_67 hok HW.out h67
    simp only [Int.toNat_natCast] at hl67
    have HTE : Hid (q ++ (cmp l x n ++ ⟨3, 0, 0, if kd = 7 then 1 else 0, ⟨#[]⟩, ((n + ln l x + 1 + ln l y : Nat) : Int)⟩ :: cmp l y (n + ln l x + 1)) = T) := Lib.hid (by rw [← HT.out, cmp_eq hok n HW.out, if_neg h8, if_pos h67]; simp only [Int.toNat_natCast, cmp_len hok])
    have HL67 := Lib.hid hl67
    have hxk : x < k := by omega
    have hyk : y < k := by omega
    have HX := Lib.hid (IH.out x hxk (by have := HNL.out; omega) p (some ⟨b, off, none⟩) q (.slice va n vc) wy HM1.out (by have := HNQ.out; omega) HFY.out HQ0.out.own)
    clear hl67
    rw [HNQ.out] at HX
    have HLX : Hid ((q ++ cmp l x n).length = n + ln l x) := Lib.hid (by rw [List.length_append, cmp_len hok, HNQ.out])
    obtain ⟨q2, hq2e⟩ : ∃ q2, q ++ cmp l x n = q2 := ⟨_, rfl⟩
    have HQ2E := Lib.hid hq2e
    rw [hq2e] at HX HLX
    have HVX : Hid (∀ b, (Value.slice va n vc).ownBlock = some b → ¬ b = wx.heap.size) := Lib.hid (fun b h => by have := (HO.out.lt b h).2; omega)
    have HSB : Hid (wx.heap.size < wy.heap.size) := Lib.hid (heap_lt HA.out)
    clear hoW HT hq2e r1 r2 r3
    rcases h67 with rfl | rfl
    · go_enter Try.func94, Try.ntmps94
      go_wp2_with fail
      refine HX.out.mono ?_
      rintro e w2 ⟨v2, rfl, hq2⟩
      have HQ2 := Lib.hid (HQ0.out.sub hq2)
      have HX2 := Lib.hid (hq2.wl.heap HA.out (by rintro (h | h); exact HVX.out _ h rfl; have := HSB.out; omega))
      obtain ⟨va2, vc2, rfl⟩ := form_of_own hq2.own
      obtain ⟨n2, hn2⟩ : ∃ n2, q2.length = n2 := ⟨_, rfl⟩
      have HN2 := Lib.hid hn2
      have HOB2 := Lib.hid hq2.ob
      rw [hn2] at HQ2 HOB2 HLX ⊢
      have hn2e : n2 = n + ln l x := HLX.out
      have HM2 : Hid (m0 ≤ w2.heap.size) := Lib.hid (Nat.le_trans HM1.out hq2.wl.size)
      have hn2b : n2 ≤ 1000 := by have := HL67.out; omega
      have hn2c : n2 + 1 + ln l y ≤ 1000 := by have := HL67.out; omega
      have HNE := Lib.hid hn2e
      clear hq2 hn2 HX hn2e
      obtain ⟨y0', -, -, -, -, y5'⟩ := box6 HX2.out
      have HJ : Hid (∀ g3, (Value.slice va2 n2 vc2).ownBlock = some g3 → ¬ g3 = wx.heap.size) := Lib.hid (fun g3 h => by
        rcases HOB2.out g3 h with h | h
        · exact HVX.out g3 h
        · have := HSB.out; omega)
      have HNW := Lib.hid (World.news_of_block (cs := #[.int .i64 3, .int .i64 0, .int .i64 0, .int .i64 0, .string ⟨#[]⟩, .int .i64 0]) (t := 125) (fr := (0, 0)) (heap_alloc_new w2 (.cells #[.int .i64 3, .int .i64 0, .int .i64 0, .int .i64 0, .string ⟨#[]⟩, .int .i64 0] 125)))
      have HQA := Lib.hid ((HQ2).out.call ((Below.refl (w2).heap.size w2).alloc (Nat.le_refl _) (.cells #[.int .i64 3, .int .i64 0, .int .i64 0, .int .i64 0, .string ⟨#[]⟩, .int .i64 0] 125)) (HM2).out)
      have HO9 := Lib.hid HQA.out.own
      rw [(HN2).out] at HO9
      go_wp2_with (at_builtin; refine wpList_append_lies _ rfl _ _ 64 rfl m0 125 i0 (.agg #[.int .i64 0, .int .i64 0, .int .i64 0, .int .i64 0, .string ByteArray.empty, .int .i64 0]) 6 56 Try.underlying64 hi hz0 hz1 hz2 rfl (by decide) _ n2 _ rfl HO9.out _ 1 1 [.int .i64 3, .int .i64 0, .int .i64 0, .int .i64 0, .string ⟨#[]⟩, .int .i64 0] rfl rfl HNW.out (by simp [Value.oneCell']) (by omega) (by unfold maxLen; omega) (by omega) (Nat.le_trans (HM2).out (by simp)) _ rfl ?_)
      intro g3 c3' w3 hown hgrow hH hlt
      have HQ3 := Lib.hid (HQA.out.grow (Nat.le_trans HM2.out (by simp)) [⟨3, 0, 0, 0, ⟨#[]⟩, 0⟩] n2 1 HN2.out rfl hown hgrow (by rw [World.size_alloc]; exact hH))
      have hX3 := (Wrote.of_grown hgrow).heap (heap_later ((Below.refl w2.heap.size w2).alloc (Nat.le_refl _) (.cells #[.int .i64 3, .int .i64 0, .int .i64 0, .int .i64 0, .string ⟨#[]⟩, .int .i64 0] 125)) HX2.out) (fun h => HJ.out _ h rfl)
      have HX3 := Lib.hid hX3
      have hg3 : ¬ wx.heap.size = g3 := by
        rcases hH with h | h
        · exact fun e => HJ.out g3 h e.symm
        · have := heap_lt HX2.out; omega
      have HN3 : Hid ((q2 ++ [(⟨3, 0, 0, 0, ⟨#[]⟩, 0⟩ : Ins)]).length = n2 + 1) := Lib.hid (by rw [List.length_append, HN2.out]; rfl)
      have HM3 : Hid (m0 ≤ w3.heap.size) := Lib.hid (by have := HM2.out; have := hgrow.size; simp at this; omega)
      have HF3 := Lib.hid (HFM.out.later HQ3.out.bel)
      clear hown hgrow hH hlt HNW HO9 hX3
      obtain ⟨z0, -, -, -, -, z5⟩ := box6 HX3.out
      have hB := IH.out y hyk (by have := HNL.out; omega) p (some ⟨b, off, none⟩) (q2 ++ [(⟨3, 0, 0, 0, ⟨#[]⟩, 0⟩ : Ins)]) (.slice (some ⟨g3, 0, none⟩) (n2 + 1) c3') w3 (HM3).out (by rw [(HN3).out]; omega) (HF3).out (HQ3).out.own
      rw [(HN3).out] at hB
      have HB := Lib.hid hB
      obtain ⟨q4, hq4⟩ : ∃ q4, (q2 ++ [(⟨3, 0, 0, 0, ⟨#[]⟩, 0⟩ : Ins)]) ++ cmp l y (n2 + 1) = q4 := ⟨_, rfl⟩
      rw [hq4] at HB
      have HQE := Lib.hid hq4
      obtain ⟨n4, hn4⟩ : ∃ n4, q4.length = n4 := ⟨_, rfl⟩
      have hn4b : n4 = n2 + 1 + ln l y := by rw [← hn4, ← hq4, List.length_append, (HN3).out, cmp_len hok]
      have HN4' := Lib.hid hn4
      have HN4b := Lib.hid hn4b
      have hn4c : n4 ≤ 1000 := by omega
      have hn24 : n2 < n4 := by omega
      clear hB hq4 hn4 hn4b
      obtain ⟨-, -, -, -, -, z5⟩ := box6 (HX3).out
      go_wp2_with fail
      refine HB.out.mono ?_
      rintro e w5 ⟨v5, rfl, hq5⟩
      have HQ5 := Lib.hid ((HQ3).out.sub hq5)
      have ho5 := hq5.own
      rw [HN4'.out] at ho5
      obtain ⟨g5, c5', hv5, hg51, hg52⟩ := ho5.form (by omega)
      subst hv5
      clear hq5 ho5 z5
      obtain ⟨⟨x5, e5⟩, f5⟩ := HQ5.out.cells HN4'.out n2 hn24 5 (by decide)
      have HQ6 := Lib.hid (HQ5.out.putTo HN4'.out n2 (n4 : Int))
      have HTF : Hid (setTo q4 n2 (n4 : Int) = T) := Lib.hid (by
        have e : (q2 ++ [(⟨3, 0, 0, 0, ⟨#[]⟩, 0⟩ : Ins)]) ++ cmp l y (n2 + 1) = q2 ++ (⟨3, 0, 0, 0, ⟨#[]⟩, 0⟩ : Ins) :: cmp l y (n2 + 1) := by rw [List.append_assoc]; rfl
        rw [← HQE.out, e, ← HTE.out, ← List.append_assoc, HQ2E.out]
        have h2 := HN4b.out
        have h3 := HNE.out
        have h4 := HN2.out
        subst h4
        rw [setTo_mid]
        simp only
        rw [h2, h3]
        rfl)
      rw [HTF.out] at HQ6
      go_wp2_with fail
      go_ret
      exact ⟨_, rfl, HQ6.out⟩
    · go_enter Try.func94, Try.ntmps94
      go_wp2_with fail
      refine HX.out.mono ?_
      rintro e w2 ⟨v2, rfl, hq2⟩
      have HQ2 := Lib.hid (HQ0.out.sub hq2)
      have HX2 := Lib.hid (hq2.wl.heap HA.out (by rintro (h | h); exact HVX.out _ h rfl; have := HSB.out; omega))
      obtain ⟨va2, vc2, rfl⟩ := form_of_own hq2.own
      obtain ⟨n2, hn2⟩ : ∃ n2, q2.length = n2 := ⟨_, rfl⟩
      have HN2 := Lib.hid hn2
      have HOB2 := Lib.hid hq2.ob
      rw [hn2] at HQ2 HOB2 HLX ⊢
      have hn2e : n2 = n + ln l x := HLX.out
      have HM2 : Hid (m0 ≤ w2.heap.size) := Lib.hid (Nat.le_trans HM1.out hq2.wl.size)
      have hn2b : n2 ≤ 1000 := by have := HL67.out; omega
      have hn2c : n2 + 1 + ln l y ≤ 1000 := by have := HL67.out; omega
      have HNE := Lib.hid hn2e
      clear hq2 hn2 HX hn2e
      obtain ⟨y0', -, -, -, -, y5'⟩ := box6 HX2.out
      have HJ : Hid (∀ g3, (Value.slice va2 n2 vc2).ownBlock = some g3 → ¬ g3 = wx.heap.size) := Lib.hid (fun g3 h => by
        rcases HOB2.out g3 h with h | h
        · exact HVX.out g3 h
        · have := HSB.out; omega)
      have HNW := Lib.hid (World.news_of_block (cs := #[.int .i64 3, .int .i64 0, .int .i64 0, .int .i64 0, .string ⟨#[]⟩, .int .i64 0]) (t := 125) (fr := (0, 0)) (heap_alloc_new w2 (.cells #[.int .i64 3, .int .i64 0, .int .i64 0, .int .i64 0, .string ⟨#[]⟩, .int .i64 0] 125)))
      have HQA := Lib.hid ((HQ2).out.call ((Below.refl (w2).heap.size w2).alloc (Nat.le_refl _) (.cells #[.int .i64 3, .int .i64 0, .int .i64 0, .int .i64 0, .string ⟨#[]⟩, .int .i64 0] 125)) (HM2).out)
      have HO9 := Lib.hid HQA.out.own
      rw [(HN2).out] at HO9
      go_wp2_with (at_builtin; refine wpList_append_lies _ rfl _ _ 64 rfl m0 125 i0 (.agg #[.int .i64 0, .int .i64 0, .int .i64 0, .int .i64 0, .string ByteArray.empty, .int .i64 0]) 6 56 Try.underlying64 hi hz0 hz1 hz2 rfl (by decide) _ n2 _ rfl HO9.out _ 1 1 [.int .i64 3, .int .i64 0, .int .i64 0, .int .i64 0, .string ⟨#[]⟩, .int .i64 0] rfl rfl HNW.out (by simp [Value.oneCell']) (by omega) (by unfold maxLen; omega) (by omega) (Nat.le_trans (HM2).out (by simp)) _ rfl ?_)
      intro g3 c3' w3 hown hgrow hH hlt
      have HQ3 := Lib.hid (HQA.out.grow (Nat.le_trans HM2.out (by simp)) [⟨3, 0, 0, 0, ⟨#[]⟩, 0⟩] n2 1 HN2.out rfl hown hgrow (by rw [World.size_alloc]; exact hH))
      have hX3 := (Wrote.of_grown hgrow).heap (heap_later ((Below.refl w2.heap.size w2).alloc (Nat.le_refl _) (.cells #[.int .i64 3, .int .i64 0, .int .i64 0, .int .i64 0, .string ⟨#[]⟩, .int .i64 0] 125)) HX2.out) (fun h => HJ.out _ h rfl)
      have HX3 := Lib.hid hX3
      have hg3 : ¬ wx.heap.size = g3 := by
        rcases hH with h | h
        · exact fun e => HJ.out g3 h e.symm
        · have := heap_lt HX2.out; omega
      have HN3 : Hid ((q2 ++ [(⟨3, 0, 0, 0, ⟨#[]⟩, 0⟩ : Ins)]).length = n2 + 1) := Lib.hid (by rw [List.length_append, HN2.out]; rfl)
      have HM3 : Hid (m0 ≤ w3.heap.size) := Lib.hid (by have := HM2.out; have := hgrow.size; simp at this; omega)
      have HF3 := Lib.hid (HFM.out.later HQ3.out.bel)
      clear hown hgrow hH hlt HNW HO9 hX3
      obtain ⟨z0, -, -, -, -, z5'⟩ := box6 HX3.out
      obtain ⟨⟨x3, e3⟩, f3⟩ := HQ3.out.cells HN3.out n2 (by omega) 3 (by decide)
      have HQ4 := Lib.hid (HQ3.out.putNum HN3.out n2 1)
      have hS := setNum_mid q2 [] ⟨3, 0, 0, 0, ⟨#[]⟩, 0⟩ 1
      rw [HN2.out] at hS
      simp only at hS
      rw [hS] at HQ4
      have hw4 := wrote_cell w3 g3 (n2 * 6 + 3) (.int .i64 1)
      have HX4 := Lib.hid (hw4.heap HX3.out hg3)
      have HM4 : Hid (m0 ≤ (w3.setCell ⟨g3, n2 * 6 + 3, none⟩ (.int .i64 1)).heap.size) := Lib.hid (Nat.le_trans HM3.out hw4.size)
      have HF4 := Lib.hid (HFM.out.later HQ4.out.bel)
      have HN4 : Hid ((q2 ++ [(⟨3, 0, 0, 1, ⟨#[]⟩, 0⟩ : Ins)]).length = n2 + 1) := Lib.hid (by rw [List.length_append, HN2.out]; rfl)
      generalize hw4e : w3.setCell ⟨g3, n2 * 6 + 3, none⟩ (.int .i64 1) = w4 at *
      clear hS hw4
      have hB := IH.out y hyk (by have := HNL.out; omega) p (some ⟨b, off, none⟩) (q2 ++ [(⟨3, 0, 0, 1, ⟨#[]⟩, 0⟩ : Ins)]) (.slice (some ⟨g3, 0, none⟩) (n2 + 1) c3') w4 (HM4).out (by rw [(HN4).out]; omega) (HF4).out (HQ4).out.own
      rw [(HN4).out] at hB
      have HB := Lib.hid hB
      obtain ⟨q4, hq4⟩ : ∃ q4, (q2 ++ [(⟨3, 0, 0, 1, ⟨#[]⟩, 0⟩ : Ins)]) ++ cmp l y (n2 + 1) = q4 := ⟨_, rfl⟩
      rw [hq4] at HB
      have HQE := Lib.hid hq4
      obtain ⟨n4, hn4⟩ : ∃ n4, q4.length = n4 := ⟨_, rfl⟩
      have hn4b : n4 = n2 + 1 + ln l y := by rw [← hn4, ← hq4, List.length_append, (HN4).out, cmp_len hok]
      have HN4' := Lib.hid hn4
      have HN4b := Lib.hid hn4b
      have hn4c : n4 ≤ 1000 := by omega
      have hn24 : n2 < n4 := by omega
      clear hB hq4 hn4 hn4b
      obtain ⟨-, -, -, -, -, z5⟩ := box6 (HX4).out
      go_wp2_with fail
      refine HB.out.mono ?_
      rintro e w5 ⟨v5, rfl, hq5⟩
      have HQ5 := Lib.hid ((HQ4).out.sub hq5)
      have ho5 := hq5.own
      rw [HN4'.out] at ho5
      obtain ⟨g5, c5', hv5, hg51, hg52⟩ := ho5.form (by omega)
      subst hv5
      clear hq5 ho5 z5
      obtain ⟨⟨x5, e5⟩, f5⟩ := HQ5.out.cells HN4'.out n2 hn24 5 (by decide)
      have HQ6 := Lib.hid (HQ5.out.putTo HN4'.out n2 (n4 : Int))
      have HTF : Hid (setTo q4 n2 (n4 : Int) = T) := Lib.hid (by
        have e : (q2 ++ [(⟨3, 0, 0, 1, ⟨#[]⟩, 0⟩ : Ins)]) ++ cmp l y (n2 + 1) = q2 ++ (⟨3, 0, 0, 1, ⟨#[]⟩, 0⟩ : Ins) :: cmp l y (n2 + 1) := by rw [List.append_assoc]; rfl
        rw [← HQE.out, e, ← HTE.out, ← List.append_assoc, HQ2E.out]
        have h2 := HN4b.out
        have h3 := HNE.out
        have h4 := HN2.out
        subst h4
        rw [setTo_mid]
        simp only
        rw [h2, h3]
        rfl)
      rw [HTF.out] at HQ6
      go_wp2_with fail
      go_ret
      exact ⟨_, rfl, HQ6.out⟩
set_option maxHeartbeats 8000000 in
theorem spec_l8Compile (m0 lc : Nat) (l : List Wn) (hok : okAll l 0 = true) (hn : l.length ≤ 20) : ∀ (k : Nat), k < l.length → ∀ (la : Option Addr) (q : List Ins) (v : Value) (wx : World), m0 ≤ wx.heap.size → q.length + ln l k ≤ 1000 → Rb m0 wx la (wnsV l) → wx.ownsRow m0 125 6 v q.length (insV q) →
    Calls Try.prog 95 #[.agg #[.slice la l.length lc], .int .i64 (k : Int), v] wx (CompO m0 (q ++ cmp l k q.length) v wx) := by
  obtain ⟨i0, hi, hz0, hz1, hz2⟩ := info_parts Try.infoIns
  intro k
  induction k using Nat.strongRecOn with
  | ind k ih =>
    intro hk la q v wx hm hlen hrb ho
    have IH := Lib.hid ih
    clear ih
    have HRB := Lib.hid hrb
    have HO := Lib.hid ho
    have HM0 := Lib.hid hm
    obtain ⟨w0, hw⟩ : ∃ w0, l[k]? = some w0 := ⟨l[k], List.getElem?_eq_getElem hk⟩
    have hoW := okAll_at l 0 k w0 hok hw
    rw [Nat.zero_add] at hoW
    have HBF := Lib.hid ((Below.refl wx.heap.size wx).alloc (Nat.le_refl _) (.cells #[.slice la l.length lc] 61))
    have HF0 := Lib.hid (heap_alloc_new wx (.cells #[.slice la l.length lc] 61))
    obtain ⟨b, off, hae, hbx, hbw, c0, c1, c2, c3, c4, c5⟩ := row6 (hrb.rw hm) HBF.out hw
    subst hae
    have HW := Lib.hid hw
    obtain ⟨va, vc, rfl⟩ := form_of_own ho
    obtain ⟨n, hnq⟩ : ∃ n, q.length = n := ⟨_, rfl⟩
    have HNQ := Lib.hid hnq
    obtain ⟨T, hT⟩ : ∃ T, q ++ cmp l k q.length = T := ⟨_, rfl⟩
    rw [hT]
    have HT := Lib.hid hT
    rw [hnq] at HO hlen HT ⊢
    clear hrb ho hm hw hnq hT
    obtain ⟨kd, no, nm, tx, xa, xb⟩ := w0
    simp only at c0 c1 c2 c3 c4 c5
    obtain ⟨nl, hnl⟩ : ∃ nl, l.length = nl := ⟨_, rfl⟩
    have HNL := Lib.hid hnl
    rw [hnl] at hk HBF HF0 hbx c0 c1 c2 c3 c4 c5 IH ⊢
    clear hnl
    generalize hwf : wx.alloc (.cells #[.slice (some ⟨b, off, none⟩) nl lc] 61) = wf at *
    have HSF : Hid (wx.heap.size < wf.heap.size) := Lib.hid (heap_lt HF0.out)
    have g0 : wf.cell? ⟨wx.heap.size, 0, none⟩ = some (.slice (some ⟨b, off, none⟩) nl lc) := by simp [World.cell?, HF0.out]
    have HA := Lib.hid (heap_alloc_new wf (.cells #[.int .i64 kd, .int .i64 no, .int .i64 nm, .string tx, .int .i64 xa, .int .i64 xb] 134))
    have hbq := (Below.refl wf.heap.size wf).alloc (Nat.le_refl _) (.cells #[.int .i64 kd, .int .i64 no, .int .i64 nm, .string tx, .int .i64 xa, .int .i64 xb] 134)
    have HF1 := Lib.hid (heap_keep hbq HF0.out)
    have HBY := Lib.hid (rstep HBF.out hbq)
    generalize hwy : wf.alloc (.cells #[.int .i64 kd, .int .i64 no, .int .i64 nm, .string tx, .int .i64 xa, .int .i64 xb] 134) = wy at *
    obtain ⟨y0, y1, y2, y3, y4, y5⟩ := box6 HA.out
    have g1 := below_later hbq g0
    clear hbq
    have HM1 : Hid (m0 ≤ wy.heap.size) := Lib.hid (Nat.le_trans HM0.out HBY.out.size)
    have HRY := Lib.hid (HRB.out.below (HBY.out.mono HM0.out))
    have HQ0 : Hid (IQ m0 wx (.slice va n vc) (.slice va n vc) q wy) := Lib.hid ((IQ.start (by rw [HNQ.out]; exact HO.out)).call HBY.out HM0.out)
    have HVX : Hid (∀ b, (Value.slice va n vc).ownBlock = some b → ¬ b = wx.heap.size ∧ ¬ b = wf.heap.size) := Lib.hid (fun b h => by have := (HO.out.lt b h).2; have := HSF.out; omega)
    have HSB : Hid (wf.heap.size < wy.heap.size) := Lib.hid (heap_lt HA.out)
    by_cases h8 : kd = 8
    · subst h8
      obtain ⟨r1, r2⟩ := ok8 hoW rfl
      simp only at r1 r2
      obtain ⟨x, rfl⟩ : ∃ x : Nat, xa = (x : Int) := ⟨xa.toNat, by omega⟩
      have hl8 := ln_8 hok HW.out rfl
      simp only [Int.toNat_natCast] at hl8
      have HTE : Hid ((q ++ cmp l x n) ++ [⟨4, 0, 0, 0, ⟨#[]⟩, 0⟩] = T) := Lib.hid (by rw [← HT.out, cmp_eq hok n HW.out, if_pos rfl, List.append_assoc, Int.toNat_natCast])
      have hxk : x < k := by omega
      have HX := Lib.hid (IH.out x hxk (by omega) (some ⟨b, off, none⟩) q (.slice va n vc) wy HM1.out (by have := HNQ.out; omega) HRY.out HQ0.out.own)
      rw [HNQ.out] at HX
      have HLX : Hid ((q ++ cmp l x n).length = n + ln l x) := Lib.hid (by rw [List.length_append, cmp_len hok, HNQ.out])
      generalize q ++ cmp l x n = q2 at *
      clear hoW HT IH r1 r2
      go_enter Try.func95, Try.ntmps95
      go_wp2_with fail
      refine HX.out.mono ?_
      rintro e w2 ⟨v2, rfl, hq2⟩
      have HQ2 := Lib.hid (HQ0.out.sub hq2)
      have HX2 := Lib.hid (hq2.wl.heap HA.out (by rintro (h | h); exact (HVX.out _ h).2 rfl; have := HSB.out; omega))
      have HF2 := Lib.hid (hq2.wl.heap HF1.out (by rintro (h | h); exact (HVX.out _ h).1 rfl; have := HSB.out; have := HSF.out; omega))
      obtain ⟨va2, vc2, rfl⟩ := form_of_own hq2.own
      obtain ⟨n2, hn2⟩ : ∃ n2, q2.length = n2 := ⟨_, rfl⟩
      have HN2 := Lib.hid hn2
      have HOB2 := Lib.hid hq2.ob
      rw [hn2] at HQ2 HOB2 HLX ⊢
      have hn2e : n2 = n + ln l x := HLX.out
      have HM2 : Hid (m0 ≤ w2.heap.size) := Lib.hid (Nat.le_trans HM1.out hq2.wl.size)
      have hn2b : n2 ≤ 1000 := by omega
      have HNE := Lib.hid hn2e
      clear hq2 hn2 HX hn2e
      clear hl8
      have HNW := Lib.hid (World.news_of_block (cs := #[.int .i64 4, .int .i64 0, .int .i64 0, .int .i64 0, .string ⟨#[]⟩, .int .i64 0]) (t := 125) (fr := (0, 0)) (heap_alloc_new w2 (.cells #[.int .i64 4, .int .i64 0, .int .i64 0, .int .i64 0, .string ⟨#[]⟩, .int .i64 0] 125)))
      have HQA := Lib.hid ((HQ2).out.call ((Below.refl (w2).heap.size w2).alloc (Nat.le_refl _) (.cells #[.int .i64 4, .int .i64 0, .int .i64 0, .int .i64 0, .string ⟨#[]⟩, .int .i64 0] 125)) (HM2).out)
      have HO9 := Lib.hid HQA.out.own
      rw [(HN2).out] at HO9
      go_wp2_with (at_builtin; refine wpList_append_lies _ rfl _ _ 64 rfl m0 125 i0 (.agg #[.int .i64 0, .int .i64 0, .int .i64 0, .int .i64 0, .string ByteArray.empty, .int .i64 0]) 6 56 Try.underlying64 hi hz0 hz1 hz2 rfl (by decide) _ n2 _ rfl HO9.out _ 1 1 [.int .i64 4, .int .i64 0, .int .i64 0, .int .i64 0, .string ⟨#[]⟩, .int .i64 0] rfl rfl HNW.out (by simp [Value.oneCell']) (by omega) (by unfold maxLen; omega) (by omega) (Nat.le_trans (HM2).out (by simp)) _ rfl ?_)
      intro g9 c9 w9 hown hgrow hH hlt
      have HQ9 := Lib.hid (HQA.out.grow (Nat.le_trans HM2.out (by simp)) [⟨4, 0, 0, 0, ⟨#[]⟩, 0⟩] n2 1 HN2.out rfl hown hgrow (by rw [World.size_alloc]; exact hH))
      rw [HTE.out] at HQ9
      clear hown hgrow hH hlt HNW HO9
      go_wp2_with fail
      go_ret
      exact ⟨_, rfl, HQ9.out⟩
    have k8 := kind_eq h8
    by_cases h67 : kd = 6 ∨ kd = 7
    case neg =>
      have HTE : Hid ((q ++ [⟨1, 0, no, 0, ⟨#[]⟩, 0⟩]) ++ [⟨2, kd, 0, nm, tx, 0⟩] = T) := Lib.hid (by rw [← HT.out, cmp_eq hok n HW.out, if_neg h8, if_neg h67, List.append_assoc]; rfl)
      have hl2' := ln_leaf hok HW.out h67 h8
      have hn9 : n ≤ 998 := by omega
      have k6 := kind_eq (show ¬ kd = 6 by omega)
      have k7 := kind_eq (show ¬ kd = 7 by omega)
      clear hoW HT IH h8 h67 hl2' hlen
      go_enter Try.func95, Try.ntmps95
      have HNW := Lib.hid (World.news_of_block (cs := #[.int .i64 1, .int .i64 0, .int .i64 no, .int .i64 0, .string ⟨#[]⟩, .int .i64 0]) (t := 125) (fr := (0, 0)) (heap_alloc_new wy (.cells #[.int .i64 1, .int .i64 0, .int .i64 no, .int .i64 0, .string ⟨#[]⟩, .int .i64 0] 125)))
      have HQA := Lib.hid ((HQ0).out.call ((Below.refl (wy).heap.size wy).alloc (Nat.le_refl _) (.cells #[.int .i64 1, .int .i64 0, .int .i64 no, .int .i64 0, .string ⟨#[]⟩, .int .i64 0] 125)) (HM1).out)
      have HO9 := Lib.hid HQA.out.own
      rw [(HNQ).out] at HO9
      go_wp2_with (at_builtin; refine wpList_append_lies _ rfl _ _ 64 rfl m0 125 i0 (.agg #[.int .i64 0, .int .i64 0, .int .i64 0, .int .i64 0, .string ByteArray.empty, .int .i64 0]) 6 56 Try.underlying64 hi hz0 hz1 hz2 rfl (by decide) _ n _ rfl HO9.out _ 1 1 [.int .i64 1, .int .i64 0, .int .i64 no, .int .i64 0, .string ⟨#[]⟩, .int .i64 0] rfl rfl HNW.out (by simp [Value.oneCell']) (by omega) (by unfold maxLen; omega) (by omega) (Nat.le_trans (HM1).out (by simp)) _ rfl ?_)
      intro g2 c2' w2 hown hgrow hH hlt
      have HQ2 := Lib.hid (HQA.out.grow (Nat.le_trans HM1.out (by simp)) [⟨1, 0, no, 0, ⟨#[]⟩, 0⟩] n 1 HNQ.out rfl hown hgrow (by rw [World.size_alloc]; exact hH))
      have HX2 := Lib.hid ((Wrote.of_grown hgrow).heap (heap_later ((Below.refl wy.heap.size wy).alloc (Nat.le_refl _) (.cells #[.int .i64 1, .int .i64 0, .int .i64 no, .int .i64 0, .string ⟨#[]⟩, .int .i64 0] 125)) HA.out) (fun h => (HVX.out _ h).2 rfl))
      have HN2 : Hid ((q ++ [(⟨1, 0, no, 0, ⟨#[]⟩, 0⟩ : Ins)]).length = n + 1) := Lib.hid (by rw [List.length_append, HNQ.out]; rfl)
      have HM2 : Hid (m0 ≤ w2.heap.size) := Lib.hid (by have := HM1.out; have := hgrow.size; simp at this; omega)
      clear hown hgrow hH hlt HNW HO9
      obtain ⟨n2, hn2⟩ : ∃ n2, n + 1 = n2 := ⟨_, rfl⟩
      have hn2b : n2 ≤ 999 := by omega
      rw [hn2] at HQ2 HN2 ⊢
      clear hn2 HQA y0 y1 y2 y3 y4 y5
      obtain ⟨z0, z1, z2, z3, z4, z5⟩ := box6 HX2.out
      have HNW := Lib.hid (World.news_of_block (cs := #[.int .i64 2, .int .i64 kd, .int .i64 0, .int .i64 nm, .string tx, .int .i64 0]) (t := 125) (fr := (0, 0)) (heap_alloc_new w2 (.cells #[.int .i64 2, .int .i64 kd, .int .i64 0, .int .i64 nm, .string tx, .int .i64 0] 125)))
      have HQA := Lib.hid ((HQ2).out.call ((Below.refl (w2).heap.size w2).alloc (Nat.le_refl _) (.cells #[.int .i64 2, .int .i64 kd, .int .i64 0, .int .i64 nm, .string tx, .int .i64 0] 125)) (HM2).out)
      have HO9 := Lib.hid HQA.out.own
      rw [(HN2).out] at HO9
      go_wp2_with (at_builtin; refine wpList_append_lies _ rfl _ _ 64 rfl m0 125 i0 (.agg #[.int .i64 0, .int .i64 0, .int .i64 0, .int .i64 0, .string ByteArray.empty, .int .i64 0]) 6 56 Try.underlying64 hi hz0 hz1 hz2 rfl (by decide) _ n2 _ rfl HO9.out _ 1 1 [.int .i64 2, .int .i64 kd, .int .i64 0, .int .i64 nm, .string tx, .int .i64 0] rfl rfl HNW.out (by simp [Value.oneCell']) (by omega) (by unfold maxLen; omega) (by omega) (Nat.le_trans (HM2).out (by simp)) _ rfl ?_)
      intro g9 c9 w9 hown hgrow hH hlt
      have HQ9 := Lib.hid (HQA.out.grow (Nat.le_trans HM2.out (by simp)) [⟨2, kd, 0, nm, tx, 0⟩] n2 1 HN2.out rfl hown hgrow (by rw [World.size_alloc]; exact hH))
      rw [HTE.out] at HQ9
      clear hown hgrow hH hlt HNW HO9
      go_wp2_with fail
      go_ret
      exact ⟨_, rfl, HQ9.out⟩
    obtain ⟨r1, r2, r3⟩ := ok67 hoW h67
    simp only at r1 r2 r3
    obtain ⟨x, rfl⟩ : ∃ x : Nat, xa = (x : Int) := ⟨xa.toNat, by omega⟩
    obtain ⟨y, rfl⟩ : ∃ y : Nat, xb = (y : Int) := ⟨xb.toNat, by omega⟩
    have hl67 := ln_67 hok HW.out h67
    simp only [Int.toNat_natCast] at hl67
    have HTE : Hid (q ++ (cmp l x n ++ ⟨3, 0, 0, kd - 6, ⟨#[]⟩, ((n + ln l x + 1 + ln l y : Nat) : Int)⟩ :: cmp l y (n + ln l x + 1)) = T) := Lib.hid (by
      rw [← HT.out, cmp_eq hok n HW.out, if_neg h8, if_pos h67]
      simp only [Int.toNat_natCast, cmp_len hok]
      have e : kd - 6 = if kd = 7 then 1 else 0 := by
        rcases h67 with rfl | rfl <;> rfl
      rw [e])
    have HL67 := Lib.hid hl67
    have hxk : x < k := by omega
    have hyk : y < k := by omega
    have hbd : n + ln l x + 1 + ln l y ≤ 1000 := by omega
    have HX := Lib.hid (IH.out x hxk (by omega) (some ⟨b, off, none⟩) q (.slice va n vc) wy HM1.out (by have := HNQ.out; omega) HRY.out HQ0.out.own)
    clear hl67
    rw [HNQ.out] at HX
    have HLX : Hid ((q ++ cmp l x n).length = n + ln l x) := Lib.hid (by rw [List.length_append, cmp_len hok, HNQ.out])
    obtain ⟨q2, hq2e⟩ : ∃ q2, q ++ cmp l x n = q2 := ⟨_, rfl⟩
    have HQ2E := Lib.hid hq2e
    rw [hq2e] at HX HLX
    have hk67 : 6 ≤ kd ∧ kd ≤ 7 := by omega
    have k6 : (kd == 6) = true ∨ (kd == 7) = true := by rcases h67 with rfl | rfl; exact .inl rfl; exact .inr rfl
    clear hoW HT hq2e r1 r2 r3 k6
    obtain ⟨nj, hnj⟩ : ∃ nj, kd - 6 = nj := ⟨_, rfl⟩
    have HNJ := Lib.hid hnj
    have hw6 : IntKind.i64.wrap (kd - 6) = kd - 6 := IntWalk.i64_in _ (by omega)
    rcases h67 with rfl | rfl
    · obtain rfl : nj = 0 := by omega
      clear hnj hw6
      go_enter Try.func95, Try.ntmps95
      go_wp2_with fail
      refine HX.out.mono ?_
      rintro e w2 ⟨v2, rfl, hq2⟩
      have HQ2 := Lib.hid (HQ0.out.sub hq2)
      have HX2 := Lib.hid (hq2.wl.heap HA.out (by rintro (h | h); exact (HVX.out _ h).2 rfl; have := HSB.out; omega))
      have HF2 := Lib.hid (hq2.wl.heap HF1.out (by rintro (h | h); exact (HVX.out _ h).1 rfl; have := HSB.out; have := HSF.out; omega))
      obtain ⟨va2, vc2, rfl⟩ := form_of_own hq2.own
      obtain ⟨n2, hn2⟩ : ∃ n2, q2.length = n2 := ⟨_, rfl⟩
      have HN2 := Lib.hid hn2
      have HOB2 := Lib.hid hq2.ob
      rw [hn2] at HQ2 HOB2 HLX ⊢
      have hn2e : n2 = n + ln l x := HLX.out
      have HM2 : Hid (m0 ≤ w2.heap.size) := Lib.hid (Nat.le_trans HM1.out hq2.wl.size)
      have hn2b : n2 ≤ 1000 := by omega
      have HNE := Lib.hid hn2e
      clear hq2 hn2 HX hn2e
      have hn2c : n2 + 1 + ln l y ≤ 1000 := by have := HNE.out; omega
      have HJ : Hid (∀ g3, (Value.slice va2 n2 vc2).ownBlock = some g3 → ¬ g3 = wx.heap.size ∧ ¬ g3 = wf.heap.size) := Lib.hid (fun g3 h => by
        rcases HOB2.out g3 h with h | h
        · exact HVX.out g3 h
        · have := HSB.out; have := HSF.out; omega)
      obtain ⟨y0', -, -, -, -, y5'⟩ := box6 HX2.out
      have HNW := Lib.hid (World.news_of_block (cs := #[.int .i64 3, .int .i64 0, .int .i64 0, .int .i64 0, .string ⟨#[]⟩, .int .i64 0]) (t := 125) (fr := (0, 0)) (heap_alloc_new w2 (.cells #[.int .i64 3, .int .i64 0, .int .i64 0, .int .i64 0, .string ⟨#[]⟩, .int .i64 0] 125)))
      have HQA := Lib.hid ((HQ2).out.call ((Below.refl (w2).heap.size w2).alloc (Nat.le_refl _) (.cells #[.int .i64 3, .int .i64 0, .int .i64 0, .int .i64 0, .string ⟨#[]⟩, .int .i64 0] 125)) (HM2).out)
      have HO9 := Lib.hid HQA.out.own
      rw [(HN2).out] at HO9
      go_wp2_with (at_builtin; refine wpList_append_lies _ rfl _ _ 64 rfl m0 125 i0 (.agg #[.int .i64 0, .int .i64 0, .int .i64 0, .int .i64 0, .string ByteArray.empty, .int .i64 0]) 6 56 Try.underlying64 hi hz0 hz1 hz2 rfl (by decide) _ n2 _ rfl HO9.out _ 1 1 [.int .i64 3, .int .i64 0, .int .i64 0, .int .i64 0, .string ⟨#[]⟩, .int .i64 0] rfl rfl HNW.out (by simp [Value.oneCell']) (by omega) (by unfold maxLen; omega) (by omega) (Nat.le_trans (HM2).out (by simp)) _ rfl ?_)
      intro g3 c3' w3 hown hgrow hH hlt
      have HQ3 := Lib.hid (HQA.out.grow (Nat.le_trans HM2.out (by simp)) [⟨3, 0, 0, 0, ⟨#[]⟩, 0⟩] n2 1 HN2.out rfl hown hgrow (by rw [World.size_alloc]; exact hH))
      have HX3 := Lib.hid ((Wrote.of_grown hgrow).heap (heap_later ((Below.refl w2.heap.size w2).alloc (Nat.le_refl _) (.cells #[.int .i64 3, .int .i64 0, .int .i64 0, .int .i64 0, .string ⟨#[]⟩, .int .i64 0] 125)) HX2.out) (fun h => (HJ.out _ h).2 rfl))
      have HF3 := Lib.hid ((Wrote.of_grown hgrow).heap (heap_later ((Below.refl w2.heap.size w2).alloc (Nat.le_refl _) (.cells #[.int .i64 3, .int .i64 0, .int .i64 0, .int .i64 0, .string ⟨#[]⟩, .int .i64 0] 125)) HF2.out) (fun h => (HJ.out _ h).1 rfl))
      have HN3 : Hid ((q2 ++ [(⟨3, 0, 0, 0, ⟨#[]⟩, 0⟩ : Ins)]).length = n2 + 1) := Lib.hid (by rw [List.length_append, HN2.out]; rfl)
      have HM3 : Hid (m0 ≤ w3.heap.size) := Lib.hid (by have := HM2.out; have := hgrow.size; simp at this; omega)
      have HR3 := Lib.hid (HRB.out.below HQ3.out.bel)
      clear hown hgrow hH hlt HNW HO9 y0' y5'
      have hB := IH.out y hyk (by omega) (some ⟨b, off, none⟩) (q2 ++ [(⟨3, 0, 0, 0, ⟨#[]⟩, 0⟩ : Ins)]) (.slice (some ⟨g3, 0, none⟩) (n2 + 1) c3') w3 HM3.out (by rw [HN3.out]; omega) HR3.out HQ3.out.own
      rw [HN3.out] at hB
      have HB := Lib.hid hB
      obtain ⟨q4, hq4⟩ : ∃ q4, (q2 ++ [(⟨3, 0, 0, 0, ⟨#[]⟩, 0⟩ : Ins)]) ++ cmp l y (n2 + 1) = q4 := ⟨_, rfl⟩
      rw [hq4] at HB
      have HQE := Lib.hid hq4
      obtain ⟨n4, hn4⟩ : ∃ n4, q4.length = n4 := ⟨_, rfl⟩
      have hn4b : n4 = n2 + 1 + ln l y := by rw [← hn4, ← hq4, List.length_append, HN3.out, cmp_len hok]
      have HN4' := Lib.hid hn4
      have HN4b := Lib.hid hn4b
      have hn4c : n4 ≤ 1000 := by omega
      have hn24 : n2 < n4 := by omega
      clear hB hq4 hn4 hn4b
      obtain ⟨-, -, -, -, -, z5⟩ := box6 HX3.out
      have u0 : w3.cell? ⟨wx.heap.size, 0, none⟩ = some (.slice (some ⟨b, off, none⟩) nl lc) := by simp [World.cell?, HF3.out]
      go_wp2_with fail
      refine HB.out.mono ?_
      rintro e w5 ⟨v5, rfl, hq5⟩
      have HQ5 := Lib.hid (HQ3.out.sub hq5)
      have ho5 := hq5.own
      rw [HN4'.out] at ho5
      obtain ⟨g5, c5', hv5, hg51, hg52⟩ := ho5.form (by omega)
      subst hv5
      clear hq5 ho5 z5 u0
      obtain ⟨⟨x5, e5⟩, f5⟩ := HQ5.out.cells HN4'.out n2 hn24 5 (by decide)
      have HQ6 := Lib.hid (HQ5.out.putTo HN4'.out n2 (n4 : Int))
      have HTF : Hid (setTo q4 n2 (n4 : Int) = T) := Lib.hid (by
        have e : (q2 ++ [(⟨3, 0, 0, 0, ⟨#[]⟩, 0⟩ : Ins)]) ++ cmp l y (n2 + 1) = q2 ++ (⟨3, 0, 0, 0, ⟨#[]⟩, 0⟩ : Ins) :: cmp l y (n2 + 1) := by rw [List.append_assoc]; rfl
        rw [← HQE.out, e, ← HTE.out, ← List.append_assoc, HQ2E.out]
        have h2 := HN4b.out
        have h3 := HNE.out
        have h4 := HN2.out
        subst h4
        rw [setTo_mid]
        simp only
        rw [h2, h3]
        rfl)
      rw [HTF.out] at HQ6
      go_wp2_with fail
      go_ret
      exact ⟨_, rfl, HQ6.out⟩
    · obtain rfl : nj = 1 := by omega
      clear hnj hw6
      go_enter Try.func95, Try.ntmps95
      go_wp2_with fail
      refine HX.out.mono ?_
      rintro e w2 ⟨v2, rfl, hq2⟩
      have HQ2 := Lib.hid (HQ0.out.sub hq2)
      have HX2 := Lib.hid (hq2.wl.heap HA.out (by rintro (h | h); exact (HVX.out _ h).2 rfl; have := HSB.out; omega))
      have HF2 := Lib.hid (hq2.wl.heap HF1.out (by rintro (h | h); exact (HVX.out _ h).1 rfl; have := HSB.out; have := HSF.out; omega))
      obtain ⟨va2, vc2, rfl⟩ := form_of_own hq2.own
      obtain ⟨n2, hn2⟩ : ∃ n2, q2.length = n2 := ⟨_, rfl⟩
      have HN2 := Lib.hid hn2
      have HOB2 := Lib.hid hq2.ob
      rw [hn2] at HQ2 HOB2 HLX ⊢
      have hn2e : n2 = n + ln l x := HLX.out
      have HM2 : Hid (m0 ≤ w2.heap.size) := Lib.hid (Nat.le_trans HM1.out hq2.wl.size)
      have hn2b : n2 ≤ 1000 := by omega
      have HNE := Lib.hid hn2e
      clear hq2 hn2 HX hn2e
      have hn2c : n2 + 1 + ln l y ≤ 1000 := by have := HNE.out; omega
      have HJ : Hid (∀ g3, (Value.slice va2 n2 vc2).ownBlock = some g3 → ¬ g3 = wx.heap.size ∧ ¬ g3 = wf.heap.size) := Lib.hid (fun g3 h => by
        rcases HOB2.out g3 h with h | h
        · exact HVX.out g3 h
        · have := HSB.out; have := HSF.out; omega)
      obtain ⟨y0', -, -, -, -, y5'⟩ := box6 HX2.out
      have HNW := Lib.hid (World.news_of_block (cs := #[.int .i64 3, .int .i64 0, .int .i64 0, .int .i64 1, .string ⟨#[]⟩, .int .i64 0]) (t := 125) (fr := (0, 0)) (heap_alloc_new w2 (.cells #[.int .i64 3, .int .i64 0, .int .i64 0, .int .i64 1, .string ⟨#[]⟩, .int .i64 0] 125)))
      have HQA := Lib.hid ((HQ2).out.call ((Below.refl (w2).heap.size w2).alloc (Nat.le_refl _) (.cells #[.int .i64 3, .int .i64 0, .int .i64 0, .int .i64 1, .string ⟨#[]⟩, .int .i64 0] 125)) (HM2).out)
      have HO9 := Lib.hid HQA.out.own
      rw [(HN2).out] at HO9
      go_wp2_with (at_builtin; refine wpList_append_lies _ rfl _ _ 64 rfl m0 125 i0 (.agg #[.int .i64 0, .int .i64 0, .int .i64 0, .int .i64 0, .string ByteArray.empty, .int .i64 0]) 6 56 Try.underlying64 hi hz0 hz1 hz2 rfl (by decide) _ n2 _ rfl HO9.out _ 1 1 [.int .i64 3, .int .i64 0, .int .i64 0, .int .i64 1, .string ⟨#[]⟩, .int .i64 0] rfl rfl HNW.out (by simp [Value.oneCell']) (by omega) (by unfold maxLen; omega) (by omega) (Nat.le_trans (HM2).out (by simp)) _ rfl ?_)
      intro g3 c3' w3 hown hgrow hH hlt
      have HQ3 := Lib.hid (HQA.out.grow (Nat.le_trans HM2.out (by simp)) [⟨3, 0, 0, 1, ⟨#[]⟩, 0⟩] n2 1 HN2.out rfl hown hgrow (by rw [World.size_alloc]; exact hH))
      have HX3 := Lib.hid ((Wrote.of_grown hgrow).heap (heap_later ((Below.refl w2.heap.size w2).alloc (Nat.le_refl _) (.cells #[.int .i64 3, .int .i64 0, .int .i64 0, .int .i64 1, .string ⟨#[]⟩, .int .i64 0] 125)) HX2.out) (fun h => (HJ.out _ h).2 rfl))
      have HF3 := Lib.hid ((Wrote.of_grown hgrow).heap (heap_later ((Below.refl w2.heap.size w2).alloc (Nat.le_refl _) (.cells #[.int .i64 3, .int .i64 0, .int .i64 0, .int .i64 1, .string ⟨#[]⟩, .int .i64 0] 125)) HF2.out) (fun h => (HJ.out _ h).1 rfl))
      have HN3 : Hid ((q2 ++ [(⟨3, 0, 0, 1, ⟨#[]⟩, 0⟩ : Ins)]).length = n2 + 1) := Lib.hid (by rw [List.length_append, HN2.out]; rfl)
      have HM3 : Hid (m0 ≤ w3.heap.size) := Lib.hid (by have := HM2.out; have := hgrow.size; simp at this; omega)
      have HR3 := Lib.hid (HRB.out.below HQ3.out.bel)
      clear hown hgrow hH hlt HNW HO9 y0' y5'
      have hB := IH.out y hyk (by omega) (some ⟨b, off, none⟩) (q2 ++ [(⟨3, 0, 0, 1, ⟨#[]⟩, 0⟩ : Ins)]) (.slice (some ⟨g3, 0, none⟩) (n2 + 1) c3') w3 HM3.out (by rw [HN3.out]; omega) HR3.out HQ3.out.own
      rw [HN3.out] at hB
      have HB := Lib.hid hB
      obtain ⟨q4, hq4⟩ : ∃ q4, (q2 ++ [(⟨3, 0, 0, 1, ⟨#[]⟩, 0⟩ : Ins)]) ++ cmp l y (n2 + 1) = q4 := ⟨_, rfl⟩
      rw [hq4] at HB
      have HQE := Lib.hid hq4
      obtain ⟨n4, hn4⟩ : ∃ n4, q4.length = n4 := ⟨_, rfl⟩
      have hn4b : n4 = n2 + 1 + ln l y := by rw [← hn4, ← hq4, List.length_append, HN3.out, cmp_len hok]
      have HN4' := Lib.hid hn4
      have HN4b := Lib.hid hn4b
      have hn4c : n4 ≤ 1000 := by omega
      have hn24 : n2 < n4 := by omega
      clear hB hq4 hn4 hn4b
      obtain ⟨-, -, -, -, -, z5⟩ := box6 HX3.out
      have u0 : w3.cell? ⟨wx.heap.size, 0, none⟩ = some (.slice (some ⟨b, off, none⟩) nl lc) := by simp [World.cell?, HF3.out]
      go_wp2_with fail
      refine HB.out.mono ?_
      rintro e w5 ⟨v5, rfl, hq5⟩
      have HQ5 := Lib.hid (HQ3.out.sub hq5)
      have ho5 := hq5.own
      rw [HN4'.out] at ho5
      obtain ⟨g5, c5', hv5, hg51, hg52⟩ := ho5.form (by omega)
      subst hv5
      clear hq5 ho5 z5 u0
      obtain ⟨⟨x5, e5⟩, f5⟩ := HQ5.out.cells HN4'.out n2 hn24 5 (by decide)
      have HQ6 := Lib.hid (HQ5.out.putTo HN4'.out n2 (n4 : Int))
      have HTF : Hid (setTo q4 n2 (n4 : Int) = T) := Lib.hid (by
        have e : (q2 ++ [(⟨3, 0, 0, 1, ⟨#[]⟩, 0⟩ : Ins)]) ++ cmp l y (n2 + 1) = q2 ++ (⟨3, 0, 0, 1, ⟨#[]⟩, 0⟩ : Ins) :: cmp l y (n2 + 1) := by rw [List.append_assoc]; rfl
        rw [← HQE.out, e, ← HTE.out, ← List.append_assoc, HQ2E.out]
        have h2 := HN4b.out
        have h3 := HNE.out
        have h4 := HN2.out
        subst h4
        rw [setTo_mid]
        simp only
        rw [h2, h3]
        rfl)
      rw [HTF.out] at HQ6
      go_wp2_with fail
      go_ret
      exact ⟨_, rfl, HQ6.out⟩
end Go.Proofs.Ytlmgckijbamgpaa
