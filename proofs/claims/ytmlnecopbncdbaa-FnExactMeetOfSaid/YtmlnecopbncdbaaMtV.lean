/- What both of two trees tell: the reference, messages. -/
import Derived.Test.YtmlnecopbncdbaaMtU
namespace Go.Proofs.Ytmlnecopbncdbaa
set_option linter.unusedVariables false
set_option linter.unusedSimpArgs false
open Go.ChangeShapes Go.WideShapes Go.ChangeAt Go.RowKit
set_option maxRecDepth 100000

theorem meetv_no {S : Nat → Prop} {a b : Tr} {w w' : World} {kk : Int} {nn : ByteArray} {oo : Int} {mm : Bool} {pp : Int} {sa : Option Addr} {sn sc : Nat} (h : meetT a b = none) (hb : Below w.heap.size w w') : MeetV S a b w (.returned (.tuple #[.agg #[.int .i64 kk, .string nn, .int .i64 oo, .bool mm, .int .i64 pp, .slice sa sn sc], .bool false])) w' :=
  ⟨_, _, _, _, _, _, _, _, false, rfl, hb, .inl ⟨h, rfl⟩⟩
theorem meetv_yes {S : Nat → Prop} {a b t : Tr} {w w' : World} {kk : Int} {nn : ByteArray} {oo : Int} {mm : Bool} {pp : Int} {sa : Option Addr} {sn sc : Nat} (h : meetT a b = some t) (hb : Below w.heap.size w w') (hk : KS (fun q => S q ∨ w.heap.size ≤ q) w' t [.int .i64 kk, .string nn, .int .i64 oo, .bool mm, .int .i64 pp, .slice sa sn sc]) : MeetV S a b w (.returned (.tuple #[.agg #[.int .i64 kk, .string nn, .int .i64 oo, .bool mm, .int .i64 pp, .slice sa sn sc], .bool true])) w' :=
  ⟨_, _, _, _, _, _, _, _, true, rfl, hb, .inr ⟨_, h, rfl, hk⟩⟩
theorem wrote_hp {S : Nat → Prop} {wx wy : World} (h : Wrote S wx wy) {X : Nat} {o : Obj} (hX : wx.heap[X]? = some o) (hS : ¬ S X) : wy.heap[X]? = some o := (h.block X (hp_lt hX) hS).trans hX
set_option maxHeartbeats 16000000 in
theorem meet_msg_tg {S : Nat → Prop} {w : World} (nm nm' : ByteArray) (no no' : Int) (m' : Bool) (mo mo' : Int) (k k' : Int) (hk : k = k') (h4 : ¬ k = 4) (ks us : List Tr) {va vb : Option Addr} {ca cb : Nat} {vsa vsb : List (List Value)} (hnm : nm.size ≤ maxLen) (hnm' : nm'.size ≤ maxLen) (hca : ks.length ≤ ca) (hcam : ca ≤ 9223372036854775807) (hcb : us.length ≤ cb) (hcbm : cb ≤ 9223372036854775807) (hra : RS S w va (List.flatten vsa)) (hka : KSs S w ks vsa) (hrb : RS S w vb (List.flatten vsb)) (hkb : KSs S w us vsb) (hll : ks.length + us.length ≤ 1048576) (hcmp : ¬ mo' < mo)
    (IH : ∀ (S' : Nat → Prop) (wx : World) (x y : Tr) (px py : List Value), x ∈ ks → y ∈ us → KS S' wx x px → KS S' wx y py → Calls Try.prog 34 #[.agg px.toArray, .agg py.toArray] wx (MeetV S' x y wx)) :
    Calls Try.prog 34 #[.agg #[.int .i64 k, .string nm, .int .i64 no, .bool true, .int .i64 mo, .slice va ks.length ca], .agg #[.int .i64 k', .string nm', .int .i64 no', .bool m', .int .i64 mo', .slice vb us.length cb]] w (MeetV S (.node k nm no true mo ks) (.node k' nm' no' m' mo' us) w) := by
  have HT := Lib.hid (meetT_msg (a := .node k nm no true mo ks) (b := .node k' nm' no' m' mo' us) hk h4)
  simp only [Tr.kind, Tr.name, Tr.no, Tr.must, Tr.most, Tr.kids] at HT
  have nk : (k != k') = false := by rw [hk]; exact bne_self_eq_false _
  have n4 : (k == 4) = false := beq_eq_false_iff_ne.2 h4
  have hmin : min mo mo' = mo := by omega
  rw [hmin] at HT
  have HSH := Lib.hid (fun wx => spec_l2Shell k nm no true mo va ks.length ca wx)
  have HIH := Lib.hid IH
  have hA : KS S w (.node k nm no true mo ks) [.int .i64 k, .string nm, .int .i64 no, .bool true, .int .i64 mo, .slice va ks.length ca] := by rw [KS]; exact ⟨va, ca, vsa, rfl, hnm, hca, hcam, hra, hka⟩
  have hB : KS S w (.node k' nm' no' m' mo' us) [.int .i64 k', .string nm', .int .i64 no', .bool m', .int .i64 mo', .slice vb us.length cb] := by rw [KS]; exact ⟨vb, cb, vsb, rfl, hnm', hcb, hcbm, hrb, hkb⟩
  have HBYA : Hid (∀ wx no2, Below w.heap.size w wx → Calls Try.prog 65 #[.agg #[.int .i64 k, .string nm, .int .i64 no, .bool true, .int .i64 mo, .slice va ks.length ca], .int .i64 no2] wx (ByO (fun q => S q ∧ q < w.heap.size) (.node k nm no true mo ks) no2 wx)) := Lib.hid (fun wx no2 hbx => spec_l2By (KS.keep (kept_below hbx) (fun q h hl => ⟨h, hl⟩) _ _ hA) (show ks.length ≤ 1048576 by omega) no2)
  have HBYB : Hid (∀ wx no2, Below w.heap.size w wx → Calls Try.prog 65 #[.agg #[.int .i64 k', .string nm', .int .i64 no', .bool m', .int .i64 mo', .slice vb us.length cb], .int .i64 no2] wx (ByO (fun q => S q ∧ q < w.heap.size) (.node k' nm' no' m' mo' us) no2 wx)) := Lib.hid (fun wx no2 hbx => spec_l2By (KS.keep (kept_below hbx) (fun q h hl => ⟨h, hl⟩) _ _ hB) (show us.length ≤ 1048576 by omega) no2)
  unfold ByO at HBYA HBYB
  simp only [Tr.kids] at HBYA HBYB
  have HRA := Lib.hid hra; have HKA := Lib.hid hka; have HRB := Lib.hid hrb; have HKB := Lib.hid hkb
  have HNM := Lib.hid hnm
  clear hk h4 hA hB IH hra hka hrb hkb hmin hnm hnm'
  have hB1 := Below.alloc (Below.refl w.heap.size w) (Nat.le_refl _) (.cells #[.int .i64 k, .string nm, .int .i64 no, .bool true, .int .i64 mo, .slice va ks.length ca] 59)
  have hX1 := heap_alloc_new w (.cells #[.int .i64 k, .string nm, .int .i64 no, .bool true, .int .i64 mo, .slice va ks.length ca] 59)
  generalize hw1 : w.alloc (.cells #[.int .i64 k, .string nm, .int .i64 no, .bool true, .int .i64 mo, .slice va ks.length ca] 59) = w1 at *
  have l1 := hp_lt hX1
  have hB2 := hB1.alloc (Nat.le_of_lt l1) (.cells #[.int .i64 k', .string nm', .int .i64 no', .bool m', .int .i64 mo', .slice vb us.length cb] 59)
  have hX1 := hp_alloc (.cells #[.int .i64 k', .string nm', .int .i64 no', .bool m', .int .i64 mo', .slice vb us.length cb] 59) hX1
  have hX2 := heap_alloc_new w1 (.cells #[.int .i64 k', .string nm', .int .i64 no', .bool m', .int .i64 mo', .slice vb us.length cb] 59)
  generalize hw2 : w1.alloc (.cells #[.int .i64 k', .string nm', .int .i64 no', .bool m', .int .i64 mo', .slice vb us.length cb] 59) = w2 at *
  have l2 := hp_lt hX2
  have hB3 := hB2.alloc (by omega) (.cells #[.int .i64 0, .string { data := #[] }, .int .i64 0, .bool false, .int .i64 0, .slice none 0 0] 59)
  have hX1 := hp_alloc (.cells #[.int .i64 0, .string { data := #[] }, .int .i64 0, .bool false, .int .i64 0, .slice none 0 0] 59) hX1
  have hX2 := hp_alloc (.cells #[.int .i64 0, .string { data := #[] }, .int .i64 0, .bool false, .int .i64 0, .slice none 0 0] 59) hX2
  have hX3 := heap_alloc_new w2 (.cells #[.int .i64 0, .string { data := #[] }, .int .i64 0, .bool false, .int .i64 0, .slice none 0 0] 59)
  generalize hw3 : w2.alloc (.cells #[.int .i64 0, .string { data := #[] }, .int .i64 0, .bool false, .int .i64 0, .slice none 0 0] 59) = w3 at *
  have l3 := hp_lt hX3
  have HB3 := Lib.hid hB3
  have HX1 := Lib.hid hX1
  have HX2 := Lib.hid hX2
  have HX3 := Lib.hid hX3
  obtain ⟨a0, a1, a2, a3, a4, a5⟩ := box6 hX1
  obtain ⟨b0, b1, b2, b3, b4, b5⟩ := box6 hX2
  clear hB1 hB2 hB3 hX1 hX2 hX3
  have HSH := Lib.hid (HSH.out w3)
  go_enter Try.func34, Try.ntmps34
  go_wp2_with fail
  refine HSH.out.mono ?_
  rintro e w4 ⟨rfl, hb4⟩
  have hz4 := hb4.size
  have hX6 := heap_alloc_new w4 (.cells #[.int .i64 k, .string nm, .int .i64 no, .bool true, .int .i64 mo, .slice none 0 0] 59)
  have hb5 := hb4.alloc hb4.size (.cells #[.int .i64 k, .string nm, .int .i64 no, .bool true, .int .i64 mo, .slice none 0 0] 59)
  generalize hw5 : w4.alloc (.cells #[.int .i64 k, .string nm, .int .i64 no, .bool true, .int .i64 mo, .slice none 0 0] 59) = w5z at *
  obtain ⟨-, -, -, -, -, oz5⟩ := box6 hX6
  have fz5 := box6_z hX6 5
  have hX6 := box6_t5 hX6 (.slice none 0 0)
  have hb5 := below_set hb5 hz4 5 (.slice none 0 0)
  generalize hw5b : w5z.setCell ⟨w4.heap.size, 5, none⟩ (.slice none 0 0) = w5 at *
  have l5 := hp_lt hX6
  have HX1 := Lib.hid (hp_later hb5 HX1.out)
  have HX2 := Lib.hid (hp_later hb5 HX2.out)
  have HX3 := Lib.hid (hp_later hb5 HX3.out)
  have HB5 := Lib.hid (HB3.out.trans (hb5.mono HB3.out.size))
  have f3 := box6_z hX6 3
  have f4 := box6_z (box6_t3 hX6 (.bool true)) 4
  clear hb4 hb5 a0 a1 a2 a3 a4 a5 b0 b1 b2 b3 b4 b5
  obtain ⟨o0, o1, o2, o3, o4, o5⟩ := box6 hX6
  obtain ⟨a0, a1, a2, a3, a4, a5⟩ := box6 HX1.out
  obtain ⟨b0, b1, b2, b3, b4, b5⟩ := box6 HX2.out
  have hX6 := box6_t3 hX6 (.bool true)
  have HX1 := Lib.hid (hp_set (Y := w4.heap.size) (i := 3) (u := .bool true) HX1.out (by omega))
  have HX2 := Lib.hid (hp_set (Y := w4.heap.size) (i := 3) (u := .bool true) HX2.out (by omega))
  have HX3 := Lib.hid (hp_set (Y := w4.heap.size) (i := 3) (u := .bool true) HX3.out (by omega))
  have HB6 := Lib.hid (below_set HB5.out (show w.heap.size ≤ w4.heap.size by omega) 3 (.bool true))
  generalize hw6 : w5.setCell ⟨w4.heap.size, 3, none⟩ (.bool true) = w6 at *
  have l6 := hp_lt hX6
  obtain ⟨p0, p1, p2, p3, p4, p5⟩ := box6 hX6
  obtain ⟨c0, c1, c2, c3, c4, c5⟩ := box6 HX1.out
  obtain ⟨d0, d1, d2, d3, d4, d5⟩ := box6 HX2.out
  obtain ⟨w7, rfl⟩ : ∃ z : World, z = w6 := ⟨_, rfl⟩
  have HX6 := Lib.hid hX6
  have HB7 := HB6
  have l7 := l6
  clear hX6
  have hzw7 := HB7.out.size
  have HOUT7 : Hid (OutAt (mrS S w.heap.size w4.heap.size w2.heap.size) w4.heap.size w7.heap.size w7 k nm no true mo [] (.slice none 0 0) [] w7) := Lib.hid ⟨HX6.out, World.ownsRow_nil _ _ _ _, by rw [KSs], fun _ => rfl, Wrote.refl _ _, l7, Nat.le_refl _⟩
  go_wp2_with fail
  go_loopw [65] (fun iv wr => ∃ (i : Nat) (l L6 : List Tr) (a6 : Option Addr) (c6 : Nat) (vss : List (List Value)), i ≤ ks.length ∧ iv = .int .i64 (i : Int) ∧ Hid (L6.length = i) ∧ Hid (l.length = i) ∧ Hid (L6 = sortNo l) ∧ Hid (meetL (ks.take i) us = some l) ∧ Hid (OutAt (mrS S w.heap.size w4.heap.size w2.heap.size) w4.heap.size w7.heap.size w7 k nm no true mo L6 (.slice a6 L6.length c6) vss wr)) (fun iv _ => ks.length - (intOf iv).toNat)
  case atStart => exact ⟨0, [], [], none, 0, [], by omega, rfl, Lib.hid rfl, Lib.hid rfl, Lib.hid rfl, Lib.hid (by rw [List.take_zero, meetL]), HOUT7⟩
  case round =>
    obtain ⟨wo, rfl⟩ : ∃ z : World, z = wr := ⟨_, rfl⟩
    obtain ⟨i, l, L6, a6, c6, vss, hil, rfl, HN6, HN, HS6, HL, HO⟩ := hrel
    have HBo := Lib.hid (rwrote HB7.out HO.out.wrote (fun q hq => by omega))
    have hzo := HO.out.size
    have HAo := Lib.hid (wrote_hp HO.out.wrote HX1.out (by omega))
    have HDo := Lib.hid (wrote_hp HO.out.wrote HX2.out (by omega))
    have HRo := Lib.hid (wrote_hp HO.out.wrote HX3.out (by omega))
    clear HX6 HOUT7
    by_cases hend : i < ks.length
    case neg =>
      have hie : i = ks.length := by omega
      have HLL : Hid (meetL ks us = some l) := Lib.hid (by have := HL.out; rwa [hie, List.take_length] at this)
      clear hie HL HN
      clear a0 a1 a2 a3 a4 a5 b0 b1 b2 b3 b4 b5 c0 c1 c2 c3 c4 c5 d0 d1 d2 d3 d4 d5 o0 o1 o2 o3 o4 o5 p0 p1 p2 p3 p4 p5 f3 f4 fz5 oz5
      obtain ⟨b0, b1, b2, b3, b4, b5⟩ := box6 HDo.out
      have hge : ¬ ((i : Int) < (ks.length : Int)) := by omega
      go_wp2_with fail
      go_loopw [97] (fun jv wr => ∃ (j : Nat) (L6 : List Tr) (a6 : Option Addr) (c6 : Nat) (vss : List (List Value)), j ≤ us.length ∧ jv = .int .i64 (j : Int) ∧ Hid (L6.length ≤ i + j) ∧ Hid (L6 = sortNo (l ++ restP ks (us.take j))) ∧ Hid (OutAt (mrS S w.heap.size w4.heap.size w2.heap.size) w4.heap.size w7.heap.size w7 k nm no true mo L6 (.slice a6 L6.length c6) vss wr)) (fun jv _ => us.length - (intOf jv).toNat)
      case atStart => exact ⟨0, L6, a6, c6, vss, by omega, rfl, Lib.hid (by rw [HN6.out]; omega), Lib.hid (by rw [List.take_zero]; unfold restP; rw [List.filter_nil, List.append_nil]; exact HS6.out), HO⟩
      case round =>
        clear HO HAo HDo HRo HBo hzo HN6 HS6 b0 b1 b2 b3 b4 b5
        obtain ⟨wv, rfl⟩ : ∃ z : World, z = wr := ⟨_, rfl⟩
        obtain ⟨j, L6, a6, c6, vss, hjl, rfl, HN6, HS6, HO⟩ := hrel
        have HBo := Lib.hid (rwrote HB7.out HO.out.wrote (fun q hq => by omega))
        have hzo := HO.out.size
        have HAo := Lib.hid (wrote_hp HO.out.wrote HX1.out (by omega))
        have HRo := Lib.hid (wrote_hp HO.out.wrote HX3.out (by omega))
        by_cases hjend : j < us.length
        case neg =>
          have hje : j = us.length := by omega
          have HLM : Hid (L6 = sortNo (l ++ restP ks us)) := Lib.hid (by have := HS6.out; rwa [hje, List.take_length] at this)
          have hgj : ¬ ((j : Int) < (us.length : Int)) := by omega
          have HKF := Lib.hid (HO.out.done HNM.out (show w.heap.size ≤ w2.heap.size by omega) hzw7 (by omega) (by omega))
          have HBF := Lib.hid (below_set6 HBo.out (show w.heap.size ≤ w2.heap.size by omega) (.int .i64 k) (.string nm) (.int .i64 no) (.bool true) (.int .i64 mo) (.slice a6 L6.length c6))
          unfold set6 at HKF HBF
          have HXo := Lib.hid HO.out.cells
          obtain ⟨y0, y1, y2, y3, y4, y5⟩ := box6 HXo.out
          clear hje
          obtain ⟨sa0, -, -, -, -, -⟩ := box6 HRo.out
          have sf0 := box6_z HRo.out 0
          have HSA := Lib.hid (box6_t0 HRo.out (.int .i64 k))
          generalize hsA : (wv).setCell ⟨w2.heap.size, 0, none⟩ (.int .i64 k) = wsA at *
          obtain ⟨-, sa1, -, -, -, -⟩ := box6 HSA.out
          have sf1 := box6_z HSA.out 1
          have HSB := Lib.hid (box6_t1 HSA.out (.string nm))
          generalize hsB : wsA.setCell ⟨w2.heap.size, 1, none⟩ (.string nm) = wsB at *
          obtain ⟨-, -, sa2, -, -, -⟩ := box6 HSB.out
          have sf2 := box6_z HSB.out 2
          have HSC := Lib.hid (box6_t2 HSB.out (.int .i64 no))
          generalize hsC : wsB.setCell ⟨w2.heap.size, 2, none⟩ (.int .i64 no) = wsC at *
          obtain ⟨-, -, -, sa3, -, -⟩ := box6 HSC.out
          have sf3 := box6_z HSC.out 3
          have HSD := Lib.hid (box6_t3 HSC.out (.bool true))
          generalize hsD : wsC.setCell ⟨w2.heap.size, 3, none⟩ (.bool true) = wsD at *
          obtain ⟨-, -, -, -, sa4, -⟩ := box6 HSD.out
          have sf4 := box6_z HSD.out 4
          have HSE := Lib.hid (box6_t4 HSD.out (.int .i64 mo))
          generalize hsE : wsD.setCell ⟨w2.heap.size, 4, none⟩ (.int .i64 mo) = wsE at *
          obtain ⟨-, -, -, -, -, sa5⟩ := box6 HSE.out
          have sf5 := box6_z HSE.out 5
          have HSF := Lib.hid (box6_t5 HSE.out (.slice a6 L6.length c6))
          generalize hsF : wsE.setCell ⟨w2.heap.size, 5, none⟩ (.slice a6 L6.length c6) = wsF at *
          obtain ⟨sg0, sg1, sg2, sg3, sg4, sg5⟩ := box6 HSF.out
          go_wp2_with fail
          refine bodyPost_ret (v := .tuple #[.agg #[.int .i64 k, .string nm, .int .i64 no, .bool true, .int .i64 mo, .slice a6 L6.length c6], .bool true]) (by simp [results, Try.results34, go_sem, sg0, sg1, sg2, sg3, sg4, sg5]) rfl ?_
          exact meetv_yes (by rw [HT.out, HLL.out]) HBF.out (by rw [← HLM.out]; simpa using HKF.out)
        obtain ⟨y, hy⟩ : ∃ y, us[j]? = some y := ⟨us[j], List.getElem?_eq_getElem hjend⟩
        obtain ⟨qb, offq, vy, cy, rfl, hqb, q0, q1, q2, q3, q4, q5, hky, -⟩ := kss_at HRB.out HKB.out HBo.out hy
        have HKY := Lib.hid (KS.keep (T := (fun q => S q ∧ q < w.heap.size)) (kept_below HBo.out) (fun q h hl => ⟨h, hl⟩) _ _ hky)
        have hqo : qb < wv.heap.size := by have := HBo.out.size; omega
        have hbn := (Below.refl wv.heap.size wv).alloc (Nat.le_refl _) (.cells #[.int .i64 y.kind, .string y.name, .int .i64 y.no, .bool y.must, .int .i64 y.most, .slice vy y.kids.length cy] 59)
        have HXn := Lib.hid (heap_alloc_new wv (.cells #[.int .i64 y.kind, .string y.name, .int .i64 y.no, .bool y.must, .int .i64 y.most, .slice vy y.kids.length cy] 59))
        have HAn := Lib.hid (hp_later hbn HAo.out)
        have HOn := Lib.hid (HO.out.later hbn)
        have HBn := Lib.hid (HBo.out.trans (hbn.mono HBo.out.size))
        have HKYn := Lib.hid (HKY.out.later hbn)
        have hzn : wv.heap.size < (wv.alloc (.cells #[.int .i64 y.kind, .string y.name, .int .i64 y.no, .bool y.must, .int .i64 y.most, .slice vy y.kids.length cy] 59)).heap.size := by simp
        have HRT := Lib.hid (restP_take (ks := ks) hy)
        clear hy hky hbn HO HAo HRo HKY
        generalize hwn : wv.alloc (.cells #[.int .i64 y.kind, .string y.name, .int .i64 y.no, .bool y.must, .int .i64 y.most, .slice vy y.kids.length cy] 59) = wn at *
        obtain ⟨b0, b1, b2, b3, b4, b5⟩ := box6 HAn.out
        obtain ⟨x0, x1, x2, x3, x4, x5⟩ := box6 HXn.out
        have HP := Lib.hid (HBYA.out wn y.no HBn.out)
        go_wp2_with fail
        refine HP.out.mono ?_
        rintro e wb ⟨cs, bx, rfl, hb, ⟨hno, rfl, rfl⟩ | ⟨x, hyes, rfl, hkx⟩⟩
        · have hbz := below_set6 (hb.alloc hb.size (.cells #[.int .i64 0, .string { data := #[] }, .int .i64 0, .bool false, .int .i64 0, .slice none 0 0] 59)) (X := wb.heap.size) hb.size (.int .i64 0) (.string { data := #[] }) (.int .i64 0) (.bool false) (.int .i64 0) (.slice none 0 0)
          unfold set6 at hbz
          have HYz := Lib.hid (heap_alloc_new wb (.cells #[.int .i64 0, .string { data := #[] }, .int .i64 0, .bool false, .int .i64 0, .slice none 0 0] 59))
          have HXz := Lib.hid (hp_later hbz HXn.out)
          have HOz := Lib.hid (HOn.out.later hbz)
          have HKYz := Lib.hid (HKYn.out.later hbz)
          have hwz0 := HOz.out.size
          have HR2 : Hid (restP ks (us.take (j + 1)) = restP ks (us.take j) ++ [y]) := Lib.hid (by rw [HRT.out, hno]; rfl)
          clear hb hbz hno b0 b1 b2 b3 b4 b5 x0 x1 x2 x3 x4 x5 q0 q1 q2 q3 q4 q5 HP
          generalize hwz : wb.alloc (.cells #[.int .i64 0, .string { data := #[] }, .int .i64 0, .bool false, .int .i64 0, .slice none 0 0] 59) = wz at *
          obtain ⟨sa0, -, -, -, -, -⟩ := box6 HYz.out
          have sf0 := box6_z HYz.out 0
          have HSA := Lib.hid (box6_t0 HYz.out (.int .i64 0))
          generalize hsA : (wz).setCell ⟨wb.heap.size, 0, none⟩ (.int .i64 0) = wsA at *
          obtain ⟨-, sa1, -, -, -, -⟩ := box6 HSA.out
          have sf1 := box6_z HSA.out 1
          have HSB := Lib.hid (box6_t1 HSA.out (.string { data := #[] }))
          generalize hsB : wsA.setCell ⟨wb.heap.size, 1, none⟩ (.string { data := #[] }) = wsB at *
          obtain ⟨-, -, sa2, -, -, -⟩ := box6 HSB.out
          have sf2 := box6_z HSB.out 2
          have HSC := Lib.hid (box6_t2 HSB.out (.int .i64 0))
          generalize hsC : wsB.setCell ⟨wb.heap.size, 2, none⟩ (.int .i64 0) = wsC at *
          obtain ⟨-, -, -, sa3, -, -⟩ := box6 HSC.out
          have sf3 := box6_z HSC.out 3
          have HSD := Lib.hid (box6_t3 HSC.out (.bool false))
          generalize hsD : wsC.setCell ⟨wb.heap.size, 3, none⟩ (.bool false) = wsD at *
          obtain ⟨-, -, -, -, sa4, -⟩ := box6 HSD.out
          have sf4 := box6_z HSD.out 4
          have HSE := Lib.hid (box6_t4 HSD.out (.int .i64 0))
          generalize hsE : wsD.setCell ⟨wb.heap.size, 4, none⟩ (.int .i64 0) = wsE at *
          obtain ⟨-, -, -, -, -, sa5⟩ := box6 HSE.out
          have sf5 := box6_z HSE.out 5
          have HSF := Lib.hid (box6_t5 HSE.out (.slice none 0 0))
          generalize hsF : wsE.setCell ⟨wb.heap.size, 5, none⟩ (.slice none 0 0) = wsF at *
          obtain ⟨sg0, sg1, sg2, sg3, sg4, sg5⟩ := box6 HSF.out
          obtain ⟨x0, x1, x2, x3, x4, x5⟩ := box6 HXz.out
          have HKYS := Lib.hid (KS.keep (T := (mrS S w.heap.size w4.heap.size w2.heap.size)) (Kept.refl _ _) (fun q h _ => .inl h) _ _ HKYz.out)
          have HPUT := Lib.hid (out_put HOz.out (mrS_X (show w.heap.size ≤ w4.heap.size by omega)) (show L6.length ≤ 1048576 by have := HN6.out; omega) HKYS.out)
          have HXZ := Lib.hid (HOz.out.cells)
          obtain ⟨s0, s1, s2, s3, s4, s5⟩ := box6 HXZ.out
          go_wp2_with fail
          refine HPUT.out.mono ?_
          rintro e wp ⟨a', c', vss', rfl, hbp, hout⟩
          have HXP := Lib.hid (hp_later hbp HXZ.out)
          unfold set6 at hout
          have HOUTP := Lib.hid hout
          clear hbp hout s0 s1 s2 s3 s4 s5
          obtain ⟨sa0, -, -, -, -, -⟩ := box6 HXP.out
          have sf0 := box6_z HXP.out 0
          have HSA := Lib.hid (box6_t0 HXP.out (.int .i64 k))
          generalize hsA : (wp).setCell ⟨w4.heap.size, 0, none⟩ (.int .i64 k) = wsA at *
          obtain ⟨-, sa1, -, -, -, -⟩ := box6 HSA.out
          have sf1 := box6_z HSA.out 1
          have HSB := Lib.hid (box6_t1 HSA.out (.string nm))
          generalize hsB : wsA.setCell ⟨w4.heap.size, 1, none⟩ (.string nm) = wsB at *
          obtain ⟨-, -, sa2, -, -, -⟩ := box6 HSB.out
          have sf2 := box6_z HSB.out 2
          have HSC := Lib.hid (box6_t2 HSB.out (.int .i64 no))
          generalize hsC : wsB.setCell ⟨w4.heap.size, 2, none⟩ (.int .i64 no) = wsC at *
          obtain ⟨-, -, -, sa3, -, -⟩ := box6 HSC.out
          have sf3 := box6_z HSC.out 3
          have HSD := Lib.hid (box6_t3 HSC.out (.bool true))
          generalize hsD : wsC.setCell ⟨w4.heap.size, 3, none⟩ (.bool true) = wsD at *
          obtain ⟨-, -, -, -, sa4, -⟩ := box6 HSD.out
          have sf4 := box6_z HSD.out 4
          have HSE := Lib.hid (box6_t4 HSD.out (.int .i64 mo))
          generalize hsE : wsD.setCell ⟨w4.heap.size, 4, none⟩ (.int .i64 mo) = wsE at *
          obtain ⟨-, -, -, -, -, sa5⟩ := box6 HSE.out
          have sf5 := box6_z HSE.out 5
          have HSF := Lib.hid (box6_t5 HSE.out (.slice a' (L6.length + 1) c'))
          generalize hsF : wsE.setCell ⟨w4.heap.size, 5, none⟩ (.slice a' (L6.length + 1) c') = wsF at *
          obtain ⟨sg0, sg1, sg2, sg3, sg4, sg5⟩ := box6 HSF.out
          go_wp2_with fail
          go_roundw
          case rel => exact ⟨j + 1, putNo L6 y, a', c', vss', by omega, by go_num, Lib.hid (by rw [putNo_len]; have := HN6.out; omega), Lib.hid (by rw [HR2.out, ← List.append_assoc, sortNo_snoc, HS6.out]), Lib.hid (by rw [putNo_len]; exact HOUTP.out)⟩
          case measure => (simp [intOf]; try omega)
        obtain ⟨vx, cx, xss, rfl, -⟩ := hkx.open
        have hbz := hb.alloc hb.size (.cells #[.int .i64 x.kind, .string x.name, .int .i64 x.no, .bool x.must, .int .i64 x.most, .slice vx x.kids.length cx] 59)
        have HOz := Lib.hid (HOn.out.later hbz)
        have HR2 : Hid (restP ks (us.take (j + 1)) = restP ks (us.take j)) := Lib.hid (by rw [HRT.out, hyes]; rfl)
        clear hb hbz hkx hyes b0 b1 b2 b3 b4 b5 x0 x1 x2 x3 x4 x5 q0 q1 q2 q3 q4 q5 HP
        generalize hwz : wb.alloc (.cells #[.int .i64 x.kind, .string x.name, .int .i64 x.no, .bool x.must, .int .i64 x.most, .slice vx x.kids.length cx] 59) = wz at *
        go_wp2_with fail
        go_roundw
        case rel => exact ⟨j + 1, L6, a6, c6, vss, by omega, by go_num, Lib.hid (by have := HN6.out; omega), Lib.hid (by rw [HR2.out]; exact HS6.out), HOz⟩
        case measure => (simp [intOf]; try omega)
    obtain ⟨x, hx⟩ : ∃ x, ks[i]? = some x := ⟨ks[i], List.getElem?_eq_getElem hend⟩
    have hxm := List.mem_of_getElem? hx
    obtain ⟨qb, offq, vx, cx, rfl, hqb, q0, q1, q2, q3, q4, q5, hkx, -⟩ := kss_at HRA.out HKA.out HBo.out hx
    have HKX := Lib.hid (KS.keep (T := (fun q => S q ∧ q < w.heap.size)) (kept_below HBo.out) (fun q h hl => ⟨h, hl⟩) _ _ hkx)
    have hqo : qb < wo.heap.size := by have := HBo.out.size; omega
    have hbn := (Below.refl wo.heap.size wo).alloc (Nat.le_refl _) (.cells #[.int .i64 x.kind, .string x.name, .int .i64 x.no, .bool x.must, .int .i64 x.most, .slice vx x.kids.length cx] 59)
    have HXn := Lib.hid (heap_alloc_new wo (.cells #[.int .i64 x.kind, .string x.name, .int .i64 x.no, .bool x.must, .int .i64 x.most, .slice vx x.kids.length cx] 59))
    have HDn := Lib.hid (hp_later hbn HDo.out)
    have HRn := Lib.hid (hp_later hbn HRo.out)
    have HOn := Lib.hid (HO.out.later hbn)
    have HBn := Lib.hid (HBo.out.trans (hbn.mono HBo.out.size))
    have HKXn := Lib.hid (HKX.out.later hbn)
    have hzn : wo.heap.size < (wo.alloc (.cells #[.int .i64 x.kind, .string x.name, .int .i64 x.no, .bool x.must, .int .i64 x.most, .slice vx x.kids.length cx] 59)).heap.size := by simp
    have HMN : Hid (meetP us x = none → meetL ks us = none) := Lib.hid (meetL_no hxm)
    have HMY : Hid (∀ z, meetP us x = some z → meetL (ks.take (i + 1)) us = some (l ++ [z])) := Lib.hid (fun z hz => meetL_take hx HL.out hz)
    have HXM := Lib.hid hxm
    clear hx hxm hkx hbn HO HAo HDo HRo HKX HL
    generalize hwn : wo.alloc (.cells #[.int .i64 x.kind, .string x.name, .int .i64 x.no, .bool x.must, .int .i64 x.most, .slice vx x.kids.length cx] 59) = wn at *
    clear a0 a1 a2 a3 a4 a5 b0 b1 b2 b3 b4 b5 c0 c1 c2 c3 c4 c5 d0 d1 d2 d3 d4 d5 o0 o1 o2 o3 o4 o5 p0 p1 p2 p3 p4 p5 f3 f4 fz5 oz5
    obtain ⟨b0, b1, b2, b3, b4, b5⟩ := box6 HDn.out
    obtain ⟨x0, x1, x2, x3, x4, x5⟩ := box6 HXn.out
    have HP := Lib.hid (HBYB.out wn x.no HBn.out)
    go_wp2_with fail
    refine HP.out.mono ?_
    rintro e wb ⟨cs, bx, rfl, hb, ⟨hno, rfl, rfl⟩ | ⟨y, hyes, rfl, hky⟩⟩
    · have hbz := below_set6 (hb.alloc hb.size (.cells #[.int .i64 0, .string { data := #[] }, .int .i64 0, .bool false, .int .i64 0, .slice none 0 0] 59)) (X := wb.heap.size) hb.size (.int .i64 0) (.string { data := #[] }) (.int .i64 0) (.bool false) (.int .i64 0) (.slice none 0 0)
      unfold set6 at hbz
      have HYz := Lib.hid (heap_alloc_new wb (.cells #[.int .i64 0, .string { data := #[] }, .int .i64 0, .bool false, .int .i64 0, .slice none 0 0] 59))
      have HXz := Lib.hid (hp_later hbz HXn.out)
      have HRz := Lib.hid (hp_later hbz HRn.out)
      have HOz := Lib.hid (HOn.out.later hbz)
      have HKXz := Lib.hid (HKXn.out.later hbz)
      have hwz0 := HOz.out.size
      have HPN : Hid (meetP us x = some x) := Lib.hid (by unfold meetP; rw [hno])
      clear hb hbz hno b1 b3 b4 b5 x0 x1 x2 x3 x4 x5 q0 q1 q2 q3 q4 q5 HP
      generalize hwz : wb.alloc (.cells #[.int .i64 0, .string { data := #[] }, .int .i64 0, .bool false, .int .i64 0, .slice none 0 0] 59) = wz at *
      obtain ⟨sa0, -, -, -, -, -⟩ := box6 HYz.out
      have sf0 := box6_z HYz.out 0
      have HSA := Lib.hid (box6_t0 HYz.out (.int .i64 0))
      generalize hsA : (wz).setCell ⟨wb.heap.size, 0, none⟩ (.int .i64 0) = wsA at *
      obtain ⟨-, sa1, -, -, -, -⟩ := box6 HSA.out
      have sf1 := box6_z HSA.out 1
      have HSB := Lib.hid (box6_t1 HSA.out (.string { data := #[] }))
      generalize hsB : wsA.setCell ⟨wb.heap.size, 1, none⟩ (.string { data := #[] }) = wsB at *
      obtain ⟨-, -, sa2, -, -, -⟩ := box6 HSB.out
      have sf2 := box6_z HSB.out 2
      have HSC := Lib.hid (box6_t2 HSB.out (.int .i64 0))
      generalize hsC : wsB.setCell ⟨wb.heap.size, 2, none⟩ (.int .i64 0) = wsC at *
      obtain ⟨-, -, -, sa3, -, -⟩ := box6 HSC.out
      have sf3 := box6_z HSC.out 3
      have HSD := Lib.hid (box6_t3 HSC.out (.bool false))
      generalize hsD : wsC.setCell ⟨wb.heap.size, 3, none⟩ (.bool false) = wsD at *
      obtain ⟨-, -, -, -, sa4, -⟩ := box6 HSD.out
      have sf4 := box6_z HSD.out 4
      have HSE := Lib.hid (box6_t4 HSD.out (.int .i64 0))
      generalize hsE : wsD.setCell ⟨wb.heap.size, 4, none⟩ (.int .i64 0) = wsE at *
      obtain ⟨-, -, -, -, -, sa5⟩ := box6 HSE.out
      have sf5 := box6_z HSE.out 5
      have HSF := Lib.hid (box6_t5 HSE.out (.slice none 0 0))
      generalize hsF : wsE.setCell ⟨wb.heap.size, 5, none⟩ (.slice none 0 0) = wsF at *
      obtain ⟨sg0, sg1, sg2, sg3, sg4, sg5⟩ := box6 HSF.out
      obtain ⟨x0, x1, x2, x3, x4, x5⟩ := box6 HXz.out
      have HKXS := Lib.hid (KS.keep (T := (mrS S w.heap.size w4.heap.size w2.heap.size)) (Kept.refl _ _) (fun q h _ => .inl h) _ _ HKXz.out)
      have HPUT := Lib.hid (out_put HOz.out (mrS_X (show w.heap.size ≤ w4.heap.size by omega)) (show L6.length ≤ 1048576 by have := HN6.out; omega) HKXS.out)
      have HXZ := Lib.hid (HOz.out.cells)
      obtain ⟨s0, s1, s2, s3, s4, s5⟩ := box6 HXZ.out
      go_wp2_with fail
      refine HPUT.out.mono ?_
      rintro e wp ⟨a', c', vss', rfl, hbp, hout⟩
      have HXP := Lib.hid (hp_later hbp HXZ.out)
      unfold set6 at hout
      have HOUTP := Lib.hid hout
      clear hbp hout s0 s1 s2 s3 s4 s5
      obtain ⟨sa0, -, -, -, -, -⟩ := box6 HXP.out
      have sf0 := box6_z HXP.out 0
      have HSA := Lib.hid (box6_t0 HXP.out (.int .i64 k))
      generalize hsA : (wp).setCell ⟨w4.heap.size, 0, none⟩ (.int .i64 k) = wsA at *
      obtain ⟨-, sa1, -, -, -, -⟩ := box6 HSA.out
      have sf1 := box6_z HSA.out 1
      have HSB := Lib.hid (box6_t1 HSA.out (.string nm))
      generalize hsB : wsA.setCell ⟨w4.heap.size, 1, none⟩ (.string nm) = wsB at *
      obtain ⟨-, -, sa2, -, -, -⟩ := box6 HSB.out
      have sf2 := box6_z HSB.out 2
      have HSC := Lib.hid (box6_t2 HSB.out (.int .i64 no))
      generalize hsC : wsB.setCell ⟨w4.heap.size, 2, none⟩ (.int .i64 no) = wsC at *
      obtain ⟨-, -, -, sa3, -, -⟩ := box6 HSC.out
      have sf3 := box6_z HSC.out 3
      have HSD := Lib.hid (box6_t3 HSC.out (.bool true))
      generalize hsD : wsC.setCell ⟨w4.heap.size, 3, none⟩ (.bool true) = wsD at *
      obtain ⟨-, -, -, -, sa4, -⟩ := box6 HSD.out
      have sf4 := box6_z HSD.out 4
      have HSE := Lib.hid (box6_t4 HSD.out (.int .i64 mo))
      generalize hsE : wsD.setCell ⟨w4.heap.size, 4, none⟩ (.int .i64 mo) = wsE at *
      obtain ⟨-, -, -, -, -, sa5⟩ := box6 HSE.out
      have sf5 := box6_z HSE.out 5
      have HSF := Lib.hid (box6_t5 HSE.out (.slice a' (L6.length + 1) c'))
      generalize hsF : wsE.setCell ⟨w4.heap.size, 5, none⟩ (.slice a' (L6.length + 1) c') = wsF at *
      obtain ⟨sg0, sg1, sg2, sg3, sg4, sg5⟩ := box6 HSF.out
      go_wp2_with fail
      go_roundw
      case rel => exact ⟨i + 1, l ++ [x], putNo L6 x, a', c', vss', by omega, by go_num, Lib.hid (by rw [putNo_len, HN6.out]), Lib.hid (by simp [HN.out]), Lib.hid (by rw [sortNo_snoc, HS6.out]), Lib.hid (HMY.out x HPN.out), Lib.hid (by rw [putNo_len]; exact HOUTP.out)⟩
      case measure => (simp [intOf]; try omega)
    obtain ⟨vy, cy, yss, rfl, -⟩ := hky.open
    have hbz := hb.alloc hb.size (.cells #[.int .i64 y.kind, .string y.name, .int .i64 y.no, .bool y.must, .int .i64 y.most, .slice vy y.kids.length cy] 59)
    have hby := (Below.refl wb.heap.size wb).alloc (Nat.le_refl _) (.cells #[.int .i64 y.kind, .string y.name, .int .i64 y.no, .bool y.must, .int .i64 y.most, .slice vy y.kids.length cy] 59)
    have HXz := Lib.hid (hp_later hbz HXn.out)
    have HRz := Lib.hid (hp_later hbz HRn.out)
    have HOz := Lib.hid (HOn.out.later hbz)
    have HYz := Lib.hid (heap_alloc_new wb (.cells #[.int .i64 y.kind, .string y.name, .int .i64 y.no, .bool y.must, .int .i64 y.most, .slice vy y.kids.length cy] 59))
    have HBz := Lib.hid (HBn.out.trans (hbz.mono HBn.out.size))
    have HC := Lib.hid (HIH.out (fun q => S q ∧ q < w.heap.size) (wb.alloc (.cells #[.int .i64 y.kind, .string y.name, .int .i64 y.no, .bool y.must, .int .i64 y.most, .slice vy y.kids.length cy] 59)) x y _ _ HXM.out (byNo_no hyes).2 (HKXn.out.later hbz) (hky.later hby))
    unfold MeetV at HC
    have HPE : Hid (meetP us x = meetT x y) := Lib.hid (by unfold meetP; rw [hyes])
    clear hb hbz hby hky hyes b0 b1 b2 b3 b4 b5 x0 x1 x2 x3 x4 x5 q0 q1 q2 q3 q4 q5 HP
    generalize hwz : wb.alloc (.cells #[.int .i64 y.kind, .string y.name, .int .i64 y.no, .bool y.must, .int .i64 y.most, .slice vy y.kids.length cy] 59) = wz at *
    obtain ⟨x0, x1, x2, x3, x4, x5⟩ := box6 HXz.out
    obtain ⟨y0, y1, y2, y3, y4, y5⟩ := box6 HYz.out
    have hwz0 := HOz.out.size
    go_wp2_with fail
    refine HC.out.mono ?_
    rintro e wc ⟨kk, nn, oo, mm, pp, sa, sn, sc, ok, rfl, hb, hres⟩
    have hbq := hb.alloc hb.size (.cells #[.int .i64 kk, .string nn, .int .i64 oo, .bool mm, .int .i64 pp, .slice sa sn sc] 59)
    have hbc := (Below.refl wc.heap.size wc).alloc (Nat.le_refl _) (.cells #[.int .i64 kk, .string nn, .int .i64 oo, .bool mm, .int .i64 pp, .slice sa sn sc] 59)
    have HRq := Lib.hid (hp_later hbq HRz.out)
    have HOq := Lib.hid (HOz.out.later hbq)
    have HZq := Lib.hid (heap_alloc_new wc (.cells #[.int .i64 kk, .string nn, .int .i64 oo, .bool mm, .int .i64 pp, .slice sa sn sc] 59))
    have HBq := Lib.hid (HBz.out.trans (hbq.mono HBz.out.size))
    have HRESq : Hid ((meetT x y = none ∧ ok = false) ∨ (∃ t, meetT x y = some t ∧ ok = true ∧ KS (mrS S w.heap.size w4.heap.size w2.heap.size) (wc.alloc (.cells #[.int .i64 kk, .string nn, .int .i64 oo, .bool mm, .int .i64 pp, .slice sa sn sc] 59)) t [.int .i64 kk, .string nn, .int .i64 oo, .bool mm, .int .i64 pp, .slice sa sn sc])) := Lib.hid (by
      rcases hres with h | ⟨t, e1, e2, hk⟩
      · exact .inl h
      · refine .inr ⟨t, e1, e2, KS.keep (kept_below hbc) (fun q hq _ => ?_) _ _ hk⟩
        rcases hq with h1 | h1
        · exact .inl h1
        · exact .inr ⟨by omega, by omega, by omega⟩)
    clear hb hbq hbc hres x0 x1 x2 x3 x4 x5 y0 y1 y2 y3 y4 y5 HC
    generalize hwq : wc.alloc (.cells #[.int .i64 kk, .string nn, .int .i64 oo, .bool mm, .int .i64 pp, .slice sa sn sc] 59) = wq at *
    obtain ⟨z0, z1, z2, z3, z4, z5⟩ := box6 HZq.out
    cases ok with
    | false =>
      have HNONE : Hid (meetL ks us = none) := Lib.hid (HMN.out (by
        rw [HPE.out]
        rcases HRESq.out with ⟨h, -⟩ | ⟨t, -, e, -⟩
        · exact h
        · cases e))
      have HBF := Lib.hid (below_set6 HBq.out (show w.heap.size ≤ w2.heap.size by omega) (.int .i64 0) (.string { data := #[] }) (.int .i64 0) (.bool false) (.int .i64 0) (.slice none 0 0))
      unfold set6 at HBF
      obtain ⟨sa0, -, -, -, -, -⟩ := box6 HRq.out
      have sf0 := box6_z HRq.out 0
      have HSA := Lib.hid (box6_t0 HRq.out (.int .i64 0))
      generalize hsA : (wq).setCell ⟨w2.heap.size, 0, none⟩ (.int .i64 0) = wsA at *
      obtain ⟨-, sa1, -, -, -, -⟩ := box6 HSA.out
      have sf1 := box6_z HSA.out 1
      have HSB := Lib.hid (box6_t1 HSA.out (.string { data := #[] }))
      generalize hsB : wsA.setCell ⟨w2.heap.size, 1, none⟩ (.string { data := #[] }) = wsB at *
      obtain ⟨-, -, sa2, -, -, -⟩ := box6 HSB.out
      have sf2 := box6_z HSB.out 2
      have HSC := Lib.hid (box6_t2 HSB.out (.int .i64 0))
      generalize hsC : wsB.setCell ⟨w2.heap.size, 2, none⟩ (.int .i64 0) = wsC at *
      obtain ⟨-, -, -, sa3, -, -⟩ := box6 HSC.out
      have sf3 := box6_z HSC.out 3
      have HSD := Lib.hid (box6_t3 HSC.out (.bool false))
      generalize hsD : wsC.setCell ⟨w2.heap.size, 3, none⟩ (.bool false) = wsD at *
      obtain ⟨-, -, -, -, sa4, -⟩ := box6 HSD.out
      have sf4 := box6_z HSD.out 4
      have HSE := Lib.hid (box6_t4 HSD.out (.int .i64 0))
      generalize hsE : wsD.setCell ⟨w2.heap.size, 4, none⟩ (.int .i64 0) = wsE at *
      obtain ⟨-, -, -, -, -, sa5⟩ := box6 HSE.out
      have sf5 := box6_z HSE.out 5
      have HSF := Lib.hid (box6_t5 HSE.out (.slice none 0 0))
      generalize hsF : wsE.setCell ⟨w2.heap.size, 5, none⟩ (.slice none 0 0) = wsF at *
      obtain ⟨sg0, sg1, sg2, sg3, sg4, sg5⟩ := box6 HSF.out
      go_wp2_with fail
      refine bodyPost_ret (v := .tuple #[.agg #[.int .i64 0, .string { data := #[] }, .int .i64 0, .bool false, .int .i64 0, .slice none 0 0], .bool false]) (by simp [results, Try.results34, go_sem, sg0, sg1, sg2, sg3, sg4, sg5]) rfl ?_
      exact meetv_no (by rw [HT.out, HNONE.out]) HBF.out
    | true =>
      obtain ⟨z, hz, hkz⟩ : ∃ z, meetT x y = some z ∧ KS (mrS S w.heap.size w4.heap.size w2.heap.size) wq z [.int .i64 kk, .string nn, .int .i64 oo, .bool mm, .int .i64 pp, .slice sa sn sc] := by
        rcases HRESq.out with ⟨-, e⟩ | ⟨t, h, -, hk⟩
        · cases e
        · exact ⟨t, h, hk⟩
      have HKZ := Lib.hid hkz
      have HPZ : Hid (meetP us x = some z) := Lib.hid (HPE.out.trans hz)
      clear hz hkz
      have HPUT := Lib.hid (out_put HOq.out (mrS_X (show w.heap.size ≤ w4.heap.size by omega)) (show L6.length ≤ 1048576 by have := HN6.out; omega) HKZ.out)
      have HXZ := Lib.hid (HOq.out.cells)
      obtain ⟨s0, s1, s2, s3, s4, s5⟩ := box6 HXZ.out
      go_wp2_with fail
      refine HPUT.out.mono ?_
      rintro e wp ⟨a', c', vss', rfl, hbp, hout⟩
      have HXP := Lib.hid (hp_later hbp HXZ.out)
      unfold set6 at hout
      have HOUTP := Lib.hid hout
      clear hbp hout s0 s1 s2 s3 s4 s5
      obtain ⟨sa0, -, -, -, -, -⟩ := box6 HXP.out
      have sf0 := box6_z HXP.out 0
      have HSA := Lib.hid (box6_t0 HXP.out (.int .i64 k))
      generalize hsA : (wp).setCell ⟨w4.heap.size, 0, none⟩ (.int .i64 k) = wsA at *
      obtain ⟨-, sa1, -, -, -, -⟩ := box6 HSA.out
      have sf1 := box6_z HSA.out 1
      have HSB := Lib.hid (box6_t1 HSA.out (.string nm))
      generalize hsB : wsA.setCell ⟨w4.heap.size, 1, none⟩ (.string nm) = wsB at *
      obtain ⟨-, -, sa2, -, -, -⟩ := box6 HSB.out
      have sf2 := box6_z HSB.out 2
      have HSC := Lib.hid (box6_t2 HSB.out (.int .i64 no))
      generalize hsC : wsB.setCell ⟨w4.heap.size, 2, none⟩ (.int .i64 no) = wsC at *
      obtain ⟨-, -, -, sa3, -, -⟩ := box6 HSC.out
      have sf3 := box6_z HSC.out 3
      have HSD := Lib.hid (box6_t3 HSC.out (.bool true))
      generalize hsD : wsC.setCell ⟨w4.heap.size, 3, none⟩ (.bool true) = wsD at *
      obtain ⟨-, -, -, -, sa4, -⟩ := box6 HSD.out
      have sf4 := box6_z HSD.out 4
      have HSE := Lib.hid (box6_t4 HSD.out (.int .i64 mo))
      generalize hsE : wsD.setCell ⟨w4.heap.size, 4, none⟩ (.int .i64 mo) = wsE at *
      obtain ⟨-, -, -, -, -, sa5⟩ := box6 HSE.out
      have sf5 := box6_z HSE.out 5
      have HSF := Lib.hid (box6_t5 HSE.out (.slice a' (L6.length + 1) c'))
      generalize hsF : wsE.setCell ⟨w4.heap.size, 5, none⟩ (.slice a' (L6.length + 1) c') = wsF at *
      obtain ⟨sg0, sg1, sg2, sg3, sg4, sg5⟩ := box6 HSF.out
      go_wp2_with fail
      go_roundw
      case rel => exact ⟨i + 1, l ++ [z], putNo L6 z, a', c', vss', by omega, by go_num, Lib.hid (by rw [putNo_len, HN6.out]), Lib.hid (by simp [HN.out]), Lib.hid (by rw [sortNo_snoc, HS6.out]), Lib.hid (HMY.out z HPZ.out), Lib.hid (by rw [putNo_len]; exact HOUTP.out)⟩
      case measure => (simp [intOf]; try omega)
set_option maxHeartbeats 16000000 in
theorem meet_msg_fg {S : Nat → Prop} {w : World} (nm nm' : ByteArray) (no no' : Int) (m' : Bool) (mo mo' : Int) (k k' : Int) (hk : k = k') (h4 : ¬ k = 4) (ks us : List Tr) {va vb : Option Addr} {ca cb : Nat} {vsa vsb : List (List Value)} (hnm : nm.size ≤ maxLen) (hnm' : nm'.size ≤ maxLen) (hca : ks.length ≤ ca) (hcam : ca ≤ 9223372036854775807) (hcb : us.length ≤ cb) (hcbm : cb ≤ 9223372036854775807) (hra : RS S w va (List.flatten vsa)) (hka : KSs S w ks vsa) (hrb : RS S w vb (List.flatten vsb)) (hkb : KSs S w us vsb) (hll : ks.length + us.length ≤ 1048576) (hcmp : ¬ mo' < mo)
    (IH : ∀ (S' : Nat → Prop) (wx : World) (x y : Tr) (px py : List Value), x ∈ ks → y ∈ us → KS S' wx x px → KS S' wx y py → Calls Try.prog 34 #[.agg px.toArray, .agg py.toArray] wx (MeetV S' x y wx)) :
    Calls Try.prog 34 #[.agg #[.int .i64 k, .string nm, .int .i64 no, .bool false, .int .i64 mo, .slice va ks.length ca], .agg #[.int .i64 k', .string nm', .int .i64 no', .bool m', .int .i64 mo', .slice vb us.length cb]] w (MeetV S (.node k nm no false mo ks) (.node k' nm' no' m' mo' us) w) := by
  have HT := Lib.hid (meetT_msg (a := .node k nm no false mo ks) (b := .node k' nm' no' m' mo' us) hk h4)
  simp only [Tr.kind, Tr.name, Tr.no, Tr.must, Tr.most, Tr.kids] at HT
  have nk : (k != k') = false := by rw [hk]; exact bne_self_eq_false _
  have n4 : (k == 4) = false := beq_eq_false_iff_ne.2 h4
  have hmin : min mo mo' = mo := by omega
  rw [hmin] at HT
  have HSH := Lib.hid (fun wx => spec_l2Shell k nm no false mo va ks.length ca wx)
  have HIH := Lib.hid IH
  have hA : KS S w (.node k nm no false mo ks) [.int .i64 k, .string nm, .int .i64 no, .bool false, .int .i64 mo, .slice va ks.length ca] := by rw [KS]; exact ⟨va, ca, vsa, rfl, hnm, hca, hcam, hra, hka⟩
  have hB : KS S w (.node k' nm' no' m' mo' us) [.int .i64 k', .string nm', .int .i64 no', .bool m', .int .i64 mo', .slice vb us.length cb] := by rw [KS]; exact ⟨vb, cb, vsb, rfl, hnm', hcb, hcbm, hrb, hkb⟩
  have HBYA : Hid (∀ wx no2, Below w.heap.size w wx → Calls Try.prog 65 #[.agg #[.int .i64 k, .string nm, .int .i64 no, .bool false, .int .i64 mo, .slice va ks.length ca], .int .i64 no2] wx (ByO (fun q => S q ∧ q < w.heap.size) (.node k nm no false mo ks) no2 wx)) := Lib.hid (fun wx no2 hbx => spec_l2By (KS.keep (kept_below hbx) (fun q h hl => ⟨h, hl⟩) _ _ hA) (show ks.length ≤ 1048576 by omega) no2)
  have HBYB : Hid (∀ wx no2, Below w.heap.size w wx → Calls Try.prog 65 #[.agg #[.int .i64 k', .string nm', .int .i64 no', .bool m', .int .i64 mo', .slice vb us.length cb], .int .i64 no2] wx (ByO (fun q => S q ∧ q < w.heap.size) (.node k' nm' no' m' mo' us) no2 wx)) := Lib.hid (fun wx no2 hbx => spec_l2By (KS.keep (kept_below hbx) (fun q h hl => ⟨h, hl⟩) _ _ hB) (show us.length ≤ 1048576 by omega) no2)
  unfold ByO at HBYA HBYB
  simp only [Tr.kids] at HBYA HBYB
  have HRA := Lib.hid hra; have HKA := Lib.hid hka; have HRB := Lib.hid hrb; have HKB := Lib.hid hkb
  have HNM := Lib.hid hnm
  clear hk h4 hA hB IH hra hka hrb hkb hmin hnm hnm'
  have hB1 := Below.alloc (Below.refl w.heap.size w) (Nat.le_refl _) (.cells #[.int .i64 k, .string nm, .int .i64 no, .bool false, .int .i64 mo, .slice va ks.length ca] 59)
  have hX1 := heap_alloc_new w (.cells #[.int .i64 k, .string nm, .int .i64 no, .bool false, .int .i64 mo, .slice va ks.length ca] 59)
  generalize hw1 : w.alloc (.cells #[.int .i64 k, .string nm, .int .i64 no, .bool false, .int .i64 mo, .slice va ks.length ca] 59) = w1 at *
  have l1 := hp_lt hX1
  have hB2 := hB1.alloc (Nat.le_of_lt l1) (.cells #[.int .i64 k', .string nm', .int .i64 no', .bool m', .int .i64 mo', .slice vb us.length cb] 59)
  have hX1 := hp_alloc (.cells #[.int .i64 k', .string nm', .int .i64 no', .bool m', .int .i64 mo', .slice vb us.length cb] 59) hX1
  have hX2 := heap_alloc_new w1 (.cells #[.int .i64 k', .string nm', .int .i64 no', .bool m', .int .i64 mo', .slice vb us.length cb] 59)
  generalize hw2 : w1.alloc (.cells #[.int .i64 k', .string nm', .int .i64 no', .bool m', .int .i64 mo', .slice vb us.length cb] 59) = w2 at *
  have l2 := hp_lt hX2
  have hB3 := hB2.alloc (by omega) (.cells #[.int .i64 0, .string { data := #[] }, .int .i64 0, .bool false, .int .i64 0, .slice none 0 0] 59)
  have hX1 := hp_alloc (.cells #[.int .i64 0, .string { data := #[] }, .int .i64 0, .bool false, .int .i64 0, .slice none 0 0] 59) hX1
  have hX2 := hp_alloc (.cells #[.int .i64 0, .string { data := #[] }, .int .i64 0, .bool false, .int .i64 0, .slice none 0 0] 59) hX2
  have hX3 := heap_alloc_new w2 (.cells #[.int .i64 0, .string { data := #[] }, .int .i64 0, .bool false, .int .i64 0, .slice none 0 0] 59)
  generalize hw3 : w2.alloc (.cells #[.int .i64 0, .string { data := #[] }, .int .i64 0, .bool false, .int .i64 0, .slice none 0 0] 59) = w3 at *
  have l3 := hp_lt hX3
  have HB3 := Lib.hid hB3
  have HX1 := Lib.hid hX1
  have HX2 := Lib.hid hX2
  have HX3 := Lib.hid hX3
  obtain ⟨a0, a1, a2, a3, a4, a5⟩ := box6 hX1
  obtain ⟨b0, b1, b2, b3, b4, b5⟩ := box6 hX2
  clear hB1 hB2 hB3 hX1 hX2 hX3
  have HSH := Lib.hid (HSH.out w3)
  go_enter Try.func34, Try.ntmps34
  go_wp2_with fail
  refine HSH.out.mono ?_
  rintro e w4 ⟨rfl, hb4⟩
  have hz4 := hb4.size
  have hX6 := heap_alloc_new w4 (.cells #[.int .i64 k, .string nm, .int .i64 no, .bool false, .int .i64 mo, .slice none 0 0] 59)
  have hb5 := hb4.alloc hb4.size (.cells #[.int .i64 k, .string nm, .int .i64 no, .bool false, .int .i64 mo, .slice none 0 0] 59)
  generalize hw5 : w4.alloc (.cells #[.int .i64 k, .string nm, .int .i64 no, .bool false, .int .i64 mo, .slice none 0 0] 59) = w5z at *
  obtain ⟨-, -, -, -, -, oz5⟩ := box6 hX6
  have fz5 := box6_z hX6 5
  have hX6 := box6_t5 hX6 (.slice none 0 0)
  have hb5 := below_set hb5 hz4 5 (.slice none 0 0)
  generalize hw5b : w5z.setCell ⟨w4.heap.size, 5, none⟩ (.slice none 0 0) = w5 at *
  have l5 := hp_lt hX6
  have HX1 := Lib.hid (hp_later hb5 HX1.out)
  have HX2 := Lib.hid (hp_later hb5 HX2.out)
  have HX3 := Lib.hid (hp_later hb5 HX3.out)
  have HB5 := Lib.hid (HB3.out.trans (hb5.mono HB3.out.size))
  have f3 := box6_z hX6 3
  have f4 := box6_z (box6_t3 hX6 (.bool m')) 4
  clear hb4 hb5 a0 a1 a2 a3 a4 a5 b0 b1 b2 b3 b4 b5
  obtain ⟨o0, o1, o2, o3, o4, o5⟩ := box6 hX6
  obtain ⟨a0, a1, a2, a3, a4, a5⟩ := box6 HX1.out
  obtain ⟨b0, b1, b2, b3, b4, b5⟩ := box6 HX2.out
  have hX6 := box6_t3 hX6 (.bool m')
  have HX1 := Lib.hid (hp_set (Y := w4.heap.size) (i := 3) (u := .bool m') HX1.out (by omega))
  have HX2 := Lib.hid (hp_set (Y := w4.heap.size) (i := 3) (u := .bool m') HX2.out (by omega))
  have HX3 := Lib.hid (hp_set (Y := w4.heap.size) (i := 3) (u := .bool m') HX3.out (by omega))
  have HB6 := Lib.hid (below_set HB5.out (show w.heap.size ≤ w4.heap.size by omega) 3 (.bool m'))
  generalize hw6 : w5.setCell ⟨w4.heap.size, 3, none⟩ (.bool m') = w6 at *
  have l6 := hp_lt hX6
  obtain ⟨p0, p1, p2, p3, p4, p5⟩ := box6 hX6
  obtain ⟨c0, c1, c2, c3, c4, c5⟩ := box6 HX1.out
  obtain ⟨d0, d1, d2, d3, d4, d5⟩ := box6 HX2.out
  obtain ⟨w7, rfl⟩ : ∃ z : World, z = w6 := ⟨_, rfl⟩
  have HX6 := Lib.hid hX6
  have HB7 := HB6
  have l7 := l6
  clear hX6
  have hzw7 := HB7.out.size
  have HOUT7 : Hid (OutAt (mrS S w.heap.size w4.heap.size w2.heap.size) w4.heap.size w7.heap.size w7 k nm no m' mo [] (.slice none 0 0) [] w7) := Lib.hid ⟨HX6.out, World.ownsRow_nil _ _ _ _, by rw [KSs], fun _ => rfl, Wrote.refl _ _, l7, Nat.le_refl _⟩
  go_wp2_with fail
  go_loopw [65] (fun iv wr => ∃ (i : Nat) (l L6 : List Tr) (a6 : Option Addr) (c6 : Nat) (vss : List (List Value)), i ≤ ks.length ∧ iv = .int .i64 (i : Int) ∧ Hid (L6.length = i) ∧ Hid (l.length = i) ∧ Hid (L6 = sortNo l) ∧ Hid (meetL (ks.take i) us = some l) ∧ Hid (OutAt (mrS S w.heap.size w4.heap.size w2.heap.size) w4.heap.size w7.heap.size w7 k nm no m' mo L6 (.slice a6 L6.length c6) vss wr)) (fun iv _ => ks.length - (intOf iv).toNat)
  case atStart => exact ⟨0, [], [], none, 0, [], by omega, rfl, Lib.hid rfl, Lib.hid rfl, Lib.hid rfl, Lib.hid (by rw [List.take_zero, meetL]), HOUT7⟩
  case round =>
    obtain ⟨wo, rfl⟩ : ∃ z : World, z = wr := ⟨_, rfl⟩
    obtain ⟨i, l, L6, a6, c6, vss, hil, rfl, HN6, HN, HS6, HL, HO⟩ := hrel
    have HBo := Lib.hid (rwrote HB7.out HO.out.wrote (fun q hq => by omega))
    have hzo := HO.out.size
    have HAo := Lib.hid (wrote_hp HO.out.wrote HX1.out (by omega))
    have HDo := Lib.hid (wrote_hp HO.out.wrote HX2.out (by omega))
    have HRo := Lib.hid (wrote_hp HO.out.wrote HX3.out (by omega))
    clear HX6 HOUT7
    by_cases hend : i < ks.length
    case neg =>
      have hie : i = ks.length := by omega
      have HLL : Hid (meetL ks us = some l) := Lib.hid (by have := HL.out; rwa [hie, List.take_length] at this)
      clear hie HL HN
      clear a0 a1 a2 a3 a4 a5 b0 b1 b2 b3 b4 b5 c0 c1 c2 c3 c4 c5 d0 d1 d2 d3 d4 d5 o0 o1 o2 o3 o4 o5 p0 p1 p2 p3 p4 p5 f3 f4 fz5 oz5
      obtain ⟨b0, b1, b2, b3, b4, b5⟩ := box6 HDo.out
      have hge : ¬ ((i : Int) < (ks.length : Int)) := by omega
      go_wp2_with fail
      go_loopw [97] (fun jv wr => ∃ (j : Nat) (L6 : List Tr) (a6 : Option Addr) (c6 : Nat) (vss : List (List Value)), j ≤ us.length ∧ jv = .int .i64 (j : Int) ∧ Hid (L6.length ≤ i + j) ∧ Hid (L6 = sortNo (l ++ restP ks (us.take j))) ∧ Hid (OutAt (mrS S w.heap.size w4.heap.size w2.heap.size) w4.heap.size w7.heap.size w7 k nm no m' mo L6 (.slice a6 L6.length c6) vss wr)) (fun jv _ => us.length - (intOf jv).toNat)
      case atStart => exact ⟨0, L6, a6, c6, vss, by omega, rfl, Lib.hid (by rw [HN6.out]; omega), Lib.hid (by rw [List.take_zero]; unfold restP; rw [List.filter_nil, List.append_nil]; exact HS6.out), HO⟩
      case round =>
        clear HO HAo HDo HRo HBo hzo HN6 HS6 b0 b1 b2 b3 b4 b5
        obtain ⟨wv, rfl⟩ : ∃ z : World, z = wr := ⟨_, rfl⟩
        obtain ⟨j, L6, a6, c6, vss, hjl, rfl, HN6, HS6, HO⟩ := hrel
        have HBo := Lib.hid (rwrote HB7.out HO.out.wrote (fun q hq => by omega))
        have hzo := HO.out.size
        have HAo := Lib.hid (wrote_hp HO.out.wrote HX1.out (by omega))
        have HRo := Lib.hid (wrote_hp HO.out.wrote HX3.out (by omega))
        by_cases hjend : j < us.length
        case neg =>
          have hje : j = us.length := by omega
          have HLM : Hid (L6 = sortNo (l ++ restP ks us)) := Lib.hid (by have := HS6.out; rwa [hje, List.take_length] at this)
          have hgj : ¬ ((j : Int) < (us.length : Int)) := by omega
          have HKF := Lib.hid (HO.out.done HNM.out (show w.heap.size ≤ w2.heap.size by omega) hzw7 (by omega) (by omega))
          have HBF := Lib.hid (below_set6 HBo.out (show w.heap.size ≤ w2.heap.size by omega) (.int .i64 k) (.string nm) (.int .i64 no) (.bool m') (.int .i64 mo) (.slice a6 L6.length c6))
          unfold set6 at HKF HBF
          have HXo := Lib.hid HO.out.cells
          obtain ⟨y0, y1, y2, y3, y4, y5⟩ := box6 HXo.out
          clear hje
          obtain ⟨sa0, -, -, -, -, -⟩ := box6 HRo.out
          have sf0 := box6_z HRo.out 0
          have HSA := Lib.hid (box6_t0 HRo.out (.int .i64 k))
          generalize hsA : (wv).setCell ⟨w2.heap.size, 0, none⟩ (.int .i64 k) = wsA at *
          obtain ⟨-, sa1, -, -, -, -⟩ := box6 HSA.out
          have sf1 := box6_z HSA.out 1
          have HSB := Lib.hid (box6_t1 HSA.out (.string nm))
          generalize hsB : wsA.setCell ⟨w2.heap.size, 1, none⟩ (.string nm) = wsB at *
          obtain ⟨-, -, sa2, -, -, -⟩ := box6 HSB.out
          have sf2 := box6_z HSB.out 2
          have HSC := Lib.hid (box6_t2 HSB.out (.int .i64 no))
          generalize hsC : wsB.setCell ⟨w2.heap.size, 2, none⟩ (.int .i64 no) = wsC at *
          obtain ⟨-, -, -, sa3, -, -⟩ := box6 HSC.out
          have sf3 := box6_z HSC.out 3
          have HSD := Lib.hid (box6_t3 HSC.out (.bool m'))
          generalize hsD : wsC.setCell ⟨w2.heap.size, 3, none⟩ (.bool m') = wsD at *
          obtain ⟨-, -, -, -, sa4, -⟩ := box6 HSD.out
          have sf4 := box6_z HSD.out 4
          have HSE := Lib.hid (box6_t4 HSD.out (.int .i64 mo))
          generalize hsE : wsD.setCell ⟨w2.heap.size, 4, none⟩ (.int .i64 mo) = wsE at *
          obtain ⟨-, -, -, -, -, sa5⟩ := box6 HSE.out
          have sf5 := box6_z HSE.out 5
          have HSF := Lib.hid (box6_t5 HSE.out (.slice a6 L6.length c6))
          generalize hsF : wsE.setCell ⟨w2.heap.size, 5, none⟩ (.slice a6 L6.length c6) = wsF at *
          obtain ⟨sg0, sg1, sg2, sg3, sg4, sg5⟩ := box6 HSF.out
          go_wp2_with fail
          refine bodyPost_ret (v := .tuple #[.agg #[.int .i64 k, .string nm, .int .i64 no, .bool m', .int .i64 mo, .slice a6 L6.length c6], .bool true]) (by simp [results, Try.results34, go_sem, sg0, sg1, sg2, sg3, sg4, sg5]) rfl ?_
          exact meetv_yes (by rw [HT.out, HLL.out]) HBF.out (by rw [← HLM.out]; simpa using HKF.out)
        obtain ⟨y, hy⟩ : ∃ y, us[j]? = some y := ⟨us[j], List.getElem?_eq_getElem hjend⟩
        obtain ⟨qb, offq, vy, cy, rfl, hqb, q0, q1, q2, q3, q4, q5, hky, -⟩ := kss_at HRB.out HKB.out HBo.out hy
        have HKY := Lib.hid (KS.keep (T := (fun q => S q ∧ q < w.heap.size)) (kept_below HBo.out) (fun q h hl => ⟨h, hl⟩) _ _ hky)
        have hqo : qb < wv.heap.size := by have := HBo.out.size; omega
        have hbn := (Below.refl wv.heap.size wv).alloc (Nat.le_refl _) (.cells #[.int .i64 y.kind, .string y.name, .int .i64 y.no, .bool y.must, .int .i64 y.most, .slice vy y.kids.length cy] 59)
        have HXn := Lib.hid (heap_alloc_new wv (.cells #[.int .i64 y.kind, .string y.name, .int .i64 y.no, .bool y.must, .int .i64 y.most, .slice vy y.kids.length cy] 59))
        have HAn := Lib.hid (hp_later hbn HAo.out)
        have HOn := Lib.hid (HO.out.later hbn)
        have HBn := Lib.hid (HBo.out.trans (hbn.mono HBo.out.size))
        have HKYn := Lib.hid (HKY.out.later hbn)
        have hzn : wv.heap.size < (wv.alloc (.cells #[.int .i64 y.kind, .string y.name, .int .i64 y.no, .bool y.must, .int .i64 y.most, .slice vy y.kids.length cy] 59)).heap.size := by simp
        have HRT := Lib.hid (restP_take (ks := ks) hy)
        clear hy hky hbn HO HAo HRo HKY
        generalize hwn : wv.alloc (.cells #[.int .i64 y.kind, .string y.name, .int .i64 y.no, .bool y.must, .int .i64 y.most, .slice vy y.kids.length cy] 59) = wn at *
        obtain ⟨b0, b1, b2, b3, b4, b5⟩ := box6 HAn.out
        obtain ⟨x0, x1, x2, x3, x4, x5⟩ := box6 HXn.out
        have HP := Lib.hid (HBYA.out wn y.no HBn.out)
        go_wp2_with fail
        refine HP.out.mono ?_
        rintro e wb ⟨cs, bx, rfl, hb, ⟨hno, rfl, rfl⟩ | ⟨x, hyes, rfl, hkx⟩⟩
        · have hbz := below_set6 (hb.alloc hb.size (.cells #[.int .i64 0, .string { data := #[] }, .int .i64 0, .bool false, .int .i64 0, .slice none 0 0] 59)) (X := wb.heap.size) hb.size (.int .i64 0) (.string { data := #[] }) (.int .i64 0) (.bool false) (.int .i64 0) (.slice none 0 0)
          unfold set6 at hbz
          have HYz := Lib.hid (heap_alloc_new wb (.cells #[.int .i64 0, .string { data := #[] }, .int .i64 0, .bool false, .int .i64 0, .slice none 0 0] 59))
          have HXz := Lib.hid (hp_later hbz HXn.out)
          have HOz := Lib.hid (HOn.out.later hbz)
          have HKYz := Lib.hid (HKYn.out.later hbz)
          have hwz0 := HOz.out.size
          have HR2 : Hid (restP ks (us.take (j + 1)) = restP ks (us.take j) ++ [y]) := Lib.hid (by rw [HRT.out, hno]; rfl)
          clear hb hbz hno b0 b1 b2 b3 b4 b5 x0 x1 x2 x3 x4 x5 q0 q1 q2 q3 q4 q5 HP
          generalize hwz : wb.alloc (.cells #[.int .i64 0, .string { data := #[] }, .int .i64 0, .bool false, .int .i64 0, .slice none 0 0] 59) = wz at *
          obtain ⟨sa0, -, -, -, -, -⟩ := box6 HYz.out
          have sf0 := box6_z HYz.out 0
          have HSA := Lib.hid (box6_t0 HYz.out (.int .i64 0))
          generalize hsA : (wz).setCell ⟨wb.heap.size, 0, none⟩ (.int .i64 0) = wsA at *
          obtain ⟨-, sa1, -, -, -, -⟩ := box6 HSA.out
          have sf1 := box6_z HSA.out 1
          have HSB := Lib.hid (box6_t1 HSA.out (.string { data := #[] }))
          generalize hsB : wsA.setCell ⟨wb.heap.size, 1, none⟩ (.string { data := #[] }) = wsB at *
          obtain ⟨-, -, sa2, -, -, -⟩ := box6 HSB.out
          have sf2 := box6_z HSB.out 2
          have HSC := Lib.hid (box6_t2 HSB.out (.int .i64 0))
          generalize hsC : wsB.setCell ⟨wb.heap.size, 2, none⟩ (.int .i64 0) = wsC at *
          obtain ⟨-, -, -, sa3, -, -⟩ := box6 HSC.out
          have sf3 := box6_z HSC.out 3
          have HSD := Lib.hid (box6_t3 HSC.out (.bool false))
          generalize hsD : wsC.setCell ⟨wb.heap.size, 3, none⟩ (.bool false) = wsD at *
          obtain ⟨-, -, -, -, sa4, -⟩ := box6 HSD.out
          have sf4 := box6_z HSD.out 4
          have HSE := Lib.hid (box6_t4 HSD.out (.int .i64 0))
          generalize hsE : wsD.setCell ⟨wb.heap.size, 4, none⟩ (.int .i64 0) = wsE at *
          obtain ⟨-, -, -, -, -, sa5⟩ := box6 HSE.out
          have sf5 := box6_z HSE.out 5
          have HSF := Lib.hid (box6_t5 HSE.out (.slice none 0 0))
          generalize hsF : wsE.setCell ⟨wb.heap.size, 5, none⟩ (.slice none 0 0) = wsF at *
          obtain ⟨sg0, sg1, sg2, sg3, sg4, sg5⟩ := box6 HSF.out
          obtain ⟨x0, x1, x2, x3, x4, x5⟩ := box6 HXz.out
          have HKYS := Lib.hid (KS.keep (T := (mrS S w.heap.size w4.heap.size w2.heap.size)) (Kept.refl _ _) (fun q h _ => .inl h) _ _ HKYz.out)
          have HPUT := Lib.hid (out_put HOz.out (mrS_X (show w.heap.size ≤ w4.heap.size by omega)) (show L6.length ≤ 1048576 by have := HN6.out; omega) HKYS.out)
          have HXZ := Lib.hid (HOz.out.cells)
          obtain ⟨s0, s1, s2, s3, s4, s5⟩ := box6 HXZ.out
          go_wp2_with fail
          refine HPUT.out.mono ?_
          rintro e wp ⟨a', c', vss', rfl, hbp, hout⟩
          have HXP := Lib.hid (hp_later hbp HXZ.out)
          unfold set6 at hout
          have HOUTP := Lib.hid hout
          clear hbp hout s0 s1 s2 s3 s4 s5
          obtain ⟨sa0, -, -, -, -, -⟩ := box6 HXP.out
          have sf0 := box6_z HXP.out 0
          have HSA := Lib.hid (box6_t0 HXP.out (.int .i64 k))
          generalize hsA : (wp).setCell ⟨w4.heap.size, 0, none⟩ (.int .i64 k) = wsA at *
          obtain ⟨-, sa1, -, -, -, -⟩ := box6 HSA.out
          have sf1 := box6_z HSA.out 1
          have HSB := Lib.hid (box6_t1 HSA.out (.string nm))
          generalize hsB : wsA.setCell ⟨w4.heap.size, 1, none⟩ (.string nm) = wsB at *
          obtain ⟨-, -, sa2, -, -, -⟩ := box6 HSB.out
          have sf2 := box6_z HSB.out 2
          have HSC := Lib.hid (box6_t2 HSB.out (.int .i64 no))
          generalize hsC : wsB.setCell ⟨w4.heap.size, 2, none⟩ (.int .i64 no) = wsC at *
          obtain ⟨-, -, -, sa3, -, -⟩ := box6 HSC.out
          have sf3 := box6_z HSC.out 3
          have HSD := Lib.hid (box6_t3 HSC.out (.bool m'))
          generalize hsD : wsC.setCell ⟨w4.heap.size, 3, none⟩ (.bool m') = wsD at *
          obtain ⟨-, -, -, -, sa4, -⟩ := box6 HSD.out
          have sf4 := box6_z HSD.out 4
          have HSE := Lib.hid (box6_t4 HSD.out (.int .i64 mo))
          generalize hsE : wsD.setCell ⟨w4.heap.size, 4, none⟩ (.int .i64 mo) = wsE at *
          obtain ⟨-, -, -, -, -, sa5⟩ := box6 HSE.out
          have sf5 := box6_z HSE.out 5
          have HSF := Lib.hid (box6_t5 HSE.out (.slice a' (L6.length + 1) c'))
          generalize hsF : wsE.setCell ⟨w4.heap.size, 5, none⟩ (.slice a' (L6.length + 1) c') = wsF at *
          obtain ⟨sg0, sg1, sg2, sg3, sg4, sg5⟩ := box6 HSF.out
          go_wp2_with fail
          go_roundw
          case rel => exact ⟨j + 1, putNo L6 y, a', c', vss', by omega, by go_num, Lib.hid (by rw [putNo_len]; have := HN6.out; omega), Lib.hid (by rw [HR2.out, ← List.append_assoc, sortNo_snoc, HS6.out]), Lib.hid (by rw [putNo_len]; exact HOUTP.out)⟩
          case measure => (simp [intOf]; try omega)
        obtain ⟨vx, cx, xss, rfl, -⟩ := hkx.open
        have hbz := hb.alloc hb.size (.cells #[.int .i64 x.kind, .string x.name, .int .i64 x.no, .bool x.must, .int .i64 x.most, .slice vx x.kids.length cx] 59)
        have HOz := Lib.hid (HOn.out.later hbz)
        have HR2 : Hid (restP ks (us.take (j + 1)) = restP ks (us.take j)) := Lib.hid (by rw [HRT.out, hyes]; rfl)
        clear hb hbz hkx hyes b0 b1 b2 b3 b4 b5 x0 x1 x2 x3 x4 x5 q0 q1 q2 q3 q4 q5 HP
        generalize hwz : wb.alloc (.cells #[.int .i64 x.kind, .string x.name, .int .i64 x.no, .bool x.must, .int .i64 x.most, .slice vx x.kids.length cx] 59) = wz at *
        go_wp2_with fail
        go_roundw
        case rel => exact ⟨j + 1, L6, a6, c6, vss, by omega, by go_num, Lib.hid (by have := HN6.out; omega), Lib.hid (by rw [HR2.out]; exact HS6.out), HOz⟩
        case measure => (simp [intOf]; try omega)
    obtain ⟨x, hx⟩ : ∃ x, ks[i]? = some x := ⟨ks[i], List.getElem?_eq_getElem hend⟩
    have hxm := List.mem_of_getElem? hx
    obtain ⟨qb, offq, vx, cx, rfl, hqb, q0, q1, q2, q3, q4, q5, hkx, -⟩ := kss_at HRA.out HKA.out HBo.out hx
    have HKX := Lib.hid (KS.keep (T := (fun q => S q ∧ q < w.heap.size)) (kept_below HBo.out) (fun q h hl => ⟨h, hl⟩) _ _ hkx)
    have hqo : qb < wo.heap.size := by have := HBo.out.size; omega
    have hbn := (Below.refl wo.heap.size wo).alloc (Nat.le_refl _) (.cells #[.int .i64 x.kind, .string x.name, .int .i64 x.no, .bool x.must, .int .i64 x.most, .slice vx x.kids.length cx] 59)
    have HXn := Lib.hid (heap_alloc_new wo (.cells #[.int .i64 x.kind, .string x.name, .int .i64 x.no, .bool x.must, .int .i64 x.most, .slice vx x.kids.length cx] 59))
    have HDn := Lib.hid (hp_later hbn HDo.out)
    have HRn := Lib.hid (hp_later hbn HRo.out)
    have HOn := Lib.hid (HO.out.later hbn)
    have HBn := Lib.hid (HBo.out.trans (hbn.mono HBo.out.size))
    have HKXn := Lib.hid (HKX.out.later hbn)
    have hzn : wo.heap.size < (wo.alloc (.cells #[.int .i64 x.kind, .string x.name, .int .i64 x.no, .bool x.must, .int .i64 x.most, .slice vx x.kids.length cx] 59)).heap.size := by simp
    have HMN : Hid (meetP us x = none → meetL ks us = none) := Lib.hid (meetL_no hxm)
    have HMY : Hid (∀ z, meetP us x = some z → meetL (ks.take (i + 1)) us = some (l ++ [z])) := Lib.hid (fun z hz => meetL_take hx HL.out hz)
    have HXM := Lib.hid hxm
    clear hx hxm hkx hbn HO HAo HDo HRo HKX HL
    generalize hwn : wo.alloc (.cells #[.int .i64 x.kind, .string x.name, .int .i64 x.no, .bool x.must, .int .i64 x.most, .slice vx x.kids.length cx] 59) = wn at *
    clear a0 a1 a2 a3 a4 a5 b0 b1 b2 b3 b4 b5 c0 c1 c2 c3 c4 c5 d0 d1 d2 d3 d4 d5 o0 o1 o2 o3 o4 o5 p0 p1 p2 p3 p4 p5 f3 f4 fz5 oz5
    obtain ⟨b0, b1, b2, b3, b4, b5⟩ := box6 HDn.out
    obtain ⟨x0, x1, x2, x3, x4, x5⟩ := box6 HXn.out
    have HP := Lib.hid (HBYB.out wn x.no HBn.out)
    go_wp2_with fail
    refine HP.out.mono ?_
    rintro e wb ⟨cs, bx, rfl, hb, ⟨hno, rfl, rfl⟩ | ⟨y, hyes, rfl, hky⟩⟩
    · have hbz := below_set6 (hb.alloc hb.size (.cells #[.int .i64 0, .string { data := #[] }, .int .i64 0, .bool false, .int .i64 0, .slice none 0 0] 59)) (X := wb.heap.size) hb.size (.int .i64 0) (.string { data := #[] }) (.int .i64 0) (.bool false) (.int .i64 0) (.slice none 0 0)
      unfold set6 at hbz
      have HYz := Lib.hid (heap_alloc_new wb (.cells #[.int .i64 0, .string { data := #[] }, .int .i64 0, .bool false, .int .i64 0, .slice none 0 0] 59))
      have HXz := Lib.hid (hp_later hbz HXn.out)
      have HRz := Lib.hid (hp_later hbz HRn.out)
      have HOz := Lib.hid (HOn.out.later hbz)
      have HKXz := Lib.hid (HKXn.out.later hbz)
      have hwz0 := HOz.out.size
      have HPN : Hid (meetP us x = some x) := Lib.hid (by unfold meetP; rw [hno])
      clear hb hbz hno b1 b3 b4 b5 x0 x1 x2 x3 x4 x5 q0 q1 q2 q3 q4 q5 HP
      generalize hwz : wb.alloc (.cells #[.int .i64 0, .string { data := #[] }, .int .i64 0, .bool false, .int .i64 0, .slice none 0 0] 59) = wz at *
      obtain ⟨sa0, -, -, -, -, -⟩ := box6 HYz.out
      have sf0 := box6_z HYz.out 0
      have HSA := Lib.hid (box6_t0 HYz.out (.int .i64 0))
      generalize hsA : (wz).setCell ⟨wb.heap.size, 0, none⟩ (.int .i64 0) = wsA at *
      obtain ⟨-, sa1, -, -, -, -⟩ := box6 HSA.out
      have sf1 := box6_z HSA.out 1
      have HSB := Lib.hid (box6_t1 HSA.out (.string { data := #[] }))
      generalize hsB : wsA.setCell ⟨wb.heap.size, 1, none⟩ (.string { data := #[] }) = wsB at *
      obtain ⟨-, -, sa2, -, -, -⟩ := box6 HSB.out
      have sf2 := box6_z HSB.out 2
      have HSC := Lib.hid (box6_t2 HSB.out (.int .i64 0))
      generalize hsC : wsB.setCell ⟨wb.heap.size, 2, none⟩ (.int .i64 0) = wsC at *
      obtain ⟨-, -, -, sa3, -, -⟩ := box6 HSC.out
      have sf3 := box6_z HSC.out 3
      have HSD := Lib.hid (box6_t3 HSC.out (.bool false))
      generalize hsD : wsC.setCell ⟨wb.heap.size, 3, none⟩ (.bool false) = wsD at *
      obtain ⟨-, -, -, -, sa4, -⟩ := box6 HSD.out
      have sf4 := box6_z HSD.out 4
      have HSE := Lib.hid (box6_t4 HSD.out (.int .i64 0))
      generalize hsE : wsD.setCell ⟨wb.heap.size, 4, none⟩ (.int .i64 0) = wsE at *
      obtain ⟨-, -, -, -, -, sa5⟩ := box6 HSE.out
      have sf5 := box6_z HSE.out 5
      have HSF := Lib.hid (box6_t5 HSE.out (.slice none 0 0))
      generalize hsF : wsE.setCell ⟨wb.heap.size, 5, none⟩ (.slice none 0 0) = wsF at *
      obtain ⟨sg0, sg1, sg2, sg3, sg4, sg5⟩ := box6 HSF.out
      obtain ⟨x0, x1, x2, x3, x4, x5⟩ := box6 HXz.out
      have HKXS := Lib.hid (KS.keep (T := (mrS S w.heap.size w4.heap.size w2.heap.size)) (Kept.refl _ _) (fun q h _ => .inl h) _ _ HKXz.out)
      have HPUT := Lib.hid (out_put HOz.out (mrS_X (show w.heap.size ≤ w4.heap.size by omega)) (show L6.length ≤ 1048576 by have := HN6.out; omega) HKXS.out)
      have HXZ := Lib.hid (HOz.out.cells)
      obtain ⟨s0, s1, s2, s3, s4, s5⟩ := box6 HXZ.out
      go_wp2_with fail
      refine HPUT.out.mono ?_
      rintro e wp ⟨a', c', vss', rfl, hbp, hout⟩
      have HXP := Lib.hid (hp_later hbp HXZ.out)
      unfold set6 at hout
      have HOUTP := Lib.hid hout
      clear hbp hout s0 s1 s2 s3 s4 s5
      obtain ⟨sa0, -, -, -, -, -⟩ := box6 HXP.out
      have sf0 := box6_z HXP.out 0
      have HSA := Lib.hid (box6_t0 HXP.out (.int .i64 k))
      generalize hsA : (wp).setCell ⟨w4.heap.size, 0, none⟩ (.int .i64 k) = wsA at *
      obtain ⟨-, sa1, -, -, -, -⟩ := box6 HSA.out
      have sf1 := box6_z HSA.out 1
      have HSB := Lib.hid (box6_t1 HSA.out (.string nm))
      generalize hsB : wsA.setCell ⟨w4.heap.size, 1, none⟩ (.string nm) = wsB at *
      obtain ⟨-, -, sa2, -, -, -⟩ := box6 HSB.out
      have sf2 := box6_z HSB.out 2
      have HSC := Lib.hid (box6_t2 HSB.out (.int .i64 no))
      generalize hsC : wsB.setCell ⟨w4.heap.size, 2, none⟩ (.int .i64 no) = wsC at *
      obtain ⟨-, -, -, sa3, -, -⟩ := box6 HSC.out
      have sf3 := box6_z HSC.out 3
      have HSD := Lib.hid (box6_t3 HSC.out (.bool m'))
      generalize hsD : wsC.setCell ⟨w4.heap.size, 3, none⟩ (.bool m') = wsD at *
      obtain ⟨-, -, -, -, sa4, -⟩ := box6 HSD.out
      have sf4 := box6_z HSD.out 4
      have HSE := Lib.hid (box6_t4 HSD.out (.int .i64 mo))
      generalize hsE : wsD.setCell ⟨w4.heap.size, 4, none⟩ (.int .i64 mo) = wsE at *
      obtain ⟨-, -, -, -, -, sa5⟩ := box6 HSE.out
      have sf5 := box6_z HSE.out 5
      have HSF := Lib.hid (box6_t5 HSE.out (.slice a' (L6.length + 1) c'))
      generalize hsF : wsE.setCell ⟨w4.heap.size, 5, none⟩ (.slice a' (L6.length + 1) c') = wsF at *
      obtain ⟨sg0, sg1, sg2, sg3, sg4, sg5⟩ := box6 HSF.out
      go_wp2_with fail
      go_roundw
      case rel => exact ⟨i + 1, l ++ [x], putNo L6 x, a', c', vss', by omega, by go_num, Lib.hid (by rw [putNo_len, HN6.out]), Lib.hid (by simp [HN.out]), Lib.hid (by rw [sortNo_snoc, HS6.out]), Lib.hid (HMY.out x HPN.out), Lib.hid (by rw [putNo_len]; exact HOUTP.out)⟩
      case measure => (simp [intOf]; try omega)
    obtain ⟨vy, cy, yss, rfl, -⟩ := hky.open
    have hbz := hb.alloc hb.size (.cells #[.int .i64 y.kind, .string y.name, .int .i64 y.no, .bool y.must, .int .i64 y.most, .slice vy y.kids.length cy] 59)
    have hby := (Below.refl wb.heap.size wb).alloc (Nat.le_refl _) (.cells #[.int .i64 y.kind, .string y.name, .int .i64 y.no, .bool y.must, .int .i64 y.most, .slice vy y.kids.length cy] 59)
    have HXz := Lib.hid (hp_later hbz HXn.out)
    have HRz := Lib.hid (hp_later hbz HRn.out)
    have HOz := Lib.hid (HOn.out.later hbz)
    have HYz := Lib.hid (heap_alloc_new wb (.cells #[.int .i64 y.kind, .string y.name, .int .i64 y.no, .bool y.must, .int .i64 y.most, .slice vy y.kids.length cy] 59))
    have HBz := Lib.hid (HBn.out.trans (hbz.mono HBn.out.size))
    have HC := Lib.hid (HIH.out (fun q => S q ∧ q < w.heap.size) (wb.alloc (.cells #[.int .i64 y.kind, .string y.name, .int .i64 y.no, .bool y.must, .int .i64 y.most, .slice vy y.kids.length cy] 59)) x y _ _ HXM.out (byNo_no hyes).2 (HKXn.out.later hbz) (hky.later hby))
    unfold MeetV at HC
    have HPE : Hid (meetP us x = meetT x y) := Lib.hid (by unfold meetP; rw [hyes])
    clear hb hbz hby hky hyes b0 b1 b2 b3 b4 b5 x0 x1 x2 x3 x4 x5 q0 q1 q2 q3 q4 q5 HP
    generalize hwz : wb.alloc (.cells #[.int .i64 y.kind, .string y.name, .int .i64 y.no, .bool y.must, .int .i64 y.most, .slice vy y.kids.length cy] 59) = wz at *
    obtain ⟨x0, x1, x2, x3, x4, x5⟩ := box6 HXz.out
    obtain ⟨y0, y1, y2, y3, y4, y5⟩ := box6 HYz.out
    have hwz0 := HOz.out.size
    go_wp2_with fail
    refine HC.out.mono ?_
    rintro e wc ⟨kk, nn, oo, mm, pp, sa, sn, sc, ok, rfl, hb, hres⟩
    have hbq := hb.alloc hb.size (.cells #[.int .i64 kk, .string nn, .int .i64 oo, .bool mm, .int .i64 pp, .slice sa sn sc] 59)
    have hbc := (Below.refl wc.heap.size wc).alloc (Nat.le_refl _) (.cells #[.int .i64 kk, .string nn, .int .i64 oo, .bool mm, .int .i64 pp, .slice sa sn sc] 59)
    have HRq := Lib.hid (hp_later hbq HRz.out)
    have HOq := Lib.hid (HOz.out.later hbq)
    have HZq := Lib.hid (heap_alloc_new wc (.cells #[.int .i64 kk, .string nn, .int .i64 oo, .bool mm, .int .i64 pp, .slice sa sn sc] 59))
    have HBq := Lib.hid (HBz.out.trans (hbq.mono HBz.out.size))
    have HRESq : Hid ((meetT x y = none ∧ ok = false) ∨ (∃ t, meetT x y = some t ∧ ok = true ∧ KS (mrS S w.heap.size w4.heap.size w2.heap.size) (wc.alloc (.cells #[.int .i64 kk, .string nn, .int .i64 oo, .bool mm, .int .i64 pp, .slice sa sn sc] 59)) t [.int .i64 kk, .string nn, .int .i64 oo, .bool mm, .int .i64 pp, .slice sa sn sc])) := Lib.hid (by
      rcases hres with h | ⟨t, e1, e2, hk⟩
      · exact .inl h
      · refine .inr ⟨t, e1, e2, KS.keep (kept_below hbc) (fun q hq _ => ?_) _ _ hk⟩
        rcases hq with h1 | h1
        · exact .inl h1
        · exact .inr ⟨by omega, by omega, by omega⟩)
    clear hb hbq hbc hres x0 x1 x2 x3 x4 x5 y0 y1 y2 y3 y4 y5 HC
    generalize hwq : wc.alloc (.cells #[.int .i64 kk, .string nn, .int .i64 oo, .bool mm, .int .i64 pp, .slice sa sn sc] 59) = wq at *
    obtain ⟨z0, z1, z2, z3, z4, z5⟩ := box6 HZq.out
    cases ok with
    | false =>
      have HNONE : Hid (meetL ks us = none) := Lib.hid (HMN.out (by
        rw [HPE.out]
        rcases HRESq.out with ⟨h, -⟩ | ⟨t, -, e, -⟩
        · exact h
        · cases e))
      have HBF := Lib.hid (below_set6 HBq.out (show w.heap.size ≤ w2.heap.size by omega) (.int .i64 0) (.string { data := #[] }) (.int .i64 0) (.bool false) (.int .i64 0) (.slice none 0 0))
      unfold set6 at HBF
      obtain ⟨sa0, -, -, -, -, -⟩ := box6 HRq.out
      have sf0 := box6_z HRq.out 0
      have HSA := Lib.hid (box6_t0 HRq.out (.int .i64 0))
      generalize hsA : (wq).setCell ⟨w2.heap.size, 0, none⟩ (.int .i64 0) = wsA at *
      obtain ⟨-, sa1, -, -, -, -⟩ := box6 HSA.out
      have sf1 := box6_z HSA.out 1
      have HSB := Lib.hid (box6_t1 HSA.out (.string { data := #[] }))
      generalize hsB : wsA.setCell ⟨w2.heap.size, 1, none⟩ (.string { data := #[] }) = wsB at *
      obtain ⟨-, -, sa2, -, -, -⟩ := box6 HSB.out
      have sf2 := box6_z HSB.out 2
      have HSC := Lib.hid (box6_t2 HSB.out (.int .i64 0))
      generalize hsC : wsB.setCell ⟨w2.heap.size, 2, none⟩ (.int .i64 0) = wsC at *
      obtain ⟨-, -, -, sa3, -, -⟩ := box6 HSC.out
      have sf3 := box6_z HSC.out 3
      have HSD := Lib.hid (box6_t3 HSC.out (.bool false))
      generalize hsD : wsC.setCell ⟨w2.heap.size, 3, none⟩ (.bool false) = wsD at *
      obtain ⟨-, -, -, -, sa4, -⟩ := box6 HSD.out
      have sf4 := box6_z HSD.out 4
      have HSE := Lib.hid (box6_t4 HSD.out (.int .i64 0))
      generalize hsE : wsD.setCell ⟨w2.heap.size, 4, none⟩ (.int .i64 0) = wsE at *
      obtain ⟨-, -, -, -, -, sa5⟩ := box6 HSE.out
      have sf5 := box6_z HSE.out 5
      have HSF := Lib.hid (box6_t5 HSE.out (.slice none 0 0))
      generalize hsF : wsE.setCell ⟨w2.heap.size, 5, none⟩ (.slice none 0 0) = wsF at *
      obtain ⟨sg0, sg1, sg2, sg3, sg4, sg5⟩ := box6 HSF.out
      go_wp2_with fail
      refine bodyPost_ret (v := .tuple #[.agg #[.int .i64 0, .string { data := #[] }, .int .i64 0, .bool false, .int .i64 0, .slice none 0 0], .bool false]) (by simp [results, Try.results34, go_sem, sg0, sg1, sg2, sg3, sg4, sg5]) rfl ?_
      exact meetv_no (by rw [HT.out, HNONE.out]) HBF.out
    | true =>
      obtain ⟨z, hz, hkz⟩ : ∃ z, meetT x y = some z ∧ KS (mrS S w.heap.size w4.heap.size w2.heap.size) wq z [.int .i64 kk, .string nn, .int .i64 oo, .bool mm, .int .i64 pp, .slice sa sn sc] := by
        rcases HRESq.out with ⟨-, e⟩ | ⟨t, h, -, hk⟩
        · cases e
        · exact ⟨t, h, hk⟩
      have HKZ := Lib.hid hkz
      have HPZ : Hid (meetP us x = some z) := Lib.hid (HPE.out.trans hz)
      clear hz hkz
      have HPUT := Lib.hid (out_put HOq.out (mrS_X (show w.heap.size ≤ w4.heap.size by omega)) (show L6.length ≤ 1048576 by have := HN6.out; omega) HKZ.out)
      have HXZ := Lib.hid (HOq.out.cells)
      obtain ⟨s0, s1, s2, s3, s4, s5⟩ := box6 HXZ.out
      go_wp2_with fail
      refine HPUT.out.mono ?_
      rintro e wp ⟨a', c', vss', rfl, hbp, hout⟩
      have HXP := Lib.hid (hp_later hbp HXZ.out)
      unfold set6 at hout
      have HOUTP := Lib.hid hout
      clear hbp hout s0 s1 s2 s3 s4 s5
      obtain ⟨sa0, -, -, -, -, -⟩ := box6 HXP.out
      have sf0 := box6_z HXP.out 0
      have HSA := Lib.hid (box6_t0 HXP.out (.int .i64 k))
      generalize hsA : (wp).setCell ⟨w4.heap.size, 0, none⟩ (.int .i64 k) = wsA at *
      obtain ⟨-, sa1, -, -, -, -⟩ := box6 HSA.out
      have sf1 := box6_z HSA.out 1
      have HSB := Lib.hid (box6_t1 HSA.out (.string nm))
      generalize hsB : wsA.setCell ⟨w4.heap.size, 1, none⟩ (.string nm) = wsB at *
      obtain ⟨-, -, sa2, -, -, -⟩ := box6 HSB.out
      have sf2 := box6_z HSB.out 2
      have HSC := Lib.hid (box6_t2 HSB.out (.int .i64 no))
      generalize hsC : wsB.setCell ⟨w4.heap.size, 2, none⟩ (.int .i64 no) = wsC at *
      obtain ⟨-, -, -, sa3, -, -⟩ := box6 HSC.out
      have sf3 := box6_z HSC.out 3
      have HSD := Lib.hid (box6_t3 HSC.out (.bool m'))
      generalize hsD : wsC.setCell ⟨w4.heap.size, 3, none⟩ (.bool m') = wsD at *
      obtain ⟨-, -, -, -, sa4, -⟩ := box6 HSD.out
      have sf4 := box6_z HSD.out 4
      have HSE := Lib.hid (box6_t4 HSD.out (.int .i64 mo))
      generalize hsE : wsD.setCell ⟨w4.heap.size, 4, none⟩ (.int .i64 mo) = wsE at *
      obtain ⟨-, -, -, -, -, sa5⟩ := box6 HSE.out
      have sf5 := box6_z HSE.out 5
      have HSF := Lib.hid (box6_t5 HSE.out (.slice a' (L6.length + 1) c'))
      generalize hsF : wsE.setCell ⟨w4.heap.size, 5, none⟩ (.slice a' (L6.length + 1) c') = wsF at *
      obtain ⟨sg0, sg1, sg2, sg3, sg4, sg5⟩ := box6 HSF.out
      go_wp2_with fail
      go_roundw
      case rel => exact ⟨i + 1, l ++ [z], putNo L6 z, a', c', vss', by omega, by go_num, Lib.hid (by rw [putNo_len, HN6.out]), Lib.hid (by simp [HN.out]), Lib.hid (by rw [sortNo_snoc, HS6.out]), Lib.hid (HMY.out z HPZ.out), Lib.hid (by rw [putNo_len]; exact HOUTP.out)⟩
      case measure => (simp [intOf]; try omega)
end Go.Proofs.Ytmlnecopbncdbaa
namespace Go.Proofs.Ytmlnecopbncdbaa
open Go.ChangeShapes Go.WideShapes Go.ChangeAt Go.RowKit
set_option maxRecDepth 100000

set_option maxHeartbeats 16000000 in
theorem meet_msg_tl {S : Nat → Prop} {w : World} (nm nm' : ByteArray) (no no' : Int) (m' : Bool) (mo mo' : Int) (k k' : Int) (hk : k = k') (h4 : ¬ k = 4) (ks us : List Tr) {va vb : Option Addr} {ca cb : Nat} {vsa vsb : List (List Value)} (hnm : nm.size ≤ maxLen) (hnm' : nm'.size ≤ maxLen) (hca : ks.length ≤ ca) (hcam : ca ≤ 9223372036854775807) (hcb : us.length ≤ cb) (hcbm : cb ≤ 9223372036854775807) (hra : RS S w va (List.flatten vsa)) (hka : KSs S w ks vsa) (hrb : RS S w vb (List.flatten vsb)) (hkb : KSs S w us vsb) (hll : ks.length + us.length ≤ 1048576) (hcmp : mo' < mo)
    (IH : ∀ (S' : Nat → Prop) (wx : World) (x y : Tr) (px py : List Value), x ∈ ks → y ∈ us → KS S' wx x px → KS S' wx y py → Calls Try.prog 34 #[.agg px.toArray, .agg py.toArray] wx (MeetV S' x y wx)) :
    Calls Try.prog 34 #[.agg #[.int .i64 k, .string nm, .int .i64 no, .bool true, .int .i64 mo, .slice va ks.length ca], .agg #[.int .i64 k', .string nm', .int .i64 no', .bool m', .int .i64 mo', .slice vb us.length cb]] w (MeetV S (.node k nm no true mo ks) (.node k' nm' no' m' mo' us) w) := by
  have HT := Lib.hid (meetT_msg (a := .node k nm no true mo ks) (b := .node k' nm' no' m' mo' us) hk h4)
  simp only [Tr.kind, Tr.name, Tr.no, Tr.must, Tr.most, Tr.kids] at HT
  have nk : (k != k') = false := by rw [hk]; exact bne_self_eq_false _
  have n4 : (k == 4) = false := beq_eq_false_iff_ne.2 h4
  have hmin : min mo mo' = mo' := by omega
  rw [hmin] at HT
  have HSH := Lib.hid (fun wx => spec_l2Shell k nm no true mo va ks.length ca wx)
  have HIH := Lib.hid IH
  have hA : KS S w (.node k nm no true mo ks) [.int .i64 k, .string nm, .int .i64 no, .bool true, .int .i64 mo, .slice va ks.length ca] := by rw [KS]; exact ⟨va, ca, vsa, rfl, hnm, hca, hcam, hra, hka⟩
  have hB : KS S w (.node k' nm' no' m' mo' us) [.int .i64 k', .string nm', .int .i64 no', .bool m', .int .i64 mo', .slice vb us.length cb] := by rw [KS]; exact ⟨vb, cb, vsb, rfl, hnm', hcb, hcbm, hrb, hkb⟩
  have HBYA : Hid (∀ wx no2, Below w.heap.size w wx → Calls Try.prog 65 #[.agg #[.int .i64 k, .string nm, .int .i64 no, .bool true, .int .i64 mo, .slice va ks.length ca], .int .i64 no2] wx (ByO (fun q => S q ∧ q < w.heap.size) (.node k nm no true mo ks) no2 wx)) := Lib.hid (fun wx no2 hbx => spec_l2By (KS.keep (kept_below hbx) (fun q h hl => ⟨h, hl⟩) _ _ hA) (show ks.length ≤ 1048576 by omega) no2)
  have HBYB : Hid (∀ wx no2, Below w.heap.size w wx → Calls Try.prog 65 #[.agg #[.int .i64 k', .string nm', .int .i64 no', .bool m', .int .i64 mo', .slice vb us.length cb], .int .i64 no2] wx (ByO (fun q => S q ∧ q < w.heap.size) (.node k' nm' no' m' mo' us) no2 wx)) := Lib.hid (fun wx no2 hbx => spec_l2By (KS.keep (kept_below hbx) (fun q h hl => ⟨h, hl⟩) _ _ hB) (show us.length ≤ 1048576 by omega) no2)
  unfold ByO at HBYA HBYB
  simp only [Tr.kids] at HBYA HBYB
  have HRA := Lib.hid hra; have HKA := Lib.hid hka; have HRB := Lib.hid hrb; have HKB := Lib.hid hkb
  have HNM := Lib.hid hnm
  clear hk h4 hA hB IH hra hka hrb hkb hmin hnm hnm'
  have hB1 := Below.alloc (Below.refl w.heap.size w) (Nat.le_refl _) (.cells #[.int .i64 k, .string nm, .int .i64 no, .bool true, .int .i64 mo, .slice va ks.length ca] 59)
  have hX1 := heap_alloc_new w (.cells #[.int .i64 k, .string nm, .int .i64 no, .bool true, .int .i64 mo, .slice va ks.length ca] 59)
  generalize hw1 : w.alloc (.cells #[.int .i64 k, .string nm, .int .i64 no, .bool true, .int .i64 mo, .slice va ks.length ca] 59) = w1 at *
  have l1 := hp_lt hX1
  have hB2 := hB1.alloc (Nat.le_of_lt l1) (.cells #[.int .i64 k', .string nm', .int .i64 no', .bool m', .int .i64 mo', .slice vb us.length cb] 59)
  have hX1 := hp_alloc (.cells #[.int .i64 k', .string nm', .int .i64 no', .bool m', .int .i64 mo', .slice vb us.length cb] 59) hX1
  have hX2 := heap_alloc_new w1 (.cells #[.int .i64 k', .string nm', .int .i64 no', .bool m', .int .i64 mo', .slice vb us.length cb] 59)
  generalize hw2 : w1.alloc (.cells #[.int .i64 k', .string nm', .int .i64 no', .bool m', .int .i64 mo', .slice vb us.length cb] 59) = w2 at *
  have l2 := hp_lt hX2
  have hB3 := hB2.alloc (by omega) (.cells #[.int .i64 0, .string { data := #[] }, .int .i64 0, .bool false, .int .i64 0, .slice none 0 0] 59)
  have hX1 := hp_alloc (.cells #[.int .i64 0, .string { data := #[] }, .int .i64 0, .bool false, .int .i64 0, .slice none 0 0] 59) hX1
  have hX2 := hp_alloc (.cells #[.int .i64 0, .string { data := #[] }, .int .i64 0, .bool false, .int .i64 0, .slice none 0 0] 59) hX2
  have hX3 := heap_alloc_new w2 (.cells #[.int .i64 0, .string { data := #[] }, .int .i64 0, .bool false, .int .i64 0, .slice none 0 0] 59)
  generalize hw3 : w2.alloc (.cells #[.int .i64 0, .string { data := #[] }, .int .i64 0, .bool false, .int .i64 0, .slice none 0 0] 59) = w3 at *
  have l3 := hp_lt hX3
  have HB3 := Lib.hid hB3
  have HX1 := Lib.hid hX1
  have HX2 := Lib.hid hX2
  have HX3 := Lib.hid hX3
  obtain ⟨a0, a1, a2, a3, a4, a5⟩ := box6 hX1
  obtain ⟨b0, b1, b2, b3, b4, b5⟩ := box6 hX2
  clear hB1 hB2 hB3 hX1 hX2 hX3
  have HSH := Lib.hid (HSH.out w3)
  go_enter Try.func34, Try.ntmps34
  go_wp2_with fail
  refine HSH.out.mono ?_
  rintro e w4 ⟨rfl, hb4⟩
  have hz4 := hb4.size
  have hX6 := heap_alloc_new w4 (.cells #[.int .i64 k, .string nm, .int .i64 no, .bool true, .int .i64 mo, .slice none 0 0] 59)
  have hb5 := hb4.alloc hb4.size (.cells #[.int .i64 k, .string nm, .int .i64 no, .bool true, .int .i64 mo, .slice none 0 0] 59)
  generalize hw5 : w4.alloc (.cells #[.int .i64 k, .string nm, .int .i64 no, .bool true, .int .i64 mo, .slice none 0 0] 59) = w5z at *
  obtain ⟨-, -, -, -, -, oz5⟩ := box6 hX6
  have fz5 := box6_z hX6 5
  have hX6 := box6_t5 hX6 (.slice none 0 0)
  have hb5 := below_set hb5 hz4 5 (.slice none 0 0)
  generalize hw5b : w5z.setCell ⟨w4.heap.size, 5, none⟩ (.slice none 0 0) = w5 at *
  have l5 := hp_lt hX6
  have HX1 := Lib.hid (hp_later hb5 HX1.out)
  have HX2 := Lib.hid (hp_later hb5 HX2.out)
  have HX3 := Lib.hid (hp_later hb5 HX3.out)
  have HB5 := Lib.hid (HB3.out.trans (hb5.mono HB3.out.size))
  have f3 := box6_z hX6 3
  have f4 := box6_z (box6_t3 hX6 (.bool true)) 4
  clear hb4 hb5 a0 a1 a2 a3 a4 a5 b0 b1 b2 b3 b4 b5
  obtain ⟨o0, o1, o2, o3, o4, o5⟩ := box6 hX6
  obtain ⟨a0, a1, a2, a3, a4, a5⟩ := box6 HX1.out
  obtain ⟨b0, b1, b2, b3, b4, b5⟩ := box6 HX2.out
  have hX6 := box6_t3 hX6 (.bool true)
  have HX1 := Lib.hid (hp_set (Y := w4.heap.size) (i := 3) (u := .bool true) HX1.out (by omega))
  have HX2 := Lib.hid (hp_set (Y := w4.heap.size) (i := 3) (u := .bool true) HX2.out (by omega))
  have HX3 := Lib.hid (hp_set (Y := w4.heap.size) (i := 3) (u := .bool true) HX3.out (by omega))
  have HB6 := Lib.hid (below_set HB5.out (show w.heap.size ≤ w4.heap.size by omega) 3 (.bool true))
  generalize hw6 : w5.setCell ⟨w4.heap.size, 3, none⟩ (.bool true) = w6 at *
  have l6 := hp_lt hX6
  obtain ⟨p0, p1, p2, p3, p4, p5⟩ := box6 hX6
  obtain ⟨c0, c1, c2, c3, c4, c5⟩ := box6 HX1.out
  obtain ⟨d0, d1, d2, d3, d4, d5⟩ := box6 HX2.out
  have hX6 := box6_t4 hX6 (.int .i64 mo')
  have HX1 := Lib.hid (hp_set (Y := w4.heap.size) (i := 4) (u := .int .i64 mo') HX1.out (by omega))
  have HX2 := Lib.hid (hp_set (Y := w4.heap.size) (i := 4) (u := .int .i64 mo') HX2.out (by omega))
  have HX3 := Lib.hid (hp_set (Y := w4.heap.size) (i := 4) (u := .int .i64 mo') HX3.out (by omega))
  have HB7 := Lib.hid (below_set HB6.out (show w.heap.size ≤ w4.heap.size by omega) 4 (.int .i64 mo'))
  generalize hw7 : w6.setCell ⟨w4.heap.size, 4, none⟩ (.int .i64 mo') = w7 at *
  have l7 := hp_lt hX6
  obtain ⟨e0, e1, e2, e3, e4, e5⟩ := box6 hX6
  obtain ⟨g0, g1, g2, g3, g4, g5⟩ := box6 HX1.out
  obtain ⟨h0, h1, h2, h3, h4, h5⟩ := box6 HX2.out
  have HX6 := Lib.hid hX6
  clear hX6
  have hzw7 := HB7.out.size
  have HOUT7 : Hid (OutAt (mrS S w.heap.size w4.heap.size w2.heap.size) w4.heap.size w7.heap.size w7 k nm no true mo' [] (.slice none 0 0) [] w7) := Lib.hid ⟨HX6.out, World.ownsRow_nil _ _ _ _, by rw [KSs], fun _ => rfl, Wrote.refl _ _, l7, Nat.le_refl _⟩
  go_wp2_with fail
  go_loopw [65] (fun iv wr => ∃ (i : Nat) (l L6 : List Tr) (a6 : Option Addr) (c6 : Nat) (vss : List (List Value)), i ≤ ks.length ∧ iv = .int .i64 (i : Int) ∧ Hid (L6.length = i) ∧ Hid (l.length = i) ∧ Hid (L6 = sortNo l) ∧ Hid (meetL (ks.take i) us = some l) ∧ Hid (OutAt (mrS S w.heap.size w4.heap.size w2.heap.size) w4.heap.size w7.heap.size w7 k nm no true mo' L6 (.slice a6 L6.length c6) vss wr)) (fun iv _ => ks.length - (intOf iv).toNat)
  case atStart => exact ⟨0, [], [], none, 0, [], by omega, rfl, Lib.hid rfl, Lib.hid rfl, Lib.hid rfl, Lib.hid (by rw [List.take_zero, meetL]), HOUT7⟩
  case round =>
    obtain ⟨wo, rfl⟩ : ∃ z : World, z = wr := ⟨_, rfl⟩
    obtain ⟨i, l, L6, a6, c6, vss, hil, rfl, HN6, HN, HS6, HL, HO⟩ := hrel
    have HBo := Lib.hid (rwrote HB7.out HO.out.wrote (fun q hq => by omega))
    have hzo := HO.out.size
    have HAo := Lib.hid (wrote_hp HO.out.wrote HX1.out (by omega))
    have HDo := Lib.hid (wrote_hp HO.out.wrote HX2.out (by omega))
    have HRo := Lib.hid (wrote_hp HO.out.wrote HX3.out (by omega))
    clear HX6 HOUT7
    by_cases hend : i < ks.length
    case neg =>
      have hie : i = ks.length := by omega
      have HLL : Hid (meetL ks us = some l) := Lib.hid (by have := HL.out; rwa [hie, List.take_length] at this)
      clear hie HL HN
      clear a0 a1 a2 a3 a4 a5 b0 b1 b2 b3 b4 b5 c0 c1 c2 c3 c4 c5 d0 d1 d2 d3 d4 d5 o0 o1 o2 o3 o4 o5 p0 p1 p2 p3 p4 p5 f3 f4 fz5 oz5
      obtain ⟨b0, b1, b2, b3, b4, b5⟩ := box6 HDo.out
      have hge : ¬ ((i : Int) < (ks.length : Int)) := by omega
      go_wp2_with fail
      go_loopw [97] (fun jv wr => ∃ (j : Nat) (L6 : List Tr) (a6 : Option Addr) (c6 : Nat) (vss : List (List Value)), j ≤ us.length ∧ jv = .int .i64 (j : Int) ∧ Hid (L6.length ≤ i + j) ∧ Hid (L6 = sortNo (l ++ restP ks (us.take j))) ∧ Hid (OutAt (mrS S w.heap.size w4.heap.size w2.heap.size) w4.heap.size w7.heap.size w7 k nm no true mo' L6 (.slice a6 L6.length c6) vss wr)) (fun jv _ => us.length - (intOf jv).toNat)
      case atStart => exact ⟨0, L6, a6, c6, vss, by omega, rfl, Lib.hid (by rw [HN6.out]; omega), Lib.hid (by rw [List.take_zero]; unfold restP; rw [List.filter_nil, List.append_nil]; exact HS6.out), HO⟩
      case round =>
        clear HO HAo HDo HRo HBo hzo HN6 HS6 b0 b1 b2 b3 b4 b5
        obtain ⟨wv, rfl⟩ : ∃ z : World, z = wr := ⟨_, rfl⟩
        obtain ⟨j, L6, a6, c6, vss, hjl, rfl, HN6, HS6, HO⟩ := hrel
        have HBo := Lib.hid (rwrote HB7.out HO.out.wrote (fun q hq => by omega))
        have hzo := HO.out.size
        have HAo := Lib.hid (wrote_hp HO.out.wrote HX1.out (by omega))
        have HRo := Lib.hid (wrote_hp HO.out.wrote HX3.out (by omega))
        by_cases hjend : j < us.length
        case neg =>
          have hje : j = us.length := by omega
          have HLM : Hid (L6 = sortNo (l ++ restP ks us)) := Lib.hid (by have := HS6.out; rwa [hje, List.take_length] at this)
          have hgj : ¬ ((j : Int) < (us.length : Int)) := by omega
          have HKF := Lib.hid (HO.out.done HNM.out (show w.heap.size ≤ w2.heap.size by omega) hzw7 (by omega) (by omega))
          have HBF := Lib.hid (below_set6 HBo.out (show w.heap.size ≤ w2.heap.size by omega) (.int .i64 k) (.string nm) (.int .i64 no) (.bool true) (.int .i64 mo') (.slice a6 L6.length c6))
          unfold set6 at HKF HBF
          have HXo := Lib.hid HO.out.cells
          obtain ⟨y0, y1, y2, y3, y4, y5⟩ := box6 HXo.out
          clear hje
          obtain ⟨sa0, -, -, -, -, -⟩ := box6 HRo.out
          have sf0 := box6_z HRo.out 0
          have HSA := Lib.hid (box6_t0 HRo.out (.int .i64 k))
          generalize hsA : (wv).setCell ⟨w2.heap.size, 0, none⟩ (.int .i64 k) = wsA at *
          obtain ⟨-, sa1, -, -, -, -⟩ := box6 HSA.out
          have sf1 := box6_z HSA.out 1
          have HSB := Lib.hid (box6_t1 HSA.out (.string nm))
          generalize hsB : wsA.setCell ⟨w2.heap.size, 1, none⟩ (.string nm) = wsB at *
          obtain ⟨-, -, sa2, -, -, -⟩ := box6 HSB.out
          have sf2 := box6_z HSB.out 2
          have HSC := Lib.hid (box6_t2 HSB.out (.int .i64 no))
          generalize hsC : wsB.setCell ⟨w2.heap.size, 2, none⟩ (.int .i64 no) = wsC at *
          obtain ⟨-, -, -, sa3, -, -⟩ := box6 HSC.out
          have sf3 := box6_z HSC.out 3
          have HSD := Lib.hid (box6_t3 HSC.out (.bool true))
          generalize hsD : wsC.setCell ⟨w2.heap.size, 3, none⟩ (.bool true) = wsD at *
          obtain ⟨-, -, -, -, sa4, -⟩ := box6 HSD.out
          have sf4 := box6_z HSD.out 4
          have HSE := Lib.hid (box6_t4 HSD.out (.int .i64 mo'))
          generalize hsE : wsD.setCell ⟨w2.heap.size, 4, none⟩ (.int .i64 mo') = wsE at *
          obtain ⟨-, -, -, -, -, sa5⟩ := box6 HSE.out
          have sf5 := box6_z HSE.out 5
          have HSF := Lib.hid (box6_t5 HSE.out (.slice a6 L6.length c6))
          generalize hsF : wsE.setCell ⟨w2.heap.size, 5, none⟩ (.slice a6 L6.length c6) = wsF at *
          obtain ⟨sg0, sg1, sg2, sg3, sg4, sg5⟩ := box6 HSF.out
          go_wp2_with fail
          refine bodyPost_ret (v := .tuple #[.agg #[.int .i64 k, .string nm, .int .i64 no, .bool true, .int .i64 mo', .slice a6 L6.length c6], .bool true]) (by simp [results, Try.results34, go_sem, sg0, sg1, sg2, sg3, sg4, sg5]) rfl ?_
          exact meetv_yes (by rw [HT.out, HLL.out]) HBF.out (by rw [← HLM.out]; simpa using HKF.out)
        obtain ⟨y, hy⟩ : ∃ y, us[j]? = some y := ⟨us[j], List.getElem?_eq_getElem hjend⟩
        obtain ⟨qb, offq, vy, cy, rfl, hqb, q0, q1, q2, q3, q4, q5, hky, -⟩ := kss_at HRB.out HKB.out HBo.out hy
        have HKY := Lib.hid (KS.keep (T := (fun q => S q ∧ q < w.heap.size)) (kept_below HBo.out) (fun q h hl => ⟨h, hl⟩) _ _ hky)
        have hqo : qb < wv.heap.size := by have := HBo.out.size; omega
        have hbn := (Below.refl wv.heap.size wv).alloc (Nat.le_refl _) (.cells #[.int .i64 y.kind, .string y.name, .int .i64 y.no, .bool y.must, .int .i64 y.most, .slice vy y.kids.length cy] 59)
        have HXn := Lib.hid (heap_alloc_new wv (.cells #[.int .i64 y.kind, .string y.name, .int .i64 y.no, .bool y.must, .int .i64 y.most, .slice vy y.kids.length cy] 59))
        have HAn := Lib.hid (hp_later hbn HAo.out)
        have HOn := Lib.hid (HO.out.later hbn)
        have HBn := Lib.hid (HBo.out.trans (hbn.mono HBo.out.size))
        have HKYn := Lib.hid (HKY.out.later hbn)
        have hzn : wv.heap.size < (wv.alloc (.cells #[.int .i64 y.kind, .string y.name, .int .i64 y.no, .bool y.must, .int .i64 y.most, .slice vy y.kids.length cy] 59)).heap.size := by simp
        have HRT := Lib.hid (restP_take (ks := ks) hy)
        clear hy hky hbn HO HAo HRo HKY
        generalize hwn : wv.alloc (.cells #[.int .i64 y.kind, .string y.name, .int .i64 y.no, .bool y.must, .int .i64 y.most, .slice vy y.kids.length cy] 59) = wn at *
        obtain ⟨b0, b1, b2, b3, b4, b5⟩ := box6 HAn.out
        obtain ⟨x0, x1, x2, x3, x4, x5⟩ := box6 HXn.out
        have HP := Lib.hid (HBYA.out wn y.no HBn.out)
        go_wp2_with fail
        refine HP.out.mono ?_
        rintro e wb ⟨cs, bx, rfl, hb, ⟨hno, rfl, rfl⟩ | ⟨x, hyes, rfl, hkx⟩⟩
        · have hbz := below_set6 (hb.alloc hb.size (.cells #[.int .i64 0, .string { data := #[] }, .int .i64 0, .bool false, .int .i64 0, .slice none 0 0] 59)) (X := wb.heap.size) hb.size (.int .i64 0) (.string { data := #[] }) (.int .i64 0) (.bool false) (.int .i64 0) (.slice none 0 0)
          unfold set6 at hbz
          have HYz := Lib.hid (heap_alloc_new wb (.cells #[.int .i64 0, .string { data := #[] }, .int .i64 0, .bool false, .int .i64 0, .slice none 0 0] 59))
          have HXz := Lib.hid (hp_later hbz HXn.out)
          have HOz := Lib.hid (HOn.out.later hbz)
          have HKYz := Lib.hid (HKYn.out.later hbz)
          have hwz0 := HOz.out.size
          have HR2 : Hid (restP ks (us.take (j + 1)) = restP ks (us.take j) ++ [y]) := Lib.hid (by rw [HRT.out, hno]; rfl)
          clear hb hbz hno b0 b1 b2 b3 b4 b5 x0 x1 x2 x3 x4 x5 q0 q1 q2 q3 q4 q5 HP
          generalize hwz : wb.alloc (.cells #[.int .i64 0, .string { data := #[] }, .int .i64 0, .bool false, .int .i64 0, .slice none 0 0] 59) = wz at *
          obtain ⟨sa0, -, -, -, -, -⟩ := box6 HYz.out
          have sf0 := box6_z HYz.out 0
          have HSA := Lib.hid (box6_t0 HYz.out (.int .i64 0))
          generalize hsA : (wz).setCell ⟨wb.heap.size, 0, none⟩ (.int .i64 0) = wsA at *
          obtain ⟨-, sa1, -, -, -, -⟩ := box6 HSA.out
          have sf1 := box6_z HSA.out 1
          have HSB := Lib.hid (box6_t1 HSA.out (.string { data := #[] }))
          generalize hsB : wsA.setCell ⟨wb.heap.size, 1, none⟩ (.string { data := #[] }) = wsB at *
          obtain ⟨-, -, sa2, -, -, -⟩ := box6 HSB.out
          have sf2 := box6_z HSB.out 2
          have HSC := Lib.hid (box6_t2 HSB.out (.int .i64 0))
          generalize hsC : wsB.setCell ⟨wb.heap.size, 2, none⟩ (.int .i64 0) = wsC at *
          obtain ⟨-, -, -, sa3, -, -⟩ := box6 HSC.out
          have sf3 := box6_z HSC.out 3
          have HSD := Lib.hid (box6_t3 HSC.out (.bool false))
          generalize hsD : wsC.setCell ⟨wb.heap.size, 3, none⟩ (.bool false) = wsD at *
          obtain ⟨-, -, -, -, sa4, -⟩ := box6 HSD.out
          have sf4 := box6_z HSD.out 4
          have HSE := Lib.hid (box6_t4 HSD.out (.int .i64 0))
          generalize hsE : wsD.setCell ⟨wb.heap.size, 4, none⟩ (.int .i64 0) = wsE at *
          obtain ⟨-, -, -, -, -, sa5⟩ := box6 HSE.out
          have sf5 := box6_z HSE.out 5
          have HSF := Lib.hid (box6_t5 HSE.out (.slice none 0 0))
          generalize hsF : wsE.setCell ⟨wb.heap.size, 5, none⟩ (.slice none 0 0) = wsF at *
          obtain ⟨sg0, sg1, sg2, sg3, sg4, sg5⟩ := box6 HSF.out
          obtain ⟨x0, x1, x2, x3, x4, x5⟩ := box6 HXz.out
          have HKYS := Lib.hid (KS.keep (T := (mrS S w.heap.size w4.heap.size w2.heap.size)) (Kept.refl _ _) (fun q h _ => .inl h) _ _ HKYz.out)
          have HPUT := Lib.hid (out_put HOz.out (mrS_X (show w.heap.size ≤ w4.heap.size by omega)) (show L6.length ≤ 1048576 by have := HN6.out; omega) HKYS.out)
          have HXZ := Lib.hid (HOz.out.cells)
          obtain ⟨s0, s1, s2, s3, s4, s5⟩ := box6 HXZ.out
          go_wp2_with fail
          refine HPUT.out.mono ?_
          rintro e wp ⟨a', c', vss', rfl, hbp, hout⟩
          have HXP := Lib.hid (hp_later hbp HXZ.out)
          unfold set6 at hout
          have HOUTP := Lib.hid hout
          clear hbp hout s0 s1 s2 s3 s4 s5
          obtain ⟨sa0, -, -, -, -, -⟩ := box6 HXP.out
          have sf0 := box6_z HXP.out 0
          have HSA := Lib.hid (box6_t0 HXP.out (.int .i64 k))
          generalize hsA : (wp).setCell ⟨w4.heap.size, 0, none⟩ (.int .i64 k) = wsA at *
          obtain ⟨-, sa1, -, -, -, -⟩ := box6 HSA.out
          have sf1 := box6_z HSA.out 1
          have HSB := Lib.hid (box6_t1 HSA.out (.string nm))
          generalize hsB : wsA.setCell ⟨w4.heap.size, 1, none⟩ (.string nm) = wsB at *
          obtain ⟨-, -, sa2, -, -, -⟩ := box6 HSB.out
          have sf2 := box6_z HSB.out 2
          have HSC := Lib.hid (box6_t2 HSB.out (.int .i64 no))
          generalize hsC : wsB.setCell ⟨w4.heap.size, 2, none⟩ (.int .i64 no) = wsC at *
          obtain ⟨-, -, -, sa3, -, -⟩ := box6 HSC.out
          have sf3 := box6_z HSC.out 3
          have HSD := Lib.hid (box6_t3 HSC.out (.bool true))
          generalize hsD : wsC.setCell ⟨w4.heap.size, 3, none⟩ (.bool true) = wsD at *
          obtain ⟨-, -, -, -, sa4, -⟩ := box6 HSD.out
          have sf4 := box6_z HSD.out 4
          have HSE := Lib.hid (box6_t4 HSD.out (.int .i64 mo'))
          generalize hsE : wsD.setCell ⟨w4.heap.size, 4, none⟩ (.int .i64 mo') = wsE at *
          obtain ⟨-, -, -, -, -, sa5⟩ := box6 HSE.out
          have sf5 := box6_z HSE.out 5
          have HSF := Lib.hid (box6_t5 HSE.out (.slice a' (L6.length + 1) c'))
          generalize hsF : wsE.setCell ⟨w4.heap.size, 5, none⟩ (.slice a' (L6.length + 1) c') = wsF at *
          obtain ⟨sg0, sg1, sg2, sg3, sg4, sg5⟩ := box6 HSF.out
          go_wp2_with fail
          go_roundw
          case rel => exact ⟨j + 1, putNo L6 y, a', c', vss', by omega, by go_num, Lib.hid (by rw [putNo_len]; have := HN6.out; omega), Lib.hid (by rw [HR2.out, ← List.append_assoc, sortNo_snoc, HS6.out]), Lib.hid (by rw [putNo_len]; exact HOUTP.out)⟩
          case measure => (simp [intOf]; try omega)
        obtain ⟨vx, cx, xss, rfl, -⟩ := hkx.open
        have hbz := hb.alloc hb.size (.cells #[.int .i64 x.kind, .string x.name, .int .i64 x.no, .bool x.must, .int .i64 x.most, .slice vx x.kids.length cx] 59)
        have HOz := Lib.hid (HOn.out.later hbz)
        have HR2 : Hid (restP ks (us.take (j + 1)) = restP ks (us.take j)) := Lib.hid (by rw [HRT.out, hyes]; rfl)
        clear hb hbz hkx hyes b0 b1 b2 b3 b4 b5 x0 x1 x2 x3 x4 x5 q0 q1 q2 q3 q4 q5 HP
        generalize hwz : wb.alloc (.cells #[.int .i64 x.kind, .string x.name, .int .i64 x.no, .bool x.must, .int .i64 x.most, .slice vx x.kids.length cx] 59) = wz at *
        go_wp2_with fail
        go_roundw
        case rel => exact ⟨j + 1, L6, a6, c6, vss, by omega, by go_num, Lib.hid (by have := HN6.out; omega), Lib.hid (by rw [HR2.out]; exact HS6.out), HOz⟩
        case measure => (simp [intOf]; try omega)
    obtain ⟨x, hx⟩ : ∃ x, ks[i]? = some x := ⟨ks[i], List.getElem?_eq_getElem hend⟩
    have hxm := List.mem_of_getElem? hx
    obtain ⟨qb, offq, vx, cx, rfl, hqb, q0, q1, q2, q3, q4, q5, hkx, -⟩ := kss_at HRA.out HKA.out HBo.out hx
    have HKX := Lib.hid (KS.keep (T := (fun q => S q ∧ q < w.heap.size)) (kept_below HBo.out) (fun q h hl => ⟨h, hl⟩) _ _ hkx)
    have hqo : qb < wo.heap.size := by have := HBo.out.size; omega
    have hbn := (Below.refl wo.heap.size wo).alloc (Nat.le_refl _) (.cells #[.int .i64 x.kind, .string x.name, .int .i64 x.no, .bool x.must, .int .i64 x.most, .slice vx x.kids.length cx] 59)
    have HXn := Lib.hid (heap_alloc_new wo (.cells #[.int .i64 x.kind, .string x.name, .int .i64 x.no, .bool x.must, .int .i64 x.most, .slice vx x.kids.length cx] 59))
    have HDn := Lib.hid (hp_later hbn HDo.out)
    have HRn := Lib.hid (hp_later hbn HRo.out)
    have HOn := Lib.hid (HO.out.later hbn)
    have HBn := Lib.hid (HBo.out.trans (hbn.mono HBo.out.size))
    have HKXn := Lib.hid (HKX.out.later hbn)
    have hzn : wo.heap.size < (wo.alloc (.cells #[.int .i64 x.kind, .string x.name, .int .i64 x.no, .bool x.must, .int .i64 x.most, .slice vx x.kids.length cx] 59)).heap.size := by simp
    have HMN : Hid (meetP us x = none → meetL ks us = none) := Lib.hid (meetL_no hxm)
    have HMY : Hid (∀ z, meetP us x = some z → meetL (ks.take (i + 1)) us = some (l ++ [z])) := Lib.hid (fun z hz => meetL_take hx HL.out hz)
    have HXM := Lib.hid hxm
    clear hx hxm hkx hbn HO HAo HDo HRo HKX HL
    generalize hwn : wo.alloc (.cells #[.int .i64 x.kind, .string x.name, .int .i64 x.no, .bool x.must, .int .i64 x.most, .slice vx x.kids.length cx] 59) = wn at *
    clear a0 a1 a2 a3 a4 a5 b0 b1 b2 b3 b4 b5 c0 c1 c2 c3 c4 c5 d0 d1 d2 d3 d4 d5 o0 o1 o2 o3 o4 o5 p0 p1 p2 p3 p4 p5 f3 f4 fz5 oz5
    obtain ⟨b0, b1, b2, b3, b4, b5⟩ := box6 HDn.out
    obtain ⟨x0, x1, x2, x3, x4, x5⟩ := box6 HXn.out
    have HP := Lib.hid (HBYB.out wn x.no HBn.out)
    go_wp2_with fail
    refine HP.out.mono ?_
    rintro e wb ⟨cs, bx, rfl, hb, ⟨hno, rfl, rfl⟩ | ⟨y, hyes, rfl, hky⟩⟩
    · have hbz := below_set6 (hb.alloc hb.size (.cells #[.int .i64 0, .string { data := #[] }, .int .i64 0, .bool false, .int .i64 0, .slice none 0 0] 59)) (X := wb.heap.size) hb.size (.int .i64 0) (.string { data := #[] }) (.int .i64 0) (.bool false) (.int .i64 0) (.slice none 0 0)
      unfold set6 at hbz
      have HYz := Lib.hid (heap_alloc_new wb (.cells #[.int .i64 0, .string { data := #[] }, .int .i64 0, .bool false, .int .i64 0, .slice none 0 0] 59))
      have HXz := Lib.hid (hp_later hbz HXn.out)
      have HRz := Lib.hid (hp_later hbz HRn.out)
      have HOz := Lib.hid (HOn.out.later hbz)
      have HKXz := Lib.hid (HKXn.out.later hbz)
      have hwz0 := HOz.out.size
      have HPN : Hid (meetP us x = some x) := Lib.hid (by unfold meetP; rw [hno])
      clear hb hbz hno b1 b3 b4 b5 x0 x1 x2 x3 x4 x5 q0 q1 q2 q3 q4 q5 HP
      generalize hwz : wb.alloc (.cells #[.int .i64 0, .string { data := #[] }, .int .i64 0, .bool false, .int .i64 0, .slice none 0 0] 59) = wz at *
      obtain ⟨sa0, -, -, -, -, -⟩ := box6 HYz.out
      have sf0 := box6_z HYz.out 0
      have HSA := Lib.hid (box6_t0 HYz.out (.int .i64 0))
      generalize hsA : (wz).setCell ⟨wb.heap.size, 0, none⟩ (.int .i64 0) = wsA at *
      obtain ⟨-, sa1, -, -, -, -⟩ := box6 HSA.out
      have sf1 := box6_z HSA.out 1
      have HSB := Lib.hid (box6_t1 HSA.out (.string { data := #[] }))
      generalize hsB : wsA.setCell ⟨wb.heap.size, 1, none⟩ (.string { data := #[] }) = wsB at *
      obtain ⟨-, -, sa2, -, -, -⟩ := box6 HSB.out
      have sf2 := box6_z HSB.out 2
      have HSC := Lib.hid (box6_t2 HSB.out (.int .i64 0))
      generalize hsC : wsB.setCell ⟨wb.heap.size, 2, none⟩ (.int .i64 0) = wsC at *
      obtain ⟨-, -, -, sa3, -, -⟩ := box6 HSC.out
      have sf3 := box6_z HSC.out 3
      have HSD := Lib.hid (box6_t3 HSC.out (.bool false))
      generalize hsD : wsC.setCell ⟨wb.heap.size, 3, none⟩ (.bool false) = wsD at *
      obtain ⟨-, -, -, -, sa4, -⟩ := box6 HSD.out
      have sf4 := box6_z HSD.out 4
      have HSE := Lib.hid (box6_t4 HSD.out (.int .i64 0))
      generalize hsE : wsD.setCell ⟨wb.heap.size, 4, none⟩ (.int .i64 0) = wsE at *
      obtain ⟨-, -, -, -, -, sa5⟩ := box6 HSE.out
      have sf5 := box6_z HSE.out 5
      have HSF := Lib.hid (box6_t5 HSE.out (.slice none 0 0))
      generalize hsF : wsE.setCell ⟨wb.heap.size, 5, none⟩ (.slice none 0 0) = wsF at *
      obtain ⟨sg0, sg1, sg2, sg3, sg4, sg5⟩ := box6 HSF.out
      obtain ⟨x0, x1, x2, x3, x4, x5⟩ := box6 HXz.out
      have HKXS := Lib.hid (KS.keep (T := (mrS S w.heap.size w4.heap.size w2.heap.size)) (Kept.refl _ _) (fun q h _ => .inl h) _ _ HKXz.out)
      have HPUT := Lib.hid (out_put HOz.out (mrS_X (show w.heap.size ≤ w4.heap.size by omega)) (show L6.length ≤ 1048576 by have := HN6.out; omega) HKXS.out)
      have HXZ := Lib.hid (HOz.out.cells)
      obtain ⟨s0, s1, s2, s3, s4, s5⟩ := box6 HXZ.out
      go_wp2_with fail
      refine HPUT.out.mono ?_
      rintro e wp ⟨a', c', vss', rfl, hbp, hout⟩
      have HXP := Lib.hid (hp_later hbp HXZ.out)
      unfold set6 at hout
      have HOUTP := Lib.hid hout
      clear hbp hout s0 s1 s2 s3 s4 s5
      obtain ⟨sa0, -, -, -, -, -⟩ := box6 HXP.out
      have sf0 := box6_z HXP.out 0
      have HSA := Lib.hid (box6_t0 HXP.out (.int .i64 k))
      generalize hsA : (wp).setCell ⟨w4.heap.size, 0, none⟩ (.int .i64 k) = wsA at *
      obtain ⟨-, sa1, -, -, -, -⟩ := box6 HSA.out
      have sf1 := box6_z HSA.out 1
      have HSB := Lib.hid (box6_t1 HSA.out (.string nm))
      generalize hsB : wsA.setCell ⟨w4.heap.size, 1, none⟩ (.string nm) = wsB at *
      obtain ⟨-, -, sa2, -, -, -⟩ := box6 HSB.out
      have sf2 := box6_z HSB.out 2
      have HSC := Lib.hid (box6_t2 HSB.out (.int .i64 no))
      generalize hsC : wsB.setCell ⟨w4.heap.size, 2, none⟩ (.int .i64 no) = wsC at *
      obtain ⟨-, -, -, sa3, -, -⟩ := box6 HSC.out
      have sf3 := box6_z HSC.out 3
      have HSD := Lib.hid (box6_t3 HSC.out (.bool true))
      generalize hsD : wsC.setCell ⟨w4.heap.size, 3, none⟩ (.bool true) = wsD at *
      obtain ⟨-, -, -, -, sa4, -⟩ := box6 HSD.out
      have sf4 := box6_z HSD.out 4
      have HSE := Lib.hid (box6_t4 HSD.out (.int .i64 mo'))
      generalize hsE : wsD.setCell ⟨w4.heap.size, 4, none⟩ (.int .i64 mo') = wsE at *
      obtain ⟨-, -, -, -, -, sa5⟩ := box6 HSE.out
      have sf5 := box6_z HSE.out 5
      have HSF := Lib.hid (box6_t5 HSE.out (.slice a' (L6.length + 1) c'))
      generalize hsF : wsE.setCell ⟨w4.heap.size, 5, none⟩ (.slice a' (L6.length + 1) c') = wsF at *
      obtain ⟨sg0, sg1, sg2, sg3, sg4, sg5⟩ := box6 HSF.out
      go_wp2_with fail
      go_roundw
      case rel => exact ⟨i + 1, l ++ [x], putNo L6 x, a', c', vss', by omega, by go_num, Lib.hid (by rw [putNo_len, HN6.out]), Lib.hid (by simp [HN.out]), Lib.hid (by rw [sortNo_snoc, HS6.out]), Lib.hid (HMY.out x HPN.out), Lib.hid (by rw [putNo_len]; exact HOUTP.out)⟩
      case measure => (simp [intOf]; try omega)
    obtain ⟨vy, cy, yss, rfl, -⟩ := hky.open
    have hbz := hb.alloc hb.size (.cells #[.int .i64 y.kind, .string y.name, .int .i64 y.no, .bool y.must, .int .i64 y.most, .slice vy y.kids.length cy] 59)
    have hby := (Below.refl wb.heap.size wb).alloc (Nat.le_refl _) (.cells #[.int .i64 y.kind, .string y.name, .int .i64 y.no, .bool y.must, .int .i64 y.most, .slice vy y.kids.length cy] 59)
    have HXz := Lib.hid (hp_later hbz HXn.out)
    have HRz := Lib.hid (hp_later hbz HRn.out)
    have HOz := Lib.hid (HOn.out.later hbz)
    have HYz := Lib.hid (heap_alloc_new wb (.cells #[.int .i64 y.kind, .string y.name, .int .i64 y.no, .bool y.must, .int .i64 y.most, .slice vy y.kids.length cy] 59))
    have HBz := Lib.hid (HBn.out.trans (hbz.mono HBn.out.size))
    have HC := Lib.hid (HIH.out (fun q => S q ∧ q < w.heap.size) (wb.alloc (.cells #[.int .i64 y.kind, .string y.name, .int .i64 y.no, .bool y.must, .int .i64 y.most, .slice vy y.kids.length cy] 59)) x y _ _ HXM.out (byNo_no hyes).2 (HKXn.out.later hbz) (hky.later hby))
    unfold MeetV at HC
    have HPE : Hid (meetP us x = meetT x y) := Lib.hid (by unfold meetP; rw [hyes])
    clear hb hbz hby hky hyes b0 b1 b2 b3 b4 b5 x0 x1 x2 x3 x4 x5 q0 q1 q2 q3 q4 q5 HP
    generalize hwz : wb.alloc (.cells #[.int .i64 y.kind, .string y.name, .int .i64 y.no, .bool y.must, .int .i64 y.most, .slice vy y.kids.length cy] 59) = wz at *
    obtain ⟨x0, x1, x2, x3, x4, x5⟩ := box6 HXz.out
    obtain ⟨y0, y1, y2, y3, y4, y5⟩ := box6 HYz.out
    have hwz0 := HOz.out.size
    go_wp2_with fail
    refine HC.out.mono ?_
    rintro e wc ⟨kk, nn, oo, mm, pp, sa, sn, sc, ok, rfl, hb, hres⟩
    have hbq := hb.alloc hb.size (.cells #[.int .i64 kk, .string nn, .int .i64 oo, .bool mm, .int .i64 pp, .slice sa sn sc] 59)
    have hbc := (Below.refl wc.heap.size wc).alloc (Nat.le_refl _) (.cells #[.int .i64 kk, .string nn, .int .i64 oo, .bool mm, .int .i64 pp, .slice sa sn sc] 59)
    have HRq := Lib.hid (hp_later hbq HRz.out)
    have HOq := Lib.hid (HOz.out.later hbq)
    have HZq := Lib.hid (heap_alloc_new wc (.cells #[.int .i64 kk, .string nn, .int .i64 oo, .bool mm, .int .i64 pp, .slice sa sn sc] 59))
    have HBq := Lib.hid (HBz.out.trans (hbq.mono HBz.out.size))
    have HRESq : Hid ((meetT x y = none ∧ ok = false) ∨ (∃ t, meetT x y = some t ∧ ok = true ∧ KS (mrS S w.heap.size w4.heap.size w2.heap.size) (wc.alloc (.cells #[.int .i64 kk, .string nn, .int .i64 oo, .bool mm, .int .i64 pp, .slice sa sn sc] 59)) t [.int .i64 kk, .string nn, .int .i64 oo, .bool mm, .int .i64 pp, .slice sa sn sc])) := Lib.hid (by
      rcases hres with h | ⟨t, e1, e2, hk⟩
      · exact .inl h
      · refine .inr ⟨t, e1, e2, KS.keep (kept_below hbc) (fun q hq _ => ?_) _ _ hk⟩
        rcases hq with h1 | h1
        · exact .inl h1
        · exact .inr ⟨by omega, by omega, by omega⟩)
    clear hb hbq hbc hres x0 x1 x2 x3 x4 x5 y0 y1 y2 y3 y4 y5 HC
    generalize hwq : wc.alloc (.cells #[.int .i64 kk, .string nn, .int .i64 oo, .bool mm, .int .i64 pp, .slice sa sn sc] 59) = wq at *
    obtain ⟨z0, z1, z2, z3, z4, z5⟩ := box6 HZq.out
    cases ok with
    | false =>
      have HNONE : Hid (meetL ks us = none) := Lib.hid (HMN.out (by
        rw [HPE.out]
        rcases HRESq.out with ⟨h, -⟩ | ⟨t, -, e, -⟩
        · exact h
        · cases e))
      have HBF := Lib.hid (below_set6 HBq.out (show w.heap.size ≤ w2.heap.size by omega) (.int .i64 0) (.string { data := #[] }) (.int .i64 0) (.bool false) (.int .i64 0) (.slice none 0 0))
      unfold set6 at HBF
      obtain ⟨sa0, -, -, -, -, -⟩ := box6 HRq.out
      have sf0 := box6_z HRq.out 0
      have HSA := Lib.hid (box6_t0 HRq.out (.int .i64 0))
      generalize hsA : (wq).setCell ⟨w2.heap.size, 0, none⟩ (.int .i64 0) = wsA at *
      obtain ⟨-, sa1, -, -, -, -⟩ := box6 HSA.out
      have sf1 := box6_z HSA.out 1
      have HSB := Lib.hid (box6_t1 HSA.out (.string { data := #[] }))
      generalize hsB : wsA.setCell ⟨w2.heap.size, 1, none⟩ (.string { data := #[] }) = wsB at *
      obtain ⟨-, -, sa2, -, -, -⟩ := box6 HSB.out
      have sf2 := box6_z HSB.out 2
      have HSC := Lib.hid (box6_t2 HSB.out (.int .i64 0))
      generalize hsC : wsB.setCell ⟨w2.heap.size, 2, none⟩ (.int .i64 0) = wsC at *
      obtain ⟨-, -, -, sa3, -, -⟩ := box6 HSC.out
      have sf3 := box6_z HSC.out 3
      have HSD := Lib.hid (box6_t3 HSC.out (.bool false))
      generalize hsD : wsC.setCell ⟨w2.heap.size, 3, none⟩ (.bool false) = wsD at *
      obtain ⟨-, -, -, -, sa4, -⟩ := box6 HSD.out
      have sf4 := box6_z HSD.out 4
      have HSE := Lib.hid (box6_t4 HSD.out (.int .i64 0))
      generalize hsE : wsD.setCell ⟨w2.heap.size, 4, none⟩ (.int .i64 0) = wsE at *
      obtain ⟨-, -, -, -, -, sa5⟩ := box6 HSE.out
      have sf5 := box6_z HSE.out 5
      have HSF := Lib.hid (box6_t5 HSE.out (.slice none 0 0))
      generalize hsF : wsE.setCell ⟨w2.heap.size, 5, none⟩ (.slice none 0 0) = wsF at *
      obtain ⟨sg0, sg1, sg2, sg3, sg4, sg5⟩ := box6 HSF.out
      go_wp2_with fail
      refine bodyPost_ret (v := .tuple #[.agg #[.int .i64 0, .string { data := #[] }, .int .i64 0, .bool false, .int .i64 0, .slice none 0 0], .bool false]) (by simp [results, Try.results34, go_sem, sg0, sg1, sg2, sg3, sg4, sg5]) rfl ?_
      exact meetv_no (by rw [HT.out, HNONE.out]) HBF.out
    | true =>
      obtain ⟨z, hz, hkz⟩ : ∃ z, meetT x y = some z ∧ KS (mrS S w.heap.size w4.heap.size w2.heap.size) wq z [.int .i64 kk, .string nn, .int .i64 oo, .bool mm, .int .i64 pp, .slice sa sn sc] := by
        rcases HRESq.out with ⟨-, e⟩ | ⟨t, h, -, hk⟩
        · cases e
        · exact ⟨t, h, hk⟩
      have HKZ := Lib.hid hkz
      have HPZ : Hid (meetP us x = some z) := Lib.hid (HPE.out.trans hz)
      clear hz hkz
      have HPUT := Lib.hid (out_put HOq.out (mrS_X (show w.heap.size ≤ w4.heap.size by omega)) (show L6.length ≤ 1048576 by have := HN6.out; omega) HKZ.out)
      have HXZ := Lib.hid (HOq.out.cells)
      obtain ⟨s0, s1, s2, s3, s4, s5⟩ := box6 HXZ.out
      go_wp2_with fail
      refine HPUT.out.mono ?_
      rintro e wp ⟨a', c', vss', rfl, hbp, hout⟩
      have HXP := Lib.hid (hp_later hbp HXZ.out)
      unfold set6 at hout
      have HOUTP := Lib.hid hout
      clear hbp hout s0 s1 s2 s3 s4 s5
      obtain ⟨sa0, -, -, -, -, -⟩ := box6 HXP.out
      have sf0 := box6_z HXP.out 0
      have HSA := Lib.hid (box6_t0 HXP.out (.int .i64 k))
      generalize hsA : (wp).setCell ⟨w4.heap.size, 0, none⟩ (.int .i64 k) = wsA at *
      obtain ⟨-, sa1, -, -, -, -⟩ := box6 HSA.out
      have sf1 := box6_z HSA.out 1
      have HSB := Lib.hid (box6_t1 HSA.out (.string nm))
      generalize hsB : wsA.setCell ⟨w4.heap.size, 1, none⟩ (.string nm) = wsB at *
      obtain ⟨-, -, sa2, -, -, -⟩ := box6 HSB.out
      have sf2 := box6_z HSB.out 2
      have HSC := Lib.hid (box6_t2 HSB.out (.int .i64 no))
      generalize hsC : wsB.setCell ⟨w4.heap.size, 2, none⟩ (.int .i64 no) = wsC at *
      obtain ⟨-, -, -, sa3, -, -⟩ := box6 HSC.out
      have sf3 := box6_z HSC.out 3
      have HSD := Lib.hid (box6_t3 HSC.out (.bool true))
      generalize hsD : wsC.setCell ⟨w4.heap.size, 3, none⟩ (.bool true) = wsD at *
      obtain ⟨-, -, -, -, sa4, -⟩ := box6 HSD.out
      have sf4 := box6_z HSD.out 4
      have HSE := Lib.hid (box6_t4 HSD.out (.int .i64 mo'))
      generalize hsE : wsD.setCell ⟨w4.heap.size, 4, none⟩ (.int .i64 mo') = wsE at *
      obtain ⟨-, -, -, -, -, sa5⟩ := box6 HSE.out
      have sf5 := box6_z HSE.out 5
      have HSF := Lib.hid (box6_t5 HSE.out (.slice a' (L6.length + 1) c'))
      generalize hsF : wsE.setCell ⟨w4.heap.size, 5, none⟩ (.slice a' (L6.length + 1) c') = wsF at *
      obtain ⟨sg0, sg1, sg2, sg3, sg4, sg5⟩ := box6 HSF.out
      go_wp2_with fail
      go_roundw
      case rel => exact ⟨i + 1, l ++ [z], putNo L6 z, a', c', vss', by omega, by go_num, Lib.hid (by rw [putNo_len, HN6.out]), Lib.hid (by simp [HN.out]), Lib.hid (by rw [sortNo_snoc, HS6.out]), Lib.hid (HMY.out z HPZ.out), Lib.hid (by rw [putNo_len]; exact HOUTP.out)⟩
      case measure => (simp [intOf]; try omega)
set_option maxHeartbeats 16000000 in
theorem meet_msg_fl {S : Nat → Prop} {w : World} (nm nm' : ByteArray) (no no' : Int) (m' : Bool) (mo mo' : Int) (k k' : Int) (hk : k = k') (h4 : ¬ k = 4) (ks us : List Tr) {va vb : Option Addr} {ca cb : Nat} {vsa vsb : List (List Value)} (hnm : nm.size ≤ maxLen) (hnm' : nm'.size ≤ maxLen) (hca : ks.length ≤ ca) (hcam : ca ≤ 9223372036854775807) (hcb : us.length ≤ cb) (hcbm : cb ≤ 9223372036854775807) (hra : RS S w va (List.flatten vsa)) (hka : KSs S w ks vsa) (hrb : RS S w vb (List.flatten vsb)) (hkb : KSs S w us vsb) (hll : ks.length + us.length ≤ 1048576) (hcmp : mo' < mo)
    (IH : ∀ (S' : Nat → Prop) (wx : World) (x y : Tr) (px py : List Value), x ∈ ks → y ∈ us → KS S' wx x px → KS S' wx y py → Calls Try.prog 34 #[.agg px.toArray, .agg py.toArray] wx (MeetV S' x y wx)) :
    Calls Try.prog 34 #[.agg #[.int .i64 k, .string nm, .int .i64 no, .bool false, .int .i64 mo, .slice va ks.length ca], .agg #[.int .i64 k', .string nm', .int .i64 no', .bool m', .int .i64 mo', .slice vb us.length cb]] w (MeetV S (.node k nm no false mo ks) (.node k' nm' no' m' mo' us) w) := by
  have HT := Lib.hid (meetT_msg (a := .node k nm no false mo ks) (b := .node k' nm' no' m' mo' us) hk h4)
  simp only [Tr.kind, Tr.name, Tr.no, Tr.must, Tr.most, Tr.kids] at HT
  have nk : (k != k') = false := by rw [hk]; exact bne_self_eq_false _
  have n4 : (k == 4) = false := beq_eq_false_iff_ne.2 h4
  have hmin : min mo mo' = mo' := by omega
  rw [hmin] at HT
  have HSH := Lib.hid (fun wx => spec_l2Shell k nm no false mo va ks.length ca wx)
  have HIH := Lib.hid IH
  have hA : KS S w (.node k nm no false mo ks) [.int .i64 k, .string nm, .int .i64 no, .bool false, .int .i64 mo, .slice va ks.length ca] := by rw [KS]; exact ⟨va, ca, vsa, rfl, hnm, hca, hcam, hra, hka⟩
  have hB : KS S w (.node k' nm' no' m' mo' us) [.int .i64 k', .string nm', .int .i64 no', .bool m', .int .i64 mo', .slice vb us.length cb] := by rw [KS]; exact ⟨vb, cb, vsb, rfl, hnm', hcb, hcbm, hrb, hkb⟩
  have HBYA : Hid (∀ wx no2, Below w.heap.size w wx → Calls Try.prog 65 #[.agg #[.int .i64 k, .string nm, .int .i64 no, .bool false, .int .i64 mo, .slice va ks.length ca], .int .i64 no2] wx (ByO (fun q => S q ∧ q < w.heap.size) (.node k nm no false mo ks) no2 wx)) := Lib.hid (fun wx no2 hbx => spec_l2By (KS.keep (kept_below hbx) (fun q h hl => ⟨h, hl⟩) _ _ hA) (show ks.length ≤ 1048576 by omega) no2)
  have HBYB : Hid (∀ wx no2, Below w.heap.size w wx → Calls Try.prog 65 #[.agg #[.int .i64 k', .string nm', .int .i64 no', .bool m', .int .i64 mo', .slice vb us.length cb], .int .i64 no2] wx (ByO (fun q => S q ∧ q < w.heap.size) (.node k' nm' no' m' mo' us) no2 wx)) := Lib.hid (fun wx no2 hbx => spec_l2By (KS.keep (kept_below hbx) (fun q h hl => ⟨h, hl⟩) _ _ hB) (show us.length ≤ 1048576 by omega) no2)
  unfold ByO at HBYA HBYB
  simp only [Tr.kids] at HBYA HBYB
  have HRA := Lib.hid hra; have HKA := Lib.hid hka; have HRB := Lib.hid hrb; have HKB := Lib.hid hkb
  have HNM := Lib.hid hnm
  clear hk h4 hA hB IH hra hka hrb hkb hmin hnm hnm'
  have hB1 := Below.alloc (Below.refl w.heap.size w) (Nat.le_refl _) (.cells #[.int .i64 k, .string nm, .int .i64 no, .bool false, .int .i64 mo, .slice va ks.length ca] 59)
  have hX1 := heap_alloc_new w (.cells #[.int .i64 k, .string nm, .int .i64 no, .bool false, .int .i64 mo, .slice va ks.length ca] 59)
  generalize hw1 : w.alloc (.cells #[.int .i64 k, .string nm, .int .i64 no, .bool false, .int .i64 mo, .slice va ks.length ca] 59) = w1 at *
  have l1 := hp_lt hX1
  have hB2 := hB1.alloc (Nat.le_of_lt l1) (.cells #[.int .i64 k', .string nm', .int .i64 no', .bool m', .int .i64 mo', .slice vb us.length cb] 59)
  have hX1 := hp_alloc (.cells #[.int .i64 k', .string nm', .int .i64 no', .bool m', .int .i64 mo', .slice vb us.length cb] 59) hX1
  have hX2 := heap_alloc_new w1 (.cells #[.int .i64 k', .string nm', .int .i64 no', .bool m', .int .i64 mo', .slice vb us.length cb] 59)
  generalize hw2 : w1.alloc (.cells #[.int .i64 k', .string nm', .int .i64 no', .bool m', .int .i64 mo', .slice vb us.length cb] 59) = w2 at *
  have l2 := hp_lt hX2
  have hB3 := hB2.alloc (by omega) (.cells #[.int .i64 0, .string { data := #[] }, .int .i64 0, .bool false, .int .i64 0, .slice none 0 0] 59)
  have hX1 := hp_alloc (.cells #[.int .i64 0, .string { data := #[] }, .int .i64 0, .bool false, .int .i64 0, .slice none 0 0] 59) hX1
  have hX2 := hp_alloc (.cells #[.int .i64 0, .string { data := #[] }, .int .i64 0, .bool false, .int .i64 0, .slice none 0 0] 59) hX2
  have hX3 := heap_alloc_new w2 (.cells #[.int .i64 0, .string { data := #[] }, .int .i64 0, .bool false, .int .i64 0, .slice none 0 0] 59)
  generalize hw3 : w2.alloc (.cells #[.int .i64 0, .string { data := #[] }, .int .i64 0, .bool false, .int .i64 0, .slice none 0 0] 59) = w3 at *
  have l3 := hp_lt hX3
  have HB3 := Lib.hid hB3
  have HX1 := Lib.hid hX1
  have HX2 := Lib.hid hX2
  have HX3 := Lib.hid hX3
  obtain ⟨a0, a1, a2, a3, a4, a5⟩ := box6 hX1
  obtain ⟨b0, b1, b2, b3, b4, b5⟩ := box6 hX2
  clear hB1 hB2 hB3 hX1 hX2 hX3
  have HSH := Lib.hid (HSH.out w3)
  go_enter Try.func34, Try.ntmps34
  go_wp2_with fail
  refine HSH.out.mono ?_
  rintro e w4 ⟨rfl, hb4⟩
  have hz4 := hb4.size
  have hX6 := heap_alloc_new w4 (.cells #[.int .i64 k, .string nm, .int .i64 no, .bool false, .int .i64 mo, .slice none 0 0] 59)
  have hb5 := hb4.alloc hb4.size (.cells #[.int .i64 k, .string nm, .int .i64 no, .bool false, .int .i64 mo, .slice none 0 0] 59)
  generalize hw5 : w4.alloc (.cells #[.int .i64 k, .string nm, .int .i64 no, .bool false, .int .i64 mo, .slice none 0 0] 59) = w5z at *
  obtain ⟨-, -, -, -, -, oz5⟩ := box6 hX6
  have fz5 := box6_z hX6 5
  have hX6 := box6_t5 hX6 (.slice none 0 0)
  have hb5 := below_set hb5 hz4 5 (.slice none 0 0)
  generalize hw5b : w5z.setCell ⟨w4.heap.size, 5, none⟩ (.slice none 0 0) = w5 at *
  have l5 := hp_lt hX6
  have HX1 := Lib.hid (hp_later hb5 HX1.out)
  have HX2 := Lib.hid (hp_later hb5 HX2.out)
  have HX3 := Lib.hid (hp_later hb5 HX3.out)
  have HB5 := Lib.hid (HB3.out.trans (hb5.mono HB3.out.size))
  have f3 := box6_z hX6 3
  have f4 := box6_z (box6_t3 hX6 (.bool m')) 4
  clear hb4 hb5 a0 a1 a2 a3 a4 a5 b0 b1 b2 b3 b4 b5
  obtain ⟨o0, o1, o2, o3, o4, o5⟩ := box6 hX6
  obtain ⟨a0, a1, a2, a3, a4, a5⟩ := box6 HX1.out
  obtain ⟨b0, b1, b2, b3, b4, b5⟩ := box6 HX2.out
  have hX6 := box6_t3 hX6 (.bool m')
  have HX1 := Lib.hid (hp_set (Y := w4.heap.size) (i := 3) (u := .bool m') HX1.out (by omega))
  have HX2 := Lib.hid (hp_set (Y := w4.heap.size) (i := 3) (u := .bool m') HX2.out (by omega))
  have HX3 := Lib.hid (hp_set (Y := w4.heap.size) (i := 3) (u := .bool m') HX3.out (by omega))
  have HB6 := Lib.hid (below_set HB5.out (show w.heap.size ≤ w4.heap.size by omega) 3 (.bool m'))
  generalize hw6 : w5.setCell ⟨w4.heap.size, 3, none⟩ (.bool m') = w6 at *
  have l6 := hp_lt hX6
  obtain ⟨p0, p1, p2, p3, p4, p5⟩ := box6 hX6
  obtain ⟨c0, c1, c2, c3, c4, c5⟩ := box6 HX1.out
  obtain ⟨d0, d1, d2, d3, d4, d5⟩ := box6 HX2.out
  have hX6 := box6_t4 hX6 (.int .i64 mo')
  have HX1 := Lib.hid (hp_set (Y := w4.heap.size) (i := 4) (u := .int .i64 mo') HX1.out (by omega))
  have HX2 := Lib.hid (hp_set (Y := w4.heap.size) (i := 4) (u := .int .i64 mo') HX2.out (by omega))
  have HX3 := Lib.hid (hp_set (Y := w4.heap.size) (i := 4) (u := .int .i64 mo') HX3.out (by omega))
  have HB7 := Lib.hid (below_set HB6.out (show w.heap.size ≤ w4.heap.size by omega) 4 (.int .i64 mo'))
  generalize hw7 : w6.setCell ⟨w4.heap.size, 4, none⟩ (.int .i64 mo') = w7 at *
  have l7 := hp_lt hX6
  obtain ⟨e0, e1, e2, e3, e4, e5⟩ := box6 hX6
  obtain ⟨g0, g1, g2, g3, g4, g5⟩ := box6 HX1.out
  obtain ⟨h0, h1, h2, h3, h4, h5⟩ := box6 HX2.out
  have HX6 := Lib.hid hX6
  clear hX6
  have hzw7 := HB7.out.size
  have HOUT7 : Hid (OutAt (mrS S w.heap.size w4.heap.size w2.heap.size) w4.heap.size w7.heap.size w7 k nm no m' mo' [] (.slice none 0 0) [] w7) := Lib.hid ⟨HX6.out, World.ownsRow_nil _ _ _ _, by rw [KSs], fun _ => rfl, Wrote.refl _ _, l7, Nat.le_refl _⟩
  go_wp2_with fail
  go_loopw [65] (fun iv wr => ∃ (i : Nat) (l L6 : List Tr) (a6 : Option Addr) (c6 : Nat) (vss : List (List Value)), i ≤ ks.length ∧ iv = .int .i64 (i : Int) ∧ Hid (L6.length = i) ∧ Hid (l.length = i) ∧ Hid (L6 = sortNo l) ∧ Hid (meetL (ks.take i) us = some l) ∧ Hid (OutAt (mrS S w.heap.size w4.heap.size w2.heap.size) w4.heap.size w7.heap.size w7 k nm no m' mo' L6 (.slice a6 L6.length c6) vss wr)) (fun iv _ => ks.length - (intOf iv).toNat)
  case atStart => exact ⟨0, [], [], none, 0, [], by omega, rfl, Lib.hid rfl, Lib.hid rfl, Lib.hid rfl, Lib.hid (by rw [List.take_zero, meetL]), HOUT7⟩
  case round =>
    obtain ⟨wo, rfl⟩ : ∃ z : World, z = wr := ⟨_, rfl⟩
    obtain ⟨i, l, L6, a6, c6, vss, hil, rfl, HN6, HN, HS6, HL, HO⟩ := hrel
    have HBo := Lib.hid (rwrote HB7.out HO.out.wrote (fun q hq => by omega))
    have hzo := HO.out.size
    have HAo := Lib.hid (wrote_hp HO.out.wrote HX1.out (by omega))
    have HDo := Lib.hid (wrote_hp HO.out.wrote HX2.out (by omega))
    have HRo := Lib.hid (wrote_hp HO.out.wrote HX3.out (by omega))
    clear HX6 HOUT7
    by_cases hend : i < ks.length
    case neg =>
      have hie : i = ks.length := by omega
      have HLL : Hid (meetL ks us = some l) := Lib.hid (by have := HL.out; rwa [hie, List.take_length] at this)
      clear hie HL HN
      clear a0 a1 a2 a3 a4 a5 b0 b1 b2 b3 b4 b5 c0 c1 c2 c3 c4 c5 d0 d1 d2 d3 d4 d5 o0 o1 o2 o3 o4 o5 p0 p1 p2 p3 p4 p5 f3 f4 fz5 oz5
      obtain ⟨b0, b1, b2, b3, b4, b5⟩ := box6 HDo.out
      have hge : ¬ ((i : Int) < (ks.length : Int)) := by omega
      go_wp2_with fail
      go_loopw [97] (fun jv wr => ∃ (j : Nat) (L6 : List Tr) (a6 : Option Addr) (c6 : Nat) (vss : List (List Value)), j ≤ us.length ∧ jv = .int .i64 (j : Int) ∧ Hid (L6.length ≤ i + j) ∧ Hid (L6 = sortNo (l ++ restP ks (us.take j))) ∧ Hid (OutAt (mrS S w.heap.size w4.heap.size w2.heap.size) w4.heap.size w7.heap.size w7 k nm no m' mo' L6 (.slice a6 L6.length c6) vss wr)) (fun jv _ => us.length - (intOf jv).toNat)
      case atStart => exact ⟨0, L6, a6, c6, vss, by omega, rfl, Lib.hid (by rw [HN6.out]; omega), Lib.hid (by rw [List.take_zero]; unfold restP; rw [List.filter_nil, List.append_nil]; exact HS6.out), HO⟩
      case round =>
        clear HO HAo HDo HRo HBo hzo HN6 HS6 b0 b1 b2 b3 b4 b5
        obtain ⟨wv, rfl⟩ : ∃ z : World, z = wr := ⟨_, rfl⟩
        obtain ⟨j, L6, a6, c6, vss, hjl, rfl, HN6, HS6, HO⟩ := hrel
        have HBo := Lib.hid (rwrote HB7.out HO.out.wrote (fun q hq => by omega))
        have hzo := HO.out.size
        have HAo := Lib.hid (wrote_hp HO.out.wrote HX1.out (by omega))
        have HRo := Lib.hid (wrote_hp HO.out.wrote HX3.out (by omega))
        by_cases hjend : j < us.length
        case neg =>
          have hje : j = us.length := by omega
          have HLM : Hid (L6 = sortNo (l ++ restP ks us)) := Lib.hid (by have := HS6.out; rwa [hje, List.take_length] at this)
          have hgj : ¬ ((j : Int) < (us.length : Int)) := by omega
          have HKF := Lib.hid (HO.out.done HNM.out (show w.heap.size ≤ w2.heap.size by omega) hzw7 (by omega) (by omega))
          have HBF := Lib.hid (below_set6 HBo.out (show w.heap.size ≤ w2.heap.size by omega) (.int .i64 k) (.string nm) (.int .i64 no) (.bool m') (.int .i64 mo') (.slice a6 L6.length c6))
          unfold set6 at HKF HBF
          have HXo := Lib.hid HO.out.cells
          obtain ⟨y0, y1, y2, y3, y4, y5⟩ := box6 HXo.out
          clear hje
          obtain ⟨sa0, -, -, -, -, -⟩ := box6 HRo.out
          have sf0 := box6_z HRo.out 0
          have HSA := Lib.hid (box6_t0 HRo.out (.int .i64 k))
          generalize hsA : (wv).setCell ⟨w2.heap.size, 0, none⟩ (.int .i64 k) = wsA at *
          obtain ⟨-, sa1, -, -, -, -⟩ := box6 HSA.out
          have sf1 := box6_z HSA.out 1
          have HSB := Lib.hid (box6_t1 HSA.out (.string nm))
          generalize hsB : wsA.setCell ⟨w2.heap.size, 1, none⟩ (.string nm) = wsB at *
          obtain ⟨-, -, sa2, -, -, -⟩ := box6 HSB.out
          have sf2 := box6_z HSB.out 2
          have HSC := Lib.hid (box6_t2 HSB.out (.int .i64 no))
          generalize hsC : wsB.setCell ⟨w2.heap.size, 2, none⟩ (.int .i64 no) = wsC at *
          obtain ⟨-, -, -, sa3, -, -⟩ := box6 HSC.out
          have sf3 := box6_z HSC.out 3
          have HSD := Lib.hid (box6_t3 HSC.out (.bool m'))
          generalize hsD : wsC.setCell ⟨w2.heap.size, 3, none⟩ (.bool m') = wsD at *
          obtain ⟨-, -, -, -, sa4, -⟩ := box6 HSD.out
          have sf4 := box6_z HSD.out 4
          have HSE := Lib.hid (box6_t4 HSD.out (.int .i64 mo'))
          generalize hsE : wsD.setCell ⟨w2.heap.size, 4, none⟩ (.int .i64 mo') = wsE at *
          obtain ⟨-, -, -, -, -, sa5⟩ := box6 HSE.out
          have sf5 := box6_z HSE.out 5
          have HSF := Lib.hid (box6_t5 HSE.out (.slice a6 L6.length c6))
          generalize hsF : wsE.setCell ⟨w2.heap.size, 5, none⟩ (.slice a6 L6.length c6) = wsF at *
          obtain ⟨sg0, sg1, sg2, sg3, sg4, sg5⟩ := box6 HSF.out
          go_wp2_with fail
          refine bodyPost_ret (v := .tuple #[.agg #[.int .i64 k, .string nm, .int .i64 no, .bool m', .int .i64 mo', .slice a6 L6.length c6], .bool true]) (by simp [results, Try.results34, go_sem, sg0, sg1, sg2, sg3, sg4, sg5]) rfl ?_
          exact meetv_yes (by rw [HT.out, HLL.out]) HBF.out (by rw [← HLM.out]; simpa using HKF.out)
        obtain ⟨y, hy⟩ : ∃ y, us[j]? = some y := ⟨us[j], List.getElem?_eq_getElem hjend⟩
        obtain ⟨qb, offq, vy, cy, rfl, hqb, q0, q1, q2, q3, q4, q5, hky, -⟩ := kss_at HRB.out HKB.out HBo.out hy
        have HKY := Lib.hid (KS.keep (T := (fun q => S q ∧ q < w.heap.size)) (kept_below HBo.out) (fun q h hl => ⟨h, hl⟩) _ _ hky)
        have hqo : qb < wv.heap.size := by have := HBo.out.size; omega
        have hbn := (Below.refl wv.heap.size wv).alloc (Nat.le_refl _) (.cells #[.int .i64 y.kind, .string y.name, .int .i64 y.no, .bool y.must, .int .i64 y.most, .slice vy y.kids.length cy] 59)
        have HXn := Lib.hid (heap_alloc_new wv (.cells #[.int .i64 y.kind, .string y.name, .int .i64 y.no, .bool y.must, .int .i64 y.most, .slice vy y.kids.length cy] 59))
        have HAn := Lib.hid (hp_later hbn HAo.out)
        have HOn := Lib.hid (HO.out.later hbn)
        have HBn := Lib.hid (HBo.out.trans (hbn.mono HBo.out.size))
        have HKYn := Lib.hid (HKY.out.later hbn)
        have hzn : wv.heap.size < (wv.alloc (.cells #[.int .i64 y.kind, .string y.name, .int .i64 y.no, .bool y.must, .int .i64 y.most, .slice vy y.kids.length cy] 59)).heap.size := by simp
        have HRT := Lib.hid (restP_take (ks := ks) hy)
        clear hy hky hbn HO HAo HRo HKY
        generalize hwn : wv.alloc (.cells #[.int .i64 y.kind, .string y.name, .int .i64 y.no, .bool y.must, .int .i64 y.most, .slice vy y.kids.length cy] 59) = wn at *
        obtain ⟨b0, b1, b2, b3, b4, b5⟩ := box6 HAn.out
        obtain ⟨x0, x1, x2, x3, x4, x5⟩ := box6 HXn.out
        have HP := Lib.hid (HBYA.out wn y.no HBn.out)
        go_wp2_with fail
        refine HP.out.mono ?_
        rintro e wb ⟨cs, bx, rfl, hb, ⟨hno, rfl, rfl⟩ | ⟨x, hyes, rfl, hkx⟩⟩
        · have hbz := below_set6 (hb.alloc hb.size (.cells #[.int .i64 0, .string { data := #[] }, .int .i64 0, .bool false, .int .i64 0, .slice none 0 0] 59)) (X := wb.heap.size) hb.size (.int .i64 0) (.string { data := #[] }) (.int .i64 0) (.bool false) (.int .i64 0) (.slice none 0 0)
          unfold set6 at hbz
          have HYz := Lib.hid (heap_alloc_new wb (.cells #[.int .i64 0, .string { data := #[] }, .int .i64 0, .bool false, .int .i64 0, .slice none 0 0] 59))
          have HXz := Lib.hid (hp_later hbz HXn.out)
          have HOz := Lib.hid (HOn.out.later hbz)
          have HKYz := Lib.hid (HKYn.out.later hbz)
          have hwz0 := HOz.out.size
          have HR2 : Hid (restP ks (us.take (j + 1)) = restP ks (us.take j) ++ [y]) := Lib.hid (by rw [HRT.out, hno]; rfl)
          clear hb hbz hno b0 b1 b2 b3 b4 b5 x0 x1 x2 x3 x4 x5 q0 q1 q2 q3 q4 q5 HP
          generalize hwz : wb.alloc (.cells #[.int .i64 0, .string { data := #[] }, .int .i64 0, .bool false, .int .i64 0, .slice none 0 0] 59) = wz at *
          obtain ⟨sa0, -, -, -, -, -⟩ := box6 HYz.out
          have sf0 := box6_z HYz.out 0
          have HSA := Lib.hid (box6_t0 HYz.out (.int .i64 0))
          generalize hsA : (wz).setCell ⟨wb.heap.size, 0, none⟩ (.int .i64 0) = wsA at *
          obtain ⟨-, sa1, -, -, -, -⟩ := box6 HSA.out
          have sf1 := box6_z HSA.out 1
          have HSB := Lib.hid (box6_t1 HSA.out (.string { data := #[] }))
          generalize hsB : wsA.setCell ⟨wb.heap.size, 1, none⟩ (.string { data := #[] }) = wsB at *
          obtain ⟨-, -, sa2, -, -, -⟩ := box6 HSB.out
          have sf2 := box6_z HSB.out 2
          have HSC := Lib.hid (box6_t2 HSB.out (.int .i64 0))
          generalize hsC : wsB.setCell ⟨wb.heap.size, 2, none⟩ (.int .i64 0) = wsC at *
          obtain ⟨-, -, -, sa3, -, -⟩ := box6 HSC.out
          have sf3 := box6_z HSC.out 3
          have HSD := Lib.hid (box6_t3 HSC.out (.bool false))
          generalize hsD : wsC.setCell ⟨wb.heap.size, 3, none⟩ (.bool false) = wsD at *
          obtain ⟨-, -, -, -, sa4, -⟩ := box6 HSD.out
          have sf4 := box6_z HSD.out 4
          have HSE := Lib.hid (box6_t4 HSD.out (.int .i64 0))
          generalize hsE : wsD.setCell ⟨wb.heap.size, 4, none⟩ (.int .i64 0) = wsE at *
          obtain ⟨-, -, -, -, -, sa5⟩ := box6 HSE.out
          have sf5 := box6_z HSE.out 5
          have HSF := Lib.hid (box6_t5 HSE.out (.slice none 0 0))
          generalize hsF : wsE.setCell ⟨wb.heap.size, 5, none⟩ (.slice none 0 0) = wsF at *
          obtain ⟨sg0, sg1, sg2, sg3, sg4, sg5⟩ := box6 HSF.out
          obtain ⟨x0, x1, x2, x3, x4, x5⟩ := box6 HXz.out
          have HKYS := Lib.hid (KS.keep (T := (mrS S w.heap.size w4.heap.size w2.heap.size)) (Kept.refl _ _) (fun q h _ => .inl h) _ _ HKYz.out)
          have HPUT := Lib.hid (out_put HOz.out (mrS_X (show w.heap.size ≤ w4.heap.size by omega)) (show L6.length ≤ 1048576 by have := HN6.out; omega) HKYS.out)
          have HXZ := Lib.hid (HOz.out.cells)
          obtain ⟨s0, s1, s2, s3, s4, s5⟩ := box6 HXZ.out
          go_wp2_with fail
          refine HPUT.out.mono ?_
          rintro e wp ⟨a', c', vss', rfl, hbp, hout⟩
          have HXP := Lib.hid (hp_later hbp HXZ.out)
          unfold set6 at hout
          have HOUTP := Lib.hid hout
          clear hbp hout s0 s1 s2 s3 s4 s5
          obtain ⟨sa0, -, -, -, -, -⟩ := box6 HXP.out
          have sf0 := box6_z HXP.out 0
          have HSA := Lib.hid (box6_t0 HXP.out (.int .i64 k))
          generalize hsA : (wp).setCell ⟨w4.heap.size, 0, none⟩ (.int .i64 k) = wsA at *
          obtain ⟨-, sa1, -, -, -, -⟩ := box6 HSA.out
          have sf1 := box6_z HSA.out 1
          have HSB := Lib.hid (box6_t1 HSA.out (.string nm))
          generalize hsB : wsA.setCell ⟨w4.heap.size, 1, none⟩ (.string nm) = wsB at *
          obtain ⟨-, -, sa2, -, -, -⟩ := box6 HSB.out
          have sf2 := box6_z HSB.out 2
          have HSC := Lib.hid (box6_t2 HSB.out (.int .i64 no))
          generalize hsC : wsB.setCell ⟨w4.heap.size, 2, none⟩ (.int .i64 no) = wsC at *
          obtain ⟨-, -, -, sa3, -, -⟩ := box6 HSC.out
          have sf3 := box6_z HSC.out 3
          have HSD := Lib.hid (box6_t3 HSC.out (.bool m'))
          generalize hsD : wsC.setCell ⟨w4.heap.size, 3, none⟩ (.bool m') = wsD at *
          obtain ⟨-, -, -, -, sa4, -⟩ := box6 HSD.out
          have sf4 := box6_z HSD.out 4
          have HSE := Lib.hid (box6_t4 HSD.out (.int .i64 mo'))
          generalize hsE : wsD.setCell ⟨w4.heap.size, 4, none⟩ (.int .i64 mo') = wsE at *
          obtain ⟨-, -, -, -, -, sa5⟩ := box6 HSE.out
          have sf5 := box6_z HSE.out 5
          have HSF := Lib.hid (box6_t5 HSE.out (.slice a' (L6.length + 1) c'))
          generalize hsF : wsE.setCell ⟨w4.heap.size, 5, none⟩ (.slice a' (L6.length + 1) c') = wsF at *
          obtain ⟨sg0, sg1, sg2, sg3, sg4, sg5⟩ := box6 HSF.out
          go_wp2_with fail
          go_roundw
          case rel => exact ⟨j + 1, putNo L6 y, a', c', vss', by omega, by go_num, Lib.hid (by rw [putNo_len]; have := HN6.out; omega), Lib.hid (by rw [HR2.out, ← List.append_assoc, sortNo_snoc, HS6.out]), Lib.hid (by rw [putNo_len]; exact HOUTP.out)⟩
          case measure => (simp [intOf]; try omega)
        obtain ⟨vx, cx, xss, rfl, -⟩ := hkx.open
        have hbz := hb.alloc hb.size (.cells #[.int .i64 x.kind, .string x.name, .int .i64 x.no, .bool x.must, .int .i64 x.most, .slice vx x.kids.length cx] 59)
        have HOz := Lib.hid (HOn.out.later hbz)
        have HR2 : Hid (restP ks (us.take (j + 1)) = restP ks (us.take j)) := Lib.hid (by rw [HRT.out, hyes]; rfl)
        clear hb hbz hkx hyes b0 b1 b2 b3 b4 b5 x0 x1 x2 x3 x4 x5 q0 q1 q2 q3 q4 q5 HP
        generalize hwz : wb.alloc (.cells #[.int .i64 x.kind, .string x.name, .int .i64 x.no, .bool x.must, .int .i64 x.most, .slice vx x.kids.length cx] 59) = wz at *
        go_wp2_with fail
        go_roundw
        case rel => exact ⟨j + 1, L6, a6, c6, vss, by omega, by go_num, Lib.hid (by have := HN6.out; omega), Lib.hid (by rw [HR2.out]; exact HS6.out), HOz⟩
        case measure => (simp [intOf]; try omega)
    obtain ⟨x, hx⟩ : ∃ x, ks[i]? = some x := ⟨ks[i], List.getElem?_eq_getElem hend⟩
    have hxm := List.mem_of_getElem? hx
    obtain ⟨qb, offq, vx, cx, rfl, hqb, q0, q1, q2, q3, q4, q5, hkx, -⟩ := kss_at HRA.out HKA.out HBo.out hx
    have HKX := Lib.hid (KS.keep (T := (fun q => S q ∧ q < w.heap.size)) (kept_below HBo.out) (fun q h hl => ⟨h, hl⟩) _ _ hkx)
    have hqo : qb < wo.heap.size := by have := HBo.out.size; omega
    have hbn := (Below.refl wo.heap.size wo).alloc (Nat.le_refl _) (.cells #[.int .i64 x.kind, .string x.name, .int .i64 x.no, .bool x.must, .int .i64 x.most, .slice vx x.kids.length cx] 59)
    have HXn := Lib.hid (heap_alloc_new wo (.cells #[.int .i64 x.kind, .string x.name, .int .i64 x.no, .bool x.must, .int .i64 x.most, .slice vx x.kids.length cx] 59))
    have HDn := Lib.hid (hp_later hbn HDo.out)
    have HRn := Lib.hid (hp_later hbn HRo.out)
    have HOn := Lib.hid (HO.out.later hbn)
    have HBn := Lib.hid (HBo.out.trans (hbn.mono HBo.out.size))
    have HKXn := Lib.hid (HKX.out.later hbn)
    have hzn : wo.heap.size < (wo.alloc (.cells #[.int .i64 x.kind, .string x.name, .int .i64 x.no, .bool x.must, .int .i64 x.most, .slice vx x.kids.length cx] 59)).heap.size := by simp
    have HMN : Hid (meetP us x = none → meetL ks us = none) := Lib.hid (meetL_no hxm)
    have HMY : Hid (∀ z, meetP us x = some z → meetL (ks.take (i + 1)) us = some (l ++ [z])) := Lib.hid (fun z hz => meetL_take hx HL.out hz)
    have HXM := Lib.hid hxm
    clear hx hxm hkx hbn HO HAo HDo HRo HKX HL
    generalize hwn : wo.alloc (.cells #[.int .i64 x.kind, .string x.name, .int .i64 x.no, .bool x.must, .int .i64 x.most, .slice vx x.kids.length cx] 59) = wn at *
    clear a0 a1 a2 a3 a4 a5 b0 b1 b2 b3 b4 b5 c0 c1 c2 c3 c4 c5 d0 d1 d2 d3 d4 d5 o0 o1 o2 o3 o4 o5 p0 p1 p2 p3 p4 p5 f3 f4 fz5 oz5
    obtain ⟨b0, b1, b2, b3, b4, b5⟩ := box6 HDn.out
    obtain ⟨x0, x1, x2, x3, x4, x5⟩ := box6 HXn.out
    have HP := Lib.hid (HBYB.out wn x.no HBn.out)
    go_wp2_with fail
    refine HP.out.mono ?_
    rintro e wb ⟨cs, bx, rfl, hb, ⟨hno, rfl, rfl⟩ | ⟨y, hyes, rfl, hky⟩⟩
    · have hbz := below_set6 (hb.alloc hb.size (.cells #[.int .i64 0, .string { data := #[] }, .int .i64 0, .bool false, .int .i64 0, .slice none 0 0] 59)) (X := wb.heap.size) hb.size (.int .i64 0) (.string { data := #[] }) (.int .i64 0) (.bool false) (.int .i64 0) (.slice none 0 0)
      unfold set6 at hbz
      have HYz := Lib.hid (heap_alloc_new wb (.cells #[.int .i64 0, .string { data := #[] }, .int .i64 0, .bool false, .int .i64 0, .slice none 0 0] 59))
      have HXz := Lib.hid (hp_later hbz HXn.out)
      have HRz := Lib.hid (hp_later hbz HRn.out)
      have HOz := Lib.hid (HOn.out.later hbz)
      have HKXz := Lib.hid (HKXn.out.later hbz)
      have hwz0 := HOz.out.size
      have HPN : Hid (meetP us x = some x) := Lib.hid (by unfold meetP; rw [hno])
      clear hb hbz hno b1 b3 b4 b5 x0 x1 x2 x3 x4 x5 q0 q1 q2 q3 q4 q5 HP
      generalize hwz : wb.alloc (.cells #[.int .i64 0, .string { data := #[] }, .int .i64 0, .bool false, .int .i64 0, .slice none 0 0] 59) = wz at *
      obtain ⟨sa0, -, -, -, -, -⟩ := box6 HYz.out
      have sf0 := box6_z HYz.out 0
      have HSA := Lib.hid (box6_t0 HYz.out (.int .i64 0))
      generalize hsA : (wz).setCell ⟨wb.heap.size, 0, none⟩ (.int .i64 0) = wsA at *
      obtain ⟨-, sa1, -, -, -, -⟩ := box6 HSA.out
      have sf1 := box6_z HSA.out 1
      have HSB := Lib.hid (box6_t1 HSA.out (.string { data := #[] }))
      generalize hsB : wsA.setCell ⟨wb.heap.size, 1, none⟩ (.string { data := #[] }) = wsB at *
      obtain ⟨-, -, sa2, -, -, -⟩ := box6 HSB.out
      have sf2 := box6_z HSB.out 2
      have HSC := Lib.hid (box6_t2 HSB.out (.int .i64 0))
      generalize hsC : wsB.setCell ⟨wb.heap.size, 2, none⟩ (.int .i64 0) = wsC at *
      obtain ⟨-, -, -, sa3, -, -⟩ := box6 HSC.out
      have sf3 := box6_z HSC.out 3
      have HSD := Lib.hid (box6_t3 HSC.out (.bool false))
      generalize hsD : wsC.setCell ⟨wb.heap.size, 3, none⟩ (.bool false) = wsD at *
      obtain ⟨-, -, -, -, sa4, -⟩ := box6 HSD.out
      have sf4 := box6_z HSD.out 4
      have HSE := Lib.hid (box6_t4 HSD.out (.int .i64 0))
      generalize hsE : wsD.setCell ⟨wb.heap.size, 4, none⟩ (.int .i64 0) = wsE at *
      obtain ⟨-, -, -, -, -, sa5⟩ := box6 HSE.out
      have sf5 := box6_z HSE.out 5
      have HSF := Lib.hid (box6_t5 HSE.out (.slice none 0 0))
      generalize hsF : wsE.setCell ⟨wb.heap.size, 5, none⟩ (.slice none 0 0) = wsF at *
      obtain ⟨sg0, sg1, sg2, sg3, sg4, sg5⟩ := box6 HSF.out
      obtain ⟨x0, x1, x2, x3, x4, x5⟩ := box6 HXz.out
      have HKXS := Lib.hid (KS.keep (T := (mrS S w.heap.size w4.heap.size w2.heap.size)) (Kept.refl _ _) (fun q h _ => .inl h) _ _ HKXz.out)
      have HPUT := Lib.hid (out_put HOz.out (mrS_X (show w.heap.size ≤ w4.heap.size by omega)) (show L6.length ≤ 1048576 by have := HN6.out; omega) HKXS.out)
      have HXZ := Lib.hid (HOz.out.cells)
      obtain ⟨s0, s1, s2, s3, s4, s5⟩ := box6 HXZ.out
      go_wp2_with fail
      refine HPUT.out.mono ?_
      rintro e wp ⟨a', c', vss', rfl, hbp, hout⟩
      have HXP := Lib.hid (hp_later hbp HXZ.out)
      unfold set6 at hout
      have HOUTP := Lib.hid hout
      clear hbp hout s0 s1 s2 s3 s4 s5
      obtain ⟨sa0, -, -, -, -, -⟩ := box6 HXP.out
      have sf0 := box6_z HXP.out 0
      have HSA := Lib.hid (box6_t0 HXP.out (.int .i64 k))
      generalize hsA : (wp).setCell ⟨w4.heap.size, 0, none⟩ (.int .i64 k) = wsA at *
      obtain ⟨-, sa1, -, -, -, -⟩ := box6 HSA.out
      have sf1 := box6_z HSA.out 1
      have HSB := Lib.hid (box6_t1 HSA.out (.string nm))
      generalize hsB : wsA.setCell ⟨w4.heap.size, 1, none⟩ (.string nm) = wsB at *
      obtain ⟨-, -, sa2, -, -, -⟩ := box6 HSB.out
      have sf2 := box6_z HSB.out 2
      have HSC := Lib.hid (box6_t2 HSB.out (.int .i64 no))
      generalize hsC : wsB.setCell ⟨w4.heap.size, 2, none⟩ (.int .i64 no) = wsC at *
      obtain ⟨-, -, -, sa3, -, -⟩ := box6 HSC.out
      have sf3 := box6_z HSC.out 3
      have HSD := Lib.hid (box6_t3 HSC.out (.bool m'))
      generalize hsD : wsC.setCell ⟨w4.heap.size, 3, none⟩ (.bool m') = wsD at *
      obtain ⟨-, -, -, -, sa4, -⟩ := box6 HSD.out
      have sf4 := box6_z HSD.out 4
      have HSE := Lib.hid (box6_t4 HSD.out (.int .i64 mo'))
      generalize hsE : wsD.setCell ⟨w4.heap.size, 4, none⟩ (.int .i64 mo') = wsE at *
      obtain ⟨-, -, -, -, -, sa5⟩ := box6 HSE.out
      have sf5 := box6_z HSE.out 5
      have HSF := Lib.hid (box6_t5 HSE.out (.slice a' (L6.length + 1) c'))
      generalize hsF : wsE.setCell ⟨w4.heap.size, 5, none⟩ (.slice a' (L6.length + 1) c') = wsF at *
      obtain ⟨sg0, sg1, sg2, sg3, sg4, sg5⟩ := box6 HSF.out
      go_wp2_with fail
      go_roundw
      case rel => exact ⟨i + 1, l ++ [x], putNo L6 x, a', c', vss', by omega, by go_num, Lib.hid (by rw [putNo_len, HN6.out]), Lib.hid (by simp [HN.out]), Lib.hid (by rw [sortNo_snoc, HS6.out]), Lib.hid (HMY.out x HPN.out), Lib.hid (by rw [putNo_len]; exact HOUTP.out)⟩
      case measure => (simp [intOf]; try omega)
    obtain ⟨vy, cy, yss, rfl, -⟩ := hky.open
    have hbz := hb.alloc hb.size (.cells #[.int .i64 y.kind, .string y.name, .int .i64 y.no, .bool y.must, .int .i64 y.most, .slice vy y.kids.length cy] 59)
    have hby := (Below.refl wb.heap.size wb).alloc (Nat.le_refl _) (.cells #[.int .i64 y.kind, .string y.name, .int .i64 y.no, .bool y.must, .int .i64 y.most, .slice vy y.kids.length cy] 59)
    have HXz := Lib.hid (hp_later hbz HXn.out)
    have HRz := Lib.hid (hp_later hbz HRn.out)
    have HOz := Lib.hid (HOn.out.later hbz)
    have HYz := Lib.hid (heap_alloc_new wb (.cells #[.int .i64 y.kind, .string y.name, .int .i64 y.no, .bool y.must, .int .i64 y.most, .slice vy y.kids.length cy] 59))
    have HBz := Lib.hid (HBn.out.trans (hbz.mono HBn.out.size))
    have HC := Lib.hid (HIH.out (fun q => S q ∧ q < w.heap.size) (wb.alloc (.cells #[.int .i64 y.kind, .string y.name, .int .i64 y.no, .bool y.must, .int .i64 y.most, .slice vy y.kids.length cy] 59)) x y _ _ HXM.out (byNo_no hyes).2 (HKXn.out.later hbz) (hky.later hby))
    unfold MeetV at HC
    have HPE : Hid (meetP us x = meetT x y) := Lib.hid (by unfold meetP; rw [hyes])
    clear hb hbz hby hky hyes b0 b1 b2 b3 b4 b5 x0 x1 x2 x3 x4 x5 q0 q1 q2 q3 q4 q5 HP
    generalize hwz : wb.alloc (.cells #[.int .i64 y.kind, .string y.name, .int .i64 y.no, .bool y.must, .int .i64 y.most, .slice vy y.kids.length cy] 59) = wz at *
    obtain ⟨x0, x1, x2, x3, x4, x5⟩ := box6 HXz.out
    obtain ⟨y0, y1, y2, y3, y4, y5⟩ := box6 HYz.out
    have hwz0 := HOz.out.size
    go_wp2_with fail
    refine HC.out.mono ?_
    rintro e wc ⟨kk, nn, oo, mm, pp, sa, sn, sc, ok, rfl, hb, hres⟩
    have hbq := hb.alloc hb.size (.cells #[.int .i64 kk, .string nn, .int .i64 oo, .bool mm, .int .i64 pp, .slice sa sn sc] 59)
    have hbc := (Below.refl wc.heap.size wc).alloc (Nat.le_refl _) (.cells #[.int .i64 kk, .string nn, .int .i64 oo, .bool mm, .int .i64 pp, .slice sa sn sc] 59)
    have HRq := Lib.hid (hp_later hbq HRz.out)
    have HOq := Lib.hid (HOz.out.later hbq)
    have HZq := Lib.hid (heap_alloc_new wc (.cells #[.int .i64 kk, .string nn, .int .i64 oo, .bool mm, .int .i64 pp, .slice sa sn sc] 59))
    have HBq := Lib.hid (HBz.out.trans (hbq.mono HBz.out.size))
    have HRESq : Hid ((meetT x y = none ∧ ok = false) ∨ (∃ t, meetT x y = some t ∧ ok = true ∧ KS (mrS S w.heap.size w4.heap.size w2.heap.size) (wc.alloc (.cells #[.int .i64 kk, .string nn, .int .i64 oo, .bool mm, .int .i64 pp, .slice sa sn sc] 59)) t [.int .i64 kk, .string nn, .int .i64 oo, .bool mm, .int .i64 pp, .slice sa sn sc])) := Lib.hid (by
      rcases hres with h | ⟨t, e1, e2, hk⟩
      · exact .inl h
      · refine .inr ⟨t, e1, e2, KS.keep (kept_below hbc) (fun q hq _ => ?_) _ _ hk⟩
        rcases hq with h1 | h1
        · exact .inl h1
        · exact .inr ⟨by omega, by omega, by omega⟩)
    clear hb hbq hbc hres x0 x1 x2 x3 x4 x5 y0 y1 y2 y3 y4 y5 HC
    generalize hwq : wc.alloc (.cells #[.int .i64 kk, .string nn, .int .i64 oo, .bool mm, .int .i64 pp, .slice sa sn sc] 59) = wq at *
    obtain ⟨z0, z1, z2, z3, z4, z5⟩ := box6 HZq.out
    cases ok with
    | false =>
      have HNONE : Hid (meetL ks us = none) := Lib.hid (HMN.out (by
        rw [HPE.out]
        rcases HRESq.out with ⟨h, -⟩ | ⟨t, -, e, -⟩
        · exact h
        · cases e))
      have HBF := Lib.hid (below_set6 HBq.out (show w.heap.size ≤ w2.heap.size by omega) (.int .i64 0) (.string { data := #[] }) (.int .i64 0) (.bool false) (.int .i64 0) (.slice none 0 0))
      unfold set6 at HBF
      obtain ⟨sa0, -, -, -, -, -⟩ := box6 HRq.out
      have sf0 := box6_z HRq.out 0
      have HSA := Lib.hid (box6_t0 HRq.out (.int .i64 0))
      generalize hsA : (wq).setCell ⟨w2.heap.size, 0, none⟩ (.int .i64 0) = wsA at *
      obtain ⟨-, sa1, -, -, -, -⟩ := box6 HSA.out
      have sf1 := box6_z HSA.out 1
      have HSB := Lib.hid (box6_t1 HSA.out (.string { data := #[] }))
      generalize hsB : wsA.setCell ⟨w2.heap.size, 1, none⟩ (.string { data := #[] }) = wsB at *
      obtain ⟨-, -, sa2, -, -, -⟩ := box6 HSB.out
      have sf2 := box6_z HSB.out 2
      have HSC := Lib.hid (box6_t2 HSB.out (.int .i64 0))
      generalize hsC : wsB.setCell ⟨w2.heap.size, 2, none⟩ (.int .i64 0) = wsC at *
      obtain ⟨-, -, -, sa3, -, -⟩ := box6 HSC.out
      have sf3 := box6_z HSC.out 3
      have HSD := Lib.hid (box6_t3 HSC.out (.bool false))
      generalize hsD : wsC.setCell ⟨w2.heap.size, 3, none⟩ (.bool false) = wsD at *
      obtain ⟨-, -, -, -, sa4, -⟩ := box6 HSD.out
      have sf4 := box6_z HSD.out 4
      have HSE := Lib.hid (box6_t4 HSD.out (.int .i64 0))
      generalize hsE : wsD.setCell ⟨w2.heap.size, 4, none⟩ (.int .i64 0) = wsE at *
      obtain ⟨-, -, -, -, -, sa5⟩ := box6 HSE.out
      have sf5 := box6_z HSE.out 5
      have HSF := Lib.hid (box6_t5 HSE.out (.slice none 0 0))
      generalize hsF : wsE.setCell ⟨w2.heap.size, 5, none⟩ (.slice none 0 0) = wsF at *
      obtain ⟨sg0, sg1, sg2, sg3, sg4, sg5⟩ := box6 HSF.out
      go_wp2_with fail
      refine bodyPost_ret (v := .tuple #[.agg #[.int .i64 0, .string { data := #[] }, .int .i64 0, .bool false, .int .i64 0, .slice none 0 0], .bool false]) (by simp [results, Try.results34, go_sem, sg0, sg1, sg2, sg3, sg4, sg5]) rfl ?_
      exact meetv_no (by rw [HT.out, HNONE.out]) HBF.out
    | true =>
      obtain ⟨z, hz, hkz⟩ : ∃ z, meetT x y = some z ∧ KS (mrS S w.heap.size w4.heap.size w2.heap.size) wq z [.int .i64 kk, .string nn, .int .i64 oo, .bool mm, .int .i64 pp, .slice sa sn sc] := by
        rcases HRESq.out with ⟨-, e⟩ | ⟨t, h, -, hk⟩
        · cases e
        · exact ⟨t, h, hk⟩
      have HKZ := Lib.hid hkz
      have HPZ : Hid (meetP us x = some z) := Lib.hid (HPE.out.trans hz)
      clear hz hkz
      have HPUT := Lib.hid (out_put HOq.out (mrS_X (show w.heap.size ≤ w4.heap.size by omega)) (show L6.length ≤ 1048576 by have := HN6.out; omega) HKZ.out)
      have HXZ := Lib.hid (HOq.out.cells)
      obtain ⟨s0, s1, s2, s3, s4, s5⟩ := box6 HXZ.out
      go_wp2_with fail
      refine HPUT.out.mono ?_
      rintro e wp ⟨a', c', vss', rfl, hbp, hout⟩
      have HXP := Lib.hid (hp_later hbp HXZ.out)
      unfold set6 at hout
      have HOUTP := Lib.hid hout
      clear hbp hout s0 s1 s2 s3 s4 s5
      obtain ⟨sa0, -, -, -, -, -⟩ := box6 HXP.out
      have sf0 := box6_z HXP.out 0
      have HSA := Lib.hid (box6_t0 HXP.out (.int .i64 k))
      generalize hsA : (wp).setCell ⟨w4.heap.size, 0, none⟩ (.int .i64 k) = wsA at *
      obtain ⟨-, sa1, -, -, -, -⟩ := box6 HSA.out
      have sf1 := box6_z HSA.out 1
      have HSB := Lib.hid (box6_t1 HSA.out (.string nm))
      generalize hsB : wsA.setCell ⟨w4.heap.size, 1, none⟩ (.string nm) = wsB at *
      obtain ⟨-, -, sa2, -, -, -⟩ := box6 HSB.out
      have sf2 := box6_z HSB.out 2
      have HSC := Lib.hid (box6_t2 HSB.out (.int .i64 no))
      generalize hsC : wsB.setCell ⟨w4.heap.size, 2, none⟩ (.int .i64 no) = wsC at *
      obtain ⟨-, -, -, sa3, -, -⟩ := box6 HSC.out
      have sf3 := box6_z HSC.out 3
      have HSD := Lib.hid (box6_t3 HSC.out (.bool m'))
      generalize hsD : wsC.setCell ⟨w4.heap.size, 3, none⟩ (.bool m') = wsD at *
      obtain ⟨-, -, -, -, sa4, -⟩ := box6 HSD.out
      have sf4 := box6_z HSD.out 4
      have HSE := Lib.hid (box6_t4 HSD.out (.int .i64 mo'))
      generalize hsE : wsD.setCell ⟨w4.heap.size, 4, none⟩ (.int .i64 mo') = wsE at *
      obtain ⟨-, -, -, -, -, sa5⟩ := box6 HSE.out
      have sf5 := box6_z HSE.out 5
      have HSF := Lib.hid (box6_t5 HSE.out (.slice a' (L6.length + 1) c'))
      generalize hsF : wsE.setCell ⟨w4.heap.size, 5, none⟩ (.slice a' (L6.length + 1) c') = wsF at *
      obtain ⟨sg0, sg1, sg2, sg3, sg4, sg5⟩ := box6 HSF.out
      go_wp2_with fail
      go_roundw
      case rel => exact ⟨i + 1, l ++ [z], putNo L6 z, a', c', vss', by omega, by go_num, Lib.hid (by rw [putNo_len, HN6.out]), Lib.hid (by simp [HN.out]), Lib.hid (by rw [sortNo_snoc, HS6.out]), Lib.hid (HMY.out z HPZ.out), Lib.hid (by rw [putNo_len]; exact HOUTP.out)⟩
      case measure => (simp [intOf]; try omega)
end Go.Proofs.Ytmlnecopbncdbaa
