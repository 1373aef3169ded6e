/- The reference's LeastOf. -/
import Derived.Test.YtedjahinlpehgaaLstL
import Derived.Test.YtedjahinlpehgaaCls2
import Derived.Test.YtedjahinlpehgaaTurn
import Derived.Test.YtedjahinlpehgaaPairL
namespace Go.Proofs.Ytedjahinlpehgaa
set_option linter.unusedVariables false
open Go.ChangeShapes Go.WideShapes Go.ChangeAt Go.RowKit
set_option maxRecDepth 100000

theorem own_oneL (w : World) (T : TypeId) (x : Value) : (w.alloc (.cells #[x] T)).ownsRow w.heap.size T 1 (.slice (some ⟨w.heap.size, 0, none⟩) 1 1) 1 [x] :=
  ⟨rfl, .inr ⟨w.heap.size, 1, #[x], rfl, Nat.le_refl _, heap_alloc_new w _, Nat.le_refl _, by unfold maxLen; omega, rfl, rfl⟩⟩
theorem ints_kow {w : World} {c : Value} {ys : List Int} {base : Nat} (ho : w.ownsRow base 3 1 c ys.length (ints ys)) (hw : ∀ y ∈ ys, (Lit.int .i64 y).wf = true) : kIntS.ow c.ownBlock.toList w [c] ys := by
  exact ints_own ho hw
theorem ints_kun {fp : List Nat} {w : World} {c : Value} {ys : List Int} (h : kIntS.ow fp w [c] ys) : w.ownsRow 0 3 1 c ys.length (ints ys) := by
  obtain ⟨v, vss, fps, hv, ho, hr, hfp, _⟩ := h
  simp only [List.cons.injEq, and_true] at hv
  subst hv
  have key : ∀ (fps : List (List Nat)) (vss : List (List Value)) (ys : List Int), OwL kInt w fps vss ys → vss.flatten = ints ys := by
    intro fps
    induction fps with
    | nil =>
      intro vss ys h
      match vss, ys, h with
      | [], [], _ => rfl
    | cons f fs ih =>
      intro vss ys h
      match vss, ys, h with
      | v :: vs, y :: ys, h =>
        obtain ⟨⟨rfl, rfl, hw⟩, h2⟩ := h
        rw [List.flatten_cons, ih vs ys h2]; rfl
  rw [key fps vss ys hr] at ho
  exact ho
theorem small_wf {l : List Int} {n : Nat} (hn : n ≤ 1000) (h : ∀ k ∈ l, 0 ≤ k ∧ k < (n : Int)) : ∀ y ∈ l, (Lit.int .i64 y).wf = true := fun y hy => WalkArith.wf_i64 (by have := h y hy; omega)
theorem at1_bd {l : List Int} {x : Int} : -1 ≤ at1 l x ∧ at1 l x ≤ (l.length : Int) := by
  unfold at1 fidx
  cases hf : l.findIdx? (fun y => decide (y = x)) with
  | none => simp
  | some i => have := (List.findIdx?_eq_some_iff_getElem.1 hf).1; simp only; omega
theorem rowC_wf {m : Mach} (hm : GoodM m) (s : Int) : ∀ y ∈ rowC m s, (Lit.int .i64 y).wf = true := by
  intro y hy
  unfold rowC at hy
  simp only [List.mem_map] at hy
  obtain ⟨z, _, rfl⟩ := hy
  have h1 := at1_bd (l := ordC m) (x := z)
  have h2 := (oC_inv hm 12).len
  have h3 : (ordC m).length ≤ m.1.length := h2
  have := hm.n12
  exact WalkArith.wf_i64 (by omega)
theorem rowC_len {m : Mach} (hm : GoodM m) {s : Int} (h0 : 0 ≤ s) (h1 : s < (m.1.length : Int)) : (rowC m s).length = 3 := by
  unfold rowC
  rw [List.length_map]
  exact (row_in (mC_good hm) h0 (by rw [mC_rows]; exact h1)).2.1
theorem rowC_at {m : Mach} (hm : GoodM m) {s : Int} (h0 : 0 ≤ s) (h1 : s < (m.1.length : Int)) {j : Nat} (hj : j < 3) : (rowC m s)[j]? = some (at1 (ordC m) (clA (clsR m) (goI m s j))) := by
  unfold rowC
  rw [List.getElem?_map, mC_at hm h0 h1 hj]; rfl

set_option maxHeartbeats 8000000 in
theorem spec_least (ea eb : Option Addr) (ecap ecap' : Nat) (m : Mach) (w : World) (hM : MC w.heap.size w ea eb m) (hm : GoodM m) (he : kBoolS.rd w.heap.size w [.slice eb m.2.length ecap'] m.2) (hc1 : m.1.length ≤ ecap ∧ ecap ≤ 9223372036854775807) :
    Calls Try.prog 61 #[.agg #[.slice ea m.1.length ecap, .slice eb m.2.length ecap']] w (Made kMachine (fun cs => .agg cs.toArray) ((ordC m).map (rowC m), (ordC m).map (endI m)) w) := by
  obtain ⟨i1, hi1, hy0, hy1, hy2⟩ := info_parts Try.infoHIntSS
  obtain ⟨i2, hi2, hx0, hx1, hx2⟩ := info_parts Try.infoHBoolS
  obtain ⟨i0, hi, hz0, hz1, hz2⟩ := info_parts Try.infoHIntS
  have HCL := Lib.hid (fun wx (hb : Below w.heap.size w wx) => spec_classes ea eb ecap ecap' m wx ((hM.below hb).mono hb.size) hm (kBoolS_ok.later he hb) hc1)
  have hc2 := sl_len he
  have HM := Lib.hid hm
  have HINV := Lib.hid (oC_inv hm)
  have h1 := hm.n1; have h12 := hm.n12
  have HEN : Hid (m.2.length = m.1.length) := Lib.hid hm.ends
  obtain ⟨⟨nA, gA, rfl, hnA, hnrA⟩, bA, fA, rfl, hbA, hrA⟩ := hM
  have HNA := Lib.hid hnrA; have HRA := Lib.hid hrA
  have HB0 := Lib.hid (box2_start w (.cells #[.slice (some ⟨nA, gA, none⟩) m.1.length ecap, .slice (some ⟨bA, fA, none⟩) m.2.length ecap'] 28) (.cells #[.slice none 0 0, .slice none 0 0] 28))
  have HCZ := Lib.hid (cls_zero hm)
  have HCN : Hid ((clsR m).length = m.1.length) := Lib.hid (cl_length hm _)
  have HEND := Lib.hid (fun (i : Nat) h1 h2 => oC_end hm (i := i) h1 h2)
  have HOAT := Lib.hid (fun (i : Nat) h1 h2 => @oC_at m i h1 h2)
  have HJAT := Lib.hid (fun (i : Nat) (s : Int) (j : Nat) hi hs h0 h1 hj => @oJ_at m hm i s hi hs h0 h1 j hj)
  have HRAT := Lib.hid (fun (s : Int) h0 h1 (j : Nat) hj => @rowC_at m hm s h0 h1 j hj)
  clear hnrA hrA he hm
  generalize ordC m = T at *
  go_enter Try.func61, Try.ntmps61
  go_wp2_with fail
  refine (HCL.out _ (box2_below HB0.out)).mono ?_
  rintro e w1 ⟨cv, rfl, hcv, hb⟩
  have HB1 := Lib.hid (box2_step HB0.out hb)
  obtain ⟨gc, cpc, rfl, hgc1, hgc2⟩ := hcv.form (by rw [HCN.out]; omega)
  have HCC : Hid (∀ wx, Below w1.heap.size w1 wx → ∀ k : Nat, k < m.1.length → wx.cell? ⟨gc, k, none⟩ = some (.int .i64 (clA (clsR m) (k : Int)))) := Lib.hid (fun wx hbx k hk => below_later hbx (by
    rw [hcv.cellAt k (by rw [HCN.out]; omega), ints_at _ _ (by rw [HCN.out]; exact hk)]; unfold clA; rw [Int.toNat_natCast]))
  have hcaps := own_caps hcv
  rw [HCN.out] at hcaps
  unfold maxLen at hcaps
  have c0 : w1.cell? ⟨gc, 0, none⟩ = some (.int .i64 0) := by
    have := HCC.out w1 (Below.refl _ _) 0 (by omega)
    rw [show ((0 : Nat) : Int) = 0 from rfl, HCZ.out] at this
    exact this
  have hs1 : w.heap.size + 2 ≤ w1.heap.size := by have := HB1.out.size; simp at this; omega
  rw [HCN.out]
  clear hcv hb
  have HO0 := Lib.hid (own_mono (own_later (own_oneL w1 3 (.int .i64 0)) (ralloc (Below.refl _ _) (.cells #[.slice none 0 0, .slice none 0 0] 28))) (Nat.zero_le _))
  have HB2 : Hid (Below w1.heap.size w1 ((w1.alloc (.cells #[.int .i64 0] 3)).alloc (.cells #[.slice none 0 0, .slice none 0 0] 28))) := Lib.hid (((Below.refl _ _).alloc (Nat.le_refl _) _).alloc (by simp) _)
  have co0 : ((w1.alloc (.cells #[.int .i64 0] 3)).alloc (.cells #[.slice none 0 0, .slice none 0 0] 28)).cell? ⟨w1.heap.size + 1, 0, none⟩ = some (.slice none 0 0) := by go_simp
  have co1 : ((w1.alloc (.cells #[.int .i64 0] 3)).alloc (.cells #[.slice none 0 0, .slice none 0 0] 28)).cell? ⟨w1.heap.size + 1, 1, none⟩ = some (.slice none 0 0) := by go_simp
  have zo0 : ((w1.alloc (.cells #[.int .i64 0] 3)).alloc (.cells #[.slice none 0 0, .slice none 0 0] 28)).frozen? ⟨w1.heap.size + 1, 0, none⟩ = false := by go_simp
  have zo1 : ((w1.alloc (.cells #[.int .i64 0] 3)).alloc (.cells #[.slice none 0 0, .slice none 0 0] 28)).frozen? ⟨w1.heap.size + 1, 1, none⟩ = false := by go_simp
  have hs2 : ((w1.alloc (.cells #[.int .i64 0] 3)).alloc (.cells #[.slice none 0 0, .slice none 0 0] 28)).heap.size = w1.heap.size + 2 := by simp
  go_wp2_with fail
  generalize ((w1.alloc (.cells #[.int .i64 0] 3)).alloc (.cells #[.slice none 0 0, .slice none 0 0] 28)) = w2 at *
  clear c0
  go_loopw [5, 7] (fun ov iv wr => ∃ (i g cp : Nat) (v1 v2 : Value) (fp1 fp2 : List Nat), i ≤ 12 ∧ i ≤ (oC m i).length ∧ iv = .int .i64 (i : Int) ∧ ov = .slice (some ⟨g, 0, none⟩) (oC m i).length cp ∧ (w1.heap.size ≤ g ∧ ¬ g = w1.heap.size + 1) ∧ Hid (wr.ownsRow 0 3 1 (.slice (some ⟨g, 0, none⟩) (oC m i).length cp) (oC m i).length (ints (oC m i))) ∧ Hid (wr.cell? ⟨w1.heap.size + 1, 0, none⟩ = some v1 ∧ wr.cell? ⟨w1.heap.size + 1, 1, none⟩ = some v2 ∧ wr.frozen? ⟨w1.heap.size + 1, 0, none⟩ = false ∧ wr.frozen? ⟨w1.heap.size + 1, 1, none⟩ = false ∧ w1.heap.size + 2 ≤ wr.heap.size) ∧ Hid (Bd 42 kIntS (w1.heap.size + 2) fp1 wr v1 ((T.take i).map (rowC m))) ∧ Hid (Bd 4 kBool (w1.heap.size + 2) fp2 wr v2 ((T.take i).map (endI m))) ∧ Hid (∀ b ∈ fp1, b ∉ fp2) ∧ Hid (g ∉ fp1 ∧ g ∉ fp2) ∧ Hid (Below w1.heap.size w1 wr)) (fun _ iv _ => 12 - (intOf iv).toNat)
  case atStart => exact ⟨0, w1.heap.size, 1, _, _, [], [], by omega, by omega, rfl, rfl, ⟨by omega, by omega⟩, HO0, Lib.hid ⟨co0, co1, zo0, zo1, by omega⟩, Lib.hid (by rw [List.take_zero]; exact Bd.nil _), Lib.hid (by rw [List.take_zero]; exact Bd.nil _), Lib.hid (by simp), Lib.hid (by simp), HB2⟩
  case round =>
    clear HO0 HB2 co0 co1 zo0 zo1
    obtain ⟨w5, rfl⟩ : ∃ z : World, z = wr := ⟨_, rfl⟩
    obtain ⟨i, g, cp, v1, v2, fp1, fp2, hi12, hil, rfl, rfl, ⟨hg1, hg2⟩, HO, HCL, BD1, BD2, DIS, DIG, HBR⟩ := hrel
    have hinv := HINV.out i
    have hle := hinv.len
    obtain ⟨co0, co1, zo0, zo1, hlo⟩ := HCL.out
    have HBW : Hid (Below w.heap.size w w5) := Lib.hid ((box2_below HB1.out).trans (HBR.out.mono (by omega)))
    by_cases hlt : i < (oC m i).length
    case neg =>
      have hE := HEND.out i hi12 (by omega)
      have hq1 : (T.take i).map (rowC m) = T.map (rowC m) := by rw [List.take_of_length_le (by rw [hE]; omega)]
      have hq2 : (T.take i).map (endI m) = T.map (endI m) := by rw [List.take_of_length_le (by rw [hE]; omega)]
      rw [hq1] at BD1; rw [hq2] at BD2
      obtain ⟨a1, c1, hv1⟩ := BD1.out.form
      obtain ⟨a2, c2, hv2⟩ := BD2.out.form
      rw [List.length_map] at hv1 hv2
      subst hv1 hv2
      have k0 : w5.cell? ⟨w.heap.size + 1, 0, none⟩ = some (.slice none 0 0) := below_later HBR.out (box2_b HB1.out 0)
      have k1 : w5.cell? ⟨w.heap.size + 1, 1, none⟩ = some (.slice none 0 0) := below_later HBR.out (box2_b HB1.out 1)
      have z0 : w5.frozen? ⟨w.heap.size + 1, 0, none⟩ = false := (HBR.out.frozen (p := ⟨w.heap.size + 1, 0, none⟩) (by show w.heap.size + 1 < w1.heap.size; omega)).trans ((HB1.out.frozen (p := ⟨w.heap.size + 1, 0, none⟩) (by simp)).trans (by go_simp))
      have z1 : w5.frozen? ⟨w.heap.size + 1, 1, none⟩ = false := (HBR.out.frozen (p := ⟨w.heap.size + 1, 1, none⟩) (by show w.heap.size + 1 < w1.heap.size; omega)).trans ((HB1.out.frozen (p := ⟨w.heap.size + 1, 1, none⟩) (by simp)).trans (by go_simp))
      have hni : ¬ (i : Int) < ((oC m i).length : Int) := by omega
      clear hq1 hq2 hE hinv hil
      go_wp2_with fail
      refine bodyPost_ret (v := .agg #[.slice a1 T.length c1, .slice a2 T.length c2]) (by simp [results, Try.results61, go_sem, k0, k1]) rfl ?_
      have b1 := BD1.out; have b2 := BD2.out
      have c1' := (b1.setCell kIntS_ok (a := ⟨w.heap.size + 1, 0, none⟩) (by show w.heap.size + 1 < w1.heap.size + 2; omega) (.slice a1 T.length c1)).setCell kIntS_ok (a := ⟨w.heap.size + 1, 1, none⟩) (by show w.heap.size + 1 < w1.heap.size + 2; omega) (.slice a2 T.length c2)
      have c2' := (b2.setCell kBool_ok (a := ⟨w.heap.size + 1, 0, none⟩) (by show w.heap.size + 1 < w1.heap.size + 2; omega) (.slice a1 T.length c1)).setCell kBool_ok (a := ⟨w.heap.size + 1, 1, none⟩) (by show w.heap.size + 1 < w1.heap.size + 2; omega) (.slice a2 T.length c2)
      refine ⟨[.slice a1 T.length c1, .slice a2 T.length c2], fp1 ++ fp2, rfl, ⟨fp1, fp2, [_], [_], rfl, rfl, c1'.ow, c2'.ow⟩, List.nodup_append.2 ⟨b1.nodup, b2.nodup, fun x hx y hy hxy => DIS.out x hx (by rw [hxy]; exact hy)⟩, ?_, ?_⟩
      · intro b hb
        rcases List.mem_append.1 hb with hb | hb
        · have := b1.ge b hb; omega
        · have := b2.ge b hb; omega
      · exact (HBW.out.setCell (p := ⟨w.heap.size + 1, 0, none⟩) (by show w.heap.size ≤ w.heap.size + 1; omega) _).setCell (p := ⟨w.heap.size + 1, 1, none⟩) (by show w.heap.size ≤ w.heap.size + 1; omega) _
    obtain ⟨s, hs⟩ : ∃ s, (oC m i).getD i 0 = s := ⟨_, rfl⟩
    have hsi : (oC m i)[i]? = some s := by rw [← hs]; simp [List.getD, hlt]
    obtain ⟨hs0, hs1'⟩ := hinv.rg s (List.mem_of_getElem? hsi)
    have hi11 : i < 12 := by omega
    have HSO : Hid (T[i]? = some s) := Lib.hid (by rw [HOAT.out i hlt hi12, hs])
    have HNX : Hid (oC m (i + 1) = oJ m s (oC m i) 3) := Lib.hid (by rw [oC_next hlt, hs, oJ_full HM.out hs0 hs1'])
    have HAT := Lib.hid (fun (j : Nat) (hj : j < 3) => HJAT.out i s j hlt hs hs0 hs1' hj)
    have HJI := Lib.hid (fun (j : Nat) => oJ_inv HM.out hs0 hs1' hinv j)
    have HJY := Lib.hid (fun (j : Nat) (hj : j < 3) => @oJ_yes m HM.out s hs0 hs1' (oC m i) j hj)
    have HJN := Lib.hid (fun (j : Nat) (hj : j < 3) => @oJ_no m HM.out s hs0 hs1' (oC m i) j hj)
    have HGI := Lib.hid (fun (j : Nat) (hj : j < 3) => goI_in HM.out hs0 hs1' hj)
    have HRL := Lib.hid (rowC_len HM.out hs0 hs1'); have HRA2 := Lib.hid (fun (j : Nat) (hj : j < 3) => HRAT.out s hs0 hs1' j hj)
    have HRF := Lib.hid (rowC_wf HM.out s)
    have HPS : Hid (∀ j, (oJ m s (oC m i) j)[i]? = some s) := Lib.hid (fun j => by unfold oJ; rw [pre_at (fold_pre _ _) hlt]; exact hsi)
    have HN1 : Hid (i + 1 ≤ (oC m (i + 1)).length) := Lib.hid (by have := (oC_pre (m := m) i).length_le; omega)
    obtain ⟨b2, f2, c2, hcA, hb2, hd1, hd2, heA⟩ := HNA.out s hs0 hs1'
    have ma : w5.cell? ⟨w.heap.size, 0, none⟩ = some (.slice (some ⟨nA, gA, none⟩) m.1.length ecap) := below_later HBR.out (box2_a HB1.out 0)
    have mo : w5.cell? ⟨g, i, none⟩ = some (.int .i64 s) := by rw [HO.out.cellAt i (by omega), ints_at _ _ hlt, hs]
    have mr := below_cellk HBW.out hcA hnA
    have HXA := Lib.hid (fun k hk => below_cellk HBW.out (heA k hk) hb2)
    have HOZ : Hid (oJ m s (oC m i) 0 = oC m i) := Lib.hid (oJ_zero m s _)
    have HWF := Lib.hid (small_wf (n := m.1.length) (by omega) hinv.rg)
    have hii : (i : Int) < ((oC m i).length : Int) := by omega
    have hii0 : (0 : Int) ≤ (i : Int) := Int.natCast_nonneg _
    clear hinv hcA heA
    generalize hOE : oC m i = o at *
    have HOE := Lib.hid hOE
    clear hOE
    go_wp2_with fail
    go_quiet (fail)
    go_wp2_with fail
    go_loopw [5, 8, 39] (fun ov lv jv wr => ∃ (j g' cp' : Nat), j ≤ 3 ∧ jv = .int .i64 (j : Int) ∧ ov = .slice (some ⟨g', 0, none⟩) (oJ m s o j).length cp' ∧ (g' = g ∨ w5.heap.size ≤ g') ∧ Hid (wr.ownsRow 0 3 1 (.slice (some ⟨g', 0, none⟩) (oJ m s o j).length cp') (oJ m s o j).length (ints (oJ m s o j))) ∧ Hid (wr.ownsRow w5.heap.size 3 1 lv j (ints ((rowC m s).take j))) ∧ Hid (∀ k, lv.ownBlock = some k → ¬ k = g') ∧ Hid (Wrote (fun k => k = g ∨ w5.heap.size ≤ k) w5 wr)) (fun _ _ jv _ => 3 - (intOf jv).toNat)
    case atStart => exact ⟨0, g, cp, by omega, rfl, by rw [HOZ.out], .inl rfl, Lib.hid (by rw [HOZ.out]; exact own_later HO.out (rdrew (Below.refl _ _) _)), Lib.hid (World.ownsRow_nil _ _ _ _), Lib.hid (by simp [Value.ownBlock]), Lib.hid (Wrote.of_below (rdrew (Below.refl _ _) _))⟩
    case round =>
      obtain ⟨w6, rfl⟩ : ∃ z : World, z = wr := ⟨_, rfl⟩
      obtain ⟨j, g', cp', hj, rfl, rfl, hgg, HO6, HL6, HAP, HWR⟩ := hrel
      by_cases hj3 : j < 3
      case neg =>
        obtain rfl : j = 3 := by omega
        have hR3 : (rowC m s).take 3 = rowC m s := List.take_of_length_le (by have := HRL.out; omega)
        rw [hR3] at HL6
        clear hR3
        obtain ⟨gl, cl', hul, hl1, hl2⟩ := HL6.out.form (by omega)
        subst hul
        have hglg : ¬ gl = g' := HAP.out gl rfl
        have hs6 : w5.heap.size ≤ w6.heap.size := HWR.out.size
        have lo0 := HWR.out.cell co0 (by rintro (h | h) <;> omega); have lo1 := HWR.out.cell co1 (by rintro (h | h) <;> omega)
        have lz0 : w6.frozen? ⟨w1.heap.size + 1, 0, none⟩ = false := (World.frozen?_of_block (HWR.out.block (w1.heap.size + 1) (by omega) (by rintro (h | h) <;> omega))).trans zo0
        have lz1 : w6.frozen? ⟨w1.heap.size + 1, 1, none⟩ = false := (World.frozen?_of_block (HWR.out.block (w1.heap.size + 1) (by omega) (by rintro (h | h) <;> omega))).trans zo1
        have BDl1 := Lib.hid (BD1.out.frame kIntS_ok (w' := w6) (fun b hb => HWR.out.block b (BD1.out.lt kIntS_ok b hb) (by rintro (h | h); exact DIG.out.1 (h ▸ hb); have := BD1.out.lt kIntS_ok b hb; omega)))
        have BDl2 := Lib.hid (BD2.out.frame kBool_ok (w' := w6) (fun b hb => HWR.out.block b (BD2.out.lt kBool_ok b hb) (by rintro (h | h); exact DIG.out.2 (h ▸ hb); have := BD2.out.lt kBool_ok b hb; omega)))
        have HB7 : Hid (Below w1.heap.size w1 w6) := Lib.hid (HBR.out.trans (HWR.out.below (by omega) (by rintro k (h | h) <;> omega)))
        have hl7 : w1.heap.size + 2 ≤ w6.heap.size := by omega
        have OWQ : Hid (kIntS.ow [gl] w6 [.slice (some ⟨gl, 0, none⟩) 3 cl'] (rowC m s)) := Lib.hid (ints_own (base := w5.heap.size) (by rw [HRL.out]; exact HL6.out) HRF.out)
        have DQ1 : Hid (∀ b ∈ [gl], b ∉ fp1) := Lib.hid (by intro b hb hm; simp only [List.mem_singleton] at hb; subst hb; have := BD1.out.lt kIntS_ok b hm; omega)
        have DQ2 : Hid (∀ b ∈ [gl], b ∉ fp2) := Lib.hid (by intro b hb hm; simp only [List.mem_singleton] at hb; subst hb; have := BD2.out.lt kBool_ok b hm; omega)
        have DG1 : Hid (∀ b ∈ [g'], b ∉ fp1) := Lib.hid (by intro b hb hm; simp only [List.mem_singleton] at hb; subst hb; rcases hgg with h | h; exact DIG.out.1 (h ▸ hm); have := BD1.out.lt kIntS_ok b hm; omega)
        have DG2 : Hid (∀ b ∈ [g'], b ∉ fp2) := Lib.hid (by intro b hb hm; simp only [List.mem_singleton] at hb; subst hb; rcases hgg with h | h; exact DIG.out.2 (h ▸ hm); have := BD2.out.lt kBool_ok b hm; omega)
        have DQG : Hid (∀ b ∈ [gl], b ∉ [g']) := Lib.hid (by intro b hb hm; simp only [List.mem_singleton] at hb hm; omega)
        have hgb : ¬ g' = w1.heap.size + 1 := by rcases hgg with h | h <;> omega
        have hgb1 : w1.heap.size ≤ g' := by rcases hgg with h | h <;> omega
        have HGB : Hid (∀ b ∈ [g'], ¬ b = w1.heap.size + 1) := Lib.hid (by intro b hb; simp only [List.mem_singleton] at hb; subst hb; exact hgb)
        have HT1 : Hid ((T.take i).map (rowC m) ++ [rowC m s] = (T.take (i + 1)).map (rowC m)) := Lib.hid (by rw [take_next _ i _ HSO.out, List.map_append]; rfl)
        have HT2 : Hid ((T.take i).map (endI m) ++ [endI m s] = (T.take (i + 1)).map (endI m)) := Lib.hid (by rw [take_next _ i _ HSO.out, List.map_append]; rfl)
        have hoil : i < T.length := (List.getElem?_eq_some_iff.1 HSO.out).1
        have HLT1 : Hid (((T.take i).map (rowC m)).length = i) := Lib.hid (by simp; omega)
        have HLT2 : Hid (((T.take i).map (endI m)).length = i) := Lib.hid (by simp; omega)
        have HC3 : Hid (i + 1 ≤ maxLen) := Lib.hid (by unfold maxLen; omega)
        have HC4 : Hid ((i + 1) * 24 ≤ 140737488355328) := Lib.hid (by omega)
        have HC6 : Hid ((i + 1) * 1 ≤ 140737488355328) := Lib.hid (by omega)
        have hinv3 := HJI.out 3
        have hpre := HPS.out 3
        have OWO : Hid (kIntS.ow [g'] w6 [.slice (some ⟨g', 0, none⟩) (oJ m s o 3).length cp'] (oJ m s o 3)) := Lib.hid (ints_own HO6.out (small_wf (n := m.1.length) (by omega) hinv3.rg))
        have hpl := (List.getElem?_eq_some_iff.1 hpre).1
        have loc : w6.cell? ⟨g', i, none⟩ = some (.int .i64 s) := by
          rw [HO6.out.cellAt i (by omega), ints_at _ _ hpl]; simp [List.getD, hpre]
        have l1 := HWR.out.cell (below_later HBR.out (box2_a HB1.out 1)) (by rintro (h | h) <;> omega)
        have l2 := HWR.out.cell (below_cellk HBW.out (HRA.out s hs0 hs1') hbA) (by rintro (h | h) <;> omega)
        have hs2' : s < (m.2.length : Int) := by have := HEN.out; omega
        have hpl2 : (i : Int) < ((oJ m s o 3).length : Int) := by omega
        have hn3 : ¬ ((3 : Nat) : Int) < 3 := by omega
        clear hinv3 hpre co0 co1 zo0 zo1 ma mo mr HXA
        generalize endI m s = es at *
        generalize oJ m s o 3 = o3 at *
        have LT_1 : Hid (∀ b ∈ fp1, b < w6.heap.size) := Lib.hid (fun b hm => by have := (BDl1.out.lt kIntS_ok b hm); first | exact this | omega | (simp at this; omega))
        have LT_2 : Hid (∀ b ∈ fp2, b < w6.heap.size) := Lib.hid (fun b hm => by have := (BDl2.out.lt kBool_ok b hm); first | exact this | omega | (simp at this; omega))
        have LT_3 : Hid (∀ b ∈ [gl], b < w6.heap.size) := Lib.hid (fun b hm => by have := (kIntS_ok.olt OWQ.out b hm); first | exact this | omega | (simp at this; omega))
        have LT_4 : Hid (∀ b ∈ [g'], b < w6.heap.size) := Lib.hid (fun b hm => by have := (kIntS_ok.olt OWO.out b hm); first | exact this | omega | (simp at this; omega))
        have hb_5 : Below w6.heap.size w6 (w6.alloc (.cells #[(.slice (some ⟨gl, 0, none⟩) 3 cl')] 42)) := (Below.refl _ _).alloc (Nat.le_refl _) _
        have hz_6 : w6.heap.size ≤ w6.heap.size + 1 := by have := (hb_5).size; first | omega | (simp at this; omega)
        have c_7 : (w6.alloc (.cells #[(.slice (some ⟨gl, 0, none⟩) 3 cl')] 42)).cell? ⟨(w1.heap.size + 1), 0, none⟩ = some (v1) := below_later hb_5 lo0
        have c_8 : (w6.alloc (.cells #[(.slice (some ⟨gl, 0, none⟩) 3 cl')] 42)).cell? ⟨(w1.heap.size + 1), 1, none⟩ = some (v2) := below_later hb_5 lo1
        have z_9 : (w6.alloc (.cells #[(.slice (some ⟨gl, 0, none⟩) 3 cl')] 42)).frozen? ⟨(w1.heap.size + 1), 0, none⟩ = false := (Below.frozen hb_5 (p := ⟨(w1.heap.size + 1), 0, none⟩) (by show (w1.heap.size + 1) < _; first | omega | (simp; done) | (simp; omega))).trans lz0
        have z_10 : (w6.alloc (.cells #[(.slice (some ⟨gl, 0, none⟩) 3 cl')] 42)).frozen? ⟨(w1.heap.size + 1), 1, none⟩ = false := (Below.frozen hb_5 (p := ⟨(w1.heap.size + 1), 1, none⟩) (by show (w1.heap.size + 1) < _; first | omega | (simp; done) | (simp; omega))).trans lz1
        have c_11 : (w6.alloc (.cells #[(.slice (some ⟨gl, 0, none⟩) 3 cl')] 42)).cell? ⟨w.heap.size, 1, none⟩ = some (.slice (some ⟨bA, fA, none⟩) m.2.length ecap') := below_later hb_5 l1
        have c_12 : (w6.alloc (.cells #[(.slice (some ⟨gl, 0, none⟩) 3 cl')] 42)).cell? ⟨bA, fA + s.toNat, none⟩ = some (.bool es) := below_later hb_5 l2
        have c_13 : (w6.alloc (.cells #[(.slice (some ⟨gl, 0, none⟩) 3 cl')] 42)).cell? ⟨g', i, none⟩ = some (.int .i64 s) := below_later hb_5 loc
        have hz_14 : w1.heap.size + 2 ≤ w6.heap.size + 1 := Nat.le_trans hl7 hz_6
        have BD_15 := Lib.hid (BDl1.out.later kIntS_ok hb_5)
        have BD_16 := Lib.hid (BDl2.out.later kBool_ok hb_5)
        have OW_17 := Lib.hid (kIntS_ok.oframe OWQ.out (w' := (w6.alloc (.cells #[(.slice (some ⟨gl, 0, none⟩) 3 cl')] 42))) fun b hm => (hb_5).block b (kIntS_ok.olt OWQ.out b hm))
        have OW_18 := Lib.hid (kIntS_ok.oframe OWO.out (w' := (w6.alloc (.cells #[(.slice (some ⟨gl, 0, none⟩) 3 cl')] 42))) fun b hm => (hb_5).block b (kIntS_ok.olt OWO.out b hm))
        have BL_19 := Lib.hid (Below.trans HB7.out (Below.mono hb_5 (by have := (HB7.out).size; first | omega | (simp at this; omega) | (simp at this ⊢; omega))))
        clear hb_5
        have c_20 : (w6.alloc (.cells #[(.slice (some ⟨gl, 0, none⟩) 3 cl')] 42)).cell? ⟨w6.heap.size, 0, none⟩ = some ((.slice (some ⟨gl, 0, none⟩) 3 cl')) := by go_simp
        have z_21 : (w6.alloc (.cells #[(.slice (some ⟨gl, 0, none⟩) 3 cl')] 42)).frozen? ⟨w6.heap.size, 0, none⟩ = false := by go_simp
        have hz_22 : w6.heap.size < w6.heap.size + 1 := by omega
        have ND_23 : Hid (∀ b ∈ [w6.heap.size], b ∉ fp1) := Lib.hid (by intro b hb hm; simp only [List.mem_singleton] at hb; subst hb; have := (LT_1.out _ hm); first | omega | (simp at this; omega))
        have ND_24 : Hid (∀ b ∈ [w6.heap.size], b ∉ fp2) := Lib.hid (by intro b hb hm; simp only [List.mem_singleton] at hb; subst hb; have := (LT_2.out _ hm); first | omega | (simp at this; omega))
        have ND_25 : Hid (∀ b ∈ [w6.heap.size], b ∉ [gl]) := Lib.hid (by intro b hb hm; simp only [List.mem_singleton] at hb; subst hb; have := (LT_3.out _ hm); first | omega | (simp at this; omega))
        have ND_26 : Hid (∀ b ∈ [w6.heap.size], b ∉ [g']) := Lib.hid (by intro b hb hm; simp only [List.mem_singleton] at hb; subst hb; have := (LT_4.out _ hm); first | omega | (simp at this; omega))
        obtain ⟨vss_27, fps_27, hrow, howl, hfp, hnd, hge⟩ := BD_15.out
        rw [HLT1.out] at hrow
        have ROW_27 := Lib.hid hrow; have OWL_27 := Lib.hid howl; have NDU_27 := Lib.hid (hfp ▸ hnd); have GE_27 := Lib.hid (fun b hb => hge b (hfp ▸ hb)); have FPE_27 := Lib.hid hfp; clear hrow howl hnd hge hfp
        go_wp2_with (at_builtin; (refine wpList_append_lies _ rfl _ _ 22 rfl (w1.heap.size + 2) 42 i1 (.slice none 0 0) 1 24 Try.underlying22 hi1 hy0 hy1 hy2 rfl (by decide) v1 i vss_27.flatten rfl ROW_27.out ⟨w6.heap.size, 0, none⟩ 1 1 [.slice (some ⟨gl, 0, none⟩) 3 cl'] rfl rfl (news_at c_20) (by simp [Value.oneCell']) (by omega) HC3.out HC4.out (by first | omega | (simp; omega)) _ rfl ?_))
        intro g7 cp7 w8 hown hgrow hat hlt4
        have hat2 : v1.ownBlock = some g7 ∨ g7 = (w6.alloc (.cells #[(.slice (some ⟨gl, 0, none⟩) 3 cl')] 42)).heap.size := by rw [World.size_alloc]; exact hat
        clear hat
        have HG_28 := Lib.hid hgrow; have HATHG_28 := Lib.hid hat2; have HONHG_28 := Lib.hid hown
        clear hgrow hat2 hown
        have hz_29 : w6.heap.size + 1 ≤ w8.heap.size := by have := HG_28.out.size; first | omega | (simp at this; omega)
        have LT_30 : Hid (∀ b ∈ fp1, b < w6.heap.size + 1) := Lib.hid (fun b hm => by have := (BD_15.out.lt kIntS_ok b hm); first | exact this | omega | (simp at this; omega))
        have LT_31 : Hid (∀ b ∈ fp2, b < w6.heap.size + 1) := Lib.hid (fun b hm => by have := (BD_16.out.lt kBool_ok b hm); first | exact this | omega | (simp at this; omega))
        have LT_32 : Hid (∀ b ∈ [gl], b < w6.heap.size + 1) := Lib.hid (fun b hm => by have := (kIntS_ok.olt OW_17.out b hm); first | exact this | omega | (simp at this; omega))
        have LT_33 : Hid (∀ b ∈ [g'], b < w6.heap.size + 1) := Lib.hid (fun b hm => by have := (kIntS_ok.olt OW_18.out b hm); first | exact this | omega | (simp at this; omega))
        have BD_34 := Lib.hid (Bd.app HLT1.out kIntS_ok ROW_27.out OWL_27.out NDU_27.out GE_27.out OW_17.out (by simp) (fun b hb hm => DQ1.out b hb (FPE_27.out ▸ hm)) (fun b hb => by simp only [List.mem_singleton] at hb; omega) HONHG_28.out HG_28.out HATHG_28.out (by first | omega | (simp; done) | (simp; omega)))
        have c_35 : w8.cell? ⟨(w1.heap.size + 1), 0, none⟩ = some (v1) := BD_15.out.cell_grown HG_28.out c_7 (by first | omega | (simp; done) | (simp; omega))
        have c_36 : w8.cell? ⟨(w1.heap.size + 1), 1, none⟩ = some (v2) := BD_15.out.cell_grown HG_28.out c_8 (by first | omega | (simp; done) | (simp; omega))
        have z_37 : w8.frozen? ⟨(w1.heap.size + 1), 0, none⟩ = false := BD_15.out.frozen_grown HG_28.out (by first | omega | (simp; done) | (simp; omega)) z_9 (by first | omega | (simp; done) | (simp; omega))
        have z_38 : w8.frozen? ⟨(w1.heap.size + 1), 1, none⟩ = false := BD_15.out.frozen_grown HG_28.out (by first | omega | (simp; done) | (simp; omega)) z_10 (by first | omega | (simp; done) | (simp; omega))
        have c_39 : w8.cell? ⟨w.heap.size, 1, none⟩ = some (.slice (some ⟨bA, fA, none⟩) m.2.length ecap') := BD_15.out.cell_grown HG_28.out c_11 (by first | omega | (simp; done) | (simp; omega))
        have c_40 : w8.cell? ⟨bA, fA + s.toNat, none⟩ = some (.bool es) := BD_15.out.cell_grown HG_28.out c_12 (by first | omega | (simp; done) | (simp; omega))
        have c_41 : w8.cell? ⟨g', i, none⟩ = some (.int .i64 s) := (HG_28.out.cell_far ⟨g', i, none⟩ (World.block_lt_of_cell? _ _ c_13) (fun he => DG1.out _ (by simp) (BD_15.out.own_mem _ he.symm))).trans c_13
        have hz_42 : w1.heap.size + 2 ≤ w8.heap.size := Nat.le_trans hz_14 hz_29
        have BD_43 := Lib.hid (BD_16.out.grown kBool_ok HG_28.out (fun k hk hm => DIS.out k (BD_15.out.own_mem k hk) hm))
        have ND_44 : Hid (∀ b ∈ (g7 :: (fps_27.flatten ++ [gl])), b ∉ fp2) := Lib.hid (fun b hm hs => (app_in HATHG_28.out hm).elim (fun h => DIS.out b (FPE_27.out ▸ h) hs) (fun h => h.elim (fun h => by exact DQ2.out b h hs) (fun h => by have := LT_31.out b hs; first | omega | (simp at h; omega))))
        have OW_45 := Lib.hid (kIntS_ok.oframe OW_18.out (w' := w8) fun b hm => HG_28.out.block b (kIntS_ok.olt OW_18.out b hm) (fun he => DG1.out b hm (BD_15.out.own_mem b he.symm)))
        have ND_46 : Hid (∀ b ∈ (g7 :: (fps_27.flatten ++ [gl])), b ∉ [g']) := Lib.hid (fun b hm hs => (app_in HATHG_28.out hm).elim (fun h => (fun x hx hy => DG1.out x hy hx) b (FPE_27.out ▸ h) hs) (fun h => h.elim (fun h => by exact DQG.out b h hs) (fun h => by have := LT_33.out b hs; first | omega | (simp at h; omega))))
        have BL_47 := Lib.hid (Below.grown BL_19.out HG_28.out (by have := (BL_19.out).size; first | omega | (simp at this; omega) | (simp at this ⊢; omega)) (fun k hk => Nat.le_trans (by first | omega | (simp; done) | (simp; omega)) (BD_15.out.own_ge k hk)))
        have c_48 : w8.cell? ⟨w6.heap.size, 0, none⟩ = some ((.slice (some ⟨gl, 0, none⟩) 3 cl')) := (HG_28.out.cell_far ⟨w6.heap.size, 0, none⟩ (World.block_lt_of_cell? _ _ c_20) (fun he => ND_23.out _ (by simp) (BD_15.out.own_mem _ he.symm))).trans c_20
        have z_49 : w8.frozen? ⟨w6.heap.size, 0, none⟩ = false := (HG_28.out.frozen_far ⟨w6.heap.size, 0, none⟩ (by first | omega | (simp; done) | (simp; omega)) (fun he => ND_23.out _ (by simp) (BD_15.out.own_mem _ he.symm))).trans z_21
        have hz_50 : w6.heap.size + 1 ≤ w8.heap.size := Nat.le_trans hz_22 hz_29
        have c_51 : (w8.setCell ⟨(w1.heap.size + 1), 0, none⟩ (.slice (some ⟨g7, 0, none⟩) (i + 1) cp7)).cell? ⟨(w1.heap.size + 1), 0, none⟩ = some (.slice (some ⟨g7, 0, none⟩) (i + 1) cp7) := World.cell?_setCell_same _ _ _ c_35
        have c_52 : (w8.setCell ⟨(w1.heap.size + 1), 0, none⟩ (.slice (some ⟨g7, 0, none⟩) (i + 1) cp7)).cell? ⟨(w1.heap.size + 1), 1, none⟩ = some (v2) := (World.cell?_setCell_other _ _ _ _ (by simp only [ne_eq, Addr.mk.injEq, not_and]; omega)).trans c_36
        have z_53 : (w8.setCell ⟨(w1.heap.size + 1), 0, none⟩ (.slice (some ⟨g7, 0, none⟩) (i + 1) cp7)).frozen? ⟨(w1.heap.size + 1), 0, none⟩ = false := by rw [World.frozen?_setCell]; exact z_37
        have z_54 : (w8.setCell ⟨(w1.heap.size + 1), 0, none⟩ (.slice (some ⟨g7, 0, none⟩) (i + 1) cp7)).frozen? ⟨(w1.heap.size + 1), 1, none⟩ = false := by rw [World.frozen?_setCell]; exact z_38
        have c_55 : (w8.setCell ⟨(w1.heap.size + 1), 0, none⟩ (.slice (some ⟨g7, 0, none⟩) (i + 1) cp7)).cell? ⟨w.heap.size, 1, none⟩ = some (.slice (some ⟨bA, fA, none⟩) m.2.length ecap') := (World.cell?_setCell_other _ _ _ _ (by simp only [ne_eq, Addr.mk.injEq, not_and]; omega)).trans c_39
        have c_56 : (w8.setCell ⟨(w1.heap.size + 1), 0, none⟩ (.slice (some ⟨g7, 0, none⟩) (i + 1) cp7)).cell? ⟨bA, fA + s.toNat, none⟩ = some (.bool es) := (World.cell?_setCell_other _ _ _ _ (by simp only [ne_eq, Addr.mk.injEq, not_and]; omega)).trans c_40
        have c_57 : (w8.setCell ⟨(w1.heap.size + 1), 0, none⟩ (.slice (some ⟨g7, 0, none⟩) (i + 1) cp7)).cell? ⟨g', i, none⟩ = some (.int .i64 s) := (World.cell?_setCell_other _ _ _ _ (by simp only [ne_eq, Addr.mk.injEq, not_and]; omega)).trans c_41
        have BD_58 := Lib.hid (BD_34.out.setCell kIntS_ok (a := ⟨(w1.heap.size + 1), 0, none⟩) (by show (w1.heap.size + 1) < _; first | omega | (simp; omega)) (.slice (some ⟨g7, 0, none⟩) (i + 1) cp7))
        have BD_59 := Lib.hid (BD_43.out.setCell kBool_ok (a := ⟨(w1.heap.size + 1), 0, none⟩) (by show (w1.heap.size + 1) < _; first | omega | (simp; omega)) (.slice (some ⟨g7, 0, none⟩) (i + 1) cp7))
        have OW_60 := Lib.hid (kIntS_ok.oframe OW_45.out (w' := (w8.setCell ⟨(w1.heap.size + 1), 0, none⟩ (.slice (some ⟨g7, 0, none⟩) (i + 1) cp7))) fun b hm => Below.heap_setCell _ _ _ _ (by show b ≠ (w1.heap.size + 1); have := HGB.out b hm; omega))
        have BL_61 := Lib.hid (BL_47.out.setCell (p := ⟨(w1.heap.size + 1), 0, none⟩) (by show _ ≤ (w1.heap.size + 1); omega) (.slice (some ⟨g7, 0, none⟩) (i + 1) cp7))
        go_wp2_with fail
        obtain ⟨wz, hwz⟩ : ∃ z : World, z = (w8.setCell ⟨(w1.heap.size + 1), 0, none⟩ (.slice (some ⟨g7, 0, none⟩) (i + 1) cp7)) := ⟨_, rfl⟩
        rw [← hwz] at c_51 c_52 z_53 z_54 c_55 c_56 c_57 BD_58 BD_59 OW_60 BL_61 ⊢
        have hz_62 : w1.heap.size + 2 ≤ wz.heap.size := by rw [hwz]; simp only [World.size_setCell, World.size_alloc]; exact hz_42
        clear hwz
        have hb_63 : Below wz.heap.size wz wz.drew := (Below.refl _ _).drew
        have hz_64 : wz.heap.size ≤ wz.heap.size := by have := (hb_63).size; first | omega | (simp at this; omega)
        have c_65 : wz.drew.cell? ⟨(w1.heap.size + 1), 0, none⟩ = some (.slice (some ⟨g7, 0, none⟩) (i + 1) cp7) := below_later hb_63 c_51; clear c_51
        have c_66 : wz.drew.cell? ⟨(w1.heap.size + 1), 1, none⟩ = some (v2) := below_later hb_63 c_52; clear c_52
        have z_67 : wz.drew.frozen? ⟨(w1.heap.size + 1), 0, none⟩ = false := (Below.frozen hb_63 (p := ⟨(w1.heap.size + 1), 0, none⟩) (by show (w1.heap.size + 1) < _; first | omega | (simp; done) | (simp; omega))).trans z_53
        have z_68 : wz.drew.frozen? ⟨(w1.heap.size + 1), 1, none⟩ = false := (Below.frozen hb_63 (p := ⟨(w1.heap.size + 1), 1, none⟩) (by show (w1.heap.size + 1) < _; first | omega | (simp; done) | (simp; omega))).trans z_54
        have c_69 : wz.drew.cell? ⟨w.heap.size, 1, none⟩ = some (.slice (some ⟨bA, fA, none⟩) m.2.length ecap') := below_later hb_63 c_55; clear c_55
        have c_70 : wz.drew.cell? ⟨bA, fA + s.toNat, none⟩ = some (.bool es) := below_later hb_63 c_56; clear c_56
        have c_71 : wz.drew.cell? ⟨g', i, none⟩ = some (.int .i64 s) := below_later hb_63 c_57; clear c_57
        have hz_72 : w1.heap.size + 2 ≤ wz.heap.size := Nat.le_trans hz_62 hz_64
        have BD_73 := Lib.hid (BD_58.out.later kIntS_ok hb_63)
        have BD_74 := Lib.hid (BD_59.out.later kBool_ok hb_63)
        have OW_75 := Lib.hid (kIntS_ok.oframe OW_60.out (w' := wz.drew) fun b hm => (hb_63).block b (kIntS_ok.olt OW_60.out b hm))
        have BL_76 := Lib.hid (Below.trans BL_61.out (Below.mono hb_63 (by have := (BL_61.out).size; first | omega | (simp at this; omega) | (simp at this ⊢; omega))))
        clear hb_63
        refine wp_region_G [11] (fun w' => w'.cell? ⟨(w1.heap.size + 1), 1, none⟩ = some (v2) ∧ w'.cell? ⟨w.heap.size, 1, none⟩ = some (.slice (some ⟨bA, fA, none⟩) m.2.length ecap') ∧ w'.cell? ⟨bA, fA + s.toNat, none⟩ = some (.bool es) ∧ w'.cell? ⟨g', i, none⟩ = some (.int .i64 s)) (by kernel_rfl) ?_ (fun hHeld => ?_)
        · exact ⟨c_66, c_69, c_70, c_71⟩
        refine wpG_pure (i := 0) (oi := { dst := some 80, op := Go.Op.fieldAddr 28 (Go.Operand.tmp 6) 1, type := 0, pos := "l12_machine.go:150", after := #[], guard := none }) (v := ?vg1) rfl (by kernel_rfl) (fun _ _ _ h => h) (Or.inr hHeld) (Or.inl ⟨by rfl, ?yg1⟩) ?_
        case yg1 => (intro wS _; go_simp <;> with_reducible rfl)
        try simp only [Act.put, List.setIfInBounds_toArray, List.set_cons_zero, List.set_cons_succ]
        refine wpG_load (i := 1) (oi := { dst := some 81, op := Go.Op.load 23 (Go.Operand.tmp 80), type := 23, pos := "l12_machine.go:150", after := #[{ on := 0, ground := Go.Ground.data }], guard := none }) (v := ?vg2) [[11, 1]] rfl (by kernel_rfl) (fun _ _ _ h => h) hHeld (Or.inl ⟨by rfl, ?yg2⟩) ?_
        case yg2 => (intro wS hSw; (try dsimp only at hSw); go_simp <;> with_reducible rfl)
        try simp only [Act.put, List.setIfInBounds_toArray, List.set_cons_zero, List.set_cons_succ]
        refine wpG_pure (i := 2) (oi := { dst := some 82, op := Go.Op.fieldAddr 28 (Go.Operand.tmp 1) 1, type := 0, pos := "l12_machine.go:150", after := #[], guard := none }) (v := ?vg3) rfl (by kernel_rfl) (fun _ _ _ h => h) (Or.inr hHeld) (Or.inl ⟨by rfl, ?yg3⟩) ?_
        case yg3 => (intro wS _; go_simp <;> with_reducible rfl)
        try simp only [Act.put, List.setIfInBounds_toArray, List.set_cons_zero, List.set_cons_succ]
        refine wpG_load (i := 3) (oi := { dst := some 83, op := Go.Op.load 23 (Go.Operand.tmp 82), type := 23, pos := "l12_machine.go:150", after := #[{ on := 2, ground := Go.Ground.data }], guard := none }) (v := ?vg4) [[11, 10, 9, 8, 3]] rfl (by kernel_rfl) (fun _ _ _ h => h) hHeld (Or.inl ⟨by rfl, ?yg4⟩) ?_
        case yg4 => (intro wS hSw; (try dsimp only at hSw); go_simp <;> with_reducible rfl)
        try simp only [Act.put, List.setIfInBounds_toArray, List.set_cons_zero, List.set_cons_succ]
        refine wpG_pure (i := 4) (oi := { dst := some 84, op := Go.Op.move (Go.Operand.tmp 5), type := 42, pos := "l12_machine.go:150", after := #[], guard := none }) (v := ?vg5) rfl (by kernel_rfl) (fun _ _ _ h => h) (Or.inr hHeld) (Or.inl ⟨by rfl, ?yg5⟩) ?_
        case yg5 => (intro wS _; go_simp <;> with_reducible rfl)
        try simp only [Act.put, List.setIfInBounds_toArray, List.set_cons_zero, List.set_cons_succ]
        refine wpG_pure (i := 5) (oi := { dst := some 85, op := Go.Op.move (Go.Operand.tmp 7), type := 3, pos := "l12_machine.go:150", after := #[], guard := none }) (v := ?vg6) rfl (by kernel_rfl) (fun _ _ _ h => h) (Or.inr hHeld) (Or.inl ⟨by rfl, ?yg6⟩) ?_
        case yg6 => (intro wS _; go_simp <;> with_reducible rfl)
        try simp only [Act.put, List.setIfInBounds_toArray, List.set_cons_zero, List.set_cons_succ]
        refine wpG_pure (i := 6) (oi := { dst := some 86, op := Go.Op.indexAddr 42 (Go.Operand.tmp 84) (Go.Operand.tmp 85), type := 0, pos := "l12_machine.go:150", after := #[{ on := 4, ground := Go.Ground.data }, { on := 5, ground := Go.Ground.data }], guard := none }) (v := ?vg7) rfl (by kernel_rfl) (fun _ _ _ h => h) (Or.inr hHeld) (Or.inl ⟨by rfl, ?yg7⟩) ?_
        case yg7 => (intro wS _; go_simp <;> with_reducible rfl)
        try simp only [Act.put, List.setIfInBounds_toArray, List.set_cons_zero, List.set_cons_succ]
        refine wpG_load (i := 7) (oi := { dst := some 87, op := Go.Op.load 3 (Go.Operand.tmp 86), type := 3, pos := "l12_machine.go:150", after := #[{ on := 6, ground := Go.Ground.data }], guard := none }) (v := ?vg8) [[11, 10, 9, 8, 7]] rfl (by kernel_rfl) (fun _ _ _ h => h) hHeld (Or.inl ⟨by rfl, ?yg8⟩) ?_
        case yg8 => (intro wS hSw; (try dsimp only at hSw); go_simp <;> with_reducible rfl)
        try simp only [Act.put, List.setIfInBounds_toArray, List.set_cons_zero, List.set_cons_succ]
        refine wpG_pure (i := 8) (oi := { dst := some 88, op := Go.Op.indexAddr 23 (Go.Operand.tmp 83) (Go.Operand.tmp 87), type := 0, pos := "l12_machine.go:150", after := #[{ on := 3, ground := Go.Ground.data }, { on := 7, ground := Go.Ground.data }], guard := none }) (v := ?vg9) rfl (by kernel_rfl) (fun _ _ _ h => h) (Or.inr hHeld) (Or.inl ⟨by rfl, ?yg9⟩) ?_
        case yg9 => (intro wS _; go_simp <;> with_reducible rfl)
        try simp only [Act.put, List.setIfInBounds_toArray, List.set_cons_zero, List.set_cons_succ]
        refine wpG_load (i := 9) (oi := { dst := some 89, op := Go.Op.load 4 (Go.Operand.tmp 88), type := 4, pos := "l12_machine.go:150", after := #[{ on := 8, ground := Go.Ground.data }], guard := none }) (v := ?vg10) [[11, 10, 9]] rfl (by kernel_rfl) (fun _ _ _ h => h) hHeld (Or.inl ⟨by rfl, ?yg10⟩) ?_
        case yg10 => (intro wS hSw; (try dsimp only at hSw); go_simp <;> with_reducible rfl)
        try simp only [Act.put, List.setIfInBounds_toArray, List.set_cons_zero, List.set_cons_succ]
        refine wpG_one (i := 10) (o := { dst := some 90, op := Go.Op.buildSlice 23 1 #[(0, Go.Operand.tmp 89)], type := 23, pos := "l12_machine.go:150", after := #[{ on := 9, ground := Go.Ground.data }], guard := none }) rfl (by kernel_rfl) (fun K hK => ?_)
        go_simp
        have LT_77 : Hid (∀ b ∈ (g7 :: (fps_27.flatten ++ [gl])), b < wz.heap.size) := Lib.hid (fun b hm => by have := (BD_73.out.lt kIntS_ok b hm); first | exact this | omega | (simp at this; omega))
        have LT_78 : Hid (∀ b ∈ fp2, b < wz.heap.size) := Lib.hid (fun b hm => by have := (BD_74.out.lt kBool_ok b hm); first | exact this | omega | (simp at this; omega))
        have LT_79 : Hid (∀ b ∈ [g'], b < wz.heap.size) := Lib.hid (fun b hm => by have := (kIntS_ok.olt OW_75.out b hm); first | exact this | omega | (simp at this; omega))
        have hb_80 : Below wz.drew.heap.size wz.drew (wz.alloc (.cells #[.bool es] 4)).drew := below_alloc_drew _ _
        have hz_81 : wz.heap.size ≤ wz.heap.size + 1 := by have := (hb_80).size; first | omega | (simp at this; omega)
        have c_82 : (wz.alloc (.cells #[.bool es] 4)).drew.cell? ⟨(w1.heap.size + 1), 0, none⟩ = some (.slice (some ⟨g7, 0, none⟩) (i + 1) cp7) := below_later hb_80 c_65; clear c_65
        have c_83 : (wz.alloc (.cells #[.bool es] 4)).drew.cell? ⟨(w1.heap.size + 1), 1, none⟩ = some (v2) := below_later hb_80 c_66; clear c_66
        have z_84 : (wz.alloc (.cells #[.bool es] 4)).drew.frozen? ⟨(w1.heap.size + 1), 0, none⟩ = false := (Below.frozen hb_80 (p := ⟨(w1.heap.size + 1), 0, none⟩) (by show (w1.heap.size + 1) < _; first | omega | (simp; done) | (simp; omega))).trans z_67
        have z_85 : (wz.alloc (.cells #[.bool es] 4)).drew.frozen? ⟨(w1.heap.size + 1), 1, none⟩ = false := (Below.frozen hb_80 (p := ⟨(w1.heap.size + 1), 1, none⟩) (by show (w1.heap.size + 1) < _; first | omega | (simp; done) | (simp; omega))).trans z_68
        have c_86 : (wz.alloc (.cells #[.bool es] 4)).drew.cell? ⟨w.heap.size, 1, none⟩ = some (.slice (some ⟨bA, fA, none⟩) m.2.length ecap') := below_later hb_80 c_69; clear c_69
        have c_87 : (wz.alloc (.cells #[.bool es] 4)).drew.cell? ⟨bA, fA + s.toNat, none⟩ = some (.bool es) := below_later hb_80 c_70; clear c_70
        have c_88 : (wz.alloc (.cells #[.bool es] 4)).drew.cell? ⟨g', i, none⟩ = some (.int .i64 s) := below_later hb_80 c_71; clear c_71
        have hz_89 : w1.heap.size + 2 ≤ wz.heap.size + 1 := Nat.le_trans hz_72 hz_81
        have BD_90 := Lib.hid (BD_73.out.later kIntS_ok hb_80)
        have BD_91 := Lib.hid (BD_74.out.later kBool_ok hb_80)
        have OW_92 := Lib.hid (kIntS_ok.oframe OW_75.out (w' := (wz.alloc (.cells #[.bool es] 4)).drew) fun b hm => (hb_80).block b (kIntS_ok.olt OW_75.out b hm))
        have BL_93 := Lib.hid (Below.trans BL_76.out (Below.mono hb_80 (by have := (BL_76.out).size; first | omega | (simp at this; omega) | (simp at this ⊢; omega))))
        clear hb_80
        have c_94 : (wz.alloc (.cells #[.bool es] 4)).drew.cell? ⟨wz.heap.size, 0, none⟩ = some (.bool es) := by go_simp
        have z_95 : (wz.alloc (.cells #[.bool es] 4)).drew.frozen? ⟨wz.heap.size, 0, none⟩ = false := by go_simp
        have hz_96 : wz.heap.size < wz.heap.size + 1 := by omega
        have ND_97 : Hid (∀ b ∈ [wz.heap.size], b ∉ (g7 :: (fps_27.flatten ++ [gl]))) := Lib.hid (by intro b hb hm; simp only [List.mem_singleton] at hb; subst hb; have := (LT_77.out _ hm); first | omega | (simp at this; omega))
        have ND_98 : Hid (∀ b ∈ [wz.heap.size], b ∉ fp2) := Lib.hid (by intro b hb hm; simp only [List.mem_singleton] at hb; subst hb; have := (LT_78.out _ hm); first | omega | (simp at this; omega))
        have ND_99 : Hid (∀ b ∈ [wz.heap.size], b ∉ [g']) := Lib.hid (by intro b hb hm; simp only [List.mem_singleton] at hb; subst hb; have := (LT_79.out _ hm); first | omega | (simp at this; omega))
        refine hK.out _ _ (Or.inr ?khHeld11) (fun hHeld11S => ?_)
        case khHeld11 => exact ⟨c_83, c_86, c_87, c_88⟩
        have hHeld11 := hHeld11S.held (by kernel_rfl)
        clear hK K
        try simp only [Act.put, List.setIfInBounds_toArray, List.set_cons_zero, List.set_cons_succ]
        refine wpG_one (i := 11) (o := { dst := some 91, op := Go.Op.call { callee := Go.Callee.builtin Go.Builtin.append, args := #[Go.Operand.tmp 81, Go.Operand.tmp 90], argTypes := #[23, 23] }, type := 23, pos := "l12_machine.go:150", after := #[{ on := 1, ground := Go.Ground.data }, { on := 10, ground := Go.Ground.data }], guard := none }) rfl (by kernel_rfl) (fun K hK => ?_)
        obtain ⟨vss_100, fps_100, hrow, howl, hfp, hnd, hge⟩ := BD_91.out
        rw [HLT2.out] at hrow
        have ROW_100 := Lib.hid hrow; have OWL_100 := Lib.hid howl; have NDU_100 := Lib.hid (hfp ▸ hnd); have GE_100 := Lib.hid (fun b hb => hge b (hfp ▸ hb)); have FPE_100 := Lib.hid hfp; clear hrow howl hnd hge hfp
        refine step_append_lies _ rfl (.tmp 81) (.tmp 90) 23 rfl (w1.heap.size + 2) 4 i2 (.bool false) 1 1 Try.underlying23 hi2 hx0 hx1 hx2 rfl (by decide) v2 i vss_100.flatten rfl ROW_100.out ⟨wz.heap.size, 0, none⟩ 1 1 [.bool es] rfl rfl (news_at c_94) (by simp [Value.oneCell']) (by omega) HC3.out HC6.out (by first | omega | (simp; omega)) _ rfl ?_
        intro g9 cp9 w9 hown hgrow hat hlt4
        have HG_101 := Lib.hid hgrow; have HATHG_101 := Lib.hid hat; have HONHG_101 := Lib.hid hown
        clear hgrow hat hown
        have hz_102 : wz.heap.size + 1 ≤ w9.heap.size := by have := HG_101.out.size; first | omega | (simp at this; omega)
        have LT_103 : Hid (∀ b ∈ (g7 :: (fps_27.flatten ++ [gl])), b < wz.heap.size + 1) := Lib.hid (fun b hm => by have := (BD_90.out.lt kIntS_ok b hm); first | exact this | omega | (simp at this; omega))
        have LT_104 : Hid (∀ b ∈ fp2, b < wz.heap.size + 1) := Lib.hid (fun b hm => by have := (BD_91.out.lt kBool_ok b hm); first | exact this | omega | (simp at this; omega))
        have LT_105 : Hid (∀ b ∈ [g'], b < wz.heap.size + 1) := Lib.hid (fun b hm => by have := (kIntS_ok.olt OW_92.out b hm); first | exact this | omega | (simp at this; omega))
        have BD_106 := Lib.hid (Bd.app HLT2.out kBool_ok ROW_100.out OWL_100.out NDU_100.out GE_100.out ⟨rfl, rfl, trivial⟩ List.nodup_nil (fun b hb => absurd hb (by simp)) (fun b hb => absurd hb (by simp)) HONHG_101.out HG_101.out HATHG_101.out (by first | omega | (simp; done) | (simp; omega)))
        have c_107 : w9.cell? ⟨(w1.heap.size + 1), 0, none⟩ = some (.slice (some ⟨g7, 0, none⟩) (i + 1) cp7) := BD_91.out.cell_grown HG_101.out c_82 (by first | omega | (simp; done) | (simp; omega))
        have c_108 : w9.cell? ⟨(w1.heap.size + 1), 1, none⟩ = some (v2) := BD_91.out.cell_grown HG_101.out c_83 (by first | omega | (simp; done) | (simp; omega))
        have z_109 : w9.frozen? ⟨(w1.heap.size + 1), 0, none⟩ = false := BD_91.out.frozen_grown HG_101.out (by first | omega | (simp; done) | (simp; omega)) z_84 (by first | omega | (simp; done) | (simp; omega))
        have z_110 : w9.frozen? ⟨(w1.heap.size + 1), 1, none⟩ = false := BD_91.out.frozen_grown HG_101.out (by first | omega | (simp; done) | (simp; omega)) z_85 (by first | omega | (simp; done) | (simp; omega))
        have hz_111 : w1.heap.size + 2 ≤ w9.heap.size := Nat.le_trans hz_89 hz_102
        have BD_112 := Lib.hid (BD_90.out.grown kIntS_ok HG_101.out (fun k hk hm => (fun x hx hy => ND_44.out x hy hx) k (BD_91.out.own_mem k hk) hm))
        have ND_113 : Hid (∀ b ∈ (g9 :: (fps_100.flatten ++ [])), b ∉ (g7 :: (fps_27.flatten ++ [gl]))) := Lib.hid (fun b hm hs => (app_in HATHG_101.out hm).elim (fun h => (fun x hx hy => ND_44.out x hy hx) b (FPE_100.out ▸ h) hs) (fun h => h.elim (fun h => by simp at h) (fun h => by have := LT_103.out b hs; first | omega | (simp at h; omega))))
        have OW_114 := Lib.hid (kIntS_ok.oframe OW_92.out (w' := w9) fun b hm => HG_101.out.block b (kIntS_ok.olt OW_92.out b hm) (fun he => DG2.out b hm (BD_91.out.own_mem b he.symm)))
        have ND_115 : Hid (∀ b ∈ (g9 :: (fps_100.flatten ++ [])), b ∉ [g']) := Lib.hid (fun b hm hs => (app_in HATHG_101.out hm).elim (fun h => (fun x hx hy => DG2.out x hy hx) b (FPE_100.out ▸ h) hs) (fun h => h.elim (fun h => by simp at h) (fun h => by have := LT_105.out b hs; first | omega | (simp at h; omega))))
        have BL_116 := Lib.hid (Below.grown BL_93.out HG_101.out (by have := (BL_93.out).size; first | omega | (simp at this; omega) | (simp at this ⊢; omega)) (fun k hk => Nat.le_trans (by first | omega | (simp; done) | (simp; omega)) (BD_91.out.own_ge k hk)))
        have c_117 : w9.cell? ⟨wz.heap.size, 0, none⟩ = some (.bool es) := (HG_101.out.cell_far ⟨wz.heap.size, 0, none⟩ (World.block_lt_of_cell? _ _ c_94) (fun he => ND_98.out _ (by simp) (BD_91.out.own_mem _ he.symm))).trans c_94
        have z_118 : w9.frozen? ⟨wz.heap.size, 0, none⟩ = false := (HG_101.out.frozen_far ⟨wz.heap.size, 0, none⟩ (by first | omega | (simp; done) | (simp; omega)) (fun he => ND_98.out _ (by simp) (BD_91.out.own_mem _ he.symm))).trans z_95
        have hz_119 : wz.heap.size + 1 ≤ w9.heap.size := Nat.le_trans hz_96 hz_102
        refine hK.out _ _ (Or.inl (by kernel_rfl)) (fun _ => ?_)
        clear hK K
        try simp only [Act.put, List.setIfInBounds_toArray, List.set_cons_zero, List.set_cons_succ]
        refine wpG_pure (i := 12) (oi := { dst := some 92, op := Go.Op.fieldAddr 28 (Go.Operand.tmp 6) 1, type := 0, pos := "l12_machine.go:150", after := #[{ on := 0, ground := Go.Ground.phase }, { on := 1, ground := Go.Ground.phase }, { on := 2, ground := Go.Ground.phase }, { on := 3, ground := Go.Ground.phase }, { on := 4, ground := Go.Ground.phase }, { on := 5, ground := Go.Ground.phase }, { on := 6, ground := Go.Ground.phase }, { on := 7, ground := Go.Ground.phase }, { on := 8, ground := Go.Ground.phase }, { on := 9, ground := Go.Ground.phase }, { on := 10, ground := Go.Ground.phase }, { on := 11, ground := Go.Ground.phase }], guard := none }) (v := ?vg13) rfl (by kernel_rfl) (fun _ _ _ h => h) (Or.inl (by kernel_rfl)) (Or.inl ⟨by rfl, ?yg13⟩) ?_
        case yg13 => (intro wS _; go_simp <;> with_reducible rfl)
        try simp only [Act.put, List.setIfInBounds_toArray, List.set_cons_zero, List.set_cons_succ]
        refine wpG_one (i := 13) (o := { dst := none, op := Go.Op.store 23 (Go.Operand.tmp 92) (Go.Operand.tmp 91), type := 0, pos := "l12_machine.go:150", after := #[{ on := 12, ground := Go.Ground.data }, { on := 11, ground := Go.Ground.data }, { on := 11, ground := Go.Ground.chain }, { on := 0, ground := Go.Ground.phase }, { on := 1, ground := Go.Ground.phase }, { on := 2, ground := Go.Ground.phase }, { on := 3, ground := Go.Ground.phase }, { on := 4, ground := Go.Ground.phase }, { on := 5, ground := Go.Ground.phase }, { on := 6, ground := Go.Ground.phase }, { on := 7, ground := Go.Ground.phase }, { on := 8, ground := Go.Ground.phase }, { on := 9, ground := Go.Ground.phase }, { on := 10, ground := Go.Ground.phase }, { on := 11, ground := Go.Ground.phase }], guard := none }) rfl (by kernel_rfl) (fun K hK => ?_)
        go_simp
        refine hK.out _ _ (Or.inl (by kernel_rfl)) (fun _ => ?_)
        clear hK K
        try simp only [Act.put, List.setIfInBounds_toArray, List.set_cons_zero, List.set_cons_succ]
        refine wpG_done (by kernel_rfl) ?_
        have c_120 : (w9.setCell ⟨(w1.heap.size + 1), 1, none⟩ (.slice (some ⟨g9, 0, none⟩) (i + 1) cp9)).cell? ⟨(w1.heap.size + 1), 0, none⟩ = some (.slice (some ⟨g7, 0, none⟩) (i + 1) cp7) := (World.cell?_setCell_other _ _ _ _ (by simp only [ne_eq, Addr.mk.injEq, not_and]; omega)).trans c_107
        have c_121 : (w9.setCell ⟨(w1.heap.size + 1), 1, none⟩ (.slice (some ⟨g9, 0, none⟩) (i + 1) cp9)).cell? ⟨(w1.heap.size + 1), 1, none⟩ = some (.slice (some ⟨g9, 0, none⟩) (i + 1) cp9) := World.cell?_setCell_same _ _ _ c_108
        have z_122 : (w9.setCell ⟨(w1.heap.size + 1), 1, none⟩ (.slice (some ⟨g9, 0, none⟩) (i + 1) cp9)).frozen? ⟨(w1.heap.size + 1), 0, none⟩ = false := by rw [World.frozen?_setCell]; exact z_109
        have z_123 : (w9.setCell ⟨(w1.heap.size + 1), 1, none⟩ (.slice (some ⟨g9, 0, none⟩) (i + 1) cp9)).frozen? ⟨(w1.heap.size + 1), 1, none⟩ = false := by rw [World.frozen?_setCell]; exact z_110
        have BD_124 := Lib.hid (BD_112.out.setCell kIntS_ok (a := ⟨(w1.heap.size + 1), 1, none⟩) (by show (w1.heap.size + 1) < _; first | omega | (simp; omega)) (.slice (some ⟨g9, 0, none⟩) (i + 1) cp9))
        have BD_125 := Lib.hid (BD_106.out.setCell kBool_ok (a := ⟨(w1.heap.size + 1), 1, none⟩) (by show (w1.heap.size + 1) < _; first | omega | (simp; omega)) (.slice (some ⟨g9, 0, none⟩) (i + 1) cp9))
        have OW_126 := Lib.hid (kIntS_ok.oframe OW_114.out (w' := (w9.setCell ⟨(w1.heap.size + 1), 1, none⟩ (.slice (some ⟨g9, 0, none⟩) (i + 1) cp9))) fun b hm => Below.heap_setCell _ _ _ _ (by show b ≠ (w1.heap.size + 1); have := HGB.out b hm; omega))
        have BL_127 := Lib.hid (BL_116.out.setCell (p := ⟨(w1.heap.size + 1), 1, none⟩) (by show _ ≤ (w1.heap.size + 1); omega) (.slice (some ⟨g9, 0, none⟩) (i + 1) cp9))
        go_wp2_with fail
        go_roundw
        case rel =>
          have hb1 := BD_124.out; have hb2 := BD_125.out
          rw [HT1.out] at hb1; rw [HT2.out] at hb2
          exact ⟨i + 1, g', cp', _, _, _, _, by omega, HN1.out, by go_num, by rw [HNX.out], ⟨hgb1, hgb⟩, Lib.hid (by rw [HNX.out]; exact ints_kun OW_126.out), Lib.hid ⟨c_120, c_121, z_122, z_123, by rw [World.size_setCell]; omega⟩, Lib.hid hb1, Lib.hid hb2, Lib.hid (fun x hx hy => ND_113.out x hy hx), Lib.hid ⟨(fun x hx hy => ND_46.out x hy hx) g' (by simp), (fun x hx hy => ND_115.out x hy hx) g' (by simp)⟩, Lib.hid BL_127.out⟩
        case measure => (simp [intOf]; try omega)
      have hgi := HGI.out j hj3
      have hinv6 := HJI.out j
      have hlen6 := hinv6.len
      have x1 : w6.cell? ⟨b2, f2 + j, none⟩ = some (.int .i64 (goI m s j)) := HWR.out.cell (HXA.out j hj3) (by rintro (h | h) <;> omega)
      have xc : w6.cell? ⟨gc, (goI m s j).toNat, none⟩ = some (.int .i64 (clA (clsR m) (goI m s j))) := HWR.out.cell (by
        have h := HCC.out w5 HBR.out (goI m s j).toNat (by omega)
        rwa [show (((goI m s j).toNat : Nat) : Int) = goI m s j by omega] at h) (by rintro (h | h) <;> omega)
      have HATY : Hid (∀ p : Nat, (oJ m s o j)[p]? = some (clA (clsR m) (goI m s j)) → at1 T (clA (clsR m) (goI m s j)) = (p : Int)) := Lib.hid (HAT.out j hj3).1
      have HATN : Hid (clA (clsR m) (goI m s j) ∉ oJ m s o j → at1 T (clA (clsR m) (goI m s j)) = ((oJ m s o j).length : Int)) := Lib.hid (HAT.out j hj3).2
      have HY := Lib.hid (HJY.out j hj3); have HN := Lib.hid (HJN.out j hj3)
      have HTK : Hid (ints ((rowC m s).take (j + 1)) = ints ((rowC m s).take j) ++ [.int .i64 (at1 T (clA (clsR m) (goI m s j)))]) := Lib.hid (by rw [take_next _ j _ (HRA2.out j hj3), ints_snoc])
      have hg0 := hgi.2.1; have hg1' := hgi.2.2
      have hs6 : w5.heap.size ≤ w6.heap.size := HWR.out.size
      have hj3i : (j : Int) < 3 := by omega
      clear hgi hinv6
      generalize clA (clsR m) (goI m s j) = y at *
      generalize goI m s j = q0 at *
      generalize hL2 : oJ m s o (j + 1) = L2 at *
      have HL2 := Lib.hid hL2
      generalize hL1 : oJ m s o j = L at *
      clear hL1 hL2
      have hg6 : g' < w6.heap.size := (HO6.out.lt g' rfl).2
      go_wp2_with fail
      go_loopw [11, 45] (fun av qv wr => ∃ q : Nat, q ≤ L.length ∧ qv = .int .i64 (q : Int) ∧ Hid ((y ∉ L.take q ∧ av = .int .i64 (-1)) ∨ ∃ p : Nat, p < q ∧ L[p]? = some y ∧ av = .int .i64 (p : Int)) ∧ Hid (wr = w6)) (fun _ qv _ => L.length - (intOf qv).toNat)
      case atStart => exact ⟨0, by omega, rfl, Lib.hid (.inl ⟨by simp, rfl⟩), Lib.hid rfl⟩
      case round =>
        obtain ⟨q, hq, rfl, HF, HW⟩ := hrel
        obtain rfl := HW.out
        by_cases hql : q < L.length
        case pos =>
          obtain ⟨c, hc⟩ : ∃ c, L[q]? = some c := ⟨L[q], List.getElem?_eq_getElem hql⟩
          have oc : wr.cell? ⟨g', q, none⟩ = some (.int .i64 c) := by rw [HO6.out.cellAt q (by omega), ints_at _ _ hql]; simp [List.getD, hc]
          have HCQ := Lib.hid hc
          have hqi : (q : Int) < (L.length : Int) := by omega
          clear hc
          by_cases hcy : c = y
          · have e1 : (c == y) = true := by simp [hcy]
            have HQ2 : Hid ((y ∉ L.take (q + 1) ∧ (Value.int .i64 (q : Int)) = .int .i64 (-1)) ∨ ∃ p : Nat, p < q + 1 ∧ L[p]? = some y ∧ (Value.int .i64 (q : Int)) = .int .i64 (p : Int)) := Lib.hid (.inr ⟨q, by omega, by rw [HCQ.out, hcy], rfl⟩)
            clear hcy
            go_wp2_with fail
            go_roundw
            case rel => exact ⟨q + 1, by omega, by go_num, HQ2, Lib.hid (by first | trivial | rfl)⟩
            case measure => (simp [intOf]; try omega)
          · have e1 : (c == y) = false := by simp [hcy]
            have HQ2 : Hid ((y ∉ L.take (q + 1) ∧ u11 = .int .i64 (-1)) ∨ ∃ p : Nat, p < q + 1 ∧ L[p]? = some y ∧ u11 = .int .i64 (p : Int)) := Lib.hid (by
              rcases HF.out with ⟨h1, h2⟩ | ⟨p, h1, h2, h3⟩
              · refine .inl ⟨?_, h2⟩
                rw [take_next _ q _ HCQ.out]
                intro hm
                rcases List.mem_append.1 hm with hm | hm
                · exact h1 hm
                · simp at hm; exact hcy hm.symm
              · exact .inr ⟨p, by omega, h2, h3⟩)
            clear hcy
            go_wp2_with fail
            go_roundw
            case rel => exact ⟨q + 1, by omega, by go_num, HQ2, Lib.hid (by first | trivial | rfl)⟩
            case measure => (simp [intOf]; try omega)
        obtain rfl : q = L.length := by omega
        have hnq : ¬ (L.length : Int) < (L.length : Int) := by omega
        obtain ⟨w8, hw8⟩ : ∃ z : World, z = wr := ⟨_, rfl⟩
        rcases HF.out with ⟨hn, hav⟩ | ⟨p, hpq, hpy, hav⟩
        case inr =>
          subst hav
          have HL2E : Hid (L2 = L) := Lib.hid (HY.out (List.mem_of_getElem? hpy))
          have HZ : Hid (at1 T y = (p : Int)) := Lib.hid (HATY.out p hpy)
          have hpn : ¬ (p : Int) < 0 := by omega
          clear hpy hpq HF
          go_wp2_with (at_builtin; (refine wpList_append_lies _ rfl _ _ 42 rfl w5.heap.size 3 i0 (.int .i64 0) 1 8 Try.underlying42 hi hz0 hz1 hz2 rfl (by decide) u8 j _ rfl (HL6.out.alloc _) ⟨wr.heap.size, 0, none⟩ 1 1 [.int .i64 (p : Int)] rfl rfl (news_one _ _ _) (by simp [Value.oneCell']) (by decide) (by unfold maxLen; omega) (by omega) (by simp; omega) _ rfl ?_))
          intro g9 cp9 w9 hown hgrow hat hlt9
          have HL9 : Hid (w9.ownsRow w5.heap.size 3 1 (.slice (some ⟨g9, 0, none⟩) (j + 1) cp9) (j + 1) (ints ((rowC m s).take (j + 1)))) := Lib.hid (by rw [HTK.out, HZ.out]; exact hown)
          have HO9 : Hid (w9.ownsRow 0 3 1 (.slice (some ⟨g', 0, none⟩) (L).length _) (L).length (ints L)) := Lib.hid ((Wrote.of_grown hgrow).own (own_later HO6.out (ralloc (Below.refl _ _) _)) (fun k hk hs => by simp only [Value.ownBlock, Option.some.injEq] at hk; exact HAP.out k hs hk.symm))
          have HW9 : Hid (Wrote (fun k => k = g ∨ w5.heap.size ≤ k) w5 w9) := Lib.hid ((HWR.out.trans (Wrote.of_below (ralloc (Below.refl _ _) _))).trans ((Wrote.of_grown hgrow).mono (fun k _ hk => .inr (HL6.out.lt k hk).1)))
          have HAP9 : Hid (∀ k, (Value.slice (some ⟨g9, 0, none⟩) (j + 1) cp9).ownBlock = some k → ¬ k = g') := Lib.hid (fun k hk he => by
            simp only [Value.ownBlock, Option.some.injEq] at hk
            rcases hat with h | h
            · exact HAP.out k (by rw [h, hk]) he
            · (first | omega | (simp at h; omega)))
          clear hown hgrow hat hlt9
          have HO9' : Hid (w9.ownsRow 0 3 1 (.slice (some ⟨g', 0, none⟩) L2.length cp') L2.length (ints L2)) := Lib.hid (by rw [HL2E.out]; exact HO9.out)
          go_wp2_with fail
          go_roundw
          case rel => exact ⟨j + 1, g', cp', by omega, by go_num, by rw [HL2.out, HL2E.out], hgg, by rw [HL2.out]; exact HO9', HL9, HAP9, HW9⟩
          case measure => (simp [intOf]; try omega)
        subst hav
        rw [List.take_length] at hn
        have HL2E : Hid (L2 = L ++ [y]) := Lib.hid (HN.out hn)
        have HZ : Hid (at1 T y = (L.length : Int)) := Lib.hid (HATN.out hn)
        have hm1 : (-1 : Int) < 0 := by omega
        clear hn HF
        go_wp2_with (at_builtin; (refine wpList_append_lies _ rfl _ _ 42 rfl 0 3 i0 (.int .i64 0) 1 8 Try.underlying42 hi hz0 hz1 hz2 rfl (by decide) (.slice (some ⟨g', 0, none⟩) L.length cp') L.length _ rfl (HO6.out.alloc _) ⟨wr.heap.size, 0, none⟩ 1 1 [.int .i64 y] rfl rfl (news_one _ _ _) (by simp [Value.oneCell']) (by decide) (by unfold maxLen; omega) (by omega) (by simp) _ rfl ?_))
        intro g8 cp8 w7 hown hgrow hat hlt8
        have HB7 := Lib.hid (ralloc (Below.refl wr.heap.size wr) (.cells #[.int .i64 y] 3))
        have hsz7 : wr.heap.size + 1 ≤ w7.heap.size := by have := hgrow.size; simpa using this
        have hg8 : g8 = g' ∨ g8 = wr.heap.size + 1 := by
          rcases hat with h | h
          · simp [Value.ownBlock] at h; exact .inl h.symm
          · first | exact .inr h | (simp at h; exact .inr h)
        have HO7 : Hid (w7.ownsRow 0 3 1 (.slice (some ⟨g8, 0, none⟩) L2.length cp8) L2.length (ints L2)) := Lib.hid (by rw [HL2E.out, List.length_append, ints_snoc]; exact hown)
        have HL7 : Hid (w7.ownsRow w5.heap.size 3 1 u8 j (ints ((rowC m s).take j))) := Lib.hid ((Wrote.of_grown hgrow).own (own_later HL6.out HB7.out) (fun k hk hs => by simp only [Value.ownBlock, Option.some.injEq] at hs; exact HAP.out k hk hs.symm))
        have HW7 : Hid (Wrote (fun k => k = g ∨ w5.heap.size ≤ k) w5 w7) := Lib.hid ((HWR.out.trans (Wrote.of_below HB7.out)).trans ((Wrote.of_grown hgrow).mono (fun k _ hk => by simp only [Value.ownBlock, Option.some.injEq] at hk; subst hk; exact hgg)))
        have HAP7 : Hid (∀ k, u8.ownBlock = some k → ¬ k = g8) := Lib.hid (fun k hk he => by
          have h1 := HAP.out k hk
          have h2 := (HL6.out.lt k hk).2
          rcases hg8 with h | h <;> omega)
        have hgg7 : g8 = g ∨ w5.heap.size ≤ g8 := by rcases hg8 with h | h <;> omega
        have hs7 : w5.heap.size ≤ w7.heap.size := by omega
        have hg7 : g8 < w7.heap.size := (HO7.out.lt g8 rfl).2
        clear hown hgrow hat hlt8
        go_wp2_with (at_builtin; (refine wpList_append_lies _ rfl _ _ 42 rfl w5.heap.size 3 i0 (.int .i64 0) 1 8 Try.underlying42 hi hz0 hz1 hz2 rfl (by decide) u8 j _ rfl (HL7.out.alloc _) ⟨w7.heap.size, 0, none⟩ 1 1 [.int .i64 (L.length : Int)] rfl rfl (news_one _ _ _) (by simp [Value.oneCell']) (by decide) (by unfold maxLen; omega) (by omega) (by simp; omega) _ rfl ?_))
        intro g9 cp9 w9 hown hgrow hat hlt9
        have HL9 : Hid (w9.ownsRow w5.heap.size 3 1 (.slice (some ⟨g9, 0, none⟩) (j + 1) cp9) (j + 1) (ints ((rowC m s).take (j + 1)))) := Lib.hid (by rw [HTK.out, HZ.out]; exact hown)
        have HO9 : Hid (w9.ownsRow 0 3 1 (.slice (some ⟨g8, 0, none⟩) (L2).length _) (L2).length (ints L2)) := Lib.hid ((Wrote.of_grown hgrow).own (own_later HO7.out (ralloc (Below.refl _ _) _)) (fun k hk hs => by simp only [Value.ownBlock, Option.some.injEq] at hk; exact HAP7.out k hs hk.symm))
        have HW9 : Hid (Wrote (fun k => k = g ∨ w5.heap.size ≤ k) w5 w9) := Lib.hid ((HW7.out.trans (Wrote.of_below (ralloc (Below.refl _ _) _))).trans ((Wrote.of_grown hgrow).mono (fun k _ hk => .inr (HL7.out.lt k hk).1)))
        have HAP9 : Hid (∀ k, (Value.slice (some ⟨g9, 0, none⟩) (j + 1) cp9).ownBlock = some k → ¬ k = g8) := Lib.hid (fun k hk he => by
          simp only [Value.ownBlock, Option.some.injEq] at hk
          rcases hat with h | h
          · exact HAP7.out k (by rw [h, hk]) he
          · (first | omega | (simp at h; omega)))
        clear hown hgrow hat hlt9
        go_wp2_with fail
        go_roundw
        case rel => exact ⟨j + 1, g8, cp8, by omega, by go_num, by rw [HL2.out]; rw [HL2E.out]; simp, hgg7, by rw [HL2.out]; exact HO9, HL9, HAP9, HW9⟩
        case measure => (simp [intOf]; try omega)
set_option maxHeartbeats 1000000 in
theorem spec_LeastOf (w : World) (cs0 : List Value) (a0 : Mach) (h0 : kMachine.rd w.heap.size w cs0 a0) (ht : kMachine.wt a0 ≤ 1048576) :
    Calls Try.prog 31 #[.agg cs0.toArray] w (Made kMachine (fun cs => .tuple #[.agg cs.toArray, .bool (R_LeastOf a0).2]) (R_LeastOf a0).1 w) := by
  obtain ⟨ea, ecap, eb, ecap', rfl, hn, he⟩ := Machine_rd h0
  have HG := Lib.hid (fun wx (hb : Below w.heap.size w wx) => spec_GoodMachine wx _ a0 (kMachine_ok.later h0 hb) ht)
  have HN := Lib.hid hn; have HE := Lib.hid he
  have hl1 := (sl_len hn).2; have hl2 := (sl_len he).2
  have HB0 := Lib.hid (box2_start w (.cells #[.slice ea a0.1.length ecap, .slice eb a0.2.length ecap'] 28) (.cells #[.slice none 0 0, .slice none 0 0] 28))
  clear hn he h0
  cases g0 : R_GoodMachine a0 with
  | false =>
    have hR := R_Least_no g0
    rw [hR]; rw [g0] at HG
    clear hR g0
    go_enter Try.func31, Try.ntmps31
    go_wp2_with fail
    refine (HG.out _ (box2_below HB0.out)).mono ?_
    rintro e w1 ⟨rfl, hb⟩
    have HB1 := Lib.hid (box2_step HB0.out hb); clear hb
    have k0 : w1.cell? ⟨w.heap.size + 1, 0, none⟩ = some (.slice none 0 0) := box2_b HB1.out 0
    have k1 : w1.cell? ⟨w.heap.size + 1, 1, none⟩ = some (.slice none 0 0) := box2_b HB1.out 1
    have z0 : w1.frozen? ⟨w.heap.size + 1, 0, none⟩ = false := (HB1.out.frozen (p := ⟨w.heap.size + 1, 0, none⟩) (by simp)).trans (by go_simp)
    have z1 : w1.frozen? ⟨w.heap.size + 1, 1, none⟩ = false := (HB1.out.frozen (p := ⟨w.heap.size + 1, 1, none⟩) (by simp)).trans (by go_simp)
    go_wp2_with fail
    refine bodyPost_ret (v := .tuple #[.agg #[.slice none 0 0, .slice none 0 0], .bool false]) (by simp [results, Try.results31, go_sem, k0, k1]) rfl ⟨[.slice none 0 0, .slice none 0 0], [], rfl, none_ow _, List.nodup_nil, by simp, ?_⟩
    exact ((box2_below HB1.out).setCell (p := ⟨w.heap.size + 1, 0, none⟩) (by show w.heap.size ≤ w.heap.size + 1; omega) _).setCell (p := ⟨w.heap.size + 1, 1, none⟩) (by show w.heap.size ≤ w.heap.size + 1; omega) _
  | true =>
    rw [R_Least_yes g0]
    have hM := good_of g0
    have HC := Lib.hid (fun wx (hb : Below w.heap.size w wx) => spec_least ea eb ecap ecap' a0 wx (((MC.of HN.out HE.out hM).below hb).mono hb.size) hM (kBoolS_ok.later HE.out hb) hl1)
    rw [g0] at HG
    clear g0 hM
    go_enter Try.func31, Try.ntmps31
    go_wp2_with fail
    refine (HG.out _ (box2_below HB0.out)).mono ?_
    rintro e w1 ⟨rfl, hb⟩
    have HB1 := Lib.hid (box2_step HB0.out hb); clear hb
    have ma : w1.cell? ⟨w.heap.size, 0, none⟩ = some (.slice ea a0.1.length ecap) := box2_a HB1.out 0
    have mb : w1.cell? ⟨w.heap.size, 1, none⟩ = some (.slice eb a0.2.length ecap') := box2_a HB1.out 1
    have hs1 : w.heap.size + 2 ≤ w1.heap.size := by have := HB1.out.size; simp at this; omega
    go_wp2_with fail
    refine (HC.out _ (box2_below HB1.out)).mono ?_
    rintro e w2 ⟨cs, fp, rfl, how, hnd, hge, hb⟩
    have HOW := Lib.hid how
    obtain ⟨f1, f2, d1, d2, hfp, hds, ⟨v1, vss1, fps1, hd1, hr1, _⟩, ⟨v2, vss2, fps2, hd2, hr2, _⟩⟩ := how
    obtain ⟨q1, p1, rfl⟩ := form_of_own hr1
    obtain ⟨q2, p2, rfl⟩ := form_of_own hr2
    subst hd1 hd2
    simp only [List.cons_append, List.nil_append] at hds
    subst hds
    have k0 : w2.cell? ⟨w.heap.size + 1, 0, none⟩ = some (.slice none 0 0) := below_later hb (box2_b HB1.out 0)
    have k1 : w2.cell? ⟨w.heap.size + 1, 1, none⟩ = some (.slice none 0 0) := below_later hb (box2_b HB1.out 1)
    have z0 : w2.frozen? ⟨w.heap.size + 1, 0, none⟩ = false := (hb.frozen (p := ⟨w.heap.size + 1, 0, none⟩) (by show w.heap.size + 1 < w1.heap.size; omega)).trans ((HB1.out.frozen (p := ⟨w.heap.size + 1, 0, none⟩) (by simp)).trans (by go_simp))
    have z1 : w2.frozen? ⟨w.heap.size + 1, 1, none⟩ = false := (hb.frozen (p := ⟨w.heap.size + 1, 1, none⟩) (by show w.heap.size + 1 < w1.heap.size; omega)).trans ((HB1.out.frozen (p := ⟨w.heap.size + 1, 1, none⟩) (by simp)).trans (by go_simp))
    have HBW := Lib.hid ((box2_below HB1.out).trans (hb.mono (by omega)))
    clear hr1 hr2 hb
    simp only [List.length_map]
    have HOW2 := HOW
    simp only [List.length_map] at HOW2
    go_wp2_with fail
    refine bodyPost_ret (v := .tuple #[.agg #[.slice q1 (ordC a0).length p1, .slice q2 (ordC a0).length p2], .bool true]) (by simp [results, Try.results31, go_sem, k0, k1]) rfl ⟨[.slice q1 (ordC a0).length p1, .slice q2 (ordC a0).length p2], fp, rfl, ?_, hnd, fun b hb => by have := hge b hb; omega, (HBW.out.setCell (p := ⟨w.heap.size + 1, 0, none⟩) (by show w.heap.size ≤ w.heap.size + 1; omega) _).setCell (p := ⟨w.heap.size + 1, 1, none⟩) (by show w.heap.size ≤ w.heap.size + 1; omega) _⟩
    refine kMachine_ok.oframe HOW2.out (fun b hb => ?_)
    have := hge b hb
    exact (Below.heap_setCell _ _ _ _ (by show b ≠ w.heap.size + 1; omega)).trans (Below.heap_setCell _ _ _ _ (by show b ≠ w.heap.size + 1; omega))
end Go.Proofs.Ytedjahinlpehgaa
