/- The program's LeastOf. -/
import Derived.Test.YtedjahinlpehgaaLst1
import Derived.Test.YtedjahinlpehgaaCls4
import Derived.Test.YtedjahinlpehgaaMachC
namespace Go.Proofs.Ytedjahinlpehgaa
set_option linter.unusedVariables false
open Go.ChangeShapes Go.WideShapes Go.ChangeAt Go.RowKit
set_option maxRecDepth 100000

/-- the program's own numbers of the classes -/
def nC (m : Mach) : List Int := nw m (rnd m)
theorem nC_at {m : Mach} (hm : GoodM m) {f : Int} (h0 : 0 ≤ f) (h1 : f < (m.1.length : Int)) : (nC m)[f.toNat]? = some (clA (nC m) f) := by
  have hl : f.toNat < (nC m).length := by unfold nC; rw [nw_length hm]; omega
  rw [List.getElem?_eq_getElem hl]
  unfold clA; simp [List.getD, hl]
theorem nC_iff {m : Mach} (hm : GoodM m) {x y : Int} (hx : 0 ≤ x ∧ x < (m.1.length : Int)) (hy : 0 ≤ y ∧ y < (m.1.length : Int)) : clA (nC m) x = clA (nC m) y ↔ clA (clsR m) x = clA (clsR m) y := by
  have h := (cl_alike hm (rnd m)).2 x.toNat y.toNat (by rw [nw_length hm]; omega) (by rw [nw_length hm]; omega)
  have e1 := nC_at hm hx.1 hx.2; have e2 := nC_at hm hy.1 hy.2
  have e3 := cls_at hm hx.1 hx.2; have e4 := cls_at hm hy.1 hy.2
  unfold nC at e1 e2; unfold clsR at e3 e4
  rw [e1, e2, e3, e4, Option.some.injEq, Option.some.injEq] at h
  exact h
/-- the first states of the classes, in order -/
def FI (m : Mach) (F o : List Int) : Prop := F.map (clA (clsR m)) = o ∧ ∀ f ∈ F, 0 ≤ f ∧ f < (m.1.length : Int)
def kL (m : Mach) (F : List Int) : List Value := (F.map (clA (nC m))).map (Value.int .i64)
theorem FI.len {m : Mach} {F o : List Int} (h : FI m F o) : F.length = o.length := by rw [← h.1, List.length_map]
theorem FI.start {m : Mach} (hm : GoodM m) : FI m [0] (oC m 0) := ⟨by rw [List.map_cons, cls_zero hm]; rfl, by intro f hf; simp at hf; subst hf; have := hm.n1; omega⟩
theorem FI.get {m : Mach} {F o : List Int} (h : FI m F o) {i : Nat} (hi : i < o.length) : ∃ f, F[i]? = some f ∧ clA (clsR m) f = o.getD i 0 ∧ 0 ≤ f ∧ f < (m.1.length : Int) := by
  have hl : i < F.length := by rw [h.len]; exact hi
  refine ⟨F[i], List.getElem?_eq_getElem hl, ?_, h.2 _ (List.getElem_mem hl)⟩
  rw [← h.1]
  simp [List.getD, hl]
theorem FI.key {m : Mach} (hm : GoodM m) {F o : List Int} (h : FI m F o) {t : Int} (ht : 0 ≤ t ∧ t < (m.1.length : Int)) {p : Nat} (hp : o[p]? = some (clA (clsR m) t)) : (kL m F)[p]? = some (.int .i64 (clA (nC m) t)) := by
  have hpl := (List.getElem?_eq_some_iff.1 hp).1
  obtain ⟨f, hf, hc, hr⟩ := h.get hpl
  unfold kL
  rw [List.getElem?_map, List.getElem?_map, hf]
  simp only [Option.map_some, Option.some.injEq, Value.int.injEq, true_and]
  refine (nC_iff hm hr ht).2 ?_
  rw [hc]; simp [List.getD, hp]
theorem FI.nokey {m : Mach} (hm : GoodM m) {F o : List Int} (h : FI m F o) {t : Int} (ht : 0 ≤ t ∧ t < (m.1.length : Int)) (hn : clA (clsR m) t ∉ o) : (Value.int .i64 (clA (nC m) t)) ∉ kL m F := by
  intro hm'
  unfold kL at hm'
  simp only [List.mem_map] at hm'
  obtain ⟨_, ⟨f, hf, rfl⟩, he⟩ := hm'
  simp only [Value.int.injEq, true_and] at he
  have := (nC_iff hm (h.2 f hf) ht).1 he
  exact hn (by rw [← this, ← h.1]; exact List.mem_map_of_mem hf)
theorem FI.snoc {m : Mach} {F o : List Int} (h : FI m F o) {t : Int} (ht : 0 ≤ t ∧ t < (m.1.length : Int)) : FI m (F ++ [t]) (o ++ [clA (clsR m) t]) := by
  refine ⟨by rw [List.map_append, h.1]; rfl, fun f hf => ?_⟩
  rcases List.mem_append.1 hf with hf | hf
  · exact h.2 f hf
  · simp at hf; subst hf; exact ht
theorem kL_snoc (m : Mach) (F : List Int) (t : Int) : kL m (F ++ [t]) = kL m F ++ [.int .i64 (clA (nC m) t)] := by simp [kL]
theorem kL_len (m : Mach) (F : List Int) : (kL m F).length = F.length := by simp [kL]
theorem made_intsL (n : Nat) (L : List Int) (h : L.length = n) : (madeCells (Value.int .i64 0).cells (n * 1)).toList = fill (ints L) (.int .i64 0) 0 := by
  rw [fill_zero, ints_length, h, Nat.mul_one]
  apply List.ext_getElem
  · simp [madeCells]
  · intro i h1 h2
    simp [madeCells, Value.cells, Nat.mod_one]

set_option maxHeartbeats 8000000 in
theorem impl_LeastOf (w : World) (cs0 : List Value) (a0 : Mach) (h0 : kMachine.rd w.heap.size w cs0 a0) (ht : kMachine.wt a0 ≤ 1048576) :
    Calls Try.prog 32 #[.agg cs0.toArray] w (Made kMachine (fun cs => .tuple #[.agg cs.toArray, .bool (R_LeastOf a0).2]) (R_LeastOf a0).1 w) := by
  obtain ⟨i1, hi1, hy0, hy1, hy2⟩ := info_parts Try.infoHIntSS
  obtain ⟨i2, hi2, hx0, hx1, hx2⟩ := info_parts Try.infoHBoolS
  obtain ⟨i0, hi, hz0, hz1, hz2⟩ := info_parts Try.infoHIntS
  obtain ⟨ea, ecap, eb, ecap', rfl, hn, he⟩ := Machine_rd h0
  have HG := Lib.hid (fun wx (hb : Below w.heap.size w wx) => impl_GoodMachine wx _ a0 (kMachine_ok.later h0 hb) ht)
  have HN := Lib.hid hn; have HE := Lib.hid he
  have hl1 := (sl_len hn).2; have hl2 := (sl_len he).2
  have HB0 := Lib.hid (box2_start w (.cells #[.slice ea a0.1.length ecap, .slice eb a0.2.length ecap'] 28) (.cells #[.slice none 0 0, .slice none 0 0] 28))
  clear hn he h0
  cases g0 : R_GoodMachine a0 with
  | false =>
    have hR := R_Least_no g0
    rw [hR]; rw [g0] at HG
    clear hR g0
    go_enter Try.func32, Try.ntmps32
    go_wp2_with fail
    refine (HG.out _ (box2_below HB0.out)).mono ?_
    rintro e w1 ⟨rfl, hb⟩
    have HB1 := Lib.hid (box2_step HB0.out hb); clear hb
    have k0 : w1.cell? ⟨w.heap.size + 1, 0, none⟩ = some (.slice none 0 0) := box2_b HB1.out 0
    have k1 : w1.cell? ⟨w.heap.size + 1, 1, none⟩ = some (.slice none 0 0) := box2_b HB1.out 1
    have z0 : w1.frozen? ⟨w.heap.size + 1, 0, none⟩ = false := (HB1.out.frozen (p := ⟨w.heap.size + 1, 0, none⟩) (by simp)).trans (by go_simp)
    have z1 : w1.frozen? ⟨w.heap.size + 1, 1, none⟩ = false := (HB1.out.frozen (p := ⟨w.heap.size + 1, 1, none⟩) (by simp)).trans (by go_simp)
    go_wp2_with fail
    refine bodyPost_ret (v := .tuple #[.agg #[.slice none 0 0, .slice none 0 0], .bool false]) (by simp [results, Try.results32, go_sem, k0, k1]) rfl ⟨[.slice none 0 0, .slice none 0 0], [], rfl, none_ow _, List.nodup_nil, by simp, ?_⟩
    exact ((box2_below HB1.out).setCell (p := ⟨w.heap.size + 1, 0, none⟩) (by show w.heap.size ≤ w.heap.size + 1; omega) _).setCell (p := ⟨w.heap.size + 1, 1, none⟩) (by show w.heap.size ≤ w.heap.size + 1; omega) _
  | true =>
    rw [R_Least_yes g0]
    have hm := good_of g0
    have hM := MC.of HN.out HE.out hm
    have HCL := Lib.hid (fun wx (hb : Below w.heap.size w wx) (hlt : w.heap.size < wx.heap.size) hc0 hc1 => impl_classes ea eb ecap ecap' w.heap.size a0 wx ((hM.below hb).mono hb.size) hm hlt hc0 hc1 hl1 hl2)
    rw [g0] at HG
    clear g0
    have HM := Lib.hid hm
    have HINV := Lib.hid (oC_inv hm)
    have h1 := hm.n1; have h12 := hm.n12
    have HEN : Hid (a0.2.length = a0.1.length) := Lib.hid hm.ends
    have HEND := Lib.hid (fun (i : Nat) h1 h2 => oC_end hm (i := i) h1 h2)
    have HOAT := Lib.hid (fun (i : Nat) h1 h2 => @oC_at a0 i h1 h2)
    have HJAT := Lib.hid (fun (i : Nat) (s : Int) (j : Nat) hi hs h0 h1 hj => @oJ_at a0 hm i s hi hs h0 h1 j hj)
    have HRAT := Lib.hid (fun (s : Int) h0 h1 (j : Nat) hj => @rowC_at a0 hm s h0 h1 j hj)
    have HF0 := Lib.hid (FI.start hm)
    have HNN : Hid ((nC a0).length = a0.1.length) := Lib.hid (nw_length hm _)
    have HNB : Hid (∀ k, (Lit.int .i64 (clA (nC a0) k)).wf = true) := Lib.hid (fun k => WalkArith.wf_i64 (by have := nw_bd hm (rnd a0) k; unfold nC; omega))
    obtain ⟨⟨nA, gA, rfl, hnA, hnrA⟩, bA, fA, rfl, hbA, hrA⟩ := hM
    have HNA := Lib.hid hnrA; have HRA := Lib.hid hrA
    clear hnrA hrA hm
    generalize ordC a0 = T at *
    go_enter Try.func32, Try.ntmps32
    go_wp2_with fail
    refine (HG.out _ (box2_below HB0.out)).mono ?_
    rintro e w1 ⟨rfl, hb⟩
    have HB1 := Lib.hid (box2_step HB0.out hb); clear hb
    have ma : w1.cell? ⟨w.heap.size, 0, none⟩ = some (.slice (some ⟨nA, gA, none⟩) a0.1.length ecap) := box2_a HB1.out 0
    have mb : w1.cell? ⟨w.heap.size, 1, none⟩ = some (.slice (some ⟨bA, fA, none⟩) a0.2.length ecap') := box2_a HB1.out 1
    have hs1 : w.heap.size + 2 ≤ w1.heap.size := by have := HB1.out.size; simp at this; omega
    go_wp2_with fail
    refine (HCL.out _ (box2_below HB1.out) (by omega) ma mb).mono ?_
    rintro e w2 ⟨cv, rfl, hcv, hb⟩
    have hcv' : w2.ownsRow w1.heap.size 3 1 cv (nC a0).length (ints (nC a0)) := hcv
    rw [HNN.out] at hcv'
    obtain ⟨gc, cpc, rfl, hgc1, hgc2⟩ := hcv'.form (by omega)
    have HB2 := Lib.hid (box2_step HB1.out hb)
    have HCC : Hid (∀ wx, Below w2.heap.size w2 wx → ∀ k : Int, 0 ≤ k → k < (a0.1.length : Int) → wx.cell? ⟨gc, k.toNat, none⟩ = some (.int .i64 (clA (nC a0) k))) := Lib.hid (fun wx hbx k hk0 hk1 => below_later hbx (by
      rw [hcv'.cellAt k.toNat (by omega), ints_at _ _ (by rw [HNN.out]; omega)]; rfl))
    have hcaps := own_caps hcv'
    unfold maxLen at hcaps
    have c0 : w2.cell? ⟨gc, 0, none⟩ = some (.int .i64 (clA (nC a0) 0)) := HCC.out w2 (Below.refl _ _) 0 (Int.le_refl _) (by omega)
    have hs2 : w1.heap.size ≤ w2.heap.size := hb.size
    have HNW : Hid ((nw a0 (rnd a0)).length = a0.1.length) := Lib.hid HNN.out
    have hmm := @run_makeMap Try.prog
    have HM0 := Lib.hid (MapV.made (kt := 3) w2)
    clear hcv hcv' hb
    try rw [HNW.out]
    generalize hZ0 : clA (nC a0) 0 = z0 at *
    have hwz : (Lit.int .i64 z0).wf = true := by rw [← hZ0]; exact HNB.out 0
    have HKZ := Lib.hid (ky_int hwz)
    have HKL0 : Hid (kL a0 [0] = [.int .i64 z0]) := Lib.hid (by rw [← hZ0]; rfl)
    clear hZ0 hwz
    go_wp2_with (refine wpList_mapv_lit rfl _ _ _ rfl kt_int (b := w2.heap.size) rfl HM0.out rfl HKZ.out rfl ?_; intro w4 hm4 hg4)
    have hs4 : w2.heap.size + 1 ≤ w4.heap.size := by have := hg4.size; simpa using this
    have hb4 : Below w2.heap.size w2 w4 := Below.grown ((Below.refl _ _).alloc (Nat.le_refl _) _) hg4 (by simp) (fun j hj => by simp only [Option.some.injEq] at hj; omega)
    have HM5 : Hid (MapV 3 ((w4.alloc (.cells #[.int .i64 0] 3)).alloc (.cells #[.slice none 0 0, .slice none 0 0] 28)) w2.heap.size (kL a0 [0])) := Lib.hid (by
      rw [HKL0.out]
      exact hm4.later (((Below.refl _ _).alloc (Nat.le_refl _) _).alloc (by simp) _))
    have HO0 := Lib.hid (own_mono (own_later (own_oneL w4 3 (.int .i64 0)) (ralloc (Below.refl _ _) (.cells #[.slice none 0 0, .slice none 0 0] 28))) (Nat.zero_le _))
    have HBX : Hid (Below w2.heap.size w2 ((w4.alloc (.cells #[.int .i64 0] 3)).alloc (.cells #[.slice none 0 0, .slice none 0 0] 28))) := Lib.hid (((hb4.alloc (by omega) _)).alloc (by simp; omega) _)
    have co0 : ((w4.alloc (.cells #[.int .i64 0] 3)).alloc (.cells #[.slice none 0 0, .slice none 0 0] 28)).cell? ⟨w4.heap.size + 1, 0, none⟩ = some (.slice none 0 0) := by go_simp
    have co1 : ((w4.alloc (.cells #[.int .i64 0] 3)).alloc (.cells #[.slice none 0 0, .slice none 0 0] 28)).cell? ⟨w4.heap.size + 1, 1, none⟩ = some (.slice none 0 0) := by go_simp
    have zo0 : ((w4.alloc (.cells #[.int .i64 0] 3)).alloc (.cells #[.slice none 0 0, .slice none 0 0] 28)).frozen? ⟨w4.heap.size + 1, 0, none⟩ = false := by go_simp
    have zo1 : ((w4.alloc (.cells #[.int .i64 0] 3)).alloc (.cells #[.slice none 0 0, .slice none 0 0] 28)).frozen? ⟨w4.heap.size + 1, 1, none⟩ = false := by go_simp
    have hs5 : ((w4.alloc (.cells #[.int .i64 0] 3)).alloc (.cells #[.slice none 0 0, .slice none 0 0] 28)).heap.size = w4.heap.size + 2 := by simp
    clear hm4 hg4 hb4 HM0 hmm
    go_wp2_with fail
    generalize ((w4.alloc (.cells #[.int .i64 0] 3)).alloc (.cells #[.slice none 0 0, .slice none 0 0] 28)) = wa at *
    generalize w4.heap.size = G4 at *
    clear c0 ma mb
    go_loopw [7, 9] (fun fv iv wr => ∃ (i g cp : Nat) (F : List Int) (v1 v2 : Value) (fp1 fp2 : List Nat), i ≤ 12 ∧ i ≤ (oC a0 i).length ∧ iv = .int .i64 (i : Int) ∧ fv = .slice (some ⟨g, 0, none⟩) F.length cp ∧ (G4 ≤ g ∧ ¬ g = G4 + 1) ∧ Hid (FI a0 F (oC a0 i)) ∧ Hid (wr.ownsRow 0 3 1 (.slice (some ⟨g, 0, none⟩) F.length cp) F.length (ints F)) ∧ Hid (MapV 3 wr w2.heap.size (kL a0 F)) ∧ Hid (wr.cell? ⟨G4 + 1, 0, none⟩ = some v1 ∧ wr.cell? ⟨G4 + 1, 1, none⟩ = some v2 ∧ wr.frozen? ⟨G4 + 1, 0, none⟩ = false ∧ wr.frozen? ⟨G4 + 1, 1, none⟩ = false ∧ G4 + 2 ≤ wr.heap.size) ∧ Hid (Bd 42 kIntS (G4 + 2) fp1 wr v1 ((T.take i).map (rowC a0))) ∧ Hid (Bd 4 kBool (G4 + 2) fp2 wr v2 ((T.take i).map (endI a0))) ∧ Hid (∀ b ∈ fp1, b ∉ fp2) ∧ Hid (g ∉ fp1 ∧ g ∉ fp2) ∧ Hid (Below w2.heap.size w2 wr)) (fun _ iv _ => 12 - (intOf iv).toNat)
    case atStart => exact ⟨0, G4, 1, [0], _, _, [], [], by omega, by omega, rfl, rfl, ⟨by omega, by omega⟩, HF0, HO0, HM5, Lib.hid ⟨co0, co1, zo0, zo1, by omega⟩, Lib.hid (by rw [List.take_zero]; exact Bd.nil _), Lib.hid (by rw [List.take_zero]; exact Bd.nil _), Lib.hid (by simp), Lib.hid (by simp), HBX⟩
    case round =>
      clear HO0 HM5 HBX co0 co1 zo0 zo1 HF0
      obtain ⟨w5, rfl⟩ : ∃ z : World, z = wr := ⟨_, rfl⟩
      obtain ⟨i, g, cp, F, v1, v2, fp1, fp2, hi12, hil, rfl, rfl, ⟨hg1, hg2⟩, HFI, HO, HMP, HCE, BD1, BD2, DIS, DIG, HBR⟩ := hrel
      have hinv := HINV.out i
      have hle := hinv.len
      have hfl := HFI.out.len
      obtain ⟨co0, co1, zo0, zo1, hlo⟩ := HCE.out
      have HBW : Hid (Below w.heap.size w w5) := Lib.hid ((box2_below HB2.out).trans (HBR.out.mono (by omega)))
      by_cases hlt : i < (oC a0 i).length
      case neg =>
        have hE := HEND.out i hi12 (by omega)
        have hq1 : (T.take i).map (rowC a0) = T.map (rowC a0) := by rw [List.take_of_length_le (by rw [hE]; omega)]
        have hq2 : (T.take i).map (endI a0) = T.map (endI a0) := by rw [List.take_of_length_le (by rw [hE]; omega)]
        rw [hq1] at BD1; rw [hq2] at BD2
        obtain ⟨a1, c1, hv1⟩ := BD1.out.form
        obtain ⟨a2, c2, hv2⟩ := BD2.out.form
        rw [List.length_map] at hv1 hv2
        subst hv1 hv2
        have k0 : w5.cell? ⟨w.heap.size + 1, 0, none⟩ = some (.slice none 0 0) := below_later HBR.out (box2_b HB2.out 0)
        have k1 : w5.cell? ⟨w.heap.size + 1, 1, none⟩ = some (.slice none 0 0) := below_later HBR.out (box2_b HB2.out 1)
        have z0 : w5.frozen? ⟨w.heap.size + 1, 0, none⟩ = false := (HBR.out.frozen (p := ⟨w.heap.size + 1, 0, none⟩) (by show w.heap.size + 1 < w2.heap.size; omega)).trans ((HB2.out.frozen (p := ⟨w.heap.size + 1, 0, none⟩) (by simp)).trans (by go_simp))
        have z1 : w5.frozen? ⟨w.heap.size + 1, 1, none⟩ = false := (HBR.out.frozen (p := ⟨w.heap.size + 1, 1, none⟩) (by show w.heap.size + 1 < w2.heap.size; omega)).trans ((HB2.out.frozen (p := ⟨w.heap.size + 1, 1, none⟩) (by simp)).trans (by go_simp))
        have hni : ¬ (i : Int) < (F.length : Int) := by omega
        clear hq1 hq2 hE hinv hil hfl
        go_wp2_with fail
        refine bodyPost_ret (v := .tuple #[.agg #[.slice a1 T.length c1, .slice a2 T.length c2], .bool true]) (by simp [results, Try.results32, go_sem, k0, k1]) rfl ?_
        have b1 := BD1.out; have b2 := BD2.out
        have c1' := (b1.setCell kIntS_ok (a := ⟨w.heap.size + 1, 0, none⟩) (by show w.heap.size + 1 < G4 + 2; omega) (.slice a1 T.length c1)).setCell kIntS_ok (a := ⟨w.heap.size + 1, 1, none⟩) (by show w.heap.size + 1 < G4 + 2; omega) (.slice a2 T.length c2)
        have c2' := (b2.setCell kBool_ok (a := ⟨w.heap.size + 1, 0, none⟩) (by show w.heap.size + 1 < G4 + 2; omega) (.slice a1 T.length c1)).setCell kBool_ok (a := ⟨w.heap.size + 1, 1, none⟩) (by show w.heap.size + 1 < G4 + 2; omega) (.slice a2 T.length c2)
        refine ⟨[.slice a1 T.length c1, .slice a2 T.length c2], fp1 ++ fp2, rfl, ⟨fp1, fp2, [_], [_], rfl, rfl, c1'.ow, c2'.ow⟩, List.nodup_append.2 ⟨b1.nodup, b2.nodup, fun x hx y hy hxy => DIS.out x hx (by rw [hxy]; exact hy)⟩, ?_, ?_⟩
        · intro b hb
          rcases List.mem_append.1 hb with hb | hb
          · have := b1.ge b hb; omega
          · have := b2.ge b hb; omega
        · exact (HBW.out.setCell (p := ⟨w.heap.size + 1, 0, none⟩) (by show w.heap.size ≤ w.heap.size + 1; omega) _).setCell (p := ⟨w.heap.size + 1, 1, none⟩) (by show w.heap.size ≤ w.heap.size + 1; omega) _
      obtain ⟨f, hf, hfs, hf0, hf1⟩ := HFI.out.get hlt
      obtain ⟨s, hs⟩ : ∃ s, (oC a0 i).getD i 0 = s := ⟨_, rfl⟩
      rw [hs] at hfs
      have hsi : (oC a0 i)[i]? = some s := by rw [← hs]; simp [List.getD, hlt]
      obtain ⟨hs0, hs1'⟩ := hinv.rg s (List.mem_of_getElem? hsi)
      have hsame := cls_same HM.out hf0 hf1
      rw [hfs] at hsame
      have hi11 : i < 12 := by omega
      have HSO : Hid (T[i]? = some s) := Lib.hid (by rw [HOAT.out i hlt hi12, hs])
      have HNX : Hid (oC a0 (i + 1) = oJ a0 s (oC a0 i) 3) := Lib.hid (by rw [oC_next hlt, hs, oJ_full HM.out hs0 hs1'])
      have HEF : Hid (endI a0 s = endI a0 f) := Lib.hid hsame.2.2.2
      have HGF : Hid (∀ j, j < 3 → clA (clsR a0) (goI a0 s j) = clA (clsR a0) (goI a0 f j)) := Lib.hid (fun j hj => hsame.2.2.1 j hj)
      have HAT := Lib.hid (fun (j : Nat) (hj : j < 3) => HJAT.out i s j hlt hs hs0 hs1' hj)
      have HJI := Lib.hid (fun (j : Nat) => oJ_inv HM.out hs0 hs1' hinv j)
      have HJY := Lib.hid (fun (j : Nat) (hj : j < 3) => @oJ_yes a0 HM.out s hs0 hs1' (oC a0 i) j hj)
      have HJN := Lib.hid (fun (j : Nat) (hj : j < 3) => @oJ_no a0 HM.out s hs0 hs1' (oC a0 i) j hj)
      have HGI := Lib.hid (fun (j : Nat) (hj : j < 3) => goI_in HM.out hf0 hf1 hj)
      have HRL := Lib.hid (rowC_len HM.out hs0 hs1'); have HRA2 := Lib.hid (fun (j : Nat) (hj : j < 3) => HRAT.out s hs0 hs1' j hj)
      have HRF := Lib.hid (rowC_wf HM.out s)
      have HN1 : Hid (i + 1 ≤ (oC a0 (i + 1)).length) := Lib.hid (by have := (oC_pre (m := a0) i).length_le; omega)
      obtain ⟨b2, f2, c2, hcA, hb2, hd1, hd2, heA⟩ := HNA.out f hf0 hf1
      have HOZ : Hid (oJ a0 s (oC a0 i) 0 = oC a0 i) := Lib.hid (oJ_zero a0 s _)
      have hfi : i < F.length := by omega
      have hF12 : F.length ≤ 12 := by omega
      have hii : (i : Int) < (F.length : Int) := by omega
      have hii0 : (0 : Int) ≤ (i : Int) := Int.natCast_nonneg _
      have HXA := Lib.hid (fun k hk => below_cellk HBW.out (heA k hk) hb2)
      have HFL : Hid (F[i]? = some f) := Lib.hid hf
      have mo5 : w5.cell? ⟨g, i, none⟩ = some (.int .i64 f) := by rw [HO.out.cellAt i (by omega), ints_at _ _ hfi]; simp [List.getD, hf]
      have hcA5 := below_cellk HBW.out hcA hnA
      have hmk5 : w5.cell? ⟨w.heap.size, 0, none⟩ = some (.slice (some ⟨nA, gA, none⟩) a0.1.length ecap) := below_later HBR.out (box2_a HB2.out 0)
      have hgl5 : g < w5.heap.size := (HO.out.lt g rfl).2
      clear hinv hcA heA hsame hf hfl
      generalize hOE : oC a0 i = o at *
      have HOE := Lib.hid hOE
      clear hOE
      go_wp2_with (at_make; refine wpList_make_full _ rfl _ _ _ rfl w5.heap.size 3 i0 (.int .i64 0) 1 Try.underlying42 hi hz0 hz1 .i64 .i64 3 3 3 rfl rfl rfl rfl (by rw [hz2]; omega) (by unfold maxLen; omega) (Nat.le_refl _) ?_; intro w6 hown hgrow)
      have hb6 : Below w5.heap.size w5 w6 := Below.grown (Below.refl _ _) hgrow (Nat.le_refl _) (fun j hj => by cases hj)
      have HNR : Hid (w6.ownsRow w5.heap.size 3 1 (.slice (some ⟨w5.heap.size, 0, none⟩) 3 3) 3 (fill (ints (rowC a0 s)) (.int .i64 0) 0)) := Lib.hid (made_intsL 3 (rowC a0 s) HRL.out ▸ hown)
      have hs6 : w5.heap.size + 1 ≤ w6.heap.size := by have := (HNR.out.lt w5.heap.size rfl).2; omega
      have ma := below_later hb6 hmk5; have mo := below_later hb6 mo5; have mr := below_later hb6 hcA5
      have HOY : Hid (w6.ownsRow 0 3 1 (.slice (some ⟨g, 0, none⟩) F.length cp) F.length (ints F)) := Lib.hid (own_later HO.out hb6)
      have HMY : Hid (MapV 3 w6 w2.heap.size (kL a0 F)) := Lib.hid (HMP.out.later hb6)
      have HWY : Hid (Wrote (fun k => k = g ∨ k = w2.heap.size ∨ w5.heap.size ≤ k) w5 w6) := Lib.hid (Wrote.of_below hb6)
      clear hown hgrow hb6 hmk5 mo5 hcA5
      go_wp2_with fail
      go_quiet (fail)
      go_wp2_with fail
      go_loopw [7, 46] (fun fv jv wr => ∃ (j g' cp' : Nat) (F' : List Int), j ≤ 3 ∧ jv = .int .i64 (j : Int) ∧ fv = .slice (some ⟨g', 0, none⟩) F'.length cp' ∧ (g' = g ∨ w5.heap.size < g') ∧ Hid (FI a0 F' (oJ a0 s o j)) ∧ Hid (F'[i]? = some f) ∧ Hid (wr.ownsRow 0 3 1 (.slice (some ⟨g', 0, none⟩) F'.length cp') F'.length (ints F')) ∧ Hid (MapV 3 wr w2.heap.size (kL a0 F')) ∧ Hid (wr.ownsRow w5.heap.size 3 1 (.slice (some ⟨w5.heap.size, 0, none⟩) 3 3) 3 (fill (ints (rowC a0 s)) (.int .i64 0) j)) ∧ Hid (Wrote (fun k => k = g ∨ k = w2.heap.size ∨ w5.heap.size ≤ k) w5 wr)) (fun _ jv _ => 3 - (intOf jv).toNat)
      case atStart => exact ⟨0, g, cp, F, by omega, rfl, rfl, .inl rfl, Lib.hid (by rw [HOZ.out]; exact HFI.out), HFL, Lib.hid (own_later HOY.out (rdrew (Below.refl _ _) _)), Lib.hid (HMY.out.later (rdrew (Below.refl _ _) _)), Lib.hid (own_later HNR.out (rdrew (Below.refl _ _) _)), Lib.hid (HWY.out.drewN _)⟩
      case round =>
        clear HNR HOY HMY HWY ma mo mr
        obtain ⟨w7, rfl⟩ : ∃ z : World, z = wr := ⟨_, rfl⟩
        obtain ⟨j, g', cp', F', hj, rfl, rfl, hgg, HFJ, HFF, HO6, HM6, HNR, HWR⟩ := hrel
        have hs7 : w5.heap.size + 1 ≤ w7.heap.size := by have := (HNR.out.lt w5.heap.size rfl).2; omega
        by_cases hj3 : j < 3
        case neg =>
          obtain rfl : j = 3 := by omega
          have hfull : fill (ints (rowC a0 s)) (.int .i64 0) 3 = ints (rowC a0 s) := by
            have h := fill_full (ints (rowC a0 s)) (.int .i64 0)
            rw [ints_length, HRL.out] at h; exact h
          rw [hfull] at HNR
          clear hfull
          have lo0 := HWR.out.cell co0 (by rintro (h | h | h) <;> omega); have lo1 := HWR.out.cell co1 (by rintro (h | h | h) <;> omega)
          have lz0 : w7.frozen? ⟨G4 + 1, 0, none⟩ = false := (World.frozen?_of_block (HWR.out.block (G4 + 1) (by omega) (by rintro (h | h | h) <;> omega))).trans zo0
          have lz1 : w7.frozen? ⟨G4 + 1, 1, none⟩ = false := (World.frozen?_of_block (HWR.out.block (G4 + 1) (by omega) (by rintro (h | h | h) <;> omega))).trans zo1
          have BDl1 := Lib.hid (BD1.out.frame kIntS_ok (w' := w7) (fun b hb => HWR.out.block b (BD1.out.lt kIntS_ok b hb) (by rintro (h | h | h); exact DIG.out.1 (h ▸ hb); have := BD1.out.ge b hb; omega; have := BD1.out.lt kIntS_ok b hb; omega)))
          have BDl2 := Lib.hid (BD2.out.frame kBool_ok (w' := w7) (fun b hb => HWR.out.block b (BD2.out.lt kBool_ok b hb) (by rintro (h | h | h); exact DIG.out.2 (h ▸ hb); have := BD2.out.ge b hb; omega; have := BD2.out.lt kBool_ok b hb; omega)))
          have HB7 : Hid (Below w2.heap.size w2 w7) := Lib.hid (HBR.out.trans (HWR.out.below (by omega) (by rintro k (h | h | h) <;> omega)))
          have HBB := Lib.hid (Below.refl (G4 + 1) w7)
          have hl7 : G4 + 2 ≤ w7.heap.size := by omega
          have OWQ : Hid (kIntS.ow [w5.heap.size] w7 [.slice (some ⟨w5.heap.size, 0, none⟩) 3 3] (rowC a0 s)) := Lib.hid (ints_own (base := w5.heap.size) (by rw [HRL.out]; exact HNR.out) HRF.out)
          have OWO : Hid (kIntS.ow [g'] w7 [.slice (some ⟨g', 0, none⟩) F'.length cp'] F') := Lib.hid (ints_own HO6.out (small_wf (n := a0.1.length) (by omega) HFJ.out.2))
          have DQ1 : Hid (∀ b ∈ [w5.heap.size], b ∉ fp1) := Lib.hid (by intro b hb hm; simp only [List.mem_singleton] at hb; subst hb; have := BD1.out.lt kIntS_ok _ hm; omega)
          have DQ2 : Hid (∀ b ∈ [w5.heap.size], b ∉ fp2) := Lib.hid (by intro b hb hm; simp only [List.mem_singleton] at hb; subst hb; have := BD2.out.lt kBool_ok _ hm; omega)
          have DG1 : Hid (∀ b ∈ [g'], b ∉ fp1) := Lib.hid (by intro b hb hm; simp only [List.mem_singleton] at hb; subst hb; rcases hgg with h | h; exact DIG.out.1 (h ▸ hm); have := BD1.out.lt kIntS_ok _ hm; omega)
          have DG2 : Hid (∀ b ∈ [g'], b ∉ fp2) := Lib.hid (by intro b hb hm; simp only [List.mem_singleton] at hb; subst hb; rcases hgg with h | h; exact DIG.out.2 (h ▸ hm); have := BD2.out.lt kBool_ok _ hm; omega)
          have DQG : Hid (∀ b ∈ [w5.heap.size], b ∉ [g']) := Lib.hid (by intro b hb hm; simp only [List.mem_singleton] at hb hm; rcases hgg with h | h <;> omega)
          have hgb : ¬ g' = G4 + 1 := by rcases hgg with h | h <;> omega
          have hgb1 : G4 ≤ g' := by rcases hgg with h | h <;> omega
          have HT1 : Hid ((T.take i).map (rowC a0) ++ [rowC a0 s] = (T.take (i + 1)).map (rowC a0)) := Lib.hid (by rw [take_next _ i _ HSO.out, List.map_append]; rfl)
          have HT2 : Hid ((T.take i).map (endI a0) ++ [endI a0 f] = (T.take (i + 1)).map (endI a0)) := Lib.hid (by rw [take_next _ i _ HSO.out, List.map_append, ← HEF.out]; rfl)
          have hoil : i < T.length := (List.getElem?_eq_some_iff.1 HSO.out).1
          have HLT1 : Hid (((T.take i).map (rowC a0)).length = i) := Lib.hid (by simp; omega)
          have HLT2 : Hid (((T.take i).map (endI a0)).length = i) := Lib.hid (by simp; omega)
          have HC3 : Hid (i + 1 ≤ maxLen) := Lib.hid (by unfold maxLen; omega)
          have HC4 : Hid ((i + 1) * 24 ≤ 140737488355328) := Lib.hid (by omega)
          have HC6 : Hid ((i + 1) * 1 ≤ 140737488355328) := Lib.hid (by omega)
          have hpl := (List.getElem?_eq_some_iff.1 HFF.out).1
          have loc : w7.cell? ⟨g', i, none⟩ = some (.int .i64 f) := by
            rw [HO6.out.cellAt i (by omega), ints_at _ _ hpl]; have := HFF.out; simp [List.getD, this]
          have l1 := HWR.out.cell (below_later HBR.out (box2_a HB2.out 1)) (by rintro (h | h | h) <;> omega)
          have l2 := HWR.out.cell (below_cellk HBW.out (HRA.out f hf0 hf1) hbA) (by rintro (h | h | h) <;> omega)
          have hs2' : f < (a0.2.length : Int) := by have := HEN.out; omega
          have hpl2 : (i : Int) < (F'.length : Int) := by omega
          have hn3 : ¬ ((3 : Nat) : Int) < 3 := by omega
          clear co0 co1 zo0 zo1 HXA
          generalize endI a0 f = es at *
          generalize hN5 : w5.heap.size = N at *
          clear hN5
          go_wp2_with fail
          have hb_1 : Below w7.heap.size w7 w7.drew := (Below.refl _ _).drew
          have hz_2 : w7.heap.size ≤ w7.heap.size := by have := (hb_1).size; first | omega | (simp at this; omega)
          have c_3 : w7.drew.cell? ⟨(G4 + 1), 0, none⟩ = some (v1) := below_later hb_1 lo0
          have c_4 : w7.drew.cell? ⟨(G4 + 1), 1, none⟩ = some (v2) := below_later hb_1 lo1
          have z_5 : w7.drew.frozen? ⟨(G4 + 1), 0, none⟩ = false := (Below.frozen hb_1 (p := ⟨(G4 + 1), 0, none⟩) (by show (G4 + 1) < _; first | omega | (simp; done) | (simp; omega))).trans lz0
          have z_6 : w7.drew.frozen? ⟨(G4 + 1), 1, none⟩ = false := (Below.frozen hb_1 (p := ⟨(G4 + 1), 1, none⟩) (by show (G4 + 1) < _; first | omega | (simp; done) | (simp; omega))).trans lz1
          have c_7 : w7.drew.cell? ⟨w.heap.size, 1, none⟩ = some (.slice (some ⟨bA, fA, none⟩) a0.2.length ecap') := below_later hb_1 l1
          have c_8 : w7.drew.cell? ⟨bA, fA + f.toNat, none⟩ = some (.bool es) := below_later hb_1 l2
          have c_9 : w7.drew.cell? ⟨g', i, none⟩ = some (.int .i64 f) := below_later hb_1 loc
          have hz_10 : G4 + 2 ≤ w7.heap.size := Nat.le_trans hl7 hz_2
          have BD_11 := Lib.hid (BDl1.out.later kIntS_ok hb_1)
          have BD_12 := Lib.hid (BDl2.out.later kBool_ok hb_1)
          have OW_13 := Lib.hid (kIntS_ok.oframe OWQ.out (w' := w7.drew) fun b hm => (hb_1).block b (kIntS_ok.olt OWQ.out b hm))
          have OW_14 := Lib.hid (kIntS_ok.oframe OWO.out (w' := w7.drew) fun b hm => (hb_1).block b (kIntS_ok.olt OWO.out b hm))
          have BL_15 := Lib.hid (Below.trans HB7.out (Below.mono hb_1 (by have := (HB7.out).size; first | omega | (simp at this; omega) | (simp at this ⊢; omega))))
          have BL_16 := Lib.hid (Below.trans HBB.out (Below.mono hb_1 (by have := (HBB.out).size; first | omega | (simp at this; omega) | (simp at this ⊢; omega))))
          clear hb_1
          refine wp_region_G [16] (fun w' => w'.cell? ⟨(G4 + 1), 0, none⟩ = some (v1) ∧ w'.cell? ⟨(G4 + 1), 1, none⟩ = some (v2) ∧ w'.cell? ⟨w.heap.size, 1, none⟩ = some (.slice (some ⟨bA, fA, none⟩) a0.2.length ecap') ∧ w'.cell? ⟨g', i, none⟩ = some (.int .i64 f) ∧ w'.cell? ⟨bA, fA + f.toNat, none⟩ = some (.bool es)) (by kernel_rfl) ?_ (fun hHeld => ?_)
          · exact ⟨c_3, c_4, c_7, c_9, c_8⟩
          refine wpG_pure (i := 0) (oi := { dst := some 79, op := Go.Op.fieldAddr 28 (Go.Operand.tmp 8) 0, type := 0, pos := "l12_machine.go:132", after := #[], guard := none }) (v := ?vg1) rfl (by kernel_rfl) (fun _ _ _ h => h) (Or.inr hHeld) (Or.inl ⟨by rfl, ?yg1⟩) ?_
          case yg1 => (intro wS _; go_simp <;> with_reducible rfl)
          try simp only [Act.put, List.setIfInBounds_toArray, List.set_cons_zero, List.set_cons_succ]
          refine wpG_load (i := 1) (oi := { dst := some 80, op := Go.Op.load 22 (Go.Operand.tmp 79), type := 22, pos := "l12_machine.go:132", after := #[{ on := 0, ground := Go.Ground.data }], guard := none }) (v := ?vg2) [[16, 4, 1]] rfl (by kernel_rfl) (fun _ _ _ h => h) hHeld (Or.inl ⟨by rfl, ?yg2⟩) ?_
          case yg2 => (intro wS hSw; (try dsimp only at hSw); go_simp <;> with_reducible rfl)
          try simp only [Act.put, List.setIfInBounds_toArray, List.set_cons_zero, List.set_cons_succ]
          refine wpG_pure (i := 2) (oi := { dst := some 81, op := Go.Op.move (Go.Operand.tmp 10), type := 42, pos := "l12_machine.go:132", after := #[], guard := none }) (v := ?vg3) rfl (by kernel_rfl) (fun _ _ _ h => h) (Or.inr hHeld) (Or.inl ⟨by rfl, ?yg3⟩) ?_
          case yg3 => (intro wS _; go_simp <;> with_reducible rfl)
          try simp only [Act.put, List.setIfInBounds_toArray, List.set_cons_zero, List.set_cons_succ]
          refine wpG_pure (i := 5) (oi := { dst := some 84, op := Go.Op.fieldAddr 28 (Go.Operand.tmp 8) 1, type := 0, pos := "l12_machine.go:132", after := #[], guard := none }) (v := ?vg4) rfl (by kernel_rfl) (fun _ _ _ h => h) (Or.inr hHeld) (Or.inl ⟨by rfl, ?yg4⟩) ?_
          case yg4 => (intro wS _; go_simp <;> with_reducible rfl)
          try simp only [Act.put, List.setIfInBounds_toArray, List.set_cons_zero, List.set_cons_succ]
          refine wpG_load (i := 6) (oi := { dst := some 85, op := Go.Op.load 23 (Go.Operand.tmp 84), type := 23, pos := "l12_machine.go:132", after := #[{ on := 5, ground := Go.Ground.data }], guard := none }) (v := ?vg5) [[16, 6]] rfl (by kernel_rfl) (fun _ _ _ h => h) hHeld (Or.inl ⟨by rfl, ?yg5⟩) ?_
          case yg5 => (intro wS hSw; (try dsimp only at hSw); go_simp <;> with_reducible rfl)
          try simp only [Act.put, List.setIfInBounds_toArray, List.set_cons_zero, List.set_cons_succ]
          refine wpG_pure (i := 7) (oi := { dst := some 86, op := Go.Op.fieldAddr 28 (Go.Operand.tmp 1) 1, type := 0, pos := "l12_machine.go:132", after := #[], guard := none }) (v := ?vg6) rfl (by kernel_rfl) (fun _ _ _ h => h) (Or.inr hHeld) (Or.inl ⟨by rfl, ?yg6⟩) ?_
          case yg6 => (intro wS _; go_simp <;> with_reducible rfl)
          try simp only [Act.put, List.setIfInBounds_toArray, List.set_cons_zero, List.set_cons_succ]
          refine wpG_load (i := 8) (oi := { dst := some 87, op := Go.Op.load 23 (Go.Operand.tmp 86), type := 23, pos := "l12_machine.go:132", after := #[{ on := 7, ground := Go.Ground.data }], guard := none }) (v := ?vg7) [[16, 15, 14, 13, 8]] rfl (by kernel_rfl) (fun _ _ _ h => h) hHeld (Or.inl ⟨by rfl, ?yg7⟩) ?_
          case yg7 => (intro wS hSw; (try dsimp only at hSw); go_simp <;> with_reducible rfl)
          try simp only [Act.put, List.setIfInBounds_toArray, List.set_cons_zero, List.set_cons_succ]
          refine wpG_pure (i := 9) (oi := { dst := some 88, op := Go.Op.move (Go.Operand.tmp 7), type := 42, pos := "l12_machine.go:132", after := #[], guard := none }) (v := ?vg8) rfl (by kernel_rfl) (fun _ _ _ h => h) (Or.inr hHeld) (Or.inl ⟨by rfl, ?yg8⟩) ?_
          case yg8 => (intro wS _; go_simp <;> with_reducible rfl)
          try simp only [Act.put, List.setIfInBounds_toArray, List.set_cons_zero, List.set_cons_succ]
          refine wpG_pure (i := 10) (oi := { dst := some 89, op := Go.Op.move (Go.Operand.tmp 9), type := 3, pos := "l12_machine.go:132", after := #[], guard := none }) (v := ?vg9) rfl (by kernel_rfl) (fun _ _ _ h => h) (Or.inr hHeld) (Or.inl ⟨by rfl, ?yg9⟩) ?_
          case yg9 => (intro wS _; go_simp <;> with_reducible rfl)
          try simp only [Act.put, List.setIfInBounds_toArray, List.set_cons_zero, List.set_cons_succ]
          refine wpG_pure (i := 11) (oi := { dst := some 90, op := Go.Op.indexAddr 42 (Go.Operand.tmp 88) (Go.Operand.tmp 89), type := 0, pos := "l12_machine.go:132", after := #[{ on := 9, ground := Go.Ground.data }, { on := 10, ground := Go.Ground.data }], guard := none }) (v := ?vg10) rfl (by kernel_rfl) (fun _ _ _ h => h) (Or.inr hHeld) (Or.inl ⟨by rfl, ?yg10⟩) ?_
          case yg10 => (intro wS _; go_simp <;> with_reducible rfl)
          try simp only [Act.put, List.setIfInBounds_toArray, List.set_cons_zero, List.set_cons_succ]
          refine wpG_load (i := 12) (oi := { dst := some 91, op := Go.Op.load 3 (Go.Operand.tmp 90), type := 3, pos := "l12_machine.go:132", after := #[{ on := 11, ground := Go.Ground.data }], guard := none }) (v := ?vg11) [[16, 15, 14, 13, 12]] rfl (by kernel_rfl) (fun _ _ _ h => h) hHeld (Or.inl ⟨by rfl, ?yg11⟩) ?_
          case yg11 => (intro wS hSw; (try dsimp only at hSw); go_simp <;> with_reducible rfl)
          try simp only [Act.put, List.setIfInBounds_toArray, List.set_cons_zero, List.set_cons_succ]
          refine wpG_pure (i := 13) (oi := { dst := some 92, op := Go.Op.indexAddr 23 (Go.Operand.tmp 87) (Go.Operand.tmp 91), type := 0, pos := "l12_machine.go:132", after := #[{ on := 8, ground := Go.Ground.data }, { on := 12, ground := Go.Ground.data }], guard := none }) (v := ?vg12) rfl (by kernel_rfl) (fun _ _ _ h => h) (Or.inr hHeld) (Or.inl ⟨by rfl, ?yg12⟩) ?_
          case yg12 => (intro wS _; go_simp <;> with_reducible rfl)
          try simp only [Act.put, List.setIfInBounds_toArray, List.set_cons_zero, List.set_cons_succ]
          refine wpG_load (i := 14) (oi := { dst := some 93, op := Go.Op.load 4 (Go.Operand.tmp 92), type := 4, pos := "l12_machine.go:132", after := #[{ on := 13, ground := Go.Ground.data }], guard := none }) (v := ?vg13) [[16, 15, 14]] rfl (by kernel_rfl) (fun _ _ _ h => h) hHeld (Or.inl ⟨by rfl, ?yg13⟩) ?_
          case yg13 => (intro wS hSw; (try dsimp only at hSw); go_simp <;> with_reducible rfl)
          try simp only [Act.put, List.setIfInBounds_toArray, List.set_cons_zero, List.set_cons_succ]
          refine wpG_two (i := 3) (j := 15) (o := { dst := some 82, op := Go.Op.buildSlice 22 1 #[(0, Go.Operand.tmp 81)], type := 22, pos := "l12_machine.go:132", after := #[{ on := 2, ground := Go.Ground.data }], guard := none }) (o' := { dst := some 94, op := Go.Op.buildSlice 23 1 #[(0, Go.Operand.tmp 93)], type := 23, pos := "l12_machine.go:132", after := #[{ on := 14, ground := Go.Ground.data }], guard := none }) rfl rfl (by kernel_rfl) (fun K hK => ?_) (fun K hK => ?_)
          · skip
            go_simp
            have LT_17 : Hid (∀ b ∈ fp1, b < w7.heap.size) := Lib.hid (fun b hm => by have := (BD_11.out.lt kIntS_ok b hm); first | exact this | omega | (simp at this; omega))
            have LT_18 : Hid (∀ b ∈ fp2, b < w7.heap.size) := Lib.hid (fun b hm => by have := (BD_12.out.lt kBool_ok b hm); first | exact this | omega | (simp at this; omega))
            have LT_19 : Hid (∀ b ∈ [N], b < w7.heap.size) := Lib.hid (fun b hm => by have := (kIntS_ok.olt OW_13.out b hm); first | exact this | omega | (simp at this; omega))
            have LT_20 : Hid (∀ b ∈ [g'], b < w7.heap.size) := Lib.hid (fun b hm => by have := (kIntS_ok.olt OW_14.out b hm); first | exact this | omega | (simp at this; omega))
            have hb_21 : Below w7.drew.heap.size w7.drew (w7.alloc (.cells #[.slice (some ⟨N, 0, none⟩) 3 3] 42)).drew := below_alloc_drew _ _
            have hz_22 : w7.heap.size ≤ w7.heap.size + 1 := by have := (hb_21).size; first | omega | (simp at this; omega)
            have c_23 : (w7.alloc (.cells #[.slice (some ⟨N, 0, none⟩) 3 3] 42)).drew.cell? ⟨(G4 + 1), 0, none⟩ = some (v1) := below_later hb_21 c_3; clear c_3
            have c_24 : (w7.alloc (.cells #[.slice (some ⟨N, 0, none⟩) 3 3] 42)).drew.cell? ⟨(G4 + 1), 1, none⟩ = some (v2) := below_later hb_21 c_4; clear c_4
            have z_25 : (w7.alloc (.cells #[.slice (some ⟨N, 0, none⟩) 3 3] 42)).drew.frozen? ⟨(G4 + 1), 0, none⟩ = false := (Below.frozen hb_21 (p := ⟨(G4 + 1), 0, none⟩) (by show (G4 + 1) < _; first | omega | (simp; done) | (simp; omega))).trans z_5
            have z_26 : (w7.alloc (.cells #[.slice (some ⟨N, 0, none⟩) 3 3] 42)).drew.frozen? ⟨(G4 + 1), 1, none⟩ = false := (Below.frozen hb_21 (p := ⟨(G4 + 1), 1, none⟩) (by show (G4 + 1) < _; first | omega | (simp; done) | (simp; omega))).trans z_6
            have c_27 : (w7.alloc (.cells #[.slice (some ⟨N, 0, none⟩) 3 3] 42)).drew.cell? ⟨w.heap.size, 1, none⟩ = some (.slice (some ⟨bA, fA, none⟩) a0.2.length ecap') := below_later hb_21 c_7; clear c_7
            have c_28 : (w7.alloc (.cells #[.slice (some ⟨N, 0, none⟩) 3 3] 42)).drew.cell? ⟨bA, fA + f.toNat, none⟩ = some (.bool es) := below_later hb_21 c_8; clear c_8
            have c_29 : (w7.alloc (.cells #[.slice (some ⟨N, 0, none⟩) 3 3] 42)).drew.cell? ⟨g', i, none⟩ = some (.int .i64 f) := below_later hb_21 c_9; clear c_9
            have hz_30 : G4 + 2 ≤ w7.heap.size + 1 := Nat.le_trans hz_10 hz_22
            have BD_31 := Lib.hid (BD_11.out.later kIntS_ok hb_21)
            have BD_32 := Lib.hid (BD_12.out.later kBool_ok hb_21)
            have OW_33 := Lib.hid (kIntS_ok.oframe OW_13.out (w' := (w7.alloc (.cells #[.slice (some ⟨N, 0, none⟩) 3 3] 42)).drew) fun b hm => (hb_21).block b (kIntS_ok.olt OW_13.out b hm))
            have OW_34 := Lib.hid (kIntS_ok.oframe OW_14.out (w' := (w7.alloc (.cells #[.slice (some ⟨N, 0, none⟩) 3 3] 42)).drew) fun b hm => (hb_21).block b (kIntS_ok.olt OW_14.out b hm))
            have BL_35 := Lib.hid (Below.trans BL_15.out (Below.mono hb_21 (by have := (BL_15.out).size; first | omega | (simp at this; omega) | (simp at this ⊢; omega))))
            have BL_36 := Lib.hid (Below.trans BL_16.out (Below.mono hb_21 (by have := (BL_16.out).size; first | omega | (simp at this; omega) | (simp at this ⊢; omega))))
            clear hb_21
            have c_37 : (w7.alloc (.cells #[.slice (some ⟨N, 0, none⟩) 3 3] 42)).drew.cell? ⟨w7.heap.size, 0, none⟩ = some (.slice (some ⟨N, 0, none⟩) 3 3) := by go_simp
            have z_38 : (w7.alloc (.cells #[.slice (some ⟨N, 0, none⟩) 3 3] 42)).drew.frozen? ⟨w7.heap.size, 0, none⟩ = false := by go_simp
            have hz_39 : w7.heap.size < w7.heap.size + 1 := by omega
            have ND_40 : Hid (∀ b ∈ [w7.heap.size], b ∉ fp1) := Lib.hid (by intro b hb hm; simp only [List.mem_singleton] at hb; subst hb; have := (LT_17.out _ hm); first | omega | (simp at this; omega))
            have ND_41 : Hid (∀ b ∈ [w7.heap.size], b ∉ fp2) := Lib.hid (by intro b hb hm; simp only [List.mem_singleton] at hb; subst hb; have := (LT_18.out _ hm); first | omega | (simp at this; omega))
            have ND_42 : Hid (∀ b ∈ [w7.heap.size], b ∉ [N]) := Lib.hid (by intro b hb hm; simp only [List.mem_singleton] at hb; subst hb; have := (LT_19.out _ hm); first | omega | (simp at this; omega))
            have ND_43 : Hid (∀ b ∈ [w7.heap.size], b ∉ [g']) := Lib.hid (by intro b hb hm; simp only [List.mem_singleton] at hb; subst hb; have := (LT_20.out _ hm); first | omega | (simp at this; omega))
            refine hK.out _ _ (Or.inr ?khHeld14) (fun hHeld14S => ?_)
            case khHeld14 => exact ⟨c_23, c_24, c_27, c_29, c_28⟩
            have hHeld14 := hHeld14S.held (by kernel_rfl)
            clear hK K
            try simp only [Act.put, List.setIfInBounds_toArray, List.set_cons_zero, List.set_cons_succ]
            refine wpG_two (i := 4) (j := 15) (o := { dst := some 83, op := Go.Op.call { callee := Go.Callee.builtin Go.Builtin.append, args := #[Go.Operand.tmp 80, Go.Operand.tmp 82], argTypes := #[22, 22] }, type := 22, pos := "l12_machine.go:132", after := #[{ on := 1, ground := Go.Ground.data }, { on := 3, ground := Go.Ground.data }], guard := none }) (o' := { dst := some 94, op := Go.Op.buildSlice 23 1 #[(0, Go.Operand.tmp 93)], type := 23, pos := "l12_machine.go:132", after := #[{ on := 14, ground := Go.Ground.data }], guard := none }) rfl rfl (by kernel_rfl) (fun K hK => ?_) (fun K hK => ?_)
            · skip
              obtain ⟨vss_44, fps_44, hrow, howl, hfp, hnd, hge⟩ := BD_31.out
              rw [HLT1.out] at hrow
              have ROW_44 := Lib.hid hrow; have OWL_44 := Lib.hid howl; have NDU_44 := Lib.hid (hfp ▸ hnd); have GE_44 := Lib.hid (fun b hb => hge b (hfp ▸ hb)); have FPE_44 := Lib.hid hfp; clear hrow howl hnd hge hfp
              refine step_append_lies _ rfl (.tmp 80) (.tmp 82) 22 rfl (G4 + 2) 42 i1 (.slice none 0 0) 1 24 Try.underlying22 hi1 hy0 hy1 hy2 rfl (by decide) v1 i vss_44.flatten rfl ROW_44.out ⟨w7.heap.size, 0, none⟩ 1 1 [.slice (some ⟨N, 0, none⟩) 3 3] rfl rfl (news_at c_37) (by simp [Value.oneCell']) (by omega) HC3.out HC4.out (by first | omega | (simp; omega)) _ rfl ?_
              intro g11 cp11 w11 hown hgrow hat hlt4
              have HG_45 := Lib.hid hgrow; have HATHG_45 := Lib.hid hat; have HONHG_45 := Lib.hid hown
              clear hgrow hat hown
              have hz_46 : w7.heap.size + 1 ≤ w11.heap.size := by have := HG_45.out.size; first | omega | (simp at this; omega)
              have LT_47 : Hid (∀ b ∈ fp1, b < w7.heap.size + 1) := Lib.hid (fun b hm => by have := (BD_31.out.lt kIntS_ok b hm); first | exact this | omega | (simp at this; omega))
              have LT_48 : Hid (∀ b ∈ fp2, b < w7.heap.size + 1) := Lib.hid (fun b hm => by have := (BD_32.out.lt kBool_ok b hm); first | exact this | omega | (simp at this; omega))
              have LT_49 : Hid (∀ b ∈ [N], b < w7.heap.size + 1) := Lib.hid (fun b hm => by have := (kIntS_ok.olt OW_33.out b hm); first | exact this | omega | (simp at this; omega))
              have LT_50 : Hid (∀ b ∈ [g'], b < w7.heap.size + 1) := Lib.hid (fun b hm => by have := (kIntS_ok.olt OW_34.out b hm); first | exact this | omega | (simp at this; omega))
              have BD_51 := Lib.hid (Bd.app HLT1.out kIntS_ok ROW_44.out OWL_44.out NDU_44.out GE_44.out OW_33.out (by simp) (fun b hb hm => DQ1.out b hb (FPE_44.out ▸ hm)) (fun b hb => by simp only [List.mem_singleton] at hb; omega) HONHG_45.out HG_45.out HATHG_45.out (by first | omega | (simp; done) | (simp; omega)))
              have c_52 : w11.cell? ⟨(G4 + 1), 0, none⟩ = some (v1) := BD_31.out.cell_grown HG_45.out c_23 (by first | omega | (simp; done) | (simp; omega))
              have c_53 : w11.cell? ⟨(G4 + 1), 1, none⟩ = some (v2) := BD_31.out.cell_grown HG_45.out c_24 (by first | omega | (simp; done) | (simp; omega))
              have z_54 : w11.frozen? ⟨(G4 + 1), 0, none⟩ = false := BD_31.out.frozen_grown HG_45.out (by first | omega | (simp; done) | (simp; omega)) z_25 (by first | omega | (simp; done) | (simp; omega))
              have z_55 : w11.frozen? ⟨(G4 + 1), 1, none⟩ = false := BD_31.out.frozen_grown HG_45.out (by first | omega | (simp; done) | (simp; omega)) z_26 (by first | omega | (simp; done) | (simp; omega))
              have c_56 : w11.cell? ⟨w.heap.size, 1, none⟩ = some (.slice (some ⟨bA, fA, none⟩) a0.2.length ecap') := BD_31.out.cell_grown HG_45.out c_27 (by first | omega | (simp; done) | (simp; omega))
              have c_57 : w11.cell? ⟨bA, fA + f.toNat, none⟩ = some (.bool es) := BD_31.out.cell_grown HG_45.out c_28 (by first | omega | (simp; done) | (simp; omega))
              have c_58 : w11.cell? ⟨g', i, none⟩ = some (.int .i64 f) := (HG_45.out.cell_far ⟨g', i, none⟩ (World.block_lt_of_cell? _ _ c_29) (fun he => DG1.out _ (by simp) (BD_31.out.own_mem _ he.symm))).trans c_29
              have hz_59 : G4 + 2 ≤ w11.heap.size := Nat.le_trans hz_30 hz_46
              have BD_60 := Lib.hid (BD_32.out.grown kBool_ok HG_45.out (fun k hk hm => DIS.out k (BD_31.out.own_mem k hk) hm))
              have ND_61 : Hid (∀ b ∈ (g11 :: (fps_44.flatten ++ [N])), b ∉ fp2) := Lib.hid (fun b hm hs => (app_in HATHG_45.out hm).elim (fun h => DIS.out b (FPE_44.out ▸ h) hs) (fun h => h.elim (fun h => by exact DQ2.out b h hs) (fun h => by have := LT_48.out b hs; first | omega | (simp at h; omega))))
              have OW_62 := Lib.hid (kIntS_ok.oframe OW_34.out (w' := w11) fun b hm => HG_45.out.block b (kIntS_ok.olt OW_34.out b hm) (fun he => DG1.out b hm (BD_31.out.own_mem b he.symm)))
              have ND_63 : Hid (∀ b ∈ (g11 :: (fps_44.flatten ++ [N])), b ∉ [g']) := Lib.hid (fun b hm hs => (app_in HATHG_45.out hm).elim (fun h => (fun x hx hy => DG1.out x hy hx) b (FPE_44.out ▸ h) hs) (fun h => h.elim (fun h => by exact DQG.out b h hs) (fun h => by have := LT_50.out b hs; first | omega | (simp at h; omega))))
              have BL_64 := Lib.hid (Below.grown BL_35.out HG_45.out (by have := (BL_35.out).size; first | omega | (simp at this; omega) | (simp at this ⊢; omega)) (fun k hk => Nat.le_trans (by first | omega | (simp; done) | (simp; omega)) (BD_31.out.own_ge k hk)))
              have BL_65 := Lib.hid (Below.grown BL_36.out HG_45.out (by have := (BL_36.out).size; first | omega | (simp at this; omega) | (simp at this ⊢; omega)) (fun k hk => Nat.le_trans (by first | omega | (simp; done) | (simp; omega)) (BD_31.out.own_ge k hk)))
              have c_66 : w11.cell? ⟨w7.heap.size, 0, none⟩ = some (.slice (some ⟨N, 0, none⟩) 3 3) := (HG_45.out.cell_far ⟨w7.heap.size, 0, none⟩ (World.block_lt_of_cell? _ _ c_37) (fun he => ND_40.out _ (by simp) (BD_31.out.own_mem _ he.symm))).trans c_37
              have z_67 : w11.frozen? ⟨w7.heap.size, 0, none⟩ = false := (HG_45.out.frozen_far ⟨w7.heap.size, 0, none⟩ (by first | omega | (simp; done) | (simp; omega)) (fun he => ND_40.out _ (by simp) (BD_31.out.own_mem _ he.symm))).trans z_38
              have hz_68 : w7.heap.size + 1 ≤ w11.heap.size := Nat.le_trans hz_39 hz_46
              refine hK.out _ _ (Or.inr ?khHeld15) (fun hHeld15S => ?_)
              case khHeld15 => exact ⟨c_52, c_53, c_56, c_58, c_57⟩
              have hHeld15 := hHeld15S.held (by kernel_rfl)
              clear hK K
              try simp only [Act.put, List.setIfInBounds_toArray, List.set_cons_zero, List.set_cons_succ]
              refine wpG_pure (i := 17) (oi := { dst := some 96, op := Go.Op.fieldAddr 28 (Go.Operand.tmp 8) 0, type := 0, pos := "l12_machine.go:132", after := #[{ on := 0, ground := Go.Ground.phase }, { on := 1, ground := Go.Ground.phase }, { on := 2, ground := Go.Ground.phase }, { on := 3, ground := Go.Ground.phase }, { on := 4, ground := Go.Ground.phase }, { on := 5, ground := Go.Ground.phase }, { on := 6, ground := Go.Ground.phase }, { on := 7, ground := Go.Ground.textOnly Go.Departure.lateStores }, { on := 8, ground := Go.Ground.textOnly Go.Departure.lateStores }, { on := 9, ground := Go.Ground.textOnly Go.Departure.lateStores }, { on := 10, ground := Go.Ground.textOnly Go.Departure.lateStores }, { on := 11, ground := Go.Ground.textOnly Go.Departure.lateStores }, { on := 12, ground := Go.Ground.textOnly Go.Departure.lateStores }, { on := 13, ground := Go.Ground.textOnly Go.Departure.lateStores }, { on := 14, ground := Go.Ground.textOnly Go.Departure.lateStores }, { on := 15, ground := Go.Ground.textOnly Go.Departure.lateStores }, { on := 16, ground := Go.Ground.textOnly Go.Departure.lateStoresUnsure }], guard := none }) (v := ?vg16) rfl (by kernel_rfl) (fun _ _ _ h => h) (Or.inr hHeld15) (Or.inl ⟨by rfl, ?yg16⟩) ?_
              case yg16 => (intro wS _; go_simp <;> with_reducible rfl)
              try simp only [Act.put, List.setIfInBounds_toArray, List.set_cons_zero, List.set_cons_succ]
              refine wpG_one (i := 15) (o := { dst := some 94, op := Go.Op.buildSlice 23 1 #[(0, Go.Operand.tmp 93)], type := 23, pos := "l12_machine.go:132", after := #[{ on := 14, ground := Go.Ground.data }], guard := none }) rfl (by kernel_rfl) (fun K hK => ?_)
              go_simp
              have LT_69 : Hid (∀ b ∈ (g11 :: (fps_44.flatten ++ [N])), b < w11.heap.size) := Lib.hid (fun b hm => by have := (BD_51.out.lt kIntS_ok b hm); first | exact this | omega | (simp at this; omega))
              have LT_70 : Hid (∀ b ∈ fp2, b < w11.heap.size) := Lib.hid (fun b hm => by have := (BD_60.out.lt kBool_ok b hm); first | exact this | omega | (simp at this; omega))
              have LT_71 : Hid (∀ b ∈ [g'], b < w11.heap.size) := Lib.hid (fun b hm => by have := (kIntS_ok.olt OW_62.out b hm); first | exact this | omega | (simp at this; omega))
              have hb_72 : Below w11.heap.size w11 (w11.alloc (.cells #[.bool es] 4)) := (Below.refl _ _).alloc (Nat.le_refl _) _
              have hz_73 : w11.heap.size ≤ w11.heap.size + 1 := by have := (hb_72).size; first | omega | (simp at this; omega)
              have c_74 : (w11.alloc (.cells #[.bool es] 4)).cell? ⟨(G4 + 1), 0, none⟩ = some (v1) := below_later hb_72 c_52; clear c_52
              have c_75 : (w11.alloc (.cells #[.bool es] 4)).cell? ⟨(G4 + 1), 1, none⟩ = some (v2) := below_later hb_72 c_53; clear c_53
              have z_76 : (w11.alloc (.cells #[.bool es] 4)).frozen? ⟨(G4 + 1), 0, none⟩ = false := (Below.frozen hb_72 (p := ⟨(G4 + 1), 0, none⟩) (by show (G4 + 1) < _; first | omega | (simp; done) | (simp; omega))).trans z_54
              have z_77 : (w11.alloc (.cells #[.bool es] 4)).frozen? ⟨(G4 + 1), 1, none⟩ = false := (Below.frozen hb_72 (p := ⟨(G4 + 1), 1, none⟩) (by show (G4 + 1) < _; first | omega | (simp; done) | (simp; omega))).trans z_55
              have c_78 : (w11.alloc (.cells #[.bool es] 4)).cell? ⟨w.heap.size, 1, none⟩ = some (.slice (some ⟨bA, fA, none⟩) a0.2.length ecap') := below_later hb_72 c_56; clear c_56
              have c_79 : (w11.alloc (.cells #[.bool es] 4)).cell? ⟨bA, fA + f.toNat, none⟩ = some (.bool es) := below_later hb_72 c_57; clear c_57
              have c_80 : (w11.alloc (.cells #[.bool es] 4)).cell? ⟨g', i, none⟩ = some (.int .i64 f) := below_later hb_72 c_58; clear c_58
              have hz_81 : G4 + 2 ≤ w11.heap.size + 1 := Nat.le_trans hz_59 hz_73
              have BD_82 := Lib.hid (BD_51.out.later kIntS_ok hb_72)
              have BD_83 := Lib.hid (BD_60.out.later kBool_ok hb_72)
              have OW_84 := Lib.hid (kIntS_ok.oframe OW_62.out (w' := (w11.alloc (.cells #[.bool es] 4))) fun b hm => (hb_72).block b (kIntS_ok.olt OW_62.out b hm))
              have BL_85 := Lib.hid (Below.trans BL_64.out (Below.mono hb_72 (by have := (BL_64.out).size; first | omega | (simp at this; omega) | (simp at this ⊢; omega))))
              have BL_86 := Lib.hid (Below.trans BL_65.out (Below.mono hb_72 (by have := (BL_65.out).size; first | omega | (simp at this; omega) | (simp at this ⊢; omega))))
              clear hb_72
              have c_87 : (w11.alloc (.cells #[.bool es] 4)).cell? ⟨w11.heap.size, 0, none⟩ = some (.bool es) := by go_simp
              have z_88 : (w11.alloc (.cells #[.bool es] 4)).frozen? ⟨w11.heap.size, 0, none⟩ = false := by go_simp
              have hz_89 : w11.heap.size < w11.heap.size + 1 := by omega
              have ND_90 : Hid (∀ b ∈ [w11.heap.size], b ∉ (g11 :: (fps_44.flatten ++ [N]))) := Lib.hid (by intro b hb hm; simp only [List.mem_singleton] at hb; subst hb; have := (LT_69.out _ hm); first | omega | (simp at this; omega))
              have ND_91 : Hid (∀ b ∈ [w11.heap.size], b ∉ fp2) := Lib.hid (by intro b hb hm; simp only [List.mem_singleton] at hb; subst hb; have := (LT_70.out _ hm); first | omega | (simp at this; omega))
              have ND_92 : Hid (∀ b ∈ [w11.heap.size], b ∉ [g']) := Lib.hid (by intro b hb hm; simp only [List.mem_singleton] at hb; subst hb; have := (LT_71.out _ hm); first | omega | (simp at this; omega))
              refine hK.out _ _ (Or.inr ?khHeld17) (fun hHeld17S => ?_)
              case khHeld17 => exact ⟨c_74, c_75, c_78, c_80, c_79⟩
              have hHeld17 := hHeld17S.held (by kernel_rfl)
              clear hK K
              try simp only [Act.put, List.setIfInBounds_toArray, List.set_cons_zero, List.set_cons_succ]
              refine wpG_one (i := 16) (o := { dst := some 95, op := Go.Op.call { callee := Go.Callee.builtin Go.Builtin.append, args := #[Go.Operand.tmp 85, Go.Operand.tmp 94], argTypes := #[23, 23] }, type := 23, pos := "l12_machine.go:132", after := #[{ on := 6, ground := Go.Ground.data }, { on := 15, ground := Go.Ground.data }, { on := 4, ground := Go.Ground.chain }], guard := none }) rfl (by kernel_rfl) (fun K hK => ?_)
              obtain ⟨vss_93, fps_93, hrow, howl, hfp, hnd, hge⟩ := BD_83.out
              rw [HLT2.out] at hrow
              have ROW_93 := Lib.hid hrow; have OWL_93 := Lib.hid howl; have NDU_93 := Lib.hid (hfp ▸ hnd); have GE_93 := Lib.hid (fun b hb => hge b (hfp ▸ hb)); have FPE_93 := Lib.hid hfp; clear hrow howl hnd hge hfp
              refine step_append_lies _ rfl (.tmp 85) (.tmp 94) 23 rfl (G4 + 2) 4 i2 (.bool false) 1 1 Try.underlying23 hi2 hx0 hx1 hx2 rfl (by decide) v2 i vss_93.flatten rfl ROW_93.out ⟨w11.heap.size, 0, none⟩ 1 1 [.bool es] rfl rfl (news_at c_87) (by simp [Value.oneCell']) (by omega) HC3.out HC6.out (by first | omega | (simp; omega)) _ rfl ?_
              intro g12 cp12 w12 hown hgrow hat hlt4
              have HG_94 := Lib.hid hgrow; have HATHG_94 := Lib.hid hat; have HONHG_94 := Lib.hid hown
              clear hgrow hat hown
              have hz_95 : w11.heap.size + 1 ≤ w12.heap.size := by have := HG_94.out.size; first | omega | (simp at this; omega)
              have LT_96 : Hid (∀ b ∈ (g11 :: (fps_44.flatten ++ [N])), b < w11.heap.size + 1) := Lib.hid (fun b hm => by have := (BD_82.out.lt kIntS_ok b hm); first | exact this | omega | (simp at this; omega))
              have LT_97 : Hid (∀ b ∈ fp2, b < w11.heap.size + 1) := Lib.hid (fun b hm => by have := (BD_83.out.lt kBool_ok b hm); first | exact this | omega | (simp at this; omega))
              have LT_98 : Hid (∀ b ∈ [g'], b < w11.heap.size + 1) := Lib.hid (fun b hm => by have := (kIntS_ok.olt OW_84.out b hm); first | exact this | omega | (simp at this; omega))
              have BD_99 := Lib.hid (Bd.app HLT2.out kBool_ok ROW_93.out OWL_93.out NDU_93.out GE_93.out ⟨rfl, rfl, trivial⟩ List.nodup_nil (fun b hb => absurd hb (by simp)) (fun b hb => absurd hb (by simp)) HONHG_94.out HG_94.out HATHG_94.out (by first | omega | (simp; done) | (simp; omega)))
              have c_100 : w12.cell? ⟨(G4 + 1), 0, none⟩ = some (v1) := BD_83.out.cell_grown HG_94.out c_74 (by first | omega | (simp; done) | (simp; omega))
              have c_101 : w12.cell? ⟨(G4 + 1), 1, none⟩ = some (v2) := BD_83.out.cell_grown HG_94.out c_75 (by first | omega | (simp; done) | (simp; omega))
              have z_102 : w12.frozen? ⟨(G4 + 1), 0, none⟩ = false := BD_83.out.frozen_grown HG_94.out (by first | omega | (simp; done) | (simp; omega)) z_76 (by first | omega | (simp; done) | (simp; omega))
              have z_103 : w12.frozen? ⟨(G4 + 1), 1, none⟩ = false := BD_83.out.frozen_grown HG_94.out (by first | omega | (simp; done) | (simp; omega)) z_77 (by first | omega | (simp; done) | (simp; omega))
              have c_104 : w12.cell? ⟨w.heap.size, 1, none⟩ = some (.slice (some ⟨bA, fA, none⟩) a0.2.length ecap') := BD_83.out.cell_grown HG_94.out c_78 (by first | omega | (simp; done) | (simp; omega))
              have c_105 : w12.cell? ⟨bA, fA + f.toNat, none⟩ = some (.bool es) := BD_83.out.cell_grown HG_94.out c_79 (by first | omega | (simp; done) | (simp; omega))
              have c_106 : w12.cell? ⟨g', i, none⟩ = some (.int .i64 f) := (HG_94.out.cell_far ⟨g', i, none⟩ (World.block_lt_of_cell? _ _ c_80) (fun he => DG2.out _ (by simp) (BD_83.out.own_mem _ he.symm))).trans c_80
              have hz_107 : G4 + 2 ≤ w12.heap.size := Nat.le_trans hz_81 hz_95
              have BD_108 := Lib.hid (BD_82.out.grown kIntS_ok HG_94.out (fun k hk hm => (fun x hx hy => ND_61.out x hy hx) k (BD_83.out.own_mem k hk) hm))
              have ND_109 : Hid (∀ b ∈ (g12 :: (fps_93.flatten ++ [])), b ∉ (g11 :: (fps_44.flatten ++ [N]))) := Lib.hid (fun b hm hs => (app_in HATHG_94.out hm).elim (fun h => (fun x hx hy => ND_61.out x hy hx) b (FPE_93.out ▸ h) hs) (fun h => h.elim (fun h => by simp at h) (fun h => by have := LT_96.out b hs; first | omega | (simp at h; omega))))
              have OW_110 := Lib.hid (kIntS_ok.oframe OW_84.out (w' := w12) fun b hm => HG_94.out.block b (kIntS_ok.olt OW_84.out b hm) (fun he => DG2.out b hm (BD_83.out.own_mem b he.symm)))
              have ND_111 : Hid (∀ b ∈ (g12 :: (fps_93.flatten ++ [])), b ∉ [g']) := Lib.hid (fun b hm hs => (app_in HATHG_94.out hm).elim (fun h => (fun x hx hy => DG2.out x hy hx) b (FPE_93.out ▸ h) hs) (fun h => h.elim (fun h => by simp at h) (fun h => by have := LT_98.out b hs; first | omega | (simp at h; omega))))
              have BL_112 := Lib.hid (Below.grown BL_85.out HG_94.out (by have := (BL_85.out).size; first | omega | (simp at this; omega) | (simp at this ⊢; omega)) (fun k hk => Nat.le_trans (by first | omega | (simp; done) | (simp; omega)) (BD_83.out.own_ge k hk)))
              have BL_113 := Lib.hid (Below.grown BL_86.out HG_94.out (by have := (BL_86.out).size; first | omega | (simp at this; omega) | (simp at this ⊢; omega)) (fun k hk => Nat.le_trans (by first | omega | (simp; done) | (simp; omega)) (BD_83.out.own_ge k hk)))
              have c_114 : w12.cell? ⟨w11.heap.size, 0, none⟩ = some (.bool es) := (HG_94.out.cell_far ⟨w11.heap.size, 0, none⟩ (World.block_lt_of_cell? _ _ c_87) (fun he => ND_91.out _ (by simp) (BD_83.out.own_mem _ he.symm))).trans c_87
              have z_115 : w12.frozen? ⟨w11.heap.size, 0, none⟩ = false := (HG_94.out.frozen_far ⟨w11.heap.size, 0, none⟩ (by first | omega | (simp; done) | (simp; omega)) (fun he => ND_91.out _ (by simp) (BD_83.out.own_mem _ he.symm))).trans z_88
              have hz_116 : w11.heap.size + 1 ≤ w12.heap.size := Nat.le_trans hz_89 hz_95
              refine hK.out _ _ (Or.inl (by kernel_rfl)) (fun _ => ?_)
              clear hK K
              try simp only [Act.put, List.setIfInBounds_toArray, List.set_cons_zero, List.set_cons_succ]
              refine wpG_one (i := 18) (o := { dst := none, op := Go.Op.store 22 (Go.Operand.tmp 96) (Go.Operand.tmp 83), type := 0, pos := "l12_machine.go:132", after := #[{ on := 17, ground := Go.Ground.data }, { on := 4, ground := Go.Ground.data }, { on := 16, ground := Go.Ground.chain }, { on := 0, ground := Go.Ground.phase }, { on := 1, ground := Go.Ground.phase }, { on := 2, ground := Go.Ground.phase }, { on := 3, ground := Go.Ground.phase }, { on := 4, ground := Go.Ground.phase }, { on := 5, ground := Go.Ground.phase }, { on := 6, ground := Go.Ground.phase }, { on := 7, ground := Go.Ground.textOnly Go.Departure.lateStores }, { on := 8, ground := Go.Ground.textOnly Go.Departure.lateStores }, { on := 9, ground := Go.Ground.textOnly Go.Departure.lateStores }, { on := 10, ground := Go.Ground.textOnly Go.Departure.lateStores }, { on := 11, ground := Go.Ground.textOnly Go.Departure.lateStores }, { on := 12, ground := Go.Ground.textOnly Go.Departure.lateStores }, { on := 13, ground := Go.Ground.textOnly Go.Departure.lateStores }, { on := 14, ground := Go.Ground.textOnly Go.Departure.lateStores }, { on := 15, ground := Go.Ground.textOnly Go.Departure.lateStores }, { on := 16, ground := Go.Ground.textOnly Go.Departure.lateStoresUnsure }], guard := none }) rfl (by kernel_rfl) (fun K hK => ?_)
              go_simp
              refine hK.out _ _ (Or.inl (by kernel_rfl)) (fun _ => ?_)
              clear hK K
              try simp only [Act.put, List.setIfInBounds_toArray, List.set_cons_zero, List.set_cons_succ]
              refine wpG_pure (i := 19) (oi := { dst := some 97, op := Go.Op.fieldAddr 28 (Go.Operand.tmp 8) 1, type := 0, pos := "l12_machine.go:132", after := #[{ on := 0, ground := Go.Ground.phase }, { on := 1, ground := Go.Ground.phase }, { on := 2, ground := Go.Ground.phase }, { on := 3, ground := Go.Ground.phase }, { on := 4, ground := Go.Ground.phase }, { on := 5, ground := Go.Ground.phase }, { on := 6, ground := Go.Ground.phase }, { on := 7, ground := Go.Ground.phase }, { on := 8, ground := Go.Ground.phase }, { on := 9, ground := Go.Ground.phase }, { on := 10, ground := Go.Ground.phase }, { on := 11, ground := Go.Ground.phase }, { on := 12, ground := Go.Ground.phase }, { on := 13, ground := Go.Ground.phase }, { on := 14, ground := Go.Ground.phase }, { on := 15, ground := Go.Ground.phase }, { on := 16, ground := Go.Ground.phase }, { on := 17, ground := Go.Ground.phase }, { on := 18, ground := Go.Ground.phase }], guard := none }) (v := ?vg20) rfl (by kernel_rfl) (fun _ _ _ h => h) (Or.inl (by kernel_rfl)) (Or.inl ⟨by rfl, ?yg20⟩) ?_
              case yg20 => (intro wS _; go_simp <;> with_reducible rfl)
              try simp only [Act.put, List.setIfInBounds_toArray, List.set_cons_zero, List.set_cons_succ]
              refine wpG_one (i := 20) (o := { dst := none, op := Go.Op.store 23 (Go.Operand.tmp 97) (Go.Operand.tmp 95), type := 0, pos := "l12_machine.go:132", after := #[{ on := 19, ground := Go.Ground.data }, { on := 16, ground := Go.Ground.data }, { on := 18, ground := Go.Ground.chain }, { on := 0, ground := Go.Ground.phase }, { on := 1, ground := Go.Ground.phase }, { on := 2, ground := Go.Ground.phase }, { on := 3, ground := Go.Ground.phase }, { on := 4, ground := Go.Ground.phase }, { on := 5, ground := Go.Ground.phase }, { on := 6, ground := Go.Ground.phase }, { on := 7, ground := Go.Ground.phase }, { on := 8, ground := Go.Ground.phase }, { on := 9, ground := Go.Ground.phase }, { on := 10, ground := Go.Ground.phase }, { on := 11, ground := Go.Ground.phase }, { on := 12, ground := Go.Ground.phase }, { on := 13, ground := Go.Ground.phase }, { on := 14, ground := Go.Ground.phase }, { on := 15, ground := Go.Ground.phase }, { on := 16, ground := Go.Ground.phase }, { on := 17, ground := Go.Ground.phase }, { on := 18, ground := Go.Ground.phase }], guard := none }) rfl (by kernel_rfl) (fun K hK => ?_)
              go_simp
              refine hK.out _ _ (Or.inl (by kernel_rfl)) (fun _ => ?_)
              clear hK K
              try simp only [Act.put, List.setIfInBounds_toArray, List.set_cons_zero, List.set_cons_succ]
              refine wpG_done (by kernel_rfl) ?_
              go_wp2_with fail
              go_roundw
              case rel =>
                have hb1 := (BD_108.out.setCell kIntS_ok (a := ⟨G4 + 1, 0, none⟩) (by show G4 + 1 < G4 + 2; omega) (.slice (some ⟨g11, 0, none⟩) (i + 1) cp11)).setCell kIntS_ok (a := ⟨G4 + 1, 1, none⟩) (by show G4 + 1 < G4 + 2; omega) (.slice (some ⟨g12, 0, none⟩) (i + 1) cp12)
                have hb2 := (BD_99.out.setCell kBool_ok (a := ⟨G4 + 1, 0, none⟩) (by show G4 + 1 < G4 + 2; omega) (.slice (some ⟨g11, 0, none⟩) (i + 1) cp11)).setCell kBool_ok (a := ⟨G4 + 1, 1, none⟩) (by show G4 + 1 < G4 + 2; omega) (.slice (some ⟨g12, 0, none⟩) (i + 1) cp12)
                rw [HT1.out] at hb1; rw [HT2.out] at hb2
                refine ⟨i + 1, g', cp', F', _, _, _, _, by omega, HN1.out, by go_num, rfl, ⟨hgb1, hgb⟩, Lib.hid (by rw [HNX.out]; exact HFJ.out), Lib.hid ?_, Lib.hid ?_, Lib.hid ⟨?_, ?_, ?_, ?_, ?_⟩, Lib.hid hb1, Lib.hid hb2, Lib.hid (fun x hx hy => ND_109.out x hy hx), Lib.hid ⟨(fun x hx hy => ND_63.out x hy hx) g' (by simp), (fun x hx hy => ND_111.out x hy hx) g' (by simp)⟩, Lib.hid ((BL_112.out.setCell (p := ⟨G4 + 1, 0, none⟩) (by show w2.heap.size ≤ G4 + 1; omega) _).setCell (p := ⟨G4 + 1, 1, none⟩) (by show w2.heap.size ≤ G4 + 1; omega) _)⟩
                · exact own_frame (ints_kun OW_110.out) (fun b hb => (Below.heap_setCell _ _ _ _ (by simp [Value.ownBlock] at hb; show b ≠ G4 + 1; omega)).trans (Below.heap_setCell _ _ _ _ (by simp [Value.ownBlock] at hb; show b ≠ G4 + 1; omega)))
                · exact HM6.out.frame (((Below.heap_setCell _ _ _ _ (by show w2.heap.size ≠ G4 + 1; omega)).trans (Below.heap_setCell _ _ _ _ (by show w2.heap.size ≠ G4 + 1; omega))).trans (BL_113.out.block w2.heap.size (by omega)))
                · go_simp
                · go_simp
                · go_simp
                · go_simp
                · rw [World.size_setCell, World.size_setCell]; omega
              case measure => (simp [intOf]; try omega)
            · skip
              go_simp
              have LT_117 : Hid (∀ b ∈ fp1, b < w7.heap.size + 1) := Lib.hid (fun b hm => by have := (BD_31.out.lt kIntS_ok b hm); first | exact this | omega | (simp at this; omega))
              have LT_118 : Hid (∀ b ∈ fp2, b < w7.heap.size + 1) := Lib.hid (fun b hm => by have := (BD_32.out.lt kBool_ok b hm); first | exact this | omega | (simp at this; omega))
              have LT_119 : Hid (∀ b ∈ [N], b < w7.heap.size + 1) := Lib.hid (fun b hm => by have := (kIntS_ok.olt OW_33.out b hm); first | exact this | omega | (simp at this; omega))
              have LT_120 : Hid (∀ b ∈ [g'], b < w7.heap.size + 1) := Lib.hid (fun b hm => by have := (kIntS_ok.olt OW_34.out b hm); first | exact this | omega | (simp at this; omega))
              have hb_121 : Below (w7.alloc (.cells #[.slice (some ⟨N, 0, none⟩) 3 3] 42)).drew.heap.size (w7.alloc (.cells #[.slice (some ⟨N, 0, none⟩) 3 3] 42)).drew ((w7.alloc (.cells #[.slice (some ⟨N, 0, none⟩) 3 3] 42)).alloc (.cells #[.bool es] 4)).drew := below_alloc_drew _ _
              have hz_122 : w7.heap.size + 1 ≤ w7.heap.size + 1 + 1 := by have := (hb_121).size; first | omega | (simp at this; omega)
              have c_123 : ((w7.alloc (.cells #[.slice (some ⟨N, 0, none⟩) 3 3] 42)).alloc (.cells #[.bool es] 4)).drew.cell? ⟨(G4 + 1), 0, none⟩ = some (v1) := below_later hb_121 c_23; clear c_23
              have c_124 : ((w7.alloc (.cells #[.slice (some ⟨N, 0, none⟩) 3 3] 42)).alloc (.cells #[.bool es] 4)).drew.cell? ⟨(G4 + 1), 1, none⟩ = some (v2) := below_later hb_121 c_24; clear c_24
              have z_125 : ((w7.alloc (.cells #[.slice (some ⟨N, 0, none⟩) 3 3] 42)).alloc (.cells #[.bool es] 4)).drew.frozen? ⟨(G4 + 1), 0, none⟩ = false := (Below.frozen hb_121 (p := ⟨(G4 + 1), 0, none⟩) (by show (G4 + 1) < _; first | omega | (simp; done) | (simp; omega))).trans z_25
              have z_126 : ((w7.alloc (.cells #[.slice (some ⟨N, 0, none⟩) 3 3] 42)).alloc (.cells #[.bool es] 4)).drew.frozen? ⟨(G4 + 1), 1, none⟩ = false := (Below.frozen hb_121 (p := ⟨(G4 + 1), 1, none⟩) (by show (G4 + 1) < _; first | omega | (simp; done) | (simp; omega))).trans z_26
              have c_127 : ((w7.alloc (.cells #[.slice (some ⟨N, 0, none⟩) 3 3] 42)).alloc (.cells #[.bool es] 4)).drew.cell? ⟨w.heap.size, 1, none⟩ = some (.slice (some ⟨bA, fA, none⟩) a0.2.length ecap') := below_later hb_121 c_27; clear c_27
              have c_128 : ((w7.alloc (.cells #[.slice (some ⟨N, 0, none⟩) 3 3] 42)).alloc (.cells #[.bool es] 4)).drew.cell? ⟨bA, fA + f.toNat, none⟩ = some (.bool es) := below_later hb_121 c_28; clear c_28
              have c_129 : ((w7.alloc (.cells #[.slice (some ⟨N, 0, none⟩) 3 3] 42)).alloc (.cells #[.bool es] 4)).drew.cell? ⟨g', i, none⟩ = some (.int .i64 f) := below_later hb_121 c_29; clear c_29
              have hz_130 : G4 + 2 ≤ w7.heap.size + 1 + 1 := Nat.le_trans hz_30 hz_122
              have BD_131 := Lib.hid (BD_31.out.later kIntS_ok hb_121)
              have BD_132 := Lib.hid (BD_32.out.later kBool_ok hb_121)
              have OW_133 := Lib.hid (kIntS_ok.oframe OW_33.out (w' := ((w7.alloc (.cells #[.slice (some ⟨N, 0, none⟩) 3 3] 42)).alloc (.cells #[.bool es] 4)).drew) fun b hm => (hb_121).block b (kIntS_ok.olt OW_33.out b hm))
              have OW_134 := Lib.hid (kIntS_ok.oframe OW_34.out (w' := ((w7.alloc (.cells #[.slice (some ⟨N, 0, none⟩) 3 3] 42)).alloc (.cells #[.bool es] 4)).drew) fun b hm => (hb_121).block b (kIntS_ok.olt OW_34.out b hm))
              have BL_135 := Lib.hid (Below.trans BL_35.out (Below.mono hb_121 (by have := (BL_35.out).size; first | omega | (simp at this; omega) | (simp at this ⊢; omega))))
              have BL_136 := Lib.hid (Below.trans BL_36.out (Below.mono hb_121 (by have := (BL_36.out).size; first | omega | (simp at this; omega) | (simp at this ⊢; omega))))
              have c_137 : ((w7.alloc (.cells #[.slice (some ⟨N, 0, none⟩) 3 3] 42)).alloc (.cells #[.bool es] 4)).drew.cell? ⟨w7.heap.size, 0, none⟩ = some (.slice (some ⟨N, 0, none⟩) 3 3) := below_later hb_121 c_37; clear c_37
              have z_138 : ((w7.alloc (.cells #[.slice (some ⟨N, 0, none⟩) 3 3] 42)).alloc (.cells #[.bool es] 4)).drew.frozen? ⟨w7.heap.size, 0, none⟩ = false := (Below.frozen hb_121 (p := ⟨w7.heap.size, 0, none⟩) (by show w7.heap.size < _; first | omega | (simp; done) | (simp; omega))).trans z_38
              have hz_139 : w7.heap.size + 1 ≤ w7.heap.size + 1 + 1 := Nat.le_trans hz_39 hz_122
              clear hb_121
              have c_140 : ((w7.alloc (.cells #[.slice (some ⟨N, 0, none⟩) 3 3] 42)).alloc (.cells #[.bool es] 4)).drew.cell? ⟨w7.heap.size + 1, 0, none⟩ = some (.bool es) := by go_simp
              have z_141 : ((w7.alloc (.cells #[.slice (some ⟨N, 0, none⟩) 3 3] 42)).alloc (.cells #[.bool es] 4)).drew.frozen? ⟨w7.heap.size + 1, 0, none⟩ = false := by go_simp
              have hz_142 : w7.heap.size + 1 < w7.heap.size + 1 + 1 := by omega
              have ND_143 : Hid (∀ b ∈ [w7.heap.size + 1], b ∉ fp1) := Lib.hid (by intro b hb hm; simp only [List.mem_singleton] at hb; subst hb; have := (LT_117.out _ hm); first | omega | (simp at this; omega))
              have ND_144 : Hid (∀ b ∈ [w7.heap.size + 1], b ∉ fp2) := Lib.hid (by intro b hb hm; simp only [List.mem_singleton] at hb; subst hb; have := (LT_118.out _ hm); first | omega | (simp at this; omega))
              have ND_145 : Hid (∀ b ∈ [w7.heap.size + 1], b ∉ [N]) := Lib.hid (by intro b hb hm; simp only [List.mem_singleton] at hb; subst hb; have := (LT_119.out _ hm); first | omega | (simp at this; omega))
              have ND_146 : Hid (∀ b ∈ [w7.heap.size + 1], b ∉ [g']) := Lib.hid (by intro b hb hm; simp only [List.mem_singleton] at hb; subst hb; have := (LT_120.out _ hm); first | omega | (simp at this; omega))
              refine hK.out _ _ (Or.inr ?khHeld22) (fun hHeld22S => ?_)
              case khHeld22 => exact ⟨c_123, c_124, c_127, c_129, c_128⟩
              have hHeld22 := hHeld22S.held (by kernel_rfl)
              clear hK K
              try simp only [Act.put, List.setIfInBounds_toArray, List.set_cons_zero, List.set_cons_succ]
              refine wpG_one (i := 4) (o := { dst := some 83, op := Go.Op.call { callee := Go.Callee.builtin Go.Builtin.append, args := #[Go.Operand.tmp 80, Go.Operand.tmp 82], argTypes := #[22, 22] }, type := 22, pos := "l12_machine.go:132", after := #[{ on := 1, ground := Go.Ground.data }, { on := 3, ground := Go.Ground.data }], guard := none }) rfl (by kernel_rfl) (fun K hK => ?_)
              obtain ⟨vss_147, fps_147, hrow, howl, hfp, hnd, hge⟩ := BD_131.out
              rw [HLT1.out] at hrow
              have ROW_147 := Lib.hid hrow; have OWL_147 := Lib.hid howl; have NDU_147 := Lib.hid (hfp ▸ hnd); have GE_147 := Lib.hid (fun b hb => hge b (hfp ▸ hb)); have FPE_147 := Lib.hid hfp; clear hrow howl hnd hge hfp
              refine step_append_lies _ rfl (.tmp 80) (.tmp 82) 22 rfl (G4 + 2) 42 i1 (.slice none 0 0) 1 24 Try.underlying22 hi1 hy0 hy1 hy2 rfl (by decide) v1 i vss_147.flatten rfl ROW_147.out ⟨w7.heap.size, 0, none⟩ 1 1 [.slice (some ⟨N, 0, none⟩) 3 3] rfl rfl (news_at c_137) (by simp [Value.oneCell']) (by omega) HC3.out HC4.out (by first | omega | (simp; omega)) _ rfl ?_
              intro g11 cp11 w11 hown hgrow hat hlt4
              have HG_148 := Lib.hid hgrow; have HATHG_148 := Lib.hid hat; have HONHG_148 := Lib.hid hown
              clear hgrow hat hown
              have hz_149 : w7.heap.size + 1 + 1 ≤ w11.heap.size := by have := HG_148.out.size; first | omega | (simp at this; omega)
              have LT_150 : Hid (∀ b ∈ fp1, b < w7.heap.size + 1 + 1) := Lib.hid (fun b hm => by have := (BD_131.out.lt kIntS_ok b hm); first | exact this | omega | (simp at this; omega))
              have LT_151 : Hid (∀ b ∈ fp2, b < w7.heap.size + 1 + 1) := Lib.hid (fun b hm => by have := (BD_132.out.lt kBool_ok b hm); first | exact this | omega | (simp at this; omega))
              have LT_152 : Hid (∀ b ∈ [N], b < w7.heap.size + 1 + 1) := Lib.hid (fun b hm => by have := (kIntS_ok.olt OW_133.out b hm); first | exact this | omega | (simp at this; omega))
              have LT_153 : Hid (∀ b ∈ [g'], b < w7.heap.size + 1 + 1) := Lib.hid (fun b hm => by have := (kIntS_ok.olt OW_134.out b hm); first | exact this | omega | (simp at this; omega))
              have BD_154 := Lib.hid (Bd.app HLT1.out kIntS_ok ROW_147.out OWL_147.out NDU_147.out GE_147.out OW_133.out (by simp) (fun b hb hm => DQ1.out b hb (FPE_147.out ▸ hm)) (fun b hb => by simp only [List.mem_singleton] at hb; omega) HONHG_148.out HG_148.out HATHG_148.out (by first | omega | (simp; done) | (simp; omega)))
              have c_155 : w11.cell? ⟨(G4 + 1), 0, none⟩ = some (v1) := BD_131.out.cell_grown HG_148.out c_123 (by first | omega | (simp; done) | (simp; omega))
              have c_156 : w11.cell? ⟨(G4 + 1), 1, none⟩ = some (v2) := BD_131.out.cell_grown HG_148.out c_124 (by first | omega | (simp; done) | (simp; omega))
              have z_157 : w11.frozen? ⟨(G4 + 1), 0, none⟩ = false := BD_131.out.frozen_grown HG_148.out (by first | omega | (simp; done) | (simp; omega)) z_125 (by first | omega | (simp; done) | (simp; omega))
              have z_158 : w11.frozen? ⟨(G4 + 1), 1, none⟩ = false := BD_131.out.frozen_grown HG_148.out (by first | omega | (simp; done) | (simp; omega)) z_126 (by first | omega | (simp; done) | (simp; omega))
              have c_159 : w11.cell? ⟨w.heap.size, 1, none⟩ = some (.slice (some ⟨bA, fA, none⟩) a0.2.length ecap') := BD_131.out.cell_grown HG_148.out c_127 (by first | omega | (simp; done) | (simp; omega))
              have c_160 : w11.cell? ⟨bA, fA + f.toNat, none⟩ = some (.bool es) := BD_131.out.cell_grown HG_148.out c_128 (by first | omega | (simp; done) | (simp; omega))
              have c_161 : w11.cell? ⟨g', i, none⟩ = some (.int .i64 f) := (HG_148.out.cell_far ⟨g', i, none⟩ (World.block_lt_of_cell? _ _ c_129) (fun he => DG1.out _ (by simp) (BD_131.out.own_mem _ he.symm))).trans c_129
              have hz_162 : G4 + 2 ≤ w11.heap.size := Nat.le_trans hz_130 hz_149
              have BD_163 := Lib.hid (BD_132.out.grown kBool_ok HG_148.out (fun k hk hm => DIS.out k (BD_131.out.own_mem k hk) hm))
              have ND_164 : Hid (∀ b ∈ (g11 :: (fps_147.flatten ++ [N])), b ∉ fp2) := Lib.hid (fun b hm hs => (app_in HATHG_148.out hm).elim (fun h => DIS.out b (FPE_147.out ▸ h) hs) (fun h => h.elim (fun h => by exact DQ2.out b h hs) (fun h => by have := LT_151.out b hs; first | omega | (simp at h; omega))))
              have OW_165 := Lib.hid (kIntS_ok.oframe OW_134.out (w' := w11) fun b hm => HG_148.out.block b (kIntS_ok.olt OW_134.out b hm) (fun he => DG1.out b hm (BD_131.out.own_mem b he.symm)))
              have ND_166 : Hid (∀ b ∈ (g11 :: (fps_147.flatten ++ [N])), b ∉ [g']) := Lib.hid (fun b hm hs => (app_in HATHG_148.out hm).elim (fun h => (fun x hx hy => DG1.out x hy hx) b (FPE_147.out ▸ h) hs) (fun h => h.elim (fun h => by exact DQG.out b h hs) (fun h => by have := LT_153.out b hs; first | omega | (simp at h; omega))))
              have BL_167 := Lib.hid (Below.grown BL_135.out HG_148.out (by have := (BL_135.out).size; first | omega | (simp at this; omega) | (simp at this ⊢; omega)) (fun k hk => Nat.le_trans (by first | omega | (simp; done) | (simp; omega)) (BD_131.out.own_ge k hk)))
              have BL_168 := Lib.hid (Below.grown BL_136.out HG_148.out (by have := (BL_136.out).size; first | omega | (simp at this; omega) | (simp at this ⊢; omega)) (fun k hk => Nat.le_trans (by first | omega | (simp; done) | (simp; omega)) (BD_131.out.own_ge k hk)))
              have c_169 : w11.cell? ⟨w7.heap.size, 0, none⟩ = some (.slice (some ⟨N, 0, none⟩) 3 3) := (HG_148.out.cell_far ⟨w7.heap.size, 0, none⟩ (World.block_lt_of_cell? _ _ c_137) (fun he => ND_40.out _ (by simp) (BD_131.out.own_mem _ he.symm))).trans c_137
              have z_170 : w11.frozen? ⟨w7.heap.size, 0, none⟩ = false := (HG_148.out.frozen_far ⟨w7.heap.size, 0, none⟩ (by first | omega | (simp; done) | (simp; omega)) (fun he => ND_40.out _ (by simp) (BD_131.out.own_mem _ he.symm))).trans z_138
              have hz_171 : w7.heap.size + 1 ≤ w11.heap.size := Nat.le_trans hz_139 hz_149
              have c_172 : w11.cell? ⟨w7.heap.size + 1, 0, none⟩ = some (.bool es) := (HG_148.out.cell_far ⟨w7.heap.size + 1, 0, none⟩ (World.block_lt_of_cell? _ _ c_140) (fun he => ND_143.out _ (by simp) (BD_131.out.own_mem _ he.symm))).trans c_140
              have z_173 : w11.frozen? ⟨w7.heap.size + 1, 0, none⟩ = false := (HG_148.out.frozen_far ⟨w7.heap.size + 1, 0, none⟩ (by first | omega | (simp; done) | (simp; omega)) (fun he => ND_143.out _ (by simp) (BD_131.out.own_mem _ he.symm))).trans z_141
              have hz_174 : w7.heap.size + 1 + 1 ≤ w11.heap.size := Nat.le_trans hz_142 hz_149
              refine hK.out _ _ (Or.inr ?khHeld23) (fun hHeld23S => ?_)
              case khHeld23 => exact ⟨c_155, c_156, c_159, c_161, c_160⟩
              have hHeld23 := hHeld23S.held (by kernel_rfl)
              clear hK K
              try simp only [Act.put, List.setIfInBounds_toArray, List.set_cons_zero, List.set_cons_succ]
              refine wpG_pure (i := 17) (oi := { dst := some 96, op := Go.Op.fieldAddr 28 (Go.Operand.tmp 8) 0, type := 0, pos := "l12_machine.go:132", after := #[{ on := 0, ground := Go.Ground.phase }, { on := 1, ground := Go.Ground.phase }, { on := 2, ground := Go.Ground.phase }, { on := 3, ground := Go.Ground.phase }, { on := 4, ground := Go.Ground.phase }, { on := 5, ground := Go.Ground.phase }, { on := 6, ground := Go.Ground.phase }, { on := 7, ground := Go.Ground.textOnly Go.Departure.lateStores }, { on := 8, ground := Go.Ground.textOnly Go.Departure.lateStores }, { on := 9, ground := Go.Ground.textOnly Go.Departure.lateStores }, { on := 10, ground := Go.Ground.textOnly Go.Departure.lateStores }, { on := 11, ground := Go.Ground.textOnly Go.Departure.lateStores }, { on := 12, ground := Go.Ground.textOnly Go.Departure.lateStores }, { on := 13, ground := Go.Ground.textOnly Go.Departure.lateStores }, { on := 14, ground := Go.Ground.textOnly Go.Departure.lateStores }, { on := 15, ground := Go.Ground.textOnly Go.Departure.lateStores }, { on := 16, ground := Go.Ground.textOnly Go.Departure.lateStoresUnsure }], guard := none }) (v := ?vg24) rfl (by kernel_rfl) (fun _ _ _ h => h) (Or.inr hHeld23) (Or.inl ⟨by rfl, ?yg24⟩) ?_
              case yg24 => (intro wS _; go_simp <;> with_reducible rfl)
              try simp only [Act.put, List.setIfInBounds_toArray, List.set_cons_zero, List.set_cons_succ]
              refine wpG_one (i := 16) (o := { dst := some 95, op := Go.Op.call { callee := Go.Callee.builtin Go.Builtin.append, args := #[Go.Operand.tmp 85, Go.Operand.tmp 94], argTypes := #[23, 23] }, type := 23, pos := "l12_machine.go:132", after := #[{ on := 6, ground := Go.Ground.data }, { on := 15, ground := Go.Ground.data }, { on := 4, ground := Go.Ground.chain }], guard := none }) rfl (by kernel_rfl) (fun K hK => ?_)
              obtain ⟨vss_175, fps_175, hrow, howl, hfp, hnd, hge⟩ := BD_163.out
              rw [HLT2.out] at hrow
              have ROW_175 := Lib.hid hrow; have OWL_175 := Lib.hid howl; have NDU_175 := Lib.hid (hfp ▸ hnd); have GE_175 := Lib.hid (fun b hb => hge b (hfp ▸ hb)); have FPE_175 := Lib.hid hfp; clear hrow howl hnd hge hfp
              refine step_append_lies _ rfl (.tmp 85) (.tmp 94) 23 rfl (G4 + 2) 4 i2 (.bool false) 1 1 Try.underlying23 hi2 hx0 hx1 hx2 rfl (by decide) v2 i vss_175.flatten rfl ROW_175.out ⟨w7.heap.size + 1, 0, none⟩ 1 1 [.bool es] rfl rfl (news_at c_172) (by simp [Value.oneCell']) (by omega) HC3.out HC6.out (by first | omega | (simp; omega)) _ rfl ?_
              intro g12 cp12 w12 hown hgrow hat hlt4
              have HG_176 := Lib.hid hgrow; have HATHG_176 := Lib.hid hat; have HONHG_176 := Lib.hid hown
              clear hgrow hat hown
              have hz_177 : w11.heap.size ≤ w12.heap.size := by have := HG_176.out.size; first | omega | (simp at this; omega)
              have LT_178 : Hid (∀ b ∈ (g11 :: (fps_147.flatten ++ [N])), b < w11.heap.size) := Lib.hid (fun b hm => by have := (BD_154.out.lt kIntS_ok b hm); first | exact this | omega | (simp at this; omega))
              have LT_179 : Hid (∀ b ∈ fp2, b < w11.heap.size) := Lib.hid (fun b hm => by have := (BD_163.out.lt kBool_ok b hm); first | exact this | omega | (simp at this; omega))
              have LT_180 : Hid (∀ b ∈ [g'], b < w11.heap.size) := Lib.hid (fun b hm => by have := (kIntS_ok.olt OW_165.out b hm); first | exact this | omega | (simp at this; omega))
              have BD_181 := Lib.hid (Bd.app HLT2.out kBool_ok ROW_175.out OWL_175.out NDU_175.out GE_175.out ⟨rfl, rfl, trivial⟩ List.nodup_nil (fun b hb => absurd hb (by simp)) (fun b hb => absurd hb (by simp)) HONHG_176.out HG_176.out HATHG_176.out (by first | omega | (simp; done) | (simp; omega)))
              have c_182 : w12.cell? ⟨(G4 + 1), 0, none⟩ = some (v1) := BD_163.out.cell_grown HG_176.out c_155 (by first | omega | (simp; done) | (simp; omega))
              have c_183 : w12.cell? ⟨(G4 + 1), 1, none⟩ = some (v2) := BD_163.out.cell_grown HG_176.out c_156 (by first | omega | (simp; done) | (simp; omega))
              have z_184 : w12.frozen? ⟨(G4 + 1), 0, none⟩ = false := BD_163.out.frozen_grown HG_176.out (by first | omega | (simp; done) | (simp; omega)) z_157 (by first | omega | (simp; done) | (simp; omega))
              have z_185 : w12.frozen? ⟨(G4 + 1), 1, none⟩ = false := BD_163.out.frozen_grown HG_176.out (by first | omega | (simp; done) | (simp; omega)) z_158 (by first | omega | (simp; done) | (simp; omega))
              have c_186 : w12.cell? ⟨w.heap.size, 1, none⟩ = some (.slice (some ⟨bA, fA, none⟩) a0.2.length ecap') := BD_163.out.cell_grown HG_176.out c_159 (by first | omega | (simp; done) | (simp; omega))
              have c_187 : w12.cell? ⟨bA, fA + f.toNat, none⟩ = some (.bool es) := BD_163.out.cell_grown HG_176.out c_160 (by first | omega | (simp; done) | (simp; omega))
              have c_188 : w12.cell? ⟨g', i, none⟩ = some (.int .i64 f) := (HG_176.out.cell_far ⟨g', i, none⟩ (World.block_lt_of_cell? _ _ c_161) (fun he => DG2.out _ (by simp) (BD_163.out.own_mem _ he.symm))).trans c_161
              have hz_189 : G4 + 2 ≤ w12.heap.size := Nat.le_trans hz_162 hz_177
              have BD_190 := Lib.hid (BD_154.out.grown kIntS_ok HG_176.out (fun k hk hm => (fun x hx hy => ND_164.out x hy hx) k (BD_163.out.own_mem k hk) hm))
              have ND_191 : Hid (∀ b ∈ (g12 :: (fps_175.flatten ++ [])), b ∉ (g11 :: (fps_147.flatten ++ [N]))) := Lib.hid (fun b hm hs => (app_in HATHG_176.out hm).elim (fun h => (fun x hx hy => ND_164.out x hy hx) b (FPE_175.out ▸ h) hs) (fun h => h.elim (fun h => by simp at h) (fun h => by have := LT_178.out b hs; first | omega | (simp at h; omega))))
              have OW_192 := Lib.hid (kIntS_ok.oframe OW_165.out (w' := w12) fun b hm => HG_176.out.block b (kIntS_ok.olt OW_165.out b hm) (fun he => DG2.out b hm (BD_163.out.own_mem b he.symm)))
              have ND_193 : Hid (∀ b ∈ (g12 :: (fps_175.flatten ++ [])), b ∉ [g']) := Lib.hid (fun b hm hs => (app_in HATHG_176.out hm).elim (fun h => (fun x hx hy => DG2.out x hy hx) b (FPE_175.out ▸ h) hs) (fun h => h.elim (fun h => by simp at h) (fun h => by have := LT_180.out b hs; first | omega | (simp at h; omega))))
              have BL_194 := Lib.hid (Below.grown BL_167.out HG_176.out (by have := (BL_167.out).size; first | omega | (simp at this; omega) | (simp at this ⊢; omega)) (fun k hk => Nat.le_trans (by first | omega | (simp; done) | (simp; omega)) (BD_163.out.own_ge k hk)))
              have BL_195 := Lib.hid (Below.grown BL_168.out HG_176.out (by have := (BL_168.out).size; first | omega | (simp at this; omega) | (simp at this ⊢; omega)) (fun k hk => Nat.le_trans (by first | omega | (simp; done) | (simp; omega)) (BD_163.out.own_ge k hk)))
              have c_196 : w12.cell? ⟨w7.heap.size + 1, 0, none⟩ = some (.bool es) := (HG_176.out.cell_far ⟨w7.heap.size + 1, 0, none⟩ (World.block_lt_of_cell? _ _ c_172) (fun he => ND_144.out _ (by simp) (BD_163.out.own_mem _ he.symm))).trans c_172
              have z_197 : w12.frozen? ⟨w7.heap.size + 1, 0, none⟩ = false := (HG_176.out.frozen_far ⟨w7.heap.size + 1, 0, none⟩ (by first | omega | (simp; done) | (simp; omega)) (fun he => ND_144.out _ (by simp) (BD_163.out.own_mem _ he.symm))).trans z_173
              have hz_198 : w7.heap.size + 1 + 1 ≤ w12.heap.size := Nat.le_trans hz_174 hz_177
              refine hK.out _ _ (Or.inl (by kernel_rfl)) (fun _ => ?_)
              clear hK K
              try simp only [Act.put, List.setIfInBounds_toArray, List.set_cons_zero, List.set_cons_succ]
              refine wpG_one (i := 18) (o := { dst := none, op := Go.Op.store 22 (Go.Operand.tmp 96) (Go.Operand.tmp 83), type := 0, pos := "l12_machine.go:132", after := #[{ on := 17, ground := Go.Ground.data }, { on := 4, ground := Go.Ground.data }, { on := 16, ground := Go.Ground.chain }, { on := 0, ground := Go.Ground.phase }, { on := 1, ground := Go.Ground.phase }, { on := 2, ground := Go.Ground.phase }, { on := 3, ground := Go.Ground.phase }, { on := 4, ground := Go.Ground.phase }, { on := 5, ground := Go.Ground.phase }, { on := 6, ground := Go.Ground.phase }, { on := 7, ground := Go.Ground.textOnly Go.Departure.lateStores }, { on := 8, ground := Go.Ground.textOnly Go.Departure.lateStores }, { on := 9, ground := Go.Ground.textOnly Go.Departure.lateStores }, { on := 10, ground := Go.Ground.textOnly Go.Departure.lateStores }, { on := 11, ground := Go.Ground.textOnly Go.Departure.lateStores }, { on := 12, ground := Go.Ground.textOnly Go.Departure.lateStores }, { on := 13, ground := Go.Ground.textOnly Go.Departure.lateStores }, { on := 14, ground := Go.Ground.textOnly Go.Departure.lateStores }, { on := 15, ground := Go.Ground.textOnly Go.Departure.lateStores }, { on := 16, ground := Go.Ground.textOnly Go.Departure.lateStoresUnsure }], guard := none }) rfl (by kernel_rfl) (fun K hK => ?_)
              go_simp
              refine hK.out _ _ (Or.inl (by kernel_rfl)) (fun _ => ?_)
              clear hK K
              try simp only [Act.put, List.setIfInBounds_toArray, List.set_cons_zero, List.set_cons_succ]
              refine wpG_pure (i := 19) (oi := { dst := some 97, op := Go.Op.fieldAddr 28 (Go.Operand.tmp 8) 1, type := 0, pos := "l12_machine.go:132", after := #[{ on := 0, ground := Go.Ground.phase }, { on := 1, ground := Go.Ground.phase }, { on := 2, ground := Go.Ground.phase }, { on := 3, ground := Go.Ground.phase }, { on := 4, ground := Go.Ground.phase }, { on := 5, ground := Go.Ground.phase }, { on := 6, ground := Go.Ground.phase }, { on := 7, ground := Go.Ground.phase }, { on := 8, ground := Go.Ground.phase }, { on := 9, ground := Go.Ground.phase }, { on := 10, ground := Go.Ground.phase }, { on := 11, ground := Go.Ground.phase }, { on := 12, ground := Go.Ground.phase }, { on := 13, ground := Go.Ground.phase }, { on := 14, ground := Go.Ground.phase }, { on := 15, ground := Go.Ground.phase }, { on := 16, ground := Go.Ground.phase }, { on := 17, ground := Go.Ground.phase }, { on := 18, ground := Go.Ground.phase }], guard := none }) (v := ?vg27) rfl (by kernel_rfl) (fun _ _ _ h => h) (Or.inl (by kernel_rfl)) (Or.inl ⟨by rfl, ?yg27⟩) ?_
              case yg27 => (intro wS _; go_simp <;> with_reducible rfl)
              try simp only [Act.put, List.setIfInBounds_toArray, List.set_cons_zero, List.set_cons_succ]
              refine wpG_one (i := 20) (o := { dst := none, op := Go.Op.store 23 (Go.Operand.tmp 97) (Go.Operand.tmp 95), type := 0, pos := "l12_machine.go:132", after := #[{ on := 19, ground := Go.Ground.data }, { on := 16, ground := Go.Ground.data }, { on := 18, ground := Go.Ground.chain }, { on := 0, ground := Go.Ground.phase }, { on := 1, ground := Go.Ground.phase }, { on := 2, ground := Go.Ground.phase }, { on := 3, ground := Go.Ground.phase }, { on := 4, ground := Go.Ground.phase }, { on := 5, ground := Go.Ground.phase }, { on := 6, ground := Go.Ground.phase }, { on := 7, ground := Go.Ground.phase }, { on := 8, ground := Go.Ground.phase }, { on := 9, ground := Go.Ground.phase }, { on := 10, ground := Go.Ground.phase }, { on := 11, ground := Go.Ground.phase }, { on := 12, ground := Go.Ground.phase }, { on := 13, ground := Go.Ground.phase }, { on := 14, ground := Go.Ground.phase }, { on := 15, ground := Go.Ground.phase }, { on := 16, ground := Go.Ground.phase }, { on := 17, ground := Go.Ground.phase }, { on := 18, ground := Go.Ground.phase }], guard := none }) rfl (by kernel_rfl) (fun K hK => ?_)
              go_simp
              refine hK.out _ _ (Or.inl (by kernel_rfl)) (fun _ => ?_)
              clear hK K
              try simp only [Act.put, List.setIfInBounds_toArray, List.set_cons_zero, List.set_cons_succ]
              refine wpG_done (by kernel_rfl) ?_
              go_wp2_with fail
              go_roundw
              case rel =>
                have hb1 := (BD_190.out.setCell kIntS_ok (a := ⟨G4 + 1, 0, none⟩) (by show G4 + 1 < G4 + 2; omega) (.slice (some ⟨g11, 0, none⟩) (i + 1) cp11)).setCell kIntS_ok (a := ⟨G4 + 1, 1, none⟩) (by show G4 + 1 < G4 + 2; omega) (.slice (some ⟨g12, 0, none⟩) (i + 1) cp12)
                have hb2 := (BD_181.out.setCell kBool_ok (a := ⟨G4 + 1, 0, none⟩) (by show G4 + 1 < G4 + 2; omega) (.slice (some ⟨g11, 0, none⟩) (i + 1) cp11)).setCell kBool_ok (a := ⟨G4 + 1, 1, none⟩) (by show G4 + 1 < G4 + 2; omega) (.slice (some ⟨g12, 0, none⟩) (i + 1) cp12)
                rw [HT1.out] at hb1; rw [HT2.out] at hb2
                refine ⟨i + 1, g', cp', F', _, _, _, _, by omega, HN1.out, by go_num, rfl, ⟨hgb1, hgb⟩, Lib.hid (by rw [HNX.out]; exact HFJ.out), Lib.hid ?_, Lib.hid ?_, Lib.hid ⟨?_, ?_, ?_, ?_, ?_⟩, Lib.hid hb1, Lib.hid hb2, Lib.hid (fun x hx hy => ND_191.out x hy hx), Lib.hid ⟨(fun x hx hy => ND_166.out x hy hx) g' (by simp), (fun x hx hy => ND_193.out x hy hx) g' (by simp)⟩, Lib.hid ((BL_194.out.setCell (p := ⟨G4 + 1, 0, none⟩) (by show w2.heap.size ≤ G4 + 1; omega) _).setCell (p := ⟨G4 + 1, 1, none⟩) (by show w2.heap.size ≤ G4 + 1; omega) _)⟩
                · exact own_frame (ints_kun OW_192.out) (fun b hb => (Below.heap_setCell _ _ _ _ (by simp [Value.ownBlock] at hb; show b ≠ G4 + 1; omega)).trans (Below.heap_setCell _ _ _ _ (by simp [Value.ownBlock] at hb; show b ≠ G4 + 1; omega)))
                · exact HM6.out.frame (((Below.heap_setCell _ _ _ _ (by show w2.heap.size ≠ G4 + 1; omega)).trans (Below.heap_setCell _ _ _ _ (by show w2.heap.size ≠ G4 + 1; omega))).trans (BL_195.out.block w2.heap.size (by omega)))
                · go_simp
                · go_simp
                · go_simp
                · go_simp
                · rw [World.size_setCell, World.size_setCell]; omega
              case measure => (simp [intOf]; try omega)
          · skip
            go_simp
            have LT_199 : Hid (∀ b ∈ fp1, b < w7.heap.size) := Lib.hid (fun b hm => by have := (BD_11.out.lt kIntS_ok b hm); first | exact this | omega | (simp at this; omega))
            have LT_200 : Hid (∀ b ∈ fp2, b < w7.heap.size) := Lib.hid (fun b hm => by have := (BD_12.out.lt kBool_ok b hm); first | exact this | omega | (simp at this; omega))
            have LT_201 : Hid (∀ b ∈ [N], b < w7.heap.size) := Lib.hid (fun b hm => by have := (kIntS_ok.olt OW_13.out b hm); first | exact this | omega | (simp at this; omega))
            have LT_202 : Hid (∀ b ∈ [g'], b < w7.heap.size) := Lib.hid (fun b hm => by have := (kIntS_ok.olt OW_14.out b hm); first | exact this | omega | (simp at this; omega))
            have hb_203 : Below w7.drew.heap.size w7.drew (w7.alloc (.cells #[.bool es] 4)).drew := below_alloc_drew _ _
            have hz_204 : w7.heap.size ≤ w7.heap.size + 1 := by have := (hb_203).size; first | omega | (simp at this; omega)
            have c_205 : (w7.alloc (.cells #[.bool es] 4)).drew.cell? ⟨(G4 + 1), 0, none⟩ = some (v1) := below_later hb_203 c_3; clear c_3
            have c_206 : (w7.alloc (.cells #[.bool es] 4)).drew.cell? ⟨(G4 + 1), 1, none⟩ = some (v2) := below_later hb_203 c_4; clear c_4
            have z_207 : (w7.alloc (.cells #[.bool es] 4)).drew.frozen? ⟨(G4 + 1), 0, none⟩ = false := (Below.frozen hb_203 (p := ⟨(G4 + 1), 0, none⟩) (by show (G4 + 1) < _; first | omega | (simp; done) | (simp; omega))).trans z_5
            have z_208 : (w7.alloc (.cells #[.bool es] 4)).drew.frozen? ⟨(G4 + 1), 1, none⟩ = false := (Below.frozen hb_203 (p := ⟨(G4 + 1), 1, none⟩) (by show (G4 + 1) < _; first | omega | (simp; done) | (simp; omega))).trans z_6
            have c_209 : (w7.alloc (.cells #[.bool es] 4)).drew.cell? ⟨w.heap.size, 1, none⟩ = some (.slice (some ⟨bA, fA, none⟩) a0.2.length ecap') := below_later hb_203 c_7; clear c_7
            have c_210 : (w7.alloc (.cells #[.bool es] 4)).drew.cell? ⟨bA, fA + f.toNat, none⟩ = some (.bool es) := below_later hb_203 c_8; clear c_8
            have c_211 : (w7.alloc (.cells #[.bool es] 4)).drew.cell? ⟨g', i, none⟩ = some (.int .i64 f) := below_later hb_203 c_9; clear c_9
            have hz_212 : G4 + 2 ≤ w7.heap.size + 1 := Nat.le_trans hz_10 hz_204
            have BD_213 := Lib.hid (BD_11.out.later kIntS_ok hb_203)
            have BD_214 := Lib.hid (BD_12.out.later kBool_ok hb_203)
            have OW_215 := Lib.hid (kIntS_ok.oframe OW_13.out (w' := (w7.alloc (.cells #[.bool es] 4)).drew) fun b hm => (hb_203).block b (kIntS_ok.olt OW_13.out b hm))
            have OW_216 := Lib.hid (kIntS_ok.oframe OW_14.out (w' := (w7.alloc (.cells #[.bool es] 4)).drew) fun b hm => (hb_203).block b (kIntS_ok.olt OW_14.out b hm))
            have BL_217 := Lib.hid (Below.trans BL_15.out (Below.mono hb_203 (by have := (BL_15.out).size; first | omega | (simp at this; omega) | (simp at this ⊢; omega))))
            have BL_218 := Lib.hid (Below.trans BL_16.out (Below.mono hb_203 (by have := (BL_16.out).size; first | omega | (simp at this; omega) | (simp at this ⊢; omega))))
            clear hb_203
            have c_219 : (w7.alloc (.cells #[.bool es] 4)).drew.cell? ⟨w7.heap.size, 0, none⟩ = some (.bool es) := by go_simp
            have z_220 : (w7.alloc (.cells #[.bool es] 4)).drew.frozen? ⟨w7.heap.size, 0, none⟩ = false := by go_simp
            have hz_221 : w7.heap.size < w7.heap.size + 1 := by omega
            have ND_222 : Hid (∀ b ∈ [w7.heap.size], b ∉ fp1) := Lib.hid (by intro b hb hm; simp only [List.mem_singleton] at hb; subst hb; have := (LT_199.out _ hm); first | omega | (simp at this; omega))
            have ND_223 : Hid (∀ b ∈ [w7.heap.size], b ∉ fp2) := Lib.hid (by intro b hb hm; simp only [List.mem_singleton] at hb; subst hb; have := (LT_200.out _ hm); first | omega | (simp at this; omega))
            have ND_224 : Hid (∀ b ∈ [w7.heap.size], b ∉ [N]) := Lib.hid (by intro b hb hm; simp only [List.mem_singleton] at hb; subst hb; have := (LT_201.out _ hm); first | omega | (simp at this; omega))
            have ND_225 : Hid (∀ b ∈ [w7.heap.size], b ∉ [g']) := Lib.hid (by intro b hb hm; simp only [List.mem_singleton] at hb; subst hb; have := (LT_202.out _ hm); first | omega | (simp at this; omega))
            refine hK.out _ _ (Or.inr ?khHeld29) (fun hHeld29S => ?_)
            case khHeld29 => exact ⟨c_205, c_206, c_209, c_211, c_210⟩
            have hHeld29 := hHeld29S.held (by kernel_rfl)
            clear hK K
            try simp only [Act.put, List.setIfInBounds_toArray, List.set_cons_zero, List.set_cons_succ]
            refine wpG_one (i := 3) (o := { dst := some 82, op := Go.Op.buildSlice 22 1 #[(0, Go.Operand.tmp 81)], type := 22, pos := "l12_machine.go:132", after := #[{ on := 2, ground := Go.Ground.data }], guard := none }) rfl (by kernel_rfl) (fun K hK => ?_)
            go_simp
            have LT_226 : Hid (∀ b ∈ fp1, b < w7.heap.size + 1) := Lib.hid (fun b hm => by have := (BD_213.out.lt kIntS_ok b hm); first | exact this | omega | (simp at this; omega))
            have LT_227 : Hid (∀ b ∈ fp2, b < w7.heap.size + 1) := Lib.hid (fun b hm => by have := (BD_214.out.lt kBool_ok b hm); first | exact this | omega | (simp at this; omega))
            have LT_228 : Hid (∀ b ∈ [N], b < w7.heap.size + 1) := Lib.hid (fun b hm => by have := (kIntS_ok.olt OW_215.out b hm); first | exact this | omega | (simp at this; omega))
            have LT_229 : Hid (∀ b ∈ [g'], b < w7.heap.size + 1) := Lib.hid (fun b hm => by have := (kIntS_ok.olt OW_216.out b hm); first | exact this | omega | (simp at this; omega))
            have hb_230 : Below (w7.alloc (.cells #[.bool es] 4)).drew.heap.size (w7.alloc (.cells #[.bool es] 4)).drew ((w7.alloc (.cells #[.bool es] 4)).alloc (.cells #[.slice (some ⟨N, 0, none⟩) 3 3] 42)).drew := below_alloc_drew _ _
            have hz_231 : w7.heap.size + 1 ≤ w7.heap.size + 1 + 1 := by have := (hb_230).size; first | omega | (simp at this; omega)
            have c_232 : ((w7.alloc (.cells #[.bool es] 4)).alloc (.cells #[.slice (some ⟨N, 0, none⟩) 3 3] 42)).drew.cell? ⟨(G4 + 1), 0, none⟩ = some (v1) := below_later hb_230 c_205; clear c_205
            have c_233 : ((w7.alloc (.cells #[.bool es] 4)).alloc (.cells #[.slice (some ⟨N, 0, none⟩) 3 3] 42)).drew.cell? ⟨(G4 + 1), 1, none⟩ = some (v2) := below_later hb_230 c_206; clear c_206
            have z_234 : ((w7.alloc (.cells #[.bool es] 4)).alloc (.cells #[.slice (some ⟨N, 0, none⟩) 3 3] 42)).drew.frozen? ⟨(G4 + 1), 0, none⟩ = false := (Below.frozen hb_230 (p := ⟨(G4 + 1), 0, none⟩) (by show (G4 + 1) < _; first | omega | (simp; done) | (simp; omega))).trans z_207
            have z_235 : ((w7.alloc (.cells #[.bool es] 4)).alloc (.cells #[.slice (some ⟨N, 0, none⟩) 3 3] 42)).drew.frozen? ⟨(G4 + 1), 1, none⟩ = false := (Below.frozen hb_230 (p := ⟨(G4 + 1), 1, none⟩) (by show (G4 + 1) < _; first | omega | (simp; done) | (simp; omega))).trans z_208
            have c_236 : ((w7.alloc (.cells #[.bool es] 4)).alloc (.cells #[.slice (some ⟨N, 0, none⟩) 3 3] 42)).drew.cell? ⟨w.heap.size, 1, none⟩ = some (.slice (some ⟨bA, fA, none⟩) a0.2.length ecap') := below_later hb_230 c_209; clear c_209
            have c_237 : ((w7.alloc (.cells #[.bool es] 4)).alloc (.cells #[.slice (some ⟨N, 0, none⟩) 3 3] 42)).drew.cell? ⟨bA, fA + f.toNat, none⟩ = some (.bool es) := below_later hb_230 c_210; clear c_210
            have c_238 : ((w7.alloc (.cells #[.bool es] 4)).alloc (.cells #[.slice (some ⟨N, 0, none⟩) 3 3] 42)).drew.cell? ⟨g', i, none⟩ = some (.int .i64 f) := below_later hb_230 c_211; clear c_211
            have hz_239 : G4 + 2 ≤ w7.heap.size + 1 + 1 := Nat.le_trans hz_212 hz_231
            have BD_240 := Lib.hid (BD_213.out.later kIntS_ok hb_230)
            have BD_241 := Lib.hid (BD_214.out.later kBool_ok hb_230)
            have OW_242 := Lib.hid (kIntS_ok.oframe OW_215.out (w' := ((w7.alloc (.cells #[.bool es] 4)).alloc (.cells #[.slice (some ⟨N, 0, none⟩) 3 3] 42)).drew) fun b hm => (hb_230).block b (kIntS_ok.olt OW_215.out b hm))
            have OW_243 := Lib.hid (kIntS_ok.oframe OW_216.out (w' := ((w7.alloc (.cells #[.bool es] 4)).alloc (.cells #[.slice (some ⟨N, 0, none⟩) 3 3] 42)).drew) fun b hm => (hb_230).block b (kIntS_ok.olt OW_216.out b hm))
            have BL_244 := Lib.hid (Below.trans BL_217.out (Below.mono hb_230 (by have := (BL_217.out).size; first | omega | (simp at this; omega) | (simp at this ⊢; omega))))
            have BL_245 := Lib.hid (Below.trans BL_218.out (Below.mono hb_230 (by have := (BL_218.out).size; first | omega | (simp at this; omega) | (simp at this ⊢; omega))))
            have c_246 : ((w7.alloc (.cells #[.bool es] 4)).alloc (.cells #[.slice (some ⟨N, 0, none⟩) 3 3] 42)).drew.cell? ⟨w7.heap.size, 0, none⟩ = some (.bool es) := below_later hb_230 c_219; clear c_219
            have z_247 : ((w7.alloc (.cells #[.bool es] 4)).alloc (.cells #[.slice (some ⟨N, 0, none⟩) 3 3] 42)).drew.frozen? ⟨w7.heap.size, 0, none⟩ = false := (Below.frozen hb_230 (p := ⟨w7.heap.size, 0, none⟩) (by show w7.heap.size < _; first | omega | (simp; done) | (simp; omega))).trans z_220
            have hz_248 : w7.heap.size + 1 ≤ w7.heap.size + 1 + 1 := Nat.le_trans hz_221 hz_231
            clear hb_230
            have c_249 : ((w7.alloc (.cells #[.bool es] 4)).alloc (.cells #[.slice (some ⟨N, 0, none⟩) 3 3] 42)).drew.cell? ⟨w7.heap.size + 1, 0, none⟩ = some (.slice (some ⟨N, 0, none⟩) 3 3) := by go_simp
            have z_250 : ((w7.alloc (.cells #[.bool es] 4)).alloc (.cells #[.slice (some ⟨N, 0, none⟩) 3 3] 42)).drew.frozen? ⟨w7.heap.size + 1, 0, none⟩ = false := by go_simp
            have hz_251 : w7.heap.size + 1 < w7.heap.size + 1 + 1 := by omega
            have ND_252 : Hid (∀ b ∈ [w7.heap.size + 1], b ∉ fp1) := Lib.hid (by intro b hb hm; simp only [List.mem_singleton] at hb; subst hb; have := (LT_226.out _ hm); first | omega | (simp at this; omega))
            have ND_253 : Hid (∀ b ∈ [w7.heap.size + 1], b ∉ fp2) := Lib.hid (by intro b hb hm; simp only [List.mem_singleton] at hb; subst hb; have := (LT_227.out _ hm); first | omega | (simp at this; omega))
            have ND_254 : Hid (∀ b ∈ [w7.heap.size + 1], b ∉ [N]) := Lib.hid (by intro b hb hm; simp only [List.mem_singleton] at hb; subst hb; have := (LT_228.out _ hm); first | omega | (simp at this; omega))
            have ND_255 : Hid (∀ b ∈ [w7.heap.size + 1], b ∉ [g']) := Lib.hid (by intro b hb hm; simp only [List.mem_singleton] at hb; subst hb; have := (LT_229.out _ hm); first | omega | (simp at this; omega))
            refine hK.out _ _ (Or.inr ?khHeld30) (fun hHeld30S => ?_)
            case khHeld30 => exact ⟨c_232, c_233, c_236, c_238, c_237⟩
            have hHeld30 := hHeld30S.held (by kernel_rfl)
            clear hK K
            try simp only [Act.put, List.setIfInBounds_toArray, List.set_cons_zero, List.set_cons_succ]
            refine wpG_one (i := 4) (o := { dst := some 83, op := Go.Op.call { callee := Go.Callee.builtin Go.Builtin.append, args := #[Go.Operand.tmp 80, Go.Operand.tmp 82], argTypes := #[22, 22] }, type := 22, pos := "l12_machine.go:132", after := #[{ on := 1, ground := Go.Ground.data }, { on := 3, ground := Go.Ground.data }], guard := none }) rfl (by kernel_rfl) (fun K hK => ?_)
            obtain ⟨vss_256, fps_256, hrow, howl, hfp, hnd, hge⟩ := BD_240.out
            rw [HLT1.out] at hrow
            have ROW_256 := Lib.hid hrow; have OWL_256 := Lib.hid howl; have NDU_256 := Lib.hid (hfp ▸ hnd); have GE_256 := Lib.hid (fun b hb => hge b (hfp ▸ hb)); have FPE_256 := Lib.hid hfp; clear hrow howl hnd hge hfp
            refine step_append_lies _ rfl (.tmp 80) (.tmp 82) 22 rfl (G4 + 2) 42 i1 (.slice none 0 0) 1 24 Try.underlying22 hi1 hy0 hy1 hy2 rfl (by decide) v1 i vss_256.flatten rfl ROW_256.out ⟨w7.heap.size + 1, 0, none⟩ 1 1 [.slice (some ⟨N, 0, none⟩) 3 3] rfl rfl (news_at c_249) (by simp [Value.oneCell']) (by omega) HC3.out HC4.out (by first | omega | (simp; omega)) _ rfl ?_
            intro g11 cp11 w11 hown hgrow hat hlt4
            have HG_257 := Lib.hid hgrow; have HATHG_257 := Lib.hid hat; have HONHG_257 := Lib.hid hown
            clear hgrow hat hown
            have hz_258 : w7.heap.size + 1 + 1 ≤ w11.heap.size := by have := HG_257.out.size; first | omega | (simp at this; omega)
            have LT_259 : Hid (∀ b ∈ fp1, b < w7.heap.size + 1 + 1) := Lib.hid (fun b hm => by have := (BD_240.out.lt kIntS_ok b hm); first | exact this | omega | (simp at this; omega))
            have LT_260 : Hid (∀ b ∈ fp2, b < w7.heap.size + 1 + 1) := Lib.hid (fun b hm => by have := (BD_241.out.lt kBool_ok b hm); first | exact this | omega | (simp at this; omega))
            have LT_261 : Hid (∀ b ∈ [N], b < w7.heap.size + 1 + 1) := Lib.hid (fun b hm => by have := (kIntS_ok.olt OW_242.out b hm); first | exact this | omega | (simp at this; omega))
            have LT_262 : Hid (∀ b ∈ [g'], b < w7.heap.size + 1 + 1) := Lib.hid (fun b hm => by have := (kIntS_ok.olt OW_243.out b hm); first | exact this | omega | (simp at this; omega))
            have BD_263 := Lib.hid (Bd.app HLT1.out kIntS_ok ROW_256.out OWL_256.out NDU_256.out GE_256.out OW_242.out (by simp) (fun b hb hm => DQ1.out b hb (FPE_256.out ▸ hm)) (fun b hb => by simp only [List.mem_singleton] at hb; omega) HONHG_257.out HG_257.out HATHG_257.out (by first | omega | (simp; done) | (simp; omega)))
            have c_264 : w11.cell? ⟨(G4 + 1), 0, none⟩ = some (v1) := BD_240.out.cell_grown HG_257.out c_232 (by first | omega | (simp; done) | (simp; omega))
            have c_265 : w11.cell? ⟨(G4 + 1), 1, none⟩ = some (v2) := BD_240.out.cell_grown HG_257.out c_233 (by first | omega | (simp; done) | (simp; omega))
            have z_266 : w11.frozen? ⟨(G4 + 1), 0, none⟩ = false := BD_240.out.frozen_grown HG_257.out (by first | omega | (simp; done) | (simp; omega)) z_234 (by first | omega | (simp; done) | (simp; omega))
            have z_267 : w11.frozen? ⟨(G4 + 1), 1, none⟩ = false := BD_240.out.frozen_grown HG_257.out (by first | omega | (simp; done) | (simp; omega)) z_235 (by first | omega | (simp; done) | (simp; omega))
            have c_268 : w11.cell? ⟨w.heap.size, 1, none⟩ = some (.slice (some ⟨bA, fA, none⟩) a0.2.length ecap') := BD_240.out.cell_grown HG_257.out c_236 (by first | omega | (simp; done) | (simp; omega))
            have c_269 : w11.cell? ⟨bA, fA + f.toNat, none⟩ = some (.bool es) := BD_240.out.cell_grown HG_257.out c_237 (by first | omega | (simp; done) | (simp; omega))
            have c_270 : w11.cell? ⟨g', i, none⟩ = some (.int .i64 f) := (HG_257.out.cell_far ⟨g', i, none⟩ (World.block_lt_of_cell? _ _ c_238) (fun he => DG1.out _ (by simp) (BD_240.out.own_mem _ he.symm))).trans c_238
            have hz_271 : G4 + 2 ≤ w11.heap.size := Nat.le_trans hz_239 hz_258
            have BD_272 := Lib.hid (BD_241.out.grown kBool_ok HG_257.out (fun k hk hm => DIS.out k (BD_240.out.own_mem k hk) hm))
            have ND_273 : Hid (∀ b ∈ (g11 :: (fps_256.flatten ++ [N])), b ∉ fp2) := Lib.hid (fun b hm hs => (app_in HATHG_257.out hm).elim (fun h => DIS.out b (FPE_256.out ▸ h) hs) (fun h => h.elim (fun h => by exact DQ2.out b h hs) (fun h => by have := LT_260.out b hs; first | omega | (simp at h; omega))))
            have OW_274 := Lib.hid (kIntS_ok.oframe OW_243.out (w' := w11) fun b hm => HG_257.out.block b (kIntS_ok.olt OW_243.out b hm) (fun he => DG1.out b hm (BD_240.out.own_mem b he.symm)))
            have ND_275 : Hid (∀ b ∈ (g11 :: (fps_256.flatten ++ [N])), b ∉ [g']) := Lib.hid (fun b hm hs => (app_in HATHG_257.out hm).elim (fun h => (fun x hx hy => DG1.out x hy hx) b (FPE_256.out ▸ h) hs) (fun h => h.elim (fun h => by exact DQG.out b h hs) (fun h => by have := LT_262.out b hs; first | omega | (simp at h; omega))))
            have BL_276 := Lib.hid (Below.grown BL_244.out HG_257.out (by have := (BL_244.out).size; first | omega | (simp at this; omega) | (simp at this ⊢; omega)) (fun k hk => Nat.le_trans (by first | omega | (simp; done) | (simp; omega)) (BD_240.out.own_ge k hk)))
            have BL_277 := Lib.hid (Below.grown BL_245.out HG_257.out (by have := (BL_245.out).size; first | omega | (simp at this; omega) | (simp at this ⊢; omega)) (fun k hk => Nat.le_trans (by first | omega | (simp; done) | (simp; omega)) (BD_240.out.own_ge k hk)))
            have c_278 : w11.cell? ⟨w7.heap.size, 0, none⟩ = some (.bool es) := (HG_257.out.cell_far ⟨w7.heap.size, 0, none⟩ (World.block_lt_of_cell? _ _ c_246) (fun he => ND_222.out _ (by simp) (BD_240.out.own_mem _ he.symm))).trans c_246
            have z_279 : w11.frozen? ⟨w7.heap.size, 0, none⟩ = false := (HG_257.out.frozen_far ⟨w7.heap.size, 0, none⟩ (by first | omega | (simp; done) | (simp; omega)) (fun he => ND_222.out _ (by simp) (BD_240.out.own_mem _ he.symm))).trans z_247
            have hz_280 : w7.heap.size + 1 ≤ w11.heap.size := Nat.le_trans hz_248 hz_258
            have c_281 : w11.cell? ⟨w7.heap.size + 1, 0, none⟩ = some (.slice (some ⟨N, 0, none⟩) 3 3) := (HG_257.out.cell_far ⟨w7.heap.size + 1, 0, none⟩ (World.block_lt_of_cell? _ _ c_249) (fun he => ND_252.out _ (by simp) (BD_240.out.own_mem _ he.symm))).trans c_249
            have z_282 : w11.frozen? ⟨w7.heap.size + 1, 0, none⟩ = false := (HG_257.out.frozen_far ⟨w7.heap.size + 1, 0, none⟩ (by first | omega | (simp; done) | (simp; omega)) (fun he => ND_252.out _ (by simp) (BD_240.out.own_mem _ he.symm))).trans z_250
            have hz_283 : w7.heap.size + 1 + 1 ≤ w11.heap.size := Nat.le_trans hz_251 hz_258
            refine hK.out _ _ (Or.inr ?khHeld31) (fun hHeld31S => ?_)
            case khHeld31 => exact ⟨c_264, c_265, c_268, c_270, c_269⟩
            have hHeld31 := hHeld31S.held (by kernel_rfl)
            clear hK K
            try simp only [Act.put, List.setIfInBounds_toArray, List.set_cons_zero, List.set_cons_succ]
            refine wpG_pure (i := 17) (oi := { dst := some 96, op := Go.Op.fieldAddr 28 (Go.Operand.tmp 8) 0, type := 0, pos := "l12_machine.go:132", after := #[{ on := 0, ground := Go.Ground.phase }, { on := 1, ground := Go.Ground.phase }, { on := 2, ground := Go.Ground.phase }, { on := 3, ground := Go.Ground.phase }, { on := 4, ground := Go.Ground.phase }, { on := 5, ground := Go.Ground.phase }, { on := 6, ground := Go.Ground.phase }, { on := 7, ground := Go.Ground.textOnly Go.Departure.lateStores }, { on := 8, ground := Go.Ground.textOnly Go.Departure.lateStores }, { on := 9, ground := Go.Ground.textOnly Go.Departure.lateStores }, { on := 10, ground := Go.Ground.textOnly Go.Departure.lateStores }, { on := 11, ground := Go.Ground.textOnly Go.Departure.lateStores }, { on := 12, ground := Go.Ground.textOnly Go.Departure.lateStores }, { on := 13, ground := Go.Ground.textOnly Go.Departure.lateStores }, { on := 14, ground := Go.Ground.textOnly Go.Departure.lateStores }, { on := 15, ground := Go.Ground.textOnly Go.Departure.lateStores }, { on := 16, ground := Go.Ground.textOnly Go.Departure.lateStoresUnsure }], guard := none }) (v := ?vg32) rfl (by kernel_rfl) (fun _ _ _ h => h) (Or.inr hHeld31) (Or.inl ⟨by rfl, ?yg32⟩) ?_
            case yg32 => (intro wS _; go_simp <;> with_reducible rfl)
            try simp only [Act.put, List.setIfInBounds_toArray, List.set_cons_zero, List.set_cons_succ]
            refine wpG_one (i := 16) (o := { dst := some 95, op := Go.Op.call { callee := Go.Callee.builtin Go.Builtin.append, args := #[Go.Operand.tmp 85, Go.Operand.tmp 94], argTypes := #[23, 23] }, type := 23, pos := "l12_machine.go:132", after := #[{ on := 6, ground := Go.Ground.data }, { on := 15, ground := Go.Ground.data }, { on := 4, ground := Go.Ground.chain }], guard := none }) rfl (by kernel_rfl) (fun K hK => ?_)
            obtain ⟨vss_284, fps_284, hrow, howl, hfp, hnd, hge⟩ := BD_272.out
            rw [HLT2.out] at hrow
            have ROW_284 := Lib.hid hrow; have OWL_284 := Lib.hid howl; have NDU_284 := Lib.hid (hfp ▸ hnd); have GE_284 := Lib.hid (fun b hb => hge b (hfp ▸ hb)); have FPE_284 := Lib.hid hfp; clear hrow howl hnd hge hfp
            refine step_append_lies _ rfl (.tmp 85) (.tmp 94) 23 rfl (G4 + 2) 4 i2 (.bool false) 1 1 Try.underlying23 hi2 hx0 hx1 hx2 rfl (by decide) v2 i vss_284.flatten rfl ROW_284.out ⟨w7.heap.size, 0, none⟩ 1 1 [.bool es] rfl rfl (news_at c_278) (by simp [Value.oneCell']) (by omega) HC3.out HC6.out (by first | omega | (simp; omega)) _ rfl ?_
            intro g12 cp12 w12 hown hgrow hat hlt4
            have HG_285 := Lib.hid hgrow; have HATHG_285 := Lib.hid hat; have HONHG_285 := Lib.hid hown
            clear hgrow hat hown
            have hz_286 : w11.heap.size ≤ w12.heap.size := by have := HG_285.out.size; first | omega | (simp at this; omega)
            have LT_287 : Hid (∀ b ∈ (g11 :: (fps_256.flatten ++ [N])), b < w11.heap.size) := Lib.hid (fun b hm => by have := (BD_263.out.lt kIntS_ok b hm); first | exact this | omega | (simp at this; omega))
            have LT_288 : Hid (∀ b ∈ fp2, b < w11.heap.size) := Lib.hid (fun b hm => by have := (BD_272.out.lt kBool_ok b hm); first | exact this | omega | (simp at this; omega))
            have LT_289 : Hid (∀ b ∈ [g'], b < w11.heap.size) := Lib.hid (fun b hm => by have := (kIntS_ok.olt OW_274.out b hm); first | exact this | omega | (simp at this; omega))
            have BD_290 := Lib.hid (Bd.app HLT2.out kBool_ok ROW_284.out OWL_284.out NDU_284.out GE_284.out ⟨rfl, rfl, trivial⟩ List.nodup_nil (fun b hb => absurd hb (by simp)) (fun b hb => absurd hb (by simp)) HONHG_285.out HG_285.out HATHG_285.out (by first | omega | (simp; done) | (simp; omega)))
            have c_291 : w12.cell? ⟨(G4 + 1), 0, none⟩ = some (v1) := BD_272.out.cell_grown HG_285.out c_264 (by first | omega | (simp; done) | (simp; omega))
            have c_292 : w12.cell? ⟨(G4 + 1), 1, none⟩ = some (v2) := BD_272.out.cell_grown HG_285.out c_265 (by first | omega | (simp; done) | (simp; omega))
            have z_293 : w12.frozen? ⟨(G4 + 1), 0, none⟩ = false := BD_272.out.frozen_grown HG_285.out (by first | omega | (simp; done) | (simp; omega)) z_266 (by first | omega | (simp; done) | (simp; omega))
            have z_294 : w12.frozen? ⟨(G4 + 1), 1, none⟩ = false := BD_272.out.frozen_grown HG_285.out (by first | omega | (simp; done) | (simp; omega)) z_267 (by first | omega | (simp; done) | (simp; omega))
            have c_295 : w12.cell? ⟨w.heap.size, 1, none⟩ = some (.slice (some ⟨bA, fA, none⟩) a0.2.length ecap') := BD_272.out.cell_grown HG_285.out c_268 (by first | omega | (simp; done) | (simp; omega))
            have c_296 : w12.cell? ⟨bA, fA + f.toNat, none⟩ = some (.bool es) := BD_272.out.cell_grown HG_285.out c_269 (by first | omega | (simp; done) | (simp; omega))
            have c_297 : w12.cell? ⟨g', i, none⟩ = some (.int .i64 f) := (HG_285.out.cell_far ⟨g', i, none⟩ (World.block_lt_of_cell? _ _ c_270) (fun he => DG2.out _ (by simp) (BD_272.out.own_mem _ he.symm))).trans c_270
            have hz_298 : G4 + 2 ≤ w12.heap.size := Nat.le_trans hz_271 hz_286
            have BD_299 := Lib.hid (BD_263.out.grown kIntS_ok HG_285.out (fun k hk hm => (fun x hx hy => ND_273.out x hy hx) k (BD_272.out.own_mem k hk) hm))
            have ND_300 : Hid (∀ b ∈ (g12 :: (fps_284.flatten ++ [])), b ∉ (g11 :: (fps_256.flatten ++ [N]))) := Lib.hid (fun b hm hs => (app_in HATHG_285.out hm).elim (fun h => (fun x hx hy => ND_273.out x hy hx) b (FPE_284.out ▸ h) hs) (fun h => h.elim (fun h => by simp at h) (fun h => by have := LT_287.out b hs; first | omega | (simp at h; omega))))
            have OW_301 := Lib.hid (kIntS_ok.oframe OW_274.out (w' := w12) fun b hm => HG_285.out.block b (kIntS_ok.olt OW_274.out b hm) (fun he => DG2.out b hm (BD_272.out.own_mem b he.symm)))
            have ND_302 : Hid (∀ b ∈ (g12 :: (fps_284.flatten ++ [])), b ∉ [g']) := Lib.hid (fun b hm hs => (app_in HATHG_285.out hm).elim (fun h => (fun x hx hy => DG2.out x hy hx) b (FPE_284.out ▸ h) hs) (fun h => h.elim (fun h => by simp at h) (fun h => by have := LT_289.out b hs; first | omega | (simp at h; omega))))
            have BL_303 := Lib.hid (Below.grown BL_276.out HG_285.out (by have := (BL_276.out).size; first | omega | (simp at this; omega) | (simp at this ⊢; omega)) (fun k hk => Nat.le_trans (by first | omega | (simp; done) | (simp; omega)) (BD_272.out.own_ge k hk)))
            have BL_304 := Lib.hid (Below.grown BL_277.out HG_285.out (by have := (BL_277.out).size; first | omega | (simp at this; omega) | (simp at this ⊢; omega)) (fun k hk => Nat.le_trans (by first | omega | (simp; done) | (simp; omega)) (BD_272.out.own_ge k hk)))
            have c_305 : w12.cell? ⟨w7.heap.size, 0, none⟩ = some (.bool es) := (HG_285.out.cell_far ⟨w7.heap.size, 0, none⟩ (World.block_lt_of_cell? _ _ c_278) (fun he => ND_223.out _ (by simp) (BD_272.out.own_mem _ he.symm))).trans c_278
            have z_306 : w12.frozen? ⟨w7.heap.size, 0, none⟩ = false := (HG_285.out.frozen_far ⟨w7.heap.size, 0, none⟩ (by first | omega | (simp; done) | (simp; omega)) (fun he => ND_223.out _ (by simp) (BD_272.out.own_mem _ he.symm))).trans z_279
            have hz_307 : w7.heap.size + 1 ≤ w12.heap.size := Nat.le_trans hz_280 hz_286
            refine hK.out _ _ (Or.inl (by kernel_rfl)) (fun _ => ?_)
            clear hK K
            try simp only [Act.put, List.setIfInBounds_toArray, List.set_cons_zero, List.set_cons_succ]
            refine wpG_one (i := 18) (o := { dst := none, op := Go.Op.store 22 (Go.Operand.tmp 96) (Go.Operand.tmp 83), type := 0, pos := "l12_machine.go:132", after := #[{ on := 17, ground := Go.Ground.data }, { on := 4, ground := Go.Ground.data }, { on := 16, ground := Go.Ground.chain }, { on := 0, ground := Go.Ground.phase }, { on := 1, ground := Go.Ground.phase }, { on := 2, ground := Go.Ground.phase }, { on := 3, ground := Go.Ground.phase }, { on := 4, ground := Go.Ground.phase }, { on := 5, ground := Go.Ground.phase }, { on := 6, ground := Go.Ground.phase }, { on := 7, ground := Go.Ground.textOnly Go.Departure.lateStores }, { on := 8, ground := Go.Ground.textOnly Go.Departure.lateStores }, { on := 9, ground := Go.Ground.textOnly Go.Departure.lateStores }, { on := 10, ground := Go.Ground.textOnly Go.Departure.lateStores }, { on := 11, ground := Go.Ground.textOnly Go.Departure.lateStores }, { on := 12, ground := Go.Ground.textOnly Go.Departure.lateStores }, { on := 13, ground := Go.Ground.textOnly Go.Departure.lateStores }, { on := 14, ground := Go.Ground.textOnly Go.Departure.lateStores }, { on := 15, ground := Go.Ground.textOnly Go.Departure.lateStores }, { on := 16, ground := Go.Ground.textOnly Go.Departure.lateStoresUnsure }], guard := none }) rfl (by kernel_rfl) (fun K hK => ?_)
            go_simp
            refine hK.out _ _ (Or.inl (by kernel_rfl)) (fun _ => ?_)
            clear hK K
            try simp only [Act.put, List.setIfInBounds_toArray, List.set_cons_zero, List.set_cons_succ]
            refine wpG_pure (i := 19) (oi := { dst := some 97, op := Go.Op.fieldAddr 28 (Go.Operand.tmp 8) 1, type := 0, pos := "l12_machine.go:132", after := #[{ on := 0, ground := Go.Ground.phase }, { on := 1, ground := Go.Ground.phase }, { on := 2, ground := Go.Ground.phase }, { on := 3, ground := Go.Ground.phase }, { on := 4, ground := Go.Ground.phase }, { on := 5, ground := Go.Ground.phase }, { on := 6, ground := Go.Ground.phase }, { on := 7, ground := Go.Ground.phase }, { on := 8, ground := Go.Ground.phase }, { on := 9, ground := Go.Ground.phase }, { on := 10, ground := Go.Ground.phase }, { on := 11, ground := Go.Ground.phase }, { on := 12, ground := Go.Ground.phase }, { on := 13, ground := Go.Ground.phase }, { on := 14, ground := Go.Ground.phase }, { on := 15, ground := Go.Ground.phase }, { on := 16, ground := Go.Ground.phase }, { on := 17, ground := Go.Ground.phase }, { on := 18, ground := Go.Ground.phase }], guard := none }) (v := ?vg35) rfl (by kernel_rfl) (fun _ _ _ h => h) (Or.inl (by kernel_rfl)) (Or.inl ⟨by rfl, ?yg35⟩) ?_
            case yg35 => (intro wS _; go_simp <;> with_reducible rfl)
            try simp only [Act.put, List.setIfInBounds_toArray, List.set_cons_zero, List.set_cons_succ]
            refine wpG_one (i := 20) (o := { dst := none, op := Go.Op.store 23 (Go.Operand.tmp 97) (Go.Operand.tmp 95), type := 0, pos := "l12_machine.go:132", after := #[{ on := 19, ground := Go.Ground.data }, { on := 16, ground := Go.Ground.data }, { on := 18, ground := Go.Ground.chain }, { on := 0, ground := Go.Ground.phase }, { on := 1, ground := Go.Ground.phase }, { on := 2, ground := Go.Ground.phase }, { on := 3, ground := Go.Ground.phase }, { on := 4, ground := Go.Ground.phase }, { on := 5, ground := Go.Ground.phase }, { on := 6, ground := Go.Ground.phase }, { on := 7, ground := Go.Ground.phase }, { on := 8, ground := Go.Ground.phase }, { on := 9, ground := Go.Ground.phase }, { on := 10, ground := Go.Ground.phase }, { on := 11, ground := Go.Ground.phase }, { on := 12, ground := Go.Ground.phase }, { on := 13, ground := Go.Ground.phase }, { on := 14, ground := Go.Ground.phase }, { on := 15, ground := Go.Ground.phase }, { on := 16, ground := Go.Ground.phase }, { on := 17, ground := Go.Ground.phase }, { on := 18, ground := Go.Ground.phase }], guard := none }) rfl (by kernel_rfl) (fun K hK => ?_)
            go_simp
            refine hK.out _ _ (Or.inl (by kernel_rfl)) (fun _ => ?_)
            clear hK K
            try simp only [Act.put, List.setIfInBounds_toArray, List.set_cons_zero, List.set_cons_succ]
            refine wpG_done (by kernel_rfl) ?_
            go_wp2_with fail
            go_roundw
            case rel =>
              have hb1 := (BD_299.out.setCell kIntS_ok (a := ⟨G4 + 1, 0, none⟩) (by show G4 + 1 < G4 + 2; omega) (.slice (some ⟨g11, 0, none⟩) (i + 1) cp11)).setCell kIntS_ok (a := ⟨G4 + 1, 1, none⟩) (by show G4 + 1 < G4 + 2; omega) (.slice (some ⟨g12, 0, none⟩) (i + 1) cp12)
              have hb2 := (BD_290.out.setCell kBool_ok (a := ⟨G4 + 1, 0, none⟩) (by show G4 + 1 < G4 + 2; omega) (.slice (some ⟨g11, 0, none⟩) (i + 1) cp11)).setCell kBool_ok (a := ⟨G4 + 1, 1, none⟩) (by show G4 + 1 < G4 + 2; omega) (.slice (some ⟨g12, 0, none⟩) (i + 1) cp12)
              rw [HT1.out] at hb1; rw [HT2.out] at hb2
              refine ⟨i + 1, g', cp', F', _, _, _, _, by omega, HN1.out, by go_num, rfl, ⟨hgb1, hgb⟩, Lib.hid (by rw [HNX.out]; exact HFJ.out), Lib.hid ?_, Lib.hid ?_, Lib.hid ⟨?_, ?_, ?_, ?_, ?_⟩, Lib.hid hb1, Lib.hid hb2, Lib.hid (fun x hx hy => ND_300.out x hy hx), Lib.hid ⟨(fun x hx hy => ND_275.out x hy hx) g' (by simp), (fun x hx hy => ND_302.out x hy hx) g' (by simp)⟩, Lib.hid ((BL_303.out.setCell (p := ⟨G4 + 1, 0, none⟩) (by show w2.heap.size ≤ G4 + 1; omega) _).setCell (p := ⟨G4 + 1, 1, none⟩) (by show w2.heap.size ≤ G4 + 1; omega) _)⟩
              · exact own_frame (ints_kun OW_301.out) (fun b hb => (Below.heap_setCell _ _ _ _ (by simp [Value.ownBlock] at hb; show b ≠ G4 + 1; omega)).trans (Below.heap_setCell _ _ _ _ (by simp [Value.ownBlock] at hb; show b ≠ G4 + 1; omega)))
              · exact HM6.out.frame (((Below.heap_setCell _ _ _ _ (by show w2.heap.size ≠ G4 + 1; omega)).trans (Below.heap_setCell _ _ _ _ (by show w2.heap.size ≠ G4 + 1; omega))).trans (BL_304.out.block w2.heap.size (by omega)))
              · go_simp
              · go_simp
              · go_simp
              · go_simp
              · rw [World.size_setCell, World.size_setCell]; omega
            case measure => (simp [intOf]; try omega)
        have hgi := HGI.out j hj3
        have hlen6 := (HJI.out j).len
        have hF6 : F'.length ≤ 12 := by have := HFJ.out.len; omega
        have x1 : w7.cell? ⟨b2, f2 + j, none⟩ = some (.int .i64 (goI a0 f j)) := HWR.out.cell (HXA.out j hj3) (by rintro (h | h | h) <;> omega)
        have xc : w7.cell? ⟨gc, (goI a0 f j).toNat, none⟩ = some (.int .i64 (clA (nC a0) (goI a0 f j))) := HWR.out.cell (HCC.out w5 HBR.out (goI a0 f j) hgi.2.1 hgi.2.2) (by rintro (h | h | h) <;> omega)
        have hat6 := HAT.out j hj3; have hjy := HJY.out j hj3; have hjn := HJN.out j hj3; have hra := HRA2.out j hj3
        rw [HGF.out j hj3] at hat6 hjy hjn hra
        have HATY : Hid (∀ p : Nat, (oJ a0 s o j)[p]? = some (clA (clsR a0) (goI a0 f j)) → at1 T (clA (clsR a0) (goI a0 f j)) = (p : Int)) := Lib.hid hat6.1
        have HATN : Hid (clA (clsR a0) (goI a0 f j) ∉ oJ a0 s o j → at1 T (clA (clsR a0) (goI a0 f j)) = ((oJ a0 s o j).length : Int)) := Lib.hid hat6.2
        have HY := Lib.hid hjy; have HN' := Lib.hid hjn
        have HRC : Hid ((ints (rowC a0 s))[j]? = some (.int .i64 (at1 T (clA (clsR a0) (goI a0 f j))))) := Lib.hid (by unfold ints; rw [List.getElem?_map, hra]; rfl)
        have hg0 := hgi.2.1; have hg1' := hgi.2.2
        have HKEY := Lib.hid (fun (p : Nat) hp => HFJ.out.key HM.out (t := goI a0 f j) ⟨hg0, hg1'⟩ (p := p) hp)
        have HNK := Lib.hid (fun hn => HFJ.out.nokey HM.out (t := goI a0 f j) ⟨hg0, hg1'⟩ hn)
        have HFS := Lib.hid (HFJ.out.snoc (t := goI a0 f j) ⟨hg0, hg1'⟩)
        have HKS := Lib.hid (kL_snoc a0 F' (goI a0 f j))
        have hwz := HNB.out (goI a0 f j)
        have HKY := Lib.hid (ky_int hwz)
        have hwt : (Lit.int .i64 (goI a0 f j)).wf = true := WalkArith.wf_i64 (by omega)
        have hj3i : (j : Int) < 3 := by omega
        have kc : w7.cell? ⟨w5.heap.size, j, none⟩ = some (.int .i64 0) := by
          rw [HNR.out.cellAt j (by omega)]; exact fill_at _ _ j j (Nat.le_refl _) (by rw [ints_length, HRL.out]; exact hj3)
        have kf : w7.frozen? ⟨w5.heap.size, j, none⟩ = false := HNR.out.frozenAt j
        have hg6 : g' < w7.heap.size := (HO6.out.lt g' rfl).2
        have hmb : w2.heap.size < w7.heap.size := HM6.out.lt
        have hgN : ¬ g' = w5.heap.size := by rcases hgg with h | h <;> omega
        have hgM : ¬ g' = w2.heap.size := by rcases hgg with h | h <;> omega
        clear hgi hat6 hjy hjn hra hwz
        generalize clA (clsR a0) (goI a0 f j) = y at *
        generalize clA (nC a0) (goI a0 f j) = zk at *
        generalize goI a0 f j = q0 at *
        generalize hL2 : oJ a0 s o (j + 1) = L2 at *
        have HL2 := Lib.hid hL2
        generalize hL1 : oJ a0 s o j = L at *
        clear hL1 hL2
        by_cases hy : y ∈ L
        · obtain ⟨p, hp⟩ := List.getElem?_of_mem hy
          have HL2E : Hid (L2 = L) := Lib.hid (HY.out hy)
          have HZ : Hid (at1 T y = (p : Int)) := Lib.hid (HATY.out p hp)
          have HJ1 : Hid ((kL a0 F')[p]? = some (.int .i64 zk)) := Lib.hid (HKEY.out p hp)
          clear hy hp HKEY HNK
          go_wp2_with (at_lookup; refine wpList_mapv_yes rfl _ _ rfl kt_int rfl HM6.out rfl HKY.out HJ1.out ?_)
          have HNX' := Lib.hid (HNR.out.stored j (.int .i64 (p : Int)))
          have HSE : Hid ((fill (ints (rowC a0 s)) (.int .i64 0) j).set j (.int .i64 (p : Int)) = fill (ints (rowC a0 s)) (.int .i64 0) (j + 1)) := Lib.hid (fill_set _ _ _ _ (by rw [HRC.out, HZ.out]))
          go_roundw
          case rel => exact ⟨j + 1, g', cp', F', by omega, by go_num, rfl, hgg, Lib.hid (by rw [HL2.out, HL2E.out]; exact HFJ.out), HFF, Lib.hid (own_frame HO6.out (fun b hb => Below.heap_setCell _ _ _ _ (by simp [Value.ownBlock] at hb; show b ≠ w5.heap.size; omega))), Lib.hid (HM6.out.frame (Below.heap_setCell _ _ _ _ (by show w2.heap.size ≠ w5.heap.size; omega))), Lib.hid (by have h := HNX'.out.1; rwa [HSE.out] at h), Lib.hid (HWR.out.setCell (p := ⟨w5.heap.size, j, none⟩) (.inr (.inr (Nat.le_refl _))) _)⟩
          case measure => (simp [intOf]; try omega)
        have HL2E : Hid (L2 = L ++ [y]) := Lib.hid (HN'.out hy)
        have HZ : Hid (at1 T y = (L.length : Int)) := Lib.hid (HATN.out hy)
        have HNP : Hid ((.int .i64 zk : Value) ∉ kL a0 F') := Lib.hid (HNK.out hy)
        have HML : Hid ((kL a0 F').length < 1000000) := Lib.hid (by rw [kL_len]; omega)
        have HMM : Hid (((F'.length : Nat) : Int) = (((kL a0 F').length : Nat) : Int)) := Lib.hid (by rw [kL_len])
        clear hy HKEY HNK
        go_upto_region 17 with (first
          | (at_lookup; refine wpList_mapv_no rfl _ _ rfl kt_int rfl HM6.out rfl HKY.out HNP.out ?_; intro c)
          | (at_mapUpdate; refine wpList_mapv_put rfl _ _ _ rfl kt_int rfl HM6.out rfl HKY.out HNP.out HML.out rfl HMM.out ?_; intro wq hm11 hg11
             have HM11 : Hid (MapV 3 wq w2.heap.size (kL a0 F' ++ [.int .i64 zk])) := Lib.hid hm11
             have HGR := Lib.hid hg11
             clear hm11 hg11))
        have hszq : w7.heap.size ≤ wq.heap.size := HGR.out.size
        have HOq : Hid (wq.ownsRow 0 3 1 (.slice (some ⟨g', 0, none⟩) F'.length cp') F'.length (ints F')) := Lib.hid ((Wrote.of_grown HGR.out).own HO6.out (fun k hk hs => by simp only [Value.ownBlock, Option.some.injEq] at hs hk; omega))
        have HNq : Hid (wq.ownsRow w5.heap.size 3 1 (.slice (some ⟨w5.heap.size, 0, none⟩) 3 3) 3 (fill (ints (rowC a0 s)) (.int .i64 0) j)) := Lib.hid ((Wrote.of_grown HGR.out).own HNR.out (fun k hk hs => by simp only [Value.ownBlock, Option.some.injEq] at hs hk; omega))
        have HWq : Hid (Wrote (fun k => k = g ∨ k = w2.heap.size ∨ w5.heap.size ≤ k) w5 wq) := Lib.hid (HWR.out.trans ((Wrote.of_grown HGR.out).mono (fun k _ hk => by simp only [Option.some.injEq] at hk; exact .inr (.inl hk.symm))))
        clear HM6 HNR HO6 HWR kc kf x1 xc
        go_wp2_with (at_builtin; (refine wpList_append_lies _ rfl _ _ 42 rfl 0 3 i0 (.int .i64 0) 1 8 Try.underlying42 hi hz0 hz1 hz2 rfl (by decide) (.slice (some ⟨g', 0, none⟩) F'.length cp') F'.length _ rfl (HOq.out.alloc _) ⟨wq.heap.size, 0, none⟩ 1 1 [.int .i64 q0] rfl rfl (news_one _ _ _) (by simp [Value.oneCell']) (by decide) (by unfold maxLen; omega) (by omega) (by simp) _ rfl ?_))
        intro g8 cp8 w8 hown hgrow hat hlt8
        have HB7 := Lib.hid (ralloc (Below.refl wq.heap.size wq) (.cells #[.int .i64 q0] 3))
        have hg8 : g8 = g' ∨ g8 = wq.heap.size + 1 := by
          rcases hat with h | h
          · simp [Value.ownBlock] at h; exact .inl h.symm
          · first | exact .inr h | (simp at h; exact .inr h)
        have hgg8 : g8 = g ∨ w5.heap.size < g8 := by rcases hg8 with h | h <;> omega
        have hg8N : ¬ g8 = w5.heap.size := by rcases hgg8 with h | h <;> omega
        have HO8 : Hid (w8.ownsRow 0 3 1 (.slice (some ⟨g8, 0, none⟩) (F' ++ [q0]).length cp8) (F' ++ [q0]).length (ints (F' ++ [q0]))) := Lib.hid (by rw [List.length_append, ints_snoc]; exact hown)
        have hbl : ∀ b, b < wq.heap.size → ¬ b = g' → w8.heap[b]? = wq.heap[b]? := fun b hb hne => (hgrow.block b (by simp; omega) (by simp only [Value.ownBlock, ne_eq, Option.some.injEq]; exact hne)).trans (HB7.out.block b hb)
        have HM8 : Hid (MapV 3 w8 w2.heap.size (kL a0 (F' ++ [q0]))) := Lib.hid (by rw [HKS.out]; exact HM11.out.frame (hbl _ HM11.out.lt (by omega)))
        have HN8 : Hid (w8.ownsRow w5.heap.size 3 1 (.slice (some ⟨w5.heap.size, 0, none⟩) 3 3) 3 (fill (ints (rowC a0 s)) (.int .i64 0) j)) := Lib.hid (own_frame HNq.out (fun b hb => by simp [Value.ownBlock] at hb; subst hb; exact hbl _ (by omega) (by omega)))
        have HW8 : Hid (Wrote (fun k => k = g ∨ k = w2.heap.size ∨ w5.heap.size ≤ k) w5 w8) := Lib.hid ((HWq.out.trans (Wrote.of_below HB7.out)).trans ((Wrote.of_grown hgrow).mono (fun k _ hk => by simp only [Value.ownBlock, Option.some.injEq] at hk; subst hk; rcases hgg with h | h; exact .inl h; exact .inr (.inr (by omega)))))
        have HF8 : Hid ((F' ++ [q0])[i]? = some f) := Lib.hid (by rw [List.getElem?_append_left (List.getElem?_eq_some_iff.1 HFF.out).1]; exact HFF.out)
        have kc : w8.cell? ⟨w5.heap.size, j, none⟩ = some (.int .i64 0) := by
          rw [HN8.out.cellAt j (by omega)]; exact fill_at _ _ j j (Nat.le_refl _) (by rw [ints_length, HRL.out]; exact hj3)
        have kf : w8.frozen? ⟨w5.heap.size, j, none⟩ = false := HN8.out.frozenAt j
        have HFLL : Hid ((F'.length : Int) = (L.length : Int)) := Lib.hid (by have := HFJ.out.len; omega)
        clear hown hgrow hat hlt8 hbl HOq HNq HWq HM11 HGR
        go_wp2_with fail
        have HNX' := Lib.hid (HN8.out.stored j (.int .i64 (F'.length : Int)))
        have HSE : Hid ((fill (ints (rowC a0 s)) (.int .i64 0) j).set j (.int .i64 (F'.length : Int)) = fill (ints (rowC a0 s)) (.int .i64 0) (j + 1)) := Lib.hid (fill_set _ _ _ _ (by rw [HRC.out, HZ.out, HFLL.out]))
        go_roundw
        case rel => exact ⟨j + 1, g8, cp8, F' ++ [q0], by omega, by go_num, by simp, hgg8, Lib.hid (by rw [HL2.out, HL2E.out]; exact HFS.out), HF8, Lib.hid (own_frame HO8.out (fun b hb => Below.heap_setCell _ _ _ _ (by simp [Value.ownBlock] at hb; show b ≠ w5.heap.size; omega))), Lib.hid (HM8.out.frame (Below.heap_setCell _ _ _ _ (by show w2.heap.size ≠ w5.heap.size; omega))), Lib.hid (by have h := HNX'.out.1; rwa [HSE.out] at h), Lib.hid (HW8.out.setCell (p := ⟨w5.heap.size, j, none⟩) (.inr (.inr (Nat.le_refl _))) _)⟩
        case measure => (simp [intOf]; try omega)
end Go.Proofs.Ytedjahinlpehgaa
