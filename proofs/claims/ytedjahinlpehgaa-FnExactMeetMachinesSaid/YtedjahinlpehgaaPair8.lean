/- The reference's MeetMachines (under way). -/
import Derived.Test.YtedjahinlpehgaaPair7
namespace Go.Proofs.Ytedjahinlpehgaa
set_option linter.unusedVariables false
open Go.ChangeShapes Go.WideShapes Go.ChangeAt Go.RowKit
set_option maxRecDepth 100000

theorem idxP_wf (L : List Pr) (x y : Int) (h : L.length ≤ 12) : (Lit.int .i64 (idxP L x y)).wf = true := by
  have h1 : -1 ≤ idxP L x y ∧ idxP L x y ≤ 12 := by
    unfold idxP fidx
    cases hf : L.findIdx? (isK x y) with
    | none => simp
    | some i =>
      have := (List.findIdx?_eq_some_iff_getElem.1 hf).1
      simp only
      omega
  exact WalkArith.wf_i64 (by omega)
set_option maxHeartbeats 8000000 in
theorem spec_MeetMachines (w : World) (cs0 cs1 : List Value) (A B : Mach) (h0 : kMachine.rd w.heap.size w cs0 A) (h1 : kMachine.rd w.heap.size w cs1 B) (ht : kMachine.wt A + kMachine.wt B ≤ 1048576) :
    Calls Try.prog 22 #[.agg cs0.toArray, .agg cs1.toArray] w (Made kMachine (fun cs => .tuple #[.agg cs.toArray, .bool (R_MeetMachines A B).2]) (R_MeetMachines A B).1 w) := by
  obtain ⟨i2, hi2, hx0, hx1, hx2⟩ := info_parts Try.infoHBoolS
  obtain ⟨ea, eac, eb, ebc, rfl, hn, he⟩ := Machine_rd h0
  obtain ⟨ec, ecc, ed, edc, rfl, hn', he'⟩ := Machine_rd h1
  have HG1 := Lib.hid (fun wx (hb : Below w.heap.size w wx) => spec_GoodMachine wx _ A (kMachine_ok.later h0 hb) (by omega))
  have HG2 := Lib.hid (fun wx (hb : Below w.heap.size w wx) => spec_GoodMachine wx _ B (kMachine_ok.later h1 hb) (by omega))
  have hl1 := (sl_len hn).2; have hl2 := (sl_len he).2; have hl3 := (sl_len hn').2; have hl4 := (sl_len he').2
  have HN := Lib.hid hn; have HE := Lib.hid he; have HN' := Lib.hid hn'; have HE' := Lib.hid he'
  have HB0 := Lib.hid (bx3_start w (.cells #[.slice ea A.1.length eac, .slice eb A.2.length ebc] 28) (.cells #[.slice ec B.1.length ecc, .slice ed B.2.length edc] 28) (.cells #[.slice none 0 0, .slice none 0 0] 28))
  clear h0 h1 hn he hn' he' ht
  cases g1 : R_GoodMachine A with
  | false =>
    rw [MM_no (fun h => by rw [g1] at h; cases h.1)]
    rw [g1] at HG1
    clear g1
    go_enter Try.func22, Try.ntmps22
    go_wp2_with fail
    refine (HG1.out _ (bx3_below HB0.out)).mono ?_
    rintro e w1 ⟨rfl, hb⟩
    have HB1 := Lib.hid (bx3_step HB0.out hb); clear hb
    have k0 : w1.cell? ⟨w.heap.size + 2, 0, none⟩ = some (.slice none 0 0) := bx3_c HB1.out 0
    have k1 : w1.cell? ⟨w.heap.size + 2, 1, none⟩ = some (.slice none 0 0) := bx3_c HB1.out 1
    have z0 := bx3_z HB1.out 0
    have z1 := bx3_z HB1.out 1
    go_wp2_with fail
    refine bodyPost_ret (v := .tuple #[.agg #[.slice none 0 0, .slice none 0 0], .bool false]) (by simp [results, Try.results22, go_sem, k0, k1]) rfl ⟨[.slice none 0 0, .slice none 0 0], [], rfl, none_ow _, List.nodup_nil, by simp, ?_⟩
    exact ((bx3_below HB1.out).setCell (p := ⟨w.heap.size + 2, 0, none⟩) (by show w.heap.size ≤ w.heap.size + 2; omega) _).setCell (p := ⟨w.heap.size + 2, 1, none⟩) (by show w.heap.size ≤ w.heap.size + 2; omega) _
  | true =>
    cases g2 : R_GoodMachine B with
    | false =>
      rw [MM_no (fun h => by rw [g2] at h; cases h.2.1)]
      rw [g1] at HG1; rw [g2] at HG2
      clear g1 g2
      go_enter Try.func22, Try.ntmps22
      go_wp2_with fail
      refine (HG1.out _ (bx3_below HB0.out)).mono ?_
      rintro e w1 ⟨rfl, hb⟩
      have HB1 := Lib.hid (bx3_step HB0.out hb); clear hb
      have b0 := bx3_b HB1.out 0; have b1 := bx3_b HB1.out 1
      go_wp2_with fail
      refine (HG2.out _ (bx3_below HB1.out)).mono ?_
      rintro e w2 ⟨rfl, hb⟩
      have HB2 := Lib.hid (bx3_step HB1.out hb); clear hb b0 b1
      have k0 : w2.cell? ⟨w.heap.size + 2, 0, none⟩ = some (.slice none 0 0) := bx3_c HB2.out 0
      have k1 : w2.cell? ⟨w.heap.size + 2, 1, none⟩ = some (.slice none 0 0) := bx3_c HB2.out 1
      have z0 := bx3_z HB2.out 0
      have z1 := bx3_z HB2.out 1
      go_wp2_with fail
      refine bodyPost_ret (v := .tuple #[.agg #[.slice none 0 0, .slice none 0 0], .bool false]) (by simp [results, Try.results22, go_sem, k0, k1]) rfl ⟨[.slice none 0 0, .slice none 0 0], [], rfl, none_ow _, List.nodup_nil, by simp, ?_⟩
      exact ((bx3_below HB2.out).setCell (p := ⟨w.heap.size + 2, 0, none⟩) (by show w.heap.size ≤ w.heap.size + 2; omega) _).setCell (p := ⟨w.heap.size + 2, 1, none⟩) (by show w.heap.size ≤ w.heap.size + 2; omega) _
    | true =>
      have HMA := Lib.hid (good_of g1); have HMB := Lib.hid (good_of g2)
      have HCA := Lib.hid (MC.of HN.out HE.out HMA.out); have HCB := Lib.hid (MC.of HN'.out HE'.out HMB.out)
      have HINV := Lib.hid (ordP_inv (A := A) (B := B) HMA.out HMB.out 144)
      have HWK := Lib.hid (fun wx (hb : Below w.heap.size w wx) => spec_pairs ea eb ec ed eac ebc ecc edc A B wx ((HCA.out.below hb).mono hb.size) ((HCB.out.below hb).mono hb.size) HMA.out HMB.out hl1 hl3)
      by_cases h12 : (pairsR A B).length ≤ 12
      case neg =>
        rw [MM_no (fun h => h12 h.2.2)]
        rw [g1] at HG1; rw [g2] at HG2
        clear g1 g2
        clear HINV
        generalize pairsR A B = L at *
        have h12i : (12 : Int) < (L.length : Int) := by omega
        go_enter Try.func22, Try.ntmps22
        go_wp2_with fail
        refine (HG1.out _ (bx3_below HB0.out)).mono ?_
        rintro e w1 ⟨rfl, hb⟩
        have HB1 := Lib.hid (bx3_step HB0.out hb); clear hb
        have b0 := bx3_b HB1.out 0; have b1 := bx3_b HB1.out 1
        go_wp2_with fail
        refine (HG2.out _ (bx3_below HB1.out)).mono ?_
        rintro e w2 ⟨rfl, hb⟩
        have HB2 := Lib.hid (bx3_step HB1.out hb); clear hb b0 b1
        have a0 := bx3_a HB2.out 0; have a1 := bx3_a HB2.out 1; have b0 := bx3_b HB2.out 0; have b1 := bx3_b HB2.out 1
        go_wp2_with fail
        refine (HWK.out _ (bx3_below HB2.out)).mono ?_
        rintro e w4 ⟨g, cp, rfl, ho, hb⟩
        have HB4 := Lib.hid (bx3_step HB2.out hb); clear hb ho a0 a1 b0 b1
        have k0 : w4.cell? ⟨w.heap.size + 2, 0, none⟩ = some (.slice none 0 0) := bx3_c HB4.out 0
        have k1 : w4.cell? ⟨w.heap.size + 2, 1, none⟩ = some (.slice none 0 0) := bx3_c HB4.out 1
        have z0 := bx3_z HB4.out 0
        have z1 := bx3_z HB4.out 1
        go_wp2_with fail
        refine bodyPost_ret (v := .tuple #[.agg #[.slice none 0 0, .slice none 0 0], .bool false]) (by simp [results, Try.results22, go_sem, k0, k1]) rfl ⟨[.slice none 0 0, .slice none 0 0], [], rfl, none_ow _, List.nodup_nil, by simp, ?_⟩
        exact ((bx3_below HB4.out).setCell (p := ⟨w.heap.size + 2, 0, none⟩) (by show w.heap.size ≤ w.heap.size + 2; omega) _).setCell (p := ⟨w.heap.size + 2, 1, none⟩) (by show w.heap.size ≤ w.heap.size + 2; omega) _
      rw [MM_yes ⟨g1, g2, h12⟩]
      have HPI : Hid (∀ p ∈ pairsR A B, 0 ≤ p.1 ∧ p.1 < (A.1.length : Int) ∧ 0 ≤ p.2.1 ∧ p.2.1 < (B.1.length : Int)) := Lib.hid HINV.out.rg
      clear HINV
      generalize pairsR A B = L at *
      rw [g1] at HG1; rw [g2] at HG2
      clear g1 g2
      obtain ⟨i1, hi1, hy0, hy1, hy2⟩ := info_parts Try.infoHIntSS
      obtain ⟨i0, hi, hz0, hz1, hz2⟩ := info_parts Try.infoHIntS
      obtain ⟨nA, gA, hna, hnA, hnrA⟩ := HCA.out.rows
      obtain ⟨nB, gB, hnb, hnB, hnrB⟩ := HCB.out.rows
      have HNA := Lib.hid hnrA; have HNB := Lib.hid hnrB
      subst hna hnb
      clear hnrA hnrB
      obtain ⟨bA, fA, hea, hbA, hrA⟩ := HCA.out.ends
      obtain ⟨bB, fB, heb, hbB, hrB⟩ := HCB.out.ends
      have HRA := Lib.hid hrA; have HRB := Lib.hid hrB
      subst hea heb
      have HEA : Hid (A.2.length = A.1.length) := Lib.hid HMA.out.ends
      have HEB : Hid (B.2.length = B.1.length) := Lib.hid HMB.out.ends
      clear hrA hrB
      have h12i : ¬ (12 : Int) < (L.length : Int) := by omega
      go_enter Try.func22, Try.ntmps22
      go_wp2_with fail
      refine (HG1.out _ (bx3_below HB0.out)).mono ?_
      rintro e w1 ⟨rfl, hb⟩
      have HB1 := Lib.hid (bx3_step HB0.out hb); clear hb
      have b0 := bx3_b HB1.out 0; have b1 := bx3_b HB1.out 1
      go_wp2_with fail
      refine (HG2.out _ (bx3_below HB1.out)).mono ?_
      rintro e w2 ⟨rfl, hb⟩
      have HB2 := Lib.hid (bx3_step HB1.out hb); clear hb b0 b1
      have a0 := bx3_a HB2.out 0; have a1 := bx3_a HB2.out 1; have b0 := bx3_b HB2.out 0; have b1 := bx3_b HB2.out 1
      have hs2 : w.heap.size + 3 ≤ w2.heap.size := by have := HB2.out.size; simp at this; omega
      go_wp2_with fail
      refine (HWK.out _ (bx3_below HB2.out)).mono ?_
      rintro e w4 ⟨g, cp, rfl, ho, hb⟩
      have HB4 := Lib.hid (bx3_step HB2.out hb)
      have HRW := Lib.hid (own_prow ho)
      have hcap := own_caps ho
      unfold maxLen at hcap
      have hs4 : w.heap.size + 3 ≤ w4.heap.size := Nat.le_trans hs2 hb.size
      clear hb ho a0 a1 b0 b1
      go_wp2_with fail
      go_loopw [31] (fun iv wr => ∃ (i : Nat) (v1 v2 : Value) (fp1 fp2 : List Nat), i ≤ L.length ∧ iv = .int .i64 (i : Int) ∧ Hid (wr.cell? ⟨w4.heap.size, 0, none⟩ = some v1 ∧ wr.cell? ⟨w4.heap.size, 1, none⟩ = some v2 ∧ wr.frozen? ⟨w4.heap.size, 0, none⟩ = false ∧ wr.frozen? ⟨w4.heap.size, 1, none⟩ = false ∧ w4.heap.size + 1 ≤ wr.heap.size) ∧ Hid (Bd 42 kIntS (w4.heap.size + 1) fp1 wr v1 ((L.take i).map (goesP A B L))) ∧ Hid (Bd 4 kBool (w4.heap.size + 1) fp2 wr v2 ((L.take i).map (bothP A B))) ∧ Hid (∀ b ∈ fp1, b ∉ fp2) ∧ Hid (Below w4.heap.size w4 wr)) (fun iv _ => L.length - (intOf iv).toNat)
      case atStart => exact ⟨0, _, _, [], [], by omega, rfl, Lib.hid ⟨by go_simp, by go_simp, by go_simp, by go_simp, by simp⟩, Lib.hid (Bd.nil _), Lib.hid (Bd.nil _), Lib.hid (by simp), Lib.hid ((Below.refl _ _).alloc (Nat.le_refl _) _)⟩
      case round =>
        obtain ⟨w5, rfl⟩ : ∃ z : World, z = wr := ⟨_, rfl⟩
        obtain ⟨i, v1, v2, fp1, fp2, hil, rfl, HCL, BD1, BD2, DIS, HBR⟩ := hrel
        obtain ⟨co0, co1, zo0, zo1, hlo⟩ := HCL.out
        have HBW := Lib.hid ((bx3_below HB4.out).trans (HBR.out.mono (by omega)))
        by_cases hlt : i < L.length
        case neg =>
          have hni : ¬ (i : Int) < (L.length : Int) := by omega
          have hq1 : (L.take i).map (goesP A B L) = L.map (goesP A B L) := by rw [List.take_of_length_le (by omega)]
          have hq2 : (L.take i).map (bothP A B) = L.map (bothP A B) := by rw [List.take_of_length_le (by omega)]
          rw [hq1] at BD1; rw [hq2] at BD2
          obtain ⟨a1, c1, hv1⟩ := BD1.out.form
          obtain ⟨a2, c2, hv2⟩ := BD2.out.form
          rw [List.length_map] at hv1 hv2
          subst hv1 hv2
          have k0 : w5.cell? ⟨w.heap.size + 2, 0, none⟩ = some (.slice none 0 0) := below_later HBR.out (bx3_c HB4.out 0)
          have k1 : w5.cell? ⟨w.heap.size + 2, 1, none⟩ = some (.slice none 0 0) := below_later HBR.out (bx3_c HB4.out 1)
          have z0 := (HBR.out.frozen (p := ⟨w.heap.size + 2, 0, none⟩) (by show w.heap.size + 2 < w4.heap.size; omega)).trans (bx3_z HB4.out 0)
          have z1 := (HBR.out.frozen (p := ⟨w.heap.size + 2, 1, none⟩) (by show w.heap.size + 2 < w4.heap.size; omega)).trans (bx3_z HB4.out 1)
          clear hq1 hq2 hil
          go_wp2_with fail
          refine bodyPost_ret (v := .tuple #[.agg #[.slice a1 L.length c1, .slice a2 L.length c2], .bool true]) (by simp [results, Try.results22, go_sem, k0, k1]) rfl ?_
          have b1 := BD1.out; have b2 := BD2.out
          have c1' := (b1.setCell kIntS_ok (a := ⟨w.heap.size + 2, 0, none⟩) (by show w.heap.size + 2 < w4.heap.size + 1; omega) (.slice a1 L.length c1)).setCell kIntS_ok (a := ⟨w.heap.size + 2, 1, none⟩) (by show w.heap.size + 2 < w4.heap.size + 1; omega) (.slice a2 L.length c2)
          have c2' := (b2.setCell kBool_ok (a := ⟨w.heap.size + 2, 0, none⟩) (by show w.heap.size + 2 < w4.heap.size + 1; omega) (.slice a1 L.length c1)).setCell kBool_ok (a := ⟨w.heap.size + 2, 1, none⟩) (by show w.heap.size + 2 < w4.heap.size + 1; omega) (.slice a2 L.length c2)
          refine ⟨[.slice a1 L.length c1, .slice a2 L.length c2], fp1 ++ fp2, rfl, ⟨fp1, fp2, [_], [_], rfl, rfl, c1'.ow, c2'.ow⟩, List.nodup_append.2 ⟨b1.nodup, b2.nodup, fun x hx y hy hxy => DIS.out x hx (by rw [hxy]; exact hy)⟩, ?_, ?_⟩
          · intro b hb
            rcases List.mem_append.1 hb with hb | hb
            · have := b1.ge b hb; omega
            · have := b2.ge b hb; omega
          · exact (HBW.out.setCell (p := ⟨w.heap.size + 2, 0, none⟩) (by show w.heap.size ≤ w.heap.size + 2; omega) _).setCell (p := ⟨w.heap.size + 2, 1, none⟩) (by show w.heap.size ≤ w.heap.size + 2; omega) _
        obtain ⟨p, hp⟩ : ∃ p, L[i]? = some p := ⟨L[i], List.getElem?_eq_getElem hlt⟩
        obtain ⟨gb, gf, hgq, hgl, hcs⟩ := HRW.out
        simp only [Option.some.injEq, Addr.mk.injEq, and_true] at hgq
        obtain ⟨rfl, rfl⟩ := hgq
        obtain ⟨q0, q1, q2⟩ := hcs i p hp
        replace q0 := below_later HBR.out q0; replace q1 := below_later HBR.out q1; replace q2 := below_later HBR.out q2
        simp only [Nat.zero_add] at q0 q1 q2
        obtain ⟨r1, r2, r3, r4⟩ := HPI.out p (List.mem_of_getElem? hp)
        obtain ⟨b2A, f2A, c2A, hcA, hb2A, hdA1, hdA2, heA⟩ := HNA.out _ r1 r2
        obtain ⟨b2B, f2B, c2B, hcB, hb2B, hdB1, hdB2, heB⟩ := HNB.out _ r3 r4
        have m0 : w5.cell? ⟨w.heap.size, 0, none⟩ = some (.slice (some ⟨nA, gA, none⟩) A.1.length eac) := below_later HBR.out (bx3_a HB4.out 0)
        have m1 : w5.cell? ⟨w.heap.size, 1, none⟩ = some (.slice (some ⟨bA, fA, none⟩) A.2.length ebc) := below_later HBR.out (bx3_a HB4.out 1)
        have m5 : w5.cell? ⟨w.heap.size + 1, 0, none⟩ = some (.slice (some ⟨nB, gB, none⟩) B.1.length ecc) := below_later HBR.out (bx3_b HB4.out 0)
        have m3 : w5.cell? ⟨w.heap.size + 1, 1, none⟩ = some (.slice (some ⟨bB, fB, none⟩) B.2.length edc) := below_later HBR.out (bx3_b HB4.out 1)
        have m2 := below_cellk HBW.out (HRA.out p.1 r1 r2) hbA
        have m4 := below_cellk HBW.out (HRB.out p.2.1 r3 r4) hbB
        have m6 := below_cellk HBW.out hcA hnA
        have m7 := below_cellk HBW.out hcB hnB
        have HXA := Lib.hid (fun k hk => below_cellk HBW.out (heA k hk) hb2A)
        have HXB := Lib.hid (fun k hk => below_cellk HBW.out (heB k hk) hb2B)
        have HT1 : Hid ((L.take i).map (goesP A B L) ++ [goesP A B L p] = (L.take (i + 1)).map (goesP A B L)) := Lib.hid (by rw [take_next _ i _ hp, List.map_append]; rfl)
        have HT2 : Hid (∀ z : Bool, z = (endI A p.1 && endI B p.2.1) → ((L.take i).map (bothP A B)) ++ [z] = (L.take (i + 1)).map (bothP A B)) := Lib.hid (by rintro z rfl; rw [take_next _ i _ hp, List.map_append]; rfl)
        have HGL : Hid ((goesP A B L p).length = 3) := Lib.hid rfl
        have HGN : Hid (∀ k : Nat, k < 3 → (goesP A B L p)[k]? = some (idxP L (goI A p.1 k) (goI B p.2.1 k))) := Lib.hid (by
          intro k hk
          rcases k with _ | _ | _ | k
          · rfl
          · rfl
          · rfl
          · omega)
        have HLT1 : Hid (((L.take i).map (goesP A B L)).length = i) := Lib.hid (by simp; omega)
        have HLT2 : Hid (((L.take i).map (bothP A B)).length = i) := Lib.hid (by simp; omega)
        have HC3 : Hid (i + 1 ≤ maxLen) := Lib.hid (by unfold maxLen; omega)
        have HC4 : Hid ((i + 1) * 24 ≤ 140737488355328) := Lib.hid (by omega)
        have HC5 : Hid (i + 1 ≤ maxLen) := Lib.hid (by unfold maxLen; omega)
        have HC6 : Hid ((i + 1) * 1 ≤ 140737488355328) := Lib.hid (by omega)
        have HRW5 := Lib.hid (fun wx (hb : Below w4.heap.size w4 wx) => HRW.out.later hb)
        obtain ⟨x, y, s⟩ := p
        simp only at q0 q1 q2 r1 r2 r3 r4 m2 m4 m6 m7 HT2 HXA HXB HGN
        generalize goesP A B L (x, y, s) = Gs at *
        generalize hH1 : (L.take i).map (goesP A B L) = H1 at *
        generalize hH1' : (L.take (i + 1)).map (goesP A B L) = H1' at *
        have HE1 := Lib.hid hH1'
        clear hH1 hH1'
        have hii : (i : Int) < (L.length : Int) := by omega
        have HAL : Hid (Below w5.heap.size w5 (w5.alloc (.cells #[.int .i64 x, .int .i64 y, .string s] 65))) := Lib.hid ((Below.refl _ _).alloc (Nat.le_refl _) _)
        have n0 := below_later HAL.out m0; have n1 := below_later HAL.out m1; have n2 := below_later HAL.out m2; have n3 := below_later HAL.out m3; have n4 := below_later HAL.out m4
        have n5 := below_later HAL.out m5; have n6 := below_later HAL.out m6; have n7 := below_later HAL.out m7
        have HXA6 := Lib.hid (fun k hk => below_later HAL.out (HXA.out k hk))
        have HXB6 := Lib.hid (fun k hk => below_later HAL.out (HXB.out k hk))
        have no0 := below_later HAL.out co0; have no1 := below_later HAL.out co1
        have nz0 := (Below.frozen HAL.out (p := ⟨w4.heap.size, 0, none⟩) (by show w4.heap.size < w5.heap.size; omega)).trans zo0
        have nz1 := (Below.frozen HAL.out (p := ⟨w4.heap.size, 1, none⟩) (by show w4.heap.size < w5.heap.size; omega)).trans zo1
        have np0 : (w5.alloc (.cells #[.int .i64 x, .int .i64 y, .string s] 65)).cell? ⟨w5.heap.size, 0, none⟩ = some (.int .i64 x) := by go_simp
        have np1 : (w5.alloc (.cells #[.int .i64 x, .int .i64 y, .string s] 65)).cell? ⟨w5.heap.size, 1, none⟩ = some (.int .i64 y) := by go_simp
        have BDn1 := Lib.hid (BD1.out.later kIntS_ok HAL.out)
        have BDn2 := Lib.hid (BD2.out.later kBool_ok HAL.out)
        have HBn := Lib.hid (HBR.out.trans (HAL.out.mono (by omega)))
        have hln : w4.heap.size + 1 ≤ (w5.alloc (.cells #[.int .i64 x, .int .i64 y, .string s] 65)).heap.size := by simp; omega
        have HP1 : Hid (∀ b ∈ [w5.heap.size], b ∉ fp1) := Lib.hid (by intro b hb hm; simp only [List.mem_singleton] at hb; subst hb; exact absurd (BD1.out.lt kIntS_ok _ hm) (Nat.lt_irrefl _))
        have r2' : x < (A.2.length : Int) := by have := HEA.out; omega
        have r4' : y < (B.2.length : Int) := by have := HEB.out; omega
        clear hp hcs hcA hcB heA heB HCL BD1 BD2 HBR HBW
        generalize endI A x = u at *
        generalize endI B y = v at *
        go_wp2_with fail
        clear HAL HXA HXB m0 m1 m2 m3 m4 m5 m6 m7 co0 co1 zo0 zo1 q0 q1 q2 hgl
        generalize (w5.alloc (.cells #[.int .i64 x, .int .i64 y, .string s] 65)) = w6 at *
        generalize w5.heap.size = B15 at *
        go_loopw [10, 11] (fun nv kv wr => ∃ (k : Nat) (fpn : List Nat), k ≤ 3 ∧ kv = .int .i64 (k : Int) ∧ Hid (Bd 3 kInt w6.heap.size fpn wr nv (Gs.take k)) ∧ Hid (Below w6.heap.size w6 wr)) (fun _ kv _ => 3 - (intOf kv).toNat)
        case atStart => exact ⟨0, [], by omega, rfl, Lib.hid (Bd.nil _), Lib.hid (Below.refl _ _)⟩
        case round =>
          obtain ⟨w7, rfl⟩ : ∃ z : World, z = wr := ⟨_, rfl⟩
          obtain ⟨k, fpn, hk, rfl, BDN, HBN⟩ := hrel
          by_cases hk3 : k < 3
          case neg =>
            obtain rfl : k = 3 := by omega
            have hg3 : Gs.take 3 = Gs := List.take_of_length_le (by have := HGL.out; omega)
            rw [hg3] at BDN
            clear hg3
            obtain ⟨an, cn, hnv⟩ := BDN.out.form
            rw [HGL.out] at hnv
            subst hnv
            have OWQ : Hid (kIntS.ow fpn w7 [.slice an 3 cn] Gs) := Lib.hid BDN.out.ow
            have HND := Lib.hid BDN.out.nodup
            have HGE := Lib.hid BDN.out.ge
            have DQ1 : Hid (∀ b ∈ fpn, b ∉ fp1) := Lib.hid (fun b hb hm => by have h1 := HGE.out b hb; have h2 := BDn1.out.lt kIntS_ok b hm; omega)
            have DQ2 : Hid (∀ b ∈ fpn, b ∉ fp2) := Lib.hid (fun b hb hm => by have h1 := HGE.out b hb; have h2 := BDn2.out.lt kBool_ok b hm; omega)
            have lo0 := below_later HBN.out no0; have lo1 := below_later HBN.out no1
            have lz0 := (Below.frozen HBN.out (p := ⟨w4.heap.size, 0, none⟩) (by show w4.heap.size < w6.heap.size; omega)).trans nz0
            have lz1 := (Below.frozen HBN.out (p := ⟨w4.heap.size, 1, none⟩) (by show w4.heap.size < w6.heap.size; omega)).trans nz1
            have l1 := below_later HBN.out n1; have l2 := below_later HBN.out n2; have l3 := below_later HBN.out n3; have l4 := below_later HBN.out n4
            have lp0 := below_later HBN.out np0; have lp1 := below_later HBN.out np1
            have BDl1 := Lib.hid (BDn1.out.later kIntS_ok HBN.out)
            have BDl2 := Lib.hid (BDn2.out.later kBool_ok HBN.out)
            have HB7 := Lib.hid (HBn.out.trans (HBN.out.mono (by omega)))
            have hl7 : w4.heap.size + 1 ≤ w7.heap.size := Nat.le_trans hln HBN.out.size
            have hn3 : ¬ (3 : Int) < 3 := by omega
            clear n0 n1 n2 n3 n4 n5 n6 n7 HXA6 HXB6 no0 no1 nz0 nz1 np0 np1 BDn1 BDn2 HBn HRW5
            have LT_1 : Hid (∀ b ∈ fp1, b < w7.heap.size) := Lib.hid (fun b hm => by have := (BDl1.out.lt kIntS_ok b hm); first | exact this | omega | (simp at this; omega))
            have LT_2 : Hid (∀ b ∈ fp2, b < w7.heap.size) := Lib.hid (fun b hm => by have := (BDl2.out.lt kBool_ok b hm); first | exact this | omega | (simp at this; omega))
            have LT_3 : Hid (∀ b ∈ fpn, b < w7.heap.size) := Lib.hid (fun b hm => by have := (kIntS_ok.olt OWQ.out b hm); first | exact this | omega | (simp at this; omega))
            have hb_4 : Below w7.heap.size w7 (w7.alloc (.cells #[.slice an 3 cn] 42)) := (Below.refl _ _).alloc (Nat.le_refl _) _
            have hz_5 : w7.heap.size ≤ w7.heap.size + 1 := by have := (hb_4).size; first | omega | (simp at this; omega)
            have c_6 : (w7.alloc (.cells #[.slice an 3 cn] 42)).cell? ⟨w4.heap.size, 0, none⟩ = some (v1) := below_later hb_4 lo0
            have c_7 : (w7.alloc (.cells #[.slice an 3 cn] 42)).cell? ⟨w4.heap.size, 1, none⟩ = some (v2) := below_later hb_4 lo1
            have z_8 : (w7.alloc (.cells #[.slice an 3 cn] 42)).frozen? ⟨w4.heap.size, 0, none⟩ = false := (Below.frozen hb_4 (p := ⟨w4.heap.size, 0, none⟩) (by show w4.heap.size < _; first | omega | (simp; done) | (simp; omega))).trans lz0
            have z_9 : (w7.alloc (.cells #[.slice an 3 cn] 42)).frozen? ⟨w4.heap.size, 1, none⟩ = false := (Below.frozen hb_4 (p := ⟨w4.heap.size, 1, none⟩) (by show w4.heap.size < _; first | omega | (simp; done) | (simp; omega))).trans lz1
            have c_10 : (w7.alloc (.cells #[.slice an 3 cn] 42)).cell? ⟨w.heap.size, 1, none⟩ = some (.slice (some ⟨bA, fA, none⟩) A.2.length ebc) := below_later hb_4 l1
            have c_11 : (w7.alloc (.cells #[.slice an 3 cn] 42)).cell? ⟨bA, fA + x.toNat, none⟩ = some (.bool u) := below_later hb_4 l2
            have c_12 : (w7.alloc (.cells #[.slice an 3 cn] 42)).cell? ⟨(w.heap.size + 1), 1, none⟩ = some (.slice (some ⟨bB, fB, none⟩) B.2.length edc) := below_later hb_4 l3
            have c_13 : (w7.alloc (.cells #[.slice an 3 cn] 42)).cell? ⟨bB, fB + y.toNat, none⟩ = some (.bool v) := below_later hb_4 l4
            have c_14 : (w7.alloc (.cells #[.slice an 3 cn] 42)).cell? ⟨B15, 0, none⟩ = some (.int .i64 x) := below_later hb_4 lp0
            have c_15 : (w7.alloc (.cells #[.slice an 3 cn] 42)).cell? ⟨B15, 1, none⟩ = some (.int .i64 y) := below_later hb_4 lp1
            have hz_16 : w4.heap.size + 1 ≤ w7.heap.size + 1 := Nat.le_trans hl7 hz_5
            have BD_17 := Lib.hid (BDl1.out.later kIntS_ok hb_4)
            have BD_18 := Lib.hid (BDl2.out.later kBool_ok hb_4)
            have OW_19 := Lib.hid (kIntS_ok.oframe OWQ.out (w' := (w7.alloc (.cells #[.slice an 3 cn] 42))) fun b hm => (hb_4).block b (kIntS_ok.olt OWQ.out b hm))
            have BL_20 := Lib.hid (Below.trans HB7.out (Below.mono hb_4 (by have := (HB7.out).size; first | omega | (simp at this; omega) | (simp at this ⊢; omega))))
            clear hb_4
            have c_21 : (w7.alloc (.cells #[.slice an 3 cn] 42)).cell? ⟨w7.heap.size, 0, none⟩ = some (.slice an 3 cn) := by go_simp
            have z_22 : (w7.alloc (.cells #[.slice an 3 cn] 42)).frozen? ⟨w7.heap.size, 0, none⟩ = false := by go_simp
            have hz_23 : w7.heap.size < w7.heap.size + 1 := by omega
            have ND_24 : Hid (∀ b ∈ [w7.heap.size], b ∉ fp1) := Lib.hid (by intro b hb hm; simp only [List.mem_singleton] at hb; subst hb; have := (LT_1.out _ hm); first | omega | (simp at this; omega))
            have ND_25 : Hid (∀ b ∈ [w7.heap.size], b ∉ fp2) := Lib.hid (by intro b hb hm; simp only [List.mem_singleton] at hb; subst hb; have := (LT_2.out _ hm); first | omega | (simp at this; omega))
            have ND_26 : Hid (∀ b ∈ [w7.heap.size], b ∉ fpn) := Lib.hid (by intro b hb hm; simp only [List.mem_singleton] at hb; subst hb; have := (LT_3.out _ hm); first | omega | (simp at this; omega))
            obtain ⟨vss_27, fps_27, hrow, howl, hfp, hnd, hge⟩ := BD_17.out
            rw [HLT1.out] at hrow
            have ROW_27 := Lib.hid hrow; have OWL_27 := Lib.hid howl; have NDU_27 := Lib.hid (hfp ▸ hnd); have GE_27 := Lib.hid (fun b hb => hge b (hfp ▸ hb)); have FPE_27 := Lib.hid hfp; clear hrow howl hnd hge hfp
            go_wp2_with (at_builtin; (refine wpList_append_lies _ rfl _ _ 22 rfl (w4.heap.size + 1) 42 i1 (.slice none 0 0) 1 24 Try.underlying22 hi1 hy0 hy1 hy2 rfl (by decide) v1 i vss_27.flatten rfl ROW_27.out ⟨w7.heap.size, 0, none⟩ 1 1 [.slice an 3 cn] rfl rfl (news_at c_21) (by simp [Value.oneCell']) (by omega) HC3.out HC4.out (by first | omega | (simp; omega)) _ rfl ?_))
            intro g7 cp7 w8 hown hgrow hat hlt4
            have hat2 : v1.ownBlock = some g7 ∨ g7 = (w7.alloc (.cells #[.slice an 3 cn] 42)).heap.size := by rw [World.size_alloc]; exact hat
            clear hat
            have HG_28 := Lib.hid hgrow; have HATHG_28 := Lib.hid hat2; have HONHG_28 := Lib.hid hown
            clear hgrow hat2 hown
            have hz_29 : w7.heap.size + 1 ≤ w8.heap.size := by have := HG_28.out.size; first | omega | (simp at this; omega)
            have LT_30 : Hid (∀ b ∈ fp1, b < w7.heap.size + 1) := Lib.hid (fun b hm => by have := (BD_17.out.lt kIntS_ok b hm); first | exact this | omega | (simp at this; omega))
            have LT_31 : Hid (∀ b ∈ fp2, b < w7.heap.size + 1) := Lib.hid (fun b hm => by have := (BD_18.out.lt kBool_ok b hm); first | exact this | omega | (simp at this; omega))
            have LT_32 : Hid (∀ b ∈ fpn, b < w7.heap.size + 1) := Lib.hid (fun b hm => by have := (kIntS_ok.olt OW_19.out b hm); first | exact this | omega | (simp at this; omega))
            have BD_33 := Lib.hid (Bd.app HLT1.out kIntS_ok ROW_27.out OWL_27.out NDU_27.out GE_27.out OW_19.out HND.out (fun b hb hm => DQ1.out b hb (FPE_27.out ▸ hm)) (fun b hb => by have := HGE.out b hb; omega) HONHG_28.out HG_28.out HATHG_28.out (by first | omega | (simp; done) | (simp; omega)))
            have c_34 : w8.cell? ⟨w4.heap.size, 0, none⟩ = some (v1) := BD_17.out.cell_grown HG_28.out c_6 (by first | omega | (simp; done) | (simp; omega))
            have c_35 : w8.cell? ⟨w4.heap.size, 1, none⟩ = some (v2) := BD_17.out.cell_grown HG_28.out c_7 (by first | omega | (simp; done) | (simp; omega))
            have z_36 : w8.frozen? ⟨w4.heap.size, 0, none⟩ = false := BD_17.out.frozen_grown HG_28.out (by first | omega | (simp; done) | (simp; omega)) z_8 (by first | omega | (simp; done) | (simp; omega))
            have z_37 : w8.frozen? ⟨w4.heap.size, 1, none⟩ = false := BD_17.out.frozen_grown HG_28.out (by first | omega | (simp; done) | (simp; omega)) z_9 (by first | omega | (simp; done) | (simp; omega))
            have c_38 : w8.cell? ⟨w.heap.size, 1, none⟩ = some (.slice (some ⟨bA, fA, none⟩) A.2.length ebc) := BD_17.out.cell_grown HG_28.out c_10 (by first | omega | (simp; done) | (simp; omega))
            have c_39 : w8.cell? ⟨bA, fA + x.toNat, none⟩ = some (.bool u) := BD_17.out.cell_grown HG_28.out c_11 (by first | omega | (simp; done) | (simp; omega))
            have c_40 : w8.cell? ⟨(w.heap.size + 1), 1, none⟩ = some (.slice (some ⟨bB, fB, none⟩) B.2.length edc) := BD_17.out.cell_grown HG_28.out c_12 (by first | omega | (simp; done) | (simp; omega))
            have c_41 : w8.cell? ⟨bB, fB + y.toNat, none⟩ = some (.bool v) := BD_17.out.cell_grown HG_28.out c_13 (by first | omega | (simp; done) | (simp; omega))
            have c_42 : w8.cell? ⟨B15, 0, none⟩ = some (.int .i64 x) := (HG_28.out.cell_far ⟨B15, 0, none⟩ (World.block_lt_of_cell? _ _ c_14) (fun he => HP1.out _ (by simp) (BD_17.out.own_mem _ he.symm))).trans c_14
            have c_43 : w8.cell? ⟨B15, 1, none⟩ = some (.int .i64 y) := (HG_28.out.cell_far ⟨B15, 1, none⟩ (World.block_lt_of_cell? _ _ c_15) (fun he => HP1.out _ (by simp) (BD_17.out.own_mem _ he.symm))).trans c_15
            have hz_44 : w4.heap.size + 1 ≤ w8.heap.size := Nat.le_trans hz_16 hz_29
            have BD_45 := Lib.hid (BD_18.out.grown kBool_ok HG_28.out (fun k hk hm => DIS.out k (BD_17.out.own_mem k hk) hm))
            have ND_46 : Hid (∀ b ∈ (g7 :: (fps_27.flatten ++ fpn)), b ∉ fp2) := Lib.hid (fun b hm hs => (app_in HATHG_28.out hm).elim (fun h => DIS.out b (FPE_27.out ▸ h) hs) (fun h => h.elim (fun h => by exact DQ2.out b h hs) (fun h => by have := LT_31.out b hs; first | omega | (simp at h; omega))))
            have BL_47 := Lib.hid (Below.grown BL_20.out HG_28.out (by have := (BL_20.out).size; first | omega | (simp at this; omega) | (simp at this ⊢; omega)) (fun k hk => Nat.le_trans (by first | omega | (simp; done) | (simp; omega)) (BD_17.out.own_ge k hk)))
            have c_48 : w8.cell? ⟨w7.heap.size, 0, none⟩ = some (.slice an 3 cn) := (HG_28.out.cell_far ⟨w7.heap.size, 0, none⟩ (World.block_lt_of_cell? _ _ c_21) (fun he => ND_24.out _ (by simp) (BD_17.out.own_mem _ he.symm))).trans c_21
            have z_49 : w8.frozen? ⟨w7.heap.size, 0, none⟩ = false := (HG_28.out.frozen_far ⟨w7.heap.size, 0, none⟩ (by first | omega | (simp; done) | (simp; omega)) (fun he => ND_24.out _ (by simp) (BD_17.out.own_mem _ he.symm))).trans z_22
            have hz_50 : w7.heap.size + 1 ≤ w8.heap.size := Nat.le_trans hz_23 hz_29
            have c_51 : (w8.setCell ⟨w4.heap.size, 0, none⟩ (.slice (some ⟨g7, 0, none⟩) (i + 1) cp7)).cell? ⟨w4.heap.size, 0, none⟩ = some (.slice (some ⟨g7, 0, none⟩) (i + 1) cp7) := World.cell?_setCell_same _ _ _ c_34
            have c_52 : (w8.setCell ⟨w4.heap.size, 0, none⟩ (.slice (some ⟨g7, 0, none⟩) (i + 1) cp7)).cell? ⟨w4.heap.size, 1, none⟩ = some (v2) := (World.cell?_setCell_other _ _ _ _ (by simp only [ne_eq, Addr.mk.injEq, not_and]; omega)).trans c_35
            have z_53 : (w8.setCell ⟨w4.heap.size, 0, none⟩ (.slice (some ⟨g7, 0, none⟩) (i + 1) cp7)).frozen? ⟨w4.heap.size, 0, none⟩ = false := by rw [World.frozen?_setCell]; exact z_36
            have z_54 : (w8.setCell ⟨w4.heap.size, 0, none⟩ (.slice (some ⟨g7, 0, none⟩) (i + 1) cp7)).frozen? ⟨w4.heap.size, 1, none⟩ = false := by rw [World.frozen?_setCell]; exact z_37
            have c_55 : (w8.setCell ⟨w4.heap.size, 0, none⟩ (.slice (some ⟨g7, 0, none⟩) (i + 1) cp7)).cell? ⟨w.heap.size, 1, none⟩ = some (.slice (some ⟨bA, fA, none⟩) A.2.length ebc) := (World.cell?_setCell_other _ _ _ _ (by simp only [ne_eq, Addr.mk.injEq, not_and]; omega)).trans c_38
            have c_56 : (w8.setCell ⟨w4.heap.size, 0, none⟩ (.slice (some ⟨g7, 0, none⟩) (i + 1) cp7)).cell? ⟨bA, fA + x.toNat, none⟩ = some (.bool u) := (World.cell?_setCell_other _ _ _ _ (by simp only [ne_eq, Addr.mk.injEq, not_and]; omega)).trans c_39
            have c_57 : (w8.setCell ⟨w4.heap.size, 0, none⟩ (.slice (some ⟨g7, 0, none⟩) (i + 1) cp7)).cell? ⟨(w.heap.size + 1), 1, none⟩ = some (.slice (some ⟨bB, fB, none⟩) B.2.length edc) := (World.cell?_setCell_other _ _ _ _ (by simp only [ne_eq, Addr.mk.injEq, not_and]; omega)).trans c_40
            have c_58 : (w8.setCell ⟨w4.heap.size, 0, none⟩ (.slice (some ⟨g7, 0, none⟩) (i + 1) cp7)).cell? ⟨bB, fB + y.toNat, none⟩ = some (.bool v) := (World.cell?_setCell_other _ _ _ _ (by simp only [ne_eq, Addr.mk.injEq, not_and]; omega)).trans c_41
            have c_59 : (w8.setCell ⟨w4.heap.size, 0, none⟩ (.slice (some ⟨g7, 0, none⟩) (i + 1) cp7)).cell? ⟨B15, 0, none⟩ = some (.int .i64 x) := (World.cell?_setCell_other _ _ _ _ (by simp only [ne_eq, Addr.mk.injEq, not_and]; omega)).trans c_42
            have c_60 : (w8.setCell ⟨w4.heap.size, 0, none⟩ (.slice (some ⟨g7, 0, none⟩) (i + 1) cp7)).cell? ⟨B15, 1, none⟩ = some (.int .i64 y) := (World.cell?_setCell_other _ _ _ _ (by simp only [ne_eq, Addr.mk.injEq, not_and]; omega)).trans c_43
            have BD_61 := Lib.hid (BD_33.out.setCell kIntS_ok (a := ⟨w4.heap.size, 0, none⟩) (by show w4.heap.size < _; first | omega | (simp; omega)) (.slice (some ⟨g7, 0, none⟩) (i + 1) cp7))
            have BD_62 := Lib.hid (BD_45.out.setCell kBool_ok (a := ⟨w4.heap.size, 0, none⟩) (by show w4.heap.size < _; first | omega | (simp; omega)) (.slice (some ⟨g7, 0, none⟩) (i + 1) cp7))
            have BL_63 := Lib.hid (BL_47.out.setCell (p := ⟨w4.heap.size, 0, none⟩) (by show _ ≤ w4.heap.size; omega) (.slice (some ⟨g7, 0, none⟩) (i + 1) cp7))
            go_wp2_with fail
            obtain ⟨wz, hwz⟩ : ∃ z : World, z = (w8.setCell ⟨w4.heap.size, 0, none⟩ (.slice (some ⟨g7, 0, none⟩) (i + 1) cp7)) := ⟨_, rfl⟩
            rw [← hwz] at c_51 c_52 z_53 z_54 c_55 c_56 c_57 c_58 c_59 c_60 BD_61 BD_62 BL_63 ⊢
            have hz_64 : w4.heap.size + 1 ≤ wz.heap.size := by rw [hwz]; simp only [World.size_setCell, World.size_alloc]; exact hz_44
            clear hwz
            cases u with
            | false =>
              have hb_65 : Below wz.heap.size wz wz.drew := (Below.refl _ _).drew
              have hz_66 : wz.heap.size ≤ wz.heap.size := by have := (hb_65).size; first | omega | (simp at this; omega)
              have c_67 : wz.drew.cell? ⟨w4.heap.size, 0, none⟩ = some (.slice (some ⟨g7, 0, none⟩) (i + 1) cp7) := below_later hb_65 c_51; clear c_51
              have c_68 : wz.drew.cell? ⟨w4.heap.size, 1, none⟩ = some (v2) := below_later hb_65 c_52; clear c_52
              have z_69 : wz.drew.frozen? ⟨w4.heap.size, 0, none⟩ = false := (Below.frozen hb_65 (p := ⟨w4.heap.size, 0, none⟩) (by show w4.heap.size < _; first | omega | (simp; done) | (simp; omega))).trans z_53
              have z_70 : wz.drew.frozen? ⟨w4.heap.size, 1, none⟩ = false := (Below.frozen hb_65 (p := ⟨w4.heap.size, 1, none⟩) (by show w4.heap.size < _; first | omega | (simp; done) | (simp; omega))).trans z_54
              have c_71 : wz.drew.cell? ⟨w.heap.size, 1, none⟩ = some (.slice (some ⟨bA, fA, none⟩) A.2.length ebc) := below_later hb_65 c_55; clear c_55
              have c_72 : wz.drew.cell? ⟨bA, fA + x.toNat, none⟩ = some (.bool false) := below_later hb_65 c_56; clear c_56
              have c_73 : wz.drew.cell? ⟨(w.heap.size + 1), 1, none⟩ = some (.slice (some ⟨bB, fB, none⟩) B.2.length edc) := below_later hb_65 c_57; clear c_57
              have c_74 : wz.drew.cell? ⟨bB, fB + y.toNat, none⟩ = some (.bool v) := below_later hb_65 c_58; clear c_58
              have c_75 : wz.drew.cell? ⟨B15, 0, none⟩ = some (.int .i64 x) := below_later hb_65 c_59; clear c_59
              have c_76 : wz.drew.cell? ⟨B15, 1, none⟩ = some (.int .i64 y) := below_later hb_65 c_60; clear c_60
              have hz_77 : w4.heap.size + 1 ≤ wz.heap.size := Nat.le_trans hz_64 hz_66
              have BD_78 := Lib.hid (BD_61.out.later kIntS_ok hb_65)
              have BD_79 := Lib.hid (BD_62.out.later kBool_ok hb_65)
              have BL_80 := Lib.hid (Below.trans BL_63.out (Below.mono hb_65 (by have := (BL_63.out).size; first | omega | (simp at this; omega) | (simp at this ⊢; omega))))
              clear hb_65
              refine wp_region_G [17] (fun w' => w'.cell? ⟨w4.heap.size, 1, none⟩ = some (v2) ∧ w'.cell? ⟨w.heap.size, 1, none⟩ = some (.slice (some ⟨bA, fA, none⟩) A.2.length ebc) ∧ w'.cell? ⟨bA, fA + x.toNat, none⟩ = some (.bool false) ∧ w'.cell? ⟨(w.heap.size + 1), 1, none⟩ = some (.slice (some ⟨bB, fB, none⟩) B.2.length edc) ∧ w'.cell? ⟨bB, fB + y.toNat, none⟩ = some (.bool v) ∧ w'.cell? ⟨B15, 0, none⟩ = some (.int .i64 x) ∧ w'.cell? ⟨B15, 1, none⟩ = some (.int .i64 y)) (by kernel_rfl) ?_ (fun hHeld => ?_)
              · exact ⟨c_68, c_71, c_72, c_73, c_74, c_75, c_76⟩
              refine wpG_pure (i := 0) (oi := { dst := some 68, op := Go.Op.fieldAddr 28 (Go.Operand.tmp 7) 1, type := 0, pos := "l12_machine.go:220", after := #[], guard := none }) (v := ?vg1) rfl (by kernel_rfl) (fun _ _ _ h => h) (Or.inr hHeld) (Or.inl ⟨by rfl, ?yg1⟩) ?_
              case yg1 => (intro wS _; go_simp <;> with_reducible rfl)
              try simp only [Act.put, List.setIfInBounds_toArray, List.set_cons_zero, List.set_cons_succ]
              refine wpG_load (i := 1) (oi := { dst := some 69, op := Go.Op.load 23 (Go.Operand.tmp 68), type := 23, pos := "l12_machine.go:220", after := #[{ on := 0, ground := Go.Ground.data }], guard := none }) (v := ?vg2) [[17, 1]] rfl (by kernel_rfl) (fun _ _ _ h => h) hHeld (Or.inl ⟨by rfl, ?yg2⟩) ?_
              case yg2 => (intro wS hSw; (try dsimp only at hSw); go_simp <;> with_reducible rfl)
              try simp only [Act.put, List.setIfInBounds_toArray, List.set_cons_zero, List.set_cons_succ]
              refine wpG_pure (i := 2) (oi := { dst := some 70, op := Go.Op.fieldAddr 28 (Go.Operand.tmp 2) 1, type := 0, pos := "l12_machine.go:220", after := #[], guard := none }) (v := ?vg3) rfl (by kernel_rfl) (fun _ _ _ h => h) (Or.inr hHeld) (Or.inl ⟨by rfl, ?yg3⟩) ?_
              case yg3 => (intro wS _; go_simp <;> with_reducible rfl)
              try simp only [Act.put, List.setIfInBounds_toArray, List.set_cons_zero, List.set_cons_succ]
              refine wpG_load (i := 3) (oi := { dst := some 71, op := Go.Op.load 23 (Go.Operand.tmp 70), type := 23, pos := "l12_machine.go:220", after := #[{ on := 2, ground := Go.Ground.data }], guard := none }) (v := ?vg4) [[17, 8, 7, 6, 3]] rfl (by kernel_rfl) (fun _ _ _ h => h) hHeld (Or.inl ⟨by rfl, ?yg4⟩) ?_
              case yg4 => (intro wS hSw; (try dsimp only at hSw); go_simp <;> with_reducible rfl)
              try simp only [Act.put, List.setIfInBounds_toArray, List.set_cons_zero, List.set_cons_succ]
              refine wpG_pure (i := 4) (oi := { dst := some 72, op := Go.Op.fieldAddr 65 (Go.Operand.tmp 9) 0, type := 0, pos := "l12_machine.go:220", after := #[], guard := none }) (v := ?vg5) rfl (by kernel_rfl) (fun _ _ _ h => h) (Or.inr hHeld) (Or.inl ⟨by rfl, ?yg5⟩) ?_
              case yg5 => (intro wS _; go_simp <;> with_reducible rfl)
              try simp only [Act.put, List.setIfInBounds_toArray, List.set_cons_zero, List.set_cons_succ]
              refine wpG_load (i := 5) (oi := { dst := some 73, op := Go.Op.load 3 (Go.Operand.tmp 72), type := 3, pos := "l12_machine.go:220", after := #[{ on := 4, ground := Go.Ground.data }], guard := none }) (v := ?vg6) [[17, 8, 7, 6, 5]] rfl (by kernel_rfl) (fun _ _ _ h => h) hHeld (Or.inl ⟨by rfl, ?yg6⟩) ?_
              case yg6 => (intro wS hSw; (try dsimp only at hSw); go_simp <;> with_reducible rfl)
              try simp only [Act.put, List.setIfInBounds_toArray, List.set_cons_zero, List.set_cons_succ]
              refine wpG_pure (i := 6) (oi := { dst := some 74, op := Go.Op.indexAddr 23 (Go.Operand.tmp 71) (Go.Operand.tmp 73), type := 0, pos := "l12_machine.go:220", after := #[{ on := 3, ground := Go.Ground.data }, { on := 5, ground := Go.Ground.data }], guard := none }) (v := ?vg7) rfl (by kernel_rfl) (fun _ _ _ h => h) (Or.inr hHeld) (Or.inl ⟨by rfl, ?yg7⟩) ?_
              case yg7 => (intro wS _; go_simp <;> with_reducible rfl)
              try simp only [Act.put, List.setIfInBounds_toArray, List.set_cons_zero, List.set_cons_succ]
              refine wpG_load (i := 7) (oi := { dst := some 75, op := Go.Op.load 4 (Go.Operand.tmp 74), type := 4, pos := "l12_machine.go:220", after := #[{ on := 6, ground := Go.Ground.data }], guard := none }) (v := ?vg8) [[17, 8, 7]] rfl (by kernel_rfl) (fun _ _ _ h => h) hHeld (Or.inl ⟨by rfl, ?yg8⟩) ?_
              case yg8 => (intro wS hSw; (try dsimp only at hSw); go_simp <;> with_reducible rfl)
              try simp only [Act.put, List.setIfInBounds_toArray, List.set_cons_zero, List.set_cons_succ]
              refine wpG_pure (i := 8) (oi := { dst := some 76, op := Go.Op.move (Go.Operand.tmp 75), type := 4, pos := "l12_machine.go:220", after := #[{ on := 7, ground := Go.Ground.data }], guard := none }) (v := ?vg9) rfl (by kernel_rfl) (fun _ _ _ h => h) (Or.inr hHeld) (Or.inl ⟨by rfl, ?yg9⟩) ?_
              case yg9 => (intro wS _; go_simp <;> with_reducible rfl)
              try simp only [Act.put, List.setIfInBounds_toArray, List.set_cons_zero, List.set_cons_succ]
              refine wpG_pure (i := 9) (oi := { dst := some 77, op := Go.Op.fieldAddr 28 (Go.Operand.tmp 3) 1, type := 0, pos := "l12_machine.go:220", after := #[{ on := 8, ground := Go.Ground.guard }], guard := some (8, true) }) (v := undef) rfl (by kernel_rfl) (fun _ _ _ h => h) (Or.inr hHeld) (Or.inr ⟨by rfl, rfl⟩) ?_
              try simp only [Act.put, List.setIfInBounds_toArray, List.set_cons_zero, List.set_cons_succ]
              refine wpG_pure (i := 10) (oi := { dst := some 78, op := Go.Op.load 23 (Go.Operand.tmp 77), type := 23, pos := "l12_machine.go:220", after := #[{ on := 9, ground := Go.Ground.data }, { on := 8, ground := Go.Ground.guard }], guard := some (8, true) }) (v := undef) rfl (by kernel_rfl) (fun _ _ _ h => h) (Or.inr hHeld) (Or.inr ⟨by rfl, rfl⟩) ?_
              try simp only [Act.put, List.setIfInBounds_toArray, List.set_cons_zero, List.set_cons_succ]
              refine wpG_pure (i := 11) (oi := { dst := some 79, op := Go.Op.fieldAddr 65 (Go.Operand.tmp 9) 1, type := 0, pos := "l12_machine.go:220", after := #[{ on := 8, ground := Go.Ground.guard }], guard := some (8, true) }) (v := undef) rfl (by kernel_rfl) (fun _ _ _ h => h) (Or.inr hHeld) (Or.inr ⟨by rfl, rfl⟩) ?_
              try simp only [Act.put, List.setIfInBounds_toArray, List.set_cons_zero, List.set_cons_succ]
              refine wpG_pure (i := 12) (oi := { dst := some 80, op := Go.Op.load 3 (Go.Operand.tmp 79), type := 3, pos := "l12_machine.go:220", after := #[{ on := 11, ground := Go.Ground.data }, { on := 8, ground := Go.Ground.guard }], guard := some (8, true) }) (v := undef) rfl (by kernel_rfl) (fun _ _ _ h => h) (Or.inr hHeld) (Or.inr ⟨by rfl, rfl⟩) ?_
              try simp only [Act.put, List.setIfInBounds_toArray, List.set_cons_zero, List.set_cons_succ]
              refine wpG_pure (i := 13) (oi := { dst := some 81, op := Go.Op.indexAddr 23 (Go.Operand.tmp 78) (Go.Operand.tmp 80), type := 0, pos := "l12_machine.go:220", after := #[{ on := 10, ground := Go.Ground.data }, { on := 12, ground := Go.Ground.data }, { on := 8, ground := Go.Ground.guard }], guard := some (8, true) }) (v := undef) rfl (by kernel_rfl) (fun _ _ _ h => h) (Or.inr hHeld) (Or.inr ⟨by rfl, rfl⟩) ?_
              try simp only [Act.put, List.setIfInBounds_toArray, List.set_cons_zero, List.set_cons_succ]
              refine wpG_pure (i := 14) (oi := { dst := some 82, op := Go.Op.load 4 (Go.Operand.tmp 81), type := 4, pos := "l12_machine.go:220", after := #[{ on := 13, ground := Go.Ground.data }, { on := 8, ground := Go.Ground.guard }], guard := some (8, true) }) (v := undef) rfl (by kernel_rfl) (fun _ _ _ h => h) (Or.inr hHeld) (Or.inr ⟨by rfl, rfl⟩) ?_
              try simp only [Act.put, List.setIfInBounds_toArray, List.set_cons_zero, List.set_cons_succ]
              refine wpG_pure (i := 15) (oi := { dst := some 83, op := Go.Op.pick (Go.Operand.tmp 76) (Go.Operand.tmp 82) (Go.Operand.const (Go.Value.bool false)), type := 4, pos := "l12_machine.go:220", after := #[{ on := 8, ground := Go.Ground.data }, { on := 14, ground := Go.Ground.data }], guard := none }) (v := ?vg16) rfl (by kernel_rfl) (fun _ _ _ h => h) (Or.inr hHeld) (Or.inl ⟨by rfl, ?yg16⟩) ?_
              case yg16 => (intro wS _; go_simp <;> with_reducible rfl)
              try simp only [Act.put, List.setIfInBounds_toArray, List.set_cons_zero, List.set_cons_succ]
              refine wpG_one (i := 16) (o := { dst := some 84, op := Go.Op.buildSlice 23 1 #[(0, Go.Operand.tmp 83)], type := 23, pos := "l12_machine.go:220", after := #[{ on := 15, ground := Go.Ground.data }], guard := none }) rfl (by kernel_rfl) (fun K hK => ?_)
              go_simp
              have LT_81 : Hid (∀ b ∈ (g7 :: (fps_27.flatten ++ fpn)), b < wz.heap.size) := Lib.hid (fun b hm => by have := (BD_78.out.lt kIntS_ok b hm); first | exact this | omega | (simp at this; omega))
              have LT_82 : Hid (∀ b ∈ fp2, b < wz.heap.size) := Lib.hid (fun b hm => by have := (BD_79.out.lt kBool_ok b hm); first | exact this | omega | (simp at this; omega))
              have hb_83 : Below wz.drew.heap.size wz.drew (wz.alloc (.cells #[.bool false] 4)).drew := below_alloc_drew _ _
              have hz_84 : wz.heap.size ≤ wz.heap.size + 1 := by have := (hb_83).size; first | omega | (simp at this; omega)
              have c_85 : (wz.alloc (.cells #[.bool false] 4)).drew.cell? ⟨w4.heap.size, 0, none⟩ = some (.slice (some ⟨g7, 0, none⟩) (i + 1) cp7) := below_later hb_83 c_67; clear c_67
              have c_86 : (wz.alloc (.cells #[.bool false] 4)).drew.cell? ⟨w4.heap.size, 1, none⟩ = some (v2) := below_later hb_83 c_68; clear c_68
              have z_87 : (wz.alloc (.cells #[.bool false] 4)).drew.frozen? ⟨w4.heap.size, 0, none⟩ = false := (Below.frozen hb_83 (p := ⟨w4.heap.size, 0, none⟩) (by show w4.heap.size < _; first | omega | (simp; done) | (simp; omega))).trans z_69
              have z_88 : (wz.alloc (.cells #[.bool false] 4)).drew.frozen? ⟨w4.heap.size, 1, none⟩ = false := (Below.frozen hb_83 (p := ⟨w4.heap.size, 1, none⟩) (by show w4.heap.size < _; first | omega | (simp; done) | (simp; omega))).trans z_70
              have c_89 : (wz.alloc (.cells #[.bool false] 4)).drew.cell? ⟨w.heap.size, 1, none⟩ = some (.slice (some ⟨bA, fA, none⟩) A.2.length ebc) := below_later hb_83 c_71; clear c_71
              have c_90 : (wz.alloc (.cells #[.bool false] 4)).drew.cell? ⟨bA, fA + x.toNat, none⟩ = some (.bool false) := below_later hb_83 c_72; clear c_72
              have c_91 : (wz.alloc (.cells #[.bool false] 4)).drew.cell? ⟨(w.heap.size + 1), 1, none⟩ = some (.slice (some ⟨bB, fB, none⟩) B.2.length edc) := below_later hb_83 c_73; clear c_73
              have c_92 : (wz.alloc (.cells #[.bool false] 4)).drew.cell? ⟨bB, fB + y.toNat, none⟩ = some (.bool v) := below_later hb_83 c_74; clear c_74
              have c_93 : (wz.alloc (.cells #[.bool false] 4)).drew.cell? ⟨B15, 0, none⟩ = some (.int .i64 x) := below_later hb_83 c_75; clear c_75
              have c_94 : (wz.alloc (.cells #[.bool false] 4)).drew.cell? ⟨B15, 1, none⟩ = some (.int .i64 y) := below_later hb_83 c_76; clear c_76
              have hz_95 : w4.heap.size + 1 ≤ wz.heap.size + 1 := Nat.le_trans hz_77 hz_84
              have BD_96 := Lib.hid (BD_78.out.later kIntS_ok hb_83)
              have BD_97 := Lib.hid (BD_79.out.later kBool_ok hb_83)
              have BL_98 := Lib.hid (Below.trans BL_80.out (Below.mono hb_83 (by have := (BL_80.out).size; first | omega | (simp at this; omega) | (simp at this ⊢; omega))))
              clear hb_83
              have c_99 : (wz.alloc (.cells #[.bool false] 4)).drew.cell? ⟨wz.heap.size, 0, none⟩ = some (.bool false) := by go_simp
              have z_100 : (wz.alloc (.cells #[.bool false] 4)).drew.frozen? ⟨wz.heap.size, 0, none⟩ = false := by go_simp
              have hz_101 : wz.heap.size < wz.heap.size + 1 := by omega
              have ND_102 : Hid (∀ b ∈ [wz.heap.size], b ∉ (g7 :: (fps_27.flatten ++ fpn))) := Lib.hid (by intro b hb hm; simp only [List.mem_singleton] at hb; subst hb; have := (LT_81.out _ hm); first | omega | (simp at this; omega))
              have ND_103 : Hid (∀ b ∈ [wz.heap.size], b ∉ fp2) := Lib.hid (by intro b hb hm; simp only [List.mem_singleton] at hb; subst hb; have := (LT_82.out _ hm); first | omega | (simp at this; omega))
              refine hK.out _ _ (Or.inr ?khHeld17) (fun hHeld17S => ?_)
              case khHeld17 => exact ⟨c_86, c_89, c_90, c_91, c_92, c_93, c_94⟩
              have hHeld17 := hHeld17S.held (by kernel_rfl)
              clear hK K
              try simp only [Act.put, List.setIfInBounds_toArray, List.set_cons_zero, List.set_cons_succ]
              refine wpG_one (i := 17) (o := { dst := some 85, op := Go.Op.call { callee := Go.Callee.builtin Go.Builtin.append, args := #[Go.Operand.tmp 69, Go.Operand.tmp 84], argTypes := #[23, 23] }, type := 23, pos := "l12_machine.go:220", after := #[{ on := 1, ground := Go.Ground.data }, { on := 16, ground := Go.Ground.data }, { on := 8, ground := Go.Ground.chain }], guard := none }) rfl (by kernel_rfl) (fun K hK => ?_)
              obtain ⟨vss_104, fps_104, hrow, howl, hfp, hnd, hge⟩ := BD_97.out
              rw [HLT2.out] at hrow
              have ROW_104 := Lib.hid hrow; have OWL_104 := Lib.hid howl; have NDU_104 := Lib.hid (hfp ▸ hnd); have GE_104 := Lib.hid (fun b hb => hge b (hfp ▸ hb)); have FPE_104 := Lib.hid hfp; clear hrow howl hnd hge hfp
              refine step_append_lies _ rfl (.tmp 69) (.tmp 84) 23 rfl (w4.heap.size + 1) 4 i2 (.bool false) 1 1 Try.underlying23 hi2 hx0 hx1 hx2 rfl (by decide) v2 i vss_104.flatten rfl ROW_104.out ⟨wz.heap.size, 0, none⟩ 1 1 [.bool false] rfl rfl (news_at c_99) (by simp [Value.oneCell']) (by omega) HC5.out HC6.out (by first | omega | (simp; omega)) _ rfl ?_
              intro g9 cp9 w9 hown hgrow hat hlt4
              have HG_105 := Lib.hid hgrow; have HATHG_105 := Lib.hid hat; have HONHG_105 := Lib.hid hown
              clear hgrow hat hown
              have hz_106 : wz.heap.size + 1 ≤ w9.heap.size := by have := HG_105.out.size; first | omega | (simp at this; omega)
              have LT_107 : Hid (∀ b ∈ (g7 :: (fps_27.flatten ++ fpn)), b < wz.heap.size + 1) := Lib.hid (fun b hm => by have := (BD_96.out.lt kIntS_ok b hm); first | exact this | omega | (simp at this; omega))
              have LT_108 : Hid (∀ b ∈ fp2, b < wz.heap.size + 1) := Lib.hid (fun b hm => by have := (BD_97.out.lt kBool_ok b hm); first | exact this | omega | (simp at this; omega))
              have BD_109 := Lib.hid (Bd.app HLT2.out kBool_ok ROW_104.out OWL_104.out NDU_104.out GE_104.out ⟨rfl, rfl, trivial⟩ List.nodup_nil (fun b hb => absurd hb (by simp)) (fun b hb => absurd hb (by simp)) HONHG_105.out HG_105.out HATHG_105.out (by first | omega | (simp; done) | (simp; omega)))
              have c_110 : w9.cell? ⟨w4.heap.size, 0, none⟩ = some (.slice (some ⟨g7, 0, none⟩) (i + 1) cp7) := BD_97.out.cell_grown HG_105.out c_85 (by first | omega | (simp; done) | (simp; omega))
              have c_111 : w9.cell? ⟨w4.heap.size, 1, none⟩ = some (v2) := BD_97.out.cell_grown HG_105.out c_86 (by first | omega | (simp; done) | (simp; omega))
              have z_112 : w9.frozen? ⟨w4.heap.size, 0, none⟩ = false := BD_97.out.frozen_grown HG_105.out (by first | omega | (simp; done) | (simp; omega)) z_87 (by first | omega | (simp; done) | (simp; omega))
              have z_113 : w9.frozen? ⟨w4.heap.size, 1, none⟩ = false := BD_97.out.frozen_grown HG_105.out (by first | omega | (simp; done) | (simp; omega)) z_88 (by first | omega | (simp; done) | (simp; omega))
              have hz_114 : w4.heap.size + 1 ≤ w9.heap.size := Nat.le_trans hz_95 hz_106
              have BD_115 := Lib.hid (BD_96.out.grown kIntS_ok HG_105.out (fun k hk hm => (fun x hx hy => ND_46.out x hy hx) k (BD_97.out.own_mem k hk) hm))
              have ND_116 : Hid (∀ b ∈ (g9 :: (fps_104.flatten ++ [])), b ∉ (g7 :: (fps_27.flatten ++ fpn))) := Lib.hid (fun b hm hs => (app_in HATHG_105.out hm).elim (fun h => (fun x hx hy => ND_46.out x hy hx) b (FPE_104.out ▸ h) hs) (fun h => h.elim (fun h => by simp at h) (fun h => by have := LT_107.out b hs; first | omega | (simp at h; omega))))
              have BL_117 := Lib.hid (Below.grown BL_98.out HG_105.out (by have := (BL_98.out).size; first | omega | (simp at this; omega) | (simp at this ⊢; omega)) (fun k hk => Nat.le_trans (by first | omega | (simp; done) | (simp; omega)) (BD_97.out.own_ge k hk)))
              have c_118 : w9.cell? ⟨wz.heap.size, 0, none⟩ = some (.bool false) := (HG_105.out.cell_far ⟨wz.heap.size, 0, none⟩ (World.block_lt_of_cell? _ _ c_99) (fun he => ND_103.out _ (by simp) (BD_97.out.own_mem _ he.symm))).trans c_99
              have z_119 : w9.frozen? ⟨wz.heap.size, 0, none⟩ = false := (HG_105.out.frozen_far ⟨wz.heap.size, 0, none⟩ (by first | omega | (simp; done) | (simp; omega)) (fun he => ND_103.out _ (by simp) (BD_97.out.own_mem _ he.symm))).trans z_100
              have hz_120 : wz.heap.size + 1 ≤ w9.heap.size := Nat.le_trans hz_101 hz_106
              refine hK.out _ _ (Or.inl (by kernel_rfl)) (fun _ => ?_)
              clear hK K
              try simp only [Act.put, List.setIfInBounds_toArray, List.set_cons_zero, List.set_cons_succ]
              refine wpG_pure (i := 18) (oi := { dst := some 86, op := Go.Op.fieldAddr 28 (Go.Operand.tmp 7) 1, type := 0, pos := "l12_machine.go:220", after := #[{ on := 0, ground := Go.Ground.phase }, { on := 1, ground := Go.Ground.phase }, { on := 2, ground := Go.Ground.phase }, { on := 3, ground := Go.Ground.phase }, { on := 4, ground := Go.Ground.phase }, { on := 5, ground := Go.Ground.phase }, { on := 6, ground := Go.Ground.phase }, { on := 7, ground := Go.Ground.phase }, { on := 8, ground := Go.Ground.phase }, { on := 9, ground := Go.Ground.phase }, { on := 10, ground := Go.Ground.phase }, { on := 11, ground := Go.Ground.phase }, { on := 12, ground := Go.Ground.phase }, { on := 13, ground := Go.Ground.phase }, { on := 14, ground := Go.Ground.phase }, { on := 15, ground := Go.Ground.phase }, { on := 16, ground := Go.Ground.phase }, { on := 17, ground := Go.Ground.phase }], guard := none }) (v := ?vg19) rfl (by kernel_rfl) (fun _ _ _ h => h) (Or.inl (by kernel_rfl)) (Or.inl ⟨by rfl, ?yg19⟩) ?_
              case yg19 => (intro wS _; go_simp <;> with_reducible rfl)
              try simp only [Act.put, List.setIfInBounds_toArray, List.set_cons_zero, List.set_cons_succ]
              refine wpG_one (i := 19) (o := { dst := none, op := Go.Op.store 23 (Go.Operand.tmp 86) (Go.Operand.tmp 85), type := 0, pos := "l12_machine.go:220", after := #[{ on := 18, ground := Go.Ground.data }, { on := 17, ground := Go.Ground.data }, { on := 17, ground := Go.Ground.chain }, { on := 0, ground := Go.Ground.phase }, { on := 1, ground := Go.Ground.phase }, { on := 2, ground := Go.Ground.phase }, { on := 3, ground := Go.Ground.phase }, { on := 4, ground := Go.Ground.phase }, { on := 5, ground := Go.Ground.phase }, { on := 6, ground := Go.Ground.phase }, { on := 7, ground := Go.Ground.phase }, { on := 8, ground := Go.Ground.phase }, { on := 9, ground := Go.Ground.phase }, { on := 10, ground := Go.Ground.phase }, { on := 11, ground := Go.Ground.phase }, { on := 12, ground := Go.Ground.phase }, { on := 13, ground := Go.Ground.phase }, { on := 14, ground := Go.Ground.phase }, { on := 15, ground := Go.Ground.phase }, { on := 16, ground := Go.Ground.phase }, { on := 17, ground := Go.Ground.phase }], guard := none }) rfl (by kernel_rfl) (fun K hK => ?_)
              go_simp
              refine hK.out _ _ (Or.inl (by kernel_rfl)) (fun _ => ?_)
              clear hK K
              try simp only [Act.put, List.setIfInBounds_toArray, List.set_cons_zero, List.set_cons_succ]
              refine wpG_done (by kernel_rfl) ?_
              have c_121 : (w9.setCell ⟨w4.heap.size, 1, none⟩ (.slice (some ⟨g9, 0, none⟩) (i + 1) cp9)).cell? ⟨w4.heap.size, 0, none⟩ = some (.slice (some ⟨g7, 0, none⟩) (i + 1) cp7) := (World.cell?_setCell_other _ _ _ _ (by simp only [ne_eq, Addr.mk.injEq, not_and]; omega)).trans c_110
              have c_122 : (w9.setCell ⟨w4.heap.size, 1, none⟩ (.slice (some ⟨g9, 0, none⟩) (i + 1) cp9)).cell? ⟨w4.heap.size, 1, none⟩ = some (.slice (some ⟨g9, 0, none⟩) (i + 1) cp9) := World.cell?_setCell_same _ _ _ c_111
              have z_123 : (w9.setCell ⟨w4.heap.size, 1, none⟩ (.slice (some ⟨g9, 0, none⟩) (i + 1) cp9)).frozen? ⟨w4.heap.size, 0, none⟩ = false := by rw [World.frozen?_setCell]; exact z_112
              have z_124 : (w9.setCell ⟨w4.heap.size, 1, none⟩ (.slice (some ⟨g9, 0, none⟩) (i + 1) cp9)).frozen? ⟨w4.heap.size, 1, none⟩ = false := by rw [World.frozen?_setCell]; exact z_113
              have BD_125 := Lib.hid (BD_115.out.setCell kIntS_ok (a := ⟨w4.heap.size, 1, none⟩) (by show w4.heap.size < _; first | omega | (simp; omega)) (.slice (some ⟨g9, 0, none⟩) (i + 1) cp9))
              have BD_126 := Lib.hid (BD_109.out.setCell kBool_ok (a := ⟨w4.heap.size, 1, none⟩) (by show w4.heap.size < _; first | omega | (simp; omega)) (.slice (some ⟨g9, 0, none⟩) (i + 1) cp9))
              have BL_127 := Lib.hid (BL_117.out.setCell (p := ⟨w4.heap.size, 1, none⟩) (by show _ ≤ w4.heap.size; omega) (.slice (some ⟨g9, 0, none⟩) (i + 1) cp9))
              go_wp2_with fail
              go_roundw
              case rel =>
                have hb1 := BD_125.out; have hb2 := BD_126.out
                rw [HT1.out, ← HE1.out] at hb1; rw [HT2.out false rfl] at hb2
                exact ⟨i + 1, _, _, _, _, by omega, by go_num, Lib.hid ⟨c_121, c_122, z_123, z_124, by rw [World.size_setCell]; omega⟩, Lib.hid hb1, Lib.hid hb2, Lib.hid (fun x hx hy => ND_116.out x hy hx), Lib.hid BL_127.out⟩
              case measure => (simp [intOf]; try omega)
            | true =>
              have hb_128 : Below wz.heap.size wz wz.drew := (Below.refl _ _).drew
              have hz_129 : wz.heap.size ≤ wz.heap.size := by have := (hb_128).size; first | omega | (simp at this; omega)
              have c_130 : wz.drew.cell? ⟨w4.heap.size, 0, none⟩ = some (.slice (some ⟨g7, 0, none⟩) (i + 1) cp7) := below_later hb_128 c_51; clear c_51
              have c_131 : wz.drew.cell? ⟨w4.heap.size, 1, none⟩ = some (v2) := below_later hb_128 c_52; clear c_52
              have z_132 : wz.drew.frozen? ⟨w4.heap.size, 0, none⟩ = false := (Below.frozen hb_128 (p := ⟨w4.heap.size, 0, none⟩) (by show w4.heap.size < _; first | omega | (simp; done) | (simp; omega))).trans z_53
              have z_133 : wz.drew.frozen? ⟨w4.heap.size, 1, none⟩ = false := (Below.frozen hb_128 (p := ⟨w4.heap.size, 1, none⟩) (by show w4.heap.size < _; first | omega | (simp; done) | (simp; omega))).trans z_54
              have c_134 : wz.drew.cell? ⟨w.heap.size, 1, none⟩ = some (.slice (some ⟨bA, fA, none⟩) A.2.length ebc) := below_later hb_128 c_55; clear c_55
              have c_135 : wz.drew.cell? ⟨bA, fA + x.toNat, none⟩ = some (.bool true) := below_later hb_128 c_56; clear c_56
              have c_136 : wz.drew.cell? ⟨(w.heap.size + 1), 1, none⟩ = some (.slice (some ⟨bB, fB, none⟩) B.2.length edc) := below_later hb_128 c_57; clear c_57
              have c_137 : wz.drew.cell? ⟨bB, fB + y.toNat, none⟩ = some (.bool v) := below_later hb_128 c_58; clear c_58
              have c_138 : wz.drew.cell? ⟨B15, 0, none⟩ = some (.int .i64 x) := below_later hb_128 c_59; clear c_59
              have c_139 : wz.drew.cell? ⟨B15, 1, none⟩ = some (.int .i64 y) := below_later hb_128 c_60; clear c_60
              have hz_140 : w4.heap.size + 1 ≤ wz.heap.size := Nat.le_trans hz_64 hz_129
              have BD_141 := Lib.hid (BD_61.out.later kIntS_ok hb_128)
              have BD_142 := Lib.hid (BD_62.out.later kBool_ok hb_128)
              have BL_143 := Lib.hid (Below.trans BL_63.out (Below.mono hb_128 (by have := (BL_63.out).size; first | omega | (simp at this; omega) | (simp at this ⊢; omega))))
              clear hb_128
              refine wp_region_G [17] (fun w' => w'.cell? ⟨w4.heap.size, 1, none⟩ = some (v2) ∧ w'.cell? ⟨w.heap.size, 1, none⟩ = some (.slice (some ⟨bA, fA, none⟩) A.2.length ebc) ∧ w'.cell? ⟨bA, fA + x.toNat, none⟩ = some (.bool true) ∧ w'.cell? ⟨(w.heap.size + 1), 1, none⟩ = some (.slice (some ⟨bB, fB, none⟩) B.2.length edc) ∧ w'.cell? ⟨bB, fB + y.toNat, none⟩ = some (.bool v) ∧ w'.cell? ⟨B15, 0, none⟩ = some (.int .i64 x) ∧ w'.cell? ⟨B15, 1, none⟩ = some (.int .i64 y)) (by kernel_rfl) ?_ (fun hHeld => ?_)
              · exact ⟨c_131, c_134, c_135, c_136, c_137, c_138, c_139⟩
              refine wpG_pure (i := 0) (oi := { dst := some 68, op := Go.Op.fieldAddr 28 (Go.Operand.tmp 7) 1, type := 0, pos := "l12_machine.go:220", after := #[], guard := none }) (v := ?vg21) rfl (by kernel_rfl) (fun _ _ _ h => h) (Or.inr hHeld) (Or.inl ⟨by rfl, ?yg21⟩) ?_
              case yg21 => (intro wS _; go_simp <;> with_reducible rfl)
              try simp only [Act.put, List.setIfInBounds_toArray, List.set_cons_zero, List.set_cons_succ]
              refine wpG_load (i := 1) (oi := { dst := some 69, op := Go.Op.load 23 (Go.Operand.tmp 68), type := 23, pos := "l12_machine.go:220", after := #[{ on := 0, ground := Go.Ground.data }], guard := none }) (v := ?vg22) [[17, 1]] rfl (by kernel_rfl) (fun _ _ _ h => h) hHeld (Or.inl ⟨by rfl, ?yg22⟩) ?_
              case yg22 => (intro wS hSw; (try dsimp only at hSw); go_simp <;> with_reducible rfl)
              try simp only [Act.put, List.setIfInBounds_toArray, List.set_cons_zero, List.set_cons_succ]
              refine wpG_pure (i := 2) (oi := { dst := some 70, op := Go.Op.fieldAddr 28 (Go.Operand.tmp 2) 1, type := 0, pos := "l12_machine.go:220", after := #[], guard := none }) (v := ?vg23) rfl (by kernel_rfl) (fun _ _ _ h => h) (Or.inr hHeld) (Or.inl ⟨by rfl, ?yg23⟩) ?_
              case yg23 => (intro wS _; go_simp <;> with_reducible rfl)
              try simp only [Act.put, List.setIfInBounds_toArray, List.set_cons_zero, List.set_cons_succ]
              refine wpG_load (i := 3) (oi := { dst := some 71, op := Go.Op.load 23 (Go.Operand.tmp 70), type := 23, pos := "l12_machine.go:220", after := #[{ on := 2, ground := Go.Ground.data }], guard := none }) (v := ?vg24) [[17, 8, 7, 6, 3]] rfl (by kernel_rfl) (fun _ _ _ h => h) hHeld (Or.inl ⟨by rfl, ?yg24⟩) ?_
              case yg24 => (intro wS hSw; (try dsimp only at hSw); go_simp <;> with_reducible rfl)
              try simp only [Act.put, List.setIfInBounds_toArray, List.set_cons_zero, List.set_cons_succ]
              refine wpG_pure (i := 4) (oi := { dst := some 72, op := Go.Op.fieldAddr 65 (Go.Operand.tmp 9) 0, type := 0, pos := "l12_machine.go:220", after := #[], guard := none }) (v := ?vg25) rfl (by kernel_rfl) (fun _ _ _ h => h) (Or.inr hHeld) (Or.inl ⟨by rfl, ?yg25⟩) ?_
              case yg25 => (intro wS _; go_simp <;> with_reducible rfl)
              try simp only [Act.put, List.setIfInBounds_toArray, List.set_cons_zero, List.set_cons_succ]
              refine wpG_load (i := 5) (oi := { dst := some 73, op := Go.Op.load 3 (Go.Operand.tmp 72), type := 3, pos := "l12_machine.go:220", after := #[{ on := 4, ground := Go.Ground.data }], guard := none }) (v := ?vg26) [[17, 8, 7, 6, 5]] rfl (by kernel_rfl) (fun _ _ _ h => h) hHeld (Or.inl ⟨by rfl, ?yg26⟩) ?_
              case yg26 => (intro wS hSw; (try dsimp only at hSw); go_simp <;> with_reducible rfl)
              try simp only [Act.put, List.setIfInBounds_toArray, List.set_cons_zero, List.set_cons_succ]
              refine wpG_pure (i := 6) (oi := { dst := some 74, op := Go.Op.indexAddr 23 (Go.Operand.tmp 71) (Go.Operand.tmp 73), type := 0, pos := "l12_machine.go:220", after := #[{ on := 3, ground := Go.Ground.data }, { on := 5, ground := Go.Ground.data }], guard := none }) (v := ?vg27) rfl (by kernel_rfl) (fun _ _ _ h => h) (Or.inr hHeld) (Or.inl ⟨by rfl, ?yg27⟩) ?_
              case yg27 => (intro wS _; go_simp <;> with_reducible rfl)
              try simp only [Act.put, List.setIfInBounds_toArray, List.set_cons_zero, List.set_cons_succ]
              refine wpG_load (i := 7) (oi := { dst := some 75, op := Go.Op.load 4 (Go.Operand.tmp 74), type := 4, pos := "l12_machine.go:220", after := #[{ on := 6, ground := Go.Ground.data }], guard := none }) (v := ?vg28) [[17, 8, 7]] rfl (by kernel_rfl) (fun _ _ _ h => h) hHeld (Or.inl ⟨by rfl, ?yg28⟩) ?_
              case yg28 => (intro wS hSw; (try dsimp only at hSw); go_simp <;> with_reducible rfl)
              try simp only [Act.put, List.setIfInBounds_toArray, List.set_cons_zero, List.set_cons_succ]
              refine wpG_pure (i := 8) (oi := { dst := some 76, op := Go.Op.move (Go.Operand.tmp 75), type := 4, pos := "l12_machine.go:220", after := #[{ on := 7, ground := Go.Ground.data }], guard := none }) (v := ?vg29) rfl (by kernel_rfl) (fun _ _ _ h => h) (Or.inr hHeld) (Or.inl ⟨by rfl, ?yg29⟩) ?_
              case yg29 => (intro wS _; go_simp <;> with_reducible rfl)
              try simp only [Act.put, List.setIfInBounds_toArray, List.set_cons_zero, List.set_cons_succ]
              refine wpG_pure (i := 9) (oi := { dst := some 77, op := Go.Op.fieldAddr 28 (Go.Operand.tmp 3) 1, type := 0, pos := "l12_machine.go:220", after := #[{ on := 8, ground := Go.Ground.guard }], guard := some (8, true) }) (v := ?vg30) rfl (by kernel_rfl) (fun _ _ _ h => h) (Or.inr hHeld) (Or.inl ⟨by rfl, ?yg30⟩) ?_
              case yg30 => (intro wS _; go_simp <;> with_reducible rfl)
              try simp only [Act.put, List.setIfInBounds_toArray, List.set_cons_zero, List.set_cons_succ]
              refine wpG_load (i := 10) (oi := { dst := some 78, op := Go.Op.load 23 (Go.Operand.tmp 77), type := 23, pos := "l12_machine.go:220", after := #[{ on := 9, ground := Go.Ground.data }, { on := 8, ground := Go.Ground.guard }], guard := some (8, true) }) (v := ?vg31) [[17, 16, 15, 14, 13, 10]] rfl (by kernel_rfl) (fun _ _ _ h => h) hHeld (Or.inl ⟨by rfl, ?yg31⟩) ?_
              case yg31 => (intro wS hSw; (try dsimp only at hSw); go_simp <;> with_reducible rfl)
              try simp only [Act.put, List.setIfInBounds_toArray, List.set_cons_zero, List.set_cons_succ]
              refine wpG_pure (i := 11) (oi := { dst := some 79, op := Go.Op.fieldAddr 65 (Go.Operand.tmp 9) 1, type := 0, pos := "l12_machine.go:220", after := #[{ on := 8, ground := Go.Ground.guard }], guard := some (8, true) }) (v := ?vg32) rfl (by kernel_rfl) (fun _ _ _ h => h) (Or.inr hHeld) (Or.inl ⟨by rfl, ?yg32⟩) ?_
              case yg32 => (intro wS _; go_simp <;> with_reducible rfl)
              try simp only [Act.put, List.setIfInBounds_toArray, List.set_cons_zero, List.set_cons_succ]
              refine wpG_load (i := 12) (oi := { dst := some 80, op := Go.Op.load 3 (Go.Operand.tmp 79), type := 3, pos := "l12_machine.go:220", after := #[{ on := 11, ground := Go.Ground.data }, { on := 8, ground := Go.Ground.guard }], guard := some (8, true) }) (v := ?vg33) [[17, 16, 15, 14, 13, 12]] rfl (by kernel_rfl) (fun _ _ _ h => h) hHeld (Or.inl ⟨by rfl, ?yg33⟩) ?_
              case yg33 => (intro wS hSw; (try dsimp only at hSw); go_simp <;> with_reducible rfl)
              try simp only [Act.put, List.setIfInBounds_toArray, List.set_cons_zero, List.set_cons_succ]
              refine wpG_pure (i := 13) (oi := { dst := some 81, op := Go.Op.indexAddr 23 (Go.Operand.tmp 78) (Go.Operand.tmp 80), type := 0, pos := "l12_machine.go:220", after := #[{ on := 10, ground := Go.Ground.data }, { on := 12, ground := Go.Ground.data }, { on := 8, ground := Go.Ground.guard }], guard := some (8, true) }) (v := ?vg34) rfl (by kernel_rfl) (fun _ _ _ h => h) (Or.inr hHeld) (Or.inl ⟨by rfl, ?yg34⟩) ?_
              case yg34 => (intro wS _; go_simp <;> with_reducible rfl)
              try simp only [Act.put, List.setIfInBounds_toArray, List.set_cons_zero, List.set_cons_succ]
              refine wpG_load (i := 14) (oi := { dst := some 82, op := Go.Op.load 4 (Go.Operand.tmp 81), type := 4, pos := "l12_machine.go:220", after := #[{ on := 13, ground := Go.Ground.data }, { on := 8, ground := Go.Ground.guard }], guard := some (8, true) }) (v := ?vg35) [[17, 16, 15, 14]] rfl (by kernel_rfl) (fun _ _ _ h => h) hHeld (Or.inl ⟨by rfl, ?yg35⟩) ?_
              case yg35 => (intro wS hSw; (try dsimp only at hSw); go_simp <;> with_reducible rfl)
              try simp only [Act.put, List.setIfInBounds_toArray, List.set_cons_zero, List.set_cons_succ]
              refine wpG_pure (i := 15) (oi := { dst := some 83, op := Go.Op.pick (Go.Operand.tmp 76) (Go.Operand.tmp 82) (Go.Operand.const (Go.Value.bool false)), type := 4, pos := "l12_machine.go:220", after := #[{ on := 8, ground := Go.Ground.data }, { on := 14, ground := Go.Ground.data }], guard := none }) (v := ?vg36) rfl (by kernel_rfl) (fun _ _ _ h => h) (Or.inr hHeld) (Or.inl ⟨by rfl, ?yg36⟩) ?_
              case yg36 => (intro wS _; go_simp <;> with_reducible rfl)
              try simp only [Act.put, List.setIfInBounds_toArray, List.set_cons_zero, List.set_cons_succ]
              refine wpG_one (i := 16) (o := { dst := some 84, op := Go.Op.buildSlice 23 1 #[(0, Go.Operand.tmp 83)], type := 23, pos := "l12_machine.go:220", after := #[{ on := 15, ground := Go.Ground.data }], guard := none }) rfl (by kernel_rfl) (fun K hK => ?_)
              go_simp
              have LT_144 : Hid (∀ b ∈ (g7 :: (fps_27.flatten ++ fpn)), b < wz.heap.size) := Lib.hid (fun b hm => by have := (BD_141.out.lt kIntS_ok b hm); first | exact this | omega | (simp at this; omega))
              have LT_145 : Hid (∀ b ∈ fp2, b < wz.heap.size) := Lib.hid (fun b hm => by have := (BD_142.out.lt kBool_ok b hm); first | exact this | omega | (simp at this; omega))
              have hb_146 : Below wz.drew.heap.size wz.drew (wz.alloc (.cells #[.bool v] 4)).drew := below_alloc_drew _ _
              have hz_147 : wz.heap.size ≤ wz.heap.size + 1 := by have := (hb_146).size; first | omega | (simp at this; omega)
              have c_148 : (wz.alloc (.cells #[.bool v] 4)).drew.cell? ⟨w4.heap.size, 0, none⟩ = some (.slice (some ⟨g7, 0, none⟩) (i + 1) cp7) := below_later hb_146 c_130; clear c_130
              have c_149 : (wz.alloc (.cells #[.bool v] 4)).drew.cell? ⟨w4.heap.size, 1, none⟩ = some (v2) := below_later hb_146 c_131; clear c_131
              have z_150 : (wz.alloc (.cells #[.bool v] 4)).drew.frozen? ⟨w4.heap.size, 0, none⟩ = false := (Below.frozen hb_146 (p := ⟨w4.heap.size, 0, none⟩) (by show w4.heap.size < _; first | omega | (simp; done) | (simp; omega))).trans z_132
              have z_151 : (wz.alloc (.cells #[.bool v] 4)).drew.frozen? ⟨w4.heap.size, 1, none⟩ = false := (Below.frozen hb_146 (p := ⟨w4.heap.size, 1, none⟩) (by show w4.heap.size < _; first | omega | (simp; done) | (simp; omega))).trans z_133
              have c_152 : (wz.alloc (.cells #[.bool v] 4)).drew.cell? ⟨w.heap.size, 1, none⟩ = some (.slice (some ⟨bA, fA, none⟩) A.2.length ebc) := below_later hb_146 c_134; clear c_134
              have c_153 : (wz.alloc (.cells #[.bool v] 4)).drew.cell? ⟨bA, fA + x.toNat, none⟩ = some (.bool true) := below_later hb_146 c_135; clear c_135
              have c_154 : (wz.alloc (.cells #[.bool v] 4)).drew.cell? ⟨(w.heap.size + 1), 1, none⟩ = some (.slice (some ⟨bB, fB, none⟩) B.2.length edc) := below_later hb_146 c_136; clear c_136
              have c_155 : (wz.alloc (.cells #[.bool v] 4)).drew.cell? ⟨bB, fB + y.toNat, none⟩ = some (.bool v) := below_later hb_146 c_137; clear c_137
              have c_156 : (wz.alloc (.cells #[.bool v] 4)).drew.cell? ⟨B15, 0, none⟩ = some (.int .i64 x) := below_later hb_146 c_138; clear c_138
              have c_157 : (wz.alloc (.cells #[.bool v] 4)).drew.cell? ⟨B15, 1, none⟩ = some (.int .i64 y) := below_later hb_146 c_139; clear c_139
              have hz_158 : w4.heap.size + 1 ≤ wz.heap.size + 1 := Nat.le_trans hz_140 hz_147
              have BD_159 := Lib.hid (BD_141.out.later kIntS_ok hb_146)
              have BD_160 := Lib.hid (BD_142.out.later kBool_ok hb_146)
              have BL_161 := Lib.hid (Below.trans BL_143.out (Below.mono hb_146 (by have := (BL_143.out).size; first | omega | (simp at this; omega) | (simp at this ⊢; omega))))
              clear hb_146
              have c_162 : (wz.alloc (.cells #[.bool v] 4)).drew.cell? ⟨wz.heap.size, 0, none⟩ = some (.bool v) := by go_simp
              have z_163 : (wz.alloc (.cells #[.bool v] 4)).drew.frozen? ⟨wz.heap.size, 0, none⟩ = false := by go_simp
              have hz_164 : wz.heap.size < wz.heap.size + 1 := by omega
              have ND_165 : Hid (∀ b ∈ [wz.heap.size], b ∉ (g7 :: (fps_27.flatten ++ fpn))) := Lib.hid (by intro b hb hm; simp only [List.mem_singleton] at hb; subst hb; have := (LT_144.out _ hm); first | omega | (simp at this; omega))
              have ND_166 : Hid (∀ b ∈ [wz.heap.size], b ∉ fp2) := Lib.hid (by intro b hb hm; simp only [List.mem_singleton] at hb; subst hb; have := (LT_145.out _ hm); first | omega | (simp at this; omega))
              refine hK.out _ _ (Or.inr ?khHeld37) (fun hHeld37S => ?_)
              case khHeld37 => exact ⟨c_149, c_152, c_153, c_154, c_155, c_156, c_157⟩
              have hHeld37 := hHeld37S.held (by kernel_rfl)
              clear hK K
              try simp only [Act.put, List.setIfInBounds_toArray, List.set_cons_zero, List.set_cons_succ]
              refine wpG_one (i := 17) (o := { dst := some 85, op := Go.Op.call { callee := Go.Callee.builtin Go.Builtin.append, args := #[Go.Operand.tmp 69, Go.Operand.tmp 84], argTypes := #[23, 23] }, type := 23, pos := "l12_machine.go:220", after := #[{ on := 1, ground := Go.Ground.data }, { on := 16, ground := Go.Ground.data }, { on := 8, ground := Go.Ground.chain }], guard := none }) rfl (by kernel_rfl) (fun K hK => ?_)
              obtain ⟨vss_167, fps_167, hrow, howl, hfp, hnd, hge⟩ := BD_160.out
              rw [HLT2.out] at hrow
              have ROW_167 := Lib.hid hrow; have OWL_167 := Lib.hid howl; have NDU_167 := Lib.hid (hfp ▸ hnd); have GE_167 := Lib.hid (fun b hb => hge b (hfp ▸ hb)); have FPE_167 := Lib.hid hfp; clear hrow howl hnd hge hfp
              refine step_append_lies _ rfl (.tmp 69) (.tmp 84) 23 rfl (w4.heap.size + 1) 4 i2 (.bool false) 1 1 Try.underlying23 hi2 hx0 hx1 hx2 rfl (by decide) v2 i vss_167.flatten rfl ROW_167.out ⟨wz.heap.size, 0, none⟩ 1 1 [.bool v] rfl rfl (news_at c_162) (by simp [Value.oneCell']) (by omega) HC5.out HC6.out (by first | omega | (simp; omega)) _ rfl ?_
              intro g9 cp9 w9 hown hgrow hat hlt4
              have HG_168 := Lib.hid hgrow; have HATHG_168 := Lib.hid hat; have HONHG_168 := Lib.hid hown
              clear hgrow hat hown
              have hz_169 : wz.heap.size + 1 ≤ w9.heap.size := by have := HG_168.out.size; first | omega | (simp at this; omega)
              have LT_170 : Hid (∀ b ∈ (g7 :: (fps_27.flatten ++ fpn)), b < wz.heap.size + 1) := Lib.hid (fun b hm => by have := (BD_159.out.lt kIntS_ok b hm); first | exact this | omega | (simp at this; omega))
              have LT_171 : Hid (∀ b ∈ fp2, b < wz.heap.size + 1) := Lib.hid (fun b hm => by have := (BD_160.out.lt kBool_ok b hm); first | exact this | omega | (simp at this; omega))
              have BD_172 := Lib.hid (Bd.app HLT2.out kBool_ok ROW_167.out OWL_167.out NDU_167.out GE_167.out ⟨rfl, rfl, trivial⟩ List.nodup_nil (fun b hb => absurd hb (by simp)) (fun b hb => absurd hb (by simp)) HONHG_168.out HG_168.out HATHG_168.out (by first | omega | (simp; done) | (simp; omega)))
              have c_173 : w9.cell? ⟨w4.heap.size, 0, none⟩ = some (.slice (some ⟨g7, 0, none⟩) (i + 1) cp7) := BD_160.out.cell_grown HG_168.out c_148 (by first | omega | (simp; done) | (simp; omega))
              have c_174 : w9.cell? ⟨w4.heap.size, 1, none⟩ = some (v2) := BD_160.out.cell_grown HG_168.out c_149 (by first | omega | (simp; done) | (simp; omega))
              have z_175 : w9.frozen? ⟨w4.heap.size, 0, none⟩ = false := BD_160.out.frozen_grown HG_168.out (by first | omega | (simp; done) | (simp; omega)) z_150 (by first | omega | (simp; done) | (simp; omega))
              have z_176 : w9.frozen? ⟨w4.heap.size, 1, none⟩ = false := BD_160.out.frozen_grown HG_168.out (by first | omega | (simp; done) | (simp; omega)) z_151 (by first | omega | (simp; done) | (simp; omega))
              have hz_177 : w4.heap.size + 1 ≤ w9.heap.size := Nat.le_trans hz_158 hz_169
              have BD_178 := Lib.hid (BD_159.out.grown kIntS_ok HG_168.out (fun k hk hm => (fun x hx hy => ND_46.out x hy hx) k (BD_160.out.own_mem k hk) hm))
              have ND_179 : Hid (∀ b ∈ (g9 :: (fps_167.flatten ++ [])), b ∉ (g7 :: (fps_27.flatten ++ fpn))) := Lib.hid (fun b hm hs => (app_in HATHG_168.out hm).elim (fun h => (fun x hx hy => ND_46.out x hy hx) b (FPE_167.out ▸ h) hs) (fun h => h.elim (fun h => by simp at h) (fun h => by have := LT_170.out b hs; first | omega | (simp at h; omega))))
              have BL_180 := Lib.hid (Below.grown BL_161.out HG_168.out (by have := (BL_161.out).size; first | omega | (simp at this; omega) | (simp at this ⊢; omega)) (fun k hk => Nat.le_trans (by first | omega | (simp; done) | (simp; omega)) (BD_160.out.own_ge k hk)))
              have c_181 : w9.cell? ⟨wz.heap.size, 0, none⟩ = some (.bool v) := (HG_168.out.cell_far ⟨wz.heap.size, 0, none⟩ (World.block_lt_of_cell? _ _ c_162) (fun he => ND_166.out _ (by simp) (BD_160.out.own_mem _ he.symm))).trans c_162
              have z_182 : w9.frozen? ⟨wz.heap.size, 0, none⟩ = false := (HG_168.out.frozen_far ⟨wz.heap.size, 0, none⟩ (by first | omega | (simp; done) | (simp; omega)) (fun he => ND_166.out _ (by simp) (BD_160.out.own_mem _ he.symm))).trans z_163
              have hz_183 : wz.heap.size + 1 ≤ w9.heap.size := Nat.le_trans hz_164 hz_169
              refine hK.out _ _ (Or.inl (by kernel_rfl)) (fun _ => ?_)
              clear hK K
              try simp only [Act.put, List.setIfInBounds_toArray, List.set_cons_zero, List.set_cons_succ]
              refine wpG_pure (i := 18) (oi := { dst := some 86, op := Go.Op.fieldAddr 28 (Go.Operand.tmp 7) 1, type := 0, pos := "l12_machine.go:220", after := #[{ on := 0, ground := Go.Ground.phase }, { on := 1, ground := Go.Ground.phase }, { on := 2, ground := Go.Ground.phase }, { on := 3, ground := Go.Ground.phase }, { on := 4, ground := Go.Ground.phase }, { on := 5, ground := Go.Ground.phase }, { on := 6, ground := Go.Ground.phase }, { on := 7, ground := Go.Ground.phase }, { on := 8, ground := Go.Ground.phase }, { on := 9, ground := Go.Ground.phase }, { on := 10, ground := Go.Ground.phase }, { on := 11, ground := Go.Ground.phase }, { on := 12, ground := Go.Ground.phase }, { on := 13, ground := Go.Ground.phase }, { on := 14, ground := Go.Ground.phase }, { on := 15, ground := Go.Ground.phase }, { on := 16, ground := Go.Ground.phase }, { on := 17, ground := Go.Ground.phase }], guard := none }) (v := ?vg39) rfl (by kernel_rfl) (fun _ _ _ h => h) (Or.inl (by kernel_rfl)) (Or.inl ⟨by rfl, ?yg39⟩) ?_
              case yg39 => (intro wS _; go_simp <;> with_reducible rfl)
              try simp only [Act.put, List.setIfInBounds_toArray, List.set_cons_zero, List.set_cons_succ]
              refine wpG_one (i := 19) (o := { dst := none, op := Go.Op.store 23 (Go.Operand.tmp 86) (Go.Operand.tmp 85), type := 0, pos := "l12_machine.go:220", after := #[{ on := 18, ground := Go.Ground.data }, { on := 17, ground := Go.Ground.data }, { on := 17, ground := Go.Ground.chain }, { on := 0, ground := Go.Ground.phase }, { on := 1, ground := Go.Ground.phase }, { on := 2, ground := Go.Ground.phase }, { on := 3, ground := Go.Ground.phase }, { on := 4, ground := Go.Ground.phase }, { on := 5, ground := Go.Ground.phase }, { on := 6, ground := Go.Ground.phase }, { on := 7, ground := Go.Ground.phase }, { on := 8, ground := Go.Ground.phase }, { on := 9, ground := Go.Ground.phase }, { on := 10, ground := Go.Ground.phase }, { on := 11, ground := Go.Ground.phase }, { on := 12, ground := Go.Ground.phase }, { on := 13, ground := Go.Ground.phase }, { on := 14, ground := Go.Ground.phase }, { on := 15, ground := Go.Ground.phase }, { on := 16, ground := Go.Ground.phase }, { on := 17, ground := Go.Ground.phase }], guard := none }) rfl (by kernel_rfl) (fun K hK => ?_)
              go_simp
              refine hK.out _ _ (Or.inl (by kernel_rfl)) (fun _ => ?_)
              clear hK K
              try simp only [Act.put, List.setIfInBounds_toArray, List.set_cons_zero, List.set_cons_succ]
              refine wpG_done (by kernel_rfl) ?_
              have c_184 : (w9.setCell ⟨w4.heap.size, 1, none⟩ (.slice (some ⟨g9, 0, none⟩) (i + 1) cp9)).cell? ⟨w4.heap.size, 0, none⟩ = some (.slice (some ⟨g7, 0, none⟩) (i + 1) cp7) := (World.cell?_setCell_other _ _ _ _ (by simp only [ne_eq, Addr.mk.injEq, not_and]; omega)).trans c_173
              have c_185 : (w9.setCell ⟨w4.heap.size, 1, none⟩ (.slice (some ⟨g9, 0, none⟩) (i + 1) cp9)).cell? ⟨w4.heap.size, 1, none⟩ = some (.slice (some ⟨g9, 0, none⟩) (i + 1) cp9) := World.cell?_setCell_same _ _ _ c_174
              have z_186 : (w9.setCell ⟨w4.heap.size, 1, none⟩ (.slice (some ⟨g9, 0, none⟩) (i + 1) cp9)).frozen? ⟨w4.heap.size, 0, none⟩ = false := by rw [World.frozen?_setCell]; exact z_175
              have z_187 : (w9.setCell ⟨w4.heap.size, 1, none⟩ (.slice (some ⟨g9, 0, none⟩) (i + 1) cp9)).frozen? ⟨w4.heap.size, 1, none⟩ = false := by rw [World.frozen?_setCell]; exact z_176
              have BD_188 := Lib.hid (BD_178.out.setCell kIntS_ok (a := ⟨w4.heap.size, 1, none⟩) (by show w4.heap.size < _; first | omega | (simp; omega)) (.slice (some ⟨g9, 0, none⟩) (i + 1) cp9))
              have BD_189 := Lib.hid (BD_172.out.setCell kBool_ok (a := ⟨w4.heap.size, 1, none⟩) (by show w4.heap.size < _; first | omega | (simp; omega)) (.slice (some ⟨g9, 0, none⟩) (i + 1) cp9))
              have BL_190 := Lib.hid (BL_180.out.setCell (p := ⟨w4.heap.size, 1, none⟩) (by show _ ≤ w4.heap.size; omega) (.slice (some ⟨g9, 0, none⟩) (i + 1) cp9))
              go_wp2_with fail
              go_roundw
              case rel =>
                have hb1 := BD_188.out; have hb2 := BD_189.out
                rw [HT1.out, ← HE1.out] at hb1; rw [HT2.out v rfl] at hb2
                exact ⟨i + 1, _, _, _, _, by omega, by go_num, Lib.hid ⟨c_184, c_185, z_186, z_187, by rw [World.size_setCell]; omega⟩, Lib.hid hb1, Lib.hid hb2, Lib.hid (fun x hx hy => ND_179.out x hy hx), Lib.hid BL_190.out⟩
              case measure => (simp [intOf]; try omega)
          have HB7 := Lib.hid (HBn.out.trans (HBN.out.mono (by omega)))
          have l0 := below_later HBN.out n0; have l5 := below_later HBN.out n5; have l6 := below_later HBN.out n6; have l7 := below_later HBN.out n7
          have lp0 := below_later HBN.out np0; have lp1 := below_later HBN.out np1
          have xa := below_later HBN.out (HXA6.out k hk3); have xb := below_later HBN.out (HXB6.out k hk3)
          have HAT := Lib.hid (fun wx (hb : Below w4.heap.size w4 wx) => spec_at (some ⟨g, 0, none⟩) cp L (goI A x k) (goI B y k) wx (HRW5.out wx hb) (by omega))
          have hgn := HGN.out k hk3
          have hsz7 : w6.heap.size ≤ w7.heap.size := HBN.out.size
          have HTN : Hid (Gs.take k ++ [idxP L (goI A x k) (goI B y k)] = Gs.take (k + 1)) := Lib.hid (take_next _ k _ hgn).symm
          have HLN : Hid ((Gs.take k).length = k) := Lib.hid (by have := HGL.out; simp; omega)
          have HWF : Hid ((Lit.int .i64 (idxP L (goI A x k) (goI B y k))).wf = true) := Lib.hid (idxP_wf L _ _ (by omega))
          have HD1 : Hid (k + 1 ≤ maxLen) := Lib.hid (by unfold maxLen; omega)
          have HD2 : Hid ((k + 1) * 8 ≤ 140737488355328) := Lib.hid (by omega)
          have hk3i : (k : Int) < 3 := by omega
          clear hgn
          generalize idxP L (goI A x k) (goI B y k) = zi at *
          generalize goI A x k = ga at *
          generalize goI B y k = gb at *
          generalize hT1 : Gs.take (k + 1) = T1 at *
          have HTE := Lib.hid hT1
          clear hT1
          generalize Gs.take k = T0 at *
          go_wp2_with fail
          have hb_191 : Below w7.heap.size w7 w7.drew := (Below.refl _ _).drew
          have hz_192 : w7.heap.size ≤ w7.heap.size := by have := (hb_191).size; first | omega | (simp at this; omega)
          have c_193 : w7.drew.cell? ⟨w.heap.size, 0, none⟩ = some (.slice (some ⟨nA, gA, none⟩) A.1.length eac) := below_later hb_191 l0
          have c_194 : w7.drew.cell? ⟨(w.heap.size + 1), 0, none⟩ = some (.slice (some ⟨nB, gB, none⟩) B.1.length ecc) := below_later hb_191 l5
          have c_195 : w7.drew.cell? ⟨nA, gA + x.toNat, none⟩ = some (.slice (some ⟨b2A, f2A, none⟩) 3 c2A) := below_later hb_191 l6
          have c_196 : w7.drew.cell? ⟨nB, gB + y.toNat, none⟩ = some (.slice (some ⟨b2B, f2B, none⟩) 3 c2B) := below_later hb_191 l7
          have c_197 : w7.drew.cell? ⟨b2A, f2A + k, none⟩ = some (.int .i64 ga) := below_later hb_191 xa
          have c_198 : w7.drew.cell? ⟨b2B, f2B + k, none⟩ = some (.int .i64 gb) := below_later hb_191 xb
          have c_199 : w7.drew.cell? ⟨B15, 0, none⟩ = some (.int .i64 x) := below_later hb_191 lp0
          have c_200 : w7.drew.cell? ⟨B15, 1, none⟩ = some (.int .i64 y) := below_later hb_191 lp1
          have hz_201 : w6.heap.size ≤ w7.heap.size := Nat.le_trans hsz7 hz_192
          have BD_202 := Lib.hid (BDN.out.later kInt_ok hb_191)
          have BL_203 := Lib.hid (Below.trans HBN.out (Below.mono hb_191 (by have := (HBN.out).size; first | omega | (simp at this; omega) | (simp at this ⊢; omega))))
          have BL_204 := Lib.hid (Below.trans HB7.out (Below.mono hb_191 (by have := (HB7.out).size; first | omega | (simp at this; omega) | (simp at this ⊢; omega))))
          clear hb_191
          refine wp_region_G [20] (fun w' => w'.cell? ⟨w.heap.size, 0, none⟩ = some (.slice (some ⟨nA, gA, none⟩) A.1.length eac) ∧ w'.cell? ⟨(w.heap.size + 1), 0, none⟩ = some (.slice (some ⟨nB, gB, none⟩) B.1.length ecc) ∧ w'.cell? ⟨nA, gA + x.toNat, none⟩ = some (.slice (some ⟨b2A, f2A, none⟩) 3 c2A) ∧ w'.cell? ⟨nB, gB + y.toNat, none⟩ = some (.slice (some ⟨b2B, f2B, none⟩) 3 c2B) ∧ w'.cell? ⟨b2A, f2A + k, none⟩ = some (.int .i64 ga) ∧ w'.cell? ⟨b2B, f2B + k, none⟩ = some (.int .i64 gb) ∧ w'.cell? ⟨B15, 0, none⟩ = some (.int .i64 x) ∧ w'.cell? ⟨B15, 1, none⟩ = some (.int .i64 y)) (by kernel_rfl) ?_ (fun hHeld => ?_)
          · exact ⟨c_193, c_194, c_195, c_196, c_197, c_198, c_199, c_200⟩
          refine wpG_pure (i := 0) (oi := { dst := some 39, op := Go.Op.move (Go.Operand.tmp 10), type := 42, pos := "l12_machine.go:217", after := #[], guard := none }) (v := ?vg41) rfl (by kernel_rfl) (fun _ _ _ h => h) (Or.inr hHeld) (Or.inl ⟨by rfl, ?yg41⟩) ?_
          case yg41 => (intro wS _; go_simp <;> with_reducible rfl)
          try simp only [Act.put, List.setIfInBounds_toArray, List.set_cons_zero, List.set_cons_succ]
          refine wpG_pure (i := 1) (oi := { dst := some 40, op := Go.Op.move (Go.Operand.tmp 6), type := 62, pos := "l12_machine.go:217", after := #[], guard := none }) (v := ?vg42) rfl (by kernel_rfl) (fun _ _ _ h => h) (Or.inr hHeld) (Or.inl ⟨by rfl, ?yg42⟩) ?_
          case yg42 => (intro wS _; go_simp <;> with_reducible rfl)
          try simp only [Act.put, List.setIfInBounds_toArray, List.set_cons_zero, List.set_cons_succ]
          refine wpG_pure (i := 2) (oi := { dst := some 41, op := Go.Op.fieldAddr 28 (Go.Operand.tmp 2) 0, type := 0, pos := "l12_machine.go:217", after := #[], guard := none }) (v := ?vg43) rfl (by kernel_rfl) (fun _ _ _ h => h) (Or.inr hHeld) (Or.inl ⟨by rfl, ?yg43⟩) ?_
          case yg43 => (intro wS _; go_simp <;> with_reducible rfl)
          try simp only [Act.put, List.setIfInBounds_toArray, List.set_cons_zero, List.set_cons_succ]
          refine wpG_load (i := 3) (oi := { dst := some 42, op := Go.Op.load 22 (Go.Operand.tmp 41), type := 22, pos := "l12_machine.go:217", after := #[{ on := 2, ground := Go.Ground.data }], guard := none }) (v := ?vg44) [[20, 10, 9, 7, 6, 3]] rfl (by kernel_rfl) (fun _ _ _ h => h) hHeld (Or.inl ⟨by rfl, ?yg44⟩) ?_
          case yg44 => (intro wS hSw; (try dsimp only at hSw); go_simp <;> with_reducible rfl)
          try simp only [Act.put, List.setIfInBounds_toArray, List.set_cons_zero, List.set_cons_succ]
          refine wpG_pure (i := 4) (oi := { dst := some 43, op := Go.Op.fieldAddr 65 (Go.Operand.tmp 9) 0, type := 0, pos := "l12_machine.go:217", after := #[], guard := none }) (v := ?vg45) rfl (by kernel_rfl) (fun _ _ _ h => h) (Or.inr hHeld) (Or.inl ⟨by rfl, ?yg45⟩) ?_
          case yg45 => (intro wS _; go_simp <;> with_reducible rfl)
          try simp only [Act.put, List.setIfInBounds_toArray, List.set_cons_zero, List.set_cons_succ]
          refine wpG_load (i := 5) (oi := { dst := some 44, op := Go.Op.load 3 (Go.Operand.tmp 43), type := 3, pos := "l12_machine.go:217", after := #[{ on := 4, ground := Go.Ground.data }], guard := none }) (v := ?vg46) [[20, 10, 9, 7, 6, 5]] rfl (by kernel_rfl) (fun _ _ _ h => h) hHeld (Or.inl ⟨by rfl, ?yg46⟩) ?_
          case yg46 => (intro wS hSw; (try dsimp only at hSw); go_simp <;> with_reducible rfl)
          try simp only [Act.put, List.setIfInBounds_toArray, List.set_cons_zero, List.set_cons_succ]
          refine wpG_pure (i := 6) (oi := { dst := some 45, op := Go.Op.indexAddr 22 (Go.Operand.tmp 42) (Go.Operand.tmp 44), type := 0, pos := "l12_machine.go:217", after := #[{ on := 3, ground := Go.Ground.data }, { on := 5, ground := Go.Ground.data }], guard := none }) (v := ?vg47) rfl (by kernel_rfl) (fun _ _ _ h => h) (Or.inr hHeld) (Or.inl ⟨by rfl, ?yg47⟩) ?_
          case yg47 => (intro wS _; go_simp <;> with_reducible rfl)
          try simp only [Act.put, List.setIfInBounds_toArray, List.set_cons_zero, List.set_cons_succ]
          refine wpG_load (i := 7) (oi := { dst := some 46, op := Go.Op.load 42 (Go.Operand.tmp 45), type := 42, pos := "l12_machine.go:217", after := #[{ on := 6, ground := Go.Ground.data }], guard := none }) (v := ?vg48) [[20, 10, 9, 7]] rfl (by kernel_rfl) (fun _ _ _ h => h) hHeld (Or.inl ⟨by rfl, ?yg48⟩) ?_
          case yg48 => (intro wS hSw; (try dsimp only at hSw); go_simp <;> with_reducible rfl)
          try simp only [Act.put, List.setIfInBounds_toArray, List.set_cons_zero, List.set_cons_succ]
          refine wpG_pure (i := 8) (oi := { dst := some 47, op := Go.Op.move (Go.Operand.tmp 11), type := 3, pos := "l12_machine.go:217", after := #[], guard := none }) (v := ?vg49) rfl (by kernel_rfl) (fun _ _ _ h => h) (Or.inr hHeld) (Or.inl ⟨by rfl, ?yg49⟩) ?_
          case yg49 => (intro wS _; go_simp <;> with_reducible rfl)
          try simp only [Act.put, List.setIfInBounds_toArray, List.set_cons_zero, List.set_cons_succ]
          refine wpG_pure (i := 9) (oi := { dst := some 48, op := Go.Op.indexAddr 42 (Go.Operand.tmp 46) (Go.Operand.tmp 47), type := 0, pos := "l12_machine.go:217", after := #[{ on := 7, ground := Go.Ground.data }, { on := 8, ground := Go.Ground.data }], guard := none }) (v := ?vg50) rfl (by kernel_rfl) (fun _ _ _ h => h) (Or.inr hHeld) (Or.inl ⟨by rfl, ?yg50⟩) ?_
          case yg50 => (intro wS _; go_simp <;> with_reducible rfl)
          try simp only [Act.put, List.setIfInBounds_toArray, List.set_cons_zero, List.set_cons_succ]
          refine wpG_load (i := 10) (oi := { dst := some 49, op := Go.Op.load 3 (Go.Operand.tmp 48), type := 3, pos := "l12_machine.go:217", after := #[{ on := 9, ground := Go.Ground.data }], guard := none }) (v := ?vg51) [[20, 10]] rfl (by kernel_rfl) (fun _ _ _ h => h) hHeld (Or.inl ⟨by rfl, ?yg51⟩) ?_
          case yg51 => (intro wS hSw; (try dsimp only at hSw); go_simp <;> with_reducible rfl)
          try simp only [Act.put, List.setIfInBounds_toArray, List.set_cons_zero, List.set_cons_succ]
          refine wpG_pure (i := 11) (oi := { dst := some 50, op := Go.Op.fieldAddr 28 (Go.Operand.tmp 3) 0, type := 0, pos := "l12_machine.go:217", after := #[], guard := none }) (v := ?vg52) rfl (by kernel_rfl) (fun _ _ _ h => h) (Or.inr hHeld) (Or.inl ⟨by rfl, ?yg52⟩) ?_
          case yg52 => (intro wS _; go_simp <;> with_reducible rfl)
          try simp only [Act.put, List.setIfInBounds_toArray, List.set_cons_zero, List.set_cons_succ]
          refine wpG_load (i := 12) (oi := { dst := some 51, op := Go.Op.load 22 (Go.Operand.tmp 50), type := 22, pos := "l12_machine.go:217", after := #[{ on := 11, ground := Go.Ground.data }], guard := none }) (v := ?vg53) [[20, 19, 18, 16, 15, 12]] rfl (by kernel_rfl) (fun _ _ _ h => h) hHeld (Or.inl ⟨by rfl, ?yg53⟩) ?_
          case yg53 => (intro wS hSw; (try dsimp only at hSw); go_simp <;> with_reducible rfl)
          try simp only [Act.put, List.setIfInBounds_toArray, List.set_cons_zero, List.set_cons_succ]
          refine wpG_pure (i := 13) (oi := { dst := some 52, op := Go.Op.fieldAddr 65 (Go.Operand.tmp 9) 1, type := 0, pos := "l12_machine.go:217", after := #[], guard := none }) (v := ?vg54) rfl (by kernel_rfl) (fun _ _ _ h => h) (Or.inr hHeld) (Or.inl ⟨by rfl, ?yg54⟩) ?_
          case yg54 => (intro wS _; go_simp <;> with_reducible rfl)
          try simp only [Act.put, List.setIfInBounds_toArray, List.set_cons_zero, List.set_cons_succ]
          refine wpG_load (i := 14) (oi := { dst := some 53, op := Go.Op.load 3 (Go.Operand.tmp 52), type := 3, pos := "l12_machine.go:217", after := #[{ on := 13, ground := Go.Ground.data }], guard := none }) (v := ?vg55) [[20, 19, 18, 16, 15, 14]] rfl (by kernel_rfl) (fun _ _ _ h => h) hHeld (Or.inl ⟨by rfl, ?yg55⟩) ?_
          case yg55 => (intro wS hSw; (try dsimp only at hSw); go_simp <;> with_reducible rfl)
          try simp only [Act.put, List.setIfInBounds_toArray, List.set_cons_zero, List.set_cons_succ]
          refine wpG_pure (i := 15) (oi := { dst := some 54, op := Go.Op.indexAddr 22 (Go.Operand.tmp 51) (Go.Operand.tmp 53), type := 0, pos := "l12_machine.go:217", after := #[{ on := 12, ground := Go.Ground.data }, { on := 14, ground := Go.Ground.data }], guard := none }) (v := ?vg56) rfl (by kernel_rfl) (fun _ _ _ h => h) (Or.inr hHeld) (Or.inl ⟨by rfl, ?yg56⟩) ?_
          case yg56 => (intro wS _; go_simp <;> with_reducible rfl)
          try simp only [Act.put, List.setIfInBounds_toArray, List.set_cons_zero, List.set_cons_succ]
          refine wpG_load (i := 16) (oi := { dst := some 55, op := Go.Op.load 42 (Go.Operand.tmp 54), type := 42, pos := "l12_machine.go:217", after := #[{ on := 15, ground := Go.Ground.data }], guard := none }) (v := ?vg57) [[20, 19, 18, 16]] rfl (by kernel_rfl) (fun _ _ _ h => h) hHeld (Or.inl ⟨by rfl, ?yg57⟩) ?_
          case yg57 => (intro wS hSw; (try dsimp only at hSw); go_simp <;> with_reducible rfl)
          try simp only [Act.put, List.setIfInBounds_toArray, List.set_cons_zero, List.set_cons_succ]
          refine wpG_pure (i := 17) (oi := { dst := some 56, op := Go.Op.move (Go.Operand.tmp 11), type := 3, pos := "l12_machine.go:217", after := #[], guard := none }) (v := ?vg58) rfl (by kernel_rfl) (fun _ _ _ h => h) (Or.inr hHeld) (Or.inl ⟨by rfl, ?yg58⟩) ?_
          case yg58 => (intro wS _; go_simp <;> with_reducible rfl)
          try simp only [Act.put, List.setIfInBounds_toArray, List.set_cons_zero, List.set_cons_succ]
          refine wpG_pure (i := 18) (oi := { dst := some 57, op := Go.Op.indexAddr 42 (Go.Operand.tmp 55) (Go.Operand.tmp 56), type := 0, pos := "l12_machine.go:217", after := #[{ on := 16, ground := Go.Ground.data }, { on := 17, ground := Go.Ground.data }], guard := none }) (v := ?vg59) rfl (by kernel_rfl) (fun _ _ _ h => h) (Or.inr hHeld) (Or.inl ⟨by rfl, ?yg59⟩) ?_
          case yg59 => (intro wS _; go_simp <;> with_reducible rfl)
          try simp only [Act.put, List.setIfInBounds_toArray, List.set_cons_zero, List.set_cons_succ]
          refine wpG_load (i := 19) (oi := { dst := some 58, op := Go.Op.load 3 (Go.Operand.tmp 57), type := 3, pos := "l12_machine.go:217", after := #[{ on := 18, ground := Go.Ground.data }], guard := none }) (v := ?vg60) [[20, 19]] rfl (by kernel_rfl) (fun _ _ _ h => h) hHeld (Or.inl ⟨by rfl, ?yg60⟩) ?_
          case yg60 => (intro wS hSw; (try dsimp only at hSw); go_simp <;> with_reducible rfl)
          try simp only [Act.put, List.setIfInBounds_toArray, List.set_cons_zero, List.set_cons_succ]
          refine wpG_one (i := 20) (o := { dst := some 59, op := Go.Op.call { callee := Go.Callee.value (Go.Operand.func 54), args := #[Go.Operand.tmp 40, Go.Operand.tmp 49, Go.Operand.tmp 58], argTypes := #[62, 3, 3] }, type := 3, pos := "l12_machine.go:217", after := #[{ on := 1, ground := Go.Ground.data }, { on := 10, ground := Go.Ground.data }, { on := 19, ground := Go.Ground.data }], guard := none }) rfl (by kernel_rfl) (fun K hK => ?_)
          go_simp
          refine (HAT.out _ BL_204.out).mono ?_
          rintro e w8 ⟨rfl, hb8⟩
          have LT_205 : Hid (∀ b ∈ fpn, b < w7.heap.size) := Lib.hid (fun b hm => by have := (BD_202.out.lt kInt_ok b hm); first | exact this | omega | (simp at this; omega))
          have hb_206 : Below w7.drew.heap.size w7.drew w8 := hb8
          have hz_207 : w7.heap.size ≤ w8.heap.size := by have := (hb_206).size; first | omega | (simp at this; omega)
          have hz_208 : w6.heap.size ≤ w8.heap.size := Nat.le_trans hz_201 hz_207
          have BD_209 := Lib.hid (BD_202.out.later kInt_ok hb_206)
          have BL_210 := Lib.hid (Below.trans BL_203.out (Below.mono hb_206 (by have := (BL_203.out).size; first | omega | (simp at this; omega) | (simp at this ⊢; omega))))
          have BL_211 := Lib.hid (Below.trans BL_204.out (Below.mono hb_206 (by have := (BL_204.out).size; first | omega | (simp at this; omega) | (simp at this ⊢; omega))))
          clear hb_206
          refine hK.out _ _ (Or.inl (by kernel_rfl)) (fun _ => ?_)
          clear hK K
          try simp only [Act.put, List.setIfInBounds_toArray, List.set_cons_zero, List.set_cons_succ]
          refine wpG_one (i := 21) (o := { dst := some 60, op := Go.Op.buildSlice 42 1 #[(0, Go.Operand.tmp 59)], type := 42, pos := "l12_machine.go:217", after := #[{ on := 20, ground := Go.Ground.data }], guard := none }) rfl (by kernel_rfl) (fun K hK => ?_)
          go_simp
          have LT_212 : Hid (∀ b ∈ fpn, b < w8.heap.size) := Lib.hid (fun b hm => by have := (BD_209.out.lt kInt_ok b hm); first | exact this | omega | (simp at this; omega))
          have hb_213 : Below w8.heap.size w8 (w8.alloc (.cells #[.int .i64 zi] 3)) := (Below.refl _ _).alloc (Nat.le_refl _) _
          have hz_214 : w8.heap.size ≤ w8.heap.size + 1 := by have := (hb_213).size; first | omega | (simp at this; omega)
          have hz_215 : w6.heap.size ≤ w8.heap.size + 1 := Nat.le_trans hz_208 hz_214
          have BD_216 := Lib.hid (BD_209.out.later kInt_ok hb_213)
          have BL_217 := Lib.hid (Below.trans BL_210.out (Below.mono hb_213 (by have := (BL_210.out).size; first | omega | (simp at this; omega) | (simp at this ⊢; omega))))
          have BL_218 := Lib.hid (Below.trans BL_211.out (Below.mono hb_213 (by have := (BL_211.out).size; first | omega | (simp at this; omega) | (simp at this ⊢; omega))))
          clear hb_213
          have c_219 : (w8.alloc (.cells #[.int .i64 zi] 3)).cell? ⟨w8.heap.size, 0, none⟩ = some (.int .i64 zi) := by go_simp
          have z_220 : (w8.alloc (.cells #[.int .i64 zi] 3)).frozen? ⟨w8.heap.size, 0, none⟩ = false := by go_simp
          have hz_221 : w8.heap.size < w8.heap.size + 1 := by omega
          have ND_222 : Hid (∀ b ∈ [w8.heap.size], b ∉ fpn) := Lib.hid (by intro b hb hm; simp only [List.mem_singleton] at hb; subst hb; have := (LT_212.out _ hm); first | omega | (simp at this; omega))
          refine hK.out _ _ (Or.inl (by kernel_rfl)) (fun _ => ?_)
          clear hK K
          try simp only [Act.put, List.setIfInBounds_toArray, List.set_cons_zero, List.set_cons_succ]
          refine wpG_one (i := 22) (o := { dst := some 61, op := Go.Op.call { callee := Go.Callee.builtin Go.Builtin.append, args := #[Go.Operand.tmp 39, Go.Operand.tmp 60], argTypes := #[42, 42] }, type := 42, pos := "l12_machine.go:217", after := #[{ on := 0, ground := Go.Ground.data }, { on := 21, ground := Go.Ground.data }, { on := 20, ground := Go.Ground.chain }], guard := none }) rfl (by kernel_rfl) (fun K hK => ?_)
          obtain ⟨vss_223, fps_223, hrow, howl, hfp, hnd, hge⟩ := BD_216.out
          rw [HLN.out] at hrow
          have ROW_223 := Lib.hid hrow; have OWL_223 := Lib.hid howl; have NDU_223 := Lib.hid (hfp ▸ hnd); have GE_223 := Lib.hid (fun b hb => hge b (hfp ▸ hb)); have FPE_223 := Lib.hid hfp; clear hrow howl hnd hge hfp
          refine step_append_lies _ rfl (.tmp 39) (.tmp 60) 42 rfl w6.heap.size 3 i0 (.int .i64 0) 1 8 Try.underlying42 hi hz0 hz1 hz2 rfl (by decide) u10 k vss_223.flatten rfl ROW_223.out ⟨w8.heap.size, 0, none⟩ 1 1 [.int .i64 zi] rfl rfl (news_at c_219) (by simp [Value.oneCell']) (by omega) HD1.out HD2.out (by first | omega | (simp; omega)) _ rfl ?_
          intro g9 cp9 w9 hown hgrow hat hlt4
          have HG_224 := Lib.hid hgrow; have HATHG_224 := Lib.hid hat; have HONHG_224 := Lib.hid hown
          clear hgrow hat hown
          have hz_225 : w8.heap.size + 1 ≤ w9.heap.size := by have := HG_224.out.size; first | omega | (simp at this; omega)
          have LT_226 : Hid (∀ b ∈ fpn, b < w8.heap.size + 1) := Lib.hid (fun b hm => by have := (BD_216.out.lt kInt_ok b hm); first | exact this | omega | (simp at this; omega))
          have BD_227 := Lib.hid (Bd.app HLN.out kInt_ok ROW_223.out OWL_223.out NDU_223.out GE_223.out ⟨rfl, rfl, HWF.out⟩ List.nodup_nil (fun b hb => absurd hb (by simp)) (fun b hb => absurd hb (by simp)) HONHG_224.out HG_224.out HATHG_224.out (by first | omega | (simp; done) | (simp; omega)))
          have hz_228 : w6.heap.size ≤ w9.heap.size := Nat.le_trans hz_215 hz_225
          have BL_229 := Lib.hid (Below.grown BL_217.out HG_224.out (by have := (BL_217.out).size; first | omega | (simp at this; omega) | (simp at this ⊢; omega)) (fun k hk => Nat.le_trans (by first | omega | (simp; done) | (simp; omega)) (BD_216.out.own_ge k hk)))
          have BL_230 := Lib.hid (Below.grown BL_218.out HG_224.out (by have := (BL_218.out).size; first | omega | (simp at this; omega) | (simp at this ⊢; omega)) (fun k hk => Nat.le_trans (by first | omega | (simp; done) | (simp; omega)) (BD_216.out.own_ge k hk)))
          have c_231 : w9.cell? ⟨w8.heap.size, 0, none⟩ = some (.int .i64 zi) := (HG_224.out.cell_far ⟨w8.heap.size, 0, none⟩ (World.block_lt_of_cell? _ _ c_219) (fun he => ND_222.out _ (by simp) (BD_216.out.own_mem _ he.symm))).trans c_219
          have z_232 : w9.frozen? ⟨w8.heap.size, 0, none⟩ = false := (HG_224.out.frozen_far ⟨w8.heap.size, 0, none⟩ (by first | omega | (simp; done) | (simp; omega)) (fun he => ND_222.out _ (by simp) (BD_216.out.own_mem _ he.symm))).trans z_220
          have hz_233 : w8.heap.size + 1 ≤ w9.heap.size := Nat.le_trans hz_221 hz_225
          refine hK.out _ _ (Or.inl (by kernel_rfl)) (fun _ => ?_)
          clear hK K
          try simp only [Act.put, List.setIfInBounds_toArray, List.set_cons_zero, List.set_cons_succ]
          refine wpG_pure (i := 23) (oi := { dst := some 10, op := Go.Op.assign (Go.Operand.tmp 61), type := 42, pos := "l12_machine.go:217", after := #[{ on := 22, ground := Go.Ground.data }, { on := 22, ground := Go.Ground.chain }, { on := 0, ground := Go.Ground.phase }, { on := 1, ground := Go.Ground.phase }, { on := 2, ground := Go.Ground.phase }, { on := 3, ground := Go.Ground.phase }, { on := 4, ground := Go.Ground.phase }, { on := 5, ground := Go.Ground.phase }, { on := 6, ground := Go.Ground.phase }, { on := 7, ground := Go.Ground.phase }, { on := 8, ground := Go.Ground.phase }, { on := 9, ground := Go.Ground.phase }, { on := 10, ground := Go.Ground.phase }, { on := 11, ground := Go.Ground.phase }, { on := 12, ground := Go.Ground.phase }, { on := 13, ground := Go.Ground.phase }, { on := 14, ground := Go.Ground.phase }, { on := 15, ground := Go.Ground.phase }, { on := 16, ground := Go.Ground.phase }, { on := 17, ground := Go.Ground.phase }, { on := 18, ground := Go.Ground.phase }, { on := 19, ground := Go.Ground.phase }, { on := 20, ground := Go.Ground.phase }, { on := 21, ground := Go.Ground.phase }, { on := 22, ground := Go.Ground.phase }], guard := none }) (v := ?vg64) rfl (by kernel_rfl) (fun _ _ _ h => h) (Or.inl (by kernel_rfl)) (Or.inl ⟨by rfl, ?yg64⟩) ?_
          case yg64 => (intro wS _; go_simp <;> with_reducible rfl)
          try simp only [Act.put, List.setIfInBounds_toArray, List.set_cons_zero, List.set_cons_succ]
          refine wpG_done (by kernel_rfl) ?_
          go_wp2_with fail
          go_roundw
          case rel =>
            have hb2 := BD_227.out
            rw [HTN.out] at hb2
            exact ⟨k + 1, _, by omega, by go_num, Lib.hid (by rw [HTE.out]; exact hb2), Lib.hid BL_229.out⟩
          case measure => (simp [intOf]; try omega)
end Go.Proofs.Ytedjahinlpehgaa
