/- The program's MeetMachines. -/
import Derived.Test.YtedjahinlpehgaaPair6
namespace Go.Proofs.Ytedjahinlpehgaa
set_option linter.unusedVariables false
open Go.ChangeShapes Go.WideShapes Go.ChangeAt Go.RowKit
set_option maxRecDepth 100000

/-- what the walk hands to MeetMachines: all pairs, and their goals -/
theorem impl_walk_all (ea eb ec ed : Option Addr) (eac ebc ecc edc : Nat) (A B : Mach) (w : World) (B0 : Nat) (hB0 : B0 ≤ w.heap.size) (hA : MC B0 w ea eb A) (hB : MC B0 w ec ed B) (ha : GoodM A) (hb : GoodM B)
    (hc1 : A.1.length ≤ eac ∧ eac ≤ 9223372036854775807) (hc2 : B.1.length ≤ ecc ∧ ecc ≤ 9223372036854775807) :
    Calls Try.prog 55 #[.agg #[.slice ea A.1.length eac, .slice eb A.2.length ebc], .agg #[.slice ec B.1.length ecc, .slice ed B.2.length edc], .func (.func 56) #[] #[]] w fun e w' =>
      ∃ gp cp gt ct bm gv fp, e = .returned (.tuple #[.slice (some ⟨gp, 0, none⟩) (pairsR A B).length cp, gv]) ∧ Below w.heap.size w w' ∧ WS (w.heap.size + 2) w' gp cp gt ct bm gv fp (pairsR A B) ((pairsR A B).map (goesP A B (pairsR A B))) := by
  refine (impl_walk_meet 0 ea eb ec ed eac ebc ecc edc A B w B0 (fun _ => false) (fun _ => False) (fun w1 => Below w.heap.size w w1) (fun _ _ => True) hB0 (fun k h => h.elim) hA hB ha hb hc1 hc2 (Below.refl _ _) (fun _ _ h1 h2 => h1.trans h2) (fun _ _ _ _ _ => trivial) ?_).mono ?_
  · intro p w1 hr hi
    refine (impl_meet1 w1 p.1 p.2.1 p.2.2).mono ?_
    rintro e w2 ⟨rfl, hb⟩
    exact ⟨rfl, Wrote.of_below hb, fun _ => hi.trans (hb.mono hi.size), fun h => by cases h⟩
  · rintro e w' ⟨v1, v2, rfl, hw, h⟩
    rcases h with ⟨i, p, _, h, _⟩ | ⟨_, hi, gp, cp, gt, ct, bm, fp, rfl, hws⟩
    · cases h
    · exact ⟨gp, cp, gt, ct, bm, v2, fp, rfl, hi, hws⟩
theorem MM_no {A B : Mach} (h : ¬ (R_GoodMachine A = true ∧ R_GoodMachine B = true ∧ (pairsR A B).length ≤ 12)) : R_MeetMachines A B = (([], []), false) := if_neg h
theorem MM_yes {A B : Mach} (h : R_GoodMachine A = true ∧ R_GoodMachine B = true ∧ (pairsR A B).length ≤ 12) : R_MeetMachines A B = (((pairsR A B).map (goesP A B (pairsR A B)), (pairsR A B).map (bothP A B)), true) := if_pos h
theorem bx3_start (w : World) (o1 o2 o3 : Obj) : Below (w.heap.size + 3) (((w.alloc o1).alloc o2).alloc o3) (((w.alloc o1).alloc o2).alloc o3) := Below.refl _ _
theorem bx3_step {w wx wy : World} {o1 o2 o3 : Obj} (h : Below (w.heap.size + 3) (((w.alloc o1).alloc o2).alloc o3) wx) (hb : Below wx.heap.size wx wy) : Below (w.heap.size + 3) (((w.alloc o1).alloc o2).alloc o3) wy :=
  h.trans (hb.mono (by have := h.size; simp at this; omega))
theorem bx3_below {w wx : World} {o1 o2 o3 : Obj} (h : Below (w.heap.size + 3) (((w.alloc o1).alloc o2).alloc o3) wx) : Below w.heap.size w wx :=
  ((((((Below.refl _ _).alloc (Nat.le_refl _) _).alloc (by simp) _).alloc (by simp; omega) _ : Below w.heap.size w (((w.alloc o1).alloc o2).alloc o3)))).trans (h.mono (by omega))
section
variable {w wx : World} {C1 C2 C3 : Array Value} {T1 T2 T3 : TypeId}
theorem bx3_a (h : Below (w.heap.size + 3) (((w.alloc (.cells C1 T1)).alloc (.cells C2 T2)).alloc (.cells C3 T3)) wx) (i : Nat) : wx.cell? ⟨w.heap.size, i, none⟩ = C1[i]? :=
  (h.cell (p := ⟨w.heap.size, i, none⟩) (by show w.heap.size < w.heap.size + 3; omega)).trans (by go_simp)
theorem bx3_b (h : Below (w.heap.size + 3) (((w.alloc (.cells C1 T1)).alloc (.cells C2 T2)).alloc (.cells C3 T3)) wx) (i : Nat) : wx.cell? ⟨w.heap.size + 1, i, none⟩ = C2[i]? :=
  (h.cell (p := ⟨w.heap.size + 1, i, none⟩) (by show w.heap.size + 1 < w.heap.size + 3; omega)).trans (by go_simp)
theorem bx3_c (h : Below (w.heap.size + 3) (((w.alloc (.cells C1 T1)).alloc (.cells C2 T2)).alloc (.cells C3 T3)) wx) (i : Nat) : wx.cell? ⟨w.heap.size + 2, i, none⟩ = C3[i]? :=
  (h.cell (p := ⟨w.heap.size + 2, i, none⟩) (by show w.heap.size + 2 < w.heap.size + 3; omega)).trans (by go_simp)
theorem bx3_z (h : Below (w.heap.size + 3) (((w.alloc (.cells C1 T1)).alloc (.cells C2 T2)).alloc (.cells C3 T3)) wx) (i : Nat) : wx.frozen? ⟨w.heap.size + 2, i, none⟩ = false :=
  (h.frozen (p := ⟨w.heap.size + 2, i, none⟩) (by show w.heap.size + 2 < w.heap.size + 3; omega)).trans (by go_simp)
end
set_option maxHeartbeats 8000000 in
theorem impl_MeetMachines (w : World) (cs0 cs1 : List Value) (A B : Mach) (h0 : kMachine.rd w.heap.size w cs0 A) (h1 : kMachine.rd w.heap.size w cs1 B) (ht : kMachine.wt A + kMachine.wt B ≤ 1048576) :
    Calls Try.prog 23 #[.agg cs0.toArray, .agg cs1.toArray] w (Made kMachine (fun cs => .tuple #[.agg cs.toArray, .bool (R_MeetMachines A B).2]) (R_MeetMachines A B).1 w) := by
  obtain ⟨i2, hi2, hx0, hx1, hx2⟩ := info_parts Try.infoHBoolS
  obtain ⟨ea, eac, eb, ebc, rfl, hn, he⟩ := Machine_rd h0
  obtain ⟨ec, ecc, ed, edc, rfl, hn', he'⟩ := Machine_rd h1
  have HG1 := Lib.hid (fun wx (hb : Below w.heap.size w wx) => impl_GoodMachine wx _ A (kMachine_ok.later h0 hb) (by omega))
  have HG2 := Lib.hid (fun wx (hb : Below w.heap.size w wx) => impl_GoodMachine wx _ B (kMachine_ok.later h1 hb) (by omega))
  have hl1 := (sl_len hn).2; have hl2 := (sl_len he).2; have hl3 := (sl_len hn').2; have hl4 := (sl_len he').2
  have HN := Lib.hid hn; have HE := Lib.hid he; have HN' := Lib.hid hn'; have HE' := Lib.hid he'
  have HB0 := Lib.hid (bx3_start w (.cells #[.slice ea A.1.length eac, .slice eb A.2.length ebc] 28) (.cells #[.slice ec B.1.length ecc, .slice ed B.2.length edc] 28) (.cells #[.slice none 0 0, .slice none 0 0] 28))
  clear h0 h1 hn he hn' he' ht
  cases g1 : R_GoodMachine A with
  | false =>
    rw [MM_no (fun h => by rw [g1] at h; cases h.1)]
    rw [g1] at HG1
    clear g1
    go_enter Try.func23, Try.ntmps23
    go_wp2_with fail
    refine (HG1.out _ (bx3_below HB0.out)).mono ?_
    rintro e w1 ⟨rfl, hb⟩
    have HB1 := Lib.hid (bx3_step HB0.out hb); clear hb
    have k0 : w1.cell? ⟨w.heap.size + 2, 0, none⟩ = some (.slice none 0 0) := bx3_c HB1.out 0
    have k1 : w1.cell? ⟨w.heap.size + 2, 1, none⟩ = some (.slice none 0 0) := bx3_c HB1.out 1
    have z0 := bx3_z HB1.out 0
    have z1 := bx3_z HB1.out 1
    go_wp2_with fail
    refine bodyPost_ret (v := .tuple #[.agg #[.slice none 0 0, .slice none 0 0], .bool false]) (by simp [results, Try.results23, go_sem, k0, k1]) rfl ⟨[.slice none 0 0, .slice none 0 0], [], rfl, none_ow _, List.nodup_nil, by simp, ?_⟩
    exact ((bx3_below HB1.out).setCell (p := ⟨w.heap.size + 2, 0, none⟩) (by show w.heap.size ≤ w.heap.size + 2; omega) _).setCell (p := ⟨w.heap.size + 2, 1, none⟩) (by show w.heap.size ≤ w.heap.size + 2; omega) _
  | true =>
    cases g2 : R_GoodMachine B with
    | false =>
      rw [MM_no (fun h => by rw [g2] at h; cases h.2.1)]
      rw [g1] at HG1; rw [g2] at HG2
      clear g1 g2
      go_enter Try.func23, Try.ntmps23
      go_wp2_with fail
      refine (HG1.out _ (bx3_below HB0.out)).mono ?_
      rintro e w1 ⟨rfl, hb⟩
      have HB1 := Lib.hid (bx3_step HB0.out hb); clear hb
      have b0 := bx3_b HB1.out 0; have b1 := bx3_b HB1.out 1
      go_wp2_with fail
      refine (HG2.out _ (bx3_below HB1.out)).mono ?_
      rintro e w2 ⟨rfl, hb⟩
      have HB2 := Lib.hid (bx3_step HB1.out hb); clear hb b0 b1
      have k0 : w2.cell? ⟨w.heap.size + 2, 0, none⟩ = some (.slice none 0 0) := bx3_c HB2.out 0
      have k1 : w2.cell? ⟨w.heap.size + 2, 1, none⟩ = some (.slice none 0 0) := bx3_c HB2.out 1
      have z0 := bx3_z HB2.out 0
      have z1 := bx3_z HB2.out 1
      go_wp2_with fail
      refine bodyPost_ret (v := .tuple #[.agg #[.slice none 0 0, .slice none 0 0], .bool false]) (by simp [results, Try.results23, go_sem, k0, k1]) rfl ⟨[.slice none 0 0, .slice none 0 0], [], rfl, none_ow _, List.nodup_nil, by simp, ?_⟩
      exact ((bx3_below HB2.out).setCell (p := ⟨w.heap.size + 2, 0, none⟩) (by show w.heap.size ≤ w.heap.size + 2; omega) _).setCell (p := ⟨w.heap.size + 2, 1, none⟩) (by show w.heap.size ≤ w.heap.size + 2; omega) _
    | true =>
      have HMA := Lib.hid (good_of g1); have HMB := Lib.hid (good_of g2)
      have HCA := Lib.hid (MC.of HN.out HE.out HMA.out); have HCB := Lib.hid (MC.of HN'.out HE'.out HMB.out)
      have HINV := Lib.hid (ordP_inv (A := A) (B := B) HMA.out HMB.out 144)
      have HWK := Lib.hid (fun wx (hb : Below w.heap.size w wx) => impl_walk_all ea eb ec ed eac ebc ecc edc A B wx w.heap.size hb.size (HCA.out.below hb) (HCB.out.below hb) HMA.out HMB.out hl1 hl3)
      by_cases h12 : (pairsR A B).length ≤ 12
      case neg =>
        rw [MM_no (fun h => h12 h.2.2)]
        rw [g1] at HG1; rw [g2] at HG2
        clear g1 g2
        clear HINV
        generalize pairsR A B = L at *
        have h12i : (12 : Int) < (L.length : Int) := by omega
        go_enter Try.func23, Try.ntmps23
        go_wp2_with fail
        refine (HG1.out _ (bx3_below HB0.out)).mono ?_
        rintro e w1 ⟨rfl, hb⟩
        have HB1 := Lib.hid (bx3_step HB0.out hb); clear hb
        have b0 := bx3_b HB1.out 0; have b1 := bx3_b HB1.out 1
        go_wp2_with fail
        refine (HG2.out _ (bx3_below HB1.out)).mono ?_
        rintro e w2 ⟨rfl, hb⟩
        have HB2 := Lib.hid (bx3_step HB1.out hb); clear hb b0 b1
        have a0 := bx3_a HB2.out 0; have a1 := bx3_a HB2.out 1; have b0 := bx3_b HB2.out 0; have b1 := bx3_b HB2.out 1
        go_wp2_with fail
        refine (HWK.out _ (bx3_below HB2.out)).mono ?_
        rintro e w4 ⟨gp, cp, gt, ct, bm, gv, fp, rfl, hb, hws⟩
        have HB4 := Lib.hid (bx3_step HB2.out hb); clear hb hws a0 a1 b0 b1
        have k0 : w4.cell? ⟨w.heap.size + 2, 0, none⟩ = some (.slice none 0 0) := bx3_c HB4.out 0
        have k1 : w4.cell? ⟨w.heap.size + 2, 1, none⟩ = some (.slice none 0 0) := bx3_c HB4.out 1
        have z0 := bx3_z HB4.out 0
        have z1 := bx3_z HB4.out 1
        go_wp2_with fail
        refine bodyPost_ret (v := .tuple #[.agg #[.slice none 0 0, .slice none 0 0], .bool false]) (by simp [results, Try.results23, go_sem, k0, k1]) rfl ⟨[.slice none 0 0, .slice none 0 0], [], rfl, none_ow _, List.nodup_nil, by simp, ?_⟩
        exact ((bx3_below HB4.out).setCell (p := ⟨w.heap.size + 2, 0, none⟩) (by show w.heap.size ≤ w.heap.size + 2; omega) _).setCell (p := ⟨w.heap.size + 2, 1, none⟩) (by show w.heap.size ≤ w.heap.size + 2; omega) _
      rw [MM_yes ⟨g1, g2, h12⟩]
      have HPI : Hid (∀ p ∈ pairsR A B, 0 ≤ p.1 ∧ p.1 < (A.1.length : Int) ∧ 0 ≤ p.2.1 ∧ p.2.1 < (B.1.length : Int)) := Lib.hid HINV.out.rg
      clear HINV
      generalize pairsR A B = L at *
      rw [g1] at HG1; rw [g2] at HG2
      clear g1 g2
      obtain ⟨bA, fA, hea, hbA, hrA⟩ := HCA.out.ends
      obtain ⟨bB, fB, heb, hbB, hrB⟩ := HCB.out.ends
      have HRA := Lib.hid hrA; have HRB := Lib.hid hrB
      subst hea heb
      have HEA : Hid (A.2.length = A.1.length) := Lib.hid HMA.out.ends
      have HEB : Hid (B.2.length = B.1.length) := Lib.hid HMB.out.ends
      clear hrA hrB
      have h12i : ¬ (12 : Int) < (L.length : Int) := by omega
      go_enter Try.func23, Try.ntmps23
      go_wp2_with fail
      refine (HG1.out _ (bx3_below HB0.out)).mono ?_
      rintro e w1 ⟨rfl, hb⟩
      have HB1 := Lib.hid (bx3_step HB0.out hb); clear hb
      have b0 := bx3_b HB1.out 0; have b1 := bx3_b HB1.out 1
      go_wp2_with fail
      refine (HG2.out _ (bx3_below HB1.out)).mono ?_
      rintro e w2 ⟨rfl, hb⟩
      have HB2 := Lib.hid (bx3_step HB1.out hb); clear hb b0 b1
      have a0 := bx3_a HB2.out 0; have a1 := bx3_a HB2.out 1; have b0 := bx3_b HB2.out 0; have b1 := bx3_b HB2.out 1
      have hs2 : w.heap.size + 3 ≤ w2.heap.size := by have := HB2.out.size; simp at this; omega
      go_wp2_with fail
      refine (HWK.out _ (bx3_below HB2.out)).mono ?_
      rintro e w4 ⟨gp, cp, gt, ct, bm, gv, fp, rfl, hb, hws⟩
      have HB4 := Lib.hid (bx3_step HB2.out hb)
      have HWS := Lib.hid hws
      have hs4 : w.heap.size + 3 ≤ w4.heap.size := Nat.le_trans hs2 hb.size
      obtain ⟨_, _, hrw, _⟩ := hws.pr
      rw [List.length_map] at hrw
      have hcp := own_caps hrw; unfold maxLen at hcp; clear hrw
      obtain ⟨ag, cg, hgv⟩ := hws.gs.form
      rw [List.length_map] at hgv
      subst hgv
      clear hb hws a0 a1 b0 b1
      go_wp2_with fail
      go_loopw [34] (fun iv wr => ∃ (i : Nat) (v2 : Value) (fp2 : List Nat), i ≤ L.length ∧ iv = .int .i64 (i : Int) ∧ Hid (wr.cell? ⟨w4.heap.size, 0, none⟩ = some (.slice ag L.length cg) ∧ wr.cell? ⟨w4.heap.size, 1, none⟩ = some v2 ∧ wr.frozen? ⟨w4.heap.size, 1, none⟩ = false ∧ w4.heap.size + 1 ≤ wr.heap.size) ∧ Hid (Bd 4 kBool (w4.heap.size + 1) fp2 wr v2 ((L.take i).map (bothP A B))) ∧ Hid (Below w4.heap.size w4 wr)) (fun iv _ => L.length - (intOf iv).toNat)
      case atStart => exact ⟨0, _, [], by omega, rfl, Lib.hid ⟨by go_simp, by go_simp, by go_simp, by simp⟩, Lib.hid (Bd.nil _), Lib.hid ((Below.refl _ _).alloc (Nat.le_refl _) _)⟩
      case round =>
        obtain ⟨w5, rfl⟩ : ∃ z : World, z = wr := ⟨_, rfl⟩
        obtain ⟨i, v2, fp2, hil, rfl, HCL, BD2, HBR⟩ := hrel
        obtain ⟨co0, co1, zo1, hlo⟩ := HCL.out
        have HBW := Lib.hid ((bx3_below HB4.out).trans (HBR.out.mono (by omega)))
        by_cases hlt : i < L.length
        case neg =>
          have hni : ¬ (i : Int) < (L.length : Int) := by omega
          have hq : (L.take i).map (bothP A B) = L.map (bothP A B) := by rw [List.take_of_length_le (by omega)]
          rw [hq] at BD2
          obtain ⟨a2, c2, hv2⟩ := BD2.out.form
          rw [List.length_map] at hv2
          subst hv2
          have k0 : w5.cell? ⟨w.heap.size + 2, 0, none⟩ = some (.slice none 0 0) := below_later HBR.out (bx3_c HB4.out 0)
          have k1 : w5.cell? ⟨w.heap.size + 2, 1, none⟩ = some (.slice none 0 0) := below_later HBR.out (bx3_c HB4.out 1)
          have z0 := (HBR.out.frozen (p := ⟨w.heap.size + 2, 0, none⟩) (by show w.heap.size + 2 < w4.heap.size; omega)).trans (bx3_z HB4.out 0)
          have z1 := (HBR.out.frozen (p := ⟨w.heap.size + 2, 1, none⟩) (by show w.heap.size + 2 < w4.heap.size; omega)).trans (bx3_z HB4.out 1)
          have HGL := Lib.hid (HWS.out.gs.lt kIntS_ok)
          have HG5 := Lib.hid (HWS.out.gs.frame kIntS_ok (w' := w5) (fun b hb => HBR.out.block b (HGL.out b hb)))
          clear hq hil
          go_wp2_with fail
          refine bodyPost_ret (v := .tuple #[.agg #[.slice ag L.length cg, .slice a2 L.length c2], .bool true]) (by simp [results, Try.results23, go_sem, k0, k1]) rfl ?_
          have b1 := HG5.out; have b2 := BD2.out
          have hge := HWS.out.gs.ge
          have c1' := (b1.setCell kIntS_ok (a := ⟨w.heap.size + 2, 0, none⟩) (by show w.heap.size + 2 < w2.heap.size + 2; omega) (.slice ag L.length cg)).setCell kIntS_ok (a := ⟨w.heap.size + 2, 1, none⟩) (by show w.heap.size + 2 < w2.heap.size + 2; omega) (.slice a2 L.length c2)
          have c2' := (b2.setCell kBool_ok (a := ⟨w.heap.size + 2, 0, none⟩) (by show w.heap.size + 2 < w4.heap.size + 1; omega) (.slice ag L.length cg)).setCell kBool_ok (a := ⟨w.heap.size + 2, 1, none⟩) (by show w.heap.size + 2 < w4.heap.size + 1; omega) (.slice a2 L.length c2)
          refine ⟨[.slice ag L.length cg, .slice a2 L.length c2], fp ++ fp2, rfl, ⟨fp, fp2, [_], [_], rfl, rfl, c1'.ow, c2'.ow⟩, List.nodup_append.2 ⟨b1.nodup, b2.nodup, fun x hx y hy hxy => ?_⟩, ?_, ?_⟩
          · have h1 := HGL.out x hx; have h2 := b2.ge y hy; omega
          · intro b hb
            rcases List.mem_append.1 hb with hb | hb
            · have := hge b hb; omega
            · have := b2.ge b hb; omega
          · exact (HBW.out.setCell (p := ⟨w.heap.size + 2, 0, none⟩) (by show w.heap.size ≤ w.heap.size + 2; omega) _).setCell (p := ⟨w.heap.size + 2, 1, none⟩) (by show w.heap.size ≤ w.heap.size + 2; omega) _
        obtain ⟨p, hp⟩ : ∃ p, L[i]? = some p := ⟨L[i], List.getElem?_eq_getElem hlt⟩
        obtain ⟨q0, q1, _⟩ := HWS.out.cells hp
        replace q0 := below_later HBR.out q0; replace q1 := below_later HBR.out q1
        obtain ⟨r1, r2, r3, r4⟩ := HPI.out p (List.mem_of_getElem? hp)
        have m1 : w5.cell? ⟨w.heap.size, 1, none⟩ = some (.slice (some ⟨bA, fA, none⟩) A.2.length ebc) := below_later HBR.out (bx3_a HB4.out 1)
        have m3 : w5.cell? ⟨w.heap.size + 1, 1, none⟩ = some (.slice (some ⟨bB, fB, none⟩) B.2.length edc) := below_later HBR.out (bx3_b HB4.out 1)
        have m2 := below_cellk HBW.out (HRA.out p.1 r1 r2) hbA
        have m4 := below_cellk HBW.out (HRB.out p.2.1 r3 r4) hbB
        rw [← HEA.out] at r2; rw [← HEB.out] at r4
        have HT2 : Hid (∀ z : Bool, z = (endI A p.1 && endI B p.2.1) → ((L.take i).map (bothP A B)) ++ [z] = (L.take (i + 1)).map (bothP A B)) := Lib.hid (by rintro z rfl; rw [take_next _ i _ hp, List.map_append]; rfl)
        have HLT2 : Hid (((L.take i).map (bothP A B)).length = i) := Lib.hid (by simp; omega)
        have HC5 : Hid (i + 1 ≤ maxLen) := Lib.hid (by unfold maxLen; omega)
        have HC6 : Hid ((i + 1) * 1 ≤ 140737488355328) := Lib.hid (by omega)
        obtain ⟨x, y, s⟩ := p
        simp only at q0 q1 r1 r2 r3 r4 m2 m4 HT2
        have hii : (i : Int) < (L.length : Int) := by omega
        have hal : Below w5.heap.size w5 (w5.alloc (.cells #[.int .i64 x, .int .i64 y] 71)) := (Below.refl _ _).alloc (Nat.le_refl _) _
        have n1 := below_later hal m1; have n2 := below_later hal m2; have n3 := below_later hal m3; have n4 := below_later hal m4
        have no1 := below_later hal co1; have no0 := below_later hal co0
        have nz1 := (Below.frozen hal (p := ⟨w4.heap.size, 1, none⟩) (by show w4.heap.size < w5.heap.size; omega)).trans zo1
        have np0 : (w5.alloc (.cells #[.int .i64 x, .int .i64 y] 71)).cell? ⟨w5.heap.size, 0, none⟩ = some (.int .i64 x) := by go_simp
        have np1 : (w5.alloc (.cells #[.int .i64 x, .int .i64 y] 71)).cell? ⟨w5.heap.size, 1, none⟩ = some (.int .i64 y) := by go_simp
        have BDn := Lib.hid (BD2.out.later kBool_ok hal)
        have HBn := Lib.hid (HBR.out.trans (hal.mono (by omega)))
        have hln : w4.heap.size + 1 ≤ (w5.alloc (.cells #[.int .i64 x, .int .i64 y] 71)).heap.size := by simp; omega
        clear hp hal HCL
        generalize endI A x = u at *
        generalize endI B y = v at *
        go_upto_region 10 with fail
        go_simp
        generalize (w5.alloc (.cells #[.int .i64 x, .int .i64 y] 71)) = wz at *
        generalize w5.heap.size = B15 at *
        cases u with
        | false =>
          have hb_1 : Below wz.heap.size wz wz.drew := (Below.refl _ _).drew
          have hz_2 : wz.heap.size ≤ wz.heap.size := by have := (hb_1).size; first | omega | (simp at this; omega)
          have c_3 : wz.drew.cell? ⟨w4.heap.size, 0, none⟩ = some (.slice ag L.length cg) := below_later hb_1 no0
          have c_4 : wz.drew.cell? ⟨w4.heap.size, 1, none⟩ = some (v2) := below_later hb_1 no1
          have z_5 : wz.drew.frozen? ⟨w4.heap.size, 1, none⟩ = false := (Below.frozen hb_1 (p := ⟨w4.heap.size, 1, none⟩) (by show w4.heap.size < _; first | omega | (simp; done) | (simp; omega))).trans nz1
          have c_6 : wz.drew.cell? ⟨w.heap.size, 1, none⟩ = some (.slice (some ⟨bA, fA, none⟩) A.2.length ebc) := below_later hb_1 n1
          have c_7 : wz.drew.cell? ⟨bA, fA + x.toNat, none⟩ = some (.bool false) := below_later hb_1 n2
          have c_8 : wz.drew.cell? ⟨(w.heap.size + 1), 1, none⟩ = some (.slice (some ⟨bB, fB, none⟩) B.2.length edc) := below_later hb_1 n3
          have c_9 : wz.drew.cell? ⟨bB, fB + y.toNat, none⟩ = some (.bool v) := below_later hb_1 n4
          have c_10 : wz.drew.cell? ⟨B15, 0, none⟩ = some (.int .i64 x) := below_later hb_1 np0
          have c_11 : wz.drew.cell? ⟨B15, 1, none⟩ = some (.int .i64 y) := below_later hb_1 np1
          have hz_12 : w4.heap.size + 1 ≤ wz.heap.size := Nat.le_trans hln hz_2
          have BD_13 := Lib.hid (BDn.out.later kBool_ok hb_1)
          have BL_14 := Lib.hid (Below.trans HBn.out (Below.mono hb_1 (by have := (HBn.out).size; first | omega | (simp at this; omega) | (simp at this ⊢; omega))))
          clear hb_1
          refine wp_region_G [17] (fun w' => w'.cell? ⟨w4.heap.size, 1, none⟩ = some (v2) ∧ w'.cell? ⟨w.heap.size, 1, none⟩ = some (.slice (some ⟨bA, fA, none⟩) A.2.length ebc) ∧ w'.cell? ⟨bA, fA + x.toNat, none⟩ = some (.bool false) ∧ w'.cell? ⟨(w.heap.size + 1), 1, none⟩ = some (.slice (some ⟨bB, fB, none⟩) B.2.length edc) ∧ w'.cell? ⟨bB, fB + y.toNat, none⟩ = some (.bool v) ∧ w'.cell? ⟨B15, 0, none⟩ = some (.int .i64 x) ∧ w'.cell? ⟨B15, 1, none⟩ = some (.int .i64 y)) (by kernel_rfl) ?_ (fun hHeld => ?_)
          · exact ⟨c_4, c_6, c_7, c_8, c_9, c_10, c_11⟩
          refine wpG_pure (i := 0) (oi := { dst := some 38, op := Go.Op.fieldAddr 28 (Go.Operand.tmp 8) 1, type := 0, pos := "l12_machine.go:187", after := #[], guard := none }) (v := ?vg1) rfl (by kernel_rfl) (fun _ _ _ h => h) (Or.inr hHeld) (Or.inl ⟨by rfl, ?yg1⟩) ?_
          case yg1 => (intro wS _; go_simp <;> with_reducible rfl)
          try simp only [Act.put, List.setIfInBounds_toArray, List.set_cons_zero, List.set_cons_succ]
          refine wpG_load (i := 1) (oi := { dst := some 39, op := Go.Op.load 23 (Go.Operand.tmp 38), type := 23, pos := "l12_machine.go:187", after := #[{ on := 0, ground := Go.Ground.data }], guard := none }) (v := ?vg2) [[17, 1]] rfl (by kernel_rfl) (fun _ _ _ h => h) hHeld (Or.inl ⟨by rfl, ?yg2⟩) ?_
          case yg2 => (intro wS hSw; (try dsimp only at hSw); go_simp <;> with_reducible rfl)
          try simp only [Act.put, List.setIfInBounds_toArray, List.set_cons_zero, List.set_cons_succ]
          refine wpG_pure (i := 2) (oi := { dst := some 40, op := Go.Op.fieldAddr 28 (Go.Operand.tmp 2) 1, type := 0, pos := "l12_machine.go:187", after := #[], guard := none }) (v := ?vg3) rfl (by kernel_rfl) (fun _ _ _ h => h) (Or.inr hHeld) (Or.inl ⟨by rfl, ?yg3⟩) ?_
          case yg3 => (intro wS _; go_simp <;> with_reducible rfl)
          try simp only [Act.put, List.setIfInBounds_toArray, List.set_cons_zero, List.set_cons_succ]
          refine wpG_load (i := 3) (oi := { dst := some 41, op := Go.Op.load 23 (Go.Operand.tmp 40), type := 23, pos := "l12_machine.go:187", after := #[{ on := 2, ground := Go.Ground.data }], guard := none }) (v := ?vg4) [[17, 8, 7, 6, 3]] rfl (by kernel_rfl) (fun _ _ _ h => h) hHeld (Or.inl ⟨by rfl, ?yg4⟩) ?_
          case yg4 => (intro wS hSw; (try dsimp only at hSw); go_simp <;> with_reducible rfl)
          try simp only [Act.put, List.setIfInBounds_toArray, List.set_cons_zero, List.set_cons_succ]
          refine wpG_pure (i := 4) (oi := { dst := some 42, op := Go.Op.fieldAddr 71 (Go.Operand.tmp 10) 0, type := 0, pos := "l12_machine.go:187", after := #[], guard := none }) (v := ?vg5) rfl (by kernel_rfl) (fun _ _ _ h => h) (Or.inr hHeld) (Or.inl ⟨by rfl, ?yg5⟩) ?_
          case yg5 => (intro wS _; go_simp <;> with_reducible rfl)
          try simp only [Act.put, List.setIfInBounds_toArray, List.set_cons_zero, List.set_cons_succ]
          refine wpG_load (i := 5) (oi := { dst := some 43, op := Go.Op.load 3 (Go.Operand.tmp 42), type := 3, pos := "l12_machine.go:187", after := #[{ on := 4, ground := Go.Ground.data }], guard := none }) (v := ?vg6) [[17, 8, 7, 6, 5]] rfl (by kernel_rfl) (fun _ _ _ h => h) hHeld (Or.inl ⟨by rfl, ?yg6⟩) ?_
          case yg6 => (intro wS hSw; (try dsimp only at hSw); go_simp <;> with_reducible rfl)
          try simp only [Act.put, List.setIfInBounds_toArray, List.set_cons_zero, List.set_cons_succ]
          refine wpG_pure (i := 6) (oi := { dst := some 44, op := Go.Op.indexAddr 23 (Go.Operand.tmp 41) (Go.Operand.tmp 43), type := 0, pos := "l12_machine.go:187", after := #[{ on := 3, ground := Go.Ground.data }, { on := 5, ground := Go.Ground.data }], guard := none }) (v := ?vg7) rfl (by kernel_rfl) (fun _ _ _ h => h) (Or.inr hHeld) (Or.inl ⟨by rfl, ?yg7⟩) ?_
          case yg7 => (intro wS _; go_simp <;> with_reducible rfl)
          try simp only [Act.put, List.setIfInBounds_toArray, List.set_cons_zero, List.set_cons_succ]
          refine wpG_load (i := 7) (oi := { dst := some 45, op := Go.Op.load 4 (Go.Operand.tmp 44), type := 4, pos := "l12_machine.go:187", after := #[{ on := 6, ground := Go.Ground.data }], guard := none }) (v := ?vg8) [[17, 8, 7]] rfl (by kernel_rfl) (fun _ _ _ h => h) hHeld (Or.inl ⟨by rfl, ?yg8⟩) ?_
          case yg8 => (intro wS hSw; (try dsimp only at hSw); go_simp <;> with_reducible rfl)
          try simp only [Act.put, List.setIfInBounds_toArray, List.set_cons_zero, List.set_cons_succ]
          refine wpG_pure (i := 8) (oi := { dst := some 46, op := Go.Op.move (Go.Operand.tmp 45), type := 4, pos := "l12_machine.go:187", after := #[{ on := 7, ground := Go.Ground.data }], guard := none }) (v := ?vg9) rfl (by kernel_rfl) (fun _ _ _ h => h) (Or.inr hHeld) (Or.inl ⟨by rfl, ?yg9⟩) ?_
          case yg9 => (intro wS _; go_simp <;> with_reducible rfl)
          try simp only [Act.put, List.setIfInBounds_toArray, List.set_cons_zero, List.set_cons_succ]
          refine wpG_pure (i := 9) (oi := { dst := some 47, op := Go.Op.fieldAddr 28 (Go.Operand.tmp 3) 1, type := 0, pos := "l12_machine.go:187", after := #[{ on := 8, ground := Go.Ground.guard }], guard := some (8, true) }) (v := undef) rfl (by kernel_rfl) (fun _ _ _ h => h) (Or.inr hHeld) (Or.inr ⟨by rfl, rfl⟩) ?_
          try simp only [Act.put, List.setIfInBounds_toArray, List.set_cons_zero, List.set_cons_succ]
          refine wpG_pure (i := 10) (oi := { dst := some 48, op := Go.Op.load 23 (Go.Operand.tmp 47), type := 23, pos := "l12_machine.go:187", after := #[{ on := 9, ground := Go.Ground.data }, { on := 8, ground := Go.Ground.guard }], guard := some (8, true) }) (v := undef) rfl (by kernel_rfl) (fun _ _ _ h => h) (Or.inr hHeld) (Or.inr ⟨by rfl, rfl⟩) ?_
          try simp only [Act.put, List.setIfInBounds_toArray, List.set_cons_zero, List.set_cons_succ]
          refine wpG_pure (i := 11) (oi := { dst := some 49, op := Go.Op.fieldAddr 71 (Go.Operand.tmp 10) 1, type := 0, pos := "l12_machine.go:187", after := #[{ on := 8, ground := Go.Ground.guard }], guard := some (8, true) }) (v := undef) rfl (by kernel_rfl) (fun _ _ _ h => h) (Or.inr hHeld) (Or.inr ⟨by rfl, rfl⟩) ?_
          try simp only [Act.put, List.setIfInBounds_toArray, List.set_cons_zero, List.set_cons_succ]
          refine wpG_pure (i := 12) (oi := { dst := some 50, op := Go.Op.load 3 (Go.Operand.tmp 49), type := 3, pos := "l12_machine.go:187", after := #[{ on := 11, ground := Go.Ground.data }, { on := 8, ground := Go.Ground.guard }], guard := some (8, true) }) (v := undef) rfl (by kernel_rfl) (fun _ _ _ h => h) (Or.inr hHeld) (Or.inr ⟨by rfl, rfl⟩) ?_
          try simp only [Act.put, List.setIfInBounds_toArray, List.set_cons_zero, List.set_cons_succ]
          refine wpG_pure (i := 13) (oi := { dst := some 51, op := Go.Op.indexAddr 23 (Go.Operand.tmp 48) (Go.Operand.tmp 50), type := 0, pos := "l12_machine.go:187", after := #[{ on := 10, ground := Go.Ground.data }, { on := 12, ground := Go.Ground.data }, { on := 8, ground := Go.Ground.guard }], guard := some (8, true) }) (v := undef) rfl (by kernel_rfl) (fun _ _ _ h => h) (Or.inr hHeld) (Or.inr ⟨by rfl, rfl⟩) ?_
          try simp only [Act.put, List.setIfInBounds_toArray, List.set_cons_zero, List.set_cons_succ]
          refine wpG_pure (i := 14) (oi := { dst := some 52, op := Go.Op.load 4 (Go.Operand.tmp 51), type := 4, pos := "l12_machine.go:187", after := #[{ on := 13, ground := Go.Ground.data }, { on := 8, ground := Go.Ground.guard }], guard := some (8, true) }) (v := undef) rfl (by kernel_rfl) (fun _ _ _ h => h) (Or.inr hHeld) (Or.inr ⟨by rfl, rfl⟩) ?_
          try simp only [Act.put, List.setIfInBounds_toArray, List.set_cons_zero, List.set_cons_succ]
          refine wpG_pure (i := 15) (oi := { dst := some 53, op := Go.Op.pick (Go.Operand.tmp 46) (Go.Operand.tmp 52) (Go.Operand.const (Go.Value.bool false)), type := 4, pos := "l12_machine.go:187", after := #[{ on := 8, ground := Go.Ground.data }, { on := 14, ground := Go.Ground.data }], guard := none }) (v := ?vg16) rfl (by kernel_rfl) (fun _ _ _ h => h) (Or.inr hHeld) (Or.inl ⟨by rfl, ?yg16⟩) ?_
          case yg16 => (intro wS _; go_simp <;> with_reducible rfl)
          try simp only [Act.put, List.setIfInBounds_toArray, List.set_cons_zero, List.set_cons_succ]
          refine wpG_one (i := 16) (o := { dst := some 54, op := Go.Op.buildSlice 23 1 #[(0, Go.Operand.tmp 53)], type := 23, pos := "l12_machine.go:187", after := #[{ on := 15, ground := Go.Ground.data }], guard := none }) rfl (by kernel_rfl) (fun K hK => ?_)
          go_simp
          have LT_15 : Hid (∀ b ∈ fp2, b < wz.heap.size) := Lib.hid (fun b hm => by have := (BD_13.out.lt kBool_ok b hm); first | exact this | omega | (simp at this; omega))
          have hb_16 : Below wz.drew.heap.size wz.drew (wz.alloc (.cells #[.bool false] 4)).drew := below_alloc_drew _ _
          have hz_17 : wz.heap.size ≤ wz.heap.size + 1 := by have := (hb_16).size; first | omega | (simp at this; omega)
          have c_18 : (wz.alloc (.cells #[.bool false] 4)).drew.cell? ⟨w4.heap.size, 0, none⟩ = some (.slice ag L.length cg) := below_later hb_16 c_3; clear c_3
          have c_19 : (wz.alloc (.cells #[.bool false] 4)).drew.cell? ⟨w4.heap.size, 1, none⟩ = some (v2) := below_later hb_16 c_4; clear c_4
          have z_20 : (wz.alloc (.cells #[.bool false] 4)).drew.frozen? ⟨w4.heap.size, 1, none⟩ = false := (Below.frozen hb_16 (p := ⟨w4.heap.size, 1, none⟩) (by show w4.heap.size < _; first | omega | (simp; done) | (simp; omega))).trans z_5
          have c_21 : (wz.alloc (.cells #[.bool false] 4)).drew.cell? ⟨w.heap.size, 1, none⟩ = some (.slice (some ⟨bA, fA, none⟩) A.2.length ebc) := below_later hb_16 c_6; clear c_6
          have c_22 : (wz.alloc (.cells #[.bool false] 4)).drew.cell? ⟨bA, fA + x.toNat, none⟩ = some (.bool false) := below_later hb_16 c_7; clear c_7
          have c_23 : (wz.alloc (.cells #[.bool false] 4)).drew.cell? ⟨(w.heap.size + 1), 1, none⟩ = some (.slice (some ⟨bB, fB, none⟩) B.2.length edc) := below_later hb_16 c_8; clear c_8
          have c_24 : (wz.alloc (.cells #[.bool false] 4)).drew.cell? ⟨bB, fB + y.toNat, none⟩ = some (.bool v) := below_later hb_16 c_9; clear c_9
          have c_25 : (wz.alloc (.cells #[.bool false] 4)).drew.cell? ⟨B15, 0, none⟩ = some (.int .i64 x) := below_later hb_16 c_10; clear c_10
          have c_26 : (wz.alloc (.cells #[.bool false] 4)).drew.cell? ⟨B15, 1, none⟩ = some (.int .i64 y) := below_later hb_16 c_11; clear c_11
          have hz_27 : w4.heap.size + 1 ≤ wz.heap.size + 1 := Nat.le_trans hz_12 hz_17
          have BD_28 := Lib.hid (BD_13.out.later kBool_ok hb_16)
          have BL_29 := Lib.hid (Below.trans BL_14.out (Below.mono hb_16 (by have := (BL_14.out).size; first | omega | (simp at this; omega) | (simp at this ⊢; omega))))
          clear hb_16
          have c_30 : (wz.alloc (.cells #[.bool false] 4)).drew.cell? ⟨wz.heap.size, 0, none⟩ = some (.bool false) := by go_simp
          have z_31 : (wz.alloc (.cells #[.bool false] 4)).drew.frozen? ⟨wz.heap.size, 0, none⟩ = false := by go_simp
          have hz_32 : wz.heap.size < wz.heap.size + 1 := by omega
          have ND_33 : Hid (∀ b ∈ [wz.heap.size], b ∉ fp2) := Lib.hid (by intro b hb hm; simp only [List.mem_singleton] at hb; subst hb; have := (LT_15.out _ hm); first | omega | (simp at this; omega))
          refine hK.out _ _ (Or.inr ?khHeld17) (fun hHeld17S => ?_)
          case khHeld17 => exact ⟨c_19, c_21, c_22, c_23, c_24, c_25, c_26⟩
          have hHeld17 := hHeld17S.held (by kernel_rfl)
          clear hK K
          try simp only [Act.put, List.setIfInBounds_toArray, List.set_cons_zero, List.set_cons_succ]
          refine wpG_one (i := 17) (o := { dst := some 55, op := Go.Op.call { callee := Go.Callee.builtin Go.Builtin.append, args := #[Go.Operand.tmp 39, Go.Operand.tmp 54], argTypes := #[23, 23] }, type := 23, pos := "l12_machine.go:187", after := #[{ on := 1, ground := Go.Ground.data }, { on := 16, ground := Go.Ground.data }, { on := 8, ground := Go.Ground.chain }], guard := none }) rfl (by kernel_rfl) (fun K hK => ?_)
          obtain ⟨vss_34, fps_34, hrow, howl, hfp, hnd, hge⟩ := BD_28.out
          rw [HLT2.out] at hrow
          have ROW_34 := Lib.hid hrow; have OWL_34 := Lib.hid howl; have NDU_34 := Lib.hid (hfp ▸ hnd); have GE_34 := Lib.hid (fun b hb => hge b (hfp ▸ hb)); have FPE_34 := Lib.hid hfp; clear hrow howl hnd hge hfp
          refine step_append_lies _ rfl (.tmp 39) (.tmp 54) 23 rfl (w4.heap.size + 1) 4 i2 (.bool false) 1 1 Try.underlying23 hi2 hx0 hx1 hx2 rfl (by decide) v2 i vss_34.flatten rfl ROW_34.out ⟨wz.heap.size, 0, none⟩ 1 1 [.bool false] rfl rfl (news_at c_30) (by simp [Value.oneCell']) (by omega) HC5.out HC6.out (by first | omega | (simp; omega)) _ rfl ?_
          intro g9 cp9 w9 hown hgrow hat hlt4
          have HG_35 := Lib.hid hgrow; have HATHG_35 := Lib.hid hat; have HONHG_35 := Lib.hid hown
          clear hgrow hat hown
          have hz_36 : wz.heap.size + 1 ≤ w9.heap.size := by have := HG_35.out.size; first | omega | (simp at this; omega)
          have LT_37 : Hid (∀ b ∈ fp2, b < wz.heap.size + 1) := Lib.hid (fun b hm => by have := (BD_28.out.lt kBool_ok b hm); first | exact this | omega | (simp at this; omega))
          have BD_38 := Lib.hid (Bd.app HLT2.out kBool_ok ROW_34.out OWL_34.out NDU_34.out GE_34.out ⟨rfl, rfl, trivial⟩ List.nodup_nil (fun b hb => absurd hb (by simp)) (fun b hb => absurd hb (by simp)) HONHG_35.out HG_35.out HATHG_35.out (by first | omega | (simp; done) | (simp; omega)))
          have c_39 : w9.cell? ⟨w4.heap.size, 0, none⟩ = some (.slice ag L.length cg) := BD_28.out.cell_grown HG_35.out c_18 (by first | omega | (simp; done) | (simp; omega))
          have c_40 : w9.cell? ⟨w4.heap.size, 1, none⟩ = some (v2) := BD_28.out.cell_grown HG_35.out c_19 (by first | omega | (simp; done) | (simp; omega))
          have z_41 : w9.frozen? ⟨w4.heap.size, 1, none⟩ = false := BD_28.out.frozen_grown HG_35.out (by first | omega | (simp; done) | (simp; omega)) z_20 (by first | omega | (simp; done) | (simp; omega))
          have hz_42 : w4.heap.size + 1 ≤ w9.heap.size := Nat.le_trans hz_27 hz_36
          have BL_43 := Lib.hid (Below.grown BL_29.out HG_35.out (by have := (BL_29.out).size; first | omega | (simp at this; omega) | (simp at this ⊢; omega)) (fun k hk => Nat.le_trans (by first | omega | (simp; done) | (simp; omega)) (BD_28.out.own_ge k hk)))
          have c_44 : w9.cell? ⟨wz.heap.size, 0, none⟩ = some (.bool false) := (HG_35.out.cell_far ⟨wz.heap.size, 0, none⟩ (World.block_lt_of_cell? _ _ c_30) (fun he => ND_33.out _ (by simp) (BD_28.out.own_mem _ he.symm))).trans c_30
          have z_45 : w9.frozen? ⟨wz.heap.size, 0, none⟩ = false := (HG_35.out.frozen_far ⟨wz.heap.size, 0, none⟩ (by first | omega | (simp; done) | (simp; omega)) (fun he => ND_33.out _ (by simp) (BD_28.out.own_mem _ he.symm))).trans z_31
          have hz_46 : wz.heap.size + 1 ≤ w9.heap.size := Nat.le_trans hz_32 hz_36
          refine hK.out _ _ (Or.inl (by kernel_rfl)) (fun _ => ?_)
          clear hK K
          try simp only [Act.put, List.setIfInBounds_toArray, List.set_cons_zero, List.set_cons_succ]
          refine wpG_pure (i := 18) (oi := { dst := some 56, op := Go.Op.fieldAddr 28 (Go.Operand.tmp 8) 1, type := 0, pos := "l12_machine.go:187", after := #[{ on := 0, ground := Go.Ground.phase }, { on := 1, ground := Go.Ground.phase }, { on := 2, ground := Go.Ground.phase }, { on := 3, ground := Go.Ground.phase }, { on := 4, ground := Go.Ground.phase }, { on := 5, ground := Go.Ground.phase }, { on := 6, ground := Go.Ground.phase }, { on := 7, ground := Go.Ground.phase }, { on := 8, ground := Go.Ground.phase }, { on := 9, ground := Go.Ground.phase }, { on := 10, ground := Go.Ground.phase }, { on := 11, ground := Go.Ground.phase }, { on := 12, ground := Go.Ground.phase }, { on := 13, ground := Go.Ground.phase }, { on := 14, ground := Go.Ground.phase }, { on := 15, ground := Go.Ground.phase }, { on := 16, ground := Go.Ground.phase }, { on := 17, ground := Go.Ground.phase }], guard := none }) (v := ?vg19) rfl (by kernel_rfl) (fun _ _ _ h => h) (Or.inl (by kernel_rfl)) (Or.inl ⟨by rfl, ?yg19⟩) ?_
          case yg19 => (intro wS _; go_simp <;> with_reducible rfl)
          try simp only [Act.put, List.setIfInBounds_toArray, List.set_cons_zero, List.set_cons_succ]
          refine wpG_one (i := 19) (o := { dst := none, op := Go.Op.store 23 (Go.Operand.tmp 56) (Go.Operand.tmp 55), type := 0, pos := "l12_machine.go:187", after := #[{ on := 18, ground := Go.Ground.data }, { on := 17, ground := Go.Ground.data }, { on := 17, ground := Go.Ground.chain }, { on := 0, ground := Go.Ground.phase }, { on := 1, ground := Go.Ground.phase }, { on := 2, ground := Go.Ground.phase }, { on := 3, ground := Go.Ground.phase }, { on := 4, ground := Go.Ground.phase }, { on := 5, ground := Go.Ground.phase }, { on := 6, ground := Go.Ground.phase }, { on := 7, ground := Go.Ground.phase }, { on := 8, ground := Go.Ground.phase }, { on := 9, ground := Go.Ground.phase }, { on := 10, ground := Go.Ground.phase }, { on := 11, ground := Go.Ground.phase }, { on := 12, ground := Go.Ground.phase }, { on := 13, ground := Go.Ground.phase }, { on := 14, ground := Go.Ground.phase }, { on := 15, ground := Go.Ground.phase }, { on := 16, ground := Go.Ground.phase }, { on := 17, ground := Go.Ground.phase }], guard := none }) rfl (by kernel_rfl) (fun K hK => ?_)
          go_simp
          refine hK.out _ _ (Or.inl (by kernel_rfl)) (fun _ => ?_)
          clear hK K
          try simp only [Act.put, List.setIfInBounds_toArray, List.set_cons_zero, List.set_cons_succ]
          refine wpG_done (by kernel_rfl) ?_
          go_wp2_with fail
          go_roundw
          case rel =>
            have hb2 := BD_38.out.setCell kBool_ok (a := ⟨w4.heap.size, 1, none⟩) (by show w4.heap.size < w4.heap.size + 1; omega) (.slice (some ⟨g9, 0, none⟩) (i + 1) cp9)
            rw [HT2.out false rfl] at hb2
            exact ⟨i + 1, _, _, by omega, by go_num, Lib.hid ⟨by go_simp, by go_simp, by go_simp, by rw [World.size_setCell]; omega⟩, Lib.hid hb2, Lib.hid (BL_43.out.setCell (p := ⟨w4.heap.size, 1, none⟩) (Nat.le_refl _) _)⟩
          case measure => (simp [intOf]; try omega)
        | true =>
          have hb_47 : Below wz.heap.size wz wz.drew := (Below.refl _ _).drew
          have hz_48 : wz.heap.size ≤ wz.heap.size := by have := (hb_47).size; first | omega | (simp at this; omega)
          have c_49 : wz.drew.cell? ⟨w4.heap.size, 0, none⟩ = some (.slice ag L.length cg) := below_later hb_47 no0
          have c_50 : wz.drew.cell? ⟨w4.heap.size, 1, none⟩ = some (v2) := below_later hb_47 no1
          have z_51 : wz.drew.frozen? ⟨w4.heap.size, 1, none⟩ = false := (Below.frozen hb_47 (p := ⟨w4.heap.size, 1, none⟩) (by show w4.heap.size < _; first | omega | (simp; done) | (simp; omega))).trans nz1
          have c_52 : wz.drew.cell? ⟨w.heap.size, 1, none⟩ = some (.slice (some ⟨bA, fA, none⟩) A.2.length ebc) := below_later hb_47 n1
          have c_53 : wz.drew.cell? ⟨bA, fA + x.toNat, none⟩ = some (.bool true) := below_later hb_47 n2
          have c_54 : wz.drew.cell? ⟨(w.heap.size + 1), 1, none⟩ = some (.slice (some ⟨bB, fB, none⟩) B.2.length edc) := below_later hb_47 n3
          have c_55 : wz.drew.cell? ⟨bB, fB + y.toNat, none⟩ = some (.bool v) := below_later hb_47 n4
          have c_56 : wz.drew.cell? ⟨B15, 0, none⟩ = some (.int .i64 x) := below_later hb_47 np0
          have c_57 : wz.drew.cell? ⟨B15, 1, none⟩ = some (.int .i64 y) := below_later hb_47 np1
          have hz_58 : w4.heap.size + 1 ≤ wz.heap.size := Nat.le_trans hln hz_48
          have BD_59 := Lib.hid (BDn.out.later kBool_ok hb_47)
          have BL_60 := Lib.hid (Below.trans HBn.out (Below.mono hb_47 (by have := (HBn.out).size; first | omega | (simp at this; omega) | (simp at this ⊢; omega))))
          clear hb_47
          refine wp_region_G [17] (fun w' => w'.cell? ⟨w4.heap.size, 1, none⟩ = some (v2) ∧ w'.cell? ⟨w.heap.size, 1, none⟩ = some (.slice (some ⟨bA, fA, none⟩) A.2.length ebc) ∧ w'.cell? ⟨bA, fA + x.toNat, none⟩ = some (.bool true) ∧ w'.cell? ⟨(w.heap.size + 1), 1, none⟩ = some (.slice (some ⟨bB, fB, none⟩) B.2.length edc) ∧ w'.cell? ⟨bB, fB + y.toNat, none⟩ = some (.bool v) ∧ w'.cell? ⟨B15, 0, none⟩ = some (.int .i64 x) ∧ w'.cell? ⟨B15, 1, none⟩ = some (.int .i64 y)) (by kernel_rfl) ?_ (fun hHeld => ?_)
          · exact ⟨c_50, c_52, c_53, c_54, c_55, c_56, c_57⟩
          refine wpG_pure (i := 0) (oi := { dst := some 38, op := Go.Op.fieldAddr 28 (Go.Operand.tmp 8) 1, type := 0, pos := "l12_machine.go:187", after := #[], guard := none }) (v := ?vg21) rfl (by kernel_rfl) (fun _ _ _ h => h) (Or.inr hHeld) (Or.inl ⟨by rfl, ?yg21⟩) ?_
          case yg21 => (intro wS _; go_simp <;> with_reducible rfl)
          try simp only [Act.put, List.setIfInBounds_toArray, List.set_cons_zero, List.set_cons_succ]
          refine wpG_load (i := 1) (oi := { dst := some 39, op := Go.Op.load 23 (Go.Operand.tmp 38), type := 23, pos := "l12_machine.go:187", after := #[{ on := 0, ground := Go.Ground.data }], guard := none }) (v := ?vg22) [[17, 1]] rfl (by kernel_rfl) (fun _ _ _ h => h) hHeld (Or.inl ⟨by rfl, ?yg22⟩) ?_
          case yg22 => (intro wS hSw; (try dsimp only at hSw); go_simp <;> with_reducible rfl)
          try simp only [Act.put, List.setIfInBounds_toArray, List.set_cons_zero, List.set_cons_succ]
          refine wpG_pure (i := 2) (oi := { dst := some 40, op := Go.Op.fieldAddr 28 (Go.Operand.tmp 2) 1, type := 0, pos := "l12_machine.go:187", after := #[], guard := none }) (v := ?vg23) rfl (by kernel_rfl) (fun _ _ _ h => h) (Or.inr hHeld) (Or.inl ⟨by rfl, ?yg23⟩) ?_
          case yg23 => (intro wS _; go_simp <;> with_reducible rfl)
          try simp only [Act.put, List.setIfInBounds_toArray, List.set_cons_zero, List.set_cons_succ]
          refine wpG_load (i := 3) (oi := { dst := some 41, op := Go.Op.load 23 (Go.Operand.tmp 40), type := 23, pos := "l12_machine.go:187", after := #[{ on := 2, ground := Go.Ground.data }], guard := none }) (v := ?vg24) [[17, 8, 7, 6, 3]] rfl (by kernel_rfl) (fun _ _ _ h => h) hHeld (Or.inl ⟨by rfl, ?yg24⟩) ?_
          case yg24 => (intro wS hSw; (try dsimp only at hSw); go_simp <;> with_reducible rfl)
          try simp only [Act.put, List.setIfInBounds_toArray, List.set_cons_zero, List.set_cons_succ]
          refine wpG_pure (i := 4) (oi := { dst := some 42, op := Go.Op.fieldAddr 71 (Go.Operand.tmp 10) 0, type := 0, pos := "l12_machine.go:187", after := #[], guard := none }) (v := ?vg25) rfl (by kernel_rfl) (fun _ _ _ h => h) (Or.inr hHeld) (Or.inl ⟨by rfl, ?yg25⟩) ?_
          case yg25 => (intro wS _; go_simp <;> with_reducible rfl)
          try simp only [Act.put, List.setIfInBounds_toArray, List.set_cons_zero, List.set_cons_succ]
          refine wpG_load (i := 5) (oi := { dst := some 43, op := Go.Op.load 3 (Go.Operand.tmp 42), type := 3, pos := "l12_machine.go:187", after := #[{ on := 4, ground := Go.Ground.data }], guard := none }) (v := ?vg26) [[17, 8, 7, 6, 5]] rfl (by kernel_rfl) (fun _ _ _ h => h) hHeld (Or.inl ⟨by rfl, ?yg26⟩) ?_
          case yg26 => (intro wS hSw; (try dsimp only at hSw); go_simp <;> with_reducible rfl)
          try simp only [Act.put, List.setIfInBounds_toArray, List.set_cons_zero, List.set_cons_succ]
          refine wpG_pure (i := 6) (oi := { dst := some 44, op := Go.Op.indexAddr 23 (Go.Operand.tmp 41) (Go.Operand.tmp 43), type := 0, pos := "l12_machine.go:187", after := #[{ on := 3, ground := Go.Ground.data }, { on := 5, ground := Go.Ground.data }], guard := none }) (v := ?vg27) rfl (by kernel_rfl) (fun _ _ _ h => h) (Or.inr hHeld) (Or.inl ⟨by rfl, ?yg27⟩) ?_
          case yg27 => (intro wS _; go_simp <;> with_reducible rfl)
          try simp only [Act.put, List.setIfInBounds_toArray, List.set_cons_zero, List.set_cons_succ]
          refine wpG_load (i := 7) (oi := { dst := some 45, op := Go.Op.load 4 (Go.Operand.tmp 44), type := 4, pos := "l12_machine.go:187", after := #[{ on := 6, ground := Go.Ground.data }], guard := none }) (v := ?vg28) [[17, 8, 7]] rfl (by kernel_rfl) (fun _ _ _ h => h) hHeld (Or.inl ⟨by rfl, ?yg28⟩) ?_
          case yg28 => (intro wS hSw; (try dsimp only at hSw); go_simp <;> with_reducible rfl)
          try simp only [Act.put, List.setIfInBounds_toArray, List.set_cons_zero, List.set_cons_succ]
          refine wpG_pure (i := 8) (oi := { dst := some 46, op := Go.Op.move (Go.Operand.tmp 45), type := 4, pos := "l12_machine.go:187", after := #[{ on := 7, ground := Go.Ground.data }], guard := none }) (v := ?vg29) rfl (by kernel_rfl) (fun _ _ _ h => h) (Or.inr hHeld) (Or.inl ⟨by rfl, ?yg29⟩) ?_
          case yg29 => (intro wS _; go_simp <;> with_reducible rfl)
          try simp only [Act.put, List.setIfInBounds_toArray, List.set_cons_zero, List.set_cons_succ]
          refine wpG_pure (i := 9) (oi := { dst := some 47, op := Go.Op.fieldAddr 28 (Go.Operand.tmp 3) 1, type := 0, pos := "l12_machine.go:187", after := #[{ on := 8, ground := Go.Ground.guard }], guard := some (8, true) }) (v := ?vg30) rfl (by kernel_rfl) (fun _ _ _ h => h) (Or.inr hHeld) (Or.inl ⟨by rfl, ?yg30⟩) ?_
          case yg30 => (intro wS _; go_simp <;> with_reducible rfl)
          try simp only [Act.put, List.setIfInBounds_toArray, List.set_cons_zero, List.set_cons_succ]
          refine wpG_load (i := 10) (oi := { dst := some 48, op := Go.Op.load 23 (Go.Operand.tmp 47), type := 23, pos := "l12_machine.go:187", after := #[{ on := 9, ground := Go.Ground.data }, { on := 8, ground := Go.Ground.guard }], guard := some (8, true) }) (v := ?vg31) [[17, 16, 15, 14, 13, 10]] rfl (by kernel_rfl) (fun _ _ _ h => h) hHeld (Or.inl ⟨by rfl, ?yg31⟩) ?_
          case yg31 => (intro wS hSw; (try dsimp only at hSw); go_simp <;> with_reducible rfl)
          try simp only [Act.put, List.setIfInBounds_toArray, List.set_cons_zero, List.set_cons_succ]
          refine wpG_pure (i := 11) (oi := { dst := some 49, op := Go.Op.fieldAddr 71 (Go.Operand.tmp 10) 1, type := 0, pos := "l12_machine.go:187", after := #[{ on := 8, ground := Go.Ground.guard }], guard := some (8, true) }) (v := ?vg32) rfl (by kernel_rfl) (fun _ _ _ h => h) (Or.inr hHeld) (Or.inl ⟨by rfl, ?yg32⟩) ?_
          case yg32 => (intro wS _; go_simp <;> with_reducible rfl)
          try simp only [Act.put, List.setIfInBounds_toArray, List.set_cons_zero, List.set_cons_succ]
          refine wpG_load (i := 12) (oi := { dst := some 50, op := Go.Op.load 3 (Go.Operand.tmp 49), type := 3, pos := "l12_machine.go:187", after := #[{ on := 11, ground := Go.Ground.data }, { on := 8, ground := Go.Ground.guard }], guard := some (8, true) }) (v := ?vg33) [[17, 16, 15, 14, 13, 12]] rfl (by kernel_rfl) (fun _ _ _ h => h) hHeld (Or.inl ⟨by rfl, ?yg33⟩) ?_
          case yg33 => (intro wS hSw; (try dsimp only at hSw); go_simp <;> with_reducible rfl)
          try simp only [Act.put, List.setIfInBounds_toArray, List.set_cons_zero, List.set_cons_succ]
          refine wpG_pure (i := 13) (oi := { dst := some 51, op := Go.Op.indexAddr 23 (Go.Operand.tmp 48) (Go.Operand.tmp 50), type := 0, pos := "l12_machine.go:187", after := #[{ on := 10, ground := Go.Ground.data }, { on := 12, ground := Go.Ground.data }, { on := 8, ground := Go.Ground.guard }], guard := some (8, true) }) (v := ?vg34) rfl (by kernel_rfl) (fun _ _ _ h => h) (Or.inr hHeld) (Or.inl ⟨by rfl, ?yg34⟩) ?_
          case yg34 => (intro wS _; go_simp <;> with_reducible rfl)
          try simp only [Act.put, List.setIfInBounds_toArray, List.set_cons_zero, List.set_cons_succ]
          refine wpG_load (i := 14) (oi := { dst := some 52, op := Go.Op.load 4 (Go.Operand.tmp 51), type := 4, pos := "l12_machine.go:187", after := #[{ on := 13, ground := Go.Ground.data }, { on := 8, ground := Go.Ground.guard }], guard := some (8, true) }) (v := ?vg35) [[17, 16, 15, 14]] rfl (by kernel_rfl) (fun _ _ _ h => h) hHeld (Or.inl ⟨by rfl, ?yg35⟩) ?_
          case yg35 => (intro wS hSw; (try dsimp only at hSw); go_simp <;> with_reducible rfl)
          try simp only [Act.put, List.setIfInBounds_toArray, List.set_cons_zero, List.set_cons_succ]
          refine wpG_pure (i := 15) (oi := { dst := some 53, op := Go.Op.pick (Go.Operand.tmp 46) (Go.Operand.tmp 52) (Go.Operand.const (Go.Value.bool false)), type := 4, pos := "l12_machine.go:187", after := #[{ on := 8, ground := Go.Ground.data }, { on := 14, ground := Go.Ground.data }], guard := none }) (v := ?vg36) rfl (by kernel_rfl) (fun _ _ _ h => h) (Or.inr hHeld) (Or.inl ⟨by rfl, ?yg36⟩) ?_
          case yg36 => (intro wS _; go_simp <;> with_reducible rfl)
          try simp only [Act.put, List.setIfInBounds_toArray, List.set_cons_zero, List.set_cons_succ]
          refine wpG_one (i := 16) (o := { dst := some 54, op := Go.Op.buildSlice 23 1 #[(0, Go.Operand.tmp 53)], type := 23, pos := "l12_machine.go:187", after := #[{ on := 15, ground := Go.Ground.data }], guard := none }) rfl (by kernel_rfl) (fun K hK => ?_)
          go_simp
          have LT_61 : Hid (∀ b ∈ fp2, b < wz.heap.size) := Lib.hid (fun b hm => by have := (BD_59.out.lt kBool_ok b hm); first | exact this | omega | (simp at this; omega))
          have hb_62 : Below wz.drew.heap.size wz.drew (wz.alloc (.cells #[.bool v] 4)).drew := below_alloc_drew _ _
          have hz_63 : wz.heap.size ≤ wz.heap.size + 1 := by have := (hb_62).size; first | omega | (simp at this; omega)
          have c_64 : (wz.alloc (.cells #[.bool v] 4)).drew.cell? ⟨w4.heap.size, 0, none⟩ = some (.slice ag L.length cg) := below_later hb_62 c_49; clear c_49
          have c_65 : (wz.alloc (.cells #[.bool v] 4)).drew.cell? ⟨w4.heap.size, 1, none⟩ = some (v2) := below_later hb_62 c_50; clear c_50
          have z_66 : (wz.alloc (.cells #[.bool v] 4)).drew.frozen? ⟨w4.heap.size, 1, none⟩ = false := (Below.frozen hb_62 (p := ⟨w4.heap.size, 1, none⟩) (by show w4.heap.size < _; first | omega | (simp; done) | (simp; omega))).trans z_51
          have c_67 : (wz.alloc (.cells #[.bool v] 4)).drew.cell? ⟨w.heap.size, 1, none⟩ = some (.slice (some ⟨bA, fA, none⟩) A.2.length ebc) := below_later hb_62 c_52; clear c_52
          have c_68 : (wz.alloc (.cells #[.bool v] 4)).drew.cell? ⟨bA, fA + x.toNat, none⟩ = some (.bool true) := below_later hb_62 c_53; clear c_53
          have c_69 : (wz.alloc (.cells #[.bool v] 4)).drew.cell? ⟨(w.heap.size + 1), 1, none⟩ = some (.slice (some ⟨bB, fB, none⟩) B.2.length edc) := below_later hb_62 c_54; clear c_54
          have c_70 : (wz.alloc (.cells #[.bool v] 4)).drew.cell? ⟨bB, fB + y.toNat, none⟩ = some (.bool v) := below_later hb_62 c_55; clear c_55
          have c_71 : (wz.alloc (.cells #[.bool v] 4)).drew.cell? ⟨B15, 0, none⟩ = some (.int .i64 x) := below_later hb_62 c_56; clear c_56
          have c_72 : (wz.alloc (.cells #[.bool v] 4)).drew.cell? ⟨B15, 1, none⟩ = some (.int .i64 y) := below_later hb_62 c_57; clear c_57
          have hz_73 : w4.heap.size + 1 ≤ wz.heap.size + 1 := Nat.le_trans hz_58 hz_63
          have BD_74 := Lib.hid (BD_59.out.later kBool_ok hb_62)
          have BL_75 := Lib.hid (Below.trans BL_60.out (Below.mono hb_62 (by have := (BL_60.out).size; first | omega | (simp at this; omega) | (simp at this ⊢; omega))))
          clear hb_62
          have c_76 : (wz.alloc (.cells #[.bool v] 4)).drew.cell? ⟨wz.heap.size, 0, none⟩ = some (.bool v) := by go_simp
          have z_77 : (wz.alloc (.cells #[.bool v] 4)).drew.frozen? ⟨wz.heap.size, 0, none⟩ = false := by go_simp
          have hz_78 : wz.heap.size < wz.heap.size + 1 := by omega
          have ND_79 : Hid (∀ b ∈ [wz.heap.size], b ∉ fp2) := Lib.hid (by intro b hb hm; simp only [List.mem_singleton] at hb; subst hb; have := (LT_61.out _ hm); first | omega | (simp at this; omega))
          refine hK.out _ _ (Or.inr ?khHeld37) (fun hHeld37S => ?_)
          case khHeld37 => exact ⟨c_65, c_67, c_68, c_69, c_70, c_71, c_72⟩
          have hHeld37 := hHeld37S.held (by kernel_rfl)
          clear hK K
          try simp only [Act.put, List.setIfInBounds_toArray, List.set_cons_zero, List.set_cons_succ]
          refine wpG_one (i := 17) (o := { dst := some 55, op := Go.Op.call { callee := Go.Callee.builtin Go.Builtin.append, args := #[Go.Operand.tmp 39, Go.Operand.tmp 54], argTypes := #[23, 23] }, type := 23, pos := "l12_machine.go:187", after := #[{ on := 1, ground := Go.Ground.data }, { on := 16, ground := Go.Ground.data }, { on := 8, ground := Go.Ground.chain }], guard := none }) rfl (by kernel_rfl) (fun K hK => ?_)
          obtain ⟨vss_80, fps_80, hrow, howl, hfp, hnd, hge⟩ := BD_74.out
          rw [HLT2.out] at hrow
          have ROW_80 := Lib.hid hrow; have OWL_80 := Lib.hid howl; have NDU_80 := Lib.hid (hfp ▸ hnd); have GE_80 := Lib.hid (fun b hb => hge b (hfp ▸ hb)); have FPE_80 := Lib.hid hfp; clear hrow howl hnd hge hfp
          refine step_append_lies _ rfl (.tmp 39) (.tmp 54) 23 rfl (w4.heap.size + 1) 4 i2 (.bool false) 1 1 Try.underlying23 hi2 hx0 hx1 hx2 rfl (by decide) v2 i vss_80.flatten rfl ROW_80.out ⟨wz.heap.size, 0, none⟩ 1 1 [.bool v] rfl rfl (news_at c_76) (by simp [Value.oneCell']) (by omega) HC5.out HC6.out (by first | omega | (simp; omega)) _ rfl ?_
          intro g9 cp9 w9 hown hgrow hat hlt4
          have HG_81 := Lib.hid hgrow; have HATHG_81 := Lib.hid hat; have HONHG_81 := Lib.hid hown
          clear hgrow hat hown
          have hz_82 : wz.heap.size + 1 ≤ w9.heap.size := by have := HG_81.out.size; first | omega | (simp at this; omega)
          have LT_83 : Hid (∀ b ∈ fp2, b < wz.heap.size + 1) := Lib.hid (fun b hm => by have := (BD_74.out.lt kBool_ok b hm); first | exact this | omega | (simp at this; omega))
          have BD_84 := Lib.hid (Bd.app HLT2.out kBool_ok ROW_80.out OWL_80.out NDU_80.out GE_80.out ⟨rfl, rfl, trivial⟩ List.nodup_nil (fun b hb => absurd hb (by simp)) (fun b hb => absurd hb (by simp)) HONHG_81.out HG_81.out HATHG_81.out (by first | omega | (simp; done) | (simp; omega)))
          have c_85 : w9.cell? ⟨w4.heap.size, 0, none⟩ = some (.slice ag L.length cg) := BD_74.out.cell_grown HG_81.out c_64 (by first | omega | (simp; done) | (simp; omega))
          have c_86 : w9.cell? ⟨w4.heap.size, 1, none⟩ = some (v2) := BD_74.out.cell_grown HG_81.out c_65 (by first | omega | (simp; done) | (simp; omega))
          have z_87 : w9.frozen? ⟨w4.heap.size, 1, none⟩ = false := BD_74.out.frozen_grown HG_81.out (by first | omega | (simp; done) | (simp; omega)) z_66 (by first | omega | (simp; done) | (simp; omega))
          have hz_88 : w4.heap.size + 1 ≤ w9.heap.size := Nat.le_trans hz_73 hz_82
          have BL_89 := Lib.hid (Below.grown BL_75.out HG_81.out (by have := (BL_75.out).size; first | omega | (simp at this; omega) | (simp at this ⊢; omega)) (fun k hk => Nat.le_trans (by first | omega | (simp; done) | (simp; omega)) (BD_74.out.own_ge k hk)))
          have c_90 : w9.cell? ⟨wz.heap.size, 0, none⟩ = some (.bool v) := (HG_81.out.cell_far ⟨wz.heap.size, 0, none⟩ (World.block_lt_of_cell? _ _ c_76) (fun he => ND_79.out _ (by simp) (BD_74.out.own_mem _ he.symm))).trans c_76
          have z_91 : w9.frozen? ⟨wz.heap.size, 0, none⟩ = false := (HG_81.out.frozen_far ⟨wz.heap.size, 0, none⟩ (by first | omega | (simp; done) | (simp; omega)) (fun he => ND_79.out _ (by simp) (BD_74.out.own_mem _ he.symm))).trans z_77
          have hz_92 : wz.heap.size + 1 ≤ w9.heap.size := Nat.le_trans hz_78 hz_82
          refine hK.out _ _ (Or.inl (by kernel_rfl)) (fun _ => ?_)
          clear hK K
          try simp only [Act.put, List.setIfInBounds_toArray, List.set_cons_zero, List.set_cons_succ]
          refine wpG_pure (i := 18) (oi := { dst := some 56, op := Go.Op.fieldAddr 28 (Go.Operand.tmp 8) 1, type := 0, pos := "l12_machine.go:187", after := #[{ on := 0, ground := Go.Ground.phase }, { on := 1, ground := Go.Ground.phase }, { on := 2, ground := Go.Ground.phase }, { on := 3, ground := Go.Ground.phase }, { on := 4, ground := Go.Ground.phase }, { on := 5, ground := Go.Ground.phase }, { on := 6, ground := Go.Ground.phase }, { on := 7, ground := Go.Ground.phase }, { on := 8, ground := Go.Ground.phase }, { on := 9, ground := Go.Ground.phase }, { on := 10, ground := Go.Ground.phase }, { on := 11, ground := Go.Ground.phase }, { on := 12, ground := Go.Ground.phase }, { on := 13, ground := Go.Ground.phase }, { on := 14, ground := Go.Ground.phase }, { on := 15, ground := Go.Ground.phase }, { on := 16, ground := Go.Ground.phase }, { on := 17, ground := Go.Ground.phase }], guard := none }) (v := ?vg39) rfl (by kernel_rfl) (fun _ _ _ h => h) (Or.inl (by kernel_rfl)) (Or.inl ⟨by rfl, ?yg39⟩) ?_
          case yg39 => (intro wS _; go_simp <;> with_reducible rfl)
          try simp only [Act.put, List.setIfInBounds_toArray, List.set_cons_zero, List.set_cons_succ]
          refine wpG_one (i := 19) (o := { dst := none, op := Go.Op.store 23 (Go.Operand.tmp 56) (Go.Operand.tmp 55), type := 0, pos := "l12_machine.go:187", after := #[{ on := 18, ground := Go.Ground.data }, { on := 17, ground := Go.Ground.data }, { on := 17, ground := Go.Ground.chain }, { on := 0, ground := Go.Ground.phase }, { on := 1, ground := Go.Ground.phase }, { on := 2, ground := Go.Ground.phase }, { on := 3, ground := Go.Ground.phase }, { on := 4, ground := Go.Ground.phase }, { on := 5, ground := Go.Ground.phase }, { on := 6, ground := Go.Ground.phase }, { on := 7, ground := Go.Ground.phase }, { on := 8, ground := Go.Ground.phase }, { on := 9, ground := Go.Ground.phase }, { on := 10, ground := Go.Ground.phase }, { on := 11, ground := Go.Ground.phase }, { on := 12, ground := Go.Ground.phase }, { on := 13, ground := Go.Ground.phase }, { on := 14, ground := Go.Ground.phase }, { on := 15, ground := Go.Ground.phase }, { on := 16, ground := Go.Ground.phase }, { on := 17, ground := Go.Ground.phase }], guard := none }) rfl (by kernel_rfl) (fun K hK => ?_)
          go_simp
          refine hK.out _ _ (Or.inl (by kernel_rfl)) (fun _ => ?_)
          clear hK K
          try simp only [Act.put, List.setIfInBounds_toArray, List.set_cons_zero, List.set_cons_succ]
          refine wpG_done (by kernel_rfl) ?_
          go_wp2_with fail
          go_roundw
          case rel =>
            have hb2 := BD_84.out.setCell kBool_ok (a := ⟨w4.heap.size, 1, none⟩) (by show w4.heap.size < w4.heap.size + 1; omega) (.slice (some ⟨g9, 0, none⟩) (i + 1) cp9)
            rw [HT2.out v rfl] at hb2
            exact ⟨i + 1, _, _, by omega, by go_num, Lib.hid ⟨by go_simp, by go_simp, by go_simp, by rw [World.size_setCell]; omega⟩, Lib.hid hb2, Lib.hid (BL_89.out.setCell (p := ⟨w4.heap.size, 1, none⟩) (Nat.le_refl _) _)⟩
          case measure => (simp [intOf]; try omega)
end Go.Proofs.Ytedjahinlpehgaa
