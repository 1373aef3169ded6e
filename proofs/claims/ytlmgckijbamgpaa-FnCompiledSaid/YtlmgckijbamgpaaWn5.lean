/- Whether a filter is good: the program's contract. -/
import Derived.Test.YtlmgckijbamgpaaWn4
import Derived.Test.YtlmgckijbamgpaaKind
namespace Go.Proofs.Ytlmgckijbamgpaa
set_option linter.unusedVariables false
set_option linter.unusedSimpArgs false
open Go.ChangeShapes Go.WideShapes Go.ChangeAt Go.RowKit
set_option maxRecDepth 100000

theorem usesW0 (l : List Wn) (n : Nat) : usesW (l.take 0) n = List.replicate n 0 := rfl
theorem R_Good_yes {l : List Wn} (h1 : 1 ≤ l.length ∧ l.length ≤ 20) (h : okAll l 0 = true) : R_GoodW l = !(((usesW l l.length).take (l.length - 1)).any fun x => !(x == 1)) := by
  unfold R_GoodW
  rw [decide_eq_true h1, h, Bool.true_and, Bool.true_and, List.all_eq_not_any_not]
theorem R_Good_no1 {l : List Wn} (h1 : ¬ (1 ≤ l.length ∧ l.length ≤ 20)) : R_GoodW l = false := by unfold R_GoodW; rw [decide_eq_false h1, Bool.false_and]
theorem R_Good_no2 {l : List Wn} (h : okAll l 0 = false) : R_GoodW l = false := by unfold R_GoodW; rw [h, Bool.false_and, Bool.and_false]
theorem fold_next {L : List Int} {j : Nat} {x : Int} (u : List Int) (h : L[j]? = some x) : (L.take (j + 1)).foldl bump u = bump ((L.take j).foldl bump u) x := by
  obtain ⟨hj, rfl⟩ := List.getElem?_eq_some_iff.1 h
  rw [List.take_succ_eq_append_getElem hj, List.foldl_append]; rfl
theorem getD_bd {u : List Int} {m : Int} (h : ∀ x ∈ u, 0 ≤ x ∧ x ≤ m) (hm : 0 ≤ m) (k : Nat) : 0 ≤ u.getD k 0 ∧ u.getD k 0 ≤ m := by
  rcases Nat.lt_or_ge k u.length with hk | hk
  · have := h _ (List.getElem_mem hk)
    simp only [List.getD, List.getElem?_eq_getElem hk, Option.getD_some]; omega
  · simp only [List.getD, List.getElem?_eq_none hk, Option.getD_none]; omega
set_option maxHeartbeats 4000000 in
theorem impl_GoodFilter (la : Option Addr) (lc : Nat) (l : List Wn) (w : World) (hrow : Rw w la (wnsV l)) (hn : l.length ≤ 1048576) : Calls Try.prog 48 #[.agg #[.slice la l.length lc]] w fun e w' => e = .returned (.bool (R_GoodW l)) ∧ Below w.heap.size w w' := by
  obtain ⟨i0, hi, hz0, hz1, hz2⟩ := info_parts Try.infoInt
  have HW := Lib.hid (fun wx => impl_within (l.length : Int) 1 20 wx)
  by_cases hin : 1 ≤ l.length ∧ l.length ≤ 20
  case neg =>
    rw [inR_f.2 (show ¬ ((1 : Int) ≤ (l.length : Int) ∧ (l.length : Int) ≤ 20) by omega)] at HW
    rw [R_Good_no1 hin]
    clear hin
    have HB := Lib.hid ((Below.refl w.heap.size w).alloc (Nat.le_refl _) (.cells #[.slice la l.length lc] 61))
    go_enter Try.func48, Try.ntmps48
    go_wp2_with (refine (HW.out _).mono ?_; rintro e w' ⟨rfl, rfl⟩)
    go_ret
    exact ⟨rfl, HB.out⟩
  rw [inR_iff.2 (show ((1 : Int) ≤ (l.length : Int) ∧ (l.length : Int) ≤ 20) by omega)] at HW
  have HY := Lib.hid (R_Good_yes hin)
  have HN2 := Lib.hid (fun h => R_Good_no2 (l := l) h)
  generalize R_GoodW l = R at *
  have HROW := Lib.hid hrow
  have HLE := Lib.hid (fun k w0 h => okAll_at l 0 k w0 h)
  have HNO := Lib.hid (fun k w0 => @okAll_no l k w0)
  have HNX := Lib.hid (fun k w0 => @okAll_next l k w0)
  have HBD := Lib.hid (fun k j L => usesW_bd (l.take k) j L)
  have HUX := Lib.hid (fun k n w0 => @usesW_next l k n w0)
  obtain ⟨n, hnn⟩ : ∃ n, l.length = n := ⟨_, rfl⟩
  have HLN := Lib.hid hnn
  rw [hnn] at HW HY hin
  rw [hnn]
  clear hrow hn hnn
  have hin1 := hin.1
  have hin2 := hin.2
  clear hin
  go_enter Try.func48, Try.ntmps48
  go_wp2_with fail
  refine (HW.out _).mono ?_
  rintro e wq ⟨rfl, rfl⟩
  have HA := Lib.hid (heap_alloc_new w (.cells #[.slice la n lc] 61))
  have HB1 := Lib.hid ((Below.refl w.heap.size w).alloc (Nat.le_refl _) (.cells #[.slice la n lc] 61))
  have hg1 : w.heap.size < (w.alloc (.cells #[.slice la n lc] 61)).heap.size := by simp
  generalize w.alloc (.cells #[.slice la n lc] 61) = w1 at *
  have y0 : w1.cell? ⟨w.heap.size, 0, none⟩ = some (.slice la n lc) := by simp [World.cell?, HA.out]
  go_wp2_with (at_make; refine wpList_make_full _ rfl _ _ _ rfl w1.heap.size 3 i0 (.int .i64 0) 1 Try.underlying26 hi hz0 hz1 .i64 .i64 _ _ n rfl rfl rfl rfl (by rw [hz2]; omega) (by unfold maxLen; omega) (Nat.le_refl _) ?_)
  intro w2 hown hgrow
  have HU : Hid (UsS w1 w1.heap.size n (usesW (l.take 0) n) w2) := Lib.hid ⟨by rw [usesW0, ints_rep1, ← toList_madeCells_one]; exact hown, (Below.refl _ _).grown hgrow (Nat.le_refl _) (by simp)⟩
  have y2 : w2.cell? ⟨w.heap.size, 0, none⟩ = some (.slice la n lc) := below_cellk HU.out.bel y0 hg1
  clear hown hgrow
  go_wp2_with fail
  go_loopw [20] (fun iv wr => ∃ k : Nat, k ≤ n ∧ iv = .int .i64 (k : Int) ∧ Hid (okAll (l.take k) 0 = true) ∧ Hid (UsS w1 w1.heap.size n (usesW (l.take k) n) wr)) (fun iv _ => n - (intOf iv).toNat)
  case atStart => exact ⟨0, Nat.zero_le _, rfl, Lib.hid rfl, HU⟩
  case round =>
    clear HU y2 y0
    obtain ⟨wx, rfl⟩ : ∃ z : World, z = wr := ⟨_, rfl⟩
    obtain ⟨k, hk, rfl, HOK, HU⟩ := hrel
    have hgx : w1.heap.size < wx.heap.size := HU.out.lt
    have HBX := Lib.hid (HB1.out.trans (HU.out.bel.mono (by omega)))
    by_cases hkn : k < n
    case neg =>
      obtain rfl : k = n := by omega
      have hb1 : IntKind.i64.wrap ((k : Int) - 1) = (k : Int) - 1 := IntWalk.i64_in _ (by omega)
      have hb2 : ((k : Int) - 1).toNat = k - 1 := by omega
      have hb3 : (0 : Int) ≤ (k : Int) - 1 := by omega
      have hb4 : (k : Int) - 1 ≤ (k : Int) := by omega
      have hok : okAll l 0 = true := by have := HOK.out; rwa [← HLN.out, List.take_length] at this
      have hul : l.take k = l := by rw [← HLN.out, List.take_length]
      have HU2 := HU.out
      rw [hul] at HU2
      have hRR := HY.out hok
      have hlen : ((usesW l k).take (k - 1)).length = k - 1 := by rw [List.length_take, usesW_len]; omega
      have hrw : Rw wx (some ⟨w1.heap.size, 0, none⟩) (ints ((usesW l k).take (k - 1))) := by
        have := (own_rw HU2.own).take (k - 1)
        rwa [show (ints (usesW l k)).take (k - 1) = ints ((usesW l k).take (k - 1)) by simp [ints, List.map_take]] at this
      have HH := Lib.hid (has_use (w := wx) (some ⟨w1.heap.size, 0, none⟩) k _ hrw (by omega))
      rw [hlen] at HH
      clear hrw hlen HU2 HU hok hul HOK HY HN2
      generalize ((usesW l k).take (k - 1)).any (fun x => !(x == 1)) = r at *
      subst hRR
      go_wp2_with (refine HH.out.mono ?_; rintro e w' ⟨rfl, rfl⟩)
      go_ret
      exact ⟨rfl, HBX.out⟩
    obtain ⟨f, hf⟩ : ∃ f, l[k]? = some f := ⟨l[k]'(by have := HLN.out; omega), List.getElem?_eq_getElem _⟩
    have HF := Lib.hid hf
    obtain ⟨b, off, rfl, hbx, hbw, c0, c1, c2, c3, c4, c5⟩ := row6 HROW.out HBX.out hf
    clear hf
    obtain ⟨kd, no, nm, tx, fa, fb⟩ := f
    simp only at c0 c1 c2 c3 c4 c5
    have HA2 := Lib.hid (heap_alloc_new wx (.cells #[.int .i64 kd, .int .i64 no, .int .i64 nm, .string tx, .int .i64 fa, .int .i64 fb] 134))
    have HU2 := Lib.hid (HU.out.step ((Below.refl _ _).alloc (Nat.le_refl _) (.cells #[.int .i64 kd, .int .i64 no, .int .i64 nm, .string tx, .int .i64 fa, .int .i64 fb] 134)))
    have HBY := Lib.hid (HBX.out.alloc HBX.out.size (.cells #[.int .i64 kd, .int .i64 no, .int .i64 nm, .string tx, .int .i64 fa, .int .i64 fb] 134))
    have hsy : wx.heap.size < (wx.alloc (.cells #[.int .i64 kd, .int .i64 no, .int .i64 nm, .string tx, .int .i64 fa, .int .i64 fb] 134)).heap.size := by simp
    generalize hwy : wx.alloc (.cells #[.int .i64 kd, .int .i64 no, .int .i64 nm, .string tx, .int .i64 fa, .int .i64 fb] 134) = wy at *
    obtain ⟨y0, y1, y2, y3, y4, y5⟩ := box6 HA2.out
    have HWO := Lib.hid (impl_wantOK kd no nm tx fa fb k wy (by omega))
    cases hok : okW ⟨kd, no, nm, tx, fa, fb⟩ k with
    | false =>
      rw [hok] at HWO
      obtain rfl : R = false := HN2.out (HNO.out k _ HF.out hok)
      clear hok
      go_wp2_with (refine HWO.out.mono ?_; rintro e w3 ⟨rfl, hb⟩; have HBZ := Lib.hid (rstep HBY.out hb); clear hb)
      go_ret
      exact ⟨rfl, HBZ.out⟩
    | true =>
      rw [hok] at HWO
      have HOK2 := Lib.hid (HNX.out k _ HOK.out HF.out hok)
      have HPL := Lib.hid (parts_lt (of_decide_eq_true hok))
      clear hok
      go_wp2_with fail
      refine HWO.out.mono ?_
      rintro e w3 ⟨rfl, hb⟩
      have HBZ := Lib.hid (rstep HBY.out hb)
      have HU3 := Lib.hid (HU2.out.step hb)
      have hs3 := hb.size
      obtain ⟨z0, z1, z2, z3, z4, z5⟩ := box6 (heap_keep hb HA2.out)
      clear hb y0 y1 y2 y3 y4 y5 c0 c1 c2 c3 c4 c5
      go_wp2_with fail
      refine (impl_parts kd no nm tx fa fb w3).mono ?_
      rintro e w4 ⟨pv, rfl, hop, hb⟩
      have HU4 := Lib.hid (HU3.out.step hb)
      clear z0 z1 z2 z3 z4 z5
      have hs4 := hb.size
      have hgp := HU3.out.lt
      have HUX2 := Lib.hid (HUX.out k n _ HF.out)
      have hPn := parts_len ⟨kd, no, nm, tx, fa, fb⟩
      generalize partsW ⟨kd, no, nm, tx, fa, fb⟩ = P at *
      obtain ⟨pa, pc, rfl⟩ := form_of_own hop
      have HOP := Lib.hid hop
      have HPB : Hid (∀ b o, pa = some ⟨b, o, none⟩ → w3.heap.size ≤ b) := Lib.hid (fun b o h => (own_base hop h).1)
      clear hop hb
      go_wp2_with fail
      go_loopw [32] (fun jv wr => ∃ j : Nat, j ≤ P.length ∧ jv = .int .i64 (j : Int) ∧ Hid (UsS w1 w1.heap.size n ((P.take j).foldl bump (usesW (l.take k) n)) wr) ∧ Hid (wr.ownsRow w3.heap.size 3 1 (.slice pa P.length pc) P.length (ints P))) (fun jv _ => P.length - (intOf jv).toNat)
      case atStart => exact ⟨0, Nat.zero_le _, rfl, HU4, HOP⟩
      case round =>
        clear HU4 HOP
        obtain ⟨wz, rfl⟩ : ∃ z : World, z = wr := ⟨_, rfl⟩
        obtain ⟨j, hj, rfl, HV, HOP⟩ := hrel
        by_cases hjp : j < P.length
        case neg =>
          obtain rfl : j = P.length := by omega
          have HV2 : Hid (UsS w1 w1.heap.size n (usesW (l.take (k + 1)) n) wz) := Lib.hid (by
            have := HV.out
            rw [List.take_length] at this
            rw [HUX2.out]; exact this)
          go_wp2_with fail
          go_roundw
          case rel => exact ⟨k + 1, by omega, by go_num, HOK2, HV2⟩
          case measure => (simp [intOf]; try omega)
        obtain ⟨x, hx⟩ : ∃ x, P[j]? = some x := ⟨P[j], List.getElem?_eq_getElem hjp⟩
        have hpl := HPL.out x (List.mem_of_getElem? hx)
        obtain ⟨p, rfl⟩ : ∃ p : Nat, x = (p : Int) := ⟨x.toNat, by omega⟩
        have hpn : p < n := by omega
        obtain ⟨u, hu⟩ : ∃ u, (P.take j).foldl bump (usesW (l.take k) n) = u := ⟨_, rfl⟩
        have hbd := getD_bd (HBD.out k n (P.take j)) (by omega) p
        have HFN : Hid ((P.take (j + 1)).foldl bump (usesW (l.take k) n) = u.set p (u.getD p 0 + 1)) := Lib.hid (by rw [fold_next _ hx, hu, bump_at])
        rw [hu] at HV hbd
        have hl1 : (l.take k).length ≤ 20 := by rw [List.length_take]; omega
        have hl2 : (P.take j).length ≤ P.length := by rw [List.length_take]; omega
        obtain ⟨uc, uf⟩ := HV.out.at hpn
        obtain ⟨wA, hA, hU5⟩ := HV.out.put p (u.getD p 0 + 1)
        have HU5 := Lib.hid hU5
        obtain ⟨pb, po, rfl, hpb, hpc⟩ := (own_rw HOP.out).at (fun e => by have := congrArg List.length e; simp at this; rw [this] at hjp; simp at hjp)
        have hpx : wz.cell? ⟨pb, po + j, none⟩ = some (.int .i64 (p : Int)) := hpc j _ (by simp [ints, hx])
        have hne : pb ≠ w1.heap.size := by have := HPB.out pb po rfl; omega
        have HOP2 : Hid (wA.ownsRow w3.heap.size 3 1 (.slice (some ⟨pb, po, none⟩) P.length pc) P.length (ints P)) := Lib.hid (by
          rw [← hA]
          exact Wrote.own (wrote_cell wz w1.heap.size p _) HOP.out (fun q hq => by
            have : q = pb := by simpa [Value.ownBlock] using hq.symm
            omega))
        clear hU5 hpc hu hx
        generalize u.getD p 0 = c at *
        have hcw : IntKind.i64.wrap (c + 1) = c + 1 := IntWalk.i64_in _ (by omega)
        go_wp2_with fail
        go_roundw
        case rel => exact ⟨j + 1, by omega, by go_num, by rw [HFN.out]; exact HU5, HOP2⟩
        case measure => (simp [intOf]; try omega)
set_option maxHeartbeats 4000000 in
theorem spec_GoodFilter (la : Option Addr) (lc : Nat) (l : List Wn) (w : World) (hrow : Rw w la (wnsV l)) (hn : l.length ≤ 1048576) : Calls Try.prog 49 #[.agg #[.slice la l.length lc]] w fun e w' => e = .returned (.bool (R_GoodW l)) ∧ Below w.heap.size w w' := by
  obtain ⟨i0, hi, hz0, hz1, hz2⟩ := info_parts Try.infoInt
  have HW := Lib.hid (fun wx => spec_in (l.length : Int) 1 20 wx)
  by_cases hin : 1 ≤ l.length ∧ l.length ≤ 20
  case neg =>
    rw [inR_f.2 (show ¬ ((1 : Int) ≤ (l.length : Int) ∧ (l.length : Int) ≤ 20) by omega)] at HW
    rw [R_Good_no1 hin]
    clear hin
    have HB := Lib.hid ((Below.refl w.heap.size w).alloc (Nat.le_refl _) (.cells #[.slice la l.length lc] 61))
    go_enter Try.func49, Try.ntmps49
    go_wp2_with (refine (HW.out _).mono ?_; rintro e w' ⟨rfl, rfl⟩)
    go_ret
    exact ⟨rfl, HB.out⟩
  rw [inR_iff.2 (show ((1 : Int) ≤ (l.length : Int) ∧ (l.length : Int) ≤ 20) by omega)] at HW
  have HY := Lib.hid (R_Good_yes hin)
  have HN2 := Lib.hid (fun h => R_Good_no2 (l := l) h)
  generalize R_GoodW l = R at *
  have HROW := Lib.hid hrow
  have HNO := Lib.hid (fun k w0 => @okAll_no l k w0)
  have HNX := Lib.hid (fun k w0 => @okAll_next l k w0)
  have HBD := Lib.hid (fun k j L => usesW_bd (l.take k) j L)
  have HUX := Lib.hid (fun k n w0 => @usesW_next l k n w0)
  obtain ⟨n, hnn⟩ : ∃ n, l.length = n := ⟨_, rfl⟩
  have HLN := Lib.hid hnn
  rw [hnn] at HW HY hin
  rw [hnn]
  clear hrow hn hnn
  have hin1 := hin.1
  have hin2 := hin.2
  clear hin
  go_enter Try.func49, Try.ntmps49
  go_wp2_with fail
  refine (HW.out _).mono ?_
  rintro e wq ⟨rfl, rfl⟩
  have HA := Lib.hid (heap_alloc_new w (.cells #[.slice la n lc] 61))
  have HB1 := Lib.hid ((Below.refl w.heap.size w).alloc (Nat.le_refl _) (.cells #[.slice la n lc] 61))
  have hg1 : w.heap.size < (w.alloc (.cells #[.slice la n lc] 61)).heap.size := by simp
  generalize w.alloc (.cells #[.slice la n lc] 61) = w1 at *
  have y0 : w1.cell? ⟨w.heap.size, 0, none⟩ = some (.slice la n lc) := by simp [World.cell?, HA.out]
  go_wp2_with (at_make; refine wpList_make_full _ rfl _ _ _ rfl w1.heap.size 3 i0 (.int .i64 0) 1 Try.underlying26 hi hz0 hz1 .i64 .i64 _ _ n rfl rfl rfl rfl (by rw [hz2]; omega) (by unfold maxLen; omega) (Nat.le_refl _) ?_)
  intro w2 hown hgrow
  have HU : Hid (UsS w1 w1.heap.size n (usesW (l.take 0) n) w2) := Lib.hid ⟨by rw [usesW0, ints_rep1, ← toList_madeCells_one]; exact hown, (Below.refl _ _).grown hgrow (Nat.le_refl _) (by simp)⟩
  have y2 : w2.cell? ⟨w.heap.size, 0, none⟩ = some (.slice la n lc) := below_cellk HU.out.bel y0 hg1
  clear hown hgrow
  go_wp2_with fail
  go_loopw [20] (fun iv wr => ∃ k : Nat, k ≤ n ∧ iv = .int .i64 (k : Int) ∧ Hid (okAll (l.take k) 0 = true) ∧ Hid (UsS w1 w1.heap.size n (usesW (l.take k) n) wr)) (fun iv _ => n - (intOf iv).toNat)
  case atStart => exact ⟨0, Nat.zero_le _, rfl, Lib.hid rfl, HU⟩
  case round =>
    clear HU y2 y0
    obtain ⟨wx, rfl⟩ : ∃ z : World, z = wr := ⟨_, rfl⟩
    obtain ⟨k, hk, rfl, HOK, HU⟩ := hrel
    have hgx : w1.heap.size < wx.heap.size := HU.out.lt
    have HBX := Lib.hid (HB1.out.trans (HU.out.bel.mono (by omega)))
    by_cases hkn : k < n
    case neg =>
      obtain rfl : k = n := by omega
      have hb1 : IntKind.i64.wrap ((k : Int) - 1) = (k : Int) - 1 := IntWalk.i64_in _ (by omega)
      have hb2 : ((k : Int) - 1).toNat = k - 1 := by omega
      have hb3 : (0 : Int) ≤ (k : Int) - 1 := by omega
      have hb4 : (k : Int) - 1 ≤ (k : Int) := by omega
      have hok : okAll l 0 = true := by have := HOK.out; rwa [← HLN.out, List.take_length] at this
      have hul : l.take k = l := by rw [← HLN.out, List.take_length]
      have HU2 := Lib.hid HU.out
      rw [hul] at HU2
      have hRR := Lib.hid (HY.out hok)
      clear HU hok hul HOK HY HN2
      have HUL := Lib.hid (usesW_len l k)
      generalize usesW l k = U at *
      have HDL : Hid ((U.take (k - 1)).length = k - 1) := Lib.hid (by rw [List.length_take, HUL.out]; omega)
      have HDG : Hid (∀ j, j < k - 1 → (U.take (k - 1)).getD j 0 = U.getD j 0) := Lib.hid (fun j hj => by simp [List.getD, List.getElem?_take, hj])
      generalize U.take (k - 1) = D at *
      go_wp2_with fail
      go_loopw [55] (fun jv wr => ∃ j : Nat, j ≤ k - 1 ∧ jv = .int .i64 (j : Int) ∧ Hid ((D.take j).any (fun x => !(x == 1)) = false) ∧ wx = wr) (fun jv _ => k - 1 - (intOf jv).toNat)
      case atStart => exact ⟨0, Nat.zero_le _, rfl, Lib.hid rfl, rfl⟩
      case round =>
        obtain ⟨j, hj, rfl, HJ, rfl⟩ := hrel
        by_cases hjn : j < k - 1
        case neg =>
          obtain rfl : j = k - 1 := by omega
          have hr : D.any (fun x => !(x == 1)) = false := by have := HJ.out; rwa [← HDL.out, List.take_length] at this
          obtain rfl : R = true := by rw [hRR.out, hr]; rfl
          clear hr
          go_wp2_with fail
          go_ret
          exact ⟨rfl, HBX.out⟩
        obtain ⟨uc, uf⟩ := HU2.out.at (show j < k by omega)
        have HNJ := Lib.hid (fun h => fidx_next (fun x => !(x == 1)) D 0 j (by have := HDL.out; omega) HJ.out h)
        have HYJ : Hid ((fun x : Int => !(x == 1)) (D.getD j 0) = true → D.any (fun x => !(x == 1)) = true) := Lib.hid (fun h => (fidx_any _ _).1 (by rw [fidx_here (fun x => !(x == 1)) D 0 j (by have := HDL.out; omega) HJ.out h]; omega))
        rw [HDG.out j hjn] at HNJ HYJ
        generalize U.getD j 0 = x at *
        by_cases hx1 : x = 1
        · subst hx1
          go_wp2_with fail
          go_roundw
          case rel => exact ⟨j + 1, by omega, by go_num, Lib.hid (HNJ.out rfl), (by first | trivial | rfl)⟩
          case measure => (simp [intOf]; try omega)
        · have hxe := kind_eq hx1
          obtain rfl : R = false := by rw [hRR.out, HYJ.out (by simp [hxe])]; rfl
          go_wp2_with fail
          go_ret
          exact ⟨rfl, HBX.out⟩
    obtain ⟨f, hf⟩ : ∃ f, l[k]? = some f := ⟨l[k]'(by have := HLN.out; omega), List.getElem?_eq_getElem _⟩
    have HF := Lib.hid hf
    obtain ⟨b, off, rfl, hbx, hbw, c0, c1, c2, c3, c4, c5⟩ := row6 HROW.out HBX.out hf
    clear hf
    obtain ⟨kd, no, nm, tx, fa, fb⟩ := f
    simp only at c0 c1 c2 c3 c4 c5
    have HA2 := Lib.hid (heap_alloc_new wx (.cells #[.int .i64 kd, .int .i64 no, .int .i64 nm, .string tx, .int .i64 fa, .int .i64 fb] 134))
    have HU2 := Lib.hid (HU.out.step ((Below.refl _ _).alloc (Nat.le_refl _) (.cells #[.int .i64 kd, .int .i64 no, .int .i64 nm, .string tx, .int .i64 fa, .int .i64 fb] 134)))
    have HBY := Lib.hid (HBX.out.alloc HBX.out.size (.cells #[.int .i64 kd, .int .i64 no, .int .i64 nm, .string tx, .int .i64 fa, .int .i64 fb] 134))
    have hsy : wx.heap.size < (wx.alloc (.cells #[.int .i64 kd, .int .i64 no, .int .i64 nm, .string tx, .int .i64 fa, .int .i64 fb] 134)).heap.size := by simp
    generalize hwy : wx.alloc (.cells #[.int .i64 kd, .int .i64 no, .int .i64 nm, .string tx, .int .i64 fa, .int .i64 fb] 134) = wy at *
    obtain ⟨y0, y1, y2, y3, y4, y5⟩ := box6 HA2.out
    have HWO := Lib.hid (spec_l7Want kd no nm tx fa fb k wy (by omega))
    cases hok : okW ⟨kd, no, nm, tx, fa, fb⟩ k with
    | false =>
      rw [hok] at HWO
      obtain rfl : R = false := HN2.out (HNO.out k _ HF.out hok)
      clear hok
      go_wp2_with (refine HWO.out.mono ?_; rintro e w3 ⟨rfl, hb⟩; have HBZ := Lib.hid (rstep HBY.out hb); clear hb)
      go_ret
      exact ⟨rfl, HBZ.out⟩
    | true =>
      rw [hok] at HWO
      have HOK2 := Lib.hid (HNX.out k _ HOK.out HF.out hok)
      have hokW : OkW ⟨kd, no, nm, tx, fa, fb⟩ k := of_decide_eq_true hok
      have HUX2 := HUX.out k n _ HF.out
      clear hok
      have hl1 : (l.take k).length ≤ 20 := by rw [List.length_take]; omega
      by_cases h67 : kd = 6 ∨ kd = 7
      · have hp : partsW ⟨kd, no, nm, tx, fa, fb⟩ = [fa, fb] := if_pos h67
        have hab : 0 ≤ fa ∧ fa < fb ∧ fb < (k : Int) := by
          unfold OkW TestW at hokW
          simp only at hokW
          omega
        obtain ⟨p, rfl⟩ : ∃ p : Nat, fa = (p : Int) := ⟨fa.toNat, by omega⟩
        obtain ⟨q, rfl⟩ : ∃ q : Nat, fb = (q : Int) := ⟨fb.toNat, by omega⟩
        have hpn : p < n := by omega
        have hqn : q < n := by omega
        have HUX3 : Hid (usesW (l.take (k + 1)) n = bump (bump (usesW (l.take k) n) (p : Int)) (q : Int)) := Lib.hid (by rw [HUX2, hp]; rfl)
        have hb1 := getD_bd (HBD.out k n []) (by omega) p
        have hb2 := getD_bd (HBD.out k n [(p : Int)]) (by simp; omega) q
        simp only [List.foldl_cons, List.foldl_nil, List.length_nil, List.length_cons] at hb1 hb2
        have HK2 := Lib.hid (fun wx => spec_in kd 6 7 wx)
        rw [inR_iff.2 (show (6 : Int) ≤ kd ∧ kd ≤ 7 by omega)] at HK2
        have hk6 : (6 : Int) ≤ kd := by omega
        clear hp hab hokW h67 HUX2
        generalize usesW (l.take k) n = u at *
        go_wp2_with fail
        refine HWO.out.mono ?_
        rintro e w3 ⟨rfl, hb⟩
        have HU3 := Lib.hid (HU2.out.step hb)
        have hs3 := hb.size
        have HA3 := Lib.hid (heap_keep hb HA2.out)
        obtain ⟨z0, z1, z2, z3, z4, z5⟩ := box6 HA3.out
        clear hb y0 y1 y2 y3 y4 y5 c0 c1 c2 c3 c4 c5
        obtain ⟨uc, uf⟩ := HU3.out.at hpn
        obtain ⟨wA, hA, hU4⟩ := HU3.out.put p (u.getD p 0 + 1)
        have HU4 := Lib.hid hU4
        have HWA : Hid (Wrote (fun b => b = w1.heap.size) w3 wA) := Lib.hid (by rw [← hA]; exact wrote_cell w3 w1.heap.size p _)
        have t0 := HWA.out.cell z0 (by omega)
        have t4 := HWA.out.cell z4 (by omega)
        have t5 := HWA.out.cell z5 (by omega)
        obtain ⟨vc, vf⟩ := HU4.out.at hqn
        obtain ⟨wC, hC, hU5⟩ := HU4.out.put q ((u.set p (u.getD p 0 + 1)).getD q 0 + 1)
        have HU5 := Lib.hid hU5
        rw [bump_at] at hb2
        have HFIN : Hid (usesW (l.take (k + 1)) n = (u.set p (u.getD p 0 + 1)).set q ((u.set p (u.getD p 0 + 1)).getD q 0 + 1)) := Lib.hid (by rw [HUX3.out, bump_at, bump_at])
        clear hU4 hU5
        generalize (u.set p (u.getD p 0 + 1)).getD q 0 = d at *
        generalize u.getD p 0 = c at *
        have hcw : IntKind.i64.wrap (c + 1) = c + 1 := IntWalk.i64_in _ (by omega)
        have hdw : IntKind.i64.wrap (d + 1) = d + 1 := IntWalk.i64_in _ (by omega)
        go_wp2_with (refine (HK2.out _).mono ?_; rintro e w9 ⟨rfl, rfl⟩)
        go_roundw
        case rel => exact ⟨k + 1, by omega, by go_num, HOK2, by rw [HFIN.out]; exact HU5⟩
        case measure => (simp [intOf]; try omega)
      by_cases h8 : kd = 8
      · subst h8
        have hp : partsW ⟨8, no, nm, tx, fa, fb⟩ = [fa] := rfl
        have hab : 0 ≤ fa ∧ fa < (k : Int) := by
          unfold OkW TestW at hokW
          simp only at hokW
          omega
        obtain ⟨p, rfl⟩ : ∃ p : Nat, fa = (p : Int) := ⟨fa.toNat, by omega⟩
        have hpn : p < n := by omega
        have HUX3 : Hid (usesW (l.take (k + 1)) n = bump (usesW (l.take k) n) (p : Int)) := Lib.hid (by rw [HUX2, hp]; rfl)
        have hb1 := getD_bd (HBD.out k n []) (by omega) p
        simp only [List.foldl_nil, List.length_nil] at hb1
        have HK2 := Lib.hid (fun wx => spec_in 8 6 7 wx)
        rw [show inR 8 6 7 = false from rfl] at HK2
        clear hp hab hokW h67 HUX2
        generalize usesW (l.take k) n = u at *
        go_wp2_with fail
        refine HWO.out.mono ?_
        rintro e w3 ⟨rfl, hb⟩
        have HU3 := Lib.hid (HU2.out.step hb)
        have hs3 := hb.size
        have HA3 := Lib.hid (heap_keep hb HA2.out)
        obtain ⟨z0, z1, z2, z3, z4, z5⟩ := box6 HA3.out
        clear hb y0 y1 y2 y3 y4 y5 c0 c1 c2 c3 c4 c5
        obtain ⟨uc, uf⟩ := HU3.out.at hpn
        obtain ⟨wA, hA, hU4⟩ := HU3.out.put p (u.getD p 0 + 1)
        have HU4 := Lib.hid hU4
        have HWA : Hid (Wrote (fun b => b = w1.heap.size) w3 wA) := Lib.hid (by rw [← hA]; exact wrote_cell w3 w1.heap.size p _)
        have t0 := HWA.out.cell z0 (by omega)
        have t4 := HWA.out.cell z4 (by omega)
        have t5 := HWA.out.cell z5 (by omega)
        have HFIN : Hid (usesW (l.take (k + 1)) n = u.set p (u.getD p 0 + 1)) := Lib.hid (by rw [HUX3.out, bump_at])
        clear hU4
        generalize u.getD p 0 = c at *
        have hcw : IntKind.i64.wrap (c + 1) = c + 1 := IntWalk.i64_in _ (by omega)
        go_wp2_with (refine (HK2.out _).mono ?_; rintro e w9 ⟨rfl, rfl⟩)
        go_roundw
        case rel => exact ⟨k + 1, by omega, by go_num, HOK2, by rw [HFIN.out]; exact HU4⟩
        case measure => (simp [intOf]; try omega)
      have hp : partsW ⟨kd, no, nm, tx, fa, fb⟩ = [] := (if_neg h67).trans (if_neg h8)
      have hk6 : ¬ (6 : Int) ≤ kd := by
        unfold OkW TestW at hokW
        simp only at hokW
        omega
      have HFIN : Hid (usesW (l.take (k + 1)) n = usesW (l.take k) n) := Lib.hid (by rw [HUX2, hp]; rfl)
      have HK2 := Lib.hid (fun wx => spec_in kd 6 7 wx)
      rw [inR_f.2 (show ¬ ((6 : Int) ≤ kd ∧ kd ≤ 7) by omega)] at HK2
      clear hp hokW h67 HUX2
      go_wp2_with fail
      refine HWO.out.mono ?_
      rintro e w3 ⟨rfl, hb⟩
      have HU3 := Lib.hid (HU2.out.step hb)
      have HA3 := Lib.hid (heap_keep hb HA2.out)
      obtain ⟨z0, z1, z2, z3, z4, z5⟩ := box6 HA3.out
      clear hb y0 y1 y2 y3 y4 y5 c0 c1 c2 c3 c4 c5
      go_wp2_with (refine (HK2.out _).mono ?_; rintro e w9 ⟨rfl, rfl⟩)
      go_roundw
      case rel => exact ⟨k + 1, by omega, by go_num, HOK2, by rw [HFIN.out]; exact HU3⟩
      case measure => (simp [intOf]; try omega)
end Go.Proofs.Ytlmgckijbamgpaa
