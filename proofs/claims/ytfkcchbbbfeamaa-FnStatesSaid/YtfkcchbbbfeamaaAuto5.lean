/- The contract of the program's build: the automaton of words. -/
import Derived.Test.YtfkcchbbbfeamaaAuto4
import Derived.Carry
namespace Go.Proofs.Ytfkcchbbbfeamaa
set_option linter.unusedVariables false
open Go.ChangeShapes Go.WideShapes Go.ChangeAt Go.RowKit
set_option maxRecDepth 100000

set_option maxHeartbeats 4000000 in
theorem impl_build (a : Option Addr) (cap : Nat) (ws : List ByteArray) (w : World) (hrow : Rw w a (strs ws)) (hb : wordsB ws = true) :
    Calls Try.prog 58 #[.slice a ws.length cap] w fun e w' => ∃ A M sv tv vss fps, e = .returned (.pointer (some ⟨A, 0, none⟩)) ∧ Au w.heap.size w' A M sv tv (textsR ws) (textsR ws) vss fps ((textsR ws).map (stR ws)) ∧ Below w.heap.size w w' := by
  obtain ⟨hl8, hsz⟩ := wordsB_of hb
  obtain ⟨i0, hi, hz0, hz1, hz2⟩ := info_parts Try.infoStrD
  obtain ⟨j0, hj, hj0, hj1, hj2⟩ := info_parts Try.infoState
  obtain ⟨q0, hq, hq0, hq1, hq2⟩ := info_parts Try.infoIntE
  have HE : Hid ((ws.take ws.length).foldl wordT [ByteArray.empty] = textsR ws) := Lib.hid (by rw [List.take_length]; rfl)
  have HW := Lib.hid (fun k (h : k < ws.length) i => words_next (ws := ws) h i)
  have HTL := Lib.hid (texts_len hb)
  have hb0 := Lib.hid hb
  have HR := Lib.hid hrow
  have HSZ := Lib.hid hsz
  have HM0 := Lib.hid (MapS.made ((w.alloc (.cells #[.int .i64 (-1), .int .u8 0, .int .i64 0, .slice none 0 0] 64)).alloc (.cells #[.string { data := #[] }] 9)))
  have HST := Lib.hid (fun w4 => au_start w _ w4 rfl)
  have hmm := @run_makeMap Try.prog
  clear hb hrow hsz
  go_enter Try.func58, Try.ntmps58
  go_wp2_with (refine wpList_maps_lit rfl _ _ _ rfl (w.heap.size + 1 + 1) rfl (by have := HM0.out; simp only [World.size_alloc] at this; exact this) ByteArray.empty (by simp [maxLen]) rfl rfl ?_; intro w4 hm4 hg4)
  obtain ⟨hau, hbw⟩ := HST.out w4 hg4 hm4
  have HA := Lib.hid hau; have HB := Lib.hid hbw
  clear hau hbw hm4 hg4 HM0 HST hmm
  generalize w4.alloc (.cells #[.slice (some ⟨w.heap.size, 0, none⟩) 1 1, .slice (some ⟨w.heap.size + 1, 0, none⟩) 1 1, .map (some (w.heap.size + 1 + 1))] 84) = w5 at *
  generalize w4.heap.size = A at *
  have HM := Lib.hid (HA.out.loM)
  generalize hMM : w.heap.size + 1 + 1 = M at HA
  have HA0 := Lib.hid HA.out.loA
  clear hMM HM
  go_loopw [22] (fun i wr => ∃ (k : Nat) (acc : List ByteArray) (sv tv : Value) (vss : List (List Value)) (fps : List (List Nat)) (xs : List St), k ≤ ws.length ∧ i = .int .i64 (k : Int) ∧ acc.length ≤ 1 + 20 * k ∧ Hid ((ws.take k).foldl wordT [ByteArray.empty] = acc) ∧ Hid (Inv acc xs) ∧ Hid (Au w.heap.size wr A M sv tv acc acc vss fps xs) ∧ Hid (Below w.heap.size w wr)) (fun i _ => ws.length - (intOf i).toNat)
  case atStart => exact ⟨0, [ByteArray.empty], _, _, _, _, _, Nat.zero_le _, rfl, by simp, rfl, Lib.hid inv_start, HA, HB⟩
  case round =>
    clear HA HB
    obtain ⟨wo, rfl⟩ : ∃ z : World, z = wr := ⟨_, rfl⟩
    obtain ⟨k, acc, sv, tv, vss, fps, xs, hk, rfl, hal, HF, HI, HA, HB⟩ := hrel
    by_cases hlk : k < ws.length
    case neg =>
      obtain rfl : k = ws.length := by omega
      have he := HF.out.symm.trans HE.out
      subst he
      have hxs := inv_full HI.out
      rw [← L2_zero] at hxs
      subst hxs
      have htl := HTL.out
      obtain ⟨sq, sc, hv⟩ := form_of_own HA.out.sts
      rw [L2_len] at hv
      subst hv
      obtain ⟨c0, c1, c2, cf⟩ := HA.out.cells
      clear hlk hk
      go_wp2_with fail
      obtain ⟨sg, hsg⟩ : ∃ g, sq = some ⟨g, 0, none⟩ := by
        have h := HA.out.sts
        rw [L2_len] at h
        obtain ⟨g, c', hv, _⟩ := h.form (by have := texts_pos ws; omega)
        simp only [Value.slice.injEq] at hv
        exact ⟨g, hv.1⟩
      subst hsg
      obtain ⟨tg, tc, hv⟩ : ∃ g c, tv = .slice (some ⟨g, 0, none⟩) (textsR ws).length c := by
        obtain ⟨g, c', hv, _⟩ := HA.out.txt.form (by have := texts_pos ws; omega)
        exact ⟨g, c', hv⟩
      subst hv
      have HSS := Lib.hid (fun k (h : k < (textsR ws).length) => starts_size hb0.out (tx_mem h))
      clear c0 c1 c2 cf HI HF HE HW hal
      go_loopw [94] (fun i wr => ∃ (k : Nat) (vss : List (List Value)) (fps : List (List Nat)), k ≤ (textsR ws).length ∧ i = .int .i64 (k : Int) ∧ Hid (Au w.heap.size wr A M (.slice (some ⟨sg, 0, none⟩) (textsR ws).length sc) (.slice (some ⟨tg, 0, none⟩) (textsR ws).length tc) (textsR ws) (textsR ws) vss fps (L2 ws k)) ∧ Hid (Below w.heap.size w wr)) (fun i _ => (textsR ws).length - (intOf i).toNat)
      case atStart => exact ⟨0, vss, fps, Nat.zero_le _, rfl, HA, HB⟩
      case round =>
        clear HA HB vss fps
        obtain ⟨w1, rfl⟩ : ∃ z : World, z = wr := ⟨_, rfl⟩
        obtain ⟨k, vss, fps, hk, rfl, HA, HB⟩ := hrel
        by_cases hlk : k < (textsR ws).length
        case neg =>
          obtain rfl : k = (textsR ws).length := by omega
          go_wp2_with fail
          go_ret
          exact ⟨A, M, _, _, vss, fps, rfl, by have := HA.out; rw [L2_full] at this; exact this, HB.out⟩
        obtain ⟨c0, c1, c2, cf⟩ := HA.out.cells
        have ct := HA.out.txt.cellAt k (by omega)
        rw [strs_at _ k hlk] at ct
        have htx : (textsR ws).getD k ByteArray.empty = tx ws k := rfl
        rw [htx] at ct
        have hts := HSS.out k hlk
        by_cases hk0 : 0 < k
        · have hkp := (tx_pos hlk).1 hk0
          have HLG := Lib.hid (impl_longest ws ((tx ws k).extract 1 (tx ws k).size) A M w1.drew c2 HA.out.drew.map (by rw [ex_size _ _ _ (Nat.le_refl _)]; omega))
          rw [← fail_eq hlk hk0] at HLG
          have hzb : (Lit.int .i64 (failR ws (tx ws k))).wf = true := by
            rw [fail_eq hlk hk0]
            have := at_bd (l := textsR ws) (longR ws ((tx ws k).extract 1 (tx ws k).size))
            exact WalkArith.wf_i64 (by omega)
          have HAx : Hid (Au w.heap.size w1 A M (.slice (some ⟨sg, 0, none⟩) (L2 ws k).length sc) (.slice (some ⟨tg, 0, none⟩) (textsR ws).length tc) (textsR ws) (textsR ws) vss fps (L2 ws k)) := by rw [L2_len]; exact HA
          obtain ⟨vss2, hA2⟩ := HAx.out.putFail (L2_at hlk) (failR ws (tx ws k)) hzb
          rw [L3_zero, L2_len] at hA2
          have HA2 := Lib.hid hA2.drew
          obtain ⟨f0, a0, d0, -, -, -, -, -, hrow⟩ := HAx.out.row (L2_at hlk)
          have cz := hrow.cell 2 _ rfl
          have ez := hrow.frozen (k * 4 + 2)
          have HB2 : Hid (Below w.heap.size w (w1.setCell ⟨sg, k * 4 + 2, none⟩ (.int .i64 (failR ws (tx ws k)))).drew) := Lib.hid (rdrew (HB.out.setCell (p := ⟨sg, k * 4 + 2, none⟩) (by have := (HA.out.sts.lt sg rfl).1; exact this) _) 1)
          clear hA2 HAx hzb hrow
          have hkz : (0 : Int) < (k : Int) := by omega
          have h1z : (1 : Int) ≤ ((tx ws k).size : Int) := by omega
          generalize failR ws (tx ws k) = fz at *
          go_wp2_with fail
          refine wp_region_G [17] (fun w' => w'.cell? ⟨A, 0, none⟩ = some (.slice (some ⟨sg, 0, none⟩) (textsR ws).length sc) ∧ w'.cell? ⟨A, 1, none⟩ = some (.slice (some ⟨tg, 0, none⟩) (textsR ws).length tc) ∧ w'.cell? ⟨tg, k, none⟩ = some (.string (tx ws k))) (by kernel_rfl) ?_ (fun hHeld => ?_)
          · exact ⟨c0, c1, ct⟩
          refine wpG_pure (i := 0) (oi := { dst := some 99, op := Go.Op.move (Go.Operand.tmp 3), type := 80, pos := "l11_search.go:116", after := #[], guard := none }) (v := ?vg1) rfl (by kernel_rfl) (fun _ _ _ h => h) (Or.inr hHeld) (Or.inl ⟨by rfl, ?yg1⟩) ?_
          case yg1 => (intro wS _; go_simp <;> with_reducible rfl)
          try simp only [Act.put, List.setIfInBounds_toArray, List.set_cons_zero, List.set_cons_succ]
          refine wpG_pure (i := 1) (oi := { dst := some 100, op := Go.Op.nilCheck (Go.Operand.tmp 99), type := 0, pos := "l11_search.go:116", after := #[{ on := 0, ground := Go.Ground.data }], guard := none }) (v := ?vg2) rfl (by kernel_rfl) (fun _ _ _ h => h) (Or.inr hHeld) (Or.inl ⟨by rfl, ?yg2⟩) ?_
          case yg2 => (intro wS _; go_simp <;> with_reducible rfl)
          try simp only [Act.put, List.setIfInBounds_toArray, List.set_cons_zero, List.set_cons_succ]
          refine wpG_pure (i := 2) (oi := { dst := some 101, op := Go.Op.fieldAddr 84 (Go.Operand.tmp 100) 0, type := 0, pos := "l11_search.go:116", after := #[{ on := 1, ground := Go.Ground.data }], guard := none }) (v := ?vg3) rfl (by kernel_rfl) (fun _ _ _ h => h) (Or.inr hHeld) (Or.inl ⟨by rfl, ?yg3⟩) ?_
          case yg3 => (intro wS _; go_simp <;> with_reducible rfl)
          try simp only [Act.put, List.setIfInBounds_toArray, List.set_cons_zero, List.set_cons_succ]
          refine wpG_load (i := 3) (oi := { dst := some 102, op := Go.Op.load 47 (Go.Operand.tmp 101), type := 47, pos := "l11_search.go:116", after := #[{ on := 2, ground := Go.Ground.data }], guard := none }) (v := ?vg4) [[17, 3]] rfl (by kernel_rfl) (fun _ _ _ h => h) hHeld (Or.inl ⟨by rfl, ?yg4⟩) ?_
          case yg4 => (intro wS hSw; (try dsimp only at hSw); go_simp <;> with_reducible rfl)
          try simp only [Act.put, List.setIfInBounds_toArray, List.set_cons_zero, List.set_cons_succ]
          refine wpG_pure (i := 4) (oi := { dst := some 103, op := Go.Op.move (Go.Operand.tmp 10), type := 3, pos := "l11_search.go:116", after := #[], guard := none }) (v := ?vg5) rfl (by kernel_rfl) (fun _ _ _ h => h) (Or.inr hHeld) (Or.inl ⟨by rfl, ?yg5⟩) ?_
          case yg5 => (intro wS _; go_simp <;> with_reducible rfl)
          try simp only [Act.put, List.setIfInBounds_toArray, List.set_cons_zero, List.set_cons_succ]
          refine wpG_pure (i := 5) (oi := { dst := some 104, op := Go.Op.move (Go.Operand.tmp 3), type := 80, pos := "l11_search.go:116", after := #[], guard := none }) (v := ?vg6) rfl (by kernel_rfl) (fun _ _ _ h => h) (Or.inr hHeld) (Or.inl ⟨by rfl, ?yg6⟩) ?_
          case yg6 => (intro wS _; go_simp <;> with_reducible rfl)
          try simp only [Act.put, List.setIfInBounds_toArray, List.set_cons_zero, List.set_cons_succ]
          refine wpG_pure (i := 6) (oi := { dst := some 105, op := Go.Op.move (Go.Operand.tmp 3), type := 80, pos := "l11_search.go:116", after := #[], guard := none }) (v := ?vg7) rfl (by kernel_rfl) (fun _ _ _ h => h) (Or.inr hHeld) (Or.inl ⟨by rfl, ?yg7⟩) ?_
          case yg7 => (intro wS _; go_simp <;> with_reducible rfl)
          try simp only [Act.put, List.setIfInBounds_toArray, List.set_cons_zero, List.set_cons_succ]
          refine wpG_pure (i := 7) (oi := { dst := some 106, op := Go.Op.nilCheck (Go.Operand.tmp 105), type := 0, pos := "l11_search.go:116", after := #[{ on := 6, ground := Go.Ground.data }], guard := none }) (v := ?vg8) rfl (by kernel_rfl) (fun _ _ _ h => h) (Or.inr hHeld) (Or.inl ⟨by rfl, ?yg8⟩) ?_
          case yg8 => (intro wS _; go_simp <;> with_reducible rfl)
          try simp only [Act.put, List.setIfInBounds_toArray, List.set_cons_zero, List.set_cons_succ]
          refine wpG_pure (i := 8) (oi := { dst := some 107, op := Go.Op.fieldAddr 84 (Go.Operand.tmp 106) 1, type := 0, pos := "l11_search.go:116", after := #[{ on := 7, ground := Go.Ground.data }], guard := none }) (v := ?vg9) rfl (by kernel_rfl) (fun _ _ _ h => h) (Or.inr hHeld) (Or.inl ⟨by rfl, ?yg9⟩) ?_
          case yg9 => (intro wS _; go_simp <;> with_reducible rfl)
          try simp only [Act.put, List.setIfInBounds_toArray, List.set_cons_zero, List.set_cons_succ]
          refine wpG_load (i := 9) (oi := { dst := some 108, op := Go.Op.load 39 (Go.Operand.tmp 107), type := 39, pos := "l11_search.go:116", after := #[{ on := 8, ground := Go.Ground.data }], guard := none }) (v := ?vg10) [[17, 9]] rfl (by kernel_rfl) (fun _ _ _ h => h) hHeld (Or.inl ⟨by rfl, ?yg10⟩) ?_
          case yg10 => (intro wS hSw; (try dsimp only at hSw); go_simp <;> with_reducible rfl)
          try simp only [Act.put, List.setIfInBounds_toArray, List.set_cons_zero, List.set_cons_succ]
          refine wpG_pure (i := 10) (oi := { dst := some 109, op := Go.Op.move (Go.Operand.tmp 10), type := 3, pos := "l11_search.go:116", after := #[], guard := none }) (v := ?vg11) rfl (by kernel_rfl) (fun _ _ _ h => h) (Or.inr hHeld) (Or.inl ⟨by rfl, ?yg11⟩) ?_
          case yg11 => (intro wS _; go_simp <;> with_reducible rfl)
          try simp only [Act.put, List.setIfInBounds_toArray, List.set_cons_zero, List.set_cons_succ]
          refine wpG_pure (i := 11) (oi := { dst := some 110, op := Go.Op.indexAddr 39 (Go.Operand.tmp 108) (Go.Operand.tmp 109), type := 0, pos := "l11_search.go:116", after := #[{ on := 9, ground := Go.Ground.data }, { on := 10, ground := Go.Ground.data }], guard := none }) (v := ?vg12) rfl (by kernel_rfl) (fun _ _ _ h => h) (Or.inr hHeld) (Or.inl ⟨by rfl, ?yg12⟩) ?_
          case yg12 => (intro wS _; go_simp <;> with_reducible rfl)
          try simp only [Act.put, List.setIfInBounds_toArray, List.set_cons_zero, List.set_cons_succ]
          refine wpG_load (i := 12) (oi := { dst := some 111, op := Go.Op.load 9 (Go.Operand.tmp 110), type := 9, pos := "l11_search.go:116", after := #[{ on := 11, ground := Go.Ground.data }], guard := none }) (v := ?vg13) [[17, 12]] rfl (by kernel_rfl) (fun _ _ _ h => h) hHeld (Or.inl ⟨by rfl, ?yg13⟩) ?_
          case yg13 => (intro wS hSw; (try dsimp only at hSw); go_simp <;> with_reducible rfl)
          try simp only [Act.put, List.setIfInBounds_toArray, List.set_cons_zero, List.set_cons_succ]
          refine wpG_pure (i := 13) (oi := { dst := some 112, op := Go.Op.slice 9 (Go.Operand.tmp 111) (some (Go.Operand.const (Go.Value.int Go.IntKind.i64 1))) none none, type := 9, pos := "l11_search.go:116", after := #[{ on := 12, ground := Go.Ground.data }], guard := none }) (v := ?vg14) rfl (by kernel_rfl) (fun _ _ _ h => h) (Or.inr hHeld) (Or.inl ⟨by rfl, ?yg14⟩) ?_
          case yg14 => (intro wS _; go_simp <;> with_reducible rfl)
          try simp only [Act.put, List.setIfInBounds_toArray, List.set_cons_zero, List.set_cons_succ]
          refine wpG_one (i := 14) (o := { dst := some 113, op := Go.Op.call { callee := Go.Callee.value (Go.Operand.func 59), args := #[Go.Operand.tmp 104, Go.Operand.tmp 112], argTypes := #[80, 9] }, type := 3, pos := "l11_search.go:116", after := #[{ on := 5, ground := Go.Ground.data }, { on := 13, ground := Go.Ground.data }], guard := none }) rfl (by kernel_rfl) (fun K hK => ?_)
          go_simp
          refine HLG.out.mono ?_
          rintro e w' ⟨rfl, rfl⟩
          refine hK.out _ _ (Or.inr ?khHeld15) (fun hHeld15S => ?_)
          case khHeld15 => exact ⟨c0, c1, ct⟩
          have hHeld15 := hHeld15S.held (by kernel_rfl)
          clear hK K
          try simp only [Act.put, List.setIfInBounds_toArray, List.set_cons_zero, List.set_cons_succ]
          refine wpG_pure (i := 15) (oi := { dst := some 114, op := Go.Op.indexAddr 47 (Go.Operand.tmp 102) (Go.Operand.tmp 103), type := 0, pos := "l11_search.go:116", after := #[{ on := 3, ground := Go.Ground.data }, { on := 4, ground := Go.Ground.data }, { on := 0, ground := Go.Ground.phase }, { on := 1, ground := Go.Ground.phase }, { on := 2, ground := Go.Ground.phase }, { on := 3, ground := Go.Ground.phase }, { on := 4, ground := Go.Ground.phase }, { on := 5, ground := Go.Ground.phase }, { on := 6, ground := Go.Ground.phase }, { on := 7, ground := Go.Ground.phase }, { on := 8, ground := Go.Ground.phase }, { on := 9, ground := Go.Ground.phase }, { on := 10, ground := Go.Ground.phase }, { on := 11, ground := Go.Ground.phase }, { on := 12, ground := Go.Ground.phase }, { on := 13, ground := Go.Ground.phase }, { on := 14, ground := Go.Ground.phase }], guard := none }) (v := ?vg16) rfl (by kernel_rfl) (fun _ _ _ h => h) (Or.inr hHeld15) (Or.inl ⟨by rfl, ?yg16⟩) ?_
          case yg16 => (intro wS _; go_simp <;> with_reducible rfl)
          try simp only [Act.put, List.setIfInBounds_toArray, List.set_cons_zero, List.set_cons_succ]
          refine wpG_pure (i := 16) (oi := { dst := some 115, op := Go.Op.fieldAddr 64 (Go.Operand.tmp 114) 2, type := 0, pos := "l11_search.go:116", after := #[{ on := 15, ground := Go.Ground.data }, { on := 0, ground := Go.Ground.phase }, { on := 1, ground := Go.Ground.phase }, { on := 2, ground := Go.Ground.phase }, { on := 3, ground := Go.Ground.phase }, { on := 4, ground := Go.Ground.phase }, { on := 5, ground := Go.Ground.phase }, { on := 6, ground := Go.Ground.phase }, { on := 7, ground := Go.Ground.phase }, { on := 8, ground := Go.Ground.phase }, { on := 9, ground := Go.Ground.phase }, { on := 10, ground := Go.Ground.phase }, { on := 11, ground := Go.Ground.phase }, { on := 12, ground := Go.Ground.phase }, { on := 13, ground := Go.Ground.phase }, { on := 14, ground := Go.Ground.phase }], guard := none }) (v := ?vg17) rfl (by kernel_rfl) (fun _ _ _ h => h) (Or.inr hHeld15) (Or.inl ⟨by rfl, ?yg17⟩) ?_
          case yg17 => (intro wS _; go_simp <;> with_reducible rfl)
          try simp only [Act.put, List.setIfInBounds_toArray, List.set_cons_zero, List.set_cons_succ]
          refine wpG_one (i := 17) (o := { dst := none, op := Go.Op.store 3 (Go.Operand.tmp 115) (Go.Operand.tmp 113), type := 0, pos := "l11_search.go:116", after := #[{ on := 16, ground := Go.Ground.data }, { on := 14, ground := Go.Ground.data }, { on := 14, ground := Go.Ground.chain }, { on := 0, ground := Go.Ground.phase }, { on := 1, ground := Go.Ground.phase }, { on := 2, ground := Go.Ground.phase }, { on := 3, ground := Go.Ground.phase }, { on := 4, ground := Go.Ground.phase }, { on := 5, ground := Go.Ground.phase }, { on := 6, ground := Go.Ground.phase }, { on := 7, ground := Go.Ground.phase }, { on := 8, ground := Go.Ground.phase }, { on := 9, ground := Go.Ground.phase }, { on := 10, ground := Go.Ground.phase }, { on := 11, ground := Go.Ground.phase }, { on := 12, ground := Go.Ground.phase }, { on := 13, ground := Go.Ground.phase }, { on := 14, ground := Go.Ground.phase }], guard := none }) rfl (by kernel_rfl) (fun K hK => ?_)
          go_simp
          refine hK.out _ _ (Or.inl (by kernel_rfl)) (fun _ => ?_)
          clear hK K
          try simp only [Act.put, List.setIfInBounds_toArray, List.set_cons_zero, List.set_cons_succ]
          refine wpG_done (by kernel_rfl) ?_
          skip
          generalize (w1.setCell ⟨sg, k * 4 + 2, none⟩ (.int .i64 fz)).drew = w2 at *
          clear HA HB HLG c0 c1 c2 cf ct cz ez hHeld
          go_wp2_with fail
          go_loopw [118] (fun i wr => ∃ (n : Nat) (vss : List (List Value)) (fps : List (List Nat)), n ≤ ws.length ∧ i = .int .i64 (n : Int) ∧ Hid (Au w.heap.size wr A M (.slice (some ⟨sg, 0, none⟩) (textsR ws).length sc) (.slice (some ⟨tg, 0, none⟩) (textsR ws).length tc) (textsR ws) (textsR ws) vss fps (L3 ws k n)) ∧ Hid (Below w.heap.size w wr)) (fun i _ => ws.length - (intOf i).toNat)
          case atStart => exact ⟨0, _, _, Nat.zero_le _, rfl, HA2, HB2⟩
          case round =>
            clear HA2 HB2
            obtain ⟨w5, rfl⟩ : ∃ z : World, z = wr := ⟨_, rfl⟩
            obtain ⟨n, vss, fps, hn, rfl, HA, HB⟩ := hrel
            by_cases hln : n < ws.length
            case neg =>
              obtain rfl : n = ws.length := by omega
              go_wp2_with fail
              go_roundw
              case rel => exact ⟨k + 1, vss, fps, by omega, by go_num, by rw [← L3_full hlk]; exact HA, HB⟩
              case measure => simp [intOf]; omega
            obtain ⟨b, off, rfl, hbl, hc⟩ := (HR.out.below HB.out).at (strs_ne hln)
            have hc1 := hc n _ (strs_at ws n hln)
            have hs20 := (HSZ.out (ws.getD n ByteArray.empty) (by rw [List.getD, List.getElem?_eq_getElem hln]; exact List.getElem_mem hln)).2
            have HEN := Lib.hid (ends_next (ws := ws) (t := tx ws k) (n := n))
            have HSF := Lib.hid (has_suffix (tx ws k) (ws.getD n ByteArray.empty) w5 (by omega) (by omega))
            obtain ⟨c0, c1, c2, cf⟩ := HA.out.cells
            have ct := HA.out.txt.cellAt k (by omega)
            rw [strs_at _ k hlk, htx] at ct
            clear hc hbl
            generalize ws.getD n ByteArray.empty = v at *
            cases he : endsB (tx ws k) v with
            | false =>
              rw [he] at HEN HSF
              have HEQ := Lib.hid (L3_same (ws := ws) (k := k) (n := n) (by rw [HEN.out]; simp))
              clear he
              go_wp2_with fail
              refine HSF.out.mono ?_
              rintro e w' ⟨rfl, rfl⟩
              go_wp2_with fail
              go_roundw
              case rel => exact ⟨n + 1, vss, fps, by omega, by go_num, by rw [HEQ.out]; exact HA, HB⟩
              case measure => simp [intOf]; omega
            | true =>
              rw [he] at HEN HSF
              have HEQ := Lib.hid (L3_next (ws := ws) (k := k) (n := n) (endsL ws (tx ws k) n ++ [(n : Int)]) (by rw [HEN.out]; simp))
              have hel := ends_len (ws := ws) (t := tx ws k) (n := n)
              have HA6 : Hid (Au w.heap.size (w5.drew.alloc (.cells #[.int .i64 (n : Int)] 3)) A M (.slice (some ⟨sg, 0, none⟩) (L3 ws k n).length sc) (.slice (some ⟨tg, 0, none⟩) (textsR ws).length tc) (textsR ws) (textsR ws) vss fps (L3 ws k n)) := by rw [L3_len]; exact Lib.hid (HA.out.drew.alloc _)
              obtain ⟨f, aq, c, hf, hv, hw1, hw2, how, hrow⟩ := HA6.out.row (L3_at (n := n) hlk)
              have hrow0 : w5.cell? ⟨sg, k * 4 + 3, none⟩ = some (.slice aq (endsL ws (tx ws k) n).length c) := by
                have h5 : Au w.heap.size w5 A M (.slice (some ⟨sg, 0, none⟩) (L3 ws k n).length sc) (.slice (some ⟨tg, 0, none⟩) (textsR ws).length tc) (textsR ws) (textsR ws) vss fps (L3 ws k n) := by rw [L3_len]; exact HA.out
                obtain ⟨f', a', c', hf', hv', _, _, _, hr'⟩ := h5.row (L3_at (n := n) hlk)
                rw [hv] at hv'
                simp only [Option.some.injEq, List.cons.injEq, Value.slice.injEq, and_true, true_and] at hv'
                have := hr'.cell 3 _ rfl
                rw [hv'.1, hv'.2]; exact this
              obtain ⟨hfe, hown0, -⟩ := ints_fp how
              have hown := own_up (base := w.heap.size) hown0 (fun g hg => HA6.out.fpb g (List.mem_flatten.2 ⟨f, List.mem_of_getElem? hf, by rw [hfe, hg]; simp⟩))
              have HROW := Lib.hid hrow; have HOWK := Lib.hid how; have HF := Lib.hid hf; have HOWN := Lib.hid hown; have HW1 := Lib.hid hw1; have HW2 := Lib.hid hw2
              have hsn := fun hbn : (sg : Nat) = sg => HA6.out.sts.lt sg rfl
              have hgs : sg < (w5.drew.alloc (.cells #[.int .i64 (n : Int)] 3)).heap.size := (hsn rfl).2
              have HWG : Hid ((Value.slice aq (endsL ws (tx ws k) n).length c).ownBlock ≠ some sg) := Lib.hid (fun e => HA6.out.fS (List.mem_flatten.2 ⟨f, List.mem_of_getElem? hf, by rw [hfe, e]; simp⟩) rfl)
              have HWA : Hid ((Value.slice aq (endsL ws (tx ws k) n).length c).ownBlock ≠ some A) := Lib.hid (fun e => HA6.out.fA (List.mem_flatten.2 ⟨f, List.mem_of_getElem? hf, by rw [hfe, e]; simp⟩) rfl)
              have hga := HA6.out.ltA
              clear how hf hown hown0 hfe hv hrow he hw1 hw2 hsn
              have hsz5 := HB.out.size
              have HXA := Lib.hid (L3_at (n := n) hlk)
              generalize endsL ws (tx ws k) n = ys at *
              go_wp2_with fail
              refine HSF.out.mono ?_
              rintro e w' ⟨rfl, rfl⟩
              go_wp2_with fail
              refine wp_region_G [18] (fun w' => w'.cell? ⟨A, 0, none⟩ = some (.slice (some ⟨sg, 0, none⟩) (textsR ws).length sc) ∧ w'.cell? ⟨sg, k * 4 + 3, none⟩ = some (.slice aq ys.length c)) (by kernel_rfl) ?_ (fun hHeld => ?_)
              · exact ⟨c0, hrow0⟩
              refine wpG_pure (i := 0) (oi := { dst := some 132, op := Go.Op.move (Go.Operand.tmp 3), type := 80, pos := "l11_search.go:120", after := #[], guard := none }) (v := ?vg19) rfl (by kernel_rfl) (fun _ _ _ h => h) (Or.inr hHeld) (Or.inl ⟨by rfl, ?yg19⟩) ?_
              case yg19 => (intro wS _; go_simp <;> with_reducible rfl)
              try simp only [Act.put, List.setIfInBounds_toArray, List.set_cons_zero, List.set_cons_succ]
              refine wpG_pure (i := 1) (oi := { dst := some 133, op := Go.Op.nilCheck (Go.Operand.tmp 132), type := 0, pos := "l11_search.go:120", after := #[{ on := 0, ground := Go.Ground.data }], guard := none }) (v := ?vg20) rfl (by kernel_rfl) (fun _ _ _ h => h) (Or.inr hHeld) (Or.inl ⟨by rfl, ?yg20⟩) ?_
              case yg20 => (intro wS _; go_simp <;> with_reducible rfl)
              try simp only [Act.put, List.setIfInBounds_toArray, List.set_cons_zero, List.set_cons_succ]
              refine wpG_pure (i := 2) (oi := { dst := some 134, op := Go.Op.fieldAddr 84 (Go.Operand.tmp 133) 0, type := 0, pos := "l11_search.go:120", after := #[{ on := 1, ground := Go.Ground.data }], guard := none }) (v := ?vg21) rfl (by kernel_rfl) (fun _ _ _ h => h) (Or.inr hHeld) (Or.inl ⟨by rfl, ?yg21⟩) ?_
              case yg21 => (intro wS _; go_simp <;> with_reducible rfl)
              try simp only [Act.put, List.setIfInBounds_toArray, List.set_cons_zero, List.set_cons_succ]
              refine wpG_load (i := 3) (oi := { dst := some 135, op := Go.Op.load 47 (Go.Operand.tmp 134), type := 47, pos := "l11_search.go:120", after := #[{ on := 2, ground := Go.Ground.data }], guard := none }) (v := ?vg22) [[18, 3]] rfl (by kernel_rfl) (fun _ _ _ h => h) hHeld (Or.inl ⟨by rfl, ?yg22⟩) ?_
              case yg22 => (intro wS hSw; (try dsimp only at hSw); go_simp <;> with_reducible rfl)
              try simp only [Act.put, List.setIfInBounds_toArray, List.set_cons_zero, List.set_cons_succ]
              refine wpG_pure (i := 4) (oi := { dst := some 136, op := Go.Op.move (Go.Operand.tmp 10), type := 3, pos := "l11_search.go:120", after := #[], guard := none }) (v := ?vg23) rfl (by kernel_rfl) (fun _ _ _ h => h) (Or.inr hHeld) (Or.inl ⟨by rfl, ?yg23⟩) ?_
              case yg23 => (intro wS _; go_simp <;> with_reducible rfl)
              try simp only [Act.put, List.setIfInBounds_toArray, List.set_cons_zero, List.set_cons_succ]
              refine wpG_pure (i := 5) (oi := { dst := some 137, op := Go.Op.move (Go.Operand.tmp 3), type := 80, pos := "l11_search.go:120", after := #[], guard := none }) (v := ?vg24) rfl (by kernel_rfl) (fun _ _ _ h => h) (Or.inr hHeld) (Or.inl ⟨by rfl, ?yg24⟩) ?_
              case yg24 => (intro wS _; go_simp <;> with_reducible rfl)
              try simp only [Act.put, List.setIfInBounds_toArray, List.set_cons_zero, List.set_cons_succ]
              refine wpG_pure (i := 6) (oi := { dst := some 138, op := Go.Op.nilCheck (Go.Operand.tmp 137), type := 0, pos := "l11_search.go:120", after := #[{ on := 5, ground := Go.Ground.data }], guard := none }) (v := ?vg25) rfl (by kernel_rfl) (fun _ _ _ h => h) (Or.inr hHeld) (Or.inl ⟨by rfl, ?yg25⟩) ?_
              case yg25 => (intro wS _; go_simp <;> with_reducible rfl)
              try simp only [Act.put, List.setIfInBounds_toArray, List.set_cons_zero, List.set_cons_succ]
              refine wpG_pure (i := 7) (oi := { dst := some 139, op := Go.Op.fieldAddr 84 (Go.Operand.tmp 138) 0, type := 0, pos := "l11_search.go:120", after := #[{ on := 6, ground := Go.Ground.data }], guard := none }) (v := ?vg26) rfl (by kernel_rfl) (fun _ _ _ h => h) (Or.inr hHeld) (Or.inl ⟨by rfl, ?yg26⟩) ?_
              case yg26 => (intro wS _; go_simp <;> with_reducible rfl)
              try simp only [Act.put, List.setIfInBounds_toArray, List.set_cons_zero, List.set_cons_succ]
              refine wpG_load (i := 8) (oi := { dst := some 140, op := Go.Op.load 47 (Go.Operand.tmp 139), type := 47, pos := "l11_search.go:120", after := #[{ on := 7, ground := Go.Ground.data }], guard := none }) (v := ?vg27) [[18, 8]] rfl (by kernel_rfl) (fun _ _ _ h => h) hHeld (Or.inl ⟨by rfl, ?yg27⟩) ?_
              case yg27 => (intro wS hSw; (try dsimp only at hSw); go_simp <;> with_reducible rfl)
              try simp only [Act.put, List.setIfInBounds_toArray, List.set_cons_zero, List.set_cons_succ]
              refine wpG_pure (i := 9) (oi := { dst := some 141, op := Go.Op.move (Go.Operand.tmp 10), type := 3, pos := "l11_search.go:120", after := #[], guard := none }) (v := ?vg28) rfl (by kernel_rfl) (fun _ _ _ h => h) (Or.inr hHeld) (Or.inl ⟨by rfl, ?yg28⟩) ?_
              case yg28 => (intro wS _; go_simp <;> with_reducible rfl)
              try simp only [Act.put, List.setIfInBounds_toArray, List.set_cons_zero, List.set_cons_succ]
              refine wpG_pure (i := 10) (oi := { dst := some 142, op := Go.Op.indexAddr 47 (Go.Operand.tmp 140) (Go.Operand.tmp 141), type := 0, pos := "l11_search.go:120", after := #[{ on := 8, ground := Go.Ground.data }, { on := 9, ground := Go.Ground.data }], guard := none }) (v := ?vg29) rfl (by kernel_rfl) (fun _ _ _ h => h) (Or.inr hHeld) (Or.inl ⟨by rfl, ?yg29⟩) ?_
              case yg29 => (intro wS _; go_simp <;> with_reducible rfl)
              try simp only [Act.put, List.setIfInBounds_toArray, List.set_cons_zero, List.set_cons_succ]
              refine wpG_pure (i := 11) (oi := { dst := some 143, op := Go.Op.fieldAddr 64 (Go.Operand.tmp 142) 3, type := 0, pos := "l11_search.go:120", after := #[{ on := 10, ground := Go.Ground.data }], guard := none }) (v := ?vg30) rfl (by kernel_rfl) (fun _ _ _ h => h) (Or.inr hHeld) (Or.inl ⟨by rfl, ?yg30⟩) ?_
              case yg30 => (intro wS _; go_simp <;> with_reducible rfl)
              try simp only [Act.put, List.setIfInBounds_toArray, List.set_cons_zero, List.set_cons_succ]
              refine wpG_load (i := 12) (oi := { dst := some 144, op := Go.Op.load 25 (Go.Operand.tmp 143), type := 25, pos := "l11_search.go:120", after := #[{ on := 11, ground := Go.Ground.data }], guard := none }) (v := ?vg31) [[18, 12]] rfl (by kernel_rfl) (fun _ _ _ h => h) hHeld (Or.inl ⟨by rfl, ?yg31⟩) ?_
              case yg31 => (intro wS hSw; (try dsimp only at hSw); go_simp <;> with_reducible rfl)
              try simp only [Act.put, List.setIfInBounds_toArray, List.set_cons_zero, List.set_cons_succ]
              refine wpG_pure (i := 13) (oi := { dst := some 145, op := Go.Op.move (Go.Operand.tmp 11), type := 3, pos := "l11_search.go:120", after := #[], guard := none }) (v := ?vg32) rfl (by kernel_rfl) (fun _ _ _ h => h) (Or.inr hHeld) (Or.inl ⟨by rfl, ?yg32⟩) ?_
              case yg32 => (intro wS _; go_simp <;> with_reducible rfl)
              try simp only [Act.put, List.setIfInBounds_toArray, List.set_cons_zero, List.set_cons_succ]
              refine wpG_one (i := 14) (o := { dst := some 146, op := Go.Op.buildSlice 25 1 #[(0, Go.Operand.tmp 145)], type := 25, pos := "l11_search.go:120", after := #[{ on := 13, ground := Go.Ground.data }], guard := none }) rfl (by kernel_rfl) (fun K hK => ?_)
              go_simp
              refine hK.out _ _ (Or.inr ?khHeld33) (fun hHeld33S => ?_)
              case khHeld33 => exact ⟨cell_alloc _ c0, cell_alloc _ hrow0⟩
              have hHeld33 := hHeld33S.held (by kernel_rfl)
              clear hK K
              try simp only [Act.put, List.setIfInBounds_toArray, List.set_cons_zero, List.set_cons_succ]
              refine wpG_one (i := 15) (o := { dst := some 147, op := Go.Op.call { callee := Go.Callee.builtin Go.Builtin.append, args := #[Go.Operand.tmp 144, Go.Operand.tmp 146], argTypes := #[25, 25] }, type := 25, pos := "l11_search.go:120", after := #[{ on := 12, ground := Go.Ground.data }, { on := 14, ground := Go.Ground.data }], guard := none }) rfl (by kernel_rfl) (fun K hK => ?_)
              refine step_append_lies _ rfl (.tmp 144) (.tmp 146) 25 rfl w.heap.size 3 q0 (.int .i64 0) 1 8 Try.underlying25 hq hq0 hq1 hq2 rfl (by decide) _ ys.length (ints ys) rfl HOWN.out ⟨w5.heap.size, 0, none⟩ 1 1 [.int .i64 (n : Int)] rfl rfl (news_one _ _ _) (by simp [Value.oneCell']) (by omega) (by unfold maxLen; omega) (by omega) (by simp; omega) (w5.heap.size + 1) (by simp) ?_
              intro g9 c9 w9 hown9 hgrow hat _
              have kx := hgrow.block sg hgs (fun e => HWG.out e.symm)
              have cz := (World.cell?_of_block (a := ⟨sg, k * 4 + 3, none⟩) kx).trans (cell_alloc (.cells #[.int .i64 (n : Int)] 3) (show w5.drew.cell? ⟨sg, k * 4 + 3, none⟩ = _ from hrow0))
              have ez := (World.frozen?_of_block (a := ⟨sg, k * 4 + 3, none⟩) kx).trans (HROW.out.frozen (k * 4 + 3))
              have ca := (World.cell?_of_block (a := ⟨A, 0, none⟩) (hgrow.block A hga (fun e => HWA.out e.symm))).trans (cell_alloc (.cells #[.int .i64 (n : Int)] 3) (show w5.drew.cell? ⟨A, 0, none⟩ = _ from c0))
              have HA9 := Lib.hid (HA6.out.putWord (z := (n : Int)) HXA.out HF.out HW1.out HW2.out rfl HOWK.out HROW.out hgrow (by simp only [ints, List.map_append, List.map_cons, List.map_nil]; exact hown9) (hat.imp id (fun h => by rw [h]; simp)) (WalkArith.wf_i64 (by omega)))
              have HB9 : Hid (Below w.heap.size w (w9.setCell ⟨sg, k * 4 + 3, none⟩ (.slice (some ⟨g9, 0, none⟩) (ys.length + 1) c9))) := Lib.hid (below_put (v := .slice aq ys.length c) ((rdrew HB.out 1 : Below w.heap.size w w5.drew).alloc hsz5 _) hgrow (by simp; omega) (fun j hj => (HOWN.out.lt j hj).1) (HA.out.sts.lt sg rfl).1)
              clear hown9 hgrow hat kx
              refine hK.out _ _ (Or.inr ?khHeld34) (fun hHeld34S => ?_)
              case khHeld34 => exact ⟨ca, cz⟩
              have hHeld34 := hHeld34S.held (by kernel_rfl)
              clear hK K
              try simp only [Act.put, List.setIfInBounds_toArray, List.set_cons_zero, List.set_cons_succ]
              refine wpG_pure (i := 16) (oi := { dst := some 148, op := Go.Op.indexAddr 47 (Go.Operand.tmp 135) (Go.Operand.tmp 136), type := 0, pos := "l11_search.go:120", after := #[{ on := 3, ground := Go.Ground.data }, { on := 4, ground := Go.Ground.data }, { on := 0, ground := Go.Ground.phase }, { on := 1, ground := Go.Ground.phase }, { on := 2, ground := Go.Ground.phase }, { on := 3, ground := Go.Ground.phase }, { on := 4, ground := Go.Ground.phase }, { on := 5, ground := Go.Ground.phase }, { on := 6, ground := Go.Ground.phase }, { on := 7, ground := Go.Ground.phase }, { on := 8, ground := Go.Ground.phase }, { on := 9, ground := Go.Ground.phase }, { on := 10, ground := Go.Ground.phase }, { on := 11, ground := Go.Ground.phase }, { on := 12, ground := Go.Ground.phase }, { on := 13, ground := Go.Ground.phase }, { on := 14, ground := Go.Ground.phase }, { on := 15, ground := Go.Ground.phase }], guard := none }) (v := ?vg35) rfl (by kernel_rfl) (fun _ _ _ h => h) (Or.inr hHeld34) (Or.inl ⟨by rfl, ?yg35⟩) ?_
              case yg35 => (intro wS _; go_simp <;> with_reducible rfl)
              try simp only [Act.put, List.setIfInBounds_toArray, List.set_cons_zero, List.set_cons_succ]
              refine wpG_pure (i := 17) (oi := { dst := some 149, op := Go.Op.fieldAddr 64 (Go.Operand.tmp 148) 3, type := 0, pos := "l11_search.go:120", after := #[{ on := 16, ground := Go.Ground.data }, { on := 0, ground := Go.Ground.phase }, { on := 1, ground := Go.Ground.phase }, { on := 2, ground := Go.Ground.phase }, { on := 3, ground := Go.Ground.phase }, { on := 4, ground := Go.Ground.phase }, { on := 5, ground := Go.Ground.phase }, { on := 6, ground := Go.Ground.phase }, { on := 7, ground := Go.Ground.phase }, { on := 8, ground := Go.Ground.phase }, { on := 9, ground := Go.Ground.phase }, { on := 10, ground := Go.Ground.phase }, { on := 11, ground := Go.Ground.phase }, { on := 12, ground := Go.Ground.phase }, { on := 13, ground := Go.Ground.phase }, { on := 14, ground := Go.Ground.phase }, { on := 15, ground := Go.Ground.phase }], guard := none }) (v := ?vg36) rfl (by kernel_rfl) (fun _ _ _ h => h) (Or.inr hHeld34) (Or.inl ⟨by rfl, ?yg36⟩) ?_
              case yg36 => (intro wS _; go_simp <;> with_reducible rfl)
              try simp only [Act.put, List.setIfInBounds_toArray, List.set_cons_zero, List.set_cons_succ]
              refine wpG_one (i := 18) (o := { dst := none, op := Go.Op.store 25 (Go.Operand.tmp 149) (Go.Operand.tmp 147), type := 0, pos := "l11_search.go:120", after := #[{ on := 17, ground := Go.Ground.data }, { on := 15, ground := Go.Ground.data }, { on := 15, ground := Go.Ground.chain }, { on := 0, ground := Go.Ground.phase }, { on := 1, ground := Go.Ground.phase }, { on := 2, ground := Go.Ground.phase }, { on := 3, ground := Go.Ground.phase }, { on := 4, ground := Go.Ground.phase }, { on := 5, ground := Go.Ground.phase }, { on := 6, ground := Go.Ground.phase }, { on := 7, ground := Go.Ground.phase }, { on := 8, ground := Go.Ground.phase }, { on := 9, ground := Go.Ground.phase }, { on := 10, ground := Go.Ground.phase }, { on := 11, ground := Go.Ground.phase }, { on := 12, ground := Go.Ground.phase }, { on := 13, ground := Go.Ground.phase }, { on := 14, ground := Go.Ground.phase }, { on := 15, ground := Go.Ground.phase }], guard := none }) rfl (by kernel_rfl) (fun K hK => ?_)
              go_simp
              refine hK.out _ _ (Or.inl (by kernel_rfl)) (fun _ => ?_)
              clear hK K
              try simp only [Act.put, List.setIfInBounds_toArray, List.set_cons_zero, List.set_cons_succ]
              refine wpG_done (by kernel_rfl) ?_
              skip
              obtain ⟨vss9, fps9, hA9⟩ := HA9.out
              rw [HEQ.out, L3_len] at hA9
              replace HA9 := Lib.hid hA9
              clear hA9
              generalize w9.setCell ⟨sg, k * 4 + 3, none⟩ (.slice (some ⟨g9, 0, none⟩) (ys.length + 1) c9) = w10 at *
              go_wp2_with fail
              go_roundw
              case rel => exact ⟨n + 1, _, _, by omega, by go_num, HA9, HB9⟩
              case measure => simp [intOf]; omega
        · have he0 : L3 ws k 0 = L2 ws k := by
            have h0 : k = 0 := by omega
            rw [h0]; exact L3_first ws
          have HA2 : Hid (Au w.heap.size w1 A M (.slice (some ⟨sg, 0, none⟩) (textsR ws).length sc) (.slice (some ⟨tg, 0, none⟩) (textsR ws).length tc) (textsR ws) (textsR ws) vss fps (L3 ws k 0)) := by rw [he0]; exact HA
          have HB2 := HB
          have hd0 : decide ((0 : Int) < (k : Int)) = false := decide_eq_false (by omega)
          clear HA HB c0 c1 c2 cf ct he0
          go_wp2_with fail
          go_loopw [118] (fun i wr => ∃ (n : Nat) (vss : List (List Value)) (fps : List (List Nat)), n ≤ ws.length ∧ i = .int .i64 (n : Int) ∧ Hid (Au w.heap.size wr A M (.slice (some ⟨sg, 0, none⟩) (textsR ws).length sc) (.slice (some ⟨tg, 0, none⟩) (textsR ws).length tc) (textsR ws) (textsR ws) vss fps (L3 ws k n)) ∧ Hid (Below w.heap.size w wr)) (fun i _ => ws.length - (intOf i).toNat)
          case atStart => exact ⟨0, _, _, Nat.zero_le _, rfl, HA2, HB2⟩
          case round =>
            clear HA2 HB2
            obtain ⟨w5, rfl⟩ : ∃ z : World, z = wr := ⟨_, rfl⟩
            obtain ⟨n, vss, fps, hn, rfl, HA, HB⟩ := hrel
            by_cases hln : n < ws.length
            case neg =>
              obtain rfl : n = ws.length := by omega
              go_wp2_with fail
              go_roundw
              case rel => exact ⟨k + 1, vss, fps, by omega, by go_num, by rw [← L3_full hlk]; exact HA, HB⟩
              case measure => simp [intOf]; omega
            obtain ⟨b, off, rfl, hbl, hc⟩ := (HR.out.below HB.out).at (strs_ne hln)
            have hc1 := hc n _ (strs_at ws n hln)
            have hs20 := (HSZ.out (ws.getD n ByteArray.empty) (by rw [List.getD, List.getElem?_eq_getElem hln]; exact List.getElem_mem hln)).2
            have HEN := Lib.hid (ends_next (ws := ws) (t := tx ws k) (n := n))
            have HSF := Lib.hid (has_suffix (tx ws k) (ws.getD n ByteArray.empty) w5 (by omega) (by omega))
            obtain ⟨c0, c1, c2, cf⟩ := HA.out.cells
            have ct := HA.out.txt.cellAt k (by omega)
            rw [strs_at _ k hlk, htx] at ct
            clear hc hbl
            generalize ws.getD n ByteArray.empty = v at *
            cases he : endsB (tx ws k) v with
            | false =>
              rw [he] at HEN HSF
              have HEQ := Lib.hid (L3_same (ws := ws) (k := k) (n := n) (by rw [HEN.out]; simp))
              clear he
              go_wp2_with fail
              refine HSF.out.mono ?_
              rintro e w' ⟨rfl, rfl⟩
              go_wp2_with fail
              go_roundw
              case rel => exact ⟨n + 1, vss, fps, by omega, by go_num, by rw [HEQ.out]; exact HA, HB⟩
              case measure => simp [intOf]; omega
            | true =>
              rw [he] at HEN HSF
              have HEQ := Lib.hid (L3_next (ws := ws) (k := k) (n := n) (endsL ws (tx ws k) n ++ [(n : Int)]) (by rw [HEN.out]; simp))
              have hel := ends_len (ws := ws) (t := tx ws k) (n := n)
              have HA6 : Hid (Au w.heap.size (w5.drew.alloc (.cells #[.int .i64 (n : Int)] 3)) A M (.slice (some ⟨sg, 0, none⟩) (L3 ws k n).length sc) (.slice (some ⟨tg, 0, none⟩) (textsR ws).length tc) (textsR ws) (textsR ws) vss fps (L3 ws k n)) := by rw [L3_len]; exact Lib.hid (HA.out.drew.alloc _)
              obtain ⟨f, aq, c, hf, hv, hw1, hw2, how, hrow⟩ := HA6.out.row (L3_at (n := n) hlk)
              have hrow0 : w5.cell? ⟨sg, k * 4 + 3, none⟩ = some (.slice aq (endsL ws (tx ws k) n).length c) := by
                have h5 : Au w.heap.size w5 A M (.slice (some ⟨sg, 0, none⟩) (L3 ws k n).length sc) (.slice (some ⟨tg, 0, none⟩) (textsR ws).length tc) (textsR ws) (textsR ws) vss fps (L3 ws k n) := by rw [L3_len]; exact HA.out
                obtain ⟨f', a', c', hf', hv', _, _, _, hr'⟩ := h5.row (L3_at (n := n) hlk)
                rw [hv] at hv'
                simp only [Option.some.injEq, List.cons.injEq, Value.slice.injEq, and_true, true_and] at hv'
                have := hr'.cell 3 _ rfl
                rw [hv'.1, hv'.2]; exact this
              obtain ⟨hfe, hown0, -⟩ := ints_fp how
              have hown := own_up (base := w.heap.size) hown0 (fun g hg => HA6.out.fpb g (List.mem_flatten.2 ⟨f, List.mem_of_getElem? hf, by rw [hfe, hg]; simp⟩))
              have HROW := Lib.hid hrow; have HOWK := Lib.hid how; have HF := Lib.hid hf; have HOWN := Lib.hid hown; have HW1 := Lib.hid hw1; have HW2 := Lib.hid hw2
              have hsn := fun hbn : (sg : Nat) = sg => HA6.out.sts.lt sg rfl
              have hgs : sg < (w5.drew.alloc (.cells #[.int .i64 (n : Int)] 3)).heap.size := (hsn rfl).2
              have HWG : Hid ((Value.slice aq (endsL ws (tx ws k) n).length c).ownBlock ≠ some sg) := Lib.hid (fun e => HA6.out.fS (List.mem_flatten.2 ⟨f, List.mem_of_getElem? hf, by rw [hfe, e]; simp⟩) rfl)
              have HWA : Hid ((Value.slice aq (endsL ws (tx ws k) n).length c).ownBlock ≠ some A) := Lib.hid (fun e => HA6.out.fA (List.mem_flatten.2 ⟨f, List.mem_of_getElem? hf, by rw [hfe, e]; simp⟩) rfl)
              have hga := HA6.out.ltA
              clear how hf hown hown0 hfe hv hrow he hw1 hw2 hsn
              have hsz5 := HB.out.size
              have HXA := Lib.hid (L3_at (n := n) hlk)
              generalize endsL ws (tx ws k) n = ys at *
              go_wp2_with fail
              refine HSF.out.mono ?_
              rintro e w' ⟨rfl, rfl⟩
              go_wp2_with fail
              refine wp_region_G [18] (fun w' => w'.cell? ⟨A, 0, none⟩ = some (.slice (some ⟨sg, 0, none⟩) (textsR ws).length sc) ∧ w'.cell? ⟨sg, k * 4 + 3, none⟩ = some (.slice aq ys.length c)) (by kernel_rfl) ?_ (fun hHeld => ?_)
              · exact ⟨c0, hrow0⟩
              refine wpG_pure (i := 0) (oi := { dst := some 132, op := Go.Op.move (Go.Operand.tmp 3), type := 80, pos := "l11_search.go:120", after := #[], guard := none }) (v := ?vg38) rfl (by kernel_rfl) (fun _ _ _ h => h) (Or.inr hHeld) (Or.inl ⟨by rfl, ?yg38⟩) ?_
              case yg38 => (intro wS _; go_simp <;> with_reducible rfl)
              try simp only [Act.put, List.setIfInBounds_toArray, List.set_cons_zero, List.set_cons_succ]
              refine wpG_pure (i := 1) (oi := { dst := some 133, op := Go.Op.nilCheck (Go.Operand.tmp 132), type := 0, pos := "l11_search.go:120", after := #[{ on := 0, ground := Go.Ground.data }], guard := none }) (v := ?vg39) rfl (by kernel_rfl) (fun _ _ _ h => h) (Or.inr hHeld) (Or.inl ⟨by rfl, ?yg39⟩) ?_
              case yg39 => (intro wS _; go_simp <;> with_reducible rfl)
              try simp only [Act.put, List.setIfInBounds_toArray, List.set_cons_zero, List.set_cons_succ]
              refine wpG_pure (i := 2) (oi := { dst := some 134, op := Go.Op.fieldAddr 84 (Go.Operand.tmp 133) 0, type := 0, pos := "l11_search.go:120", after := #[{ on := 1, ground := Go.Ground.data }], guard := none }) (v := ?vg40) rfl (by kernel_rfl) (fun _ _ _ h => h) (Or.inr hHeld) (Or.inl ⟨by rfl, ?yg40⟩) ?_
              case yg40 => (intro wS _; go_simp <;> with_reducible rfl)
              try simp only [Act.put, List.setIfInBounds_toArray, List.set_cons_zero, List.set_cons_succ]
              refine wpG_load (i := 3) (oi := { dst := some 135, op := Go.Op.load 47 (Go.Operand.tmp 134), type := 47, pos := "l11_search.go:120", after := #[{ on := 2, ground := Go.Ground.data }], guard := none }) (v := ?vg41) [[18, 3]] rfl (by kernel_rfl) (fun _ _ _ h => h) hHeld (Or.inl ⟨by rfl, ?yg41⟩) ?_
              case yg41 => (intro wS hSw; (try dsimp only at hSw); go_simp <;> with_reducible rfl)
              try simp only [Act.put, List.setIfInBounds_toArray, List.set_cons_zero, List.set_cons_succ]
              refine wpG_pure (i := 4) (oi := { dst := some 136, op := Go.Op.move (Go.Operand.tmp 10), type := 3, pos := "l11_search.go:120", after := #[], guard := none }) (v := ?vg42) rfl (by kernel_rfl) (fun _ _ _ h => h) (Or.inr hHeld) (Or.inl ⟨by rfl, ?yg42⟩) ?_
              case yg42 => (intro wS _; go_simp <;> with_reducible rfl)
              try simp only [Act.put, List.setIfInBounds_toArray, List.set_cons_zero, List.set_cons_succ]
              refine wpG_pure (i := 5) (oi := { dst := some 137, op := Go.Op.move (Go.Operand.tmp 3), type := 80, pos := "l11_search.go:120", after := #[], guard := none }) (v := ?vg43) rfl (by kernel_rfl) (fun _ _ _ h => h) (Or.inr hHeld) (Or.inl ⟨by rfl, ?yg43⟩) ?_
              case yg43 => (intro wS _; go_simp <;> with_reducible rfl)
              try simp only [Act.put, List.setIfInBounds_toArray, List.set_cons_zero, List.set_cons_succ]
              refine wpG_pure (i := 6) (oi := { dst := some 138, op := Go.Op.nilCheck (Go.Operand.tmp 137), type := 0, pos := "l11_search.go:120", after := #[{ on := 5, ground := Go.Ground.data }], guard := none }) (v := ?vg44) rfl (by kernel_rfl) (fun _ _ _ h => h) (Or.inr hHeld) (Or.inl ⟨by rfl, ?yg44⟩) ?_
              case yg44 => (intro wS _; go_simp <;> with_reducible rfl)
              try simp only [Act.put, List.setIfInBounds_toArray, List.set_cons_zero, List.set_cons_succ]
              refine wpG_pure (i := 7) (oi := { dst := some 139, op := Go.Op.fieldAddr 84 (Go.Operand.tmp 138) 0, type := 0, pos := "l11_search.go:120", after := #[{ on := 6, ground := Go.Ground.data }], guard := none }) (v := ?vg45) rfl (by kernel_rfl) (fun _ _ _ h => h) (Or.inr hHeld) (Or.inl ⟨by rfl, ?yg45⟩) ?_
              case yg45 => (intro wS _; go_simp <;> with_reducible rfl)
              try simp only [Act.put, List.setIfInBounds_toArray, List.set_cons_zero, List.set_cons_succ]
              refine wpG_load (i := 8) (oi := { dst := some 140, op := Go.Op.load 47 (Go.Operand.tmp 139), type := 47, pos := "l11_search.go:120", after := #[{ on := 7, ground := Go.Ground.data }], guard := none }) (v := ?vg46) [[18, 8]] rfl (by kernel_rfl) (fun _ _ _ h => h) hHeld (Or.inl ⟨by rfl, ?yg46⟩) ?_
              case yg46 => (intro wS hSw; (try dsimp only at hSw); go_simp <;> with_reducible rfl)
              try simp only [Act.put, List.setIfInBounds_toArray, List.set_cons_zero, List.set_cons_succ]
              refine wpG_pure (i := 9) (oi := { dst := some 141, op := Go.Op.move (Go.Operand.tmp 10), type := 3, pos := "l11_search.go:120", after := #[], guard := none }) (v := ?vg47) rfl (by kernel_rfl) (fun _ _ _ h => h) (Or.inr hHeld) (Or.inl ⟨by rfl, ?yg47⟩) ?_
              case yg47 => (intro wS _; go_simp <;> with_reducible rfl)
              try simp only [Act.put, List.setIfInBounds_toArray, List.set_cons_zero, List.set_cons_succ]
              refine wpG_pure (i := 10) (oi := { dst := some 142, op := Go.Op.indexAddr 47 (Go.Operand.tmp 140) (Go.Operand.tmp 141), type := 0, pos := "l11_search.go:120", after := #[{ on := 8, ground := Go.Ground.data }, { on := 9, ground := Go.Ground.data }], guard := none }) (v := ?vg48) rfl (by kernel_rfl) (fun _ _ _ h => h) (Or.inr hHeld) (Or.inl ⟨by rfl, ?yg48⟩) ?_
              case yg48 => (intro wS _; go_simp <;> with_reducible rfl)
              try simp only [Act.put, List.setIfInBounds_toArray, List.set_cons_zero, List.set_cons_succ]
              refine wpG_pure (i := 11) (oi := { dst := some 143, op := Go.Op.fieldAddr 64 (Go.Operand.tmp 142) 3, type := 0, pos := "l11_search.go:120", after := #[{ on := 10, ground := Go.Ground.data }], guard := none }) (v := ?vg49) rfl (by kernel_rfl) (fun _ _ _ h => h) (Or.inr hHeld) (Or.inl ⟨by rfl, ?yg49⟩) ?_
              case yg49 => (intro wS _; go_simp <;> with_reducible rfl)
              try simp only [Act.put, List.setIfInBounds_toArray, List.set_cons_zero, List.set_cons_succ]
              refine wpG_load (i := 12) (oi := { dst := some 144, op := Go.Op.load 25 (Go.Operand.tmp 143), type := 25, pos := "l11_search.go:120", after := #[{ on := 11, ground := Go.Ground.data }], guard := none }) (v := ?vg50) [[18, 12]] rfl (by kernel_rfl) (fun _ _ _ h => h) hHeld (Or.inl ⟨by rfl, ?yg50⟩) ?_
              case yg50 => (intro wS hSw; (try dsimp only at hSw); go_simp <;> with_reducible rfl)
              try simp only [Act.put, List.setIfInBounds_toArray, List.set_cons_zero, List.set_cons_succ]
              refine wpG_pure (i := 13) (oi := { dst := some 145, op := Go.Op.move (Go.Operand.tmp 11), type := 3, pos := "l11_search.go:120", after := #[], guard := none }) (v := ?vg51) rfl (by kernel_rfl) (fun _ _ _ h => h) (Or.inr hHeld) (Or.inl ⟨by rfl, ?yg51⟩) ?_
              case yg51 => (intro wS _; go_simp <;> with_reducible rfl)
              try simp only [Act.put, List.setIfInBounds_toArray, List.set_cons_zero, List.set_cons_succ]
              refine wpG_one (i := 14) (o := { dst := some 146, op := Go.Op.buildSlice 25 1 #[(0, Go.Operand.tmp 145)], type := 25, pos := "l11_search.go:120", after := #[{ on := 13, ground := Go.Ground.data }], guard := none }) rfl (by kernel_rfl) (fun K hK => ?_)
              go_simp
              refine hK.out _ _ (Or.inr ?khHeld52) (fun hHeld52S => ?_)
              case khHeld52 => exact ⟨cell_alloc _ c0, cell_alloc _ hrow0⟩
              have hHeld52 := hHeld52S.held (by kernel_rfl)
              clear hK K
              try simp only [Act.put, List.setIfInBounds_toArray, List.set_cons_zero, List.set_cons_succ]
              refine wpG_one (i := 15) (o := { dst := some 147, op := Go.Op.call { callee := Go.Callee.builtin Go.Builtin.append, args := #[Go.Operand.tmp 144, Go.Operand.tmp 146], argTypes := #[25, 25] }, type := 25, pos := "l11_search.go:120", after := #[{ on := 12, ground := Go.Ground.data }, { on := 14, ground := Go.Ground.data }], guard := none }) rfl (by kernel_rfl) (fun K hK => ?_)
              refine step_append_lies _ rfl (.tmp 144) (.tmp 146) 25 rfl w.heap.size 3 q0 (.int .i64 0) 1 8 Try.underlying25 hq hq0 hq1 hq2 rfl (by decide) _ ys.length (ints ys) rfl HOWN.out ⟨w5.heap.size, 0, none⟩ 1 1 [.int .i64 (n : Int)] rfl rfl (news_one _ _ _) (by simp [Value.oneCell']) (by omega) (by unfold maxLen; omega) (by omega) (by simp; omega) (w5.heap.size + 1) (by simp) ?_
              intro g9 c9 w9 hown9 hgrow hat _
              have kx := hgrow.block sg hgs (fun e => HWG.out e.symm)
              have cz := (World.cell?_of_block (a := ⟨sg, k * 4 + 3, none⟩) kx).trans (cell_alloc (.cells #[.int .i64 (n : Int)] 3) (show w5.drew.cell? ⟨sg, k * 4 + 3, none⟩ = _ from hrow0))
              have ez := (World.frozen?_of_block (a := ⟨sg, k * 4 + 3, none⟩) kx).trans (HROW.out.frozen (k * 4 + 3))
              have ca := (World.cell?_of_block (a := ⟨A, 0, none⟩) (hgrow.block A hga (fun e => HWA.out e.symm))).trans (cell_alloc (.cells #[.int .i64 (n : Int)] 3) (show w5.drew.cell? ⟨A, 0, none⟩ = _ from c0))
              have HA9 := Lib.hid (HA6.out.putWord (z := (n : Int)) HXA.out HF.out HW1.out HW2.out rfl HOWK.out HROW.out hgrow (by simp only [ints, List.map_append, List.map_cons, List.map_nil]; exact hown9) (hat.imp id (fun h => by rw [h]; simp)) (WalkArith.wf_i64 (by omega)))
              have HB9 : Hid (Below w.heap.size w (w9.setCell ⟨sg, k * 4 + 3, none⟩ (.slice (some ⟨g9, 0, none⟩) (ys.length + 1) c9))) := Lib.hid (below_put (v := .slice aq ys.length c) ((rdrew HB.out 1 : Below w.heap.size w w5.drew).alloc hsz5 _) hgrow (by simp; omega) (fun j hj => (HOWN.out.lt j hj).1) (HA.out.sts.lt sg rfl).1)
              clear hown9 hgrow hat kx
              refine hK.out _ _ (Or.inr ?khHeld53) (fun hHeld53S => ?_)
              case khHeld53 => exact ⟨ca, cz⟩
              have hHeld53 := hHeld53S.held (by kernel_rfl)
              clear hK K
              try simp only [Act.put, List.setIfInBounds_toArray, List.set_cons_zero, List.set_cons_succ]
              refine wpG_pure (i := 16) (oi := { dst := some 148, op := Go.Op.indexAddr 47 (Go.Operand.tmp 135) (Go.Operand.tmp 136), type := 0, pos := "l11_search.go:120", after := #[{ on := 3, ground := Go.Ground.data }, { on := 4, ground := Go.Ground.data }, { on := 0, ground := Go.Ground.phase }, { on := 1, ground := Go.Ground.phase }, { on := 2, ground := Go.Ground.phase }, { on := 3, ground := Go.Ground.phase }, { on := 4, ground := Go.Ground.phase }, { on := 5, ground := Go.Ground.phase }, { on := 6, ground := Go.Ground.phase }, { on := 7, ground := Go.Ground.phase }, { on := 8, ground := Go.Ground.phase }, { on := 9, ground := Go.Ground.phase }, { on := 10, ground := Go.Ground.phase }, { on := 11, ground := Go.Ground.phase }, { on := 12, ground := Go.Ground.phase }, { on := 13, ground := Go.Ground.phase }, { on := 14, ground := Go.Ground.phase }, { on := 15, ground := Go.Ground.phase }], guard := none }) (v := ?vg54) rfl (by kernel_rfl) (fun _ _ _ h => h) (Or.inr hHeld53) (Or.inl ⟨by rfl, ?yg54⟩) ?_
              case yg54 => (intro wS _; go_simp <;> with_reducible rfl)
              try simp only [Act.put, List.setIfInBounds_toArray, List.set_cons_zero, List.set_cons_succ]
              refine wpG_pure (i := 17) (oi := { dst := some 149, op := Go.Op.fieldAddr 64 (Go.Operand.tmp 148) 3, type := 0, pos := "l11_search.go:120", after := #[{ on := 16, ground := Go.Ground.data }, { on := 0, ground := Go.Ground.phase }, { on := 1, ground := Go.Ground.phase }, { on := 2, ground := Go.Ground.phase }, { on := 3, ground := Go.Ground.phase }, { on := 4, ground := Go.Ground.phase }, { on := 5, ground := Go.Ground.phase }, { on := 6, ground := Go.Ground.phase }, { on := 7, ground := Go.Ground.phase }, { on := 8, ground := Go.Ground.phase }, { on := 9, ground := Go.Ground.phase }, { on := 10, ground := Go.Ground.phase }, { on := 11, ground := Go.Ground.phase }, { on := 12, ground := Go.Ground.phase }, { on := 13, ground := Go.Ground.phase }, { on := 14, ground := Go.Ground.phase }, { on := 15, ground := Go.Ground.phase }], guard := none }) (v := ?vg55) rfl (by kernel_rfl) (fun _ _ _ h => h) (Or.inr hHeld53) (Or.inl ⟨by rfl, ?yg55⟩) ?_
              case yg55 => (intro wS _; go_simp <;> with_reducible rfl)
              try simp only [Act.put, List.setIfInBounds_toArray, List.set_cons_zero, List.set_cons_succ]
              refine wpG_one (i := 18) (o := { dst := none, op := Go.Op.store 25 (Go.Operand.tmp 149) (Go.Operand.tmp 147), type := 0, pos := "l11_search.go:120", after := #[{ on := 17, ground := Go.Ground.data }, { on := 15, ground := Go.Ground.data }, { on := 15, ground := Go.Ground.chain }, { on := 0, ground := Go.Ground.phase }, { on := 1, ground := Go.Ground.phase }, { on := 2, ground := Go.Ground.phase }, { on := 3, ground := Go.Ground.phase }, { on := 4, ground := Go.Ground.phase }, { on := 5, ground := Go.Ground.phase }, { on := 6, ground := Go.Ground.phase }, { on := 7, ground := Go.Ground.phase }, { on := 8, ground := Go.Ground.phase }, { on := 9, ground := Go.Ground.phase }, { on := 10, ground := Go.Ground.phase }, { on := 11, ground := Go.Ground.phase }, { on := 12, ground := Go.Ground.phase }, { on := 13, ground := Go.Ground.phase }, { on := 14, ground := Go.Ground.phase }, { on := 15, ground := Go.Ground.phase }], guard := none }) rfl (by kernel_rfl) (fun K hK => ?_)
              go_simp
              refine hK.out _ _ (Or.inl (by kernel_rfl)) (fun _ => ?_)
              clear hK K
              try simp only [Act.put, List.setIfInBounds_toArray, List.set_cons_zero, List.set_cons_succ]
              refine wpG_done (by kernel_rfl) ?_
              skip
              obtain ⟨vss9, fps9, hA9⟩ := HA9.out
              rw [HEQ.out, L3_len] at hA9
              replace HA9 := Lib.hid hA9
              clear hA9
              generalize w9.setCell ⟨sg, k * 4 + 3, none⟩ (.slice (some ⟨g9, 0, none⟩) (ys.length + 1) c9) = w10 at *
              go_wp2_with fail
              go_roundw
              case rel => exact ⟨n + 1, _, _, by omega, by go_num, HA9, HB9⟩
              case measure => simp [intOf]; omega
    obtain ⟨b, off, rfl, hbl, hc⟩ := (HR.out.below HB.out).at (strs_ne hlk)
    have hc1 := hc k _ (strs_at ws k hlk)
    have hs20 := (HSZ.out (ws.getD k ByteArray.empty) (by rw [List.getD, List.getElem?_eq_getElem hlk]; exact List.getElem_mem hlk)).2
    have HN := Lib.hid (HW.out k hlk [ByteArray.empty])
    clear hc hbl
    generalize ws.getD k ByteArray.empty = s at *
    go_wp2_with fail
    go_loopw [28] (fun i wr => ∃ (m : Nat) (acc2 : List ByteArray) (sv tv : Value) (vss : List (List Value)) (fps : List (List Nat)) (xs : List St), m ≤ s.size ∧ i = .int .i64 (m : Int) ∧ acc2.length ≤ 1 + 20 * k + m ∧ Hid ((prefsN s m).foldl putT acc = acc2) ∧ Hid (s.extract 0 m ∈ acc2) ∧ Hid (Inv acc2 xs) ∧ Hid (Au w.heap.size wr A M sv tv acc2 acc2 vss fps xs) ∧ Hid (Below w.heap.size w wr)) (fun i _ => s.size - (intOf i).toNat)
    case atStart => exact ⟨0, acc, sv, tv, vss, fps, xs, Nat.zero_le _, rfl, by omega, rfl, Lib.hid (by rw [size_zero (s := s.extract 0 0) (by rw [ex_size _ _ _ (Nat.zero_le _)])]; exact empty_in HF.out), HI, HA, HB⟩
    case round =>
      clear HI HA HB
      clear sv tv vss fps xs
      obtain ⟨w1, rfl⟩ : ∃ z : World, z = wr := ⟨_, rfl⟩
      obtain ⟨m, acc2, sv, tv, vss, fps, xs, hm, rfl, hal2, HF2, HIN, HI2, HA2, HB2⟩ := hrel
      by_cases hms : m < s.size
      case neg =>
        obtain rfl : m = s.size := by omega
        go_wp2_with fail
        go_roundw
        case rel => exact ⟨k + 1, acc2, sv, tv, vss, fps, xs, by omega, by go_num, by omega, Lib.hid (by rw [HN.out, HF.out]; exact HF2.out), HI2, HA2, HB2⟩
        case measure => simp [intOf]; omega
      obtain ⟨sq, sc, hv⟩ := form_of_own HA2.out.sts
      subst hv
      obtain ⟨tq, tc, hv⟩ := form_of_own HA2.out.txt
      subst hv
      have HXL := Lib.hid HI2.out.1
      obtain ⟨c0, c1, c2, cf⟩ := HA2.out.cells
      have HMAP := Lib.hid HA2.out.map
      have e1 : IntKind.i64.wrap ((m : Int) + 1) = (m : Int) + 1 := IntWalk.i64_in _ (by omega)
      have e1' : ((m : Int) + 1).toNat = m + 1 := by omega
      have e2 : (m : Int) + 1 ≤ (s.size : Int) := by omega
      have e3 : (0 : Int) ≤ (m : Int) + 1 := by omega
      have hxs : (s.extract 0 (m + 1)).size = m + 1 := by rw [ex_size _ _ _ (by omega)]; omega
      have HP := Lib.hid (prefs_next s m acc)
      have HBY := Lib.hid (byte_of hms)
      have HPO := Lib.hid (pre_of hms)
      generalize hx : s.extract 0 (m + 1) = x at *
      by_cases hin : x ∈ acc2
      · have hinT := inT_iff.2 hin
        have HP2 : Hid ((prefsN s (m + 1)).foldl putT acc = acc2) := Lib.hid (by rw [HP.out, HF2.out]; exact put_yes hin)
        have HIN2 : Hid (s.extract 0 (m + 1) ∈ acc2) := Lib.hid (by rw [hx]; exact hin)
        clear hin
        go_wp2_with (at_lookup; refine wpList_maps_ok rfl _ _ rfl M acc2 rfl HMAP.out x (by unfold maxLen; omega) rfl ?_; intro c hc; rw [hinT])
        go_roundw
        case rel => exact ⟨m + 1, acc2, _, _, vss, fps, xs, by omega, by go_num, by omega, HP2, HIN2, HI2, HA2, HB2⟩
        case measure => simp [intOf]; omega
      · have hinT := inT_no hin
        have HP2 : Hid ((prefsN s (m + 1)).foldl putT acc = acc2 ++ [x]) := Lib.hid (by rw [HP.out, HF2.out]; exact put_no hin)
        have HIN2 : Hid (s.extract 0 (m + 1) ∈ acc2 ++ [x]) := Lib.hid (by rw [hx]; simp)
        have HNI := Lib.hid hin
        clear hin
        go_wp2_with (at_lookup; refine wpList_maps_ok rfl _ _ rfl M acc2 rfl HMAP.out x (by unfold maxLen; omega) rfl ?_; intro c hc; rw [hinT])
        refine wp_region_G [10] (fun w' => w'.cell? ⟨A, 2, none⟩ = some (.map (some M)) ∧ w'.cell? ⟨A, 0, none⟩ = some (.slice sq xs.length sc)) (by kernel_rfl) ?_ (fun hHeld => ?_)
        · exact ⟨c2, c0⟩
        refine wpG_pure (i := 0) (oi := { dst := some 46, op := Go.Op.move (Go.Operand.tmp 3), type := 80, pos := "l11_search.go:108", after := #[], guard := none }) (v := ?vg57) rfl (by kernel_rfl) (fun _ _ _ h => h) (Or.inr hHeld) (Or.inl ⟨by rfl, ?yg57⟩) ?_
        case yg57 => (intro wS _; go_simp <;> with_reducible rfl)
        try simp only [Act.put, List.setIfInBounds_toArray, List.set_cons_zero, List.set_cons_succ]
        refine wpG_pure (i := 1) (oi := { dst := some 47, op := Go.Op.nilCheck (Go.Operand.tmp 46), type := 0, pos := "l11_search.go:108", after := #[{ on := 0, ground := Go.Ground.data }], guard := none }) (v := ?vg58) rfl (by kernel_rfl) (fun _ _ _ h => h) (Or.inr hHeld) (Or.inl ⟨by rfl, ?yg58⟩) ?_
        case yg58 => (intro wS _; go_simp <;> with_reducible rfl)
        try simp only [Act.put, List.setIfInBounds_toArray, List.set_cons_zero, List.set_cons_succ]
        refine wpG_pure (i := 2) (oi := { dst := some 48, op := Go.Op.fieldAddr 84 (Go.Operand.tmp 47) 2, type := 0, pos := "l11_search.go:108", after := #[{ on := 1, ground := Go.Ground.data }], guard := none }) (v := ?vg59) rfl (by kernel_rfl) (fun _ _ _ h => h) (Or.inr hHeld) (Or.inl ⟨by rfl, ?yg59⟩) ?_
        case yg59 => (intro wS _; go_simp <;> with_reducible rfl)
        try simp only [Act.put, List.setIfInBounds_toArray, List.set_cons_zero, List.set_cons_succ]
        refine wpG_load (i := 3) (oi := { dst := some 49, op := Go.Op.load 82 (Go.Operand.tmp 48), type := 82, pos := "l11_search.go:108", after := #[{ on := 2, ground := Go.Ground.data }], guard := none }) (v := ?vg60) [[10, 3]] rfl (by kernel_rfl) (fun _ _ _ h => h) hHeld (Or.inl ⟨by rfl, ?yg60⟩) ?_
        case yg60 => (intro wS hSw; (try dsimp only at hSw); go_simp <;> with_reducible rfl)
        try simp only [Act.put, List.setIfInBounds_toArray, List.set_cons_zero, List.set_cons_succ]
        refine wpG_pure (i := 4) (oi := { dst := some 50, op := Go.Op.move (Go.Operand.tmp 7), type := 9, pos := "l11_search.go:108", after := #[], guard := none }) (v := ?vg61) rfl (by kernel_rfl) (fun _ _ _ h => h) (Or.inr hHeld) (Or.inl ⟨by rfl, ?yg61⟩) ?_
        case yg61 => (intro wS _; go_simp <;> with_reducible rfl)
        try simp only [Act.put, List.setIfInBounds_toArray, List.set_cons_zero, List.set_cons_succ]
        refine wpG_pure (i := 5) (oi := { dst := some 51, op := Go.Op.move (Go.Operand.tmp 3), type := 80, pos := "l11_search.go:108", after := #[], guard := none }) (v := ?vg62) rfl (by kernel_rfl) (fun _ _ _ h => h) (Or.inr hHeld) (Or.inl ⟨by rfl, ?yg62⟩) ?_
        case yg62 => (intro wS _; go_simp <;> with_reducible rfl)
        try simp only [Act.put, List.setIfInBounds_toArray, List.set_cons_zero, List.set_cons_succ]
        refine wpG_pure (i := 6) (oi := { dst := some 52, op := Go.Op.nilCheck (Go.Operand.tmp 51), type := 0, pos := "l11_search.go:108", after := #[{ on := 5, ground := Go.Ground.data }], guard := none }) (v := ?vg63) rfl (by kernel_rfl) (fun _ _ _ h => h) (Or.inr hHeld) (Or.inl ⟨by rfl, ?yg63⟩) ?_
        case yg63 => (intro wS _; go_simp <;> with_reducible rfl)
        try simp only [Act.put, List.setIfInBounds_toArray, List.set_cons_zero, List.set_cons_succ]
        refine wpG_pure (i := 7) (oi := { dst := some 53, op := Go.Op.fieldAddr 84 (Go.Operand.tmp 52) 0, type := 0, pos := "l11_search.go:108", after := #[{ on := 6, ground := Go.Ground.data }], guard := none }) (v := ?vg64) rfl (by kernel_rfl) (fun _ _ _ h => h) (Or.inr hHeld) (Or.inl ⟨by rfl, ?yg64⟩) ?_
        case yg64 => (intro wS _; go_simp <;> with_reducible rfl)
        try simp only [Act.put, List.setIfInBounds_toArray, List.set_cons_zero, List.set_cons_succ]
        refine wpG_load (i := 8) (oi := { dst := some 54, op := Go.Op.load 47 (Go.Operand.tmp 53), type := 47, pos := "l11_search.go:108", after := #[{ on := 7, ground := Go.Ground.data }], guard := none }) (v := ?vg65) [[10, 8]] rfl (by kernel_rfl) (fun _ _ _ h => h) hHeld (Or.inl ⟨by rfl, ?yg65⟩) ?_
        case yg65 => (intro wS hSw; (try dsimp only at hSw); go_simp <;> with_reducible rfl)
        try simp only [Act.put, List.setIfInBounds_toArray, List.set_cons_zero, List.set_cons_succ]
        refine wpG_pure (i := 9) (oi := { dst := some 55, op := Go.Op.call { callee := Go.Callee.builtin Go.Builtin.len, args := #[Go.Operand.tmp 54], argTypes := #[47] }, type := 3, pos := "l11_search.go:108", after := #[{ on := 8, ground := Go.Ground.data }], guard := none }) (v := ?vg66) rfl (by kernel_rfl) (fun _ _ _ h => h) (Or.inr hHeld) (Or.inl ⟨by rfl, ?yg66⟩) ?_
        case yg66 => (intro wS _; go_simp <;> with_reducible rfl)
        try simp only [Act.put, List.setIfInBounds_toArray, List.set_cons_zero, List.set_cons_succ]
        refine wpG_one (i := 10) (o := { dst := none, op := Go.Op.mapUpdate 82 (Go.Operand.tmp 49) (Go.Operand.tmp 50) (Go.Operand.tmp 55), type := 0, pos := "l11_search.go:108", after := #[{ on := 3, ground := Go.Ground.data }, { on := 4, ground := Go.Ground.data }, { on := 9, ground := Go.Ground.data }, { on := 0, ground := Go.Ground.phase }, { on := 1, ground := Go.Ground.phase }, { on := 2, ground := Go.Ground.phase }, { on := 3, ground := Go.Ground.phase }, { on := 4, ground := Go.Ground.phase }, { on := 5, ground := Go.Ground.phase }, { on := 6, ground := Go.Ground.phase }, { on := 7, ground := Go.Ground.phase }, { on := 8, ground := Go.Ground.phase }, { on := 9, ground := Go.Ground.phase }], guard := none }) rfl (by kernel_rfl) (fun K hK => ?_)
        refine step_maps_put rfl _ _ _ rfl M acc2 rfl HA2.out.drew.map x HNI.out (by unfold maxLen; omega) (by omega) rfl (by show Value.int .i64 (xs.length : Int) = _; rw [HXL.out]) ?_
        intro w6 hm6 hg6
        have HA6 := Lib.hid (HA2.out.drew.putMap hg6 hm6)
        have HB6 := Lib.hid (Below.grown HB2.out (below_undrewG hg6) HB2.out.size (fun j hj => by simp only [Option.some.injEq] at hj; have := HA2.out.loM; omega))
        clear hm6 hg6
        refine hK.out _ _ (Or.inl (by kernel_rfl)) (fun _ => ?_)
        clear hK K
        try simp only [Act.put, List.setIfInBounds_toArray, List.set_cons_zero, List.set_cons_succ]
        refine wpG_done (by kernel_rfl) ?_
        skip
        obtain ⟨q, _, hqm⟩ := at_mem HIN.out
        have HQ := Lib.hid hqm
        have hqm2 : (acc2 ++ [x])[q]? = some (s.extract 0 m) := by rw [List.getElem?_append_left (List.getElem?_eq_some_iff.1 hqm).1]; exact hqm
        have hqa := (List.getElem?_eq_some_iff.1 hqm).1
        have hpz : (s.extract 0 m).size ≤ maxLen := by rw [ex_size _ _ _ (by omega)]; unfold maxLen; omega
        have HLK := Lib.hid (fun wx (h : MapS wx M (acc2 ++ [x])) => maps_look_at h hqm2 hpz)
        have HU : Hid ((Lit.int .i64 (q : Int)).wf = true) := Lib.hid (WalkArith.wf_i64 (by omega))
        have hby : (s[m]'hms).toNat = (byteR x).toNat := by rw [atS_eq s m hms, HBY.out]
        have lk6 := HLK.out w6.drew HA6.out.drew.map
        obtain ⟨c0, c1, c2, cf⟩ := HA6.out.cells
        clear hqm hqm2 hpz
        have HA7 := Lib.hid (HA6.out.drew.alloc (.cells #[.int .i64 (q : Int), .int .u8 ((byteR x).toNat : Int), .int .i64 0, .slice none 0 0] 64))
        have KB : Hid ((w6.drew.alloc (.cells #[.int .i64 (q : Int), .int .u8 ((byteR x).toNat : Int), .int .i64 0, .slice none 0 0] 64)).cell? ⟨A, 0, none⟩ = some (.slice sq xs.length sc) ∧ (w6.drew.alloc (.cells #[.int .i64 (q : Int), .int .u8 ((byteR x).toNat : Int), .int .i64 0, .slice none 0 0] 64)).cell? ⟨A, 2, none⟩ = some (.map (some M)) ∧ (Instr.lookup 82 (.map (some M)) (.string (s.extract 0 m)) false).run Try.prog (w6.drew.alloc (.cells #[.int .i64 (q : Int), .int .u8 ((byteR x).toNat : Int), .int .i64 0, .slice none 0 0] 64)) = .ok (.int .i64 (q : Int)) (w6.drew.alloc (.cells #[.int .i64 (q : Int), .int .u8 ((byteR x).toNat : Int), .int .i64 0, .slice none 0 0] 64))) :=
          Lib.hid ⟨HA7.out.cells.1, HA7.out.cells.2.2.1, HLK.out _ HA7.out.map⟩
        have HNW := Lib.hid (World.news_of_block (cs := #[Value.int .i64 (q : Int), Value.int .u8 ((byteR x).toNat : Int), Value.int .i64 0, Value.slice none 0 0]) (t := 64) (fr := (0, 0)) (heap_alloc_new w6.drew (.cells #[.int .i64 (q : Int), .int .u8 ((byteR x).toNat : Int), .int .i64 0, .slice none 0 0] 64)))
        have hz6 : w.heap.size ≤ w6.heap.size := HB6.out.size
        have hxl : xs.length ≤ 161 := by have := HXL.out; omega
        go_wp2_with fail
        refine wp_region_G [18] (fun w' => w'.cell? ⟨A, 0, none⟩ = some (.slice sq xs.length sc) ∧ w'.cell? ⟨A, 2, none⟩ = some (.map (some M)) ∧ (Instr.lookup 82 (.map (some M)) (.string (s.extract 0 m)) false).run Try.prog w' = .ok (.int .i64 (q : Int)) w') (by kernel_rfl) ?_ (fun hHeld => ?_)
        · exact ⟨c0, c2, lk6⟩
        refine wpG_pure (i := 0) (oi := { dst := some 56, op := Go.Op.move (Go.Operand.tmp 3), type := 80, pos := "l11_search.go:109", after := #[], guard := none }) (v := ?vg68) rfl (by kernel_rfl) (fun _ _ _ h => h) (Or.inr hHeld) (Or.inl ⟨by rfl, ?yg68⟩) ?_
        case yg68 => (intro wS _; go_simp <;> with_reducible rfl)
        try simp only [Act.put, List.setIfInBounds_toArray, List.set_cons_zero, List.set_cons_succ]
        refine wpG_pure (i := 1) (oi := { dst := some 57, op := Go.Op.move (Go.Operand.tmp 3), type := 80, pos := "l11_search.go:109", after := #[], guard := none }) (v := ?vg69) rfl (by kernel_rfl) (fun _ _ _ h => h) (Or.inr hHeld) (Or.inl ⟨by rfl, ?yg69⟩) ?_
        case yg69 => (intro wS _; go_simp <;> with_reducible rfl)
        try simp only [Act.put, List.setIfInBounds_toArray, List.set_cons_zero, List.set_cons_succ]
        refine wpG_pure (i := 2) (oi := { dst := some 58, op := Go.Op.nilCheck (Go.Operand.tmp 57), type := 0, pos := "l11_search.go:109", after := #[{ on := 1, ground := Go.Ground.data }], guard := none }) (v := ?vg70) rfl (by kernel_rfl) (fun _ _ _ h => h) (Or.inr hHeld) (Or.inl ⟨by rfl, ?yg70⟩) ?_
        case yg70 => (intro wS _; go_simp <;> with_reducible rfl)
        try simp only [Act.put, List.setIfInBounds_toArray, List.set_cons_zero, List.set_cons_succ]
        refine wpG_pure (i := 3) (oi := { dst := some 59, op := Go.Op.fieldAddr 84 (Go.Operand.tmp 58) 0, type := 0, pos := "l11_search.go:109", after := #[{ on := 2, ground := Go.Ground.data }], guard := none }) (v := ?vg71) rfl (by kernel_rfl) (fun _ _ _ h => h) (Or.inr hHeld) (Or.inl ⟨by rfl, ?yg71⟩) ?_
        case yg71 => (intro wS _; go_simp <;> with_reducible rfl)
        try simp only [Act.put, List.setIfInBounds_toArray, List.set_cons_zero, List.set_cons_succ]
        refine wpG_load (i := 4) (oi := { dst := some 60, op := Go.Op.load 47 (Go.Operand.tmp 59), type := 47, pos := "l11_search.go:109", after := #[{ on := 3, ground := Go.Ground.data }], guard := none }) (v := ?vg72) [[18, 4]] rfl (by kernel_rfl) (fun _ _ _ h => h) hHeld (Or.inl ⟨by rfl, ?yg72⟩) ?_
        case yg72 => (intro wS hSw; (try dsimp only at hSw); go_simp <;> with_reducible rfl)
        try simp only [Act.put, List.setIfInBounds_toArray, List.set_cons_zero, List.set_cons_succ]
        refine wpG_pure (i := 5) (oi := { dst := some 61, op := Go.Op.move (Go.Operand.tmp 3), type := 80, pos := "l11_search.go:109", after := #[], guard := none }) (v := ?vg73) rfl (by kernel_rfl) (fun _ _ _ h => h) (Or.inr hHeld) (Or.inl ⟨by rfl, ?yg73⟩) ?_
        case yg73 => (intro wS _; go_simp <;> with_reducible rfl)
        try simp only [Act.put, List.setIfInBounds_toArray, List.set_cons_zero, List.set_cons_succ]
        refine wpG_pure (i := 6) (oi := { dst := some 62, op := Go.Op.nilCheck (Go.Operand.tmp 61), type := 0, pos := "l11_search.go:109", after := #[{ on := 5, ground := Go.Ground.data }], guard := none }) (v := ?vg74) rfl (by kernel_rfl) (fun _ _ _ h => h) (Or.inr hHeld) (Or.inl ⟨by rfl, ?yg74⟩) ?_
        case yg74 => (intro wS _; go_simp <;> with_reducible rfl)
        try simp only [Act.put, List.setIfInBounds_toArray, List.set_cons_zero, List.set_cons_succ]
        refine wpG_pure (i := 7) (oi := { dst := some 63, op := Go.Op.fieldAddr 84 (Go.Operand.tmp 62) 2, type := 0, pos := "l11_search.go:109", after := #[{ on := 6, ground := Go.Ground.data }], guard := none }) (v := ?vg75) rfl (by kernel_rfl) (fun _ _ _ h => h) (Or.inr hHeld) (Or.inl ⟨by rfl, ?yg75⟩) ?_
        case yg75 => (intro wS _; go_simp <;> with_reducible rfl)
        try simp only [Act.put, List.setIfInBounds_toArray, List.set_cons_zero, List.set_cons_succ]
        refine wpG_load (i := 8) (oi := { dst := some 64, op := Go.Op.load 82 (Go.Operand.tmp 63), type := 82, pos := "l11_search.go:109", after := #[{ on := 7, ground := Go.Ground.data }], guard := none }) (v := ?vg76) [[18, 17, 16, 12, 8]] rfl (by kernel_rfl) (fun _ _ _ h => h) hHeld (Or.inl ⟨by rfl, ?yg76⟩) ?_
        case yg76 => (intro wS hSw; (try dsimp only at hSw); go_simp <;> with_reducible rfl)
        try simp only [Act.put, List.setIfInBounds_toArray, List.set_cons_zero, List.set_cons_succ]
        refine wpG_pure (i := 9) (oi := { dst := some 65, op := Go.Op.move (Go.Operand.tmp 5), type := 9, pos := "l11_search.go:109", after := #[], guard := none }) (v := ?vg77) rfl (by kernel_rfl) (fun _ _ _ h => h) (Or.inr hHeld) (Or.inl ⟨by rfl, ?yg77⟩) ?_
        case yg77 => (intro wS _; go_simp <;> with_reducible rfl)
        try simp only [Act.put, List.setIfInBounds_toArray, List.set_cons_zero, List.set_cons_succ]
        refine wpG_pure (i := 10) (oi := { dst := some 66, op := Go.Op.move (Go.Operand.tmp 6), type := 3, pos := "l11_search.go:109", after := #[], guard := none }) (v := ?vg78) rfl (by kernel_rfl) (fun _ _ _ h => h) (Or.inr hHeld) (Or.inl ⟨by rfl, ?yg78⟩) ?_
        case yg78 => (intro wS _; go_simp <;> with_reducible rfl)
        try simp only [Act.put, List.setIfInBounds_toArray, List.set_cons_zero, List.set_cons_succ]
        refine wpG_pure (i := 11) (oi := { dst := some 67, op := Go.Op.slice 9 (Go.Operand.tmp 65) none (some (Go.Operand.tmp 66)) none, type := 9, pos := "l11_search.go:109", after := #[{ on := 9, ground := Go.Ground.data }, { on := 10, ground := Go.Ground.data }], guard := none }) (v := ?vg79) rfl (by kernel_rfl) (fun _ _ _ h => h) (Or.inr hHeld) (Or.inl ⟨by rfl, ?yg79⟩) ?_
        case yg79 => (intro wS _; go_simp <;> with_reducible rfl)
        try simp only [Act.put, List.setIfInBounds_toArray, List.set_cons_zero, List.set_cons_succ]
        refine wpG_load (i := 12) (oi := { dst := some 68, op := Go.Op.lookup 82 (Go.Operand.tmp 64) (Go.Operand.tmp 67) false, type := 3, pos := "l11_search.go:109", after := #[{ on := 8, ground := Go.Ground.data }, { on := 11, ground := Go.Ground.data }], guard := none }) (v := ?vg80) [[18, 17, 16, 12]] rfl (by kernel_rfl) (fun _ _ _ h => h) hHeld (Or.inl ⟨by rfl, ?yg80⟩) ?_
        case yg80 => (intro wS hSw; (try dsimp only at hSw); go_simp <;> with_reducible rfl)
        try simp only [Act.put, List.setIfInBounds_toArray, List.set_cons_zero, List.set_cons_succ]
        refine wpG_pure (i := 13) (oi := { dst := some 69, op := Go.Op.move (Go.Operand.tmp 5), type := 9, pos := "l11_search.go:109", after := #[], guard := none }) (v := ?vg81) rfl (by kernel_rfl) (fun _ _ _ h => h) (Or.inr hHeld) (Or.inl ⟨by rfl, ?yg81⟩) ?_
        case yg81 => (intro wS _; go_simp <;> with_reducible rfl)
        try simp only [Act.put, List.setIfInBounds_toArray, List.set_cons_zero, List.set_cons_succ]
        refine wpG_pure (i := 14) (oi := { dst := some 70, op := Go.Op.move (Go.Operand.tmp 6), type := 3, pos := "l11_search.go:109", after := #[], guard := none }) (v := ?vg82) rfl (by kernel_rfl) (fun _ _ _ h => h) (Or.inr hHeld) (Or.inl ⟨by rfl, ?yg82⟩) ?_
        case yg82 => (intro wS _; go_simp <;> with_reducible rfl)
        try simp only [Act.put, List.setIfInBounds_toArray, List.set_cons_zero, List.set_cons_succ]
        refine wpG_pure (i := 15) (oi := { dst := some 71, op := Go.Op.index 9 (Go.Operand.tmp 69) (Go.Operand.tmp 70), type := 5, pos := "l11_search.go:109", after := #[{ on := 13, ground := Go.Ground.data }, { on := 14, ground := Go.Ground.data }], guard := none }) (v := ?vg83) rfl (by kernel_rfl) (fun _ _ _ h => h) (Or.inr hHeld) (Or.inl ⟨by rfl, ?yg83⟩) ?_
        case yg83 => (intro wS _; go_simp <;> with_reducible rfl)
        try simp only [Act.put, List.setIfInBounds_toArray, List.set_cons_zero, List.set_cons_succ]
        refine wpG_pure (i := 16) (oi := { dst := some 72, op := Go.Op.build 64 #[(0, Go.Operand.tmp 68), (1, Go.Operand.tmp 71)], type := 64, pos := "l11_search.go:109", after := #[{ on := 12, ground := Go.Ground.data }, { on := 15, ground := Go.Ground.data }], guard := none }) (v := ?vg84) rfl (by kernel_rfl) (fun _ _ _ h => h) (Or.inr hHeld) (Or.inl ⟨by rfl, ?yg84⟩) ?_
        case yg84 => (intro wS _; go_simp <;> with_reducible rfl)
        try simp only [Act.put, List.setIfInBounds_toArray, List.set_cons_zero, List.set_cons_succ]
        refine wpG_one (i := 17) (o := { dst := some 73, op := Go.Op.buildSlice 47 1 #[(0, Go.Operand.tmp 72)], type := 47, pos := "l11_search.go:109", after := #[{ on := 16, ground := Go.Ground.data }], guard := none }) rfl (by kernel_rfl) (fun K hK => ?_)
        go_simp
        refine hK.out _ _ (Or.inr ?khHeld85) (fun hHeld85S => ?_)
        case khHeld85 => exact KB.out
        have hHeld85 := hHeld85S.held (by kernel_rfl)
        clear hK K
        try simp only [Act.put, List.setIfInBounds_toArray, List.set_cons_zero, List.set_cons_succ]
        refine wpG_one (i := 18) (o := { dst := some 74, op := Go.Op.call { callee := Go.Callee.builtin Go.Builtin.append, args := #[Go.Operand.tmp 60, Go.Operand.tmp 73], argTypes := #[47, 47] }, type := 47, pos := "l11_search.go:109", after := #[{ on := 4, ground := Go.Ground.data }, { on := 17, ground := Go.Ground.data }], guard := none }) rfl (by kernel_rfl) (fun K hK => ?_)
        refine step_append_lies _ rfl (.tmp 60) (.tmp 73) 47 rfl w.heap.size 64 j0 (.agg #[.int .i64 0, .int .u8 0, .int .i64 0, .slice none 0 0]) 4 48 Try.underlying47 hj hj0 hj1 hj2 rfl (by decide) _ xs.length vss.flatten rfl HA7.out.sts ⟨w6.heap.size, 0, none⟩ 1 1 [.int .i64 (q : Int), .int .u8 ((byteR x).toNat : Int), .int .i64 0, .slice none 0 0] rfl rfl HNW.out (by simp [Value.oneCell']) (by omega) (by unfold maxLen; omega) (by omega) (by simp; omega) (w6.heap.size + 1) (by simp) ?_
        intro g8 c8 w8 hown hgrow _ _
        obtain ⟨m0, mf⟩ := HA7.out.midS hgrow
        have HA8 := Lib.hid (HA7.out.putState hgrow hown (state_new (q : Int) (byteR x) HU.out))
        have HB8 : Hid (Below w.heap.size w (w8.setCell ⟨A, 0, none⟩ (.slice (some ⟨g8, 0, none⟩) (xs.length + 1) c8))) := Lib.hid (below_put (v := .slice sq xs.length sc) ((rdrew HB6.out 1 : Below w.heap.size w w6.drew).alloc hz6 _) hgrow (by simp; omega) (fun j hj => (HA7.out.sts.lt j hj).1) HA0.out)
        clear hown hgrow
        refine hK.out _ _ (Or.inl (by kernel_rfl)) (fun _ => ?_)
        clear hK K
        try simp only [Act.put, List.setIfInBounds_toArray, List.set_cons_zero, List.set_cons_succ]
        refine wpG_pure (i := 19) (oi := { dst := some 75, op := Go.Op.nilCheck (Go.Operand.tmp 56), type := 0, pos := "l11_search.go:109", after := #[{ on := 0, ground := Go.Ground.data }, { on := 0, ground := Go.Ground.phase }, { on := 1, ground := Go.Ground.phase }, { on := 2, ground := Go.Ground.phase }, { on := 3, ground := Go.Ground.phase }, { on := 4, ground := Go.Ground.phase }, { on := 5, ground := Go.Ground.phase }, { on := 6, ground := Go.Ground.phase }, { on := 7, ground := Go.Ground.phase }, { on := 8, ground := Go.Ground.phase }, { on := 9, ground := Go.Ground.phase }, { on := 10, ground := Go.Ground.phase }, { on := 11, ground := Go.Ground.phase }, { on := 12, ground := Go.Ground.phase }, { on := 13, ground := Go.Ground.phase }, { on := 14, ground := Go.Ground.phase }, { on := 15, ground := Go.Ground.phase }, { on := 16, ground := Go.Ground.phase }, { on := 17, ground := Go.Ground.phase }, { on := 18, ground := Go.Ground.phase }], guard := none }) (v := ?vg87) rfl (by kernel_rfl) (fun _ _ _ h => h) (Or.inl (by kernel_rfl)) (Or.inl ⟨by rfl, ?yg87⟩) ?_
        case yg87 => (intro wS _; go_simp <;> with_reducible rfl)
        try simp only [Act.put, List.setIfInBounds_toArray, List.set_cons_zero, List.set_cons_succ]
        refine wpG_pure (i := 20) (oi := { dst := some 76, op := Go.Op.fieldAddr 84 (Go.Operand.tmp 75) 0, type := 0, pos := "l11_search.go:109", after := #[{ on := 19, ground := Go.Ground.data }, { on := 0, ground := Go.Ground.phase }, { on := 1, ground := Go.Ground.phase }, { on := 2, ground := Go.Ground.phase }, { on := 3, ground := Go.Ground.phase }, { on := 4, ground := Go.Ground.phase }, { on := 5, ground := Go.Ground.phase }, { on := 6, ground := Go.Ground.phase }, { on := 7, ground := Go.Ground.phase }, { on := 8, ground := Go.Ground.phase }, { on := 9, ground := Go.Ground.phase }, { on := 10, ground := Go.Ground.phase }, { on := 11, ground := Go.Ground.phase }, { on := 12, ground := Go.Ground.phase }, { on := 13, ground := Go.Ground.phase }, { on := 14, ground := Go.Ground.phase }, { on := 15, ground := Go.Ground.phase }, { on := 16, ground := Go.Ground.phase }, { on := 17, ground := Go.Ground.phase }, { on := 18, ground := Go.Ground.phase }], guard := none }) (v := ?vg88) rfl (by kernel_rfl) (fun _ _ _ h => h) (Or.inl (by kernel_rfl)) (Or.inl ⟨by rfl, ?yg88⟩) ?_
        case yg88 => (intro wS _; go_simp <;> with_reducible rfl)
        try simp only [Act.put, List.setIfInBounds_toArray, List.set_cons_zero, List.set_cons_succ]
        refine wpG_one (i := 21) (o := { dst := none, op := Go.Op.store 47 (Go.Operand.tmp 76) (Go.Operand.tmp 74), type := 0, pos := "l11_search.go:109", after := #[{ on := 20, ground := Go.Ground.data }, { on := 18, ground := Go.Ground.data }, { on := 18, ground := Go.Ground.chain }, { on := 0, ground := Go.Ground.phase }, { on := 1, ground := Go.Ground.phase }, { on := 2, ground := Go.Ground.phase }, { on := 3, ground := Go.Ground.phase }, { on := 4, ground := Go.Ground.phase }, { on := 5, ground := Go.Ground.phase }, { on := 6, ground := Go.Ground.phase }, { on := 7, ground := Go.Ground.phase }, { on := 8, ground := Go.Ground.phase }, { on := 9, ground := Go.Ground.phase }, { on := 10, ground := Go.Ground.phase }, { on := 11, ground := Go.Ground.phase }, { on := 12, ground := Go.Ground.phase }, { on := 13, ground := Go.Ground.phase }, { on := 14, ground := Go.Ground.phase }, { on := 15, ground := Go.Ground.phase }, { on := 16, ground := Go.Ground.phase }, { on := 17, ground := Go.Ground.phase }, { on := 18, ground := Go.Ground.phase }], guard := none }) rfl (by kernel_rfl) (fun K hK => ?_)
        go_simp
        refine hK.out _ _ (Or.inl (by kernel_rfl)) (fun _ => ?_)
        clear hK K
        try simp only [Act.put, List.setIfInBounds_toArray, List.set_cons_zero, List.set_cons_succ]
        refine wpG_done (by kernel_rfl) ?_
        skip
        have HIV := Lib.hid (inv_snoc HI2.out (x := x) (q := q) (by omega) (by rw [HPO.out]; exact HQ.out))
        generalize w8.setCell ⟨A, 0, none⟩ (.slice (some ⟨g8, 0, none⟩) (xs.length + 1) c8) = w9 at *
        have HA9 := Lib.hid (HA8.out.alloc (.cells #[.string x] 9))
        obtain ⟨c0, c1, c2, cf⟩ := HA8.out.cells
        have hz9 := HB8.out.size
        clear HA2 HA6 HA7 HB2 HB6 KB HNW HLK hby lk6 m0 mf hHeld
        go_wp2_with (at_builtin; refine wpList_append_own _ rfl _ _ 39 rfl w.heap.size 9 i0 (.string ByteArray.empty) 1 16 Try.underlying39 hi hz0 hz1 hz2 rfl (by decide) _ acc2.length _ rfl HA9.out.txt _ 1 1 [.string x] rfl rfl (news_one _ _ _) (by simp [Value.oneCell']) (by unfold maxLen; omega) (by omega) (by simp; omega) ?_)
        intro v10 w10 hown hgrow _
        obtain ⟨tq2, tc2, hv⟩ := form_of_own hown
        subst hv
        obtain ⟨t0, tf⟩ := HA9.out.midT hgrow
        have HA10 := Lib.hid (HA9.out.putText (s := x) hgrow (by rw [strs_put]; exact hown))
        have HB10 : Hid (Below w.heap.size w (w10.setCell ⟨A, 1, none⟩ (.slice tq2 (acc2.length + 1) tc2))) := Lib.hid (below_put (v := .slice tq acc2.length tc) (HB8.out.alloc hz9 _) hgrow (by simp; omega) (fun j hj => (HA9.out.txt.lt j hj).1) HA0.out)
        clear hown hgrow HA8 HA9 HB8
        go_wp2_with fail
        go_roundw
        case rel => exact ⟨m + 1, acc2 ++ [x], _, _, _, _, _, by omega, by go_num, by rw [List.length_append]; simp; omega, HP2, HIN2, HIV, HA10, HB10⟩
        case measure => simp [intOf]; omega
end Go.Proofs.Ytfkcchbbbfeamaa
