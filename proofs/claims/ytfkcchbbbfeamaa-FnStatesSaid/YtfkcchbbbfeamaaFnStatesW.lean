/- The walk of FnStates: whatever the arguments, the call returns true and writes nothing that was there. -/
import Derived.Test.YtfkcchbbbfeamaaArgs
import Derived.Deep.RegionHeld3
import Derived.Test.YtfkcchbbbfeamaaStates
import Derived.Test.YtfkcchbbbfeamaaFind5
namespace Go.Proofs.Ytfkcchbbbfeamaa.fnStates
open Go.ChangeShapes Go.WideShapes Go.ChangeAt Go.RowKit
open Go.ChangeMaps (open_string shut_string)
set_option linter.unusedVariables false


set_option maxHeartbeats 2000000 in
set_option maxRecDepth 100000 in
theorem walk (w : World) (v0 : Value) (a0 : List UInt8) (w0 : IsBytes w v0 a0) (v1 : Value) (a1 : List UInt8) (w1 : IsBytes w v1 a1) :
    Calls Try.prog 11 #[v0, v1] w fun e w' => e = .returned (.bool true) ∧ Below w.heap.size w w' := by
  obtain ⟨ca, cc, rfl, hr0, hl0, hm0⟩ := w0
  obtain ⟨ma, mc, rfl, hr1, hl1, hm1⟩ := w1
  unfold maxLen at hm0 hm1
  have HR0 := Lib.hid hr0; have HR1 := Lib.hid hr1
  clear hr0 hr1
  by_cases hsum : (1048576 : Int) < wrap64 ((a0.length : Int) + (a1.length : Int))
  case pos =>
    go_enter Try.func11, Try.ntmps11
    go_wp2_with fail
    go_ret
    exact ⟨rfl, Below.refl _ _⟩
  go_enter Try.func11, Try.ntmps11
  go_wp2_with fail
  refine (draw_findWords w ca cc a0 hl0 hm0 HR0.out.rb).mono ?_
  rintro e w1 ⟨s, v, ss, rfl, ⟨ho, hn9, h21⟩, hs4, hb⟩
  have HB1 := Lib.hid hb; clear hb hsum
  obtain ⟨wa, wc, rfl⟩ := form_of_own ho
  have HW1 := Lib.hid (strs_rd ho h21)
  have HT := Lib.hid (wt_small hn9 h21)
  clear ho h21
  have hs63 : s.size ≤ maxLen := by unfold maxLen; omega
  have HI := Lib.hid (fun wx (h : kStringS.rd wx.heap.size wx [.slice wa ss.length wc] ss) => impl_FindWords wx _ s ss h hs63 HT.out)
  have HS := Lib.hid (fun wx (h : kStringS.rd wx.heap.size wx [.slice wa ss.length wc] ss) => spec_FindWords wx _ s ss h hs63 HT.out)
  have HOK : Hid ((s.size ≤ 200 ∧ wordsB ss = true ∧ R_FindWords s ss = (foundL ss s s.size, true)) ∨ R_FindWords s ss = ([], false)) := Lib.hid (by
    by_cases h : s.size ≤ 200 ∧ wordsB ss = true
    · exact .inl ⟨h.1, h.2, FW_yes h⟩
    · exact .inr (FW_no h))
  generalize R_FindWords s ss = R at *
  obtain ⟨L, ok⟩ := R
  go_wp2_with fail
  refine (HI.out w1 HW1.out).mono ?_
  rintro e w2 hm
  obtain ⟨cs2, he, hrd, hb⟩ := hm.reads kFoundS_ok
  obtain ⟨f2, c2, rfl⟩ := kSl_form hrd
  change e = .returned (.tuple #[.slice f2 L.length c2, .bool ok]) at he
  subst he
  have HF2 := Lib.hid hrd; have HW2 := Lib.hid (kStringS_ok.later HW1.out hb); have HB2 := Lib.hid (rstep HB1.out hb)
  clear hm hrd hb
  go_wp2_with fail
  refine (HS.out w2 HW2.out).mono ?_
  rintro e w3 hm
  obtain ⟨cs3, he, hrd, hb⟩ := hm.reads kFoundS_ok
  obtain ⟨f3, c3, rfl⟩ := kSl_form hrd
  change e = .returned (.tuple #[.slice f3 L.length c3, .bool ok]) at he
  subst he
  have hL63 := (sl_len hrd).2
  have HF3 := Lib.hid hrd; have HW3 := Lib.hid (kStringS_ok.later HW2.out hb); have HB3 := Lib.hid (rstep HB2.out hb); have HF23 := Lib.hid (kFoundS_ok.later HF2.out hb)
  clear hm hrd hb HF2 HW1 HW2 HB1 HB2 HI HS
  have hoo : (ok != ok) = false := by cases ok <;> rfl
  go_wp2_with fail
  go_loopw [79] (fun iv wr => ∃ i : Nat, i ≤ L.length ∧ iv = .int .i64 (i : Int) ∧ Drawn w3 wr) (fun iv _ => L.length - (intOf iv).toNat)
  case atStart => exact ⟨0, Nat.zero_le _, rfl, Drawn.refl _⟩
  case round =>
    obtain ⟨i, hi, rfl, q, rfl⟩ := hrel
    by_cases hil : i < L.length
    case pos =>
      obtain ⟨b1, o1, rfl, hb1, x0, x1⟩ := found_cell HF23.out hil
      obtain ⟨b2, o2, rfl, hb2, y0, y1⟩ := found_cell HF3.out hil
      generalize L.getD i (0, 0) = x at *
      go_wp2_with fail
      refine wp_region_G [] (fun w' => w'.cell? ⟨b1, o1 + i * 2, none⟩ = some (.int .i64 x.1) ∧ w'.cell? ⟨b1, o1 + i * 2 + 1, none⟩ = some (.int .i64 x.2) ∧ w'.cell? ⟨b2, o2 + i * 2, none⟩ = some (.int .i64 x.1) ∧ w'.cell? ⟨b2, o2 + i * 2 + 1, none⟩ = some (.int .i64 x.2)) (by kernel_rfl) ?_ (fun hHeld => ?_)
      · exact ⟨x0, x1, y0, y1⟩
      refine wpG_pure (i := 0) (oi := { dst := some 82, op := Go.Op.move (Go.Operand.tmp 7), type := 53, pos := "laws.go:1030", after := #[], guard := none }) (v := ?vg1) rfl (by kernel_rfl) (fun _ _ _ h => h) (Or.inr hHeld) (Or.inl ⟨by rfl, ?yg1⟩) ?_
      case yg1 => (intro wS _; go_simp <;> with_reducible rfl)
      try simp only [Act.put, List.setIfInBounds_toArray, List.set_cons_zero, List.set_cons_succ]
      refine wpG_pure (i := 1) (oi := { dst := some 83, op := Go.Op.move (Go.Operand.tmp 11), type := 3, pos := "laws.go:1030", after := #[], guard := none }) (v := ?vg2) rfl (by kernel_rfl) (fun _ _ _ h => h) (Or.inr hHeld) (Or.inl ⟨by rfl, ?yg2⟩) ?_
      case yg2 => (intro wS _; go_simp <;> with_reducible rfl)
      try simp only [Act.put, List.setIfInBounds_toArray, List.set_cons_zero, List.set_cons_succ]
      refine wpG_pure (i := 2) (oi := { dst := some 84, op := Go.Op.indexAddr 53 (Go.Operand.tmp 82) (Go.Operand.tmp 83), type := 0, pos := "laws.go:1030", after := #[{ on := 0, ground := Go.Ground.data }, { on := 1, ground := Go.Ground.data }], guard := none }) (v := ?vg3) rfl (by kernel_rfl) (fun _ _ _ h => h) (Or.inr hHeld) (Or.inl ⟨by rfl, ?yg3⟩) ?_
      case yg3 => (intro wS _; go_simp <;> with_reducible rfl)
      try simp only [Act.put, List.setIfInBounds_toArray, List.set_cons_zero, List.set_cons_succ]
      refine wpG_load (i := 3) (oi := { dst := some 85, op := Go.Op.load 62 (Go.Operand.tmp 84), type := 62, pos := "laws.go:1030", after := #[{ on := 2, ground := Go.Ground.data }], guard := none }) (v := ?vg4) [] rfl (by kernel_rfl) (fun _ _ _ h => h) hHeld (Or.inl ⟨by rfl, ?yg4⟩) ?_
      case yg4 => (intro wS hSw; (try dsimp only at hSw); go_simp <;> with_reducible rfl)
      try simp only [Act.put, List.setIfInBounds_toArray, List.set_cons_zero, List.set_cons_succ]
      refine wpG_pure (i := 4) (oi := { dst := some 86, op := Go.Op.move (Go.Operand.tmp 9), type := 53, pos := "laws.go:1030", after := #[], guard := none }) (v := ?vg5) rfl (by kernel_rfl) (fun _ _ _ h => h) (Or.inr hHeld) (Or.inl ⟨by rfl, ?yg5⟩) ?_
      case yg5 => (intro wS _; go_simp <;> with_reducible rfl)
      try simp only [Act.put, List.setIfInBounds_toArray, List.set_cons_zero, List.set_cons_succ]
      refine wpG_pure (i := 5) (oi := { dst := some 87, op := Go.Op.move (Go.Operand.tmp 11), type := 3, pos := "laws.go:1030", after := #[], guard := none }) (v := ?vg6) rfl (by kernel_rfl) (fun _ _ _ h => h) (Or.inr hHeld) (Or.inl ⟨by rfl, ?yg6⟩) ?_
      case yg6 => (intro wS _; go_simp <;> with_reducible rfl)
      try simp only [Act.put, List.setIfInBounds_toArray, List.set_cons_zero, List.set_cons_succ]
      refine wpG_pure (i := 6) (oi := { dst := some 88, op := Go.Op.indexAddr 53 (Go.Operand.tmp 86) (Go.Operand.tmp 87), type := 0, pos := "laws.go:1030", after := #[{ on := 4, ground := Go.Ground.data }, { on := 5, ground := Go.Ground.data }], guard := none }) (v := ?vg7) rfl (by kernel_rfl) (fun _ _ _ h => h) (Or.inr hHeld) (Or.inl ⟨by rfl, ?yg7⟩) ?_
      case yg7 => (intro wS _; go_simp <;> with_reducible rfl)
      try simp only [Act.put, List.setIfInBounds_toArray, List.set_cons_zero, List.set_cons_succ]
      refine wpG_load (i := 7) (oi := { dst := some 89, op := Go.Op.load 62 (Go.Operand.tmp 88), type := 62, pos := "laws.go:1030", after := #[{ on := 6, ground := Go.Ground.data }], guard := none }) (v := ?vg8) [] rfl (by kernel_rfl) (fun _ _ _ h => h) hHeld (Or.inl ⟨by rfl, ?yg8⟩) ?_
      case yg8 => (intro wS hSw; (try dsimp only at hSw); go_simp <;> with_reducible rfl)
      try simp only [Act.put, List.setIfInBounds_toArray, List.set_cons_zero, List.set_cons_succ]
      refine wpG_pure (i := 8) (oi := { dst := some 90, op := Go.Op.binOp Go.BinOp.neq 62 (Go.Operand.tmp 85) (Go.Operand.tmp 89) 62, type := 4, pos := "laws.go:1030", after := #[{ on := 3, ground := Go.Ground.data }, { on := 7, ground := Go.Ground.data }], guard := none }) (v := ?vg9) rfl (by kernel_rfl) (fun _ _ _ h => h) (Or.inr hHeld) (Or.inl ⟨by rfl, ?yg9⟩) ?_
      case yg9 => (intro wS _; go_simp <;> with_reducible rfl)
      try simp only [Act.put, List.setIfInBounds_toArray, List.set_cons_zero, List.set_cons_succ]
      refine wpG_done (by kernel_rfl) ?_
      skip
      go_wp2_with fail
      go_roundw
      case rel => exact ⟨i + 1, by omega, by go_num, ⟨_, rfl⟩⟩
      case measure => simp [intOf]; omega
    have HB4 := Lib.hid (rdrew HB3.out q)
    have hdn : Below w3.heap.size w3 (w3.drewN q) := below_drewN (Below.refl _ _) q
    have HF4 := Lib.hid (kFoundS_ok.later HF23.out hdn); have HW4 := Lib.hid (kStringS_ok.later HW3.out hdn)
    clear HF23 HF3 HW3 HB3 hdn
    generalize w3.drewN q = w4 at *
    rcases HOK.out with ⟨hs2, hwb, hR⟩ | hR
    case inr =>
      simp only [Prod.mk.injEq] at hR
      obtain ⟨rfl, rfl⟩ := hR
      clear HOK hoo hL63 HF4 HW4
      go_wp2_with fail
      refine (draw_stepState w4 ma mc a1 hl1 hm1 (HR1.out.below HB4.out).rb).mono ?_
      rintro e u1 ⟨v1, ss1, k1, by1, rfl, ⟨ho1, hn1, h21⟩, hk1, hk2, hby, hb⟩
      have HB1 := Lib.hid (rstep HB4.out hb); clear hb
      obtain ⟨wa1, wc1, rfl⟩ := form_of_own ho1
      have HW1 := Lib.hid (strs_rd ho1 h21)
      have HT1 := Lib.hid (wt_small hn1 h21)
      have hkw : (Lit.int .i64 k1).wf = true := WalkArith.wf_i64 (by omega)
      have HI1 := Lib.hid (fun wx (h : kStringS.rd wx.heap.size wx [.slice wa1 ss1.length wc1] ss1) => impl_StepState wx _ ss1 k1 by1 h hkw hby HT1.out)
      have HS1 := Lib.hid (fun wx (h : kStringS.rd wx.heap.size wx [.slice wa1 ss1.length wc1] ss1) => spec_StepState wx _ ss1 k1 by1 h hkw hby HT1.out)
      clear ho1 hn1 h21 hkw hby
      generalize R_StepStateI ss1 k1 by1 = R1 at *
      obtain ⟨x1, ok1⟩ := R1
      go_wp2_with fail
      refine (HI1.out u1 HW1.out).mono ?_
      rintro e u2 ⟨rfl, hb⟩
      have HB2 := Lib.hid (rstep HB1.out hb); have HW2 := Lib.hid (kStringS_ok.later HW1.out hb); clear hb
      go_wp2_with fail
      refine (HS1.out u2 HW2.out).mono ?_
      rintro e u3 ⟨rfl, hb⟩
      have HB3 := Lib.hid (rstep HB2.out hb); clear hb HW1 HW2 HI1 HS1 HT1 HB1 HB2
      go_wp2_with fail
      refine (draw_buildStates u3 ma mc a1 hl1 hm1 (HR1.out.below HB3.out).rb).mono ?_
      rintro e u4 ⟨v4, ss4, rfl, ⟨ho4, hn4, h24⟩, hb⟩
      have HB4 := Lib.hid (rstep HB3.out hb); clear hb
      obtain ⟨wa4, wc4, rfl⟩ := form_of_own ho4
      have HW4 := Lib.hid (strs_rd ho4 h24)
      have HT4 := Lib.hid (wt_small hn4 h24)
      have HI4 := Lib.hid (fun wx (h : kStringS.rd wx.heap.size wx [.slice wa4 ss4.length wc4] ss4) => impl_BuildStates wx _ ss4 h HT4.out)
      have HS4 := Lib.hid (fun wx (h : kStringS.rd wx.heap.size wx [.slice wa4 ss4.length wc4] ss4) => spec_BuildStates wx _ ss4 h HT4.out)
      clear ho4 hn4 h24
      generalize R_BuildStates ss4 = R4 at *
      obtain ⟨T, ok2⟩ := R4
      go_wp2_with fail
      refine (HI4.out u4 HW4.out).mono ?_
      rintro e u5 hm
      obtain ⟨cs5, he, hrd, hb⟩ := hm.reads kStateS_ok
      obtain ⟨q5, c5, rfl⟩ := kSl_form hrd
      change e = .returned (.tuple #[.slice q5 T.length c5, .bool ok2]) at he
      subst he
      have HS5 := Lib.hid hrd; have HB5 := Lib.hid (rstep HB4.out hb); have HW5 := Lib.hid (kStringS_ok.later HW4.out hb)
      clear hm hrd hb
      go_wp2_with fail
      refine (HS4.out u5 HW5.out).mono ?_
      rintro e u6 hm
      obtain ⟨cs6, he, hrd, hb⟩ := hm.reads kStateS_ok
      obtain ⟨q6, c6, rfl⟩ := kSl_form hrd
      change e = .returned (.tuple #[.slice q6 T.length c6, .bool ok2]) at he
      subst he
      have hT63 := (sl_len hrd).2
      have HS6 := Lib.hid hrd; have HB6 := Lib.hid (rstep HB5.out hb); have HS56 := Lib.hid (kStateS_ok.later HS5.out hb)
      clear hm hrd hb HB3 HB4 HB5 HW4 HW5 HS5 HI4 HS4 HT4
      have hok1 : (ok1 != ok1) = false := by cases ok1 <;> rfl
      have hok2 : (ok2 != ok2) = false := by cases ok2 <;> rfl
      have hx11 : (x1 != x1) = false := by simp
      go_wp2_with fail
      go_loopw [261] (fun iv wr => ∃ i : Nat, i ≤ T.length ∧ iv = .int .i64 (i : Int) ∧ Drawn u6 wr) (fun iv _ => T.length - (intOf iv).toNat)
      case atStart => exact ⟨0, Nat.zero_le _, rfl, Drawn.refl _⟩
      case round =>
        obtain ⟨i, hi, rfl, nq, rfl⟩ := hrel
        by_cases hil : i < T.length
        case pos =>
          obtain ⟨x, hx⟩ : ∃ x, T[i]? = some x := ⟨T[i], List.getElem?_eq_getElem hil⟩
          obtain ⟨b7, o7, q7, c7, rfl, hb7, x0, x1', x2, x3, hi7⟩ := state_cell HS56.out hx
          obtain ⟨b8, o8, q8, c8, rfl, hb8, y0, y1, y2, y3, hi8⟩ := state_cell HS6.out hx
          clear hx
          obtain ⟨up, by2, fl, wl⟩ := x
          simp only at x0 x1' x2 x3 y0 y1 y2 y3 hi7 hi8
          have h7 := ints_rowOf hi7 (Nat.le_refl _)
          have h8 := ints_rowOf hi8 (Nat.le_refl _)
          have HSM := Lib.hid (fun n => same_ints q7 q8 c7 c8 wl wl (u6.drewN n) (h7.1.drewN n) (h8.1.drewN n) h7.2 h7.2)
          rw [decide_eq_true (rfl : wl = wl)] at HSM
          clear h7 h8 hi7 hi8
          have hup : (up != up) = false := by simp
          have hfl2 : (fl != fl) = false := by simp
          have hby2 : ((by2.toNat : Int) != (by2.toNat : Int)) = false := by simp
          go_wp2_with fail
          go_quiet ((go_at_call 22; exact quiet_drawn_add (HSM.out _)))
          go_wp2_with fail
          go_roundw
          case rel => exact ⟨i + 1, by omega, by go_num, ⟨_, rfl⟩⟩
          case measure => simp [intOf]; omega
        have HB7 := Lib.hid (rdrew HB6.out nq)
        clear HS56 HS6 HB6
        generalize u6.drewN nq = u7 at *
        go_wp2_with fail
        refine (draw_longestEnd u7 ma mc a1 hl1 hm1 (HR1.out.below HB7.out).rb).mono ?_
        rintro e u8 ⟨v8, ss8, s8, rfl, ⟨ho8, hn8, h28⟩, hs8, hb⟩
        have HB8 := Lib.hid (rstep HB7.out hb); clear hb
        obtain ⟨wa8, wc8, rfl⟩ := form_of_own ho8
        have HW8 := Lib.hid (strs_rd ho8 h28)
        have HT8 := Lib.hid (wt_small hn8 h28)
        have hs8b : s8.size ≤ maxLen := by unfold maxLen; omega
        have HI8 := Lib.hid (fun wx (h : kStringS.rd wx.heap.size wx [.slice wa8 ss8.length wc8] ss8) => impl_LongestEnd wx _ ss8 s8 h hs8b HT8.out)
        have HS8 := Lib.hid (fun wx (h : kStringS.rd wx.heap.size wx [.slice wa8 ss8.length wc8] ss8) => spec_LongestEnd wx _ ss8 s8 h hs8b HT8.out)
        clear ho8 hn8 h28
        generalize R_LongestEnd ss8 s8 = R8 at *
        obtain ⟨m8, ok8⟩ := R8
        go_wp2_with fail
        refine (HI8.out u8 HW8.out).mono ?_
        rintro e u9 ⟨rfl, hb⟩
        have HB9 := Lib.hid (rstep HB8.out hb); have HW9 := Lib.hid (kStringS_ok.later HW8.out hb); clear hb
        go_wp2_with fail
        refine (HS8.out u9 HW9.out).mono ?_
        rintro e u10 ⟨rfl, hb⟩
        have HB10 := Lib.hid (rstep HB9.out hb); clear hb
        have hok8 : (ok8 == ok8) = true := by cases ok8 <;> rfl
        have hm88 : (m8 == m8) = true := by simp
        go_wp2_with fail
        go_ret
        exact ⟨rfl, HB10.out⟩
    simp only [Prod.mk.injEq] at hR
    obtain ⟨hLe, rfl⟩ := hR
    have HLE := Lib.hid hLe; have HWB := Lib.hid hwb
    obtain ⟨N, hN⟩ : ∃ N, (textsR ss).length = N := ⟨_, rfl⟩
    have HN := Lib.hid hN
    have hN0 : 0 < N := by rw [← hN]; exact texts_pos ss
    have hNl : N ≤ 161 := by rw [← hN]; exact texts_len hwb
    have HBS := Lib.hid (impl_BuildStates w4 _ ss HW4.out HT.out)
    rw [BS_yes hwb] at HBS
    clear HOK hoo hLe hwb hN
    go_wp2_with fail
    refine HBS.out.mono ?_
    rintro e w5 hm
    obtain ⟨cs5, he, hrd, hb⟩ := hm.reads kStateS_ok
    obtain ⟨sa, sc, rfl⟩ := kSl_form hrd
    change e = .returned (.tuple #[.slice sa ((textsR ss).map (stR ss)).length sc, .bool true]) at he
    rw [List.length_map, HN.out] at he
    subst he
    have hrd2 := hrd
    rw [List.length_map, HN.out] at hrd2
    have hsl := (sl_len hrd).2
    have HST := Lib.hid hrd2; have HF5 := Lib.hid (kFoundS_ok.later HF4.out hb); have HW5 := Lib.hid (kStringS_ok.later HW4.out hb); have HB5 := Lib.hid (rstep HB4.out hb)
    clear hm hrd hrd2 hb hsl HF4 HW4 HB4 HBS
    have HST0 : Hid (tx ss 0 = longR ss (s.extract 0 0)) := Lib.hid (by rw [tx_zero, size_zero (show (s.extract 0 0).size = 0 by rw [ex_size _ _ _ (by omega)]), long_self (starts_empty _)])
    go_wp2_with fail
    go_loopw [14, 15, 16] (fun av nv iv wr => ∃ i k : Nat, i ≤ s.size ∧ k < N ∧ av = .int .i64 (k : Int) ∧ nv = .int .i64 ((foundL ss s i).length : Int) ∧ iv = .int .i64 (i : Int) ∧ Hid (tx ss k = longR ss (s.extract 0 i)) ∧ Hid (Below w5.heap.size w5 wr)) (fun _ _ iv _ => s.size - (intOf iv).toNat)
    case atStart => exact ⟨0, 0, Nat.zero_le _, hN0, rfl, rfl, rfl, HST0, Lib.hid (Below.refl _ _)⟩
    case round =>
      clear HST0
      obtain ⟨w6, rfl⟩ : ∃ z : World, z = wr := ⟨_, rfl⟩
      obtain ⟨i, k, hi, hk, rfl, rfl, rfl, HTX, HB⟩ := hrel
      by_cases hil : i < s.size
      case neg =>
        obtain rfl : i = s.size := by omega
        have hne : (((foundL ss s s.size).length : Int) != (L.length : Int)) = false := by rw [HLE.out]; simp
        go_wp2_with fail
        have HB6 := Lib.hid (HB5.out.trans (HB.out.mono HB5.out.size))
        refine (draw_stepState w6 ma mc a1 hl1 hm1 (HR1.out.below HB6.out).rb).mono ?_
        rintro e u1 ⟨v1, ss1, k1, by1, rfl, ⟨ho1, hn1, h21⟩, hk1, hk2, hby, hb⟩
        have HB1 := Lib.hid (rstep HB6.out hb); clear hb
        obtain ⟨wa1, wc1, rfl⟩ := form_of_own ho1
        have HW1 := Lib.hid (strs_rd ho1 h21)
        have HT1 := Lib.hid (wt_small hn1 h21)
        have hkw : (Lit.int .i64 k1).wf = true := WalkArith.wf_i64 (by omega)
        have HI1 := Lib.hid (fun wx (h : kStringS.rd wx.heap.size wx [.slice wa1 ss1.length wc1] ss1) => impl_StepState wx _ ss1 k1 by1 h hkw hby HT1.out)
        have HS1 := Lib.hid (fun wx (h : kStringS.rd wx.heap.size wx [.slice wa1 ss1.length wc1] ss1) => spec_StepState wx _ ss1 k1 by1 h hkw hby HT1.out)
        clear ho1 hn1 h21 hkw hby
        generalize R_StepStateI ss1 k1 by1 = R1 at *
        obtain ⟨x1, ok1⟩ := R1
        go_wp2_with fail
        refine (HI1.out u1 HW1.out).mono ?_
        rintro e u2 ⟨rfl, hb⟩
        have HB2 := Lib.hid (rstep HB1.out hb); have HW2 := Lib.hid (kStringS_ok.later HW1.out hb); clear hb
        go_wp2_with fail
        refine (HS1.out u2 HW2.out).mono ?_
        rintro e u3 ⟨rfl, hb⟩
        have HB3 := Lib.hid (rstep HB2.out hb); clear hb HW1 HW2 HI1 HS1 HT1 HB1 HB2
        go_wp2_with fail
        refine (draw_buildStates u3 ma mc a1 hl1 hm1 (HR1.out.below HB3.out).rb).mono ?_
        rintro e u4 ⟨v4, ss4, rfl, ⟨ho4, hn4, h24⟩, hb⟩
        have HB4 := Lib.hid (rstep HB3.out hb); clear hb
        obtain ⟨wa4, wc4, rfl⟩ := form_of_own ho4
        have HW4 := Lib.hid (strs_rd ho4 h24)
        have HT4 := Lib.hid (wt_small hn4 h24)
        have HI4 := Lib.hid (fun wx (h : kStringS.rd wx.heap.size wx [.slice wa4 ss4.length wc4] ss4) => impl_BuildStates wx _ ss4 h HT4.out)
        have HS4 := Lib.hid (fun wx (h : kStringS.rd wx.heap.size wx [.slice wa4 ss4.length wc4] ss4) => spec_BuildStates wx _ ss4 h HT4.out)
        clear ho4 hn4 h24
        generalize R_BuildStates ss4 = R4 at *
        obtain ⟨T, ok2⟩ := R4
        go_wp2_with fail
        refine (HI4.out u4 HW4.out).mono ?_
        rintro e u5 hm
        obtain ⟨cs5, he, hrd, hb⟩ := hm.reads kStateS_ok
        obtain ⟨q5, c5, rfl⟩ := kSl_form hrd
        change e = .returned (.tuple #[.slice q5 T.length c5, .bool ok2]) at he
        subst he
        have HS5 := Lib.hid hrd; have HB5 := Lib.hid (rstep HB4.out hb); have HW5 := Lib.hid (kStringS_ok.later HW4.out hb)
        clear hm hrd hb
        go_wp2_with fail
        refine (HS4.out u5 HW5.out).mono ?_
        rintro e u6 hm
        obtain ⟨cs6, he, hrd, hb⟩ := hm.reads kStateS_ok
        obtain ⟨q6, c6, rfl⟩ := kSl_form hrd
        change e = .returned (.tuple #[.slice q6 T.length c6, .bool ok2]) at he
        subst he
        have hT63 := (sl_len hrd).2
        have HS6 := Lib.hid hrd; have HB6 := Lib.hid (rstep HB5.out hb); have HS56 := Lib.hid (kStateS_ok.later HS5.out hb)
        clear hm hrd hb HB3 HB4 HB5 HW4 HW5 HS5 HI4 HS4 HT4
        have hok1 : (ok1 != ok1) = false := by cases ok1 <;> rfl
        have hok2 : (ok2 != ok2) = false := by cases ok2 <;> rfl
        have hx11 : (x1 != x1) = false := by simp
        go_wp2_with fail
        go_loopw [261] (fun iv wr => ∃ i : Nat, i ≤ T.length ∧ iv = .int .i64 (i : Int) ∧ Drawn u6 wr) (fun iv _ => T.length - (intOf iv).toNat)
        case atStart => exact ⟨0, Nat.zero_le _, rfl, Drawn.refl _⟩
        case round =>
          obtain ⟨i, hi, rfl, nq, rfl⟩ := hrel
          by_cases hil : i < T.length
          case pos =>
            obtain ⟨x, hx⟩ : ∃ x, T[i]? = some x := ⟨T[i], List.getElem?_eq_getElem hil⟩
            obtain ⟨b7, o7, q7, c7, rfl, hb7, x0, x1', x2, x3, hi7⟩ := state_cell HS56.out hx
            obtain ⟨b8, o8, q8, c8, rfl, hb8, y0, y1, y2, y3, hi8⟩ := state_cell HS6.out hx
            clear hx
            obtain ⟨up, by2, fl, wl⟩ := x
            simp only at x0 x1' x2 x3 y0 y1 y2 y3 hi7 hi8
            have h7 := ints_rowOf hi7 (Nat.le_refl _)
            have h8 := ints_rowOf hi8 (Nat.le_refl _)
            have HSM := Lib.hid (fun n => same_ints q7 q8 c7 c8 wl wl (u6.drewN n) (h7.1.drewN n) (h8.1.drewN n) h7.2 h7.2)
            rw [decide_eq_true (rfl : wl = wl)] at HSM
            clear h7 h8 hi7 hi8
            have hup : (up != up) = false := by simp
            have hfl2 : (fl != fl) = false := by simp
            have hby2 : ((by2.toNat : Int) != (by2.toNat : Int)) = false := by simp
            go_wp2_with fail
            go_quiet ((go_at_call 22; exact quiet_drawn_add (HSM.out _)))
            go_wp2_with fail
            go_roundw
            case rel => exact ⟨i + 1, by omega, by go_num, ⟨_, rfl⟩⟩
            case measure => simp [intOf]; omega
          have HB7 := Lib.hid (rdrew HB6.out nq)
          clear HS56 HS6 HB6
          generalize u6.drewN nq = u7 at *
          go_wp2_with fail
          refine (draw_longestEnd u7 ma mc a1 hl1 hm1 (HR1.out.below HB7.out).rb).mono ?_
          rintro e u8 ⟨v8, ss8, s8, rfl, ⟨ho8, hn8, h28⟩, hs8, hb⟩
          have HB8 := Lib.hid (rstep HB7.out hb); clear hb
          obtain ⟨wa8, wc8, rfl⟩ := form_of_own ho8
          have HW8 := Lib.hid (strs_rd ho8 h28)
          have HT8 := Lib.hid (wt_small hn8 h28)
          have hs8b : s8.size ≤ maxLen := by unfold maxLen; omega
          have HI8 := Lib.hid (fun wx (h : kStringS.rd wx.heap.size wx [.slice wa8 ss8.length wc8] ss8) => impl_LongestEnd wx _ ss8 s8 h hs8b HT8.out)
          have HS8 := Lib.hid (fun wx (h : kStringS.rd wx.heap.size wx [.slice wa8 ss8.length wc8] ss8) => spec_LongestEnd wx _ ss8 s8 h hs8b HT8.out)
          clear ho8 hn8 h28
          generalize R_LongestEnd ss8 s8 = R8 at *
          obtain ⟨m8, ok8⟩ := R8
          go_wp2_with fail
          refine (HI8.out u8 HW8.out).mono ?_
          rintro e u9 ⟨rfl, hb⟩
          have HB9 := Lib.hid (rstep HB8.out hb); have HW9 := Lib.hid (kStringS_ok.later HW8.out hb); clear hb
          go_wp2_with fail
          refine (HS8.out u9 HW9.out).mono ?_
          rintro e u10 ⟨rfl, hb⟩
          have HB10 := Lib.hid (rstep HB9.out hb); clear hb
          have hok8 : (ok8 == ok8) = true := by cases ok8 <;> rfl
          have hm88 : (m8 == m8) = true := by simp
          go_wp2_with fail
          go_ret
          exact ⟨rfl, HB10.out⟩
      have hkT : k < (textsR ss).length := by rw [HN.out]; exact hk
      have HI2 := Lib.hid (impl_StepState w6 _ ss (k : Int) ((s[i].toNat : Nat) : Int) (kStringS_ok.later HW5.out HB.out) (WalkArith.wf_i64 (by omega)) (u8_wf _) HT.out)
      rw [SS_yes HWB.out hkT, dig_one s i hil] at HI2
      obtain ⟨k', hk', hk'N, htx'⟩ := num_of (longR_spec ss (tx ss k ++ one1 (atS s i))).1
      rw [hk'] at HI2
      rw [HN.out] at hk'N
      have HNX : Hid (tx ss k' = longR ss (s.extract 0 (i + 1))) := Lib.hid (by rw [htx', HTX.out, next_text ss s i hil _ rfl])
      have HK' := Lib.hid hk'
      clear hk' htx' hkT
      go_wp2_with fail
      refine HI2.out.mono ?_
      rintro e w7 ⟨rfl, hb⟩
      have HB7 := Lib.hid (rstep HB.out hb)
      clear hb HI2 HB
      have hkn : ¬ (k' : Int) < 0 := by omega
      have hkN : ¬ N ≤ k' := by omega
      have hkn2 : decide ((k' : Int) < 0) = false := decide_eq_false hkn
      have hkN2 : decide (N ≤ k') = false := decide_eq_false hkN
      go_wp2_with fail
      have HC : Hid (atS s i = atS s i) := Lib.hid rfl
      go_loopw [19] (fun qv wr => ∃ q : Nat, q < N ∧ qv = .int .i64 (q : Int) ∧ Hid (longR ss (tx ss q ++ one1 (atS s i)) = longR ss (tx ss k ++ one1 (atS s i))) ∧ Hid (Below w5.heap.size w5 wr)) (fun qv _ => (tx ss (intOf qv).toNat).size)
      case atStart => exact ⟨k, hk, rfl, Lib.hid rfl, HB7⟩
      case round =>
        clear HB7
        obtain ⟨w8, rfl⟩ : ∃ z : World, z = wr := ⟨_, rfl⟩
        obtain ⟨q, hq, rfl, HQ, HB8⟩ := hrel
        have hqT : q < (textsR ss).length := by rw [HN.out]; exact hq
        go_wp2_with fail
        go_loopw [20, 130] (fun tv jv wr => ∃ j : Nat, j ≤ N ∧ jv = .int .i64 (j : Int) ∧ tv = .int .i64 ((toR ss q (atS s i) j : Nat) : Int) ∧ Hid (Below w5.heap.size w5 wr)) (fun _ jv _ => N - (intOf jv).toNat)
        case atStart => exact ⟨0, Nat.zero_le _, rfl, rfl, HB8⟩
        case round =>
          clear HB8
          obtain ⟨w9, rfl⟩ : ∃ z : World, z = wr := ⟨_, rfl⟩
          obtain ⟨j, hj, rfl, rfl, HB9⟩ := hrel
          by_cases hjl : j < N
          case pos =>
            have hjT : j < (textsR ss).length := by rw [HN.out]; exact hjl
            obtain ⟨b1, o1, qa, qc, rfl, hb1, x0, x1, x2, x3, -⟩ := state_cell HST.out (st_at hjT)
            replace x0 := below_cellk HB9.out x0 hb1
            replace x1 := below_cellk HB9.out x1 hb1
            replace x2 := below_cellk HB9.out x2 hb1
            replace x3 := below_cellk HB9.out x3 hb1
            have HBI := Lib.hid (byte_iff (byteR (tx ss j)) (atS s i))
            have HTN : Hid (toR ss q (atS s i) (j + 1) = if upR ss (tx ss j) = (q : Int) ∧ 0 < j ∧ byteR (tx ss j) = atS s i then j else toR ss q (atS s i) j) := Lib.hid rfl
            have hsi := atS_eq s i hil
            simp only [stR] at x0 x1 x2 x3
            generalize endsL ss (tx ss j) ss.length = wl at *
            generalize failR ss (tx ss j) = fl at *
            go_wp2_with fail
            have HB10 := Lib.hid (ralloc HB9.out (.cells #[.int .i64 (upR ss (tx ss j)), .int .u8 ((byteR (tx ss j)).toNat : Int), .int .i64 fl, .slice qa wl.length qc] 64))
            have y0 : (w9.alloc (.cells #[.int .i64 (upR ss (tx ss j)), .int .u8 ((byteR (tx ss j)).toNat : Int), .int .i64 fl, .slice qa wl.length qc] 64)).cell? ⟨w9.heap.size, 0, none⟩ = some (.int .i64 (upR ss (tx ss j))) := by rw [World.cell?_alloc_new]; rfl
            have y1 : (w9.alloc (.cells #[.int .i64 (upR ss (tx ss j)), .int .u8 ((byteR (tx ss j)).toNat : Int), .int .i64 fl, .slice qa wl.length qc] 64)).cell? ⟨w9.heap.size, 1, none⟩ = some (.int .u8 ((byteR (tx ss j)).toNat : Int)) := by rw [World.cell?_alloc_new]; rfl
            clear x0 x1 x2 x3 HB9
            generalize w9.heap.size = g9 at *
            generalize w9.alloc (.cells #[.int .i64 (upR ss (tx ss j)), .int .u8 ((byteR (tx ss j)).toNat : Int), .int .i64 fl, .slice qa wl.length qc] 64) = w10 at *
            generalize upR ss (tx ss j) = up at *
            generalize byteR (tx ss j) = by1 at *
            by_cases hA : up = (q : Int)
            · have hA2 : (up == (q : Int)) = true := by simp [hA]
              by_cases hB : 0 < j
              · have hB2 : (0 : Int) < (j : Int) := by omega
                by_cases hC : by1 = atS s i
                · have HT2 : Hid (toR ss q (atS s i) (j + 1) = j) := Lib.hid (by rw [HTN.out, if_pos ⟨hA, hB, hC⟩])
                  have hC2 : ((by1.toNat : Int) == ((atS s i).toNat : Int)) = true := by rw [HBI.out]; exact decide_eq_true hC
                  clear HTN HBI hA hC
                  go_quiet (fail)
                  go_wp2_with fail
                  go_roundw
                  case rel => exact ⟨j + 1, by omega, by go_num, by rw [HT2.out], Lib.hid (rdrew HB10.out _)⟩
                  case measure => simp [intOf]; omega
                · have HT2 : Hid (toR ss q (atS s i) (j + 1) = toR ss q (atS s i) j) := Lib.hid (by rw [HTN.out, if_neg (fun h => hC h.2.2)])
                  have hC2 : ((by1.toNat : Int) == ((atS s i).toNat : Int)) = false := by rw [HBI.out]; exact decide_eq_false hC
                  clear HTN HBI hA hC
                  go_quiet (fail)
                  go_wp2_with fail
                  go_roundw
                  case rel => exact ⟨j + 1, by omega, by go_num, by rw [HT2.out], Lib.hid (rdrew HB10.out _)⟩
                  case measure => simp [intOf]; omega
              · have HT2 : Hid (toR ss q (atS s i) (j + 1) = toR ss q (atS s i) j) := Lib.hid (by rw [HTN.out, if_neg (fun h => hB h.2.1)])
                have hB2 : ¬ (0 : Int) < (j : Int) := by omega
                clear HTN HBI hA
                go_quiet (fail)
                go_wp2_with fail
                go_roundw
                case rel => exact ⟨j + 1, by omega, by go_num, by rw [HT2.out], Lib.hid (rdrew HB10.out _)⟩
                case measure => simp [intOf]; omega
            · have hA2 : (up == (q : Int)) = false := by simp [hA]
              have HT2 : Hid (toR ss q (atS s i) (j + 1) = toR ss q (atS s i) j) := Lib.hid (by rw [HTN.out, if_neg (fun h => hA h.1)])
              clear HTN HBI hA
              go_quiet (fail)
              go_wp2_with fail
              go_roundw
              case rel => exact ⟨j + 1, by omega, by go_num, by rw [HT2.out], Lib.hid (rdrew HB10.out _)⟩
              case measure => simp [intOf]; omega
          have hjN : N = j := by omega
          subst hjN
          cases hst : startsB ss (tx ss q ++ one1 (atS s i)) with
          | true =>
            obtain ⟨g1, g2⟩ := fall_here hqT hst
            rw [HQ.out, HK'.out] at g2
            rw [HN.out] at g1 g2
            clear hst
            generalize toR ss q (atS s i) N = tv at *
            obtain rfl : k' = tv := by omega
            have hk0 : decide (0 < k') = true := decide_eq_true (by omega)
            obtain ⟨b1, o1, qa, qc, rfl, hb1, -, -, -, x3, hints⟩ := state_cell HST.out (st_at (show k' < (textsR ss).length by rw [HN.out]; exact hk'N))
            replace x3 := below_cellk HB9.out x3 hb1
            have HIN := Lib.hid (ints_rowOf hints (Nat.le_refl _)).1
            have hwl := (ints_rowOf hints (Nat.le_refl _)).2
            have HWL : Hid (endsL ss (tx ss k') ss.length = endsL ss (longR ss (s.extract 0 (i + 1))) ss.length) := Lib.hid (by rw [HNX.out])
            clear hints
            simp only [stR] at x3 HIN hwl
            have hfl := foundL_le ss s (wordsB_of HWB.out).1 i
            generalize endsL ss (tx ss k') ss.length = wl at *
            have hkk : ((k' : Int) != (k' : Int)) = false := by simp
            go_wp2_with fail
            (try clear hq1)
            go_loopw [15, 175] (fun nv jv wr => ∃ j : Nat, j ≤ wl.length ∧ jv = .int .i64 (j : Int) ∧ nv = .int .i64 (((foundL ss s i).length + j : Nat) : Int) ∧ Hid (Below w5.heap.size w5 wr)) (fun _ jv _ => wl.length - (intOf jv).toNat)
            case atStart => exact ⟨0, Nat.zero_le _, rfl, rfl, HB9⟩
            case round =>
              clear HB9 x3
              obtain ⟨w9, rfl⟩ : ∃ z : World, z = wr := ⟨_, rfl⟩
              obtain ⟨j, hj, rfl, rfl, HB9⟩ := hrel
              by_cases hjl : j < wl.length
              case neg =>
                have hjw : j = wl.length := by omega
                have HFL := Lib.hid (foundL_len ss s i)
                go_wp2_with fail
                go_roundw
                case rel => exact ⟨i + 1, k', by omega, hk'N, rfl, by rw [HFL.out, ← HWL.out, hjw], by go_num, HNX, HB9⟩
                case measure => simp [intOf]; omega
              have hm : wl[j]? = some (wl.getD j 0) := by rw [List.getD, List.getElem?_eq_getElem hjl]; rfl
              have hm2 := hm
              rw [HWL.out] at hm2
              obtain ⟨jj, hjj, hjs, -⟩ := ends_mem (List.mem_of_getElem? hm2)
              have hfx := foundL_at ss s i j hil _ hm2
              rw [hjj, Int.toNat_natCast, ← HLE.out] at hfx
              have hnL := (List.getElem?_eq_some_iff.1 hfx).1
              obtain ⟨b2, o2, rfl, hb2, y0, y1⟩ := found_cell HF5.out hnL
              rw [List.getD, hfx] at y0 y1
              simp only [Option.getD_some] at y0 y1
              obtain ⟨b3, o3, rfl, hb3, z0⟩ := word_cell HW5.out hjs
              have hv := ((wordsB_of HWB.out).2 (ss.getD jj ByteArray.empty) (by rw [List.getD, List.getElem?_eq_getElem hjs]; exact List.getElem_mem _)).2
              obtain ⟨b4, o4, rfl, hb4, hc4⟩ := HIN.out.at (ints_ne hjl)
              have u0 := hc4 j _ (ints_at wl j hjl)
              rw [← HWL.out] at hjj
              rw [hjj] at u0
              replace y0 := below_cellk HB9.out y0 hb2
              replace y1 := below_cellk HB9.out y1 hb2
              replace z0 := below_cellk HB9.out z0 hb3
              replace u0 := below_cellk HB9.out u0 hb4
              clear hc4 hm hm2 hfx hjj
              generalize ss.getD jj ByteArray.empty = v at *
              generalize hgn : (foundL ss s i).length = n0 at *
              generalize hn1 : n0 + j = n1 at *
              have HGN := Lib.hid (And.intro hgn hn1); clear hgn hn1
              have hnL2 : ¬ ((L.length : Int) ≤ (n1 : Int)) := by omega
              have hnL4 : decide (L.length ≤ n1) = false := decide_eq_false (by omega)
              have hnL3 : decide ((L.length : Int) ≤ (n1 : Int)) = false := decide_eq_false hnL2
              have e1 : IntKind.i64.wrap ((i : Int) + 1) = (i : Int) + 1 := IntWalk.i64_in _ (by omega)
              have e2 : IntKind.i64.wrap ((i : Int) + 1 - (v.size : Int)) = (i : Int) + 1 - (v.size : Int) := IntWalk.i64_in _ (by omega)
              rw [show ((i + 1 : Nat) : Int) = (i : Int) + 1 from by omega] at y0
              go_wp2_with fail
              refine wp_region_G [] (fun w' => w'.cell? ⟨b2, o2 + n1 * 2, none⟩ = some (.int .i64 ((i : Int) + 1 - (v.size : Int))) ∧ w'.cell? ⟨b2, o2 + n1 * 2 + 1, none⟩ = some (.int .i64 (jj : Int)) ∧ w'.cell? ⟨b3, o3 + jj, none⟩ = some (.string v)) (by kernel_rfl) ?_ (fun hHeld => ?_)
              · exact ⟨y0, y1, z0⟩
              refine wpG_pure (i := 0) (oi := { dst := some 179, op := Go.Op.move (Go.Operand.tmp 15), type := 3, pos := "laws.go:1066", after := #[], guard := none }) (v := ?vg10) rfl (by kernel_rfl) (fun _ _ _ h => h) (Or.inr hHeld) (Or.inl ⟨by rfl, ?yg10⟩) ?_
              case yg10 => (intro wS _; go_simp <;> with_reducible rfl)
              try simp only [Act.put, List.setIfInBounds_toArray, List.set_cons_zero, List.set_cons_succ]
              refine wpG_pure (i := 1) (oi := { dst := some 180, op := Go.Op.move (Go.Operand.tmp 7), type := 53, pos := "laws.go:1066", after := #[], guard := none }) (v := ?vg11) rfl (by kernel_rfl) (fun _ _ _ h => h) (Or.inr hHeld) (Or.inl ⟨by rfl, ?yg11⟩) ?_
              case yg11 => (intro wS _; go_simp <;> with_reducible rfl)
              try simp only [Act.put, List.setIfInBounds_toArray, List.set_cons_zero, List.set_cons_succ]
              refine wpG_pure (i := 2) (oi := { dst := some 181, op := Go.Op.call { callee := Go.Callee.builtin Go.Builtin.len, args := #[Go.Operand.tmp 180], argTypes := #[53] }, type := 3, pos := "laws.go:1066", after := #[{ on := 1, ground := Go.Ground.data }], guard := none }) (v := ?vg12) rfl (by kernel_rfl) (fun _ _ _ h => h) (Or.inr hHeld) (Or.inl ⟨by rfl, ?yg12⟩) ?_
              case yg12 => (intro wS _; go_simp <;> with_reducible rfl)
              try simp only [Act.put, List.setIfInBounds_toArray, List.set_cons_zero, List.set_cons_succ]
              refine wpG_pure (i := 3) (oi := { dst := some 182, op := Go.Op.binOp Go.BinOp.geq 3 (Go.Operand.tmp 179) (Go.Operand.tmp 181) 3, type := 4, pos := "laws.go:1066", after := #[{ on := 0, ground := Go.Ground.data }, { on := 2, ground := Go.Ground.data }], guard := none }) (v := ?vg13) rfl (by kernel_rfl) (fun _ _ _ h => h) (Or.inr hHeld) (Or.inl ⟨by rfl, ?yg13⟩) ?_
              case yg13 => (intro wS _; go_simp <;> with_reducible rfl)
              try simp only [Act.put, List.setIfInBounds_toArray, List.set_cons_zero, List.set_cons_succ]
              refine wpG_pure (i := 4) (oi := { dst := some 183, op := Go.Op.move (Go.Operand.tmp 182), type := 4, pos := "laws.go:1066", after := #[{ on := 3, ground := Go.Ground.data }], guard := none }) (v := ?vg14) rfl (by kernel_rfl) (fun _ _ _ h => h) (Or.inr hHeld) (Or.inl ⟨by rfl, ?yg14⟩) ?_
              case yg14 => (intro wS _; go_simp <;> with_reducible rfl)
              try simp only [Act.put, List.setIfInBounds_toArray, List.set_cons_zero, List.set_cons_succ]
              refine wpG_pure (i := 5) (oi := { dst := some 184, op := Go.Op.move (Go.Operand.tmp 7), type := 53, pos := "laws.go:1066", after := #[{ on := 4, ground := Go.Ground.guard }], guard := some (4, false) }) (v := ?vg15) rfl (by kernel_rfl) (fun _ _ _ h => h) (Or.inr hHeld) (Or.inl ⟨by rfl, ?yg15⟩) ?_
              case yg15 => (intro wS _; go_simp <;> with_reducible rfl)
              try simp only [Act.put, List.setIfInBounds_toArray, List.set_cons_zero, List.set_cons_succ]
              refine wpG_pure (i := 6) (oi := { dst := some 185, op := Go.Op.move (Go.Operand.tmp 15), type := 3, pos := "laws.go:1066", after := #[{ on := 4, ground := Go.Ground.guard }], guard := some (4, false) }) (v := ?vg16) rfl (by kernel_rfl) (fun _ _ _ h => h) (Or.inr hHeld) (Or.inl ⟨by rfl, ?yg16⟩) ?_
              case yg16 => (intro wS _; go_simp <;> with_reducible rfl)
              try simp only [Act.put, List.setIfInBounds_toArray, List.set_cons_zero, List.set_cons_succ]
              refine wpG_pure (i := 7) (oi := { dst := some 186, op := Go.Op.indexAddr 53 (Go.Operand.tmp 184) (Go.Operand.tmp 185), type := 0, pos := "laws.go:1066", after := #[{ on := 5, ground := Go.Ground.data }, { on := 6, ground := Go.Ground.data }, { on := 4, ground := Go.Ground.guard }], guard := some (4, false) }) (v := ?vg17) rfl (by kernel_rfl) (fun _ _ _ h => h) (Or.inr hHeld) (Or.inl ⟨by rfl, ?yg17⟩) ?_
              case yg17 => (intro wS _; go_simp <;> with_reducible rfl)
              try simp only [Act.put, List.setIfInBounds_toArray, List.set_cons_zero, List.set_cons_succ]
              refine wpG_load (i := 8) (oi := { dst := some 187, op := Go.Op.load 62 (Go.Operand.tmp 186), type := 62, pos := "laws.go:1066", after := #[{ on := 7, ground := Go.Ground.data }, { on := 4, ground := Go.Ground.guard }], guard := some (4, false) }) (v := ?vg18) [] rfl (by kernel_rfl) (fun _ _ _ h => h) hHeld (Or.inl ⟨by rfl, ?yg18⟩) ?_
              case yg18 => (intro wS hSw; (try dsimp only at hSw); go_simp <;> with_reducible rfl)
              try simp only [Act.put, List.setIfInBounds_toArray, List.set_cons_zero, List.set_cons_succ]
              refine wpG_pure (i := 9) (oi := { dst := some 188, op := Go.Op.move (Go.Operand.tmp 16), type := 3, pos := "laws.go:1066", after := #[{ on := 4, ground := Go.Ground.guard }], guard := some (4, false) }) (v := ?vg19) rfl (by kernel_rfl) (fun _ _ _ h => h) (Or.inr hHeld) (Or.inl ⟨by rfl, ?yg19⟩) ?_
              case yg19 => (intro wS _; go_simp <;> with_reducible rfl)
              try simp only [Act.put, List.setIfInBounds_toArray, List.set_cons_zero, List.set_cons_succ]
              refine wpG_pure (i := 10) (oi := { dst := some 189, op := Go.Op.binOp Go.BinOp.add 3 (Go.Operand.tmp 188) (Go.Operand.const (Go.Value.int Go.IntKind.i64 1)) 3, type := 3, pos := "laws.go:1066", after := #[{ on := 9, ground := Go.Ground.data }, { on := 4, ground := Go.Ground.guard }], guard := some (4, false) }) (v := ?vg20) rfl (by kernel_rfl) (fun _ _ _ h => h) (Or.inr hHeld) (Or.inl ⟨by rfl, ?yg20⟩) ?_
              case yg20 => (intro wS _; go_simp <;> with_reducible rfl)
              try simp only [Act.put, List.setIfInBounds_toArray, List.set_cons_zero, List.set_cons_succ]
              refine wpG_pure (i := 11) (oi := { dst := some 190, op := Go.Op.move (Go.Operand.tmp 6), type := 39, pos := "laws.go:1066", after := #[{ on := 4, ground := Go.Ground.guard }], guard := some (4, false) }) (v := ?vg21) rfl (by kernel_rfl) (fun _ _ _ h => h) (Or.inr hHeld) (Or.inl ⟨by rfl, ?yg21⟩) ?_
              case yg21 => (intro wS _; go_simp <;> with_reducible rfl)
              try simp only [Act.put, List.setIfInBounds_toArray, List.set_cons_zero, List.set_cons_succ]
              refine wpG_pure (i := 12) (oi := { dst := some 191, op := Go.Op.move (Go.Operand.tmp 24), type := 3, pos := "laws.go:1066", after := #[{ on := 4, ground := Go.Ground.guard }], guard := some (4, false) }) (v := ?vg22) rfl (by kernel_rfl) (fun _ _ _ h => h) (Or.inr hHeld) (Or.inl ⟨by rfl, ?yg22⟩) ?_
              case yg22 => (intro wS _; go_simp <;> with_reducible rfl)
              try simp only [Act.put, List.setIfInBounds_toArray, List.set_cons_zero, List.set_cons_succ]
              refine wpG_pure (i := 13) (oi := { dst := some 192, op := Go.Op.indexAddr 39 (Go.Operand.tmp 190) (Go.Operand.tmp 191), type := 0, pos := "laws.go:1066", after := #[{ on := 11, ground := Go.Ground.data }, { on := 12, ground := Go.Ground.data }, { on := 4, ground := Go.Ground.guard }], guard := some (4, false) }) (v := ?vg23) rfl (by kernel_rfl) (fun _ _ _ h => h) (Or.inr hHeld) (Or.inl ⟨by rfl, ?yg23⟩) ?_
              case yg23 => (intro wS _; go_simp <;> with_reducible rfl)
              try simp only [Act.put, List.setIfInBounds_toArray, List.set_cons_zero, List.set_cons_succ]
              refine wpG_load (i := 14) (oi := { dst := some 193, op := Go.Op.load 9 (Go.Operand.tmp 192), type := 9, pos := "laws.go:1066", after := #[{ on := 13, ground := Go.Ground.data }, { on := 4, ground := Go.Ground.guard }], guard := some (4, false) }) (v := ?vg24) [] rfl (by kernel_rfl) (fun _ _ _ h => h) hHeld (Or.inl ⟨by rfl, ?yg24⟩) ?_
              case yg24 => (intro wS hSw; (try dsimp only at hSw); go_simp <;> with_reducible rfl)
              try simp only [Act.put, List.setIfInBounds_toArray, List.set_cons_zero, List.set_cons_succ]
              refine wpG_pure (i := 15) (oi := { dst := some 194, op := Go.Op.call { callee := Go.Callee.builtin Go.Builtin.len, args := #[Go.Operand.tmp 193], argTypes := #[9] }, type := 3, pos := "laws.go:1066", after := #[{ on := 14, ground := Go.Ground.data }, { on := 4, ground := Go.Ground.guard }], guard := some (4, false) }) (v := ?vg25) rfl (by kernel_rfl) (fun _ _ _ h => h) (Or.inr hHeld) (Or.inl ⟨by rfl, ?yg25⟩) ?_
              case yg25 => (intro wS _; go_simp <;> with_reducible rfl)
              try simp only [Act.put, List.setIfInBounds_toArray, List.set_cons_zero, List.set_cons_succ]
              refine wpG_pure (i := 16) (oi := { dst := some 195, op := Go.Op.binOp Go.BinOp.sub 3 (Go.Operand.tmp 189) (Go.Operand.tmp 194) 3, type := 3, pos := "laws.go:1066", after := #[{ on := 10, ground := Go.Ground.data }, { on := 15, ground := Go.Ground.data }, { on := 4, ground := Go.Ground.guard }], guard := some (4, false) }) (v := ?vg26) rfl (by kernel_rfl) (fun _ _ _ h => h) (Or.inr hHeld) (Or.inl ⟨by rfl, ?yg26⟩) ?_
              case yg26 => (intro wS _; go_simp <;> with_reducible rfl)
              try simp only [Act.put, List.setIfInBounds_toArray, List.set_cons_zero, List.set_cons_succ]
              refine wpG_pure (i := 17) (oi := { dst := some 196, op := Go.Op.move (Go.Operand.tmp 24), type := 3, pos := "laws.go:1066", after := #[{ on := 4, ground := Go.Ground.guard }], guard := some (4, false) }) (v := ?vg27) rfl (by kernel_rfl) (fun _ _ _ h => h) (Or.inr hHeld) (Or.inl ⟨by rfl, ?yg27⟩) ?_
              case yg27 => (intro wS _; go_simp <;> with_reducible rfl)
              try simp only [Act.put, List.setIfInBounds_toArray, List.set_cons_zero, List.set_cons_succ]
              refine wpG_pure (i := 18) (oi := { dst := some 197, op := Go.Op.build 62 #[(0, Go.Operand.tmp 195), (1, Go.Operand.tmp 196)], type := 62, pos := "laws.go:1066", after := #[{ on := 16, ground := Go.Ground.data }, { on := 17, ground := Go.Ground.data }, { on := 4, ground := Go.Ground.guard }], guard := some (4, false) }) (v := ?vg28) rfl (by kernel_rfl) (fun _ _ _ h => h) (Or.inr hHeld) (Or.inl ⟨by rfl, ?yg28⟩) ?_
              case yg28 => (intro wS _; go_simp <;> with_reducible rfl)
              try simp only [Act.put, List.setIfInBounds_toArray, List.set_cons_zero, List.set_cons_succ]
              refine wpG_pure (i := 19) (oi := { dst := some 198, op := Go.Op.binOp Go.BinOp.neq 62 (Go.Operand.tmp 187) (Go.Operand.tmp 197) 62, type := 4, pos := "laws.go:1066", after := #[{ on := 8, ground := Go.Ground.data }, { on := 18, ground := Go.Ground.data }, { on := 4, ground := Go.Ground.guard }], guard := some (4, false) }) (v := ?vg29) rfl (by kernel_rfl) (fun _ _ _ h => h) (Or.inr hHeld) (Or.inl ⟨by rfl, ?yg29⟩) ?_
              case yg29 => (intro wS _; go_simp <;> with_reducible rfl)
              try simp only [Act.put, List.setIfInBounds_toArray, List.set_cons_zero, List.set_cons_succ]
              refine wpG_pure (i := 20) (oi := { dst := some 199, op := Go.Op.pick (Go.Operand.tmp 183) (Go.Operand.const (Go.Value.bool true)) (Go.Operand.tmp 198), type := 4, pos := "laws.go:1066", after := #[{ on := 4, ground := Go.Ground.data }, { on := 19, ground := Go.Ground.data }], guard := none }) (v := ?vg30) rfl (by kernel_rfl) (fun _ _ _ h => h) (Or.inr hHeld) (Or.inl ⟨by rfl, ?yg30⟩) ?_
              case yg30 => (intro wS _; go_simp <;> with_reducible rfl)
              try simp only [Act.put, List.setIfInBounds_toArray, List.set_cons_zero, List.set_cons_succ]
              refine wpG_done (by kernel_rfl) ?_
              skip
              go_wp2_with fail
              go_roundw
              case rel => exact ⟨j + 1, by omega, by go_num, by rw [← HGN.out.2]; go_num, Lib.hid (rdrew HB9.out 1)⟩
              case measure => simp [intOf]; omega
          | false =>
            by_cases hq0 : q = 0
            · have hst0 := hst
              rw [hq0] at hst0
              obtain ⟨g1, g2⟩ := fall_zero hst0
              have HQ0 := HQ.out
              rw [hq0] at HQ0
              rw [HQ0, HK'.out] at g2
              have htq : toR ss q (atS s i) N = 0 := by rw [hq0, ← HN.out]; exact (fall_zero hst0).1
              have hq1 : ((q : Int) == 0) = true := by simp [hq0]
              clear hst hst0 g1 HQ0
              generalize toR ss q (atS s i) N = tv at *
              obtain rfl : k' = tv := by omega
              have hk0 : decide (0 < k') = false := decide_eq_false (by omega)
              have HG2 := Lib.hid g2
              clear g2 htq hq0
              obtain ⟨b1, o1, qa, qc, rfl, hb1, -, -, -, x3, hints⟩ := state_cell HST.out (st_at (show k' < (textsR ss).length by rw [HN.out]; exact hk'N))
              replace x3 := below_cellk HB9.out x3 hb1
              have HIN := Lib.hid (ints_rowOf hints (Nat.le_refl _)).1
              have hwl := (ints_rowOf hints (Nat.le_refl _)).2
              have HWL : Hid (endsL ss (tx ss k') ss.length = endsL ss (longR ss (s.extract 0 (i + 1))) ss.length) := Lib.hid (by rw [HNX.out])
              clear hints
              simp only [stR] at x3 HIN hwl
              have hfl := foundL_le ss s (wordsB_of HWB.out).1 i
              generalize endsL ss (tx ss k') ss.length = wl at *
              have hkk : ((k' : Int) != (k' : Int)) = false := by simp
              go_wp2_with fail
              (try clear hq1)
              go_loopw [15, 175] (fun nv jv wr => ∃ j : Nat, j ≤ wl.length ∧ jv = .int .i64 (j : Int) ∧ nv = .int .i64 (((foundL ss s i).length + j : Nat) : Int) ∧ Hid (Below w5.heap.size w5 wr)) (fun _ jv _ => wl.length - (intOf jv).toNat)
              case atStart => exact ⟨0, Nat.zero_le _, rfl, rfl, HB9⟩
              case round =>
                clear HB9 x3
                obtain ⟨w9, rfl⟩ : ∃ z : World, z = wr := ⟨_, rfl⟩
                obtain ⟨j, hj, rfl, rfl, HB9⟩ := hrel
                by_cases hjl : j < wl.length
                case neg =>
                  have hjw : j = wl.length := by omega
                  have HFL := Lib.hid (foundL_len ss s i)
                  go_wp2_with fail
                  go_roundw
                  case rel => exact ⟨i + 1, k', by omega, hk'N, rfl, by rw [HFL.out, ← HWL.out, hjw], by go_num, HNX, HB9⟩
                  case measure => simp [intOf]; omega
                have hm : wl[j]? = some (wl.getD j 0) := by rw [List.getD, List.getElem?_eq_getElem hjl]; rfl
                have hm2 := hm
                rw [HWL.out] at hm2
                obtain ⟨jj, hjj, hjs, -⟩ := ends_mem (List.mem_of_getElem? hm2)
                have hfx := foundL_at ss s i j hil _ hm2
                rw [hjj, Int.toNat_natCast, ← HLE.out] at hfx
                have hnL := (List.getElem?_eq_some_iff.1 hfx).1
                obtain ⟨b2, o2, rfl, hb2, y0, y1⟩ := found_cell HF5.out hnL
                rw [List.getD, hfx] at y0 y1
                simp only [Option.getD_some] at y0 y1
                obtain ⟨b3, o3, rfl, hb3, z0⟩ := word_cell HW5.out hjs
                have hv := ((wordsB_of HWB.out).2 (ss.getD jj ByteArray.empty) (by rw [List.getD, List.getElem?_eq_getElem hjs]; exact List.getElem_mem _)).2
                obtain ⟨b4, o4, rfl, hb4, hc4⟩ := HIN.out.at (ints_ne hjl)
                have u0 := hc4 j _ (ints_at wl j hjl)
                rw [← HWL.out] at hjj
                rw [hjj] at u0
                replace y0 := below_cellk HB9.out y0 hb2
                replace y1 := below_cellk HB9.out y1 hb2
                replace z0 := below_cellk HB9.out z0 hb3
                replace u0 := below_cellk HB9.out u0 hb4
                clear hc4 hm hm2 hfx hjj
                generalize ss.getD jj ByteArray.empty = v at *
                generalize hgn : (foundL ss s i).length = n0 at *
                generalize hn1 : n0 + j = n1 at *
                have HGN := Lib.hid (And.intro hgn hn1); clear hgn hn1
                have hnL2 : ¬ ((L.length : Int) ≤ (n1 : Int)) := by omega
                have hnL4 : decide (L.length ≤ n1) = false := decide_eq_false (by omega)
                have hnL3 : decide ((L.length : Int) ≤ (n1 : Int)) = false := decide_eq_false hnL2
                have e1 : IntKind.i64.wrap ((i : Int) + 1) = (i : Int) + 1 := IntWalk.i64_in _ (by omega)
                have e2 : IntKind.i64.wrap ((i : Int) + 1 - (v.size : Int)) = (i : Int) + 1 - (v.size : Int) := IntWalk.i64_in _ (by omega)
                rw [show ((i + 1 : Nat) : Int) = (i : Int) + 1 from by omega] at y0
                go_wp2_with fail
                refine wp_region_G [] (fun w' => w'.cell? ⟨b2, o2 + n1 * 2, none⟩ = some (.int .i64 ((i : Int) + 1 - (v.size : Int))) ∧ w'.cell? ⟨b2, o2 + n1 * 2 + 1, none⟩ = some (.int .i64 (jj : Int)) ∧ w'.cell? ⟨b3, o3 + jj, none⟩ = some (.string v)) (by kernel_rfl) ?_ (fun hHeld => ?_)
                · exact ⟨y0, y1, z0⟩
                refine wpG_pure (i := 0) (oi := { dst := some 179, op := Go.Op.move (Go.Operand.tmp 15), type := 3, pos := "laws.go:1066", after := #[], guard := none }) (v := ?vg31) rfl (by kernel_rfl) (fun _ _ _ h => h) (Or.inr hHeld) (Or.inl ⟨by rfl, ?yg31⟩) ?_
                case yg31 => (intro wS _; go_simp <;> with_reducible rfl)
                try simp only [Act.put, List.setIfInBounds_toArray, List.set_cons_zero, List.set_cons_succ]
                refine wpG_pure (i := 1) (oi := { dst := some 180, op := Go.Op.move (Go.Operand.tmp 7), type := 53, pos := "laws.go:1066", after := #[], guard := none }) (v := ?vg32) rfl (by kernel_rfl) (fun _ _ _ h => h) (Or.inr hHeld) (Or.inl ⟨by rfl, ?yg32⟩) ?_
                case yg32 => (intro wS _; go_simp <;> with_reducible rfl)
                try simp only [Act.put, List.setIfInBounds_toArray, List.set_cons_zero, List.set_cons_succ]
                refine wpG_pure (i := 2) (oi := { dst := some 181, op := Go.Op.call { callee := Go.Callee.builtin Go.Builtin.len, args := #[Go.Operand.tmp 180], argTypes := #[53] }, type := 3, pos := "laws.go:1066", after := #[{ on := 1, ground := Go.Ground.data }], guard := none }) (v := ?vg33) rfl (by kernel_rfl) (fun _ _ _ h => h) (Or.inr hHeld) (Or.inl ⟨by rfl, ?yg33⟩) ?_
                case yg33 => (intro wS _; go_simp <;> with_reducible rfl)
                try simp only [Act.put, List.setIfInBounds_toArray, List.set_cons_zero, List.set_cons_succ]
                refine wpG_pure (i := 3) (oi := { dst := some 182, op := Go.Op.binOp Go.BinOp.geq 3 (Go.Operand.tmp 179) (Go.Operand.tmp 181) 3, type := 4, pos := "laws.go:1066", after := #[{ on := 0, ground := Go.Ground.data }, { on := 2, ground := Go.Ground.data }], guard := none }) (v := ?vg34) rfl (by kernel_rfl) (fun _ _ _ h => h) (Or.inr hHeld) (Or.inl ⟨by rfl, ?yg34⟩) ?_
                case yg34 => (intro wS _; go_simp <;> with_reducible rfl)
                try simp only [Act.put, List.setIfInBounds_toArray, List.set_cons_zero, List.set_cons_succ]
                refine wpG_pure (i := 4) (oi := { dst := some 183, op := Go.Op.move (Go.Operand.tmp 182), type := 4, pos := "laws.go:1066", after := #[{ on := 3, ground := Go.Ground.data }], guard := none }) (v := ?vg35) rfl (by kernel_rfl) (fun _ _ _ h => h) (Or.inr hHeld) (Or.inl ⟨by rfl, ?yg35⟩) ?_
                case yg35 => (intro wS _; go_simp <;> with_reducible rfl)
                try simp only [Act.put, List.setIfInBounds_toArray, List.set_cons_zero, List.set_cons_succ]
                refine wpG_pure (i := 5) (oi := { dst := some 184, op := Go.Op.move (Go.Operand.tmp 7), type := 53, pos := "laws.go:1066", after := #[{ on := 4, ground := Go.Ground.guard }], guard := some (4, false) }) (v := ?vg36) rfl (by kernel_rfl) (fun _ _ _ h => h) (Or.inr hHeld) (Or.inl ⟨by rfl, ?yg36⟩) ?_
                case yg36 => (intro wS _; go_simp <;> with_reducible rfl)
                try simp only [Act.put, List.setIfInBounds_toArray, List.set_cons_zero, List.set_cons_succ]
                refine wpG_pure (i := 6) (oi := { dst := some 185, op := Go.Op.move (Go.Operand.tmp 15), type := 3, pos := "laws.go:1066", after := #[{ on := 4, ground := Go.Ground.guard }], guard := some (4, false) }) (v := ?vg37) rfl (by kernel_rfl) (fun _ _ _ h => h) (Or.inr hHeld) (Or.inl ⟨by rfl, ?yg37⟩) ?_
                case yg37 => (intro wS _; go_simp <;> with_reducible rfl)
                try simp only [Act.put, List.setIfInBounds_toArray, List.set_cons_zero, List.set_cons_succ]
                refine wpG_pure (i := 7) (oi := { dst := some 186, op := Go.Op.indexAddr 53 (Go.Operand.tmp 184) (Go.Operand.tmp 185), type := 0, pos := "laws.go:1066", after := #[{ on := 5, ground := Go.Ground.data }, { on := 6, ground := Go.Ground.data }, { on := 4, ground := Go.Ground.guard }], guard := some (4, false) }) (v := ?vg38) rfl (by kernel_rfl) (fun _ _ _ h => h) (Or.inr hHeld) (Or.inl ⟨by rfl, ?yg38⟩) ?_
                case yg38 => (intro wS _; go_simp <;> with_reducible rfl)
                try simp only [Act.put, List.setIfInBounds_toArray, List.set_cons_zero, List.set_cons_succ]
                refine wpG_load (i := 8) (oi := { dst := some 187, op := Go.Op.load 62 (Go.Operand.tmp 186), type := 62, pos := "laws.go:1066", after := #[{ on := 7, ground := Go.Ground.data }, { on := 4, ground := Go.Ground.guard }], guard := some (4, false) }) (v := ?vg39) [] rfl (by kernel_rfl) (fun _ _ _ h => h) hHeld (Or.inl ⟨by rfl, ?yg39⟩) ?_
                case yg39 => (intro wS hSw; (try dsimp only at hSw); go_simp <;> with_reducible rfl)
                try simp only [Act.put, List.setIfInBounds_toArray, List.set_cons_zero, List.set_cons_succ]
                refine wpG_pure (i := 9) (oi := { dst := some 188, op := Go.Op.move (Go.Operand.tmp 16), type := 3, pos := "laws.go:1066", after := #[{ on := 4, ground := Go.Ground.guard }], guard := some (4, false) }) (v := ?vg40) rfl (by kernel_rfl) (fun _ _ _ h => h) (Or.inr hHeld) (Or.inl ⟨by rfl, ?yg40⟩) ?_
                case yg40 => (intro wS _; go_simp <;> with_reducible rfl)
                try simp only [Act.put, List.setIfInBounds_toArray, List.set_cons_zero, List.set_cons_succ]
                refine wpG_pure (i := 10) (oi := { dst := some 189, op := Go.Op.binOp Go.BinOp.add 3 (Go.Operand.tmp 188) (Go.Operand.const (Go.Value.int Go.IntKind.i64 1)) 3, type := 3, pos := "laws.go:1066", after := #[{ on := 9, ground := Go.Ground.data }, { on := 4, ground := Go.Ground.guard }], guard := some (4, false) }) (v := ?vg41) rfl (by kernel_rfl) (fun _ _ _ h => h) (Or.inr hHeld) (Or.inl ⟨by rfl, ?yg41⟩) ?_
                case yg41 => (intro wS _; go_simp <;> with_reducible rfl)
                try simp only [Act.put, List.setIfInBounds_toArray, List.set_cons_zero, List.set_cons_succ]
                refine wpG_pure (i := 11) (oi := { dst := some 190, op := Go.Op.move (Go.Operand.tmp 6), type := 39, pos := "laws.go:1066", after := #[{ on := 4, ground := Go.Ground.guard }], guard := some (4, false) }) (v := ?vg42) rfl (by kernel_rfl) (fun _ _ _ h => h) (Or.inr hHeld) (Or.inl ⟨by rfl, ?yg42⟩) ?_
                case yg42 => (intro wS _; go_simp <;> with_reducible rfl)
                try simp only [Act.put, List.setIfInBounds_toArray, List.set_cons_zero, List.set_cons_succ]
                refine wpG_pure (i := 12) (oi := { dst := some 191, op := Go.Op.move (Go.Operand.tmp 24), type := 3, pos := "laws.go:1066", after := #[{ on := 4, ground := Go.Ground.guard }], guard := some (4, false) }) (v := ?vg43) rfl (by kernel_rfl) (fun _ _ _ h => h) (Or.inr hHeld) (Or.inl ⟨by rfl, ?yg43⟩) ?_
                case yg43 => (intro wS _; go_simp <;> with_reducible rfl)
                try simp only [Act.put, List.setIfInBounds_toArray, List.set_cons_zero, List.set_cons_succ]
                refine wpG_pure (i := 13) (oi := { dst := some 192, op := Go.Op.indexAddr 39 (Go.Operand.tmp 190) (Go.Operand.tmp 191), type := 0, pos := "laws.go:1066", after := #[{ on := 11, ground := Go.Ground.data }, { on := 12, ground := Go.Ground.data }, { on := 4, ground := Go.Ground.guard }], guard := some (4, false) }) (v := ?vg44) rfl (by kernel_rfl) (fun _ _ _ h => h) (Or.inr hHeld) (Or.inl ⟨by rfl, ?yg44⟩) ?_
                case yg44 => (intro wS _; go_simp <;> with_reducible rfl)
                try simp only [Act.put, List.setIfInBounds_toArray, List.set_cons_zero, List.set_cons_succ]
                refine wpG_load (i := 14) (oi := { dst := some 193, op := Go.Op.load 9 (Go.Operand.tmp 192), type := 9, pos := "laws.go:1066", after := #[{ on := 13, ground := Go.Ground.data }, { on := 4, ground := Go.Ground.guard }], guard := some (4, false) }) (v := ?vg45) [] rfl (by kernel_rfl) (fun _ _ _ h => h) hHeld (Or.inl ⟨by rfl, ?yg45⟩) ?_
                case yg45 => (intro wS hSw; (try dsimp only at hSw); go_simp <;> with_reducible rfl)
                try simp only [Act.put, List.setIfInBounds_toArray, List.set_cons_zero, List.set_cons_succ]
                refine wpG_pure (i := 15) (oi := { dst := some 194, op := Go.Op.call { callee := Go.Callee.builtin Go.Builtin.len, args := #[Go.Operand.tmp 193], argTypes := #[9] }, type := 3, pos := "laws.go:1066", after := #[{ on := 14, ground := Go.Ground.data }, { on := 4, ground := Go.Ground.guard }], guard := some (4, false) }) (v := ?vg46) rfl (by kernel_rfl) (fun _ _ _ h => h) (Or.inr hHeld) (Or.inl ⟨by rfl, ?yg46⟩) ?_
                case yg46 => (intro wS _; go_simp <;> with_reducible rfl)
                try simp only [Act.put, List.setIfInBounds_toArray, List.set_cons_zero, List.set_cons_succ]
                refine wpG_pure (i := 16) (oi := { dst := some 195, op := Go.Op.binOp Go.BinOp.sub 3 (Go.Operand.tmp 189) (Go.Operand.tmp 194) 3, type := 3, pos := "laws.go:1066", after := #[{ on := 10, ground := Go.Ground.data }, { on := 15, ground := Go.Ground.data }, { on := 4, ground := Go.Ground.guard }], guard := some (4, false) }) (v := ?vg47) rfl (by kernel_rfl) (fun _ _ _ h => h) (Or.inr hHeld) (Or.inl ⟨by rfl, ?yg47⟩) ?_
                case yg47 => (intro wS _; go_simp <;> with_reducible rfl)
                try simp only [Act.put, List.setIfInBounds_toArray, List.set_cons_zero, List.set_cons_succ]
                refine wpG_pure (i := 17) (oi := { dst := some 196, op := Go.Op.move (Go.Operand.tmp 24), type := 3, pos := "laws.go:1066", after := #[{ on := 4, ground := Go.Ground.guard }], guard := some (4, false) }) (v := ?vg48) rfl (by kernel_rfl) (fun _ _ _ h => h) (Or.inr hHeld) (Or.inl ⟨by rfl, ?yg48⟩) ?_
                case yg48 => (intro wS _; go_simp <;> with_reducible rfl)
                try simp only [Act.put, List.setIfInBounds_toArray, List.set_cons_zero, List.set_cons_succ]
                refine wpG_pure (i := 18) (oi := { dst := some 197, op := Go.Op.build 62 #[(0, Go.Operand.tmp 195), (1, Go.Operand.tmp 196)], type := 62, pos := "laws.go:1066", after := #[{ on := 16, ground := Go.Ground.data }, { on := 17, ground := Go.Ground.data }, { on := 4, ground := Go.Ground.guard }], guard := some (4, false) }) (v := ?vg49) rfl (by kernel_rfl) (fun _ _ _ h => h) (Or.inr hHeld) (Or.inl ⟨by rfl, ?yg49⟩) ?_
                case yg49 => (intro wS _; go_simp <;> with_reducible rfl)
                try simp only [Act.put, List.setIfInBounds_toArray, List.set_cons_zero, List.set_cons_succ]
                refine wpG_pure (i := 19) (oi := { dst := some 198, op := Go.Op.binOp Go.BinOp.neq 62 (Go.Operand.tmp 187) (Go.Operand.tmp 197) 62, type := 4, pos := "laws.go:1066", after := #[{ on := 8, ground := Go.Ground.data }, { on := 18, ground := Go.Ground.data }, { on := 4, ground := Go.Ground.guard }], guard := some (4, false) }) (v := ?vg50) rfl (by kernel_rfl) (fun _ _ _ h => h) (Or.inr hHeld) (Or.inl ⟨by rfl, ?yg50⟩) ?_
                case yg50 => (intro wS _; go_simp <;> with_reducible rfl)
                try simp only [Act.put, List.setIfInBounds_toArray, List.set_cons_zero, List.set_cons_succ]
                refine wpG_pure (i := 20) (oi := { dst := some 199, op := Go.Op.pick (Go.Operand.tmp 183) (Go.Operand.const (Go.Value.bool true)) (Go.Operand.tmp 198), type := 4, pos := "laws.go:1066", after := #[{ on := 4, ground := Go.Ground.data }, { on := 19, ground := Go.Ground.data }], guard := none }) (v := ?vg51) rfl (by kernel_rfl) (fun _ _ _ h => h) (Or.inr hHeld) (Or.inl ⟨by rfl, ?yg51⟩) ?_
                case yg51 => (intro wS _; go_simp <;> with_reducible rfl)
                try simp only [Act.put, List.setIfInBounds_toArray, List.set_cons_zero, List.set_cons_succ]
                refine wpG_done (by kernel_rfl) ?_
                skip
                go_wp2_with fail
                go_roundw
                case rel => exact ⟨j + 1, by omega, by go_num, by rw [← HGN.out.2]; go_num, Lib.hid (rdrew HB9.out 1)⟩
                case measure => simp [intOf]; omega
            · obtain ⟨g1, q', g2, g3, g4, g5⟩ := fall_on hqT (by omega) hst
              rw [HN.out] at g1 g3
              obtain ⟨b1, o1, qa, qc, rfl, hb1, -, -, x2, -, -⟩ := state_cell HST.out (st_at hqT)
              replace x2 := below_cellk HB9.out x2 hb1
              simp only [stR] at x2
              rw [g2] at x2
              have HG5 := Lib.hid g5
              have hq1 : ((q : Int) == 0) = false := by simp; omega
              clear hst g5 g2
              generalize toR ss q (atS s i) N = tv at *
              subst g1
              go_wp2_with fail
              go_roundw
              case rel => exact ⟨q', g3, rfl, Lib.hid (by rw [HG5.out, HQ.out]), HB9⟩
              case measure => simp [intOf]; exact g4

end Go.Proofs.Ytfkcchbbbfeamaa.fnStates
