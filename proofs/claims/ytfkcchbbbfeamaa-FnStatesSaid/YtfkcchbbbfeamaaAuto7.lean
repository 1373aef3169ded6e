/- The contracts of StepState, the program's and the reference's. -/
import Derived.Test.YtfkcchbbbfeamaaAuto6
namespace Go.Proofs.Ytfkcchbbbfeamaa
set_option linter.unusedVariables false
open Go.ChangeShapes Go.WideShapes Go.ChangeAt Go.RowKit
set_option maxRecDepth 100000

def R_StepStateI (ws : List ByteArray) (k b : Int) : Int × Bool := R_StepState ws k (UInt8.ofNat b.toNat)
theorem SS_no {ws : List ByteArray} {k b : Int} (h : ¬ (wordsB ws = true ∧ 0 ≤ k ∧ k < (textsR ws).length)) : R_StepStateI ws k b = (0, false) := if_neg h
theorem SS_yes {ws : List ByteArray} {k : Nat} {b : Int} (h : wordsB ws = true) (h1 : k < (textsR ws).length) : R_StepStateI ws (k : Int) b = (atR (textsR ws) (longR ws (tx ws k ++ dig1 b)), true) := if_pos ⟨h, by omega, by omega⟩
set_option maxHeartbeats 2000000 in
theorem spec_StepState (w : World) (cs0 : List Value) (a0 : List ByteArray) (a1 a2 : Int) (h0 : kStringS.rd w.heap.size w cs0 a0) (h1 : (Lit.int .i64 a1).wf = true) (_h2 : (Lit.int .u8 a2).wf = true) (_ht : kStringS.wt a0 ≤ 1048576) :
    Calls Try.prog 30 #[one cs0, .int .i64 a1, .int .u8 a2] w fun e w' => e = .returned (.tuple #[.int .i64 (R_StepStateI a0 a1 a2).1, .bool (R_StepStateI a0 a1 a2).2]) ∧ Below w.heap.size w w' := by
  obtain ⟨a, cap, rfl, hrow, hc1, hc2, hsz⟩ := strS_row h0
  show Calls Try.prog 30 #[.slice a a0.length cap, .int .i64 a1, .int .u8 a2] w _
  have HW := Lib.hid (spec_words a cap a0 w hrow (by omega) hsz)
  have HR := Lib.hid hrow; have HSZ := Lib.hid hsz
  have hwf := wf_bd h1
  clear h0 hrow hsz _ht h1 _h2
  cases hb : wordsB a0 with
  | false =>
    rw [SS_no (fun h => by rw [hb] at h; cases h.1)]
    rw [hb] at HW
    clear hb
    go_enter Try.func30, Try.ntmps30
    go_wp2_with fail
    refine HW.out.mono ?_
    rintro e w' ⟨rfl, rfl⟩
    go_wp2_with fail
    go_ret2
    exact ⟨rfl, Below.refl _ _⟩
  | true =>
    rw [hb] at HW
    have HT := Lib.hid (spec_texts a cap a0 w HR.out hb)
    have htl := texts_len hb
    by_cases hk : 0 ≤ a1 ∧ a1 < (textsR a0).length
    case neg =>
      rw [SS_no (fun h => hk h.2)]
      have hd : (decide (a1 < 0) || decide (((textsR a0).length : Int) ≤ a1)) = true := by
        rw [Bool.or_eq_true, decide_eq_true_eq, decide_eq_true_eq]; omega
      clear hb
      by_cases hk0 : a1 < 0
      · go_enter Try.func30, Try.ntmps30
        go_wp2_with fail
        refine HW.out.mono ?_
        rintro e w' ⟨rfl, rfl⟩
        go_wp2_with fail
        refine HT.out.mono ?_
        rintro e w1 ⟨v, rfl, ho, hbl⟩
        obtain ⟨q, c, rfl⟩ := form_of_own ho
        have HB := Lib.hid hbl; clear hbl ho
        go_wp2_with fail
        go_ret2
        exact ⟨rfl, HB.out⟩
      · have hk1 : ((textsR a0).length : Int) ≤ a1 := by omega
        clear hk hd
        go_enter Try.func30, Try.ntmps30
        go_wp2_with fail
        refine HW.out.mono ?_
        rintro e w' ⟨rfl, rfl⟩
        go_wp2_with fail
        refine HT.out.mono ?_
        rintro e w1 ⟨v, rfl, ho, hbl⟩
        obtain ⟨q, c, rfl⟩ := form_of_own ho
        have HB := Lib.hid hbl; clear hbl ho
        go_wp2_with fail
        go_ret2
        exact ⟨rfl, HB.out⟩
    obtain ⟨k, rfl⟩ : ∃ k : Nat, a1 = (k : Int) := ⟨a1.toNat, by omega⟩
    have hkl : k < (textsR a0).length := by omega
    rw [SS_yes hb hkl]
    have hts := starts_size hb (tx_mem hkl)
    have hk0 : ¬ (k : Int) < 0 := by omega
    have hk1 : ¬ ((textsR a0).length : Int) ≤ (k : Int) := by omega
    clear hb hk
    go_enter Try.func30, Try.ntmps30
    go_wp2_with fail
    refine HW.out.mono ?_
    rintro e w' ⟨rfl, rfl⟩
    go_wp2_with fail
    refine HT.out.mono ?_
    rintro e w1 ⟨v, rfl, ho, hbl⟩
    obtain ⟨g, c, rfl, _⟩ := ho.form (by omega)
    have ct := ho.cellAt k (by omega)
    rw [strs_at _ k hkl, show (textsR a0).getD k ByteArray.empty = tx a0 k from rfl] at ct
    have HB := Lib.hid hbl; have HO := Lib.hid ho; clear hbl ho
    have hcv : (convert 33 9 (.slice (some ⟨w1.heap.size, 0, none⟩) 1 1)).run Try.prog (w1.alloc (.cells #[.int .u8 a2] 5)).drew = .ok (.string (dig1 a2)) (w1.alloc (.cells #[.int .u8 a2] 5)).drew := conv_byte w1.drew a2
    have hds := dig1_size a2
    have hcat : ¬ 9223372036854775807 < (tx a0 k).size + 1 := by omega
    have HBA : Hid (Below w.heap.size w (w1.alloc (.cells #[.int .u8 a2] 5)).drew) := Lib.hid (rdrew (HB.out.alloc HB.out.size _) 1)
    have HRX : Hid (Rw (w1.alloc (.cells #[.int .u8 a2] 5)).drew a (strs a0)) := Lib.hid ((HR.out.below HBA.out).rw HBA.out.size)
    have HOX : Hid ((w1.alloc (.cells #[.int .u8 a2] 5)).drew.ownsRow w.heap.size 9 1 (.slice (some ⟨g, 0, none⟩) (textsR a0).length c) (textsR a0).length (strs (textsR a0))) := Lib.hid (own_drewN (HO.out.alloc _) 1)
    go_wp2_with fail
    refine wp_region_G [10] (fun w' => w'.cell? ⟨g, k, none⟩ = some (.string (tx a0 k))) (by kernel_rfl) ?_ (fun hHeld => ?_)
    · exact ct
    refine wpG_pure (i := 0) (oi := { dst := some 22, op := Go.Op.move (Go.Operand.tmp 8), type := 39, pos := "l11_search.go:147", after := #[], guard := none }) (v := ?vg1) rfl (by kernel_rfl) (fun _ _ _ h => h) (Or.inr hHeld) (Or.inl ⟨by rfl, ?yg1⟩) ?_
    case yg1 => (intro wS _; go_simp <;> with_reducible rfl)
    try simp only [Act.put, List.setIfInBounds_toArray, List.set_cons_zero, List.set_cons_succ]
    refine wpG_pure (i := 1) (oi := { dst := some 23, op := Go.Op.move (Go.Operand.tmp 0), type := 39, pos := "l11_search.go:147", after := #[], guard := none }) (v := ?vg2) rfl (by kernel_rfl) (fun _ _ _ h => h) (Or.inr hHeld) (Or.inl ⟨by rfl, ?yg2⟩) ?_
    case yg2 => (intro wS _; go_simp <;> with_reducible rfl)
    try simp only [Act.put, List.setIfInBounds_toArray, List.set_cons_zero, List.set_cons_succ]
    refine wpG_pure (i := 2) (oi := { dst := some 24, op := Go.Op.move (Go.Operand.tmp 8), type := 39, pos := "l11_search.go:147", after := #[], guard := none }) (v := ?vg3) rfl (by kernel_rfl) (fun _ _ _ h => h) (Or.inr hHeld) (Or.inl ⟨by rfl, ?yg3⟩) ?_
    case yg3 => (intro wS _; go_simp <;> with_reducible rfl)
    try simp only [Act.put, List.setIfInBounds_toArray, List.set_cons_zero, List.set_cons_succ]
    refine wpG_pure (i := 3) (oi := { dst := some 25, op := Go.Op.move (Go.Operand.tmp 1), type := 3, pos := "l11_search.go:147", after := #[], guard := none }) (v := ?vg4) rfl (by kernel_rfl) (fun _ _ _ h => h) (Or.inr hHeld) (Or.inl ⟨by rfl, ?yg4⟩) ?_
    case yg4 => (intro wS _; go_simp <;> with_reducible rfl)
    try simp only [Act.put, List.setIfInBounds_toArray, List.set_cons_zero, List.set_cons_succ]
    refine wpG_pure (i := 4) (oi := { dst := some 26, op := Go.Op.indexAddr 39 (Go.Operand.tmp 24) (Go.Operand.tmp 25), type := 0, pos := "l11_search.go:147", after := #[{ on := 2, ground := Go.Ground.data }, { on := 3, ground := Go.Ground.data }], guard := none }) (v := ?vg5) rfl (by kernel_rfl) (fun _ _ _ h => h) (Or.inr hHeld) (Or.inl ⟨by rfl, ?yg5⟩) ?_
    case yg5 => (intro wS _; go_simp <;> with_reducible rfl)
    try simp only [Act.put, List.setIfInBounds_toArray, List.set_cons_zero, List.set_cons_succ]
    refine wpG_load (i := 5) (oi := { dst := some 27, op := Go.Op.load 9 (Go.Operand.tmp 26), type := 9, pos := "l11_search.go:147", after := #[{ on := 4, ground := Go.Ground.data }], guard := none }) (v := ?vg6) [[10, 9, 5]] rfl (by kernel_rfl) (fun _ _ _ h => h) hHeld (Or.inl ⟨by rfl, ?yg6⟩) ?_
    case yg6 => (intro wS hSw; (try dsimp only at hSw); go_simp <;> with_reducible rfl)
    try simp only [Act.put, List.setIfInBounds_toArray, List.set_cons_zero, List.set_cons_succ]
    refine wpG_pure (i := 6) (oi := { dst := some 28, op := Go.Op.move (Go.Operand.tmp 2), type := 5, pos := "l11_search.go:147", after := #[], guard := none }) (v := ?vg7) rfl (by kernel_rfl) (fun _ _ _ h => h) (Or.inr hHeld) (Or.inl ⟨by rfl, ?yg7⟩) ?_
    case yg7 => (intro wS _; go_simp <;> with_reducible rfl)
    try simp only [Act.put, List.setIfInBounds_toArray, List.set_cons_zero, List.set_cons_succ]
    refine wpG_one (i := 7) (o := { dst := some 29, op := Go.Op.buildSlice 33 1 #[(0, Go.Operand.tmp 28)], type := 33, pos := "l11_search.go:147", after := #[{ on := 6, ground := Go.Ground.data }], guard := none }) rfl (by kernel_rfl) (fun K hK => ?_)
    go_simp
    refine hK.out _ _ (Or.inr ?khHeld8) (fun hHeld8S => ?_)
    case khHeld8 => exact cell_alloc _ ct
    have hHeld8 := hHeld8S.held (by kernel_rfl)
    clear hK K
    try simp only [Act.put, List.setIfInBounds_toArray, List.set_cons_zero, List.set_cons_succ]
    refine wpG_one (i := 8) (o := { dst := some 30, op := Go.Op.convert 33 9 (Go.Operand.tmp 29), type := 9, pos := "l11_search.go:147", after := #[{ on := 7, ground := Go.Ground.data }], guard := none }) rfl (by kernel_rfl) (fun K hK => ?_)
    go_simp
    refine hK.out _ _ (Or.inr ?khHeld9) (fun hHeld9S => ?_)
    case khHeld9 => exact cell_alloc _ ct
    have hHeld9 := hHeld9S.held (by kernel_rfl)
    clear hK K
    try simp only [Act.put, List.setIfInBounds_toArray, List.set_cons_zero, List.set_cons_succ]
    refine wpG_pure (i := 9) (oi := { dst := some 31, op := Go.Op.binOp Go.BinOp.add 9 (Go.Operand.tmp 27) (Go.Operand.tmp 30) 9, type := 9, pos := "l11_search.go:147", after := #[{ on := 5, ground := Go.Ground.data }, { on := 8, ground := Go.Ground.data }], guard := none }) (v := ?vg10) rfl (by kernel_rfl) (fun _ _ _ h => h) (Or.inr hHeld9) (Or.inl ⟨by rfl, ?yg10⟩) ?_
    case yg10 => (intro wS _; go_simp <;> with_reducible rfl)
    try simp only [Act.put, List.setIfInBounds_toArray, List.set_cons_zero, List.set_cons_succ]
    refine wpG_one (i := 10) (o := { dst := some 32, op := Go.Op.call { callee := Go.Callee.value (Go.Operand.func 56), args := #[Go.Operand.tmp 23, Go.Operand.tmp 31], argTypes := #[39, 9] }, type := 9, pos := "l11_search.go:147", after := #[{ on := 1, ground := Go.Ground.data }, { on := 9, ground := Go.Ground.data }], guard := none }) rfl (by kernel_rfl) (fun K hK => ?_)
    go_simp
    refine (spec_longest a cap a0 (tx a0 k ++ dig1 a2) _ HRX.out (by omega) HSZ.out (by rw [ByteArray.size_append]; omega)).mono ?_
    rintro e w' ⟨rfl, rfl⟩
    refine hK.out _ _ (Or.inl (by kernel_rfl)) (fun _ => ?_)
    clear hK K
    try simp only [Act.put, List.setIfInBounds_toArray, List.set_cons_zero, List.set_cons_succ]
    refine wpG_one (i := 11) (o := { dst := some 33, op := Go.Op.call { callee := Go.Callee.value (Go.Operand.func 61), args := #[Go.Operand.tmp 22, Go.Operand.tmp 32], argTypes := #[39, 9] }, type := 3, pos := "l11_search.go:147", after := #[{ on := 0, ground := Go.Ground.data }, { on := 10, ground := Go.Ground.data }, { on := 10, ground := Go.Ground.chain }], guard := none }) rfl (by kernel_rfl) (fun K hK => ?_)
    go_simp
    refine (spec_at (some ⟨g, 0, none⟩) c (textsR a0) (longR a0 (tx a0 k ++ dig1 a2)) _ (own_rw HOX.out) (by omega)).mono ?_
    rintro e w' ⟨rfl, rfl⟩
    refine hK.out _ _ (Or.inl (by kernel_rfl)) (fun _ => ?_)
    clear hK K
    try simp only [Act.put, List.setIfInBounds_toArray, List.set_cons_zero, List.set_cons_succ]
    refine wpG_pure (i := 12) (oi := { dst := some 6, op := Go.Op.assign (Go.Operand.tmp 33), type := 3, pos := "l11_search.go:147", after := #[{ on := 11, ground := Go.Ground.data }, { on := 11, ground := Go.Ground.chain }, { on := 0, ground := Go.Ground.phase }, { on := 1, ground := Go.Ground.phase }, { on := 2, ground := Go.Ground.phase }, { on := 3, ground := Go.Ground.phase }, { on := 4, ground := Go.Ground.phase }, { on := 5, ground := Go.Ground.phase }, { on := 6, ground := Go.Ground.phase }, { on := 7, ground := Go.Ground.phase }, { on := 8, ground := Go.Ground.phase }, { on := 9, ground := Go.Ground.phase }, { on := 10, ground := Go.Ground.phase }, { on := 11, ground := Go.Ground.phase }], guard := none }) (v := ?vg13) rfl (by kernel_rfl) (fun _ _ _ h => h) (Or.inl (by kernel_rfl)) (Or.inl ⟨by rfl, ?yg13⟩) ?_
    case yg13 => (intro wS _; go_simp <;> with_reducible rfl)
    try simp only [Act.put, List.setIfInBounds_toArray, List.set_cons_zero, List.set_cons_succ]
    refine wpG_pure (i := 13) (oi := { dst := some 7, op := Go.Op.assign (Go.Operand.const (Go.Value.bool true)), type := 4, pos := "l11_search.go:147", after := #[{ on := 12, ground := Go.Ground.chain }, { on := 0, ground := Go.Ground.phase }, { on := 1, ground := Go.Ground.phase }, { on := 2, ground := Go.Ground.phase }, { on := 3, ground := Go.Ground.phase }, { on := 4, ground := Go.Ground.phase }, { on := 5, ground := Go.Ground.phase }, { on := 6, ground := Go.Ground.phase }, { on := 7, ground := Go.Ground.phase }, { on := 8, ground := Go.Ground.phase }, { on := 9, ground := Go.Ground.phase }, { on := 10, ground := Go.Ground.phase }, { on := 11, ground := Go.Ground.phase }, { on := 12, ground := Go.Ground.phase }], guard := none }) (v := ?vg14) rfl (by kernel_rfl) (fun _ _ _ h => h) (Or.inl (by kernel_rfl)) (Or.inl ⟨by rfl, ?yg14⟩) ?_
    case yg14 => (intro wS _; go_simp <;> with_reducible rfl)
    try simp only [Act.put, List.setIfInBounds_toArray, List.set_cons_zero, List.set_cons_succ]
    refine wpG_done (by kernel_rfl) ?_
    skip
    go_wp2_with fail
    go_ret2
    exact ⟨rfl, HBA.out⟩
set_option maxHeartbeats 2000000 in
theorem impl_StepState (w : World) (cs0 : List Value) (a0 : List ByteArray) (a1 a2 : Int) (h0 : kStringS.rd w.heap.size w cs0 a0) (_h1 : (Lit.int .i64 a1).wf = true) (_h2 : (Lit.int .u8 a2).wf = true) (_ht : kStringS.wt a0 ≤ 1048576) :
    Calls Try.prog 31 #[one cs0, .int .i64 a1, .int .u8 a2] w fun e w' => e = .returned (.tuple #[.int .i64 (R_StepStateI a0 a1 a2).1, .bool (R_StepStateI a0 a1 a2).2]) ∧ Below w.heap.size w w' := by
  obtain ⟨a, cap, rfl, hrow, hc1, hc2, hsz⟩ := strS_row h0
  show Calls Try.prog 31 #[.slice a a0.length cap, .int .i64 a1, .int .u8 a2] w _
  have HW := Lib.hid (wordsOK_any a cap a0 w hrow (by omega) hsz)
  have HR := Lib.hid hrow
  clear h0 hrow hsz _ht _h1 _h2
  cases hb : wordsB a0 with
  | false =>
    rw [SS_no (fun h => by rw [hb] at h; cases h.1)]
    rw [hb] at HW
    clear hb
    go_enter Try.func31, Try.ntmps31
    go_wp2_with fail
    refine HW.out.mono ?_
    rintro e w' ⟨rfl, rfl⟩
    go_wp2_with fail
    go_ret2
    exact ⟨rfl, Below.refl _ _⟩
  | true =>
    rw [hb] at HW
    have HT := Lib.hid (impl_build a cap a0 w HR.out hb)
    have htl := texts_len hb
    have htp := texts_pos a0
    have hwn : IntKind.i64.wrap (((textsR a0).length : Int) - 1) = ((textsR a0).length : Int) - 1 := IntWalk.i64_in _ (by omega)
    have HI := Lib.hid (fun wx => within_any a1 0 (((textsR a0).length : Int) - 1) wx)
    by_cases hk : 0 ≤ a1 ∧ a1 < (textsR a0).length
    case neg =>
      rw [SS_no (fun h => hk h.2)]
      rw [inB_no (fun h => hk (by omega))] at HI
      clear hb hk
      go_enter Try.func31, Try.ntmps31
      go_wp2_with fail
      refine HW.out.mono ?_
      rintro e w' ⟨rfl, rfl⟩
      go_wp2_with fail
      refine HT.out.mono ?_
      rintro e w1 ⟨A, M, sv, tv, vss, fps, rfl, hau, hbl⟩
      have HB := Lib.hid hbl
      obtain ⟨sg, sc, tg, tc, rfl, rfl, c0, c1, c2, ct⟩ := au_read hau (by simp)
      clear hau hbl ct
      go_wp2_with fail
      refine (HI.out _).mono ?_
      rintro e w' ⟨rfl, rfl⟩
      go_wp2_with fail
      go_ret2
      exact ⟨rfl, HB.out⟩
    obtain ⟨k, rfl⟩ : ∃ k : Nat, a1 = (k : Int) := ⟨a1.toNat, by omega⟩
    have hkl : k < (textsR a0).length := by omega
    rw [SS_yes hb hkl]
    rw [inB_yes (by omega)] at HI
    have hts := starts_size hb (tx_mem hkl)
    have HLG := Lib.hid (fun A M wx hc hm => impl_longest a0 (tx a0 k ++ dig1 a2) A M wx hc hm (by rw [ByteArray.size_append, dig1_size]; omega))
    clear hb hk
    go_enter Try.func31, Try.ntmps31
    go_wp2_with fail
    refine HW.out.mono ?_
    rintro e w' ⟨rfl, rfl⟩
    go_wp2_with fail
    refine HT.out.mono ?_
    rintro e w1 ⟨A, M, sv, tv, vss, fps, rfl, hau, hbl⟩
    have HB := Lib.hid hbl; have HA := Lib.hid hau
    obtain ⟨sg, sc, tg, tc, rfl, rfl, c0, c1, c2, ct⟩ := au_read hau (by simp)
    have ctk := ct k hkl
    clear hau hbl ct
    go_wp2_with fail
    refine (HI.out _).mono ?_
    rintro e w' ⟨rfl, rfl⟩
    have hds := dig1_size a2
    have hcat : ¬ 9223372036854775807 < (tx a0 k).size + 1 := by omega
    have hcv : (convert 33 9 (.slice (some ⟨w1.heap.size, 0, none⟩) 1 1)).run Try.prog (w1.alloc (.cells #[.int .u8 a2] 5)).drew = .ok (.string (dig1 a2)) (w1.alloc (.cells #[.int .u8 a2] 5)).drew := conv_byte w1.drew a2
    have HAA : Hid (Au w.heap.size (w1.alloc (.cells #[.int .u8 a2] 5)).drew A M (.slice (some ⟨sg, 0, none⟩) (textsR a0).length sc) (.slice (some ⟨tg, 0, none⟩) (textsR a0).length tc) (textsR a0) (textsR a0) vss fps ((textsR a0).map (stR a0))) := Lib.hid (HA.out.alloc (.cells #[.int .u8 a2] 5)).drew
    have HBA : Hid (Below w.heap.size w (w1.alloc (.cells #[.int .u8 a2] 5)).drew) := Lib.hid (rdrew (HB.out.alloc HB.out.size _) 1)
    go_wp2_with fail
    refine wp_region_G [12] (fun w' => w'.cell? ⟨A, 1, none⟩ = some (.slice (some ⟨tg, 0, none⟩) (textsR a0).length tc) ∧ w'.cell? ⟨tg, k, none⟩ = some (.string (tx a0 k))) (by kernel_rfl) ?_ (fun hHeld => ?_)
    · exact ⟨c1, ctk⟩
    refine wpG_pure (i := 0) (oi := { dst := some 23, op := Go.Op.move (Go.Operand.tmp 8), type := 80, pos := "l11_search.go:160", after := #[], guard := none }) (v := ?vg15) rfl (by kernel_rfl) (fun _ _ _ h => h) (Or.inr hHeld) (Or.inl ⟨by rfl, ?yg15⟩) ?_
    case yg15 => (intro wS _; go_simp <;> with_reducible rfl)
    try simp only [Act.put, List.setIfInBounds_toArray, List.set_cons_zero, List.set_cons_succ]
    refine wpG_pure (i := 1) (oi := { dst := some 24, op := Go.Op.move (Go.Operand.tmp 8), type := 80, pos := "l11_search.go:160", after := #[], guard := none }) (v := ?vg16) rfl (by kernel_rfl) (fun _ _ _ h => h) (Or.inr hHeld) (Or.inl ⟨by rfl, ?yg16⟩) ?_
    case yg16 => (intro wS _; go_simp <;> with_reducible rfl)
    try simp only [Act.put, List.setIfInBounds_toArray, List.set_cons_zero, List.set_cons_succ]
    refine wpG_pure (i := 2) (oi := { dst := some 25, op := Go.Op.nilCheck (Go.Operand.tmp 24), type := 0, pos := "l11_search.go:160", after := #[{ on := 1, ground := Go.Ground.data }], guard := none }) (v := ?vg17) rfl (by kernel_rfl) (fun _ _ _ h => h) (Or.inr hHeld) (Or.inl ⟨by rfl, ?yg17⟩) ?_
    case yg17 => (intro wS _; go_simp <;> with_reducible rfl)
    try simp only [Act.put, List.setIfInBounds_toArray, List.set_cons_zero, List.set_cons_succ]
    refine wpG_pure (i := 3) (oi := { dst := some 26, op := Go.Op.fieldAddr 84 (Go.Operand.tmp 25) 1, type := 0, pos := "l11_search.go:160", after := #[{ on := 2, ground := Go.Ground.data }], guard := none }) (v := ?vg18) rfl (by kernel_rfl) (fun _ _ _ h => h) (Or.inr hHeld) (Or.inl ⟨by rfl, ?yg18⟩) ?_
    case yg18 => (intro wS _; go_simp <;> with_reducible rfl)
    try simp only [Act.put, List.setIfInBounds_toArray, List.set_cons_zero, List.set_cons_succ]
    refine wpG_load (i := 4) (oi := { dst := some 27, op := Go.Op.load 39 (Go.Operand.tmp 26), type := 39, pos := "l11_search.go:160", after := #[{ on := 3, ground := Go.Ground.data }], guard := none }) (v := ?vg19) [[12, 11, 7, 6, 4]] rfl (by kernel_rfl) (fun _ _ _ h => h) hHeld (Or.inl ⟨by rfl, ?yg19⟩) ?_
    case yg19 => (intro wS hSw; (try dsimp only at hSw); go_simp <;> with_reducible rfl)
    try simp only [Act.put, List.setIfInBounds_toArray, List.set_cons_zero, List.set_cons_succ]
    refine wpG_pure (i := 5) (oi := { dst := some 28, op := Go.Op.move (Go.Operand.tmp 1), type := 3, pos := "l11_search.go:160", after := #[], guard := none }) (v := ?vg20) rfl (by kernel_rfl) (fun _ _ _ h => h) (Or.inr hHeld) (Or.inl ⟨by rfl, ?yg20⟩) ?_
    case yg20 => (intro wS _; go_simp <;> with_reducible rfl)
    try simp only [Act.put, List.setIfInBounds_toArray, List.set_cons_zero, List.set_cons_succ]
    refine wpG_pure (i := 6) (oi := { dst := some 29, op := Go.Op.indexAddr 39 (Go.Operand.tmp 27) (Go.Operand.tmp 28), type := 0, pos := "l11_search.go:160", after := #[{ on := 4, ground := Go.Ground.data }, { on := 5, ground := Go.Ground.data }], guard := none }) (v := ?vg21) rfl (by kernel_rfl) (fun _ _ _ h => h) (Or.inr hHeld) (Or.inl ⟨by rfl, ?yg21⟩) ?_
    case yg21 => (intro wS _; go_simp <;> with_reducible rfl)
    try simp only [Act.put, List.setIfInBounds_toArray, List.set_cons_zero, List.set_cons_succ]
    refine wpG_load (i := 7) (oi := { dst := some 30, op := Go.Op.load 9 (Go.Operand.tmp 29), type := 9, pos := "l11_search.go:160", after := #[{ on := 6, ground := Go.Ground.data }], guard := none }) (v := ?vg22) [[12, 11, 7]] rfl (by kernel_rfl) (fun _ _ _ h => h) hHeld (Or.inl ⟨by rfl, ?yg22⟩) ?_
    case yg22 => (intro wS hSw; (try dsimp only at hSw); go_simp <;> with_reducible rfl)
    try simp only [Act.put, List.setIfInBounds_toArray, List.set_cons_zero, List.set_cons_succ]
    refine wpG_pure (i := 8) (oi := { dst := some 31, op := Go.Op.move (Go.Operand.tmp 2), type := 5, pos := "l11_search.go:160", after := #[], guard := none }) (v := ?vg23) rfl (by kernel_rfl) (fun _ _ _ h => h) (Or.inr hHeld) (Or.inl ⟨by rfl, ?yg23⟩) ?_
    case yg23 => (intro wS _; go_simp <;> with_reducible rfl)
    try simp only [Act.put, List.setIfInBounds_toArray, List.set_cons_zero, List.set_cons_succ]
    refine wpG_one (i := 9) (o := { dst := some 32, op := Go.Op.buildSlice 33 1 #[(0, Go.Operand.tmp 31)], type := 33, pos := "l11_search.go:160", after := #[{ on := 8, ground := Go.Ground.data }], guard := none }) rfl (by kernel_rfl) (fun K hK => ?_)
    go_simp
    refine hK.out _ _ (Or.inr ?khHeld24) (fun hHeld24S => ?_)
    case khHeld24 => exact ⟨cell_alloc _ c1, cell_alloc _ ctk⟩
    have hHeld24 := hHeld24S.held (by kernel_rfl)
    clear hK K
    try simp only [Act.put, List.setIfInBounds_toArray, List.set_cons_zero, List.set_cons_succ]
    refine wpG_one (i := 10) (o := { dst := some 33, op := Go.Op.convert 33 9 (Go.Operand.tmp 32), type := 9, pos := "l11_search.go:160", after := #[{ on := 9, ground := Go.Ground.data }], guard := none }) rfl (by kernel_rfl) (fun K hK => ?_)
    go_simp
    refine hK.out _ _ (Or.inr ?khHeld25) (fun hHeld25S => ?_)
    case khHeld25 => exact ⟨cell_alloc _ c1, cell_alloc _ ctk⟩
    have hHeld25 := hHeld25S.held (by kernel_rfl)
    clear hK K
    try simp only [Act.put, List.setIfInBounds_toArray, List.set_cons_zero, List.set_cons_succ]
    refine wpG_pure (i := 11) (oi := { dst := some 34, op := Go.Op.binOp Go.BinOp.add 9 (Go.Operand.tmp 30) (Go.Operand.tmp 33) 9, type := 9, pos := "l11_search.go:160", after := #[{ on := 7, ground := Go.Ground.data }, { on := 10, ground := Go.Ground.data }], guard := none }) (v := ?vg26) rfl (by kernel_rfl) (fun _ _ _ h => h) (Or.inr hHeld25) (Or.inl ⟨by rfl, ?yg26⟩) ?_
    case yg26 => (intro wS _; go_simp <;> with_reducible rfl)
    try simp only [Act.put, List.setIfInBounds_toArray, List.set_cons_zero, List.set_cons_succ]
    refine wpG_one (i := 12) (o := { dst := some 35, op := Go.Op.call { callee := Go.Callee.value (Go.Operand.func 59), args := #[Go.Operand.tmp 23, Go.Operand.tmp 34], argTypes := #[80, 9] }, type := 3, pos := "l11_search.go:160", after := #[{ on := 0, ground := Go.Ground.data }, { on := 11, ground := Go.Ground.data }], guard := none }) rfl (by kernel_rfl) (fun K hK => ?_)
    go_simp
    refine (HLG.out A M _ HAA.out.cells.2.2.1 HAA.out.map).mono ?_
    rintro e w' ⟨rfl, rfl⟩
    refine hK.out _ _ (Or.inl (by kernel_rfl)) (fun _ => ?_)
    clear hK K
    try simp only [Act.put, List.setIfInBounds_toArray, List.set_cons_zero, List.set_cons_succ]
    refine wpG_pure (i := 13) (oi := { dst := some 6, op := Go.Op.assign (Go.Operand.tmp 35), type := 3, pos := "l11_search.go:160", after := #[{ on := 12, ground := Go.Ground.data }, { on := 12, ground := Go.Ground.chain }, { on := 0, ground := Go.Ground.phase }, { on := 1, ground := Go.Ground.phase }, { on := 2, ground := Go.Ground.phase }, { on := 3, ground := Go.Ground.phase }, { on := 4, ground := Go.Ground.phase }, { on := 5, ground := Go.Ground.phase }, { on := 6, ground := Go.Ground.phase }, { on := 7, ground := Go.Ground.phase }, { on := 8, ground := Go.Ground.phase }, { on := 9, ground := Go.Ground.phase }, { on := 10, ground := Go.Ground.phase }, { on := 11, ground := Go.Ground.phase }, { on := 12, ground := Go.Ground.phase }], guard := none }) (v := ?vg28) rfl (by kernel_rfl) (fun _ _ _ h => h) (Or.inl (by kernel_rfl)) (Or.inl ⟨by rfl, ?yg28⟩) ?_
    case yg28 => (intro wS _; go_simp <;> with_reducible rfl)
    try simp only [Act.put, List.setIfInBounds_toArray, List.set_cons_zero, List.set_cons_succ]
    refine wpG_pure (i := 14) (oi := { dst := some 7, op := Go.Op.assign (Go.Operand.const (Go.Value.bool true)), type := 4, pos := "l11_search.go:160", after := #[{ on := 13, ground := Go.Ground.chain }, { on := 0, ground := Go.Ground.phase }, { on := 1, ground := Go.Ground.phase }, { on := 2, ground := Go.Ground.phase }, { on := 3, ground := Go.Ground.phase }, { on := 4, ground := Go.Ground.phase }, { on := 5, ground := Go.Ground.phase }, { on := 6, ground := Go.Ground.phase }, { on := 7, ground := Go.Ground.phase }, { on := 8, ground := Go.Ground.phase }, { on := 9, ground := Go.Ground.phase }, { on := 10, ground := Go.Ground.phase }, { on := 11, ground := Go.Ground.phase }, { on := 12, ground := Go.Ground.phase }, { on := 13, ground := Go.Ground.phase }], guard := none }) (v := ?vg29) rfl (by kernel_rfl) (fun _ _ _ h => h) (Or.inl (by kernel_rfl)) (Or.inl ⟨by rfl, ?yg29⟩) ?_
    case yg29 => (intro wS _; go_simp <;> with_reducible rfl)
    try simp only [Act.put, List.setIfInBounds_toArray, List.set_cons_zero, List.set_cons_succ]
    refine wpG_done (by kernel_rfl) ?_
    skip
    go_wp2_with fail
    go_ret2
    exact ⟨rfl, HBA.out⟩
end Go.Proofs.Ytfkcchbbbfeamaa
