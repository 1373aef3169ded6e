/- The contracts of LongestEnd and StepState, the program's and the reference's. -/
import Derived.Test.YtfkcchbbbfeamaaAuto5
import Derived.Test.YtfkcchbbbfeamaaHStringS
import Derived.Test.YtfkcchbbbfeamaaMarkText
namespace Go.Proofs.Ytfkcchbbbfeamaa
set_option linter.unusedVariables false
open Go.ChangeShapes Go.WideShapes Go.ChangeAt Go.RowKit
set_option maxRecDepth 100000

theorem strS_row {B : Nat} {w : World} {cs : List Value} {ws : List ByteArray} (h : kStringS.rd B w cs ws) : ∃ a cap, cs = [.slice a ws.length cap] ∧ Rb B w a (strs ws) ∧ ws.length ≤ cap ∧ cap ≤ 9223372036854775807 ∧ ∀ s ∈ ws, s.size ≤ 9223372036854775807 := by
  obtain ⟨a, cap, vss, rfl, hc, hrow, hl⟩ := h
  have key : ∀ (vss : List (List Value)) (ws : List ByteArray), RdL kStr B w vss ws → vss.flatten = strs ws ∧ ∀ s ∈ ws, s.size ≤ maxLen := by
    intro vss
    induction vss with
    | nil => intro ws h; match ws, h with | [], _ => exact ⟨rfl, by simp⟩
    | cons v vs ih =>
      intro ws h
      match ws, h with
      | x :: xs, h =>
        obtain ⟨⟨rfl, hx⟩, h2⟩ := h
        obtain ⟨e1, e2⟩ := ih xs h2
        refine ⟨by rw [List.flatten_cons, e1]; rfl, fun s hs => ?_⟩
        rcases List.mem_cons.1 hs with rfl | hs
        · exact hx
        · exact e2 s hs
  obtain ⟨e1, e2⟩ := key vss ws hl
  unfold maxLen at hc e2
  exact ⟨a, cap, rfl, by rw [← e1]; exact hrow, hc.1, by omega, fun s hs => by have := e2 s hs; omega⟩
/-! ### LongestEnd -/
theorem LE_no {ws : List ByteArray} {s : ByteArray} (h : ¬ (s.size ≤ 200 ∧ wordsB ws = true)) : R_LongestEnd ws s = (0, false) := if_neg h
theorem LE_yes {ws : List ByteArray} {s : ByteArray} (h : s.size ≤ 200 ∧ wordsB ws = true) : R_LongestEnd ws s = (((longR ws s).size : Int), true) := if_pos h
set_option maxHeartbeats 1000000 in
theorem spec_LongestEnd (w : World) (cs0 : List Value) (a0 : List ByteArray) (a1 : ByteArray) (h0 : kStringS.rd w.heap.size w cs0 a0) (hs : a1.size ≤ maxLen) (_ht : kStringS.wt a0 ≤ 1048576) :
    Calls Try.prog 26 #[one cs0, .string a1] w fun e w' => e = .returned (.tuple #[.int .i64 (R_LongestEnd a0 a1).1, .bool (R_LongestEnd a0 a1).2]) ∧ Below w.heap.size w w' := by
  unfold maxLen at hs
  obtain ⟨a, cap, rfl, hrow, hc1, hc2, hsz⟩ := strS_row h0
  show Calls Try.prog 26 #[.slice a a0.length cap, .string a1] w _
  have HW := Lib.hid (spec_words a cap a0 w hrow (by omega) hsz)
  have HL := Lib.hid (spec_longest a cap a0 a1 w hrow (by omega) hsz (by omega))
  clear h0 hrow hsz _ht
  by_cases h2 : a1.size ≤ 200
  case neg =>
    rw [LE_no (fun h => h2 h.1)]
    have hd : (200 : Int) < (a1.size : Int) := by omega
    go_enter Try.func26, Try.ntmps26
    go_wp2_with fail
    go_ret2
    exact ⟨rfl, Below.refl _ _⟩
  have hd : ¬ (200 : Int) < (a1.size : Int) := by omega
  cases hb : wordsB a0 with
  | false =>
    rw [LE_no (fun h => by rw [hb] at h; cases h.2)]
    rw [hb] at HW
    clear hb
    go_enter Try.func26, Try.ntmps26
    go_wp2_with fail
    refine HW.out.mono ?_
    rintro e w' ⟨rfl, rfl⟩
    go_wp2_with fail
    go_ret2
    exact ⟨rfl, Below.refl _ _⟩
  | true =>
    rw [LE_yes ⟨h2, hb⟩]
    rw [hb] at HW
    clear hb
    generalize longR a0 a1 = r at *
    go_enter Try.func26, Try.ntmps26
    go_wp2_with fail
    refine HW.out.mono ?_
    rintro e w' ⟨rfl, rfl⟩
    go_wp2_with fail
    refine HL.out.mono ?_
    rintro e w' ⟨rfl, rfl⟩
    go_wp2_with fail
    go_ret2
    exact ⟨rfl, Below.refl _ _⟩
/-- what build made, as the callers read it -/
theorem au_read {n0 : Nat} {w : World} {A M : Nat} {sv tv : Value} {ws : List ByteArray} {vss : List (List Value)} {fps : List (List Nat)} {xs : List St} (h : Au n0 w A M sv tv (textsR ws) (textsR ws) vss fps xs) (hx : xs.length = (textsR ws).length) :
    ∃ sg sc tg tc, sv = .slice (some ⟨sg, 0, none⟩) (textsR ws).length sc ∧ tv = .slice (some ⟨tg, 0, none⟩) (textsR ws).length tc ∧ w.cell? ⟨A, 0, none⟩ = some (.slice (some ⟨sg, 0, none⟩) (textsR ws).length sc) ∧ w.cell? ⟨A, 1, none⟩ = some (.slice (some ⟨tg, 0, none⟩) (textsR ws).length tc) ∧ w.cell? ⟨A, 2, none⟩ = some (.map (some M)) ∧
      ∀ k, k < (textsR ws).length → w.cell? ⟨tg, k, none⟩ = some (.string (tx ws k)) := by
  have hp := texts_pos ws
  have hs := h.sts
  rw [hx] at hs
  obtain ⟨sg, sc, rfl, _⟩ := hs.form (by omega)
  obtain ⟨tg, tc, rfl, _⟩ := h.txt.form (by omega)
  obtain ⟨c0, c1, c2, _⟩ := h.cells
  refine ⟨sg, sc, tg, tc, rfl, rfl, c0, c1, c2, fun k hk => ?_⟩
  rw [h.txt.cellAt k (by omega)]
  exact strs_at _ k hk
set_option maxHeartbeats 1000000 in
theorem impl_LongestEnd (w : World) (cs0 : List Value) (a0 : List ByteArray) (a1 : ByteArray) (h0 : kStringS.rd w.heap.size w cs0 a0) (hs : a1.size ≤ maxLen) (_ht : kStringS.wt a0 ≤ 1048576) :
    Calls Try.prog 28 #[one cs0, .string a1] w fun e w' => e = .returned (.tuple #[.int .i64 (R_LongestEnd a0 a1).1, .bool (R_LongestEnd a0 a1).2]) ∧ Below w.heap.size w w' := by
  unfold maxLen at hs
  obtain ⟨a, cap, rfl, hrow, hc1, hc2, hsz⟩ := strS_row h0
  show Calls Try.prog 28 #[.slice a a0.length cap, .string a1] w _
  have HW := Lib.hid (wordsOK_any a cap a0 w hrow (by omega) hsz)
  have HR := Lib.hid hrow
  clear h0 hrow hsz _ht
  cases hb : wordsB a0 with
  | false =>
    rw [LE_no (fun h => by rw [hb] at h; cases h.2)]
    rw [hb] at HW
    clear hb
    go_enter Try.func28, Try.ntmps28
    go_wp2_with fail
    refine HW.out.mono ?_
    rintro e w' ⟨rfl, rfl⟩
    go_wp2_with fail
    go_ret2
    exact ⟨rfl, Below.refl _ _⟩
  | true =>
    rw [hb] at HW
    by_cases h2 : a1.size ≤ 200
    case neg =>
      rw [LE_no (fun h => h2 h.1)]
      have hd : (200 : Int) < (a1.size : Int) := by omega
      clear hb
      go_enter Try.func28, Try.ntmps28
      go_wp2_with fail
      refine HW.out.mono ?_
      rintro e w' ⟨rfl, rfl⟩
      go_wp2_with fail
      go_ret2
      exact ⟨rfl, Below.refl _ _⟩
    have hd : ¬ (200 : Int) < (a1.size : Int) := by omega
    rw [LE_yes ⟨h2, hb⟩]
    have HBU := Lib.hid (impl_build a cap a0 w HR.out hb)
    obtain ⟨j, hj1, hj2, hj3⟩ := num_of (longR_spec a0 a1).1
    have HJ := Lib.hid hj3
    have HLG := Lib.hid (fun A M wx hc hm => impl_longest a0 a1 A M wx hc hm (by omega))
    rw [hj1] at HLG
    clear hb hj1 hj3
    go_enter Try.func28, Try.ntmps28
    go_wp2_with fail
    refine HW.out.mono ?_
    rintro e w' ⟨rfl, rfl⟩
    go_wp2_with fail
    refine HBU.out.mono ?_
    rintro e w1 ⟨A, M, sv, tv, vss, fps, rfl, hau, hb⟩
    have HB := Lib.hid hb; have HA := Lib.hid hau
    obtain ⟨sg, sc, tg, tc, rfl, rfl, c0, c1, c2, ct⟩ := au_read hau (by simp)
    have ctj := ct j hj2
    rw [HJ.out] at ctj
    clear hau hb ct
    generalize (textsR a0).length = N at *
    go_wp2_with fail
    refine wp_region_G [] (fun w' => w'.cell? ⟨A, 1, none⟩ = some (.slice (some ⟨tg, 0, none⟩) N tc) ∧ w'.cell? ⟨tg, j, none⟩ = some (.string (longR a0 a1))) (by kernel_rfl) ?_ (fun hHeld => ?_)
    · exact ⟨c1, ctj⟩
    refine wpG_pure (i := 0) (oi := { dst := some 17, op := Go.Op.move (Go.Operand.tmp 6), type := 80, pos := "l11_search.go:168", after := #[], guard := none }) (v := ?vg1) rfl (by kernel_rfl) (fun _ _ _ h => h) (Or.inr hHeld) (Or.inl ⟨by rfl, ?yg1⟩) ?_
    case yg1 => (intro wS _; go_simp <;> with_reducible rfl)
    try simp only [Act.put, List.setIfInBounds_toArray, List.set_cons_zero, List.set_cons_succ]
    refine wpG_pure (i := 1) (oi := { dst := some 18, op := Go.Op.nilCheck (Go.Operand.tmp 17), type := 0, pos := "l11_search.go:168", after := #[{ on := 0, ground := Go.Ground.data }], guard := none }) (v := ?vg2) rfl (by kernel_rfl) (fun _ _ _ h => h) (Or.inr hHeld) (Or.inl ⟨by rfl, ?yg2⟩) ?_
    case yg2 => (intro wS _; go_simp <;> with_reducible rfl)
    try simp only [Act.put, List.setIfInBounds_toArray, List.set_cons_zero, List.set_cons_succ]
    refine wpG_pure (i := 2) (oi := { dst := some 19, op := Go.Op.fieldAddr 84 (Go.Operand.tmp 18) 1, type := 0, pos := "l11_search.go:168", after := #[{ on := 1, ground := Go.Ground.data }], guard := none }) (v := ?vg3) rfl (by kernel_rfl) (fun _ _ _ h => h) (Or.inr hHeld) (Or.inl ⟨by rfl, ?yg3⟩) ?_
    case yg3 => (intro wS _; go_simp <;> with_reducible rfl)
    try simp only [Act.put, List.setIfInBounds_toArray, List.set_cons_zero, List.set_cons_succ]
    refine wpG_load (i := 3) (oi := { dst := some 20, op := Go.Op.load 39 (Go.Operand.tmp 19), type := 39, pos := "l11_search.go:168", after := #[{ on := 2, ground := Go.Ground.data }], guard := none }) (v := ?vg4) [] rfl (by kernel_rfl) (fun _ _ _ h => h) hHeld (Or.inl ⟨by rfl, ?yg4⟩) ?_
    case yg4 => (intro wS hSw; (try dsimp only at hSw); go_simp <;> with_reducible rfl)
    try simp only [Act.put, List.setIfInBounds_toArray, List.set_cons_zero, List.set_cons_succ]
    refine wpG_pure (i := 4) (oi := { dst := some 21, op := Go.Op.move (Go.Operand.tmp 6), type := 80, pos := "l11_search.go:168", after := #[], guard := none }) (v := ?vg5) rfl (by kernel_rfl) (fun _ _ _ h => h) (Or.inr hHeld) (Or.inl ⟨by rfl, ?yg5⟩) ?_
    case yg5 => (intro wS _; go_simp <;> with_reducible rfl)
    try simp only [Act.put, List.setIfInBounds_toArray, List.set_cons_zero, List.set_cons_succ]
    refine wpG_pure (i := 5) (oi := { dst := some 22, op := Go.Op.move (Go.Operand.tmp 1), type := 9, pos := "l11_search.go:168", after := #[], guard := none }) (v := ?vg6) rfl (by kernel_rfl) (fun _ _ _ h => h) (Or.inr hHeld) (Or.inl ⟨by rfl, ?yg6⟩) ?_
    case yg6 => (intro wS _; go_simp <;> with_reducible rfl)
    try simp only [Act.put, List.setIfInBounds_toArray, List.set_cons_zero, List.set_cons_succ]
    refine wpG_one (i := 6) (o := { dst := some 23, op := Go.Op.call { callee := Go.Callee.value (Go.Operand.func 59), args := #[Go.Operand.tmp 21, Go.Operand.tmp 22], argTypes := #[80, 9] }, type := 3, pos := "l11_search.go:168", after := #[{ on := 4, ground := Go.Ground.data }, { on := 5, ground := Go.Ground.data }], guard := none }) rfl (by kernel_rfl) (fun K hK => ?_)
    go_simp
    refine (HLG.out A M w1.drew c2 HA.out.drew.map).mono ?_
    rintro e w' ⟨rfl, rfl⟩
    refine hK.out _ _ (Or.inr ?khHeld7) (fun hHeld7S => ?_)
    case khHeld7 => exact ⟨c1, ctj⟩
    have hHeld7 := hHeld7S.held (by kernel_rfl)
    clear hK K
    try simp only [Act.put, List.setIfInBounds_toArray, List.set_cons_zero, List.set_cons_succ]
    refine wpG_pure (i := 7) (oi := { dst := some 24, op := Go.Op.indexAddr 39 (Go.Operand.tmp 20) (Go.Operand.tmp 23), type := 0, pos := "l11_search.go:168", after := #[{ on := 3, ground := Go.Ground.data }, { on := 6, ground := Go.Ground.data }], guard := none }) (v := ?vg8) rfl (by kernel_rfl) (fun _ _ _ h => h) (Or.inr hHeld7) (Or.inl ⟨by rfl, ?yg8⟩) ?_
    case yg8 => (intro wS _; go_simp <;> with_reducible rfl)
    try simp only [Act.put, List.setIfInBounds_toArray, List.set_cons_zero, List.set_cons_succ]
    refine wpG_load (i := 8) (oi := { dst := some 25, op := Go.Op.load 9 (Go.Operand.tmp 24), type := 9, pos := "l11_search.go:168", after := #[{ on := 7, ground := Go.Ground.data }], guard := none }) (v := ?vg9) [] rfl (by kernel_rfl) (fun _ _ _ h => h) hHeld7 (Or.inl ⟨by rfl, ?yg9⟩) ?_
    case yg9 => (intro wS hSw; (try dsimp only at hSw); go_simp <;> with_reducible rfl)
    try simp only [Act.put, List.setIfInBounds_toArray, List.set_cons_zero, List.set_cons_succ]
    refine wpG_pure (i := 9) (oi := { dst := some 26, op := Go.Op.call { callee := Go.Callee.builtin Go.Builtin.len, args := #[Go.Operand.tmp 25], argTypes := #[9] }, type := 3, pos := "l11_search.go:168", after := #[{ on := 8, ground := Go.Ground.data }], guard := none }) (v := ?vg10) rfl (by kernel_rfl) (fun _ _ _ h => h) (Or.inr hHeld7) (Or.inl ⟨by rfl, ?yg10⟩) ?_
    case yg10 => (intro wS _; go_simp <;> with_reducible rfl)
    try simp only [Act.put, List.setIfInBounds_toArray, List.set_cons_zero, List.set_cons_succ]
    refine wpG_pure (i := 10) (oi := { dst := some 4, op := Go.Op.assign (Go.Operand.tmp 26), type := 3, pos := "l11_search.go:168", after := #[{ on := 9, ground := Go.Ground.data }, { on := 6, ground := Go.Ground.chain }, { on := 0, ground := Go.Ground.phase }, { on := 1, ground := Go.Ground.phase }, { on := 2, ground := Go.Ground.phase }, { on := 3, ground := Go.Ground.phase }, { on := 4, ground := Go.Ground.phase }, { on := 5, ground := Go.Ground.phase }, { on := 6, ground := Go.Ground.phase }, { on := 7, ground := Go.Ground.phase }, { on := 8, ground := Go.Ground.phase }, { on := 9, ground := Go.Ground.phase }], guard := none }) (v := ?vg11) rfl (by kernel_rfl) (fun _ _ _ h => h) (Or.inr hHeld7) (Or.inl ⟨by rfl, ?yg11⟩) ?_
    case yg11 => (intro wS _; go_simp <;> with_reducible rfl)
    try simp only [Act.put, List.setIfInBounds_toArray, List.set_cons_zero, List.set_cons_succ]
    refine wpG_pure (i := 11) (oi := { dst := some 5, op := Go.Op.assign (Go.Operand.const (Go.Value.bool true)), type := 4, pos := "l11_search.go:168", after := #[{ on := 10, ground := Go.Ground.chain }, { on := 0, ground := Go.Ground.phase }, { on := 1, ground := Go.Ground.phase }, { on := 2, ground := Go.Ground.phase }, { on := 3, ground := Go.Ground.phase }, { on := 4, ground := Go.Ground.phase }, { on := 5, ground := Go.Ground.phase }, { on := 6, ground := Go.Ground.phase }, { on := 7, ground := Go.Ground.phase }, { on := 8, ground := Go.Ground.phase }, { on := 9, ground := Go.Ground.phase }, { on := 10, ground := Go.Ground.phase }], guard := none }) (v := ?vg12) rfl (by kernel_rfl) (fun _ _ _ h => h) (Or.inr hHeld7) (Or.inl ⟨by rfl, ?yg12⟩) ?_
    case yg12 => (intro wS _; go_simp <;> with_reducible rfl)
    try simp only [Act.put, List.setIfInBounds_toArray, List.set_cons_zero, List.set_cons_succ]
    refine wpG_done (by kernel_rfl) ?_
    skip
    go_wp2_with fail
    go_ret2
    exact ⟨rfl, rdrew HB.out _⟩
end Go.Proofs.Ytfkcchbbbfeamaa
