/- The contract of the laws' heldTrieNodeS. -/
import Derived.Test.YteknmjebokimjaaDoorHTrieNodeS
namespace Go.Proofs.YteknmjebokimjaaDoor
set_option linter.unusedVariables false
open Go.ChangeShapes Go.WideShapes Go.ChangeAt Go.RowKit
set_option maxRecDepth 100000
set_option maxHeartbeats 2000000 in
theorem held_TrieNodeS {cs : List Value} {xs : List (ByteArray × Int × (List Int))} {w : World} (k0 : Nat) (h : kTrieNodeS.rd w.heap.size w cs (kTrieNodeS.mark k0 xs)) (h0 : 1 ≤ k0) (h1 : k0 + kTrieNodeS.cnt xs ≤ 16777216) :
    Calls Tryd.prog 19 #[one cs, .int .i64 (k0 : Int)] w fun e w' => e = .returned (.int .i64 ((k0 + kTrieNodeS.cnt xs : Nat) : Int)) ∧ Below w.heap.size w w' := by
  obtain ⟨a, cap, vss, rfl, hcap, hrow, hl⟩ := h
  have hlen : (kTrieNodeS.mark k0 xs).length = xs.length := mkL_length _ _ _
  rw [hlen] at hcap
  rw [hlen]
  unfold maxLen at hcap
  obtain ⟨hc1, hc2⟩ := hcap
  have hn : xs.length ≤ 9223372036854775807 := by omega
  have h1' : k0 + sumL kTrieNode.cnt xs ≤ 16777216 := h1
  show Calls Tryd.prog 19 #[.slice a xs.length cap, .int .i64 (k0 : Int)] w _
  have HROW := Lib.hid hrow; have HL := Lib.hid hl; have H1 := Lib.hid h1'
  clear hrow hl h1 h1' hlen
  go_enter Tryd.func19, Tryd.ntmps19
  go_wp2_with fail
  go_loopw [1, 5] (fun kv i wr => ∃ (k : Nat), k ≤ xs.length ∧ i = .int .i64 k ∧ kv = .int .i64 ((k0 + sumL kTrieNode.cnt (xs.take k) : Nat) : Int) ∧ Hid (Below w.heap.size w wr)) (fun _ i _ => xs.length - (intOf i).toNat)
  case atStart => exact ⟨0, Nat.zero_le _, rfl, by simp [sumL], Below.refl _ _⟩
  case round =>
    obtain ⟨k, hk, rfl, rfl, HB⟩ := hrel
    by_cases hlk : k < xs.length
    case neg =>
      go_wp2_with fail
      go_ret
      obtain rfl : k = xs.length := by omega
      exact ⟨by rw [List.take_length]; rfl, HB.out⟩
    obtain ⟨x, hx⟩ : ∃ x, xs[k]? = some x := ⟨xs[k], List.getElem?_eq_getElem hlk⟩
    obtain ⟨v, b, off, hr, hv, rfl, hbl, hcell⟩ := elem_cells kTrieNode_ok (n := 3) rfl (by decide) HROW.out HL.out (mkL_at kTrieNode xs k0 k x hx)
    have HTK := Lib.hid (sumL_take kTrieNode.cnt xs k x hx)
    have hle := sumL_le kTrieNode.cnt xs (k + 1)
    rw [HTK.out] at hle
    generalize hkk : k0 + sumL kTrieNode.cnt (xs.take k) = kk at *
    have hb0 : kk + kTrieNode.cnt x ≤ 16777216 := by have := H1.out; omega
    have hb1 : 1 ≤ kk := by omega
    have HKK := Lib.hid hkk
    clear hv hx hle hkk
    have HE := Lib.hid (kTrieNode_ok.later hr HB.out)
    have hcx : kTrieNode.cnt x = 1 + 1 + kIntS.cnt x.2.2 := by show 1 + (1 + (kIntS.cnt x.2.2)) = _; omega
    rw [hcx] at hb0
    have HCX := Lib.hid hcx; clear hcx
    obtain ⟨a0, cap0, hv0, hq1, hq2, hfr0⟩ := TrieNode_rd hr
    clear hq1 hq2
    have hfr := (show kIntS.rd wr.heap.size wr [_] _ from kIntS_ok.rmono (kIntS_ok.rbelow hfr0 HB.out) HB.out.size); clear hfr0
    generalize (kTrieNode.mark kk x).2.2.length = ln at hv0 hfr
    subst hv0
    have HFR := Lib.hid hfr; clear hfr
    have c0 : wr.cell? ⟨b, off + k * 3, none⟩ = some (Value.string (mt kk)) := (HB.out.cell (p := ⟨b, off + k * 3, none⟩) hbl).trans (by have h : w.cell? ⟨b, off + (k * 3 + 0), none⟩ = some (Value.string (mt kk)) := hcell 0 _ rfl; simpa [Nat.add_assoc] using h)
    have c1 : wr.cell? ⟨b, off + k * 3 + 1, none⟩ = some (Value.int .i64 ((kk : Int) + 1)) := (HB.out.cell (p := ⟨b, off + k * 3 + 1, none⟩) hbl).trans (by have h : w.cell? ⟨b, off + (k * 3 + 1), none⟩ = some (Value.int .i64 ((kk : Int) + 1)) := hcell 1 _ rfl; simpa [Nat.add_assoc] using h)
    have c2 : wr.cell? ⟨b, off + k * 3 + 2, none⟩ = some (Value.slice a0 ln cap0) := (HB.out.cell (p := ⟨b, off + k * 3 + 2, none⟩) hbl).trans (by have h : w.cell? ⟨b, off + (k * 3 + 2), none⟩ = some (Value.slice a0 ln cap0) := hcell 2 _ rfl; simpa [Nat.add_assoc] using h)
    clear hcell hr
    have HM := Lib.hid (fun wx => mark_text kk wx (by omega) (by omega))
    have e1 : ((mt kk).toList != (mt kk).toList) = false := by simp
    have e2 : (((kk : Int) + 1) != ((kk : Int) + 1)) = false := by simp
    go_wp2_with fail
    refine wp_region_G [] (fun w' => w'.cell? ⟨b, off + k * 3, none⟩ = some (.string (mt kk))) (by kernel_rfl) ?_ (fun hHeld => ?_)
    · exact c0
    refine wpG_pure (i := 0) (oi := { dst := some 12, op := Go.Op.move (Go.Operand.tmp 0), type := 24, pos := "exact.go:370", after := #[], guard := none }) (v := ?vg1) rfl (by kernel_rfl) (fun _ _ _ h => h) (Or.inr hHeld) (Or.inl ⟨by rfl, ?yg1⟩) ?_
    case yg1 => (intro wS _; go_simp <;> with_reducible rfl)
    try simp only [Act.put, List.setIfInBounds_toArray, List.set_cons_zero, List.set_cons_succ]
    refine wpG_pure (i := 1) (oi := { dst := some 13, op := Go.Op.move (Go.Operand.tmp 5), type := 3, pos := "exact.go:370", after := #[], guard := none }) (v := ?vg2) rfl (by kernel_rfl) (fun _ _ _ h => h) (Or.inr hHeld) (Or.inl ⟨by rfl, ?yg2⟩) ?_
    case yg2 => (intro wS _; go_simp <;> with_reducible rfl)
    try simp only [Act.put, List.setIfInBounds_toArray, List.set_cons_zero, List.set_cons_succ]
    refine wpG_pure (i := 2) (oi := { dst := some 14, op := Go.Op.indexAddr 24 (Go.Operand.tmp 12) (Go.Operand.tmp 13), type := 0, pos := "exact.go:370", after := #[{ on := 0, ground := Go.Ground.data }, { on := 1, ground := Go.Ground.data }], guard := none }) (v := ?vg3) rfl (by kernel_rfl) (fun _ _ _ h => h) (Or.inr hHeld) (Or.inl ⟨by rfl, ?yg3⟩) ?_
    case yg3 => (intro wS _; go_simp <;> with_reducible rfl)
    try simp only [Act.put, List.setIfInBounds_toArray, List.set_cons_zero, List.set_cons_succ]
    refine wpG_pure (i := 3) (oi := { dst := some 15, op := Go.Op.fieldAddr 58 (Go.Operand.tmp 14) 0, type := 0, pos := "exact.go:370", after := #[{ on := 2, ground := Go.Ground.data }], guard := none }) (v := ?vg4) rfl (by kernel_rfl) (fun _ _ _ h => h) (Or.inr hHeld) (Or.inl ⟨by rfl, ?yg4⟩) ?_
    case yg4 => (intro wS _; go_simp <;> with_reducible rfl)
    try simp only [Act.put, List.setIfInBounds_toArray, List.set_cons_zero, List.set_cons_succ]
    refine wpG_load (i := 4) (oi := { dst := some 16, op := Go.Op.load 9 (Go.Operand.tmp 15), type := 9, pos := "exact.go:370", after := #[{ on := 3, ground := Go.Ground.data }], guard := none }) (v := ?vg5) [] rfl (by kernel_rfl) (fun _ _ _ h => h) hHeld (Or.inl ⟨by rfl, ?yg5⟩) ?_
    case yg5 => (intro wS hSw; (try dsimp only at hSw); go_simp <;> with_reducible rfl)
    try simp only [Act.put, List.setIfInBounds_toArray, List.set_cons_zero, List.set_cons_succ]
    refine wpG_pure (i := 5) (oi := { dst := some 17, op := Go.Op.move (Go.Operand.tmp 1), type := 3, pos := "exact.go:370", after := #[], guard := none }) (v := ?vg6) rfl (by kernel_rfl) (fun _ _ _ h => h) (Or.inr hHeld) (Or.inl ⟨by rfl, ?yg6⟩) ?_
    case yg6 => (intro wS _; go_simp <;> with_reducible rfl)
    try simp only [Act.put, List.setIfInBounds_toArray, List.set_cons_zero, List.set_cons_succ]
    refine wpG_one (i := 6) (o := { dst := some 18, op := Go.Op.call { callee := Go.Callee.value (Go.Operand.func 49), args := #[Go.Operand.tmp 17], argTypes := #[3] }, type := 9, pos := "exact.go:370", after := #[{ on := 5, ground := Go.Ground.data }], guard := none }) rfl (by kernel_rfl) (fun K hK => ?_)
    go_simp
    refine (HM.out _).mono ?_
    rintro e w3 ⟨rfl, hb3⟩
    have HB3 := Lib.hid (rstep (rdrew (Below.refl wr.heap.size wr) 1) hb3)
    clear hb3
    refine hK.out _ _ (Or.inr ?khHeld7) (fun hHeld7S => ?_)
    case khHeld7 => exact below_later HB3.out c0
    have hHeld7 := hHeld7S.held (by kernel_rfl)
    clear hK K
    try simp only [Act.put, List.setIfInBounds_toArray, List.set_cons_zero, List.set_cons_succ]
    refine wpG_pure (i := 7) (oi := { dst := some 19, op := Go.Op.binOp Go.BinOp.neq 9 (Go.Operand.tmp 16) (Go.Operand.tmp 18) 9, type := 4, pos := "exact.go:370", after := #[{ on := 4, ground := Go.Ground.data }, { on := 6, ground := Go.Ground.data }], guard := none }) (v := ?vg8) rfl (by kernel_rfl) (fun _ _ _ h => h) (Or.inr hHeld7) (Or.inl ⟨by rfl, ?yg8⟩) ?_
    case yg8 => (intro wS _; go_simp <;> with_reducible rfl)
    try simp only [Act.put, List.setIfInBounds_toArray, List.set_cons_zero, List.set_cons_succ]
    refine wpG_done (by kernel_rfl) ?_
    skip
    replace c1 := below_later HB3.out c1; replace c2 := below_later HB3.out c2
    have hmf := fun wx (hb : Below wr.heap.size wr wx) => held_IntS (kk + 2) (kIntS_ok.later HFR.out hb) (by omega) (by omega)
    rw [show ((kk + 2 : Nat) : Int) = ((kk : Int) + 1 + 1) by omega] at hmf
    have HMF := Lib.hid hmf; clear hmf
    have hneg : ¬ ((((kk + 2) + kIntS.cnt x.2.2 : Nat) : Int) < 0) := by omega
    go_wp2_with fail
    refine (HMF.out _ HB3.out).mono ?_
    rintro e w5 ⟨rfl, hb5⟩
    have HB5 := Lib.hid (Below.trans (HB.out.trans (HB3.out.mono HB.out.size)) (hb5.mono ((HB.out.trans (HB3.out.mono HB.out.size))).size)); clear hb5
    obtain ⟨kq, hkq⟩ : ∃ kq, kk + 2 + kIntS.cnt x.2.2 = kq := ⟨_, rfl⟩
    have HK2 : Hid (k0 + sumL kTrieNode.cnt (xs.take (k + 1)) = kq) := Lib.hid (by rw [HTK.out, HCX.out]; have := HKK.out; omega)
    rw [hkq] at hneg ⊢
    clear hkq c0 c1 c2 HMF HTK HCX HL HROW HE HFR HKK hb0 e1 e2
    have hneg2 : 0 ≤ (kq : Int) := by omega
    go_wp2_with fail
    go_roundw
    case rel => exact ⟨k + 1, by omega, by go_num, by rw [HK2.out], Lib.hid HB5.out⟩
    case measure => simp [intOf]; omega
end Go.Proofs.YteknmjebokimjaaDoor
