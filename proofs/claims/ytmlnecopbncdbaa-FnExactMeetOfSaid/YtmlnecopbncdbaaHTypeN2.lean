/- The contract of the laws' heldTypeS. -/
import Derived.Test.YtmlnecopbncdbaaHTypeS
namespace Go.Proofs.Ytmlnecopbncdbaa
set_option linter.unusedVariables false
set_option linter.unusedSimpArgs false
open Go.ChangeShapes Go.WideShapes Go.ChangeAt Go.RowKit
set_option maxRecDepth 100000
set_option maxHeartbeats 2000000 in
theorem held_TypeS {cs : List Value} {xs : List (Int × ByteArray × Int × Bool × Int × Int)} {w : World} (k0 : Nat) (h : kTypeS.rd w.heap.size w cs (kTypeS.mark k0 xs)) (h0 : 1 ≤ k0) (h1 : k0 + kTypeS.cnt xs ≤ 16777216) :
    Calls Try.prog 43 #[one cs, .int .i64 (k0 : Int)] w fun e w' => e = .returned (.int .i64 ((k0 + kTypeS.cnt xs : Nat) : Int)) ∧ Below w.heap.size w w' := by
  obtain ⟨a, cap, vss, rfl, hcap, hrow, hl⟩ := h
  have hlen : (kTypeS.mark k0 xs).length = xs.length := mkL_length _ _ _
  rw [hlen] at hcap
  rw [hlen]
  unfold maxLen at hcap
  obtain ⟨hc1, hc2⟩ := hcap
  have hn : xs.length ≤ 9223372036854775807 := by omega
  have h1' : k0 + sumL kType.cnt xs ≤ 16777216 := h1
  show Calls Try.prog 43 #[.slice a xs.length cap, .int .i64 (k0 : Int)] w _
  have HROW := Lib.hid hrow; have HL := Lib.hid hl; have H1 := Lib.hid h1'
  clear hrow hl h1 h1' hlen
  go_enter Try.func43, Try.ntmps43
  go_wp2_with fail
  go_loopw [1, 5] (fun kv i wr => ∃ (k : Nat), k ≤ xs.length ∧ i = .int .i64 k ∧ kv = .int .i64 ((k0 + sumL kType.cnt (xs.take k) : Nat) : Int) ∧ Hid (Below w.heap.size w wr)) (fun _ i _ => xs.length - (intOf i).toNat)
  case atStart => exact ⟨0, Nat.zero_le _, rfl, by simp [sumL], Below.refl _ _⟩
  case round =>
    obtain ⟨k, hk, rfl, rfl, HB⟩ := hrel
    by_cases hlk : k < xs.length
    case neg =>
      go_wp2_with fail
      go_ret
      obtain rfl : k = xs.length := by omega
      exact ⟨by rw [List.take_length]; rfl, HB.out⟩
    obtain ⟨x, hx⟩ : ∃ x, xs[k]? = some x := ⟨xs[k], List.getElem?_eq_getElem hlk⟩
    obtain ⟨v, b, off, hr, hv, rfl, hbl, hcell⟩ := elem_cells kType_ok (n := 6) rfl (by decide) HROW.out HL.out (mkL_at kType xs k0 k x hx)
    have HTK := Lib.hid (sumL_take kType.cnt xs k x hx)
    have hle := sumL_le kType.cnt xs (k + 1)
    rw [HTK.out] at hle
    generalize hkk : k0 + sumL kType.cnt (xs.take k) = kk at *
    have hb0 : kk + kType.cnt x ≤ 16777216 := by have := H1.out; omega
    have hb1 : 1 ≤ kk := by omega
    have HKK := Lib.hid hkk
    clear hv hx hle hkk
    have hcx : kType.cnt x = 1 + 1 + 1 + 1 + 1 + 1 := by show 1 + (1 + (1 + (1 + (1 + (1))))) = _; omega
    rw [hcx] at hb0
    have HCX := Lib.hid hcx; clear hcx
    obtain ⟨hv0, -, -, -, -, -⟩ := Type_rd hr
    subst hv0
    have c0 : wr.cell? ⟨b, off + k * 6, none⟩ = some (Value.int .i64 (kk : Int)) := (HB.out.cell (p := ⟨b, off + k * 6, none⟩) hbl).trans (by have h : w.cell? ⟨b, off + (k * 6 + 0), none⟩ = some (Value.int .i64 (kk : Int)) := hcell 0 _ rfl; simpa [Nat.add_assoc] using h)
    have c1 : wr.cell? ⟨b, off + k * 6 + 1, none⟩ = some (Value.string (mt (kk + 1))) := (HB.out.cell (p := ⟨b, off + k * 6 + 1, none⟩) hbl).trans (by have h : w.cell? ⟨b, off + (k * 6 + 1), none⟩ = some (Value.string (mt (kk + 1))) := hcell 1 _ rfl; simpa [Nat.add_assoc] using h)
    have c2 : wr.cell? ⟨b, off + k * 6 + 2, none⟩ = some (Value.int .i64 ((kk : Int) + 1 + 1)) := (HB.out.cell (p := ⟨b, off + k * 6 + 2, none⟩) hbl).trans (by have h : w.cell? ⟨b, off + (k * 6 + 2), none⟩ = some (Value.int .i64 ((kk : Int) + 1 + 1)) := hcell 2 _ rfl; simpa [Nat.add_assoc] using h)
    have c3 : wr.cell? ⟨b, off + k * 6 + 3, none⟩ = some (Value.bool (decide (((kk + 1 + 1 + 1 : Nat) : Int) % 3 = 0))) := (HB.out.cell (p := ⟨b, off + k * 6 + 3, none⟩) hbl).trans (by have h : w.cell? ⟨b, off + (k * 6 + 3), none⟩ = some (Value.bool (decide (((kk + 1 + 1 + 1 : Nat) : Int) % 3 = 0))) := hcell 3 _ rfl; simpa [Nat.add_assoc] using h)
    have c4 : wr.cell? ⟨b, off + k * 6 + 4, none⟩ = some (Value.int .i64 ((kk : Int) + 1 + 1 + 1 + 1)) := (HB.out.cell (p := ⟨b, off + k * 6 + 4, none⟩) hbl).trans (by have h : w.cell? ⟨b, off + (k * 6 + 4), none⟩ = some (Value.int .i64 ((kk : Int) + 1 + 1 + 1 + 1)) := hcell 4 _ rfl; simpa [Nat.add_assoc] using h)
    have c5 : wr.cell? ⟨b, off + k * 6 + 5, none⟩ = some (Value.int .i64 ((kk : Int) + 1 + 1 + 1 + 1 + 1)) := (HB.out.cell (p := ⟨b, off + k * 6 + 5, none⟩) hbl).trans (by have h : w.cell? ⟨b, off + (k * 6 + 5), none⟩ = some (Value.int .i64 ((kk : Int) + 1 + 1 + 1 + 1 + 1)) := hcell 5 _ rfl; simpa [Nat.add_assoc] using h)
    clear hcell hr
    have HM := Lib.hid (fun wx => mark_text (kk + 1) wx (by omega) (by omega))
    rw [show ((kk + 1 : Nat) : Int) = (kk : Int) + 1 by omega] at HM
    rw [show ((kk + 1 + 1 + 1 : Nat) : Int) = (kk : Int) + 1 + 1 + 1 by omega] at c3
    have e1 : ((mt (kk + 1)).toList != (mt (kk + 1)).toList) = false := by simp
    have e0 : ((kk : Int) != (kk : Int)) = false := by simp
    have e2 : (((kk : Int) + 1 + 1) != ((kk : Int) + 1 + 1)) = false := by simp
    have e4 : (((kk : Int) + 1 + 1 + 1 + 1) != ((kk : Int) + 1 + 1 + 1 + 1)) = false := by simp
    have e5 : (((kk : Int) + 1 + 1 + 1 + 1 + 1) != ((kk : Int) + 1 + 1 + 1 + 1 + 1)) = false := by simp
    have hbq : (!decide (((kk : Int) + 1 + 1 + 1) % 3 = 0) == (((kk : Int) + 1 + 1 + 1) % 3 == 0)) = false := by by_cases h : ((kk : Int) + 1 + 1 + 1) % 3 = 0 <;> simp [h]
    have HK2 : Hid (k0 + sumL kType.cnt (xs.take (k + 1)) = kk + 1 + 1 + 1 + 1 + 1 + 1) := Lib.hid (by rw [HTK.out, HCX.out]; have := HKK.out; omega)
    go_wp2_with fail
    refine wp_region_G [] (fun w' => w'.cell? ⟨b, off + k * 6 + 1, none⟩ = some (.string (mt (kk + 1)))) (by kernel_rfl) ?_ (fun hHeld => ?_)
    · exact c1
    refine wpG_pure (i := 0) (oi := { dst := some 21, op := Go.Op.move (Go.Operand.tmp 0), type := 26, pos := "exact.go:1534", after := #[], guard := none }) (v := ?vg1) rfl (by kernel_rfl) (fun _ _ _ h => h) (Or.inr hHeld) (Or.inl ⟨by rfl, ?yg1⟩) ?_
    case yg1 => (intro wS _; go_simp <;> with_reducible rfl)
    try simp only [Act.put, List.setIfInBounds_toArray, List.set_cons_zero, List.set_cons_succ]
    refine wpG_pure (i := 1) (oi := { dst := some 22, op := Go.Op.move (Go.Operand.tmp 5), type := 3, pos := "exact.go:1534", after := #[], guard := none }) (v := ?vg2) rfl (by kernel_rfl) (fun _ _ _ h => h) (Or.inr hHeld) (Or.inl ⟨by rfl, ?yg2⟩) ?_
    case yg2 => (intro wS _; go_simp <;> with_reducible rfl)
    try simp only [Act.put, List.setIfInBounds_toArray, List.set_cons_zero, List.set_cons_succ]
    refine wpG_pure (i := 2) (oi := { dst := some 23, op := Go.Op.indexAddr 26 (Go.Operand.tmp 21) (Go.Operand.tmp 22), type := 0, pos := "exact.go:1534", after := #[{ on := 0, ground := Go.Ground.data }, { on := 1, ground := Go.Ground.data }], guard := none }) (v := ?vg3) rfl (by kernel_rfl) (fun _ _ _ h => h) (Or.inr hHeld) (Or.inl ⟨by rfl, ?yg3⟩) ?_
    case yg3 => (intro wS _; go_simp <;> with_reducible rfl)
    try simp only [Act.put, List.setIfInBounds_toArray, List.set_cons_zero, List.set_cons_succ]
    refine wpG_pure (i := 3) (oi := { dst := some 24, op := Go.Op.fieldAddr 85 (Go.Operand.tmp 23) 1, type := 0, pos := "exact.go:1534", after := #[{ on := 2, ground := Go.Ground.data }], guard := none }) (v := ?vg4) rfl (by kernel_rfl) (fun _ _ _ h => h) (Or.inr hHeld) (Or.inl ⟨by rfl, ?yg4⟩) ?_
    case yg4 => (intro wS _; go_simp <;> with_reducible rfl)
    try simp only [Act.put, List.setIfInBounds_toArray, List.set_cons_zero, List.set_cons_succ]
    refine wpG_load (i := 4) (oi := { dst := some 25, op := Go.Op.load 9 (Go.Operand.tmp 24), type := 9, pos := "exact.go:1534", after := #[{ on := 3, ground := Go.Ground.data }], guard := none }) (v := ?vg5) [] rfl (by kernel_rfl) (fun _ _ _ h => h) hHeld (Or.inl ⟨by rfl, ?yg5⟩) ?_
    case yg5 => (intro wS hSw; (try dsimp only at hSw); go_simp <;> with_reducible rfl)
    try simp only [Act.put, List.setIfInBounds_toArray, List.set_cons_zero, List.set_cons_succ]
    refine wpG_pure (i := 5) (oi := { dst := some 26, op := Go.Op.move (Go.Operand.tmp 1), type := 3, pos := "exact.go:1534", after := #[], guard := none }) (v := ?vg6) rfl (by kernel_rfl) (fun _ _ _ h => h) (Or.inr hHeld) (Or.inl ⟨by rfl, ?yg6⟩) ?_
    case yg6 => (intro wS _; go_simp <;> with_reducible rfl)
    try simp only [Act.put, List.setIfInBounds_toArray, List.set_cons_zero, List.set_cons_succ]
    refine wpG_one (i := 6) (o := { dst := some 27, op := Go.Op.call { callee := Go.Callee.value (Go.Operand.func 74), args := #[Go.Operand.tmp 26], argTypes := #[3] }, type := 9, pos := "exact.go:1534", after := #[{ on := 5, ground := Go.Ground.data }], guard := none }) rfl (by kernel_rfl) (fun K hK => ?_)
    go_simp
    refine (HM.out _).mono ?_
    rintro e w3 ⟨rfl, hb3⟩
    have HB3 := Lib.hid (rstep (rdrew (Below.refl wr.heap.size wr) 1) hb3)
    clear hb3
    refine hK.out _ _ (Or.inr ?khHeld7) (fun hHeld7S => ?_)
    case khHeld7 => exact below_later HB3.out c1
    have hHeld7 := hHeld7S.held (by kernel_rfl)
    clear hK K
    try simp only [Act.put, List.setIfInBounds_toArray, List.set_cons_zero, List.set_cons_succ]
    refine wpG_pure (i := 7) (oi := { dst := some 28, op := Go.Op.binOp Go.BinOp.neq 9 (Go.Operand.tmp 25) (Go.Operand.tmp 27) 9, type := 4, pos := "exact.go:1534", after := #[{ on := 4, ground := Go.Ground.data }, { on := 6, ground := Go.Ground.data }], guard := none }) (v := ?vg8) rfl (by kernel_rfl) (fun _ _ _ h => h) (Or.inr hHeld7) (Or.inl ⟨by rfl, ?yg8⟩) ?_
    case yg8 => (intro wS _; go_simp <;> with_reducible rfl)
    try simp only [Act.put, List.setIfInBounds_toArray, List.set_cons_zero, List.set_cons_succ]
    refine wpG_done (by kernel_rfl) ?_
    skip
    replace c2 := below_later HB3.out c2; replace c3 := below_later HB3.out c3; replace c4 := below_later HB3.out c4; replace c5 := below_later HB3.out c5
    have HB5 := Lib.hid (HB.out.trans (HB3.out.mono HB.out.size))
    clear c0 c1 HTK HCX HKK
    go_wp2_with fail
    go_roundw
    case rel => exact ⟨k + 1, by omega, by go_num, by rw [HK2.out]; go_num, Lib.hid HB5.out⟩
    case measure => simp [intOf]; omega
end Go.Proofs.Ytmlnecopbncdbaa
