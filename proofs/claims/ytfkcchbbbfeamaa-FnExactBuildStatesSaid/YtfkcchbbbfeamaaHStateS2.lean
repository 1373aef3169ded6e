/- The contract of the laws' heldStateS. -/
import Derived.Test.YtfkcchbbbfeamaaHStateS
namespace Go.Proofs.Ytfkcchbbbfeamaa
set_option linter.unusedVariables false
open Go.ChangeShapes Go.WideShapes Go.ChangeAt Go.RowKit
set_option maxRecDepth 100000
theorem byte_mod (n : Nat) : (((UInt8.ofNat (n + 1)).toNat : Nat) : Int) = ((n : Int) + 1) % 256 := by
  rw [UInt8.toNat_ofNat']; omega
set_option maxHeartbeats 2000000 in
theorem held_StateS {cs : List Value} {xs : List (Int × UInt8 × Int × (List Int))} {w : World} (k0 : Nat) (h : kStateS.rd w.heap.size w cs (kStateS.mark k0 xs)) (h0 : 1 ≤ k0) (h1 : k0 + kStateS.cnt xs ≤ 16777216) :
    Calls Try.prog 37 #[one cs, .int .i64 (k0 : Int)] w fun e w' => e = .returned (.int .i64 ((k0 + kStateS.cnt xs : Nat) : Int)) ∧ Below w.heap.size w w' := by
  obtain ⟨a, cap, vss, rfl, hcap, hrow, hl⟩ := h
  have hlen : (kStateS.mark k0 xs).length = xs.length := mkL_length _ _ _
  rw [hlen] at hcap
  rw [hlen]
  unfold maxLen at hcap
  obtain ⟨hc1, hc2⟩ := hcap
  have hn : xs.length ≤ 9223372036854775807 := by omega
  have h1' : k0 + sumL kState.cnt xs ≤ 16777216 := h1
  show Calls Try.prog 37 #[.slice a xs.length cap, .int .i64 (k0 : Int)] w _
  have HROW := Lib.hid hrow; have HL := Lib.hid hl; have H1 := Lib.hid h1'
  clear hrow hl h1 h1' hlen
  go_enter Try.func37, Try.ntmps37
  go_wp2_with fail
  go_loopw [1, 5] (fun kv i wr => ∃ (k : Nat), k ≤ xs.length ∧ i = .int .i64 k ∧ kv = .int .i64 ((k0 + sumL kState.cnt (xs.take k) : Nat) : Int) ∧ Hid (Below w.heap.size w wr)) (fun _ i _ => xs.length - (intOf i).toNat)
  case atStart => exact ⟨0, Nat.zero_le _, rfl, by simp [sumL], Below.refl _ _⟩
  case round =>
    obtain ⟨k, hk, rfl, rfl, HB⟩ := hrel
    by_cases hlk : k < xs.length
    case neg =>
      go_wp2_with fail
      go_ret
      obtain rfl : k = xs.length := by omega
      exact ⟨by rw [List.take_length]; rfl, HB.out⟩
    obtain ⟨x, hx⟩ : ∃ x, xs[k]? = some x := ⟨xs[k], List.getElem?_eq_getElem hlk⟩
    obtain ⟨v, b, off, hr, hv, rfl, hbl, hcell⟩ := elem_cells kState_ok (n := 4) rfl (by decide) HROW.out HL.out (mkL_at kState xs k0 k x hx)
    have HTK := Lib.hid (sumL_take kState.cnt xs k x hx)
    have hle := sumL_le kState.cnt xs (k + 1)
    rw [HTK.out] at hle
    generalize hkk : k0 + sumL kState.cnt (xs.take k) = kk at *
    have hb0 : kk + kState.cnt x ≤ 16777216 := by have := H1.out; omega
    have hb1 : 1 ≤ kk := by omega
    have HKK := Lib.hid hkk
    clear hv hx hle hkk
    have HE := Lib.hid (kState_ok.later hr HB.out)
    have hcx : kState.cnt x = 1 + 1 + 1 + kIntS.cnt x.2.2.2 := by show 1 + (1 + (1 + (kIntS.cnt x.2.2.2))) = _; omega
    rw [hcx] at hb0
    have HCX := Lib.hid hcx; clear hcx
    obtain ⟨a0, cap0, hv0, hq1, hq2, hfr0⟩ := State_rd hr
    clear hq1 hq2
    have hfr := (show kIntS.rd wr.heap.size wr [_] _ from kIntS_ok.rmono (kIntS_ok.rbelow hfr0 HB.out) HB.out.size); clear hfr0
    generalize (kState.mark kk x).2.2.2.length = ln at hv0 hfr
    subst hv0
    have HFR := Lib.hid hfr; clear hfr
    have c0 : wr.cell? ⟨b, off + k * 4, none⟩ = some (Value.int .i64 (kk : Int)) := (HB.out.cell (p := ⟨b, off + k * 4, none⟩) hbl).trans (by have h : w.cell? ⟨b, off + (k * 4 + 0), none⟩ = some (Value.int .i64 (kk : Int)) := hcell 0 _ rfl; simpa [Nat.add_assoc] using h)
    have c1 : wr.cell? ⟨b, off + k * 4 + 1, none⟩ = some (Value.int .u8 ((UInt8.ofNat (kk + 1)).toNat : Int)) := (HB.out.cell (p := ⟨b, off + k * 4 + 1, none⟩) hbl).trans (by have h : w.cell? ⟨b, off + (k * 4 + 1), none⟩ = some (Value.int .u8 ((UInt8.ofNat (kk + 1)).toNat : Int)) := hcell 1 _ rfl; simpa [Nat.add_assoc] using h)
    rw [byte_mod] at c1
    have c2 : wr.cell? ⟨b, off + k * 4 + 2, none⟩ = some (Value.int .i64 ((kk : Int) + 1 + 1)) := (HB.out.cell (p := ⟨b, off + k * 4 + 2, none⟩) hbl).trans (by have h : w.cell? ⟨b, off + (k * 4 + 2), none⟩ = some (Value.int .i64 ((kk : Int) + 1 + 1)) := hcell 2 _ rfl; simpa [Nat.add_assoc] using h)
    have c3 : wr.cell? ⟨b, off + k * 4 + 3, none⟩ = some (Value.slice a0 ln cap0) := (HB.out.cell (p := ⟨b, off + k * 4 + 3, none⟩) hbl).trans (by have h : w.cell? ⟨b, off + (k * 4 + 3), none⟩ = some (Value.slice a0 ln cap0) := hcell 3 _ rfl; simpa [Nat.add_assoc] using h)
    clear hcell hr
    have hmf := fun wx (hb : Below wr.heap.size wr wx) => held_IntS (kk + 3) (kIntS_ok.later HFR.out hb) (by omega) (by omega)
    rw [show ((kk + 3 : Nat) : Int) = ((kk : Int) + 1 + 1 + 1) by omega] at hmf
    have HMF := Lib.hid hmf; clear hmf
    have hneg : ¬ ((((kk + 3) + kIntS.cnt x.2.2.2 : Nat) : Int) < 0) := by omega
    obtain ⟨bm, hbm⟩ : ∃ bm, ((kk : Int) + 1) % 256 = bm := ⟨_, rfl⟩
    rw [hbm] at c1
    have hbb : (bm != bm) = false := by simp
    go_wp2_with fail
    refine (HMF.out _ (Below.refl _ _)).mono ?_
    rintro e w5 ⟨rfl, hb5⟩
    have HB5 := Lib.hid (Below.trans HB.out (hb5.mono (HB.out).size)); clear hb5
    obtain ⟨kq, hkq⟩ : ∃ kq, kk + 3 + kIntS.cnt x.2.2.2 = kq := ⟨_, rfl⟩
    have HK2 : Hid (k0 + sumL kState.cnt (xs.take (k + 1)) = kq) := Lib.hid (by rw [HTK.out, HCX.out]; have := HKK.out; omega)
    rw [hkq] at hneg ⊢
    clear hkq hbm hbb c0 c1 c2 c3 HMF HTK HCX HL HROW HE HFR HKK hb0
    have hneg2 : 0 ≤ (kq : Int) := by omega
    go_wp2_with fail
    go_roundw
    case rel => exact ⟨k + 1, by omega, by go_num, by rw [HK2.out], Lib.hid HB5.out⟩
    case measure => simp [intOf]; omega
end Go.Proofs.Ytfkcchbbbfeamaa
