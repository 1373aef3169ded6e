/- The contracts of the laws' helpers over IntS, by kinds. (Written by genhelp.py.) -/
import Derived.Test.YtlmgckijbamgpaaHBase
import Derived.Lib.SmallJoins
import Derived.Deep.RegionHeld3
namespace Go.Proofs.Ytlmgckijbamgpaa
set_option linter.unusedVariables false
open Go.ChangeShapes Go.WideShapes Go.ChangeAt Go.RowKit
set_option maxRecDepth 100000


def kIntS : Kind (List Int) := kSl 3 kInt
theorem kIntS_ok : kIntS.Ok := kSl_ok _ kInt_ok (by decide)


theorem reads_IntS : Reads Try.prog 26 1 kIntS.rd := readsK_sl kInt_ok Try.underlying26 (by kernel_rfl) (by decide) (readsK_int Try.underlying3 (by kernel_rfl))


theorem arg_IntS {H : Type} {enc : TypeId × Value → H} {W : World} {r : Reach} {b0 : Nat} {v : Value} {d : DataW H} {ps : List MemPlace} (hval : Value.okWide Try.prog W r b0 26 v) (h : DataW.Trod enc Try.prog W 0 (fun _ => true) true 26 v d ps) : ∃ x, IsK kIntS one W v x := argSlK Try.underlying26 reads_IntS kSl_form hval h


set_option maxHeartbeats 1000000 in
theorem eq_IntS {cs cs' : List Value} {xs : List Int} {w : World} (h : kIntS.rd w.heap.size w cs xs) (h' : kIntS.rd w.heap.size w cs' xs) :
    Calls Try.prog 12 #[one cs, one cs'] w fun e w' => e = .returned (.bool true) ∧ Below w.heap.size w w' := by
  obtain ⟨a, cap, vss, rfl, ⟨hc1, hc2⟩, hrow, hl⟩ := h
  obtain ⟨a', cap', vss', rfl, _, hrow', hl'⟩ := h'
  unfold maxLen at hc2
  have hn : xs.length ≤ 9223372036854775807 := by omega
  show Calls Try.prog 12 #[.slice a xs.length cap, .slice a' xs.length cap'] w _
  have HROW := Lib.hid hrow; have HL := Lib.hid hl; have HROW' := Lib.hid hrow'; have HL' := Lib.hid hl'
  clear hrow hl hrow' hl'
  go_enter Try.func12, Try.ntmps12
  go_wp2_with fail
  go_loopw [5] (fun i wr => ∃ k : Nat, k ≤ xs.length ∧ i = .int .i64 k ∧ Hid (Below w.heap.size w wr)) (fun i _ => xs.length - (intOf i).toNat)
  case atStart => exact ⟨0, Nat.zero_le _, rfl, Below.refl _ _⟩
  case round =>
    obtain ⟨k, hk, rfl, HB⟩ := hrel
    by_cases hlk : k < xs.length
    case neg =>
      go_wp2_with fail
      go_ret
      exact ⟨rfl, HB.out⟩
    obtain ⟨x, hx⟩ : ∃ x, xs[k]? = some x := ⟨xs[k], List.getElem?_eq_getElem hlk⟩
    obtain ⟨v, b, off, hr, hv, rfl, hbl, hcell⟩ := elem_cells kInt_ok (n := 1) rfl (by decide) HROW.out HL.out hx
    obtain ⟨v', b', off', hr', hv', rfl, hbl', hcell'⟩ := elem_cells kInt_ok (n := 1) rfl (by decide) HROW'.out HL'.out hx
    clear hx hv hv'
    have z0 : (0 : Int) ≤ (k : Int) := Int.natCast_nonneg _
    have z1 : (k : Int) < (xs.length : Int) := by omega
    obtain ⟨rfl, _⟩ := hr
    have c0 : wr.cell? ⟨b, off + k, none⟩ = some _ := (HB.out.cell (p := ⟨b, off + k, none⟩) hbl).trans (by have := hcell 0 _ rfl; simpa [Nat.add_assoc] using this)
    clear hcell
    obtain ⟨rfl, _⟩ := hr'
    have d0 : wr.cell? ⟨b', off' + k, none⟩ = some _ := (HB.out.cell (p := ⟨b', off' + k, none⟩) hbl').trans (by have := hcell' 0 _ rfl; simpa [Nat.add_assoc] using this)
    clear hcell'
    go_wp2_with fail
    go_quiet (fail)
    go_wp2_with fail
    go_roundw
    case rel => exact ⟨k + 1, by omega, by go_num, below_drewN HB.out _⟩
    case measure => simp [intOf]; omega


theorem Try.infoHIntS : (Try.prog.info? 3).map (fun i => (i.zero, i.size, i.bytes)) = some (some (Value.int .i64 0), 1, 8) := by kernel_rfl


set_option maxHeartbeats 2000000 in
theorem mark_IntS {cs : List Value} {xs : List Int} {w : World} {fp : List Nat} (k0 : Nat) (h : kIntS.ow fp w cs xs) (h0 : 1 ≤ k0) (h1 : k0 + kIntS.cnt xs ≤ 16777216) :
    Calls Try.prog 15 #[one cs, .int .i64 (k0 : Int)] w fun e w' => e = .returned (.int .i64 ((k0 + kIntS.cnt xs : Nat) : Int)) ∧ kIntS.ow fp w' cs (kIntS.mark k0 xs) ∧ Wrote (fun b => b ∈ fp) w w' := by
  obtain ⟨sv, vss, fps, rfl, hrow, hol, rfl, hnd⟩ := h
  obtain ⟨a, cap, rfl⟩ := form_of_own hrow
  have hcap := own_caps hrow
  unfold maxLen at hcap
  obtain ⟨hc1, hc2⟩ := hcap
  have hn : xs.length ≤ 9223372036854775807 := by omega
  have h1' : k0 + sumL kInt.cnt xs ≤ 16777216 := h1
  show Calls Try.prog 15 #[.slice a xs.length cap, .int .i64 (k0 : Int)] w _
  have HROW := Lib.hid hrow; have HOL := Lib.hid hol; have HND := Lib.hid hnd; have H1 := Lib.hid h1'
  clear hrow hol hnd h1 h1'
  go_enter Try.func15, Try.ntmps15
  go_wp2_with fail
  go_loopw [1, 5] (fun kv i wr => ∃ (k : Nat) (vss : List (List Value)), k ≤ xs.length ∧ i = .int .i64 k ∧ kv = .int .i64 ((k0 + sumL kInt.cnt (xs.take k) : Nat) : Int) ∧ Hid (wr.ownsRow 0 3 1 (.slice a xs.length cap) xs.length vss.flatten) ∧ Hid (OwL kInt wr fps vss (mkL kInt k0 (xs.take k) ++ xs.drop k)) ∧ Hid (Wrote (fun b => b ∈ (Value.slice a xs.length cap).ownBlock.toList ++ fps.flatten) w wr)) (fun _ i _ => xs.length - (intOf i).toNat)
  case atStart => exact ⟨0, vss, Nat.zero_le _, rfl, by simp [sumL], HROW, Lib.hid (by simpa [mkL] using HOL.out), Wrote.refl _ _⟩
  case round =>
    obtain ⟨k, vss, hk, rfl, rfl, HO, HOW, HWR⟩ := hrel
    by_cases hlk : k < xs.length
    case neg =>
      go_wp2_with fail
      go_ret
      obtain rfl : k = xs.length := by omega
      have h1 := HOW.out
      rw [List.take_length, List.drop_length, List.append_nil] at h1
      refine ⟨by rw [List.take_length]; rfl, ⟨_, vss, fps, rfl, ?_, h1, rfl, HND.out⟩, HWR.out⟩
      show World.ownsRow _ _ _ _ _ (mkL _ _ _).length _
      rw [mkL_length]; exact HO.out
    obtain ⟨x, hx⟩ : ∃ x, xs[k]? = some x := ⟨xs[k], List.getElem?_eq_getElem hlk⟩
    have hel : (mkL kInt k0 (xs.take k) ++ xs.drop k)[k]? = some x := by
      rw [List.getElem?_append_right (by simp; omega), mkL_length, List.length_take, Nat.min_eq_left (by omega), Nat.sub_self, List.getElem?_drop]; exact hx
    obtain ⟨f, v, hf, hv, how⟩ := HOW.out.at k x hel
    obtain ⟨g, rfl⟩ : ∃ g, a = some ⟨g, 0, none⟩ := by
      rcases HO.out.2 with ⟨_, h⟩ | ⟨g, _, _, h, _⟩
      · omega
      · cases h; exact ⟨g, rfl⟩
    have HR0 := Lib.hid (RowAt.begin HO.out (HOW.out.lens kInt_ok) hv)
    have HTK := Lib.hid (sumL_take kInt.cnt xs k x hx)
    have hle := sumL_le kInt.cnt xs (k + 1)
    rw [HTK.out] at hle
    have HSET := Lib.hid (mkL_set kInt xs k0 k x hx)
    generalize hkk : k0 + sumL kInt.cnt (xs.take k) = kk at *
    have hb0 : kk + kInt.cnt x ≤ 16777216 := by have := H1.out; omega
    have hb1 : 1 ≤ kk := by omega
    have HF := Lib.hid hf; have HKK := Lib.hid hkk
    clear hf hv hel hx hle hkk
    have hcx : kInt.cnt x = 1 := rfl
    rw [hcx] at hb0
    have HCX := Lib.hid hcx; clear hcx
    obtain ⟨rfl, rfl, _⟩ := how
    have c0_0 : wr.cell? ⟨g, k, none⟩ = some (Value.int .i64 x) := by have := HR0.out.cell 0 _ rfl; simpa using this
    have e0_0 : wr.frozen? ⟨g, k, none⟩ = false := HR0.out.frozen _
    have HRS0 : Hid (RowAt (wr.setCell ⟨g, k, none⟩ (Value.int .i64 (kk : Int))) 3 1 (.slice (some ⟨g, 0, none⟩) xs.length cap) xs.length vss k [Value.int .i64 (kk : Int)]) := by
      have h := HR0.out.store 0 (Value.int .i64 (kk : Int)) (by decide)
      exact Lib.hid (by simpa using h)
    have HWS0 := Lib.hid (HWR.out.setCell (p := ⟨g, k, none⟩) (by simp [Value.ownBlock]) (Value.int .i64 (kk : Int)))
    have HWF := Lib.hid HWS0.out
    have HNEW : Hid (kInt.ow [] (wr.setCell ⟨g, k, none⟩ (Value.int .i64 (kk : Int))) [Value.int .i64 (kk : Int)] (kInt.mark kk x)) := Lib.hid ⟨rfl, rfl, wf_mark (k := kk) (by omega)⟩
    have HSM : Hid (∀ b ∈ fps.flatten, b ∉ ([] : List Nat) → (wr.setCell ⟨g, k, none⟩ (Value.int .i64 (kk : Int))).heap[b]? = wr.heap[b]?) := by
      refine Lib.hid fun b hb hnf => ?_
      have hbg : b ≠ g := by
        rintro rfl
        have h := HND.out
        rw [List.nodup_append] at h
        exact h.2.2 b (by simp [Value.ownBlock]) b hb rfl
      have hlt := HOW.out.lt kInt_ok b hb
      rw [Below.heap_setCell _ _ _ _ (by exact hbg)]
    have HOWF := Lib.hid (HOW.out.turn kInt_ok (by have h := HND.out; rw [List.nodup_append] at h; exact h.2.1) k [] [Value.int .i64 (kk : Int)] (kInt.mark kk x) HF.out HSM.out HNEW.out)
    have HRF := Lib.hid HRS0.out.1
    have HK2 : Hid (k0 + sumL kInt.cnt (xs.take (k + 1)) = kk + 1) := Lib.hid (by rw [HTK.out, HCX.out]; have := HKK.out; omega)
    have HSET2 : Hid ((mkL kInt k0 (xs.take k) ++ xs.drop k).set k (kInt.mark kk x) = mkL kInt k0 (xs.take (k + 1)) ++ xs.drop (k + 1)) := Lib.hid HSET.out
    go_wp2_with fail
    go_roundw
    case rel => exact ⟨k + 1, vss.set k [Value.int .i64 (kk : Int)], by omega, by go_num, by rw [HK2.out]; go_num, HRF, Lib.hid (by rw [← HSET2.out]; exact HOWF.out), HWF⟩
    case measure => simp [intOf]; omega


set_option maxHeartbeats 2000000 in
theorem held_IntS {cs : List Value} {xs : List Int} {w : World} (k0 : Nat) (h : kIntS.rd w.heap.size w cs (kIntS.mark k0 xs)) (h0 : 1 ≤ k0) (h1 : k0 + kIntS.cnt xs ≤ 16777216) :
    Calls Try.prog 16 #[one cs, .int .i64 (k0 : Int)] w fun e w' => e = .returned (.int .i64 ((k0 + kIntS.cnt xs : Nat) : Int)) ∧ Below w.heap.size w w' := by
  obtain ⟨a, cap, vss, rfl, hcap, hrow, hl⟩ := h
  have hlen : (kIntS.mark k0 xs).length = xs.length := mkL_length _ _ _
  rw [hlen] at hcap
  rw [hlen]
  unfold maxLen at hcap
  obtain ⟨hc1, hc2⟩ := hcap
  have hn : xs.length ≤ 9223372036854775807 := by omega
  have h1' : k0 + sumL kInt.cnt xs ≤ 16777216 := h1
  show Calls Try.prog 16 #[.slice a xs.length cap, .int .i64 (k0 : Int)] w _
  have HROW := Lib.hid hrow; have HL := Lib.hid hl; have H1 := Lib.hid h1'
  clear hrow hl h1 h1' hlen
  go_enter Try.func16, Try.ntmps16
  go_wp2_with fail
  go_loopw [1, 5] (fun kv i wr => ∃ (k : Nat), k ≤ xs.length ∧ i = .int .i64 k ∧ kv = .int .i64 ((k0 + sumL kInt.cnt (xs.take k) : Nat) : Int) ∧ Hid (Below w.heap.size w wr)) (fun _ i _ => xs.length - (intOf i).toNat)
  case atStart => exact ⟨0, Nat.zero_le _, rfl, by simp [sumL], Below.refl _ _⟩
  case round =>
    obtain ⟨k, hk, rfl, rfl, HB⟩ := hrel
    by_cases hlk : k < xs.length
    case neg =>
      go_wp2_with fail
      go_ret
      obtain rfl : k = xs.length := by omega
      exact ⟨by rw [List.take_length]; rfl, HB.out⟩
    obtain ⟨x, hx⟩ : ∃ x, xs[k]? = some x := ⟨xs[k], List.getElem?_eq_getElem hlk⟩
    obtain ⟨v, b, off, hr, hv, rfl, hbl, hcell⟩ := elem_cells kInt_ok (n := 1) rfl (by decide) HROW.out HL.out (mkL_at kInt xs k0 k x hx)
    have HTK := Lib.hid (sumL_take kInt.cnt xs k x hx)
    have hle := sumL_le kInt.cnt xs (k + 1)
    rw [HTK.out] at hle
    generalize hkk : k0 + sumL kInt.cnt (xs.take k) = kk at *
    have hb0 : kk + kInt.cnt x ≤ 16777216 := by have := H1.out; omega
    have hb1 : 1 ≤ kk := by omega
    have HKK := Lib.hid hkk
    clear hv hx hle hkk
    have HE := Lib.hid (kInt_ok.later hr HB.out)
    have hcx : kInt.cnt x = 1 := rfl
    rw [hcx] at hb0
    have HCX := Lib.hid hcx; clear hcx
    obtain rfl := hr.1
    have c0 : wr.cell? ⟨b, off + k, none⟩ = some (Value.int .i64 (kk : Int)) := (HB.out.cell (p := ⟨b, off + k, none⟩) hbl).trans (by have h : w.cell? ⟨b, off + (k * 1 + 0), none⟩ = some (Value.int .i64 (kk : Int)) := hcell 0 _ rfl; simpa [Nat.add_assoc] using h)
    clear hcell hr
    have HK2 : Hid (k0 + sumL kInt.cnt (xs.take (k + 1)) = kk + 1) := Lib.hid (by rw [HTK.out, HCX.out]; have := HKK.out; omega)
    go_wp2_with fail
    go_roundw
    case rel => exact ⟨k + 1, by omega, by go_num, by rw [HK2.out]; go_num, Lib.hid HB.out⟩
    case measure => simp [intOf]; omega


end Go.Proofs.Ytlmgckijbamgpaa
