/- Whether fields are good: the program's contract. -/
import Derived.Test.YtlmgckijbamgpaaFld3
namespace Go.Proofs.Ytlmgckijbamgpaa
set_option linter.unusedVariables false
set_option linter.unusedSimpArgs false
open Go.ChangeShapes Go.WideShapes Go.ChangeAt Go.RowKit
set_option maxRecDepth 100000

set_option maxHeartbeats 400000 in
theorem clo_fok (f : Fld) (w : World) : Calls Try.prog 124 #[.agg #[.int .i64 f.no, .int .i64 f.kind, .int .i64 f.num, .string f.data]] w fun e w' => e = .returned (.bool (!okF f)) ∧ Below w.heap.size w w' := by
  have H := Lib.hid (fun wx => impl_fieldOK f wx)
  obtain ⟨no, kd, nm, dt⟩ := f
  simp only at H
  have HB := Lib.hid (box_start w (.cells #[.int .i64 no, .int .i64 kd, .int .i64 nm, .string dt] 57))
  generalize okF ⟨no, kd, nm, dt⟩ = r at *
  go_enter Try.func124, Try.ntmps124
  go_wp2_with fail
  refine (H.out _).mono ?_
  rintro e w' ⟨rfl, hb⟩
  have HB2 := Lib.hid (box_step HB.out hb); clear hb
  go_wp2_with fail
  go_ret
  exact ⟨rfl, box_below HB2.out⟩
set_option maxHeartbeats 1000000 in
theorem idx_fok {w : World} (a : Option Addr) (cap : Nat) (l : List Fld) (hrow : Rw w a (fdsV l)) (hn : l.length ≤ 1048576) :
    Calls Try.prog 140 #[.slice a l.length cap, .func (.func 124) #[] #[]] w fun e w' => e = .returned (.int .i64 (fidx (fun f => !okF f) l)) ∧ Below w.heap.size w w' := by
  have HROW := Lib.hid hrow
  clear hrow
  generalize hp : (fun f : Fld => !okF f) = p
  have HCLO : Hid (∀ (f : Fld) (w : World), Calls Try.prog 124 #[.agg #[.int .i64 f.no, .int .i64 f.kind, .int .i64 f.num, .string f.data]] w fun e w' => e = .returned (.bool (p f)) ∧ Below w.heap.size w w') := Lib.hid (by rw [← hp]; exact clo_fok)
  clear hp
  go_enter Try.func140, Try.ntmps140
  go_wp2_with fail
  go_loopw [8] (fun i wr => ∃ k : Nat, k ≤ l.length ∧ i = .int .i64 k ∧ Hid ((l.take k).any p = false) ∧ Hid (Below w.heap.size w wr)) (fun i _ => l.length - (intOf i).toNat)
  case atStart => exact ⟨0, Nat.zero_le _, rfl, rfl, Below.refl _ _⟩
  case round =>
    obtain ⟨k, hk, rfl, HA, HB⟩ := hrel
    by_cases hlk : k < l.length
    case neg =>
      go_wp2_with fail
      go_ret
      obtain rfl : k = l.length := by omega
      have h1 := HA.out
      rw [List.take_length] at h1
      exact ⟨ret_int (fidx_none p l h1).symm, HB.out⟩
    obtain ⟨x, hx⟩ : ∃ x, l[k]? = some x := ⟨l[k], List.getElem?_eq_getElem hlk⟩
    have hgd : l.getD k x = x := by simp [List.getD, hx]
    have hyes : p x = true → fidx p l = k := fun h => fidx_here p l x k hlk HA.out (by rw [hgd]; exact h)
    have hno : p x = false → (l.take (k + 1)).any p = false := fun h => fidx_next p l x k hlk HA.out (by rw [hgd]; exact h)
    obtain ⟨b, off, rfl, hbl, hbw, c0, c1, c2, c3⟩ := row4 HROW.out HB.out hx
    have HC := Lib.hid (HCLO.out x wr)
    have HY := Lib.hid hyes; have HN := Lib.hid hno
    clear hx hgd hyes hno
    obtain ⟨no, kd, nm, dt⟩ := x
    simp only at c0 c1 c2 c3 HC
    cases hp : p ⟨no, kd, nm, dt⟩ with
    | true =>
      rw [hp] at HC
      have HP := Lib.hid hp; clear hp
      go_wp2_with (go_at_call 124; refine HC.out.mono ?_; rintro e w2 ⟨rfl, hb2⟩; have HB2 := Lib.hid hb2; clear hb2)
      go_ret
      exact ⟨ret_int (HY.out HP.out).symm, HB.out.trans (HB2.out.mono HB.out.size)⟩
    | false =>
      rw [hp] at HC
      have HP := Lib.hid hp; clear hp
      go_wp2_with (go_at_call 124; refine HC.out.mono ?_; rintro e w2 ⟨rfl, hb2⟩; have HB2 := Lib.hid hb2; clear hb2)
      go_roundw
      case rel => exact ⟨k + 1, by omega, by go_num, HN.out HP.out, HB.out.trans (HB2.out.mono HB.out.size)⟩
      case measure => simp [intOf]; omega
set_option maxHeartbeats 1000000 in
theorem has_fok {w : World} (a : Option Addr) (cap : Nat) (l : List Fld) (hrow : Rw w a (fdsV l)) (hn : l.length ≤ 1048576) :
    Calls Try.prog 123 #[.slice a l.length cap, .func (.func 124) #[] #[]] w fun e w' => e = .returned (.bool (l.any fun f => !okF f)) ∧ Below w.heap.size w w' := by
  have HI := Lib.hid (idx_fok a cap l hrow hn)
  clear hrow
  by_cases h : 0 ≤ fidx (fun f => !okF f) l
  · have H := Lib.hid ((fidx_any (fun f => !okF f) l).1 h)
    generalize fidx (fun f => !okF f) l = r at *
    go_enter Try.func123, Try.ntmps123
    go_wp2_with (go_at_call 140; refine HI.out.mono ?_; rintro e w' ⟨rfl, hb2⟩; have HB2 := Lib.hid hb2; clear hb2)
    go_ret
    exact ⟨ret_bool (by rw [H.out]; try (simp; try omega)), HB2.out⟩
  · have H := Lib.hid (Bool.eq_false_iff.2 fun hc => h ((fidx_any (fun f => !okF f) l).2 hc))
    generalize fidx (fun f => !okF f) l = r at *
    go_enter Try.func123, Try.ntmps123
    go_wp2_with (go_at_call 140; refine HI.out.mono ?_; rintro e w' ⟨rfl, hb2⟩; have HB2 := Lib.hid hb2; clear hb2)
    go_ret
    exact ⟨ret_bool (by rw [H.out]; try (simp; try omega)), HB2.out⟩
theorem good_any (l : List Fld) : goodFs l = (decide (l.length ≤ 40) && !(l.any fun f => !okF f)) := by
  unfold goodFs
  congr 1
  induction l with
  | nil => rfl
  | cons x r ih => rw [List.all_cons, List.any_cons, ih]; cases okF x <;> simp
set_option maxHeartbeats 1000000 in
theorem impl_fieldsOK {w : World} (a : Option Addr) (cap : Nat) (l : List Fld) (hrow : Rw w a (fdsV l)) (hn : l.length ≤ 1048576) :
    Calls Try.prog 80 #[.slice a l.length cap] w fun e w' => e = .returned (.bool (goodFs l)) ∧ Below w.heap.size w w' := by
  have HH := Lib.hid (has_fok a cap l hrow hn)
  clear hrow
  rw [good_any]
  generalize (l.any fun f => !okF f) = r at *
  by_cases h : l.length ≤ 40
  · rw [decide_eq_true h, Bool.true_and]
    go_enter Try.func80, Try.ntmps80
    go_wp2_with fail
    refine HH.out.mono ?_
    rintro e w' ⟨rfl, hb⟩
    have HB := Lib.hid hb; clear hb
    go_wp2_with fail
    go_ret
    exact ⟨rfl, HB.out⟩
  · rw [decide_eq_false h, Bool.false_and]
    go_enter Try.func80, Try.ntmps80
    go_wp2_with fail
    go_ret
    exact ⟨rfl, Below.refl _ _⟩
end Go.Proofs.Ytlmgckijbamgpaa
