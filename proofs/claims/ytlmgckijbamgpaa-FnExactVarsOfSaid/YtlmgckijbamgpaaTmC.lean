/- The program's tree of a term; whether a variable is in it. -/
import Derived.Test.YtlmgckijbamgpaaTmB
namespace Go.Proofs.Ytlmgckijbamgpaa
set_option linter.unusedVariables false
open Go.ChangeShapes Go.WideShapes Go.ChangeAt Go.RowKit
set_option maxRecDepth 100000

theorem impl_from (B : Nat) : ∀ (f : Nat) (l : List Cel) (a : Option Addr) (cap : Nat) (w : World), l.length ≤ f → l.length ≤ cap → cap ≤ 9223372036854775807 → (∀ c ∈ l, c.2.1.size ≤ maxLen) → CRow B w a l → B ≤ w.heap.size → Calls Try.prog 115 #[.slice a l.length cap] w (FromOf B (pT f l) f w)
  | f, [], a, cap, w, _, _, _, _, _, _ => impl_from_nil B f a cap w
  | 0, c :: t, a, cap, w, h, _, _, _, _, _ => by simp at h
  | f + 1, c :: t, a, cap, w, h, hc, hcm, hnm, hrow, hB => by
    simp only [List.length_cons] at h hc
    by_cases hv : c.1 = 0
    · exact impl_from_node B f a cap c t w hc hcm hrow hB hv (hnm c (by simp)) (by omega) (fun l a cap wx h1 h2 h3 h4 h5 h6 => impl_from B f l a cap wx (by omega) h2 h3 (fun q hq => hnm q (by simp [h4 q hq])) h5 h6)
    · exact impl_from_var B f a cap c t w hc hcm hrow hB hv
set_option maxHeartbeats 1000000 in
theorem idx_kid {w : World} (a : Option Addr) (cap : Nat) (ks : List (Value × List Int)) (c0 : Value) (p : Value × List Int → Bool) (hrow : Rw w a (kPs ks)) (hn : ks.length ≤ 5) (hclo : ∀ (wx : World) (q : Value × List Int), Below w.heap.size w wx → q ∈ ks → Calls Try.prog 117 #[q.1, c0] wx fun e w' => e = .returned (.bool (p q)) ∧ Below wx.heap.size wx w') :
    Calls Try.prog 139 #[.slice a ks.length cap, .func (.func 117) #[] #[c0]] w fun e w' => e = .returned (.int .i64 (fidx p ks)) ∧ Below w.heap.size w w' := by
  have HROW := Lib.hid hrow; have HCL := Lib.hid hclo
  clear hrow hclo
  go_enter Try.func139, Try.ntmps139
  go_wp2_with fail
  go_loopw [8] (fun i wr => ∃ k : Nat, k ≤ ks.length ∧ i = .int .i64 k ∧ Hid ((ks.take k).any p = false) ∧ Hid (Below w.heap.size w wr)) (fun i _ => ks.length - (intOf i).toNat)
  case atStart => exact ⟨0, Nat.zero_le _, rfl, rfl, Below.refl _ _⟩
  case round =>
    obtain ⟨k, hk, rfl, HA, HB⟩ := hrel
    by_cases hlk : k < ks.length
    case neg =>
      go_wp2_with fail
      go_ret
      obtain rfl : k = ks.length := by omega
      have h1 := HA.out
      rw [List.take_length] at h1
      exact ⟨ret_int (fidx_none p ks h1).symm, HB.out⟩
    obtain ⟨x, hx⟩ : ∃ x, ks[k]? = some x := ⟨ks[k], List.getElem?_eq_getElem hlk⟩
    have hgd : ks.getD k x = x := by simp [List.getD, hx]
    have hyes : p x = true → fidx p ks = k := fun h => fidx_here p ks x k hlk HA.out (by rw [hgd]; exact h)
    have hno : p x = false → (ks.take (k + 1)).any p = false := fun h => fidx_next p ks x k hlk HA.out (by rw [hgd]; exact h)
    have HC := Lib.hid (HCL.out wr x HB.out (List.mem_of_getElem? hx))
    obtain ⟨b, off, rfl, hbl, hc⟩ := HROW.out.at (by intro e; have := congrArg List.length e; simp [kPs] at this; rw [this] at hlk; simp at hlk)
    have c1 : wr.cell? ⟨b, off + k, none⟩ = some x.1 := (HB.out.cell (p := ⟨b, off + k, none⟩) hbl).trans (hc k _ (by simp [kPs, hx]))
    have hbx : b < wr.heap.size := Nat.lt_of_lt_of_le hbl HB.out.size
    have HY := Lib.hid hyes; have HN := Lib.hid hno
    clear hx hgd hyes hno hc
    cases hp : p x with
    | true =>
      rw [hp] at HC
      have HP := Lib.hid hp; clear hp
      go_wp2_with (go_at_call 117; refine HC.out.mono ?_; rintro e w2 ⟨rfl, hb2⟩; have HB2 := Lib.hid hb2; clear hb2)
      go_ret
      exact ⟨ret_int (HY.out HP.out).symm, HB.out.trans (HB2.out.mono HB.out.size)⟩
    | false =>
      rw [hp] at HC
      have HP := Lib.hid hp; clear hp
      go_wp2_with (go_at_call 117; refine HC.out.mono ?_; rintro e w2 ⟨rfl, hb2⟩; have HB2 := Lib.hid hb2; clear hb2)
      go_roundw
      case rel => exact ⟨k + 1, by omega, by go_num, HN.out HP.out, HB.out.trans (HB2.out.mono HB.out.size)⟩
      case measure => simp [intOf]; omega
set_option maxHeartbeats 1000000 in
theorem has_kid {w : World} (a : Option Addr) (cap : Nat) (ks : List (Value × List Int)) (c0 : Value) (p : Value × List Int → Bool) (hrow : Rw w a (kPs ks)) (hn : ks.length ≤ 5) (hclo : ∀ (wx : World) (q : Value × List Int), Below w.heap.size w wx → q ∈ ks → Calls Try.prog 117 #[q.1, c0] wx fun e w' => e = .returned (.bool (p q)) ∧ Below wx.heap.size wx w') :
    Calls Try.prog 116 #[.slice a ks.length cap, .func (.func 117) #[] #[c0]] w fun e w' => e = .returned (.bool (ks.any p)) ∧ Below w.heap.size w w' := by
  have HI := Lib.hid (idx_kid a cap ks c0 p hrow hn hclo)
  clear hclo hrow
  by_cases h : 0 ≤ fidx p ks
  · have H := Lib.hid ((fidx_any p ks).1 h)
    go_enter Try.func116, Try.ntmps116
    go_wp2_with (go_at_call 139; refine HI.out.mono ?_; rintro e w' ⟨rfl, hb2⟩; have HB2 := Lib.hid hb2; clear hb2)
    go_ret
    exact ⟨ret_bool (by rw [H.out]; try (simp; try omega)), HB2.out⟩
  · have H := Lib.hid (Bool.eq_false_iff.2 fun hc => h ((fidx_any p ks).2 hc))
    go_enter Try.func116, Try.ntmps116
    go_wp2_with (go_at_call 139; refine HI.out.mono ?_; rintro e w' ⟨rfl, hb2⟩; have HB2 := Lib.hid hb2; clear hb2)
    go_ret
    exact ⟨ret_bool (by rw [H.out]; try (simp; try omega)), HB2.out⟩
end Go.Proofs.Ytlmgckijbamgpaa
