/- The contracts of CheckIn and CheckGrew, the program's and the reference's. -/
import Derived.Test.YtdhkagabkhepgaaLogCheck
namespace Go.Proofs.Ytdhkagabkhepgaa
set_option linter.unusedVariables false
open Go.ChangeShapes Go.WideShapes Go.ChangeAt Go.RowKit

/-! ### whether all sums are good -/
def badS (n : Int) : Bool := !sumB n
theorem sumsOK1_any (n : Int) (w : World) (_h : True) : Calls Try.prog 84 #[.int .i64 n] w fun e w' => e = .returned (.bool (badS n)) ∧ w = w' := by
  go_enter Try.func84, Try.ntmps84
  go_wp2_with (go_at_call 49; refine (impl_sum _ _).mono ?_; rintro e w' ⟨rfl, rfl⟩)
  go_ret
  exact ⟨rfl, rfl⟩
set_option maxHeartbeats 400000 in
theorem idx_bad (a : Option Addr) (cap : Nat) (xs : List Int) (w : World) (hrow : Rw w a (xs.map (Value.int IntKind.i64))) (hn : xs.length ≤ 9223372036854775807) (hx : ∀ x ∈ xs, (fun _ : Int => True) x) :
    Calls Try.prog 89 #[.slice a xs.length cap, .func (.func 84) #[] #[]] w fun e w' => e = .returned (.int .i64 (fidx badS xs)) ∧ w = w' := by
  go_enter Try.func89, Try.ntmps89
  go_wp2
  go_loop [8] (fun i => ∃ k : Nat, k ≤ xs.length ∧ i = .int .i64 k ∧ Hid ((xs.take k).any badS = false)) (fun i => xs.length - (intOf i).toNat)
  case atStart => exact ⟨0, Nat.zero_le _, rfl, rfl⟩
  case round =>
    obtain ⟨k, hk, rfl, HA⟩ := hrel
    by_cases hlk : k < xs.length
    · obtain ⟨b, off, rfl, hbl, hc⟩ := hrow.at (by intro h; have := congrArg List.length h; simp at this; rw [this] at hlk; simp at hlk)
      have hc1 : w.cell? ⟨b, off + k, none⟩ = some ((Value.int IntKind.i64) (xs.getD k 0)) := hc k _ (by simp [hlk])
      have hs := hx (xs.getD k 0) (by simp [List.getD, hlk])
      have hyes : badS (xs.getD k 0) = true → fidx badS xs = k := fidx_here badS xs 0 k hlk HA.out
      have hno : badS (xs.getD k 0) = false → (xs.take (k + 1)).any badS = false := fidx_next badS xs 0 k hlk HA.out
      have HY := Lib.hid hyes; have HN := Lib.hid hno; have HX := Lib.hid hs
      clear hc hrow hx hyes hno hs
      generalize xs.getD k 0 = s at *
      by_cases hp : badS s = true
      · have HP := Lib.hid hp
        go_wp2_with (go_at_call 84; refine (sumsOK1_any _ _ HX.out).mono ?_; rintro e w' ⟨rfl, rfl⟩)
        go_ret
        exact ⟨ret_int (HY.out HP.out).symm, rfl⟩
      · have hp' : badS s = false := by simpa using hp
        clear hp
        have HP := Lib.hid hp'
        go_wp2_with (go_at_call 84; refine (sumsOK1_any _ _ HX.out).mono ?_; rintro e w' ⟨rfl, rfl⟩)
        go_round
        case rel => exact ⟨k + 1, by omega, by go_num, HN.out HP.out⟩
        case measure => simp [intOf]; omega
    · go_wp2
      go_ret
      obtain rfl : k = xs.length := by omega
      have h1 := HA.out
      rw [List.take_length] at h1
      exact ⟨ret_int (fidx_none badS xs h1).symm, rfl⟩

set_option maxHeartbeats 400000 in
theorem any_bad (a : Option Addr) (cap : Nat) (xs : List Int) (w : World) (hrow : Rw w a (xs.map (Value.int IntKind.i64))) (hn : xs.length ≤ 9223372036854775807) (hx : ∀ x ∈ xs, (fun _ : Int => True) x) :
    Calls Try.prog 83 #[.slice a xs.length cap, .func (.func 84) #[] #[]] w fun e w' => e = .returned (.bool (xs.any badS)) ∧ w = w' := by
  by_cases h : 0 ≤ fidx badS xs
  · have H := Lib.hid ((fidx_any badS xs).1 h)
    go_enter Try.func83, Try.ntmps83
    go_wp2_with (go_at_call 89; refine (idx_bad a cap xs _ hrow hn hx).mono ?_; rintro e w' ⟨rfl, rfl⟩)
    go_ret
    exact ⟨ret_bool (by rw [H.out]; try (simp; try omega)), rfl⟩
  · have H := Lib.hid (Bool.eq_false_iff.2 fun hc => h ((fidx_any badS xs).2 hc))
    go_enter Try.func83, Try.ntmps83
    go_wp2_with (go_at_call 89; refine (idx_bad a cap xs _ hrow hn hx).mono ?_; rintro e w' ⟨rfl, rfl⟩)
    go_ret
    exact ⟨ret_bool (by rw [H.out]; try (simp; try omega)), rfl⟩
def sumsB (p : List Int) : Bool := !(p.any badS)
theorem sumsB_all {p : List Int} (h : sumsB p = true) : allR p := by
  intro x hx
  unfold sumsB at h
  have h2 : p.any badS = false := by simpa using h
  rw [List.any_eq_false] at h2
  have := h2 x hx
  unfold badS at this
  exact inB_of (by simpa [sumB] using this)

set_option maxHeartbeats 400000 in
theorem sumsOK_any (a : Option Addr) (c : Nat) (p : List Int) (w : World) (hr : Rw w a (ints p)) (hn : p.length ≤ 1048576) :
    Calls Try.prog 63 #[.agg #[.slice a p.length c]] w fun e w' => e = .returned (.bool (sumsB p)) ∧ Below w.heap.size w w' := by
  have HR := Lib.hid hr
  clear hr
  go_enter Try.func63, Try.ntmps63
  go_wp2_with fail
  refine (any_bad a c p _ (HR.out.alloc _) (by omega) (fun _ _ => trivial)).mono ?_
  rintro e w' ⟨rfl, rfl⟩
  go_wp2_with fail
  go_ret
  exact ⟨rfl, (Below.refl _ _).alloc (Nat.le_refl _) _⟩

def proofB (p : List Int) : Bool := sumsB p && decide (p.length ≤ 20)
set_option maxHeartbeats 400000 in
theorem l13Proof_any (a : Option Addr) (c : Nat) (p : List Int) (w : World) (hr : Rw w a (ints p)) (hn : p.length ≤ 1048576) :
    Calls Try.prog 60 #[.agg #[.slice a p.length c]] w fun e w' => e = .returned (.bool (proofB p)) ∧ Below w.heap.size w w' := by
  have HR := Lib.hid hr
  have HB := Lib.hid ((Below.refl w.heap.size w).alloc (Nat.le_refl _) (.cells #[.slice a p.length c] 41))
  clear hr
  go_enter Try.func60, Try.ntmps60
  go_wp2_with fail
  go_loop [4, 8] (fun _ i => ∃ k : Nat, k ≤ p.length ∧ i = .int .i64 k ∧ Hid ((p.take k).any badS = false)) (fun _ i => p.length - (intOf i).toNat)
  case atStart => exact ⟨0, Nat.zero_le _, rfl, rfl⟩
  case round =>
    obtain ⟨k, hk, rfl, HA⟩ := hrel
    by_cases hlk : k < p.length
    · obtain ⟨b, off, rfl, hbl, hc⟩ := HR.out.at (ints_ne hlk)
      have hc1 : w.cell? ⟨b, off + k, none⟩ = some (.int .i64 (p.getD k 0)) := hc k _ (ints_at p k hlk)
      have hyes : sumB (p.getD k 0) = false → proofB p = false := fun h => by
        unfold proofB sumsB
        have : p.any badS = true := List.any_eq_true.2 ⟨p.getD k 0, by simp [List.getD, hlk], by show (!sumB _) = true; rw [h]; rfl⟩
        simp [this]
      have hno : sumB (p.getD k 0) = true → (p.take (k + 1)).any badS = false := fun h => fidx_next badS p 0 k hlk HA.out (by show (!sumB _) = false; rw [h]; rfl)
      have hbn : ¬ b = w.heap.size := Nat.ne_of_lt hbl
      have HY := Lib.hid hyes; have HN := Lib.hid hno
      clear hc hyes hno HR
      generalize p.getD k 0 = s at *
      cases hp : sumB s with
      | false =>
        have HP := Lib.hid hp
        go_wp2_with (go_at_call 47; refine (spec_sum _ _).mono ?_; rintro e w' ⟨rfl, rfl⟩)
        go_ret
        exact ⟨ret_bool (HY.out HP.out).symm, HB.out⟩
      | true =>
        have HP := Lib.hid hp
        go_wp2_with (go_at_call 47; refine (spec_sum _ _).mono ?_; rintro e w' ⟨rfl, rfl⟩)
        go_round
        case rel => exact ⟨k + 1, by omega, by go_num, HN.out HP.out⟩
        case measure => simp [intOf]; omega
    · obtain rfl : k = p.length := by omega
      have h1 := HA.out
      rw [List.take_length] at h1
      have H : Hid (proofB p = decide (p.length ≤ 20)) := by show proofB p = _; unfold proofB sumsB; simp [h1]
      clear h1 HA
      by_cases h : p.length ≤ 20
      · go_wp2
        go_ret
        exact ⟨ret_bool (by rw [H.out]; try (simp; try omega)), HB.out⟩
      · go_wp2
        go_ret
        exact ⟨ret_bool (by rw [H.out]; try (simp; try omega)), HB.out⟩

end Go.Proofs.Ytdhkagabkhepgaa
