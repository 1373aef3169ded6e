/- The contracts of topics and patterns: the program's levels, what takes in what, what meets. -/
import Derived.Test.YteknmjebokimjaaDoorTopic
namespace Go.Proofs.YteknmjebokimjaaDoor
set_option linter.unusedVariables false
open Go.ChangeShapes Go.WideShapes Go.ChangeAt Go.RowKit
set_option maxRecDepth 100000

theorem clo_levels (s : ByteArray) (w : World) (hs : s.size ≤ 9223372036854775807) : Calls Tryd.prog 73 #[.string s] w fun e w' => e = .returned (.bool (!lvlOK s)) ∧ w = w' := by
  go_enter Tryd.func73, Tryd.ntmps73
  go_wp2_with (go_at_call 74; refine (impl_levelOK s _ hs).mono ?_; rintro e w' ⟨rfl, rfl⟩)
  go_ret
  exact ⟨rfl, rfl⟩
theorem clo_topic (s : ByteArray) (w : World) (hs : s.size ≤ 9223372036854775807) : Calls Tryd.prog 60 #[.string s] w fun e w' => e = .returned (.bool (!lvl s)) ∧ w = w' := by
  go_enter Tryd.func60, Tryd.ntmps60
  go_wp2_with (go_at_call 61; refine (impl_plain s _ hs).mono ?_; rintro e w' ⟨rfl, rfl⟩)
  go_ret
  exact ⟨rfl, rfl⟩
set_option maxHeartbeats 400000 in
theorem idx_lev (a : Option Addr) (cap : Nat) (xs : List ByteArray) (w : World) (hrow : Rw w a (xs.map Value.string)) (hn : xs.length ≤ 9223372036854775807) (hx : ∀ x ∈ xs, (fun x => x.size ≤ 9223372036854775807) x) :
    Calls Tryd.prog 84 #[.slice a xs.length cap, .func (.func 73) #[] #[]] w fun e w' => e = .returned (.int .i64 (fidx (fun x => !lvlOK x) xs)) ∧ w = w' := by
  go_enter Tryd.func84, Tryd.ntmps84
  go_wp2
  go_loop [8] (fun i => ∃ k : Nat, k ≤ xs.length ∧ i = .int .i64 k ∧ Hid ((xs.take k).any (fun x => !lvlOK x) = false)) (fun i => xs.length - (intOf i).toNat)
  case atStart => exact ⟨0, Nat.zero_le _, rfl, rfl⟩
  case round =>
    obtain ⟨k, hk, rfl, HA⟩ := hrel
    by_cases hlk : k < xs.length
    · obtain ⟨b, off, rfl, hbl, hc⟩ := hrow.at (by intro h; have := congrArg List.length h; simp at this; rw [this] at hlk; simp at hlk)
      have hc1 : w.cell? ⟨b, off + k, none⟩ = some (Value.string (xs.getD k ByteArray.empty)) := hc k _ (by simp [hlk])
      have hs := hx (xs.getD k ByteArray.empty) (by simp [List.getD, hlk])
      have hyes : (fun x => !lvlOK x) (xs.getD k ByteArray.empty) = true → fidx (fun x => !lvlOK x) xs = k := fidx_here (fun x => !lvlOK x) xs ByteArray.empty k hlk HA.out
      have hno : (fun x => !lvlOK x) (xs.getD k ByteArray.empty) = false → (xs.take (k + 1)).any (fun x => !lvlOK x) = false := fidx_next (fun x => !lvlOK x) xs ByteArray.empty k hlk HA.out
      have HY := Lib.hid hyes; have HN := Lib.hid hno; have HX := Lib.hid hs
      clear hc hrow hx hyes hno hs
      generalize xs.getD k ByteArray.empty = s at *
      by_cases hp : (fun x => !lvlOK x) s = true
      · have HP := Lib.hid hp
        go_wp2_with (go_at_call 73; refine (clo_levels _ _ HX.out).mono ?_; rintro e w' ⟨rfl, rfl⟩)
        go_ret
        exact ⟨ret_int (HY.out HP.out).symm, rfl⟩
      · have hp' : (fun x => !lvlOK x) s = false := by simpa using hp
        clear hp
        have HP := Lib.hid hp'
        go_wp2_with (go_at_call 73; refine (clo_levels _ _ HX.out).mono ?_; rintro e w' ⟨rfl, rfl⟩)
        go_round
        case rel => exact ⟨k + 1, by omega, by go_num, HN.out HP.out⟩
        case measure => simp [intOf]; omega
    · go_wp2
      go_ret
      obtain rfl : k = xs.length := by omega
      have h1 := HA.out
      rw [List.take_length] at h1
      exact ⟨ret_int (fidx_none (fun x => !lvlOK x) xs h1).symm, rfl⟩

set_option maxHeartbeats 400000 in
theorem has_lev (a : Option Addr) (cap : Nat) (xs : List ByteArray) (w : World) (hrow : Rw w a (xs.map Value.string)) (hn : xs.length ≤ 9223372036854775807) (hx : ∀ x ∈ xs, (fun x => x.size ≤ 9223372036854775807) x) :
    Calls Tryd.prog 59 #[.slice a xs.length cap, .func (.func 73) #[] #[]] w fun e w' => e = .returned (.bool (xs.any (fun x => !lvlOK x))) ∧ w = w' := by
  by_cases h : 0 ≤ fidx (fun x => !lvlOK x) xs
  · have H := Lib.hid ((fidx_any (fun x => !lvlOK x) xs).1 h)
    go_enter Tryd.func59, Tryd.ntmps59
    go_wp2_with (go_at_call 84; refine (idx_lev a cap xs _ hrow hn hx).mono ?_; rintro e w' ⟨rfl, rfl⟩)
    go_ret
    exact ⟨ret_bool (by rw [H.out]; try (simp; try omega)), rfl⟩
  · have H := Lib.hid (Bool.eq_false_iff.2 fun hc => h ((fidx_any (fun x => !lvlOK x) xs).2 hc))
    go_enter Tryd.func59, Tryd.ntmps59
    go_wp2_with (go_at_call 84; refine (idx_lev a cap xs _ hrow hn hx).mono ?_; rintro e w' ⟨rfl, rfl⟩)
    go_ret
    exact ⟨ret_bool (by rw [H.out]; try (simp; try omega)), rfl⟩

set_option maxHeartbeats 400000 in
theorem idx_top (a : Option Addr) (cap : Nat) (xs : List ByteArray) (w : World) (hrow : Rw w a (xs.map Value.string)) (hn : xs.length ≤ 9223372036854775807) (hx : ∀ x ∈ xs, (fun x => x.size ≤ 9223372036854775807) x) :
    Calls Tryd.prog 84 #[.slice a xs.length cap, .func (.func 60) #[] #[]] w fun e w' => e = .returned (.int .i64 (fidx (fun x => !lvl x) xs)) ∧ w = w' := by
  go_enter Tryd.func84, Tryd.ntmps84
  go_wp2
  go_loop [8] (fun i => ∃ k : Nat, k ≤ xs.length ∧ i = .int .i64 k ∧ Hid ((xs.take k).any (fun x => !lvl x) = false)) (fun i => xs.length - (intOf i).toNat)
  case atStart => exact ⟨0, Nat.zero_le _, rfl, rfl⟩
  case round =>
    obtain ⟨k, hk, rfl, HA⟩ := hrel
    by_cases hlk : k < xs.length
    · obtain ⟨b, off, rfl, hbl, hc⟩ := hrow.at (by intro h; have := congrArg List.length h; simp at this; rw [this] at hlk; simp at hlk)
      have hc1 : w.cell? ⟨b, off + k, none⟩ = some (Value.string (xs.getD k ByteArray.empty)) := hc k _ (by simp [hlk])
      have hs := hx (xs.getD k ByteArray.empty) (by simp [List.getD, hlk])
      have hyes : (fun x => !lvl x) (xs.getD k ByteArray.empty) = true → fidx (fun x => !lvl x) xs = k := fidx_here (fun x => !lvl x) xs ByteArray.empty k hlk HA.out
      have hno : (fun x => !lvl x) (xs.getD k ByteArray.empty) = false → (xs.take (k + 1)).any (fun x => !lvl x) = false := fidx_next (fun x => !lvl x) xs ByteArray.empty k hlk HA.out
      have HY := Lib.hid hyes; have HN := Lib.hid hno; have HX := Lib.hid hs
      clear hc hrow hx hyes hno hs
      generalize xs.getD k ByteArray.empty = s at *
      by_cases hp : (fun x => !lvl x) s = true
      · have HP := Lib.hid hp
        go_wp2_with (go_at_call 60; refine (clo_topic _ _ HX.out).mono ?_; rintro e w' ⟨rfl, rfl⟩)
        go_ret
        exact ⟨ret_int (HY.out HP.out).symm, rfl⟩
      · have hp' : (fun x => !lvl x) s = false := by simpa using hp
        clear hp
        have HP := Lib.hid hp'
        go_wp2_with (go_at_call 60; refine (clo_topic _ _ HX.out).mono ?_; rintro e w' ⟨rfl, rfl⟩)
        go_round
        case rel => exact ⟨k + 1, by omega, by go_num, HN.out HP.out⟩
        case measure => simp [intOf]; omega
    · go_wp2
      go_ret
      obtain rfl : k = xs.length := by omega
      have h1 := HA.out
      rw [List.take_length] at h1
      exact ⟨ret_int (fidx_none (fun x => !lvl x) xs h1).symm, rfl⟩

set_option maxHeartbeats 400000 in
theorem has_top (a : Option Addr) (cap : Nat) (xs : List ByteArray) (w : World) (hrow : Rw w a (xs.map Value.string)) (hn : xs.length ≤ 9223372036854775807) (hx : ∀ x ∈ xs, (fun x => x.size ≤ 9223372036854775807) x) :
    Calls Tryd.prog 59 #[.slice a xs.length cap, .func (.func 60) #[] #[]] w fun e w' => e = .returned (.bool (xs.any (fun x => !lvl x))) ∧ w = w' := by
  by_cases h : 0 ≤ fidx (fun x => !lvl x) xs
  · have H := Lib.hid ((fidx_any (fun x => !lvl x) xs).1 h)
    go_enter Tryd.func59, Tryd.ntmps59
    go_wp2_with (go_at_call 84; refine (idx_top a cap xs _ hrow hn hx).mono ?_; rintro e w' ⟨rfl, rfl⟩)
    go_ret
    exact ⟨ret_bool (by rw [H.out]; try (simp; try omega)), rfl⟩
  · have H := Lib.hid (Bool.eq_false_iff.2 fun hc => h ((fidx_any (fun x => !lvl x) xs).2 hc))
    go_enter Tryd.func59, Tryd.ntmps59
    go_wp2_with (go_at_call 84; refine (idx_top a cap xs _ hrow hn hx).mono ?_; rintro e w' ⟨rfl, rfl⟩)
    go_ret
    exact ⟨ret_bool (by rw [H.out]; try (simp; try omega)), rfl⟩

theorem contains_more (xs : List ByteArray) : Lib.containsS xs { data := #[35] } = xs.any (fun x => decide (x = more)) := by
  rw [Bool.eq_iff_iff, Lib.containsS_iff, List.any_eq_true]
  constructor
  · intro h; exact ⟨_, h, by simp [more]⟩
  · rintro ⟨x, h, e⟩; simp at e; subst e; exact h

/-- the levels of a good pattern -/
def LevOf (s : ByteArray) (w : World) (e : Ending) (w' : World) : Prop :=
  ∃ b cap, e = .returned (.slice (some ⟨b, 0, none⟩) (pieces 47 s).length cap) ∧ Rw w' (some ⟨b, 0, none⟩) (strs (pieces 47 s)) ∧ Below w.heap.size w w'
theorem rw_alloc (w : World) (xs : List ByteArray) (T : TypeId) : Rw (w.alloc (.cells (xs.map Value.string).toArray T)) (some ⟨w.heap.size, 0, none⟩) (strs xs) := by
  refine .inr ⟨w.heap.size, 0, rfl, by simp, fun i u hi => ?_⟩
  unfold strs at hi
  rw [Nat.zero_add, World.cell?_alloc_new]
  simpa using hi
theorem gPat_cases (s : ByteArray) : (6 < (pieces 47 s).length ∧ gPat s = false) ∨ ((pieces 47 s).length ≤ 6 ∧ (pieces 47 s).any (fun x => !lvlOK x) = true ∧ gPat s = false) ∨ ((pieces 47 s).length ≤ 6 ∧ (pieces 47 s).any (fun x => !lvlOK x) = false ∧ gPat s = !((pieces 47 s).dropLast.any fun x => decide (x = more))) := by
  unfold gPat okL
  by_cases h : (pieces 47 s).length ≤ 6
  · right
    cases ha : (pieces 47 s).any (fun x => !lvlOK x)
    · right; exact ⟨h, rfl, by simp [h]⟩
    · left; exact ⟨h, rfl, by simp⟩
  · left; exact ⟨by omega, by simp [h]⟩
theorem dropLast_take {α : Type} (xs : List α) : xs.dropLast = xs.take (xs.length - 1) := List.dropLast_eq_take

set_option maxHeartbeats 2000000 in
theorem levels_yes (s : ByteArray) (w : World) (m : Int) (hs : s.size ≤ 1048576) (hm : w.cell? ⟨0, 0, none⟩ = some (.int .i64 m)) (hg : gPat s = true) : Calls Tryd.prog 44 #[.string s] w (LevOf s w) := by
  have HSP := Lib.hid (fun (wx : World) (mx : Int) (h : wx.cell? ⟨0, 0, none⟩ = some (.int .i64 mx)) => Tryd.strings_Split s { data := #[47] } mx wx (by omega) h (by decide))
  have hn := pieces_le 47 s
  have hn1 : 1 ≤ (pieces 47 s).length := by have := pieces_ne 47 s; rcases hp : pieces 47 s with _ | ⟨x, r⟩; · exact absurd hp this
                                            · simp
  have H63 : Hid (∀ x ∈ pieces 47 s, x.size ≤ 9223372036854775807) := Lib.hid fun x hx => by have := pieces_size 47 s x hx; omega
  have HAL := Lib.hid (rw_alloc w (pieces 47 s) 9)
  rw [splitB_pieces] at HSP
  rw [countB_pieces] at HSP
  have HCM := Lib.hid (fun n => contains_more ((pieces 47 s).take n))
  have HDL := Lib.hid (dropLast_take (pieces 47 s))
  have HCE : Hid (∀ j, j < (pieces 47 s).length → (w.alloc (.cells ((pieces 47 s).map Value.string).toArray 9)).cell? ⟨w.heap.size, 0 + j, none⟩ = some (.string ((pieces 47 s).getD j ByteArray.empty))) := Lib.hid fun j hj => by
    rcases HAL.out with h | ⟨b, off, ha, _, hc⟩
    · have := congrArg List.length h; simp at this; rw [this] at hj; simp at hj
    · simp only [Option.some.injEq, Addr.mk.injEq, and_true] at ha
      obtain ⟨rfl, rfl⟩ := ha
      exact hc j _ (by simp [strs, hj])
  rcases gPat_cases s with ⟨h6, h⟩ | ⟨h6, h7, h⟩ | ⟨h6, h7, h⟩
  · rw [hg] at h; cases h
  · rw [hg] at h; cases h
  have h8 : (pieces 47 s).dropLast.any (fun x => decide (x = more)) = false := by rw [hg] at h; simpa using h.symm
  have HC1 := Lib.hid (fun (wx : World) (b off cap : Nat) (hrow : Rw wx (some ⟨b, off, none⟩) (strs (pieces 47 s))) => has_lev (some ⟨b, off, none⟩) cap (pieces 47 s) wx hrow (by omega) H63.out)
  rw [h7] at HC1
  rw [HDL.out, ← HCM.out] at h8
  have HC2 := Lib.hid (fun (wx : World) (b off cap : Nat) (hc : ∀ j, j < (pieces 47 s).length → wx.cell? ⟨b, off + j, none⟩ = some (.string ((pieces 47 s).getD j ByteArray.empty))) => Tryd.slices_Contains_string b off ((pieces 47 s).length - 1) cap (pieces 47 s) { data := #[35] } wx (by omega) (by omega) hc)
  rw [h8] at HC2
  clear h h7 h8 hg HDL HCM H63
  unfold LevOf
  generalize pieces 47 s = xs at *
  have hi1 : ((xs.length : Int) - 1).toNat = xs.length - 1 := by omega
  have hi2 : (0 : Int) ≤ (xs.length : Int) - 1 := by omega
  go_enter Tryd.func44, Tryd.ntmps44
  go_wp2_with fail
  refine (HSP.out _ m hm).mono ?_
  rintro e w1 ⟨rfl, rfl⟩
  go_wp2_with (go_at_call 59; refine (HC1.out _ _ _ _ HAL.out).mono ?_; rintro e w' ⟨rfl, rfl⟩)
  all_goals try (go_at_call 75; refine (HC2.out _ _ _ _ HCE.out).mono ?_; rintro e w' ⟨rfl, rfl⟩; go_wp2_with fail)
  all_goals (go_ret; exact ⟨w.heap.size, xs.length, rfl, HAL.out, (Below.refl _ _).alloc (Nat.le_refl _) _⟩)
set_option maxHeartbeats 2000000 in
theorem levels_no (s : ByteArray) (w : World) (m : Int) (hs : s.size ≤ 1048576) (hm : w.cell? ⟨0, 0, none⟩ = some (.int .i64 m)) (hg : gPat s = false) : Calls Tryd.prog 44 #[.string s] w fun e w' => e = .returned (.slice none 0 0) ∧ Below w.heap.size w w' := by
  have HSP := Lib.hid (fun (wx : World) (mx : Int) (h : wx.cell? ⟨0, 0, none⟩ = some (.int .i64 mx)) => Tryd.strings_Split s { data := #[47] } mx wx (by omega) h (by decide))
  have hn := pieces_le 47 s
  have hn1 : 1 ≤ (pieces 47 s).length := by have := pieces_ne 47 s; rcases hp : pieces 47 s with _ | ⟨x, r⟩; · exact absurd hp this
                                            · simp
  have H63 : Hid (∀ x ∈ pieces 47 s, x.size ≤ 9223372036854775807) := Lib.hid fun x hx => by have := pieces_size 47 s x hx; omega
  have HAL := Lib.hid (rw_alloc w (pieces 47 s) 9)
  rw [splitB_pieces] at HSP
  rw [countB_pieces] at HSP
  have HCM := Lib.hid (fun n => contains_more ((pieces 47 s).take n))
  have HDL := Lib.hid (dropLast_take (pieces 47 s))
  have HCE : Hid (∀ j, j < (pieces 47 s).length → (w.alloc (.cells ((pieces 47 s).map Value.string).toArray 9)).cell? ⟨w.heap.size, 0 + j, none⟩ = some (.string ((pieces 47 s).getD j ByteArray.empty))) := Lib.hid fun j hj => by
    rcases HAL.out with h | ⟨b, off, ha, _, hc⟩
    · have := congrArg List.length h; simp at this; rw [this] at hj; simp at hj
    · simp only [Option.some.injEq, Addr.mk.injEq, and_true] at ha
      obtain ⟨rfl, rfl⟩ := ha
      exact hc j _ (by simp [strs, hj])
  rcases gPat_cases s with ⟨h6, h⟩ | ⟨h6, h7, h⟩ | ⟨h6, h7, h⟩
  · clear h hg HDL HCM H63
    generalize pieces 47 s = xs at *
    have hi1 : ((xs.length : Int) - 1).toNat = xs.length - 1 := by omega
    have hi2 : (0 : Int) ≤ (xs.length : Int) - 1 := by omega
    go_enter Tryd.func44, Tryd.ntmps44
    go_wp2_with fail
    refine (HSP.out _ m hm).mono ?_
    rintro e w1 ⟨rfl, rfl⟩
    go_wp2_with fail
    go_ret
    exact ⟨rfl, (Below.refl _ _).alloc (Nat.le_refl _) _⟩
  · clear hg h
    have HC1 := Lib.hid (fun (wx : World) (b off cap : Nat) (hrow : Rw wx (some ⟨b, off, none⟩) (strs (pieces 47 s))) => has_lev (some ⟨b, off, none⟩) cap (pieces 47 s) wx hrow (by omega) H63.out)
    rw [h7] at HC1
    clear h7 HDL HCM H63
    generalize pieces 47 s = xs at *
    have hi1 : ((xs.length : Int) - 1).toNat = xs.length - 1 := by omega
    have hi2 : (0 : Int) ≤ (xs.length : Int) - 1 := by omega
    go_enter Tryd.func44, Tryd.ntmps44
    go_wp2_with fail
    refine (HSP.out _ m hm).mono ?_
    rintro e w1 ⟨rfl, rfl⟩
    go_wp2_with (go_at_call 59; refine (HC1.out _ _ _ _ HAL.out).mono ?_; rintro e w' ⟨rfl, rfl⟩)
    go_ret
    exact ⟨rfl, (Below.refl _ _).alloc (Nat.le_refl _) _⟩
  · have h8 : (pieces 47 s).dropLast.any (fun x => decide (x = more)) = true := by rw [hg] at h; simpa using h.symm
    have HC1 := Lib.hid (fun (wx : World) (b off cap : Nat) (hrow : Rw wx (some ⟨b, off, none⟩) (strs (pieces 47 s))) => has_lev (some ⟨b, off, none⟩) cap (pieces 47 s) wx hrow (by omega) H63.out)
    rw [h7] at HC1
    rw [HDL.out, ← HCM.out] at h8
    have HC2 := Lib.hid (fun (wx : World) (b off cap : Nat) (hc : ∀ j, j < (pieces 47 s).length → wx.cell? ⟨b, off + j, none⟩ = some (.string ((pieces 47 s).getD j ByteArray.empty))) => Tryd.slices_Contains_string b off ((pieces 47 s).length - 1) cap (pieces 47 s) { data := #[35] } wx (by omega) (by omega) hc)
    rw [h8] at HC2
    clear h h7 h8 hg HDL HCM H63
    generalize pieces 47 s = xs at *
    have hi1 : ((xs.length : Int) - 1).toNat = xs.length - 1 := by omega
    have hi2 : (0 : Int) ≤ (xs.length : Int) - 1 := by omega
    go_enter Tryd.func44, Tryd.ntmps44
    go_wp2_with fail
    refine (HSP.out _ m hm).mono ?_
    rintro e w1 ⟨rfl, rfl⟩
    go_wp2_with (go_at_call 59; refine (HC1.out _ _ _ _ HAL.out).mono ?_; rintro e w' ⟨rfl, rfl⟩)
    all_goals try (go_at_call 75; refine (HC2.out _ _ _ _ HCE.out).mono ?_; rintro e w' ⟨rfl, rfl⟩; go_wp2_with fail)
    all_goals (go_ret; exact ⟨rfl, (Below.refl _ _).alloc (Nat.le_refl _) _⟩)

end Go.Proofs.YteknmjebokimjaaDoor
