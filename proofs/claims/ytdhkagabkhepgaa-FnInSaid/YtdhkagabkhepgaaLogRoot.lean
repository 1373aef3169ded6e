/- The contracts over whole logs: whether one is good, and its root. -/
import Derived.Test.YtdhkagabkhepgaaLog
import Derived.Test.YtdhkagabkhepgaaStrs
namespace Go.Proofs.Ytdhkagabkhepgaa
set_option linter.unusedVariables false
open Go.ChangeShapes Go.WideShapes Go.ChangeAt Go.RowKit

def longS (s : ByteArray) : Bool := decide (20 < s.size)
def logB (ss : List ByteArray) : Bool := decide (ss.length ≤ 40) && !(ss.any longS)

theorem logOK1_any (s : ByteArray) (w : World) (hs : s.size ≤ 9223372036854775807) : Calls Try.prog 82 #[.string s] w fun e w' => e = .returned (.bool (longS s)) ∧ w = w' := by
  by_cases h : 20 < s.size
  · have H : Hid (longS s = true) := by show longS s = true; unfold longS; simp [h]
    go_enter Try.func82, Try.ntmps82
    go_wp2
    go_ret
    exact ⟨ret_bool (by rw [H.out]; try (simp; try omega)), rfl⟩
  · have H : Hid (longS s = false) := by show longS s = false; unfold longS; simp [h]
    go_enter Try.func82, Try.ntmps82
    go_wp2
    go_ret
    exact ⟨ret_bool (by rw [H.out]; try (simp; try omega)), rfl⟩
set_option maxHeartbeats 400000 in
theorem idx_long (a : Option Addr) (cap : Nat) (xs : List ByteArray) (w : World) (hrow : Rw w a (xs.map Value.string)) (hn : xs.length ≤ 9223372036854775807) (hx : ∀ x ∈ xs, (fun s : ByteArray => s.size ≤ 9223372036854775807) x) :
    Calls Try.prog 88 #[.slice a xs.length cap, .func (.func 82) #[] #[]] w fun e w' => e = .returned (.int .i64 (fidx longS xs)) ∧ w = w' := by
  go_enter Try.func88, Try.ntmps88
  go_wp2
  go_loop [8] (fun i => ∃ k : Nat, k ≤ xs.length ∧ i = .int .i64 k ∧ Hid ((xs.take k).any longS = false)) (fun i => xs.length - (intOf i).toNat)
  case atStart => exact ⟨0, Nat.zero_le _, rfl, rfl⟩
  case round =>
    obtain ⟨k, hk, rfl, HA⟩ := hrel
    by_cases hlk : k < xs.length
    · obtain ⟨b, off, rfl, hbl, hc⟩ := hrow.at (by intro h; have := congrArg List.length h; simp at this; rw [this] at hlk; simp at hlk)
      have hc1 : w.cell? ⟨b, off + k, none⟩ = some (Value.string (xs.getD k ByteArray.empty)) := hc k _ (by simp [hlk])
      have hs := hx (xs.getD k ByteArray.empty) (by simp [List.getD, hlk])
      have hyes : longS (xs.getD k ByteArray.empty) = true → fidx longS xs = k := fidx_here longS xs ByteArray.empty k hlk HA.out
      have hno : longS (xs.getD k ByteArray.empty) = false → (xs.take (k + 1)).any longS = false := fidx_next longS xs ByteArray.empty k hlk HA.out
      have HY := Lib.hid hyes; have HN := Lib.hid hno; have HX := Lib.hid hs
      clear hc hrow hx hyes hno hs
      generalize xs.getD k ByteArray.empty = s at *
      by_cases hp : longS s = true
      · have HP := Lib.hid hp
        go_wp2_with (go_at_call 82; refine (logOK1_any _ _ HX.out).mono ?_; rintro e w' ⟨rfl, rfl⟩)
        go_ret
        exact ⟨ret_int (HY.out HP.out).symm, rfl⟩
      · have hp' : longS s = false := by simpa using hp
        clear hp
        have HP := Lib.hid hp'
        go_wp2_with (go_at_call 82; refine (logOK1_any _ _ HX.out).mono ?_; rintro e w' ⟨rfl, rfl⟩)
        go_round
        case rel => exact ⟨k + 1, by omega, by go_num, HN.out HP.out⟩
        case measure => simp [intOf]; omega
    · go_wp2
      go_ret
      obtain rfl : k = xs.length := by omega
      have h1 := HA.out
      rw [List.take_length] at h1
      exact ⟨ret_int (fidx_none longS xs h1).symm, rfl⟩

set_option maxHeartbeats 400000 in
theorem any_long (a : Option Addr) (cap : Nat) (xs : List ByteArray) (w : World) (hrow : Rw w a (xs.map Value.string)) (hn : xs.length ≤ 9223372036854775807) (hx : ∀ x ∈ xs, (fun s : ByteArray => s.size ≤ 9223372036854775807) x) :
    Calls Try.prog 81 #[.slice a xs.length cap, .func (.func 82) #[] #[]] w fun e w' => e = .returned (.bool (xs.any longS)) ∧ w = w' := by
  by_cases h : 0 ≤ fidx longS xs
  · have H := Lib.hid ((fidx_any longS xs).1 h)
    go_enter Try.func81, Try.ntmps81
    go_wp2_with (go_at_call 88; refine (idx_long a cap xs _ hrow hn hx).mono ?_; rintro e w' ⟨rfl, rfl⟩)
    go_ret
    exact ⟨ret_bool (by rw [H.out]; try (simp; try omega)), rfl⟩
  · have H := Lib.hid (Bool.eq_false_iff.2 fun hc => h ((fidx_any longS xs).2 hc))
    go_enter Try.func81, Try.ntmps81
    go_wp2_with (go_at_call 88; refine (idx_long a cap xs _ hrow hn hx).mono ?_; rintro e w' ⟨rfl, rfl⟩)
    go_ret
    exact ⟨ret_bool (by rw [H.out]; try (simp; try omega)), rfl⟩

set_option maxHeartbeats 400000 in
theorem logOK_any (a : Option Addr) (cap : Nat) (ss : List ByteArray) (w : World) (hrow : Rw w a (strs ss)) (hn : ss.length ≤ 1048576) (hsz : ∀ s ∈ ss, s.size ≤ 9223372036854775807) :
    Calls Try.prog 57 #[.slice a ss.length cap] w fun e w' => e = .returned (.bool (logB ss)) ∧ w = w' := by
  by_cases h : ss.length ≤ 40
  · have H : Hid (logB ss = !(ss.any longS)) := by show logB ss = _; unfold logB; simp [h]
    go_enter Try.func57, Try.ntmps57
    go_wp2_with (go_at_call 81; refine (any_long a cap ss _ hrow (by omega) hsz).mono ?_; rintro e w' ⟨rfl, rfl⟩)
    go_ret
    exact ⟨ret_bool (by rw [H.out]; try (simp; try omega)), rfl⟩
  · have H : Hid (logB ss = false) := by show logB ss = _; unfold logB; simp [h]
    go_enter Try.func57, Try.ntmps57
    go_wp2_with fail
    go_ret
    exact ⟨ret_bool (by rw [H.out]; try (simp; try omega)), rfl⟩

set_option maxHeartbeats 400000 in
theorem l13Log_any (a : Option Addr) (cap : Nat) (ss : List ByteArray) (w : World) (hrow : Rw w a (strs ss)) (hn : ss.length ≤ 1048576) (hsz : ∀ s ∈ ss, s.size ≤ 9223372036854775807) :
    Calls Try.prog 55 #[.slice a ss.length cap] w fun e w' => e = .returned (.bool (logB ss)) ∧ w = w' := by
  go_enter Try.func55, Try.ntmps55
  go_wp2_with fail
  go_loop [4, 7] (fun _ i => ∃ k : Nat, k ≤ ss.length ∧ i = .int .i64 k ∧ Hid ((ss.take k).any longS = false)) (fun _ i => ss.length - (intOf i).toNat)
  case atStart => exact ⟨0, Nat.zero_le _, rfl, rfl⟩
  case round =>
    obtain ⟨k, hk, rfl, HA⟩ := hrel
    by_cases hlk : k < ss.length
    · obtain ⟨b, off, rfl, hbl, hc⟩ := hrow.at (strs_ne hlk)
      have hc1 : w.cell? ⟨b, off + k, none⟩ = some (.string (ss.getD k ByteArray.empty)) := hc k _ (strs_at ss k hlk)
      have hs := hsz (ss.getD k ByteArray.empty) (by simp [List.getD, hlk])
      have hyes : 20 < (ss.getD k ByteArray.empty).size → logB ss = false := fun h => by
        unfold logB
        have : ss.any longS = true := List.any_eq_true.2 ⟨ss.getD k ByteArray.empty, by simp [List.getD, hlk], by unfold longS; simpa using h⟩
        simp [this]
      have hno : ¬ 20 < (ss.getD k ByteArray.empty).size → (ss.take (k + 1)).any longS = false := fun h => fidx_next longS ss ByteArray.empty k hlk HA.out (by unfold longS; simpa using h)
      have HY := Lib.hid hyes; have HN := Lib.hid hno
      clear hc hrow hsz hyes hno
      generalize ss.getD k ByteArray.empty = s at *
      by_cases hp : 20 < s.size
      · go_wp2
        go_ret
        exact ⟨ret_bool (HY.out hp).symm, rfl⟩
      · go_wp2
        go_round
        case rel => exact ⟨k + 1, by omega, by go_num, HN.out (by omega)⟩
        case measure => simp [intOf]; omega
    · obtain rfl : k = ss.length := by omega
      have h1 := HA.out
      rw [List.take_length] at h1
      have H : Hid (logB ss = decide (ss.length ≤ 40)) := by show logB ss = _; unfold logB; simp [h1]
      clear h1 HA
      by_cases h : ss.length ≤ 40
      · go_wp2
        go_ret
        exact ⟨ret_bool (by rw [H.out]; try (simp; try omega)), rfl⟩
      · go_wp2
        go_ret
        exact ⟨ret_bool (by rw [H.out]; try (simp; try omega)), rfl⟩

set_option maxHeartbeats 1000000 in
theorem impl_root (m : Nat) : ∀ (a : Option Addr) (cap : Nat) (n : Nat) (ss : List ByteArray) (w : World), ss.length = n → n ≤ m → Rw w a (strs ss) → n ≤ cap → cap ≤ 9223372036854775807 → n ≤ 1048576 → (∀ s ∈ ss, s.size ≤ 9223372036854775807) →
    Calls Try.prog 58 #[.slice a n cap] w fun e w' => e = .returned (.int .i64 (rootL ss)) ∧ Drawn w w' := by
  induction m with
  | zero =>
    intro a cap n ss w hl hm hrow hcap hcm hn hsz
    obtain rfl : n = 0 := by omega
    have H := Lib.hid (rootL_nil ss hl)
    clear hl
    go_enter Try.func58, Try.ntmps58
    go_wp2_with fail
    go_ret
    exact ⟨ret_int H.out.symm, Drawn.refl _⟩
  | succ m ih =>
    intro a cap n ss w hl hm hrow hcap hcm hn hsz
    by_cases h0 : n = 0
    · subst h0
      have H := Lib.hid (rootL_nil ss hl)
      clear hl
      go_enter Try.func58, Try.ntmps58
      go_wp2_with fail
      go_ret
      exact ⟨ret_int H.out.symm, Drawn.refl _⟩
    by_cases h1 : n = 1
    · subst h1
      have H := Lib.hid (rootL_one ss hl)
      obtain ⟨b, off, rfl, hbl, hc⟩ := hrow.at (strs_ne (k := 0) (by omega))
      have hc1 : w.cell? ⟨b, off, none⟩ = some (.string (ss.getD 0 ByteArray.empty)) := hc 0 _ (strs_at ss 0 (by omega))
      have hs := hsz (ss.getD 0 ByteArray.empty) (by simp [List.getD, hl])
      clear hc hrow hsz ih h0 hl
      generalize ss.getD 0 ByteArray.empty = s at *
      go_enter Try.func58, Try.ntmps58
      go_wp2_with (go_at_call 14; refine (impl_leaf _ _ hs).mono ?_; rintro e w' ⟨rfl, rfl⟩)
      go_ret
      exact ⟨ret_int H.out.symm, Drawn.refl _⟩
    have h2 : 2 ≤ n := by omega
    subst hl
    have H := Lib.hid (rootL_two ss h2)
    have k1 := splitN_pos ss.length
    have k2 := splitN_lt ss.length h2
    obtain ⟨b, off, rfl, hbl, hc⟩ := hrow.at (strs_ne (k := 0) (by omega))
    clear hc
    have hs := impl_split ss.length w (by omega)
    generalize hk : splitN ss.length = k at *
    clear hk
    have H1 := Lib.hid (fun (wx : World) (hw : Rw wx (some ⟨b, off, none⟩) (strs ss)) => ih (some ⟨b, off, none⟩) cap k (ss.take k) wx (by rw [List.length_take]; omega) (by omega) (by have := hw.take k; rwa [strs, ← List.map_take] at this) (by omega) hcm (by omega) (fun s hs => hsz s (List.mem_of_mem_take hs)))
    have H2 := Lib.hid (fun (wx : World) (hw : Rw wx (some ⟨b, off, none⟩) (strs ss)) => ih (some ⟨b, off + k, none⟩) (cap - k) (ss.length - k) (ss.drop k) wx (by rw [List.length_drop]) (by omega) (by have := hw.drop k; rwa [strs, ← List.map_drop] at this) (by omega) (by omega) (by omega) (fun s hs => hsz s (List.mem_of_mem_drop hs)))
    have HS := Lib.hid hs
    have HR := Lib.hid hrow
    have b1 := rootL_bd (ss.take k)
    have b2 := rootL_bd (ss.drop k)
    have hk1 : k ≤ cap := by omega
    have hne0 : ((ss.length : Int) == 0) = false := beq_eq_false_iff_ne.2 (by omega)
    have hne1 : ((ss.length : Int) == 1) = false := beq_eq_false_iff_ne.2 (by omega)
    clear ih hsz hrow hs h0 h1
    go_enter Try.func58, Try.ntmps58
    go_wp2_with (go_at_call 54; refine HS.out.mono ?_; rintro e w' ⟨rfl, rfl⟩)
    go_quiet ((first | (go_at_call 58; (first | (with_reducible exact quiet_drawn (H1.out _ (HR.out.drewN _))) | (with_reducible exact quiet_drawn (H2.out _ (HR.out.drewN _))))) | (go_at_call 50; exact quiet_same (impl_node _ _ _ b1 b2))))
    go_wp2
    go_ret
    exact ⟨ret_int H.out.symm, ⟨_, rfl⟩⟩
set_option maxHeartbeats 1000000 in
theorem spec_root (m : Nat) : ∀ (a : Option Addr) (cap : Nat) (n : Nat) (ss : List ByteArray) (w : World), ss.length = n → n ≤ m → Rw w a (strs ss) → n ≤ cap → cap ≤ 9223372036854775807 → n ≤ 1048576 → (∀ s ∈ ss, s.size ≤ 9223372036854775807) →
    Calls Try.prog 56 #[.slice a n cap] w fun e w' => e = .returned (.int .i64 (rootL ss)) ∧ Drawn w w' := by
  induction m with
  | zero =>
    intro a cap n ss w hl hm hrow hcap hcm hn hsz
    obtain rfl : n = 0 := by omega
    have H := Lib.hid (rootL_nil ss hl)
    clear hl
    go_enter Try.func56, Try.ntmps56
    go_wp2_with fail
    go_ret
    exact ⟨ret_int H.out.symm, Drawn.refl _⟩
  | succ m ih =>
    intro a cap n ss w hl hm hrow hcap hcm hn hsz
    by_cases h0 : n = 0
    · subst h0
      have H := Lib.hid (rootL_nil ss hl)
      clear hl
      go_enter Try.func56, Try.ntmps56
      go_wp2_with fail
      go_ret
      exact ⟨ret_int H.out.symm, Drawn.refl _⟩
    by_cases h1 : n = 1
    · subst h1
      have H := Lib.hid (rootL_one ss hl)
      obtain ⟨b, off, rfl, hbl, hc⟩ := hrow.at (strs_ne (k := 0) (by omega))
      have hc1 : w.cell? ⟨b, off, none⟩ = some (.string (ss.getD 0 ByteArray.empty)) := hc 0 _ (strs_at ss 0 (by omega))
      have hs := hsz (ss.getD 0 ByteArray.empty) (by simp [List.getD, hl])
      clear hc hrow hsz ih h0 hl
      generalize ss.getD 0 ByteArray.empty = s at *
      go_enter Try.func56, Try.ntmps56
      go_wp2_with (go_at_call 13; refine (spec_leaf _ _ hs).mono ?_; rintro e w' ⟨rfl, rfl⟩)
      go_ret
      exact ⟨ret_int H.out.symm, Drawn.refl _⟩
    have h2 : 2 ≤ n := by omega
    subst hl
    have H := Lib.hid (rootL_two ss h2)
    have k1 := splitN_pos ss.length
    have k2 := splitN_lt ss.length h2
    obtain ⟨b, off, rfl, hbl, hc⟩ := hrow.at (strs_ne (k := 0) (by omega))
    clear hc
    have hs := spec_split ss.length w (by omega)
    generalize hk : splitN ss.length = k at *
    clear hk
    have H1 := Lib.hid (fun (wx : World) (hw : Rw wx (some ⟨b, off, none⟩) (strs ss)) => ih (some ⟨b, off, none⟩) cap k (ss.take k) wx (by rw [List.length_take]; omega) (by omega) (by have := hw.take k; rwa [strs, ← List.map_take] at this) (by omega) hcm (by omega) (fun s hs => hsz s (List.mem_of_mem_take hs)))
    have H2 := Lib.hid (fun (wx : World) (hw : Rw wx (some ⟨b, off, none⟩) (strs ss)) => ih (some ⟨b, off + k, none⟩) (cap - k) (ss.length - k) (ss.drop k) wx (by rw [List.length_drop]) (by omega) (by have := hw.drop k; rwa [strs, ← List.map_drop] at this) (by omega) (by omega) (by omega) (fun s hs => hsz s (List.mem_of_mem_drop hs)))
    have HS := Lib.hid hs
    have HR := Lib.hid hrow
    have b1 := rootL_bd (ss.take k)
    have b2 := rootL_bd (ss.drop k)
    have hk1 : k ≤ cap := by omega
    have hne0 : ((ss.length : Int) == 0) = false := beq_eq_false_iff_ne.2 (by omega)
    have hne1 : ((ss.length : Int) == 1) = false := beq_eq_false_iff_ne.2 (by omega)
    clear ih hsz hrow hs h0 h1
    go_enter Try.func56, Try.ntmps56
    go_wp2_with (go_at_call 52; refine HS.out.mono ?_; rintro e w' ⟨rfl, rfl⟩)
    go_quiet ((first | (go_at_call 56; (first | (with_reducible exact quiet_drawn (H1.out _ (HR.out.drewN _))) | (with_reducible exact quiet_drawn (H2.out _ (HR.out.drewN _))))) | (go_at_call 48; exact quiet_same (spec_node _ _ _ b1 b2))))
    go_wp2
    go_ret
    exact ⟨ret_int H.out.symm, ⟨_, rfl⟩⟩
def RootOfR (ss : List ByteArray) : Int × Bool := if logB ss then (rootL ss, true) else (0, false)
theorem logB_len {ss : List ByteArray} (h : logB ss = true) : ss.length ≤ 40 := by unfold logB at h; simp at h; exact h.1
set_option maxHeartbeats 400000 in
theorem spec_rootOf (a : Option Addr) (cap : Nat) (ss : List ByteArray) (w : World) (hrow : Rw w a (strs ss)) (hc1 : ss.length ≤ cap) (hc2 : cap ≤ 9223372036854775807) (hn : ss.length ≤ 1048576) (hsz : ∀ s ∈ ss, s.size ≤ 9223372036854775807) :
    Calls Try.prog 20 #[.slice a ss.length cap] w fun e w' => e = .returned (.tuple #[.int .i64 (RootOfR ss).1, .bool (RootOfR ss).2]) ∧ Drawn w w' := by
  have hl := l13Log_any a cap ss w hrow hn hsz
  by_cases hb : logB ss = true
  · have hf : RootOfR ss = (rootL ss, true) := by unfold RootOfR; rw [hb]; rfl
    rw [hf]
    rw [hb] at hl
    have HL := Lib.hid hl
    have HR := Lib.hid (spec_root ss.length a cap ss.length ss w rfl (Nat.le_refl _) hrow hc1 hc2 hn hsz)
    clear hf hl hb hrow hsz
    go_enter Try.func20, Try.ntmps20
    go_wp2_with (first | (go_at_call 55; refine HL.out.mono ?_; rintro e w' ⟨rfl, rfl⟩) | (go_at_call 56; refine HR.out.mono ?_; rintro e w' ⟨rfl, n, rfl⟩))
    go_ret2
    exact ⟨rfl, _, rfl⟩
  · have hb' : logB ss = false := by simpa using hb
    have hf : RootOfR ss = (0, false) := by unfold RootOfR; rw [hb']; rfl
    rw [hf]
    rw [hb'] at hl
    have HL := Lib.hid hl
    clear hf hl hb hb' hrow hsz
    go_enter Try.func20, Try.ntmps20
    go_wp2_with (go_at_call 55; refine HL.out.mono ?_; rintro e w' ⟨rfl, rfl⟩)
    go_ret2
    exact ⟨rfl, 0, rfl⟩
set_option maxHeartbeats 400000 in
theorem impl_rootOf (a : Option Addr) (cap : Nat) (ss : List ByteArray) (w : World) (hrow : Rw w a (strs ss)) (hc1 : ss.length ≤ cap) (hc2 : cap ≤ 9223372036854775807) (hn : ss.length ≤ 1048576) (hsz : ∀ s ∈ ss, s.size ≤ 9223372036854775807) :
    Calls Try.prog 22 #[.slice a ss.length cap] w fun e w' => e = .returned (.tuple #[.int .i64 (RootOfR ss).1, .bool (RootOfR ss).2]) ∧ Drawn w w' := by
  have hl := logOK_any a cap ss w hrow hn hsz
  by_cases hb : logB ss = true
  · have hf : RootOfR ss = (rootL ss, true) := by unfold RootOfR; rw [hb]; rfl
    rw [hf]
    rw [hb] at hl
    have HL := Lib.hid hl
    have HR := Lib.hid (impl_root ss.length a cap ss.length ss w rfl (Nat.le_refl _) hrow hc1 hc2 hn hsz)
    clear hf hl hb hrow hsz
    go_enter Try.func22, Try.ntmps22
    go_wp2_with (first | (go_at_call 57; refine HL.out.mono ?_; rintro e w' ⟨rfl, rfl⟩) | (go_at_call 58; refine HR.out.mono ?_; rintro e w' ⟨rfl, n, rfl⟩))
    go_ret2
    exact ⟨rfl, _, rfl⟩
  · have hb' : logB ss = false := by simpa using hb
    have hf : RootOfR ss = (0, false) := by unfold RootOfR; rw [hb']; rfl
    rw [hf]
    rw [hb'] at hl
    have HL := Lib.hid hl
    clear hf hl hb hb' hrow hsz
    go_enter Try.func22, Try.ntmps22
    go_wp2_with (go_at_call 57; refine HL.out.mono ?_; rintro e w' ⟨rfl, rfl⟩)
    go_ret2
    exact ⟨rfl, 0, rfl⟩
end Go.Proofs.Ytdhkagabkhepgaa
