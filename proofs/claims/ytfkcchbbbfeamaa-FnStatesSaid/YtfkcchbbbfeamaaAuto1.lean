/- The contracts of the reference's words on beginnings of words, and of the program's: whether words are good, what begins a word, the longest ending, the texts, the place of a text. -/
import Derived.Test.YtfkcchbbbfeamaaMapS
import Derived.Test.YtfkcchbbbfeamaaStrs
import Derived.Test.YtfkcchbbbfeamaaRanges
namespace Go.Proofs.Ytfkcchbbbfeamaa
set_option linter.unusedVariables false
open Go.ChangeShapes Go.WideShapes Go.ChangeAt Go.RowKit
set_option maxRecDepth 100000

theorem eqT (x y : ByteArray) : (x.toList == y.toList) = decide (x = y) := by
  rw [ByteArray.toList_eq, ByteArray.toList_eq, Bool.eq_iff_iff, beq_iff_eq, decide_eq_true_iff]
  exact ⟨fun h => bL_ext h, fun h => by rw [h]⟩
theorem eqE (x : ByteArray) : (x.toList == []) = decide (x.size = 0) := by
  rw [ByteArray.toList_eq, Bool.eq_iff_iff, beq_iff_eq, decide_eq_true_iff]
  exact bL_nil
theorem eqEm (x : ByteArray) : x.toList.isEmpty = decide (x.size = 0) := by rw [← eqE]; cases x.toList <;> rfl
def lenB (s : ByteArray) : Bool := !inB (s.size : Int) 1 20
theorem wordsB_any (ws : List ByteArray) : wordsB ws = (decide (ws.length ≤ 8) && !ws.any lenB) := by
  unfold wordsB
  congr 1
  induction ws with
  | nil => rfl
  | cons x r ih => simp [List.all_cons, List.any_cons, lenB, ih, Bool.not_or]
theorem wordsB_of {ws : List ByteArray} (h : wordsB ws = true) : ws.length ≤ 8 ∧ ∀ w ∈ ws, 1 ≤ w.size ∧ w.size ≤ 20 := by
  unfold wordsB at h
  rw [Bool.and_eq_true, decide_eq_true_eq, List.all_eq_true] at h
  exact ⟨h.1, fun w hw => by have := inB_of (h.2 w hw); omega⟩
set_option maxHeartbeats 400000 in
theorem wordsOK1_any (s : ByteArray) (w : World) (hs : s.size ≤ 9223372036854775807) : Calls Try.prog 75 #[.string s] w fun e w' => e = .returned (.bool (lenB s)) ∧ w = w' := by
  have HW := Lib.hid (within_any (s.size : Int) 1 20 w)
  unfold lenB
  generalize inB (s.size : Int) 1 20 = b at *
  go_enter Try.func75, Try.ntmps75
  go_wp2_with fail
  refine HW.out.mono ?_
  rintro e w' ⟨rfl, rfl⟩
  go_wp2_with fail
  go_ret
  exact ⟨rfl, rfl⟩
set_option maxHeartbeats 400000 in
theorem idx_words (a : Option Addr) (cap : Nat) (xs : List ByteArray) (w : World) (hrow : Rw w a (xs.map Value.string)) (hn : xs.length ≤ 9223372036854775807) (hx : ∀ x ∈ xs, (fun s : ByteArray => s.size ≤ 9223372036854775807) x) :
    Calls Try.prog 80 #[.slice a xs.length cap, .func (.func 75) #[] #[]] w fun e w' => e = .returned (.int .i64 (fidx lenB xs)) ∧ w = w' := by
  go_enter Try.func80, Try.ntmps80
  go_wp2
  go_loop [8] (fun i => ∃ k : Nat, k ≤ xs.length ∧ i = .int .i64 k ∧ Hid ((xs.take k).any lenB = false)) (fun i => xs.length - (intOf i).toNat)
  case atStart => exact ⟨0, Nat.zero_le _, rfl, rfl⟩
  case round =>
    obtain ⟨k, hk, rfl, HA⟩ := hrel
    by_cases hlk : k < xs.length
    · obtain ⟨b, off, rfl, hbl, hc⟩ := hrow.at (by intro h; have := congrArg List.length h; simp at this; rw [this] at hlk; simp at hlk)
      have hc1 : w.cell? ⟨b, off + k, none⟩ = some (Value.string (xs.getD k ByteArray.empty)) := hc k _ (by simp [hlk])
      have hs := hx (xs.getD k ByteArray.empty) (by simp [List.getD, hlk])
      have hyes : lenB (xs.getD k ByteArray.empty) = true → fidx lenB xs = k := fidx_here lenB xs ByteArray.empty k hlk HA.out
      have hno : lenB (xs.getD k ByteArray.empty) = false → (xs.take (k + 1)).any lenB = false := fidx_next lenB xs ByteArray.empty k hlk HA.out
      have HY := Lib.hid hyes; have HN := Lib.hid hno; have HX := Lib.hid hs
      clear hc hrow hx hyes hno hs
      generalize xs.getD k ByteArray.empty = s at *
      by_cases hp : lenB s = true
      · have HP := Lib.hid hp
        go_wp2_with (go_at_call 75; refine (wordsOK1_any _ _ HX.out).mono ?_; rintro e w' ⟨rfl, rfl⟩)
        go_ret
        exact ⟨ret_int (HY.out HP.out).symm, rfl⟩
      · have hp' : lenB s = false := by simpa using hp
        clear hp
        have HP := Lib.hid hp'
        go_wp2_with (go_at_call 75; refine (wordsOK1_any _ _ HX.out).mono ?_; rintro e w' ⟨rfl, rfl⟩)
        go_round
        case rel => exact ⟨k + 1, by omega, by go_num, HN.out HP.out⟩
        case measure => simp [intOf]; omega
    · go_wp2
      go_ret
      obtain rfl : k = xs.length := by omega
      have h1 := HA.out
      rw [List.take_length] at h1
      exact ⟨ret_int (fidx_none lenB xs h1).symm, rfl⟩

set_option maxHeartbeats 400000 in
theorem any_words (a : Option Addr) (cap : Nat) (xs : List ByteArray) (w : World) (hrow : Rw w a (xs.map Value.string)) (hn : xs.length ≤ 9223372036854775807) (hx : ∀ x ∈ xs, (fun s : ByteArray => s.size ≤ 9223372036854775807) x) :
    Calls Try.prog 74 #[.slice a xs.length cap, .func (.func 75) #[] #[]] w fun e w' => e = .returned (.bool (xs.any lenB)) ∧ w = w' := by
  by_cases h : 0 ≤ fidx lenB xs
  · have H := Lib.hid ((fidx_any lenB xs).1 h)
    go_enter Try.func74, Try.ntmps74
    go_wp2_with (go_at_call 80; refine (idx_words a cap xs _ hrow hn hx).mono ?_; rintro e w' ⟨rfl, rfl⟩)
    go_ret
    exact ⟨ret_bool (by rw [H.out]; try (simp; try omega)), rfl⟩
  · have H := Lib.hid (Bool.eq_false_iff.2 fun hc => h ((fidx_any lenB xs).2 hc))
    go_enter Try.func74, Try.ntmps74
    go_wp2_with (go_at_call 80; refine (idx_words a cap xs _ hrow hn hx).mono ?_; rintro e w' ⟨rfl, rfl⟩)
    go_ret
    exact ⟨ret_bool (by rw [H.out]; try (simp; try omega)), rfl⟩
set_option maxHeartbeats 400000 in
theorem wordsOK_any (a : Option Addr) (cap : Nat) (ws : List ByteArray) (w : World) (hrow : Rw w a (strs ws)) (hn : ws.length ≤ 9223372036854775807) (hsz : ∀ s ∈ ws, s.size ≤ 9223372036854775807) :
    Calls Try.prog 57 #[.slice a ws.length cap] w fun e w' => e = .returned (.bool (wordsB ws)) ∧ w = w' := by
  rw [wordsB_any]
  by_cases h : ws.length ≤ 8
  · have hd : decide (ws.length ≤ 8) = true := decide_eq_true h
    have HC := Lib.hid (any_words a cap ws w hrow hn hsz)
    rw [hd]
    have hI : (ws.length : Int) ≤ 8 := by omega
    generalize ws.any lenB = b at *
    go_enter Try.func57, Try.ntmps57
    go_wp2_with fail
    refine HC.out.mono ?_
    rintro e w' ⟨rfl, rfl⟩
    go_wp2_with fail
    go_ret
    exact ⟨rfl, rfl⟩
  · have hd : decide (ws.length ≤ 8) = false := decide_eq_false h
    rw [hd]
    go_enter Try.func57, Try.ntmps57
    go_wp2_with fail
    go_ret
    exact ⟨rfl, rfl⟩
theorem all_words {ws : List ByteArray} {k : Nat} (h : k < ws.length) (hb : lenB (ws.getD k ByteArray.empty) = true) : wordsB ws = false := by
  rw [wordsB_any]
  have : ws.any lenB = true := List.any_eq_true.2 ⟨_, by rw [List.getD, List.getElem?_eq_getElem h]; exact List.getElem_mem h, hb⟩
  rw [this]; simp
set_option maxHeartbeats 400000 in
theorem spec_words (a : Option Addr) (cap : Nat) (ws : List ByteArray) (w : World) (hrow : Rw w a (strs ws)) (hn : ws.length ≤ 9223372036854775807) (hsz : ∀ s ∈ ws, s.size ≤ 9223372036854775807) :
    Calls Try.prog 55 #[.slice a ws.length cap] w fun e w' => e = .returned (.bool (wordsB ws)) ∧ w = w' := by
  have HE : Hid ((ws.take ws.length).any lenB = false → wordsB ws = decide (ws.length ≤ 8)) := Lib.hid fun h => by rw [List.take_length] at h; rw [wordsB_any, h]; simp
  go_enter Try.func55, Try.ntmps55
  go_wp2_with fail
  go_loop [7] (fun i => ∃ k : Nat, k ≤ ws.length ∧ i = .int .i64 k ∧ Hid ((ws.take k).any lenB = false)) (fun i => ws.length - (intOf i).toNat)
  case atStart => exact ⟨0, Nat.zero_le _, rfl, rfl⟩
  case round =>
    obtain ⟨k, hk, rfl, HA⟩ := hrel
    by_cases hlk : k < ws.length
    · obtain ⟨b, off, rfl, hbl, hc⟩ := hrow.at (strs_ne hlk)
      have hc1 := hc k _ (strs_at ws k hlk)
      have hs := hsz (ws.getD k ByteArray.empty) (by simp [List.getD, hlk])
      have HY := Lib.hid (all_words (ws := ws) hlk)
      have HN := Lib.hid (fidx_next lenB ws ByteArray.empty k hlk HA.out)
      have HI := Lib.hid (fun wx => l1In_any ((ws.getD k ByteArray.empty).size : Int) 1 20 wx)
      clear hc hrow hsz
      generalize ws.getD k ByteArray.empty = s at *
      cases hp : inB (s.size : Int) 1 20 with
      | true =>
        rw [hp] at HI
        have HN2 := Lib.hid (HN.out (by unfold lenB; rw [hp]; rfl))
        go_wp2_with fail
        refine (HI.out _).mono ?_
        rintro e w' ⟨rfl, rfl⟩
        go_wp2_with fail
        go_round
        case rel => exact ⟨k + 1, by omega, by go_num, HN2.out⟩
        case measure => simp [intOf]; omega
      | false =>
        rw [hp] at HI
        have HY2 := Lib.hid (HY.out (by unfold lenB; rw [hp]; rfl))
        go_wp2_with fail
        refine (HI.out _).mono ?_
        rintro e w' ⟨rfl, rfl⟩
        go_wp2_with fail
        go_ret
        exact ⟨ret_bool HY2.out.symm, rfl⟩
    · obtain rfl : k = ws.length := by omega
      have HF := Lib.hid (HE.out HA.out)
      go_wp2_with fail
      go_ret
      exact ⟨ret_bool (by rw [HF.out, Bool.eq_iff_iff, decide_eq_true_iff, decide_eq_true_iff]; omega), rfl⟩
def bgn (s w : ByteArray) : Bool := decide (s.size ≤ w.size) && decide (w.extract 0 s.size = s)
theorem starts_def (ws : List ByteArray) (s : ByteArray) : startsB ws s = (decide (s.size = 0) || ws.any (bgn s)) := rfl
theorem starts_yes {ws : List ByteArray} {s : ByteArray} {k : Nat} (h : k < ws.length) (hb : bgn s (ws.getD k ByteArray.empty) = true) : startsB ws s = true := by
  rw [starts_def]
  have : ws.any (bgn s) = true := List.any_eq_true.2 ⟨_, by rw [List.getD, List.getElem?_eq_getElem h]; exact List.getElem_mem h, hb⟩
  rw [this]; simp
set_option maxHeartbeats 1000000 in
theorem spec_starts (a : Option Addr) (cap : Nat) (ws : List ByteArray) (s : ByteArray) (w : World) (hrow : Rw w a (strs ws)) (hn : ws.length ≤ 9223372036854775807) (hsz : ∀ s ∈ ws, s.size ≤ 9223372036854775807) (hs : s.size ≤ 9223372036854775807) :
    Calls Try.prog 73 #[.slice a ws.length cap, .string s] w fun e w' => e = .returned (.bool (startsB ws s)) ∧ w = w' := by
  have HE : Hid ((ws.take ws.length).any (bgn s) = false → startsB ws s = s.toList.isEmpty) := Lib.hid fun h => by rw [List.take_length] at h; rw [starts_def, h, eqEm]; simp
  go_enter Try.func73, Try.ntmps73
  go_wp2_with fail
  go_loop [9] (fun i => ∃ k : Nat, k ≤ ws.length ∧ i = .int .i64 k ∧ Hid ((ws.take k).any (bgn s) = false)) (fun i => ws.length - (intOf i).toNat)
  case atStart => exact ⟨0, Nat.zero_le _, rfl, rfl⟩
  case round =>
    obtain ⟨k, hk, rfl, HA⟩ := hrel
    by_cases hlk : k < ws.length
    · obtain ⟨b, off, rfl, hbl, hc⟩ := hrow.at (strs_ne hlk)
      have hc1 := hc k _ (strs_at ws k hlk)
      have hsk := hsz (ws.getD k ByteArray.empty) (by simp [List.getD, hlk])
      have HY := Lib.hid (starts_yes (ws := ws) (s := s) hlk)
      have HN := Lib.hid (fidx_next (bgn s) ws ByteArray.empty k hlk HA.out)
      clear hc hrow hsz
      generalize ws.getD k ByteArray.empty = v at *
      by_cases hl : s.size ≤ v.size
      · by_cases he : v.extract 0 s.size = s
        · have HY2 := Lib.hid (HY.out (by unfold bgn; rw [decide_eq_true hl, decide_eq_true he]; rfl))
          have hq : ((v.extract 0 s.size).toList == s.toList) = true := by rw [eqT]; exact decide_eq_true he
          have hl2 : (s.size : Int) ≤ (v.size : Int) := by omega
          clear HN he
          go_wp2_with fail
          go_ret
          exact ⟨ret_bool HY2.out.symm, rfl⟩
        · have HN2 := Lib.hid (HN.out (by unfold bgn; rw [decide_eq_false he]; simp))
          have hq : ((v.extract 0 s.size).toList == s.toList) = false := by rw [eqT]; exact decide_eq_false he
          have hl2 : (s.size : Int) ≤ (v.size : Int) := by omega
          clear HY he
          go_wp2_with fail
          go_round
          case rel => exact ⟨k + 1, by omega, by go_num, HN2.out⟩
          case measure => simp [intOf]; omega
      · have HN2 := Lib.hid (HN.out (by unfold bgn; rw [decide_eq_false hl]; rfl))
        clear HY
        go_wp2_with fail
        go_round
        case rel => exact ⟨k + 1, by omega, by go_num, HN2.out⟩
        case measure => simp [intOf]; omega
    · obtain rfl : k = ws.length := by omega
      have HF := Lib.hid (HE.out HA.out)
      go_wp2_with fail
      go_ret
      exact ⟨ret_bool HF.out.symm, rfl⟩
theorem long_step {p : ByteArray → Bool} {t : ByteArray} (h : p t = false) (hz : 0 < t.size) : longF p (t.extract 1 t.size).size (t.extract 1 t.size) = longF p t.size t := by
  rw [ex_size _ _ _ (Nat.le_refl _)]
  conv => rhs; rw [show t.size = (t.size - 1) + 1 by omega]; unfold longF
  rw [h]; rfl
theorem long_here {p : ByteArray → Bool} {t : ByteArray} (h : p t = true) : longF p t.size t = t := by
  unfold longF
  split
  · rfl
  · rw [if_pos h]
set_option maxHeartbeats 1000000 in
theorem spec_longest (a : Option Addr) (cap : Nat) (ws : List ByteArray) (s : ByteArray) (w : World) (hrow : Rw w a (strs ws)) (hn : ws.length ≤ 9223372036854775807) (hsz : ∀ s ∈ ws, s.size ≤ 9223372036854775807) (hs : s.size ≤ 9223372036854775807) :
    Calls Try.prog 56 #[.slice a ws.length cap, .string s] w fun e w' => e = .returned (.string (longR ws s)) ∧ w = w' := by
  have HS := Lib.hid (fun (t : ByteArray) (ht : t.size ≤ s.size) => spec_starts a cap ws t w hrow hn hsz (by omega))
  have HZ : Hid (∀ t : ByteArray, startsB ws t = false → 0 < t.size) := Lib.hid fun t ht => by
    rcases Nat.eq_zero_or_pos t.size with h | h
    · rw [starts_def, decide_eq_true h] at ht; cases ht
    · exact h
  unfold longR
  clear hrow hsz
  go_enter Try.func56, Try.ntmps56
  go_wp2_with fail
  go_loop [1] (fun sv => ∃ t : ByteArray, sv = .string t ∧ t.size ≤ s.size ∧ Hid (longF (startsB ws) t.size t = longF (startsB ws) s.size s)) (fun sv => match sv with | .string t => t.size | _ => 0)
  case atStart => exact ⟨s, rfl, Nat.le_refl _, rfl⟩
  case round =>
    obtain ⟨t, rfl, ht, HT⟩ := hrel
    have HC := Lib.hid (HS.out t ht)
    cases hb : startsB ws t with
    | true =>
      rw [hb] at HC
      have HL := Lib.hid ((long_here hb).symm.trans HT.out)
      clear hb
      go_wp2_with fail
      refine HC.out.mono ?_
      rintro e w' ⟨rfl, rfl⟩
      go_wp2_with fail
      go_ret
      exact ⟨congrArg (fun x => Ending.returned (.string x)) HL.out, rfl⟩
    | false =>
      rw [hb] at HC
      have hz := HZ.out t hb
      have HL := Lib.hid ((long_step hb hz).trans HT.out)
      have hz1 : (1 : Int) ≤ (t.size : Int) := by omega
      have hez := ex_size t 1 t.size (Nat.le_refl _)
      clear hb
      go_wp2_with fail
      refine HC.out.mono ?_
      rintro e w' ⟨rfl, rfl⟩
      go_wp2_with fail
      go_round
      case rel => exact ⟨t.extract 1 t.size, rfl, by omega, HL.out⟩
      case measure => show (t.extract 1 t.size).size < t.size; omega
set_option maxHeartbeats 1000000 in
theorem spec_at (a : Option Addr) (cap : Nat) (l : List ByteArray) (s : ByteArray) (w : World) (hrow : Rw w a (strs l)) (hn : l.length ≤ 9223372036854775807) :
    Calls Try.prog 61 #[.slice a l.length cap, .string s] w fun e w' => e = .returned (.int .i64 (atR l s)) ∧ w = w' := by
  have HE : Hid ((l.take l.length).any (fun x => decide (x = s)) = false → atR l s = -1) := Lib.hid fun h => by rw [List.take_length] at h; exact fidx_none _ _ h
  go_enter Try.func61, Try.ntmps61
  go_wp2_with fail
  go_loop [9] (fun i => ∃ k : Nat, k ≤ l.length ∧ i = .int .i64 k ∧ Hid ((l.take k).any (fun x => decide (x = s)) = false)) (fun i => l.length - (intOf i).toNat)
  case atStart => exact ⟨0, Nat.zero_le _, rfl, rfl⟩
  case round =>
    obtain ⟨k, hk, rfl, HA⟩ := hrel
    by_cases hlk : k < l.length
    · obtain ⟨b, off, rfl, hbl, hc⟩ := hrow.at (strs_ne hlk)
      have hc1 := hc k _ (strs_at l k hlk)
      have HY := Lib.hid (fidx_here (fun x => decide (x = s)) l ByteArray.empty k hlk HA.out)
      have HN := Lib.hid (fidx_next (fun x => decide (x = s)) l ByteArray.empty k hlk HA.out)
      clear hc hrow
      generalize l.getD k ByteArray.empty = v at *
      by_cases he : v = s
      · have HY2 := Lib.hid (HY.out (decide_eq_true he))
        have hq : (v.toList == s.toList) = true := by rw [eqT]; exact decide_eq_true he
        clear HN HY he
        go_wp2_with fail
        go_ret
        exact ⟨ret_int HY2.out.symm, rfl⟩
      · have HN2 := Lib.hid (HN.out (decide_eq_false he))
        have hq : (v.toList == s.toList) = false := by rw [eqT]; exact decide_eq_false he
        clear HY he
        go_wp2_with fail
        go_round
        case rel => exact ⟨k + 1, by omega, by go_num, HN2.out⟩
        case measure => simp [intOf]; omega
    · obtain rfl : k = l.length := by omega
      have HF := Lib.hid (HE.out HA.out)
      go_wp2_with fail
      go_ret
      exact ⟨ret_int HF.out.symm, rfl⟩
set_option maxHeartbeats 1000000 in
theorem spec_ends (s v : ByteArray) (w : World) (hs : s.size ≤ 9223372036854775807) (hv : v.size ≤ 9223372036854775807) :
    Calls Try.prog 62 #[.string s, .string v] w fun e w' => e = .returned (.bool (endsB s v)) ∧ w = w' := by
  unfold endsB
  by_cases hl : v.size ≤ s.size
  · rw [decide_eq_true hl, Bool.true_and, ← eqT]
    have e1 : IntKind.i64.wrap ((s.size : Int) - (v.size : Int)) = (s.size : Int) - (v.size : Int) := IntWalk.i64_in _ (by omega)
    have e2 : ((s.size : Int) - (v.size : Int)).toNat = s.size - v.size := by omega
    have e3 : (0 : Int) ≤ (s.size : Int) - (v.size : Int) := by omega
    have e4 : (s.size : Int) - (v.size : Int) ≤ (s.size : Int) := by omega
    generalize hb : ((s.extract (s.size - v.size) s.size).toList == v.toList) = b
    go_enter Try.func62, Try.ntmps62
    go_wp2_with fail
    go_ret
    exact ⟨rfl, rfl⟩
  · rw [decide_eq_false hl, Bool.false_and]
    go_enter Try.func62, Try.ntmps62
    go_wp2_with fail
    go_ret
    exact ⟨rfl, rfl⟩
set_option maxHeartbeats 1000000 in
theorem lite_suffix (s v : ByteArray) (w : World) (hs : s.size ≤ 9223372036854775807) (hv : v.size ≤ 9223372036854775807) :
    Calls Try.prog 76 #[.string s, .string v] w fun e w' => e = .returned (.bool (endsB s v)) ∧ w = w' := by
  unfold endsB
  by_cases hl : v.size ≤ s.size
  · rw [decide_eq_true hl, Bool.true_and, ← eqT]
    have e1 : IntKind.i64.wrap ((s.size : Int) - (v.size : Int)) = (s.size : Int) - (v.size : Int) := IntWalk.i64_in _ (by omega)
    have e2 : ((s.size : Int) - (v.size : Int)).toNat = s.size - v.size := by omega
    have e3 : (0 : Int) ≤ (s.size : Int) - (v.size : Int) := by omega
    have e4 : (s.size : Int) - (v.size : Int) ≤ (s.size : Int) := by omega
    generalize hb : ((s.extract (s.size - v.size) s.size).toList == v.toList) = b
    go_enter Try.func76, Try.ntmps76
    go_wp2_with fail
    go_ret
    exact ⟨rfl, rfl⟩
  · rw [decide_eq_false hl, Bool.false_and]
    go_enter Try.func76, Try.ntmps76
    go_wp2_with fail
    go_ret
    exact ⟨rfl, rfl⟩
set_option maxHeartbeats 1000000 in
theorem has_suffix (s v : ByteArray) (w : World) (hs : s.size ≤ 9223372036854775807) (hv : v.size ≤ 9223372036854775807) :
    Calls Try.prog 65 #[.string s, .string v] w fun e w' => e = .returned (.bool (endsB s v)) ∧ w = w' := by
  have H := Lib.hid (lite_suffix s v w hs hv)
  generalize endsB s v = b at *
  go_enter Try.func65, Try.ntmps65
  go_wp2_with fail
  refine H.out.mono ?_
  rintro e w' ⟨rfl, rfl⟩
  go_wp2_with fail
  go_ret
  exact ⟨rfl, rfl⟩
end Go.Proofs.Ytfkcchbbbfeamaa
