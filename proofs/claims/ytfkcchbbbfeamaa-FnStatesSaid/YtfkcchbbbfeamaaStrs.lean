/- The contracts of the laws' helpers over lists of texts: how much they hold, a copy of them, whether two are alike. -/
import Derived.Test.YtfkcchbbbfeamaaBase
namespace Go.Proofs.Ytfkcchbbbfeamaa
set_option linter.unusedVariables false
open Go.ChangeShapes Go.WideShapes Go.ChangeAt Go.RowKit

/-! ### plain -/
def szFrom : Int → List ByteArray → Int
  | l, [] => l
  | l, s :: r => if l - (s.size : Int) < 0 then -1 else szFrom (l - s.size) r
def szStrs (l : Int) (ss : List ByteArray) : Int := if l - (ss.length : Int) < 0 then -1 else szFrom (l - ss.length) ss

theorem szFrom_sum : ∀ (ss : List ByteArray) (l : Int), 0 ≤ l → 0 ≤ szFrom l ss → ((ss.map ByteArray.size).sum : Int) ≤ l
  | [], l, h, _ => by simpa using h
  | s :: r, l, _, h1 => by
    unfold szFrom at h1
    by_cases hc : l - (s.size : Int) < 0
    · rw [if_pos hc] at h1; omega
    · rw [if_neg hc] at h1
      have := szFrom_sum r (l - s.size) (by omega) h1
      simp only [List.map_cons, List.sum_cons, Int.natCast_add]
      omega
theorem szStrs_ok {ss : List ByteArray} {l : Int} (_h : 0 ≤ l) (h1 : 0 ≤ szStrs l ss) : (ss.length : Int) + ((ss.map ByteArray.size).sum : Int) ≤ l := by
  unfold szStrs at h1
  by_cases hc : l - (ss.length : Int) < 0
  · rw [if_pos hc] at h1; omega
  · rw [if_neg hc] at h1
    have := szFrom_sum ss _ (by omega) h1
    omega
theorem szFrom_le : ∀ (ss : List ByteArray) (l : Int), 0 ≤ l → -1 ≤ szFrom l ss ∧ szFrom l ss ≤ l
  | [], l, h => by simp only [szFrom]; omega
  | s :: r, l, h => by
    unfold szFrom
    by_cases hc : l - (s.size : Int) < 0
    · rw [if_pos hc]; omega
    · rw [if_neg hc]
      have := szFrom_le r (l - s.size) (by omega)
      omega
theorem szStrs_le (ss : List ByteArray) (l : Int) (h : 0 ≤ l) : -1 ≤ szStrs l ss ∧ szStrs l ss ≤ l := by
  unfold szStrs
  by_cases hc : l - (ss.length : Int) < 0
  · rw [if_pos hc]; omega
  · rw [if_neg hc]
    have := szFrom_le ss (l - ss.length) (by omega)
    omega
theorem drop_getD (ss : List ByteArray) (k : Nat) (h : k < ss.length) : ss.drop k = ss.getD k ByteArray.empty :: ss.drop (k + 1) := by
  rw [List.drop_eq_getElem_cons h]; simp [h]
theorem size_le_sum (ss : List ByteArray) (k : Nat) : (ss.getD k ByteArray.empty).size ≤ (ss.map ByteArray.size).sum := by
  induction ss generalizing k with
  | nil => simp [ByteArray.empty, ByteArray.size, ByteArray.emptyWithCapacity]; rfl
  | cons s r ih =>
    cases k with
    | zero => simp
    | succ k => have := ih k; simp only [List.getD_cons_succ, List.map_cons, List.sum_cons]; omega

theorem strs_ne {ss : List ByteArray} {k : Nat} (h : k < ss.length) : strs ss ≠ [] := by
  intro e; have := congrArg List.length e; simp at this; rw [this] at h; simp at h

/-! ### walks -/
set_option maxHeartbeats 400000 in
theorem sz_strs (a : Option Addr) (cap : Nat) (ss : List ByteArray) (l : Int) (w : World) (hrow : Rw w a (strs ss)) (hn : ss.length ≤ maxLen) (hsz : ∀ s ∈ ss, s.size ≤ maxLen) (h0 : 0 ≤ l) (h1 : l ≤ 1048576) :
    Calls Try.prog 25 #[.slice a ss.length cap, .int .i64 l] w fun e w' => e = .returned (.int .i64 (szStrs l ss)) ∧ w = w' := by
  unfold maxLen at hn hsz
  by_cases hlt : l - (ss.length : Int) < 0
  · have hfin : szStrs l ss = -1 := by unfold szStrs; rw [if_pos hlt]
    have H := Lib.hid hfin; clear hfin
    go_enter Try.func25, Try.ntmps25
    go_wp2
    go_ret
    exact ⟨ret_int H.out.symm, rfl⟩
  · have hfin : szStrs l ss = szFrom (l - ss.length) ss := by unfold szStrs; rw [if_neg hlt]
    have H := Lib.hid hfin; clear hfin
    go_enter Try.func25, Try.ntmps25
    go_wp2
    go_loop [1, 5] (fun lv i => ∃ (k : Nat) (lk : Int), k ≤ ss.length ∧ 0 ≤ lk ∧ lk ≤ l ∧ Hid (szFrom lk (ss.drop k) = szFrom (l - ss.length) ss) ∧ i = .int .i64 k ∧ lv = .int .i64 lk) (fun _ i => ss.length - (intOf i).toNat)
    case atStart => exact ⟨0, _, Nat.zero_le _, by omega, by omega, rfl, rfl, rfl⟩
    case round =>
      obtain ⟨k, lk, hk, hl0, hl1, HS, rfl, rfl⟩ := hrel
      by_cases hlk : k < ss.length
      · obtain ⟨b, off, rfl, hbl, hc⟩ := hrow.at (by intro h; have := congrArg List.length h; simp at this; rw [this] at hlk; simp at hlk)
        have hc1 : w.cell? ⟨b, off + k, none⟩ = some (.string (ss.getD k ByteArray.empty)) := hc k _ (strs_at ss k hlk)
        have hsk : (ss.getD k ByteArray.empty).size ≤ 9223372036854775807 := by
          have := hsz (ss.getD k ByteArray.empty) (by simp [List.getD, hlk])
          omega
        clear hc hrow hsz
        have hstep : szFrom lk (ss.drop k) = if lk - ((ss.getD k ByteArray.empty).size : Int) < 0 then -1 else szFrom (lk - (ss.getD k ByteArray.empty).size) (ss.drop (k + 1)) := by rw [drop_getD ss k hlk, szFrom]
        have HT := Lib.hid hstep; clear hstep
        generalize ss.getD k ByteArray.empty = s at *
        by_cases hs : lk - (s.size : Int) < 0
        · go_wp2
          go_ret
          exact ⟨ret_int (by rw [H.out, ← HS.out, HT.out, if_pos hs]), rfl⟩
        · go_wp2
          go_round
          case rel => exact ⟨k + 1, lk - s.size, by omega, by omega, by omega, (by have h1 := HS.out; rw [HT.out, if_neg hs] at h1; exact h1), by go_num, rfl⟩
          case measure => simp [intOf]; omega
      · go_wp2
        go_ret
        exact ⟨ret_int (by rw [H.out, ← HS.out, List.drop_eq_nil_of_le (by omega), szFrom]), rfl⟩

theorem Try.infoStr : (Try.prog.info? 9).map (fun i => (i.zero, i.size, i.bytes)) = some (some (.string ByteArray.empty), 1, 16) := by kernel_rfl

set_option maxHeartbeats 400000 in
theorem to_strs (a : Option Addr) (cap : Nat) (ss : List ByteArray) (w : World) (hrow : Rw w a (strs ss)) (hn : ss.length ≤ 1048576) :
    Calls Try.prog 27 #[.slice a ss.length cap] w fun e w' => e = .returned (.slice (some ⟨w.heap.size, 0, none⟩) ss.length ss.length) ∧ w'.ownsRow w.heap.size 9 1 (.slice (some ⟨w.heap.size, 0, none⟩) ss.length ss.length) ss.length (strs ss) ∧ Below w.heap.size w w' := by
  obtain ⟨i0, hi, hz0, hz1, hz2⟩ := info_parts Try.infoStr
  go_enter Try.func27, Try.ntmps27
  go_wp2_with (refine wpList_make_full _ rfl _ _ _ rfl w.heap.size 9 i0 (.string ByteArray.empty) 1 Try.underlying39 hi hz0 hz1 .i64 .i64 _ _ ss.length rfl rfl rfl rfl ?c1 ?c2 ?c3 ?_)
  case c1 => rw [hz2]; omega
  case c2 => unfold maxLen; omega
  case c3 => exact Nat.le_refl _
  intro w1 hown hgrow
  have hb : Below w.heap.size w w1 := (Below.refl _ _).grown hgrow (Nat.le_refl _) (by simp)
  have hsz : w.heap.size < w1.heap.size := (hown.lt w.heap.size rfl).2
  have hown' : w1.ownsRow w.heap.size 9 1 (.slice (some ⟨w.heap.size, 0, none⟩) ss.length ss.length) ss.length (fill (strs ss) (.string ByteArray.empty) 0) := by
    rw [fill_zero, strs_length, ← toList_madeCells_one]; exact hown
  clear hown hgrow
  go_wp2
  go_loopw [4] (fun i wr => ∃ k : Nat, k ≤ ss.length ∧ i = .int .i64 k ∧ wr.ownsRow w.heap.size 9 1 (.slice (some ⟨w.heap.size, 0, none⟩) ss.length ss.length) ss.length (fill (strs ss) (.string ByteArray.empty) k) ∧ Below w.heap.size w wr) (fun i _ => ss.length - (intOf i).toNat)
  case atStart => exact ⟨0, Nat.zero_le _, rfl, hown', hb⟩
  case round =>
    obtain ⟨k, hk, rfl, ho, hbr⟩ := hrel
    clear hown' hb hsz
    by_cases hlk : k < ss.length
    · obtain ⟨b, off, rfl, hbl, hc⟩ := hrow.at (by intro h; have := congrArg List.length h; simp at this; rw [this] at hlk; simp at hlk)
      have hu := strs_at ss k hlk
      have hc1 : wr.cell? ⟨b, off + k, none⟩ = some (.string (ss.getD k ByteArray.empty)) := (hbr.cell (p := ⟨b, off + k, none⟩) hbl).trans (hc k _ hu)
      have hc2 : wr.cell? ⟨w.heap.size, k, none⟩ = some (.string ByteArray.empty) := by rw [ho.cellAt k (by omega)]; exact fill_at _ _ _ _ (Nat.le_refl _) (by simpa using hlk)
      have hc3 := ho.frozenAt k
      have hst := ho.stored k (.string (ss.getD k ByteArray.empty))
      rw [fill_set _ _ _ _ hu] at hst
      have hb2 : Below w.heap.size w (wr.setCell ⟨w.heap.size, k, none⟩ (.string (ss.getD k ByteArray.empty))) := hbr.setCell (Nat.le_refl _) _
      clear hc hrow hu ho
      generalize ss.getD k ByteArray.empty = s at *
      have HS := Lib.hid hst.1; clear hst
      go_wp2
      go_roundw
      case rel => exact ⟨k + 1, by omega, by go_num, HS.out, hb2⟩
      case measure => simp [intOf]; omega
    · go_wp2
      go_ret
      obtain rfl : k = ss.length := by omega
      have hf := fill_full (strs ss) (.string ByteArray.empty)
      rw [strs_length] at hf
      rw [hf] at ho
      exact ⟨rfl, ho, hbr⟩

set_option maxHeartbeats 400000 in
theorem eq_strs (a b : Option Addr) (cap cap' : Nat) (ss : List ByteArray) (w : World) (ha : Rw w a (strs ss)) (hb : Rw w b (strs ss)) (hn : ss.length ≤ 1048576) :
    Calls Try.prog 29 #[.slice a ss.length cap, .slice b ss.length cap'] w fun e w' => e = .returned (.bool true) ∧ Drawn w w' := by
  go_enter Try.func29, Try.ntmps29
  go_wp2
  go_loopw [5] (fun i wr => ∃ k : Nat, k ≤ ss.length ∧ i = .int .i64 k ∧ Drawn w wr) (fun i _ => ss.length - (intOf i).toNat)
  case atStart => exact ⟨0, Nat.zero_le _, rfl, Drawn.refl w⟩
  case round =>
    obtain ⟨k, hk, rfl, n, rfl⟩ := hrel
    by_cases hlk : k < ss.length
    · have hne : strs ss ≠ [] := by intro h; have := congrArg List.length h; simp at this; rw [this] at hlk; simp at hlk
      obtain ⟨b1, off1, rfl, hbl1, hc1⟩ := ha.at hne
      obtain ⟨b2, off2, rfl, hbl2, hc2⟩ := hb.at hne
      have hd1 := hc1 k _ (strs_at ss k hlk)
      have hd2 := hc2 k _ (strs_at ss k hlk)
      clear hc1 hc2 ha hb
      generalize ss.getD k ByteArray.empty = s at *
      go_wp2
      go_quiet (fail)
      go_wp2
      go_roundw
      case rel => exact ⟨k + 1, by omega, by go_num, ⟨_, rfl⟩⟩
      case measure => simp [intOf]; omega
    · go_wp2
      go_ret
      exact ⟨rfl, n, rfl⟩

end Go.Proofs.Ytfkcchbbbfeamaa
