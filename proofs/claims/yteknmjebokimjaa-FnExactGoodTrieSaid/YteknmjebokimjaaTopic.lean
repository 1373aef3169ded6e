/- The contracts of topics and patterns: levels, the cut at each slash, good topics and good patterns; the program's and the reference's. -/
import Derived.Test.YteknmjebokimjaaTopicL
import Derived.OwnWalk
import Derived.Deep.AppendLies
import Derived.Test.YteknmjebokimjaaKind
namespace Go.Proofs.Yteknmjebokimjaa
set_option linter.unusedVariables false
open Go.ChangeShapes Go.WideShapes Go.ChangeAt Go.RowKit
set_option maxRecDepth 100000

theorem lvl_no {s : ByteArray} (k : Nat) (h : k < s.size) (hb : lvlB s[k] = false) : lvl s = false := by
  unfold lvl
  have : s.data.toList.all lvlB = false := by
    rw [List.all_eq_false]
    exact ⟨s[k], by show s.data[k] ∈ _; exact Array.mem_toList_iff.2 (Array.getElem_mem _), by simp [hb]⟩
  rw [this, Bool.false_and]
theorem all_next {s : ByteArray} (k : Nat) (h : k < s.size) (ha : (s.data.toList.take k).all lvlB = true) (hb : lvlB s[k] = true) : (s.data.toList.take (k + 1)).all lvlB = true := by
  rw [take_snoc s k h, List.all_append, ha]; simp [hb]
theorem lvl_all {s : ByteArray} (ha : (s.data.toList.take s.size).all lvlB = true) : lvl s = inB (s.size : Int) 1 6 := by
  rw [show s.size = s.data.toList.length from rfl, List.take_length] at ha
  unfold lvl; rw [ha, Bool.true_and]
theorem lvlB_cases (c : UInt8) : (lvlB c = true ∧ 97 ≤ (c.toNat : Int) ∧ (c.toNat : Int) ≤ 122) ∨ (lvlB c = true ∧ 48 ≤ (c.toNat : Int) ∧ (c.toNat : Int) ≤ 57) ∨ (lvlB c = false ∧ (c.toNat : Int) < 48) ∨ (lvlB c = false ∧ 57 < (c.toNat : Int) ∧ (c.toNat : Int) < 97) ∨ (lvlB c = false ∧ 122 < (c.toNat : Int)) := by
  unfold lvlB
  by_cases h1 : 97 ≤ c.toNat <;> by_cases h2 : c.toNat ≤ 122 <;> by_cases h3 : 48 ≤ c.toNat <;> by_cases h4 : c.toNat ≤ 57 <;> simp [h1, h2, h3, h4] <;> omega

set_option maxHeartbeats 1000000 in
theorem spec_level (s : ByteArray) (w : World) (hs : s.size ≤ 9223372036854775807) : Calls Try.prog 11 #[.string s] w fun e w' => e = .returned (.bool (lvl s)) ∧ w = w' := by
  go_enter Try.func11, Try.ntmps11
  go_wp2
  go_loop [3] (fun i => ∃ k : Nat, k ≤ s.size ∧ i = .int .i64 k ∧ Hid ((s.data.toList.take k).all lvlB = true)) (fun i => s.size - (intOf i).toNat)
  case atStart => exact ⟨0, Nat.zero_le _, rfl, rfl⟩
  case round =>
    obtain ⟨k, hk, rfl, HA⟩ := hrel
    by_cases hlk : k < s.size
    case neg =>
      obtain rfl : k = s.size := by omega
      have HL := Lib.hid (lvl_all HA.out)
      go_wp2_with (go_at_call 10; refine (l1In_any _ _ _ _).mono ?_; rintro e w' ⟨rfl, rfl⟩)
      go_ret
      exact ⟨ret_bool HL.out.symm, rfl⟩
    rcases lvlB_cases s[k] with ⟨h, h1, h2⟩ | ⟨h, h1, h2⟩ | ⟨h, h1⟩ | ⟨h, h1, h2⟩ | ⟨h, h1⟩
    · have HN := Lib.hid (all_next k hlk HA.out h); clear h
      go_wp2
      go_round
      case rel => exact ⟨k + 1, by omega, by go_num, HN.out⟩
      case measure => simp [intOf]; omega
    · have HN := Lib.hid (all_next k hlk HA.out h); clear h
      go_wp2
      go_round
      case rel => exact ⟨k + 1, by omega, by go_num, HN.out⟩
      case measure => simp [intOf]; omega
    · have HN := Lib.hid (lvl_no k hlk h); clear h
      go_wp2
      try (case roundEnd => exfalso; rename_i h; simp at h; omega)
      go_ret
      exact ⟨ret_bool HN.out.symm, rfl⟩
    · have HN := Lib.hid (lvl_no k hlk h); clear h
      go_wp2
      try (case roundEnd => exfalso; rename_i h; simp at h; omega)
      go_ret
      exact ⟨ret_bool HN.out.symm, rfl⟩
    · have HN := Lib.hid (lvl_no k hlk h); clear h
      go_wp2
      try (case roundEnd => exfalso; rename_i h; simp at h; omega)
      go_ret
      exact ⟨ret_bool HN.out.symm, rfl⟩

set_option maxHeartbeats 1000000 in
theorem impl_plain (s : ByteArray) (w : World) (hs : s.size ≤ 9223372036854775807) : Calls Try.prog 25 #[.string s] w fun e w' => e = .returned (.bool (lvl s)) ∧ w = w' := by
  go_enter Try.func25, Try.ntmps25
  go_wp2
  go_loop [6] (fun i => ∃ k : Nat, k ≤ s.size ∧ i = .int .i64 k ∧ Hid ((s.data.toList.take k).all lvlB = true)) (fun i => s.size - (intOf i).toNat)
  case atStart => exact ⟨0, Nat.zero_le _, rfl, rfl⟩
  case round =>
    obtain ⟨k, hk, rfl, HA⟩ := hrel
    by_cases hlk : k < s.size
    case neg =>
      obtain rfl : k = s.size := by omega
      have HL := Lib.hid (lvl_all HA.out)
      go_wp2_with (go_at_call 19; refine (within_any _ _ _ _).mono ?_; rintro e w' ⟨rfl, rfl⟩)
      go_ret
      exact ⟨ret_bool HL.out.symm, rfl⟩
    rcases lvlB_cases s[k] with ⟨h, h1, h2⟩ | ⟨h, h1, h2⟩ | ⟨h, h1⟩ | ⟨h, h1, h2⟩ | ⟨h, h1⟩
    · have HN := Lib.hid (all_next k hlk HA.out h); clear h
      go_wp2
      go_round
      case rel => exact ⟨k + 1, by omega, by go_num, HN.out⟩
      case measure => simp [intOf]; omega
    · have HN := Lib.hid (all_next k hlk HA.out h); clear h
      go_wp2
      go_round
      case rel => exact ⟨k + 1, by omega, by go_num, HN.out⟩
      case measure => simp [intOf]; omega
    · have HN := Lib.hid (lvl_no k hlk h); clear h
      go_wp2
      try (case roundEnd => exfalso; rename_i h; simp at h; omega)
      go_ret
      exact ⟨ret_bool HN.out.symm, rfl⟩
    · have HN := Lib.hid (lvl_no k hlk h); clear h
      go_wp2
      try (case roundEnd => exfalso; rename_i h; simp at h; omega)
      go_ret
      exact ⟨ret_bool HN.out.symm, rfl⟩
    · have HN := Lib.hid (lvl_no k hlk h); clear h
      go_wp2
      try (case roundEnd => exfalso; rename_i h; simp at h; omega)
      go_ret
      exact ⟨ret_bool HN.out.symm, rfl⟩

theorem is1 (s : ByteArray) (c : UInt8) : s.toList = [c] ↔ s = { data := #[c] } := by
  rw [ByteArray.toList_eq]
  constructor
  · intro h; exact ba_ext (h.trans rfl)
  · rintro rfl; rfl
theorem not_any1 {s : ByteArray} (h : ¬ s.toList = [43]) : s ≠ any1 := fun e => h ((is1 s 43).2 e)
theorem not_more {s : ByteArray} (h : ¬ s.toList = [35]) : s ≠ more := fun e => h ((is1 s 35).2 e)
theorem yes_any1 {s : ByteArray} (h : s.toList = [43]) : s = any1 := (is1 s 43).1 h
theorem yes_more {s : ByteArray} (h : s.toList = [35]) : s = more := (is1 s 35).1 h
set_option maxHeartbeats 1000000 in
theorem impl_levelOK (s : ByteArray) (w : World) (hs : s.size ≤ 9223372036854775807) : Calls Try.prog 20 #[.string s] w fun e w' => e = .returned (.bool (lvlOK s)) ∧ w = w' := by
  by_cases h1 : s.toList = [43]
  · have H : Hid (lvlOK s = true) := Lib.hid (by unfold lvlOK; simp [yes_any1 h1])
    go_enter Try.func20, Try.ntmps20
    go_wp2
    go_ret
    exact ⟨ret_bool H.out.symm, rfl⟩
  · by_cases h2 : s.toList = [35]
    · have H : Hid (lvlOK s = true) := Lib.hid (by unfold lvlOK; simp [yes_more h2])
      go_enter Try.func20, Try.ntmps20
      go_wp2
      go_ret
      exact ⟨ret_bool H.out.symm, rfl⟩
    · have H : Hid (lvlOK s = lvl s) := Lib.hid (by unfold lvlOK; simp [not_any1 h1, not_more h2])
      have e1 : (s.toList == [43]) = false := by simp [h1]
      have e2 : (s.toList == [35]) = false := by simp [h2]
      go_enter Try.func20, Try.ntmps20
      go_wp2_with (go_at_call 25; refine (impl_plain s _ hs).mono ?_; rintro e w' ⟨rfl, rfl⟩)
      go_ret
      exact ⟨ret_bool (by rw [H.out]; try simp [e1, e2]), rfl⟩

/-! ### the cut -/
theorem Try.infoStr : (Try.prog.info? 9).map (fun i => (i.zero, i.size, i.bytes)) = some (some (.string ByteArray.empty), 1, 16) := by kernel_rfl
theorem strs_snoc (xs : List ByteArray) (x : ByteArray) : strs (xs ++ [x]) = strs xs ++ [.string x] := by simp [strs]
theorem cut_len {c : UInt8} {s : ByteArray} {i f : Nat} {out : List ByteArray} (h : Cut c s i f out) : out.length ≤ i := by
  have h1 := pieces_length c s
  have h2 := h.so
  have h3 : (cutL c s.data.toList).length = s.data.toList.count c + 1 := cutL_length c _
  rw [h2, List.length_append, List.length_map, cutL_length] at h3
  have h4 : (s.data.toList.drop f).count c ≤ s.data.toList.count c := List.Sublist.count_le _ (List.drop_sublist _ _)
  have h5 : s.data.toList.count c = (s.data.toList.take f).count c + (s.data.toList.drop f).count c := by rw [← List.count_append, List.take_append_drop]
  have h6 : (s.data.toList.take f).count c ≤ f := Nat.le_trans List.count_le_length (by simp; omega)
  have := h.le
  omega
def SplitOf (s : ByteArray) (w : World) (e : Ending) (w' : World) : Prop :=
  ∃ a cap, e = .returned (.slice a (pieces 47 s).length cap) ∧ Rw w' a (strs (pieces 47 s)) ∧ Below w.heap.size w w'


/-! ### good topics, good patterns: the reference's -/
theorem strs_cell {w : World} {a : Option Addr} {xs : List ByteArray} (h : Rw w a (strs xs)) {i : Nat} (hi : i < xs.length) : ∃ b off x, xs[i]? = some x ∧ a = some ⟨b, off, none⟩ ∧ b < w.heap.size ∧ w.cell? ⟨b, off + i, none⟩ = some (.string x) := by
  obtain ⟨b, off, ha, hb, hc⟩ := h.at (fun e => by have := congrArg List.length e; simp at this; rw [this] at hi; simp at hi)
  exact ⟨b, off, xs[i], List.getElem?_eq_getElem hi, ha, hb, hc i _ (by simp [strs, hi])⟩
theorem piece_63 {s x : ByteArray} {i : Nat} (h : (pieces 47 s)[i]? = some x) (hs : s.size ≤ 1048576) : x.size ≤ 9223372036854775807 := by
  have := pieces_size 47 s x (List.mem_of_getElem? h); omega
theorem all_take_next {p : ByteArray → Bool} {xs : List ByteArray} {i : Nat} {x : ByteArray} (h : (xs.take i).all p = true) (hx : xs[i]? = some x) (hp : p x = true) : (xs.take (i + 1)).all p = true := by
  rw [take_next xs i x hx, List.all_append, h]; simp [hp]
theorem all_no {p : ByteArray → Bool} {xs : List ByteArray} {i : Nat} {x : ByteArray} (hx : xs[i]? = some x) (hp : p x = false) : xs.all p = false := by
  rw [List.all_eq_false]; exact ⟨x, List.mem_of_getElem? hx, by simp [hp]⟩

/-- what is right up to a place of a pattern -/
def patAt (xs : List ByteArray) (i : Nat) (x : ByteArray) : Bool := lvl x || (decide (x = any1) || (decide (x = more) && decide (xs.length ≤ i + 1)))
theorem spPat_drop {xs : List ByteArray} {i : Nat} {x : ByteArray} (hx : xs[i]? = some x) : spPat (xs.drop i) = (patAt xs i x && spPat (xs.drop (i + 1))) := by
  obtain ⟨hi, rfl⟩ := List.getElem?_eq_some_iff.1 hx
  rw [List.drop_eq_getElem_cons hi, spPat]
  unfold patAt
  congr 4
  by_cases h : xs.length ≤ i + 1
  · simp [h]
  · simp [h] <;> omega

end Go.Proofs.Yteknmjebokimjaa
