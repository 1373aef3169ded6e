/- The contracts of topics and patterns: levels, the cut at each slash, good topics and good patterns; the program's and the reference's. -/
import Derived.Test.YteknmjebokimjaaDoorTopicL
import Derived.OwnWalk
import Derived.Deep.AppendLies
import Derived.Test.YteknmjebokimjaaDoorShelf
import Derived.Test.YteknmjebokimjaaDoorKind
namespace Go.Proofs.YteknmjebokimjaaDoor
set_option linter.unusedVariables false
open Go.ChangeShapes Go.WideShapes Go.ChangeAt Go.RowKit
set_option maxRecDepth 100000

theorem lvl_no {s : ByteArray} (k : Nat) (h : k < s.size) (hb : lvlB s[k] = false) : lvl s = false := by
  unfold lvl
  have : s.data.toList.all lvlB = false := by
    rw [List.all_eq_false]
    exact ⟨s[k], by show s.data[k] ∈ _; exact Array.mem_toList_iff.2 (Array.getElem_mem _), by simp [hb]⟩
  rw [this, Bool.false_and]
theorem all_next {s : ByteArray} (k : Nat) (h : k < s.size) (ha : (s.data.toList.take k).all lvlB = true) (hb : lvlB s[k] = true) : (s.data.toList.take (k + 1)).all lvlB = true := by
  rw [take_snoc s k h, List.all_append, ha]; simp [hb]
theorem lvl_all {s : ByteArray} (ha : (s.data.toList.take s.size).all lvlB = true) : lvl s = inB (s.size : Int) 1 6 := by
  rw [show s.size = s.data.toList.length from rfl, List.take_length] at ha
  unfold lvl; rw [ha, Bool.true_and]
theorem lvlB_cases (c : UInt8) : (lvlB c = true ∧ 97 ≤ (c.toNat : Int) ∧ (c.toNat : Int) ≤ 122) ∨ (lvlB c = true ∧ 48 ≤ (c.toNat : Int) ∧ (c.toNat : Int) ≤ 57) ∨ (lvlB c = false ∧ (c.toNat : Int) < 48) ∨ (lvlB c = false ∧ 57 < (c.toNat : Int) ∧ (c.toNat : Int) < 97) ∨ (lvlB c = false ∧ 122 < (c.toNat : Int)) := by
  unfold lvlB
  by_cases h1 : 97 ≤ c.toNat <;> by_cases h2 : c.toNat ≤ 122 <;> by_cases h3 : 48 ≤ c.toNat <;> by_cases h4 : c.toNat ≤ 57 <;> simp [h1, h2, h3, h4] <;> omega

set_option maxHeartbeats 1000000 in
theorem spec_level (s : ByteArray) (w : World) (hs : s.size ≤ 9223372036854775807) : Calls Tryd.prog 58 #[.string s] w fun e w' => e = .returned (.bool (lvl s)) ∧ w = w' := by
  go_enter Tryd.func58, Tryd.ntmps58
  go_wp2
  go_loop [3] (fun i => ∃ k : Nat, k ≤ s.size ∧ i = .int .i64 k ∧ Hid ((s.data.toList.take k).all lvlB = true)) (fun i => s.size - (intOf i).toNat)
  case atStart => exact ⟨0, Nat.zero_le _, rfl, rfl⟩
  case round =>
    obtain ⟨k, hk, rfl, HA⟩ := hrel
    by_cases hlk : k < s.size
    case neg =>
      obtain rfl : k = s.size := by omega
      have HL := Lib.hid (lvl_all HA.out)
      go_wp2_with (go_at_call 67; refine (l1In_any _ _ _ _).mono ?_; rintro e w' ⟨rfl, rfl⟩)
      go_ret
      exact ⟨ret_bool HL.out.symm, rfl⟩
    rcases lvlB_cases s[k] with ⟨h, h1, h2⟩ | ⟨h, h1, h2⟩ | ⟨h, h1⟩ | ⟨h, h1, h2⟩ | ⟨h, h1⟩
    · have HN := Lib.hid (all_next k hlk HA.out h); clear h
      go_wp2
      go_round
      case rel => exact ⟨k + 1, by omega, by go_num, HN.out⟩
      case measure => simp [intOf]; omega
    · have HN := Lib.hid (all_next k hlk HA.out h); clear h
      go_wp2
      go_round
      case rel => exact ⟨k + 1, by omega, by go_num, HN.out⟩
      case measure => simp [intOf]; omega
    · have HN := Lib.hid (lvl_no k hlk h); clear h
      go_wp2
      try (case roundEnd => exfalso; rename_i h; simp at h; omega)
      go_ret
      exact ⟨ret_bool HN.out.symm, rfl⟩
    · have HN := Lib.hid (lvl_no k hlk h); clear h
      go_wp2
      try (case roundEnd => exfalso; rename_i h; simp at h; omega)
      go_ret
      exact ⟨ret_bool HN.out.symm, rfl⟩
    · have HN := Lib.hid (lvl_no k hlk h); clear h
      go_wp2
      try (case roundEnd => exfalso; rename_i h; simp at h; omega)
      go_ret
      exact ⟨ret_bool HN.out.symm, rfl⟩

set_option maxHeartbeats 1000000 in
theorem impl_plain (s : ByteArray) (w : World) (hs : s.size ≤ 9223372036854775807) : Calls Tryd.prog 61 #[.string s] w fun e w' => e = .returned (.bool (lvl s)) ∧ w = w' := by
  go_enter Tryd.func61, Tryd.ntmps61
  go_wp2
  go_loop [6] (fun i => ∃ k : Nat, k ≤ s.size ∧ i = .int .i64 k ∧ Hid ((s.data.toList.take k).all lvlB = true)) (fun i => s.size - (intOf i).toNat)
  case atStart => exact ⟨0, Nat.zero_le _, rfl, rfl⟩
  case round =>
    obtain ⟨k, hk, rfl, HA⟩ := hrel
    by_cases hlk : k < s.size
    case neg =>
      obtain rfl : k = s.size := by omega
      have HL := Lib.hid (lvl_all HA.out)
      go_wp2_with (go_at_call 71; refine (within_any _ _ _ _).mono ?_; rintro e w' ⟨rfl, rfl⟩)
      go_ret
      exact ⟨ret_bool HL.out.symm, rfl⟩
    rcases lvlB_cases s[k] with ⟨h, h1, h2⟩ | ⟨h, h1, h2⟩ | ⟨h, h1⟩ | ⟨h, h1, h2⟩ | ⟨h, h1⟩
    · have HN := Lib.hid (all_next k hlk HA.out h); clear h
      go_wp2
      go_round
      case rel => exact ⟨k + 1, by omega, by go_num, HN.out⟩
      case measure => simp [intOf]; omega
    · have HN := Lib.hid (all_next k hlk HA.out h); clear h
      go_wp2
      go_round
      case rel => exact ⟨k + 1, by omega, by go_num, HN.out⟩
      case measure => simp [intOf]; omega
    · have HN := Lib.hid (lvl_no k hlk h); clear h
      go_wp2
      try (case roundEnd => exfalso; rename_i h; simp at h; omega)
      go_ret
      exact ⟨ret_bool HN.out.symm, rfl⟩
    · have HN := Lib.hid (lvl_no k hlk h); clear h
      go_wp2
      try (case roundEnd => exfalso; rename_i h; simp at h; omega)
      go_ret
      exact ⟨ret_bool HN.out.symm, rfl⟩
    · have HN := Lib.hid (lvl_no k hlk h); clear h
      go_wp2
      try (case roundEnd => exfalso; rename_i h; simp at h; omega)
      go_ret
      exact ⟨ret_bool HN.out.symm, rfl⟩

theorem is1 (s : ByteArray) (c : UInt8) : s.toList = [c] ↔ s = { data := #[c] } := by
  rw [ByteArray.toList_eq]
  constructor
  · intro h; exact ba_ext (h.trans rfl)
  · rintro rfl; rfl
theorem not_any1 {s : ByteArray} (h : ¬ s.toList = [43]) : s ≠ any1 := fun e => h ((is1 s 43).2 e)
theorem not_more {s : ByteArray} (h : ¬ s.toList = [35]) : s ≠ more := fun e => h ((is1 s 35).2 e)
theorem yes_any1 {s : ByteArray} (h : s.toList = [43]) : s = any1 := (is1 s 43).1 h
theorem yes_more {s : ByteArray} (h : s.toList = [35]) : s = more := (is1 s 35).1 h
set_option maxHeartbeats 1000000 in
theorem impl_levelOK (s : ByteArray) (w : World) (hs : s.size ≤ 9223372036854775807) : Calls Tryd.prog 74 #[.string s] w fun e w' => e = .returned (.bool (lvlOK s)) ∧ w = w' := by
  by_cases h1 : s.toList = [43]
  · have H : Hid (lvlOK s = true) := Lib.hid (by unfold lvlOK; simp [yes_any1 h1])
    go_enter Tryd.func74, Tryd.ntmps74
    go_wp2
    go_ret
    exact ⟨ret_bool H.out.symm, rfl⟩
  · by_cases h2 : s.toList = [35]
    · have H : Hid (lvlOK s = true) := Lib.hid (by unfold lvlOK; simp [yes_more h2])
      go_enter Tryd.func74, Tryd.ntmps74
      go_wp2
      go_ret
      exact ⟨ret_bool H.out.symm, rfl⟩
    · have H : Hid (lvlOK s = lvl s) := Lib.hid (by unfold lvlOK; simp [not_any1 h1, not_more h2])
      have e1 : (s.toList == [43]) = false := by simp [h1]
      have e2 : (s.toList == [35]) = false := by simp [h2]
      go_enter Tryd.func74, Tryd.ntmps74
      go_wp2_with (go_at_call 61; refine (impl_plain s _ hs).mono ?_; rintro e w' ⟨rfl, rfl⟩)
      go_ret
      exact ⟨ret_bool (by rw [H.out]; try simp [e1, e2]), rfl⟩

/-! ### the cut -/
theorem Tryd.infoStr : (Tryd.prog.info? 9).map (fun i => (i.zero, i.size, i.bytes)) = some (some (.string ByteArray.empty), 1, 16) := by kernel_rfl
theorem strs_snoc (xs : List ByteArray) (x : ByteArray) : strs (xs ++ [x]) = strs xs ++ [.string x] := by simp [strs]
theorem cut_len {c : UInt8} {s : ByteArray} {i f : Nat} {out : List ByteArray} (h : Cut c s i f out) : out.length ≤ i := by
  have h1 := pieces_length c s
  have h2 := h.so
  have h3 : (cutL c s.data.toList).length = s.data.toList.count c + 1 := cutL_length c _
  rw [h2, List.length_append, List.length_map, cutL_length] at h3
  have h4 : (s.data.toList.drop f).count c ≤ s.data.toList.count c := List.Sublist.count_le _ (List.drop_sublist _ _)
  have h5 : s.data.toList.count c = (s.data.toList.take f).count c + (s.data.toList.drop f).count c := by rw [← List.count_append, List.take_append_drop]
  have h6 : (s.data.toList.take f).count c ≤ f := Nat.le_trans List.count_le_length (by simp; omega)
  have := h.le
  omega
def SplitOf (s : ByteArray) (w : World) (e : Ending) (w' : World) : Prop :=
  ∃ a cap, e = .returned (.slice a (pieces 47 s).length cap) ∧ Rw w' a (strs (pieces 47 s)) ∧ Below w.heap.size w w'

set_option maxHeartbeats 2000000 in
theorem spec_split (s : ByteArray) (w : World) (hs : s.size ≤ 1048576) : Calls Tryd.prog 53 #[.string s, .int .u8 47] w (SplitOf s w) := by
  obtain ⟨i0, hi, hz0, hz1, hz2⟩ := info_parts Tryd.infoStr
  go_enter Tryd.func53, Tryd.ntmps53
  go_wp2_with fail
  go_loopw [5, 6, 7] (fun ov fv iv wr => ∃ (i f : Nat) (out : List ByteArray), i ≤ s.size ∧ f ≤ i ∧ iv = .int .i64 (i : Int) ∧ fv = .int .i64 (f : Int) ∧ Hid (Cut 47 s i f out) ∧ out.length ≤ i ∧ Hid (wr.ownsRow w.heap.size 9 1 ov out.length (strs out)) ∧ Hid (Below w.heap.size w wr)) (fun _ _ iv _ => s.size - (intOf iv).toNat)
  case atStart => exact ⟨0, 0, [], by omega, by omega, rfl, rfl, cut_start _ _, by simp, World.ownsRow_nil _ _ _ _, Below.refl _ _⟩
  case round =>
    obtain ⟨i, f, out, hil, hfi, rfl, rfl, HC, hol, HO, HB⟩ := hrel
    have HC3 : Hid (out.length + 1 ≤ maxLen) := Lib.hid (by unfold maxLen; omega)
    have HC4 : Hid ((out.length + 1) * 16 ≤ 140737488355328) := Lib.hid (by omega)
    by_cases hlt : i < s.size
    case neg =>
      obtain rfl : i = s.size := by omega
      have HE := Lib.hid (cut_end HC.out)
      go_wp2_with (at_builtin; refine wpList_append_own _ rfl _ _ 59 rfl w.heap.size 9 i0 (.string ByteArray.empty) 1 16 Tryd.underlying59 hi hz0 hz1 hz2 rfl (by decide) _ out.length _ rfl (HO.out.alloc _) _ 1 1 [.string _] rfl rfl (news_one _ _ _) (by simp [Value.oneCell']) HC3.out HC4.out (Nat.le_trans HB.out.size (by simp)) ?_)
      intro v' w2 hown hgrow hnil
      have hbw : Below w.heap.size w w2 := Below.grown (HB.out.alloc HB.out.size _) hgrow (Nat.le_trans HB.out.size (by simp)) (fun j hj => (HO.out.lt j hj).1)
      have HOW := Lib.hid hown; have HBW := Lib.hid hbw; clear hown hgrow hnil hbw
      go_wp2_with fail
      go_ret
      have ho := HOW.out
      rw [← strs_snoc, HE.out] at ho
      have hlen : (pieces 47 s).length = out.length + 1 := by rw [← HE.out]; simp
      obtain ⟨a, cap, rfl⟩ := form_of_own ho
      rw [← hlen] at ho ⊢
      exact ⟨a, cap, rfl, own_rw ho, HBW.out⟩
    by_cases he : (s[i].toNat : Int) = 47
    · have HN := Lib.hid (cut_yes HC.out hlt (UInt8.toNat_inj.1 (by show s[i].toNat = 47; omega)))
      go_wp2_with (at_builtin; refine wpList_append_own _ rfl _ _ 59 rfl w.heap.size 9 i0 (.string ByteArray.empty) 1 16 Tryd.underlying59 hi hz0 hz1 hz2 rfl (by decide) _ out.length _ rfl (HO.out.alloc _) _ 1 1 [.string _] rfl rfl (news_one _ _ _) (by simp [Value.oneCell']) HC3.out HC4.out (Nat.le_trans HB.out.size (by simp)) ?_)
      intro v' w2 hown hgrow hnil
      have hbw : Below w.heap.size w w2 := Below.grown (HB.out.alloc HB.out.size _) hgrow (Nat.le_trans HB.out.size (by simp)) (fun j hj => (HO.out.lt j hj).1)
      have HOW := Lib.hid hown; have HBW := Lib.hid hbw; clear hown hgrow hnil hbw
      go_wp2_with fail
      go_roundw
      case rel => exact ⟨i + 1, i + 1, _, by omega, by omega, by go_num, by go_num, HN.out, by simp; omega, by rw [strs_snoc, List.length_append]; exact HOW.out, HBW.out⟩
      case measure => simp [intOf]; omega
    · have HN := Lib.hid (cut_no HC.out hlt (fun e => he (by rw [e]; rfl)))
      have hee : ((s[i].toNat : Int) == 47) = false := by simp [he]
      go_wp2_with fail
      go_roundw
      case rel => exact ⟨i + 1, f, out, by omega, by omega, by go_num, rfl, HN.out, by omega, HO.out, HB.out⟩
      case measure => simp [intOf]; omega


/-! ### good topics, good patterns: the reference's -/
theorem strs_cell {w : World} {a : Option Addr} {xs : List ByteArray} (h : Rw w a (strs xs)) {i : Nat} (hi : i < xs.length) : ∃ b off x, xs[i]? = some x ∧ a = some ⟨b, off, none⟩ ∧ b < w.heap.size ∧ w.cell? ⟨b, off + i, none⟩ = some (.string x) := by
  obtain ⟨b, off, ha, hb, hc⟩ := h.at (fun e => by have := congrArg List.length e; simp at this; rw [this] at hi; simp at hi)
  exact ⟨b, off, xs[i], List.getElem?_eq_getElem hi, ha, hb, hc i _ (by simp [strs, hi])⟩
theorem piece_63 {s x : ByteArray} {i : Nat} (h : (pieces 47 s)[i]? = some x) (hs : s.size ≤ 1048576) : x.size ≤ 9223372036854775807 := by
  have := pieces_size 47 s x (List.mem_of_getElem? h); omega
theorem all_take_next {p : ByteArray → Bool} {xs : List ByteArray} {i : Nat} {x : ByteArray} (h : (xs.take i).all p = true) (hx : xs[i]? = some x) (hp : p x = true) : (xs.take (i + 1)).all p = true := by
  rw [take_next xs i x hx, List.all_append, h]; simp [hp]
theorem all_no {p : ByteArray → Bool} {xs : List ByteArray} {i : Nat} {x : ByteArray} (hx : xs[i]? = some x) (hp : p x = false) : xs.all p = false := by
  rw [List.all_eq_false]; exact ⟨x, List.mem_of_getElem? hx, by simp [hp]⟩

set_option maxHeartbeats 1000000 in
theorem spec_goodTopic (s : ByteArray) (w : World) (hs : s.size ≤ 1048576) : Calls Tryd.prog 29 #[.string s] w fun e w' => e = .returned (.bool (gTop s)) ∧ Below w.heap.size w w' := by
  have HS := Lib.hid (spec_split s w hs)
  have hn := pieces_le 47 s
  have HP := Lib.hid (fun (i : Nat) (x : ByteArray) (h : (pieces 47 s)[i]? = some x) => piece_63 h hs)
  have H1 : Hid (∀ (i : Nat) (x : ByteArray), (pieces 47 s)[i]? = some x → lvl x = false → gTop s = false) := Lib.hid fun i x hx hl => by unfold gTop; rw [all_no hx hl, Bool.and_false]
  have H2 : Hid (((pieces 47 s).take (pieces 47 s).length).all lvl = true → gTop s = decide ((pieces 47 s).length ≤ 6)) := Lib.hid fun h => by rw [List.take_length] at h; unfold gTop; rw [h, Bool.and_true]
  go_enter Tryd.func29, Tryd.ntmps29
  go_wp2_with fail
  refine HS.out.mono ?_
  rintro e w1 ⟨a, cap, rfl, hrow, hb⟩
  have HROW := Lib.hid hrow; have HB := Lib.hid hb; clear hrow hb
  generalize pieces 47 s = xs at *
  go_wp2_with fail
  go_loop [10] (fun iv => ∃ (i : Nat), i ≤ xs.length ∧ iv = .int .i64 (i : Int) ∧ Hid ((xs.take i).all lvl = true)) (fun iv => xs.length - (intOf iv).toNat)
  case atStart => exact ⟨0, by omega, rfl, rfl⟩
  case round =>
    obtain ⟨i, hil, rfl, HA⟩ := hrel
    by_cases hlt : i < xs.length
    case neg =>
      obtain rfl : i = xs.length := by omega
      have HE := Lib.hid (H2.out HA.out)
      by_cases h6 : xs.length ≤ 6
      · go_wp2_with fail
        go_ret
        exact ⟨ret_bool (by rw [HE.out]; simp; try omega), HB.out⟩
      · go_wp2_with fail
        go_ret
        exact ⟨ret_bool (by rw [HE.out]; simp; try omega), HB.out⟩
    obtain ⟨b, off, x, hx, rfl, hbl, hc⟩ := strs_cell HROW.out hlt
    have h63 := HP.out i x hx
    have HX := Lib.hid hx
    cases hl : lvl x with
    | true =>
      have HN := Lib.hid (all_take_next HA.out hx hl)
      have HC := Lib.hid (fun wx => hl ▸ spec_level x wx h63)
      clear hx hl
      go_wp2_with (go_at_call 58; refine (HC.out _).mono ?_; rintro e w' ⟨rfl, rfl⟩)
      go_round
      case rel => exact ⟨i + 1, by omega, by go_num, HN.out⟩
      case measure => simp [intOf]; omega
    | false =>
      have HN := Lib.hid (H1.out i x hx hl)
      have HC := Lib.hid (fun wx => hl ▸ spec_level x wx h63)
      clear hx hl
      go_wp2_with (go_at_call 58; refine (HC.out _).mono ?_; rintro e w' ⟨rfl, rfl⟩)
      go_ret
      exact ⟨ret_bool HN.out.symm, HB.out⟩

/-- what is right up to a place of a pattern -/
def patAt (xs : List ByteArray) (i : Nat) (x : ByteArray) : Bool := lvl x || (decide (x = any1) || (decide (x = more) && decide (xs.length ≤ i + 1)))
theorem spPat_drop {xs : List ByteArray} {i : Nat} {x : ByteArray} (hx : xs[i]? = some x) : spPat (xs.drop i) = (patAt xs i x && spPat (xs.drop (i + 1))) := by
  obtain ⟨hi, rfl⟩ := List.getElem?_eq_some_iff.1 hx
  rw [List.drop_eq_getElem_cons hi, spPat]
  unfold patAt
  congr 4
  by_cases h : xs.length ≤ i + 1
  · simp [h]
  · simp [h] <;> omega

set_option maxHeartbeats 2000000 in
theorem spec_goodPattern (s : ByteArray) (w : World) (hs : s.size ≤ 1048576) : Calls Tryd.prog 27 #[.string s] w fun e w' => e = .returned (.bool (gPat s)) ∧ Below w.heap.size w w' := by
  have HS := Lib.hid (spec_split s w hs)
  have hn := pieces_le 47 s
  have HP := Lib.hid (fun (i : Nat) (x : ByteArray) (h : (pieces 47 s)[i]? = some x) => piece_63 h hs)
  have H0 : Hid (gPat s = (decide ((pieces 47 s).length ≤ 6) && spPat (pieces 47 s))) := Lib.hid (by rw [spPat_okL]; rfl)
  go_enter Tryd.func27, Tryd.ntmps27
  go_wp2_with fail
  refine HS.out.mono ?_
  rintro e w1 ⟨a, cap, rfl, hrow, hb⟩
  have HROW := Lib.hid hrow; have HB := Lib.hid hb; clear hrow hb
  generalize pieces 47 s = xs at *
  go_wp2_with fail
  go_loop [10] (fun iv => ∃ (i : Nat), i ≤ xs.length ∧ iv = .int .i64 (i : Int) ∧ Hid (spPat (xs.drop i) = spPat xs)) (fun iv => xs.length - (intOf iv).toNat)
  case atStart => exact ⟨0, by omega, rfl, rfl⟩
  case round =>
    obtain ⟨i, hil, rfl, HA⟩ := hrel
    by_cases hlt : i < xs.length
    case neg =>
      obtain rfl : i = xs.length := by omega
      have HE : Hid (gPat s = decide (xs.length ≤ 6)) := Lib.hid (by rw [H0.out, ← HA.out, List.drop_length]; simp [spPat])
      by_cases h6 : xs.length ≤ 6
      · go_wp2_with fail
        go_ret
        exact ⟨ret_bool (by rw [HE.out]; simp; try omega), HB.out⟩
      · go_wp2_with fail
        go_ret
        exact ⟨ret_bool (by rw [HE.out]; simp; try omega), HB.out⟩
    obtain ⟨b, off, x, hx, rfl, hbl, hc⟩ := strs_cell HROW.out hlt
    have h63 := HP.out i x hx
    have hst := spPat_drop hx
    rw [HA.out] at hst
    have HST := Lib.hid hst
    clear hx hst
    have hyes : patAt xs i x = true → spPat (xs.drop (i + 1)) = spPat xs := fun h => by have := HST.out; rw [h, Bool.true_and] at this; exact this.symm
    have hno : patAt xs i x = false → gPat s = false := fun h => by rw [H0.out, HST.out, h]; simp
    have HY := Lib.hid hyes; have HN := Lib.hid hno; clear hyes hno
    cases hl : lvl x with
    | true =>
      have HE := Lib.hid (HY.out (by unfold patAt; rw [hl]; rfl))
      have HC := Lib.hid (fun wx => hl ▸ spec_level x wx h63)
      clear hl
      go_wp2_with (go_at_call 58; refine (HC.out _).mono ?_; rintro e w' ⟨rfl, rfl⟩)
      go_round
      case rel => exact ⟨i + 1, by omega, by go_num, HE.out⟩
      case measure => simp [intOf]; omega
    | false =>
      have HC := Lib.hid (fun wx => hl ▸ spec_level x wx h63)
      by_cases h1 : x.toList = [43]
      · have HE := Lib.hid (HY.out (by unfold patAt; simp [yes_any1 h1]))
        clear hl
        go_wp2_with (go_at_call 58; refine (HC.out _).mono ?_; rintro e w' ⟨rfl, rfl⟩)
        go_round
        case rel => exact ⟨i + 1, by omega, by go_num, HE.out⟩
        case measure => simp [intOf]; omega
      have b1 : (x.toList != [43]) = true := by simp [h1]
      by_cases h2 : x.toList = [35]
      · have b2 : (x.toList != [35]) = false := by simp [h2]
        by_cases h3 : xs.length ≤ i + 1
        · have HE := Lib.hid (HY.out (by unfold patAt; simp [yes_more h2, h3]))
          clear hl
          go_wp2_with (go_at_call 58; refine (HC.out _).mono ?_; rintro e w' ⟨rfl, rfl⟩)
          go_round
          case rel => exact ⟨i + 1, by omega, by go_num, HE.out⟩
          case measure => simp [intOf]; omega
        · have HE := Lib.hid (HN.out (by unfold patAt; rw [hl]; simp [not_any1 h1, h3]))
          clear hl
          go_wp2_with (go_at_call 58; refine (HC.out _).mono ?_; rintro e w' ⟨rfl, rfl⟩)
          go_ret
          exact ⟨ret_bool HE.out.symm, HB.out⟩
      · have b2 : (x.toList != [35]) = true := by simp [h2]
        have HE := Lib.hid (HN.out (by unfold patAt; rw [hl]; simp [not_any1 h1, not_more h2]))
        clear hl
        go_wp2_with (go_at_call 58; refine (HC.out _).mono ?_; rintro e w' ⟨rfl, rfl⟩)
        try (case roundEnd => exfalso; rename_i h; simp [h1, h2] at h)
        go_ret
        exact ⟨ret_bool HE.out.symm, HB.out⟩

end Go.Proofs.YteknmjebokimjaaDoor
