/- A trie under way: where its build stands; the pieces of a text, in memory of their own. -/
import Derived.Test.YteknmjebokimjaaDoorBldP
namespace Go.Proofs.YteknmjebokimjaaDoor
set_option linter.unusedVariables false
open Go.ChangeShapes Go.WideShapes Go.ChangeAt Go.RowKit
set_option maxRecDepth 100000

def bT (l : List (ByteArray × Int)) (i : Nat) : List Nd := (l.take i).foldl addT [root0]
def fT (t : List Nd) (ps : List ByteArray) (j : Nat) : List Nd × Nat := (ps.take j).foldl downT (t, 0)
theorem bT_full (l : List (ByteArray × Int)) : bT l l.length = buildR l := by unfold bT; rw [List.take_length]; rfl
theorem bT_next {l : List (ByteArray × Int)} {i : Nat} {x : ByteArray × Int} (h : l[i]? = some x) : bT l (i + 1) = putT (fT (bT l i) (pieces 47 x.1) (pieces 47 x.1).length).1 (fT (bT l i) (pieces 47 x.1) (pieces 47 x.1).length).2 x.2 := by
  unfold bT fT
  rw [take_next l i x h, List.foldl_append, List.take_length]; rfl
theorem fT_yes {t : List Nd} {ps : List ByteArray} {j : Nat} {x : ByteArray} (h : ps[j]? = some x) (hk : 0 ≤ kidR (fT t ps j).1 (fT t ps j).2 x) : fT t ps (j + 1) = ((fT t ps j).1, (kidR (fT t ps j).1 (fT t ps j).2 x).toNat) := by
  have : fT t ps (j + 1) = stepT (fT t ps j).1 (fT t ps j).2 x := by unfold fT; rw [take_next ps j x h, List.foldl_append]; rfl
  rw [this]; unfold stepT; rw [if_pos hk]
theorem fT_no {t : List Nd} {ps : List ByteArray} {j : Nat} {x : ByteArray} (h : ps[j]? = some x) (hk : ¬ 0 ≤ kidR (fT t ps j).1 (fT t ps j).2 x) : fT t ps (j + 1) = ((fT t ps j).1 ++ [(x, ((fT t ps j).2 : Int), [])], (fT t ps j).1.length) := by
  have : fT t ps (j + 1) = stepT (fT t ps j).1 (fT t ps j).2 x := by unfold fT; rw [take_next ps j x h, List.foldl_append]; rfl
  rw [this]; unfold stepT; rw [if_neg hk]
theorem fT_inv {n d : Nat} {t : List Nd} (h : TI n d t) {ps : List ByteArray} (hp : ∀ x ∈ ps, x.size ≤ 1048576) (j : Nat) (hj : j ≤ ps.length) : TI (n + j) d (fT t ps j).1 ∧ (fT t ps j).2 < (fT t ps j).1.length := by
  have h1 := TI.fold (ps.take j) n t 0 h h.one (fun x hx => hp x (List.mem_of_mem_take hx))
  rw [List.length_take, Nat.min_eq_left hj] at h1
  exact h1
theorem TN.start (w : World) : TN w.heap.size (w.alloc (.cells #[.string { data := #[] }, .int .i64 (-1), .slice none 0 0] 58)) w.heap.size 1 [[.string { data := #[] }, .int .i64 (-1), .slice none 0 0]] [[]] [root0] :=
  ⟨⟨rfl, .inr ⟨w.heap.size, 1, #[.string { data := #[] }, .int .i64 (-1), .slice none 0 0], rfl, Nat.le_refl _, heap_alloc_new _ _, Nat.le_refl _, by unfold maxLen; omega, rfl, rfl⟩⟩,
   ⟨TrieNode_owm (x := root0) (by unfold maxLen; show (0 : Nat) ≤ _; omega) (by decide) ⟨.slice none 0 0, [], [], rfl, World.ownsRow_nil _ _ _ _, trivial, rfl, List.nodup_nil⟩, trivial⟩, by simp, by simp⟩
theorem kidR_cases (t : List Nd) (u : Int) (s : ByteArray) : kidR t u s = -1 ∨ (0 ≤ kidR t u s ∧ (kidR t u s).toNat < t.length) := by
  rcases Int.lt_or_le (kidR t u s) 0 with h | h
  · exact .inl (kid_no (kid_none.1 h))
  · exact .inr ⟨h, (kid_lt h).1⟩
/-- a node's Whos, told by what it is -/
theorem TN.nil_or {n0 : Nat} {w : World} {a : Option Addr} {c : Nat} {xs : List Int} (h : w.ownsRow n0 3 1 (.slice a xs.length c) xs.length (ints xs)) : (a = none ∧ c = 0 ∧ xs = []) ∨ ∃ g, a = some ⟨g, 0, none⟩ := by
  rcases h.2 with ⟨hv, h0⟩ | ⟨g, cap, cur, hv, _⟩
  · simp only [Value.slice.injEq] at hv
    exact .inl ⟨hv.1, hv.2.2, List.length_eq_zero_iff.1 h0⟩
  · simp only [Value.slice.injEq] at hv
    exact .inr ⟨g, hv.1⟩

def SplitOwn (s : ByteArray) (w : World) (e : Ending) (w' : World) : Prop :=
  ∃ v, e = .returned v ∧ w'.ownsRow w.heap.size 9 1 v (pieces 47 s).length (strs (pieces 47 s)) ∧ Below w.heap.size w w'
set_option maxHeartbeats 2000000 in
theorem spec_splitO (s : ByteArray) (w : World) (hs : s.size ≤ 1048576) : Calls Tryd.prog 53 #[.string s, .int .u8 47] w (SplitOwn s w) := by
  obtain ⟨i0, hi, hz0, hz1, hz2⟩ := info_parts Tryd.infoStr
  go_enter Tryd.func53, Tryd.ntmps53
  go_wp2_with fail
  go_loopw [5, 6, 7] (fun ov fv iv wr => ∃ (i f : Nat) (out : List ByteArray), i ≤ s.size ∧ f ≤ i ∧ iv = .int .i64 (i : Int) ∧ fv = .int .i64 (f : Int) ∧ Hid (Cut 47 s i f out) ∧ out.length ≤ i ∧ Hid (wr.ownsRow w.heap.size 9 1 ov out.length (strs out)) ∧ Hid (Below w.heap.size w wr)) (fun _ _ iv _ => s.size - (intOf iv).toNat)
  case atStart => exact ⟨0, 0, [], by omega, by omega, rfl, rfl, cut_start _ _, by simp, World.ownsRow_nil _ _ _ _, Below.refl _ _⟩
  case round =>
    obtain ⟨i, f, out, hil, hfi, rfl, rfl, HC, hol, HO, HB⟩ := hrel
    have HC3 : Hid (out.length + 1 ≤ maxLen) := Lib.hid (by unfold maxLen; omega)
    have HC4 : Hid ((out.length + 1) * 16 ≤ 140737488355328) := Lib.hid (by omega)
    by_cases hlt : i < s.size
    case neg =>
      obtain rfl : i = s.size := by omega
      have HE := Lib.hid (cut_end HC.out)
      go_wp2_with (at_builtin; refine wpList_append_own _ rfl _ _ 59 rfl w.heap.size 9 i0 (.string ByteArray.empty) 1 16 Tryd.underlying59 hi hz0 hz1 hz2 rfl (by decide) _ out.length _ rfl (HO.out.alloc _) _ 1 1 [.string _] rfl rfl (news_one _ _ _) (by simp [Value.oneCell']) HC3.out HC4.out (Nat.le_trans HB.out.size (by simp)) ?_)
      intro v' w2 hown hgrow hnil
      have hbw : Below w.heap.size w w2 := Below.grown (HB.out.alloc HB.out.size _) hgrow (Nat.le_trans HB.out.size (by simp)) (fun j hj => (HO.out.lt j hj).1)
      have HOW := Lib.hid hown; have HBW := Lib.hid hbw; clear hown hgrow hnil hbw
      go_wp2_with fail
      go_ret
      have ho := HOW.out
      rw [← strs_snoc, HE.out] at ho
      have hlen : (pieces 47 s).length = out.length + 1 := by rw [← HE.out]; simp
      rw [← hlen] at ho
      exact ⟨_, rfl, ho, HBW.out⟩
    by_cases he : (s[i].toNat : Int) = 47
    · have HN := Lib.hid (cut_yes HC.out hlt (UInt8.toNat_inj.1 (by show s[i].toNat = 47; omega)))
      go_wp2_with (at_builtin; refine wpList_append_own _ rfl _ _ 59 rfl w.heap.size 9 i0 (.string ByteArray.empty) 1 16 Tryd.underlying59 hi hz0 hz1 hz2 rfl (by decide) _ out.length _ rfl (HO.out.alloc _) _ 1 1 [.string _] rfl rfl (news_one _ _ _) (by simp [Value.oneCell']) HC3.out HC4.out (Nat.le_trans HB.out.size (by simp)) ?_)
      intro v' w2 hown hgrow hnil
      have hbw : Below w.heap.size w w2 := Below.grown (HB.out.alloc HB.out.size _) hgrow (Nat.le_trans HB.out.size (by simp)) (fun j hj => (HO.out.lt j hj).1)
      have HOW := Lib.hid hown; have HBW := Lib.hid hbw; clear hown hgrow hnil hbw
      go_wp2_with fail
      go_roundw
      case rel => exact ⟨i + 1, i + 1, _, by omega, by omega, by go_num, by go_num, HN.out, by simp; omega, by rw [strs_snoc, List.length_append]; exact HOW.out, HBW.out⟩
      case measure => simp [intOf]; omega
    · have HN := Lib.hid (cut_no HC.out hlt (fun e => he (by rw [e]; rfl)))
      have hee : ((s[i].toNat : Int) == 47) = false := by simp [he]
      go_wp2_with fail
      go_roundw
      case rel => exact ⟨i + 1, f, out, by omega, by omega, by go_num, rfl, HN.out, by omega, HO.out, HB.out⟩
      case measure => simp [intOf]; omega

set_option maxHeartbeats 2000000 in
theorem levels_at (s : ByteArray) (w : World) (m : Int) (hs : s.size ≤ 1048576) (hm : w.cell? ⟨0, 0, none⟩ = some (.int .i64 m)) (hg : gPat s = true) : Calls Tryd.prog 44 #[.string s] w fun e w' => e = .returned (.slice (some ⟨w.heap.size, 0, none⟩) (pieces 47 s).length (pieces 47 s).length) ∧ Rw w' (some ⟨w.heap.size, 0, none⟩) (strs (pieces 47 s)) ∧ Below w.heap.size w w' := by
  have HSP := Lib.hid (fun (wx : World) (mx : Int) (h : wx.cell? ⟨0, 0, none⟩ = some (.int .i64 mx)) => Tryd.strings_Split s { data := #[47] } mx wx (by omega) h (by decide))
  have hn := pieces_le 47 s
  have hn1 : 1 ≤ (pieces 47 s).length := by have := pieces_ne 47 s; rcases hp : pieces 47 s with _ | ⟨x, r⟩; · exact absurd hp this
                                            · simp
  have H63 : Hid (∀ x ∈ pieces 47 s, x.size ≤ 9223372036854775807) := Lib.hid fun x hx => by have := pieces_size 47 s x hx; omega
  have HAL := Lib.hid (rw_alloc w (pieces 47 s) 9)
  rw [splitB_pieces] at HSP
  rw [countB_pieces] at HSP
  have HCM := Lib.hid (fun n => contains_more ((pieces 47 s).take n))
  have HDL := Lib.hid (dropLast_take (pieces 47 s))
  have HCE : Hid (∀ j, j < (pieces 47 s).length → (w.alloc (.cells ((pieces 47 s).map Value.string).toArray 9)).cell? ⟨w.heap.size, 0 + j, none⟩ = some (.string ((pieces 47 s).getD j ByteArray.empty))) := Lib.hid fun j hj => by
    rcases HAL.out with h | ⟨b, off, ha, _, hc⟩
    · have := congrArg List.length h; simp at this; rw [this] at hj; simp at hj
    · simp only [Option.some.injEq, Addr.mk.injEq, and_true] at ha
      obtain ⟨rfl, rfl⟩ := ha
      exact hc j _ (by simp [strs, hj])
  rcases gPat_cases s with ⟨h6, h⟩ | ⟨h6, h7, h⟩ | ⟨h6, h7, h⟩
  · rw [hg] at h; cases h
  · rw [hg] at h; cases h
  have h8 : (pieces 47 s).dropLast.any (fun x => decide (x = more)) = false := by rw [hg] at h; simpa using h.symm
  have HC1 := Lib.hid (fun (wx : World) (b off cap : Nat) (hrow : Rw wx (some ⟨b, off, none⟩) (strs (pieces 47 s))) => has_lev (some ⟨b, off, none⟩) cap (pieces 47 s) wx hrow (by omega) H63.out)
  rw [h7] at HC1
  rw [HDL.out, ← HCM.out] at h8
  have HC2 := Lib.hid (fun (wx : World) (b off cap : Nat) (hc : ∀ j, j < (pieces 47 s).length → wx.cell? ⟨b, off + j, none⟩ = some (.string ((pieces 47 s).getD j ByteArray.empty))) => Tryd.slices_Contains_string b off ((pieces 47 s).length - 1) cap (pieces 47 s) { data := #[35] } wx (by omega) (by omega) hc)
  rw [h8] at HC2
  clear h h7 h8 hg HDL HCM H63
  generalize pieces 47 s = xs at *
  have hi1 : ((xs.length : Int) - 1).toNat = xs.length - 1 := by omega
  have hi2 : (0 : Int) ≤ (xs.length : Int) - 1 := by omega
  go_enter Tryd.func44, Tryd.ntmps44
  go_wp2_with fail
  refine (HSP.out _ m hm).mono ?_
  rintro e w1 ⟨rfl, rfl⟩
  go_wp2_with (go_at_call 59; refine (HC1.out _ _ _ _ HAL.out).mono ?_; rintro e w' ⟨rfl, rfl⟩)
  all_goals try (go_at_call 75; refine (HC2.out _ _ _ _ HCE.out).mono ?_; rintro e w' ⟨rfl, rfl⟩; go_wp2_with fail)
  all_goals (go_ret; exact ⟨rfl, HAL.out, (Below.refl _ _).alloc (Nat.le_refl _) _⟩)

end Go.Proofs.YteknmjebokimjaaDoor
