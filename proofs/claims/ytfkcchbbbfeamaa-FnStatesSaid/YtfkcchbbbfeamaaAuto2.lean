/- The contracts of the reference's texts of the states, of LongestEnd and StepState, and of the program's longest ending. -/
import Derived.Test.YtfkcchbbbfeamaaAuto1
import Derived.OwnWalk
import Derived.Laws.BytesArg
namespace Go.Proofs.Ytfkcchbbbfeamaa
set_option linter.unusedVariables false
open Go.ChangeShapes Go.WideShapes Go.ChangeAt Go.RowKit
set_option maxRecDepth 100000

theorem Try.infoStrD : (Try.prog.info? 9).map (fun i => (i.zero, i.size, i.bytes)) = some (some (.string ByteArray.empty), 1, 16) := by kernel_rfl
theorem strs_put (xs : List ByteArray) (x : ByteArray) : strs (xs ++ [x]) = strs xs ++ [.string x] := by simp [strs]
theorem words_next {ws : List ByteArray} {k : Nat} (h : k < ws.length) (i : List ByteArray) : (ws.take (k + 1)).foldl wordT i = wordT ((ws.take k).foldl wordT i) (ws.getD k ByteArray.empty) := by
  rw [List.take_succ_eq_append_getElem h, List.foldl_append, List.getD, List.getElem?_eq_getElem h]; rfl
theorem prefs_next (s : ByteArray) (m : Nat) (i : List ByteArray) : (prefsN s (m + 1)).foldl putT i = putT ((prefsN s m).foldl putT i) (s.extract 0 (m + 1)) := by
  rw [prefsN_succ, List.foldl_append]; rfl
def MadeStrs (l : List ByteArray) (w : World) (e : Ending) (w' : World) : Prop := ∃ v, e = .returned v ∧ w'.ownsRow w.heap.size 9 1 v l.length (strs l) ∧ Below w.heap.size w w'
theorem texts_len {ws : List ByteArray} (h : wordsB ws = true) : (textsR ws).length ≤ 161 := by
  obtain ⟨h1, h2⟩ := wordsB_of h
  have := fold_words_len ws [ByteArray.empty] (fun w hw => (h2 w hw).2)
  unfold textsR
  simp at this ⊢; omega
theorem starts_size {ws : List ByteArray} (h : wordsB ws = true) {t : ByteArray} (ht : startsB ws t = true) : t.size ≤ 20 := by
  rcases starts_iff.1 ht with h0 | ⟨w, hw, hp⟩
  · omega
  · have := hp.length_le
    rw [bL_size, bL_size] at this
    have := ((wordsB_of h).2 w hw).2; omega
set_option maxHeartbeats 2000000 in
theorem spec_texts (a : Option Addr) (cap : Nat) (ws : List ByteArray) (w : World) (hrow : Rw w a (strs ws)) (hb : wordsB ws = true) :
    Calls Try.prog 60 #[.slice a ws.length cap] w (MadeStrs (textsR ws) w) := by
  obtain ⟨hl8, hsz⟩ := wordsB_of hb
  obtain ⟨i0, hi, hz0, hz1, hz2⟩ := info_parts Try.infoStrD
  have HE : Hid ((ws.take ws.length).foldl wordT [ByteArray.empty] = textsR ws) := Lib.hid (by rw [List.take_length]; rfl)
  have HW := Lib.hid (fun k (h : k < ws.length) i => words_next (ws := ws) h i)
  have HR := Lib.hid hrow
  have HO0 : Hid ((w.alloc (.cells #[.string { data := #[] }] 9)).ownsRow w.heap.size 9 1 (.slice (some ⟨w.heap.size, 0, none⟩) 1 1) ([ByteArray.empty] : List ByteArray).length (strs [ByteArray.empty])) := Lib.hid (by
    have := World.ownsRow_lit (base := w.heap.size) (e := 9) (size := 1) w #[.string { data := #[] }] 1 (by simp) (by decide) rfl
    rw [show strs [ByteArray.empty] = [.string { data := #[] }] from rfl]
    simpa using this)
  have HB0 := Lib.hid ((Below.refl w.heap.size w).alloc (Nat.le_refl _) (.cells #[.string { data := #[] }] 9))
  have HSZ := Lib.hid hsz
  clear hb hrow hsz
  unfold MadeStrs
  generalize textsR ws = tx at *
  go_enter Try.func60, Try.ntmps60
  go_wp2_with fail
  go_loopw [3, 10] (fun v i wr => ∃ (k : Nat) (acc : List ByteArray), k ≤ ws.length ∧ i = .int .i64 (k : Int) ∧ acc.length ≤ 1 + 20 * k ∧ Hid ((ws.take k).foldl wordT [ByteArray.empty] = acc) ∧ Hid (wr.ownsRow w.heap.size 9 1 v acc.length (strs acc)) ∧ Hid (Below w.heap.size w wr)) (fun _ i _ => ws.length - (intOf i).toNat)
  case atStart => exact ⟨0, [ByteArray.empty], Nat.zero_le _, rfl, by simp, rfl, HO0, HB0⟩
  case round =>
    obtain ⟨wo, rfl⟩ : ∃ z : World, z = wr := ⟨_, rfl⟩
    obtain ⟨k, acc, hk, rfl, hal, HF, HO, HB⟩ := hrel
    obtain ⟨qa, qc, hv⟩ := form_of_own HO.out
    subst hv
    by_cases hlk : k < ws.length
    case neg =>
      obtain rfl : k = ws.length := by omega
      have he := HE.out.symm.trans HF.out
      subst he
      go_wp2_with fail
      go_ret
      exact ⟨_, rfl, HO.out, HB.out⟩
    obtain ⟨b, off, rfl, hbl, hc⟩ := (HR.out.below HB.out).at (strs_ne hlk)
    have hc1 := hc k _ (strs_at ws k hlk)
    have hs20 := (HSZ.out (ws.getD k ByteArray.empty) (by rw [List.getD, List.getElem?_eq_getElem hlk]; exact List.getElem_mem hlk)).2
    have HN := Lib.hid (HW.out k hlk [ByteArray.empty])
    clear hc hbl
    generalize ws.getD k ByteArray.empty = s at *
    go_wp2_with fail
    go_loopw [3, 6] (fun v2 n wr => ∃ (m : Nat) (acc2 : List ByteArray), m ≤ s.size ∧ n = .int .i64 ((m : Int) + 1) ∧ acc2.length ≤ 1 + 20 * k + m ∧ Hid ((prefsN s m).foldl putT acc = acc2) ∧ Hid (wr.ownsRow w.heap.size 9 1 v2 acc2.length (strs acc2)) ∧ Hid (Below w.heap.size w wr)) (fun _ n _ => s.size + 1 - (intOf n).toNat)
    case atStart => exact ⟨0, acc, Nat.zero_le _, rfl, by omega, rfl, HO, HB⟩
    case round =>
      obtain ⟨m, acc2, hm, rfl, hal2, HF2, HO2, HB2⟩ := hrel
      obtain ⟨qa2, qc2, hv⟩ := form_of_own HO2.out
      subst hv
      by_cases hms : m < s.size
      case neg =>
        obtain rfl : m = s.size := by omega
        go_wp2_with fail
        go_roundw
        case rel => exact ⟨k + 1, acc2, by omega, by go_num, by omega, Lib.hid (by rw [HN.out, HF.out]; exact HF2.out), HO2, HB2⟩
        case measure => simp [intOf]; omega
      have e1 : ((m : Int) + 1).toNat = m + 1 := by omega
      have e2 : (m : Int) + 1 ≤ (s.size : Int) := by omega
      have e3 : (0 : Int) ≤ (m : Int) + 1 := by omega
      have hxs : (s.extract 0 (m + 1)).size ≤ 20 := by rw [ex_size _ _ _ (by omega)]; omega
      have HP := Lib.hid (prefs_next s m acc)
      have HAT := Lib.hid (spec_at qa2 qc2 acc2 (s.extract 0 (m + 1)) wr (own_rw HO2.out) (by omega))
      generalize hx : s.extract 0 (m + 1) = x at *
      by_cases hin : x ∈ acc2
      · obtain ⟨j, hj, _⟩ := at_mem hin
        rw [hj] at HAT
        have hput := put_yes hin
        have HP2 : Hid ((prefsN s (m + 1)).foldl putT acc = acc2) := Lib.hid (by rw [HP.out, HF2.out]; exact hput)
        clear hput hin hj
        go_wp2_with fail
        refine HAT.out.mono ?_
        rintro e w' ⟨rfl, rfl⟩
        go_wp2_with fail
        go_roundw
        case rel => exact ⟨m + 1, acc2, by omega, by go_num, by omega, HP2, HO2, HB2⟩
        case measure => simp [intOf]; omega
      · rw [at_none hin] at HAT
        have HP2 : Hid ((prefsN s (m + 1)).foldl putT acc = acc2 ++ [x]) := Lib.hid (by rw [HP.out, HF2.out]; exact put_no hin)
        clear hin
        go_wp2_with fail
        refine HAT.out.mono ?_
        rintro e w' ⟨rfl, rfl⟩
        have hwz := HB2.out.size
        have hsx : s.extract 0 (m + 1) = x := hx
        go_wp2_with (at_builtin; refine wpList_append_own _ rfl _ _ 39 rfl w.heap.size 9 i0 (.string ByteArray.empty) 1 16 Try.underlying39 hi hz0 hz1 hz2 rfl (by decide) _ acc2.length _ rfl (HO2.out.alloc _) _ 1 1 [.string x] rfl rfl (news_one _ _ _) (by simp [Value.oneCell']) (by unfold maxLen; omega) (by omega) (by simp; omega) ?_)
        intro v7 w7 hown hgrow _
        rw [← strs_put] at hown
        have HO7 : Hid (w7.ownsRow w.heap.size 9 1 v7 (acc2 ++ [x]).length (strs (acc2 ++ [x]))) := Lib.hid (by simpa using hown)
        have HB7 : Hid (Below w.heap.size w w7) := Lib.hid (Below.grown (HB2.out.alloc hwz (.cells #[.string x] 9)) hgrow (by simp; omega) (fun j hj => (HO2.out.lt j hj).1))
        clear hown hgrow
        go_wp2_with fail
        go_roundw
        case rel => exact ⟨m + 1, acc2 ++ [x], by omega, by go_num, by rw [List.length_append]; simp; omega, HP2, HO7, HB7⟩
        case measure => simp [intOf]; omega
end Go.Proofs.Ytfkcchbbbfeamaa
