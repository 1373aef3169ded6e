/- The contracts of the draws: logs and long texts. -/
import Derived.Test.YtdhkagabkhepgaaCur2
import Derived.Deep.AppendLies
namespace Go.Proofs.Ytdhkagabkhepgaa
set_option linter.unusedVariables false
open Go.ChangeShapes Go.WideShapes Go.ChangeAt Go.RowKit
set_option maxRecDepth 100000

theorem Try.infoStrC : (Try.prog.info? 9).map (fun i => (i.zero, i.size, i.bytes)) = some (some (.string ByteArray.empty), 1, 16) := by kernel_rfl
theorem strs_put (xs : List ByteArray) (x : ByteArray) : strs (xs ++ [x]) = strs xs ++ [.string x] := by simp [strs]
theorem strs_set (xs : List ByteArray) (i : Nat) (x : ByteArray) : (strs xs).set i (.string x) = strs (xs.set i x) := by simp [strs, List.map_set]
theorem strs_len (xs : List ByteArray) : (strs xs).length = xs.length := by simp [strs]
theorem lit_cells (w : World) (l : List ByteArray) (T : TypeId) (i : Nat) (x : ByteArray) (h : l[i]? = some x) : (w.alloc (.cells (l.map Value.string).toArray T)).cell? ⟨w.heap.size, 0 + i, none⟩ = some (.string x) := by
  rw [Nat.zero_add, World.cell?_alloc_new]; simp [h]
/-- what a draw may write: the cursor's block, and what was not there -/
def WS (B n : Nat) (k : Nat) : Prop := k = B ∨ n ≤ k
def longest26 : ByteArray := { data := #[97, 32, 116, 101, 120, 116, 32, 111, 102, 32, 109, 111, 114, 101, 32, 116, 104, 97, 110, 32, 116, 119, 101, 110, 116, 121] }
def LogOf (B K : Nat) (w : World) (e : Ending) (w' : World) : Prop :=
  ∃ v ss, e = .returned v ∧ w'.ownsRow w.heap.size 9 1 v ss.length (strs ss) ∧ ss.length ≤ 41 ∧ (∀ s ∈ ss, s.size ≤ 26) ∧ PC w' B (K + 100) ∧ Wrote (WS B w.heap.size) w w'
theorem ws_cur {B n : Nat} {a b : World} (h : Wrote (fun k => k = B) a b) : Wrote (WS B n) a b := h.mono fun _ _ hk => .inl hk
theorem ws_below {B n : Nat} {a b : World} (h : Below n a b) (hn : n ≤ a.heap.size) : Wrote (WS B n) a b := ⟨h.os, h.tape, h.output, h.size, fun k hk hs => h.block k (Nat.lt_of_not_le fun hc => hs (.inr hc))⟩
theorem ws_grown {B n : Nat} {a b : World} {row : Option Nat} (h : a.grownBy b row) (hr : ∀ k, row = some k → n ≤ k) : Wrote (WS B n) a b := ⟨h.os, h.tape, h.output, h.size, fun k hk hs => h.block k hk fun e => hs (.inr (hr k e.symm))⟩
theorem pc_grown {B K n : Nat} {a b : World} {row : Option Nat} (h : PC a B K) (hB : B < n) (hg : a.grownBy b row) (hr : ∀ k, row = some k → n ≤ k) : PC b B K := by
  have hl := h.lt
  obtain ⟨q, c, p, seed, cs, h1, h2, h3, h4, h5, h6, h7⟩ := h
  refine ⟨q, c, p, seed, cs, (hg.block B hl fun e => by have := hr B e.symm; omega).trans h1, h2, h3, h4, h5, h6, ?_⟩
  rcases h7 with h0 | ⟨b', off, ha, hb, hc⟩
  · exact .inl h0
  · exact .inr ⟨b', off, ha, hb, fun i u hi => hg.cell (hc i u hi) fun e => by have := hr b' e.symm; omega⟩
set_option maxHeartbeats 2000000 in
theorem cur_log (B K : Nat) (w : World) (h : PC w B K) (hK : K ≤ 800000000000) :
    Calls Try.prog 75 #[.pointer (some ⟨B, 0, none⟩)] w (LogOf B K w) := by
  obtain ⟨i0, hi, hz0, hz1, hz2⟩ := info_parts Try.infoStrC
  have hBl := h.lt
  have HP1 := Lib.hid (fun (K' : Nat) (n : Int) wx (hx : PC wx B K') (h1 : K' ≤ 900000000000) (h2 : n ≤ 2147483648) => cur_pick B K' n wx hx h1 h2)
  have HO1 := Lib.hid (fun (K' : Nat) (n : Int) wx (hx : PC wx B K') (h1 : K' ≤ 900000000000) (h2 : n ≤ 2147483648) => cur_one B K' n wx hx h1 h2)
  have HPC := Lib.hid h; clear h
  unfold LogOf
  go_enter Try.func75, Try.ntmps75
  go_wp2_with fail
  refine (HP1.out K 10 _ HPC.out (by omega) (by omega)).mono ?_
  rintro e w1 ⟨r1, rfl, hr1, hp, hw⟩
  have HPC1 := Lib.hid hp; have HW1 := Lib.hid hw; clear hp hw
  go_wp2_with fail
  refine (HO1.out _ 20 _ HPC1.out (by omega) (by omega)).mono ?_
  rintro e w2 ⟨b2, rfl, hp, hw⟩
  have HPC2 := Lib.hid hp; have HW2 := Lib.hid (HW1.out.trans hw); clear hp hw
  cases b2 with
  | false =>
    have HPCS := Lib.hid (HPC2.out.mono (show K + 2 + 2 ≤ K + 6 by omega))
    have HWS : Hid (Wrote (WS B w.heap.size) w w2) := Lib.hid (ws_cur HW2.out)
    have hr9 : r1 ≤ 41 := by omega
    go_wp2_with fail
    go_loopw [3, 4] (fun lv nv wr => ∃ (n : Nat) (v : Value) (ss : List ByteArray), nv = .int .i64 (n : Int) ∧ lv = v ∧ n + ss.length ≤ 41 ∧ Hid (wr.ownsRow w.heap.size 9 1 v ss.length (strs ss)) ∧ Hid (∀ s ∈ ss, s.size ≤ 5) ∧ Hid (PC wr B (K + 6 + 2 * ss.length)) ∧ Hid (Wrote (WS B w.heap.size) w wr)) (fun _ nv _ => (intOf nv).toNat)
    case atStart => exact ⟨r1, _, [], by go_num, rfl, by simp; try omega, Lib.hid (World.ownsRow_nil _ _ _ _), Lib.hid (by simp), HPCS.out.mono (by simp; try omega), HWS⟩
    case round =>
      obtain ⟨n, v, ss, rfl, rfl, hns, HOW, HSZ, HPR, HWR⟩ := hrel
      by_cases hn0 : 0 < n
      case neg =>
        by_cases hs0 : 0 < ss.length
        · obtain ⟨g, cp, hv, hg1, hg2⟩ := HOW.out.form (by omega)
          subst hv
          go_wp2_with fail
          refine (HO1.out _ 30 _ HPR.out (by omega) (by omega)).mono ?_
          rintro e w6 ⟨b6, rfl, hp, hw⟩
          have HP6 := Lib.hid hp; have HW6 := Lib.hid (HWR.out.trans (ws_cur hw)); have HO6 := Lib.hid (hw.own HOW.out (fun k hk => by simp only [Value.ownBlock, Option.some.injEq] at hk; omega)); clear hp hw
          cases b6 with
          | false =>
            go_wp2_with fail
            go_ret
            exact ⟨_, ss, rfl, HO6.out, by omega, fun s hs => by have := HSZ.out s hs; omega, HP6.out.mono (by omega), HW6.out⟩
          | true =>
            have f0 := HO6.out.frozenAt 0
            have c0 : w6.cell? ⟨g, 0, none⟩ = some (.string (ss.getD 0 ByteArray.empty)) := by rw [HO6.out.cellAt 0 (by omega)]; exact strs_at ss 0 hs0
            have HST := Lib.hid (HO6.out.stored 0 (.string longest26))
            rw [strs_set] at HST
            go_wp2_with fail
            go_ret
            refine ⟨_, ss.set 0 longest26, rfl, ?_, by simp; omega, ?_, ?_, ?_⟩
            · rw [List.length_set]; exact HST.out.1
            · intro s hs
              rcases List.mem_or_eq_of_mem_set hs with h | h
              · have := HSZ.out s h; omega
              · rw [h]; decide
            · exact (pc_grown HP6.out hBl HST.out.2 (fun k hk => by simp only [Option.some.injEq] at hk; omega)).mono (by omega)
            · exact HW6.out.trans (ws_grown HST.out.2 (fun k hk => by simp only [Option.some.injEq] at hk; omega))
        · obtain ⟨qa, qc, hv⟩ := form_of_own HOW.out
          subst hv
          go_wp2_with fail
          go_ret
          exact ⟨_, ss, rfl, HOW.out, by omega, fun s hs => by have := HSZ.out s hs; omega, HPR.out.mono (by omega), HWR.out⟩
      have HBL := Lib.hid ((Below.refl wr.heap.size wr).alloc (Nat.le_refl _) (.cells ([{ data := #[97] }, { data := #[98] }, { data := #[101, 110, 116, 114, 121] }, { data := #[] }, { data := #[120, 49] }].map Value.string).toArray 9))
      have HOF := Lib.hid (cur_of B (K + 6 + 2 * ss.length) [{ data := #[97] }, { data := #[98] }, { data := #[101, 110, 116, 114, 121] }, { data := #[] }, { data := #[120, 49] }] wr.heap.size 0 5 _ (HPR.out.later HBL.out) (by omega) (by decide) (by decide) (by decide) (by decide) (by have := HPR.out.lt; omega) (lit_cells wr _ _))
      have HOA := Lib.hid (own_later HOW.out HBL.out)
      have hwz := HWR.out.size
      go_wp2_with fail
      refine HOF.out.mono ?_
      rintro e w5 ⟨x, hx, rfl, hp, hw⟩
      have HX5 : Hid (x.size ≤ 5) := Lib.hid (by simp only [List.mem_cons, List.not_mem_nil, or_false] at hx; rcases hx with rfl | rfl | rfl | rfl | rfl <;> decide)
      have HP5 := Lib.hid hp
      have hw5z := hw.size
      have HO5 := Lib.hid (hw.own HOA.out (fun k hk => by have := (HOW.out.lt k hk).1; omega))
      have HW5 := Lib.hid ((HWR.out.trans (ws_below (HBL.out.mono hwz) hwz)).trans (ws_cur hw)); clear hp hx hw
      have hsz5 : wr.heap.size ≤ w5.heap.size := by have := HBL.out.size; omega
      go_wp2_with (at_builtin; refine wpList_append_own _ rfl _ _ 29 rfl w.heap.size 9 i0 (.string ByteArray.empty) 1 16 Try.underlying29 hi hz0 hz1 hz2 rfl (by decide) _ ss.length _ rfl (HO5.out.alloc _) _ 1 1 [.string x] rfl rfl (news_one _ _ _) (by simp [Value.oneCell']) (by unfold maxLen; omega) (by omega) (Nat.le_trans hwz (Nat.le_trans hsz5 (by simp))) ?_)
      intro v7 w7 hown hgrow _
      rw [← strs_put] at hown
      have HO7 : Hid (w7.ownsRow w.heap.size 9 1 v7 (ss ++ [x]).length (strs (ss ++ [x]))) := Lib.hid (by simpa using hown)
      have HB5 := (Below.refl w5.heap.size w5).alloc (Nat.le_refl _) (.cells #[.string x] 9)
      have HP7 := Lib.hid (pc_grown (HP5.out.later HB5) hBl hgrow (fun k hk => (HO5.out.lt k hk).1))
      have HW7 := Lib.hid ((HW5.out.trans (ws_below (HB5.mono (Nat.le_trans hwz hsz5)) (Nat.le_trans hwz hsz5))).trans (ws_grown hgrow (fun k hk => (HO5.out.lt k hk).1)))
      clear hown hgrow HB5
      have hn1 : ((n : Int) - 1) = ((n - 1 : Nat) : Int) := by omega
      go_wp2_with fail
      go_roundw
      case rel => exact ⟨n - 1, _, ss ++ [x], by go_num, rfl, by simp; omega, HO7, Lib.hid fun s hs => by
          rcases List.mem_append.1 hs with h | h
          · exact HSZ.out s h
          · simp at h; subst h; exact HX5.out, HP7.out.mono (by simp; omega), HW7⟩
      case measure => simp [intOf]; omega
  | true =>
    go_wp2_with fail
    refine (HP1.out _ 2 _ HPC2.out (by omega) (by omega)).mono ?_
    rintro e w3 ⟨r3, rfl, hr3, hp, hw⟩
    have HPCS : Hid (PC w3 B (K + 6)) := Lib.hid (hp.mono (by omega)); have HWS : Hid (Wrote (WS B w.heap.size) w w3) := Lib.hid (ws_cur (HW2.out.trans hw)); clear hp hw
    have hr4 : r3 ≤ 1 := by omega
    go_wp2_with fail
    go_loopw [3, 4] (fun lv nv wr => ∃ (n : Nat) (v : Value) (ss : List ByteArray), nv = .int .i64 (n : Int) ∧ lv = v ∧ n + ss.length ≤ 41 ∧ Hid (wr.ownsRow w.heap.size 9 1 v ss.length (strs ss)) ∧ Hid (∀ s ∈ ss, s.size ≤ 5) ∧ Hid (PC wr B (K + 6 + 2 * ss.length)) ∧ Hid (Wrote (WS B w.heap.size) w wr)) (fun _ nv _ => (intOf nv).toNat)
    case atStart => exact ⟨(40 + r3), _, [], by go_num, rfl, by simp; try omega, Lib.hid (World.ownsRow_nil _ _ _ _), Lib.hid (by simp), HPCS.out.mono (by simp; try omega), HWS⟩
    case round =>
      obtain ⟨n, v, ss, rfl, rfl, hns, HOW, HSZ, HPR, HWR⟩ := hrel
      by_cases hn0 : 0 < n
      case neg =>
        by_cases hs0 : 0 < ss.length
        · obtain ⟨g, cp, hv, hg1, hg2⟩ := HOW.out.form (by omega)
          subst hv
          go_wp2_with fail
          refine (HO1.out _ 30 _ HPR.out (by omega) (by omega)).mono ?_
          rintro e w6 ⟨b6, rfl, hp, hw⟩
          have HP6 := Lib.hid hp; have HW6 := Lib.hid (HWR.out.trans (ws_cur hw)); have HO6 := Lib.hid (hw.own HOW.out (fun k hk => by simp only [Value.ownBlock, Option.some.injEq] at hk; omega)); clear hp hw
          cases b6 with
          | false =>
            go_wp2_with fail
            go_ret
            exact ⟨_, ss, rfl, HO6.out, by omega, fun s hs => by have := HSZ.out s hs; omega, HP6.out.mono (by omega), HW6.out⟩
          | true =>
            have f0 := HO6.out.frozenAt 0
            have c0 : w6.cell? ⟨g, 0, none⟩ = some (.string (ss.getD 0 ByteArray.empty)) := by rw [HO6.out.cellAt 0 (by omega)]; exact strs_at ss 0 hs0
            have HST := Lib.hid (HO6.out.stored 0 (.string longest26))
            rw [strs_set] at HST
            go_wp2_with fail
            go_ret
            refine ⟨_, ss.set 0 longest26, rfl, ?_, by simp; omega, ?_, ?_, ?_⟩
            · rw [List.length_set]; exact HST.out.1
            · intro s hs
              rcases List.mem_or_eq_of_mem_set hs with h | h
              · have := HSZ.out s h; omega
              · rw [h]; decide
            · exact (pc_grown HP6.out hBl HST.out.2 (fun k hk => by simp only [Option.some.injEq] at hk; omega)).mono (by omega)
            · exact HW6.out.trans (ws_grown HST.out.2 (fun k hk => by simp only [Option.some.injEq] at hk; omega))
        · obtain ⟨qa, qc, hv⟩ := form_of_own HOW.out
          subst hv
          go_wp2_with fail
          go_ret
          exact ⟨_, ss, rfl, HOW.out, by omega, fun s hs => by have := HSZ.out s hs; omega, HPR.out.mono (by omega), HWR.out⟩
      have HBL := Lib.hid ((Below.refl wr.heap.size wr).alloc (Nat.le_refl _) (.cells ([{ data := #[97] }, { data := #[98] }, { data := #[101, 110, 116, 114, 121] }, { data := #[] }, { data := #[120, 49] }].map Value.string).toArray 9))
      have HOF := Lib.hid (cur_of B (K + 6 + 2 * ss.length) [{ data := #[97] }, { data := #[98] }, { data := #[101, 110, 116, 114, 121] }, { data := #[] }, { data := #[120, 49] }] wr.heap.size 0 5 _ (HPR.out.later HBL.out) (by omega) (by decide) (by decide) (by decide) (by decide) (by have := HPR.out.lt; omega) (lit_cells wr _ _))
      have HOA := Lib.hid (own_later HOW.out HBL.out)
      have hwz := HWR.out.size
      go_wp2_with fail
      refine HOF.out.mono ?_
      rintro e w5 ⟨x, hx, rfl, hp, hw⟩
      have HX5 : Hid (x.size ≤ 5) := Lib.hid (by simp only [List.mem_cons, List.not_mem_nil, or_false] at hx; rcases hx with rfl | rfl | rfl | rfl | rfl <;> decide)
      have HP5 := Lib.hid hp
      have hw5z := hw.size
      have HO5 := Lib.hid (hw.own HOA.out (fun k hk => by have := (HOW.out.lt k hk).1; omega))
      have HW5 := Lib.hid ((HWR.out.trans (ws_below (HBL.out.mono hwz) hwz)).trans (ws_cur hw)); clear hp hx hw
      have hsz5 : wr.heap.size ≤ w5.heap.size := by have := HBL.out.size; omega
      go_wp2_with (at_builtin; refine wpList_append_own _ rfl _ _ 29 rfl w.heap.size 9 i0 (.string ByteArray.empty) 1 16 Try.underlying29 hi hz0 hz1 hz2 rfl (by decide) _ ss.length _ rfl (HO5.out.alloc _) _ 1 1 [.string x] rfl rfl (news_one _ _ _) (by simp [Value.oneCell']) (by unfold maxLen; omega) (by omega) (Nat.le_trans hwz (Nat.le_trans hsz5 (by simp))) ?_)
      intro v7 w7 hown hgrow _
      rw [← strs_put] at hown
      have HO7 : Hid (w7.ownsRow w.heap.size 9 1 v7 (ss ++ [x]).length (strs (ss ++ [x]))) := Lib.hid (by simpa using hown)
      have HB5 := (Below.refl w5.heap.size w5).alloc (Nat.le_refl _) (.cells #[.string x] 9)
      have HP7 := Lib.hid (pc_grown (HP5.out.later HB5) hBl hgrow (fun k hk => (HO5.out.lt k hk).1))
      have HW7 := Lib.hid ((HW5.out.trans (ws_below (HB5.mono (Nat.le_trans hwz hsz5)) (Nat.le_trans hwz hsz5))).trans (ws_grown hgrow (fun k hk => (HO5.out.lt k hk).1)))
      clear hown hgrow HB5
      have hn1 : ((n : Int) - 1) = ((n - 1 : Nat) : Int) := by omega
      go_wp2_with fail
      go_roundw
      case rel => exact ⟨n - 1, _, ss ++ [x], by go_num, rfl, by simp; omega, HO7, Lib.hid fun s hs => by
          rcases List.mem_append.1 hs with h | h
          · exact HSZ.out s h
          · simp at h; subst h; exact HX5.out, HP7.out.mono (by simp; omega), HW7⟩
      case measure => simp [intOf]; omega
end Go.Proofs.Ytdhkagabkhepgaa
