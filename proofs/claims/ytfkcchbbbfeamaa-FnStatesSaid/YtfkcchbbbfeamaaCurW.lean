/- The contracts of the draws of word lists: what is drawn is only bounded. -/
import Derived.Test.YtfkcchbbbfeamaaCurS
namespace Go.Proofs.Ytfkcchbbbfeamaa
set_option linter.unusedVariables false
open Go.ChangeShapes Go.WideShapes Go.ChangeAt Go.RowKit
set_option maxRecDepth 100000

def WordsOf (B K : Nat) (w : World) (e : Ending) (w' : World) : Prop :=
  ∃ v ss, e = .returned v ∧ w'.ownsRow w.heap.size 9 1 v ss.length (strs ss) ∧ ss.length ≤ 9 ∧ (∀ s ∈ ss, s.size ≤ 21) ∧ PC w' B (K + 40) ∧ Wrote (WS B w.heap.size) w w'
set_option maxHeartbeats 2000000 in
theorem cur_words (B K : Nat) (w : World) (h : PC w B K) (hK : K ≤ 700000000000) :
    Calls Try.prog 71 #[.pointer (some ⟨B, 0, none⟩)] w (WordsOf B K w) := by
  obtain ⟨i0, hi, hz0, hz1, hz2⟩ := info_parts Try.infoStrC
  have hBl := h.lt
  have HP1 := Lib.hid (fun (K' : Nat) (n : Int) wx (hx : PC wx B K') (h1 : K' ≤ 900000000000) (h2 : n ≤ 2147483648) => cur_pick B K' n wx hx h1 h2)
  have HO1 := Lib.hid (fun (K' : Nat) (n : Int) wx (hx : PC wx B K') (h1 : K' ≤ 900000000000) (h2 : n ≤ 2147483648) => cur_one B K' n wx hx h1 h2)
  have HWD := Lib.hid (fun (K' : Nat) wx (hx : PC wx B K') (h1 : K' ≤ 800000000000) => cur_word B K' wx hx h1)
  have HPC := Lib.hid h; clear h
  unfold WordsOf
  go_enter Try.func71, Try.ntmps71
  go_wp2_with fail
  refine (HP1.out K 6 _ HPC.out (by omega) (by omega)).mono ?_
  rintro e w1 ⟨r1, rfl, hr1, hp, hw⟩
  have HPC1 := Lib.hid hp; have HW1 := Lib.hid hw; clear hp hw
  go_wp2_with fail
  refine (HO1.out _ 20 _ HPC1.out (by omega) (by omega)).mono ?_
  rintro e w2 ⟨b2, rfl, hp, hw⟩
  have HPC2 := Lib.hid hp; have HW2 := Lib.hid (HW1.out.trans hw); clear hp hw
  cases b2 with
  | false =>
    have HPCS := Lib.hid (HPC2.out.mono (show K + 2 + 2 ≤ K + 6 by omega))
    have HWS : Hid (Wrote (WS B w.heap.size) w w2) := Lib.hid (ws_cur HW2.out)
    have hr9 : r1 ≤ 9 := by omega
    go_wp2_with fail
    go_loopw [3, 4] (fun lv nv wr => ∃ (n : Nat) (v : Value) (ss : List ByteArray), nv = .int .i64 (n : Int) ∧ lv = v ∧ n + ss.length ≤ 9 ∧ Hid (wr.ownsRow w.heap.size 9 1 v ss.length (strs ss)) ∧ Hid (∀ s ∈ ss, s.size ≤ 4) ∧ Hid (PC wr B (K + 6 + 2 * ss.length)) ∧ Hid (Wrote (WS B w.heap.size) w wr)) (fun _ nv _ => (intOf nv).toNat)
    case atStart => exact ⟨r1, _, [], by go_num, rfl, by simp; try omega, Lib.hid (World.ownsRow_nil _ _ _ _), Lib.hid (by simp), HPCS.out.mono (by simp; try omega), HWS⟩
    case round =>
      obtain ⟨n, v, ss, rfl, rfl, hns, HOW, HSZ, HPR, HWR⟩ := hrel
      by_cases hn0 : 0 < n
      case neg =>
        by_cases hs0 : 0 < ss.length
        · obtain ⟨g, cp, hv, hg1, hg2⟩ := HOW.out.form (by omega)
          subst hv
          go_wp2_with fail
          refine (HO1.out _ 20 _ HPR.out (by omega) (by omega)).mono ?_
          rintro e w6 ⟨b6, rfl, hp, hw⟩
          have HP6 := Lib.hid hp; have HW6 := Lib.hid (HWR.out.trans (ws_cur hw)); have HO6 := Lib.hid (hw.own HOW.out (fun k hk => by simp only [Value.ownBlock, Option.some.injEq] at hk; omega)); clear hp hw
          cases b6 with
          | false =>
            go_wp2_with fail
            go_ret
            exact ⟨_, ss, rfl, HO6.out, by omega, fun s hs => by have := HSZ.out s hs; omega, HP6.out.mono (by omega), HW6.out⟩
          | true =>
            have HBL := Lib.hid ((Below.refl w6.heap.size w6).alloc (Nat.le_refl _) (.cells ([{ data := #[] }, { data := #[49, 50, 51, 52, 53, 54, 55, 56, 57, 48, 49, 50, 51, 52, 53, 54, 55, 56, 57, 48] }, { data := #[49, 50, 51, 52, 53, 54, 55, 56, 57, 48, 49, 50, 51, 52, 53, 54, 55, 56, 57, 48, 49] }].map Value.string).toArray 9))
            have HOF := Lib.hid (cur_of B _ [{ data := #[] }, { data := #[49, 50, 51, 52, 53, 54, 55, 56, 57, 48, 49, 50, 51, 52, 53, 54, 55, 56, 57, 48] }, { data := #[49, 50, 51, 52, 53, 54, 55, 56, 57, 48, 49, 50, 51, 52, 53, 54, 55, 56, 57, 48, 49] }] w6.heap.size 0 3 _ (HP6.out.later HBL.out) (by omega) (by decide) (by decide) (by decide) (by decide) (by have := HP6.out.lt; omega) (lit_cells w6 _ _))
            have HOA := Lib.hid (own_later HO6.out HBL.out)
            have hwz := HW6.out.size
            go_wp2_with fail
            refine HOF.out.mono ?_
            rintro e w7 ⟨x, hx, rfl, hp, hw⟩
            have HX7 : Hid (x.size ≤ 21) := Lib.hid (by simp only [List.mem_cons, List.not_mem_nil, or_false] at hx; rcases hx with rfl | rfl | rfl <;> decide)
            have HP7 := Lib.hid hp
            have HO7 := Lib.hid (hw.own HOA.out (fun k hk => by simp only [Value.ownBlock, Option.some.injEq] at hk; omega))
            have HW7 := Lib.hid ((HW6.out.trans (ws_below (HBL.out.mono hwz) hwz)).trans (ws_cur hw)); clear hp hx hw
            have f0 := HO7.out.frozenAt 0
            have c0 : w7.cell? ⟨g, 0, none⟩ = some (.string (ss.getD 0 ByteArray.empty)) := by rw [HO7.out.cellAt 0 (by omega)]; exact strs_at ss 0 hs0
            have HST := Lib.hid (HO7.out.stored 0 (.string x))
            rw [strs_set] at HST
            go_wp2_with fail
            go_ret
            refine ⟨_, ss.set 0 x, rfl, ?_, by simp; omega, ?_, ?_, ?_⟩
            · rw [List.length_set]; exact HST.out.1
            · intro s hs
              rcases List.mem_or_eq_of_mem_set hs with h | h
              · have := HSZ.out s h; omega
              · rw [h]; exact HX7.out
            · exact (pc_grown HP7.out hBl HST.out.2 (fun k hk => by simp only [Option.some.injEq] at hk; omega)).mono (by omega)
            · exact HW7.out.trans (ws_grown HST.out.2 (fun k hk => by simp only [Option.some.injEq] at hk; omega))
        · obtain ⟨qa, qc, hv⟩ := form_of_own HOW.out
          subst hv
          go_wp2_with fail
          go_ret
          exact ⟨_, ss, rfl, HOW.out, by omega, fun s hs => by have := HSZ.out s hs; omega, HPR.out.mono (by omega), HWR.out⟩
      have hwz := HWR.out.size
      go_wp2_with fail
      refine (HWD.out _ _ HPR.out (by omega)).mono ?_
      rintro e w5 ⟨x, rfl, hx, hp, hw⟩
      have HX5 : Hid (x.size ≤ 4) := Lib.hid hx
      have HP5 := Lib.hid hp
      have hw5z := hw.size
      have HO5 := Lib.hid (hw.own HOW.out (fun k hk => by have := HOW.out.lt k hk; rintro (h | h) <;> omega))
      have HW5 := Lib.hid (HWR.out.trans (hw.mono (fun k _ hk => by rcases hk with h | h; exact .inl h; exact .inr (Nat.le_trans hwz h)))); clear hp hx hw
      go_wp2_with (at_builtin; refine wpList_append_own _ rfl _ _ 39 rfl w.heap.size 9 i0 (.string ByteArray.empty) 1 16 Try.underlying39 hi hz0 hz1 hz2 rfl (by decide) _ ss.length _ rfl (HO5.out.alloc _) _ 1 1 [.string x] rfl rfl (news_one _ _ _) (by simp [Value.oneCell']) (by unfold maxLen; omega) (by omega) (Nat.le_trans hwz (Nat.le_trans hw5z (by simp))) ?_)
      intro v7 w7 hown hgrow _
      rw [← strs_put] at hown
      have HO7 : Hid (w7.ownsRow w.heap.size 9 1 v7 (ss ++ [x]).length (strs (ss ++ [x]))) := Lib.hid (by simpa using hown)
      have HB5 := (Below.refl w5.heap.size w5).alloc (Nat.le_refl _) (.cells #[.string x] 9)
      have HP7 := Lib.hid (pc_grown (HP5.out.later HB5) hBl hgrow (fun k hk => (HO5.out.lt k hk).1))
      have HW7 := Lib.hid ((HW5.out.trans (ws_below (HB5.mono (Nat.le_trans hwz hw5z)) (Nat.le_trans hwz hw5z))).trans (ws_grown hgrow (fun k hk => (HO5.out.lt k hk).1)))
      clear hown hgrow HB5
      have hn1 : ((n : Int) - 1) = ((n - 1 : Nat) : Int) := by omega
      go_wp2_with fail
      go_roundw
      case rel => exact ⟨n - 1, _, ss ++ [x], by go_num, rfl, by simp; omega, HO7, Lib.hid fun s hs => by
          rcases List.mem_append.1 hs with h | h
          · exact HSZ.out s h
          · simp at h; subst h; exact HX5.out, HP7.out.mono (by simp; omega), HW7⟩
      case measure => simp [intOf]; omega
  | true =>
    go_wp2_with fail
    refine (HP1.out _ 2 _ HPC2.out (by omega) (by omega)).mono ?_
    rintro e w3 ⟨r3, rfl, hr3, hp, hw⟩
    have HPCS : Hid (PC w3 B (K + 6)) := Lib.hid (hp.mono (by omega)); have HWS : Hid (Wrote (WS B w.heap.size) w w3) := Lib.hid (ws_cur (HW2.out.trans hw)); clear hp hw
    have hr4 : r3 ≤ 1 := by omega
    go_wp2_with fail
    go_loopw [3, 4] (fun lv nv wr => ∃ (n : Nat) (v : Value) (ss : List ByteArray), nv = .int .i64 (n : Int) ∧ lv = v ∧ n + ss.length ≤ 9 ∧ Hid (wr.ownsRow w.heap.size 9 1 v ss.length (strs ss)) ∧ Hid (∀ s ∈ ss, s.size ≤ 4) ∧ Hid (PC wr B (K + 6 + 2 * ss.length)) ∧ Hid (Wrote (WS B w.heap.size) w wr)) (fun _ nv _ => (intOf nv).toNat)
    case atStart => exact ⟨(8 + r3), _, [], by go_num, rfl, by simp; try omega, Lib.hid (World.ownsRow_nil _ _ _ _), Lib.hid (by simp), HPCS.out.mono (by simp; try omega), HWS⟩
    case round =>
      obtain ⟨n, v, ss, rfl, rfl, hns, HOW, HSZ, HPR, HWR⟩ := hrel
      by_cases hn0 : 0 < n
      case neg =>
        by_cases hs0 : 0 < ss.length
        · obtain ⟨g, cp, hv, hg1, hg2⟩ := HOW.out.form (by omega)
          subst hv
          go_wp2_with fail
          refine (HO1.out _ 20 _ HPR.out (by omega) (by omega)).mono ?_
          rintro e w6 ⟨b6, rfl, hp, hw⟩
          have HP6 := Lib.hid hp; have HW6 := Lib.hid (HWR.out.trans (ws_cur hw)); have HO6 := Lib.hid (hw.own HOW.out (fun k hk => by simp only [Value.ownBlock, Option.some.injEq] at hk; omega)); clear hp hw
          cases b6 with
          | false =>
            go_wp2_with fail
            go_ret
            exact ⟨_, ss, rfl, HO6.out, by omega, fun s hs => by have := HSZ.out s hs; omega, HP6.out.mono (by omega), HW6.out⟩
          | true =>
            have HBL := Lib.hid ((Below.refl w6.heap.size w6).alloc (Nat.le_refl _) (.cells ([{ data := #[] }, { data := #[49, 50, 51, 52, 53, 54, 55, 56, 57, 48, 49, 50, 51, 52, 53, 54, 55, 56, 57, 48] }, { data := #[49, 50, 51, 52, 53, 54, 55, 56, 57, 48, 49, 50, 51, 52, 53, 54, 55, 56, 57, 48, 49] }].map Value.string).toArray 9))
            have HOF := Lib.hid (cur_of B _ [{ data := #[] }, { data := #[49, 50, 51, 52, 53, 54, 55, 56, 57, 48, 49, 50, 51, 52, 53, 54, 55, 56, 57, 48] }, { data := #[49, 50, 51, 52, 53, 54, 55, 56, 57, 48, 49, 50, 51, 52, 53, 54, 55, 56, 57, 48, 49] }] w6.heap.size 0 3 _ (HP6.out.later HBL.out) (by omega) (by decide) (by decide) (by decide) (by decide) (by have := HP6.out.lt; omega) (lit_cells w6 _ _))
            have HOA := Lib.hid (own_later HO6.out HBL.out)
            have hwz := HW6.out.size
            go_wp2_with fail
            refine HOF.out.mono ?_
            rintro e w7 ⟨x, hx, rfl, hp, hw⟩
            have HX7 : Hid (x.size ≤ 21) := Lib.hid (by simp only [List.mem_cons, List.not_mem_nil, or_false] at hx; rcases hx with rfl | rfl | rfl <;> decide)
            have HP7 := Lib.hid hp
            have HO7 := Lib.hid (hw.own HOA.out (fun k hk => by simp only [Value.ownBlock, Option.some.injEq] at hk; omega))
            have HW7 := Lib.hid ((HW6.out.trans (ws_below (HBL.out.mono hwz) hwz)).trans (ws_cur hw)); clear hp hx hw
            have f0 := HO7.out.frozenAt 0
            have c0 : w7.cell? ⟨g, 0, none⟩ = some (.string (ss.getD 0 ByteArray.empty)) := by rw [HO7.out.cellAt 0 (by omega)]; exact strs_at ss 0 hs0
            have HST := Lib.hid (HO7.out.stored 0 (.string x))
            rw [strs_set] at HST
            go_wp2_with fail
            go_ret
            refine ⟨_, ss.set 0 x, rfl, ?_, by simp; omega, ?_, ?_, ?_⟩
            · rw [List.length_set]; exact HST.out.1
            · intro s hs
              rcases List.mem_or_eq_of_mem_set hs with h | h
              · have := HSZ.out s h; omega
              · rw [h]; exact HX7.out
            · exact (pc_grown HP7.out hBl HST.out.2 (fun k hk => by simp only [Option.some.injEq] at hk; omega)).mono (by omega)
            · exact HW7.out.trans (ws_grown HST.out.2 (fun k hk => by simp only [Option.some.injEq] at hk; omega))
        · obtain ⟨qa, qc, hv⟩ := form_of_own HOW.out
          subst hv
          go_wp2_with fail
          go_ret
          exact ⟨_, ss, rfl, HOW.out, by omega, fun s hs => by have := HSZ.out s hs; omega, HPR.out.mono (by omega), HWR.out⟩
      have hwz := HWR.out.size
      go_wp2_with fail
      refine (HWD.out _ _ HPR.out (by omega)).mono ?_
      rintro e w5 ⟨x, rfl, hx, hp, hw⟩
      have HX5 : Hid (x.size ≤ 4) := Lib.hid hx
      have HP5 := Lib.hid hp
      have hw5z := hw.size
      have HO5 := Lib.hid (hw.own HOW.out (fun k hk => by have := HOW.out.lt k hk; rintro (h | h) <;> omega))
      have HW5 := Lib.hid (HWR.out.trans (hw.mono (fun k _ hk => by rcases hk with h | h; exact .inl h; exact .inr (Nat.le_trans hwz h)))); clear hp hx hw
      go_wp2_with (at_builtin; refine wpList_append_own _ rfl _ _ 39 rfl w.heap.size 9 i0 (.string ByteArray.empty) 1 16 Try.underlying39 hi hz0 hz1 hz2 rfl (by decide) _ ss.length _ rfl (HO5.out.alloc _) _ 1 1 [.string x] rfl rfl (news_one _ _ _) (by simp [Value.oneCell']) (by unfold maxLen; omega) (by omega) (Nat.le_trans hwz (Nat.le_trans hw5z (by simp))) ?_)
      intro v7 w7 hown hgrow _
      rw [← strs_put] at hown
      have HO7 : Hid (w7.ownsRow w.heap.size 9 1 v7 (ss ++ [x]).length (strs (ss ++ [x]))) := Lib.hid (by simpa using hown)
      have HB5 := (Below.refl w5.heap.size w5).alloc (Nat.le_refl _) (.cells #[.string x] 9)
      have HP7 := Lib.hid (pc_grown (HP5.out.later HB5) hBl hgrow (fun k hk => (HO5.out.lt k hk).1))
      have HW7 := Lib.hid ((HW5.out.trans (ws_below (HB5.mono (Nat.le_trans hwz hw5z)) (Nat.le_trans hwz hw5z))).trans (ws_grown hgrow (fun k hk => (HO5.out.lt k hk).1)))
      clear hown hgrow HB5
      have hn1 : ((n : Int) - 1) = ((n - 1 : Nat) : Int) := by omega
      go_wp2_with fail
      go_roundw
      case rel => exact ⟨n - 1, _, ss ++ [x], by go_num, rfl, by simp; omega, HO7, Lib.hid fun s hs => by
          rcases List.mem_append.1 hs with h | h
          · exact HSZ.out s h
          · simp at h; subst h; exact HX5.out, HP7.out.mono (by simp; omega), HW7⟩
      case measure => simp [intOf]; omega

/-- words that are own, and bounded -/
def WordsIn (w : World) (v : Value) (ss : List ByteArray) (w' : World) : Prop := w'.ownsRow w.heap.size 9 1 v ss.length (strs ss) ∧ ss.length ≤ 9 ∧ (∀ s ∈ ss, s.size ≤ 21)
theorem ws_own {n B m : Nat} {a b : World} {v : Value} {k : Nat} {xs : List Value} (hw : Wrote (WS B m) a b) (h : a.ownsRow n 9 1 v k xs) (hB : ∀ j, v.ownBlock = some j → j ≠ B) (hm : a.heap.size ≤ m) : b.ownsRow n 9 1 v k xs :=
  hw.own h (fun j hj => by have h1 := hB j hj; have h2 := h.lt j hj; rintro (h | h) <;> omega)

set_option maxHeartbeats 400000 in
theorem draw_buildStates (w : World) (a : Option Addr) (c : Nat) (cs : List UInt8) (hl : cs.length ≤ c) (hc : c ≤ 9223372036854775807) (hr : Rb w.heap.size w a (u8s cs)) :
    Calls Try.prog 45 #[.slice a cs.length c] w fun e w' => ∃ v ss, e = .returned v ∧ WordsIn w v ss w' ∧ Below w.heap.size w w' := by
  have hb0 : Below w.heap.size w (w.alloc (.cells #[.slice a cs.length c, .int .i64 0, .int .u64 0] 75)) := (Below.refl _ _).alloc (Nat.le_refl _) _
  have hp0 := pc_start w a c cs hl hc hr
  have HZ0 : Hid ((w.alloc (.cells #[.slice a cs.length c, .int .i64 0, .int .u64 0] 75)).heap.size = w.heap.size + 1) := Lib.hid (by simp)
  go_enter Try.func45, Try.ntmps45
  go_wp2_with fail
  generalize w.alloc (.cells #[.slice a cs.length c, .int .i64 0, .int .u64 0] 75) = w0 at *
  have HB0 := Lib.hid hb0; have HP0 := Lib.hid hp0
  clear hb0 hp0 hr
  refine (cur_words w.heap.size 0 w0 HP0.out (by omega)).mono ?_
  rintro e w1 ⟨v, ss, rfl, ho, h1, h2, _, hw⟩
  have HB1 := Lib.hid (HB0.out.trans (ws_all (ws_wide hw (Nat.le_refl _) HB0.out.size) HB0.out.size)); clear hw
  have HO1 := Lib.hid (own_mono ho HB0.out.size); have HS2 := Lib.hid h2; clear ho h2
  obtain ⟨qa, qc, rfl⟩ := form_of_own HO1.out
  go_wp2_with fail
  go_ret
  exact ⟨_, ss, rfl, ⟨HO1.out, h1, HS2.out⟩, HB1.out⟩

set_option maxHeartbeats 400000 in
theorem draw_longestEnd (w : World) (a : Option Addr) (c : Nat) (cs : List UInt8) (hl : cs.length ≤ c) (hc : c ≤ 9223372036854775807) (hr : Rb w.heap.size w a (u8s cs)) :
    Calls Try.prog 46 #[.slice a cs.length c] w fun e w' => ∃ v ss s, e = .returned (.tuple #[v, .string s]) ∧ WordsIn w v ss w' ∧ s.size ≤ 400 ∧ Below w.heap.size w w' := by
  have hb0 : Below w.heap.size w (w.alloc (.cells #[.slice a cs.length c, .int .i64 0, .int .u64 0] 75)) := (Below.refl _ _).alloc (Nat.le_refl _) _
  have hp0 := pc_start w a c cs hl hc hr
  have HZ0 : Hid ((w.alloc (.cells #[.slice a cs.length c, .int .i64 0, .int .u64 0] 75)).heap.size = w.heap.size + 1) := Lib.hid (by simp)
  go_enter Try.func46, Try.ntmps46
  go_wp2_with fail
  generalize w.alloc (.cells #[.slice a cs.length c, .int .i64 0, .int .u64 0] 75) = w0 at *
  have HB0 := Lib.hid hb0; have HP0 := Lib.hid hp0
  clear hb0 hp0 hr
  refine (cur_words w.heap.size 0 w0 HP0.out (by omega)).mono ?_
  rintro e w1 ⟨v, ss, rfl, ho, h1, h2, hp, hw⟩
  have HB1 := Lib.hid (HB0.out.trans (ws_all (ws_wide hw (Nat.le_refl _) HB0.out.size) HB0.out.size)); clear hw
  have hvb : ∀ k, v.ownBlock = some k → ¬ k = w.heap.size := fun k hk => by have := (ho.lt k hk).1; have := HZ0.out; omega
  have HO1 := Lib.hid (own_mono ho HB0.out.size); have HS2 := Lib.hid h2; have HP1 := Lib.hid hp; clear ho h2 hp
  obtain ⟨qa, qc, rfl⟩ := form_of_own HO1.out
  go_wp2_with fail
  refine (cur_text w.heap.size _ w1 HP1.out (by omega)).mono ?_
  rintro e w2 ⟨s, rfl, hs, _, hw⟩
  have HO2 := Lib.hid (ws_own hw HO1.out hvb (Nat.le_refl _))
  have HB2 := Lib.hid (HB1.out.trans (ws_all (ws_wide hw (Nat.le_refl _) HB1.out.size) HB1.out.size)); clear hw hvb
  go_wp2_with fail
  go_ret2
  exact ⟨_, ss, s, rfl, ⟨HO2.out, h1, HS2.out⟩, hs, HB2.out⟩

set_option maxHeartbeats 400000 in
theorem draw_findWords (w : World) (a : Option Addr) (c : Nat) (cs : List UInt8) (hl : cs.length ≤ c) (hc : c ≤ 9223372036854775807) (hr : Rb w.heap.size w a (u8s cs)) :
    Calls Try.prog 43 #[.slice a cs.length c] w fun e w' => ∃ s v ss, e = .returned (.tuple #[.string s, v]) ∧ WordsIn w v ss w' ∧ s.size ≤ 400 ∧ Below w.heap.size w w' := by
  have hb0 : Below w.heap.size w (w.alloc (.cells #[.slice a cs.length c, .int .i64 0, .int .u64 0] 75)) := (Below.refl _ _).alloc (Nat.le_refl _) _
  have hp0 := pc_start w a c cs hl hc hr
  have HZ0 : Hid ((w.alloc (.cells #[.slice a cs.length c, .int .i64 0, .int .u64 0] 75)).heap.size = w.heap.size + 1) := Lib.hid (by simp)
  go_enter Try.func43, Try.ntmps43
  go_wp2_with fail
  generalize w.alloc (.cells #[.slice a cs.length c, .int .i64 0, .int .u64 0] 75) = w0 at *
  have HB0 := Lib.hid hb0; have HP0 := Lib.hid hp0
  clear hb0 hp0 hr
  refine (cur_text w.heap.size 0 w0 HP0.out (by omega)).mono ?_
  rintro e w1 ⟨s, rfl, hs, hp, hw⟩
  have HB1 := Lib.hid (HB0.out.trans (ws_all (ws_wide hw (Nat.le_refl _) HB0.out.size) HB0.out.size)); have HP1 := Lib.hid hp; clear hw hp
  go_wp2_with fail
  refine (cur_words w.heap.size _ w1 HP1.out (by omega)).mono ?_
  rintro e w2 ⟨v, ss, rfl, ho, h1, h2, _, hw⟩
  have HO2 := Lib.hid (own_mono ho HB1.out.size); have HS2 := Lib.hid h2
  have HB2 := Lib.hid (HB1.out.trans (ws_all (ws_wide hw (Nat.le_refl _) HB1.out.size) HB1.out.size)); clear hw ho h2
  obtain ⟨qa, qc, rfl⟩ := form_of_own HO2.out
  go_wp2_with fail
  go_ret2
  exact ⟨s, _, ss, rfl, ⟨HO2.out, h1, HS2.out⟩, hs, HB2.out⟩

theorem u8_wf (u : UInt8) : (Lit.int .u8 (u.toNat : Int)).wf = true := WalkArith.wf_u8 (by have := u.toNat_lt; omega)
def stepLit : List ByteArray := [{ data := #[97] }, { data := #[98] }, { data := #[104] }, { data := #[101] }, { data := #[120] }]
/-- how far the draw has come: the cursor, the words (if drawn), the literal (if made) -/
def DS (w : World) (K : Nat) (ov : Option (Value × List ByteArray)) (ol : Option Nat) (wx : World) : Prop :=
  Below w.heap.size w wx ∧ PC wx w.heap.size K ∧ w.heap.size < wx.heap.size ∧ (∀ v ss, ov = some (v, ss) → wx.ownsRow w.heap.size 9 1 v ss.length (strs ss) ∧ ∀ k, v.ownBlock = some k → k ≠ w.heap.size) ∧
  (∀ b, ol = some b → w.heap.size < b ∧ wx.heap[b]? = some (.cells (stepLit.map Value.string).toArray 9 (0, 0)))
theorem ds_drew {w wx : World} {K : Nat} {ov : Option (Value × List ByteArray)} {ol : Option Nat} (h : DS w K ov ol wx) : DS w K ov ol wx.drew := by
  obtain ⟨h1, h2, h3, h4, h5⟩ := h
  exact ⟨rdrew h1 1, pdrew h2, h3, fun v ss he => ⟨own_drewN (h4 v ss he).1 1, (h4 v ss he).2⟩, h5⟩
theorem ds_cur {w wx wy : World} {K K' : Nat} {ov : Option (Value × List ByteArray)} {ol : Option Nat} (h : DS w K ov ol wx) (hw : Wrote (fun k => k = w.heap.size) wx wy) (hp : PC wy w.heap.size K') : DS w K' ov ol wy := by
  obtain ⟨h1, h2, h3, h4, h5⟩ := h
  exact ⟨h1.trans (ws_all (ws_wide (ws_cur (n := w.heap.size) hw) (Nat.le_refl _) (Nat.le_refl _)) h1.size), hp, Nat.lt_of_lt_of_le h3 hw.size, fun v ss he => ⟨hw.own (h4 v ss he).1 (h4 v ss he).2, (h4 v ss he).2⟩, fun b hb => ⟨(h5 b hb).1, (hw.block b (Array.getElem?_eq_some_iff.1 (h5 b hb).2).1 (by have := (h5 b hb).1; omega)).trans (h5 b hb).2⟩⟩
theorem ds_words {w wx wy : World} {K K' : Nat} {ol : Option Nat} {v : Value} {ss : List ByteArray} (h : DS w K none ol wx) (hw : Wrote (WS w.heap.size wx.heap.size) wx wy) (hp : PC wy w.heap.size K') (ho : wy.ownsRow wx.heap.size 9 1 v ss.length (strs ss)) : DS w K' (some (v, ss)) ol wy := by
  obtain ⟨h1, h2, h3, h4, h5⟩ := h
  refine ⟨h1.trans (ws_all (ws_wide hw (Nat.le_refl _) h1.size) h1.size), hp, Nat.lt_of_lt_of_le h3 hw.size, fun v' ss' he => ?_, fun b hb => ⟨(h5 b hb).1, (hw.block b (Array.getElem?_eq_some_iff.1 (h5 b hb).2).1 ?_).trans (h5 b hb).2⟩⟩
  · simp only [Option.some.injEq, Prod.mk.injEq] at he
    obtain ⟨rfl, rfl⟩ := he
    exact ⟨own_mono ho h1.size, fun k hk => by have := (ho.lt k hk).1; omega⟩
  · have q1 := (h5 b hb).1
    have q2 := (Array.getElem?_eq_some_iff.1 (h5 b hb).2).1
    rintro (h | h) <;> omega
theorem ds_lit {w wx : World} {K : Nat} {ov : Option (Value × List ByteArray)} (h : DS w K ov none wx) : DS w K ov (some wx.heap.size) (wx.alloc (.cells (stepLit.map Value.string).toArray 9)) := by
  obtain ⟨h1, h2, h3, h4, h5⟩ := h
  have hb : Below wx.heap.size wx (wx.alloc (.cells (stepLit.map Value.string).toArray 9)) := (Below.refl _ _).alloc (Nat.le_refl _) _
  refine ⟨h1.trans (hb.mono h1.size), h2.later hb, by simp; omega, fun v ss he => ⟨own_later (h4 v ss he).1 hb, (h4 v ss he).2⟩, fun b he => ?_⟩
  simp only [Option.some.injEq] at he
  subst he
  exact ⟨h3, heap_alloc_new wx _⟩
theorem ds_of {w wx : World} {K b : Nat} {ov : Option (Value × List ByteArray)} (h : DS w K ov (some b) wx) (hK : K ≤ 800000000000) :
    Calls Try.prog 54 #[.pointer (some ⟨w.heap.size, 0, none⟩), .slice (some ⟨b, 0, none⟩) 5 5] wx fun e w' => ∃ x : UInt8, e = .returned (.string { data := #[x] }) ∧ DS w (K + 2) ov (some b) w' := by
  have h5 := h.2.2.2.2 b rfl
  refine (cur_of w.heap.size K stepLit b 0 5 wx h.2.1 (by omega) (by decide) (by decide) (by decide) (by decide) (by omega) ?_).mono ?_
  · intro i x hi
    rw [Nat.zero_add]
    simp [World.cell?, h5.2, hi]
  · rintro e w' ⟨x, hx, rfl, hp, hw⟩
    have hd := ds_cur h hw hp
    simp only [stepLit, List.mem_cons, List.not_mem_nil, or_false] at hx
    rcases hx with rfl | rfl | rfl | rfl | rfl <;> exact ⟨_, rfl, hd⟩

set_option maxHeartbeats 1000000 in
theorem draw_stepState (w : World) (a : Option Addr) (c : Nat) (cs : List UInt8) (hl : cs.length ≤ c) (hc : c ≤ 9223372036854775807) (hr : Rb w.heap.size w a (u8s cs)) :
    Calls Try.prog 44 #[.slice a cs.length c] w fun e w' => ∃ v ss k b, e = .returned (.tuple #[v, .int .i64 k, .int .u8 b]) ∧ WordsIn w v ss w' ∧ -1 ≤ k ∧ k ≤ 10 ∧ (Lit.int .u8 b).wf = true ∧ Below w.heap.size w w' := by
  have hb0 : Below w.heap.size w (w.alloc (.cells #[.slice a cs.length c, .int .i64 0, .int .u64 0] 75)) := (Below.refl _ _).alloc (Nat.le_refl _) _
  have hp0 := pc_start w a c cs hl hc hr
  have HZ0 : Hid ((w.alloc (.cells #[.slice a cs.length c, .int .i64 0, .int .u64 0] 75)).heap.size = w.heap.size + 1) := Lib.hid (by simp)
  go_enter Try.func44, Try.ntmps44
  go_wp2_with fail
  generalize w.alloc (.cells #[.slice a cs.length c, .int .i64 0, .int .u64 0] 75) = w0 at *
  have HB0 := Lib.hid hb0; have HP0 := Lib.hid hp0
  clear hb0 hp0 hr
  have HDS : Hid (DS w 0 none none w0.drew) := Lib.hid (ds_drew (show DS w 0 none none w0 from ⟨HB0.out, HP0.out, by have := HZ0.out; omega, (fun _ _ h => nomatch h), (fun _ h => nomatch h)⟩))
  clear HB0 HP0
  refine wp_region_G [1] (fun w' => True) (by kernel_rfl) ?_ (fun hHeld => ?_)
  · trivial
  refine wpG_pure (i := 0) (oi := { dst := some 9, op := Go.Op.move (Go.Operand.tmp 5), type := 72, pos := "l11_search.go:237", after := #[], guard := none }) (v := ?vg1) rfl (by kernel_rfl) (fun _ _ _ h => h) (Or.inr hHeld) (Or.inl ⟨by rfl, ?yg1⟩) ?_
  case yg1 => (intro wS _; go_simp <;> with_reducible rfl)
  try simp only [Act.put, List.setIfInBounds_toArray, List.set_cons_zero, List.set_cons_succ]
  refine wpG_pure (i := 2) (oi := { dst := some 11, op := Go.Op.move (Go.Operand.tmp 5), type := 72, pos := "l11_search.go:237", after := #[], guard := none }) (v := ?vg2) rfl (by kernel_rfl) (fun _ _ _ h => h) (Or.inr hHeld) (Or.inl ⟨by rfl, ?yg2⟩) ?_
  case yg2 => (intro wS _; go_simp <;> with_reducible rfl)
  try simp only [Act.put, List.setIfInBounds_toArray, List.set_cons_zero, List.set_cons_succ]
  refine wpG_pure (i := 5) (oi := { dst := some 14, op := Go.Op.move (Go.Operand.tmp 5), type := 72, pos := "l11_search.go:237", after := #[], guard := none }) (v := ?vg3) rfl (by kernel_rfl) (fun _ _ _ h => h) (Or.inr hHeld) (Or.inl ⟨by rfl, ?yg3⟩) ?_
  case yg3 => (intro wS _; go_simp <;> with_reducible rfl)
  try simp only [Act.put, List.setIfInBounds_toArray, List.set_cons_zero, List.set_cons_succ]
  refine wpG_two (i := 1) (j := 6) (o := { dst := some 10, op := Go.Op.call { callee := Go.Callee.value (Go.Operand.func 71), args := #[Go.Operand.tmp 9], argTypes := #[72] }, type := 39, pos := "l11_search.go:237", after := #[{ on := 0, ground := Go.Ground.data }], guard := none }) (o' := { dst := some 15, op := Go.Op.buildSlice 39 5 #[(0, Go.Operand.const (Go.Value.string { data := #[97] })), (1, Go.Operand.const (Go.Value.string { data := #[98] })), (2, Go.Operand.const (Go.Value.string { data := #[104] })), (3, Go.Operand.const (Go.Value.string { data := #[101] })), (4, Go.Operand.const (Go.Value.string { data := #[120] }))], type := 39, pos := "l11_search.go:237", after := #[], guard := none }) rfl rfl (by kernel_rfl) (fun K hK => ?_) (fun K hK => ?_)
  · skip
    go_simp
    refine (cur_words w.heap.size _ _ HDS.out.2.1 (by omega)).mono ?_
    rintro e w1 ⟨v, ss, rfl, ho, h1, h2, hp, hw⟩
    replace HDS := Lib.hid (ds_words HDS.out hw hp ho); have HS2 := Lib.hid h2
    obtain ⟨qa, qc, rfl⟩ := form_of_own ho
    clear ho hp hw h2
    refine hK.out _ _ (Or.inl (by kernel_rfl)) (fun _ => ?_)
    clear hK K
    try simp only [Act.put, List.setIfInBounds_toArray, List.set_cons_zero, List.set_cons_succ]
    refine wpG_two (i := 3) (j := 6) (o := { dst := some 12, op := Go.Op.call { callee := Go.Callee.value (Go.Operand.func 72), args := #[Go.Operand.tmp 11, Go.Operand.const (Go.Value.int Go.IntKind.i64 12)], argTypes := #[72, 3] }, type := 3, pos := "l11_search.go:237", after := #[{ on := 2, ground := Go.Ground.data }, { on := 1, ground := Go.Ground.chain }], guard := none }) (o' := { dst := some 15, op := Go.Op.buildSlice 39 5 #[(0, Go.Operand.const (Go.Value.string { data := #[97] })), (1, Go.Operand.const (Go.Value.string { data := #[98] })), (2, Go.Operand.const (Go.Value.string { data := #[104] })), (3, Go.Operand.const (Go.Value.string { data := #[101] })), (4, Go.Operand.const (Go.Value.string { data := #[120] }))], type := 39, pos := "l11_search.go:237", after := #[], guard := none }) rfl rfl (by kernel_rfl) (fun K hK => ?_) (fun K hK => ?_)
    · skip
      go_simp
      refine (cur_pick w.heap.size _ 12 _ HDS.out.2.1 (by omega) (by omega)).mono ?_
      rintro e w2 ⟨r, rfl, hr, hp, hw⟩
      replace HDS := Lib.hid (ds_cur HDS.out hw hp)
      have hr1 : (r : Int) ≤ 11 := by omega
      have hr2 : IntKind.i64.wrap ((r : Int) - 1) = (r : Int) - 1 := IntWalk.i64_in _ (by omega)
      clear hp hw hr
      refine hK.out _ _ (Or.inl (by kernel_rfl)) (fun _ => ?_)
      clear hK K
      try simp only [Act.put, List.setIfInBounds_toArray, List.set_cons_zero, List.set_cons_succ]
      refine wpG_pure (i := 4) (oi := { dst := some 13, op := Go.Op.binOp Go.BinOp.sub 3 (Go.Operand.tmp 12) (Go.Operand.const (Go.Value.int Go.IntKind.i64 1)) 3, type := 3, pos := "l11_search.go:237", after := #[{ on := 3, ground := Go.Ground.data }, { on := 9, ground := Go.Ground.gcOnly Go.Departure.lateStores }], guard := none }) (v := ?vg6) rfl (by kernel_rfl) (fun _ _ _ h => h) (Or.inl (by kernel_rfl)) (Or.inl ⟨by rfl, ?yg6⟩) ?_
      case yg6 => (intro wS _; go_simp <;> with_reducible rfl)
      try simp only [Act.put, List.setIfInBounds_toArray, List.set_cons_zero, List.set_cons_succ]
      refine wpG_one (i := 6) (o := { dst := some 15, op := Go.Op.buildSlice 39 5 #[(0, Go.Operand.const (Go.Value.string { data := #[97] })), (1, Go.Operand.const (Go.Value.string { data := #[98] })), (2, Go.Operand.const (Go.Value.string { data := #[104] })), (3, Go.Operand.const (Go.Value.string { data := #[101] })), (4, Go.Operand.const (Go.Value.string { data := #[120] }))], type := 39, pos := "l11_search.go:237", after := #[], guard := none }) rfl (by kernel_rfl) (fun K hK => ?_)
      go_simp
      replace HDS := Lib.hid (ds_lit HDS.out)
      refine hK.out _ _ (Or.inl (by kernel_rfl)) (fun _ => ?_)
      clear hK K
      try simp only [Act.put, List.setIfInBounds_toArray, List.set_cons_zero, List.set_cons_succ]
      refine wpG_one (i := 7) (o := { dst := some 16, op := Go.Op.call { callee := Go.Callee.value (Go.Operand.func 54), args := #[Go.Operand.tmp 14, Go.Operand.tmp 15], argTypes := #[72, 39] }, type := 9, pos := "l11_search.go:237", after := #[{ on := 5, ground := Go.Ground.data }, { on := 6, ground := Go.Ground.data }, { on := 3, ground := Go.Ground.chain }], guard := none }) rfl (by kernel_rfl) (fun K hK => ?_)
      go_simp
      refine (ds_of HDS.out (by omega)).mono ?_
      rintro e w3 ⟨x, rfl, hd⟩
      replace HDS := Lib.hid hd; clear hd
      refine hK.out _ _ (Or.inl (by kernel_rfl)) (fun _ => ?_)
      clear hK K
      try simp only [Act.put, List.setIfInBounds_toArray, List.set_cons_zero, List.set_cons_succ]
      refine wpG_pure (i := 8) (oi := { dst := some 17, op := Go.Op.index 9 (Go.Operand.tmp 16) (Go.Operand.const (Go.Value.int Go.IntKind.i64 0)), type := 5, pos := "l11_search.go:237", after := #[{ on := 7, ground := Go.Ground.data }, { on := 10, ground := Go.Ground.gcOnly Go.Departure.lateStores }], guard := none }) (v := ?vg9) rfl (by kernel_rfl) (fun _ _ _ h => h) (Or.inl (by kernel_rfl)) (Or.inl ⟨by rfl, ?yg9⟩) ?_
      case yg9 => (intro wS _; go_simp <;> with_reducible rfl)
      try simp only [Act.put, List.setIfInBounds_toArray, List.set_cons_zero, List.set_cons_succ]
      refine wpG_pure (i := 9) (oi := { dst := some 2, op := Go.Op.assign (Go.Operand.tmp 10), type := 39, pos := "l11_search.go:237", after := #[{ on := 1, ground := Go.Ground.data }, { on := 7, ground := Go.Ground.chain }, { on := 0, ground := Go.Ground.phase }, { on := 1, ground := Go.Ground.phase }, { on := 2, ground := Go.Ground.textOnly Go.Departure.lateStores }, { on := 3, ground := Go.Ground.textOnly Go.Departure.lateStoresUnsure }, { on := 4, ground := Go.Ground.textOnly Go.Departure.lateStores }, { on := 5, ground := Go.Ground.textOnly Go.Departure.lateStores }, { on := 6, ground := Go.Ground.textOnly Go.Departure.lateStores }, { on := 7, ground := Go.Ground.textOnly Go.Departure.lateStoresUnsure }, { on := 8, ground := Go.Ground.textOnly Go.Departure.lateStores }], guard := none }) (v := ?vg10) rfl (by kernel_rfl) (fun _ _ _ h => h) (Or.inl (by kernel_rfl)) (Or.inl ⟨by rfl, ?yg10⟩) ?_
      case yg10 => (intro wS _; go_simp <;> with_reducible rfl)
      try simp only [Act.put, List.setIfInBounds_toArray, List.set_cons_zero, List.set_cons_succ]
      refine wpG_pure (i := 10) (oi := { dst := some 3, op := Go.Op.assign (Go.Operand.tmp 13), type := 3, pos := "l11_search.go:237", after := #[{ on := 4, ground := Go.Ground.data }, { on := 9, ground := Go.Ground.chain }, { on := 0, ground := Go.Ground.phase }, { on := 1, ground := Go.Ground.phase }, { on := 2, ground := Go.Ground.phase }, { on := 3, ground := Go.Ground.phase }, { on := 4, ground := Go.Ground.phase }, { on := 5, ground := Go.Ground.textOnly Go.Departure.lateStores }, { on := 6, ground := Go.Ground.textOnly Go.Departure.lateStores }, { on := 7, ground := Go.Ground.textOnly Go.Departure.lateStoresUnsure }, { on := 8, ground := Go.Ground.textOnly Go.Departure.lateStores }, { on := 9, ground := Go.Ground.phase }], guard := none }) (v := ?vg11) rfl (by kernel_rfl) (fun _ _ _ h => h) (Or.inl (by kernel_rfl)) (Or.inl ⟨by rfl, ?yg11⟩) ?_
      case yg11 => (intro wS _; go_simp <;> with_reducible rfl)
      try simp only [Act.put, List.setIfInBounds_toArray, List.set_cons_zero, List.set_cons_succ]
      refine wpG_pure (i := 11) (oi := { dst := some 4, op := Go.Op.assign (Go.Operand.tmp 17), type := 5, pos := "l11_search.go:237", after := #[{ on := 8, ground := Go.Ground.data }, { on := 10, ground := Go.Ground.chain }, { on := 0, ground := Go.Ground.phase }, { on := 1, ground := Go.Ground.phase }, { on := 2, ground := Go.Ground.phase }, { on := 3, ground := Go.Ground.phase }, { on := 4, ground := Go.Ground.phase }, { on := 5, ground := Go.Ground.phase }, { on := 6, ground := Go.Ground.phase }, { on := 7, ground := Go.Ground.phase }, { on := 8, ground := Go.Ground.phase }, { on := 9, ground := Go.Ground.phase }, { on := 10, ground := Go.Ground.phase }], guard := none }) (v := ?vg12) rfl (by kernel_rfl) (fun _ _ _ h => h) (Or.inl (by kernel_rfl)) (Or.inl ⟨by rfl, ?yg12⟩) ?_
      case yg12 => (intro wS _; go_simp <;> with_reducible rfl)
      try simp only [Act.put, List.setIfInBounds_toArray, List.set_cons_zero, List.set_cons_succ]
      refine wpG_done (by kernel_rfl) ?_
      go_wp2_with fail
      go_ret3
      refine ⟨_, ss, _, _, rfl, ⟨(HDS.out.2.2.2.1 _ _ rfl).1, h1, HS2.out⟩, by omega, by omega, ?_, HDS.out.1⟩
      exact u8_wf _
    · skip
      go_simp
      replace HDS := Lib.hid (ds_lit HDS.out)
      refine hK.out _ _ (Or.inl (by kernel_rfl)) (fun _ => ?_)
      clear hK K
      try simp only [Act.put, List.setIfInBounds_toArray, List.set_cons_zero, List.set_cons_succ]
      refine wpG_one (i := 3) (o := { dst := some 12, op := Go.Op.call { callee := Go.Callee.value (Go.Operand.func 72), args := #[Go.Operand.tmp 11, Go.Operand.const (Go.Value.int Go.IntKind.i64 12)], argTypes := #[72, 3] }, type := 3, pos := "l11_search.go:237", after := #[{ on := 2, ground := Go.Ground.data }, { on := 1, ground := Go.Ground.chain }], guard := none }) rfl (by kernel_rfl) (fun K hK => ?_)
      go_simp
      refine (cur_pick w.heap.size _ 12 _ HDS.out.2.1 (by omega) (by omega)).mono ?_
      rintro e w2 ⟨r, rfl, hr, hp, hw⟩
      replace HDS := Lib.hid (ds_cur HDS.out hw hp)
      have hr1 : (r : Int) ≤ 11 := by omega
      have hr2 : IntKind.i64.wrap ((r : Int) - 1) = (r : Int) - 1 := IntWalk.i64_in _ (by omega)
      clear hp hw hr
      refine hK.out _ _ (Or.inl (by kernel_rfl)) (fun _ => ?_)
      clear hK K
      try simp only [Act.put, List.setIfInBounds_toArray, List.set_cons_zero, List.set_cons_succ]
      refine wpG_pure (i := 4) (oi := { dst := some 13, op := Go.Op.binOp Go.BinOp.sub 3 (Go.Operand.tmp 12) (Go.Operand.const (Go.Value.int Go.IntKind.i64 1)) 3, type := 3, pos := "l11_search.go:237", after := #[{ on := 3, ground := Go.Ground.data }, { on := 9, ground := Go.Ground.gcOnly Go.Departure.lateStores }], guard := none }) (v := ?vg15) rfl (by kernel_rfl) (fun _ _ _ h => h) (Or.inl (by kernel_rfl)) (Or.inl ⟨by rfl, ?yg15⟩) ?_
      case yg15 => (intro wS _; go_simp <;> with_reducible rfl)
      try simp only [Act.put, List.setIfInBounds_toArray, List.set_cons_zero, List.set_cons_succ]
      refine wpG_one (i := 7) (o := { dst := some 16, op := Go.Op.call { callee := Go.Callee.value (Go.Operand.func 54), args := #[Go.Operand.tmp 14, Go.Operand.tmp 15], argTypes := #[72, 39] }, type := 9, pos := "l11_search.go:237", after := #[{ on := 5, ground := Go.Ground.data }, { on := 6, ground := Go.Ground.data }, { on := 3, ground := Go.Ground.chain }], guard := none }) rfl (by kernel_rfl) (fun K hK => ?_)
      go_simp
      refine (ds_of HDS.out (by omega)).mono ?_
      rintro e w3 ⟨x, rfl, hd⟩
      replace HDS := Lib.hid hd; clear hd
      refine hK.out _ _ (Or.inl (by kernel_rfl)) (fun _ => ?_)
      clear hK K
      try simp only [Act.put, List.setIfInBounds_toArray, List.set_cons_zero, List.set_cons_succ]
      refine wpG_pure (i := 8) (oi := { dst := some 17, op := Go.Op.index 9 (Go.Operand.tmp 16) (Go.Operand.const (Go.Value.int Go.IntKind.i64 0)), type := 5, pos := "l11_search.go:237", after := #[{ on := 7, ground := Go.Ground.data }, { on := 10, ground := Go.Ground.gcOnly Go.Departure.lateStores }], guard := none }) (v := ?vg17) rfl (by kernel_rfl) (fun _ _ _ h => h) (Or.inl (by kernel_rfl)) (Or.inl ⟨by rfl, ?yg17⟩) ?_
      case yg17 => (intro wS _; go_simp <;> with_reducible rfl)
      try simp only [Act.put, List.setIfInBounds_toArray, List.set_cons_zero, List.set_cons_succ]
      refine wpG_pure (i := 9) (oi := { dst := some 2, op := Go.Op.assign (Go.Operand.tmp 10), type := 39, pos := "l11_search.go:237", after := #[{ on := 1, ground := Go.Ground.data }, { on := 7, ground := Go.Ground.chain }, { on := 0, ground := Go.Ground.phase }, { on := 1, ground := Go.Ground.phase }, { on := 2, ground := Go.Ground.textOnly Go.Departure.lateStores }, { on := 3, ground := Go.Ground.textOnly Go.Departure.lateStoresUnsure }, { on := 4, ground := Go.Ground.textOnly Go.Departure.lateStores }, { on := 5, ground := Go.Ground.textOnly Go.Departure.lateStores }, { on := 6, ground := Go.Ground.textOnly Go.Departure.lateStores }, { on := 7, ground := Go.Ground.textOnly Go.Departure.lateStoresUnsure }, { on := 8, ground := Go.Ground.textOnly Go.Departure.lateStores }], guard := none }) (v := ?vg18) rfl (by kernel_rfl) (fun _ _ _ h => h) (Or.inl (by kernel_rfl)) (Or.inl ⟨by rfl, ?yg18⟩) ?_
      case yg18 => (intro wS _; go_simp <;> with_reducible rfl)
      try simp only [Act.put, List.setIfInBounds_toArray, List.set_cons_zero, List.set_cons_succ]
      refine wpG_pure (i := 10) (oi := { dst := some 3, op := Go.Op.assign (Go.Operand.tmp 13), type := 3, pos := "l11_search.go:237", after := #[{ on := 4, ground := Go.Ground.data }, { on := 9, ground := Go.Ground.chain }, { on := 0, ground := Go.Ground.phase }, { on := 1, ground := Go.Ground.phase }, { on := 2, ground := Go.Ground.phase }, { on := 3, ground := Go.Ground.phase }, { on := 4, ground := Go.Ground.phase }, { on := 5, ground := Go.Ground.textOnly Go.Departure.lateStores }, { on := 6, ground := Go.Ground.textOnly Go.Departure.lateStores }, { on := 7, ground := Go.Ground.textOnly Go.Departure.lateStoresUnsure }, { on := 8, ground := Go.Ground.textOnly Go.Departure.lateStores }, { on := 9, ground := Go.Ground.phase }], guard := none }) (v := ?vg19) rfl (by kernel_rfl) (fun _ _ _ h => h) (Or.inl (by kernel_rfl)) (Or.inl ⟨by rfl, ?yg19⟩) ?_
      case yg19 => (intro wS _; go_simp <;> with_reducible rfl)
      try simp only [Act.put, List.setIfInBounds_toArray, List.set_cons_zero, List.set_cons_succ]
      refine wpG_pure (i := 11) (oi := { dst := some 4, op := Go.Op.assign (Go.Operand.tmp 17), type := 5, pos := "l11_search.go:237", after := #[{ on := 8, ground := Go.Ground.data }, { on := 10, ground := Go.Ground.chain }, { on := 0, ground := Go.Ground.phase }, { on := 1, ground := Go.Ground.phase }, { on := 2, ground := Go.Ground.phase }, { on := 3, ground := Go.Ground.phase }, { on := 4, ground := Go.Ground.phase }, { on := 5, ground := Go.Ground.phase }, { on := 6, ground := Go.Ground.phase }, { on := 7, ground := Go.Ground.phase }, { on := 8, ground := Go.Ground.phase }, { on := 9, ground := Go.Ground.phase }, { on := 10, ground := Go.Ground.phase }], guard := none }) (v := ?vg20) rfl (by kernel_rfl) (fun _ _ _ h => h) (Or.inl (by kernel_rfl)) (Or.inl ⟨by rfl, ?yg20⟩) ?_
      case yg20 => (intro wS _; go_simp <;> with_reducible rfl)
      try simp only [Act.put, List.setIfInBounds_toArray, List.set_cons_zero, List.set_cons_succ]
      refine wpG_done (by kernel_rfl) ?_
      go_wp2_with fail
      go_ret3
      refine ⟨_, ss, _, _, rfl, ⟨(HDS.out.2.2.2.1 _ _ rfl).1, h1, HS2.out⟩, by omega, by omega, ?_, HDS.out.1⟩
      exact u8_wf _
  · skip
    go_simp
    replace HDS := Lib.hid (ds_lit HDS.out)
    refine hK.out _ _ (Or.inr ?khHeld21) (fun hHeld21S => ?_)
    case khHeld21 => trivial
    have hHeld21 := hHeld21S.held (by kernel_rfl)
    clear hK K
    try simp only [Act.put, List.setIfInBounds_toArray, List.set_cons_zero, List.set_cons_succ]
    refine wpG_one (i := 1) (o := { dst := some 10, op := Go.Op.call { callee := Go.Callee.value (Go.Operand.func 71), args := #[Go.Operand.tmp 9], argTypes := #[72] }, type := 39, pos := "l11_search.go:237", after := #[{ on := 0, ground := Go.Ground.data }], guard := none }) rfl (by kernel_rfl) (fun K hK => ?_)
    go_simp
    refine (cur_words w.heap.size _ _ HDS.out.2.1 (by omega)).mono ?_
    rintro e w1 ⟨v, ss, rfl, ho, h1, h2, hp, hw⟩
    replace HDS := Lib.hid (ds_words HDS.out hw hp ho); have HS2 := Lib.hid h2
    obtain ⟨qa, qc, rfl⟩ := form_of_own ho
    clear ho hp hw h2
    refine hK.out _ _ (Or.inl (by kernel_rfl)) (fun _ => ?_)
    clear hK K
    try simp only [Act.put, List.setIfInBounds_toArray, List.set_cons_zero, List.set_cons_succ]
    refine wpG_one (i := 3) (o := { dst := some 12, op := Go.Op.call { callee := Go.Callee.value (Go.Operand.func 72), args := #[Go.Operand.tmp 11, Go.Operand.const (Go.Value.int Go.IntKind.i64 12)], argTypes := #[72, 3] }, type := 3, pos := "l11_search.go:237", after := #[{ on := 2, ground := Go.Ground.data }, { on := 1, ground := Go.Ground.chain }], guard := none }) rfl (by kernel_rfl) (fun K hK => ?_)
    go_simp
    refine (cur_pick w.heap.size _ 12 _ HDS.out.2.1 (by omega) (by omega)).mono ?_
    rintro e w2 ⟨r, rfl, hr, hp, hw⟩
    replace HDS := Lib.hid (ds_cur HDS.out hw hp)
    have hr1 : (r : Int) ≤ 11 := by omega
    have hr2 : IntKind.i64.wrap ((r : Int) - 1) = (r : Int) - 1 := IntWalk.i64_in _ (by omega)
    clear hp hw hr
    refine hK.out _ _ (Or.inl (by kernel_rfl)) (fun _ => ?_)
    clear hK K
    try simp only [Act.put, List.setIfInBounds_toArray, List.set_cons_zero, List.set_cons_succ]
    refine wpG_pure (i := 4) (oi := { dst := some 13, op := Go.Op.binOp Go.BinOp.sub 3 (Go.Operand.tmp 12) (Go.Operand.const (Go.Value.int Go.IntKind.i64 1)) 3, type := 3, pos := "l11_search.go:237", after := #[{ on := 3, ground := Go.Ground.data }, { on := 9, ground := Go.Ground.gcOnly Go.Departure.lateStores }], guard := none }) (v := ?vg24) rfl (by kernel_rfl) (fun _ _ _ h => h) (Or.inl (by kernel_rfl)) (Or.inl ⟨by rfl, ?yg24⟩) ?_
    case yg24 => (intro wS _; go_simp <;> with_reducible rfl)
    try simp only [Act.put, List.setIfInBounds_toArray, List.set_cons_zero, List.set_cons_succ]
    refine wpG_one (i := 7) (o := { dst := some 16, op := Go.Op.call { callee := Go.Callee.value (Go.Operand.func 54), args := #[Go.Operand.tmp 14, Go.Operand.tmp 15], argTypes := #[72, 39] }, type := 9, pos := "l11_search.go:237", after := #[{ on := 5, ground := Go.Ground.data }, { on := 6, ground := Go.Ground.data }, { on := 3, ground := Go.Ground.chain }], guard := none }) rfl (by kernel_rfl) (fun K hK => ?_)
    go_simp
    refine (ds_of HDS.out (by omega)).mono ?_
    rintro e w3 ⟨x, rfl, hd⟩
    replace HDS := Lib.hid hd; clear hd
    refine hK.out _ _ (Or.inl (by kernel_rfl)) (fun _ => ?_)
    clear hK K
    try simp only [Act.put, List.setIfInBounds_toArray, List.set_cons_zero, List.set_cons_succ]
    refine wpG_pure (i := 8) (oi := { dst := some 17, op := Go.Op.index 9 (Go.Operand.tmp 16) (Go.Operand.const (Go.Value.int Go.IntKind.i64 0)), type := 5, pos := "l11_search.go:237", after := #[{ on := 7, ground := Go.Ground.data }, { on := 10, ground := Go.Ground.gcOnly Go.Departure.lateStores }], guard := none }) (v := ?vg26) rfl (by kernel_rfl) (fun _ _ _ h => h) (Or.inl (by kernel_rfl)) (Or.inl ⟨by rfl, ?yg26⟩) ?_
    case yg26 => (intro wS _; go_simp <;> with_reducible rfl)
    try simp only [Act.put, List.setIfInBounds_toArray, List.set_cons_zero, List.set_cons_succ]
    refine wpG_pure (i := 9) (oi := { dst := some 2, op := Go.Op.assign (Go.Operand.tmp 10), type := 39, pos := "l11_search.go:237", after := #[{ on := 1, ground := Go.Ground.data }, { on := 7, ground := Go.Ground.chain }, { on := 0, ground := Go.Ground.phase }, { on := 1, ground := Go.Ground.phase }, { on := 2, ground := Go.Ground.textOnly Go.Departure.lateStores }, { on := 3, ground := Go.Ground.textOnly Go.Departure.lateStoresUnsure }, { on := 4, ground := Go.Ground.textOnly Go.Departure.lateStores }, { on := 5, ground := Go.Ground.textOnly Go.Departure.lateStores }, { on := 6, ground := Go.Ground.textOnly Go.Departure.lateStores }, { on := 7, ground := Go.Ground.textOnly Go.Departure.lateStoresUnsure }, { on := 8, ground := Go.Ground.textOnly Go.Departure.lateStores }], guard := none }) (v := ?vg27) rfl (by kernel_rfl) (fun _ _ _ h => h) (Or.inl (by kernel_rfl)) (Or.inl ⟨by rfl, ?yg27⟩) ?_
    case yg27 => (intro wS _; go_simp <;> with_reducible rfl)
    try simp only [Act.put, List.setIfInBounds_toArray, List.set_cons_zero, List.set_cons_succ]
    refine wpG_pure (i := 10) (oi := { dst := some 3, op := Go.Op.assign (Go.Operand.tmp 13), type := 3, pos := "l11_search.go:237", after := #[{ on := 4, ground := Go.Ground.data }, { on := 9, ground := Go.Ground.chain }, { on := 0, ground := Go.Ground.phase }, { on := 1, ground := Go.Ground.phase }, { on := 2, ground := Go.Ground.phase }, { on := 3, ground := Go.Ground.phase }, { on := 4, ground := Go.Ground.phase }, { on := 5, ground := Go.Ground.textOnly Go.Departure.lateStores }, { on := 6, ground := Go.Ground.textOnly Go.Departure.lateStores }, { on := 7, ground := Go.Ground.textOnly Go.Departure.lateStoresUnsure }, { on := 8, ground := Go.Ground.textOnly Go.Departure.lateStores }, { on := 9, ground := Go.Ground.phase }], guard := none }) (v := ?vg28) rfl (by kernel_rfl) (fun _ _ _ h => h) (Or.inl (by kernel_rfl)) (Or.inl ⟨by rfl, ?yg28⟩) ?_
    case yg28 => (intro wS _; go_simp <;> with_reducible rfl)
    try simp only [Act.put, List.setIfInBounds_toArray, List.set_cons_zero, List.set_cons_succ]
    refine wpG_pure (i := 11) (oi := { dst := some 4, op := Go.Op.assign (Go.Operand.tmp 17), type := 5, pos := "l11_search.go:237", after := #[{ on := 8, ground := Go.Ground.data }, { on := 10, ground := Go.Ground.chain }, { on := 0, ground := Go.Ground.phase }, { on := 1, ground := Go.Ground.phase }, { on := 2, ground := Go.Ground.phase }, { on := 3, ground := Go.Ground.phase }, { on := 4, ground := Go.Ground.phase }, { on := 5, ground := Go.Ground.phase }, { on := 6, ground := Go.Ground.phase }, { on := 7, ground := Go.Ground.phase }, { on := 8, ground := Go.Ground.phase }, { on := 9, ground := Go.Ground.phase }, { on := 10, ground := Go.Ground.phase }], guard := none }) (v := ?vg29) rfl (by kernel_rfl) (fun _ _ _ h => h) (Or.inl (by kernel_rfl)) (Or.inl ⟨by rfl, ?yg29⟩) ?_
    case yg29 => (intro wS _; go_simp <;> with_reducible rfl)
    try simp only [Act.put, List.setIfInBounds_toArray, List.set_cons_zero, List.set_cons_succ]
    refine wpG_done (by kernel_rfl) ?_
    go_wp2_with fail
    go_ret3
    refine ⟨_, ss, _, _, rfl, ⟨(HDS.out.2.2.2.1 _ _ rfl).1, h1, HS2.out⟩, by omega, by omega, ?_, HDS.out.1⟩
    exact u8_wf _
end Go.Proofs.Ytfkcchbbbfeamaa
