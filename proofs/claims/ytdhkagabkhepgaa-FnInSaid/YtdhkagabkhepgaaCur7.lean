/- The contracts of the draws for proofs in logs: DrawCheckIn, DrawCheckGrew; the number of some bytes. -/
import Derived.Test.YtdhkagabkhepgaaCur6
import Derived.Test.YtdhkagabkhepgaaProve2
import Derived.Test.YtdhkagabkhepgaaProveG
namespace Go.Proofs.Ytdhkagabkhepgaa
set_option linter.unusedVariables false
open Go.ChangeShapes Go.WideShapes Go.ChangeAt Go.RowKit
set_option maxRecDepth 100000

theorem own_capsP {w : World} {base : Nat} {e : TypeId} {size : Nat} {a : Option Addr} {n cap : Nat} {xs : List Value} (h : w.ownsRow base e size (.slice a n cap) n xs) : n ≤ cap ∧ cap ≤ 9223372036854775807 := by
  rcases h.2 with ⟨h0, hn⟩ | ⟨g, cap', cur, hv, hb, hg, hnc, hcm, _⟩
  · cases h0; exact ⟨Nat.le_refl _, by omega⟩
  · cases hv; exact ⟨hnc, by unfold maxLen at hcm; omega⟩
/-- the state of a draw that hands out a struct: its result's block, and behind it the cursor's -/
structure Ds (w : World) (K : Nat) (wx : World) : Prop where
  pc : PC wx (w.heap.size + 1) K
  res : wx.heap[w.heap.size]? = some (.cells #[.slice none 0 0] 41)
  bel : Below w.heap.size w wx
  sz : w.heap.size + 2 ≤ wx.heap.size
theorem ds_start (w : World) (a : Option Addr) (c : Nat) (cs : List UInt8) (hl : cs.length ≤ c) (hc : c ≤ 9223372036854775807) (hr : Rb w.heap.size w a (u8s cs)) :
    Ds w 0 ((w.alloc (.cells #[.slice none 0 0] 41)).alloc (.cells #[.slice a cs.length c, .int .i64 0, .int .u64 0] 84)) := by
  have h1 := (Below.refl w.heap.size w).alloc (Nat.le_refl _) (.cells #[.slice none 0 0] 41)
  have h2 := pc_start (w.alloc (.cells #[.slice none 0 0] 41)) a c cs hl hc ((hr.below h1).mono (by simp))
  have h3 := (Below.refl (w.alloc (.cells #[.slice none 0 0] 41)).heap.size (w.alloc (.cells #[.slice none 0 0] 41))).alloc (Nat.le_refl _) (.cells #[.slice a cs.length c, .int .i64 0, .int .u64 0] 84)
  rw [World.size_alloc] at h2
  exact ⟨h2, (h3.block _ (by simp)).trans (heap_alloc_new w _), h1.trans (h3.mono (by simp)), by simp⟩
theorem ds_wrote {w : World} {K K' : Nat} {wx wy : World} (h : Ds w K wx) (hw : Wrote (WS (w.heap.size + 1) wx.heap.size) wx wy) (hp : PC wy (w.heap.size + 1) K') : Ds w K' wy := by
  obtain ⟨h1, h2, h3, h4⟩ := h
  refine ⟨hp, (hw.block _ (by omega) (by rintro (e | e) <;> omega)).trans h2, ?_, Nat.le_trans h4 hw.size⟩
  exact h3.trans ⟨hw.os, hw.tape, hw.output, hw.size, fun k hk => hw.block k (by have := h3.size; omega) (by have := h3.size; rintro (e | e) <;> omega)⟩
theorem ds_cur {w : World} {K K' : Nat} {wx wy : World} (h : Ds w K wx) (hw : Wrote (fun k => k = w.heap.size + 1) wx wy) (hp : PC wy (w.heap.size + 1) K') : Ds w K' wy := ds_wrote h (ws_cur hw) hp
theorem ds_below {w : World} {K : Nat} {wx wy : World} (h : Ds w K wx) (hb : Below wx.heap.size wx wy) : Ds w K wy := by
  obtain ⟨h1, h2, h3, h4⟩ := h
  exact ⟨h1.later hb, (hb.block _ (by omega)).trans h2, h3.trans (hb.mono (by omega)), Nat.le_trans h4 hb.size⟩
theorem ds_cells {w : World} {K : Nat} {wx : World} (h : Ds w K wx) : wx.cell? ⟨w.heap.size, 0, none⟩ = some (.slice none 0 0) ∧ wx.frozen? ⟨w.heap.size, 0, none⟩ = false :=
  ⟨by simp [World.cell?, h.res], by simp [World.frozen?, h.res]⟩
def DrawIn (w : World) (e : Ending) (w' : World) : Prop :=
  ∃ (r many k : Int) (s : ByteArray) (v : Value) (p : List Int), e = .returned (.tuple #[.int .i64 r, .int .i64 many, .int .i64 k, .string s, .agg #[v]]) ∧ s.size ≤ 26 ∧ w'.ownsRow w.heap.size 3 1 v p.length (ints p) ∧ p.length ≤ 50 ∧ Below w.heap.size w w'
theorem own_cur {wx wy : World} {B base n : Nat} {e : TypeId} {size : Nat} {v : Value} {xs : List Value} (ho : wx.ownsRow base e size v n xs) (hB : B < base) (hw : Wrote (WS B wx.heap.size) wx wy) : wy.ownsRow base e size v n xs :=
  hw.own ho fun k hk => by have := ho.lt k hk; rintro (e | e) <;> omega

theorem proveIn_facts (ss : List ByteArray) (k : Nat) : ((ProveInR ss (k : Int)).2 = true → k < ss.length) ∧ (ProveInR ss (k : Int)).1.length ≤ ss.length := by
  unfold ProveInR
  by_cases h : (logB ss && inB (k : Int) 0 ((ss.length : Int) - 1)) = true
  · rw [if_pos h]
    rw [Bool.and_eq_true] at h
    have := inB_of h.2
    exact ⟨fun _ => by omega, pinL_len _ _ _⟩
  · rw [if_neg h]; simp
set_option maxHeartbeats 4000000 in
theorem draw_checkIn (w : World) (a : Option Addr) (c : Nat) (cs : List UInt8) (hl : cs.length ≤ c) (hc : c ≤ 9223372036854775807) (hr : Rb w.heap.size w a (u8s cs)) :
    Calls Try.prog 40 #[.slice a cs.length c] w (DrawIn w) := by
  have hds := ds_start w a c cs hl hc hr
  unfold DrawIn
  go_enter Try.func40, Try.ntmps40
  go_wp2_with fail
  generalize (w.alloc (.cells #[.slice none 0 0] 41)).alloc (.cells #[.slice a cs.length c, .int .i64 0, .int .u64 0] 84) = w0 at *
  have HD := Lib.hid hds
  clear hds hr
  refine (cur_log (w.heap.size + 1) 0 w0 HD.out.pc (by omega)).mono ?_
  rintro e w1 ⟨v, ss, rfl, ho, hs1, hs2, hp, hw⟩
  obtain ⟨qa, qc, rfl⟩ := form_of_own ho
  have hcap := own_capsP ho
  have HO := Lib.hid (own_mono ho (show w.heap.size + 2 ≤ _ from HD.out.sz))
  replace HD := Lib.hid (ds_wrote HD.out hw hp)
  clear ho hw hp
  have hs3 : ∀ s ∈ ss, s.size ≤ 9223372036854775807 := fun s hs => by have := hs2 s hs; omega
  by_cases hl0 : 0 < ss.length
  · go_wp2_with fail
    refine (cur_pick (w.heap.size + 1) _ (ss.length : Int) w1 HD.out.pc (by omega) (by omega)).mono ?_
    rintro e w2 ⟨k, rfl, hk, hp, hw⟩
    replace HD := Lib.hid (ds_cur HD.out hw hp)
    replace HO := Lib.hid (own_cur HO.out (by omega) (ws_cur hw))
    clear hp hw hk
    have HZ := Lib.hid HD.out.sz
    go_wp2_with fail
    have HPI := Lib.hid (fun wx (h : Rw wx qa (strs ss)) => spec_ProveIn qa qc ss ((k : Int)) wx h hcap.1 hcap.2 (by omega) hs3)
    have hpf : ((ProveInR ss ((k : Int))).2 = true → k < ss.length) ∧ (ProveInR ss ((k : Int))).1.length ≤ ss.length := proveIn_facts ss k
    generalize ProveInR ss ((k : Int)) = R at *
    obtain ⟨p, ok⟩ := R
    obtain ⟨hpf1, hpf2⟩ := hpf
    refine (HPI.out _ (own_rw HO.out)).mono ?_
    rintro e w3 ⟨v3, rfl, ho3, hb3⟩
    obtain ⟨a3, c3, rfl⟩ := form_of_own ho3
    have hc3 := own_capsP ho3
    have hb3' := hb3.alloc hb3.size (.cells #[.slice a3 p.length c3] 41)
    replace HD := Lib.hid (ds_below HD.out hb3'); replace HO := Lib.hid (own_later HO.out hb3')
    have HO3 := Lib.hid (own_mono (ho3.alloc (.cells #[.slice a3 p.length c3] 41)) (show w.heap.size + 2 ≤ _ from HZ.out))
    have k10 : (w3.alloc (.cells #[.slice a3 p.length c3] 41)).cell? ⟨w3.heap.size, 0, none⟩ = some (.slice a3 p.length c3) := by rw [World.cell?_alloc_new]; rfl
    have hz3 : w.heap.size + 2 ≤ w3.heap.size := Nat.le_trans HZ.out hb3.size
    have hz4 : w3.heap.size < (w3.alloc (.cells #[.slice a3 p.length c3] 41)).heap.size := by simp
    have K10 := Lib.hid (And.intro k10 hz4)
    clear ho3 hb3 hb3' k10 hz4
    go_wp2_with fail
    generalize w3.alloc (.cells #[.slice a3 p.length c3] 41) = w4 at *
    generalize w3.heap.size = b3 at *
    refine (spec_rootOf qa qc ss w4 (own_rw HO.out) hcap.1 hcap.2 (by omega) hs3).mono ?_
    rintro e w' ⟨rfl, q, rfl⟩
    have hbq : Below w4.heap.size w4 (w4.drewN q) := below_drewN (Below.refl _ _) _
    replace HD := Lib.hid (ds_below HD.out hbq); replace HO := Lib.hid (own_later HO.out hbq); replace HO3 := Lib.hid (own_later HO3.out hbq)
    obtain ⟨k10, hz4⟩ := K10.out
    replace k10 : (w4.drewN q).cell? ⟨b3, 0, none⟩ = some (.slice a3 p.length c3) := k10
    replace hz4 : b3 < (w4.drewN q).heap.size := hz4
    clear hbq K10
    generalize w4.drewN q = w5 at *
    generalize RootOfR ss = RR at *
    obtain ⟨root, ro⟩ := RR
    cases ok with
    | false =>
      obtain ⟨k6, f6⟩ := ds_cells HD.out
      have HDB := HD.out
      go_wp2_with fail
      have hk : (w5.setCell ⟨w.heap.size, 0, none⟩ (.slice none 0 0)).cell? ⟨w.heap.size, 0, none⟩ = some (.slice none 0 0) := World.cell?_setCell_same _ _ _ k6
      refine bodyPost_ret (v := .tuple #[.int .i64 root, .int .i64 1, .int .i64 0, .string { data := #[97] }, .agg #[.slice none 0 0]]) (by simp [results, Try.results40, go_sem, hk]) rfl ⟨_, _, _, _, _, [], rfl, by decide, World.ownsRow_nil _ _ _ _, by simp, ?_⟩
      exact HDB.bel.setCell (p := ⟨w.heap.size, 0, none⟩) (Nat.le_refl _) _
    | true =>
      have hkl := hpf1 rfl
      clear hpf1
      obtain ⟨ag, hag⟩ : ∃ g, qa = some ⟨g, 0, none⟩ := by
        obtain ⟨g, c', hv, _⟩ := HO.out.form (by omega)
        simp only [Value.slice.injEq] at hv
        exact ⟨g, hv.1⟩
      subst hag
      have hcell := HO.out.cellAt k (by omega)
      rw [strs_at ss k hkl] at hcell
      have hss := hs2 (ss.getD k ByteArray.empty) (by rw [List.getD, List.getElem?_eq_getElem hkl]; exact List.getElem_mem hkl)
      generalize ss.getD k ByteArray.empty = s at *
      go_wp2_with fail
      refine (cur_one (w.heap.size + 1) (0 + 100 + 2) 4 w5 HD.out.pc (by omega) (by omega)).mono ?_
      rintro e w7 ⟨b7, rfl, hp7, hw7⟩
      replace HD := Lib.hid (ds_cur HD.out hw7 hp7)
      replace HO3 := Lib.hid (own_cur HO3.out (by omega) (ws_cur hw7))
      have k11 := hw7.cell k10 (by omega)
      clear hp7 hw7 k10 hcell HO
      cases b7 with
      | false =>
        go_wp2_with fail
        have HDB := HD.out
        obtain ⟨k6, f6⟩ := ds_cells HDB
        refine (cur_bent (w.heap.size + 1) ((0 + 100 + 2) + 2) w7 HDB.pc (by omega) a3 c3 p (own_rw HO3.out) (by omega) hc3.1 hc3.2).mono ?_
        rintro e w6 ⟨v6, p6, rfl, ho6, hp6, hw6⟩
        obtain ⟨a6, c6, rfl⟩ := form_of_own ho6
        have k7 : w6.cell? ⟨w.heap.size, 0, none⟩ = some (.slice none 0 0) := hw6.cell k6 (by have := HDB.sz; rintro (e | e) <;> omega)
        have f7 : w6.frozen? ⟨w.heap.size, 0, none⟩ = false := by
          have e := (hw6.block w.heap.size (by have := HDB.sz; omega) (by have := HDB.sz; rintro (e | e) <;> omega)).trans HDB.res
          simp [World.frozen?, e]
        have HB6 : Hid (Below w.heap.size w w6) := Lib.hid (HDB.bel.trans (ws_all (ws_wide hw6 (by omega) HDB.bel.size) HDB.bel.size))
        have HO6 := Lib.hid (own_mono ho6 (show w.heap.size + 2 ≤ _ from HDB.sz))
        have hsz6 : w.heap.size < w6.heap.size := by have := hw6.size; have := HDB.sz; omega
        clear ho6 hw6 HDB k6 f6
        go_wp2_with fail
        have hk : (w6.setCell ⟨w.heap.size, 0, none⟩ (.slice a6 p6.length c6)).cell? ⟨w.heap.size, 0, none⟩ = some (.slice a6 p6.length c6) := World.cell?_setCell_same _ _ _ k7
        refine bodyPost_ret (v := .tuple #[.int .i64 root, .int .i64 (ss.length : Int), .int .i64 ((k : Int)), .string s, .agg #[.slice a6 p6.length c6]]) (by simp [results, Try.results40, go_sem, hk]) rfl ⟨_, _, _, _, _, p6, rfl, hss, ?_, by omega, ?_⟩
        · exact own_mono (ownsRow_setCell_below HO6.out (a := ⟨w.heap.size, 0, none⟩) (by simp) _) (by omega)
        · exact HB6.out.setCell (p := ⟨w.heap.size, 0, none⟩) (Nat.le_refl _) _
      | true =>
        go_wp2_with fail
        have HDB := HD.out
        obtain ⟨k6, f6⟩ := ds_cells HDB
        refine (cur_bent (w.heap.size + 1) ((0 + 100 + 2) + 2) w7 HDB.pc (by omega) a3 c3 p (own_rw HO3.out) (by omega) hc3.1 hc3.2).mono ?_
        rintro e w6 ⟨v6, p6, rfl, ho6, hp6, hw6⟩
        obtain ⟨a6, c6, rfl⟩ := form_of_own ho6
        have k7 : w6.cell? ⟨w.heap.size, 0, none⟩ = some (.slice none 0 0) := hw6.cell k6 (by have := HDB.sz; rintro (e | e) <;> omega)
        have f7 : w6.frozen? ⟨w.heap.size, 0, none⟩ = false := by
          have e := (hw6.block w.heap.size (by have := HDB.sz; omega) (by have := HDB.sz; rintro (e | e) <;> omega)).trans HDB.res
          simp [World.frozen?, e]
        have HB6 : Hid (Below w.heap.size w w6) := Lib.hid (HDB.bel.trans (ws_all (ws_wide hw6 (by omega) HDB.bel.size) HDB.bel.size))
        have HO6 := Lib.hid (own_mono ho6 (show w.heap.size + 2 ≤ _ from HDB.sz))
        have hsz6 : w.heap.size < w6.heap.size := by have := hw6.size; have := HDB.sz; omega
        clear ho6 hw6 HDB k6 f6
        go_wp2_with fail
        have hk : (w6.setCell ⟨w.heap.size, 0, none⟩ (.slice a6 p6.length c6)).cell? ⟨w.heap.size, 0, none⟩ = some (.slice a6 p6.length c6) := World.cell?_setCell_same _ _ _ k7
        refine bodyPost_ret (v := .tuple #[.int .i64 root, .int .i64 (ss.length : Int), .int .i64 ((k : Int)), .string { data := #[111, 116, 104, 101, 114] }, .agg #[.slice a6 p6.length c6]]) (by simp [results, Try.results40, go_sem, hk]) rfl ⟨_, _, _, _, _, p6, rfl, by decide, ?_, by omega, ?_⟩
        · exact own_mono (ownsRow_setCell_below HO6.out (a := ⟨w.heap.size, 0, none⟩) (by simp) _) (by omega)
        · exact HB6.out.setCell (p := ⟨w.heap.size, 0, none⟩) (Nat.le_refl _) _
  · have HZ := Lib.hid HD.out.sz
    have hd : decide (0 < ss.length) = false := decide_eq_false hl0
    clear hl0
    go_wp2_with fail
    have HPI := Lib.hid (fun wx (h : Rw wx qa (strs ss)) => spec_ProveIn qa qc ss ((0 : Int)) wx h hcap.1 hcap.2 (by omega) hs3)
    have hpf : ((ProveInR ss ((0 : Int))).2 = true → 0 < ss.length) ∧ (ProveInR ss ((0 : Int))).1.length ≤ ss.length := proveIn_facts ss 0
    generalize ProveInR ss ((0 : Int)) = R at *
    obtain ⟨p, ok⟩ := R
    obtain ⟨hpf1, hpf2⟩ := hpf
    refine (HPI.out _ (own_rw HO.out)).mono ?_
    rintro e w3 ⟨v3, rfl, ho3, hb3⟩
    obtain ⟨a3, c3, rfl⟩ := form_of_own ho3
    have hc3 := own_capsP ho3
    have hb3' := hb3.alloc hb3.size (.cells #[.slice a3 p.length c3] 41)
    replace HD := Lib.hid (ds_below HD.out hb3'); replace HO := Lib.hid (own_later HO.out hb3')
    have HO3 := Lib.hid (own_mono (ho3.alloc (.cells #[.slice a3 p.length c3] 41)) (show w.heap.size + 2 ≤ _ from HZ.out))
    have k10 : (w3.alloc (.cells #[.slice a3 p.length c3] 41)).cell? ⟨w3.heap.size, 0, none⟩ = some (.slice a3 p.length c3) := by rw [World.cell?_alloc_new]; rfl
    have hz3 : w.heap.size + 2 ≤ w3.heap.size := Nat.le_trans HZ.out hb3.size
    have hz4 : w3.heap.size < (w3.alloc (.cells #[.slice a3 p.length c3] 41)).heap.size := by simp
    have K10 := Lib.hid (And.intro k10 hz4)
    clear ho3 hb3 hb3' k10 hz4
    go_wp2_with fail
    generalize w3.alloc (.cells #[.slice a3 p.length c3] 41) = w4 at *
    generalize w3.heap.size = b3 at *
    refine (spec_rootOf qa qc ss w4 (own_rw HO.out) hcap.1 hcap.2 (by omega) hs3).mono ?_
    rintro e w' ⟨rfl, q, rfl⟩
    have hbq : Below w4.heap.size w4 (w4.drewN q) := below_drewN (Below.refl _ _) _
    replace HD := Lib.hid (ds_below HD.out hbq); replace HO := Lib.hid (own_later HO.out hbq); replace HO3 := Lib.hid (own_later HO3.out hbq)
    obtain ⟨k10, hz4⟩ := K10.out
    replace k10 : (w4.drewN q).cell? ⟨b3, 0, none⟩ = some (.slice a3 p.length c3) := k10
    replace hz4 : b3 < (w4.drewN q).heap.size := hz4
    clear hbq K10
    generalize w4.drewN q = w5 at *
    generalize RootOfR ss = RR at *
    obtain ⟨root, ro⟩ := RR
    cases ok with
    | false =>
      obtain ⟨k6, f6⟩ := ds_cells HD.out
      have HDB := HD.out
      go_wp2_with fail
      have hk : (w5.setCell ⟨w.heap.size, 0, none⟩ (.slice none 0 0)).cell? ⟨w.heap.size, 0, none⟩ = some (.slice none 0 0) := World.cell?_setCell_same _ _ _ k6
      refine bodyPost_ret (v := .tuple #[.int .i64 root, .int .i64 1, .int .i64 0, .string { data := #[97] }, .agg #[.slice none 0 0]]) (by simp [results, Try.results40, go_sem, hk]) rfl ⟨_, _, _, _, _, [], rfl, by decide, World.ownsRow_nil _ _ _ _, by simp, ?_⟩
      exact HDB.bel.setCell (p := ⟨w.heap.size, 0, none⟩) (Nat.le_refl _) _
    | true =>
      have hkl := hpf1 rfl
      clear hpf1
      obtain ⟨ag, hag⟩ : ∃ g, qa = some ⟨g, 0, none⟩ := by
        obtain ⟨g, c', hv, _⟩ := HO.out.form (by omega)
        simp only [Value.slice.injEq] at hv
        exact ⟨g, hv.1⟩
      subst hag
      have hcell := HO.out.cellAt 0 (by omega)
      rw [strs_at ss 0 hkl] at hcell
      have hss := hs2 (ss.getD 0 ByteArray.empty) (by rw [List.getD, List.getElem?_eq_getElem hkl]; exact List.getElem_mem hkl)
      generalize ss.getD 0 ByteArray.empty = s at *
      go_wp2_with fail
      refine (cur_one (w.heap.size + 1) (0 + 100) 4 w5 HD.out.pc (by omega) (by omega)).mono ?_
      rintro e w7 ⟨b7, rfl, hp7, hw7⟩
      replace HD := Lib.hid (ds_cur HD.out hw7 hp7)
      replace HO3 := Lib.hid (own_cur HO3.out (by omega) (ws_cur hw7))
      have k11 := hw7.cell k10 (by omega)
      clear hp7 hw7 k10 hcell HO
      cases b7 with
      | false =>
        go_wp2_with fail
        have HDB := HD.out
        obtain ⟨k6, f6⟩ := ds_cells HDB
        refine (cur_bent (w.heap.size + 1) ((0 + 100) + 2) w7 HDB.pc (by omega) a3 c3 p (own_rw HO3.out) (by omega) hc3.1 hc3.2).mono ?_
        rintro e w6 ⟨v6, p6, rfl, ho6, hp6, hw6⟩
        obtain ⟨a6, c6, rfl⟩ := form_of_own ho6
        have k7 : w6.cell? ⟨w.heap.size, 0, none⟩ = some (.slice none 0 0) := hw6.cell k6 (by have := HDB.sz; rintro (e | e) <;> omega)
        have f7 : w6.frozen? ⟨w.heap.size, 0, none⟩ = false := by
          have e := (hw6.block w.heap.size (by have := HDB.sz; omega) (by have := HDB.sz; rintro (e | e) <;> omega)).trans HDB.res
          simp [World.frozen?, e]
        have HB6 : Hid (Below w.heap.size w w6) := Lib.hid (HDB.bel.trans (ws_all (ws_wide hw6 (by omega) HDB.bel.size) HDB.bel.size))
        have HO6 := Lib.hid (own_mono ho6 (show w.heap.size + 2 ≤ _ from HDB.sz))
        have hsz6 : w.heap.size < w6.heap.size := by have := hw6.size; have := HDB.sz; omega
        clear ho6 hw6 HDB k6 f6
        go_wp2_with fail
        have hk : (w6.setCell ⟨w.heap.size, 0, none⟩ (.slice a6 p6.length c6)).cell? ⟨w.heap.size, 0, none⟩ = some (.slice a6 p6.length c6) := World.cell?_setCell_same _ _ _ k7
        refine bodyPost_ret (v := .tuple #[.int .i64 root, .int .i64 (ss.length : Int), .int .i64 ((0 : Int)), .string s, .agg #[.slice a6 p6.length c6]]) (by simp [results, Try.results40, go_sem, hk]) rfl ⟨_, _, _, _, _, p6, rfl, hss, ?_, by omega, ?_⟩
        · exact own_mono (ownsRow_setCell_below HO6.out (a := ⟨w.heap.size, 0, none⟩) (by simp) _) (by omega)
        · exact HB6.out.setCell (p := ⟨w.heap.size, 0, none⟩) (Nat.le_refl _) _
      | true =>
        go_wp2_with fail
        have HDB := HD.out
        obtain ⟨k6, f6⟩ := ds_cells HDB
        refine (cur_bent (w.heap.size + 1) ((0 + 100) + 2) w7 HDB.pc (by omega) a3 c3 p (own_rw HO3.out) (by omega) hc3.1 hc3.2).mono ?_
        rintro e w6 ⟨v6, p6, rfl, ho6, hp6, hw6⟩
        obtain ⟨a6, c6, rfl⟩ := form_of_own ho6
        have k7 : w6.cell? ⟨w.heap.size, 0, none⟩ = some (.slice none 0 0) := hw6.cell k6 (by have := HDB.sz; rintro (e | e) <;> omega)
        have f7 : w6.frozen? ⟨w.heap.size, 0, none⟩ = false := by
          have e := (hw6.block w.heap.size (by have := HDB.sz; omega) (by have := HDB.sz; rintro (e | e) <;> omega)).trans HDB.res
          simp [World.frozen?, e]
        have HB6 : Hid (Below w.heap.size w w6) := Lib.hid (HDB.bel.trans (ws_all (ws_wide hw6 (by omega) HDB.bel.size) HDB.bel.size))
        have HO6 := Lib.hid (own_mono ho6 (show w.heap.size + 2 ≤ _ from HDB.sz))
        have hsz6 : w.heap.size < w6.heap.size := by have := hw6.size; have := HDB.sz; omega
        clear ho6 hw6 HDB k6 f6
        go_wp2_with fail
        have hk : (w6.setCell ⟨w.heap.size, 0, none⟩ (.slice a6 p6.length c6)).cell? ⟨w.heap.size, 0, none⟩ = some (.slice a6 p6.length c6) := World.cell?_setCell_same _ _ _ k7
        refine bodyPost_ret (v := .tuple #[.int .i64 root, .int .i64 (ss.length : Int), .int .i64 ((0 : Int)), .string { data := #[111, 116, 104, 101, 114] }, .agg #[.slice a6 p6.length c6]]) (by simp [results, Try.results40, go_sem, hk]) rfl ⟨_, _, _, _, _, p6, rfl, by decide, ?_, by omega, ?_⟩
        · exact own_mono (ownsRow_setCell_below HO6.out (a := ⟨w.heap.size, 0, none⟩) (by simp) _) (by omega)
        · exact HB6.out.setCell (p := ⟨w.heap.size, 0, none⟩) (Nat.le_refl _) _

def DrawGr (w : World) (e : Ending) (w' : World) : Prop :=
  ∃ (r many k n : Int) (v : Value) (p : List Int), e = .returned (.tuple #[.int .i64 r, .int .i64 many, .int .i64 k, .int .i64 n, .agg #[v]]) ∧ w'.ownsRow w.heap.size 3 1 v p.length (ints p) ∧ p.length ≤ 50 ∧ Below w.heap.size w w'
theorem proveGrew_facts (ss : List ByteArray) (k : Nat) : (ProveGrewR ss (k : Int)).1.length ≤ ss.length := by
  unfold ProveGrewR
  split
  · exact pgrL_len _ _ _ _
  · simp
set_option maxHeartbeats 4000000 in
theorem draw_checkGrew (w : World) (a : Option Addr) (c : Nat) (cs : List UInt8) (hl : cs.length ≤ c) (hc : c ≤ 9223372036854775807) (hr : Rb w.heap.size w a (u8s cs)) :
    Calls Try.prog 45 #[.slice a cs.length c] w (DrawGr w) := by
  have hds := ds_start w a c cs hl hc hr
  unfold DrawGr
  go_enter Try.func45, Try.ntmps45
  go_wp2_with fail
  generalize (w.alloc (.cells #[.slice none 0 0] 41)).alloc (.cells #[.slice a cs.length c, .int .i64 0, .int .u64 0] 84) = w0 at *
  have HD := Lib.hid hds
  clear hds hr
  refine (cur_log (w.heap.size + 1) 0 w0 HD.out.pc (by omega)).mono ?_
  rintro e w1 ⟨v, ss, rfl, ho, hs1, hs2, hp, hw⟩
  obtain ⟨qa, qc, rfl⟩ := form_of_own ho
  have hcap := own_capsP ho
  have HO := Lib.hid (own_mono ho (show w.heap.size + 2 ≤ _ from HD.out.sz))
  replace HD := Lib.hid (ds_wrote HD.out hw hp)
  clear ho hw hp
  have hs3 : ∀ s ∈ ss, s.size ≤ 9223372036854775807 := fun s hs => by have := hs2 s hs; omega
  clear hs2
  by_cases hl0 : 0 < ss.length
  case neg =>
    have hd : ((ss.length : Int) == 0) = true := by rw [beq_iff_eq]; omega
    clear hl0
    obtain ⟨k6, f6⟩ := ds_cells HD.out
    have HDB := HD.out
    go_wp2_with fail
    have hk : (w1.setCell ⟨w.heap.size, 0, none⟩ (.slice none 0 0)).cell? ⟨w.heap.size, 0, none⟩ = some (.slice none 0 0) := World.cell?_setCell_same _ _ _ k6
    refine bodyPost_ret (v := .tuple #[.int .i64 1, .int .i64 1, .int .i64 1, .int .i64 1, .agg #[.slice none 0 0]]) (by simp [results, Try.results45, go_sem, hk]) rfl ⟨_, _, _, _, _, [], rfl, World.ownsRow_nil _ _ _ _, by simp, ?_⟩
    exact HDB.bel.setCell (p := ⟨w.heap.size, 0, none⟩) (Nat.le_refl _) _
  have hd : ((ss.length : Int) == 0) = false := by rw [beq_eq_false_iff_ne]; omega
  go_wp2_with fail
  refine (cur_pick (w.heap.size + 1) _ (ss.length : Int) w1 HD.out.pc (by omega) (by omega)).mono ?_
  rintro e w2 ⟨r, rfl, hr, hp, hw⟩
  replace HD := Lib.hid (ds_cur HD.out hw hp)
  replace HO := Lib.hid (own_cur HO.out (by omega) (ws_cur hw))
  have hrl : r < ss.length := by omega
  clear hp hw hr
  have HZ := Lib.hid HD.out.sz
  have hwr : IntKind.i64.wrap (1 + (r : Int)) = ((r + 1 : Nat) : Int) := by rw [IntWalk.i64_in _ (by omega)]; omega
  obtain ⟨old, hold⟩ : ∃ old, r + 1 = old := ⟨_, rfl⟩
  rw [hold] at hwr
  have ho1 : 1 ≤ old := by omega
  have ho2 : old ≤ ss.length := by omega
  clear hold hrl
  have HPI := Lib.hid (fun wx (h : Rw wx qa (strs ss)) => spec_ProveGrew qa qc ss (old : Int) wx h hcap.1 hcap.2 (by omega) hs3)
  have hpf2 := proveGrew_facts ss old
  generalize ProveGrewR ss (old : Int) = R at *
  obtain ⟨p, ok⟩ := R
  go_wp2_with fail
  refine (HPI.out _ (own_rw HO.out)).mono ?_
  rintro e w3 ⟨v3, rfl, ho3, hb3⟩
  obtain ⟨a3, c3, rfl⟩ := form_of_own ho3
  have hc3 := own_capsP ho3
  have hb3' := hb3.alloc hb3.size (.cells #[.slice a3 p.length c3] 41)
  replace HD := Lib.hid (ds_below HD.out hb3'); replace HO := Lib.hid (own_later HO.out hb3')
  have HO3 := Lib.hid (own_mono (ho3.alloc (.cells #[.slice a3 p.length c3] 41)) (show w.heap.size + 2 ≤ _ from HZ.out))
  have k10 : (w3.alloc (.cells #[.slice a3 p.length c3] 41)).cell? ⟨w3.heap.size, 0, none⟩ = some (.slice a3 p.length c3) := by rw [World.cell?_alloc_new]; rfl
  have hz3 : w.heap.size + 2 ≤ w3.heap.size := Nat.le_trans HZ.out hb3.size
  have hz4 : w3.heap.size < (w3.alloc (.cells #[.slice a3 p.length c3] 41)).heap.size := by simp
  have K10 := Lib.hid (And.intro k10 hz4)
  clear ho3 hb3 hb3' k10 hz4
  go_wp2_with fail
  generalize w3.alloc (.cells #[.slice a3 p.length c3] 41) = w4 at *
  generalize w3.heap.size = b3 at *
  refine (spec_rootOf qa qc ss w4 (own_rw HO.out) hcap.1 hcap.2 (by omega) hs3).mono ?_
  rintro e w' ⟨rfl, q, rfl⟩
  have hbq : Below w4.heap.size w4 (w4.drewN q) := below_drewN (Below.refl _ _) _
  replace HD := Lib.hid (ds_below HD.out hbq); replace HO := Lib.hid (own_later HO.out hbq); replace HO3 := Lib.hid (own_later HO3.out hbq)
  obtain ⟨k10, hz4⟩ := K10.out
  replace k10 : (w4.drewN q).cell? ⟨b3, 0, none⟩ = some (.slice a3 p.length c3) := k10
  replace hz4 : b3 < (w4.drewN q).heap.size := hz4
  clear hbq K10
  generalize w4.drewN q = w5 at *
  generalize RootOfR ss = RR at *
  obtain ⟨root, ro⟩ := RR
  cases ok with
  | false =>
    obtain ⟨k6, f6⟩ := ds_cells HD.out
    have HDB := HD.out
    go_wp2_with fail
    have hk : (w5.setCell ⟨w.heap.size, 0, none⟩ (.slice none 0 0)).cell? ⟨w.heap.size, 0, none⟩ = some (.slice none 0 0) := World.cell?_setCell_same _ _ _ k6
    refine bodyPost_ret (v := .tuple #[.int .i64 root, .int .i64 1, .int .i64 root, .int .i64 1, .agg #[.slice none 0 0]]) (by simp [results, Try.results45, go_sem, hk]) rfl ⟨_, _, _, _, _, [], rfl, World.ownsRow_nil _ _ _ _, by simp, ?_⟩
    exact HDB.bel.setCell (p := ⟨w.heap.size, 0, none⟩) (Nat.le_refl _) _
  | true =>
    obtain ⟨ag, hag⟩ : ∃ g, qa = some ⟨g, 0, none⟩ := by
      obtain ⟨g, c', hv, _⟩ := HO.out.form (by omega)
      simp only [Value.slice.injEq] at hv
      exact ⟨g, hv.1⟩
    subst hag
    have htl : (ss.take old).length = old := by rw [List.length_take]; omega
    have hst : strs (ss.take old) = (strs ss).take old := by simp [strs, List.map_take]
    have HRT := Lib.hid (spec_rootOf (some ⟨ag, 0, none⟩) qc (ss.take old) w5 (by rw [hst]; exact (own_rw HO.out).take old) (by omega) hcap.2 (by omega) (fun s hs => hs3 s (List.mem_of_mem_take hs)))
    rw [htl] at HRT
    clear htl hst
    generalize RootOfR (ss.take old) = RF at *
    obtain ⟨first, rf⟩ := RF
    have hb0 : (0 : Int) ≤ (old : Int) := by omega
    have hb1 : (old : Int) ≤ (qc : Int) := by omega
    go_wp2_with fail
    refine HRT.out.mono ?_
    rintro e w' ⟨rfl, q, rfl⟩
    have hbq : Below w5.heap.size w5 (w5.drewN q) := below_drewN (Below.refl _ _) _
    replace HD := Lib.hid (ds_below HD.out hbq); replace HO3 := Lib.hid (own_later HO3.out hbq)
    replace k10 : (w5.drewN q).cell? ⟨b3, 0, none⟩ = some (.slice a3 p.length c3) := k10
    replace hz4 : b3 < (w5.drewN q).heap.size := hz4
    clear hbq HO HRT
    generalize w5.drewN q = w8 at *
    go_wp2_with fail
    refine (cur_one (w.heap.size + 1) (0 + 100 + 2) 5 w8 HD.out.pc (by omega) (by omega)).mono ?_
    rintro e w7 ⟨b7, rfl, hp7, hw7⟩
    replace HD := Lib.hid (ds_cur HD.out hw7 hp7)
    replace HO3 := Lib.hid (own_cur HO3.out (by omega) (ws_cur hw7))
    have k11 := hw7.cell k10 (by omega)
    clear hp7 hw7 k10
    cases b7 with
    | false =>
      go_wp2_with fail
      have HDB := HD.out
      obtain ⟨k6, f6⟩ := ds_cells HDB
      refine (cur_bent (w.heap.size + 1) (0 + 100 + 2 + 2) w7 HDB.pc (by omega) a3 c3 p (own_rw HO3.out) (by omega) hc3.1 hc3.2).mono ?_
      rintro e w6 ⟨v6, p6, rfl, ho6, hp6, hw6⟩
      obtain ⟨a6, c6, rfl⟩ := form_of_own ho6
      have k7 : w6.cell? ⟨w.heap.size, 0, none⟩ = some (.slice none 0 0) := hw6.cell k6 (by have := HDB.sz; rintro (e | e) <;> omega)
      have f7 : w6.frozen? ⟨w.heap.size, 0, none⟩ = false := by
        have e := (hw6.block w.heap.size (by have := HDB.sz; omega) (by have := HDB.sz; rintro (e | e) <;> omega)).trans HDB.res
        simp [World.frozen?, e]
      have HB6 : Hid (Below w.heap.size w w6) := Lib.hid (HDB.bel.trans (ws_all (ws_wide hw6 (by omega) HDB.bel.size) HDB.bel.size))
      have HO6 := Lib.hid (own_mono ho6 (show w.heap.size + 2 ≤ _ from HDB.sz))
      have hsz6 : w.heap.size < w6.heap.size := by have := hw6.size; have := HDB.sz; omega
      clear ho6 hw6 HDB k6 f6
      go_wp2_with fail
      have hk : (w6.setCell ⟨w.heap.size, 0, none⟩ (.slice a6 p6.length c6)).cell? ⟨w.heap.size, 0, none⟩ = some (.slice a6 p6.length c6) := World.cell?_setCell_same _ _ _ k7
      refine bodyPost_ret (v := .tuple #[.int .i64 (first), .int .i64 (old : Int), .int .i64 root, .int .i64 (ss.length : Int), .agg #[.slice a6 p6.length c6]]) (by simp [results, Try.results45, go_sem, hk]) rfl ⟨_, _, _, _, _, p6, rfl, ?_, by omega, ?_⟩
      · exact own_mono (ownsRow_setCell_below HO6.out (a := ⟨w.heap.size, 0, none⟩) (by simp) _) (by omega)
      · exact HB6.out.setCell (p := ⟨w.heap.size, 0, none⟩) (Nat.le_refl _) _
    | true =>
      go_wp2_with fail
      have HDB := HD.out
      obtain ⟨k6, f6⟩ := ds_cells HDB
      refine (cur_bent (w.heap.size + 1) (0 + 100 + 2 + 2) w7 HDB.pc (by omega) a3 c3 p (own_rw HO3.out) (by omega) hc3.1 hc3.2).mono ?_
      rintro e w6 ⟨v6, p6, rfl, ho6, hp6, hw6⟩
      obtain ⟨a6, c6, rfl⟩ := form_of_own ho6
      have k7 : w6.cell? ⟨w.heap.size, 0, none⟩ = some (.slice none 0 0) := hw6.cell k6 (by have := HDB.sz; rintro (e | e) <;> omega)
      have f7 : w6.frozen? ⟨w.heap.size, 0, none⟩ = false := by
        have e := (hw6.block w.heap.size (by have := HDB.sz; omega) (by have := HDB.sz; rintro (e | e) <;> omega)).trans HDB.res
        simp [World.frozen?, e]
      have HB6 : Hid (Below w.heap.size w w6) := Lib.hid (HDB.bel.trans (ws_all (ws_wide hw6 (by omega) HDB.bel.size) HDB.bel.size))
      have HO6 := Lib.hid (own_mono ho6 (show w.heap.size + 2 ≤ _ from HDB.sz))
      have hsz6 : w.heap.size < w6.heap.size := by have := hw6.size; have := HDB.sz; omega
      clear ho6 hw6 HDB k6 f6
      go_wp2_with fail
      have hk : (w6.setCell ⟨w.heap.size, 0, none⟩ (.slice a6 p6.length c6)).cell? ⟨w.heap.size, 0, none⟩ = some (.slice a6 p6.length c6) := World.cell?_setCell_same _ _ _ k7
      refine bodyPost_ret (v := .tuple #[.int .i64 ((wrap64 (first + 1)).tmod 1000003), .int .i64 (old : Int), .int .i64 root, .int .i64 (ss.length : Int), .agg #[.slice a6 p6.length c6]]) (by simp [results, Try.results45, go_sem, hk]) rfl ⟨_, _, _, _, _, p6, rfl, ?_, by omega, ?_⟩
      · exact own_mono (ownsRow_setCell_below HO6.out (a := ⟨w.heap.size, 0, none⟩) (by simp) _) (by omega)
      · exact HB6.out.setCell (p := ⟨w.heap.size, 0, none⟩) (Nat.le_refl _) _
set_option maxHeartbeats 400000 in
theorem number_of (a : Option Addr) (cap : Nat) (cs : List UInt8) (w : World) (ha : Rw w a (byts cs)) (hn : cs.length ≤ 9223372036854775807) :
    Calls Try.prog 44 #[.slice a cs.length cap] w fun e w' => ∃ n : Int, e = .returned (.int .i64 n) ∧ 0 ≤ n ∧ n ≤ 1000002 ∧ w = w' := by
  go_enter Try.func44, Try.ntmps44
  go_wp2_with fail
  go_loop [3, 8] (fun nv i => ∃ (k : Nat) (n : Int), k ≤ cs.length ∧ i = .int .i64 (k : Int) ∧ nv = .int .i64 n ∧ 0 ≤ n ∧ n ≤ 1000002) (fun _ i => cs.length - (intOf i).toNat)
  case atStart => exact ⟨0, 0, Nat.zero_le _, rfl, rfl, by omega, by omega⟩
  case round =>
    obtain ⟨k, n, hk, rfl, rfl, hn0, hn1⟩ := hrel
    by_cases hlk : k < cs.length
    · obtain ⟨b1, off1, rfl, hbl1, hc1⟩ := ha.at (fun e => by have := congrArg List.length e; simp [byts] at this; rw [this] at hlk; simp at hlk)
      have hd1 := hc1 k _ (byts_at cs k hlk)
      have hby := byte_le (cs.getD k 0)
      have hby0 : (0 : Int) ≤ ((cs.getD k 0).toNat : Int) := by omega
      generalize ((cs.getD k 0).toNat : Int) = b at *
      have e1 : IntKind.i64.wrap b = b := IntWalk.i64_in _ (by omega)
      have e2 : IntKind.i64.wrap (31 * n) = 31 * n := IntWalk.i64_in _ (by omega)
      have e3 : IntKind.i64.wrap (31 * n + b) = 31 * n + b := IntWalk.i64_in _ (by omega)
      have e4 : (31 * n + b).tmod 1000003 = (31 * n + b) % 1000003 := Int.tmod_eq_emod_of_nonneg (by omega)
      clear hc1
      go_wp2_with fail
      go_round
      case rel => exact ⟨k + 1, (31 * n + b) % 1000003, by omega, by go_num, rfl, by omega, by omega⟩
      case measure => simp [intOf]; omega
    · go_wp2_with fail
      go_ret
      exact ⟨n, rfl, hn0, hn1, rfl⟩
end Go.Proofs.Ytdhkagabkhepgaa
