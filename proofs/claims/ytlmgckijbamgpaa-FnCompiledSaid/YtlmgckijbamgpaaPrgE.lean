/- A filter compiled: both contracts; and the draws. -/
import Derived.Test.YtlmgckijbamgpaaPrgC
import Derived.Test.YtlmgckijbamgpaaDrF
import Derived.Test.YtlmgckijbamgpaaPrgF
namespace Go.Proofs.Ytlmgckijbamgpaa
set_option linter.unusedVariables false
set_option linter.unusedSimpArgs false
open Go.ChangeShapes Go.WideShapes Go.ChangeAt Go.RowKit
set_option maxRecDepth 100000

/-- a program and whether there is one -/
def ProgO (R : List Ins × Bool) (w : World) (e : Ending) (w' : World) : Prop :=
  ∃ v, e = .returned (.tuple #[.agg #[v], .bool R.2]) ∧ w'.ownsRow w.heap.size 125 6 v R.1.length (insV R.1) ∧ Below w.heap.size w w'
set_option maxHeartbeats 4000000 in
theorem impl_CompileFilter (la : Option Addr) (lc : Nat) (l : List Wn) (w : World) (hrow : Rw w la (wnsV l)) (hn : l.length ≤ 1000000) : Calls Try.prog 39 #[.agg #[.slice la l.length lc]] w (ProgO (R_Compile l) w) := by
  obtain ⟨i0, hi, hz0, hz1, hz2⟩ := info_parts Try.infoIns
  have HGF := Lib.hid (fun wx (h : Rw wx la (wnsV l)) => impl_GoodFilter la lc l wx h (by omega))
  have HRW := Lib.hid hrow
  have HC2 := Lib.hid (heap_alloc_new (w.alloc (.cells #[.slice la l.length lc] 61)) (.cells #[.slice none 0 0] 66))
  rw [World.size_alloc] at HC2
  have HC1 := Lib.hid (heap_keep ((Below.refl (w.alloc (.cells #[.slice la l.length lc] 61)).heap.size _).alloc (Nat.le_refl _) (.cells #[.slice none 0 0] 66)) (heap_alloc_new w (.cells #[.slice la l.length lc] 61)))
  have HB2 := Lib.hid (((Below.refl w.heap.size w).alloc (Nat.le_refl _) (.cells #[.slice la l.length lc] 61)).alloc (by simp) (.cells #[.slice none 0 0] 66))
  have HZZ : Hid (((w.alloc (.cells #[.slice la l.length lc] 61)).alloc (.cells #[.slice none 0 0] 66)).heap.size = w.heap.size + 2) := Lib.hid (by simp)
  cases hG : R_GoodW l with
  | false =>
    rw [hG] at HGF
    rw [show R_Compile l = ([], false) by unfold R_Compile; rw [if_neg (by rw [hG]; simp)]]
    clear hG hrow hn
    go_enter Try.func39, Try.ntmps39
    go_wp2_with fail
    generalize hwz : (w.alloc (.cells #[.slice la l.length lc] 61)).alloc (.cells #[.slice none 0 0] 66) = wz at *
    refine (HGF.out _ (HRW.out.below HB2.out)).mono ?_
    rintro e w3 ⟨rfl, hb⟩
    have hc3 := heap_keep hb HC2.out
    have y0 : w3.cell? ⟨w.heap.size + 1, 0, none⟩ = some (.slice none 0 0) := by simp [World.cell?, hc3]
    have y1 : w3.frozen? ⟨w.heap.size + 1, 0, none⟩ = false := by simp [World.frozen?, hc3]
    have HB3 := Lib.hid ((rstep HB2.out hb).setCell (p := ⟨w.heap.size + 1, 0, none⟩) (by simp) (.slice none 0 0))
    have y2 := World.cell?_setCell_same w3 ⟨w.heap.size + 1, 0, none⟩ (.slice none 0 0) y0
    clear hb hc3
    go_wp2_with fail
    refine bodyPost_ret (v := .tuple #[.agg #[.slice none 0 0], .bool false]) (by simp [results, Try.results39, go_sem, y2]) rfl ⟨_, rfl, World.ownsRow_nil _ _ _ _, ?_⟩
    exact HB3.out
  | true =>
    rw [hG] at HGF
    have hl := good_len hG
    have hl1 := hl.1
    have hl2 := hl.2
    have hla := ln_all hG
    have hRC : R_Compile l = (cmp l (l.length - 1) 0 ++ [endI], true) := by unfold R_Compile; rw [if_pos hG]
    rw [hRC]
    have HLC : Hid ((cmp l (l.length - 1) 0).length = ln l (l.length - 1)) := Lib.hid (cmp_len (good_ok hG) _ _)
    have HCO := Lib.hid (fun m0 p wx hm hfm ho => impl_compile m0 lc l (good_ok hG) hl2 (l.length - 1) (by omega) p la [] (.slice none 0 0) wx hm (by simp; omega) hfm ho)
    simp only [List.nil_append, List.length_nil] at HCO
    obtain ⟨n, hnl⟩ : ∃ n, l.length = n := ⟨_, rfl⟩
    have hnlS := Lib.hid hnl
    rw [hnl] at HGF HC2 HC1 HB2 HZZ hl1 hl2 hla HLC HCO ⊢
    obtain ⟨kk, hkk⟩ : ∃ kk, n - 1 = kk := ⟨_, rfl⟩
    rw [hkk] at hla HLC HCO ⊢
    have hwm : IntKind.i64.wrap ((n : Int) - 1) = (kk : Int) := by rw [IntWalk.i64_in _ (by omega)]; omega
    obtain ⟨A, hA⟩ : ∃ A, cmp l kk 0 = A := ⟨_, rfl⟩
    rw [hA] at HLC HCO ⊢
    obtain ⟨na, hna⟩ : ∃ na, A.length = na := ⟨_, rfl⟩
    have HNA := Lib.hid hna
    have hna40 : na ≤ 40 := by have := HLC.out; omega
    clear hG hrow hn hnl hl hla hRC hkk hA hna
    go_enter Try.func39, Try.ntmps39
    go_wp2_with fail
    generalize hwz : (w.alloc (.cells #[.slice la n lc] 61)).alloc (.cells #[.slice none 0 0] 66) = wz at *
    refine (HGF.out _ (HRW.out.below HB2.out)).mono ?_
    rintro e w3 ⟨rfl, hb⟩
    have HB3 := Lib.hid (rstep HB2.out hb)
    have HBZ := Lib.hid hb
    have HC3 := Lib.hid (heap_keep hb HC2.out)
    have HD3 := Lib.hid (heap_keep hb HC1.out)
    have y0 : w3.cell? ⟨w.heap.size, 0, none⟩ = some (.slice la n lc) := by simp [World.cell?, HD3.out]
    have HRB : Hid (Rb wz.heap.size w3 la (wnsV l)) := Lib.hid ((HRW.out.rb.below HB3.out).mono HB2.out.size)
    have HCX := Lib.hid (HCO.out wz.heap.size w.heap.size w3 hb.size ⟨by have := HD3.out; rw [hnlS.out]; simp [World.cell?, this], HRB.out, by rw [HZZ.out]; omega⟩ (World.ownsRow_nil _ _ _ _))
    clear hb hwz
    go_wp2_with fail
    refine HCX.out.mono ?_
    rintro e w4 ⟨v4, rfl, hq4⟩
    have HQ4 := Lib.hid hq4
    obtain ⟨va4, vc4, rfl⟩ := form_of_own hq4.own
    have ho4 := hq4.own
    rw [HNA.out] at ho4
    have HC4 := Lib.hid (hq4.wl.heap HC3.out (by rintro (h | h); (simp [Value.ownBlock] at h); have := HBZ.out.size; have := HZZ.out; omega))
    have HM4 : Hid (wz.heap.size ≤ w4.heap.size) := Lib.hid (Nat.le_trans HBZ.out.size hq4.wl.size)
    have hlen4 := HNA.out
    clear hq4 ho4 hlen4 y0 HCX
    rw [HNA.out]
    rw [HNA.out] at HQ4
    have HNW := Lib.hid (World.news_of_block (cs := #[.int .i64 5, .int .i64 0, .int .i64 0, .int .i64 0, .string ⟨#[]⟩, .int .i64 0]) (t := 125) (fr := (0, 0)) (heap_alloc_new w4 (.cells #[.int .i64 5, .int .i64 0, .int .i64 0, .int .i64 0, .string ⟨#[]⟩, .int .i64 0] 125)))
    have HQA := Lib.hid ((HQ4).out.call ((Below.refl (w4).heap.size w4).alloc (Nat.le_refl _) (.cells #[.int .i64 5, .int .i64 0, .int .i64 0, .int .i64 0, .string ⟨#[]⟩, .int .i64 0] 125)) (HM4).out)
    have HO9 := Lib.hid HQA.out.own
    rw [(HNA).out] at HO9
    go_wp2_with (at_builtin; refine wpList_append_lies _ rfl _ _ 64 rfl wz.heap.size 125 i0 (.agg #[.int .i64 0, .int .i64 0, .int .i64 0, .int .i64 0, .string ByteArray.empty, .int .i64 0]) 6 56 Try.underlying64 hi hz0 hz1 hz2 rfl (by decide) _ na _ rfl HO9.out _ 1 1 [.int .i64 5, .int .i64 0, .int .i64 0, .int .i64 0, .string ⟨#[]⟩, .int .i64 0] rfl rfl HNW.out (by simp [Value.oneCell']) (by omega) (by unfold maxLen; omega) (by omega) (Nat.le_trans (HM4).out (by simp)) _ rfl ?_)
    intro g9 c9 w9 hown hgrow hH hlt
    have HQ9 := Lib.hid (HQA.out.grow (Nat.le_trans HM4.out (by simp)) [endI] na 1 HNA.out rfl hown hgrow (by rw [World.size_alloc]; exact hH))
    have HC9 := Lib.hid ((Wrote.of_grown hgrow).heap (heap_later ((Below.refl w4.heap.size w4).alloc (Nat.le_refl _) (.cells #[.int .i64 5, .int .i64 0, .int .i64 0, .int .i64 0, .string ⟨#[]⟩, .int .i64 0] 125)) HC4.out) (fun h => by have := (HQ4.out.own.lt _ h).1; have := HZZ.out; omega))
    have HLT : Hid ((A ++ [endI]).length = na + 1) := Lib.hid (by rw [List.length_append, HNA.out]; rfl)
    have hc9 := HC9.out
    have y1 : w9.cell? ⟨w.heap.size + 1, 0, none⟩ = some (.slice none 0 0) := by simp [World.cell?, hc9]
    have y2 : w9.frozen? ⟨w.heap.size + 1, 0, none⟩ = false := by simp [World.frozen?, hc9]
    have y9 := World.cell?_setCell_same w9 ⟨w.heap.size + 1, 0, none⟩ (.slice (some ⟨g9, 0, none⟩) (na + 1) c9) y1
    have HBQ := Lib.hid (((HB2.out.trans (HBZ.out.mono HB2.out.size)).trans (HQ9.out.bel.mono HB2.out.size)).setCell (p := ⟨w.heap.size + 1, 0, none⟩) (by simp) (.slice (some ⟨g9, 0, none⟩) (na + 1) c9))
    have HO9' := Lib.hid (ownsRow_setCell_below HQ9.out.own (a := ⟨w.heap.size + 1, 0, none⟩) (by rw [HZZ.out]; simp) (.slice (some ⟨g9, 0, none⟩) (na + 1) c9))
    have hn60 : ¬ ((na : Int) + 1 > 60) := by omega
    clear hown hgrow hH hlt HNW HO9 hc9
    go_wp2_with fail
    refine bodyPost_ret (v := .tuple #[.agg #[.slice (some ⟨g9, 0, none⟩) (na + 1) c9], .bool true]) (by simp [results, Try.results39, go_sem, y9]) rfl ⟨_, rfl, ?_, HBQ.out⟩
    exact own_mono HO9'.out (by rw [HZZ.out]; omega)
set_option maxHeartbeats 4000000 in
theorem spec_CompileFilter (la : Option Addr) (lc : Nat) (l : List Wn) (w : World) (hrow : Rw w la (wnsV l)) (hn : l.length ≤ 1000000) : Calls Try.prog 40 #[.agg #[.slice la l.length lc]] w (ProgO (R_Compile l) w) := by
  obtain ⟨i0, hi, hz0, hz1, hz2⟩ := info_parts Try.infoIns
  have HGF := Lib.hid (fun wx (h : Rw wx la (wnsV l)) => spec_GoodFilter la lc l wx h (by omega))
  have HRW := Lib.hid hrow
  have HC2 := Lib.hid (heap_alloc_new (w.alloc (.cells #[.slice la l.length lc] 61)) (.cells #[.slice none 0 0] 66))
  rw [World.size_alloc] at HC2
  have HC1 := Lib.hid (heap_keep ((Below.refl (w.alloc (.cells #[.slice la l.length lc] 61)).heap.size _).alloc (Nat.le_refl _) (.cells #[.slice none 0 0] 66)) (heap_alloc_new w (.cells #[.slice la l.length lc] 61)))
  have HB2 := Lib.hid (((Below.refl w.heap.size w).alloc (Nat.le_refl _) (.cells #[.slice la l.length lc] 61)).alloc (by simp) (.cells #[.slice none 0 0] 66))
  have HZZ : Hid (((w.alloc (.cells #[.slice la l.length lc] 61)).alloc (.cells #[.slice none 0 0] 66)).heap.size = w.heap.size + 2) := Lib.hid (by simp)
  cases hG : R_GoodW l with
  | false =>
    rw [hG] at HGF
    rw [show R_Compile l = ([], false) by unfold R_Compile; rw [if_neg (by rw [hG]; simp)]]
    clear hG hrow hn
    go_enter Try.func40, Try.ntmps40
    go_wp2_with fail
    generalize hwz : (w.alloc (.cells #[.slice la l.length lc] 61)).alloc (.cells #[.slice none 0 0] 66) = wz at *
    refine (HGF.out _ (HRW.out.below HB2.out)).mono ?_
    rintro e w3 ⟨rfl, hb⟩
    have hc3 := heap_keep hb HC2.out
    have y0 : w3.cell? ⟨w.heap.size + 1, 0, none⟩ = some (.slice none 0 0) := by simp [World.cell?, hc3]
    have y1 : w3.frozen? ⟨w.heap.size + 1, 0, none⟩ = false := by simp [World.frozen?, hc3]
    have HB3 := Lib.hid ((rstep HB2.out hb).setCell (p := ⟨w.heap.size + 1, 0, none⟩) (by simp) (.slice none 0 0))
    have y2 := World.cell?_setCell_same w3 ⟨w.heap.size + 1, 0, none⟩ (.slice none 0 0) y0
    clear hb hc3
    go_wp2_with fail
    refine bodyPost_ret (v := .tuple #[.agg #[.slice none 0 0], .bool false]) (by simp [results, Try.results40, go_sem, y2]) rfl ⟨_, rfl, World.ownsRow_nil _ _ _ _, ?_⟩
    exact HB3.out
  | true =>
    rw [hG] at HGF
    have hl := good_len hG
    have hl1 := hl.1
    have hl2 := hl.2
    have hla := ln_all hG
    have hRC : R_Compile l = (cmp l (l.length - 1) 0 ++ [endI], true) := by unfold R_Compile; rw [if_pos hG]
    rw [hRC]
    have HLC : Hid ((cmp l (l.length - 1) 0).length = ln l (l.length - 1)) := Lib.hid (cmp_len (good_ok hG) _ _)
    have HCO := Lib.hid (fun m0 (p : Nat) wx hm hfm ho => spec_l8Compile m0 lc l (good_ok hG) hl2 (l.length - 1) (by omega) la [] (.slice none 0 0) wx hm (by simp; omega) hfm ho)
    simp only [List.nil_append, List.length_nil] at HCO
    obtain ⟨n, hnl⟩ : ∃ n, l.length = n := ⟨_, rfl⟩
    rw [hnl] at HGF HC2 HC1 HB2 HZZ hl1 hl2 hla HLC HCO ⊢
    obtain ⟨kk, hkk⟩ : ∃ kk, n - 1 = kk := ⟨_, rfl⟩
    rw [hkk] at hla HLC HCO ⊢
    have hwm : IntKind.i64.wrap ((n : Int) - 1) = (kk : Int) := by rw [IntWalk.i64_in _ (by omega)]; omega
    obtain ⟨A, hA⟩ : ∃ A, cmp l kk 0 = A := ⟨_, rfl⟩
    rw [hA] at HLC HCO ⊢
    obtain ⟨na, hna⟩ : ∃ na, A.length = na := ⟨_, rfl⟩
    have HNA := Lib.hid hna
    have hna40 : na ≤ 40 := by have := HLC.out; omega
    clear hG hrow hn hnl hl hla hRC hkk hA hna
    go_enter Try.func40, Try.ntmps40
    go_wp2_with fail
    generalize hwz : (w.alloc (.cells #[.slice la n lc] 61)).alloc (.cells #[.slice none 0 0] 66) = wz at *
    refine (HGF.out _ (HRW.out.below HB2.out)).mono ?_
    rintro e w3 ⟨rfl, hb⟩
    have HB3 := Lib.hid (rstep HB2.out hb)
    have HBZ := Lib.hid hb
    have HC3 := Lib.hid (heap_keep hb HC2.out)
    have HD3 := Lib.hid (heap_keep hb HC1.out)
    have y0 : w3.cell? ⟨w.heap.size, 0, none⟩ = some (.slice la n lc) := by simp [World.cell?, HD3.out]
    have HRB : Hid (Rb wz.heap.size w3 la (wnsV l)) := Lib.hid ((HRW.out.rb.below HB3.out).mono HB2.out.size)
    have HCX := Lib.hid (HCO.out wz.heap.size w.heap.size w3 hb.size HRB.out (World.ownsRow_nil _ _ _ _))
    clear hb hwz
    go_wp2_with fail
    refine HCX.out.mono ?_
    rintro e w4 ⟨v4, rfl, hq4⟩
    have HQ4 := Lib.hid hq4
    obtain ⟨va4, vc4, rfl⟩ := form_of_own hq4.own
    have ho4 := hq4.own
    rw [HNA.out] at ho4
    have HC4 := Lib.hid (hq4.wl.heap HC3.out (by rintro (h | h); (simp [Value.ownBlock] at h); have := HBZ.out.size; have := HZZ.out; omega))
    have HM4 : Hid (wz.heap.size ≤ w4.heap.size) := Lib.hid (Nat.le_trans HBZ.out.size hq4.wl.size)
    have hlen4 := HNA.out
    clear hq4 ho4 hlen4 y0 HCX
    rw [HNA.out]
    rw [HNA.out] at HQ4
    have HNW := Lib.hid (World.news_of_block (cs := #[.int .i64 5, .int .i64 0, .int .i64 0, .int .i64 0, .string ⟨#[]⟩, .int .i64 0]) (t := 125) (fr := (0, 0)) (heap_alloc_new w4 (.cells #[.int .i64 5, .int .i64 0, .int .i64 0, .int .i64 0, .string ⟨#[]⟩, .int .i64 0] 125)))
    have HQA := Lib.hid ((HQ4).out.call ((Below.refl (w4).heap.size w4).alloc (Nat.le_refl _) (.cells #[.int .i64 5, .int .i64 0, .int .i64 0, .int .i64 0, .string ⟨#[]⟩, .int .i64 0] 125)) (HM4).out)
    have HO9 := Lib.hid HQA.out.own
    rw [(HNA).out] at HO9
    go_wp2_with (at_builtin; refine wpList_append_lies _ rfl _ _ 64 rfl wz.heap.size 125 i0 (.agg #[.int .i64 0, .int .i64 0, .int .i64 0, .int .i64 0, .string ByteArray.empty, .int .i64 0]) 6 56 Try.underlying64 hi hz0 hz1 hz2 rfl (by decide) _ na _ rfl HO9.out _ 1 1 [.int .i64 5, .int .i64 0, .int .i64 0, .int .i64 0, .string ⟨#[]⟩, .int .i64 0] rfl rfl HNW.out (by simp [Value.oneCell']) (by omega) (by unfold maxLen; omega) (by omega) (Nat.le_trans (HM4).out (by simp)) _ rfl ?_)
    intro g9 c9 w9 hown hgrow hH hlt
    have HQ9 := Lib.hid (HQA.out.grow (Nat.le_trans HM4.out (by simp)) [endI] na 1 HNA.out rfl hown hgrow (by rw [World.size_alloc]; exact hH))
    have HC9 := Lib.hid ((Wrote.of_grown hgrow).heap (heap_later ((Below.refl w4.heap.size w4).alloc (Nat.le_refl _) (.cells #[.int .i64 5, .int .i64 0, .int .i64 0, .int .i64 0, .string ⟨#[]⟩, .int .i64 0] 125)) HC4.out) (fun h => by have := (HQ4.out.own.lt _ h).1; have := HZZ.out; omega))
    have HLT : Hid ((A ++ [endI]).length = na + 1) := Lib.hid (by rw [List.length_append, HNA.out]; rfl)
    have hc9 := HC9.out
    have y1 : w9.cell? ⟨w.heap.size + 1, 0, none⟩ = some (.slice none 0 0) := by simp [World.cell?, hc9]
    have y2 : w9.frozen? ⟨w.heap.size + 1, 0, none⟩ = false := by simp [World.frozen?, hc9]
    have y9 := World.cell?_setCell_same w9 ⟨w.heap.size + 1, 0, none⟩ (.slice (some ⟨g9, 0, none⟩) (na + 1) c9) y1
    have HBQ := Lib.hid (((HB2.out.trans (HBZ.out.mono HB2.out.size)).trans (HQ9.out.bel.mono HB2.out.size)).setCell (p := ⟨w.heap.size + 1, 0, none⟩) (by simp) (.slice (some ⟨g9, 0, none⟩) (na + 1) c9))
    have HO9' := Lib.hid (ownsRow_setCell_below HQ9.out.own (a := ⟨w.heap.size + 1, 0, none⟩) (by rw [HZZ.out]; simp) (.slice (some ⟨g9, 0, none⟩) (na + 1) c9))
    have hn60 : ¬ ((na : Int) + 1 > 60) := by omega
    clear hown hgrow hH hlt HNW HO9 hc9
    go_wp2_with fail
    refine bodyPost_ret (v := .tuple #[.agg #[.slice (some ⟨g9, 0, none⟩) (na + 1) c9], .bool true]) (by simp [results, Try.results40, go_sem, y9]) rfl ⟨_, rfl, ?_, HBQ.out⟩
    exact own_mono HO9'.out (by rw [HZZ.out]; omega)
def FltO (w : World) (e : Ending) (w' : World) : Prop :=
  ∃ a c l, e = .returned (.agg #[.slice a l.length c]) ∧ l.length ≤ 20 ∧ w'.ownsRow w.heap.size 134 6 (.slice a l.length c) l.length (wnsV l) ∧ Below w.heap.size w w'
set_option maxHeartbeats 1000000 in
theorem draw_GoodFilter (w : World) (a : Option Addr) (c : Nat) (cs : List UInt8) (hl : cs.length ≤ c) (hc : c ≤ 9223372036854775807) (hr : Rb w.heap.size w a (u8s cs)) :
    Calls Try.prog 102 #[.slice a cs.length c] w (FltO w) := by
  have HBA := Lib.hid ((Below.refl w.heap.size w).alloc (Nat.le_refl _) (.cells #[.slice none 0 0] 61))
  have HSA : Hid ((w.alloc (.cells #[.slice none 0 0] 61)).heap.size = w.heap.size + 1) := Lib.hid (by simp)
  have hp0 := pc_start (w.alloc (.cells #[.slice none 0 0] 61)) a c cs hl hc ((hr.below HBA.out).mono HBA.out.size)
  rw [HSA.out] at hp0
  have HP0 := Lib.hid hp0
  have hbb := (Below.refl (w.alloc (.cells #[.slice none 0 0] 61)).heap.size (w.alloc (.cells #[.slice none 0 0] 61))).alloc (Nat.le_refl _) (.cells #[.slice a cs.length c, .int .i64 0, .int .u64 0] 100)
  have HX0 := Lib.hid (heap_keep hbb (heap_alloc_new w (.cells #[.slice none 0 0] 61)))
  have HB0 := Lib.hid (HBA.out.trans (hbb.mono HBA.out.size))
  have HZ0 : Hid (((w.alloc (.cells #[.slice none 0 0] 61)).alloc (.cells #[.slice a cs.length c, .int .i64 0, .int .u64 0] 100)).heap.size = w.heap.size + 2) := Lib.hid (by simp)
  clear hp0 hbb hr hl hc
  go_enter Try.func102, Try.ntmps102
  go_wp2_with fail
  generalize (w.alloc (.cells #[.slice none 0 0] 61)).alloc (.cells #[.slice a cs.length c, .int .i64 0, .int .u64 0] 100) = w0 at *
  refine (cur_filter (w.heap.size + 1) 0 w0 HP0.out (by omega)).mono ?_
  rintro e w1 ⟨fa, fc, l, rfl, hl20, ho, hp, hw⟩
  have hz := HZ0.out
  have HX1 := Lib.hid (hw.heap HX0.out (by rintro (h | h) <;> omega))
  have HW1 := Lib.hid (HB0.out.trans (ws_all (ws_wide (n := w.heap.size) hw (by omega) (by omega)) (by omega)))
  have HO1 := Lib.hid ho
  clear hw ho hp hz
  have hx1 := HX1.out
  have y0 : w1.cell? ⟨w.heap.size, 0, none⟩ = some (.slice none 0 0) := by simp [World.cell?, hx1]
  have f0 : w1.frozen? ⟨w.heap.size, 0, none⟩ = false := by simp [World.frozen?, hx1]
  have y9 := World.cell?_setCell_same w1 ⟨w.heap.size, 0, none⟩ (.slice fa l.length fc) y0
  have HO3 := Lib.hid (ownsRow_setCell_below HO1.out (a := ⟨w.heap.size, 0, none⟩) (by rw [HZ0.out]; show w.heap.size < w.heap.size + 2; omega) (.slice fa l.length fc))
  have HB3 := Lib.hid (HW1.out.setCell (p := ⟨w.heap.size, 0, none⟩) (Nat.le_refl _) (.slice fa l.length fc))
  clear hx1
  go_wp2_with fail
  refine bodyPost_ret (v := .agg #[.slice fa l.length fc]) (by simp [results, Try.results102, go_sem, y9]) rfl ⟨fa, fc, l, rfl, hl20, ?_, HB3.out⟩
  exact own_mono HO3.out (by rw [HZ0.out]; omega)
set_option maxHeartbeats 1000000 in
theorem draw_CompileFilter (w : World) (a : Option Addr) (c : Nat) (cs : List UInt8) (hl : cs.length ≤ c) (hc : c ≤ 9223372036854775807) (hr : Rb w.heap.size w a (u8s cs)) :
    Calls Try.prog 46 #[.slice a cs.length c] w (FltO w) := by
  have HBA := Lib.hid ((Below.refl w.heap.size w).alloc (Nat.le_refl _) (.cells #[.slice none 0 0] 61))
  have HSA : Hid ((w.alloc (.cells #[.slice none 0 0] 61)).heap.size = w.heap.size + 1) := Lib.hid (by simp)
  have HX0 := Lib.hid (heap_alloc_new w (.cells #[.slice none 0 0] 61))
  have HD := Lib.hid (draw_GoodFilter (w.alloc (.cells #[.slice none 0 0] 61)) a c cs hl hc ((hr.below HBA.out).mono HBA.out.size))
  clear hr hl hc
  go_enter Try.func46, Try.ntmps46
  go_wp2_with fail
  generalize w.alloc (.cells #[.slice none 0 0] 61) = w0 at *
  refine HD.out.mono ?_
  rintro e w1 ⟨fa, fc, l, rfl, hl20, ho, hb⟩
  have HX1 := Lib.hid (heap_keep hb HX0.out)
  have HW1 := Lib.hid (rstep HBA.out hb)
  have HO1 := Lib.hid ho
  clear ho hb
  have hx1 := HX1.out
  have y0 : w1.cell? ⟨w.heap.size, 0, none⟩ = some (.slice none 0 0) := by simp [World.cell?, hx1]
  have f0 : w1.frozen? ⟨w.heap.size, 0, none⟩ = false := by simp [World.frozen?, hx1]
  have y9 := World.cell?_setCell_same w1 ⟨w.heap.size, 0, none⟩ (.slice fa l.length fc) y0
  have HO3 := Lib.hid (ownsRow_setCell_below HO1.out (a := ⟨w.heap.size, 0, none⟩) (by rw [HSA.out]; show w.heap.size < w.heap.size + 1; omega) (.slice fa l.length fc))
  have HB3 := Lib.hid (HW1.out.setCell (p := ⟨w.heap.size, 0, none⟩) (Nat.le_refl _) (.slice fa l.length fc))
  clear hx1
  go_wp2_with fail
  refine bodyPost_ret (v := .agg #[.slice fa l.length fc]) (by simp [results, Try.results46, go_sem, y9]) rfl ⟨fa, fc, l, rfl, hl20, ?_, HB3.out⟩
  exact own_mono HO3.out (by rw [HSA.out]; omega)
/-! ### what the law asks, in plain Lean -/
theorem cmpl_yes {l : List Wn} (h : (R_Compile l).2 = true) : R_GoodW l = true ∧ (R_Compile l).1 = cmp l (l.length - 1) 0 ++ [endI] := by
  unfold R_Compile at h ⊢
  split at h
  · rename_i hg
    exact ⟨hg, by rw [if_pos hg]⟩
  · cases h
theorem rising_pw {s : ByteArray} {fs : List Fld} (hR : R_Rising s = some fs) : fs.Pairwise (fun x y => x.no < y.no) := by
  unfold R_Rising at hR
  cases hq : R_Read s with
  | none => rw [hq] at hR; cases hR
  | some r =>
    rw [hq] at hR
    simp only at hR
    split at hR
    · cases hR; exact ris_pair (by assumption)
    · cases hR
/-- either there are no rising fields, or the program runs as the filter tells -/
theorem cmpl_run {l : List Wn} (s : ByteArray) (h : (R_Compile l).2 = true) : GoodP (R_Compile l).1 ∧ ((R_Rising s = none ∧ R_Matches l s = (false, false)) ∨ ∃ fs R, R_Rising s = some fs ∧ R_Matches l s = (R, true) ∧ Runs (R_Compile l).1 fs 0 false (-1) R) := by
  obtain ⟨hg, he⟩ := cmpl_yes h
  rw [he]
  refine ⟨cmpl_good hg, ?_⟩
  cases hr : R_Rising s with
  | none => exact .inl ⟨rfl, matches_none hr⟩
  | some fs => exact .inr ⟨fs, _, rfl, matches_yes hr hg, run_all fs (rising_pw hr) hg⟩
end Go.Proofs.Ytlmgckijbamgpaa
