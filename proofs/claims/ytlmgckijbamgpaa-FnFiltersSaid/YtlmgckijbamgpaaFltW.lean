/- A filter turned: the reference's contract; and whether two filters are alike. -/
import Derived.Test.YtlmgckijbamgpaaFltV
namespace Go.Proofs.Ytlmgckijbamgpaa
set_option linter.unusedVariables false
set_option linter.unusedSimpArgs false
open Go.ChangeShapes Go.WideShapes Go.ChangeAt Go.RowKit
set_option maxRecDepth 100000

theorem rw_news {w wx : World} {b off : Nat} {vs : List Value} (h : Rw w (some ⟨b, off, none⟩) vs) (hb : Below w.heap.size w wx) : ∀ (j : Nat) (u : Value), vs[j]? = some u → wx.cell? ((⟨b, off, none⟩ : Addr).add j) = some u := by
  intro j u hj
  obtain ⟨b2, o2, h1, h2, h3⟩ := h.at (fun e => by rw [e] at hj; simp at hj)
  cases h1
  have := below_later hb (h3 j u hj)
  cases j with
  | zero => simpa [Addr.add] using this
  | succ j => simpa [Addr.add] using this
set_option maxHeartbeats 4000000 in
theorem spec_NotFilter (la : Option Addr) (lc : Nat) (l : List Wn) (w : World) (hrow : Rw w la (wnsV l)) (hn : l.length ≤ 1000000) : Calls Try.prog 51 #[.agg #[.slice la l.length lc]] w (FilO (R_Not l) w) := by
  obtain ⟨i0, hi, hz0, hz1, hz2⟩ := info_parts Try.infoWant
  have HGF := Lib.hid (fun wx (h : Rw wx la (wnsV l)) => spec_GoodFilter la lc l wx h (by omega))
  have HRW := Lib.hid hrow
  have HC2 := Lib.hid (heap_alloc_new (w.alloc (.cells #[.slice la l.length lc] 61)) (.cells #[.slice none 0 0] 61))
  rw [World.size_alloc] at HC2
  have HC1 := Lib.hid (heap_keep ((Below.refl (w.alloc (.cells #[.slice la l.length lc] 61)).heap.size _).alloc (Nat.le_refl _) (.cells #[.slice none 0 0] 61)) (heap_alloc_new w (.cells #[.slice la l.length lc] 61)))
  have HB2 := Lib.hid (((Below.refl w.heap.size w).alloc (Nat.le_refl _) (.cells #[.slice la l.length lc] 61)).alloc (by simp) (.cells #[.slice none 0 0] 61))
  have hzz : ((w.alloc (.cells #[.slice la l.length lc] 61)).alloc (.cells #[.slice none 0 0] 61)).heap.size = w.heap.size + 2 := by simp
  have HZZ := Lib.hid hzz
  clear hzz
  obtain ⟨n, hnl⟩ : ∃ n, l.length = n := ⟨_, rfl⟩
  have HNL := Lib.hid hnl
  cases hG : R_GoodW l with
  | false =>
    rw [hG] at HGF
    rw [Rnot_bad hG]
    rw [hnl] at HGF HC2 HC1 HB2 HZZ ⊢
    clear hG hrow hn hnl
    go_enter Try.func51, Try.ntmps51
    go_wp2_with fail
    generalize hwz : (w.alloc (.cells #[.slice la n lc] 61)).alloc (.cells #[.slice none 0 0] 61) = wz at *
    refine (HGF.out _ (HRW.out.below HB2.out)).mono ?_
    rintro e w3 ⟨rfl, hb⟩
    have hc3 := heap_keep hb HC2.out
    have y0 : w3.cell? ⟨w.heap.size + 1, 0, none⟩ = some (.slice none 0 0) := by simp [World.cell?, hc3]
    have y1 : w3.frozen? ⟨w.heap.size + 1, 0, none⟩ = false := by simp [World.frozen?, hc3]
    have HB3 := Lib.hid ((rstep HB2.out hb).setCell (p := ⟨w.heap.size + 1, 0, none⟩) (by simp) (.slice none 0 0))
    have y2 := World.cell?_setCell_same w3 ⟨w.heap.size + 1, 0, none⟩ (.slice none 0 0) y0
    clear hb hc3
    go_wp2_with fail
    refine bodyPost_ret (v := .tuple #[.agg #[.slice none 0 0], .bool false]) (by simp [results, Try.results51, go_sem, y2]) rfl ⟨_, rfl, World.ownsRow_nil _ _ _ _, ?_⟩
    exact HB3.out
  | true =>
    rw [hG] at HGF
    have hl := good_len hG
    have hl1 := hl.1
    have hl2 := hl.2
    have HFULL := Lib.hid (fun h => Rnot_full (l := l) h)
    have HYES := Lib.hid (Rnot_yes hG)
    generalize R_Not l = R at *
    obtain ⟨b, off, rfl, hbl, _⟩ := hrow.at (wnsV_ne (k := 0) (by omega))
    have HLN := Lib.hid (wnsV_len l)
    have HOC := Lib.hid (wnsV_oc l)
    rw [hnl] at HGF HC2 HC1 HB2 HZZ HFULL HYES HLN hl1 hl2 ⊢
    clear hG hrow hn hnl hl
    have hwm : IntKind.i64.wrap ((n : Int) - 1) = (n : Int) - 1 := IntWalk.i64_in _ (by omega)
    by_cases h20 : n = 20
    · subst h20
      rw [HFULL.out (by omega)]
      clear hwm
      go_enter Try.func51, Try.ntmps51
      go_wp2_with fail
      generalize hwz : (w.alloc (.cells #[.slice (some ⟨b, off, none⟩) 20 lc] 61)).alloc (.cells #[.slice none 0 0] 61) = wz at *
      refine (HGF.out _ (HRW.out.below HB2.out)).mono ?_
      rintro e w3 ⟨rfl, hb⟩
      have hc3 := heap_keep hb HC2.out
      have y0 : w3.cell? ⟨w.heap.size + 1, 0, none⟩ = some (.slice none 0 0) := by simp [World.cell?, hc3]
      have y1 : w3.frozen? ⟨w.heap.size + 1, 0, none⟩ = false := by simp [World.frozen?, hc3]
      have HB3 := Lib.hid ((rstep HB2.out hb).setCell (p := ⟨w.heap.size + 1, 0, none⟩) (by simp) (.slice none 0 0))
      have y2 := World.cell?_setCell_same w3 ⟨w.heap.size + 1, 0, none⟩ (.slice none 0 0) y0
      clear hb hc3
      go_wp2_with fail
      refine bodyPost_ret (v := .tuple #[.agg #[.slice none 0 0], .bool false]) (by simp [results, Try.results51, go_sem, y2]) rfl ⟨_, rfl, World.ownsRow_nil _ _ _ _, ?_⟩
      exact HB3.out
    have hlt : n < 20 := by omega
    have k20 : ((n : Int) == 20) = false := beq_eq_false_iff_ne.2 (by omega)
    rw [HYES.out hlt]
    clear h20
    go_enter Try.func51, Try.ntmps51
    go_wp2_with fail
    generalize hwz : (w.alloc (.cells #[.slice (some ⟨b, off, none⟩) n lc] 61)).alloc (.cells #[.slice none 0 0] 61) = wz at *
    refine (HGF.out _ (HRW.out.below HB2.out)).mono ?_
    rintro e w3 ⟨rfl, hb⟩
    have HB3 := Lib.hid (rstep HB2.out hb)
    have hc3 := heap_keep hb HC2.out
    have hc4 := heap_keep hb HC1.out
    have hs3 : w.heap.size < w3.heap.size := by have := HZZ.out; have := hb.size; omega
    have HBZ := Lib.hid hb
    have y0 : w3.cell? ⟨w.heap.size, 0, none⟩ = some (.slice (some ⟨b, off, none⟩) n lc) := by simp [World.cell?, hc4]
    have HO := Lib.hid (World.ownsRow_lit (base := wz.heap.size) (e := 134) (size := 6) w3 #[] 0 hb.size (by decide) rfl)
    have HNEWS := Lib.hid (rw_news HRW.out (ralloc HB3.out (.cells #[] 134)))
    have HB4 := Lib.hid (HBZ.out.alloc HBZ.out.size (.cells #[] 134))
    clear hb hc3 hc4 hwz
    go_wp2_with (at_builtin; refine wpList_append_own _ rfl _ _ 59 rfl wz.heap.size 134 i0 (.agg #[.int .i64 0, .int .i64 0, .int .i64 0, .string ByteArray.empty, .int .i64 0, .int .i64 0]) 6 56 Try.underlying59 hi hz0 hz1 hz2 rfl (by decide) _ 0 [] rfl HO.out ⟨b, off, none⟩ n lc (wnsV l) rfl HLN.out HNEWS.out HOC.out (by unfold maxLen; omega) (by omega) HB4.out.size ?_)
    intro v9 w9 hown hgrow _
    obtain ⟨va, vc, rfl⟩ := form_of_own hown
    have HO9 := Lib.hid hown
    have HB9 := Lib.hid (Below.grown HB4.out hgrow HB4.out.size (fun j hj => (HO.out.lt j hj).1))
    clear hown hgrow HO HNEWS y0
    have HN2 := Lib.hid (World.news_of_block (cs := #[.int .i64 8, .int .i64 0, .int .i64 0, .string ⟨#[]⟩, .int .i64 ((n : Int) - 1), .int .i64 0]) (t := 134) (fr := (0, 0)) (heap_alloc_new w9 (.cells #[.int .i64 8, .int .i64 0, .int .i64 0, .string ⟨#[]⟩, .int .i64 ((n : Int) - 1), .int .i64 0] 134)))
    have HO10 := Lib.hid (HO9.out.alloc (.cells #[.int .i64 8, .int .i64 0, .int .i64 0, .string ⟨#[]⟩, .int .i64 ((n : Int) - 1), .int .i64 0] 134))
    have HB10 := Lib.hid (HB9.out.alloc HB9.out.size (.cells #[.int .i64 8, .int .i64 0, .int .i64 0, .string ⟨#[]⟩, .int .i64 ((n : Int) - 1), .int .i64 0] 134))
    go_wp2_with (at_builtin; refine wpList_append_own _ rfl _ _ 59 rfl wz.heap.size 134 i0 (.agg #[.int .i64 0, .int .i64 0, .int .i64 0, .string ByteArray.empty, .int .i64 0, .int .i64 0]) 6 56 Try.underlying59 hi hz0 hz1 hz2 rfl (by decide) _ n (wnsV l) rfl HO10.out ⟨w9.heap.size, 0, none⟩ 1 1 [.int .i64 8, .int .i64 0, .int .i64 0, .string ⟨#[]⟩, .int .i64 ((n : Int) - 1), .int .i64 0] rfl rfl HN2.out (by simp [Value.oneCell']) (by unfold maxLen; omega) (by omega) HB10.out.size ?_)
    intro v11 w11 hown hgrow _
    obtain ⟨xa, xc, rfl⟩ := form_of_own hown
    have HO11 := Lib.hid (own_wn (f := ⟨8, 0, 0, ⟨#[]⟩, (n : Int) - 1, 0⟩) HNL.out hown)
    have HB11 := Lib.hid (Below.grown HB10.out hgrow HB10.out.size (fun j hj => (HO10.out.lt j hj).1))
    have hc3 := heap_keep HB11.out HC2.out
    have y1 : w11.cell? ⟨w.heap.size + 1, 0, none⟩ = some (.slice none 0 0) := by simp [World.cell?, hc3]
    have y2 : w11.frozen? ⟨w.heap.size + 1, 0, none⟩ = false := by simp [World.frozen?, hc3]
    have HB12 := Lib.hid ((HB2.out.trans (HB11.out.mono (by rw [HZZ.out]; omega))).setCell (p := ⟨w.heap.size + 1, 0, none⟩) (by simp) (.slice xa (n + 1) xc))
    have y11 := World.cell?_setCell_same w11 ⟨w.heap.size + 1, 0, none⟩ (.slice xa (n + 1) xc) y1
    have HO12 := Lib.hid (ownsRow_setCell_below HO11.out (a := ⟨w.heap.size + 1, 0, none⟩) (by rw [HZZ.out]; simp) (.slice xa (n + 1) xc))
    clear hown hgrow HN2 hc3
    go_wp2_with fail
    refine bodyPost_ret (v := .tuple #[.agg #[.slice xa (n + 1) xc], .bool true]) (by simp [results, Try.results51, go_sem, y11]) rfl ⟨_, rfl, ?_, HB12.out⟩
    have := own_mono (base' := w.heap.size) HO12.out (by rw [HZZ.out]; omega)
    have e1 : (l ++ [(⟨8, 0, 0, ⟨#[]⟩, (n : Int) - 1, 0⟩ : Wn)]).length = n + 1 := by rw [List.length_append, HNL.out]; rfl
    rw [e1] at this
    simp only
    rw [e1]; exact this
set_option maxHeartbeats 1000000 in
theorem same_filters (a b : Option Addr) (cap cap' : Nat) (l : List Wn) (w : World) (ha : Rw w a (wnsV l)) (hb : Rw w b (wnsV l)) (hn : l.length ≤ 1000000) :
    Calls Try.prog 52 #[.agg #[.slice a l.length cap], .agg #[.slice b l.length cap']] w fun e w' => e = .returned (.bool true) ∧ Below w.heap.size w w' := by
  have HA := Lib.hid ha; have HB := Lib.hid hb
  clear ha hb
  have HC2 := Lib.hid (heap_alloc_new (w.alloc (.cells #[.slice a l.length cap] 61)) (.cells #[.slice b l.length cap'] 61))
  rw [World.size_alloc] at HC2
  have HC1 := Lib.hid (heap_keep ((Below.refl (w.alloc (.cells #[.slice a l.length cap] 61)).heap.size _).alloc (Nat.le_refl _) (.cells #[.slice b l.length cap'] 61)) (heap_alloc_new w (.cells #[.slice a l.length cap] 61)))
  have HB2 := Lib.hid (((Below.refl w.heap.size w).alloc (Nat.le_refl _) (.cells #[.slice a l.length cap] 61)).alloc (by simp) (.cells #[.slice b l.length cap'] 61))
  obtain ⟨wz, hwz⟩ : ∃ wz, (w.alloc (.cells #[.slice a l.length cap] 61)).alloc (.cells #[.slice b l.length cap'] 61) = wz := ⟨_, rfl⟩
  rw [hwz] at HC1 HC2 HB2
  obtain ⟨n, hnl⟩ : ∃ n, l.length = n := ⟨_, rfl⟩
  have HNL := Lib.hid hnl
  rw [hnl] at hn HC1 HC2 hwz ⊢
  clear hnl
  have y0 : wz.cell? ⟨w.heap.size, 0, none⟩ = some (.slice a n cap) := by have := HC1.out; simp [World.cell?, this]
  have y1 : wz.cell? ⟨w.heap.size + 1, 0, none⟩ = some (.slice b n cap') := by have := HC2.out; simp [World.cell?, this]
  have HW := Lib.hid hwz
  clear hwz
  go_enter Try.func52, Try.ntmps52
  go_wp2_with fail
  rw [HW.out]
  go_loopw [16] (fun i wr => ∃ k : Nat, k ≤ n ∧ i = .int .i64 k ∧ Drawn wz wr) (fun i _ => n - (intOf i).toNat)
  case atStart => exact ⟨0, Nat.zero_le _, rfl, Drawn.refl wz⟩
  case round =>
    obtain ⟨w1, rfl⟩ : ∃ z : World, z = wr := ⟨_, rfl⟩
    obtain ⟨k, hk, rfl, HD⟩ := hrel
    have HBZ : Hid (Below wz.heap.size wz w1) := Lib.hid (by obtain ⟨n, rfl⟩ := HD; exact below_drewN (Below.refl _ _) n)
    have HBD := Lib.hid (HB2.out.trans (HBZ.out.mono HB2.out.size))
    have x0 := below_later HBZ.out y0
    have x1 := below_later HBZ.out y1
    by_cases hlk : k < n
    · obtain ⟨f, hf⟩ : ∃ f, l[k]? = some f := ⟨l[k]'(by have := HNL.out; omega), List.getElem?_eq_getElem _⟩
      obtain ⟨b1, o1, rfl, hbl1, hbw1, c0, c1, c2, c3, c4, c5⟩ := row6 HA.out HBD.out hf
      obtain ⟨b2, o2, rfl, hbl2, hbw2, d0, d1, d2, d3, d4, d5⟩ := row6 HB.out HBD.out hf
      obtain ⟨kd, no, nm, tx, fa, fb⟩ := f
      simp only at c0 c1 c2 c3 c4 c5 d0 d1 d2 d3 d4 d5
      have e0 : (kd != kd) = false := by simp
      have e1 : (no != no) = false := by simp
      have e2 : (nm != nm) = false := by simp
      have e4 : (fa != fa) = false := by simp
      have e5 : (fb != fb) = false := by simp
      clear hf y0 y1
      have HDW := Lib.hid HD
      clear HD
      go_wp2_with fail
      refine wp_region_G [] (fun w' => (w'.cell? ⟨w.heap.size, 0, none⟩ = some (.slice (some ⟨b1, o1, none⟩) n cap) ∧ w'.cell? ⟨w.heap.size + 1, 0, none⟩ = some (.slice (some ⟨b2, o2, none⟩) n cap')) ∧ (w'.cell? ⟨b1, o1 + k * 6, none⟩ = some (.int .i64 kd) ∧ w'.cell? ⟨b1, o1 + k * 6 + 1, none⟩ = some (.int .i64 no) ∧ w'.cell? ⟨b1, o1 + k * 6 + 2, none⟩ = some (.int .i64 nm) ∧ w'.cell? ⟨b1, o1 + k * 6 + 3, none⟩ = some (.string tx) ∧ w'.cell? ⟨b1, o1 + k * 6 + 4, none⟩ = some (.int .i64 fa) ∧ w'.cell? ⟨b1, o1 + k * 6 + 5, none⟩ = some (.int .i64 fb)) ∧ w'.cell? ⟨b2, o2 + k * 6, none⟩ = some (.int .i64 kd) ∧ w'.cell? ⟨b2, o2 + k * 6 + 1, none⟩ = some (.int .i64 no) ∧ w'.cell? ⟨b2, o2 + k * 6 + 2, none⟩ = some (.int .i64 nm) ∧ w'.cell? ⟨b2, o2 + k * 6 + 3, none⟩ = some (.string tx) ∧ w'.cell? ⟨b2, o2 + k * 6 + 4, none⟩ = some (.int .i64 fa) ∧ w'.cell? ⟨b2, o2 + k * 6 + 5, none⟩ = some (.int .i64 fb)) (by kernel_rfl) ?_ (fun hHeld => ?_)
      · exact ⟨⟨x0, x1⟩, ⟨c0, c1, c2, c3, c4, c5⟩, d0, d1, d2, d3, d4, d5⟩
      refine wpG_pure (i := 0) (oi := { dst := some 19, op := Go.Op.fieldAddr 61 (Go.Operand.tmp 2) 0, type := 0, pos := "laws.go:582", after := #[], guard := none }) (v := ?vg1) rfl (by kernel_rfl) (fun _ _ _ h => h) (Or.inr hHeld) (Or.inl ⟨by rfl, ?yg1⟩) ?_
      case yg1 => (intro wS _; go_simp <;> with_reducible rfl)
      try simp only [Act.put, List.setIfInBounds_toArray, List.set_cons_zero, List.set_cons_succ]
      refine wpG_load (i := 1) (oi := { dst := some 20, op := Go.Op.load 59 (Go.Operand.tmp 19), type := 59, pos := "laws.go:582", after := #[{ on := 0, ground := Go.Ground.data }], guard := none }) (v := ?vg2) [] rfl (by kernel_rfl) (fun _ _ _ h => h) hHeld (Or.inl ⟨by rfl, ?yg2⟩) ?_
      case yg2 => (intro wS hSw; (try dsimp only at hSw); go_simp <;> with_reducible rfl)
      try simp only [Act.put, List.setIfInBounds_toArray, List.set_cons_zero, List.set_cons_succ]
      refine wpG_pure (i := 2) (oi := { dst := some 21, op := Go.Op.move (Go.Operand.tmp 5), type := 3, pos := "laws.go:582", after := #[], guard := none }) (v := ?vg3) rfl (by kernel_rfl) (fun _ _ _ h => h) (Or.inr hHeld) (Or.inl ⟨by rfl, ?yg3⟩) ?_
      case yg3 => (intro wS _; go_simp <;> with_reducible rfl)
      try simp only [Act.put, List.setIfInBounds_toArray, List.set_cons_zero, List.set_cons_succ]
      refine wpG_pure (i := 3) (oi := { dst := some 22, op := Go.Op.indexAddr 59 (Go.Operand.tmp 20) (Go.Operand.tmp 21), type := 0, pos := "laws.go:582", after := #[{ on := 1, ground := Go.Ground.data }, { on := 2, ground := Go.Ground.data }], guard := none }) (v := ?vg4) rfl (by kernel_rfl) (fun _ _ _ h => h) (Or.inr hHeld) (Or.inl ⟨by rfl, ?yg4⟩) ?_
      case yg4 => (intro wS _; go_simp <;> with_reducible rfl)
      try simp only [Act.put, List.setIfInBounds_toArray, List.set_cons_zero, List.set_cons_succ]
      refine wpG_load (i := 4) (oi := { dst := some 23, op := Go.Op.load 134 (Go.Operand.tmp 22), type := 134, pos := "laws.go:582", after := #[{ on := 3, ground := Go.Ground.data }], guard := none }) (v := ?vg5) [] rfl (by kernel_rfl) (fun _ _ _ h => h) hHeld (Or.inl ⟨by rfl, ?yg5⟩) ?_
      case yg5 => (intro wS hSw; (try dsimp only at hSw); go_simp <;> with_reducible rfl)
      try simp only [Act.put, List.setIfInBounds_toArray, List.set_cons_zero, List.set_cons_succ]
      refine wpG_pure (i := 5) (oi := { dst := some 24, op := Go.Op.fieldAddr 61 (Go.Operand.tmp 3) 0, type := 0, pos := "laws.go:582", after := #[], guard := none }) (v := ?vg6) rfl (by kernel_rfl) (fun _ _ _ h => h) (Or.inr hHeld) (Or.inl ⟨by rfl, ?yg6⟩) ?_
      case yg6 => (intro wS _; go_simp <;> with_reducible rfl)
      try simp only [Act.put, List.setIfInBounds_toArray, List.set_cons_zero, List.set_cons_succ]
      refine wpG_load (i := 6) (oi := { dst := some 25, op := Go.Op.load 59 (Go.Operand.tmp 24), type := 59, pos := "laws.go:582", after := #[{ on := 5, ground := Go.Ground.data }], guard := none }) (v := ?vg7) [] rfl (by kernel_rfl) (fun _ _ _ h => h) hHeld (Or.inl ⟨by rfl, ?yg7⟩) ?_
      case yg7 => (intro wS hSw; (try dsimp only at hSw); go_simp <;> with_reducible rfl)
      try simp only [Act.put, List.setIfInBounds_toArray, List.set_cons_zero, List.set_cons_succ]
      refine wpG_pure (i := 7) (oi := { dst := some 26, op := Go.Op.move (Go.Operand.tmp 5), type := 3, pos := "laws.go:582", after := #[], guard := none }) (v := ?vg8) rfl (by kernel_rfl) (fun _ _ _ h => h) (Or.inr hHeld) (Or.inl ⟨by rfl, ?yg8⟩) ?_
      case yg8 => (intro wS _; go_simp <;> with_reducible rfl)
      try simp only [Act.put, List.setIfInBounds_toArray, List.set_cons_zero, List.set_cons_succ]
      refine wpG_pure (i := 8) (oi := { dst := some 27, op := Go.Op.indexAddr 59 (Go.Operand.tmp 25) (Go.Operand.tmp 26), type := 0, pos := "laws.go:582", after := #[{ on := 6, ground := Go.Ground.data }, { on := 7, ground := Go.Ground.data }], guard := none }) (v := ?vg9) rfl (by kernel_rfl) (fun _ _ _ h => h) (Or.inr hHeld) (Or.inl ⟨by rfl, ?yg9⟩) ?_
      case yg9 => (intro wS _; go_simp <;> with_reducible rfl)
      try simp only [Act.put, List.setIfInBounds_toArray, List.set_cons_zero, List.set_cons_succ]
      refine wpG_load (i := 9) (oi := { dst := some 28, op := Go.Op.load 134 (Go.Operand.tmp 27), type := 134, pos := "laws.go:582", after := #[{ on := 8, ground := Go.Ground.data }], guard := none }) (v := ?vg10) [] rfl (by kernel_rfl) (fun _ _ _ h => h) hHeld (Or.inl ⟨by rfl, ?yg10⟩) ?_
      case yg10 => (intro wS hSw; (try dsimp only at hSw); go_simp <;> with_reducible rfl)
      try simp only [Act.put, List.setIfInBounds_toArray, List.set_cons_zero, List.set_cons_succ]
      refine wpG_pure (i := 10) (oi := { dst := some 29, op := Go.Op.binOp Go.BinOp.neq 134 (Go.Operand.tmp 23) (Go.Operand.tmp 28) 134, type := 4, pos := "laws.go:582", after := #[{ on := 4, ground := Go.Ground.data }, { on := 9, ground := Go.Ground.data }], guard := none }) (v := ?vg11) rfl (by kernel_rfl) (fun _ _ _ h => h) (Or.inr hHeld) (Or.inl ⟨by rfl, ?yg11⟩) ?_
      case yg11 => (intro wS _; go_simp <;> with_reducible rfl)
      try simp only [Act.put, List.setIfInBounds_toArray, List.set_cons_zero, List.set_cons_succ]
      refine wpG_done (by kernel_rfl) ?_
      go_wp2_with fail
      go_roundw
      case rel => exact ⟨k + 1, by omega, by go_num, HDW.out.trans ⟨1, rfl⟩⟩
      case measure => simp [intOf]; omega
    · clear HD y0 y1
      go_wp2_with fail
      go_ret
      exact ⟨rfl, HBD.out⟩
end Go.Proofs.Ytlmgckijbamgpaa
