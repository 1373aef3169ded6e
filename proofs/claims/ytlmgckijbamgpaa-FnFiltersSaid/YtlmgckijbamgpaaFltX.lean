/- Two filters in one: both contracts. -/
import Derived.Test.YtlmgckijbamgpaaFltW
namespace Go.Proofs.Ytlmgckijbamgpaa
set_option linter.unusedVariables false
set_option linter.unusedSimpArgs false
open Go.ChangeShapes Go.WideShapes Go.ChangeAt Go.RowKit
set_option maxRecDepth 100000

theorem Rboth_no1 {f g : List Wn} (h : R_GoodW f = false) : R_Both f g = ([], false) := by unfold R_Both; rw [if_neg (by rw [h]; simp)]
theorem Rboth_no2 {f g : List Wn} (h : R_GoodW g = false) : R_Both f g = ([], false) := by unfold R_Both; rw [if_neg (by rw [h]; simp)]
theorem Rboth_full {f g : List Wn} (h : ¬ f.length + g.length < 20) : R_Both f g = ([], false) := by unfold R_Both; rw [if_neg (by intro hc; exact h hc.2)]
theorem Rboth_yes {f g : List Wn} (h1 : R_GoodW f = true) (h2 : R_GoodW g = true) (h : f.length + g.length < 20) : R_Both f g = (bothW f g, true) := by unfold R_Both; rw [if_pos ⟨⟨h1, h2⟩, h⟩]
/-- what lies so far -/
def soFar (f g : List Wn) (i : Nat) : List Wn := f ++ (g.take i).map (shiftW f.length)
theorem soFar_zero (f g : List Wn) : soFar f g 0 = f := by simp [soFar]
theorem soFar_len {f g : List Wn} {i : Nat} (h : i ≤ g.length) : (soFar f g i).length = f.length + i := by simp [soFar]; omega
theorem soFar_next {f g : List Wn} {i : Nat} {x : Wn} (h : g[i]? = some x) : soFar f g (i + 1) = soFar f g i ++ [shiftW f.length x] := by
  obtain ⟨hi, rfl⟩ := List.getElem?_eq_some_iff.1 h
  unfold soFar
  rw [List.take_succ_eq_append_getElem hi, List.map_append, List.append_assoc]; rfl
theorem soFar_all (f g : List Wn) : soFar f g g.length ++ [⟨6, 0, 0, ⟨#[]⟩, (f.length : Int) - 1, ((f.length + g.length : Nat) : Int) - 1⟩] = bothW f g := by unfold soFar bothW; rw [List.take_length]
set_option maxHeartbeats 8000000 in
theorem impl_BothFilters (fa : Option Addr) (fc : Nat) (f : List Wn) (ga : Option Addr) (gc : Nat) (g : List Wn) (w : World) (hf : Rw w fa (wnsV f)) (hg : Rw w ga (wnsV g)) (hfn : f.length ≤ 1000000) (hgn : g.length ≤ 1000000) : Calls Try.prog 54 #[.agg #[.slice fa f.length fc], .agg #[.slice ga g.length gc]] w (FilO (R_Both f g) w) := by
  obtain ⟨i0, hi, hz0, hz1, hz2⟩ := info_parts Try.infoWant
  have HGF := Lib.hid (fun wx (h : Rw wx fa (wnsV f)) => impl_GoodFilter fa fc f wx h (by omega))
  have HGG := Lib.hid (fun wx (h : Rw wx ga (wnsV g)) => impl_GoodFilter ga gc g wx h (by omega))
  have HRF := Lib.hid hf
  have HRG := Lib.hid hg
  obtain ⟨n, hnl⟩ : ∃ n, f.length = n := ⟨_, rfl⟩
  obtain ⟨m, hml⟩ : ∃ m, g.length = m := ⟨_, rfl⟩
  have HNL := Lib.hid hnl
  have HML := Lib.hid hml
  have HB3 := Lib.hid ((((Below.refl w.heap.size w).alloc (Nat.le_refl _) (.cells #[.slice fa n fc] 61)).alloc (by simp) (.cells #[.slice ga m gc] 61)).alloc (by simp; omega) (.cells #[.slice none 0 0] 61))
  have HC1 := Lib.hid (heap_keep (((Below.refl (w.alloc (.cells #[.slice fa n fc] 61)).heap.size _).alloc (Nat.le_refl _) (.cells #[.slice ga m gc] 61)).alloc (by simp) (.cells #[.slice none 0 0] 61)) (heap_alloc_new w (.cells #[.slice fa n fc] 61)))
  have HC2 := Lib.hid (heap_keep ((Below.refl ((w.alloc (.cells #[.slice fa n fc] 61)).alloc (.cells #[.slice ga m gc] 61)).heap.size _).alloc (Nat.le_refl _) (.cells #[.slice none 0 0] 61)) (heap_alloc_new (w.alloc (.cells #[.slice fa n fc] 61)) (.cells #[.slice ga m gc] 61)))
  have HC3 := Lib.hid (heap_alloc_new ((w.alloc (.cells #[.slice fa n fc] 61)).alloc (.cells #[.slice ga m gc] 61)) (.cells #[.slice none 0 0] 61))
  rw [World.size_alloc] at HC2
  rw [World.size_alloc, World.size_alloc] at HC3
  have HZZ : Hid ((((w.alloc (.cells #[.slice fa n fc] 61)).alloc (.cells #[.slice ga m gc] 61)).alloc (.cells #[.slice none 0 0] 61)).heap.size = w.heap.size + 3) := Lib.hid (by simp)
  cases hF : R_GoodW f with
  | false =>
    rw [hF] at HGF
    rw [Rboth_no1 hF]
    rw [hnl] at HGF ⊢
    rw [hml] at HGG ⊢
    clear hF hf hg hfn hgn hnl hml
    go_enter Try.func54, Try.ntmps54
    go_wp2_with fail
    generalize hwz : ((w.alloc (.cells #[.slice fa n fc] 61)).alloc (.cells #[.slice ga m gc] 61)).alloc (.cells #[.slice none 0 0] 61) = wz at *
    clear hwz
    have HZS : Hid (w.heap.size ≤ wz.heap.size) := Lib.hid HB3.out.size
    have HBZW : Hid (∀ wx, Below wz.heap.size wz wx → Below w.heap.size w wx) := Lib.hid (fun wx h => HB3.out.trans (h.mono HZS.out))
    have HK1 : Hid (∀ wx, Below wz.heap.size wz wx → wx.cell? ⟨w.heap.size, 0, none⟩ = some (.slice fa n fc)) := Lib.hid (fun wx h => by
      have := heap_keep h HC1.out
      simp [World.cell?, this])
    have HK2 : Hid (∀ wx, Below wz.heap.size wz wx → wx.cell? ⟨w.heap.size + 1, 0, none⟩ = some (.slice ga m gc)) := Lib.hid (fun wx h => by
      have := heap_keep h HC2.out
      simp [World.cell?, this])
    have HK3 : Hid (∀ wx, Below wz.heap.size wz wx → wx.cell? ⟨w.heap.size + 2, 0, none⟩ = some (.slice none 0 0) ∧ wx.frozen? ⟨w.heap.size + 2, 0, none⟩ = false) := Lib.hid (fun wx h => by
      have h' := heap_keep h HC3.out
      have e : w.heap.size + 1 + 1 = w.heap.size + 2 := rfl
      rw [e] at h'
      simp [World.cell?, World.frozen?, h'])
    refine (HGF.out _ (HRF.out.below HB3.out)).mono ?_
    rintro e w4 ⟨rfl, hb⟩
    have HB4 := Lib.hid hb
    clear hb
    obtain ⟨e1, e2⟩ := HK3.out _ HB4.out
    have HBQ := Lib.hid ((HBZW.out _ HB4.out).setCell (p := ⟨w.heap.size + 2, 0, none⟩) (by simp) (.slice none 0 0))
    have y9 := World.cell?_setCell_same w4 ⟨w.heap.size + 2, 0, none⟩ (.slice none 0 0) e1
    go_wp2_with fail
    refine bodyPost_ret (v := .tuple #[.agg #[.slice none 0 0], .bool false]) (by simp [results, Try.results54, go_sem, y9]) rfl ⟨_, rfl, World.ownsRow_nil _ _ _ _, ?_⟩
    exact HBQ.out
  | true =>
  rw [hF] at HGF
  cases hG : R_GoodW g with
  | false =>
    rw [hG] at HGG
    rw [Rboth_no2 hG]
    rw [hnl] at HGF ⊢
    rw [hml] at HGG ⊢
    clear hF hG hf hg hfn hgn hnl hml
    go_enter Try.func54, Try.ntmps54
    go_wp2_with fail
    generalize hwz : ((w.alloc (.cells #[.slice fa n fc] 61)).alloc (.cells #[.slice ga m gc] 61)).alloc (.cells #[.slice none 0 0] 61) = wz at *
    clear hwz
    have HZS : Hid (w.heap.size ≤ wz.heap.size) := Lib.hid HB3.out.size
    have HBZW : Hid (∀ wx, Below wz.heap.size wz wx → Below w.heap.size w wx) := Lib.hid (fun wx h => HB3.out.trans (h.mono HZS.out))
    have HK1 : Hid (∀ wx, Below wz.heap.size wz wx → wx.cell? ⟨w.heap.size, 0, none⟩ = some (.slice fa n fc)) := Lib.hid (fun wx h => by
      have := heap_keep h HC1.out
      simp [World.cell?, this])
    have HK2 : Hid (∀ wx, Below wz.heap.size wz wx → wx.cell? ⟨w.heap.size + 1, 0, none⟩ = some (.slice ga m gc)) := Lib.hid (fun wx h => by
      have := heap_keep h HC2.out
      simp [World.cell?, this])
    have HK3 : Hid (∀ wx, Below wz.heap.size wz wx → wx.cell? ⟨w.heap.size + 2, 0, none⟩ = some (.slice none 0 0) ∧ wx.frozen? ⟨w.heap.size + 2, 0, none⟩ = false) := Lib.hid (fun wx h => by
      have h' := heap_keep h HC3.out
      have e : w.heap.size + 1 + 1 = w.heap.size + 2 := rfl
      rw [e] at h'
      simp [World.cell?, World.frozen?, h'])
    refine (HGF.out _ (HRF.out.below HB3.out)).mono ?_
    rintro e w5 ⟨rfl, hb⟩
    have HB5 := Lib.hid hb
    have y1 := HK2.out _ HB5.out
    clear hb
    go_wp2_with fail
    refine (HGG.out _ (HRG.out.below (HBZW.out _ HB5.out))).mono ?_
    rintro e w4 ⟨rfl, hb⟩
    have HB4 := Lib.hid (rstep HB5.out hb)
    clear hb y1
    obtain ⟨e1, e2⟩ := HK3.out _ HB4.out
    have HBQ := Lib.hid ((HBZW.out _ HB4.out).setCell (p := ⟨w.heap.size + 2, 0, none⟩) (by simp) (.slice none 0 0))
    have y9 := World.cell?_setCell_same w4 ⟨w.heap.size + 2, 0, none⟩ (.slice none 0 0) e1
    go_wp2_with fail
    refine bodyPost_ret (v := .tuple #[.agg #[.slice none 0 0], .bool false]) (by simp [results, Try.results54, go_sem, y9]) rfl ⟨_, rfl, World.ownsRow_nil _ _ _ _, ?_⟩
    exact HBQ.out
  | true =>
  rw [hG] at HGG
  have hlf := good_len hF
  have hlg := good_len hG
  have HFULL := Lib.hid (fun h => Rboth_full (f := f) (g := g) h)
  have HYES := Lib.hid (Rboth_yes hF hG)
  have HOKG : Hid (∀ i x, g[i]? = some x → OkW x i) := Lib.hid (fun i x h => by have := okAll_at g 0 i x (good_ok hG) h; rwa [Nat.zero_add] at this)
  generalize R_Both f g = R at *
  obtain ⟨b, off, rfl, hbl, _⟩ := hf.at (wnsV_ne (k := 0) (by omega))
  have HCL := Lib.hid (fun wx (h : Rw wx (some ⟨b, off, none⟩) (wnsV f)) => clone_wns b off fc f wx h (by omega))
  rw [hnl] at HGF HFULL HYES hlf HCL ⊢
  rw [hml] at HGG HFULL HYES hlg ⊢
  have hn1 := hlf.1; have hn2 := hlf.2
  have hm1 := hlg.1; have hm2 := hlg.2
  clear hF hG hf hg hfn hgn hnl hml hlf hlg
  go_enter Try.func54, Try.ntmps54
  go_wp2_with fail
  generalize hwz : ((w.alloc (.cells #[.slice (some ⟨b, off, none⟩) n fc] 61)).alloc (.cells #[.slice ga m gc] 61)).alloc (.cells #[.slice none 0 0] 61) = wz at *
  clear hwz
  obtain ⟨fa, hfa⟩ : ∃ fa, some (⟨b, off, none⟩ : Addr) = fa := ⟨_, rfl⟩
  rw [hfa] at HC1
  have HZS : Hid (w.heap.size ≤ wz.heap.size) := Lib.hid HB3.out.size
  have HBZW : Hid (∀ wx, Below wz.heap.size wz wx → Below w.heap.size w wx) := Lib.hid (fun wx h => HB3.out.trans (h.mono HZS.out))
  have HK1 : Hid (∀ wx, Below wz.heap.size wz wx → wx.cell? ⟨w.heap.size, 0, none⟩ = some (.slice fa n fc)) := Lib.hid (fun wx h => by
    have := heap_keep h HC1.out
    simp [World.cell?, this])
  have HK2 : Hid (∀ wx, Below wz.heap.size wz wx → wx.cell? ⟨w.heap.size + 1, 0, none⟩ = some (.slice ga m gc)) := Lib.hid (fun wx h => by
    have := heap_keep h HC2.out
    simp [World.cell?, this])
  have HK3 : Hid (∀ wx, Below wz.heap.size wz wx → wx.cell? ⟨w.heap.size + 2, 0, none⟩ = some (.slice none 0 0) ∧ wx.frozen? ⟨w.heap.size + 2, 0, none⟩ = false) := Lib.hid (fun wx h => by
    have h' := heap_keep h HC3.out
    have e : w.heap.size + 1 + 1 = w.heap.size + 2 := rfl
    rw [e] at h'
    simp [World.cell?, World.frozen?, h'])
  subst hfa
  refine (HGF.out _ (HRF.out.below HB3.out)).mono ?_
  rintro e w5 ⟨rfl, hb⟩
  have HB5 := Lib.hid hb
  have y1 := HK2.out _ HB5.out
  clear hb
  go_wp2_with fail
  refine (HGG.out _ (HRG.out.below (HBZW.out _ HB5.out))).mono ?_
  rintro e w4 ⟨rfl, hb⟩
  have HBX := Lib.hid (rstep HB5.out hb)
  clear hb y1 HB5
  have y0 := HK1.out _ HBX.out
  go_wp2_with fail
  replace HBX := Lib.hid (below_drew HBX.out)
  refine wp_region_G [] (fun w' => w'.cell? ⟨w.heap.size, 0, none⟩ = some (.slice (some ⟨b, off, none⟩) n fc)) (by kernel_rfl) ?_ (fun hHeld => ?_)
  · exact y0
  refine wpG_pure (i := 0) (oi := { dst := some 19, op := Go.Op.fieldAddr 61 (Go.Operand.tmp 2) 0, type := 0, pos := "l7_filter.go:157", after := #[], guard := none }) (v := ?vg1) rfl (by kernel_rfl) (fun _ _ _ h => h) (Or.inr hHeld) (Or.inl ⟨by rfl, ?yg1⟩) ?_
  case yg1 => (intro wS _; go_simp <;> with_reducible rfl)
  try simp only [Act.put, List.setIfInBounds_toArray, List.set_cons_zero, List.set_cons_succ]
  refine wpG_load (i := 1) (oi := { dst := some 20, op := Go.Op.load 59 (Go.Operand.tmp 19), type := 59, pos := "l7_filter.go:157", after := #[{ on := 0, ground := Go.Ground.data }], guard := none }) (v := ?vg2) [] rfl (by kernel_rfl) (fun _ _ _ h => h) hHeld (Or.inl ⟨by rfl, ?yg2⟩) ?_
  case yg2 => (intro wS hSw; (try dsimp only at hSw); go_simp <;> with_reducible rfl)
  try simp only [Act.put, List.setIfInBounds_toArray, List.set_cons_zero, List.set_cons_succ]
  refine wpG_pure (i := 3) (oi := { dst := some 22, op := Go.Op.fieldAddr 61 (Go.Operand.tmp 2) 0, type := 0, pos := "l7_filter.go:157", after := #[], guard := none }) (v := ?vg3) rfl (by kernel_rfl) (fun _ _ _ h => h) (Or.inr hHeld) (Or.inl ⟨by rfl, ?yg3⟩) ?_
  case yg3 => (intro wS _; go_simp <;> with_reducible rfl)
  try simp only [Act.put, List.setIfInBounds_toArray, List.set_cons_zero, List.set_cons_succ]
  refine wpG_load (i := 4) (oi := { dst := some 23, op := Go.Op.load 59 (Go.Operand.tmp 22), type := 59, pos := "l7_filter.go:157", after := #[{ on := 3, ground := Go.Ground.data }], guard := none }) (v := ?vg4) [] rfl (by kernel_rfl) (fun _ _ _ h => h) hHeld (Or.inl ⟨by rfl, ?yg4⟩) ?_
  case yg4 => (intro wS hSw; (try dsimp only at hSw); go_simp <;> with_reducible rfl)
  try simp only [Act.put, List.setIfInBounds_toArray, List.set_cons_zero, List.set_cons_succ]
  refine wpG_pure (i := 5) (oi := { dst := some 24, op := Go.Op.call { callee := Go.Callee.builtin Go.Builtin.len, args := #[Go.Operand.tmp 23], argTypes := #[59] }, type := 3, pos := "l7_filter.go:157", after := #[{ on := 4, ground := Go.Ground.data }], guard := none }) (v := ?vg5) rfl (by kernel_rfl) (fun _ _ _ h => h) (Or.inr hHeld) (Or.inl ⟨by rfl, ?yg5⟩) ?_
  case yg5 => (intro wS _; go_simp <;> with_reducible rfl)
  try simp only [Act.put, List.setIfInBounds_toArray, List.set_cons_zero, List.set_cons_succ]
  refine wpG_one (i := 2) (o := { dst := some 21, op := Go.Op.call { callee := Go.Callee.value (Go.Operand.func 111), args := #[Go.Operand.tmp 20], argTypes := #[59] }, type := 59, pos := "l7_filter.go:157", after := #[{ on := 1, ground := Go.Ground.data }], guard := none }) rfl (by kernel_rfl) (fun K hK => ?_)
  go_simp
  refine (HCL.out _ (HRF.out.below (HBZW.out _ HBX.out))).mono ?_
  rintro e w7 ⟨v7, rfl, ho7, hb7⟩
  have HO7 := Lib.hid (own_mono ho7 HBX.out.size)
  replace HBX := Lib.hid (rstep HBX.out hb7)
  clear ho7 hb7
  refine hK.out _ _ (Or.inr ?khHeld6) (fun hHeld6S => ?_)
  case khHeld6 => exact HK1.out _ HBX.out
  have hHeld6 := hHeld6S.held (by kernel_rfl)
  clear hK K
  try simp only [Act.put, List.setIfInBounds_toArray, List.set_cons_zero, List.set_cons_succ]
  refine wpG_pure (i := 6) (oi := { dst := some 6, op := Go.Op.assign (Go.Operand.tmp 21), type := 59, pos := "l7_filter.go:157", after := #[{ on := 2, ground := Go.Ground.data }, { on := 2, ground := Go.Ground.chain }, { on := 0, ground := Go.Ground.phase }, { on := 1, ground := Go.Ground.phase }, { on := 2, ground := Go.Ground.phase }, { on := 3, ground := Go.Ground.textOnly Go.Departure.lateStores }, { on := 4, ground := Go.Ground.textOnly Go.Departure.lateStores }, { on := 5, ground := Go.Ground.textOnly Go.Departure.lateStoresUnsure }], guard := none }) (v := ?vg7) rfl (by kernel_rfl) (fun _ _ _ h => h) (Or.inr hHeld6) (Or.inl ⟨by rfl, ?yg7⟩) ?_
  case yg7 => (intro wS _; go_simp <;> with_reducible rfl)
  try simp only [Act.put, List.setIfInBounds_toArray, List.set_cons_zero, List.set_cons_succ]
  refine wpG_pure (i := 7) (oi := { dst := some 7, op := Go.Op.assign (Go.Operand.tmp 24), type := 3, pos := "l7_filter.go:157", after := #[{ on := 5, ground := Go.Ground.data }, { on := 6, ground := Go.Ground.chain }, { on := 0, ground := Go.Ground.phase }, { on := 1, ground := Go.Ground.phase }, { on := 2, ground := Go.Ground.phase }, { on := 3, ground := Go.Ground.phase }, { on := 4, ground := Go.Ground.phase }, { on := 5, ground := Go.Ground.phase }, { on := 6, ground := Go.Ground.phase }], guard := none }) (v := ?vg8) rfl (by kernel_rfl) (fun _ _ _ h => h) (Or.inr hHeld6) (Or.inl ⟨by rfl, ?yg8⟩) ?_
  case yg8 => (intro wS _; go_simp <;> with_reducible rfl)
  try simp only [Act.put, List.setIfInBounds_toArray, List.set_cons_zero, List.set_cons_succ]
  refine wpG_done (by kernel_rfl) ?_
  skip
  have y1 := HK2.out _ HBX.out
  have HO5 : Hid (w7.ownsRow wz.heap.size 134 6 v7 (n + 0) (wnsV (soFar f g 0))) := Lib.hid (by rw [soFar_zero]; exact HO7.out)
  have HB5 := Lib.hid HBX.out
  clear HBX HO7 y0 hHeld
  go_wp2_with fail
  go_loopw [6, 28] (fun ov iv wr => ∃ (i : Nat) (v : Value), i ≤ m ∧ iv = .int .i64 (i : Int) ∧ ov = v ∧ Hid (wr.ownsRow wz.heap.size 134 6 v (n + i) (wnsV (soFar f g i))) ∧ Hid (Below wz.heap.size wz wr)) (fun _ iv _ => m - (intOf iv).toNat)
  case atStart => exact ⟨0, _, Nat.zero_le _, rfl, rfl, HO5, HB5⟩
  case round =>
    clear HO5 HB5
    obtain ⟨wx, rfl⟩ : ∃ z : World, z = wr := ⟨_, rfl⟩
    obtain ⟨i, v, hiw, rfl, rfl, HO, HBX⟩ := hrel
    by_cases him : i < m
    case neg =>
      obtain rfl : i = m := by omega
      have HSL : Hid ((soFar f g i).length = n + i) := Lib.hid (by rw [soFar_len (by have := HML.out; omega), HNL.out])
      obtain ⟨t, ht⟩ : ∃ t, n + i = t := ⟨_, rfl⟩
      rw [ht] at HO HSL
      obtain ⟨va, vc, rfl⟩ := form_of_own HO.out
      have ht40 : t ≤ 40 := by omega
      have ht1 : 1 ≤ t := by omega
      have hwt : IntKind.i64.wrap ((t : Int) - 1) = (t : Int) - 1 := IntWalk.i64_in _ (by omega)
      have hwn : IntKind.i64.wrap ((n : Int) - 1) = (n : Int) - 1 := IntWalk.i64_in _ (by omega)
      have HT := Lib.hid ht
      have HN2 := Lib.hid (World.news_of_block (cs := #[.int .i64 6, .int .i64 0, .int .i64 0, .string ⟨#[]⟩, .int .i64 ((n : Int) - 1), .int .i64 ((t : Int) - 1)]) (t := 134) (fr := (0, 0)) (heap_alloc_new wx (.cells #[.int .i64 6, .int .i64 0, .int .i64 0, .string ⟨#[]⟩, .int .i64 ((n : Int) - 1), .int .i64 ((t : Int) - 1)] 134)))
      have HO10 := Lib.hid (HO.out.alloc (.cells #[.int .i64 6, .int .i64 0, .int .i64 0, .string ⟨#[]⟩, .int .i64 ((n : Int) - 1), .int .i64 ((t : Int) - 1)] 134))
      have HB10 := Lib.hid (HBX.out.alloc HBX.out.size (.cells #[.int .i64 6, .int .i64 0, .int .i64 0, .string ⟨#[]⟩, .int .i64 ((n : Int) - 1), .int .i64 ((t : Int) - 1)] 134))
      clear ht
      go_wp2_with (at_builtin; refine wpList_append_own _ rfl _ _ 59 rfl wz.heap.size 134 i0 (.agg #[.int .i64 0, .int .i64 0, .int .i64 0, .string ByteArray.empty, .int .i64 0, .int .i64 0]) 6 56 Try.underlying59 hi hz0 hz1 hz2 rfl (by decide) _ t (wnsV (soFar f g i)) rfl HO10.out ⟨wx.heap.size, 0, none⟩ 1 1 [.int .i64 6, .int .i64 0, .int .i64 0, .string ⟨#[]⟩, .int .i64 ((n : Int) - 1), .int .i64 ((t : Int) - 1)] rfl rfl HN2.out (by simp [Value.oneCell']) (by unfold maxLen; omega) (by omega) HB10.out.size ?_)
      intro v11 w11 hown hgrow _
      obtain ⟨qa, qc, rfl⟩ := form_of_own hown
      have HO11 := Lib.hid (own_wn (f := ⟨6, 0, 0, ⟨#[]⟩, (n : Int) - 1, (t : Int) - 1⟩) HSL.out hown)
      have HB11 := Lib.hid (Below.grown HB10.out hgrow HB10.out.size (fun j hj => (HO10.out.lt j hj).1))
      have HFIN : Hid (soFar f g i ++ [(⟨6, 0, 0, ⟨#[]⟩, (n : Int) - 1, (t : Int) - 1⟩ : Wn)] = bothW f g) := Lib.hid (by
        have := soFar_all f g
        rw [HNL.out, HML.out, HT.out] at this; exact this)
      rw [HFIN.out] at HO11
      have HLB : Hid ((bothW f g).length = t + 1) := Lib.hid (by rw [both_len, HNL.out, HML.out, HT.out])
      rw [HLB.out] at HO11
      clear hown hgrow HN2
      go_wp2_with fail
      refine (impl_filterOf _ (t + 1) qc _ (by omega)).mono ?_
      rintro e w12 ⟨xa, xn, xc, r12, rfl, hb, hv1, hv2⟩
      have HV1 := Lib.hid hv1; have HV2 := Lib.hid hv2
      have HO12 := Lib.hid (own_later HO11.out hb)
      have HB12 := Lib.hid (rstep HB11.out hb)
      obtain ⟨e1, e2⟩ := HK3.out _ HB12.out
      have HBQ := Lib.hid ((HBZW.out _ HB12.out).setCell (p := ⟨w.heap.size + 2, 0, none⟩) (by simp) (.slice xa xn xc))
      have y9 := World.cell?_setCell_same w12 ⟨w.heap.size + 2, 0, none⟩ (.slice xa xn xc) e1
      have HO13 := Lib.hid (ownsRow_setCell_below HO12.out (a := ⟨w.heap.size + 2, 0, none⟩) (by rw [HZZ.out]; simp) (.slice xa xn xc))
      clear hb hv1 hv2
      go_wp2_with fail
      refine bodyPost_ret (v := .tuple #[.agg #[.slice xa xn xc], .bool r12]) (by simp [results, Try.results54, go_sem, y9]) rfl ?_
      have hT := HT.out
      by_cases h20 : n + i < 20
      · obtain ⟨⟨rfl, rfl, rfl⟩, rfl⟩ := HV1.out (by omega)
        rw [HYES.out h20]
        refine ⟨_, rfl, ?_, HBQ.out⟩
        simp only
        rw [HLB.out]
        exact own_mono HO13.out (by rw [HZZ.out]; omega)
      · obtain ⟨⟨rfl, rfl, rfl⟩, rfl⟩ := HV2.out (by omega)
        rw [HFULL.out h20]
        exact ⟨_, rfl, World.ownsRow_nil _ _ _ _, HBQ.out⟩
    obtain ⟨x, hx⟩ : ∃ x, g[i]? = some x := ⟨g[i]'(by have := HML.out; omega), List.getElem?_eq_getElem _⟩
    have HGX := Lib.hid hx
    have hok := HOKG.out i x hx
    obtain ⟨va, vc, rfl⟩ := form_of_own HO.out
    have hbz := HBZW.out _ HBX.out
    obtain ⟨b2, o2, rfl, hbx, hbw, c0, c1, c2, c3, c4, c5⟩ := row6 HRG.out hbz hx
    have HSL : Hid ((soFar f g i).length = n + i) := Lib.hid (by rw [soFar_len (by have := HML.out; omega), HNL.out])
    clear hx hbz
    obtain ⟨kd, no, nm, tx, xa, xb⟩ := x
    simp only at c0 c1 c2 c3 c4 c5
    by_cases h67 : kd = 6 ∨ kd = 7
    · obtain ⟨q1, q2, q3⟩ := ok67 hok h67
      simp only at q1 q2 q3
      have hwa : IntKind.i64.wrap (xa + (n : Int)) = xa + (n : Int) := IntWalk.i64_in _ (by omega)
      have hwb : IntKind.i64.wrap (xb + (n : Int)) = xb + (n : Int) := IntWalk.i64_in _ (by omega)
      have hk6 : (6 : Int) ≤ kd := by omega
      have HIN := Lib.hid (fun wx => spec_in kd 6 7 wx)
      rw [inR_iff.2 (show (6 : Int) ≤ kd ∧ kd ≤ 7 by omega)] at HIN
      clear hok
      rcases h67 with rfl | rfl
      · clear q1 q2 q3
        have HALL := Lib.hid ((HBX.out.alloc HBX.out.size (.cells #[.int .i64 (6), .int .i64 no, .int .i64 nm, .string tx, .int .i64 (xa + (n : Int)), .int .i64 (xb + (n : Int))] 134)).alloc (by have := HBX.out.size; simp; omega) (.cells #[.int .i64 (6), .int .i64 no, .int .i64 nm, .string tx, .int .i64 (xa + (n : Int)), .int .i64 (xb + (n : Int))] 134))
        have HOA := Lib.hid ((HO.out.alloc (.cells #[.int .i64 (6), .int .i64 no, .int .i64 nm, .string tx, .int .i64 (xa + (n : Int)), .int .i64 (xb + (n : Int))] 134)).alloc (.cells #[.int .i64 (6), .int .i64 no, .int .i64 nm, .string tx, .int .i64 (xa + (n : Int)), .int .i64 (xb + (n : Int))] 134))
        have hnw := World.news_of_block (cs := #[.int .i64 (6), .int .i64 no, .int .i64 nm, .string tx, .int .i64 (xa + (n : Int)), .int .i64 (xb + (n : Int))]) (t := 134) (fr := (0, 0)) (heap_alloc_new (wx.alloc (.cells #[.int .i64 (6), .int .i64 no, .int .i64 nm, .string tx, .int .i64 (xa + (n : Int)), .int .i64 (xb + (n : Int))] 134)) (.cells #[.int .i64 (6), .int .i64 no, .int .i64 nm, .string tx, .int .i64 (xa + (n : Int)), .int .i64 (xb + (n : Int))] 134))
        simp only [World.size_alloc] at hnw
        have HNW := Lib.hid hnw
        clear hnw
        go_wp2_with (first | ((with_reducible refine (HIN.out _).mono ?_); rintro e w' ⟨rfl, rfl⟩) | (at_builtin; refine wpList_append_own _ rfl _ _ 59 rfl wz.heap.size 134 i0 (.agg #[.int .i64 0, .int .i64 0, .int .i64 0, .string ByteArray.empty, .int .i64 0, .int .i64 0]) 6 56 Try.underlying59 hi hz0 hz1 hz2 rfl (by decide) _ (n + i) (wnsV (soFar f g i)) rfl HOA.out ⟨wx.heap.size + 1, 0, none⟩ 1 1 [.int .i64 (6), .int .i64 no, .int .i64 nm, .string tx, .int .i64 (xa + (n : Int)), .int .i64 (xb + (n : Int))] rfl rfl HNW.out (by simp [Value.oneCell']) (by unfold maxLen; omega) (by omega) HALL.out.size ?_))
        intro v11 w11 hown hgrow _
        have HO11 : Hid (w11.ownsRow wz.heap.size 134 6 v11 (n + (i + 1)) (wnsV (soFar f g (i + 1)))) := Lib.hid (by
          have h := own_wn (f := ⟨6, no, nm, tx, xa + (n : Int), xb + (n : Int)⟩) HSL.out hown
          have e : (⟨6, no, nm, tx, xa + (n : Int), xb + (n : Int)⟩ : Wn) = shiftW f.length ⟨6, no, nm, tx, xa, xb⟩ := by unfold shiftW; simp only [HNL.out]; rfl
          rw [e, ← soFar_next HGX.out] at h
          rw [soFar_len (by have := HML.out; omega), HNL.out] at h
          exact h)
        have HB11 := Lib.hid (Below.grown HALL.out hgrow HALL.out.size (fun j hj => (HOA.out.lt j hj).1))
        clear hown hgrow HNW
        go_wp2_with fail
        go_roundw
        case rel => exact ⟨i + 1, _, by omega, by go_num, rfl, HO11, HB11⟩
        case measure => (simp [intOf]; try omega)
      · clear q1 q2 q3
        have HALL := Lib.hid ((HBX.out.alloc HBX.out.size (.cells #[.int .i64 (7), .int .i64 no, .int .i64 nm, .string tx, .int .i64 (xa + (n : Int)), .int .i64 (xb + (n : Int))] 134)).alloc (by have := HBX.out.size; simp; omega) (.cells #[.int .i64 (7), .int .i64 no, .int .i64 nm, .string tx, .int .i64 (xa + (n : Int)), .int .i64 (xb + (n : Int))] 134))
        have HOA := Lib.hid ((HO.out.alloc (.cells #[.int .i64 (7), .int .i64 no, .int .i64 nm, .string tx, .int .i64 (xa + (n : Int)), .int .i64 (xb + (n : Int))] 134)).alloc (.cells #[.int .i64 (7), .int .i64 no, .int .i64 nm, .string tx, .int .i64 (xa + (n : Int)), .int .i64 (xb + (n : Int))] 134))
        have hnw := World.news_of_block (cs := #[.int .i64 (7), .int .i64 no, .int .i64 nm, .string tx, .int .i64 (xa + (n : Int)), .int .i64 (xb + (n : Int))]) (t := 134) (fr := (0, 0)) (heap_alloc_new (wx.alloc (.cells #[.int .i64 (7), .int .i64 no, .int .i64 nm, .string tx, .int .i64 (xa + (n : Int)), .int .i64 (xb + (n : Int))] 134)) (.cells #[.int .i64 (7), .int .i64 no, .int .i64 nm, .string tx, .int .i64 (xa + (n : Int)), .int .i64 (xb + (n : Int))] 134))
        simp only [World.size_alloc] at hnw
        have HNW := Lib.hid hnw
        clear hnw
        go_wp2_with (first | ((with_reducible refine (HIN.out _).mono ?_); rintro e w' ⟨rfl, rfl⟩) | (at_builtin; refine wpList_append_own _ rfl _ _ 59 rfl wz.heap.size 134 i0 (.agg #[.int .i64 0, .int .i64 0, .int .i64 0, .string ByteArray.empty, .int .i64 0, .int .i64 0]) 6 56 Try.underlying59 hi hz0 hz1 hz2 rfl (by decide) _ (n + i) (wnsV (soFar f g i)) rfl HOA.out ⟨wx.heap.size + 1, 0, none⟩ 1 1 [.int .i64 (7), .int .i64 no, .int .i64 nm, .string tx, .int .i64 (xa + (n : Int)), .int .i64 (xb + (n : Int))] rfl rfl HNW.out (by simp [Value.oneCell']) (by unfold maxLen; omega) (by omega) HALL.out.size ?_))
        intro v11 w11 hown hgrow _
        have HO11 : Hid (w11.ownsRow wz.heap.size 134 6 v11 (n + (i + 1)) (wnsV (soFar f g (i + 1)))) := Lib.hid (by
          have h := own_wn (f := ⟨7, no, nm, tx, xa + (n : Int), xb + (n : Int)⟩) HSL.out hown
          have e : (⟨7, no, nm, tx, xa + (n : Int), xb + (n : Int)⟩ : Wn) = shiftW f.length ⟨7, no, nm, tx, xa, xb⟩ := by unfold shiftW; simp only [HNL.out]; rfl
          rw [e, ← soFar_next HGX.out] at h
          rw [soFar_len (by have := HML.out; omega), HNL.out] at h
          exact h)
        have HB11 := Lib.hid (Below.grown HALL.out hgrow HALL.out.size (fun j hj => (HOA.out.lt j hj).1))
        clear hown hgrow HNW
        go_wp2_with fail
        go_roundw
        case rel => exact ⟨i + 1, _, by omega, by go_num, rfl, HO11, HB11⟩
        case measure => (simp [intOf]; try omega)
    by_cases h8 : kd = 8
    · subst h8
      obtain ⟨q1, q2⟩ := ok8 hok rfl
      simp only at q1 q2
      have hwa : IntKind.i64.wrap (xa + (n : Int)) = xa + (n : Int) := IntWalk.i64_in _ (by omega)
      have HIN := Lib.hid (fun wx => spec_in 8 6 7 wx)
      rw [show inR 8 6 7 = false from rfl] at HIN
      clear hok q1 q2 h67
      have HALL := Lib.hid ((HBX.out.alloc HBX.out.size (.cells #[.int .i64 (8), .int .i64 no, .int .i64 nm, .string tx, .int .i64 (xa + (n : Int)), .int .i64 (xb)] 134)).alloc (by have := HBX.out.size; simp; omega) (.cells #[.int .i64 (8), .int .i64 no, .int .i64 nm, .string tx, .int .i64 (xa + (n : Int)), .int .i64 (xb)] 134))
      have HOA := Lib.hid ((HO.out.alloc (.cells #[.int .i64 (8), .int .i64 no, .int .i64 nm, .string tx, .int .i64 (xa + (n : Int)), .int .i64 (xb)] 134)).alloc (.cells #[.int .i64 (8), .int .i64 no, .int .i64 nm, .string tx, .int .i64 (xa + (n : Int)), .int .i64 (xb)] 134))
      have hnw := World.news_of_block (cs := #[.int .i64 (8), .int .i64 no, .int .i64 nm, .string tx, .int .i64 (xa + (n : Int)), .int .i64 (xb)]) (t := 134) (fr := (0, 0)) (heap_alloc_new (wx.alloc (.cells #[.int .i64 (8), .int .i64 no, .int .i64 nm, .string tx, .int .i64 (xa + (n : Int)), .int .i64 (xb)] 134)) (.cells #[.int .i64 (8), .int .i64 no, .int .i64 nm, .string tx, .int .i64 (xa + (n : Int)), .int .i64 (xb)] 134))
      simp only [World.size_alloc] at hnw
      have HNW := Lib.hid hnw
      clear hnw
      go_wp2_with (first | ((with_reducible refine (HIN.out _).mono ?_); rintro e w' ⟨rfl, rfl⟩) | (at_builtin; refine wpList_append_own _ rfl _ _ 59 rfl wz.heap.size 134 i0 (.agg #[.int .i64 0, .int .i64 0, .int .i64 0, .string ByteArray.empty, .int .i64 0, .int .i64 0]) 6 56 Try.underlying59 hi hz0 hz1 hz2 rfl (by decide) _ (n + i) (wnsV (soFar f g i)) rfl HOA.out ⟨wx.heap.size + 1, 0, none⟩ 1 1 [.int .i64 (8), .int .i64 no, .int .i64 nm, .string tx, .int .i64 (xa + (n : Int)), .int .i64 (xb)] rfl rfl HNW.out (by simp [Value.oneCell']) (by unfold maxLen; omega) (by omega) HALL.out.size ?_))
      intro v11 w11 hown hgrow _
      have HO11 : Hid (w11.ownsRow wz.heap.size 134 6 v11 (n + (i + 1)) (wnsV (soFar f g (i + 1)))) := Lib.hid (by
        have h := own_wn (f := ⟨8, no, nm, tx, xa + (n : Int), xb⟩) HSL.out hown
        have e : (⟨8, no, nm, tx, xa + (n : Int), xb⟩ : Wn) = shiftW f.length ⟨8, no, nm, tx, xa, xb⟩ := by unfold shiftW; simp only [HNL.out]; rfl
        rw [e, ← soFar_next HGX.out] at h
        rw [soFar_len (by have := HML.out; omega), HNL.out] at h
        exact h)
      have HB11 := Lib.hid (Below.grown HALL.out hgrow HALL.out.size (fun j hj => (HOA.out.lt j hj).1))
      clear hown hgrow HNW
      go_wp2_with fail
      go_roundw
      case rel => exact ⟨i + 1, _, by omega, by go_num, rfl, HO11, HB11⟩
      case measure => (simp [intOf]; try omega)
    have hk6 : ¬ (6 : Int) ≤ kd := by have := ok_leaf hok h67 h8; omega
    have k6 := kind_eq (show ¬ kd = 6 by omega)
    have k7 := kind_eq (show ¬ kd = 7 by omega)
    have HIN := Lib.hid (fun wx => spec_in kd 6 7 wx)
    rw [inR_f.2 (show ¬ ((6 : Int) ≤ kd ∧ kd ≤ 7) by omega)] at HIN
    clear hok
    have HALL := Lib.hid ((HBX.out.alloc HBX.out.size (.cells #[.int .i64 (kd), .int .i64 no, .int .i64 nm, .string tx, .int .i64 (xa), .int .i64 (xb)] 134)).alloc (by have := HBX.out.size; simp; omega) (.cells #[.int .i64 (kd), .int .i64 no, .int .i64 nm, .string tx, .int .i64 (xa), .int .i64 (xb)] 134))
    have HOA := Lib.hid ((HO.out.alloc (.cells #[.int .i64 (kd), .int .i64 no, .int .i64 nm, .string tx, .int .i64 (xa), .int .i64 (xb)] 134)).alloc (.cells #[.int .i64 (kd), .int .i64 no, .int .i64 nm, .string tx, .int .i64 (xa), .int .i64 (xb)] 134))
    have hnw := World.news_of_block (cs := #[.int .i64 (kd), .int .i64 no, .int .i64 nm, .string tx, .int .i64 (xa), .int .i64 (xb)]) (t := 134) (fr := (0, 0)) (heap_alloc_new (wx.alloc (.cells #[.int .i64 (kd), .int .i64 no, .int .i64 nm, .string tx, .int .i64 (xa), .int .i64 (xb)] 134)) (.cells #[.int .i64 (kd), .int .i64 no, .int .i64 nm, .string tx, .int .i64 (xa), .int .i64 (xb)] 134))
    simp only [World.size_alloc] at hnw
    have HNW := Lib.hid hnw
    clear hnw
    go_wp2_with (first | ((with_reducible refine (HIN.out _).mono ?_); rintro e w' ⟨rfl, rfl⟩) | (at_builtin; refine wpList_append_own _ rfl _ _ 59 rfl wz.heap.size 134 i0 (.agg #[.int .i64 0, .int .i64 0, .int .i64 0, .string ByteArray.empty, .int .i64 0, .int .i64 0]) 6 56 Try.underlying59 hi hz0 hz1 hz2 rfl (by decide) _ (n + i) (wnsV (soFar f g i)) rfl HOA.out ⟨wx.heap.size + 1, 0, none⟩ 1 1 [.int .i64 (kd), .int .i64 no, .int .i64 nm, .string tx, .int .i64 (xa), .int .i64 (xb)] rfl rfl HNW.out (by simp [Value.oneCell']) (by unfold maxLen; omega) (by omega) HALL.out.size ?_))
    intro v11 w11 hown hgrow _
    have HO11 : Hid (w11.ownsRow wz.heap.size 134 6 v11 (n + (i + 1)) (wnsV (soFar f g (i + 1)))) := Lib.hid (by
      have h := own_wn (f := ⟨kd, no, nm, tx, xa, xb⟩) HSL.out hown
      have e : (⟨kd, no, nm, tx, xa, xb⟩ : Wn) = shiftW f.length ⟨kd, no, nm, tx, xa, xb⟩ := by unfold shiftW; simp only; rw [if_neg (show ¬ (6 : Int) ≤ kd by omega), if_neg h67]
      rw [e, ← soFar_next HGX.out] at h
      rw [soFar_len (by have := HML.out; omega), HNL.out] at h
      exact h)
    have HB11 := Lib.hid (Below.grown HALL.out hgrow HALL.out.size (fun j hj => (HOA.out.lt j hj).1))
    clear hown hgrow HNW
    go_wp2_with fail
    go_roundw
    case rel => exact ⟨i + 1, _, by omega, by go_num, rfl, HO11, HB11⟩
    case measure => (simp [intOf]; try omega)
end Go.Proofs.Ytlmgckijbamgpaa
