/- What both of two schemas tell: the reference. -/
import Derived.Test.YtmlnecopbncdbaaMtN
import Derived.Test.YtmlnecopbncdbaaMtX
import Derived.Test.YtmlnecopbncdbaaTyH
namespace Go.Proofs.Ytmlnecopbncdbaa
set_option linter.unusedVariables false
set_option linter.unusedSimpArgs false
open Go.ChangeShapes Go.WideShapes Go.ChangeAt Go.RowKit
set_option maxRecDepth 100000

set_option maxHeartbeats 8000000 in
theorem spec_meetOO {B : Nat} {w : World} {A D : List Ty} {sa sd : Option Addr} {ca cd : Nat} (hA : Sch B w A sa ca) (hD : Sch B w D sd cd) :
    Calls Try.prog 7 #[.agg #[.slice sa A.length ca], .agg #[.slice sd D.length cd]] w (MeetOO (meetB A D) w) := by
  have hB1 := Below.alloc (Below.refl w.heap.size w) (Nat.le_refl _) (.cells #[.slice sa A.length ca] 28)
  have hX1 := heap_alloc_new w (.cells #[.slice sa A.length ca] 28)
  generalize hw1 : w.alloc (.cells #[.slice sa A.length ca] 28) = w1 at *
  have l1 := hp_lt hX1
  have hB2 := hB1.alloc (Nat.le_of_lt l1) (.cells #[.slice sd D.length cd] 28)
  have hX1 := hp_alloc (.cells #[.slice sd D.length cd] 28) hX1
  have hX2 := heap_alloc_new w1 (.cells #[.slice sd D.length cd] 28)
  generalize hw2 : w1.alloc (.cells #[.slice sd D.length cd] 28) = w2 at *
  have l2 := hp_lt hX2
  have hB3 := hB2.alloc (by omega) (.cells #[.slice none 0 0] 28)
  have hX1 := hp_alloc (.cells #[.slice none 0 0] 28) hX1
  have hX2 := hp_alloc (.cells #[.slice none 0 0] 28) hX2
  have hX3 := heap_alloc_new w2 (.cells #[.slice none 0 0] 28)
  generalize hw3 : w2.alloc (.cells #[.slice none 0 0] 28) = w3 at *
  have l3 := hp_lt hX3
  have HB3 := Lib.hid hB3
  have HX3 := Lib.hid hX3
  have HA3 := Lib.hid (hA.keep hB3)
  have HD3 := Lib.hid (hD.keep hB3)
  have c1 : w3.cell? ⟨w.heap.size, 0, none⟩ = some (.slice sa A.length ca) := by simp [World.cell?, hX1]
  have c2 : w3.cell? ⟨w1.heap.size, 0, none⟩ = some (.slice sd D.length cd) := by simp [World.cell?, hX2]
  have hdr := (Below.refl w3.heap.size w3).drew
  clear hB1 hB2 hB3 hX1 hX2 hX3
  have HG1 := Lib.hid (spec_GoodSchema HA3.out)
  have HGD := Lib.hid (fun wx (hs : Sch B wx D sd cd) => spec_GoodSchema hs)
  cases hga : goodL A with
  | false =>
    have HN : Hid (meetB A D = ([], false)) := Lib.hid (meetB_no (by simp [hga]))
    rw [hga] at HG1
    clear hga
    go_enter Try.func7, Try.ntmps7
    go_wp2_with fail
    refine HG1.out.mono ?_
    rintro e w4 ⟨rfl, hb⟩
    have HB4 := Lib.hid (HB3.out.trans (hb.mono HB3.out.size))
    have HX4 := Lib.hid (hp_later hb HX3.out)
    clear hb
    have z0 : (w4).cell? ⟨w2.heap.size, 0, none⟩ = some (.slice none 0 0) := by simp [World.cell?, HX4.out]
    have zf : (w4).frozen? ⟨w2.heap.size, 0, none⟩ = false := by simp [World.frozen?, HX4.out]
    have zy : ((w4).setCell ⟨w2.heap.size, 0, none⟩ (.slice none 0 0)).cell? ⟨w2.heap.size, 0, none⟩ = some (.slice none 0 0) := by simp [World.setCell, Array.getElem?_modify, HX4.out, World.cell?]
    go_wp2_with fail
    refine bodyPost_ret (v := .tuple #[.agg #[.slice none 0 0], .bool false]) (by simp [results, Try.results7, go_sem, zy]) rfl ?_
    exact meetoo_no HN.out (below_set HB4.out (show w.heap.size ≤ w2.heap.size by omega) 0 _)
  | true =>
  rw [hga] at HG1
  cases hgd : goodL D with
  | false =>
    have HN : Hid (meetB A D = ([], false)) := Lib.hid (meetB_no (by simp [hgd]))
    rw [hgd] at HGD
    clear hga hgd
    go_enter Try.func7, Try.ntmps7
    go_wp2_with fail
    refine HG1.out.mono ?_
    rintro e w4 ⟨rfl, hb⟩
    have HB4 := Lib.hid (HB3.out.trans (hb.mono HB3.out.size))
    have HG2 := Lib.hid (HGD.out w4 (HD3.out.keep hb))
    have HX4 := Lib.hid (hp_later hb HX3.out)
    have d2 := below_later hb c2
    clear hb
    go_wp2_with fail
    refine HG2.out.mono ?_
    rintro e w5 ⟨rfl, hb⟩
    have HB5 := Lib.hid (HB4.out.trans (hb.mono HB4.out.size))
    have HX5 := Lib.hid (hp_later hb HX4.out)
    clear hb
    have z0 : (w5).cell? ⟨w2.heap.size, 0, none⟩ = some (.slice none 0 0) := by simp [World.cell?, HX5.out]
    have zf : (w5).frozen? ⟨w2.heap.size, 0, none⟩ = false := by simp [World.frozen?, HX5.out]
    have zy : ((w5).setCell ⟨w2.heap.size, 0, none⟩ (.slice none 0 0)).cell? ⟨w2.heap.size, 0, none⟩ = some (.slice none 0 0) := by simp [World.setCell, Array.getElem?_modify, HX5.out, World.cell?]
    go_wp2_with fail
    refine bodyPost_ret (v := .tuple #[.agg #[.slice none 0 0], .bool false]) (by simp [results, Try.results7, go_sem, zy]) rfl ?_
    exact meetoo_no HN.out (below_set HB5.out (show w.heap.size ≤ w2.heap.size by omega) 0 _)
  | true =>
    rw [hgd] at HGD
    have HGA := Lib.hid hga
    have HGE := Lib.hid hgd
    obtain ⟨r1, n1, o1, z1⟩ := good_right hga
    obtain ⟨r2, n2, o2, z2⟩ := good_right hgd
    have HR := Lib.hid (And.intro r1 r2)
    have HO := Lib.hid (And.intro o1 o2)
    clear hga hgd r1 r2 o1 o2
    go_enter Try.func7, Try.ntmps7
    go_wp2_with fail
    refine HG1.out.mono ?_
    rintro e w4a ⟨rfl, hb⟩
    have HB4a := Lib.hid (HB3.out.trans (hb.mono HB3.out.size))
    have HG2 := Lib.hid (HGD.out w4a (HD3.out.keep hb))
    have HX4a := Lib.hid (hp_later hb HX3.out)
    have HA4a := Lib.hid (HA3.out.keep hb)
    have HD4a := Lib.hid (HD3.out.keep hb)
    have d1 := below_later hb c1
    have d2 := below_later hb c2
    clear hb
    go_wp2_with fail
    refine HG2.out.mono ?_
    rintro e w4 ⟨rfl, hb⟩
    have HB4 := Lib.hid (HB4a.out.trans (hb.mono HB4a.out.size))
    have HX4 := Lib.hid (hp_later hb HX4a.out)
    have HA4 := Lib.hid (HA4a.out.keep hb)
    have HD4 := Lib.hid (HD4a.out.keep hb)
    have e1 := below_later hb d1
    have e2 := below_later hb d2
    clear hb
    go_wp2_with fail
    have hdr4 := (Below.refl w4.heap.size w4).drew
    have HT1F : Hid (∀ wx, Below w4.heap.size w4 wx → Calls Try.prog 35 #[.agg #[.slice sa A.length ca], .int .i64 0] wx (TreeO A 0 wx)) := Lib.hid (fun wx hbx => spec_l2Tree HO.out.1 _ 0 wx (Nat.le_refl _) z1 (HA4.out.keep hbx))
    have HT2F : Hid (∀ wx, Below w4.heap.size w4 wx → Calls Try.prog 35 #[.agg #[.slice sd D.length cd], .int .i64 0] wx (TreeO D 0 wx)) := Lib.hid (fun wx hbx => spec_l2Tree HO.out.2 _ 0 wx (Nat.le_refl _) z2 (HD4.out.keep hbx))
    unfold TreeO at HT1F HT2F
    go_cut [6, 7] (fun s6 s7 wx => ∃ (X7 : Nat) (kk : Int) (nn : ByteArray) (oo : Int) (mm : Bool) (pp : Int) (sq : Option Addr) (sn sc : Nat) (ok : Bool), s6 = .pointer (some ⟨X7, 0, none⟩) ∧ s7 = .bool ok ∧ Hid (wx.heap[X7]? = some (.cells #[.int .i64 kk, .string nn, .int .i64 oo, .bool mm, .int .i64 pp, .slice sq sn sc] 59)) ∧ Hid (Below w4.heap.size w4 wx) ∧ Hid ((meetT (treeOf A 0) (treeOf D 0) = none ∧ ok = false) ∨ (∃ t, meetT (treeOf A 0) (treeOf D 0) = some t ∧ ok = true ∧ KS (fun _ => True) wx t [.int .i64 kk, .string nn, .int .i64 oo, .bool mm, .int .i64 pp, .slice sq sn sc])))
    case first =>
      refine wp_region_G [3] (fun w' => w'.cell? ⟨w.heap.size, 0, none⟩ = some (.slice sa A.length ca) ∧ w'.cell? ⟨w1.heap.size, 0, none⟩ = some (.slice sd D.length cd)) (by kernel_rfl) ?_ (fun hHeld => ?_)
      · exact ⟨e1, e2⟩
      refine wpG_load (i := 0) (oi := { dst := some 18, op := Go.Op.load 28 (Go.Operand.tmp 2), type := 28, pos := "l2_type.go:241", after := #[], guard := none }) (v := ?vg1) [[3, 1, 0]] rfl (by kernel_rfl) (fun _ _ _ h => h) hHeld (Or.inl ⟨by rfl, ?yg1⟩) ?_
      case yg1 => (intro wS hSw; (try dsimp only at hSw); go_simp <;> with_reducible rfl)
      try simp only [Act.put, List.setIfInBounds_toArray, List.set_cons_zero, List.set_cons_succ]
      refine wpG_load (i := 2) (oi := { dst := some 20, op := Go.Op.load 28 (Go.Operand.tmp 3), type := 28, pos := "l2_type.go:241", after := #[], guard := none }) (v := ?vg2) [[3, 2]] rfl (by kernel_rfl) (fun _ _ _ h => h) hHeld (Or.inl ⟨by rfl, ?yg2⟩) ?_
      case yg2 => (intro wS hSw; (try dsimp only at hSw); go_simp <;> with_reducible rfl)
      try simp only [Act.put, List.setIfInBounds_toArray, List.set_cons_zero, List.set_cons_succ]
      refine wpG_two (i := 1) (j := 8) (o := { dst := some 19, op := Go.Op.call { callee := Go.Callee.value (Go.Operand.func 35), args := #[Go.Operand.tmp 18, Go.Operand.const (Go.Value.int Go.IntKind.i64 0)], argTypes := #[28, 3] }, type := 59, pos := "l2_type.go:241", after := #[{ on := 0, ground := Go.Ground.data }], guard := none }) (o' := { dst := some 6, op := Go.Op.alloc 59, type := 0, pos := "l2_type.go:241", after := #[], guard := none }) rfl rfl (by kernel_rfl) (fun K hK => ?_) (fun K hK => ?_)
      · skip
        go_simp
        refine (HT1F.out _ (by first | exact hdr4 | exact hdr4.alloc (Nat.le_refl _) _)).mono ?_
        rintro e w5 ⟨cs1, rfl, hb5, hk5⟩
        have hb45 : Below w4.heap.size w4 w5 := by first | exact hdr4.trans hb5 | exact (hdr4.alloc (Nat.le_refl _) (.cells #[.int .i64 0, .string { data := #[] }, .int .i64 0, .bool false, .int .i64 0, .slice none 0 0] 59)).trans (hb5.mono (by simp))
        have HB45 := Lib.hid hb45
        have HQ5 := Lib.hid hb5
        have HK5 := Lib.hid hk5
        have f1 := below_later hb45 e1
        have f2 := below_later hb45 e2
        have hz45 := hb45.size
        clear hb5 hk5 hb45
        refine hK.out _ _ (Or.inr ?khHeld3) (fun hHeld3S => ?_)
        case khHeld3 => exact ⟨f1, f2⟩
        have hHeld3 := hHeld3S.held (by kernel_rfl)
        clear hK K
        try simp only [Act.put, List.setIfInBounds_toArray, List.set_cons_zero, List.set_cons_succ]
        refine wpG_two (i := 3) (j := 8) (o := { dst := some 21, op := Go.Op.call { callee := Go.Callee.value (Go.Operand.func 35), args := #[Go.Operand.tmp 20, Go.Operand.const (Go.Value.int Go.IntKind.i64 0)], argTypes := #[28, 3] }, type := 59, pos := "l2_type.go:241", after := #[{ on := 2, ground := Go.Ground.data }, { on := 1, ground := Go.Ground.chain }], guard := none }) (o' := { dst := some 6, op := Go.Op.alloc 59, type := 0, pos := "l2_type.go:241", after := #[], guard := none }) rfl rfl (by kernel_rfl) (fun K hK => ?_) (fun K hK => ?_)
        · skip
          go_simp
          refine (HT2F.out _ (by first | exact HB45.out | exact HB45.out.alloc hz45 _)).mono ?_
          rintro e w6 ⟨cs2, rfl, hb6, hk6⟩
          have hb56 : Below w5.heap.size w5 w6 := by first | exact hb6 | exact ((Below.refl w5.heap.size w5).alloc (Nat.le_refl _) (.cells #[.int .i64 0, .string { data := #[] }, .int .i64 0, .bool false, .int .i64 0, .slice none 0 0] 59)).trans (hb6.mono (by simp))
          have HB56 := Lib.hid hb56
          have HQ6 := Lib.hid hb6
          have HK6 := Lib.hid hk6
          have g1 := below_later hb56 f1
          have g2 := below_later hb56 f2
          have hz56 := hb56.size
          clear hb6 hk6 hb56
          refine hK.out _ _ (Or.inl (by kernel_rfl)) (fun _ => ?_)
          clear hK K
          try simp only [Act.put, List.setIfInBounds_toArray, List.set_cons_zero, List.set_cons_succ]
          refine wpG_two (i := 4) (j := 8) (o := { dst := some 22, op := Go.Op.call { callee := Go.Callee.value (Go.Operand.func 34), args := #[Go.Operand.tmp 19, Go.Operand.tmp 21], argTypes := #[59, 59] }, type := 60, pos := "l2_type.go:241", after := #[{ on := 1, ground := Go.Ground.data }, { on := 3, ground := Go.Ground.data }, { on := 3, ground := Go.Ground.chain }], guard := none }) (o' := { dst := some 6, op := Go.Op.alloc 59, type := 0, pos := "l2_type.go:241", after := #[], guard := none }) rfl rfl (by kernel_rfl) (fun K hK => ?_) (fun K hK => ?_)
          · skip
            go_simp
            have hsq : (w4.drew.alloc (.cells #[.int .i64 0, .string { data := #[] }, .int .i64 0, .bool false, .int .i64 0, .slice none 0 0] 59)).heap.size = w4.heap.size + 1 := by simp
            have hsq2 : (w4.alloc (.cells #[.int .i64 0, .string { data := #[] }, .int .i64 0, .bool false, .int .i64 0, .slice none 0 0] 59)).drew.heap.size = w4.heap.size + 1 := by show (w4.alloc (.cells #[.int .i64 0, .string { data := #[] }, .int .i64 0, .bool false, .int .i64 0, .slice none 0 0] 59)).heap.size = _; simp
            have hs5 : (w5.alloc (.cells #[.int .i64 0, .string { data := #[] }, .int .i64 0, .bool false, .int .i64 0, .slice none 0 0] 59)).heap.size = w5.heap.size + 1 := by simp
            have hs6 : (w6.alloc (.cells #[.int .i64 0, .string { data := #[] }, .int .i64 0, .bool false, .int .i64 0, .slice none 0 0] 59)).heap.size = w6.heap.size + 1 := by simp
            have k1 : KS (fun _ => True) w6 (treeOf A 0) cs1 := (HK5.out.later HB56.out).keep (Kept.refl _ _) (fun q h _ => trivial)
            have k2 : KS (fun _ => True) w6 (treeOf D 0) cs2 := HK6.out.keep (Kept.refl _ _) (fun q h _ => trivial)
            refine (spec_l2Meet _ (fun _ => True) _ _ _ cs1 cs2 (Nat.le_refl _) k1 k2 HR.out.1 HR.out.2 (by omega) (by omega)).mono ?_
            rintro e w7 ⟨kk, nn, oo, mm, pp, sq, sn, sc, ok, rfl, hb7, hres⟩
            have hb67 : Below w6.heap.size w6 w7 := by first | exact hb7 | exact ((Below.refl w6.heap.size w6).alloc (Nat.le_refl _) (.cells #[.int .i64 0, .string { data := #[] }, .int .i64 0, .bool false, .int .i64 0, .slice none 0 0] 59)).trans (hb7.mono (by simp))
            have HB67 := Lib.hid hb67
            have HQ7 := Lib.hid hb7
            have HRES := Lib.hid hres
            clear hb7 hres hb67 k1 k2
            refine hK.out _ _ (Or.inl (by kernel_rfl)) (fun _ => ?_)
            clear hK K
            try simp only [Act.put, List.setIfInBounds_toArray, List.set_cons_zero, List.set_cons_succ]
            refine wpG_pure (i := 5) (oi := { dst := some 17, op := Go.Op.move (Go.Operand.tmp 22), type := 60, pos := "l2_type.go:241", after := #[{ on := 4, ground := Go.Ground.data }], guard := none }) (v := ?vg6) rfl (by kernel_rfl) (fun _ _ _ h => h) (Or.inl (by kernel_rfl)) (Or.inl ⟨by rfl, ?yg6⟩) ?_
            case yg6 => (intro wS _; go_simp <;> with_reducible rfl)
            try simp only [Act.put, List.setIfInBounds_toArray, List.set_cons_zero, List.set_cons_succ]
            refine wpG_pure (i := 6) (oi := { dst := some 23, op := Go.Op.extract (Go.Operand.tmp 17) 0, type := 59, pos := "l2_type.go:241", after := #[{ on := 5, ground := Go.Ground.data }], guard := none }) (v := ?vg7) rfl (by kernel_rfl) (fun _ _ _ h => h) (Or.inl (by kernel_rfl)) (Or.inl ⟨by rfl, ?yg7⟩) ?_
            case yg7 => (intro wS _; go_simp <;> with_reducible rfl)
            try simp only [Act.put, List.setIfInBounds_toArray, List.set_cons_zero, List.set_cons_succ]
            refine wpG_pure (i := 7) (oi := { dst := some 24, op := Go.Op.extract (Go.Operand.tmp 17) 1, type := 4, pos := "l2_type.go:241", after := #[{ on := 5, ground := Go.Ground.data }, { on := 9, ground := Go.Ground.gcOnly Go.Departure.lateStores }], guard := none }) (v := ?vg8) rfl (by kernel_rfl) (fun _ _ _ h => h) (Or.inl (by kernel_rfl)) (Or.inl ⟨by rfl, ?yg8⟩) ?_
            case yg8 => (intro wS _; go_simp <;> with_reducible rfl)
            try simp only [Act.put, List.setIfInBounds_toArray, List.set_cons_zero, List.set_cons_succ]
            refine wpG_one (i := 8) (o := { dst := some 6, op := Go.Op.alloc 59, type := 0, pos := "l2_type.go:241", after := #[], guard := none }) rfl (by kernel_rfl) (fun K hK => ?_)
            go_simp
            refine hK.out _ _ (Or.inl (by kernel_rfl)) (fun _ => ?_)
            clear hK K
            try simp only [Act.put, List.setIfInBounds_toArray, List.set_cons_zero, List.set_cons_succ]
            refine wpG_one (i := 9) (o := { dst := none, op := Go.Op.store 59 (Go.Operand.tmp 6) (Go.Operand.tmp 23), type := 0, pos := "l2_type.go:241", after := #[{ on := 8, ground := Go.Ground.data }, { on := 6, ground := Go.Ground.data }, { on := 4, ground := Go.Ground.chain }, { on := 0, ground := Go.Ground.phase }, { on := 1, ground := Go.Ground.phase }, { on := 2, ground := Go.Ground.phase }, { on := 3, ground := Go.Ground.phase }, { on := 4, ground := Go.Ground.phase }, { on := 5, ground := Go.Ground.phase }, { on := 6, ground := Go.Ground.phase }, { on := 7, ground := Go.Ground.textOnly Go.Departure.lateStores }, { on := 8, ground := Go.Ground.phase }], guard := none }) rfl (by kernel_rfl) (fun K hK => ?_)
            have HX8 := Lib.hid (heap_alloc_new w7 (.cells #[.int .i64 0, .string { data := #[] }, .int .i64 0, .bool false, .int .i64 0, .slice none 0 0] 59))
            have hz7 := HB67.out.size
            have hq5 := HQ5.out.size
            have hq6 := HQ6.out.size
            have hq7 := HQ7.out.size
            have HBW := Lib.hid ((HB45.out.trans ((HB56.out.trans (HB67.out.mono HB56.out.size)).mono HB45.out.size)).alloc (by omega) (.cells #[.int .i64 0, .string { data := #[] }, .int .i64 0, .bool false, .int .i64 0, .slice none 0 0] 59))
            have HXE := Lib.hid (set6_heap HX8.out (.int .i64 kk) (.string nn) (.int .i64 oo) (.bool mm) (.int .i64 pp) (.slice sq sn sc))
            have HBE := Lib.hid (below_set6 HBW.out (by omega) (X := w7.heap.size) (.int .i64 kk) (.string nn) (.int .i64 oo) (.bool mm) (.int .i64 pp) (.slice sq sn sc))
            have HKE : Hid ((meetT (treeOf A 0) (treeOf D 0) = none ∧ ok = false) ∨ (∃ t, meetT (treeOf A 0) (treeOf D 0) = some t ∧ ok = true ∧ KS (fun _ => True) (set6 (w7.alloc (.cells #[.int .i64 0, .string { data := #[] }, .int .i64 0, .bool false, .int .i64 0, .slice none 0 0] 59)) w7.heap.size (.int .i64 kk) (.string nn) (.int .i64 oo) (.bool mm) (.int .i64 pp) (.slice sq sn sc)) t [.int .i64 kk, .string nn, .int .i64 oo, .bool mm, .int .i64 pp, .slice sq sn sc])) := Lib.hid (by
              rcases HRES.out with h | ⟨t, e1, e2, hk⟩
              · exact .inl h
              · exact .inr ⟨t, e1, e2, ks_new6 hk _ (fun _ _ => trivial) _ _ _ _ _ _⟩)
            unfold set6 at HXE HBE HKE
            obtain ⟨sa0, -, -, -, -, -⟩ := box6 HX8.out
            have sf0 := box6_z HX8.out 0
            have HSA := Lib.hid (box6_t0 HX8.out (.int .i64 kk))
            generalize hsA : ((w7.alloc (.cells #[.int .i64 0, .string { data := #[] }, .int .i64 0, .bool false, .int .i64 0, .slice none 0 0] 59))).setCell ⟨w7.heap.size, 0, none⟩ (.int .i64 kk) = wsA at *
            obtain ⟨-, sa1, -, -, -, -⟩ := box6 HSA.out
            have sf1 := box6_z HSA.out 1
            have HSB := Lib.hid (box6_t1 HSA.out (.string nn))
            generalize hsB : wsA.setCell ⟨w7.heap.size, 1, none⟩ (.string nn) = wsB at *
            obtain ⟨-, -, sa2, -, -, -⟩ := box6 HSB.out
            have sf2 := box6_z HSB.out 2
            have HSC := Lib.hid (box6_t2 HSB.out (.int .i64 oo))
            generalize hsC : wsB.setCell ⟨w7.heap.size, 2, none⟩ (.int .i64 oo) = wsC at *
            obtain ⟨-, -, -, sa3, -, -⟩ := box6 HSC.out
            have sf3 := box6_z HSC.out 3
            have HSD := Lib.hid (box6_t3 HSC.out (.bool mm))
            generalize hsD : wsC.setCell ⟨w7.heap.size, 3, none⟩ (.bool mm) = wsD at *
            obtain ⟨-, -, -, -, sa4, -⟩ := box6 HSD.out
            have sf4 := box6_z HSD.out 4
            have HSE := Lib.hid (box6_t4 HSD.out (.int .i64 pp))
            generalize hsE : wsD.setCell ⟨w7.heap.size, 4, none⟩ (.int .i64 pp) = wsE at *
            obtain ⟨-, -, -, -, -, sa5⟩ := box6 HSE.out
            have sf5 := box6_z HSE.out 5
            have HSF := Lib.hid (box6_t5 HSE.out (.slice sq sn sc))
            generalize hsF : wsE.setCell ⟨w7.heap.size, 5, none⟩ (.slice sq sn sc) = wsF at *
            obtain ⟨sg0, sg1, sg2, sg3, sg4, sg5⟩ := box6 HSF.out
            go_simp
            refine hK.out _ _ (Or.inl (by kernel_rfl)) (fun _ => ?_)
            clear hK K
            try simp only [Act.put, List.setIfInBounds_toArray, List.set_cons_zero, List.set_cons_succ]
            refine wpG_pure (i := 10) (oi := { dst := some 7, op := Go.Op.assign (Go.Operand.tmp 24), type := 4, pos := "l2_type.go:241", after := #[{ on := 7, ground := Go.Ground.data }, { on := 9, ground := Go.Ground.chain }, { on := 0, ground := Go.Ground.phase }, { on := 1, ground := Go.Ground.phase }, { on := 2, ground := Go.Ground.phase }, { on := 3, ground := Go.Ground.phase }, { on := 4, ground := Go.Ground.phase }, { on := 5, ground := Go.Ground.phase }, { on := 6, ground := Go.Ground.phase }, { on := 7, ground := Go.Ground.phase }, { on := 8, ground := Go.Ground.phase }, { on := 9, ground := Go.Ground.phase }], guard := none }) (v := ?vg11) rfl (by kernel_rfl) (fun _ _ _ h => h) (Or.inl (by kernel_rfl)) (Or.inl ⟨by rfl, ?yg11⟩) ?_
            case yg11 => (intro wS _; go_simp <;> with_reducible rfl)
            try simp only [Act.put, List.setIfInBounds_toArray, List.set_cons_zero, List.set_cons_succ]
            refine wpG_done (by kernel_rfl) ?_
            go_wp2_with fail
            go_meet
            exact ⟨_, kk, nn, oo, mm, pp, sq, sn, sc, ok, rfl, rfl, HXE, HBE, HKE⟩
          · skip
            go_simp
            refine hK.out _ _ (Or.inl (by kernel_rfl)) (fun _ => ?_)
            clear hK K
            try simp only [Act.put, List.setIfInBounds_toArray, List.set_cons_zero, List.set_cons_succ]
            refine wpG_one (i := 4) (o := { dst := some 22, op := Go.Op.call { callee := Go.Callee.value (Go.Operand.func 34), args := #[Go.Operand.tmp 19, Go.Operand.tmp 21], argTypes := #[59, 59] }, type := 60, pos := "l2_type.go:241", after := #[{ on := 1, ground := Go.Ground.data }, { on := 3, ground := Go.Ground.data }, { on := 3, ground := Go.Ground.chain }], guard := none }) rfl (by kernel_rfl) (fun K hK => ?_)
            go_simp
            have hsq : (w4.drew.alloc (.cells #[.int .i64 0, .string { data := #[] }, .int .i64 0, .bool false, .int .i64 0, .slice none 0 0] 59)).heap.size = w4.heap.size + 1 := by simp
            have hsq2 : (w4.alloc (.cells #[.int .i64 0, .string { data := #[] }, .int .i64 0, .bool false, .int .i64 0, .slice none 0 0] 59)).drew.heap.size = w4.heap.size + 1 := by show (w4.alloc (.cells #[.int .i64 0, .string { data := #[] }, .int .i64 0, .bool false, .int .i64 0, .slice none 0 0] 59)).heap.size = _; simp
            have hs5 : (w5.alloc (.cells #[.int .i64 0, .string { data := #[] }, .int .i64 0, .bool false, .int .i64 0, .slice none 0 0] 59)).heap.size = w5.heap.size + 1 := by simp
            have hs6 : (w6.alloc (.cells #[.int .i64 0, .string { data := #[] }, .int .i64 0, .bool false, .int .i64 0, .slice none 0 0] 59)).heap.size = w6.heap.size + 1 := by simp
            have k1 : KS (fun q => ¬ q = w6.heap.size) (w6.alloc (.cells #[.int .i64 0, .string { data := #[] }, .int .i64 0, .bool false, .int .i64 0, .slice none 0 0] 59)) (treeOf A 0) cs1 := KS.later (KS.keep (T := fun q => ¬ q = w6.heap.size) (Kept.refl _ _) (fun q h hl => by omega) _ _ (HK5.out.later HB56.out)) ((Below.refl _ _).alloc (Nat.le_refl _) _)
            have k2 : KS (fun q => ¬ q = w6.heap.size) (w6.alloc (.cells #[.int .i64 0, .string { data := #[] }, .int .i64 0, .bool false, .int .i64 0, .slice none 0 0] 59)) (treeOf D 0) cs2 := KS.later (KS.keep (T := fun q => ¬ q = w6.heap.size) (Kept.refl _ _) (fun q h hl => by omega) _ _ HK6.out) ((Below.refl _ _).alloc (Nat.le_refl _) _)
            refine (spec_l2Meet _ (fun q => ¬ q = w6.heap.size) _ _ _ cs1 cs2 (Nat.le_refl _) k1 k2 HR.out.1 HR.out.2 (by omega) (by omega)).mono ?_
            rintro e w7 ⟨kk, nn, oo, mm, pp, sq, sn, sc, ok, rfl, hb7, hres⟩
            have hb67 : Below w6.heap.size w6 w7 := by first | exact hb7 | exact ((Below.refl w6.heap.size w6).alloc (Nat.le_refl _) (.cells #[.int .i64 0, .string { data := #[] }, .int .i64 0, .bool false, .int .i64 0, .slice none 0 0] 59)).trans (hb7.mono (by simp))
            have HB67 := Lib.hid hb67
            have HQ7 := Lib.hid hb7
            have HRES := Lib.hid hres
            clear hb7 hres hb67 k1 k2
            refine hK.out _ _ (Or.inl (by kernel_rfl)) (fun _ => ?_)
            clear hK K
            try simp only [Act.put, List.setIfInBounds_toArray, List.set_cons_zero, List.set_cons_succ]
            refine wpG_pure (i := 5) (oi := { dst := some 17, op := Go.Op.move (Go.Operand.tmp 22), type := 60, pos := "l2_type.go:241", after := #[{ on := 4, ground := Go.Ground.data }], guard := none }) (v := ?vg14) rfl (by kernel_rfl) (fun _ _ _ h => h) (Or.inl (by kernel_rfl)) (Or.inl ⟨by rfl, ?yg14⟩) ?_
            case yg14 => (intro wS _; go_simp <;> with_reducible rfl)
            try simp only [Act.put, List.setIfInBounds_toArray, List.set_cons_zero, List.set_cons_succ]
            refine wpG_pure (i := 6) (oi := { dst := some 23, op := Go.Op.extract (Go.Operand.tmp 17) 0, type := 59, pos := "l2_type.go:241", after := #[{ on := 5, ground := Go.Ground.data }], guard := none }) (v := ?vg15) rfl (by kernel_rfl) (fun _ _ _ h => h) (Or.inl (by kernel_rfl)) (Or.inl ⟨by rfl, ?yg15⟩) ?_
            case yg15 => (intro wS _; go_simp <;> with_reducible rfl)
            try simp only [Act.put, List.setIfInBounds_toArray, List.set_cons_zero, List.set_cons_succ]
            refine wpG_pure (i := 7) (oi := { dst := some 24, op := Go.Op.extract (Go.Operand.tmp 17) 1, type := 4, pos := "l2_type.go:241", after := #[{ on := 5, ground := Go.Ground.data }, { on := 9, ground := Go.Ground.gcOnly Go.Departure.lateStores }], guard := none }) (v := ?vg16) rfl (by kernel_rfl) (fun _ _ _ h => h) (Or.inl (by kernel_rfl)) (Or.inl ⟨by rfl, ?yg16⟩) ?_
            case yg16 => (intro wS _; go_simp <;> with_reducible rfl)
            try simp only [Act.put, List.setIfInBounds_toArray, List.set_cons_zero, List.set_cons_succ]
            refine wpG_one (i := 9) (o := { dst := none, op := Go.Op.store 59 (Go.Operand.tmp 6) (Go.Operand.tmp 23), type := 0, pos := "l2_type.go:241", after := #[{ on := 8, ground := Go.Ground.data }, { on := 6, ground := Go.Ground.data }, { on := 4, ground := Go.Ground.chain }, { on := 0, ground := Go.Ground.phase }, { on := 1, ground := Go.Ground.phase }, { on := 2, ground := Go.Ground.phase }, { on := 3, ground := Go.Ground.phase }, { on := 4, ground := Go.Ground.phase }, { on := 5, ground := Go.Ground.phase }, { on := 6, ground := Go.Ground.phase }, { on := 7, ground := Go.Ground.textOnly Go.Departure.lateStores }, { on := 8, ground := Go.Ground.phase }], guard := none }) rfl (by kernel_rfl) (fun K hK => ?_)
            have HX8 := Lib.hid (hp_later HQ7.out (heap_alloc_new w6 (.cells #[.int .i64 0, .string { data := #[] }, .int .i64 0, .bool false, .int .i64 0, .slice none 0 0] 59)))
            have hz7 := HB67.out.size
            have hq5 := HQ5.out.size
            have hq6 := HQ6.out.size
            have hq7 := HQ7.out.size
            have HBW := Lib.hid (HB45.out.trans ((HB56.out.trans (HB67.out.mono HB56.out.size)).mono HB45.out.size))
            have HXE := Lib.hid (set6_heap HX8.out (.int .i64 kk) (.string nn) (.int .i64 oo) (.bool mm) (.int .i64 pp) (.slice sq sn sc))
            have HBE := Lib.hid (below_set6 HBW.out (by omega) (X := w6.heap.size) (.int .i64 kk) (.string nn) (.int .i64 oo) (.bool mm) (.int .i64 pp) (.slice sq sn sc))
            have HKE : Hid ((meetT (treeOf A 0) (treeOf D 0) = none ∧ ok = false) ∨ (∃ t, meetT (treeOf A 0) (treeOf D 0) = some t ∧ ok = true ∧ KS (fun _ => True) (set6 w7 w6.heap.size (.int .i64 kk) (.string nn) (.int .i64 oo) (.bool mm) (.int .i64 pp) (.slice sq sn sc)) t [.int .i64 kk, .string nn, .int .i64 oo, .bool mm, .int .i64 pp, .slice sq sn sc])) := Lib.hid (by
              rcases HRES.out with h | ⟨t, e1, e2, hk⟩
              · exact .inl h
              · exact .inr ⟨t, e1, e2, ks_set6 hk (by
                  intro h
                  rcases h with h | h
                  · exact h rfl
                  · omega) (fun _ _ => trivial) _ _ _ _ _ _⟩)
            unfold set6 at HXE HBE HKE
            obtain ⟨sa0, -, -, -, -, -⟩ := box6 HX8.out
            have sf0 := box6_z HX8.out 0
            have HSA := Lib.hid (box6_t0 HX8.out (.int .i64 kk))
            generalize hsA : (w7).setCell ⟨w6.heap.size, 0, none⟩ (.int .i64 kk) = wsA at *
            obtain ⟨-, sa1, -, -, -, -⟩ := box6 HSA.out
            have sf1 := box6_z HSA.out 1
            have HSB := Lib.hid (box6_t1 HSA.out (.string nn))
            generalize hsB : wsA.setCell ⟨w6.heap.size, 1, none⟩ (.string nn) = wsB at *
            obtain ⟨-, -, sa2, -, -, -⟩ := box6 HSB.out
            have sf2 := box6_z HSB.out 2
            have HSC := Lib.hid (box6_t2 HSB.out (.int .i64 oo))
            generalize hsC : wsB.setCell ⟨w6.heap.size, 2, none⟩ (.int .i64 oo) = wsC at *
            obtain ⟨-, -, -, sa3, -, -⟩ := box6 HSC.out
            have sf3 := box6_z HSC.out 3
            have HSD := Lib.hid (box6_t3 HSC.out (.bool mm))
            generalize hsD : wsC.setCell ⟨w6.heap.size, 3, none⟩ (.bool mm) = wsD at *
            obtain ⟨-, -, -, -, sa4, -⟩ := box6 HSD.out
            have sf4 := box6_z HSD.out 4
            have HSE := Lib.hid (box6_t4 HSD.out (.int .i64 pp))
            generalize hsE : wsD.setCell ⟨w6.heap.size, 4, none⟩ (.int .i64 pp) = wsE at *
            obtain ⟨-, -, -, -, -, sa5⟩ := box6 HSE.out
            have sf5 := box6_z HSE.out 5
            have HSF := Lib.hid (box6_t5 HSE.out (.slice sq sn sc))
            generalize hsF : wsE.setCell ⟨w6.heap.size, 5, none⟩ (.slice sq sn sc) = wsF at *
            obtain ⟨sg0, sg1, sg2, sg3, sg4, sg5⟩ := box6 HSF.out
            go_simp
            refine hK.out _ _ (Or.inl (by kernel_rfl)) (fun _ => ?_)
            clear hK K
            try simp only [Act.put, List.setIfInBounds_toArray, List.set_cons_zero, List.set_cons_succ]
            refine wpG_pure (i := 10) (oi := { dst := some 7, op := Go.Op.assign (Go.Operand.tmp 24), type := 4, pos := "l2_type.go:241", after := #[{ on := 7, ground := Go.Ground.data }, { on := 9, ground := Go.Ground.chain }, { on := 0, ground := Go.Ground.phase }, { on := 1, ground := Go.Ground.phase }, { on := 2, ground := Go.Ground.phase }, { on := 3, ground := Go.Ground.phase }, { on := 4, ground := Go.Ground.phase }, { on := 5, ground := Go.Ground.phase }, { on := 6, ground := Go.Ground.phase }, { on := 7, ground := Go.Ground.phase }, { on := 8, ground := Go.Ground.phase }, { on := 9, ground := Go.Ground.phase }], guard := none }) (v := ?vg18) rfl (by kernel_rfl) (fun _ _ _ h => h) (Or.inl (by kernel_rfl)) (Or.inl ⟨by rfl, ?yg18⟩) ?_
            case yg18 => (intro wS _; go_simp <;> with_reducible rfl)
            try simp only [Act.put, List.setIfInBounds_toArray, List.set_cons_zero, List.set_cons_succ]
            refine wpG_done (by kernel_rfl) ?_
            go_wp2_with fail
            go_meet
            exact ⟨_, kk, nn, oo, mm, pp, sq, sn, sc, ok, rfl, rfl, HXE, HBE, HKE⟩
        · skip
          go_simp
          refine hK.out _ _ (Or.inr ?khHeld19) (fun hHeld19S => ?_)
          case khHeld19 => first | exact ⟨cell_alloc _ g1, cell_alloc _ g2⟩ | exact ⟨cell_alloc _ f1, cell_alloc _ f2⟩ | exact ⟨cell_alloc _ e1, cell_alloc _ e2⟩
          have hHeld19 := hHeld19S.held (by kernel_rfl)
          clear hK K
          try simp only [Act.put, List.setIfInBounds_toArray, List.set_cons_zero, List.set_cons_succ]
          refine wpG_one (i := 3) (o := { dst := some 21, op := Go.Op.call { callee := Go.Callee.value (Go.Operand.func 35), args := #[Go.Operand.tmp 20, Go.Operand.const (Go.Value.int Go.IntKind.i64 0)], argTypes := #[28, 3] }, type := 59, pos := "l2_type.go:241", after := #[{ on := 2, ground := Go.Ground.data }, { on := 1, ground := Go.Ground.chain }], guard := none }) rfl (by kernel_rfl) (fun K hK => ?_)
          go_simp
          refine (HT2F.out _ (by first | exact HB45.out | exact HB45.out.alloc hz45 _)).mono ?_
          rintro e w6 ⟨cs2, rfl, hb6, hk6⟩
          have hb56 : Below w5.heap.size w5 w6 := by first | exact hb6 | exact ((Below.refl w5.heap.size w5).alloc (Nat.le_refl _) (.cells #[.int .i64 0, .string { data := #[] }, .int .i64 0, .bool false, .int .i64 0, .slice none 0 0] 59)).trans (hb6.mono (by simp))
          have HB56 := Lib.hid hb56
          have HQ6 := Lib.hid hb6
          have HK6 := Lib.hid hk6
          have g1 := below_later hb56 f1
          have g2 := below_later hb56 f2
          have hz56 := hb56.size
          clear hb6 hk6 hb56
          refine hK.out _ _ (Or.inl (by kernel_rfl)) (fun _ => ?_)
          clear hK K
          try simp only [Act.put, List.setIfInBounds_toArray, List.set_cons_zero, List.set_cons_succ]
          refine wpG_one (i := 4) (o := { dst := some 22, op := Go.Op.call { callee := Go.Callee.value (Go.Operand.func 34), args := #[Go.Operand.tmp 19, Go.Operand.tmp 21], argTypes := #[59, 59] }, type := 60, pos := "l2_type.go:241", after := #[{ on := 1, ground := Go.Ground.data }, { on := 3, ground := Go.Ground.data }, { on := 3, ground := Go.Ground.chain }], guard := none }) rfl (by kernel_rfl) (fun K hK => ?_)
          go_simp
          have hsq : (w4.drew.alloc (.cells #[.int .i64 0, .string { data := #[] }, .int .i64 0, .bool false, .int .i64 0, .slice none 0 0] 59)).heap.size = w4.heap.size + 1 := by simp
          have hsq2 : (w4.alloc (.cells #[.int .i64 0, .string { data := #[] }, .int .i64 0, .bool false, .int .i64 0, .slice none 0 0] 59)).drew.heap.size = w4.heap.size + 1 := by show (w4.alloc (.cells #[.int .i64 0, .string { data := #[] }, .int .i64 0, .bool false, .int .i64 0, .slice none 0 0] 59)).heap.size = _; simp
          have hs5 : (w5.alloc (.cells #[.int .i64 0, .string { data := #[] }, .int .i64 0, .bool false, .int .i64 0, .slice none 0 0] 59)).heap.size = w5.heap.size + 1 := by simp
          have hs6 : (w6.alloc (.cells #[.int .i64 0, .string { data := #[] }, .int .i64 0, .bool false, .int .i64 0, .slice none 0 0] 59)).heap.size = w6.heap.size + 1 := by simp
          have k1 : KS (fun q => ¬ q = w5.heap.size) w6 (treeOf A 0) cs1 := KS.later (KS.keep (T := fun q => ¬ q = w5.heap.size) (Kept.refl _ _) (fun q h hl => by omega) _ _ HK5.out) HB56.out
          have k2 : KS (fun q => ¬ q = w5.heap.size) w6 (treeOf D 0) cs2 := HK6.out.keep (Kept.refl _ _) (fun q h _ => by omega)
          refine (spec_l2Meet _ (fun q => ¬ q = w5.heap.size) _ _ _ cs1 cs2 (Nat.le_refl _) k1 k2 HR.out.1 HR.out.2 (by omega) (by omega)).mono ?_
          rintro e w7 ⟨kk, nn, oo, mm, pp, sq, sn, sc, ok, rfl, hb7, hres⟩
          have hb67 : Below w6.heap.size w6 w7 := by first | exact hb7 | exact ((Below.refl w6.heap.size w6).alloc (Nat.le_refl _) (.cells #[.int .i64 0, .string { data := #[] }, .int .i64 0, .bool false, .int .i64 0, .slice none 0 0] 59)).trans (hb7.mono (by simp))
          have HB67 := Lib.hid hb67
          have HQ7 := Lib.hid hb7
          have HRES := Lib.hid hres
          clear hb7 hres hb67 k1 k2
          refine hK.out _ _ (Or.inl (by kernel_rfl)) (fun _ => ?_)
          clear hK K
          try simp only [Act.put, List.setIfInBounds_toArray, List.set_cons_zero, List.set_cons_succ]
          refine wpG_pure (i := 5) (oi := { dst := some 17, op := Go.Op.move (Go.Operand.tmp 22), type := 60, pos := "l2_type.go:241", after := #[{ on := 4, ground := Go.Ground.data }], guard := none }) (v := ?vg22) rfl (by kernel_rfl) (fun _ _ _ h => h) (Or.inl (by kernel_rfl)) (Or.inl ⟨by rfl, ?yg22⟩) ?_
          case yg22 => (intro wS _; go_simp <;> with_reducible rfl)
          try simp only [Act.put, List.setIfInBounds_toArray, List.set_cons_zero, List.set_cons_succ]
          refine wpG_pure (i := 6) (oi := { dst := some 23, op := Go.Op.extract (Go.Operand.tmp 17) 0, type := 59, pos := "l2_type.go:241", after := #[{ on := 5, ground := Go.Ground.data }], guard := none }) (v := ?vg23) rfl (by kernel_rfl) (fun _ _ _ h => h) (Or.inl (by kernel_rfl)) (Or.inl ⟨by rfl, ?yg23⟩) ?_
          case yg23 => (intro wS _; go_simp <;> with_reducible rfl)
          try simp only [Act.put, List.setIfInBounds_toArray, List.set_cons_zero, List.set_cons_succ]
          refine wpG_pure (i := 7) (oi := { dst := some 24, op := Go.Op.extract (Go.Operand.tmp 17) 1, type := 4, pos := "l2_type.go:241", after := #[{ on := 5, ground := Go.Ground.data }, { on := 9, ground := Go.Ground.gcOnly Go.Departure.lateStores }], guard := none }) (v := ?vg24) rfl (by kernel_rfl) (fun _ _ _ h => h) (Or.inl (by kernel_rfl)) (Or.inl ⟨by rfl, ?yg24⟩) ?_
          case yg24 => (intro wS _; go_simp <;> with_reducible rfl)
          try simp only [Act.put, List.setIfInBounds_toArray, List.set_cons_zero, List.set_cons_succ]
          refine wpG_one (i := 9) (o := { dst := none, op := Go.Op.store 59 (Go.Operand.tmp 6) (Go.Operand.tmp 23), type := 0, pos := "l2_type.go:241", after := #[{ on := 8, ground := Go.Ground.data }, { on := 6, ground := Go.Ground.data }, { on := 4, ground := Go.Ground.chain }, { on := 0, ground := Go.Ground.phase }, { on := 1, ground := Go.Ground.phase }, { on := 2, ground := Go.Ground.phase }, { on := 3, ground := Go.Ground.phase }, { on := 4, ground := Go.Ground.phase }, { on := 5, ground := Go.Ground.phase }, { on := 6, ground := Go.Ground.phase }, { on := 7, ground := Go.Ground.textOnly Go.Departure.lateStores }, { on := 8, ground := Go.Ground.phase }], guard := none }) rfl (by kernel_rfl) (fun K hK => ?_)
          have HX8 := Lib.hid (hp_later HB67.out (hp_later HQ6.out (heap_alloc_new w5 (.cells #[.int .i64 0, .string { data := #[] }, .int .i64 0, .bool false, .int .i64 0, .slice none 0 0] 59))))
          have hz7 := HB67.out.size
          have hq5 := HQ5.out.size
          have hq6 := HQ6.out.size
          have hq7 := HQ7.out.size
          have HBW := Lib.hid (HB45.out.trans ((HB56.out.trans (HB67.out.mono HB56.out.size)).mono HB45.out.size))
          have HXE := Lib.hid (set6_heap HX8.out (.int .i64 kk) (.string nn) (.int .i64 oo) (.bool mm) (.int .i64 pp) (.slice sq sn sc))
          have HBE := Lib.hid (below_set6 HBW.out (by omega) (X := w5.heap.size) (.int .i64 kk) (.string nn) (.int .i64 oo) (.bool mm) (.int .i64 pp) (.slice sq sn sc))
          have HKE : Hid ((meetT (treeOf A 0) (treeOf D 0) = none ∧ ok = false) ∨ (∃ t, meetT (treeOf A 0) (treeOf D 0) = some t ∧ ok = true ∧ KS (fun _ => True) (set6 w7 w5.heap.size (.int .i64 kk) (.string nn) (.int .i64 oo) (.bool mm) (.int .i64 pp) (.slice sq sn sc)) t [.int .i64 kk, .string nn, .int .i64 oo, .bool mm, .int .i64 pp, .slice sq sn sc])) := Lib.hid (by
            rcases HRES.out with h | ⟨t, e1, e2, hk⟩
            · exact .inl h
            · exact .inr ⟨t, e1, e2, ks_set6 hk (by
                intro h
                rcases h with h | h
                · exact h rfl
                · omega) (fun _ _ => trivial) _ _ _ _ _ _⟩)
          unfold set6 at HXE HBE HKE
          obtain ⟨sa0, -, -, -, -, -⟩ := box6 HX8.out
          have sf0 := box6_z HX8.out 0
          have HSA := Lib.hid (box6_t0 HX8.out (.int .i64 kk))
          generalize hsA : (w7).setCell ⟨w5.heap.size, 0, none⟩ (.int .i64 kk) = wsA at *
          obtain ⟨-, sa1, -, -, -, -⟩ := box6 HSA.out
          have sf1 := box6_z HSA.out 1
          have HSB := Lib.hid (box6_t1 HSA.out (.string nn))
          generalize hsB : wsA.setCell ⟨w5.heap.size, 1, none⟩ (.string nn) = wsB at *
          obtain ⟨-, -, sa2, -, -, -⟩ := box6 HSB.out
          have sf2 := box6_z HSB.out 2
          have HSC := Lib.hid (box6_t2 HSB.out (.int .i64 oo))
          generalize hsC : wsB.setCell ⟨w5.heap.size, 2, none⟩ (.int .i64 oo) = wsC at *
          obtain ⟨-, -, -, sa3, -, -⟩ := box6 HSC.out
          have sf3 := box6_z HSC.out 3
          have HSD := Lib.hid (box6_t3 HSC.out (.bool mm))
          generalize hsD : wsC.setCell ⟨w5.heap.size, 3, none⟩ (.bool mm) = wsD at *
          obtain ⟨-, -, -, -, sa4, -⟩ := box6 HSD.out
          have sf4 := box6_z HSD.out 4
          have HSE := Lib.hid (box6_t4 HSD.out (.int .i64 pp))
          generalize hsE : wsD.setCell ⟨w5.heap.size, 4, none⟩ (.int .i64 pp) = wsE at *
          obtain ⟨-, -, -, -, -, sa5⟩ := box6 HSE.out
          have sf5 := box6_z HSE.out 5
          have HSF := Lib.hid (box6_t5 HSE.out (.slice sq sn sc))
          generalize hsF : wsE.setCell ⟨w5.heap.size, 5, none⟩ (.slice sq sn sc) = wsF at *
          obtain ⟨sg0, sg1, sg2, sg3, sg4, sg5⟩ := box6 HSF.out
          go_simp
          refine hK.out _ _ (Or.inl (by kernel_rfl)) (fun _ => ?_)
          clear hK K
          try simp only [Act.put, List.setIfInBounds_toArray, List.set_cons_zero, List.set_cons_succ]
          refine wpG_pure (i := 10) (oi := { dst := some 7, op := Go.Op.assign (Go.Operand.tmp 24), type := 4, pos := "l2_type.go:241", after := #[{ on := 7, ground := Go.Ground.data }, { on := 9, ground := Go.Ground.chain }, { on := 0, ground := Go.Ground.phase }, { on := 1, ground := Go.Ground.phase }, { on := 2, ground := Go.Ground.phase }, { on := 3, ground := Go.Ground.phase }, { on := 4, ground := Go.Ground.phase }, { on := 5, ground := Go.Ground.phase }, { on := 6, ground := Go.Ground.phase }, { on := 7, ground := Go.Ground.phase }, { on := 8, ground := Go.Ground.phase }, { on := 9, ground := Go.Ground.phase }], guard := none }) (v := ?vg26) rfl (by kernel_rfl) (fun _ _ _ h => h) (Or.inl (by kernel_rfl)) (Or.inl ⟨by rfl, ?yg26⟩) ?_
          case yg26 => (intro wS _; go_simp <;> with_reducible rfl)
          try simp only [Act.put, List.setIfInBounds_toArray, List.set_cons_zero, List.set_cons_succ]
          refine wpG_done (by kernel_rfl) ?_
          go_wp2_with fail
          go_meet
          exact ⟨_, kk, nn, oo, mm, pp, sq, sn, sc, ok, rfl, rfl, HXE, HBE, HKE⟩
      · skip
        go_simp
        refine hK.out _ _ (Or.inr ?khHeld27) (fun hHeld27S => ?_)
        case khHeld27 => first | exact ⟨cell_alloc _ g1, cell_alloc _ g2⟩ | exact ⟨cell_alloc _ f1, cell_alloc _ f2⟩ | exact ⟨cell_alloc _ e1, cell_alloc _ e2⟩
        have hHeld27 := hHeld27S.held (by kernel_rfl)
        clear hK K
        try simp only [Act.put, List.setIfInBounds_toArray, List.set_cons_zero, List.set_cons_succ]
        refine wpG_one (i := 1) (o := { dst := some 19, op := Go.Op.call { callee := Go.Callee.value (Go.Operand.func 35), args := #[Go.Operand.tmp 18, Go.Operand.const (Go.Value.int Go.IntKind.i64 0)], argTypes := #[28, 3] }, type := 59, pos := "l2_type.go:241", after := #[{ on := 0, ground := Go.Ground.data }], guard := none }) rfl (by kernel_rfl) (fun K hK => ?_)
        go_simp
        refine (HT1F.out _ (by first | exact hdr4 | exact hdr4.alloc (Nat.le_refl _) _)).mono ?_
        rintro e w5 ⟨cs1, rfl, hb5, hk5⟩
        have hb45 : Below w4.heap.size w4 w5 := by first | exact hdr4.trans hb5 | exact (hdr4.alloc (Nat.le_refl _) (.cells #[.int .i64 0, .string { data := #[] }, .int .i64 0, .bool false, .int .i64 0, .slice none 0 0] 59)).trans (hb5.mono (by simp))
        have HB45 := Lib.hid hb45
        have HQ5 := Lib.hid hb5
        have HK5 := Lib.hid hk5
        have f1 := below_later hb45 e1
        have f2 := below_later hb45 e2
        have hz45 := hb45.size
        clear hb5 hk5 hb45
        refine hK.out _ _ (Or.inr ?khHeld28) (fun hHeld28S => ?_)
        case khHeld28 => exact ⟨f1, f2⟩
        have hHeld28 := hHeld28S.held (by kernel_rfl)
        clear hK K
        try simp only [Act.put, List.setIfInBounds_toArray, List.set_cons_zero, List.set_cons_succ]
        refine wpG_one (i := 3) (o := { dst := some 21, op := Go.Op.call { callee := Go.Callee.value (Go.Operand.func 35), args := #[Go.Operand.tmp 20, Go.Operand.const (Go.Value.int Go.IntKind.i64 0)], argTypes := #[28, 3] }, type := 59, pos := "l2_type.go:241", after := #[{ on := 2, ground := Go.Ground.data }, { on := 1, ground := Go.Ground.chain }], guard := none }) rfl (by kernel_rfl) (fun K hK => ?_)
        go_simp
        refine (HT2F.out _ (by first | exact HB45.out | exact HB45.out.alloc hz45 _)).mono ?_
        rintro e w6 ⟨cs2, rfl, hb6, hk6⟩
        have hb56 : Below w5.heap.size w5 w6 := by first | exact hb6 | exact ((Below.refl w5.heap.size w5).alloc (Nat.le_refl _) (.cells #[.int .i64 0, .string { data := #[] }, .int .i64 0, .bool false, .int .i64 0, .slice none 0 0] 59)).trans (hb6.mono (by simp))
        have HB56 := Lib.hid hb56
        have HQ6 := Lib.hid hb6
        have HK6 := Lib.hid hk6
        have g1 := below_later hb56 f1
        have g2 := below_later hb56 f2
        have hz56 := hb56.size
        clear hb6 hk6 hb56
        refine hK.out _ _ (Or.inl (by kernel_rfl)) (fun _ => ?_)
        clear hK K
        try simp only [Act.put, List.setIfInBounds_toArray, List.set_cons_zero, List.set_cons_succ]
        refine wpG_one (i := 4) (o := { dst := some 22, op := Go.Op.call { callee := Go.Callee.value (Go.Operand.func 34), args := #[Go.Operand.tmp 19, Go.Operand.tmp 21], argTypes := #[59, 59] }, type := 60, pos := "l2_type.go:241", after := #[{ on := 1, ground := Go.Ground.data }, { on := 3, ground := Go.Ground.data }, { on := 3, ground := Go.Ground.chain }], guard := none }) rfl (by kernel_rfl) (fun K hK => ?_)
        go_simp
        have hsq : (w4.drew.alloc (.cells #[.int .i64 0, .string { data := #[] }, .int .i64 0, .bool false, .int .i64 0, .slice none 0 0] 59)).heap.size = w4.heap.size + 1 := by simp
        have hsq2 : (w4.alloc (.cells #[.int .i64 0, .string { data := #[] }, .int .i64 0, .bool false, .int .i64 0, .slice none 0 0] 59)).drew.heap.size = w4.heap.size + 1 := by show (w4.alloc (.cells #[.int .i64 0, .string { data := #[] }, .int .i64 0, .bool false, .int .i64 0, .slice none 0 0] 59)).heap.size = _; simp
        have hs5 : (w5.alloc (.cells #[.int .i64 0, .string { data := #[] }, .int .i64 0, .bool false, .int .i64 0, .slice none 0 0] 59)).heap.size = w5.heap.size + 1 := by simp
        have hs6 : (w6.alloc (.cells #[.int .i64 0, .string { data := #[] }, .int .i64 0, .bool false, .int .i64 0, .slice none 0 0] 59)).heap.size = w6.heap.size + 1 := by simp
        have hq5 := HQ5.out.size
        have k1 : KS (fun q => ¬ q = w4.heap.size) w6 (treeOf A 0) cs1 := (HK5.out.later HB56.out).keep (Kept.refl _ _) (fun q h _ => by omega)
        have k2 : KS (fun q => ¬ q = w4.heap.size) w6 (treeOf D 0) cs2 := HK6.out.keep (Kept.refl _ _) (fun q h _ => by omega)
        refine (spec_l2Meet _ (fun q => ¬ q = w4.heap.size) _ _ _ cs1 cs2 (Nat.le_refl _) k1 k2 HR.out.1 HR.out.2 (by omega) (by omega)).mono ?_
        rintro e w7 ⟨kk, nn, oo, mm, pp, sq, sn, sc, ok, rfl, hb7, hres⟩
        have hb67 : Below w6.heap.size w6 w7 := by first | exact hb7 | exact ((Below.refl w6.heap.size w6).alloc (Nat.le_refl _) (.cells #[.int .i64 0, .string { data := #[] }, .int .i64 0, .bool false, .int .i64 0, .slice none 0 0] 59)).trans (hb7.mono (by simp))
        have HB67 := Lib.hid hb67
        have HQ7 := Lib.hid hb7
        have HRES := Lib.hid hres
        clear hb7 hres hb67 k1 k2
        refine hK.out _ _ (Or.inl (by kernel_rfl)) (fun _ => ?_)
        clear hK K
        try simp only [Act.put, List.setIfInBounds_toArray, List.set_cons_zero, List.set_cons_succ]
        refine wpG_pure (i := 5) (oi := { dst := some 17, op := Go.Op.move (Go.Operand.tmp 22), type := 60, pos := "l2_type.go:241", after := #[{ on := 4, ground := Go.Ground.data }], guard := none }) (v := ?vg31) rfl (by kernel_rfl) (fun _ _ _ h => h) (Or.inl (by kernel_rfl)) (Or.inl ⟨by rfl, ?yg31⟩) ?_
        case yg31 => (intro wS _; go_simp <;> with_reducible rfl)
        try simp only [Act.put, List.setIfInBounds_toArray, List.set_cons_zero, List.set_cons_succ]
        refine wpG_pure (i := 6) (oi := { dst := some 23, op := Go.Op.extract (Go.Operand.tmp 17) 0, type := 59, pos := "l2_type.go:241", after := #[{ on := 5, ground := Go.Ground.data }], guard := none }) (v := ?vg32) rfl (by kernel_rfl) (fun _ _ _ h => h) (Or.inl (by kernel_rfl)) (Or.inl ⟨by rfl, ?yg32⟩) ?_
        case yg32 => (intro wS _; go_simp <;> with_reducible rfl)
        try simp only [Act.put, List.setIfInBounds_toArray, List.set_cons_zero, List.set_cons_succ]
        refine wpG_pure (i := 7) (oi := { dst := some 24, op := Go.Op.extract (Go.Operand.tmp 17) 1, type := 4, pos := "l2_type.go:241", after := #[{ on := 5, ground := Go.Ground.data }, { on := 9, ground := Go.Ground.gcOnly Go.Departure.lateStores }], guard := none }) (v := ?vg33) rfl (by kernel_rfl) (fun _ _ _ h => h) (Or.inl (by kernel_rfl)) (Or.inl ⟨by rfl, ?yg33⟩) ?_
        case yg33 => (intro wS _; go_simp <;> with_reducible rfl)
        try simp only [Act.put, List.setIfInBounds_toArray, List.set_cons_zero, List.set_cons_succ]
        refine wpG_one (i := 9) (o := { dst := none, op := Go.Op.store 59 (Go.Operand.tmp 6) (Go.Operand.tmp 23), type := 0, pos := "l2_type.go:241", after := #[{ on := 8, ground := Go.Ground.data }, { on := 6, ground := Go.Ground.data }, { on := 4, ground := Go.Ground.chain }, { on := 0, ground := Go.Ground.phase }, { on := 1, ground := Go.Ground.phase }, { on := 2, ground := Go.Ground.phase }, { on := 3, ground := Go.Ground.phase }, { on := 4, ground := Go.Ground.phase }, { on := 5, ground := Go.Ground.phase }, { on := 6, ground := Go.Ground.phase }, { on := 7, ground := Go.Ground.textOnly Go.Departure.lateStores }, { on := 8, ground := Go.Ground.phase }], guard := none }) rfl (by kernel_rfl) (fun K hK => ?_)
        have HX8 := Lib.hid (hp_later HB67.out (hp_later HB56.out (hp_later HQ5.out (show (w4.drew.alloc (.cells #[.int .i64 0, .string { data := #[] }, .int .i64 0, .bool false, .int .i64 0, .slice none 0 0] 59)).heap[w4.heap.size]? = _ from heap_alloc_new w4 _))))
        have hz7 := HB67.out.size
        have hq5 := HQ5.out.size
        have hq6 := HQ6.out.size
        have hq7 := HQ7.out.size
        have HBW := Lib.hid (HB45.out.trans ((HB56.out.trans (HB67.out.mono HB56.out.size)).mono HB45.out.size))
        have HXE := Lib.hid (set6_heap HX8.out (.int .i64 kk) (.string nn) (.int .i64 oo) (.bool mm) (.int .i64 pp) (.slice sq sn sc))
        have HBE := Lib.hid (below_set6 HBW.out (by omega) (X := w4.heap.size) (.int .i64 kk) (.string nn) (.int .i64 oo) (.bool mm) (.int .i64 pp) (.slice sq sn sc))
        have HKE : Hid ((meetT (treeOf A 0) (treeOf D 0) = none ∧ ok = false) ∨ (∃ t, meetT (treeOf A 0) (treeOf D 0) = some t ∧ ok = true ∧ KS (fun _ => True) (set6 w7 w4.heap.size (.int .i64 kk) (.string nn) (.int .i64 oo) (.bool mm) (.int .i64 pp) (.slice sq sn sc)) t [.int .i64 kk, .string nn, .int .i64 oo, .bool mm, .int .i64 pp, .slice sq sn sc])) := Lib.hid (by
          rcases HRES.out with h | ⟨t, e1, e2, hk⟩
          · exact .inl h
          · exact .inr ⟨t, e1, e2, ks_set6 hk (by
              intro h
              rcases h with h | h
              · exact h rfl
              · omega) (fun _ _ => trivial) _ _ _ _ _ _⟩)
        unfold set6 at HXE HBE HKE
        obtain ⟨sa0, -, -, -, -, -⟩ := box6 HX8.out
        have sf0 := box6_z HX8.out 0
        have HSA := Lib.hid (box6_t0 HX8.out (.int .i64 kk))
        generalize hsA : (w7).setCell ⟨w4.heap.size, 0, none⟩ (.int .i64 kk) = wsA at *
        obtain ⟨-, sa1, -, -, -, -⟩ := box6 HSA.out
        have sf1 := box6_z HSA.out 1
        have HSB := Lib.hid (box6_t1 HSA.out (.string nn))
        generalize hsB : wsA.setCell ⟨w4.heap.size, 1, none⟩ (.string nn) = wsB at *
        obtain ⟨-, -, sa2, -, -, -⟩ := box6 HSB.out
        have sf2 := box6_z HSB.out 2
        have HSC := Lib.hid (box6_t2 HSB.out (.int .i64 oo))
        generalize hsC : wsB.setCell ⟨w4.heap.size, 2, none⟩ (.int .i64 oo) = wsC at *
        obtain ⟨-, -, -, sa3, -, -⟩ := box6 HSC.out
        have sf3 := box6_z HSC.out 3
        have HSD := Lib.hid (box6_t3 HSC.out (.bool mm))
        generalize hsD : wsC.setCell ⟨w4.heap.size, 3, none⟩ (.bool mm) = wsD at *
        obtain ⟨-, -, -, -, sa4, -⟩ := box6 HSD.out
        have sf4 := box6_z HSD.out 4
        have HSE := Lib.hid (box6_t4 HSD.out (.int .i64 pp))
        generalize hsE : wsD.setCell ⟨w4.heap.size, 4, none⟩ (.int .i64 pp) = wsE at *
        obtain ⟨-, -, -, -, -, sa5⟩ := box6 HSE.out
        have sf5 := box6_z HSE.out 5
        have HSF := Lib.hid (box6_t5 HSE.out (.slice sq sn sc))
        generalize hsF : wsE.setCell ⟨w4.heap.size, 5, none⟩ (.slice sq sn sc) = wsF at *
        obtain ⟨sg0, sg1, sg2, sg3, sg4, sg5⟩ := box6 HSF.out
        go_simp
        refine hK.out _ _ (Or.inl (by kernel_rfl)) (fun _ => ?_)
        clear hK K
        try simp only [Act.put, List.setIfInBounds_toArray, List.set_cons_zero, List.set_cons_succ]
        refine wpG_pure (i := 10) (oi := { dst := some 7, op := Go.Op.assign (Go.Operand.tmp 24), type := 4, pos := "l2_type.go:241", after := #[{ on := 7, ground := Go.Ground.data }, { on := 9, ground := Go.Ground.chain }, { on := 0, ground := Go.Ground.phase }, { on := 1, ground := Go.Ground.phase }, { on := 2, ground := Go.Ground.phase }, { on := 3, ground := Go.Ground.phase }, { on := 4, ground := Go.Ground.phase }, { on := 5, ground := Go.Ground.phase }, { on := 6, ground := Go.Ground.phase }, { on := 7, ground := Go.Ground.phase }, { on := 8, ground := Go.Ground.phase }, { on := 9, ground := Go.Ground.phase }], guard := none }) (v := ?vg35) rfl (by kernel_rfl) (fun _ _ _ h => h) (Or.inl (by kernel_rfl)) (Or.inl ⟨by rfl, ?yg35⟩) ?_
        case yg35 => (intro wS _; go_simp <;> with_reducible rfl)
        try simp only [Act.put, List.setIfInBounds_toArray, List.set_cons_zero, List.set_cons_succ]
        refine wpG_done (by kernel_rfl) ?_
        go_wp2_with fail
        go_meet
        exact ⟨_, kk, nn, oo, mm, pp, sq, sn, sc, ok, rfl, rfl, HXE, HBE, HKE⟩
    case rest =>
      obtain ⟨X7, kk, nn, oo, mm, pp, sq, sn, sc, ok, rfl, rfl, HX7, HB7, HRES⟩ := hcut
      obtain ⟨w5, rfl⟩ : ∃ z : World, z = wc := ⟨_, rfl⟩
      have HB5 := Lib.hid (HB4.out.trans (HB7.out.mono HB4.out.size))
      have HX5 := Lib.hid (hp_later HB7.out HX4.out)
      obtain ⟨x0, x1, x2, x3, x4, x5⟩ := box6 HX7.out
      clear e1 e2 d1 d2 c1 c2
      cases ok with
      | false =>
        have HN : Hid (meetB A D = ([], false)) := Lib.hid (meetB_none HGA.out HGE.out (by
          rcases HRES.out with ⟨h, -⟩ | ⟨_, -, e, -⟩
          · exact h
          · cases e))
        have z0 : (w5).cell? ⟨w2.heap.size, 0, none⟩ = some (.slice none 0 0) := by simp [World.cell?, HX5.out]
        have zf : (w5).frozen? ⟨w2.heap.size, 0, none⟩ = false := by simp [World.frozen?, HX5.out]
        have zy : ((w5).setCell ⟨w2.heap.size, 0, none⟩ (.slice none 0 0)).cell? ⟨w2.heap.size, 0, none⟩ = some (.slice none 0 0) := by simp [World.setCell, Array.getElem?_modify, HX5.out, World.cell?]
        go_wp2_with fail
        refine bodyPost_ret (v := .tuple #[.agg #[.slice none 0 0], .bool false]) (by simp [results, Try.results7, go_sem, zy]) rfl ?_
        exact meetoo_no HN.out (below_set HB5.out (show w.heap.size ≤ w2.heap.size by omega) 0 _)
      | true =>
        obtain ⟨t, hyes, hkt⟩ : ∃ t, meetT (treeOf A 0) (treeOf D 0) = some t ∧ KS (fun _ => True) w5 t [.int .i64 kk, .string nn, .int .i64 oo, .bool mm, .int .i64 pp, .slice sq sn sc] := by
          rcases HRES.out with ⟨-, e⟩ | ⟨t, h, -, hk⟩
          · cases e
          · exact ⟨t, h, hk⟩
        have HN : Hid (meetB A D = (tellL t, goodT t)) := Lib.hid (meetB_some HGA.out HGE.out hyes)
        have hwf := meet_wf _ (Nat.le_refl _) (right_wf _ HR.out.1) (right_wf _ HR.out.2) hyes
        have hcn : countT t ≤ 1048576 := by
          have h1 : countT (treeOf A 0) * (1 + countT (treeOf D 0)) ≤ 30 * 31 := Nat.mul_le_mul n1 (by omega)
          omega
        have HSN := Lib.hid (spec_l2Tell hkt hcn hwf.1)
        have hz6 : w2.heap.size < w5.heap.size := hp_lt HX5.out
        unfold TellO at HSN
        clear hyes hkt hwf
        generalize hgt : goodT t = GT at *
        go_wp2_with fail
        refine HSN.out.mono ?_
        rintro e w7 ⟨v, rfl, ho, hb7⟩
        have HB8 := Lib.hid (HB5.out.trans (hb7.mono HB5.out.size))
        have HX8 := Lib.hid (hp_later hb7 HX5.out)
        have HO7 := Lib.hid (own_mono (ownsRow_setCell_below ho (a := ⟨w2.heap.size, 0, none⟩) hz6 v) (show w.heap.size ≤ w5.heap.size by omega))
        obtain ⟨va, vc, rfl⟩ := form_of_own ho
        clear hb7 ho
        have z0 : (w7).cell? ⟨w2.heap.size, 0, none⟩ = some (.slice none 0 0) := by simp [World.cell?, HX8.out]
        have zf : (w7).frozen? ⟨w2.heap.size, 0, none⟩ = false := by simp [World.frozen?, HX8.out]
        have zy : ((w7).setCell ⟨w2.heap.size, 0, none⟩ (.slice va (tellL t).length vc)).cell? ⟨w2.heap.size, 0, none⟩ = some (.slice va (tellL t).length vc) := by simp [World.setCell, Array.getElem?_modify, HX8.out, World.cell?]
        go_wp2_with fail
        refine bodyPost_ret (v := .tuple #[.agg #[.slice va (tellL t).length vc], .bool GT]) (by simp [results, Try.results7, go_sem, zy]) rfl ?_
        rw [← hgt]
        exact meetoo_yes (by rw [hgt]; exact HN.out) HO7.out (below_set HB8.out (show w.heap.size ≤ w2.heap.size by omega) 0 _)
end Go.Proofs.Ytmlnecopbncdbaa
