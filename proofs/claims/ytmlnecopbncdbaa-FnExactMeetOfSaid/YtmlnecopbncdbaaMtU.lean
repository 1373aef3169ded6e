/- What both of two types tell: the reference, at lists. -/
import Derived.Test.YtmlnecopbncdbaaMtT
namespace Go.Proofs.Ytmlnecopbncdbaa
set_option linter.unusedVariables false
set_option linter.unusedSimpArgs false
open Go.ChangeShapes Go.WideShapes Go.ChangeAt Go.RowKit
set_option maxRecDepth 100000

set_option maxHeartbeats 8000000 in
theorem meet_lst_t {S : Nat → Prop} {w : World} (nm nm' : ByteArray) (no no' : Int) (m' : Bool) (mo mo' : Int) (x y : Tr) (k k' : Int) (hk : k = 4) (hk' : k' = 4) (ks us : List Tr) (hks : ks = [x]) (hus : us = [y]) {va vb : Option Addr} {ca cb : Nat} {vsa vsb : List (List Value)} (hnm : nm.size ≤ maxLen) (hca : ks.length ≤ ca) (hcam : ca ≤ 9223372036854775807) (hcb : us.length ≤ cb) (hcbm : cb ≤ 9223372036854775807) (hra : RS S w va (List.flatten vsa)) (hka : KSs S w ks vsa) (hrb : RS S w vb (List.flatten vsb)) (hkb : KSs S w us vsb) (hge : ¬ mo' < mo)
    (IH : ∀ (S' : Nat → Prop) (wx : World) (px py : List Value), KS S' wx x px → KS S' wx y py → Calls Try.prog 34 #[.agg px.toArray, .agg py.toArray] wx (MeetV S' x y wx)) :
    Calls Try.prog 34 #[.agg #[.int .i64 k, .string nm, .int .i64 no, .bool true, .int .i64 mo, .slice va ks.length ca], .agg #[.int .i64 k', .string nm', .int .i64 no', .bool m', .int .i64 mo', .slice vb us.length cb]] w (MeetV S (.node k nm no true mo ks) (.node k' nm' no' m' mo' us) w) := by
  have HT := Lib.hid (meetT_lst (a := .node k nm no true mo ks) (b := .node k' nm' no' m' mo' us) (hk.trans hk'.symm) hk hks hus)
  have nk : (k != k') = false := by rw [hk, hk']; decide
  have n4 : (k == 4) = true := by rw [hk]; decide
  have hmin : min mo mo' = mo := by omega
  have HSH := Lib.hid (fun wx => spec_l2Shell k nm no true mo va ks.length ca wx)
  have HIH := Lib.hid IH
  have hxi : ks[0]? = some x := by rw [hks]; rfl
  have hyi : us[0]? = some y := by rw [hus]; rfl
  have HRA := Lib.hid hra; have HKA := Lib.hid hka; have HRB := Lib.hid hrb; have HKB := Lib.hid hkb
  have HMIN := Lib.hid hmin
  clear hk hk' hks hus IH hra hka hrb hkb hmin
  unfold MeetV
  have hB1 := Below.alloc (Below.refl w.heap.size w) (Nat.le_refl _) (.cells #[.int .i64 k, .string nm, .int .i64 no, .bool true, .int .i64 mo, .slice va ks.length ca] 59)
  have hX1 := heap_alloc_new w (.cells #[.int .i64 k, .string nm, .int .i64 no, .bool true, .int .i64 mo, .slice va ks.length ca] 59)
  generalize hw1 : w.alloc (.cells #[.int .i64 k, .string nm, .int .i64 no, .bool true, .int .i64 mo, .slice va ks.length ca] 59) = w1 at *
  have l1 := hp_lt hX1
  have hB2 := hB1.alloc (Nat.le_of_lt l1) (.cells #[.int .i64 k', .string nm', .int .i64 no', .bool m', .int .i64 mo', .slice vb us.length cb] 59)
  have hX1 := hp_alloc (.cells #[.int .i64 k', .string nm', .int .i64 no', .bool m', .int .i64 mo', .slice vb us.length cb] 59) hX1
  have hX2 := heap_alloc_new w1 (.cells #[.int .i64 k', .string nm', .int .i64 no', .bool m', .int .i64 mo', .slice vb us.length cb] 59)
  generalize hw2 : w1.alloc (.cells #[.int .i64 k', .string nm', .int .i64 no', .bool m', .int .i64 mo', .slice vb us.length cb] 59) = w2 at *
  have l2 := hp_lt hX2
  have hB3 := hB2.alloc (by omega) (.cells #[.int .i64 0, .string { data := #[] }, .int .i64 0, .bool false, .int .i64 0, .slice none 0 0] 59)
  have hX1 := hp_alloc (.cells #[.int .i64 0, .string { data := #[] }, .int .i64 0, .bool false, .int .i64 0, .slice none 0 0] 59) hX1
  have hX2 := hp_alloc (.cells #[.int .i64 0, .string { data := #[] }, .int .i64 0, .bool false, .int .i64 0, .slice none 0 0] 59) hX2
  have hX3 := heap_alloc_new w2 (.cells #[.int .i64 0, .string { data := #[] }, .int .i64 0, .bool false, .int .i64 0, .slice none 0 0] 59)
  generalize hw3 : w2.alloc (.cells #[.int .i64 0, .string { data := #[] }, .int .i64 0, .bool false, .int .i64 0, .slice none 0 0] 59) = w3 at *
  have l3 := hp_lt hX3
  have HB3 := Lib.hid hB3
  have HX1 := Lib.hid hX1
  have HX2 := Lib.hid hX2
  have HX3 := Lib.hid hX3
  obtain ⟨a0, a1, a2, a3, a4, a5⟩ := box6 hX1
  obtain ⟨b0, b1, b2, b3, b4, b5⟩ := box6 hX2
  clear hB1 hB2 hB3 hX1 hX2 hX3
  have HSH := Lib.hid (HSH.out w3)
  go_enter Try.func34, Try.ntmps34
  go_wp2_with fail
  refine HSH.out.mono ?_
  rintro e w4 ⟨rfl, hb4⟩
  have hz4 := hb4.size
  have hX6 := heap_alloc_new w4 (.cells #[.int .i64 k, .string nm, .int .i64 no, .bool true, .int .i64 mo, .slice none 0 0] 59)
  have hb5 := hb4.alloc hb4.size (.cells #[.int .i64 k, .string nm, .int .i64 no, .bool true, .int .i64 mo, .slice none 0 0] 59)
  generalize hw5 : w4.alloc (.cells #[.int .i64 k, .string nm, .int .i64 no, .bool true, .int .i64 mo, .slice none 0 0] 59) = w5z at *
  obtain ⟨-, -, -, -, -, oz5⟩ := box6 hX6
  have fz5 := box6_z hX6 5
  have hX6 := box6_t5 hX6 (.slice none 0 0)
  have hb5 := below_set hb5 hz4 5 (.slice none 0 0)
  generalize hw5b : w5z.setCell ⟨w4.heap.size, 5, none⟩ (.slice none 0 0) = w5 at *
  have l5 := hp_lt hX6
  have HX1 := Lib.hid (hp_later hb5 HX1.out)
  have HX2 := Lib.hid (hp_later hb5 HX2.out)
  have HX3 := Lib.hid (hp_later hb5 HX3.out)
  have HB5 := Lib.hid (HB3.out.trans (hb5.mono HB3.out.size))
  have f3 := box6_z hX6 3
  have f4 := box6_z (box6_t3 hX6 (.bool true)) 4
  clear hb4 hb5 a0 a1 a2 a3 a4 a5 b0 b1 b2 b3 b4 b5
  obtain ⟨o0, o1, o2, o3, o4, o5⟩ := box6 hX6
  obtain ⟨a0, a1, a2, a3, a4, a5⟩ := box6 HX1.out
  obtain ⟨b0, b1, b2, b3, b4, b5⟩ := box6 HX2.out
  have hX6 := box6_t3 hX6 (.bool true)
  have HX1 := Lib.hid (hp_set (Y := w4.heap.size) (i := 3) (u := .bool true) HX1.out (by omega))
  have HX2 := Lib.hid (hp_set (Y := w4.heap.size) (i := 3) (u := .bool true) HX2.out (by omega))
  have HX3 := Lib.hid (hp_set (Y := w4.heap.size) (i := 3) (u := .bool true) HX3.out (by omega))
  have HB6 := Lib.hid (below_set HB5.out (show w.heap.size ≤ w4.heap.size by omega) 3 (.bool true))
  generalize hw6 : w5.setCell ⟨w4.heap.size, 3, none⟩ (.bool true) = w6 at *
  have l6 := hp_lt hX6
  obtain ⟨p0, p1, p2, p3, p4, p5⟩ := box6 hX6
  obtain ⟨c0, c1, c2, c3, c4, c5⟩ := box6 HX1.out
  obtain ⟨d0, d1, d2, d3, d4, d5⟩ := box6 HX2.out
  obtain ⟨w7, rfl⟩ : ∃ z : World, z = w6 := ⟨_, rfl⟩
  have HX6 := Lib.hid hX6
  have HB7 := HB6
  have l7 := l6
  clear hX6
  obtain ⟨qb, offq, vx, cx, rfl, hqb, q0, q1, q2, q3, q4, q5, hkx, -⟩ := kss_at HRA.out HKA.out HB7.out hxi
  obtain ⟨rb, off, vy, cy, rfl, hrb, r0, r1, r2, r3, r4, r5, hky, -⟩ := kss_at HRB.out HKB.out HB7.out hyi
  rw [Nat.zero_mul, Nat.add_zero] at q0 q1 q2 q3 q4 q5 r0 r1 r2 r3 r4 r5
  have hlx : (0 : Int) < (ks.length : Int) := by have := (List.getElem?_eq_some_iff.1 hxi).1; omega
  have hly : (0 : Int) < (us.length : Int) := by have := (List.getElem?_eq_some_iff.1 hyi).1; omega
  have hlx0 : 0 < ks.length := by omega
  have hly0 : 0 < us.length := by omega
  have HCALL : Hid (∀ wx, Below w7.heap.size w7 wx → Calls Try.prog 34 #[.agg #[.int .i64 x.kind, .string x.name, .int .i64 x.no, .bool x.must, .int .i64 x.most, .slice vx x.kids.length cx], .agg #[.int .i64 y.kind, .string y.name, .int .i64 y.no, .bool y.must, .int .i64 y.most, .slice vy y.kids.length cy]] wx (MeetV (fun q => S q ∧ q < w.heap.size) x y wx)) := Lib.hid (fun wx hbx =>
    HIH.out _ wx _ _ (KS.keep (kept_below (HB7.out.trans (hbx.mono HB7.out.size))) (fun q h hl => ⟨h, hl⟩) _ _ hkx) (KS.keep (kept_below (HB7.out.trans (hbx.mono HB7.out.size))) (fun q h hl => ⟨h, hl⟩) _ _ hky))
  unfold MeetV at HCALL
  clear hkx hky HIH hxi hyi
  go_wp2_with fail
  have ZS : Hid ((w7.alloc (.cells #[.int .i64 0, .string { data := #[] }, .int .i64 0, .bool false, .int .i64 0, .slice none 0 0] 59)).heap.size = w7.heap.size + 1) := Lib.hid (by simp)
  go_cut [7, 8] (fun s7 s8 wx => ∃ (X7 : Nat) (kk : Int) (nn : ByteArray) (oo : Int) (mm : Bool) (pp : Int) (sa : Option Addr) (sn sc : Nat) (ok : Bool), s7 = .pointer (some ⟨X7, 0, none⟩) ∧ s8 = .bool ok ∧ Hid (wx.heap[X7]? = some (.cells #[.int .i64 kk, .string nn, .int .i64 oo, .bool mm, .int .i64 pp, .slice sa sn sc] 59)) ∧ Hid (Below w7.heap.size w7 wx) ∧ Hid ((meetT x y = none ∧ ok = false) ∨ (∃ t, meetT x y = some t ∧ ok = true ∧ KS (mrS S w.heap.size w4.heap.size w2.heap.size) wx t [.int .i64 kk, .string nn, .int .i64 oo, .bool mm, .int .i64 pp, .slice sa sn sc])))
  case first =>
    refine wp_region_G [8] (fun w' => w'.cell? ⟨w.heap.size, 5, none⟩ = some (.slice (some ⟨qb, offq, none⟩) ks.length ca) ∧ w'.cell? ⟨w1.heap.size, 5, none⟩ = some (.slice (some ⟨rb, off, none⟩) us.length cb) ∧ w'.cell? ⟨qb, offq, none⟩ = some (.int .i64 x.kind) ∧ w'.cell? ⟨qb, offq + 1, none⟩ = some (.string x.name) ∧ w'.cell? ⟨qb, offq + 2, none⟩ = some (.int .i64 x.no) ∧ w'.cell? ⟨qb, offq + 3, none⟩ = some (.bool x.must) ∧ w'.cell? ⟨qb, offq + 4, none⟩ = some (.int .i64 x.most) ∧ w'.cell? ⟨qb, offq + 5, none⟩ = some (.slice vx x.kids.length cx) ∧ w'.cell? ⟨rb, off, none⟩ = some (.int .i64 y.kind) ∧ w'.cell? ⟨rb, off + 1, none⟩ = some (.string y.name) ∧ w'.cell? ⟨rb, off + 2, none⟩ = some (.int .i64 y.no) ∧ w'.cell? ⟨rb, off + 3, none⟩ = some (.bool y.must) ∧ w'.cell? ⟨rb, off + 4, none⟩ = some (.int .i64 y.most) ∧ w'.cell? ⟨rb, off + 5, none⟩ = some (.slice vy y.kids.length cy)) (by kernel_rfl) ?_ (fun hHeld => ?_)
    · exact ⟨c5, d5, q0, q1, q2, q3, q4, q5, r0, r1, r2, r3, r4, r5⟩
    refine wpG_pure (i := 0) (oi := { dst := some 46, op := Go.Op.fieldAddr 59 (Go.Operand.tmp 2) 5, type := 0, pos := "l2_type.go:213", after := #[], guard := none }) (v := ?vg1) rfl (by kernel_rfl) (fun _ _ _ h => h) (Or.inr hHeld) (Or.inl ⟨by rfl, ?yg1⟩) ?_
    case yg1 => (intro wS _; go_simp <;> with_reducible rfl)
    try simp only [Act.put, List.setIfInBounds_toArray, List.set_cons_zero, List.set_cons_succ]
    refine wpG_load (i := 1) (oi := { dst := some 47, op := Go.Op.load 57 (Go.Operand.tmp 46), type := 57, pos := "l2_type.go:213", after := #[{ on := 0, ground := Go.Ground.data }], guard := none }) (v := ?vg2) [[8, 3, 2, 1]] rfl (by kernel_rfl) (fun _ _ _ h => h) hHeld (Or.inl ⟨by rfl, ?yg2⟩) ?_
    case yg2 => (intro wS hSw; (try dsimp only at hSw); go_simp <;> with_reducible rfl)
    try simp only [Act.put, List.setIfInBounds_toArray, List.set_cons_zero, List.set_cons_succ]
    refine wpG_pure (i := 2) (oi := { dst := some 48, op := Go.Op.indexAddr 57 (Go.Operand.tmp 47) (Go.Operand.const (Go.Value.int Go.IntKind.i64 0)), type := 0, pos := "l2_type.go:213", after := #[{ on := 1, ground := Go.Ground.data }], guard := none }) (v := ?vg3) rfl (by kernel_rfl) (fun _ _ _ h => h) (Or.inr hHeld) (Or.inl ⟨by rfl, ?yg3⟩) ?_
    case yg3 => (intro wS _; go_simp <;> with_reducible rfl)
    try simp only [Act.put, List.setIfInBounds_toArray, List.set_cons_zero, List.set_cons_succ]
    refine wpG_load (i := 3) (oi := { dst := some 49, op := Go.Op.load 59 (Go.Operand.tmp 48), type := 59, pos := "l2_type.go:213", after := #[{ on := 2, ground := Go.Ground.data }], guard := none }) (v := ?vg4) [[8, 3]] rfl (by kernel_rfl) (fun _ _ _ h => h) hHeld (Or.inl ⟨by rfl, ?yg4⟩) ?_
    case yg4 => (intro wS hSw; (try dsimp only at hSw); go_simp <;> with_reducible rfl)
    try simp only [Act.put, List.setIfInBounds_toArray, List.set_cons_zero, List.set_cons_succ]
    refine wpG_pure (i := 4) (oi := { dst := some 50, op := Go.Op.fieldAddr 59 (Go.Operand.tmp 3) 5, type := 0, pos := "l2_type.go:213", after := #[], guard := none }) (v := ?vg5) rfl (by kernel_rfl) (fun _ _ _ h => h) (Or.inr hHeld) (Or.inl ⟨by rfl, ?yg5⟩) ?_
    case yg5 => (intro wS _; go_simp <;> with_reducible rfl)
    try simp only [Act.put, List.setIfInBounds_toArray, List.set_cons_zero, List.set_cons_succ]
    refine wpG_load (i := 5) (oi := { dst := some 51, op := Go.Op.load 57 (Go.Operand.tmp 50), type := 57, pos := "l2_type.go:213", after := #[{ on := 4, ground := Go.Ground.data }], guard := none }) (v := ?vg6) [[8, 7, 6, 5]] rfl (by kernel_rfl) (fun _ _ _ h => h) hHeld (Or.inl ⟨by rfl, ?yg6⟩) ?_
    case yg6 => (intro wS hSw; (try dsimp only at hSw); go_simp <;> with_reducible rfl)
    try simp only [Act.put, List.setIfInBounds_toArray, List.set_cons_zero, List.set_cons_succ]
    refine wpG_pure (i := 6) (oi := { dst := some 52, op := Go.Op.indexAddr 57 (Go.Operand.tmp 51) (Go.Operand.const (Go.Value.int Go.IntKind.i64 0)), type := 0, pos := "l2_type.go:213", after := #[{ on := 5, ground := Go.Ground.data }], guard := none }) (v := ?vg7) rfl (by kernel_rfl) (fun _ _ _ h => h) (Or.inr hHeld) (Or.inl ⟨by rfl, ?yg7⟩) ?_
    case yg7 => (intro wS _; go_simp <;> with_reducible rfl)
    try simp only [Act.put, List.setIfInBounds_toArray, List.set_cons_zero, List.set_cons_succ]
    refine wpG_load (i := 7) (oi := { dst := some 53, op := Go.Op.load 59 (Go.Operand.tmp 52), type := 59, pos := "l2_type.go:213", after := #[{ on := 6, ground := Go.Ground.data }], guard := none }) (v := ?vg8) [[8, 7]] rfl (by kernel_rfl) (fun _ _ _ h => h) hHeld (Or.inl ⟨by rfl, ?yg8⟩) ?_
    case yg8 => (intro wS hSw; (try dsimp only at hSw); go_simp <;> with_reducible rfl)
    try simp only [Act.put, List.setIfInBounds_toArray, List.set_cons_zero, List.set_cons_succ]
    refine wpG_two (i := 8) (j := 12) (o := { dst := some 54, op := Go.Op.call { callee := Go.Callee.value (Go.Operand.func 34), args := #[Go.Operand.tmp 49, Go.Operand.tmp 53], argTypes := #[59, 59] }, type := 60, pos := "l2_type.go:213", after := #[{ on := 3, ground := Go.Ground.data }, { on := 7, ground := Go.Ground.data }], guard := none }) (o' := { dst := some 7, op := Go.Op.alloc 59, type := 0, pos := "l2_type.go:213", after := #[], guard := none }) rfl rfl (by kernel_rfl) (fun K hK => ?_) (fun K hK => ?_)
    · skip
      go_simp
      refine (HCALL.out _ (Below.refl w7.heap.size w7).drew).mono ?_
      rintro e w8 ⟨kk, nn, oo, mm, pp, sa, sn, sc, ok, rfl, hb8, hres⟩
      have hb7 : Below w7.heap.size w7 w7.drew := (Below.refl w7.heap.size w7).drew
      have HB8 := Lib.hid (hb7.trans (hb8.mono hb7.size))
      have HRES := Lib.hid hres
      clear hb7 hb8 hres
      refine hK.out _ _ (Or.inl (by kernel_rfl)) (fun _ => ?_)
      clear hK K
      try simp only [Act.put, List.setIfInBounds_toArray, List.set_cons_zero, List.set_cons_succ]
      refine wpG_pure (i := 9) (oi := { dst := some 45, op := Go.Op.move (Go.Operand.tmp 54), type := 60, pos := "l2_type.go:213", after := #[{ on := 8, ground := Go.Ground.data }], guard := none }) (v := ?vg10) rfl (by kernel_rfl) (fun _ _ _ h => h) (Or.inl (by kernel_rfl)) (Or.inl ⟨by rfl, ?yg10⟩) ?_
      case yg10 => (intro wS _; go_simp <;> with_reducible rfl)
      try simp only [Act.put, List.setIfInBounds_toArray, List.set_cons_zero, List.set_cons_succ]
      refine wpG_pure (i := 10) (oi := { dst := some 55, op := Go.Op.extract (Go.Operand.tmp 45) 0, type := 59, pos := "l2_type.go:213", after := #[{ on := 9, ground := Go.Ground.data }], guard := none }) (v := ?vg11) rfl (by kernel_rfl) (fun _ _ _ h => h) (Or.inl (by kernel_rfl)) (Or.inl ⟨by rfl, ?yg11⟩) ?_
      case yg11 => (intro wS _; go_simp <;> with_reducible rfl)
      try simp only [Act.put, List.setIfInBounds_toArray, List.set_cons_zero, List.set_cons_succ]
      refine wpG_pure (i := 11) (oi := { dst := some 56, op := Go.Op.extract (Go.Operand.tmp 45) 1, type := 4, pos := "l2_type.go:213", after := #[{ on := 9, ground := Go.Ground.data }, { on := 13, ground := Go.Ground.gcOnly Go.Departure.lateStores }], guard := none }) (v := ?vg12) rfl (by kernel_rfl) (fun _ _ _ h => h) (Or.inl (by kernel_rfl)) (Or.inl ⟨by rfl, ?yg12⟩) ?_
      case yg12 => (intro wS _; go_simp <;> with_reducible rfl)
      try simp only [Act.put, List.setIfInBounds_toArray, List.set_cons_zero, List.set_cons_succ]
      refine wpG_one (i := 12) (o := { dst := some 7, op := Go.Op.alloc 59, type := 0, pos := "l2_type.go:213", after := #[], guard := none }) rfl (by kernel_rfl) (fun K hK => ?_)
      go_simp
      have HX8 := Lib.hid (heap_alloc_new w8 (.cells #[.int .i64 0, .string { data := #[] }, .int .i64 0, .bool false, .int .i64 0, .slice none 0 0] 59))
      have hb80 := HB8.out.size
      have HB8 := Lib.hid (HB8.out.alloc HB8.out.size (.cells #[.int .i64 0, .string { data := #[] }, .int .i64 0, .bool false, .int .i64 0, .slice none 0 0] 59))
      have hb70 := HB7.out.size
      have hsz : w7.drew.heap.size = w7.heap.size := rfl
      refine hK.out _ _ (Or.inl (by kernel_rfl)) (fun _ => ?_)
      clear hK K
      try simp only [Act.put, List.setIfInBounds_toArray, List.set_cons_zero, List.set_cons_succ]
      refine wpG_one (i := 13) (o := { dst := none, op := Go.Op.store 59 (Go.Operand.tmp 7) (Go.Operand.tmp 55), type := 0, pos := "l2_type.go:213", after := #[{ on := 12, ground := Go.Ground.data }, { on := 10, ground := Go.Ground.data }, { on := 8, ground := Go.Ground.chain }, { on := 0, ground := Go.Ground.phase }, { on := 1, ground := Go.Ground.phase }, { on := 2, ground := Go.Ground.phase }, { on := 3, ground := Go.Ground.phase }, { on := 4, ground := Go.Ground.phase }, { on := 5, ground := Go.Ground.phase }, { on := 6, ground := Go.Ground.phase }, { on := 7, ground := Go.Ground.phase }, { on := 8, ground := Go.Ground.phase }, { on := 9, ground := Go.Ground.phase }, { on := 10, ground := Go.Ground.phase }, { on := 11, ground := Go.Ground.textOnly Go.Departure.lateStores }, { on := 12, ground := Go.Ground.phase }], guard := none }) rfl (by kernel_rfl) (fun K hK => ?_)
      have HXE := Lib.hid (set6_heap HX8.out (.int .i64 kk) (.string nn) (.int .i64 oo) (.bool mm) (.int .i64 pp) (.slice sa sn sc))
      have HBE := Lib.hid (below_set6 HB8.out hb80 (.int .i64 kk) (.string nn) (.int .i64 oo) (.bool mm) (.int .i64 pp) (.slice sa sn sc))
      have HKE : Hid ((meetT x y = none ∧ ok = false) ∨ (∃ t, meetT x y = some t ∧ ok = true ∧ KS (mrS S w.heap.size w4.heap.size w2.heap.size) (set6 (w8.alloc (.cells #[.int .i64 0, .string { data := #[] }, .int .i64 0, .bool false, .int .i64 0, .slice none 0 0] 59)) w8.heap.size (.int .i64 kk) (.string nn) (.int .i64 oo) (.bool mm) (.int .i64 pp) (.slice sa sn sc)) t [.int .i64 kk, .string nn, .int .i64 oo, .bool mm, .int .i64 pp, .slice sa sn sc])) := Lib.hid (by
        rcases HRES.out with h | ⟨t, e1, e2, hk⟩
        · exact .inl h
        · refine .inr ⟨t, e1, e2, ks_new6 hk _ ?_ _ _ _ _ _ _⟩
          rintro q (⟨h1, h2⟩ | h1)
          · exact .inl ⟨h1, h2⟩
          · refine .inr ⟨?_, ?_, ?_⟩ <;> omega)
      unfold set6 at HXE HBE HKE
      obtain ⟨sa0, -, -, -, -, -⟩ := box6 HX8.out
      have sf0 := box6_z HX8.out 0
      have HSA := Lib.hid (box6_t0 HX8.out (.int .i64 kk))
      generalize hsA : ((w8.alloc (.cells #[.int .i64 0, .string { data := #[] }, .int .i64 0, .bool false, .int .i64 0, .slice none 0 0] 59))).setCell ⟨w8.heap.size, 0, none⟩ (.int .i64 kk) = wsA at *
      obtain ⟨-, sa1, -, -, -, -⟩ := box6 HSA.out
      have sf1 := box6_z HSA.out 1
      have HSB := Lib.hid (box6_t1 HSA.out (.string nn))
      generalize hsB : wsA.setCell ⟨w8.heap.size, 1, none⟩ (.string nn) = wsB at *
      obtain ⟨-, -, sa2, -, -, -⟩ := box6 HSB.out
      have sf2 := box6_z HSB.out 2
      have HSC := Lib.hid (box6_t2 HSB.out (.int .i64 oo))
      generalize hsC : wsB.setCell ⟨w8.heap.size, 2, none⟩ (.int .i64 oo) = wsC at *
      obtain ⟨-, -, -, sa3, -, -⟩ := box6 HSC.out
      have sf3 := box6_z HSC.out 3
      have HSD := Lib.hid (box6_t3 HSC.out (.bool mm))
      generalize hsD : wsC.setCell ⟨w8.heap.size, 3, none⟩ (.bool mm) = wsD at *
      obtain ⟨-, -, -, -, sa4, -⟩ := box6 HSD.out
      have sf4 := box6_z HSD.out 4
      have HSE := Lib.hid (box6_t4 HSD.out (.int .i64 pp))
      generalize hsE : wsD.setCell ⟨w8.heap.size, 4, none⟩ (.int .i64 pp) = wsE at *
      obtain ⟨-, -, -, -, -, sa5⟩ := box6 HSE.out
      have sf5 := box6_z HSE.out 5
      have HSF := Lib.hid (box6_t5 HSE.out (.slice sa sn sc))
      generalize hsF : wsE.setCell ⟨w8.heap.size, 5, none⟩ (.slice sa sn sc) = wsF at *
      obtain ⟨sg0, sg1, sg2, sg3, sg4, sg5⟩ := box6 HSF.out
      go_simp
      refine hK.out _ _ (Or.inl (by kernel_rfl)) (fun _ => ?_)
      clear hK K
      try simp only [Act.put, List.setIfInBounds_toArray, List.set_cons_zero, List.set_cons_succ]
      refine wpG_pure (i := 14) (oi := { dst := some 8, op := Go.Op.assign (Go.Operand.tmp 56), type := 4, pos := "l2_type.go:213", after := #[{ on := 11, ground := Go.Ground.data }, { on := 13, ground := Go.Ground.chain }, { on := 0, ground := Go.Ground.phase }, { on := 1, ground := Go.Ground.phase }, { on := 2, ground := Go.Ground.phase }, { on := 3, ground := Go.Ground.phase }, { on := 4, ground := Go.Ground.phase }, { on := 5, ground := Go.Ground.phase }, { on := 6, ground := Go.Ground.phase }, { on := 7, ground := Go.Ground.phase }, { on := 8, ground := Go.Ground.phase }, { on := 9, ground := Go.Ground.phase }, { on := 10, ground := Go.Ground.phase }, { on := 11, ground := Go.Ground.phase }, { on := 12, ground := Go.Ground.phase }, { on := 13, ground := Go.Ground.phase }], guard := none }) (v := ?vg15) rfl (by kernel_rfl) (fun _ _ _ h => h) (Or.inl (by kernel_rfl)) (Or.inl ⟨by rfl, ?yg15⟩) ?_
      case yg15 => (intro wS _; go_simp <;> with_reducible rfl)
      try simp only [Act.put, List.setIfInBounds_toArray, List.set_cons_zero, List.set_cons_succ]
      refine wpG_done (by kernel_rfl) ?_
      go_wp2_with fail
      go_meet
      exact ⟨_, kk, nn, oo, mm, pp, sa, sn, sc, ok, rfl, rfl, HXE, HBE, HKE⟩
    · skip
      go_simp
      refine hK.out _ _ (Or.inr ?khHeld16) (fun hHeld16S => ?_)
      case khHeld16 => exact ⟨cell_alloc _ c5, cell_alloc _ d5, cell_alloc _ q0, cell_alloc _ q1, cell_alloc _ q2, cell_alloc _ q3, cell_alloc _ q4, cell_alloc _ q5, cell_alloc _ r0, cell_alloc _ r1, cell_alloc _ r2, cell_alloc _ r3, cell_alloc _ r4, cell_alloc _ r5⟩
      have hHeld16 := hHeld16S.held (by kernel_rfl)
      clear hK K
      try simp only [Act.put, List.setIfInBounds_toArray, List.set_cons_zero, List.set_cons_succ]
      refine wpG_one (i := 8) (o := { dst := some 54, op := Go.Op.call { callee := Go.Callee.value (Go.Operand.func 34), args := #[Go.Operand.tmp 49, Go.Operand.tmp 53], argTypes := #[59, 59] }, type := 60, pos := "l2_type.go:213", after := #[{ on := 3, ground := Go.Ground.data }, { on := 7, ground := Go.Ground.data }], guard := none }) rfl (by kernel_rfl) (fun K hK => ?_)
      go_simp
      refine (HCALL.out _ (show Below w7.heap.size w7 (w7.drew.alloc (.cells #[.int .i64 0, .string { data := #[] }, .int .i64 0, .bool false, .int .i64 0, .slice none 0 0] 59)) from (Below.refl w7.heap.size w7).drew.alloc (Nat.le_refl _) _)).mono ?_
      rintro e w8 ⟨kk, nn, oo, mm, pp, sa, sn, sc, ok, rfl, hb8, hres⟩
      have hb7 : Below w7.heap.size w7 (w7.drew.alloc (.cells #[.int .i64 0, .string { data := #[] }, .int .i64 0, .bool false, .int .i64 0, .slice none 0 0] 59)) := (Below.refl w7.heap.size w7).drew.alloc (Nat.le_refl _) _
      have HX8 := Lib.hid (hp_later hb8 (show (w7.drew.alloc (.cells #[.int .i64 0, .string { data := #[] }, .int .i64 0, .bool false, .int .i64 0, .slice none 0 0] 59)).heap[w7.heap.size]? = _ from heap_alloc_new w7 _))
      have HB8 := Lib.hid (hb7.trans (hb8.mono hb7.size))
      have HRES := Lib.hid hres
      clear hb7 hb8 hres
      refine hK.out _ _ (Or.inl (by kernel_rfl)) (fun _ => ?_)
      clear hK K
      try simp only [Act.put, List.setIfInBounds_toArray, List.set_cons_zero, List.set_cons_succ]
      refine wpG_pure (i := 9) (oi := { dst := some 45, op := Go.Op.move (Go.Operand.tmp 54), type := 60, pos := "l2_type.go:213", after := #[{ on := 8, ground := Go.Ground.data }], guard := none }) (v := ?vg18) rfl (by kernel_rfl) (fun _ _ _ h => h) (Or.inl (by kernel_rfl)) (Or.inl ⟨by rfl, ?yg18⟩) ?_
      case yg18 => (intro wS _; go_simp <;> with_reducible rfl)
      try simp only [Act.put, List.setIfInBounds_toArray, List.set_cons_zero, List.set_cons_succ]
      refine wpG_pure (i := 10) (oi := { dst := some 55, op := Go.Op.extract (Go.Operand.tmp 45) 0, type := 59, pos := "l2_type.go:213", after := #[{ on := 9, ground := Go.Ground.data }], guard := none }) (v := ?vg19) rfl (by kernel_rfl) (fun _ _ _ h => h) (Or.inl (by kernel_rfl)) (Or.inl ⟨by rfl, ?yg19⟩) ?_
      case yg19 => (intro wS _; go_simp <;> with_reducible rfl)
      try simp only [Act.put, List.setIfInBounds_toArray, List.set_cons_zero, List.set_cons_succ]
      refine wpG_pure (i := 11) (oi := { dst := some 56, op := Go.Op.extract (Go.Operand.tmp 45) 1, type := 4, pos := "l2_type.go:213", after := #[{ on := 9, ground := Go.Ground.data }, { on := 13, ground := Go.Ground.gcOnly Go.Departure.lateStores }], guard := none }) (v := ?vg20) rfl (by kernel_rfl) (fun _ _ _ h => h) (Or.inl (by kernel_rfl)) (Or.inl ⟨by rfl, ?yg20⟩) ?_
      case yg20 => (intro wS _; go_simp <;> with_reducible rfl)
      try simp only [Act.put, List.setIfInBounds_toArray, List.set_cons_zero, List.set_cons_succ]
      refine wpG_one (i := 13) (o := { dst := none, op := Go.Op.store 59 (Go.Operand.tmp 7) (Go.Operand.tmp 55), type := 0, pos := "l2_type.go:213", after := #[{ on := 12, ground := Go.Ground.data }, { on := 10, ground := Go.Ground.data }, { on := 8, ground := Go.Ground.chain }, { on := 0, ground := Go.Ground.phase }, { on := 1, ground := Go.Ground.phase }, { on := 2, ground := Go.Ground.phase }, { on := 3, ground := Go.Ground.phase }, { on := 4, ground := Go.Ground.phase }, { on := 5, ground := Go.Ground.phase }, { on := 6, ground := Go.Ground.phase }, { on := 7, ground := Go.Ground.phase }, { on := 8, ground := Go.Ground.phase }, { on := 9, ground := Go.Ground.phase }, { on := 10, ground := Go.Ground.phase }, { on := 11, ground := Go.Ground.textOnly Go.Departure.lateStores }, { on := 12, ground := Go.Ground.phase }], guard := none }) rfl (by kernel_rfl) (fun K hK => ?_)
      have hsz : (w7.drew.alloc (.cells #[.int .i64 0, .string { data := #[] }, .int .i64 0, .bool false, .int .i64 0, .slice none 0 0] 59)).heap.size = w7.heap.size + 1 := by simp
      have hb70 := HB7.out.size
      have HXE := Lib.hid (set6_heap HX8.out (.int .i64 kk) (.string nn) (.int .i64 oo) (.bool mm) (.int .i64 pp) (.slice sa sn sc))
      have HBE := Lib.hid (below_set6 HB8.out (Nat.le_refl _) (.int .i64 kk) (.string nn) (.int .i64 oo) (.bool mm) (.int .i64 pp) (.slice sa sn sc))
      have HKE : Hid ((meetT x y = none ∧ ok = false) ∨ (∃ t, meetT x y = some t ∧ ok = true ∧ KS (mrS S w.heap.size w4.heap.size w2.heap.size) (set6 w8 w7.heap.size (.int .i64 kk) (.string nn) (.int .i64 oo) (.bool mm) (.int .i64 pp) (.slice sa sn sc)) t [.int .i64 kk, .string nn, .int .i64 oo, .bool mm, .int .i64 pp, .slice sa sn sc])) := Lib.hid (by
        rcases HRES.out with h | ⟨t, e1, e2, hk⟩
        · exact .inl h
        · refine .inr ⟨t, e1, e2, ks_set6 hk (by rintro (⟨_, h1⟩ | h1) <;> omega) ?_ _ _ _ _ _ _⟩
          rintro q (⟨h1, h2⟩ | h1)
          · exact .inl ⟨h1, h2⟩
          · refine .inr ⟨?_, ?_, ?_⟩ <;> omega)
      unfold set6 at HXE HBE HKE
      obtain ⟨sa0, -, -, -, -, -⟩ := box6 HX8.out
      have sf0 := box6_z HX8.out 0
      have HSA := Lib.hid (box6_t0 HX8.out (.int .i64 kk))
      generalize hsA : (w8).setCell ⟨w7.heap.size, 0, none⟩ (.int .i64 kk) = wsA at *
      obtain ⟨-, sa1, -, -, -, -⟩ := box6 HSA.out
      have sf1 := box6_z HSA.out 1
      have HSB := Lib.hid (box6_t1 HSA.out (.string nn))
      generalize hsB : wsA.setCell ⟨w7.heap.size, 1, none⟩ (.string nn) = wsB at *
      obtain ⟨-, -, sa2, -, -, -⟩ := box6 HSB.out
      have sf2 := box6_z HSB.out 2
      have HSC := Lib.hid (box6_t2 HSB.out (.int .i64 oo))
      generalize hsC : wsB.setCell ⟨w7.heap.size, 2, none⟩ (.int .i64 oo) = wsC at *
      obtain ⟨-, -, -, sa3, -, -⟩ := box6 HSC.out
      have sf3 := box6_z HSC.out 3
      have HSD := Lib.hid (box6_t3 HSC.out (.bool mm))
      generalize hsD : wsC.setCell ⟨w7.heap.size, 3, none⟩ (.bool mm) = wsD at *
      obtain ⟨-, -, -, -, sa4, -⟩ := box6 HSD.out
      have sf4 := box6_z HSD.out 4
      have HSE := Lib.hid (box6_t4 HSD.out (.int .i64 pp))
      generalize hsE : wsD.setCell ⟨w7.heap.size, 4, none⟩ (.int .i64 pp) = wsE at *
      obtain ⟨-, -, -, -, -, sa5⟩ := box6 HSE.out
      have sf5 := box6_z HSE.out 5
      have HSF := Lib.hid (box6_t5 HSE.out (.slice sa sn sc))
      generalize hsF : wsE.setCell ⟨w7.heap.size, 5, none⟩ (.slice sa sn sc) = wsF at *
      obtain ⟨sg0, sg1, sg2, sg3, sg4, sg5⟩ := box6 HSF.out
      go_simp
      refine hK.out _ _ (Or.inl (by kernel_rfl)) (fun _ => ?_)
      clear hK K
      try simp only [Act.put, List.setIfInBounds_toArray, List.set_cons_zero, List.set_cons_succ]
      refine wpG_pure (i := 14) (oi := { dst := some 8, op := Go.Op.assign (Go.Operand.tmp 56), type := 4, pos := "l2_type.go:213", after := #[{ on := 11, ground := Go.Ground.data }, { on := 13, ground := Go.Ground.chain }, { on := 0, ground := Go.Ground.phase }, { on := 1, ground := Go.Ground.phase }, { on := 2, ground := Go.Ground.phase }, { on := 3, ground := Go.Ground.phase }, { on := 4, ground := Go.Ground.phase }, { on := 5, ground := Go.Ground.phase }, { on := 6, ground := Go.Ground.phase }, { on := 7, ground := Go.Ground.phase }, { on := 8, ground := Go.Ground.phase }, { on := 9, ground := Go.Ground.phase }, { on := 10, ground := Go.Ground.phase }, { on := 11, ground := Go.Ground.phase }, { on := 12, ground := Go.Ground.phase }, { on := 13, ground := Go.Ground.phase }], guard := none }) (v := ?vg22) rfl (by kernel_rfl) (fun _ _ _ h => h) (Or.inl (by kernel_rfl)) (Or.inl ⟨by rfl, ?yg22⟩) ?_
      case yg22 => (intro wS _; go_simp <;> with_reducible rfl)
      try simp only [Act.put, List.setIfInBounds_toArray, List.set_cons_zero, List.set_cons_succ]
      refine wpG_done (by kernel_rfl) ?_
      go_wp2_with fail
      go_meet
      exact ⟨_, kk, nn, oo, mm, pp, sa, sn, sc, ok, rfl, rfl, HXE, HBE, HKE⟩
  case rest =>
    obtain ⟨X7, kk, nn, oo, mm, pp, sa, sn, sc, ok, rfl, rfl, HX7, HB8, HRES⟩ := hcut
    obtain ⟨w8, rfl⟩ : ∃ z : World, z = wc := ⟨_, rfl⟩
    have hb8 := HB8.out
    have hz8 := hb8.size
    have HX3 := Lib.hid (hp_later hb8 HX3.out)
    have HX6 := Lib.hid (hp_later hb8 HX6.out)
    have HBW := Lib.hid (HB7.out.trans (hb8.mono HB7.out.size))
    have hzw := HBW.out.size
    have HFIN : Hid ((meetT (.node k nm no true mo ks) (.node k' nm' no' m' mo' us) = none ∧ ok = false) ∨ (∃ t, meetT (.node k nm no true mo ks) (.node k' nm' no' m' mo' us) = some t ∧ ok = true ∧ KS (fun q => S q ∨ w.heap.size ≤ q) (set6 ((w8.alloc (.cells #[.int .i64 kk, .string nn, .int .i64 oo, .bool mm, .int .i64 pp, .slice sa sn sc] 59)).setCell ⟨w4.heap.size, 5, none⟩ (.slice (some ⟨w8.heap.size, 0, none⟩) 1 1)) w2.heap.size (.int .i64 k) (.string nm) (.int .i64 no) (.bool true) (.int .i64 mo) (.slice (some ⟨w8.heap.size, 0, none⟩) 1 1)) t [.int .i64 k, .string nm, .int .i64 no, .bool true, .int .i64 mo, (.slice (some ⟨w8.heap.size, 0, none⟩) 1 1)])) := Lib.hid (by
      rw [HT.out]
      rcases HRES.out with ⟨h, e⟩ | ⟨t, h, e, hk⟩
      · rw [h]; exact .inl ⟨rfl, e⟩
      · rw [h]
        refine .inr ⟨_, rfl, e, ?_⟩
        have := ks_one hk hzw (by omega) (by omega) (by omega) (by omega) k nm no true mo hnm 59
        simpa [Tr.kind, Tr.name, Tr.no, Tr.must, Tr.most, HMIN.out] using this)
    have HBF := Lib.hid (below_set6 (below_set (HBW.out.alloc hzw (.cells #[.int .i64 kk, .string nn, .int .i64 oo, .bool mm, .int .i64 pp, .slice sa sn sc] 59)) (show w.heap.size ≤ w4.heap.size by omega) 5 (.slice (some ⟨w8.heap.size, 0, none⟩) 1 1)) (show w.heap.size ≤ w2.heap.size by omega) (.int .i64 k) (.string nm) (.int .i64 no) (.bool true) (.int .i64 mo) (.slice (some ⟨w8.heap.size, 0, none⟩) 1 1))
    unfold set6 at HFIN HBF
    clear hb8 hlx hly hlx0 hly0 a0 a1 a2 a3 a4 a5 b0 b1 b2 b3 b4 b5 c0 c1 c2 c3 c4 c5 d0 d1 d2 d3 d4 d5 o0 o1 o2 o3 o4 o5 p0 p1 p2 p3 p4 p5 q0 q1 q2 q3 q4 q5 r0 r1 r2 r3 r4 r5 f3 f4 fz5 oz5
    obtain ⟨x0, x1, x2, x3, x4, x5⟩ := box6 HX7.out
    have hX3 := hp_alloc (.cells #[.int .i64 kk, .string nn, .int .i64 oo, .bool mm, .int .i64 pp, .slice sa sn sc] 59) HX3.out
    have hX6 := hp_alloc (.cells #[.int .i64 kk, .string nn, .int .i64 oo, .bool mm, .int .i64 pp, .slice sa sn sc] 59) HX6.out
    generalize hw9 : w8.alloc (.cells #[.int .i64 kk, .string nn, .int .i64 oo, .bool mm, .int .i64 pp, .slice sa sn sc] 59) = w9 at *
    obtain ⟨y0, y1, y2, y3, y4, y5⟩ := box6 hX6
    have g5 := box6_z hX6 5
    have hX6 := box6_t5 hX6 (.slice (some ⟨w8.heap.size, 0, none⟩) 1 1)
    have HX3 := Lib.hid (hp_set (Y := w4.heap.size) (i := 5) (u := (.slice (some ⟨w8.heap.size, 0, none⟩) 1 1)) hX3 (by omega))
    generalize hw10 : w9.setCell ⟨w4.heap.size, 5, none⟩ (.slice (some ⟨w8.heap.size, 0, none⟩) 1 1) = w10 at *
    obtain ⟨z0, z1, z2, z3, z4, z5⟩ := box6 hX6
    clear hX3 hX6
    obtain ⟨sa0, -, -, -, -, -⟩ := box6 HX3.out
    have sf0 := box6_z HX3.out 0
    have HSA := Lib.hid (box6_t0 HX3.out (.int .i64 k))
    generalize hsA : (w10).setCell ⟨w2.heap.size, 0, none⟩ (.int .i64 k) = wsA at *
    obtain ⟨-, sa1, -, -, -, -⟩ := box6 HSA.out
    have sf1 := box6_z HSA.out 1
    have HSB := Lib.hid (box6_t1 HSA.out (.string nm))
    generalize hsB : wsA.setCell ⟨w2.heap.size, 1, none⟩ (.string nm) = wsB at *
    obtain ⟨-, -, sa2, -, -, -⟩ := box6 HSB.out
    have sf2 := box6_z HSB.out 2
    have HSC := Lib.hid (box6_t2 HSB.out (.int .i64 no))
    generalize hsC : wsB.setCell ⟨w2.heap.size, 2, none⟩ (.int .i64 no) = wsC at *
    obtain ⟨-, -, -, sa3, -, -⟩ := box6 HSC.out
    have sf3 := box6_z HSC.out 3
    have HSD := Lib.hid (box6_t3 HSC.out (.bool true))
    generalize hsD : wsC.setCell ⟨w2.heap.size, 3, none⟩ (.bool true) = wsD at *
    obtain ⟨-, -, -, -, sa4, -⟩ := box6 HSD.out
    have sf4 := box6_z HSD.out 4
    have HSE := Lib.hid (box6_t4 HSD.out (.int .i64 mo))
    generalize hsE : wsD.setCell ⟨w2.heap.size, 4, none⟩ (.int .i64 mo) = wsE at *
    obtain ⟨-, -, -, -, -, sa5⟩ := box6 HSE.out
    have sf5 := box6_z HSE.out 5
    have HSF := Lib.hid (box6_t5 HSE.out (.slice (some ⟨w8.heap.size, 0, none⟩) 1 1))
    generalize hsF : wsE.setCell ⟨w2.heap.size, 5, none⟩ (.slice (some ⟨w8.heap.size, 0, none⟩) 1 1) = wsF at *
    obtain ⟨sg0, sg1, sg2, sg3, sg4, sg5⟩ := box6 HSF.out
    go_wp2_with fail
    refine bodyPost_ret (v := .tuple #[.agg #[.int .i64 k, .string nm, .int .i64 no, .bool true, .int .i64 mo, (.slice (some ⟨w8.heap.size, 0, none⟩) 1 1)], .bool ok]) (by simp [results, Try.results34, go_sem, sg0, sg1, sg2, sg3, sg4, sg5]) rfl ?_
    exact ⟨_, _, _, _, _, _, _, _, ok, rfl, HBF.out, HFIN.out⟩
set_option maxHeartbeats 8000000 in
theorem meet_lst_f {S : Nat → Prop} {w : World} (nm nm' : ByteArray) (no no' : Int) (m' : Bool) (mo mo' : Int) (x y : Tr) (k k' : Int) (hk : k = 4) (hk' : k' = 4) (ks us : List Tr) (hks : ks = [x]) (hus : us = [y]) {va vb : Option Addr} {ca cb : Nat} {vsa vsb : List (List Value)} (hnm : nm.size ≤ maxLen) (hca : ks.length ≤ ca) (hcam : ca ≤ 9223372036854775807) (hcb : us.length ≤ cb) (hcbm : cb ≤ 9223372036854775807) (hra : RS S w va (List.flatten vsa)) (hka : KSs S w ks vsa) (hrb : RS S w vb (List.flatten vsb)) (hkb : KSs S w us vsb) (hge : ¬ mo' < mo)
    (IH : ∀ (S' : Nat → Prop) (wx : World) (px py : List Value), KS S' wx x px → KS S' wx y py → Calls Try.prog 34 #[.agg px.toArray, .agg py.toArray] wx (MeetV S' x y wx)) :
    Calls Try.prog 34 #[.agg #[.int .i64 k, .string nm, .int .i64 no, .bool false, .int .i64 mo, .slice va ks.length ca], .agg #[.int .i64 k', .string nm', .int .i64 no', .bool m', .int .i64 mo', .slice vb us.length cb]] w (MeetV S (.node k nm no false mo ks) (.node k' nm' no' m' mo' us) w) := by
  have HT := Lib.hid (meetT_lst (a := .node k nm no false mo ks) (b := .node k' nm' no' m' mo' us) (hk.trans hk'.symm) hk hks hus)
  have nk : (k != k') = false := by rw [hk, hk']; decide
  have n4 : (k == 4) = true := by rw [hk]; decide
  have hmin : min mo mo' = mo := by omega
  have HSH := Lib.hid (fun wx => spec_l2Shell k nm no false mo va ks.length ca wx)
  have HIH := Lib.hid IH
  have hxi : ks[0]? = some x := by rw [hks]; rfl
  have hyi : us[0]? = some y := by rw [hus]; rfl
  have HRA := Lib.hid hra; have HKA := Lib.hid hka; have HRB := Lib.hid hrb; have HKB := Lib.hid hkb
  have HMIN := Lib.hid hmin
  clear hk hk' hks hus IH hra hka hrb hkb hmin
  unfold MeetV
  have hB1 := Below.alloc (Below.refl w.heap.size w) (Nat.le_refl _) (.cells #[.int .i64 k, .string nm, .int .i64 no, .bool false, .int .i64 mo, .slice va ks.length ca] 59)
  have hX1 := heap_alloc_new w (.cells #[.int .i64 k, .string nm, .int .i64 no, .bool false, .int .i64 mo, .slice va ks.length ca] 59)
  generalize hw1 : w.alloc (.cells #[.int .i64 k, .string nm, .int .i64 no, .bool false, .int .i64 mo, .slice va ks.length ca] 59) = w1 at *
  have l1 := hp_lt hX1
  have hB2 := hB1.alloc (Nat.le_of_lt l1) (.cells #[.int .i64 k', .string nm', .int .i64 no', .bool m', .int .i64 mo', .slice vb us.length cb] 59)
  have hX1 := hp_alloc (.cells #[.int .i64 k', .string nm', .int .i64 no', .bool m', .int .i64 mo', .slice vb us.length cb] 59) hX1
  have hX2 := heap_alloc_new w1 (.cells #[.int .i64 k', .string nm', .int .i64 no', .bool m', .int .i64 mo', .slice vb us.length cb] 59)
  generalize hw2 : w1.alloc (.cells #[.int .i64 k', .string nm', .int .i64 no', .bool m', .int .i64 mo', .slice vb us.length cb] 59) = w2 at *
  have l2 := hp_lt hX2
  have hB3 := hB2.alloc (by omega) (.cells #[.int .i64 0, .string { data := #[] }, .int .i64 0, .bool false, .int .i64 0, .slice none 0 0] 59)
  have hX1 := hp_alloc (.cells #[.int .i64 0, .string { data := #[] }, .int .i64 0, .bool false, .int .i64 0, .slice none 0 0] 59) hX1
  have hX2 := hp_alloc (.cells #[.int .i64 0, .string { data := #[] }, .int .i64 0, .bool false, .int .i64 0, .slice none 0 0] 59) hX2
  have hX3 := heap_alloc_new w2 (.cells #[.int .i64 0, .string { data := #[] }, .int .i64 0, .bool false, .int .i64 0, .slice none 0 0] 59)
  generalize hw3 : w2.alloc (.cells #[.int .i64 0, .string { data := #[] }, .int .i64 0, .bool false, .int .i64 0, .slice none 0 0] 59) = w3 at *
  have l3 := hp_lt hX3
  have HB3 := Lib.hid hB3
  have HX1 := Lib.hid hX1
  have HX2 := Lib.hid hX2
  have HX3 := Lib.hid hX3
  obtain ⟨a0, a1, a2, a3, a4, a5⟩ := box6 hX1
  obtain ⟨b0, b1, b2, b3, b4, b5⟩ := box6 hX2
  clear hB1 hB2 hB3 hX1 hX2 hX3
  have HSH := Lib.hid (HSH.out w3)
  go_enter Try.func34, Try.ntmps34
  go_wp2_with fail
  refine HSH.out.mono ?_
  rintro e w4 ⟨rfl, hb4⟩
  have hz4 := hb4.size
  have hX6 := heap_alloc_new w4 (.cells #[.int .i64 k, .string nm, .int .i64 no, .bool false, .int .i64 mo, .slice none 0 0] 59)
  have hb5 := hb4.alloc hb4.size (.cells #[.int .i64 k, .string nm, .int .i64 no, .bool false, .int .i64 mo, .slice none 0 0] 59)
  generalize hw5 : w4.alloc (.cells #[.int .i64 k, .string nm, .int .i64 no, .bool false, .int .i64 mo, .slice none 0 0] 59) = w5z at *
  obtain ⟨-, -, -, -, -, oz5⟩ := box6 hX6
  have fz5 := box6_z hX6 5
  have hX6 := box6_t5 hX6 (.slice none 0 0)
  have hb5 := below_set hb5 hz4 5 (.slice none 0 0)
  generalize hw5b : w5z.setCell ⟨w4.heap.size, 5, none⟩ (.slice none 0 0) = w5 at *
  have l5 := hp_lt hX6
  have HX1 := Lib.hid (hp_later hb5 HX1.out)
  have HX2 := Lib.hid (hp_later hb5 HX2.out)
  have HX3 := Lib.hid (hp_later hb5 HX3.out)
  have HB5 := Lib.hid (HB3.out.trans (hb5.mono HB3.out.size))
  have f3 := box6_z hX6 3
  have f4 := box6_z (box6_t3 hX6 (.bool m')) 4
  clear hb4 hb5 a0 a1 a2 a3 a4 a5 b0 b1 b2 b3 b4 b5
  obtain ⟨o0, o1, o2, o3, o4, o5⟩ := box6 hX6
  obtain ⟨a0, a1, a2, a3, a4, a5⟩ := box6 HX1.out
  obtain ⟨b0, b1, b2, b3, b4, b5⟩ := box6 HX2.out
  have hX6 := box6_t3 hX6 (.bool m')
  have HX1 := Lib.hid (hp_set (Y := w4.heap.size) (i := 3) (u := .bool m') HX1.out (by omega))
  have HX2 := Lib.hid (hp_set (Y := w4.heap.size) (i := 3) (u := .bool m') HX2.out (by omega))
  have HX3 := Lib.hid (hp_set (Y := w4.heap.size) (i := 3) (u := .bool m') HX3.out (by omega))
  have HB6 := Lib.hid (below_set HB5.out (show w.heap.size ≤ w4.heap.size by omega) 3 (.bool m'))
  generalize hw6 : w5.setCell ⟨w4.heap.size, 3, none⟩ (.bool m') = w6 at *
  have l6 := hp_lt hX6
  obtain ⟨p0, p1, p2, p3, p4, p5⟩ := box6 hX6
  obtain ⟨c0, c1, c2, c3, c4, c5⟩ := box6 HX1.out
  obtain ⟨d0, d1, d2, d3, d4, d5⟩ := box6 HX2.out
  obtain ⟨w7, rfl⟩ : ∃ z : World, z = w6 := ⟨_, rfl⟩
  have HX6 := Lib.hid hX6
  have HB7 := HB6
  have l7 := l6
  clear hX6
  obtain ⟨qb, offq, vx, cx, rfl, hqb, q0, q1, q2, q3, q4, q5, hkx, -⟩ := kss_at HRA.out HKA.out HB7.out hxi
  obtain ⟨rb, off, vy, cy, rfl, hrb, r0, r1, r2, r3, r4, r5, hky, -⟩ := kss_at HRB.out HKB.out HB7.out hyi
  rw [Nat.zero_mul, Nat.add_zero] at q0 q1 q2 q3 q4 q5 r0 r1 r2 r3 r4 r5
  have hlx : (0 : Int) < (ks.length : Int) := by have := (List.getElem?_eq_some_iff.1 hxi).1; omega
  have hly : (0 : Int) < (us.length : Int) := by have := (List.getElem?_eq_some_iff.1 hyi).1; omega
  have hlx0 : 0 < ks.length := by omega
  have hly0 : 0 < us.length := by omega
  have HCALL : Hid (∀ wx, Below w7.heap.size w7 wx → Calls Try.prog 34 #[.agg #[.int .i64 x.kind, .string x.name, .int .i64 x.no, .bool x.must, .int .i64 x.most, .slice vx x.kids.length cx], .agg #[.int .i64 y.kind, .string y.name, .int .i64 y.no, .bool y.must, .int .i64 y.most, .slice vy y.kids.length cy]] wx (MeetV (fun q => S q ∧ q < w.heap.size) x y wx)) := Lib.hid (fun wx hbx =>
    HIH.out _ wx _ _ (KS.keep (kept_below (HB7.out.trans (hbx.mono HB7.out.size))) (fun q h hl => ⟨h, hl⟩) _ _ hkx) (KS.keep (kept_below (HB7.out.trans (hbx.mono HB7.out.size))) (fun q h hl => ⟨h, hl⟩) _ _ hky))
  unfold MeetV at HCALL
  clear hkx hky HIH hxi hyi
  go_wp2_with fail
  have ZS : Hid ((w7.alloc (.cells #[.int .i64 0, .string { data := #[] }, .int .i64 0, .bool false, .int .i64 0, .slice none 0 0] 59)).heap.size = w7.heap.size + 1) := Lib.hid (by simp)
  go_cut [7, 8] (fun s7 s8 wx => ∃ (X7 : Nat) (kk : Int) (nn : ByteArray) (oo : Int) (mm : Bool) (pp : Int) (sa : Option Addr) (sn sc : Nat) (ok : Bool), s7 = .pointer (some ⟨X7, 0, none⟩) ∧ s8 = .bool ok ∧ Hid (wx.heap[X7]? = some (.cells #[.int .i64 kk, .string nn, .int .i64 oo, .bool mm, .int .i64 pp, .slice sa sn sc] 59)) ∧ Hid (Below w7.heap.size w7 wx) ∧ Hid ((meetT x y = none ∧ ok = false) ∨ (∃ t, meetT x y = some t ∧ ok = true ∧ KS (mrS S w.heap.size w4.heap.size w2.heap.size) wx t [.int .i64 kk, .string nn, .int .i64 oo, .bool mm, .int .i64 pp, .slice sa sn sc])))
  case first =>
    refine wp_region_G [8] (fun w' => w'.cell? ⟨w.heap.size, 5, none⟩ = some (.slice (some ⟨qb, offq, none⟩) ks.length ca) ∧ w'.cell? ⟨w1.heap.size, 5, none⟩ = some (.slice (some ⟨rb, off, none⟩) us.length cb) ∧ w'.cell? ⟨qb, offq, none⟩ = some (.int .i64 x.kind) ∧ w'.cell? ⟨qb, offq + 1, none⟩ = some (.string x.name) ∧ w'.cell? ⟨qb, offq + 2, none⟩ = some (.int .i64 x.no) ∧ w'.cell? ⟨qb, offq + 3, none⟩ = some (.bool x.must) ∧ w'.cell? ⟨qb, offq + 4, none⟩ = some (.int .i64 x.most) ∧ w'.cell? ⟨qb, offq + 5, none⟩ = some (.slice vx x.kids.length cx) ∧ w'.cell? ⟨rb, off, none⟩ = some (.int .i64 y.kind) ∧ w'.cell? ⟨rb, off + 1, none⟩ = some (.string y.name) ∧ w'.cell? ⟨rb, off + 2, none⟩ = some (.int .i64 y.no) ∧ w'.cell? ⟨rb, off + 3, none⟩ = some (.bool y.must) ∧ w'.cell? ⟨rb, off + 4, none⟩ = some (.int .i64 y.most) ∧ w'.cell? ⟨rb, off + 5, none⟩ = some (.slice vy y.kids.length cy)) (by kernel_rfl) ?_ (fun hHeld => ?_)
    · exact ⟨c5, d5, q0, q1, q2, q3, q4, q5, r0, r1, r2, r3, r4, r5⟩
    refine wpG_pure (i := 0) (oi := { dst := some 46, op := Go.Op.fieldAddr 59 (Go.Operand.tmp 2) 5, type := 0, pos := "l2_type.go:213", after := #[], guard := none }) (v := ?vg23) rfl (by kernel_rfl) (fun _ _ _ h => h) (Or.inr hHeld) (Or.inl ⟨by rfl, ?yg23⟩) ?_
    case yg23 => (intro wS _; go_simp <;> with_reducible rfl)
    try simp only [Act.put, List.setIfInBounds_toArray, List.set_cons_zero, List.set_cons_succ]
    refine wpG_load (i := 1) (oi := { dst := some 47, op := Go.Op.load 57 (Go.Operand.tmp 46), type := 57, pos := "l2_type.go:213", after := #[{ on := 0, ground := Go.Ground.data }], guard := none }) (v := ?vg24) [[8, 3, 2, 1]] rfl (by kernel_rfl) (fun _ _ _ h => h) hHeld (Or.inl ⟨by rfl, ?yg24⟩) ?_
    case yg24 => (intro wS hSw; (try dsimp only at hSw); go_simp <;> with_reducible rfl)
    try simp only [Act.put, List.setIfInBounds_toArray, List.set_cons_zero, List.set_cons_succ]
    refine wpG_pure (i := 2) (oi := { dst := some 48, op := Go.Op.indexAddr 57 (Go.Operand.tmp 47) (Go.Operand.const (Go.Value.int Go.IntKind.i64 0)), type := 0, pos := "l2_type.go:213", after := #[{ on := 1, ground := Go.Ground.data }], guard := none }) (v := ?vg25) rfl (by kernel_rfl) (fun _ _ _ h => h) (Or.inr hHeld) (Or.inl ⟨by rfl, ?yg25⟩) ?_
    case yg25 => (intro wS _; go_simp <;> with_reducible rfl)
    try simp only [Act.put, List.setIfInBounds_toArray, List.set_cons_zero, List.set_cons_succ]
    refine wpG_load (i := 3) (oi := { dst := some 49, op := Go.Op.load 59 (Go.Operand.tmp 48), type := 59, pos := "l2_type.go:213", after := #[{ on := 2, ground := Go.Ground.data }], guard := none }) (v := ?vg26) [[8, 3]] rfl (by kernel_rfl) (fun _ _ _ h => h) hHeld (Or.inl ⟨by rfl, ?yg26⟩) ?_
    case yg26 => (intro wS hSw; (try dsimp only at hSw); go_simp <;> with_reducible rfl)
    try simp only [Act.put, List.setIfInBounds_toArray, List.set_cons_zero, List.set_cons_succ]
    refine wpG_pure (i := 4) (oi := { dst := some 50, op := Go.Op.fieldAddr 59 (Go.Operand.tmp 3) 5, type := 0, pos := "l2_type.go:213", after := #[], guard := none }) (v := ?vg27) rfl (by kernel_rfl) (fun _ _ _ h => h) (Or.inr hHeld) (Or.inl ⟨by rfl, ?yg27⟩) ?_
    case yg27 => (intro wS _; go_simp <;> with_reducible rfl)
    try simp only [Act.put, List.setIfInBounds_toArray, List.set_cons_zero, List.set_cons_succ]
    refine wpG_load (i := 5) (oi := { dst := some 51, op := Go.Op.load 57 (Go.Operand.tmp 50), type := 57, pos := "l2_type.go:213", after := #[{ on := 4, ground := Go.Ground.data }], guard := none }) (v := ?vg28) [[8, 7, 6, 5]] rfl (by kernel_rfl) (fun _ _ _ h => h) hHeld (Or.inl ⟨by rfl, ?yg28⟩) ?_
    case yg28 => (intro wS hSw; (try dsimp only at hSw); go_simp <;> with_reducible rfl)
    try simp only [Act.put, List.setIfInBounds_toArray, List.set_cons_zero, List.set_cons_succ]
    refine wpG_pure (i := 6) (oi := { dst := some 52, op := Go.Op.indexAddr 57 (Go.Operand.tmp 51) (Go.Operand.const (Go.Value.int Go.IntKind.i64 0)), type := 0, pos := "l2_type.go:213", after := #[{ on := 5, ground := Go.Ground.data }], guard := none }) (v := ?vg29) rfl (by kernel_rfl) (fun _ _ _ h => h) (Or.inr hHeld) (Or.inl ⟨by rfl, ?yg29⟩) ?_
    case yg29 => (intro wS _; go_simp <;> with_reducible rfl)
    try simp only [Act.put, List.setIfInBounds_toArray, List.set_cons_zero, List.set_cons_succ]
    refine wpG_load (i := 7) (oi := { dst := some 53, op := Go.Op.load 59 (Go.Operand.tmp 52), type := 59, pos := "l2_type.go:213", after := #[{ on := 6, ground := Go.Ground.data }], guard := none }) (v := ?vg30) [[8, 7]] rfl (by kernel_rfl) (fun _ _ _ h => h) hHeld (Or.inl ⟨by rfl, ?yg30⟩) ?_
    case yg30 => (intro wS hSw; (try dsimp only at hSw); go_simp <;> with_reducible rfl)
    try simp only [Act.put, List.setIfInBounds_toArray, List.set_cons_zero, List.set_cons_succ]
    refine wpG_two (i := 8) (j := 12) (o := { dst := some 54, op := Go.Op.call { callee := Go.Callee.value (Go.Operand.func 34), args := #[Go.Operand.tmp 49, Go.Operand.tmp 53], argTypes := #[59, 59] }, type := 60, pos := "l2_type.go:213", after := #[{ on := 3, ground := Go.Ground.data }, { on := 7, ground := Go.Ground.data }], guard := none }) (o' := { dst := some 7, op := Go.Op.alloc 59, type := 0, pos := "l2_type.go:213", after := #[], guard := none }) rfl rfl (by kernel_rfl) (fun K hK => ?_) (fun K hK => ?_)
    · skip
      go_simp
      refine (HCALL.out _ (Below.refl w7.heap.size w7).drew).mono ?_
      rintro e w8 ⟨kk, nn, oo, mm, pp, sa, sn, sc, ok, rfl, hb8, hres⟩
      have hb7 : Below w7.heap.size w7 w7.drew := (Below.refl w7.heap.size w7).drew
      have HB8 := Lib.hid (hb7.trans (hb8.mono hb7.size))
      have HRES := Lib.hid hres
      clear hb7 hb8 hres
      refine hK.out _ _ (Or.inl (by kernel_rfl)) (fun _ => ?_)
      clear hK K
      try simp only [Act.put, List.setIfInBounds_toArray, List.set_cons_zero, List.set_cons_succ]
      refine wpG_pure (i := 9) (oi := { dst := some 45, op := Go.Op.move (Go.Operand.tmp 54), type := 60, pos := "l2_type.go:213", after := #[{ on := 8, ground := Go.Ground.data }], guard := none }) (v := ?vg32) rfl (by kernel_rfl) (fun _ _ _ h => h) (Or.inl (by kernel_rfl)) (Or.inl ⟨by rfl, ?yg32⟩) ?_
      case yg32 => (intro wS _; go_simp <;> with_reducible rfl)
      try simp only [Act.put, List.setIfInBounds_toArray, List.set_cons_zero, List.set_cons_succ]
      refine wpG_pure (i := 10) (oi := { dst := some 55, op := Go.Op.extract (Go.Operand.tmp 45) 0, type := 59, pos := "l2_type.go:213", after := #[{ on := 9, ground := Go.Ground.data }], guard := none }) (v := ?vg33) rfl (by kernel_rfl) (fun _ _ _ h => h) (Or.inl (by kernel_rfl)) (Or.inl ⟨by rfl, ?yg33⟩) ?_
      case yg33 => (intro wS _; go_simp <;> with_reducible rfl)
      try simp only [Act.put, List.setIfInBounds_toArray, List.set_cons_zero, List.set_cons_succ]
      refine wpG_pure (i := 11) (oi := { dst := some 56, op := Go.Op.extract (Go.Operand.tmp 45) 1, type := 4, pos := "l2_type.go:213", after := #[{ on := 9, ground := Go.Ground.data }, { on := 13, ground := Go.Ground.gcOnly Go.Departure.lateStores }], guard := none }) (v := ?vg34) rfl (by kernel_rfl) (fun _ _ _ h => h) (Or.inl (by kernel_rfl)) (Or.inl ⟨by rfl, ?yg34⟩) ?_
      case yg34 => (intro wS _; go_simp <;> with_reducible rfl)
      try simp only [Act.put, List.setIfInBounds_toArray, List.set_cons_zero, List.set_cons_succ]
      refine wpG_one (i := 12) (o := { dst := some 7, op := Go.Op.alloc 59, type := 0, pos := "l2_type.go:213", after := #[], guard := none }) rfl (by kernel_rfl) (fun K hK => ?_)
      go_simp
      have HX8 := Lib.hid (heap_alloc_new w8 (.cells #[.int .i64 0, .string { data := #[] }, .int .i64 0, .bool false, .int .i64 0, .slice none 0 0] 59))
      have hb80 := HB8.out.size
      have HB8 := Lib.hid (HB8.out.alloc HB8.out.size (.cells #[.int .i64 0, .string { data := #[] }, .int .i64 0, .bool false, .int .i64 0, .slice none 0 0] 59))
      have hb70 := HB7.out.size
      have hsz : w7.drew.heap.size = w7.heap.size := rfl
      refine hK.out _ _ (Or.inl (by kernel_rfl)) (fun _ => ?_)
      clear hK K
      try simp only [Act.put, List.setIfInBounds_toArray, List.set_cons_zero, List.set_cons_succ]
      refine wpG_one (i := 13) (o := { dst := none, op := Go.Op.store 59 (Go.Operand.tmp 7) (Go.Operand.tmp 55), type := 0, pos := "l2_type.go:213", after := #[{ on := 12, ground := Go.Ground.data }, { on := 10, ground := Go.Ground.data }, { on := 8, ground := Go.Ground.chain }, { on := 0, ground := Go.Ground.phase }, { on := 1, ground := Go.Ground.phase }, { on := 2, ground := Go.Ground.phase }, { on := 3, ground := Go.Ground.phase }, { on := 4, ground := Go.Ground.phase }, { on := 5, ground := Go.Ground.phase }, { on := 6, ground := Go.Ground.phase }, { on := 7, ground := Go.Ground.phase }, { on := 8, ground := Go.Ground.phase }, { on := 9, ground := Go.Ground.phase }, { on := 10, ground := Go.Ground.phase }, { on := 11, ground := Go.Ground.textOnly Go.Departure.lateStores }, { on := 12, ground := Go.Ground.phase }], guard := none }) rfl (by kernel_rfl) (fun K hK => ?_)
      have HXE := Lib.hid (set6_heap HX8.out (.int .i64 kk) (.string nn) (.int .i64 oo) (.bool mm) (.int .i64 pp) (.slice sa sn sc))
      have HBE := Lib.hid (below_set6 HB8.out hb80 (.int .i64 kk) (.string nn) (.int .i64 oo) (.bool mm) (.int .i64 pp) (.slice sa sn sc))
      have HKE : Hid ((meetT x y = none ∧ ok = false) ∨ (∃ t, meetT x y = some t ∧ ok = true ∧ KS (mrS S w.heap.size w4.heap.size w2.heap.size) (set6 (w8.alloc (.cells #[.int .i64 0, .string { data := #[] }, .int .i64 0, .bool false, .int .i64 0, .slice none 0 0] 59)) w8.heap.size (.int .i64 kk) (.string nn) (.int .i64 oo) (.bool mm) (.int .i64 pp) (.slice sa sn sc)) t [.int .i64 kk, .string nn, .int .i64 oo, .bool mm, .int .i64 pp, .slice sa sn sc])) := Lib.hid (by
        rcases HRES.out with h | ⟨t, e1, e2, hk⟩
        · exact .inl h
        · refine .inr ⟨t, e1, e2, ks_new6 hk _ ?_ _ _ _ _ _ _⟩
          rintro q (⟨h1, h2⟩ | h1)
          · exact .inl ⟨h1, h2⟩
          · refine .inr ⟨?_, ?_, ?_⟩ <;> omega)
      unfold set6 at HXE HBE HKE
      obtain ⟨sa0, -, -, -, -, -⟩ := box6 HX8.out
      have sf0 := box6_z HX8.out 0
      have HSA := Lib.hid (box6_t0 HX8.out (.int .i64 kk))
      generalize hsA : ((w8.alloc (.cells #[.int .i64 0, .string { data := #[] }, .int .i64 0, .bool false, .int .i64 0, .slice none 0 0] 59))).setCell ⟨w8.heap.size, 0, none⟩ (.int .i64 kk) = wsA at *
      obtain ⟨-, sa1, -, -, -, -⟩ := box6 HSA.out
      have sf1 := box6_z HSA.out 1
      have HSB := Lib.hid (box6_t1 HSA.out (.string nn))
      generalize hsB : wsA.setCell ⟨w8.heap.size, 1, none⟩ (.string nn) = wsB at *
      obtain ⟨-, -, sa2, -, -, -⟩ := box6 HSB.out
      have sf2 := box6_z HSB.out 2
      have HSC := Lib.hid (box6_t2 HSB.out (.int .i64 oo))
      generalize hsC : wsB.setCell ⟨w8.heap.size, 2, none⟩ (.int .i64 oo) = wsC at *
      obtain ⟨-, -, -, sa3, -, -⟩ := box6 HSC.out
      have sf3 := box6_z HSC.out 3
      have HSD := Lib.hid (box6_t3 HSC.out (.bool mm))
      generalize hsD : wsC.setCell ⟨w8.heap.size, 3, none⟩ (.bool mm) = wsD at *
      obtain ⟨-, -, -, -, sa4, -⟩ := box6 HSD.out
      have sf4 := box6_z HSD.out 4
      have HSE := Lib.hid (box6_t4 HSD.out (.int .i64 pp))
      generalize hsE : wsD.setCell ⟨w8.heap.size, 4, none⟩ (.int .i64 pp) = wsE at *
      obtain ⟨-, -, -, -, -, sa5⟩ := box6 HSE.out
      have sf5 := box6_z HSE.out 5
      have HSF := Lib.hid (box6_t5 HSE.out (.slice sa sn sc))
      generalize hsF : wsE.setCell ⟨w8.heap.size, 5, none⟩ (.slice sa sn sc) = wsF at *
      obtain ⟨sg0, sg1, sg2, sg3, sg4, sg5⟩ := box6 HSF.out
      go_simp
      refine hK.out _ _ (Or.inl (by kernel_rfl)) (fun _ => ?_)
      clear hK K
      try simp only [Act.put, List.setIfInBounds_toArray, List.set_cons_zero, List.set_cons_succ]
      refine wpG_pure (i := 14) (oi := { dst := some 8, op := Go.Op.assign (Go.Operand.tmp 56), type := 4, pos := "l2_type.go:213", after := #[{ on := 11, ground := Go.Ground.data }, { on := 13, ground := Go.Ground.chain }, { on := 0, ground := Go.Ground.phase }, { on := 1, ground := Go.Ground.phase }, { on := 2, ground := Go.Ground.phase }, { on := 3, ground := Go.Ground.phase }, { on := 4, ground := Go.Ground.phase }, { on := 5, ground := Go.Ground.phase }, { on := 6, ground := Go.Ground.phase }, { on := 7, ground := Go.Ground.phase }, { on := 8, ground := Go.Ground.phase }, { on := 9, ground := Go.Ground.phase }, { on := 10, ground := Go.Ground.phase }, { on := 11, ground := Go.Ground.phase }, { on := 12, ground := Go.Ground.phase }, { on := 13, ground := Go.Ground.phase }], guard := none }) (v := ?vg37) rfl (by kernel_rfl) (fun _ _ _ h => h) (Or.inl (by kernel_rfl)) (Or.inl ⟨by rfl, ?yg37⟩) ?_
      case yg37 => (intro wS _; go_simp <;> with_reducible rfl)
      try simp only [Act.put, List.setIfInBounds_toArray, List.set_cons_zero, List.set_cons_succ]
      refine wpG_done (by kernel_rfl) ?_
      go_wp2_with fail
      go_meet
      exact ⟨_, kk, nn, oo, mm, pp, sa, sn, sc, ok, rfl, rfl, HXE, HBE, HKE⟩
    · skip
      go_simp
      refine hK.out _ _ (Or.inr ?khHeld38) (fun hHeld38S => ?_)
      case khHeld38 => exact ⟨cell_alloc _ c5, cell_alloc _ d5, cell_alloc _ q0, cell_alloc _ q1, cell_alloc _ q2, cell_alloc _ q3, cell_alloc _ q4, cell_alloc _ q5, cell_alloc _ r0, cell_alloc _ r1, cell_alloc _ r2, cell_alloc _ r3, cell_alloc _ r4, cell_alloc _ r5⟩
      have hHeld38 := hHeld38S.held (by kernel_rfl)
      clear hK K
      try simp only [Act.put, List.setIfInBounds_toArray, List.set_cons_zero, List.set_cons_succ]
      refine wpG_one (i := 8) (o := { dst := some 54, op := Go.Op.call { callee := Go.Callee.value (Go.Operand.func 34), args := #[Go.Operand.tmp 49, Go.Operand.tmp 53], argTypes := #[59, 59] }, type := 60, pos := "l2_type.go:213", after := #[{ on := 3, ground := Go.Ground.data }, { on := 7, ground := Go.Ground.data }], guard := none }) rfl (by kernel_rfl) (fun K hK => ?_)
      go_simp
      refine (HCALL.out _ (show Below w7.heap.size w7 (w7.drew.alloc (.cells #[.int .i64 0, .string { data := #[] }, .int .i64 0, .bool false, .int .i64 0, .slice none 0 0] 59)) from (Below.refl w7.heap.size w7).drew.alloc (Nat.le_refl _) _)).mono ?_
      rintro e w8 ⟨kk, nn, oo, mm, pp, sa, sn, sc, ok, rfl, hb8, hres⟩
      have hb7 : Below w7.heap.size w7 (w7.drew.alloc (.cells #[.int .i64 0, .string { data := #[] }, .int .i64 0, .bool false, .int .i64 0, .slice none 0 0] 59)) := (Below.refl w7.heap.size w7).drew.alloc (Nat.le_refl _) _
      have HX8 := Lib.hid (hp_later hb8 (show (w7.drew.alloc (.cells #[.int .i64 0, .string { data := #[] }, .int .i64 0, .bool false, .int .i64 0, .slice none 0 0] 59)).heap[w7.heap.size]? = _ from heap_alloc_new w7 _))
      have HB8 := Lib.hid (hb7.trans (hb8.mono hb7.size))
      have HRES := Lib.hid hres
      clear hb7 hb8 hres
      refine hK.out _ _ (Or.inl (by kernel_rfl)) (fun _ => ?_)
      clear hK K
      try simp only [Act.put, List.setIfInBounds_toArray, List.set_cons_zero, List.set_cons_succ]
      refine wpG_pure (i := 9) (oi := { dst := some 45, op := Go.Op.move (Go.Operand.tmp 54), type := 60, pos := "l2_type.go:213", after := #[{ on := 8, ground := Go.Ground.data }], guard := none }) (v := ?vg40) rfl (by kernel_rfl) (fun _ _ _ h => h) (Or.inl (by kernel_rfl)) (Or.inl ⟨by rfl, ?yg40⟩) ?_
      case yg40 => (intro wS _; go_simp <;> with_reducible rfl)
      try simp only [Act.put, List.setIfInBounds_toArray, List.set_cons_zero, List.set_cons_succ]
      refine wpG_pure (i := 10) (oi := { dst := some 55, op := Go.Op.extract (Go.Operand.tmp 45) 0, type := 59, pos := "l2_type.go:213", after := #[{ on := 9, ground := Go.Ground.data }], guard := none }) (v := ?vg41) rfl (by kernel_rfl) (fun _ _ _ h => h) (Or.inl (by kernel_rfl)) (Or.inl ⟨by rfl, ?yg41⟩) ?_
      case yg41 => (intro wS _; go_simp <;> with_reducible rfl)
      try simp only [Act.put, List.setIfInBounds_toArray, List.set_cons_zero, List.set_cons_succ]
      refine wpG_pure (i := 11) (oi := { dst := some 56, op := Go.Op.extract (Go.Operand.tmp 45) 1, type := 4, pos := "l2_type.go:213", after := #[{ on := 9, ground := Go.Ground.data }, { on := 13, ground := Go.Ground.gcOnly Go.Departure.lateStores }], guard := none }) (v := ?vg42) rfl (by kernel_rfl) (fun _ _ _ h => h) (Or.inl (by kernel_rfl)) (Or.inl ⟨by rfl, ?yg42⟩) ?_
      case yg42 => (intro wS _; go_simp <;> with_reducible rfl)
      try simp only [Act.put, List.setIfInBounds_toArray, List.set_cons_zero, List.set_cons_succ]
      refine wpG_one (i := 13) (o := { dst := none, op := Go.Op.store 59 (Go.Operand.tmp 7) (Go.Operand.tmp 55), type := 0, pos := "l2_type.go:213", after := #[{ on := 12, ground := Go.Ground.data }, { on := 10, ground := Go.Ground.data }, { on := 8, ground := Go.Ground.chain }, { on := 0, ground := Go.Ground.phase }, { on := 1, ground := Go.Ground.phase }, { on := 2, ground := Go.Ground.phase }, { on := 3, ground := Go.Ground.phase }, { on := 4, ground := Go.Ground.phase }, { on := 5, ground := Go.Ground.phase }, { on := 6, ground := Go.Ground.phase }, { on := 7, ground := Go.Ground.phase }, { on := 8, ground := Go.Ground.phase }, { on := 9, ground := Go.Ground.phase }, { on := 10, ground := Go.Ground.phase }, { on := 11, ground := Go.Ground.textOnly Go.Departure.lateStores }, { on := 12, ground := Go.Ground.phase }], guard := none }) rfl (by kernel_rfl) (fun K hK => ?_)
      have hsz : (w7.drew.alloc (.cells #[.int .i64 0, .string { data := #[] }, .int .i64 0, .bool false, .int .i64 0, .slice none 0 0] 59)).heap.size = w7.heap.size + 1 := by simp
      have hb70 := HB7.out.size
      have HXE := Lib.hid (set6_heap HX8.out (.int .i64 kk) (.string nn) (.int .i64 oo) (.bool mm) (.int .i64 pp) (.slice sa sn sc))
      have HBE := Lib.hid (below_set6 HB8.out (Nat.le_refl _) (.int .i64 kk) (.string nn) (.int .i64 oo) (.bool mm) (.int .i64 pp) (.slice sa sn sc))
      have HKE : Hid ((meetT x y = none ∧ ok = false) ∨ (∃ t, meetT x y = some t ∧ ok = true ∧ KS (mrS S w.heap.size w4.heap.size w2.heap.size) (set6 w8 w7.heap.size (.int .i64 kk) (.string nn) (.int .i64 oo) (.bool mm) (.int .i64 pp) (.slice sa sn sc)) t [.int .i64 kk, .string nn, .int .i64 oo, .bool mm, .int .i64 pp, .slice sa sn sc])) := Lib.hid (by
        rcases HRES.out with h | ⟨t, e1, e2, hk⟩
        · exact .inl h
        · refine .inr ⟨t, e1, e2, ks_set6 hk (by rintro (⟨_, h1⟩ | h1) <;> omega) ?_ _ _ _ _ _ _⟩
          rintro q (⟨h1, h2⟩ | h1)
          · exact .inl ⟨h1, h2⟩
          · refine .inr ⟨?_, ?_, ?_⟩ <;> omega)
      unfold set6 at HXE HBE HKE
      obtain ⟨sa0, -, -, -, -, -⟩ := box6 HX8.out
      have sf0 := box6_z HX8.out 0
      have HSA := Lib.hid (box6_t0 HX8.out (.int .i64 kk))
      generalize hsA : (w8).setCell ⟨w7.heap.size, 0, none⟩ (.int .i64 kk) = wsA at *
      obtain ⟨-, sa1, -, -, -, -⟩ := box6 HSA.out
      have sf1 := box6_z HSA.out 1
      have HSB := Lib.hid (box6_t1 HSA.out (.string nn))
      generalize hsB : wsA.setCell ⟨w7.heap.size, 1, none⟩ (.string nn) = wsB at *
      obtain ⟨-, -, sa2, -, -, -⟩ := box6 HSB.out
      have sf2 := box6_z HSB.out 2
      have HSC := Lib.hid (box6_t2 HSB.out (.int .i64 oo))
      generalize hsC : wsB.setCell ⟨w7.heap.size, 2, none⟩ (.int .i64 oo) = wsC at *
      obtain ⟨-, -, -, sa3, -, -⟩ := box6 HSC.out
      have sf3 := box6_z HSC.out 3
      have HSD := Lib.hid (box6_t3 HSC.out (.bool mm))
      generalize hsD : wsC.setCell ⟨w7.heap.size, 3, none⟩ (.bool mm) = wsD at *
      obtain ⟨-, -, -, -, sa4, -⟩ := box6 HSD.out
      have sf4 := box6_z HSD.out 4
      have HSE := Lib.hid (box6_t4 HSD.out (.int .i64 pp))
      generalize hsE : wsD.setCell ⟨w7.heap.size, 4, none⟩ (.int .i64 pp) = wsE at *
      obtain ⟨-, -, -, -, -, sa5⟩ := box6 HSE.out
      have sf5 := box6_z HSE.out 5
      have HSF := Lib.hid (box6_t5 HSE.out (.slice sa sn sc))
      generalize hsF : wsE.setCell ⟨w7.heap.size, 5, none⟩ (.slice sa sn sc) = wsF at *
      obtain ⟨sg0, sg1, sg2, sg3, sg4, sg5⟩ := box6 HSF.out
      go_simp
      refine hK.out _ _ (Or.inl (by kernel_rfl)) (fun _ => ?_)
      clear hK K
      try simp only [Act.put, List.setIfInBounds_toArray, List.set_cons_zero, List.set_cons_succ]
      refine wpG_pure (i := 14) (oi := { dst := some 8, op := Go.Op.assign (Go.Operand.tmp 56), type := 4, pos := "l2_type.go:213", after := #[{ on := 11, ground := Go.Ground.data }, { on := 13, ground := Go.Ground.chain }, { on := 0, ground := Go.Ground.phase }, { on := 1, ground := Go.Ground.phase }, { on := 2, ground := Go.Ground.phase }, { on := 3, ground := Go.Ground.phase }, { on := 4, ground := Go.Ground.phase }, { on := 5, ground := Go.Ground.phase }, { on := 6, ground := Go.Ground.phase }, { on := 7, ground := Go.Ground.phase }, { on := 8, ground := Go.Ground.phase }, { on := 9, ground := Go.Ground.phase }, { on := 10, ground := Go.Ground.phase }, { on := 11, ground := Go.Ground.phase }, { on := 12, ground := Go.Ground.phase }, { on := 13, ground := Go.Ground.phase }], guard := none }) (v := ?vg44) rfl (by kernel_rfl) (fun _ _ _ h => h) (Or.inl (by kernel_rfl)) (Or.inl ⟨by rfl, ?yg44⟩) ?_
      case yg44 => (intro wS _; go_simp <;> with_reducible rfl)
      try simp only [Act.put, List.setIfInBounds_toArray, List.set_cons_zero, List.set_cons_succ]
      refine wpG_done (by kernel_rfl) ?_
      go_wp2_with fail
      go_meet
      exact ⟨_, kk, nn, oo, mm, pp, sa, sn, sc, ok, rfl, rfl, HXE, HBE, HKE⟩
  case rest =>
    obtain ⟨X7, kk, nn, oo, mm, pp, sa, sn, sc, ok, rfl, rfl, HX7, HB8, HRES⟩ := hcut
    obtain ⟨w8, rfl⟩ : ∃ z : World, z = wc := ⟨_, rfl⟩
    have hb8 := HB8.out
    have hz8 := hb8.size
    have HX3 := Lib.hid (hp_later hb8 HX3.out)
    have HX6 := Lib.hid (hp_later hb8 HX6.out)
    have HBW := Lib.hid (HB7.out.trans (hb8.mono HB7.out.size))
    have hzw := HBW.out.size
    have HFIN : Hid ((meetT (.node k nm no false mo ks) (.node k' nm' no' m' mo' us) = none ∧ ok = false) ∨ (∃ t, meetT (.node k nm no false mo ks) (.node k' nm' no' m' mo' us) = some t ∧ ok = true ∧ KS (fun q => S q ∨ w.heap.size ≤ q) (set6 ((w8.alloc (.cells #[.int .i64 kk, .string nn, .int .i64 oo, .bool mm, .int .i64 pp, .slice sa sn sc] 59)).setCell ⟨w4.heap.size, 5, none⟩ (.slice (some ⟨w8.heap.size, 0, none⟩) 1 1)) w2.heap.size (.int .i64 k) (.string nm) (.int .i64 no) (.bool m') (.int .i64 mo) (.slice (some ⟨w8.heap.size, 0, none⟩) 1 1)) t [.int .i64 k, .string nm, .int .i64 no, .bool m', .int .i64 mo, (.slice (some ⟨w8.heap.size, 0, none⟩) 1 1)])) := Lib.hid (by
      rw [HT.out]
      rcases HRES.out with ⟨h, e⟩ | ⟨t, h, e, hk⟩
      · rw [h]; exact .inl ⟨rfl, e⟩
      · rw [h]
        refine .inr ⟨_, rfl, e, ?_⟩
        have := ks_one hk hzw (by omega) (by omega) (by omega) (by omega) k nm no m' mo hnm 59
        simpa [Tr.kind, Tr.name, Tr.no, Tr.must, Tr.most, HMIN.out] using this)
    have HBF := Lib.hid (below_set6 (below_set (HBW.out.alloc hzw (.cells #[.int .i64 kk, .string nn, .int .i64 oo, .bool mm, .int .i64 pp, .slice sa sn sc] 59)) (show w.heap.size ≤ w4.heap.size by omega) 5 (.slice (some ⟨w8.heap.size, 0, none⟩) 1 1)) (show w.heap.size ≤ w2.heap.size by omega) (.int .i64 k) (.string nm) (.int .i64 no) (.bool m') (.int .i64 mo) (.slice (some ⟨w8.heap.size, 0, none⟩) 1 1))
    unfold set6 at HFIN HBF
    clear hb8 hlx hly hlx0 hly0 a0 a1 a2 a3 a4 a5 b0 b1 b2 b3 b4 b5 c0 c1 c2 c3 c4 c5 d0 d1 d2 d3 d4 d5 o0 o1 o2 o3 o4 o5 p0 p1 p2 p3 p4 p5 q0 q1 q2 q3 q4 q5 r0 r1 r2 r3 r4 r5 f3 f4 fz5 oz5
    obtain ⟨x0, x1, x2, x3, x4, x5⟩ := box6 HX7.out
    have hX3 := hp_alloc (.cells #[.int .i64 kk, .string nn, .int .i64 oo, .bool mm, .int .i64 pp, .slice sa sn sc] 59) HX3.out
    have hX6 := hp_alloc (.cells #[.int .i64 kk, .string nn, .int .i64 oo, .bool mm, .int .i64 pp, .slice sa sn sc] 59) HX6.out
    generalize hw9 : w8.alloc (.cells #[.int .i64 kk, .string nn, .int .i64 oo, .bool mm, .int .i64 pp, .slice sa sn sc] 59) = w9 at *
    obtain ⟨y0, y1, y2, y3, y4, y5⟩ := box6 hX6
    have g5 := box6_z hX6 5
    have hX6 := box6_t5 hX6 (.slice (some ⟨w8.heap.size, 0, none⟩) 1 1)
    have HX3 := Lib.hid (hp_set (Y := w4.heap.size) (i := 5) (u := (.slice (some ⟨w8.heap.size, 0, none⟩) 1 1)) hX3 (by omega))
    generalize hw10 : w9.setCell ⟨w4.heap.size, 5, none⟩ (.slice (some ⟨w8.heap.size, 0, none⟩) 1 1) = w10 at *
    obtain ⟨z0, z1, z2, z3, z4, z5⟩ := box6 hX6
    clear hX3 hX6
    obtain ⟨sa0, -, -, -, -, -⟩ := box6 HX3.out
    have sf0 := box6_z HX3.out 0
    have HSA := Lib.hid (box6_t0 HX3.out (.int .i64 k))
    generalize hsA : (w10).setCell ⟨w2.heap.size, 0, none⟩ (.int .i64 k) = wsA at *
    obtain ⟨-, sa1, -, -, -, -⟩ := box6 HSA.out
    have sf1 := box6_z HSA.out 1
    have HSB := Lib.hid (box6_t1 HSA.out (.string nm))
    generalize hsB : wsA.setCell ⟨w2.heap.size, 1, none⟩ (.string nm) = wsB at *
    obtain ⟨-, -, sa2, -, -, -⟩ := box6 HSB.out
    have sf2 := box6_z HSB.out 2
    have HSC := Lib.hid (box6_t2 HSB.out (.int .i64 no))
    generalize hsC : wsB.setCell ⟨w2.heap.size, 2, none⟩ (.int .i64 no) = wsC at *
    obtain ⟨-, -, -, sa3, -, -⟩ := box6 HSC.out
    have sf3 := box6_z HSC.out 3
    have HSD := Lib.hid (box6_t3 HSC.out (.bool m'))
    generalize hsD : wsC.setCell ⟨w2.heap.size, 3, none⟩ (.bool m') = wsD at *
    obtain ⟨-, -, -, -, sa4, -⟩ := box6 HSD.out
    have sf4 := box6_z HSD.out 4
    have HSE := Lib.hid (box6_t4 HSD.out (.int .i64 mo))
    generalize hsE : wsD.setCell ⟨w2.heap.size, 4, none⟩ (.int .i64 mo) = wsE at *
    obtain ⟨-, -, -, -, -, sa5⟩ := box6 HSE.out
    have sf5 := box6_z HSE.out 5
    have HSF := Lib.hid (box6_t5 HSE.out (.slice (some ⟨w8.heap.size, 0, none⟩) 1 1))
    generalize hsF : wsE.setCell ⟨w2.heap.size, 5, none⟩ (.slice (some ⟨w8.heap.size, 0, none⟩) 1 1) = wsF at *
    obtain ⟨sg0, sg1, sg2, sg3, sg4, sg5⟩ := box6 HSF.out
    go_wp2_with fail
    refine bodyPost_ret (v := .tuple #[.agg #[.int .i64 k, .string nm, .int .i64 no, .bool m', .int .i64 mo, (.slice (some ⟨w8.heap.size, 0, none⟩) 1 1)], .bool ok]) (by simp [results, Try.results34, go_sem, sg0, sg1, sg2, sg3, sg4, sg5]) rfl ?_
    exact ⟨_, _, _, _, _, _, _, _, ok, rfl, HBF.out, HFIN.out⟩
end Go.Proofs.Ytmlnecopbncdbaa
