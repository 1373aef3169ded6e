/- What both of two types tell: the program, at all but lists. -/
import Derived.Test.YtmlnecopbncdbaaMtI
import Derived.Test.YtmlnecopbncdbaaMtY
namespace Go.Proofs.Ytmlnecopbncdbaa
set_option linter.unusedVariables false
set_option linter.unusedSimpArgs false
open Go.ChangeShapes Go.WideShapes Go.ChangeAt Go.RowKit
set_option maxRecDepth 100000

theorem meetp_no {S : Nat → Prop} {a b : Tr} {w w' : World} (h : meetT a b = none) (hb : Below w.heap.size w w') : MeetP S a b w (.returned (.pointer none)) w' := ⟨none, rfl, hb, .inl ⟨h, rfl⟩⟩
theorem meetp_yes {S : Nat → Prop} {a b t : Tr} {w w' : World} {g : Nat} (h : meetT a b = some t) (hb : Below w.heap.size w w') (hk : KP (fun q => S q ∨ w.heap.size ≤ q) w' t (.pointer (some ⟨g, 0, none⟩))) : MeetP S a b w (.returned (.pointer (some ⟨g, 0, none⟩))) w' := ⟨_, rfl, hb, .inr ⟨t, g, h, rfl, hk⟩⟩
theorem wrote_hpI {S : Nat → Prop} {wx wy : World} (h : Wrote S wx wy) {X : Nat} {o : Obj} (hX : wx.heap[X]? = some o) (hS : ¬ S X) : wy.heap[X]? = some o := (h.block X (hp_lt hX) hS).trans hX
set_option maxHeartbeats 16000000 in
theorem imeet_msg_t {S : Nat → Prop} {w : World} {bx bY : Nat} (nm nm' : ByteArray) (no no' : Int) (m' : Bool) (mo mo' : Int) (k k' : Int) (hk : k = k') (h4 : ¬ k = 4) (ks us : List Tr) {va vb : Option Addr} {ca cb : Nat} {vsa vsb : List Value} (hSa : S bx) (hSb : S bY) (hX : w.heap[bx]? = some (.cells #[.int .i64 k, .string nm, .int .i64 no, .bool true, .int .i64 mo, .slice va ks.length ca] 103)) (hY : w.heap[bY]? = some (.cells #[.int .i64 k', .string nm', .int .i64 no', .bool m', .int .i64 mo', .slice vb us.length cb] 103)) (hnm : nm.size ≤ maxLen) (hnm' : nm'.size ≤ maxLen) (hca : ks.length ≤ ca) (hcam : ca ≤ 9223372036854775807) (hcb : us.length ≤ cb) (hcbm : cb ≤ 9223372036854775807) (hra : RS S w va vsa) (hka : KPs S w ks vsa) (hrb : RS S w vb vsb) (hkb : KPs S w us vsb) (hll : ks.length + us.length ≤ 1048576) (hda : ks.Pairwise (fun a b => ¬ a.no = b.no)) (hdb : us.Pairwise (fun a b => ¬ a.no = b.no))
    (IH : ∀ (S' : Nat → Prop) (wx : World) (x y : Tr) (px py : Value), x ∈ ks → y ∈ us → KP S' wx x px → KP S' wx y py → Calls Try.prog 39 #[px, py] wx (MeetP S' x y wx)) :
    Calls Try.prog 39 #[.pointer (some ⟨bx, 0, none⟩), .pointer (some ⟨bY, 0, none⟩)] w (MeetP S (.node k nm no true mo ks) (.node k' nm' no' m' mo' us) w) := by
  obtain ⟨i0, hi0, hj0, hj1, hj2⟩ := info_parts Try.infoKPtr
  have HT := Lib.hid (meetT_msg (a := .node k nm no true mo ks) (b := .node k' nm' no' m' mo' us) hk h4)
  simp only [Tr.kind, Tr.name, Tr.no, Tr.must, Tr.most, Tr.kids] at HT
  have nk : (k != k') = false := by rw [hk]; exact bne_self_eq_false _
  have n4 : (k == 4) = false := beq_eq_false_iff_ne.2 h4
  have HIH := Lib.hid IH
  have hA : KP S w (.node k nm no true mo ks) (.pointer (some ⟨bx, 0, none⟩)) := by rw [KP]; exact ⟨bx, va, ca, vsa, rfl, hSa, hX, hnm, hca, hcam, hra, hka⟩
  have hB : KP S w (.node k' nm' no' m' mo' us) (.pointer (some ⟨bY, 0, none⟩)) := by rw [KP]; exact ⟨bY, vb, cb, vsb, rfl, hSb, hY, hnm', hcb, hcbm, hrb, hkb⟩
  have HPA : Hid (∀ wx no2, Below w.heap.size w wx → Calls Try.prog 70 #[.pointer (some ⟨bx, 0, none⟩), .int .i64 no2] wx (PartV (fun q => S q ∧ q < w.heap.size) (.node k nm no true mo ks) no2 wx)) := Lib.hid (fun wx no2 hbx => impl_part (KP.keep (kept_below hbx) (fun q h hl => ⟨h, hl⟩) _ _ hA) (show ks.length ≤ 1048576 by omega) no2)
  have HPB : Hid (∀ wx no2, Below w.heap.size w wx → Calls Try.prog 70 #[.pointer (some ⟨bY, 0, none⟩), .int .i64 no2] wx (PartV (fun q => S q ∧ q < w.heap.size) (.node k' nm' no' m' mo' us) no2 wx)) := Lib.hid (fun wx no2 hbx => impl_part (KP.keep (kept_below hbx) (fun q h hl => ⟨h, hl⟩) _ _ hB) (show us.length ≤ 1048576 by omega) no2)
  unfold PartV at HPA HPB
  simp only [Tr.kids] at HPA HPB
  have HRA := Lib.hid hra; have HKA := Lib.hid hka; have HRB := Lib.hid hrb; have HKB := Lib.hid hkb
  have HNM := Lib.hid hnm
  have HDA := Lib.hid hda; have HDB := Lib.hid hdb
  clear hk h4 hA hB IH hra hka hrb hkb hnm hnm' hda hdb hSa hSb
  have hYl := hp_lt hY
  obtain ⟨x0, x1, x2, x3, x4, x5⟩ := box6 hX
  obtain ⟨y0, y1, y2, y3, y4, y5⟩ := box6 hY
  have HX := Lib.hid hX
  have HY := Lib.hid hY
  clear hX hY
  go_enter Try.func39, Try.ntmps39
  go_wp2_with fail
  refine wp_region_G [] (fun w' => w'.cell? ⟨bx, 0, none⟩ = some (.int .i64 k) ∧ w'.cell? ⟨bY, 0, none⟩ = some (.int .i64 k')) (by kernel_rfl) ?_ (fun hHeld => ?_)
  · exact ⟨x0, y0⟩
  refine wpG_pure (i := 0) (oi := { dst := some 12, op := Go.Op.move (Go.Operand.tmp 0), type := 65, pos := "l2_type.go:219", after := #[], guard := none }) (v := ?vg1) rfl (by kernel_rfl) (fun _ _ _ h => h) (Or.inr hHeld) (Or.inl ⟨by rfl, ?yg1⟩) ?_
  case yg1 => (intro wS _; go_simp <;> with_reducible rfl)
  try simp only [Act.put, List.setIfInBounds_toArray, List.set_cons_zero, List.set_cons_succ]
  refine wpG_pure (i := 1) (oi := { dst := some 13, op := Go.Op.nilCheck (Go.Operand.tmp 12), type := 0, pos := "l2_type.go:219", after := #[{ on := 0, ground := Go.Ground.data }], guard := none }) (v := ?vg2) rfl (by kernel_rfl) (fun _ _ _ h => h) (Or.inr hHeld) (Or.inl ⟨by rfl, ?yg2⟩) ?_
  case yg2 => (intro wS _; go_simp <;> with_reducible rfl)
  try simp only [Act.put, List.setIfInBounds_toArray, List.set_cons_zero, List.set_cons_succ]
  refine wpG_pure (i := 2) (oi := { dst := some 14, op := Go.Op.fieldAddr 103 (Go.Operand.tmp 13) 0, type := 0, pos := "l2_type.go:219", after := #[{ on := 1, ground := Go.Ground.data }], guard := none }) (v := ?vg3) rfl (by kernel_rfl) (fun _ _ _ h => h) (Or.inr hHeld) (Or.inl ⟨by rfl, ?yg3⟩) ?_
  case yg3 => (intro wS _; go_simp <;> with_reducible rfl)
  try simp only [Act.put, List.setIfInBounds_toArray, List.set_cons_zero, List.set_cons_succ]
  refine wpG_load (i := 3) (oi := { dst := some 15, op := Go.Op.load 3 (Go.Operand.tmp 14), type := 3, pos := "l2_type.go:219", after := #[{ on := 2, ground := Go.Ground.data }], guard := none }) (v := ?vg4) [] rfl (by kernel_rfl) (fun _ _ _ h => h) hHeld (Or.inl ⟨by rfl, ?yg4⟩) ?_
  case yg4 => (intro wS hSw; (try dsimp only at hSw); go_simp <;> with_reducible rfl)
  try simp only [Act.put, List.setIfInBounds_toArray, List.set_cons_zero, List.set_cons_succ]
  refine wpG_pure (i := 4) (oi := { dst := some 16, op := Go.Op.move (Go.Operand.tmp 1), type := 65, pos := "l2_type.go:219", after := #[], guard := none }) (v := ?vg5) rfl (by kernel_rfl) (fun _ _ _ h => h) (Or.inr hHeld) (Or.inl ⟨by rfl, ?yg5⟩) ?_
  case yg5 => (intro wS _; go_simp <;> with_reducible rfl)
  try simp only [Act.put, List.setIfInBounds_toArray, List.set_cons_zero, List.set_cons_succ]
  refine wpG_pure (i := 5) (oi := { dst := some 17, op := Go.Op.nilCheck (Go.Operand.tmp 16), type := 0, pos := "l2_type.go:219", after := #[{ on := 4, ground := Go.Ground.data }], guard := none }) (v := ?vg6) rfl (by kernel_rfl) (fun _ _ _ h => h) (Or.inr hHeld) (Or.inl ⟨by rfl, ?yg6⟩) ?_
  case yg6 => (intro wS _; go_simp <;> with_reducible rfl)
  try simp only [Act.put, List.setIfInBounds_toArray, List.set_cons_zero, List.set_cons_succ]
  refine wpG_pure (i := 6) (oi := { dst := some 18, op := Go.Op.fieldAddr 103 (Go.Operand.tmp 17) 0, type := 0, pos := "l2_type.go:219", after := #[{ on := 5, ground := Go.Ground.data }], guard := none }) (v := ?vg7) rfl (by kernel_rfl) (fun _ _ _ h => h) (Or.inr hHeld) (Or.inl ⟨by rfl, ?yg7⟩) ?_
  case yg7 => (intro wS _; go_simp <;> with_reducible rfl)
  try simp only [Act.put, List.setIfInBounds_toArray, List.set_cons_zero, List.set_cons_succ]
  refine wpG_load (i := 7) (oi := { dst := some 19, op := Go.Op.load 3 (Go.Operand.tmp 18), type := 3, pos := "l2_type.go:219", after := #[{ on := 6, ground := Go.Ground.data }], guard := none }) (v := ?vg8) [] rfl (by kernel_rfl) (fun _ _ _ h => h) hHeld (Or.inl ⟨by rfl, ?yg8⟩) ?_
  case yg8 => (intro wS hSw; (try dsimp only at hSw); go_simp <;> with_reducible rfl)
  try simp only [Act.put, List.setIfInBounds_toArray, List.set_cons_zero, List.set_cons_succ]
  refine wpG_pure (i := 8) (oi := { dst := some 20, op := Go.Op.binOp Go.BinOp.neq 3 (Go.Operand.tmp 15) (Go.Operand.tmp 19) 3, type := 4, pos := "l2_type.go:219", after := #[{ on := 3, ground := Go.Ground.data }, { on := 7, ground := Go.Ground.data }], guard := none }) (v := ?vg9) rfl (by kernel_rfl) (fun _ _ _ h => h) (Or.inr hHeld) (Or.inl ⟨by rfl, ?yg9⟩) ?_
  case yg9 => (intro wS _; go_simp <;> with_reducible rfl)
  try simp only [Act.put, List.setIfInBounds_toArray, List.set_cons_zero, List.set_cons_succ]
  refine wpG_done (by kernel_rfl) ?_
  have hb1 := (Below.refl w.heap.size w).drew
  generalize hw1 : w.drew = w1 at *
  have HX := Lib.hid (hp_later hb1 HX.out)
  have HY := Lib.hid (hp_later hb1 HY.out)
  have hz1 := hb1.size
  have HB1 := Lib.hid hb1
  clear hb1 x0 x1 x2 x3 x4 x5 y0 y1 y2 y3 y4 y5
  obtain ⟨x0, x1, x2, x3, x4, x5⟩ := box6 HX.out
  obtain ⟨y0, y1, y2, y3, y4, y5⟩ := box6 HY.out
  go_wp2_with fail
  refine wp_region_G [] (fun w' => w'.cell? ⟨bx, 0, none⟩ = some (.int .i64 k) ∧ w'.cell? ⟨bx, 1, none⟩ = some (.string nm) ∧ w'.cell? ⟨bx, 2, none⟩ = some (.int .i64 no) ∧ w'.cell? ⟨bx, 3, none⟩ = some (.bool true) ∧ w'.cell? ⟨bx, 4, none⟩ = some (.int .i64 mo) ∧ w'.cell? ⟨bY, 3, none⟩ = some (.bool m') ∧ w'.cell? ⟨bY, 4, none⟩ = some (.int .i64 mo')) (by kernel_rfl) ?_ (fun hHeld => ?_)
  · exact ⟨x0, x1, x2, x3, x4, y3, y4⟩
  refine wpG_pure (i := 0) (oi := { dst := some 21, op := Go.Op.move (Go.Operand.tmp 0), type := 65, pos := "l2_type.go:222", after := #[], guard := none }) (v := ?vg10) rfl (by kernel_rfl) (fun _ _ _ h => h) (Or.inr hHeld) (Or.inl ⟨by rfl, ?yg10⟩) ?_
  case yg10 => (intro wS _; go_simp <;> with_reducible rfl)
  try simp only [Act.put, List.setIfInBounds_toArray, List.set_cons_zero, List.set_cons_succ]
  refine wpG_pure (i := 1) (oi := { dst := some 22, op := Go.Op.nilCheck (Go.Operand.tmp 21), type := 0, pos := "l2_type.go:222", after := #[{ on := 0, ground := Go.Ground.data }], guard := none }) (v := ?vg11) rfl (by kernel_rfl) (fun _ _ _ h => h) (Or.inr hHeld) (Or.inl ⟨by rfl, ?yg11⟩) ?_
  case yg11 => (intro wS _; go_simp <;> with_reducible rfl)
  try simp only [Act.put, List.setIfInBounds_toArray, List.set_cons_zero, List.set_cons_succ]
  refine wpG_pure (i := 2) (oi := { dst := some 23, op := Go.Op.fieldAddr 103 (Go.Operand.tmp 22) 0, type := 0, pos := "l2_type.go:222", after := #[{ on := 1, ground := Go.Ground.data }], guard := none }) (v := ?vg12) rfl (by kernel_rfl) (fun _ _ _ h => h) (Or.inr hHeld) (Or.inl ⟨by rfl, ?yg12⟩) ?_
  case yg12 => (intro wS _; go_simp <;> with_reducible rfl)
  try simp only [Act.put, List.setIfInBounds_toArray, List.set_cons_zero, List.set_cons_succ]
  refine wpG_load (i := 3) (oi := { dst := some 24, op := Go.Op.load 3 (Go.Operand.tmp 23), type := 3, pos := "l2_type.go:222", after := #[{ on := 2, ground := Go.Ground.data }], guard := none }) (v := ?vg13) [] rfl (by kernel_rfl) (fun _ _ _ h => h) hHeld (Or.inl ⟨by rfl, ?yg13⟩) ?_
  case yg13 => (intro wS hSw; (try dsimp only at hSw); go_simp <;> with_reducible rfl)
  try simp only [Act.put, List.setIfInBounds_toArray, List.set_cons_zero, List.set_cons_succ]
  refine wpG_pure (i := 4) (oi := { dst := some 25, op := Go.Op.move (Go.Operand.tmp 0), type := 65, pos := "l2_type.go:222", after := #[], guard := none }) (v := ?vg14) rfl (by kernel_rfl) (fun _ _ _ h => h) (Or.inr hHeld) (Or.inl ⟨by rfl, ?yg14⟩) ?_
  case yg14 => (intro wS _; go_simp <;> with_reducible rfl)
  try simp only [Act.put, List.setIfInBounds_toArray, List.set_cons_zero, List.set_cons_succ]
  refine wpG_pure (i := 5) (oi := { dst := some 26, op := Go.Op.nilCheck (Go.Operand.tmp 25), type := 0, pos := "l2_type.go:222", after := #[{ on := 4, ground := Go.Ground.data }], guard := none }) (v := ?vg15) rfl (by kernel_rfl) (fun _ _ _ h => h) (Or.inr hHeld) (Or.inl ⟨by rfl, ?yg15⟩) ?_
  case yg15 => (intro wS _; go_simp <;> with_reducible rfl)
  try simp only [Act.put, List.setIfInBounds_toArray, List.set_cons_zero, List.set_cons_succ]
  refine wpG_pure (i := 6) (oi := { dst := some 27, op := Go.Op.fieldAddr 103 (Go.Operand.tmp 26) 1, type := 0, pos := "l2_type.go:222", after := #[{ on := 5, ground := Go.Ground.data }], guard := none }) (v := ?vg16) rfl (by kernel_rfl) (fun _ _ _ h => h) (Or.inr hHeld) (Or.inl ⟨by rfl, ?yg16⟩) ?_
  case yg16 => (intro wS _; go_simp <;> with_reducible rfl)
  try simp only [Act.put, List.setIfInBounds_toArray, List.set_cons_zero, List.set_cons_succ]
  refine wpG_load (i := 7) (oi := { dst := some 28, op := Go.Op.load 9 (Go.Operand.tmp 27), type := 9, pos := "l2_type.go:222", after := #[{ on := 6, ground := Go.Ground.data }], guard := none }) (v := ?vg17) [] rfl (by kernel_rfl) (fun _ _ _ h => h) hHeld (Or.inl ⟨by rfl, ?yg17⟩) ?_
  case yg17 => (intro wS hSw; (try dsimp only at hSw); go_simp <;> with_reducible rfl)
  try simp only [Act.put, List.setIfInBounds_toArray, List.set_cons_zero, List.set_cons_succ]
  refine wpG_pure (i := 8) (oi := { dst := some 29, op := Go.Op.move (Go.Operand.tmp 0), type := 65, pos := "l2_type.go:222", after := #[], guard := none }) (v := ?vg18) rfl (by kernel_rfl) (fun _ _ _ h => h) (Or.inr hHeld) (Or.inl ⟨by rfl, ?yg18⟩) ?_
  case yg18 => (intro wS _; go_simp <;> with_reducible rfl)
  try simp only [Act.put, List.setIfInBounds_toArray, List.set_cons_zero, List.set_cons_succ]
  refine wpG_pure (i := 9) (oi := { dst := some 30, op := Go.Op.nilCheck (Go.Operand.tmp 29), type := 0, pos := "l2_type.go:222", after := #[{ on := 8, ground := Go.Ground.data }], guard := none }) (v := ?vg19) rfl (by kernel_rfl) (fun _ _ _ h => h) (Or.inr hHeld) (Or.inl ⟨by rfl, ?yg19⟩) ?_
  case yg19 => (intro wS _; go_simp <;> with_reducible rfl)
  try simp only [Act.put, List.setIfInBounds_toArray, List.set_cons_zero, List.set_cons_succ]
  refine wpG_pure (i := 10) (oi := { dst := some 31, op := Go.Op.fieldAddr 103 (Go.Operand.tmp 30) 2, type := 0, pos := "l2_type.go:222", after := #[{ on := 9, ground := Go.Ground.data }], guard := none }) (v := ?vg20) rfl (by kernel_rfl) (fun _ _ _ h => h) (Or.inr hHeld) (Or.inl ⟨by rfl, ?yg20⟩) ?_
  case yg20 => (intro wS _; go_simp <;> with_reducible rfl)
  try simp only [Act.put, List.setIfInBounds_toArray, List.set_cons_zero, List.set_cons_succ]
  refine wpG_load (i := 11) (oi := { dst := some 32, op := Go.Op.load 3 (Go.Operand.tmp 31), type := 3, pos := "l2_type.go:222", after := #[{ on := 10, ground := Go.Ground.data }], guard := none }) (v := ?vg21) [] rfl (by kernel_rfl) (fun _ _ _ h => h) hHeld (Or.inl ⟨by rfl, ?yg21⟩) ?_
  case yg21 => (intro wS hSw; (try dsimp only at hSw); go_simp <;> with_reducible rfl)
  try simp only [Act.put, List.setIfInBounds_toArray, List.set_cons_zero, List.set_cons_succ]
  refine wpG_pure (i := 12) (oi := { dst := some 33, op := Go.Op.move (Go.Operand.tmp 0), type := 65, pos := "l2_type.go:222", after := #[], guard := none }) (v := ?vg22) rfl (by kernel_rfl) (fun _ _ _ h => h) (Or.inr hHeld) (Or.inl ⟨by rfl, ?yg22⟩) ?_
  case yg22 => (intro wS _; go_simp <;> with_reducible rfl)
  try simp only [Act.put, List.setIfInBounds_toArray, List.set_cons_zero, List.set_cons_succ]
  refine wpG_pure (i := 13) (oi := { dst := some 34, op := Go.Op.nilCheck (Go.Operand.tmp 33), type := 0, pos := "l2_type.go:222", after := #[{ on := 12, ground := Go.Ground.data }], guard := none }) (v := ?vg23) rfl (by kernel_rfl) (fun _ _ _ h => h) (Or.inr hHeld) (Or.inl ⟨by rfl, ?yg23⟩) ?_
  case yg23 => (intro wS _; go_simp <;> with_reducible rfl)
  try simp only [Act.put, List.setIfInBounds_toArray, List.set_cons_zero, List.set_cons_succ]
  refine wpG_pure (i := 14) (oi := { dst := some 35, op := Go.Op.fieldAddr 103 (Go.Operand.tmp 34) 3, type := 0, pos := "l2_type.go:222", after := #[{ on := 13, ground := Go.Ground.data }], guard := none }) (v := ?vg24) rfl (by kernel_rfl) (fun _ _ _ h => h) (Or.inr hHeld) (Or.inl ⟨by rfl, ?yg24⟩) ?_
  case yg24 => (intro wS _; go_simp <;> with_reducible rfl)
  try simp only [Act.put, List.setIfInBounds_toArray, List.set_cons_zero, List.set_cons_succ]
  refine wpG_load (i := 15) (oi := { dst := some 36, op := Go.Op.load 4 (Go.Operand.tmp 35), type := 4, pos := "l2_type.go:222", after := #[{ on := 14, ground := Go.Ground.data }], guard := none }) (v := ?vg25) [] rfl (by kernel_rfl) (fun _ _ _ h => h) hHeld (Or.inl ⟨by rfl, ?yg25⟩) ?_
  case yg25 => (intro wS hSw; (try dsimp only at hSw); go_simp <;> with_reducible rfl)
  try simp only [Act.put, List.setIfInBounds_toArray, List.set_cons_zero, List.set_cons_succ]
  refine wpG_pure (i := 16) (oi := { dst := some 37, op := Go.Op.move (Go.Operand.tmp 36), type := 4, pos := "l2_type.go:222", after := #[{ on := 15, ground := Go.Ground.data }], guard := none }) (v := ?vg26) rfl (by kernel_rfl) (fun _ _ _ h => h) (Or.inr hHeld) (Or.inl ⟨by rfl, ?yg26⟩) ?_
  case yg26 => (intro wS _; go_simp <;> with_reducible rfl)
  try simp only [Act.put, List.setIfInBounds_toArray, List.set_cons_zero, List.set_cons_succ]
  refine wpG_pure (i := 17) (oi := { dst := some 38, op := Go.Op.move (Go.Operand.tmp 1), type := 65, pos := "l2_type.go:222", after := #[{ on := 16, ground := Go.Ground.guard }], guard := some (16, false) }) (v := undef) rfl (by kernel_rfl) (fun _ _ _ h => h) (Or.inr hHeld) (Or.inr ⟨by rfl, rfl⟩) ?_
  try simp only [Act.put, List.setIfInBounds_toArray, List.set_cons_zero, List.set_cons_succ]
  refine wpG_pure (i := 18) (oi := { dst := some 39, op := Go.Op.nilCheck (Go.Operand.tmp 38), type := 0, pos := "l2_type.go:222", after := #[{ on := 17, ground := Go.Ground.data }, { on := 16, ground := Go.Ground.guard }], guard := some (16, false) }) (v := undef) rfl (by kernel_rfl) (fun _ _ _ h => h) (Or.inr hHeld) (Or.inr ⟨by rfl, rfl⟩) ?_
  try simp only [Act.put, List.setIfInBounds_toArray, List.set_cons_zero, List.set_cons_succ]
  refine wpG_pure (i := 19) (oi := { dst := some 40, op := Go.Op.fieldAddr 103 (Go.Operand.tmp 39) 3, type := 0, pos := "l2_type.go:222", after := #[{ on := 18, ground := Go.Ground.data }, { on := 16, ground := Go.Ground.guard }], guard := some (16, false) }) (v := undef) rfl (by kernel_rfl) (fun _ _ _ h => h) (Or.inr hHeld) (Or.inr ⟨by rfl, rfl⟩) ?_
  try simp only [Act.put, List.setIfInBounds_toArray, List.set_cons_zero, List.set_cons_succ]
  refine wpG_pure (i := 20) (oi := { dst := some 41, op := Go.Op.load 4 (Go.Operand.tmp 40), type := 4, pos := "l2_type.go:222", after := #[{ on := 19, ground := Go.Ground.data }, { on := 16, ground := Go.Ground.guard }], guard := some (16, false) }) (v := undef) rfl (by kernel_rfl) (fun _ _ _ h => h) (Or.inr hHeld) (Or.inr ⟨by rfl, rfl⟩) ?_
  try simp only [Act.put, List.setIfInBounds_toArray, List.set_cons_zero, List.set_cons_succ]
  refine wpG_pure (i := 21) (oi := { dst := some 42, op := Go.Op.pick (Go.Operand.tmp 37) (Go.Operand.const (Go.Value.bool true)) (Go.Operand.tmp 41), type := 4, pos := "l2_type.go:222", after := #[{ on := 16, ground := Go.Ground.data }, { on := 20, ground := Go.Ground.data }], guard := none }) (v := ?vg31) rfl (by kernel_rfl) (fun _ _ _ h => h) (Or.inr hHeld) (Or.inl ⟨by rfl, ?yg31⟩) ?_
  case yg31 => (intro wS _; go_simp <;> with_reducible rfl)
  try simp only [Act.put, List.setIfInBounds_toArray, List.set_cons_zero, List.set_cons_succ]
  refine wpG_pure (i := 22) (oi := { dst := some 43, op := Go.Op.move (Go.Operand.tmp 0), type := 65, pos := "l2_type.go:222", after := #[], guard := none }) (v := ?vg32) rfl (by kernel_rfl) (fun _ _ _ h => h) (Or.inr hHeld) (Or.inl ⟨by rfl, ?yg32⟩) ?_
  case yg32 => (intro wS _; go_simp <;> with_reducible rfl)
  try simp only [Act.put, List.setIfInBounds_toArray, List.set_cons_zero, List.set_cons_succ]
  refine wpG_pure (i := 23) (oi := { dst := some 44, op := Go.Op.nilCheck (Go.Operand.tmp 43), type := 0, pos := "l2_type.go:222", after := #[{ on := 22, ground := Go.Ground.data }], guard := none }) (v := ?vg33) rfl (by kernel_rfl) (fun _ _ _ h => h) (Or.inr hHeld) (Or.inl ⟨by rfl, ?yg33⟩) ?_
  case yg33 => (intro wS _; go_simp <;> with_reducible rfl)
  try simp only [Act.put, List.setIfInBounds_toArray, List.set_cons_zero, List.set_cons_succ]
  refine wpG_pure (i := 24) (oi := { dst := some 45, op := Go.Op.fieldAddr 103 (Go.Operand.tmp 44) 4, type := 0, pos := "l2_type.go:222", after := #[{ on := 23, ground := Go.Ground.data }], guard := none }) (v := ?vg34) rfl (by kernel_rfl) (fun _ _ _ h => h) (Or.inr hHeld) (Or.inl ⟨by rfl, ?yg34⟩) ?_
  case yg34 => (intro wS _; go_simp <;> with_reducible rfl)
  try simp only [Act.put, List.setIfInBounds_toArray, List.set_cons_zero, List.set_cons_succ]
  refine wpG_load (i := 25) (oi := { dst := some 46, op := Go.Op.load 3 (Go.Operand.tmp 45), type := 3, pos := "l2_type.go:222", after := #[{ on := 24, ground := Go.Ground.data }], guard := none }) (v := ?vg35) [] rfl (by kernel_rfl) (fun _ _ _ h => h) hHeld (Or.inl ⟨by rfl, ?yg35⟩) ?_
  case yg35 => (intro wS hSw; (try dsimp only at hSw); go_simp <;> with_reducible rfl)
  try simp only [Act.put, List.setIfInBounds_toArray, List.set_cons_zero, List.set_cons_succ]
  refine wpG_pure (i := 26) (oi := { dst := some 47, op := Go.Op.move (Go.Operand.tmp 1), type := 65, pos := "l2_type.go:222", after := #[], guard := none }) (v := ?vg36) rfl (by kernel_rfl) (fun _ _ _ h => h) (Or.inr hHeld) (Or.inl ⟨by rfl, ?yg36⟩) ?_
  case yg36 => (intro wS _; go_simp <;> with_reducible rfl)
  try simp only [Act.put, List.setIfInBounds_toArray, List.set_cons_zero, List.set_cons_succ]
  refine wpG_pure (i := 27) (oi := { dst := some 48, op := Go.Op.nilCheck (Go.Operand.tmp 47), type := 0, pos := "l2_type.go:222", after := #[{ on := 26, ground := Go.Ground.data }], guard := none }) (v := ?vg37) rfl (by kernel_rfl) (fun _ _ _ h => h) (Or.inr hHeld) (Or.inl ⟨by rfl, ?yg37⟩) ?_
  case yg37 => (intro wS _; go_simp <;> with_reducible rfl)
  try simp only [Act.put, List.setIfInBounds_toArray, List.set_cons_zero, List.set_cons_succ]
  refine wpG_pure (i := 28) (oi := { dst := some 49, op := Go.Op.fieldAddr 103 (Go.Operand.tmp 48) 4, type := 0, pos := "l2_type.go:222", after := #[{ on := 27, ground := Go.Ground.data }], guard := none }) (v := ?vg38) rfl (by kernel_rfl) (fun _ _ _ h => h) (Or.inr hHeld) (Or.inl ⟨by rfl, ?yg38⟩) ?_
  case yg38 => (intro wS _; go_simp <;> with_reducible rfl)
  try simp only [Act.put, List.setIfInBounds_toArray, List.set_cons_zero, List.set_cons_succ]
  refine wpG_load (i := 29) (oi := { dst := some 50, op := Go.Op.load 3 (Go.Operand.tmp 49), type := 3, pos := "l2_type.go:222", after := #[{ on := 28, ground := Go.Ground.data }], guard := none }) (v := ?vg39) [] rfl (by kernel_rfl) (fun _ _ _ h => h) hHeld (Or.inl ⟨by rfl, ?yg39⟩) ?_
  case yg39 => (intro wS hSw; (try dsimp only at hSw); go_simp <;> with_reducible rfl)
  try simp only [Act.put, List.setIfInBounds_toArray, List.set_cons_zero, List.set_cons_succ]
  refine wpG_pure (i := 30) (oi := { dst := some 51, op := Go.Op.call { callee := Go.Callee.builtin Go.Builtin.min, args := #[Go.Operand.tmp 46, Go.Operand.tmp 50], argTypes := #[3, 3] }, type := 3, pos := "l2_type.go:222", after := #[{ on := 25, ground := Go.Ground.data }, { on := 29, ground := Go.Ground.data }], guard := none }) (v := ?vg40) rfl (by kernel_rfl) (fun _ _ _ h => h) (Or.inr hHeld) (Or.inl ⟨by rfl, ?yg40⟩) ?_
  case yg40 => (intro wS _; go_simp <;> with_reducible rfl)
  try simp only [Act.put, List.setIfInBounds_toArray, List.set_cons_zero, List.set_cons_succ]
  refine wpG_pure (i := 31) (oi := { dst := some 52, op := Go.Op.build 103 #[(0, Go.Operand.tmp 24), (1, Go.Operand.tmp 28), (2, Go.Operand.tmp 32), (3, Go.Operand.tmp 42), (4, Go.Operand.tmp 51)], type := 103, pos := "l2_type.go:222", after := #[{ on := 3, ground := Go.Ground.data }, { on := 7, ground := Go.Ground.data }, { on := 11, ground := Go.Ground.data }, { on := 21, ground := Go.Ground.data }, { on := 30, ground := Go.Ground.data }], guard := none }) (v := ?vg41) rfl (by kernel_rfl) (fun _ _ _ h => h) (Or.inr hHeld) (Or.inl ⟨by rfl, ?yg41⟩) ?_
  case yg41 => (intro wS _; go_simp <;> with_reducible rfl)
  try simp only [Act.put, List.setIfInBounds_toArray, List.set_cons_zero, List.set_cons_succ]
  refine wpG_one (i := 32) (o := { dst := some 53, op := Go.Op.box 103 (Go.Operand.tmp 52), type := 65, pos := "l2_type.go:222", after := #[{ on := 31, ground := Go.Ground.data }], guard := none }) rfl (by kernel_rfl) (fun K hK => ?_)
  go_simp
  refine hK.out _ _ (Or.inr ?khHeld42) (fun hHeld42S => ?_)
  case khHeld42 => exact ⟨cell_alloc _ x0, cell_alloc _ x1, cell_alloc _ x2, cell_alloc _ x3, cell_alloc _ x4, cell_alloc _ y3, cell_alloc _ y4⟩
  have hHeld42 := hHeld42S.held (by kernel_rfl)
  clear hK K
  try simp only [Act.put, List.setIfInBounds_toArray, List.set_cons_zero, List.set_cons_succ]
  refine wpG_pure (i := 33) (oi := { dst := some 5, op := Go.Op.assign (Go.Operand.tmp 53), type := 65, pos := "l2_type.go:222", after := #[{ on := 32, ground := Go.Ground.data }, { on := 16, ground := Go.Ground.chain }, { on := 0, ground := Go.Ground.phase }, { on := 1, ground := Go.Ground.phase }, { on := 2, ground := Go.Ground.phase }, { on := 3, ground := Go.Ground.phase }, { on := 4, ground := Go.Ground.phase }, { on := 5, ground := Go.Ground.phase }, { on := 6, ground := Go.Ground.phase }, { on := 7, ground := Go.Ground.phase }, { on := 8, ground := Go.Ground.phase }, { on := 9, ground := Go.Ground.phase }, { on := 10, ground := Go.Ground.phase }, { on := 11, ground := Go.Ground.phase }, { on := 12, ground := Go.Ground.phase }, { on := 13, ground := Go.Ground.phase }, { on := 14, ground := Go.Ground.phase }, { on := 15, ground := Go.Ground.phase }, { on := 16, ground := Go.Ground.phase }, { on := 17, ground := Go.Ground.phase }, { on := 18, ground := Go.Ground.phase }, { on := 19, ground := Go.Ground.phase }, { on := 20, ground := Go.Ground.phase }, { on := 21, ground := Go.Ground.phase }, { on := 22, ground := Go.Ground.phase }, { on := 23, ground := Go.Ground.phase }, { on := 24, ground := Go.Ground.phase }, { on := 25, ground := Go.Ground.phase }, { on := 26, ground := Go.Ground.phase }, { on := 27, ground := Go.Ground.phase }, { on := 28, ground := Go.Ground.phase }, { on := 29, ground := Go.Ground.phase }, { on := 30, ground := Go.Ground.phase }, { on := 31, ground := Go.Ground.phase }, { on := 32, ground := Go.Ground.phase }], guard := none }) (v := ?vg43) rfl (by kernel_rfl) (fun _ _ _ h => h) (Or.inr hHeld42) (Or.inl ⟨by rfl, ?yg43⟩) ?_
  case yg43 => (intro wS _; go_simp <;> with_reducible rfl)
  try simp only [Act.put, List.setIfInBounds_toArray, List.set_cons_zero, List.set_cons_succ]
  refine wpG_done (by kernel_rfl) ?_
  have hX2 : (w1.alloc (.cells #[.int .i64 k, .string nm, .int .i64 no, .bool true, .int .i64 (min mo mo'), .slice none 0 0] 103)).drew.heap[w1.heap.size]? = some (.cells #[.int .i64 k, .string nm, .int .i64 no, .bool true, .int .i64 (min mo mo'), .slice none 0 0] 103) := heap_alloc_new w1 _
  have hb2 : Below w1.heap.size w1 (w1.alloc (.cells #[.int .i64 k, .string nm, .int .i64 no, .bool true, .int .i64 (min mo mo'), .slice none 0 0] 103)).drew := ((Below.refl w1.heap.size w1).alloc (Nat.le_refl _) _).drew
  generalize hw2 : (w1.alloc (.cells #[.int .i64 k, .string nm, .int .i64 no, .bool true, .int .i64 (min mo mo'), .slice none 0 0] 103)).drew = w2 at *
  have l2 := hp_lt hX2
  have HO := Lib.hid hX2
  have HX := Lib.hid (hp_later hb2 HX.out)
  have HY := Lib.hid (hp_later hb2 HY.out)
  have HB2 := Lib.hid (HB1.out.trans (hb2.mono HB1.out.size))
  clear hX2 hb2 x0 x1 x2 x3 x4 x5 y0 y1 y2 y3 y4 y5
  obtain ⟨x0, x1, x2, x3, x4, x5⟩ := box6 HX.out
  obtain ⟨y0, y1, y2, y3, y4, y5⟩ := box6 HY.out
  have hzb := HB2.out.size
  have HOUT2 : Hid (OutP (mpS S w.heap.size w1.heap.size) w1.heap.size w2.heap.size w2 k nm no true (min mo mo') [] (.slice none 0 0) [] w2) := Lib.hid ⟨HO.out, World.ownsRow_nil _ _ _ _, by rw [KPs], Wrote.refl _ _, l2, Nat.le_refl _, Nat.le_refl _⟩
  clear HO
  generalize hMO : min mo mo' = MO at *
  go_wp2_with fail
  go_loopw [85] (fun iv wr => ∃ (i : Nat) (l : List Tr) (a6 : Option Addr) (c6 : Nat) (vs : List Value), i ≤ ks.length ∧ iv = .int .i64 (i : Int) ∧ Hid (l.length = i) ∧ Hid (meetL (ks.take i) us = some l) ∧ Hid (OutP (mpS S w.heap.size w1.heap.size) w1.heap.size w2.heap.size w2 k nm no true MO l (.slice a6 l.length c6) vs wr)) (fun iv _ => ks.length - (intOf iv).toNat)
  case atStart => exact ⟨0, [], none, 0, [], by omega, rfl, Lib.hid rfl, Lib.hid (by rw [List.take_zero, meetL]), HOUT2⟩
  case round =>
    clear HOUT2
    obtain ⟨wo, rfl⟩ : ∃ z : World, z = wr := ⟨_, rfl⟩
    obtain ⟨i, l, a6, c6, vs, hil, rfl, HN6, HL, HO⟩ := hrel
    have HBo := Lib.hid (rwrote HB2.out HO.out.wrote (fun q hq => by omega))
    have hzo := HO.out.size
    clear x0 x1 x2 x3 x4 x5 y0 y1 y2 y3 y4 y5
    by_cases hend : i < ks.length
    case neg =>
      have HLL : Hid (meetL ks us = some l) := Lib.hid (by have := HL.out; rwa [show i = ks.length by omega, List.take_length] at this)
      have HLE := Lib.hid (show l.length ≤ i + 0 by rw [HN6.out]; omega)
      clear HL HN6
      obtain ⟨y0, y1, y2, y3, y4, y5⟩ := box6 (wrote_hpI HO.out.wrote HY.out (by omega))
      have hge : ¬ ((i : Int) < (ks.length : Int)) := by omega
      go_wp2_with fail
      go_loopw [118] (fun jv wr => ∃ (j : Nat) (L6 : List Tr) (a6 : Option Addr) (c6 : Nat) (vs : List Value), j ≤ us.length ∧ jv = .int .i64 (j : Int) ∧ Hid (L6.length ≤ i + j) ∧ Hid (L6 = l ++ restP ks (us.take j)) ∧ Hid (OutP (mpS S w.heap.size w1.heap.size) w1.heap.size w2.heap.size w2 k nm no true MO L6 (.slice a6 L6.length c6) vs wr)) (fun jv _ => us.length - (intOf jv).toNat)
      case atStart => exact ⟨0, l, a6, c6, vs, by omega, rfl, HLE, Lib.hid (by rw [List.take_zero]; unfold restP; rw [List.filter_nil, List.append_nil]), HO⟩
      case round =>
        clear HO HBo hzo HLE y0 y1 y2 y3 y4 y5
        obtain ⟨wv, rfl⟩ : ∃ z : World, z = wr := ⟨_, rfl⟩
        obtain ⟨j, L6, a6, c6, vs, hjl, rfl, HN6, HS6, HO⟩ := hrel
        have HBo := Lib.hid (rwrote HB2.out HO.out.wrote (fun q hq => by omega))
        have hzo := HO.out.size
        by_cases hjend : j < us.length
        case neg =>
          have HLM : Hid (L6 = l ++ restP ks us) := Lib.hid (by have := HS6.out; rwa [show j = us.length by omega, List.take_length] at this)
          have hgj : ¬ ((j : Int) < (us.length : Int)) := by omega
          have HBN := Lib.hid (impl_byNo HO.out.cells HO.out.own HO.out.kps (fun q h => h.2) (by have := HN6.out; omega))
          unfold SortO at HBN
          go_wp2_with fail
          refine HBN.out.mono ?_
          rintro e wz ⟨rfl, us', vs', hperm, hsrt, hown, hkps, hgr⟩
          have HKF := Lib.hid (HO.out.done HNM.out hz1 hzb hperm.length_eq hown hkps hgr)
          have HUS : Hid (us' = sortNo (l ++ restP ks us)) := Lib.hid (sorted_one (meet_nos HLL.out HDA.out HDB.out) (by rw [← HLM.out]; exact hperm) (sortNo_perm _) hsrt (sortNo_sorted _))
          have HBF := Lib.hid (Below.grown HBo.out hgr HBo.out.size (fun q hq => by have := (HO.out.own.lt q hq).1; omega))
          clear hperm hsrt hown hkps hgr
          go_wp2_with fail
          go_ret
          exact meetp_yes (by rw [HT.out, HLL.out]) HBF.out (by rw [← HUS.out]; exact HKF.out)
        obtain ⟨y, hy⟩ : ∃ y, us[j]? = some y := ⟨us[j], List.getElem?_eq_getElem hjend⟩
        obtain ⟨qb, offq, px, vx, cx, wsx, rfl, hqb, q0, hkx, hpx, hcx, -⟩ := kps_at HRB.out HKB.out HBo.out hy
        have HKX := Lib.hid (KP.keep (T := (fun q => S q ∧ q < w.heap.size)) (kept_below HBo.out) (fun q h hl => ⟨h, hl⟩) _ _ hkx)
        obtain ⟨x0, x1, x2, x3, x4, x5⟩ := box6 hcx
        have HRT := Lib.hid (restP_take (ks := ks) hy)
        have HP := Lib.hid (HPA.out wv y.no HBo.out)
        clear hy hkx hcx
        go_wp2_with fail
        refine HP.out.mono ?_
        rintro e wb ⟨v, rfl, hb, ⟨hno, rfl⟩ | ⟨x, hyes, hkq⟩⟩
        · have HOz := Lib.hid (HO.out.later hb)
          have HKZ : Hid (KP (fun q => (mpS S w.heap.size w1.heap.size) q ∧ (Value.slice a6 L6.length c6).ownBlock ≠ some q) wb y (.pointer (some ⟨px, 0, none⟩))) := Lib.hid (KP.keep (kept_below hb) (fun q h hl => ⟨.inl h, fun e => by have := (HO.out.own.lt q e).1; have := h.2; omega⟩) _ _ HKX.out)
          have HR2 : Hid (restP ks (us.take (j + 1)) = restP ks (us.take j) ++ [y]) := Lib.hid (by rw [HRT.out, hno]; rfl)
          clear hb hno x0 x1 x2 x3 x4 x5 q0 HP HKX HO
          have HOB := Lib.hid HOz.out.cells
          obtain ⟨s0, s1, s2, s3, s4, s5⟩ := box6 HOB.out
          have hcp9 := own_cap HOz.out.own
          have hzq := HOz.out.size
          go_wp2_with (at_builtin; refine wpList_append_lies _ rfl _ _ 101 rfl w2.heap.size 65 i0 (.pointer none) 1 8 Try.underlying101 hi0 hj0 hj1 hj2 rfl (by decide) _ L6.length _ rfl (HOz.out.own.alloc _) _ 1 1 [.pointer (some ⟨px, 0, none⟩)] rfl rfl (news_one _ _ _) (by simp [Value.oneCell']) (by decide) (by unfold maxLen; have := HN6.out; omega) (by have := HN6.out; omega) (by simp; omega) _ rfl ?_)
          intro g cp w8 hown hgrow hat hlt6
          obtain ⟨happ, hX8⟩ := OutP.app HOz.out HKZ.out hown hgrow (by
            rcases hat with e | e
            · exact .inl e
            · right; simpa using e) (mpS_X hz1)
          have HAPP := Lib.hid happ
          obtain ⟨-, -, -, -, -, v5⟩ := box6 hX8
          have u5 := box6_z hX8 5
          clear hown hgrow hat happ hX8 s0 s1 s2 s3 s4 s5
          go_wp2_with fail
          go_roundw
          case rel => exact ⟨j + 1, L6 ++ [y], some ⟨g, 0, none⟩, cp, _, by omega, by go_num, Lib.hid (by rw [List.length_append]; have := HN6.out; simp; omega), Lib.hid (by rw [HR2.out, ← List.append_assoc, HS6.out]), Lib.hid (by rw [List.length_append]; exact HAPP.out)⟩
          case measure => (simp [intOf]; try omega)
        obtain ⟨pq, rfl, -, -⟩ := hkq.ptr
        have HOz := Lib.hid (HO.out.later hb)
        have HR2 : Hid (restP ks (us.take (j + 1)) = restP ks (us.take j)) := Lib.hid (by rw [HRT.out, hyes]; rfl)
        clear hb hyes hkq x0 x1 x2 x3 x4 x5 q0 HP HKX HO
        go_wp2_with fail
        go_roundw
        case rel => exact ⟨j + 1, L6, a6, c6, vs, by omega, by go_num, Lib.hid (by have := HN6.out; omega), Lib.hid (by rw [HR2.out]; exact HS6.out), HOz⟩
        case measure => (simp [intOf]; try omega)
    obtain ⟨x, hx⟩ : ∃ x, ks[i]? = some x := ⟨ks[i], List.getElem?_eq_getElem hend⟩
    have hxm := List.mem_of_getElem? hx
    obtain ⟨qb, offq, px, vx, cx, wsx, rfl, hqb, q0, hkx, hpx, hcx, -⟩ := kps_at HRA.out HKA.out HBo.out hx
    have HKX := Lib.hid (KP.keep (T := (fun q => S q ∧ q < w.heap.size)) (kept_below HBo.out) (fun q h hl => ⟨h, hl⟩) _ _ hkx)
    obtain ⟨x0, x1, x2, x3, x4, x5⟩ := box6 hcx
    have HMN : Hid (meetP us x = none → meetL ks us = none) := Lib.hid (meetL_no hxm)
    have HMY : Hid (∀ z, meetP us x = some z → meetL (ks.take (i + 1)) us = some (l ++ [z])) := Lib.hid (fun z hz => meetL_take hx HL.out hz)
    have HXM := Lib.hid hxm
    have HP := Lib.hid (HPB.out wo x.no HBo.out)
    clear hx hxm hkx hcx HL
    go_wp2_with fail
    refine HP.out.mono ?_
    rintro e wb ⟨v, rfl, hb, ⟨hno, rfl⟩ | ⟨y, hyes, hky⟩⟩
    · have HOz := Lib.hid (HO.out.later hb)
      have HKZ : Hid (KP (fun q => (mpS S w.heap.size w1.heap.size) q ∧ (Value.slice a6 l.length c6).ownBlock ≠ some q) wb x (.pointer (some ⟨px, 0, none⟩))) := Lib.hid (KP.keep (kept_below hb) (fun q h hl => ⟨.inl h, fun e => by have := (HO.out.own.lt q e).1; have := h.2; omega⟩) _ _ HKX.out)
      have HPN : Hid (meetP us x = some x) := Lib.hid (by unfold meetP; rw [hno])
      clear hb hno x0 x1 x2 x3 x4 x5 q0 HP HKX HO
      have HOB := Lib.hid HOz.out.cells
      obtain ⟨s0, s1, s2, s3, s4, s5⟩ := box6 HOB.out
      have hcp9 := own_cap HOz.out.own
      have hzq := HOz.out.size
      go_wp2_with (at_builtin; refine wpList_append_lies _ rfl _ _ 101 rfl w2.heap.size 65 i0 (.pointer none) 1 8 Try.underlying101 hi0 hj0 hj1 hj2 rfl (by decide) _ l.length _ rfl (HOz.out.own.alloc _) _ 1 1 [.pointer (some ⟨px, 0, none⟩)] rfl rfl (news_one _ _ _) (by simp [Value.oneCell']) (by decide) (by unfold maxLen; have := HN6.out; omega) (by have := HN6.out; omega) (by simp; omega) _ rfl ?_)
      intro g cp w8 hown hgrow hat hlt6
      obtain ⟨happ, hX8⟩ := OutP.app HOz.out HKZ.out hown hgrow (by
        rcases hat with e | e
        · exact .inl e
        · right; simpa using e) (mpS_X hz1)
      have HAPP := Lib.hid happ
      obtain ⟨-, -, -, -, -, v5⟩ := box6 hX8
      have u5 := box6_z hX8 5
      clear hown hgrow hat happ hX8 s0 s1 s2 s3 s4 s5
      go_wp2_with fail
      go_roundw
      case rel => exact ⟨i + 1, l ++ [x], some ⟨g, 0, none⟩, cp, _, by omega, by go_num, Lib.hid (by simp [HN6.out]), Lib.hid (HMY.out x HPN.out), Lib.hid (by rw [List.length_append]; exact HAPP.out)⟩
      case measure => (simp [intOf]; try omega)
    obtain ⟨py, rfl, -, -⟩ := hky.ptr
    have HOz := Lib.hid (HO.out.later hb)
    have HBz := Lib.hid (HBo.out.trans (hb.mono HBo.out.size))
    have hzw := hb.size
    have HC := Lib.hid (HIH.out (fun q => S q ∧ q < w.heap.size) wb x y _ _ HXM.out (byNo_no hyes).2 (HKX.out.later hb) hky)
    unfold MeetP at HC
    have HPE : Hid (meetP us x = meetT x y) := Lib.hid (by unfold meetP; rw [hyes])
    clear hb hky hyes x0 x1 x2 x3 x4 x5 q0 HP HKX HO
    go_wp2_with fail
    refine HC.out.mono ?_
    rintro e wc ⟨p, rfl, hb2, ⟨hno2, rfl⟩ | ⟨z, gz, hyes2, rfl, hkz⟩⟩
    · have HBc := Lib.hid (HBz.out.trans (hb2.mono HBz.out.size))
      have HNONE : Hid (meetL ks us = none) := Lib.hid (HMN.out (by rw [HPE.out, hno2]))
      clear hb2 hno2 HC
      go_wp2_with fail
      go_ret
      exact meetp_no (by rw [HT.out, HNONE.out]) HBc.out
    have HOc := Lib.hid (HOz.out.later hb2)
    have HKZ : Hid (KP (fun q => (mpS S w.heap.size w1.heap.size) q ∧ (Value.slice a6 l.length c6).ownBlock ≠ some q) wc z (.pointer (some ⟨gz, 0, none⟩))) := Lib.hid (KP.keep (Kept.refl _ wc) (fun q h hl => by
      rcases h with h | h
      · exact ⟨.inl h, fun e => by have := (HOz.out.own.lt q e).1; have := h.2; omega⟩
      · exact ⟨.inr ⟨by omega, by omega⟩, fun e => by have := (HOz.out.own.lt q e).2; omega⟩) _ _ hkz)
    have HPZ : Hid (meetP us x = some z) := Lib.hid (HPE.out.trans hyes2)
    clear hb2 hyes2 hkz HC
    have HOB := Lib.hid HOc.out.cells
    obtain ⟨s0, s1, s2, s3, s4, s5⟩ := box6 HOB.out
    have hcp9 := own_cap HOc.out.own
    have hzq := HOc.out.size
    go_wp2_with (at_builtin; refine wpList_append_lies _ rfl _ _ 101 rfl w2.heap.size 65 i0 (.pointer none) 1 8 Try.underlying101 hi0 hj0 hj1 hj2 rfl (by decide) _ l.length _ rfl (HOc.out.own.alloc _) _ 1 1 [.pointer (some ⟨gz, 0, none⟩)] rfl rfl (news_one _ _ _) (by simp [Value.oneCell']) (by decide) (by unfold maxLen; have := HN6.out; omega) (by have := HN6.out; omega) (by simp; omega) _ rfl ?_)
    intro g cp w8 hown hgrow hat hlt6
    obtain ⟨happ, hX8⟩ := OutP.app HOc.out HKZ.out hown hgrow (by
      rcases hat with e | e
      · exact .inl e
      · right; simpa using e) (mpS_X hz1)
    have HAPP := Lib.hid happ
    obtain ⟨-, -, -, -, -, v5⟩ := box6 hX8
    have u5 := box6_z hX8 5
    clear hown hgrow hat happ hX8 s0 s1 s2 s3 s4 s5
    go_wp2_with fail
    go_roundw
    case rel => exact ⟨i + 1, l ++ [z], some ⟨g, 0, none⟩, cp, _, by omega, by go_num, Lib.hid (by simp [HN6.out]), Lib.hid (HMY.out z HPZ.out), Lib.hid (by rw [List.length_append]; exact HAPP.out)⟩
    case measure => (simp [intOf]; try omega)
set_option maxHeartbeats 16000000 in
theorem imeet_msg_f {S : Nat → Prop} {w : World} {bx bY : Nat} (nm nm' : ByteArray) (no no' : Int) (m' : Bool) (mo mo' : Int) (k k' : Int) (hk : k = k') (h4 : ¬ k = 4) (ks us : List Tr) {va vb : Option Addr} {ca cb : Nat} {vsa vsb : List Value} (hSa : S bx) (hSb : S bY) (hX : w.heap[bx]? = some (.cells #[.int .i64 k, .string nm, .int .i64 no, .bool false, .int .i64 mo, .slice va ks.length ca] 103)) (hY : w.heap[bY]? = some (.cells #[.int .i64 k', .string nm', .int .i64 no', .bool m', .int .i64 mo', .slice vb us.length cb] 103)) (hnm : nm.size ≤ maxLen) (hnm' : nm'.size ≤ maxLen) (hca : ks.length ≤ ca) (hcam : ca ≤ 9223372036854775807) (hcb : us.length ≤ cb) (hcbm : cb ≤ 9223372036854775807) (hra : RS S w va vsa) (hka : KPs S w ks vsa) (hrb : RS S w vb vsb) (hkb : KPs S w us vsb) (hll : ks.length + us.length ≤ 1048576) (hda : ks.Pairwise (fun a b => ¬ a.no = b.no)) (hdb : us.Pairwise (fun a b => ¬ a.no = b.no))
    (IH : ∀ (S' : Nat → Prop) (wx : World) (x y : Tr) (px py : Value), x ∈ ks → y ∈ us → KP S' wx x px → KP S' wx y py → Calls Try.prog 39 #[px, py] wx (MeetP S' x y wx)) :
    Calls Try.prog 39 #[.pointer (some ⟨bx, 0, none⟩), .pointer (some ⟨bY, 0, none⟩)] w (MeetP S (.node k nm no false mo ks) (.node k' nm' no' m' mo' us) w) := by
  obtain ⟨i0, hi0, hj0, hj1, hj2⟩ := info_parts Try.infoKPtr
  have HT := Lib.hid (meetT_msg (a := .node k nm no false mo ks) (b := .node k' nm' no' m' mo' us) hk h4)
  simp only [Tr.kind, Tr.name, Tr.no, Tr.must, Tr.most, Tr.kids] at HT
  have nk : (k != k') = false := by rw [hk]; exact bne_self_eq_false _
  have n4 : (k == 4) = false := beq_eq_false_iff_ne.2 h4
  have HIH := Lib.hid IH
  have hA : KP S w (.node k nm no false mo ks) (.pointer (some ⟨bx, 0, none⟩)) := by rw [KP]; exact ⟨bx, va, ca, vsa, rfl, hSa, hX, hnm, hca, hcam, hra, hka⟩
  have hB : KP S w (.node k' nm' no' m' mo' us) (.pointer (some ⟨bY, 0, none⟩)) := by rw [KP]; exact ⟨bY, vb, cb, vsb, rfl, hSb, hY, hnm', hcb, hcbm, hrb, hkb⟩
  have HPA : Hid (∀ wx no2, Below w.heap.size w wx → Calls Try.prog 70 #[.pointer (some ⟨bx, 0, none⟩), .int .i64 no2] wx (PartV (fun q => S q ∧ q < w.heap.size) (.node k nm no false mo ks) no2 wx)) := Lib.hid (fun wx no2 hbx => impl_part (KP.keep (kept_below hbx) (fun q h hl => ⟨h, hl⟩) _ _ hA) (show ks.length ≤ 1048576 by omega) no2)
  have HPB : Hid (∀ wx no2, Below w.heap.size w wx → Calls Try.prog 70 #[.pointer (some ⟨bY, 0, none⟩), .int .i64 no2] wx (PartV (fun q => S q ∧ q < w.heap.size) (.node k' nm' no' m' mo' us) no2 wx)) := Lib.hid (fun wx no2 hbx => impl_part (KP.keep (kept_below hbx) (fun q h hl => ⟨h, hl⟩) _ _ hB) (show us.length ≤ 1048576 by omega) no2)
  unfold PartV at HPA HPB
  simp only [Tr.kids] at HPA HPB
  have HRA := Lib.hid hra; have HKA := Lib.hid hka; have HRB := Lib.hid hrb; have HKB := Lib.hid hkb
  have HNM := Lib.hid hnm
  have HDA := Lib.hid hda; have HDB := Lib.hid hdb
  clear hk h4 hA hB IH hra hka hrb hkb hnm hnm' hda hdb hSa hSb
  have hYl := hp_lt hY
  obtain ⟨x0, x1, x2, x3, x4, x5⟩ := box6 hX
  obtain ⟨y0, y1, y2, y3, y4, y5⟩ := box6 hY
  have HX := Lib.hid hX
  have HY := Lib.hid hY
  clear hX hY
  go_enter Try.func39, Try.ntmps39
  go_wp2_with fail
  refine wp_region_G [] (fun w' => w'.cell? ⟨bx, 0, none⟩ = some (.int .i64 k) ∧ w'.cell? ⟨bY, 0, none⟩ = some (.int .i64 k')) (by kernel_rfl) ?_ (fun hHeld => ?_)
  · exact ⟨x0, y0⟩
  refine wpG_pure (i := 0) (oi := { dst := some 12, op := Go.Op.move (Go.Operand.tmp 0), type := 65, pos := "l2_type.go:219", after := #[], guard := none }) (v := ?vg44) rfl (by kernel_rfl) (fun _ _ _ h => h) (Or.inr hHeld) (Or.inl ⟨by rfl, ?yg44⟩) ?_
  case yg44 => (intro wS _; go_simp <;> with_reducible rfl)
  try simp only [Act.put, List.setIfInBounds_toArray, List.set_cons_zero, List.set_cons_succ]
  refine wpG_pure (i := 1) (oi := { dst := some 13, op := Go.Op.nilCheck (Go.Operand.tmp 12), type := 0, pos := "l2_type.go:219", after := #[{ on := 0, ground := Go.Ground.data }], guard := none }) (v := ?vg45) rfl (by kernel_rfl) (fun _ _ _ h => h) (Or.inr hHeld) (Or.inl ⟨by rfl, ?yg45⟩) ?_
  case yg45 => (intro wS _; go_simp <;> with_reducible rfl)
  try simp only [Act.put, List.setIfInBounds_toArray, List.set_cons_zero, List.set_cons_succ]
  refine wpG_pure (i := 2) (oi := { dst := some 14, op := Go.Op.fieldAddr 103 (Go.Operand.tmp 13) 0, type := 0, pos := "l2_type.go:219", after := #[{ on := 1, ground := Go.Ground.data }], guard := none }) (v := ?vg46) rfl (by kernel_rfl) (fun _ _ _ h => h) (Or.inr hHeld) (Or.inl ⟨by rfl, ?yg46⟩) ?_
  case yg46 => (intro wS _; go_simp <;> with_reducible rfl)
  try simp only [Act.put, List.setIfInBounds_toArray, List.set_cons_zero, List.set_cons_succ]
  refine wpG_load (i := 3) (oi := { dst := some 15, op := Go.Op.load 3 (Go.Operand.tmp 14), type := 3, pos := "l2_type.go:219", after := #[{ on := 2, ground := Go.Ground.data }], guard := none }) (v := ?vg47) [] rfl (by kernel_rfl) (fun _ _ _ h => h) hHeld (Or.inl ⟨by rfl, ?yg47⟩) ?_
  case yg47 => (intro wS hSw; (try dsimp only at hSw); go_simp <;> with_reducible rfl)
  try simp only [Act.put, List.setIfInBounds_toArray, List.set_cons_zero, List.set_cons_succ]
  refine wpG_pure (i := 4) (oi := { dst := some 16, op := Go.Op.move (Go.Operand.tmp 1), type := 65, pos := "l2_type.go:219", after := #[], guard := none }) (v := ?vg48) rfl (by kernel_rfl) (fun _ _ _ h => h) (Or.inr hHeld) (Or.inl ⟨by rfl, ?yg48⟩) ?_
  case yg48 => (intro wS _; go_simp <;> with_reducible rfl)
  try simp only [Act.put, List.setIfInBounds_toArray, List.set_cons_zero, List.set_cons_succ]
  refine wpG_pure (i := 5) (oi := { dst := some 17, op := Go.Op.nilCheck (Go.Operand.tmp 16), type := 0, pos := "l2_type.go:219", after := #[{ on := 4, ground := Go.Ground.data }], guard := none }) (v := ?vg49) rfl (by kernel_rfl) (fun _ _ _ h => h) (Or.inr hHeld) (Or.inl ⟨by rfl, ?yg49⟩) ?_
  case yg49 => (intro wS _; go_simp <;> with_reducible rfl)
  try simp only [Act.put, List.setIfInBounds_toArray, List.set_cons_zero, List.set_cons_succ]
  refine wpG_pure (i := 6) (oi := { dst := some 18, op := Go.Op.fieldAddr 103 (Go.Operand.tmp 17) 0, type := 0, pos := "l2_type.go:219", after := #[{ on := 5, ground := Go.Ground.data }], guard := none }) (v := ?vg50) rfl (by kernel_rfl) (fun _ _ _ h => h) (Or.inr hHeld) (Or.inl ⟨by rfl, ?yg50⟩) ?_
  case yg50 => (intro wS _; go_simp <;> with_reducible rfl)
  try simp only [Act.put, List.setIfInBounds_toArray, List.set_cons_zero, List.set_cons_succ]
  refine wpG_load (i := 7) (oi := { dst := some 19, op := Go.Op.load 3 (Go.Operand.tmp 18), type := 3, pos := "l2_type.go:219", after := #[{ on := 6, ground := Go.Ground.data }], guard := none }) (v := ?vg51) [] rfl (by kernel_rfl) (fun _ _ _ h => h) hHeld (Or.inl ⟨by rfl, ?yg51⟩) ?_
  case yg51 => (intro wS hSw; (try dsimp only at hSw); go_simp <;> with_reducible rfl)
  try simp only [Act.put, List.setIfInBounds_toArray, List.set_cons_zero, List.set_cons_succ]
  refine wpG_pure (i := 8) (oi := { dst := some 20, op := Go.Op.binOp Go.BinOp.neq 3 (Go.Operand.tmp 15) (Go.Operand.tmp 19) 3, type := 4, pos := "l2_type.go:219", after := #[{ on := 3, ground := Go.Ground.data }, { on := 7, ground := Go.Ground.data }], guard := none }) (v := ?vg52) rfl (by kernel_rfl) (fun _ _ _ h => h) (Or.inr hHeld) (Or.inl ⟨by rfl, ?yg52⟩) ?_
  case yg52 => (intro wS _; go_simp <;> with_reducible rfl)
  try simp only [Act.put, List.setIfInBounds_toArray, List.set_cons_zero, List.set_cons_succ]
  refine wpG_done (by kernel_rfl) ?_
  have hb1 := (Below.refl w.heap.size w).drew
  generalize hw1 : w.drew = w1 at *
  have HX := Lib.hid (hp_later hb1 HX.out)
  have HY := Lib.hid (hp_later hb1 HY.out)
  have hz1 := hb1.size
  have HB1 := Lib.hid hb1
  clear hb1 x0 x1 x2 x3 x4 x5 y0 y1 y2 y3 y4 y5
  obtain ⟨x0, x1, x2, x3, x4, x5⟩ := box6 HX.out
  obtain ⟨y0, y1, y2, y3, y4, y5⟩ := box6 HY.out
  go_wp2_with fail
  refine wp_region_G [] (fun w' => w'.cell? ⟨bx, 0, none⟩ = some (.int .i64 k) ∧ w'.cell? ⟨bx, 1, none⟩ = some (.string nm) ∧ w'.cell? ⟨bx, 2, none⟩ = some (.int .i64 no) ∧ w'.cell? ⟨bx, 3, none⟩ = some (.bool false) ∧ w'.cell? ⟨bx, 4, none⟩ = some (.int .i64 mo) ∧ w'.cell? ⟨bY, 3, none⟩ = some (.bool m') ∧ w'.cell? ⟨bY, 4, none⟩ = some (.int .i64 mo')) (by kernel_rfl) ?_ (fun hHeld => ?_)
  · exact ⟨x0, x1, x2, x3, x4, y3, y4⟩
  refine wpG_pure (i := 0) (oi := { dst := some 21, op := Go.Op.move (Go.Operand.tmp 0), type := 65, pos := "l2_type.go:222", after := #[], guard := none }) (v := ?vg53) rfl (by kernel_rfl) (fun _ _ _ h => h) (Or.inr hHeld) (Or.inl ⟨by rfl, ?yg53⟩) ?_
  case yg53 => (intro wS _; go_simp <;> with_reducible rfl)
  try simp only [Act.put, List.setIfInBounds_toArray, List.set_cons_zero, List.set_cons_succ]
  refine wpG_pure (i := 1) (oi := { dst := some 22, op := Go.Op.nilCheck (Go.Operand.tmp 21), type := 0, pos := "l2_type.go:222", after := #[{ on := 0, ground := Go.Ground.data }], guard := none }) (v := ?vg54) rfl (by kernel_rfl) (fun _ _ _ h => h) (Or.inr hHeld) (Or.inl ⟨by rfl, ?yg54⟩) ?_
  case yg54 => (intro wS _; go_simp <;> with_reducible rfl)
  try simp only [Act.put, List.setIfInBounds_toArray, List.set_cons_zero, List.set_cons_succ]
  refine wpG_pure (i := 2) (oi := { dst := some 23, op := Go.Op.fieldAddr 103 (Go.Operand.tmp 22) 0, type := 0, pos := "l2_type.go:222", after := #[{ on := 1, ground := Go.Ground.data }], guard := none }) (v := ?vg55) rfl (by kernel_rfl) (fun _ _ _ h => h) (Or.inr hHeld) (Or.inl ⟨by rfl, ?yg55⟩) ?_
  case yg55 => (intro wS _; go_simp <;> with_reducible rfl)
  try simp only [Act.put, List.setIfInBounds_toArray, List.set_cons_zero, List.set_cons_succ]
  refine wpG_load (i := 3) (oi := { dst := some 24, op := Go.Op.load 3 (Go.Operand.tmp 23), type := 3, pos := "l2_type.go:222", after := #[{ on := 2, ground := Go.Ground.data }], guard := none }) (v := ?vg56) [] rfl (by kernel_rfl) (fun _ _ _ h => h) hHeld (Or.inl ⟨by rfl, ?yg56⟩) ?_
  case yg56 => (intro wS hSw; (try dsimp only at hSw); go_simp <;> with_reducible rfl)
  try simp only [Act.put, List.setIfInBounds_toArray, List.set_cons_zero, List.set_cons_succ]
  refine wpG_pure (i := 4) (oi := { dst := some 25, op := Go.Op.move (Go.Operand.tmp 0), type := 65, pos := "l2_type.go:222", after := #[], guard := none }) (v := ?vg57) rfl (by kernel_rfl) (fun _ _ _ h => h) (Or.inr hHeld) (Or.inl ⟨by rfl, ?yg57⟩) ?_
  case yg57 => (intro wS _; go_simp <;> with_reducible rfl)
  try simp only [Act.put, List.setIfInBounds_toArray, List.set_cons_zero, List.set_cons_succ]
  refine wpG_pure (i := 5) (oi := { dst := some 26, op := Go.Op.nilCheck (Go.Operand.tmp 25), type := 0, pos := "l2_type.go:222", after := #[{ on := 4, ground := Go.Ground.data }], guard := none }) (v := ?vg58) rfl (by kernel_rfl) (fun _ _ _ h => h) (Or.inr hHeld) (Or.inl ⟨by rfl, ?yg58⟩) ?_
  case yg58 => (intro wS _; go_simp <;> with_reducible rfl)
  try simp only [Act.put, List.setIfInBounds_toArray, List.set_cons_zero, List.set_cons_succ]
  refine wpG_pure (i := 6) (oi := { dst := some 27, op := Go.Op.fieldAddr 103 (Go.Operand.tmp 26) 1, type := 0, pos := "l2_type.go:222", after := #[{ on := 5, ground := Go.Ground.data }], guard := none }) (v := ?vg59) rfl (by kernel_rfl) (fun _ _ _ h => h) (Or.inr hHeld) (Or.inl ⟨by rfl, ?yg59⟩) ?_
  case yg59 => (intro wS _; go_simp <;> with_reducible rfl)
  try simp only [Act.put, List.setIfInBounds_toArray, List.set_cons_zero, List.set_cons_succ]
  refine wpG_load (i := 7) (oi := { dst := some 28, op := Go.Op.load 9 (Go.Operand.tmp 27), type := 9, pos := "l2_type.go:222", after := #[{ on := 6, ground := Go.Ground.data }], guard := none }) (v := ?vg60) [] rfl (by kernel_rfl) (fun _ _ _ h => h) hHeld (Or.inl ⟨by rfl, ?yg60⟩) ?_
  case yg60 => (intro wS hSw; (try dsimp only at hSw); go_simp <;> with_reducible rfl)
  try simp only [Act.put, List.setIfInBounds_toArray, List.set_cons_zero, List.set_cons_succ]
  refine wpG_pure (i := 8) (oi := { dst := some 29, op := Go.Op.move (Go.Operand.tmp 0), type := 65, pos := "l2_type.go:222", after := #[], guard := none }) (v := ?vg61) rfl (by kernel_rfl) (fun _ _ _ h => h) (Or.inr hHeld) (Or.inl ⟨by rfl, ?yg61⟩) ?_
  case yg61 => (intro wS _; go_simp <;> with_reducible rfl)
  try simp only [Act.put, List.setIfInBounds_toArray, List.set_cons_zero, List.set_cons_succ]
  refine wpG_pure (i := 9) (oi := { dst := some 30, op := Go.Op.nilCheck (Go.Operand.tmp 29), type := 0, pos := "l2_type.go:222", after := #[{ on := 8, ground := Go.Ground.data }], guard := none }) (v := ?vg62) rfl (by kernel_rfl) (fun _ _ _ h => h) (Or.inr hHeld) (Or.inl ⟨by rfl, ?yg62⟩) ?_
  case yg62 => (intro wS _; go_simp <;> with_reducible rfl)
  try simp only [Act.put, List.setIfInBounds_toArray, List.set_cons_zero, List.set_cons_succ]
  refine wpG_pure (i := 10) (oi := { dst := some 31, op := Go.Op.fieldAddr 103 (Go.Operand.tmp 30) 2, type := 0, pos := "l2_type.go:222", after := #[{ on := 9, ground := Go.Ground.data }], guard := none }) (v := ?vg63) rfl (by kernel_rfl) (fun _ _ _ h => h) (Or.inr hHeld) (Or.inl ⟨by rfl, ?yg63⟩) ?_
  case yg63 => (intro wS _; go_simp <;> with_reducible rfl)
  try simp only [Act.put, List.setIfInBounds_toArray, List.set_cons_zero, List.set_cons_succ]
  refine wpG_load (i := 11) (oi := { dst := some 32, op := Go.Op.load 3 (Go.Operand.tmp 31), type := 3, pos := "l2_type.go:222", after := #[{ on := 10, ground := Go.Ground.data }], guard := none }) (v := ?vg64) [] rfl (by kernel_rfl) (fun _ _ _ h => h) hHeld (Or.inl ⟨by rfl, ?yg64⟩) ?_
  case yg64 => (intro wS hSw; (try dsimp only at hSw); go_simp <;> with_reducible rfl)
  try simp only [Act.put, List.setIfInBounds_toArray, List.set_cons_zero, List.set_cons_succ]
  refine wpG_pure (i := 12) (oi := { dst := some 33, op := Go.Op.move (Go.Operand.tmp 0), type := 65, pos := "l2_type.go:222", after := #[], guard := none }) (v := ?vg65) rfl (by kernel_rfl) (fun _ _ _ h => h) (Or.inr hHeld) (Or.inl ⟨by rfl, ?yg65⟩) ?_
  case yg65 => (intro wS _; go_simp <;> with_reducible rfl)
  try simp only [Act.put, List.setIfInBounds_toArray, List.set_cons_zero, List.set_cons_succ]
  refine wpG_pure (i := 13) (oi := { dst := some 34, op := Go.Op.nilCheck (Go.Operand.tmp 33), type := 0, pos := "l2_type.go:222", after := #[{ on := 12, ground := Go.Ground.data }], guard := none }) (v := ?vg66) rfl (by kernel_rfl) (fun _ _ _ h => h) (Or.inr hHeld) (Or.inl ⟨by rfl, ?yg66⟩) ?_
  case yg66 => (intro wS _; go_simp <;> with_reducible rfl)
  try simp only [Act.put, List.setIfInBounds_toArray, List.set_cons_zero, List.set_cons_succ]
  refine wpG_pure (i := 14) (oi := { dst := some 35, op := Go.Op.fieldAddr 103 (Go.Operand.tmp 34) 3, type := 0, pos := "l2_type.go:222", after := #[{ on := 13, ground := Go.Ground.data }], guard := none }) (v := ?vg67) rfl (by kernel_rfl) (fun _ _ _ h => h) (Or.inr hHeld) (Or.inl ⟨by rfl, ?yg67⟩) ?_
  case yg67 => (intro wS _; go_simp <;> with_reducible rfl)
  try simp only [Act.put, List.setIfInBounds_toArray, List.set_cons_zero, List.set_cons_succ]
  refine wpG_load (i := 15) (oi := { dst := some 36, op := Go.Op.load 4 (Go.Operand.tmp 35), type := 4, pos := "l2_type.go:222", after := #[{ on := 14, ground := Go.Ground.data }], guard := none }) (v := ?vg68) [] rfl (by kernel_rfl) (fun _ _ _ h => h) hHeld (Or.inl ⟨by rfl, ?yg68⟩) ?_
  case yg68 => (intro wS hSw; (try dsimp only at hSw); go_simp <;> with_reducible rfl)
  try simp only [Act.put, List.setIfInBounds_toArray, List.set_cons_zero, List.set_cons_succ]
  refine wpG_pure (i := 16) (oi := { dst := some 37, op := Go.Op.move (Go.Operand.tmp 36), type := 4, pos := "l2_type.go:222", after := #[{ on := 15, ground := Go.Ground.data }], guard := none }) (v := ?vg69) rfl (by kernel_rfl) (fun _ _ _ h => h) (Or.inr hHeld) (Or.inl ⟨by rfl, ?yg69⟩) ?_
  case yg69 => (intro wS _; go_simp <;> with_reducible rfl)
  try simp only [Act.put, List.setIfInBounds_toArray, List.set_cons_zero, List.set_cons_succ]
  refine wpG_pure (i := 17) (oi := { dst := some 38, op := Go.Op.move (Go.Operand.tmp 1), type := 65, pos := "l2_type.go:222", after := #[{ on := 16, ground := Go.Ground.guard }], guard := some (16, false) }) (v := ?vg70) rfl (by kernel_rfl) (fun _ _ _ h => h) (Or.inr hHeld) (Or.inl ⟨by rfl, ?yg70⟩) ?_
  case yg70 => (intro wS _; go_simp <;> with_reducible rfl)
  try simp only [Act.put, List.setIfInBounds_toArray, List.set_cons_zero, List.set_cons_succ]
  refine wpG_pure (i := 18) (oi := { dst := some 39, op := Go.Op.nilCheck (Go.Operand.tmp 38), type := 0, pos := "l2_type.go:222", after := #[{ on := 17, ground := Go.Ground.data }, { on := 16, ground := Go.Ground.guard }], guard := some (16, false) }) (v := ?vg71) rfl (by kernel_rfl) (fun _ _ _ h => h) (Or.inr hHeld) (Or.inl ⟨by rfl, ?yg71⟩) ?_
  case yg71 => (intro wS _; go_simp <;> with_reducible rfl)
  try simp only [Act.put, List.setIfInBounds_toArray, List.set_cons_zero, List.set_cons_succ]
  refine wpG_pure (i := 19) (oi := { dst := some 40, op := Go.Op.fieldAddr 103 (Go.Operand.tmp 39) 3, type := 0, pos := "l2_type.go:222", after := #[{ on := 18, ground := Go.Ground.data }, { on := 16, ground := Go.Ground.guard }], guard := some (16, false) }) (v := ?vg72) rfl (by kernel_rfl) (fun _ _ _ h => h) (Or.inr hHeld) (Or.inl ⟨by rfl, ?yg72⟩) ?_
  case yg72 => (intro wS _; go_simp <;> with_reducible rfl)
  try simp only [Act.put, List.setIfInBounds_toArray, List.set_cons_zero, List.set_cons_succ]
  refine wpG_load (i := 20) (oi := { dst := some 41, op := Go.Op.load 4 (Go.Operand.tmp 40), type := 4, pos := "l2_type.go:222", after := #[{ on := 19, ground := Go.Ground.data }, { on := 16, ground := Go.Ground.guard }], guard := some (16, false) }) (v := ?vg73) [] rfl (by kernel_rfl) (fun _ _ _ h => h) hHeld (Or.inl ⟨by rfl, ?yg73⟩) ?_
  case yg73 => (intro wS hSw; (try dsimp only at hSw); go_simp <;> with_reducible rfl)
  try simp only [Act.put, List.setIfInBounds_toArray, List.set_cons_zero, List.set_cons_succ]
  refine wpG_pure (i := 21) (oi := { dst := some 42, op := Go.Op.pick (Go.Operand.tmp 37) (Go.Operand.const (Go.Value.bool true)) (Go.Operand.tmp 41), type := 4, pos := "l2_type.go:222", after := #[{ on := 16, ground := Go.Ground.data }, { on := 20, ground := Go.Ground.data }], guard := none }) (v := ?vg74) rfl (by kernel_rfl) (fun _ _ _ h => h) (Or.inr hHeld) (Or.inl ⟨by rfl, ?yg74⟩) ?_
  case yg74 => (intro wS _; go_simp <;> with_reducible rfl)
  try simp only [Act.put, List.setIfInBounds_toArray, List.set_cons_zero, List.set_cons_succ]
  refine wpG_pure (i := 22) (oi := { dst := some 43, op := Go.Op.move (Go.Operand.tmp 0), type := 65, pos := "l2_type.go:222", after := #[], guard := none }) (v := ?vg75) rfl (by kernel_rfl) (fun _ _ _ h => h) (Or.inr hHeld) (Or.inl ⟨by rfl, ?yg75⟩) ?_
  case yg75 => (intro wS _; go_simp <;> with_reducible rfl)
  try simp only [Act.put, List.setIfInBounds_toArray, List.set_cons_zero, List.set_cons_succ]
  refine wpG_pure (i := 23) (oi := { dst := some 44, op := Go.Op.nilCheck (Go.Operand.tmp 43), type := 0, pos := "l2_type.go:222", after := #[{ on := 22, ground := Go.Ground.data }], guard := none }) (v := ?vg76) rfl (by kernel_rfl) (fun _ _ _ h => h) (Or.inr hHeld) (Or.inl ⟨by rfl, ?yg76⟩) ?_
  case yg76 => (intro wS _; go_simp <;> with_reducible rfl)
  try simp only [Act.put, List.setIfInBounds_toArray, List.set_cons_zero, List.set_cons_succ]
  refine wpG_pure (i := 24) (oi := { dst := some 45, op := Go.Op.fieldAddr 103 (Go.Operand.tmp 44) 4, type := 0, pos := "l2_type.go:222", after := #[{ on := 23, ground := Go.Ground.data }], guard := none }) (v := ?vg77) rfl (by kernel_rfl) (fun _ _ _ h => h) (Or.inr hHeld) (Or.inl ⟨by rfl, ?yg77⟩) ?_
  case yg77 => (intro wS _; go_simp <;> with_reducible rfl)
  try simp only [Act.put, List.setIfInBounds_toArray, List.set_cons_zero, List.set_cons_succ]
  refine wpG_load (i := 25) (oi := { dst := some 46, op := Go.Op.load 3 (Go.Operand.tmp 45), type := 3, pos := "l2_type.go:222", after := #[{ on := 24, ground := Go.Ground.data }], guard := none }) (v := ?vg78) [] rfl (by kernel_rfl) (fun _ _ _ h => h) hHeld (Or.inl ⟨by rfl, ?yg78⟩) ?_
  case yg78 => (intro wS hSw; (try dsimp only at hSw); go_simp <;> with_reducible rfl)
  try simp only [Act.put, List.setIfInBounds_toArray, List.set_cons_zero, List.set_cons_succ]
  refine wpG_pure (i := 26) (oi := { dst := some 47, op := Go.Op.move (Go.Operand.tmp 1), type := 65, pos := "l2_type.go:222", after := #[], guard := none }) (v := ?vg79) rfl (by kernel_rfl) (fun _ _ _ h => h) (Or.inr hHeld) (Or.inl ⟨by rfl, ?yg79⟩) ?_
  case yg79 => (intro wS _; go_simp <;> with_reducible rfl)
  try simp only [Act.put, List.setIfInBounds_toArray, List.set_cons_zero, List.set_cons_succ]
  refine wpG_pure (i := 27) (oi := { dst := some 48, op := Go.Op.nilCheck (Go.Operand.tmp 47), type := 0, pos := "l2_type.go:222", after := #[{ on := 26, ground := Go.Ground.data }], guard := none }) (v := ?vg80) rfl (by kernel_rfl) (fun _ _ _ h => h) (Or.inr hHeld) (Or.inl ⟨by rfl, ?yg80⟩) ?_
  case yg80 => (intro wS _; go_simp <;> with_reducible rfl)
  try simp only [Act.put, List.setIfInBounds_toArray, List.set_cons_zero, List.set_cons_succ]
  refine wpG_pure (i := 28) (oi := { dst := some 49, op := Go.Op.fieldAddr 103 (Go.Operand.tmp 48) 4, type := 0, pos := "l2_type.go:222", after := #[{ on := 27, ground := Go.Ground.data }], guard := none }) (v := ?vg81) rfl (by kernel_rfl) (fun _ _ _ h => h) (Or.inr hHeld) (Or.inl ⟨by rfl, ?yg81⟩) ?_
  case yg81 => (intro wS _; go_simp <;> with_reducible rfl)
  try simp only [Act.put, List.setIfInBounds_toArray, List.set_cons_zero, List.set_cons_succ]
  refine wpG_load (i := 29) (oi := { dst := some 50, op := Go.Op.load 3 (Go.Operand.tmp 49), type := 3, pos := "l2_type.go:222", after := #[{ on := 28, ground := Go.Ground.data }], guard := none }) (v := ?vg82) [] rfl (by kernel_rfl) (fun _ _ _ h => h) hHeld (Or.inl ⟨by rfl, ?yg82⟩) ?_
  case yg82 => (intro wS hSw; (try dsimp only at hSw); go_simp <;> with_reducible rfl)
  try simp only [Act.put, List.setIfInBounds_toArray, List.set_cons_zero, List.set_cons_succ]
  refine wpG_pure (i := 30) (oi := { dst := some 51, op := Go.Op.call { callee := Go.Callee.builtin Go.Builtin.min, args := #[Go.Operand.tmp 46, Go.Operand.tmp 50], argTypes := #[3, 3] }, type := 3, pos := "l2_type.go:222", after := #[{ on := 25, ground := Go.Ground.data }, { on := 29, ground := Go.Ground.data }], guard := none }) (v := ?vg83) rfl (by kernel_rfl) (fun _ _ _ h => h) (Or.inr hHeld) (Or.inl ⟨by rfl, ?yg83⟩) ?_
  case yg83 => (intro wS _; go_simp <;> with_reducible rfl)
  try simp only [Act.put, List.setIfInBounds_toArray, List.set_cons_zero, List.set_cons_succ]
  refine wpG_pure (i := 31) (oi := { dst := some 52, op := Go.Op.build 103 #[(0, Go.Operand.tmp 24), (1, Go.Operand.tmp 28), (2, Go.Operand.tmp 32), (3, Go.Operand.tmp 42), (4, Go.Operand.tmp 51)], type := 103, pos := "l2_type.go:222", after := #[{ on := 3, ground := Go.Ground.data }, { on := 7, ground := Go.Ground.data }, { on := 11, ground := Go.Ground.data }, { on := 21, ground := Go.Ground.data }, { on := 30, ground := Go.Ground.data }], guard := none }) (v := ?vg84) rfl (by kernel_rfl) (fun _ _ _ h => h) (Or.inr hHeld) (Or.inl ⟨by rfl, ?yg84⟩) ?_
  case yg84 => (intro wS _; go_simp <;> with_reducible rfl)
  try simp only [Act.put, List.setIfInBounds_toArray, List.set_cons_zero, List.set_cons_succ]
  refine wpG_one (i := 32) (o := { dst := some 53, op := Go.Op.box 103 (Go.Operand.tmp 52), type := 65, pos := "l2_type.go:222", after := #[{ on := 31, ground := Go.Ground.data }], guard := none }) rfl (by kernel_rfl) (fun K hK => ?_)
  go_simp
  refine hK.out _ _ (Or.inr ?khHeld85) (fun hHeld85S => ?_)
  case khHeld85 => exact ⟨cell_alloc _ x0, cell_alloc _ x1, cell_alloc _ x2, cell_alloc _ x3, cell_alloc _ x4, cell_alloc _ y3, cell_alloc _ y4⟩
  have hHeld85 := hHeld85S.held (by kernel_rfl)
  clear hK K
  try simp only [Act.put, List.setIfInBounds_toArray, List.set_cons_zero, List.set_cons_succ]
  refine wpG_pure (i := 33) (oi := { dst := some 5, op := Go.Op.assign (Go.Operand.tmp 53), type := 65, pos := "l2_type.go:222", after := #[{ on := 32, ground := Go.Ground.data }, { on := 16, ground := Go.Ground.chain }, { on := 0, ground := Go.Ground.phase }, { on := 1, ground := Go.Ground.phase }, { on := 2, ground := Go.Ground.phase }, { on := 3, ground := Go.Ground.phase }, { on := 4, ground := Go.Ground.phase }, { on := 5, ground := Go.Ground.phase }, { on := 6, ground := Go.Ground.phase }, { on := 7, ground := Go.Ground.phase }, { on := 8, ground := Go.Ground.phase }, { on := 9, ground := Go.Ground.phase }, { on := 10, ground := Go.Ground.phase }, { on := 11, ground := Go.Ground.phase }, { on := 12, ground := Go.Ground.phase }, { on := 13, ground := Go.Ground.phase }, { on := 14, ground := Go.Ground.phase }, { on := 15, ground := Go.Ground.phase }, { on := 16, ground := Go.Ground.phase }, { on := 17, ground := Go.Ground.phase }, { on := 18, ground := Go.Ground.phase }, { on := 19, ground := Go.Ground.phase }, { on := 20, ground := Go.Ground.phase }, { on := 21, ground := Go.Ground.phase }, { on := 22, ground := Go.Ground.phase }, { on := 23, ground := Go.Ground.phase }, { on := 24, ground := Go.Ground.phase }, { on := 25, ground := Go.Ground.phase }, { on := 26, ground := Go.Ground.phase }, { on := 27, ground := Go.Ground.phase }, { on := 28, ground := Go.Ground.phase }, { on := 29, ground := Go.Ground.phase }, { on := 30, ground := Go.Ground.phase }, { on := 31, ground := Go.Ground.phase }, { on := 32, ground := Go.Ground.phase }], guard := none }) (v := ?vg86) rfl (by kernel_rfl) (fun _ _ _ h => h) (Or.inr hHeld85) (Or.inl ⟨by rfl, ?yg86⟩) ?_
  case yg86 => (intro wS _; go_simp <;> with_reducible rfl)
  try simp only [Act.put, List.setIfInBounds_toArray, List.set_cons_zero, List.set_cons_succ]
  refine wpG_done (by kernel_rfl) ?_
  have hX2 : (w1.alloc (.cells #[.int .i64 k, .string nm, .int .i64 no, .bool m', .int .i64 (min mo mo'), .slice none 0 0] 103)).drew.heap[w1.heap.size]? = some (.cells #[.int .i64 k, .string nm, .int .i64 no, .bool m', .int .i64 (min mo mo'), .slice none 0 0] 103) := heap_alloc_new w1 _
  have hb2 : Below w1.heap.size w1 (w1.alloc (.cells #[.int .i64 k, .string nm, .int .i64 no, .bool m', .int .i64 (min mo mo'), .slice none 0 0] 103)).drew := ((Below.refl w1.heap.size w1).alloc (Nat.le_refl _) _).drew
  generalize hw2 : (w1.alloc (.cells #[.int .i64 k, .string nm, .int .i64 no, .bool m', .int .i64 (min mo mo'), .slice none 0 0] 103)).drew = w2 at *
  have l2 := hp_lt hX2
  have HO := Lib.hid hX2
  have HX := Lib.hid (hp_later hb2 HX.out)
  have HY := Lib.hid (hp_later hb2 HY.out)
  have HB2 := Lib.hid (HB1.out.trans (hb2.mono HB1.out.size))
  clear hX2 hb2 x0 x1 x2 x3 x4 x5 y0 y1 y2 y3 y4 y5
  obtain ⟨x0, x1, x2, x3, x4, x5⟩ := box6 HX.out
  obtain ⟨y0, y1, y2, y3, y4, y5⟩ := box6 HY.out
  have hzb := HB2.out.size
  have HOUT2 : Hid (OutP (mpS S w.heap.size w1.heap.size) w1.heap.size w2.heap.size w2 k nm no m' (min mo mo') [] (.slice none 0 0) [] w2) := Lib.hid ⟨HO.out, World.ownsRow_nil _ _ _ _, by rw [KPs], Wrote.refl _ _, l2, Nat.le_refl _, Nat.le_refl _⟩
  clear HO
  generalize hMO : min mo mo' = MO at *
  go_wp2_with fail
  go_loopw [85] (fun iv wr => ∃ (i : Nat) (l : List Tr) (a6 : Option Addr) (c6 : Nat) (vs : List Value), i ≤ ks.length ∧ iv = .int .i64 (i : Int) ∧ Hid (l.length = i) ∧ Hid (meetL (ks.take i) us = some l) ∧ Hid (OutP (mpS S w.heap.size w1.heap.size) w1.heap.size w2.heap.size w2 k nm no m' MO l (.slice a6 l.length c6) vs wr)) (fun iv _ => ks.length - (intOf iv).toNat)
  case atStart => exact ⟨0, [], none, 0, [], by omega, rfl, Lib.hid rfl, Lib.hid (by rw [List.take_zero, meetL]), HOUT2⟩
  case round =>
    clear HOUT2
    obtain ⟨wo, rfl⟩ : ∃ z : World, z = wr := ⟨_, rfl⟩
    obtain ⟨i, l, a6, c6, vs, hil, rfl, HN6, HL, HO⟩ := hrel
    have HBo := Lib.hid (rwrote HB2.out HO.out.wrote (fun q hq => by omega))
    have hzo := HO.out.size
    clear x0 x1 x2 x3 x4 x5 y0 y1 y2 y3 y4 y5
    by_cases hend : i < ks.length
    case neg =>
      have HLL : Hid (meetL ks us = some l) := Lib.hid (by have := HL.out; rwa [show i = ks.length by omega, List.take_length] at this)
      have HLE := Lib.hid (show l.length ≤ i + 0 by rw [HN6.out]; omega)
      clear HL HN6
      obtain ⟨y0, y1, y2, y3, y4, y5⟩ := box6 (wrote_hpI HO.out.wrote HY.out (by omega))
      have hge : ¬ ((i : Int) < (ks.length : Int)) := by omega
      go_wp2_with fail
      go_loopw [118] (fun jv wr => ∃ (j : Nat) (L6 : List Tr) (a6 : Option Addr) (c6 : Nat) (vs : List Value), j ≤ us.length ∧ jv = .int .i64 (j : Int) ∧ Hid (L6.length ≤ i + j) ∧ Hid (L6 = l ++ restP ks (us.take j)) ∧ Hid (OutP (mpS S w.heap.size w1.heap.size) w1.heap.size w2.heap.size w2 k nm no m' MO L6 (.slice a6 L6.length c6) vs wr)) (fun jv _ => us.length - (intOf jv).toNat)
      case atStart => exact ⟨0, l, a6, c6, vs, by omega, rfl, HLE, Lib.hid (by rw [List.take_zero]; unfold restP; rw [List.filter_nil, List.append_nil]), HO⟩
      case round =>
        clear HO HBo hzo HLE y0 y1 y2 y3 y4 y5
        obtain ⟨wv, rfl⟩ : ∃ z : World, z = wr := ⟨_, rfl⟩
        obtain ⟨j, L6, a6, c6, vs, hjl, rfl, HN6, HS6, HO⟩ := hrel
        have HBo := Lib.hid (rwrote HB2.out HO.out.wrote (fun q hq => by omega))
        have hzo := HO.out.size
        by_cases hjend : j < us.length
        case neg =>
          have HLM : Hid (L6 = l ++ restP ks us) := Lib.hid (by have := HS6.out; rwa [show j = us.length by omega, List.take_length] at this)
          have hgj : ¬ ((j : Int) < (us.length : Int)) := by omega
          have HBN := Lib.hid (impl_byNo HO.out.cells HO.out.own HO.out.kps (fun q h => h.2) (by have := HN6.out; omega))
          unfold SortO at HBN
          go_wp2_with fail
          refine HBN.out.mono ?_
          rintro e wz ⟨rfl, us', vs', hperm, hsrt, hown, hkps, hgr⟩
          have HKF := Lib.hid (HO.out.done HNM.out hz1 hzb hperm.length_eq hown hkps hgr)
          have HUS : Hid (us' = sortNo (l ++ restP ks us)) := Lib.hid (sorted_one (meet_nos HLL.out HDA.out HDB.out) (by rw [← HLM.out]; exact hperm) (sortNo_perm _) hsrt (sortNo_sorted _))
          have HBF := Lib.hid (Below.grown HBo.out hgr HBo.out.size (fun q hq => by have := (HO.out.own.lt q hq).1; omega))
          clear hperm hsrt hown hkps hgr
          go_wp2_with fail
          go_ret
          exact meetp_yes (by rw [HT.out, HLL.out]) HBF.out (by rw [← HUS.out]; exact HKF.out)
        obtain ⟨y, hy⟩ : ∃ y, us[j]? = some y := ⟨us[j], List.getElem?_eq_getElem hjend⟩
        obtain ⟨qb, offq, px, vx, cx, wsx, rfl, hqb, q0, hkx, hpx, hcx, -⟩ := kps_at HRB.out HKB.out HBo.out hy
        have HKX := Lib.hid (KP.keep (T := (fun q => S q ∧ q < w.heap.size)) (kept_below HBo.out) (fun q h hl => ⟨h, hl⟩) _ _ hkx)
        obtain ⟨x0, x1, x2, x3, x4, x5⟩ := box6 hcx
        have HRT := Lib.hid (restP_take (ks := ks) hy)
        have HP := Lib.hid (HPA.out wv y.no HBo.out)
        clear hy hkx hcx
        go_wp2_with fail
        refine HP.out.mono ?_
        rintro e wb ⟨v, rfl, hb, ⟨hno, rfl⟩ | ⟨x, hyes, hkq⟩⟩
        · have HOz := Lib.hid (HO.out.later hb)
          have HKZ : Hid (KP (fun q => (mpS S w.heap.size w1.heap.size) q ∧ (Value.slice a6 L6.length c6).ownBlock ≠ some q) wb y (.pointer (some ⟨px, 0, none⟩))) := Lib.hid (KP.keep (kept_below hb) (fun q h hl => ⟨.inl h, fun e => by have := (HO.out.own.lt q e).1; have := h.2; omega⟩) _ _ HKX.out)
          have HR2 : Hid (restP ks (us.take (j + 1)) = restP ks (us.take j) ++ [y]) := Lib.hid (by rw [HRT.out, hno]; rfl)
          clear hb hno x0 x1 x2 x3 x4 x5 q0 HP HKX HO
          have HOB := Lib.hid HOz.out.cells
          obtain ⟨s0, s1, s2, s3, s4, s5⟩ := box6 HOB.out
          have hcp9 := own_cap HOz.out.own
          have hzq := HOz.out.size
          go_wp2_with (at_builtin; refine wpList_append_lies _ rfl _ _ 101 rfl w2.heap.size 65 i0 (.pointer none) 1 8 Try.underlying101 hi0 hj0 hj1 hj2 rfl (by decide) _ L6.length _ rfl (HOz.out.own.alloc _) _ 1 1 [.pointer (some ⟨px, 0, none⟩)] rfl rfl (news_one _ _ _) (by simp [Value.oneCell']) (by decide) (by unfold maxLen; have := HN6.out; omega) (by have := HN6.out; omega) (by simp; omega) _ rfl ?_)
          intro g cp w8 hown hgrow hat hlt6
          obtain ⟨happ, hX8⟩ := OutP.app HOz.out HKZ.out hown hgrow (by
            rcases hat with e | e
            · exact .inl e
            · right; simpa using e) (mpS_X hz1)
          have HAPP := Lib.hid happ
          obtain ⟨-, -, -, -, -, v5⟩ := box6 hX8
          have u5 := box6_z hX8 5
          clear hown hgrow hat happ hX8 s0 s1 s2 s3 s4 s5
          go_wp2_with fail
          go_roundw
          case rel => exact ⟨j + 1, L6 ++ [y], some ⟨g, 0, none⟩, cp, _, by omega, by go_num, Lib.hid (by rw [List.length_append]; have := HN6.out; simp; omega), Lib.hid (by rw [HR2.out, ← List.append_assoc, HS6.out]), Lib.hid (by rw [List.length_append]; exact HAPP.out)⟩
          case measure => (simp [intOf]; try omega)
        obtain ⟨pq, rfl, -, -⟩ := hkq.ptr
        have HOz := Lib.hid (HO.out.later hb)
        have HR2 : Hid (restP ks (us.take (j + 1)) = restP ks (us.take j)) := Lib.hid (by rw [HRT.out, hyes]; rfl)
        clear hb hyes hkq x0 x1 x2 x3 x4 x5 q0 HP HKX HO
        go_wp2_with fail
        go_roundw
        case rel => exact ⟨j + 1, L6, a6, c6, vs, by omega, by go_num, Lib.hid (by have := HN6.out; omega), Lib.hid (by rw [HR2.out]; exact HS6.out), HOz⟩
        case measure => (simp [intOf]; try omega)
    obtain ⟨x, hx⟩ : ∃ x, ks[i]? = some x := ⟨ks[i], List.getElem?_eq_getElem hend⟩
    have hxm := List.mem_of_getElem? hx
    obtain ⟨qb, offq, px, vx, cx, wsx, rfl, hqb, q0, hkx, hpx, hcx, -⟩ := kps_at HRA.out HKA.out HBo.out hx
    have HKX := Lib.hid (KP.keep (T := (fun q => S q ∧ q < w.heap.size)) (kept_below HBo.out) (fun q h hl => ⟨h, hl⟩) _ _ hkx)
    obtain ⟨x0, x1, x2, x3, x4, x5⟩ := box6 hcx
    have HMN : Hid (meetP us x = none → meetL ks us = none) := Lib.hid (meetL_no hxm)
    have HMY : Hid (∀ z, meetP us x = some z → meetL (ks.take (i + 1)) us = some (l ++ [z])) := Lib.hid (fun z hz => meetL_take hx HL.out hz)
    have HXM := Lib.hid hxm
    have HP := Lib.hid (HPB.out wo x.no HBo.out)
    clear hx hxm hkx hcx HL
    go_wp2_with fail
    refine HP.out.mono ?_
    rintro e wb ⟨v, rfl, hb, ⟨hno, rfl⟩ | ⟨y, hyes, hky⟩⟩
    · have HOz := Lib.hid (HO.out.later hb)
      have HKZ : Hid (KP (fun q => (mpS S w.heap.size w1.heap.size) q ∧ (Value.slice a6 l.length c6).ownBlock ≠ some q) wb x (.pointer (some ⟨px, 0, none⟩))) := Lib.hid (KP.keep (kept_below hb) (fun q h hl => ⟨.inl h, fun e => by have := (HO.out.own.lt q e).1; have := h.2; omega⟩) _ _ HKX.out)
      have HPN : Hid (meetP us x = some x) := Lib.hid (by unfold meetP; rw [hno])
      clear hb hno x0 x1 x2 x3 x4 x5 q0 HP HKX HO
      have HOB := Lib.hid HOz.out.cells
      obtain ⟨s0, s1, s2, s3, s4, s5⟩ := box6 HOB.out
      have hcp9 := own_cap HOz.out.own
      have hzq := HOz.out.size
      go_wp2_with (at_builtin; refine wpList_append_lies _ rfl _ _ 101 rfl w2.heap.size 65 i0 (.pointer none) 1 8 Try.underlying101 hi0 hj0 hj1 hj2 rfl (by decide) _ l.length _ rfl (HOz.out.own.alloc _) _ 1 1 [.pointer (some ⟨px, 0, none⟩)] rfl rfl (news_one _ _ _) (by simp [Value.oneCell']) (by decide) (by unfold maxLen; have := HN6.out; omega) (by have := HN6.out; omega) (by simp; omega) _ rfl ?_)
      intro g cp w8 hown hgrow hat hlt6
      obtain ⟨happ, hX8⟩ := OutP.app HOz.out HKZ.out hown hgrow (by
        rcases hat with e | e
        · exact .inl e
        · right; simpa using e) (mpS_X hz1)
      have HAPP := Lib.hid happ
      obtain ⟨-, -, -, -, -, v5⟩ := box6 hX8
      have u5 := box6_z hX8 5
      clear hown hgrow hat happ hX8 s0 s1 s2 s3 s4 s5
      go_wp2_with fail
      go_roundw
      case rel => exact ⟨i + 1, l ++ [x], some ⟨g, 0, none⟩, cp, _, by omega, by go_num, Lib.hid (by simp [HN6.out]), Lib.hid (HMY.out x HPN.out), Lib.hid (by rw [List.length_append]; exact HAPP.out)⟩
      case measure => (simp [intOf]; try omega)
    obtain ⟨py, rfl, -, -⟩ := hky.ptr
    have HOz := Lib.hid (HO.out.later hb)
    have HBz := Lib.hid (HBo.out.trans (hb.mono HBo.out.size))
    have hzw := hb.size
    have HC := Lib.hid (HIH.out (fun q => S q ∧ q < w.heap.size) wb x y _ _ HXM.out (byNo_no hyes).2 (HKX.out.later hb) hky)
    unfold MeetP at HC
    have HPE : Hid (meetP us x = meetT x y) := Lib.hid (by unfold meetP; rw [hyes])
    clear hb hky hyes x0 x1 x2 x3 x4 x5 q0 HP HKX HO
    go_wp2_with fail
    refine HC.out.mono ?_
    rintro e wc ⟨p, rfl, hb2, ⟨hno2, rfl⟩ | ⟨z, gz, hyes2, rfl, hkz⟩⟩
    · have HBc := Lib.hid (HBz.out.trans (hb2.mono HBz.out.size))
      have HNONE : Hid (meetL ks us = none) := Lib.hid (HMN.out (by rw [HPE.out, hno2]))
      clear hb2 hno2 HC
      go_wp2_with fail
      go_ret
      exact meetp_no (by rw [HT.out, HNONE.out]) HBc.out
    have HOc := Lib.hid (HOz.out.later hb2)
    have HKZ : Hid (KP (fun q => (mpS S w.heap.size w1.heap.size) q ∧ (Value.slice a6 l.length c6).ownBlock ≠ some q) wc z (.pointer (some ⟨gz, 0, none⟩))) := Lib.hid (KP.keep (Kept.refl _ wc) (fun q h hl => by
      rcases h with h | h
      · exact ⟨.inl h, fun e => by have := (HOz.out.own.lt q e).1; have := h.2; omega⟩
      · exact ⟨.inr ⟨by omega, by omega⟩, fun e => by have := (HOz.out.own.lt q e).2; omega⟩) _ _ hkz)
    have HPZ : Hid (meetP us x = some z) := Lib.hid (HPE.out.trans hyes2)
    clear hb2 hyes2 hkz HC
    have HOB := Lib.hid HOc.out.cells
    obtain ⟨s0, s1, s2, s3, s4, s5⟩ := box6 HOB.out
    have hcp9 := own_cap HOc.out.own
    have hzq := HOc.out.size
    go_wp2_with (at_builtin; refine wpList_append_lies _ rfl _ _ 101 rfl w2.heap.size 65 i0 (.pointer none) 1 8 Try.underlying101 hi0 hj0 hj1 hj2 rfl (by decide) _ l.length _ rfl (HOc.out.own.alloc _) _ 1 1 [.pointer (some ⟨gz, 0, none⟩)] rfl rfl (news_one _ _ _) (by simp [Value.oneCell']) (by decide) (by unfold maxLen; have := HN6.out; omega) (by have := HN6.out; omega) (by simp; omega) _ rfl ?_)
    intro g cp w8 hown hgrow hat hlt6
    obtain ⟨happ, hX8⟩ := OutP.app HOc.out HKZ.out hown hgrow (by
      rcases hat with e | e
      · exact .inl e
      · right; simpa using e) (mpS_X hz1)
    have HAPP := Lib.hid happ
    obtain ⟨-, -, -, -, -, v5⟩ := box6 hX8
    have u5 := box6_z hX8 5
    clear hown hgrow hat happ hX8 s0 s1 s2 s3 s4 s5
    go_wp2_with fail
    go_roundw
    case rel => exact ⟨i + 1, l ++ [z], some ⟨g, 0, none⟩, cp, _, by omega, by go_num, Lib.hid (by simp [HN6.out]), Lib.hid (HMY.out z HPZ.out), Lib.hid (by rw [List.length_append]; exact HAPP.out)⟩
    case measure => (simp [intOf]; try omega)
end Go.Proofs.Ytmlnecopbncdbaa
