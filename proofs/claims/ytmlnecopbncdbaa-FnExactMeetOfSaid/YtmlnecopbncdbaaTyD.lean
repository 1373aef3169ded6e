/- A tree told as a row: the program's walk. -/
import Derived.Test.YtmlnecopbncdbaaTyC
namespace Go.Proofs.Ytmlnecopbncdbaa
set_option linter.unusedVariables false
set_option linter.unusedSimpArgs false
open Go.ChangeShapes Go.WideShapes Go.ChangeAt Go.RowKit
set_option maxRecDepth 100000

set_option maxHeartbeats 4000000 in
theorem impl_types_one {S : Nat → Prop} {w : World} {t : Tr} {p : Value} (base : Nat) (L0 : List Ty) (v0 : Value) (up : Int) (h : KP S w t p) (ho : w.ownsRow base 85 6 v0 L0.length (tysV L0)) (hb : base ≤ w.heap.size) (hS : ∀ k, S k → v0.ownBlock ≠ some k) (hl : L0.length + countT t ≤ 1048576)
    (IH : ∀ (T : Nat → Prop) (wx : World) (x : Tr) (v : Value) (L1 : List Ty) (v1 : Value), x ∈ t.kids → KP T wx x v → wx.ownsRow base 85 6 v1 L1.length (tysV L1) → base ≤ wx.heap.size → (∀ k, T k → v1.ownBlock ≠ some k) → L1.length + countT x ≤ 1048576 → Calls Try.prog 72 #[v, v1, .int .i64 (L0.length : Int)] wx (FlatO base (L1 ++ flatT (L0.length : Int) L1.length x) v1 wx)) :
    Calls Try.prog 72 #[p, v0, .int .i64 up] w (FlatO base (L0 ++ flatT up L0.length t) v0 w) := by
  obtain ⟨i0, hi0, hz0, hz1, hz2⟩ := info_parts Try.infoTyp
  have hcl := countT_eq t
  have hln := count_len t.kids
  obtain ⟨va0, vc0, rfl⟩ := form_of_own ho
  have hcap0 := own_cap ho
  rw [flatT_eq]
  obtain ⟨b, a, c, vs, rfl, hSb, hbl, hX, hnm, hkc, hcm, hrow, hks⟩ := h.open
  have HX := Lib.hid hX
  have HROW := Lib.hid hrow; have HKS := Lib.hid hks; have HIH := Lib.hid IH; have HS := Lib.hid hS
  have HO := Lib.hid ho
  have hbS := hS b hSb
  obtain ⟨x0, x1, x2, x3, x4, x5⟩ := box6 hX
  generalize t.kids = ks at *
  unfold FlatO
  clear hrow hks IH h hX hS ho
  go_enter Try.func72, Try.ntmps72
  go_wp2_with fail
  refine wp_region_G [24] (fun w' => w'.cell? ⟨b, 0, none⟩ = some (.int .i64 t.kind) ∧ w'.cell? ⟨b, 1, none⟩ = some (.string t.name) ∧ w'.cell? ⟨b, 2, none⟩ = some (.int .i64 t.no) ∧ w'.cell? ⟨b, 3, none⟩ = some (.bool t.must) ∧ w'.cell? ⟨b, 4, none⟩ = some (.int .i64 t.most)) (by kernel_rfl) ?_ (fun hHeld => ?_)
  · exact ⟨x0, x1, x2, x3, x4⟩
  refine wpG_pure (i := 0) (oi := { dst := some 12, op := Go.Op.move (Go.Operand.tmp 1), type := 26, pos := "l2_type.go:144", after := #[], guard := none }) (v := ?vg1) rfl (by kernel_rfl) (fun _ _ _ h => h) (Or.inr hHeld) (Or.inl ⟨by rfl, ?yg1⟩) ?_
  case yg1 => (intro wS _; go_simp <;> with_reducible rfl)
  try simp only [Act.put, List.setIfInBounds_toArray, List.set_cons_zero, List.set_cons_succ]
  refine wpG_pure (i := 1) (oi := { dst := some 13, op := Go.Op.move (Go.Operand.tmp 0), type := 65, pos := "l2_type.go:144", after := #[], guard := none }) (v := ?vg2) rfl (by kernel_rfl) (fun _ _ _ h => h) (Or.inr hHeld) (Or.inl ⟨by rfl, ?yg2⟩) ?_
  case yg2 => (intro wS _; go_simp <;> with_reducible rfl)
  try simp only [Act.put, List.setIfInBounds_toArray, List.set_cons_zero, List.set_cons_succ]
  refine wpG_pure (i := 2) (oi := { dst := some 14, op := Go.Op.nilCheck (Go.Operand.tmp 13), type := 0, pos := "l2_type.go:144", after := #[{ on := 1, ground := Go.Ground.data }], guard := none }) (v := ?vg3) rfl (by kernel_rfl) (fun _ _ _ h => h) (Or.inr hHeld) (Or.inl ⟨by rfl, ?yg3⟩) ?_
  case yg3 => (intro wS _; go_simp <;> with_reducible rfl)
  try simp only [Act.put, List.setIfInBounds_toArray, List.set_cons_zero, List.set_cons_succ]
  refine wpG_pure (i := 3) (oi := { dst := some 15, op := Go.Op.fieldAddr 103 (Go.Operand.tmp 14) 0, type := 0, pos := "l2_type.go:144", after := #[{ on := 2, ground := Go.Ground.data }], guard := none }) (v := ?vg4) rfl (by kernel_rfl) (fun _ _ _ h => h) (Or.inr hHeld) (Or.inl ⟨by rfl, ?yg4⟩) ?_
  case yg4 => (intro wS _; go_simp <;> with_reducible rfl)
  try simp only [Act.put, List.setIfInBounds_toArray, List.set_cons_zero, List.set_cons_succ]
  refine wpG_load (i := 4) (oi := { dst := some 16, op := Go.Op.load 3 (Go.Operand.tmp 15), type := 3, pos := "l2_type.go:144", after := #[{ on := 3, ground := Go.Ground.data }], guard := none }) (v := ?vg5) [[24, 23, 22, 4]] rfl (by kernel_rfl) (fun _ _ _ h => h) hHeld (Or.inl ⟨by rfl, ?yg5⟩) ?_
  case yg5 => (intro wS hSw; (try dsimp only at hSw); go_simp <;> with_reducible rfl)
  try simp only [Act.put, List.setIfInBounds_toArray, List.set_cons_zero, List.set_cons_succ]
  refine wpG_pure (i := 5) (oi := { dst := some 17, op := Go.Op.move (Go.Operand.tmp 0), type := 65, pos := "l2_type.go:144", after := #[], guard := none }) (v := ?vg6) rfl (by kernel_rfl) (fun _ _ _ h => h) (Or.inr hHeld) (Or.inl ⟨by rfl, ?yg6⟩) ?_
  case yg6 => (intro wS _; go_simp <;> with_reducible rfl)
  try simp only [Act.put, List.setIfInBounds_toArray, List.set_cons_zero, List.set_cons_succ]
  refine wpG_pure (i := 6) (oi := { dst := some 18, op := Go.Op.nilCheck (Go.Operand.tmp 17), type := 0, pos := "l2_type.go:144", after := #[{ on := 5, ground := Go.Ground.data }], guard := none }) (v := ?vg7) rfl (by kernel_rfl) (fun _ _ _ h => h) (Or.inr hHeld) (Or.inl ⟨by rfl, ?yg7⟩) ?_
  case yg7 => (intro wS _; go_simp <;> with_reducible rfl)
  try simp only [Act.put, List.setIfInBounds_toArray, List.set_cons_zero, List.set_cons_succ]
  refine wpG_pure (i := 7) (oi := { dst := some 19, op := Go.Op.fieldAddr 103 (Go.Operand.tmp 18) 1, type := 0, pos := "l2_type.go:144", after := #[{ on := 6, ground := Go.Ground.data }], guard := none }) (v := ?vg8) rfl (by kernel_rfl) (fun _ _ _ h => h) (Or.inr hHeld) (Or.inl ⟨by rfl, ?yg8⟩) ?_
  case yg8 => (intro wS _; go_simp <;> with_reducible rfl)
  try simp only [Act.put, List.setIfInBounds_toArray, List.set_cons_zero, List.set_cons_succ]
  refine wpG_load (i := 8) (oi := { dst := some 20, op := Go.Op.load 9 (Go.Operand.tmp 19), type := 9, pos := "l2_type.go:144", after := #[{ on := 7, ground := Go.Ground.data }], guard := none }) (v := ?vg9) [[24, 23, 22, 8]] rfl (by kernel_rfl) (fun _ _ _ h => h) hHeld (Or.inl ⟨by rfl, ?yg9⟩) ?_
  case yg9 => (intro wS hSw; (try dsimp only at hSw); go_simp <;> with_reducible rfl)
  try simp only [Act.put, List.setIfInBounds_toArray, List.set_cons_zero, List.set_cons_succ]
  refine wpG_pure (i := 9) (oi := { dst := some 21, op := Go.Op.move (Go.Operand.tmp 0), type := 65, pos := "l2_type.go:144", after := #[], guard := none }) (v := ?vg10) rfl (by kernel_rfl) (fun _ _ _ h => h) (Or.inr hHeld) (Or.inl ⟨by rfl, ?yg10⟩) ?_
  case yg10 => (intro wS _; go_simp <;> with_reducible rfl)
  try simp only [Act.put, List.setIfInBounds_toArray, List.set_cons_zero, List.set_cons_succ]
  refine wpG_pure (i := 10) (oi := { dst := some 22, op := Go.Op.nilCheck (Go.Operand.tmp 21), type := 0, pos := "l2_type.go:144", after := #[{ on := 9, ground := Go.Ground.data }], guard := none }) (v := ?vg11) rfl (by kernel_rfl) (fun _ _ _ h => h) (Or.inr hHeld) (Or.inl ⟨by rfl, ?yg11⟩) ?_
  case yg11 => (intro wS _; go_simp <;> with_reducible rfl)
  try simp only [Act.put, List.setIfInBounds_toArray, List.set_cons_zero, List.set_cons_succ]
  refine wpG_pure (i := 11) (oi := { dst := some 23, op := Go.Op.fieldAddr 103 (Go.Operand.tmp 22) 2, type := 0, pos := "l2_type.go:144", after := #[{ on := 10, ground := Go.Ground.data }], guard := none }) (v := ?vg12) rfl (by kernel_rfl) (fun _ _ _ h => h) (Or.inr hHeld) (Or.inl ⟨by rfl, ?yg12⟩) ?_
  case yg12 => (intro wS _; go_simp <;> with_reducible rfl)
  try simp only [Act.put, List.setIfInBounds_toArray, List.set_cons_zero, List.set_cons_succ]
  refine wpG_load (i := 12) (oi := { dst := some 24, op := Go.Op.load 3 (Go.Operand.tmp 23), type := 3, pos := "l2_type.go:144", after := #[{ on := 11, ground := Go.Ground.data }], guard := none }) (v := ?vg13) [[24, 23, 22, 12]] rfl (by kernel_rfl) (fun _ _ _ h => h) hHeld (Or.inl ⟨by rfl, ?yg13⟩) ?_
  case yg13 => (intro wS hSw; (try dsimp only at hSw); go_simp <;> with_reducible rfl)
  try simp only [Act.put, List.setIfInBounds_toArray, List.set_cons_zero, List.set_cons_succ]
  refine wpG_pure (i := 13) (oi := { dst := some 25, op := Go.Op.move (Go.Operand.tmp 0), type := 65, pos := "l2_type.go:144", after := #[], guard := none }) (v := ?vg14) rfl (by kernel_rfl) (fun _ _ _ h => h) (Or.inr hHeld) (Or.inl ⟨by rfl, ?yg14⟩) ?_
  case yg14 => (intro wS _; go_simp <;> with_reducible rfl)
  try simp only [Act.put, List.setIfInBounds_toArray, List.set_cons_zero, List.set_cons_succ]
  refine wpG_pure (i := 14) (oi := { dst := some 26, op := Go.Op.nilCheck (Go.Operand.tmp 25), type := 0, pos := "l2_type.go:144", after := #[{ on := 13, ground := Go.Ground.data }], guard := none }) (v := ?vg15) rfl (by kernel_rfl) (fun _ _ _ h => h) (Or.inr hHeld) (Or.inl ⟨by rfl, ?yg15⟩) ?_
  case yg15 => (intro wS _; go_simp <;> with_reducible rfl)
  try simp only [Act.put, List.setIfInBounds_toArray, List.set_cons_zero, List.set_cons_succ]
  refine wpG_pure (i := 15) (oi := { dst := some 27, op := Go.Op.fieldAddr 103 (Go.Operand.tmp 26) 3, type := 0, pos := "l2_type.go:144", after := #[{ on := 14, ground := Go.Ground.data }], guard := none }) (v := ?vg16) rfl (by kernel_rfl) (fun _ _ _ h => h) (Or.inr hHeld) (Or.inl ⟨by rfl, ?yg16⟩) ?_
  case yg16 => (intro wS _; go_simp <;> with_reducible rfl)
  try simp only [Act.put, List.setIfInBounds_toArray, List.set_cons_zero, List.set_cons_succ]
  refine wpG_load (i := 16) (oi := { dst := some 28, op := Go.Op.load 4 (Go.Operand.tmp 27), type := 4, pos := "l2_type.go:144", after := #[{ on := 15, ground := Go.Ground.data }], guard := none }) (v := ?vg17) [[24, 23, 22, 16]] rfl (by kernel_rfl) (fun _ _ _ h => h) hHeld (Or.inl ⟨by rfl, ?yg17⟩) ?_
  case yg17 => (intro wS hSw; (try dsimp only at hSw); go_simp <;> with_reducible rfl)
  try simp only [Act.put, List.setIfInBounds_toArray, List.set_cons_zero, List.set_cons_succ]
  refine wpG_pure (i := 17) (oi := { dst := some 29, op := Go.Op.move (Go.Operand.tmp 2), type := 3, pos := "l2_type.go:144", after := #[], guard := none }) (v := ?vg18) rfl (by kernel_rfl) (fun _ _ _ h => h) (Or.inr hHeld) (Or.inl ⟨by rfl, ?yg18⟩) ?_
  case yg18 => (intro wS _; go_simp <;> with_reducible rfl)
  try simp only [Act.put, List.setIfInBounds_toArray, List.set_cons_zero, List.set_cons_succ]
  refine wpG_pure (i := 18) (oi := { dst := some 30, op := Go.Op.move (Go.Operand.tmp 0), type := 65, pos := "l2_type.go:144", after := #[], guard := none }) (v := ?vg19) rfl (by kernel_rfl) (fun _ _ _ h => h) (Or.inr hHeld) (Or.inl ⟨by rfl, ?yg19⟩) ?_
  case yg19 => (intro wS _; go_simp <;> with_reducible rfl)
  try simp only [Act.put, List.setIfInBounds_toArray, List.set_cons_zero, List.set_cons_succ]
  refine wpG_pure (i := 19) (oi := { dst := some 31, op := Go.Op.nilCheck (Go.Operand.tmp 30), type := 0, pos := "l2_type.go:144", after := #[{ on := 18, ground := Go.Ground.data }], guard := none }) (v := ?vg20) rfl (by kernel_rfl) (fun _ _ _ h => h) (Or.inr hHeld) (Or.inl ⟨by rfl, ?yg20⟩) ?_
  case yg20 => (intro wS _; go_simp <;> with_reducible rfl)
  try simp only [Act.put, List.setIfInBounds_toArray, List.set_cons_zero, List.set_cons_succ]
  refine wpG_pure (i := 20) (oi := { dst := some 32, op := Go.Op.fieldAddr 103 (Go.Operand.tmp 31) 4, type := 0, pos := "l2_type.go:144", after := #[{ on := 19, ground := Go.Ground.data }], guard := none }) (v := ?vg21) rfl (by kernel_rfl) (fun _ _ _ h => h) (Or.inr hHeld) (Or.inl ⟨by rfl, ?yg21⟩) ?_
  case yg21 => (intro wS _; go_simp <;> with_reducible rfl)
  try simp only [Act.put, List.setIfInBounds_toArray, List.set_cons_zero, List.set_cons_succ]
  refine wpG_load (i := 21) (oi := { dst := some 33, op := Go.Op.load 3 (Go.Operand.tmp 32), type := 3, pos := "l2_type.go:144", after := #[{ on := 20, ground := Go.Ground.data }], guard := none }) (v := ?vg22) [[24, 23, 22, 21]] rfl (by kernel_rfl) (fun _ _ _ h => h) hHeld (Or.inl ⟨by rfl, ?yg22⟩) ?_
  case yg22 => (intro wS hSw; (try dsimp only at hSw); go_simp <;> with_reducible rfl)
  try simp only [Act.put, List.setIfInBounds_toArray, List.set_cons_zero, List.set_cons_succ]
  refine wpG_pure (i := 22) (oi := { dst := some 34, op := Go.Op.build 85 #[(0, Go.Operand.tmp 16), (1, Go.Operand.tmp 20), (2, Go.Operand.tmp 24), (3, Go.Operand.tmp 28), (4, Go.Operand.tmp 29), (5, Go.Operand.tmp 33)], type := 85, pos := "l2_type.go:144", after := #[{ on := 4, ground := Go.Ground.data }, { on := 8, ground := Go.Ground.data }, { on := 12, ground := Go.Ground.data }, { on := 16, ground := Go.Ground.data }, { on := 17, ground := Go.Ground.data }, { on := 21, ground := Go.Ground.data }], guard := none }) (v := ?vg23) rfl (by kernel_rfl) (fun _ _ _ h => h) (Or.inr hHeld) (Or.inl ⟨by rfl, ?yg23⟩) ?_
  case yg23 => (intro wS _; go_simp <;> with_reducible rfl)
  try simp only [Act.put, List.setIfInBounds_toArray, List.set_cons_zero, List.set_cons_succ]
  refine wpG_one (i := 23) (o := { dst := some 35, op := Go.Op.buildSlice 26 1 #[(0, Go.Operand.tmp 34)], type := 26, pos := "l2_type.go:144", after := #[{ on := 22, ground := Go.Ground.data }], guard := none }) rfl (by kernel_rfl) (fun K hK => ?_)
  go_simp
  refine hK.out _ _ (Or.inr ?khHeld24) (fun hHeld24S => ?_)
  case khHeld24 => exact ⟨cell_alloc _ x0, cell_alloc _ x1, cell_alloc _ x2, cell_alloc _ x3, cell_alloc _ x4⟩
  have hHeld24 := hHeld24S.held (by kernel_rfl)
  clear hK K
  try simp only [Act.put, List.setIfInBounds_toArray, List.set_cons_zero, List.set_cons_succ]
  refine wpG_one (i := 24) (o := { dst := some 36, op := Go.Op.call { callee := Go.Callee.builtin Go.Builtin.append, args := #[Go.Operand.tmp 12, Go.Operand.tmp 35], argTypes := #[26, 26] }, type := 26, pos := "l2_type.go:144", after := #[{ on := 0, ground := Go.Ground.data }, { on := 23, ground := Go.Ground.data }], guard := none }) rfl (by kernel_rfl) (fun K hK => ?_)
  refine step_append_lies _ rfl (.tmp 12) (.tmp 35) 26 rfl base 85 i0 (.agg #[.int .i64 0, .string ByteArray.empty, .int .i64 0, .bool false, .int .i64 0, .int .i64 0]) 6 56 Try.underlying26 hi0 hz0 hz1 hz2 rfl (by decide) _ L0.length _ rfl ((ownN HO.out 1).alloc _) ⟨w.heap.size, 0, none⟩ 1 1 [.int .i64 t.kind, .string t.name, .int .i64 t.no, .bool t.must, .int .i64 up, .int .i64 t.most] rfl rfl (World.news_of_block (cs := #[.int .i64 t.kind, .string t.name, .int .i64 t.no, .bool t.must, .int .i64 up, .int .i64 t.most]) (t := 85) (fr := (0, 0)) (heap_alloc_new w.drew _)) (by simp [Value.oneCell']) (by omega) (by unfold maxLen; omega) (by omega) (by simp; omega) (w.heap.size + 1) (by simp) ?_
  intro g cp w2 hown hgrow hat hlt
  have HX2 := Lib.hid (hp_grown hgrow (hp_alloc (.cells #[.int .i64 t.kind, .string t.name, .int .i64 t.no, .bool t.must, .int .i64 up, .int .i64 t.most] 85) (show w.drew.heap[b]? = _ from HX.out)) hbS)
  have HW2 := Lib.hid (wrote_grow2 (S := fun k => (Value.slice va0 L0.length vc0).ownBlock = some k) (Wrote.of_below (((Below.refl w.heap.size w).drew).alloc (Nat.le_refl _) (.cells #[.int .i64 t.kind, .string t.name, .int .i64 t.no, .bool t.must, .int .i64 up, .int .i64 t.most] 85))) hgrow (fun k _ hk => hk))
  have HO2 : Hid (w2.ownsRow base 85 6 (.slice (some ⟨g, 0, none⟩) (L0.length + 1) cp) (L0 ++ [Ty.mk t.kind t.name t.no t.must up t.most]).length (tysV (L0 ++ [Ty.mk t.kind t.name t.no t.must up t.most]))) := Lib.hid (by rw [tysV_snoc, List.length_append]; exact hown)
  have HV2 : Hid ((Value.slice (some ⟨g, 0, none⟩) (L0.length + 1) cp).ownBlock = (Value.slice va0 L0.length vc0).ownBlock ∨ ∀ k, (Value.slice (some ⟨g, 0, none⟩) (L0.length + 1) cp).ownBlock = some k → w.heap.size ≤ k) := Lib.hid (by
    rcases hat with e | e
    · exact .inl e.symm
    · refine .inr (fun k hk => ?_)
      simp only [Value.ownBlock, Option.some.injEq] at hk
      omega)
  have hz3 := HW2.out.size
  clear hown hgrow hat hlt
  refine hK.out _ _ (Or.inl (by kernel_rfl)) (fun _ => ?_)
  clear hK K
  try simp only [Act.put, List.setIfInBounds_toArray, List.set_cons_zero, List.set_cons_succ]
  refine wpG_pure (i := 25) (oi := { dst := some 1, op := Go.Op.assign (Go.Operand.tmp 36), type := 26, pos := "l2_type.go:144", after := #[{ on := 24, ground := Go.Ground.data }, { on := 24, ground := Go.Ground.chain }, { on := 0, ground := Go.Ground.phase }, { on := 1, ground := Go.Ground.phase }, { on := 2, ground := Go.Ground.phase }, { on := 3, ground := Go.Ground.phase }, { on := 4, ground := Go.Ground.phase }, { on := 5, ground := Go.Ground.phase }, { on := 6, ground := Go.Ground.phase }, { on := 7, ground := Go.Ground.phase }, { on := 8, ground := Go.Ground.phase }, { on := 9, ground := Go.Ground.phase }, { on := 10, ground := Go.Ground.phase }, { on := 11, ground := Go.Ground.phase }, { on := 12, ground := Go.Ground.phase }, { on := 13, ground := Go.Ground.phase }, { on := 14, ground := Go.Ground.phase }, { on := 15, ground := Go.Ground.phase }, { on := 16, ground := Go.Ground.phase }, { on := 17, ground := Go.Ground.phase }, { on := 18, ground := Go.Ground.phase }, { on := 19, ground := Go.Ground.phase }, { on := 20, ground := Go.Ground.phase }, { on := 21, ground := Go.Ground.phase }, { on := 22, ground := Go.Ground.phase }, { on := 23, ground := Go.Ground.phase }, { on := 24, ground := Go.Ground.phase }], guard := none }) (v := ?vg26) rfl (by kernel_rfl) (fun _ _ _ h => h) (Or.inl (by kernel_rfl)) (Or.inl ⟨by rfl, ?yg26⟩) ?_
  case yg26 => (intro wS _; go_simp <;> with_reducible rfl)
  try simp only [Act.put, List.setIfInBounds_toArray, List.set_cons_zero, List.set_cons_succ]
  refine wpG_done (by kernel_rfl) ?_
  skip
  clear x0 x1 x2 x3 x4 x5
  obtain ⟨x0, x1, x2, x3, x4, x5⟩ := box6 HX2.out
  go_wp2_with fail
  go_loopw [1, 42] (fun lv iv wr => ∃ (i : Nat) (L1 : List Ty), i ≤ ks.length ∧ iv = .int .i64 (i : Int) ∧ Hid (L1 = L0 ++ [Ty.mk t.kind t.name t.no t.must up t.most] ++ flatL L0.length (L0.length + 1) (ks.take i)) ∧ Hid (wr.ownsRow base 85 6 lv L1.length (tysV L1)) ∧ Hid (Wrote (fun k => (Value.slice va0 L0.length vc0).ownBlock = some k) w wr) ∧ Hid (lv.ownBlock = (Value.slice va0 L0.length vc0).ownBlock ∨ ∀ k, lv.ownBlock = some k → w.heap.size ≤ k)) (fun _ iv _ => ks.length - (intOf iv).toNat)
  case atStart => exact ⟨0, _, by omega, rfl, Lib.hid (by rw [List.take_zero, flatL, List.append_nil]), HO2, HW2, HV2⟩
  case round =>
    obtain ⟨wo, rfl⟩ : ∃ z : World, z = wr := ⟨_, rfl⟩
    obtain ⟨i, L1, hi, rfl, HL, HO3, HW, HV⟩ := hrel
    obtain ⟨la, lc, rfl⟩ := form_of_own HO3.out
    have hzo := HW.out.size
    by_cases hil : i < ks.length
    case neg =>
      obtain rfl : i = ks.length := by omega
      go_wp2_with fail
      go_ret
      refine ⟨_, rfl, ?_, HW.out, HV.out⟩
      have e : L0 ++ Ty.mk t.kind t.name t.no t.must up t.most :: flatL L0.length (L0.length + 1) ks = L1 := by rw [HL.out, List.take_length]; simp
      rw [e]
      exact HO3.out
    obtain ⟨x, hx⟩ : ∃ x, ks[i]? = some x := ⟨ks[i], List.getElem?_eq_getElem hil⟩
    have hkp := HW.out.kept (T := S) (fun k hk e => HS.out k hk e)
    obtain ⟨rb, off, pb, va, ca, ws, rfl, hrb, r0, hks, -⟩ := kps_at (HROW.out.keep (T := fun q => S q ∧ q < w.heap.size) hkp (fun q h1 h2 => ⟨h1, h2⟩)) (KPs.keep (T := fun q => S q ∧ q < w.heap.size) hkp (fun q h1 h2 => ⟨h1, h2⟩) _ _ HKS.out) (Below.refl _ wo) hx
    have hcx := countL_take ks (i + 1)
    rw [take_snocT hx, countL_snoc] at hcx
    have hL1 : L1.length = L0.length + 1 + countL (ks.take i) := by rw [HL.out]; simp [flatL_len]; omega
    have HC := Lib.hid (HIH.out (fun q => S q ∧ q < w.heap.size) wo x _ L1 _ (List.mem_of_getElem? hx) hks HO3.out (by omega) (fun k hk e => by
      rcases HV.out with h | h
      · rw [h] at e; exact HS.out k hk.1 e
      · have := h k e; have := hk.2; omega) (by omega))
    have HLN : Hid (L1 ++ flatT (L0.length : Int) L1.length x = L0 ++ [Ty.mk t.kind t.name t.no t.must up t.most] ++ flatL L0.length (L0.length + 1) (ks.take (i + 1))) := Lib.hid (by
      rw [take_snocT hx, flatL_snoc, hL1, HL.out]; simp)
    clear hx hks hkp hcx hL1
    go_wp2_with fail
    refine HC.out.mono ?_
    rintro e w3 ⟨v3, rfl, ho3, hw3, hv3⟩
    have HO4 := Lib.hid ho3
    have HW4 := Lib.hid (HW.out.then hw3 (fun k hk e => by
      rcases HV.out with h | h
      · rw [← h]; exact e
      · have := h k e; omega))
    have HV4 : Hid (v3.ownBlock = (Value.slice va0 L0.length vc0).ownBlock ∨ ∀ k, v3.ownBlock = some k → w.heap.size ≤ k) := Lib.hid (by
      rcases hv3 with h | h
      · rw [h]; exact HV.out
      · exact .inr (fun k hk => by have := h k hk; omega))
    clear ho3 hw3 hv3
    go_wp2_with fail
    go_roundw
    case rel => exact ⟨i + 1, _, by omega, by go_num, HLN, HO4, HW4, HV4⟩
    case measure => (simp [intOf]; try omega)
theorem impl_types (base : Nat) : ∀ (f : Nat) {S : Nat → Prop} (w : World) (t : Tr) (p : Value) (L0 : List Ty) (v0 : Value) (up : Int), countT t ≤ f → KP S w t p → w.ownsRow base 85 6 v0 L0.length (tysV L0) → base ≤ w.heap.size → (∀ k, S k → v0.ownBlock ≠ some k) → L0.length + countT t ≤ 1048576 → Calls Try.prog 72 #[p, v0, .int .i64 up] w (FlatO base (L0 ++ flatT up L0.length t) v0 w)
  | 0, S, w, t, p, L0, v0, up, hf, _, _, _, _, _ => by have := countT_pos t; omega
  | f + 1, S, w, t, p, L0, v0, up, hf, h, ho, hb, hS, hl => impl_types_one base L0 v0 up h ho hb hS hl (fun T wx x v L1 v1 hx hk ho1 hb1 hT hl1 => by
      have h1 := count_mem hx
      have h2 := count_kids t
      exact impl_types base f wx x v L1 v1 _ (by omega) hk ho1 hb1 hT hl1)
/-! ### a tree as a schema that must be good -/
noncomputable def tellL (t : Tr) : List Ty := if goodT t = true then flat t else []
/-- what a tree is told as -/
def TellO (t : Tr) (w : World) (e : Ending) (w' : World) : Prop :=
  ∃ v, e = .returned (.tuple #[.agg #[v], .bool (goodT t)]) ∧ w'.ownsRow w.heap.size 85 6 v (tellL t).length (tysV (tellL t)) ∧ Below w.heap.size w w'
set_option maxHeartbeats 1000000 in
theorem impl_schema {S : Nat → Prop} {w : World} {t : Tr} {p : Value} (h : KP S w t p) (hl : countT t ≤ 1048576) : Calls Try.prog 40 #[p] w (TellO t w) := by
  unfold TellO
  have hB1 := Below.alloc (Below.refl w.heap.size w) (Nat.le_refl _) (.cells #[.slice none 0 0] 28)
  have hX1 := heap_alloc_new w (.cells #[.slice none 0 0] 28)
  generalize hw1 : w.alloc (.cells #[.slice none 0 0] 28) = w1 at *
  have l1 := hp_lt hX1
  have HG := Lib.hid (impl_good (h.keep (T := fun q => S q ∧ q < w.heap.size) (kept_below hB1) (fun q h1 h2 => ⟨h1, h2⟩)) hl)
  have HTY := Lib.hid (fun wx (hb : Below w1.heap.size w1 wx) => impl_types w.heap.size _ wx t p [] (.slice none 0 0) (-1) (Nat.le_refl _) (h.keep (T := fun q => S q ∧ q < w.heap.size) (kept_below (hB1.trans (hb.mono (Nat.le_of_lt l1)))) (fun q h1 h2 => ⟨h1, h2⟩)) (World.ownsRow_nil _ _ _ _) (by have := hb.size; omega) (fun k _ => by simp [Value.ownBlock]) (by simpa using hl))
  have HX1 := Lib.hid hX1
  have HB1 := Lib.hid hB1
  obtain ⟨b, a, c, vs, rfl, -⟩ := h.open
  unfold FlatO at HTY
  simp only [List.nil_append, List.length_nil] at HTY
  clear h hB1 hX1
  cases hg : goodT t with
  | false =>
    have HL : Hid (tellL t = []) := Lib.hid (by unfold tellL; rw [hg]; rfl)
    rw [hg] at HG
    go_enter Try.func40, Try.ntmps40
    go_wp2_with fail
    refine HG.out.mono ?_
    rintro e w2 ⟨rfl, hb⟩
    have HB2 := Lib.hid (HB1.out.trans (hb.mono HB1.out.size))
    have hX2 := hp_later hb HX1.out
    have x0 : w2.cell? ⟨w.heap.size, 0, none⟩ = some (.slice none 0 0) := by simp [World.cell?, hX2]
    have f0 : w2.frozen? ⟨w.heap.size, 0, none⟩ = false := by simp [World.frozen?, hX2]
    have y0 : (w2.setCell ⟨w.heap.size, 0, none⟩ (.slice none 0 0)).cell? ⟨w.heap.size, 0, none⟩ = some (.slice none 0 0) := by simp [World.setCell, Array.getElem?_modify, hX2, World.cell?]
    clear hb hX2
    go_wp2_with fail
    refine bodyPost_ret (v := .tuple #[.agg #[.slice none 0 0], .bool false]) (by simp [results, Try.results40, go_sem, y0]) rfl ?_
    exact ⟨_, rfl, by rw [HL.out]; exact World.ownsRow_nil _ _ _ _, below_set HB2.out (Nat.le_refl _) 0 _⟩
  | true =>
    have HL : Hid (tellL t = flat t) := Lib.hid (by unfold tellL; rw [hg]; rfl)
    rw [hg] at HG
    go_enter Try.func40, Try.ntmps40
    go_wp2_with fail
    refine HG.out.mono ?_
    rintro e w2 ⟨rfl, hb⟩
    have HB2 := Lib.hid (HB1.out.trans (hb.mono HB1.out.size))
    have HX2 := Lib.hid (hp_later hb HX1.out)
    have HT2 := Lib.hid (HTY.out w2 hb)
    have hz2 := hb.size
    clear hb
    go_wp2_with fail
    refine HT2.out.mono ?_
    rintro e w3 ⟨v, rfl, ho, hw, hv⟩
    have hnot : ∀ k, (Value.slice none 0 0).ownBlock = some k → False := fun k e => by simp [Value.ownBlock] at e
    have hX3 := (hw.block w.heap.size (by omega) (fun e => hnot _ e)).trans HX2.out
    have hv3 : ∀ k, v.ownBlock = some k → w2.heap.size ≤ k := by
      rcases hv with h | h
      · intro k hk; rw [h] at hk; exact (hnot _ hk).elim
      · exact h
    have HO3 := Lib.hid ((wrote_cell w3 w.heap.size 0 v).own ho (fun k hk => by have := hv3 k hk; omega))
    have HB3 := Lib.hid (below_set (HB2.out.trans (hw.below (B := w.heap.size) (by omega) (fun k hk => (hnot _ hk).elim))) (Nat.le_refl w.heap.size) 0 v)
    obtain ⟨va, vc, rfl⟩ := form_of_own ho
    have x0 : w3.cell? ⟨w.heap.size, 0, none⟩ = some (.slice none 0 0) := by simp [World.cell?, hX3]
    have f0 : w3.frozen? ⟨w.heap.size, 0, none⟩ = false := by simp [World.frozen?, hX3]
    have y0 : (w3.setCell ⟨w.heap.size, 0, none⟩ (.slice va (flatT (-1) 0 t).length vc)).cell? ⟨w.heap.size, 0, none⟩ = some (.slice va (flatT (-1) 0 t).length vc) := by simp [World.setCell, Array.getElem?_modify, hX3, World.cell?]
    clear hw hX3 ho hv hv3
    go_wp2_with fail
    refine bodyPost_ret (v := .tuple #[.agg #[.slice va (flatT (-1) 0 t).length vc], .bool true]) (by simp [results, Try.results40, go_sem, y0]) rfl ?_
    exact ⟨_, rfl, by rw [HL.out]; exact HO3.out, HB3.out⟩
end Go.Proofs.Ytmlnecopbncdbaa
