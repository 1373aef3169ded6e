/- A message of a schema as a schema: both walks. -/
import Derived.Test.YtmlnecopbncdbaaTyJ
import Derived.Test.YtmlnecopbncdbaaSu4
namespace Go.Proofs.Ytmlnecopbncdbaa
set_option linter.unusedVariables false
set_option linter.unusedSimpArgs false
open Go.ChangeShapes Go.WideShapes Go.ChangeAt Go.RowKit
set_option maxRecDepth 100000

/-- a type as a whole -/
def wholeT (t : Tr) : Tr := t.named ⟨#[]⟩ 0 false
theorem whole_count (t : Tr) : countT (wholeT t) = countT t := named_count _ _ _ _
theorem whole_wf {t : Tr} (h : WfT t) : WfT (wholeT t) := named_wf h
set_option maxHeartbeats 2000000 in
theorem impl_whole {S : Nat → Prop} {w : World} {t : Tr} {p : Value} (h : KP S w t p) : Calls Try.prog 61 #[p] w fun e w' => ∃ b, e = .returned (.pointer (some ⟨b, 0, none⟩)) ∧ Below w.heap.size w w' ∧ KP (fun q => S q ∨ w.heap.size ≤ q) w' (wholeT t) (.pointer (some ⟨b, 0, none⟩)) := by
  obtain ⟨b, a, c, vs, rfl, hS, hb, hc, hnm, hkc, hcm, hrow, hks⟩ := h.open
  obtain ⟨x0, x1, x2, x3, x4, x5⟩ := box6 hc
  have hB := ((Below.refl w.heap.size w).drew).alloc (Nat.le_refl _) (.cells #[.int .i64 t.kind, .string { data := #[] }, .int .i64 0, .bool false, .int .i64 t.most, .slice a t.kids.length c] 103)
  have hX := heap_alloc_new w.drew (.cells #[.int .i64 t.kind, .string { data := #[] }, .int .i64 0, .bool false, .int .i64 t.most, .slice a t.kids.length c] 103)
  have HB := Lib.hid hB
  have HK : Hid (KP (fun q => S q ∨ w.heap.size ≤ q) (w.drew.alloc (.cells #[.int .i64 t.kind, .string { data := #[] }, .int .i64 0, .bool false, .int .i64 t.most, .slice a t.kids.length c] 103)) (wholeT t) (.pointer (some ⟨w.heap.size, 0, none⟩))) := Lib.hid (by
    unfold wholeT Tr.named
    rw [KP]
    exact ⟨w.heap.size, a, c, vs, rfl, .inr (Nat.le_refl _), hX, Nat.zero_le _, hkc, hcm, hrow.keep (kept_below hB) (fun q h _ => .inl h), KPs.keep (kept_below hB) (fun q h _ => .inl h) _ _ hks⟩)
  clear hB hX hc hrow hks h
  go_enter Try.func61, Try.ntmps61
  go_wp2_with fail
  refine wp_region_G [] (fun w' => w'.cell? ⟨b, 0, none⟩ = some (.int .i64 t.kind) ∧ w'.cell? ⟨b, 4, none⟩ = some (.int .i64 t.most) ∧ w'.cell? ⟨b, 5, none⟩ = some (.slice a t.kids.length c)) (by kernel_rfl) ?_ (fun hHeld => ?_)
  · exact ⟨x0, x4, x5⟩
  refine wpG_pure (i := 0) (oi := { dst := some 3, op := Go.Op.move (Go.Operand.tmp 0), type := 65, pos := "l2_type.go:290", after := #[], guard := none }) (v := ?vg1) rfl (by kernel_rfl) (fun _ _ _ h => h) (Or.inr hHeld) (Or.inl ⟨by rfl, ?yg1⟩) ?_
  case yg1 => (intro wS _; go_simp <;> with_reducible rfl)
  try simp only [Act.put, List.setIfInBounds_toArray, List.set_cons_zero, List.set_cons_succ]
  refine wpG_pure (i := 1) (oi := { dst := some 4, op := Go.Op.nilCheck (Go.Operand.tmp 3), type := 0, pos := "l2_type.go:290", after := #[{ on := 0, ground := Go.Ground.data }], guard := none }) (v := ?vg2) rfl (by kernel_rfl) (fun _ _ _ h => h) (Or.inr hHeld) (Or.inl ⟨by rfl, ?yg2⟩) ?_
  case yg2 => (intro wS _; go_simp <;> with_reducible rfl)
  try simp only [Act.put, List.setIfInBounds_toArray, List.set_cons_zero, List.set_cons_succ]
  refine wpG_pure (i := 2) (oi := { dst := some 5, op := Go.Op.fieldAddr 103 (Go.Operand.tmp 4) 0, type := 0, pos := "l2_type.go:290", after := #[{ on := 1, ground := Go.Ground.data }], guard := none }) (v := ?vg3) rfl (by kernel_rfl) (fun _ _ _ h => h) (Or.inr hHeld) (Or.inl ⟨by rfl, ?yg3⟩) ?_
  case yg3 => (intro wS _; go_simp <;> with_reducible rfl)
  try simp only [Act.put, List.setIfInBounds_toArray, List.set_cons_zero, List.set_cons_succ]
  refine wpG_load (i := 3) (oi := { dst := some 6, op := Go.Op.load 3 (Go.Operand.tmp 5), type := 3, pos := "l2_type.go:290", after := #[{ on := 2, ground := Go.Ground.data }], guard := none }) (v := ?vg4) [] rfl (by kernel_rfl) (fun _ _ _ h => h) hHeld (Or.inl ⟨by rfl, ?yg4⟩) ?_
  case yg4 => (intro wS hSw; (try dsimp only at hSw); go_simp <;> with_reducible rfl)
  try simp only [Act.put, List.setIfInBounds_toArray, List.set_cons_zero, List.set_cons_succ]
  refine wpG_pure (i := 4) (oi := { dst := some 7, op := Go.Op.move (Go.Operand.tmp 0), type := 65, pos := "l2_type.go:290", after := #[], guard := none }) (v := ?vg5) rfl (by kernel_rfl) (fun _ _ _ h => h) (Or.inr hHeld) (Or.inl ⟨by rfl, ?yg5⟩) ?_
  case yg5 => (intro wS _; go_simp <;> with_reducible rfl)
  try simp only [Act.put, List.setIfInBounds_toArray, List.set_cons_zero, List.set_cons_succ]
  refine wpG_pure (i := 5) (oi := { dst := some 8, op := Go.Op.nilCheck (Go.Operand.tmp 7), type := 0, pos := "l2_type.go:290", after := #[{ on := 4, ground := Go.Ground.data }], guard := none }) (v := ?vg6) rfl (by kernel_rfl) (fun _ _ _ h => h) (Or.inr hHeld) (Or.inl ⟨by rfl, ?yg6⟩) ?_
  case yg6 => (intro wS _; go_simp <;> with_reducible rfl)
  try simp only [Act.put, List.setIfInBounds_toArray, List.set_cons_zero, List.set_cons_succ]
  refine wpG_pure (i := 6) (oi := { dst := some 9, op := Go.Op.fieldAddr 103 (Go.Operand.tmp 8) 4, type := 0, pos := "l2_type.go:290", after := #[{ on := 5, ground := Go.Ground.data }], guard := none }) (v := ?vg7) rfl (by kernel_rfl) (fun _ _ _ h => h) (Or.inr hHeld) (Or.inl ⟨by rfl, ?yg7⟩) ?_
  case yg7 => (intro wS _; go_simp <;> with_reducible rfl)
  try simp only [Act.put, List.setIfInBounds_toArray, List.set_cons_zero, List.set_cons_succ]
  refine wpG_load (i := 7) (oi := { dst := some 10, op := Go.Op.load 3 (Go.Operand.tmp 9), type := 3, pos := "l2_type.go:290", after := #[{ on := 6, ground := Go.Ground.data }], guard := none }) (v := ?vg8) [] rfl (by kernel_rfl) (fun _ _ _ h => h) hHeld (Or.inl ⟨by rfl, ?yg8⟩) ?_
  case yg8 => (intro wS hSw; (try dsimp only at hSw); go_simp <;> with_reducible rfl)
  try simp only [Act.put, List.setIfInBounds_toArray, List.set_cons_zero, List.set_cons_succ]
  refine wpG_pure (i := 8) (oi := { dst := some 11, op := Go.Op.move (Go.Operand.tmp 0), type := 65, pos := "l2_type.go:290", after := #[], guard := none }) (v := ?vg9) rfl (by kernel_rfl) (fun _ _ _ h => h) (Or.inr hHeld) (Or.inl ⟨by rfl, ?yg9⟩) ?_
  case yg9 => (intro wS _; go_simp <;> with_reducible rfl)
  try simp only [Act.put, List.setIfInBounds_toArray, List.set_cons_zero, List.set_cons_succ]
  refine wpG_pure (i := 9) (oi := { dst := some 12, op := Go.Op.nilCheck (Go.Operand.tmp 11), type := 0, pos := "l2_type.go:290", after := #[{ on := 8, ground := Go.Ground.data }], guard := none }) (v := ?vg10) rfl (by kernel_rfl) (fun _ _ _ h => h) (Or.inr hHeld) (Or.inl ⟨by rfl, ?yg10⟩) ?_
  case yg10 => (intro wS _; go_simp <;> with_reducible rfl)
  try simp only [Act.put, List.setIfInBounds_toArray, List.set_cons_zero, List.set_cons_succ]
  refine wpG_pure (i := 10) (oi := { dst := some 13, op := Go.Op.fieldAddr 103 (Go.Operand.tmp 12) 5, type := 0, pos := "l2_type.go:290", after := #[{ on := 9, ground := Go.Ground.data }], guard := none }) (v := ?vg11) rfl (by kernel_rfl) (fun _ _ _ h => h) (Or.inr hHeld) (Or.inl ⟨by rfl, ?yg11⟩) ?_
  case yg11 => (intro wS _; go_simp <;> with_reducible rfl)
  try simp only [Act.put, List.setIfInBounds_toArray, List.set_cons_zero, List.set_cons_succ]
  refine wpG_load (i := 11) (oi := { dst := some 14, op := Go.Op.load 101 (Go.Operand.tmp 13), type := 101, pos := "l2_type.go:290", after := #[{ on := 10, ground := Go.Ground.data }], guard := none }) (v := ?vg12) [] rfl (by kernel_rfl) (fun _ _ _ h => h) hHeld (Or.inl ⟨by rfl, ?yg12⟩) ?_
  case yg12 => (intro wS hSw; (try dsimp only at hSw); go_simp <;> with_reducible rfl)
  try simp only [Act.put, List.setIfInBounds_toArray, List.set_cons_zero, List.set_cons_succ]
  refine wpG_pure (i := 12) (oi := { dst := some 15, op := Go.Op.build 103 #[(0, Go.Operand.tmp 6), (4, Go.Operand.tmp 10), (5, Go.Operand.tmp 14)], type := 103, pos := "l2_type.go:290", after := #[{ on := 3, ground := Go.Ground.data }, { on := 7, ground := Go.Ground.data }, { on := 11, ground := Go.Ground.data }], guard := none }) (v := ?vg13) rfl (by kernel_rfl) (fun _ _ _ h => h) (Or.inr hHeld) (Or.inl ⟨by rfl, ?yg13⟩) ?_
  case yg13 => (intro wS _; go_simp <;> with_reducible rfl)
  try simp only [Act.put, List.setIfInBounds_toArray, List.set_cons_zero, List.set_cons_succ]
  refine wpG_one (i := 13) (o := { dst := some 16, op := Go.Op.box 103 (Go.Operand.tmp 15), type := 65, pos := "l2_type.go:290", after := #[{ on := 12, ground := Go.Ground.data }], guard := none }) rfl (by kernel_rfl) (fun K hK => ?_)
  go_simp
  refine hK.out _ _ (Or.inr ?khHeld14) (fun hHeld14S => ?_)
  case khHeld14 => exact ⟨cell_alloc _ x0, cell_alloc _ x4, cell_alloc _ x5⟩
  have hHeld14 := hHeld14S.held (by kernel_rfl)
  clear hK K
  try simp only [Act.put, List.setIfInBounds_toArray, List.set_cons_zero, List.set_cons_succ]
  refine wpG_pure (i := 14) (oi := { dst := some 2, op := Go.Op.assign (Go.Operand.tmp 16), type := 65, pos := "l2_type.go:290", after := #[{ on := 13, ground := Go.Ground.data }, { on := 0, ground := Go.Ground.phase }, { on := 1, ground := Go.Ground.phase }, { on := 2, ground := Go.Ground.phase }, { on := 3, ground := Go.Ground.phase }, { on := 4, ground := Go.Ground.phase }, { on := 5, ground := Go.Ground.phase }, { on := 6, ground := Go.Ground.phase }, { on := 7, ground := Go.Ground.phase }, { on := 8, ground := Go.Ground.phase }, { on := 9, ground := Go.Ground.phase }, { on := 10, ground := Go.Ground.phase }, { on := 11, ground := Go.Ground.phase }, { on := 12, ground := Go.Ground.phase }, { on := 13, ground := Go.Ground.phase }], guard := none }) (v := ?vg15) rfl (by kernel_rfl) (fun _ _ _ h => h) (Or.inr hHeld14) (Or.inl ⟨by rfl, ?yg15⟩) ?_
  case yg15 => (intro wS _; go_simp <;> with_reducible rfl)
  try simp only [Act.put, List.setIfInBounds_toArray, List.set_cons_zero, List.set_cons_succ]
  refine wpG_done (by kernel_rfl) ?_
  go_wp2_with fail
  go_ret
  exact ⟨_, rfl, HB.out, HK.out⟩
/-- the message at a place as a schema -/
noncomputable def ssR (L : List Ty) (k : Int) : List Ty × Bool := if goodL L = true ∧ (0 ≤ k ∧ k < (L.length : Int)) ∧ (∀ x, L[k.toNat]? = some x → x.kind = 5) then (tellL (wholeT (treeOf L k.toNat)), goodT (wholeT (treeOf L k.toNat))) else ([], false)
def SubO (L : List Ty) (k : Int) (w : World) (e : Ending) (w' : World) : Prop :=
  ∃ v, e = .returned (.tuple #[.agg #[v], .bool (ssR L k).2]) ∧ w'.ownsRow w.heap.size 85 6 v (ssR L k).1.length (tysV (ssR L k).1) ∧ Below w.heap.size w w'
set_option maxHeartbeats 4000000 in
theorem spec_SubSchema {B : Nat} {w : World} {L : List Ty} {a : Option Addr} {cap : Nat} (h : Sch B w L a cap) (k : Int) : Calls Try.prog 26 #[.agg #[.slice a L.length cap], .int .i64 k] w (SubO L k w) := by
  have hB1 := Below.alloc (Below.refl w.heap.size w) (Nat.le_refl _) (.cells #[.slice a L.length cap] 28)
  have hX1 := heap_alloc_new w (.cells #[.slice a L.length cap] 28)
  generalize hw1 : w.alloc (.cells #[.slice a L.length cap] 28) = w1 at *
  have l1 := hp_lt hX1
  have hB2 := hB1.alloc (Nat.le_of_lt l1) (.cells #[.slice none 0 0] 28)
  have hX1 := hp_alloc (.cells #[.slice none 0 0] 28) hX1
  have hX2 := heap_alloc_new w1 (.cells #[.slice none 0 0] 28)
  generalize hw2 : w1.alloc (.cells #[.slice none 0 0] 28) = w2 at *
  have l2 := hp_lt hX2
  have HX2 := Lib.hid hX2
  have HB2 := Lib.hid hB2
  have HS2 := Lib.hid (h.keep hB2)
  have hlm := h.hl
  have hcm := h.hcm
  have hlc := h.hc
  have hBw := h.hB
  have c1 : w2.cell? ⟨w.heap.size, 0, none⟩ = some (.slice a L.length cap) := by simp [World.cell?, hX1]
  clear hB1 hX1 hX2
  have HG := Lib.hid (spec_GoodSchema HS2.out)
  unfold SubO ssR
  clear h
  cases hg : goodL L with
  | false =>
    rw [if_neg (by simp)]
    rw [hg] at HG
    go_enter Try.func26, Try.ntmps26
    go_wp2_with fail
    refine HG.out.mono ?_
    rintro e w3 ⟨rfl, hb⟩
    have HB3 := Lib.hid (HB2.out.trans (hb.mono HB2.out.size))
    have HS3 := Lib.hid (HS2.out.keep hb)
    have d1 := below_later hb c1
    have hX3 := hp_later hb HX2.out
    have x0 : w3.cell? ⟨w1.heap.size, 0, none⟩ = some (.slice none 0 0) := by simp [World.cell?, hX3]
    have f0 : w3.frozen? ⟨w1.heap.size, 0, none⟩ = false := by simp [World.frozen?, hX3]
    have y0 : (w3.setCell ⟨w1.heap.size, 0, none⟩ (.slice none 0 0)).cell? ⟨w1.heap.size, 0, none⟩ = some (.slice none 0 0) := by simp [World.setCell, Array.getElem?_modify, hX3, World.cell?]
    have HBF := Lib.hid (below_set HB3.out (X := w1.heap.size) (Nat.le_of_lt l1) 0 (.slice none 0 0))
    have l3 : w2.heap.size ≤ w3.heap.size := hb.size
    have HX3 := Lib.hid hX3
    clear hb hX3
    go_wp2_with fail
    refine bodyPost_ret (v := .tuple #[.agg #[.slice none 0 0], .bool false]) (by simp [results, Try.results26, go_sem, y0]) rfl ?_
    exact ⟨_, rfl, World.ownsRow_nil _ _ _ _, HBF.out⟩
  | true =>
  obtain ⟨-, -, o1, -⟩ := good_right hg
  have h30 : L.length ≤ 30 := (goodL_iff.1 hg).1.2
  have HO := Lib.hid o1
  rw [hg] at HG
  clear hg o1
  by_cases hk0 : k < 0
  · rw [if_neg (by omega)]
    go_enter Try.func26, Try.ntmps26
    go_wp2_with fail
    refine HG.out.mono ?_
    rintro e w3 ⟨rfl, hb⟩
    have HB3 := Lib.hid (HB2.out.trans (hb.mono HB2.out.size))
    have HS3 := Lib.hid (HS2.out.keep hb)
    have d1 := below_later hb c1
    have hX3 := hp_later hb HX2.out
    have x0 : w3.cell? ⟨w1.heap.size, 0, none⟩ = some (.slice none 0 0) := by simp [World.cell?, hX3]
    have f0 : w3.frozen? ⟨w1.heap.size, 0, none⟩ = false := by simp [World.frozen?, hX3]
    have y0 : (w3.setCell ⟨w1.heap.size, 0, none⟩ (.slice none 0 0)).cell? ⟨w1.heap.size, 0, none⟩ = some (.slice none 0 0) := by simp [World.setCell, Array.getElem?_modify, hX3, World.cell?]
    have HBF := Lib.hid (below_set HB3.out (X := w1.heap.size) (Nat.le_of_lt l1) 0 (.slice none 0 0))
    have l3 : w2.heap.size ≤ w3.heap.size := hb.size
    have HX3 := Lib.hid hX3
    clear hb hX3
    go_wp2_with fail
    refine bodyPost_ret (v := .tuple #[.agg #[.slice none 0 0], .bool false]) (by simp [results, Try.results26, go_sem, y0]) rfl ?_
    exact ⟨_, rfl, World.ownsRow_nil _ _ _ _, HBF.out⟩
  by_cases hkl : k ≥ (L.length : Int)
  · rw [if_neg (by omega)]
    go_enter Try.func26, Try.ntmps26
    go_wp2_with fail
    refine HG.out.mono ?_
    rintro e w3 ⟨rfl, hb⟩
    have HB3 := Lib.hid (HB2.out.trans (hb.mono HB2.out.size))
    have HS3 := Lib.hid (HS2.out.keep hb)
    have d1 := below_later hb c1
    have hX3 := hp_later hb HX2.out
    have x0 : w3.cell? ⟨w1.heap.size, 0, none⟩ = some (.slice none 0 0) := by simp [World.cell?, hX3]
    have f0 : w3.frozen? ⟨w1.heap.size, 0, none⟩ = false := by simp [World.frozen?, hX3]
    have y0 : (w3.setCell ⟨w1.heap.size, 0, none⟩ (.slice none 0 0)).cell? ⟨w1.heap.size, 0, none⟩ = some (.slice none 0 0) := by simp [World.setCell, Array.getElem?_modify, hX3, World.cell?]
    have HBF := Lib.hid (below_set HB3.out (X := w1.heap.size) (Nat.le_of_lt l1) 0 (.slice none 0 0))
    have l3 : w2.heap.size ≤ w3.heap.size := hb.size
    have HX3 := Lib.hid hX3
    clear hb hX3
    go_wp2_with fail
    refine bodyPost_ret (v := .tuple #[.agg #[.slice none 0 0], .bool false]) (by simp [results, Try.results26, go_sem, y0]) rfl ?_
    exact ⟨_, rfl, World.ownsRow_nil _ _ _ _, HBF.out⟩
  obtain ⟨n, rfl⟩ : ∃ n : Nat, k = (n : Int) := ⟨k.toNat, by omega⟩
  rw [Int.toNat_natCast]
  obtain ⟨x, hx⟩ : ∃ x, L[n]? = some x := ⟨L[n]'(by omega), List.getElem?_eq_getElem (by omega)⟩
  obtain ⟨b, off, rfl, hbl, k0, -⟩ := tys_cells HS2.out.row hx
  have HX := Lib.hid hx
  have hnl : n < L.length := by omega
  have hbw : b < w2.heap.size := by omega
  by_cases h5 : x.kind = 5
  case neg =>
    rw [if_neg (fun q => h5 (q.2.2 x hx))]
    have n5 : (x.kind != 5) = true := bne_iff_ne.2 h5
    clear hx h5
    go_enter Try.func26, Try.ntmps26
    go_wp2_with fail
    refine HG.out.mono ?_
    rintro e w3 ⟨rfl, hb⟩
    have k3 := below_later hb k0
    have HB3 := Lib.hid (HB2.out.trans (hb.mono HB2.out.size))
    have HS3 := Lib.hid (HS2.out.keep hb)
    have d1 := below_later hb c1
    have hX3 := hp_later hb HX2.out
    have x0 : w3.cell? ⟨w1.heap.size, 0, none⟩ = some (.slice none 0 0) := by simp [World.cell?, hX3]
    have f0 : w3.frozen? ⟨w1.heap.size, 0, none⟩ = false := by simp [World.frozen?, hX3]
    have y0 : (w3.setCell ⟨w1.heap.size, 0, none⟩ (.slice none 0 0)).cell? ⟨w1.heap.size, 0, none⟩ = some (.slice none 0 0) := by simp [World.setCell, Array.getElem?_modify, hX3, World.cell?]
    have HBF := Lib.hid (below_set HB3.out (X := w1.heap.size) (Nat.le_of_lt l1) 0 (.slice none 0 0))
    have l3 : w2.heap.size ≤ w3.heap.size := hb.size
    have HX3 := Lib.hid hX3
    clear hb hX3
    go_wp2_with fail
    refine bodyPost_ret (v := .tuple #[.agg #[.slice none 0 0], .bool false]) (by simp [results, Try.results26, go_sem, y0]) rfl ?_
    exact ⟨_, rfl, World.ownsRow_nil _ _ _ _, HBF.out⟩
  rw [if_pos ⟨rfl, by omega, fun y hy => by rw [hx] at hy; cases hy; exact h5⟩]
  rw [h5] at k0
  have hct := (HO.out.kids hx).2
  have hwf : WfT (treeOf L n) := by
    obtain ⟨t, e, hT⟩ := tree_ex hx
    rw [hT.of]; exact hT.wf
  have HWF := Lib.hid (whole_wf hwf)
  have hcw : countT (wholeT (treeOf L n)) ≤ 30 := by rw [whole_count]; omega
  generalize hTT : wholeT (treeOf L n) = TT at *
  clear hx h5 hwf
  go_enter Try.func26, Try.ntmps26
  go_wp2_with fail
  refine HG.out.mono ?_
  rintro e w3 ⟨rfl, hb⟩
  have k3 := below_later hb k0
  have HB3 := Lib.hid (HB2.out.trans (hb.mono HB2.out.size))
  have HS3 := Lib.hid (HS2.out.keep hb)
  have d1 := below_later hb c1
  have hX3 := hp_later hb HX2.out
  have x0 : w3.cell? ⟨w1.heap.size, 0, none⟩ = some (.slice none 0 0) := by simp [World.cell?, hX3]
  have f0 : w3.frozen? ⟨w1.heap.size, 0, none⟩ = false := by simp [World.frozen?, hX3]
  have y0 : (w3.setCell ⟨w1.heap.size, 0, none⟩ (.slice none 0 0)).cell? ⟨w1.heap.size, 0, none⟩ = some (.slice none 0 0) := by simp [World.setCell, Array.getElem?_modify, hX3, World.cell?]
  have HBF := Lib.hid (below_set HB3.out (X := w1.heap.size) (Nat.le_of_lt l1) 0 (.slice none 0 0))
  have l3 : w2.heap.size ≤ w3.heap.size := hb.size
  have HX3 := Lib.hid hX3
  clear hb hX3
  have HT := Lib.hid (spec_l2Tree HO.out _ n w3 (Nat.le_refl _) hnl HS3.out)
  unfold TreeO at HT
  clear y0 HBF
  go_wp2_with fail
  refine HT.out.mono ?_
  rintro e w4 ⟨cs, rfl, hb, hk⟩
  obtain ⟨qa, qc, qss, rfl, hqn, hqk, hqc, -⟩ := hk.open
  have hb5 := (Below.refl w4.heap.size w4).alloc (Nat.le_refl _) (.cells #[.int .i64 (treeOf L n).kind, .string { data := #[] }, .int .i64 0, .bool false, .int .i64 (treeOf L n).most, .slice qa (treeOf L n).kids.length qc] 59)
  have HB5 := Lib.hid ((HB3.out.trans (hb.mono HB3.out.size)).trans (hb5.mono (Nat.le_trans HB3.out.size hb.size)))
  have HX5 := Lib.hid (hp_later hb5 (hp_later hb HX3.out))
  have l5 : w3.heap.size ≤ w4.heap.size := hb.size
  have l6 : w4.heap.size < (w4.alloc (.cells #[.int .i64 (treeOf L n).kind, .string { data := #[] }, .int .i64 0, .bool false, .int .i64 (treeOf L n).most, .slice qa (treeOf L n).kids.length qc] 59)).heap.size := by simp
  have hN5 := heap_alloc_new w4 (.cells #[.int .i64 (treeOf L n).kind, .string { data := #[] }, .int .i64 0, .bool false, .int .i64 (treeOf L n).most, .slice qa (treeOf L n).kids.length qc] 59)
  have hkw : KS (fun q => w3.heap.size ≤ q) w4 TT [.int .i64 (treeOf L n).kind, .string ⟨#[]⟩, .int .i64 0, .bool false, .int .i64 (treeOf L n).most, .slice qa (treeOf L n).kids.length qc] := hTT ▸ named_ks (s := ⟨#[]⟩) (no := 0) (m := false) (Nat.zero_le _) hk
  have HTL := Lib.hid (spec_l2Tell (hkw.later hb5) (by omega) HWF.out)
  unfold TellO at HTL
  generalize hw5 : w4.alloc (.cells #[.int .i64 (treeOf L n).kind, .string { data := #[] }, .int .i64 0, .bool false, .int .i64 (treeOf L n).most, .slice qa (treeOf L n).kids.length qc] 59) = w5 at *
  obtain ⟨t0, t1, t2, t3, t4, t5⟩ := box6 hN5
  clear hb hk hb5 hkw x0 f0 hN5
  go_wp2_with fail
  refine HTL.out.mono ?_
  rintro e w6 ⟨v, rfl, ho, hb⟩
  obtain ⟨va, vc, rfl⟩ := form_of_own ho
  have hX6 := hp_later hb HX5.out
  have z0 : w6.cell? ⟨w1.heap.size, 0, none⟩ = some (.slice none 0 0) := by simp [World.cell?, hX6]
  have g0 : w6.frozen? ⟨w1.heap.size, 0, none⟩ = false := by simp [World.frozen?, hX6]
  have q0 : (w6.setCell ⟨w1.heap.size, 0, none⟩ (.slice va (tellL TT).length vc)).cell? ⟨w1.heap.size, 0, none⟩ = some (.slice va (tellL TT).length vc) := by simp [World.setCell, Array.getElem?_modify, hX6, World.cell?]
  have hws := wrote_cell w6 w1.heap.size 0 (.slice va (tellL TT).length vc)
  have HO6 := Lib.hid (own_mono (hws.own ho (fun k hk e => by have := (ho.lt k hk).1; omega)) (show w.heap.size ≤ w5.heap.size by omega))
  have HB6 := Lib.hid (below_set (HB5.out.trans (hb.mono HB5.out.size)) (X := w1.heap.size) (Nat.le_of_lt l1) 0 (.slice va (tellL TT).length vc))
  clear hb ho hX6 hws
  go_wp2_with fail
  refine bodyPost_ret (v := .tuple #[.agg #[.slice va (tellL TT).length vc], .bool (goodT TT)]) (by simp [results, Try.results26, go_sem, q0]) rfl ?_
  exact ⟨_, rfl, HO6.out, HB6.out⟩
set_option maxHeartbeats 4000000 in
theorem impl_SubSchema {B : Nat} {w : World} {L : List Ty} {a : Option Addr} {cap : Nat} (h : Sch B w L a cap) (k : Int) : Calls Try.prog 25 #[.agg #[.slice a L.length cap], .int .i64 k] w (SubO L k w) := by
  have hB1 := Below.alloc (Below.refl w.heap.size w) (Nat.le_refl _) (.cells #[.slice a L.length cap] 28)
  have hX1 := heap_alloc_new w (.cells #[.slice a L.length cap] 28)
  generalize hw1 : w.alloc (.cells #[.slice a L.length cap] 28) = w1 at *
  have l1 := hp_lt hX1
  have hB2 := hB1.alloc (Nat.le_of_lt l1) (.cells #[.slice none 0 0] 28)
  have hX1 := hp_alloc (.cells #[.slice none 0 0] 28) hX1
  have hX2 := heap_alloc_new w1 (.cells #[.slice none 0 0] 28)
  generalize hw2 : w1.alloc (.cells #[.slice none 0 0] 28) = w2 at *
  have l2 := hp_lt hX2
  have HX2 := Lib.hid hX2
  have HB2 := Lib.hid hB2
  have HS2 := Lib.hid (h.keep hB2)
  have hlm := h.hl
  have hcm := h.hcm
  have hlc := h.hc
  have hBw := h.hB
  have c1 : w2.cell? ⟨w.heap.size, 0, none⟩ = some (.slice a L.length cap) := by simp [World.cell?, hX1]
  clear hB1 hX1 hX2
  have HG := Lib.hid (impl_GoodSchema HS2.out)
  unfold SubO ssR
  clear h
  cases hg : goodL L with
  | false =>
    rw [if_neg (by simp)]
    rw [hg] at HG
    go_enter Try.func25, Try.ntmps25
    go_wp2_with fail
    refine HG.out.mono ?_
    rintro e w3 ⟨rfl, hb⟩
    have HB3 := Lib.hid (HB2.out.trans (hb.mono HB2.out.size))
    have HS3 := Lib.hid (HS2.out.keep hb)
    have d1 := below_later hb c1
    have hX3 := hp_later hb HX2.out
    have x0 : w3.cell? ⟨w1.heap.size, 0, none⟩ = some (.slice none 0 0) := by simp [World.cell?, hX3]
    have f0 : w3.frozen? ⟨w1.heap.size, 0, none⟩ = false := by simp [World.frozen?, hX3]
    have y0 : (w3.setCell ⟨w1.heap.size, 0, none⟩ (.slice none 0 0)).cell? ⟨w1.heap.size, 0, none⟩ = some (.slice none 0 0) := by simp [World.setCell, Array.getElem?_modify, hX3, World.cell?]
    have HBF := Lib.hid (below_set HB3.out (X := w1.heap.size) (Nat.le_of_lt l1) 0 (.slice none 0 0))
    have l3 : w2.heap.size ≤ w3.heap.size := hb.size
    have HX3 := Lib.hid hX3
    clear hb hX3
    go_wp2_with fail
    refine bodyPost_ret (v := .tuple #[.agg #[.slice none 0 0], .bool false]) (by simp [results, Try.results25, go_sem, y0]) rfl ?_
    exact ⟨_, rfl, World.ownsRow_nil _ _ _ _, HBF.out⟩
  | true =>
  have h30 : L.length ≤ 30 := (goodL_iff.1 hg).1.2
  rw [hg] at HG
  clear hg
  have hwr : IntKind.i64.wrap ((L.length : Int) - 1) = (L.length : Int) - 1 := IntWalk.i64_in _ (by omega)
  have HI := Lib.hid (fun wx => impl_within k 0 ((L.length : Int) - 1) wx)
  cases hin : inR k 0 ((L.length : Int) - 1) with
  | false =>
    rw [if_neg (by rw [Bool.eq_false_iff, Ne, inR_iff2] at hin; omega)]
    rw [hin] at HI
    clear hin
    go_enter Try.func25, Try.ntmps25
    go_wp2_with fail
    refine HG.out.mono ?_
    rintro e w3 ⟨rfl, hb⟩
    have HB3 := Lib.hid (HB2.out.trans (hb.mono HB2.out.size))
    have HS3 := Lib.hid (HS2.out.keep hb)
    have d1 := below_later hb c1
    have hX3 := hp_later hb HX2.out
    have x0 : w3.cell? ⟨w1.heap.size, 0, none⟩ = some (.slice none 0 0) := by simp [World.cell?, hX3]
    have f0 : w3.frozen? ⟨w1.heap.size, 0, none⟩ = false := by simp [World.frozen?, hX3]
    have y0 : (w3.setCell ⟨w1.heap.size, 0, none⟩ (.slice none 0 0)).cell? ⟨w1.heap.size, 0, none⟩ = some (.slice none 0 0) := by simp [World.setCell, Array.getElem?_modify, hX3, World.cell?]
    have HBF := Lib.hid (below_set HB3.out (X := w1.heap.size) (Nat.le_of_lt l1) 0 (.slice none 0 0))
    have l3 : w2.heap.size ≤ w3.heap.size := hb.size
    have HX3 := Lib.hid hX3
    clear hb hX3
    go_wp2_with fail
    refine (HI.out _).mono ?_
    rintro e w4 ⟨rfl, rfl⟩
    go_wp2_with fail
    refine bodyPost_ret (v := .tuple #[.agg #[.slice none 0 0], .bool false]) (by simp [results, Try.results25, go_sem, y0]) rfl ?_
    exact ⟨_, rfl, World.ownsRow_nil _ _ _ _, HBF.out⟩
  | true =>
  have hk := inR_iff2.1 hin
  rw [hin] at HI
  clear hin
  obtain ⟨n, rfl⟩ : ∃ n : Nat, k = (n : Int) := ⟨k.toNat, by omega⟩
  rw [Int.toNat_natCast]
  obtain ⟨x, hx⟩ : ∃ x, L[n]? = some x := ⟨L[n]'(by omega), List.getElem?_eq_getElem (by omega)⟩
  obtain ⟨b, off, rfl, hbl, k0, -⟩ := tys_cells HS2.out.row hx
  have HX := Lib.hid hx
  have hnl : n < L.length := by omega
  have hbw : b < w2.heap.size := by omega
  by_cases h5 : x.kind = 5
  case neg =>
    rw [if_neg (fun q => h5 (q.2.2 x hx))]
    have n5 : (x.kind != 5) = true := bne_iff_ne.2 h5
    clear hx h5
    go_enter Try.func25, Try.ntmps25
    go_wp2_with fail
    refine HG.out.mono ?_
    rintro e w3 ⟨rfl, hb⟩
    have k3 := below_later hb k0
    have HB3 := Lib.hid (HB2.out.trans (hb.mono HB2.out.size))
    have HS3 := Lib.hid (HS2.out.keep hb)
    have d1 := below_later hb c1
    have hX3 := hp_later hb HX2.out
    have x0 : w3.cell? ⟨w1.heap.size, 0, none⟩ = some (.slice none 0 0) := by simp [World.cell?, hX3]
    have f0 : w3.frozen? ⟨w1.heap.size, 0, none⟩ = false := by simp [World.frozen?, hX3]
    have y0 : (w3.setCell ⟨w1.heap.size, 0, none⟩ (.slice none 0 0)).cell? ⟨w1.heap.size, 0, none⟩ = some (.slice none 0 0) := by simp [World.setCell, Array.getElem?_modify, hX3, World.cell?]
    have HBF := Lib.hid (below_set HB3.out (X := w1.heap.size) (Nat.le_of_lt l1) 0 (.slice none 0 0))
    have l3 : w2.heap.size ≤ w3.heap.size := hb.size
    have HX3 := Lib.hid hX3
    clear hb hX3
    go_wp2_with fail
    refine (HI.out _).mono ?_
    rintro e w4 ⟨rfl, rfl⟩
    go_wp2_with fail
    refine bodyPost_ret (v := .tuple #[.agg #[.slice none 0 0], .bool false]) (by simp [results, Try.results25, go_sem, y0]) rfl ?_
    exact ⟨_, rfl, World.ownsRow_nil _ _ _ _, HBF.out⟩
  rw [if_pos ⟨rfl, by omega, fun y hy => by rw [hx] at hy; cases hy; exact h5⟩]
  rw [h5] at k0
  have HTR := Lib.hid (fun t e (hT : PTree L n t e) => hT.of)
  generalize hTT : wholeT (treeOf L n) = TT at *
  clear hx h5
  go_enter Try.func25, Try.ntmps25
  go_wp2_with fail
  refine HG.out.mono ?_
  rintro e w3 ⟨rfl, hb⟩
  have k3 := below_later hb k0
  have HB3 := Lib.hid (HB2.out.trans (hb.mono HB2.out.size))
  have HS3 := Lib.hid (HS2.out.keep hb)
  have d1 := below_later hb c1
  have hX3 := hp_later hb HX2.out
  have x0 : w3.cell? ⟨w1.heap.size, 0, none⟩ = some (.slice none 0 0) := by simp [World.cell?, hX3]
  have f0 : w3.frozen? ⟨w1.heap.size, 0, none⟩ = false := by simp [World.frozen?, hX3]
  have y0 : (w3.setCell ⟨w1.heap.size, 0, none⟩ (.slice none 0 0)).cell? ⟨w1.heap.size, 0, none⟩ = some (.slice none 0 0) := by simp [World.setCell, Array.getElem?_modify, hX3, World.cell?]
  have HBF := Lib.hid (below_set HB3.out (X := w1.heap.size) (Nat.le_of_lt l1) 0 (.slice none 0 0))
  have l3 : w2.heap.size ≤ w3.heap.size := hb.size
  have HX3 := Lib.hid hX3
  clear hb hX3
  have HF := Lib.hid (HS3.out.from hnl)
  unfold FromOf at HF
  clear y0 HBF
  go_wp2_with fail
  refine (HI.out _).mono ?_
  rintro e w4 ⟨rfl, rfl⟩
  go_wp2_with fail
  refine HF.out.mono ?_
  rintro e w4 ⟨pb, t, en, rfl, hen, hpt, hb, hkp⟩
  have hct := hpt.count
  have hWT : wholeT t = TT := by rw [← hTT, HTR.out t en hpt]
  have HB4 := Lib.hid (HB3.out.trans (hb.mono HB3.out.size))
  have HX4 := Lib.hid (hp_later hb HX3.out)
  have HWH := Lib.hid (impl_whole hkp)
  have l4 : w3.heap.size ≤ w4.heap.size := hb.size
  have hcw : countT TT ≤ 1048576 := by rw [← hWT, whole_count]; omega
  rw [hWT] at HWH
  clear hb hkp hpt hWT x0 f0
  go_wp2_with fail
  refine HWH.out.mono ?_
  rintro e w5 ⟨qb, rfl, hb, hkp⟩
  have HB5 := Lib.hid (HB4.out.trans (hb.mono HB4.out.size))
  have HX5 := Lib.hid (hp_later hb HX4.out)
  have HSC := Lib.hid (impl_schema hkp hcw)
  have l5 : w4.heap.size ≤ w5.heap.size := hb.size
  unfold TellO at HSC
  clear hb hkp hTT
  go_wp2_with fail
  refine HSC.out.mono ?_
  rintro e w6 ⟨v, rfl, ho, hb⟩
  obtain ⟨va, vc, rfl⟩ := form_of_own ho
  have hX6 := hp_later hb HX5.out
  have z0 : w6.cell? ⟨w1.heap.size, 0, none⟩ = some (.slice none 0 0) := by simp [World.cell?, hX6]
  have g0 : w6.frozen? ⟨w1.heap.size, 0, none⟩ = false := by simp [World.frozen?, hX6]
  have q0 : (w6.setCell ⟨w1.heap.size, 0, none⟩ (.slice va (tellL TT).length vc)).cell? ⟨w1.heap.size, 0, none⟩ = some (.slice va (tellL TT).length vc) := by simp [World.setCell, Array.getElem?_modify, hX6, World.cell?]
  have hws := wrote_cell w6 w1.heap.size 0 (.slice va (tellL TT).length vc)
  have HO6 := Lib.hid (own_mono (hws.own ho (fun k hk e => by have := (ho.lt k hk).1; omega)) (show w.heap.size ≤ w5.heap.size by omega))
  have HB6 := Lib.hid (below_set (HB5.out.trans (hb.mono HB5.out.size)) (X := w1.heap.size) (Nat.le_of_lt l1) 0 (.slice va (tellL TT).length vc))
  clear hb ho hX6 hws
  go_wp2_with fail
  refine bodyPost_ret (v := .tuple #[.agg #[.slice va (tellL TT).length vc], .bool (goodT TT)]) (by simp [results, Try.results25, go_sem, q0]) rfl ?_
  exact ⟨_, rfl, HO6.out, HB6.out⟩
end Go.Proofs.Ytmlnecopbncdbaa
