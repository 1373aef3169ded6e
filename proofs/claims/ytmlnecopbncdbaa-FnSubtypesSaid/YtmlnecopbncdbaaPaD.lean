/- The draws of a law: a schema and a place in it. -/
import Derived.Test.YtmlnecopbncdbaaTyO
import Derived.Test.YtmlnecopbncdbaaPa3
namespace Go.Proofs.Ytmlnecopbncdbaa
set_option linter.unusedVariables false
set_option linter.unusedSimpArgs false
open Go.ChangeShapes Go.WideShapes Go.ChangeAt Go.RowKit
set_option maxRecDepth 100000

/-- a draw under way: m cells for what is handed out, then the cursor; a schema of one's own (block g), the cell that holds it (X) -/
structure DB (w0 : World) (m K X n g cap : Nat) (L : List Ty) (w : World) : Prop where
  own : w.ownsRow (w0.heap.size + m + 1) 85 6 (.slice (some ⟨g, 0, none⟩) n cap) n (tysV L)
  len : L.length = n
  nm : ∀ x ∈ L, x.name.size ≤ maxLen
  box : w.heap[X]? = some (.cells #[.slice (some ⟨g, 0, none⟩) n cap] 28)
  res : ∀ i, i < m → w.heap[w0.heap.size + i]? = some (.cells #[.slice none 0 0] 28)
  cur : PC w (w0.heap.size + m) K
  bel : Below w0.heap.size w0 w
  hX : w0.heap.size + m < X
  hg : g ≠ X
theorem DB.ge {w0 w : World} {m K X n g cap : Nat} {L : List Ty} (h : DB w0 m K X n g cap L w) : w0.heap.size + m < g ∧ g < w.heap.size := by have := h.own.lt g rfl; omega
theorem DB.wrote {w0 w w' : World} {m K K' X n g cap : Nat} {L : List Ty} (h : DB w0 m K X n g cap L w) (hw : Wrote (fun k => k = w0.heap.size + m) w w') (hp : PC w' (w0.heap.size + m) K') : DB w0 m K' X n g cap L w' := by
  have hge := h.ge
  have h3 := h.hX
  exact ⟨hw.own h.own (fun k hk e => by simp only [Value.ownBlock, Option.some.injEq] at hk; omega), h.len, h.nm, (hw.block X (hp_lt h.box) (by omega)).trans h.box, fun i hi => (hw.block _ (hp_lt (h.res i hi)) (by omega)).trans (h.res i hi), hp, h.bel.trans (hw.below (h.bel.size) (fun k hk => by omega)), h.hX, h.hg⟩
theorem DB.later {w0 w w' : World} {m K X n g cap : Nat} {L : List Ty} (h : DB w0 m K X n g cap L w) (hb : Below w.heap.size w w') : DB w0 m K X n g cap L w' := h.wrote (Wrote.of_below hb) (h.cur.later hb)
theorem DB.drew {w0 w : World} {m K X n g cap : Nat} {L : List Ty} (h : DB w0 m K X n g cap L w) : DB w0 m K X n g cap L w.drew := h.later (Below.refl _ _).drew
theorem DB.alloc {w0 w : World} {m K X n g cap : Nat} {L : List Ty} (h : DB w0 m K X n g cap L w) (o : Obj) : DB w0 m K X n g cap L (w.alloc o) := h.later ((Below.refl _ _).alloc (Nat.le_refl _) o)
theorem DB.cell {w0 w : World} {m K X n g cap : Nat} {L : List Ty} (h : DB w0 m K X n g cap L w) : w.cell? ⟨X, 0, none⟩ = some (.slice (some ⟨g, 0, none⟩) n cap) := by simp [World.cell?, h.box]
theorem DB.sch {w0 w : World} {m K X n g cap : Nat} {L : List Ty} (h : DB w0 m K X n g cap L w) (hl : n ≤ 1048576) : Sch w.heap.size w L (some ⟨g, 0, none⟩) cap := by
  have ho := h.own
  have e := h.len
  subst e
  exact sch_own ho hl h.nm
/-- a result's cell is written -/
theorem DB.put {w0 w : World} {m K X n g cap : Nat} {L : List Ty} (h : DB w0 m K X n g cap L w) (i : Nat) (hi : i < m) (u : Value) :
    w.cell? ⟨w0.heap.size + i, 0, none⟩ = some (.slice none 0 0) ∧ w.frozen? ⟨w0.heap.size + i, 0, none⟩ = false ∧ (w.setCell ⟨w0.heap.size + i, 0, none⟩ u).cell? ⟨w0.heap.size + i, 0, none⟩ = some u ∧ (w.setCell ⟨w0.heap.size + i, 0, none⟩ u).ownsRow (w0.heap.size + m + 1) 85 6 (.slice (some ⟨g, 0, none⟩) n cap) n (tysV L) ∧ Below w0.heap.size w0 (w.setCell ⟨w0.heap.size + i, 0, none⟩ u) := by
  have hr := h.res i hi
  have hge := h.ge
  have hws := wrote_cell w (w0.heap.size + i) 0 u
  exact ⟨by simp [World.cell?, hr], by simp [World.frozen?, hr], by simp [World.setCell, Array.getElem?_modify, hr, World.cell?], hws.own h.own (fun k hk e => by simp only [Value.ownBlock, Option.some.injEq] at hk; omega), below_set h.bel (by omega) 0 u⟩
/-- the cursor is laid behind the results' cells -/
theorem db_start {w0 w1 w2 : World} {m K g cap : Nat} {L : List Ty} (hz : w1.heap.size = w0.heap.size + m + 1) (hb : Below w0.heap.size w0 w1) (hres : ∀ i, i < m → w1.heap[w0.heap.size + i]? = some (.cells #[.slice none 0 0] 28)) (hn : ∀ x ∈ L, x.name.size ≤ maxLen) (ho : w2.ownsRow w1.heap.size 85 6 (.slice (some ⟨g, 0, none⟩) L.length cap) L.length (tysV L)) (hp : PC w2 (w0.heap.size + m) K) (hw : Wrote (fun k => k = w0.heap.size + m) w1 w2) :
    DB w0 m K w2.heap.size L.length g cap L (w2.alloc (.cells #[.slice (some ⟨g, 0, none⟩) L.length cap] 28)) := by
  have hb2 := (Below.refl w2.heap.size w2).alloc (Nat.le_refl _) (.cells #[.slice (some ⟨g, 0, none⟩) L.length cap] 28)
  have hz2 := hw.size
  have hg := ho.lt g rfl
  exact ⟨own_mono (ho.alloc _) (by omega), rfl, hn, heap_alloc_new w2 _, fun i hi => hp_later hb2 ((hw.block _ (by omega) (by omega)).trans (hres i hi)), hp.later hb2, (hb.trans (hw.below hb.size (fun k hk => by omega))).trans (hb2.mono (by omega)), by omega, by omega⟩
/-- a schema and a place that may be in it -/
def FldO (w : World) (e : Ending) (w' : World) : Prop :=
  ∃ L a cap k, e = .returned (.tuple #[.agg #[.slice a L.length cap], .int .i64 k]) ∧ (1 ≤ L.length ∧ L.length ≤ 30) ∧ (-1 ≤ k ∧ k ≤ 31) ∧ (∀ x ∈ L, x.name.size ≤ maxLen) ∧ w'.ownsRow w.heap.size 85 6 (.slice a L.length cap) L.length (tysV L) ∧ Below w.heap.size w w'
set_option maxHeartbeats 2000000 in
theorem draw_FieldsOf (w : World) (a : Option Addr) (c : Nat) (cs : List UInt8) (hl : cs.length ≤ c) (hc : c ≤ 9223372036854775807) (hr : Rb w.heap.size w a (u8s cs)) :
    Calls Try.prog 44 #[.slice a cs.length c] w (FldO w) := by
  have hBA := (Below.refl w.heap.size w).alloc (Nat.le_refl _) (.cells #[.slice none 0 0] 28)
  have hSA : (w.alloc (.cells #[.slice none 0 0] 28)).heap.size = w.heap.size + 1 := by simp
  have hp0 := pc_start (w.alloc (.cells #[.slice none 0 0] 28)) a c cs hl hc ((hr.below hBA).mono hBA.size)
  rw [hSA] at hp0
  have hbb := (Below.refl (w.alloc (.cells #[.slice none 0 0] 28)).heap.size (w.alloc (.cells #[.slice none 0 0] 28))).alloc (Nat.le_refl _) (.cells #[.slice a cs.length c, .int .i64 0, .int .u64 0] 75)
  have HX0 := Lib.hid (hp_later hbb (heap_alloc_new w (.cells #[.slice none 0 0] 28)))
  have HB0 := Lib.hid (hBA.trans (hbb.mono hBA.size))
  have HZ0 : Hid (((w.alloc (.cells #[.slice none 0 0] 28)).alloc (.cells #[.slice a cs.length c, .int .i64 0, .int .u64 0] 75)).heap.size = w.heap.size + 1 + 1) := Lib.hid (by simp)
  have HP0 := Lib.hid hp0
  clear hBA hSA hp0 hbb hr hl hc
  go_enter Try.func44, Try.ntmps44
  go_wp2_with fail
  generalize (w.alloc (.cells #[.slice none 0 0] 28)).alloc (.cells #[.slice a cs.length c, .int .i64 0, .int .u64 0] 75) = w0 at *
  refine (draw_maybe (w.heap.size + 1) 0 w0 HP0.out (by omega)).mono ?_
  rintro e w1 ⟨L, sa, cap, rfl, hll, hnm, ho, hp, hw⟩
  obtain ⟨g, rfl, -, -⟩ := ty_own ho hll.1
  have HD1 := Lib.hid (db_start HZ0.out HB0.out (fun i hi => by
    obtain rfl : i = 0 := by omega
    exact HX0.out) hnm ho hp hw)
  have hcapb := own_cap ho
  clear hnm ho hp hw HX0 HB0 HZ0 HP0
  generalize hXe : w1.heap.size = X at *
  generalize hw2 : w1.alloc (.cells #[.slice (some ⟨g, 0, none⟩) L.length cap] 28) = w2 at *
  have z0 := HD1.out.cell
  have h2l : IntKind.i64.wrap ((L.length : Int) + 2) = (L.length : Int) + 2 := IntWalk.i64_in _ (by omega)
  have HPK := Lib.hid (cur_pick (w.heap.size + 1) (0 + 10100) ((L.length : Int) + 2) w2.drew HD1.out.drew.cur (by omega) (by omega))
  unfold FldO
  go_wp2_with fail
  refine wp_region_G [8] (fun w' => w'.cell? ⟨X, 0, none⟩ = some (.slice (some ⟨g, 0, none⟩) L.length cap)) (by kernel_rfl) ?_ (fun hHeld => ?_)
  · exact z0
  refine wpG_load (i := 0) (oi := { dst := some 11, op := Go.Op.load 28 (Go.Operand.tmp 5), type := 28, pos := "l2_type.go:358", after := #[], guard := none }) (v := ?vg1) [[8, 0]] rfl (by kernel_rfl) (fun _ _ _ h => h) hHeld (Or.inl ⟨by rfl, ?yg1⟩) ?_
  case yg1 => (intro wS hSw; (try dsimp only at hSw); go_simp <;> with_reducible rfl)
  try simp only [Act.put, List.setIfInBounds_toArray, List.set_cons_zero, List.set_cons_succ]
  refine wpG_pure (i := 1) (oi := { dst := some 12, op := Go.Op.move (Go.Operand.tmp 4), type := 72, pos := "l2_type.go:358", after := #[], guard := none }) (v := ?vg2) rfl (by kernel_rfl) (fun _ _ _ h => h) (Or.inr hHeld) (Or.inl ⟨by rfl, ?yg2⟩) ?_
  case yg2 => (intro wS _; go_simp <;> with_reducible rfl)
  try simp only [Act.put, List.setIfInBounds_toArray, List.set_cons_zero, List.set_cons_succ]
  refine wpG_pure (i := 2) (oi := { dst := some 13, op := Go.Op.fieldAddr 28 (Go.Operand.tmp 5) 0, type := 0, pos := "l2_type.go:358", after := #[], guard := none }) (v := ?vg3) rfl (by kernel_rfl) (fun _ _ _ h => h) (Or.inr hHeld) (Or.inl ⟨by rfl, ?yg3⟩) ?_
  case yg3 => (intro wS _; go_simp <;> with_reducible rfl)
  try simp only [Act.put, List.setIfInBounds_toArray, List.set_cons_zero, List.set_cons_succ]
  refine wpG_load (i := 3) (oi := { dst := some 14, op := Go.Op.load 26 (Go.Operand.tmp 13), type := 26, pos := "l2_type.go:358", after := #[{ on := 2, ground := Go.Ground.data }], guard := none }) (v := ?vg4) [[8, 6, 5, 4, 3]] rfl (by kernel_rfl) (fun _ _ _ h => h) hHeld (Or.inl ⟨by rfl, ?yg4⟩) ?_
  case yg4 => (intro wS hSw; (try dsimp only at hSw); go_simp <;> with_reducible rfl)
  try simp only [Act.put, List.setIfInBounds_toArray, List.set_cons_zero, List.set_cons_succ]
  refine wpG_pure (i := 4) (oi := { dst := some 15, op := Go.Op.call { callee := Go.Callee.builtin Go.Builtin.len, args := #[Go.Operand.tmp 14], argTypes := #[26] }, type := 3, pos := "l2_type.go:358", after := #[{ on := 3, ground := Go.Ground.data }], guard := none }) (v := ?vg5) rfl (by kernel_rfl) (fun _ _ _ h => h) (Or.inr hHeld) (Or.inl ⟨by rfl, ?yg5⟩) ?_
  case yg5 => (intro wS _; go_simp <;> with_reducible rfl)
  try simp only [Act.put, List.setIfInBounds_toArray, List.set_cons_zero, List.set_cons_succ]
  refine wpG_pure (i := 5) (oi := { dst := some 16, op := Go.Op.binOp Go.BinOp.add 3 (Go.Operand.tmp 15) (Go.Operand.const (Go.Value.int Go.IntKind.i64 2)) 3, type := 3, pos := "l2_type.go:358", after := #[{ on := 4, ground := Go.Ground.data }], guard := none }) (v := ?vg6) rfl (by kernel_rfl) (fun _ _ _ h => h) (Or.inr hHeld) (Or.inl ⟨by rfl, ?yg6⟩) ?_
  case yg6 => (intro wS _; go_simp <;> with_reducible rfl)
  try simp only [Act.put, List.setIfInBounds_toArray, List.set_cons_zero, List.set_cons_succ]
  refine wpG_one (i := 6) (o := { dst := some 17, op := Go.Op.call { callee := Go.Callee.value (Go.Operand.func 49), args := #[Go.Operand.tmp 12, Go.Operand.tmp 16], argTypes := #[72, 3] }, type := 3, pos := "l2_type.go:358", after := #[{ on := 1, ground := Go.Ground.data }, { on := 5, ground := Go.Ground.data }], guard := none }) rfl (by kernel_rfl) (fun K hK => ?_)
  go_simp
  refine HPK.out.mono ?_
  rintro e w6 ⟨r6, rfl, hr6, hp6, hw6⟩
  have HD6 := Lib.hid (HD1.out.drew.wrote hw6 hp6)
  have q0 := HD6.out.cell
  have hr7 : IntKind.i64.wrap ((r6 : Int) - 1) = (r6 : Int) - 1 := IntWalk.i64_in _ (by omega)
  have hr8 : (-1 : Int) ≤ (r6 : Int) - 1 ∧ (r6 : Int) - 1 ≤ 31 := by omega
  clear hp6 hw6
  refine hK.out _ _ (Or.inr ?khHeld7) (fun hHeld7S => ?_)
  case khHeld7 => exact q0
  have hHeld7 := hHeld7S.held (by kernel_rfl)
  clear hK K
  try simp only [Act.put, List.setIfInBounds_toArray, List.set_cons_zero, List.set_cons_succ]
  refine wpG_pure (i := 7) (oi := { dst := some 18, op := Go.Op.binOp Go.BinOp.sub 3 (Go.Operand.tmp 17) (Go.Operand.const (Go.Value.int Go.IntKind.i64 1)) 3, type := 3, pos := "l2_type.go:358", after := #[{ on := 6, ground := Go.Ground.data }, { on := 8, ground := Go.Ground.gcOnly Go.Departure.lateStores }], guard := none }) (v := ?vg8) rfl (by kernel_rfl) (fun _ _ _ h => h) (Or.inr hHeld7) (Or.inl ⟨by rfl, ?yg8⟩) ?_
  case yg8 => (intro wS _; go_simp <;> with_reducible rfl)
  try simp only [Act.put, List.setIfInBounds_toArray, List.set_cons_zero, List.set_cons_succ]
  refine wpG_one (i := 8) (o := { dst := none, op := Go.Op.store 28 (Go.Operand.tmp 2) (Go.Operand.tmp 11), type := 0, pos := "l2_type.go:358", after := #[{ on := 0, ground := Go.Ground.data }, { on := 6, ground := Go.Ground.chain }, { on := 0, ground := Go.Ground.phase }, { on := 1, ground := Go.Ground.textOnly Go.Departure.lateStores }, { on := 2, ground := Go.Ground.textOnly Go.Departure.lateStores }, { on := 3, ground := Go.Ground.textOnly Go.Departure.lateStores }, { on := 4, ground := Go.Ground.textOnly Go.Departure.lateStoresUnsure }, { on := 5, ground := Go.Ground.textOnly Go.Departure.lateStores }, { on := 6, ground := Go.Ground.textOnly Go.Departure.lateStoresUnsure }, { on := 7, ground := Go.Ground.textOnly Go.Departure.lateStores }], guard := none }) rfl (by kernel_rfl) (fun K hK => ?_)
  obtain ⟨x0, f0, yy0, HRO, HRB⟩ := HD6.out.put 0 (by omega) (.slice (some ⟨g, 0, none⟩) L.length cap)
  rw [Nat.add_zero] at x0 f0 yy0 HRO HRB
  go_simp
  refine hK.out _ _ (Or.inl (by kernel_rfl)) (fun _ => ?_)
  clear hK K
  try simp only [Act.put, List.setIfInBounds_toArray, List.set_cons_zero, List.set_cons_succ]
  refine wpG_pure (i := 9) (oi := { dst := some 3, op := Go.Op.assign (Go.Operand.tmp 18), type := 3, pos := "l2_type.go:358", after := #[{ on := 7, ground := Go.Ground.data }, { on := 8, ground := Go.Ground.chain }, { on := 0, ground := Go.Ground.phase }, { on := 1, ground := Go.Ground.phase }, { on := 2, ground := Go.Ground.phase }, { on := 3, ground := Go.Ground.phase }, { on := 4, ground := Go.Ground.phase }, { on := 5, ground := Go.Ground.phase }, { on := 6, ground := Go.Ground.phase }, { on := 7, ground := Go.Ground.phase }, { on := 8, ground := Go.Ground.phase }], guard := none }) (v := ?vg10) rfl (by kernel_rfl) (fun _ _ _ h => h) (Or.inl (by kernel_rfl)) (Or.inl ⟨by rfl, ?yg10⟩) ?_
  case yg10 => (intro wS _; go_simp <;> with_reducible rfl)
  try simp only [Act.put, List.setIfInBounds_toArray, List.set_cons_zero, List.set_cons_succ]
  refine wpG_done (by kernel_rfl) ?_
  skip
  go_wp2_with fail
  refine bodyPost_ret (v := .tuple #[.agg #[.slice (some ⟨g, 0, none⟩) L.length cap], .int .i64 ((r6 : Int) - 1)]) (by simp [results, Try.results44, go_sem, yy0]) rfl ?_
  exact ⟨L, _, cap, _, rfl, hll, hr8, HD6.out.nm, own_mono HRO (by omega), HRB⟩
set_option maxHeartbeats 1000000 in
theorem draw_PathOf (w : World) (a : Option Addr) (c : Nat) (cs : List UInt8) (hl : cs.length ≤ c) (hc : c ≤ 9223372036854775807) (hr : Rb w.heap.size w a (u8s cs)) :
    Calls Try.prog 13 #[.slice a cs.length c] w (FldO w) := by
  have hBA := (Below.refl w.heap.size w).alloc (Nat.le_refl _) (.cells #[.slice none 0 0] 28)
  have hX := heap_alloc_new w (.cells #[.slice none 0 0] 28)
  generalize hw1 : w.alloc (.cells #[.slice none 0 0] 28) = w1 at *
  have l1 := hp_lt hX
  have HF := Lib.hid (draw_FieldsOf w1 a c cs hl hc ((hr.below hBA).mono hBA.size))
  have HX := Lib.hid hX
  have HBA := Lib.hid hBA
  unfold FldO at *
  clear hBA hX hr hl hc
  go_enter Try.func13, Try.ntmps13
  go_wp2_with fail
  refine HF.out.mono ?_
  rintro e w2 ⟨L, sa, cap, k, rfl, hll, hk, hnm, ho, hb⟩
  have hX2 := hp_later hb HX.out
  have HB2 := Lib.hid (HBA.out.trans (hb.mono HBA.out.size))
  have HO2 := Lib.hid ho
  have HNM := Lib.hid hnm
  have hws := wrote_cell w2 w.heap.size 0 (.slice sa L.length cap)
  have HO3 := Lib.hid (hws.own HO2.out (fun q hq e => by have := (HO2.out.lt q hq).1; omega))
  have HB3 := Lib.hid (below_set HB2.out (Nat.le_refl _) 0 (.slice sa L.length cap))
  have x0 : w2.cell? ⟨w.heap.size, 0, none⟩ = some (.slice none 0 0) := by simp [World.cell?, hX2]
  have f0 : w2.frozen? ⟨w.heap.size, 0, none⟩ = false := by simp [World.frozen?, hX2]
  have y0 : (w2.setCell ⟨w.heap.size, 0, none⟩ (.slice sa L.length cap)).cell? ⟨w.heap.size, 0, none⟩ = some (.slice sa L.length cap) := by simp [World.setCell, Array.getElem?_modify, hX2, World.cell?]
  clear hws ho hnm hb hX2
  go_wp2_with fail
  refine bodyPost_ret (v := .tuple #[.agg #[.slice sa L.length cap], .int .i64 k]) (by simp [results, Try.results13, go_sem, y0]) rfl ?_
  exact ⟨L, _, cap, _, rfl, hll, hk, HNM.out, own_mono HO3.out (by omega), HB3.out⟩
set_option maxHeartbeats 1000000 in
theorem draw_SubSchema (w : World) (a : Option Addr) (c : Nat) (cs : List UInt8) (hl : cs.length ≤ c) (hc : c ≤ 9223372036854775807) (hr : Rb w.heap.size w a (u8s cs)) :
    Calls Try.prog 24 #[.slice a cs.length c] w (FldO w) := by
  have hBA := (Below.refl w.heap.size w).alloc (Nat.le_refl _) (.cells #[.slice none 0 0] 28)
  have hX := heap_alloc_new w (.cells #[.slice none 0 0] 28)
  generalize hw1 : w.alloc (.cells #[.slice none 0 0] 28) = w1 at *
  have l1 := hp_lt hX
  have HF := Lib.hid (draw_FieldsOf w1 a c cs hl hc ((hr.below hBA).mono hBA.size))
  have HX := Lib.hid hX
  have HBA := Lib.hid hBA
  unfold FldO at *
  clear hBA hX hr hl hc
  go_enter Try.func24, Try.ntmps24
  go_wp2_with fail
  refine HF.out.mono ?_
  rintro e w2 ⟨L, sa, cap, k, rfl, hll, hk, hnm, ho, hb⟩
  have hX2 := hp_later hb HX.out
  have HB2 := Lib.hid (HBA.out.trans (hb.mono HBA.out.size))
  have HO2 := Lib.hid ho
  have HNM := Lib.hid hnm
  have hws := wrote_cell w2 w.heap.size 0 (.slice sa L.length cap)
  have HO3 := Lib.hid (hws.own HO2.out (fun q hq e => by have := (HO2.out.lt q hq).1; omega))
  have HB3 := Lib.hid (below_set HB2.out (Nat.le_refl _) 0 (.slice sa L.length cap))
  have x0 : w2.cell? ⟨w.heap.size, 0, none⟩ = some (.slice none 0 0) := by simp [World.cell?, hX2]
  have f0 : w2.frozen? ⟨w.heap.size, 0, none⟩ = false := by simp [World.frozen?, hX2]
  have y0 : (w2.setCell ⟨w.heap.size, 0, none⟩ (.slice sa L.length cap)).cell? ⟨w.heap.size, 0, none⟩ = some (.slice sa L.length cap) := by simp [World.setCell, Array.getElem?_modify, hX2, World.cell?]
  clear hws ho hnm hb hX2
  go_wp2_with fail
  refine bodyPost_ret (v := .tuple #[.agg #[.slice sa L.length cap], .int .i64 k]) (by simp [results, Try.results24, go_sem, y0]) rfl ?_
  exact ⟨L, _, cap, _, rfl, hll, hk, HNM.out, own_mono HO3.out (by omega), HB3.out⟩
/-- a schema and a path that may lead into it -/
def TxtO (w : World) (e : Ending) (w' : World) : Prop :=
  ∃ L a cap s, e = .returned (.tuple #[.agg #[.slice a L.length cap], .string s]) ∧ (1 ≤ L.length ∧ L.length ≤ 30) ∧ (∀ x ∈ L, x.name.size ≤ maxLen) ∧ w'.ownsRow w.heap.size 85 6 (.slice a L.length cap) L.length (tysV L) ∧ Below w.heap.size w w'
set_option maxHeartbeats 4000000 in
theorem draw_TypeAt (w : World) (a : Option Addr) (c : Nat) (cs : List UInt8) (hl : cs.length ≤ c) (hc : c ≤ 9223372036854775807) (hr : Rb w.heap.size w a (u8s cs)) :
    Calls Try.prog 17 #[.slice a cs.length c] w (TxtO w) := by
  have hBA := (Below.refl w.heap.size w).alloc (Nat.le_refl _) (.cells #[.slice none 0 0] 28)
  have hSA : (w.alloc (.cells #[.slice none 0 0] 28)).heap.size = w.heap.size + 1 := by simp
  have hp0 := pc_start (w.alloc (.cells #[.slice none 0 0] 28)) a c cs hl hc ((hr.below hBA).mono hBA.size)
  rw [hSA] at hp0
  have hbb := (Below.refl (w.alloc (.cells #[.slice none 0 0] 28)).heap.size (w.alloc (.cells #[.slice none 0 0] 28))).alloc (Nat.le_refl _) (.cells #[.slice a cs.length c, .int .i64 0, .int .u64 0] 75)
  have HX0 := Lib.hid (hp_later hbb (heap_alloc_new w (.cells #[.slice none 0 0] 28)))
  have HB0 := Lib.hid (hBA.trans (hbb.mono hBA.size))
  have HZ0 : Hid (((w.alloc (.cells #[.slice none 0 0] 28)).alloc (.cells #[.slice a cs.length c, .int .i64 0, .int .u64 0] 75)).heap.size = w.heap.size + 1 + 1) := Lib.hid (by simp)
  have HP0 := Lib.hid hp0
  clear hBA hSA hp0 hbb hr hl hc
  go_enter Try.func17, Try.ntmps17
  go_wp2_with fail
  generalize (w.alloc (.cells #[.slice none 0 0] 28)).alloc (.cells #[.slice a cs.length c, .int .i64 0, .int .u64 0] 75) = w0 at *
  refine (draw_maybe (w.heap.size + 1) 0 w0 HP0.out (by omega)).mono ?_
  rintro e w1 ⟨L, sa, cap, rfl, hll, hnm, ho, hp, hw⟩
  obtain ⟨g, rfl, -, -⟩ := ty_own ho hll.1
  have HD1 := Lib.hid (db_start HZ0.out HB0.out (fun i hi => by
    obtain rfl : i = 0 := by omega
    exact HX0.out) hnm ho hp hw)
  have hcapb := own_cap ho
  clear hnm ho hp hw HX0 HB0 HZ0 HP0
  generalize hXe : w1.heap.size = X at *
  generalize hw2 : w1.alloc (.cells #[.slice (some ⟨g, 0, none⟩) L.length cap] 28) = w2 at *
  have z0 := HD1.out.cell
  have HPK := Lib.hid (cur_pick (w.heap.size + 1) (0 + 10100) ((L.length : Int)) w2.drew HD1.out.drew.cur (by omega) (by omega))
  unfold TxtO
  go_wp2_with fail
  refine wp_region_G [6] (fun w' => w'.cell? ⟨X, 0, none⟩ = some (.slice (some ⟨g, 0, none⟩) L.length cap)) (by kernel_rfl) ?_ (fun hHeld => ?_)
  · exact z0
  refine wpG_load (i := 0) (oi := { dst := some 14, op := Go.Op.load 28 (Go.Operand.tmp 5), type := 28, pos := "l3_text.go:282", after := #[], guard := none }) (v := ?vg11) [[6, 0]] rfl (by kernel_rfl) (fun _ _ _ h => h) hHeld (Or.inl ⟨by rfl, ?yg11⟩) ?_
  case yg11 => (intro wS hSw; (try dsimp only at hSw); go_simp <;> with_reducible rfl)
  try simp only [Act.put, List.setIfInBounds_toArray, List.set_cons_zero, List.set_cons_succ]
  refine wpG_pure (i := 1) (oi := { dst := some 15, op := Go.Op.move (Go.Operand.tmp 4), type := 72, pos := "l3_text.go:282", after := #[], guard := none }) (v := ?vg12) rfl (by kernel_rfl) (fun _ _ _ h => h) (Or.inr hHeld) (Or.inl ⟨by rfl, ?yg12⟩) ?_
  case yg12 => (intro wS _; go_simp <;> with_reducible rfl)
  try simp only [Act.put, List.setIfInBounds_toArray, List.set_cons_zero, List.set_cons_succ]
  refine wpG_pure (i := 2) (oi := { dst := some 16, op := Go.Op.fieldAddr 28 (Go.Operand.tmp 5) 0, type := 0, pos := "l3_text.go:282", after := #[], guard := none }) (v := ?vg13) rfl (by kernel_rfl) (fun _ _ _ h => h) (Or.inr hHeld) (Or.inl ⟨by rfl, ?yg13⟩) ?_
  case yg13 => (intro wS _; go_simp <;> with_reducible rfl)
  try simp only [Act.put, List.setIfInBounds_toArray, List.set_cons_zero, List.set_cons_succ]
  refine wpG_load (i := 3) (oi := { dst := some 17, op := Go.Op.load 26 (Go.Operand.tmp 16), type := 26, pos := "l3_text.go:282", after := #[{ on := 2, ground := Go.Ground.data }], guard := none }) (v := ?vg14) [[6, 5, 4, 3]] rfl (by kernel_rfl) (fun _ _ _ h => h) hHeld (Or.inl ⟨by rfl, ?yg14⟩) ?_
  case yg14 => (intro wS hSw; (try dsimp only at hSw); go_simp <;> with_reducible rfl)
  try simp only [Act.put, List.setIfInBounds_toArray, List.set_cons_zero, List.set_cons_succ]
  refine wpG_pure (i := 4) (oi := { dst := some 18, op := Go.Op.call { callee := Go.Callee.builtin Go.Builtin.len, args := #[Go.Operand.tmp 17], argTypes := #[26] }, type := 3, pos := "l3_text.go:282", after := #[{ on := 3, ground := Go.Ground.data }], guard := none }) (v := ?vg15) rfl (by kernel_rfl) (fun _ _ _ h => h) (Or.inr hHeld) (Or.inl ⟨by rfl, ?yg15⟩) ?_
  case yg15 => (intro wS _; go_simp <;> with_reducible rfl)
  try simp only [Act.put, List.setIfInBounds_toArray, List.set_cons_zero, List.set_cons_succ]
  refine wpG_one (i := 5) (o := { dst := some 19, op := Go.Op.call { callee := Go.Callee.value (Go.Operand.func 49), args := #[Go.Operand.tmp 15, Go.Operand.tmp 18], argTypes := #[72, 3] }, type := 3, pos := "l3_text.go:282", after := #[{ on := 1, ground := Go.Ground.data }, { on := 4, ground := Go.Ground.data }], guard := none }) rfl (by kernel_rfl) (fun K hK => ?_)
  go_simp
  refine HPK.out.mono ?_
  rintro e w6 ⟨r6, rfl, hr6, hp6, hw6⟩
  have HD6 := Lib.hid (HD1.out.drew.wrote hw6 hp6)
  have q0 := HD6.out.cell
  have HPO := Lib.hid (spec_PathOf (HD6.out.sch (by omega)) (r6 : Int))
  unfold POfO at HPO
  clear hp6 hw6
  refine hK.out _ _ (Or.inr ?khHeld16) (fun hHeld16S => ?_)
  case khHeld16 => exact q0
  have hHeld16 := hHeld16S.held (by kernel_rfl)
  clear hK K
  try simp only [Act.put, List.setIfInBounds_toArray, List.set_cons_zero, List.set_cons_succ]
  refine wpG_one (i := 6) (o := { dst := some 20, op := Go.Op.call { callee := Go.Callee.value (Go.Operand.func 15), args := #[Go.Operand.tmp 14, Go.Operand.tmp 19], argTypes := #[28, 3] }, type := 38, pos := "l3_text.go:282", after := #[{ on := 0, ground := Go.Ground.data }, { on := 5, ground := Go.Ground.data }, { on := 5, ground := Go.Ground.chain }], guard := none }) rfl (by kernel_rfl) (fun K hK => ?_)
  go_simp
  refine HPO.out.mono ?_
  rintro e w7 ⟨rfl, hb7⟩
  have HD7 := Lib.hid (HD6.out.later hb7)
  have t0 := HD7.out.cell
  clear hb7
  refine hK.out _ _ (Or.inl (by kernel_rfl)) (fun _ => ?_)
  clear hK K
  try simp only [Act.put, List.setIfInBounds_toArray, List.set_cons_zero, List.set_cons_succ]
  refine wpG_pure (i := 7) (oi := { dst := some 13, op := Go.Op.move (Go.Operand.tmp 20), type := 38, pos := "l3_text.go:282", after := #[{ on := 6, ground := Go.Ground.data }], guard := none }) (v := ?vg18) rfl (by kernel_rfl) (fun _ _ _ h => h) (Or.inl (by kernel_rfl)) (Or.inl ⟨by rfl, ?yg18⟩) ?_
  case yg18 => (intro wS _; go_simp <;> with_reducible rfl)
  try simp only [Act.put, List.setIfInBounds_toArray, List.set_cons_zero, List.set_cons_succ]
  refine wpG_pure (i := 8) (oi := { dst := some 21, op := Go.Op.extract (Go.Operand.tmp 13) 0, type := 9, pos := "l3_text.go:282", after := #[{ on := 7, ground := Go.Ground.data }], guard := none }) (v := ?vg19) rfl (by kernel_rfl) (fun _ _ _ h => h) (Or.inl (by kernel_rfl)) (Or.inl ⟨by rfl, ?yg19⟩) ?_
  case yg19 => (intro wS _; go_simp <;> with_reducible rfl)
  try simp only [Act.put, List.setIfInBounds_toArray, List.set_cons_zero, List.set_cons_succ]
  refine wpG_pure (i := 9) (oi := { dst := some 22, op := Go.Op.extract (Go.Operand.tmp 13) 1, type := 4, pos := "l3_text.go:282", after := #[{ on := 7, ground := Go.Ground.data }, { on := 10, ground := Go.Ground.gcOnly Go.Departure.lateStores }], guard := none }) (v := ?vg20) rfl (by kernel_rfl) (fun _ _ _ h => h) (Or.inl (by kernel_rfl)) (Or.inl ⟨by rfl, ?yg20⟩) ?_
  case yg20 => (intro wS _; go_simp <;> with_reducible rfl)
  try simp only [Act.put, List.setIfInBounds_toArray, List.set_cons_zero, List.set_cons_succ]
  refine wpG_pure (i := 10) (oi := { dst := some 6, op := Go.Op.assign (Go.Operand.tmp 21), type := 9, pos := "l3_text.go:282", after := #[{ on := 8, ground := Go.Ground.data }, { on := 6, ground := Go.Ground.chain }, { on := 0, ground := Go.Ground.phase }, { on := 1, ground := Go.Ground.phase }, { on := 2, ground := Go.Ground.phase }, { on := 3, ground := Go.Ground.phase }, { on := 4, ground := Go.Ground.phase }, { on := 5, ground := Go.Ground.phase }, { on := 6, ground := Go.Ground.phase }, { on := 7, ground := Go.Ground.phase }, { on := 8, ground := Go.Ground.phase }, { on := 9, ground := Go.Ground.textOnly Go.Departure.lateStores }], guard := none }) (v := ?vg21) rfl (by kernel_rfl) (fun _ _ _ h => h) (Or.inl (by kernel_rfl)) (Or.inl ⟨by rfl, ?yg21⟩) ?_
  case yg21 => (intro wS _; go_simp <;> with_reducible rfl)
  try simp only [Act.put, List.setIfInBounds_toArray, List.set_cons_zero, List.set_cons_succ]
  refine wpG_pure (i := 11) (oi := { dst := some 7, op := Go.Op.assign (Go.Operand.tmp 22), type := 4, pos := "l3_text.go:282", after := #[{ on := 9, ground := Go.Ground.data }, { on := 10, ground := Go.Ground.chain }, { on := 0, ground := Go.Ground.phase }, { on := 1, ground := Go.Ground.phase }, { on := 2, ground := Go.Ground.phase }, { on := 3, ground := Go.Ground.phase }, { on := 4, ground := Go.Ground.phase }, { on := 5, ground := Go.Ground.phase }, { on := 6, ground := Go.Ground.phase }, { on := 7, ground := Go.Ground.phase }, { on := 8, ground := Go.Ground.phase }, { on := 9, ground := Go.Ground.phase }, { on := 10, ground := Go.Ground.phase }], guard := none }) (v := ?vg22) rfl (by kernel_rfl) (fun _ _ _ h => h) (Or.inl (by kernel_rfl)) (Or.inl ⟨by rfl, ?yg22⟩) ?_
  case yg22 => (intro wS _; go_simp <;> with_reducible rfl)
  try simp only [Act.put, List.setIfInBounds_toArray, List.set_cons_zero, List.set_cons_succ]
  refine wpG_done (by kernel_rfl) ?_
  skip
  generalize (pOf L (r6 : Int)).1 = p at *
  generalize (pOf L (r6 : Int)).2 = pb at *
  cases pb with
  | false =>
    have HD9 := Lib.hid (HD7.out.drew.alloc (.cells #[.string { data := #[] }, .string { data := #[97] }, .string { data := #[110, 97, 109, 101] }, .string { data := #[108, 105, 115, 116, 46, 97] }, .string { data := #[107, 105, 110, 100, 46, 97, 46, 98] }, .string { data := #[120] }] 9))
    have HOF := Lib.hid (cur_of (w.heap.size + 1) _ [{ data := #[] }, { data := #[97] }, { data := #[110, 97, 109, 101] }, { data := #[108, 105, 115, 116, 46, 97] }, { data := #[107, 105, 110, 100, 46, 97, 46, 98] }, { data := #[120] }] w7.heap.size 0 6 _ HD9.out.cur (by omega) (by decide) (by decide) (by decide) (by decide) (by have := HD7.out.cur.lt; omega) (lit_cells w7.drew [{ data := #[] }, { data := #[97] }, { data := #[110, 97, 109, 101] }, { data := #[108, 105, 115, 116, 46, 97] }, { data := #[107, 105, 110, 100, 46, 97, 46, 98] }, { data := #[120] }] 9))
    go_wp2_with fail
    refine wp_region_G [4] (fun w' => w'.cell? ⟨X, 0, none⟩ = some (.slice (some ⟨g, 0, none⟩) L.length cap)) (by kernel_rfl) ?_ (fun hHeld => ?_)
    · exact t0
    refine wpG_load (i := 0) (oi := { dst := some 30, op := Go.Op.load 28 (Go.Operand.tmp 5), type := 28, pos := "l3_text.go:285", after := #[], guard := none }) (v := ?vg23) [[4, 0]] rfl (by kernel_rfl) (fun _ _ _ h => h) hHeld (Or.inl ⟨by rfl, ?yg23⟩) ?_
    case yg23 => (intro wS hSw; (try dsimp only at hSw); go_simp <;> with_reducible rfl)
    try simp only [Act.put, List.setIfInBounds_toArray, List.set_cons_zero, List.set_cons_succ]
    refine wpG_pure (i := 1) (oi := { dst := some 31, op := Go.Op.move (Go.Operand.tmp 4), type := 72, pos := "l3_text.go:285", after := #[], guard := none }) (v := ?vg24) rfl (by kernel_rfl) (fun _ _ _ h => h) (Or.inr hHeld) (Or.inl ⟨by rfl, ?yg24⟩) ?_
    case yg24 => (intro wS _; go_simp <;> with_reducible rfl)
    try simp only [Act.put, List.setIfInBounds_toArray, List.set_cons_zero, List.set_cons_succ]
    refine wpG_one (i := 2) (o := { dst := some 32, op := Go.Op.buildSlice 80 6 #[(0, Go.Operand.const (Go.Value.string { data := #[] })), (1, Go.Operand.const (Go.Value.string { data := #[97] })), (2, Go.Operand.const (Go.Value.string { data := #[110, 97, 109, 101] })), (3, Go.Operand.const (Go.Value.string { data := #[108, 105, 115, 116, 46, 97] })), (4, Go.Operand.const (Go.Value.string { data := #[107, 105, 110, 100, 46, 97, 46, 98] })), (5, Go.Operand.const (Go.Value.string { data := #[120] }))], type := 80, pos := "l3_text.go:285", after := #[], guard := none }) rfl (by kernel_rfl) (fun K hK => ?_)
    go_simp
    refine hK.out _ _ (Or.inr ?khHeld25) (fun hHeld25S => ?_)
    case khHeld25 => exact HD9.out.cell
    have hHeld25 := hHeld25S.held (by kernel_rfl)
    clear hK K
    try simp only [Act.put, List.setIfInBounds_toArray, List.set_cons_zero, List.set_cons_succ]
    refine wpG_one (i := 3) (o := { dst := some 33, op := Go.Op.call { callee := Go.Callee.value (Go.Operand.func 51), args := #[Go.Operand.tmp 31, Go.Operand.tmp 32], argTypes := #[72, 80] }, type := 9, pos := "l3_text.go:285", after := #[{ on := 1, ground := Go.Ground.data }, { on := 2, ground := Go.Ground.data }], guard := none }) rfl (by kernel_rfl) (fun K hK => ?_)
    go_simp
    refine HOF.out.mono ?_
    rintro e wa ⟨s, hs, rfl, hpa, hwa⟩
    have HDA := Lib.hid (HD9.out.wrote hwa hpa)
    have qa := HDA.out.cell
    clear hpa hwa
    refine hK.out _ _ (Or.inr ?khHeld26) (fun hHeld26S => ?_)
    case khHeld26 => exact qa
    have hHeld26 := hHeld26S.held (by kernel_rfl)
    clear hK K
    try simp only [Act.put, List.setIfInBounds_toArray, List.set_cons_zero, List.set_cons_succ]
    refine wpG_one (i := 4) (o := { dst := none, op := Go.Op.store 28 (Go.Operand.tmp 2) (Go.Operand.tmp 30), type := 0, pos := "l3_text.go:285", after := #[{ on := 0, ground := Go.Ground.data }, { on := 3, ground := Go.Ground.chain }, { on := 0, ground := Go.Ground.phase }, { on := 1, ground := Go.Ground.textOnly Go.Departure.lateStores }, { on := 2, ground := Go.Ground.textOnly Go.Departure.lateStores }, { on := 3, ground := Go.Ground.textOnly Go.Departure.lateStoresUnsure }], guard := none }) rfl (by kernel_rfl) (fun K hK => ?_)
    obtain ⟨x0, f0, yy0, HRO, HRB⟩ := HDA.out.put 0 (by omega) (.slice (some ⟨g, 0, none⟩) L.length cap)
    rw [Nat.add_zero] at x0 f0 yy0 HRO HRB
    go_simp
    refine hK.out _ _ (Or.inl (by kernel_rfl)) (fun _ => ?_)
    clear hK K
    try simp only [Act.put, List.setIfInBounds_toArray, List.set_cons_zero, List.set_cons_succ]
    refine wpG_pure (i := 5) (oi := { dst := some 3, op := Go.Op.assign (Go.Operand.tmp 33), type := 9, pos := "l3_text.go:285", after := #[{ on := 3, ground := Go.Ground.data }, { on := 4, ground := Go.Ground.chain }, { on := 0, ground := Go.Ground.phase }, { on := 1, ground := Go.Ground.phase }, { on := 2, ground := Go.Ground.phase }, { on := 3, ground := Go.Ground.phase }, { on := 4, ground := Go.Ground.phase }], guard := none }) (v := ?vg28) rfl (by kernel_rfl) (fun _ _ _ h => h) (Or.inl (by kernel_rfl)) (Or.inl ⟨by rfl, ?yg28⟩) ?_
    case yg28 => (intro wS _; go_simp <;> with_reducible rfl)
    try simp only [Act.put, List.setIfInBounds_toArray, List.set_cons_zero, List.set_cons_succ]
    refine wpG_done (by kernel_rfl) ?_
    skip
    go_wp2_with fail
    refine bodyPost_ret (v := .tuple #[.agg #[.slice (some ⟨g, 0, none⟩) L.length cap], .string s]) (by simp [results, Try.results17, go_sem, yy0]) rfl ?_
    exact ⟨L, _, cap, _, rfl, hll, HDA.out.nm, own_mono HRO (by omega), HRB⟩
  | true =>
  have HON := Lib.hid (cur_one (w.heap.size + 1) (0 + 10100 + 2) 2 w7 HD7.out.cur (by omega) (by omega))
  go_wp2_with fail
  refine HON.out.mono ?_
  rintro e w8 ⟨b, rfl, hp, hw⟩
  have HD8 := Lib.hid (HD7.out.wrote hw hp)
  have t1 := HD8.out.cell
  clear hp hw
  cases b with
  | false =>
    have HD9 := Lib.hid (HD8.out.drew.alloc (.cells #[.string { data := #[] }, .string { data := #[97] }, .string { data := #[110, 97, 109, 101] }, .string { data := #[108, 105, 115, 116, 46, 97] }, .string { data := #[107, 105, 110, 100, 46, 97, 46, 98] }, .string { data := #[120] }] 9))
    have HOF := Lib.hid (cur_of (w.heap.size + 1) _ [{ data := #[] }, { data := #[97] }, { data := #[110, 97, 109, 101] }, { data := #[108, 105, 115, 116, 46, 97] }, { data := #[107, 105, 110, 100, 46, 97, 46, 98] }, { data := #[120] }] w8.heap.size 0 6 _ HD9.out.cur (by omega) (by decide) (by decide) (by decide) (by decide) (by have := HD8.out.cur.lt; omega) (lit_cells w8.drew [{ data := #[] }, { data := #[97] }, { data := #[110, 97, 109, 101] }, { data := #[108, 105, 115, 116, 46, 97] }, { data := #[107, 105, 110, 100, 46, 97, 46, 98] }, { data := #[120] }] 9))
    go_wp2_with fail
    refine wp_region_G [4] (fun w' => w'.cell? ⟨X, 0, none⟩ = some (.slice (some ⟨g, 0, none⟩) L.length cap)) (by kernel_rfl) ?_ (fun hHeld => ?_)
    · exact t1
    refine wpG_load (i := 0) (oi := { dst := some 30, op := Go.Op.load 28 (Go.Operand.tmp 5), type := 28, pos := "l3_text.go:285", after := #[], guard := none }) (v := ?vg29) [[4, 0]] rfl (by kernel_rfl) (fun _ _ _ h => h) hHeld (Or.inl ⟨by rfl, ?yg29⟩) ?_
    case yg29 => (intro wS hSw; (try dsimp only at hSw); go_simp <;> with_reducible rfl)
    try simp only [Act.put, List.setIfInBounds_toArray, List.set_cons_zero, List.set_cons_succ]
    refine wpG_pure (i := 1) (oi := { dst := some 31, op := Go.Op.move (Go.Operand.tmp 4), type := 72, pos := "l3_text.go:285", after := #[], guard := none }) (v := ?vg30) rfl (by kernel_rfl) (fun _ _ _ h => h) (Or.inr hHeld) (Or.inl ⟨by rfl, ?yg30⟩) ?_
    case yg30 => (intro wS _; go_simp <;> with_reducible rfl)
    try simp only [Act.put, List.setIfInBounds_toArray, List.set_cons_zero, List.set_cons_succ]
    refine wpG_one (i := 2) (o := { dst := some 32, op := Go.Op.buildSlice 80 6 #[(0, Go.Operand.const (Go.Value.string { data := #[] })), (1, Go.Operand.const (Go.Value.string { data := #[97] })), (2, Go.Operand.const (Go.Value.string { data := #[110, 97, 109, 101] })), (3, Go.Operand.const (Go.Value.string { data := #[108, 105, 115, 116, 46, 97] })), (4, Go.Operand.const (Go.Value.string { data := #[107, 105, 110, 100, 46, 97, 46, 98] })), (5, Go.Operand.const (Go.Value.string { data := #[120] }))], type := 80, pos := "l3_text.go:285", after := #[], guard := none }) rfl (by kernel_rfl) (fun K hK => ?_)
    go_simp
    refine hK.out _ _ (Or.inr ?khHeld31) (fun hHeld31S => ?_)
    case khHeld31 => exact HD9.out.cell
    have hHeld31 := hHeld31S.held (by kernel_rfl)
    clear hK K
    try simp only [Act.put, List.setIfInBounds_toArray, List.set_cons_zero, List.set_cons_succ]
    refine wpG_one (i := 3) (o := { dst := some 33, op := Go.Op.call { callee := Go.Callee.value (Go.Operand.func 51), args := #[Go.Operand.tmp 31, Go.Operand.tmp 32], argTypes := #[72, 80] }, type := 9, pos := "l3_text.go:285", after := #[{ on := 1, ground := Go.Ground.data }, { on := 2, ground := Go.Ground.data }], guard := none }) rfl (by kernel_rfl) (fun K hK => ?_)
    go_simp
    refine HOF.out.mono ?_
    rintro e wa ⟨s, hs, rfl, hpa, hwa⟩
    have HDA := Lib.hid (HD9.out.wrote hwa hpa)
    have qa := HDA.out.cell
    clear hpa hwa
    refine hK.out _ _ (Or.inr ?khHeld32) (fun hHeld32S => ?_)
    case khHeld32 => exact qa
    have hHeld32 := hHeld32S.held (by kernel_rfl)
    clear hK K
    try simp only [Act.put, List.setIfInBounds_toArray, List.set_cons_zero, List.set_cons_succ]
    refine wpG_one (i := 4) (o := { dst := none, op := Go.Op.store 28 (Go.Operand.tmp 2) (Go.Operand.tmp 30), type := 0, pos := "l3_text.go:285", after := #[{ on := 0, ground := Go.Ground.data }, { on := 3, ground := Go.Ground.chain }, { on := 0, ground := Go.Ground.phase }, { on := 1, ground := Go.Ground.textOnly Go.Departure.lateStores }, { on := 2, ground := Go.Ground.textOnly Go.Departure.lateStores }, { on := 3, ground := Go.Ground.textOnly Go.Departure.lateStoresUnsure }], guard := none }) rfl (by kernel_rfl) (fun K hK => ?_)
    obtain ⟨x0, f0, yy0, HRO, HRB⟩ := HDA.out.put 0 (by omega) (.slice (some ⟨g, 0, none⟩) L.length cap)
    rw [Nat.add_zero] at x0 f0 yy0 HRO HRB
    go_simp
    refine hK.out _ _ (Or.inl (by kernel_rfl)) (fun _ => ?_)
    clear hK K
    try simp only [Act.put, List.setIfInBounds_toArray, List.set_cons_zero, List.set_cons_succ]
    refine wpG_pure (i := 5) (oi := { dst := some 3, op := Go.Op.assign (Go.Operand.tmp 33), type := 9, pos := "l3_text.go:285", after := #[{ on := 3, ground := Go.Ground.data }, { on := 4, ground := Go.Ground.chain }, { on := 0, ground := Go.Ground.phase }, { on := 1, ground := Go.Ground.phase }, { on := 2, ground := Go.Ground.phase }, { on := 3, ground := Go.Ground.phase }, { on := 4, ground := Go.Ground.phase }], guard := none }) (v := ?vg34) rfl (by kernel_rfl) (fun _ _ _ h => h) (Or.inl (by kernel_rfl)) (Or.inl ⟨by rfl, ?yg34⟩) ?_
    case yg34 => (intro wS _; go_simp <;> with_reducible rfl)
    try simp only [Act.put, List.setIfInBounds_toArray, List.set_cons_zero, List.set_cons_succ]
    refine wpG_done (by kernel_rfl) ?_
    skip
    go_wp2_with fail
    refine bodyPost_ret (v := .tuple #[.agg #[.slice (some ⟨g, 0, none⟩) L.length cap], .string s]) (by simp [results, Try.results17, go_sem, yy0]) rfl ?_
    exact ⟨L, _, cap, _, rfl, hll, HDA.out.nm, own_mono HRO (by omega), HRB⟩
  | true =>
  obtain ⟨x0, f0, yy0, HRO, HRB⟩ := HD8.out.put 0 (by omega) (.slice (some ⟨g, 0, none⟩) L.length cap)
  rw [Nat.add_zero] at x0 f0 yy0 HRO HRB
  go_wp2_with fail
  refine bodyPost_ret (v := .tuple #[.agg #[.slice (some ⟨g, 0, none⟩) L.length cap], .string p]) (by simp [results, Try.results17, go_sem, yy0]) rfl ?_
  exact ⟨L, _, cap, _, rfl, hll, HD8.out.nm, own_mono HRO (by omega), HRB⟩
end Go.Proofs.Ytmlnecopbncdbaa
