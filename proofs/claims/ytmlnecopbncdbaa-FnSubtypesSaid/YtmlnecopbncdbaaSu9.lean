/- The draw of two schemas. -/
import Derived.Test.YtmlnecopbncdbaaPaD
import Derived.Test.YtmlnecopbncdbaaSu8
namespace Go.Proofs.Ytmlnecopbncdbaa
set_option linter.unusedVariables false
set_option linter.unusedSimpArgs false
open Go.ChangeShapes Go.WideShapes Go.ChangeAt Go.RowKit
set_option maxRecDepth 100000

/-- two schemas -/
def SubD (w : World) (e : Ending) (w' : World) : Prop :=
  ∃ A sa ca D sd cd, e = .returned (.tuple #[.agg #[.slice sa A.length ca], .agg #[.slice sd D.length cd]]) ∧ A.length ≤ 30 ∧ D.length ≤ 30 ∧ Sch w'.heap.size w' A sa ca ∧ Sch w'.heap.size w' D sd cd ∧ Below w.heap.size w w'
theorem DB.put2 {w0 w : World} {K X n g cap : Nat} {L : List Ty} (h : DB w0 2 K X n g cap L w) (u v : Value) :
    (w.cell? ⟨w0.heap.size, 0, none⟩ = some (.slice none 0 0) ∧ w.frozen? ⟨w0.heap.size, 0, none⟩ = false) ∧ ((w.setCell ⟨w0.heap.size, 0, none⟩ u).cell? ⟨w0.heap.size + 1, 0, none⟩ = some (.slice none 0 0) ∧ (w.setCell ⟨w0.heap.size, 0, none⟩ u).frozen? ⟨w0.heap.size + 1, 0, none⟩ = false) ∧ (((w.setCell ⟨w0.heap.size, 0, none⟩ u).setCell ⟨w0.heap.size + 1, 0, none⟩ v).cell? ⟨w0.heap.size, 0, none⟩ = some u ∧ ((w.setCell ⟨w0.heap.size, 0, none⟩ u).setCell ⟨w0.heap.size + 1, 0, none⟩ v).cell? ⟨w0.heap.size + 1, 0, none⟩ = some v) ∧ Wrote (fun k => k = w0.heap.size ∨ k = w0.heap.size + 1) w ((w.setCell ⟨w0.heap.size, 0, none⟩ u).setCell ⟨w0.heap.size + 1, 0, none⟩ v) := by
  have hr0 := h.res 0 (by omega)
  have hr1 := h.res 1 (by omega)
  rw [Nat.add_zero] at hr0
  have hq := hp_set (Y := w0.heap.size) (i := 0) (u := u) hr1 (by omega)
  have hs0 : (w.setCell ⟨w0.heap.size, 0, none⟩ u).heap[w0.heap.size]? = some (.cells #[u] 28) := by simp [World.setCell, Array.getElem?_modify, hr0]
  have hs1 := hp_set (Y := w0.heap.size + 1) (i := 0) (u := v) hs0 (by omega)
  have hs2 : ((w.setCell ⟨w0.heap.size, 0, none⟩ u).setCell ⟨w0.heap.size + 1, 0, none⟩ v).heap[w0.heap.size + 1]? = some (.cells #[v] 28) := by
    generalize w.setCell ⟨w0.heap.size, 0, none⟩ u = wa at *
    simp [World.setCell, Array.getElem?_modify, hq]
  refine ⟨⟨by simp [World.cell?, hr0], by simp [World.frozen?, hr0]⟩, ⟨by simp [World.cell?, hq], by simp [World.frozen?, hq]⟩, ⟨by simp [World.cell?, hs1], by simp [World.cell?, hs2]⟩, ?_⟩
  exact ((wrote_cell w w0.heap.size 0 u).mono (fun k _ hk => .inl hk)).trans ((wrote_cell _ (w0.heap.size + 1) 0 v).mono (fun k _ hk => .inr hk))
set_option maxHeartbeats 4000000 in
theorem draw_IsSubtype (w : World) (a : Option Addr) (c : Nat) (cs : List UInt8) (hl : cs.length ≤ c) (hc : c ≤ 9223372036854775807) (hr : Rb w.heap.size w a (u8s cs)) :
    Calls Try.prog 19 #[.slice a cs.length c] w (SubD w) := by
  have hBA := (Below.refl w.heap.size w).alloc (Nat.le_refl _) (.cells #[.slice none 0 0] 28)
  have hSA : (w.alloc (.cells #[.slice none 0 0] 28)).heap.size = w.heap.size + 1 := by simp
  have hXA := heap_alloc_new w (.cells #[.slice none 0 0] 28)
  generalize hw1 : w.alloc (.cells #[.slice none 0 0] 28) = w1 at *
  have hBB := hBA.alloc hBA.size (.cells #[.slice none 0 0] 28)
  have hSB : (w1.alloc (.cells #[.slice none 0 0] 28)).heap.size = w.heap.size + 2 := by simp [hSA]
  have hXA := hp_alloc (.cells #[.slice none 0 0] 28) hXA
  have hXB := heap_alloc_new w1 (.cells #[.slice none 0 0] 28)
  rw [hSA] at hXB
  generalize hw2 : w1.alloc (.cells #[.slice none 0 0] 28) = w2 at *
  have hp0 := pc_start w2 a c cs hl hc ((hr.below hBB).mono hBB.size)
  rw [hSB] at hp0
  have hbb := (Below.refl w2.heap.size w2).alloc (Nat.le_refl _) (.cells #[.slice a cs.length c, .int .i64 0, .int .u64 0] 75)
  have HX0 := Lib.hid (hp_later hbb hXA)
  have HX1 := Lib.hid (hp_later hbb hXB)
  have HB0 := Lib.hid (hBB.trans (hbb.mono hBB.size))
  have HZ0 : Hid ((w2.alloc (.cells #[.slice a cs.length c, .int .i64 0, .int .u64 0] 75)).heap.size = w.heap.size + 2 + 1) := Lib.hid (by simp [hSB])
  have HP0 := Lib.hid hp0
  clear hBA hBB hXA hXB hp0 hbb hr hl hc
  unfold SubD
  go_enter Try.func19, Try.ntmps19
  go_wp2_with fail
  generalize w2.alloc (.cells #[.slice a cs.length c, .int .i64 0, .int .u64 0] 75) = w0 at *
  refine (draw_maybe (w.heap.size + 2) 0 w0 HP0.out (by omega)).mono ?_
  rintro e wa ⟨L, sa, cap, rfl, hll, hnm, ho, hp, hw⟩
  obtain ⟨g, rfl, -, -⟩ := ty_own ho hll.1
  have HD1 := Lib.hid (db_start HZ0.out HB0.out (fun i hi => by
    have h2 : i = 0 ∨ i = 1 := by omega
    rcases h2 with rfl | rfl
    · exact HX0.out
    · exact HX1.out) hnm ho hp hw)
  have hcapb := own_cap ho
  clear hnm ho hp hw HX0 HX1 HB0 HZ0 HP0 hw1 hw2 hSA hSB
  generalize hXe : wa.heap.size = X at *
  generalize hwb : wa.alloc (.cells #[.slice (some ⟨g, 0, none⟩) L.length cap] 28) = wb at *
  have z0 := HD1.out.cell
  have HGS := Lib.hid (spec_GoodSchema (HD1.out.sch (by omega)))
  cases hg : goodL L with
  | false =>
    rw [hg] at HGS
    go_wp2_with fail
    refine HGS.out.mono ?_
    rintro e wc ⟨rfl, hb⟩
    have HDc := Lib.hid (HD1.out.later hb)
    clear hb z0 hg
    have z0 := HDc.out.cell
    have HPB := Lib.hid (draw_schema (w.heap.size + 2) (0 + 10100) wc.drew HDc.out.drew.cur (by omega))
    unfold DrS at HPB
    go_wp2_with fail
    refine wp_region_G [3] (fun w' => w'.cell? ⟨X, 0, none⟩ = some (.slice (some ⟨g, 0, none⟩) L.length cap)) (by kernel_rfl) ?_ (fun hHeld => ?_)
    · exact z0
    refine wpG_load (i := 0) (oi := { dst := some 22, op := Go.Op.load 28 (Go.Operand.tmp 5), type := 28, pos := "l2_type.go:397", after := #[], guard := none }) (v := ?vg1) [[3, 0]] rfl (by kernel_rfl) (fun _ _ _ h => h) hHeld (Or.inl ⟨by rfl, ?yg1⟩) ?_
    case yg1 => (intro wS hSw; (try dsimp only at hSw); go_simp <;> with_reducible rfl)
    try simp only [Act.put, List.setIfInBounds_toArray, List.set_cons_zero, List.set_cons_succ]
    refine wpG_pure (i := 1) (oi := { dst := some 23, op := Go.Op.move (Go.Operand.tmp 4), type := 72, pos := "l2_type.go:397", after := #[], guard := none }) (v := ?vg2) rfl (by kernel_rfl) (fun _ _ _ h => h) (Or.inr hHeld) (Or.inl ⟨by rfl, ?yg2⟩) ?_
    case yg2 => (intro wS _; go_simp <;> with_reducible rfl)
    try simp only [Act.put, List.setIfInBounds_toArray, List.set_cons_zero, List.set_cons_succ]
    refine wpG_one (i := 2) (o := { dst := some 24, op := Go.Op.call { callee := Go.Callee.value (Go.Operand.func 53), args := #[Go.Operand.tmp 23], argTypes := #[72] }, type := 28, pos := "l2_type.go:397", after := #[{ on := 1, ground := Go.Ground.data }], guard := none }) rfl (by kernel_rfl) (fun K hK => ?_)
    go_simp
    refine HPB.out.mono ?_
    rintro e w6 ⟨M, sd, cd, rfl, hml, hmn, hom, hp6, hw6⟩
    have HD6 := Lib.hid (HDc.out.drew.wrote hw6 hp6)
    have q0 := HD6.out.cell
    have HOM := Lib.hid hom
    have HMN := Lib.hid hmn
    obtain ⟨⟨x0, f0⟩, ⟨x1, f1⟩, ⟨yy0, yy1⟩, hws⟩ := HD6.out.put2 (.slice (some ⟨g, 0, none⟩) L.length cap) (.slice sd M.length cd)
    have HWS := Lib.hid hws
    clear hp6 hw6 hom hmn hws
    refine hK.out _ _ (Or.inr ?khHeld3) (fun hHeld3S => ?_)
    case khHeld3 => exact q0
    have hHeld3 := hHeld3S.held (by kernel_rfl)
    clear hK K
    try simp only [Act.put, List.setIfInBounds_toArray, List.set_cons_zero, List.set_cons_succ]
    refine wpG_one (i := 3) (o := { dst := none, op := Go.Op.store 28 (Go.Operand.tmp 2) (Go.Operand.tmp 22), type := 0, pos := "l2_type.go:397", after := #[{ on := 0, ground := Go.Ground.data }, { on := 2, ground := Go.Ground.chain }, { on := 0, ground := Go.Ground.phase }, { on := 1, ground := Go.Ground.textOnly Go.Departure.lateStores }, { on := 2, ground := Go.Ground.textOnly Go.Departure.lateStoresUnsure }], guard := none }) rfl (by kernel_rfl) (fun K hK => ?_)
    go_simp
    refine hK.out _ _ (Or.inl (by kernel_rfl)) (fun _ => ?_)
    clear hK K
    try simp only [Act.put, List.setIfInBounds_toArray, List.set_cons_zero, List.set_cons_succ]
    refine wpG_one (i := 4) (o := { dst := none, op := Go.Op.store 28 (Go.Operand.tmp 3) (Go.Operand.tmp 24), type := 0, pos := "l2_type.go:397", after := #[{ on := 2, ground := Go.Ground.data }, { on := 3, ground := Go.Ground.chain }, { on := 0, ground := Go.Ground.phase }, { on := 1, ground := Go.Ground.phase }, { on := 2, ground := Go.Ground.phase }, { on := 3, ground := Go.Ground.phase }], guard := none }) rfl (by kernel_rfl) (fun K hK => ?_)
    go_simp
    refine hK.out _ _ (Or.inl (by kernel_rfl)) (fun _ => ?_)
    clear hK K
    try simp only [Act.put, List.setIfInBounds_toArray, List.set_cons_zero, List.set_cons_succ]
    refine wpG_done (by kernel_rfl) ?_
    skip
    have hge := HD6.out.ge
    have hbl := HD6.out.bel.size
    have HSA := Lib.hid (sch_own (HWS.out.own HD6.out.own (fun k hk e => by simp only [Value.ownBlock, Option.some.injEq] at hk; omega)) (by omega) HD6.out.nm)
    have HSD := Lib.hid (sch_own (HWS.out.own HOM.out (fun k hk e => by have := (HOM.out.lt k hk).1; have := HDc.out.ge; simp only [World.size_drew] at *; omega)) (by omega) HMN.out)
    have HBL := Lib.hid (HD6.out.bel.trans (HWS.out.below hbl (fun k hk => by omega)))
    clear hge hbl
    go_wp2_with fail
    refine bodyPost_ret (v := .tuple #[.agg #[.slice (some ⟨g, 0, none⟩) L.length cap], .agg #[.slice sd M.length cd]]) (by simp [results, Try.results19, go_sem, yy0, yy1]) rfl ?_
    exact ⟨L, _, cap, M, sd, cd, rfl, hll.2, hml.2, HSA.out, HSD.out, HBL.out⟩
  | true =>
  rw [hg] at HGS
  go_wp2_with fail
  refine HGS.out.mono ?_
  rintro e wc ⟨rfl, hb⟩
  have HDc := Lib.hid (HD1.out.later hb)
  clear hb z0
  have HGD := Lib.hid hg
  clear hg
  have z0 := HDc.out.cell
  have HON := Lib.hid (cur_one (w.heap.size + 2) (0 + 10100) 3 wc HDc.out.cur (by omega) (by omega))
  go_wp2_with fail
  refine HON.out.mono ?_
  rintro e wd ⟨b, rfl, hp, hw⟩
  have HDc := Lib.hid (HDc.out.wrote hw hp)
  clear hp hw z0
  have z0 := HDc.out.cell
  cases b with
  | true =>
    have HPB := Lib.hid (draw_schema (w.heap.size + 2) (0 + 10100 + 2) wd.drew HDc.out.drew.cur (by omega))
    unfold DrS at HPB
    go_wp2_with fail
    refine wp_region_G [3] (fun w' => w'.cell? ⟨X, 0, none⟩ = some (.slice (some ⟨g, 0, none⟩) L.length cap)) (by kernel_rfl) ?_ (fun hHeld => ?_)
    · exact z0
    refine wpG_load (i := 0) (oi := { dst := some 22, op := Go.Op.load 28 (Go.Operand.tmp 5), type := 28, pos := "l2_type.go:397", after := #[], guard := none }) (v := ?vg6) [[3, 0]] rfl (by kernel_rfl) (fun _ _ _ h => h) hHeld (Or.inl ⟨by rfl, ?yg6⟩) ?_
    case yg6 => (intro wS hSw; (try dsimp only at hSw); go_simp <;> with_reducible rfl)
    try simp only [Act.put, List.setIfInBounds_toArray, List.set_cons_zero, List.set_cons_succ]
    refine wpG_pure (i := 1) (oi := { dst := some 23, op := Go.Op.move (Go.Operand.tmp 4), type := 72, pos := "l2_type.go:397", after := #[], guard := none }) (v := ?vg7) rfl (by kernel_rfl) (fun _ _ _ h => h) (Or.inr hHeld) (Or.inl ⟨by rfl, ?yg7⟩) ?_
    case yg7 => (intro wS _; go_simp <;> with_reducible rfl)
    try simp only [Act.put, List.setIfInBounds_toArray, List.set_cons_zero, List.set_cons_succ]
    refine wpG_one (i := 2) (o := { dst := some 24, op := Go.Op.call { callee := Go.Callee.value (Go.Operand.func 53), args := #[Go.Operand.tmp 23], argTypes := #[72] }, type := 28, pos := "l2_type.go:397", after := #[{ on := 1, ground := Go.Ground.data }], guard := none }) rfl (by kernel_rfl) (fun K hK => ?_)
    go_simp
    refine HPB.out.mono ?_
    rintro e w6 ⟨M, sd, cd, rfl, hml, hmn, hom, hp6, hw6⟩
    have HD6 := Lib.hid (HDc.out.drew.wrote hw6 hp6)
    have q0 := HD6.out.cell
    have HOM := Lib.hid hom
    have HMN := Lib.hid hmn
    obtain ⟨⟨x0, f0⟩, ⟨x1, f1⟩, ⟨yy0, yy1⟩, hws⟩ := HD6.out.put2 (.slice (some ⟨g, 0, none⟩) L.length cap) (.slice sd M.length cd)
    have HWS := Lib.hid hws
    clear hp6 hw6 hom hmn hws
    refine hK.out _ _ (Or.inr ?khHeld8) (fun hHeld8S => ?_)
    case khHeld8 => exact q0
    have hHeld8 := hHeld8S.held (by kernel_rfl)
    clear hK K
    try simp only [Act.put, List.setIfInBounds_toArray, List.set_cons_zero, List.set_cons_succ]
    refine wpG_one (i := 3) (o := { dst := none, op := Go.Op.store 28 (Go.Operand.tmp 2) (Go.Operand.tmp 22), type := 0, pos := "l2_type.go:397", after := #[{ on := 0, ground := Go.Ground.data }, { on := 2, ground := Go.Ground.chain }, { on := 0, ground := Go.Ground.phase }, { on := 1, ground := Go.Ground.textOnly Go.Departure.lateStores }, { on := 2, ground := Go.Ground.textOnly Go.Departure.lateStoresUnsure }], guard := none }) rfl (by kernel_rfl) (fun K hK => ?_)
    go_simp
    refine hK.out _ _ (Or.inl (by kernel_rfl)) (fun _ => ?_)
    clear hK K
    try simp only [Act.put, List.setIfInBounds_toArray, List.set_cons_zero, List.set_cons_succ]
    refine wpG_one (i := 4) (o := { dst := none, op := Go.Op.store 28 (Go.Operand.tmp 3) (Go.Operand.tmp 24), type := 0, pos := "l2_type.go:397", after := #[{ on := 2, ground := Go.Ground.data }, { on := 3, ground := Go.Ground.chain }, { on := 0, ground := Go.Ground.phase }, { on := 1, ground := Go.Ground.phase }, { on := 2, ground := Go.Ground.phase }, { on := 3, ground := Go.Ground.phase }], guard := none }) rfl (by kernel_rfl) (fun K hK => ?_)
    go_simp
    refine hK.out _ _ (Or.inl (by kernel_rfl)) (fun _ => ?_)
    clear hK K
    try simp only [Act.put, List.setIfInBounds_toArray, List.set_cons_zero, List.set_cons_succ]
    refine wpG_done (by kernel_rfl) ?_
    skip
    have hge := HD6.out.ge
    have hbl := HD6.out.bel.size
    have HSA := Lib.hid (sch_own (HWS.out.own HD6.out.own (fun k hk e => by simp only [Value.ownBlock, Option.some.injEq] at hk; omega)) (by omega) HD6.out.nm)
    have HSD := Lib.hid (sch_own (HWS.out.own HOM.out (fun k hk e => by have := (HOM.out.lt k hk).1; have := HDc.out.ge; simp only [World.size_drew] at *; omega)) (by omega) HMN.out)
    have HBL := Lib.hid (HD6.out.bel.trans (HWS.out.below hbl (fun k hk => by omega)))
    clear hge hbl
    go_wp2_with fail
    refine bodyPost_ret (v := .tuple #[.agg #[.slice (some ⟨g, 0, none⟩) L.length cap], .agg #[.slice sd M.length cd]]) (by simp [results, Try.results19, go_sem, yy0, yy1]) rfl ?_
    exact ⟨L, _, cap, M, sd, cd, rfl, hll.2, hml.2, HSA.out, HSD.out, HBL.out⟩
  | false =>
    have HPB := Lib.hid (draw_bent (w.heap.size + 2) (0 + 10100 + 2) wd.drew HDc.out.drew.cur (by omega) (HDc.out.drew.sch (by omega)) HGD.out)
    unfold DrS at HPB
    go_wp2_with fail
    refine wp_region_G [4] (fun w' => w'.cell? ⟨X, 0, none⟩ = some (.slice (some ⟨g, 0, none⟩) L.length cap)) (by kernel_rfl) ?_ (fun hHeld => ?_)
    · exact z0
    refine wpG_load (i := 0) (oi := { dst := some 18, op := Go.Op.load 28 (Go.Operand.tmp 5), type := 28, pos := "l2_type.go:395", after := #[], guard := none }) (v := ?vg11) [[4, 0]] rfl (by kernel_rfl) (fun _ _ _ h => h) hHeld (Or.inl ⟨by rfl, ?yg11⟩) ?_
    case yg11 => (intro wS hSw; (try dsimp only at hSw); go_simp <;> with_reducible rfl)
    try simp only [Act.put, List.setIfInBounds_toArray, List.set_cons_zero, List.set_cons_succ]
    refine wpG_pure (i := 1) (oi := { dst := some 19, op := Go.Op.move (Go.Operand.tmp 4), type := 72, pos := "l2_type.go:395", after := #[], guard := none }) (v := ?vg12) rfl (by kernel_rfl) (fun _ _ _ h => h) (Or.inr hHeld) (Or.inl ⟨by rfl, ?yg12⟩) ?_
    case yg12 => (intro wS _; go_simp <;> with_reducible rfl)
    try simp only [Act.put, List.setIfInBounds_toArray, List.set_cons_zero, List.set_cons_succ]
    refine wpG_load (i := 2) (oi := { dst := some 20, op := Go.Op.load 28 (Go.Operand.tmp 5), type := 28, pos := "l2_type.go:395", after := #[], guard := none }) (v := ?vg13) [[4, 3, 2]] rfl (by kernel_rfl) (fun _ _ _ h => h) hHeld (Or.inl ⟨by rfl, ?yg13⟩) ?_
    case yg13 => (intro wS hSw; (try dsimp only at hSw); go_simp <;> with_reducible rfl)
    try simp only [Act.put, List.setIfInBounds_toArray, List.set_cons_zero, List.set_cons_succ]
    refine wpG_one (i := 3) (o := { dst := some 21, op := Go.Op.call { callee := Go.Callee.value (Go.Operand.func 52), args := #[Go.Operand.tmp 19, Go.Operand.tmp 20], argTypes := #[72, 28] }, type := 28, pos := "l2_type.go:395", after := #[{ on := 1, ground := Go.Ground.data }, { on := 2, ground := Go.Ground.data }], guard := none }) rfl (by kernel_rfl) (fun K hK => ?_)
    go_simp
    refine HPB.out.mono ?_
    rintro e w6 ⟨M, sd, cd, rfl, hml, hmn, hom, hp6, hw6⟩
    have HD6 := Lib.hid (HDc.out.drew.wrote hw6 hp6)
    have q0 := HD6.out.cell
    have HOM := Lib.hid hom
    have HMN := Lib.hid hmn
    obtain ⟨⟨x0, f0⟩, ⟨x1, f1⟩, ⟨yy0, yy1⟩, hws⟩ := HD6.out.put2 (.slice (some ⟨g, 0, none⟩) L.length cap) (.slice sd M.length cd)
    have HWS := Lib.hid hws
    clear hp6 hw6 hom hmn hws
    refine hK.out _ _ (Or.inr ?khHeld14) (fun hHeld14S => ?_)
    case khHeld14 => exact q0
    have hHeld14 := hHeld14S.held (by kernel_rfl)
    clear hK K
    try simp only [Act.put, List.setIfInBounds_toArray, List.set_cons_zero, List.set_cons_succ]
    refine wpG_one (i := 4) (o := { dst := none, op := Go.Op.store 28 (Go.Operand.tmp 2) (Go.Operand.tmp 18), type := 0, pos := "l2_type.go:395", after := #[{ on := 0, ground := Go.Ground.data }, { on := 3, ground := Go.Ground.chain }, { on := 0, ground := Go.Ground.phase }, { on := 1, ground := Go.Ground.textOnly Go.Departure.lateStores }, { on := 2, ground := Go.Ground.textOnly Go.Departure.lateStores }, { on := 3, ground := Go.Ground.textOnly Go.Departure.lateStoresUnsure }], guard := none }) rfl (by kernel_rfl) (fun K hK => ?_)
    go_simp
    refine hK.out _ _ (Or.inl (by kernel_rfl)) (fun _ => ?_)
    clear hK K
    try simp only [Act.put, List.setIfInBounds_toArray, List.set_cons_zero, List.set_cons_succ]
    refine wpG_one (i := 5) (o := { dst := none, op := Go.Op.store 28 (Go.Operand.tmp 3) (Go.Operand.tmp 21), type := 0, pos := "l2_type.go:395", after := #[{ on := 3, ground := Go.Ground.data }, { on := 4, ground := Go.Ground.chain }, { on := 0, ground := Go.Ground.phase }, { on := 1, ground := Go.Ground.phase }, { on := 2, ground := Go.Ground.phase }, { on := 3, ground := Go.Ground.phase }, { on := 4, ground := Go.Ground.phase }], guard := none }) rfl (by kernel_rfl) (fun K hK => ?_)
    go_simp
    refine hK.out _ _ (Or.inl (by kernel_rfl)) (fun _ => ?_)
    clear hK K
    try simp only [Act.put, List.setIfInBounds_toArray, List.set_cons_zero, List.set_cons_succ]
    refine wpG_done (by kernel_rfl) ?_
    skip
    have hge := HD6.out.ge
    have hbl := HD6.out.bel.size
    have HSA := Lib.hid (sch_own (HWS.out.own HD6.out.own (fun k hk e => by simp only [Value.ownBlock, Option.some.injEq] at hk; omega)) (by omega) HD6.out.nm)
    have HSD := Lib.hid (sch_own (HWS.out.own HOM.out (fun k hk e => by have := (HOM.out.lt k hk).1; have := HDc.out.ge; simp only [World.size_drew] at *; omega)) (by omega) HMN.out)
    have HBL := Lib.hid (HD6.out.bel.trans (HWS.out.below hbl (fun k hk => by omega)))
    clear hge hbl
    go_wp2_with fail
    refine bodyPost_ret (v := .tuple #[.agg #[.slice (some ⟨g, 0, none⟩) L.length cap], .agg #[.slice sd M.length cd]]) (by simp [results, Try.results19, go_sem, yy0, yy1]) rfl ?_
    exact ⟨L, _, cap, M, sd, cd, rfl, hll.2, hml.2, HSA.out, HSD.out, HBL.out⟩
end Go.Proofs.Ytmlnecopbncdbaa
