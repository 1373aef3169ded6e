/- A term read out of cells: the reference's contract; the tree of a term. -/
import Derived.Test.YtlmgckijbamgpaaTm5
import Derived.Test.YtlmgckijbamgpaaSched
namespace Go.Proofs.Ytlmgckijbamgpaa
set_option linter.unusedVariables false
open Go.ChangeShapes Go.WideShapes Go.ChangeAt Go.RowKit
set_option maxRecDepth 100000

theorem spec_read (B : Nat) (a : Option Addr) (cap : Nat) (L : List Cel) (hc : L.length ≤ cap) (hcm : cap ≤ 9223372036854775807) (hl : L.length ≤ 1048576) (hnm : ∀ c ∈ L, c.2.1.size ≤ maxLen) : ∀ (f i : Nat) (w : World), CRow B w a L → B ≤ w.heap.size → i ≤ L.length → L.length - i ≤ f →
    Calls Try.prog 113 #[.slice a L.length cap, .int .i64 (i : Int)] w (ReadOf L (pT f (L.drop i)) f w)
  | 0, i, w, hrow, hB, hi, hf => by
    obtain rfl : i = L.length := by omega
    exact spec_read_nil a cap L 0 w hc hcm
  | f + 1, i, w, hrow, hB, hi, hf => by
    by_cases hlt : i < L.length
    · have hk : L[i]? = some L[i] := List.getElem?_eq_getElem hlt
      by_cases hv : L[i].1 = 0
      · exact spec_read_node B a cap L f i L[i] w hc hcm hrow hB hk hl hv (hnm _ (List.getElem_mem hlt)) (by omega) (fun j wx h1 h2 h3 h4 => spec_read B a cap L hc hcm hl hnm f j wx h1 h2 h3 h4)
      · exact spec_read_var B a cap L f i L[i] w hc hcm hrow hB hk hl hv
    · obtain rfl : i = L.length := by omega
      exact spec_read_nil a cap L (f + 1) w hc hcm
/-- a good term's variables -/
def goodT (L : List Cel) : Option (List Int) := if 30 < L.length then none else match pT L.length L with
  | none => none
  | some (vs, r) => if r = [] then some vs else none
def TreeOf (L : List Cel) (w : World) (e : Ending) (w' : World) : Prop :=
  ∃ v nm sa sn sc, e = .returned (.tuple #[.agg #[.int .i64 v, .string nm, .slice sa sn sc], .bool (goodT L).isSome]) ∧ Below w.heap.size w w' ∧ (∀ vs, goodT L = some vs → TS (fun b => w.heap.size ≤ b) w' L.length [.int .i64 v, .string nm, .slice sa sn sc] vs)
theorem good_long {L : List Cel} (h : 30 < L.length) : goodT L = none := by unfold goodT; rw [if_pos h]
theorem good_none {L : List Cel} (h : ¬ 30 < L.length) (hp : pT L.length L = none) : goodT L = none := by unfold goodT; rw [if_neg h, hp]
theorem good_some {L : List Cel} {vs : List Int} {r : List Cel} (h : ¬ 30 < L.length) (hp : pT L.length L = some (vs, r)) : goodT L = if r = [] then some vs else none := by unfold goodT; rw [if_neg h, hp]
set_option maxHeartbeats 4000000 in
theorem spec_tree (B : Nat) (a : Option Addr) (cap : Nat) (L : List Cel) (w : World) (hc : L.length ≤ cap) (hcm : cap ≤ 9223372036854775807) (hl : L.length ≤ 1048576) (hnm : ∀ c ∈ L, c.2.1.size ≤ maxLen) (hrow : CRow B w a L) (hB : B ≤ w.heap.size) :
    Calls Try.prog 57 #[.agg #[.slice a L.length cap]] w (TreeOf L w) := by
  unfold TreeOf
  have HBX := Lib.hid (heap_alloc_new w (.cells #[.slice a L.length cap] 31))
  have HBB := Lib.hid ((Below.refl w.heap.size w).alloc (Nat.le_refl _) (.cells #[.slice a L.length cap] 31))
  generalize hwb : w.alloc (.cells #[.slice a L.length cap] 31) = wb at *
  have hzb := hp_lt HBX.out
  have HX0 := Lib.hid (heap_alloc_new wb (.cells #[.int .i64 0, .string { data := #[] }, .slice none 0 0] 87))
  have HB0 := Lib.hid (HBB.out.alloc (Nat.le_of_lt hzb) (.cells #[.int .i64 0, .string { data := #[] }, .slice none 0 0] 87))
  have HB1 := Lib.hid (hp_alloc (.cells #[.int .i64 0, .string { data := #[] }, .slice none 0 0] 87) HBX.out)
  generalize hw0 : wb.alloc (.cells #[.int .i64 0, .string { data := #[] }, .slice none 0 0] 87) = w0 at *
  have b0 : w0.cell? ⟨w.heap.size, 0, none⟩ = some (.slice a L.length cap) := by simp [World.cell?, HB1.out]
  by_cases h30 : 30 < L.length
  · have HG := Lib.hid (good_long h30)
    have HBC := Lib.hid (below_set (below_set (below_set HB0.out (Nat.le_of_lt hzb) 0 (.int .i64 0)) (Nat.le_of_lt hzb) 1 (.string { data := #[] })) (Nat.le_of_lt hzb) 2 (.slice none 0 0))
    obtain ⟨⟨sa0, -, -⟩, sf0, -, -⟩ := box3 HX0.out
    have HSA := Lib.hid (box3_s0 HX0.out (.int .i64 0))
    generalize hsA : (w0).setCell ⟨wb.heap.size, 0, none⟩ (.int .i64 0) = wsA at *
    obtain ⟨⟨-, sa1, -⟩, -, sf1, -⟩ := box3 HSA.out
    have HSB := Lib.hid (box3_s1 HSA.out (.string { data := #[] }))
    generalize hsB : wsA.setCell ⟨wb.heap.size, 1, none⟩ (.string { data := #[] }) = wsB at *
    obtain ⟨⟨-, -, sa2⟩, -, -, sf2⟩ := box3 HSB.out
    have HSC := Lib.hid (box3_s2 HSB.out (.slice none 0 0))
    generalize hsC : wsB.setCell ⟨wb.heap.size, 2, none⟩ (.slice none 0 0) = wsC at *
    obtain ⟨⟨sg0, sg1, sg2⟩, -⟩ := box3 HSC.out
    go_enter Try.func57, Try.ntmps57
    go_wp2_with fail
    refine bodyPost_ret (v := .tuple #[.agg #[.int .i64 0, .string { data := #[] }, .slice none 0 0], .bool false]) (by simp [results, Try.results57, go_sem, sg0, sg1, sg2]) rfl ?_
    exact ⟨_, _, _, _, _, by rw [HG.out]; rfl, HBC.out, fun vs h => by rw [HG.out] at h; cases h⟩
  have HRD := Lib.hid (spec_read B a cap L hc hcm hl hnm L.length 0 w0 (hrow.below (HB0.out.mono hB)) (Nat.le_trans hB HB0.out.size) (by omega) (by omega))
  rw [List.drop_zero] at HRD
  go_enter Try.func57, Try.ntmps57
  go_wp2_with fail
  refine HRD.out.mono ?_
  rintro e w3 ⟨v1, nm1, sa, sn, sc, en, rfl, hb, hno, hyes⟩
  have HX4 := Lib.hid (hp_alloc (.cells #[.int .i64 v1, .string nm1, .slice sa sn sc] 87) (hp_later hb HX0.out))
  have HT4 := Lib.hid (hp_alloc (.cells #[.int .i64 v1, .string nm1, .slice sa sn sc] 87) (hp_later hb HB1.out))
  have HN4 := Lib.hid (heap_alloc_new w3 (.cells #[.int .i64 v1, .string nm1, .slice sa sn sc] 87))
  have HB4 := Lib.hid ((rstep HB0.out hb).alloc (Nat.le_trans HB0.out.size hb.size) (.cells #[.int .i64 v1, .string nm1, .slice sa sn sc] 87))
  have HK4 := Lib.hid (kept_alloc (Kept.refl (fun x => w0.heap.size ≤ x) w3) (.cells #[.int .i64 v1, .string nm1, .slice sa sn sc] 87))
  have hz0 := hp_lt HX0.out
  have hz3 := hb.size
  have hz4 : w3.heap.size < (w3.alloc (.cells #[.int .i64 v1, .string nm1, .slice sa sn sc] 87)).heap.size := by simp
  clear hb HX0 HB1 HBX b0
  generalize h4 : w3.alloc (.cells #[.int .i64 v1, .string nm1, .slice sa sn sc] 87) = w4 at *
  obtain ⟨⟨x0, x1, x2⟩, -⟩ := box3 HN4.out
  have b4 : w4.cell? ⟨w.heap.size, 0, none⟩ = some (.slice a L.length cap) := by simp [World.cell?, HT4.out]
  have HX5 : Hid (w4.drew.heap[wb.heap.size]? = some (.cells #[.int .i64 0, .string { data := #[] }, .slice none 0 0] 87)) := HX4
  have HBC := Lib.hid (below_set (below_set (below_set HB4.out.drew (Nat.le_of_lt hzb) 0 (.int .i64 v1)) (Nat.le_of_lt hzb) 1 (.string nm1)) (Nat.le_of_lt hzb) 2 (.slice sa sn sc))
  have HKC := Lib.hid (kept_set (kept_set (kept_set (show Kept (fun x => w0.heap.size ≤ x) w3 w4.drew from HK4.out) (X := wb.heap.size) (by omega) 0 (.int .i64 v1)) (X := wb.heap.size) (by omega) 1 (.string nm1)) (X := wb.heap.size) (by omega) 2 (.slice sa sn sc))
  have HTC := Lib.hid (hp_set (Y := wb.heap.size) (i := 2) (u := .slice sa sn sc) (hp_set (Y := wb.heap.size) (i := 1) (u := .string nm1) (hp_set (Y := wb.heap.size) (i := 0) (u := .int .i64 v1) (show w4.drew.heap[w.heap.size]? = _ from HT4.out) (by omega)) (by omega)) (by omega))
  cases hq : pT L.length L with
  | none =>
    have HG := Lib.hid (good_none h30 hq)
    obtain rfl := hno hq
    clear hno hyes hq HKC HTC
    obtain ⟨⟨sa0, -, -⟩, sf0, -, -⟩ := box3 HX5.out
    have HSA := Lib.hid (box3_s0 HX5.out (.int .i64 v1))
    generalize hsA : (w4.drew).setCell ⟨wb.heap.size, 0, none⟩ (.int .i64 v1) = wsA at *
    obtain ⟨⟨-, sa1, -⟩, -, sf1, -⟩ := box3 HSA.out
    have HSB := Lib.hid (box3_s1 HSA.out (.string nm1))
    generalize hsB : wsA.setCell ⟨wb.heap.size, 1, none⟩ (.string nm1) = wsB at *
    obtain ⟨⟨-, -, sa2⟩, -, -, sf2⟩ := box3 HSB.out
    have HSC := Lib.hid (box3_s2 HSB.out (.slice sa sn sc))
    generalize hsC : wsB.setCell ⟨wb.heap.size, 2, none⟩ (.slice sa sn sc) = wsC at *
    obtain ⟨⟨sg0, sg1, sg2⟩, -⟩ := box3 HSC.out
    go_wp2_with fail
    refine wp_region_G [10] (fun w' => w'.cell? ⟨w3.heap.size, 0, none⟩ = some (.int .i64 v1) ∧ w'.cell? ⟨w3.heap.size, 1, none⟩ = some (.string nm1) ∧ w'.cell? ⟨w3.heap.size, 2, none⟩ = some (.slice sa sn sc)) (by kernel_rfl) ?_ (fun hHeld => ?_)
    · exact ⟨x0, x1, x2⟩
    refine wpG_load (i := 0) (oi := { dst := some 17, op := Go.Op.load 87 (Go.Operand.tmp 4), type := 87, pos := "l6_unify.go:48", after := #[], guard := none }) (v := ?vg1) [[10, 0]] rfl (by kernel_rfl) (fun _ _ _ h => h) hHeld (Or.inl ⟨by rfl, ?yg1⟩) ?_
    case yg1 => (intro wS hSw; (try dsimp only at hSw); go_simp <;> with_reducible rfl)
    try simp only [Act.put, List.setIfInBounds_toArray, List.set_cons_zero, List.set_cons_succ]
    refine wpG_pure (i := 1) (oi := { dst := some 18, op := Go.Op.move (Go.Operand.tmp 5), type := 3, pos := "l6_unify.go:48", after := #[], guard := none }) (v := ?vg2) rfl (by kernel_rfl) (fun _ _ _ h => h) (Or.inr hHeld) (Or.inl ⟨by rfl, ?yg2⟩) ?_
    case yg2 => (intro wS _; go_simp <;> with_reducible rfl)
    try simp only [Act.put, List.setIfInBounds_toArray, List.set_cons_zero, List.set_cons_succ]
    refine wpG_pure (i := 2) (oi := { dst := some 19, op := Go.Op.binOp Go.BinOp.gtr 3 (Go.Operand.tmp 18) (Go.Operand.const (Go.Value.int Go.IntKind.i64 0)) 3, type := 4, pos := "l6_unify.go:48", after := #[{ on := 1, ground := Go.Ground.data }], guard := none }) (v := ?vg3) rfl (by kernel_rfl) (fun _ _ _ h => h) (Or.inr hHeld) (Or.inl ⟨by rfl, ?yg3⟩) ?_
    case yg3 => (intro wS _; go_simp <;> with_reducible rfl)
    try simp only [Act.put, List.setIfInBounds_toArray, List.set_cons_zero, List.set_cons_succ]
    refine wpG_pure (i := 3) (oi := { dst := some 20, op := Go.Op.move (Go.Operand.tmp 19), type := 4, pos := "l6_unify.go:48", after := #[{ on := 2, ground := Go.Ground.data }], guard := none }) (v := ?vg4) rfl (by kernel_rfl) (fun _ _ _ h => h) (Or.inr hHeld) (Or.inl ⟨by rfl, ?yg4⟩) ?_
    case yg4 => (intro wS _; go_simp <;> with_reducible rfl)
    try simp only [Act.put, List.setIfInBounds_toArray, List.set_cons_zero, List.set_cons_succ]
    refine wpG_pure (i := 4) (oi := { dst := some 21, op := Go.Op.move (Go.Operand.tmp 5), type := 3, pos := "l6_unify.go:48", after := #[{ on := 3, ground := Go.Ground.guard }, { on := 10, ground := Go.Ground.gcOnly Go.Departure.lateStores }], guard := some (3, true) }) (v := undef) rfl (by kernel_rfl) (fun _ _ _ h => h) (Or.inr hHeld) (Or.inr ⟨by rfl, rfl⟩) ?_
    try simp only [Act.put, List.setIfInBounds_toArray, List.set_cons_zero, List.set_cons_succ]
    refine wpG_pure (i := 5) (oi := { dst := some 22, op := Go.Op.fieldAddr 31 (Go.Operand.tmp 1) 0, type := 0, pos := "l6_unify.go:48", after := #[{ on := 3, ground := Go.Ground.guard }], guard := some (3, true) }) (v := undef) rfl (by kernel_rfl) (fun _ _ _ h => h) (Or.inr hHeld) (Or.inr ⟨by rfl, rfl⟩) ?_
    try simp only [Act.put, List.setIfInBounds_toArray, List.set_cons_zero, List.set_cons_succ]
    refine wpG_pure (i := 6) (oi := { dst := some 23, op := Go.Op.load 29 (Go.Operand.tmp 22), type := 29, pos := "l6_unify.go:48", after := #[{ on := 5, ground := Go.Ground.data }, { on := 3, ground := Go.Ground.guard }], guard := some (3, true) }) (v := undef) rfl (by kernel_rfl) (fun _ _ _ h => h) (Or.inr hHeld) (Or.inr ⟨by rfl, rfl⟩) ?_
    try simp only [Act.put, List.setIfInBounds_toArray, List.set_cons_zero, List.set_cons_succ]
    refine wpG_pure (i := 7) (oi := { dst := some 24, op := Go.Op.call { callee := Go.Callee.builtin Go.Builtin.len, args := #[Go.Operand.tmp 23], argTypes := #[29] }, type := 3, pos := "l6_unify.go:48", after := #[{ on := 6, ground := Go.Ground.data }, { on := 3, ground := Go.Ground.guard }], guard := some (3, true) }) (v := undef) rfl (by kernel_rfl) (fun _ _ _ h => h) (Or.inr hHeld) (Or.inr ⟨by rfl, rfl⟩) ?_
    try simp only [Act.put, List.setIfInBounds_toArray, List.set_cons_zero, List.set_cons_succ]
    refine wpG_pure (i := 8) (oi := { dst := some 25, op := Go.Op.binOp Go.BinOp.eql 3 (Go.Operand.tmp 21) (Go.Operand.tmp 24) 3, type := 4, pos := "l6_unify.go:48", after := #[{ on := 4, ground := Go.Ground.data }, { on := 7, ground := Go.Ground.data }, { on := 3, ground := Go.Ground.guard }, { on := 10, ground := Go.Ground.gcOnly Go.Departure.lateStores }], guard := some (3, true) }) (v := undef) rfl (by kernel_rfl) (fun _ _ _ h => h) (Or.inr hHeld) (Or.inr ⟨by rfl, rfl⟩) ?_
    try simp only [Act.put, List.setIfInBounds_toArray, List.set_cons_zero, List.set_cons_succ]
    refine wpG_pure (i := 9) (oi := { dst := some 26, op := Go.Op.pick (Go.Operand.tmp 20) (Go.Operand.tmp 25) (Go.Operand.const (Go.Value.bool false)), type := 4, pos := "l6_unify.go:48", after := #[{ on := 3, ground := Go.Ground.data }, { on := 8, ground := Go.Ground.data }, { on := 10, ground := Go.Ground.gcOnly Go.Departure.lateStores }], guard := none }) (v := ?vg10) rfl (by kernel_rfl) (fun _ _ _ h => h) (Or.inr hHeld) (Or.inl ⟨by rfl, ?yg10⟩) ?_
    case yg10 => (intro wS _; go_simp <;> with_reducible rfl)
    try simp only [Act.put, List.setIfInBounds_toArray, List.set_cons_zero, List.set_cons_succ]
    refine wpG_one (i := 10) (o := { dst := none, op := Go.Op.store 87 (Go.Operand.tmp 2) (Go.Operand.tmp 17), type := 0, pos := "l6_unify.go:48", after := #[{ on := 0, ground := Go.Ground.data }, { on := 3, ground := Go.Ground.chain }, { on := 0, ground := Go.Ground.phase }, { on := 1, ground := Go.Ground.textOnly Go.Departure.lateStores }, { on := 2, ground := Go.Ground.textOnly Go.Departure.lateStores }, { on := 3, ground := Go.Ground.textOnly Go.Departure.lateStores }, { on := 4, ground := Go.Ground.textOnly Go.Departure.lateStores }, { on := 5, ground := Go.Ground.textOnly Go.Departure.lateStores }, { on := 6, ground := Go.Ground.textOnly Go.Departure.lateStores }, { on := 7, ground := Go.Ground.textOnly Go.Departure.lateStoresUnsure }, { on := 8, ground := Go.Ground.textOnly Go.Departure.lateStores }, { on := 9, ground := Go.Ground.textOnly Go.Departure.lateStores }], guard := none }) rfl (by kernel_rfl) (fun K hK => ?_)
    go_simp
    refine hK.out _ _ (Or.inl (by kernel_rfl)) (fun _ => ?_)
    clear hK K
    try simp only [Act.put, List.setIfInBounds_toArray, List.set_cons_zero, List.set_cons_succ]
    refine wpG_pure (i := 11) (oi := { dst := some 3, op := Go.Op.assign (Go.Operand.tmp 26), type := 4, pos := "l6_unify.go:48", after := #[{ on := 9, ground := Go.Ground.data }, { on := 10, ground := Go.Ground.chain }, { on := 0, ground := Go.Ground.phase }, { on := 1, ground := Go.Ground.phase }, { on := 2, ground := Go.Ground.phase }, { on := 3, ground := Go.Ground.phase }, { on := 4, ground := Go.Ground.phase }, { on := 5, ground := Go.Ground.phase }, { on := 6, ground := Go.Ground.phase }, { on := 7, ground := Go.Ground.phase }, { on := 8, ground := Go.Ground.phase }, { on := 9, ground := Go.Ground.phase }, { on := 10, ground := Go.Ground.phase }], guard := none }) (v := ?vg12) rfl (by kernel_rfl) (fun _ _ _ h => h) (Or.inl (by kernel_rfl)) (Or.inl ⟨by rfl, ?yg12⟩) ?_
    case yg12 => (intro wS _; go_simp <;> with_reducible rfl)
    try simp only [Act.put, List.setIfInBounds_toArray, List.set_cons_zero, List.set_cons_succ]
    refine wpG_done (by kernel_rfl) ?_
    go_wp2_with fail
    refine bodyPost_ret (v := .tuple #[.agg #[.int .i64 v1, .string nm1, .slice sa sn sc], .bool false]) (by simp [results, Try.results57, go_sem, sg0, sg1, sg2]) rfl ?_
    exact ⟨_, _, _, _, _, by rw [HG.out]; rfl, HBC.out, fun vs h => by rw [HG.out] at h; cases h⟩
  | some p =>
    obtain ⟨vs, r⟩ := p
    obtain ⟨rfl, hts⟩ := hyes vs r hq
    have hlt := (pT_suf hq).2
    have HTS := Lib.hid hts
    have HG := Lib.hid (good_some h30 hq)
    have hgt : (L.length : Int) - (r.length : Int) > 0 := by omega
    have HOK : Hid ((goodT L).isSome = ((L.length : Int) - (r.length : Int) == (L.length : Int))) := Lib.hid (by
      rw [HG.out]
      cases r with
      | nil => simp
      | cons y ys => rw [if_neg (by simp)]; symm; simp; omega)
    have HRES : Hid (∀ us, goodT L = some us → TS (fun b => w.heap.size ≤ b) ((((w4.drew.setCell ⟨wb.heap.size, 0, none⟩ (.int .i64 v1)).setCell ⟨wb.heap.size, 1, none⟩ (.string nm1)).setCell ⟨wb.heap.size, 2, none⟩ (.slice sa sn sc))) L.length [.int .i64 v1, .string nm1, .slice sa sn sc] us) := Lib.hid (fun us h => by
      rw [HG.out] at h
      split at h
      · simp only [Option.some.injEq] at h
        subst h
        exact HTS.out.keep HKC.out (fun x hx _ => by omega)
      · cases h)
    clear hno hyes hq HKC hts
    generalize hok : ((L.length : Int) - (r.length : Int) == (L.length : Int)) = ok at *
    have HNC := Lib.hid (hp_set (Y := wb.heap.size) (i := 2) (u := .slice sa sn sc) (hp_set (Y := wb.heap.size) (i := 1) (u := .string nm1) (hp_set (Y := wb.heap.size) (i := 0) (u := .int .i64 v1) (show w4.drew.heap[w3.heap.size]? = _ from HN4.out) (by omega)) (by omega)) (by omega))
    obtain ⟨⟨sa0, -, -⟩, sf0, -, -⟩ := box3 HX5.out
    have HSA := Lib.hid (box3_s0 HX5.out (.int .i64 v1))
    generalize hsA : (w4.drew).setCell ⟨wb.heap.size, 0, none⟩ (.int .i64 v1) = wsA at *
    obtain ⟨⟨-, sa1, -⟩, -, sf1, -⟩ := box3 HSA.out
    have HSB := Lib.hid (box3_s1 HSA.out (.string nm1))
    generalize hsB : wsA.setCell ⟨wb.heap.size, 1, none⟩ (.string nm1) = wsB at *
    obtain ⟨⟨-, -, sa2⟩, -, -, sf2⟩ := box3 HSB.out
    have HSC := Lib.hid (box3_s2 HSB.out (.slice sa sn sc))
    generalize hsC : wsB.setCell ⟨wb.heap.size, 2, none⟩ (.slice sa sn sc) = wsC at *
    obtain ⟨⟨sg0, sg1, sg2⟩, -⟩ := box3 HSC.out
    obtain ⟨⟨y0, y1, y2⟩, -⟩ := box3 HNC.out
    have b5 : wsC.cell? ⟨w.heap.size, 0, none⟩ = some (.slice a L.length cap) := by simp [World.cell?, HTC.out]
    go_wp2_with fail
    refine wp_region_G [] (fun w' => w'.cell? ⟨w3.heap.size, 0, none⟩ = some (.int .i64 v1) ∧ w'.cell? ⟨w3.heap.size, 1, none⟩ = some (.string nm1) ∧ w'.cell? ⟨w3.heap.size, 2, none⟩ = some (.slice sa sn sc) ∧ w'.cell? ⟨w.heap.size, 0, none⟩ = some (.slice a L.length cap)) (by kernel_rfl) ?_ (fun hHeld => ?_)
    · exact ⟨x0, x1, x2, b4⟩
    refine wpG_load (i := 0) (oi := { dst := some 17, op := Go.Op.load 87 (Go.Operand.tmp 4), type := 87, pos := "l6_unify.go:48", after := #[], guard := none }) (v := ?vg13) [] rfl (by kernel_rfl) (fun _ _ _ h => h) hHeld (Or.inl ⟨by rfl, ?yg13⟩) ?_
    case yg13 => (intro wS hSw; (try dsimp only at hSw); go_simp <;> with_reducible rfl)
    try simp only [Act.put, List.setIfInBounds_toArray, List.set_cons_zero, List.set_cons_succ]
    refine wpG_pure (i := 1) (oi := { dst := some 18, op := Go.Op.move (Go.Operand.tmp 5), type := 3, pos := "l6_unify.go:48", after := #[], guard := none }) (v := ?vg14) rfl (by kernel_rfl) (fun _ _ _ h => h) (Or.inr hHeld) (Or.inl ⟨by rfl, ?yg14⟩) ?_
    case yg14 => (intro wS _; go_simp <;> with_reducible rfl)
    try simp only [Act.put, List.setIfInBounds_toArray, List.set_cons_zero, List.set_cons_succ]
    refine wpG_pure (i := 2) (oi := { dst := some 19, op := Go.Op.binOp Go.BinOp.gtr 3 (Go.Operand.tmp 18) (Go.Operand.const (Go.Value.int Go.IntKind.i64 0)) 3, type := 4, pos := "l6_unify.go:48", after := #[{ on := 1, ground := Go.Ground.data }], guard := none }) (v := ?vg15) rfl (by kernel_rfl) (fun _ _ _ h => h) (Or.inr hHeld) (Or.inl ⟨by rfl, ?yg15⟩) ?_
    case yg15 => (intro wS _; go_simp <;> with_reducible rfl)
    try simp only [Act.put, List.setIfInBounds_toArray, List.set_cons_zero, List.set_cons_succ]
    refine wpG_pure (i := 3) (oi := { dst := some 20, op := Go.Op.move (Go.Operand.tmp 19), type := 4, pos := "l6_unify.go:48", after := #[{ on := 2, ground := Go.Ground.data }], guard := none }) (v := ?vg16) rfl (by kernel_rfl) (fun _ _ _ h => h) (Or.inr hHeld) (Or.inl ⟨by rfl, ?yg16⟩) ?_
    case yg16 => (intro wS _; go_simp <;> with_reducible rfl)
    try simp only [Act.put, List.setIfInBounds_toArray, List.set_cons_zero, List.set_cons_succ]
    refine wpG_pure (i := 4) (oi := { dst := some 21, op := Go.Op.move (Go.Operand.tmp 5), type := 3, pos := "l6_unify.go:48", after := #[{ on := 3, ground := Go.Ground.guard }, { on := 10, ground := Go.Ground.gcOnly Go.Departure.lateStores }], guard := some (3, true) }) (v := ?vg17) rfl (by kernel_rfl) (fun _ _ _ h => h) (Or.inr hHeld) (Or.inl ⟨by rfl, ?yg17⟩) ?_
    case yg17 => (intro wS _; go_simp <;> with_reducible rfl)
    try simp only [Act.put, List.setIfInBounds_toArray, List.set_cons_zero, List.set_cons_succ]
    refine wpG_pure (i := 5) (oi := { dst := some 22, op := Go.Op.fieldAddr 31 (Go.Operand.tmp 1) 0, type := 0, pos := "l6_unify.go:48", after := #[{ on := 3, ground := Go.Ground.guard }], guard := some (3, true) }) (v := ?vg18) rfl (by kernel_rfl) (fun _ _ _ h => h) (Or.inr hHeld) (Or.inl ⟨by rfl, ?yg18⟩) ?_
    case yg18 => (intro wS _; go_simp <;> with_reducible rfl)
    try simp only [Act.put, List.setIfInBounds_toArray, List.set_cons_zero, List.set_cons_succ]
    refine wpG_load (i := 6) (oi := { dst := some 23, op := Go.Op.load 29 (Go.Operand.tmp 22), type := 29, pos := "l6_unify.go:48", after := #[{ on := 5, ground := Go.Ground.data }, { on := 3, ground := Go.Ground.guard }], guard := some (3, true) }) (v := ?vg19) [] rfl (by kernel_rfl) (fun _ _ _ h => h) hHeld (Or.inl ⟨by rfl, ?yg19⟩) ?_
    case yg19 => (intro wS hSw; (try dsimp only at hSw); go_simp <;> with_reducible rfl)
    try simp only [Act.put, List.setIfInBounds_toArray, List.set_cons_zero, List.set_cons_succ]
    refine wpG_pure (i := 7) (oi := { dst := some 24, op := Go.Op.call { callee := Go.Callee.builtin Go.Builtin.len, args := #[Go.Operand.tmp 23], argTypes := #[29] }, type := 3, pos := "l6_unify.go:48", after := #[{ on := 6, ground := Go.Ground.data }, { on := 3, ground := Go.Ground.guard }], guard := some (3, true) }) (v := ?vg20) rfl (by kernel_rfl) (fun _ _ _ h => h) (Or.inr hHeld) (Or.inl ⟨by rfl, ?yg20⟩) ?_
    case yg20 => (intro wS _; go_simp <;> with_reducible rfl)
    try simp only [Act.put, List.setIfInBounds_toArray, List.set_cons_zero, List.set_cons_succ]
    refine wpG_pure (i := 8) (oi := { dst := some 25, op := Go.Op.binOp Go.BinOp.eql 3 (Go.Operand.tmp 21) (Go.Operand.tmp 24) 3, type := 4, pos := "l6_unify.go:48", after := #[{ on := 4, ground := Go.Ground.data }, { on := 7, ground := Go.Ground.data }, { on := 3, ground := Go.Ground.guard }, { on := 10, ground := Go.Ground.gcOnly Go.Departure.lateStores }], guard := some (3, true) }) (v := ?vg21) rfl (by kernel_rfl) (fun _ _ _ h => h) (Or.inr hHeld) (Or.inl ⟨by rfl, ?yg21⟩) ?_
    case yg21 => (intro wS _; go_simp <;> with_reducible rfl)
    try simp only [Act.put, List.setIfInBounds_toArray, List.set_cons_zero, List.set_cons_succ]
    refine wpG_pure (i := 9) (oi := { dst := some 26, op := Go.Op.pick (Go.Operand.tmp 20) (Go.Operand.tmp 25) (Go.Operand.const (Go.Value.bool false)), type := 4, pos := "l6_unify.go:48", after := #[{ on := 3, ground := Go.Ground.data }, { on := 8, ground := Go.Ground.data }, { on := 10, ground := Go.Ground.gcOnly Go.Departure.lateStores }], guard := none }) (v := ?vg22) rfl (by kernel_rfl) (fun _ _ _ h => h) (Or.inr hHeld) (Or.inl ⟨by rfl, ?yg22⟩) ?_
    case yg22 => (intro wS _; go_simp <;> with_reducible rfl)
    try simp only [Act.put, List.setIfInBounds_toArray, List.set_cons_zero, List.set_cons_succ]
    refine wpG_one (i := 10) (o := { dst := none, op := Go.Op.store 87 (Go.Operand.tmp 2) (Go.Operand.tmp 17), type := 0, pos := "l6_unify.go:48", after := #[{ on := 0, ground := Go.Ground.data }, { on := 3, ground := Go.Ground.chain }, { on := 0, ground := Go.Ground.phase }, { on := 1, ground := Go.Ground.textOnly Go.Departure.lateStores }, { on := 2, ground := Go.Ground.textOnly Go.Departure.lateStores }, { on := 3, ground := Go.Ground.textOnly Go.Departure.lateStores }, { on := 4, ground := Go.Ground.textOnly Go.Departure.lateStores }, { on := 5, ground := Go.Ground.textOnly Go.Departure.lateStores }, { on := 6, ground := Go.Ground.textOnly Go.Departure.lateStores }, { on := 7, ground := Go.Ground.textOnly Go.Departure.lateStoresUnsure }, { on := 8, ground := Go.Ground.textOnly Go.Departure.lateStores }, { on := 9, ground := Go.Ground.textOnly Go.Departure.lateStores }], guard := none }) rfl (by kernel_rfl) (fun K hK => ?_)
    go_simp
    refine hK.out _ _ (Or.inr ?khHeld23) (fun hHeld23S => ?_)
    case khHeld23 => exact ⟨y0, y1, y2, b5⟩
    have hHeld23 := hHeld23S.held (by kernel_rfl)
    clear hK K
    try simp only [Act.put, List.setIfInBounds_toArray, List.set_cons_zero, List.set_cons_succ]
    refine wpG_pure (i := 11) (oi := { dst := some 3, op := Go.Op.assign (Go.Operand.tmp 26), type := 4, pos := "l6_unify.go:48", after := #[{ on := 9, ground := Go.Ground.data }, { on := 10, ground := Go.Ground.chain }, { on := 0, ground := Go.Ground.phase }, { on := 1, ground := Go.Ground.phase }, { on := 2, ground := Go.Ground.phase }, { on := 3, ground := Go.Ground.phase }, { on := 4, ground := Go.Ground.phase }, { on := 5, ground := Go.Ground.phase }, { on := 6, ground := Go.Ground.phase }, { on := 7, ground := Go.Ground.phase }, { on := 8, ground := Go.Ground.phase }, { on := 9, ground := Go.Ground.phase }, { on := 10, ground := Go.Ground.phase }], guard := none }) (v := ?vg24) rfl (by kernel_rfl) (fun _ _ _ h => h) (Or.inr hHeld23) (Or.inl ⟨by rfl, ?yg24⟩) ?_
    case yg24 => (intro wS _; go_simp <;> with_reducible rfl)
    try simp only [Act.put, List.setIfInBounds_toArray, List.set_cons_zero, List.set_cons_succ]
    refine wpG_done (by kernel_rfl) ?_
    go_wp2_with fail
    refine bodyPost_ret (v := .tuple #[.agg #[.int .i64 v1, .string nm1, .slice sa sn sc], .bool ok]) (by simp [results, Try.results57, go_sem, sg0, sg1, sg2]) rfl ?_
    exact ⟨_, _, _, _, _, by rw [HOK.out], HBC.out, HRES.out⟩
end Go.Proofs.Ytlmgckijbamgpaa
