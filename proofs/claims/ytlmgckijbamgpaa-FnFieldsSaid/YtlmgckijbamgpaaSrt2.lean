/- The parts of the stable sort over a row of fields: two ranges change places, a range is turned. -/
import Derived.Test.YtlmgckijbamgpaaSrt1
namespace Go.Proofs.Ytlmgckijbamgpaa
set_option linter.unusedVariables false
set_option linter.unusedSimpArgs false
open Go.ChangeShapes Go.WideShapes Go.ChangeAt Go.RowKit
set_option maxRecDepth 100000

def SwS (L M : List Fld) (a b k : Nat) : Prop := M.length = L.length ∧ ∀ i, M[i]? = if a ≤ i ∧ i < a + k then L[i - a + b]? else if b ≤ i ∧ i < b + k then L[i - b + a]? else L[i]?
theorem SwS.zero (L : List Fld) (a b : Nat) : SwS L L a b 0 := ⟨rfl, fun i => by rw [if_neg (by omega), if_neg (by omega)]⟩
theorem SwS.next {L M : List Fld} {a b k n : Nat} {x y : Fld} (h : SwS L M a b k) (hk : k < n) (hab : a + n ≤ b) (hbl : b + n ≤ L.length) (hx : M[a + k]? = some x) (hy : M[b + k]? = some y) : SwS L ((M.set (a + k) y).set (b + k) x) a b (k + 1) := by
  have ex : L[a + k]? = some x := by have := h.2 (a + k); rw [hx, if_neg (by omega), if_neg (by omega)] at this; exact this.symm
  have ey : L[b + k]? = some y := by have := h.2 (b + k); rw [hy, if_neg (by omega), if_neg (by omega)] at this; exact this.symm
  have hl := h.1
  refine ⟨by simp [hl], fun i => ?_⟩
  by_cases h1 : i = b + k
  · subst h1
    rw [List.getElem?_set_self (by simp; omega), if_neg (by omega), if_pos (by omega), ← ex]
    congr 1; omega
  · rw [List.getElem?_set_ne (fun e => h1 e.symm)]
    by_cases h2 : i = a + k
    · subst h2
      rw [List.getElem?_set_self (by omega), if_pos (by omega), ← ey]
      congr 1; omega
    · rw [List.getElem?_set_ne (fun e => h2 e.symm), h.2]
      repeat' split
      all_goals first | rfl | (exfalso; omega)
def SwO (w0 : World) (g n cap : Nat) (L : List Fld) (a b k : Nat) (e : Ending) (w' : World) : Prop :=
  e = .returned (.tuple #[]) ∧ ∃ M, RowS w0 g n cap M w' ∧ SwS L M a b k
set_option maxHeartbeats 2000000 in
theorem sort_swap (w0 : World) (g n cap : Nat) (L : List Fld) (a b c : Nat) (w : World) (hnc : n ≤ cap) (hcm : cap ≤ 9223372036854775807) (hn : n ≤ 1000000) (hab : a + c ≤ b) (hbn : b + c ≤ n) (hR : RowS w0 g n cap L w) (fv : Value) :
    Calls Try.prog 147 #[.slice (some ⟨g, 0, none⟩) n cap, .int .i64 (a : Int), .int .i64 (b : Int), .int .i64 (c : Int), fv] w (SwO w0 g n cap L a b c) := by
  have HR0 := Lib.hid hR
  clear hR
  unfold SwO
  go_enter Try.func147, Try.ntmps147
  go_wp2_with fail
  go_loopw [10] (fun iv wr => ∃ (k : Nat) (M : List Fld), k ≤ c ∧ iv = .int .i64 (k : Int) ∧ Hid (RowS w0 g n cap M wr) ∧ Hid (SwS L M a b k)) (fun iv _ => c - (intOf iv).toNat)
  case atStart => exact ⟨0, L, by omega, rfl, HR0, Lib.hid (SwS.zero _ _ _)⟩
  case round =>
    obtain ⟨w2, rfl⟩ : ∃ z : World, z = wr := ⟨_, rfl⟩
    obtain ⟨k, M, hk, rfl, HR, HSW⟩ := hrel
    by_cases hkc : k < c
    case neg =>
      obtain rfl : k = c := by omega
      go_wp2_with fail
      first | (refine bodyPost_ret (results_none rfl _ _ _) rfl ?_) | (refine bodyPost_end (results_none rfl _ _ _) rfl ?_)
      exact ⟨rfl, M, HR.out, HSW.out⟩
    have hlM := HR.out.len
    have hlL : L.length = n := by have := HR0.out.len; omega
    obtain ⟨x, hx⟩ := getD_of (L := M) (i := a + k) (by omega)
    obtain ⟨y, hy⟩ := getD_of (L := M) (i := b + k) (by omega)
    have HNX := Lib.hid (HSW.out.next hkc hab (by omega) hx hy)
    obtain ⟨u, hu⟩ : ∃ z, z = a + k := ⟨_, rfl⟩
    obtain ⟨v, hv⟩ : ∃ z, z = b + k := ⟨_, rfl⟩
    rw [← hu] at hx HNX
    rw [← hv] at hy HNX
    have e1 : (a : Int) + (k : Int) = (u : Int) := by omega
    have e2 : (b : Int) + (k : Int) = (v : Int) := by omega
    have e3 : IntKind.i64.wrap (u : Int) = (u : Int) := IntWalk.i64_in _ (by omega)
    have e4 : IntKind.i64.wrap (v : Int) = (v : Int) := IntWalk.i64_in _ (by omega)
    have hun : u < n := by omega
    have hvn : v < n := by omega
    have huv : u < v := by omega
    obtain ⟨x0, x1, x2, x3⟩ := HR.out.at hx
    obtain ⟨y0, y1, y2, y3⟩ := HR.out.at hy
    have hgs := (HR.out.own.lt g rfl).2
    clear hu hv hx hy hlM hlL HSW HR0
    go_wp2_with fail
    replace HR := Lib.hid HR.out.drew
    refine wp_region_G [21] (fun w' => (w'.cell? ⟨g, u * 4, none⟩ = some (.int .i64 x.no) ∧ w'.cell? ⟨g, u * 4 + 1, none⟩ = some (.int .i64 x.kind) ∧ w'.cell? ⟨g, u * 4 + 2, none⟩ = some (.int .i64 x.num) ∧ w'.cell? ⟨g, u * 4 + 3, none⟩ = some (.string x.data)) ∧ w'.cell? ⟨g, v * 4, none⟩ = some (.int .i64 y.no) ∧ w'.cell? ⟨g, v * 4 + 1, none⟩ = some (.int .i64 y.kind) ∧ w'.cell? ⟨g, v * 4 + 2, none⟩ = some (.int .i64 y.num) ∧ w'.cell? ⟨g, v * 4 + 3, none⟩ = some (.string y.data)) (by kernel_rfl) ?_ (fun hHeld => ?_)
    · exact ⟨⟨x0, x1, x2, x3⟩, y0, y1, y2, y3⟩
    refine wpG_pure (i := 0) (oi := { dst := some 16, op := Go.Op.move (Go.Operand.tmp 0), type := 49, pos := "zsortanyfunc.go:331", after := #[], guard := none }) (v := ?vg1) rfl (by kernel_rfl) (fun _ _ _ h => h) (Or.inr hHeld) (Or.inl ⟨by rfl, ?yg1⟩) ?_
    case yg1 => (intro wS _; go_simp <;> with_reducible rfl)
    try simp only [Act.put, List.setIfInBounds_toArray, List.set_cons_zero, List.set_cons_succ]
    refine wpG_pure (i := 1) (oi := { dst := some 17, op := Go.Op.move (Go.Operand.tmp 1), type := 3, pos := "zsortanyfunc.go:331", after := #[], guard := none }) (v := ?vg2) rfl (by kernel_rfl) (fun _ _ _ h => h) (Or.inr hHeld) (Or.inl ⟨by rfl, ?yg2⟩) ?_
    case yg2 => (intro wS _; go_simp <;> with_reducible rfl)
    try simp only [Act.put, List.setIfInBounds_toArray, List.set_cons_zero, List.set_cons_succ]
    refine wpG_pure (i := 2) (oi := { dst := some 18, op := Go.Op.move (Go.Operand.tmp 10), type := 3, pos := "zsortanyfunc.go:331", after := #[], guard := none }) (v := ?vg3) rfl (by kernel_rfl) (fun _ _ _ h => h) (Or.inr hHeld) (Or.inl ⟨by rfl, ?yg3⟩) ?_
    case yg3 => (intro wS _; go_simp <;> with_reducible rfl)
    try simp only [Act.put, List.setIfInBounds_toArray, List.set_cons_zero, List.set_cons_succ]
    refine wpG_pure (i := 3) (oi := { dst := some 19, op := Go.Op.binOp Go.BinOp.add 3 (Go.Operand.tmp 17) (Go.Operand.tmp 18) 3, type := 3, pos := "zsortanyfunc.go:331", after := #[{ on := 1, ground := Go.Ground.data }, { on := 2, ground := Go.Ground.data }], guard := none }) (v := ?vg4) rfl (by kernel_rfl) (fun _ _ _ h => h) (Or.inr hHeld) (Or.inl ⟨by rfl, ?yg4⟩) ?_
    case yg4 => (intro wS _; go_simp <;> with_reducible rfl)
    try simp only [Act.put, List.setIfInBounds_toArray, List.set_cons_zero, List.set_cons_succ]
    refine wpG_pure (i := 4) (oi := { dst := some 20, op := Go.Op.move (Go.Operand.tmp 0), type := 49, pos := "zsortanyfunc.go:331", after := #[{ on := 21, ground := Go.Ground.gcOnly Go.Departure.lateStores }], guard := none }) (v := ?vg5) rfl (by kernel_rfl) (fun _ _ _ h => h) (Or.inr hHeld) (Or.inl ⟨by rfl, ?yg5⟩) ?_
    case yg5 => (intro wS _; go_simp <;> with_reducible rfl)
    try simp only [Act.put, List.setIfInBounds_toArray, List.set_cons_zero, List.set_cons_succ]
    refine wpG_pure (i := 5) (oi := { dst := some 21, op := Go.Op.move (Go.Operand.tmp 2), type := 3, pos := "zsortanyfunc.go:331", after := #[{ on := 21, ground := Go.Ground.gcOnly Go.Departure.lateStores }], guard := none }) (v := ?vg6) rfl (by kernel_rfl) (fun _ _ _ h => h) (Or.inr hHeld) (Or.inl ⟨by rfl, ?yg6⟩) ?_
    case yg6 => (intro wS _; go_simp <;> with_reducible rfl)
    try simp only [Act.put, List.setIfInBounds_toArray, List.set_cons_zero, List.set_cons_succ]
    refine wpG_pure (i := 6) (oi := { dst := some 22, op := Go.Op.move (Go.Operand.tmp 10), type := 3, pos := "zsortanyfunc.go:331", after := #[{ on := 21, ground := Go.Ground.gcOnly Go.Departure.lateStores }], guard := none }) (v := ?vg7) rfl (by kernel_rfl) (fun _ _ _ h => h) (Or.inr hHeld) (Or.inl ⟨by rfl, ?yg7⟩) ?_
    case yg7 => (intro wS _; go_simp <;> with_reducible rfl)
    try simp only [Act.put, List.setIfInBounds_toArray, List.set_cons_zero, List.set_cons_succ]
    refine wpG_pure (i := 7) (oi := { dst := some 23, op := Go.Op.binOp Go.BinOp.add 3 (Go.Operand.tmp 21) (Go.Operand.tmp 22) 3, type := 3, pos := "zsortanyfunc.go:331", after := #[{ on := 5, ground := Go.Ground.data }, { on := 6, ground := Go.Ground.data }, { on := 21, ground := Go.Ground.gcOnly Go.Departure.lateStores }], guard := none }) (v := ?vg8) rfl (by kernel_rfl) (fun _ _ _ h => h) (Or.inr hHeld) (Or.inl ⟨by rfl, ?yg8⟩) ?_
    case yg8 => (intro wS _; go_simp <;> with_reducible rfl)
    try simp only [Act.put, List.setIfInBounds_toArray, List.set_cons_zero, List.set_cons_succ]
    refine wpG_pure (i := 8) (oi := { dst := some 24, op := Go.Op.move (Go.Operand.tmp 0), type := 49, pos := "zsortanyfunc.go:331", after := #[], guard := none }) (v := ?vg9) rfl (by kernel_rfl) (fun _ _ _ h => h) (Or.inr hHeld) (Or.inl ⟨by rfl, ?yg9⟩) ?_
    case yg9 => (intro wS _; go_simp <;> with_reducible rfl)
    try simp only [Act.put, List.setIfInBounds_toArray, List.set_cons_zero, List.set_cons_succ]
    refine wpG_pure (i := 9) (oi := { dst := some 25, op := Go.Op.move (Go.Operand.tmp 2), type := 3, pos := "zsortanyfunc.go:331", after := #[], guard := none }) (v := ?vg10) rfl (by kernel_rfl) (fun _ _ _ h => h) (Or.inr hHeld) (Or.inl ⟨by rfl, ?yg10⟩) ?_
    case yg10 => (intro wS _; go_simp <;> with_reducible rfl)
    try simp only [Act.put, List.setIfInBounds_toArray, List.set_cons_zero, List.set_cons_succ]
    refine wpG_pure (i := 10) (oi := { dst := some 26, op := Go.Op.move (Go.Operand.tmp 10), type := 3, pos := "zsortanyfunc.go:331", after := #[], guard := none }) (v := ?vg11) rfl (by kernel_rfl) (fun _ _ _ h => h) (Or.inr hHeld) (Or.inl ⟨by rfl, ?yg11⟩) ?_
    case yg11 => (intro wS _; go_simp <;> with_reducible rfl)
    try simp only [Act.put, List.setIfInBounds_toArray, List.set_cons_zero, List.set_cons_succ]
    refine wpG_pure (i := 11) (oi := { dst := some 27, op := Go.Op.binOp Go.BinOp.add 3 (Go.Operand.tmp 25) (Go.Operand.tmp 26) 3, type := 3, pos := "zsortanyfunc.go:331", after := #[{ on := 9, ground := Go.Ground.data }, { on := 10, ground := Go.Ground.data }], guard := none }) (v := ?vg12) rfl (by kernel_rfl) (fun _ _ _ h => h) (Or.inr hHeld) (Or.inl ⟨by rfl, ?yg12⟩) ?_
    case yg12 => (intro wS _; go_simp <;> with_reducible rfl)
    try simp only [Act.put, List.setIfInBounds_toArray, List.set_cons_zero, List.set_cons_succ]
    refine wpG_pure (i := 12) (oi := { dst := some 28, op := Go.Op.indexAddr 49 (Go.Operand.tmp 24) (Go.Operand.tmp 27), type := 0, pos := "zsortanyfunc.go:331", after := #[{ on := 8, ground := Go.Ground.data }, { on := 11, ground := Go.Ground.data }], guard := none }) (v := ?vg13) rfl (by kernel_rfl) (fun _ _ _ h => h) (Or.inr hHeld) (Or.inl ⟨by rfl, ?yg13⟩) ?_
    case yg13 => (intro wS _; go_simp <;> with_reducible rfl)
    try simp only [Act.put, List.setIfInBounds_toArray, List.set_cons_zero, List.set_cons_succ]
    refine wpG_load (i := 13) (oi := { dst := some 29, op := Go.Op.load 57 (Go.Operand.tmp 28), type := 57, pos := "zsortanyfunc.go:331", after := #[{ on := 12, ground := Go.Ground.data }], guard := none }) (v := ?vg14) [[21, 13]] rfl (by kernel_rfl) (fun _ _ _ h => h) hHeld (Or.inl ⟨by rfl, ?yg14⟩) ?_
    case yg14 => (intro wS hSw; (try dsimp only at hSw); go_simp <;> with_reducible rfl)
    try simp only [Act.put, List.setIfInBounds_toArray, List.set_cons_zero, List.set_cons_succ]
    refine wpG_pure (i := 14) (oi := { dst := some 30, op := Go.Op.move (Go.Operand.tmp 0), type := 49, pos := "zsortanyfunc.go:331", after := #[], guard := none }) (v := ?vg15) rfl (by kernel_rfl) (fun _ _ _ h => h) (Or.inr hHeld) (Or.inl ⟨by rfl, ?yg15⟩) ?_
    case yg15 => (intro wS _; go_simp <;> with_reducible rfl)
    try simp only [Act.put, List.setIfInBounds_toArray, List.set_cons_zero, List.set_cons_succ]
    refine wpG_pure (i := 15) (oi := { dst := some 31, op := Go.Op.move (Go.Operand.tmp 1), type := 3, pos := "zsortanyfunc.go:331", after := #[], guard := none }) (v := ?vg16) rfl (by kernel_rfl) (fun _ _ _ h => h) (Or.inr hHeld) (Or.inl ⟨by rfl, ?yg16⟩) ?_
    case yg16 => (intro wS _; go_simp <;> with_reducible rfl)
    try simp only [Act.put, List.setIfInBounds_toArray, List.set_cons_zero, List.set_cons_succ]
    refine wpG_pure (i := 16) (oi := { dst := some 32, op := Go.Op.move (Go.Operand.tmp 10), type := 3, pos := "zsortanyfunc.go:331", after := #[], guard := none }) (v := ?vg17) rfl (by kernel_rfl) (fun _ _ _ h => h) (Or.inr hHeld) (Or.inl ⟨by rfl, ?yg17⟩) ?_
    case yg17 => (intro wS _; go_simp <;> with_reducible rfl)
    try simp only [Act.put, List.setIfInBounds_toArray, List.set_cons_zero, List.set_cons_succ]
    refine wpG_pure (i := 17) (oi := { dst := some 33, op := Go.Op.binOp Go.BinOp.add 3 (Go.Operand.tmp 31) (Go.Operand.tmp 32) 3, type := 3, pos := "zsortanyfunc.go:331", after := #[{ on := 15, ground := Go.Ground.data }, { on := 16, ground := Go.Ground.data }], guard := none }) (v := ?vg18) rfl (by kernel_rfl) (fun _ _ _ h => h) (Or.inr hHeld) (Or.inl ⟨by rfl, ?yg18⟩) ?_
    case yg18 => (intro wS _; go_simp <;> with_reducible rfl)
    try simp only [Act.put, List.setIfInBounds_toArray, List.set_cons_zero, List.set_cons_succ]
    refine wpG_pure (i := 18) (oi := { dst := some 34, op := Go.Op.indexAddr 49 (Go.Operand.tmp 30) (Go.Operand.tmp 33), type := 0, pos := "zsortanyfunc.go:331", after := #[{ on := 14, ground := Go.Ground.data }, { on := 17, ground := Go.Ground.data }], guard := none }) (v := ?vg19) rfl (by kernel_rfl) (fun _ _ _ h => h) (Or.inr hHeld) (Or.inl ⟨by rfl, ?yg19⟩) ?_
    case yg19 => (intro wS _; go_simp <;> with_reducible rfl)
    try simp only [Act.put, List.setIfInBounds_toArray, List.set_cons_zero, List.set_cons_succ]
    refine wpG_load (i := 19) (oi := { dst := some 35, op := Go.Op.load 57 (Go.Operand.tmp 34), type := 57, pos := "zsortanyfunc.go:331", after := #[{ on := 18, ground := Go.Ground.data }], guard := none }) (v := ?vg20) [[21, 19]] rfl (by kernel_rfl) (fun _ _ _ h => h) hHeld (Or.inl ⟨by rfl, ?yg20⟩) ?_
    case yg20 => (intro wS hSw; (try dsimp only at hSw); go_simp <;> with_reducible rfl)
    try simp only [Act.put, List.setIfInBounds_toArray, List.set_cons_zero, List.set_cons_succ]
    refine wpG_pure (i := 20) (oi := { dst := some 36, op := Go.Op.indexAddr 49 (Go.Operand.tmp 16) (Go.Operand.tmp 19), type := 0, pos := "zsortanyfunc.go:331", after := #[{ on := 0, ground := Go.Ground.data }, { on := 3, ground := Go.Ground.data }, { on := 0, ground := Go.Ground.phase }, { on := 1, ground := Go.Ground.phase }, { on := 2, ground := Go.Ground.phase }, { on := 3, ground := Go.Ground.phase }, { on := 4, ground := Go.Ground.textOnly Go.Departure.lateStores }, { on := 5, ground := Go.Ground.textOnly Go.Departure.lateStores }, { on := 6, ground := Go.Ground.textOnly Go.Departure.lateStores }, { on := 7, ground := Go.Ground.textOnly Go.Departure.lateStores }, { on := 8, ground := Go.Ground.phase }, { on := 9, ground := Go.Ground.phase }, { on := 10, ground := Go.Ground.phase }, { on := 11, ground := Go.Ground.phase }, { on := 12, ground := Go.Ground.phase }, { on := 13, ground := Go.Ground.phase }, { on := 14, ground := Go.Ground.textOnly Go.Departure.lateStores }, { on := 15, ground := Go.Ground.textOnly Go.Departure.lateStores }, { on := 16, ground := Go.Ground.textOnly Go.Departure.lateStores }, { on := 17, ground := Go.Ground.textOnly Go.Departure.lateStores }, { on := 18, ground := Go.Ground.textOnly Go.Departure.lateStoresUnsure }, { on := 19, ground := Go.Ground.phase }], guard := none }) (v := ?vg21) rfl (by kernel_rfl) (fun _ _ _ h => h) (Or.inr hHeld) (Or.inl ⟨by rfl, ?yg21⟩) ?_
    case yg21 => (intro wS _; go_simp <;> with_reducible rfl)
    try simp only [Act.put, List.setIfInBounds_toArray, List.set_cons_zero, List.set_cons_succ]
    refine wpG_one (i := 21) (o := { dst := none, op := Go.Op.store 57 (Go.Operand.tmp 36) (Go.Operand.tmp 29), type := 0, pos := "zsortanyfunc.go:331", after := #[{ on := 20, ground := Go.Ground.data }, { on := 13, ground := Go.Ground.data }, { on := 0, ground := Go.Ground.phase }, { on := 1, ground := Go.Ground.phase }, { on := 2, ground := Go.Ground.phase }, { on := 3, ground := Go.Ground.phase }, { on := 4, ground := Go.Ground.textOnly Go.Departure.lateStores }, { on := 5, ground := Go.Ground.textOnly Go.Departure.lateStores }, { on := 6, ground := Go.Ground.textOnly Go.Departure.lateStores }, { on := 7, ground := Go.Ground.textOnly Go.Departure.lateStores }, { on := 8, ground := Go.Ground.phase }, { on := 9, ground := Go.Ground.phase }, { on := 10, ground := Go.Ground.phase }, { on := 11, ground := Go.Ground.phase }, { on := 12, ground := Go.Ground.phase }, { on := 13, ground := Go.Ground.phase }, { on := 14, ground := Go.Ground.textOnly Go.Departure.lateStores }, { on := 15, ground := Go.Ground.textOnly Go.Departure.lateStores }, { on := 16, ground := Go.Ground.textOnly Go.Departure.lateStores }, { on := 17, ground := Go.Ground.textOnly Go.Departure.lateStores }, { on := 18, ground := Go.Ground.textOnly Go.Departure.lateStoresUnsure }, { on := 19, ground := Go.Ground.phase }], guard := none }) rfl (by kernel_rfl) (fun K hK => ?_)
    obtain ⟨wA, wB, wC, wD, z0, z1, z2, z3, hA, hB, hC, hD, ⟨⟨p0, q0⟩, ⟨p1, q1⟩, ⟨p2, q2⟩, ⟨p3, q3⟩⟩, hRS⟩ := HR.out.put (k := u) (by omega) y
    go_simp
    replace HR := Lib.hid hRS
    clear hA hB hC hD p0 p1 p2 p3 q0 q1 q2 q3 hRS
    refine hK.out _ _ (Or.inl (by kernel_rfl)) (fun _ => ?_)
    clear hK K
    try simp only [Act.put, List.setIfInBounds_toArray, List.set_cons_zero, List.set_cons_succ]
    refine wpG_pure (i := 22) (oi := { dst := some 37, op := Go.Op.indexAddr 49 (Go.Operand.tmp 20) (Go.Operand.tmp 23), type := 0, pos := "zsortanyfunc.go:331", after := #[{ on := 4, ground := Go.Ground.data }, { on := 7, ground := Go.Ground.data }, { on := 0, ground := Go.Ground.phase }, { on := 1, ground := Go.Ground.phase }, { on := 2, ground := Go.Ground.phase }, { on := 3, ground := Go.Ground.phase }, { on := 4, ground := Go.Ground.phase }, { on := 5, ground := Go.Ground.phase }, { on := 6, ground := Go.Ground.phase }, { on := 7, ground := Go.Ground.phase }, { on := 8, ground := Go.Ground.phase }, { on := 9, ground := Go.Ground.phase }, { on := 10, ground := Go.Ground.phase }, { on := 11, ground := Go.Ground.phase }, { on := 12, ground := Go.Ground.phase }, { on := 13, ground := Go.Ground.phase }, { on := 14, ground := Go.Ground.phase }, { on := 15, ground := Go.Ground.phase }, { on := 16, ground := Go.Ground.phase }, { on := 17, ground := Go.Ground.phase }, { on := 18, ground := Go.Ground.phase }, { on := 19, ground := Go.Ground.phase }, { on := 20, ground := Go.Ground.phase }, { on := 21, ground := Go.Ground.phase }], guard := none }) (v := ?vg23) rfl (by kernel_rfl) (fun _ _ _ h => h) (Or.inl (by kernel_rfl)) (Or.inl ⟨by rfl, ?yg23⟩) ?_
    case yg23 => (intro wS _; go_simp <;> with_reducible rfl)
    try simp only [Act.put, List.setIfInBounds_toArray, List.set_cons_zero, List.set_cons_succ]
    refine wpG_one (i := 23) (o := { dst := none, op := Go.Op.store 57 (Go.Operand.tmp 37) (Go.Operand.tmp 35), type := 0, pos := "zsortanyfunc.go:331", after := #[{ on := 22, ground := Go.Ground.data }, { on := 19, ground := Go.Ground.data }, { on := 21, ground := Go.Ground.chain }, { on := 0, ground := Go.Ground.phase }, { on := 1, ground := Go.Ground.phase }, { on := 2, ground := Go.Ground.phase }, { on := 3, ground := Go.Ground.phase }, { on := 4, ground := Go.Ground.phase }, { on := 5, ground := Go.Ground.phase }, { on := 6, ground := Go.Ground.phase }, { on := 7, ground := Go.Ground.phase }, { on := 8, ground := Go.Ground.phase }, { on := 9, ground := Go.Ground.phase }, { on := 10, ground := Go.Ground.phase }, { on := 11, ground := Go.Ground.phase }, { on := 12, ground := Go.Ground.phase }, { on := 13, ground := Go.Ground.phase }, { on := 14, ground := Go.Ground.phase }, { on := 15, ground := Go.Ground.phase }, { on := 16, ground := Go.Ground.phase }, { on := 17, ground := Go.Ground.phase }, { on := 18, ground := Go.Ground.phase }, { on := 19, ground := Go.Ground.phase }, { on := 20, ground := Go.Ground.phase }, { on := 21, ground := Go.Ground.phase }], guard := none }) rfl (by kernel_rfl) (fun K hK => ?_)
    obtain ⟨wA, wB, wC, wD, z0, z1, z2, z3, hA, hB, hC, hD, ⟨⟨p0, q0⟩, ⟨p1, q1⟩, ⟨p2, q2⟩, ⟨p3, q3⟩⟩, hRS⟩ := HR.out.put (k := v) (by omega) x
    go_simp
    replace HR := Lib.hid hRS
    clear hA hB hC hD p0 p1 p2 p3 q0 q1 q2 q3 hRS
    refine hK.out _ _ (Or.inl (by kernel_rfl)) (fun _ => ?_)
    clear hK K
    try simp only [Act.put, List.setIfInBounds_toArray, List.set_cons_zero, List.set_cons_succ]
    refine wpG_done (by kernel_rfl) ?_
    replace HR := Lib.hid (HR.out.list (M := (M.set u y).set v x) (by first | rfl | exact List.set_comm _ _ (by omega)))
    go_wp2_with fail
    go_roundw
    case rel => exact ⟨k + 1, _, by omega, by go_num, HR, HNX⟩
    case measure => simp [intOf]; omega
/-- turned: what lies from m up to b comes ahead of what lies from a up to m -/
def RtS (L M : List Fld) (a m b : Nat) : Prop := M.length = L.length ∧ ∀ t, M[t]? = if a ≤ t ∧ t < a + (b - m) then L[t - a + m]? else if a + (b - m) ≤ t ∧ t < b then L[t - (b - m)]? else L[t]?
theorem rt_a {L M N : List Fld} {a m b i j : Nat} (h : ∀ T, RtS M T (m - i) m (m + j) → RtS L T a m b) (hs : SwS M N (m - i) m j) (hij : j < i) (him : i ≤ m) : ∀ T, RtS N T (m - (i - j)) m (m + j) → RtS L T a m b := by
  intro T hT
  refine h T ⟨by rw [hT.1, hs.1], fun t => ?_⟩
  rw [hT.2, hs.2, hs.2, hs.2]
  repeat' split
  all_goals first | rfl | (exfalso; omega) | (congr 1; omega)
theorem rt_b {L M N : List Fld} {a m b i j : Nat} (h : ∀ T, RtS M T (m - i) m (m + j) → RtS L T a m b) (hs : SwS M N (m - i) (m + j - i) i) (hij : i < j) (him : i ≤ m) : ∀ T, RtS N T (m - i) m (m + (j - i)) → RtS L T a m b := by
  intro T hT
  refine h T ⟨by rw [hT.1, hs.1], fun t => ?_⟩
  rw [hT.2, hs.2, hs.2, hs.2]
  repeat' split
  all_goals first | rfl | (exfalso; omega) | (congr 1; omega)
theorem rt_c {L M N : List Fld} {a m b i : Nat} (h : ∀ T, RtS M T (m - i) m (m + i) → RtS L T a m b) (hs : SwS M N (m - i) m i) (him : i ≤ m) : RtS L N a m b := by
  refine h N ⟨hs.1, fun t => ?_⟩
  rw [hs.2]
  repeat' split
  all_goals first | rfl | (exfalso; omega) | (congr 1; omega)
def RtO (w0 : World) (g n cap : Nat) (L : List Fld) (a m b : Nat) (e : Ending) (w' : World) : Prop :=
  e = .returned (.tuple #[]) ∧ ∃ M, RowS w0 g n cap M w' ∧ RtS L M a m b
set_option maxHeartbeats 2000000 in
theorem sort_rotate (w0 : World) (g n cap : Nat) (L : List Fld) (a m b : Nat) (w : World) (hnc : n ≤ cap) (hcm : cap ≤ 9223372036854775807) (hn : n ≤ 1000000) (ham : a < m) (hmb : m < b) (hbn : b ≤ n) (hR : RowS w0 g n cap L w) (fv : Value) :
    Calls Try.prog 146 #[.slice (some ⟨g, 0, none⟩) n cap, .int .i64 (a : Int), .int .i64 (m : Int), .int .i64 (b : Int), fv] w (RtO w0 g n cap L a m b) := by
  have HR0 := Lib.hid hR
  clear hR
  unfold RtO
  have i1 : (m : Int) - (a : Int) = ((m - a : Nat) : Int) := by omega
  have i2 : (b : Int) - (m : Int) = ((b - m : Nat) : Int) := by omega
  go_enter Try.func146, Try.ntmps146
  go_wp2_with fail
  go_loopw [10, 11] (fun iv jv wr => ∃ (i j : Nat) (M : List Fld), 0 < i ∧ 0 < j ∧ i ≤ m ∧ m + j ≤ n ∧ iv = .int .i64 (i : Int) ∧ jv = .int .i64 (j : Int) ∧ Hid (RowS w0 g n cap M wr) ∧ Hid (∀ T, RtS M T (m - i) m (m + j) → RtS L T a m b)) (fun iv jv _ => (intOf iv).toNat + (intOf jv).toNat)
  case atStart => exact ⟨m - a, b - m, L, by omega, by omega, by omega, by omega, by go_num, by go_num, HR0, Lib.hid (fun T h => by rwa [show m - (m - a) = a by omega, show m + (b - m) = b by omega] at h)⟩
  case round =>
    clear HR0
    obtain ⟨w2, rfl⟩ : ∃ z : World, z = wr := ⟨_, rfl⟩
    obtain ⟨i, j, M, hi0, hj0, him, hjn, rfl, rfl, HR, HT⟩ := hrel
    obtain ⟨s, hs⟩ : ∃ z, z = m - i := ⟨_, rfl⟩
    have q1 : (m : Int) - (i : Int) = (s : Int) := by omega
    have HSE := Lib.hid hs
    have hsj : s + i = m := by omega
    clear hs
    by_cases hij : i = j
    · subst hij
      have HS := Lib.hid (sort_swap w0 g n cap M s m i w2 hnc hcm hn (by omega) (by omega) HR.out fv)
      have hne : ((i : Int) != (i : Int)) = false := by simp
      unfold SwO at HS
      go_wp2_with fail
      refine HS.out.mono ?_
      rintro e w3 ⟨rfl, N, hrn, hsn⟩
      have HRN := Lib.hid hrn
      have HFN := Lib.hid (rt_c HT.out (by rw [← HSE.out]; exact hsn) him)
      clear hrn hsn
      go_wp2_with fail
      first | (refine bodyPost_ret (results_none rfl _ _ _) rfl ?_) | (refine bodyPost_end (results_none rfl _ _ _) rfl ?_)
      exact ⟨rfl, N, HRN.out, HFN.out⟩
    have hne : ((i : Int) == (j : Int)) = false := beq_eq_false_iff_ne.2 (by omega)
    by_cases hgt : j < i
    · have hgi : (i : Int) > (j : Int) := by omega
      have HS := Lib.hid (sort_swap w0 g n cap M s m j w2 hnc hcm hn (by omega) (by omega) HR.out fv)
      unfold SwO at HS
      go_wp2_with fail
      refine HS.out.mono ?_
      rintro e w3 ⟨rfl, N, hrn, hsn⟩
      have HRN := Lib.hid hrn
      have HFN := Lib.hid (rt_a HT.out (by rw [← HSE.out]; exact hsn) hgt him)
      clear hrn hsn
      go_wp2_with fail
      go_roundw
      case rel => exact ⟨i - j, j, N, by omega, hj0, by omega, hjn, by go_num, rfl, HRN, HFN⟩
      case measure => simp [intOf]; omega
    · have hgi : ¬ (i : Int) > (j : Int) := by omega
      obtain ⟨t, ht⟩ : ∃ z, z = m + j - i := ⟨_, rfl⟩
      have q2 : (m : Int) + (j : Int) - (i : Int) = (t : Int) := by omega
      have HTE := Lib.hid ht
      have htj : t + i = m + j := by omega
      clear ht
      have HS := Lib.hid (sort_swap w0 g n cap M s t i w2 hnc hcm hn (by omega) (by omega) HR.out fv)
      unfold SwO at HS
      go_wp2_with fail
      refine HS.out.mono ?_
      rintro e w3 ⟨rfl, N, hrn, hsn⟩
      have HRN := Lib.hid hrn
      have HFN := Lib.hid (rt_b HT.out (by rw [← HSE.out, ← HTE.out]; exact hsn) (by omega) him)
      clear hrn hsn
      go_wp2_with fail
      go_roundw
      case rel => exact ⟨i, j - i, N, hi0, by omega, him, by omega, rfl, by go_num, HRN, HFN⟩
      case measure => simp [intOf]; omega
end Go.Proofs.Ytlmgckijbamgpaa
