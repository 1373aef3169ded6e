/- What both of two trees tell: the program, lists. -/
import Derived.Test.YtmlnecopbncdbaaMtS
import Derived.Test.YtmlnecopbncdbaaTyI
namespace Go.Proofs.Ytmlnecopbncdbaa
set_option linter.unusedVariables false
set_option linter.unusedSimpArgs false
open Go.ChangeShapes Go.WideShapes Go.ChangeAt Go.RowKit
set_option maxRecDepth 100000

set_option maxHeartbeats 1000000 in
theorem impl_byNo {S : Nat → Prop} {w : World} {base B : Nat} {p0 p1 p2 p3 p4 : Value} {ts : List Tr} {a : Option Addr} {n c : Nat} {vs : List Value} (hX : w.heap[B]? = some (.cells #[p0, p1, p2, p3, p4, .slice a n c] 103)) (ho : w.ownsRow base 65 1 (.slice a n c) ts.length vs) (hk : KPs S w ts vs) (hS : ∀ q, S q → (Value.slice a n c).ownBlock ≠ some q) (hl : ts.length ≤ 1048576) :
    Calls Try.prog 71 #[.pointer (some ⟨B, 0, none⟩)] w (SortO S base ts (.slice a n c) w) := by
  have HS := Lib.hid (sort_parts ho hk hS hl)
  unfold SortO at HS ⊢
  obtain ⟨x0, x1, x2, x3, x4, x5⟩ := box6 hX
  clear hX ho hk hS
  go_enter Try.func71, Try.ntmps71
  go_wp2_with fail
  refine HS.out.mono ?_
  rintro e w' ⟨rfl, us, vs', h1, h2, h3, h4, h5⟩
  have H1 := Lib.hid h1
  have H2 := Lib.hid h2
  have H3 := Lib.hid h3
  have H4 := Lib.hid h4
  have H5 := Lib.hid h5
  clear h1 h2 h3 h4 h5
  go_wp2_with fail
  go_end0
  exact ⟨rfl, us, vs', H1.out, H2.out, H3.out, H4.out, H5.out⟩
/-- what the program tells of both -/
def MeetP (S : Nat → Prop) (a b : Tr) (w : World) (e : Ending) (w' : World) : Prop :=
  ∃ p : Option Addr, e = .returned (.pointer p) ∧ Below w.heap.size w w' ∧ ((meetT a b = none ∧ p = none) ∨ (∃ t g, meetT a b = some t ∧ p = some ⟨g, 0, none⟩ ∧ KP (fun q => S q ∨ w.heap.size ≤ q) w' t (.pointer p)))
set_option maxHeartbeats 2000000 in
theorem imeet_ne {S : Nat → Prop} {w : World} {a b : Tr} {pa pb : Value} (ha : KP S w a pa) (hb : KP S w b pb) (hk : ¬ a.kind = b.kind) : Calls Try.prog 39 #[pa, pb] w fun e w' => e = .returned (.pointer none) ∧ Below w.heap.size w w' := by
  obtain ⟨bx, va, ca, vs, rfl, -, -, hc, -⟩ := ha.open
  obtain ⟨bY, vb, cb, vs', rfl, -, -, hc', -⟩ := hb.open
  obtain ⟨x0, x1, x2, x3, x4, x5⟩ := box6 hc
  obtain ⟨y0, y1, y2, y3, y4, y5⟩ := box6 hc'
  have nk : (a.kind != b.kind) = true := bne_iff_ne.2 hk
  clear hc hc' ha hb hk
  go_enter Try.func39, Try.ntmps39
  go_wp2_with fail
  refine wp_region_G [] (fun w' => w'.cell? ⟨bx, 0, none⟩ = some (.int .i64 a.kind) ∧ w'.cell? ⟨bY, 0, none⟩ = some (.int .i64 b.kind)) (by kernel_rfl) ?_ (fun hHeld => ?_)
  · exact ⟨x0, y0⟩
  refine wpG_pure (i := 0) (oi := { dst := some 12, op := Go.Op.move (Go.Operand.tmp 0), type := 65, pos := "l2_type.go:219", after := #[], guard := none }) (v := ?vg1) rfl (by kernel_rfl) (fun _ _ _ h => h) (Or.inr hHeld) (Or.inl ⟨by rfl, ?yg1⟩) ?_
  case yg1 => (intro wS _; go_simp <;> with_reducible rfl)
  try simp only [Act.put, List.setIfInBounds_toArray, List.set_cons_zero, List.set_cons_succ]
  refine wpG_pure (i := 1) (oi := { dst := some 13, op := Go.Op.nilCheck (Go.Operand.tmp 12), type := 0, pos := "l2_type.go:219", after := #[{ on := 0, ground := Go.Ground.data }], guard := none }) (v := ?vg2) rfl (by kernel_rfl) (fun _ _ _ h => h) (Or.inr hHeld) (Or.inl ⟨by rfl, ?yg2⟩) ?_
  case yg2 => (intro wS _; go_simp <;> with_reducible rfl)
  try simp only [Act.put, List.setIfInBounds_toArray, List.set_cons_zero, List.set_cons_succ]
  refine wpG_pure (i := 2) (oi := { dst := some 14, op := Go.Op.fieldAddr 103 (Go.Operand.tmp 13) 0, type := 0, pos := "l2_type.go:219", after := #[{ on := 1, ground := Go.Ground.data }], guard := none }) (v := ?vg3) rfl (by kernel_rfl) (fun _ _ _ h => h) (Or.inr hHeld) (Or.inl ⟨by rfl, ?yg3⟩) ?_
  case yg3 => (intro wS _; go_simp <;> with_reducible rfl)
  try simp only [Act.put, List.setIfInBounds_toArray, List.set_cons_zero, List.set_cons_succ]
  refine wpG_load (i := 3) (oi := { dst := some 15, op := Go.Op.load 3 (Go.Operand.tmp 14), type := 3, pos := "l2_type.go:219", after := #[{ on := 2, ground := Go.Ground.data }], guard := none }) (v := ?vg4) [] rfl (by kernel_rfl) (fun _ _ _ h => h) hHeld (Or.inl ⟨by rfl, ?yg4⟩) ?_
  case yg4 => (intro wS hSw; (try dsimp only at hSw); go_simp <;> with_reducible rfl)
  try simp only [Act.put, List.setIfInBounds_toArray, List.set_cons_zero, List.set_cons_succ]
  refine wpG_pure (i := 4) (oi := { dst := some 16, op := Go.Op.move (Go.Operand.tmp 1), type := 65, pos := "l2_type.go:219", after := #[], guard := none }) (v := ?vg5) rfl (by kernel_rfl) (fun _ _ _ h => h) (Or.inr hHeld) (Or.inl ⟨by rfl, ?yg5⟩) ?_
  case yg5 => (intro wS _; go_simp <;> with_reducible rfl)
  try simp only [Act.put, List.setIfInBounds_toArray, List.set_cons_zero, List.set_cons_succ]
  refine wpG_pure (i := 5) (oi := { dst := some 17, op := Go.Op.nilCheck (Go.Operand.tmp 16), type := 0, pos := "l2_type.go:219", after := #[{ on := 4, ground := Go.Ground.data }], guard := none }) (v := ?vg6) rfl (by kernel_rfl) (fun _ _ _ h => h) (Or.inr hHeld) (Or.inl ⟨by rfl, ?yg6⟩) ?_
  case yg6 => (intro wS _; go_simp <;> with_reducible rfl)
  try simp only [Act.put, List.setIfInBounds_toArray, List.set_cons_zero, List.set_cons_succ]
  refine wpG_pure (i := 6) (oi := { dst := some 18, op := Go.Op.fieldAddr 103 (Go.Operand.tmp 17) 0, type := 0, pos := "l2_type.go:219", after := #[{ on := 5, ground := Go.Ground.data }], guard := none }) (v := ?vg7) rfl (by kernel_rfl) (fun _ _ _ h => h) (Or.inr hHeld) (Or.inl ⟨by rfl, ?yg7⟩) ?_
  case yg7 => (intro wS _; go_simp <;> with_reducible rfl)
  try simp only [Act.put, List.setIfInBounds_toArray, List.set_cons_zero, List.set_cons_succ]
  refine wpG_load (i := 7) (oi := { dst := some 19, op := Go.Op.load 3 (Go.Operand.tmp 18), type := 3, pos := "l2_type.go:219", after := #[{ on := 6, ground := Go.Ground.data }], guard := none }) (v := ?vg8) [] rfl (by kernel_rfl) (fun _ _ _ h => h) hHeld (Or.inl ⟨by rfl, ?yg8⟩) ?_
  case yg8 => (intro wS hSw; (try dsimp only at hSw); go_simp <;> with_reducible rfl)
  try simp only [Act.put, List.setIfInBounds_toArray, List.set_cons_zero, List.set_cons_succ]
  refine wpG_pure (i := 8) (oi := { dst := some 20, op := Go.Op.binOp Go.BinOp.neq 3 (Go.Operand.tmp 15) (Go.Operand.tmp 19) 3, type := 4, pos := "l2_type.go:219", after := #[{ on := 3, ground := Go.Ground.data }, { on := 7, ground := Go.Ground.data }], guard := none }) (v := ?vg9) rfl (by kernel_rfl) (fun _ _ _ h => h) (Or.inr hHeld) (Or.inl ⟨by rfl, ?yg9⟩) ?_
  case yg9 => (intro wS _; go_simp <;> with_reducible rfl)
  try simp only [Act.put, List.setIfInBounds_toArray, List.set_cons_zero, List.set_cons_succ]
  refine wpG_done (by kernel_rfl) ?_
  go_wp2_with fail
  go_ret
  exact ⟨rfl, (Below.refl _ _).drew⟩

set_option maxHeartbeats 4000000 in
theorem imeet_lst_t {S : Nat → Prop} {w : World} {bx bY : Nat} (nm nm' : ByteArray) (no no' : Int) (m' : Bool) (mo mo' : Int) (x y : Tr) (k k' : Int) (hk : k = 4) (hk' : k' = 4) (ks us : List Tr) (hks : ks = [x]) (hus : us = [y]) {va vb : Option Addr} {ca cb : Nat} {vsa vsb : List Value} (hX : w.heap[bx]? = some (.cells #[.int .i64 k, .string nm, .int .i64 no, .bool true, .int .i64 mo, .slice va ks.length ca] 103)) (hY : w.heap[bY]? = some (.cells #[.int .i64 k', .string nm', .int .i64 no', .bool m', .int .i64 mo', .slice vb us.length cb] 103)) (hnm : nm.size ≤ maxLen) (hca : ks.length ≤ ca) (hcam : ca ≤ 9223372036854775807) (hcb : us.length ≤ cb) (hcbm : cb ≤ 9223372036854775807) (hra : RS S w va vsa) (hka : KPs S w ks vsa) (hrb : RS S w vb vsb) (hkb : KPs S w us vsb)
    (IH : ∀ (S' : Nat → Prop) (wx : World) (px py : Value), KP S' wx x px → KP S' wx y py → Calls Try.prog 39 #[px, py] wx (MeetP S' x y wx)) :
    Calls Try.prog 39 #[.pointer (some ⟨bx, 0, none⟩), .pointer (some ⟨bY, 0, none⟩)] w (MeetP S (.node k nm no true mo ks) (.node k' nm' no' m' mo' us) w) := by
  have HT := Lib.hid (meetT_lst (a := .node k nm no true mo ks) (b := .node k' nm' no' m' mo' us) (hk.trans hk'.symm) hk hks hus)
  have nk : (k != k') = false := by rw [hk, hk']; decide
  have n4 : (k == 4) = true := by rw [hk]; decide
  have HIH := Lib.hid IH
  have hxi : ks[0]? = some x := by rw [hks]; rfl
  have hyi : us[0]? = some y := by rw [hus]; rfl
  have HRA := Lib.hid hra; have HKA := Lib.hid hka; have HRB := Lib.hid hrb; have HKB := Lib.hid hkb
  clear hk hk' hks hus IH hra hka hrb hkb
  obtain ⟨x0, x1, x2, x3, x4, x5⟩ := box6 hX
  obtain ⟨y0, y1, y2, y3, y4, y5⟩ := box6 hY
  have HX := Lib.hid hX
  have HY := Lib.hid hY
  clear hX hY
  go_enter Try.func39, Try.ntmps39
  go_wp2_with fail
  refine wp_region_G [] (fun w' => w'.cell? ⟨bx, 0, none⟩ = some (.int .i64 k) ∧ w'.cell? ⟨bY, 0, none⟩ = some (.int .i64 k')) (by kernel_rfl) ?_ (fun hHeld => ?_)
  · exact ⟨x0, y0⟩
  refine wpG_pure (i := 0) (oi := { dst := some 12, op := Go.Op.move (Go.Operand.tmp 0), type := 65, pos := "l2_type.go:219", after := #[], guard := none }) (v := ?vg10) rfl (by kernel_rfl) (fun _ _ _ h => h) (Or.inr hHeld) (Or.inl ⟨by rfl, ?yg10⟩) ?_
  case yg10 => (intro wS _; go_simp <;> with_reducible rfl)
  try simp only [Act.put, List.setIfInBounds_toArray, List.set_cons_zero, List.set_cons_succ]
  refine wpG_pure (i := 1) (oi := { dst := some 13, op := Go.Op.nilCheck (Go.Operand.tmp 12), type := 0, pos := "l2_type.go:219", after := #[{ on := 0, ground := Go.Ground.data }], guard := none }) (v := ?vg11) rfl (by kernel_rfl) (fun _ _ _ h => h) (Or.inr hHeld) (Or.inl ⟨by rfl, ?yg11⟩) ?_
  case yg11 => (intro wS _; go_simp <;> with_reducible rfl)
  try simp only [Act.put, List.setIfInBounds_toArray, List.set_cons_zero, List.set_cons_succ]
  refine wpG_pure (i := 2) (oi := { dst := some 14, op := Go.Op.fieldAddr 103 (Go.Operand.tmp 13) 0, type := 0, pos := "l2_type.go:219", after := #[{ on := 1, ground := Go.Ground.data }], guard := none }) (v := ?vg12) rfl (by kernel_rfl) (fun _ _ _ h => h) (Or.inr hHeld) (Or.inl ⟨by rfl, ?yg12⟩) ?_
  case yg12 => (intro wS _; go_simp <;> with_reducible rfl)
  try simp only [Act.put, List.setIfInBounds_toArray, List.set_cons_zero, List.set_cons_succ]
  refine wpG_load (i := 3) (oi := { dst := some 15, op := Go.Op.load 3 (Go.Operand.tmp 14), type := 3, pos := "l2_type.go:219", after := #[{ on := 2, ground := Go.Ground.data }], guard := none }) (v := ?vg13) [] rfl (by kernel_rfl) (fun _ _ _ h => h) hHeld (Or.inl ⟨by rfl, ?yg13⟩) ?_
  case yg13 => (intro wS hSw; (try dsimp only at hSw); go_simp <;> with_reducible rfl)
  try simp only [Act.put, List.setIfInBounds_toArray, List.set_cons_zero, List.set_cons_succ]
  refine wpG_pure (i := 4) (oi := { dst := some 16, op := Go.Op.move (Go.Operand.tmp 1), type := 65, pos := "l2_type.go:219", after := #[], guard := none }) (v := ?vg14) rfl (by kernel_rfl) (fun _ _ _ h => h) (Or.inr hHeld) (Or.inl ⟨by rfl, ?yg14⟩) ?_
  case yg14 => (intro wS _; go_simp <;> with_reducible rfl)
  try simp only [Act.put, List.setIfInBounds_toArray, List.set_cons_zero, List.set_cons_succ]
  refine wpG_pure (i := 5) (oi := { dst := some 17, op := Go.Op.nilCheck (Go.Operand.tmp 16), type := 0, pos := "l2_type.go:219", after := #[{ on := 4, ground := Go.Ground.data }], guard := none }) (v := ?vg15) rfl (by kernel_rfl) (fun _ _ _ h => h) (Or.inr hHeld) (Or.inl ⟨by rfl, ?yg15⟩) ?_
  case yg15 => (intro wS _; go_simp <;> with_reducible rfl)
  try simp only [Act.put, List.setIfInBounds_toArray, List.set_cons_zero, List.set_cons_succ]
  refine wpG_pure (i := 6) (oi := { dst := some 18, op := Go.Op.fieldAddr 103 (Go.Operand.tmp 17) 0, type := 0, pos := "l2_type.go:219", after := #[{ on := 5, ground := Go.Ground.data }], guard := none }) (v := ?vg16) rfl (by kernel_rfl) (fun _ _ _ h => h) (Or.inr hHeld) (Or.inl ⟨by rfl, ?yg16⟩) ?_
  case yg16 => (intro wS _; go_simp <;> with_reducible rfl)
  try simp only [Act.put, List.setIfInBounds_toArray, List.set_cons_zero, List.set_cons_succ]
  refine wpG_load (i := 7) (oi := { dst := some 19, op := Go.Op.load 3 (Go.Operand.tmp 18), type := 3, pos := "l2_type.go:219", after := #[{ on := 6, ground := Go.Ground.data }], guard := none }) (v := ?vg17) [] rfl (by kernel_rfl) (fun _ _ _ h => h) hHeld (Or.inl ⟨by rfl, ?yg17⟩) ?_
  case yg17 => (intro wS hSw; (try dsimp only at hSw); go_simp <;> with_reducible rfl)
  try simp only [Act.put, List.setIfInBounds_toArray, List.set_cons_zero, List.set_cons_succ]
  refine wpG_pure (i := 8) (oi := { dst := some 20, op := Go.Op.binOp Go.BinOp.neq 3 (Go.Operand.tmp 15) (Go.Operand.tmp 19) 3, type := 4, pos := "l2_type.go:219", after := #[{ on := 3, ground := Go.Ground.data }, { on := 7, ground := Go.Ground.data }], guard := none }) (v := ?vg18) rfl (by kernel_rfl) (fun _ _ _ h => h) (Or.inr hHeld) (Or.inl ⟨by rfl, ?yg18⟩) ?_
  case yg18 => (intro wS _; go_simp <;> with_reducible rfl)
  try simp only [Act.put, List.setIfInBounds_toArray, List.set_cons_zero, List.set_cons_succ]
  refine wpG_done (by kernel_rfl) ?_
  have hb1 := (Below.refl w.heap.size w).drew
  generalize hw1 : w.drew = w1 at *
  have HX := Lib.hid (hp_later hb1 HX.out)
  have HY := Lib.hid (hp_later hb1 HY.out)
  have hz1 := hb1.size
  have HB1 := Lib.hid hb1
  clear hb1 x0 x1 x2 x3 x4 x5 y0 y1 y2 y3 y4 y5
  obtain ⟨x0, x1, x2, x3, x4, x5⟩ := box6 HX.out
  obtain ⟨y0, y1, y2, y3, y4, y5⟩ := box6 HY.out
  go_wp2_with fail
  refine wp_region_G [] (fun w' => w'.cell? ⟨bx, 0, none⟩ = some (.int .i64 k) ∧ w'.cell? ⟨bx, 1, none⟩ = some (.string nm) ∧ w'.cell? ⟨bx, 2, none⟩ = some (.int .i64 no) ∧ w'.cell? ⟨bx, 3, none⟩ = some (.bool true) ∧ w'.cell? ⟨bx, 4, none⟩ = some (.int .i64 mo) ∧ w'.cell? ⟨bY, 3, none⟩ = some (.bool m') ∧ w'.cell? ⟨bY, 4, none⟩ = some (.int .i64 mo')) (by kernel_rfl) ?_ (fun hHeld => ?_)
  · exact ⟨x0, x1, x2, x3, x4, y3, y4⟩
  refine wpG_pure (i := 0) (oi := { dst := some 21, op := Go.Op.move (Go.Operand.tmp 0), type := 65, pos := "l2_type.go:222", after := #[], guard := none }) (v := ?vg19) rfl (by kernel_rfl) (fun _ _ _ h => h) (Or.inr hHeld) (Or.inl ⟨by rfl, ?yg19⟩) ?_
  case yg19 => (intro wS _; go_simp <;> with_reducible rfl)
  try simp only [Act.put, List.setIfInBounds_toArray, List.set_cons_zero, List.set_cons_succ]
  refine wpG_pure (i := 1) (oi := { dst := some 22, op := Go.Op.nilCheck (Go.Operand.tmp 21), type := 0, pos := "l2_type.go:222", after := #[{ on := 0, ground := Go.Ground.data }], guard := none }) (v := ?vg20) rfl (by kernel_rfl) (fun _ _ _ h => h) (Or.inr hHeld) (Or.inl ⟨by rfl, ?yg20⟩) ?_
  case yg20 => (intro wS _; go_simp <;> with_reducible rfl)
  try simp only [Act.put, List.setIfInBounds_toArray, List.set_cons_zero, List.set_cons_succ]
  refine wpG_pure (i := 2) (oi := { dst := some 23, op := Go.Op.fieldAddr 103 (Go.Operand.tmp 22) 0, type := 0, pos := "l2_type.go:222", after := #[{ on := 1, ground := Go.Ground.data }], guard := none }) (v := ?vg21) rfl (by kernel_rfl) (fun _ _ _ h => h) (Or.inr hHeld) (Or.inl ⟨by rfl, ?yg21⟩) ?_
  case yg21 => (intro wS _; go_simp <;> with_reducible rfl)
  try simp only [Act.put, List.setIfInBounds_toArray, List.set_cons_zero, List.set_cons_succ]
  refine wpG_load (i := 3) (oi := { dst := some 24, op := Go.Op.load 3 (Go.Operand.tmp 23), type := 3, pos := "l2_type.go:222", after := #[{ on := 2, ground := Go.Ground.data }], guard := none }) (v := ?vg22) [] rfl (by kernel_rfl) (fun _ _ _ h => h) hHeld (Or.inl ⟨by rfl, ?yg22⟩) ?_
  case yg22 => (intro wS hSw; (try dsimp only at hSw); go_simp <;> with_reducible rfl)
  try simp only [Act.put, List.setIfInBounds_toArray, List.set_cons_zero, List.set_cons_succ]
  refine wpG_pure (i := 4) (oi := { dst := some 25, op := Go.Op.move (Go.Operand.tmp 0), type := 65, pos := "l2_type.go:222", after := #[], guard := none }) (v := ?vg23) rfl (by kernel_rfl) (fun _ _ _ h => h) (Or.inr hHeld) (Or.inl ⟨by rfl, ?yg23⟩) ?_
  case yg23 => (intro wS _; go_simp <;> with_reducible rfl)
  try simp only [Act.put, List.setIfInBounds_toArray, List.set_cons_zero, List.set_cons_succ]
  refine wpG_pure (i := 5) (oi := { dst := some 26, op := Go.Op.nilCheck (Go.Operand.tmp 25), type := 0, pos := "l2_type.go:222", after := #[{ on := 4, ground := Go.Ground.data }], guard := none }) (v := ?vg24) rfl (by kernel_rfl) (fun _ _ _ h => h) (Or.inr hHeld) (Or.inl ⟨by rfl, ?yg24⟩) ?_
  case yg24 => (intro wS _; go_simp <;> with_reducible rfl)
  try simp only [Act.put, List.setIfInBounds_toArray, List.set_cons_zero, List.set_cons_succ]
  refine wpG_pure (i := 6) (oi := { dst := some 27, op := Go.Op.fieldAddr 103 (Go.Operand.tmp 26) 1, type := 0, pos := "l2_type.go:222", after := #[{ on := 5, ground := Go.Ground.data }], guard := none }) (v := ?vg25) rfl (by kernel_rfl) (fun _ _ _ h => h) (Or.inr hHeld) (Or.inl ⟨by rfl, ?yg25⟩) ?_
  case yg25 => (intro wS _; go_simp <;> with_reducible rfl)
  try simp only [Act.put, List.setIfInBounds_toArray, List.set_cons_zero, List.set_cons_succ]
  refine wpG_load (i := 7) (oi := { dst := some 28, op := Go.Op.load 9 (Go.Operand.tmp 27), type := 9, pos := "l2_type.go:222", after := #[{ on := 6, ground := Go.Ground.data }], guard := none }) (v := ?vg26) [] rfl (by kernel_rfl) (fun _ _ _ h => h) hHeld (Or.inl ⟨by rfl, ?yg26⟩) ?_
  case yg26 => (intro wS hSw; (try dsimp only at hSw); go_simp <;> with_reducible rfl)
  try simp only [Act.put, List.setIfInBounds_toArray, List.set_cons_zero, List.set_cons_succ]
  refine wpG_pure (i := 8) (oi := { dst := some 29, op := Go.Op.move (Go.Operand.tmp 0), type := 65, pos := "l2_type.go:222", after := #[], guard := none }) (v := ?vg27) rfl (by kernel_rfl) (fun _ _ _ h => h) (Or.inr hHeld) (Or.inl ⟨by rfl, ?yg27⟩) ?_
  case yg27 => (intro wS _; go_simp <;> with_reducible rfl)
  try simp only [Act.put, List.setIfInBounds_toArray, List.set_cons_zero, List.set_cons_succ]
  refine wpG_pure (i := 9) (oi := { dst := some 30, op := Go.Op.nilCheck (Go.Operand.tmp 29), type := 0, pos := "l2_type.go:222", after := #[{ on := 8, ground := Go.Ground.data }], guard := none }) (v := ?vg28) rfl (by kernel_rfl) (fun _ _ _ h => h) (Or.inr hHeld) (Or.inl ⟨by rfl, ?yg28⟩) ?_
  case yg28 => (intro wS _; go_simp <;> with_reducible rfl)
  try simp only [Act.put, List.setIfInBounds_toArray, List.set_cons_zero, List.set_cons_succ]
  refine wpG_pure (i := 10) (oi := { dst := some 31, op := Go.Op.fieldAddr 103 (Go.Operand.tmp 30) 2, type := 0, pos := "l2_type.go:222", after := #[{ on := 9, ground := Go.Ground.data }], guard := none }) (v := ?vg29) rfl (by kernel_rfl) (fun _ _ _ h => h) (Or.inr hHeld) (Or.inl ⟨by rfl, ?yg29⟩) ?_
  case yg29 => (intro wS _; go_simp <;> with_reducible rfl)
  try simp only [Act.put, List.setIfInBounds_toArray, List.set_cons_zero, List.set_cons_succ]
  refine wpG_load (i := 11) (oi := { dst := some 32, op := Go.Op.load 3 (Go.Operand.tmp 31), type := 3, pos := "l2_type.go:222", after := #[{ on := 10, ground := Go.Ground.data }], guard := none }) (v := ?vg30) [] rfl (by kernel_rfl) (fun _ _ _ h => h) hHeld (Or.inl ⟨by rfl, ?yg30⟩) ?_
  case yg30 => (intro wS hSw; (try dsimp only at hSw); go_simp <;> with_reducible rfl)
  try simp only [Act.put, List.setIfInBounds_toArray, List.set_cons_zero, List.set_cons_succ]
  refine wpG_pure (i := 12) (oi := { dst := some 33, op := Go.Op.move (Go.Operand.tmp 0), type := 65, pos := "l2_type.go:222", after := #[], guard := none }) (v := ?vg31) rfl (by kernel_rfl) (fun _ _ _ h => h) (Or.inr hHeld) (Or.inl ⟨by rfl, ?yg31⟩) ?_
  case yg31 => (intro wS _; go_simp <;> with_reducible rfl)
  try simp only [Act.put, List.setIfInBounds_toArray, List.set_cons_zero, List.set_cons_succ]
  refine wpG_pure (i := 13) (oi := { dst := some 34, op := Go.Op.nilCheck (Go.Operand.tmp 33), type := 0, pos := "l2_type.go:222", after := #[{ on := 12, ground := Go.Ground.data }], guard := none }) (v := ?vg32) rfl (by kernel_rfl) (fun _ _ _ h => h) (Or.inr hHeld) (Or.inl ⟨by rfl, ?yg32⟩) ?_
  case yg32 => (intro wS _; go_simp <;> with_reducible rfl)
  try simp only [Act.put, List.setIfInBounds_toArray, List.set_cons_zero, List.set_cons_succ]
  refine wpG_pure (i := 14) (oi := { dst := some 35, op := Go.Op.fieldAddr 103 (Go.Operand.tmp 34) 3, type := 0, pos := "l2_type.go:222", after := #[{ on := 13, ground := Go.Ground.data }], guard := none }) (v := ?vg33) rfl (by kernel_rfl) (fun _ _ _ h => h) (Or.inr hHeld) (Or.inl ⟨by rfl, ?yg33⟩) ?_
  case yg33 => (intro wS _; go_simp <;> with_reducible rfl)
  try simp only [Act.put, List.setIfInBounds_toArray, List.set_cons_zero, List.set_cons_succ]
  refine wpG_load (i := 15) (oi := { dst := some 36, op := Go.Op.load 4 (Go.Operand.tmp 35), type := 4, pos := "l2_type.go:222", after := #[{ on := 14, ground := Go.Ground.data }], guard := none }) (v := ?vg34) [] rfl (by kernel_rfl) (fun _ _ _ h => h) hHeld (Or.inl ⟨by rfl, ?yg34⟩) ?_
  case yg34 => (intro wS hSw; (try dsimp only at hSw); go_simp <;> with_reducible rfl)
  try simp only [Act.put, List.setIfInBounds_toArray, List.set_cons_zero, List.set_cons_succ]
  refine wpG_pure (i := 16) (oi := { dst := some 37, op := Go.Op.move (Go.Operand.tmp 36), type := 4, pos := "l2_type.go:222", after := #[{ on := 15, ground := Go.Ground.data }], guard := none }) (v := ?vg35) rfl (by kernel_rfl) (fun _ _ _ h => h) (Or.inr hHeld) (Or.inl ⟨by rfl, ?yg35⟩) ?_
  case yg35 => (intro wS _; go_simp <;> with_reducible rfl)
  try simp only [Act.put, List.setIfInBounds_toArray, List.set_cons_zero, List.set_cons_succ]
  refine wpG_pure (i := 17) (oi := { dst := some 38, op := Go.Op.move (Go.Operand.tmp 1), type := 65, pos := "l2_type.go:222", after := #[{ on := 16, ground := Go.Ground.guard }], guard := some (16, false) }) (v := undef) rfl (by kernel_rfl) (fun _ _ _ h => h) (Or.inr hHeld) (Or.inr ⟨by rfl, rfl⟩) ?_
  try simp only [Act.put, List.setIfInBounds_toArray, List.set_cons_zero, List.set_cons_succ]
  refine wpG_pure (i := 18) (oi := { dst := some 39, op := Go.Op.nilCheck (Go.Operand.tmp 38), type := 0, pos := "l2_type.go:222", after := #[{ on := 17, ground := Go.Ground.data }, { on := 16, ground := Go.Ground.guard }], guard := some (16, false) }) (v := undef) rfl (by kernel_rfl) (fun _ _ _ h => h) (Or.inr hHeld) (Or.inr ⟨by rfl, rfl⟩) ?_
  try simp only [Act.put, List.setIfInBounds_toArray, List.set_cons_zero, List.set_cons_succ]
  refine wpG_pure (i := 19) (oi := { dst := some 40, op := Go.Op.fieldAddr 103 (Go.Operand.tmp 39) 3, type := 0, pos := "l2_type.go:222", after := #[{ on := 18, ground := Go.Ground.data }, { on := 16, ground := Go.Ground.guard }], guard := some (16, false) }) (v := undef) rfl (by kernel_rfl) (fun _ _ _ h => h) (Or.inr hHeld) (Or.inr ⟨by rfl, rfl⟩) ?_
  try simp only [Act.put, List.setIfInBounds_toArray, List.set_cons_zero, List.set_cons_succ]
  refine wpG_pure (i := 20) (oi := { dst := some 41, op := Go.Op.load 4 (Go.Operand.tmp 40), type := 4, pos := "l2_type.go:222", after := #[{ on := 19, ground := Go.Ground.data }, { on := 16, ground := Go.Ground.guard }], guard := some (16, false) }) (v := undef) rfl (by kernel_rfl) (fun _ _ _ h => h) (Or.inr hHeld) (Or.inr ⟨by rfl, rfl⟩) ?_
  try simp only [Act.put, List.setIfInBounds_toArray, List.set_cons_zero, List.set_cons_succ]
  refine wpG_pure (i := 21) (oi := { dst := some 42, op := Go.Op.pick (Go.Operand.tmp 37) (Go.Operand.const (Go.Value.bool true)) (Go.Operand.tmp 41), type := 4, pos := "l2_type.go:222", after := #[{ on := 16, ground := Go.Ground.data }, { on := 20, ground := Go.Ground.data }], guard := none }) (v := ?vg40) rfl (by kernel_rfl) (fun _ _ _ h => h) (Or.inr hHeld) (Or.inl ⟨by rfl, ?yg40⟩) ?_
  case yg40 => (intro wS _; go_simp <;> with_reducible rfl)
  try simp only [Act.put, List.setIfInBounds_toArray, List.set_cons_zero, List.set_cons_succ]
  refine wpG_pure (i := 22) (oi := { dst := some 43, op := Go.Op.move (Go.Operand.tmp 0), type := 65, pos := "l2_type.go:222", after := #[], guard := none }) (v := ?vg41) rfl (by kernel_rfl) (fun _ _ _ h => h) (Or.inr hHeld) (Or.inl ⟨by rfl, ?yg41⟩) ?_
  case yg41 => (intro wS _; go_simp <;> with_reducible rfl)
  try simp only [Act.put, List.setIfInBounds_toArray, List.set_cons_zero, List.set_cons_succ]
  refine wpG_pure (i := 23) (oi := { dst := some 44, op := Go.Op.nilCheck (Go.Operand.tmp 43), type := 0, pos := "l2_type.go:222", after := #[{ on := 22, ground := Go.Ground.data }], guard := none }) (v := ?vg42) rfl (by kernel_rfl) (fun _ _ _ h => h) (Or.inr hHeld) (Or.inl ⟨by rfl, ?yg42⟩) ?_
  case yg42 => (intro wS _; go_simp <;> with_reducible rfl)
  try simp only [Act.put, List.setIfInBounds_toArray, List.set_cons_zero, List.set_cons_succ]
  refine wpG_pure (i := 24) (oi := { dst := some 45, op := Go.Op.fieldAddr 103 (Go.Operand.tmp 44) 4, type := 0, pos := "l2_type.go:222", after := #[{ on := 23, ground := Go.Ground.data }], guard := none }) (v := ?vg43) rfl (by kernel_rfl) (fun _ _ _ h => h) (Or.inr hHeld) (Or.inl ⟨by rfl, ?yg43⟩) ?_
  case yg43 => (intro wS _; go_simp <;> with_reducible rfl)
  try simp only [Act.put, List.setIfInBounds_toArray, List.set_cons_zero, List.set_cons_succ]
  refine wpG_load (i := 25) (oi := { dst := some 46, op := Go.Op.load 3 (Go.Operand.tmp 45), type := 3, pos := "l2_type.go:222", after := #[{ on := 24, ground := Go.Ground.data }], guard := none }) (v := ?vg44) [] rfl (by kernel_rfl) (fun _ _ _ h => h) hHeld (Or.inl ⟨by rfl, ?yg44⟩) ?_
  case yg44 => (intro wS hSw; (try dsimp only at hSw); go_simp <;> with_reducible rfl)
  try simp only [Act.put, List.setIfInBounds_toArray, List.set_cons_zero, List.set_cons_succ]
  refine wpG_pure (i := 26) (oi := { dst := some 47, op := Go.Op.move (Go.Operand.tmp 1), type := 65, pos := "l2_type.go:222", after := #[], guard := none }) (v := ?vg45) rfl (by kernel_rfl) (fun _ _ _ h => h) (Or.inr hHeld) (Or.inl ⟨by rfl, ?yg45⟩) ?_
  case yg45 => (intro wS _; go_simp <;> with_reducible rfl)
  try simp only [Act.put, List.setIfInBounds_toArray, List.set_cons_zero, List.set_cons_succ]
  refine wpG_pure (i := 27) (oi := { dst := some 48, op := Go.Op.nilCheck (Go.Operand.tmp 47), type := 0, pos := "l2_type.go:222", after := #[{ on := 26, ground := Go.Ground.data }], guard := none }) (v := ?vg46) rfl (by kernel_rfl) (fun _ _ _ h => h) (Or.inr hHeld) (Or.inl ⟨by rfl, ?yg46⟩) ?_
  case yg46 => (intro wS _; go_simp <;> with_reducible rfl)
  try simp only [Act.put, List.setIfInBounds_toArray, List.set_cons_zero, List.set_cons_succ]
  refine wpG_pure (i := 28) (oi := { dst := some 49, op := Go.Op.fieldAddr 103 (Go.Operand.tmp 48) 4, type := 0, pos := "l2_type.go:222", after := #[{ on := 27, ground := Go.Ground.data }], guard := none }) (v := ?vg47) rfl (by kernel_rfl) (fun _ _ _ h => h) (Or.inr hHeld) (Or.inl ⟨by rfl, ?yg47⟩) ?_
  case yg47 => (intro wS _; go_simp <;> with_reducible rfl)
  try simp only [Act.put, List.setIfInBounds_toArray, List.set_cons_zero, List.set_cons_succ]
  refine wpG_load (i := 29) (oi := { dst := some 50, op := Go.Op.load 3 (Go.Operand.tmp 49), type := 3, pos := "l2_type.go:222", after := #[{ on := 28, ground := Go.Ground.data }], guard := none }) (v := ?vg48) [] rfl (by kernel_rfl) (fun _ _ _ h => h) hHeld (Or.inl ⟨by rfl, ?yg48⟩) ?_
  case yg48 => (intro wS hSw; (try dsimp only at hSw); go_simp <;> with_reducible rfl)
  try simp only [Act.put, List.setIfInBounds_toArray, List.set_cons_zero, List.set_cons_succ]
  refine wpG_pure (i := 30) (oi := { dst := some 51, op := Go.Op.call { callee := Go.Callee.builtin Go.Builtin.min, args := #[Go.Operand.tmp 46, Go.Operand.tmp 50], argTypes := #[3, 3] }, type := 3, pos := "l2_type.go:222", after := #[{ on := 25, ground := Go.Ground.data }, { on := 29, ground := Go.Ground.data }], guard := none }) (v := ?vg49) rfl (by kernel_rfl) (fun _ _ _ h => h) (Or.inr hHeld) (Or.inl ⟨by rfl, ?yg49⟩) ?_
  case yg49 => (intro wS _; go_simp <;> with_reducible rfl)
  try simp only [Act.put, List.setIfInBounds_toArray, List.set_cons_zero, List.set_cons_succ]
  refine wpG_pure (i := 31) (oi := { dst := some 52, op := Go.Op.build 103 #[(0, Go.Operand.tmp 24), (1, Go.Operand.tmp 28), (2, Go.Operand.tmp 32), (3, Go.Operand.tmp 42), (4, Go.Operand.tmp 51)], type := 103, pos := "l2_type.go:222", after := #[{ on := 3, ground := Go.Ground.data }, { on := 7, ground := Go.Ground.data }, { on := 11, ground := Go.Ground.data }, { on := 21, ground := Go.Ground.data }, { on := 30, ground := Go.Ground.data }], guard := none }) (v := ?vg50) rfl (by kernel_rfl) (fun _ _ _ h => h) (Or.inr hHeld) (Or.inl ⟨by rfl, ?yg50⟩) ?_
  case yg50 => (intro wS _; go_simp <;> with_reducible rfl)
  try simp only [Act.put, List.setIfInBounds_toArray, List.set_cons_zero, List.set_cons_succ]
  refine wpG_one (i := 32) (o := { dst := some 53, op := Go.Op.box 103 (Go.Operand.tmp 52), type := 65, pos := "l2_type.go:222", after := #[{ on := 31, ground := Go.Ground.data }], guard := none }) rfl (by kernel_rfl) (fun K hK => ?_)
  go_simp
  refine hK.out _ _ (Or.inr ?khHeld51) (fun hHeld51S => ?_)
  case khHeld51 => exact ⟨cell_alloc _ x0, cell_alloc _ x1, cell_alloc _ x2, cell_alloc _ x3, cell_alloc _ x4, cell_alloc _ y3, cell_alloc _ y4⟩
  have hHeld51 := hHeld51S.held (by kernel_rfl)
  clear hK K
  try simp only [Act.put, List.setIfInBounds_toArray, List.set_cons_zero, List.set_cons_succ]
  refine wpG_pure (i := 33) (oi := { dst := some 5, op := Go.Op.assign (Go.Operand.tmp 53), type := 65, pos := "l2_type.go:222", after := #[{ on := 32, ground := Go.Ground.data }, { on := 16, ground := Go.Ground.chain }, { on := 0, ground := Go.Ground.phase }, { on := 1, ground := Go.Ground.phase }, { on := 2, ground := Go.Ground.phase }, { on := 3, ground := Go.Ground.phase }, { on := 4, ground := Go.Ground.phase }, { on := 5, ground := Go.Ground.phase }, { on := 6, ground := Go.Ground.phase }, { on := 7, ground := Go.Ground.phase }, { on := 8, ground := Go.Ground.phase }, { on := 9, ground := Go.Ground.phase }, { on := 10, ground := Go.Ground.phase }, { on := 11, ground := Go.Ground.phase }, { on := 12, ground := Go.Ground.phase }, { on := 13, ground := Go.Ground.phase }, { on := 14, ground := Go.Ground.phase }, { on := 15, ground := Go.Ground.phase }, { on := 16, ground := Go.Ground.phase }, { on := 17, ground := Go.Ground.phase }, { on := 18, ground := Go.Ground.phase }, { on := 19, ground := Go.Ground.phase }, { on := 20, ground := Go.Ground.phase }, { on := 21, ground := Go.Ground.phase }, { on := 22, ground := Go.Ground.phase }, { on := 23, ground := Go.Ground.phase }, { on := 24, ground := Go.Ground.phase }, { on := 25, ground := Go.Ground.phase }, { on := 26, ground := Go.Ground.phase }, { on := 27, ground := Go.Ground.phase }, { on := 28, ground := Go.Ground.phase }, { on := 29, ground := Go.Ground.phase }, { on := 30, ground := Go.Ground.phase }, { on := 31, ground := Go.Ground.phase }, { on := 32, ground := Go.Ground.phase }], guard := none }) (v := ?vg52) rfl (by kernel_rfl) (fun _ _ _ h => h) (Or.inr hHeld51) (Or.inl ⟨by rfl, ?yg52⟩) ?_
  case yg52 => (intro wS _; go_simp <;> with_reducible rfl)
  try simp only [Act.put, List.setIfInBounds_toArray, List.set_cons_zero, List.set_cons_succ]
  refine wpG_done (by kernel_rfl) ?_
  have hX2 : (w1.alloc (.cells #[.int .i64 k, .string nm, .int .i64 no, .bool true, .int .i64 (min mo mo'), .slice none 0 0] 103)).drew.heap[w1.heap.size]? = some (.cells #[.int .i64 k, .string nm, .int .i64 no, .bool true, .int .i64 (min mo mo'), .slice none 0 0] 103) := heap_alloc_new w1 _
  have hb2 : Below w1.heap.size w1 (w1.alloc (.cells #[.int .i64 k, .string nm, .int .i64 no, .bool true, .int .i64 (min mo mo'), .slice none 0 0] 103)).drew := ((Below.refl w1.heap.size w1).alloc (Nat.le_refl _) _).drew
  generalize hw2 : (w1.alloc (.cells #[.int .i64 k, .string nm, .int .i64 no, .bool true, .int .i64 (min mo mo'), .slice none 0 0] 103)).drew = w2 at *
  have l2 := hp_lt hX2
  have HO := Lib.hid hX2
  have HX := Lib.hid (hp_later hb2 HX.out)
  have HY := Lib.hid (hp_later hb2 HY.out)
  have HB2 := Lib.hid (HB1.out.trans (hb2.mono HB1.out.size))
  clear hX2 hb2 x0 x1 x2 x3 x4 x5 y0 y1 y2 y3 y4 y5
  obtain ⟨x0, x1, x2, x3, x4, x5⟩ := box6 HX.out
  obtain ⟨y0, y1, y2, y3, y4, y5⟩ := box6 HY.out
  obtain ⟨qb, offq, px, vx, cx, wsx, rfl, hqb, q0, hkx, -⟩ := kps_at HRA.out HKA.out HB2.out hxi
  obtain ⟨rb, off, py, vy, cy, wsy, rfl, hrb, r0, hky, -⟩ := kps_at HRB.out HKB.out HB2.out hyi
  rw [Nat.add_zero] at q0 r0
  have hlx0 : 0 < ks.length := (List.getElem?_eq_some_iff.1 hxi).1
  have hly0 : 0 < us.length := (List.getElem?_eq_some_iff.1 hyi).1
  have hlx : (0 : Int) < (ks.length : Int) := by omega
  have hly : (0 : Int) < (us.length : Int) := by omega
  have HCALL : Hid (Calls Try.prog 39 #[.pointer (some ⟨px, 0, none⟩), .pointer (some ⟨py, 0, none⟩)] w2.drew (MeetP (fun q => S q ∧ q < w.heap.size) x y w2.drew)) := Lib.hid
    (HIH.out _ w2.drew _ _ (KP.keep (kept_below (HB2.out.drew)) (fun q h hl => ⟨h, hl⟩) _ _ hkx) (KP.keep (kept_below (HB2.out.drew)) (fun q h hl => ⟨h, hl⟩) _ _ hky))
  unfold MeetP at HCALL
  clear hkx hky HIH hxi hyi
  go_wp2_with fail
  refine wp_region_G [12] (fun w' => w'.cell? ⟨bx, 5, none⟩ = some (.slice (some ⟨qb, offq, none⟩) ks.length ca) ∧ w'.cell? ⟨bY, 5, none⟩ = some (.slice (some ⟨rb, off, none⟩) us.length cb) ∧ w'.cell? ⟨qb, offq, none⟩ = some (.pointer (some ⟨px, 0, none⟩)) ∧ w'.cell? ⟨rb, off, none⟩ = some (.pointer (some ⟨py, 0, none⟩))) (by kernel_rfl) ?_ (fun hHeld => ?_)
  · exact ⟨x5, y5, q0, r0⟩
  refine wpG_pure (i := 0) (oi := { dst := some 59, op := Go.Op.move (Go.Operand.tmp 0), type := 65, pos := "l2_type.go:224", after := #[], guard := none }) (v := ?vg53) rfl (by kernel_rfl) (fun _ _ _ h => h) (Or.inr hHeld) (Or.inl ⟨by rfl, ?yg53⟩) ?_
  case yg53 => (intro wS _; go_simp <;> with_reducible rfl)
  try simp only [Act.put, List.setIfInBounds_toArray, List.set_cons_zero, List.set_cons_succ]
  refine wpG_pure (i := 1) (oi := { dst := some 60, op := Go.Op.nilCheck (Go.Operand.tmp 59), type := 0, pos := "l2_type.go:224", after := #[{ on := 0, ground := Go.Ground.data }], guard := none }) (v := ?vg54) rfl (by kernel_rfl) (fun _ _ _ h => h) (Or.inr hHeld) (Or.inl ⟨by rfl, ?yg54⟩) ?_
  case yg54 => (intro wS _; go_simp <;> with_reducible rfl)
  try simp only [Act.put, List.setIfInBounds_toArray, List.set_cons_zero, List.set_cons_succ]
  refine wpG_pure (i := 2) (oi := { dst := some 61, op := Go.Op.fieldAddr 103 (Go.Operand.tmp 60) 5, type := 0, pos := "l2_type.go:224", after := #[{ on := 1, ground := Go.Ground.data }], guard := none }) (v := ?vg55) rfl (by kernel_rfl) (fun _ _ _ h => h) (Or.inr hHeld) (Or.inl ⟨by rfl, ?yg55⟩) ?_
  case yg55 => (intro wS _; go_simp <;> with_reducible rfl)
  try simp only [Act.put, List.setIfInBounds_toArray, List.set_cons_zero, List.set_cons_succ]
  refine wpG_load (i := 3) (oi := { dst := some 62, op := Go.Op.load 101 (Go.Operand.tmp 61), type := 101, pos := "l2_type.go:224", after := #[{ on := 2, ground := Go.Ground.data }], guard := none }) (v := ?vg56) [[12, 5, 4, 3]] rfl (by kernel_rfl) (fun _ _ _ h => h) hHeld (Or.inl ⟨by rfl, ?yg56⟩) ?_
  case yg56 => (intro wS hSw; (try dsimp only at hSw); go_simp <;> with_reducible rfl)
  try simp only [Act.put, List.setIfInBounds_toArray, List.set_cons_zero, List.set_cons_succ]
  refine wpG_pure (i := 4) (oi := { dst := some 63, op := Go.Op.indexAddr 101 (Go.Operand.tmp 62) (Go.Operand.const (Go.Value.int Go.IntKind.i64 0)), type := 0, pos := "l2_type.go:224", after := #[{ on := 3, ground := Go.Ground.data }], guard := none }) (v := ?vg57) rfl (by kernel_rfl) (fun _ _ _ h => h) (Or.inr hHeld) (Or.inl ⟨by rfl, ?yg57⟩) ?_
  case yg57 => (intro wS _; go_simp <;> with_reducible rfl)
  try simp only [Act.put, List.setIfInBounds_toArray, List.set_cons_zero, List.set_cons_succ]
  refine wpG_load (i := 5) (oi := { dst := some 64, op := Go.Op.load 65 (Go.Operand.tmp 63), type := 65, pos := "l2_type.go:224", after := #[{ on := 4, ground := Go.Ground.data }], guard := none }) (v := ?vg58) [[12, 5]] rfl (by kernel_rfl) (fun _ _ _ h => h) hHeld (Or.inl ⟨by rfl, ?yg58⟩) ?_
  case yg58 => (intro wS hSw; (try dsimp only at hSw); go_simp <;> with_reducible rfl)
  try simp only [Act.put, List.setIfInBounds_toArray, List.set_cons_zero, List.set_cons_succ]
  refine wpG_pure (i := 6) (oi := { dst := some 65, op := Go.Op.move (Go.Operand.tmp 1), type := 65, pos := "l2_type.go:224", after := #[], guard := none }) (v := ?vg59) rfl (by kernel_rfl) (fun _ _ _ h => h) (Or.inr hHeld) (Or.inl ⟨by rfl, ?yg59⟩) ?_
  case yg59 => (intro wS _; go_simp <;> with_reducible rfl)
  try simp only [Act.put, List.setIfInBounds_toArray, List.set_cons_zero, List.set_cons_succ]
  refine wpG_pure (i := 7) (oi := { dst := some 66, op := Go.Op.nilCheck (Go.Operand.tmp 65), type := 0, pos := "l2_type.go:224", after := #[{ on := 6, ground := Go.Ground.data }], guard := none }) (v := ?vg60) rfl (by kernel_rfl) (fun _ _ _ h => h) (Or.inr hHeld) (Or.inl ⟨by rfl, ?yg60⟩) ?_
  case yg60 => (intro wS _; go_simp <;> with_reducible rfl)
  try simp only [Act.put, List.setIfInBounds_toArray, List.set_cons_zero, List.set_cons_succ]
  refine wpG_pure (i := 8) (oi := { dst := some 67, op := Go.Op.fieldAddr 103 (Go.Operand.tmp 66) 5, type := 0, pos := "l2_type.go:224", after := #[{ on := 7, ground := Go.Ground.data }], guard := none }) (v := ?vg61) rfl (by kernel_rfl) (fun _ _ _ h => h) (Or.inr hHeld) (Or.inl ⟨by rfl, ?yg61⟩) ?_
  case yg61 => (intro wS _; go_simp <;> with_reducible rfl)
  try simp only [Act.put, List.setIfInBounds_toArray, List.set_cons_zero, List.set_cons_succ]
  refine wpG_load (i := 9) (oi := { dst := some 68, op := Go.Op.load 101 (Go.Operand.tmp 67), type := 101, pos := "l2_type.go:224", after := #[{ on := 8, ground := Go.Ground.data }], guard := none }) (v := ?vg62) [[12, 11, 10, 9]] rfl (by kernel_rfl) (fun _ _ _ h => h) hHeld (Or.inl ⟨by rfl, ?yg62⟩) ?_
  case yg62 => (intro wS hSw; (try dsimp only at hSw); go_simp <;> with_reducible rfl)
  try simp only [Act.put, List.setIfInBounds_toArray, List.set_cons_zero, List.set_cons_succ]
  refine wpG_pure (i := 10) (oi := { dst := some 69, op := Go.Op.indexAddr 101 (Go.Operand.tmp 68) (Go.Operand.const (Go.Value.int Go.IntKind.i64 0)), type := 0, pos := "l2_type.go:224", after := #[{ on := 9, ground := Go.Ground.data }], guard := none }) (v := ?vg63) rfl (by kernel_rfl) (fun _ _ _ h => h) (Or.inr hHeld) (Or.inl ⟨by rfl, ?yg63⟩) ?_
  case yg63 => (intro wS _; go_simp <;> with_reducible rfl)
  try simp only [Act.put, List.setIfInBounds_toArray, List.set_cons_zero, List.set_cons_succ]
  refine wpG_load (i := 11) (oi := { dst := some 70, op := Go.Op.load 65 (Go.Operand.tmp 69), type := 65, pos := "l2_type.go:224", after := #[{ on := 10, ground := Go.Ground.data }], guard := none }) (v := ?vg64) [[12, 11]] rfl (by kernel_rfl) (fun _ _ _ h => h) hHeld (Or.inl ⟨by rfl, ?yg64⟩) ?_
  case yg64 => (intro wS hSw; (try dsimp only at hSw); go_simp <;> with_reducible rfl)
  try simp only [Act.put, List.setIfInBounds_toArray, List.set_cons_zero, List.set_cons_succ]
  refine wpG_one (i := 12) (o := { dst := some 71, op := Go.Op.call { callee := Go.Callee.value (Go.Operand.func 39), args := #[Go.Operand.tmp 64, Go.Operand.tmp 70], argTypes := #[65, 65] }, type := 65, pos := "l2_type.go:224", after := #[{ on := 5, ground := Go.Ground.data }, { on := 11, ground := Go.Ground.data }], guard := none }) rfl (by kernel_rfl) (fun K hK => ?_)
  go_simp
  refine HCALL.out.mono ?_
  rintro e w3 ⟨p, rfl, hb3, hres⟩
  have HB3 := Lib.hid (HB2.out.trans ((show Below w2.heap.size w2 w3 from (Below.refl w2.heap.size w2).drew.trans hb3).mono HB2.out.size))
  have HO3 := Lib.hid (hp_later hb3 (show w2.drew.heap[w1.heap.size]? = _ from HO.out))
  have hz3 : w2.heap.size ≤ w3.heap.size := hb3.size
  have HRES := Lib.hid hres
  clear hb3 hres
  refine hK.out _ _ (Or.inl (by kernel_rfl)) (fun _ => ?_)
  clear hK K
  try simp only [Act.put, List.setIfInBounds_toArray, List.set_cons_zero, List.set_cons_succ]
  refine wpG_pure (i := 13) (oi := { dst := some 6, op := Go.Op.assign (Go.Operand.tmp 71), type := 65, pos := "l2_type.go:224", after := #[{ on := 12, ground := Go.Ground.data }, { on := 12, ground := Go.Ground.chain }, { on := 0, ground := Go.Ground.phase }, { on := 1, ground := Go.Ground.phase }, { on := 2, ground := Go.Ground.phase }, { on := 3, ground := Go.Ground.phase }, { on := 4, ground := Go.Ground.phase }, { on := 5, ground := Go.Ground.phase }, { on := 6, ground := Go.Ground.phase }, { on := 7, ground := Go.Ground.phase }, { on := 8, ground := Go.Ground.phase }, { on := 9, ground := Go.Ground.phase }, { on := 10, ground := Go.Ground.phase }, { on := 11, ground := Go.Ground.phase }, { on := 12, ground := Go.Ground.phase }], guard := none }) (v := ?vg66) rfl (by kernel_rfl) (fun _ _ _ h => h) (Or.inl (by kernel_rfl)) (Or.inl ⟨by rfl, ?yg66⟩) ?_
  case yg66 => (intro wS _; go_simp <;> with_reducible rfl)
  try simp only [Act.put, List.setIfInBounds_toArray, List.set_cons_zero, List.set_cons_succ]
  refine wpG_done (by kernel_rfl) ?_
  skip
  rcases HRES.out with ⟨hno, rfl⟩ | ⟨z, g, hyes, rfl, hkz⟩
  · have HN : Hid (meetT (.node k nm no true mo ks) (.node k' nm' no' m' mo' us) = none) := Lib.hid (by rw [HT.out, hno])
    clear hno
    go_wp2_with fail
    go_ret
    exact ⟨none, rfl, HB3.out, .inl ⟨HN.out, rfl⟩⟩
  have HY2 : Hid (meetT (.node k nm no true mo ks) (.node k' nm' no' m' mo' us) = some (.node k nm no true (min mo mo') [z])) := Lib.hid (by rw [HT.out, hyes]; simp [Tr.kind, Tr.name, Tr.no, Tr.must, Tr.most])
  have hX4 := hp_alloc (.cells #[.pointer (some ⟨g, 0, none⟩)] 65) HO3.out
  have hP4 := heap_alloc_new w3 (.cells #[.pointer (some ⟨g, 0, none⟩)] 65)
  have hb4 := (HB3.out).alloc HB3.out.size (.cells #[.pointer (some ⟨g, 0, none⟩)] 65)
  have hK4 := kept_alloc (Kept.refl (fun q => (S q ∧ q < w.heap.size) ∨ w2.drew.heap.size ≤ q) w3) (.cells #[.pointer (some ⟨g, 0, none⟩)] 65)
  have hzz : w2.drew.heap.size = w2.heap.size := rfl
  have f5 := box6_z hX4 5
  obtain ⟨t0, t1, t2, t3, t4, t5⟩ := box6 hX4
  have HX5 := Lib.hid (box6_t5 hX4 (.slice (some ⟨w3.heap.size, 0, none⟩) 1 1))
  have HP5 := Lib.hid (hp_set (Y := w1.heap.size) (i := 5) (u := .slice (some ⟨w3.heap.size, 0, none⟩) 1 1) hP4 (by omega))
  have HB5 := Lib.hid (below_set hb4 hz1 5 (.slice (some ⟨w3.heap.size, 0, none⟩) 1 1))
  have HK5 := Lib.hid (kept_set hK4 (X := w1.heap.size) (by rintro (⟨_, h⟩ | h) <;> omega) 5 (.slice (some ⟨w3.heap.size, 0, none⟩) 1 1))
  have HKZ := Lib.hid hkz
  have HW := Lib.hid hz1
  clear hX4 hP4 hb4 hK4 hkz hyes
  go_wp2_with fail
  go_ret
  refine ⟨some ⟨w1.heap.size, 0, none⟩, rfl, HB5.out, .inr ⟨_, w1.heap.size, HY2.out, rfl, ?_⟩⟩
  have hz1 := HW.out
  have hsz5 := hp_lt HP5.out
  rw [KP]
  refine ⟨w1.heap.size, some ⟨w3.heap.size, 0, none⟩, 1, [.pointer (some ⟨g, 0, none⟩)], rfl, .inr hz1, HX5.out, hnm, by simp, by decide, .inr ⟨w3.heap.size, 0, rfl, .inr (by omega), hsz5, fun i u hi => ?_⟩, ?_⟩
  · rw [Nat.zero_add]
    simp only [World.cell?, HP5.out]
    simpa using hi
  · rw [KPs]
    refine ⟨_, [], rfl, KP.keep HK5.out (fun q hq _ => ?_) _ _ HKZ.out, by rw [KPs]⟩
    rcases hq with ⟨h1, _⟩ | h1
    · exact .inl h1
    · exact .inr (by omega)
set_option maxHeartbeats 4000000 in
theorem imeet_lst_f {S : Nat → Prop} {w : World} {bx bY : Nat} (nm nm' : ByteArray) (no no' : Int) (m' : Bool) (mo mo' : Int) (x y : Tr) (k k' : Int) (hk : k = 4) (hk' : k' = 4) (ks us : List Tr) (hks : ks = [x]) (hus : us = [y]) {va vb : Option Addr} {ca cb : Nat} {vsa vsb : List Value} (hX : w.heap[bx]? = some (.cells #[.int .i64 k, .string nm, .int .i64 no, .bool false, .int .i64 mo, .slice va ks.length ca] 103)) (hY : w.heap[bY]? = some (.cells #[.int .i64 k', .string nm', .int .i64 no', .bool m', .int .i64 mo', .slice vb us.length cb] 103)) (hnm : nm.size ≤ maxLen) (hca : ks.length ≤ ca) (hcam : ca ≤ 9223372036854775807) (hcb : us.length ≤ cb) (hcbm : cb ≤ 9223372036854775807) (hra : RS S w va vsa) (hka : KPs S w ks vsa) (hrb : RS S w vb vsb) (hkb : KPs S w us vsb)
    (IH : ∀ (S' : Nat → Prop) (wx : World) (px py : Value), KP S' wx x px → KP S' wx y py → Calls Try.prog 39 #[px, py] wx (MeetP S' x y wx)) :
    Calls Try.prog 39 #[.pointer (some ⟨bx, 0, none⟩), .pointer (some ⟨bY, 0, none⟩)] w (MeetP S (.node k nm no false mo ks) (.node k' nm' no' m' mo' us) w) := by
  have HT := Lib.hid (meetT_lst (a := .node k nm no false mo ks) (b := .node k' nm' no' m' mo' us) (hk.trans hk'.symm) hk hks hus)
  have nk : (k != k') = false := by rw [hk, hk']; decide
  have n4 : (k == 4) = true := by rw [hk]; decide
  have HIH := Lib.hid IH
  have hxi : ks[0]? = some x := by rw [hks]; rfl
  have hyi : us[0]? = some y := by rw [hus]; rfl
  have HRA := Lib.hid hra; have HKA := Lib.hid hka; have HRB := Lib.hid hrb; have HKB := Lib.hid hkb
  clear hk hk' hks hus IH hra hka hrb hkb
  obtain ⟨x0, x1, x2, x3, x4, x5⟩ := box6 hX
  obtain ⟨y0, y1, y2, y3, y4, y5⟩ := box6 hY
  have HX := Lib.hid hX
  have HY := Lib.hid hY
  clear hX hY
  go_enter Try.func39, Try.ntmps39
  go_wp2_with fail
  refine wp_region_G [] (fun w' => w'.cell? ⟨bx, 0, none⟩ = some (.int .i64 k) ∧ w'.cell? ⟨bY, 0, none⟩ = some (.int .i64 k')) (by kernel_rfl) ?_ (fun hHeld => ?_)
  · exact ⟨x0, y0⟩
  refine wpG_pure (i := 0) (oi := { dst := some 12, op := Go.Op.move (Go.Operand.tmp 0), type := 65, pos := "l2_type.go:219", after := #[], guard := none }) (v := ?vg67) rfl (by kernel_rfl) (fun _ _ _ h => h) (Or.inr hHeld) (Or.inl ⟨by rfl, ?yg67⟩) ?_
  case yg67 => (intro wS _; go_simp <;> with_reducible rfl)
  try simp only [Act.put, List.setIfInBounds_toArray, List.set_cons_zero, List.set_cons_succ]
  refine wpG_pure (i := 1) (oi := { dst := some 13, op := Go.Op.nilCheck (Go.Operand.tmp 12), type := 0, pos := "l2_type.go:219", after := #[{ on := 0, ground := Go.Ground.data }], guard := none }) (v := ?vg68) rfl (by kernel_rfl) (fun _ _ _ h => h) (Or.inr hHeld) (Or.inl ⟨by rfl, ?yg68⟩) ?_
  case yg68 => (intro wS _; go_simp <;> with_reducible rfl)
  try simp only [Act.put, List.setIfInBounds_toArray, List.set_cons_zero, List.set_cons_succ]
  refine wpG_pure (i := 2) (oi := { dst := some 14, op := Go.Op.fieldAddr 103 (Go.Operand.tmp 13) 0, type := 0, pos := "l2_type.go:219", after := #[{ on := 1, ground := Go.Ground.data }], guard := none }) (v := ?vg69) rfl (by kernel_rfl) (fun _ _ _ h => h) (Or.inr hHeld) (Or.inl ⟨by rfl, ?yg69⟩) ?_
  case yg69 => (intro wS _; go_simp <;> with_reducible rfl)
  try simp only [Act.put, List.setIfInBounds_toArray, List.set_cons_zero, List.set_cons_succ]
  refine wpG_load (i := 3) (oi := { dst := some 15, op := Go.Op.load 3 (Go.Operand.tmp 14), type := 3, pos := "l2_type.go:219", after := #[{ on := 2, ground := Go.Ground.data }], guard := none }) (v := ?vg70) [] rfl (by kernel_rfl) (fun _ _ _ h => h) hHeld (Or.inl ⟨by rfl, ?yg70⟩) ?_
  case yg70 => (intro wS hSw; (try dsimp only at hSw); go_simp <;> with_reducible rfl)
  try simp only [Act.put, List.setIfInBounds_toArray, List.set_cons_zero, List.set_cons_succ]
  refine wpG_pure (i := 4) (oi := { dst := some 16, op := Go.Op.move (Go.Operand.tmp 1), type := 65, pos := "l2_type.go:219", after := #[], guard := none }) (v := ?vg71) rfl (by kernel_rfl) (fun _ _ _ h => h) (Or.inr hHeld) (Or.inl ⟨by rfl, ?yg71⟩) ?_
  case yg71 => (intro wS _; go_simp <;> with_reducible rfl)
  try simp only [Act.put, List.setIfInBounds_toArray, List.set_cons_zero, List.set_cons_succ]
  refine wpG_pure (i := 5) (oi := { dst := some 17, op := Go.Op.nilCheck (Go.Operand.tmp 16), type := 0, pos := "l2_type.go:219", after := #[{ on := 4, ground := Go.Ground.data }], guard := none }) (v := ?vg72) rfl (by kernel_rfl) (fun _ _ _ h => h) (Or.inr hHeld) (Or.inl ⟨by rfl, ?yg72⟩) ?_
  case yg72 => (intro wS _; go_simp <;> with_reducible rfl)
  try simp only [Act.put, List.setIfInBounds_toArray, List.set_cons_zero, List.set_cons_succ]
  refine wpG_pure (i := 6) (oi := { dst := some 18, op := Go.Op.fieldAddr 103 (Go.Operand.tmp 17) 0, type := 0, pos := "l2_type.go:219", after := #[{ on := 5, ground := Go.Ground.data }], guard := none }) (v := ?vg73) rfl (by kernel_rfl) (fun _ _ _ h => h) (Or.inr hHeld) (Or.inl ⟨by rfl, ?yg73⟩) ?_
  case yg73 => (intro wS _; go_simp <;> with_reducible rfl)
  try simp only [Act.put, List.setIfInBounds_toArray, List.set_cons_zero, List.set_cons_succ]
  refine wpG_load (i := 7) (oi := { dst := some 19, op := Go.Op.load 3 (Go.Operand.tmp 18), type := 3, pos := "l2_type.go:219", after := #[{ on := 6, ground := Go.Ground.data }], guard := none }) (v := ?vg74) [] rfl (by kernel_rfl) (fun _ _ _ h => h) hHeld (Or.inl ⟨by rfl, ?yg74⟩) ?_
  case yg74 => (intro wS hSw; (try dsimp only at hSw); go_simp <;> with_reducible rfl)
  try simp only [Act.put, List.setIfInBounds_toArray, List.set_cons_zero, List.set_cons_succ]
  refine wpG_pure (i := 8) (oi := { dst := some 20, op := Go.Op.binOp Go.BinOp.neq 3 (Go.Operand.tmp 15) (Go.Operand.tmp 19) 3, type := 4, pos := "l2_type.go:219", after := #[{ on := 3, ground := Go.Ground.data }, { on := 7, ground := Go.Ground.data }], guard := none }) (v := ?vg75) rfl (by kernel_rfl) (fun _ _ _ h => h) (Or.inr hHeld) (Or.inl ⟨by rfl, ?yg75⟩) ?_
  case yg75 => (intro wS _; go_simp <;> with_reducible rfl)
  try simp only [Act.put, List.setIfInBounds_toArray, List.set_cons_zero, List.set_cons_succ]
  refine wpG_done (by kernel_rfl) ?_
  have hb1 := (Below.refl w.heap.size w).drew
  generalize hw1 : w.drew = w1 at *
  have HX := Lib.hid (hp_later hb1 HX.out)
  have HY := Lib.hid (hp_later hb1 HY.out)
  have hz1 := hb1.size
  have HB1 := Lib.hid hb1
  clear hb1 x0 x1 x2 x3 x4 x5 y0 y1 y2 y3 y4 y5
  obtain ⟨x0, x1, x2, x3, x4, x5⟩ := box6 HX.out
  obtain ⟨y0, y1, y2, y3, y4, y5⟩ := box6 HY.out
  go_wp2_with fail
  refine wp_region_G [] (fun w' => w'.cell? ⟨bx, 0, none⟩ = some (.int .i64 k) ∧ w'.cell? ⟨bx, 1, none⟩ = some (.string nm) ∧ w'.cell? ⟨bx, 2, none⟩ = some (.int .i64 no) ∧ w'.cell? ⟨bx, 3, none⟩ = some (.bool false) ∧ w'.cell? ⟨bx, 4, none⟩ = some (.int .i64 mo) ∧ w'.cell? ⟨bY, 3, none⟩ = some (.bool m') ∧ w'.cell? ⟨bY, 4, none⟩ = some (.int .i64 mo')) (by kernel_rfl) ?_ (fun hHeld => ?_)
  · exact ⟨x0, x1, x2, x3, x4, y3, y4⟩
  refine wpG_pure (i := 0) (oi := { dst := some 21, op := Go.Op.move (Go.Operand.tmp 0), type := 65, pos := "l2_type.go:222", after := #[], guard := none }) (v := ?vg76) rfl (by kernel_rfl) (fun _ _ _ h => h) (Or.inr hHeld) (Or.inl ⟨by rfl, ?yg76⟩) ?_
  case yg76 => (intro wS _; go_simp <;> with_reducible rfl)
  try simp only [Act.put, List.setIfInBounds_toArray, List.set_cons_zero, List.set_cons_succ]
  refine wpG_pure (i := 1) (oi := { dst := some 22, op := Go.Op.nilCheck (Go.Operand.tmp 21), type := 0, pos := "l2_type.go:222", after := #[{ on := 0, ground := Go.Ground.data }], guard := none }) (v := ?vg77) rfl (by kernel_rfl) (fun _ _ _ h => h) (Or.inr hHeld) (Or.inl ⟨by rfl, ?yg77⟩) ?_
  case yg77 => (intro wS _; go_simp <;> with_reducible rfl)
  try simp only [Act.put, List.setIfInBounds_toArray, List.set_cons_zero, List.set_cons_succ]
  refine wpG_pure (i := 2) (oi := { dst := some 23, op := Go.Op.fieldAddr 103 (Go.Operand.tmp 22) 0, type := 0, pos := "l2_type.go:222", after := #[{ on := 1, ground := Go.Ground.data }], guard := none }) (v := ?vg78) rfl (by kernel_rfl) (fun _ _ _ h => h) (Or.inr hHeld) (Or.inl ⟨by rfl, ?yg78⟩) ?_
  case yg78 => (intro wS _; go_simp <;> with_reducible rfl)
  try simp only [Act.put, List.setIfInBounds_toArray, List.set_cons_zero, List.set_cons_succ]
  refine wpG_load (i := 3) (oi := { dst := some 24, op := Go.Op.load 3 (Go.Operand.tmp 23), type := 3, pos := "l2_type.go:222", after := #[{ on := 2, ground := Go.Ground.data }], guard := none }) (v := ?vg79) [] rfl (by kernel_rfl) (fun _ _ _ h => h) hHeld (Or.inl ⟨by rfl, ?yg79⟩) ?_
  case yg79 => (intro wS hSw; (try dsimp only at hSw); go_simp <;> with_reducible rfl)
  try simp only [Act.put, List.setIfInBounds_toArray, List.set_cons_zero, List.set_cons_succ]
  refine wpG_pure (i := 4) (oi := { dst := some 25, op := Go.Op.move (Go.Operand.tmp 0), type := 65, pos := "l2_type.go:222", after := #[], guard := none }) (v := ?vg80) rfl (by kernel_rfl) (fun _ _ _ h => h) (Or.inr hHeld) (Or.inl ⟨by rfl, ?yg80⟩) ?_
  case yg80 => (intro wS _; go_simp <;> with_reducible rfl)
  try simp only [Act.put, List.setIfInBounds_toArray, List.set_cons_zero, List.set_cons_succ]
  refine wpG_pure (i := 5) (oi := { dst := some 26, op := Go.Op.nilCheck (Go.Operand.tmp 25), type := 0, pos := "l2_type.go:222", after := #[{ on := 4, ground := Go.Ground.data }], guard := none }) (v := ?vg81) rfl (by kernel_rfl) (fun _ _ _ h => h) (Or.inr hHeld) (Or.inl ⟨by rfl, ?yg81⟩) ?_
  case yg81 => (intro wS _; go_simp <;> with_reducible rfl)
  try simp only [Act.put, List.setIfInBounds_toArray, List.set_cons_zero, List.set_cons_succ]
  refine wpG_pure (i := 6) (oi := { dst := some 27, op := Go.Op.fieldAddr 103 (Go.Operand.tmp 26) 1, type := 0, pos := "l2_type.go:222", after := #[{ on := 5, ground := Go.Ground.data }], guard := none }) (v := ?vg82) rfl (by kernel_rfl) (fun _ _ _ h => h) (Or.inr hHeld) (Or.inl ⟨by rfl, ?yg82⟩) ?_
  case yg82 => (intro wS _; go_simp <;> with_reducible rfl)
  try simp only [Act.put, List.setIfInBounds_toArray, List.set_cons_zero, List.set_cons_succ]
  refine wpG_load (i := 7) (oi := { dst := some 28, op := Go.Op.load 9 (Go.Operand.tmp 27), type := 9, pos := "l2_type.go:222", after := #[{ on := 6, ground := Go.Ground.data }], guard := none }) (v := ?vg83) [] rfl (by kernel_rfl) (fun _ _ _ h => h) hHeld (Or.inl ⟨by rfl, ?yg83⟩) ?_
  case yg83 => (intro wS hSw; (try dsimp only at hSw); go_simp <;> with_reducible rfl)
  try simp only [Act.put, List.setIfInBounds_toArray, List.set_cons_zero, List.set_cons_succ]
  refine wpG_pure (i := 8) (oi := { dst := some 29, op := Go.Op.move (Go.Operand.tmp 0), type := 65, pos := "l2_type.go:222", after := #[], guard := none }) (v := ?vg84) rfl (by kernel_rfl) (fun _ _ _ h => h) (Or.inr hHeld) (Or.inl ⟨by rfl, ?yg84⟩) ?_
  case yg84 => (intro wS _; go_simp <;> with_reducible rfl)
  try simp only [Act.put, List.setIfInBounds_toArray, List.set_cons_zero, List.set_cons_succ]
  refine wpG_pure (i := 9) (oi := { dst := some 30, op := Go.Op.nilCheck (Go.Operand.tmp 29), type := 0, pos := "l2_type.go:222", after := #[{ on := 8, ground := Go.Ground.data }], guard := none }) (v := ?vg85) rfl (by kernel_rfl) (fun _ _ _ h => h) (Or.inr hHeld) (Or.inl ⟨by rfl, ?yg85⟩) ?_
  case yg85 => (intro wS _; go_simp <;> with_reducible rfl)
  try simp only [Act.put, List.setIfInBounds_toArray, List.set_cons_zero, List.set_cons_succ]
  refine wpG_pure (i := 10) (oi := { dst := some 31, op := Go.Op.fieldAddr 103 (Go.Operand.tmp 30) 2, type := 0, pos := "l2_type.go:222", after := #[{ on := 9, ground := Go.Ground.data }], guard := none }) (v := ?vg86) rfl (by kernel_rfl) (fun _ _ _ h => h) (Or.inr hHeld) (Or.inl ⟨by rfl, ?yg86⟩) ?_
  case yg86 => (intro wS _; go_simp <;> with_reducible rfl)
  try simp only [Act.put, List.setIfInBounds_toArray, List.set_cons_zero, List.set_cons_succ]
  refine wpG_load (i := 11) (oi := { dst := some 32, op := Go.Op.load 3 (Go.Operand.tmp 31), type := 3, pos := "l2_type.go:222", after := #[{ on := 10, ground := Go.Ground.data }], guard := none }) (v := ?vg87) [] rfl (by kernel_rfl) (fun _ _ _ h => h) hHeld (Or.inl ⟨by rfl, ?yg87⟩) ?_
  case yg87 => (intro wS hSw; (try dsimp only at hSw); go_simp <;> with_reducible rfl)
  try simp only [Act.put, List.setIfInBounds_toArray, List.set_cons_zero, List.set_cons_succ]
  refine wpG_pure (i := 12) (oi := { dst := some 33, op := Go.Op.move (Go.Operand.tmp 0), type := 65, pos := "l2_type.go:222", after := #[], guard := none }) (v := ?vg88) rfl (by kernel_rfl) (fun _ _ _ h => h) (Or.inr hHeld) (Or.inl ⟨by rfl, ?yg88⟩) ?_
  case yg88 => (intro wS _; go_simp <;> with_reducible rfl)
  try simp only [Act.put, List.setIfInBounds_toArray, List.set_cons_zero, List.set_cons_succ]
  refine wpG_pure (i := 13) (oi := { dst := some 34, op := Go.Op.nilCheck (Go.Operand.tmp 33), type := 0, pos := "l2_type.go:222", after := #[{ on := 12, ground := Go.Ground.data }], guard := none }) (v := ?vg89) rfl (by kernel_rfl) (fun _ _ _ h => h) (Or.inr hHeld) (Or.inl ⟨by rfl, ?yg89⟩) ?_
  case yg89 => (intro wS _; go_simp <;> with_reducible rfl)
  try simp only [Act.put, List.setIfInBounds_toArray, List.set_cons_zero, List.set_cons_succ]
  refine wpG_pure (i := 14) (oi := { dst := some 35, op := Go.Op.fieldAddr 103 (Go.Operand.tmp 34) 3, type := 0, pos := "l2_type.go:222", after := #[{ on := 13, ground := Go.Ground.data }], guard := none }) (v := ?vg90) rfl (by kernel_rfl) (fun _ _ _ h => h) (Or.inr hHeld) (Or.inl ⟨by rfl, ?yg90⟩) ?_
  case yg90 => (intro wS _; go_simp <;> with_reducible rfl)
  try simp only [Act.put, List.setIfInBounds_toArray, List.set_cons_zero, List.set_cons_succ]
  refine wpG_load (i := 15) (oi := { dst := some 36, op := Go.Op.load 4 (Go.Operand.tmp 35), type := 4, pos := "l2_type.go:222", after := #[{ on := 14, ground := Go.Ground.data }], guard := none }) (v := ?vg91) [] rfl (by kernel_rfl) (fun _ _ _ h => h) hHeld (Or.inl ⟨by rfl, ?yg91⟩) ?_
  case yg91 => (intro wS hSw; (try dsimp only at hSw); go_simp <;> with_reducible rfl)
  try simp only [Act.put, List.setIfInBounds_toArray, List.set_cons_zero, List.set_cons_succ]
  refine wpG_pure (i := 16) (oi := { dst := some 37, op := Go.Op.move (Go.Operand.tmp 36), type := 4, pos := "l2_type.go:222", after := #[{ on := 15, ground := Go.Ground.data }], guard := none }) (v := ?vg92) rfl (by kernel_rfl) (fun _ _ _ h => h) (Or.inr hHeld) (Or.inl ⟨by rfl, ?yg92⟩) ?_
  case yg92 => (intro wS _; go_simp <;> with_reducible rfl)
  try simp only [Act.put, List.setIfInBounds_toArray, List.set_cons_zero, List.set_cons_succ]
  refine wpG_pure (i := 17) (oi := { dst := some 38, op := Go.Op.move (Go.Operand.tmp 1), type := 65, pos := "l2_type.go:222", after := #[{ on := 16, ground := Go.Ground.guard }], guard := some (16, false) }) (v := ?vg93) rfl (by kernel_rfl) (fun _ _ _ h => h) (Or.inr hHeld) (Or.inl ⟨by rfl, ?yg93⟩) ?_
  case yg93 => (intro wS _; go_simp <;> with_reducible rfl)
  try simp only [Act.put, List.setIfInBounds_toArray, List.set_cons_zero, List.set_cons_succ]
  refine wpG_pure (i := 18) (oi := { dst := some 39, op := Go.Op.nilCheck (Go.Operand.tmp 38), type := 0, pos := "l2_type.go:222", after := #[{ on := 17, ground := Go.Ground.data }, { on := 16, ground := Go.Ground.guard }], guard := some (16, false) }) (v := ?vg94) rfl (by kernel_rfl) (fun _ _ _ h => h) (Or.inr hHeld) (Or.inl ⟨by rfl, ?yg94⟩) ?_
  case yg94 => (intro wS _; go_simp <;> with_reducible rfl)
  try simp only [Act.put, List.setIfInBounds_toArray, List.set_cons_zero, List.set_cons_succ]
  refine wpG_pure (i := 19) (oi := { dst := some 40, op := Go.Op.fieldAddr 103 (Go.Operand.tmp 39) 3, type := 0, pos := "l2_type.go:222", after := #[{ on := 18, ground := Go.Ground.data }, { on := 16, ground := Go.Ground.guard }], guard := some (16, false) }) (v := ?vg95) rfl (by kernel_rfl) (fun _ _ _ h => h) (Or.inr hHeld) (Or.inl ⟨by rfl, ?yg95⟩) ?_
  case yg95 => (intro wS _; go_simp <;> with_reducible rfl)
  try simp only [Act.put, List.setIfInBounds_toArray, List.set_cons_zero, List.set_cons_succ]
  refine wpG_load (i := 20) (oi := { dst := some 41, op := Go.Op.load 4 (Go.Operand.tmp 40), type := 4, pos := "l2_type.go:222", after := #[{ on := 19, ground := Go.Ground.data }, { on := 16, ground := Go.Ground.guard }], guard := some (16, false) }) (v := ?vg96) [] rfl (by kernel_rfl) (fun _ _ _ h => h) hHeld (Or.inl ⟨by rfl, ?yg96⟩) ?_
  case yg96 => (intro wS hSw; (try dsimp only at hSw); go_simp <;> with_reducible rfl)
  try simp only [Act.put, List.setIfInBounds_toArray, List.set_cons_zero, List.set_cons_succ]
  refine wpG_pure (i := 21) (oi := { dst := some 42, op := Go.Op.pick (Go.Operand.tmp 37) (Go.Operand.const (Go.Value.bool true)) (Go.Operand.tmp 41), type := 4, pos := "l2_type.go:222", after := #[{ on := 16, ground := Go.Ground.data }, { on := 20, ground := Go.Ground.data }], guard := none }) (v := ?vg97) rfl (by kernel_rfl) (fun _ _ _ h => h) (Or.inr hHeld) (Or.inl ⟨by rfl, ?yg97⟩) ?_
  case yg97 => (intro wS _; go_simp <;> with_reducible rfl)
  try simp only [Act.put, List.setIfInBounds_toArray, List.set_cons_zero, List.set_cons_succ]
  refine wpG_pure (i := 22) (oi := { dst := some 43, op := Go.Op.move (Go.Operand.tmp 0), type := 65, pos := "l2_type.go:222", after := #[], guard := none }) (v := ?vg98) rfl (by kernel_rfl) (fun _ _ _ h => h) (Or.inr hHeld) (Or.inl ⟨by rfl, ?yg98⟩) ?_
  case yg98 => (intro wS _; go_simp <;> with_reducible rfl)
  try simp only [Act.put, List.setIfInBounds_toArray, List.set_cons_zero, List.set_cons_succ]
  refine wpG_pure (i := 23) (oi := { dst := some 44, op := Go.Op.nilCheck (Go.Operand.tmp 43), type := 0, pos := "l2_type.go:222", after := #[{ on := 22, ground := Go.Ground.data }], guard := none }) (v := ?vg99) rfl (by kernel_rfl) (fun _ _ _ h => h) (Or.inr hHeld) (Or.inl ⟨by rfl, ?yg99⟩) ?_
  case yg99 => (intro wS _; go_simp <;> with_reducible rfl)
  try simp only [Act.put, List.setIfInBounds_toArray, List.set_cons_zero, List.set_cons_succ]
  refine wpG_pure (i := 24) (oi := { dst := some 45, op := Go.Op.fieldAddr 103 (Go.Operand.tmp 44) 4, type := 0, pos := "l2_type.go:222", after := #[{ on := 23, ground := Go.Ground.data }], guard := none }) (v := ?vg100) rfl (by kernel_rfl) (fun _ _ _ h => h) (Or.inr hHeld) (Or.inl ⟨by rfl, ?yg100⟩) ?_
  case yg100 => (intro wS _; go_simp <;> with_reducible rfl)
  try simp only [Act.put, List.setIfInBounds_toArray, List.set_cons_zero, List.set_cons_succ]
  refine wpG_load (i := 25) (oi := { dst := some 46, op := Go.Op.load 3 (Go.Operand.tmp 45), type := 3, pos := "l2_type.go:222", after := #[{ on := 24, ground := Go.Ground.data }], guard := none }) (v := ?vg101) [] rfl (by kernel_rfl) (fun _ _ _ h => h) hHeld (Or.inl ⟨by rfl, ?yg101⟩) ?_
  case yg101 => (intro wS hSw; (try dsimp only at hSw); go_simp <;> with_reducible rfl)
  try simp only [Act.put, List.setIfInBounds_toArray, List.set_cons_zero, List.set_cons_succ]
  refine wpG_pure (i := 26) (oi := { dst := some 47, op := Go.Op.move (Go.Operand.tmp 1), type := 65, pos := "l2_type.go:222", after := #[], guard := none }) (v := ?vg102) rfl (by kernel_rfl) (fun _ _ _ h => h) (Or.inr hHeld) (Or.inl ⟨by rfl, ?yg102⟩) ?_
  case yg102 => (intro wS _; go_simp <;> with_reducible rfl)
  try simp only [Act.put, List.setIfInBounds_toArray, List.set_cons_zero, List.set_cons_succ]
  refine wpG_pure (i := 27) (oi := { dst := some 48, op := Go.Op.nilCheck (Go.Operand.tmp 47), type := 0, pos := "l2_type.go:222", after := #[{ on := 26, ground := Go.Ground.data }], guard := none }) (v := ?vg103) rfl (by kernel_rfl) (fun _ _ _ h => h) (Or.inr hHeld) (Or.inl ⟨by rfl, ?yg103⟩) ?_
  case yg103 => (intro wS _; go_simp <;> with_reducible rfl)
  try simp only [Act.put, List.setIfInBounds_toArray, List.set_cons_zero, List.set_cons_succ]
  refine wpG_pure (i := 28) (oi := { dst := some 49, op := Go.Op.fieldAddr 103 (Go.Operand.tmp 48) 4, type := 0, pos := "l2_type.go:222", after := #[{ on := 27, ground := Go.Ground.data }], guard := none }) (v := ?vg104) rfl (by kernel_rfl) (fun _ _ _ h => h) (Or.inr hHeld) (Or.inl ⟨by rfl, ?yg104⟩) ?_
  case yg104 => (intro wS _; go_simp <;> with_reducible rfl)
  try simp only [Act.put, List.setIfInBounds_toArray, List.set_cons_zero, List.set_cons_succ]
  refine wpG_load (i := 29) (oi := { dst := some 50, op := Go.Op.load 3 (Go.Operand.tmp 49), type := 3, pos := "l2_type.go:222", after := #[{ on := 28, ground := Go.Ground.data }], guard := none }) (v := ?vg105) [] rfl (by kernel_rfl) (fun _ _ _ h => h) hHeld (Or.inl ⟨by rfl, ?yg105⟩) ?_
  case yg105 => (intro wS hSw; (try dsimp only at hSw); go_simp <;> with_reducible rfl)
  try simp only [Act.put, List.setIfInBounds_toArray, List.set_cons_zero, List.set_cons_succ]
  refine wpG_pure (i := 30) (oi := { dst := some 51, op := Go.Op.call { callee := Go.Callee.builtin Go.Builtin.min, args := #[Go.Operand.tmp 46, Go.Operand.tmp 50], argTypes := #[3, 3] }, type := 3, pos := "l2_type.go:222", after := #[{ on := 25, ground := Go.Ground.data }, { on := 29, ground := Go.Ground.data }], guard := none }) (v := ?vg106) rfl (by kernel_rfl) (fun _ _ _ h => h) (Or.inr hHeld) (Or.inl ⟨by rfl, ?yg106⟩) ?_
  case yg106 => (intro wS _; go_simp <;> with_reducible rfl)
  try simp only [Act.put, List.setIfInBounds_toArray, List.set_cons_zero, List.set_cons_succ]
  refine wpG_pure (i := 31) (oi := { dst := some 52, op := Go.Op.build 103 #[(0, Go.Operand.tmp 24), (1, Go.Operand.tmp 28), (2, Go.Operand.tmp 32), (3, Go.Operand.tmp 42), (4, Go.Operand.tmp 51)], type := 103, pos := "l2_type.go:222", after := #[{ on := 3, ground := Go.Ground.data }, { on := 7, ground := Go.Ground.data }, { on := 11, ground := Go.Ground.data }, { on := 21, ground := Go.Ground.data }, { on := 30, ground := Go.Ground.data }], guard := none }) (v := ?vg107) rfl (by kernel_rfl) (fun _ _ _ h => h) (Or.inr hHeld) (Or.inl ⟨by rfl, ?yg107⟩) ?_
  case yg107 => (intro wS _; go_simp <;> with_reducible rfl)
  try simp only [Act.put, List.setIfInBounds_toArray, List.set_cons_zero, List.set_cons_succ]
  refine wpG_one (i := 32) (o := { dst := some 53, op := Go.Op.box 103 (Go.Operand.tmp 52), type := 65, pos := "l2_type.go:222", after := #[{ on := 31, ground := Go.Ground.data }], guard := none }) rfl (by kernel_rfl) (fun K hK => ?_)
  go_simp
  refine hK.out _ _ (Or.inr ?khHeld108) (fun hHeld108S => ?_)
  case khHeld108 => exact ⟨cell_alloc _ x0, cell_alloc _ x1, cell_alloc _ x2, cell_alloc _ x3, cell_alloc _ x4, cell_alloc _ y3, cell_alloc _ y4⟩
  have hHeld108 := hHeld108S.held (by kernel_rfl)
  clear hK K
  try simp only [Act.put, List.setIfInBounds_toArray, List.set_cons_zero, List.set_cons_succ]
  refine wpG_pure (i := 33) (oi := { dst := some 5, op := Go.Op.assign (Go.Operand.tmp 53), type := 65, pos := "l2_type.go:222", after := #[{ on := 32, ground := Go.Ground.data }, { on := 16, ground := Go.Ground.chain }, { on := 0, ground := Go.Ground.phase }, { on := 1, ground := Go.Ground.phase }, { on := 2, ground := Go.Ground.phase }, { on := 3, ground := Go.Ground.phase }, { on := 4, ground := Go.Ground.phase }, { on := 5, ground := Go.Ground.phase }, { on := 6, ground := Go.Ground.phase }, { on := 7, ground := Go.Ground.phase }, { on := 8, ground := Go.Ground.phase }, { on := 9, ground := Go.Ground.phase }, { on := 10, ground := Go.Ground.phase }, { on := 11, ground := Go.Ground.phase }, { on := 12, ground := Go.Ground.phase }, { on := 13, ground := Go.Ground.phase }, { on := 14, ground := Go.Ground.phase }, { on := 15, ground := Go.Ground.phase }, { on := 16, ground := Go.Ground.phase }, { on := 17, ground := Go.Ground.phase }, { on := 18, ground := Go.Ground.phase }, { on := 19, ground := Go.Ground.phase }, { on := 20, ground := Go.Ground.phase }, { on := 21, ground := Go.Ground.phase }, { on := 22, ground := Go.Ground.phase }, { on := 23, ground := Go.Ground.phase }, { on := 24, ground := Go.Ground.phase }, { on := 25, ground := Go.Ground.phase }, { on := 26, ground := Go.Ground.phase }, { on := 27, ground := Go.Ground.phase }, { on := 28, ground := Go.Ground.phase }, { on := 29, ground := Go.Ground.phase }, { on := 30, ground := Go.Ground.phase }, { on := 31, ground := Go.Ground.phase }, { on := 32, ground := Go.Ground.phase }], guard := none }) (v := ?vg109) rfl (by kernel_rfl) (fun _ _ _ h => h) (Or.inr hHeld108) (Or.inl ⟨by rfl, ?yg109⟩) ?_
  case yg109 => (intro wS _; go_simp <;> with_reducible rfl)
  try simp only [Act.put, List.setIfInBounds_toArray, List.set_cons_zero, List.set_cons_succ]
  refine wpG_done (by kernel_rfl) ?_
  have hX2 : (w1.alloc (.cells #[.int .i64 k, .string nm, .int .i64 no, .bool m', .int .i64 (min mo mo'), .slice none 0 0] 103)).drew.heap[w1.heap.size]? = some (.cells #[.int .i64 k, .string nm, .int .i64 no, .bool m', .int .i64 (min mo mo'), .slice none 0 0] 103) := heap_alloc_new w1 _
  have hb2 : Below w1.heap.size w1 (w1.alloc (.cells #[.int .i64 k, .string nm, .int .i64 no, .bool m', .int .i64 (min mo mo'), .slice none 0 0] 103)).drew := ((Below.refl w1.heap.size w1).alloc (Nat.le_refl _) _).drew
  generalize hw2 : (w1.alloc (.cells #[.int .i64 k, .string nm, .int .i64 no, .bool m', .int .i64 (min mo mo'), .slice none 0 0] 103)).drew = w2 at *
  have l2 := hp_lt hX2
  have HO := Lib.hid hX2
  have HX := Lib.hid (hp_later hb2 HX.out)
  have HY := Lib.hid (hp_later hb2 HY.out)
  have HB2 := Lib.hid (HB1.out.trans (hb2.mono HB1.out.size))
  clear hX2 hb2 x0 x1 x2 x3 x4 x5 y0 y1 y2 y3 y4 y5
  obtain ⟨x0, x1, x2, x3, x4, x5⟩ := box6 HX.out
  obtain ⟨y0, y1, y2, y3, y4, y5⟩ := box6 HY.out
  obtain ⟨qb, offq, px, vx, cx, wsx, rfl, hqb, q0, hkx, -⟩ := kps_at HRA.out HKA.out HB2.out hxi
  obtain ⟨rb, off, py, vy, cy, wsy, rfl, hrb, r0, hky, -⟩ := kps_at HRB.out HKB.out HB2.out hyi
  rw [Nat.add_zero] at q0 r0
  have hlx0 : 0 < ks.length := (List.getElem?_eq_some_iff.1 hxi).1
  have hly0 : 0 < us.length := (List.getElem?_eq_some_iff.1 hyi).1
  have hlx : (0 : Int) < (ks.length : Int) := by omega
  have hly : (0 : Int) < (us.length : Int) := by omega
  have HCALL : Hid (Calls Try.prog 39 #[.pointer (some ⟨px, 0, none⟩), .pointer (some ⟨py, 0, none⟩)] w2.drew (MeetP (fun q => S q ∧ q < w.heap.size) x y w2.drew)) := Lib.hid
    (HIH.out _ w2.drew _ _ (KP.keep (kept_below (HB2.out.drew)) (fun q h hl => ⟨h, hl⟩) _ _ hkx) (KP.keep (kept_below (HB2.out.drew)) (fun q h hl => ⟨h, hl⟩) _ _ hky))
  unfold MeetP at HCALL
  clear hkx hky HIH hxi hyi
  go_wp2_with fail
  refine wp_region_G [12] (fun w' => w'.cell? ⟨bx, 5, none⟩ = some (.slice (some ⟨qb, offq, none⟩) ks.length ca) ∧ w'.cell? ⟨bY, 5, none⟩ = some (.slice (some ⟨rb, off, none⟩) us.length cb) ∧ w'.cell? ⟨qb, offq, none⟩ = some (.pointer (some ⟨px, 0, none⟩)) ∧ w'.cell? ⟨rb, off, none⟩ = some (.pointer (some ⟨py, 0, none⟩))) (by kernel_rfl) ?_ (fun hHeld => ?_)
  · exact ⟨x5, y5, q0, r0⟩
  refine wpG_pure (i := 0) (oi := { dst := some 59, op := Go.Op.move (Go.Operand.tmp 0), type := 65, pos := "l2_type.go:224", after := #[], guard := none }) (v := ?vg110) rfl (by kernel_rfl) (fun _ _ _ h => h) (Or.inr hHeld) (Or.inl ⟨by rfl, ?yg110⟩) ?_
  case yg110 => (intro wS _; go_simp <;> with_reducible rfl)
  try simp only [Act.put, List.setIfInBounds_toArray, List.set_cons_zero, List.set_cons_succ]
  refine wpG_pure (i := 1) (oi := { dst := some 60, op := Go.Op.nilCheck (Go.Operand.tmp 59), type := 0, pos := "l2_type.go:224", after := #[{ on := 0, ground := Go.Ground.data }], guard := none }) (v := ?vg111) rfl (by kernel_rfl) (fun _ _ _ h => h) (Or.inr hHeld) (Or.inl ⟨by rfl, ?yg111⟩) ?_
  case yg111 => (intro wS _; go_simp <;> with_reducible rfl)
  try simp only [Act.put, List.setIfInBounds_toArray, List.set_cons_zero, List.set_cons_succ]
  refine wpG_pure (i := 2) (oi := { dst := some 61, op := Go.Op.fieldAddr 103 (Go.Operand.tmp 60) 5, type := 0, pos := "l2_type.go:224", after := #[{ on := 1, ground := Go.Ground.data }], guard := none }) (v := ?vg112) rfl (by kernel_rfl) (fun _ _ _ h => h) (Or.inr hHeld) (Or.inl ⟨by rfl, ?yg112⟩) ?_
  case yg112 => (intro wS _; go_simp <;> with_reducible rfl)
  try simp only [Act.put, List.setIfInBounds_toArray, List.set_cons_zero, List.set_cons_succ]
  refine wpG_load (i := 3) (oi := { dst := some 62, op := Go.Op.load 101 (Go.Operand.tmp 61), type := 101, pos := "l2_type.go:224", after := #[{ on := 2, ground := Go.Ground.data }], guard := none }) (v := ?vg113) [[12, 5, 4, 3]] rfl (by kernel_rfl) (fun _ _ _ h => h) hHeld (Or.inl ⟨by rfl, ?yg113⟩) ?_
  case yg113 => (intro wS hSw; (try dsimp only at hSw); go_simp <;> with_reducible rfl)
  try simp only [Act.put, List.setIfInBounds_toArray, List.set_cons_zero, List.set_cons_succ]
  refine wpG_pure (i := 4) (oi := { dst := some 63, op := Go.Op.indexAddr 101 (Go.Operand.tmp 62) (Go.Operand.const (Go.Value.int Go.IntKind.i64 0)), type := 0, pos := "l2_type.go:224", after := #[{ on := 3, ground := Go.Ground.data }], guard := none }) (v := ?vg114) rfl (by kernel_rfl) (fun _ _ _ h => h) (Or.inr hHeld) (Or.inl ⟨by rfl, ?yg114⟩) ?_
  case yg114 => (intro wS _; go_simp <;> with_reducible rfl)
  try simp only [Act.put, List.setIfInBounds_toArray, List.set_cons_zero, List.set_cons_succ]
  refine wpG_load (i := 5) (oi := { dst := some 64, op := Go.Op.load 65 (Go.Operand.tmp 63), type := 65, pos := "l2_type.go:224", after := #[{ on := 4, ground := Go.Ground.data }], guard := none }) (v := ?vg115) [[12, 5]] rfl (by kernel_rfl) (fun _ _ _ h => h) hHeld (Or.inl ⟨by rfl, ?yg115⟩) ?_
  case yg115 => (intro wS hSw; (try dsimp only at hSw); go_simp <;> with_reducible rfl)
  try simp only [Act.put, List.setIfInBounds_toArray, List.set_cons_zero, List.set_cons_succ]
  refine wpG_pure (i := 6) (oi := { dst := some 65, op := Go.Op.move (Go.Operand.tmp 1), type := 65, pos := "l2_type.go:224", after := #[], guard := none }) (v := ?vg116) rfl (by kernel_rfl) (fun _ _ _ h => h) (Or.inr hHeld) (Or.inl ⟨by rfl, ?yg116⟩) ?_
  case yg116 => (intro wS _; go_simp <;> with_reducible rfl)
  try simp only [Act.put, List.setIfInBounds_toArray, List.set_cons_zero, List.set_cons_succ]
  refine wpG_pure (i := 7) (oi := { dst := some 66, op := Go.Op.nilCheck (Go.Operand.tmp 65), type := 0, pos := "l2_type.go:224", after := #[{ on := 6, ground := Go.Ground.data }], guard := none }) (v := ?vg117) rfl (by kernel_rfl) (fun _ _ _ h => h) (Or.inr hHeld) (Or.inl ⟨by rfl, ?yg117⟩) ?_
  case yg117 => (intro wS _; go_simp <;> with_reducible rfl)
  try simp only [Act.put, List.setIfInBounds_toArray, List.set_cons_zero, List.set_cons_succ]
  refine wpG_pure (i := 8) (oi := { dst := some 67, op := Go.Op.fieldAddr 103 (Go.Operand.tmp 66) 5, type := 0, pos := "l2_type.go:224", after := #[{ on := 7, ground := Go.Ground.data }], guard := none }) (v := ?vg118) rfl (by kernel_rfl) (fun _ _ _ h => h) (Or.inr hHeld) (Or.inl ⟨by rfl, ?yg118⟩) ?_
  case yg118 => (intro wS _; go_simp <;> with_reducible rfl)
  try simp only [Act.put, List.setIfInBounds_toArray, List.set_cons_zero, List.set_cons_succ]
  refine wpG_load (i := 9) (oi := { dst := some 68, op := Go.Op.load 101 (Go.Operand.tmp 67), type := 101, pos := "l2_type.go:224", after := #[{ on := 8, ground := Go.Ground.data }], guard := none }) (v := ?vg119) [[12, 11, 10, 9]] rfl (by kernel_rfl) (fun _ _ _ h => h) hHeld (Or.inl ⟨by rfl, ?yg119⟩) ?_
  case yg119 => (intro wS hSw; (try dsimp only at hSw); go_simp <;> with_reducible rfl)
  try simp only [Act.put, List.setIfInBounds_toArray, List.set_cons_zero, List.set_cons_succ]
  refine wpG_pure (i := 10) (oi := { dst := some 69, op := Go.Op.indexAddr 101 (Go.Operand.tmp 68) (Go.Operand.const (Go.Value.int Go.IntKind.i64 0)), type := 0, pos := "l2_type.go:224", after := #[{ on := 9, ground := Go.Ground.data }], guard := none }) (v := ?vg120) rfl (by kernel_rfl) (fun _ _ _ h => h) (Or.inr hHeld) (Or.inl ⟨by rfl, ?yg120⟩) ?_
  case yg120 => (intro wS _; go_simp <;> with_reducible rfl)
  try simp only [Act.put, List.setIfInBounds_toArray, List.set_cons_zero, List.set_cons_succ]
  refine wpG_load (i := 11) (oi := { dst := some 70, op := Go.Op.load 65 (Go.Operand.tmp 69), type := 65, pos := "l2_type.go:224", after := #[{ on := 10, ground := Go.Ground.data }], guard := none }) (v := ?vg121) [[12, 11]] rfl (by kernel_rfl) (fun _ _ _ h => h) hHeld (Or.inl ⟨by rfl, ?yg121⟩) ?_
  case yg121 => (intro wS hSw; (try dsimp only at hSw); go_simp <;> with_reducible rfl)
  try simp only [Act.put, List.setIfInBounds_toArray, List.set_cons_zero, List.set_cons_succ]
  refine wpG_one (i := 12) (o := { dst := some 71, op := Go.Op.call { callee := Go.Callee.value (Go.Operand.func 39), args := #[Go.Operand.tmp 64, Go.Operand.tmp 70], argTypes := #[65, 65] }, type := 65, pos := "l2_type.go:224", after := #[{ on := 5, ground := Go.Ground.data }, { on := 11, ground := Go.Ground.data }], guard := none }) rfl (by kernel_rfl) (fun K hK => ?_)
  go_simp
  refine HCALL.out.mono ?_
  rintro e w3 ⟨p, rfl, hb3, hres⟩
  have HB3 := Lib.hid (HB2.out.trans ((show Below w2.heap.size w2 w3 from (Below.refl w2.heap.size w2).drew.trans hb3).mono HB2.out.size))
  have HO3 := Lib.hid (hp_later hb3 (show w2.drew.heap[w1.heap.size]? = _ from HO.out))
  have hz3 : w2.heap.size ≤ w3.heap.size := hb3.size
  have HRES := Lib.hid hres
  clear hb3 hres
  refine hK.out _ _ (Or.inl (by kernel_rfl)) (fun _ => ?_)
  clear hK K
  try simp only [Act.put, List.setIfInBounds_toArray, List.set_cons_zero, List.set_cons_succ]
  refine wpG_pure (i := 13) (oi := { dst := some 6, op := Go.Op.assign (Go.Operand.tmp 71), type := 65, pos := "l2_type.go:224", after := #[{ on := 12, ground := Go.Ground.data }, { on := 12, ground := Go.Ground.chain }, { on := 0, ground := Go.Ground.phase }, { on := 1, ground := Go.Ground.phase }, { on := 2, ground := Go.Ground.phase }, { on := 3, ground := Go.Ground.phase }, { on := 4, ground := Go.Ground.phase }, { on := 5, ground := Go.Ground.phase }, { on := 6, ground := Go.Ground.phase }, { on := 7, ground := Go.Ground.phase }, { on := 8, ground := Go.Ground.phase }, { on := 9, ground := Go.Ground.phase }, { on := 10, ground := Go.Ground.phase }, { on := 11, ground := Go.Ground.phase }, { on := 12, ground := Go.Ground.phase }], guard := none }) (v := ?vg123) rfl (by kernel_rfl) (fun _ _ _ h => h) (Or.inl (by kernel_rfl)) (Or.inl ⟨by rfl, ?yg123⟩) ?_
  case yg123 => (intro wS _; go_simp <;> with_reducible rfl)
  try simp only [Act.put, List.setIfInBounds_toArray, List.set_cons_zero, List.set_cons_succ]
  refine wpG_done (by kernel_rfl) ?_
  skip
  rcases HRES.out with ⟨hno, rfl⟩ | ⟨z, g, hyes, rfl, hkz⟩
  · have HN : Hid (meetT (.node k nm no false mo ks) (.node k' nm' no' m' mo' us) = none) := Lib.hid (by rw [HT.out, hno])
    clear hno
    go_wp2_with fail
    go_ret
    exact ⟨none, rfl, HB3.out, .inl ⟨HN.out, rfl⟩⟩
  have HY2 : Hid (meetT (.node k nm no false mo ks) (.node k' nm' no' m' mo' us) = some (.node k nm no m' (min mo mo') [z])) := Lib.hid (by rw [HT.out, hyes]; simp [Tr.kind, Tr.name, Tr.no, Tr.must, Tr.most])
  have hX4 := hp_alloc (.cells #[.pointer (some ⟨g, 0, none⟩)] 65) HO3.out
  have hP4 := heap_alloc_new w3 (.cells #[.pointer (some ⟨g, 0, none⟩)] 65)
  have hb4 := (HB3.out).alloc HB3.out.size (.cells #[.pointer (some ⟨g, 0, none⟩)] 65)
  have hK4 := kept_alloc (Kept.refl (fun q => (S q ∧ q < w.heap.size) ∨ w2.drew.heap.size ≤ q) w3) (.cells #[.pointer (some ⟨g, 0, none⟩)] 65)
  have hzz : w2.drew.heap.size = w2.heap.size := rfl
  have f5 := box6_z hX4 5
  obtain ⟨t0, t1, t2, t3, t4, t5⟩ := box6 hX4
  have HX5 := Lib.hid (box6_t5 hX4 (.slice (some ⟨w3.heap.size, 0, none⟩) 1 1))
  have HP5 := Lib.hid (hp_set (Y := w1.heap.size) (i := 5) (u := .slice (some ⟨w3.heap.size, 0, none⟩) 1 1) hP4 (by omega))
  have HB5 := Lib.hid (below_set hb4 hz1 5 (.slice (some ⟨w3.heap.size, 0, none⟩) 1 1))
  have HK5 := Lib.hid (kept_set hK4 (X := w1.heap.size) (by rintro (⟨_, h⟩ | h) <;> omega) 5 (.slice (some ⟨w3.heap.size, 0, none⟩) 1 1))
  have HKZ := Lib.hid hkz
  have HW := Lib.hid hz1
  clear hX4 hP4 hb4 hK4 hkz hyes
  go_wp2_with fail
  go_ret
  refine ⟨some ⟨w1.heap.size, 0, none⟩, rfl, HB5.out, .inr ⟨_, w1.heap.size, HY2.out, rfl, ?_⟩⟩
  have hz1 := HW.out
  have hsz5 := hp_lt HP5.out
  rw [KP]
  refine ⟨w1.heap.size, some ⟨w3.heap.size, 0, none⟩, 1, [.pointer (some ⟨g, 0, none⟩)], rfl, .inr hz1, HX5.out, hnm, by simp, by decide, .inr ⟨w3.heap.size, 0, rfl, .inr (by omega), hsz5, fun i u hi => ?_⟩, ?_⟩
  · rw [Nat.zero_add]
    simp only [World.cell?, HP5.out]
    simpa using hi
  · rw [KPs]
    refine ⟨_, [], rfl, KP.keep HK5.out (fun q hq _ => ?_) _ _ HKZ.out, by rw [KPs]⟩
    rcases hq with ⟨h1, _⟩ | h1
    · exact .inl h1
    · exact .inr (by omega)
end Go.Proofs.Ytmlnecopbncdbaa
