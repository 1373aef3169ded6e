/- When a type takes in another one: the program's walk. -/
import Derived.Test.YtmlnecopbncdbaaTyT
import Derived.Test.YtmlnecopbncdbaaTyL
namespace Go.Proofs.Ytmlnecopbncdbaa
set_option linter.unusedVariables false
set_option linter.unusedSimpArgs false
open Go.ChangeShapes Go.WideShapes Go.ChangeAt Go.RowKit
set_option maxRecDepth 100000

theorem fidx_cases {α : Type} (p : α → Bool) (xs : List α) : (xs.find? p = none ∧ fidx p xs = -1) ∨ ∃ (i : Nat) (x : α), xs[i]? = some x ∧ xs.find? p = some x ∧ fidx p xs = (i : Int) := by
  unfold fidx
  cases h : xs.findIdx? p with
  | none =>
    left
    rw [List.findIdx?_eq_none_iff] at h
    refine ⟨?_, rfl⟩
    rw [List.find?_eq_none]
    intro x hx
    simp [h x hx]
  | some i =>
    right
    obtain ⟨hi, hp, hb⟩ := List.findIdx?_eq_some_iff_getElem.1 h
    refine ⟨i, xs[i], List.getElem?_eq_getElem hi, ?_, rfl⟩
    rw [List.find?_eq_some_iff_getElem]
    exact ⟨hp, i, hi, rfl, fun j hj => by have := hb j hj; simpa using this⟩
set_option maxHeartbeats 1000000 in
theorem clo_part {S : Nat → Prop} {w : World} {x : Tr} {v : Value} {cb : Nat} {no : Int} (hcb : w.cell? ⟨cb, 0, none⟩ = some (.int .i64 no)) (h : KP S w x v) :
    Calls Try.prog 85 #[v, .pointer (some ⟨cb, 0, none⟩)] w fun e w' => e = .returned (.bool (x.no == no)) ∧ Below w.heap.size w w' := by
  obtain ⟨pb, va, c, vs, rfl, -, hp, hc, -⟩ := h.open
  obtain ⟨x0, x1, x2, x3, x4, x5⟩ := box6 hc
  clear hc h
  go_enter Try.func85, Try.ntmps85
  go_wp2_with fail
  refine wp_region_G [] (fun w' => w'.cell? ⟨pb, 2, none⟩ = some (.int .i64 x.no) ∧ w'.cell? ⟨cb, 0, none⟩ = some (.int .i64 no)) (by kernel_rfl) ?_ (fun hHeld => ?_)
  · exact ⟨x2, hcb⟩
  refine wpG_pure (i := 0) (oi := { dst := some 4, op := Go.Op.move (Go.Operand.tmp 0), type := 65, pos := "l2_type.go:176", after := #[], guard := none }) (v := ?vg1) rfl (by kernel_rfl) (fun _ _ _ h => h) (Or.inr hHeld) (Or.inl ⟨by rfl, ?yg1⟩) ?_
  case yg1 => (intro wS _; go_simp <;> with_reducible rfl)
  try simp only [Act.put, List.setIfInBounds_toArray, List.set_cons_zero, List.set_cons_succ]
  refine wpG_pure (i := 1) (oi := { dst := some 5, op := Go.Op.nilCheck (Go.Operand.tmp 4), type := 0, pos := "l2_type.go:176", after := #[{ on := 0, ground := Go.Ground.data }], guard := none }) (v := ?vg2) rfl (by kernel_rfl) (fun _ _ _ h => h) (Or.inr hHeld) (Or.inl ⟨by rfl, ?yg2⟩) ?_
  case yg2 => (intro wS _; go_simp <;> with_reducible rfl)
  try simp only [Act.put, List.setIfInBounds_toArray, List.set_cons_zero, List.set_cons_succ]
  refine wpG_pure (i := 2) (oi := { dst := some 6, op := Go.Op.fieldAddr 103 (Go.Operand.tmp 5) 2, type := 0, pos := "l2_type.go:176", after := #[{ on := 1, ground := Go.Ground.data }], guard := none }) (v := ?vg3) rfl (by kernel_rfl) (fun _ _ _ h => h) (Or.inr hHeld) (Or.inl ⟨by rfl, ?yg3⟩) ?_
  case yg3 => (intro wS _; go_simp <;> with_reducible rfl)
  try simp only [Act.put, List.setIfInBounds_toArray, List.set_cons_zero, List.set_cons_succ]
  refine wpG_load (i := 3) (oi := { dst := some 7, op := Go.Op.load 3 (Go.Operand.tmp 6), type := 3, pos := "l2_type.go:176", after := #[{ on := 2, ground := Go.Ground.data }], guard := none }) (v := ?vg4) [] rfl (by kernel_rfl) (fun _ _ _ h => h) hHeld (Or.inl ⟨by rfl, ?yg4⟩) ?_
  case yg4 => (intro wS hSw; (try dsimp only at hSw); go_simp <;> with_reducible rfl)
  try simp only [Act.put, List.setIfInBounds_toArray, List.set_cons_zero, List.set_cons_succ]
  refine wpG_load (i := 4) (oi := { dst := some 8, op := Go.Op.load 3 (Go.Operand.tmp 1), type := 3, pos := "l2_type.go:176", after := #[], guard := none }) (v := ?vg5) [] rfl (by kernel_rfl) (fun _ _ _ h => h) hHeld (Or.inl ⟨by rfl, ?yg5⟩) ?_
  case yg5 => (intro wS hSw; (try dsimp only at hSw); go_simp <;> with_reducible rfl)
  try simp only [Act.put, List.setIfInBounds_toArray, List.set_cons_zero, List.set_cons_succ]
  refine wpG_pure (i := 5) (oi := { dst := some 9, op := Go.Op.binOp Go.BinOp.eql 3 (Go.Operand.tmp 7) (Go.Operand.tmp 8) 3, type := 4, pos := "l2_type.go:176", after := #[{ on := 3, ground := Go.Ground.data }, { on := 4, ground := Go.Ground.data }], guard := none }) (v := ?vg6) rfl (by kernel_rfl) (fun _ _ _ h => h) (Or.inr hHeld) (Or.inl ⟨by rfl, ?yg6⟩) ?_
  case yg6 => (intro wS _; go_simp <;> with_reducible rfl)
  try simp only [Act.put, List.setIfInBounds_toArray, List.set_cons_zero, List.set_cons_succ]
  refine wpG_pure (i := 6) (oi := { dst := some 3, op := Go.Op.assign (Go.Operand.tmp 9), type := 4, pos := "l2_type.go:176", after := #[{ on := 5, ground := Go.Ground.data }, { on := 0, ground := Go.Ground.phase }, { on := 1, ground := Go.Ground.phase }, { on := 2, ground := Go.Ground.phase }, { on := 3, ground := Go.Ground.phase }, { on := 4, ground := Go.Ground.phase }, { on := 5, ground := Go.Ground.phase }], guard := none }) (v := ?vg7) rfl (by kernel_rfl) (fun _ _ _ h => h) (Or.inr hHeld) (Or.inl ⟨by rfl, ?yg7⟩) ?_
  case yg7 => (intro wS _; go_simp <;> with_reducible rfl)
  try simp only [Act.put, List.setIfInBounds_toArray, List.set_cons_zero, List.set_cons_succ]
  refine wpG_done (by kernel_rfl) ?_
  go_wp2_with fail
  go_ret
  exact ⟨rfl, (Below.refl _ _).drew⟩
/-- the part with a number, in memory -/
def PartV (S : Nat → Prop) (t : Tr) (no : Int) (w : World) (e : Ending) (w' : World) : Prop :=
  ∃ v, e = .returned v ∧ Below w.heap.size w w' ∧ ((byNo t.kids no = none ∧ v = .pointer none) ∨ ∃ x, byNo t.kids no = some x ∧ KP S w' x v)
set_option maxHeartbeats 2000000 in
theorem impl_part {S : Nat → Prop} {w : World} {t : Tr} {p : Value} (h : KP S w t p) (hl : t.kids.length ≤ 1048576) (no : Int) : Calls Try.prog 70 #[p, .int .i64 no] w (PartV S t no w) := by
  unfold PartV
  obtain ⟨b, a, c, vs, rfl, hS, hb, hc, -, hkc, hcm, hrow, hks⟩ := h.open
  have hB1 := Below.alloc (Below.refl w.heap.size w) (Nat.le_refl _) (.cells #[.int .i64 no] 3)
  have hx : (w.alloc (.cells #[.int .i64 no] 3)).cell? ⟨w.heap.size, 0, none⟩ = some (.int .i64 no) := by simp
  generalize hw1 : w.alloc (.cells #[.int .i64 no] 3) = w1 at *
  have HB1 := Lib.hid hB1
  have HRO := Lib.hid (hrow.keep (T := S) (kept_below hB1) (fun _ h _ => h))
  have HKS := Lib.hid (KPs.keep (T := S) (kept_below hB1) (fun _ h _ => h) _ _ hks)
  have HX := Lib.hid (hp_later hB1 hc)
  have HIX := Lib.hid (idx_part (a := a) (cap := c) (.pointer (some ⟨w.heap.size, 0, none⟩)) (fun x => x.no == no) HRO.out HKS.out hl (fun wx x v hbx _ hk => clo_part (below_later hbx hx) hk))
  obtain ⟨x0, x1, x2, x3, x4, x5⟩ := box6 HX.out
  unfold byNo
  clear hB1 hc hrow hks h
  rcases fidx_cases (fun x : Tr => x.no == no) t.kids with ⟨f1, f2⟩ | ⟨i, x, f0, f1, f2⟩
  · rw [f2] at HIX
    have HF := Lib.hid f1
    clear f1 f2
    go_enter Try.func70, Try.ntmps70
    go_wp2_with fail
    refine HIX.out.mono ?_
    rintro e w2 ⟨rfl, hb2⟩
    have HB2 := Lib.hid (HB1.out.trans (hb2.mono HB1.out.size))
    clear hb2
    go_wp2_with fail
    go_ret
    exact ⟨_, rfl, HB2.out, .inl ⟨HF.out, rfl⟩⟩
  · rw [f2] at HIX
    have HF := Lib.hid f1
    have HI := Lib.hid f0
    have hil := (List.getElem?_eq_some_iff.1 f0).1
    have hi0 : ¬ ((i : Int) < 0) := by omega
    clear f0 f1 f2
    go_enter Try.func70, Try.ntmps70
    go_wp2_with fail
    refine HIX.out.mono ?_
    rintro e w2 ⟨rfl, hb2⟩
    have HB2 := Lib.hid (HB1.out.trans (hb2.mono HB1.out.size))
    obtain ⟨rb, off, pb, va, ca, ws, rfl, hrb, r0, hkp, -⟩ := kps_at HRO.out HKS.out hb2 HI.out
    have HKP := Lib.hid (hkp.keep (T := S) (kept_below hb2) (fun _ h _ => h))
    have z5 := below_later hb2 x5
    clear hb2 hkp
    go_wp2_with fail
    go_ret
    exact ⟨_, rfl, HB2.out, .inr ⟨x, HF.out, HKP.out⟩⟩
/-- a part of the second type that the first has -/
def HasP (us : List Tr) (y : Tr) : Prop := ∃ x, byNo us y.no = some x ∧ (y.must = true → x.must = true) ∧ subT x y = true
theorem sub_msg {a b : Tr} (hk : a.kind = b.kind) (hm : a.most ≤ b.most) (h4 : ¬ b.kind = 4) : subT a b = true ↔ ∀ y ∈ b.kids, HasP a.kids y := by
  rw [subT_eq, Bool.and_eq_true, Bool.and_eq_true, beq_iff_eq, decide_eq_true_iff, if_neg h4, subL_iff]
  exact ⟨fun h => h.2, fun h => ⟨⟨hk, hm⟩, h⟩⟩
theorem sub_lst {a b x y : Tr} (hk : a.kind = b.kind) (hm : a.most ≤ b.most) (h4 : b.kind = 4) (ha : a.kids = [x]) (hb : b.kids = [y]) : subT a b = subT x y := by
  rw [subT_eq, beq_iff_eq.2 hk, decide_eq_true hm, if_pos h4, Bool.true_and, Bool.true_and, ha, hb]
  simp [subF]
theorem take_mem {l : List Tr} {i : Nat} {P : Tr → Prop} {y : Tr} (h : ∀ z ∈ l.take i, P z) (hy : l[i]? = some y) (hp : P y) : ∀ z ∈ l.take (i + 1), P z := by
  rw [take_snocT hy]
  intro z hz
  rcases List.mem_append.1 hz with hz | hz
  · exact h z hz
  · rw [List.mem_singleton] at hz; rw [hz]; exact hp
set_option maxHeartbeats 8000000 in
theorem impl_under_one {S T : Nat → Prop} {w : World} {a b : Tr} {pa pb : Value} (ha : KP S w a pa) (hb : KP T w b pb) (hra : RightT a) (hrb : RightT b) (hla : countT a ≤ 1048576) (hlb : countT b ≤ 1048576)
    (IH : ∀ (wx : World) (x y : Tr) (px py : Value), x ∈ a.kids → y ∈ b.kids → KP S wx x px → KP T wx y py → Calls Try.prog 54 #[px, py] wx fun e w' => e = .returned (.bool (subT x y)) ∧ Below wx.heap.size wx w') :
    Calls Try.prog 54 #[pa, pb] w fun e w' => e = .returned (.bool (subT a b)) ∧ Below w.heap.size w w' := by
  have hkla : a.kids.length ≤ 1048576 := by have := count_kids a; have := count_len a.kids; omega
  have HIH := Lib.hid IH
  have HPT := Lib.hid (fun wx no (hbx : Below w.heap.size w wx) => impl_part (ha.keep (T := S) (kept_below hbx) (fun _ h _ => h)) hkla no)
  unfold PartV at HPT
  obtain ⟨ba, sa, ca, va, rfl, -, hba, hca, -, hkca, hcma, hrowa, hksa⟩ := ha.open
  obtain ⟨bb, sb, cb, vb, rfl, -, hbb, hcb, -, hkcb, hcmb, hrowb, hksb⟩ := hb.open
  obtain ⟨a0, a1, a2, a3, a4, a5⟩ := box6 hca
  obtain ⟨b0, b1, b2, b3, b4, b5⟩ := box6 hcb
  have HCA := Lib.hid hca
  have HROA := Lib.hid hrowa; have HKA := Lib.hid hksa
  have HROB := Lib.hid hrowb; have HKB := Lib.hid hksb
  clear IH ha hb hca hcb hrowa hksa hrowb hksb hla hlb
  generalize hRES : subT a b = RES
  by_cases hk : a.kind = b.kind
  case neg =>
    obtain rfl : RES = false := by rw [← hRES, subT_eq, beq_eq_false_iff_ne.2 hk]; rfl
    have nk : (a.kind != b.kind) = true := bne_iff_ne.2 hk
    clear hRES hk
    go_enter Try.func54, Try.ntmps54
    go_wp2_with fail
    refine wp_region_G [] (fun w' => w'.cell? ⟨ba, 0, none⟩ = some (.int .i64 a.kind) ∧ w'.cell? ⟨bb, 0, none⟩ = some (.int .i64 b.kind)) (by kernel_rfl) ?_ (fun hHeld => ?_)
    · exact ⟨a0, b0⟩
    refine wpG_pure (i := 0) (oi := { dst := some 9, op := Go.Op.move (Go.Operand.tmp 0), type := 65, pos := "l2_type.go:185", after := #[], guard := none }) (v := ?vg8) rfl (by kernel_rfl) (fun _ _ _ h => h) (Or.inr hHeld) (Or.inl ⟨by rfl, ?yg8⟩) ?_
    case yg8 => (intro wS _; go_simp <;> with_reducible rfl)
    try simp only [Act.put, List.setIfInBounds_toArray, List.set_cons_zero, List.set_cons_succ]
    refine wpG_pure (i := 1) (oi := { dst := some 10, op := Go.Op.nilCheck (Go.Operand.tmp 9), type := 0, pos := "l2_type.go:185", after := #[{ on := 0, ground := Go.Ground.data }], guard := none }) (v := ?vg9) rfl (by kernel_rfl) (fun _ _ _ h => h) (Or.inr hHeld) (Or.inl ⟨by rfl, ?yg9⟩) ?_
    case yg9 => (intro wS _; go_simp <;> with_reducible rfl)
    try simp only [Act.put, List.setIfInBounds_toArray, List.set_cons_zero, List.set_cons_succ]
    refine wpG_pure (i := 2) (oi := { dst := some 11, op := Go.Op.fieldAddr 103 (Go.Operand.tmp 10) 0, type := 0, pos := "l2_type.go:185", after := #[{ on := 1, ground := Go.Ground.data }], guard := none }) (v := ?vg10) rfl (by kernel_rfl) (fun _ _ _ h => h) (Or.inr hHeld) (Or.inl ⟨by rfl, ?yg10⟩) ?_
    case yg10 => (intro wS _; go_simp <;> with_reducible rfl)
    try simp only [Act.put, List.setIfInBounds_toArray, List.set_cons_zero, List.set_cons_succ]
    refine wpG_load (i := 3) (oi := { dst := some 12, op := Go.Op.load 3 (Go.Operand.tmp 11), type := 3, pos := "l2_type.go:185", after := #[{ on := 2, ground := Go.Ground.data }], guard := none }) (v := ?vg11) [] rfl (by kernel_rfl) (fun _ _ _ h => h) hHeld (Or.inl ⟨by rfl, ?yg11⟩) ?_
    case yg11 => (intro wS hSw; (try dsimp only at hSw); go_simp <;> with_reducible rfl)
    try simp only [Act.put, List.setIfInBounds_toArray, List.set_cons_zero, List.set_cons_succ]
    refine wpG_pure (i := 4) (oi := { dst := some 13, op := Go.Op.move (Go.Operand.tmp 1), type := 65, pos := "l2_type.go:185", after := #[], guard := none }) (v := ?vg12) rfl (by kernel_rfl) (fun _ _ _ h => h) (Or.inr hHeld) (Or.inl ⟨by rfl, ?yg12⟩) ?_
    case yg12 => (intro wS _; go_simp <;> with_reducible rfl)
    try simp only [Act.put, List.setIfInBounds_toArray, List.set_cons_zero, List.set_cons_succ]
    refine wpG_pure (i := 5) (oi := { dst := some 14, op := Go.Op.nilCheck (Go.Operand.tmp 13), type := 0, pos := "l2_type.go:185", after := #[{ on := 4, ground := Go.Ground.data }], guard := none }) (v := ?vg13) rfl (by kernel_rfl) (fun _ _ _ h => h) (Or.inr hHeld) (Or.inl ⟨by rfl, ?yg13⟩) ?_
    case yg13 => (intro wS _; go_simp <;> with_reducible rfl)
    try simp only [Act.put, List.setIfInBounds_toArray, List.set_cons_zero, List.set_cons_succ]
    refine wpG_pure (i := 6) (oi := { dst := some 15, op := Go.Op.fieldAddr 103 (Go.Operand.tmp 14) 0, type := 0, pos := "l2_type.go:185", after := #[{ on := 5, ground := Go.Ground.data }], guard := none }) (v := ?vg14) rfl (by kernel_rfl) (fun _ _ _ h => h) (Or.inr hHeld) (Or.inl ⟨by rfl, ?yg14⟩) ?_
    case yg14 => (intro wS _; go_simp <;> with_reducible rfl)
    try simp only [Act.put, List.setIfInBounds_toArray, List.set_cons_zero, List.set_cons_succ]
    refine wpG_load (i := 7) (oi := { dst := some 16, op := Go.Op.load 3 (Go.Operand.tmp 15), type := 3, pos := "l2_type.go:185", after := #[{ on := 6, ground := Go.Ground.data }], guard := none }) (v := ?vg15) [] rfl (by kernel_rfl) (fun _ _ _ h => h) hHeld (Or.inl ⟨by rfl, ?yg15⟩) ?_
    case yg15 => (intro wS hSw; (try dsimp only at hSw); go_simp <;> with_reducible rfl)
    try simp only [Act.put, List.setIfInBounds_toArray, List.set_cons_zero, List.set_cons_succ]
    refine wpG_pure (i := 8) (oi := { dst := some 17, op := Go.Op.binOp Go.BinOp.neq 3 (Go.Operand.tmp 12) (Go.Operand.tmp 16) 3, type := 4, pos := "l2_type.go:185", after := #[{ on := 3, ground := Go.Ground.data }, { on := 7, ground := Go.Ground.data }], guard := none }) (v := ?vg16) rfl (by kernel_rfl) (fun _ _ _ h => h) (Or.inr hHeld) (Or.inl ⟨by rfl, ?yg16⟩) ?_
    case yg16 => (intro wS _; go_simp <;> with_reducible rfl)
    try simp only [Act.put, List.setIfInBounds_toArray, List.set_cons_zero, List.set_cons_succ]
    refine wpG_pure (i := 9) (oi := { dst := some 18, op := Go.Op.move (Go.Operand.tmp 17), type := 4, pos := "l2_type.go:185", after := #[{ on := 8, ground := Go.Ground.data }], guard := none }) (v := ?vg17) rfl (by kernel_rfl) (fun _ _ _ h => h) (Or.inr hHeld) (Or.inl ⟨by rfl, ?yg17⟩) ?_
    case yg17 => (intro wS _; go_simp <;> with_reducible rfl)
    try simp only [Act.put, List.setIfInBounds_toArray, List.set_cons_zero, List.set_cons_succ]
    refine wpG_pure (i := 10) (oi := { dst := some 19, op := Go.Op.move (Go.Operand.tmp 0), type := 65, pos := "l2_type.go:185", after := #[{ on := 9, ground := Go.Ground.guard }], guard := some (9, false) }) (v := undef) rfl (by kernel_rfl) (fun _ _ _ h => h) (Or.inr hHeld) (Or.inr ⟨by rfl, rfl⟩) ?_
    try simp only [Act.put, List.setIfInBounds_toArray, List.set_cons_zero, List.set_cons_succ]
    refine wpG_pure (i := 11) (oi := { dst := some 20, op := Go.Op.nilCheck (Go.Operand.tmp 19), type := 0, pos := "l2_type.go:185", after := #[{ on := 10, ground := Go.Ground.data }, { on := 9, ground := Go.Ground.guard }], guard := some (9, false) }) (v := undef) rfl (by kernel_rfl) (fun _ _ _ h => h) (Or.inr hHeld) (Or.inr ⟨by rfl, rfl⟩) ?_
    try simp only [Act.put, List.setIfInBounds_toArray, List.set_cons_zero, List.set_cons_succ]
    refine wpG_pure (i := 12) (oi := { dst := some 21, op := Go.Op.fieldAddr 103 (Go.Operand.tmp 20) 4, type := 0, pos := "l2_type.go:185", after := #[{ on := 11, ground := Go.Ground.data }, { on := 9, ground := Go.Ground.guard }], guard := some (9, false) }) (v := undef) rfl (by kernel_rfl) (fun _ _ _ h => h) (Or.inr hHeld) (Or.inr ⟨by rfl, rfl⟩) ?_
    try simp only [Act.put, List.setIfInBounds_toArray, List.set_cons_zero, List.set_cons_succ]
    refine wpG_pure (i := 13) (oi := { dst := some 22, op := Go.Op.load 3 (Go.Operand.tmp 21), type := 3, pos := "l2_type.go:185", after := #[{ on := 12, ground := Go.Ground.data }, { on := 9, ground := Go.Ground.guard }], guard := some (9, false) }) (v := undef) rfl (by kernel_rfl) (fun _ _ _ h => h) (Or.inr hHeld) (Or.inr ⟨by rfl, rfl⟩) ?_
    try simp only [Act.put, List.setIfInBounds_toArray, List.set_cons_zero, List.set_cons_succ]
    refine wpG_pure (i := 14) (oi := { dst := some 23, op := Go.Op.move (Go.Operand.tmp 1), type := 65, pos := "l2_type.go:185", after := #[{ on := 9, ground := Go.Ground.guard }], guard := some (9, false) }) (v := undef) rfl (by kernel_rfl) (fun _ _ _ h => h) (Or.inr hHeld) (Or.inr ⟨by rfl, rfl⟩) ?_
    try simp only [Act.put, List.setIfInBounds_toArray, List.set_cons_zero, List.set_cons_succ]
    refine wpG_pure (i := 15) (oi := { dst := some 24, op := Go.Op.nilCheck (Go.Operand.tmp 23), type := 0, pos := "l2_type.go:185", after := #[{ on := 14, ground := Go.Ground.data }, { on := 9, ground := Go.Ground.guard }], guard := some (9, false) }) (v := undef) rfl (by kernel_rfl) (fun _ _ _ h => h) (Or.inr hHeld) (Or.inr ⟨by rfl, rfl⟩) ?_
    try simp only [Act.put, List.setIfInBounds_toArray, List.set_cons_zero, List.set_cons_succ]
    refine wpG_pure (i := 16) (oi := { dst := some 25, op := Go.Op.fieldAddr 103 (Go.Operand.tmp 24) 4, type := 0, pos := "l2_type.go:185", after := #[{ on := 15, ground := Go.Ground.data }, { on := 9, ground := Go.Ground.guard }], guard := some (9, false) }) (v := undef) rfl (by kernel_rfl) (fun _ _ _ h => h) (Or.inr hHeld) (Or.inr ⟨by rfl, rfl⟩) ?_
    try simp only [Act.put, List.setIfInBounds_toArray, List.set_cons_zero, List.set_cons_succ]
    refine wpG_pure (i := 17) (oi := { dst := some 26, op := Go.Op.load 3 (Go.Operand.tmp 25), type := 3, pos := "l2_type.go:185", after := #[{ on := 16, ground := Go.Ground.data }, { on := 9, ground := Go.Ground.guard }], guard := some (9, false) }) (v := undef) rfl (by kernel_rfl) (fun _ _ _ h => h) (Or.inr hHeld) (Or.inr ⟨by rfl, rfl⟩) ?_
    try simp only [Act.put, List.setIfInBounds_toArray, List.set_cons_zero, List.set_cons_succ]
    refine wpG_pure (i := 18) (oi := { dst := some 27, op := Go.Op.binOp Go.BinOp.gtr 3 (Go.Operand.tmp 22) (Go.Operand.tmp 26) 3, type := 4, pos := "l2_type.go:185", after := #[{ on := 13, ground := Go.Ground.data }, { on := 17, ground := Go.Ground.data }, { on := 9, ground := Go.Ground.guard }], guard := some (9, false) }) (v := undef) rfl (by kernel_rfl) (fun _ _ _ h => h) (Or.inr hHeld) (Or.inr ⟨by rfl, rfl⟩) ?_
    try simp only [Act.put, List.setIfInBounds_toArray, List.set_cons_zero, List.set_cons_succ]
    refine wpG_pure (i := 19) (oi := { dst := some 28, op := Go.Op.pick (Go.Operand.tmp 18) (Go.Operand.const (Go.Value.bool true)) (Go.Operand.tmp 27), type := 4, pos := "l2_type.go:185", after := #[{ on := 9, ground := Go.Ground.data }, { on := 18, ground := Go.Ground.data }], guard := none }) (v := ?vg27) rfl (by kernel_rfl) (fun _ _ _ h => h) (Or.inr hHeld) (Or.inl ⟨by rfl, ?yg27⟩) ?_
    case yg27 => (intro wS _; go_simp <;> with_reducible rfl)
    try simp only [Act.put, List.setIfInBounds_toArray, List.set_cons_zero, List.set_cons_succ]
    refine wpG_done (by kernel_rfl) ?_
    go_wp2_with fail
    go_ret
    exact ⟨rfl, (Below.refl _ _).drew⟩
  have nk : (a.kind != b.kind) = false := by rw [hk]; exact bne_self_eq_false _
  by_cases hm : a.most > b.most
  · obtain rfl : RES = false := by rw [← hRES, subT_eq, decide_eq_false (by omega), Bool.and_false]; rfl
    clear hRES hk
    go_enter Try.func54, Try.ntmps54
    go_wp2_with fail
    refine wp_region_G [] (fun w' => w'.cell? ⟨ba, 0, none⟩ = some (.int .i64 a.kind) ∧ w'.cell? ⟨bb, 0, none⟩ = some (.int .i64 b.kind) ∧ w'.cell? ⟨ba, 4, none⟩ = some (.int .i64 a.most) ∧ w'.cell? ⟨bb, 4, none⟩ = some (.int .i64 b.most)) (by kernel_rfl) ?_ (fun hHeld => ?_)
    · exact ⟨a0, b0, a4, b4⟩
    refine wpG_pure (i := 0) (oi := { dst := some 9, op := Go.Op.move (Go.Operand.tmp 0), type := 65, pos := "l2_type.go:185", after := #[], guard := none }) (v := ?vg28) rfl (by kernel_rfl) (fun _ _ _ h => h) (Or.inr hHeld) (Or.inl ⟨by rfl, ?yg28⟩) ?_
    case yg28 => (intro wS _; go_simp <;> with_reducible rfl)
    try simp only [Act.put, List.setIfInBounds_toArray, List.set_cons_zero, List.set_cons_succ]
    refine wpG_pure (i := 1) (oi := { dst := some 10, op := Go.Op.nilCheck (Go.Operand.tmp 9), type := 0, pos := "l2_type.go:185", after := #[{ on := 0, ground := Go.Ground.data }], guard := none }) (v := ?vg29) rfl (by kernel_rfl) (fun _ _ _ h => h) (Or.inr hHeld) (Or.inl ⟨by rfl, ?yg29⟩) ?_
    case yg29 => (intro wS _; go_simp <;> with_reducible rfl)
    try simp only [Act.put, List.setIfInBounds_toArray, List.set_cons_zero, List.set_cons_succ]
    refine wpG_pure (i := 2) (oi := { dst := some 11, op := Go.Op.fieldAddr 103 (Go.Operand.tmp 10) 0, type := 0, pos := "l2_type.go:185", after := #[{ on := 1, ground := Go.Ground.data }], guard := none }) (v := ?vg30) rfl (by kernel_rfl) (fun _ _ _ h => h) (Or.inr hHeld) (Or.inl ⟨by rfl, ?yg30⟩) ?_
    case yg30 => (intro wS _; go_simp <;> with_reducible rfl)
    try simp only [Act.put, List.setIfInBounds_toArray, List.set_cons_zero, List.set_cons_succ]
    refine wpG_load (i := 3) (oi := { dst := some 12, op := Go.Op.load 3 (Go.Operand.tmp 11), type := 3, pos := "l2_type.go:185", after := #[{ on := 2, ground := Go.Ground.data }], guard := none }) (v := ?vg31) [] rfl (by kernel_rfl) (fun _ _ _ h => h) hHeld (Or.inl ⟨by rfl, ?yg31⟩) ?_
    case yg31 => (intro wS hSw; (try dsimp only at hSw); go_simp <;> with_reducible rfl)
    try simp only [Act.put, List.setIfInBounds_toArray, List.set_cons_zero, List.set_cons_succ]
    refine wpG_pure (i := 4) (oi := { dst := some 13, op := Go.Op.move (Go.Operand.tmp 1), type := 65, pos := "l2_type.go:185", after := #[], guard := none }) (v := ?vg32) rfl (by kernel_rfl) (fun _ _ _ h => h) (Or.inr hHeld) (Or.inl ⟨by rfl, ?yg32⟩) ?_
    case yg32 => (intro wS _; go_simp <;> with_reducible rfl)
    try simp only [Act.put, List.setIfInBounds_toArray, List.set_cons_zero, List.set_cons_succ]
    refine wpG_pure (i := 5) (oi := { dst := some 14, op := Go.Op.nilCheck (Go.Operand.tmp 13), type := 0, pos := "l2_type.go:185", after := #[{ on := 4, ground := Go.Ground.data }], guard := none }) (v := ?vg33) rfl (by kernel_rfl) (fun _ _ _ h => h) (Or.inr hHeld) (Or.inl ⟨by rfl, ?yg33⟩) ?_
    case yg33 => (intro wS _; go_simp <;> with_reducible rfl)
    try simp only [Act.put, List.setIfInBounds_toArray, List.set_cons_zero, List.set_cons_succ]
    refine wpG_pure (i := 6) (oi := { dst := some 15, op := Go.Op.fieldAddr 103 (Go.Operand.tmp 14) 0, type := 0, pos := "l2_type.go:185", after := #[{ on := 5, ground := Go.Ground.data }], guard := none }) (v := ?vg34) rfl (by kernel_rfl) (fun _ _ _ h => h) (Or.inr hHeld) (Or.inl ⟨by rfl, ?yg34⟩) ?_
    case yg34 => (intro wS _; go_simp <;> with_reducible rfl)
    try simp only [Act.put, List.setIfInBounds_toArray, List.set_cons_zero, List.set_cons_succ]
    refine wpG_load (i := 7) (oi := { dst := some 16, op := Go.Op.load 3 (Go.Operand.tmp 15), type := 3, pos := "l2_type.go:185", after := #[{ on := 6, ground := Go.Ground.data }], guard := none }) (v := ?vg35) [] rfl (by kernel_rfl) (fun _ _ _ h => h) hHeld (Or.inl ⟨by rfl, ?yg35⟩) ?_
    case yg35 => (intro wS hSw; (try dsimp only at hSw); go_simp <;> with_reducible rfl)
    try simp only [Act.put, List.setIfInBounds_toArray, List.set_cons_zero, List.set_cons_succ]
    refine wpG_pure (i := 8) (oi := { dst := some 17, op := Go.Op.binOp Go.BinOp.neq 3 (Go.Operand.tmp 12) (Go.Operand.tmp 16) 3, type := 4, pos := "l2_type.go:185", after := #[{ on := 3, ground := Go.Ground.data }, { on := 7, ground := Go.Ground.data }], guard := none }) (v := ?vg36) rfl (by kernel_rfl) (fun _ _ _ h => h) (Or.inr hHeld) (Or.inl ⟨by rfl, ?yg36⟩) ?_
    case yg36 => (intro wS _; go_simp <;> with_reducible rfl)
    try simp only [Act.put, List.setIfInBounds_toArray, List.set_cons_zero, List.set_cons_succ]
    refine wpG_pure (i := 9) (oi := { dst := some 18, op := Go.Op.move (Go.Operand.tmp 17), type := 4, pos := "l2_type.go:185", after := #[{ on := 8, ground := Go.Ground.data }], guard := none }) (v := ?vg37) rfl (by kernel_rfl) (fun _ _ _ h => h) (Or.inr hHeld) (Or.inl ⟨by rfl, ?yg37⟩) ?_
    case yg37 => (intro wS _; go_simp <;> with_reducible rfl)
    try simp only [Act.put, List.setIfInBounds_toArray, List.set_cons_zero, List.set_cons_succ]
    refine wpG_pure (i := 10) (oi := { dst := some 19, op := Go.Op.move (Go.Operand.tmp 0), type := 65, pos := "l2_type.go:185", after := #[{ on := 9, ground := Go.Ground.guard }], guard := some (9, false) }) (v := ?vg38) rfl (by kernel_rfl) (fun _ _ _ h => h) (Or.inr hHeld) (Or.inl ⟨by rfl, ?yg38⟩) ?_
    case yg38 => (intro wS _; go_simp <;> with_reducible rfl)
    try simp only [Act.put, List.setIfInBounds_toArray, List.set_cons_zero, List.set_cons_succ]
    refine wpG_pure (i := 11) (oi := { dst := some 20, op := Go.Op.nilCheck (Go.Operand.tmp 19), type := 0, pos := "l2_type.go:185", after := #[{ on := 10, ground := Go.Ground.data }, { on := 9, ground := Go.Ground.guard }], guard := some (9, false) }) (v := ?vg39) rfl (by kernel_rfl) (fun _ _ _ h => h) (Or.inr hHeld) (Or.inl ⟨by rfl, ?yg39⟩) ?_
    case yg39 => (intro wS _; go_simp <;> with_reducible rfl)
    try simp only [Act.put, List.setIfInBounds_toArray, List.set_cons_zero, List.set_cons_succ]
    refine wpG_pure (i := 12) (oi := { dst := some 21, op := Go.Op.fieldAddr 103 (Go.Operand.tmp 20) 4, type := 0, pos := "l2_type.go:185", after := #[{ on := 11, ground := Go.Ground.data }, { on := 9, ground := Go.Ground.guard }], guard := some (9, false) }) (v := ?vg40) rfl (by kernel_rfl) (fun _ _ _ h => h) (Or.inr hHeld) (Or.inl ⟨by rfl, ?yg40⟩) ?_
    case yg40 => (intro wS _; go_simp <;> with_reducible rfl)
    try simp only [Act.put, List.setIfInBounds_toArray, List.set_cons_zero, List.set_cons_succ]
    refine wpG_load (i := 13) (oi := { dst := some 22, op := Go.Op.load 3 (Go.Operand.tmp 21), type := 3, pos := "l2_type.go:185", after := #[{ on := 12, ground := Go.Ground.data }, { on := 9, ground := Go.Ground.guard }], guard := some (9, false) }) (v := ?vg41) [] rfl (by kernel_rfl) (fun _ _ _ h => h) hHeld (Or.inl ⟨by rfl, ?yg41⟩) ?_
    case yg41 => (intro wS hSw; (try dsimp only at hSw); go_simp <;> with_reducible rfl)
    try simp only [Act.put, List.setIfInBounds_toArray, List.set_cons_zero, List.set_cons_succ]
    refine wpG_pure (i := 14) (oi := { dst := some 23, op := Go.Op.move (Go.Operand.tmp 1), type := 65, pos := "l2_type.go:185", after := #[{ on := 9, ground := Go.Ground.guard }], guard := some (9, false) }) (v := ?vg42) rfl (by kernel_rfl) (fun _ _ _ h => h) (Or.inr hHeld) (Or.inl ⟨by rfl, ?yg42⟩) ?_
    case yg42 => (intro wS _; go_simp <;> with_reducible rfl)
    try simp only [Act.put, List.setIfInBounds_toArray, List.set_cons_zero, List.set_cons_succ]
    refine wpG_pure (i := 15) (oi := { dst := some 24, op := Go.Op.nilCheck (Go.Operand.tmp 23), type := 0, pos := "l2_type.go:185", after := #[{ on := 14, ground := Go.Ground.data }, { on := 9, ground := Go.Ground.guard }], guard := some (9, false) }) (v := ?vg43) rfl (by kernel_rfl) (fun _ _ _ h => h) (Or.inr hHeld) (Or.inl ⟨by rfl, ?yg43⟩) ?_
    case yg43 => (intro wS _; go_simp <;> with_reducible rfl)
    try simp only [Act.put, List.setIfInBounds_toArray, List.set_cons_zero, List.set_cons_succ]
    refine wpG_pure (i := 16) (oi := { dst := some 25, op := Go.Op.fieldAddr 103 (Go.Operand.tmp 24) 4, type := 0, pos := "l2_type.go:185", after := #[{ on := 15, ground := Go.Ground.data }, { on := 9, ground := Go.Ground.guard }], guard := some (9, false) }) (v := ?vg44) rfl (by kernel_rfl) (fun _ _ _ h => h) (Or.inr hHeld) (Or.inl ⟨by rfl, ?yg44⟩) ?_
    case yg44 => (intro wS _; go_simp <;> with_reducible rfl)
    try simp only [Act.put, List.setIfInBounds_toArray, List.set_cons_zero, List.set_cons_succ]
    refine wpG_load (i := 17) (oi := { dst := some 26, op := Go.Op.load 3 (Go.Operand.tmp 25), type := 3, pos := "l2_type.go:185", after := #[{ on := 16, ground := Go.Ground.data }, { on := 9, ground := Go.Ground.guard }], guard := some (9, false) }) (v := ?vg45) [] rfl (by kernel_rfl) (fun _ _ _ h => h) hHeld (Or.inl ⟨by rfl, ?yg45⟩) ?_
    case yg45 => (intro wS hSw; (try dsimp only at hSw); go_simp <;> with_reducible rfl)
    try simp only [Act.put, List.setIfInBounds_toArray, List.set_cons_zero, List.set_cons_succ]
    refine wpG_pure (i := 18) (oi := { dst := some 27, op := Go.Op.binOp Go.BinOp.gtr 3 (Go.Operand.tmp 22) (Go.Operand.tmp 26) 3, type := 4, pos := "l2_type.go:185", after := #[{ on := 13, ground := Go.Ground.data }, { on := 17, ground := Go.Ground.data }, { on := 9, ground := Go.Ground.guard }], guard := some (9, false) }) (v := ?vg46) rfl (by kernel_rfl) (fun _ _ _ h => h) (Or.inr hHeld) (Or.inl ⟨by rfl, ?yg46⟩) ?_
    case yg46 => (intro wS _; go_simp <;> with_reducible rfl)
    try simp only [Act.put, List.setIfInBounds_toArray, List.set_cons_zero, List.set_cons_succ]
    refine wpG_pure (i := 19) (oi := { dst := some 28, op := Go.Op.pick (Go.Operand.tmp 18) (Go.Operand.const (Go.Value.bool true)) (Go.Operand.tmp 27), type := 4, pos := "l2_type.go:185", after := #[{ on := 9, ground := Go.Ground.data }, { on := 18, ground := Go.Ground.data }], guard := none }) (v := ?vg47) rfl (by kernel_rfl) (fun _ _ _ h => h) (Or.inr hHeld) (Or.inl ⟨by rfl, ?yg47⟩) ?_
    case yg47 => (intro wS _; go_simp <;> with_reducible rfl)
    try simp only [Act.put, List.setIfInBounds_toArray, List.set_cons_zero, List.set_cons_succ]
    refine wpG_done (by kernel_rfl) ?_
    go_wp2_with fail
    go_ret
    exact ⟨rfl, (Below.refl _ _).drew⟩
  have hB0 : Hid (Below w.heap.size w w.drew) := Lib.hid ((Below.refl _ _).drew)
  by_cases h4 : b.kind = 4
  · obtain ⟨x, hx⟩ := right_list hra (hk.trans h4)
    obtain ⟨y, hy⟩ := right_list hrb h4
    rw [sub_lst hk (by omega) h4 hx hy] at hRES
    have HR := Lib.hid hRES
    have h4a : a.kind = 4 := hk.trans h4
    rw [hx] at HKA HCA a5 hkca
    rw [hy] at HKB b5 hkcb
    have HXY : Hid (x ∈ a.kids ∧ y ∈ b.kids) := Lib.hid ⟨by rw [hx]; simp, by rw [hy]; simp⟩
    clear hRES hk hkla hx hy
    simp only [List.length_cons, List.length_nil] at a5 b5 hkca hkcb HCA
    rw [h4a] at a0 nk HCA
    rw [h4] at b0 nk
    go_enter Try.func54, Try.ntmps54
    go_wp2_with fail
    refine wp_region_G [] (fun w' => w'.cell? ⟨ba, 0, none⟩ = some (.int .i64 4) ∧ w'.cell? ⟨bb, 0, none⟩ = some (.int .i64 4) ∧ w'.cell? ⟨ba, 4, none⟩ = some (.int .i64 a.most) ∧ w'.cell? ⟨bb, 4, none⟩ = some (.int .i64 b.most)) (by kernel_rfl) ?_ (fun hHeld => ?_)
    · exact ⟨a0, b0, a4, b4⟩
    refine wpG_pure (i := 0) (oi := { dst := some 9, op := Go.Op.move (Go.Operand.tmp 0), type := 65, pos := "l2_type.go:185", after := #[], guard := none }) (v := ?vg48) rfl (by kernel_rfl) (fun _ _ _ h => h) (Or.inr hHeld) (Or.inl ⟨by rfl, ?yg48⟩) ?_
    case yg48 => (intro wS _; go_simp <;> with_reducible rfl)
    try simp only [Act.put, List.setIfInBounds_toArray, List.set_cons_zero, List.set_cons_succ]
    refine wpG_pure (i := 1) (oi := { dst := some 10, op := Go.Op.nilCheck (Go.Operand.tmp 9), type := 0, pos := "l2_type.go:185", after := #[{ on := 0, ground := Go.Ground.data }], guard := none }) (v := ?vg49) rfl (by kernel_rfl) (fun _ _ _ h => h) (Or.inr hHeld) (Or.inl ⟨by rfl, ?yg49⟩) ?_
    case yg49 => (intro wS _; go_simp <;> with_reducible rfl)
    try simp only [Act.put, List.setIfInBounds_toArray, List.set_cons_zero, List.set_cons_succ]
    refine wpG_pure (i := 2) (oi := { dst := some 11, op := Go.Op.fieldAddr 103 (Go.Operand.tmp 10) 0, type := 0, pos := "l2_type.go:185", after := #[{ on := 1, ground := Go.Ground.data }], guard := none }) (v := ?vg50) rfl (by kernel_rfl) (fun _ _ _ h => h) (Or.inr hHeld) (Or.inl ⟨by rfl, ?yg50⟩) ?_
    case yg50 => (intro wS _; go_simp <;> with_reducible rfl)
    try simp only [Act.put, List.setIfInBounds_toArray, List.set_cons_zero, List.set_cons_succ]
    refine wpG_load (i := 3) (oi := { dst := some 12, op := Go.Op.load 3 (Go.Operand.tmp 11), type := 3, pos := "l2_type.go:185", after := #[{ on := 2, ground := Go.Ground.data }], guard := none }) (v := ?vg51) [] rfl (by kernel_rfl) (fun _ _ _ h => h) hHeld (Or.inl ⟨by rfl, ?yg51⟩) ?_
    case yg51 => (intro wS hSw; (try dsimp only at hSw); go_simp <;> with_reducible rfl)
    try simp only [Act.put, List.setIfInBounds_toArray, List.set_cons_zero, List.set_cons_succ]
    refine wpG_pure (i := 4) (oi := { dst := some 13, op := Go.Op.move (Go.Operand.tmp 1), type := 65, pos := "l2_type.go:185", after := #[], guard := none }) (v := ?vg52) rfl (by kernel_rfl) (fun _ _ _ h => h) (Or.inr hHeld) (Or.inl ⟨by rfl, ?yg52⟩) ?_
    case yg52 => (intro wS _; go_simp <;> with_reducible rfl)
    try simp only [Act.put, List.setIfInBounds_toArray, List.set_cons_zero, List.set_cons_succ]
    refine wpG_pure (i := 5) (oi := { dst := some 14, op := Go.Op.nilCheck (Go.Operand.tmp 13), type := 0, pos := "l2_type.go:185", after := #[{ on := 4, ground := Go.Ground.data }], guard := none }) (v := ?vg53) rfl (by kernel_rfl) (fun _ _ _ h => h) (Or.inr hHeld) (Or.inl ⟨by rfl, ?yg53⟩) ?_
    case yg53 => (intro wS _; go_simp <;> with_reducible rfl)
    try simp only [Act.put, List.setIfInBounds_toArray, List.set_cons_zero, List.set_cons_succ]
    refine wpG_pure (i := 6) (oi := { dst := some 15, op := Go.Op.fieldAddr 103 (Go.Operand.tmp 14) 0, type := 0, pos := "l2_type.go:185", after := #[{ on := 5, ground := Go.Ground.data }], guard := none }) (v := ?vg54) rfl (by kernel_rfl) (fun _ _ _ h => h) (Or.inr hHeld) (Or.inl ⟨by rfl, ?yg54⟩) ?_
    case yg54 => (intro wS _; go_simp <;> with_reducible rfl)
    try simp only [Act.put, List.setIfInBounds_toArray, List.set_cons_zero, List.set_cons_succ]
    refine wpG_load (i := 7) (oi := { dst := some 16, op := Go.Op.load 3 (Go.Operand.tmp 15), type := 3, pos := "l2_type.go:185", after := #[{ on := 6, ground := Go.Ground.data }], guard := none }) (v := ?vg55) [] rfl (by kernel_rfl) (fun _ _ _ h => h) hHeld (Or.inl ⟨by rfl, ?yg55⟩) ?_
    case yg55 => (intro wS hSw; (try dsimp only at hSw); go_simp <;> with_reducible rfl)
    try simp only [Act.put, List.setIfInBounds_toArray, List.set_cons_zero, List.set_cons_succ]
    refine wpG_pure (i := 8) (oi := { dst := some 17, op := Go.Op.binOp Go.BinOp.neq 3 (Go.Operand.tmp 12) (Go.Operand.tmp 16) 3, type := 4, pos := "l2_type.go:185", after := #[{ on := 3, ground := Go.Ground.data }, { on := 7, ground := Go.Ground.data }], guard := none }) (v := ?vg56) rfl (by kernel_rfl) (fun _ _ _ h => h) (Or.inr hHeld) (Or.inl ⟨by rfl, ?yg56⟩) ?_
    case yg56 => (intro wS _; go_simp <;> with_reducible rfl)
    try simp only [Act.put, List.setIfInBounds_toArray, List.set_cons_zero, List.set_cons_succ]
    refine wpG_pure (i := 9) (oi := { dst := some 18, op := Go.Op.move (Go.Operand.tmp 17), type := 4, pos := "l2_type.go:185", after := #[{ on := 8, ground := Go.Ground.data }], guard := none }) (v := ?vg57) rfl (by kernel_rfl) (fun _ _ _ h => h) (Or.inr hHeld) (Or.inl ⟨by rfl, ?yg57⟩) ?_
    case yg57 => (intro wS _; go_simp <;> with_reducible rfl)
    try simp only [Act.put, List.setIfInBounds_toArray, List.set_cons_zero, List.set_cons_succ]
    refine wpG_pure (i := 10) (oi := { dst := some 19, op := Go.Op.move (Go.Operand.tmp 0), type := 65, pos := "l2_type.go:185", after := #[{ on := 9, ground := Go.Ground.guard }], guard := some (9, false) }) (v := ?vg58) rfl (by kernel_rfl) (fun _ _ _ h => h) (Or.inr hHeld) (Or.inl ⟨by rfl, ?yg58⟩) ?_
    case yg58 => (intro wS _; go_simp <;> with_reducible rfl)
    try simp only [Act.put, List.setIfInBounds_toArray, List.set_cons_zero, List.set_cons_succ]
    refine wpG_pure (i := 11) (oi := { dst := some 20, op := Go.Op.nilCheck (Go.Operand.tmp 19), type := 0, pos := "l2_type.go:185", after := #[{ on := 10, ground := Go.Ground.data }, { on := 9, ground := Go.Ground.guard }], guard := some (9, false) }) (v := ?vg59) rfl (by kernel_rfl) (fun _ _ _ h => h) (Or.inr hHeld) (Or.inl ⟨by rfl, ?yg59⟩) ?_
    case yg59 => (intro wS _; go_simp <;> with_reducible rfl)
    try simp only [Act.put, List.setIfInBounds_toArray, List.set_cons_zero, List.set_cons_succ]
    refine wpG_pure (i := 12) (oi := { dst := some 21, op := Go.Op.fieldAddr 103 (Go.Operand.tmp 20) 4, type := 0, pos := "l2_type.go:185", after := #[{ on := 11, ground := Go.Ground.data }, { on := 9, ground := Go.Ground.guard }], guard := some (9, false) }) (v := ?vg60) rfl (by kernel_rfl) (fun _ _ _ h => h) (Or.inr hHeld) (Or.inl ⟨by rfl, ?yg60⟩) ?_
    case yg60 => (intro wS _; go_simp <;> with_reducible rfl)
    try simp only [Act.put, List.setIfInBounds_toArray, List.set_cons_zero, List.set_cons_succ]
    refine wpG_load (i := 13) (oi := { dst := some 22, op := Go.Op.load 3 (Go.Operand.tmp 21), type := 3, pos := "l2_type.go:185", after := #[{ on := 12, ground := Go.Ground.data }, { on := 9, ground := Go.Ground.guard }], guard := some (9, false) }) (v := ?vg61) [] rfl (by kernel_rfl) (fun _ _ _ h => h) hHeld (Or.inl ⟨by rfl, ?yg61⟩) ?_
    case yg61 => (intro wS hSw; (try dsimp only at hSw); go_simp <;> with_reducible rfl)
    try simp only [Act.put, List.setIfInBounds_toArray, List.set_cons_zero, List.set_cons_succ]
    refine wpG_pure (i := 14) (oi := { dst := some 23, op := Go.Op.move (Go.Operand.tmp 1), type := 65, pos := "l2_type.go:185", after := #[{ on := 9, ground := Go.Ground.guard }], guard := some (9, false) }) (v := ?vg62) rfl (by kernel_rfl) (fun _ _ _ h => h) (Or.inr hHeld) (Or.inl ⟨by rfl, ?yg62⟩) ?_
    case yg62 => (intro wS _; go_simp <;> with_reducible rfl)
    try simp only [Act.put, List.setIfInBounds_toArray, List.set_cons_zero, List.set_cons_succ]
    refine wpG_pure (i := 15) (oi := { dst := some 24, op := Go.Op.nilCheck (Go.Operand.tmp 23), type := 0, pos := "l2_type.go:185", after := #[{ on := 14, ground := Go.Ground.data }, { on := 9, ground := Go.Ground.guard }], guard := some (9, false) }) (v := ?vg63) rfl (by kernel_rfl) (fun _ _ _ h => h) (Or.inr hHeld) (Or.inl ⟨by rfl, ?yg63⟩) ?_
    case yg63 => (intro wS _; go_simp <;> with_reducible rfl)
    try simp only [Act.put, List.setIfInBounds_toArray, List.set_cons_zero, List.set_cons_succ]
    refine wpG_pure (i := 16) (oi := { dst := some 25, op := Go.Op.fieldAddr 103 (Go.Operand.tmp 24) 4, type := 0, pos := "l2_type.go:185", after := #[{ on := 15, ground := Go.Ground.data }, { on := 9, ground := Go.Ground.guard }], guard := some (9, false) }) (v := ?vg64) rfl (by kernel_rfl) (fun _ _ _ h => h) (Or.inr hHeld) (Or.inl ⟨by rfl, ?yg64⟩) ?_
    case yg64 => (intro wS _; go_simp <;> with_reducible rfl)
    try simp only [Act.put, List.setIfInBounds_toArray, List.set_cons_zero, List.set_cons_succ]
    refine wpG_load (i := 17) (oi := { dst := some 26, op := Go.Op.load 3 (Go.Operand.tmp 25), type := 3, pos := "l2_type.go:185", after := #[{ on := 16, ground := Go.Ground.data }, { on := 9, ground := Go.Ground.guard }], guard := some (9, false) }) (v := ?vg65) [] rfl (by kernel_rfl) (fun _ _ _ h => h) hHeld (Or.inl ⟨by rfl, ?yg65⟩) ?_
    case yg65 => (intro wS hSw; (try dsimp only at hSw); go_simp <;> with_reducible rfl)
    try simp only [Act.put, List.setIfInBounds_toArray, List.set_cons_zero, List.set_cons_succ]
    refine wpG_pure (i := 18) (oi := { dst := some 27, op := Go.Op.binOp Go.BinOp.gtr 3 (Go.Operand.tmp 22) (Go.Operand.tmp 26) 3, type := 4, pos := "l2_type.go:185", after := #[{ on := 13, ground := Go.Ground.data }, { on := 17, ground := Go.Ground.data }, { on := 9, ground := Go.Ground.guard }], guard := some (9, false) }) (v := ?vg66) rfl (by kernel_rfl) (fun _ _ _ h => h) (Or.inr hHeld) (Or.inl ⟨by rfl, ?yg66⟩) ?_
    case yg66 => (intro wS _; go_simp <;> with_reducible rfl)
    try simp only [Act.put, List.setIfInBounds_toArray, List.set_cons_zero, List.set_cons_succ]
    refine wpG_pure (i := 19) (oi := { dst := some 28, op := Go.Op.pick (Go.Operand.tmp 18) (Go.Operand.const (Go.Value.bool true)) (Go.Operand.tmp 27), type := 4, pos := "l2_type.go:185", after := #[{ on := 9, ground := Go.Ground.data }, { on := 18, ground := Go.Ground.data }], guard := none }) (v := ?vg67) rfl (by kernel_rfl) (fun _ _ _ h => h) (Or.inr hHeld) (Or.inl ⟨by rfl, ?yg67⟩) ?_
    case yg67 => (intro wS _; go_simp <;> with_reducible rfl)
    try simp only [Act.put, List.setIfInBounds_toArray, List.set_cons_zero, List.set_cons_succ]
    refine wpG_done (by kernel_rfl) ?_
    go_wp2_with fail
    go_loopw [34] (fun iv wr => ∃ i : Nat, i ≤ 1 ∧ iv = .int .i64 (i : Int) ∧ Hid (i = 1 → RES = true) ∧ Hid (Below w.heap.size w wr)) (fun iv _ => 1 - (intOf iv).toNat)
    case atStart => exact ⟨0, by omega, rfl, Lib.hid (fun h => by omega), hB0⟩
    case round =>
      obtain ⟨wo, rfl⟩ : ∃ z : World, z = wr := ⟨_, rfl⟩
      obtain ⟨i, hi, rfl, HI, HB⟩ := hrel
      by_cases hil : i < 1
      case neg =>
        obtain rfl : i = 1 := by omega
        obtain rfl := HI.out rfl
        go_wp2_with fail
        go_ret
        exact ⟨rfl, HB.out⟩
      have h00 : i = 0 := by omega
      subst h00
      obtain ⟨rb, off, py, vy, cy, wsy, rfl, hrb, r0, hky, -⟩ := kps_at HROB.out HKB.out HB.out (i := 0) (t := y) rfl
      obtain ⟨rb2, off2, px, vx, cx, wsx, rfl, hrb2, q0, hkx, -⟩ := kps_at HROA.out HKA.out HB.out (i := 0) (t := x) rfl
      have HC := Lib.hid (HIH.out wo x y _ _ HXY.out.1 HXY.out.2 (hkx.keep (T := S) (kept_below HB.out) (fun _ h _ => h)) (hky.keep (T := T) (kept_below HB.out) (fun _ h _ => h)))
      obtain ⟨t0, t1, t2, t3, t4, t5⟩ := box6 (hp_later HB.out HCA.out)
      rw [Nat.add_zero] at r0 q0
      rw [HR.out] at HC
      clear hkx hky
      cases RES with
      | false =>
        go_wp2_with fail
        refine HC.out.mono ?_
        rintro e w2 ⟨rfl, hb2⟩
        have HB2 := Lib.hid (HB.out.trans (hb2.mono HB.out.size))
        clear hb2
        go_wp2_with fail
        go_ret
        exact ⟨rfl, HB2.out⟩
      | true =>
        go_wp2_with fail
        refine HC.out.mono ?_
        rintro e w2 ⟨rfl, hb2⟩
        have HB2 := Lib.hid (HB.out.trans (hb2.mono HB.out.size))
        clear hb2
        go_wp2_with fail
        go_roundw
        case rel => exact ⟨1, by omega, by go_num, Lib.hid (fun _ => by first | trivial | rfl), HB2⟩
        case measure => (simp [intOf]; try omega)
  have hiff := sub_msg hk (by omega) h4
  rw [hRES] at hiff
  have HR := Lib.hid hiff
  have n4 : (a.kind == 4) = false := beq_eq_false_iff_ne.2 (fun e => h4 (hk.symm.trans e))
  have HKX := Lib.hid hk
  clear hiff hRES hk h4
  go_enter Try.func54, Try.ntmps54
  go_wp2_with fail
  refine wp_region_G [] (fun w' => w'.cell? ⟨ba, 0, none⟩ = some (.int .i64 a.kind) ∧ w'.cell? ⟨bb, 0, none⟩ = some (.int .i64 b.kind) ∧ w'.cell? ⟨ba, 4, none⟩ = some (.int .i64 a.most) ∧ w'.cell? ⟨bb, 4, none⟩ = some (.int .i64 b.most)) (by kernel_rfl) ?_ (fun hHeld => ?_)
  · exact ⟨a0, b0, a4, b4⟩
  refine wpG_pure (i := 0) (oi := { dst := some 9, op := Go.Op.move (Go.Operand.tmp 0), type := 65, pos := "l2_type.go:185", after := #[], guard := none }) (v := ?vg68) rfl (by kernel_rfl) (fun _ _ _ h => h) (Or.inr hHeld) (Or.inl ⟨by rfl, ?yg68⟩) ?_
  case yg68 => (intro wS _; go_simp <;> with_reducible rfl)
  try simp only [Act.put, List.setIfInBounds_toArray, List.set_cons_zero, List.set_cons_succ]
  refine wpG_pure (i := 1) (oi := { dst := some 10, op := Go.Op.nilCheck (Go.Operand.tmp 9), type := 0, pos := "l2_type.go:185", after := #[{ on := 0, ground := Go.Ground.data }], guard := none }) (v := ?vg69) rfl (by kernel_rfl) (fun _ _ _ h => h) (Or.inr hHeld) (Or.inl ⟨by rfl, ?yg69⟩) ?_
  case yg69 => (intro wS _; go_simp <;> with_reducible rfl)
  try simp only [Act.put, List.setIfInBounds_toArray, List.set_cons_zero, List.set_cons_succ]
  refine wpG_pure (i := 2) (oi := { dst := some 11, op := Go.Op.fieldAddr 103 (Go.Operand.tmp 10) 0, type := 0, pos := "l2_type.go:185", after := #[{ on := 1, ground := Go.Ground.data }], guard := none }) (v := ?vg70) rfl (by kernel_rfl) (fun _ _ _ h => h) (Or.inr hHeld) (Or.inl ⟨by rfl, ?yg70⟩) ?_
  case yg70 => (intro wS _; go_simp <;> with_reducible rfl)
  try simp only [Act.put, List.setIfInBounds_toArray, List.set_cons_zero, List.set_cons_succ]
  refine wpG_load (i := 3) (oi := { dst := some 12, op := Go.Op.load 3 (Go.Operand.tmp 11), type := 3, pos := "l2_type.go:185", after := #[{ on := 2, ground := Go.Ground.data }], guard := none }) (v := ?vg71) [] rfl (by kernel_rfl) (fun _ _ _ h => h) hHeld (Or.inl ⟨by rfl, ?yg71⟩) ?_
  case yg71 => (intro wS hSw; (try dsimp only at hSw); go_simp <;> with_reducible rfl)
  try simp only [Act.put, List.setIfInBounds_toArray, List.set_cons_zero, List.set_cons_succ]
  refine wpG_pure (i := 4) (oi := { dst := some 13, op := Go.Op.move (Go.Operand.tmp 1), type := 65, pos := "l2_type.go:185", after := #[], guard := none }) (v := ?vg72) rfl (by kernel_rfl) (fun _ _ _ h => h) (Or.inr hHeld) (Or.inl ⟨by rfl, ?yg72⟩) ?_
  case yg72 => (intro wS _; go_simp <;> with_reducible rfl)
  try simp only [Act.put, List.setIfInBounds_toArray, List.set_cons_zero, List.set_cons_succ]
  refine wpG_pure (i := 5) (oi := { dst := some 14, op := Go.Op.nilCheck (Go.Operand.tmp 13), type := 0, pos := "l2_type.go:185", after := #[{ on := 4, ground := Go.Ground.data }], guard := none }) (v := ?vg73) rfl (by kernel_rfl) (fun _ _ _ h => h) (Or.inr hHeld) (Or.inl ⟨by rfl, ?yg73⟩) ?_
  case yg73 => (intro wS _; go_simp <;> with_reducible rfl)
  try simp only [Act.put, List.setIfInBounds_toArray, List.set_cons_zero, List.set_cons_succ]
  refine wpG_pure (i := 6) (oi := { dst := some 15, op := Go.Op.fieldAddr 103 (Go.Operand.tmp 14) 0, type := 0, pos := "l2_type.go:185", after := #[{ on := 5, ground := Go.Ground.data }], guard := none }) (v := ?vg74) rfl (by kernel_rfl) (fun _ _ _ h => h) (Or.inr hHeld) (Or.inl ⟨by rfl, ?yg74⟩) ?_
  case yg74 => (intro wS _; go_simp <;> with_reducible rfl)
  try simp only [Act.put, List.setIfInBounds_toArray, List.set_cons_zero, List.set_cons_succ]
  refine wpG_load (i := 7) (oi := { dst := some 16, op := Go.Op.load 3 (Go.Operand.tmp 15), type := 3, pos := "l2_type.go:185", after := #[{ on := 6, ground := Go.Ground.data }], guard := none }) (v := ?vg75) [] rfl (by kernel_rfl) (fun _ _ _ h => h) hHeld (Or.inl ⟨by rfl, ?yg75⟩) ?_
  case yg75 => (intro wS hSw; (try dsimp only at hSw); go_simp <;> with_reducible rfl)
  try simp only [Act.put, List.setIfInBounds_toArray, List.set_cons_zero, List.set_cons_succ]
  refine wpG_pure (i := 8) (oi := { dst := some 17, op := Go.Op.binOp Go.BinOp.neq 3 (Go.Operand.tmp 12) (Go.Operand.tmp 16) 3, type := 4, pos := "l2_type.go:185", after := #[{ on := 3, ground := Go.Ground.data }, { on := 7, ground := Go.Ground.data }], guard := none }) (v := ?vg76) rfl (by kernel_rfl) (fun _ _ _ h => h) (Or.inr hHeld) (Or.inl ⟨by rfl, ?yg76⟩) ?_
  case yg76 => (intro wS _; go_simp <;> with_reducible rfl)
  try simp only [Act.put, List.setIfInBounds_toArray, List.set_cons_zero, List.set_cons_succ]
  refine wpG_pure (i := 9) (oi := { dst := some 18, op := Go.Op.move (Go.Operand.tmp 17), type := 4, pos := "l2_type.go:185", after := #[{ on := 8, ground := Go.Ground.data }], guard := none }) (v := ?vg77) rfl (by kernel_rfl) (fun _ _ _ h => h) (Or.inr hHeld) (Or.inl ⟨by rfl, ?yg77⟩) ?_
  case yg77 => (intro wS _; go_simp <;> with_reducible rfl)
  try simp only [Act.put, List.setIfInBounds_toArray, List.set_cons_zero, List.set_cons_succ]
  refine wpG_pure (i := 10) (oi := { dst := some 19, op := Go.Op.move (Go.Operand.tmp 0), type := 65, pos := "l2_type.go:185", after := #[{ on := 9, ground := Go.Ground.guard }], guard := some (9, false) }) (v := ?vg78) rfl (by kernel_rfl) (fun _ _ _ h => h) (Or.inr hHeld) (Or.inl ⟨by rfl, ?yg78⟩) ?_
  case yg78 => (intro wS _; go_simp <;> with_reducible rfl)
  try simp only [Act.put, List.setIfInBounds_toArray, List.set_cons_zero, List.set_cons_succ]
  refine wpG_pure (i := 11) (oi := { dst := some 20, op := Go.Op.nilCheck (Go.Operand.tmp 19), type := 0, pos := "l2_type.go:185", after := #[{ on := 10, ground := Go.Ground.data }, { on := 9, ground := Go.Ground.guard }], guard := some (9, false) }) (v := ?vg79) rfl (by kernel_rfl) (fun _ _ _ h => h) (Or.inr hHeld) (Or.inl ⟨by rfl, ?yg79⟩) ?_
  case yg79 => (intro wS _; go_simp <;> with_reducible rfl)
  try simp only [Act.put, List.setIfInBounds_toArray, List.set_cons_zero, List.set_cons_succ]
  refine wpG_pure (i := 12) (oi := { dst := some 21, op := Go.Op.fieldAddr 103 (Go.Operand.tmp 20) 4, type := 0, pos := "l2_type.go:185", after := #[{ on := 11, ground := Go.Ground.data }, { on := 9, ground := Go.Ground.guard }], guard := some (9, false) }) (v := ?vg80) rfl (by kernel_rfl) (fun _ _ _ h => h) (Or.inr hHeld) (Or.inl ⟨by rfl, ?yg80⟩) ?_
  case yg80 => (intro wS _; go_simp <;> with_reducible rfl)
  try simp only [Act.put, List.setIfInBounds_toArray, List.set_cons_zero, List.set_cons_succ]
  refine wpG_load (i := 13) (oi := { dst := some 22, op := Go.Op.load 3 (Go.Operand.tmp 21), type := 3, pos := "l2_type.go:185", after := #[{ on := 12, ground := Go.Ground.data }, { on := 9, ground := Go.Ground.guard }], guard := some (9, false) }) (v := ?vg81) [] rfl (by kernel_rfl) (fun _ _ _ h => h) hHeld (Or.inl ⟨by rfl, ?yg81⟩) ?_
  case yg81 => (intro wS hSw; (try dsimp only at hSw); go_simp <;> with_reducible rfl)
  try simp only [Act.put, List.setIfInBounds_toArray, List.set_cons_zero, List.set_cons_succ]
  refine wpG_pure (i := 14) (oi := { dst := some 23, op := Go.Op.move (Go.Operand.tmp 1), type := 65, pos := "l2_type.go:185", after := #[{ on := 9, ground := Go.Ground.guard }], guard := some (9, false) }) (v := ?vg82) rfl (by kernel_rfl) (fun _ _ _ h => h) (Or.inr hHeld) (Or.inl ⟨by rfl, ?yg82⟩) ?_
  case yg82 => (intro wS _; go_simp <;> with_reducible rfl)
  try simp only [Act.put, List.setIfInBounds_toArray, List.set_cons_zero, List.set_cons_succ]
  refine wpG_pure (i := 15) (oi := { dst := some 24, op := Go.Op.nilCheck (Go.Operand.tmp 23), type := 0, pos := "l2_type.go:185", after := #[{ on := 14, ground := Go.Ground.data }, { on := 9, ground := Go.Ground.guard }], guard := some (9, false) }) (v := ?vg83) rfl (by kernel_rfl) (fun _ _ _ h => h) (Or.inr hHeld) (Or.inl ⟨by rfl, ?yg83⟩) ?_
  case yg83 => (intro wS _; go_simp <;> with_reducible rfl)
  try simp only [Act.put, List.setIfInBounds_toArray, List.set_cons_zero, List.set_cons_succ]
  refine wpG_pure (i := 16) (oi := { dst := some 25, op := Go.Op.fieldAddr 103 (Go.Operand.tmp 24) 4, type := 0, pos := "l2_type.go:185", after := #[{ on := 15, ground := Go.Ground.data }, { on := 9, ground := Go.Ground.guard }], guard := some (9, false) }) (v := ?vg84) rfl (by kernel_rfl) (fun _ _ _ h => h) (Or.inr hHeld) (Or.inl ⟨by rfl, ?yg84⟩) ?_
  case yg84 => (intro wS _; go_simp <;> with_reducible rfl)
  try simp only [Act.put, List.setIfInBounds_toArray, List.set_cons_zero, List.set_cons_succ]
  refine wpG_load (i := 17) (oi := { dst := some 26, op := Go.Op.load 3 (Go.Operand.tmp 25), type := 3, pos := "l2_type.go:185", after := #[{ on := 16, ground := Go.Ground.data }, { on := 9, ground := Go.Ground.guard }], guard := some (9, false) }) (v := ?vg85) [] rfl (by kernel_rfl) (fun _ _ _ h => h) hHeld (Or.inl ⟨by rfl, ?yg85⟩) ?_
  case yg85 => (intro wS hSw; (try dsimp only at hSw); go_simp <;> with_reducible rfl)
  try simp only [Act.put, List.setIfInBounds_toArray, List.set_cons_zero, List.set_cons_succ]
  refine wpG_pure (i := 18) (oi := { dst := some 27, op := Go.Op.binOp Go.BinOp.gtr 3 (Go.Operand.tmp 22) (Go.Operand.tmp 26) 3, type := 4, pos := "l2_type.go:185", after := #[{ on := 13, ground := Go.Ground.data }, { on := 17, ground := Go.Ground.data }, { on := 9, ground := Go.Ground.guard }], guard := some (9, false) }) (v := ?vg86) rfl (by kernel_rfl) (fun _ _ _ h => h) (Or.inr hHeld) (Or.inl ⟨by rfl, ?yg86⟩) ?_
  case yg86 => (intro wS _; go_simp <;> with_reducible rfl)
  try simp only [Act.put, List.setIfInBounds_toArray, List.set_cons_zero, List.set_cons_succ]
  refine wpG_pure (i := 19) (oi := { dst := some 28, op := Go.Op.pick (Go.Operand.tmp 18) (Go.Operand.const (Go.Value.bool true)) (Go.Operand.tmp 27), type := 4, pos := "l2_type.go:185", after := #[{ on := 9, ground := Go.Ground.data }, { on := 18, ground := Go.Ground.data }], guard := none }) (v := ?vg87) rfl (by kernel_rfl) (fun _ _ _ h => h) (Or.inr hHeld) (Or.inl ⟨by rfl, ?yg87⟩) ?_
  case yg87 => (intro wS _; go_simp <;> with_reducible rfl)
  try simp only [Act.put, List.setIfInBounds_toArray, List.set_cons_zero, List.set_cons_succ]
  refine wpG_done (by kernel_rfl) ?_
  go_wp2_with fail
  go_loopw [34] (fun iv wr => ∃ i : Nat, i ≤ b.kids.length ∧ iv = .int .i64 (i : Int) ∧ Hid (∀ y ∈ b.kids.take i, HasP a.kids y) ∧ Hid (Below w.heap.size w wr)) (fun iv _ => b.kids.length - (intOf iv).toNat)
  case atStart => exact ⟨0, by omega, rfl, Lib.hid (by simp), hB0⟩
  case round =>
    obtain ⟨wo, rfl⟩ : ∃ z : World, z = wr := ⟨_, rfl⟩
    obtain ⟨i, hi, rfl, HI, HB⟩ := hrel
    by_cases hil : i < b.kids.length
    case neg =>
      obtain rfl : i = b.kids.length := by omega
      obtain rfl : RES = true := by
        rw [HR.out]
        have := HI.out
        rwa [List.take_length] at this
      go_wp2_with fail
      go_ret
      exact ⟨rfl, HB.out⟩
    obtain ⟨y, hy⟩ : ∃ y, b.kids[i]? = some y := ⟨b.kids[i], List.getElem?_eq_getElem hil⟩
    have hym := List.mem_of_getElem? hy
    have HNO : Hid (¬ HasP a.kids y → RES = false) := Lib.hid (fun hn => by
      rw [Bool.eq_false_iff, Ne, HR.out]
      exact fun hall => hn (hall y hym))
    have HYE : Hid (HasP a.kids y → ∀ z ∈ b.kids.take (i + 1), HasP a.kids z) := Lib.hid (fun hp => take_mem HI.out hy hp)
    obtain ⟨rb, off, py, vy, cy, wsy, rfl, hrb, r0, hky, hpl, hpc, -⟩ := kps_at HROB.out HKB.out HB.out hy
    obtain ⟨t0, t1, t2, t3, t4, t5⟩ := box6 (hp_later HB.out HCA.out)
    obtain ⟨y0, y1, y2, y3, y4, y5⟩ := box6 hpc
    have HPC := Lib.hid hpc
    have HKY := Lib.hid hky
    have HP := Lib.hid (HPT.out wo y.no HB.out)
    have HYM := Lib.hid hym
    clear hy hky hpc hym
    go_wp2_with fail
    refine HP.out.mono ?_
    rintro e w2 ⟨v, rfl, hb2, ⟨hno, rfl⟩ | ⟨x, hyes, hkx⟩⟩
    · obtain rfl : RES = false := HNO.out (fun ⟨x, h, _⟩ => by rw [hno] at h; cases h)
      have HB2 := Lib.hid (HB.out.trans (hb2.mono HB.out.size))
      clear hb2 hno
      go_wp2_with fail
      go_ret
      exact ⟨rfl, HB2.out⟩
    have HB2 := Lib.hid (HB.out.trans (hb2.mono HB.out.size))
    have HC := Lib.hid (HIH.out w2 x y v _ (byNo_no hyes).2 HYM.out hkx (HKY.out.keep (T := T) (kept_below HB2.out) (fun _ h _ => h)))
    obtain ⟨px, vx, cx, wsx, rfl, -, hpx, hxc, -⟩ := hkx.open
    obtain ⟨-, -, -, x3, -, -⟩ := box6 hxc
    obtain ⟨-, -, -, z3, -, -⟩ := box6 (hp_later hb2 HPC.out)
    have HYS := Lib.hid hyes
    clear hb2 hyes hkx hxc
    cases hym : y.must
    all_goals
      cases hxm : x.must
    all_goals
      rw [hym] at z3
      rw [hxm] at x3
    rotate_left 2
    · -- the first need not be there
      obtain rfl : RES = false := HNO.out (fun ⟨x', h, h2, _⟩ => by
        rw [HYS.out] at h; cases h
        have := h2 hym
        rw [hxm] at this; cases this)
      go_wp2_with fail
      go_ret
      exact ⟨rfl, HB2.out⟩
    all_goals
      have hmm : y.must = true → x.must = true := fun h => by first | exact hxm | (rw [hym] at h; cases h)
      have HMM := Lib.hid hmm
      clear hym hxm hmm
      cases hsub : subT x y with
      | false =>
        obtain rfl : RES = false := HNO.out (fun ⟨x', h, _, h3⟩ => by
          rw [HYS.out] at h; cases h
          rw [hsub] at h3; cases h3)
        rw [hsub] at HC
        clear hsub
        go_wp2_with fail
        refine HC.out.mono ?_
        rintro e w3 ⟨rfl, hb3⟩
        have HB3 := Lib.hid (HB2.out.trans (hb3.mono HB2.out.size))
        clear hb3
        go_wp2_with fail
        go_ret
        exact ⟨rfl, HB3.out⟩
      | true =>
        have HN := Lib.hid (HYE.out ⟨x, HYS.out, HMM.out, hsub⟩)
        rw [hsub] at HC
        clear hsub
        go_wp2_with fail
        refine HC.out.mono ?_
        rintro e w3 ⟨rfl, hb3⟩
        have HB3 := Lib.hid (HB2.out.trans (hb3.mono HB2.out.size))
        clear hb3
        go_wp2_with fail
        go_roundw
        case rel => exact ⟨i + 1, by omega, by go_num, HN, HB3⟩
        case measure => (simp [intOf]; try omega)
theorem impl_under {S T : Nat → Prop} : ∀ (f : Nat) (w : World) (a b : Tr) (pa pb : Value), countT b ≤ f → KP S w a pa → KP T w b pb → RightT a → RightT b → countT a ≤ 1048576 → countT b ≤ 1048576 → Calls Try.prog 54 #[pa, pb] w fun e w' => e = .returned (.bool (subT a b)) ∧ Below w.heap.size w w'
  | 0, w, a, b, pa, pb, hf, _, _, _, _, _, _ => by have := countT_pos b; omega
  | f + 1, w, a, b, pa, pb, hf, ha, hb, hra, hrb, hla, hlb => impl_under_one ha hb hra hrb hla hlb (fun wx x y px py hx hy hkx hky => by
      have h1 := size_lt hx
      have h2 := size_lt hy
      exact impl_under f wx x y px py (by omega) hkx hky (right_kids hra x hx).2 (right_kids hrb y hy).2 (by omega) (by omega))
end Go.Proofs.Ytmlnecopbncdbaa
