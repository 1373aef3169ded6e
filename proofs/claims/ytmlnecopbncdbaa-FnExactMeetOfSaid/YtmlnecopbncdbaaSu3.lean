/- When a type takes in another one: the reference's walk goes down. -/
import Derived.Test.YtmlnecopbncdbaaSu2
namespace Go.Proofs.Ytmlnecopbncdbaa
set_option linter.unusedVariables false
set_option linter.unusedSimpArgs false
open Go.ChangeShapes Go.WideShapes Go.ChangeAt Go.RowKit
set_option maxRecDepth 100000

theorem KS.later {S : Nat → Prop} {w w' : World} {t : Tr} {cs : List Value} (h : KS S w t cs) (hb : Below w.heap.size w w') : KS S w' t cs := h.keep (kept_below hb) (fun _ h _ => h)
theorem KP.later {S : Nat → Prop} {w w' : World} {t : Tr} {p : Value} (h : KP S w t p) (hb : Below w.heap.size w w') : KP S w' t p := h.keep (kept_below hb) (fun _ h _ => h)
set_option maxHeartbeats 8000000 in
theorem spec_l2Sub_one {S T : Nat → Prop} {w : World} {a b : Tr} {pa pb : List Value} (ha : KS S w a pa) (hb : KS T w b pb) (hra : RightT a) (hrb : RightT b) (hla : countT a ≤ 1048576) (hlb : countT b ≤ 1048576)
    (IH : ∀ (S' T' : Nat → Prop) (wx : World) (x y : Tr) (px py : List Value), x ∈ a.kids → y ∈ b.kids → KS S' wx x px → KS T' wx y py → Calls Try.prog 55 #[.agg px.toArray, .agg py.toArray] wx fun e w' => e = .returned (.bool (subT x y)) ∧ Below wx.heap.size wx w') :
    Calls Try.prog 55 #[.agg pa.toArray, .agg pb.toArray] w fun e w' => e = .returned (.bool (subT a b)) ∧ Below w.heap.size w w' := by
  have hkla : a.kids.length ≤ 1048576 := by have := count_kids a; have := count_len a.kids; omega
  have HIH := Lib.hid IH
  have HBY := Lib.hid (fun wx no (hbx : Below w.heap.size w wx) => spec_l2By (ha.keep (T := S) (kept_below hbx) (fun _ h _ => h)) hkla no)
  unfold ByO at HBY
  obtain ⟨sa, ca, va, rfl, -, hkca, hcma, hrowa, hksa⟩ := ha.open
  obtain ⟨sb, cb, vb, rfl, -, hkcb, hcmb, hrowb, hksb⟩ := hb.open
  have hB1 := Below.alloc (Below.refl w.heap.size w) (Nat.le_refl _) (.cells #[.int .i64 a.kind, .string a.name, .int .i64 a.no, .bool a.must, .int .i64 a.most, .slice sa a.kids.length ca] 59)
  have hX1 := heap_alloc_new w (.cells #[.int .i64 a.kind, .string a.name, .int .i64 a.no, .bool a.must, .int .i64 a.most, .slice sa a.kids.length ca] 59)
  generalize hw1 : w.alloc (.cells #[.int .i64 a.kind, .string a.name, .int .i64 a.no, .bool a.must, .int .i64 a.most, .slice sa a.kids.length ca] 59) = w1 at *
  have l1 := hp_lt hX1
  have hB2 := hB1.alloc (Nat.le_of_lt l1) (.cells #[.int .i64 b.kind, .string b.name, .int .i64 b.no, .bool b.must, .int .i64 b.most, .slice sb b.kids.length cb] 59)
  have hX1 := hp_alloc (.cells #[.int .i64 b.kind, .string b.name, .int .i64 b.no, .bool b.must, .int .i64 b.most, .slice sb b.kids.length cb] 59) hX1
  have hX2 := heap_alloc_new w1 (.cells #[.int .i64 b.kind, .string b.name, .int .i64 b.no, .bool b.must, .int .i64 b.most, .slice sb b.kids.length cb] 59)
  generalize hw2 : w1.alloc (.cells #[.int .i64 b.kind, .string b.name, .int .i64 b.no, .bool b.must, .int .i64 b.most, .slice sb b.kids.length cb] 59) = w2 at *
  have l2 := hp_lt hX2
  obtain ⟨a0, a1, a2, a3, a4, a5⟩ := box6 hX1
  obtain ⟨b0, b1, b2, b3, b4, b5⟩ := box6 hX2
  have HB2 := Lib.hid hB2
  have HXA := Lib.hid hX1
  have HXB := Lib.hid hX2
  have HROA := Lib.hid (hrowa.keep (T := S) (kept_below hB2) (fun _ h _ => h)); have HKA := Lib.hid (KSs.keep (T := S) (kept_below hB2) (fun _ h _ => h) _ _ hksa)
  have HROB := Lib.hid (hrowb.keep (T := T) (kept_below hB2) (fun _ h _ => h)); have HKB := Lib.hid (KSs.keep (T := T) (kept_below hB2) (fun _ h _ => h) _ _ hksb)
  clear IH ha hb hB1 hB2 hX1 hX2 hrowa hksa hrowb hksb hla hlb
  show Calls Try.prog 55 #[.agg #[.int .i64 a.kind, .string a.name, .int .i64 a.no, .bool a.must, .int .i64 a.most, .slice sa a.kids.length ca], .agg #[.int .i64 b.kind, .string b.name, .int .i64 b.no, .bool b.must, .int .i64 b.most, .slice sb b.kids.length cb]] w _
  generalize hRES : subT a b = RES
  by_cases hk : a.kind = b.kind
  case neg =>
    obtain rfl : RES = false := by rw [← hRES, subT_eq, beq_eq_false_iff_ne.2 hk]; rfl
    have nk : (a.kind != b.kind) = true := bne_iff_ne.2 hk
    clear hRES hk
    go_enter Try.func55, Try.ntmps55
    go_wp2_with fail
    go_ret
    exact ⟨rfl, HB2.out⟩
  have nk : (a.kind != b.kind) = false := by rw [hk]; exact bne_self_eq_false _
  by_cases hm : a.most > b.most
  · have h3 : a.kind = 3 := by
      refine Classical.byContradiction fun h => ?_
      have e1 := right_most hra h
      have e2 := right_most hrb (by rw [← hk]; exact h)
      omega
    have h3b : b.kind = 3 := hk ▸ h3
    obtain rfl : RES = false := by rw [← hRES, subT_eq, decide_eq_false (by omega), Bool.and_false]; rfl
    have n3 : (a.kind == 3) = true := by rw [h3]; decide
    clear hRES hk h3 h3b
    go_enter Try.func55, Try.ntmps55
    go_wp2_with fail
    go_ret
    exact ⟨rfl, HB2.out⟩
  by_cases h4 : b.kind = 4
  · obtain ⟨x, hx⟩ := right_list hra (hk.trans h4)
    obtain ⟨y, hy⟩ := right_list hrb h4
    rw [sub_lst hk (by omega) h4 hx hy] at hRES
    have HR := Lib.hid hRES
    have h4a : a.kind = 4 := hk.trans h4
    rw [hx] at HKA a5 hkca HXA hw1
    rw [hy] at HKB b5 hkcb HXB hw2
    have HXY : Hid (x ∈ a.kids ∧ y ∈ b.kids) := Lib.hid ⟨by rw [hx]; simp, by rw [hy]; simp⟩
    have n3 : (a.kind == 3) = false := by rw [h4a]; decide
    have n4 : (a.kind == 4) = true := by rw [h4a]; decide
    simp only [List.length_cons, List.length_nil, Nat.zero_add] at a5 b5 hkca hkcb HXA HXB hw1 hw2
    obtain ⟨rb, off, vy, cy, rfl, hrb2, r0, r1, r2, r3, r4, r5, hky, -⟩ := kss_at HROB.out HKB.out (Below.refl _ w2) (i := 0) (t := y) rfl
    obtain ⟨qb, offq, vx, cx, rfl, hqb2, q0, q1, q2, q3, q4, q5, hkx, -⟩ := kss_at HROA.out HKA.out (Below.refl _ w2) (i := 0) (t := x) rfl
    rw [Nat.zero_mul, Nat.add_zero] at r0 r1 r2 r3 r4 r5 q0 q1 q2 q3 q4 q5
    have HC := Lib.hid (HIH.out S T w2.drew x y _ _ HXY.out.1 HXY.out.2 (hkx.later ((Below.refl _ _).drew)) (hky.later ((Below.refl _ _).drew)))
    rw [HR.out] at HC
    clear hRES hk hkla hkx hky h4 h4a
    rw [hx, hy]
    simp only [List.length_cons, List.length_nil, Nat.zero_add]
    clear hx hy
    go_enter Try.func55, Try.ntmps55
    go_wp2_with fail
    refine wp_region_G [8] (fun w' => w'.cell? ⟨w.heap.size, 5, none⟩ = some (.slice (some ⟨qb, offq, none⟩) 1 ca) ∧ w'.cell? ⟨w1.heap.size, 5, none⟩ = some (.slice (some ⟨rb, off, none⟩) 1 cb) ∧ w'.cell? ⟨qb, offq, none⟩ = some (.int .i64 x.kind) ∧ w'.cell? ⟨qb, offq + 1, none⟩ = some (.string x.name) ∧ w'.cell? ⟨qb, offq + 2, none⟩ = some (.int .i64 x.no) ∧ w'.cell? ⟨qb, offq + 3, none⟩ = some (.bool x.must) ∧ w'.cell? ⟨qb, offq + 4, none⟩ = some (.int .i64 x.most) ∧ w'.cell? ⟨qb, offq + 5, none⟩ = some (.slice vx x.kids.length cx) ∧ w'.cell? ⟨rb, off, none⟩ = some (.int .i64 y.kind) ∧ w'.cell? ⟨rb, off + 1, none⟩ = some (.string y.name) ∧ w'.cell? ⟨rb, off + 2, none⟩ = some (.int .i64 y.no) ∧ w'.cell? ⟨rb, off + 3, none⟩ = some (.bool y.must) ∧ w'.cell? ⟨rb, off + 4, none⟩ = some (.int .i64 y.most) ∧ w'.cell? ⟨rb, off + 5, none⟩ = some (.slice vy y.kids.length cy)) (by kernel_rfl) ?_ (fun hHeld => ?_)
    · exact ⟨a5, b5, q0, q1, q2, q3, q4, q5, r0, r1, r2, r3, r4, r5⟩
    refine wpG_pure (i := 0) (oi := { dst := some 29, op := Go.Op.fieldAddr 59 (Go.Operand.tmp 2) 5, type := 0, pos := "l2_type.go:166", after := #[], guard := none }) (v := ?vg1) rfl (by kernel_rfl) (fun _ _ _ h => h) (Or.inr hHeld) (Or.inl ⟨by rfl, ?yg1⟩) ?_
    case yg1 => (intro wS _; go_simp <;> with_reducible rfl)
    try simp only [Act.put, List.setIfInBounds_toArray, List.set_cons_zero, List.set_cons_succ]
    refine wpG_load (i := 1) (oi := { dst := some 30, op := Go.Op.load 57 (Go.Operand.tmp 29), type := 57, pos := "l2_type.go:166", after := #[{ on := 0, ground := Go.Ground.data }], guard := none }) (v := ?vg2) [[8, 3, 2, 1]] rfl (by kernel_rfl) (fun _ _ _ h => h) hHeld (Or.inl ⟨by rfl, ?yg2⟩) ?_
    case yg2 => (intro wS hSw; (try dsimp only at hSw); go_simp <;> with_reducible rfl)
    try simp only [Act.put, List.setIfInBounds_toArray, List.set_cons_zero, List.set_cons_succ]
    refine wpG_pure (i := 2) (oi := { dst := some 31, op := Go.Op.indexAddr 57 (Go.Operand.tmp 30) (Go.Operand.const (Go.Value.int Go.IntKind.i64 0)), type := 0, pos := "l2_type.go:166", after := #[{ on := 1, ground := Go.Ground.data }], guard := none }) (v := ?vg3) rfl (by kernel_rfl) (fun _ _ _ h => h) (Or.inr hHeld) (Or.inl ⟨by rfl, ?yg3⟩) ?_
    case yg3 => (intro wS _; go_simp <;> with_reducible rfl)
    try simp only [Act.put, List.setIfInBounds_toArray, List.set_cons_zero, List.set_cons_succ]
    refine wpG_load (i := 3) (oi := { dst := some 32, op := Go.Op.load 59 (Go.Operand.tmp 31), type := 59, pos := "l2_type.go:166", after := #[{ on := 2, ground := Go.Ground.data }], guard := none }) (v := ?vg4) [[8, 3]] rfl (by kernel_rfl) (fun _ _ _ h => h) hHeld (Or.inl ⟨by rfl, ?yg4⟩) ?_
    case yg4 => (intro wS hSw; (try dsimp only at hSw); go_simp <;> with_reducible rfl)
    try simp only [Act.put, List.setIfInBounds_toArray, List.set_cons_zero, List.set_cons_succ]
    refine wpG_pure (i := 4) (oi := { dst := some 33, op := Go.Op.fieldAddr 59 (Go.Operand.tmp 3) 5, type := 0, pos := "l2_type.go:166", after := #[], guard := none }) (v := ?vg5) rfl (by kernel_rfl) (fun _ _ _ h => h) (Or.inr hHeld) (Or.inl ⟨by rfl, ?yg5⟩) ?_
    case yg5 => (intro wS _; go_simp <;> with_reducible rfl)
    try simp only [Act.put, List.setIfInBounds_toArray, List.set_cons_zero, List.set_cons_succ]
    refine wpG_load (i := 5) (oi := { dst := some 34, op := Go.Op.load 57 (Go.Operand.tmp 33), type := 57, pos := "l2_type.go:166", after := #[{ on := 4, ground := Go.Ground.data }], guard := none }) (v := ?vg6) [[8, 7, 6, 5]] rfl (by kernel_rfl) (fun _ _ _ h => h) hHeld (Or.inl ⟨by rfl, ?yg6⟩) ?_
    case yg6 => (intro wS hSw; (try dsimp only at hSw); go_simp <;> with_reducible rfl)
    try simp only [Act.put, List.setIfInBounds_toArray, List.set_cons_zero, List.set_cons_succ]
    refine wpG_pure (i := 6) (oi := { dst := some 35, op := Go.Op.indexAddr 57 (Go.Operand.tmp 34) (Go.Operand.const (Go.Value.int Go.IntKind.i64 0)), type := 0, pos := "l2_type.go:166", after := #[{ on := 5, ground := Go.Ground.data }], guard := none }) (v := ?vg7) rfl (by kernel_rfl) (fun _ _ _ h => h) (Or.inr hHeld) (Or.inl ⟨by rfl, ?yg7⟩) ?_
    case yg7 => (intro wS _; go_simp <;> with_reducible rfl)
    try simp only [Act.put, List.setIfInBounds_toArray, List.set_cons_zero, List.set_cons_succ]
    refine wpG_load (i := 7) (oi := { dst := some 36, op := Go.Op.load 59 (Go.Operand.tmp 35), type := 59, pos := "l2_type.go:166", after := #[{ on := 6, ground := Go.Ground.data }], guard := none }) (v := ?vg8) [[8, 7]] rfl (by kernel_rfl) (fun _ _ _ h => h) hHeld (Or.inl ⟨by rfl, ?yg8⟩) ?_
    case yg8 => (intro wS hSw; (try dsimp only at hSw); go_simp <;> with_reducible rfl)
    try simp only [Act.put, List.setIfInBounds_toArray, List.set_cons_zero, List.set_cons_succ]
    refine wpG_one (i := 8) (o := { dst := some 37, op := Go.Op.call { callee := Go.Callee.value (Go.Operand.func 55), args := #[Go.Operand.tmp 32, Go.Operand.tmp 36], argTypes := #[59, 59] }, type := 4, pos := "l2_type.go:166", after := #[{ on := 3, ground := Go.Ground.data }, { on := 7, ground := Go.Ground.data }], guard := none }) rfl (by kernel_rfl) (fun K hK => ?_)
    go_simp
    refine HC.out.mono ?_
    rintro e w6 ⟨rfl, hb6⟩
    have HB6 := Lib.hid (HB2.out.drew.trans (hb6.mono (HB2.out.drew.size)))
    clear hb6
    refine hK.out _ _ (Or.inl (by kernel_rfl)) (fun _ => ?_)
    clear hK K
    try simp only [Act.put, List.setIfInBounds_toArray, List.set_cons_zero, List.set_cons_succ]
    refine wpG_pure (i := 9) (oi := { dst := some 4, op := Go.Op.assign (Go.Operand.tmp 37), type := 4, pos := "l2_type.go:166", after := #[{ on := 8, ground := Go.Ground.data }, { on := 8, ground := Go.Ground.chain }, { on := 0, ground := Go.Ground.phase }, { on := 1, ground := Go.Ground.phase }, { on := 2, ground := Go.Ground.phase }, { on := 3, ground := Go.Ground.phase }, { on := 4, ground := Go.Ground.phase }, { on := 5, ground := Go.Ground.phase }, { on := 6, ground := Go.Ground.phase }, { on := 7, ground := Go.Ground.phase }, { on := 8, ground := Go.Ground.phase }], guard := none }) (v := ?vg10) rfl (by kernel_rfl) (fun _ _ _ h => h) (Or.inl (by kernel_rfl)) (Or.inl ⟨by rfl, ?yg10⟩) ?_
    case yg10 => (intro wS _; go_simp <;> with_reducible rfl)
    try simp only [Act.put, List.setIfInBounds_toArray, List.set_cons_zero, List.set_cons_succ]
    refine wpG_done (by kernel_rfl) ?_
    skip
    go_wp2_with fail
    go_ret
    exact ⟨rfl, HB6.out⟩
  have hiff := sub_msg hk (by omega) h4
  rw [hRES] at hiff
  have HR := Lib.hid hiff
  have n4 : (a.kind == 4) = false := beq_eq_false_iff_ne.2 (fun e => h4 (hk.symm.trans e))
  have HE3 : Hid ((a.kind == 3) = true → ¬ a.most > b.most) := Lib.hid (fun _ => hm)
  clear hiff hRES hk h4
  cases h3 : (a.kind == 3)
  all_goals
    go_enter Try.func55, Try.ntmps55
    go_wp2_with fail
    go_loopw [41] (fun iv wr => ∃ i : Nat, i ≤ b.kids.length ∧ iv = .int .i64 (i : Int) ∧ Hid (∀ y ∈ b.kids.take i, HasP a.kids y) ∧ Hid (Below w2.heap.size w2 wr)) (fun iv _ => b.kids.length - (intOf iv).toNat)
    case atStart => exact ⟨0, by omega, rfl, Lib.hid (by simp), Lib.hid (Below.refl _ _)⟩
    case round =>
      obtain ⟨wo, rfl⟩ : ∃ z : World, z = wr := ⟨_, rfl⟩
      obtain ⟨i, hi, rfl, HI, HB⟩ := hrel
      have hzo := HB.out.size
      have HBo := Lib.hid (HB2.out.trans (HB.out.mono HB2.out.size))
      by_cases hil : i < b.kids.length
      case neg =>
        obtain rfl : i = b.kids.length := by omega
        obtain rfl : RES = true := by
          rw [HR.out]
          have := HI.out
          rwa [List.take_length] at this
        go_wp2_with fail
        go_ret
        exact ⟨rfl, HBo.out⟩
      obtain ⟨y, hy⟩ : ∃ y, b.kids[i]? = some y := ⟨b.kids[i], List.getElem?_eq_getElem hil⟩
      have hym := List.mem_of_getElem? hy
      have HNO : Hid (¬ HasP a.kids y → RES = false) := Lib.hid (fun hn => by
        rw [Bool.eq_false_iff, Ne, HR.out]
        exact fun hall => hn (hall y hym))
      have HYE : Hid (HasP a.kids y → ∀ z ∈ b.kids.take (i + 1), HasP a.kids z) := Lib.hid (fun hp => take_mem HI.out hy hp)
      obtain ⟨rb, off, vy, cy, rfl, hrb, r0, r1, r2, r3, r4, r5, hky, -⟩ := kss_at HROB.out HKB.out HB.out hy
      have hrbo : rb < wo.heap.size := by omega
      have hXA := hp_alloc (.cells #[.int .i64 y.kind, .string y.name, .int .i64 y.no, .bool y.must, .int .i64 y.most, .slice vy y.kids.length cy] 59) (hp_later HB.out HXA.out)
      have hXY := heap_alloc_new wo (.cells #[.int .i64 y.kind, .string y.name, .int .i64 y.no, .bool y.must, .int .i64 y.most, .slice vy y.kids.length cy] 59)
      have HBN := Lib.hid (HB.out.alloc HB.out.size (.cells #[.int .i64 y.kind, .string y.name, .int .i64 y.no, .bool y.must, .int .i64 y.most, .slice vy y.kids.length cy] 59))
      generalize hwn : wo.alloc (.cells #[.int .i64 y.kind, .string y.name, .int .i64 y.no, .bool y.must, .int .i64 y.most, .slice vy y.kids.length cy] 59) = wn at *
      have lyn := hp_lt hXY
      obtain ⟨t0, t1, t2, t3, t4, t5⟩ := box6 hXA
      obtain ⟨y0, y1, y2, y3, y4, y5⟩ := box6 hXY
      have HXY := Lib.hid hXY
      have HBnw := Lib.hid (HB2.out.trans (HBN.out.mono HB2.out.size))
      have HKY := Lib.hid (hky.later HBN.out)
      have HP := Lib.hid (HBY.out wn y.no HBnw.out)
      have HYM := Lib.hid hym
      clear hy hky hym hXA hXY
      go_wp2_with fail
      refine HP.out.mono ?_
      rintro e w3 ⟨cs, bx, rfl, hb3, ⟨hno, rfl, rfl⟩ | ⟨x, hyes, rfl, hkx⟩⟩
      · obtain rfl : RES = false := HNO.out (fun ⟨x, h, _⟩ => by rw [hno] at h; cases h)
        have HB3 := Lib.hid ((HBnw.out.trans (hb3.mono HBnw.out.size)).alloc (HBnw.out.trans (hb3.mono HBnw.out.size)).size (.cells #[.int .i64 0, .string { data := #[] }, .int .i64 0, .bool false, .int .i64 0, .slice none 0 0] 59))
        clear hb3 hno
        go_wp2_with fail
        go_ret
        exact ⟨rfl, HB3.out⟩
      obtain ⟨qa, qc, qss, rfl, hqn, hqk, hqc, -⟩ := hkx.open
      have HB3 := Lib.hid (HBnw.out.trans (hb3.mono HBnw.out.size))
      have hb4 := (Below.refl w3.heap.size w3).alloc (Nat.le_refl _) (.cells #[.int .i64 x.kind, .string x.name, .int .i64 x.no, .bool x.must, .int .i64 x.most, .slice qa x.kids.length qc] 59)
      have HB4 := Lib.hid (HB3.out.trans (hb4.mono HB3.out.size))
      have HB42 := Lib.hid (HBN.out.trans ((hb3.trans (hb4.mono hb3.size)).mono HBN.out.size))
      have hX4 := heap_alloc_new w3 (.cells #[.int .i64 x.kind, .string x.name, .int .i64 x.no, .bool x.must, .int .i64 x.most, .slice qa x.kids.length qc] 59)
      have hY4 := hp_later hb4 (hp_later hb3 HXY.out)
      generalize hw4 : w3.alloc (.cells #[.int .i64 x.kind, .string x.name, .int .i64 x.no, .bool x.must, .int .i64 x.most, .slice qa x.kids.length qc] 59) = w4 at *
      have HC := Lib.hid (HIH.out S T w4 x y _ _ (byNo_no hyes).2 HYM.out (hkx.later hb4) ((HKY.out.later hb3).later hb4))
      obtain ⟨z0, z1, z2, z3, z4, z5⟩ := box6 hY4
      obtain ⟨q0, q1, q2, q3, q4, q5⟩ := box6 hX4
      have HYS := Lib.hid hyes
      clear hb3 hb4 hyes hkx hX4 hY4
      cases hym : y.must
      all_goals
        cases hxm : x.must
      all_goals
        rw [hym] at z3
        rw [hxm] at q3 hw4
      rotate_left 2
      · obtain rfl : RES = false := HNO.out (fun ⟨x', h, h2, _⟩ => by
          rw [HYS.out] at h; cases h
          have := h2 hym
          rw [hxm] at this; cases this)
        go_wp2_with fail
        go_ret
        exact ⟨rfl, HB4.out⟩
      all_goals
        have hmm : y.must = true → x.must = true := fun h => by first | exact hxm | (rw [hym] at h; cases h)
        have HMM := Lib.hid hmm
        rw [hym, hxm] at HC
        clear hmm
        cases hsub : subT x y with
        | false =>
          obtain rfl : RES = false := HNO.out (fun ⟨x', h, _, h3⟩ => by
            rw [HYS.out] at h; cases h
            rw [hsub] at h3; cases h3)
          rw [hsub] at HC
          clear hsub
          go_wp2_with fail
          refine HC.out.mono ?_
          rintro e w5 ⟨rfl, hb5⟩
          have HB5 := Lib.hid (HB4.out.trans (hb5.mono HB4.out.size))
          clear hb5
          go_wp2_with fail
          go_ret
          exact ⟨rfl, HB5.out⟩
        | true =>
          have HN := Lib.hid (HYE.out ⟨x, HYS.out, HMM.out, hsub⟩)
          rw [hsub] at HC
          clear hsub
          go_wp2_with fail
          refine HC.out.mono ?_
          rintro e w5 ⟨rfl, hb5⟩
          have HB5 := Lib.hid (HB42.out.trans (hb5.mono HB42.out.size))
          clear hb5
          go_wp2_with fail
          go_roundw
          case rel => exact ⟨i + 1, by omega, by go_num, HN, HB5⟩
          case measure => (simp [intOf]; try omega)
theorem spec_l2Sub : ∀ (f : Nat) {S T : Nat → Prop} (w : World) (a b : Tr) (pa pb : List Value), countT b ≤ f → KS S w a pa → KS T w b pb → RightT a → RightT b → countT a ≤ 1048576 → countT b ≤ 1048576 → Calls Try.prog 55 #[.agg pa.toArray, .agg pb.toArray] w fun e w' => e = .returned (.bool (subT a b)) ∧ Below w.heap.size w w'
  | 0, S, T, w, a, b, pa, pb, hf, _, _, _, _, _, _ => by have := countT_pos b; omega
  | f + 1, S, T, w, a, b, pa, pb, hf, ha, hb, hra, hrb, hla, hlb => spec_l2Sub_one ha hb hra hrb hla hlb (fun S' T' wx x y px py hx hy hkx hky => by
      have h1 := size_lt hx
      have h2 := size_lt hy
      exact spec_l2Sub f wx x y px py (by omega) hkx hky (right_kids hra x hx).2 (right_kids hrb y hy).2 (by omega) (by omega))
end Go.Proofs.Ytmlnecopbncdbaa
