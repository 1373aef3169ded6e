/- A term read out of cells: the program's walk, up to a variable. -/
import Derived.Test.YtlmgckijbamgpaaTm5
import Derived.Test.YtlmgckijbamgpaaSched
namespace Go.Proofs.Ytlmgckijbamgpaa
set_option linter.unusedVariables false
open Go.ChangeShapes Go.WideShapes Go.ChangeAt Go.RowKit
set_option maxRecDepth 100000

/-- what the program's reading hands out -/
def FromOf (B : Nat) (R : Option (List Int × List Cel)) (d : Nat) (w : World) (e : Ending) (w' : World) : Prop :=
  ∃ p ra rn rc, e = .returned (.tuple #[.pointer p, .slice ra rn rc]) ∧ Below w.heap.size w w' ∧ (R = none → p = none ∧ rn = 0) ∧ (∀ vs r, R = some (vs, r) → rn = r.length ∧ r.length ≤ rc ∧ rc ≤ 9223372036854775807 ∧ CRow B w' ra r ∧ TP (fun x => w.heap.size ≤ x) w' d (.pointer p) vs)
theorem pT_cons {f : Nat} {c : Cel} {t : List Cel} : pT (f + 1) (c :: t) = if c.1 = 0 then (if (nmB c.2.1 && decide (c.2.1.size ≤ 4) && inR c.2.2 0 5) = true then pK (pT f) c.2.2.toNat t else none) else (if (inR c.1 1 6 && (c.2.1.toList.isEmpty && (c.2.2 == 0))) = true then some ([c.1], t) else none) := by
  rw [pT, isEm]
  rfl
theorem impl_from_nil (B f : Nat) (a : Option Addr) (cap : Nat) (w : World) : Calls Try.prog 115 #[.slice a 0 cap] w (FromOf B (pT f []) f w) := by
  have HNO : Hid (pT f [] = none) := Lib.hid (pT_nil f)
  generalize pT f [] = R at *
  unfold FromOf
  go_enter Try.func115, Try.ntmps115
  go_wp2_with fail
  go_ret2
  exact ⟨_, _, _, _, rfl, Below.refl _ _, fun _ => ⟨rfl, rfl⟩, fun vs r h => by rw [HNO.out] at h; cases h⟩
set_option maxHeartbeats 4000000 in
theorem impl_from_var (B f : Nat) (a : Option Addr) (cap : Nat) (c : Cel) (t : List Cel) (w : World) (hc : t.length + 1 ≤ cap) (hcm : cap ≤ 9223372036854775807) (hrow : CRow B w a (c :: t)) (hB : B ≤ w.heap.size) (hv : c.1 ≠ 0) :
    Calls Try.prog 115 #[.slice a (t.length + 1) cap] w (FromOf B (pT (f + 1) (c :: t)) (f + 1) w) := by
  have HP := Lib.hid (pT_cons (f := f) (c := c) (t := t))
  rw [if_neg hv] at HP
  generalize pT (f + 1) (c :: t) = R at *
  obtain ⟨b, off, rfl, hbl, c0, c1, c2⟩ := hrow 0 c rfl
  rw [Nat.zero_mul, Nat.add_zero] at c0 c1 c2
  have hbw : b < w.heap.size := by omega
  have h1t : (1 : Int) ≤ (t.length : Int) + 1 := by omega
  obtain ⟨ra0, hra⟩ : ∃ z, (if cap = 1 then (some ⟨b, off, none⟩ : Option Addr) else some ⟨b, off + 3, none⟩) = z := ⟨_, rfl⟩
  have HTL : Hid (CRow B w ra0 t) := Lib.hid (by
    rw [← hra]
    by_cases h1 : cap = 1
    · have : t = [] := List.length_eq_zero_iff.1 (by omega)
      rw [this]; exact CRow.nil _
    · rw [if_neg h1]; exact hrow.tail)
  obtain ⟨vr, nm, mn⟩ := c
  simp only at c0 c1 c2 HP hv
  have HC1 : Hid ((w.alloc (.cells #[.int .i64 vr, .string nm, .int .i64 mn] 145)).drew.heap[w.heap.size]? = some (.cells #[.int .i64 vr, .string nm, .int .i64 mn] 145)) := Lib.hid (heap_alloc_new w (.cells #[.int .i64 vr, .string nm, .int .i64 mn] 145))
  have HB1 := Lib.hid (((Below.refl w.heap.size w).alloc (Nat.le_refl _) (.cells #[.int .i64 vr, .string nm, .int .i64 mn] 145)).drew)
  clear hrow
  have HIN := Lib.hid (fun wx => impl_within vr 1 6 wx)
  have k0 : (vr == 0) = false := beq_eq_false_iff_ne.2 hv
  generalize hbe : nm.toList.isEmpty = be at *
  generalize hbm : (mn == 0) = bm at *
  unfold FromOf
  go_enter Try.func115, Try.ntmps115
  go_wp2_with fail
  refine wp_region_G [6] (fun w' => w'.cell? ⟨b, off, none⟩ = some (.int .i64 vr) ∧ w'.cell? ⟨b, off + 1, none⟩ = some (.string nm) ∧ w'.cell? ⟨b, off + 2, none⟩ = some (.int .i64 mn)) (by kernel_rfl) ?_ (fun hHeld => ?_)
  · exact ⟨c0, c1, c2⟩
  refine wpG_pure (i := 0) (oi := { dst := some 12, op := Go.Op.move (Go.Operand.tmp 0), type := 29, pos := "l6_unify.go:40", after := #[], guard := none }) (v := ?vg1) rfl (by kernel_rfl) (fun _ _ _ h => h) (Or.inr hHeld) (Or.inl ⟨by rfl, ?yg1⟩) ?_
  case yg1 => (intro wS _; go_simp <;> with_reducible rfl)
  try simp only [Act.put, List.setIfInBounds_toArray, List.set_cons_zero, List.set_cons_succ]
  refine wpG_pure (i := 1) (oi := { dst := some 13, op := Go.Op.indexAddr 29 (Go.Operand.tmp 12) (Go.Operand.const (Go.Value.int Go.IntKind.i64 0)), type := 0, pos := "l6_unify.go:40", after := #[{ on := 0, ground := Go.Ground.data }], guard := none }) (v := ?vg2) rfl (by kernel_rfl) (fun _ _ _ h => h) (Or.inr hHeld) (Or.inl ⟨by rfl, ?yg2⟩) ?_
  case yg2 => (intro wS _; go_simp <;> with_reducible rfl)
  try simp only [Act.put, List.setIfInBounds_toArray, List.set_cons_zero, List.set_cons_succ]
  refine wpG_load (i := 2) (oi := { dst := some 14, op := Go.Op.load 145 (Go.Operand.tmp 13), type := 145, pos := "l6_unify.go:40", after := #[{ on := 1, ground := Go.Ground.data }], guard := none }) (v := ?vg3) [[6, 2]] rfl (by kernel_rfl) (fun _ _ _ h => h) hHeld (Or.inl ⟨by rfl, ?yg3⟩) ?_
  case yg3 => (intro wS hSw; (try dsimp only at hSw); go_simp <;> with_reducible rfl)
  try simp only [Act.put, List.setIfInBounds_toArray, List.set_cons_zero, List.set_cons_succ]
  refine wpG_pure (i := 3) (oi := { dst := some 15, op := Go.Op.move (Go.Operand.tmp 0), type := 29, pos := "l6_unify.go:40", after := #[], guard := none }) (v := ?vg4) rfl (by kernel_rfl) (fun _ _ _ h => h) (Or.inr hHeld) (Or.inl ⟨by rfl, ?yg4⟩) ?_
  case yg4 => (intro wS _; go_simp <;> with_reducible rfl)
  try simp only [Act.put, List.setIfInBounds_toArray, List.set_cons_zero, List.set_cons_succ]
  refine wpG_pure (i := 4) (oi := { dst := some 16, op := Go.Op.slice 29 (Go.Operand.tmp 15) (some (Go.Operand.const (Go.Value.int Go.IntKind.i64 1))) none none, type := 29, pos := "l6_unify.go:40", after := #[{ on := 3, ground := Go.Ground.data }], guard := none }) (v := ?vg5) rfl (by kernel_rfl) (fun _ _ _ h => h) (Or.inr hHeld) (Or.inl ⟨by rfl, ?yg5⟩) ?_
  case yg5 => (intro wS _; go_simp <;> with_reducible rfl)
  try simp only [Act.put, List.setIfInBounds_toArray, List.set_cons_zero, List.set_cons_succ]
  refine wpG_one (i := 5) (o := { dst := some 4, op := Go.Op.alloc 145, type := 0, pos := "l6_unify.go:40", after := #[], guard := none }) rfl (by kernel_rfl) (fun K hK => ?_)
  go_simp
  refine hK.out _ _ (Or.inr ?khHeld6) (fun hHeld6S => ?_)
  case khHeld6 => go_simp
  have hHeld6 := hHeld6S.held (by kernel_rfl)
  clear hK K
  try simp only [Act.put, List.setIfInBounds_toArray, List.set_cons_zero, List.set_cons_succ]
  refine wpG_one (i := 6) (o := { dst := none, op := Go.Op.store 145 (Go.Operand.tmp 4) (Go.Operand.tmp 14), type := 0, pos := "l6_unify.go:40", after := #[{ on := 5, ground := Go.Ground.data }, { on := 2, ground := Go.Ground.data }, { on := 0, ground := Go.Ground.phase }, { on := 1, ground := Go.Ground.phase }, { on := 2, ground := Go.Ground.phase }, { on := 3, ground := Go.Ground.textOnly Go.Departure.lateStores }, { on := 4, ground := Go.Ground.textOnly Go.Departure.lateStoresUnsure }, { on := 5, ground := Go.Ground.phase }], guard := none }) rfl (by kernel_rfl) (fun K hK => ?_)
  go_simp
  refine hK.out _ _ (Or.inl (by kernel_rfl)) (fun _ => ?_)
  clear hK K
  try simp only [Act.put, List.setIfInBounds_toArray, List.set_cons_zero, List.set_cons_succ]
  refine wpG_pure (i := 7) (oi := { dst := some 5, op := Go.Op.assign (Go.Operand.tmp 16), type := 29, pos := "l6_unify.go:40", after := #[{ on := 4, ground := Go.Ground.data }, { on := 6, ground := Go.Ground.chain }, { on := 0, ground := Go.Ground.phase }, { on := 1, ground := Go.Ground.phase }, { on := 2, ground := Go.Ground.phase }, { on := 3, ground := Go.Ground.phase }, { on := 4, ground := Go.Ground.phase }, { on := 5, ground := Go.Ground.phase }, { on := 6, ground := Go.Ground.phase }], guard := none }) (v := ?vg8) rfl (by kernel_rfl) (fun _ _ _ h => h) (Or.inl (by kernel_rfl)) (Or.inl ⟨by rfl, ?yg8⟩) ?_
  case yg8 => (intro wS _; go_simp <;> with_reducible rfl)
  try simp only [Act.put, List.setIfInBounds_toArray, List.set_cons_zero, List.set_cons_succ]
  refine wpG_done (by kernel_rfl) ?_
  have HB1' := HB1
  generalize (w.alloc (.cells #[.int .i64 vr, .string nm, .int .i64 mn] 145)).drew = w1 at *
  obtain ⟨⟨d0, d1, d2⟩, -⟩ := box3 HC1.out
  have hw1 := HB1.out.size
  clear c0 c1 c2
  cases hbi : inR vr 1 6 with
  | false =>
    rw [hbi] at HP HIN
    have HNO : Hid (R = none) := Lib.hid (by rw [HP.out]; rfl)
    go_wp2_with fail
    refine (HIN.out _).mono ?_
    rintro e w' ⟨rfl, rfl⟩
    go_wp2_with fail
    go_ret2
    exact ⟨_, _, _, _, rfl, HB1.out, fun _ => ⟨rfl, rfl⟩, fun vs r h => by rw [HNO.out] at h; cases h⟩
  | true =>
  have hr6 := inR_iff2.1 hbi
  rw [hbi] at HP HIN
  cases be with
  | false =>
    have HNO : Hid (R = none) := Lib.hid (by rw [HP.out]; rfl)
    go_wp2_with fail
    refine (HIN.out _).mono ?_
    rintro e w' ⟨rfl, rfl⟩
    go_wp2_with fail
    go_ret2
    exact ⟨_, _, _, _, rfl, HB1.out, fun _ => ⟨rfl, rfl⟩, fun vs r h => by rw [HNO.out] at h; cases h⟩
  | true =>
  cases bm with
  | false =>
    have HNO : Hid (R = none) := Lib.hid (by rw [HP.out]; rfl)
    go_wp2_with fail
    refine (HIN.out _).mono ?_
    rintro e w' ⟨rfl, rfl⟩
    go_wp2_with fail
    go_ret2
    exact ⟨_, _, _, _, rfl, HB1.out, fun _ => ⟨rfl, rfl⟩, fun vs r h => by rw [HNO.out] at h; cases h⟩
  | true =>
    have HYES : Hid (R = some ([vr], t)) := Lib.hid (by rw [HP.out]; rfl)
    have HN2 := Lib.hid (heap_alloc_new w1 (.cells #[.int .i64 vr, .string { data := #[] }, .slice none 0 0] 151))
    have HB2 := Lib.hid (HB1.out.alloc hw1 (.cells #[.int .i64 vr, .string { data := #[] }, .slice none 0 0] 151))
    go_wp2_with fail
    refine (HIN.out _).mono ?_
    rintro e w' ⟨rfl, rfl⟩
    go_wp2_with fail
    go_ret2
    refine ⟨_, _, _, _, rfl, HB2.out, (fun h => by rw [HYES.out] at h; cases h), fun vs r h => ?_⟩
    rw [HYES.out] at h
    simp only [Option.some.injEq, Prod.mk.injEq] at h
    obtain ⟨rfl, rfl⟩ := h
    exact ⟨rfl, by omega, by omega, HTL.out.below (HB2.out.mono hB), ⟨_, _, _, _, _, _, rfl, hw1, HN2.out, Nat.le_refl _, by decide, .inl ⟨hr6.1, hr6.2, rfl, rfl⟩⟩⟩
end Go.Proofs.Ytlmgckijbamgpaa
