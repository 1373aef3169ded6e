/- One field taken: the program's walk. -/
import Derived.Test.YtlmgckijbamgpaaFrI
namespace Go.Proofs.Ytlmgckijbamgpaa
set_option linter.unusedVariables false
set_option linter.unusedSimpArgs false
open Go.ChangeShapes Go.WideShapes Go.ChangeAt Go.RowKit
set_option maxRecDepth 100000

theorem b5 {wx : World} {X : Nat} {a b c d e : Value} {T : TypeId} (h : wx.heap[X]? = some (.cells #[a, b, c, d, e] T)) : (wx.cell? ⟨X, 0, none⟩ = some a ∧ wx.cell? ⟨X, 1, none⟩ = some b ∧ wx.cell? ⟨X, 2, none⟩ = some c ∧ wx.cell? ⟨X, 3, none⟩ = some d ∧ wx.cell? ⟨X, 4, none⟩ = some e) ∧ wx.frozen? ⟨X, 0, none⟩ = false ∧ wx.frozen? ⟨X, 1, none⟩ = false ∧ wx.frozen? ⟨X, 2, none⟩ = false ∧ wx.frozen? ⟨X, 3, none⟩ = false ∧ wx.frozen? ⟨X, 4, none⟩ = false := by
  simp [World.cell?, World.frozen?, h]
theorem st5 {wx : World} {X : Nat} {a b c d e : Value} {T : TypeId} (h : wx.heap[X]? = some (.cells #[a, b, c, d, e] T)) (p q r s t : Value) :
    ∃ wA wB wC wD wE : World, wx.setCell ⟨X, 0, none⟩ p = wA ∧ wA.setCell ⟨X, 1, none⟩ q = wB ∧ wB.setCell ⟨X, 2, none⟩ r = wC ∧ wC.setCell ⟨X, 3, none⟩ s = wD ∧ wD.setCell ⟨X, 4, none⟩ t = wE ∧
      ((wx.cell? ⟨X, 0, none⟩ = some a ∧ wx.frozen? ⟨X, 0, none⟩ = false) ∧ (wA.cell? ⟨X, 1, none⟩ = some b ∧ wA.frozen? ⟨X, 1, none⟩ = false) ∧ (wB.cell? ⟨X, 2, none⟩ = some c ∧ wB.frozen? ⟨X, 2, none⟩ = false) ∧ (wC.cell? ⟨X, 3, none⟩ = some d ∧ wC.frozen? ⟨X, 3, none⟩ = false) ∧ (wD.cell? ⟨X, 4, none⟩ = some e ∧ wD.frozen? ⟨X, 4, none⟩ = false)) ∧
      wE.heap[X]? = some (.cells #[p, q, r, s, t] T) ∧ (∀ Y o, Y ≠ X → wx.heap[Y]? = some o → wE.heap[Y]? = some o) ∧ (∀ n w0, Below n w0 wx → n ≤ X → Below n w0 wE) ∧ wx.heap.size ≤ wE.heap.size := by
  refine ⟨_, _, _, _, _, rfl, rfl, rfl, rfl, rfl, ?_, ?_, ?_, ?_, ?_⟩
  · simp [World.cell?, World.frozen?, World.setCell, Array.getElem?_modify, h]
  · simp [World.setCell, Array.getElem?_modify, h]
  · intro Y o hY hh
    rw [Below.heap_setCell _ _ _ _ (by exact hY), Below.heap_setCell _ _ _ _ (by exact hY), Below.heap_setCell _ _ _ _ (by exact hY), Below.heap_setCell _ _ _ _ (by exact hY), Below.heap_setCell _ _ _ _ (by exact hY)]
    exact hh
  · intro n w0 hb hn
    have key : ∀ (wy : World) (i : Nat) (u : Value), Below n w0 wy → Below n w0 (wy.setCell ⟨X, i, none⟩ u) := fun wy i u h => h.trans ⟨rfl, rfl, rfl, by simp [World.setCell], fun k hk => Below.heap_setCell _ _ _ _ (by intro e; simp only at e; omega)⟩
    exact key _ _ _ (key _ _ _ (key _ _ _ (key _ _ _ (key _ _ _ hb))))
  · simp [World.setCell]
def FieldO (R : Option (Fld × Nat)) (w : World) (e : Ending) (w' : World) : Prop :=
  ∃ v0 v1 v2 dt at1 en, e = .returned (.tuple #[.agg #[.int .i64 v0, .int .i64 v1, .int .i64 v2, .string dt, .int .i64 at1], .int .i64 en, .bool R.isSome]) ∧ Below w.heap.size w w' ∧ (∀ f z, R = some (f, z) → v0 = f.no ∧ v1 = f.kind ∧ v2 = f.num ∧ dt = f.data ∧ en = (z : Int))
set_option maxHeartbeats 4000000 in
theorem impl_takeField (s : ByteArray) (a : Nat) (w : World) (hs : s.size ≤ 400) (ha : a ≤ 400) : Calls Try.prog 129 #[.string s, .int .i64 (a : Int)] w (FieldO (fldAt s a) w) := by
  have HT1 := Lib.hid (fun wx => impl_take s a wx (by omega) (by omega))
  unfold TakeRes at HT1
  change Hid (∀ wx, Calls Try.prog 70 #[.string s, .int .i64 (a : Int)] wx fun e w' => ∃ n en, e = .returned (.tuple #[.int .i64 ((n : Nat) : Int), .int .i64 en, .bool (tk s a).2.2]) ∧ n < 34359738368 ∧ ((tk s a).2.2 = true → n = (tk s a).1 ∧ en = (a : Int) + ((tk s a).2.1 : Int)) ∧ wx = w') at HT1
  have hbd1 := tk_bd s a
  have hln1 := tk_len (s := s) (a := a)
  have HX0 := Lib.hid (heap_alloc_new w (.cells #[.int .i64 0, .int .i64 0, .int .i64 0, .string { data := #[] }, .int .i64 0] 119))
  have HB0 := Lib.hid ((Below.refl w.heap.size w).alloc (Nat.le_refl _) (.cells #[.int .i64 0, .int .i64 0, .int .i64 0, .string { data := #[] }, .int .i64 0] 119))
  have HF1 := Lib.hid (fldAt_no1 (s := s) (a := a))
  have HF2 := Lib.hid (fun n1 u1 (h : tk s a = (n1, u1, true)) => fldAt_no2 h)
  have HF3 := Lib.hid (fun n1 u1 n2 u2 (h : tk s a = (n1, u1, true)) (h2 : tk s (a + u1) = (n2, u2, true)) => fldAt_eq h h2)
  generalize hRR : fldAt s a = R at *
  obtain ⟨⟨n1, u1, b1⟩, h1⟩ : ∃ q, tk s a = q := ⟨_, rfl⟩
  rw [h1] at HT1 hbd1 hln1 HF1
  simp only at HT1 hbd1 hln1 HF1
  unfold FieldO
  go_enter Try.func129, Try.ntmps129
  go_wp2_with fail
  generalize hw0 : w.alloc (.cells #[.int .i64 0, .int .i64 0, .int .i64 0, .string { data := #[] }, .int .i64 0] 119) = w0 at *
  refine (HT1.out _).mono ?_
  rintro e w' ⟨n, en, rfl, hn, hh, rfl⟩
  have q2 : (n : Int).tdiv 8 = ((n / 8 : Nat) : Int) := Int.tdiv_eq_ediv_of_nonneg (by omega)
  have q1 : (n : Int).tmod 8 = ((n % 8 : Nat) : Int) := Int.tmod_eq_emod_of_nonneg (by omega)
  have hno : n / 8 < 4294967296 := by omega
  have hkd : n % 8 < 8 := by omega
  have hwz := (Array.getElem?_eq_some_iff.1 HX0.out).1
  have hFA : w0.heap.size ≠ w.heap.size := by omega
  cases b1 with
  | false =>
    have HNO : Hid (R = none) := Lib.hid (HF1.out rfl)
    clear hh h1
    generalize n / 8 = no at *
    generalize n % 8 = kd at *
    have HX1 := Lib.hid (heap_later ((Below.refl w0.heap.size w0).alloc (Nat.le_refl _) (.cells #[.int .i64 (no : Int), .int .i64 (kd : Int), .int .i64 0, .string { data := #[] }, .int .i64 (a : Int)] 119)) HX0.out)
    have HB1 := Lib.hid (HB0.out.alloc HB0.out.size (.cells #[.int .i64 (no : Int), .int .i64 (kd : Int), .int .i64 0, .string { data := #[] }, .int .i64 (a : Int)] 119))
    obtain ⟨wA, wB, wC, wD, wE, hA, hB, hC, hD, hE, ⟨⟨i0, j0⟩, ⟨i1, j1⟩, ⟨i2, j2⟩, ⟨i3, j3⟩, ⟨i4, j4⟩⟩, hXE, hFR, hBE, hZE⟩ := st5 HX1.out (.int .i64 0) (.int .i64 0) (.int .i64 0) (.string { data := #[] }) (.int .i64 0)
    obtain ⟨⟨y0, y1, y2, y3, y4⟩, -⟩ := b5 hXE
    have HBE := Lib.hid (hBE _ _ HB1.out (Nat.le_refl _))
    clear hXE hFR hBE hZE
    go_wp2_with fail
    refine bodyPost_ret (v := .tuple #[.agg #[.int .i64 0, .int .i64 0, .int .i64 0, .string { data := #[] }, .int .i64 0], .int .i64 0, .bool false]) (by simp [results, Try.results129, go_sem, y0, y1, y2, y3, y4]) rfl ?_
    exact ⟨_, _, _, _, _, _, by rw [HNO.out]; rfl, HBE.out, fun f z h => by rw [HNO.out] at h; cases h⟩
  | true =>
    obtain ⟨rfl, rfl⟩ := hh rfl
    obtain ⟨l1, l2, -⟩ := hln1 rfl
    obtain ⟨e1, he1⟩ : ∃ z, z = a + u1 := ⟨_, rfl⟩
    have he1' : (a : Int) + (u1 : Int) = (e1 : Int) := by omega
    rw [he1']
    have HG2 := Lib.hid (HF2.out _ _ h1)
    have HG3 := Lib.hid (fun n2 u2 => HF3.out _ _ n2 u2 h1)
    rw [← he1] at HG2 HG3
    have hle1 : e1 ≤ s.size := by omega
    clear he1 HF1 HF2 HF3 h1 l1 l2
    by_cases h2 : n % 8 = 2
    · rw [h2] at q1 HG3
      clear hkd h2
      generalize n / 8 = no at *
      have HTB := Lib.hid (fun wx => impl_takeBytes s e1 wx (by omega) (by omega))
      unfold takeB at HTB
      by_cases hfit : (tk s e1).2.2 = true ∧ e1 + (tk s e1).2.1 + (tk s e1).1 ≤ s.size
      · obtain ⟨⟨n2, u2, b2⟩, h3⟩ : ∃ q, tk s e1 = q := ⟨_, rfl⟩
        rw [h3] at hfit HTB
        simp only at hfit
        obtain ⟨rfl, hft⟩ := hfit
        have HR3 := Lib.hid (HG3.out _ _ h3)
        rw [if_neg (by decide), if_pos rfl] at HR3
        simp only [true_and] at HTB
        rw [if_pos hft] at HTB
        obtain ⟨en2, hen2⟩ : ∃ z, z = e1 + u2 + n2 := ⟨_, rfl⟩
        rw [← hen2] at HTB HR3 hft
        generalize s.extract (e1 + u2) en2 = dt at *
        have HOKF := Lib.hid (fun wx => impl_fieldOK (Fld.mk (no : Int) 2 0 dt) wx)
        simp only at HOKF
        have HRES : Hid (R.isSome = okF (Fld.mk (no : Int) 2 0 dt)) := Lib.hid (by
          rw [HR3.out]
          by_cases h : okF (Fld.mk (no : Int) 2 0 dt) = true
          · rw [if_pos ⟨hft, h⟩, h]; rfl
          · rw [if_neg (fun x => h x.2)]; simpa using h)
        have HANS : Hid (∀ f z, R = some (f, z) → (no : Int) = f.no ∧ (2 : Int) = f.kind ∧ (0 : Int) = f.num ∧ dt = f.data ∧ (en2 : Int) = (z : Int)) := Lib.hid (fun f z h => by
          rw [HR3.out] at h
          split at h
          · simp only [Option.some.injEq, Prod.mk.injEq] at h
            obtain ⟨rfl, rfl⟩ := h
            exact ⟨rfl, rfl, rfl, rfl, rfl⟩
          · cases h)
        generalize okF (Fld.mk (no : Int) 2 0 dt) = okv at *
        clear h3 HG2 HG3 HR3 hen2
        go_wp2_with fail
        refine (HTB.out _).mono ?_
        rintro e w' ⟨rfl, rfl⟩
        go_wp2_with fail
        have HXA := Lib.hid (heap_later ((Below.refl w0.heap.size w0).alloc (Nat.le_refl _) (.cells #[.int .i64 (no : Int), .int .i64 2, .int .i64 0, .string dt, .int .i64 (a : Int)] 119)) HX0.out)
        have HXF := Lib.hid (heap_alloc_new w0 (.cells #[.int .i64 (no : Int), .int .i64 2, .int .i64 0, .string dt, .int .i64 (a : Int)] 119))
        have HBW := Lib.hid ((HB0.out.alloc HB0.out.size (.cells #[.int .i64 (no : Int), .int .i64 2, .int .i64 0, .string dt, .int .i64 (a : Int)] 119)).drew)
        replace HXA : Hid ((w0.alloc (.cells #[.int .i64 (no : Int), .int .i64 2, .int .i64 0, .string dt, .int .i64 (a : Int)] 119)).drew.heap[w.heap.size]? = some (.cells #[.int .i64 0, .int .i64 0, .int .i64 0, .string { data := #[] }, .int .i64 0] 119)) := HXA
        replace HXF : Hid ((w0.alloc (.cells #[.int .i64 (no : Int), .int .i64 2, .int .i64 0, .string dt, .int .i64 (a : Int)] 119)).drew.heap[w0.heap.size]? = some (.cells #[.int .i64 (no : Int), .int .i64 2, .int .i64 0, .string dt, .int .i64 (a : Int)] 119)) := HXF
        generalize w0.alloc (.cells #[.int .i64 (no : Int), .int .i64 2, .int .i64 0, .string dt, .int .i64 (a : Int)] 119) = w4 at *
        refine wp_region_G [8] (fun w' => w'.cell? ⟨w0.heap.size, 0, none⟩ = some (.int .i64 ((no : Int))) ∧ w'.cell? ⟨w0.heap.size, 1, none⟩ = some (.int .i64 (2)) ∧ w'.cell? ⟨w0.heap.size, 2, none⟩ = some (.int .i64 (0)) ∧ w'.cell? ⟨w0.heap.size, 3, none⟩ = some (.string (dt)) ∧ w'.cell? ⟨w0.heap.size, 4, none⟩ = some (.int .i64 (a : Int))) (by kernel_rfl) ?_ (fun hHeld => ?_)
        · exact (b5 HXF.out).1
        refine wpG_load (i := 0) (oi := { dst := some 56, op := Go.Op.load 119 (Go.Operand.tmp 10), type := 119, pos := "l1_wire.go:173", after := #[], guard := none }) (v := ?vg1) [[8, 0]] rfl (by kernel_rfl) (fun _ _ _ h => h) hHeld (Or.inl ⟨by rfl, ?yg1⟩) ?_
        case yg1 => (intro wS hSw; (try dsimp only at hSw); go_simp <;> with_reducible rfl)
        try simp only [Act.put, List.setIfInBounds_toArray, List.set_cons_zero, List.set_cons_succ]
        refine wpG_pure (i := 1) (oi := { dst := some 57, op := Go.Op.move (Go.Operand.tmp 8), type := 3, pos := "l1_wire.go:173", after := #[{ on := 8, ground := Go.Ground.gcOnly Go.Departure.lateStores }], guard := none }) (v := ?vg2) rfl (by kernel_rfl) (fun _ _ _ h => h) (Or.inr hHeld) (Or.inl ⟨by rfl, ?yg2⟩) ?_
        case yg2 => (intro wS _; go_simp <;> with_reducible rfl)
        try simp only [Act.put, List.setIfInBounds_toArray, List.set_cons_zero, List.set_cons_succ]
        refine wpG_pure (i := 2) (oi := { dst := some 58, op := Go.Op.move (Go.Operand.tmp 9), type := 4, pos := "l1_wire.go:173", after := #[], guard := none }) (v := ?vg3) rfl (by kernel_rfl) (fun _ _ _ h => h) (Or.inr hHeld) (Or.inl ⟨by rfl, ?yg3⟩) ?_
        case yg3 => (intro wS _; go_simp <;> with_reducible rfl)
        try simp only [Act.put, List.setIfInBounds_toArray, List.set_cons_zero, List.set_cons_succ]
        refine wpG_pure (i := 3) (oi := { dst := some 59, op := Go.Op.move (Go.Operand.tmp 58), type := 4, pos := "l1_wire.go:173", after := #[{ on := 2, ground := Go.Ground.data }], guard := none }) (v := ?vg4) rfl (by kernel_rfl) (fun _ _ _ h => h) (Or.inr hHeld) (Or.inl ⟨by rfl, ?yg4⟩) ?_
        case yg4 => (intro wS _; go_simp <;> with_reducible rfl)
        try simp only [Act.put, List.setIfInBounds_toArray, List.set_cons_zero, List.set_cons_succ]
        refine wpG_pure (i := 4) (oi := { dst := some 60, op := Go.Op.fieldAddr 119 (Go.Operand.tmp 10) 0, type := 0, pos := "l1_wire.go:173", after := #[{ on := 3, ground := Go.Ground.guard }], guard := some (3, true) }) (v := ?vg5) rfl (by kernel_rfl) (fun _ _ _ h => h) (Or.inr hHeld) (Or.inl ⟨by rfl, ?yg5⟩) ?_
        case yg5 => (intro wS _; go_simp <;> with_reducible rfl)
        try simp only [Act.put, List.setIfInBounds_toArray, List.set_cons_zero, List.set_cons_succ]
        refine wpG_load (i := 5) (oi := { dst := some 61, op := Go.Op.load 57 (Go.Operand.tmp 60), type := 57, pos := "l1_wire.go:173", after := #[{ on := 4, ground := Go.Ground.data }, { on := 3, ground := Go.Ground.guard }], guard := some (3, true) }) (v := ?vg6) [[8, 6, 5]] rfl (by kernel_rfl) (fun _ _ _ h => h) hHeld (Or.inl ⟨by rfl, ?yg6⟩) ?_
        case yg6 => (intro wS hSw; (try dsimp only at hSw); go_simp <;> with_reducible rfl)
        try simp only [Act.put, List.setIfInBounds_toArray, List.set_cons_zero, List.set_cons_succ]
        refine wpG_one (i := 6) (o := { dst := some 62, op := Go.Op.call { callee := Go.Callee.value (Go.Operand.func 125), args := #[Go.Operand.tmp 61], argTypes := #[57] }, type := 4, pos := "l1_wire.go:173", after := #[{ on := 5, ground := Go.Ground.data }, { on := 3, ground := Go.Ground.chain }, { on := 3, ground := Go.Ground.guard }], guard := some (3, true) }) rfl (by kernel_rfl) (fun K hK => ?_)
        go_simp
        refine (HOKF.out _).mono ?_
        rintro e w5 ⟨rfl, hb⟩
        replace HXA := Lib.hid (heap_later hb HXA.out)
        replace HXF := Lib.hid (heap_later hb HXF.out)
        replace HBW := Lib.hid (HBW.out.trans (hb.mono HBW.out.size))
        clear hb
        refine hK.out _ _ (Or.inr ?khHeld7) (fun hHeld7S => ?_)
        case khHeld7 => exact (b5 HXF.out).1
        have hHeld7 := hHeld7S.held (by kernel_rfl)
        clear hK K
        try simp only [Act.put, List.setIfInBounds_toArray, List.set_cons_zero, List.set_cons_succ]
        refine wpG_pure (i := 7) (oi := { dst := some 63, op := Go.Op.pick (Go.Operand.tmp 59) (Go.Operand.tmp 62) (Go.Operand.const (Go.Value.bool false)), type := 4, pos := "l1_wire.go:173", after := #[{ on := 3, ground := Go.Ground.data }, { on := 6, ground := Go.Ground.data }, { on := 9, ground := Go.Ground.gcOnly Go.Departure.lateStores }], guard := none }) (v := ?vg8) rfl (by kernel_rfl) (fun _ _ _ h => h) (Or.inr hHeld7) (Or.inl ⟨by rfl, ?yg8⟩) ?_
        case yg8 => (intro wS _; go_simp <;> with_reducible rfl)
        try simp only [Act.put, List.setIfInBounds_toArray, List.set_cons_zero, List.set_cons_succ]
        refine wpG_one (i := 8) (o := { dst := none, op := Go.Op.store 119 (Go.Operand.tmp 4) (Go.Operand.tmp 56), type := 0, pos := "l1_wire.go:173", after := #[{ on := 0, ground := Go.Ground.data }, { on := 6, ground := Go.Ground.chain }, { on := 0, ground := Go.Ground.phase }, { on := 1, ground := Go.Ground.textOnly Go.Departure.lateStores }, { on := 2, ground := Go.Ground.textOnly Go.Departure.lateStores }, { on := 3, ground := Go.Ground.textOnly Go.Departure.lateStores }, { on := 4, ground := Go.Ground.textOnly Go.Departure.lateStores }, { on := 5, ground := Go.Ground.textOnly Go.Departure.lateStores }, { on := 6, ground := Go.Ground.textOnly Go.Departure.lateStoresUnsure }, { on := 7, ground := Go.Ground.textOnly Go.Departure.lateStores }], guard := none }) rfl (by kernel_rfl) (fun K hK => ?_)
        obtain ⟨wA, wB, wC, wD, wE, hA, hB, hC, hD, hE, ⟨⟨i0, j0⟩, ⟨i1, j1⟩, ⟨i2, j2⟩, ⟨i3, j3⟩, ⟨i4, j4⟩⟩, hXE, hFR, hBE, hZE⟩ := st5 HXA.out (.int .i64 ((no : Int))) (.int .i64 (2)) (.int .i64 (0)) (.string (dt)) (.int .i64 (a : Int))
        go_simp
        replace HXA := Lib.hid hXE
        replace HXF := Lib.hid (hFR _ _ hFA HXF.out)
        replace HBW := Lib.hid (hBE _ _ HBW.out (Nat.le_refl _))
        clear hA hB hC hD hE i0 i1 i2 i3 i4 j0 j1 j2 j3 j4 hXE hFR hBE hZE
        refine hK.out _ _ (Or.inl (by kernel_rfl)) (fun _ => ?_)
        clear hK K
        try simp only [Act.put, List.setIfInBounds_toArray, List.set_cons_zero, List.set_cons_succ]
        refine wpG_pure (i := 9) (oi := { dst := some 5, op := Go.Op.assign (Go.Operand.tmp 57), type := 3, pos := "l1_wire.go:173", after := #[{ on := 1, ground := Go.Ground.data }, { on := 8, ground := Go.Ground.chain }, { on := 0, ground := Go.Ground.phase }, { on := 1, ground := Go.Ground.phase }, { on := 2, ground := Go.Ground.textOnly Go.Departure.lateStores }, { on := 3, ground := Go.Ground.textOnly Go.Departure.lateStores }, { on := 4, ground := Go.Ground.textOnly Go.Departure.lateStores }, { on := 5, ground := Go.Ground.textOnly Go.Departure.lateStores }, { on := 6, ground := Go.Ground.textOnly Go.Departure.lateStoresUnsure }, { on := 7, ground := Go.Ground.textOnly Go.Departure.lateStores }, { on := 8, ground := Go.Ground.phase }], guard := none }) (v := ?vg10) rfl (by kernel_rfl) (fun _ _ _ h => h) (Or.inl (by kernel_rfl)) (Or.inl ⟨by rfl, ?yg10⟩) ?_
        case yg10 => (intro wS _; go_simp <;> with_reducible rfl)
        try simp only [Act.put, List.setIfInBounds_toArray, List.set_cons_zero, List.set_cons_succ]
        refine wpG_pure (i := 10) (oi := { dst := some 6, op := Go.Op.assign (Go.Operand.tmp 63), type := 4, pos := "l1_wire.go:173", after := #[{ on := 7, ground := Go.Ground.data }, { on := 9, ground := Go.Ground.chain }, { on := 0, ground := Go.Ground.phase }, { on := 1, ground := Go.Ground.phase }, { on := 2, ground := Go.Ground.phase }, { on := 3, ground := Go.Ground.phase }, { on := 4, ground := Go.Ground.phase }, { on := 5, ground := Go.Ground.phase }, { on := 6, ground := Go.Ground.phase }, { on := 7, ground := Go.Ground.phase }, { on := 8, ground := Go.Ground.phase }, { on := 9, ground := Go.Ground.phase }], guard := none }) (v := ?vg11) rfl (by kernel_rfl) (fun _ _ _ h => h) (Or.inl (by kernel_rfl)) (Or.inl ⟨by rfl, ?yg11⟩) ?_
        case yg11 => (intro wS _; go_simp <;> with_reducible rfl)
        try simp only [Act.put, List.setIfInBounds_toArray, List.set_cons_zero, List.set_cons_succ]
        refine wpG_done (by kernel_rfl) ?_
        obtain ⟨⟨y0, y1, y2, y3, y4⟩, -⟩ := b5 HXA.out
        go_wp2_with fail
        refine bodyPost_ret (v := .tuple #[.agg #[.int .i64 ((no : Int)), .int .i64 (2), .int .i64 (0), .string (dt), .int .i64 (a : Int)], .int .i64 ((en2 : Int)), .bool okv]) (by simp [results, Try.results129, go_sem, y0, y1, y2, y3, y4]) rfl ?_
        exact ⟨_, _, _, _, _, _, by rw [HRES.out], HBW.out, HANS.out⟩
      · have HNO : Hid (R = none) := Lib.hid (by
          cases hb : (tk s e1).2.2 with
          | false => exact HG2.out hb
          | true =>
            obtain ⟨⟨n2, u2, b2⟩, h3⟩ : ∃ q, tk s e1 = q := ⟨_, rfl⟩
            rw [h3] at hb hfit
            simp only at hb
            subst hb
            rw [HG3.out _ _ h3, if_neg (by decide), if_pos rfl, if_neg (fun x => hfit ⟨rfl, x.1⟩)])
        rw [if_neg hfit] at HTB
        have HRES : Hid (R.isSome = false) := Lib.hid (by rw [HNO.out]; rfl)
        have HANS : Hid (∀ f z, R = some (f, z) → (no : Int) = f.no ∧ (2 : Int) = f.kind ∧ (0 : Int) = f.num ∧ (⟨#[]⟩ : ByteArray) = f.data ∧ (0 : Int) = (z : Int)) := Lib.hid (fun f z h => by rw [HNO.out] at h; cases h)
        have HOKF := Lib.hid (fun wx => impl_fieldOK (Fld.mk (no : Int) 2 0 ⟨#[]⟩) wx)
        clear hfit HG2 HG3
        go_wp2_with fail
        refine (HTB.out _).mono ?_
        rintro e w' ⟨rfl, rfl⟩
        go_wp2_with fail
        have HXA := Lib.hid (heap_later ((Below.refl w0.heap.size w0).alloc (Nat.le_refl _) (.cells #[.int .i64 (no : Int), .int .i64 2, .int .i64 0, .string { data := #[] }, .int .i64 (a : Int)] 119)) HX0.out)
        have HXF := Lib.hid (heap_alloc_new w0 (.cells #[.int .i64 (no : Int), .int .i64 2, .int .i64 0, .string { data := #[] }, .int .i64 (a : Int)] 119))
        have HBW := Lib.hid ((HB0.out.alloc HB0.out.size (.cells #[.int .i64 (no : Int), .int .i64 2, .int .i64 0, .string { data := #[] }, .int .i64 (a : Int)] 119)).drew)
        replace HXA : Hid ((w0.alloc (.cells #[.int .i64 (no : Int), .int .i64 2, .int .i64 0, .string { data := #[] }, .int .i64 (a : Int)] 119)).drew.heap[w.heap.size]? = some (.cells #[.int .i64 0, .int .i64 0, .int .i64 0, .string { data := #[] }, .int .i64 0] 119)) := HXA
        replace HXF : Hid ((w0.alloc (.cells #[.int .i64 (no : Int), .int .i64 2, .int .i64 0, .string { data := #[] }, .int .i64 (a : Int)] 119)).drew.heap[w0.heap.size]? = some (.cells #[.int .i64 (no : Int), .int .i64 2, .int .i64 0, .string { data := #[] }, .int .i64 (a : Int)] 119)) := HXF
        generalize w0.alloc (.cells #[.int .i64 (no : Int), .int .i64 2, .int .i64 0, .string { data := #[] }, .int .i64 (a : Int)] 119) = w4 at *
        refine wp_region_G [8] (fun w' => w'.cell? ⟨w0.heap.size, 0, none⟩ = some (.int .i64 ((no : Int))) ∧ w'.cell? ⟨w0.heap.size, 1, none⟩ = some (.int .i64 (2)) ∧ w'.cell? ⟨w0.heap.size, 2, none⟩ = some (.int .i64 (0)) ∧ w'.cell? ⟨w0.heap.size, 3, none⟩ = some (.string ({ data := #[] })) ∧ w'.cell? ⟨w0.heap.size, 4, none⟩ = some (.int .i64 (a : Int))) (by kernel_rfl) ?_ (fun hHeld => ?_)
        · exact (b5 HXF.out).1
        refine wpG_load (i := 0) (oi := { dst := some 56, op := Go.Op.load 119 (Go.Operand.tmp 10), type := 119, pos := "l1_wire.go:173", after := #[], guard := none }) (v := ?vg12) [[8, 0]] rfl (by kernel_rfl) (fun _ _ _ h => h) hHeld (Or.inl ⟨by rfl, ?yg12⟩) ?_
        case yg12 => (intro wS hSw; (try dsimp only at hSw); go_simp <;> with_reducible rfl)
        try simp only [Act.put, List.setIfInBounds_toArray, List.set_cons_zero, List.set_cons_succ]
        refine wpG_pure (i := 1) (oi := { dst := some 57, op := Go.Op.move (Go.Operand.tmp 8), type := 3, pos := "l1_wire.go:173", after := #[{ on := 8, ground := Go.Ground.gcOnly Go.Departure.lateStores }], guard := none }) (v := ?vg13) rfl (by kernel_rfl) (fun _ _ _ h => h) (Or.inr hHeld) (Or.inl ⟨by rfl, ?yg13⟩) ?_
        case yg13 => (intro wS _; go_simp <;> with_reducible rfl)
        try simp only [Act.put, List.setIfInBounds_toArray, List.set_cons_zero, List.set_cons_succ]
        refine wpG_pure (i := 2) (oi := { dst := some 58, op := Go.Op.move (Go.Operand.tmp 9), type := 4, pos := "l1_wire.go:173", after := #[], guard := none }) (v := ?vg14) rfl (by kernel_rfl) (fun _ _ _ h => h) (Or.inr hHeld) (Or.inl ⟨by rfl, ?yg14⟩) ?_
        case yg14 => (intro wS _; go_simp <;> with_reducible rfl)
        try simp only [Act.put, List.setIfInBounds_toArray, List.set_cons_zero, List.set_cons_succ]
        refine wpG_pure (i := 3) (oi := { dst := some 59, op := Go.Op.move (Go.Operand.tmp 58), type := 4, pos := "l1_wire.go:173", after := #[{ on := 2, ground := Go.Ground.data }], guard := none }) (v := ?vg15) rfl (by kernel_rfl) (fun _ _ _ h => h) (Or.inr hHeld) (Or.inl ⟨by rfl, ?yg15⟩) ?_
        case yg15 => (intro wS _; go_simp <;> with_reducible rfl)
        try simp only [Act.put, List.setIfInBounds_toArray, List.set_cons_zero, List.set_cons_succ]
        refine wpG_pure (i := 4) (oi := { dst := some 60, op := Go.Op.fieldAddr 119 (Go.Operand.tmp 10) 0, type := 0, pos := "l1_wire.go:173", after := #[{ on := 3, ground := Go.Ground.guard }], guard := some (3, true) }) (v := undef) rfl (by kernel_rfl) (fun _ _ _ h => h) (Or.inr hHeld) (Or.inr ⟨by rfl, rfl⟩) ?_
        try simp only [Act.put, List.setIfInBounds_toArray, List.set_cons_zero, List.set_cons_succ]
        refine wpG_pure (i := 5) (oi := { dst := some 61, op := Go.Op.load 57 (Go.Operand.tmp 60), type := 57, pos := "l1_wire.go:173", after := #[{ on := 4, ground := Go.Ground.data }, { on := 3, ground := Go.Ground.guard }], guard := some (3, true) }) (v := undef) rfl (by kernel_rfl) (fun _ _ _ h => h) (Or.inr hHeld) (Or.inr ⟨by rfl, rfl⟩) ?_
        try simp only [Act.put, List.setIfInBounds_toArray, List.set_cons_zero, List.set_cons_succ]
        refine wpG_pure (i := 6) (oi := { dst := some 62, op := Go.Op.call { callee := Go.Callee.value (Go.Operand.func 125), args := #[Go.Operand.tmp 61], argTypes := #[57] }, type := 4, pos := "l1_wire.go:173", after := #[{ on := 5, ground := Go.Ground.data }, { on := 3, ground := Go.Ground.chain }, { on := 3, ground := Go.Ground.guard }], guard := some (3, true) }) (v := undef) rfl (by kernel_rfl) (fun _ _ _ h => h) (Or.inr hHeld) (Or.inr ⟨by rfl, rfl⟩) ?_
        try simp only [Act.put, List.setIfInBounds_toArray, List.set_cons_zero, List.set_cons_succ]
        refine wpG_pure (i := 7) (oi := { dst := some 63, op := Go.Op.pick (Go.Operand.tmp 59) (Go.Operand.tmp 62) (Go.Operand.const (Go.Value.bool false)), type := 4, pos := "l1_wire.go:173", after := #[{ on := 3, ground := Go.Ground.data }, { on := 6, ground := Go.Ground.data }, { on := 9, ground := Go.Ground.gcOnly Go.Departure.lateStores }], guard := none }) (v := ?vg19) rfl (by kernel_rfl) (fun _ _ _ h => h) (Or.inr hHeld) (Or.inl ⟨by rfl, ?yg19⟩) ?_
        case yg19 => (intro wS _; go_simp <;> with_reducible rfl)
        try simp only [Act.put, List.setIfInBounds_toArray, List.set_cons_zero, List.set_cons_succ]
        refine wpG_one (i := 8) (o := { dst := none, op := Go.Op.store 119 (Go.Operand.tmp 4) (Go.Operand.tmp 56), type := 0, pos := "l1_wire.go:173", after := #[{ on := 0, ground := Go.Ground.data }, { on := 6, ground := Go.Ground.chain }, { on := 0, ground := Go.Ground.phase }, { on := 1, ground := Go.Ground.textOnly Go.Departure.lateStores }, { on := 2, ground := Go.Ground.textOnly Go.Departure.lateStores }, { on := 3, ground := Go.Ground.textOnly Go.Departure.lateStores }, { on := 4, ground := Go.Ground.textOnly Go.Departure.lateStores }, { on := 5, ground := Go.Ground.textOnly Go.Departure.lateStores }, { on := 6, ground := Go.Ground.textOnly Go.Departure.lateStoresUnsure }, { on := 7, ground := Go.Ground.textOnly Go.Departure.lateStores }], guard := none }) rfl (by kernel_rfl) (fun K hK => ?_)
        obtain ⟨wA, wB, wC, wD, wE, hA, hB, hC, hD, hE, ⟨⟨i0, j0⟩, ⟨i1, j1⟩, ⟨i2, j2⟩, ⟨i3, j3⟩, ⟨i4, j4⟩⟩, hXE, hFR, hBE, hZE⟩ := st5 HXA.out (.int .i64 ((no : Int))) (.int .i64 (2)) (.int .i64 (0)) (.string ({ data := #[] })) (.int .i64 (a : Int))
        go_simp
        replace HXA := Lib.hid hXE
        replace HXF := Lib.hid (hFR _ _ hFA HXF.out)
        replace HBW := Lib.hid (hBE _ _ HBW.out (Nat.le_refl _))
        clear hA hB hC hD hE i0 i1 i2 i3 i4 j0 j1 j2 j3 j4 hXE hFR hBE hZE
        refine hK.out _ _ (Or.inl (by kernel_rfl)) (fun _ => ?_)
        clear hK K
        try simp only [Act.put, List.setIfInBounds_toArray, List.set_cons_zero, List.set_cons_succ]
        refine wpG_pure (i := 9) (oi := { dst := some 5, op := Go.Op.assign (Go.Operand.tmp 57), type := 3, pos := "l1_wire.go:173", after := #[{ on := 1, ground := Go.Ground.data }, { on := 8, ground := Go.Ground.chain }, { on := 0, ground := Go.Ground.phase }, { on := 1, ground := Go.Ground.phase }, { on := 2, ground := Go.Ground.textOnly Go.Departure.lateStores }, { on := 3, ground := Go.Ground.textOnly Go.Departure.lateStores }, { on := 4, ground := Go.Ground.textOnly Go.Departure.lateStores }, { on := 5, ground := Go.Ground.textOnly Go.Departure.lateStores }, { on := 6, ground := Go.Ground.textOnly Go.Departure.lateStoresUnsure }, { on := 7, ground := Go.Ground.textOnly Go.Departure.lateStores }, { on := 8, ground := Go.Ground.phase }], guard := none }) (v := ?vg21) rfl (by kernel_rfl) (fun _ _ _ h => h) (Or.inl (by kernel_rfl)) (Or.inl ⟨by rfl, ?yg21⟩) ?_
        case yg21 => (intro wS _; go_simp <;> with_reducible rfl)
        try simp only [Act.put, List.setIfInBounds_toArray, List.set_cons_zero, List.set_cons_succ]
        refine wpG_pure (i := 10) (oi := { dst := some 6, op := Go.Op.assign (Go.Operand.tmp 63), type := 4, pos := "l1_wire.go:173", after := #[{ on := 7, ground := Go.Ground.data }, { on := 9, ground := Go.Ground.chain }, { on := 0, ground := Go.Ground.phase }, { on := 1, ground := Go.Ground.phase }, { on := 2, ground := Go.Ground.phase }, { on := 3, ground := Go.Ground.phase }, { on := 4, ground := Go.Ground.phase }, { on := 5, ground := Go.Ground.phase }, { on := 6, ground := Go.Ground.phase }, { on := 7, ground := Go.Ground.phase }, { on := 8, ground := Go.Ground.phase }, { on := 9, ground := Go.Ground.phase }], guard := none }) (v := ?vg22) rfl (by kernel_rfl) (fun _ _ _ h => h) (Or.inl (by kernel_rfl)) (Or.inl ⟨by rfl, ?yg22⟩) ?_
        case yg22 => (intro wS _; go_simp <;> with_reducible rfl)
        try simp only [Act.put, List.setIfInBounds_toArray, List.set_cons_zero, List.set_cons_succ]
        refine wpG_done (by kernel_rfl) ?_
        obtain ⟨⟨y0, y1, y2, y3, y4⟩, -⟩ := b5 HXA.out
        go_wp2_with fail
        refine bodyPost_ret (v := .tuple #[.agg #[.int .i64 ((no : Int)), .int .i64 (2), .int .i64 (0), .string ({ data := #[] }), .int .i64 (a : Int)], .int .i64 (0), .bool false]) (by simp [results, Try.results129, go_sem, y0, y1, y2, y3, y4]) rfl ?_
        exact ⟨_, _, _, _, _, _, by rw [HRES.out], HBW.out, HANS.out⟩
    · have HT2 := Lib.hid (fun wx => impl_take s e1 wx (by omega) (by omega))
      unfold TakeRes at HT2
      change Hid (∀ wx, Calls Try.prog 70 #[.string s, .int .i64 (e1 : Int)] wx fun e w' => ∃ n en, e = .returned (.tuple #[.int .i64 ((n : Nat) : Int), .int .i64 en, .bool (tk s e1).2.2]) ∧ n < 34359738368 ∧ ((tk s e1).2.2 = true → n = (tk s e1).1 ∧ en = (e1 : Int) + ((tk s e1).2.1 : Int)) ∧ wx = w') at HT2
      have hln2 := tk_len (s := s) (a := e1)
      have hk2 : (((n % 8 : Nat) : Int) == 2) = false := beq_eq_false_iff_ne.2 (by omega)
      generalize n / 8 = no at *
      generalize hkk : n % 8 = kd at *
      obtain ⟨⟨n2, u2, b2⟩, h3⟩ : ∃ q, tk s e1 = q := ⟨_, rfl⟩
      rw [h3] at HT2 hln2
      simp only at HT2 hln2
      cases b2 with
      | false =>
        have HNO : Hid (R = none) := Lib.hid (HG2.out (by rw [h3]))
        have HRES : Hid (R.isSome = false) := Lib.hid (by rw [HNO.out]; rfl)
        clear HG2 HG3 h3 h2 hln2 hkk
        go_wp2_with fail
        refine (HT2.out _).mono ?_
        rintro e w' ⟨m, em, rfl, hm, _, rfl⟩
        have HUF := Lib.hid (fun wx => impl_unfoldW (m : Int) wx (by omega))
        generalize unfoldI (m : Int) = uf at *
        have HANS : Hid (∀ f z, R = some (f, z) → (no : Int) = f.no ∧ (kd : Int) = f.kind ∧ uf = f.num ∧ (⟨#[]⟩ : ByteArray) = f.data ∧ em = (z : Int)) := Lib.hid (fun f z h => by rw [HNO.out] at h; cases h)
        have HOKF := Lib.hid (fun wx => impl_fieldOK (Fld.mk (no : Int) (kd : Int) uf ⟨#[]⟩) wx)
        go_wp2_with fail
        refine (HUF.out _).mono ?_
        rintro e w' ⟨rfl, rfl⟩
        go_wp2_with fail
        have HXA := Lib.hid (heap_later ((Below.refl w0.heap.size w0).alloc (Nat.le_refl _) (.cells #[.int .i64 (no : Int), .int .i64 (kd : Int), .int .i64 uf, .string { data := #[] }, .int .i64 (a : Int)] 119)) HX0.out)
        have HXF := Lib.hid (heap_alloc_new w0 (.cells #[.int .i64 (no : Int), .int .i64 (kd : Int), .int .i64 uf, .string { data := #[] }, .int .i64 (a : Int)] 119))
        have HBW := Lib.hid ((HB0.out.alloc HB0.out.size (.cells #[.int .i64 (no : Int), .int .i64 (kd : Int), .int .i64 uf, .string { data := #[] }, .int .i64 (a : Int)] 119)).drew)
        replace HXA : Hid ((w0.alloc (.cells #[.int .i64 (no : Int), .int .i64 (kd : Int), .int .i64 uf, .string { data := #[] }, .int .i64 (a : Int)] 119)).drew.heap[w.heap.size]? = some (.cells #[.int .i64 0, .int .i64 0, .int .i64 0, .string { data := #[] }, .int .i64 0] 119)) := HXA
        replace HXF : Hid ((w0.alloc (.cells #[.int .i64 (no : Int), .int .i64 (kd : Int), .int .i64 uf, .string { data := #[] }, .int .i64 (a : Int)] 119)).drew.heap[w0.heap.size]? = some (.cells #[.int .i64 (no : Int), .int .i64 (kd : Int), .int .i64 uf, .string { data := #[] }, .int .i64 (a : Int)] 119)) := HXF
        generalize w0.alloc (.cells #[.int .i64 (no : Int), .int .i64 (kd : Int), .int .i64 uf, .string { data := #[] }, .int .i64 (a : Int)] 119) = w4 at *
        refine wp_region_G [8] (fun w' => w'.cell? ⟨w0.heap.size, 0, none⟩ = some (.int .i64 ((no : Int))) ∧ w'.cell? ⟨w0.heap.size, 1, none⟩ = some (.int .i64 ((kd : Int))) ∧ w'.cell? ⟨w0.heap.size, 2, none⟩ = some (.int .i64 (uf)) ∧ w'.cell? ⟨w0.heap.size, 3, none⟩ = some (.string ({ data := #[] })) ∧ w'.cell? ⟨w0.heap.size, 4, none⟩ = some (.int .i64 (a : Int))) (by kernel_rfl) ?_ (fun hHeld => ?_)
        · exact (b5 HXF.out).1
        refine wpG_load (i := 0) (oi := { dst := some 56, op := Go.Op.load 119 (Go.Operand.tmp 10), type := 119, pos := "l1_wire.go:173", after := #[], guard := none }) (v := ?vg23) [[8, 0]] rfl (by kernel_rfl) (fun _ _ _ h => h) hHeld (Or.inl ⟨by rfl, ?yg23⟩) ?_
        case yg23 => (intro wS hSw; (try dsimp only at hSw); go_simp <;> with_reducible rfl)
        try simp only [Act.put, List.setIfInBounds_toArray, List.set_cons_zero, List.set_cons_succ]
        refine wpG_pure (i := 1) (oi := { dst := some 57, op := Go.Op.move (Go.Operand.tmp 8), type := 3, pos := "l1_wire.go:173", after := #[{ on := 8, ground := Go.Ground.gcOnly Go.Departure.lateStores }], guard := none }) (v := ?vg24) rfl (by kernel_rfl) (fun _ _ _ h => h) (Or.inr hHeld) (Or.inl ⟨by rfl, ?yg24⟩) ?_
        case yg24 => (intro wS _; go_simp <;> with_reducible rfl)
        try simp only [Act.put, List.setIfInBounds_toArray, List.set_cons_zero, List.set_cons_succ]
        refine wpG_pure (i := 2) (oi := { dst := some 58, op := Go.Op.move (Go.Operand.tmp 9), type := 4, pos := "l1_wire.go:173", after := #[], guard := none }) (v := ?vg25) rfl (by kernel_rfl) (fun _ _ _ h => h) (Or.inr hHeld) (Or.inl ⟨by rfl, ?yg25⟩) ?_
        case yg25 => (intro wS _; go_simp <;> with_reducible rfl)
        try simp only [Act.put, List.setIfInBounds_toArray, List.set_cons_zero, List.set_cons_succ]
        refine wpG_pure (i := 3) (oi := { dst := some 59, op := Go.Op.move (Go.Operand.tmp 58), type := 4, pos := "l1_wire.go:173", after := #[{ on := 2, ground := Go.Ground.data }], guard := none }) (v := ?vg26) rfl (by kernel_rfl) (fun _ _ _ h => h) (Or.inr hHeld) (Or.inl ⟨by rfl, ?yg26⟩) ?_
        case yg26 => (intro wS _; go_simp <;> with_reducible rfl)
        try simp only [Act.put, List.setIfInBounds_toArray, List.set_cons_zero, List.set_cons_succ]
        refine wpG_pure (i := 4) (oi := { dst := some 60, op := Go.Op.fieldAddr 119 (Go.Operand.tmp 10) 0, type := 0, pos := "l1_wire.go:173", after := #[{ on := 3, ground := Go.Ground.guard }], guard := some (3, true) }) (v := undef) rfl (by kernel_rfl) (fun _ _ _ h => h) (Or.inr hHeld) (Or.inr ⟨by rfl, rfl⟩) ?_
        try simp only [Act.put, List.setIfInBounds_toArray, List.set_cons_zero, List.set_cons_succ]
        refine wpG_pure (i := 5) (oi := { dst := some 61, op := Go.Op.load 57 (Go.Operand.tmp 60), type := 57, pos := "l1_wire.go:173", after := #[{ on := 4, ground := Go.Ground.data }, { on := 3, ground := Go.Ground.guard }], guard := some (3, true) }) (v := undef) rfl (by kernel_rfl) (fun _ _ _ h => h) (Or.inr hHeld) (Or.inr ⟨by rfl, rfl⟩) ?_
        try simp only [Act.put, List.setIfInBounds_toArray, List.set_cons_zero, List.set_cons_succ]
        refine wpG_pure (i := 6) (oi := { dst := some 62, op := Go.Op.call { callee := Go.Callee.value (Go.Operand.func 125), args := #[Go.Operand.tmp 61], argTypes := #[57] }, type := 4, pos := "l1_wire.go:173", after := #[{ on := 5, ground := Go.Ground.data }, { on := 3, ground := Go.Ground.chain }, { on := 3, ground := Go.Ground.guard }], guard := some (3, true) }) (v := undef) rfl (by kernel_rfl) (fun _ _ _ h => h) (Or.inr hHeld) (Or.inr ⟨by rfl, rfl⟩) ?_
        try simp only [Act.put, List.setIfInBounds_toArray, List.set_cons_zero, List.set_cons_succ]
        refine wpG_pure (i := 7) (oi := { dst := some 63, op := Go.Op.pick (Go.Operand.tmp 59) (Go.Operand.tmp 62) (Go.Operand.const (Go.Value.bool false)), type := 4, pos := "l1_wire.go:173", after := #[{ on := 3, ground := Go.Ground.data }, { on := 6, ground := Go.Ground.data }, { on := 9, ground := Go.Ground.gcOnly Go.Departure.lateStores }], guard := none }) (v := ?vg30) rfl (by kernel_rfl) (fun _ _ _ h => h) (Or.inr hHeld) (Or.inl ⟨by rfl, ?yg30⟩) ?_
        case yg30 => (intro wS _; go_simp <;> with_reducible rfl)
        try simp only [Act.put, List.setIfInBounds_toArray, List.set_cons_zero, List.set_cons_succ]
        refine wpG_one (i := 8) (o := { dst := none, op := Go.Op.store 119 (Go.Operand.tmp 4) (Go.Operand.tmp 56), type := 0, pos := "l1_wire.go:173", after := #[{ on := 0, ground := Go.Ground.data }, { on := 6, ground := Go.Ground.chain }, { on := 0, ground := Go.Ground.phase }, { on := 1, ground := Go.Ground.textOnly Go.Departure.lateStores }, { on := 2, ground := Go.Ground.textOnly Go.Departure.lateStores }, { on := 3, ground := Go.Ground.textOnly Go.Departure.lateStores }, { on := 4, ground := Go.Ground.textOnly Go.Departure.lateStores }, { on := 5, ground := Go.Ground.textOnly Go.Departure.lateStores }, { on := 6, ground := Go.Ground.textOnly Go.Departure.lateStoresUnsure }, { on := 7, ground := Go.Ground.textOnly Go.Departure.lateStores }], guard := none }) rfl (by kernel_rfl) (fun K hK => ?_)
        obtain ⟨wA, wB, wC, wD, wE, hA, hB, hC, hD, hE, ⟨⟨i0, j0⟩, ⟨i1, j1⟩, ⟨i2, j2⟩, ⟨i3, j3⟩, ⟨i4, j4⟩⟩, hXE, hFR, hBE, hZE⟩ := st5 HXA.out (.int .i64 ((no : Int))) (.int .i64 ((kd : Int))) (.int .i64 (uf)) (.string ({ data := #[] })) (.int .i64 (a : Int))
        go_simp
        replace HXA := Lib.hid hXE
        replace HXF := Lib.hid (hFR _ _ hFA HXF.out)
        replace HBW := Lib.hid (hBE _ _ HBW.out (Nat.le_refl _))
        clear hA hB hC hD hE i0 i1 i2 i3 i4 j0 j1 j2 j3 j4 hXE hFR hBE hZE
        refine hK.out _ _ (Or.inl (by kernel_rfl)) (fun _ => ?_)
        clear hK K
        try simp only [Act.put, List.setIfInBounds_toArray, List.set_cons_zero, List.set_cons_succ]
        refine wpG_pure (i := 9) (oi := { dst := some 5, op := Go.Op.assign (Go.Operand.tmp 57), type := 3, pos := "l1_wire.go:173", after := #[{ on := 1, ground := Go.Ground.data }, { on := 8, ground := Go.Ground.chain }, { on := 0, ground := Go.Ground.phase }, { on := 1, ground := Go.Ground.phase }, { on := 2, ground := Go.Ground.textOnly Go.Departure.lateStores }, { on := 3, ground := Go.Ground.textOnly Go.Departure.lateStores }, { on := 4, ground := Go.Ground.textOnly Go.Departure.lateStores }, { on := 5, ground := Go.Ground.textOnly Go.Departure.lateStores }, { on := 6, ground := Go.Ground.textOnly Go.Departure.lateStoresUnsure }, { on := 7, ground := Go.Ground.textOnly Go.Departure.lateStores }, { on := 8, ground := Go.Ground.phase }], guard := none }) (v := ?vg32) rfl (by kernel_rfl) (fun _ _ _ h => h) (Or.inl (by kernel_rfl)) (Or.inl ⟨by rfl, ?yg32⟩) ?_
        case yg32 => (intro wS _; go_simp <;> with_reducible rfl)
        try simp only [Act.put, List.setIfInBounds_toArray, List.set_cons_zero, List.set_cons_succ]
        refine wpG_pure (i := 10) (oi := { dst := some 6, op := Go.Op.assign (Go.Operand.tmp 63), type := 4, pos := "l1_wire.go:173", after := #[{ on := 7, ground := Go.Ground.data }, { on := 9, ground := Go.Ground.chain }, { on := 0, ground := Go.Ground.phase }, { on := 1, ground := Go.Ground.phase }, { on := 2, ground := Go.Ground.phase }, { on := 3, ground := Go.Ground.phase }, { on := 4, ground := Go.Ground.phase }, { on := 5, ground := Go.Ground.phase }, { on := 6, ground := Go.Ground.phase }, { on := 7, ground := Go.Ground.phase }, { on := 8, ground := Go.Ground.phase }, { on := 9, ground := Go.Ground.phase }], guard := none }) (v := ?vg33) rfl (by kernel_rfl) (fun _ _ _ h => h) (Or.inl (by kernel_rfl)) (Or.inl ⟨by rfl, ?yg33⟩) ?_
        case yg33 => (intro wS _; go_simp <;> with_reducible rfl)
        try simp only [Act.put, List.setIfInBounds_toArray, List.set_cons_zero, List.set_cons_succ]
        refine wpG_done (by kernel_rfl) ?_
        obtain ⟨⟨y0, y1, y2, y3, y4⟩, -⟩ := b5 HXA.out
        go_wp2_with fail
        refine bodyPost_ret (v := .tuple #[.agg #[.int .i64 ((no : Int)), .int .i64 ((kd : Int)), .int .i64 (uf), .string ({ data := #[] }), .int .i64 (a : Int)], .int .i64 (em), .bool false]) (by simp [results, Try.results129, go_sem, y0, y1, y2, y3, y4]) rfl ?_
        exact ⟨_, _, _, _, _, _, by rw [HRES.out], HBW.out, HANS.out⟩
      | true =>
        obtain ⟨l3, l4, -⟩ := hln2 rfl
        have HR3 := Lib.hid (HG3.out _ _ h3)
        have HUF := Lib.hid (fun wx => impl_unfoldW (n2 : Int) wx (by have := tk_bd s e1; rw [h3] at this; simp only at this; omega))
        obtain ⟨e2, he2⟩ : ∃ z, z = e1 + u2 := ⟨_, rfl⟩
        have he2' : (e1 : Int) + (u2 : Int) = (e2 : Int) := by omega
        rw [← he2] at HR3
        have HOKF := Lib.hid (fun wx => impl_fieldOK (Fld.mk (no : Int) (kd : Int) (unfoldI (n2 : Int)) ⟨#[]⟩) wx)
        simp only at HOKF
        have HRES : Hid (R.isSome = okF (Fld.mk (no : Int) (kd : Int) (unfoldI (n2 : Int)) ⟨#[]⟩)) := Lib.hid (by
          rw [HR3.out]
          by_cases h0 : kd = 0
          · subst h0
            rw [if_pos rfl]
            by_cases h : okF (Fld.mk (no : Int) 0 (unfoldI (n2 : Int)) ⟨#[]⟩) = true
            · rw [if_pos h]; exact h.symm
            · rw [if_neg h]; simpa using h
          · rw [if_neg h0, if_neg h2]
            symm
            have : ¬ okF (Fld.mk (no : Int) (kd : Int) (unfoldI (n2 : Int)) ⟨#[]⟩) = true := fun h => by
              have := okF_iff.1 h
              simp only at this
              omega
            simpa using this)
        have HANS : Hid (∀ f z, R = some (f, z) → (no : Int) = f.no ∧ (kd : Int) = f.kind ∧ unfoldI (n2 : Int) = f.num ∧ (⟨#[]⟩ : ByteArray) = f.data ∧ (e2 : Int) = (z : Int)) := Lib.hid (fun f z h => by
          rw [HR3.out] at h
          split at h
          · split at h
            · simp only [Option.some.injEq, Prod.mk.injEq] at h
              obtain ⟨rfl, rfl⟩ := h
              rename_i h0 _
              exact ⟨rfl, by rw [h0]; rfl, rfl, rfl, rfl⟩
            · cases h
          · first | cases h | (rw [if_neg h2] at h; cases h))
        generalize okF (Fld.mk (no : Int) (kd : Int) (unfoldI (n2 : Int)) ⟨#[]⟩) = okv at *
        generalize unfoldI (n2 : Int) = uf at *
        clear h3 HG2 HG3 HR3 h2 he2 l3 l4 hln2 hkk
        go_wp2_with fail
        refine (HT2.out _).mono ?_
        rintro e w' ⟨m, em, rfl, hm, hh2, rfl⟩
        obtain ⟨rfl, rfl⟩ := hh2 trivial
        rw [he2']
        go_wp2_with fail
        refine (HUF.out _).mono ?_
        rintro e w' ⟨rfl, rfl⟩
        go_wp2_with fail
        have HXA := Lib.hid (heap_later ((Below.refl w0.heap.size w0).alloc (Nat.le_refl _) (.cells #[.int .i64 (no : Int), .int .i64 (kd : Int), .int .i64 uf, .string { data := #[] }, .int .i64 (a : Int)] 119)) HX0.out)
        have HXF := Lib.hid (heap_alloc_new w0 (.cells #[.int .i64 (no : Int), .int .i64 (kd : Int), .int .i64 uf, .string { data := #[] }, .int .i64 (a : Int)] 119))
        have HBW := Lib.hid ((HB0.out.alloc HB0.out.size (.cells #[.int .i64 (no : Int), .int .i64 (kd : Int), .int .i64 uf, .string { data := #[] }, .int .i64 (a : Int)] 119)).drew)
        replace HXA : Hid ((w0.alloc (.cells #[.int .i64 (no : Int), .int .i64 (kd : Int), .int .i64 uf, .string { data := #[] }, .int .i64 (a : Int)] 119)).drew.heap[w.heap.size]? = some (.cells #[.int .i64 0, .int .i64 0, .int .i64 0, .string { data := #[] }, .int .i64 0] 119)) := HXA
        replace HXF : Hid ((w0.alloc (.cells #[.int .i64 (no : Int), .int .i64 (kd : Int), .int .i64 uf, .string { data := #[] }, .int .i64 (a : Int)] 119)).drew.heap[w0.heap.size]? = some (.cells #[.int .i64 (no : Int), .int .i64 (kd : Int), .int .i64 uf, .string { data := #[] }, .int .i64 (a : Int)] 119)) := HXF
        generalize w0.alloc (.cells #[.int .i64 (no : Int), .int .i64 (kd : Int), .int .i64 uf, .string { data := #[] }, .int .i64 (a : Int)] 119) = w4 at *
        refine wp_region_G [8] (fun w' => w'.cell? ⟨w0.heap.size, 0, none⟩ = some (.int .i64 ((no : Int))) ∧ w'.cell? ⟨w0.heap.size, 1, none⟩ = some (.int .i64 ((kd : Int))) ∧ w'.cell? ⟨w0.heap.size, 2, none⟩ = some (.int .i64 (uf)) ∧ w'.cell? ⟨w0.heap.size, 3, none⟩ = some (.string ({ data := #[] })) ∧ w'.cell? ⟨w0.heap.size, 4, none⟩ = some (.int .i64 (a : Int))) (by kernel_rfl) ?_ (fun hHeld => ?_)
        · exact (b5 HXF.out).1
        refine wpG_load (i := 0) (oi := { dst := some 56, op := Go.Op.load 119 (Go.Operand.tmp 10), type := 119, pos := "l1_wire.go:173", after := #[], guard := none }) (v := ?vg34) [[8, 0]] rfl (by kernel_rfl) (fun _ _ _ h => h) hHeld (Or.inl ⟨by rfl, ?yg34⟩) ?_
        case yg34 => (intro wS hSw; (try dsimp only at hSw); go_simp <;> with_reducible rfl)
        try simp only [Act.put, List.setIfInBounds_toArray, List.set_cons_zero, List.set_cons_succ]
        refine wpG_pure (i := 1) (oi := { dst := some 57, op := Go.Op.move (Go.Operand.tmp 8), type := 3, pos := "l1_wire.go:173", after := #[{ on := 8, ground := Go.Ground.gcOnly Go.Departure.lateStores }], guard := none }) (v := ?vg35) rfl (by kernel_rfl) (fun _ _ _ h => h) (Or.inr hHeld) (Or.inl ⟨by rfl, ?yg35⟩) ?_
        case yg35 => (intro wS _; go_simp <;> with_reducible rfl)
        try simp only [Act.put, List.setIfInBounds_toArray, List.set_cons_zero, List.set_cons_succ]
        refine wpG_pure (i := 2) (oi := { dst := some 58, op := Go.Op.move (Go.Operand.tmp 9), type := 4, pos := "l1_wire.go:173", after := #[], guard := none }) (v := ?vg36) rfl (by kernel_rfl) (fun _ _ _ h => h) (Or.inr hHeld) (Or.inl ⟨by rfl, ?yg36⟩) ?_
        case yg36 => (intro wS _; go_simp <;> with_reducible rfl)
        try simp only [Act.put, List.setIfInBounds_toArray, List.set_cons_zero, List.set_cons_succ]
        refine wpG_pure (i := 3) (oi := { dst := some 59, op := Go.Op.move (Go.Operand.tmp 58), type := 4, pos := "l1_wire.go:173", after := #[{ on := 2, ground := Go.Ground.data }], guard := none }) (v := ?vg37) rfl (by kernel_rfl) (fun _ _ _ h => h) (Or.inr hHeld) (Or.inl ⟨by rfl, ?yg37⟩) ?_
        case yg37 => (intro wS _; go_simp <;> with_reducible rfl)
        try simp only [Act.put, List.setIfInBounds_toArray, List.set_cons_zero, List.set_cons_succ]
        refine wpG_pure (i := 4) (oi := { dst := some 60, op := Go.Op.fieldAddr 119 (Go.Operand.tmp 10) 0, type := 0, pos := "l1_wire.go:173", after := #[{ on := 3, ground := Go.Ground.guard }], guard := some (3, true) }) (v := ?vg38) rfl (by kernel_rfl) (fun _ _ _ h => h) (Or.inr hHeld) (Or.inl ⟨by rfl, ?yg38⟩) ?_
        case yg38 => (intro wS _; go_simp <;> with_reducible rfl)
        try simp only [Act.put, List.setIfInBounds_toArray, List.set_cons_zero, List.set_cons_succ]
        refine wpG_load (i := 5) (oi := { dst := some 61, op := Go.Op.load 57 (Go.Operand.tmp 60), type := 57, pos := "l1_wire.go:173", after := #[{ on := 4, ground := Go.Ground.data }, { on := 3, ground := Go.Ground.guard }], guard := some (3, true) }) (v := ?vg39) [[8, 6, 5]] rfl (by kernel_rfl) (fun _ _ _ h => h) hHeld (Or.inl ⟨by rfl, ?yg39⟩) ?_
        case yg39 => (intro wS hSw; (try dsimp only at hSw); go_simp <;> with_reducible rfl)
        try simp only [Act.put, List.setIfInBounds_toArray, List.set_cons_zero, List.set_cons_succ]
        refine wpG_one (i := 6) (o := { dst := some 62, op := Go.Op.call { callee := Go.Callee.value (Go.Operand.func 125), args := #[Go.Operand.tmp 61], argTypes := #[57] }, type := 4, pos := "l1_wire.go:173", after := #[{ on := 5, ground := Go.Ground.data }, { on := 3, ground := Go.Ground.chain }, { on := 3, ground := Go.Ground.guard }], guard := some (3, true) }) rfl (by kernel_rfl) (fun K hK => ?_)
        go_simp
        refine (HOKF.out _).mono ?_
        rintro e w5 ⟨rfl, hb⟩
        replace HXA := Lib.hid (heap_later hb HXA.out)
        replace HXF := Lib.hid (heap_later hb HXF.out)
        replace HBW := Lib.hid (HBW.out.trans (hb.mono HBW.out.size))
        clear hb
        refine hK.out _ _ (Or.inr ?khHeld40) (fun hHeld40S => ?_)
        case khHeld40 => exact (b5 HXF.out).1
        have hHeld40 := hHeld40S.held (by kernel_rfl)
        clear hK K
        try simp only [Act.put, List.setIfInBounds_toArray, List.set_cons_zero, List.set_cons_succ]
        refine wpG_pure (i := 7) (oi := { dst := some 63, op := Go.Op.pick (Go.Operand.tmp 59) (Go.Operand.tmp 62) (Go.Operand.const (Go.Value.bool false)), type := 4, pos := "l1_wire.go:173", after := #[{ on := 3, ground := Go.Ground.data }, { on := 6, ground := Go.Ground.data }, { on := 9, ground := Go.Ground.gcOnly Go.Departure.lateStores }], guard := none }) (v := ?vg41) rfl (by kernel_rfl) (fun _ _ _ h => h) (Or.inr hHeld40) (Or.inl ⟨by rfl, ?yg41⟩) ?_
        case yg41 => (intro wS _; go_simp <;> with_reducible rfl)
        try simp only [Act.put, List.setIfInBounds_toArray, List.set_cons_zero, List.set_cons_succ]
        refine wpG_one (i := 8) (o := { dst := none, op := Go.Op.store 119 (Go.Operand.tmp 4) (Go.Operand.tmp 56), type := 0, pos := "l1_wire.go:173", after := #[{ on := 0, ground := Go.Ground.data }, { on := 6, ground := Go.Ground.chain }, { on := 0, ground := Go.Ground.phase }, { on := 1, ground := Go.Ground.textOnly Go.Departure.lateStores }, { on := 2, ground := Go.Ground.textOnly Go.Departure.lateStores }, { on := 3, ground := Go.Ground.textOnly Go.Departure.lateStores }, { on := 4, ground := Go.Ground.textOnly Go.Departure.lateStores }, { on := 5, ground := Go.Ground.textOnly Go.Departure.lateStores }, { on := 6, ground := Go.Ground.textOnly Go.Departure.lateStoresUnsure }, { on := 7, ground := Go.Ground.textOnly Go.Departure.lateStores }], guard := none }) rfl (by kernel_rfl) (fun K hK => ?_)
        obtain ⟨wA, wB, wC, wD, wE, hA, hB, hC, hD, hE, ⟨⟨i0, j0⟩, ⟨i1, j1⟩, ⟨i2, j2⟩, ⟨i3, j3⟩, ⟨i4, j4⟩⟩, hXE, hFR, hBE, hZE⟩ := st5 HXA.out (.int .i64 ((no : Int))) (.int .i64 ((kd : Int))) (.int .i64 (uf)) (.string ({ data := #[] })) (.int .i64 (a : Int))
        go_simp
        replace HXA := Lib.hid hXE
        replace HXF := Lib.hid (hFR _ _ hFA HXF.out)
        replace HBW := Lib.hid (hBE _ _ HBW.out (Nat.le_refl _))
        clear hA hB hC hD hE i0 i1 i2 i3 i4 j0 j1 j2 j3 j4 hXE hFR hBE hZE
        refine hK.out _ _ (Or.inl (by kernel_rfl)) (fun _ => ?_)
        clear hK K
        try simp only [Act.put, List.setIfInBounds_toArray, List.set_cons_zero, List.set_cons_succ]
        refine wpG_pure (i := 9) (oi := { dst := some 5, op := Go.Op.assign (Go.Operand.tmp 57), type := 3, pos := "l1_wire.go:173", after := #[{ on := 1, ground := Go.Ground.data }, { on := 8, ground := Go.Ground.chain }, { on := 0, ground := Go.Ground.phase }, { on := 1, ground := Go.Ground.phase }, { on := 2, ground := Go.Ground.textOnly Go.Departure.lateStores }, { on := 3, ground := Go.Ground.textOnly Go.Departure.lateStores }, { on := 4, ground := Go.Ground.textOnly Go.Departure.lateStores }, { on := 5, ground := Go.Ground.textOnly Go.Departure.lateStores }, { on := 6, ground := Go.Ground.textOnly Go.Departure.lateStoresUnsure }, { on := 7, ground := Go.Ground.textOnly Go.Departure.lateStores }, { on := 8, ground := Go.Ground.phase }], guard := none }) (v := ?vg43) rfl (by kernel_rfl) (fun _ _ _ h => h) (Or.inl (by kernel_rfl)) (Or.inl ⟨by rfl, ?yg43⟩) ?_
        case yg43 => (intro wS _; go_simp <;> with_reducible rfl)
        try simp only [Act.put, List.setIfInBounds_toArray, List.set_cons_zero, List.set_cons_succ]
        refine wpG_pure (i := 10) (oi := { dst := some 6, op := Go.Op.assign (Go.Operand.tmp 63), type := 4, pos := "l1_wire.go:173", after := #[{ on := 7, ground := Go.Ground.data }, { on := 9, ground := Go.Ground.chain }, { on := 0, ground := Go.Ground.phase }, { on := 1, ground := Go.Ground.phase }, { on := 2, ground := Go.Ground.phase }, { on := 3, ground := Go.Ground.phase }, { on := 4, ground := Go.Ground.phase }, { on := 5, ground := Go.Ground.phase }, { on := 6, ground := Go.Ground.phase }, { on := 7, ground := Go.Ground.phase }, { on := 8, ground := Go.Ground.phase }, { on := 9, ground := Go.Ground.phase }], guard := none }) (v := ?vg44) rfl (by kernel_rfl) (fun _ _ _ h => h) (Or.inl (by kernel_rfl)) (Or.inl ⟨by rfl, ?yg44⟩) ?_
        case yg44 => (intro wS _; go_simp <;> with_reducible rfl)
        try simp only [Act.put, List.setIfInBounds_toArray, List.set_cons_zero, List.set_cons_succ]
        refine wpG_done (by kernel_rfl) ?_
        obtain ⟨⟨y0, y1, y2, y3, y4⟩, -⟩ := b5 HXA.out
        go_wp2_with fail
        refine bodyPost_ret (v := .tuple #[.agg #[.int .i64 ((no : Int)), .int .i64 ((kd : Int)), .int .i64 (uf), .string ({ data := #[] }), .int .i64 (a : Int)], .int .i64 ((e2 : Int)), .bool okv]) (by simp [results, Try.results129, go_sem, y0, y1, y2, y3, y4]) rfl ?_
        exact ⟨_, _, _, _, _, _, by rw [HRES.out], HBW.out, HANS.out⟩
end Go.Proofs.Ytlmgckijbamgpaa
