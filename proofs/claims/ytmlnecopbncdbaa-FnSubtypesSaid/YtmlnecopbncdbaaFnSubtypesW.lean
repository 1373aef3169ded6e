/- The walk of FnSubtypes: whatever the arguments, the call returns true and writes nothing that was there. -/
import Derived.Test.YtmlnecopbncdbaaArgs
import Derived.Deep.RegionHeld3
import Derived.Test.YtmlnecopbncdbaaSu9
import Derived.Test.YtmlnecopbncdbaaSu7
import Derived.Test.YtmlnecopbncdbaaSu6
import Derived.Test.YtmlnecopbncdbaaSu5
namespace Go.Proofs.Ytmlnecopbncdbaa.fnSubtypes
open Go.ChangeShapes Go.WideShapes Go.ChangeAt Go.RowKit
open Go.ChangeMaps (open_string shut_string)
set_option linter.unusedVariables false
set_option linter.unusedSimpArgs false

/-- a schema lies in a box -/
structure SX (B : Nat) (w : World) (p : Nat) (L : List Ty) (a : Option Addr) (cap : Nat) : Prop where
  cell : w.cell? ⟨p, 0, none⟩ = some (.slice a L.length cap)
  sch : Sch B w L a cap
theorem SX.later {B : Nat} {w w' : World} {p : Nat} {L : List Ty} {a : Option Addr} {cap : Nat} (h : SX B w p L a cap) (hb : Below w.heap.size w w') : SX B w' p L a cap := ⟨below_later hb h.cell, h.sch.keep hb⟩
theorem SX.box {w : World} {base : Nat} {a : Option Addr} {c : Nat} {L : List Ty} (h : w.ownsRow base 85 6 (.slice a L.length c) L.length (tysV L)) (hl : L.length ≤ 30) (hn : ∀ x ∈ L, x.name.size ≤ maxLen) : SX w.heap.size (w.alloc (.cells #[.slice a L.length c] 28)) w.heap.size L a c :=
  ⟨box_cell (box_start w (.cells #[.slice a L.length c] 28)) 0, (sch_own h (by omega) hn).keep ((Below.refl _ _).alloc (Nat.le_refl _) _)⟩
theorem SX.two {B : Nat} {w : World} {A D : List Ty} {sa sd : Option Addr} {ca cd : Nat} (hA : Sch B w A sa ca) (hD : Sch B w D sd cd) : SX B ((w.alloc (.cells #[.slice sa A.length ca] 28)).alloc (.cells #[.slice sd D.length cd] 28)) w.heap.size A sa ca ∧ SX B ((w.alloc (.cells #[.slice sa A.length ca] 28)).alloc (.cells #[.slice sd D.length cd] 28)) (w.heap.size + 1) D sd cd := by
  have hb1 := (Below.refl w.heap.size w).alloc (Nat.le_refl _) (.cells #[.slice sa A.length ca] 28)
  have hb2 := hb1.alloc hb1.size (.cells #[.slice sd D.length cd] 28)
  have h1 := hp_alloc (.cells #[.slice sd D.length cd] 28) (heap_alloc_new w (.cells #[.slice sa A.length ca] 28))
  have h2 := heap_alloc_new (w.alloc (.cells #[.slice sa A.length ca] 28)) (.cells #[.slice sd D.length cd] 28)
  rw [World.size_alloc] at h2
  exact ⟨⟨by simp only [World.cell?, h1]; rfl, hA.keep hb2⟩, ⟨by simp only [World.cell?, h2]; rfl, hD.keep hb2⟩⟩
/-- a schema that was told lies in a box -/
structure RX (B : Nat) (w : World) (p : Nat) (R : List Ty) (a : Option Addr) (c : Nat) : Prop where
  cell : w.cell? ⟨p, 0, none⟩ = some (.slice a R.length c)
  row : Rb B w a (tysV R)
  hB : B ≤ w.heap.size
  hc : R.length ≤ c
  hcm : c ≤ 9223372036854775807
theorem RX.later {B : Nat} {w w' : World} {p : Nat} {R : List Ty} {a : Option Addr} {c : Nat} (h : RX B w p R a c) (hb : Below w.heap.size w w') : RX B w' p R a c := ⟨below_later hb h.cell, h.row.below (hb.mono h.hB), Nat.le_trans h.hB hb.size, h.hc, h.hcm⟩
theorem RX.box {w : World} {base : Nat} {a : Option Addr} {c : Nat} {R : List Ty} (h : w.ownsRow base 85 6 (.slice a R.length c) R.length (tysV R)) : RX w.heap.size (w.alloc (.cells #[.slice a R.length c] 28)) w.heap.size R a c :=
  ⟨box_cell (box_start w (.cells #[.slice a R.length c] 28)) 0, (own_rw h).rb.below ((Below.refl _ _).alloc (Nat.le_refl _) _), by simp, (own_cap h).1, (own_cap h).2⟩
theorem RX.sch {B : Nat} {w : World} {p : Nat} {R : List Ty} {a : Option Addr} {c : Nat} (h : RX B w p R a c) (hl : R.length ≤ 30) (hn : ∀ x ∈ R, x.name.size ≤ 10) : Sch B w R a c := ⟨h.hc, h.hcm, by omega, fun x hx => by have := hn x hx; unfold maxLen; omega, h.row, h.hB⟩
theorem b_same (b : Bool) : (b != b) = false := by cases b <;> rfl
theorem good_names {M : List Ty} (h : goodL M = true) : ∀ x ∈ M, x.name.size ≤ 10 := fun x hx => by
  obtain ⟨i, hi⟩ := List.mem_iff_getElem?.1 hx
  obtain ⟨_, h1, h2⟩ := (goodL_iff.1 h).2.1.1 i x hi
  by_cases h0 : i = 0
  · have := (h1 h0).2.2.1; omega
  · obtain ⟨j, y, -, -, -, -, -, hp, -⟩ := h2 (by omega)
    by_cases h5 : y.kind = 5
    · exact (nameB_L (hp.1 h5).1).2
    · have := (hp.2 h5).1
      have h3 : x.hd.name = x.name := rfl
      rw [h3] at this; omega
theorem ss_good {L : List Ty} {k : Int} (h : (ssR L k).2 = true) : goodL (ssR L k).1 = true := by
  unfold ssR at h ⊢
  split at h
  case isFalse => cases h
  case isTrue hc =>
    rw [if_pos hc]
    have hx : L[k.toNat]? = some (L[k.toNat]'(by omega)) := List.getElem?_eq_getElem _
    obtain ⟨t, e, hT⟩ := tree_ex hx
    have hw : WfT (wholeT (treeOf L k.toNat)) := whole_wf (by rw [hT.of]; exact hT.wf)
    show goodL (tellL _) = true
    unfold tellL
    rw [if_pos h, flat_good hw]
    exact h
theorem ss_len (L : List Ty) (k : Int) : (ssR L k).1.length ≤ 30 := by
  cases h : (ssR L k).2 with
  | true => exact (goodL_iff.1 (ss_good h)).1.2
  | false =>
    unfold ssR at h ⊢
    split
    case isFalse => simp
    case isTrue hc =>
      rw [if_pos hc] at h
      show (tellL _).length ≤ 30
      unfold tellL
      have h' : goodT (wholeT (treeOf L k.toNat)) = false := h
      rw [h']
      simp
theorem fld_len (L : List Ty) (k : Int) : (fldR L k).1.length ≤ 1000000 := by
  unfold fldR
  split
  case isFalse => simp
  case isTrue hc =>
    show (nums _).length ≤ _
    rw [nums_len]
    have := kidsI_len (L := L) (k := k.toNat) (s := k.toNat + 1) L.length
    have := (goodL_iff.1 hc.1).1.2
    omega
theorem sub_self {A D : List Ty} (h : (isub A D).2 = true) : isub A A = (true, true) := by
  unfold isub at h
  split at h
  case isFalse => cases h
  case isTrue hc =>
    unfold isub
    rw [if_pos ⟨hc.1, hc.1⟩, sub_refl _ _ (Nat.le_refl _) (good_right hc.1).1]
theorem sub_three {A D C : List Ty} (h1 : (isub A D).1 = true) (h2 : (isub D C).1 = true) (h3 : (isub A C).2 = true) : (isub A C).1 = true := by
  unfold isub at *
  split at h3
  case isFalse => cases h3
  case isTrue hc =>
    rw [if_pos hc]
    split at h1
    case isFalse => cases h1
    case isTrue hc1 =>
      split at h2
      case isFalse => cases h2
      case isTrue hc2 => exact sub_trans _ _ _ _ (Nat.le_refl _) h1 h2

set_option maxHeartbeats 4000000 in
set_option maxRecDepth 100000 in
theorem walk (w : World) (v0 : Value) (a0 : List UInt8) (w0 : IsBytes w v0 a0) (v1 : Value) (a1 : List UInt8) (w1 : IsBytes w v1 a1) :
    Calls Try.prog 5 #[v0, v1] w fun e w' => e = .returned (.bool true) ∧ Below w.heap.size w w' := by
  obtain ⟨ca, cc, rfl, hr0, hl0, hm0⟩ := w0
  obtain ⟨ma, mc, rfl, hr1, hl1, hm1⟩ := w1
  unfold maxLen at hm0 hm1
  have HR0 := Lib.hid hr0; have HR1 := Lib.hid hr1
  clear hr0 hr1
  by_cases hsum : (1048576 : Int) < wrap64 ((a0.length : Int) + (a1.length : Int))
  case pos =>
    go_enter Try.func5, Try.ntmps5
    go_wp2_with fail
    go_ret
    exact ⟨rfl, Below.refl _ _⟩
  go_enter Try.func5, Try.ntmps5
  go_wp2_with fail
  refine (draw_IsSubtype w ca cc a0 hl0 hm0 HR0.out.rb).mono ?_
  rintro e w1 ⟨A, sa, ea, D, sd, ed, rfl, hA30, hD30, hsa, hsd, hb⟩
  have HSA := Lib.hid (SX.two hsa hsd).1
  have HSD := Lib.hid (SX.two hsa hsd).2
  have HB2 := Lib.hid (ralloc (ralloc hb (.cells #[.slice sa A.length ea] 28)) (.cells #[.slice sd D.length ed] 28))
  clear hsa hsd hb hsum
  generalize hw2 : (w1.alloc (.cells #[.slice sa A.length ea] 28)).alloc (.cells #[.slice sd D.length ed] 28) = w2 at *
  generalize hp5 : w1.heap.size = p5 at *
  have HK1 := Lib.hid (impl_IsSubtype HSA.out.sch HSD.out.sch)
  have HK2 := Lib.hid (fun wx (h1 : Sch p5 wx A sa ea) (h2 : Sch p5 wx D sd ed) => spec_IsSubtype h1 h2)
  have HKS := Lib.hid (fun (h : (isub A D).2 = true) => sub_self h)
  have HKT := Lib.hid (fun C h1 h2 h3 => sub_three (A := A) (D := D) (C := C) h1 h2 h3)
  generalize (isub A D).1 = is at *
  generalize (isub A D).2 = ok at *
  have c5 := HSA.out.cell
  have c6 := HSD.out.cell
  go_wp2_with fail
  refine HK1.out.mono ?_
  rintro e w3 ⟨rfl, hb⟩
  have HSA3 := Lib.hid (HSA.out.later hb)
  have HSD3 := Lib.hid (HSD.out.later hb)
  have HB3 := Lib.hid (rstep HB2.out hb)
  clear hb hw2 hp5 c5 c6 HSA HSD HB2
  have c5 := HSA3.out.cell
  have c6 := HSD3.out.cell
  have HK22 := Lib.hid (HK2.out w3 HSA3.out.sch HSD3.out.sch)
  go_wp2_with fail
  refine HK22.out.mono ?_
  rintro e w4 ⟨rfl, hb⟩
  have HSA4 := Lib.hid (HSA3.out.later hb)
  have HSD4 := Lib.hid (HSD3.out.later hb)
  have HB4 := Lib.hid (rstep HB3.out hb)
  clear hb c5 c6 HSA3 HSD3 HB3
  have c5 := HSA4.out.cell
  have c6 := HSD4.out.cell
  have o1 := b_same ok
  have o2 := b_same is
  have o3 := b_same (goodL A)
  have hdr := (Below.refl w4.heap.size w4).drew
  have HG1 := Lib.hid (impl_GoodSchema (HSA4.out.sch.keep hdr))
  have HG2 := Lib.hid (fun wx (h1 : Sch p5 wx A sa ea) => spec_GoodSchema h1)
  go_wp2_with fail
  refine wp_region_G [12] (fun w' => w'.cell? ⟨p5, 0, none⟩ = some (.slice sa A.length ea)) (by kernel_rfl) ?_ (fun hHeld => ?_)
  · exact c5
  refine wpG_pure (i := 0) (oi := { dst := some 56, op := Go.Op.move (Go.Operand.tmp 8), type := 4, pos := "laws.go:167", after := #[], guard := none }) (v := ?vg1) rfl (by kernel_rfl) (fun _ _ _ h => h) (Or.inr hHeld) (Or.inl ⟨by rfl, ?yg1⟩) ?_
  case yg1 => (intro wS _; go_simp <;> with_reducible rfl)
  try simp only [Act.put, List.setIfInBounds_toArray, List.set_cons_zero, List.set_cons_succ]
  refine wpG_pure (i := 1) (oi := { dst := some 57, op := Go.Op.move (Go.Operand.tmp 10), type := 4, pos := "laws.go:167", after := #[], guard := none }) (v := ?vg2) rfl (by kernel_rfl) (fun _ _ _ h => h) (Or.inr hHeld) (Or.inl ⟨by rfl, ?yg2⟩) ?_
  case yg2 => (intro wS _; go_simp <;> with_reducible rfl)
  try simp only [Act.put, List.setIfInBounds_toArray, List.set_cons_zero, List.set_cons_succ]
  refine wpG_pure (i := 2) (oi := { dst := some 58, op := Go.Op.binOp Go.BinOp.neq 4 (Go.Operand.tmp 56) (Go.Operand.tmp 57) 4, type := 4, pos := "laws.go:167", after := #[{ on := 0, ground := Go.Ground.data }, { on := 1, ground := Go.Ground.data }], guard := none }) (v := ?vg3) rfl (by kernel_rfl) (fun _ _ _ h => h) (Or.inr hHeld) (Or.inl ⟨by rfl, ?yg3⟩) ?_
  case yg3 => (intro wS _; go_simp <;> with_reducible rfl)
  try simp only [Act.put, List.setIfInBounds_toArray, List.set_cons_zero, List.set_cons_succ]
  refine wpG_pure (i := 3) (oi := { dst := some 59, op := Go.Op.move (Go.Operand.tmp 58), type := 4, pos := "laws.go:167", after := #[{ on := 2, ground := Go.Ground.data }], guard := none }) (v := ?vg4) rfl (by kernel_rfl) (fun _ _ _ h => h) (Or.inr hHeld) (Or.inl ⟨by rfl, ?yg4⟩) ?_
  case yg4 => (intro wS _; go_simp <;> with_reducible rfl)
  try simp only [Act.put, List.setIfInBounds_toArray, List.set_cons_zero, List.set_cons_succ]
  refine wpG_pure (i := 4) (oi := { dst := some 60, op := Go.Op.move (Go.Operand.tmp 7), type := 4, pos := "laws.go:167", after := #[{ on := 3, ground := Go.Ground.guard }], guard := some (3, false) }) (v := ?vg5) rfl (by kernel_rfl) (fun _ _ _ h => h) (Or.inr hHeld) (Or.inl ⟨by rfl, ?yg5⟩) ?_
  case yg5 => (intro wS _; go_simp <;> with_reducible rfl)
  try simp only [Act.put, List.setIfInBounds_toArray, List.set_cons_zero, List.set_cons_succ]
  refine wpG_pure (i := 5) (oi := { dst := some 61, op := Go.Op.move (Go.Operand.tmp 9), type := 4, pos := "laws.go:167", after := #[{ on := 3, ground := Go.Ground.guard }], guard := some (3, false) }) (v := ?vg6) rfl (by kernel_rfl) (fun _ _ _ h => h) (Or.inr hHeld) (Or.inl ⟨by rfl, ?yg6⟩) ?_
  case yg6 => (intro wS _; go_simp <;> with_reducible rfl)
  try simp only [Act.put, List.setIfInBounds_toArray, List.set_cons_zero, List.set_cons_succ]
  refine wpG_pure (i := 6) (oi := { dst := some 62, op := Go.Op.binOp Go.BinOp.neq 4 (Go.Operand.tmp 60) (Go.Operand.tmp 61) 4, type := 4, pos := "laws.go:167", after := #[{ on := 4, ground := Go.Ground.data }, { on := 5, ground := Go.Ground.data }, { on := 3, ground := Go.Ground.guard }], guard := some (3, false) }) (v := ?vg7) rfl (by kernel_rfl) (fun _ _ _ h => h) (Or.inr hHeld) (Or.inl ⟨by rfl, ?yg7⟩) ?_
  case yg7 => (intro wS _; go_simp <;> with_reducible rfl)
  try simp only [Act.put, List.setIfInBounds_toArray, List.set_cons_zero, List.set_cons_succ]
  refine wpG_pure (i := 7) (oi := { dst := some 63, op := Go.Op.pick (Go.Operand.tmp 59) (Go.Operand.const (Go.Value.bool true)) (Go.Operand.tmp 62), type := 4, pos := "laws.go:167", after := #[{ on := 3, ground := Go.Ground.data }, { on := 6, ground := Go.Ground.data }], guard := none }) (v := ?vg8) rfl (by kernel_rfl) (fun _ _ _ h => h) (Or.inr hHeld) (Or.inl ⟨by rfl, ?yg8⟩) ?_
  case yg8 => (intro wS _; go_simp <;> with_reducible rfl)
  try simp only [Act.put, List.setIfInBounds_toArray, List.set_cons_zero, List.set_cons_succ]
  refine wpG_pure (i := 8) (oi := { dst := some 64, op := Go.Op.move (Go.Operand.tmp 63), type := 4, pos := "laws.go:167", after := #[{ on := 7, ground := Go.Ground.data }, { on := 3, ground := Go.Ground.chain }], guard := none }) (v := ?vg9) rfl (by kernel_rfl) (fun _ _ _ h => h) (Or.inr hHeld) (Or.inl ⟨by rfl, ?yg9⟩) ?_
  case yg9 => (intro wS _; go_simp <;> with_reducible rfl)
  try simp only [Act.put, List.setIfInBounds_toArray, List.set_cons_zero, List.set_cons_succ]
  refine wpG_load (i := 9) (oi := { dst := some 65, op := Go.Op.load 28 (Go.Operand.tmp 5), type := 28, pos := "laws.go:167", after := #[{ on := 8, ground := Go.Ground.guard }], guard := some (8, false) }) (v := ?vg10) [[12, 10, 9]] rfl (by kernel_rfl) (fun _ _ _ h => h) hHeld (Or.inl ⟨by rfl, ?yg10⟩) ?_
  case yg10 => (intro wS hSw; (try dsimp only at hSw); go_simp <;> with_reducible rfl)
  try simp only [Act.put, List.setIfInBounds_toArray, List.set_cons_zero, List.set_cons_succ]
  refine wpG_load (i := 11) (oi := { dst := some 67, op := Go.Op.load 28 (Go.Operand.tmp 5), type := 28, pos := "laws.go:167", after := #[{ on := 8, ground := Go.Ground.guard }], guard := some (8, false) }) (v := ?vg11) [[12, 11]] rfl (by kernel_rfl) (fun _ _ _ h => h) hHeld (Or.inl ⟨by rfl, ?yg11⟩) ?_
  case yg11 => (intro wS hSw; (try dsimp only at hSw); go_simp <;> with_reducible rfl)
  try simp only [Act.put, List.setIfInBounds_toArray, List.set_cons_zero, List.set_cons_succ]
  refine wpG_one (i := 10) (o := { dst := some 66, op := Go.Op.call { callee := Go.Callee.value (Go.Operand.func 22), args := #[Go.Operand.tmp 65], argTypes := #[28] }, type := 4, pos := "laws.go:167", after := #[{ on := 9, ground := Go.Ground.data }, { on := 8, ground := Go.Ground.chain }, { on := 8, ground := Go.Ground.guard }], guard := some (8, false) }) rfl (by kernel_rfl) (fun K hK => ?_)
  go_simp
  refine HG1.out.mono ?_
  rintro e wa ⟨rfl, hb⟩
  have HSA5 := Lib.hid (HSA4.out.later (hdr.trans hb))
  have HSD5 := Lib.hid (HSD4.out.later (hdr.trans hb))
  have HB5 := Lib.hid (rstep HB4.out (hdr.trans hb))
  have HG22 := Lib.hid (HG2.out wa HSA5.out.sch)
  clear hb
  refine hK.out _ _ (Or.inr ?khHeld12) (fun hHeld12S => ?_)
  case khHeld12 => exact HSA5.out.cell
  have hHeld12 := hHeld12S.held (by kernel_rfl)
  clear hK K
  try simp only [Act.put, List.setIfInBounds_toArray, List.set_cons_zero, List.set_cons_succ]
  refine wpG_one (i := 12) (o := { dst := some 68, op := Go.Op.call { callee := Go.Callee.value (Go.Operand.func 23), args := #[Go.Operand.tmp 67], argTypes := #[28] }, type := 4, pos := "laws.go:167", after := #[{ on := 11, ground := Go.Ground.data }, { on := 10, ground := Go.Ground.chain }, { on := 8, ground := Go.Ground.guard }], guard := some (8, false) }) rfl (by kernel_rfl) (fun K hK => ?_)
  go_simp
  refine HG22.out.mono ?_
  rintro e wb ⟨rfl, hb⟩
  have HSA6 := Lib.hid (HSA5.out.later hb)
  have HSD6 := Lib.hid (HSD5.out.later hb)
  have HB6 := Lib.hid (rstep HB5.out hb)
  clear hb
  refine hK.out _ _ (Or.inl (by kernel_rfl)) (fun _ => ?_)
  clear hK K
  try simp only [Act.put, List.setIfInBounds_toArray, List.set_cons_zero, List.set_cons_succ]
  refine wpG_pure (i := 13) (oi := { dst := some 69, op := Go.Op.binOp Go.BinOp.neq 4 (Go.Operand.tmp 66) (Go.Operand.tmp 68) 4, type := 4, pos := "laws.go:167", after := #[{ on := 10, ground := Go.Ground.data }, { on := 12, ground := Go.Ground.data }, { on := 8, ground := Go.Ground.guard }], guard := some (8, false) }) (v := ?vg14) rfl (by kernel_rfl) (fun _ _ _ h => h) (Or.inl (by kernel_rfl)) (Or.inl ⟨by rfl, ?yg14⟩) ?_
  case yg14 => (intro wS _; go_simp <;> with_reducible rfl)
  try simp only [Act.put, List.setIfInBounds_toArray, List.set_cons_zero, List.set_cons_succ]
  refine wpG_pure (i := 14) (oi := { dst := some 70, op := Go.Op.pick (Go.Operand.tmp 64) (Go.Operand.const (Go.Value.bool true)) (Go.Operand.tmp 69), type := 4, pos := "laws.go:167", after := #[{ on := 8, ground := Go.Ground.data }, { on := 13, ground := Go.Ground.data }], guard := none }) (v := ?vg15) rfl (by kernel_rfl) (fun _ _ _ h => h) (Or.inl (by kernel_rfl)) (Or.inl ⟨by rfl, ?yg15⟩) ?_
  case yg15 => (intro wS _; go_simp <;> with_reducible rfl)
  try simp only [Act.put, List.setIfInBounds_toArray, List.set_cons_zero, List.set_cons_succ]
  refine wpG_done (by kernel_rfl) ?_
  skip
  clear HG1 HG2 HG22 HSA4 HSD4 HSA5 HSD5 HB4 HB5 c5 c6 hHeld hdr
  have c5 := HSA6.out.cell
  have c6 := HSD6.out.cell
  cases ok with
  | false =>
    go_wp2_with fail
    refine (draw_SubSchema wb ma mc a1 hl1 hm1 (HR1.out.below HB6.out).rb).mono ?_
    rintro e x1 ⟨L, ga, gc, k, rfl, hll, hk, hnm, ho, hb⟩
    have HT := Lib.hid (SX.box ho (by omega) hnm)
    have HD := Lib.hid (ralloc (rstep HB6.out hb) (.cells #[.slice ga L.length gc] 28))
    have HGD := Lib.hid (fun (h : (ssR L k).2 = true) => ss_good h)
    have hsl := ss_len L k
    have hfl := fld_len L k
    clear ho hnm hb
    generalize hx2 : x1.alloc (.cells #[.slice ga L.length gc] 28) = x2 at *
    have g0 := HT.out.cell
    have HC1 := Lib.hid (impl_SubSchema HT.out.sch k)
    have HC2 := Lib.hid (fun wx (h : Sch x1.heap.size wx L ga gc) => spec_SubSchema h k)
    have HC3 := Lib.hid (fun wx (h : Sch x1.heap.size wx L ga gc) => impl_FieldsOf h k)
    have HC4 := Lib.hid (fun wx (h : Sch x1.heap.size wx L ga gc) => spec_FieldsOf h k)
    have HC5 := Lib.hid (fun wx (h : Sch x1.heap.size wx L ga gc) => impl_DeepOf h)
    have HC6 := Lib.hid (fun wx (h : Sch x1.heap.size wx L ga gc) => spec_DeepOf h)
    generalize hpx : x1.heap.size = px at *
    unfold SubO at HC1 HC2
    unfold FldsO at HC3 HC4
    generalize (ssR L k).1 = R at *
    generalize (ssR L k).2 = b1 at *
    generalize (fldR L k).1 = F at *
    generalize (fldR L k).2 = b3 at *
    generalize (deepR L).1 = d at *
    generalize (deepR L).2 = b5 at *
    go_wp2_with fail
    refine HC1.out.mono ?_
    rintro e x3 ⟨v, rfl, ho, hb⟩
    obtain ⟨ta, tc, rfl⟩ := form_of_own ho
    have HRX := Lib.hid (RX.box ho)
    have hb2 := (Below.refl x3.heap.size x3).alloc (Nat.le_refl _) (.cells #[.slice ta R.length tc] 28)
    have HTb := Lib.hid ((HT.out.later hb).later hb2)
    have HDb := Lib.hid (rstep (rstep HD.out hb) hb2)
    clear hb hb2 ho hx2 hpx g0
    generalize hx4 : x3.alloc (.cells #[.slice ta R.length tc] 28) = x4 at *
    generalize hpt : x3.heap.size = pt at *
    have g1 := HTb.out.cell
    have HE2 := Lib.hid (HC2.out x4 HTb.out.sch)
    go_wp2_with fail
    refine HE2.out.mono ?_
    rintro e x5 ⟨v, rfl, ho, hb⟩
    obtain ⟨ua, uc, rfl⟩ := form_of_own ho
    have HUX := Lib.hid (RX.box ho)
    have hb2 := (Below.refl x5.heap.size x5).alloc (Nat.le_refl _) (.cells #[.slice ua R.length uc] 28)
    have HTc := Lib.hid ((HTb.out.later hb).later hb2)
    have HDc := Lib.hid (rstep (rstep HDb.out hb) hb2)
    have HRc := Lib.hid ((HRX.out.later hb).later hb2)
    clear hb hb2 ho hx4 hpt g1
    generalize hx6 : x5.alloc (.cells #[.slice ua R.length uc] 28) = x6 at *
    generalize hpu : x5.heap.size = pu at *
    have g2 := HTc.out.cell
    have HE3 := Lib.hid (HC3.out x6 HTc.out.sch)
    go_wp2_with fail
    refine HE3.out.mono ?_
    rintro e x7 ⟨v, rfl, ho, hb⟩
    obtain ⟨va, vc, rfl⟩ := form_of_own ho
    have HV7 := Lib.hid (own_rw ho)
    have HTd := Lib.hid (HTc.out.later hb)
    have HDd := Lib.hid (rstep HDc.out hb)
    have HRd := Lib.hid (HRc.out.later hb)
    have HUd := Lib.hid (HUX.out.later hb)
    clear hb ho hx6 hpu g2
    have g3 := HTd.out.cell
    have HE4 := Lib.hid (HC4.out x7 HTd.out.sch)
    go_wp2_with fail
    refine HE4.out.mono ?_
    rintro e x8 ⟨v, rfl, ho, hb⟩
    obtain ⟨qa, qc, rfl⟩ := form_of_own ho
    have HQ8 := Lib.hid (own_rw ho)
    have HV8 := Lib.hid (HV7.out.below hb)
    have HTe := Lib.hid (HTd.out.later hb)
    have HDe := Lib.hid (rstep HDd.out hb)
    have HRe := Lib.hid (HRd.out.later hb)
    have HUe := Lib.hid (HUd.out.later hb)
    clear hb ho g3
    have g4 := HTe.out.cell
    have HE5 := Lib.hid (HC5.out x8 HTe.out.sch)
    go_wp2_with fail
    refine HE5.out.mono ?_
    rintro e x9 ⟨rfl, hb⟩
    have HQ9 := Lib.hid (HQ8.out.below hb)
    have HV9 := Lib.hid (HV8.out.below hb)
    have HTf := Lib.hid (HTe.out.later hb)
    have HDf := Lib.hid (rstep HDe.out hb)
    have HRf := Lib.hid (HRe.out.later hb)
    have HUf := Lib.hid (HUe.out.later hb)
    clear hb g4
    have g5 := HTf.out.cell
    have HE6 := Lib.hid (HC6.out x9 HTf.out.sch)
    go_wp2_with fail
    refine HE6.out.mono ?_
    rintro e xa ⟨rfl, hb⟩
    have HQa := Lib.hid (HQ9.out.below hb)
    have HVa := Lib.hid (HV9.out.below hb)
    have HDg := Lib.hid (rstep HDf.out hb)
    have HRg := Lib.hid (HRf.out.later hb)
    have HUg := Lib.hid (HUf.out.later hb)
    clear hb g5
    have r0 := HRg.out.cell
    have u0 := HUg.out.cell
    have e1 := b_same b1
    have e3 := b_same b3
    have e5 := b_same b5
    have e6 : (d != d) = false := bne_self_eq_false d
    have HSS := Lib.hid (same_schemas (L := R) (a := ta) (b := ua) (ca := tc) (cb := uc) (HRg.out.row.rw HRg.out.hB) (HUg.out.row.rw HUg.out.hB) (by omega))
    clear HT HTb HTc HTd HTe HTf HRX HRc HRd HRe HRf HUX HUd HUe HUf HC1 HC2 HC3 HC4 HC5 HC6 HE2 HE3 HE4 HE5 HE6 HV7 HV8 HV9 HQ8 HQ9 HD HDb HDc HDd HDe HDf
    go_wp2_with fail
    refine HSS.out.mono ?_
    rintro e xb ⟨rfl, hb⟩
    have HQb := Lib.hid (HQa.out.below hb)
    have HVb := Lib.hid (HVa.out.below hb)
    have HDh := Lib.hid (rstep HDg.out hb)
    have HRh := Lib.hid (HRg.out.later hb)
    clear hb r0 u0
    have HSI := Lib.hid (same_ints (xs := F) (n := F.length) (a := va) (b := qa) (ca := vc) (cb := qc) rfl HVb.out HQb.out hfl)
    go_wp2_with fail
    refine HSI.out.mono ?_
    rintro e xc ⟨rfl, hb⟩
    have HDi := Lib.hid (rstep HDh.out hb)
    have HRi := Lib.hid (HRh.out.later hb)
    clear hb
    have r1 := HRi.out.cell
    cases b1 with
    | false =>
      go_wp2_with fail
      go_ret
      exact ⟨by first | rfl | simp, HDi.out⟩
    | true =>
      have hgd := HGD.out rfl
      have HGS := Lib.hid (impl_GoodSchema (HRi.out.sch hsl (good_names hgd)))
      rw [hgd] at HGS
      clear hgd
      go_wp2_with fail
      refine HGS.out.mono ?_
      rintro e xd ⟨rfl, hb⟩
      have HDj := Lib.hid (rstep HDi.out hb)
      clear hb
      go_wp2_with fail
      go_ret
      exact ⟨by first | rfl | simp, HDj.out⟩
  | true =>
  have hself := HKS.out rfl
  have HK3 := Lib.hid (impl_IsSubtype HSA6.out.sch HSA6.out.sch)
  rw [hself] at HK3
  clear hself HKS
  go_wp2_with fail
  refine HK3.out.mono ?_
  rintro e w7 ⟨rfl, hb⟩
  have HSA7 := Lib.hid (HSA6.out.later hb)
  have HSD7 := Lib.hid (HSD6.out.later hb)
  have HB7 := Lib.hid (rstep HB6.out hb)
  clear hb c5 c6 HSA6 HSD6 HB6
  go_wp2_with fail
  refine (draw_IsSubtype w7 ma mc a1 hl1 hm1 (HR1.out.below HB7.out).rb).mono ?_
  rintro e w8 ⟨C, sc, ec, E, se, ee, rfl, hC30, hE30, hsc, hse, hb⟩
  have HSC9 := Lib.hid (SX.two hsc hse).1
  have hb9 := ((Below.refl w8.heap.size w8).alloc (Nat.le_refl _) (.cells #[.slice sc C.length ec] 28)).alloc (by simp) (.cells #[.slice se E.length ee] 28)
  have HSA9 := Lib.hid ((HSA7.out.later hb).later hb9)
  have HSD9 := Lib.hid ((HSD7.out.later hb).later hb9)
  have HB9 := Lib.hid (rstep (rstep HB7.out hb) hb9)
  clear hsc hse hb hb9 HSA7 HSD7 HB7
  generalize hw9 : (w8.alloc (.cells #[.slice sc C.length ec] 28)).alloc (.cells #[.slice se E.length ee] 28) = w9 at *
  generalize hp13 : w8.heap.size = p13 at *
  have c5 := HSA9.out.cell
  have c6 := HSD9.out.cell
  have c13 := HSC9.out.cell
  have HKD := Lib.hid (impl_IsSubtype (B := max p5 p13) ⟨HSD9.out.sch.hc, HSD9.out.sch.hcm, HSD9.out.sch.hl, HSD9.out.sch.hnm, HSD9.out.sch.row.mono (by omega), by have := HSD9.out.sch.hB; have := HSC9.out.sch.hB; omega⟩ ⟨HSC9.out.sch.hc, HSC9.out.sch.hcm, HSC9.out.sch.hl, HSC9.out.sch.hnm, HSC9.out.sch.row.mono (by omega), by have := HSD9.out.sch.hB; have := HSC9.out.sch.hB; omega⟩)
  have HKA := Lib.hid (fun wx (h1 : Sch p5 wx A sa ea) (h2 : Sch p13 wx C sc ec) => impl_IsSubtype (B := max p5 p13) ⟨h1.hc, h1.hcm, h1.hl, h1.hnm, h1.row.mono (by omega), by have := h1.hB; have := h2.hB; omega⟩ ⟨h2.hc, h2.hcm, h2.hl, h2.hnm, h2.row.mono (by omega), by have := h1.hB; have := h2.hB; omega⟩)
  have HT3 : Hid (is = true → (isub D C).1 = true → (isub A C).2 = true → (isub A C).1 = true) := Lib.hid (fun h1 h2 h3 => HKT.out C h1 h2 h3)
  generalize (isub D C).1 = x at *
  generalize (isub D C).2 = two at *
  generalize (isub A C).1 = y at *
  generalize (isub A C).2 = three at *
  clear HKT
  go_wp2_with fail
  refine HKD.out.mono ?_
  rintro e wc ⟨rfl, hb⟩
  have HSAc := Lib.hid (HSA9.out.later hb)
  have HSCc := Lib.hid (HSC9.out.later hb)
  have HBc := Lib.hid (rstep HB9.out hb)
  clear hb c5 c6 c13 hw9 hp13 HSA9 HSD9 HSC9 HB9
  have c5 := HSAc.out.cell
  have c13 := HSCc.out.cell
  have HKA2 := Lib.hid (HKA.out wc HSAc.out.sch HSCc.out.sch)
  go_wp2_with fail
  refine HKA2.out.mono ?_
  rintro e wd ⟨rfl, hb⟩
  have HBd := Lib.hid (rstep HBc.out hb)
  clear hb c5 c13 HSAc HSCc HBc HKA HKA2
  go_upto_region 15 with fail
  go_cut [114] (fun s114 wx => s114 = .bool false ∧ Hid (wd = wx))
  case first =>
    have ht := HT3.out
    clear HT3
    cases two <;> cases three <;> cases is <;> cases x <;> cases y <;> first | (exfalso; simp at ht; done) | (clear ht; go_wp2_with fail; go_meet; exact ⟨rfl, Lib.hid rfl⟩)
  case rest =>
  obtain ⟨rfl, HWE⟩ := hcut
  obtain rfl := HWE.out
  clear HWE HT3
  go_wp2_with fail
  refine (draw_SubSchema wd ma mc a1 hl1 hm1 (HR1.out.below HBd.out).rb).mono ?_
  rintro e x1 ⟨L, ga, gc, k, rfl, hll, hk, hnm, ho, hb⟩
  have HT := Lib.hid (SX.box ho (by omega) hnm)
  have HD := Lib.hid (ralloc (rstep HBd.out hb) (.cells #[.slice ga L.length gc] 28))
  have HGD := Lib.hid (fun (h : (ssR L k).2 = true) => ss_good h)
  have hsl := ss_len L k
  have hfl := fld_len L k
  clear ho hnm hb
  generalize hx2 : x1.alloc (.cells #[.slice ga L.length gc] 28) = x2 at *
  have g0 := HT.out.cell
  have HC1 := Lib.hid (impl_SubSchema HT.out.sch k)
  have HC2 := Lib.hid (fun wx (h : Sch x1.heap.size wx L ga gc) => spec_SubSchema h k)
  have HC3 := Lib.hid (fun wx (h : Sch x1.heap.size wx L ga gc) => impl_FieldsOf h k)
  have HC4 := Lib.hid (fun wx (h : Sch x1.heap.size wx L ga gc) => spec_FieldsOf h k)
  have HC5 := Lib.hid (fun wx (h : Sch x1.heap.size wx L ga gc) => impl_DeepOf h)
  have HC6 := Lib.hid (fun wx (h : Sch x1.heap.size wx L ga gc) => spec_DeepOf h)
  generalize hpx : x1.heap.size = px at *
  unfold SubO at HC1 HC2
  unfold FldsO at HC3 HC4
  generalize (ssR L k).1 = R at *
  generalize (ssR L k).2 = b1 at *
  generalize (fldR L k).1 = F at *
  generalize (fldR L k).2 = b3 at *
  generalize (deepR L).1 = d at *
  generalize (deepR L).2 = b5 at *
  go_wp2_with fail
  refine HC1.out.mono ?_
  rintro e x3 ⟨v, rfl, ho, hb⟩
  obtain ⟨ta, tc, rfl⟩ := form_of_own ho
  have HRX := Lib.hid (RX.box ho)
  have hb2 := (Below.refl x3.heap.size x3).alloc (Nat.le_refl _) (.cells #[.slice ta R.length tc] 28)
  have HTb := Lib.hid ((HT.out.later hb).later hb2)
  have HDb := Lib.hid (rstep (rstep HD.out hb) hb2)
  clear hb hb2 ho hx2 hpx g0
  generalize hx4 : x3.alloc (.cells #[.slice ta R.length tc] 28) = x4 at *
  generalize hpt : x3.heap.size = pt at *
  have g1 := HTb.out.cell
  have HE2 := Lib.hid (HC2.out x4 HTb.out.sch)
  go_wp2_with fail
  refine HE2.out.mono ?_
  rintro e x5 ⟨v, rfl, ho, hb⟩
  obtain ⟨ua, uc, rfl⟩ := form_of_own ho
  have HUX := Lib.hid (RX.box ho)
  have hb2 := (Below.refl x5.heap.size x5).alloc (Nat.le_refl _) (.cells #[.slice ua R.length uc] 28)
  have HTc := Lib.hid ((HTb.out.later hb).later hb2)
  have HDc := Lib.hid (rstep (rstep HDb.out hb) hb2)
  have HRc := Lib.hid ((HRX.out.later hb).later hb2)
  clear hb hb2 ho hx4 hpt g1
  generalize hx6 : x5.alloc (.cells #[.slice ua R.length uc] 28) = x6 at *
  generalize hpu : x5.heap.size = pu at *
  have g2 := HTc.out.cell
  have HE3 := Lib.hid (HC3.out x6 HTc.out.sch)
  go_wp2_with fail
  refine HE3.out.mono ?_
  rintro e x7 ⟨v, rfl, ho, hb⟩
  obtain ⟨va, vc, rfl⟩ := form_of_own ho
  have HV7 := Lib.hid (own_rw ho)
  have HTd := Lib.hid (HTc.out.later hb)
  have HDd := Lib.hid (rstep HDc.out hb)
  have HRd := Lib.hid (HRc.out.later hb)
  have HUd := Lib.hid (HUX.out.later hb)
  clear hb ho hx6 hpu g2
  have g3 := HTd.out.cell
  have HE4 := Lib.hid (HC4.out x7 HTd.out.sch)
  go_wp2_with fail
  refine HE4.out.mono ?_
  rintro e x8 ⟨v, rfl, ho, hb⟩
  obtain ⟨qa, qc, rfl⟩ := form_of_own ho
  have HQ8 := Lib.hid (own_rw ho)
  have HV8 := Lib.hid (HV7.out.below hb)
  have HTe := Lib.hid (HTd.out.later hb)
  have HDe := Lib.hid (rstep HDd.out hb)
  have HRe := Lib.hid (HRd.out.later hb)
  have HUe := Lib.hid (HUd.out.later hb)
  clear hb ho g3
  have g4 := HTe.out.cell
  have HE5 := Lib.hid (HC5.out x8 HTe.out.sch)
  go_wp2_with fail
  refine HE5.out.mono ?_
  rintro e x9 ⟨rfl, hb⟩
  have HQ9 := Lib.hid (HQ8.out.below hb)
  have HV9 := Lib.hid (HV8.out.below hb)
  have HTf := Lib.hid (HTe.out.later hb)
  have HDf := Lib.hid (rstep HDe.out hb)
  have HRf := Lib.hid (HRe.out.later hb)
  have HUf := Lib.hid (HUe.out.later hb)
  clear hb g4
  have g5 := HTf.out.cell
  have HE6 := Lib.hid (HC6.out x9 HTf.out.sch)
  go_wp2_with fail
  refine HE6.out.mono ?_
  rintro e xa ⟨rfl, hb⟩
  have HQa := Lib.hid (HQ9.out.below hb)
  have HVa := Lib.hid (HV9.out.below hb)
  have HDg := Lib.hid (rstep HDf.out hb)
  have HRg := Lib.hid (HRf.out.later hb)
  have HUg := Lib.hid (HUf.out.later hb)
  clear hb g5
  have r0 := HRg.out.cell
  have u0 := HUg.out.cell
  have e1 := b_same b1
  have e3 := b_same b3
  have e5 := b_same b5
  have e6 : (d != d) = false := bne_self_eq_false d
  have HSS := Lib.hid (same_schemas (L := R) (a := ta) (b := ua) (ca := tc) (cb := uc) (HRg.out.row.rw HRg.out.hB) (HUg.out.row.rw HUg.out.hB) (by omega))
  clear HT HTb HTc HTd HTe HTf HRX HRc HRd HRe HRf HUX HUd HUe HUf HC1 HC2 HC3 HC4 HC5 HC6 HE2 HE3 HE4 HE5 HE6 HV7 HV8 HV9 HQ8 HQ9 HD HDb HDc HDd HDe HDf
  go_wp2_with fail
  refine HSS.out.mono ?_
  rintro e xb ⟨rfl, hb⟩
  have HQb := Lib.hid (HQa.out.below hb)
  have HVb := Lib.hid (HVa.out.below hb)
  have HDh := Lib.hid (rstep HDg.out hb)
  have HRh := Lib.hid (HRg.out.later hb)
  clear hb r0 u0
  have HSI := Lib.hid (same_ints (xs := F) (n := F.length) (a := va) (b := qa) (ca := vc) (cb := qc) rfl HVb.out HQb.out hfl)
  go_wp2_with fail
  refine HSI.out.mono ?_
  rintro e xc ⟨rfl, hb⟩
  have HDi := Lib.hid (rstep HDh.out hb)
  have HRi := Lib.hid (HRh.out.later hb)
  clear hb
  have r1 := HRi.out.cell
  cases b1 with
  | false =>
    go_wp2_with fail
    go_ret
    exact ⟨by first | rfl | simp, HDi.out⟩
  | true =>
    have hgd := HGD.out rfl
    have HGS := Lib.hid (impl_GoodSchema (HRi.out.sch hsl (good_names hgd)))
    rw [hgd] at HGS
    clear hgd
    go_wp2_with fail
    refine HGS.out.mono ?_
    rintro e xd ⟨rfl, hb⟩
    have HDj := Lib.hid (rstep HDi.out hb)
    clear hb
    go_wp2_with fail
    go_ret
    exact ⟨by first | rfl | simp, HDj.out⟩

end Go.Proofs.Ytmlnecopbncdbaa.fnSubtypes
