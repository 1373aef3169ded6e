/- The contracts of the law's own words: whether two boxes are alike, a point of some bytes. -/
import Derived.Test.YthlajmncpejhmaaCurD
import Derived.Test.YthlajmncpejhmaaBoxC
import Derived.Test.YthlajmncpejhmaaSame
namespace Go.Proofs.Ythlajmncpejhmaa
set_option linter.unusedVariables false
open Go.ChangeShapes Go.WideShapes Go.ChangeAt Go.RowKit
set_option maxRecDepth 100000

set_option maxHeartbeats 1000000 in
theorem same_box (x y : Option Addr) (c c' : Nat) (a b : Bx) (w : World) (ha : Rw w x (sds a)) (hb : Rw w y (sds b)) (hn : a.length ≤ 1000) (hn2 : b.length ≤ 1000) :
    Calls Try.prog 35 #[.agg #[.slice x a.length c], .agg #[.slice y b.length c']] w fun e w' => e = .returned (.bool (decide (a = b))) ∧ Below w.heap.size w w' := by
  have c0 : ((w.alloc (.cells #[.slice x a.length c] 28)).alloc (.cells #[.slice y b.length c'] 28)).cell? ⟨w.heap.size, 0, none⟩ = some (.slice x a.length c) := by
    have h1 := ((Below.refl (w.heap.size + 1) (w.alloc (.cells #[.slice x a.length c] 28))).alloc (by simp) (.cells #[.slice y b.length c'] 28)).cell (p := ⟨w.heap.size, 0, none⟩) (Nat.lt_succ_self _)
    rw [h1, World.cell?_alloc_new]; rfl
  have c1 : ((w.alloc (.cells #[.slice x a.length c] 28)).alloc (.cells #[.slice y b.length c'] 28)).cell? ⟨w.heap.size + 1, 0, none⟩ = some (.slice y b.length c') := by simp
  have hb0 : Below w.heap.size w ((w.alloc (.cells #[.slice x a.length c] 28)).alloc (.cells #[.slice y b.length c'] 28)) := ((Below.refl _ _).alloc (Nat.le_refl _) _).alloc (by simp) _
  have HA := Lib.hid (ha.below hb0); have HBX := Lib.hid (hb.below hb0); have HB0 := Lib.hid hb0
  clear ha hb hb0
  by_cases hl : a.length = b.length
  case neg =>
    have hd : decide (a = b) = false := by simp; intro h; exact hl (by rw [h])
    have hne : ((a.length : Int) != (b.length : Int)) = true := by simp; omega
    rw [hd]; clear hd hl
    go_enter Try.func35, Try.ntmps35
    go_wp2_with fail
    go_ret
    exact ⟨rfl, HB0.out⟩
  have HL := Lib.hid hl
  have HE : Hid (a.take a.length = b.take a.length → decide (a = b) = true) := Lib.hid fun h => by rw [List.take_length, hl, List.take_length] at h; simp [h]
  rw [← hl] at c1 HB0 HA HBX c0 ⊢
  clear hl hn2
  go_enter Try.func35, Try.ntmps35
  go_wp2_with fail
  generalize (w.alloc (.cells #[.slice x a.length c] 28)).alloc (.cells #[.slice y a.length c'] 28) = w0 at *
  go_loopw [16] (fun i wr => ∃ k : Nat, k ≤ a.length ∧ i = .int .i64 k ∧ Hid (a.take k = b.take k) ∧ Drawn w0 wr) (fun i _ => a.length - (intOf i).toNat)
  case atStart => exact ⟨0, Nat.zero_le _, rfl, rfl, Drawn.refl _⟩
  case round =>
    obtain ⟨k, hk, rfl, HT, n, rfl⟩ := hrel
    by_cases hlk : k < a.length
    case neg =>
      obtain rfl : k = a.length := by omega
      have HR := Lib.hid (HE.out HT.out)
      go_wp2_with fail
      go_ret
      exact ⟨ret_bool HR.out.symm, rdrew HB0.out _⟩
    have hlk2 : k < b.length := by have := HL.out; omega
    obtain ⟨b1, o1, rfl, hb1, hc1⟩ := HA.out.at (sds_ne hlk)
    obtain ⟨b2, o2, rfl, hb2, hc2⟩ := HBX.out.at (sds_ne hlk2)
    have x0 := hc1 _ _ (sds_lo a k hlk); have x1 := hc1 _ _ (sds_hi a k hlk)
    have y0 := hc2 _ _ (sds_lo b k hlk2); have y1 := hc2 _ _ (sds_hi b k hlk2)
    clear hc1 hc2 HA HBX
    by_cases he : a.getD k (0, 0) = b.getD k (0, 0)
    · have HT2 := Lib.hid (take_more (0, 0) HL.out hlk HT.out he)
      rw [← he] at y0 y1
      clear HT he
      generalize a.getD k (0, 0) = s at *
      obtain ⟨s1, s2⟩ := s
      simp only at x0 x1 y0 y1
      obtain ⟨wq, hwq⟩ : ∃ z, z = w0.drewN n := ⟨_, rfl⟩
      have HWQ : Hid (Below w.heap.size w wq) := Lib.hid (by rw [hwq]; exact rdrew HB0.out n)
      have HDQ : Hid (Drawn w0 wq) := Lib.hid ⟨n, hwq⟩
      have z0 : wq.cell? ⟨w.heap.size, 0, none⟩ = some (.slice (some ⟨b1, o1, none⟩) a.length c) := by rw [hwq]; exact c0
      have z1 : wq.cell? ⟨w.heap.size + 1, 0, none⟩ = some (.slice (some ⟨b2, o2, none⟩) a.length c') := by rw [hwq]; exact c1
      have p0 : wq.cell? ⟨b1, o1 + k * 2, none⟩ = some (.int .i64 s1) := by rw [hwq]; exact x0
      have p1 : wq.cell? ⟨b1, o1 + k * 2 + 1, none⟩ = some (.int .i64 s2) := by rw [hwq]; exact x1
      have q0 : wq.cell? ⟨b2, o2 + k * 2, none⟩ = some (.int .i64 s1) := by rw [hwq]; exact y0
      have q1 : wq.cell? ⟨b2, o2 + k * 2 + 1, none⟩ = some (.int .i64 s2) := by rw [hwq]; exact y1
      rw [← hwq]
      clear hwq c0 c1 x0 x1 y0 y1
      go_wp2_with fail
      refine wp_region_G [] (fun w' => w'.cell? ⟨w.heap.size, 0, none⟩ = some (.slice (some ⟨b1, o1, none⟩) a.length c) ∧ w'.cell? ⟨w.heap.size + 1, 0, none⟩ = some (.slice (some ⟨b2, o2, none⟩) a.length c') ∧ w'.cell? ⟨b1, o1 + k * 2, none⟩ = some (.int .i64 s1) ∧ w'.cell? ⟨b1, o1 + k * 2 + 1, none⟩ = some (.int .i64 s2) ∧ w'.cell? ⟨b2, o2 + k * 2, none⟩ = some (.int .i64 s1) ∧ w'.cell? ⟨b2, o2 + k * 2 + 1, none⟩ = some (.int .i64 s2)) (by kernel_rfl) ?_ (fun hHeld => ?_)
      · exact ⟨z0, z1, p0, p1, q0, q1⟩
      refine wpG_pure (i := 0) (oi := { dst := some 19, op := Go.Op.fieldAddr 28 (Go.Operand.tmp 2) 0, type := 0, pos := "laws.go:743", after := #[], guard := none }) (v := ?vg1) rfl (by kernel_rfl) (fun _ _ _ h => h) (Or.inr hHeld) (Or.inl ⟨by rfl, ?yg1⟩) ?_
      case yg1 => (intro wS _; go_simp <;> with_reducible rfl)
      try simp only [Act.put, List.setIfInBounds_toArray, List.set_cons_zero, List.set_cons_succ]
      refine wpG_load (i := 1) (oi := { dst := some 20, op := Go.Op.load 26 (Go.Operand.tmp 19), type := 26, pos := "laws.go:743", after := #[{ on := 0, ground := Go.Ground.data }], guard := none }) (v := ?vg2) [] rfl (by kernel_rfl) (fun _ _ _ h => h) hHeld (Or.inl ⟨by rfl, ?yg2⟩) ?_
      case yg2 => (intro wS hSw; (try dsimp only at hSw); go_simp <;> with_reducible rfl)
      try simp only [Act.put, List.setIfInBounds_toArray, List.set_cons_zero, List.set_cons_succ]
      refine wpG_pure (i := 2) (oi := { dst := some 21, op := Go.Op.move (Go.Operand.tmp 5), type := 3, pos := "laws.go:743", after := #[], guard := none }) (v := ?vg3) rfl (by kernel_rfl) (fun _ _ _ h => h) (Or.inr hHeld) (Or.inl ⟨by rfl, ?yg3⟩) ?_
      case yg3 => (intro wS _; go_simp <;> with_reducible rfl)
      try simp only [Act.put, List.setIfInBounds_toArray, List.set_cons_zero, List.set_cons_succ]
      refine wpG_pure (i := 3) (oi := { dst := some 22, op := Go.Op.indexAddr 26 (Go.Operand.tmp 20) (Go.Operand.tmp 21), type := 0, pos := "laws.go:743", after := #[{ on := 1, ground := Go.Ground.data }, { on := 2, ground := Go.Ground.data }], guard := none }) (v := ?vg4) rfl (by kernel_rfl) (fun _ _ _ h => h) (Or.inr hHeld) (Or.inl ⟨by rfl, ?yg4⟩) ?_
      case yg4 => (intro wS _; go_simp <;> with_reducible rfl)
      try simp only [Act.put, List.setIfInBounds_toArray, List.set_cons_zero, List.set_cons_succ]
      refine wpG_load (i := 4) (oi := { dst := some 23, op := Go.Op.load 64 (Go.Operand.tmp 22), type := 64, pos := "laws.go:743", after := #[{ on := 3, ground := Go.Ground.data }], guard := none }) (v := ?vg5) [] rfl (by kernel_rfl) (fun _ _ _ h => h) hHeld (Or.inl ⟨by rfl, ?yg5⟩) ?_
      case yg5 => (intro wS hSw; (try dsimp only at hSw); go_simp <;> with_reducible rfl)
      try simp only [Act.put, List.setIfInBounds_toArray, List.set_cons_zero, List.set_cons_succ]
      refine wpG_pure (i := 5) (oi := { dst := some 24, op := Go.Op.fieldAddr 28 (Go.Operand.tmp 3) 0, type := 0, pos := "laws.go:743", after := #[], guard := none }) (v := ?vg6) rfl (by kernel_rfl) (fun _ _ _ h => h) (Or.inr hHeld) (Or.inl ⟨by rfl, ?yg6⟩) ?_
      case yg6 => (intro wS _; go_simp <;> with_reducible rfl)
      try simp only [Act.put, List.setIfInBounds_toArray, List.set_cons_zero, List.set_cons_succ]
      refine wpG_load (i := 6) (oi := { dst := some 25, op := Go.Op.load 26 (Go.Operand.tmp 24), type := 26, pos := "laws.go:743", after := #[{ on := 5, ground := Go.Ground.data }], guard := none }) (v := ?vg7) [] rfl (by kernel_rfl) (fun _ _ _ h => h) hHeld (Or.inl ⟨by rfl, ?yg7⟩) ?_
      case yg7 => (intro wS hSw; (try dsimp only at hSw); go_simp <;> with_reducible rfl)
      try simp only [Act.put, List.setIfInBounds_toArray, List.set_cons_zero, List.set_cons_succ]
      refine wpG_pure (i := 7) (oi := { dst := some 26, op := Go.Op.move (Go.Operand.tmp 5), type := 3, pos := "laws.go:743", after := #[], guard := none }) (v := ?vg8) rfl (by kernel_rfl) (fun _ _ _ h => h) (Or.inr hHeld) (Or.inl ⟨by rfl, ?yg8⟩) ?_
      case yg8 => (intro wS _; go_simp <;> with_reducible rfl)
      try simp only [Act.put, List.setIfInBounds_toArray, List.set_cons_zero, List.set_cons_succ]
      refine wpG_pure (i := 8) (oi := { dst := some 27, op := Go.Op.indexAddr 26 (Go.Operand.tmp 25) (Go.Operand.tmp 26), type := 0, pos := "laws.go:743", after := #[{ on := 6, ground := Go.Ground.data }, { on := 7, ground := Go.Ground.data }], guard := none }) (v := ?vg9) rfl (by kernel_rfl) (fun _ _ _ h => h) (Or.inr hHeld) (Or.inl ⟨by rfl, ?yg9⟩) ?_
      case yg9 => (intro wS _; go_simp <;> with_reducible rfl)
      try simp only [Act.put, List.setIfInBounds_toArray, List.set_cons_zero, List.set_cons_succ]
      refine wpG_load (i := 9) (oi := { dst := some 28, op := Go.Op.load 64 (Go.Operand.tmp 27), type := 64, pos := "laws.go:743", after := #[{ on := 8, ground := Go.Ground.data }], guard := none }) (v := ?vg10) [] rfl (by kernel_rfl) (fun _ _ _ h => h) hHeld (Or.inl ⟨by rfl, ?yg10⟩) ?_
      case yg10 => (intro wS hSw; (try dsimp only at hSw); go_simp <;> with_reducible rfl)
      try simp only [Act.put, List.setIfInBounds_toArray, List.set_cons_zero, List.set_cons_succ]
      refine wpG_pure (i := 10) (oi := { dst := some 29, op := Go.Op.binOp Go.BinOp.neq 64 (Go.Operand.tmp 23) (Go.Operand.tmp 28) 64, type := 4, pos := "laws.go:743", after := #[{ on := 4, ground := Go.Ground.data }, { on := 9, ground := Go.Ground.data }], guard := none }) (v := ?vg11) rfl (by kernel_rfl) (fun _ _ _ h => h) (Or.inr hHeld) (Or.inl ⟨by rfl, ?yg11⟩) ?_
      case yg11 => (intro wS _; go_simp <;> with_reducible rfl)
      try simp only [Act.put, List.setIfInBounds_toArray, List.set_cons_zero, List.set_cons_succ]
      refine wpG_done (by kernel_rfl) ?_
      skip
      go_wp2_with fail
      go_roundw
      case rel => exact ⟨k + 1, by omega, by go_num, HT2.out, HDQ.out.trans ⟨1, rfl⟩⟩
      case measure => (simp [intOf]; try omega)
    · have HN : Hid (decide (a = b) = false) := Lib.hid (by simp; exact take_less (0, 0) he)
      have hne : ¬ ((a.getD k (0, 0)).1 = (b.getD k (0, 0)).1 ∧ (a.getD k (0, 0)).2 = (b.getD k (0, 0)).2) := fun h => he (Prod.ext h.1 h.2)
      clear HT he
      generalize a.getD k (0, 0) = s at *
      generalize b.getD k (0, 0) = t at *
      obtain ⟨s1, s2⟩ := s
      obtain ⟨t1, t2⟩ := t
      simp only at x0 x1 y0 y1 hne
      by_cases hs1 : s1 = t1
      · have hs2 : ¬ s2 = t2 := fun h => hne ⟨hs1, h⟩
        clear hne
        obtain ⟨wq, hwq⟩ : ∃ z, z = w0.drewN n := ⟨_, rfl⟩
        have HWQ : Hid (Below w.heap.size w wq) := Lib.hid (by rw [hwq]; exact rdrew HB0.out n)
        have HDQ : Hid (Drawn w0 wq) := Lib.hid ⟨n, hwq⟩
        have z0 : wq.cell? ⟨w.heap.size, 0, none⟩ = some (.slice (some ⟨b1, o1, none⟩) a.length c) := by rw [hwq]; exact c0
        have z1 : wq.cell? ⟨w.heap.size + 1, 0, none⟩ = some (.slice (some ⟨b2, o2, none⟩) a.length c') := by rw [hwq]; exact c1
        have p0 : wq.cell? ⟨b1, o1 + k * 2, none⟩ = some (.int .i64 s1) := by rw [hwq]; exact x0
        have p1 : wq.cell? ⟨b1, o1 + k * 2 + 1, none⟩ = some (.int .i64 s2) := by rw [hwq]; exact x1
        have q0 : wq.cell? ⟨b2, o2 + k * 2, none⟩ = some (.int .i64 t1) := by rw [hwq]; exact y0
        have q1 : wq.cell? ⟨b2, o2 + k * 2 + 1, none⟩ = some (.int .i64 t2) := by rw [hwq]; exact y1
        rw [← hwq]
        clear hwq c0 c1 x0 x1 y0 y1
        go_wp2_with fail
        refine wp_region_G [] (fun w' => w'.cell? ⟨w.heap.size, 0, none⟩ = some (.slice (some ⟨b1, o1, none⟩) a.length c) ∧ w'.cell? ⟨w.heap.size + 1, 0, none⟩ = some (.slice (some ⟨b2, o2, none⟩) a.length c') ∧ w'.cell? ⟨b1, o1 + k * 2, none⟩ = some (.int .i64 s1) ∧ w'.cell? ⟨b1, o1 + k * 2 + 1, none⟩ = some (.int .i64 s2) ∧ w'.cell? ⟨b2, o2 + k * 2, none⟩ = some (.int .i64 t1) ∧ w'.cell? ⟨b2, o2 + k * 2 + 1, none⟩ = some (.int .i64 t2)) (by kernel_rfl) ?_ (fun hHeld => ?_)
        · exact ⟨z0, z1, p0, p1, q0, q1⟩
        refine wpG_pure (i := 0) (oi := { dst := some 19, op := Go.Op.fieldAddr 28 (Go.Operand.tmp 2) 0, type := 0, pos := "laws.go:743", after := #[], guard := none }) (v := ?vg12) rfl (by kernel_rfl) (fun _ _ _ h => h) (Or.inr hHeld) (Or.inl ⟨by rfl, ?yg12⟩) ?_
        case yg12 => (intro wS _; go_simp <;> with_reducible rfl)
        try simp only [Act.put, List.setIfInBounds_toArray, List.set_cons_zero, List.set_cons_succ]
        refine wpG_load (i := 1) (oi := { dst := some 20, op := Go.Op.load 26 (Go.Operand.tmp 19), type := 26, pos := "laws.go:743", after := #[{ on := 0, ground := Go.Ground.data }], guard := none }) (v := ?vg13) [] rfl (by kernel_rfl) (fun _ _ _ h => h) hHeld (Or.inl ⟨by rfl, ?yg13⟩) ?_
        case yg13 => (intro wS hSw; (try dsimp only at hSw); go_simp <;> with_reducible rfl)
        try simp only [Act.put, List.setIfInBounds_toArray, List.set_cons_zero, List.set_cons_succ]
        refine wpG_pure (i := 2) (oi := { dst := some 21, op := Go.Op.move (Go.Operand.tmp 5), type := 3, pos := "laws.go:743", after := #[], guard := none }) (v := ?vg14) rfl (by kernel_rfl) (fun _ _ _ h => h) (Or.inr hHeld) (Or.inl ⟨by rfl, ?yg14⟩) ?_
        case yg14 => (intro wS _; go_simp <;> with_reducible rfl)
        try simp only [Act.put, List.setIfInBounds_toArray, List.set_cons_zero, List.set_cons_succ]
        refine wpG_pure (i := 3) (oi := { dst := some 22, op := Go.Op.indexAddr 26 (Go.Operand.tmp 20) (Go.Operand.tmp 21), type := 0, pos := "laws.go:743", after := #[{ on := 1, ground := Go.Ground.data }, { on := 2, ground := Go.Ground.data }], guard := none }) (v := ?vg15) rfl (by kernel_rfl) (fun _ _ _ h => h) (Or.inr hHeld) (Or.inl ⟨by rfl, ?yg15⟩) ?_
        case yg15 => (intro wS _; go_simp <;> with_reducible rfl)
        try simp only [Act.put, List.setIfInBounds_toArray, List.set_cons_zero, List.set_cons_succ]
        refine wpG_load (i := 4) (oi := { dst := some 23, op := Go.Op.load 64 (Go.Operand.tmp 22), type := 64, pos := "laws.go:743", after := #[{ on := 3, ground := Go.Ground.data }], guard := none }) (v := ?vg16) [] rfl (by kernel_rfl) (fun _ _ _ h => h) hHeld (Or.inl ⟨by rfl, ?yg16⟩) ?_
        case yg16 => (intro wS hSw; (try dsimp only at hSw); go_simp <;> with_reducible rfl)
        try simp only [Act.put, List.setIfInBounds_toArray, List.set_cons_zero, List.set_cons_succ]
        refine wpG_pure (i := 5) (oi := { dst := some 24, op := Go.Op.fieldAddr 28 (Go.Operand.tmp 3) 0, type := 0, pos := "laws.go:743", after := #[], guard := none }) (v := ?vg17) rfl (by kernel_rfl) (fun _ _ _ h => h) (Or.inr hHeld) (Or.inl ⟨by rfl, ?yg17⟩) ?_
        case yg17 => (intro wS _; go_simp <;> with_reducible rfl)
        try simp only [Act.put, List.setIfInBounds_toArray, List.set_cons_zero, List.set_cons_succ]
        refine wpG_load (i := 6) (oi := { dst := some 25, op := Go.Op.load 26 (Go.Operand.tmp 24), type := 26, pos := "laws.go:743", after := #[{ on := 5, ground := Go.Ground.data }], guard := none }) (v := ?vg18) [] rfl (by kernel_rfl) (fun _ _ _ h => h) hHeld (Or.inl ⟨by rfl, ?yg18⟩) ?_
        case yg18 => (intro wS hSw; (try dsimp only at hSw); go_simp <;> with_reducible rfl)
        try simp only [Act.put, List.setIfInBounds_toArray, List.set_cons_zero, List.set_cons_succ]
        refine wpG_pure (i := 7) (oi := { dst := some 26, op := Go.Op.move (Go.Operand.tmp 5), type := 3, pos := "laws.go:743", after := #[], guard := none }) (v := ?vg19) rfl (by kernel_rfl) (fun _ _ _ h => h) (Or.inr hHeld) (Or.inl ⟨by rfl, ?yg19⟩) ?_
        case yg19 => (intro wS _; go_simp <;> with_reducible rfl)
        try simp only [Act.put, List.setIfInBounds_toArray, List.set_cons_zero, List.set_cons_succ]
        refine wpG_pure (i := 8) (oi := { dst := some 27, op := Go.Op.indexAddr 26 (Go.Operand.tmp 25) (Go.Operand.tmp 26), type := 0, pos := "laws.go:743", after := #[{ on := 6, ground := Go.Ground.data }, { on := 7, ground := Go.Ground.data }], guard := none }) (v := ?vg20) rfl (by kernel_rfl) (fun _ _ _ h => h) (Or.inr hHeld) (Or.inl ⟨by rfl, ?yg20⟩) ?_
        case yg20 => (intro wS _; go_simp <;> with_reducible rfl)
        try simp only [Act.put, List.setIfInBounds_toArray, List.set_cons_zero, List.set_cons_succ]
        refine wpG_load (i := 9) (oi := { dst := some 28, op := Go.Op.load 64 (Go.Operand.tmp 27), type := 64, pos := "laws.go:743", after := #[{ on := 8, ground := Go.Ground.data }], guard := none }) (v := ?vg21) [] rfl (by kernel_rfl) (fun _ _ _ h => h) hHeld (Or.inl ⟨by rfl, ?yg21⟩) ?_
        case yg21 => (intro wS hSw; (try dsimp only at hSw); go_simp <;> with_reducible rfl)
        try simp only [Act.put, List.setIfInBounds_toArray, List.set_cons_zero, List.set_cons_succ]
        refine wpG_pure (i := 10) (oi := { dst := some 29, op := Go.Op.binOp Go.BinOp.neq 64 (Go.Operand.tmp 23) (Go.Operand.tmp 28) 64, type := 4, pos := "laws.go:743", after := #[{ on := 4, ground := Go.Ground.data }, { on := 9, ground := Go.Ground.data }], guard := none }) (v := ?vg22) rfl (by kernel_rfl) (fun _ _ _ h => h) (Or.inr hHeld) (Or.inl ⟨by rfl, ?yg22⟩) ?_
        case yg22 => (intro wS _; go_simp <;> with_reducible rfl)
        try simp only [Act.put, List.setIfInBounds_toArray, List.set_cons_zero, List.set_cons_succ]
        refine wpG_done (by kernel_rfl) ?_
        skip
        go_wp2_with fail
        go_ret
        exact ⟨ret_bool HN.out.symm, rdrew HWQ.out _⟩
      · clear hne
        obtain ⟨wq, hwq⟩ : ∃ z, z = w0.drewN n := ⟨_, rfl⟩
        have HWQ : Hid (Below w.heap.size w wq) := Lib.hid (by rw [hwq]; exact rdrew HB0.out n)
        have HDQ : Hid (Drawn w0 wq) := Lib.hid ⟨n, hwq⟩
        have z0 : wq.cell? ⟨w.heap.size, 0, none⟩ = some (.slice (some ⟨b1, o1, none⟩) a.length c) := by rw [hwq]; exact c0
        have z1 : wq.cell? ⟨w.heap.size + 1, 0, none⟩ = some (.slice (some ⟨b2, o2, none⟩) a.length c') := by rw [hwq]; exact c1
        have p0 : wq.cell? ⟨b1, o1 + k * 2, none⟩ = some (.int .i64 s1) := by rw [hwq]; exact x0
        have p1 : wq.cell? ⟨b1, o1 + k * 2 + 1, none⟩ = some (.int .i64 s2) := by rw [hwq]; exact x1
        have q0 : wq.cell? ⟨b2, o2 + k * 2, none⟩ = some (.int .i64 t1) := by rw [hwq]; exact y0
        have q1 : wq.cell? ⟨b2, o2 + k * 2 + 1, none⟩ = some (.int .i64 t2) := by rw [hwq]; exact y1
        rw [← hwq]
        clear hwq c0 c1 x0 x1 y0 y1
        go_wp2_with fail
        refine wp_region_G [] (fun w' => w'.cell? ⟨w.heap.size, 0, none⟩ = some (.slice (some ⟨b1, o1, none⟩) a.length c) ∧ w'.cell? ⟨w.heap.size + 1, 0, none⟩ = some (.slice (some ⟨b2, o2, none⟩) a.length c') ∧ w'.cell? ⟨b1, o1 + k * 2, none⟩ = some (.int .i64 s1) ∧ w'.cell? ⟨b1, o1 + k * 2 + 1, none⟩ = some (.int .i64 s2) ∧ w'.cell? ⟨b2, o2 + k * 2, none⟩ = some (.int .i64 t1) ∧ w'.cell? ⟨b2, o2 + k * 2 + 1, none⟩ = some (.int .i64 t2)) (by kernel_rfl) ?_ (fun hHeld => ?_)
        · exact ⟨z0, z1, p0, p1, q0, q1⟩
        refine wpG_pure (i := 0) (oi := { dst := some 19, op := Go.Op.fieldAddr 28 (Go.Operand.tmp 2) 0, type := 0, pos := "laws.go:743", after := #[], guard := none }) (v := ?vg23) rfl (by kernel_rfl) (fun _ _ _ h => h) (Or.inr hHeld) (Or.inl ⟨by rfl, ?yg23⟩) ?_
        case yg23 => (intro wS _; go_simp <;> with_reducible rfl)
        try simp only [Act.put, List.setIfInBounds_toArray, List.set_cons_zero, List.set_cons_succ]
        refine wpG_load (i := 1) (oi := { dst := some 20, op := Go.Op.load 26 (Go.Operand.tmp 19), type := 26, pos := "laws.go:743", after := #[{ on := 0, ground := Go.Ground.data }], guard := none }) (v := ?vg24) [] rfl (by kernel_rfl) (fun _ _ _ h => h) hHeld (Or.inl ⟨by rfl, ?yg24⟩) ?_
        case yg24 => (intro wS hSw; (try dsimp only at hSw); go_simp <;> with_reducible rfl)
        try simp only [Act.put, List.setIfInBounds_toArray, List.set_cons_zero, List.set_cons_succ]
        refine wpG_pure (i := 2) (oi := { dst := some 21, op := Go.Op.move (Go.Operand.tmp 5), type := 3, pos := "laws.go:743", after := #[], guard := none }) (v := ?vg25) rfl (by kernel_rfl) (fun _ _ _ h => h) (Or.inr hHeld) (Or.inl ⟨by rfl, ?yg25⟩) ?_
        case yg25 => (intro wS _; go_simp <;> with_reducible rfl)
        try simp only [Act.put, List.setIfInBounds_toArray, List.set_cons_zero, List.set_cons_succ]
        refine wpG_pure (i := 3) (oi := { dst := some 22, op := Go.Op.indexAddr 26 (Go.Operand.tmp 20) (Go.Operand.tmp 21), type := 0, pos := "laws.go:743", after := #[{ on := 1, ground := Go.Ground.data }, { on := 2, ground := Go.Ground.data }], guard := none }) (v := ?vg26) rfl (by kernel_rfl) (fun _ _ _ h => h) (Or.inr hHeld) (Or.inl ⟨by rfl, ?yg26⟩) ?_
        case yg26 => (intro wS _; go_simp <;> with_reducible rfl)
        try simp only [Act.put, List.setIfInBounds_toArray, List.set_cons_zero, List.set_cons_succ]
        refine wpG_load (i := 4) (oi := { dst := some 23, op := Go.Op.load 64 (Go.Operand.tmp 22), type := 64, pos := "laws.go:743", after := #[{ on := 3, ground := Go.Ground.data }], guard := none }) (v := ?vg27) [] rfl (by kernel_rfl) (fun _ _ _ h => h) hHeld (Or.inl ⟨by rfl, ?yg27⟩) ?_
        case yg27 => (intro wS hSw; (try dsimp only at hSw); go_simp <;> with_reducible rfl)
        try simp only [Act.put, List.setIfInBounds_toArray, List.set_cons_zero, List.set_cons_succ]
        refine wpG_pure (i := 5) (oi := { dst := some 24, op := Go.Op.fieldAddr 28 (Go.Operand.tmp 3) 0, type := 0, pos := "laws.go:743", after := #[], guard := none }) (v := ?vg28) rfl (by kernel_rfl) (fun _ _ _ h => h) (Or.inr hHeld) (Or.inl ⟨by rfl, ?yg28⟩) ?_
        case yg28 => (intro wS _; go_simp <;> with_reducible rfl)
        try simp only [Act.put, List.setIfInBounds_toArray, List.set_cons_zero, List.set_cons_succ]
        refine wpG_load (i := 6) (oi := { dst := some 25, op := Go.Op.load 26 (Go.Operand.tmp 24), type := 26, pos := "laws.go:743", after := #[{ on := 5, ground := Go.Ground.data }], guard := none }) (v := ?vg29) [] rfl (by kernel_rfl) (fun _ _ _ h => h) hHeld (Or.inl ⟨by rfl, ?yg29⟩) ?_
        case yg29 => (intro wS hSw; (try dsimp only at hSw); go_simp <;> with_reducible rfl)
        try simp only [Act.put, List.setIfInBounds_toArray, List.set_cons_zero, List.set_cons_succ]
        refine wpG_pure (i := 7) (oi := { dst := some 26, op := Go.Op.move (Go.Operand.tmp 5), type := 3, pos := "laws.go:743", after := #[], guard := none }) (v := ?vg30) rfl (by kernel_rfl) (fun _ _ _ h => h) (Or.inr hHeld) (Or.inl ⟨by rfl, ?yg30⟩) ?_
        case yg30 => (intro wS _; go_simp <;> with_reducible rfl)
        try simp only [Act.put, List.setIfInBounds_toArray, List.set_cons_zero, List.set_cons_succ]
        refine wpG_pure (i := 8) (oi := { dst := some 27, op := Go.Op.indexAddr 26 (Go.Operand.tmp 25) (Go.Operand.tmp 26), type := 0, pos := "laws.go:743", after := #[{ on := 6, ground := Go.Ground.data }, { on := 7, ground := Go.Ground.data }], guard := none }) (v := ?vg31) rfl (by kernel_rfl) (fun _ _ _ h => h) (Or.inr hHeld) (Or.inl ⟨by rfl, ?yg31⟩) ?_
        case yg31 => (intro wS _; go_simp <;> with_reducible rfl)
        try simp only [Act.put, List.setIfInBounds_toArray, List.set_cons_zero, List.set_cons_succ]
        refine wpG_load (i := 9) (oi := { dst := some 28, op := Go.Op.load 64 (Go.Operand.tmp 27), type := 64, pos := "laws.go:743", after := #[{ on := 8, ground := Go.Ground.data }], guard := none }) (v := ?vg32) [] rfl (by kernel_rfl) (fun _ _ _ h => h) hHeld (Or.inl ⟨by rfl, ?yg32⟩) ?_
        case yg32 => (intro wS hSw; (try dsimp only at hSw); go_simp <;> with_reducible rfl)
        try simp only [Act.put, List.setIfInBounds_toArray, List.set_cons_zero, List.set_cons_succ]
        refine wpG_pure (i := 10) (oi := { dst := some 29, op := Go.Op.binOp Go.BinOp.neq 64 (Go.Operand.tmp 23) (Go.Operand.tmp 28) 64, type := 4, pos := "laws.go:743", after := #[{ on := 4, ground := Go.Ground.data }, { on := 9, ground := Go.Ground.data }], guard := none }) (v := ?vg33) rfl (by kernel_rfl) (fun _ _ _ h => h) (Or.inr hHeld) (Or.inl ⟨by rfl, ?yg33⟩) ?_
        case yg33 => (intro wS _; go_simp <;> with_reducible rfl)
        try simp only [Act.put, List.setIfInBounds_toArray, List.set_cons_zero, List.set_cons_succ]
        refine wpG_done (by kernel_rfl) ?_
        skip
        go_wp2_with fail
        go_ret
        exact ⟨ret_bool HN.out.symm, rdrew HWQ.out _⟩
theorem Try.infoIntD : (Try.prog.info? 3).map (fun i => (i.zero, i.size, i.bytes)) = some (some (.int .i64 0), 1, 8) := by kernel_rfl
set_option maxHeartbeats 1000000 in
theorem point_of (w : World) (a : Option Addr) (c : Nat) (cs : List UInt8) (hl : cs.length ≤ c) (hc : c ≤ 9223372036854775807) (hr : Rw w a (byts cs)) :
    Calls Try.prog 38 #[.slice a cs.length c] w fun e w' => ∃ (g cp : Nat) (p : List Int), e = .returned (.slice (some ⟨g, 0, none⟩) 3 cp) ∧ p.length = 3 ∧ (∀ x ∈ p, 0 ≤ x ∧ x ≤ 11) ∧ w'.ownsRow w.heap.size 3 1 (.slice (some ⟨g, 0, none⟩) 3 cp) 3 (ints p) ∧ Below w.heap.size w w' := by
  obtain ⟨i0, hi, hz0, hz1, hz2⟩ := info_parts Try.infoIntD
  have HR := Lib.hid hr
  clear hr
  go_enter Try.func38, Try.ntmps38
  go_wp2_with fail
  go_loopw [3, 4] (fun ov iv wr => ∃ (k : Nat) (v : Value) (p : List Int), k ≤ 3 ∧ iv = .int .i64 (k : Int) ∧ ov = v ∧ Hid (p.length = k ∧ ∀ x ∈ p, 0 ≤ x ∧ x ≤ 11) ∧ Hid (wr.ownsRow w.heap.size 3 1 v k (ints p)) ∧ Hid (Below w.heap.size w wr)) (fun _ iv _ => 3 - (intOf iv).toNat)
  case atStart => exact ⟨0, _, [], by omega, rfl, rfl, Lib.hid ⟨rfl, by simp⟩, Lib.hid (World.ownsRow_nil _ _ _ _), Lib.hid (Below.refl _ _)⟩
  case round =>
    obtain ⟨w1, rfl⟩ : ∃ z : World, z = wr := ⟨_, rfl⟩
    obtain ⟨k, v, p, hk, rfl, rfl, HP, HO, HB⟩ := hrel
    by_cases hk3 : k < 3
    case neg =>
      obtain rfl : k = 3 := by omega
      obtain ⟨g, cp, rfl, hg1, hg2⟩ := HO.out.form (by omega)
      go_wp2_with fail
      go_ret
      exact ⟨g, cp, p, rfl, HP.out.1, HP.out.2, HO.out, HB.out⟩
    have HNX : Hid (∀ n : Int, 0 ≤ n → n ≤ 11 → (p ++ [n]).length = k + 1 ∧ ∀ x ∈ p ++ [n], 0 ≤ x ∧ x ≤ 11) := Lib.hid fun n h0 h1 => by
      refine ⟨by rw [List.length_append, HP.out.1]; rfl, fun x hx => ?_⟩
      rcases List.mem_append.1 hx with hx | hx
      · exact HP.out.2 x hx
      · simp at hx; subst hx; exact ⟨h0, h1⟩
    clear HP
    by_cases hkl : k < cs.length
    · obtain ⟨b, off, rfl, hb, hcell⟩ := HR.out.at (fun e => by have := congrArg List.length e; rw [byts_length] at this; rw [this] at hkl; simp at hkl)
      have hcc := below_cellk HB.out (hcell k _ (byts_at cs k hkl)) hb
      clear hcell HR
      generalize cs.getD k 0 = by0 at *
      have hm0 : (0 : Int) ≤ (by0.toNat : Int) % 12 := Int.emod_nonneg _ (by decide)
      have hm1 : (by0.toNat : Int) % 12 ≤ 11 := by have := Int.emod_lt_of_pos (by0.toNat : Int) (show (0 : Int) < 12 by decide); omega
      have hby := byte_le by0
      have HN2 := Lib.hid (HNX.out _ hm0 hm1)
      have e1 : (by0.toNat : Int).tmod 12 = (by0.toNat : Int) % 12 := by rw [Int.tmod_eq_emod_of_nonneg (by omega)]
      have HW1 : Hid (IntKind.i64.wrap (by0.toNat : Int) = (by0.toNat : Int)) := Lib.hid (IntWalk.i64_in _ (by omega))
      have HIN : Hid (ints (p ++ [(by0.toNat : Int) % 12]) = ints p ++ [.int .i64 ((by0.toNat : Int) % 12)]) := Lib.hid (by simp [ints])
      clear HNX
      go_wp2_with (at_builtin; refine wpList_append_own _ rfl _ _ 36 rfl _ 3 i0 (.int .i64 0) 1 8 Try.underlying36 hi hz0 hz1 hz2 rfl (by decide) _ k _ rfl (HO.out.alloc _) _ 1 1 [.int .i64 ((by0.toNat : Int) % 12)] rfl rfl (news_one _ _ _) (by simp [Value.oneCell']) (by unfold maxLen; omega) (by omega) (Nat.le_trans HB.out.size (by simp)) ?_)
      intro v' w2 hown hgrow hnil
      have HBG := Lib.hid (Below.grown (HB.out.alloc HB.out.size _) hgrow (Nat.le_trans HB.out.size (by simp)) (fun j hj => (HO.out.lt j hj).1))
      have HOW := Lib.hid hown; clear hown hgrow hnil
      go_wp2_with fail
      go_roundw
      case rel => exact ⟨k + 1, _, p ++ [(by0.toNat : Int) % 12], by omega, by go_num, rfl, HN2, Lib.hid (by rw [HIN.out]; exact HOW.out), HBG⟩
      case measure => (simp [intOf]; try omega)
    · have HN2 := Lib.hid (HNX.out (k : Int) (by omega) (by omega))
      have HIN : Hid (ints (p ++ [(k : Int)]) = ints p ++ [.int .i64 (k : Int)]) := Lib.hid (by simp [ints])
      clear HNX HR
      go_wp2_with (at_builtin; refine wpList_append_own _ rfl _ _ 36 rfl _ 3 i0 (.int .i64 0) 1 8 Try.underlying36 hi hz0 hz1 hz2 rfl (by decide) _ k _ rfl (HO.out.alloc _) _ 1 1 [.int .i64 (k : Int)] rfl rfl (news_one _ _ _) (by simp [Value.oneCell']) (by unfold maxLen; omega) (by omega) (Nat.le_trans HB.out.size (by simp)) ?_)
      intro v' w2 hown hgrow hnil
      have HBG := Lib.hid (Below.grown (HB.out.alloc HB.out.size _) hgrow (Nat.le_trans HB.out.size (by simp)) (fun j hj => (HO.out.lt j hj).1))
      have HOW := Lib.hid hown; clear hown hgrow hnil
      go_wp2_with fail
      go_roundw
      case rel => exact ⟨k + 1, _, p ++ [(k : Int)], by omega, by go_num, rfl, HN2, Lib.hid (by rw [HIN.out]; exact HOW.out), HBG⟩
      case measure => (simp [intOf]; try omega)
end Go.Proofs.Ythlajmncpejhmaa
