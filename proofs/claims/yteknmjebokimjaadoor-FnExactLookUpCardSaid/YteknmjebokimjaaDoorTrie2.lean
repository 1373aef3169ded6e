/- The contract of the program's nodeOK. -/
import Derived.Test.YteknmjebokimjaaDoorTrie
namespace Go.Proofs.YteknmjebokimjaaDoor
set_option linter.unusedVariables false
open Go.ChangeShapes Go.WideShapes Go.ChangeAt Go.RowKit
set_option maxRecDepth 100000

theorem who_next {l : List Int} {i : Nat} (h : (List.range i).all (whoAt l) = true) (hp : whoAt l i = true) : (List.range (i + 1)).all (whoAt l) = true := range_all_next h hp
theorem whos_no {l : List Int} {i : Nat} (hi : i < l.length) (hp : whoAt l i = false) : whosB l = false := range_all_no hi hp
theorem headB_yes {t : List Nd} {k : Nat} (h : headB t k = true) : upB t k = true ∧ (nd t (nd t k).2.1.toNat).1 ≠ more ∧ lvlOK (nd t k).1 = true ∧ kidR (t.take k) (nd t k).2.1 (nd t k).1 < 0 ∧ depR t k k ≤ 6 := by
  unfold headB at h; simpa using h
theorem nodeB_pos {t : List Nd} {k : Nat} (h0 : 0 < k) : nodeB t k = (whosB (nd t k).2.2 && (headB t k && tailB t k)) := by
  unfold nodeB; rw [decide_eq_false (by omega : ¬ k = 0), Bool.false_or]
theorem nodeB_head {t : List Nd} {k : Nat} (h0 : 0 < k) (h : headB t k = false) : nodeB t k = false := by rw [nodeB_pos h0, h]; simp
theorem nodeB_whos {t : List Nd} {k : Nat} (h : whosB (nd t k).2.2 = false) : nodeB t k = false := by unfold nodeB; rw [h]; simp
theorem above3 {w : World} {o1 o2 : Obj} {w' : World} (h : Below (w.heap.size + 2) ((w.alloc o1).alloc o2) w') : Below w.heap.size w w' :=
  ((((Below.refl _ _).alloc (Nat.le_refl _) _).alloc (by simp) _ : Below w.heap.size w ((w.alloc o1).alloc o2))).trans (h.mono (by omega))

theorem above3' {w wb w3 : World} (h : Below w.heap.size w wb) (h3 : Below (w.heap.size + 2) wb w3) : Below w.heap.size w w3 := h.trans (h3.mono (by omega))

set_option maxHeartbeats 2000000 in
theorem impl_nodeOK (t : List Nd) (a : Option Addr) (n cap : Nat) (k gd cd : Nat) (w : World) (h : kTrieNodeS.rd w.heap.size w [.slice a n cap] t) (hl : t.length ≤ 181) (hcd : t.length ≤ cd) (hcd2 : cd ≤ 9223372036854775807)
    (h0 : 0 < k) (hk : k < t.length) (hroot : (nd t 0).2.1 = -1) (hU : Ups t k) (hgd : gd < w.heap.size) (hd : ∀ j, j < k → w.cell? ⟨gd, j, none⟩ = some (.int .i64 ((depR t j j : Nat) : Int))) (hdep : ∀ j, j < k → depR t j j ≤ 6) :
    Calls Tryd.prog 83 #[.slice a n cap, .int .i64 (k : Int), .slice (some ⟨gd, 0, none⟩) t.length cd] w fun e w' => e = .returned (.bool (nodeB t k)) ∧ Below w.heap.size w w' := by
  have hln := (sl_len h).2
  obtain rfl : n = t.length := (sl_len h).1
  have H := Lib.hid h
  obtain ⟨x, b, off, aw, cw, hx, rfl, hbl, e0, e1, e2, hs1, hwf, hrw⟩ := nd_cells h hk
  have hnd := nd_at hx
  have HNB := Lib.hid (nodeB_pos (t := t) h0)
  have HNH := Lib.hid (nodeB_head (t := t) h0)
  have HNW := Lib.hid (nodeB_whos (t := t) (k := k))
  have HHD : Hid (headB t k = (upB t k && (!decide ((nd t x.2.1.toNat).1 = more) && (lvlOK x.1 && (decide (kidR (t.take k) x.2.1 x.1 < 0) && decide (depR t k k ≤ 6)))))) := Lib.hid (by unfold headB; rw [hnd])
  have HTL : Hid (tailB t k = (decide (0 < x.2.2.length) || t.any (fun y => decide (y.2.1 = (k : Int))))) := Lib.hid (by unfold tailB; rw [hnd])
  have hup : upB t k = inB x.2.1 0 ((k : Int) - 1) := by unfold upB; rw [hnd]; unfold inB; by_cases h : x.2.1 < (k : Int) <;> simp [h] <;> omega
  have HFX : Hid (upB t k = true → (fidx (kidP x.2.1 x.1) t = (k : Int) ↔ kidR (t.take k) x.2.1 x.1 < 0)) := Lib.hid fun hu => by
    have h2 := upB_yes hu
    have := fidx_kid hroot h0 hk h2.1
    rw [hnd] at this
    exact this
  have HDS : Hid (upB t k = true → depR t k k = depR t x.2.1.toNat x.2.1.toNat + 1) := Lib.hid fun hu => by
    have h2 := upB_yes hu
    have := dep_step (t := t) (k := k) (fun j h1 h3 => by
      rcases Nat.lt_or_ge j k with h4 | h4
      · exact hU j h1 h4
      · obtain rfl : j = k := by omega
        exact h2) h0
    rw [hnd] at this
    exact this
  have HW := Lib.hid (fun wx => within_any x.2.1 0 ((k : Int) - 1) wx)
  have HUP := Lib.hid hup
  rw [hnd] at HNB HNW
  unfold maxLen at hs1
  have HLV := Lib.hid (fun wx => impl_levelOK x.1 wx hs1)
  have HWI := Lib.hid (fun (wx : World) (v : Int) => within_any v 0 100 wx)
  have HHX := Lib.hid hx; have HRW := Lib.hid hrw
  have HD := Lib.hid hd; have HDP := Lib.hid hdep
  have HKD := Lib.hid (fun (wx : World) (hb : Below w.heap.size w wx) => impl_kid t _ _ _ x.2.1 x.1 wx (kTrieNodeS_ok.later h hb) (by unfold maxLen; exact hs1))
  have HNK := Lib.hid (fun (wx : World) (hb : Below w.heap.size w wx) (B1 : Nat) (h1 : wx.cell? ⟨B1, 0, none⟩ = some (.int .i64 (k : Int))) => has_nok (w := wx) (.pointer (some ⟨B1, 0, none⟩)) (fun y => decide (y.2.1 = (k : Int))) (kTrieNodeS_ok.later h hb) (fun wy x v hby _ hx => clo_nok (k : Int) x v B1 wy hx (below_later hby h1)))
  have HB0 : Hid (Below (w.heap.size + 2) ((w.alloc (.cells #[.int .i64 (k : Int)] 3)).alloc (.cells #[.string x.1, .int .i64 x.2.1, .slice aw x.2.2.length cw] 58)) ((w.alloc (.cells #[.int .i64 (k : Int)] 3)).alloc (.cells #[.string x.1, .int .i64 x.2.1, .slice aw x.2.2.length cw] 58))) := Lib.hid (Below.refl _ _)
  have f0 : ((w.alloc (.cells #[.int .i64 (k : Int)] 3)).alloc (.cells #[.string x.1, .int .i64 x.2.1, .slice aw x.2.2.length cw] 58)).cell? ⟨w.heap.size, 0, none⟩ = some (.int .i64 (k : Int)) := box2_a HB0.out 0
  have g0 : ((w.alloc (.cells #[.int .i64 (k : Int)] 3)).alloc (.cells #[.string x.1, .int .i64 x.2.1, .slice aw x.2.2.length cw] 58)).cell? ⟨w.heap.size + 1, 0, none⟩ = some (.string x.1) := box2_b HB0.out 0
  have g1 : ((w.alloc (.cells #[.int .i64 (k : Int)] 3)).alloc (.cells #[.string x.1, .int .i64 x.2.1, .slice aw x.2.2.length cw] 58)).cell? ⟨w.heap.size + 1, 1, none⟩ = some (.int .i64 x.2.1) := box2_b HB0.out 1
  have g2 : ((w.alloc (.cells #[.int .i64 (k : Int)] 3)).alloc (.cells #[.string x.1, .int .i64 x.2.1, .slice aw x.2.2.length cw] 58)).cell? ⟨w.heap.size + 1, 2, none⟩ = some (.slice aw x.2.2.length cw) := box2_b HB0.out 2
  have hsz : w.heap.size + 2 ≤ ((w.alloc (.cells #[.int .i64 (k : Int)] 3)).alloc (.cells #[.string x.1, .int .i64 x.2.1, .slice aw x.2.2.length cw] 58)).heap.size := by simp
  have HBA := Lib.hid (above3 HB0.out)
  clear hx hup hroot hU hd hdep hrw hnd h
  have hw1 : IntKind.i64.wrap ((k : Int) - 1) = (k : Int) - 1 := IntWalk.i64_in _ (by omega)
  cases hu : upB t k with
  | false =>
    have HN := Lib.hid (HNH.out (by rw [HHD.out, hu]; rfl))
    rw [hu] at HUP
    clear hu
    go_enter Tryd.func83, Tryd.ntmps83
    go_wp2_with fail
    obtain ⟨wb, hwb⟩ : ∃ z : World, z = ((w.alloc (.cells #[.int .i64 (k : Int)] 3)).alloc (.cells #[.string x.1, .int .i64 x.2.1, .slice aw x.2.2.length cw] 58)) := ⟨_, rfl⟩
    rw [← hwb] at f0 g0 g1 g2 hsz HBA HB0 ⊢
    clear hwb
    have HBD : Hid (Below w.heap.size w wb.drew) := Lib.hid HBA.out.drew
    have HBD2 : Hid (Below (w.heap.size + 2) wb wb.drew) := Lib.hid ((Below.refl _ _).drew)
    have HFB : Hid (∀ w', Below (w.heap.size + 2) wb w' → w'.cell? ⟨w.heap.size, 0, none⟩ = some (.int .i64 (k : Int)) ∧ w'.cell? ⟨w.heap.size + 1, 0, none⟩ = some (.string x.1) ∧ w'.cell? ⟨w.heap.size + 1, 1, none⟩ = some (.int .i64 x.2.1)) := Lib.hid fun w' hb => ⟨below_cellk hb f0 (by omega), below_cellk hb g0 (by omega), below_cellk hb g1 (by omega)⟩
    refine wp_region_G [4] (fun w' => w'.cell? ⟨w.heap.size, 0, none⟩ = some (.int .i64 (k : Int)) ∧ w'.cell? ⟨w.heap.size + 1, 0, none⟩ = some (.string x.1) ∧ w'.cell? ⟨w.heap.size + 1, 1, none⟩ = some (.int .i64 x.2.1)) (by kernel_rfl) ?_ (fun hHeld => ?_)
    · exact ⟨f0, g0, g1⟩
    refine wpG_pure (i := 0) (oi := { dst := some 14, op := Go.Op.fieldAddr 58 (Go.Operand.tmp 7) 1, type := 0, pos := "l10_topic.go:159", after := #[], guard := none }) (v := ?vg1) rfl (by kernel_rfl) (fun _ _ _ h => h) (Or.inr hHeld) (Or.inl ⟨by rfl, ?yg1⟩) ?_
    case yg1 => (intro wS _; go_simp <;> with_reducible rfl)
    try simp only [Act.put, List.setIfInBounds_toArray, List.set_cons_zero, List.set_cons_succ]
    refine wpG_load (i := 1) (oi := { dst := some 15, op := Go.Op.load 3 (Go.Operand.tmp 14), type := 3, pos := "l10_topic.go:159", after := #[{ on := 0, ground := Go.Ground.data }], guard := none }) (v := ?vg2) [[4, 1]] rfl (by kernel_rfl) (fun _ _ _ h => h) hHeld (Or.inl ⟨by rfl, ?yg2⟩) ?_
    case yg2 => (intro wS hSw; (try dsimp only at hSw); go_simp <;> with_reducible rfl)
    try simp only [Act.put, List.setIfInBounds_toArray, List.set_cons_zero, List.set_cons_succ]
    refine wpG_load (i := 2) (oi := { dst := some 16, op := Go.Op.load 3 (Go.Operand.tmp 4), type := 3, pos := "l10_topic.go:159", after := #[], guard := none }) (v := ?vg3) [[4, 3, 2]] rfl (by kernel_rfl) (fun _ _ _ h => h) hHeld (Or.inl ⟨by rfl, ?yg3⟩) ?_
    case yg3 => (intro wS hSw; (try dsimp only at hSw); go_simp <;> with_reducible rfl)
    try simp only [Act.put, List.setIfInBounds_toArray, List.set_cons_zero, List.set_cons_succ]
    refine wpG_pure (i := 3) (oi := { dst := some 17, op := Go.Op.binOp Go.BinOp.sub 3 (Go.Operand.tmp 16) (Go.Operand.const (Go.Value.int Go.IntKind.i64 1)) 3, type := 3, pos := "l10_topic.go:159", after := #[{ on := 2, ground := Go.Ground.data }], guard := none }) (v := ?vg4) rfl (by kernel_rfl) (fun _ _ _ h => h) (Or.inr hHeld) (Or.inl ⟨by rfl, ?yg4⟩) ?_
    case yg4 => (intro wS _; go_simp <;> with_reducible rfl)
    try simp only [Act.put, List.setIfInBounds_toArray, List.set_cons_zero, List.set_cons_succ]
    refine wpG_one (i := 4) (o := { dst := some 18, op := Go.Op.call { callee := Go.Callee.value (Go.Operand.func 71), args := #[Go.Operand.tmp 15, Go.Operand.const (Go.Value.int Go.IntKind.i64 0), Go.Operand.tmp 17], argTypes := #[3, 3, 3] }, type := 4, pos := "l10_topic.go:159", after := #[{ on := 1, ground := Go.Ground.data }, { on := 3, ground := Go.Ground.data }], guard := none }) rfl (by kernel_rfl) (fun K hK => ?_)
    go_simp
    refine (HW.out _).mono ?_
    rw [← HUP.out]
    rintro e w' ⟨rfl, rfl⟩
    refine hK.out _ _ (Or.inl (by kernel_rfl)) (fun _ => ?_)
    clear hK K
    try simp only [Act.put, List.setIfInBounds_toArray, List.set_cons_zero, List.set_cons_succ]
    refine wpG_pure (i := 5) (oi := { dst := some 19, op := Go.Op.unOp Go.UnOp.not 4 (Go.Operand.tmp 18), type := 4, pos := "l10_topic.go:159", after := #[{ on := 4, ground := Go.Ground.data }], guard := none }) (v := ?vg6) rfl (by kernel_rfl) (fun _ _ _ h => h) (Or.inl (by kernel_rfl)) (Or.inl ⟨by rfl, ?yg6⟩) ?_
    case yg6 => (intro wS _; go_simp <;> with_reducible rfl)
    try simp only [Act.put, List.setIfInBounds_toArray, List.set_cons_zero, List.set_cons_succ]
    refine wpG_pure (i := 6) (oi := { dst := some 20, op := Go.Op.move (Go.Operand.tmp 19), type := 4, pos := "l10_topic.go:159", after := #[{ on := 5, ground := Go.Ground.data }, { on := 4, ground := Go.Ground.chain }], guard := none }) (v := ?vg7) rfl (by kernel_rfl) (fun _ _ _ h => h) (Or.inl (by kernel_rfl)) (Or.inl ⟨by rfl, ?yg7⟩) ?_
    case yg7 => (intro wS _; go_simp <;> with_reducible rfl)
    try simp only [Act.put, List.setIfInBounds_toArray, List.set_cons_zero, List.set_cons_succ]
    refine wpG_pure (i := 7) (oi := { dst := some 21, op := Go.Op.fieldAddr 58 (Go.Operand.tmp 7) 0, type := 0, pos := "l10_topic.go:159", after := #[{ on := 6, ground := Go.Ground.guard }], guard := some (6, false) }) (v := undef) rfl (by kernel_rfl) (fun _ _ _ h => h) (Or.inl (by kernel_rfl)) (Or.inr ⟨by rfl, rfl⟩) ?_
    try simp only [Act.put, List.setIfInBounds_toArray, List.set_cons_zero, List.set_cons_succ]
    refine wpG_pure (i := 8) (oi := { dst := some 22, op := Go.Op.load 9 (Go.Operand.tmp 21), type := 9, pos := "l10_topic.go:159", after := #[{ on := 7, ground := Go.Ground.data }, { on := 6, ground := Go.Ground.guard }], guard := some (6, false) }) (v := undef) rfl (by kernel_rfl) (fun _ _ _ h => h) (Or.inl (by kernel_rfl)) (Or.inr ⟨by rfl, rfl⟩) ?_
    try simp only [Act.put, List.setIfInBounds_toArray, List.set_cons_zero, List.set_cons_succ]
    refine wpG_pure (i := 9) (oi := { dst := some 23, op := Go.Op.call { callee := Go.Callee.value (Go.Operand.func 74), args := #[Go.Operand.tmp 22], argTypes := #[9] }, type := 4, pos := "l10_topic.go:159", after := #[{ on := 8, ground := Go.Ground.data }, { on := 6, ground := Go.Ground.chain }, { on := 6, ground := Go.Ground.guard }], guard := some (6, false) }) (v := undef) rfl (by kernel_rfl) (fun _ _ _ h => h) (Or.inl (by kernel_rfl)) (Or.inr ⟨by rfl, rfl⟩) ?_
    try simp only [Act.put, List.setIfInBounds_toArray, List.set_cons_zero, List.set_cons_succ]
    refine wpG_pure (i := 10) (oi := { dst := some 24, op := Go.Op.unOp Go.UnOp.not 4 (Go.Operand.tmp 23), type := 4, pos := "l10_topic.go:159", after := #[{ on := 9, ground := Go.Ground.data }, { on := 6, ground := Go.Ground.guard }], guard := some (6, false) }) (v := undef) rfl (by kernel_rfl) (fun _ _ _ h => h) (Or.inl (by kernel_rfl)) (Or.inr ⟨by rfl, rfl⟩) ?_
    try simp only [Act.put, List.setIfInBounds_toArray, List.set_cons_zero, List.set_cons_succ]
    refine wpG_pure (i := 11) (oi := { dst := some 25, op := Go.Op.pick (Go.Operand.tmp 20) (Go.Operand.const (Go.Value.bool true)) (Go.Operand.tmp 24), type := 4, pos := "l10_topic.go:159", after := #[{ on := 6, ground := Go.Ground.data }, { on := 10, ground := Go.Ground.data }], guard := none }) (v := ?vg12) rfl (by kernel_rfl) (fun _ _ _ h => h) (Or.inl (by kernel_rfl)) (Or.inl ⟨by rfl, ?yg12⟩) ?_
    case yg12 => (intro wS _; go_simp <;> with_reducible rfl)
    try simp only [Act.put, List.setIfInBounds_toArray, List.set_cons_zero, List.set_cons_succ]
    refine wpG_pure (i := 12) (oi := { dst := some 26, op := Go.Op.move (Go.Operand.tmp 25), type := 4, pos := "l10_topic.go:159", after := #[{ on := 11, ground := Go.Ground.data }, { on := 9, ground := Go.Ground.chain }], guard := none }) (v := ?vg13) rfl (by kernel_rfl) (fun _ _ _ h => h) (Or.inl (by kernel_rfl)) (Or.inl ⟨by rfl, ?yg13⟩) ?_
    case yg13 => (intro wS _; go_simp <;> with_reducible rfl)
    try simp only [Act.put, List.setIfInBounds_toArray, List.set_cons_zero, List.set_cons_succ]
    refine wpG_pure (i := 13) (oi := { dst := some 27, op := Go.Op.move (Go.Operand.tmp 0), type := 24, pos := "l10_topic.go:159", after := #[{ on := 12, ground := Go.Ground.guard }], guard := some (12, false) }) (v := undef) rfl (by kernel_rfl) (fun _ _ _ h => h) (Or.inl (by kernel_rfl)) (Or.inr ⟨by rfl, rfl⟩) ?_
    try simp only [Act.put, List.setIfInBounds_toArray, List.set_cons_zero, List.set_cons_succ]
    refine wpG_pure (i := 14) (oi := { dst := some 28, op := Go.Op.fieldAddr 58 (Go.Operand.tmp 7) 1, type := 0, pos := "l10_topic.go:159", after := #[{ on := 12, ground := Go.Ground.guard }], guard := some (12, false) }) (v := undef) rfl (by kernel_rfl) (fun _ _ _ h => h) (Or.inl (by kernel_rfl)) (Or.inr ⟨by rfl, rfl⟩) ?_
    try simp only [Act.put, List.setIfInBounds_toArray, List.set_cons_zero, List.set_cons_succ]
    refine wpG_pure (i := 15) (oi := { dst := some 29, op := Go.Op.load 3 (Go.Operand.tmp 28), type := 3, pos := "l10_topic.go:159", after := #[{ on := 14, ground := Go.Ground.data }, { on := 12, ground := Go.Ground.guard }], guard := some (12, false) }) (v := undef) rfl (by kernel_rfl) (fun _ _ _ h => h) (Or.inl (by kernel_rfl)) (Or.inr ⟨by rfl, rfl⟩) ?_
    try simp only [Act.put, List.setIfInBounds_toArray, List.set_cons_zero, List.set_cons_succ]
    refine wpG_pure (i := 16) (oi := { dst := some 30, op := Go.Op.fieldAddr 58 (Go.Operand.tmp 7) 0, type := 0, pos := "l10_topic.go:159", after := #[{ on := 12, ground := Go.Ground.guard }], guard := some (12, false) }) (v := undef) rfl (by kernel_rfl) (fun _ _ _ h => h) (Or.inl (by kernel_rfl)) (Or.inr ⟨by rfl, rfl⟩) ?_
    try simp only [Act.put, List.setIfInBounds_toArray, List.set_cons_zero, List.set_cons_succ]
    refine wpG_pure (i := 17) (oi := { dst := some 31, op := Go.Op.load 9 (Go.Operand.tmp 30), type := 9, pos := "l10_topic.go:159", after := #[{ on := 16, ground := Go.Ground.data }, { on := 12, ground := Go.Ground.guard }], guard := some (12, false) }) (v := undef) rfl (by kernel_rfl) (fun _ _ _ h => h) (Or.inl (by kernel_rfl)) (Or.inr ⟨by rfl, rfl⟩) ?_
    try simp only [Act.put, List.setIfInBounds_toArray, List.set_cons_zero, List.set_cons_succ]
    refine wpG_pure (i := 18) (oi := { dst := some 32, op := Go.Op.call { callee := Go.Callee.value (Go.Operand.func 45), args := #[Go.Operand.tmp 27, Go.Operand.tmp 29, Go.Operand.tmp 31], argTypes := #[24, 3, 9] }, type := 3, pos := "l10_topic.go:159", after := #[{ on := 13, ground := Go.Ground.data }, { on := 15, ground := Go.Ground.data }, { on := 17, ground := Go.Ground.data }, { on := 12, ground := Go.Ground.chain }, { on := 12, ground := Go.Ground.guard }], guard := some (12, false) }) (v := undef) rfl (by kernel_rfl) (fun _ _ _ h => h) (Or.inl (by kernel_rfl)) (Or.inr ⟨by rfl, rfl⟩) ?_
    try simp only [Act.put, List.setIfInBounds_toArray, List.set_cons_zero, List.set_cons_succ]
    refine wpG_pure (i := 19) (oi := { dst := some 33, op := Go.Op.load 3 (Go.Operand.tmp 4), type := 3, pos := "l10_topic.go:159", after := #[{ on := 12, ground := Go.Ground.guard }], guard := some (12, false) }) (v := undef) rfl (by kernel_rfl) (fun _ _ _ h => h) (Or.inl (by kernel_rfl)) (Or.inr ⟨by rfl, rfl⟩) ?_
    try simp only [Act.put, List.setIfInBounds_toArray, List.set_cons_zero, List.set_cons_succ]
    refine wpG_pure (i := 20) (oi := { dst := some 34, op := Go.Op.binOp Go.BinOp.neq 3 (Go.Operand.tmp 32) (Go.Operand.tmp 33) 3, type := 4, pos := "l10_topic.go:159", after := #[{ on := 18, ground := Go.Ground.data }, { on := 19, ground := Go.Ground.data }, { on := 12, ground := Go.Ground.guard }], guard := some (12, false) }) (v := undef) rfl (by kernel_rfl) (fun _ _ _ h => h) (Or.inl (by kernel_rfl)) (Or.inr ⟨by rfl, rfl⟩) ?_
    try simp only [Act.put, List.setIfInBounds_toArray, List.set_cons_zero, List.set_cons_succ]
    refine wpG_pure (i := 21) (oi := { dst := some 35, op := Go.Op.pick (Go.Operand.tmp 26) (Go.Operand.const (Go.Value.bool true)) (Go.Operand.tmp 34), type := 4, pos := "l10_topic.go:159", after := #[{ on := 12, ground := Go.Ground.data }, { on := 20, ground := Go.Ground.data }], guard := none }) (v := ?vg22) rfl (by kernel_rfl) (fun _ _ _ h => h) (Or.inl (by kernel_rfl)) (Or.inl ⟨by rfl, ?yg22⟩) ?_
    case yg22 => (intro wS _; go_simp <;> with_reducible rfl)
    try simp only [Act.put, List.setIfInBounds_toArray, List.set_cons_zero, List.set_cons_succ]
    refine wpG_pure (i := 22) (oi := { dst := some 36, op := Go.Op.move (Go.Operand.tmp 35), type := 4, pos := "l10_topic.go:159", after := #[{ on := 21, ground := Go.Ground.data }, { on := 18, ground := Go.Ground.chain }], guard := none }) (v := ?vg23) rfl (by kernel_rfl) (fun _ _ _ h => h) (Or.inl (by kernel_rfl)) (Or.inl ⟨by rfl, ?yg23⟩) ?_
    case yg23 => (intro wS _; go_simp <;> with_reducible rfl)
    try simp only [Act.put, List.setIfInBounds_toArray, List.set_cons_zero, List.set_cons_succ]
    refine wpG_pure (i := 23) (oi := { dst := some 37, op := Go.Op.move (Go.Operand.tmp 0), type := 24, pos := "l10_topic.go:159", after := #[{ on := 22, ground := Go.Ground.guard }], guard := some (22, false) }) (v := undef) rfl (by kernel_rfl) (fun _ _ _ h => h) (Or.inl (by kernel_rfl)) (Or.inr ⟨by rfl, rfl⟩) ?_
    try simp only [Act.put, List.setIfInBounds_toArray, List.set_cons_zero, List.set_cons_succ]
    refine wpG_pure (i := 24) (oi := { dst := some 38, op := Go.Op.fieldAddr 58 (Go.Operand.tmp 7) 1, type := 0, pos := "l10_topic.go:159", after := #[{ on := 22, ground := Go.Ground.guard }], guard := some (22, false) }) (v := undef) rfl (by kernel_rfl) (fun _ _ _ h => h) (Or.inl (by kernel_rfl)) (Or.inr ⟨by rfl, rfl⟩) ?_
    try simp only [Act.put, List.setIfInBounds_toArray, List.set_cons_zero, List.set_cons_succ]
    refine wpG_pure (i := 25) (oi := { dst := some 39, op := Go.Op.load 3 (Go.Operand.tmp 38), type := 3, pos := "l10_topic.go:159", after := #[{ on := 24, ground := Go.Ground.data }, { on := 22, ground := Go.Ground.guard }], guard := some (22, false) }) (v := undef) rfl (by kernel_rfl) (fun _ _ _ h => h) (Or.inl (by kernel_rfl)) (Or.inr ⟨by rfl, rfl⟩) ?_
    try simp only [Act.put, List.setIfInBounds_toArray, List.set_cons_zero, List.set_cons_succ]
    refine wpG_pure (i := 26) (oi := { dst := some 40, op := Go.Op.indexAddr 24 (Go.Operand.tmp 37) (Go.Operand.tmp 39), type := 0, pos := "l10_topic.go:159", after := #[{ on := 23, ground := Go.Ground.data }, { on := 25, ground := Go.Ground.data }, { on := 22, ground := Go.Ground.guard }], guard := some (22, false) }) (v := undef) rfl (by kernel_rfl) (fun _ _ _ h => h) (Or.inl (by kernel_rfl)) (Or.inr ⟨by rfl, rfl⟩) ?_
    try simp only [Act.put, List.setIfInBounds_toArray, List.set_cons_zero, List.set_cons_succ]
    refine wpG_pure (i := 27) (oi := { dst := some 41, op := Go.Op.fieldAddr 58 (Go.Operand.tmp 40) 0, type := 0, pos := "l10_topic.go:159", after := #[{ on := 26, ground := Go.Ground.data }, { on := 22, ground := Go.Ground.guard }], guard := some (22, false) }) (v := undef) rfl (by kernel_rfl) (fun _ _ _ h => h) (Or.inl (by kernel_rfl)) (Or.inr ⟨by rfl, rfl⟩) ?_
    try simp only [Act.put, List.setIfInBounds_toArray, List.set_cons_zero, List.set_cons_succ]
    refine wpG_pure (i := 28) (oi := { dst := some 42, op := Go.Op.load 9 (Go.Operand.tmp 41), type := 9, pos := "l10_topic.go:159", after := #[{ on := 27, ground := Go.Ground.data }, { on := 22, ground := Go.Ground.guard }], guard := some (22, false) }) (v := undef) rfl (by kernel_rfl) (fun _ _ _ h => h) (Or.inl (by kernel_rfl)) (Or.inr ⟨by rfl, rfl⟩) ?_
    try simp only [Act.put, List.setIfInBounds_toArray, List.set_cons_zero, List.set_cons_succ]
    refine wpG_pure (i := 29) (oi := { dst := some 43, op := Go.Op.binOp Go.BinOp.eql 9 (Go.Operand.tmp 42) (Go.Operand.const (Go.Value.string { data := #[35] })) 9, type := 4, pos := "l10_topic.go:159", after := #[{ on := 28, ground := Go.Ground.data }, { on := 22, ground := Go.Ground.guard }], guard := some (22, false) }) (v := undef) rfl (by kernel_rfl) (fun _ _ _ h => h) (Or.inl (by kernel_rfl)) (Or.inr ⟨by rfl, rfl⟩) ?_
    try simp only [Act.put, List.setIfInBounds_toArray, List.set_cons_zero, List.set_cons_succ]
    refine wpG_pure (i := 30) (oi := { dst := some 44, op := Go.Op.pick (Go.Operand.tmp 36) (Go.Operand.const (Go.Value.bool true)) (Go.Operand.tmp 43), type := 4, pos := "l10_topic.go:159", after := #[{ on := 22, ground := Go.Ground.data }, { on := 29, ground := Go.Ground.data }], guard := none }) (v := ?vg31) rfl (by kernel_rfl) (fun _ _ _ h => h) (Or.inl (by kernel_rfl)) (Or.inl ⟨by rfl, ?yg31⟩) ?_
    case yg31 => (intro wS _; go_simp <;> with_reducible rfl)
    try simp only [Act.put, List.setIfInBounds_toArray, List.set_cons_zero, List.set_cons_succ]
    refine wpG_pure (i := 31) (oi := { dst := some 45, op := Go.Op.move (Go.Operand.tmp 44), type := 4, pos := "l10_topic.go:159", after := #[{ on := 30, ground := Go.Ground.data }, { on := 22, ground := Go.Ground.chain }], guard := none }) (v := ?vg32) rfl (by kernel_rfl) (fun _ _ _ h => h) (Or.inl (by kernel_rfl)) (Or.inl ⟨by rfl, ?yg32⟩) ?_
    case yg32 => (intro wS _; go_simp <;> with_reducible rfl)
    try simp only [Act.put, List.setIfInBounds_toArray, List.set_cons_zero, List.set_cons_succ]
    refine wpG_pure (i := 32) (oi := { dst := some 46, op := Go.Op.move (Go.Operand.tmp 2), type := 36, pos := "l10_topic.go:159", after := #[{ on := 31, ground := Go.Ground.guard }], guard := some (31, false) }) (v := undef) rfl (by kernel_rfl) (fun _ _ _ h => h) (Or.inl (by kernel_rfl)) (Or.inr ⟨by rfl, rfl⟩) ?_
    try simp only [Act.put, List.setIfInBounds_toArray, List.set_cons_zero, List.set_cons_succ]
    refine wpG_pure (i := 33) (oi := { dst := some 47, op := Go.Op.fieldAddr 58 (Go.Operand.tmp 7) 1, type := 0, pos := "l10_topic.go:159", after := #[{ on := 31, ground := Go.Ground.guard }], guard := some (31, false) }) (v := undef) rfl (by kernel_rfl) (fun _ _ _ h => h) (Or.inl (by kernel_rfl)) (Or.inr ⟨by rfl, rfl⟩) ?_
    try simp only [Act.put, List.setIfInBounds_toArray, List.set_cons_zero, List.set_cons_succ]
    refine wpG_pure (i := 34) (oi := { dst := some 48, op := Go.Op.load 3 (Go.Operand.tmp 47), type := 3, pos := "l10_topic.go:159", after := #[{ on := 33, ground := Go.Ground.data }, { on := 31, ground := Go.Ground.guard }], guard := some (31, false) }) (v := undef) rfl (by kernel_rfl) (fun _ _ _ h => h) (Or.inl (by kernel_rfl)) (Or.inr ⟨by rfl, rfl⟩) ?_
    try simp only [Act.put, List.setIfInBounds_toArray, List.set_cons_zero, List.set_cons_succ]
    refine wpG_pure (i := 35) (oi := { dst := some 49, op := Go.Op.indexAddr 36 (Go.Operand.tmp 46) (Go.Operand.tmp 48), type := 0, pos := "l10_topic.go:159", after := #[{ on := 32, ground := Go.Ground.data }, { on := 34, ground := Go.Ground.data }, { on := 31, ground := Go.Ground.guard }], guard := some (31, false) }) (v := undef) rfl (by kernel_rfl) (fun _ _ _ h => h) (Or.inl (by kernel_rfl)) (Or.inr ⟨by rfl, rfl⟩) ?_
    try simp only [Act.put, List.setIfInBounds_toArray, List.set_cons_zero, List.set_cons_succ]
    refine wpG_pure (i := 36) (oi := { dst := some 50, op := Go.Op.load 3 (Go.Operand.tmp 49), type := 3, pos := "l10_topic.go:159", after := #[{ on := 35, ground := Go.Ground.data }, { on := 31, ground := Go.Ground.guard }], guard := some (31, false) }) (v := undef) rfl (by kernel_rfl) (fun _ _ _ h => h) (Or.inl (by kernel_rfl)) (Or.inr ⟨by rfl, rfl⟩) ?_
    try simp only [Act.put, List.setIfInBounds_toArray, List.set_cons_zero, List.set_cons_succ]
    refine wpG_pure (i := 37) (oi := { dst := some 51, op := Go.Op.binOp Go.BinOp.eql 3 (Go.Operand.tmp 50) (Go.Operand.const (Go.Value.int Go.IntKind.i64 6)) 3, type := 4, pos := "l10_topic.go:159", after := #[{ on := 36, ground := Go.Ground.data }, { on := 31, ground := Go.Ground.guard }], guard := some (31, false) }) (v := undef) rfl (by kernel_rfl) (fun _ _ _ h => h) (Or.inl (by kernel_rfl)) (Or.inr ⟨by rfl, rfl⟩) ?_
    try simp only [Act.put, List.setIfInBounds_toArray, List.set_cons_zero, List.set_cons_succ]
    refine wpG_pure (i := 38) (oi := { dst := some 52, op := Go.Op.pick (Go.Operand.tmp 45) (Go.Operand.const (Go.Value.bool true)) (Go.Operand.tmp 51), type := 4, pos := "l10_topic.go:159", after := #[{ on := 31, ground := Go.Ground.data }, { on := 37, ground := Go.Ground.data }], guard := none }) (v := ?vg39) rfl (by kernel_rfl) (fun _ _ _ h => h) (Or.inl (by kernel_rfl)) (Or.inl ⟨by rfl, ?yg39⟩) ?_
    case yg39 => (intro wS _; go_simp <;> with_reducible rfl)
    try simp only [Act.put, List.setIfInBounds_toArray, List.set_cons_zero, List.set_cons_succ]
    refine wpG_done (by kernel_rfl) ?_
    (go_wp2_with fail; go_ret; exact ⟨ret_bool HN.out.symm, HBD.out⟩)
  | true =>
  have HUY := Lib.hid (upB_yes hu)
  have HFX' := Lib.hid (HFX.out hu); have HDS' := Lib.hid (HDS.out hu)
  rw [hu] at HUP
  simp only [hu, Bool.true_and] at HHD
  clear hu HFX HDS
  cases hlv : lvlOK x.1 with
  | false =>
    have HLL := Lib.hid hlv
    have HN := Lib.hid (HNH.out (by rw [HHD.out, hlv]; simp))
    clear hlv
    go_enter Tryd.func83, Tryd.ntmps83
    go_wp2_with fail
    obtain ⟨wb, hwb⟩ : ∃ z : World, z = ((w.alloc (.cells #[.int .i64 (k : Int)] 3)).alloc (.cells #[.string x.1, .int .i64 x.2.1, .slice aw x.2.2.length cw] 58)) := ⟨_, rfl⟩
    rw [← hwb] at f0 g0 g1 g2 hsz HBA HB0 ⊢
    clear hwb
    have HBD : Hid (Below w.heap.size w wb.drew) := Lib.hid HBA.out.drew
    have HBD2 : Hid (Below (w.heap.size + 2) wb wb.drew) := Lib.hid ((Below.refl _ _).drew)
    have HFB : Hid (∀ w', Below (w.heap.size + 2) wb w' → w'.cell? ⟨w.heap.size, 0, none⟩ = some (.int .i64 (k : Int)) ∧ w'.cell? ⟨w.heap.size + 1, 0, none⟩ = some (.string x.1) ∧ w'.cell? ⟨w.heap.size + 1, 1, none⟩ = some (.int .i64 x.2.1)) := Lib.hid fun w' hb => ⟨below_cellk hb f0 (by omega), below_cellk hb g0 (by omega), below_cellk hb g1 (by omega)⟩
    refine wp_region_G [9] (fun w' => w'.cell? ⟨w.heap.size, 0, none⟩ = some (.int .i64 (k : Int)) ∧ w'.cell? ⟨w.heap.size + 1, 0, none⟩ = some (.string x.1) ∧ w'.cell? ⟨w.heap.size + 1, 1, none⟩ = some (.int .i64 x.2.1)) (by kernel_rfl) ?_ (fun hHeld => ?_)
    · exact ⟨f0, g0, g1⟩
    refine wpG_pure (i := 0) (oi := { dst := some 14, op := Go.Op.fieldAddr 58 (Go.Operand.tmp 7) 1, type := 0, pos := "l10_topic.go:159", after := #[], guard := none }) (v := ?vg40) rfl (by kernel_rfl) (fun _ _ _ h => h) (Or.inr hHeld) (Or.inl ⟨by rfl, ?yg40⟩) ?_
    case yg40 => (intro wS _; go_simp <;> with_reducible rfl)
    try simp only [Act.put, List.setIfInBounds_toArray, List.set_cons_zero, List.set_cons_succ]
    refine wpG_load (i := 1) (oi := { dst := some 15, op := Go.Op.load 3 (Go.Operand.tmp 14), type := 3, pos := "l10_topic.go:159", after := #[{ on := 0, ground := Go.Ground.data }], guard := none }) (v := ?vg41) [[9, 6, 4, 1]] rfl (by kernel_rfl) (fun _ _ _ h => h) hHeld (Or.inl ⟨by rfl, ?yg41⟩) ?_
    case yg41 => (intro wS hSw; (try dsimp only at hSw); go_simp <;> with_reducible rfl)
    try simp only [Act.put, List.setIfInBounds_toArray, List.set_cons_zero, List.set_cons_succ]
    refine wpG_load (i := 2) (oi := { dst := some 16, op := Go.Op.load 3 (Go.Operand.tmp 4), type := 3, pos := "l10_topic.go:159", after := #[], guard := none }) (v := ?vg42) [[9, 6, 4, 3, 2]] rfl (by kernel_rfl) (fun _ _ _ h => h) hHeld (Or.inl ⟨by rfl, ?yg42⟩) ?_
    case yg42 => (intro wS hSw; (try dsimp only at hSw); go_simp <;> with_reducible rfl)
    try simp only [Act.put, List.setIfInBounds_toArray, List.set_cons_zero, List.set_cons_succ]
    refine wpG_pure (i := 3) (oi := { dst := some 17, op := Go.Op.binOp Go.BinOp.sub 3 (Go.Operand.tmp 16) (Go.Operand.const (Go.Value.int Go.IntKind.i64 1)) 3, type := 3, pos := "l10_topic.go:159", after := #[{ on := 2, ground := Go.Ground.data }], guard := none }) (v := ?vg43) rfl (by kernel_rfl) (fun _ _ _ h => h) (Or.inr hHeld) (Or.inl ⟨by rfl, ?yg43⟩) ?_
    case yg43 => (intro wS _; go_simp <;> with_reducible rfl)
    try simp only [Act.put, List.setIfInBounds_toArray, List.set_cons_zero, List.set_cons_succ]
    refine wpG_one (i := 4) (o := { dst := some 18, op := Go.Op.call { callee := Go.Callee.value (Go.Operand.func 71), args := #[Go.Operand.tmp 15, Go.Operand.const (Go.Value.int Go.IntKind.i64 0), Go.Operand.tmp 17], argTypes := #[3, 3, 3] }, type := 4, pos := "l10_topic.go:159", after := #[{ on := 1, ground := Go.Ground.data }, { on := 3, ground := Go.Ground.data }], guard := none }) rfl (by kernel_rfl) (fun K hK => ?_)
    go_simp
    refine (HW.out _).mono ?_
    rw [← HUP.out]
    rintro e w' ⟨rfl, rfl⟩
    refine hK.out _ _ (Or.inr ?khHeld44) (fun hHeld44S => ?_)
    case khHeld44 => exact ⟨f0, g0, g1⟩
    have hHeld44 := hHeld44S.held (by kernel_rfl)
    clear hK K
    try simp only [Act.put, List.setIfInBounds_toArray, List.set_cons_zero, List.set_cons_succ]
    refine wpG_pure (i := 5) (oi := { dst := some 19, op := Go.Op.unOp Go.UnOp.not 4 (Go.Operand.tmp 18), type := 4, pos := "l10_topic.go:159", after := #[{ on := 4, ground := Go.Ground.data }], guard := none }) (v := ?vg45) rfl (by kernel_rfl) (fun _ _ _ h => h) (Or.inr hHeld44) (Or.inl ⟨by rfl, ?yg45⟩) ?_
    case yg45 => (intro wS _; go_simp <;> with_reducible rfl)
    try simp only [Act.put, List.setIfInBounds_toArray, List.set_cons_zero, List.set_cons_succ]
    refine wpG_pure (i := 6) (oi := { dst := some 20, op := Go.Op.move (Go.Operand.tmp 19), type := 4, pos := "l10_topic.go:159", after := #[{ on := 5, ground := Go.Ground.data }, { on := 4, ground := Go.Ground.chain }], guard := none }) (v := ?vg46) rfl (by kernel_rfl) (fun _ _ _ h => h) (Or.inr hHeld44) (Or.inl ⟨by rfl, ?yg46⟩) ?_
    case yg46 => (intro wS _; go_simp <;> with_reducible rfl)
    try simp only [Act.put, List.setIfInBounds_toArray, List.set_cons_zero, List.set_cons_succ]
    refine wpG_pure (i := 7) (oi := { dst := some 21, op := Go.Op.fieldAddr 58 (Go.Operand.tmp 7) 0, type := 0, pos := "l10_topic.go:159", after := #[{ on := 6, ground := Go.Ground.guard }], guard := some (6, false) }) (v := ?vg47) rfl (by kernel_rfl) (fun _ _ _ h => h) (Or.inr hHeld44) (Or.inl ⟨by rfl, ?yg47⟩) ?_
    case yg47 => (intro wS _; go_simp <;> with_reducible rfl)
    try simp only [Act.put, List.setIfInBounds_toArray, List.set_cons_zero, List.set_cons_succ]
    refine wpG_load (i := 8) (oi := { dst := some 22, op := Go.Op.load 9 (Go.Operand.tmp 21), type := 9, pos := "l10_topic.go:159", after := #[{ on := 7, ground := Go.Ground.data }, { on := 6, ground := Go.Ground.guard }], guard := some (6, false) }) (v := ?vg48) [[9, 8]] rfl (by kernel_rfl) (fun _ _ _ h => h) hHeld44 (Or.inl ⟨by rfl, ?yg48⟩) ?_
    case yg48 => (intro wS hSw; (try dsimp only at hSw); go_simp <;> with_reducible rfl)
    try simp only [Act.put, List.setIfInBounds_toArray, List.set_cons_zero, List.set_cons_succ]
    refine wpG_one (i := 9) (o := { dst := some 23, op := Go.Op.call { callee := Go.Callee.value (Go.Operand.func 74), args := #[Go.Operand.tmp 22], argTypes := #[9] }, type := 4, pos := "l10_topic.go:159", after := #[{ on := 8, ground := Go.Ground.data }, { on := 6, ground := Go.Ground.chain }, { on := 6, ground := Go.Ground.guard }], guard := some (6, false) }) rfl (by kernel_rfl) (fun K hK => ?_)
    go_simp
    refine (HLV.out _).mono ?_
    rw [HLL.out]
    rintro e w' ⟨rfl, rfl⟩
    refine hK.out _ _ (Or.inl (by kernel_rfl)) (fun _ => ?_)
    clear hK K
    try simp only [Act.put, List.setIfInBounds_toArray, List.set_cons_zero, List.set_cons_succ]
    refine wpG_pure (i := 10) (oi := { dst := some 24, op := Go.Op.unOp Go.UnOp.not 4 (Go.Operand.tmp 23), type := 4, pos := "l10_topic.go:159", after := #[{ on := 9, ground := Go.Ground.data }, { on := 6, ground := Go.Ground.guard }], guard := some (6, false) }) (v := ?vg50) rfl (by kernel_rfl) (fun _ _ _ h => h) (Or.inl (by kernel_rfl)) (Or.inl ⟨by rfl, ?yg50⟩) ?_
    case yg50 => (intro wS _; go_simp <;> with_reducible rfl)
    try simp only [Act.put, List.setIfInBounds_toArray, List.set_cons_zero, List.set_cons_succ]
    refine wpG_pure (i := 11) (oi := { dst := some 25, op := Go.Op.pick (Go.Operand.tmp 20) (Go.Operand.const (Go.Value.bool true)) (Go.Operand.tmp 24), type := 4, pos := "l10_topic.go:159", after := #[{ on := 6, ground := Go.Ground.data }, { on := 10, ground := Go.Ground.data }], guard := none }) (v := ?vg51) rfl (by kernel_rfl) (fun _ _ _ h => h) (Or.inl (by kernel_rfl)) (Or.inl ⟨by rfl, ?yg51⟩) ?_
    case yg51 => (intro wS _; go_simp <;> with_reducible rfl)
    try simp only [Act.put, List.setIfInBounds_toArray, List.set_cons_zero, List.set_cons_succ]
    refine wpG_pure (i := 12) (oi := { dst := some 26, op := Go.Op.move (Go.Operand.tmp 25), type := 4, pos := "l10_topic.go:159", after := #[{ on := 11, ground := Go.Ground.data }, { on := 9, ground := Go.Ground.chain }], guard := none }) (v := ?vg52) rfl (by kernel_rfl) (fun _ _ _ h => h) (Or.inl (by kernel_rfl)) (Or.inl ⟨by rfl, ?yg52⟩) ?_
    case yg52 => (intro wS _; go_simp <;> with_reducible rfl)
    try simp only [Act.put, List.setIfInBounds_toArray, List.set_cons_zero, List.set_cons_succ]
    refine wpG_pure (i := 13) (oi := { dst := some 27, op := Go.Op.move (Go.Operand.tmp 0), type := 24, pos := "l10_topic.go:159", after := #[{ on := 12, ground := Go.Ground.guard }], guard := some (12, false) }) (v := undef) rfl (by kernel_rfl) (fun _ _ _ h => h) (Or.inl (by kernel_rfl)) (Or.inr ⟨by rfl, rfl⟩) ?_
    try simp only [Act.put, List.setIfInBounds_toArray, List.set_cons_zero, List.set_cons_succ]
    refine wpG_pure (i := 14) (oi := { dst := some 28, op := Go.Op.fieldAddr 58 (Go.Operand.tmp 7) 1, type := 0, pos := "l10_topic.go:159", after := #[{ on := 12, ground := Go.Ground.guard }], guard := some (12, false) }) (v := undef) rfl (by kernel_rfl) (fun _ _ _ h => h) (Or.inl (by kernel_rfl)) (Or.inr ⟨by rfl, rfl⟩) ?_
    try simp only [Act.put, List.setIfInBounds_toArray, List.set_cons_zero, List.set_cons_succ]
    refine wpG_pure (i := 15) (oi := { dst := some 29, op := Go.Op.load 3 (Go.Operand.tmp 28), type := 3, pos := "l10_topic.go:159", after := #[{ on := 14, ground := Go.Ground.data }, { on := 12, ground := Go.Ground.guard }], guard := some (12, false) }) (v := undef) rfl (by kernel_rfl) (fun _ _ _ h => h) (Or.inl (by kernel_rfl)) (Or.inr ⟨by rfl, rfl⟩) ?_
    try simp only [Act.put, List.setIfInBounds_toArray, List.set_cons_zero, List.set_cons_succ]
    refine wpG_pure (i := 16) (oi := { dst := some 30, op := Go.Op.fieldAddr 58 (Go.Operand.tmp 7) 0, type := 0, pos := "l10_topic.go:159", after := #[{ on := 12, ground := Go.Ground.guard }], guard := some (12, false) }) (v := undef) rfl (by kernel_rfl) (fun _ _ _ h => h) (Or.inl (by kernel_rfl)) (Or.inr ⟨by rfl, rfl⟩) ?_
    try simp only [Act.put, List.setIfInBounds_toArray, List.set_cons_zero, List.set_cons_succ]
    refine wpG_pure (i := 17) (oi := { dst := some 31, op := Go.Op.load 9 (Go.Operand.tmp 30), type := 9, pos := "l10_topic.go:159", after := #[{ on := 16, ground := Go.Ground.data }, { on := 12, ground := Go.Ground.guard }], guard := some (12, false) }) (v := undef) rfl (by kernel_rfl) (fun _ _ _ h => h) (Or.inl (by kernel_rfl)) (Or.inr ⟨by rfl, rfl⟩) ?_
    try simp only [Act.put, List.setIfInBounds_toArray, List.set_cons_zero, List.set_cons_succ]
    refine wpG_pure (i := 18) (oi := { dst := some 32, op := Go.Op.call { callee := Go.Callee.value (Go.Operand.func 45), args := #[Go.Operand.tmp 27, Go.Operand.tmp 29, Go.Operand.tmp 31], argTypes := #[24, 3, 9] }, type := 3, pos := "l10_topic.go:159", after := #[{ on := 13, ground := Go.Ground.data }, { on := 15, ground := Go.Ground.data }, { on := 17, ground := Go.Ground.data }, { on := 12, ground := Go.Ground.chain }, { on := 12, ground := Go.Ground.guard }], guard := some (12, false) }) (v := undef) rfl (by kernel_rfl) (fun _ _ _ h => h) (Or.inl (by kernel_rfl)) (Or.inr ⟨by rfl, rfl⟩) ?_
    try simp only [Act.put, List.setIfInBounds_toArray, List.set_cons_zero, List.set_cons_succ]
    refine wpG_pure (i := 19) (oi := { dst := some 33, op := Go.Op.load 3 (Go.Operand.tmp 4), type := 3, pos := "l10_topic.go:159", after := #[{ on := 12, ground := Go.Ground.guard }], guard := some (12, false) }) (v := undef) rfl (by kernel_rfl) (fun _ _ _ h => h) (Or.inl (by kernel_rfl)) (Or.inr ⟨by rfl, rfl⟩) ?_
    try simp only [Act.put, List.setIfInBounds_toArray, List.set_cons_zero, List.set_cons_succ]
    refine wpG_pure (i := 20) (oi := { dst := some 34, op := Go.Op.binOp Go.BinOp.neq 3 (Go.Operand.tmp 32) (Go.Operand.tmp 33) 3, type := 4, pos := "l10_topic.go:159", after := #[{ on := 18, ground := Go.Ground.data }, { on := 19, ground := Go.Ground.data }, { on := 12, ground := Go.Ground.guard }], guard := some (12, false) }) (v := undef) rfl (by kernel_rfl) (fun _ _ _ h => h) (Or.inl (by kernel_rfl)) (Or.inr ⟨by rfl, rfl⟩) ?_
    try simp only [Act.put, List.setIfInBounds_toArray, List.set_cons_zero, List.set_cons_succ]
    refine wpG_pure (i := 21) (oi := { dst := some 35, op := Go.Op.pick (Go.Operand.tmp 26) (Go.Operand.const (Go.Value.bool true)) (Go.Operand.tmp 34), type := 4, pos := "l10_topic.go:159", after := #[{ on := 12, ground := Go.Ground.data }, { on := 20, ground := Go.Ground.data }], guard := none }) (v := ?vg61) rfl (by kernel_rfl) (fun _ _ _ h => h) (Or.inl (by kernel_rfl)) (Or.inl ⟨by rfl, ?yg61⟩) ?_
    case yg61 => (intro wS _; go_simp <;> with_reducible rfl)
    try simp only [Act.put, List.setIfInBounds_toArray, List.set_cons_zero, List.set_cons_succ]
    refine wpG_pure (i := 22) (oi := { dst := some 36, op := Go.Op.move (Go.Operand.tmp 35), type := 4, pos := "l10_topic.go:159", after := #[{ on := 21, ground := Go.Ground.data }, { on := 18, ground := Go.Ground.chain }], guard := none }) (v := ?vg62) rfl (by kernel_rfl) (fun _ _ _ h => h) (Or.inl (by kernel_rfl)) (Or.inl ⟨by rfl, ?yg62⟩) ?_
    case yg62 => (intro wS _; go_simp <;> with_reducible rfl)
    try simp only [Act.put, List.setIfInBounds_toArray, List.set_cons_zero, List.set_cons_succ]
    refine wpG_pure (i := 23) (oi := { dst := some 37, op := Go.Op.move (Go.Operand.tmp 0), type := 24, pos := "l10_topic.go:159", after := #[{ on := 22, ground := Go.Ground.guard }], guard := some (22, false) }) (v := undef) rfl (by kernel_rfl) (fun _ _ _ h => h) (Or.inl (by kernel_rfl)) (Or.inr ⟨by rfl, rfl⟩) ?_
    try simp only [Act.put, List.setIfInBounds_toArray, List.set_cons_zero, List.set_cons_succ]
    refine wpG_pure (i := 24) (oi := { dst := some 38, op := Go.Op.fieldAddr 58 (Go.Operand.tmp 7) 1, type := 0, pos := "l10_topic.go:159", after := #[{ on := 22, ground := Go.Ground.guard }], guard := some (22, false) }) (v := undef) rfl (by kernel_rfl) (fun _ _ _ h => h) (Or.inl (by kernel_rfl)) (Or.inr ⟨by rfl, rfl⟩) ?_
    try simp only [Act.put, List.setIfInBounds_toArray, List.set_cons_zero, List.set_cons_succ]
    refine wpG_pure (i := 25) (oi := { dst := some 39, op := Go.Op.load 3 (Go.Operand.tmp 38), type := 3, pos := "l10_topic.go:159", after := #[{ on := 24, ground := Go.Ground.data }, { on := 22, ground := Go.Ground.guard }], guard := some (22, false) }) (v := undef) rfl (by kernel_rfl) (fun _ _ _ h => h) (Or.inl (by kernel_rfl)) (Or.inr ⟨by rfl, rfl⟩) ?_
    try simp only [Act.put, List.setIfInBounds_toArray, List.set_cons_zero, List.set_cons_succ]
    refine wpG_pure (i := 26) (oi := { dst := some 40, op := Go.Op.indexAddr 24 (Go.Operand.tmp 37) (Go.Operand.tmp 39), type := 0, pos := "l10_topic.go:159", after := #[{ on := 23, ground := Go.Ground.data }, { on := 25, ground := Go.Ground.data }, { on := 22, ground := Go.Ground.guard }], guard := some (22, false) }) (v := undef) rfl (by kernel_rfl) (fun _ _ _ h => h) (Or.inl (by kernel_rfl)) (Or.inr ⟨by rfl, rfl⟩) ?_
    try simp only [Act.put, List.setIfInBounds_toArray, List.set_cons_zero, List.set_cons_succ]
    refine wpG_pure (i := 27) (oi := { dst := some 41, op := Go.Op.fieldAddr 58 (Go.Operand.tmp 40) 0, type := 0, pos := "l10_topic.go:159", after := #[{ on := 26, ground := Go.Ground.data }, { on := 22, ground := Go.Ground.guard }], guard := some (22, false) }) (v := undef) rfl (by kernel_rfl) (fun _ _ _ h => h) (Or.inl (by kernel_rfl)) (Or.inr ⟨by rfl, rfl⟩) ?_
    try simp only [Act.put, List.setIfInBounds_toArray, List.set_cons_zero, List.set_cons_succ]
    refine wpG_pure (i := 28) (oi := { dst := some 42, op := Go.Op.load 9 (Go.Operand.tmp 41), type := 9, pos := "l10_topic.go:159", after := #[{ on := 27, ground := Go.Ground.data }, { on := 22, ground := Go.Ground.guard }], guard := some (22, false) }) (v := undef) rfl (by kernel_rfl) (fun _ _ _ h => h) (Or.inl (by kernel_rfl)) (Or.inr ⟨by rfl, rfl⟩) ?_
    try simp only [Act.put, List.setIfInBounds_toArray, List.set_cons_zero, List.set_cons_succ]
    refine wpG_pure (i := 29) (oi := { dst := some 43, op := Go.Op.binOp Go.BinOp.eql 9 (Go.Operand.tmp 42) (Go.Operand.const (Go.Value.string { data := #[35] })) 9, type := 4, pos := "l10_topic.go:159", after := #[{ on := 28, ground := Go.Ground.data }, { on := 22, ground := Go.Ground.guard }], guard := some (22, false) }) (v := undef) rfl (by kernel_rfl) (fun _ _ _ h => h) (Or.inl (by kernel_rfl)) (Or.inr ⟨by rfl, rfl⟩) ?_
    try simp only [Act.put, List.setIfInBounds_toArray, List.set_cons_zero, List.set_cons_succ]
    refine wpG_pure (i := 30) (oi := { dst := some 44, op := Go.Op.pick (Go.Operand.tmp 36) (Go.Operand.const (Go.Value.bool true)) (Go.Operand.tmp 43), type := 4, pos := "l10_topic.go:159", after := #[{ on := 22, ground := Go.Ground.data }, { on := 29, ground := Go.Ground.data }], guard := none }) (v := ?vg70) rfl (by kernel_rfl) (fun _ _ _ h => h) (Or.inl (by kernel_rfl)) (Or.inl ⟨by rfl, ?yg70⟩) ?_
    case yg70 => (intro wS _; go_simp <;> with_reducible rfl)
    try simp only [Act.put, List.setIfInBounds_toArray, List.set_cons_zero, List.set_cons_succ]
    refine wpG_pure (i := 31) (oi := { dst := some 45, op := Go.Op.move (Go.Operand.tmp 44), type := 4, pos := "l10_topic.go:159", after := #[{ on := 30, ground := Go.Ground.data }, { on := 22, ground := Go.Ground.chain }], guard := none }) (v := ?vg71) rfl (by kernel_rfl) (fun _ _ _ h => h) (Or.inl (by kernel_rfl)) (Or.inl ⟨by rfl, ?yg71⟩) ?_
    case yg71 => (intro wS _; go_simp <;> with_reducible rfl)
    try simp only [Act.put, List.setIfInBounds_toArray, List.set_cons_zero, List.set_cons_succ]
    refine wpG_pure (i := 32) (oi := { dst := some 46, op := Go.Op.move (Go.Operand.tmp 2), type := 36, pos := "l10_topic.go:159", after := #[{ on := 31, ground := Go.Ground.guard }], guard := some (31, false) }) (v := undef) rfl (by kernel_rfl) (fun _ _ _ h => h) (Or.inl (by kernel_rfl)) (Or.inr ⟨by rfl, rfl⟩) ?_
    try simp only [Act.put, List.setIfInBounds_toArray, List.set_cons_zero, List.set_cons_succ]
    refine wpG_pure (i := 33) (oi := { dst := some 47, op := Go.Op.fieldAddr 58 (Go.Operand.tmp 7) 1, type := 0, pos := "l10_topic.go:159", after := #[{ on := 31, ground := Go.Ground.guard }], guard := some (31, false) }) (v := undef) rfl (by kernel_rfl) (fun _ _ _ h => h) (Or.inl (by kernel_rfl)) (Or.inr ⟨by rfl, rfl⟩) ?_
    try simp only [Act.put, List.setIfInBounds_toArray, List.set_cons_zero, List.set_cons_succ]
    refine wpG_pure (i := 34) (oi := { dst := some 48, op := Go.Op.load 3 (Go.Operand.tmp 47), type := 3, pos := "l10_topic.go:159", after := #[{ on := 33, ground := Go.Ground.data }, { on := 31, ground := Go.Ground.guard }], guard := some (31, false) }) (v := undef) rfl (by kernel_rfl) (fun _ _ _ h => h) (Or.inl (by kernel_rfl)) (Or.inr ⟨by rfl, rfl⟩) ?_
    try simp only [Act.put, List.setIfInBounds_toArray, List.set_cons_zero, List.set_cons_succ]
    refine wpG_pure (i := 35) (oi := { dst := some 49, op := Go.Op.indexAddr 36 (Go.Operand.tmp 46) (Go.Operand.tmp 48), type := 0, pos := "l10_topic.go:159", after := #[{ on := 32, ground := Go.Ground.data }, { on := 34, ground := Go.Ground.data }, { on := 31, ground := Go.Ground.guard }], guard := some (31, false) }) (v := undef) rfl (by kernel_rfl) (fun _ _ _ h => h) (Or.inl (by kernel_rfl)) (Or.inr ⟨by rfl, rfl⟩) ?_
    try simp only [Act.put, List.setIfInBounds_toArray, List.set_cons_zero, List.set_cons_succ]
    refine wpG_pure (i := 36) (oi := { dst := some 50, op := Go.Op.load 3 (Go.Operand.tmp 49), type := 3, pos := "l10_topic.go:159", after := #[{ on := 35, ground := Go.Ground.data }, { on := 31, ground := Go.Ground.guard }], guard := some (31, false) }) (v := undef) rfl (by kernel_rfl) (fun _ _ _ h => h) (Or.inl (by kernel_rfl)) (Or.inr ⟨by rfl, rfl⟩) ?_
    try simp only [Act.put, List.setIfInBounds_toArray, List.set_cons_zero, List.set_cons_succ]
    refine wpG_pure (i := 37) (oi := { dst := some 51, op := Go.Op.binOp Go.BinOp.eql 3 (Go.Operand.tmp 50) (Go.Operand.const (Go.Value.int Go.IntKind.i64 6)) 3, type := 4, pos := "l10_topic.go:159", after := #[{ on := 36, ground := Go.Ground.data }, { on := 31, ground := Go.Ground.guard }], guard := some (31, false) }) (v := undef) rfl (by kernel_rfl) (fun _ _ _ h => h) (Or.inl (by kernel_rfl)) (Or.inr ⟨by rfl, rfl⟩) ?_
    try simp only [Act.put, List.setIfInBounds_toArray, List.set_cons_zero, List.set_cons_succ]
    refine wpG_pure (i := 38) (oi := { dst := some 52, op := Go.Op.pick (Go.Operand.tmp 45) (Go.Operand.const (Go.Value.bool true)) (Go.Operand.tmp 51), type := 4, pos := "l10_topic.go:159", after := #[{ on := 31, ground := Go.Ground.data }, { on := 37, ground := Go.Ground.data }], guard := none }) (v := ?vg78) rfl (by kernel_rfl) (fun _ _ _ h => h) (Or.inl (by kernel_rfl)) (Or.inl ⟨by rfl, ?yg78⟩) ?_
    case yg78 => (intro wS _; go_simp <;> with_reducible rfl)
    try simp only [Act.put, List.setIfInBounds_toArray, List.set_cons_zero, List.set_cons_succ]
    refine wpG_done (by kernel_rfl) ?_
    (go_wp2_with fail; go_ret; exact ⟨ret_bool HN.out.symm, HBD.out⟩)
  | true =>
  have HLL := Lib.hid hlv
  simp only [hlv, Bool.true_and] at HHD
  clear hlv
  by_cases hkd : kidR (t.take k) x.2.1 x.1 < 0
  case neg =>
    have hq : (fidx (kidP x.2.1 x.1) t != (k : Int)) = true := by simp only [bne_iff_ne, ne_eq]; exact fun h => hkd (HFX'.out.1 h)
    have HN := Lib.hid (HNH.out (by rw [HHD.out]; simp [hkd]))
    clear hkd
    generalize fidx (kidP x.2.1 x.1) t = fi at *
    go_enter Tryd.func83, Tryd.ntmps83
    go_wp2_with fail
    obtain ⟨wb, hwb⟩ : ∃ z : World, z = ((w.alloc (.cells #[.int .i64 (k : Int)] 3)).alloc (.cells #[.string x.1, .int .i64 x.2.1, .slice aw x.2.2.length cw] 58)) := ⟨_, rfl⟩
    rw [← hwb] at f0 g0 g1 g2 hsz HBA HB0 ⊢
    clear hwb
    have HBD : Hid (Below w.heap.size w wb.drew) := Lib.hid HBA.out.drew
    have HBD2 : Hid (Below (w.heap.size + 2) wb wb.drew) := Lib.hid ((Below.refl _ _).drew)
    have HFB : Hid (∀ w', Below (w.heap.size + 2) wb w' → w'.cell? ⟨w.heap.size, 0, none⟩ = some (.int .i64 (k : Int)) ∧ w'.cell? ⟨w.heap.size + 1, 0, none⟩ = some (.string x.1) ∧ w'.cell? ⟨w.heap.size + 1, 1, none⟩ = some (.int .i64 x.2.1)) := Lib.hid fun w' hb => ⟨below_cellk hb f0 (by omega), below_cellk hb g0 (by omega), below_cellk hb g1 (by omega)⟩
    refine wp_region_G [] (fun w' => w'.cell? ⟨w.heap.size, 0, none⟩ = some (.int .i64 (k : Int)) ∧ w'.cell? ⟨w.heap.size + 1, 0, none⟩ = some (.string x.1) ∧ w'.cell? ⟨w.heap.size + 1, 1, none⟩ = some (.int .i64 x.2.1)) (by kernel_rfl) ?_ (fun hHeld => ?_)
    · exact ⟨f0, g0, g1⟩
    refine wpG_pure (i := 0) (oi := { dst := some 14, op := Go.Op.fieldAddr 58 (Go.Operand.tmp 7) 1, type := 0, pos := "l10_topic.go:159", after := #[], guard := none }) (v := ?vg79) rfl (by kernel_rfl) (fun _ _ _ h => h) (Or.inr hHeld) (Or.inl ⟨by rfl, ?yg79⟩) ?_
    case yg79 => (intro wS _; go_simp <;> with_reducible rfl)
    try simp only [Act.put, List.setIfInBounds_toArray, List.set_cons_zero, List.set_cons_succ]
    refine wpG_load (i := 1) (oi := { dst := some 15, op := Go.Op.load 3 (Go.Operand.tmp 14), type := 3, pos := "l10_topic.go:159", after := #[{ on := 0, ground := Go.Ground.data }], guard := none }) (v := ?vg80) [] rfl (by kernel_rfl) (fun _ _ _ h => h) hHeld (Or.inl ⟨by rfl, ?yg80⟩) ?_
    case yg80 => (intro wS hSw; (try dsimp only at hSw); go_simp <;> with_reducible rfl)
    try simp only [Act.put, List.setIfInBounds_toArray, List.set_cons_zero, List.set_cons_succ]
    refine wpG_load (i := 2) (oi := { dst := some 16, op := Go.Op.load 3 (Go.Operand.tmp 4), type := 3, pos := "l10_topic.go:159", after := #[], guard := none }) (v := ?vg81) [] rfl (by kernel_rfl) (fun _ _ _ h => h) hHeld (Or.inl ⟨by rfl, ?yg81⟩) ?_
    case yg81 => (intro wS hSw; (try dsimp only at hSw); go_simp <;> with_reducible rfl)
    try simp only [Act.put, List.setIfInBounds_toArray, List.set_cons_zero, List.set_cons_succ]
    refine wpG_pure (i := 3) (oi := { dst := some 17, op := Go.Op.binOp Go.BinOp.sub 3 (Go.Operand.tmp 16) (Go.Operand.const (Go.Value.int Go.IntKind.i64 1)) 3, type := 3, pos := "l10_topic.go:159", after := #[{ on := 2, ground := Go.Ground.data }], guard := none }) (v := ?vg82) rfl (by kernel_rfl) (fun _ _ _ h => h) (Or.inr hHeld) (Or.inl ⟨by rfl, ?yg82⟩) ?_
    case yg82 => (intro wS _; go_simp <;> with_reducible rfl)
    try simp only [Act.put, List.setIfInBounds_toArray, List.set_cons_zero, List.set_cons_succ]
    refine wpG_one (i := 4) (o := { dst := some 18, op := Go.Op.call { callee := Go.Callee.value (Go.Operand.func 71), args := #[Go.Operand.tmp 15, Go.Operand.const (Go.Value.int Go.IntKind.i64 0), Go.Operand.tmp 17], argTypes := #[3, 3, 3] }, type := 4, pos := "l10_topic.go:159", after := #[{ on := 1, ground := Go.Ground.data }, { on := 3, ground := Go.Ground.data }], guard := none }) rfl (by kernel_rfl) (fun K hK => ?_)
    go_simp
    refine (HW.out _).mono ?_
    rw [← HUP.out]
    rintro e w' ⟨rfl, rfl⟩
    refine hK.out _ _ (Or.inr ?khHeld83) (fun hHeld83S => ?_)
    case khHeld83 => exact ⟨f0, g0, g1⟩
    have hHeld83 := hHeld83S.held (by kernel_rfl)
    clear hK K
    try simp only [Act.put, List.setIfInBounds_toArray, List.set_cons_zero, List.set_cons_succ]
    refine wpG_pure (i := 5) (oi := { dst := some 19, op := Go.Op.unOp Go.UnOp.not 4 (Go.Operand.tmp 18), type := 4, pos := "l10_topic.go:159", after := #[{ on := 4, ground := Go.Ground.data }], guard := none }) (v := ?vg84) rfl (by kernel_rfl) (fun _ _ _ h => h) (Or.inr hHeld83) (Or.inl ⟨by rfl, ?yg84⟩) ?_
    case yg84 => (intro wS _; go_simp <;> with_reducible rfl)
    try simp only [Act.put, List.setIfInBounds_toArray, List.set_cons_zero, List.set_cons_succ]
    refine wpG_pure (i := 6) (oi := { dst := some 20, op := Go.Op.move (Go.Operand.tmp 19), type := 4, pos := "l10_topic.go:159", after := #[{ on := 5, ground := Go.Ground.data }, { on := 4, ground := Go.Ground.chain }], guard := none }) (v := ?vg85) rfl (by kernel_rfl) (fun _ _ _ h => h) (Or.inr hHeld83) (Or.inl ⟨by rfl, ?yg85⟩) ?_
    case yg85 => (intro wS _; go_simp <;> with_reducible rfl)
    try simp only [Act.put, List.setIfInBounds_toArray, List.set_cons_zero, List.set_cons_succ]
    refine wpG_pure (i := 7) (oi := { dst := some 21, op := Go.Op.fieldAddr 58 (Go.Operand.tmp 7) 0, type := 0, pos := "l10_topic.go:159", after := #[{ on := 6, ground := Go.Ground.guard }], guard := some (6, false) }) (v := ?vg86) rfl (by kernel_rfl) (fun _ _ _ h => h) (Or.inr hHeld83) (Or.inl ⟨by rfl, ?yg86⟩) ?_
    case yg86 => (intro wS _; go_simp <;> with_reducible rfl)
    try simp only [Act.put, List.setIfInBounds_toArray, List.set_cons_zero, List.set_cons_succ]
    refine wpG_load (i := 8) (oi := { dst := some 22, op := Go.Op.load 9 (Go.Operand.tmp 21), type := 9, pos := "l10_topic.go:159", after := #[{ on := 7, ground := Go.Ground.data }, { on := 6, ground := Go.Ground.guard }], guard := some (6, false) }) (v := ?vg87) [] rfl (by kernel_rfl) (fun _ _ _ h => h) hHeld83 (Or.inl ⟨by rfl, ?yg87⟩) ?_
    case yg87 => (intro wS hSw; (try dsimp only at hSw); go_simp <;> with_reducible rfl)
    try simp only [Act.put, List.setIfInBounds_toArray, List.set_cons_zero, List.set_cons_succ]
    refine wpG_one (i := 9) (o := { dst := some 23, op := Go.Op.call { callee := Go.Callee.value (Go.Operand.func 74), args := #[Go.Operand.tmp 22], argTypes := #[9] }, type := 4, pos := "l10_topic.go:159", after := #[{ on := 8, ground := Go.Ground.data }, { on := 6, ground := Go.Ground.chain }, { on := 6, ground := Go.Ground.guard }], guard := some (6, false) }) rfl (by kernel_rfl) (fun K hK => ?_)
    go_simp
    refine (HLV.out _).mono ?_
    rw [HLL.out]
    rintro e w' ⟨rfl, rfl⟩
    refine hK.out _ _ (Or.inr ?khHeld88) (fun hHeld88S => ?_)
    case khHeld88 => exact ⟨f0, g0, g1⟩
    have hHeld88 := hHeld88S.held (by kernel_rfl)
    clear hK K
    try simp only [Act.put, List.setIfInBounds_toArray, List.set_cons_zero, List.set_cons_succ]
    refine wpG_pure (i := 10) (oi := { dst := some 24, op := Go.Op.unOp Go.UnOp.not 4 (Go.Operand.tmp 23), type := 4, pos := "l10_topic.go:159", after := #[{ on := 9, ground := Go.Ground.data }, { on := 6, ground := Go.Ground.guard }], guard := some (6, false) }) (v := ?vg89) rfl (by kernel_rfl) (fun _ _ _ h => h) (Or.inr hHeld88) (Or.inl ⟨by rfl, ?yg89⟩) ?_
    case yg89 => (intro wS _; go_simp <;> with_reducible rfl)
    try simp only [Act.put, List.setIfInBounds_toArray, List.set_cons_zero, List.set_cons_succ]
    refine wpG_pure (i := 11) (oi := { dst := some 25, op := Go.Op.pick (Go.Operand.tmp 20) (Go.Operand.const (Go.Value.bool true)) (Go.Operand.tmp 24), type := 4, pos := "l10_topic.go:159", after := #[{ on := 6, ground := Go.Ground.data }, { on := 10, ground := Go.Ground.data }], guard := none }) (v := ?vg90) rfl (by kernel_rfl) (fun _ _ _ h => h) (Or.inr hHeld88) (Or.inl ⟨by rfl, ?yg90⟩) ?_
    case yg90 => (intro wS _; go_simp <;> with_reducible rfl)
    try simp only [Act.put, List.setIfInBounds_toArray, List.set_cons_zero, List.set_cons_succ]
    refine wpG_pure (i := 12) (oi := { dst := some 26, op := Go.Op.move (Go.Operand.tmp 25), type := 4, pos := "l10_topic.go:159", after := #[{ on := 11, ground := Go.Ground.data }, { on := 9, ground := Go.Ground.chain }], guard := none }) (v := ?vg91) rfl (by kernel_rfl) (fun _ _ _ h => h) (Or.inr hHeld88) (Or.inl ⟨by rfl, ?yg91⟩) ?_
    case yg91 => (intro wS _; go_simp <;> with_reducible rfl)
    try simp only [Act.put, List.setIfInBounds_toArray, List.set_cons_zero, List.set_cons_succ]
    refine wpG_pure (i := 13) (oi := { dst := some 27, op := Go.Op.move (Go.Operand.tmp 0), type := 24, pos := "l10_topic.go:159", after := #[{ on := 12, ground := Go.Ground.guard }], guard := some (12, false) }) (v := ?vg92) rfl (by kernel_rfl) (fun _ _ _ h => h) (Or.inr hHeld88) (Or.inl ⟨by rfl, ?yg92⟩) ?_
    case yg92 => (intro wS _; go_simp <;> with_reducible rfl)
    try simp only [Act.put, List.setIfInBounds_toArray, List.set_cons_zero, List.set_cons_succ]
    refine wpG_pure (i := 14) (oi := { dst := some 28, op := Go.Op.fieldAddr 58 (Go.Operand.tmp 7) 1, type := 0, pos := "l10_topic.go:159", after := #[{ on := 12, ground := Go.Ground.guard }], guard := some (12, false) }) (v := ?vg93) rfl (by kernel_rfl) (fun _ _ _ h => h) (Or.inr hHeld88) (Or.inl ⟨by rfl, ?yg93⟩) ?_
    case yg93 => (intro wS _; go_simp <;> with_reducible rfl)
    try simp only [Act.put, List.setIfInBounds_toArray, List.set_cons_zero, List.set_cons_succ]
    refine wpG_load (i := 15) (oi := { dst := some 29, op := Go.Op.load 3 (Go.Operand.tmp 28), type := 3, pos := "l10_topic.go:159", after := #[{ on := 14, ground := Go.Ground.data }, { on := 12, ground := Go.Ground.guard }], guard := some (12, false) }) (v := ?vg94) [] rfl (by kernel_rfl) (fun _ _ _ h => h) hHeld88 (Or.inl ⟨by rfl, ?yg94⟩) ?_
    case yg94 => (intro wS hSw; (try dsimp only at hSw); go_simp <;> with_reducible rfl)
    try simp only [Act.put, List.setIfInBounds_toArray, List.set_cons_zero, List.set_cons_succ]
    refine wpG_pure (i := 16) (oi := { dst := some 30, op := Go.Op.fieldAddr 58 (Go.Operand.tmp 7) 0, type := 0, pos := "l10_topic.go:159", after := #[{ on := 12, ground := Go.Ground.guard }], guard := some (12, false) }) (v := ?vg95) rfl (by kernel_rfl) (fun _ _ _ h => h) (Or.inr hHeld88) (Or.inl ⟨by rfl, ?yg95⟩) ?_
    case yg95 => (intro wS _; go_simp <;> with_reducible rfl)
    try simp only [Act.put, List.setIfInBounds_toArray, List.set_cons_zero, List.set_cons_succ]
    refine wpG_load (i := 17) (oi := { dst := some 31, op := Go.Op.load 9 (Go.Operand.tmp 30), type := 9, pos := "l10_topic.go:159", after := #[{ on := 16, ground := Go.Ground.data }, { on := 12, ground := Go.Ground.guard }], guard := some (12, false) }) (v := ?vg96) [] rfl (by kernel_rfl) (fun _ _ _ h => h) hHeld88 (Or.inl ⟨by rfl, ?yg96⟩) ?_
    case yg96 => (intro wS hSw; (try dsimp only at hSw); go_simp <;> with_reducible rfl)
    try simp only [Act.put, List.setIfInBounds_toArray, List.set_cons_zero, List.set_cons_succ]
    refine wpG_load (i := 19) (oi := { dst := some 33, op := Go.Op.load 3 (Go.Operand.tmp 4), type := 3, pos := "l10_topic.go:159", after := #[{ on := 12, ground := Go.Ground.guard }], guard := some (12, false) }) (v := ?vg97) [] rfl (by kernel_rfl) (fun _ _ _ h => h) hHeld88 (Or.inl ⟨by rfl, ?yg97⟩) ?_
    case yg97 => (intro wS hSw; (try dsimp only at hSw); go_simp <;> with_reducible rfl)
    try simp only [Act.put, List.setIfInBounds_toArray, List.set_cons_zero, List.set_cons_succ]
    refine wpG_one (i := 18) (o := { dst := some 32, op := Go.Op.call { callee := Go.Callee.value (Go.Operand.func 45), args := #[Go.Operand.tmp 27, Go.Operand.tmp 29, Go.Operand.tmp 31], argTypes := #[24, 3, 9] }, type := 3, pos := "l10_topic.go:159", after := #[{ on := 13, ground := Go.Ground.data }, { on := 15, ground := Go.Ground.data }, { on := 17, ground := Go.Ground.data }, { on := 12, ground := Go.Ground.chain }, { on := 12, ground := Go.Ground.guard }], guard := some (12, false) }) rfl (by kernel_rfl) (fun K hK => ?_)
    go_simp
    refine (HKD.out _ HBD.out).mono ?_
    rintro e w3 ⟨rfl, hb3⟩
    have HB3 := Lib.hid (HBD2.out.trans (hb3.mono hsz)); clear hb3
    refine hK.out _ _ (Or.inr ?khHeld98) (fun hHeld98S => ?_)
    case khHeld98 => exact HFB.out _ HB3.out
    have hHeld98 := hHeld98S.held (by kernel_rfl)
    clear hK K
    try simp only [Act.put, List.setIfInBounds_toArray, List.set_cons_zero, List.set_cons_succ]
    refine wpG_pure (i := 20) (oi := { dst := some 34, op := Go.Op.binOp Go.BinOp.neq 3 (Go.Operand.tmp 32) (Go.Operand.tmp 33) 3, type := 4, pos := "l10_topic.go:159", after := #[{ on := 18, ground := Go.Ground.data }, { on := 19, ground := Go.Ground.data }, { on := 12, ground := Go.Ground.guard }], guard := some (12, false) }) (v := ?vg99) rfl (by kernel_rfl) (fun _ _ _ h => h) (Or.inr hHeld98) (Or.inl ⟨by rfl, ?yg99⟩) ?_
    case yg99 => (intro wS _; go_simp <;> with_reducible rfl)
    try simp only [Act.put, List.setIfInBounds_toArray, List.set_cons_zero, List.set_cons_succ]
    refine wpG_pure (i := 21) (oi := { dst := some 35, op := Go.Op.pick (Go.Operand.tmp 26) (Go.Operand.const (Go.Value.bool true)) (Go.Operand.tmp 34), type := 4, pos := "l10_topic.go:159", after := #[{ on := 12, ground := Go.Ground.data }, { on := 20, ground := Go.Ground.data }], guard := none }) (v := ?vg100) rfl (by kernel_rfl) (fun _ _ _ h => h) (Or.inr hHeld98) (Or.inl ⟨by rfl, ?yg100⟩) ?_
    case yg100 => (intro wS _; go_simp <;> with_reducible rfl)
    try simp only [Act.put, List.setIfInBounds_toArray, List.set_cons_zero, List.set_cons_succ]
    refine wpG_pure (i := 22) (oi := { dst := some 36, op := Go.Op.move (Go.Operand.tmp 35), type := 4, pos := "l10_topic.go:159", after := #[{ on := 21, ground := Go.Ground.data }, { on := 18, ground := Go.Ground.chain }], guard := none }) (v := ?vg101) rfl (by kernel_rfl) (fun _ _ _ h => h) (Or.inr hHeld98) (Or.inl ⟨by rfl, ?yg101⟩) ?_
    case yg101 => (intro wS _; go_simp <;> with_reducible rfl)
    try simp only [Act.put, List.setIfInBounds_toArray, List.set_cons_zero, List.set_cons_succ]
    refine wpG_pure (i := 23) (oi := { dst := some 37, op := Go.Op.move (Go.Operand.tmp 0), type := 24, pos := "l10_topic.go:159", after := #[{ on := 22, ground := Go.Ground.guard }], guard := some (22, false) }) (v := undef) rfl (by kernel_rfl) (fun _ _ _ h => h) (Or.inr hHeld98) (Or.inr ⟨by rfl, rfl⟩) ?_
    try simp only [Act.put, List.setIfInBounds_toArray, List.set_cons_zero, List.set_cons_succ]
    refine wpG_pure (i := 24) (oi := { dst := some 38, op := Go.Op.fieldAddr 58 (Go.Operand.tmp 7) 1, type := 0, pos := "l10_topic.go:159", after := #[{ on := 22, ground := Go.Ground.guard }], guard := some (22, false) }) (v := undef) rfl (by kernel_rfl) (fun _ _ _ h => h) (Or.inr hHeld98) (Or.inr ⟨by rfl, rfl⟩) ?_
    try simp only [Act.put, List.setIfInBounds_toArray, List.set_cons_zero, List.set_cons_succ]
    refine wpG_pure (i := 25) (oi := { dst := some 39, op := Go.Op.load 3 (Go.Operand.tmp 38), type := 3, pos := "l10_topic.go:159", after := #[{ on := 24, ground := Go.Ground.data }, { on := 22, ground := Go.Ground.guard }], guard := some (22, false) }) (v := undef) rfl (by kernel_rfl) (fun _ _ _ h => h) (Or.inr hHeld98) (Or.inr ⟨by rfl, rfl⟩) ?_
    try simp only [Act.put, List.setIfInBounds_toArray, List.set_cons_zero, List.set_cons_succ]
    refine wpG_pure (i := 26) (oi := { dst := some 40, op := Go.Op.indexAddr 24 (Go.Operand.tmp 37) (Go.Operand.tmp 39), type := 0, pos := "l10_topic.go:159", after := #[{ on := 23, ground := Go.Ground.data }, { on := 25, ground := Go.Ground.data }, { on := 22, ground := Go.Ground.guard }], guard := some (22, false) }) (v := undef) rfl (by kernel_rfl) (fun _ _ _ h => h) (Or.inr hHeld98) (Or.inr ⟨by rfl, rfl⟩) ?_
    try simp only [Act.put, List.setIfInBounds_toArray, List.set_cons_zero, List.set_cons_succ]
    refine wpG_pure (i := 27) (oi := { dst := some 41, op := Go.Op.fieldAddr 58 (Go.Operand.tmp 40) 0, type := 0, pos := "l10_topic.go:159", after := #[{ on := 26, ground := Go.Ground.data }, { on := 22, ground := Go.Ground.guard }], guard := some (22, false) }) (v := undef) rfl (by kernel_rfl) (fun _ _ _ h => h) (Or.inr hHeld98) (Or.inr ⟨by rfl, rfl⟩) ?_
    try simp only [Act.put, List.setIfInBounds_toArray, List.set_cons_zero, List.set_cons_succ]
    refine wpG_pure (i := 28) (oi := { dst := some 42, op := Go.Op.load 9 (Go.Operand.tmp 41), type := 9, pos := "l10_topic.go:159", after := #[{ on := 27, ground := Go.Ground.data }, { on := 22, ground := Go.Ground.guard }], guard := some (22, false) }) (v := undef) rfl (by kernel_rfl) (fun _ _ _ h => h) (Or.inr hHeld98) (Or.inr ⟨by rfl, rfl⟩) ?_
    try simp only [Act.put, List.setIfInBounds_toArray, List.set_cons_zero, List.set_cons_succ]
    refine wpG_pure (i := 29) (oi := { dst := some 43, op := Go.Op.binOp Go.BinOp.eql 9 (Go.Operand.tmp 42) (Go.Operand.const (Go.Value.string { data := #[35] })) 9, type := 4, pos := "l10_topic.go:159", after := #[{ on := 28, ground := Go.Ground.data }, { on := 22, ground := Go.Ground.guard }], guard := some (22, false) }) (v := undef) rfl (by kernel_rfl) (fun _ _ _ h => h) (Or.inr hHeld98) (Or.inr ⟨by rfl, rfl⟩) ?_
    try simp only [Act.put, List.setIfInBounds_toArray, List.set_cons_zero, List.set_cons_succ]
    refine wpG_pure (i := 30) (oi := { dst := some 44, op := Go.Op.pick (Go.Operand.tmp 36) (Go.Operand.const (Go.Value.bool true)) (Go.Operand.tmp 43), type := 4, pos := "l10_topic.go:159", after := #[{ on := 22, ground := Go.Ground.data }, { on := 29, ground := Go.Ground.data }], guard := none }) (v := ?vg109) rfl (by kernel_rfl) (fun _ _ _ h => h) (Or.inr hHeld98) (Or.inl ⟨by rfl, ?yg109⟩) ?_
    case yg109 => (intro wS _; go_simp <;> with_reducible rfl)
    try simp only [Act.put, List.setIfInBounds_toArray, List.set_cons_zero, List.set_cons_succ]
    refine wpG_pure (i := 31) (oi := { dst := some 45, op := Go.Op.move (Go.Operand.tmp 44), type := 4, pos := "l10_topic.go:159", after := #[{ on := 30, ground := Go.Ground.data }, { on := 22, ground := Go.Ground.chain }], guard := none }) (v := ?vg110) rfl (by kernel_rfl) (fun _ _ _ h => h) (Or.inr hHeld98) (Or.inl ⟨by rfl, ?yg110⟩) ?_
    case yg110 => (intro wS _; go_simp <;> with_reducible rfl)
    try simp only [Act.put, List.setIfInBounds_toArray, List.set_cons_zero, List.set_cons_succ]
    refine wpG_pure (i := 32) (oi := { dst := some 46, op := Go.Op.move (Go.Operand.tmp 2), type := 36, pos := "l10_topic.go:159", after := #[{ on := 31, ground := Go.Ground.guard }], guard := some (31, false) }) (v := undef) rfl (by kernel_rfl) (fun _ _ _ h => h) (Or.inr hHeld98) (Or.inr ⟨by rfl, rfl⟩) ?_
    try simp only [Act.put, List.setIfInBounds_toArray, List.set_cons_zero, List.set_cons_succ]
    refine wpG_pure (i := 33) (oi := { dst := some 47, op := Go.Op.fieldAddr 58 (Go.Operand.tmp 7) 1, type := 0, pos := "l10_topic.go:159", after := #[{ on := 31, ground := Go.Ground.guard }], guard := some (31, false) }) (v := undef) rfl (by kernel_rfl) (fun _ _ _ h => h) (Or.inr hHeld98) (Or.inr ⟨by rfl, rfl⟩) ?_
    try simp only [Act.put, List.setIfInBounds_toArray, List.set_cons_zero, List.set_cons_succ]
    refine wpG_pure (i := 34) (oi := { dst := some 48, op := Go.Op.load 3 (Go.Operand.tmp 47), type := 3, pos := "l10_topic.go:159", after := #[{ on := 33, ground := Go.Ground.data }, { on := 31, ground := Go.Ground.guard }], guard := some (31, false) }) (v := undef) rfl (by kernel_rfl) (fun _ _ _ h => h) (Or.inr hHeld98) (Or.inr ⟨by rfl, rfl⟩) ?_
    try simp only [Act.put, List.setIfInBounds_toArray, List.set_cons_zero, List.set_cons_succ]
    refine wpG_pure (i := 35) (oi := { dst := some 49, op := Go.Op.indexAddr 36 (Go.Operand.tmp 46) (Go.Operand.tmp 48), type := 0, pos := "l10_topic.go:159", after := #[{ on := 32, ground := Go.Ground.data }, { on := 34, ground := Go.Ground.data }, { on := 31, ground := Go.Ground.guard }], guard := some (31, false) }) (v := undef) rfl (by kernel_rfl) (fun _ _ _ h => h) (Or.inr hHeld98) (Or.inr ⟨by rfl, rfl⟩) ?_
    try simp only [Act.put, List.setIfInBounds_toArray, List.set_cons_zero, List.set_cons_succ]
    refine wpG_pure (i := 36) (oi := { dst := some 50, op := Go.Op.load 3 (Go.Operand.tmp 49), type := 3, pos := "l10_topic.go:159", after := #[{ on := 35, ground := Go.Ground.data }, { on := 31, ground := Go.Ground.guard }], guard := some (31, false) }) (v := undef) rfl (by kernel_rfl) (fun _ _ _ h => h) (Or.inr hHeld98) (Or.inr ⟨by rfl, rfl⟩) ?_
    try simp only [Act.put, List.setIfInBounds_toArray, List.set_cons_zero, List.set_cons_succ]
    refine wpG_pure (i := 37) (oi := { dst := some 51, op := Go.Op.binOp Go.BinOp.eql 3 (Go.Operand.tmp 50) (Go.Operand.const (Go.Value.int Go.IntKind.i64 6)) 3, type := 4, pos := "l10_topic.go:159", after := #[{ on := 36, ground := Go.Ground.data }, { on := 31, ground := Go.Ground.guard }], guard := some (31, false) }) (v := undef) rfl (by kernel_rfl) (fun _ _ _ h => h) (Or.inr hHeld98) (Or.inr ⟨by rfl, rfl⟩) ?_
    try simp only [Act.put, List.setIfInBounds_toArray, List.set_cons_zero, List.set_cons_succ]
    refine wpG_pure (i := 38) (oi := { dst := some 52, op := Go.Op.pick (Go.Operand.tmp 45) (Go.Operand.const (Go.Value.bool true)) (Go.Operand.tmp 51), type := 4, pos := "l10_topic.go:159", after := #[{ on := 31, ground := Go.Ground.data }, { on := 37, ground := Go.Ground.data }], guard := none }) (v := ?vg117) rfl (by kernel_rfl) (fun _ _ _ h => h) (Or.inr hHeld98) (Or.inl ⟨by rfl, ?yg117⟩) ?_
    case yg117 => (intro wS _; go_simp <;> with_reducible rfl)
    try simp only [Act.put, List.setIfInBounds_toArray, List.set_cons_zero, List.set_cons_succ]
    refine wpG_done (by kernel_rfl) ?_
    (go_wp2_with fail; go_ret; exact ⟨ret_bool HN.out.symm, above3' HBA.out HB3.out⟩)
  have hq : (fidx (kidP x.2.1 x.1) t != (k : Int)) = false := by simp only [bne_eq_false_iff_eq]; exact HFX'.out.2 hkd
  simp only [hkd, decide_true, Bool.true_and, Bool.and_true] at HHD
  have huy := HUY.out
  rw [nd_at HHX.out] at huy
  have hu0 := huy.1; have hu1 := huy.2
  have hu2' : x.2.1 < (t.length : Int) := by omega
  have hpk : x.2.1.toNat < k := by omega
  obtain ⟨y, bp, offp, awp, cwp, hy, hap, _, p0, p1, p2, hs2, _, _⟩ := nd_cells H.out (show x.2.1.toNat < t.length by omega)
  simp only [Option.some.injEq, Addr.mk.injEq, and_true] at hap
  obtain ⟨rfl, rfl⟩ := hap
  have hny := nd_at hy
  rw [hny] at HHD
  have hdp := HDP.out _ hpk
  clear hkd huy hy hny HFX' HUY p1 p2
  generalize fidx (kidP x.2.1 x.1) t = fi at *
  cases hmo : (y.1.toList == [35]) with
  | true =>
    have HN := Lib.hid (HNH.out (by simp only [beq_iff_eq] at hmo; rw [HHD.out, (is1 y.1 35).1 hmo]; simp [more]))
    go_enter Tryd.func83, Tryd.ntmps83
    go_wp2_with fail
    obtain ⟨wb, hwb⟩ : ∃ z : World, z = ((w.alloc (.cells #[.int .i64 (k : Int)] 3)).alloc (.cells #[.string x.1, .int .i64 x.2.1, .slice aw x.2.2.length cw] 58)) := ⟨_, rfl⟩
    rw [← hwb] at f0 g0 g1 g2 hsz HBA HB0 ⊢
    clear hwb
    have HBD : Hid (Below w.heap.size w wb.drew) := Lib.hid HBA.out.drew
    have HBD2 : Hid (Below (w.heap.size + 2) wb wb.drew) := Lib.hid ((Below.refl _ _).drew)
    have d1 : wb.cell? ⟨b, off + x.2.1.toNat * 3, none⟩ = some (.string y.1) := below_cellk HBA.out p0 hbl
    have d2 : wb.cell? ⟨gd, x.2.1.toNat, none⟩ = some (.int .i64 ((depR t x.2.1.toNat x.2.1.toNat : Nat) : Int)) := below_cellk HBA.out (HD.out _ hpk) hgd
    have HFB : Hid (∀ w', Below (w.heap.size + 2) wb w' → w'.cell? ⟨w.heap.size, 0, none⟩ = some (.int .i64 (k : Int)) ∧ w'.cell? ⟨w.heap.size + 1, 0, none⟩ = some (.string x.1) ∧ w'.cell? ⟨w.heap.size + 1, 1, none⟩ = some (.int .i64 x.2.1) ∧ w'.cell? ⟨b, off + x.2.1.toNat * 3, none⟩ = some (.string y.1) ∧ w'.cell? ⟨gd, x.2.1.toNat, none⟩ = some (.int .i64 ((depR t x.2.1.toNat x.2.1.toNat : Nat) : Int))) := Lib.hid fun w' hb => ⟨below_cellk hb f0 (by omega), below_cellk hb g0 (by omega), below_cellk hb g1 (by omega), below_cellk hb d1 (by omega), below_cellk hb d2 (by omega)⟩
    refine wp_region_G [] (fun w' => w'.cell? ⟨w.heap.size, 0, none⟩ = some (.int .i64 (k : Int)) ∧ w'.cell? ⟨w.heap.size + 1, 0, none⟩ = some (.string x.1) ∧ w'.cell? ⟨w.heap.size + 1, 1, none⟩ = some (.int .i64 x.2.1) ∧ w'.cell? ⟨b, off + x.2.1.toNat * 3, none⟩ = some (.string y.1) ∧ w'.cell? ⟨gd, x.2.1.toNat, none⟩ = some (.int .i64 ((depR t x.2.1.toNat x.2.1.toNat : Nat) : Int))) (by kernel_rfl) ?_ (fun hHeld => ?_)
    · exact ⟨f0, g0, g1, d1, d2⟩
    refine wpG_pure (i := 0) (oi := { dst := some 14, op := Go.Op.fieldAddr 58 (Go.Operand.tmp 7) 1, type := 0, pos := "l10_topic.go:159", after := #[], guard := none }) (v := ?vg118) rfl (by kernel_rfl) (fun _ _ _ h => h) (Or.inr hHeld) (Or.inl ⟨by rfl, ?yg118⟩) ?_
    case yg118 => (intro wS _; go_simp <;> with_reducible rfl)
    try simp only [Act.put, List.setIfInBounds_toArray, List.set_cons_zero, List.set_cons_succ]
    refine wpG_load (i := 1) (oi := { dst := some 15, op := Go.Op.load 3 (Go.Operand.tmp 14), type := 3, pos := "l10_topic.go:159", after := #[{ on := 0, ground := Go.Ground.data }], guard := none }) (v := ?vg119) [] rfl (by kernel_rfl) (fun _ _ _ h => h) hHeld (Or.inl ⟨by rfl, ?yg119⟩) ?_
    case yg119 => (intro wS hSw; (try dsimp only at hSw); go_simp <;> with_reducible rfl)
    try simp only [Act.put, List.setIfInBounds_toArray, List.set_cons_zero, List.set_cons_succ]
    refine wpG_load (i := 2) (oi := { dst := some 16, op := Go.Op.load 3 (Go.Operand.tmp 4), type := 3, pos := "l10_topic.go:159", after := #[], guard := none }) (v := ?vg120) [] rfl (by kernel_rfl) (fun _ _ _ h => h) hHeld (Or.inl ⟨by rfl, ?yg120⟩) ?_
    case yg120 => (intro wS hSw; (try dsimp only at hSw); go_simp <;> with_reducible rfl)
    try simp only [Act.put, List.setIfInBounds_toArray, List.set_cons_zero, List.set_cons_succ]
    refine wpG_pure (i := 3) (oi := { dst := some 17, op := Go.Op.binOp Go.BinOp.sub 3 (Go.Operand.tmp 16) (Go.Operand.const (Go.Value.int Go.IntKind.i64 1)) 3, type := 3, pos := "l10_topic.go:159", after := #[{ on := 2, ground := Go.Ground.data }], guard := none }) (v := ?vg121) rfl (by kernel_rfl) (fun _ _ _ h => h) (Or.inr hHeld) (Or.inl ⟨by rfl, ?yg121⟩) ?_
    case yg121 => (intro wS _; go_simp <;> with_reducible rfl)
    try simp only [Act.put, List.setIfInBounds_toArray, List.set_cons_zero, List.set_cons_succ]
    refine wpG_one (i := 4) (o := { dst := some 18, op := Go.Op.call { callee := Go.Callee.value (Go.Operand.func 71), args := #[Go.Operand.tmp 15, Go.Operand.const (Go.Value.int Go.IntKind.i64 0), Go.Operand.tmp 17], argTypes := #[3, 3, 3] }, type := 4, pos := "l10_topic.go:159", after := #[{ on := 1, ground := Go.Ground.data }, { on := 3, ground := Go.Ground.data }], guard := none }) rfl (by kernel_rfl) (fun K hK => ?_)
    go_simp
    refine (HW.out _).mono ?_
    rw [← HUP.out]
    rintro e w' ⟨rfl, rfl⟩
    refine hK.out _ _ (Or.inr ?khHeld122) (fun hHeld122S => ?_)
    case khHeld122 => exact ⟨f0, g0, g1, d1, d2⟩
    have hHeld122 := hHeld122S.held (by kernel_rfl)
    clear hK K
    try simp only [Act.put, List.setIfInBounds_toArray, List.set_cons_zero, List.set_cons_succ]
    refine wpG_pure (i := 5) (oi := { dst := some 19, op := Go.Op.unOp Go.UnOp.not 4 (Go.Operand.tmp 18), type := 4, pos := "l10_topic.go:159", after := #[{ on := 4, ground := Go.Ground.data }], guard := none }) (v := ?vg123) rfl (by kernel_rfl) (fun _ _ _ h => h) (Or.inr hHeld122) (Or.inl ⟨by rfl, ?yg123⟩) ?_
    case yg123 => (intro wS _; go_simp <;> with_reducible rfl)
    try simp only [Act.put, List.setIfInBounds_toArray, List.set_cons_zero, List.set_cons_succ]
    refine wpG_pure (i := 6) (oi := { dst := some 20, op := Go.Op.move (Go.Operand.tmp 19), type := 4, pos := "l10_topic.go:159", after := #[{ on := 5, ground := Go.Ground.data }, { on := 4, ground := Go.Ground.chain }], guard := none }) (v := ?vg124) rfl (by kernel_rfl) (fun _ _ _ h => h) (Or.inr hHeld122) (Or.inl ⟨by rfl, ?yg124⟩) ?_
    case yg124 => (intro wS _; go_simp <;> with_reducible rfl)
    try simp only [Act.put, List.setIfInBounds_toArray, List.set_cons_zero, List.set_cons_succ]
    refine wpG_pure (i := 7) (oi := { dst := some 21, op := Go.Op.fieldAddr 58 (Go.Operand.tmp 7) 0, type := 0, pos := "l10_topic.go:159", after := #[{ on := 6, ground := Go.Ground.guard }], guard := some (6, false) }) (v := ?vg125) rfl (by kernel_rfl) (fun _ _ _ h => h) (Or.inr hHeld122) (Or.inl ⟨by rfl, ?yg125⟩) ?_
    case yg125 => (intro wS _; go_simp <;> with_reducible rfl)
    try simp only [Act.put, List.setIfInBounds_toArray, List.set_cons_zero, List.set_cons_succ]
    refine wpG_load (i := 8) (oi := { dst := some 22, op := Go.Op.load 9 (Go.Operand.tmp 21), type := 9, pos := "l10_topic.go:159", after := #[{ on := 7, ground := Go.Ground.data }, { on := 6, ground := Go.Ground.guard }], guard := some (6, false) }) (v := ?vg126) [] rfl (by kernel_rfl) (fun _ _ _ h => h) hHeld122 (Or.inl ⟨by rfl, ?yg126⟩) ?_
    case yg126 => (intro wS hSw; (try dsimp only at hSw); go_simp <;> with_reducible rfl)
    try simp only [Act.put, List.setIfInBounds_toArray, List.set_cons_zero, List.set_cons_succ]
    refine wpG_one (i := 9) (o := { dst := some 23, op := Go.Op.call { callee := Go.Callee.value (Go.Operand.func 74), args := #[Go.Operand.tmp 22], argTypes := #[9] }, type := 4, pos := "l10_topic.go:159", after := #[{ on := 8, ground := Go.Ground.data }, { on := 6, ground := Go.Ground.chain }, { on := 6, ground := Go.Ground.guard }], guard := some (6, false) }) rfl (by kernel_rfl) (fun K hK => ?_)
    go_simp
    refine (HLV.out _).mono ?_
    rw [HLL.out]
    rintro e w' ⟨rfl, rfl⟩
    refine hK.out _ _ (Or.inr ?khHeld127) (fun hHeld127S => ?_)
    case khHeld127 => exact ⟨f0, g0, g1, d1, d2⟩
    have hHeld127 := hHeld127S.held (by kernel_rfl)
    clear hK K
    try simp only [Act.put, List.setIfInBounds_toArray, List.set_cons_zero, List.set_cons_succ]
    refine wpG_pure (i := 10) (oi := { dst := some 24, op := Go.Op.unOp Go.UnOp.not 4 (Go.Operand.tmp 23), type := 4, pos := "l10_topic.go:159", after := #[{ on := 9, ground := Go.Ground.data }, { on := 6, ground := Go.Ground.guard }], guard := some (6, false) }) (v := ?vg128) rfl (by kernel_rfl) (fun _ _ _ h => h) (Or.inr hHeld127) (Or.inl ⟨by rfl, ?yg128⟩) ?_
    case yg128 => (intro wS _; go_simp <;> with_reducible rfl)
    try simp only [Act.put, List.setIfInBounds_toArray, List.set_cons_zero, List.set_cons_succ]
    refine wpG_pure (i := 11) (oi := { dst := some 25, op := Go.Op.pick (Go.Operand.tmp 20) (Go.Operand.const (Go.Value.bool true)) (Go.Operand.tmp 24), type := 4, pos := "l10_topic.go:159", after := #[{ on := 6, ground := Go.Ground.data }, { on := 10, ground := Go.Ground.data }], guard := none }) (v := ?vg129) rfl (by kernel_rfl) (fun _ _ _ h => h) (Or.inr hHeld127) (Or.inl ⟨by rfl, ?yg129⟩) ?_
    case yg129 => (intro wS _; go_simp <;> with_reducible rfl)
    try simp only [Act.put, List.setIfInBounds_toArray, List.set_cons_zero, List.set_cons_succ]
    refine wpG_pure (i := 12) (oi := { dst := some 26, op := Go.Op.move (Go.Operand.tmp 25), type := 4, pos := "l10_topic.go:159", after := #[{ on := 11, ground := Go.Ground.data }, { on := 9, ground := Go.Ground.chain }], guard := none }) (v := ?vg130) rfl (by kernel_rfl) (fun _ _ _ h => h) (Or.inr hHeld127) (Or.inl ⟨by rfl, ?yg130⟩) ?_
    case yg130 => (intro wS _; go_simp <;> with_reducible rfl)
    try simp only [Act.put, List.setIfInBounds_toArray, List.set_cons_zero, List.set_cons_succ]
    refine wpG_pure (i := 13) (oi := { dst := some 27, op := Go.Op.move (Go.Operand.tmp 0), type := 24, pos := "l10_topic.go:159", after := #[{ on := 12, ground := Go.Ground.guard }], guard := some (12, false) }) (v := ?vg131) rfl (by kernel_rfl) (fun _ _ _ h => h) (Or.inr hHeld127) (Or.inl ⟨by rfl, ?yg131⟩) ?_
    case yg131 => (intro wS _; go_simp <;> with_reducible rfl)
    try simp only [Act.put, List.setIfInBounds_toArray, List.set_cons_zero, List.set_cons_succ]
    refine wpG_pure (i := 14) (oi := { dst := some 28, op := Go.Op.fieldAddr 58 (Go.Operand.tmp 7) 1, type := 0, pos := "l10_topic.go:159", after := #[{ on := 12, ground := Go.Ground.guard }], guard := some (12, false) }) (v := ?vg132) rfl (by kernel_rfl) (fun _ _ _ h => h) (Or.inr hHeld127) (Or.inl ⟨by rfl, ?yg132⟩) ?_
    case yg132 => (intro wS _; go_simp <;> with_reducible rfl)
    try simp only [Act.put, List.setIfInBounds_toArray, List.set_cons_zero, List.set_cons_succ]
    refine wpG_load (i := 15) (oi := { dst := some 29, op := Go.Op.load 3 (Go.Operand.tmp 28), type := 3, pos := "l10_topic.go:159", after := #[{ on := 14, ground := Go.Ground.data }, { on := 12, ground := Go.Ground.guard }], guard := some (12, false) }) (v := ?vg133) [] rfl (by kernel_rfl) (fun _ _ _ h => h) hHeld127 (Or.inl ⟨by rfl, ?yg133⟩) ?_
    case yg133 => (intro wS hSw; (try dsimp only at hSw); go_simp <;> with_reducible rfl)
    try simp only [Act.put, List.setIfInBounds_toArray, List.set_cons_zero, List.set_cons_succ]
    refine wpG_pure (i := 16) (oi := { dst := some 30, op := Go.Op.fieldAddr 58 (Go.Operand.tmp 7) 0, type := 0, pos := "l10_topic.go:159", after := #[{ on := 12, ground := Go.Ground.guard }], guard := some (12, false) }) (v := ?vg134) rfl (by kernel_rfl) (fun _ _ _ h => h) (Or.inr hHeld127) (Or.inl ⟨by rfl, ?yg134⟩) ?_
    case yg134 => (intro wS _; go_simp <;> with_reducible rfl)
    try simp only [Act.put, List.setIfInBounds_toArray, List.set_cons_zero, List.set_cons_succ]
    refine wpG_load (i := 17) (oi := { dst := some 31, op := Go.Op.load 9 (Go.Operand.tmp 30), type := 9, pos := "l10_topic.go:159", after := #[{ on := 16, ground := Go.Ground.data }, { on := 12, ground := Go.Ground.guard }], guard := some (12, false) }) (v := ?vg135) [] rfl (by kernel_rfl) (fun _ _ _ h => h) hHeld127 (Or.inl ⟨by rfl, ?yg135⟩) ?_
    case yg135 => (intro wS hSw; (try dsimp only at hSw); go_simp <;> with_reducible rfl)
    try simp only [Act.put, List.setIfInBounds_toArray, List.set_cons_zero, List.set_cons_succ]
    refine wpG_load (i := 19) (oi := { dst := some 33, op := Go.Op.load 3 (Go.Operand.tmp 4), type := 3, pos := "l10_topic.go:159", after := #[{ on := 12, ground := Go.Ground.guard }], guard := some (12, false) }) (v := ?vg136) [] rfl (by kernel_rfl) (fun _ _ _ h => h) hHeld127 (Or.inl ⟨by rfl, ?yg136⟩) ?_
    case yg136 => (intro wS hSw; (try dsimp only at hSw); go_simp <;> with_reducible rfl)
    try simp only [Act.put, List.setIfInBounds_toArray, List.set_cons_zero, List.set_cons_succ]
    refine wpG_one (i := 18) (o := { dst := some 32, op := Go.Op.call { callee := Go.Callee.value (Go.Operand.func 45), args := #[Go.Operand.tmp 27, Go.Operand.tmp 29, Go.Operand.tmp 31], argTypes := #[24, 3, 9] }, type := 3, pos := "l10_topic.go:159", after := #[{ on := 13, ground := Go.Ground.data }, { on := 15, ground := Go.Ground.data }, { on := 17, ground := Go.Ground.data }, { on := 12, ground := Go.Ground.chain }, { on := 12, ground := Go.Ground.guard }], guard := some (12, false) }) rfl (by kernel_rfl) (fun K hK => ?_)
    go_simp
    refine (HKD.out _ HBD.out).mono ?_
    rintro e w3 ⟨rfl, hb3⟩
    have HB3 := Lib.hid (HBD2.out.trans (hb3.mono hsz)); clear hb3
    refine hK.out _ _ (Or.inr ?khHeld137) (fun hHeld137S => ?_)
    case khHeld137 => exact HFB.out _ HB3.out
    have hHeld137 := hHeld137S.held (by kernel_rfl)
    clear hK K
    try simp only [Act.put, List.setIfInBounds_toArray, List.set_cons_zero, List.set_cons_succ]
    refine wpG_pure (i := 20) (oi := { dst := some 34, op := Go.Op.binOp Go.BinOp.neq 3 (Go.Operand.tmp 32) (Go.Operand.tmp 33) 3, type := 4, pos := "l10_topic.go:159", after := #[{ on := 18, ground := Go.Ground.data }, { on := 19, ground := Go.Ground.data }, { on := 12, ground := Go.Ground.guard }], guard := some (12, false) }) (v := ?vg138) rfl (by kernel_rfl) (fun _ _ _ h => h) (Or.inr hHeld137) (Or.inl ⟨by rfl, ?yg138⟩) ?_
    case yg138 => (intro wS _; go_simp <;> with_reducible rfl)
    try simp only [Act.put, List.setIfInBounds_toArray, List.set_cons_zero, List.set_cons_succ]
    refine wpG_pure (i := 21) (oi := { dst := some 35, op := Go.Op.pick (Go.Operand.tmp 26) (Go.Operand.const (Go.Value.bool true)) (Go.Operand.tmp 34), type := 4, pos := "l10_topic.go:159", after := #[{ on := 12, ground := Go.Ground.data }, { on := 20, ground := Go.Ground.data }], guard := none }) (v := ?vg139) rfl (by kernel_rfl) (fun _ _ _ h => h) (Or.inr hHeld137) (Or.inl ⟨by rfl, ?yg139⟩) ?_
    case yg139 => (intro wS _; go_simp <;> with_reducible rfl)
    try simp only [Act.put, List.setIfInBounds_toArray, List.set_cons_zero, List.set_cons_succ]
    refine wpG_pure (i := 22) (oi := { dst := some 36, op := Go.Op.move (Go.Operand.tmp 35), type := 4, pos := "l10_topic.go:159", after := #[{ on := 21, ground := Go.Ground.data }, { on := 18, ground := Go.Ground.chain }], guard := none }) (v := ?vg140) rfl (by kernel_rfl) (fun _ _ _ h => h) (Or.inr hHeld137) (Or.inl ⟨by rfl, ?yg140⟩) ?_
    case yg140 => (intro wS _; go_simp <;> with_reducible rfl)
    try simp only [Act.put, List.setIfInBounds_toArray, List.set_cons_zero, List.set_cons_succ]
    refine wpG_pure (i := 23) (oi := { dst := some 37, op := Go.Op.move (Go.Operand.tmp 0), type := 24, pos := "l10_topic.go:159", after := #[{ on := 22, ground := Go.Ground.guard }], guard := some (22, false) }) (v := ?vg141) rfl (by kernel_rfl) (fun _ _ _ h => h) (Or.inr hHeld137) (Or.inl ⟨by rfl, ?yg141⟩) ?_
    case yg141 => (intro wS _; go_simp <;> with_reducible rfl)
    try simp only [Act.put, List.setIfInBounds_toArray, List.set_cons_zero, List.set_cons_succ]
    refine wpG_pure (i := 24) (oi := { dst := some 38, op := Go.Op.fieldAddr 58 (Go.Operand.tmp 7) 1, type := 0, pos := "l10_topic.go:159", after := #[{ on := 22, ground := Go.Ground.guard }], guard := some (22, false) }) (v := ?vg142) rfl (by kernel_rfl) (fun _ _ _ h => h) (Or.inr hHeld137) (Or.inl ⟨by rfl, ?yg142⟩) ?_
    case yg142 => (intro wS _; go_simp <;> with_reducible rfl)
    try simp only [Act.put, List.setIfInBounds_toArray, List.set_cons_zero, List.set_cons_succ]
    refine wpG_load (i := 25) (oi := { dst := some 39, op := Go.Op.load 3 (Go.Operand.tmp 38), type := 3, pos := "l10_topic.go:159", after := #[{ on := 24, ground := Go.Ground.data }, { on := 22, ground := Go.Ground.guard }], guard := some (22, false) }) (v := ?vg143) [] rfl (by kernel_rfl) (fun _ _ _ h => h) hHeld137 (Or.inl ⟨by rfl, ?yg143⟩) ?_
    case yg143 => (intro wS hSw; (try dsimp only at hSw); go_simp <;> with_reducible rfl)
    try simp only [Act.put, List.setIfInBounds_toArray, List.set_cons_zero, List.set_cons_succ]
    refine wpG_pure (i := 26) (oi := { dst := some 40, op := Go.Op.indexAddr 24 (Go.Operand.tmp 37) (Go.Operand.tmp 39), type := 0, pos := "l10_topic.go:159", after := #[{ on := 23, ground := Go.Ground.data }, { on := 25, ground := Go.Ground.data }, { on := 22, ground := Go.Ground.guard }], guard := some (22, false) }) (v := ?vg144) rfl (by kernel_rfl) (fun _ _ _ h => h) (Or.inr hHeld137) (Or.inl ⟨by rfl, ?yg144⟩) ?_
    case yg144 => (intro wS _; go_simp <;> with_reducible rfl)
    try simp only [Act.put, List.setIfInBounds_toArray, List.set_cons_zero, List.set_cons_succ]
    refine wpG_pure (i := 27) (oi := { dst := some 41, op := Go.Op.fieldAddr 58 (Go.Operand.tmp 40) 0, type := 0, pos := "l10_topic.go:159", after := #[{ on := 26, ground := Go.Ground.data }, { on := 22, ground := Go.Ground.guard }], guard := some (22, false) }) (v := ?vg145) rfl (by kernel_rfl) (fun _ _ _ h => h) (Or.inr hHeld137) (Or.inl ⟨by rfl, ?yg145⟩) ?_
    case yg145 => (intro wS _; go_simp <;> with_reducible rfl)
    try simp only [Act.put, List.setIfInBounds_toArray, List.set_cons_zero, List.set_cons_succ]
    refine wpG_load (i := 28) (oi := { dst := some 42, op := Go.Op.load 9 (Go.Operand.tmp 41), type := 9, pos := "l10_topic.go:159", after := #[{ on := 27, ground := Go.Ground.data }, { on := 22, ground := Go.Ground.guard }], guard := some (22, false) }) (v := ?vg146) [] rfl (by kernel_rfl) (fun _ _ _ h => h) hHeld137 (Or.inl ⟨by rfl, ?yg146⟩) ?_
    case yg146 => (intro wS hSw; (try dsimp only at hSw); go_simp <;> with_reducible rfl)
    try simp only [Act.put, List.setIfInBounds_toArray, List.set_cons_zero, List.set_cons_succ]
    refine wpG_pure (i := 29) (oi := { dst := some 43, op := Go.Op.binOp Go.BinOp.eql 9 (Go.Operand.tmp 42) (Go.Operand.const (Go.Value.string { data := #[35] })) 9, type := 4, pos := "l10_topic.go:159", after := #[{ on := 28, ground := Go.Ground.data }, { on := 22, ground := Go.Ground.guard }], guard := some (22, false) }) (v := ?vg147) rfl (by kernel_rfl) (fun _ _ _ h => h) (Or.inr hHeld137) (Or.inl ⟨by rfl, ?yg147⟩) ?_
    case yg147 => (intro wS _; go_simp <;> with_reducible rfl)
    try simp only [Act.put, List.setIfInBounds_toArray, List.set_cons_zero, List.set_cons_succ]
    refine wpG_pure (i := 30) (oi := { dst := some 44, op := Go.Op.pick (Go.Operand.tmp 36) (Go.Operand.const (Go.Value.bool true)) (Go.Operand.tmp 43), type := 4, pos := "l10_topic.go:159", after := #[{ on := 22, ground := Go.Ground.data }, { on := 29, ground := Go.Ground.data }], guard := none }) (v := ?vg148) rfl (by kernel_rfl) (fun _ _ _ h => h) (Or.inr hHeld137) (Or.inl ⟨by rfl, ?yg148⟩) ?_
    case yg148 => (intro wS _; go_simp <;> with_reducible rfl)
    try simp only [Act.put, List.setIfInBounds_toArray, List.set_cons_zero, List.set_cons_succ]
    refine wpG_pure (i := 31) (oi := { dst := some 45, op := Go.Op.move (Go.Operand.tmp 44), type := 4, pos := "l10_topic.go:159", after := #[{ on := 30, ground := Go.Ground.data }, { on := 22, ground := Go.Ground.chain }], guard := none }) (v := ?vg149) rfl (by kernel_rfl) (fun _ _ _ h => h) (Or.inr hHeld137) (Or.inl ⟨by rfl, ?yg149⟩) ?_
    case yg149 => (intro wS _; go_simp <;> with_reducible rfl)
    try simp only [Act.put, List.setIfInBounds_toArray, List.set_cons_zero, List.set_cons_succ]
    refine wpG_pure (i := 32) (oi := { dst := some 46, op := Go.Op.move (Go.Operand.tmp 2), type := 36, pos := "l10_topic.go:159", after := #[{ on := 31, ground := Go.Ground.guard }], guard := some (31, false) }) (v := undef) rfl (by kernel_rfl) (fun _ _ _ h => h) (Or.inr hHeld137) (Or.inr ⟨by rfl, rfl⟩) ?_
    try simp only [Act.put, List.setIfInBounds_toArray, List.set_cons_zero, List.set_cons_succ]
    refine wpG_pure (i := 33) (oi := { dst := some 47, op := Go.Op.fieldAddr 58 (Go.Operand.tmp 7) 1, type := 0, pos := "l10_topic.go:159", after := #[{ on := 31, ground := Go.Ground.guard }], guard := some (31, false) }) (v := undef) rfl (by kernel_rfl) (fun _ _ _ h => h) (Or.inr hHeld137) (Or.inr ⟨by rfl, rfl⟩) ?_
    try simp only [Act.put, List.setIfInBounds_toArray, List.set_cons_zero, List.set_cons_succ]
    refine wpG_pure (i := 34) (oi := { dst := some 48, op := Go.Op.load 3 (Go.Operand.tmp 47), type := 3, pos := "l10_topic.go:159", after := #[{ on := 33, ground := Go.Ground.data }, { on := 31, ground := Go.Ground.guard }], guard := some (31, false) }) (v := undef) rfl (by kernel_rfl) (fun _ _ _ h => h) (Or.inr hHeld137) (Or.inr ⟨by rfl, rfl⟩) ?_
    try simp only [Act.put, List.setIfInBounds_toArray, List.set_cons_zero, List.set_cons_succ]
    refine wpG_pure (i := 35) (oi := { dst := some 49, op := Go.Op.indexAddr 36 (Go.Operand.tmp 46) (Go.Operand.tmp 48), type := 0, pos := "l10_topic.go:159", after := #[{ on := 32, ground := Go.Ground.data }, { on := 34, ground := Go.Ground.data }, { on := 31, ground := Go.Ground.guard }], guard := some (31, false) }) (v := undef) rfl (by kernel_rfl) (fun _ _ _ h => h) (Or.inr hHeld137) (Or.inr ⟨by rfl, rfl⟩) ?_
    try simp only [Act.put, List.setIfInBounds_toArray, List.set_cons_zero, List.set_cons_succ]
    refine wpG_pure (i := 36) (oi := { dst := some 50, op := Go.Op.load 3 (Go.Operand.tmp 49), type := 3, pos := "l10_topic.go:159", after := #[{ on := 35, ground := Go.Ground.data }, { on := 31, ground := Go.Ground.guard }], guard := some (31, false) }) (v := undef) rfl (by kernel_rfl) (fun _ _ _ h => h) (Or.inr hHeld137) (Or.inr ⟨by rfl, rfl⟩) ?_
    try simp only [Act.put, List.setIfInBounds_toArray, List.set_cons_zero, List.set_cons_succ]
    refine wpG_pure (i := 37) (oi := { dst := some 51, op := Go.Op.binOp Go.BinOp.eql 3 (Go.Operand.tmp 50) (Go.Operand.const (Go.Value.int Go.IntKind.i64 6)) 3, type := 4, pos := "l10_topic.go:159", after := #[{ on := 36, ground := Go.Ground.data }, { on := 31, ground := Go.Ground.guard }], guard := some (31, false) }) (v := undef) rfl (by kernel_rfl) (fun _ _ _ h => h) (Or.inr hHeld137) (Or.inr ⟨by rfl, rfl⟩) ?_
    try simp only [Act.put, List.setIfInBounds_toArray, List.set_cons_zero, List.set_cons_succ]
    refine wpG_pure (i := 38) (oi := { dst := some 52, op := Go.Op.pick (Go.Operand.tmp 45) (Go.Operand.const (Go.Value.bool true)) (Go.Operand.tmp 51), type := 4, pos := "l10_topic.go:159", after := #[{ on := 31, ground := Go.Ground.data }, { on := 37, ground := Go.Ground.data }], guard := none }) (v := ?vg156) rfl (by kernel_rfl) (fun _ _ _ h => h) (Or.inr hHeld137) (Or.inl ⟨by rfl, ?yg156⟩) ?_
    case yg156 => (intro wS _; go_simp <;> with_reducible rfl)
    try simp only [Act.put, List.setIfInBounds_toArray, List.set_cons_zero, List.set_cons_succ]
    refine wpG_done (by kernel_rfl) ?_
    (go_wp2_with fail; go_ret; exact ⟨ret_bool HN.out.symm, above3' HBA.out HB3.out⟩)
  | false =>
  have hnm : y.1 ≠ more := fun e => by simp only [beq_eq_false_iff_ne, ne_eq] at hmo; exact hmo ((is1 y.1 35).2 e)
  simp only [hnm, decide_false, Bool.not_false, Bool.true_and] at HHD
  clear hnm
  by_cases h6 : depR t x.2.1.toNat x.2.1.toNat = 6
  · have hq6 : (((depR t x.2.1.toNat x.2.1.toNat : Nat) : Int) == 6) = true := by simp; omega
    have HN := Lib.hid (HNH.out (by rw [HHD.out, HDS'.out, h6]; decide))
    clear h6
    go_enter Tryd.func83, Tryd.ntmps83
    go_wp2_with fail
    obtain ⟨wb, hwb⟩ : ∃ z : World, z = ((w.alloc (.cells #[.int .i64 (k : Int)] 3)).alloc (.cells #[.string x.1, .int .i64 x.2.1, .slice aw x.2.2.length cw] 58)) := ⟨_, rfl⟩
    rw [← hwb] at f0 g0 g1 g2 hsz HBA HB0 ⊢
    clear hwb
    have HBD : Hid (Below w.heap.size w wb.drew) := Lib.hid HBA.out.drew
    have HBD2 : Hid (Below (w.heap.size + 2) wb wb.drew) := Lib.hid ((Below.refl _ _).drew)
    have d1 : wb.cell? ⟨b, off + x.2.1.toNat * 3, none⟩ = some (.string y.1) := below_cellk HBA.out p0 hbl
    have d2 : wb.cell? ⟨gd, x.2.1.toNat, none⟩ = some (.int .i64 ((depR t x.2.1.toNat x.2.1.toNat : Nat) : Int)) := below_cellk HBA.out (HD.out _ hpk) hgd
    have HFB : Hid (∀ w', Below (w.heap.size + 2) wb w' → w'.cell? ⟨w.heap.size, 0, none⟩ = some (.int .i64 (k : Int)) ∧ w'.cell? ⟨w.heap.size + 1, 0, none⟩ = some (.string x.1) ∧ w'.cell? ⟨w.heap.size + 1, 1, none⟩ = some (.int .i64 x.2.1) ∧ w'.cell? ⟨b, off + x.2.1.toNat * 3, none⟩ = some (.string y.1) ∧ w'.cell? ⟨gd, x.2.1.toNat, none⟩ = some (.int .i64 ((depR t x.2.1.toNat x.2.1.toNat : Nat) : Int))) := Lib.hid fun w' hb => ⟨below_cellk hb f0 (by omega), below_cellk hb g0 (by omega), below_cellk hb g1 (by omega), below_cellk hb d1 (by omega), below_cellk hb d2 (by omega)⟩
    refine wp_region_G [] (fun w' => w'.cell? ⟨w.heap.size, 0, none⟩ = some (.int .i64 (k : Int)) ∧ w'.cell? ⟨w.heap.size + 1, 0, none⟩ = some (.string x.1) ∧ w'.cell? ⟨w.heap.size + 1, 1, none⟩ = some (.int .i64 x.2.1) ∧ w'.cell? ⟨b, off + x.2.1.toNat * 3, none⟩ = some (.string y.1) ∧ w'.cell? ⟨gd, x.2.1.toNat, none⟩ = some (.int .i64 ((depR t x.2.1.toNat x.2.1.toNat : Nat) : Int))) (by kernel_rfl) ?_ (fun hHeld => ?_)
    · exact ⟨f0, g0, g1, d1, d2⟩
    refine wpG_pure (i := 0) (oi := { dst := some 14, op := Go.Op.fieldAddr 58 (Go.Operand.tmp 7) 1, type := 0, pos := "l10_topic.go:159", after := #[], guard := none }) (v := ?vg157) rfl (by kernel_rfl) (fun _ _ _ h => h) (Or.inr hHeld) (Or.inl ⟨by rfl, ?yg157⟩) ?_
    case yg157 => (intro wS _; go_simp <;> with_reducible rfl)
    try simp only [Act.put, List.setIfInBounds_toArray, List.set_cons_zero, List.set_cons_succ]
    refine wpG_load (i := 1) (oi := { dst := some 15, op := Go.Op.load 3 (Go.Operand.tmp 14), type := 3, pos := "l10_topic.go:159", after := #[{ on := 0, ground := Go.Ground.data }], guard := none }) (v := ?vg158) [] rfl (by kernel_rfl) (fun _ _ _ h => h) hHeld (Or.inl ⟨by rfl, ?yg158⟩) ?_
    case yg158 => (intro wS hSw; (try dsimp only at hSw); go_simp <;> with_reducible rfl)
    try simp only [Act.put, List.setIfInBounds_toArray, List.set_cons_zero, List.set_cons_succ]
    refine wpG_load (i := 2) (oi := { dst := some 16, op := Go.Op.load 3 (Go.Operand.tmp 4), type := 3, pos := "l10_topic.go:159", after := #[], guard := none }) (v := ?vg159) [] rfl (by kernel_rfl) (fun _ _ _ h => h) hHeld (Or.inl ⟨by rfl, ?yg159⟩) ?_
    case yg159 => (intro wS hSw; (try dsimp only at hSw); go_simp <;> with_reducible rfl)
    try simp only [Act.put, List.setIfInBounds_toArray, List.set_cons_zero, List.set_cons_succ]
    refine wpG_pure (i := 3) (oi := { dst := some 17, op := Go.Op.binOp Go.BinOp.sub 3 (Go.Operand.tmp 16) (Go.Operand.const (Go.Value.int Go.IntKind.i64 1)) 3, type := 3, pos := "l10_topic.go:159", after := #[{ on := 2, ground := Go.Ground.data }], guard := none }) (v := ?vg160) rfl (by kernel_rfl) (fun _ _ _ h => h) (Or.inr hHeld) (Or.inl ⟨by rfl, ?yg160⟩) ?_
    case yg160 => (intro wS _; go_simp <;> with_reducible rfl)
    try simp only [Act.put, List.setIfInBounds_toArray, List.set_cons_zero, List.set_cons_succ]
    refine wpG_one (i := 4) (o := { dst := some 18, op := Go.Op.call { callee := Go.Callee.value (Go.Operand.func 71), args := #[Go.Operand.tmp 15, Go.Operand.const (Go.Value.int Go.IntKind.i64 0), Go.Operand.tmp 17], argTypes := #[3, 3, 3] }, type := 4, pos := "l10_topic.go:159", after := #[{ on := 1, ground := Go.Ground.data }, { on := 3, ground := Go.Ground.data }], guard := none }) rfl (by kernel_rfl) (fun K hK => ?_)
    go_simp
    refine (HW.out _).mono ?_
    rw [← HUP.out]
    rintro e w' ⟨rfl, rfl⟩
    refine hK.out _ _ (Or.inr ?khHeld161) (fun hHeld161S => ?_)
    case khHeld161 => exact ⟨f0, g0, g1, d1, d2⟩
    have hHeld161 := hHeld161S.held (by kernel_rfl)
    clear hK K
    try simp only [Act.put, List.setIfInBounds_toArray, List.set_cons_zero, List.set_cons_succ]
    refine wpG_pure (i := 5) (oi := { dst := some 19, op := Go.Op.unOp Go.UnOp.not 4 (Go.Operand.tmp 18), type := 4, pos := "l10_topic.go:159", after := #[{ on := 4, ground := Go.Ground.data }], guard := none }) (v := ?vg162) rfl (by kernel_rfl) (fun _ _ _ h => h) (Or.inr hHeld161) (Or.inl ⟨by rfl, ?yg162⟩) ?_
    case yg162 => (intro wS _; go_simp <;> with_reducible rfl)
    try simp only [Act.put, List.setIfInBounds_toArray, List.set_cons_zero, List.set_cons_succ]
    refine wpG_pure (i := 6) (oi := { dst := some 20, op := Go.Op.move (Go.Operand.tmp 19), type := 4, pos := "l10_topic.go:159", after := #[{ on := 5, ground := Go.Ground.data }, { on := 4, ground := Go.Ground.chain }], guard := none }) (v := ?vg163) rfl (by kernel_rfl) (fun _ _ _ h => h) (Or.inr hHeld161) (Or.inl ⟨by rfl, ?yg163⟩) ?_
    case yg163 => (intro wS _; go_simp <;> with_reducible rfl)
    try simp only [Act.put, List.setIfInBounds_toArray, List.set_cons_zero, List.set_cons_succ]
    refine wpG_pure (i := 7) (oi := { dst := some 21, op := Go.Op.fieldAddr 58 (Go.Operand.tmp 7) 0, type := 0, pos := "l10_topic.go:159", after := #[{ on := 6, ground := Go.Ground.guard }], guard := some (6, false) }) (v := ?vg164) rfl (by kernel_rfl) (fun _ _ _ h => h) (Or.inr hHeld161) (Or.inl ⟨by rfl, ?yg164⟩) ?_
    case yg164 => (intro wS _; go_simp <;> with_reducible rfl)
    try simp only [Act.put, List.setIfInBounds_toArray, List.set_cons_zero, List.set_cons_succ]
    refine wpG_load (i := 8) (oi := { dst := some 22, op := Go.Op.load 9 (Go.Operand.tmp 21), type := 9, pos := "l10_topic.go:159", after := #[{ on := 7, ground := Go.Ground.data }, { on := 6, ground := Go.Ground.guard }], guard := some (6, false) }) (v := ?vg165) [] rfl (by kernel_rfl) (fun _ _ _ h => h) hHeld161 (Or.inl ⟨by rfl, ?yg165⟩) ?_
    case yg165 => (intro wS hSw; (try dsimp only at hSw); go_simp <;> with_reducible rfl)
    try simp only [Act.put, List.setIfInBounds_toArray, List.set_cons_zero, List.set_cons_succ]
    refine wpG_one (i := 9) (o := { dst := some 23, op := Go.Op.call { callee := Go.Callee.value (Go.Operand.func 74), args := #[Go.Operand.tmp 22], argTypes := #[9] }, type := 4, pos := "l10_topic.go:159", after := #[{ on := 8, ground := Go.Ground.data }, { on := 6, ground := Go.Ground.chain }, { on := 6, ground := Go.Ground.guard }], guard := some (6, false) }) rfl (by kernel_rfl) (fun K hK => ?_)
    go_simp
    refine (HLV.out _).mono ?_
    rw [HLL.out]
    rintro e w' ⟨rfl, rfl⟩
    refine hK.out _ _ (Or.inr ?khHeld166) (fun hHeld166S => ?_)
    case khHeld166 => exact ⟨f0, g0, g1, d1, d2⟩
    have hHeld166 := hHeld166S.held (by kernel_rfl)
    clear hK K
    try simp only [Act.put, List.setIfInBounds_toArray, List.set_cons_zero, List.set_cons_succ]
    refine wpG_pure (i := 10) (oi := { dst := some 24, op := Go.Op.unOp Go.UnOp.not 4 (Go.Operand.tmp 23), type := 4, pos := "l10_topic.go:159", after := #[{ on := 9, ground := Go.Ground.data }, { on := 6, ground := Go.Ground.guard }], guard := some (6, false) }) (v := ?vg167) rfl (by kernel_rfl) (fun _ _ _ h => h) (Or.inr hHeld166) (Or.inl ⟨by rfl, ?yg167⟩) ?_
    case yg167 => (intro wS _; go_simp <;> with_reducible rfl)
    try simp only [Act.put, List.setIfInBounds_toArray, List.set_cons_zero, List.set_cons_succ]
    refine wpG_pure (i := 11) (oi := { dst := some 25, op := Go.Op.pick (Go.Operand.tmp 20) (Go.Operand.const (Go.Value.bool true)) (Go.Operand.tmp 24), type := 4, pos := "l10_topic.go:159", after := #[{ on := 6, ground := Go.Ground.data }, { on := 10, ground := Go.Ground.data }], guard := none }) (v := ?vg168) rfl (by kernel_rfl) (fun _ _ _ h => h) (Or.inr hHeld166) (Or.inl ⟨by rfl, ?yg168⟩) ?_
    case yg168 => (intro wS _; go_simp <;> with_reducible rfl)
    try simp only [Act.put, List.setIfInBounds_toArray, List.set_cons_zero, List.set_cons_succ]
    refine wpG_pure (i := 12) (oi := { dst := some 26, op := Go.Op.move (Go.Operand.tmp 25), type := 4, pos := "l10_topic.go:159", after := #[{ on := 11, ground := Go.Ground.data }, { on := 9, ground := Go.Ground.chain }], guard := none }) (v := ?vg169) rfl (by kernel_rfl) (fun _ _ _ h => h) (Or.inr hHeld166) (Or.inl ⟨by rfl, ?yg169⟩) ?_
    case yg169 => (intro wS _; go_simp <;> with_reducible rfl)
    try simp only [Act.put, List.setIfInBounds_toArray, List.set_cons_zero, List.set_cons_succ]
    refine wpG_pure (i := 13) (oi := { dst := some 27, op := Go.Op.move (Go.Operand.tmp 0), type := 24, pos := "l10_topic.go:159", after := #[{ on := 12, ground := Go.Ground.guard }], guard := some (12, false) }) (v := ?vg170) rfl (by kernel_rfl) (fun _ _ _ h => h) (Or.inr hHeld166) (Or.inl ⟨by rfl, ?yg170⟩) ?_
    case yg170 => (intro wS _; go_simp <;> with_reducible rfl)
    try simp only [Act.put, List.setIfInBounds_toArray, List.set_cons_zero, List.set_cons_succ]
    refine wpG_pure (i := 14) (oi := { dst := some 28, op := Go.Op.fieldAddr 58 (Go.Operand.tmp 7) 1, type := 0, pos := "l10_topic.go:159", after := #[{ on := 12, ground := Go.Ground.guard }], guard := some (12, false) }) (v := ?vg171) rfl (by kernel_rfl) (fun _ _ _ h => h) (Or.inr hHeld166) (Or.inl ⟨by rfl, ?yg171⟩) ?_
    case yg171 => (intro wS _; go_simp <;> with_reducible rfl)
    try simp only [Act.put, List.setIfInBounds_toArray, List.set_cons_zero, List.set_cons_succ]
    refine wpG_load (i := 15) (oi := { dst := some 29, op := Go.Op.load 3 (Go.Operand.tmp 28), type := 3, pos := "l10_topic.go:159", after := #[{ on := 14, ground := Go.Ground.data }, { on := 12, ground := Go.Ground.guard }], guard := some (12, false) }) (v := ?vg172) [] rfl (by kernel_rfl) (fun _ _ _ h => h) hHeld166 (Or.inl ⟨by rfl, ?yg172⟩) ?_
    case yg172 => (intro wS hSw; (try dsimp only at hSw); go_simp <;> with_reducible rfl)
    try simp only [Act.put, List.setIfInBounds_toArray, List.set_cons_zero, List.set_cons_succ]
    refine wpG_pure (i := 16) (oi := { dst := some 30, op := Go.Op.fieldAddr 58 (Go.Operand.tmp 7) 0, type := 0, pos := "l10_topic.go:159", after := #[{ on := 12, ground := Go.Ground.guard }], guard := some (12, false) }) (v := ?vg173) rfl (by kernel_rfl) (fun _ _ _ h => h) (Or.inr hHeld166) (Or.inl ⟨by rfl, ?yg173⟩) ?_
    case yg173 => (intro wS _; go_simp <;> with_reducible rfl)
    try simp only [Act.put, List.setIfInBounds_toArray, List.set_cons_zero, List.set_cons_succ]
    refine wpG_load (i := 17) (oi := { dst := some 31, op := Go.Op.load 9 (Go.Operand.tmp 30), type := 9, pos := "l10_topic.go:159", after := #[{ on := 16, ground := Go.Ground.data }, { on := 12, ground := Go.Ground.guard }], guard := some (12, false) }) (v := ?vg174) [] rfl (by kernel_rfl) (fun _ _ _ h => h) hHeld166 (Or.inl ⟨by rfl, ?yg174⟩) ?_
    case yg174 => (intro wS hSw; (try dsimp only at hSw); go_simp <;> with_reducible rfl)
    try simp only [Act.put, List.setIfInBounds_toArray, List.set_cons_zero, List.set_cons_succ]
    refine wpG_load (i := 19) (oi := { dst := some 33, op := Go.Op.load 3 (Go.Operand.tmp 4), type := 3, pos := "l10_topic.go:159", after := #[{ on := 12, ground := Go.Ground.guard }], guard := some (12, false) }) (v := ?vg175) [] rfl (by kernel_rfl) (fun _ _ _ h => h) hHeld166 (Or.inl ⟨by rfl, ?yg175⟩) ?_
    case yg175 => (intro wS hSw; (try dsimp only at hSw); go_simp <;> with_reducible rfl)
    try simp only [Act.put, List.setIfInBounds_toArray, List.set_cons_zero, List.set_cons_succ]
    refine wpG_one (i := 18) (o := { dst := some 32, op := Go.Op.call { callee := Go.Callee.value (Go.Operand.func 45), args := #[Go.Operand.tmp 27, Go.Operand.tmp 29, Go.Operand.tmp 31], argTypes := #[24, 3, 9] }, type := 3, pos := "l10_topic.go:159", after := #[{ on := 13, ground := Go.Ground.data }, { on := 15, ground := Go.Ground.data }, { on := 17, ground := Go.Ground.data }, { on := 12, ground := Go.Ground.chain }, { on := 12, ground := Go.Ground.guard }], guard := some (12, false) }) rfl (by kernel_rfl) (fun K hK => ?_)
    go_simp
    refine (HKD.out _ HBD.out).mono ?_
    rintro e w3 ⟨rfl, hb3⟩
    have HB3 := Lib.hid (HBD2.out.trans (hb3.mono hsz)); clear hb3
    refine hK.out _ _ (Or.inr ?khHeld176) (fun hHeld176S => ?_)
    case khHeld176 => exact HFB.out _ HB3.out
    have hHeld176 := hHeld176S.held (by kernel_rfl)
    clear hK K
    try simp only [Act.put, List.setIfInBounds_toArray, List.set_cons_zero, List.set_cons_succ]
    refine wpG_pure (i := 20) (oi := { dst := some 34, op := Go.Op.binOp Go.BinOp.neq 3 (Go.Operand.tmp 32) (Go.Operand.tmp 33) 3, type := 4, pos := "l10_topic.go:159", after := #[{ on := 18, ground := Go.Ground.data }, { on := 19, ground := Go.Ground.data }, { on := 12, ground := Go.Ground.guard }], guard := some (12, false) }) (v := ?vg177) rfl (by kernel_rfl) (fun _ _ _ h => h) (Or.inr hHeld176) (Or.inl ⟨by rfl, ?yg177⟩) ?_
    case yg177 => (intro wS _; go_simp <;> with_reducible rfl)
    try simp only [Act.put, List.setIfInBounds_toArray, List.set_cons_zero, List.set_cons_succ]
    refine wpG_pure (i := 21) (oi := { dst := some 35, op := Go.Op.pick (Go.Operand.tmp 26) (Go.Operand.const (Go.Value.bool true)) (Go.Operand.tmp 34), type := 4, pos := "l10_topic.go:159", after := #[{ on := 12, ground := Go.Ground.data }, { on := 20, ground := Go.Ground.data }], guard := none }) (v := ?vg178) rfl (by kernel_rfl) (fun _ _ _ h => h) (Or.inr hHeld176) (Or.inl ⟨by rfl, ?yg178⟩) ?_
    case yg178 => (intro wS _; go_simp <;> with_reducible rfl)
    try simp only [Act.put, List.setIfInBounds_toArray, List.set_cons_zero, List.set_cons_succ]
    refine wpG_pure (i := 22) (oi := { dst := some 36, op := Go.Op.move (Go.Operand.tmp 35), type := 4, pos := "l10_topic.go:159", after := #[{ on := 21, ground := Go.Ground.data }, { on := 18, ground := Go.Ground.chain }], guard := none }) (v := ?vg179) rfl (by kernel_rfl) (fun _ _ _ h => h) (Or.inr hHeld176) (Or.inl ⟨by rfl, ?yg179⟩) ?_
    case yg179 => (intro wS _; go_simp <;> with_reducible rfl)
    try simp only [Act.put, List.setIfInBounds_toArray, List.set_cons_zero, List.set_cons_succ]
    refine wpG_pure (i := 23) (oi := { dst := some 37, op := Go.Op.move (Go.Operand.tmp 0), type := 24, pos := "l10_topic.go:159", after := #[{ on := 22, ground := Go.Ground.guard }], guard := some (22, false) }) (v := ?vg180) rfl (by kernel_rfl) (fun _ _ _ h => h) (Or.inr hHeld176) (Or.inl ⟨by rfl, ?yg180⟩) ?_
    case yg180 => (intro wS _; go_simp <;> with_reducible rfl)
    try simp only [Act.put, List.setIfInBounds_toArray, List.set_cons_zero, List.set_cons_succ]
    refine wpG_pure (i := 24) (oi := { dst := some 38, op := Go.Op.fieldAddr 58 (Go.Operand.tmp 7) 1, type := 0, pos := "l10_topic.go:159", after := #[{ on := 22, ground := Go.Ground.guard }], guard := some (22, false) }) (v := ?vg181) rfl (by kernel_rfl) (fun _ _ _ h => h) (Or.inr hHeld176) (Or.inl ⟨by rfl, ?yg181⟩) ?_
    case yg181 => (intro wS _; go_simp <;> with_reducible rfl)
    try simp only [Act.put, List.setIfInBounds_toArray, List.set_cons_zero, List.set_cons_succ]
    refine wpG_load (i := 25) (oi := { dst := some 39, op := Go.Op.load 3 (Go.Operand.tmp 38), type := 3, pos := "l10_topic.go:159", after := #[{ on := 24, ground := Go.Ground.data }, { on := 22, ground := Go.Ground.guard }], guard := some (22, false) }) (v := ?vg182) [] rfl (by kernel_rfl) (fun _ _ _ h => h) hHeld176 (Or.inl ⟨by rfl, ?yg182⟩) ?_
    case yg182 => (intro wS hSw; (try dsimp only at hSw); go_simp <;> with_reducible rfl)
    try simp only [Act.put, List.setIfInBounds_toArray, List.set_cons_zero, List.set_cons_succ]
    refine wpG_pure (i := 26) (oi := { dst := some 40, op := Go.Op.indexAddr 24 (Go.Operand.tmp 37) (Go.Operand.tmp 39), type := 0, pos := "l10_topic.go:159", after := #[{ on := 23, ground := Go.Ground.data }, { on := 25, ground := Go.Ground.data }, { on := 22, ground := Go.Ground.guard }], guard := some (22, false) }) (v := ?vg183) rfl (by kernel_rfl) (fun _ _ _ h => h) (Or.inr hHeld176) (Or.inl ⟨by rfl, ?yg183⟩) ?_
    case yg183 => (intro wS _; go_simp <;> with_reducible rfl)
    try simp only [Act.put, List.setIfInBounds_toArray, List.set_cons_zero, List.set_cons_succ]
    refine wpG_pure (i := 27) (oi := { dst := some 41, op := Go.Op.fieldAddr 58 (Go.Operand.tmp 40) 0, type := 0, pos := "l10_topic.go:159", after := #[{ on := 26, ground := Go.Ground.data }, { on := 22, ground := Go.Ground.guard }], guard := some (22, false) }) (v := ?vg184) rfl (by kernel_rfl) (fun _ _ _ h => h) (Or.inr hHeld176) (Or.inl ⟨by rfl, ?yg184⟩) ?_
    case yg184 => (intro wS _; go_simp <;> with_reducible rfl)
    try simp only [Act.put, List.setIfInBounds_toArray, List.set_cons_zero, List.set_cons_succ]
    refine wpG_load (i := 28) (oi := { dst := some 42, op := Go.Op.load 9 (Go.Operand.tmp 41), type := 9, pos := "l10_topic.go:159", after := #[{ on := 27, ground := Go.Ground.data }, { on := 22, ground := Go.Ground.guard }], guard := some (22, false) }) (v := ?vg185) [] rfl (by kernel_rfl) (fun _ _ _ h => h) hHeld176 (Or.inl ⟨by rfl, ?yg185⟩) ?_
    case yg185 => (intro wS hSw; (try dsimp only at hSw); go_simp <;> with_reducible rfl)
    try simp only [Act.put, List.setIfInBounds_toArray, List.set_cons_zero, List.set_cons_succ]
    refine wpG_pure (i := 29) (oi := { dst := some 43, op := Go.Op.binOp Go.BinOp.eql 9 (Go.Operand.tmp 42) (Go.Operand.const (Go.Value.string { data := #[35] })) 9, type := 4, pos := "l10_topic.go:159", after := #[{ on := 28, ground := Go.Ground.data }, { on := 22, ground := Go.Ground.guard }], guard := some (22, false) }) (v := ?vg186) rfl (by kernel_rfl) (fun _ _ _ h => h) (Or.inr hHeld176) (Or.inl ⟨by rfl, ?yg186⟩) ?_
    case yg186 => (intro wS _; go_simp <;> with_reducible rfl)
    try simp only [Act.put, List.setIfInBounds_toArray, List.set_cons_zero, List.set_cons_succ]
    refine wpG_pure (i := 30) (oi := { dst := some 44, op := Go.Op.pick (Go.Operand.tmp 36) (Go.Operand.const (Go.Value.bool true)) (Go.Operand.tmp 43), type := 4, pos := "l10_topic.go:159", after := #[{ on := 22, ground := Go.Ground.data }, { on := 29, ground := Go.Ground.data }], guard := none }) (v := ?vg187) rfl (by kernel_rfl) (fun _ _ _ h => h) (Or.inr hHeld176) (Or.inl ⟨by rfl, ?yg187⟩) ?_
    case yg187 => (intro wS _; go_simp <;> with_reducible rfl)
    try simp only [Act.put, List.setIfInBounds_toArray, List.set_cons_zero, List.set_cons_succ]
    refine wpG_pure (i := 31) (oi := { dst := some 45, op := Go.Op.move (Go.Operand.tmp 44), type := 4, pos := "l10_topic.go:159", after := #[{ on := 30, ground := Go.Ground.data }, { on := 22, ground := Go.Ground.chain }], guard := none }) (v := ?vg188) rfl (by kernel_rfl) (fun _ _ _ h => h) (Or.inr hHeld176) (Or.inl ⟨by rfl, ?yg188⟩) ?_
    case yg188 => (intro wS _; go_simp <;> with_reducible rfl)
    try simp only [Act.put, List.setIfInBounds_toArray, List.set_cons_zero, List.set_cons_succ]
    refine wpG_pure (i := 32) (oi := { dst := some 46, op := Go.Op.move (Go.Operand.tmp 2), type := 36, pos := "l10_topic.go:159", after := #[{ on := 31, ground := Go.Ground.guard }], guard := some (31, false) }) (v := ?vg189) rfl (by kernel_rfl) (fun _ _ _ h => h) (Or.inr hHeld176) (Or.inl ⟨by rfl, ?yg189⟩) ?_
    case yg189 => (intro wS _; go_simp <;> with_reducible rfl)
    try simp only [Act.put, List.setIfInBounds_toArray, List.set_cons_zero, List.set_cons_succ]
    refine wpG_pure (i := 33) (oi := { dst := some 47, op := Go.Op.fieldAddr 58 (Go.Operand.tmp 7) 1, type := 0, pos := "l10_topic.go:159", after := #[{ on := 31, ground := Go.Ground.guard }], guard := some (31, false) }) (v := ?vg190) rfl (by kernel_rfl) (fun _ _ _ h => h) (Or.inr hHeld176) (Or.inl ⟨by rfl, ?yg190⟩) ?_
    case yg190 => (intro wS _; go_simp <;> with_reducible rfl)
    try simp only [Act.put, List.setIfInBounds_toArray, List.set_cons_zero, List.set_cons_succ]
    refine wpG_load (i := 34) (oi := { dst := some 48, op := Go.Op.load 3 (Go.Operand.tmp 47), type := 3, pos := "l10_topic.go:159", after := #[{ on := 33, ground := Go.Ground.data }, { on := 31, ground := Go.Ground.guard }], guard := some (31, false) }) (v := ?vg191) [] rfl (by kernel_rfl) (fun _ _ _ h => h) hHeld176 (Or.inl ⟨by rfl, ?yg191⟩) ?_
    case yg191 => (intro wS hSw; (try dsimp only at hSw); go_simp <;> with_reducible rfl)
    try simp only [Act.put, List.setIfInBounds_toArray, List.set_cons_zero, List.set_cons_succ]
    refine wpG_pure (i := 35) (oi := { dst := some 49, op := Go.Op.indexAddr 36 (Go.Operand.tmp 46) (Go.Operand.tmp 48), type := 0, pos := "l10_topic.go:159", after := #[{ on := 32, ground := Go.Ground.data }, { on := 34, ground := Go.Ground.data }, { on := 31, ground := Go.Ground.guard }], guard := some (31, false) }) (v := ?vg192) rfl (by kernel_rfl) (fun _ _ _ h => h) (Or.inr hHeld176) (Or.inl ⟨by rfl, ?yg192⟩) ?_
    case yg192 => (intro wS _; go_simp <;> with_reducible rfl)
    try simp only [Act.put, List.setIfInBounds_toArray, List.set_cons_zero, List.set_cons_succ]
    refine wpG_load (i := 36) (oi := { dst := some 50, op := Go.Op.load 3 (Go.Operand.tmp 49), type := 3, pos := "l10_topic.go:159", after := #[{ on := 35, ground := Go.Ground.data }, { on := 31, ground := Go.Ground.guard }], guard := some (31, false) }) (v := ?vg193) [] rfl (by kernel_rfl) (fun _ _ _ h => h) hHeld176 (Or.inl ⟨by rfl, ?yg193⟩) ?_
    case yg193 => (intro wS hSw; (try dsimp only at hSw); go_simp <;> with_reducible rfl)
    try simp only [Act.put, List.setIfInBounds_toArray, List.set_cons_zero, List.set_cons_succ]
    refine wpG_pure (i := 37) (oi := { dst := some 51, op := Go.Op.binOp Go.BinOp.eql 3 (Go.Operand.tmp 50) (Go.Operand.const (Go.Value.int Go.IntKind.i64 6)) 3, type := 4, pos := "l10_topic.go:159", after := #[{ on := 36, ground := Go.Ground.data }, { on := 31, ground := Go.Ground.guard }], guard := some (31, false) }) (v := ?vg194) rfl (by kernel_rfl) (fun _ _ _ h => h) (Or.inr hHeld176) (Or.inl ⟨by rfl, ?yg194⟩) ?_
    case yg194 => (intro wS _; go_simp <;> with_reducible rfl)
    try simp only [Act.put, List.setIfInBounds_toArray, List.set_cons_zero, List.set_cons_succ]
    refine wpG_pure (i := 38) (oi := { dst := some 52, op := Go.Op.pick (Go.Operand.tmp 45) (Go.Operand.const (Go.Value.bool true)) (Go.Operand.tmp 51), type := 4, pos := "l10_topic.go:159", after := #[{ on := 31, ground := Go.Ground.data }, { on := 37, ground := Go.Ground.data }], guard := none }) (v := ?vg195) rfl (by kernel_rfl) (fun _ _ _ h => h) (Or.inr hHeld176) (Or.inl ⟨by rfl, ?yg195⟩) ?_
    case yg195 => (intro wS _; go_simp <;> with_reducible rfl)
    try simp only [Act.put, List.setIfInBounds_toArray, List.set_cons_zero, List.set_cons_succ]
    refine wpG_done (by kernel_rfl) ?_
    (go_wp2_with fail; go_ret; exact ⟨ret_bool HN.out.symm, above3' HBA.out HB3.out⟩)
  have hq6 : (((depR t x.2.1.toNat x.2.1.toNat : Nat) : Int) == 6) = false := by simp; omega
  have HH : Hid (headB t k = true) := Lib.hid (by rw [HHD.out, HDS'.out]; simp; omega)
  rw [HH.out, Bool.true_and, HTL.out] at HNB
  clear h6 HHD HDS' HNH HTL
  go_enter Tryd.func83, Tryd.ntmps83
  go_wp2_with fail
  obtain ⟨wb, hwb⟩ : ∃ z : World, z = ((w.alloc (.cells #[.int .i64 (k : Int)] 3)).alloc (.cells #[.string x.1, .int .i64 x.2.1, .slice aw x.2.2.length cw] 58)) := ⟨_, rfl⟩
  rw [← hwb] at f0 g0 g1 g2 hsz HBA HB0 ⊢
  clear hwb
  have HBD : Hid (Below w.heap.size w wb.drew) := Lib.hid HBA.out.drew
  have HBD2 : Hid (Below (w.heap.size + 2) wb wb.drew) := Lib.hid ((Below.refl _ _).drew)
  have d1 : wb.cell? ⟨b, off + x.2.1.toNat * 3, none⟩ = some (.string y.1) := below_cellk HBA.out p0 hbl
  have d2 : wb.cell? ⟨gd, x.2.1.toNat, none⟩ = some (.int .i64 ((depR t x.2.1.toNat x.2.1.toNat : Nat) : Int)) := below_cellk HBA.out (HD.out _ hpk) hgd
  have HFB : Hid (∀ w', Below (w.heap.size + 2) wb w' → w'.cell? ⟨w.heap.size, 0, none⟩ = some (.int .i64 (k : Int)) ∧ w'.cell? ⟨w.heap.size + 1, 0, none⟩ = some (.string x.1) ∧ w'.cell? ⟨w.heap.size + 1, 1, none⟩ = some (.int .i64 x.2.1) ∧ w'.cell? ⟨b, off + x.2.1.toNat * 3, none⟩ = some (.string y.1) ∧ w'.cell? ⟨gd, x.2.1.toNat, none⟩ = some (.int .i64 ((depR t x.2.1.toNat x.2.1.toNat : Nat) : Int))) := Lib.hid fun w' hb => ⟨below_cellk hb f0 (by omega), below_cellk hb g0 (by omega), below_cellk hb g1 (by omega), below_cellk hb d1 (by omega), below_cellk hb d2 (by omega)⟩
  · skip
    refine wp_region_G [] (fun w' => w'.cell? ⟨w.heap.size, 0, none⟩ = some (.int .i64 (k : Int)) ∧ w'.cell? ⟨w.heap.size + 1, 0, none⟩ = some (.string x.1) ∧ w'.cell? ⟨w.heap.size + 1, 1, none⟩ = some (.int .i64 x.2.1) ∧ w'.cell? ⟨b, off + x.2.1.toNat * 3, none⟩ = some (.string y.1) ∧ w'.cell? ⟨gd, x.2.1.toNat, none⟩ = some (.int .i64 ((depR t x.2.1.toNat x.2.1.toNat : Nat) : Int))) (by kernel_rfl) ?_ (fun hHeld => ?_)
    · exact ⟨f0, g0, g1, d1, d2⟩
    refine wpG_pure (i := 0) (oi := { dst := some 14, op := Go.Op.fieldAddr 58 (Go.Operand.tmp 7) 1, type := 0, pos := "l10_topic.go:159", after := #[], guard := none }) (v := ?vg196) rfl (by kernel_rfl) (fun _ _ _ h => h) (Or.inr hHeld) (Or.inl ⟨by rfl, ?yg196⟩) ?_
    case yg196 => (intro wS _; go_simp <;> with_reducible rfl)
    try simp only [Act.put, List.setIfInBounds_toArray, List.set_cons_zero, List.set_cons_succ]
    refine wpG_load (i := 1) (oi := { dst := some 15, op := Go.Op.load 3 (Go.Operand.tmp 14), type := 3, pos := "l10_topic.go:159", after := #[{ on := 0, ground := Go.Ground.data }], guard := none }) (v := ?vg197) [] rfl (by kernel_rfl) (fun _ _ _ h => h) hHeld (Or.inl ⟨by rfl, ?yg197⟩) ?_
    case yg197 => (intro wS hSw; (try dsimp only at hSw); go_simp <;> with_reducible rfl)
    try simp only [Act.put, List.setIfInBounds_toArray, List.set_cons_zero, List.set_cons_succ]
    refine wpG_load (i := 2) (oi := { dst := some 16, op := Go.Op.load 3 (Go.Operand.tmp 4), type := 3, pos := "l10_topic.go:159", after := #[], guard := none }) (v := ?vg198) [] rfl (by kernel_rfl) (fun _ _ _ h => h) hHeld (Or.inl ⟨by rfl, ?yg198⟩) ?_
    case yg198 => (intro wS hSw; (try dsimp only at hSw); go_simp <;> with_reducible rfl)
    try simp only [Act.put, List.setIfInBounds_toArray, List.set_cons_zero, List.set_cons_succ]
    refine wpG_pure (i := 3) (oi := { dst := some 17, op := Go.Op.binOp Go.BinOp.sub 3 (Go.Operand.tmp 16) (Go.Operand.const (Go.Value.int Go.IntKind.i64 1)) 3, type := 3, pos := "l10_topic.go:159", after := #[{ on := 2, ground := Go.Ground.data }], guard := none }) (v := ?vg199) rfl (by kernel_rfl) (fun _ _ _ h => h) (Or.inr hHeld) (Or.inl ⟨by rfl, ?yg199⟩) ?_
    case yg199 => (intro wS _; go_simp <;> with_reducible rfl)
    try simp only [Act.put, List.setIfInBounds_toArray, List.set_cons_zero, List.set_cons_succ]
    refine wpG_one (i := 4) (o := { dst := some 18, op := Go.Op.call { callee := Go.Callee.value (Go.Operand.func 71), args := #[Go.Operand.tmp 15, Go.Operand.const (Go.Value.int Go.IntKind.i64 0), Go.Operand.tmp 17], argTypes := #[3, 3, 3] }, type := 4, pos := "l10_topic.go:159", after := #[{ on := 1, ground := Go.Ground.data }, { on := 3, ground := Go.Ground.data }], guard := none }) rfl (by kernel_rfl) (fun K hK => ?_)
    go_simp
    refine (HW.out _).mono ?_
    rw [← HUP.out]
    rintro e w' ⟨rfl, rfl⟩
    refine hK.out _ _ (Or.inr ?khHeld200) (fun hHeld200S => ?_)
    case khHeld200 => exact ⟨f0, g0, g1, d1, d2⟩
    have hHeld200 := hHeld200S.held (by kernel_rfl)
    clear hK K
    try simp only [Act.put, List.setIfInBounds_toArray, List.set_cons_zero, List.set_cons_succ]
    refine wpG_pure (i := 5) (oi := { dst := some 19, op := Go.Op.unOp Go.UnOp.not 4 (Go.Operand.tmp 18), type := 4, pos := "l10_topic.go:159", after := #[{ on := 4, ground := Go.Ground.data }], guard := none }) (v := ?vg201) rfl (by kernel_rfl) (fun _ _ _ h => h) (Or.inr hHeld200) (Or.inl ⟨by rfl, ?yg201⟩) ?_
    case yg201 => (intro wS _; go_simp <;> with_reducible rfl)
    try simp only [Act.put, List.setIfInBounds_toArray, List.set_cons_zero, List.set_cons_succ]
    refine wpG_pure (i := 6) (oi := { dst := some 20, op := Go.Op.move (Go.Operand.tmp 19), type := 4, pos := "l10_topic.go:159", after := #[{ on := 5, ground := Go.Ground.data }, { on := 4, ground := Go.Ground.chain }], guard := none }) (v := ?vg202) rfl (by kernel_rfl) (fun _ _ _ h => h) (Or.inr hHeld200) (Or.inl ⟨by rfl, ?yg202⟩) ?_
    case yg202 => (intro wS _; go_simp <;> with_reducible rfl)
    try simp only [Act.put, List.setIfInBounds_toArray, List.set_cons_zero, List.set_cons_succ]
    refine wpG_pure (i := 7) (oi := { dst := some 21, op := Go.Op.fieldAddr 58 (Go.Operand.tmp 7) 0, type := 0, pos := "l10_topic.go:159", after := #[{ on := 6, ground := Go.Ground.guard }], guard := some (6, false) }) (v := ?vg203) rfl (by kernel_rfl) (fun _ _ _ h => h) (Or.inr hHeld200) (Or.inl ⟨by rfl, ?yg203⟩) ?_
    case yg203 => (intro wS _; go_simp <;> with_reducible rfl)
    try simp only [Act.put, List.setIfInBounds_toArray, List.set_cons_zero, List.set_cons_succ]
    refine wpG_load (i := 8) (oi := { dst := some 22, op := Go.Op.load 9 (Go.Operand.tmp 21), type := 9, pos := "l10_topic.go:159", after := #[{ on := 7, ground := Go.Ground.data }, { on := 6, ground := Go.Ground.guard }], guard := some (6, false) }) (v := ?vg204) [] rfl (by kernel_rfl) (fun _ _ _ h => h) hHeld200 (Or.inl ⟨by rfl, ?yg204⟩) ?_
    case yg204 => (intro wS hSw; (try dsimp only at hSw); go_simp <;> with_reducible rfl)
    try simp only [Act.put, List.setIfInBounds_toArray, List.set_cons_zero, List.set_cons_succ]
    refine wpG_one (i := 9) (o := { dst := some 23, op := Go.Op.call { callee := Go.Callee.value (Go.Operand.func 74), args := #[Go.Operand.tmp 22], argTypes := #[9] }, type := 4, pos := "l10_topic.go:159", after := #[{ on := 8, ground := Go.Ground.data }, { on := 6, ground := Go.Ground.chain }, { on := 6, ground := Go.Ground.guard }], guard := some (6, false) }) rfl (by kernel_rfl) (fun K hK => ?_)
    go_simp
    refine (HLV.out _).mono ?_
    rw [HLL.out]
    rintro e w' ⟨rfl, rfl⟩
    refine hK.out _ _ (Or.inr ?khHeld205) (fun hHeld205S => ?_)
    case khHeld205 => exact ⟨f0, g0, g1, d1, d2⟩
    have hHeld205 := hHeld205S.held (by kernel_rfl)
    clear hK K
    try simp only [Act.put, List.setIfInBounds_toArray, List.set_cons_zero, List.set_cons_succ]
    refine wpG_pure (i := 10) (oi := { dst := some 24, op := Go.Op.unOp Go.UnOp.not 4 (Go.Operand.tmp 23), type := 4, pos := "l10_topic.go:159", after := #[{ on := 9, ground := Go.Ground.data }, { on := 6, ground := Go.Ground.guard }], guard := some (6, false) }) (v := ?vg206) rfl (by kernel_rfl) (fun _ _ _ h => h) (Or.inr hHeld205) (Or.inl ⟨by rfl, ?yg206⟩) ?_
    case yg206 => (intro wS _; go_simp <;> with_reducible rfl)
    try simp only [Act.put, List.setIfInBounds_toArray, List.set_cons_zero, List.set_cons_succ]
    refine wpG_pure (i := 11) (oi := { dst := some 25, op := Go.Op.pick (Go.Operand.tmp 20) (Go.Operand.const (Go.Value.bool true)) (Go.Operand.tmp 24), type := 4, pos := "l10_topic.go:159", after := #[{ on := 6, ground := Go.Ground.data }, { on := 10, ground := Go.Ground.data }], guard := none }) (v := ?vg207) rfl (by kernel_rfl) (fun _ _ _ h => h) (Or.inr hHeld205) (Or.inl ⟨by rfl, ?yg207⟩) ?_
    case yg207 => (intro wS _; go_simp <;> with_reducible rfl)
    try simp only [Act.put, List.setIfInBounds_toArray, List.set_cons_zero, List.set_cons_succ]
    refine wpG_pure (i := 12) (oi := { dst := some 26, op := Go.Op.move (Go.Operand.tmp 25), type := 4, pos := "l10_topic.go:159", after := #[{ on := 11, ground := Go.Ground.data }, { on := 9, ground := Go.Ground.chain }], guard := none }) (v := ?vg208) rfl (by kernel_rfl) (fun _ _ _ h => h) (Or.inr hHeld205) (Or.inl ⟨by rfl, ?yg208⟩) ?_
    case yg208 => (intro wS _; go_simp <;> with_reducible rfl)
    try simp only [Act.put, List.setIfInBounds_toArray, List.set_cons_zero, List.set_cons_succ]
    refine wpG_pure (i := 13) (oi := { dst := some 27, op := Go.Op.move (Go.Operand.tmp 0), type := 24, pos := "l10_topic.go:159", after := #[{ on := 12, ground := Go.Ground.guard }], guard := some (12, false) }) (v := ?vg209) rfl (by kernel_rfl) (fun _ _ _ h => h) (Or.inr hHeld205) (Or.inl ⟨by rfl, ?yg209⟩) ?_
    case yg209 => (intro wS _; go_simp <;> with_reducible rfl)
    try simp only [Act.put, List.setIfInBounds_toArray, List.set_cons_zero, List.set_cons_succ]
    refine wpG_pure (i := 14) (oi := { dst := some 28, op := Go.Op.fieldAddr 58 (Go.Operand.tmp 7) 1, type := 0, pos := "l10_topic.go:159", after := #[{ on := 12, ground := Go.Ground.guard }], guard := some (12, false) }) (v := ?vg210) rfl (by kernel_rfl) (fun _ _ _ h => h) (Or.inr hHeld205) (Or.inl ⟨by rfl, ?yg210⟩) ?_
    case yg210 => (intro wS _; go_simp <;> with_reducible rfl)
    try simp only [Act.put, List.setIfInBounds_toArray, List.set_cons_zero, List.set_cons_succ]
    refine wpG_load (i := 15) (oi := { dst := some 29, op := Go.Op.load 3 (Go.Operand.tmp 28), type := 3, pos := "l10_topic.go:159", after := #[{ on := 14, ground := Go.Ground.data }, { on := 12, ground := Go.Ground.guard }], guard := some (12, false) }) (v := ?vg211) [] rfl (by kernel_rfl) (fun _ _ _ h => h) hHeld205 (Or.inl ⟨by rfl, ?yg211⟩) ?_
    case yg211 => (intro wS hSw; (try dsimp only at hSw); go_simp <;> with_reducible rfl)
    try simp only [Act.put, List.setIfInBounds_toArray, List.set_cons_zero, List.set_cons_succ]
    refine wpG_pure (i := 16) (oi := { dst := some 30, op := Go.Op.fieldAddr 58 (Go.Operand.tmp 7) 0, type := 0, pos := "l10_topic.go:159", after := #[{ on := 12, ground := Go.Ground.guard }], guard := some (12, false) }) (v := ?vg212) rfl (by kernel_rfl) (fun _ _ _ h => h) (Or.inr hHeld205) (Or.inl ⟨by rfl, ?yg212⟩) ?_
    case yg212 => (intro wS _; go_simp <;> with_reducible rfl)
    try simp only [Act.put, List.setIfInBounds_toArray, List.set_cons_zero, List.set_cons_succ]
    refine wpG_load (i := 17) (oi := { dst := some 31, op := Go.Op.load 9 (Go.Operand.tmp 30), type := 9, pos := "l10_topic.go:159", after := #[{ on := 16, ground := Go.Ground.data }, { on := 12, ground := Go.Ground.guard }], guard := some (12, false) }) (v := ?vg213) [] rfl (by kernel_rfl) (fun _ _ _ h => h) hHeld205 (Or.inl ⟨by rfl, ?yg213⟩) ?_
    case yg213 => (intro wS hSw; (try dsimp only at hSw); go_simp <;> with_reducible rfl)
    try simp only [Act.put, List.setIfInBounds_toArray, List.set_cons_zero, List.set_cons_succ]
    refine wpG_load (i := 19) (oi := { dst := some 33, op := Go.Op.load 3 (Go.Operand.tmp 4), type := 3, pos := "l10_topic.go:159", after := #[{ on := 12, ground := Go.Ground.guard }], guard := some (12, false) }) (v := ?vg214) [] rfl (by kernel_rfl) (fun _ _ _ h => h) hHeld205 (Or.inl ⟨by rfl, ?yg214⟩) ?_
    case yg214 => (intro wS hSw; (try dsimp only at hSw); go_simp <;> with_reducible rfl)
    try simp only [Act.put, List.setIfInBounds_toArray, List.set_cons_zero, List.set_cons_succ]
    refine wpG_one (i := 18) (o := { dst := some 32, op := Go.Op.call { callee := Go.Callee.value (Go.Operand.func 45), args := #[Go.Operand.tmp 27, Go.Operand.tmp 29, Go.Operand.tmp 31], argTypes := #[24, 3, 9] }, type := 3, pos := "l10_topic.go:159", after := #[{ on := 13, ground := Go.Ground.data }, { on := 15, ground := Go.Ground.data }, { on := 17, ground := Go.Ground.data }, { on := 12, ground := Go.Ground.chain }, { on := 12, ground := Go.Ground.guard }], guard := some (12, false) }) rfl (by kernel_rfl) (fun K hK => ?_)
    go_simp
    refine (HKD.out _ HBD.out).mono ?_
    rintro e w3 ⟨rfl, hb3⟩
    have HB3 := Lib.hid (HBD2.out.trans (hb3.mono hsz)); clear hb3
    refine hK.out _ _ (Or.inr ?khHeld215) (fun hHeld215S => ?_)
    case khHeld215 => exact HFB.out _ HB3.out
    have hHeld215 := hHeld215S.held (by kernel_rfl)
    clear hK K
    try simp only [Act.put, List.setIfInBounds_toArray, List.set_cons_zero, List.set_cons_succ]
    refine wpG_pure (i := 20) (oi := { dst := some 34, op := Go.Op.binOp Go.BinOp.neq 3 (Go.Operand.tmp 32) (Go.Operand.tmp 33) 3, type := 4, pos := "l10_topic.go:159", after := #[{ on := 18, ground := Go.Ground.data }, { on := 19, ground := Go.Ground.data }, { on := 12, ground := Go.Ground.guard }], guard := some (12, false) }) (v := ?vg216) rfl (by kernel_rfl) (fun _ _ _ h => h) (Or.inr hHeld215) (Or.inl ⟨by rfl, ?yg216⟩) ?_
    case yg216 => (intro wS _; go_simp <;> with_reducible rfl)
    try simp only [Act.put, List.setIfInBounds_toArray, List.set_cons_zero, List.set_cons_succ]
    refine wpG_pure (i := 21) (oi := { dst := some 35, op := Go.Op.pick (Go.Operand.tmp 26) (Go.Operand.const (Go.Value.bool true)) (Go.Operand.tmp 34), type := 4, pos := "l10_topic.go:159", after := #[{ on := 12, ground := Go.Ground.data }, { on := 20, ground := Go.Ground.data }], guard := none }) (v := ?vg217) rfl (by kernel_rfl) (fun _ _ _ h => h) (Or.inr hHeld215) (Or.inl ⟨by rfl, ?yg217⟩) ?_
    case yg217 => (intro wS _; go_simp <;> with_reducible rfl)
    try simp only [Act.put, List.setIfInBounds_toArray, List.set_cons_zero, List.set_cons_succ]
    refine wpG_pure (i := 22) (oi := { dst := some 36, op := Go.Op.move (Go.Operand.tmp 35), type := 4, pos := "l10_topic.go:159", after := #[{ on := 21, ground := Go.Ground.data }, { on := 18, ground := Go.Ground.chain }], guard := none }) (v := ?vg218) rfl (by kernel_rfl) (fun _ _ _ h => h) (Or.inr hHeld215) (Or.inl ⟨by rfl, ?yg218⟩) ?_
    case yg218 => (intro wS _; go_simp <;> with_reducible rfl)
    try simp only [Act.put, List.setIfInBounds_toArray, List.set_cons_zero, List.set_cons_succ]
    refine wpG_pure (i := 23) (oi := { dst := some 37, op := Go.Op.move (Go.Operand.tmp 0), type := 24, pos := "l10_topic.go:159", after := #[{ on := 22, ground := Go.Ground.guard }], guard := some (22, false) }) (v := ?vg219) rfl (by kernel_rfl) (fun _ _ _ h => h) (Or.inr hHeld215) (Or.inl ⟨by rfl, ?yg219⟩) ?_
    case yg219 => (intro wS _; go_simp <;> with_reducible rfl)
    try simp only [Act.put, List.setIfInBounds_toArray, List.set_cons_zero, List.set_cons_succ]
    refine wpG_pure (i := 24) (oi := { dst := some 38, op := Go.Op.fieldAddr 58 (Go.Operand.tmp 7) 1, type := 0, pos := "l10_topic.go:159", after := #[{ on := 22, ground := Go.Ground.guard }], guard := some (22, false) }) (v := ?vg220) rfl (by kernel_rfl) (fun _ _ _ h => h) (Or.inr hHeld215) (Or.inl ⟨by rfl, ?yg220⟩) ?_
    case yg220 => (intro wS _; go_simp <;> with_reducible rfl)
    try simp only [Act.put, List.setIfInBounds_toArray, List.set_cons_zero, List.set_cons_succ]
    refine wpG_load (i := 25) (oi := { dst := some 39, op := Go.Op.load 3 (Go.Operand.tmp 38), type := 3, pos := "l10_topic.go:159", after := #[{ on := 24, ground := Go.Ground.data }, { on := 22, ground := Go.Ground.guard }], guard := some (22, false) }) (v := ?vg221) [] rfl (by kernel_rfl) (fun _ _ _ h => h) hHeld215 (Or.inl ⟨by rfl, ?yg221⟩) ?_
    case yg221 => (intro wS hSw; (try dsimp only at hSw); go_simp <;> with_reducible rfl)
    try simp only [Act.put, List.setIfInBounds_toArray, List.set_cons_zero, List.set_cons_succ]
    refine wpG_pure (i := 26) (oi := { dst := some 40, op := Go.Op.indexAddr 24 (Go.Operand.tmp 37) (Go.Operand.tmp 39), type := 0, pos := "l10_topic.go:159", after := #[{ on := 23, ground := Go.Ground.data }, { on := 25, ground := Go.Ground.data }, { on := 22, ground := Go.Ground.guard }], guard := some (22, false) }) (v := ?vg222) rfl (by kernel_rfl) (fun _ _ _ h => h) (Or.inr hHeld215) (Or.inl ⟨by rfl, ?yg222⟩) ?_
    case yg222 => (intro wS _; go_simp <;> with_reducible rfl)
    try simp only [Act.put, List.setIfInBounds_toArray, List.set_cons_zero, List.set_cons_succ]
    refine wpG_pure (i := 27) (oi := { dst := some 41, op := Go.Op.fieldAddr 58 (Go.Operand.tmp 40) 0, type := 0, pos := "l10_topic.go:159", after := #[{ on := 26, ground := Go.Ground.data }, { on := 22, ground := Go.Ground.guard }], guard := some (22, false) }) (v := ?vg223) rfl (by kernel_rfl) (fun _ _ _ h => h) (Or.inr hHeld215) (Or.inl ⟨by rfl, ?yg223⟩) ?_
    case yg223 => (intro wS _; go_simp <;> with_reducible rfl)
    try simp only [Act.put, List.setIfInBounds_toArray, List.set_cons_zero, List.set_cons_succ]
    refine wpG_load (i := 28) (oi := { dst := some 42, op := Go.Op.load 9 (Go.Operand.tmp 41), type := 9, pos := "l10_topic.go:159", after := #[{ on := 27, ground := Go.Ground.data }, { on := 22, ground := Go.Ground.guard }], guard := some (22, false) }) (v := ?vg224) [] rfl (by kernel_rfl) (fun _ _ _ h => h) hHeld215 (Or.inl ⟨by rfl, ?yg224⟩) ?_
    case yg224 => (intro wS hSw; (try dsimp only at hSw); go_simp <;> with_reducible rfl)
    try simp only [Act.put, List.setIfInBounds_toArray, List.set_cons_zero, List.set_cons_succ]
    refine wpG_pure (i := 29) (oi := { dst := some 43, op := Go.Op.binOp Go.BinOp.eql 9 (Go.Operand.tmp 42) (Go.Operand.const (Go.Value.string { data := #[35] })) 9, type := 4, pos := "l10_topic.go:159", after := #[{ on := 28, ground := Go.Ground.data }, { on := 22, ground := Go.Ground.guard }], guard := some (22, false) }) (v := ?vg225) rfl (by kernel_rfl) (fun _ _ _ h => h) (Or.inr hHeld215) (Or.inl ⟨by rfl, ?yg225⟩) ?_
    case yg225 => (intro wS _; go_simp <;> with_reducible rfl)
    try simp only [Act.put, List.setIfInBounds_toArray, List.set_cons_zero, List.set_cons_succ]
    refine wpG_pure (i := 30) (oi := { dst := some 44, op := Go.Op.pick (Go.Operand.tmp 36) (Go.Operand.const (Go.Value.bool true)) (Go.Operand.tmp 43), type := 4, pos := "l10_topic.go:159", after := #[{ on := 22, ground := Go.Ground.data }, { on := 29, ground := Go.Ground.data }], guard := none }) (v := ?vg226) rfl (by kernel_rfl) (fun _ _ _ h => h) (Or.inr hHeld215) (Or.inl ⟨by rfl, ?yg226⟩) ?_
    case yg226 => (intro wS _; go_simp <;> with_reducible rfl)
    try simp only [Act.put, List.setIfInBounds_toArray, List.set_cons_zero, List.set_cons_succ]
    refine wpG_pure (i := 31) (oi := { dst := some 45, op := Go.Op.move (Go.Operand.tmp 44), type := 4, pos := "l10_topic.go:159", after := #[{ on := 30, ground := Go.Ground.data }, { on := 22, ground := Go.Ground.chain }], guard := none }) (v := ?vg227) rfl (by kernel_rfl) (fun _ _ _ h => h) (Or.inr hHeld215) (Or.inl ⟨by rfl, ?yg227⟩) ?_
    case yg227 => (intro wS _; go_simp <;> with_reducible rfl)
    try simp only [Act.put, List.setIfInBounds_toArray, List.set_cons_zero, List.set_cons_succ]
    refine wpG_pure (i := 32) (oi := { dst := some 46, op := Go.Op.move (Go.Operand.tmp 2), type := 36, pos := "l10_topic.go:159", after := #[{ on := 31, ground := Go.Ground.guard }], guard := some (31, false) }) (v := ?vg228) rfl (by kernel_rfl) (fun _ _ _ h => h) (Or.inr hHeld215) (Or.inl ⟨by rfl, ?yg228⟩) ?_
    case yg228 => (intro wS _; go_simp <;> with_reducible rfl)
    try simp only [Act.put, List.setIfInBounds_toArray, List.set_cons_zero, List.set_cons_succ]
    refine wpG_pure (i := 33) (oi := { dst := some 47, op := Go.Op.fieldAddr 58 (Go.Operand.tmp 7) 1, type := 0, pos := "l10_topic.go:159", after := #[{ on := 31, ground := Go.Ground.guard }], guard := some (31, false) }) (v := ?vg229) rfl (by kernel_rfl) (fun _ _ _ h => h) (Or.inr hHeld215) (Or.inl ⟨by rfl, ?yg229⟩) ?_
    case yg229 => (intro wS _; go_simp <;> with_reducible rfl)
    try simp only [Act.put, List.setIfInBounds_toArray, List.set_cons_zero, List.set_cons_succ]
    refine wpG_load (i := 34) (oi := { dst := some 48, op := Go.Op.load 3 (Go.Operand.tmp 47), type := 3, pos := "l10_topic.go:159", after := #[{ on := 33, ground := Go.Ground.data }, { on := 31, ground := Go.Ground.guard }], guard := some (31, false) }) (v := ?vg230) [] rfl (by kernel_rfl) (fun _ _ _ h => h) hHeld215 (Or.inl ⟨by rfl, ?yg230⟩) ?_
    case yg230 => (intro wS hSw; (try dsimp only at hSw); go_simp <;> with_reducible rfl)
    try simp only [Act.put, List.setIfInBounds_toArray, List.set_cons_zero, List.set_cons_succ]
    refine wpG_pure (i := 35) (oi := { dst := some 49, op := Go.Op.indexAddr 36 (Go.Operand.tmp 46) (Go.Operand.tmp 48), type := 0, pos := "l10_topic.go:159", after := #[{ on := 32, ground := Go.Ground.data }, { on := 34, ground := Go.Ground.data }, { on := 31, ground := Go.Ground.guard }], guard := some (31, false) }) (v := ?vg231) rfl (by kernel_rfl) (fun _ _ _ h => h) (Or.inr hHeld215) (Or.inl ⟨by rfl, ?yg231⟩) ?_
    case yg231 => (intro wS _; go_simp <;> with_reducible rfl)
    try simp only [Act.put, List.setIfInBounds_toArray, List.set_cons_zero, List.set_cons_succ]
    refine wpG_load (i := 36) (oi := { dst := some 50, op := Go.Op.load 3 (Go.Operand.tmp 49), type := 3, pos := "l10_topic.go:159", after := #[{ on := 35, ground := Go.Ground.data }, { on := 31, ground := Go.Ground.guard }], guard := some (31, false) }) (v := ?vg232) [] rfl (by kernel_rfl) (fun _ _ _ h => h) hHeld215 (Or.inl ⟨by rfl, ?yg232⟩) ?_
    case yg232 => (intro wS hSw; (try dsimp only at hSw); go_simp <;> with_reducible rfl)
    try simp only [Act.put, List.setIfInBounds_toArray, List.set_cons_zero, List.set_cons_succ]
    refine wpG_pure (i := 37) (oi := { dst := some 51, op := Go.Op.binOp Go.BinOp.eql 3 (Go.Operand.tmp 50) (Go.Operand.const (Go.Value.int Go.IntKind.i64 6)) 3, type := 4, pos := "l10_topic.go:159", after := #[{ on := 36, ground := Go.Ground.data }, { on := 31, ground := Go.Ground.guard }], guard := some (31, false) }) (v := ?vg233) rfl (by kernel_rfl) (fun _ _ _ h => h) (Or.inr hHeld215) (Or.inl ⟨by rfl, ?yg233⟩) ?_
    case yg233 => (intro wS _; go_simp <;> with_reducible rfl)
    try simp only [Act.put, List.setIfInBounds_toArray, List.set_cons_zero, List.set_cons_succ]
    refine wpG_pure (i := 38) (oi := { dst := some 52, op := Go.Op.pick (Go.Operand.tmp 45) (Go.Operand.const (Go.Value.bool true)) (Go.Operand.tmp 51), type := 4, pos := "l10_topic.go:159", after := #[{ on := 31, ground := Go.Ground.data }, { on := 37, ground := Go.Ground.data }], guard := none }) (v := ?vg234) rfl (by kernel_rfl) (fun _ _ _ h => h) (Or.inr hHeld215) (Or.inl ⟨by rfl, ?yg234⟩) ?_
    case yg234 => (intro wS _; go_simp <;> with_reducible rfl)
    try simp only [Act.put, List.setIfInBounds_toArray, List.set_cons_zero, List.set_cons_succ]
    refine wpG_done (by kernel_rfl) ?_
    skip
    have k0 := below_cellk HB3.out f0 (by omega)
    have k1 := below_cellk HB3.out g0 (by omega)
    have k3 := below_cellk HB3.out g2 (by omega)
    have HB9 := Lib.hid (above3' HBA.out HB3.out)
    have hs9 : w.heap.size + 2 ≤ w3.heap.size := by have := HB3.out.size; omega
    clear f0 g0 g1 g2 d1 d2 HFB HKD HW HLV
    go_wp2_with fail
    go_loop [56] (fun iv => ∃ (i : Nat), i ≤ x.2.2.length ∧ iv = .int .i64 (i : Int) ∧ Hid ((List.range i).all (whoAt x.2.2) = true)) (fun iv => x.2.2.length - (intOf iv).toNat)
    case atStart => exact ⟨0, by omega, rfl, rfl⟩
    case round =>
      obtain ⟨i, hil, rfl, HA⟩ := hrel
      have hlw := (sl_len HRW.out).2
      by_cases hlt : i < x.2.2.length
      case neg =>
        obtain rfl : i = x.2.2.length := by omega
        have HWB : Hid (whosB x.2.2 = true) := Lib.hid HA.out
        rw [HWB.out, Bool.true_and] at HNB
        by_cases hp0 : 0 < x.2.2.length
        · have HR : Hid (nodeB t k = true) := Lib.hid (by rw [HNB.out]; simp [hp0])
          go_wp2_with fail
          go_ret
          exact ⟨ret_bool HR.out.symm, HB9.out⟩
        have HR : Hid (nodeB t k = t.any fun y => decide (y.2.1 = (k : Int))) := Lib.hid (by rw [HNB.out]; simp [hp0])
        generalize (t.any fun y => decide (y.2.1 = (k : Int))) = r at *
        go_wp2_with fail
        refine (HNK.out _ HB9.out _ k0).mono ?_
        rintro e w5 ⟨rfl, hb5⟩
        have HB5 := Lib.hid (HB9.out.trans (hb5.mono HB9.out.size)); clear hb5
        go_wp2_with fail
        go_ret
        exact ⟨ret_bool HR.out.symm, HB5.out⟩
      obtain ⟨v, hv⟩ : ∃ v, x.2.2[i]? = some v := ⟨x.2.2[i], List.getElem?_eq_getElem hlt⟩
      obtain ⟨u, bw, offw, hu, hea, hbw, hcw⟩ := sl_one kInt_ok rfl HRW.out hv
      obtain ⟨hu, _⟩ := hu
      simp only [List.cons.injEq, and_true] at hu
      subst hu
      have hgv : x.2.2.getD i 0 = v := by simp [List.getD, hv]
      have c1 : w3.cell? ⟨bw, offw + i, none⟩ = some (.int .i64 v) := below_cellk HB9.out hcw hbw
      have HWN : Hid (whoAt x.2.2 i = false → nodeB t k = false) := Lib.hid fun h => HNW.out (whos_no hlt h)
      have HWY : Hid (whoAt x.2.2 i = true → (List.range (i + 1)).all (whoAt x.2.2) = true) := Lib.hid (who_next HA.out)
      have hwa : whoAt x.2.2 i = (inB v 0 100 && !(decide (0 < i) && decide (v ≤ x.2.2.getD (i - 1) 0))) := by unfold whoAt; rw [hgv]
      rw [hwa] at HWN HWY
      subst hea
      clear hwa hgv hcw hv
      have HWC := Lib.hid (fun wx => HWI.out wx v)
      cases hin : inB v 0 100 with
      | false =>
        rw [hin] at HWC HWN
        have HR := Lib.hid (HWN.out rfl)
        clear hin
        go_wp2_with (go_at_call 71; refine (HWC.out _).mono ?_; rintro e w' ⟨rfl, rfl⟩)
        go_ret
        exact ⟨ret_bool HR.out.symm, HB9.out⟩
      | true =>
      rw [hin] at HWC HWN HWY
      clear hin
      simp only [Bool.true_and] at HWN HWY
      by_cases hi0 : 0 < i
      case neg =>
        have HR := Lib.hid (HWY.out (by simp [hi0]))
        go_wp2_with (go_at_call 71; refine (HWC.out _).mono ?_; rintro e w' ⟨rfl, rfl⟩)
        go_round
        case rel => exact ⟨i + 1, by omega, by go_num, HR⟩
        case measure => simp [intOf]; omega
      obtain ⟨v2, hv2⟩ : ∃ v, x.2.2[i - 1]? = some v := ⟨x.2.2[i - 1]'(by omega), List.getElem?_eq_getElem (by omega)⟩
      obtain ⟨u2, bw2, offw2, hu2, hea2, hbw2, hcw2⟩ := sl_one kInt_ok rfl HRW.out hv2
      obtain ⟨hu2, _⟩ := hu2
      simp only [List.cons.injEq, and_true] at hu2
      subst hu2
      simp only [Option.some.injEq, Addr.mk.injEq, and_true] at hea2
      obtain ⟨rfl, rfl⟩ := hea2
      have hgv2 : x.2.2.getD (i - 1) 0 = v2 := by simp [List.getD, hv2]
      have c2 : w3.cell? ⟨bw, offw + (i - 1), none⟩ = some (.int .i64 v2) := below_cellk HB9.out hcw2 hbw
      rw [hgv2] at HWN HWY
      simp only [hi0, decide_true, Bool.true_and] at HWN HWY
      clear hgv2 hcw2 hv2
      have q1 : (1 : Int) ≤ (i : Int) := by omega
      have q2 : (0 : Int) ≤ (i : Int) - 1 := by omega
      have q3 : (i : Int) - 1 < (x.2.2.length : Int) := by omega
      have q4 : ((i : Int) - 1).toNat = i - 1 := by omega
      by_cases hvv : v ≤ v2
      · have HR := Lib.hid (HWN.out (by simp [hvv]))
        go_wp2_with (go_at_call 71; refine (HWC.out _).mono ?_; rintro e w' ⟨rfl, rfl⟩)
        go_ret
        exact ⟨ret_bool HR.out.symm, HB9.out⟩
      · have HR := Lib.hid (HWY.out (by simp [hvv]))
        go_wp2_with (go_at_call 71; refine (HWC.out _).mono ?_; rintro e w' ⟨rfl, rfl⟩)
        go_round
        case rel => exact ⟨i + 1, by omega, by go_num, HR⟩
        case measure => simp [intOf]; omega
end Go.Proofs.YteknmjebokimjaaDoor
