/- The program's VolumeOf: the walk. -/
import Derived.Test.YthlajmncpejhmaaVol2
namespace Go.Proofs.Ythlajmncpejhmaa
set_option linter.unusedVariables false
open Go.ChangeShapes Go.WideShapes Go.ChangeAt Go.RowKit
set_option maxRecDepth 100000

theorem Try.infoBoxV : (Try.prog.info? 28).map (fun i => (i.zero, i.size, i.bytes)) = some (some (.agg #[.slice none 0 0]), 1, 24) := by kernel_rfl
theorem drop_nil_iff {l : List Bx} (i : Nat) : (l.map (·.drop i)) = [] ↔ l = [] := by simp
def VolI (d i : Nat) : Prop := ∀ (a : Option Addr) (cap : Nat) (l : List Bx) (w : World), kBoxS.rd w.heap.size w [.slice a l.length cap] l → (∀ b ∈ l, Ok3 b) → l.length ≤ 20 →
  Calls Try.prog 60 #[.slice a l.length cap, .int .i64 (i : Int)] w fun e w' => e = .returned (.int .i64 (cntB d (l.map (·.drop i)))) ∧ Below w.heap.size w w'
theorem vol_nil (d i : Nat) (hi : i ≤ 3) (a : Option Addr) (cap : Nat) (w : World) : Calls Try.prog 60 #[.slice a 0 cap, .int .i64 (i : Int)] w fun e w' => e = .returned (.int .i64 (cntB d [])) ∧ Below w.heap.size w w' := by
  rw [cnt_none]
  go_enter Try.func60, Try.ntmps60
  go_wp2_with fail
  go_ret
  exact ⟨rfl, Below.refl _ _⟩
theorem vol_last (a : Option Addr) (cap n : Nat) (hn : 0 < n) (w : World) : Calls Try.prog 60 #[.slice a n cap, .int .i64 3] w fun e w' => e = .returned (.int .i64 1) ∧ Below w.heap.size w w' := by
  have h0 : ((n : Int) == 0) = false := by simp; omega
  go_enter Try.func60, Try.ntmps60
  go_wp2_with fail
  go_ret
  exact ⟨rfl, Below.refl _ _⟩
set_option maxHeartbeats 8000000 in
theorem vol_step (d i : Nat) (hd : i + (d + 1) = 3) (IH : VolI d (i + 1)) (a : Option Addr) (cap : Nat) (l : List Bx) (w : World) (hr : kBoxS.rd w.heap.size w [.slice a l.length cap] l) (hl : ∀ b ∈ l, Ok3 b) (hn : l.length ≤ 20) (hne : 0 < l.length) :
    Calls Try.prog 60 #[.slice a l.length cap, .int .i64 (i : Int)] w fun e w' => e = .returned (.int .i64 (cntB (d + 1) (l.map (·.drop i)))) ∧ Below w.heap.size w w' := by
  obtain ⟨i0, hi, hz0, hz1, hz2⟩ := info_parts Try.infoBoxV
  have HR := Lib.hid hr
  have hcl := (sl_len hr).2
  have HOK := Lib.hid hl
  have HIH := Lib.hid IH
  have HED := Lib.hid (impl_edges a cap l i w hr (by omega) hl hn)
  obtain ⟨hp1, hcnt⟩ := cnt_places hd hl hne
  have HPI := Lib.hid (plc_inv (edgeI l i))
  have hpe : (plcR (edgeI l i)).length ≤ 40 := by
    have h1 := compact_le ((edgeI l i).mergeSort fun x y => decide (x ≤ y))
    have h2 := edgeI_len l i
    rw [List.length_mergeSort] at h1
    unfold plcR; omega
  have HEM : Hid (∀ q ∈ plcR (edgeI l i), -1000 ≤ q ∧ q ≤ 1001) := Lib.hid (fun q hq => by
    have h1 := ((plc_inv (edgeI l i)).2 q).1 hq
    unfold edgeI at h1
    obtain ⟨b, hb, h2⟩ := List.mem_flatMap.1 h1
    have hok := hl b hb
    have := hok.1 (b.getD i (0, 0)) (by rw [List.getD_eq_getElem?_getD, List.getElem?_eq_getElem (show i < b.length by rw [hok.2]; omega)]; exact List.getElem_mem _)
    simp only [List.mem_cons, List.not_mem_nil, or_false] at h2
    omega)
  have hg0 : ∀ x, 0 ≤ (fun x => cntB d (thereR x (l.map (·.drop i)))) x := fun x => cnt_nonneg d _
  have HST := Lib.hid (fun (k : Nat) (hk : k ≤ (plcR (edgeI l i)).length - 1) => show 0 ≤ stK (fun x => cntB d (thereR x (l.map (·.drop i)))) (plcR (edgeI l i)) k ∧ stK (fun x => cntB d (thereR x (l.map (·.drop i)))) (plcR (edgeI l i)) k ≤ 8012006001 from by
    have h1 := stK_mono hg0 (plc_inv (edgeI l i)).1 k 0 (by omega)
    have h2 := stK_mono hg0 (plc_inv (edgeI l i)).1 ((plcR (edgeI l i)).length - 1 - k) k (by omega)
    rw [stK_zero, Nat.zero_add] at h1
    rw [show k + ((plcR (edgeI l i)).length - 1 - k) = (plcR (edgeI l i)).length - 1 by omega, ← hcnt] at h2
    have h3 := cnt_bd3 (show d + 1 ≤ 3 by omega) (l.map (·.drop i))
    omega)
  have HSN := Lib.hid (fun (k : Nat) => stK_next (fun x => cntB d (thereR x (l.map (·.drop i)))) (plcR (edgeI l i)) k)
  have HCE := Lib.hid hcnt
  unfold PlcOf at HED
  clear hr hl hg0 hcnt IH
  have HTD := Lib.hid (fun x => there_drop x i l)
  have HCB := Lib.hid (fun L => And.intro (cnt_nonneg d L) (cnt_bd2 (show d ≤ 2 by omega) L))
  have HZ := Lib.hid (stK_zero (fun x => cntB d (thereR x (l.map (·.drop i)))) (plcR (edgeI l i)))
  generalize stK (fun x => cntB d (thereR x (l.map (·.drop i)))) = st at *
  generalize plcR (edgeI l i) = P at *
  have h0 : ((l.length : Int) == 0) = false := beq_eq_false_iff_ne.2 (by omega)
  have h3 : ((i : Int) == 3) = false := beq_eq_false_iff_ne.2 (by omega)
  have hm1 : ((P.length : Int) - 1) = ((P.length - 1 : Nat) : Int) := by omega
  have hm2 : IntKind.i64.wrap ((P.length : Int) - 1) = (P.length : Int) - 1 := IntWalk.i64_in _ (by omega)
  have hm3 : (1 : Int) ≤ (P.length : Int) := by omega
  go_enter Try.func60, Try.ntmps60
  go_wp2_with fail
  refine HED.out.mono ?_
  rintro e w1 ⟨g, cp, rfl, hpc, hgl, ⟨hc1, hc2⟩, hb⟩
  have HPC := Lib.hid hpc; have HB1 := Lib.hid hb
  have hs1 : w.heap.size ≤ w1.heap.size := hb.size
  clear hpc hb HED
  go_wp2_with fail
  go_loopw [6, 26] (fun sv kv wr => ∃ k : Nat, k ≤ P.length - 1 ∧ kv = .int .i64 (k : Int) ∧ sv = .int .i64 (st P k) ∧ Hid (Below w1.heap.size w1 wr)) (fun _ kv _ => P.length - 1 - (intOf kv).toNat)
  case atStart => exact ⟨0, by omega, rfl, by rw [HZ.out], Lib.hid (Below.refl _ _)⟩
  case round =>
    obtain ⟨w2, rfl⟩ : ∃ z : World, z = wr := ⟨_, rfl⟩
    obtain ⟨k, hk, rfl, rfl, HB2⟩ := hrel
    have HBW : Hid (Below w.heap.size w w2) := Lib.hid (HB1.out.trans (HB2.out.mono hs1))
    have hs2 : w1.heap.size ≤ w2.heap.size := HB2.out.size
    by_cases hkl : k < P.length - 1
    case neg =>
      obtain rfl : k = P.length - 1 := by omega
      go_wp2_with fail
      go_ret
      exact ⟨ret_int HCE.out.symm, HBW.out⟩
    have hkP : P[k]? = some (P.getD k 0) := by simp [List.getD, show k < P.length by omega]
    have hkP1 : P[k + 1]? = some (P.getD (k + 1) 0) := by simp [List.getD, show k + 1 < P.length by omega]
    have p0 := below_cellk HB2.out (HPC.out k _ hkP) hgl
    have hq0 := HEM.out _ (List.mem_of_getElem? hkP); have hq1 := HEM.out _ (List.mem_of_getElem? hkP1)
    have HP1 := Lib.hid (HPC.out (k + 1) _ hkP1)
    have hkN := HSN.out k
    have hb1 := HST.out k hk; have hb2 := HST.out (k + 1) (by omega)
    rw [← HTD.out] at hkN
    have hcb := HCB.out ((thereI (P.getD k 0) i l).map (·.drop (i + 1)))
    clear hkP hkP1
    generalize hX : P.getD k 0 = X at *
    generalize P.getD (k + 1) 0 = Y at *
    clear hX
    generalize hM : cntB d ((thereI X i l).map (·.drop (i + 1))) = M at *
    have HM := Lib.hid hM
    have hki : (k : Int) < ((P.length - 1 : Nat) : Int) := by omega
    have hk1i : (k : Int) + 1 < (P.length : Int) := by omega
    generalize hS1 : st P (k + 1) = S1 at *
    have HS1 := Lib.hid hS1
    generalize st P k = S0 at *
    have hprod : (Y - X) * M = S1 - S0 := by omega
    have hw1 : IntKind.i64.wrap (Y - X) = Y - X := IntWalk.i64_in _ (by omega)
    have hw2 : IntKind.i64.wrap ((Y - X) * M) = (Y - X) * M := by rw [hprod]; exact IntWalk.i64_in _ (by omega)
    have hw3 : IntKind.i64.wrap (S0 + (Y - X) * M) = S1 := by rw [hprod, show S0 + (S1 - S0) = S1 by omega]; exact IntWalk.i64_in _ (by omega)
    have HW2 := Lib.hid hw2; have HW3 := Lib.hid hw3
    clear hM hS1 hkN hprod hw2 hw3
    go_wp2_with fail
    go_loopw [9, 34] (fun ov jv wr => ∃ (j : Nat) (v : Value) (vss : List (List Value)), j ≤ l.length ∧ jv = .int .i64 (j : Int) ∧ ov = v ∧ Hid (wr.ownsRow w2.heap.size 28 1 v (thereI X i (l.take j)).length vss.flatten) ∧ Hid (RdL kBox w2.heap.size wr vss (thereI X i (l.take j))) ∧ Hid (Below w2.heap.size w2 wr)) (fun _ jv _ => l.length - (intOf jv).toNat)
    case atStart => exact ⟨0, _, [], by omega, rfl, rfl, Lib.hid (World.ownsRow_made _ #[] 0 (Nat.le_refl _) (by unfold maxLen; omega) rfl), Lib.hid (by rw [List.take_zero]; trivial), Lib.hid ((Below.refl _ _).alloc (Nat.le_refl _) _)⟩
    case round =>
      obtain ⟨w3, rfl⟩ : ∃ z : World, z = wr := ⟨_, rfl⟩
      obtain ⟨j, v, vss, hj, rfl, rfl, HO, HRL, HB3⟩ := hrel
      have hs3 : w2.heap.size ≤ w3.heap.size := HB3.out.size
      by_cases hjl : j < l.length
      case neg =>
        obtain rfl : j = l.length := by omega
        rw [List.take_length] at HO HRL
        have hp1' := below_later HB3.out (below_later HB2.out HP1.out)
        obtain ⟨fa, fc, rfl⟩ := form_of_own HO.out
        have hcaps := own_caps HO.out
        have hlen := there_le X i l
        have hrd : kBoxS.rd w3.heap.size w3 [.slice fa (thereI X i l).length fc] (thereI X i l) := ⟨fa, fc, vss, rfl, hcaps, own_rw HO.out, HRL.out.imp (fun _ _ h => kBox_ok.rmono h hs3)⟩
        have HCALL := Lib.hid (fun wx (hb : Below w3.heap.size w3 wx) => HIH.out fa fc (thereI X i l) wx (kBoxS_ok.later hrd hb) (there_ok HOK.out) (by omega))
        rw [HM.out, show ((i + 1 : Nat) : Int) = (i : Int) + 1 by omega] at HCALL
        have hwi : IntKind.i64.wrap ((i : Int) + 1) = (i : Int) + 1 := IntWalk.i64_in _ (by omega)
        have hwk : IntKind.i64.wrap ((k : Int) + 1) = (k : Int) + 1 := IntWalk.i64_in _ (by omega)
        have hk0 : (0 : Int) ≤ (k : Int) + 1 := by omega
        have hkt : ((k : Int) + 1).toNat = k + 1 := by omega
        have hw2 := HW2.out; have hw3 := HW3.out
        have hnj : ¬ ((l.length : Nat) : Int) < ((l.length : Nat) : Int) := by omega
        unfold maxLen at hcaps
        clear hrd hlen HO HRL
        generalize (thereI X i l).length = tl at *
        go_wp2_with fail
        refine wp_region_G [] (fun w' => w'.cell? ⟨g, k + 1, none⟩ = some (.int .i64 Y)) (by kernel_rfl) ?_ (fun hHeld => ?_)
        · exact hp1'
        refine wpG_pure (i := 0) (oi := { dst := some 57, op := Go.Op.move (Go.Operand.tmp 6), type := 3, pos := "l9_cover.go:185", after := #[], guard := none }) (v := ?vg1) rfl (by kernel_rfl) (fun _ _ _ h => h) (Or.inr hHeld) (Or.inl ⟨by rfl, ?yg1⟩) ?_
        case yg1 => (intro wS _; go_simp <;> with_reducible rfl)
        try simp only [Act.put, List.setIfInBounds_toArray, List.set_cons_zero, List.set_cons_succ]
        refine wpG_pure (i := 1) (oi := { dst := some 58, op := Go.Op.move (Go.Operand.tmp 5), type := 36, pos := "l9_cover.go:185", after := #[], guard := none }) (v := ?vg2) rfl (by kernel_rfl) (fun _ _ _ h => h) (Or.inr hHeld) (Or.inl ⟨by rfl, ?yg2⟩) ?_
        case yg2 => (intro wS _; go_simp <;> with_reducible rfl)
        try simp only [Act.put, List.setIfInBounds_toArray, List.set_cons_zero, List.set_cons_succ]
        refine wpG_pure (i := 2) (oi := { dst := some 59, op := Go.Op.move (Go.Operand.tmp 7), type := 3, pos := "l9_cover.go:185", after := #[], guard := none }) (v := ?vg3) rfl (by kernel_rfl) (fun _ _ _ h => h) (Or.inr hHeld) (Or.inl ⟨by rfl, ?yg3⟩) ?_
        case yg3 => (intro wS _; go_simp <;> with_reducible rfl)
        try simp only [Act.put, List.setIfInBounds_toArray, List.set_cons_zero, List.set_cons_succ]
        refine wpG_pure (i := 3) (oi := { dst := some 60, op := Go.Op.binOp Go.BinOp.add 3 (Go.Operand.tmp 59) (Go.Operand.const (Go.Value.int Go.IntKind.i64 1)) 3, type := 3, pos := "l9_cover.go:185", after := #[{ on := 2, ground := Go.Ground.data }], guard := none }) (v := ?vg4) rfl (by kernel_rfl) (fun _ _ _ h => h) (Or.inr hHeld) (Or.inl ⟨by rfl, ?yg4⟩) ?_
        case yg4 => (intro wS _; go_simp <;> with_reducible rfl)
        try simp only [Act.put, List.setIfInBounds_toArray, List.set_cons_zero, List.set_cons_succ]
        refine wpG_pure (i := 4) (oi := { dst := some 61, op := Go.Op.indexAddr 36 (Go.Operand.tmp 58) (Go.Operand.tmp 60), type := 0, pos := "l9_cover.go:185", after := #[{ on := 1, ground := Go.Ground.data }, { on := 3, ground := Go.Ground.data }], guard := none }) (v := ?vg5) rfl (by kernel_rfl) (fun _ _ _ h => h) (Or.inr hHeld) (Or.inl ⟨by rfl, ?yg5⟩) ?_
        case yg5 => (intro wS _; go_simp <;> with_reducible rfl)
        try simp only [Act.put, List.setIfInBounds_toArray, List.set_cons_zero, List.set_cons_succ]
        refine wpG_load (i := 5) (oi := { dst := some 62, op := Go.Op.load 3 (Go.Operand.tmp 61), type := 3, pos := "l9_cover.go:185", after := #[{ on := 4, ground := Go.Ground.data }], guard := none }) (v := ?vg6) [] rfl (by kernel_rfl) (fun _ _ _ h => h) hHeld (Or.inl ⟨by rfl, ?yg6⟩) ?_
        case yg6 => (intro wS hSw; (try dsimp only at hSw); go_simp <;> with_reducible rfl)
        try simp only [Act.put, List.setIfInBounds_toArray, List.set_cons_zero, List.set_cons_succ]
        refine wpG_pure (i := 6) (oi := { dst := some 63, op := Go.Op.move (Go.Operand.tmp 8), type := 3, pos := "l9_cover.go:185", after := #[], guard := none }) (v := ?vg7) rfl (by kernel_rfl) (fun _ _ _ h => h) (Or.inr hHeld) (Or.inl ⟨by rfl, ?yg7⟩) ?_
        case yg7 => (intro wS _; go_simp <;> with_reducible rfl)
        try simp only [Act.put, List.setIfInBounds_toArray, List.set_cons_zero, List.set_cons_succ]
        refine wpG_pure (i := 7) (oi := { dst := some 64, op := Go.Op.binOp Go.BinOp.sub 3 (Go.Operand.tmp 62) (Go.Operand.tmp 63) 3, type := 3, pos := "l9_cover.go:185", after := #[{ on := 5, ground := Go.Ground.data }, { on := 6, ground := Go.Ground.data }], guard := none }) (v := ?vg8) rfl (by kernel_rfl) (fun _ _ _ h => h) (Or.inr hHeld) (Or.inl ⟨by rfl, ?yg8⟩) ?_
        case yg8 => (intro wS _; go_simp <;> with_reducible rfl)
        try simp only [Act.put, List.setIfInBounds_toArray, List.set_cons_zero, List.set_cons_succ]
        refine wpG_pure (i := 8) (oi := { dst := some 65, op := Go.Op.move (Go.Operand.tmp 9), type := 40, pos := "l9_cover.go:185", after := #[], guard := none }) (v := ?vg9) rfl (by kernel_rfl) (fun _ _ _ h => h) (Or.inr hHeld) (Or.inl ⟨by rfl, ?yg9⟩) ?_
        case yg9 => (intro wS _; go_simp <;> with_reducible rfl)
        try simp only [Act.put, List.setIfInBounds_toArray, List.set_cons_zero, List.set_cons_succ]
        refine wpG_pure (i := 9) (oi := { dst := some 66, op := Go.Op.move (Go.Operand.tmp 1), type := 3, pos := "l9_cover.go:185", after := #[], guard := none }) (v := ?vg10) rfl (by kernel_rfl) (fun _ _ _ h => h) (Or.inr hHeld) (Or.inl ⟨by rfl, ?yg10⟩) ?_
        case yg10 => (intro wS _; go_simp <;> with_reducible rfl)
        try simp only [Act.put, List.setIfInBounds_toArray, List.set_cons_zero, List.set_cons_succ]
        refine wpG_pure (i := 10) (oi := { dst := some 67, op := Go.Op.binOp Go.BinOp.add 3 (Go.Operand.tmp 66) (Go.Operand.const (Go.Value.int Go.IntKind.i64 1)) 3, type := 3, pos := "l9_cover.go:185", after := #[{ on := 9, ground := Go.Ground.data }], guard := none }) (v := ?vg11) rfl (by kernel_rfl) (fun _ _ _ h => h) (Or.inr hHeld) (Or.inl ⟨by rfl, ?yg11⟩) ?_
        case yg11 => (intro wS _; go_simp <;> with_reducible rfl)
        try simp only [Act.put, List.setIfInBounds_toArray, List.set_cons_zero, List.set_cons_succ]
        refine wpG_one (i := 11) (o := { dst := some 68, op := Go.Op.call { callee := Go.Callee.value (Go.Operand.func 60), args := #[Go.Operand.tmp 65, Go.Operand.tmp 67], argTypes := #[40, 3] }, type := 3, pos := "l9_cover.go:185", after := #[{ on := 8, ground := Go.Ground.data }, { on := 10, ground := Go.Ground.data }], guard := none }) rfl (by kernel_rfl) (fun K hK => ?_)
        go_simp
        refine (HCALL.out _ (rdrew (Below.refl _ _) 1)).mono ?_
        rintro e w4 ⟨rfl, hb4⟩
        have HB4 := Lib.hid (rstep (rdrew (Below.refl w3.heap.size w3) 1) hb4)
        clear hb4
        refine hK.out _ _ (Or.inr ?khHeld12) (fun hHeld12S => ?_)
        case khHeld12 => exact below_later HB4.out hp1'
        have hHeld12 := hHeld12S.held (by kernel_rfl)
        clear hK K
        try simp only [Act.put, List.setIfInBounds_toArray, List.set_cons_zero, List.set_cons_succ]
        refine wpG_pure (i := 12) (oi := { dst := some 69, op := Go.Op.binOp Go.BinOp.mul 3 (Go.Operand.tmp 64) (Go.Operand.tmp 68) 3, type := 3, pos := "l9_cover.go:185", after := #[{ on := 7, ground := Go.Ground.data }, { on := 11, ground := Go.Ground.data }], guard := none }) (v := ?vg13) rfl (by kernel_rfl) (fun _ _ _ h => h) (Or.inr hHeld12) (Or.inl ⟨by rfl, ?yg13⟩) ?_
        case yg13 => (intro wS _; go_simp <;> with_reducible rfl)
        try simp only [Act.put, List.setIfInBounds_toArray, List.set_cons_zero, List.set_cons_succ]
        refine wpG_pure (i := 13) (oi := { dst := some 70, op := Go.Op.binOp Go.BinOp.add 3 (Go.Operand.tmp 57) (Go.Operand.tmp 69) 3, type := 3, pos := "l9_cover.go:185", after := #[{ on := 0, ground := Go.Ground.data }, { on := 12, ground := Go.Ground.data }], guard := none }) (v := ?vg14) rfl (by kernel_rfl) (fun _ _ _ h => h) (Or.inr hHeld12) (Or.inl ⟨by rfl, ?yg14⟩) ?_
        case yg14 => (intro wS _; go_simp <;> with_reducible rfl)
        try simp only [Act.put, List.setIfInBounds_toArray, List.set_cons_zero, List.set_cons_succ]
        refine wpG_pure (i := 14) (oi := { dst := some 6, op := Go.Op.assign (Go.Operand.tmp 70), type := 3, pos := "l9_cover.go:185", after := #[{ on := 13, ground := Go.Ground.data }, { on := 11, ground := Go.Ground.chain }, { on := 0, ground := Go.Ground.phase }, { on := 1, ground := Go.Ground.phase }, { on := 2, ground := Go.Ground.phase }, { on := 3, ground := Go.Ground.phase }, { on := 4, ground := Go.Ground.phase }, { on := 5, ground := Go.Ground.phase }, { on := 6, ground := Go.Ground.phase }, { on := 7, ground := Go.Ground.phase }, { on := 8, ground := Go.Ground.phase }, { on := 9, ground := Go.Ground.phase }, { on := 10, ground := Go.Ground.phase }, { on := 11, ground := Go.Ground.phase }, { on := 12, ground := Go.Ground.phase }, { on := 13, ground := Go.Ground.phase }], guard := none }) (v := ?vg15) rfl (by kernel_rfl) (fun _ _ _ h => h) (Or.inr hHeld12) (Or.inl ⟨by rfl, ?yg15⟩) ?_
        case yg15 => (intro wS _; go_simp <;> with_reducible rfl)
        try simp only [Act.put, List.setIfInBounds_toArray, List.set_cons_zero, List.set_cons_succ]
        refine wpG_done (by kernel_rfl) ?_
        skip
        go_wp2_with fail
        go_roundw
        case rel => exact ⟨k + 1, by omega, by go_num, by rw [HS1.out], Lib.hid ((HB2.out.trans (HB3.out.mono hs2)).trans (HB4.out.mono (Nat.le_trans hs2 hs3)))⟩
        case measure => (simp [intOf]; try omega)
      have HB3W : Hid (Below w.heap.size w w3) := Lib.hid (HBW.out.trans (HB3.out.mono HBW.out.size))
      obtain ⟨x, hx⟩ : ∃ x, l[j]? = some x := ⟨l[j], List.getElem?_eq_getElem hjl⟩
      obtain ⟨u, b, off, hu, rfl, hbl, hc⟩ := sl_one kBox_ok rfl HR.out hx
      obtain ⟨a2, p2, hu2⟩ := box_formV hu
      simp only [List.cons.injEq, and_true] at hu2
      subst hu2
      have hok := HOK.out x (List.mem_of_getElem? hx)
      have hx3 : i < x.length := by rw [hok.2]; omega
      obtain ⟨b2, o2, rfl, hb2', s0, s1⟩ := side_cells hu hx3
      have c0 := below_cellk HB3W.out hc hbl
      have k1 := cell_alloc (.cells #[.slice (some ⟨b2, o2, none⟩) x.length p2] 28) (below_cellk HB3W.out s0 hb2')
      have k2 := cell_alloc (.cells #[.slice (some ⟨b2, o2, none⟩) x.length p2] 28) (below_cellk HB3W.out s1 hb2')
      have k0 : (w3.alloc (.cells #[.slice (some ⟨b2, o2, none⟩) x.length p2] 28)).cell? ⟨w3.heap.size, 0, none⟩ = some (.slice (some ⟨b2, o2, none⟩) x.length p2) := by go_simp
      have HU := Lib.hid hu
      have HNX := Lib.hid (there_next (x := X) (i := i) hx)
      have HOA := Lib.hid (HO.out.alloc (.cells #[.slice (some ⟨b2, o2, none⟩) x.length p2] 28))
      have HBA := Lib.hid (ralloc HB3.out (.cells #[.slice (some ⟨b2, o2, none⟩) x.length p2] 28))
      have hle := there_le X i (l.take j)
      rw [List.length_take, Nat.min_eq_left hj] at hle
      have hx3i : (i : Int) < (x.length : Int) := by omega
      have hi0 : (0 : Int) ≤ (i : Int) := Int.natCast_nonneg _
      have hsA : w2.heap.size ≤ (w3.alloc (.cells #[.slice (some ⟨b2, o2, none⟩) x.length p2] 28)).heap.size := HBA.out.size
      have hal : Below w3.heap.size w3 (w3.alloc (.cells #[.slice (some ⟨b2, o2, none⟩) x.length p2] 28)) := (Below.refl _ _).alloc (Nat.le_refl _) _
      have HRA := Lib.hid (HRL.out.imp (fun _ _ h => kBox_ok.rbelow h (hal.mono hs3)))
      clear hx hc s0 s1 hok hu hal HO HRL
      generalize (x.getD i (0, 0)).1 = lo at *
      generalize (x.getD i (0, 0)).2 = hh at *
      cases htb : inB X lo hh with
      | false =>
        have HWI := Lib.hid (fun wx => within_any X lo hh wx)
        rw [htb] at HWI HNX
        have HNE : Hid (thereI X i (l.take (j + 1)) = thereI X i (l.take j)) := Lib.hid (by rw [HNX.out]; simp)
        clear htb
        go_wp2_with fail
        generalize w3.alloc (.cells #[.slice (some ⟨b2, o2, none⟩) x.length p2] 28) = wa at *
        generalize w3.heap.size = B7 at *
        refine wp_region_G [13] (fun w' => w'.cell? ⟨B7, 0, none⟩ = some (.slice (some ⟨b2, o2, none⟩) x.length p2) ∧ w'.cell? ⟨b2, o2 + i * 2, none⟩ = some (.int .i64 lo) ∧ w'.cell? ⟨b2, o2 + i * 2 + 1, none⟩ = some (.int .i64 hh)) (by kernel_rfl) ?_ (fun hHeld => ?_)
        · exact ⟨k0, k1, k2⟩
        refine wpG_pure (i := 0) (oi := { dst := some 38, op := Go.Op.move (Go.Operand.tmp 8), type := 3, pos := "l9_cover.go:181", after := #[], guard := none }) (v := ?vg16) rfl (by kernel_rfl) (fun _ _ _ h => h) (Or.inr hHeld) (Or.inl ⟨by rfl, ?yg16⟩) ?_
        case yg16 => (intro wS _; go_simp <;> with_reducible rfl)
        try simp only [Act.put, List.setIfInBounds_toArray, List.set_cons_zero, List.set_cons_succ]
        refine wpG_pure (i := 1) (oi := { dst := some 39, op := Go.Op.fieldAddr 28 (Go.Operand.tmp 11) 0, type := 0, pos := "l9_cover.go:181", after := #[], guard := none }) (v := ?vg17) rfl (by kernel_rfl) (fun _ _ _ h => h) (Or.inr hHeld) (Or.inl ⟨by rfl, ?yg17⟩) ?_
        case yg17 => (intro wS _; go_simp <;> with_reducible rfl)
        try simp only [Act.put, List.setIfInBounds_toArray, List.set_cons_zero, List.set_cons_succ]
        refine wpG_load (i := 2) (oi := { dst := some 40, op := Go.Op.load 26 (Go.Operand.tmp 39), type := 26, pos := "l9_cover.go:181", after := #[{ on := 1, ground := Go.Ground.data }], guard := none }) (v := ?vg18) [[13, 6, 5, 4, 2]] rfl (by kernel_rfl) (fun _ _ _ h => h) hHeld (Or.inl ⟨by rfl, ?yg18⟩) ?_
        case yg18 => (intro wS hSw; (try dsimp only at hSw); go_simp <;> with_reducible rfl)
        try simp only [Act.put, List.setIfInBounds_toArray, List.set_cons_zero, List.set_cons_succ]
        refine wpG_pure (i := 3) (oi := { dst := some 41, op := Go.Op.move (Go.Operand.tmp 1), type := 3, pos := "l9_cover.go:181", after := #[], guard := none }) (v := ?vg19) rfl (by kernel_rfl) (fun _ _ _ h => h) (Or.inr hHeld) (Or.inl ⟨by rfl, ?yg19⟩) ?_
        case yg19 => (intro wS _; go_simp <;> with_reducible rfl)
        try simp only [Act.put, List.setIfInBounds_toArray, List.set_cons_zero, List.set_cons_succ]
        refine wpG_pure (i := 4) (oi := { dst := some 42, op := Go.Op.indexAddr 26 (Go.Operand.tmp 40) (Go.Operand.tmp 41), type := 0, pos := "l9_cover.go:181", after := #[{ on := 2, ground := Go.Ground.data }, { on := 3, ground := Go.Ground.data }], guard := none }) (v := ?vg20) rfl (by kernel_rfl) (fun _ _ _ h => h) (Or.inr hHeld) (Or.inl ⟨by rfl, ?yg20⟩) ?_
        case yg20 => (intro wS _; go_simp <;> with_reducible rfl)
        try simp only [Act.put, List.setIfInBounds_toArray, List.set_cons_zero, List.set_cons_succ]
        refine wpG_pure (i := 5) (oi := { dst := some 43, op := Go.Op.fieldAddr 64 (Go.Operand.tmp 42) 0, type := 0, pos := "l9_cover.go:181", after := #[{ on := 4, ground := Go.Ground.data }], guard := none }) (v := ?vg21) rfl (by kernel_rfl) (fun _ _ _ h => h) (Or.inr hHeld) (Or.inl ⟨by rfl, ?yg21⟩) ?_
        case yg21 => (intro wS _; go_simp <;> with_reducible rfl)
        try simp only [Act.put, List.setIfInBounds_toArray, List.set_cons_zero, List.set_cons_succ]
        refine wpG_load (i := 6) (oi := { dst := some 44, op := Go.Op.load 3 (Go.Operand.tmp 43), type := 3, pos := "l9_cover.go:181", after := #[{ on := 5, ground := Go.Ground.data }], guard := none }) (v := ?vg22) [[13, 6]] rfl (by kernel_rfl) (fun _ _ _ h => h) hHeld (Or.inl ⟨by rfl, ?yg22⟩) ?_
        case yg22 => (intro wS hSw; (try dsimp only at hSw); go_simp <;> with_reducible rfl)
        try simp only [Act.put, List.setIfInBounds_toArray, List.set_cons_zero, List.set_cons_succ]
        refine wpG_pure (i := 7) (oi := { dst := some 45, op := Go.Op.fieldAddr 28 (Go.Operand.tmp 11) 0, type := 0, pos := "l9_cover.go:181", after := #[], guard := none }) (v := ?vg23) rfl (by kernel_rfl) (fun _ _ _ h => h) (Or.inr hHeld) (Or.inl ⟨by rfl, ?yg23⟩) ?_
        case yg23 => (intro wS _; go_simp <;> with_reducible rfl)
        try simp only [Act.put, List.setIfInBounds_toArray, List.set_cons_zero, List.set_cons_succ]
        refine wpG_load (i := 8) (oi := { dst := some 46, op := Go.Op.load 26 (Go.Operand.tmp 45), type := 26, pos := "l9_cover.go:181", after := #[{ on := 7, ground := Go.Ground.data }], guard := none }) (v := ?vg24) [[13, 12, 11, 10, 8]] rfl (by kernel_rfl) (fun _ _ _ h => h) hHeld (Or.inl ⟨by rfl, ?yg24⟩) ?_
        case yg24 => (intro wS hSw; (try dsimp only at hSw); go_simp <;> with_reducible rfl)
        try simp only [Act.put, List.setIfInBounds_toArray, List.set_cons_zero, List.set_cons_succ]
        refine wpG_pure (i := 9) (oi := { dst := some 47, op := Go.Op.move (Go.Operand.tmp 1), type := 3, pos := "l9_cover.go:181", after := #[], guard := none }) (v := ?vg25) rfl (by kernel_rfl) (fun _ _ _ h => h) (Or.inr hHeld) (Or.inl ⟨by rfl, ?yg25⟩) ?_
        case yg25 => (intro wS _; go_simp <;> with_reducible rfl)
        try simp only [Act.put, List.setIfInBounds_toArray, List.set_cons_zero, List.set_cons_succ]
        refine wpG_pure (i := 10) (oi := { dst := some 48, op := Go.Op.indexAddr 26 (Go.Operand.tmp 46) (Go.Operand.tmp 47), type := 0, pos := "l9_cover.go:181", after := #[{ on := 8, ground := Go.Ground.data }, { on := 9, ground := Go.Ground.data }], guard := none }) (v := ?vg26) rfl (by kernel_rfl) (fun _ _ _ h => h) (Or.inr hHeld) (Or.inl ⟨by rfl, ?yg26⟩) ?_
        case yg26 => (intro wS _; go_simp <;> with_reducible rfl)
        try simp only [Act.put, List.setIfInBounds_toArray, List.set_cons_zero, List.set_cons_succ]
        refine wpG_pure (i := 11) (oi := { dst := some 49, op := Go.Op.fieldAddr 64 (Go.Operand.tmp 48) 1, type := 0, pos := "l9_cover.go:181", after := #[{ on := 10, ground := Go.Ground.data }], guard := none }) (v := ?vg27) rfl (by kernel_rfl) (fun _ _ _ h => h) (Or.inr hHeld) (Or.inl ⟨by rfl, ?yg27⟩) ?_
        case yg27 => (intro wS _; go_simp <;> with_reducible rfl)
        try simp only [Act.put, List.setIfInBounds_toArray, List.set_cons_zero, List.set_cons_succ]
        refine wpG_load (i := 12) (oi := { dst := some 50, op := Go.Op.load 3 (Go.Operand.tmp 49), type := 3, pos := "l9_cover.go:181", after := #[{ on := 11, ground := Go.Ground.data }], guard := none }) (v := ?vg28) [[13, 12]] rfl (by kernel_rfl) (fun _ _ _ h => h) hHeld (Or.inl ⟨by rfl, ?yg28⟩) ?_
        case yg28 => (intro wS hSw; (try dsimp only at hSw); go_simp <;> with_reducible rfl)
        try simp only [Act.put, List.setIfInBounds_toArray, List.set_cons_zero, List.set_cons_succ]
        refine wpG_one (i := 13) (o := { dst := some 51, op := Go.Op.call { callee := Go.Callee.value (Go.Operand.func 72), args := #[Go.Operand.tmp 38, Go.Operand.tmp 44, Go.Operand.tmp 50], argTypes := #[3, 3, 3] }, type := 4, pos := "l9_cover.go:181", after := #[{ on := 0, ground := Go.Ground.data }, { on := 6, ground := Go.Ground.data }, { on := 12, ground := Go.Ground.data }], guard := none }) rfl (by kernel_rfl) (fun K hK => ?_)
        go_simp
        refine (HWI.out _).mono ?_
        rintro e w' ⟨rfl, rfl⟩
        refine hK.out _ _ (Or.inl (by kernel_rfl)) (fun _ => ?_)
        clear hK K
        try simp only [Act.put, List.setIfInBounds_toArray, List.set_cons_zero, List.set_cons_succ]
        refine wpG_done (by kernel_rfl) ?_
        skip
        go_wp2_with fail
        go_roundw
        case rel => exact ⟨j + 1, _, vss, by omega, by go_num, rfl, Lib.hid (by rw [HNE.out]; exact own_later HOA.out (rdrew (Below.refl _ _) 1)), Lib.hid (by rw [HNE.out]; exact HRA.out.imp (fun _ _ h => kBox_ok.rbelow h ((rdrew (Below.refl wa.heap.size wa) 1).mono hsA))), Lib.hid (rdrew HBA.out 1)⟩
        case measure => (simp [intOf]; try omega)
      | true =>
        have HWI := Lib.hid (fun wx => within_any X lo hh wx)
        rw [htb] at HWI HNX
        have HNE : Hid (thereI X i (l.take (j + 1)) = thereI X i (l.take j) ++ [x]) := Lib.hid (by rw [HNX.out]; simp)
        have HUA := Lib.hid (kBox_ok.rmono (kBox_ok.rbelow HU.out HBW.out) HBW.out.size)
        clear htb
        go_wp2_with fail
        have HBA3 := Lib.hid (ralloc HB3.out (.cells #[.slice (some ⟨b2, o2, none⟩) x.length p2] 28))
        generalize w3.alloc (.cells #[.slice (some ⟨b2, o2, none⟩) x.length p2] 28) = wa at *
        generalize w3.heap.size = B7 at *
        refine wp_region_G [13] (fun w' => w'.cell? ⟨B7, 0, none⟩ = some (.slice (some ⟨b2, o2, none⟩) x.length p2) ∧ w'.cell? ⟨b2, o2 + i * 2, none⟩ = some (.int .i64 lo) ∧ w'.cell? ⟨b2, o2 + i * 2 + 1, none⟩ = some (.int .i64 hh)) (by kernel_rfl) ?_ (fun hHeld => ?_)
        · exact ⟨k0, k1, k2⟩
        refine wpG_pure (i := 0) (oi := { dst := some 38, op := Go.Op.move (Go.Operand.tmp 8), type := 3, pos := "l9_cover.go:181", after := #[], guard := none }) (v := ?vg30) rfl (by kernel_rfl) (fun _ _ _ h => h) (Or.inr hHeld) (Or.inl ⟨by rfl, ?yg30⟩) ?_
        case yg30 => (intro wS _; go_simp <;> with_reducible rfl)
        try simp only [Act.put, List.setIfInBounds_toArray, List.set_cons_zero, List.set_cons_succ]
        refine wpG_pure (i := 1) (oi := { dst := some 39, op := Go.Op.fieldAddr 28 (Go.Operand.tmp 11) 0, type := 0, pos := "l9_cover.go:181", after := #[], guard := none }) (v := ?vg31) rfl (by kernel_rfl) (fun _ _ _ h => h) (Or.inr hHeld) (Or.inl ⟨by rfl, ?yg31⟩) ?_
        case yg31 => (intro wS _; go_simp <;> with_reducible rfl)
        try simp only [Act.put, List.setIfInBounds_toArray, List.set_cons_zero, List.set_cons_succ]
        refine wpG_load (i := 2) (oi := { dst := some 40, op := Go.Op.load 26 (Go.Operand.tmp 39), type := 26, pos := "l9_cover.go:181", after := #[{ on := 1, ground := Go.Ground.data }], guard := none }) (v := ?vg32) [[13, 6, 5, 4, 2]] rfl (by kernel_rfl) (fun _ _ _ h => h) hHeld (Or.inl ⟨by rfl, ?yg32⟩) ?_
        case yg32 => (intro wS hSw; (try dsimp only at hSw); go_simp <;> with_reducible rfl)
        try simp only [Act.put, List.setIfInBounds_toArray, List.set_cons_zero, List.set_cons_succ]
        refine wpG_pure (i := 3) (oi := { dst := some 41, op := Go.Op.move (Go.Operand.tmp 1), type := 3, pos := "l9_cover.go:181", after := #[], guard := none }) (v := ?vg33) rfl (by kernel_rfl) (fun _ _ _ h => h) (Or.inr hHeld) (Or.inl ⟨by rfl, ?yg33⟩) ?_
        case yg33 => (intro wS _; go_simp <;> with_reducible rfl)
        try simp only [Act.put, List.setIfInBounds_toArray, List.set_cons_zero, List.set_cons_succ]
        refine wpG_pure (i := 4) (oi := { dst := some 42, op := Go.Op.indexAddr 26 (Go.Operand.tmp 40) (Go.Operand.tmp 41), type := 0, pos := "l9_cover.go:181", after := #[{ on := 2, ground := Go.Ground.data }, { on := 3, ground := Go.Ground.data }], guard := none }) (v := ?vg34) rfl (by kernel_rfl) (fun _ _ _ h => h) (Or.inr hHeld) (Or.inl ⟨by rfl, ?yg34⟩) ?_
        case yg34 => (intro wS _; go_simp <;> with_reducible rfl)
        try simp only [Act.put, List.setIfInBounds_toArray, List.set_cons_zero, List.set_cons_succ]
        refine wpG_pure (i := 5) (oi := { dst := some 43, op := Go.Op.fieldAddr 64 (Go.Operand.tmp 42) 0, type := 0, pos := "l9_cover.go:181", after := #[{ on := 4, ground := Go.Ground.data }], guard := none }) (v := ?vg35) rfl (by kernel_rfl) (fun _ _ _ h => h) (Or.inr hHeld) (Or.inl ⟨by rfl, ?yg35⟩) ?_
        case yg35 => (intro wS _; go_simp <;> with_reducible rfl)
        try simp only [Act.put, List.setIfInBounds_toArray, List.set_cons_zero, List.set_cons_succ]
        refine wpG_load (i := 6) (oi := { dst := some 44, op := Go.Op.load 3 (Go.Operand.tmp 43), type := 3, pos := "l9_cover.go:181", after := #[{ on := 5, ground := Go.Ground.data }], guard := none }) (v := ?vg36) [[13, 6]] rfl (by kernel_rfl) (fun _ _ _ h => h) hHeld (Or.inl ⟨by rfl, ?yg36⟩) ?_
        case yg36 => (intro wS hSw; (try dsimp only at hSw); go_simp <;> with_reducible rfl)
        try simp only [Act.put, List.setIfInBounds_toArray, List.set_cons_zero, List.set_cons_succ]
        refine wpG_pure (i := 7) (oi := { dst := some 45, op := Go.Op.fieldAddr 28 (Go.Operand.tmp 11) 0, type := 0, pos := "l9_cover.go:181", after := #[], guard := none }) (v := ?vg37) rfl (by kernel_rfl) (fun _ _ _ h => h) (Or.inr hHeld) (Or.inl ⟨by rfl, ?yg37⟩) ?_
        case yg37 => (intro wS _; go_simp <;> with_reducible rfl)
        try simp only [Act.put, List.setIfInBounds_toArray, List.set_cons_zero, List.set_cons_succ]
        refine wpG_load (i := 8) (oi := { dst := some 46, op := Go.Op.load 26 (Go.Operand.tmp 45), type := 26, pos := "l9_cover.go:181", after := #[{ on := 7, ground := Go.Ground.data }], guard := none }) (v := ?vg38) [[13, 12, 11, 10, 8]] rfl (by kernel_rfl) (fun _ _ _ h => h) hHeld (Or.inl ⟨by rfl, ?yg38⟩) ?_
        case yg38 => (intro wS hSw; (try dsimp only at hSw); go_simp <;> with_reducible rfl)
        try simp only [Act.put, List.setIfInBounds_toArray, List.set_cons_zero, List.set_cons_succ]
        refine wpG_pure (i := 9) (oi := { dst := some 47, op := Go.Op.move (Go.Operand.tmp 1), type := 3, pos := "l9_cover.go:181", after := #[], guard := none }) (v := ?vg39) rfl (by kernel_rfl) (fun _ _ _ h => h) (Or.inr hHeld) (Or.inl ⟨by rfl, ?yg39⟩) ?_
        case yg39 => (intro wS _; go_simp <;> with_reducible rfl)
        try simp only [Act.put, List.setIfInBounds_toArray, List.set_cons_zero, List.set_cons_succ]
        refine wpG_pure (i := 10) (oi := { dst := some 48, op := Go.Op.indexAddr 26 (Go.Operand.tmp 46) (Go.Operand.tmp 47), type := 0, pos := "l9_cover.go:181", after := #[{ on := 8, ground := Go.Ground.data }, { on := 9, ground := Go.Ground.data }], guard := none }) (v := ?vg40) rfl (by kernel_rfl) (fun _ _ _ h => h) (Or.inr hHeld) (Or.inl ⟨by rfl, ?yg40⟩) ?_
        case yg40 => (intro wS _; go_simp <;> with_reducible rfl)
        try simp only [Act.put, List.setIfInBounds_toArray, List.set_cons_zero, List.set_cons_succ]
        refine wpG_pure (i := 11) (oi := { dst := some 49, op := Go.Op.fieldAddr 64 (Go.Operand.tmp 48) 1, type := 0, pos := "l9_cover.go:181", after := #[{ on := 10, ground := Go.Ground.data }], guard := none }) (v := ?vg41) rfl (by kernel_rfl) (fun _ _ _ h => h) (Or.inr hHeld) (Or.inl ⟨by rfl, ?yg41⟩) ?_
        case yg41 => (intro wS _; go_simp <;> with_reducible rfl)
        try simp only [Act.put, List.setIfInBounds_toArray, List.set_cons_zero, List.set_cons_succ]
        refine wpG_load (i := 12) (oi := { dst := some 50, op := Go.Op.load 3 (Go.Operand.tmp 49), type := 3, pos := "l9_cover.go:181", after := #[{ on := 11, ground := Go.Ground.data }], guard := none }) (v := ?vg42) [[13, 12]] rfl (by kernel_rfl) (fun _ _ _ h => h) hHeld (Or.inl ⟨by rfl, ?yg42⟩) ?_
        case yg42 => (intro wS hSw; (try dsimp only at hSw); go_simp <;> with_reducible rfl)
        try simp only [Act.put, List.setIfInBounds_toArray, List.set_cons_zero, List.set_cons_succ]
        refine wpG_one (i := 13) (o := { dst := some 51, op := Go.Op.call { callee := Go.Callee.value (Go.Operand.func 72), args := #[Go.Operand.tmp 38, Go.Operand.tmp 44, Go.Operand.tmp 50], argTypes := #[3, 3, 3] }, type := 4, pos := "l9_cover.go:181", after := #[{ on := 0, ground := Go.Ground.data }, { on := 6, ground := Go.Ground.data }, { on := 12, ground := Go.Ground.data }], guard := none }) rfl (by kernel_rfl) (fun K hK => ?_)
        go_simp
        refine (HWI.out _).mono ?_
        rintro e w' ⟨rfl, rfl⟩
        refine hK.out _ _ (Or.inl (by kernel_rfl)) (fun _ => ?_)
        clear hK K
        try simp only [Act.put, List.setIfInBounds_toArray, List.set_cons_zero, List.set_cons_succ]
        refine wpG_done (by kernel_rfl) ?_
        skip
        have k3 : wa.drew.cell? ⟨B7, 0, none⟩ = some (.slice (some ⟨b2, o2, none⟩) x.length p2) := k0
        have HOD := Lib.hid (own_later HOA.out (rdrew (Below.refl wa.heap.size wa) 1))
        have HBD := Lib.hid (rdrew HBA.out 1)
        generalize hT : thereI X i (l.take j) = T at *
        generalize hWD : wa.drewN 1 = wd at *
        have hWE : wa.drew = wd := hWD
        rw [hWE] at k3 ⊢
        have hsd : w2.heap.size ≤ wd.heap.size := HBD.out.size
        have HRD : Hid (RdL kBox w2.heap.size wd vss T) := Lib.hid (HRA.out.imp (fun _ _ h => kBox_ok.rbelow h (by rw [← hWD]; exact (rdrew (Below.refl wa.heap.size wa) 1).mono hsA)))
        clear hWD hWE
        go_wp2_with (at_builtin; (refine wpList_append_lies _ rfl _ _ 40 rfl w2.heap.size 28 i0 (.agg #[.slice none 0 0]) 1 24 Try.underlying40 hi hz0 hz1 hz2 rfl (by decide) u9 T.length vss.flatten rfl (HOD.out.alloc _) ⟨wd.heap.size, 0, none⟩ 1 1 [.slice (some ⟨b2, o2, none⟩) x.length p2] rfl rfl (news_one _ _ _) (by simp [Value.oneCell']) (by decide) (by unfold maxLen; omega) (by omega) (by simp; omega) _ rfl ?_))
        intro g9 cp9 w9 hown hgrow hat9 hlt9
        have HB9 : Hid (Below w2.heap.size w2 w9) := Lib.hid (Below.grown (ralloc HBD.out _) hgrow (by simp; omega) (fun q hq => (HOD.out.lt q hq).1))
        have HBG : Hid (Below w2.heap.size wd w9) := Lib.hid (Below.grown ((Below.refl _ _).alloc hsd _) hgrow (by simp; omega) (fun q hq => (HOD.out.lt q hq).1))
        have HO9 : Hid (w9.ownsRow w2.heap.size 28 1 (.slice (some ⟨g9, 0, none⟩) (T.length + 1) cp9) (T.length + 1) (vss ++ [[Value.slice (some ⟨b2, o2, none⟩) x.length p2]]).flatten) := Lib.hid (by rw [List.flatten_append]; exact hown)
        have HR9 : Hid (RdL kBox w2.heap.size w9 (vss ++ [[Value.slice (some ⟨b2, o2, none⟩) x.length p2]]) (T ++ [x])) := Lib.hid (rdl_snocV (kBox_ok.rbelow HUA.out HB9.out) (HRD.out.imp (fun _ _ h => kBox_ok.rbelow h HBG.out)))
        have hTl : (T ++ [x]).length = T.length + 1 := by simp
        clear hown hgrow hat9 hlt9
        go_wp2_with fail
        go_roundw
        case rel => exact ⟨j + 1, _, vss ++ [[Value.slice (some ⟨b2, o2, none⟩) x.length p2]], by omega, by go_num, rfl, Lib.hid (by rw [HNE.out, hTl]; exact HO9.out), Lib.hid (by rw [HNE.out]; exact HR9.out), HB9⟩
        case measure => (simp [intOf]; try omega)
theorem impl_vol : ∀ (d i : Nat), i + d = 3 → VolI d i
  | 0, i, hd => by
    intro a cap l w hr hl hn
    obtain rfl : i = 3 := by omega
    rcases Nat.eq_zero_or_pos l.length with h | h
    · obtain rfl : l = [] := List.length_eq_zero_iff.1 h
      exact vol_nil 0 3 (by omega) a cap w
    · have e : cntB 0 (l.map (·.drop 3)) = 1 := by
        unfold cntB
        rw [if_neg]
        match l, h with
        | _ :: _, _ => simp
      rw [e]
      exact vol_last a cap l.length h w
  | d + 1, i, hd => by
    intro a cap l w hr hl hn
    rcases Nat.eq_zero_or_pos l.length with h | h
    · obtain rfl : l = [] := List.length_eq_zero_iff.1 h
      exact vol_nil (d + 1) i (by omega) a cap w
    · exact vol_step d i hd (impl_vol d (i + 1) (by omega)) a cap l w hr hl hn h
def R_VolumeOf (l : List Bx) : Int × Bool := if boxesR l = true then (volumeR l, true) else (0, false)
theorem ok3_of {b : Bx} (h : GoodR b = true) : Ok3 b := by
  unfold GoodR at h
  simp only [Bool.and_eq_true, beq_iff_eq] at h
  refine ⟨fun s hs => ?_, h.1⟩
  have := List.all_eq_true.1 h.2 s hs
  unfold gs at this
  simp only [Bool.and_eq_true, decide_eq_true_eq] at this
  omega
theorem boxes_ok3 {l : List Bx} (h : boxesR l = true) : l.length ≤ 20 ∧ ∀ b ∈ l, Ok3 b := by
  unfold boxesR at h
  rw [Bool.and_eq_true, decide_eq_true_eq] at h
  exact ⟨h.1, fun b hb => ok3_of (List.all_eq_true.1 h.2 b hb)⟩
set_option maxHeartbeats 1000000 in
theorem impl_VolumeOf (w : World) (cs0 : List Value) (a0 : List Bx) (h0 : kBoxS.rd w.heap.size w cs0 a0) (_ht : kBoxS.wt a0 ≤ 1048576) :
    Calls Try.prog 31 #[one cs0] w fun e w' => e = .returned (.tuple #[.int .i64 (R_VolumeOf a0).1, .bool (R_VolumeOf a0).2]) ∧ Below w.heap.size w w' := by
  have HOK := Lib.hid (impl_boxesOK h0)
  obtain ⟨ea, ecap, rfl⟩ := kSl_form h0
  have hln := (sl_len h0).2
  show Calls Try.prog 31 #[.slice ea a0.length ecap] w _
  cases g : boxesR a0 with
  | false =>
    have hR : R_VolumeOf a0 = (0, false) := by unfold R_VolumeOf; rw [if_neg (by rw [g]; simp)]
    rw [hR]; rw [g] at HOK
    clear hR g h0
    go_enter Try.func31, Try.ntmps31
    go_wp2_with fail
    refine HOK.out.mono ?_
    rintro e w1 ⟨rfl, hb⟩
    have HB := Lib.hid hb; clear hb
    go_wp2_with fail
    go_ret2
    exact ⟨rfl, HB.out⟩
  | true =>
    have hR : R_VolumeOf a0 = (volumeR a0, true) := by unfold R_VolumeOf; rw [if_pos g]
    obtain ⟨h20, hok⟩ := boxes_ok3 g
    have HV := Lib.hid (fun wx (hb : Below w.heap.size w wx) => impl_vol 3 0 rfl ea ecap a0 wx (kBoxS_ok.later h0 hb) hok h20)
    have e : a0.map (·.drop 0) = a0 := by simp
    rw [e, show ((0 : Nat) : Int) = 0 from rfl] at HV
    rw [hR]; rw [g] at HOK
    have HVE : Hid (cntB 3 a0 = volumeR a0) := Lib.hid rfl
    rw [HVE.out] at HV
    clear hR g h0 hok e HVE
    generalize volumeR a0 = vv at *
    go_enter Try.func31, Try.ntmps31
    go_wp2_with fail
    refine HOK.out.mono ?_
    rintro e w1 ⟨rfl, hb⟩
    have HB := Lib.hid hb; clear hb
    go_wp2_with fail
    refine (HV.out _ HB.out).mono ?_
    rintro e w2 ⟨rfl, hb⟩
    have HB2 := Lib.hid (HB.out.trans (hb.mono HB.out.size)); clear hb
    go_wp2_with fail
    go_ret2
    exact ⟨rfl, HB2.out⟩
end Go.Proofs.Ythlajmncpejhmaa
