/- The program's walk through the pairs, under MeetMachines' closure. -/
import Derived.Test.YtedjahinlpehgaaPairD
namespace Go.Proofs.Ytedjahinlpehgaa
set_option linter.unusedVariables false
open Go.ChangeShapes Go.WideShapes Go.ChangeAt Go.RowKit
set_option maxRecDepth 100000

theorem impl_meet1 (w1 : World) (x y : Int) (s : ByteArray) : Calls Try.prog 56 #[.agg #[.int .i64 x, .int .i64 y], .string s] w1 fun e w' => e = .returned (.bool true) ∧ Below w1.heap.size w1 w' := by
  go_enter Try.func56, Try.ntmps56
  go_wp2_with fail
  go_ret
  exact ⟨rfl, (Below.refl _ _).alloc (Nat.le_refl _) _⟩
set_option maxHeartbeats 8000000 in
theorem impl_walk_meet (_z : Nat) (ea eb ec ed : Option Addr) (eac ebc ecc edc : Nat) (A B : Mach) (w : World) (B0 : Nat) (stop : Pr → Bool) (S : Nat → Prop) (I : World → Prop) (J : Pr → World → Prop) (hB0 : B0 ≤ w.heap.size) (hS : ∀ k, S k → B0 ≤ k ∧ k < w.heap.size) (hA : MC B0 w ea eb A) (hB : MC B0 w ec ed B) (ha : GoodM A) (hb : GoodM B)
    (hc1 : A.1.length ≤ eac ∧ eac ≤ 9223372036854775807) (hc2 : B.1.length ≤ ecc ∧ ecc ≤ 9223372036854775807) (hI0 : I w) (hI : ∀ w1 w2, I w1 → Below w.heap.size w1 w2 → I w2) (hJ : ∀ p w1 w2, J p w1 → Below w.heap.size w1 w2 → J p w2)
    (hsee : ∀ (p : Pr) (w1 : World), (0 ≤ p.1 ∧ p.1 < (A.1.length : Int) ∧ 0 ≤ p.2.1 ∧ p.2.1 < (B.1.length : Int)) → I w1 → Calls Try.prog 56 (#[.agg #[.int .i64 p.1, .int .i64 p.2.1], .string p.2.2] ++ #[]) w1 fun e w' => e = .returned (.bool (!stop p)) ∧ Wrote S w1 w' ∧ (stop p = false → I w') ∧ (stop p = true → J p w')) :
    Calls Try.prog 55 #[.agg #[.slice ea A.1.length eac, .slice eb A.2.length ebc], .agg #[.slice ec B.1.length ecc, .slice ed B.2.length edc], .func (.func 56) #[] #[]] w (WalkEnd w S I J stop A B) := by
  obtain ⟨i1, hi1, hy0, hy1, hy2⟩ := info_parts Try.infoPrI
  obtain ⟨i2, hi2, hx0, hx1, hx2⟩ := info_parts Try.infoStrI
  obtain ⟨i3, hi3, hv0, hv1, hv2⟩ := info_parts Try.infoHIntSS
  obtain ⟨i4, hi4, hu0, hu1, hu2⟩ := info_parts Try.infoHIntS
  unfold WalkEnd
  have HGA := Lib.hid ha; have HGB := Lib.hid hb
  have HINV := Lib.hid (ordP_inv ha hb); have HLEN := Lib.hid (ordP_len ha hb)
  have HFOLD := Lib.hid (fun (i k : Nat) (hi : i < (ordP A B i).length) (hk : k ≤ 3) => by
    have hm : (ordP A B i).getD i pr0 ∈ ordP A B i := by
      have : (ordP A B i).getD i pr0 = (ordP A B i)[i] := by simp [List.getD, hi]
      rw [this]; exact List.getElem_mem hi
    exact ((ordP_inv ha hb i).mono (Nat.le_succ _)).fold ha hb ((ordP_inv ha hb i).rg _ hm) ((ordP_inv ha hb i).sz _ hm) k hk)
  obtain ⟨⟨bA, fA, rfl, hbA, hrA⟩, -⟩ := hA
  obtain ⟨⟨bB, fB, rfl, hbB, hrB⟩, -⟩ := hB
  have hn1 := ha.n1; have hn2 := hb.n1; have hn12 := ha.n12; have hm12 := hb.n12
  have HRA := Lib.hid hrA; have HRB := Lib.hid hrB
  have HGW := Lib.hid (fun (i : Nat) (p : Pr) (hp : (pairsR A B)[i]? = some p) (hi : i < 143 + 1) => goes_wf (A := A) (B := B) (p := p) (ordP_len ha hb 144))
  have HSEE := Lib.hid hsee; have HI := Lib.hid hI; have HJ := Lib.hid hJ; have HS := Lib.hid hS
  have hW2 : Below w.heap.size w ((w.alloc (.cells #[.slice (some ⟨bA, fA, none⟩) A.1.length eac, .slice eb A.2.length ebc] 28)).alloc (.cells #[.slice (some ⟨bB, fB, none⟩) B.1.length ecc, .slice ed B.2.length edc] 28)) := ((Below.refl _ _).alloc (Nat.le_refl _) _).alloc (by simp) _
  have hsz2 : ((w.alloc (.cells #[.slice (some ⟨bA, fA, none⟩) A.1.length eac, .slice eb A.2.length ebc] 28)).alloc (.cells #[.slice (some ⟨bB, fB, none⟩) B.1.length ecc, .slice ed B.2.length edc] 28)).heap.size = w.heap.size + 2 := by simp
  have HK0 : Hid (((w.alloc (.cells #[.slice (some ⟨bA, fA, none⟩) A.1.length eac, .slice eb A.2.length ebc] 28)).alloc (.cells #[.slice (some ⟨bB, fB, none⟩) B.1.length ecc, .slice ed B.2.length edc] 28)).cell? ⟨w.heap.size, 0, none⟩ = some (.slice (some ⟨bA, fA, none⟩) A.1.length eac) ∧ ((w.alloc (.cells #[.slice (some ⟨bA, fA, none⟩) A.1.length eac, .slice eb A.2.length ebc] 28)).alloc (.cells #[.slice (some ⟨bB, fB, none⟩) B.1.length ecc, .slice ed B.2.length edc] 28)).cell? ⟨w.heap.size + 1, 0, none⟩ = some (.slice (some ⟨bB, fB, none⟩) B.1.length ecc)) := Lib.hid ⟨box2_a (box2_start _ _ _) 0, box2_b (box2_start _ _ _) 0⟩
  have HM0 := Lib.hid (MapV.made (kt := 71) ((w.alloc (.cells #[.slice (some ⟨bA, fA, none⟩) A.1.length eac, .slice eb A.2.length ebc] 28)).alloc (.cells #[.slice (some ⟨bB, fB, none⟩) B.1.length ecc, .slice ed B.2.length edc] 28)))
  have HIW := Lib.hid (hI _ _ hI0 hW2)
  have HW2 := Lib.hid hW2
  have HW2z := Lib.hid (Nat.le_of_eq hsz2.symm)
  have hmm := @run_makeMap Try.prog
  clear hrA hrB ha hb hsee hI hJ hS hI0 hW2
  go_enter Try.func55, Try.ntmps55
  go_wp2_with (refine wpList_mapv_lit rfl _ _ _ rfl kt_pair (b := w.heap.size + 1 + 1) rfl (by have := HM0.out; simp only [World.size_alloc] at this; exact this) rfl (ky_pair (x := 0) (y := 0) (by decide) (by decide)) rfl ?_; intro w4 hm4 hg4)
  generalize (w.alloc (.cells #[.slice (some ⟨bA, fA, none⟩) A.1.length eac, .slice eb A.2.length ebc] 28)).alloc (.cells #[.slice (some ⟨bB, fB, none⟩) B.1.length ecc, .slice ed B.2.length edc] 28) = W2 at *
  have hs4 : w.heap.size + 2 < w4.heap.size := by have := hg4.size; simp at this; omega
  have hws := WS.start (n0 := w.heap.size + 2) (bm := w.heap.size + 1 + 1) hm4 (by omega) (by omega)
  have hw5 : Wrote (fun k => S k ∨ w.heap.size + 2 ≤ k) W2 (((w4.alloc (.cells #[.int .i64 0, .int .i64 0] 71)).alloc (.cells #[.string ByteArray.empty] 9)).alloc (.cells #[] 42)) :=
    ((Wrote.of_below ((Below.refl _ _).alloc (Nat.le_refl _) _)).trans ((Wrote.of_grown hg4).mono (fun k _ hk => by simp only [Option.some.injEq] at hk; exact .inr (by omega)))).trans (Wrote.of_below ((((Below.refl _ _).alloc (Nat.le_refl _) _).alloc (by simp) _).alloc (by simp; omega) _))
  have hb5 : Below w.heap.size W2 (((w4.alloc (.cells #[.int .i64 0, .int .i64 0] 71)).alloc (.cells #[.string ByteArray.empty] 9)).alloc (.cells #[] 42)) :=
    ((((Below.grown ((Below.refl _ _).alloc (by omega) _) hg4 (by simp; omega) (fun j hj => by simp only [Option.some.injEq] at hj; omega)).alloc (by omega) _).alloc (by simp; omega) _).alloc (by simp; omega) _)
  rw [show ByteArray.empty = ({ data := #[] } : ByteArray) from rfl] at hws hw5 hb5
  have HWS := Lib.hid hws; have HWT := Lib.hid hw5; have HIN := Lib.hid (HI.out _ _ HIW.out hb5)
  clear hm4 hg4 hws hw5 hb5 HM0 HIW hmm
  go_wp2_with fail
  generalize (((w4.alloc (.cells #[.int .i64 0, .int .i64 0] 71)).alloc (.cells #[.string { data := #[] }] 9)).alloc (.cells #[] 42)) = w5 at *
  generalize w4.heap.size = gp0 at *
  clear w4
  go_loopw [9, 10, 11, 12] (fun pv tv gv iv wr => ∃ (i gp cp gt ct : Nat) (fp : List Nat), i ≤ 144 ∧ i ≤ (ordP A B i).length ∧ iv = .int .i64 (i : Int) ∧ pv = .slice (some ⟨gp, 0, none⟩) (ordP A B i).length cp ∧ tv = .slice (some ⟨gt, 0, none⟩) (ordP A B i).length ct ∧ Hid (WS (w.heap.size + 2) wr gp cp gt ct (w.heap.size + 1 + 1) gv fp (ordP A B i) (((pairsR A B).take i).map (goesP A B (pairsR A B)))) ∧ Hid (Wrote (fun k => S k ∨ w.heap.size + 2 ≤ k) W2 wr) ∧ Hid (I wr) ∧ Hid (((pairsR A B).take i).any stop = false)) (fun _ _ _ iv _ => 144 - (intOf iv).toNat)
  case atStart => exact ⟨0, _, _, _, _, _, by omega, by simp [ordP], rfl, rfl, rfl, HWS, HWT, HIN, Lib.hid rfl⟩
  case round =>
    clear HWS HWT HIN
    obtain ⟨w6, rfl⟩ : ∃ z : World, z = wr := ⟨_, rfl⟩
    obtain ⟨i, gp, cp, gt, ct, fp, hi144, hil, rfl, rfl, rfl, HWS, HWT, HIN, HST⟩ := hrel
    have hlen := HLEN.out i
    by_cases hlt : i < (ordP A B i).length
    case neg =>
      have HE := Lib.hid (ordP_end (A := A) (B := B) i hi144 (by omega))
      have HFW := Lib.hid (fin_wrote HW2.out HWT.out)
      have hPR : pairsR A B = ordP A B i := HE.out
      have hii : i = (ordP A B i).length := by omega
      have HAN : Hid ((pairsR A B).any stop = false) := Lib.hid (by have h := HST.out; rwa [List.take_of_length_le (by rw [hPR]; omega)] at h)
      have HW3 : Hid (WS (w.heap.size + 2) w6 gp cp gt ct (w.heap.size + 1 + 1) u11 fp (pairsR A B) ((pairsR A B).map (goesP A B (pairsR A B)))) := Lib.hid (by
        have h := HWS.out
        rw [List.take_of_length_le (by rw [hPR]; omega)] at h
        rw [← hPR] at h; exact h)
      have HLE : Hid ((ordP A B i).length = (pairsR A B).length) := Lib.hid (by rw [hPR])
      have hni : ¬ (i : Int) < ((ordP A B i).length : Int) := by omega
      have HFD := Lib.hid (fin_wrote HW2.out (HWT.out.drewN 1))
      have HID := Lib.hid (HI.out w6 w6.drew HIN.out (Below.refl _ _).drew)
      have HWD := Lib.hid (HW3.out.later (wy := w6.drew) (rdrew (Below.refl _ _) 1))
      clear hii hPR HWS HWT HIN HST
      go_wp2_with fail
      refine wp_region_G [] (fun w' => True) (by kernel_rfl) ?_ (fun hHeld => ?_)
      · trivial
      refine wpG_pure (i := 0) (oi := { dst := some 25, op := Go.Op.move (Go.Operand.tmp 12), type := 3, pos := "l12_machine.go:146", after := #[], guard := none }) (v := ?vg1) rfl (by kernel_rfl) (fun _ _ _ h => h) (Or.inr hHeld) (Or.inl ⟨by rfl, ?yg1⟩) ?_
      case yg1 => (intro wS _; go_simp <;> with_reducible rfl)
      try simp only [Act.put, List.setIfInBounds_toArray, List.set_cons_zero, List.set_cons_succ]
      refine wpG_pure (i := 1) (oi := { dst := some 26, op := Go.Op.move (Go.Operand.tmp 9), type := 67, pos := "l12_machine.go:146", after := #[], guard := none }) (v := ?vg2) rfl (by kernel_rfl) (fun _ _ _ h => h) (Or.inr hHeld) (Or.inl ⟨by rfl, ?yg2⟩) ?_
      case yg2 => (intro wS _; go_simp <;> with_reducible rfl)
      try simp only [Act.put, List.setIfInBounds_toArray, List.set_cons_zero, List.set_cons_succ]
      refine wpG_pure (i := 2) (oi := { dst := some 27, op := Go.Op.call { callee := Go.Callee.builtin Go.Builtin.len, args := #[Go.Operand.tmp 26], argTypes := #[67] }, type := 3, pos := "l12_machine.go:146", after := #[{ on := 1, ground := Go.Ground.data }], guard := none }) (v := ?vg3) rfl (by kernel_rfl) (fun _ _ _ h => h) (Or.inr hHeld) (Or.inl ⟨by rfl, ?yg3⟩) ?_
      case yg3 => (intro wS _; go_simp <;> with_reducible rfl)
      try simp only [Act.put, List.setIfInBounds_toArray, List.set_cons_zero, List.set_cons_succ]
      refine wpG_pure (i := 3) (oi := { dst := some 28, op := Go.Op.binOp Go.BinOp.lss 3 (Go.Operand.tmp 25) (Go.Operand.tmp 27) 3, type := 4, pos := "l12_machine.go:146", after := #[{ on := 0, ground := Go.Ground.data }, { on := 2, ground := Go.Ground.data }], guard := none }) (v := ?vg4) rfl (by kernel_rfl) (fun _ _ _ h => h) (Or.inr hHeld) (Or.inl ⟨by rfl, ?yg4⟩) ?_
      case yg4 => (intro wS _; go_simp <;> with_reducible rfl)
      try simp only [Act.put, List.setIfInBounds_toArray, List.set_cons_zero, List.set_cons_succ]
      refine wpG_pure (i := 4) (oi := { dst := some 29, op := Go.Op.move (Go.Operand.tmp 28), type := 4, pos := "l12_machine.go:146", after := #[{ on := 3, ground := Go.Ground.data }], guard := none }) (v := ?vg5) rfl (by kernel_rfl) (fun _ _ _ h => h) (Or.inr hHeld) (Or.inl ⟨by rfl, ?yg5⟩) ?_
      case yg5 => (intro wS _; go_simp <;> with_reducible rfl)
      try simp only [Act.put, List.setIfInBounds_toArray, List.set_cons_zero, List.set_cons_succ]
      refine wpG_pure (i := 5) (oi := { dst := some 30, op := Go.Op.move (Go.Operand.tmp 2), type := 72, pos := "l12_machine.go:146", after := #[{ on := 4, ground := Go.Ground.guard }], guard := some (4, true) }) (v := undef) rfl (by kernel_rfl) (fun _ _ _ h => h) (Or.inr hHeld) (Or.inr ⟨by rfl, rfl⟩) ?_
      try simp only [Act.put, List.setIfInBounds_toArray, List.set_cons_zero, List.set_cons_succ]
      refine wpG_pure (i := 6) (oi := { dst := some 31, op := Go.Op.move (Go.Operand.tmp 9), type := 67, pos := "l12_machine.go:146", after := #[{ on := 4, ground := Go.Ground.guard }], guard := some (4, true) }) (v := undef) rfl (by kernel_rfl) (fun _ _ _ h => h) (Or.inr hHeld) (Or.inr ⟨by rfl, rfl⟩) ?_
      try simp only [Act.put, List.setIfInBounds_toArray, List.set_cons_zero, List.set_cons_succ]
      refine wpG_pure (i := 7) (oi := { dst := some 32, op := Go.Op.move (Go.Operand.tmp 12), type := 3, pos := "l12_machine.go:146", after := #[{ on := 4, ground := Go.Ground.guard }], guard := some (4, true) }) (v := undef) rfl (by kernel_rfl) (fun _ _ _ h => h) (Or.inr hHeld) (Or.inr ⟨by rfl, rfl⟩) ?_
      try simp only [Act.put, List.setIfInBounds_toArray, List.set_cons_zero, List.set_cons_succ]
      refine wpG_pure (i := 8) (oi := { dst := some 33, op := Go.Op.indexAddr 67 (Go.Operand.tmp 31) (Go.Operand.tmp 32), type := 0, pos := "l12_machine.go:146", after := #[{ on := 6, ground := Go.Ground.data }, { on := 7, ground := Go.Ground.data }, { on := 4, ground := Go.Ground.guard }], guard := some (4, true) }) (v := undef) rfl (by kernel_rfl) (fun _ _ _ h => h) (Or.inr hHeld) (Or.inr ⟨by rfl, rfl⟩) ?_
      try simp only [Act.put, List.setIfInBounds_toArray, List.set_cons_zero, List.set_cons_succ]
      refine wpG_pure (i := 9) (oi := { dst := some 34, op := Go.Op.load 71 (Go.Operand.tmp 33), type := 71, pos := "l12_machine.go:146", after := #[{ on := 8, ground := Go.Ground.data }, { on := 4, ground := Go.Ground.guard }], guard := some (4, true) }) (v := undef) rfl (by kernel_rfl) (fun _ _ _ h => h) (Or.inr hHeld) (Or.inr ⟨by rfl, rfl⟩) ?_
      try simp only [Act.put, List.setIfInBounds_toArray, List.set_cons_zero, List.set_cons_succ]
      refine wpG_pure (i := 10) (oi := { dst := some 35, op := Go.Op.move (Go.Operand.tmp 10), type := 87, pos := "l12_machine.go:146", after := #[{ on := 4, ground := Go.Ground.guard }], guard := some (4, true) }) (v := undef) rfl (by kernel_rfl) (fun _ _ _ h => h) (Or.inr hHeld) (Or.inr ⟨by rfl, rfl⟩) ?_
      try simp only [Act.put, List.setIfInBounds_toArray, List.set_cons_zero, List.set_cons_succ]
      refine wpG_pure (i := 11) (oi := { dst := some 36, op := Go.Op.move (Go.Operand.tmp 12), type := 3, pos := "l12_machine.go:146", after := #[{ on := 4, ground := Go.Ground.guard }], guard := some (4, true) }) (v := undef) rfl (by kernel_rfl) (fun _ _ _ h => h) (Or.inr hHeld) (Or.inr ⟨by rfl, rfl⟩) ?_
      try simp only [Act.put, List.setIfInBounds_toArray, List.set_cons_zero, List.set_cons_succ]
      refine wpG_pure (i := 12) (oi := { dst := some 37, op := Go.Op.indexAddr 87 (Go.Operand.tmp 35) (Go.Operand.tmp 36), type := 0, pos := "l12_machine.go:146", after := #[{ on := 10, ground := Go.Ground.data }, { on := 11, ground := Go.Ground.data }, { on := 4, ground := Go.Ground.guard }], guard := some (4, true) }) (v := undef) rfl (by kernel_rfl) (fun _ _ _ h => h) (Or.inr hHeld) (Or.inr ⟨by rfl, rfl⟩) ?_
      try simp only [Act.put, List.setIfInBounds_toArray, List.set_cons_zero, List.set_cons_succ]
      refine wpG_pure (i := 13) (oi := { dst := some 38, op := Go.Op.load 9 (Go.Operand.tmp 37), type := 9, pos := "l12_machine.go:146", after := #[{ on := 12, ground := Go.Ground.data }, { on := 4, ground := Go.Ground.guard }], guard := some (4, true) }) (v := undef) rfl (by kernel_rfl) (fun _ _ _ h => h) (Or.inr hHeld) (Or.inr ⟨by rfl, rfl⟩) ?_
      try simp only [Act.put, List.setIfInBounds_toArray, List.set_cons_zero, List.set_cons_succ]
      refine wpG_pure (i := 14) (oi := { dst := some 39, op := Go.Op.call { callee := Go.Callee.value (Go.Operand.tmp 30), args := #[Go.Operand.tmp 34, Go.Operand.tmp 38], argTypes := #[71, 9] }, type := 4, pos := "l12_machine.go:146", after := #[{ on := 5, ground := Go.Ground.data }, { on := 9, ground := Go.Ground.data }, { on := 13, ground := Go.Ground.data }, { on := 4, ground := Go.Ground.chain }, { on := 4, ground := Go.Ground.guard }], guard := some (4, true) }) (v := undef) rfl (by kernel_rfl) (fun _ _ _ h => h) (Or.inr hHeld) (Or.inr ⟨by rfl, rfl⟩) ?_
      try simp only [Act.put, List.setIfInBounds_toArray, List.set_cons_zero, List.set_cons_succ]
      refine wpG_pure (i := 15) (oi := { dst := some 40, op := Go.Op.pick (Go.Operand.tmp 29) (Go.Operand.tmp 39) (Go.Operand.const (Go.Value.bool false)), type := 4, pos := "l12_machine.go:146", after := #[{ on := 4, ground := Go.Ground.data }, { on := 14, ground := Go.Ground.data }], guard := none }) (v := ?vg16) rfl (by kernel_rfl) (fun _ _ _ h => h) (Or.inr hHeld) (Or.inl ⟨by rfl, ?yg16⟩) ?_
      case yg16 => (intro wS _; go_simp <;> with_reducible rfl)
      try simp only [Act.put, List.setIfInBounds_toArray, List.set_cons_zero, List.set_cons_succ]
      refine wpG_done (by kernel_rfl) ?_
      skip
      go_wp2_with fail
      go_ret2
      exact ⟨_, _, rfl, HFD.out, .inr ⟨HAN.out, HID.out, gp, cp, gt, ct, _, fp, by rw [HLE.out]; rfl, HWD.out⟩⟩
    have hpi : (ordP A B i)[i]? = some ((ordP A B i).getD i pr0) := by simp [List.getD, hlt]
    have hinv := HINV.out i
    have hrg := hinv.rg _ (List.mem_of_getElem? hpi)
    have hsz := hinv.sz _ (List.mem_of_getElem? hpi)
    have hpP : (pairsR A B)[i]? = some ((ordP A B i).getD i pr0) := by rw [ordP_at hi144 hlt]; exact hpi
    obtain ⟨p0, p1, p2⟩ := HWS.out.cells hpi
    have HNX := Lib.hid (ordP_next hlt)
    have HFI := Lib.hid (fun k hk => HFOLD.out i k hlt hk)
    have hi143 : i < 144 := by omega
    have HFT := Lib.hid (fun k (hk : k ≤ 3) => foldP_to (A := A) (B := B) (i := i) (k := k) hi143 hlt hk)
    have HGOAL := Lib.hid (fun k (hk : k < 3) => goal_in (A := A) (B := B) (i := i) (k := k) hi143 hlt hk)
    have HPRE := Lib.hid (fun k => foldP_pre A B ((ordP A B i).getD i pr0) (ordP A B i) k)
    have HN2 : Hid (i + 1 ≤ (ordP A B (i + 1)).length) := Lib.hid (by
      rw [HNX.out]
      have := (foldP_pre A B ((ordP A B i).getD i pr0) (ordP A B i) 3).length_le
      omega)
    have HSE := Lib.hid (HSEE.out ((ordP A B i).getD i pr0) w6.drew hrg (HI.out w6 w6.drew HIN.out (Below.refl _ _).drew))
    have HTK : Hid ((((pairsR A B).take (i + 1)).map (goesP A B (pairsR A B))) = (((pairsR A B).take i).map (goesP A B (pairsR A B))) ++ [goesP A B (pairsR A B) ((ordP A B i).getD i pr0)]) := Lib.hid (by rw [take_next _ i _ hpP, List.map_append]; rfl)
    have HSN : Hid (stop ((ordP A B i).getD i pr0) = false → ((pairsR A B).take (i + 1)).any stop = false) := Lib.hid (fun h => any_no HST.out hpP h)
    have HPP := Lib.hid hpP
    have hii : (i : Int) < ((ordP A B i).length : Int) := by omega
    have HPI := Lib.hid hpi
    have HOL : Hid (((ordP A B i).take i).length = i) := Lib.hid (by simp; omega)
    clear hinv hpi hpP
    generalize hP : (ordP A B i).getD i pr0 = P at *
    have HPE := Lib.hid hP
    clear hP
    obtain ⟨x, y, s⟩ := P
    simp only at p0 p1 p2 hrg hsz
    generalize hO : ordP A B i = o at *
    have HOE := Lib.hid hO
    clear hO
    cases hst : stop (x, y, s) with
    | true =>
      rw [hst] at HSE
      clear HSN
      go_wp2_with fail
      refine wp_region_G [14] (fun w' => w'.cell? ⟨gp, i * 2, none⟩ = some (.int .i64 x) ∧ w'.cell? ⟨gp, i * 2 + 1, none⟩ = some (.int .i64 y) ∧ w'.cell? ⟨gt, i, none⟩ = some (.string s)) (by kernel_rfl) ?_ (fun hHeld => ?_)
      · exact ⟨p0, p1, p2⟩
      refine wpG_pure (i := 0) (oi := { dst := some 25, op := Go.Op.move (Go.Operand.tmp 12), type := 3, pos := "l12_machine.go:146", after := #[], guard := none }) (v := ?vg17) rfl (by kernel_rfl) (fun _ _ _ h => h) (Or.inr hHeld) (Or.inl ⟨by rfl, ?yg17⟩) ?_
      case yg17 => (intro wS _; go_simp <;> with_reducible rfl)
      try simp only [Act.put, List.setIfInBounds_toArray, List.set_cons_zero, List.set_cons_succ]
      refine wpG_pure (i := 1) (oi := { dst := some 26, op := Go.Op.move (Go.Operand.tmp 9), type := 67, pos := "l12_machine.go:146", after := #[], guard := none }) (v := ?vg18) rfl (by kernel_rfl) (fun _ _ _ h => h) (Or.inr hHeld) (Or.inl ⟨by rfl, ?yg18⟩) ?_
      case yg18 => (intro wS _; go_simp <;> with_reducible rfl)
      try simp only [Act.put, List.setIfInBounds_toArray, List.set_cons_zero, List.set_cons_succ]
      refine wpG_pure (i := 2) (oi := { dst := some 27, op := Go.Op.call { callee := Go.Callee.builtin Go.Builtin.len, args := #[Go.Operand.tmp 26], argTypes := #[67] }, type := 3, pos := "l12_machine.go:146", after := #[{ on := 1, ground := Go.Ground.data }], guard := none }) (v := ?vg19) rfl (by kernel_rfl) (fun _ _ _ h => h) (Or.inr hHeld) (Or.inl ⟨by rfl, ?yg19⟩) ?_
      case yg19 => (intro wS _; go_simp <;> with_reducible rfl)
      try simp only [Act.put, List.setIfInBounds_toArray, List.set_cons_zero, List.set_cons_succ]
      refine wpG_pure (i := 3) (oi := { dst := some 28, op := Go.Op.binOp Go.BinOp.lss 3 (Go.Operand.tmp 25) (Go.Operand.tmp 27) 3, type := 4, pos := "l12_machine.go:146", after := #[{ on := 0, ground := Go.Ground.data }, { on := 2, ground := Go.Ground.data }], guard := none }) (v := ?vg20) rfl (by kernel_rfl) (fun _ _ _ h => h) (Or.inr hHeld) (Or.inl ⟨by rfl, ?yg20⟩) ?_
      case yg20 => (intro wS _; go_simp <;> with_reducible rfl)
      try simp only [Act.put, List.setIfInBounds_toArray, List.set_cons_zero, List.set_cons_succ]
      refine wpG_pure (i := 4) (oi := { dst := some 29, op := Go.Op.move (Go.Operand.tmp 28), type := 4, pos := "l12_machine.go:146", after := #[{ on := 3, ground := Go.Ground.data }], guard := none }) (v := ?vg21) rfl (by kernel_rfl) (fun _ _ _ h => h) (Or.inr hHeld) (Or.inl ⟨by rfl, ?yg21⟩) ?_
      case yg21 => (intro wS _; go_simp <;> with_reducible rfl)
      try simp only [Act.put, List.setIfInBounds_toArray, List.set_cons_zero, List.set_cons_succ]
      refine wpG_pure (i := 5) (oi := { dst := some 30, op := Go.Op.move (Go.Operand.tmp 2), type := 72, pos := "l12_machine.go:146", after := #[{ on := 4, ground := Go.Ground.guard }], guard := some (4, true) }) (v := ?vg22) rfl (by kernel_rfl) (fun _ _ _ h => h) (Or.inr hHeld) (Or.inl ⟨by rfl, ?yg22⟩) ?_
      case yg22 => (intro wS _; go_simp <;> with_reducible rfl)
      try simp only [Act.put, List.setIfInBounds_toArray, List.set_cons_zero, List.set_cons_succ]
      refine wpG_pure (i := 6) (oi := { dst := some 31, op := Go.Op.move (Go.Operand.tmp 9), type := 67, pos := "l12_machine.go:146", after := #[{ on := 4, ground := Go.Ground.guard }], guard := some (4, true) }) (v := ?vg23) rfl (by kernel_rfl) (fun _ _ _ h => h) (Or.inr hHeld) (Or.inl ⟨by rfl, ?yg23⟩) ?_
      case yg23 => (intro wS _; go_simp <;> with_reducible rfl)
      try simp only [Act.put, List.setIfInBounds_toArray, List.set_cons_zero, List.set_cons_succ]
      refine wpG_pure (i := 7) (oi := { dst := some 32, op := Go.Op.move (Go.Operand.tmp 12), type := 3, pos := "l12_machine.go:146", after := #[{ on := 4, ground := Go.Ground.guard }], guard := some (4, true) }) (v := ?vg24) rfl (by kernel_rfl) (fun _ _ _ h => h) (Or.inr hHeld) (Or.inl ⟨by rfl, ?yg24⟩) ?_
      case yg24 => (intro wS _; go_simp <;> with_reducible rfl)
      try simp only [Act.put, List.setIfInBounds_toArray, List.set_cons_zero, List.set_cons_succ]
      refine wpG_pure (i := 8) (oi := { dst := some 33, op := Go.Op.indexAddr 67 (Go.Operand.tmp 31) (Go.Operand.tmp 32), type := 0, pos := "l12_machine.go:146", after := #[{ on := 6, ground := Go.Ground.data }, { on := 7, ground := Go.Ground.data }, { on := 4, ground := Go.Ground.guard }], guard := some (4, true) }) (v := ?vg25) rfl (by kernel_rfl) (fun _ _ _ h => h) (Or.inr hHeld) (Or.inl ⟨by rfl, ?yg25⟩) ?_
      case yg25 => (intro wS _; go_simp <;> with_reducible rfl)
      try simp only [Act.put, List.setIfInBounds_toArray, List.set_cons_zero, List.set_cons_succ]
      refine wpG_load (i := 9) (oi := { dst := some 34, op := Go.Op.load 71 (Go.Operand.tmp 33), type := 71, pos := "l12_machine.go:146", after := #[{ on := 8, ground := Go.Ground.data }, { on := 4, ground := Go.Ground.guard }], guard := some (4, true) }) (v := ?vg26) [[14, 9]] rfl (by kernel_rfl) (fun _ _ _ h => h) hHeld (Or.inl ⟨by rfl, ?yg26⟩) ?_
      case yg26 => (intro wS hSw; (try dsimp only at hSw); go_simp <;> with_reducible rfl)
      try simp only [Act.put, List.setIfInBounds_toArray, List.set_cons_zero, List.set_cons_succ]
      refine wpG_pure (i := 10) (oi := { dst := some 35, op := Go.Op.move (Go.Operand.tmp 10), type := 87, pos := "l12_machine.go:146", after := #[{ on := 4, ground := Go.Ground.guard }], guard := some (4, true) }) (v := ?vg27) rfl (by kernel_rfl) (fun _ _ _ h => h) (Or.inr hHeld) (Or.inl ⟨by rfl, ?yg27⟩) ?_
      case yg27 => (intro wS _; go_simp <;> with_reducible rfl)
      try simp only [Act.put, List.setIfInBounds_toArray, List.set_cons_zero, List.set_cons_succ]
      refine wpG_pure (i := 11) (oi := { dst := some 36, op := Go.Op.move (Go.Operand.tmp 12), type := 3, pos := "l12_machine.go:146", after := #[{ on := 4, ground := Go.Ground.guard }], guard := some (4, true) }) (v := ?vg28) rfl (by kernel_rfl) (fun _ _ _ h => h) (Or.inr hHeld) (Or.inl ⟨by rfl, ?yg28⟩) ?_
      case yg28 => (intro wS _; go_simp <;> with_reducible rfl)
      try simp only [Act.put, List.setIfInBounds_toArray, List.set_cons_zero, List.set_cons_succ]
      refine wpG_pure (i := 12) (oi := { dst := some 37, op := Go.Op.indexAddr 87 (Go.Operand.tmp 35) (Go.Operand.tmp 36), type := 0, pos := "l12_machine.go:146", after := #[{ on := 10, ground := Go.Ground.data }, { on := 11, ground := Go.Ground.data }, { on := 4, ground := Go.Ground.guard }], guard := some (4, true) }) (v := ?vg29) rfl (by kernel_rfl) (fun _ _ _ h => h) (Or.inr hHeld) (Or.inl ⟨by rfl, ?yg29⟩) ?_
      case yg29 => (intro wS _; go_simp <;> with_reducible rfl)
      try simp only [Act.put, List.setIfInBounds_toArray, List.set_cons_zero, List.set_cons_succ]
      refine wpG_load (i := 13) (oi := { dst := some 38, op := Go.Op.load 9 (Go.Operand.tmp 37), type := 9, pos := "l12_machine.go:146", after := #[{ on := 12, ground := Go.Ground.data }, { on := 4, ground := Go.Ground.guard }], guard := some (4, true) }) (v := ?vg30) [[14, 13]] rfl (by kernel_rfl) (fun _ _ _ h => h) hHeld (Or.inl ⟨by rfl, ?yg30⟩) ?_
      case yg30 => (intro wS hSw; (try dsimp only at hSw); go_simp <;> with_reducible rfl)
      try simp only [Act.put, List.setIfInBounds_toArray, List.set_cons_zero, List.set_cons_succ]
      refine wpG_one (i := 14) (o := { dst := some 39, op := Go.Op.call { callee := Go.Callee.value (Go.Operand.tmp 30), args := #[Go.Operand.tmp 34, Go.Operand.tmp 38], argTypes := #[71, 9] }, type := 4, pos := "l12_machine.go:146", after := #[{ on := 5, ground := Go.Ground.data }, { on := 9, ground := Go.Ground.data }, { on := 13, ground := Go.Ground.data }, { on := 4, ground := Go.Ground.chain }, { on := 4, ground := Go.Ground.guard }], guard := some (4, true) }) rfl (by kernel_rfl) (fun K hK => ?_)
      go_simp
      refine HSE.out.mono ?_
      rintro e w7 ⟨rfl, hw7, -, hj7⟩
      refine hK.out _ _ (Or.inl (by kernel_rfl)) (fun _ => ?_)
      clear hK K
      try simp only [Act.put, List.setIfInBounds_toArray, List.set_cons_zero, List.set_cons_succ]
      refine wpG_pure (i := 15) (oi := { dst := some 40, op := Go.Op.pick (Go.Operand.tmp 29) (Go.Operand.tmp 39) (Go.Operand.const (Go.Value.bool false)), type := 4, pos := "l12_machine.go:146", after := #[{ on := 4, ground := Go.Ground.data }, { on := 14, ground := Go.Ground.data }], guard := none }) (v := ?vg32) rfl (by kernel_rfl) (fun _ _ _ h => h) (Or.inl (by kernel_rfl)) (Or.inl ⟨by rfl, ?yg32⟩) ?_
      case yg32 => (intro wS _; go_simp <;> with_reducible rfl)
      try simp only [Act.put, List.setIfInBounds_toArray, List.set_cons_zero, List.set_cons_succ]
      refine wpG_done (by kernel_rfl) ?_
      skip
      have HFD := Lib.hid (fin_wrote HW2.out ((HWT.out.drewN 1).trans (hw7.mono (fun k _ hk => .inl hk))))
      have HJ7 := Lib.hid (hj7 trivial)
      clear hw7 hj7
      go_wp2_with fail
      go_ret2
      exact ⟨_, _, rfl, HFD.out, .inl ⟨i, (x, y, s), HPP.out, hst, HST.out, HJ7.out⟩⟩
    | false =>
      rw [hst] at HSE
      have HSN2 := Lib.hid (HSN.out hst)
      clear HSN
      go_wp2_with fail
      refine wp_region_G [14] (fun w' => w'.cell? ⟨gp, i * 2, none⟩ = some (.int .i64 x) ∧ w'.cell? ⟨gp, i * 2 + 1, none⟩ = some (.int .i64 y) ∧ w'.cell? ⟨gt, i, none⟩ = some (.string s)) (by kernel_rfl) ?_ (fun hHeld => ?_)
      · exact ⟨p0, p1, p2⟩
      refine wpG_pure (i := 0) (oi := { dst := some 25, op := Go.Op.move (Go.Operand.tmp 12), type := 3, pos := "l12_machine.go:146", after := #[], guard := none }) (v := ?vg33) rfl (by kernel_rfl) (fun _ _ _ h => h) (Or.inr hHeld) (Or.inl ⟨by rfl, ?yg33⟩) ?_
      case yg33 => (intro wS _; go_simp <;> with_reducible rfl)
      try simp only [Act.put, List.setIfInBounds_toArray, List.set_cons_zero, List.set_cons_succ]
      refine wpG_pure (i := 1) (oi := { dst := some 26, op := Go.Op.move (Go.Operand.tmp 9), type := 67, pos := "l12_machine.go:146", after := #[], guard := none }) (v := ?vg34) rfl (by kernel_rfl) (fun _ _ _ h => h) (Or.inr hHeld) (Or.inl ⟨by rfl, ?yg34⟩) ?_
      case yg34 => (intro wS _; go_simp <;> with_reducible rfl)
      try simp only [Act.put, List.setIfInBounds_toArray, List.set_cons_zero, List.set_cons_succ]
      refine wpG_pure (i := 2) (oi := { dst := some 27, op := Go.Op.call { callee := Go.Callee.builtin Go.Builtin.len, args := #[Go.Operand.tmp 26], argTypes := #[67] }, type := 3, pos := "l12_machine.go:146", after := #[{ on := 1, ground := Go.Ground.data }], guard := none }) (v := ?vg35) rfl (by kernel_rfl) (fun _ _ _ h => h) (Or.inr hHeld) (Or.inl ⟨by rfl, ?yg35⟩) ?_
      case yg35 => (intro wS _; go_simp <;> with_reducible rfl)
      try simp only [Act.put, List.setIfInBounds_toArray, List.set_cons_zero, List.set_cons_succ]
      refine wpG_pure (i := 3) (oi := { dst := some 28, op := Go.Op.binOp Go.BinOp.lss 3 (Go.Operand.tmp 25) (Go.Operand.tmp 27) 3, type := 4, pos := "l12_machine.go:146", after := #[{ on := 0, ground := Go.Ground.data }, { on := 2, ground := Go.Ground.data }], guard := none }) (v := ?vg36) rfl (by kernel_rfl) (fun _ _ _ h => h) (Or.inr hHeld) (Or.inl ⟨by rfl, ?yg36⟩) ?_
      case yg36 => (intro wS _; go_simp <;> with_reducible rfl)
      try simp only [Act.put, List.setIfInBounds_toArray, List.set_cons_zero, List.set_cons_succ]
      refine wpG_pure (i := 4) (oi := { dst := some 29, op := Go.Op.move (Go.Operand.tmp 28), type := 4, pos := "l12_machine.go:146", after := #[{ on := 3, ground := Go.Ground.data }], guard := none }) (v := ?vg37) rfl (by kernel_rfl) (fun _ _ _ h => h) (Or.inr hHeld) (Or.inl ⟨by rfl, ?yg37⟩) ?_
      case yg37 => (intro wS _; go_simp <;> with_reducible rfl)
      try simp only [Act.put, List.setIfInBounds_toArray, List.set_cons_zero, List.set_cons_succ]
      refine wpG_pure (i := 5) (oi := { dst := some 30, op := Go.Op.move (Go.Operand.tmp 2), type := 72, pos := "l12_machine.go:146", after := #[{ on := 4, ground := Go.Ground.guard }], guard := some (4, true) }) (v := ?vg38) rfl (by kernel_rfl) (fun _ _ _ h => h) (Or.inr hHeld) (Or.inl ⟨by rfl, ?yg38⟩) ?_
      case yg38 => (intro wS _; go_simp <;> with_reducible rfl)
      try simp only [Act.put, List.setIfInBounds_toArray, List.set_cons_zero, List.set_cons_succ]
      refine wpG_pure (i := 6) (oi := { dst := some 31, op := Go.Op.move (Go.Operand.tmp 9), type := 67, pos := "l12_machine.go:146", after := #[{ on := 4, ground := Go.Ground.guard }], guard := some (4, true) }) (v := ?vg39) rfl (by kernel_rfl) (fun _ _ _ h => h) (Or.inr hHeld) (Or.inl ⟨by rfl, ?yg39⟩) ?_
      case yg39 => (intro wS _; go_simp <;> with_reducible rfl)
      try simp only [Act.put, List.setIfInBounds_toArray, List.set_cons_zero, List.set_cons_succ]
      refine wpG_pure (i := 7) (oi := { dst := some 32, op := Go.Op.move (Go.Operand.tmp 12), type := 3, pos := "l12_machine.go:146", after := #[{ on := 4, ground := Go.Ground.guard }], guard := some (4, true) }) (v := ?vg40) rfl (by kernel_rfl) (fun _ _ _ h => h) (Or.inr hHeld) (Or.inl ⟨by rfl, ?yg40⟩) ?_
      case yg40 => (intro wS _; go_simp <;> with_reducible rfl)
      try simp only [Act.put, List.setIfInBounds_toArray, List.set_cons_zero, List.set_cons_succ]
      refine wpG_pure (i := 8) (oi := { dst := some 33, op := Go.Op.indexAddr 67 (Go.Operand.tmp 31) (Go.Operand.tmp 32), type := 0, pos := "l12_machine.go:146", after := #[{ on := 6, ground := Go.Ground.data }, { on := 7, ground := Go.Ground.data }, { on := 4, ground := Go.Ground.guard }], guard := some (4, true) }) (v := ?vg41) rfl (by kernel_rfl) (fun _ _ _ h => h) (Or.inr hHeld) (Or.inl ⟨by rfl, ?yg41⟩) ?_
      case yg41 => (intro wS _; go_simp <;> with_reducible rfl)
      try simp only [Act.put, List.setIfInBounds_toArray, List.set_cons_zero, List.set_cons_succ]
      refine wpG_load (i := 9) (oi := { dst := some 34, op := Go.Op.load 71 (Go.Operand.tmp 33), type := 71, pos := "l12_machine.go:146", after := #[{ on := 8, ground := Go.Ground.data }, { on := 4, ground := Go.Ground.guard }], guard := some (4, true) }) (v := ?vg42) [[14, 9]] rfl (by kernel_rfl) (fun _ _ _ h => h) hHeld (Or.inl ⟨by rfl, ?yg42⟩) ?_
      case yg42 => (intro wS hSw; (try dsimp only at hSw); go_simp <;> with_reducible rfl)
      try simp only [Act.put, List.setIfInBounds_toArray, List.set_cons_zero, List.set_cons_succ]
      refine wpG_pure (i := 10) (oi := { dst := some 35, op := Go.Op.move (Go.Operand.tmp 10), type := 87, pos := "l12_machine.go:146", after := #[{ on := 4, ground := Go.Ground.guard }], guard := some (4, true) }) (v := ?vg43) rfl (by kernel_rfl) (fun _ _ _ h => h) (Or.inr hHeld) (Or.inl ⟨by rfl, ?yg43⟩) ?_
      case yg43 => (intro wS _; go_simp <;> with_reducible rfl)
      try simp only [Act.put, List.setIfInBounds_toArray, List.set_cons_zero, List.set_cons_succ]
      refine wpG_pure (i := 11) (oi := { dst := some 36, op := Go.Op.move (Go.Operand.tmp 12), type := 3, pos := "l12_machine.go:146", after := #[{ on := 4, ground := Go.Ground.guard }], guard := some (4, true) }) (v := ?vg44) rfl (by kernel_rfl) (fun _ _ _ h => h) (Or.inr hHeld) (Or.inl ⟨by rfl, ?yg44⟩) ?_
      case yg44 => (intro wS _; go_simp <;> with_reducible rfl)
      try simp only [Act.put, List.setIfInBounds_toArray, List.set_cons_zero, List.set_cons_succ]
      refine wpG_pure (i := 12) (oi := { dst := some 37, op := Go.Op.indexAddr 87 (Go.Operand.tmp 35) (Go.Operand.tmp 36), type := 0, pos := "l12_machine.go:146", after := #[{ on := 10, ground := Go.Ground.data }, { on := 11, ground := Go.Ground.data }, { on := 4, ground := Go.Ground.guard }], guard := some (4, true) }) (v := ?vg45) rfl (by kernel_rfl) (fun _ _ _ h => h) (Or.inr hHeld) (Or.inl ⟨by rfl, ?yg45⟩) ?_
      case yg45 => (intro wS _; go_simp <;> with_reducible rfl)
      try simp only [Act.put, List.setIfInBounds_toArray, List.set_cons_zero, List.set_cons_succ]
      refine wpG_load (i := 13) (oi := { dst := some 38, op := Go.Op.load 9 (Go.Operand.tmp 37), type := 9, pos := "l12_machine.go:146", after := #[{ on := 12, ground := Go.Ground.data }, { on := 4, ground := Go.Ground.guard }], guard := some (4, true) }) (v := ?vg46) [[14, 13]] rfl (by kernel_rfl) (fun _ _ _ h => h) hHeld (Or.inl ⟨by rfl, ?yg46⟩) ?_
      case yg46 => (intro wS hSw; (try dsimp only at hSw); go_simp <;> with_reducible rfl)
      try simp only [Act.put, List.setIfInBounds_toArray, List.set_cons_zero, List.set_cons_succ]
      refine wpG_one (i := 14) (o := { dst := some 39, op := Go.Op.call { callee := Go.Callee.value (Go.Operand.tmp 30), args := #[Go.Operand.tmp 34, Go.Operand.tmp 38], argTypes := #[71, 9] }, type := 4, pos := "l12_machine.go:146", after := #[{ on := 5, ground := Go.Ground.data }, { on := 9, ground := Go.Ground.data }, { on := 13, ground := Go.Ground.data }, { on := 4, ground := Go.Ground.chain }, { on := 4, ground := Go.Ground.guard }], guard := some (4, true) }) rfl (by kernel_rfl) (fun K hK => ?_)
      go_simp
      refine HSE.out.mono ?_
      rintro e w7 ⟨rfl, hw7, hi7, -⟩
      refine hK.out _ _ (Or.inl (by kernel_rfl)) (fun _ => ?_)
      clear hK K
      try simp only [Act.put, List.setIfInBounds_toArray, List.set_cons_zero, List.set_cons_succ]
      refine wpG_pure (i := 15) (oi := { dst := some 40, op := Go.Op.pick (Go.Operand.tmp 29) (Go.Operand.tmp 39) (Go.Operand.const (Go.Value.bool false)), type := 4, pos := "l12_machine.go:146", after := #[{ on := 4, ground := Go.Ground.data }, { on := 14, ground := Go.Ground.data }], guard := none }) (v := ?vg48) rfl (by kernel_rfl) (fun _ _ _ h => h) (Or.inl (by kernel_rfl)) (Or.inl ⟨by rfl, ?yg48⟩) ?_
      case yg48 => (intro wS _; go_simp <;> with_reducible rfl)
      try simp only [Act.put, List.setIfInBounds_toArray, List.set_cons_zero, List.set_cons_succ]
      refine wpG_done (by kernel_rfl) ?_
      skip
      have HWS7 := Lib.hid ((HWS.out.later (wy := w6.drew) (rdrew (Below.refl _ _) 1)).wrote hw7 (fun k hk => by have := (HS.out k hk).2; omega))
      have HWT7 : Hid (Wrote (fun k => S k ∨ w.heap.size + 2 ≤ k) W2 w7) := Lib.hid ((HWT.out.drewN 1).trans (hw7.mono (fun k _ hk => .inl hk)))
      have HIN7 := Lib.hid (hi7 trivial)
      clear hw7 hi7 p0 p1 p2 HWS HWT HIN HSE
      obtain ⟨b2A, f2A, c2A, hcA, hb2A, hdA1, hdA2, heA⟩ := HRA.out x hrg.1 hrg.2.1
      obtain ⟨b2B, f2B, c2B, hcB, hb2B, hdB1, hdB2, heB⟩ := HRB.out y hrg.2.2.1 hrg.2.2.2
      have HCA := Lib.hid hcA; have HCB := Lib.hid hcB; have HEA := Lib.hid heA; have HEB := Lib.hid heB
      obtain ⟨hr1, hr2, hr3, hr4⟩ := hrg
      have hs7 : w.heap.size + 2 ≤ w7.heap.size := Nat.le_trans HW2z.out HWT7.out.size
      clear hcA hcB heA heB
      go_wp2_with (at_make; refine wpList_make_full _ rfl _ _ _ rfl (w.heap.size + 2) 3 i4 (.int .i64 0) 1 Try.underlying42 hi4 hu0 hu1 .i64 .i64 3 3 3 rfl rfl rfl rfl (by rw [hu2]; omega) (by unfold maxLen; omega) hs7 ?_; intro w8 hown hgrow)
      have hb8 : Below w7.heap.size w7 w8 := Below.grown (Below.refl _ _) hgrow (Nat.le_refl _) (fun j hj => by cases hj)
      have HNR : Hid (w8.ownsRow (w.heap.size + 2) 3 1 (.slice (some ⟨w7.heap.size, 0, none⟩) 3 3) 3 (fill (ints (goesP A B (pairsR A B) (x, y, s))) (.int .i64 0) 0)) := Lib.hid (made_ints3 (goesP A B (pairsR A B) (x, y, s)) rfl ▸ hown)
      have HWS8 := Lib.hid (HWS7.out.later hb8)
      have HWT8 : Hid (Wrote (fun k => S k ∨ w.heap.size + 2 ≤ k) W2 w8) := Lib.hid (HWT7.out.trans (Wrote.of_below hb8))
      have HIN8 := Lib.hid (HI.out w7 w8 HIN7.out (hb8.mono (by omega)))
      have HNF : Hid (w7.heap.size ∉ fp) := Lib.hid (fun hm => by have := HWS7.out.gs.lt kIntS_ok _ hm; omega)
      clear hown hgrow hb8 HWS7 HWT7 HIN7
      go_wp2_with fail
      generalize w7.heap.size = N at *
      go_loopw [9, 10, 44] (fun pv tv kv wr => ∃ (k gp cp gt ct : Nat), k ≤ 3 ∧ kv = .int .i64 (k : Int) ∧ pv = .slice (some ⟨gp, 0, none⟩) (foldP A B (x, y, s) o k).length cp ∧ tv = .slice (some ⟨gt, 0, none⟩) (foldP A B (x, y, s) o k).length ct ∧ Hid (WS (w.heap.size + 2) wr gp cp gt ct (w.heap.size + 1 + 1) u11 fp (foldP A B (x, y, s) o k) (((pairsR A B).take i).map (goesP A B (pairsR A B)))) ∧ Hid (wr.ownsRow (w.heap.size + 2) 3 1 (.slice (some ⟨N, 0, none⟩) 3 3) 3 (fill (ints (goesP A B (pairsR A B) (x, y, s))) (.int .i64 0) k)) ∧ Hid (Wrote (fun k => S k ∨ w.heap.size + 2 ≤ k) W2 wr) ∧ Hid (I wr)) (fun _ _ kv _ => 3 - (intOf kv).toNat)
      case atStart => exact ⟨0, gp, cp, gt, ct, by omega, rfl, rfl, rfl, HWS8, HNR, HWT8, HIN8⟩
      case round =>
        clear HWS8 HNR HWT8 HIN8
        obtain ⟨w9, rfl⟩ : ∃ z : World, z = wr := ⟨_, rfl⟩
        obtain ⟨k, gp, cp, gt, ct, hk, rfl, rfl, rfl, HWS, HNR, HWT, HIN⟩ := hrel
        have hs9 : w.heap.size + 2 ≤ w9.heap.size := Nat.le_trans HW2z.out HWT.out.size
        by_cases hk3 : k < 3
        case neg =>
          obtain rfl : k = 3 := by omega
          have HWS3 : Hid (WS (w.heap.size + 2) w9 gp cp gt ct (w.heap.size + 1 + 1) u11 fp (ordP A B (i + 1)) (((pairsR A B).take i).map (goesP A B (pairsR A B)))) := Lib.hid (by rw [HNX.out]; exact HWS.out)
          have HGL : Hid ((((pairsR A B).take i).map (goesP A B (pairsR A B))).length = i) := Lib.hid (by
            have := (List.getElem?_eq_some_iff.1 HPP.out).1
            simp; omega)
          have hx9 : kIntS.ow [N] (w9.alloc (.cells #[.slice (some ⟨N, 0, none⟩) 3 3] 42)) [.slice (some ⟨N, 0, none⟩) 3 3] (goesP A B (pairsR A B) (x, y, s)) := by
            have h := HNR.out.alloc (.cells #[.slice (some ⟨N, 0, none⟩) 3 3] 42)
            have e : fill (ints (goesP A B (pairsR A B) (x, y, s))) (.int .i64 0) 3 = ints (goesP A B (pairsR A B) (x, y, s)) := fill_full (ints (goesP A B (pairsR A B) (x, y, s))) (.int .i64 0)
            rw [e] at h
            exact ints_own (v := .slice (some ⟨N, 0, none⟩) 3 3) (xs := goesP A B (pairsR A B) (x, y, s)) h (HGW.out i (x, y, s) HPP.out hi143)
          obtain ⟨rw9, hrow9, hpush⟩ := WS.push (HWS3.out.later (ralloc (Below.refl _ w9) (.cells #[.slice (some ⟨N, 0, none⟩) 3 3] 42))) hx9 HNF.out hs7 (by simp; omega) HGL.out
          have HPU := Lib.hid hpush; have HRW := Lib.hid hrow9
          clear hpush hrow9 hx9
          go_wp2_with (at_builtin; refine wpList_append_lies _ rfl _ _ 22 rfl (w.heap.size + 2) 42 i3 (.slice none 0 0) 1 24 Try.underlying22 hi3 hv0 hv1 hv2 rfl (by decide) _ i rw9 rfl HRW.out ⟨w9.heap.size, 0, none⟩ 1 1 [.slice (some ⟨N, 0, none⟩) 3 3] rfl rfl (news_one _ _ _) (by simp [Value.oneCell']) (by omega) (by unfold maxLen; omega) (by omega) (by simp; omega) _ rfl ?_; intro g11 cp11 w11 hown hgrow hat hlt11)
          obtain ⟨fp11, hws11⟩ := HPU.out g11 cp11 w11 hown hgrow hat
          rw [← HTK.out] at hws11
          have HWS11 := Lib.hid hws11
          have hbl : Below w.heap.size w9 w11 := Below.grown (((Below.refl _ _).alloc (by omega) _)) hgrow (by simp; omega) (fun j hj => by have := (HRW.out.lt j hj).1; omega)
          have HIN11 := Lib.hid (HI.out w9 w11 HIN.out hbl)
          have HWT11 : Hid (Wrote (fun k => S k ∨ w.heap.size + 2 ≤ k) W2 w11) := Lib.hid (HWT.out.trans ((Wrote.of_below (ralloc (Below.refl _ w9) _)).trans ((Wrote.of_grown hgrow).mono (fun k _ hk => .inr (HRW.out.lt k hk).1))))
          clear hown hgrow hat hlt11 hws11 hbl HPU HRW HWS HWS3 HNR HWT HIN
          go_wp2_with fail
          go_roundw
          case rel => exact ⟨i + 1, gp, cp, gt, ct, fp11, by omega, HN2.out, by go_num, by rw [HNX.out], by rw [HNX.out], HWS11, HWT11, HIN11, HSN2⟩
          case measure => (simp [intOf]; try omega)
        have hBW := (fin_wrote HW2.out HWT.out).below hB0 (fun k h => (HS.out k h).1)
        have ka : w9.cell? ⟨w.heap.size, 0, none⟩ = some (.slice (some ⟨bA, fA, none⟩) A.1.length eac) := HWT.out.cell HK0.out.1 (by rintro (h | h); have := (HS.out _ h).2; omega; omega)
        have kb : w9.cell? ⟨w.heap.size + 1, 0, none⟩ = some (.slice (some ⟨bB, fB, none⟩) B.1.length ecc) := HWT.out.cell HK0.out.2 (by rintro (h | h); have := (HS.out _ h).2; omega; omega)
        have ra := below_cellk hBW HCA.out hbA
        have rb := below_cellk hBW HCB.out hbB
        have xa := below_cellk hBW (HEA.out k hk3) hb2A
        have xb := below_cellk hBW (HEB.out k hk3) hb2B
        have hpi : (foldP A B (x, y, s) o k)[i]? = some (x, y, s) := (pre_at (HPRE.out k) hlt).trans HPI.out
        obtain ⟨q0, q1, q2⟩ := HWS.out.cells hpi
        simp only at q0 q1 q2
        have HPI2 := Lib.hid hpi
        have hiL := (List.getElem?_eq_some_iff.1 hpi).1
        clear hBW hpi
        have hki : (k : Int) < 3 := by omega
        go_upto_region 10 with fail
        go_cut [15] (fun s15 wx => ∃ B15 : Nat, s15 = .pointer (some ⟨B15, 0, none⟩) ∧ Hid (w9.heap.size ≤ B15 ∧ wx.cell? ⟨B15, 0, none⟩ = some (.int .i64 (goI A x k)) ∧ wx.cell? ⟨B15, 1, none⟩ = some (.int .i64 (goI B y k))) ∧ Hid (Below w9.heap.size w9 wx))
        case first =>
          refine wp_region_G [26] (fun w' => w'.cell? ⟨w.heap.size, 0, none⟩ = some (.slice (some ⟨bA, fA, none⟩) A.1.length eac) ∧ w'.cell? ⟨w.heap.size + 1, 0, none⟩ = some (.slice (some ⟨bB, fB, none⟩) B.1.length ecc) ∧ w'.cell? ⟨bA, fA + x.toNat, none⟩ = some (.slice (some ⟨b2A, f2A, none⟩) 3 c2A) ∧ w'.cell? ⟨bB, fB + y.toNat, none⟩ = some (.slice (some ⟨b2B, f2B, none⟩) 3 c2B) ∧ w'.cell? ⟨b2A, f2A + k, none⟩ = some (.int .i64 (goI A x k)) ∧ w'.cell? ⟨b2B, f2B + k, none⟩ = some (.int .i64 (goI B y k)) ∧ w'.cell? ⟨gp, i * 2, none⟩ = some (.int .i64 x) ∧ w'.cell? ⟨gp, i * 2 + 1, none⟩ = some (.int .i64 y)) (by kernel_rfl) ?_ (fun hHeld => ?_)
          · exact ⟨ka, kb, ra, rb, xa, xb, q0, q1⟩
          refine wpG_pure (i := 0) (oi := { dst := some 47, op := Go.Op.fieldAddr 28 (Go.Operand.tmp 3) 0, type := 0, pos := "l12_machine.go:149", after := #[], guard := none }) (v := ?vg49) rfl (by kernel_rfl) (fun _ _ _ h => h) (Or.inr hHeld) (Or.inl ⟨by rfl, ?yg49⟩) ?_
          case yg49 => (intro wS _; go_simp <;> with_reducible rfl)
          try simp only [Act.put, List.setIfInBounds_toArray, List.set_cons_zero, List.set_cons_succ]
          refine wpG_load (i := 1) (oi := { dst := some 48, op := Go.Op.load 22 (Go.Operand.tmp 47), type := 22, pos := "l12_machine.go:149", after := #[{ on := 0, ground := Go.Ground.data }], guard := none }) (v := ?vg50) [[26, 1]] rfl (by kernel_rfl) (fun _ _ _ h => h) hHeld (Or.inl ⟨by rfl, ?yg50⟩) ?_
          case yg50 => (intro wS hSw; (try dsimp only at hSw); go_simp <;> with_reducible rfl)
          try simp only [Act.put, List.setIfInBounds_toArray, List.set_cons_zero, List.set_cons_succ]
          refine wpG_pure (i := 2) (oi := { dst := some 49, op := Go.Op.move (Go.Operand.tmp 9), type := 67, pos := "l12_machine.go:149", after := #[], guard := none }) (v := ?vg51) rfl (by kernel_rfl) (fun _ _ _ h => h) (Or.inr hHeld) (Or.inl ⟨by rfl, ?yg51⟩) ?_
          case yg51 => (intro wS _; go_simp <;> with_reducible rfl)
          try simp only [Act.put, List.setIfInBounds_toArray, List.set_cons_zero, List.set_cons_succ]
          refine wpG_pure (i := 3) (oi := { dst := some 50, op := Go.Op.move (Go.Operand.tmp 12), type := 3, pos := "l12_machine.go:149", after := #[], guard := none }) (v := ?vg52) rfl (by kernel_rfl) (fun _ _ _ h => h) (Or.inr hHeld) (Or.inl ⟨by rfl, ?yg52⟩) ?_
          case yg52 => (intro wS _; go_simp <;> with_reducible rfl)
          try simp only [Act.put, List.setIfInBounds_toArray, List.set_cons_zero, List.set_cons_succ]
          refine wpG_pure (i := 4) (oi := { dst := some 51, op := Go.Op.indexAddr 67 (Go.Operand.tmp 49) (Go.Operand.tmp 50), type := 0, pos := "l12_machine.go:149", after := #[{ on := 2, ground := Go.Ground.data }, { on := 3, ground := Go.Ground.data }], guard := none }) (v := ?vg53) rfl (by kernel_rfl) (fun _ _ _ h => h) (Or.inr hHeld) (Or.inl ⟨by rfl, ?yg53⟩) ?_
          case yg53 => (intro wS _; go_simp <;> with_reducible rfl)
          try simp only [Act.put, List.setIfInBounds_toArray, List.set_cons_zero, List.set_cons_succ]
          refine wpG_pure (i := 5) (oi := { dst := some 52, op := Go.Op.fieldAddr 71 (Go.Operand.tmp 51) 0, type := 0, pos := "l12_machine.go:149", after := #[{ on := 4, ground := Go.Ground.data }], guard := none }) (v := ?vg54) rfl (by kernel_rfl) (fun _ _ _ h => h) (Or.inr hHeld) (Or.inl ⟨by rfl, ?yg54⟩) ?_
          case yg54 => (intro wS _; go_simp <;> with_reducible rfl)
          try simp only [Act.put, List.setIfInBounds_toArray, List.set_cons_zero, List.set_cons_succ]
          refine wpG_load (i := 6) (oi := { dst := some 53, op := Go.Op.load 3 (Go.Operand.tmp 52), type := 3, pos := "l12_machine.go:149", after := #[{ on := 5, ground := Go.Ground.data }], guard := none }) (v := ?vg55) [[26, 6]] rfl (by kernel_rfl) (fun _ _ _ h => h) hHeld (Or.inl ⟨by rfl, ?yg55⟩) ?_
          case yg55 => (intro wS hSw; (try dsimp only at hSw); go_simp <;> with_reducible rfl)
          try simp only [Act.put, List.setIfInBounds_toArray, List.set_cons_zero, List.set_cons_succ]
          refine wpG_pure (i := 7) (oi := { dst := some 54, op := Go.Op.indexAddr 22 (Go.Operand.tmp 48) (Go.Operand.tmp 53), type := 0, pos := "l12_machine.go:149", after := #[{ on := 1, ground := Go.Ground.data }, { on := 6, ground := Go.Ground.data }], guard := none }) (v := ?vg56) rfl (by kernel_rfl) (fun _ _ _ h => h) (Or.inr hHeld) (Or.inl ⟨by rfl, ?yg56⟩) ?_
          case yg56 => (intro wS _; go_simp <;> with_reducible rfl)
          try simp only [Act.put, List.setIfInBounds_toArray, List.set_cons_zero, List.set_cons_succ]
          refine wpG_load (i := 8) (oi := { dst := some 55, op := Go.Op.load 42 (Go.Operand.tmp 54), type := 42, pos := "l12_machine.go:149", after := #[{ on := 7, ground := Go.Ground.data }], guard := none }) (v := ?vg57) [[26, 8]] rfl (by kernel_rfl) (fun _ _ _ h => h) hHeld (Or.inl ⟨by rfl, ?yg57⟩) ?_
          case yg57 => (intro wS hSw; (try dsimp only at hSw); go_simp <;> with_reducible rfl)
          try simp only [Act.put, List.setIfInBounds_toArray, List.set_cons_zero, List.set_cons_succ]
          refine wpG_pure (i := 9) (oi := { dst := some 56, op := Go.Op.move (Go.Operand.tmp 14), type := 3, pos := "l12_machine.go:149", after := #[], guard := none }) (v := ?vg58) rfl (by kernel_rfl) (fun _ _ _ h => h) (Or.inr hHeld) (Or.inl ⟨by rfl, ?yg58⟩) ?_
          case yg58 => (intro wS _; go_simp <;> with_reducible rfl)
          try simp only [Act.put, List.setIfInBounds_toArray, List.set_cons_zero, List.set_cons_succ]
          refine wpG_pure (i := 10) (oi := { dst := some 57, op := Go.Op.indexAddr 42 (Go.Operand.tmp 55) (Go.Operand.tmp 56), type := 0, pos := "l12_machine.go:149", after := #[{ on := 8, ground := Go.Ground.data }, { on := 9, ground := Go.Ground.data }], guard := none }) (v := ?vg59) rfl (by kernel_rfl) (fun _ _ _ h => h) (Or.inr hHeld) (Or.inl ⟨by rfl, ?yg59⟩) ?_
          case yg59 => (intro wS _; go_simp <;> with_reducible rfl)
          try simp only [Act.put, List.setIfInBounds_toArray, List.set_cons_zero, List.set_cons_succ]
          refine wpG_load (i := 11) (oi := { dst := some 58, op := Go.Op.load 3 (Go.Operand.tmp 57), type := 3, pos := "l12_machine.go:149", after := #[{ on := 10, ground := Go.Ground.data }], guard := none }) (v := ?vg60) [[26, 11]] rfl (by kernel_rfl) (fun _ _ _ h => h) hHeld (Or.inl ⟨by rfl, ?yg60⟩) ?_
          case yg60 => (intro wS hSw; (try dsimp only at hSw); go_simp <;> with_reducible rfl)
          try simp only [Act.put, List.setIfInBounds_toArray, List.set_cons_zero, List.set_cons_succ]
          refine wpG_pure (i := 12) (oi := { dst := some 59, op := Go.Op.fieldAddr 28 (Go.Operand.tmp 4) 0, type := 0, pos := "l12_machine.go:149", after := #[], guard := none }) (v := ?vg61) rfl (by kernel_rfl) (fun _ _ _ h => h) (Or.inr hHeld) (Or.inl ⟨by rfl, ?yg61⟩) ?_
          case yg61 => (intro wS _; go_simp <;> with_reducible rfl)
          try simp only [Act.put, List.setIfInBounds_toArray, List.set_cons_zero, List.set_cons_succ]
          refine wpG_load (i := 13) (oi := { dst := some 60, op := Go.Op.load 22 (Go.Operand.tmp 59), type := 22, pos := "l12_machine.go:149", after := #[{ on := 12, ground := Go.Ground.data }], guard := none }) (v := ?vg62) [[26, 13]] rfl (by kernel_rfl) (fun _ _ _ h => h) hHeld (Or.inl ⟨by rfl, ?yg62⟩) ?_
          case yg62 => (intro wS hSw; (try dsimp only at hSw); go_simp <;> with_reducible rfl)
          try simp only [Act.put, List.setIfInBounds_toArray, List.set_cons_zero, List.set_cons_succ]
          refine wpG_pure (i := 14) (oi := { dst := some 61, op := Go.Op.move (Go.Operand.tmp 9), type := 67, pos := "l12_machine.go:149", after := #[], guard := none }) (v := ?vg63) rfl (by kernel_rfl) (fun _ _ _ h => h) (Or.inr hHeld) (Or.inl ⟨by rfl, ?yg63⟩) ?_
          case yg63 => (intro wS _; go_simp <;> with_reducible rfl)
          try simp only [Act.put, List.setIfInBounds_toArray, List.set_cons_zero, List.set_cons_succ]
          refine wpG_pure (i := 15) (oi := { dst := some 62, op := Go.Op.move (Go.Operand.tmp 12), type := 3, pos := "l12_machine.go:149", after := #[], guard := none }) (v := ?vg64) rfl (by kernel_rfl) (fun _ _ _ h => h) (Or.inr hHeld) (Or.inl ⟨by rfl, ?yg64⟩) ?_
          case yg64 => (intro wS _; go_simp <;> with_reducible rfl)
          try simp only [Act.put, List.setIfInBounds_toArray, List.set_cons_zero, List.set_cons_succ]
          refine wpG_pure (i := 16) (oi := { dst := some 63, op := Go.Op.indexAddr 67 (Go.Operand.tmp 61) (Go.Operand.tmp 62), type := 0, pos := "l12_machine.go:149", after := #[{ on := 14, ground := Go.Ground.data }, { on := 15, ground := Go.Ground.data }], guard := none }) (v := ?vg65) rfl (by kernel_rfl) (fun _ _ _ h => h) (Or.inr hHeld) (Or.inl ⟨by rfl, ?yg65⟩) ?_
          case yg65 => (intro wS _; go_simp <;> with_reducible rfl)
          try simp only [Act.put, List.setIfInBounds_toArray, List.set_cons_zero, List.set_cons_succ]
          refine wpG_pure (i := 17) (oi := { dst := some 64, op := Go.Op.fieldAddr 71 (Go.Operand.tmp 63) 1, type := 0, pos := "l12_machine.go:149", after := #[{ on := 16, ground := Go.Ground.data }], guard := none }) (v := ?vg66) rfl (by kernel_rfl) (fun _ _ _ h => h) (Or.inr hHeld) (Or.inl ⟨by rfl, ?yg66⟩) ?_
          case yg66 => (intro wS _; go_simp <;> with_reducible rfl)
          try simp only [Act.put, List.setIfInBounds_toArray, List.set_cons_zero, List.set_cons_succ]
          refine wpG_load (i := 18) (oi := { dst := some 65, op := Go.Op.load 3 (Go.Operand.tmp 64), type := 3, pos := "l12_machine.go:149", after := #[{ on := 17, ground := Go.Ground.data }], guard := none }) (v := ?vg67) [[26, 18]] rfl (by kernel_rfl) (fun _ _ _ h => h) hHeld (Or.inl ⟨by rfl, ?yg67⟩) ?_
          case yg67 => (intro wS hSw; (try dsimp only at hSw); go_simp <;> with_reducible rfl)
          try simp only [Act.put, List.setIfInBounds_toArray, List.set_cons_zero, List.set_cons_succ]
          refine wpG_pure (i := 19) (oi := { dst := some 66, op := Go.Op.indexAddr 22 (Go.Operand.tmp 60) (Go.Operand.tmp 65), type := 0, pos := "l12_machine.go:149", after := #[{ on := 13, ground := Go.Ground.data }, { on := 18, ground := Go.Ground.data }], guard := none }) (v := ?vg68) rfl (by kernel_rfl) (fun _ _ _ h => h) (Or.inr hHeld) (Or.inl ⟨by rfl, ?yg68⟩) ?_
          case yg68 => (intro wS _; go_simp <;> with_reducible rfl)
          try simp only [Act.put, List.setIfInBounds_toArray, List.set_cons_zero, List.set_cons_succ]
          refine wpG_load (i := 20) (oi := { dst := some 67, op := Go.Op.load 42 (Go.Operand.tmp 66), type := 42, pos := "l12_machine.go:149", after := #[{ on := 19, ground := Go.Ground.data }], guard := none }) (v := ?vg69) [[26, 20]] rfl (by kernel_rfl) (fun _ _ _ h => h) hHeld (Or.inl ⟨by rfl, ?yg69⟩) ?_
          case yg69 => (intro wS hSw; (try dsimp only at hSw); go_simp <;> with_reducible rfl)
          try simp only [Act.put, List.setIfInBounds_toArray, List.set_cons_zero, List.set_cons_succ]
          refine wpG_pure (i := 21) (oi := { dst := some 68, op := Go.Op.move (Go.Operand.tmp 14), type := 3, pos := "l12_machine.go:149", after := #[], guard := none }) (v := ?vg70) rfl (by kernel_rfl) (fun _ _ _ h => h) (Or.inr hHeld) (Or.inl ⟨by rfl, ?yg70⟩) ?_
          case yg70 => (intro wS _; go_simp <;> with_reducible rfl)
          try simp only [Act.put, List.setIfInBounds_toArray, List.set_cons_zero, List.set_cons_succ]
          refine wpG_pure (i := 22) (oi := { dst := some 69, op := Go.Op.indexAddr 42 (Go.Operand.tmp 67) (Go.Operand.tmp 68), type := 0, pos := "l12_machine.go:149", after := #[{ on := 20, ground := Go.Ground.data }, { on := 21, ground := Go.Ground.data }], guard := none }) (v := ?vg71) rfl (by kernel_rfl) (fun _ _ _ h => h) (Or.inr hHeld) (Or.inl ⟨by rfl, ?yg71⟩) ?_
          case yg71 => (intro wS _; go_simp <;> with_reducible rfl)
          try simp only [Act.put, List.setIfInBounds_toArray, List.set_cons_zero, List.set_cons_succ]
          refine wpG_load (i := 23) (oi := { dst := some 70, op := Go.Op.load 3 (Go.Operand.tmp 69), type := 3, pos := "l12_machine.go:149", after := #[{ on := 22, ground := Go.Ground.data }], guard := none }) (v := ?vg72) [[26, 23]] rfl (by kernel_rfl) (fun _ _ _ h => h) hHeld (Or.inl ⟨by rfl, ?yg72⟩) ?_
          case yg72 => (intro wS hSw; (try dsimp only at hSw); go_simp <;> with_reducible rfl)
          try simp only [Act.put, List.setIfInBounds_toArray, List.set_cons_zero, List.set_cons_succ]
          refine wpG_pure (i := 24) (oi := { dst := some 71, op := Go.Op.build 71 #[(0, Go.Operand.tmp 58), (1, Go.Operand.tmp 70)], type := 71, pos := "l12_machine.go:149", after := #[{ on := 11, ground := Go.Ground.data }, { on := 23, ground := Go.Ground.data }], guard := none }) (v := ?vg73) rfl (by kernel_rfl) (fun _ _ _ h => h) (Or.inr hHeld) (Or.inl ⟨by rfl, ?yg73⟩) ?_
          case yg73 => (intro wS _; go_simp <;> with_reducible rfl)
          try simp only [Act.put, List.setIfInBounds_toArray, List.set_cons_zero, List.set_cons_succ]
          refine wpG_one (i := 25) (o := { dst := some 15, op := Go.Op.alloc 71, type := 0, pos := "l12_machine.go:149", after := #[], guard := none }) rfl (by kernel_rfl) (fun K hK => ?_)
          go_simp
          refine hK.out _ _ (Or.inr ?khHeld74) (fun hHeld74S => ?_)
          case khHeld74 => exact ⟨cell_alloc _ ka, cell_alloc _ kb, cell_alloc _ ra, cell_alloc _ rb, cell_alloc _ xa, cell_alloc _ xb, cell_alloc _ q0, cell_alloc _ q1⟩
          have hHeld74 := hHeld74S.held (by kernel_rfl)
          clear hK K
          try simp only [Act.put, List.setIfInBounds_toArray, List.set_cons_zero, List.set_cons_succ]
          refine wpG_one (i := 26) (o := { dst := none, op := Go.Op.store 71 (Go.Operand.tmp 15) (Go.Operand.tmp 71), type := 0, pos := "l12_machine.go:149", after := #[{ on := 25, ground := Go.Ground.data }, { on := 24, ground := Go.Ground.data }, { on := 0, ground := Go.Ground.phase }, { on := 1, ground := Go.Ground.phase }, { on := 2, ground := Go.Ground.phase }, { on := 3, ground := Go.Ground.phase }, { on := 4, ground := Go.Ground.phase }, { on := 5, ground := Go.Ground.phase }, { on := 6, ground := Go.Ground.phase }, { on := 7, ground := Go.Ground.phase }, { on := 8, ground := Go.Ground.phase }, { on := 9, ground := Go.Ground.phase }, { on := 10, ground := Go.Ground.phase }, { on := 11, ground := Go.Ground.phase }, { on := 12, ground := Go.Ground.phase }, { on := 13, ground := Go.Ground.phase }, { on := 14, ground := Go.Ground.phase }, { on := 15, ground := Go.Ground.phase }, { on := 16, ground := Go.Ground.phase }, { on := 17, ground := Go.Ground.phase }, { on := 18, ground := Go.Ground.phase }, { on := 19, ground := Go.Ground.phase }, { on := 20, ground := Go.Ground.phase }, { on := 21, ground := Go.Ground.phase }, { on := 22, ground := Go.Ground.phase }, { on := 23, ground := Go.Ground.phase }, { on := 24, ground := Go.Ground.phase }, { on := 25, ground := Go.Ground.phase }], guard := none }) rfl (by kernel_rfl) (fun K hK => ?_)
          go_simp
          refine hK.out _ _ (Or.inl (by kernel_rfl)) (fun _ => ?_)
          clear hK K
          try simp only [Act.put, List.setIfInBounds_toArray, List.set_cons_zero, List.set_cons_succ]
          refine wpG_done (by kernel_rfl) ?_
          go_wp2_with fail
          go_meet
          exact ⟨_, rfl, Lib.hid ⟨by simp, by go_simp, by go_simp⟩, Lib.hid (rdrew ((Below.refl _ _).alloc (Nat.le_refl _) _) 1)⟩
        case rest =>
          clear ka kb ra rb xa xb q0 q1 q2
          obtain ⟨B15, rfl, HQC, HBC⟩ := hcut
          obtain ⟨w10, rfl⟩ : ∃ z : World, z = wc := ⟨_, rfl⟩
          have HWS10 := Lib.hid (HWS.out.later HBC.out)
          have HNR10 := Lib.hid (own_later HNR.out HBC.out)
          have HWT10 : Hid (Wrote (fun k => S k ∨ w.heap.size + 2 ≤ k) W2 w10) := Lib.hid (HWT.out.trans (Wrote.of_below HBC.out))
          have HIN10 := Lib.hid (HI.out w9 w10 HIN.out (HBC.out.mono (by omega)))
          obtain ⟨hB15, c0, c1⟩ := HQC.out
          have hgp15 := HWS.out.lp; have hgt15 := HWS.out.lt; have hbm15 := HWS.out.mp.lt
          have HAP := Lib.hid HWS10.out.apart
          have HAN := Lib.hid (HWS10.out.apartN HNR10.out)
          have HGX := Lib.hid (goes_at A B (pairsR A B) (x, y, s) k hk3)
          have hs10 : w.heap.size + 2 ≤ w10.heap.size := Nat.le_trans hs9 HBC.out.size
          have HYS : Hid (hasP (foldP A B (x, y, s) o k) (goI A x k, goI B y k, s ++ dig1 (97 + (k : Int))) = true → ∃ (i : Nat) (p : Pr), (foldP A B (x, y, s) o k)[i]? = some p ∧ p.1 = goI A x k ∧ p.2.1 = goI B y k) := Lib.hid (fun h => hasP_at h)
          have HYI : Hid (∀ (j : Nat) (r : Pr), hasP (foldP A B (x, y, s) o k) (goI A x k, goI B y k, s ++ dig1 (97 + (k : Int))) = true → (foldP A B (x, y, s) o k)[j]? = some r → r.1 = goI A x k → r.2.1 = goI B y k → idxP (pairsR A B) (goI A x k) (goI B y k) = (j : Int)) := Lib.hid (fun j r hh hj h1 h2 => idx_yes (p := (x, y, s)) (HFT.out (k + 1) (by omega)) (HINV.out 144).nd hh hj h1 h2)
          have HNI : Hid (hasP (foldP A B (x, y, s) o k) (goI A x k, goI B y k, s ++ dig1 (97 + (k : Int))) = false → idxP (pairsR A B) (goI A x k) (goI B y k) = ((foldP A B (x, y, s) o k).length : Int)) := Lib.hid (fun hh => idx_no (p := (x, y, s)) (HFT.out (k + 1) (by omega)) (HINV.out 144).nd hh)
          have HVY : Hid (hasP (foldP A B (x, y, s) o k) (goI A x k, goI B y k, s ++ dig1 (97 + (k : Int))) = true → foldP A B (x, y, s) o (k + 1) = foldP A B (x, y, s) o k) := Lib.hid (fun h => visit_yes h)
          have HVN : Hid (hasP (foldP A B (x, y, s) o k) (goI A x k, goI B y k, s ++ dig1 (97 + (k : Int))) = false → foldP A B (x, y, s) o (k + 1) = foldP A B (x, y, s) o k ++ [(goI A x k, goI B y k, s ++ dig1 (97 + (k : Int)))]) := Lib.hid (fun h => visit_no h)
          have hga := goI_in HGA.out hr1 hr2 hk3; have hgb := goI_in HGB.out hr3 hr4 hk3
          have hLL : (foldP A B (x, y, s) o k).length ≤ 144 := by
            have h1 := (HFI.out k hk).len
            have := Nat.mul_le_mul hn12 hm12
            omega
          have hwx : (Lit.int .i64 (goI A x k)).wf = true := wf_small hga.2.1 (by omega)
          have hwy : (Lit.int .i64 (goI B y k)).wf = true := wf_small hgb.2.1 (by omega)
          have kc : w10.cell? ⟨N, k, none⟩ = some (.int .i64 0) := by
            rw [HNR10.out.cellAt k (by omega)]; exact fill_at _ _ k k (Nat.le_refl _) (by rw [ints_length, goes_len]; exact hk3)
          have kf : w10.frozen? ⟨N, k, none⟩ = false := HNR10.out.frozenAt k
          clear HWS HNR HWT HIN HQC HBC hga hgb
          generalize goI A x k = qx at *
          generalize goI B y k = qy at *
          generalize hF2 : foldP A B (x, y, s) o (k + 1) = L2 at *
          have HF2 := Lib.hid hF2
          generalize foldP A B (x, y, s) o k = L at *
          clear hF2
          have HKY := Lib.hid (ky_pair hwx hwy)
          cases hh : hasP L (qx, qy, s ++ dig1 (97 + (k : Int))) with
          | true =>
            obtain ⟨j, r, j1, j2, j3⟩ := HYS.out hh
            have HIX : Hid (idxP (pairsR A B) qx qy = (j : Int)) := Lib.hid (HYI.out j r hh j1 j2 j3)
            have HJ1 : Hid ((L.map pkV)[j]? = some (.agg #[.int .i64 qx, .int .i64 qy])) := Lib.hid (by rw [List.getElem?_map, j1]; simp [pkV, j2, j3])
            have HL2 : Hid (L2 = L) := Lib.hid (HVY.out hh)
            clear hh j1 j2 j3 HYS HYI HNI HVY HVN
            go_wp2_with (at_lookup; refine wpList_mapv_yes rfl _ _ rfl kt_pair rfl HWS10.out.mp rfl HKY.out HJ1.out ?_)
            have HNX := Lib.hid (HNR10.out.stored k (.int .i64 (j : Int)))
            have HSE : Hid ((fill (ints (goesP A B (pairsR A B) (x, y, s))) (.int .i64 0) k).set k (.int .i64 (j : Int)) = fill (ints (goesP A B (pairsR A B) (x, y, s))) (.int .i64 0) (k + 1)) := Lib.hid (fill_set _ _ _ _ (by rw [HGX.out, HIX.out]))
            go_roundw
            case rel => exact ⟨k + 1, gp, cp, gt, ct, by omega, by go_num, by rw [HF2.out, HL2.out], by rw [HF2.out, HL2.out], Lib.hid (by rw [HF2.out, HL2.out]; exact HWS10.out.store HAN.out HNF.out), Lib.hid (by have h := HNX.out.1; rwa [HSE.out] at h), Lib.hid (HWT10.out.setCell (p := ⟨N, k, none⟩) (.inr hs7) _), Lib.hid (HI.out _ _ HIN10.out ((Below.refl _ _).setCell (p := ⟨N, k, none⟩) (by show w.heap.size ≤ N; omega) _))⟩
            case measure => (simp [intOf]; try omega)
          | false =>
            have HIX : Hid (idxP (pairsR A B) qx qy = (L.length : Int)) := Lib.hid (HNI.out hh)
            have HNP : Hid ((.agg #[.int .i64 qx, .int .i64 qy] : Value) ∉ L.map pkV) := Lib.hid (fun hm => by
              have := (mem_pkV (q := (qx, qy, s ++ dig1 (97 + (k : Int))))).1 hm
              rw [hh] at this; cases this)
            have HL2 : Hid (L2 = L ++ [(qx, qy, s ++ dig1 (97 + (k : Int)))]) := Lib.hid (HVN.out hh)
            have HML : Hid ((L.map pkV).length < 1000000) := Lib.hid (by rw [List.length_map]; omega)
            have HMM : Hid (((L.length : Nat) : Int) = (((L.map pkV).length : Nat) : Int)) := Lib.hid (by rw [List.length_map])
            clear hh HYS HYI HNI HVY HVN
            go_upto_region 15 with (first
              | (at_lookup; refine wpList_mapv_no rfl _ _ rfl kt_pair rfl HWS10.out.mp rfl HKY.out HNP.out ?_; intro c)
              | (at_mapUpdate; refine wpList_mapv_put rfl _ _ _ rfl kt_pair rfl HWS10.out.mp rfl HKY.out HNP.out HML.out rfl HMM.out ?_; intro wq hm11 hg11
                 have HM11 : Hid (MapV 71 wq (w.heap.size + 1 + 1) (L.map pkV ++ [.agg #[.int .i64 qx, .int .i64 qy]])) := Lib.hid hm11
                 have HGR := Lib.hid hg11
                 clear hm11 hg11))
            have hszq := HGR.out.size
            have HN6 : Hid (w.heap.size + 2 ≤ wq.heap.size) := Lib.hid (by omega)
            have hbmq : w.heap.size + 1 + 1 < w10.heap.size := HWS10.out.mp.lt
            have HBP := Lib.hid (HWS10.out.pr.frame kPr_ok (w' := wq) (by intro b hb; simp at hb; subst hb; exact HGR.out.block _ HWS10.out.lp.1 (by simp only [ne_eq, Option.some.injEq]; exact HAP.out.2.1)))
            have HBT := Lib.hid (HWS10.out.tx.frame kTx_ok (w' := wq) (by intro b hb; simp at hb; subst hb; exact HGR.out.block _ HWS10.out.lt.1 (by simp only [ne_eq, Option.some.injEq]; exact HAP.out.2.2.1)))
            have HBK : Hid (wq.heap[B15]? = w10.heap[B15]?) := Lib.hid (HGR.out.block _ (World.block_lt_of_cell? _ _ c0) (by simp only [ne_eq, Option.some.injEq]; omega))
            have HGK : Hid (wq.heap[gt]? = w10.heap[gt]?) := Lib.hid (HGR.out.block _ HWS10.out.lt.1 (by simp only [ne_eq, Option.some.injEq]; exact HAP.out.2.2.1))
            have pb0 : wq.cell? ⟨B15, 0, none⟩ = some (.int .i64 qx) := (World.cell?_of_block HBK.out).trans c0
            have pb1 : wq.cell? ⟨B15, 1, none⟩ = some (.int .i64 qy) := (World.cell?_of_block HBK.out).trans c1
            have ptx : wq.cell? ⟨gt, i, none⟩ = some (.string s) := (World.cell?_of_block HGK.out).trans (HWS10.out.cells HPI2.out).2.2
            have HLN1 : Hid ((L.map keyP).length = L.length) := Lib.hid (by simp)
            have HLN2 : Hid ((L.map txP).length = L.length) := Lib.hid (by simp)
            have HPT : Hid (∀ b ∈ [gp], b ∉ [gt]) := Lib.hid (by intro b hb hm; simp at hb hm; subst hb; exact HAP.out.1 hm)
            have HTP : Hid (∀ b ∈ [gt], b ∉ [gp]) := Lib.hid (by intro b hb hm; simp at hb hm; subst hb; exact HAP.out.1 hm.symm)
            have HDP : Hid (∀ b ∈ [B15], b ∉ [gp]) := Lib.hid (by intro b hb hm; simp at hb hm; omega)
            have HDT : Hid (∀ b ∈ [B15], b ∉ [gt]) := Lib.hid (by intro b hb hm; simp at hb hm; omega)
            have HWW := Lib.hid (Wrote.refl (fun k => k = gp ∨ k = gt ∨ wq.heap.size ≤ k) wq)
            have hpi := HPI2.out
            have e1 : IntKind.u8.wrap (k : Int) = (k : Int) := IntWalk.u8_in _ (by omega)
            have e2 : IntKind.u8.wrap (97 + (k : Int)) = 97 + (k : Int) := IntWalk.u8_in _ (by omega)
            have hds := dig1_size (97 + (k : Int))
            have hcat : ¬ 9223372036854775807 < s.size + 1 := by omega
            have hwt : (s ++ dig1 (97 + (k : Int))).size ≤ maxLen := by
              rw [ByteArray.size_append, hds]; unfold maxLen; omega
            have HPI3 := HPI2; clear hpi
            go_simp
            go_cut [9, 10] (fun v9 v10 wx => Hid (Laid15 (w.heap.size + 2) wq gp gt L (qx, qy, s ++ dig1 (97 + (k : Int))) v9 v10 wx))
            case first =>
              have hpi := HPI3.out
              clear kc kf c0 c1
              have hb_1 : Below wq.heap.size wq wq.drew := (Below.refl _ _).drew
              have hz_2 : wq.heap.size ≤ wq.heap.size := by have := (hb_1).size; first | omega | (simp at this; omega)
              have c_3 : wq.drew.cell? ⟨B15, 0, none⟩ = some (.int .i64 qx) := below_later hb_1 pb0
              have c_4 : wq.drew.cell? ⟨B15, 1, none⟩ = some (.int .i64 qy) := below_later hb_1 pb1
              have c_5 : wq.drew.cell? ⟨gt, i, none⟩ = some (.string s) := below_later hb_1 ptx
              have hz_6 : w.heap.size + 2 ≤ wq.heap.size := Nat.le_trans HN6.out hz_2
              have BD_7 := Lib.hid (HBP.out.later kPr_ok hb_1)
              have BD_8 := Lib.hid (HBT.out.later kTx_ok hb_1)
              have WR_9 := Lib.hid (Wrote.trans HWW.out (Wrote.of_below hb_1))
              clear hb_1
              refine wp_region_G [16] (fun w' => w'.cell? ⟨B15, 0, none⟩ = some (.int .i64 qx) ∧ w'.cell? ⟨B15, 1, none⟩ = some (.int .i64 qy) ∧ w'.cell? ⟨gt, i, none⟩ = some (.string s)) (by kernel_rfl) ?_ (fun hHeld => ?_)
              · exact ⟨c_3, c_4, c_5⟩
              refine wpG_pure (i := 0) (oi := { dst := some 85, op := Go.Op.move (Go.Operand.tmp 9), type := 67, pos := "l12_machine.go:154", after := #[], guard := none }) (v := ?vg76) rfl (by kernel_rfl) (fun _ _ _ h => h) (Or.inr hHeld) (Or.inl ⟨by rfl, ?yg76⟩) ?_
              case yg76 => (intro wS _; go_simp <;> with_reducible rfl)
              try simp only [Act.put, List.setIfInBounds_toArray, List.set_cons_zero, List.set_cons_succ]
              refine wpG_load (i := 1) (oi := { dst := some 86, op := Go.Op.load 71 (Go.Operand.tmp 15), type := 71, pos := "l12_machine.go:154", after := #[], guard := none }) (v := ?vg77) [[16, 3, 2, 1]] rfl (by kernel_rfl) (fun _ _ _ h => h) hHeld (Or.inl ⟨by rfl, ?yg77⟩) ?_
              case yg77 => (intro wS hSw; (try dsimp only at hSw); go_simp <;> with_reducible rfl)
              try simp only [Act.put, List.setIfInBounds_toArray, List.set_cons_zero, List.set_cons_succ]
              refine wpG_pure (i := 4) (oi := { dst := some 89, op := Go.Op.move (Go.Operand.tmp 10), type := 87, pos := "l12_machine.go:154", after := #[], guard := none }) (v := ?vg78) rfl (by kernel_rfl) (fun _ _ _ h => h) (Or.inr hHeld) (Or.inl ⟨by rfl, ?yg78⟩) ?_
              case yg78 => (intro wS _; go_simp <;> with_reducible rfl)
              try simp only [Act.put, List.setIfInBounds_toArray, List.set_cons_zero, List.set_cons_succ]
              refine wpG_pure (i := 5) (oi := { dst := some 90, op := Go.Op.move (Go.Operand.tmp 10), type := 87, pos := "l12_machine.go:154", after := #[], guard := none }) (v := ?vg79) rfl (by kernel_rfl) (fun _ _ _ h => h) (Or.inr hHeld) (Or.inl ⟨by rfl, ?yg79⟩) ?_
              case yg79 => (intro wS _; go_simp <;> with_reducible rfl)
              try simp only [Act.put, List.setIfInBounds_toArray, List.set_cons_zero, List.set_cons_succ]
              refine wpG_pure (i := 6) (oi := { dst := some 91, op := Go.Op.move (Go.Operand.tmp 12), type := 3, pos := "l12_machine.go:154", after := #[], guard := none }) (v := ?vg80) rfl (by kernel_rfl) (fun _ _ _ h => h) (Or.inr hHeld) (Or.inl ⟨by rfl, ?yg80⟩) ?_
              case yg80 => (intro wS _; go_simp <;> with_reducible rfl)
              try simp only [Act.put, List.setIfInBounds_toArray, List.set_cons_zero, List.set_cons_succ]
              refine wpG_pure (i := 7) (oi := { dst := some 92, op := Go.Op.indexAddr 87 (Go.Operand.tmp 90) (Go.Operand.tmp 91), type := 0, pos := "l12_machine.go:154", after := #[{ on := 5, ground := Go.Ground.data }, { on := 6, ground := Go.Ground.data }], guard := none }) (v := ?vg81) rfl (by kernel_rfl) (fun _ _ _ h => h) (Or.inr hHeld) (Or.inl ⟨by rfl, ?yg81⟩) ?_
              case yg81 => (intro wS _; go_simp <;> with_reducible rfl)
              try simp only [Act.put, List.setIfInBounds_toArray, List.set_cons_zero, List.set_cons_succ]
              refine wpG_load (i := 8) (oi := { dst := some 93, op := Go.Op.load 9 (Go.Operand.tmp 92), type := 9, pos := "l12_machine.go:154", after := #[{ on := 7, ground := Go.Ground.data }], guard := none }) (v := ?vg82) [[16, 15, 14, 8]] rfl (by kernel_rfl) (fun _ _ _ h => h) hHeld (Or.inl ⟨by rfl, ?yg82⟩) ?_
              case yg82 => (intro wS hSw; (try dsimp only at hSw); go_simp <;> with_reducible rfl)
              try simp only [Act.put, List.setIfInBounds_toArray, List.set_cons_zero, List.set_cons_succ]
              refine wpG_pure (i := 9) (oi := { dst := some 94, op := Go.Op.move (Go.Operand.tmp 14), type := 3, pos := "l12_machine.go:154", after := #[], guard := none }) (v := ?vg83) rfl (by kernel_rfl) (fun _ _ _ h => h) (Or.inr hHeld) (Or.inl ⟨by rfl, ?yg83⟩) ?_
              case yg83 => (intro wS _; go_simp <;> with_reducible rfl)
              try simp only [Act.put, List.setIfInBounds_toArray, List.set_cons_zero, List.set_cons_succ]
              refine wpG_pure (i := 10) (oi := { dst := some 95, op := Go.Op.convert 3 5 (Go.Operand.tmp 94), type := 5, pos := "l12_machine.go:154", after := #[{ on := 9, ground := Go.Ground.data }], guard := none }) (v := ?vg84) rfl (by kernel_rfl) (fun _ _ _ h => h) (Or.inr hHeld) (Or.inl ⟨by rfl, ?yg84⟩) ?_
              case yg84 => (intro wS _; go_simp <;> with_reducible rfl)
              try simp only [Act.put, List.setIfInBounds_toArray, List.set_cons_zero, List.set_cons_succ]
              refine wpG_pure (i := 11) (oi := { dst := some 96, op := Go.Op.binOp Go.BinOp.add 5 (Go.Operand.const (Go.Value.int Go.IntKind.u8 97)) (Go.Operand.tmp 95) 5, type := 5, pos := "l12_machine.go:154", after := #[{ on := 10, ground := Go.Ground.data }], guard := none }) (v := ?vg85) rfl (by kernel_rfl) (fun _ _ _ h => h) (Or.inr hHeld) (Or.inl ⟨by rfl, ?yg85⟩) ?_
              case yg85 => (intro wS _; go_simp <;> with_reducible rfl)
              try simp only [Act.put, List.setIfInBounds_toArray, List.set_cons_zero, List.set_cons_succ]
              refine wpG_two (i := 2) (j := 12) (o := { dst := some 87, op := Go.Op.buildSlice 67 1 #[(0, Go.Operand.tmp 86)], type := 67, pos := "l12_machine.go:154", after := #[{ on := 1, ground := Go.Ground.data }], guard := none }) (o' := { dst := some 97, op := Go.Op.buildSlice 85 1 #[(0, Go.Operand.tmp 96)], type := 85, pos := "l12_machine.go:154", after := #[{ on := 11, ground := Go.Ground.data }], guard := none }) rfl rfl (by kernel_rfl) (fun K hK => ?_) (fun K hK => ?_)
              · skip
                go_simp
                have LT_10 : Hid (∀ b ∈ [gp], b < wq.heap.size) := Lib.hid (fun b hm => by have := (BD_7.out.lt kPr_ok b hm); first | exact this | omega | (simp at this; omega))
                have LT_11 : Hid (∀ b ∈ [gt], b < wq.heap.size) := Lib.hid (fun b hm => by have := (BD_8.out.lt kTx_ok b hm); first | exact this | omega | (simp at this; omega))
                have hb_12 : Below wq.drew.heap.size wq.drew (wq.alloc (.cells #[.int .i64 qx, .int .i64 qy] 71)).drew := below_alloc_drew _ _
                have hz_13 : wq.heap.size ≤ wq.heap.size + 1 := by have := (hb_12).size; first | omega | (simp at this; omega)
                have c_14 : (wq.alloc (.cells #[.int .i64 qx, .int .i64 qy] 71)).drew.cell? ⟨B15, 0, none⟩ = some (.int .i64 qx) := below_later hb_12 c_3; clear c_3
                have c_15 : (wq.alloc (.cells #[.int .i64 qx, .int .i64 qy] 71)).drew.cell? ⟨B15, 1, none⟩ = some (.int .i64 qy) := below_later hb_12 c_4; clear c_4
                have c_16 : (wq.alloc (.cells #[.int .i64 qx, .int .i64 qy] 71)).drew.cell? ⟨gt, i, none⟩ = some (.string s) := below_later hb_12 c_5; clear c_5
                have hz_17 : w.heap.size + 2 ≤ wq.heap.size + 1 := Nat.le_trans hz_6 hz_13
                have BD_18 := Lib.hid (BD_7.out.later kPr_ok hb_12)
                have BD_19 := Lib.hid (BD_8.out.later kTx_ok hb_12)
                have WR_20 := Lib.hid (Wrote.trans WR_9.out (Wrote.of_below hb_12))
                clear hb_12
                have c_21 : (wq.alloc (.cells #[.int .i64 qx, .int .i64 qy] 71)).drew.cell? ⟨wq.heap.size, 0, none⟩ = some (.int .i64 qx) := by go_simp
                have z_22 : (wq.alloc (.cells #[.int .i64 qx, .int .i64 qy] 71)).drew.frozen? ⟨wq.heap.size, 0, none⟩ = false := by go_simp
                have c_23 : (wq.alloc (.cells #[.int .i64 qx, .int .i64 qy] 71)).drew.cell? ⟨wq.heap.size, 1, none⟩ = some (.int .i64 qy) := by go_simp
                have z_24 : (wq.alloc (.cells #[.int .i64 qx, .int .i64 qy] 71)).drew.frozen? ⟨wq.heap.size, 1, none⟩ = false := by go_simp
                have hz_25 : wq.heap.size < wq.heap.size + 1 := by omega
                have ND_26 : Hid (∀ b ∈ [wq.heap.size], b ∉ [gp]) := Lib.hid (by intro b hb hm; simp only [List.mem_singleton] at hb; subst hb; have := (LT_10.out _ hm); first | omega | (simp at this; omega))
                have ND_27 : Hid (∀ b ∈ [wq.heap.size], b ∉ [gt]) := Lib.hid (by intro b hb hm; simp only [List.mem_singleton] at hb; subst hb; have := (LT_11.out _ hm); first | omega | (simp at this; omega))
                refine hK.out _ _ (Or.inr ?khHeld86) (fun hHeld86S => ?_)
                case khHeld86 => exact ⟨c_14, c_15, c_16⟩
                have hHeld86 := hHeld86S.held (by kernel_rfl)
                clear hK K
                try simp only [Act.put, List.setIfInBounds_toArray, List.set_cons_zero, List.set_cons_succ]
                refine wpG_two (i := 3) (j := 12) (o := { dst := some 88, op := Go.Op.call { callee := Go.Callee.builtin Go.Builtin.append, args := #[Go.Operand.tmp 85, Go.Operand.tmp 87], argTypes := #[67, 67] }, type := 67, pos := "l12_machine.go:154", after := #[{ on := 0, ground := Go.Ground.data }, { on := 2, ground := Go.Ground.data }], guard := none }) (o' := { dst := some 97, op := Go.Op.buildSlice 85 1 #[(0, Go.Operand.tmp 96)], type := 85, pos := "l12_machine.go:154", after := #[{ on := 11, ground := Go.Ground.data }], guard := none }) rfl rfl (by kernel_rfl) (fun K hK => ?_) (fun K hK => ?_)
                · skip
                  have HNB := Lib.hid (news_two c_21 c_23)
                  obtain ⟨vss_28, fps_28, hrow, howl, hfp, hnd, hge⟩ := BD_18.out
                  rw [HLN1.out] at hrow
                  have ROW_28 := Lib.hid hrow; have OWL_28 := Lib.hid howl; have NDU_28 := Lib.hid (hfp ▸ hnd); have GE_28 := Lib.hid (fun b hb => hge b (hfp ▸ hb)); have FPE_28 := Lib.hid hfp; clear hrow howl hnd hge hfp
                  refine step_append_keeps rfl (.tmp 85) (.tmp 87) 67 rfl (w.heap.size + 2) 71 i1 (.agg #[.int .i64 0, .int .i64 0]) 2 16 Try.underlying67 hi1 hy0 hy1 hy2 rfl (by decide) gp L.length cp vss_28.flatten rfl ROW_28.out ⟨wq.heap.size, 0, none⟩ 1 1 [.int .i64 qx, .int .i64 qy] rfl (by rfl) HNB.out (by simp [Value.oneCell']) (by omega) (by unfold maxLen; omega) (by omega) (by first | omega | (simp; omega)) _ rfl ?_
                  intro g7 cp7 w7 hown hgrow hat hlt4 hkeep
                  clear hkeep
                  have HG_29 := Lib.hid hgrow; have HATHG_29 := Lib.hid hat; have HONHG_29 := Lib.hid hown
                  clear hgrow hat hown
                  have hz_30 : wq.heap.size + 1 ≤ w7.heap.size := by have := HG_29.out.size; first | omega | (simp at this; omega)
                  have LT_31 : Hid (∀ b ∈ [gp], b < wq.heap.size + 1) := Lib.hid (fun b hm => by have := (BD_18.out.lt kPr_ok b hm); first | exact this | omega | (simp at this; omega))
                  have LT_32 : Hid (∀ b ∈ [gt], b < wq.heap.size + 1) := Lib.hid (fun b hm => by have := (BD_19.out.lt kTx_ok b hm); first | exact this | omega | (simp at this; omega))
                  have BD_33 := Lib.hid (Bd.app HLN1.out kPr_ok ROW_28.out OWL_28.out NDU_28.out GE_28.out (show kPr.ow [] _ [.int .i64 qx, .int .i64 qy] (qx, qy) from ⟨[], [], [.int .i64 qx], [.int .i64 qy], rfl, rfl, ⟨rfl, rfl, hwx⟩, ⟨rfl, rfl, hwy⟩⟩) List.nodup_nil (fun b hb => absurd hb (by simp)) (fun b hb => absurd hb (by simp)) HONHG_29.out HG_29.out HATHG_29.out (by first | omega | (simp; done) | (simp; omega)))
                  have c_34 : w7.cell? ⟨B15, 0, none⟩ = some (.int .i64 qx) := (HG_29.out.cell_far ⟨B15, 0, none⟩ (World.block_lt_of_cell? _ _ c_14) (fun he => HDP.out _ (by simp) (BD_18.out.own_mem _ he.symm))).trans c_14
                  have c_35 : w7.cell? ⟨B15, 1, none⟩ = some (.int .i64 qy) := (HG_29.out.cell_far ⟨B15, 1, none⟩ (World.block_lt_of_cell? _ _ c_15) (fun he => HDP.out _ (by simp) (BD_18.out.own_mem _ he.symm))).trans c_15
                  have c_36 : w7.cell? ⟨gt, i, none⟩ = some (.string s) := (HG_29.out.cell_far ⟨gt, i, none⟩ (World.block_lt_of_cell? _ _ c_16) (fun he => HTP.out _ (by simp) (BD_18.out.own_mem _ he.symm))).trans c_16
                  have hz_37 : w.heap.size + 2 ≤ w7.heap.size := Nat.le_trans hz_17 hz_30
                  have BD_38 := Lib.hid (BD_19.out.grown kTx_ok HG_29.out (fun k hk hm => HPT.out k (BD_18.out.own_mem k hk) hm))
                  have ND_39 : Hid (∀ b ∈ (g7 :: (fps_28.flatten ++ [])), b ∉ [gt]) := Lib.hid (fun b hm hs => (app_in HATHG_29.out hm).elim (fun h => HPT.out b (FPE_28.out ▸ h) hs) (fun h => h.elim (fun h => by simp at h) (fun h => by have := LT_32.out b hs; first | omega | (simp at h; omega))))
                  have WR_40 := Lib.hid (Wrote.trans WR_20.out (Wrote.mono (Wrote.of_grown HG_29.out) (fun k _ hk => by simp only [Value.ownBlock, Option.some.injEq] at hk; subst hk; first | exact Or.inl rfl | exact Or.inr (Or.inl rfl))))
                  have c_41 : w7.cell? ⟨wq.heap.size, 0, none⟩ = some (.int .i64 qx) := (HG_29.out.cell_far ⟨wq.heap.size, 0, none⟩ (World.block_lt_of_cell? _ _ c_21) (fun he => ND_26.out _ (by simp) (BD_18.out.own_mem _ he.symm))).trans c_21
                  have z_42 : w7.frozen? ⟨wq.heap.size, 0, none⟩ = false := (HG_29.out.frozen_far ⟨wq.heap.size, 0, none⟩ (by first | omega | (simp; done) | (simp; omega)) (fun he => ND_26.out _ (by simp) (BD_18.out.own_mem _ he.symm))).trans z_22
                  have c_43 : w7.cell? ⟨wq.heap.size, 1, none⟩ = some (.int .i64 qy) := (HG_29.out.cell_far ⟨wq.heap.size, 1, none⟩ (World.block_lt_of_cell? _ _ c_23) (fun he => ND_26.out _ (by simp) (BD_18.out.own_mem _ he.symm))).trans c_23
                  have z_44 : w7.frozen? ⟨wq.heap.size, 1, none⟩ = false := (HG_29.out.frozen_far ⟨wq.heap.size, 1, none⟩ (by first | omega | (simp; done) | (simp; omega)) (fun he => ND_26.out _ (by simp) (BD_18.out.own_mem _ he.symm))).trans z_24
                  have hz_45 : wq.heap.size + 1 ≤ w7.heap.size := Nat.le_trans hz_25 hz_30
                  refine hK.out _ _ (Or.inr ?khHeld87) (fun hHeld87S => ?_)
                  case khHeld87 => exact ⟨c_34, c_35, c_36⟩
                  have hHeld87 := hHeld87S.held (by kernel_rfl)
                  clear hK K
                  try simp only [Act.put, List.setIfInBounds_toArray, List.set_cons_zero, List.set_cons_succ]
                  refine wpG_one (i := 12) (o := { dst := some 97, op := Go.Op.buildSlice 85 1 #[(0, Go.Operand.tmp 96)], type := 85, pos := "l12_machine.go:154", after := #[{ on := 11, ground := Go.Ground.data }], guard := none }) rfl (by kernel_rfl) (fun K hK => ?_)
                  go_simp
                  have LT_46 : Hid (∀ b ∈ (g7 :: (fps_28.flatten ++ [])), b < w7.heap.size) := Lib.hid (fun b hm => by have := (BD_33.out.lt kPr_ok b hm); first | exact this | omega | (simp at this; omega))
                  have LT_47 : Hid (∀ b ∈ [gt], b < w7.heap.size) := Lib.hid (fun b hm => by have := (BD_38.out.lt kTx_ok b hm); first | exact this | omega | (simp at this; omega))
                  have hb_48 : Below w7.heap.size w7 (w7.alloc (.cells #[.int .u8 (97 + (k : Int))] 5)) := (Below.refl _ _).alloc (Nat.le_refl _) _
                  have hz_49 : w7.heap.size ≤ w7.heap.size + 1 := by have := (hb_48).size; first | omega | (simp at this; omega)
                  have c_50 : (w7.alloc (.cells #[.int .u8 (97 + (k : Int))] 5)).cell? ⟨B15, 0, none⟩ = some (.int .i64 qx) := below_later hb_48 c_34; clear c_34
                  have c_51 : (w7.alloc (.cells #[.int .u8 (97 + (k : Int))] 5)).cell? ⟨B15, 1, none⟩ = some (.int .i64 qy) := below_later hb_48 c_35; clear c_35
                  have c_52 : (w7.alloc (.cells #[.int .u8 (97 + (k : Int))] 5)).cell? ⟨gt, i, none⟩ = some (.string s) := below_later hb_48 c_36; clear c_36
                  have hz_53 : w.heap.size + 2 ≤ w7.heap.size + 1 := Nat.le_trans hz_37 hz_49
                  have BD_54 := Lib.hid (BD_33.out.later kPr_ok hb_48)
                  have BD_55 := Lib.hid (BD_38.out.later kTx_ok hb_48)
                  have WR_56 := Lib.hid (Wrote.trans WR_40.out (Wrote.of_below hb_48))
                  clear hb_48
                  have c_57 : (w7.alloc (.cells #[.int .u8 (97 + (k : Int))] 5)).cell? ⟨w7.heap.size, 0, none⟩ = some (.int .u8 (97 + (k : Int))) := by go_simp
                  have z_58 : (w7.alloc (.cells #[.int .u8 (97 + (k : Int))] 5)).frozen? ⟨w7.heap.size, 0, none⟩ = false := by go_simp
                  have hz_59 : w7.heap.size < w7.heap.size + 1 := by omega
                  have ND_60 : Hid (∀ b ∈ [w7.heap.size], b ∉ (g7 :: (fps_28.flatten ++ []))) := Lib.hid (by intro b hb hm; simp only [List.mem_singleton] at hb; subst hb; have := (LT_46.out _ hm); first | omega | (simp at this; omega))
                  have ND_61 : Hid (∀ b ∈ [w7.heap.size], b ∉ [gt]) := Lib.hid (by intro b hb hm; simp only [List.mem_singleton] at hb; subst hb; have := (LT_47.out _ hm); first | omega | (simp at this; omega))
                  refine hK.out _ _ (Or.inr ?khHeld88) (fun hHeld88S => ?_)
                  case khHeld88 => exact ⟨c_50, c_51, c_52⟩
                  have hHeld88 := hHeld88S.held (by kernel_rfl)
                  clear hK K
                  try simp only [Act.put, List.setIfInBounds_toArray, List.set_cons_zero, List.set_cons_succ]
                  refine wpG_one (i := 13) (o := { dst := some 98, op := Go.Op.convert 85 9 (Go.Operand.tmp 97), type := 9, pos := "l12_machine.go:154", after := #[{ on := 12, ground := Go.Ground.data }], guard := none }) rfl (by kernel_rfl) (fun K hK => ?_)
                  have hcv := conv_at (w := (w7.alloc (.cells #[.int .u8 (97 + (k : Int))] 5))) (b := w7.heap.size) (n := 97 + (k : Int)) c_57
                  go_simp
                  refine hK.out _ _ (Or.inr ?khHeld89) (fun hHeld89S => ?_)
                  case khHeld89 => exact ⟨c_50, c_51, c_52⟩
                  have hHeld89 := hHeld89S.held (by kernel_rfl)
                  clear hK K
                  try simp only [Act.put, List.setIfInBounds_toArray, List.set_cons_zero, List.set_cons_succ]
                  refine wpG_pure (i := 14) (oi := { dst := some 99, op := Go.Op.binOp Go.BinOp.add 9 (Go.Operand.tmp 93) (Go.Operand.tmp 98) 9, type := 9, pos := "l12_machine.go:154", after := #[{ on := 8, ground := Go.Ground.data }, { on := 13, ground := Go.Ground.data }], guard := none }) (v := ?vg90) rfl (by kernel_rfl) (fun _ _ _ h => h) (Or.inr hHeld89) (Or.inl ⟨by rfl, ?yg90⟩) ?_
                  case yg90 => (intro wS _; go_simp <;> with_reducible rfl)
                  try simp only [Act.put, List.setIfInBounds_toArray, List.set_cons_zero, List.set_cons_succ]
                  refine wpG_one (i := 15) (o := { dst := some 100, op := Go.Op.buildSlice 87 1 #[(0, Go.Operand.tmp 99)], type := 87, pos := "l12_machine.go:154", after := #[{ on := 14, ground := Go.Ground.data }], guard := none }) rfl (by kernel_rfl) (fun K hK => ?_)
                  go_simp
                  have LT_62 : Hid (∀ b ∈ (g7 :: (fps_28.flatten ++ [])), b < w7.heap.size + 1) := Lib.hid (fun b hm => by have := (BD_54.out.lt kPr_ok b hm); first | exact this | omega | (simp at this; omega))
                  have LT_63 : Hid (∀ b ∈ [gt], b < w7.heap.size + 1) := Lib.hid (fun b hm => by have := (BD_55.out.lt kTx_ok b hm); first | exact this | omega | (simp at this; omega))
                  have hb_64 : Below (w7.alloc (.cells #[.int .u8 (97 + (k : Int))] 5)).heap.size (w7.alloc (.cells #[.int .u8 (97 + (k : Int))] 5)) ((w7.alloc (.cells #[.int .u8 (97 + (k : Int))] 5)).alloc (.cells #[.string (s ++ dig1 (97 + (k : Int)))] 9)) := (Below.refl _ _).alloc (Nat.le_refl _) _
                  have hz_65 : w7.heap.size + 1 ≤ w7.heap.size + 1 + 1 := by have := (hb_64).size; first | omega | (simp at this; omega)
                  have c_66 : ((w7.alloc (.cells #[.int .u8 (97 + (k : Int))] 5)).alloc (.cells #[.string (s ++ dig1 (97 + (k : Int)))] 9)).cell? ⟨B15, 0, none⟩ = some (.int .i64 qx) := below_later hb_64 c_50; clear c_50
                  have c_67 : ((w7.alloc (.cells #[.int .u8 (97 + (k : Int))] 5)).alloc (.cells #[.string (s ++ dig1 (97 + (k : Int)))] 9)).cell? ⟨B15, 1, none⟩ = some (.int .i64 qy) := below_later hb_64 c_51; clear c_51
                  have c_68 : ((w7.alloc (.cells #[.int .u8 (97 + (k : Int))] 5)).alloc (.cells #[.string (s ++ dig1 (97 + (k : Int)))] 9)).cell? ⟨gt, i, none⟩ = some (.string s) := below_later hb_64 c_52; clear c_52
                  have hz_69 : w.heap.size + 2 ≤ w7.heap.size + 1 + 1 := Nat.le_trans hz_53 hz_65
                  have BD_70 := Lib.hid (BD_54.out.later kPr_ok hb_64)
                  have BD_71 := Lib.hid (BD_55.out.later kTx_ok hb_64)
                  have WR_72 := Lib.hid (Wrote.trans WR_56.out (Wrote.of_below hb_64))
                  clear hb_64
                  have c_73 : ((w7.alloc (.cells #[.int .u8 (97 + (k : Int))] 5)).alloc (.cells #[.string (s ++ dig1 (97 + (k : Int)))] 9)).cell? ⟨w7.heap.size + 1, 0, none⟩ = some (.string (s ++ dig1 (97 + (k : Int)))) := by go_simp
                  have z_74 : ((w7.alloc (.cells #[.int .u8 (97 + (k : Int))] 5)).alloc (.cells #[.string (s ++ dig1 (97 + (k : Int)))] 9)).frozen? ⟨w7.heap.size + 1, 0, none⟩ = false := by go_simp
                  have hz_75 : w7.heap.size + 1 < w7.heap.size + 1 + 1 := by omega
                  have ND_76 : Hid (∀ b ∈ [w7.heap.size + 1], b ∉ (g7 :: (fps_28.flatten ++ []))) := Lib.hid (by intro b hb hm; simp only [List.mem_singleton] at hb; subst hb; have := (LT_62.out _ hm); first | omega | (simp at this; omega))
                  have ND_77 : Hid (∀ b ∈ [w7.heap.size + 1], b ∉ [gt]) := Lib.hid (by intro b hb hm; simp only [List.mem_singleton] at hb; subst hb; have := (LT_63.out _ hm); first | omega | (simp at this; omega))
                  refine hK.out _ _ (Or.inr ?khHeld91) (fun hHeld91S => ?_)
                  case khHeld91 => exact ⟨c_66, c_67, c_68⟩
                  have hHeld91 := hHeld91S.held (by kernel_rfl)
                  clear hK K
                  try simp only [Act.put, List.setIfInBounds_toArray, List.set_cons_zero, List.set_cons_succ]
                  refine wpG_one (i := 16) (o := { dst := some 101, op := Go.Op.call { callee := Go.Callee.builtin Go.Builtin.append, args := #[Go.Operand.tmp 89, Go.Operand.tmp 100], argTypes := #[87, 87] }, type := 87, pos := "l12_machine.go:154", after := #[{ on := 4, ground := Go.Ground.data }, { on := 15, ground := Go.Ground.data }, { on := 3, ground := Go.Ground.chain }], guard := none }) rfl (by kernel_rfl) (fun K hK => ?_)
                  obtain ⟨vss_78, fps_78, hrow, howl, hfp, hnd, hge⟩ := BD_71.out
                  rw [HLN2.out] at hrow
                  have ROW_78 := Lib.hid hrow; have OWL_78 := Lib.hid howl; have NDU_78 := Lib.hid (hfp ▸ hnd); have GE_78 := Lib.hid (fun b hb => hge b (hfp ▸ hb)); have FPE_78 := Lib.hid hfp; clear hrow howl hnd hge hfp
                  refine step_append_keeps rfl (.tmp 89) (.tmp 100) 87 rfl (w.heap.size + 2) 9 i2 (.string ByteArray.empty) 1 16 Try.underlying87 hi2 hx0 hx1 hx2 rfl (by decide) gt L.length ct vss_78.flatten rfl ROW_78.out ⟨w7.heap.size + 1, 0, none⟩ 1 1 [.string (s ++ dig1 (97 + (k : Int)))] rfl (by rfl) (news_at c_73) (by simp [Value.oneCell']) (by omega) (by unfold maxLen; omega) (by omega) (by first | omega | (simp; omega)) _ rfl ?_
                  intro g8 cp8 w8 hown hgrow hat hlt4 hkeep
                  have HKTg8 := Lib.hid (hkeep i (.string s) (tx_at OWL_78.out hpi))
                  clear hkeep
                  have HG_79 := Lib.hid hgrow; have HATHG_79 := Lib.hid hat; have HONHG_79 := Lib.hid hown
                  clear hgrow hat hown
                  have hz_80 : w7.heap.size + 1 + 1 ≤ w8.heap.size := by have := HG_79.out.size; first | omega | (simp at this; omega)
                  have LT_81 : Hid (∀ b ∈ (g7 :: (fps_28.flatten ++ [])), b < w7.heap.size + 1 + 1) := Lib.hid (fun b hm => by have := (BD_70.out.lt kPr_ok b hm); first | exact this | omega | (simp at this; omega))
                  have LT_82 : Hid (∀ b ∈ [gt], b < w7.heap.size + 1 + 1) := Lib.hid (fun b hm => by have := (BD_71.out.lt kTx_ok b hm); first | exact this | omega | (simp at this; omega))
                  have BD_83 := Lib.hid (Bd.app HLN2.out kTx_ok ROW_78.out OWL_78.out NDU_78.out GE_78.out (show kTx.ow [] _ [.string (s ++ dig1 (97 + (k : Int)))] (s ++ dig1 (97 + (k : Int))) from ⟨rfl, rfl, hwt⟩) List.nodup_nil (fun b hb => absurd hb (by simp)) (fun b hb => absurd hb (by simp)) HONHG_79.out HG_79.out HATHG_79.out (by first | omega | (simp; done) | (simp; omega)))
                  have c_84 : w8.cell? ⟨B15, 0, none⟩ = some (.int .i64 qx) := (HG_79.out.cell_far ⟨B15, 0, none⟩ (World.block_lt_of_cell? _ _ c_66) (fun he => HDT.out _ (by simp) (BD_71.out.own_mem _ he.symm))).trans c_66
                  have c_85 : w8.cell? ⟨B15, 1, none⟩ = some (.int .i64 qy) := (HG_79.out.cell_far ⟨B15, 1, none⟩ (World.block_lt_of_cell? _ _ c_67) (fun he => HDT.out _ (by simp) (BD_71.out.own_mem _ he.symm))).trans c_67
                  have hz_86 : w.heap.size + 2 ≤ w8.heap.size := Nat.le_trans hz_69 hz_80
                  have BD_87 := Lib.hid (BD_70.out.grown kPr_ok HG_79.out (fun k hk hm => (fun x hx hy => ND_39.out x hy hx) k (BD_71.out.own_mem k hk) hm))
                  have ND_88 : Hid (∀ b ∈ (g8 :: (fps_78.flatten ++ [])), b ∉ (g7 :: (fps_28.flatten ++ []))) := Lib.hid (fun b hm hs => (app_in HATHG_79.out hm).elim (fun h => (fun x hx hy => ND_39.out x hy hx) b (FPE_78.out ▸ h) hs) (fun h => h.elim (fun h => by simp at h) (fun h => by have := LT_81.out b hs; first | omega | (simp at h; omega))))
                  have WR_89 := Lib.hid (Wrote.trans WR_72.out (Wrote.mono (Wrote.of_grown HG_79.out) (fun k _ hk => by simp only [Value.ownBlock, Option.some.injEq] at hk; subst hk; first | exact Or.inl rfl | exact Or.inr (Or.inl rfl))))
                  have c_90 : w8.cell? ⟨w7.heap.size + 1, 0, none⟩ = some (.string (s ++ dig1 (97 + (k : Int)))) := (HG_79.out.cell_far ⟨w7.heap.size + 1, 0, none⟩ (World.block_lt_of_cell? _ _ c_73) (fun he => ND_77.out _ (by simp) (BD_71.out.own_mem _ he.symm))).trans c_73
                  have z_91 : w8.frozen? ⟨w7.heap.size + 1, 0, none⟩ = false := (HG_79.out.frozen_far ⟨w7.heap.size + 1, 0, none⟩ (by first | omega | (simp; done) | (simp; omega)) (fun he => ND_77.out _ (by simp) (BD_71.out.own_mem _ he.symm))).trans z_74
                  have hz_92 : w7.heap.size + 1 + 1 ≤ w8.heap.size := Nat.le_trans hz_75 hz_80
                  have htxg8 : w8.cell? ⟨gt, i, none⟩ = some (.string s) := HKTg8.out
                  refine hK.out _ _ (Or.inl (by kernel_rfl)) (fun _ => ?_)
                  clear hK K
                  try simp only [Act.put, List.setIfInBounds_toArray, List.set_cons_zero, List.set_cons_succ]
                  refine wpG_pure (i := 17) (oi := { dst := some 9, op := Go.Op.assign (Go.Operand.tmp 88), type := 67, pos := "l12_machine.go:154", after := #[{ on := 3, ground := Go.Ground.data }, { on := 16, ground := Go.Ground.chain }, { on := 0, ground := Go.Ground.phase }, { on := 1, ground := Go.Ground.phase }, { on := 2, ground := Go.Ground.phase }, { on := 3, ground := Go.Ground.phase }, { on := 4, ground := Go.Ground.textOnly Go.Departure.lateStores }, { on := 5, ground := Go.Ground.textOnly Go.Departure.lateStores }, { on := 6, ground := Go.Ground.textOnly Go.Departure.lateStores }, { on := 7, ground := Go.Ground.textOnly Go.Departure.lateStores }, { on := 8, ground := Go.Ground.textOnly Go.Departure.lateStores }, { on := 9, ground := Go.Ground.textOnly Go.Departure.lateStores }, { on := 10, ground := Go.Ground.textOnly Go.Departure.lateStores }, { on := 11, ground := Go.Ground.textOnly Go.Departure.lateStores }, { on := 12, ground := Go.Ground.textOnly Go.Departure.lateStores }, { on := 13, ground := Go.Ground.textOnly Go.Departure.lateStores }, { on := 14, ground := Go.Ground.textOnly Go.Departure.lateStores }, { on := 15, ground := Go.Ground.textOnly Go.Departure.lateStores }, { on := 16, ground := Go.Ground.textOnly Go.Departure.lateStoresUnsure }], guard := none }) (v := ?vg93) rfl (by kernel_rfl) (fun _ _ _ h => h) (Or.inl (by kernel_rfl)) (Or.inl ⟨by rfl, ?yg93⟩) ?_
                  case yg93 => (intro wS _; go_simp <;> with_reducible rfl)
                  try simp only [Act.put, List.setIfInBounds_toArray, List.set_cons_zero, List.set_cons_succ]
                  refine wpG_pure (i := 18) (oi := { dst := some 10, op := Go.Op.assign (Go.Operand.tmp 101), type := 87, pos := "l12_machine.go:154", after := #[{ on := 16, ground := Go.Ground.data }, { on := 17, ground := Go.Ground.chain }, { on := 0, ground := Go.Ground.phase }, { on := 1, ground := Go.Ground.phase }, { on := 2, ground := Go.Ground.phase }, { on := 3, ground := Go.Ground.phase }, { on := 4, ground := Go.Ground.phase }, { on := 5, ground := Go.Ground.phase }, { on := 6, ground := Go.Ground.phase }, { on := 7, ground := Go.Ground.phase }, { on := 8, ground := Go.Ground.phase }, { on := 9, ground := Go.Ground.phase }, { on := 10, ground := Go.Ground.phase }, { on := 11, ground := Go.Ground.phase }, { on := 12, ground := Go.Ground.phase }, { on := 13, ground := Go.Ground.phase }, { on := 14, ground := Go.Ground.phase }, { on := 15, ground := Go.Ground.phase }, { on := 16, ground := Go.Ground.phase }, { on := 17, ground := Go.Ground.phase }], guard := none }) (v := ?vg94) rfl (by kernel_rfl) (fun _ _ _ h => h) (Or.inl (by kernel_rfl)) (Or.inl ⟨by rfl, ?yg94⟩) ?_
                  case yg94 => (intro wS _; go_simp <;> with_reducible rfl)
                  try simp only [Act.put, List.setIfInBounds_toArray, List.set_cons_zero, List.set_cons_succ]
                  refine wpG_done (by kernel_rfl) ?_
                  go_wp2_with fail
                  go_meet
                  have hb1 := BD_87.out; have hb2 := BD_83.out
                  rw [bd_pr_fp hb1] at hb1; rw [bd_tx_fp hb2] at hb2
                  exact ⟨g7, cp7, g8, cp8, rfl, rfl, by rw [List.map_append]; exact hb1, by rw [List.map_append]; exact hb2, WR_89.out⟩
                · skip
                  go_simp
                  have LT_93 : Hid (∀ b ∈ [gp], b < wq.heap.size + 1) := Lib.hid (fun b hm => by have := (BD_18.out.lt kPr_ok b hm); first | exact this | omega | (simp at this; omega))
                  have LT_94 : Hid (∀ b ∈ [gt], b < wq.heap.size + 1) := Lib.hid (fun b hm => by have := (BD_19.out.lt kTx_ok b hm); first | exact this | omega | (simp at this; omega))
                  have hb_95 : Below (wq.alloc (.cells #[.int .i64 qx, .int .i64 qy] 71)).drew.heap.size (wq.alloc (.cells #[.int .i64 qx, .int .i64 qy] 71)).drew ((wq.alloc (.cells #[.int .i64 qx, .int .i64 qy] 71)).alloc (.cells #[.int .u8 (97 + (k : Int))] 5)).drew := below_alloc_drew _ _
                  have hz_96 : wq.heap.size + 1 ≤ wq.heap.size + 1 + 1 := by have := (hb_95).size; first | omega | (simp at this; omega)
                  have c_97 : ((wq.alloc (.cells #[.int .i64 qx, .int .i64 qy] 71)).alloc (.cells #[.int .u8 (97 + (k : Int))] 5)).drew.cell? ⟨B15, 0, none⟩ = some (.int .i64 qx) := below_later hb_95 c_14; clear c_14
                  have c_98 : ((wq.alloc (.cells #[.int .i64 qx, .int .i64 qy] 71)).alloc (.cells #[.int .u8 (97 + (k : Int))] 5)).drew.cell? ⟨B15, 1, none⟩ = some (.int .i64 qy) := below_later hb_95 c_15; clear c_15
                  have c_99 : ((wq.alloc (.cells #[.int .i64 qx, .int .i64 qy] 71)).alloc (.cells #[.int .u8 (97 + (k : Int))] 5)).drew.cell? ⟨gt, i, none⟩ = some (.string s) := below_later hb_95 c_16; clear c_16
                  have hz_100 : w.heap.size + 2 ≤ wq.heap.size + 1 + 1 := Nat.le_trans hz_17 hz_96
                  have BD_101 := Lib.hid (BD_18.out.later kPr_ok hb_95)
                  have BD_102 := Lib.hid (BD_19.out.later kTx_ok hb_95)
                  have WR_103 := Lib.hid (Wrote.trans WR_20.out (Wrote.of_below hb_95))
                  have c_104 : ((wq.alloc (.cells #[.int .i64 qx, .int .i64 qy] 71)).alloc (.cells #[.int .u8 (97 + (k : Int))] 5)).drew.cell? ⟨wq.heap.size, 0, none⟩ = some (.int .i64 qx) := below_later hb_95 c_21; clear c_21
                  have z_105 : ((wq.alloc (.cells #[.int .i64 qx, .int .i64 qy] 71)).alloc (.cells #[.int .u8 (97 + (k : Int))] 5)).drew.frozen? ⟨wq.heap.size, 0, none⟩ = false := (Below.frozen hb_95 (p := ⟨wq.heap.size, 0, none⟩) (by show wq.heap.size < _; first | omega | (simp; done) | (simp; omega))).trans z_22
                  have c_106 : ((wq.alloc (.cells #[.int .i64 qx, .int .i64 qy] 71)).alloc (.cells #[.int .u8 (97 + (k : Int))] 5)).drew.cell? ⟨wq.heap.size, 1, none⟩ = some (.int .i64 qy) := below_later hb_95 c_23; clear c_23
                  have z_107 : ((wq.alloc (.cells #[.int .i64 qx, .int .i64 qy] 71)).alloc (.cells #[.int .u8 (97 + (k : Int))] 5)).drew.frozen? ⟨wq.heap.size, 1, none⟩ = false := (Below.frozen hb_95 (p := ⟨wq.heap.size, 1, none⟩) (by show wq.heap.size < _; first | omega | (simp; done) | (simp; omega))).trans z_24
                  have hz_108 : wq.heap.size + 1 ≤ wq.heap.size + 1 + 1 := Nat.le_trans hz_25 hz_96
                  clear hb_95
                  have c_109 : ((wq.alloc (.cells #[.int .i64 qx, .int .i64 qy] 71)).alloc (.cells #[.int .u8 (97 + (k : Int))] 5)).drew.cell? ⟨wq.heap.size + 1, 0, none⟩ = some (.int .u8 (97 + (k : Int))) := by go_simp
                  have z_110 : ((wq.alloc (.cells #[.int .i64 qx, .int .i64 qy] 71)).alloc (.cells #[.int .u8 (97 + (k : Int))] 5)).drew.frozen? ⟨wq.heap.size + 1, 0, none⟩ = false := by go_simp
                  have hz_111 : wq.heap.size + 1 < wq.heap.size + 1 + 1 := by omega
                  have ND_112 : Hid (∀ b ∈ [wq.heap.size + 1], b ∉ [gp]) := Lib.hid (by intro b hb hm; simp only [List.mem_singleton] at hb; subst hb; have := (LT_93.out _ hm); first | omega | (simp at this; omega))
                  have ND_113 : Hid (∀ b ∈ [wq.heap.size + 1], b ∉ [gt]) := Lib.hid (by intro b hb hm; simp only [List.mem_singleton] at hb; subst hb; have := (LT_94.out _ hm); first | omega | (simp at this; omega))
                  refine hK.out _ _ (Or.inr ?khHeld95) (fun hHeld95S => ?_)
                  case khHeld95 => exact ⟨c_97, c_98, c_99⟩
                  have hHeld95 := hHeld95S.held (by kernel_rfl)
                  clear hK K
                  try simp only [Act.put, List.setIfInBounds_toArray, List.set_cons_zero, List.set_cons_succ]
                  refine wpG_two (i := 3) (j := 13) (o := { dst := some 88, op := Go.Op.call { callee := Go.Callee.builtin Go.Builtin.append, args := #[Go.Operand.tmp 85, Go.Operand.tmp 87], argTypes := #[67, 67] }, type := 67, pos := "l12_machine.go:154", after := #[{ on := 0, ground := Go.Ground.data }, { on := 2, ground := Go.Ground.data }], guard := none }) (o' := { dst := some 98, op := Go.Op.convert 85 9 (Go.Operand.tmp 97), type := 9, pos := "l12_machine.go:154", after := #[{ on := 12, ground := Go.Ground.data }], guard := none }) rfl rfl (by kernel_rfl) (fun K hK => ?_) (fun K hK => ?_)
                  · skip
                    have HNB := Lib.hid (news_two c_104 c_106)
                    obtain ⟨vss_114, fps_114, hrow, howl, hfp, hnd, hge⟩ := BD_101.out
                    rw [HLN1.out] at hrow
                    have ROW_114 := Lib.hid hrow; have OWL_114 := Lib.hid howl; have NDU_114 := Lib.hid (hfp ▸ hnd); have GE_114 := Lib.hid (fun b hb => hge b (hfp ▸ hb)); have FPE_114 := Lib.hid hfp; clear hrow howl hnd hge hfp
                    refine step_append_keeps rfl (.tmp 85) (.tmp 87) 67 rfl (w.heap.size + 2) 71 i1 (.agg #[.int .i64 0, .int .i64 0]) 2 16 Try.underlying67 hi1 hy0 hy1 hy2 rfl (by decide) gp L.length cp vss_114.flatten rfl ROW_114.out ⟨wq.heap.size, 0, none⟩ 1 1 [.int .i64 qx, .int .i64 qy] rfl (by rfl) HNB.out (by simp [Value.oneCell']) (by omega) (by unfold maxLen; omega) (by omega) (by first | omega | (simp; omega)) _ rfl ?_
                    intro g7 cp7 w7 hown hgrow hat hlt4 hkeep
                    clear hkeep
                    have HG_115 := Lib.hid hgrow; have HATHG_115 := Lib.hid hat; have HONHG_115 := Lib.hid hown
                    clear hgrow hat hown
                    have hz_116 : wq.heap.size + 1 + 1 ≤ w7.heap.size := by have := HG_115.out.size; first | omega | (simp at this; omega)
                    have LT_117 : Hid (∀ b ∈ [gp], b < wq.heap.size + 1 + 1) := Lib.hid (fun b hm => by have := (BD_101.out.lt kPr_ok b hm); first | exact this | omega | (simp at this; omega))
                    have LT_118 : Hid (∀ b ∈ [gt], b < wq.heap.size + 1 + 1) := Lib.hid (fun b hm => by have := (BD_102.out.lt kTx_ok b hm); first | exact this | omega | (simp at this; omega))
                    have BD_119 := Lib.hid (Bd.app HLN1.out kPr_ok ROW_114.out OWL_114.out NDU_114.out GE_114.out (show kPr.ow [] _ [.int .i64 qx, .int .i64 qy] (qx, qy) from ⟨[], [], [.int .i64 qx], [.int .i64 qy], rfl, rfl, ⟨rfl, rfl, hwx⟩, ⟨rfl, rfl, hwy⟩⟩) List.nodup_nil (fun b hb => absurd hb (by simp)) (fun b hb => absurd hb (by simp)) HONHG_115.out HG_115.out HATHG_115.out (by first | omega | (simp; done) | (simp; omega)))
                    have c_120 : w7.cell? ⟨B15, 0, none⟩ = some (.int .i64 qx) := (HG_115.out.cell_far ⟨B15, 0, none⟩ (World.block_lt_of_cell? _ _ c_97) (fun he => HDP.out _ (by simp) (BD_101.out.own_mem _ he.symm))).trans c_97
                    have c_121 : w7.cell? ⟨B15, 1, none⟩ = some (.int .i64 qy) := (HG_115.out.cell_far ⟨B15, 1, none⟩ (World.block_lt_of_cell? _ _ c_98) (fun he => HDP.out _ (by simp) (BD_101.out.own_mem _ he.symm))).trans c_98
                    have c_122 : w7.cell? ⟨gt, i, none⟩ = some (.string s) := (HG_115.out.cell_far ⟨gt, i, none⟩ (World.block_lt_of_cell? _ _ c_99) (fun he => HTP.out _ (by simp) (BD_101.out.own_mem _ he.symm))).trans c_99
                    have hz_123 : w.heap.size + 2 ≤ w7.heap.size := Nat.le_trans hz_100 hz_116
                    have BD_124 := Lib.hid (BD_102.out.grown kTx_ok HG_115.out (fun k hk hm => HPT.out k (BD_101.out.own_mem k hk) hm))
                    have ND_125 : Hid (∀ b ∈ (g7 :: (fps_114.flatten ++ [])), b ∉ [gt]) := Lib.hid (fun b hm hs => (app_in HATHG_115.out hm).elim (fun h => HPT.out b (FPE_114.out ▸ h) hs) (fun h => h.elim (fun h => by simp at h) (fun h => by have := LT_118.out b hs; first | omega | (simp at h; omega))))
                    have WR_126 := Lib.hid (Wrote.trans WR_103.out (Wrote.mono (Wrote.of_grown HG_115.out) (fun k _ hk => by simp only [Value.ownBlock, Option.some.injEq] at hk; subst hk; first | exact Or.inl rfl | exact Or.inr (Or.inl rfl))))
                    have c_127 : w7.cell? ⟨wq.heap.size, 0, none⟩ = some (.int .i64 qx) := (HG_115.out.cell_far ⟨wq.heap.size, 0, none⟩ (World.block_lt_of_cell? _ _ c_104) (fun he => ND_26.out _ (by simp) (BD_101.out.own_mem _ he.symm))).trans c_104
                    have z_128 : w7.frozen? ⟨wq.heap.size, 0, none⟩ = false := (HG_115.out.frozen_far ⟨wq.heap.size, 0, none⟩ (by first | omega | (simp; done) | (simp; omega)) (fun he => ND_26.out _ (by simp) (BD_101.out.own_mem _ he.symm))).trans z_105
                    have c_129 : w7.cell? ⟨wq.heap.size, 1, none⟩ = some (.int .i64 qy) := (HG_115.out.cell_far ⟨wq.heap.size, 1, none⟩ (World.block_lt_of_cell? _ _ c_106) (fun he => ND_26.out _ (by simp) (BD_101.out.own_mem _ he.symm))).trans c_106
                    have z_130 : w7.frozen? ⟨wq.heap.size, 1, none⟩ = false := (HG_115.out.frozen_far ⟨wq.heap.size, 1, none⟩ (by first | omega | (simp; done) | (simp; omega)) (fun he => ND_26.out _ (by simp) (BD_101.out.own_mem _ he.symm))).trans z_107
                    have hz_131 : wq.heap.size + 1 ≤ w7.heap.size := Nat.le_trans hz_108 hz_116
                    have c_132 : w7.cell? ⟨wq.heap.size + 1, 0, none⟩ = some (.int .u8 (97 + (k : Int))) := (HG_115.out.cell_far ⟨wq.heap.size + 1, 0, none⟩ (World.block_lt_of_cell? _ _ c_109) (fun he => ND_112.out _ (by simp) (BD_101.out.own_mem _ he.symm))).trans c_109
                    have z_133 : w7.frozen? ⟨wq.heap.size + 1, 0, none⟩ = false := (HG_115.out.frozen_far ⟨wq.heap.size + 1, 0, none⟩ (by first | omega | (simp; done) | (simp; omega)) (fun he => ND_112.out _ (by simp) (BD_101.out.own_mem _ he.symm))).trans z_110
                    have hz_134 : wq.heap.size + 1 + 1 ≤ w7.heap.size := Nat.le_trans hz_111 hz_116
                    refine hK.out _ _ (Or.inr ?khHeld96) (fun hHeld96S => ?_)
                    case khHeld96 => exact ⟨c_120, c_121, c_122⟩
                    have hHeld96 := hHeld96S.held (by kernel_rfl)
                    clear hK K
                    try simp only [Act.put, List.setIfInBounds_toArray, List.set_cons_zero, List.set_cons_succ]
                    refine wpG_one (i := 13) (o := { dst := some 98, op := Go.Op.convert 85 9 (Go.Operand.tmp 97), type := 9, pos := "l12_machine.go:154", after := #[{ on := 12, ground := Go.Ground.data }], guard := none }) rfl (by kernel_rfl) (fun K hK => ?_)
                    have hcv := conv_at (w := w7) (b := wq.heap.size + 1) (n := 97 + (k : Int)) c_132
                    go_simp
                    refine hK.out _ _ (Or.inr ?khHeld97) (fun hHeld97S => ?_)
                    case khHeld97 => exact ⟨c_120, c_121, c_122⟩
                    have hHeld97 := hHeld97S.held (by kernel_rfl)
                    clear hK K
                    try simp only [Act.put, List.setIfInBounds_toArray, List.set_cons_zero, List.set_cons_succ]
                    refine wpG_pure (i := 14) (oi := { dst := some 99, op := Go.Op.binOp Go.BinOp.add 9 (Go.Operand.tmp 93) (Go.Operand.tmp 98) 9, type := 9, pos := "l12_machine.go:154", after := #[{ on := 8, ground := Go.Ground.data }, { on := 13, ground := Go.Ground.data }], guard := none }) (v := ?vg98) rfl (by kernel_rfl) (fun _ _ _ h => h) (Or.inr hHeld97) (Or.inl ⟨by rfl, ?yg98⟩) ?_
                    case yg98 => (intro wS _; go_simp <;> with_reducible rfl)
                    try simp only [Act.put, List.setIfInBounds_toArray, List.set_cons_zero, List.set_cons_succ]
                    refine wpG_one (i := 15) (o := { dst := some 100, op := Go.Op.buildSlice 87 1 #[(0, Go.Operand.tmp 99)], type := 87, pos := "l12_machine.go:154", after := #[{ on := 14, ground := Go.Ground.data }], guard := none }) rfl (by kernel_rfl) (fun K hK => ?_)
                    go_simp
                    have LT_135 : Hid (∀ b ∈ (g7 :: (fps_114.flatten ++ [])), b < w7.heap.size) := Lib.hid (fun b hm => by have := (BD_119.out.lt kPr_ok b hm); first | exact this | omega | (simp at this; omega))
                    have LT_136 : Hid (∀ b ∈ [gt], b < w7.heap.size) := Lib.hid (fun b hm => by have := (BD_124.out.lt kTx_ok b hm); first | exact this | omega | (simp at this; omega))
                    have hb_137 : Below w7.heap.size w7 (w7.alloc (.cells #[.string (s ++ dig1 (97 + (k : Int)))] 9)) := (Below.refl _ _).alloc (Nat.le_refl _) _
                    have hz_138 : w7.heap.size ≤ w7.heap.size + 1 := by have := (hb_137).size; first | omega | (simp at this; omega)
                    have c_139 : (w7.alloc (.cells #[.string (s ++ dig1 (97 + (k : Int)))] 9)).cell? ⟨B15, 0, none⟩ = some (.int .i64 qx) := below_later hb_137 c_120; clear c_120
                    have c_140 : (w7.alloc (.cells #[.string (s ++ dig1 (97 + (k : Int)))] 9)).cell? ⟨B15, 1, none⟩ = some (.int .i64 qy) := below_later hb_137 c_121; clear c_121
                    have c_141 : (w7.alloc (.cells #[.string (s ++ dig1 (97 + (k : Int)))] 9)).cell? ⟨gt, i, none⟩ = some (.string s) := below_later hb_137 c_122; clear c_122
                    have hz_142 : w.heap.size + 2 ≤ w7.heap.size + 1 := Nat.le_trans hz_123 hz_138
                    have BD_143 := Lib.hid (BD_119.out.later kPr_ok hb_137)
                    have BD_144 := Lib.hid (BD_124.out.later kTx_ok hb_137)
                    have WR_145 := Lib.hid (Wrote.trans WR_126.out (Wrote.of_below hb_137))
                    clear hb_137
                    have c_146 : (w7.alloc (.cells #[.string (s ++ dig1 (97 + (k : Int)))] 9)).cell? ⟨w7.heap.size, 0, none⟩ = some (.string (s ++ dig1 (97 + (k : Int)))) := by go_simp
                    have z_147 : (w7.alloc (.cells #[.string (s ++ dig1 (97 + (k : Int)))] 9)).frozen? ⟨w7.heap.size, 0, none⟩ = false := by go_simp
                    have hz_148 : w7.heap.size < w7.heap.size + 1 := by omega
                    have ND_149 : Hid (∀ b ∈ [w7.heap.size], b ∉ (g7 :: (fps_114.flatten ++ []))) := Lib.hid (by intro b hb hm; simp only [List.mem_singleton] at hb; subst hb; have := (LT_135.out _ hm); first | omega | (simp at this; omega))
                    have ND_150 : Hid (∀ b ∈ [w7.heap.size], b ∉ [gt]) := Lib.hid (by intro b hb hm; simp only [List.mem_singleton] at hb; subst hb; have := (LT_136.out _ hm); first | omega | (simp at this; omega))
                    refine hK.out _ _ (Or.inr ?khHeld99) (fun hHeld99S => ?_)
                    case khHeld99 => exact ⟨c_139, c_140, c_141⟩
                    have hHeld99 := hHeld99S.held (by kernel_rfl)
                    clear hK K
                    try simp only [Act.put, List.setIfInBounds_toArray, List.set_cons_zero, List.set_cons_succ]
                    refine wpG_one (i := 16) (o := { dst := some 101, op := Go.Op.call { callee := Go.Callee.builtin Go.Builtin.append, args := #[Go.Operand.tmp 89, Go.Operand.tmp 100], argTypes := #[87, 87] }, type := 87, pos := "l12_machine.go:154", after := #[{ on := 4, ground := Go.Ground.data }, { on := 15, ground := Go.Ground.data }, { on := 3, ground := Go.Ground.chain }], guard := none }) rfl (by kernel_rfl) (fun K hK => ?_)
                    obtain ⟨vss_151, fps_151, hrow, howl, hfp, hnd, hge⟩ := BD_144.out
                    rw [HLN2.out] at hrow
                    have ROW_151 := Lib.hid hrow; have OWL_151 := Lib.hid howl; have NDU_151 := Lib.hid (hfp ▸ hnd); have GE_151 := Lib.hid (fun b hb => hge b (hfp ▸ hb)); have FPE_151 := Lib.hid hfp; clear hrow howl hnd hge hfp
                    refine step_append_keeps rfl (.tmp 89) (.tmp 100) 87 rfl (w.heap.size + 2) 9 i2 (.string ByteArray.empty) 1 16 Try.underlying87 hi2 hx0 hx1 hx2 rfl (by decide) gt L.length ct vss_151.flatten rfl ROW_151.out ⟨w7.heap.size, 0, none⟩ 1 1 [.string (s ++ dig1 (97 + (k : Int)))] rfl (by rfl) (news_at c_146) (by simp [Value.oneCell']) (by omega) (by unfold maxLen; omega) (by omega) (by first | omega | (simp; omega)) _ rfl ?_
                    intro g8 cp8 w8 hown hgrow hat hlt4 hkeep
                    have HKTg8 := Lib.hid (hkeep i (.string s) (tx_at OWL_151.out hpi))
                    clear hkeep
                    have HG_152 := Lib.hid hgrow; have HATHG_152 := Lib.hid hat; have HONHG_152 := Lib.hid hown
                    clear hgrow hat hown
                    have hz_153 : w7.heap.size + 1 ≤ w8.heap.size := by have := HG_152.out.size; first | omega | (simp at this; omega)
                    have LT_154 : Hid (∀ b ∈ (g7 :: (fps_114.flatten ++ [])), b < w7.heap.size + 1) := Lib.hid (fun b hm => by have := (BD_143.out.lt kPr_ok b hm); first | exact this | omega | (simp at this; omega))
                    have LT_155 : Hid (∀ b ∈ [gt], b < w7.heap.size + 1) := Lib.hid (fun b hm => by have := (BD_144.out.lt kTx_ok b hm); first | exact this | omega | (simp at this; omega))
                    have BD_156 := Lib.hid (Bd.app HLN2.out kTx_ok ROW_151.out OWL_151.out NDU_151.out GE_151.out (show kTx.ow [] _ [.string (s ++ dig1 (97 + (k : Int)))] (s ++ dig1 (97 + (k : Int))) from ⟨rfl, rfl, hwt⟩) List.nodup_nil (fun b hb => absurd hb (by simp)) (fun b hb => absurd hb (by simp)) HONHG_152.out HG_152.out HATHG_152.out (by first | omega | (simp; done) | (simp; omega)))
                    have c_157 : w8.cell? ⟨B15, 0, none⟩ = some (.int .i64 qx) := (HG_152.out.cell_far ⟨B15, 0, none⟩ (World.block_lt_of_cell? _ _ c_139) (fun he => HDT.out _ (by simp) (BD_144.out.own_mem _ he.symm))).trans c_139
                    have c_158 : w8.cell? ⟨B15, 1, none⟩ = some (.int .i64 qy) := (HG_152.out.cell_far ⟨B15, 1, none⟩ (World.block_lt_of_cell? _ _ c_140) (fun he => HDT.out _ (by simp) (BD_144.out.own_mem _ he.symm))).trans c_140
                    have hz_159 : w.heap.size + 2 ≤ w8.heap.size := Nat.le_trans hz_142 hz_153
                    have BD_160 := Lib.hid (BD_143.out.grown kPr_ok HG_152.out (fun k hk hm => (fun x hx hy => ND_125.out x hy hx) k (BD_144.out.own_mem k hk) hm))
                    have ND_161 : Hid (∀ b ∈ (g8 :: (fps_151.flatten ++ [])), b ∉ (g7 :: (fps_114.flatten ++ []))) := Lib.hid (fun b hm hs => (app_in HATHG_152.out hm).elim (fun h => (fun x hx hy => ND_125.out x hy hx) b (FPE_151.out ▸ h) hs) (fun h => h.elim (fun h => by simp at h) (fun h => by have := LT_154.out b hs; first | omega | (simp at h; omega))))
                    have WR_162 := Lib.hid (Wrote.trans WR_145.out (Wrote.mono (Wrote.of_grown HG_152.out) (fun k _ hk => by simp only [Value.ownBlock, Option.some.injEq] at hk; subst hk; first | exact Or.inl rfl | exact Or.inr (Or.inl rfl))))
                    have c_163 : w8.cell? ⟨w7.heap.size, 0, none⟩ = some (.string (s ++ dig1 (97 + (k : Int)))) := (HG_152.out.cell_far ⟨w7.heap.size, 0, none⟩ (World.block_lt_of_cell? _ _ c_146) (fun he => ND_150.out _ (by simp) (BD_144.out.own_mem _ he.symm))).trans c_146
                    have z_164 : w8.frozen? ⟨w7.heap.size, 0, none⟩ = false := (HG_152.out.frozen_far ⟨w7.heap.size, 0, none⟩ (by first | omega | (simp; done) | (simp; omega)) (fun he => ND_150.out _ (by simp) (BD_144.out.own_mem _ he.symm))).trans z_147
                    have hz_165 : w7.heap.size + 1 ≤ w8.heap.size := Nat.le_trans hz_148 hz_153
                    have htxg8 : w8.cell? ⟨gt, i, none⟩ = some (.string s) := HKTg8.out
                    refine hK.out _ _ (Or.inl (by kernel_rfl)) (fun _ => ?_)
                    clear hK K
                    try simp only [Act.put, List.setIfInBounds_toArray, List.set_cons_zero, List.set_cons_succ]
                    refine wpG_pure (i := 17) (oi := { dst := some 9, op := Go.Op.assign (Go.Operand.tmp 88), type := 67, pos := "l12_machine.go:154", after := #[{ on := 3, ground := Go.Ground.data }, { on := 16, ground := Go.Ground.chain }, { on := 0, ground := Go.Ground.phase }, { on := 1, ground := Go.Ground.phase }, { on := 2, ground := Go.Ground.phase }, { on := 3, ground := Go.Ground.phase }, { on := 4, ground := Go.Ground.textOnly Go.Departure.lateStores }, { on := 5, ground := Go.Ground.textOnly Go.Departure.lateStores }, { on := 6, ground := Go.Ground.textOnly Go.Departure.lateStores }, { on := 7, ground := Go.Ground.textOnly Go.Departure.lateStores }, { on := 8, ground := Go.Ground.textOnly Go.Departure.lateStores }, { on := 9, ground := Go.Ground.textOnly Go.Departure.lateStores }, { on := 10, ground := Go.Ground.textOnly Go.Departure.lateStores }, { on := 11, ground := Go.Ground.textOnly Go.Departure.lateStores }, { on := 12, ground := Go.Ground.textOnly Go.Departure.lateStores }, { on := 13, ground := Go.Ground.textOnly Go.Departure.lateStores }, { on := 14, ground := Go.Ground.textOnly Go.Departure.lateStores }, { on := 15, ground := Go.Ground.textOnly Go.Departure.lateStores }, { on := 16, ground := Go.Ground.textOnly Go.Departure.lateStoresUnsure }], guard := none }) (v := ?vg101) rfl (by kernel_rfl) (fun _ _ _ h => h) (Or.inl (by kernel_rfl)) (Or.inl ⟨by rfl, ?yg101⟩) ?_
                    case yg101 => (intro wS _; go_simp <;> with_reducible rfl)
                    try simp only [Act.put, List.setIfInBounds_toArray, List.set_cons_zero, List.set_cons_succ]
                    refine wpG_pure (i := 18) (oi := { dst := some 10, op := Go.Op.assign (Go.Operand.tmp 101), type := 87, pos := "l12_machine.go:154", after := #[{ on := 16, ground := Go.Ground.data }, { on := 17, ground := Go.Ground.chain }, { on := 0, ground := Go.Ground.phase }, { on := 1, ground := Go.Ground.phase }, { on := 2, ground := Go.Ground.phase }, { on := 3, ground := Go.Ground.phase }, { on := 4, ground := Go.Ground.phase }, { on := 5, ground := Go.Ground.phase }, { on := 6, ground := Go.Ground.phase }, { on := 7, ground := Go.Ground.phase }, { on := 8, ground := Go.Ground.phase }, { on := 9, ground := Go.Ground.phase }, { on := 10, ground := Go.Ground.phase }, { on := 11, ground := Go.Ground.phase }, { on := 12, ground := Go.Ground.phase }, { on := 13, ground := Go.Ground.phase }, { on := 14, ground := Go.Ground.phase }, { on := 15, ground := Go.Ground.phase }, { on := 16, ground := Go.Ground.phase }, { on := 17, ground := Go.Ground.phase }], guard := none }) (v := ?vg102) rfl (by kernel_rfl) (fun _ _ _ h => h) (Or.inl (by kernel_rfl)) (Or.inl ⟨by rfl, ?yg102⟩) ?_
                    case yg102 => (intro wS _; go_simp <;> with_reducible rfl)
                    try simp only [Act.put, List.setIfInBounds_toArray, List.set_cons_zero, List.set_cons_succ]
                    refine wpG_done (by kernel_rfl) ?_
                    go_wp2_with fail
                    go_meet
                    have hb1 := BD_160.out; have hb2 := BD_156.out
                    rw [bd_pr_fp hb1] at hb1; rw [bd_tx_fp hb2] at hb2
                    exact ⟨g7, cp7, g8, cp8, rfl, rfl, by rw [List.map_append]; exact hb1, by rw [List.map_append]; exact hb2, WR_162.out⟩
                  · skip
                    have hcv := conv_at (w := ((wq.alloc (.cells #[.int .i64 qx, .int .i64 qy] 71)).alloc (.cells #[.int .u8 (97 + (k : Int))] 5)).drew) (b := wq.heap.size + 1) (n := 97 + (k : Int)) c_109
                    go_simp
                    refine hK.out _ _ (Or.inr ?khHeld103) (fun hHeld103S => ?_)
                    case khHeld103 => exact ⟨c_97, c_98, c_99⟩
                    have hHeld103 := hHeld103S.held (by kernel_rfl)
                    clear hK K
                    try simp only [Act.put, List.setIfInBounds_toArray, List.set_cons_zero, List.set_cons_succ]
                    refine wpG_pure (i := 14) (oi := { dst := some 99, op := Go.Op.binOp Go.BinOp.add 9 (Go.Operand.tmp 93) (Go.Operand.tmp 98) 9, type := 9, pos := "l12_machine.go:154", after := #[{ on := 8, ground := Go.Ground.data }, { on := 13, ground := Go.Ground.data }], guard := none }) (v := ?vg104) rfl (by kernel_rfl) (fun _ _ _ h => h) (Or.inr hHeld103) (Or.inl ⟨by rfl, ?yg104⟩) ?_
                    case yg104 => (intro wS _; go_simp <;> with_reducible rfl)
                    try simp only [Act.put, List.setIfInBounds_toArray, List.set_cons_zero, List.set_cons_succ]
                    refine wpG_two (i := 3) (j := 15) (o := { dst := some 88, op := Go.Op.call { callee := Go.Callee.builtin Go.Builtin.append, args := #[Go.Operand.tmp 85, Go.Operand.tmp 87], argTypes := #[67, 67] }, type := 67, pos := "l12_machine.go:154", after := #[{ on := 0, ground := Go.Ground.data }, { on := 2, ground := Go.Ground.data }], guard := none }) (o' := { dst := some 100, op := Go.Op.buildSlice 87 1 #[(0, Go.Operand.tmp 99)], type := 87, pos := "l12_machine.go:154", after := #[{ on := 14, ground := Go.Ground.data }], guard := none }) rfl rfl (by kernel_rfl) (fun K hK => ?_) (fun K hK => ?_)
                    · skip
                      have HNB := Lib.hid (news_two c_104 c_106)
                      obtain ⟨vss_166, fps_166, hrow, howl, hfp, hnd, hge⟩ := BD_101.out
                      rw [HLN1.out] at hrow
                      have ROW_166 := Lib.hid hrow; have OWL_166 := Lib.hid howl; have NDU_166 := Lib.hid (hfp ▸ hnd); have GE_166 := Lib.hid (fun b hb => hge b (hfp ▸ hb)); have FPE_166 := Lib.hid hfp; clear hrow howl hnd hge hfp
                      refine step_append_keeps rfl (.tmp 85) (.tmp 87) 67 rfl (w.heap.size + 2) 71 i1 (.agg #[.int .i64 0, .int .i64 0]) 2 16 Try.underlying67 hi1 hy0 hy1 hy2 rfl (by decide) gp L.length cp vss_166.flatten rfl ROW_166.out ⟨wq.heap.size, 0, none⟩ 1 1 [.int .i64 qx, .int .i64 qy] rfl (by rfl) HNB.out (by simp [Value.oneCell']) (by omega) (by unfold maxLen; omega) (by omega) (by first | omega | (simp; omega)) _ rfl ?_
                      intro g7 cp7 w7 hown hgrow hat hlt4 hkeep
                      clear hkeep
                      have HG_167 := Lib.hid hgrow; have HATHG_167 := Lib.hid hat; have HONHG_167 := Lib.hid hown
                      clear hgrow hat hown
                      have hz_168 : wq.heap.size + 1 + 1 ≤ w7.heap.size := by have := HG_167.out.size; first | omega | (simp at this; omega)
                      have LT_169 : Hid (∀ b ∈ [gp], b < wq.heap.size + 1 + 1) := Lib.hid (fun b hm => by have := (BD_101.out.lt kPr_ok b hm); first | exact this | omega | (simp at this; omega))
                      have LT_170 : Hid (∀ b ∈ [gt], b < wq.heap.size + 1 + 1) := Lib.hid (fun b hm => by have := (BD_102.out.lt kTx_ok b hm); first | exact this | omega | (simp at this; omega))
                      have BD_171 := Lib.hid (Bd.app HLN1.out kPr_ok ROW_166.out OWL_166.out NDU_166.out GE_166.out (show kPr.ow [] _ [.int .i64 qx, .int .i64 qy] (qx, qy) from ⟨[], [], [.int .i64 qx], [.int .i64 qy], rfl, rfl, ⟨rfl, rfl, hwx⟩, ⟨rfl, rfl, hwy⟩⟩) List.nodup_nil (fun b hb => absurd hb (by simp)) (fun b hb => absurd hb (by simp)) HONHG_167.out HG_167.out HATHG_167.out (by first | omega | (simp; done) | (simp; omega)))
                      have c_172 : w7.cell? ⟨B15, 0, none⟩ = some (.int .i64 qx) := (HG_167.out.cell_far ⟨B15, 0, none⟩ (World.block_lt_of_cell? _ _ c_97) (fun he => HDP.out _ (by simp) (BD_101.out.own_mem _ he.symm))).trans c_97
                      have c_173 : w7.cell? ⟨B15, 1, none⟩ = some (.int .i64 qy) := (HG_167.out.cell_far ⟨B15, 1, none⟩ (World.block_lt_of_cell? _ _ c_98) (fun he => HDP.out _ (by simp) (BD_101.out.own_mem _ he.symm))).trans c_98
                      have c_174 : w7.cell? ⟨gt, i, none⟩ = some (.string s) := (HG_167.out.cell_far ⟨gt, i, none⟩ (World.block_lt_of_cell? _ _ c_99) (fun he => HTP.out _ (by simp) (BD_101.out.own_mem _ he.symm))).trans c_99
                      have hz_175 : w.heap.size + 2 ≤ w7.heap.size := Nat.le_trans hz_100 hz_168
                      have BD_176 := Lib.hid (BD_102.out.grown kTx_ok HG_167.out (fun k hk hm => HPT.out k (BD_101.out.own_mem k hk) hm))
                      have ND_177 : Hid (∀ b ∈ (g7 :: (fps_166.flatten ++ [])), b ∉ [gt]) := Lib.hid (fun b hm hs => (app_in HATHG_167.out hm).elim (fun h => HPT.out b (FPE_166.out ▸ h) hs) (fun h => h.elim (fun h => by simp at h) (fun h => by have := LT_170.out b hs; first | omega | (simp at h; omega))))
                      have WR_178 := Lib.hid (Wrote.trans WR_103.out (Wrote.mono (Wrote.of_grown HG_167.out) (fun k _ hk => by simp only [Value.ownBlock, Option.some.injEq] at hk; subst hk; first | exact Or.inl rfl | exact Or.inr (Or.inl rfl))))
                      have c_179 : w7.cell? ⟨wq.heap.size, 0, none⟩ = some (.int .i64 qx) := (HG_167.out.cell_far ⟨wq.heap.size, 0, none⟩ (World.block_lt_of_cell? _ _ c_104) (fun he => ND_26.out _ (by simp) (BD_101.out.own_mem _ he.symm))).trans c_104
                      have z_180 : w7.frozen? ⟨wq.heap.size, 0, none⟩ = false := (HG_167.out.frozen_far ⟨wq.heap.size, 0, none⟩ (by first | omega | (simp; done) | (simp; omega)) (fun he => ND_26.out _ (by simp) (BD_101.out.own_mem _ he.symm))).trans z_105
                      have c_181 : w7.cell? ⟨wq.heap.size, 1, none⟩ = some (.int .i64 qy) := (HG_167.out.cell_far ⟨wq.heap.size, 1, none⟩ (World.block_lt_of_cell? _ _ c_106) (fun he => ND_26.out _ (by simp) (BD_101.out.own_mem _ he.symm))).trans c_106
                      have z_182 : w7.frozen? ⟨wq.heap.size, 1, none⟩ = false := (HG_167.out.frozen_far ⟨wq.heap.size, 1, none⟩ (by first | omega | (simp; done) | (simp; omega)) (fun he => ND_26.out _ (by simp) (BD_101.out.own_mem _ he.symm))).trans z_107
                      have hz_183 : wq.heap.size + 1 ≤ w7.heap.size := Nat.le_trans hz_108 hz_168
                      refine hK.out _ _ (Or.inr ?khHeld105) (fun hHeld105S => ?_)
                      case khHeld105 => exact ⟨c_172, c_173, c_174⟩
                      have hHeld105 := hHeld105S.held (by kernel_rfl)
                      clear hK K
                      try simp only [Act.put, List.setIfInBounds_toArray, List.set_cons_zero, List.set_cons_succ]
                      refine wpG_one (i := 15) (o := { dst := some 100, op := Go.Op.buildSlice 87 1 #[(0, Go.Operand.tmp 99)], type := 87, pos := "l12_machine.go:154", after := #[{ on := 14, ground := Go.Ground.data }], guard := none }) rfl (by kernel_rfl) (fun K hK => ?_)
                      go_simp
                      have LT_184 : Hid (∀ b ∈ (g7 :: (fps_166.flatten ++ [])), b < w7.heap.size) := Lib.hid (fun b hm => by have := (BD_171.out.lt kPr_ok b hm); first | exact this | omega | (simp at this; omega))
                      have LT_185 : Hid (∀ b ∈ [gt], b < w7.heap.size) := Lib.hid (fun b hm => by have := (BD_176.out.lt kTx_ok b hm); first | exact this | omega | (simp at this; omega))
                      have hb_186 : Below w7.heap.size w7 (w7.alloc (.cells #[.string (s ++ dig1 (97 + (k : Int)))] 9)) := (Below.refl _ _).alloc (Nat.le_refl _) _
                      have hz_187 : w7.heap.size ≤ w7.heap.size + 1 := by have := (hb_186).size; first | omega | (simp at this; omega)
                      have c_188 : (w7.alloc (.cells #[.string (s ++ dig1 (97 + (k : Int)))] 9)).cell? ⟨B15, 0, none⟩ = some (.int .i64 qx) := below_later hb_186 c_172; clear c_172
                      have c_189 : (w7.alloc (.cells #[.string (s ++ dig1 (97 + (k : Int)))] 9)).cell? ⟨B15, 1, none⟩ = some (.int .i64 qy) := below_later hb_186 c_173; clear c_173
                      have c_190 : (w7.alloc (.cells #[.string (s ++ dig1 (97 + (k : Int)))] 9)).cell? ⟨gt, i, none⟩ = some (.string s) := below_later hb_186 c_174; clear c_174
                      have hz_191 : w.heap.size + 2 ≤ w7.heap.size + 1 := Nat.le_trans hz_175 hz_187
                      have BD_192 := Lib.hid (BD_171.out.later kPr_ok hb_186)
                      have BD_193 := Lib.hid (BD_176.out.later kTx_ok hb_186)
                      have WR_194 := Lib.hid (Wrote.trans WR_178.out (Wrote.of_below hb_186))
                      clear hb_186
                      have c_195 : (w7.alloc (.cells #[.string (s ++ dig1 (97 + (k : Int)))] 9)).cell? ⟨w7.heap.size, 0, none⟩ = some (.string (s ++ dig1 (97 + (k : Int)))) := by go_simp
                      have z_196 : (w7.alloc (.cells #[.string (s ++ dig1 (97 + (k : Int)))] 9)).frozen? ⟨w7.heap.size, 0, none⟩ = false := by go_simp
                      have hz_197 : w7.heap.size < w7.heap.size + 1 := by omega
                      have ND_198 : Hid (∀ b ∈ [w7.heap.size], b ∉ (g7 :: (fps_166.flatten ++ []))) := Lib.hid (by intro b hb hm; simp only [List.mem_singleton] at hb; subst hb; have := (LT_184.out _ hm); first | omega | (simp at this; omega))
                      have ND_199 : Hid (∀ b ∈ [w7.heap.size], b ∉ [gt]) := Lib.hid (by intro b hb hm; simp only [List.mem_singleton] at hb; subst hb; have := (LT_185.out _ hm); first | omega | (simp at this; omega))
                      refine hK.out _ _ (Or.inr ?khHeld106) (fun hHeld106S => ?_)
                      case khHeld106 => exact ⟨c_188, c_189, c_190⟩
                      have hHeld106 := hHeld106S.held (by kernel_rfl)
                      clear hK K
                      try simp only [Act.put, List.setIfInBounds_toArray, List.set_cons_zero, List.set_cons_succ]
                      refine wpG_one (i := 16) (o := { dst := some 101, op := Go.Op.call { callee := Go.Callee.builtin Go.Builtin.append, args := #[Go.Operand.tmp 89, Go.Operand.tmp 100], argTypes := #[87, 87] }, type := 87, pos := "l12_machine.go:154", after := #[{ on := 4, ground := Go.Ground.data }, { on := 15, ground := Go.Ground.data }, { on := 3, ground := Go.Ground.chain }], guard := none }) rfl (by kernel_rfl) (fun K hK => ?_)
                      obtain ⟨vss_200, fps_200, hrow, howl, hfp, hnd, hge⟩ := BD_193.out
                      rw [HLN2.out] at hrow
                      have ROW_200 := Lib.hid hrow; have OWL_200 := Lib.hid howl; have NDU_200 := Lib.hid (hfp ▸ hnd); have GE_200 := Lib.hid (fun b hb => hge b (hfp ▸ hb)); have FPE_200 := Lib.hid hfp; clear hrow howl hnd hge hfp
                      refine step_append_keeps rfl (.tmp 89) (.tmp 100) 87 rfl (w.heap.size + 2) 9 i2 (.string ByteArray.empty) 1 16 Try.underlying87 hi2 hx0 hx1 hx2 rfl (by decide) gt L.length ct vss_200.flatten rfl ROW_200.out ⟨w7.heap.size, 0, none⟩ 1 1 [.string (s ++ dig1 (97 + (k : Int)))] rfl (by rfl) (news_at c_195) (by simp [Value.oneCell']) (by omega) (by unfold maxLen; omega) (by omega) (by first | omega | (simp; omega)) _ rfl ?_
                      intro g8 cp8 w8 hown hgrow hat hlt4 hkeep
                      have HKTg8 := Lib.hid (hkeep i (.string s) (tx_at OWL_200.out hpi))
                      clear hkeep
                      have HG_201 := Lib.hid hgrow; have HATHG_201 := Lib.hid hat; have HONHG_201 := Lib.hid hown
                      clear hgrow hat hown
                      have hz_202 : w7.heap.size + 1 ≤ w8.heap.size := by have := HG_201.out.size; first | omega | (simp at this; omega)
                      have LT_203 : Hid (∀ b ∈ (g7 :: (fps_166.flatten ++ [])), b < w7.heap.size + 1) := Lib.hid (fun b hm => by have := (BD_192.out.lt kPr_ok b hm); first | exact this | omega | (simp at this; omega))
                      have LT_204 : Hid (∀ b ∈ [gt], b < w7.heap.size + 1) := Lib.hid (fun b hm => by have := (BD_193.out.lt kTx_ok b hm); first | exact this | omega | (simp at this; omega))
                      have BD_205 := Lib.hid (Bd.app HLN2.out kTx_ok ROW_200.out OWL_200.out NDU_200.out GE_200.out (show kTx.ow [] _ [.string (s ++ dig1 (97 + (k : Int)))] (s ++ dig1 (97 + (k : Int))) from ⟨rfl, rfl, hwt⟩) List.nodup_nil (fun b hb => absurd hb (by simp)) (fun b hb => absurd hb (by simp)) HONHG_201.out HG_201.out HATHG_201.out (by first | omega | (simp; done) | (simp; omega)))
                      have c_206 : w8.cell? ⟨B15, 0, none⟩ = some (.int .i64 qx) := (HG_201.out.cell_far ⟨B15, 0, none⟩ (World.block_lt_of_cell? _ _ c_188) (fun he => HDT.out _ (by simp) (BD_193.out.own_mem _ he.symm))).trans c_188
                      have c_207 : w8.cell? ⟨B15, 1, none⟩ = some (.int .i64 qy) := (HG_201.out.cell_far ⟨B15, 1, none⟩ (World.block_lt_of_cell? _ _ c_189) (fun he => HDT.out _ (by simp) (BD_193.out.own_mem _ he.symm))).trans c_189
                      have hz_208 : w.heap.size + 2 ≤ w8.heap.size := Nat.le_trans hz_191 hz_202
                      have BD_209 := Lib.hid (BD_192.out.grown kPr_ok HG_201.out (fun k hk hm => (fun x hx hy => ND_177.out x hy hx) k (BD_193.out.own_mem k hk) hm))
                      have ND_210 : Hid (∀ b ∈ (g8 :: (fps_200.flatten ++ [])), b ∉ (g7 :: (fps_166.flatten ++ []))) := Lib.hid (fun b hm hs => (app_in HATHG_201.out hm).elim (fun h => (fun x hx hy => ND_177.out x hy hx) b (FPE_200.out ▸ h) hs) (fun h => h.elim (fun h => by simp at h) (fun h => by have := LT_203.out b hs; first | omega | (simp at h; omega))))
                      have WR_211 := Lib.hid (Wrote.trans WR_194.out (Wrote.mono (Wrote.of_grown HG_201.out) (fun k _ hk => by simp only [Value.ownBlock, Option.some.injEq] at hk; subst hk; first | exact Or.inl rfl | exact Or.inr (Or.inl rfl))))
                      have c_212 : w8.cell? ⟨w7.heap.size, 0, none⟩ = some (.string (s ++ dig1 (97 + (k : Int)))) := (HG_201.out.cell_far ⟨w7.heap.size, 0, none⟩ (World.block_lt_of_cell? _ _ c_195) (fun he => ND_199.out _ (by simp) (BD_193.out.own_mem _ he.symm))).trans c_195
                      have z_213 : w8.frozen? ⟨w7.heap.size, 0, none⟩ = false := (HG_201.out.frozen_far ⟨w7.heap.size, 0, none⟩ (by first | omega | (simp; done) | (simp; omega)) (fun he => ND_199.out _ (by simp) (BD_193.out.own_mem _ he.symm))).trans z_196
                      have hz_214 : w7.heap.size + 1 ≤ w8.heap.size := Nat.le_trans hz_197 hz_202
                      have htxg8 : w8.cell? ⟨gt, i, none⟩ = some (.string s) := HKTg8.out
                      refine hK.out _ _ (Or.inl (by kernel_rfl)) (fun _ => ?_)
                      clear hK K
                      try simp only [Act.put, List.setIfInBounds_toArray, List.set_cons_zero, List.set_cons_succ]
                      refine wpG_pure (i := 17) (oi := { dst := some 9, op := Go.Op.assign (Go.Operand.tmp 88), type := 67, pos := "l12_machine.go:154", after := #[{ on := 3, ground := Go.Ground.data }, { on := 16, ground := Go.Ground.chain }, { on := 0, ground := Go.Ground.phase }, { on := 1, ground := Go.Ground.phase }, { on := 2, ground := Go.Ground.phase }, { on := 3, ground := Go.Ground.phase }, { on := 4, ground := Go.Ground.textOnly Go.Departure.lateStores }, { on := 5, ground := Go.Ground.textOnly Go.Departure.lateStores }, { on := 6, ground := Go.Ground.textOnly Go.Departure.lateStores }, { on := 7, ground := Go.Ground.textOnly Go.Departure.lateStores }, { on := 8, ground := Go.Ground.textOnly Go.Departure.lateStores }, { on := 9, ground := Go.Ground.textOnly Go.Departure.lateStores }, { on := 10, ground := Go.Ground.textOnly Go.Departure.lateStores }, { on := 11, ground := Go.Ground.textOnly Go.Departure.lateStores }, { on := 12, ground := Go.Ground.textOnly Go.Departure.lateStores }, { on := 13, ground := Go.Ground.textOnly Go.Departure.lateStores }, { on := 14, ground := Go.Ground.textOnly Go.Departure.lateStores }, { on := 15, ground := Go.Ground.textOnly Go.Departure.lateStores }, { on := 16, ground := Go.Ground.textOnly Go.Departure.lateStoresUnsure }], guard := none }) (v := ?vg108) rfl (by kernel_rfl) (fun _ _ _ h => h) (Or.inl (by kernel_rfl)) (Or.inl ⟨by rfl, ?yg108⟩) ?_
                      case yg108 => (intro wS _; go_simp <;> with_reducible rfl)
                      try simp only [Act.put, List.setIfInBounds_toArray, List.set_cons_zero, List.set_cons_succ]
                      refine wpG_pure (i := 18) (oi := { dst := some 10, op := Go.Op.assign (Go.Operand.tmp 101), type := 87, pos := "l12_machine.go:154", after := #[{ on := 16, ground := Go.Ground.data }, { on := 17, ground := Go.Ground.chain }, { on := 0, ground := Go.Ground.phase }, { on := 1, ground := Go.Ground.phase }, { on := 2, ground := Go.Ground.phase }, { on := 3, ground := Go.Ground.phase }, { on := 4, ground := Go.Ground.phase }, { on := 5, ground := Go.Ground.phase }, { on := 6, ground := Go.Ground.phase }, { on := 7, ground := Go.Ground.phase }, { on := 8, ground := Go.Ground.phase }, { on := 9, ground := Go.Ground.phase }, { on := 10, ground := Go.Ground.phase }, { on := 11, ground := Go.Ground.phase }, { on := 12, ground := Go.Ground.phase }, { on := 13, ground := Go.Ground.phase }, { on := 14, ground := Go.Ground.phase }, { on := 15, ground := Go.Ground.phase }, { on := 16, ground := Go.Ground.phase }, { on := 17, ground := Go.Ground.phase }], guard := none }) (v := ?vg109) rfl (by kernel_rfl) (fun _ _ _ h => h) (Or.inl (by kernel_rfl)) (Or.inl ⟨by rfl, ?yg109⟩) ?_
                      case yg109 => (intro wS _; go_simp <;> with_reducible rfl)
                      try simp only [Act.put, List.setIfInBounds_toArray, List.set_cons_zero, List.set_cons_succ]
                      refine wpG_done (by kernel_rfl) ?_
                      go_wp2_with fail
                      go_meet
                      have hb1 := BD_209.out; have hb2 := BD_205.out
                      rw [bd_pr_fp hb1] at hb1; rw [bd_tx_fp hb2] at hb2
                      exact ⟨g7, cp7, g8, cp8, rfl, rfl, by rw [List.map_append]; exact hb1, by rw [List.map_append]; exact hb2, WR_211.out⟩
                    · skip
                      go_simp
                      have LT_215 : Hid (∀ b ∈ [gp], b < wq.heap.size + 1 + 1) := Lib.hid (fun b hm => by have := (BD_101.out.lt kPr_ok b hm); first | exact this | omega | (simp at this; omega))
                      have LT_216 : Hid (∀ b ∈ [gt], b < wq.heap.size + 1 + 1) := Lib.hid (fun b hm => by have := (BD_102.out.lt kTx_ok b hm); first | exact this | omega | (simp at this; omega))
                      have hb_217 : Below ((wq.alloc (.cells #[.int .i64 qx, .int .i64 qy] 71)).alloc (.cells #[.int .u8 (97 + (k : Int))] 5)).drew.heap.size ((wq.alloc (.cells #[.int .i64 qx, .int .i64 qy] 71)).alloc (.cells #[.int .u8 (97 + (k : Int))] 5)).drew (((wq.alloc (.cells #[.int .i64 qx, .int .i64 qy] 71)).alloc (.cells #[.int .u8 (97 + (k : Int))] 5)).alloc (.cells #[.string (s ++ dig1 (97 + (k : Int)))] 9)).drew := below_alloc_drew _ _
                      have hz_218 : wq.heap.size + 1 + 1 ≤ wq.heap.size + 1 + 1 + 1 := by have := (hb_217).size; first | omega | (simp at this; omega)
                      have c_219 : (((wq.alloc (.cells #[.int .i64 qx, .int .i64 qy] 71)).alloc (.cells #[.int .u8 (97 + (k : Int))] 5)).alloc (.cells #[.string (s ++ dig1 (97 + (k : Int)))] 9)).drew.cell? ⟨B15, 0, none⟩ = some (.int .i64 qx) := below_later hb_217 c_97; clear c_97
                      have c_220 : (((wq.alloc (.cells #[.int .i64 qx, .int .i64 qy] 71)).alloc (.cells #[.int .u8 (97 + (k : Int))] 5)).alloc (.cells #[.string (s ++ dig1 (97 + (k : Int)))] 9)).drew.cell? ⟨B15, 1, none⟩ = some (.int .i64 qy) := below_later hb_217 c_98; clear c_98
                      have c_221 : (((wq.alloc (.cells #[.int .i64 qx, .int .i64 qy] 71)).alloc (.cells #[.int .u8 (97 + (k : Int))] 5)).alloc (.cells #[.string (s ++ dig1 (97 + (k : Int)))] 9)).drew.cell? ⟨gt, i, none⟩ = some (.string s) := below_later hb_217 c_99; clear c_99
                      have hz_222 : w.heap.size + 2 ≤ wq.heap.size + 1 + 1 + 1 := Nat.le_trans hz_100 hz_218
                      have BD_223 := Lib.hid (BD_101.out.later kPr_ok hb_217)
                      have BD_224 := Lib.hid (BD_102.out.later kTx_ok hb_217)
                      have WR_225 := Lib.hid (Wrote.trans WR_103.out (Wrote.of_below hb_217))
                      have c_226 : (((wq.alloc (.cells #[.int .i64 qx, .int .i64 qy] 71)).alloc (.cells #[.int .u8 (97 + (k : Int))] 5)).alloc (.cells #[.string (s ++ dig1 (97 + (k : Int)))] 9)).drew.cell? ⟨wq.heap.size, 0, none⟩ = some (.int .i64 qx) := below_later hb_217 c_104; clear c_104
                      have z_227 : (((wq.alloc (.cells #[.int .i64 qx, .int .i64 qy] 71)).alloc (.cells #[.int .u8 (97 + (k : Int))] 5)).alloc (.cells #[.string (s ++ dig1 (97 + (k : Int)))] 9)).drew.frozen? ⟨wq.heap.size, 0, none⟩ = false := (Below.frozen hb_217 (p := ⟨wq.heap.size, 0, none⟩) (by show wq.heap.size < _; first | omega | (simp; done) | (simp; omega))).trans z_105
                      have c_228 : (((wq.alloc (.cells #[.int .i64 qx, .int .i64 qy] 71)).alloc (.cells #[.int .u8 (97 + (k : Int))] 5)).alloc (.cells #[.string (s ++ dig1 (97 + (k : Int)))] 9)).drew.cell? ⟨wq.heap.size, 1, none⟩ = some (.int .i64 qy) := below_later hb_217 c_106; clear c_106
                      have z_229 : (((wq.alloc (.cells #[.int .i64 qx, .int .i64 qy] 71)).alloc (.cells #[.int .u8 (97 + (k : Int))] 5)).alloc (.cells #[.string (s ++ dig1 (97 + (k : Int)))] 9)).drew.frozen? ⟨wq.heap.size, 1, none⟩ = false := (Below.frozen hb_217 (p := ⟨wq.heap.size, 1, none⟩) (by show wq.heap.size < _; first | omega | (simp; done) | (simp; omega))).trans z_107
                      have hz_230 : wq.heap.size + 1 ≤ wq.heap.size + 1 + 1 + 1 := Nat.le_trans hz_108 hz_218
                      clear hb_217
                      have c_231 : (((wq.alloc (.cells #[.int .i64 qx, .int .i64 qy] 71)).alloc (.cells #[.int .u8 (97 + (k : Int))] 5)).alloc (.cells #[.string (s ++ dig1 (97 + (k : Int)))] 9)).drew.cell? ⟨wq.heap.size + 1 + 1, 0, none⟩ = some (.string (s ++ dig1 (97 + (k : Int)))) := by go_simp
                      have z_232 : (((wq.alloc (.cells #[.int .i64 qx, .int .i64 qy] 71)).alloc (.cells #[.int .u8 (97 + (k : Int))] 5)).alloc (.cells #[.string (s ++ dig1 (97 + (k : Int)))] 9)).drew.frozen? ⟨wq.heap.size + 1 + 1, 0, none⟩ = false := by go_simp
                      have hz_233 : wq.heap.size + 1 + 1 < wq.heap.size + 1 + 1 + 1 := by omega
                      have ND_234 : Hid (∀ b ∈ [wq.heap.size + 1 + 1], b ∉ [gp]) := Lib.hid (by intro b hb hm; simp only [List.mem_singleton] at hb; subst hb; have := (LT_215.out _ hm); first | omega | (simp at this; omega))
                      have ND_235 : Hid (∀ b ∈ [wq.heap.size + 1 + 1], b ∉ [gt]) := Lib.hid (by intro b hb hm; simp only [List.mem_singleton] at hb; subst hb; have := (LT_216.out _ hm); first | omega | (simp at this; omega))
                      refine hK.out _ _ (Or.inr ?khHeld110) (fun hHeld110S => ?_)
                      case khHeld110 => exact ⟨c_219, c_220, c_221⟩
                      have hHeld110 := hHeld110S.held (by kernel_rfl)
                      clear hK K
                      try simp only [Act.put, List.setIfInBounds_toArray, List.set_cons_zero, List.set_cons_succ]
                      refine wpG_one (i := 3) (o := { dst := some 88, op := Go.Op.call { callee := Go.Callee.builtin Go.Builtin.append, args := #[Go.Operand.tmp 85, Go.Operand.tmp 87], argTypes := #[67, 67] }, type := 67, pos := "l12_machine.go:154", after := #[{ on := 0, ground := Go.Ground.data }, { on := 2, ground := Go.Ground.data }], guard := none }) rfl (by kernel_rfl) (fun K hK => ?_)
                      have HNB := Lib.hid (news_two c_226 c_228)
                      obtain ⟨vss_236, fps_236, hrow, howl, hfp, hnd, hge⟩ := BD_223.out
                      rw [HLN1.out] at hrow
                      have ROW_236 := Lib.hid hrow; have OWL_236 := Lib.hid howl; have NDU_236 := Lib.hid (hfp ▸ hnd); have GE_236 := Lib.hid (fun b hb => hge b (hfp ▸ hb)); have FPE_236 := Lib.hid hfp; clear hrow howl hnd hge hfp
                      refine step_append_keeps rfl (.tmp 85) (.tmp 87) 67 rfl (w.heap.size + 2) 71 i1 (.agg #[.int .i64 0, .int .i64 0]) 2 16 Try.underlying67 hi1 hy0 hy1 hy2 rfl (by decide) gp L.length cp vss_236.flatten rfl ROW_236.out ⟨wq.heap.size, 0, none⟩ 1 1 [.int .i64 qx, .int .i64 qy] rfl (by rfl) HNB.out (by simp [Value.oneCell']) (by omega) (by unfold maxLen; omega) (by omega) (by first | omega | (simp; omega)) _ rfl ?_
                      intro g7 cp7 w7 hown hgrow hat hlt4 hkeep
                      clear hkeep
                      have HG_237 := Lib.hid hgrow; have HATHG_237 := Lib.hid hat; have HONHG_237 := Lib.hid hown
                      clear hgrow hat hown
                      have hz_238 : wq.heap.size + 1 + 1 + 1 ≤ w7.heap.size := by have := HG_237.out.size; first | omega | (simp at this; omega)
                      have LT_239 : Hid (∀ b ∈ [gp], b < wq.heap.size + 1 + 1 + 1) := Lib.hid (fun b hm => by have := (BD_223.out.lt kPr_ok b hm); first | exact this | omega | (simp at this; omega))
                      have LT_240 : Hid (∀ b ∈ [gt], b < wq.heap.size + 1 + 1 + 1) := Lib.hid (fun b hm => by have := (BD_224.out.lt kTx_ok b hm); first | exact this | omega | (simp at this; omega))
                      have BD_241 := Lib.hid (Bd.app HLN1.out kPr_ok ROW_236.out OWL_236.out NDU_236.out GE_236.out (show kPr.ow [] _ [.int .i64 qx, .int .i64 qy] (qx, qy) from ⟨[], [], [.int .i64 qx], [.int .i64 qy], rfl, rfl, ⟨rfl, rfl, hwx⟩, ⟨rfl, rfl, hwy⟩⟩) List.nodup_nil (fun b hb => absurd hb (by simp)) (fun b hb => absurd hb (by simp)) HONHG_237.out HG_237.out HATHG_237.out (by first | omega | (simp; done) | (simp; omega)))
                      have c_242 : w7.cell? ⟨B15, 0, none⟩ = some (.int .i64 qx) := (HG_237.out.cell_far ⟨B15, 0, none⟩ (World.block_lt_of_cell? _ _ c_219) (fun he => HDP.out _ (by simp) (BD_223.out.own_mem _ he.symm))).trans c_219
                      have c_243 : w7.cell? ⟨B15, 1, none⟩ = some (.int .i64 qy) := (HG_237.out.cell_far ⟨B15, 1, none⟩ (World.block_lt_of_cell? _ _ c_220) (fun he => HDP.out _ (by simp) (BD_223.out.own_mem _ he.symm))).trans c_220
                      have c_244 : w7.cell? ⟨gt, i, none⟩ = some (.string s) := (HG_237.out.cell_far ⟨gt, i, none⟩ (World.block_lt_of_cell? _ _ c_221) (fun he => HTP.out _ (by simp) (BD_223.out.own_mem _ he.symm))).trans c_221
                      have hz_245 : w.heap.size + 2 ≤ w7.heap.size := Nat.le_trans hz_222 hz_238
                      have BD_246 := Lib.hid (BD_224.out.grown kTx_ok HG_237.out (fun k hk hm => HPT.out k (BD_223.out.own_mem k hk) hm))
                      have ND_247 : Hid (∀ b ∈ (g7 :: (fps_236.flatten ++ [])), b ∉ [gt]) := Lib.hid (fun b hm hs => (app_in HATHG_237.out hm).elim (fun h => HPT.out b (FPE_236.out ▸ h) hs) (fun h => h.elim (fun h => by simp at h) (fun h => by have := LT_240.out b hs; first | omega | (simp at h; omega))))
                      have WR_248 := Lib.hid (Wrote.trans WR_225.out (Wrote.mono (Wrote.of_grown HG_237.out) (fun k _ hk => by simp only [Value.ownBlock, Option.some.injEq] at hk; subst hk; first | exact Or.inl rfl | exact Or.inr (Or.inl rfl))))
                      have c_249 : w7.cell? ⟨wq.heap.size, 0, none⟩ = some (.int .i64 qx) := (HG_237.out.cell_far ⟨wq.heap.size, 0, none⟩ (World.block_lt_of_cell? _ _ c_226) (fun he => ND_26.out _ (by simp) (BD_223.out.own_mem _ he.symm))).trans c_226
                      have z_250 : w7.frozen? ⟨wq.heap.size, 0, none⟩ = false := (HG_237.out.frozen_far ⟨wq.heap.size, 0, none⟩ (by first | omega | (simp; done) | (simp; omega)) (fun he => ND_26.out _ (by simp) (BD_223.out.own_mem _ he.symm))).trans z_227
                      have c_251 : w7.cell? ⟨wq.heap.size, 1, none⟩ = some (.int .i64 qy) := (HG_237.out.cell_far ⟨wq.heap.size, 1, none⟩ (World.block_lt_of_cell? _ _ c_228) (fun he => ND_26.out _ (by simp) (BD_223.out.own_mem _ he.symm))).trans c_228
                      have z_252 : w7.frozen? ⟨wq.heap.size, 1, none⟩ = false := (HG_237.out.frozen_far ⟨wq.heap.size, 1, none⟩ (by first | omega | (simp; done) | (simp; omega)) (fun he => ND_26.out _ (by simp) (BD_223.out.own_mem _ he.symm))).trans z_229
                      have hz_253 : wq.heap.size + 1 ≤ w7.heap.size := Nat.le_trans hz_230 hz_238
                      have c_254 : w7.cell? ⟨wq.heap.size + 1 + 1, 0, none⟩ = some (.string (s ++ dig1 (97 + (k : Int)))) := (HG_237.out.cell_far ⟨wq.heap.size + 1 + 1, 0, none⟩ (World.block_lt_of_cell? _ _ c_231) (fun he => ND_234.out _ (by simp) (BD_223.out.own_mem _ he.symm))).trans c_231
                      have z_255 : w7.frozen? ⟨wq.heap.size + 1 + 1, 0, none⟩ = false := (HG_237.out.frozen_far ⟨wq.heap.size + 1 + 1, 0, none⟩ (by first | omega | (simp; done) | (simp; omega)) (fun he => ND_234.out _ (by simp) (BD_223.out.own_mem _ he.symm))).trans z_232
                      have hz_256 : wq.heap.size + 1 + 1 + 1 ≤ w7.heap.size := Nat.le_trans hz_233 hz_238
                      refine hK.out _ _ (Or.inr ?khHeld111) (fun hHeld111S => ?_)
                      case khHeld111 => exact ⟨c_242, c_243, c_244⟩
                      have hHeld111 := hHeld111S.held (by kernel_rfl)
                      clear hK K
                      try simp only [Act.put, List.setIfInBounds_toArray, List.set_cons_zero, List.set_cons_succ]
                      refine wpG_one (i := 16) (o := { dst := some 101, op := Go.Op.call { callee := Go.Callee.builtin Go.Builtin.append, args := #[Go.Operand.tmp 89, Go.Operand.tmp 100], argTypes := #[87, 87] }, type := 87, pos := "l12_machine.go:154", after := #[{ on := 4, ground := Go.Ground.data }, { on := 15, ground := Go.Ground.data }, { on := 3, ground := Go.Ground.chain }], guard := none }) rfl (by kernel_rfl) (fun K hK => ?_)
                      obtain ⟨vss_257, fps_257, hrow, howl, hfp, hnd, hge⟩ := BD_246.out
                      rw [HLN2.out] at hrow
                      have ROW_257 := Lib.hid hrow; have OWL_257 := Lib.hid howl; have NDU_257 := Lib.hid (hfp ▸ hnd); have GE_257 := Lib.hid (fun b hb => hge b (hfp ▸ hb)); have FPE_257 := Lib.hid hfp; clear hrow howl hnd hge hfp
                      refine step_append_keeps rfl (.tmp 89) (.tmp 100) 87 rfl (w.heap.size + 2) 9 i2 (.string ByteArray.empty) 1 16 Try.underlying87 hi2 hx0 hx1 hx2 rfl (by decide) gt L.length ct vss_257.flatten rfl ROW_257.out ⟨wq.heap.size + 1 + 1, 0, none⟩ 1 1 [.string (s ++ dig1 (97 + (k : Int)))] rfl (by rfl) (news_at c_254) (by simp [Value.oneCell']) (by omega) (by unfold maxLen; omega) (by omega) (by first | omega | (simp; omega)) _ rfl ?_
                      intro g8 cp8 w8 hown hgrow hat hlt4 hkeep
                      have HKTg8 := Lib.hid (hkeep i (.string s) (tx_at OWL_257.out hpi))
                      clear hkeep
                      have HG_258 := Lib.hid hgrow; have HATHG_258 := Lib.hid hat; have HONHG_258 := Lib.hid hown
                      clear hgrow hat hown
                      have hz_259 : w7.heap.size ≤ w8.heap.size := by have := HG_258.out.size; first | omega | (simp at this; omega)
                      have LT_260 : Hid (∀ b ∈ (g7 :: (fps_236.flatten ++ [])), b < w7.heap.size) := Lib.hid (fun b hm => by have := (BD_241.out.lt kPr_ok b hm); first | exact this | omega | (simp at this; omega))
                      have LT_261 : Hid (∀ b ∈ [gt], b < w7.heap.size) := Lib.hid (fun b hm => by have := (BD_246.out.lt kTx_ok b hm); first | exact this | omega | (simp at this; omega))
                      have BD_262 := Lib.hid (Bd.app HLN2.out kTx_ok ROW_257.out OWL_257.out NDU_257.out GE_257.out (show kTx.ow [] _ [.string (s ++ dig1 (97 + (k : Int)))] (s ++ dig1 (97 + (k : Int))) from ⟨rfl, rfl, hwt⟩) List.nodup_nil (fun b hb => absurd hb (by simp)) (fun b hb => absurd hb (by simp)) HONHG_258.out HG_258.out HATHG_258.out (by first | omega | (simp; done) | (simp; omega)))
                      have c_263 : w8.cell? ⟨B15, 0, none⟩ = some (.int .i64 qx) := (HG_258.out.cell_far ⟨B15, 0, none⟩ (World.block_lt_of_cell? _ _ c_242) (fun he => HDT.out _ (by simp) (BD_246.out.own_mem _ he.symm))).trans c_242
                      have c_264 : w8.cell? ⟨B15, 1, none⟩ = some (.int .i64 qy) := (HG_258.out.cell_far ⟨B15, 1, none⟩ (World.block_lt_of_cell? _ _ c_243) (fun he => HDT.out _ (by simp) (BD_246.out.own_mem _ he.symm))).trans c_243
                      have hz_265 : w.heap.size + 2 ≤ w8.heap.size := Nat.le_trans hz_245 hz_259
                      have BD_266 := Lib.hid (BD_241.out.grown kPr_ok HG_258.out (fun k hk hm => (fun x hx hy => ND_247.out x hy hx) k (BD_246.out.own_mem k hk) hm))
                      have ND_267 : Hid (∀ b ∈ (g8 :: (fps_257.flatten ++ [])), b ∉ (g7 :: (fps_236.flatten ++ []))) := Lib.hid (fun b hm hs => (app_in HATHG_258.out hm).elim (fun h => (fun x hx hy => ND_247.out x hy hx) b (FPE_257.out ▸ h) hs) (fun h => h.elim (fun h => by simp at h) (fun h => by have := LT_260.out b hs; first | omega | (simp at h; omega))))
                      have WR_268 := Lib.hid (Wrote.trans WR_248.out (Wrote.mono (Wrote.of_grown HG_258.out) (fun k _ hk => by simp only [Value.ownBlock, Option.some.injEq] at hk; subst hk; first | exact Or.inl rfl | exact Or.inr (Or.inl rfl))))
                      have c_269 : w8.cell? ⟨wq.heap.size + 1 + 1, 0, none⟩ = some (.string (s ++ dig1 (97 + (k : Int)))) := (HG_258.out.cell_far ⟨wq.heap.size + 1 + 1, 0, none⟩ (World.block_lt_of_cell? _ _ c_254) (fun he => ND_235.out _ (by simp) (BD_246.out.own_mem _ he.symm))).trans c_254
                      have z_270 : w8.frozen? ⟨wq.heap.size + 1 + 1, 0, none⟩ = false := (HG_258.out.frozen_far ⟨wq.heap.size + 1 + 1, 0, none⟩ (by first | omega | (simp; done) | (simp; omega)) (fun he => ND_235.out _ (by simp) (BD_246.out.own_mem _ he.symm))).trans z_255
                      have hz_271 : wq.heap.size + 1 + 1 + 1 ≤ w8.heap.size := Nat.le_trans hz_256 hz_259
                      have htxg8 : w8.cell? ⟨gt, i, none⟩ = some (.string s) := HKTg8.out
                      refine hK.out _ _ (Or.inl (by kernel_rfl)) (fun _ => ?_)
                      clear hK K
                      try simp only [Act.put, List.setIfInBounds_toArray, List.set_cons_zero, List.set_cons_succ]
                      refine wpG_pure (i := 17) (oi := { dst := some 9, op := Go.Op.assign (Go.Operand.tmp 88), type := 67, pos := "l12_machine.go:154", after := #[{ on := 3, ground := Go.Ground.data }, { on := 16, ground := Go.Ground.chain }, { on := 0, ground := Go.Ground.phase }, { on := 1, ground := Go.Ground.phase }, { on := 2, ground := Go.Ground.phase }, { on := 3, ground := Go.Ground.phase }, { on := 4, ground := Go.Ground.textOnly Go.Departure.lateStores }, { on := 5, ground := Go.Ground.textOnly Go.Departure.lateStores }, { on := 6, ground := Go.Ground.textOnly Go.Departure.lateStores }, { on := 7, ground := Go.Ground.textOnly Go.Departure.lateStores }, { on := 8, ground := Go.Ground.textOnly Go.Departure.lateStores }, { on := 9, ground := Go.Ground.textOnly Go.Departure.lateStores }, { on := 10, ground := Go.Ground.textOnly Go.Departure.lateStores }, { on := 11, ground := Go.Ground.textOnly Go.Departure.lateStores }, { on := 12, ground := Go.Ground.textOnly Go.Departure.lateStores }, { on := 13, ground := Go.Ground.textOnly Go.Departure.lateStores }, { on := 14, ground := Go.Ground.textOnly Go.Departure.lateStores }, { on := 15, ground := Go.Ground.textOnly Go.Departure.lateStores }, { on := 16, ground := Go.Ground.textOnly Go.Departure.lateStoresUnsure }], guard := none }) (v := ?vg113) rfl (by kernel_rfl) (fun _ _ _ h => h) (Or.inl (by kernel_rfl)) (Or.inl ⟨by rfl, ?yg113⟩) ?_
                      case yg113 => (intro wS _; go_simp <;> with_reducible rfl)
                      try simp only [Act.put, List.setIfInBounds_toArray, List.set_cons_zero, List.set_cons_succ]
                      refine wpG_pure (i := 18) (oi := { dst := some 10, op := Go.Op.assign (Go.Operand.tmp 101), type := 87, pos := "l12_machine.go:154", after := #[{ on := 16, ground := Go.Ground.data }, { on := 17, ground := Go.Ground.chain }, { on := 0, ground := Go.Ground.phase }, { on := 1, ground := Go.Ground.phase }, { on := 2, ground := Go.Ground.phase }, { on := 3, ground := Go.Ground.phase }, { on := 4, ground := Go.Ground.phase }, { on := 5, ground := Go.Ground.phase }, { on := 6, ground := Go.Ground.phase }, { on := 7, ground := Go.Ground.phase }, { on := 8, ground := Go.Ground.phase }, { on := 9, ground := Go.Ground.phase }, { on := 10, ground := Go.Ground.phase }, { on := 11, ground := Go.Ground.phase }, { on := 12, ground := Go.Ground.phase }, { on := 13, ground := Go.Ground.phase }, { on := 14, ground := Go.Ground.phase }, { on := 15, ground := Go.Ground.phase }, { on := 16, ground := Go.Ground.phase }, { on := 17, ground := Go.Ground.phase }], guard := none }) (v := ?vg114) rfl (by kernel_rfl) (fun _ _ _ h => h) (Or.inl (by kernel_rfl)) (Or.inl ⟨by rfl, ?yg114⟩) ?_
                      case yg114 => (intro wS _; go_simp <;> with_reducible rfl)
                      try simp only [Act.put, List.setIfInBounds_toArray, List.set_cons_zero, List.set_cons_succ]
                      refine wpG_done (by kernel_rfl) ?_
                      go_wp2_with fail
                      go_meet
                      have hb1 := BD_266.out; have hb2 := BD_262.out
                      rw [bd_pr_fp hb1] at hb1; rw [bd_tx_fp hb2] at hb2
                      exact ⟨g7, cp7, g8, cp8, rfl, rfl, by rw [List.map_append]; exact hb1, by rw [List.map_append]; exact hb2, WR_268.out⟩
              · skip
                go_simp
                have LT_272 : Hid (∀ b ∈ [gp], b < wq.heap.size) := Lib.hid (fun b hm => by have := (BD_7.out.lt kPr_ok b hm); first | exact this | omega | (simp at this; omega))
                have LT_273 : Hid (∀ b ∈ [gt], b < wq.heap.size) := Lib.hid (fun b hm => by have := (BD_8.out.lt kTx_ok b hm); first | exact this | omega | (simp at this; omega))
                have hb_274 : Below wq.drew.heap.size wq.drew (wq.alloc (.cells #[.int .u8 (97 + (k : Int))] 5)).drew := below_alloc_drew _ _
                have hz_275 : wq.heap.size ≤ wq.heap.size + 1 := by have := (hb_274).size; first | omega | (simp at this; omega)
                have c_276 : (wq.alloc (.cells #[.int .u8 (97 + (k : Int))] 5)).drew.cell? ⟨B15, 0, none⟩ = some (.int .i64 qx) := below_later hb_274 c_3; clear c_3
                have c_277 : (wq.alloc (.cells #[.int .u8 (97 + (k : Int))] 5)).drew.cell? ⟨B15, 1, none⟩ = some (.int .i64 qy) := below_later hb_274 c_4; clear c_4
                have c_278 : (wq.alloc (.cells #[.int .u8 (97 + (k : Int))] 5)).drew.cell? ⟨gt, i, none⟩ = some (.string s) := below_later hb_274 c_5; clear c_5
                have hz_279 : w.heap.size + 2 ≤ wq.heap.size + 1 := Nat.le_trans hz_6 hz_275
                have BD_280 := Lib.hid (BD_7.out.later kPr_ok hb_274)
                have BD_281 := Lib.hid (BD_8.out.later kTx_ok hb_274)
                have WR_282 := Lib.hid (Wrote.trans WR_9.out (Wrote.of_below hb_274))
                clear hb_274
                have c_283 : (wq.alloc (.cells #[.int .u8 (97 + (k : Int))] 5)).drew.cell? ⟨wq.heap.size, 0, none⟩ = some (.int .u8 (97 + (k : Int))) := by go_simp
                have z_284 : (wq.alloc (.cells #[.int .u8 (97 + (k : Int))] 5)).drew.frozen? ⟨wq.heap.size, 0, none⟩ = false := by go_simp
                have hz_285 : wq.heap.size < wq.heap.size + 1 := by omega
                have ND_286 : Hid (∀ b ∈ [wq.heap.size], b ∉ [gp]) := Lib.hid (by intro b hb hm; simp only [List.mem_singleton] at hb; subst hb; have := (LT_272.out _ hm); first | omega | (simp at this; omega))
                have ND_287 : Hid (∀ b ∈ [wq.heap.size], b ∉ [gt]) := Lib.hid (by intro b hb hm; simp only [List.mem_singleton] at hb; subst hb; have := (LT_273.out _ hm); first | omega | (simp at this; omega))
                refine hK.out _ _ (Or.inr ?khHeld115) (fun hHeld115S => ?_)
                case khHeld115 => exact ⟨c_276, c_277, c_278⟩
                have hHeld115 := hHeld115S.held (by kernel_rfl)
                clear hK K
                try simp only [Act.put, List.setIfInBounds_toArray, List.set_cons_zero, List.set_cons_succ]
                refine wpG_two (i := 2) (j := 13) (o := { dst := some 87, op := Go.Op.buildSlice 67 1 #[(0, Go.Operand.tmp 86)], type := 67, pos := "l12_machine.go:154", after := #[{ on := 1, ground := Go.Ground.data }], guard := none }) (o' := { dst := some 98, op := Go.Op.convert 85 9 (Go.Operand.tmp 97), type := 9, pos := "l12_machine.go:154", after := #[{ on := 12, ground := Go.Ground.data }], guard := none }) rfl rfl (by kernel_rfl) (fun K hK => ?_) (fun K hK => ?_)
                · skip
                  go_simp
                  have LT_288 : Hid (∀ b ∈ [gp], b < wq.heap.size + 1) := Lib.hid (fun b hm => by have := (BD_280.out.lt kPr_ok b hm); first | exact this | omega | (simp at this; omega))
                  have LT_289 : Hid (∀ b ∈ [gt], b < wq.heap.size + 1) := Lib.hid (fun b hm => by have := (BD_281.out.lt kTx_ok b hm); first | exact this | omega | (simp at this; omega))
                  have hb_290 : Below (wq.alloc (.cells #[.int .u8 (97 + (k : Int))] 5)).drew.heap.size (wq.alloc (.cells #[.int .u8 (97 + (k : Int))] 5)).drew ((wq.alloc (.cells #[.int .u8 (97 + (k : Int))] 5)).alloc (.cells #[.int .i64 qx, .int .i64 qy] 71)).drew := below_alloc_drew _ _
                  have hz_291 : wq.heap.size + 1 ≤ wq.heap.size + 1 + 1 := by have := (hb_290).size; first | omega | (simp at this; omega)
                  have c_292 : ((wq.alloc (.cells #[.int .u8 (97 + (k : Int))] 5)).alloc (.cells #[.int .i64 qx, .int .i64 qy] 71)).drew.cell? ⟨B15, 0, none⟩ = some (.int .i64 qx) := below_later hb_290 c_276; clear c_276
                  have c_293 : ((wq.alloc (.cells #[.int .u8 (97 + (k : Int))] 5)).alloc (.cells #[.int .i64 qx, .int .i64 qy] 71)).drew.cell? ⟨B15, 1, none⟩ = some (.int .i64 qy) := below_later hb_290 c_277; clear c_277
                  have c_294 : ((wq.alloc (.cells #[.int .u8 (97 + (k : Int))] 5)).alloc (.cells #[.int .i64 qx, .int .i64 qy] 71)).drew.cell? ⟨gt, i, none⟩ = some (.string s) := below_later hb_290 c_278; clear c_278
                  have hz_295 : w.heap.size + 2 ≤ wq.heap.size + 1 + 1 := Nat.le_trans hz_279 hz_291
                  have BD_296 := Lib.hid (BD_280.out.later kPr_ok hb_290)
                  have BD_297 := Lib.hid (BD_281.out.later kTx_ok hb_290)
                  have WR_298 := Lib.hid (Wrote.trans WR_282.out (Wrote.of_below hb_290))
                  have c_299 : ((wq.alloc (.cells #[.int .u8 (97 + (k : Int))] 5)).alloc (.cells #[.int .i64 qx, .int .i64 qy] 71)).drew.cell? ⟨wq.heap.size, 0, none⟩ = some (.int .u8 (97 + (k : Int))) := below_later hb_290 c_283; clear c_283
                  have z_300 : ((wq.alloc (.cells #[.int .u8 (97 + (k : Int))] 5)).alloc (.cells #[.int .i64 qx, .int .i64 qy] 71)).drew.frozen? ⟨wq.heap.size, 0, none⟩ = false := (Below.frozen hb_290 (p := ⟨wq.heap.size, 0, none⟩) (by show wq.heap.size < _; first | omega | (simp; done) | (simp; omega))).trans z_284
                  have hz_301 : wq.heap.size + 1 ≤ wq.heap.size + 1 + 1 := Nat.le_trans hz_285 hz_291
                  clear hb_290
                  have c_302 : ((wq.alloc (.cells #[.int .u8 (97 + (k : Int))] 5)).alloc (.cells #[.int .i64 qx, .int .i64 qy] 71)).drew.cell? ⟨wq.heap.size + 1, 0, none⟩ = some (.int .i64 qx) := by go_simp
                  have z_303 : ((wq.alloc (.cells #[.int .u8 (97 + (k : Int))] 5)).alloc (.cells #[.int .i64 qx, .int .i64 qy] 71)).drew.frozen? ⟨wq.heap.size + 1, 0, none⟩ = false := by go_simp
                  have c_304 : ((wq.alloc (.cells #[.int .u8 (97 + (k : Int))] 5)).alloc (.cells #[.int .i64 qx, .int .i64 qy] 71)).drew.cell? ⟨wq.heap.size + 1, 1, none⟩ = some (.int .i64 qy) := by go_simp
                  have z_305 : ((wq.alloc (.cells #[.int .u8 (97 + (k : Int))] 5)).alloc (.cells #[.int .i64 qx, .int .i64 qy] 71)).drew.frozen? ⟨wq.heap.size + 1, 1, none⟩ = false := by go_simp
                  have hz_306 : wq.heap.size + 1 < wq.heap.size + 1 + 1 := by omega
                  have ND_307 : Hid (∀ b ∈ [wq.heap.size + 1], b ∉ [gp]) := Lib.hid (by intro b hb hm; simp only [List.mem_singleton] at hb; subst hb; have := (LT_288.out _ hm); first | omega | (simp at this; omega))
                  have ND_308 : Hid (∀ b ∈ [wq.heap.size + 1], b ∉ [gt]) := Lib.hid (by intro b hb hm; simp only [List.mem_singleton] at hb; subst hb; have := (LT_289.out _ hm); first | omega | (simp at this; omega))
                  refine hK.out _ _ (Or.inr ?khHeld116) (fun hHeld116S => ?_)
                  case khHeld116 => exact ⟨c_292, c_293, c_294⟩
                  have hHeld116 := hHeld116S.held (by kernel_rfl)
                  clear hK K
                  try simp only [Act.put, List.setIfInBounds_toArray, List.set_cons_zero, List.set_cons_succ]
                  refine wpG_two (i := 3) (j := 13) (o := { dst := some 88, op := Go.Op.call { callee := Go.Callee.builtin Go.Builtin.append, args := #[Go.Operand.tmp 85, Go.Operand.tmp 87], argTypes := #[67, 67] }, type := 67, pos := "l12_machine.go:154", after := #[{ on := 0, ground := Go.Ground.data }, { on := 2, ground := Go.Ground.data }], guard := none }) (o' := { dst := some 98, op := Go.Op.convert 85 9 (Go.Operand.tmp 97), type := 9, pos := "l12_machine.go:154", after := #[{ on := 12, ground := Go.Ground.data }], guard := none }) rfl rfl (by kernel_rfl) (fun K hK => ?_) (fun K hK => ?_)
                  · skip
                    have HNB := Lib.hid (news_two c_302 c_304)
                    obtain ⟨vss_309, fps_309, hrow, howl, hfp, hnd, hge⟩ := BD_296.out
                    rw [HLN1.out] at hrow
                    have ROW_309 := Lib.hid hrow; have OWL_309 := Lib.hid howl; have NDU_309 := Lib.hid (hfp ▸ hnd); have GE_309 := Lib.hid (fun b hb => hge b (hfp ▸ hb)); have FPE_309 := Lib.hid hfp; clear hrow howl hnd hge hfp
                    refine step_append_keeps rfl (.tmp 85) (.tmp 87) 67 rfl (w.heap.size + 2) 71 i1 (.agg #[.int .i64 0, .int .i64 0]) 2 16 Try.underlying67 hi1 hy0 hy1 hy2 rfl (by decide) gp L.length cp vss_309.flatten rfl ROW_309.out ⟨wq.heap.size + 1, 0, none⟩ 1 1 [.int .i64 qx, .int .i64 qy] rfl (by rfl) HNB.out (by simp [Value.oneCell']) (by omega) (by unfold maxLen; omega) (by omega) (by first | omega | (simp; omega)) _ rfl ?_
                    intro g7 cp7 w7 hown hgrow hat hlt4 hkeep
                    clear hkeep
                    have HG_310 := Lib.hid hgrow; have HATHG_310 := Lib.hid hat; have HONHG_310 := Lib.hid hown
                    clear hgrow hat hown
                    have hz_311 : wq.heap.size + 1 + 1 ≤ w7.heap.size := by have := HG_310.out.size; first | omega | (simp at this; omega)
                    have LT_312 : Hid (∀ b ∈ [gp], b < wq.heap.size + 1 + 1) := Lib.hid (fun b hm => by have := (BD_296.out.lt kPr_ok b hm); first | exact this | omega | (simp at this; omega))
                    have LT_313 : Hid (∀ b ∈ [gt], b < wq.heap.size + 1 + 1) := Lib.hid (fun b hm => by have := (BD_297.out.lt kTx_ok b hm); first | exact this | omega | (simp at this; omega))
                    have BD_314 := Lib.hid (Bd.app HLN1.out kPr_ok ROW_309.out OWL_309.out NDU_309.out GE_309.out (show kPr.ow [] _ [.int .i64 qx, .int .i64 qy] (qx, qy) from ⟨[], [], [.int .i64 qx], [.int .i64 qy], rfl, rfl, ⟨rfl, rfl, hwx⟩, ⟨rfl, rfl, hwy⟩⟩) List.nodup_nil (fun b hb => absurd hb (by simp)) (fun b hb => absurd hb (by simp)) HONHG_310.out HG_310.out HATHG_310.out (by first | omega | (simp; done) | (simp; omega)))
                    have c_315 : w7.cell? ⟨B15, 0, none⟩ = some (.int .i64 qx) := (HG_310.out.cell_far ⟨B15, 0, none⟩ (World.block_lt_of_cell? _ _ c_292) (fun he => HDP.out _ (by simp) (BD_296.out.own_mem _ he.symm))).trans c_292
                    have c_316 : w7.cell? ⟨B15, 1, none⟩ = some (.int .i64 qy) := (HG_310.out.cell_far ⟨B15, 1, none⟩ (World.block_lt_of_cell? _ _ c_293) (fun he => HDP.out _ (by simp) (BD_296.out.own_mem _ he.symm))).trans c_293
                    have c_317 : w7.cell? ⟨gt, i, none⟩ = some (.string s) := (HG_310.out.cell_far ⟨gt, i, none⟩ (World.block_lt_of_cell? _ _ c_294) (fun he => HTP.out _ (by simp) (BD_296.out.own_mem _ he.symm))).trans c_294
                    have hz_318 : w.heap.size + 2 ≤ w7.heap.size := Nat.le_trans hz_295 hz_311
                    have BD_319 := Lib.hid (BD_297.out.grown kTx_ok HG_310.out (fun k hk hm => HPT.out k (BD_296.out.own_mem k hk) hm))
                    have ND_320 : Hid (∀ b ∈ (g7 :: (fps_309.flatten ++ [])), b ∉ [gt]) := Lib.hid (fun b hm hs => (app_in HATHG_310.out hm).elim (fun h => HPT.out b (FPE_309.out ▸ h) hs) (fun h => h.elim (fun h => by simp at h) (fun h => by have := LT_313.out b hs; first | omega | (simp at h; omega))))
                    have WR_321 := Lib.hid (Wrote.trans WR_298.out (Wrote.mono (Wrote.of_grown HG_310.out) (fun k _ hk => by simp only [Value.ownBlock, Option.some.injEq] at hk; subst hk; first | exact Or.inl rfl | exact Or.inr (Or.inl rfl))))
                    have c_322 : w7.cell? ⟨wq.heap.size, 0, none⟩ = some (.int .u8 (97 + (k : Int))) := (HG_310.out.cell_far ⟨wq.heap.size, 0, none⟩ (World.block_lt_of_cell? _ _ c_299) (fun he => ND_286.out _ (by simp) (BD_296.out.own_mem _ he.symm))).trans c_299
                    have z_323 : w7.frozen? ⟨wq.heap.size, 0, none⟩ = false := (HG_310.out.frozen_far ⟨wq.heap.size, 0, none⟩ (by first | omega | (simp; done) | (simp; omega)) (fun he => ND_286.out _ (by simp) (BD_296.out.own_mem _ he.symm))).trans z_300
                    have hz_324 : wq.heap.size + 1 ≤ w7.heap.size := Nat.le_trans hz_301 hz_311
                    have c_325 : w7.cell? ⟨wq.heap.size + 1, 0, none⟩ = some (.int .i64 qx) := (HG_310.out.cell_far ⟨wq.heap.size + 1, 0, none⟩ (World.block_lt_of_cell? _ _ c_302) (fun he => ND_307.out _ (by simp) (BD_296.out.own_mem _ he.symm))).trans c_302
                    have z_326 : w7.frozen? ⟨wq.heap.size + 1, 0, none⟩ = false := (HG_310.out.frozen_far ⟨wq.heap.size + 1, 0, none⟩ (by first | omega | (simp; done) | (simp; omega)) (fun he => ND_307.out _ (by simp) (BD_296.out.own_mem _ he.symm))).trans z_303
                    have c_327 : w7.cell? ⟨wq.heap.size + 1, 1, none⟩ = some (.int .i64 qy) := (HG_310.out.cell_far ⟨wq.heap.size + 1, 1, none⟩ (World.block_lt_of_cell? _ _ c_304) (fun he => ND_307.out _ (by simp) (BD_296.out.own_mem _ he.symm))).trans c_304
                    have z_328 : w7.frozen? ⟨wq.heap.size + 1, 1, none⟩ = false := (HG_310.out.frozen_far ⟨wq.heap.size + 1, 1, none⟩ (by first | omega | (simp; done) | (simp; omega)) (fun he => ND_307.out _ (by simp) (BD_296.out.own_mem _ he.symm))).trans z_305
                    have hz_329 : wq.heap.size + 1 + 1 ≤ w7.heap.size := Nat.le_trans hz_306 hz_311
                    refine hK.out _ _ (Or.inr ?khHeld117) (fun hHeld117S => ?_)
                    case khHeld117 => exact ⟨c_315, c_316, c_317⟩
                    have hHeld117 := hHeld117S.held (by kernel_rfl)
                    clear hK K
                    try simp only [Act.put, List.setIfInBounds_toArray, List.set_cons_zero, List.set_cons_succ]
                    refine wpG_one (i := 13) (o := { dst := some 98, op := Go.Op.convert 85 9 (Go.Operand.tmp 97), type := 9, pos := "l12_machine.go:154", after := #[{ on := 12, ground := Go.Ground.data }], guard := none }) rfl (by kernel_rfl) (fun K hK => ?_)
                    have hcv := conv_at (w := w7) (b := wq.heap.size) (n := 97 + (k : Int)) c_322
                    go_simp
                    refine hK.out _ _ (Or.inr ?khHeld118) (fun hHeld118S => ?_)
                    case khHeld118 => exact ⟨c_315, c_316, c_317⟩
                    have hHeld118 := hHeld118S.held (by kernel_rfl)
                    clear hK K
                    try simp only [Act.put, List.setIfInBounds_toArray, List.set_cons_zero, List.set_cons_succ]
                    refine wpG_pure (i := 14) (oi := { dst := some 99, op := Go.Op.binOp Go.BinOp.add 9 (Go.Operand.tmp 93) (Go.Operand.tmp 98) 9, type := 9, pos := "l12_machine.go:154", after := #[{ on := 8, ground := Go.Ground.data }, { on := 13, ground := Go.Ground.data }], guard := none }) (v := ?vg119) rfl (by kernel_rfl) (fun _ _ _ h => h) (Or.inr hHeld118) (Or.inl ⟨by rfl, ?yg119⟩) ?_
                    case yg119 => (intro wS _; go_simp <;> with_reducible rfl)
                    try simp only [Act.put, List.setIfInBounds_toArray, List.set_cons_zero, List.set_cons_succ]
                    refine wpG_one (i := 15) (o := { dst := some 100, op := Go.Op.buildSlice 87 1 #[(0, Go.Operand.tmp 99)], type := 87, pos := "l12_machine.go:154", after := #[{ on := 14, ground := Go.Ground.data }], guard := none }) rfl (by kernel_rfl) (fun K hK => ?_)
                    go_simp
                    have LT_330 : Hid (∀ b ∈ (g7 :: (fps_309.flatten ++ [])), b < w7.heap.size) := Lib.hid (fun b hm => by have := (BD_314.out.lt kPr_ok b hm); first | exact this | omega | (simp at this; omega))
                    have LT_331 : Hid (∀ b ∈ [gt], b < w7.heap.size) := Lib.hid (fun b hm => by have := (BD_319.out.lt kTx_ok b hm); first | exact this | omega | (simp at this; omega))
                    have hb_332 : Below w7.heap.size w7 (w7.alloc (.cells #[.string (s ++ dig1 (97 + (k : Int)))] 9)) := (Below.refl _ _).alloc (Nat.le_refl _) _
                    have hz_333 : w7.heap.size ≤ w7.heap.size + 1 := by have := (hb_332).size; first | omega | (simp at this; omega)
                    have c_334 : (w7.alloc (.cells #[.string (s ++ dig1 (97 + (k : Int)))] 9)).cell? ⟨B15, 0, none⟩ = some (.int .i64 qx) := below_later hb_332 c_315; clear c_315
                    have c_335 : (w7.alloc (.cells #[.string (s ++ dig1 (97 + (k : Int)))] 9)).cell? ⟨B15, 1, none⟩ = some (.int .i64 qy) := below_later hb_332 c_316; clear c_316
                    have c_336 : (w7.alloc (.cells #[.string (s ++ dig1 (97 + (k : Int)))] 9)).cell? ⟨gt, i, none⟩ = some (.string s) := below_later hb_332 c_317; clear c_317
                    have hz_337 : w.heap.size + 2 ≤ w7.heap.size + 1 := Nat.le_trans hz_318 hz_333
                    have BD_338 := Lib.hid (BD_314.out.later kPr_ok hb_332)
                    have BD_339 := Lib.hid (BD_319.out.later kTx_ok hb_332)
                    have WR_340 := Lib.hid (Wrote.trans WR_321.out (Wrote.of_below hb_332))
                    clear hb_332
                    have c_341 : (w7.alloc (.cells #[.string (s ++ dig1 (97 + (k : Int)))] 9)).cell? ⟨w7.heap.size, 0, none⟩ = some (.string (s ++ dig1 (97 + (k : Int)))) := by go_simp
                    have z_342 : (w7.alloc (.cells #[.string (s ++ dig1 (97 + (k : Int)))] 9)).frozen? ⟨w7.heap.size, 0, none⟩ = false := by go_simp
                    have hz_343 : w7.heap.size < w7.heap.size + 1 := by omega
                    have ND_344 : Hid (∀ b ∈ [w7.heap.size], b ∉ (g7 :: (fps_309.flatten ++ []))) := Lib.hid (by intro b hb hm; simp only [List.mem_singleton] at hb; subst hb; have := (LT_330.out _ hm); first | omega | (simp at this; omega))
                    have ND_345 : Hid (∀ b ∈ [w7.heap.size], b ∉ [gt]) := Lib.hid (by intro b hb hm; simp only [List.mem_singleton] at hb; subst hb; have := (LT_331.out _ hm); first | omega | (simp at this; omega))
                    refine hK.out _ _ (Or.inr ?khHeld120) (fun hHeld120S => ?_)
                    case khHeld120 => exact ⟨c_334, c_335, c_336⟩
                    have hHeld120 := hHeld120S.held (by kernel_rfl)
                    clear hK K
                    try simp only [Act.put, List.setIfInBounds_toArray, List.set_cons_zero, List.set_cons_succ]
                    refine wpG_one (i := 16) (o := { dst := some 101, op := Go.Op.call { callee := Go.Callee.builtin Go.Builtin.append, args := #[Go.Operand.tmp 89, Go.Operand.tmp 100], argTypes := #[87, 87] }, type := 87, pos := "l12_machine.go:154", after := #[{ on := 4, ground := Go.Ground.data }, { on := 15, ground := Go.Ground.data }, { on := 3, ground := Go.Ground.chain }], guard := none }) rfl (by kernel_rfl) (fun K hK => ?_)
                    obtain ⟨vss_346, fps_346, hrow, howl, hfp, hnd, hge⟩ := BD_339.out
                    rw [HLN2.out] at hrow
                    have ROW_346 := Lib.hid hrow; have OWL_346 := Lib.hid howl; have NDU_346 := Lib.hid (hfp ▸ hnd); have GE_346 := Lib.hid (fun b hb => hge b (hfp ▸ hb)); have FPE_346 := Lib.hid hfp; clear hrow howl hnd hge hfp
                    refine step_append_keeps rfl (.tmp 89) (.tmp 100) 87 rfl (w.heap.size + 2) 9 i2 (.string ByteArray.empty) 1 16 Try.underlying87 hi2 hx0 hx1 hx2 rfl (by decide) gt L.length ct vss_346.flatten rfl ROW_346.out ⟨w7.heap.size, 0, none⟩ 1 1 [.string (s ++ dig1 (97 + (k : Int)))] rfl (by rfl) (news_at c_341) (by simp [Value.oneCell']) (by omega) (by unfold maxLen; omega) (by omega) (by first | omega | (simp; omega)) _ rfl ?_
                    intro g8 cp8 w8 hown hgrow hat hlt4 hkeep
                    have HKTg8 := Lib.hid (hkeep i (.string s) (tx_at OWL_346.out hpi))
                    clear hkeep
                    have HG_347 := Lib.hid hgrow; have HATHG_347 := Lib.hid hat; have HONHG_347 := Lib.hid hown
                    clear hgrow hat hown
                    have hz_348 : w7.heap.size + 1 ≤ w8.heap.size := by have := HG_347.out.size; first | omega | (simp at this; omega)
                    have LT_349 : Hid (∀ b ∈ (g7 :: (fps_309.flatten ++ [])), b < w7.heap.size + 1) := Lib.hid (fun b hm => by have := (BD_338.out.lt kPr_ok b hm); first | exact this | omega | (simp at this; omega))
                    have LT_350 : Hid (∀ b ∈ [gt], b < w7.heap.size + 1) := Lib.hid (fun b hm => by have := (BD_339.out.lt kTx_ok b hm); first | exact this | omega | (simp at this; omega))
                    have BD_351 := Lib.hid (Bd.app HLN2.out kTx_ok ROW_346.out OWL_346.out NDU_346.out GE_346.out (show kTx.ow [] _ [.string (s ++ dig1 (97 + (k : Int)))] (s ++ dig1 (97 + (k : Int))) from ⟨rfl, rfl, hwt⟩) List.nodup_nil (fun b hb => absurd hb (by simp)) (fun b hb => absurd hb (by simp)) HONHG_347.out HG_347.out HATHG_347.out (by first | omega | (simp; done) | (simp; omega)))
                    have c_352 : w8.cell? ⟨B15, 0, none⟩ = some (.int .i64 qx) := (HG_347.out.cell_far ⟨B15, 0, none⟩ (World.block_lt_of_cell? _ _ c_334) (fun he => HDT.out _ (by simp) (BD_339.out.own_mem _ he.symm))).trans c_334
                    have c_353 : w8.cell? ⟨B15, 1, none⟩ = some (.int .i64 qy) := (HG_347.out.cell_far ⟨B15, 1, none⟩ (World.block_lt_of_cell? _ _ c_335) (fun he => HDT.out _ (by simp) (BD_339.out.own_mem _ he.symm))).trans c_335
                    have hz_354 : w.heap.size + 2 ≤ w8.heap.size := Nat.le_trans hz_337 hz_348
                    have BD_355 := Lib.hid (BD_338.out.grown kPr_ok HG_347.out (fun k hk hm => (fun x hx hy => ND_320.out x hy hx) k (BD_339.out.own_mem k hk) hm))
                    have ND_356 : Hid (∀ b ∈ (g8 :: (fps_346.flatten ++ [])), b ∉ (g7 :: (fps_309.flatten ++ []))) := Lib.hid (fun b hm hs => (app_in HATHG_347.out hm).elim (fun h => (fun x hx hy => ND_320.out x hy hx) b (FPE_346.out ▸ h) hs) (fun h => h.elim (fun h => by simp at h) (fun h => by have := LT_349.out b hs; first | omega | (simp at h; omega))))
                    have WR_357 := Lib.hid (Wrote.trans WR_340.out (Wrote.mono (Wrote.of_grown HG_347.out) (fun k _ hk => by simp only [Value.ownBlock, Option.some.injEq] at hk; subst hk; first | exact Or.inl rfl | exact Or.inr (Or.inl rfl))))
                    have c_358 : w8.cell? ⟨w7.heap.size, 0, none⟩ = some (.string (s ++ dig1 (97 + (k : Int)))) := (HG_347.out.cell_far ⟨w7.heap.size, 0, none⟩ (World.block_lt_of_cell? _ _ c_341) (fun he => ND_345.out _ (by simp) (BD_339.out.own_mem _ he.symm))).trans c_341
                    have z_359 : w8.frozen? ⟨w7.heap.size, 0, none⟩ = false := (HG_347.out.frozen_far ⟨w7.heap.size, 0, none⟩ (by first | omega | (simp; done) | (simp; omega)) (fun he => ND_345.out _ (by simp) (BD_339.out.own_mem _ he.symm))).trans z_342
                    have hz_360 : w7.heap.size + 1 ≤ w8.heap.size := Nat.le_trans hz_343 hz_348
                    have htxg8 : w8.cell? ⟨gt, i, none⟩ = some (.string s) := HKTg8.out
                    refine hK.out _ _ (Or.inl (by kernel_rfl)) (fun _ => ?_)
                    clear hK K
                    try simp only [Act.put, List.setIfInBounds_toArray, List.set_cons_zero, List.set_cons_succ]
                    refine wpG_pure (i := 17) (oi := { dst := some 9, op := Go.Op.assign (Go.Operand.tmp 88), type := 67, pos := "l12_machine.go:154", after := #[{ on := 3, ground := Go.Ground.data }, { on := 16, ground := Go.Ground.chain }, { on := 0, ground := Go.Ground.phase }, { on := 1, ground := Go.Ground.phase }, { on := 2, ground := Go.Ground.phase }, { on := 3, ground := Go.Ground.phase }, { on := 4, ground := Go.Ground.textOnly Go.Departure.lateStores }, { on := 5, ground := Go.Ground.textOnly Go.Departure.lateStores }, { on := 6, ground := Go.Ground.textOnly Go.Departure.lateStores }, { on := 7, ground := Go.Ground.textOnly Go.Departure.lateStores }, { on := 8, ground := Go.Ground.textOnly Go.Departure.lateStores }, { on := 9, ground := Go.Ground.textOnly Go.Departure.lateStores }, { on := 10, ground := Go.Ground.textOnly Go.Departure.lateStores }, { on := 11, ground := Go.Ground.textOnly Go.Departure.lateStores }, { on := 12, ground := Go.Ground.textOnly Go.Departure.lateStores }, { on := 13, ground := Go.Ground.textOnly Go.Departure.lateStores }, { on := 14, ground := Go.Ground.textOnly Go.Departure.lateStores }, { on := 15, ground := Go.Ground.textOnly Go.Departure.lateStores }, { on := 16, ground := Go.Ground.textOnly Go.Departure.lateStoresUnsure }], guard := none }) (v := ?vg122) rfl (by kernel_rfl) (fun _ _ _ h => h) (Or.inl (by kernel_rfl)) (Or.inl ⟨by rfl, ?yg122⟩) ?_
                    case yg122 => (intro wS _; go_simp <;> with_reducible rfl)
                    try simp only [Act.put, List.setIfInBounds_toArray, List.set_cons_zero, List.set_cons_succ]
                    refine wpG_pure (i := 18) (oi := { dst := some 10, op := Go.Op.assign (Go.Operand.tmp 101), type := 87, pos := "l12_machine.go:154", after := #[{ on := 16, ground := Go.Ground.data }, { on := 17, ground := Go.Ground.chain }, { on := 0, ground := Go.Ground.phase }, { on := 1, ground := Go.Ground.phase }, { on := 2, ground := Go.Ground.phase }, { on := 3, ground := Go.Ground.phase }, { on := 4, ground := Go.Ground.phase }, { on := 5, ground := Go.Ground.phase }, { on := 6, ground := Go.Ground.phase }, { on := 7, ground := Go.Ground.phase }, { on := 8, ground := Go.Ground.phase }, { on := 9, ground := Go.Ground.phase }, { on := 10, ground := Go.Ground.phase }, { on := 11, ground := Go.Ground.phase }, { on := 12, ground := Go.Ground.phase }, { on := 13, ground := Go.Ground.phase }, { on := 14, ground := Go.Ground.phase }, { on := 15, ground := Go.Ground.phase }, { on := 16, ground := Go.Ground.phase }, { on := 17, ground := Go.Ground.phase }], guard := none }) (v := ?vg123) rfl (by kernel_rfl) (fun _ _ _ h => h) (Or.inl (by kernel_rfl)) (Or.inl ⟨by rfl, ?yg123⟩) ?_
                    case yg123 => (intro wS _; go_simp <;> with_reducible rfl)
                    try simp only [Act.put, List.setIfInBounds_toArray, List.set_cons_zero, List.set_cons_succ]
                    refine wpG_done (by kernel_rfl) ?_
                    go_wp2_with fail
                    go_meet
                    have hb1 := BD_355.out; have hb2 := BD_351.out
                    rw [bd_pr_fp hb1] at hb1; rw [bd_tx_fp hb2] at hb2
                    exact ⟨g7, cp7, g8, cp8, rfl, rfl, by rw [List.map_append]; exact hb1, by rw [List.map_append]; exact hb2, WR_357.out⟩
                  · skip
                    have hcv := conv_at (w := ((wq.alloc (.cells #[.int .u8 (97 + (k : Int))] 5)).alloc (.cells #[.int .i64 qx, .int .i64 qy] 71)).drew) (b := wq.heap.size) (n := 97 + (k : Int)) c_299
                    go_simp
                    refine hK.out _ _ (Or.inr ?khHeld124) (fun hHeld124S => ?_)
                    case khHeld124 => exact ⟨c_292, c_293, c_294⟩
                    have hHeld124 := hHeld124S.held (by kernel_rfl)
                    clear hK K
                    try simp only [Act.put, List.setIfInBounds_toArray, List.set_cons_zero, List.set_cons_succ]
                    refine wpG_pure (i := 14) (oi := { dst := some 99, op := Go.Op.binOp Go.BinOp.add 9 (Go.Operand.tmp 93) (Go.Operand.tmp 98) 9, type := 9, pos := "l12_machine.go:154", after := #[{ on := 8, ground := Go.Ground.data }, { on := 13, ground := Go.Ground.data }], guard := none }) (v := ?vg125) rfl (by kernel_rfl) (fun _ _ _ h => h) (Or.inr hHeld124) (Or.inl ⟨by rfl, ?yg125⟩) ?_
                    case yg125 => (intro wS _; go_simp <;> with_reducible rfl)
                    try simp only [Act.put, List.setIfInBounds_toArray, List.set_cons_zero, List.set_cons_succ]
                    refine wpG_two (i := 3) (j := 15) (o := { dst := some 88, op := Go.Op.call { callee := Go.Callee.builtin Go.Builtin.append, args := #[Go.Operand.tmp 85, Go.Operand.tmp 87], argTypes := #[67, 67] }, type := 67, pos := "l12_machine.go:154", after := #[{ on := 0, ground := Go.Ground.data }, { on := 2, ground := Go.Ground.data }], guard := none }) (o' := { dst := some 100, op := Go.Op.buildSlice 87 1 #[(0, Go.Operand.tmp 99)], type := 87, pos := "l12_machine.go:154", after := #[{ on := 14, ground := Go.Ground.data }], guard := none }) rfl rfl (by kernel_rfl) (fun K hK => ?_) (fun K hK => ?_)
                    · skip
                      have HNB := Lib.hid (news_two c_302 c_304)
                      obtain ⟨vss_361, fps_361, hrow, howl, hfp, hnd, hge⟩ := BD_296.out
                      rw [HLN1.out] at hrow
                      have ROW_361 := Lib.hid hrow; have OWL_361 := Lib.hid howl; have NDU_361 := Lib.hid (hfp ▸ hnd); have GE_361 := Lib.hid (fun b hb => hge b (hfp ▸ hb)); have FPE_361 := Lib.hid hfp; clear hrow howl hnd hge hfp
                      refine step_append_keeps rfl (.tmp 85) (.tmp 87) 67 rfl (w.heap.size + 2) 71 i1 (.agg #[.int .i64 0, .int .i64 0]) 2 16 Try.underlying67 hi1 hy0 hy1 hy2 rfl (by decide) gp L.length cp vss_361.flatten rfl ROW_361.out ⟨wq.heap.size + 1, 0, none⟩ 1 1 [.int .i64 qx, .int .i64 qy] rfl (by rfl) HNB.out (by simp [Value.oneCell']) (by omega) (by unfold maxLen; omega) (by omega) (by first | omega | (simp; omega)) _ rfl ?_
                      intro g7 cp7 w7 hown hgrow hat hlt4 hkeep
                      clear hkeep
                      have HG_362 := Lib.hid hgrow; have HATHG_362 := Lib.hid hat; have HONHG_362 := Lib.hid hown
                      clear hgrow hat hown
                      have hz_363 : wq.heap.size + 1 + 1 ≤ w7.heap.size := by have := HG_362.out.size; first | omega | (simp at this; omega)
                      have LT_364 : Hid (∀ b ∈ [gp], b < wq.heap.size + 1 + 1) := Lib.hid (fun b hm => by have := (BD_296.out.lt kPr_ok b hm); first | exact this | omega | (simp at this; omega))
                      have LT_365 : Hid (∀ b ∈ [gt], b < wq.heap.size + 1 + 1) := Lib.hid (fun b hm => by have := (BD_297.out.lt kTx_ok b hm); first | exact this | omega | (simp at this; omega))
                      have BD_366 := Lib.hid (Bd.app HLN1.out kPr_ok ROW_361.out OWL_361.out NDU_361.out GE_361.out (show kPr.ow [] _ [.int .i64 qx, .int .i64 qy] (qx, qy) from ⟨[], [], [.int .i64 qx], [.int .i64 qy], rfl, rfl, ⟨rfl, rfl, hwx⟩, ⟨rfl, rfl, hwy⟩⟩) List.nodup_nil (fun b hb => absurd hb (by simp)) (fun b hb => absurd hb (by simp)) HONHG_362.out HG_362.out HATHG_362.out (by first | omega | (simp; done) | (simp; omega)))
                      have c_367 : w7.cell? ⟨B15, 0, none⟩ = some (.int .i64 qx) := (HG_362.out.cell_far ⟨B15, 0, none⟩ (World.block_lt_of_cell? _ _ c_292) (fun he => HDP.out _ (by simp) (BD_296.out.own_mem _ he.symm))).trans c_292
                      have c_368 : w7.cell? ⟨B15, 1, none⟩ = some (.int .i64 qy) := (HG_362.out.cell_far ⟨B15, 1, none⟩ (World.block_lt_of_cell? _ _ c_293) (fun he => HDP.out _ (by simp) (BD_296.out.own_mem _ he.symm))).trans c_293
                      have c_369 : w7.cell? ⟨gt, i, none⟩ = some (.string s) := (HG_362.out.cell_far ⟨gt, i, none⟩ (World.block_lt_of_cell? _ _ c_294) (fun he => HTP.out _ (by simp) (BD_296.out.own_mem _ he.symm))).trans c_294
                      have hz_370 : w.heap.size + 2 ≤ w7.heap.size := Nat.le_trans hz_295 hz_363
                      have BD_371 := Lib.hid (BD_297.out.grown kTx_ok HG_362.out (fun k hk hm => HPT.out k (BD_296.out.own_mem k hk) hm))
                      have ND_372 : Hid (∀ b ∈ (g7 :: (fps_361.flatten ++ [])), b ∉ [gt]) := Lib.hid (fun b hm hs => (app_in HATHG_362.out hm).elim (fun h => HPT.out b (FPE_361.out ▸ h) hs) (fun h => h.elim (fun h => by simp at h) (fun h => by have := LT_365.out b hs; first | omega | (simp at h; omega))))
                      have WR_373 := Lib.hid (Wrote.trans WR_298.out (Wrote.mono (Wrote.of_grown HG_362.out) (fun k _ hk => by simp only [Value.ownBlock, Option.some.injEq] at hk; subst hk; first | exact Or.inl rfl | exact Or.inr (Or.inl rfl))))
                      have c_374 : w7.cell? ⟨wq.heap.size + 1, 0, none⟩ = some (.int .i64 qx) := (HG_362.out.cell_far ⟨wq.heap.size + 1, 0, none⟩ (World.block_lt_of_cell? _ _ c_302) (fun he => ND_307.out _ (by simp) (BD_296.out.own_mem _ he.symm))).trans c_302
                      have z_375 : w7.frozen? ⟨wq.heap.size + 1, 0, none⟩ = false := (HG_362.out.frozen_far ⟨wq.heap.size + 1, 0, none⟩ (by first | omega | (simp; done) | (simp; omega)) (fun he => ND_307.out _ (by simp) (BD_296.out.own_mem _ he.symm))).trans z_303
                      have c_376 : w7.cell? ⟨wq.heap.size + 1, 1, none⟩ = some (.int .i64 qy) := (HG_362.out.cell_far ⟨wq.heap.size + 1, 1, none⟩ (World.block_lt_of_cell? _ _ c_304) (fun he => ND_307.out _ (by simp) (BD_296.out.own_mem _ he.symm))).trans c_304
                      have z_377 : w7.frozen? ⟨wq.heap.size + 1, 1, none⟩ = false := (HG_362.out.frozen_far ⟨wq.heap.size + 1, 1, none⟩ (by first | omega | (simp; done) | (simp; omega)) (fun he => ND_307.out _ (by simp) (BD_296.out.own_mem _ he.symm))).trans z_305
                      have hz_378 : wq.heap.size + 1 + 1 ≤ w7.heap.size := Nat.le_trans hz_306 hz_363
                      refine hK.out _ _ (Or.inr ?khHeld126) (fun hHeld126S => ?_)
                      case khHeld126 => exact ⟨c_367, c_368, c_369⟩
                      have hHeld126 := hHeld126S.held (by kernel_rfl)
                      clear hK K
                      try simp only [Act.put, List.setIfInBounds_toArray, List.set_cons_zero, List.set_cons_succ]
                      refine wpG_one (i := 15) (o := { dst := some 100, op := Go.Op.buildSlice 87 1 #[(0, Go.Operand.tmp 99)], type := 87, pos := "l12_machine.go:154", after := #[{ on := 14, ground := Go.Ground.data }], guard := none }) rfl (by kernel_rfl) (fun K hK => ?_)
                      go_simp
                      have LT_379 : Hid (∀ b ∈ (g7 :: (fps_361.flatten ++ [])), b < w7.heap.size) := Lib.hid (fun b hm => by have := (BD_366.out.lt kPr_ok b hm); first | exact this | omega | (simp at this; omega))
                      have LT_380 : Hid (∀ b ∈ [gt], b < w7.heap.size) := Lib.hid (fun b hm => by have := (BD_371.out.lt kTx_ok b hm); first | exact this | omega | (simp at this; omega))
                      have hb_381 : Below w7.heap.size w7 (w7.alloc (.cells #[.string (s ++ dig1 (97 + (k : Int)))] 9)) := (Below.refl _ _).alloc (Nat.le_refl _) _
                      have hz_382 : w7.heap.size ≤ w7.heap.size + 1 := by have := (hb_381).size; first | omega | (simp at this; omega)
                      have c_383 : (w7.alloc (.cells #[.string (s ++ dig1 (97 + (k : Int)))] 9)).cell? ⟨B15, 0, none⟩ = some (.int .i64 qx) := below_later hb_381 c_367; clear c_367
                      have c_384 : (w7.alloc (.cells #[.string (s ++ dig1 (97 + (k : Int)))] 9)).cell? ⟨B15, 1, none⟩ = some (.int .i64 qy) := below_later hb_381 c_368; clear c_368
                      have c_385 : (w7.alloc (.cells #[.string (s ++ dig1 (97 + (k : Int)))] 9)).cell? ⟨gt, i, none⟩ = some (.string s) := below_later hb_381 c_369; clear c_369
                      have hz_386 : w.heap.size + 2 ≤ w7.heap.size + 1 := Nat.le_trans hz_370 hz_382
                      have BD_387 := Lib.hid (BD_366.out.later kPr_ok hb_381)
                      have BD_388 := Lib.hid (BD_371.out.later kTx_ok hb_381)
                      have WR_389 := Lib.hid (Wrote.trans WR_373.out (Wrote.of_below hb_381))
                      clear hb_381
                      have c_390 : (w7.alloc (.cells #[.string (s ++ dig1 (97 + (k : Int)))] 9)).cell? ⟨w7.heap.size, 0, none⟩ = some (.string (s ++ dig1 (97 + (k : Int)))) := by go_simp
                      have z_391 : (w7.alloc (.cells #[.string (s ++ dig1 (97 + (k : Int)))] 9)).frozen? ⟨w7.heap.size, 0, none⟩ = false := by go_simp
                      have hz_392 : w7.heap.size < w7.heap.size + 1 := by omega
                      have ND_393 : Hid (∀ b ∈ [w7.heap.size], b ∉ (g7 :: (fps_361.flatten ++ []))) := Lib.hid (by intro b hb hm; simp only [List.mem_singleton] at hb; subst hb; have := (LT_379.out _ hm); first | omega | (simp at this; omega))
                      have ND_394 : Hid (∀ b ∈ [w7.heap.size], b ∉ [gt]) := Lib.hid (by intro b hb hm; simp only [List.mem_singleton] at hb; subst hb; have := (LT_380.out _ hm); first | omega | (simp at this; omega))
                      refine hK.out _ _ (Or.inr ?khHeld127) (fun hHeld127S => ?_)
                      case khHeld127 => exact ⟨c_383, c_384, c_385⟩
                      have hHeld127 := hHeld127S.held (by kernel_rfl)
                      clear hK K
                      try simp only [Act.put, List.setIfInBounds_toArray, List.set_cons_zero, List.set_cons_succ]
                      refine wpG_one (i := 16) (o := { dst := some 101, op := Go.Op.call { callee := Go.Callee.builtin Go.Builtin.append, args := #[Go.Operand.tmp 89, Go.Operand.tmp 100], argTypes := #[87, 87] }, type := 87, pos := "l12_machine.go:154", after := #[{ on := 4, ground := Go.Ground.data }, { on := 15, ground := Go.Ground.data }, { on := 3, ground := Go.Ground.chain }], guard := none }) rfl (by kernel_rfl) (fun K hK => ?_)
                      obtain ⟨vss_395, fps_395, hrow, howl, hfp, hnd, hge⟩ := BD_388.out
                      rw [HLN2.out] at hrow
                      have ROW_395 := Lib.hid hrow; have OWL_395 := Lib.hid howl; have NDU_395 := Lib.hid (hfp ▸ hnd); have GE_395 := Lib.hid (fun b hb => hge b (hfp ▸ hb)); have FPE_395 := Lib.hid hfp; clear hrow howl hnd hge hfp
                      refine step_append_keeps rfl (.tmp 89) (.tmp 100) 87 rfl (w.heap.size + 2) 9 i2 (.string ByteArray.empty) 1 16 Try.underlying87 hi2 hx0 hx1 hx2 rfl (by decide) gt L.length ct vss_395.flatten rfl ROW_395.out ⟨w7.heap.size, 0, none⟩ 1 1 [.string (s ++ dig1 (97 + (k : Int)))] rfl (by rfl) (news_at c_390) (by simp [Value.oneCell']) (by omega) (by unfold maxLen; omega) (by omega) (by first | omega | (simp; omega)) _ rfl ?_
                      intro g8 cp8 w8 hown hgrow hat hlt4 hkeep
                      have HKTg8 := Lib.hid (hkeep i (.string s) (tx_at OWL_395.out hpi))
                      clear hkeep
                      have HG_396 := Lib.hid hgrow; have HATHG_396 := Lib.hid hat; have HONHG_396 := Lib.hid hown
                      clear hgrow hat hown
                      have hz_397 : w7.heap.size + 1 ≤ w8.heap.size := by have := HG_396.out.size; first | omega | (simp at this; omega)
                      have LT_398 : Hid (∀ b ∈ (g7 :: (fps_361.flatten ++ [])), b < w7.heap.size + 1) := Lib.hid (fun b hm => by have := (BD_387.out.lt kPr_ok b hm); first | exact this | omega | (simp at this; omega))
                      have LT_399 : Hid (∀ b ∈ [gt], b < w7.heap.size + 1) := Lib.hid (fun b hm => by have := (BD_388.out.lt kTx_ok b hm); first | exact this | omega | (simp at this; omega))
                      have BD_400 := Lib.hid (Bd.app HLN2.out kTx_ok ROW_395.out OWL_395.out NDU_395.out GE_395.out (show kTx.ow [] _ [.string (s ++ dig1 (97 + (k : Int)))] (s ++ dig1 (97 + (k : Int))) from ⟨rfl, rfl, hwt⟩) List.nodup_nil (fun b hb => absurd hb (by simp)) (fun b hb => absurd hb (by simp)) HONHG_396.out HG_396.out HATHG_396.out (by first | omega | (simp; done) | (simp; omega)))
                      have c_401 : w8.cell? ⟨B15, 0, none⟩ = some (.int .i64 qx) := (HG_396.out.cell_far ⟨B15, 0, none⟩ (World.block_lt_of_cell? _ _ c_383) (fun he => HDT.out _ (by simp) (BD_388.out.own_mem _ he.symm))).trans c_383
                      have c_402 : w8.cell? ⟨B15, 1, none⟩ = some (.int .i64 qy) := (HG_396.out.cell_far ⟨B15, 1, none⟩ (World.block_lt_of_cell? _ _ c_384) (fun he => HDT.out _ (by simp) (BD_388.out.own_mem _ he.symm))).trans c_384
                      have hz_403 : w.heap.size + 2 ≤ w8.heap.size := Nat.le_trans hz_386 hz_397
                      have BD_404 := Lib.hid (BD_387.out.grown kPr_ok HG_396.out (fun k hk hm => (fun x hx hy => ND_372.out x hy hx) k (BD_388.out.own_mem k hk) hm))
                      have ND_405 : Hid (∀ b ∈ (g8 :: (fps_395.flatten ++ [])), b ∉ (g7 :: (fps_361.flatten ++ []))) := Lib.hid (fun b hm hs => (app_in HATHG_396.out hm).elim (fun h => (fun x hx hy => ND_372.out x hy hx) b (FPE_395.out ▸ h) hs) (fun h => h.elim (fun h => by simp at h) (fun h => by have := LT_398.out b hs; first | omega | (simp at h; omega))))
                      have WR_406 := Lib.hid (Wrote.trans WR_389.out (Wrote.mono (Wrote.of_grown HG_396.out) (fun k _ hk => by simp only [Value.ownBlock, Option.some.injEq] at hk; subst hk; first | exact Or.inl rfl | exact Or.inr (Or.inl rfl))))
                      have c_407 : w8.cell? ⟨w7.heap.size, 0, none⟩ = some (.string (s ++ dig1 (97 + (k : Int)))) := (HG_396.out.cell_far ⟨w7.heap.size, 0, none⟩ (World.block_lt_of_cell? _ _ c_390) (fun he => ND_394.out _ (by simp) (BD_388.out.own_mem _ he.symm))).trans c_390
                      have z_408 : w8.frozen? ⟨w7.heap.size, 0, none⟩ = false := (HG_396.out.frozen_far ⟨w7.heap.size, 0, none⟩ (by first | omega | (simp; done) | (simp; omega)) (fun he => ND_394.out _ (by simp) (BD_388.out.own_mem _ he.symm))).trans z_391
                      have hz_409 : w7.heap.size + 1 ≤ w8.heap.size := Nat.le_trans hz_392 hz_397
                      have htxg8 : w8.cell? ⟨gt, i, none⟩ = some (.string s) := HKTg8.out
                      refine hK.out _ _ (Or.inl (by kernel_rfl)) (fun _ => ?_)
                      clear hK K
                      try simp only [Act.put, List.setIfInBounds_toArray, List.set_cons_zero, List.set_cons_succ]
                      refine wpG_pure (i := 17) (oi := { dst := some 9, op := Go.Op.assign (Go.Operand.tmp 88), type := 67, pos := "l12_machine.go:154", after := #[{ on := 3, ground := Go.Ground.data }, { on := 16, ground := Go.Ground.chain }, { on := 0, ground := Go.Ground.phase }, { on := 1, ground := Go.Ground.phase }, { on := 2, ground := Go.Ground.phase }, { on := 3, ground := Go.Ground.phase }, { on := 4, ground := Go.Ground.textOnly Go.Departure.lateStores }, { on := 5, ground := Go.Ground.textOnly Go.Departure.lateStores }, { on := 6, ground := Go.Ground.textOnly Go.Departure.lateStores }, { on := 7, ground := Go.Ground.textOnly Go.Departure.lateStores }, { on := 8, ground := Go.Ground.textOnly Go.Departure.lateStores }, { on := 9, ground := Go.Ground.textOnly Go.Departure.lateStores }, { on := 10, ground := Go.Ground.textOnly Go.Departure.lateStores }, { on := 11, ground := Go.Ground.textOnly Go.Departure.lateStores }, { on := 12, ground := Go.Ground.textOnly Go.Departure.lateStores }, { on := 13, ground := Go.Ground.textOnly Go.Departure.lateStores }, { on := 14, ground := Go.Ground.textOnly Go.Departure.lateStores }, { on := 15, ground := Go.Ground.textOnly Go.Departure.lateStores }, { on := 16, ground := Go.Ground.textOnly Go.Departure.lateStoresUnsure }], guard := none }) (v := ?vg129) rfl (by kernel_rfl) (fun _ _ _ h => h) (Or.inl (by kernel_rfl)) (Or.inl ⟨by rfl, ?yg129⟩) ?_
                      case yg129 => (intro wS _; go_simp <;> with_reducible rfl)
                      try simp only [Act.put, List.setIfInBounds_toArray, List.set_cons_zero, List.set_cons_succ]
                      refine wpG_pure (i := 18) (oi := { dst := some 10, op := Go.Op.assign (Go.Operand.tmp 101), type := 87, pos := "l12_machine.go:154", after := #[{ on := 16, ground := Go.Ground.data }, { on := 17, ground := Go.Ground.chain }, { on := 0, ground := Go.Ground.phase }, { on := 1, ground := Go.Ground.phase }, { on := 2, ground := Go.Ground.phase }, { on := 3, ground := Go.Ground.phase }, { on := 4, ground := Go.Ground.phase }, { on := 5, ground := Go.Ground.phase }, { on := 6, ground := Go.Ground.phase }, { on := 7, ground := Go.Ground.phase }, { on := 8, ground := Go.Ground.phase }, { on := 9, ground := Go.Ground.phase }, { on := 10, ground := Go.Ground.phase }, { on := 11, ground := Go.Ground.phase }, { on := 12, ground := Go.Ground.phase }, { on := 13, ground := Go.Ground.phase }, { on := 14, ground := Go.Ground.phase }, { on := 15, ground := Go.Ground.phase }, { on := 16, ground := Go.Ground.phase }, { on := 17, ground := Go.Ground.phase }], guard := none }) (v := ?vg130) rfl (by kernel_rfl) (fun _ _ _ h => h) (Or.inl (by kernel_rfl)) (Or.inl ⟨by rfl, ?yg130⟩) ?_
                      case yg130 => (intro wS _; go_simp <;> with_reducible rfl)
                      try simp only [Act.put, List.setIfInBounds_toArray, List.set_cons_zero, List.set_cons_succ]
                      refine wpG_done (by kernel_rfl) ?_
                      go_wp2_with fail
                      go_meet
                      have hb1 := BD_404.out; have hb2 := BD_400.out
                      rw [bd_pr_fp hb1] at hb1; rw [bd_tx_fp hb2] at hb2
                      exact ⟨g7, cp7, g8, cp8, rfl, rfl, by rw [List.map_append]; exact hb1, by rw [List.map_append]; exact hb2, WR_406.out⟩
                    · skip
                      go_simp
                      have LT_410 : Hid (∀ b ∈ [gp], b < wq.heap.size + 1 + 1) := Lib.hid (fun b hm => by have := (BD_296.out.lt kPr_ok b hm); first | exact this | omega | (simp at this; omega))
                      have LT_411 : Hid (∀ b ∈ [gt], b < wq.heap.size + 1 + 1) := Lib.hid (fun b hm => by have := (BD_297.out.lt kTx_ok b hm); first | exact this | omega | (simp at this; omega))
                      have hb_412 : Below ((wq.alloc (.cells #[.int .u8 (97 + (k : Int))] 5)).alloc (.cells #[.int .i64 qx, .int .i64 qy] 71)).drew.heap.size ((wq.alloc (.cells #[.int .u8 (97 + (k : Int))] 5)).alloc (.cells #[.int .i64 qx, .int .i64 qy] 71)).drew (((wq.alloc (.cells #[.int .u8 (97 + (k : Int))] 5)).alloc (.cells #[.int .i64 qx, .int .i64 qy] 71)).alloc (.cells #[.string (s ++ dig1 (97 + (k : Int)))] 9)).drew := below_alloc_drew _ _
                      have hz_413 : wq.heap.size + 1 + 1 ≤ wq.heap.size + 1 + 1 + 1 := by have := (hb_412).size; first | omega | (simp at this; omega)
                      have c_414 : (((wq.alloc (.cells #[.int .u8 (97 + (k : Int))] 5)).alloc (.cells #[.int .i64 qx, .int .i64 qy] 71)).alloc (.cells #[.string (s ++ dig1 (97 + (k : Int)))] 9)).drew.cell? ⟨B15, 0, none⟩ = some (.int .i64 qx) := below_later hb_412 c_292; clear c_292
                      have c_415 : (((wq.alloc (.cells #[.int .u8 (97 + (k : Int))] 5)).alloc (.cells #[.int .i64 qx, .int .i64 qy] 71)).alloc (.cells #[.string (s ++ dig1 (97 + (k : Int)))] 9)).drew.cell? ⟨B15, 1, none⟩ = some (.int .i64 qy) := below_later hb_412 c_293; clear c_293
                      have c_416 : (((wq.alloc (.cells #[.int .u8 (97 + (k : Int))] 5)).alloc (.cells #[.int .i64 qx, .int .i64 qy] 71)).alloc (.cells #[.string (s ++ dig1 (97 + (k : Int)))] 9)).drew.cell? ⟨gt, i, none⟩ = some (.string s) := below_later hb_412 c_294; clear c_294
                      have hz_417 : w.heap.size + 2 ≤ wq.heap.size + 1 + 1 + 1 := Nat.le_trans hz_295 hz_413
                      have BD_418 := Lib.hid (BD_296.out.later kPr_ok hb_412)
                      have BD_419 := Lib.hid (BD_297.out.later kTx_ok hb_412)
                      have WR_420 := Lib.hid (Wrote.trans WR_298.out (Wrote.of_below hb_412))
                      have c_421 : (((wq.alloc (.cells #[.int .u8 (97 + (k : Int))] 5)).alloc (.cells #[.int .i64 qx, .int .i64 qy] 71)).alloc (.cells #[.string (s ++ dig1 (97 + (k : Int)))] 9)).drew.cell? ⟨wq.heap.size + 1, 0, none⟩ = some (.int .i64 qx) := below_later hb_412 c_302; clear c_302
                      have z_422 : (((wq.alloc (.cells #[.int .u8 (97 + (k : Int))] 5)).alloc (.cells #[.int .i64 qx, .int .i64 qy] 71)).alloc (.cells #[.string (s ++ dig1 (97 + (k : Int)))] 9)).drew.frozen? ⟨wq.heap.size + 1, 0, none⟩ = false := (Below.frozen hb_412 (p := ⟨wq.heap.size + 1, 0, none⟩) (by show wq.heap.size + 1 < _; first | omega | (simp; done) | (simp; omega))).trans z_303
                      have c_423 : (((wq.alloc (.cells #[.int .u8 (97 + (k : Int))] 5)).alloc (.cells #[.int .i64 qx, .int .i64 qy] 71)).alloc (.cells #[.string (s ++ dig1 (97 + (k : Int)))] 9)).drew.cell? ⟨wq.heap.size + 1, 1, none⟩ = some (.int .i64 qy) := below_later hb_412 c_304; clear c_304
                      have z_424 : (((wq.alloc (.cells #[.int .u8 (97 + (k : Int))] 5)).alloc (.cells #[.int .i64 qx, .int .i64 qy] 71)).alloc (.cells #[.string (s ++ dig1 (97 + (k : Int)))] 9)).drew.frozen? ⟨wq.heap.size + 1, 1, none⟩ = false := (Below.frozen hb_412 (p := ⟨wq.heap.size + 1, 1, none⟩) (by show wq.heap.size + 1 < _; first | omega | (simp; done) | (simp; omega))).trans z_305
                      have hz_425 : wq.heap.size + 1 + 1 ≤ wq.heap.size + 1 + 1 + 1 := Nat.le_trans hz_306 hz_413
                      clear hb_412
                      have c_426 : (((wq.alloc (.cells #[.int .u8 (97 + (k : Int))] 5)).alloc (.cells #[.int .i64 qx, .int .i64 qy] 71)).alloc (.cells #[.string (s ++ dig1 (97 + (k : Int)))] 9)).drew.cell? ⟨wq.heap.size + 1 + 1, 0, none⟩ = some (.string (s ++ dig1 (97 + (k : Int)))) := by go_simp
                      have z_427 : (((wq.alloc (.cells #[.int .u8 (97 + (k : Int))] 5)).alloc (.cells #[.int .i64 qx, .int .i64 qy] 71)).alloc (.cells #[.string (s ++ dig1 (97 + (k : Int)))] 9)).drew.frozen? ⟨wq.heap.size + 1 + 1, 0, none⟩ = false := by go_simp
                      have hz_428 : wq.heap.size + 1 + 1 < wq.heap.size + 1 + 1 + 1 := by omega
                      have ND_429 : Hid (∀ b ∈ [wq.heap.size + 1 + 1], b ∉ [gp]) := Lib.hid (by intro b hb hm; simp only [List.mem_singleton] at hb; subst hb; have := (LT_410.out _ hm); first | omega | (simp at this; omega))
                      have ND_430 : Hid (∀ b ∈ [wq.heap.size + 1 + 1], b ∉ [gt]) := Lib.hid (by intro b hb hm; simp only [List.mem_singleton] at hb; subst hb; have := (LT_411.out _ hm); first | omega | (simp at this; omega))
                      refine hK.out _ _ (Or.inr ?khHeld131) (fun hHeld131S => ?_)
                      case khHeld131 => exact ⟨c_414, c_415, c_416⟩
                      have hHeld131 := hHeld131S.held (by kernel_rfl)
                      clear hK K
                      try simp only [Act.put, List.setIfInBounds_toArray, List.set_cons_zero, List.set_cons_succ]
                      refine wpG_one (i := 3) (o := { dst := some 88, op := Go.Op.call { callee := Go.Callee.builtin Go.Builtin.append, args := #[Go.Operand.tmp 85, Go.Operand.tmp 87], argTypes := #[67, 67] }, type := 67, pos := "l12_machine.go:154", after := #[{ on := 0, ground := Go.Ground.data }, { on := 2, ground := Go.Ground.data }], guard := none }) rfl (by kernel_rfl) (fun K hK => ?_)
                      have HNB := Lib.hid (news_two c_421 c_423)
                      obtain ⟨vss_431, fps_431, hrow, howl, hfp, hnd, hge⟩ := BD_418.out
                      rw [HLN1.out] at hrow
                      have ROW_431 := Lib.hid hrow; have OWL_431 := Lib.hid howl; have NDU_431 := Lib.hid (hfp ▸ hnd); have GE_431 := Lib.hid (fun b hb => hge b (hfp ▸ hb)); have FPE_431 := Lib.hid hfp; clear hrow howl hnd hge hfp
                      refine step_append_keeps rfl (.tmp 85) (.tmp 87) 67 rfl (w.heap.size + 2) 71 i1 (.agg #[.int .i64 0, .int .i64 0]) 2 16 Try.underlying67 hi1 hy0 hy1 hy2 rfl (by decide) gp L.length cp vss_431.flatten rfl ROW_431.out ⟨wq.heap.size + 1, 0, none⟩ 1 1 [.int .i64 qx, .int .i64 qy] rfl (by rfl) HNB.out (by simp [Value.oneCell']) (by omega) (by unfold maxLen; omega) (by omega) (by first | omega | (simp; omega)) _ rfl ?_
                      intro g7 cp7 w7 hown hgrow hat hlt4 hkeep
                      clear hkeep
                      have HG_432 := Lib.hid hgrow; have HATHG_432 := Lib.hid hat; have HONHG_432 := Lib.hid hown
                      clear hgrow hat hown
                      have hz_433 : wq.heap.size + 1 + 1 + 1 ≤ w7.heap.size := by have := HG_432.out.size; first | omega | (simp at this; omega)
                      have LT_434 : Hid (∀ b ∈ [gp], b < wq.heap.size + 1 + 1 + 1) := Lib.hid (fun b hm => by have := (BD_418.out.lt kPr_ok b hm); first | exact this | omega | (simp at this; omega))
                      have LT_435 : Hid (∀ b ∈ [gt], b < wq.heap.size + 1 + 1 + 1) := Lib.hid (fun b hm => by have := (BD_419.out.lt kTx_ok b hm); first | exact this | omega | (simp at this; omega))
                      have BD_436 := Lib.hid (Bd.app HLN1.out kPr_ok ROW_431.out OWL_431.out NDU_431.out GE_431.out (show kPr.ow [] _ [.int .i64 qx, .int .i64 qy] (qx, qy) from ⟨[], [], [.int .i64 qx], [.int .i64 qy], rfl, rfl, ⟨rfl, rfl, hwx⟩, ⟨rfl, rfl, hwy⟩⟩) List.nodup_nil (fun b hb => absurd hb (by simp)) (fun b hb => absurd hb (by simp)) HONHG_432.out HG_432.out HATHG_432.out (by first | omega | (simp; done) | (simp; omega)))
                      have c_437 : w7.cell? ⟨B15, 0, none⟩ = some (.int .i64 qx) := (HG_432.out.cell_far ⟨B15, 0, none⟩ (World.block_lt_of_cell? _ _ c_414) (fun he => HDP.out _ (by simp) (BD_418.out.own_mem _ he.symm))).trans c_414
                      have c_438 : w7.cell? ⟨B15, 1, none⟩ = some (.int .i64 qy) := (HG_432.out.cell_far ⟨B15, 1, none⟩ (World.block_lt_of_cell? _ _ c_415) (fun he => HDP.out _ (by simp) (BD_418.out.own_mem _ he.symm))).trans c_415
                      have c_439 : w7.cell? ⟨gt, i, none⟩ = some (.string s) := (HG_432.out.cell_far ⟨gt, i, none⟩ (World.block_lt_of_cell? _ _ c_416) (fun he => HTP.out _ (by simp) (BD_418.out.own_mem _ he.symm))).trans c_416
                      have hz_440 : w.heap.size + 2 ≤ w7.heap.size := Nat.le_trans hz_417 hz_433
                      have BD_441 := Lib.hid (BD_419.out.grown kTx_ok HG_432.out (fun k hk hm => HPT.out k (BD_418.out.own_mem k hk) hm))
                      have ND_442 : Hid (∀ b ∈ (g7 :: (fps_431.flatten ++ [])), b ∉ [gt]) := Lib.hid (fun b hm hs => (app_in HATHG_432.out hm).elim (fun h => HPT.out b (FPE_431.out ▸ h) hs) (fun h => h.elim (fun h => by simp at h) (fun h => by have := LT_435.out b hs; first | omega | (simp at h; omega))))
                      have WR_443 := Lib.hid (Wrote.trans WR_420.out (Wrote.mono (Wrote.of_grown HG_432.out) (fun k _ hk => by simp only [Value.ownBlock, Option.some.injEq] at hk; subst hk; first | exact Or.inl rfl | exact Or.inr (Or.inl rfl))))
                      have c_444 : w7.cell? ⟨wq.heap.size + 1, 0, none⟩ = some (.int .i64 qx) := (HG_432.out.cell_far ⟨wq.heap.size + 1, 0, none⟩ (World.block_lt_of_cell? _ _ c_421) (fun he => ND_307.out _ (by simp) (BD_418.out.own_mem _ he.symm))).trans c_421
                      have z_445 : w7.frozen? ⟨wq.heap.size + 1, 0, none⟩ = false := (HG_432.out.frozen_far ⟨wq.heap.size + 1, 0, none⟩ (by first | omega | (simp; done) | (simp; omega)) (fun he => ND_307.out _ (by simp) (BD_418.out.own_mem _ he.symm))).trans z_422
                      have c_446 : w7.cell? ⟨wq.heap.size + 1, 1, none⟩ = some (.int .i64 qy) := (HG_432.out.cell_far ⟨wq.heap.size + 1, 1, none⟩ (World.block_lt_of_cell? _ _ c_423) (fun he => ND_307.out _ (by simp) (BD_418.out.own_mem _ he.symm))).trans c_423
                      have z_447 : w7.frozen? ⟨wq.heap.size + 1, 1, none⟩ = false := (HG_432.out.frozen_far ⟨wq.heap.size + 1, 1, none⟩ (by first | omega | (simp; done) | (simp; omega)) (fun he => ND_307.out _ (by simp) (BD_418.out.own_mem _ he.symm))).trans z_424
                      have hz_448 : wq.heap.size + 1 + 1 ≤ w7.heap.size := Nat.le_trans hz_425 hz_433
                      have c_449 : w7.cell? ⟨wq.heap.size + 1 + 1, 0, none⟩ = some (.string (s ++ dig1 (97 + (k : Int)))) := (HG_432.out.cell_far ⟨wq.heap.size + 1 + 1, 0, none⟩ (World.block_lt_of_cell? _ _ c_426) (fun he => ND_429.out _ (by simp) (BD_418.out.own_mem _ he.symm))).trans c_426
                      have z_450 : w7.frozen? ⟨wq.heap.size + 1 + 1, 0, none⟩ = false := (HG_432.out.frozen_far ⟨wq.heap.size + 1 + 1, 0, none⟩ (by first | omega | (simp; done) | (simp; omega)) (fun he => ND_429.out _ (by simp) (BD_418.out.own_mem _ he.symm))).trans z_427
                      have hz_451 : wq.heap.size + 1 + 1 + 1 ≤ w7.heap.size := Nat.le_trans hz_428 hz_433
                      refine hK.out _ _ (Or.inr ?khHeld132) (fun hHeld132S => ?_)
                      case khHeld132 => exact ⟨c_437, c_438, c_439⟩
                      have hHeld132 := hHeld132S.held (by kernel_rfl)
                      clear hK K
                      try simp only [Act.put, List.setIfInBounds_toArray, List.set_cons_zero, List.set_cons_succ]
                      refine wpG_one (i := 16) (o := { dst := some 101, op := Go.Op.call { callee := Go.Callee.builtin Go.Builtin.append, args := #[Go.Operand.tmp 89, Go.Operand.tmp 100], argTypes := #[87, 87] }, type := 87, pos := "l12_machine.go:154", after := #[{ on := 4, ground := Go.Ground.data }, { on := 15, ground := Go.Ground.data }, { on := 3, ground := Go.Ground.chain }], guard := none }) rfl (by kernel_rfl) (fun K hK => ?_)
                      obtain ⟨vss_452, fps_452, hrow, howl, hfp, hnd, hge⟩ := BD_441.out
                      rw [HLN2.out] at hrow
                      have ROW_452 := Lib.hid hrow; have OWL_452 := Lib.hid howl; have NDU_452 := Lib.hid (hfp ▸ hnd); have GE_452 := Lib.hid (fun b hb => hge b (hfp ▸ hb)); have FPE_452 := Lib.hid hfp; clear hrow howl hnd hge hfp
                      refine step_append_keeps rfl (.tmp 89) (.tmp 100) 87 rfl (w.heap.size + 2) 9 i2 (.string ByteArray.empty) 1 16 Try.underlying87 hi2 hx0 hx1 hx2 rfl (by decide) gt L.length ct vss_452.flatten rfl ROW_452.out ⟨wq.heap.size + 1 + 1, 0, none⟩ 1 1 [.string (s ++ dig1 (97 + (k : Int)))] rfl (by rfl) (news_at c_449) (by simp [Value.oneCell']) (by omega) (by unfold maxLen; omega) (by omega) (by first | omega | (simp; omega)) _ rfl ?_
                      intro g8 cp8 w8 hown hgrow hat hlt4 hkeep
                      have HKTg8 := Lib.hid (hkeep i (.string s) (tx_at OWL_452.out hpi))
                      clear hkeep
                      have HG_453 := Lib.hid hgrow; have HATHG_453 := Lib.hid hat; have HONHG_453 := Lib.hid hown
                      clear hgrow hat hown
                      have hz_454 : w7.heap.size ≤ w8.heap.size := by have := HG_453.out.size; first | omega | (simp at this; omega)
                      have LT_455 : Hid (∀ b ∈ (g7 :: (fps_431.flatten ++ [])), b < w7.heap.size) := Lib.hid (fun b hm => by have := (BD_436.out.lt kPr_ok b hm); first | exact this | omega | (simp at this; omega))
                      have LT_456 : Hid (∀ b ∈ [gt], b < w7.heap.size) := Lib.hid (fun b hm => by have := (BD_441.out.lt kTx_ok b hm); first | exact this | omega | (simp at this; omega))
                      have BD_457 := Lib.hid (Bd.app HLN2.out kTx_ok ROW_452.out OWL_452.out NDU_452.out GE_452.out (show kTx.ow [] _ [.string (s ++ dig1 (97 + (k : Int)))] (s ++ dig1 (97 + (k : Int))) from ⟨rfl, rfl, hwt⟩) List.nodup_nil (fun b hb => absurd hb (by simp)) (fun b hb => absurd hb (by simp)) HONHG_453.out HG_453.out HATHG_453.out (by first | omega | (simp; done) | (simp; omega)))
                      have c_458 : w8.cell? ⟨B15, 0, none⟩ = some (.int .i64 qx) := (HG_453.out.cell_far ⟨B15, 0, none⟩ (World.block_lt_of_cell? _ _ c_437) (fun he => HDT.out _ (by simp) (BD_441.out.own_mem _ he.symm))).trans c_437
                      have c_459 : w8.cell? ⟨B15, 1, none⟩ = some (.int .i64 qy) := (HG_453.out.cell_far ⟨B15, 1, none⟩ (World.block_lt_of_cell? _ _ c_438) (fun he => HDT.out _ (by simp) (BD_441.out.own_mem _ he.symm))).trans c_438
                      have hz_460 : w.heap.size + 2 ≤ w8.heap.size := Nat.le_trans hz_440 hz_454
                      have BD_461 := Lib.hid (BD_436.out.grown kPr_ok HG_453.out (fun k hk hm => (fun x hx hy => ND_442.out x hy hx) k (BD_441.out.own_mem k hk) hm))
                      have ND_462 : Hid (∀ b ∈ (g8 :: (fps_452.flatten ++ [])), b ∉ (g7 :: (fps_431.flatten ++ []))) := Lib.hid (fun b hm hs => (app_in HATHG_453.out hm).elim (fun h => (fun x hx hy => ND_442.out x hy hx) b (FPE_452.out ▸ h) hs) (fun h => h.elim (fun h => by simp at h) (fun h => by have := LT_455.out b hs; first | omega | (simp at h; omega))))
                      have WR_463 := Lib.hid (Wrote.trans WR_443.out (Wrote.mono (Wrote.of_grown HG_453.out) (fun k _ hk => by simp only [Value.ownBlock, Option.some.injEq] at hk; subst hk; first | exact Or.inl rfl | exact Or.inr (Or.inl rfl))))
                      have c_464 : w8.cell? ⟨wq.heap.size + 1 + 1, 0, none⟩ = some (.string (s ++ dig1 (97 + (k : Int)))) := (HG_453.out.cell_far ⟨wq.heap.size + 1 + 1, 0, none⟩ (World.block_lt_of_cell? _ _ c_449) (fun he => ND_430.out _ (by simp) (BD_441.out.own_mem _ he.symm))).trans c_449
                      have z_465 : w8.frozen? ⟨wq.heap.size + 1 + 1, 0, none⟩ = false := (HG_453.out.frozen_far ⟨wq.heap.size + 1 + 1, 0, none⟩ (by first | omega | (simp; done) | (simp; omega)) (fun he => ND_430.out _ (by simp) (BD_441.out.own_mem _ he.symm))).trans z_450
                      have hz_466 : wq.heap.size + 1 + 1 + 1 ≤ w8.heap.size := Nat.le_trans hz_451 hz_454
                      have htxg8 : w8.cell? ⟨gt, i, none⟩ = some (.string s) := HKTg8.out
                      refine hK.out _ _ (Or.inl (by kernel_rfl)) (fun _ => ?_)
                      clear hK K
                      try simp only [Act.put, List.setIfInBounds_toArray, List.set_cons_zero, List.set_cons_succ]
                      refine wpG_pure (i := 17) (oi := { dst := some 9, op := Go.Op.assign (Go.Operand.tmp 88), type := 67, pos := "l12_machine.go:154", after := #[{ on := 3, ground := Go.Ground.data }, { on := 16, ground := Go.Ground.chain }, { on := 0, ground := Go.Ground.phase }, { on := 1, ground := Go.Ground.phase }, { on := 2, ground := Go.Ground.phase }, { on := 3, ground := Go.Ground.phase }, { on := 4, ground := Go.Ground.textOnly Go.Departure.lateStores }, { on := 5, ground := Go.Ground.textOnly Go.Departure.lateStores }, { on := 6, ground := Go.Ground.textOnly Go.Departure.lateStores }, { on := 7, ground := Go.Ground.textOnly Go.Departure.lateStores }, { on := 8, ground := Go.Ground.textOnly Go.Departure.lateStores }, { on := 9, ground := Go.Ground.textOnly Go.Departure.lateStores }, { on := 10, ground := Go.Ground.textOnly Go.Departure.lateStores }, { on := 11, ground := Go.Ground.textOnly Go.Departure.lateStores }, { on := 12, ground := Go.Ground.textOnly Go.Departure.lateStores }, { on := 13, ground := Go.Ground.textOnly Go.Departure.lateStores }, { on := 14, ground := Go.Ground.textOnly Go.Departure.lateStores }, { on := 15, ground := Go.Ground.textOnly Go.Departure.lateStores }, { on := 16, ground := Go.Ground.textOnly Go.Departure.lateStoresUnsure }], guard := none }) (v := ?vg134) rfl (by kernel_rfl) (fun _ _ _ h => h) (Or.inl (by kernel_rfl)) (Or.inl ⟨by rfl, ?yg134⟩) ?_
                      case yg134 => (intro wS _; go_simp <;> with_reducible rfl)
                      try simp only [Act.put, List.setIfInBounds_toArray, List.set_cons_zero, List.set_cons_succ]
                      refine wpG_pure (i := 18) (oi := { dst := some 10, op := Go.Op.assign (Go.Operand.tmp 101), type := 87, pos := "l12_machine.go:154", after := #[{ on := 16, ground := Go.Ground.data }, { on := 17, ground := Go.Ground.chain }, { on := 0, ground := Go.Ground.phase }, { on := 1, ground := Go.Ground.phase }, { on := 2, ground := Go.Ground.phase }, { on := 3, ground := Go.Ground.phase }, { on := 4, ground := Go.Ground.phase }, { on := 5, ground := Go.Ground.phase }, { on := 6, ground := Go.Ground.phase }, { on := 7, ground := Go.Ground.phase }, { on := 8, ground := Go.Ground.phase }, { on := 9, ground := Go.Ground.phase }, { on := 10, ground := Go.Ground.phase }, { on := 11, ground := Go.Ground.phase }, { on := 12, ground := Go.Ground.phase }, { on := 13, ground := Go.Ground.phase }, { on := 14, ground := Go.Ground.phase }, { on := 15, ground := Go.Ground.phase }, { on := 16, ground := Go.Ground.phase }, { on := 17, ground := Go.Ground.phase }], guard := none }) (v := ?vg135) rfl (by kernel_rfl) (fun _ _ _ h => h) (Or.inl (by kernel_rfl)) (Or.inl ⟨by rfl, ?yg135⟩) ?_
                      case yg135 => (intro wS _; go_simp <;> with_reducible rfl)
                      try simp only [Act.put, List.setIfInBounds_toArray, List.set_cons_zero, List.set_cons_succ]
                      refine wpG_done (by kernel_rfl) ?_
                      go_wp2_with fail
                      go_meet
                      have hb1 := BD_461.out; have hb2 := BD_457.out
                      rw [bd_pr_fp hb1] at hb1; rw [bd_tx_fp hb2] at hb2
                      exact ⟨g7, cp7, g8, cp8, rfl, rfl, by rw [List.map_append]; exact hb1, by rw [List.map_append]; exact hb2, WR_463.out⟩
                · skip
                  have hcv := conv_at (w := (wq.alloc (.cells #[.int .u8 (97 + (k : Int))] 5)).drew) (b := wq.heap.size) (n := 97 + (k : Int)) c_283
                  go_simp
                  refine hK.out _ _ (Or.inr ?khHeld136) (fun hHeld136S => ?_)
                  case khHeld136 => exact ⟨c_276, c_277, c_278⟩
                  have hHeld136 := hHeld136S.held (by kernel_rfl)
                  clear hK K
                  try simp only [Act.put, List.setIfInBounds_toArray, List.set_cons_zero, List.set_cons_succ]
                  refine wpG_pure (i := 14) (oi := { dst := some 99, op := Go.Op.binOp Go.BinOp.add 9 (Go.Operand.tmp 93) (Go.Operand.tmp 98) 9, type := 9, pos := "l12_machine.go:154", after := #[{ on := 8, ground := Go.Ground.data }, { on := 13, ground := Go.Ground.data }], guard := none }) (v := ?vg137) rfl (by kernel_rfl) (fun _ _ _ h => h) (Or.inr hHeld136) (Or.inl ⟨by rfl, ?yg137⟩) ?_
                  case yg137 => (intro wS _; go_simp <;> with_reducible rfl)
                  try simp only [Act.put, List.setIfInBounds_toArray, List.set_cons_zero, List.set_cons_succ]
                  refine wpG_two (i := 2) (j := 15) (o := { dst := some 87, op := Go.Op.buildSlice 67 1 #[(0, Go.Operand.tmp 86)], type := 67, pos := "l12_machine.go:154", after := #[{ on := 1, ground := Go.Ground.data }], guard := none }) (o' := { dst := some 100, op := Go.Op.buildSlice 87 1 #[(0, Go.Operand.tmp 99)], type := 87, pos := "l12_machine.go:154", after := #[{ on := 14, ground := Go.Ground.data }], guard := none }) rfl rfl (by kernel_rfl) (fun K hK => ?_) (fun K hK => ?_)
                  · skip
                    go_simp
                    have LT_467 : Hid (∀ b ∈ [gp], b < wq.heap.size + 1) := Lib.hid (fun b hm => by have := (BD_280.out.lt kPr_ok b hm); first | exact this | omega | (simp at this; omega))
                    have LT_468 : Hid (∀ b ∈ [gt], b < wq.heap.size + 1) := Lib.hid (fun b hm => by have := (BD_281.out.lt kTx_ok b hm); first | exact this | omega | (simp at this; omega))
                    have hb_469 : Below (wq.alloc (.cells #[.int .u8 (97 + (k : Int))] 5)).drew.heap.size (wq.alloc (.cells #[.int .u8 (97 + (k : Int))] 5)).drew ((wq.alloc (.cells #[.int .u8 (97 + (k : Int))] 5)).alloc (.cells #[.int .i64 qx, .int .i64 qy] 71)).drew := below_alloc_drew _ _
                    have hz_470 : wq.heap.size + 1 ≤ wq.heap.size + 1 + 1 := by have := (hb_469).size; first | omega | (simp at this; omega)
                    have c_471 : ((wq.alloc (.cells #[.int .u8 (97 + (k : Int))] 5)).alloc (.cells #[.int .i64 qx, .int .i64 qy] 71)).drew.cell? ⟨B15, 0, none⟩ = some (.int .i64 qx) := below_later hb_469 c_276; clear c_276
                    have c_472 : ((wq.alloc (.cells #[.int .u8 (97 + (k : Int))] 5)).alloc (.cells #[.int .i64 qx, .int .i64 qy] 71)).drew.cell? ⟨B15, 1, none⟩ = some (.int .i64 qy) := below_later hb_469 c_277; clear c_277
                    have c_473 : ((wq.alloc (.cells #[.int .u8 (97 + (k : Int))] 5)).alloc (.cells #[.int .i64 qx, .int .i64 qy] 71)).drew.cell? ⟨gt, i, none⟩ = some (.string s) := below_later hb_469 c_278; clear c_278
                    have hz_474 : w.heap.size + 2 ≤ wq.heap.size + 1 + 1 := Nat.le_trans hz_279 hz_470
                    have BD_475 := Lib.hid (BD_280.out.later kPr_ok hb_469)
                    have BD_476 := Lib.hid (BD_281.out.later kTx_ok hb_469)
                    have WR_477 := Lib.hid (Wrote.trans WR_282.out (Wrote.of_below hb_469))
                    clear hb_469
                    have c_478 : ((wq.alloc (.cells #[.int .u8 (97 + (k : Int))] 5)).alloc (.cells #[.int .i64 qx, .int .i64 qy] 71)).drew.cell? ⟨wq.heap.size + 1, 0, none⟩ = some (.int .i64 qx) := by go_simp
                    have z_479 : ((wq.alloc (.cells #[.int .u8 (97 + (k : Int))] 5)).alloc (.cells #[.int .i64 qx, .int .i64 qy] 71)).drew.frozen? ⟨wq.heap.size + 1, 0, none⟩ = false := by go_simp
                    have c_480 : ((wq.alloc (.cells #[.int .u8 (97 + (k : Int))] 5)).alloc (.cells #[.int .i64 qx, .int .i64 qy] 71)).drew.cell? ⟨wq.heap.size + 1, 1, none⟩ = some (.int .i64 qy) := by go_simp
                    have z_481 : ((wq.alloc (.cells #[.int .u8 (97 + (k : Int))] 5)).alloc (.cells #[.int .i64 qx, .int .i64 qy] 71)).drew.frozen? ⟨wq.heap.size + 1, 1, none⟩ = false := by go_simp
                    have hz_482 : wq.heap.size + 1 < wq.heap.size + 1 + 1 := by omega
                    have ND_483 : Hid (∀ b ∈ [wq.heap.size + 1], b ∉ [gp]) := Lib.hid (by intro b hb hm; simp only [List.mem_singleton] at hb; subst hb; have := (LT_467.out _ hm); first | omega | (simp at this; omega))
                    have ND_484 : Hid (∀ b ∈ [wq.heap.size + 1], b ∉ [gt]) := Lib.hid (by intro b hb hm; simp only [List.mem_singleton] at hb; subst hb; have := (LT_468.out _ hm); first | omega | (simp at this; omega))
                    refine hK.out _ _ (Or.inr ?khHeld138) (fun hHeld138S => ?_)
                    case khHeld138 => exact ⟨c_471, c_472, c_473⟩
                    have hHeld138 := hHeld138S.held (by kernel_rfl)
                    clear hK K
                    try simp only [Act.put, List.setIfInBounds_toArray, List.set_cons_zero, List.set_cons_succ]
                    refine wpG_two (i := 3) (j := 15) (o := { dst := some 88, op := Go.Op.call { callee := Go.Callee.builtin Go.Builtin.append, args := #[Go.Operand.tmp 85, Go.Operand.tmp 87], argTypes := #[67, 67] }, type := 67, pos := "l12_machine.go:154", after := #[{ on := 0, ground := Go.Ground.data }, { on := 2, ground := Go.Ground.data }], guard := none }) (o' := { dst := some 100, op := Go.Op.buildSlice 87 1 #[(0, Go.Operand.tmp 99)], type := 87, pos := "l12_machine.go:154", after := #[{ on := 14, ground := Go.Ground.data }], guard := none }) rfl rfl (by kernel_rfl) (fun K hK => ?_) (fun K hK => ?_)
                    · skip
                      have HNB := Lib.hid (news_two c_478 c_480)
                      obtain ⟨vss_485, fps_485, hrow, howl, hfp, hnd, hge⟩ := BD_475.out
                      rw [HLN1.out] at hrow
                      have ROW_485 := Lib.hid hrow; have OWL_485 := Lib.hid howl; have NDU_485 := Lib.hid (hfp ▸ hnd); have GE_485 := Lib.hid (fun b hb => hge b (hfp ▸ hb)); have FPE_485 := Lib.hid hfp; clear hrow howl hnd hge hfp
                      refine step_append_keeps rfl (.tmp 85) (.tmp 87) 67 rfl (w.heap.size + 2) 71 i1 (.agg #[.int .i64 0, .int .i64 0]) 2 16 Try.underlying67 hi1 hy0 hy1 hy2 rfl (by decide) gp L.length cp vss_485.flatten rfl ROW_485.out ⟨wq.heap.size + 1, 0, none⟩ 1 1 [.int .i64 qx, .int .i64 qy] rfl (by rfl) HNB.out (by simp [Value.oneCell']) (by omega) (by unfold maxLen; omega) (by omega) (by first | omega | (simp; omega)) _ rfl ?_
                      intro g7 cp7 w7 hown hgrow hat hlt4 hkeep
                      clear hkeep
                      have HG_486 := Lib.hid hgrow; have HATHG_486 := Lib.hid hat; have HONHG_486 := Lib.hid hown
                      clear hgrow hat hown
                      have hz_487 : wq.heap.size + 1 + 1 ≤ w7.heap.size := by have := HG_486.out.size; first | omega | (simp at this; omega)
                      have LT_488 : Hid (∀ b ∈ [gp], b < wq.heap.size + 1 + 1) := Lib.hid (fun b hm => by have := (BD_475.out.lt kPr_ok b hm); first | exact this | omega | (simp at this; omega))
                      have LT_489 : Hid (∀ b ∈ [gt], b < wq.heap.size + 1 + 1) := Lib.hid (fun b hm => by have := (BD_476.out.lt kTx_ok b hm); first | exact this | omega | (simp at this; omega))
                      have BD_490 := Lib.hid (Bd.app HLN1.out kPr_ok ROW_485.out OWL_485.out NDU_485.out GE_485.out (show kPr.ow [] _ [.int .i64 qx, .int .i64 qy] (qx, qy) from ⟨[], [], [.int .i64 qx], [.int .i64 qy], rfl, rfl, ⟨rfl, rfl, hwx⟩, ⟨rfl, rfl, hwy⟩⟩) List.nodup_nil (fun b hb => absurd hb (by simp)) (fun b hb => absurd hb (by simp)) HONHG_486.out HG_486.out HATHG_486.out (by first | omega | (simp; done) | (simp; omega)))
                      have c_491 : w7.cell? ⟨B15, 0, none⟩ = some (.int .i64 qx) := (HG_486.out.cell_far ⟨B15, 0, none⟩ (World.block_lt_of_cell? _ _ c_471) (fun he => HDP.out _ (by simp) (BD_475.out.own_mem _ he.symm))).trans c_471
                      have c_492 : w7.cell? ⟨B15, 1, none⟩ = some (.int .i64 qy) := (HG_486.out.cell_far ⟨B15, 1, none⟩ (World.block_lt_of_cell? _ _ c_472) (fun he => HDP.out _ (by simp) (BD_475.out.own_mem _ he.symm))).trans c_472
                      have c_493 : w7.cell? ⟨gt, i, none⟩ = some (.string s) := (HG_486.out.cell_far ⟨gt, i, none⟩ (World.block_lt_of_cell? _ _ c_473) (fun he => HTP.out _ (by simp) (BD_475.out.own_mem _ he.symm))).trans c_473
                      have hz_494 : w.heap.size + 2 ≤ w7.heap.size := Nat.le_trans hz_474 hz_487
                      have BD_495 := Lib.hid (BD_476.out.grown kTx_ok HG_486.out (fun k hk hm => HPT.out k (BD_475.out.own_mem k hk) hm))
                      have ND_496 : Hid (∀ b ∈ (g7 :: (fps_485.flatten ++ [])), b ∉ [gt]) := Lib.hid (fun b hm hs => (app_in HATHG_486.out hm).elim (fun h => HPT.out b (FPE_485.out ▸ h) hs) (fun h => h.elim (fun h => by simp at h) (fun h => by have := LT_489.out b hs; first | omega | (simp at h; omega))))
                      have WR_497 := Lib.hid (Wrote.trans WR_477.out (Wrote.mono (Wrote.of_grown HG_486.out) (fun k _ hk => by simp only [Value.ownBlock, Option.some.injEq] at hk; subst hk; first | exact Or.inl rfl | exact Or.inr (Or.inl rfl))))
                      have c_498 : w7.cell? ⟨wq.heap.size + 1, 0, none⟩ = some (.int .i64 qx) := (HG_486.out.cell_far ⟨wq.heap.size + 1, 0, none⟩ (World.block_lt_of_cell? _ _ c_478) (fun he => ND_483.out _ (by simp) (BD_475.out.own_mem _ he.symm))).trans c_478
                      have z_499 : w7.frozen? ⟨wq.heap.size + 1, 0, none⟩ = false := (HG_486.out.frozen_far ⟨wq.heap.size + 1, 0, none⟩ (by first | omega | (simp; done) | (simp; omega)) (fun he => ND_483.out _ (by simp) (BD_475.out.own_mem _ he.symm))).trans z_479
                      have c_500 : w7.cell? ⟨wq.heap.size + 1, 1, none⟩ = some (.int .i64 qy) := (HG_486.out.cell_far ⟨wq.heap.size + 1, 1, none⟩ (World.block_lt_of_cell? _ _ c_480) (fun he => ND_483.out _ (by simp) (BD_475.out.own_mem _ he.symm))).trans c_480
                      have z_501 : w7.frozen? ⟨wq.heap.size + 1, 1, none⟩ = false := (HG_486.out.frozen_far ⟨wq.heap.size + 1, 1, none⟩ (by first | omega | (simp; done) | (simp; omega)) (fun he => ND_483.out _ (by simp) (BD_475.out.own_mem _ he.symm))).trans z_481
                      have hz_502 : wq.heap.size + 1 + 1 ≤ w7.heap.size := Nat.le_trans hz_482 hz_487
                      refine hK.out _ _ (Or.inr ?khHeld139) (fun hHeld139S => ?_)
                      case khHeld139 => exact ⟨c_491, c_492, c_493⟩
                      have hHeld139 := hHeld139S.held (by kernel_rfl)
                      clear hK K
                      try simp only [Act.put, List.setIfInBounds_toArray, List.set_cons_zero, List.set_cons_succ]
                      refine wpG_one (i := 15) (o := { dst := some 100, op := Go.Op.buildSlice 87 1 #[(0, Go.Operand.tmp 99)], type := 87, pos := "l12_machine.go:154", after := #[{ on := 14, ground := Go.Ground.data }], guard := none }) rfl (by kernel_rfl) (fun K hK => ?_)
                      go_simp
                      have LT_503 : Hid (∀ b ∈ (g7 :: (fps_485.flatten ++ [])), b < w7.heap.size) := Lib.hid (fun b hm => by have := (BD_490.out.lt kPr_ok b hm); first | exact this | omega | (simp at this; omega))
                      have LT_504 : Hid (∀ b ∈ [gt], b < w7.heap.size) := Lib.hid (fun b hm => by have := (BD_495.out.lt kTx_ok b hm); first | exact this | omega | (simp at this; omega))
                      have hb_505 : Below w7.heap.size w7 (w7.alloc (.cells #[.string (s ++ dig1 (97 + (k : Int)))] 9)) := (Below.refl _ _).alloc (Nat.le_refl _) _
                      have hz_506 : w7.heap.size ≤ w7.heap.size + 1 := by have := (hb_505).size; first | omega | (simp at this; omega)
                      have c_507 : (w7.alloc (.cells #[.string (s ++ dig1 (97 + (k : Int)))] 9)).cell? ⟨B15, 0, none⟩ = some (.int .i64 qx) := below_later hb_505 c_491; clear c_491
                      have c_508 : (w7.alloc (.cells #[.string (s ++ dig1 (97 + (k : Int)))] 9)).cell? ⟨B15, 1, none⟩ = some (.int .i64 qy) := below_later hb_505 c_492; clear c_492
                      have c_509 : (w7.alloc (.cells #[.string (s ++ dig1 (97 + (k : Int)))] 9)).cell? ⟨gt, i, none⟩ = some (.string s) := below_later hb_505 c_493; clear c_493
                      have hz_510 : w.heap.size + 2 ≤ w7.heap.size + 1 := Nat.le_trans hz_494 hz_506
                      have BD_511 := Lib.hid (BD_490.out.later kPr_ok hb_505)
                      have BD_512 := Lib.hid (BD_495.out.later kTx_ok hb_505)
                      have WR_513 := Lib.hid (Wrote.trans WR_497.out (Wrote.of_below hb_505))
                      clear hb_505
                      have c_514 : (w7.alloc (.cells #[.string (s ++ dig1 (97 + (k : Int)))] 9)).cell? ⟨w7.heap.size, 0, none⟩ = some (.string (s ++ dig1 (97 + (k : Int)))) := by go_simp
                      have z_515 : (w7.alloc (.cells #[.string (s ++ dig1 (97 + (k : Int)))] 9)).frozen? ⟨w7.heap.size, 0, none⟩ = false := by go_simp
                      have hz_516 : w7.heap.size < w7.heap.size + 1 := by omega
                      have ND_517 : Hid (∀ b ∈ [w7.heap.size], b ∉ (g7 :: (fps_485.flatten ++ []))) := Lib.hid (by intro b hb hm; simp only [List.mem_singleton] at hb; subst hb; have := (LT_503.out _ hm); first | omega | (simp at this; omega))
                      have ND_518 : Hid (∀ b ∈ [w7.heap.size], b ∉ [gt]) := Lib.hid (by intro b hb hm; simp only [List.mem_singleton] at hb; subst hb; have := (LT_504.out _ hm); first | omega | (simp at this; omega))
                      refine hK.out _ _ (Or.inr ?khHeld140) (fun hHeld140S => ?_)
                      case khHeld140 => exact ⟨c_507, c_508, c_509⟩
                      have hHeld140 := hHeld140S.held (by kernel_rfl)
                      clear hK K
                      try simp only [Act.put, List.setIfInBounds_toArray, List.set_cons_zero, List.set_cons_succ]
                      refine wpG_one (i := 16) (o := { dst := some 101, op := Go.Op.call { callee := Go.Callee.builtin Go.Builtin.append, args := #[Go.Operand.tmp 89, Go.Operand.tmp 100], argTypes := #[87, 87] }, type := 87, pos := "l12_machine.go:154", after := #[{ on := 4, ground := Go.Ground.data }, { on := 15, ground := Go.Ground.data }, { on := 3, ground := Go.Ground.chain }], guard := none }) rfl (by kernel_rfl) (fun K hK => ?_)
                      obtain ⟨vss_519, fps_519, hrow, howl, hfp, hnd, hge⟩ := BD_512.out
                      rw [HLN2.out] at hrow
                      have ROW_519 := Lib.hid hrow; have OWL_519 := Lib.hid howl; have NDU_519 := Lib.hid (hfp ▸ hnd); have GE_519 := Lib.hid (fun b hb => hge b (hfp ▸ hb)); have FPE_519 := Lib.hid hfp; clear hrow howl hnd hge hfp
                      refine step_append_keeps rfl (.tmp 89) (.tmp 100) 87 rfl (w.heap.size + 2) 9 i2 (.string ByteArray.empty) 1 16 Try.underlying87 hi2 hx0 hx1 hx2 rfl (by decide) gt L.length ct vss_519.flatten rfl ROW_519.out ⟨w7.heap.size, 0, none⟩ 1 1 [.string (s ++ dig1 (97 + (k : Int)))] rfl (by rfl) (news_at c_514) (by simp [Value.oneCell']) (by omega) (by unfold maxLen; omega) (by omega) (by first | omega | (simp; omega)) _ rfl ?_
                      intro g8 cp8 w8 hown hgrow hat hlt4 hkeep
                      have HKTg8 := Lib.hid (hkeep i (.string s) (tx_at OWL_519.out hpi))
                      clear hkeep
                      have HG_520 := Lib.hid hgrow; have HATHG_520 := Lib.hid hat; have HONHG_520 := Lib.hid hown
                      clear hgrow hat hown
                      have hz_521 : w7.heap.size + 1 ≤ w8.heap.size := by have := HG_520.out.size; first | omega | (simp at this; omega)
                      have LT_522 : Hid (∀ b ∈ (g7 :: (fps_485.flatten ++ [])), b < w7.heap.size + 1) := Lib.hid (fun b hm => by have := (BD_511.out.lt kPr_ok b hm); first | exact this | omega | (simp at this; omega))
                      have LT_523 : Hid (∀ b ∈ [gt], b < w7.heap.size + 1) := Lib.hid (fun b hm => by have := (BD_512.out.lt kTx_ok b hm); first | exact this | omega | (simp at this; omega))
                      have BD_524 := Lib.hid (Bd.app HLN2.out kTx_ok ROW_519.out OWL_519.out NDU_519.out GE_519.out (show kTx.ow [] _ [.string (s ++ dig1 (97 + (k : Int)))] (s ++ dig1 (97 + (k : Int))) from ⟨rfl, rfl, hwt⟩) List.nodup_nil (fun b hb => absurd hb (by simp)) (fun b hb => absurd hb (by simp)) HONHG_520.out HG_520.out HATHG_520.out (by first | omega | (simp; done) | (simp; omega)))
                      have c_525 : w8.cell? ⟨B15, 0, none⟩ = some (.int .i64 qx) := (HG_520.out.cell_far ⟨B15, 0, none⟩ (World.block_lt_of_cell? _ _ c_507) (fun he => HDT.out _ (by simp) (BD_512.out.own_mem _ he.symm))).trans c_507
                      have c_526 : w8.cell? ⟨B15, 1, none⟩ = some (.int .i64 qy) := (HG_520.out.cell_far ⟨B15, 1, none⟩ (World.block_lt_of_cell? _ _ c_508) (fun he => HDT.out _ (by simp) (BD_512.out.own_mem _ he.symm))).trans c_508
                      have hz_527 : w.heap.size + 2 ≤ w8.heap.size := Nat.le_trans hz_510 hz_521
                      have BD_528 := Lib.hid (BD_511.out.grown kPr_ok HG_520.out (fun k hk hm => (fun x hx hy => ND_496.out x hy hx) k (BD_512.out.own_mem k hk) hm))
                      have ND_529 : Hid (∀ b ∈ (g8 :: (fps_519.flatten ++ [])), b ∉ (g7 :: (fps_485.flatten ++ []))) := Lib.hid (fun b hm hs => (app_in HATHG_520.out hm).elim (fun h => (fun x hx hy => ND_496.out x hy hx) b (FPE_519.out ▸ h) hs) (fun h => h.elim (fun h => by simp at h) (fun h => by have := LT_522.out b hs; first | omega | (simp at h; omega))))
                      have WR_530 := Lib.hid (Wrote.trans WR_513.out (Wrote.mono (Wrote.of_grown HG_520.out) (fun k _ hk => by simp only [Value.ownBlock, Option.some.injEq] at hk; subst hk; first | exact Or.inl rfl | exact Or.inr (Or.inl rfl))))
                      have c_531 : w8.cell? ⟨w7.heap.size, 0, none⟩ = some (.string (s ++ dig1 (97 + (k : Int)))) := (HG_520.out.cell_far ⟨w7.heap.size, 0, none⟩ (World.block_lt_of_cell? _ _ c_514) (fun he => ND_518.out _ (by simp) (BD_512.out.own_mem _ he.symm))).trans c_514
                      have z_532 : w8.frozen? ⟨w7.heap.size, 0, none⟩ = false := (HG_520.out.frozen_far ⟨w7.heap.size, 0, none⟩ (by first | omega | (simp; done) | (simp; omega)) (fun he => ND_518.out _ (by simp) (BD_512.out.own_mem _ he.symm))).trans z_515
                      have hz_533 : w7.heap.size + 1 ≤ w8.heap.size := Nat.le_trans hz_516 hz_521
                      have htxg8 : w8.cell? ⟨gt, i, none⟩ = some (.string s) := HKTg8.out
                      refine hK.out _ _ (Or.inl (by kernel_rfl)) (fun _ => ?_)
                      clear hK K
                      try simp only [Act.put, List.setIfInBounds_toArray, List.set_cons_zero, List.set_cons_succ]
                      refine wpG_pure (i := 17) (oi := { dst := some 9, op := Go.Op.assign (Go.Operand.tmp 88), type := 67, pos := "l12_machine.go:154", after := #[{ on := 3, ground := Go.Ground.data }, { on := 16, ground := Go.Ground.chain }, { on := 0, ground := Go.Ground.phase }, { on := 1, ground := Go.Ground.phase }, { on := 2, ground := Go.Ground.phase }, { on := 3, ground := Go.Ground.phase }, { on := 4, ground := Go.Ground.textOnly Go.Departure.lateStores }, { on := 5, ground := Go.Ground.textOnly Go.Departure.lateStores }, { on := 6, ground := Go.Ground.textOnly Go.Departure.lateStores }, { on := 7, ground := Go.Ground.textOnly Go.Departure.lateStores }, { on := 8, ground := Go.Ground.textOnly Go.Departure.lateStores }, { on := 9, ground := Go.Ground.textOnly Go.Departure.lateStores }, { on := 10, ground := Go.Ground.textOnly Go.Departure.lateStores }, { on := 11, ground := Go.Ground.textOnly Go.Departure.lateStores }, { on := 12, ground := Go.Ground.textOnly Go.Departure.lateStores }, { on := 13, ground := Go.Ground.textOnly Go.Departure.lateStores }, { on := 14, ground := Go.Ground.textOnly Go.Departure.lateStores }, { on := 15, ground := Go.Ground.textOnly Go.Departure.lateStores }, { on := 16, ground := Go.Ground.textOnly Go.Departure.lateStoresUnsure }], guard := none }) (v := ?vg142) rfl (by kernel_rfl) (fun _ _ _ h => h) (Or.inl (by kernel_rfl)) (Or.inl ⟨by rfl, ?yg142⟩) ?_
                      case yg142 => (intro wS _; go_simp <;> with_reducible rfl)
                      try simp only [Act.put, List.setIfInBounds_toArray, List.set_cons_zero, List.set_cons_succ]
                      refine wpG_pure (i := 18) (oi := { dst := some 10, op := Go.Op.assign (Go.Operand.tmp 101), type := 87, pos := "l12_machine.go:154", after := #[{ on := 16, ground := Go.Ground.data }, { on := 17, ground := Go.Ground.chain }, { on := 0, ground := Go.Ground.phase }, { on := 1, ground := Go.Ground.phase }, { on := 2, ground := Go.Ground.phase }, { on := 3, ground := Go.Ground.phase }, { on := 4, ground := Go.Ground.phase }, { on := 5, ground := Go.Ground.phase }, { on := 6, ground := Go.Ground.phase }, { on := 7, ground := Go.Ground.phase }, { on := 8, ground := Go.Ground.phase }, { on := 9, ground := Go.Ground.phase }, { on := 10, ground := Go.Ground.phase }, { on := 11, ground := Go.Ground.phase }, { on := 12, ground := Go.Ground.phase }, { on := 13, ground := Go.Ground.phase }, { on := 14, ground := Go.Ground.phase }, { on := 15, ground := Go.Ground.phase }, { on := 16, ground := Go.Ground.phase }, { on := 17, ground := Go.Ground.phase }], guard := none }) (v := ?vg143) rfl (by kernel_rfl) (fun _ _ _ h => h) (Or.inl (by kernel_rfl)) (Or.inl ⟨by rfl, ?yg143⟩) ?_
                      case yg143 => (intro wS _; go_simp <;> with_reducible rfl)
                      try simp only [Act.put, List.setIfInBounds_toArray, List.set_cons_zero, List.set_cons_succ]
                      refine wpG_done (by kernel_rfl) ?_
                      go_wp2_with fail
                      go_meet
                      have hb1 := BD_528.out; have hb2 := BD_524.out
                      rw [bd_pr_fp hb1] at hb1; rw [bd_tx_fp hb2] at hb2
                      exact ⟨g7, cp7, g8, cp8, rfl, rfl, by rw [List.map_append]; exact hb1, by rw [List.map_append]; exact hb2, WR_530.out⟩
                    · skip
                      go_simp
                      have LT_534 : Hid (∀ b ∈ [gp], b < wq.heap.size + 1 + 1) := Lib.hid (fun b hm => by have := (BD_475.out.lt kPr_ok b hm); first | exact this | omega | (simp at this; omega))
                      have LT_535 : Hid (∀ b ∈ [gt], b < wq.heap.size + 1 + 1) := Lib.hid (fun b hm => by have := (BD_476.out.lt kTx_ok b hm); first | exact this | omega | (simp at this; omega))
                      have hb_536 : Below ((wq.alloc (.cells #[.int .u8 (97 + (k : Int))] 5)).alloc (.cells #[.int .i64 qx, .int .i64 qy] 71)).drew.heap.size ((wq.alloc (.cells #[.int .u8 (97 + (k : Int))] 5)).alloc (.cells #[.int .i64 qx, .int .i64 qy] 71)).drew (((wq.alloc (.cells #[.int .u8 (97 + (k : Int))] 5)).alloc (.cells #[.int .i64 qx, .int .i64 qy] 71)).alloc (.cells #[.string (s ++ dig1 (97 + (k : Int)))] 9)).drew := below_alloc_drew _ _
                      have hz_537 : wq.heap.size + 1 + 1 ≤ wq.heap.size + 1 + 1 + 1 := by have := (hb_536).size; first | omega | (simp at this; omega)
                      have c_538 : (((wq.alloc (.cells #[.int .u8 (97 + (k : Int))] 5)).alloc (.cells #[.int .i64 qx, .int .i64 qy] 71)).alloc (.cells #[.string (s ++ dig1 (97 + (k : Int)))] 9)).drew.cell? ⟨B15, 0, none⟩ = some (.int .i64 qx) := below_later hb_536 c_471; clear c_471
                      have c_539 : (((wq.alloc (.cells #[.int .u8 (97 + (k : Int))] 5)).alloc (.cells #[.int .i64 qx, .int .i64 qy] 71)).alloc (.cells #[.string (s ++ dig1 (97 + (k : Int)))] 9)).drew.cell? ⟨B15, 1, none⟩ = some (.int .i64 qy) := below_later hb_536 c_472; clear c_472
                      have c_540 : (((wq.alloc (.cells #[.int .u8 (97 + (k : Int))] 5)).alloc (.cells #[.int .i64 qx, .int .i64 qy] 71)).alloc (.cells #[.string (s ++ dig1 (97 + (k : Int)))] 9)).drew.cell? ⟨gt, i, none⟩ = some (.string s) := below_later hb_536 c_473; clear c_473
                      have hz_541 : w.heap.size + 2 ≤ wq.heap.size + 1 + 1 + 1 := Nat.le_trans hz_474 hz_537
                      have BD_542 := Lib.hid (BD_475.out.later kPr_ok hb_536)
                      have BD_543 := Lib.hid (BD_476.out.later kTx_ok hb_536)
                      have WR_544 := Lib.hid (Wrote.trans WR_477.out (Wrote.of_below hb_536))
                      have c_545 : (((wq.alloc (.cells #[.int .u8 (97 + (k : Int))] 5)).alloc (.cells #[.int .i64 qx, .int .i64 qy] 71)).alloc (.cells #[.string (s ++ dig1 (97 + (k : Int)))] 9)).drew.cell? ⟨wq.heap.size + 1, 0, none⟩ = some (.int .i64 qx) := below_later hb_536 c_478; clear c_478
                      have z_546 : (((wq.alloc (.cells #[.int .u8 (97 + (k : Int))] 5)).alloc (.cells #[.int .i64 qx, .int .i64 qy] 71)).alloc (.cells #[.string (s ++ dig1 (97 + (k : Int)))] 9)).drew.frozen? ⟨wq.heap.size + 1, 0, none⟩ = false := (Below.frozen hb_536 (p := ⟨wq.heap.size + 1, 0, none⟩) (by show wq.heap.size + 1 < _; first | omega | (simp; done) | (simp; omega))).trans z_479
                      have c_547 : (((wq.alloc (.cells #[.int .u8 (97 + (k : Int))] 5)).alloc (.cells #[.int .i64 qx, .int .i64 qy] 71)).alloc (.cells #[.string (s ++ dig1 (97 + (k : Int)))] 9)).drew.cell? ⟨wq.heap.size + 1, 1, none⟩ = some (.int .i64 qy) := below_later hb_536 c_480; clear c_480
                      have z_548 : (((wq.alloc (.cells #[.int .u8 (97 + (k : Int))] 5)).alloc (.cells #[.int .i64 qx, .int .i64 qy] 71)).alloc (.cells #[.string (s ++ dig1 (97 + (k : Int)))] 9)).drew.frozen? ⟨wq.heap.size + 1, 1, none⟩ = false := (Below.frozen hb_536 (p := ⟨wq.heap.size + 1, 1, none⟩) (by show wq.heap.size + 1 < _; first | omega | (simp; done) | (simp; omega))).trans z_481
                      have hz_549 : wq.heap.size + 1 + 1 ≤ wq.heap.size + 1 + 1 + 1 := Nat.le_trans hz_482 hz_537
                      clear hb_536
                      have c_550 : (((wq.alloc (.cells #[.int .u8 (97 + (k : Int))] 5)).alloc (.cells #[.int .i64 qx, .int .i64 qy] 71)).alloc (.cells #[.string (s ++ dig1 (97 + (k : Int)))] 9)).drew.cell? ⟨wq.heap.size + 1 + 1, 0, none⟩ = some (.string (s ++ dig1 (97 + (k : Int)))) := by go_simp
                      have z_551 : (((wq.alloc (.cells #[.int .u8 (97 + (k : Int))] 5)).alloc (.cells #[.int .i64 qx, .int .i64 qy] 71)).alloc (.cells #[.string (s ++ dig1 (97 + (k : Int)))] 9)).drew.frozen? ⟨wq.heap.size + 1 + 1, 0, none⟩ = false := by go_simp
                      have hz_552 : wq.heap.size + 1 + 1 < wq.heap.size + 1 + 1 + 1 := by omega
                      have ND_553 : Hid (∀ b ∈ [wq.heap.size + 1 + 1], b ∉ [gp]) := Lib.hid (by intro b hb hm; simp only [List.mem_singleton] at hb; subst hb; have := (LT_534.out _ hm); first | omega | (simp at this; omega))
                      have ND_554 : Hid (∀ b ∈ [wq.heap.size + 1 + 1], b ∉ [gt]) := Lib.hid (by intro b hb hm; simp only [List.mem_singleton] at hb; subst hb; have := (LT_535.out _ hm); first | omega | (simp at this; omega))
                      refine hK.out _ _ (Or.inr ?khHeld144) (fun hHeld144S => ?_)
                      case khHeld144 => exact ⟨c_538, c_539, c_540⟩
                      have hHeld144 := hHeld144S.held (by kernel_rfl)
                      clear hK K
                      try simp only [Act.put, List.setIfInBounds_toArray, List.set_cons_zero, List.set_cons_succ]
                      refine wpG_one (i := 3) (o := { dst := some 88, op := Go.Op.call { callee := Go.Callee.builtin Go.Builtin.append, args := #[Go.Operand.tmp 85, Go.Operand.tmp 87], argTypes := #[67, 67] }, type := 67, pos := "l12_machine.go:154", after := #[{ on := 0, ground := Go.Ground.data }, { on := 2, ground := Go.Ground.data }], guard := none }) rfl (by kernel_rfl) (fun K hK => ?_)
                      have HNB := Lib.hid (news_two c_545 c_547)
                      obtain ⟨vss_555, fps_555, hrow, howl, hfp, hnd, hge⟩ := BD_542.out
                      rw [HLN1.out] at hrow
                      have ROW_555 := Lib.hid hrow; have OWL_555 := Lib.hid howl; have NDU_555 := Lib.hid (hfp ▸ hnd); have GE_555 := Lib.hid (fun b hb => hge b (hfp ▸ hb)); have FPE_555 := Lib.hid hfp; clear hrow howl hnd hge hfp
                      refine step_append_keeps rfl (.tmp 85) (.tmp 87) 67 rfl (w.heap.size + 2) 71 i1 (.agg #[.int .i64 0, .int .i64 0]) 2 16 Try.underlying67 hi1 hy0 hy1 hy2 rfl (by decide) gp L.length cp vss_555.flatten rfl ROW_555.out ⟨wq.heap.size + 1, 0, none⟩ 1 1 [.int .i64 qx, .int .i64 qy] rfl (by rfl) HNB.out (by simp [Value.oneCell']) (by omega) (by unfold maxLen; omega) (by omega) (by first | omega | (simp; omega)) _ rfl ?_
                      intro g7 cp7 w7 hown hgrow hat hlt4 hkeep
                      clear hkeep
                      have HG_556 := Lib.hid hgrow; have HATHG_556 := Lib.hid hat; have HONHG_556 := Lib.hid hown
                      clear hgrow hat hown
                      have hz_557 : wq.heap.size + 1 + 1 + 1 ≤ w7.heap.size := by have := HG_556.out.size; first | omega | (simp at this; omega)
                      have LT_558 : Hid (∀ b ∈ [gp], b < wq.heap.size + 1 + 1 + 1) := Lib.hid (fun b hm => by have := (BD_542.out.lt kPr_ok b hm); first | exact this | omega | (simp at this; omega))
                      have LT_559 : Hid (∀ b ∈ [gt], b < wq.heap.size + 1 + 1 + 1) := Lib.hid (fun b hm => by have := (BD_543.out.lt kTx_ok b hm); first | exact this | omega | (simp at this; omega))
                      have BD_560 := Lib.hid (Bd.app HLN1.out kPr_ok ROW_555.out OWL_555.out NDU_555.out GE_555.out (show kPr.ow [] _ [.int .i64 qx, .int .i64 qy] (qx, qy) from ⟨[], [], [.int .i64 qx], [.int .i64 qy], rfl, rfl, ⟨rfl, rfl, hwx⟩, ⟨rfl, rfl, hwy⟩⟩) List.nodup_nil (fun b hb => absurd hb (by simp)) (fun b hb => absurd hb (by simp)) HONHG_556.out HG_556.out HATHG_556.out (by first | omega | (simp; done) | (simp; omega)))
                      have c_561 : w7.cell? ⟨B15, 0, none⟩ = some (.int .i64 qx) := (HG_556.out.cell_far ⟨B15, 0, none⟩ (World.block_lt_of_cell? _ _ c_538) (fun he => HDP.out _ (by simp) (BD_542.out.own_mem _ he.symm))).trans c_538
                      have c_562 : w7.cell? ⟨B15, 1, none⟩ = some (.int .i64 qy) := (HG_556.out.cell_far ⟨B15, 1, none⟩ (World.block_lt_of_cell? _ _ c_539) (fun he => HDP.out _ (by simp) (BD_542.out.own_mem _ he.symm))).trans c_539
                      have c_563 : w7.cell? ⟨gt, i, none⟩ = some (.string s) := (HG_556.out.cell_far ⟨gt, i, none⟩ (World.block_lt_of_cell? _ _ c_540) (fun he => HTP.out _ (by simp) (BD_542.out.own_mem _ he.symm))).trans c_540
                      have hz_564 : w.heap.size + 2 ≤ w7.heap.size := Nat.le_trans hz_541 hz_557
                      have BD_565 := Lib.hid (BD_543.out.grown kTx_ok HG_556.out (fun k hk hm => HPT.out k (BD_542.out.own_mem k hk) hm))
                      have ND_566 : Hid (∀ b ∈ (g7 :: (fps_555.flatten ++ [])), b ∉ [gt]) := Lib.hid (fun b hm hs => (app_in HATHG_556.out hm).elim (fun h => HPT.out b (FPE_555.out ▸ h) hs) (fun h => h.elim (fun h => by simp at h) (fun h => by have := LT_559.out b hs; first | omega | (simp at h; omega))))
                      have WR_567 := Lib.hid (Wrote.trans WR_544.out (Wrote.mono (Wrote.of_grown HG_556.out) (fun k _ hk => by simp only [Value.ownBlock, Option.some.injEq] at hk; subst hk; first | exact Or.inl rfl | exact Or.inr (Or.inl rfl))))
                      have c_568 : w7.cell? ⟨wq.heap.size + 1, 0, none⟩ = some (.int .i64 qx) := (HG_556.out.cell_far ⟨wq.heap.size + 1, 0, none⟩ (World.block_lt_of_cell? _ _ c_545) (fun he => ND_483.out _ (by simp) (BD_542.out.own_mem _ he.symm))).trans c_545
                      have z_569 : w7.frozen? ⟨wq.heap.size + 1, 0, none⟩ = false := (HG_556.out.frozen_far ⟨wq.heap.size + 1, 0, none⟩ (by first | omega | (simp; done) | (simp; omega)) (fun he => ND_483.out _ (by simp) (BD_542.out.own_mem _ he.symm))).trans z_546
                      have c_570 : w7.cell? ⟨wq.heap.size + 1, 1, none⟩ = some (.int .i64 qy) := (HG_556.out.cell_far ⟨wq.heap.size + 1, 1, none⟩ (World.block_lt_of_cell? _ _ c_547) (fun he => ND_483.out _ (by simp) (BD_542.out.own_mem _ he.symm))).trans c_547
                      have z_571 : w7.frozen? ⟨wq.heap.size + 1, 1, none⟩ = false := (HG_556.out.frozen_far ⟨wq.heap.size + 1, 1, none⟩ (by first | omega | (simp; done) | (simp; omega)) (fun he => ND_483.out _ (by simp) (BD_542.out.own_mem _ he.symm))).trans z_548
                      have hz_572 : wq.heap.size + 1 + 1 ≤ w7.heap.size := Nat.le_trans hz_549 hz_557
                      have c_573 : w7.cell? ⟨wq.heap.size + 1 + 1, 0, none⟩ = some (.string (s ++ dig1 (97 + (k : Int)))) := (HG_556.out.cell_far ⟨wq.heap.size + 1 + 1, 0, none⟩ (World.block_lt_of_cell? _ _ c_550) (fun he => ND_553.out _ (by simp) (BD_542.out.own_mem _ he.symm))).trans c_550
                      have z_574 : w7.frozen? ⟨wq.heap.size + 1 + 1, 0, none⟩ = false := (HG_556.out.frozen_far ⟨wq.heap.size + 1 + 1, 0, none⟩ (by first | omega | (simp; done) | (simp; omega)) (fun he => ND_553.out _ (by simp) (BD_542.out.own_mem _ he.symm))).trans z_551
                      have hz_575 : wq.heap.size + 1 + 1 + 1 ≤ w7.heap.size := Nat.le_trans hz_552 hz_557
                      refine hK.out _ _ (Or.inr ?khHeld145) (fun hHeld145S => ?_)
                      case khHeld145 => exact ⟨c_561, c_562, c_563⟩
                      have hHeld145 := hHeld145S.held (by kernel_rfl)
                      clear hK K
                      try simp only [Act.put, List.setIfInBounds_toArray, List.set_cons_zero, List.set_cons_succ]
                      refine wpG_one (i := 16) (o := { dst := some 101, op := Go.Op.call { callee := Go.Callee.builtin Go.Builtin.append, args := #[Go.Operand.tmp 89, Go.Operand.tmp 100], argTypes := #[87, 87] }, type := 87, pos := "l12_machine.go:154", after := #[{ on := 4, ground := Go.Ground.data }, { on := 15, ground := Go.Ground.data }, { on := 3, ground := Go.Ground.chain }], guard := none }) rfl (by kernel_rfl) (fun K hK => ?_)
                      obtain ⟨vss_576, fps_576, hrow, howl, hfp, hnd, hge⟩ := BD_565.out
                      rw [HLN2.out] at hrow
                      have ROW_576 := Lib.hid hrow; have OWL_576 := Lib.hid howl; have NDU_576 := Lib.hid (hfp ▸ hnd); have GE_576 := Lib.hid (fun b hb => hge b (hfp ▸ hb)); have FPE_576 := Lib.hid hfp; clear hrow howl hnd hge hfp
                      refine step_append_keeps rfl (.tmp 89) (.tmp 100) 87 rfl (w.heap.size + 2) 9 i2 (.string ByteArray.empty) 1 16 Try.underlying87 hi2 hx0 hx1 hx2 rfl (by decide) gt L.length ct vss_576.flatten rfl ROW_576.out ⟨wq.heap.size + 1 + 1, 0, none⟩ 1 1 [.string (s ++ dig1 (97 + (k : Int)))] rfl (by rfl) (news_at c_573) (by simp [Value.oneCell']) (by omega) (by unfold maxLen; omega) (by omega) (by first | omega | (simp; omega)) _ rfl ?_
                      intro g8 cp8 w8 hown hgrow hat hlt4 hkeep
                      have HKTg8 := Lib.hid (hkeep i (.string s) (tx_at OWL_576.out hpi))
                      clear hkeep
                      have HG_577 := Lib.hid hgrow; have HATHG_577 := Lib.hid hat; have HONHG_577 := Lib.hid hown
                      clear hgrow hat hown
                      have hz_578 : w7.heap.size ≤ w8.heap.size := by have := HG_577.out.size; first | omega | (simp at this; omega)
                      have LT_579 : Hid (∀ b ∈ (g7 :: (fps_555.flatten ++ [])), b < w7.heap.size) := Lib.hid (fun b hm => by have := (BD_560.out.lt kPr_ok b hm); first | exact this | omega | (simp at this; omega))
                      have LT_580 : Hid (∀ b ∈ [gt], b < w7.heap.size) := Lib.hid (fun b hm => by have := (BD_565.out.lt kTx_ok b hm); first | exact this | omega | (simp at this; omega))
                      have BD_581 := Lib.hid (Bd.app HLN2.out kTx_ok ROW_576.out OWL_576.out NDU_576.out GE_576.out (show kTx.ow [] _ [.string (s ++ dig1 (97 + (k : Int)))] (s ++ dig1 (97 + (k : Int))) from ⟨rfl, rfl, hwt⟩) List.nodup_nil (fun b hb => absurd hb (by simp)) (fun b hb => absurd hb (by simp)) HONHG_577.out HG_577.out HATHG_577.out (by first | omega | (simp; done) | (simp; omega)))
                      have c_582 : w8.cell? ⟨B15, 0, none⟩ = some (.int .i64 qx) := (HG_577.out.cell_far ⟨B15, 0, none⟩ (World.block_lt_of_cell? _ _ c_561) (fun he => HDT.out _ (by simp) (BD_565.out.own_mem _ he.symm))).trans c_561
                      have c_583 : w8.cell? ⟨B15, 1, none⟩ = some (.int .i64 qy) := (HG_577.out.cell_far ⟨B15, 1, none⟩ (World.block_lt_of_cell? _ _ c_562) (fun he => HDT.out _ (by simp) (BD_565.out.own_mem _ he.symm))).trans c_562
                      have hz_584 : w.heap.size + 2 ≤ w8.heap.size := Nat.le_trans hz_564 hz_578
                      have BD_585 := Lib.hid (BD_560.out.grown kPr_ok HG_577.out (fun k hk hm => (fun x hx hy => ND_566.out x hy hx) k (BD_565.out.own_mem k hk) hm))
                      have ND_586 : Hid (∀ b ∈ (g8 :: (fps_576.flatten ++ [])), b ∉ (g7 :: (fps_555.flatten ++ []))) := Lib.hid (fun b hm hs => (app_in HATHG_577.out hm).elim (fun h => (fun x hx hy => ND_566.out x hy hx) b (FPE_576.out ▸ h) hs) (fun h => h.elim (fun h => by simp at h) (fun h => by have := LT_579.out b hs; first | omega | (simp at h; omega))))
                      have WR_587 := Lib.hid (Wrote.trans WR_567.out (Wrote.mono (Wrote.of_grown HG_577.out) (fun k _ hk => by simp only [Value.ownBlock, Option.some.injEq] at hk; subst hk; first | exact Or.inl rfl | exact Or.inr (Or.inl rfl))))
                      have c_588 : w8.cell? ⟨wq.heap.size + 1 + 1, 0, none⟩ = some (.string (s ++ dig1 (97 + (k : Int)))) := (HG_577.out.cell_far ⟨wq.heap.size + 1 + 1, 0, none⟩ (World.block_lt_of_cell? _ _ c_573) (fun he => ND_554.out _ (by simp) (BD_565.out.own_mem _ he.symm))).trans c_573
                      have z_589 : w8.frozen? ⟨wq.heap.size + 1 + 1, 0, none⟩ = false := (HG_577.out.frozen_far ⟨wq.heap.size + 1 + 1, 0, none⟩ (by first | omega | (simp; done) | (simp; omega)) (fun he => ND_554.out _ (by simp) (BD_565.out.own_mem _ he.symm))).trans z_574
                      have hz_590 : wq.heap.size + 1 + 1 + 1 ≤ w8.heap.size := Nat.le_trans hz_575 hz_578
                      have htxg8 : w8.cell? ⟨gt, i, none⟩ = some (.string s) := HKTg8.out
                      refine hK.out _ _ (Or.inl (by kernel_rfl)) (fun _ => ?_)
                      clear hK K
                      try simp only [Act.put, List.setIfInBounds_toArray, List.set_cons_zero, List.set_cons_succ]
                      refine wpG_pure (i := 17) (oi := { dst := some 9, op := Go.Op.assign (Go.Operand.tmp 88), type := 67, pos := "l12_machine.go:154", after := #[{ on := 3, ground := Go.Ground.data }, { on := 16, ground := Go.Ground.chain }, { on := 0, ground := Go.Ground.phase }, { on := 1, ground := Go.Ground.phase }, { on := 2, ground := Go.Ground.phase }, { on := 3, ground := Go.Ground.phase }, { on := 4, ground := Go.Ground.textOnly Go.Departure.lateStores }, { on := 5, ground := Go.Ground.textOnly Go.Departure.lateStores }, { on := 6, ground := Go.Ground.textOnly Go.Departure.lateStores }, { on := 7, ground := Go.Ground.textOnly Go.Departure.lateStores }, { on := 8, ground := Go.Ground.textOnly Go.Departure.lateStores }, { on := 9, ground := Go.Ground.textOnly Go.Departure.lateStores }, { on := 10, ground := Go.Ground.textOnly Go.Departure.lateStores }, { on := 11, ground := Go.Ground.textOnly Go.Departure.lateStores }, { on := 12, ground := Go.Ground.textOnly Go.Departure.lateStores }, { on := 13, ground := Go.Ground.textOnly Go.Departure.lateStores }, { on := 14, ground := Go.Ground.textOnly Go.Departure.lateStores }, { on := 15, ground := Go.Ground.textOnly Go.Departure.lateStores }, { on := 16, ground := Go.Ground.textOnly Go.Departure.lateStoresUnsure }], guard := none }) (v := ?vg147) rfl (by kernel_rfl) (fun _ _ _ h => h) (Or.inl (by kernel_rfl)) (Or.inl ⟨by rfl, ?yg147⟩) ?_
                      case yg147 => (intro wS _; go_simp <;> with_reducible rfl)
                      try simp only [Act.put, List.setIfInBounds_toArray, List.set_cons_zero, List.set_cons_succ]
                      refine wpG_pure (i := 18) (oi := { dst := some 10, op := Go.Op.assign (Go.Operand.tmp 101), type := 87, pos := "l12_machine.go:154", after := #[{ on := 16, ground := Go.Ground.data }, { on := 17, ground := Go.Ground.chain }, { on := 0, ground := Go.Ground.phase }, { on := 1, ground := Go.Ground.phase }, { on := 2, ground := Go.Ground.phase }, { on := 3, ground := Go.Ground.phase }, { on := 4, ground := Go.Ground.phase }, { on := 5, ground := Go.Ground.phase }, { on := 6, ground := Go.Ground.phase }, { on := 7, ground := Go.Ground.phase }, { on := 8, ground := Go.Ground.phase }, { on := 9, ground := Go.Ground.phase }, { on := 10, ground := Go.Ground.phase }, { on := 11, ground := Go.Ground.phase }, { on := 12, ground := Go.Ground.phase }, { on := 13, ground := Go.Ground.phase }, { on := 14, ground := Go.Ground.phase }, { on := 15, ground := Go.Ground.phase }, { on := 16, ground := Go.Ground.phase }, { on := 17, ground := Go.Ground.phase }], guard := none }) (v := ?vg148) rfl (by kernel_rfl) (fun _ _ _ h => h) (Or.inl (by kernel_rfl)) (Or.inl ⟨by rfl, ?yg148⟩) ?_
                      case yg148 => (intro wS _; go_simp <;> with_reducible rfl)
                      try simp only [Act.put, List.setIfInBounds_toArray, List.set_cons_zero, List.set_cons_succ]
                      refine wpG_done (by kernel_rfl) ?_
                      go_wp2_with fail
                      go_meet
                      have hb1 := BD_585.out; have hb2 := BD_581.out
                      rw [bd_pr_fp hb1] at hb1; rw [bd_tx_fp hb2] at hb2
                      exact ⟨g7, cp7, g8, cp8, rfl, rfl, by rw [List.map_append]; exact hb1, by rw [List.map_append]; exact hb2, WR_587.out⟩
                  · skip
                    go_simp
                    have LT_591 : Hid (∀ b ∈ [gp], b < wq.heap.size + 1) := Lib.hid (fun b hm => by have := (BD_280.out.lt kPr_ok b hm); first | exact this | omega | (simp at this; omega))
                    have LT_592 : Hid (∀ b ∈ [gt], b < wq.heap.size + 1) := Lib.hid (fun b hm => by have := (BD_281.out.lt kTx_ok b hm); first | exact this | omega | (simp at this; omega))
                    have hb_593 : Below (wq.alloc (.cells #[.int .u8 (97 + (k : Int))] 5)).drew.heap.size (wq.alloc (.cells #[.int .u8 (97 + (k : Int))] 5)).drew ((wq.alloc (.cells #[.int .u8 (97 + (k : Int))] 5)).alloc (.cells #[.string (s ++ dig1 (97 + (k : Int)))] 9)).drew := below_alloc_drew _ _
                    have hz_594 : wq.heap.size + 1 ≤ wq.heap.size + 1 + 1 := by have := (hb_593).size; first | omega | (simp at this; omega)
                    have c_595 : ((wq.alloc (.cells #[.int .u8 (97 + (k : Int))] 5)).alloc (.cells #[.string (s ++ dig1 (97 + (k : Int)))] 9)).drew.cell? ⟨B15, 0, none⟩ = some (.int .i64 qx) := below_later hb_593 c_276; clear c_276
                    have c_596 : ((wq.alloc (.cells #[.int .u8 (97 + (k : Int))] 5)).alloc (.cells #[.string (s ++ dig1 (97 + (k : Int)))] 9)).drew.cell? ⟨B15, 1, none⟩ = some (.int .i64 qy) := below_later hb_593 c_277; clear c_277
                    have c_597 : ((wq.alloc (.cells #[.int .u8 (97 + (k : Int))] 5)).alloc (.cells #[.string (s ++ dig1 (97 + (k : Int)))] 9)).drew.cell? ⟨gt, i, none⟩ = some (.string s) := below_later hb_593 c_278; clear c_278
                    have hz_598 : w.heap.size + 2 ≤ wq.heap.size + 1 + 1 := Nat.le_trans hz_279 hz_594
                    have BD_599 := Lib.hid (BD_280.out.later kPr_ok hb_593)
                    have BD_600 := Lib.hid (BD_281.out.later kTx_ok hb_593)
                    have WR_601 := Lib.hid (Wrote.trans WR_282.out (Wrote.of_below hb_593))
                    clear hb_593
                    have c_602 : ((wq.alloc (.cells #[.int .u8 (97 + (k : Int))] 5)).alloc (.cells #[.string (s ++ dig1 (97 + (k : Int)))] 9)).drew.cell? ⟨wq.heap.size + 1, 0, none⟩ = some (.string (s ++ dig1 (97 + (k : Int)))) := by go_simp
                    have z_603 : ((wq.alloc (.cells #[.int .u8 (97 + (k : Int))] 5)).alloc (.cells #[.string (s ++ dig1 (97 + (k : Int)))] 9)).drew.frozen? ⟨wq.heap.size + 1, 0, none⟩ = false := by go_simp
                    have hz_604 : wq.heap.size + 1 < wq.heap.size + 1 + 1 := by omega
                    have ND_605 : Hid (∀ b ∈ [wq.heap.size + 1], b ∉ [gp]) := Lib.hid (by intro b hb hm; simp only [List.mem_singleton] at hb; subst hb; have := (LT_591.out _ hm); first | omega | (simp at this; omega))
                    have ND_606 : Hid (∀ b ∈ [wq.heap.size + 1], b ∉ [gt]) := Lib.hid (by intro b hb hm; simp only [List.mem_singleton] at hb; subst hb; have := (LT_592.out _ hm); first | omega | (simp at this; omega))
                    refine hK.out _ _ (Or.inr ?khHeld149) (fun hHeld149S => ?_)
                    case khHeld149 => exact ⟨c_595, c_596, c_597⟩
                    have hHeld149 := hHeld149S.held (by kernel_rfl)
                    clear hK K
                    try simp only [Act.put, List.setIfInBounds_toArray, List.set_cons_zero, List.set_cons_succ]
                    refine wpG_one (i := 2) (o := { dst := some 87, op := Go.Op.buildSlice 67 1 #[(0, Go.Operand.tmp 86)], type := 67, pos := "l12_machine.go:154", after := #[{ on := 1, ground := Go.Ground.data }], guard := none }) rfl (by kernel_rfl) (fun K hK => ?_)
                    go_simp
                    have LT_607 : Hid (∀ b ∈ [gp], b < wq.heap.size + 1 + 1) := Lib.hid (fun b hm => by have := (BD_599.out.lt kPr_ok b hm); first | exact this | omega | (simp at this; omega))
                    have LT_608 : Hid (∀ b ∈ [gt], b < wq.heap.size + 1 + 1) := Lib.hid (fun b hm => by have := (BD_600.out.lt kTx_ok b hm); first | exact this | omega | (simp at this; omega))
                    have hb_609 : Below ((wq.alloc (.cells #[.int .u8 (97 + (k : Int))] 5)).alloc (.cells #[.string (s ++ dig1 (97 + (k : Int)))] 9)).drew.heap.size ((wq.alloc (.cells #[.int .u8 (97 + (k : Int))] 5)).alloc (.cells #[.string (s ++ dig1 (97 + (k : Int)))] 9)).drew (((wq.alloc (.cells #[.int .u8 (97 + (k : Int))] 5)).alloc (.cells #[.string (s ++ dig1 (97 + (k : Int)))] 9)).alloc (.cells #[.int .i64 qx, .int .i64 qy] 71)).drew := below_alloc_drew _ _
                    have hz_610 : wq.heap.size + 1 + 1 ≤ wq.heap.size + 1 + 1 + 1 := by have := (hb_609).size; first | omega | (simp at this; omega)
                    have c_611 : (((wq.alloc (.cells #[.int .u8 (97 + (k : Int))] 5)).alloc (.cells #[.string (s ++ dig1 (97 + (k : Int)))] 9)).alloc (.cells #[.int .i64 qx, .int .i64 qy] 71)).drew.cell? ⟨B15, 0, none⟩ = some (.int .i64 qx) := below_later hb_609 c_595; clear c_595
                    have c_612 : (((wq.alloc (.cells #[.int .u8 (97 + (k : Int))] 5)).alloc (.cells #[.string (s ++ dig1 (97 + (k : Int)))] 9)).alloc (.cells #[.int .i64 qx, .int .i64 qy] 71)).drew.cell? ⟨B15, 1, none⟩ = some (.int .i64 qy) := below_later hb_609 c_596; clear c_596
                    have c_613 : (((wq.alloc (.cells #[.int .u8 (97 + (k : Int))] 5)).alloc (.cells #[.string (s ++ dig1 (97 + (k : Int)))] 9)).alloc (.cells #[.int .i64 qx, .int .i64 qy] 71)).drew.cell? ⟨gt, i, none⟩ = some (.string s) := below_later hb_609 c_597; clear c_597
                    have hz_614 : w.heap.size + 2 ≤ wq.heap.size + 1 + 1 + 1 := Nat.le_trans hz_598 hz_610
                    have BD_615 := Lib.hid (BD_599.out.later kPr_ok hb_609)
                    have BD_616 := Lib.hid (BD_600.out.later kTx_ok hb_609)
                    have WR_617 := Lib.hid (Wrote.trans WR_601.out (Wrote.of_below hb_609))
                    have c_618 : (((wq.alloc (.cells #[.int .u8 (97 + (k : Int))] 5)).alloc (.cells #[.string (s ++ dig1 (97 + (k : Int)))] 9)).alloc (.cells #[.int .i64 qx, .int .i64 qy] 71)).drew.cell? ⟨wq.heap.size + 1, 0, none⟩ = some (.string (s ++ dig1 (97 + (k : Int)))) := below_later hb_609 c_602; clear c_602
                    have z_619 : (((wq.alloc (.cells #[.int .u8 (97 + (k : Int))] 5)).alloc (.cells #[.string (s ++ dig1 (97 + (k : Int)))] 9)).alloc (.cells #[.int .i64 qx, .int .i64 qy] 71)).drew.frozen? ⟨wq.heap.size + 1, 0, none⟩ = false := (Below.frozen hb_609 (p := ⟨wq.heap.size + 1, 0, none⟩) (by show wq.heap.size + 1 < _; first | omega | (simp; done) | (simp; omega))).trans z_603
                    have hz_620 : wq.heap.size + 1 + 1 ≤ wq.heap.size + 1 + 1 + 1 := Nat.le_trans hz_604 hz_610
                    clear hb_609
                    have c_621 : (((wq.alloc (.cells #[.int .u8 (97 + (k : Int))] 5)).alloc (.cells #[.string (s ++ dig1 (97 + (k : Int)))] 9)).alloc (.cells #[.int .i64 qx, .int .i64 qy] 71)).drew.cell? ⟨wq.heap.size + 1 + 1, 0, none⟩ = some (.int .i64 qx) := by go_simp
                    have z_622 : (((wq.alloc (.cells #[.int .u8 (97 + (k : Int))] 5)).alloc (.cells #[.string (s ++ dig1 (97 + (k : Int)))] 9)).alloc (.cells #[.int .i64 qx, .int .i64 qy] 71)).drew.frozen? ⟨wq.heap.size + 1 + 1, 0, none⟩ = false := by go_simp
                    have c_623 : (((wq.alloc (.cells #[.int .u8 (97 + (k : Int))] 5)).alloc (.cells #[.string (s ++ dig1 (97 + (k : Int)))] 9)).alloc (.cells #[.int .i64 qx, .int .i64 qy] 71)).drew.cell? ⟨wq.heap.size + 1 + 1, 1, none⟩ = some (.int .i64 qy) := by go_simp
                    have z_624 : (((wq.alloc (.cells #[.int .u8 (97 + (k : Int))] 5)).alloc (.cells #[.string (s ++ dig1 (97 + (k : Int)))] 9)).alloc (.cells #[.int .i64 qx, .int .i64 qy] 71)).drew.frozen? ⟨wq.heap.size + 1 + 1, 1, none⟩ = false := by go_simp
                    have hz_625 : wq.heap.size + 1 + 1 < wq.heap.size + 1 + 1 + 1 := by omega
                    have ND_626 : Hid (∀ b ∈ [wq.heap.size + 1 + 1], b ∉ [gp]) := Lib.hid (by intro b hb hm; simp only [List.mem_singleton] at hb; subst hb; have := (LT_607.out _ hm); first | omega | (simp at this; omega))
                    have ND_627 : Hid (∀ b ∈ [wq.heap.size + 1 + 1], b ∉ [gt]) := Lib.hid (by intro b hb hm; simp only [List.mem_singleton] at hb; subst hb; have := (LT_608.out _ hm); first | omega | (simp at this; omega))
                    refine hK.out _ _ (Or.inr ?khHeld150) (fun hHeld150S => ?_)
                    case khHeld150 => exact ⟨c_611, c_612, c_613⟩
                    have hHeld150 := hHeld150S.held (by kernel_rfl)
                    clear hK K
                    try simp only [Act.put, List.setIfInBounds_toArray, List.set_cons_zero, List.set_cons_succ]
                    refine wpG_one (i := 3) (o := { dst := some 88, op := Go.Op.call { callee := Go.Callee.builtin Go.Builtin.append, args := #[Go.Operand.tmp 85, Go.Operand.tmp 87], argTypes := #[67, 67] }, type := 67, pos := "l12_machine.go:154", after := #[{ on := 0, ground := Go.Ground.data }, { on := 2, ground := Go.Ground.data }], guard := none }) rfl (by kernel_rfl) (fun K hK => ?_)
                    have HNB := Lib.hid (news_two c_621 c_623)
                    obtain ⟨vss_628, fps_628, hrow, howl, hfp, hnd, hge⟩ := BD_615.out
                    rw [HLN1.out] at hrow
                    have ROW_628 := Lib.hid hrow; have OWL_628 := Lib.hid howl; have NDU_628 := Lib.hid (hfp ▸ hnd); have GE_628 := Lib.hid (fun b hb => hge b (hfp ▸ hb)); have FPE_628 := Lib.hid hfp; clear hrow howl hnd hge hfp
                    refine step_append_keeps rfl (.tmp 85) (.tmp 87) 67 rfl (w.heap.size + 2) 71 i1 (.agg #[.int .i64 0, .int .i64 0]) 2 16 Try.underlying67 hi1 hy0 hy1 hy2 rfl (by decide) gp L.length cp vss_628.flatten rfl ROW_628.out ⟨wq.heap.size + 1 + 1, 0, none⟩ 1 1 [.int .i64 qx, .int .i64 qy] rfl (by rfl) HNB.out (by simp [Value.oneCell']) (by omega) (by unfold maxLen; omega) (by omega) (by first | omega | (simp; omega)) _ rfl ?_
                    intro g7 cp7 w7 hown hgrow hat hlt4 hkeep
                    clear hkeep
                    have HG_629 := Lib.hid hgrow; have HATHG_629 := Lib.hid hat; have HONHG_629 := Lib.hid hown
                    clear hgrow hat hown
                    have hz_630 : wq.heap.size + 1 + 1 + 1 ≤ w7.heap.size := by have := HG_629.out.size; first | omega | (simp at this; omega)
                    have LT_631 : Hid (∀ b ∈ [gp], b < wq.heap.size + 1 + 1 + 1) := Lib.hid (fun b hm => by have := (BD_615.out.lt kPr_ok b hm); first | exact this | omega | (simp at this; omega))
                    have LT_632 : Hid (∀ b ∈ [gt], b < wq.heap.size + 1 + 1 + 1) := Lib.hid (fun b hm => by have := (BD_616.out.lt kTx_ok b hm); first | exact this | omega | (simp at this; omega))
                    have BD_633 := Lib.hid (Bd.app HLN1.out kPr_ok ROW_628.out OWL_628.out NDU_628.out GE_628.out (show kPr.ow [] _ [.int .i64 qx, .int .i64 qy] (qx, qy) from ⟨[], [], [.int .i64 qx], [.int .i64 qy], rfl, rfl, ⟨rfl, rfl, hwx⟩, ⟨rfl, rfl, hwy⟩⟩) List.nodup_nil (fun b hb => absurd hb (by simp)) (fun b hb => absurd hb (by simp)) HONHG_629.out HG_629.out HATHG_629.out (by first | omega | (simp; done) | (simp; omega)))
                    have c_634 : w7.cell? ⟨B15, 0, none⟩ = some (.int .i64 qx) := (HG_629.out.cell_far ⟨B15, 0, none⟩ (World.block_lt_of_cell? _ _ c_611) (fun he => HDP.out _ (by simp) (BD_615.out.own_mem _ he.symm))).trans c_611
                    have c_635 : w7.cell? ⟨B15, 1, none⟩ = some (.int .i64 qy) := (HG_629.out.cell_far ⟨B15, 1, none⟩ (World.block_lt_of_cell? _ _ c_612) (fun he => HDP.out _ (by simp) (BD_615.out.own_mem _ he.symm))).trans c_612
                    have c_636 : w7.cell? ⟨gt, i, none⟩ = some (.string s) := (HG_629.out.cell_far ⟨gt, i, none⟩ (World.block_lt_of_cell? _ _ c_613) (fun he => HTP.out _ (by simp) (BD_615.out.own_mem _ he.symm))).trans c_613
                    have hz_637 : w.heap.size + 2 ≤ w7.heap.size := Nat.le_trans hz_614 hz_630
                    have BD_638 := Lib.hid (BD_616.out.grown kTx_ok HG_629.out (fun k hk hm => HPT.out k (BD_615.out.own_mem k hk) hm))
                    have ND_639 : Hid (∀ b ∈ (g7 :: (fps_628.flatten ++ [])), b ∉ [gt]) := Lib.hid (fun b hm hs => (app_in HATHG_629.out hm).elim (fun h => HPT.out b (FPE_628.out ▸ h) hs) (fun h => h.elim (fun h => by simp at h) (fun h => by have := LT_632.out b hs; first | omega | (simp at h; omega))))
                    have WR_640 := Lib.hid (Wrote.trans WR_617.out (Wrote.mono (Wrote.of_grown HG_629.out) (fun k _ hk => by simp only [Value.ownBlock, Option.some.injEq] at hk; subst hk; first | exact Or.inl rfl | exact Or.inr (Or.inl rfl))))
                    have c_641 : w7.cell? ⟨wq.heap.size + 1, 0, none⟩ = some (.string (s ++ dig1 (97 + (k : Int)))) := (HG_629.out.cell_far ⟨wq.heap.size + 1, 0, none⟩ (World.block_lt_of_cell? _ _ c_618) (fun he => ND_605.out _ (by simp) (BD_615.out.own_mem _ he.symm))).trans c_618
                    have z_642 : w7.frozen? ⟨wq.heap.size + 1, 0, none⟩ = false := (HG_629.out.frozen_far ⟨wq.heap.size + 1, 0, none⟩ (by first | omega | (simp; done) | (simp; omega)) (fun he => ND_605.out _ (by simp) (BD_615.out.own_mem _ he.symm))).trans z_619
                    have hz_643 : wq.heap.size + 1 + 1 ≤ w7.heap.size := Nat.le_trans hz_620 hz_630
                    have c_644 : w7.cell? ⟨wq.heap.size + 1 + 1, 0, none⟩ = some (.int .i64 qx) := (HG_629.out.cell_far ⟨wq.heap.size + 1 + 1, 0, none⟩ (World.block_lt_of_cell? _ _ c_621) (fun he => ND_626.out _ (by simp) (BD_615.out.own_mem _ he.symm))).trans c_621
                    have z_645 : w7.frozen? ⟨wq.heap.size + 1 + 1, 0, none⟩ = false := (HG_629.out.frozen_far ⟨wq.heap.size + 1 + 1, 0, none⟩ (by first | omega | (simp; done) | (simp; omega)) (fun he => ND_626.out _ (by simp) (BD_615.out.own_mem _ he.symm))).trans z_622
                    have c_646 : w7.cell? ⟨wq.heap.size + 1 + 1, 1, none⟩ = some (.int .i64 qy) := (HG_629.out.cell_far ⟨wq.heap.size + 1 + 1, 1, none⟩ (World.block_lt_of_cell? _ _ c_623) (fun he => ND_626.out _ (by simp) (BD_615.out.own_mem _ he.symm))).trans c_623
                    have z_647 : w7.frozen? ⟨wq.heap.size + 1 + 1, 1, none⟩ = false := (HG_629.out.frozen_far ⟨wq.heap.size + 1 + 1, 1, none⟩ (by first | omega | (simp; done) | (simp; omega)) (fun he => ND_626.out _ (by simp) (BD_615.out.own_mem _ he.symm))).trans z_624
                    have hz_648 : wq.heap.size + 1 + 1 + 1 ≤ w7.heap.size := Nat.le_trans hz_625 hz_630
                    refine hK.out _ _ (Or.inr ?khHeld151) (fun hHeld151S => ?_)
                    case khHeld151 => exact ⟨c_634, c_635, c_636⟩
                    have hHeld151 := hHeld151S.held (by kernel_rfl)
                    clear hK K
                    try simp only [Act.put, List.setIfInBounds_toArray, List.set_cons_zero, List.set_cons_succ]
                    refine wpG_one (i := 16) (o := { dst := some 101, op := Go.Op.call { callee := Go.Callee.builtin Go.Builtin.append, args := #[Go.Operand.tmp 89, Go.Operand.tmp 100], argTypes := #[87, 87] }, type := 87, pos := "l12_machine.go:154", after := #[{ on := 4, ground := Go.Ground.data }, { on := 15, ground := Go.Ground.data }, { on := 3, ground := Go.Ground.chain }], guard := none }) rfl (by kernel_rfl) (fun K hK => ?_)
                    obtain ⟨vss_649, fps_649, hrow, howl, hfp, hnd, hge⟩ := BD_638.out
                    rw [HLN2.out] at hrow
                    have ROW_649 := Lib.hid hrow; have OWL_649 := Lib.hid howl; have NDU_649 := Lib.hid (hfp ▸ hnd); have GE_649 := Lib.hid (fun b hb => hge b (hfp ▸ hb)); have FPE_649 := Lib.hid hfp; clear hrow howl hnd hge hfp
                    refine step_append_keeps rfl (.tmp 89) (.tmp 100) 87 rfl (w.heap.size + 2) 9 i2 (.string ByteArray.empty) 1 16 Try.underlying87 hi2 hx0 hx1 hx2 rfl (by decide) gt L.length ct vss_649.flatten rfl ROW_649.out ⟨wq.heap.size + 1, 0, none⟩ 1 1 [.string (s ++ dig1 (97 + (k : Int)))] rfl (by rfl) (news_at c_641) (by simp [Value.oneCell']) (by omega) (by unfold maxLen; omega) (by omega) (by first | omega | (simp; omega)) _ rfl ?_
                    intro g8 cp8 w8 hown hgrow hat hlt4 hkeep
                    have HKTg8 := Lib.hid (hkeep i (.string s) (tx_at OWL_649.out hpi))
                    clear hkeep
                    have HG_650 := Lib.hid hgrow; have HATHG_650 := Lib.hid hat; have HONHG_650 := Lib.hid hown
                    clear hgrow hat hown
                    have hz_651 : w7.heap.size ≤ w8.heap.size := by have := HG_650.out.size; first | omega | (simp at this; omega)
                    have LT_652 : Hid (∀ b ∈ (g7 :: (fps_628.flatten ++ [])), b < w7.heap.size) := Lib.hid (fun b hm => by have := (BD_633.out.lt kPr_ok b hm); first | exact this | omega | (simp at this; omega))
                    have LT_653 : Hid (∀ b ∈ [gt], b < w7.heap.size) := Lib.hid (fun b hm => by have := (BD_638.out.lt kTx_ok b hm); first | exact this | omega | (simp at this; omega))
                    have BD_654 := Lib.hid (Bd.app HLN2.out kTx_ok ROW_649.out OWL_649.out NDU_649.out GE_649.out (show kTx.ow [] _ [.string (s ++ dig1 (97 + (k : Int)))] (s ++ dig1 (97 + (k : Int))) from ⟨rfl, rfl, hwt⟩) List.nodup_nil (fun b hb => absurd hb (by simp)) (fun b hb => absurd hb (by simp)) HONHG_650.out HG_650.out HATHG_650.out (by first | omega | (simp; done) | (simp; omega)))
                    have c_655 : w8.cell? ⟨B15, 0, none⟩ = some (.int .i64 qx) := (HG_650.out.cell_far ⟨B15, 0, none⟩ (World.block_lt_of_cell? _ _ c_634) (fun he => HDT.out _ (by simp) (BD_638.out.own_mem _ he.symm))).trans c_634
                    have c_656 : w8.cell? ⟨B15, 1, none⟩ = some (.int .i64 qy) := (HG_650.out.cell_far ⟨B15, 1, none⟩ (World.block_lt_of_cell? _ _ c_635) (fun he => HDT.out _ (by simp) (BD_638.out.own_mem _ he.symm))).trans c_635
                    have hz_657 : w.heap.size + 2 ≤ w8.heap.size := Nat.le_trans hz_637 hz_651
                    have BD_658 := Lib.hid (BD_633.out.grown kPr_ok HG_650.out (fun k hk hm => (fun x hx hy => ND_639.out x hy hx) k (BD_638.out.own_mem k hk) hm))
                    have ND_659 : Hid (∀ b ∈ (g8 :: (fps_649.flatten ++ [])), b ∉ (g7 :: (fps_628.flatten ++ []))) := Lib.hid (fun b hm hs => (app_in HATHG_650.out hm).elim (fun h => (fun x hx hy => ND_639.out x hy hx) b (FPE_649.out ▸ h) hs) (fun h => h.elim (fun h => by simp at h) (fun h => by have := LT_652.out b hs; first | omega | (simp at h; omega))))
                    have WR_660 := Lib.hid (Wrote.trans WR_640.out (Wrote.mono (Wrote.of_grown HG_650.out) (fun k _ hk => by simp only [Value.ownBlock, Option.some.injEq] at hk; subst hk; first | exact Or.inl rfl | exact Or.inr (Or.inl rfl))))
                    have c_661 : w8.cell? ⟨wq.heap.size + 1, 0, none⟩ = some (.string (s ++ dig1 (97 + (k : Int)))) := (HG_650.out.cell_far ⟨wq.heap.size + 1, 0, none⟩ (World.block_lt_of_cell? _ _ c_641) (fun he => ND_606.out _ (by simp) (BD_638.out.own_mem _ he.symm))).trans c_641
                    have z_662 : w8.frozen? ⟨wq.heap.size + 1, 0, none⟩ = false := (HG_650.out.frozen_far ⟨wq.heap.size + 1, 0, none⟩ (by first | omega | (simp; done) | (simp; omega)) (fun he => ND_606.out _ (by simp) (BD_638.out.own_mem _ he.symm))).trans z_642
                    have hz_663 : wq.heap.size + 1 + 1 ≤ w8.heap.size := Nat.le_trans hz_643 hz_651
                    have htxg8 : w8.cell? ⟨gt, i, none⟩ = some (.string s) := HKTg8.out
                    refine hK.out _ _ (Or.inl (by kernel_rfl)) (fun _ => ?_)
                    clear hK K
                    try simp only [Act.put, List.setIfInBounds_toArray, List.set_cons_zero, List.set_cons_succ]
                    refine wpG_pure (i := 17) (oi := { dst := some 9, op := Go.Op.assign (Go.Operand.tmp 88), type := 67, pos := "l12_machine.go:154", after := #[{ on := 3, ground := Go.Ground.data }, { on := 16, ground := Go.Ground.chain }, { on := 0, ground := Go.Ground.phase }, { on := 1, ground := Go.Ground.phase }, { on := 2, ground := Go.Ground.phase }, { on := 3, ground := Go.Ground.phase }, { on := 4, ground := Go.Ground.textOnly Go.Departure.lateStores }, { on := 5, ground := Go.Ground.textOnly Go.Departure.lateStores }, { on := 6, ground := Go.Ground.textOnly Go.Departure.lateStores }, { on := 7, ground := Go.Ground.textOnly Go.Departure.lateStores }, { on := 8, ground := Go.Ground.textOnly Go.Departure.lateStores }, { on := 9, ground := Go.Ground.textOnly Go.Departure.lateStores }, { on := 10, ground := Go.Ground.textOnly Go.Departure.lateStores }, { on := 11, ground := Go.Ground.textOnly Go.Departure.lateStores }, { on := 12, ground := Go.Ground.textOnly Go.Departure.lateStores }, { on := 13, ground := Go.Ground.textOnly Go.Departure.lateStores }, { on := 14, ground := Go.Ground.textOnly Go.Departure.lateStores }, { on := 15, ground := Go.Ground.textOnly Go.Departure.lateStores }, { on := 16, ground := Go.Ground.textOnly Go.Departure.lateStoresUnsure }], guard := none }) (v := ?vg153) rfl (by kernel_rfl) (fun _ _ _ h => h) (Or.inl (by kernel_rfl)) (Or.inl ⟨by rfl, ?yg153⟩) ?_
                    case yg153 => (intro wS _; go_simp <;> with_reducible rfl)
                    try simp only [Act.put, List.setIfInBounds_toArray, List.set_cons_zero, List.set_cons_succ]
                    refine wpG_pure (i := 18) (oi := { dst := some 10, op := Go.Op.assign (Go.Operand.tmp 101), type := 87, pos := "l12_machine.go:154", after := #[{ on := 16, ground := Go.Ground.data }, { on := 17, ground := Go.Ground.chain }, { on := 0, ground := Go.Ground.phase }, { on := 1, ground := Go.Ground.phase }, { on := 2, ground := Go.Ground.phase }, { on := 3, ground := Go.Ground.phase }, { on := 4, ground := Go.Ground.phase }, { on := 5, ground := Go.Ground.phase }, { on := 6, ground := Go.Ground.phase }, { on := 7, ground := Go.Ground.phase }, { on := 8, ground := Go.Ground.phase }, { on := 9, ground := Go.Ground.phase }, { on := 10, ground := Go.Ground.phase }, { on := 11, ground := Go.Ground.phase }, { on := 12, ground := Go.Ground.phase }, { on := 13, ground := Go.Ground.phase }, { on := 14, ground := Go.Ground.phase }, { on := 15, ground := Go.Ground.phase }, { on := 16, ground := Go.Ground.phase }, { on := 17, ground := Go.Ground.phase }], guard := none }) (v := ?vg154) rfl (by kernel_rfl) (fun _ _ _ h => h) (Or.inl (by kernel_rfl)) (Or.inl ⟨by rfl, ?yg154⟩) ?_
                    case yg154 => (intro wS _; go_simp <;> with_reducible rfl)
                    try simp only [Act.put, List.setIfInBounds_toArray, List.set_cons_zero, List.set_cons_succ]
                    refine wpG_done (by kernel_rfl) ?_
                    go_wp2_with fail
                    go_meet
                    have hb1 := BD_658.out; have hb2 := BD_654.out
                    rw [bd_pr_fp hb1] at hb1; rw [bd_tx_fp hb2] at hb2
                    exact ⟨g7, cp7, g8, cp8, rfl, rfl, by rw [List.map_append]; exact hb1, by rw [List.map_append]; exact hb2, WR_660.out⟩
            case rest =>
              clear e1 e2 hds hcat pb0 pb1 ptx HBP HBT HBK HGK HPT HTP HDP HDT HWW
              obtain ⟨w12, rfl⟩ : ∃ z : World, z = wc := ⟨_, rfl⟩
              obtain ⟨g1, c1, g2, c2, rfl, rfl, hws12⟩ := HWS10.out.laid15 (q := (qx, qy, s ++ dig1 (97 + (k : Int)))) HGR.out HM11.out hcut.out
              have HNR12 := Lib.hid (WS.grewN HNR10.out HAN.out HGR.out hcut.out)
              have HWS12 := Lib.hid hws12
              have HAN12 := Lib.hid (hws12.apartN HNR12.out)
              have hw12 : Wrote (fun k => k = gp ∨ k = gt ∨ wq.heap.size ≤ k) wq w12 := by obtain ⟨_, _, _, _, _, _, _, _, h⟩ := hcut.out; exact h
              have HWT12 : Hid (Wrote (fun k => S k ∨ w.heap.size + 2 ≤ k) W2 w12) := Lib.hid ((HWT10.out.trans ((Wrote.of_grown HGR.out).mono (fun k _ hk => by simp only [Option.some.injEq] at hk; exact .inr (by omega)))).trans (hw12.mono (fun k _ hk => .inr (by omega))))
              have hbq : Below w.heap.size w10 wq := Below.grown (Below.refl _ _) HGR.out (by omega) (fun j hj => by simp only [Option.some.injEq] at hj; omega)
              have HIN12 := Lib.hid (HI.out _ _ (HI.out _ _ HIN10.out hbq) (hw12.below (by omega) (fun k hk => by omega)))
              have kc : w12.cell? ⟨N, k, none⟩ = some (.int .i64 0) := by
                rw [HNR12.out.cellAt k (by omega)]; exact fill_at _ _ k k (Nat.le_refl _) (by rw [ints_length, goes_len]; exact hk3)
              have kf : w12.frozen? ⟨N, k, none⟩ = false := HNR12.out.frozenAt k
              clear hws12 hw12 hbq HWS10 HNR10 HWT10 HIN10 hcut HM11 HGR
              go_wp2_with fail
              have HNX := Lib.hid (HNR12.out.stored k (.int .i64 (L.length : Int)))
              have HSE : Hid ((fill (ints (goesP A B (pairsR A B) (x, y, s))) (.int .i64 0) k).set k (.int .i64 (L.length : Int)) = fill (ints (goesP A B (pairsR A B) (x, y, s))) (.int .i64 0) (k + 1)) := Lib.hid (fill_set _ _ _ _ (by rw [HGX.out, HIX.out]))
              go_roundw
              case rel => exact ⟨k + 1, g1, c1, g2, c2, by omega, by go_num, by rw [HF2.out, HL2.out], by rw [HF2.out, HL2.out], Lib.hid (by rw [HF2.out, HL2.out]; exact HWS12.out.store HAN12.out HNF.out), Lib.hid (by have h := HNX.out.1; rwa [HSE.out] at h), Lib.hid (HWT12.out.setCell (p := ⟨N, k, none⟩) (.inr hs7) _), Lib.hid (HI.out _ _ HIN12.out ((Below.refl _ _).setCell (p := ⟨N, k, none⟩) (by show w.heap.size ≤ N; omega) _))⟩
              case measure => (simp [intOf]; try omega)
end Go.Proofs.Ytedjahinlpehgaa
