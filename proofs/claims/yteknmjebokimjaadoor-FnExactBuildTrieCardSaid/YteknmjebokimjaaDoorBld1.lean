/- The contracts of BuildTrie, the program's and the reference's. -/
import Derived.Test.YteknmjebokimjaaDoorBldS
namespace Go.Proofs.YteknmjebokimjaaDoor
set_option linter.unusedVariables false
open Go.ChangeShapes Go.WideShapes Go.ChangeAt Go.RowKit
set_option maxRecDepth 100000

/-- a number put to its place: what is written, and where the result lies -/
def PW (f : List Nat) (xs : List Int) (n : Int) (w : World) (e : Ending) (w' : World) : Prop :=
  ∃ v', e = .returned v' ∧ w'.ownsRow 0 3 1 v' (putR xs n).length (ints (putR xs n)) ∧ (∀ b, v'.ownBlock = some b → b ∈ f ∨ w.heap.size ≤ b) ∧ Wrote (fun b => b ∈ f) w w'
/-- the pieces of a text, in memory of the call's own -/
def PS (s : ByteArray) (w : World) (e : Ending) (w' : World) : Prop :=
  ∃ gp cpp, e = .returned (.slice (some ⟨gp, 0, none⟩) (pieces 47 s).length cpp) ∧ (∀ (j : Nat) x, (pieces 47 s)[j]? = some x → w'.cell? ⟨gp, j, none⟩ = some (.string x)) ∧ w.heap.size ≤ gp ∧ gp < w'.heap.size ∧ ((pieces 47 s).length ≤ cpp ∧ cpp ≤ 9223372036854775807) ∧ Below w.heap.size w w'
def BldOf (l : List (ByteArray × Int)) (w : World) (v : Value) (w' : World) : Prop :=
  ∃ g cap vss fps, v = .slice (some ⟨g, 0, none⟩) (buildR l).length cap ∧ TN w.heap.size w' g cap vss fps (buildR l) ∧ Below w.heap.size w w'
theorem spec_putW (v : Value) (xs : List Int) (n : Int) (w : World) (ho : w.ownsRow 0 3 1 v xs.length (ints xs)) (hl : xs.length ≤ 1048576) : Calls Tryd.prog 54 #[v, .int .i64 n] w (PW v.ownBlock.toList xs n w) := by
  refine (spec_put2 0 v xs n w ho (Nat.zero_le _) hl).mono ?_
  rintro e w' ⟨v', rfl, h1, h2, h3⟩
  refine ⟨v', rfl, h1, fun b hb => ?_, Wrote.of_below h3⟩
  rcases h2 with h | h
  · rw [h] at hb; exact .inl (by rw [hb]; simp)
  · exact .inr (h b hb)
theorem spec_splitP (s : ByteArray) (w : World) (hs : s.size ≤ 1048576) : Calls Tryd.prog 53 #[.string s, .int .u8 47] w (PS s w) := by
  refine (spec_splitO s w hs).mono ?_
  rintro e w' ⟨v, rfl, ho, hb⟩
  have hpos : 0 < (pieces 47 s).length := by rw [pieces_length]; omega
  obtain ⟨g, c, rfl, h1, h2⟩ := ho.form hpos
  have hc := own_caps ho
  unfold maxLen at hc
  refine ⟨g, c, rfl, fun j x hx => ?_, h1, h2, by omega, hb⟩
  have hj := (List.getElem?_eq_some_iff.1 hx).1
  rw [ho.cellAt j (by omega)]
  simp [strs, hx]
theorem impl_withW (a : Option Addr) (c : Nat) (xs : List Int) (n : Int) (w : World) (ho : w.ownsRow 0 3 1 (.slice a xs.length c) xs.length (ints xs)) (hl : xs.length ≤ 1048576) (hs : xs.Pairwise (· < ·)) : Calls Tryd.prog 46 #[.slice a xs.length c, .int .i64 n] w (PW (Value.slice a xs.length c).ownBlock.toList xs n w) := by
  rcases TN.nil_or ho with ⟨rfl, rfl, rfl⟩ | ⟨g, rfl⟩
  · refine (impl_with0 0 n w (Nat.zero_le _)).mono ?_
    rintro e w' ⟨g', cap, rfl, h1, h2, h3⟩
    refine ⟨_, rfl, h1, fun b hb => ?_, h3.mono fun k _ hk => by cases hk⟩
    simp only [Value.ownBlock, Option.some.injEq] at hb
    rcases h2 with h | h
    · cases h
    · exact .inr (by omega)
  · refine (impl_with2 0 g c xs n w ho (Nat.zero_le _) hl hs).mono ?_
    rintro e w' ⟨g', cap, rfl, h1, h2, h3⟩
    refine ⟨_, rfl, h1, fun b hb => ?_, h3.mono fun k _ hk => by simp only [Option.some.injEq] at hk; subst hk; simp [Value.ownBlock]⟩
    simp only [Value.ownBlock, Option.some.injEq] at hb
    rcases h2 with h | h
    · simp only [Option.some.injEq] at h; exact .inl (by rw [← hb, ← h]; simp [Value.ownBlock])
    · exact .inr (by omega)
theorem impl_levelsP (s : ByteArray) (w : World) (m : Int) (hs : s.size ≤ 1048576) (hm : w.cell? ⟨0, 0, none⟩ = some (.int .i64 m)) (hg : gPat s = true) : Calls Tryd.prog 44 #[.string s] w (PS s w) := by
  refine (levels_at s w m hs hm hg).mono ?_
  rintro e w' ⟨rfl, hr, hb⟩
  have hp6 : (pieces 47 s).length ≤ 6 := by unfold gPat at hg; rw [Bool.and_eq_true, decide_eq_true_eq] at hg; exact hg.1
  have hpos : 0 < (pieces 47 s).length := by rw [pieces_length]; omega
  obtain ⟨b, off, he, hbl, hc⟩ := hr.at (fun e => by have := congrArg List.length e; simp [strs] at this; rw [this] at hpos; simp at hpos)
  simp only [Option.some.injEq, Addr.mk.injEq, and_true] at he
  obtain ⟨rfl, rfl⟩ := he
  refine ⟨_, _, rfl, fun j x hx => ?_, Nat.le_refl _, hbl, ⟨Nat.le_refl _, by omega⟩, hb⟩
  have := hc j (.string x) (by simp [strs, hx])
  rwa [Nat.zero_add] at this

set_option maxHeartbeats 8000000 in
theorem spec_build (ea : Option Addr) (ecap : Nat) (l : List (ByteArray × Int)) (w : World) (h0 : kSubS.rd w.heap.size w [.slice ea l.length ecap] l) (ht : kSubS.wt l ≤ 1048576) (hs : subsB l = true) :
    Calls Tryd.prog 41 #[.slice ea l.length ecap] w fun e w' => ∃ v, e = .returned v ∧ BldOf l w v w' := by
  obtain ⟨i0, hi, hz0, hz1, hz2⟩ := info_parts Tryd.infoHTrieNodeS
  have H0 := Lib.hid h0; have HT := Lib.hid ht
  have hln := (sl_len h0).2
  have h30 := subsB_len hs
  have HAT := Lib.hid (fun x (hx : x ∈ l) => subsB_at hs hx)
  have HTI : Hid (∀ i, i ≤ l.length → TI (1 + 6 * i) i (bT l i)) := Lib.hid (fun i hi => TI.build hs ht i hi)
  have HTN0 := Lib.hid (TN.start w)
  have HB0 : Hid (Below w.heap.size w (w.alloc (.cells #[.string { data := #[] }, .int .i64 (-1), .slice none 0 0] 58))) := Lib.hid ((Below.refl _ _).alloc (Nat.le_refl _) _)
  have HBZ := Lib.hid (Below.refl w.heap.size w)
  clear h0 ht hs
  go_enter Tryd.func41, Tryd.ntmps41
  go_wp2_with fail
  go_loopw [3, 14] (fun tv iv wr => ∃ (i g cp : Nat) (vss : List (List Value)) (fps : List (List Nat)), i ≤ l.length ∧ iv = .int .i64 (i : Int) ∧ tv = .slice (some ⟨g, 0, none⟩) (bT l i).length cp ∧ Hid (TN w.heap.size wr g cp vss fps (bT l i)) ∧ Hid (Below w.heap.size w wr)) (fun _ iv _ => l.length - (intOf iv).toNat)
  case atStart => exact ⟨0, w.heap.size, 1, _, _, by omega, rfl, rfl, HTN0, HB0⟩
  case round =>
    clear HTN0 HB0
    obtain ⟨w1, rfl⟩ : ∃ z : World, z = wr := ⟨_, rfl⟩
    obtain ⟨i, g, cp, vss, fps, hil, rfl, rfl, HTN, HB⟩ := hrel
    have hti := HTI.out i hil
    have htl := hti.len
    by_cases hlt : i < l.length
    case neg =>
      obtain rfl : i = l.length := by omega
      have HBF := Lib.hid (bT_full l)
      have hTW : Hid (TN w.heap.size w1 g cp vss fps (buildR l)) := Lib.hid (by rw [← HBF.out]; exact HTN.out)
      clear hti htl
      go_wp2_with fail
      (go_ret; exact ⟨_, rfl, g, cp, vss, fps, by rw [HBF.out]; rfl, hTW.out, HB.out⟩)
    obtain ⟨x, hx⟩ : ∃ x, l[i]? = some x := ⟨l[i], List.getElem?_eq_getElem hlt⟩
    obtain ⟨v, b, off, hr, rfl, hbl, hcell⟩ := sl_at kSub_ok (n := 2) rfl (by decide) H0.out hx
    obtain ⟨rfl, _, hwf⟩ := Sub_rd hr
    have HBW : Hid (Below w.heap.size w w1) := Lib.hid (HBZ.out.trans (HB.out.mono HBZ.out.size))
    have c0 : w1.cell? ⟨b, off + i * 2, none⟩ = some (.string x.1) := (HBW.out.cell (p := ⟨b, off + i * 2, none⟩) hbl).trans (by have := hcell 0 _ rfl; simpa [Nat.add_assoc] using this)
    have c1 : w1.cell? ⟨b, off + i * 2 + 1, none⟩ = some (.int .i64 x.2) := (HBW.out.cell (p := ⟨b, off + i * 2 + 1, none⟩) hbl).trans (by have := hcell 1 _ rfl; simpa [Nat.add_assoc] using this)
    have hsz := sub_size HT.out (List.mem_of_getElem? hx)
    have hat := HAT.out x (List.mem_of_getElem? hx)
    have hp6 : (pieces 47 x.1).length ≤ 6 := by have := hat.1; unfold gPat at this; rw [Bool.and_eq_true, decide_eq_true_eq] at this; exact this.1
    have HNX := Lib.hid (bT_next hx)
    have HPZ : Hid (∀ y ∈ pieces 47 x.1, y.size ≤ 1048576) := Lib.hid (fun y hy => by have := pieces_size 47 x.1 y hy; omega)
    have HFI := Lib.hid (fun (j : Nat) (hj : j ≤ (pieces 47 x.1).length) => fT_inv hti HPZ.out j hj)
    have HSP := Lib.hid (fun wx (hb : Below w1.heap.size w1 wx) => spec_splitP x.1 wx hsz)
    have hg0 : w.heap.size ≤ g := HTN.out.ge g (by simp)
    have hgl := HTN.out.gl
    have hal : Below w1.heap.size w1 (w1.alloc (.cells #[.string x.1, .int .i64 x.2] 55)) := (Below.refl _ _).alloc (Nat.le_refl _) _
    have k0 : (w1.alloc (.cells #[.string x.1, .int .i64 x.2] 55)).cell? ⟨w1.heap.size, 0, none⟩ = some (.string x.1) := by go_simp
    have k1 : (w1.alloc (.cells #[.string x.1, .int .i64 x.2] 55)).cell? ⟨w1.heap.size, 1, none⟩ = some (.int .i64 x.2) := by go_simp
    have HTA := Lib.hid (HTN.out.later hal)
    have hzw : w1.heap.size < (w1.alloc (.cells #[.string x.1, .int .i64 x.2] 55)).heap.size := by simp
    have HALB := Lib.hid hal
    clear hx hr hcell hti hal
    go_wp2_with fail
    clear c0 c1
    generalize hWA : w1.alloc (.cells #[.string x.1, .int .i64 x.2] 55) = wa at *
    clear hWA
    refine (HSP.out _ HALB.out).mono ?_
    rintro e w2 ⟨gp, cpp, rfl, hpc, hgp1, hgp2, ⟨hpl1, hpl2⟩, hb2⟩
    have HPC := Lib.hid hpc
    have HT2 := Lib.hid (HTA.out.later hb2)
    replace k0 := below_later hb2 k0; replace k1 := below_later hb2 k1
    have HB2 : Hid (Below w.heap.size w w2) := Lib.hid ((HB.out.trans (HALB.out.mono HB.out.size)).trans (hb2.mono (Nat.le_trans HB.out.size HALB.out.size)))
    have hs2 : w1.heap.size < w2.heap.size := by have := hb2.size; omega
    have hgl2 : g < w2.heap.size := by omega
    have hWs : w.heap.size ≤ w1.heap.size := HB.out.size
    clear hb2 hpc HTA HALB HSP HTN HB
    generalize w1.heap.size = BX at *
    have hbn : 1 ≤ (pieces 47 x.1).length := by rw [pieces_length]; omega
    have HPE : Hid (∃ q, q = pieces 47 x.1) := Lib.hid ⟨_, rfl⟩
    generalize pieces 47 x.1 = ps at *
    generalize hTT : bT l i = t at *
    clear hTT
    have HZ0 : Hid (fT t ps 0 = (t, 0)) := Lib.hid rfl
    go_wp2_with fail
    go_loopw [3, 6, 22] (fun tv uv jv wr => ∃ (j g' cp' : Nat) (vss : List (List Value)) (fps : List (List Nat)), j ≤ ps.length ∧ jv = .int .i64 (j : Int) ∧ tv = .slice (some ⟨g', 0, none⟩) (fT t ps j).1.length cp' ∧ uv = .int .i64 ((fT t ps j).2 : Int) ∧ (g' = g ∨ w2.heap.size ≤ g') ∧ Hid (TN w.heap.size wr g' cp' vss fps (fT t ps j).1) ∧ Hid (Wrote (fun k => k = g ∨ w2.heap.size ≤ k) w2 wr)) (fun _ _ jv _ => ps.length - (intOf jv).toNat)
    case atStart => exact ⟨0, g, cp, vss, fps, by omega, rfl, by rw [HZ0.out], by rw [HZ0.out]; rfl, .inl rfl, Lib.hid (by rw [HZ0.out]; exact HT2.out), Lib.hid (Wrote.refl _ _)⟩
    case round =>
      clear HT2
      obtain ⟨w3, rfl⟩ : ∃ z : World, z = wr := ⟨_, rfl⟩
      obtain ⟨j, g', cp', vss, fps, hj, rfl, rfl, rfl, hgg, HT3, HWR⟩ := hrel
      obtain ⟨hfi, hfu⟩ := HFI.out j hj
      have hfl := hfi.len
      have hs3 : w2.heap.size ≤ w3.heap.size := HWR.out.size
      have hgW : w.heap.size ≤ g' := HT3.out.ge g' (by simp)
      by_cases hjl : j < ps.length
      case neg =>
        obtain rfl : j = ps.length := by omega
        have HFD := Lib.hid hfi
        have HTI2 := Lib.hid (fun (u : Nat) (hu : u < (fT t ps ps.length).1.length) => hfi.who (nd (fT t ps ps.length).1 u) (by unfold nd; rw [List.getD_eq_getElem?_getD, List.getElem?_eq_getElem hu]; exact List.getElem_mem hu))
        clear hfi HFI
        generalize fT t ps ps.length = F at *
        obtain ⟨tt, uu⟩ := F
        simp only at hfu hfl HT3 HTI2 HNX
        obtain ⟨f, a, c, hf, hv, hfe, hro, hwy, hsz1, hwu, cw, fw⟩ := HT3.out.at hfu
        subst hfe
        obtain ⟨hw1, hw2, hw3⟩ := HTI2.out uu hfu
        have kk1 := HWR.out.cell k1 (by rintro (h | h) <;> omega)
        have HPT := Lib.hid (fun wx (hb : Below w3.heap.size w3 wx) => spec_putW (.slice a (nd tt uu).2.2.length c) (nd tt uu).2.2 x.2 wx (own_later hro hb) (by omega))
        have HF := Lib.hid hf; have HV := Lib.hid hv; have HWY := Lib.hid hwy
        have hm30 : (nd tt uu).2.2.length ≤ 30 := by omega
        have hcc := own_caps hro
        have HR2 : Hid (∀ y ∈ putR (nd tt uu).2.2 x.2, (Lit.int .i64 y).wf = true) := Lib.hid (fun y hy => by
          rcases mem_put hy with h | h
          · exact HWY.out y h
          · rw [h]; exact WalkArith.wf_i64 (by omega))
        have huu : ((uu : Nat) : Int) < ((tt.length : Nat) : Int) := by omega
        have huu0 : (0 : Int) ≤ ((uu : Nat) : Int) := Int.natCast_nonneg _
        have hnj : ¬ ((ps.length : Nat) : Int) < ((ps.length : Nat) : Int) := by omega
        clear hf hv hwy hro hw1 hw2 hw3 HTI2
        go_wp2_with fail
        refine wp_region_G [9] (fun w' => w'.cell? ⟨g', uu * 3 + 2, none⟩ = some (.slice a (nd tt uu).2.2.length c) ∧ w'.cell? ⟨BX, 1, none⟩ = some (.int .i64 x.2)) (by kernel_rfl) ?_ (fun hHeld => ?_)
        · exact ⟨cw, kk1⟩
        refine wpG_pure (i := 0) (oi := { dst := some 42, op := Go.Op.move (Go.Operand.tmp 3), type := 24, pos := "l10_topic.go:164", after := #[], guard := none }) (v := ?vg1) rfl (by kernel_rfl) (fun _ _ _ h => h) (Or.inr hHeld) (Or.inl ⟨by rfl, ?yg1⟩) ?_
        case yg1 => (intro wS _; go_simp <;> with_reducible rfl)
        try simp only [Act.put, List.setIfInBounds_toArray, List.set_cons_zero, List.set_cons_succ]
        refine wpG_pure (i := 1) (oi := { dst := some 43, op := Go.Op.move (Go.Operand.tmp 6), type := 3, pos := "l10_topic.go:164", after := #[], guard := none }) (v := ?vg2) rfl (by kernel_rfl) (fun _ _ _ h => h) (Or.inr hHeld) (Or.inl ⟨by rfl, ?yg2⟩) ?_
        case yg2 => (intro wS _; go_simp <;> with_reducible rfl)
        try simp only [Act.put, List.setIfInBounds_toArray, List.set_cons_zero, List.set_cons_succ]
        refine wpG_pure (i := 2) (oi := { dst := some 44, op := Go.Op.move (Go.Operand.tmp 3), type := 24, pos := "l10_topic.go:164", after := #[], guard := none }) (v := ?vg3) rfl (by kernel_rfl) (fun _ _ _ h => h) (Or.inr hHeld) (Or.inl ⟨by rfl, ?yg3⟩) ?_
        case yg3 => (intro wS _; go_simp <;> with_reducible rfl)
        try simp only [Act.put, List.setIfInBounds_toArray, List.set_cons_zero, List.set_cons_succ]
        refine wpG_pure (i := 3) (oi := { dst := some 45, op := Go.Op.move (Go.Operand.tmp 6), type := 3, pos := "l10_topic.go:164", after := #[], guard := none }) (v := ?vg4) rfl (by kernel_rfl) (fun _ _ _ h => h) (Or.inr hHeld) (Or.inl ⟨by rfl, ?yg4⟩) ?_
        case yg4 => (intro wS _; go_simp <;> with_reducible rfl)
        try simp only [Act.put, List.setIfInBounds_toArray, List.set_cons_zero, List.set_cons_succ]
        refine wpG_pure (i := 4) (oi := { dst := some 46, op := Go.Op.indexAddr 24 (Go.Operand.tmp 44) (Go.Operand.tmp 45), type := 0, pos := "l10_topic.go:164", after := #[{ on := 2, ground := Go.Ground.data }, { on := 3, ground := Go.Ground.data }], guard := none }) (v := ?vg5) rfl (by kernel_rfl) (fun _ _ _ h => h) (Or.inr hHeld) (Or.inl ⟨by rfl, ?yg5⟩) ?_
        case yg5 => (intro wS _; go_simp <;> with_reducible rfl)
        try simp only [Act.put, List.setIfInBounds_toArray, List.set_cons_zero, List.set_cons_succ]
        refine wpG_pure (i := 5) (oi := { dst := some 47, op := Go.Op.fieldAddr 58 (Go.Operand.tmp 46) 2, type := 0, pos := "l10_topic.go:164", after := #[{ on := 4, ground := Go.Ground.data }], guard := none }) (v := ?vg6) rfl (by kernel_rfl) (fun _ _ _ h => h) (Or.inr hHeld) (Or.inl ⟨by rfl, ?yg6⟩) ?_
        case yg6 => (intro wS _; go_simp <;> with_reducible rfl)
        try simp only [Act.put, List.setIfInBounds_toArray, List.set_cons_zero, List.set_cons_succ]
        refine wpG_load (i := 6) (oi := { dst := some 48, op := Go.Op.load 36 (Go.Operand.tmp 47), type := 36, pos := "l10_topic.go:164", after := #[{ on := 5, ground := Go.Ground.data }], guard := none }) (v := ?vg7) [[9, 6]] rfl (by kernel_rfl) (fun _ _ _ h => h) hHeld (Or.inl ⟨by rfl, ?yg7⟩) ?_
        case yg7 => (intro wS hSw; (try dsimp only at hSw); go_simp <;> with_reducible rfl)
        try simp only [Act.put, List.setIfInBounds_toArray, List.set_cons_zero, List.set_cons_succ]
        refine wpG_pure (i := 7) (oi := { dst := some 49, op := Go.Op.fieldAddr 55 (Go.Operand.tmp 5) 1, type := 0, pos := "l10_topic.go:164", after := #[], guard := none }) (v := ?vg8) rfl (by kernel_rfl) (fun _ _ _ h => h) (Or.inr hHeld) (Or.inl ⟨by rfl, ?yg8⟩) ?_
        case yg8 => (intro wS _; go_simp <;> with_reducible rfl)
        try simp only [Act.put, List.setIfInBounds_toArray, List.set_cons_zero, List.set_cons_succ]
        refine wpG_load (i := 8) (oi := { dst := some 50, op := Go.Op.load 3 (Go.Operand.tmp 49), type := 3, pos := "l10_topic.go:164", after := #[{ on := 7, ground := Go.Ground.data }], guard := none }) (v := ?vg9) [[9, 8]] rfl (by kernel_rfl) (fun _ _ _ h => h) hHeld (Or.inl ⟨by rfl, ?yg9⟩) ?_
        case yg9 => (intro wS hSw; (try dsimp only at hSw); go_simp <;> with_reducible rfl)
        try simp only [Act.put, List.setIfInBounds_toArray, List.set_cons_zero, List.set_cons_succ]
        refine wpG_one (i := 9) (o := { dst := some 51, op := Go.Op.call { callee := Go.Callee.value (Go.Operand.func 54), args := #[Go.Operand.tmp 48, Go.Operand.tmp 50], argTypes := #[36, 3] }, type := 36, pos := "l10_topic.go:164", after := #[{ on := 6, ground := Go.Ground.data }, { on := 8, ground := Go.Ground.data }], guard := none }) rfl (by kernel_rfl) (fun K hK => ?_)
        go_simp
        refine (HPT.out _ (rdrew (Below.refl _ _) 1)).mono ?_
        rintro e w8 ⟨v', rfl, hown, hnew, hw8⟩
        obtain ⟨a', c', rfl⟩ := form_of_own hown
        obtain ⟨vss2, fps2, htn9⟩ := (HT3.out.later (rdrew (Below.refl w3.heap.size w3) 1)).put hfu HF.out HV.out rfl hsz1 hwu hw8 (by show w.heap.size ≤ w3.heap.size; omega) hown HR2.out hnew
        have HT9 := Lib.hid htn9
        have hgf2 : g' ∉ (Value.slice a (nd tt uu).2.2.length c).ownBlock.toList := fun hm => by have := HT3.out.nod; rw [List.nodup_cons] at this; exact this.1 (List.mem_flatten.2 ⟨_, List.mem_of_getElem? HF.out, hm⟩)
        have cw8 : w8.cell? ⟨g', uu * 3 + 2, none⟩ = some (.slice a (nd tt uu).2.2.length c) := hw8.cell (show w3.drew.cell? ⟨g', uu * 3 + 2, none⟩ = _ from cw) hgf2
        have fw8 : w8.frozen? ⟨g', uu * 3 + 2, none⟩ = false := (World.frozen?_of_block (hw8.block g' (show g' < w3.heap.size from HT3.out.gl) hgf2)).trans (show w3.drew.frozen? ⟨g', uu * 3 + 2, none⟩ = _ from fw)
        have HB8 : Hid (Below w.heap.size w w8) := Lib.hid (((HB2.out.trans (HWR.out.below (by omega) (by rintro k (h | h) <;> omega))).drew).trans (hw8.below (show w.heap.size ≤ w3.heap.size by omega) (fun k hk => HT3.out.ge k (List.mem_cons_of_mem _ (List.mem_flatten.2 ⟨_, List.mem_of_getElem? HF.out, hk⟩)))))
        clear hown hnew hw8 htn9
        refine hK.out _ _ (Or.inl (by kernel_rfl)) (fun _ => ?_)
        clear hK K
        try simp only [Act.put, List.setIfInBounds_toArray, List.set_cons_zero, List.set_cons_succ]
        refine wpG_pure (i := 10) (oi := { dst := some 52, op := Go.Op.indexAddr 24 (Go.Operand.tmp 42) (Go.Operand.tmp 43), type := 0, pos := "l10_topic.go:164", after := #[{ on := 0, ground := Go.Ground.data }, { on := 1, ground := Go.Ground.data }, { on := 0, ground := Go.Ground.phase }, { on := 1, ground := Go.Ground.phase }, { on := 2, ground := Go.Ground.phase }, { on := 3, ground := Go.Ground.phase }, { on := 4, ground := Go.Ground.phase }, { on := 5, ground := Go.Ground.phase }, { on := 6, ground := Go.Ground.phase }, { on := 7, ground := Go.Ground.phase }, { on := 8, ground := Go.Ground.phase }, { on := 9, ground := Go.Ground.phase }], guard := none }) (v := ?vg11) rfl (by kernel_rfl) (fun _ _ _ h => h) (Or.inl (by kernel_rfl)) (Or.inl ⟨by rfl, ?yg11⟩) ?_
        case yg11 => (intro wS _; go_simp <;> with_reducible rfl)
        try simp only [Act.put, List.setIfInBounds_toArray, List.set_cons_zero, List.set_cons_succ]
        refine wpG_pure (i := 11) (oi := { dst := some 53, op := Go.Op.fieldAddr 58 (Go.Operand.tmp 52) 2, type := 0, pos := "l10_topic.go:164", after := #[{ on := 10, ground := Go.Ground.data }, { on := 0, ground := Go.Ground.phase }, { on := 1, ground := Go.Ground.phase }, { on := 2, ground := Go.Ground.phase }, { on := 3, ground := Go.Ground.phase }, { on := 4, ground := Go.Ground.phase }, { on := 5, ground := Go.Ground.phase }, { on := 6, ground := Go.Ground.phase }, { on := 7, ground := Go.Ground.phase }, { on := 8, ground := Go.Ground.phase }, { on := 9, ground := Go.Ground.phase }], guard := none }) (v := ?vg12) rfl (by kernel_rfl) (fun _ _ _ h => h) (Or.inl (by kernel_rfl)) (Or.inl ⟨by rfl, ?yg12⟩) ?_
        case yg12 => (intro wS _; go_simp <;> with_reducible rfl)
        try simp only [Act.put, List.setIfInBounds_toArray, List.set_cons_zero, List.set_cons_succ]
        refine wpG_one (i := 12) (o := { dst := none, op := Go.Op.store 36 (Go.Operand.tmp 53) (Go.Operand.tmp 51), type := 0, pos := "l10_topic.go:164", after := #[{ on := 11, ground := Go.Ground.data }, { on := 9, ground := Go.Ground.data }, { on := 9, ground := Go.Ground.chain }, { on := 0, ground := Go.Ground.phase }, { on := 1, ground := Go.Ground.phase }, { on := 2, ground := Go.Ground.phase }, { on := 3, ground := Go.Ground.phase }, { on := 4, ground := Go.Ground.phase }, { on := 5, ground := Go.Ground.phase }, { on := 6, ground := Go.Ground.phase }, { on := 7, ground := Go.Ground.phase }, { on := 8, ground := Go.Ground.phase }, { on := 9, ground := Go.Ground.phase }], guard := none }) rfl (by kernel_rfl) (fun K hK => ?_)
        go_simp
        refine hK.out _ _ (Or.inl (by kernel_rfl)) (fun _ => ?_)
        clear hK K
        try simp only [Act.put, List.setIfInBounds_toArray, List.set_cons_zero, List.set_cons_succ]
        refine wpG_done (by kernel_rfl) ?_
        skip
        go_wp2_with fail
        go_roundw
        case rel => exact ⟨i + 1, g', cp', vss2, fps2, by omega, by go_num, by rw [HNX.out]; unfold putT; rw [List.length_set], Lib.hid (by rw [HNX.out]; exact HT9.out), Lib.hid (HB8.out.setCell (p := ⟨g', uu * 3 + 2, none⟩) (by show w.heap.size ≤ g'; omega) _)⟩
        case measure => (simp [intOf]; try omega)
      obtain ⟨y, hy⟩ : ∃ y, ps[j]? = some y := ⟨ps[j], List.getElem?_eq_getElem hjl⟩
      have cy := HWR.out.cell (HPC.out j y hy) (by rintro (h | h) <;> omega)
      have hysz := HPZ.out y (List.mem_of_getElem? hy)
      have HYES := Lib.hid (fun hk => fT_yes (t := t) hy hk)
      have HNO := Lib.hid (fun hk => fT_no (t := t) hy hk)
      have hroot := hfi.root
      have hji : ((j : Nat) : Int) < ((ps.length : Nat) : Int) := by omega
      clear hy hfi HFI
      generalize hF1 : fT t ps (j + 1) = F1 at *
      have HF1 := Lib.hid hF1
      clear hF1
      generalize fT t ps j = F at *
      obtain ⟨tt, uu⟩ := F
      simp only at hfu hfl HT3 HYES HNO hroot
      have HKD := Lib.hid (spec_kid tt (some ⟨g', 0, none⟩) tt.length cp' (uu : Int) y w3 HT3.out.rd (by omega) (by unfold maxLen; omega))
      go_wp2_with fail
      refine HKD.out.mono ?_
      rintro e w4 ⟨rfl, hb4⟩
      have HT4 := Lib.hid (HT3.out.later hb4)
      have HW4 : Hid (Wrote (fun k => k = g ∨ w2.heap.size ≤ k) w2 w4) := Lib.hid (HWR.out.trans (Wrote.of_below hb4))
      have hs4 : w3.heap.size ≤ w4.heap.size := hb4.size
      clear hb4 HT3 HWR HKD cy hroot
      rcases kidR_cases tt (uu : Int) y with hk | ⟨hk0, hk1⟩
      case inr =>
        have HE := Lib.hid (HYES.out hk0)
        clear HYES HNO
        generalize kidR tt (uu : Int) y = kk at *
        have hkn : ¬ kk < 0 := by omega
        have hkt : ((kk.toNat : Nat) : Int) = kk := by omega
        go_wp2_with fail
        go_roundw
        case rel => exact ⟨j + 1, g', cp', vss, fps, by omega, by go_num, by rw [HF1.out, HE.out], by rw [HF1.out, HE.out]; simp only; rw [hkt], hgg, Lib.hid (by rw [HF1.out, HE.out]; exact HT4.out), HW4⟩
        case measure => (simp [intOf]; try omega)
      have HE := Lib.hid (HNO.out (by rw [hk]; decide))
      clear HYES HNO
      have hk1 : (-1 : Int) < 0 := by decide
      have HNW : Hid (∀ (q : Nat) (u : Value), [Value.string y, .int .i64 (uu : Int), .slice none 0 0][q]? = some u → (w4.alloc (.cells #[.string y, .int .i64 (uu : Int), .slice none 0 0] 58)).cell? ((⟨w4.heap.size, 0, none⟩ : Addr).add q) = some u) := Lib.hid (World.news_of_block (cs := #[.string y, .int .i64 (uu : Int), .slice none 0 0]) (heap_alloc_new w4 _))
      rw [hk]
      clear hk
      have hwu : (Lit.int .i64 ((uu : Nat) : Int)).wf = true := WalkArith.wf_i64 (by omega)
      have hgl4 := HT4.out.gl
      go_wp2_with (at_builtin; (refine wpList_append_lies _ rfl _ _ 24 rfl w.heap.size 58 i0 (.agg #[.string { data := #[] }, .int .i64 0, .slice none 0 0]) 3 48 Tryd.underlying24 hi hz0 hz1 hz2 rfl (by decide) (.slice (some ⟨g', 0, none⟩) tt.length cp') tt.length vss.flatten rfl (HT4.out.row.alloc _) ⟨w4.heap.size, 0, none⟩ 1 1 [.string y, .int .i64 (uu : Int), .slice none 0 0] rfl rfl HNW.out (by simp [Value.oneCell']) (by decide) (by unfold maxLen; omega) (by omega) (by simp; omega) _ rfl ?_))
      intro g9 cp9 w9 hown hgrow hat9 hlt9
      have hg9 : g9 = g' ∨ g9 = w4.heap.size + 1 := by
        rcases hat9 with h | h
        · simp [Value.ownBlock] at h; exact .inl h.symm
        · first | exact .inr h | (simp at h; exact .inr h)
      have hal4 : Below w4.heap.size w4 (w4.alloc (.cells #[.string y, .int .i64 (uu : Int), .slice none 0 0] 58)) := (Below.refl _ _).alloc (Nat.le_refl _) _
      have HT9 := Lib.hid ((HT4.out.later hal4).app (w' := w9) (g' := g9) (cap' := cp9) (x := y) (u := (uu : Int)) (by unfold maxLen; omega) hwu hown hgrow (by rcases hg9 with h | h; exact .inl h; exact .inr (by simp; omega)) (by simp; omega))
      have HW9 : Hid (Wrote (fun k => k = g ∨ w2.heap.size ≤ k) w2 w9) := Lib.hid ((HW4.out.trans (Wrote.of_below hal4)).trans ((Wrote.of_grown hgrow).mono (fun k _ hk => by simp only [Value.ownBlock, Option.some.injEq] at hk; subst hk; exact hgg)))
      have hgg9 : g9 = g ∨ w2.heap.size ≤ g9 := by rcases hg9 with h | h <;> rcases hgg with h' | h' <;> omega
      clear hown hgrow hat9 hlt9 hal4 HNW
      go_wp2_with fail
      go_roundw
      case rel => exact ⟨j + 1, g9, cp9, _, _, by omega, by go_num, by rw [HF1.out, HE.out]; simp, by rw [HF1.out, HE.out], hgg9, Lib.hid (by rw [HF1.out, HE.out]; exact HT9.out), HW9⟩
      case measure => (simp [intOf]; try omega)
end Go.Proofs.YteknmjebokimjaaDoor
