/- The walk of FnFilters: whatever the arguments, the call returns true and writes nothing that was there. -/
import Derived.Test.YtlmgckijbamgpaaArgs
import Derived.Deep.RegionHeld3
import Derived.Test.YtlmgckijbamgpaaDrF
import Derived.Test.YtlmgckijbamgpaaFltU
import Derived.Test.YtlmgckijbamgpaaFltY
namespace Go.Proofs.Ytlmgckijbamgpaa.fnFilters
open Go.ChangeShapes Go.WideShapes Go.ChangeAt Go.RowKit
open Go.ChangeMaps (open_string shut_string)
set_option linter.unusedVariables false
set_option linter.unusedSimpArgs false

/-- a filter lies in a box -/
structure Sl (w : World) (p : Nat) (a : Option Addr) (c : Nat) (l : List Wn) : Prop where
  cell : w.cell? ⟨p, 0, none⟩ = some (.slice a l.length c)
  row : Rw w a (wnsV l)
theorem Sl.later {w w' : World} {p : Nat} {a : Option Addr} {c : Nat} {l : List Wn} (h : Sl w p a c l) (hb : Below w.heap.size w w') : Sl w' p a c l := ⟨below_later hb h.cell, h.row.below hb⟩
theorem Sl.box {w : World} {base : Nat} {a : Option Addr} {c : Nat} {l : List Wn} (h : w.ownsRow base 134 6 (.slice a l.length c) l.length (wnsV l)) : Sl (w.alloc (.cells #[.slice a l.length c] 61)) w.heap.size a c l :=
  ⟨box_cell (box_start w (.cells #[.slice a l.length c] 61)) 0, (own_rw h).below ((Below.refl _ _).alloc (Nat.le_refl _) _)⟩
theorem not_len (l : List Wn) (h : l.length ≤ 20) : (R_Not l).1.length ≤ 21 := by unfold R_Not; split; simp; omega; simp
theorem both_len2 (f g : List Wn) (h : f.length ≤ 20) (h2 : g.length ≤ 20) : (R_Both f g).1.length ≤ 41 := by unfold R_Both; split; (rw [both_len]; omega); simp
theorem b_same (b : Bool) : (b != b) = false := by cases b <;> rfl

set_option maxHeartbeats 4000000 in
set_option maxRecDepth 100000 in
theorem walk (w : World) (v0 : Value) (a0 : List UInt8) (w0 : IsBytes w v0 a0) (v1 : Value) (a1 : List UInt8) (w1 : IsBytes w v1 a1) :
    Calls Try.prog 7 #[v0, v1] w fun e w' => e = .returned (.bool true) ∧ Below w.heap.size w w' := by
  obtain ⟨ca, cc, rfl, hr0, hl0, hm0⟩ := w0
  obtain ⟨ma, mc, rfl, hr1, hl1, hm1⟩ := w1
  unfold maxLen at hm0 hm1
  have HR0 := Lib.hid hr0; have HR1 := Lib.hid hr1
  clear hr0 hr1
  by_cases hsum : (1048576 : Int) < wrap64 ((a0.length : Int) + (a1.length : Int))
  case pos =>
    go_enter Try.func7, Try.ntmps7
    go_wp2_with fail
    go_ret
    exact ⟨rfl, Below.refl _ _⟩
  go_enter Try.func7, Try.ntmps7
  go_wp2_with fail
  refine (draw_Matches w ca cc a0 hl0 hm0 HR0.out.rb).mono ?_
  rintro e w1 ⟨fa, fc, f, s, rfl, hf20, hs, ho, hb⟩
  have HB1 := Lib.hid hb; clear hb hsum
  have HSF := Lib.hid (Sl.box ho)
  have HB2 := Lib.hid (ralloc HB1.out (.cells #[.slice fa f.length fc] 61))
  have HIM := Lib.hid (fun wx (h : Rw wx fa (wnsV f)) => impl_Matches fa fc f s wx h (by omega) (by omega))
  have HSM := Lib.hid (fun wx (h : Rw wx fa (wnsV f)) => spec_Matches fa fc f s wx h (by omega) (by omega))
  have HIG := Lib.hid (fun wx (h : Rw wx fa (wnsV f)) => impl_GoodFilter fa fc f wx h (by omega))
  have HSG := Lib.hid (fun wx (h : Rw wx fa (wnsV f)) => spec_GoodFilter fa fc f wx h (by omega))
  have HIN := Lib.hid (fun wx (h : Rw wx fa (wnsV f)) => impl_NotFilter fa fc f wx h (by omega))
  have HSN := Lib.hid (fun wx (h : Rw wx fa (wnsV f)) => spec_NotFilter fa fc f wx h (by omega))
  have hnl := not_len f hf20
  have HSQ := Lib.hid (fun za zc ya yc wx (h1 : Rw wx za (wnsV (R_Not f).1)) (h2 : Rw wx ya (wnsV (R_Not f).1)) => same_filters za ya zc yc (R_Not f).1 wx h1 h2 (by omega))
  have HIX := Lib.hid (fun za zc wx (h : Rw wx za (wnsV (R_Not f).1)) => impl_Matches za zc (R_Not f).1 s wx h (by omega) (by omega))
  have HLN := Lib.hid (fun m (h : R_Matches f s = (m, true)) h2 => not_tells h h2)
  unfold FilO at HIN HSN
  generalize (R_Not f).1 = nl at *
  generalize (R_Not f).2 = is at *
  generalize R_GoodW f = r at *
  generalize R_Matches f s = mf at *
  generalize R_Matches nl s = mn at *
  obtain ⟨m, ok⟩ := mf
  clear ho hf20 hnl
  obtain ⟨pf, hpf⟩ : ∃ pf, w1.heap.size = pf := ⟨_, rfl⟩
  rw [hpf] at HSF
  obtain ⟨cf, -⟩ := HSF.out
  go_wp2_with fail
  generalize w1.alloc (.cells #[.slice fa f.length fc] 61) = w2 at *
  clear hpf
  refine (HIM.out _ HSF.out.row).mono ?_
  rintro e w3 ⟨rfl, hb⟩
  replace HSF := Lib.hid (HSF.out.later hb)
  replace HB2 := Lib.hid (rstep HB2.out hb)
  clear hb HIM cf HB1
  obtain ⟨cf, -⟩ := HSF.out
  go_wp2_with fail
  refine (HSM.out _ HSF.out.row).mono ?_
  rintro e w4 ⟨rfl, hb⟩
  replace HSF := Lib.hid (HSF.out.later hb)
  replace HB2 := Lib.hid (rstep HB2.out hb)
  clear hb HSM cf
  have b1 := b_same ok
  have b2 := b_same m
  have b3 := b_same r
  go_upto_region 6 with fail
  go_cut [66] (fun s66 wx => s66 = .bool false ∧ Hid (Below w4.heap.size w4 wx))
  case first =>
    obtain ⟨cf, -⟩ := HSF.out
    have HCF : Hid (∀ wx, Below w4.heap.size w4 wx → wx.cell? ⟨pf, 0, none⟩ = some (.slice fa f.length fc)) := Lib.hid (fun wx hb => (HSF.out.later hb).cell)
    have HBX := Lib.hid (below_drew (Below.refl w4.heap.size w4))
    refine wp_region_G [12] (fun w' => w'.cell? ⟨pf, 0, none⟩ = some (.slice fa f.length fc)) (by kernel_rfl) ?_ (fun hHeld => ?_)
    · exact cf
    refine wpG_pure (i := 0) (oi := { dst := some 52, op := Go.Op.move (Go.Operand.tmp 8), type := 4, pos := "laws.go:597", after := #[], guard := none }) (v := ?vg1) rfl (by kernel_rfl) (fun _ _ _ h => h) (Or.inr hHeld) (Or.inl ⟨by rfl, ?yg1⟩) ?_
    case yg1 => (intro wS _; go_simp <;> with_reducible rfl)
    try simp only [Act.put, List.setIfInBounds_toArray, List.set_cons_zero, List.set_cons_succ]
    refine wpG_pure (i := 1) (oi := { dst := some 53, op := Go.Op.move (Go.Operand.tmp 10), type := 4, pos := "laws.go:597", after := #[], guard := none }) (v := ?vg2) rfl (by kernel_rfl) (fun _ _ _ h => h) (Or.inr hHeld) (Or.inl ⟨by rfl, ?yg2⟩) ?_
    case yg2 => (intro wS _; go_simp <;> with_reducible rfl)
    try simp only [Act.put, List.setIfInBounds_toArray, List.set_cons_zero, List.set_cons_succ]
    refine wpG_pure (i := 2) (oi := { dst := some 54, op := Go.Op.binOp Go.BinOp.neq 4 (Go.Operand.tmp 52) (Go.Operand.tmp 53) 4, type := 4, pos := "laws.go:597", after := #[{ on := 0, ground := Go.Ground.data }, { on := 1, ground := Go.Ground.data }], guard := none }) (v := ?vg3) rfl (by kernel_rfl) (fun _ _ _ h => h) (Or.inr hHeld) (Or.inl ⟨by rfl, ?yg3⟩) ?_
    case yg3 => (intro wS _; go_simp <;> with_reducible rfl)
    try simp only [Act.put, List.setIfInBounds_toArray, List.set_cons_zero, List.set_cons_succ]
    refine wpG_pure (i := 3) (oi := { dst := some 55, op := Go.Op.move (Go.Operand.tmp 54), type := 4, pos := "laws.go:597", after := #[{ on := 2, ground := Go.Ground.data }], guard := none }) (v := ?vg4) rfl (by kernel_rfl) (fun _ _ _ h => h) (Or.inr hHeld) (Or.inl ⟨by rfl, ?yg4⟩) ?_
    case yg4 => (intro wS _; go_simp <;> with_reducible rfl)
    try simp only [Act.put, List.setIfInBounds_toArray, List.set_cons_zero, List.set_cons_succ]
    refine wpG_pure (i := 4) (oi := { dst := some 56, op := Go.Op.move (Go.Operand.tmp 7), type := 4, pos := "laws.go:597", after := #[{ on := 3, ground := Go.Ground.guard }], guard := some (3, false) }) (v := ?vg5) rfl (by kernel_rfl) (fun _ _ _ h => h) (Or.inr hHeld) (Or.inl ⟨by rfl, ?yg5⟩) ?_
    case yg5 => (intro wS _; go_simp <;> with_reducible rfl)
    try simp only [Act.put, List.setIfInBounds_toArray, List.set_cons_zero, List.set_cons_succ]
    refine wpG_pure (i := 5) (oi := { dst := some 57, op := Go.Op.move (Go.Operand.tmp 9), type := 4, pos := "laws.go:597", after := #[{ on := 3, ground := Go.Ground.guard }], guard := some (3, false) }) (v := ?vg6) rfl (by kernel_rfl) (fun _ _ _ h => h) (Or.inr hHeld) (Or.inl ⟨by rfl, ?yg6⟩) ?_
    case yg6 => (intro wS _; go_simp <;> with_reducible rfl)
    try simp only [Act.put, List.setIfInBounds_toArray, List.set_cons_zero, List.set_cons_succ]
    refine wpG_pure (i := 6) (oi := { dst := some 58, op := Go.Op.binOp Go.BinOp.neq 4 (Go.Operand.tmp 56) (Go.Operand.tmp 57) 4, type := 4, pos := "laws.go:597", after := #[{ on := 4, ground := Go.Ground.data }, { on := 5, ground := Go.Ground.data }, { on := 3, ground := Go.Ground.guard }], guard := some (3, false) }) (v := ?vg7) rfl (by kernel_rfl) (fun _ _ _ h => h) (Or.inr hHeld) (Or.inl ⟨by rfl, ?yg7⟩) ?_
    case yg7 => (intro wS _; go_simp <;> with_reducible rfl)
    try simp only [Act.put, List.setIfInBounds_toArray, List.set_cons_zero, List.set_cons_succ]
    refine wpG_pure (i := 7) (oi := { dst := some 59, op := Go.Op.pick (Go.Operand.tmp 55) (Go.Operand.const (Go.Value.bool true)) (Go.Operand.tmp 58), type := 4, pos := "laws.go:597", after := #[{ on := 3, ground := Go.Ground.data }, { on := 6, ground := Go.Ground.data }], guard := none }) (v := ?vg8) rfl (by kernel_rfl) (fun _ _ _ h => h) (Or.inr hHeld) (Or.inl ⟨by rfl, ?yg8⟩) ?_
    case yg8 => (intro wS _; go_simp <;> with_reducible rfl)
    try simp only [Act.put, List.setIfInBounds_toArray, List.set_cons_zero, List.set_cons_succ]
    refine wpG_pure (i := 8) (oi := { dst := some 60, op := Go.Op.move (Go.Operand.tmp 59), type := 4, pos := "laws.go:597", after := #[{ on := 7, ground := Go.Ground.data }, { on := 3, ground := Go.Ground.chain }], guard := none }) (v := ?vg9) rfl (by kernel_rfl) (fun _ _ _ h => h) (Or.inr hHeld) (Or.inl ⟨by rfl, ?yg9⟩) ?_
    case yg9 => (intro wS _; go_simp <;> with_reducible rfl)
    try simp only [Act.put, List.setIfInBounds_toArray, List.set_cons_zero, List.set_cons_succ]
    refine wpG_load (i := 9) (oi := { dst := some 61, op := Go.Op.load 61 (Go.Operand.tmp 5), type := 61, pos := "laws.go:597", after := #[{ on := 8, ground := Go.Ground.guard }], guard := some (8, false) }) (v := ?vg10) [[12, 10, 9]] rfl (by kernel_rfl) (fun _ _ _ h => h) hHeld (Or.inl ⟨by rfl, ?yg10⟩) ?_
    case yg10 => (intro wS hSw; (try dsimp only at hSw); go_simp <;> with_reducible rfl)
    try simp only [Act.put, List.setIfInBounds_toArray, List.set_cons_zero, List.set_cons_succ]
    refine wpG_load (i := 11) (oi := { dst := some 63, op := Go.Op.load 61 (Go.Operand.tmp 5), type := 61, pos := "laws.go:597", after := #[{ on := 8, ground := Go.Ground.guard }], guard := some (8, false) }) (v := ?vg11) [[12, 11]] rfl (by kernel_rfl) (fun _ _ _ h => h) hHeld (Or.inl ⟨by rfl, ?yg11⟩) ?_
    case yg11 => (intro wS hSw; (try dsimp only at hSw); go_simp <;> with_reducible rfl)
    try simp only [Act.put, List.setIfInBounds_toArray, List.set_cons_zero, List.set_cons_succ]
    refine wpG_one (i := 10) (o := { dst := some 62, op := Go.Op.call { callee := Go.Callee.value (Go.Operand.func 48), args := #[Go.Operand.tmp 61], argTypes := #[61] }, type := 4, pos := "laws.go:597", after := #[{ on := 9, ground := Go.Ground.data }, { on := 8, ground := Go.Ground.chain }, { on := 8, ground := Go.Ground.guard }], guard := some (8, false) }) rfl (by kernel_rfl) (fun K hK => ?_)
    go_simp
    refine (HIG.out _ (HSF.out.row.below HBX.out)).mono ?_
    rintro e wa ⟨rfl, hb⟩
    replace HBX := Lib.hid (rstep HBX.out hb); clear hb
    refine hK.out _ _ (Or.inr ?khHeld12) (fun hHeld12S => ?_)
    case khHeld12 => exact HCF.out _ HBX.out
    have hHeld12 := hHeld12S.held (by kernel_rfl)
    clear hK K
    try simp only [Act.put, List.setIfInBounds_toArray, List.set_cons_zero, List.set_cons_succ]
    refine wpG_one (i := 12) (o := { dst := some 64, op := Go.Op.call { callee := Go.Callee.value (Go.Operand.func 49), args := #[Go.Operand.tmp 63], argTypes := #[61] }, type := 4, pos := "laws.go:597", after := #[{ on := 11, ground := Go.Ground.data }, { on := 10, ground := Go.Ground.chain }, { on := 8, ground := Go.Ground.guard }], guard := some (8, false) }) rfl (by kernel_rfl) (fun K hK => ?_)
    go_simp
    refine (HSG.out _ (HSF.out.row.below HBX.out)).mono ?_
    rintro e wb ⟨rfl, hb⟩
    replace HBX := Lib.hid (rstep HBX.out hb); clear hb
    refine hK.out _ _ (Or.inl (by kernel_rfl)) (fun _ => ?_)
    clear hK K
    try simp only [Act.put, List.setIfInBounds_toArray, List.set_cons_zero, List.set_cons_succ]
    refine wpG_pure (i := 13) (oi := { dst := some 65, op := Go.Op.binOp Go.BinOp.neq 4 (Go.Operand.tmp 62) (Go.Operand.tmp 64) 4, type := 4, pos := "laws.go:597", after := #[{ on := 10, ground := Go.Ground.data }, { on := 12, ground := Go.Ground.data }, { on := 8, ground := Go.Ground.guard }], guard := some (8, false) }) (v := ?vg14) rfl (by kernel_rfl) (fun _ _ _ h => h) (Or.inl (by kernel_rfl)) (Or.inl ⟨by rfl, ?yg14⟩) ?_
    case yg14 => (intro wS _; go_simp <;> with_reducible rfl)
    try simp only [Act.put, List.setIfInBounds_toArray, List.set_cons_zero, List.set_cons_succ]
    refine wpG_pure (i := 14) (oi := { dst := some 66, op := Go.Op.pick (Go.Operand.tmp 60) (Go.Operand.const (Go.Value.bool true)) (Go.Operand.tmp 65), type := 4, pos := "laws.go:597", after := #[{ on := 8, ground := Go.Ground.data }, { on := 13, ground := Go.Ground.data }], guard := none }) (v := ?vg15) rfl (by kernel_rfl) (fun _ _ _ h => h) (Or.inl (by kernel_rfl)) (Or.inl ⟨by rfl, ?yg15⟩) ?_
    case yg15 => (intro wS _; go_simp <;> with_reducible rfl)
    try simp only [Act.put, List.setIfInBounds_toArray, List.set_cons_zero, List.set_cons_succ]
    refine wpG_done (by kernel_rfl) ?_
    go_wp2_with fail
    go_meet
    exact ⟨rfl, HBX⟩
  case rest =>
    obtain ⟨rfl, HBX⟩ := hcut
    obtain ⟨w5, rfl⟩ : ∃ z : World, z = wc := ⟨_, rfl⟩
    replace HSF := Lib.hid (HSF.out.later HBX.out)
    replace HB2 := Lib.hid (rstep HB2.out HBX.out)
    clear HBX HIG HSG b1 b2 b3
    obtain ⟨cf, -⟩ := HSF.out
    go_wp2_with fail
    refine (HIN.out _ HSF.out.row).mono ?_
    rintro e w6 ⟨v, rfl, hov, hb⟩
    obtain ⟨za, zc, rfl⟩ := form_of_own hov
    replace HSF := Lib.hid (HSF.out.later hb)
    replace HB2 := Lib.hid (rstep HB2.out hb)
    have HSZ := Lib.hid (Sl.box hov)
    have hb2 := (Below.refl w6.heap.size w6).alloc (Nat.le_refl _) (.cells #[.slice za nl.length zc] 61)
    replace HSF := Lib.hid (HSF.out.later hb2)
    replace HB2 := Lib.hid (rstep HB2.out hb2)
    obtain ⟨pz, hpz⟩ : ∃ pz, w6.heap.size = pz := ⟨_, rfl⟩
    rw [hpz] at HSZ
    clear hb hb2 hov HIN cf
    obtain ⟨cf, -⟩ := HSF.out
    go_wp2_with fail
    generalize w6.alloc (.cells #[.slice za nl.length zc] 61) = w7 at *
    clear hpz
    refine (HSN.out _ HSF.out.row).mono ?_
    rintro e w8 ⟨v, rfl, hov, hb⟩
    obtain ⟨ya, yc, rfl⟩ := form_of_own hov
    replace HSZ := Lib.hid (HSZ.out.later hb)
    replace HB2 := Lib.hid (rstep HB2.out hb)
    have HSY := Lib.hid (Sl.box hov)
    have hb2 := (Below.refl w8.heap.size w8).alloc (Nat.le_refl _) (.cells #[.slice ya nl.length yc] 61)
    replace HSZ := Lib.hid (HSZ.out.later hb2)
    replace HB2 := Lib.hid (rstep HB2.out hb2)
    obtain ⟨py, hpy⟩ : ∃ py, w8.heap.size = py := ⟨_, rfl⟩
    rw [hpy] at HSY
    clear hb hb2 hov HSN cf HSF
    obtain ⟨cz, -⟩ := HSZ.out
    obtain ⟨cy, -⟩ := HSY.out
    have q1 := b_same is
    go_wp2_with fail
    generalize w8.alloc (.cells #[.slice ya nl.length yc] 61) = w9 at *
    clear hpy q1
    refine (HSQ.out za zc ya yc _ HSZ.out.row HSY.out.row).mono ?_
    rintro e w10 ⟨rfl, hb⟩
    replace HSZ := Lib.hid (HSZ.out.later hb)
    replace HB2 := Lib.hid (rstep HB2.out hb)
    clear hb HSQ HSY cz cy
    go_upto_region 12 with fail
    go_cut [89] (fun s89 wx => ∃ b : Bool, s89 = .bool b ∧ Hid (b = (ok && is)) ∧ Hid (w10 = wx))
    case first =>
      cases ok <;> cases is <;> (go_wp2_with fail; go_meet; exact ⟨_, rfl, Lib.hid rfl, Lib.hid rfl⟩)
    case rest =>
    obtain ⟨b89, rfl, HB89, HWE⟩ := hcut
    obtain rfl := HWE.out
    clear HWE
    go_upto_if 89 with fail
    go_cut [4] (fun s4 wx => s4 = .bool false ∧ Hid (Below w10.heap.size w10 wx))
    case first =>
      have HBR := Lib.hid (Below.refl w10.heap.size w10)
      cases ok with
      | false =>
        obtain rfl : b89 = false := HB89.out
        go_wp2_with fail
        go_meet
        exact ⟨rfl, HBR⟩
      | true =>
        cases is with
        | false =>
          obtain rfl : b89 = false := HB89.out
          go_wp2_with fail
          go_meet
          exact ⟨rfl, HBR⟩
        | true =>
          obtain rfl : b89 = true := HB89.out
          have hm := HLN.out m rfl rfl
          subst hm
          obtain ⟨cz, -⟩ := HSZ.out
          have q2 : ((!m) == m) = false := by cases m <;> rfl
          go_wp2_with fail
          refine (HIX.out za zc _ HSZ.out.row).mono ?_
          rintro e w11 ⟨rfl, hb⟩
          have HBQ := Lib.hid hb
          clear hb cz
          cases m with
          | false =>
            go_wp2_with fail
            go_meet
            exact ⟨rfl, HBQ⟩
          | true =>
            go_wp2_with fail
            go_meet
            exact ⟨rfl, HBQ⟩
    case rest =>
      obtain ⟨rfl, HBX⟩ := hcut
      obtain ⟨w12, rfl⟩ : ∃ z : World, z = wc := ⟨_, rfl⟩
      have HBF := Lib.hid (rstep HB2.out HBX.out)
      clear HBX HB2 HSZ HIX HLN
      go_wp2_with fail
      refine (draw_BothFilters w12 ma mc a1 hl1 hm1 (HR1.out.below HBF.out).rb).mono ?_
      rintro e x1 ⟨ga, gc, g, ha, hc, h, rfl, ⟨hg20, hh20⟩, hog, hoh, hb⟩
      have HD1 := Lib.hid (rstep HBF.out hb); clear hb
      have HSG0 := Lib.hid (Sl.box hog)
      have HSH0 := Lib.hid (Sl.box (own_later hoh ((Below.refl x1.heap.size x1).alloc (Nat.le_refl _) (.cells #[.slice ga g.length gc] 61))))
      rw [World.size_alloc] at HSH0
      have HSG := Lib.hid (HSG0.out.later ((Below.refl _ _).alloc (Nat.le_refl _) (.cells #[.slice ha h.length hc] 61)))
      have HD2 := Lib.hid ((HD1.out.alloc HD1.out.size (.cells #[.slice ga g.length gc] 61)).alloc (by have := HD1.out.size; simp; omega) (.cells #[.slice ha h.length hc] 61))
      have HIG := Lib.hid (fun wx (h : Rw wx ga (wnsV g)) => impl_Matches ga gc g s wx h (by omega) (by omega))
      have HIH := Lib.hid (fun wx (hh : Rw wx ha (wnsV h)) => impl_Matches ha hc h s wx hh (by omega) (by omega))
      have HIB := Lib.hid (fun wx (h1 : Rw wx ga (wnsV g)) (h2 : Rw wx ha (wnsV h)) => impl_BothFilters ga gc g ha hc h wx h1 h2 (by omega) (by omega))
      have HSB := Lib.hid (fun wx (h1 : Rw wx ga (wnsV g)) (h2 : Rw wx ha (wnsV h)) => spec_BothFilters ga gc g ha hc h wx h1 h2 (by omega) (by omega))
      have hbl := both_len2 g h hg20 hh20
      have HIZ := Lib.hid (fun za zc wx (hz : Rw wx za (wnsV (R_Both g h).1)) => impl_Matches za zc (R_Both g h).1 s wx hz (by omega) (by omega))
      have HSZ := Lib.hid (fun za zc ya yc wx (h1 : Rw wx za (wnsV (R_Both g h).1)) (h2 : Rw wx ya (wnsV (R_Both g h).1)) => same_filters za ya zc yc (R_Both g h).1 wx h1 h2 (by omega))
      have HLB := Lib.hid (fun hq => both_tells (f := g) (g := h) s hq)
      unfold FilO at HIB HSB
      generalize (R_Both g h).1 = bl at *
      generalize (R_Both g h).2 = one at *
      generalize R_Matches g s = mg at *
      generalize R_Matches h s = mh at *
      generalize R_Matches bl s = mb at *
      obtain ⟨mg1, mg2⟩ := mg
      obtain ⟨mh1, mh2⟩ := mh
      obtain ⟨mb1, mb2⟩ := mb
      have HXH := Lib.hid HSH0.out
      clear HSG0 HSH0 HD1 hog hoh hg20 hh20 hbl
      obtain ⟨pg, hpg⟩ : ∃ pg, x1.heap.size = pg := ⟨_, rfl⟩
      rw [hpg] at HSG HXH
      obtain ⟨cg, -⟩ := HSG.out
      obtain ⟨ch, -⟩ := HXH.out
      go_wp2_with fail
      generalize (x1.alloc (.cells #[.slice ga g.length gc] 61)).alloc (.cells #[.slice ha h.length hc] 61) = x2 at *
      clear hpg
      refine (HIB.out _ HSG.out.row HXH.out.row).mono ?_
      rintro e x3 ⟨v, rfl, hov, hb⟩
      obtain ⟨za, zc, rfl⟩ := form_of_own hov
      replace HSG := Lib.hid (HSG.out.later hb)
      replace HXH := Lib.hid (HXH.out.later hb)
      replace HD2 := Lib.hid (rstep HD2.out hb)
      have HSZ0 := Lib.hid (Sl.box hov)
      have hb2 := (Below.refl x3.heap.size x3).alloc (Nat.le_refl _) (.cells #[.slice za bl.length zc] 61)
      replace HSG := Lib.hid (HSG.out.later hb2)
      replace HXH := Lib.hid (HXH.out.later hb2)
      replace HD2 := Lib.hid (rstep HD2.out hb2)
      obtain ⟨pz, hpz⟩ : ∃ pz, x3.heap.size = pz := ⟨_, rfl⟩
      rw [hpz] at HSZ0
      clear hb hb2 hov HIB cg ch
      obtain ⟨cg, -⟩ := HSG.out
      obtain ⟨ch, -⟩ := HXH.out
      go_wp2_with fail
      generalize x3.alloc (.cells #[.slice za bl.length zc] 61) = x4 at *
      clear hpz
      refine (HSB.out _ HSG.out.row HXH.out.row).mono ?_
      rintro e x5 ⟨v, rfl, hov, hb⟩
      obtain ⟨ya, yc, rfl⟩ := form_of_own hov
      replace HSG := Lib.hid (HSG.out.later hb)
      replace HXH := Lib.hid (HXH.out.later hb)
      replace HSZ0 := Lib.hid (HSZ0.out.later hb)
      replace HD2 := Lib.hid (rstep HD2.out hb)
      have HSY0 := Lib.hid (Sl.box hov)
      have hb2 := (Below.refl x5.heap.size x5).alloc (Nat.le_refl _) (.cells #[.slice ya bl.length yc] 61)
      replace HSG := Lib.hid (HSG.out.later hb2)
      replace HXH := Lib.hid (HXH.out.later hb2)
      replace HSZ0 := Lib.hid (HSZ0.out.later hb2)
      replace HD2 := Lib.hid (rstep HD2.out hb2)
      obtain ⟨py, hpy⟩ : ∃ py, x5.heap.size = py := ⟨_, rfl⟩
      rw [hpy] at HSY0
      clear hb hb2 hov HSB cg ch
      obtain ⟨cz, -⟩ := HSZ0.out
      obtain ⟨cy, -⟩ := HSY0.out
      have q1 := b_same one
      go_wp2_with fail
      generalize x5.alloc (.cells #[.slice ya bl.length yc] 61) = x6 at *
      clear hpy q1
      refine (HSZ.out za zc ya yc _ HSZ0.out.row HSY0.out.row).mono ?_
      rintro e x7 ⟨rfl, hb⟩
      replace HSG := Lib.hid (HSG.out.later hb)
      replace HXH := Lib.hid (HXH.out.later hb)
      replace HSZ0 := Lib.hid (HSZ0.out.later hb)
      replace HD2 := Lib.hid (rstep HD2.out hb)
      clear hb HSZ HSY0 cz cy
      cases one with
      | false =>
        go_wp2_with fail
        go_ret
        exact ⟨rfl, HD2.out⟩
      | true =>
        obtain ⟨hl1', hl2', hl3'⟩ := HLB.out rfl
        try simp only at hl1' hl2' hl3'
        have HL3 := Lib.hid hl3'
        subst hl1'
        subst hl2'
        clear hl3' HLB
        obtain ⟨cg, -⟩ := HSG.out
        go_wp2_with fail
        refine (HIG.out _ HSG.out.row).mono ?_
        rintro e x8 ⟨rfl, hb⟩
        replace HXH := Lib.hid (HXH.out.later hb)
        replace HSZ0 := Lib.hid (HSZ0.out.later hb)
        replace HD2 := Lib.hid (rstep HD2.out hb)
        clear hb HIG HSG cg
        obtain ⟨ch, -⟩ := HXH.out
        go_wp2_with fail
        refine (HIH.out _ HXH.out.row).mono ?_
        rintro e x9 ⟨rfl, hb⟩
        replace HSZ0 := Lib.hid (HSZ0.out.later hb)
        replace HD2 := Lib.hid (rstep HD2.out hb)
        clear hb HIH HXH ch
        obtain ⟨cz, -⟩ := HSZ0.out
        go_wp2_with fail
        refine (HIZ.out za zc _ HSZ0.out.row).mono ?_
        rintro e x10 ⟨rfl, hb⟩
        replace HD2 := Lib.hid (rstep HD2.out hb)
        clear hb HIZ HSZ0 cz
        cases mb2 with
        | false =>
          go_wp2_with fail
          go_ret
          exact ⟨rfl, HD2.out⟩
        | true =>
          have hq := HL3.out rfl
          subst hq
          cases mg1 <;> cases mh1 <;> (go_wp2_with fail; go_ret; exact ⟨rfl, HD2.out⟩)

end Go.Proofs.Ytlmgckijbamgpaa.fnFilters
