/- The walk of FnCompiled: whatever the arguments, the call returns true and writes nothing that was there. -/
import Derived.Test.YtlmgckijbamgpaaArgs
import Derived.Deep.RegionHeld3
import Derived.Test.YtlmgckijbamgpaaPrgE
namespace Go.Proofs.Ytlmgckijbamgpaa.fnCompiled
open Go.ChangeShapes Go.WideShapes Go.ChangeAt Go.RowKit
open Go.ChangeMaps (open_string shut_string)
set_option linter.unusedVariables false
set_option linter.unusedSimpArgs false

/-- a filter, a program lie in boxes -/
structure Sl (w : World) (p : Nat) (a : Option Addr) (c : Nat) (l : List Wn) : Prop where
  cell : w.cell? ⟨p, 0, none⟩ = some (.slice a l.length c)
  row : Rw w a (wnsV l)
theorem Sl.later {w w' : World} {p : Nat} {a : Option Addr} {c : Nat} {l : List Wn} (h : Sl w p a c l) (hb : Below w.heap.size w w') : Sl w' p a c l := ⟨below_later hb h.cell, h.row.below hb⟩
theorem Sl.box {w : World} {base : Nat} {a : Option Addr} {c : Nat} {l : List Wn} (h : w.ownsRow base 134 6 (.slice a l.length c) l.length (wnsV l)) : Sl (w.alloc (.cells #[.slice a l.length c] 61)) w.heap.size a c l :=
  ⟨box_cell (box_start w (.cells #[.slice a l.length c] 61)) 0, (own_rw h).below ((Below.refl _ _).alloc (Nat.le_refl _) _)⟩
structure Pl (w : World) (p : Nat) (a : Option Addr) (c : Nat) (l : List Ins) : Prop where
  cell : w.cell? ⟨p, 0, none⟩ = some (.slice a l.length c)
  row : Rw w a (insV l)
theorem Pl.later {w w' : World} {p : Nat} {a : Option Addr} {c : Nat} {l : List Ins} (h : Pl w p a c l) (hb : Below w.heap.size w w') : Pl w' p a c l := ⟨below_later hb h.cell, h.row.below hb⟩
theorem Pl.box {w : World} {base : Nat} {a : Option Addr} {c : Nat} {l : List Ins} (h : w.ownsRow base 125 6 (.slice a l.length c) l.length (insV l)) : Pl (w.alloc (.cells #[.slice a l.length c] 66)) w.heap.size a c l :=
  ⟨box_cell (box_start w (.cells #[.slice a l.length c] 66)) 0, (own_rw h).below ((Below.refl _ _).alloc (Nat.le_refl _) _)⟩
theorem b_same (b : Bool) : (b != b) = false := by cases b <;> rfl

set_option maxHeartbeats 4000000 in
set_option maxRecDepth 100000 in
theorem walk (w : World) (v0 : Value) (a0 : List UInt8) (w0 : IsBytes w v0 a0) (v1 : Value) (a1 : List UInt8) (w1 : IsBytes w v1 a1) :
    Calls Try.prog 6 #[v0, v1] w fun e w' => e = .returned (.bool true) ∧ Below w.heap.size w w' := by
  obtain ⟨ca, cc, rfl, hr0, hl0, hm0⟩ := w0
  obtain ⟨ma, mc, rfl, hr1, hl1, hm1⟩ := w1
  unfold maxLen at hm0 hm1
  have HR0 := Lib.hid hr0; have HR1 := Lib.hid hr1
  clear hr0 hr1
  by_cases hsum : (1048576 : Int) < wrap64 ((a0.length : Int) + (a1.length : Int))
  case pos =>
    go_enter Try.func6, Try.ntmps6
    go_wp2_with fail
    go_ret
    exact ⟨rfl, Below.refl _ _⟩
  go_enter Try.func6, Try.ntmps6
  go_wp2_with fail
  refine (draw_Matches w ca cc a0 hl0 hm0 HR0.out.rb).mono ?_
  rintro e w1 ⟨fa, fc, f, s, rfl, hf20, hs, ho, hb⟩
  have HB1 := Lib.hid hb; clear hb hsum
  have HSF := Lib.hid (Sl.box ho)
  have HB2 := Lib.hid (ralloc HB1.out (.cells #[.slice fa f.length fc] 61))
  have HIM := Lib.hid (fun wx (h : Rw wx fa (wnsV f)) => impl_Matches fa fc f s wx h (by omega) (by omega))
  have HIC := Lib.hid (fun wx (h : Rw wx fa (wnsV f)) => impl_CompileFilter fa fc f wx h (by omega))
  have HSC := Lib.hid (fun wx (h : Rw wx fa (wnsV f)) => spec_CompileFilter fa fc f wx h (by omega))
  have hpl := cmpl_len (l := f)
  have HSQ := Lib.hid (fun za zc ya yc wx (h1 : Rw wx za (insV (R_Compile f).1)) (h2 : Rw wx ya (insV (R_Compile f).1)) => same_programs za ya zc yc (R_Compile f).1 wx h1 h2 (by omega))
  have HRN := Lib.hid (fun h => cmpl_run (l := f) s h)
  unfold ProgO at HIC HSC
  generalize (R_Compile f).1 = nl at *
  generalize (R_Compile f).2 = ok at *
  generalize R_Matches f s = mf at *
  obtain ⟨m, one⟩ := mf
  clear ho hf20 hpl
  obtain ⟨pf, hpf⟩ : ∃ pf, w1.heap.size = pf := ⟨_, rfl⟩
  rw [hpf] at HSF
  obtain ⟨cf', -⟩ := HSF.out
  go_wp2_with fail
  generalize w1.alloc (.cells #[.slice fa f.length fc] 61) = w2 at *
  clear hpf cf'
  obtain ⟨cf, -⟩ := HSF.out
  go_wp2_with fail
  refine (HIC.out _ HSF.out.row).mono ?_
  rintro e w6 ⟨v, rfl, hov, hb⟩
  obtain ⟨za, zc, rfl⟩ := form_of_own hov
  replace HSF := Lib.hid (HSF.out.later hb)
  replace HB2 := Lib.hid (rstep HB2.out hb)
  have HPZ := Lib.hid (Pl.box hov)
  have hb2 := (Below.refl (w6).heap.size w6).alloc (Nat.le_refl _) (.cells #[.slice za (nl).length zc] 66)
  replace HSF := Lib.hid (HSF.out.later hb2)
  replace HB2 := Lib.hid (rstep HB2.out hb2)
  obtain ⟨pz, hpz⟩ : ∃ pz, (w6).heap.size = pz := ⟨_, rfl⟩
  rw [hpz] at HPZ
  clear hb hb2 hov HIC cf
  obtain ⟨cf, -⟩ := HSF.out
  go_wp2_with fail
  generalize (w6).alloc (.cells #[.slice za (nl).length zc] 66) = w7 at *
  clear hpz
  refine (HSC.out _ HSF.out.row).mono ?_
  rintro e w8 ⟨v, rfl, hov, hb⟩
  obtain ⟨ya, yc, rfl⟩ := form_of_own hov
  replace HSF := Lib.hid (HSF.out.later hb)
  replace HPZ := Lib.hid (HPZ.out.later hb)
  replace HB2 := Lib.hid (rstep HB2.out hb)
  have HPY := Lib.hid (Pl.box hov)
  have hb2 := (Below.refl (w8).heap.size w8).alloc (Nat.le_refl _) (.cells #[.slice ya (nl).length yc] 66)
  replace HSF := Lib.hid (HSF.out.later hb2)
  replace HPZ := Lib.hid (HPZ.out.later hb2)
  replace HB2 := Lib.hid (rstep HB2.out hb2)
  obtain ⟨py, hpy⟩ : ∃ py, (w8).heap.size = py := ⟨_, rfl⟩
  rw [hpy] at HPY
  clear hb hb2 hov HSC cf
  obtain ⟨cz, -⟩ := HPZ.out
  obtain ⟨cy, -⟩ := HPY.out
  have q1 := b_same ok
  have q1' : (ok == ok) = true := by cases ok <;> rfl
  go_wp2_with fail
  generalize (w8).alloc (.cells #[.slice ya (nl).length yc] 66) = w9 at *
  clear hpy q1 q1'
  refine (HSQ.out za zc ya yc _ HPZ.out.row HPY.out.row).mono ?_
  rintro e w10 ⟨rfl, hb⟩
  replace HSF := Lib.hid (HSF.out.later hb)
  replace HPZ := Lib.hid (HPZ.out.later hb)
  replace HB2 := Lib.hid (rstep HB2.out hb)
  clear hb HSQ HPY cz cy
  go_upto_if 53 with fail
  go_cut [4] (fun s4 wx => s4 = .bool false ∧ Hid (Below w10.heap.size w10 wx))
  case first =>
    have HBR := Lib.hid (Below.refl w10.heap.size w10)
    cases ok with
    | false =>
      go_wp2_with fail
      go_meet
      exact ⟨rfl, HBR⟩
    | true =>
      obtain ⟨hgp, hrun⟩ := HRN.out rfl
      have HGP := Lib.hid (fun wx (h : Rw wx za (insV nl)) => impl_GoodProgram za zc nl wx h hgp)
      have HST := Lib.hid (fun wx (h : Rw wx za (insV nl)) => impl_StepsOf za zc nl wx h hgp)
      have hr2 : ∃ R ok2, (m, one) = (R, ok2) ∧ ∀ wx, Rw wx za (insV nl) → Calls Try.prog 43 #[.agg #[.slice za nl.length zc], .string s] wx fun e w' => ∃ t : Nat, e = .returned (.tuple #[.bool R, .int .i64 (t : Int), .bool ok2]) ∧ t ≤ nl.length ∧ Below wx.heap.size wx w' := by
        rcases hrun with ⟨h1, h2⟩ | ⟨fs, R, h1, h2, h3⟩
        · exact ⟨false, false, h2, fun wx h => (impl_Run_no za zc nl s wx (by omega) h1).mono fun e w' ⟨he, hb⟩ => ⟨0, he, Nat.zero_le _, hb⟩⟩
        · exact ⟨R, true, h2, fun wx h => impl_Run_yes za zc nl s wx h hgp (by omega) h1 h3⟩
      obtain ⟨R, ok2, hq, hR⟩ := hr2
      simp only [Prod.mk.injEq] at hq
      obtain ⟨rfl, rfl⟩ := hq
      have HRP := Lib.hid hR
      clear hR hrun hgp HRN
      obtain ⟨cf, -⟩ := HSF.out
      go_wp2_with fail
      refine (HIM.out _ HSF.out.row).mono ?_
      rintro e w11 ⟨rfl, hb⟩
      replace HPZ := Lib.hid (HPZ.out.later hb)
      replace HBR := Lib.hid (rstep HBR.out hb)
      clear hb cf
      obtain ⟨cz, -⟩ := HPZ.out
      go_wp2_with fail
      refine (HRP.out _ HPZ.out.row).mono ?_
      rintro e w12 ⟨t, rfl, ht, hb⟩
      replace HPZ := Lib.hid (HPZ.out.later hb)
      replace HBR := Lib.hid (rstep HBR.out hb)
      clear hb cz HRP
      obtain ⟨cz, -⟩ := HPZ.out
      go_wp2_with fail
      refine (HST.out _ HPZ.out.row).mono ?_
      rintro e w13 ⟨rfl, hb⟩
      replace HPZ := Lib.hid (HPZ.out.later hb)
      replace HBR := Lib.hid (rstep HBR.out hb)
      clear hb cz HST
      obtain ⟨cz, -⟩ := HPZ.out
      have q1 := b_same one
      have q2 := b_same m
      have q3 : ¬ (t : Int) > (nl.length : Int) := by omega
      have q4 : decide (nl.length < t) = false := decide_eq_false (by omega)
      go_wp2_with fail
      refine (HGP.out _ HPZ.out.row).mono ?_
      rintro e w14 ⟨rfl, hb⟩
      replace HBR := Lib.hid (rstep HBR.out hb)
      clear hb cz
      go_wp2_with fail
      go_meet
      exact ⟨rfl, HBR⟩
  case rest =>
    obtain ⟨rfl, HBX⟩ := hcut
    obtain ⟨w12, rfl⟩ : ∃ z : World, z = wc := ⟨_, rfl⟩
    have HBF := Lib.hid (rstep HB2.out HBX.out)
    clear HBX HB2 HSF HPZ HIM HRN
    go_wp2_with fail
    refine (draw_CompileFilter w12 ma mc a1 hl1 hm1 (HR1.out.below HBF.out).rb).mono ?_
    rintro e x1 ⟨ga, gc, g, rfl, hg20, ho, hb⟩
    have HD1 := Lib.hid (rstep HBF.out hb); clear hb
    have HSG := Lib.hid (Sl.box ho)
    have HD2 := Lib.hid (ralloc HD1.out (.cells #[.slice ga g.length gc] 61))
    have HIG := Lib.hid (fun wx (h : Rw wx ga (wnsV g)) => impl_CompileFilter ga gc g wx h (by omega))
    have HSH := Lib.hid (fun wx (h : Rw wx ga (wnsV g)) => spec_CompileFilter ga gc g wx h (by omega))
    have hpl := cmpl_len (l := g)
    have HSQ2 := Lib.hid (fun za zc ya yc wx (h1 : Rw wx za (insV (R_Compile g).1)) (h2 : Rw wx ya (insV (R_Compile g).1)) => same_programs za ya zc yc (R_Compile g).1 wx h1 h2 (by omega))
    unfold ProgO at HIG HSH
    generalize (R_Compile g).1 = gl at *
    generalize (R_Compile g).2 = is at *
    clear ho hg20 hpl
    obtain ⟨pg, hpg⟩ : ∃ pg, x1.heap.size = pg := ⟨_, rfl⟩
    rw [hpg] at HSG
    obtain ⟨cf', -⟩ := HSG.out
    go_wp2_with fail
    generalize x1.alloc (.cells #[.slice ga g.length gc] 61) = x2 at *
    clear hpg cf'
    obtain ⟨cf, -⟩ := HSG.out
    go_wp2_with fail
    refine (HIG.out _ HSG.out.row).mono ?_
    rintro e x6 ⟨v, rfl, hov, hb⟩
    obtain ⟨za', zc', rfl⟩ := form_of_own hov
    replace HSG := Lib.hid (HSG.out.later hb)
    replace HD2 := Lib.hid (rstep HD2.out hb)
    have HPZ' := Lib.hid (Pl.box hov)
    have hb2 := (Below.refl (x6).heap.size x6).alloc (Nat.le_refl _) (.cells #[.slice za' (gl).length zc'] 66)
    replace HSG := Lib.hid (HSG.out.later hb2)
    replace HD2 := Lib.hid (rstep HD2.out hb2)
    obtain ⟨pz', hpz⟩ : ∃ pz, (x6).heap.size = pz := ⟨_, rfl⟩
    rw [hpz] at HPZ'
    clear hb hb2 hov HIG cf
    obtain ⟨cf, -⟩ := HSG.out
    go_wp2_with fail
    generalize (x6).alloc (.cells #[.slice za' (gl).length zc'] 66) = x7 at *
    clear hpz
    refine (HSH.out _ HSG.out.row).mono ?_
    rintro e x8 ⟨v, rfl, hov, hb⟩
    obtain ⟨ya', yc', rfl⟩ := form_of_own hov
    replace HSG := Lib.hid (HSG.out.later hb)
    replace HPZ' := Lib.hid (HPZ'.out.later hb)
    replace HD2 := Lib.hid (rstep HD2.out hb)
    have HPY' := Lib.hid (Pl.box hov)
    have hb2 := (Below.refl (x8).heap.size x8).alloc (Nat.le_refl _) (.cells #[.slice ya' (gl).length yc'] 66)
    replace HSG := Lib.hid (HSG.out.later hb2)
    replace HPZ' := Lib.hid (HPZ'.out.later hb2)
    replace HD2 := Lib.hid (rstep HD2.out hb2)
    obtain ⟨py', hpy⟩ : ∃ py, (x8).heap.size = py := ⟨_, rfl⟩
    rw [hpy] at HPY'
    clear hb hb2 hov HSH cf
    obtain ⟨cz, -⟩ := HPZ'.out
    obtain ⟨cy, -⟩ := HPY'.out
    have q1 := b_same is
    have q1' : (is == is) = true := by cases is <;> rfl
    go_wp2_with fail
    generalize (x8).alloc (.cells #[.slice ya' (gl).length yc'] 66) = x9 at *
    clear hpy q1 q1'
    refine (HSQ2.out za' zc' ya' yc' _ HPZ'.out.row HPY'.out.row).mono ?_
    rintro e x10 ⟨rfl, hb⟩
    replace HD2 := Lib.hid (rstep HD2.out hb)
    clear hb
    go_wp2_with fail
    go_ret
    exact ⟨rfl, HD2.out⟩

end Go.Proofs.Ytlmgckijbamgpaa.fnCompiled
