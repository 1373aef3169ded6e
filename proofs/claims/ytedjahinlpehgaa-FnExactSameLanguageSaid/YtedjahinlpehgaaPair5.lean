/- The program's SameLanguage, and the two contracts in the law's own words. -/
import Derived.Test.YtedjahinlpehgaaPair4
namespace Go.Proofs.Ytedjahinlpehgaa
set_option linter.unusedVariables false
open Go.ChangeShapes Go.WideShapes Go.ChangeAt Go.RowKit
set_option maxRecDepth 100000

/-- what holds while no difference is found -/
def SLI (w : World) (pf ps : Nat) (va vb : Value) (wx : World) : Prop :=
  Below w.heap.size w wx ∧ wx.cell? ⟨w.heap.size, 1, none⟩ = some va ∧ wx.cell? ⟨w.heap.size + 1, 1, none⟩ = some vb ∧ wx.cell? ⟨pf, 0, none⟩ = some (.string { data := #[] }) ∧ wx.cell? ⟨ps, 0, none⟩ = some (.bool true) ∧ wx.frozen? ⟨pf, 0, none⟩ = false ∧ wx.frozen? ⟨ps, 0, none⟩ = false
def SLJ (w : World) (pf ps : Nat) (p : Pr) (wx : World) : Prop :=
  Below w.heap.size w wx ∧ wx.cell? ⟨pf, 0, none⟩ = some (.string p.2.2) ∧ wx.cell? ⟨ps, 0, none⟩ = some (.bool false)
theorem SLI.later {w w1 w2 : World} {pf ps n : Nat} {va vb : Value} (h : SLI w pf ps va vb w1) (hb : Below n w1 w2) (h1 : w.heap.size + 1 < n) (h2 : pf < n) (h3 : ps < n) : SLI w pf ps va vb w2 :=
  ⟨h.1.trans (hb.mono (by omega)), below_cellk hb h.2.1 (by omega), below_cellk hb h.2.2.1 h1, below_cellk hb h.2.2.2.1 h2, below_cellk hb h.2.2.2.2.1 h3,
   (Below.frozen hb (p := ⟨pf, 0, none⟩) (by show pf < n; omega)).trans h.2.2.2.2.2.1, (Below.frozen hb (p := ⟨ps, 0, none⟩) (by show ps < n; omega)).trans h.2.2.2.2.2.2⟩
theorem SLJ.later {w w1 w2 : World} {pf ps n : Nat} {p : Pr} (h : SLJ w pf ps p w1) (hb : Below n w1 w2) (h1 : w.heap.size + 1 < n) (h2 : pf < n) (h3 : ps < n) : SLJ w pf ps p w2 :=
  ⟨h.1.trans (hb.mono (by omega)), below_cellk hb h.2.1 h2, below_cellk hb h.2.2 h3⟩
set_option maxHeartbeats 4000000 in
theorem impl_same1 (w w1 : World) (pf ps bA fA bB fB na nb ca cb : Nat) (x y : Int) (s : ByteArray) (u v : Bool) (hI : SLI w pf ps (.slice (some ⟨bA, fA, none⟩) na ca) (.slice (some ⟨bB, fB, none⟩) nb cb) w1) (hpf : w.heap.size + 1 < pf) (hps : pf < ps)
    (k2 : w1.cell? ⟨bA, fA + x.toNat, none⟩ = some (.bool u)) (k4 : w1.cell? ⟨bB, fB + y.toNat, none⟩ = some (.bool v)) (r1 : 0 ≤ x) (r2 : x < (na : Int)) (r3 : 0 ≤ y) (r4 : y < (nb : Int)) :
    Calls Try.prog 57 #[.agg #[.int .i64 x, .int .i64 y], .string s, .pointer (some ⟨w.heap.size, 0, none⟩), .pointer (some ⟨w.heap.size + 1, 0, none⟩), .pointer (some ⟨pf, 0, none⟩), .pointer (some ⟨ps, 0, none⟩)] w1 fun e w' =>
      e = .returned (.bool (!(u != v))) ∧ Wrote (fun k => k = pf ∨ k = ps) w1 w' ∧ ((u != v) = false → SLI w pf ps (.slice (some ⟨bA, fA, none⟩) na ca) (.slice (some ⟨bB, fB, none⟩) nb cb) w') ∧ ((u != v) = true → SLJ w pf ps (x, y, s) w') := by
  have HI := Lib.hid hI
  obtain ⟨hb0, k1, k3, c0, c1, z0, z1⟩ := hI
  have hl1 := World.block_lt_of_cell? _ _ c1
  simp only at hl1
  have hal : Below w1.heap.size w1 (w1.alloc (.cells #[.int .i64 x, .int .i64 y] 71)) := (Below.refl _ _).alloc (Nat.le_refl _) _
  have k1' := below_later hal k1; have k2' := below_later hal k2; have k3' := below_later hal k3; have k4' := below_later hal k4; have c0' := below_later hal c0; have c1' := below_later hal c1
  have z0' := (Below.frozen hal (p := ⟨pf, 0, none⟩) (by show pf < _; omega)).trans z0
  have z1' := (Below.frozen hal (p := ⟨ps, 0, none⟩) (by show ps < _; omega)).trans z1
  have hne : ¬ pf = ps := by omega
  have hne2 : ¬ ps = pf := by omega
  have HB := Lib.hid hal; have HB0 := Lib.hid hb0
  clear hal hb0
  cases u <;> cases v
  case false.false | true.true =>
    clear k1 k2 k3 k4 c0 c1 z0 z1
    go_enter Try.func57, Try.ntmps57
    go_wp2_with fail
    go_quiet (fail)
    go_wp2_with fail
    go_ret
    exact ⟨rfl, Wrote.of_below (rdrew HB.out _), fun _ => HI.out.later (rdrew HB.out _) (by omega) (by omega) hl1, fun h => absurd h (by decide)⟩
  all_goals
    clear k1 k2 k3 k4 c0 c1 z0 z1
    go_enter Try.func57, Try.ntmps57
    go_wp2_with fail
    go_quiet (fail)
    go_wp2_with fail
    go_ret
    have hw : ∀ nq, Wrote (fun k => k = pf ∨ k = ps) w1 ((((w1.alloc (.cells #[.int .i64 x, .int .i64 y] 71)).drewN nq).setCell ⟨pf, 0, none⟩ (.string s)).setCell ⟨ps, 0, none⟩ (.bool false)) :=
      fun nq => ((((Wrote.of_below HB.out).drewN nq).setCell (p := ⟨pf, 0, none⟩) (.inl rfl) _).setCell (p := ⟨ps, 0, none⟩) (.inr rfl) _)
    refine ⟨rfl, hw _, fun h => absurd h (by decide), fun _ => ⟨HB0.out.trans ((hw _).below HB0.out.size (fun k hk => by omega)), ?_, ?_⟩⟩
    · exact (World.cell?_setCell_other _ _ _ _ (by simp only [ne_eq, Addr.mk.injEq, not_and]; omega)).trans (World.cell?_setCell_same _ _ _ c0')
    · exact World.cell?_setCell_same _ _ _ ((World.cell?_setCell_other _ _ _ _ (by simp only [ne_eq, Addr.mk.injEq, not_and]; omega)).trans c1')
set_option maxHeartbeats 4000000 in
theorem impl_same2 (w : World) (cs0 cs1 : List Value) (A B : Mach) (h0 : kMachine.rd w.heap.size w cs0 A) (h1 : kMachine.rd w.heap.size w cs1 B) (ht : kMachine.wt A + kMachine.wt B ≤ 1048576) :
    Calls Try.prog 25 #[.agg cs0.toArray, .agg cs1.toArray] w (SameOf (R_SameLanguage A B) w) := by
  obtain ⟨ea, eac, eb, ebc, rfl, hn, he⟩ := Machine_rd h0
  obtain ⟨ec, ecc, ed, edc, rfl, hn', he'⟩ := Machine_rd h1
  have HG1 := Lib.hid (fun wx (hb : Below w.heap.size w wx) => impl_GoodMachine wx _ A (kMachine_ok.later h0 hb) (by omega))
  have HG2 := Lib.hid (fun wx (hb : Below w.heap.size w wx) => impl_GoodMachine wx _ B (kMachine_ok.later h1 hb) (by omega))
  have hl1 := (sl_len hn).2; have hl2 := (sl_len he).2; have hl3 := (sl_len hn').2; have hl4 := (sl_len he').2
  have HN := Lib.hid hn; have HE := Lib.hid he; have HN' := Lib.hid hn'; have HE' := Lib.hid he'
  have HB0 := Lib.hid (box2_start w (.cells #[.slice ea A.1.length eac, .slice eb A.2.length ebc] 28) (.cells #[.slice ec B.1.length ecc, .slice ed B.2.length edc] 28))
  clear h0 h1 hn he hn' he' ht
  unfold SameOf
  cases g1 : R_GoodMachine A with
  | false =>
    rw [SL_no (fun h => by rw [g1] at h; cases h.1)]
    rw [g1] at HG1
    clear g1
    go_enter Try.func25, Try.ntmps25
    go_wp2_with fail
    refine (HG1.out _ (box2_below HB0.out)).mono ?_
    rintro e w1 ⟨rfl, hb⟩
    have HB1 := Lib.hid (box2_step HB0.out hb); clear hb
    go_wp2_with fail
    go_ret3
    exact ⟨rfl, box2_below HB1.out⟩
  | true =>
    cases g2 : R_GoodMachine B with
    | false =>
      rw [SL_no (fun h => by rw [g2] at h; cases h.2)]
      rw [g1] at HG1; rw [g2] at HG2
      clear g1 g2
      go_enter Try.func25, Try.ntmps25
      go_wp2_with fail
      refine (HG1.out _ (box2_below HB0.out)).mono ?_
      rintro e w1 ⟨rfl, hb⟩
      have HB1 := Lib.hid (box2_step HB0.out hb); clear hb
      have b0 := box2_b HB1.out 0; have b1 := box2_b HB1.out 1
      go_wp2_with fail
      refine (HG2.out _ (box2_below HB1.out)).mono ?_
      rintro e w2 ⟨rfl, hb⟩
      have HB2 := Lib.hid (box2_step HB1.out hb); clear hb
      go_wp2_with fail
      go_ret3
      exact ⟨rfl, box2_below HB2.out⟩
    | true =>
      have HMA := Lib.hid (good_of g1); have HMB := Lib.hid (good_of g2)
      have HDI := Lib.hid (fun i p hp hd hb => SL_diff (A := A) (B := B) ⟨g1, g2⟩ (i := i) (p := p) hp hd hb)
      have HSA := Lib.hid (fun hb => SL_same (A := A) (B := B) ⟨g1, g2⟩ hb)
      have HCA := Lib.hid (MC.of HN.out HE.out HMA.out); have HCB := Lib.hid (MC.of HN'.out HE'.out HMB.out)
      obtain ⟨bA, fA, hea, hbA, hrA⟩ := HCA.out.ends
      obtain ⟨bB, fB, heb, hbB, hrB⟩ := HCB.out.ends
      have HRA := Lib.hid hrA; have HRB := Lib.hid hrB
      subst hea heb
      rw [g1] at HG1; rw [g2] at HG2
      have HEA : Hid (A.2.length = A.1.length) := Lib.hid HMA.out.ends
      have HEB : Hid (B.2.length = B.1.length) := Lib.hid HMB.out.ends
      clear g1 g2 hrA hrB
      generalize R_SameLanguage A B = R at *
      go_enter Try.func25, Try.ntmps25
      go_wp2_with fail
      refine (HG1.out _ (box2_below HB0.out)).mono ?_
      rintro e w1 ⟨rfl, hb⟩
      have HB1 := Lib.hid (box2_step HB0.out hb); clear hb
      have b0 := box2_b HB1.out 0; have b1 := box2_b HB1.out 1
      go_wp2_with fail
      refine (HG2.out _ (box2_below HB1.out)).mono ?_
      rintro e w2 ⟨rfl, hb⟩
      have HB2 := Lib.hid (box2_step HB1.out hb); clear hb b0 b1
      have hal : Below w2.heap.size w2 ((w2.alloc (.cells #[.string { data := #[] }] 9)).alloc (.cells #[.bool true] 4)) := ((Below.refl _ _).alloc (Nat.le_refl _) _).alloc (by simp) _
      have HB3 := Lib.hid (box2_step HB2.out hal)
      have hsz2 : w.heap.size + 2 ≤ w2.heap.size := by have := HB2.out.size; simp at this; omega
      have a0 := box2_a HB3.out 0; have a1 := box2_a HB3.out 1; have b0 := box2_b HB3.out 0; have b1 := box2_b HB3.out 1
      have HSI : Hid (SLI w w2.heap.size (w2.heap.size + 1) (.slice (some ⟨bA, fA, none⟩) A.2.length ebc) (.slice (some ⟨bB, fB, none⟩) B.2.length edc) ((w2.alloc (.cells #[.string { data := #[] }] 9)).alloc (.cells #[.bool true] 4))) :=
        Lib.hid ⟨box2_below HB3.out, a1, b1, by go_simp, by go_simp, by go_simp, by go_simp⟩
      have HWK := Lib.hid (impl_walk_same w.heap.size (w.heap.size + 1) w2.heap.size (w2.heap.size + 1) ea (some ⟨bA, fA, none⟩) ec (some ⟨bB, fB, none⟩) eac ebc ecc edc A B ((w2.alloc (.cells #[.string { data := #[] }] 9)).alloc (.cells #[.bool true] 4)) w.heap.size (diffP A B) (fun k => k = w2.heap.size ∨ k = w2.heap.size + 1)
        (SLI w w2.heap.size (w2.heap.size + 1) (.slice (some ⟨bA, fA, none⟩) A.2.length ebc) (.slice (some ⟨bB, fB, none⟩) B.2.length edc)) (SLJ w w2.heap.size (w2.heap.size + 1))
        (box2_below HB3.out).size (fun k hk => by simp; omega) (HCA.out.below (box2_below HB3.out)) (HCB.out.below (box2_below HB3.out)) HMA.out HMB.out hl1 hl3 HSI.out
        (fun v1 v2 h hb => h.later hb (by simp; omega) (by simp; omega) (by simp))
        (fun p v1 v2 h hb => h.later hb (by simp; omega) (by simp; omega) (by simp))
        (fun p v1 hr hi => (impl_same1 w v1 w2.heap.size (w2.heap.size + 1) bA fA bB fB A.2.length B.2.length ebc edc p.1 p.2.1 p.2.2 (endI A p.1) (endI B p.2.1) hi (by omega) (by omega)
          (below_cellk hi.1 (HRA.out p.1 hr.1 hr.2.1) hbA) (below_cellk hi.1 (HRB.out p.2.1 hr.2.2.1 hr.2.2.2) hbB) hr.1 (by rw [HEA.out]; exact hr.2.1) hr.2.2.1 (by rw [HEB.out]; exact hr.2.2.2))))
      have HA2 : Hid (w2.heap.size < w2.heap.size + 1) := Lib.hid (by omega)
      clear hal
      go_wp2_with fail
      refine HWK.out.mono ?_
      rintro e w4 ⟨v1, v2, rfl, hw, hor⟩
      rcases hor with ⟨i, p, hp, hd, hb, hj⟩ | ⟨hb, hi, _⟩
      · have HR := Lib.hid (HDI.out i p hp hd hb)
        obtain ⟨j0, j1, j2⟩ := hj
        have HJ := Lib.hid j0
        clear hp hd hb hw j0 a0 a1 b0 b1
        go_wp2_with fail
        go_quiet (fail)
        go_wp2_with fail
        go_ret3
        exact ⟨by first | (rw [HR.out]; done) | (rw [HR.out]; rfl), by first | exact HJ.out | exact below_drewN HJ.out _⟩
      · have HR := Lib.hid (HSA.out hb)
        obtain ⟨j0, _, _, j1, j2, _, _⟩ := hi
        have HJ := Lib.hid j0
        clear hb hw j0 a0 a1 b0 b1
        go_wp2_with fail
        go_quiet (fail)
        go_wp2_with fail
        go_ret3
        exact ⟨by first | (rw [HR.out]; done) | (rw [HR.out]; rfl), by first | exact HJ.out | exact below_drewN HJ.out _⟩
theorem spec_SameLanguage (w : World) (cs0 cs1 : List Value) (a0 a1 : Mach) (h0 : kMachine.rd w.heap.size w cs0 a0) (h1 : kMachine.rd w.heap.size w cs1 a1) (ht : kMachine.wt a0 + kMachine.wt a1 ≤ 1048576) :
    Calls Try.prog 24 #[.agg cs0.toArray, .agg cs1.toArray] w fun e w' => e = .returned (.tuple #[.string (R_SameLanguage a0 a1).1, .bool (R_SameLanguage a0 a1).2.1, .bool (R_SameLanguage a0 a1).2.2]) ∧ Below w.heap.size w w' := spec_same2 w cs0 cs1 a0 a1 h0 h1 ht
theorem impl_SameLanguage (w : World) (cs0 cs1 : List Value) (a0 a1 : Mach) (h0 : kMachine.rd w.heap.size w cs0 a0) (h1 : kMachine.rd w.heap.size w cs1 a1) (ht : kMachine.wt a0 + kMachine.wt a1 ≤ 1048576) :
    Calls Try.prog 25 #[.agg cs0.toArray, .agg cs1.toArray] w fun e w' => e = .returned (.tuple #[.string (R_SameLanguage a0 a1).1, .bool (R_SameLanguage a0 a1).2.1, .bool (R_SameLanguage a0 a1).2.2]) ∧ Below w.heap.size w w' := impl_same2 w cs0 cs1 a0 a1 h0 h1 ht
end Go.Proofs.Ytedjahinlpehgaa
