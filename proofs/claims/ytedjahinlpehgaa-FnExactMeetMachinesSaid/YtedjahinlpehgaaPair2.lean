/- The contract of the reference's SameLanguage. -/
import Derived.Test.YtedjahinlpehgaaPair
namespace Go.Proofs.Ytedjahinlpehgaa
set_option linter.unusedVariables false
open Go.ChangeShapes Go.WideShapes Go.ChangeAt Go.RowKit
set_option maxRecDepth 100000

theorem SL_no {A B : Mach} (h : ¬ (R_GoodMachine A = true ∧ R_GoodMachine B = true)) : R_SameLanguage A B = (ByteArray.empty, false, false) := if_neg h
theorem SL_diff {A B : Mach} (h : R_GoodMachine A = true ∧ R_GoodMachine B = true) {i : Nat} {p : Pr} (hp : (pairsR A B)[i]? = some p) (hd : diffP A B p = true) (hb : ((pairsR A B).take i).any (diffP A B) = false) : R_SameLanguage A B = (p.2.2, false, true) := by
  unfold R_SameLanguage; rw [if_pos h, find_here hp hd hb]
theorem SL_same {A B : Mach} (h : R_GoodMachine A = true ∧ R_GoodMachine B = true) (hb : (pairsR A B).any (diffP A B) = false) : R_SameLanguage A B = (ByteArray.empty, true, true) := by
  unfold R_SameLanguage; rw [if_pos h, find_none hb]
def SameOf (R : ByteArray × Bool × Bool) (w : World) (e : Ending) (w' : World) : Prop := e = .returned (.tuple #[.string R.1, .bool R.2.1, .bool R.2.2]) ∧ Below w.heap.size w w'
/-! ### what the laws on two machines begin with -/
set_option maxHeartbeats 4000000 in
theorem spec_same2 (w : World) (cs0 cs1 : List Value) (A B : Mach) (h0 : kMachine.rd w.heap.size w cs0 A) (h1 : kMachine.rd w.heap.size w cs1 B) (ht : kMachine.wt A + kMachine.wt B ≤ 1048576) :
    Calls Try.prog 24 #[.agg cs0.toArray, .agg cs1.toArray] w (SameOf (R_SameLanguage A B) w) := by
  obtain ⟨ea, eac, eb, ebc, rfl, hn, he⟩ := Machine_rd h0
  obtain ⟨ec, ecc, ed, edc, rfl, hn', he'⟩ := Machine_rd h1
  have HG1 := Lib.hid (fun wx (hb : Below w.heap.size w wx) => spec_GoodMachine wx _ A (kMachine_ok.later h0 hb) (by omega))
  have HG2 := Lib.hid (fun wx (hb : Below w.heap.size w wx) => spec_GoodMachine wx _ B (kMachine_ok.later h1 hb) (by omega))
  have hl1 := (sl_len hn).2; have hl2 := (sl_len he).2; have hl3 := (sl_len hn').2; have hl4 := (sl_len he').2
  have HN := Lib.hid hn; have HE := Lib.hid he; have HN' := Lib.hid hn'; have HE' := Lib.hid he'
  have HB0 := Lib.hid (box2_start w (.cells #[.slice ea A.1.length eac, .slice eb A.2.length ebc] 28) (.cells #[.slice ec B.1.length ecc, .slice ed B.2.length edc] 28))
  clear h0 h1 hn he hn' he' ht
  unfold SameOf
  cases g1 : R_GoodMachine A with
  | false =>
    rw [SL_no (fun h => by rw [g1] at h; cases h.1)]
    rw [g1] at HG1
    clear g1
    go_enter Try.func24, Try.ntmps24
    go_wp2_with fail
    refine (HG1.out _ (box2_below HB0.out)).mono ?_
    rintro e w1 ⟨rfl, hb⟩
    have HB1 := Lib.hid (box2_step HB0.out hb); clear hb
    go_wp2_with fail
    go_ret3
    exact ⟨rfl, box2_below HB1.out⟩
  | true =>
    cases g2 : R_GoodMachine B with
    | false =>
      rw [SL_no (fun h => by rw [g2] at h; cases h.2)]
      rw [g1] at HG1; rw [g2] at HG2
      clear g1 g2
      go_enter Try.func24, Try.ntmps24
      go_wp2_with fail
      refine (HG1.out _ (box2_below HB0.out)).mono ?_
      rintro e w1 ⟨rfl, hb⟩
      have HB1 := Lib.hid (box2_step HB0.out hb); clear hb
      have b0 := box2_b HB1.out 0; have b1 := box2_b HB1.out 1
      go_wp2_with fail
      refine (HG2.out _ (box2_below HB1.out)).mono ?_
      rintro e w2 ⟨rfl, hb⟩
      have HB2 := Lib.hid (box2_step HB1.out hb); clear hb
      go_wp2_with fail
      go_ret3
      exact ⟨rfl, box2_below HB2.out⟩
    | true =>
      have HMA := Lib.hid (good_of g1); have HMB := Lib.hid (good_of g2)
      have HDI := Lib.hid (fun i p hp hd hb => SL_diff (A := A) (B := B) ⟨g1, g2⟩ (i := i) (p := p) hp hd hb)
      have HSA := Lib.hid (fun hb => SL_same (A := A) (B := B) ⟨g1, g2⟩ hb)
      have HINV := Lib.hid (ordP_inv (A := A) (B := B) HMA.out HMB.out 144)
      have HLEN : Hid ((pairsR A B).length ≤ 144) := Lib.hid (ordP_len HMA.out HMB.out 144)
      have HPR := Lib.hid (fun wx (hb : Below w.heap.size w wx) => spec_pairs ea eb ec ed eac ebc ecc edc A B wx (((MC.of HN.out HE.out HMA.out).below hb).mono hb.size) (((MC.of HN'.out HE'.out HMB.out).below hb).mono hb.size) HMA.out HMB.out hl1 hl3)
      obtain ⟨bA, fA, hea, hbA, hrA⟩ := (MC.of HN.out HE.out HMA.out).ends
      obtain ⟨bB, fB, heb, hbB, hrB⟩ := (MC.of HN'.out HE'.out HMB.out).ends
      have HRA := Lib.hid hrA; have HRB := Lib.hid hrB
      subst hea heb
      rw [g1] at HG1; rw [g2] at HG2
      have HEA : Hid (A.2.length = A.1.length) := Lib.hid HMA.out.ends
      have HEB : Hid (B.2.length = B.1.length) := Lib.hid HMB.out.ends
      clear g1 g2 hrA hrB
      generalize R_SameLanguage A B = R at *
      go_enter Try.func24, Try.ntmps24
      go_wp2_with fail
      refine (HG1.out _ (box2_below HB0.out)).mono ?_
      rintro e w1 ⟨rfl, hb⟩
      have HB1 := Lib.hid (box2_step HB0.out hb); clear hb
      have b0 := box2_b HB1.out 0; have b1 := box2_b HB1.out 1
      go_wp2_with fail
      refine (HG2.out _ (box2_below HB1.out)).mono ?_
      rintro e w2 ⟨rfl, hb⟩
      have HB2 := Lib.hid (box2_step HB1.out hb); clear hb b0 b1
      have a0 := box2_a HB2.out 0; have a1 := box2_a HB2.out 1; have b0 := box2_b HB2.out 0; have b1 := box2_b HB2.out 1
      go_wp2_with fail
      refine (HPR.out _ (box2_below HB2.out)).mono ?_
      rintro e w3 ⟨g, cp, rfl, ho, hb⟩
      have HB3 := Lib.hid (box2_step HB2.out hb)
      have HRW := Lib.hid (own_prow ho)
      have hcap := own_caps ho
      unfold maxLen at hcap
      have hl := HLEN.out
      clear ho hb a0 a1 b0 b1
      have HPI : Hid (∀ p ∈ pairsR A B, 0 ≤ p.1 ∧ p.1 < (A.1.length : Int) ∧ 0 ≤ p.2.1 ∧ p.2.1 < (B.1.length : Int)) := Lib.hid HINV.out.rg
      generalize pairsR A B = L at *
      go_wp2_with fail
      go_loopw [21] (fun iv wr => ∃ i : Nat, i ≤ L.length ∧ iv = .int .i64 (i : Int) ∧ Hid ((L.take i).any (diffP A B) = false) ∧ Hid (Below w3.heap.size w3 wr)) (fun iv _ => L.length - (intOf iv).toNat)
      case atStart => exact ⟨0, by omega, rfl, Lib.hid rfl, Lib.hid (Below.refl _ _)⟩
      case round =>
        obtain ⟨w4, rfl⟩ : ∃ z : World, z = wr := ⟨_, rfl⟩
        obtain ⟨i, hi, rfl, HA, HB⟩ := hrel
        have HBW := Lib.hid (box2_step HB3.out HB.out)
        by_cases hil : i < L.length
        case neg =>
          obtain rfl : i = L.length := by omega
          have HR := Lib.hid (HSA.out (by have h := HA.out; rwa [List.take_length] at h))
          go_wp2_with fail
          go_ret3
          exact ⟨by rw [HR.out]; rfl, box2_below HBW.out⟩
        obtain ⟨p, hp⟩ : ∃ p, L[i]? = some p := ⟨L[i], List.getElem?_eq_getElem hil⟩
        obtain ⟨b, off, hb0, hbl, hcs⟩ := HRW.out
        simp only [Option.some.injEq, Addr.mk.injEq, and_true] at hb0
        obtain ⟨rfl, rfl⟩ := hb0
        obtain ⟨p0, p1, p2⟩ := hcs i p hp
        replace p0 := below_cellk HB.out p0 hbl; replace p1 := below_cellk HB.out p1 hbl; replace p2 := below_cellk HB.out p2 hbl
        simp only [Nat.zero_add] at p0 p1 p2
        obtain ⟨r1, r2, r3, r4⟩ := HPI.out p (List.mem_of_getElem? hp)
        have k1 : w4.cell? ⟨w.heap.size, 1, none⟩ = some (.slice (some ⟨bA, fA, none⟩) A.2.length ebc) := box2_a HBW.out 1
        have k3 : w4.cell? ⟨w.heap.size + 1, 1, none⟩ = some (.slice (some ⟨bB, fB, none⟩) B.2.length edc) := box2_b HBW.out 1
        have k2 := below_cellk (box2_below HBW.out) (HRA.out p.1 r1 r2) hbA
        have k4 := below_cellk (box2_below HBW.out) (HRB.out p.2.1 r3 r4) hbB
        rw [← HEA.out] at r2; rw [← HEB.out] at r4
        have HDF : Hid (diffP A B p = (endI A p.1 != endI B p.2.1)) := Lib.hid rfl
        have HP := Lib.hid hp
        have HNO : Hid (diffP A B p = false → (L.take (i + 1)).any (diffP A B) = false) := Lib.hid (fun h => any_no HA.out hp h)
        have HYE : Hid (diffP A B p = true → R = (p.2.2, false, true)) := Lib.hid (fun h => HDI.out i p hp h HA.out)
        obtain ⟨x, y, s⟩ := p
        simp only at p0 p1 p2 r1 r2 r3 r4 k2 k4 HDF HYE
        have hal : Below w4.heap.size w4 (w4.alloc (.cells #[.int .i64 x, .int .i64 y, .string s] 65)) := (Below.refl _ _).alloc (Nat.le_refl _) _
        have j1 := below_later hal k1; have j2 := below_later hal k2; have j3 := below_later hal k3; have j4 := below_later hal k4
        have HBN := Lib.hid (rstep HB.out hal)
        have HBN2 := Lib.hid (box2_step HBW.out hal)
        clear hp hcs hal
        generalize endI A x = u at *
        generalize endI B y = v at *
        cases hd : diffP A B (x, y, s) with
        | true =>
          have hq : (u != v) = true := by rw [← HDF.out]; exact hd
          have HR := Lib.hid (HYE.out hd)
          clear hd HDF
          cases u <;> cases v <;> first
            | (exact absurd hq (by decide))
            | (clear hq
               go_wp2_with fail
               go_quiet (fail)
               go_wp2_with fail
               go_ret3
               exact ⟨by rw [HR.out]; rfl, rdrew (box2_below HBN2.out) _⟩)
        | false =>
          have hq : (u != v) = false := by rw [← HDF.out]; exact hd
          have HR := Lib.hid (HNO.out hd)
          clear hd HDF
          cases u <;> cases v <;> first
            | (exact absurd hq (by decide))
            | (clear hq
               go_wp2_with fail
               go_quiet (fail)
               go_wp2_with fail
               go_roundw
               case rel => exact ⟨i + 1, by omega, by go_num, HR, Lib.hid (rdrew HBN.out _)⟩
               case measure => (simp [intOf]; try omega))
end Go.Proofs.Ytedjahinlpehgaa
