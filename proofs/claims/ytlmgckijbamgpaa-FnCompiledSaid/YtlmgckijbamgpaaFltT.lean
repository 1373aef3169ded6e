/- What a filter tells: the program's walk, and the match. -/
import Derived.Test.YtlmgckijbamgpaaFltS
import Derived.Test.YtlmgckijbamgpaaWn5
namespace Go.Proofs.Ytlmgckijbamgpaa
set_option linter.unusedVariables false
set_option linter.unusedSimpArgs false
open Go.ChangeShapes Go.WideShapes Go.ChangeAt Go.RowKit
set_option maxRecDepth 100000

theorem leaf_any (fs : List (Fld × Int)) (w : Wn) : leafW (fs.map (·.1)) w = fs.any (wtest w.kind w.no w.num w.text) := by
  unfold leafW
  rw [List.any_map]
  rfl
/-- a world in which the filter and the fields lie -/
structure FlS (l : List Wn) (vs : List Value) (la : Option Addr) (lc p : Nat) (fa : Option Addr) (w : World) : Prop where
  cell : w.cell? ⟨p, 0, none⟩ = some (.slice la l.length lc)
  row : Rw w la (wnsV l)
  flds : Rw w fa vs
theorem FlS.later {l : List Wn} {vs : List Value} {la : Option Addr} {lc p : Nat} {fa : Option Addr} {w w' : World} (h : FlS l vs la lc p fa w) (hb : Below w.heap.size w w') : FlS l vs la lc p fa w' :=
  ⟨below_later hb h.cell, h.row.below hb, h.flds.below hb⟩
set_option maxHeartbeats 4000000 in
theorem impl_so (l : List Wn) (fs : List (Fld × Int)) (fl : List Fld) (hfl : fl = fs.map (·.1)) (lc fc : Nat) (hok : okAll l 0 = true) (hn : l.length ≤ 20) (hfn : fs.length ≤ 40) : ∀ (k : Nat), k < l.length → ∀ (p : Nat) (la fa : Option Addr) (w : World), FlS l (pvs fs) la lc p fa w →
    Calls Try.prog 97 #[.pointer (some ⟨p, 0, none⟩), .int .i64 (k : Int), .slice fa fs.length fc] w fun e w' => e = .returned (.bool (soK l fl k)) ∧ Below w.heap.size w w' := by
  intro k
  induction k using Nat.strongRecOn with
  | ind k ih =>
    intro hk p la fa w hs
    have IH := Lib.hid ih
    clear ih
    have HS := Lib.hid hs
    obtain ⟨w0, hw⟩ : ∃ w0, l[k]? = some w0 := ⟨l[k], List.getElem?_eq_getElem hk⟩
    have ho := okAll_at l 0 k w0 hok hw
    rw [Nat.zero_add] at ho
    have hcell := hs.cell
    have hpl := World.block_lt_of_cell? w _ hcell
    obtain ⟨b, off, hae, hbx, hbw, c0, c1, c2, c3, c4, c5⟩ := row6 hs.row (Below.refl _ _) hw
    have hks := soK_eq fl hok hw
    generalize soK l fl k = R at hks ⊢
    have HKS := Lib.hid hks
    subst hae
    clear hs hks hw
    have HLF := Lib.hid (leaf_any fs w0)
    rw [← hfl] at HLF
    obtain ⟨kd, no, nm, tx, xa, xb⟩ := w0
    simp only at c0 c1 c2 c3 c4 c5 HKS HLF
    have HA := Lib.hid (heap_alloc_new w (.cells #[.int .i64 kd, .int .i64 no, .int .i64 nm, .string tx, .int .i64 xa, .int .i64 xb] 134))
    have HB := Lib.hid ((Below.refl w.heap.size w).alloc (Nat.le_refl _) (.cells #[.int .i64 kd, .int .i64 no, .int .i64 nm, .string tx, .int .i64 xa, .int .i64 xb] 134))
    have hzy : w.heap.size < (w.alloc (.cells #[.int .i64 kd, .int .i64 no, .int .i64 nm, .string tx, .int .i64 xa, .int .i64 xb] 134)).heap.size := by simp
    obtain ⟨n, hnl⟩ : ∃ n, l.length = n := ⟨_, rfl⟩
    have HNL := Lib.hid hnl
    rw [hnl] at hcell hk
    generalize hwy : w.alloc (.cells #[.int .i64 kd, .int .i64 no, .int .i64 nm, .string tx, .int .i64 xa, .int .i64 xb] 134) = wy at *
    have HS1 := Lib.hid (HS.out.later HB.out)
    obtain ⟨y0, y1, y2, y3, y4, y5⟩ := box6 HA.out
    obtain ⟨m, hm⟩ : ∃ m, fs.length = m := ⟨_, rfl⟩
    have HM := Lib.hid hm
    rw [hm] at hfn IH ⊢
    clear hm hnl hn
    by_cases h67 : kd = 6 ∨ kd = 7
    · obtain ⟨q1, q2, q3⟩ := ok67 ho h67
      simp only at q1 q2 q3
      obtain ⟨x, rfl⟩ : ∃ x : Nat, xa = (x : Int) := ⟨xa.toNat, by omega⟩
      obtain ⟨y, rfl⟩ : ∃ y : Nat, xb = (y : Int) := ⟨xb.toNat, by omega⟩
      have hxk : x < k := by omega
      have hyk : y < k := by omega
      have HX := Lib.hid (fun wx h => IH.out x hxk (by have := HNL.out; omega) p (some ⟨b, off, none⟩) fa wx h)
      have HY := Lib.hid (fun wx h => IH.out y hyk (by have := HNL.out; omega) p (some ⟨b, off, none⟩) fa wx h)
      rw [Int.toNat_natCast, Int.toNat_natCast] at HKS
      generalize soK l fl x = rx at *
      generalize soK l fl y = ry at *
      rcases h67 with rfl | rfl
      · have hR : R = (rx && ry) := HKS.out.trans (if_pos rfl)
        clear HKS HLF ho
        cases rx with
        | false =>
          subst hR
          go_enter Try.func97, Try.ntmps97
          go_wp2_with fail
          refine (HX.out _ HS1.out).mono ?_
          rintro e w2 ⟨rfl, hb⟩
          have HB2 := Lib.hid (rstep HB.out hb); clear hb
          go_wp2_with fail
          go_ret
          exact ⟨rfl, HB2.out⟩
        | true =>
          rw [Bool.true_and] at hR
          subst hR
          go_enter Try.func97, Try.ntmps97
          go_wp2_with fail
          refine (HX.out _ HS1.out).mono ?_
          rintro e w2 ⟨rfl, hb⟩
          have HB2 := Lib.hid (rstep HB.out hb)
          have HS2 := Lib.hid (HS1.out.later hb)
          obtain ⟨z0, z1, z2, z3, z4, z5⟩ := box6 (heap_keep hb HA.out)
          clear hb
          go_wp2_with fail
          refine (HY.out _ HS2.out).mono ?_
          rintro e w3 ⟨rfl, hb⟩
          have HB3 := Lib.hid (rstep HB2.out hb); clear hb
          go_wp2_with fail
          go_ret
          exact ⟨rfl, HB3.out⟩
      · have hR : R = (rx || ry) := HKS.out.trans ((if_neg (by decide)).trans (if_pos rfl))
        clear HKS HLF ho
        cases rx with
        | true =>
          subst hR
          go_enter Try.func97, Try.ntmps97
          go_wp2_with fail
          refine (HX.out _ HS1.out).mono ?_
          rintro e w2 ⟨rfl, hb⟩
          have HB2 := Lib.hid (rstep HB.out hb); clear hb
          go_wp2_with fail
          go_ret
          exact ⟨rfl, HB2.out⟩
        | false =>
          rw [Bool.false_or] at hR
          subst hR
          go_enter Try.func97, Try.ntmps97
          go_wp2_with fail
          refine (HX.out _ HS1.out).mono ?_
          rintro e w2 ⟨rfl, hb⟩
          have HB2 := Lib.hid (rstep HB.out hb)
          have HS2 := Lib.hid (HS1.out.later hb)
          obtain ⟨z0, z1, z2, z3, z4, z5⟩ := box6 (heap_keep hb HA.out)
          clear hb
          go_wp2_with fail
          refine (HY.out _ HS2.out).mono ?_
          rintro e w3 ⟨rfl, hb⟩
          have HB3 := Lib.hid (rstep HB2.out hb); clear hb
          go_wp2_with fail
          go_ret
          exact ⟨rfl, HB3.out⟩
    have n6 : ¬ kd = 6 := by omega
    have n7 : ¬ kd = 7 := by omega
    by_cases h8 : kd = 8
    · subst h8
      obtain ⟨q1, q2⟩ := ok8 ho rfl
      simp only at q1 q2
      obtain ⟨x, rfl⟩ : ∃ x : Nat, xa = (x : Int) := ⟨xa.toNat, by omega⟩
      have hxk : x < k := by omega
      have HX := Lib.hid (fun wx h => IH.out x hxk (by have := HNL.out; omega) p (some ⟨b, off, none⟩) fa wx h)
      rw [Int.toNat_natCast] at HKS
      generalize soK l fl x = rx at *
      have hR : R = !rx := HKS.out.trans ((if_neg (by decide)).trans ((if_neg (by decide)).trans (if_pos rfl)))
      clear HKS HLF ho n6 n7 h67
      subst hR
      go_enter Try.func97, Try.ntmps97
      go_wp2_with fail
      refine (HX.out _ HS1.out).mono ?_
      rintro e w2 ⟨rfl, hb⟩
      have HB2 := Lib.hid (rstep HB.out hb); clear hb
      go_wp2_with fail
      go_ret
      exact ⟨rfl, HB2.out⟩
    have hR : R = leafW fl ⟨kd, no, nm, tx, xa, xb⟩ := HKS.out.trans ((if_neg n6).trans ((if_neg n7).trans (if_neg h8)))
    rw [HLF.out] at hR
    have HC := Lib.hid (has_so w.heap.size kd no nm tx hzy y0 y1 y2 y3 fa fc fs HS1.out.flds (by have := HM.out; omega))
    rw [HM.out] at HC
    have k6 := kind_eq n6
    have k7 := kind_eq n7
    have k8 := kind_eq h8
    clear HKS HLF ho n6 n7 h67 h8 hfl
    generalize fs.any (wtest kd no nm tx) = rr at *
    subst hR
    go_enter Try.func97, Try.ntmps97
    go_wp2_with fail
    refine HC.out.mono ?_
    rintro e w2 ⟨rfl, hb⟩
    have HB2 := Lib.hid (rstep HB.out hb); clear hb
    go_wp2_with fail
    go_ret
    exact ⟨rfl, HB2.out⟩
theorem matches_none {l : List Wn} {s : ByteArray} (h : R_Rising s = none) : R_Matches l s = (false, false) := by unfold R_Matches; rw [h]
theorem matches_bad {l : List Wn} {s : ByteArray} (h : R_GoodW l = false) : R_Matches l s = (false, false) := by
  unfold R_Matches
  cases R_Rising s with
  | none => rfl
  | some fs => simp [h]
theorem matches_yes {l : List Wn} {s : ByteArray} {fs : List Fld} (h : R_Rising s = some fs) (h2 : R_GoodW l = true) : R_Matches l s = (soK l fs (l.length - 1), true) := by unfold R_Matches; rw [h]; exact if_pos h2
set_option maxHeartbeats 2000000 in
theorem impl_Matches (la : Option Addr) (lc : Nat) (l : List Wn) (s : ByteArray) (w : World) (hrow : Rw w la (wnsV l)) (hn : l.length ≤ 1048576) (hs : s.size ≤ 1048576) : Calls Try.prog 42 #[.agg #[.slice la l.length lc], .string s] w fun e w' => e = .returned (.tuple #[.bool (R_Matches l s).1, .bool (R_Matches l s).2]) ∧ Below w.heap.size w w' := by
  have HRF := Lib.hid (fun wx => impl_risingFields s wx hs)
  have HGF := Lib.hid (fun wx (h : Rw wx la (wnsV l)) => impl_GoodFilter la lc l wx h hn)
  have HRW := Lib.hid hrow
  have HB0 := Lib.hid ((Below.refl w.heap.size w).alloc (Nat.le_refl _) (.cells #[.slice la l.length lc] 61))
  have HA : Hid ((w.alloc (.cells #[.slice la l.length lc] 61)).cell? ⟨w.heap.size, 0, none⟩ = some (.slice la l.length lc)) := Lib.hid (box_cell (box_start w (.cells #[.slice la l.length lc] 61)) 0)
  cases hR : R_Rising s with
  | none =>
    rw [matches_none hR]
    rw [hR] at HRF
    clear hR hrow hn
    unfold PlO at HRF
    go_enter Try.func42, Try.ntmps42
    go_wp2_with fail
    refine (HRF.out _).mono ?_
    rintro e w1 ⟨v, fl, rfl, ho, hb, _, _⟩
    have HB1 := Lib.hid (rstep HB0.out hb)
    clear ho hb
    go_wp2_with fail
    go_ret2
    exact ⟨rfl, HB1.out⟩
  | some fs =>
    rw [hR] at HRF
    cases hG : R_GoodW l with
    | false =>
      rw [matches_bad hG]
      rw [hG] at HGF
      clear hR hG hrow hn
      unfold PlO at HRF
      go_enter Try.func42, Try.ntmps42
      go_wp2_with fail
      refine (HRF.out _).mono ?_
      rintro e w1 ⟨v, fl, rfl, ho, hb, _, _⟩
      have HB1 := Lib.hid (rstep HB0.out hb)
      have m0 : w1.cell? ⟨w.heap.size, 0, none⟩ = some (.slice la l.length lc) := below_later hb HA.out
      clear ho hb
      go_wp2_with fail
      refine (HGF.out _ (HRW.out.below HB1.out)).mono ?_
      rintro e w2 ⟨rfl, hb⟩
      have HB2 := Lib.hid (rstep HB1.out hb); clear hb
      go_wp2_with fail
      go_ret2
      exact ⟨rfl, HB2.out⟩
    | true =>
      rw [matches_yes hR hG]
      rw [hG] at HGF
      have hl := good_len hG
      have HOK := Lib.hid (good_ok hG)
      obtain ⟨R, hRR⟩ : ∃ R, soK l fs (l.length - 1) = R := ⟨_, rfl⟩
      have HRR := Lib.hid hRR
      rw [hRR]
      clear hR hG hrow hn hRR
      unfold PlO at HRF
      obtain ⟨n, hnl⟩ : ∃ n, l.length = n := ⟨_, rfl⟩
      have HNL := Lib.hid hnl
      rw [hnl] at HA HGF HB0 hl HRR ⊢
      clear hnl
      have hl1 := hl.1
      have hl2 := hl.2
      clear hl
      have hx : n - 1 < n := by omega
      have hw1 : IntKind.i64.wrap ((n : Int) - 1) = ((n - 1 : Nat) : Int) := by rw [IntWalk.i64_in _ (by omega)]; omega
      go_enter Try.func42, Try.ntmps42
      go_wp2_with fail
      refine (HRF.out _).mono ?_
      rintro e w1 ⟨v, fl, rfl, ho, hb, hf40, hrr⟩
      have HFS : Hid (fs = fl.map (·.1)) := Lib.hid (hrr fs rfl)
      have HB1 := Lib.hid (rstep HB0.out hb)
      have m0 : w1.cell? ⟨w.heap.size, 0, none⟩ = some (.slice la n lc) := below_later hb HA.out
      obtain ⟨va, vc, rfl⟩ := form_of_own ho
      have HO := Lib.hid ho
      clear ho hb hrr
      go_wp2_with fail
      refine (HGF.out _ (HRW.out.below HB1.out)).mono ?_
      rintro e w2 ⟨rfl, hb⟩
      have HB2 := Lib.hid (rstep HB1.out hb)
      have m1 := below_later hb m0
      have HO2 := Lib.hid (own_later HO.out hb)
      have HSO := Lib.hid (fun wx (h : FlS l (pvs fl) la lc w.heap.size va wx) => impl_so l fl fs HFS.out lc vc HOK.out (by have := HNL.out; omega) hf40 (n - 1) (by have := HNL.out; omega) w.heap.size la va wx h)
      rw [HRR.out] at HSO
      have HFL : Hid (FlS l (pvs fl) la lc w.heap.size va w2) := Lib.hid ⟨by rw [HNL.out]; exact m1, HRW.out.below HB2.out, own_rw HO2.out⟩
      clear hb m0
      go_wp2_with fail
      refine (HSO.out _ HFL.out).mono ?_
      rintro e w3 ⟨rfl, hb⟩
      have HB3 := Lib.hid (rstep HB2.out hb); clear hb
      go_wp2_with fail
      go_ret2
      exact ⟨rfl, HB3.out⟩
end Go.Proofs.Ytlmgckijbamgpaa
