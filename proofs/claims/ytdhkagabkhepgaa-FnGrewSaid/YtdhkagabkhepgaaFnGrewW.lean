/- The walk of FnGrew: whatever the arguments, the call returns true and writes nothing that was there. -/
import Derived.Test.YtdhkagabkhepgaaArgs
import Derived.Deep.RegionHeld3
import Derived.Test.YtdhkagabkhepgaaCur7
import Derived.Test.YtdhkagabkhepgaaSame
import Derived.Test.YtdhkagabkhepgaaLogLaw
namespace Go.Proofs.Ytdhkagabkhepgaa.fnGrew
open Go.ChangeShapes Go.WideShapes Go.ChangeAt Go.RowKit
open Go.ChangeMaps (open_string shut_string)
set_option linter.unusedVariables false

theorem logB_take {ss : List ByteArray} (h : logB ss = true) (k : Nat) : logB (ss.take k) = true := by
  unfold logB at *
  rw [Bool.and_eq_true, decide_eq_true_eq, Bool.not_eq_true', List.any_eq_false] at *
  exact ⟨by rw [List.length_take]; omega, fun x hx => h.2 x (List.mem_of_mem_take hx)⟩
theorem bne_self (b : Bool) : (b != b) = false := by cases b <;> rfl
theorem bneI_self (b : Int) : (b != b) = false := by simp

set_option maxHeartbeats 8000000 in
set_option maxRecDepth 100000 in
theorem walk (w : World) (v0 : Value) (a0 : List UInt8) (w0 : IsBytes w v0 a0) (v1 : Value) (a1 : List UInt8) (w1 : IsBytes w v1 a1) :
    Calls Try.prog 12 #[v0, v1] w fun e w' => e = .returned (.bool true) ∧ Below w.heap.size w w' := by
  obtain ⟨ca, cc, rfl, hr0, hl0, hm0⟩ := w0
  obtain ⟨ma, mc, rfl, hr1, hl1, hm1⟩ := w1
  unfold maxLen at hm0 hm1
  have HR0 := Lib.hid hr0; have HR1 := Lib.hid hr1
  clear hr0 hr1
  by_cases hsum : (1048576 : Int) < wrap64 ((a0.length : Int) + (a1.length : Int))
  case pos =>
    go_enter Try.func12, Try.ntmps12
    go_wp2_with fail
    go_ret
    exact ⟨rfl, Below.refl _ _⟩
  go_enter Try.func12, Try.ntmps12
  go_wp2_with fail
  clear hsum
  refine (draw_proveGrew w ca cc a0 hl0 hm0 HR0.out.rb).mono ?_
  rintro e w1 ⟨v1, ss, k, rfl, ho, hs1, hs2, hk0, hk1, hb⟩
  obtain ⟨old, rfl⟩ : ∃ n : Nat, k = (n : Int) := ⟨k.toNat, by omega⟩
  have HB1 := Lib.hid hb
  obtain ⟨aa, ac, rfl⟩ := form_of_own ho
  have hqc := own_capsP ho
  have HO1 := Lib.hid ho; clear ho hb
  have hsz : ∀ s ∈ ss, s.size ≤ 9223372036854775807 := fun s hs => by have := hs2 s hs; omega
  have HPI := Lib.hid (fun wx hr => impl_ProveGrew aa ac ss (old : Int) wx hr hqc.1 hqc.2 (by omega) hsz)
  have HPS := Lib.hid (fun wx hr => spec_ProveGrew aa ac ss (old : Int) wx hr hqc.1 hqc.2 (by omega) hsz)
  have hpl : (ProveGrewR ss (old : Int)).1.length ≤ ss.length := proveGrew_facts ss old
  have hok : (ProveGrewR ss (old : Int)).2 = true → logB ss = true ∧ 1 ≤ old ∧ old ≤ ss.length ∧ (ProveGrewR ss (old : Int)).1 = pgrL ss.length ss old true := by
    unfold ProveGrewR
    intro h
    split at h
    · rename_i hc
      rw [Bool.and_eq_true] at hc
      have := inB_of hc.2
      refine ⟨hc.1, by omega, by omega, ?_⟩
      rw [if_pos (by rw [Bool.and_eq_true]; exact hc)]; simp
    · cases h
  generalize ProveGrewR ss (old : Int) = R at *
  obtain ⟨p, ok⟩ := R
  have HOK := Lib.hid hok; clear hok
  have n0 := bne_self ok
  clear hs2
  go_wp2_with fail
  refine (HPI.out _ (own_rw HO1.out)).mono ?_
  rintro e w2 ⟨v2, rfl, ho2, hb2⟩
  obtain ⟨a2, c2, rfl⟩ := form_of_own ho2
  have hc2 := own_capsP ho2
  have hba : Below w2.heap.size w2 (w2.alloc (.cells #[.slice a2 p.length c2] 41)) := (Below.refl _ _).alloc (Nat.le_refl _) _
  replace HB1 := Lib.hid (rstep (rstep HB1.out hb2) hba); replace HO1 := Lib.hid (own_later (own_later HO1.out hb2) hba)
  have HO2 := Lib.hid (own_later ho2 hba)
  have k7 : (w2.alloc (.cells #[.slice a2 p.length c2] 41)).cell? ⟨w2.heap.size, 0, none⟩ = some (.slice a2 p.length c2) := by rw [World.cell?_alloc_new]; rfl
  have K7 := Lib.hid k7
  clear ho2 hb2 hba k7
  go_wp2_with fail
  generalize w2.alloc (.cells #[.slice a2 p.length c2] 41) = w3 at *
  generalize w2.heap.size = b7 at *
  refine (HPS.out _ (own_rw HO1.out)).mono ?_
  rintro e w4 ⟨v4, rfl, ho4, hb4⟩
  obtain ⟨a4, c4, rfl⟩ := form_of_own ho4
  have hba : Below w4.heap.size w4 (w4.alloc (.cells #[.slice a4 p.length c4] 41)) := (Below.refl _ _).alloc (Nat.le_refl _) _
  replace HB1 := Lib.hid (rstep (rstep HB1.out hb4) hba); replace HO1 := Lib.hid (own_later (own_later HO1.out hb4) hba)
  replace HO2 := Lib.hid (own_later (own_later HO2.out hb4) hba)
  have HO4 := Lib.hid (own_later ho4 hba)
  have k7 := below_later hba (below_later hb4 K7.out)
  have k9 : (w4.alloc (.cells #[.slice a4 p.length c4] 41)).cell? ⟨w4.heap.size, 0, none⟩ = some (.slice a4 p.length c4) := by rw [World.cell?_alloc_new]; rfl
  have hlt9 : w4.heap.size < (w4.alloc (.cells #[.slice a4 p.length c4] 41)).heap.size := by simp
  clear ho4 hb4 hba K7
  go_wp2_with fail
  generalize w4.alloc (.cells #[.slice a4 p.length c4] 41) = w5 at *
  generalize w4.heap.size = b9 at *
  refine (same_ints a2 a4 c2 c4 p p w5 (own_rw HO2.out) (own_rw HO4.out) (by omega) (by omega)).mono ?_
  rintro e w' ⟨rfl, q, rfl⟩
  have hbq : Below w5.heap.size w5 (w5.drewN q) := below_drewN (Below.refl _ _) _
  replace HB1 := Lib.hid (rstep HB1.out hbq); replace HO1 := Lib.hid (own_later HO1.out hbq); replace HO2 := Lib.hid (own_later HO2.out hbq); replace k7 := below_later hbq k7
  clear hbq k9 HO4 hlt9
  generalize w5.drewN q = w6 at *
  have hdd : decide (p = p) = true := by simp
  cases ok with
  | false =>
    go_wp2_with fail
    refine (draw_checkGrew w6 ma mc a1 hl1 hm1 (HR1.out.below HB1.out).rb).mono ?_
    rintro e w20 ⟨r, many, q, n, v, pr, rfl, ho, hpl, hb⟩
    have HB20 := Lib.hid (rstep HB1.out hb)
    obtain ⟨qa, qc, rfl⟩ := form_of_own ho
    have hqc := own_capsP ho
    have hba : Below w20.heap.size w20 (w20.alloc (.cells #[.slice qa pr.length qc] 41)) := (Below.refl _ _).alloc (Nat.le_refl _) _
    have HO20 := Lib.hid (own_later ho hba)
    have k24 : (w20.alloc (.cells #[.slice qa pr.length qc] 41)).cell? ⟨w20.heap.size, 0, none⟩ = some (.slice qa pr.length qc) := by rw [World.cell?_alloc_new]; rfl
    replace HB20 := Lib.hid (rstep HB20.out hba)
    clear ho hb hba
    have HCI := Lib.hid (fun wx hr => impl_checkGrew r many q n qa qc pr wx hr (by omega) hqc.1 hqc.2)
    have HCS := Lib.hid (fun wx hr => spec_checkGrew r many q n qa qc pr wx hr (by omega) hqc.1 hqc.2)
    clear hqc
    generalize CheckGrewR r many q n pr = R at *
    obtain ⟨x1, x2⟩ := R
    have n1 := bne_self x1
    have n2 := bne_self x2
    go_wp2_with fail
    generalize w20.alloc (.cells #[.slice qa pr.length qc] 41) = w21 at *
    generalize w20.heap.size = b24 at *
    refine (HCI.out _ (own_rw HO20.out)).mono ?_
    rintro e w22 ⟨rfl, hb⟩
    replace HB20 := Lib.hid (rstep HB20.out hb); replace HO20 := Lib.hid (own_later HO20.out hb); replace k24 := below_later hb k24
    clear hb
    go_wp2_with fail
    refine (HCS.out _ (own_rw HO20.out)).mono ?_
    rintro e w23 ⟨rfl, hb⟩
    replace HB20 := Lib.hid (rstep HB20.out hb)
    clear hb k24 HO20 HCI HCS
    go_wp2_with fail
    refine (draw_split w23 ma mc a1 hl1 hm1 (HR1.out.below HB20.out).rb).mono ?_
    rintro e w24 ⟨d, rfl, hd, hb⟩
    replace HB20 := Lib.hid (rstep HB20.out hb); clear hb
    have HSI := Lib.hid (fun wx => impl_splitAt (d : Int) wx)
    have HSS := Lib.hid (fun wx => spec_splitAt (d : Int) wx)
    cases hin : inB (d : Int) 2 40 with
    | false =>
      have hS : SplitAtR (d : Int) = (0, false) := by unfold SplitAtR; rw [hin]; rfl
      rw [hS] at HSI HSS
      clear hS hin
      go_wp2_with fail
      refine (HSI.out _).mono ?_
      rintro e w' ⟨rfl, rfl⟩
      go_wp2_with fail
      refine (HSS.out _).mono ?_
      rintro e w' ⟨rfl, rfl⟩
      go_wp2_with fail
      go_ret
      exact ⟨rfl, HB20.out⟩
    | true =>
      have hS : SplitAtR (d : Int) = (((splitN d : Nat) : Int), true) := by unfold SplitAtR; rw [hin]; simp
      rw [hS] at HSI HSS
      have hd2 := inB_of hin
      have hsp := split_law d (by omega)
      clear hS hin
      generalize splitN d = s at *
      have n3 := bneI_self (s : Int)
      have e1 : decide (s < d) = true := decide_eq_true hsp.1
      have e2 : decide ((s : Int) < (d : Int)) = true := decide_eq_true (by omega)
      have e3 : IntKind.i64.wrap (2 * (s : Int)) = 2 * (s : Int) := IntWalk.i64_in _ (by omega)
      have e4 : decide (2 * (s : Int) ≥ (d : Int)) = true := decide_eq_true (by omega)
      have e5 : decide ((d : Int) ≤ 2 * (s : Int)) = true := decide_eq_true (by omega)
      clear hsp
      go_wp2_with fail
      refine (HSI.out _).mono ?_
      rintro e w' ⟨rfl, rfl⟩
      go_wp2_with fail
      refine (HSS.out _).mono ?_
      rintro e w' ⟨rfl, rfl⟩
      go_wp2_with fail
      go_ret
      exact ⟨rfl, HB20.out⟩
  | true =>
    obtain ⟨hlg, ho1, ho2, hp⟩ := HOK.out rfl
    obtain ⟨ag, hag⟩ : ∃ g, aa = some ⟨g, 0, none⟩ := by
      obtain ⟨g, c', hv, _⟩ := HO1.out.form (by omega)
      simp only [Value.slice.injEq] at hv
      exact ⟨g, hv.1⟩
    subst hag
    have htl : (ss.take old).length = old := by rw [List.length_take]; omega
    have hst : strs (ss.take old) = (strs ss).take old := by simp [strs, List.map_take]
    have HRT := Lib.hid (impl_rootOf (some ⟨ag, 0, none⟩) ac (ss.take old) w6 (by rw [hst]; exact (own_rw HO1.out).take old) (by omega) hqc.2 (by omega) (fun s hs => hsz s (List.mem_of_mem_take hs)))
    have HRI := Lib.hid (fun wx hr => impl_rootOf (some ⟨ag, 0, none⟩) ac ss wx hr hqc.1 hqc.2 (by omega) hsz)
    have hR1 : RootOfR (ss.take old) = (rootL (ss.take old), true) := by unfold RootOfR; rw [if_pos (logB_take hlg old)]
    have hR2 : RootOfR ss = (rootL ss, true) := by unfold RootOfR; rw [if_pos hlg]
    rw [hR1, htl] at HRT
    rw [hR2] at HRI
    have HCG := Lib.hid (fun (o : Int) (ho : inR o) => checkGrew_law ss old o hlg ho1 ho2 ho)
    rw [← hp] at HCG
    have hfr := rootL_bd (ss.take old)
    clear htl hst hR1 hR2 hp HOK HPI HPS
    generalize rootL (ss.take old) = first at *
    generalize rootL ss = root at *
    have hb0 : (0 : Int) ≤ (old : Int) := by omega
    have hb1 : (old : Int) ≤ (ac : Int) := by omega
    go_wp2_with fail
    refine HRT.out.mono ?_
    rintro e w' ⟨rfl, q, rfl⟩
    have hbq : Below w6.heap.size w6 (w6.drewN q) := below_drewN (Below.refl _ _) _
    replace HB1 := Lib.hid (rstep HB1.out hbq); replace HO1 := Lib.hid (own_later HO1.out hbq); replace HO2 := Lib.hid (own_later HO2.out hbq); replace k7 := below_later hbq k7
    clear hbq HRT
    generalize w6.drewN q = w7 at *
    go_wp2_with fail
    refine (HRI.out _ (own_rw HO1.out)).mono ?_
    rintro e w' ⟨rfl, q, rfl⟩
    have hbq : Below w7.heap.size w7 (w7.drewN q) := below_drewN (Below.refl _ _) _
    replace HB1 := Lib.hid (rstep HB1.out hbq); replace HO2 := Lib.hid (own_later HO2.out hbq); replace k7 := below_later hbq k7
    clear hbq HRI HO1
    generalize w7.drewN q = w8 at *
    have HIC := Lib.hid (fun (o : Int) (wx : World) (hr : Rw wx a2 (ints p)) => impl_checkGrew o (old : Int) root (ss.length : Int) a2 c2 p wx hr (by omega) hc2.1 hc2.2)
    have HT := Lib.hid (HIC.out first w8 (own_rw HO2.out))
    rw [HCG.out first hfr, decide_eq_true (rfl : first = first)] at HT
    go_wp2_with fail
    refine HT.out.mono ?_
    rintro e w9 ⟨rfl, hb9⟩
    replace HB1 := Lib.hid (rstep HB1.out hb9); replace HO2 := Lib.hid (own_later HO2.out hb9); replace k7 := below_later hb9 k7
    clear hb9 HT
    go_wp2_with fail
    refine (number_of ma mc a1 w9 (HR1.out.below HB1.out) (by omega)).mono ?_
    rintro e w' ⟨o, rfl, hn0, hn1, rfl⟩
    by_cases hoe : o = first
    · subst hoe
      have n5 := bneI_self o
      clear HIC HCG
      go_wp2_with fail
      refine (draw_checkGrew w9 ma mc a1 hl1 hm1 (HR1.out.below HB1.out).rb).mono ?_
      rintro e w20 ⟨r, many, q, n, v, pr, rfl, ho, hpl, hb⟩
      have HB20 := Lib.hid (rstep HB1.out hb)
      obtain ⟨qa, qc, rfl⟩ := form_of_own ho
      have hqc := own_capsP ho
      have hba : Below w20.heap.size w20 (w20.alloc (.cells #[.slice qa pr.length qc] 41)) := (Below.refl _ _).alloc (Nat.le_refl _) _
      have HO20 := Lib.hid (own_later ho hba)
      have k24 : (w20.alloc (.cells #[.slice qa pr.length qc] 41)).cell? ⟨w20.heap.size, 0, none⟩ = some (.slice qa pr.length qc) := by rw [World.cell?_alloc_new]; rfl
      replace HB20 := Lib.hid (rstep HB20.out hba)
      clear ho hb hba
      have HCI := Lib.hid (fun wx hr => impl_checkGrew r many q n qa qc pr wx hr (by omega) hqc.1 hqc.2)
      have HCS := Lib.hid (fun wx hr => spec_checkGrew r many q n qa qc pr wx hr (by omega) hqc.1 hqc.2)
      clear hqc
      generalize CheckGrewR r many q n pr = R at *
      obtain ⟨x1, x2⟩ := R
      have n1 := bne_self x1
      have n2 := bne_self x2
      go_wp2_with fail
      generalize w20.alloc (.cells #[.slice qa pr.length qc] 41) = w21 at *
      generalize w20.heap.size = b24 at *
      refine (HCI.out _ (own_rw HO20.out)).mono ?_
      rintro e w22 ⟨rfl, hb⟩
      replace HB20 := Lib.hid (rstep HB20.out hb); replace HO20 := Lib.hid (own_later HO20.out hb); replace k24 := below_later hb k24
      clear hb
      go_wp2_with fail
      refine (HCS.out _ (own_rw HO20.out)).mono ?_
      rintro e w23 ⟨rfl, hb⟩
      replace HB20 := Lib.hid (rstep HB20.out hb)
      clear hb k24 HO20 HCI HCS
      go_wp2_with fail
      refine (draw_split w23 ma mc a1 hl1 hm1 (HR1.out.below HB20.out).rb).mono ?_
      rintro e w24 ⟨d, rfl, hd, hb⟩
      replace HB20 := Lib.hid (rstep HB20.out hb); clear hb
      have HSI := Lib.hid (fun wx => impl_splitAt (d : Int) wx)
      have HSS := Lib.hid (fun wx => spec_splitAt (d : Int) wx)
      cases hin : inB (d : Int) 2 40 with
      | false =>
        have hS : SplitAtR (d : Int) = (0, false) := by unfold SplitAtR; rw [hin]; rfl
        rw [hS] at HSI HSS
        clear hS hin
        go_wp2_with fail
        refine (HSI.out _).mono ?_
        rintro e w' ⟨rfl, rfl⟩
        go_wp2_with fail
        refine (HSS.out _).mono ?_
        rintro e w' ⟨rfl, rfl⟩
        go_wp2_with fail
        go_ret
        exact ⟨rfl, HB20.out⟩
      | true =>
        have hS : SplitAtR (d : Int) = (((splitN d : Nat) : Int), true) := by unfold SplitAtR; rw [hin]; simp
        rw [hS] at HSI HSS
        have hd2 := inB_of hin
        have hsp := split_law d (by omega)
        clear hS hin
        generalize splitN d = s at *
        have n3 := bneI_self (s : Int)
        have e1 : decide (s < d) = true := decide_eq_true hsp.1
        have e2 : decide ((s : Int) < (d : Int)) = true := decide_eq_true (by omega)
        have e3 : IntKind.i64.wrap (2 * (s : Int)) = 2 * (s : Int) := IntWalk.i64_in _ (by omega)
        have e4 : decide (2 * (s : Int) ≥ (d : Int)) = true := decide_eq_true (by omega)
        have e5 : decide ((d : Int) ≤ 2 * (s : Int)) = true := decide_eq_true (by omega)
        clear hsp
        go_wp2_with fail
        refine (HSI.out _).mono ?_
        rintro e w' ⟨rfl, rfl⟩
        go_wp2_with fail
        refine (HSS.out _).mono ?_
        rintro e w' ⟨rfl, rfl⟩
        go_wp2_with fail
        go_ret
        exact ⟨rfl, HB20.out⟩
    · have n5 : (o != first) = true := by simpa using hoe
      have HT := Lib.hid (HIC.out o w9 (own_rw HO2.out))
      rw [HCG.out o ⟨hn0, hn1⟩, decide_eq_false hoe] at HT
      clear HIC HCG hoe
      go_wp2_with fail
      refine HT.out.mono ?_
      rintro e w10 ⟨rfl, hb9⟩
      replace HB1 := Lib.hid (rstep HB1.out hb9)
      clear hb9 HT HO2 k7
      go_wp2_with fail
      refine (draw_checkGrew w10 ma mc a1 hl1 hm1 (HR1.out.below HB1.out).rb).mono ?_
      rintro e w20 ⟨r, many, q, n, v, pr, rfl, ho, hpl, hb⟩
      have HB20 := Lib.hid (rstep HB1.out hb)
      obtain ⟨qa, qc, rfl⟩ := form_of_own ho
      have hqc := own_capsP ho
      have hba : Below w20.heap.size w20 (w20.alloc (.cells #[.slice qa pr.length qc] 41)) := (Below.refl _ _).alloc (Nat.le_refl _) _
      have HO20 := Lib.hid (own_later ho hba)
      have k24 : (w20.alloc (.cells #[.slice qa pr.length qc] 41)).cell? ⟨w20.heap.size, 0, none⟩ = some (.slice qa pr.length qc) := by rw [World.cell?_alloc_new]; rfl
      replace HB20 := Lib.hid (rstep HB20.out hba)
      clear ho hb hba
      have HCI := Lib.hid (fun wx hr => impl_checkGrew r many q n qa qc pr wx hr (by omega) hqc.1 hqc.2)
      have HCS := Lib.hid (fun wx hr => spec_checkGrew r many q n qa qc pr wx hr (by omega) hqc.1 hqc.2)
      clear hqc
      generalize CheckGrewR r many q n pr = R at *
      obtain ⟨x1, x2⟩ := R
      have n1 := bne_self x1
      have n2 := bne_self x2
      go_wp2_with fail
      generalize w20.alloc (.cells #[.slice qa pr.length qc] 41) = w21 at *
      generalize w20.heap.size = b24 at *
      refine (HCI.out _ (own_rw HO20.out)).mono ?_
      rintro e w22 ⟨rfl, hb⟩
      replace HB20 := Lib.hid (rstep HB20.out hb); replace HO20 := Lib.hid (own_later HO20.out hb); replace k24 := below_later hb k24
      clear hb
      go_wp2_with fail
      refine (HCS.out _ (own_rw HO20.out)).mono ?_
      rintro e w23 ⟨rfl, hb⟩
      replace HB20 := Lib.hid (rstep HB20.out hb)
      clear hb k24 HO20 HCI HCS
      go_wp2_with fail
      refine (draw_split w23 ma mc a1 hl1 hm1 (HR1.out.below HB20.out).rb).mono ?_
      rintro e w24 ⟨d, rfl, hd, hb⟩
      replace HB20 := Lib.hid (rstep HB20.out hb); clear hb
      have HSI := Lib.hid (fun wx => impl_splitAt (d : Int) wx)
      have HSS := Lib.hid (fun wx => spec_splitAt (d : Int) wx)
      cases hin : inB (d : Int) 2 40 with
      | false =>
        have hS : SplitAtR (d : Int) = (0, false) := by unfold SplitAtR; rw [hin]; rfl
        rw [hS] at HSI HSS
        clear hS hin
        go_wp2_with fail
        refine (HSI.out _).mono ?_
        rintro e w' ⟨rfl, rfl⟩
        go_wp2_with fail
        refine (HSS.out _).mono ?_
        rintro e w' ⟨rfl, rfl⟩
        go_wp2_with fail
        go_ret
        exact ⟨rfl, HB20.out⟩
      | true =>
        have hS : SplitAtR (d : Int) = (((splitN d : Nat) : Int), true) := by unfold SplitAtR; rw [hin]; simp
        rw [hS] at HSI HSS
        have hd2 := inB_of hin
        have hsp := split_law d (by omega)
        clear hS hin
        generalize splitN d = s at *
        have n3 := bneI_self (s : Int)
        have e1 : decide (s < d) = true := decide_eq_true hsp.1
        have e2 : decide ((s : Int) < (d : Int)) = true := decide_eq_true (by omega)
        have e3 : IntKind.i64.wrap (2 * (s : Int)) = 2 * (s : Int) := IntWalk.i64_in _ (by omega)
        have e4 : decide (2 * (s : Int) ≥ (d : Int)) = true := decide_eq_true (by omega)
        have e5 : decide ((d : Int) ≤ 2 * (s : Int)) = true := decide_eq_true (by omega)
        clear hsp
        go_wp2_with fail
        refine (HSI.out _).mono ?_
        rintro e w' ⟨rfl, rfl⟩
        go_wp2_with fail
        refine (HSS.out _).mono ?_
        rintro e w' ⟨rfl, rfl⟩
        go_wp2_with fail
        go_ret
        exact ⟨rfl, HB20.out⟩

end Go.Proofs.Ytdhkagabkhepgaa.fnGrew
