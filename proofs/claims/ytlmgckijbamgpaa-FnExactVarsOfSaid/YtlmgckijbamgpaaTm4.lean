/- A term read out of cells: the reference's walk, one step. -/
import Derived.Test.YtlmgckijbamgpaaTm3
namespace Go.Proofs.Ytlmgckijbamgpaa
set_option linter.unusedVariables false
open Go.ChangeShapes Go.WideShapes Go.ChangeAt Go.RowKit
set_option maxRecDepth 100000

theorem Try.infoL6 : (Try.prog.info? 87).map (fun i => (i.zero, i.size, i.bytes)) = some (some (.agg #[.int .i64 0, .string ByteArray.empty, .slice none 0 0]), 3, 48) := by kernel_rfl
theorem pT_step {f : Nat} {L : List Cel} {k : Nat} {c : Cel} (h : L[k]? = some c) : pT (f + 1) (L.drop k) = if c.1 = 0 then (if (nm4 c.2.1 && inR c.2.2 0 5) = true then pK (pT f) c.2.2.toNat (L.drop (k + 1)) else none) else (if (inR c.1 1 6 && (c.2.1.toList.isEmpty && (c.2.2 == 0))) = true then some ([c.1], L.drop (k + 1)) else none) := by
  rw [drop_cel h, pT, isEm]
  rfl
theorem pK_next {g : List Cel → Option (List Int × List Cel)} {k : Nat} {l r : List Cel} {vs : List Int} (h : g l = some (vs, r)) : pK g (k + 1) l = match pK g k r with | none => none | some (us, r2) => some (vs ++ us, r2) := by
  rw [pK, h]
  dsimp only
  cases pK g k r <;> rfl
theorem pK_stop {g : List Cel → Option (List Int × List Cel)} {k : Nat} {l : List Cel} (h : g l = none) : pK g (k + 1) l = none := by rw [pK, h]
def preV (us : List Int) (R : Option (List Int × List Cel)) : Option (List Int × List Cel) := match R with | none => none | some (vs, r) => some (us ++ vs, r)
theorem preV_nil (R : Option (List Int × List Cel)) : preV [] R = R := by cases R <;> rfl
theorem preV_next (us vs : List Int) (R : Option (List Int × List Cel)) : preV us (match R with | none => none | some (ws, r2) => some (vs ++ ws, r2)) = preV (us ++ vs) R := by
  cases R with
  | none => rfl
  | some p => obtain ⟨ws, r2⟩ := p; simp [preV]
def kCs (ks : List (List Value × List Int)) : List Value := (ks.map (·.1)).flatten
def kVs (ks : List (List Value × List Int)) : List Int := (ks.map (·.2)).flatten
theorem kCs_put (ks : List (List Value × List Int)) (x : List Value × List Int) : kCs (ks ++ [x]) = kCs ks ++ x.1 := by simp [kCs]
theorem kVs_put (ks : List (List Value × List Int)) (x : List Value × List Int) : kVs (ks ++ [x]) = kVs ks ++ x.2 := by simp [kVs]

set_option maxHeartbeats 4000000 in
theorem spec_read_var (B : Nat) (a : Option Addr) (cap : Nat) (L : List Cel) (f k : Nat) (c : Cel) (w : World) (hc : L.length ≤ cap) (hcm : cap ≤ 9223372036854775807) (hrow : CRow B w a L) (hB : B ≤ w.heap.size) (hk : L[k]? = some c) (hl : L.length ≤ 1048576) (hv : c.1 ≠ 0) :
    Calls Try.prog 113 #[.slice a L.length cap, .int .i64 (k : Int)] w (ReadOf L (pT (f + 1) (L.drop k)) (f + 1) w) := by
  have hkl : k < L.length := (List.getElem?_eq_some_iff.1 hk).1
  have HP := Lib.hid (pT_step (f := f) hk)
  rw [if_neg hv] at HP
  generalize pT (f + 1) (L.drop k) = R at *
  have HX0 := Lib.hid (heap_alloc_new w (.cells #[.int .i64 0, .string { data := #[] }, .slice none 0 0] 87))
  have HB0 := Lib.hid ((Below.refl w.heap.size w).alloc (Nat.le_refl _) (.cells #[.int .i64 0, .string { data := #[] }, .slice none 0 0] 87))
  generalize hw0 : w.alloc (.cells #[.int .i64 0, .string { data := #[] }, .slice none 0 0] 87) = w0 at *
  obtain ⟨b, off, rfl, hbl, c0, c1, c2⟩ := (hrow.below (HB0.out.mono hB)) k c hk
  have hb0 : b < w0.heap.size := by have := HB0.out.size; omega
  obtain ⟨vr, nm, mn⟩ := c
  simp only at c0 c1 c2 HP hv
  have HIN := Lib.hid (fun wx => spec_in vr 1 6 wx)
  have k0 : (vr == 0) = false := beq_eq_false_iff_ne.2 hv
  have HHX := heap_alloc_new w0 (.cells #[.int .i64 vr, .string nm, .int .i64 mn] 145)
  have HX1 := Lib.hid (hp_alloc (.cells #[.int .i64 vr, .string nm, .int .i64 mn] 145) HX0.out)
  have HB1 := Lib.hid (HB0.out.alloc (Nat.le_of_lt (hp_lt HX0.out)) (.cells #[.int .i64 vr, .string nm, .int .i64 mn] 145))
  generalize hw1 : w0.alloc (.cells #[.int .i64 vr, .string nm, .int .i64 mn] 145) = w1 at *
  obtain ⟨⟨d0, d1, d2⟩, -⟩ := box3 HHX
  clear hrow hk HHX hv HX0
  have HDR : Hid ((L.length : Int) - ((L.drop (k + 1)).length : Int) = (k : Int) + 1) := Lib.hid (by rw [List.length_drop]; omega)
  generalize L.drop (k + 1) = rest at *
  generalize hbe : nm.toList.isEmpty = be at *
  generalize hbm : (mn == 0) = bm at *
  unfold ReadOf
  cases hbi : inR vr 1 6 with
  | false =>
    rw [hbi] at HP HIN
    have hr := HP.out
    simp only [Bool.false_and, Bool.and_false, Bool.true_and, Bool.false_eq_true, if_false] at hr
    have HNO := Lib.hid hr
    clear hr HP
    have HBC := Lib.hid (below_set (below_set (below_set HB1.out (Nat.le_refl _) 0 (.int .i64 0)) (Nat.le_refl _) 1 (.string { data := #[] })) (Nat.le_refl _) 2 (.slice none 0 0))
    obtain ⟨⟨sa0, -, -⟩, sf0, -, -⟩ := box3 HX1.out
    have HSA := Lib.hid (box3_s0 HX1.out (.int .i64 0))
    generalize hsA : (w1).setCell ⟨w.heap.size, 0, none⟩ (.int .i64 0) = wsA at *
    obtain ⟨⟨-, sa1, -⟩, -, sf1, -⟩ := box3 HSA.out
    have HSB := Lib.hid (box3_s1 HSA.out (.string { data := #[] }))
    generalize hsB : wsA.setCell ⟨w.heap.size, 1, none⟩ (.string { data := #[] }) = wsB at *
    obtain ⟨⟨-, -, sa2⟩, -, -, sf2⟩ := box3 HSB.out
    have HSC := Lib.hid (box3_s2 HSB.out (.slice none 0 0))
    generalize hsC : wsB.setCell ⟨w.heap.size, 2, none⟩ (.slice none 0 0) = wsC at *
    obtain ⟨⟨sg0, sg1, sg2⟩, -⟩ := box3 HSC.out
    go_enter Try.func113, Try.ntmps113
    go_wp2_with fail
    refine (HIN.out _).mono ?_
    rintro e w' ⟨rfl, rfl⟩
    go_wp2_with fail
    refine bodyPost_ret (v := .tuple #[.agg #[.int .i64 0, .string { data := #[] }, .slice none 0 0], .int .i64 0]) (by simp [results, Try.results113, go_sem, sg0, sg1, sg2]) rfl ?_
    exact ⟨_, _, _, _, _, _, rfl, HBC.out, fun _ => rfl, fun vs r h => by rw [HNO.out] at h; cases h⟩
  | true =>
  have hr6 := inR_iff2.1 hbi
  rw [hbi] at HP HIN
  cases be with
  | false =>
    have hr := HP.out
    simp only [Bool.false_and, Bool.and_false, Bool.true_and, Bool.false_eq_true, if_false] at hr
    have HNO := Lib.hid hr
    clear hr HP
    have HBC := Lib.hid (below_set (below_set (below_set HB1.out (Nat.le_refl _) 0 (.int .i64 0)) (Nat.le_refl _) 1 (.string { data := #[] })) (Nat.le_refl _) 2 (.slice none 0 0))
    obtain ⟨⟨sa0, -, -⟩, sf0, -, -⟩ := box3 HX1.out
    have HSA := Lib.hid (box3_s0 HX1.out (.int .i64 0))
    generalize hsA : (w1).setCell ⟨w.heap.size, 0, none⟩ (.int .i64 0) = wsA at *
    obtain ⟨⟨-, sa1, -⟩, -, sf1, -⟩ := box3 HSA.out
    have HSB := Lib.hid (box3_s1 HSA.out (.string { data := #[] }))
    generalize hsB : wsA.setCell ⟨w.heap.size, 1, none⟩ (.string { data := #[] }) = wsB at *
    obtain ⟨⟨-, -, sa2⟩, -, -, sf2⟩ := box3 HSB.out
    have HSC := Lib.hid (box3_s2 HSB.out (.slice none 0 0))
    generalize hsC : wsB.setCell ⟨w.heap.size, 2, none⟩ (.slice none 0 0) = wsC at *
    obtain ⟨⟨sg0, sg1, sg2⟩, -⟩ := box3 HSC.out
    go_enter Try.func113, Try.ntmps113
    go_wp2_with fail
    refine (HIN.out _).mono ?_
    rintro e w' ⟨rfl, rfl⟩
    go_wp2_with fail
    refine bodyPost_ret (v := .tuple #[.agg #[.int .i64 0, .string { data := #[] }, .slice none 0 0], .int .i64 0]) (by simp [results, Try.results113, go_sem, sg0, sg1, sg2]) rfl ?_
    exact ⟨_, _, _, _, _, _, rfl, HBC.out, fun _ => rfl, fun vs r h => by rw [HNO.out] at h; cases h⟩
  | true =>
  cases bm with
  | false =>
    have hr := HP.out
    simp only [Bool.false_and, Bool.and_false, Bool.true_and, Bool.false_eq_true, if_false] at hr
    have HNO := Lib.hid hr
    clear hr HP
    have HBC := Lib.hid (below_set (below_set (below_set HB1.out (Nat.le_refl _) 0 (.int .i64 0)) (Nat.le_refl _) 1 (.string { data := #[] })) (Nat.le_refl _) 2 (.slice none 0 0))
    obtain ⟨⟨sa0, -, -⟩, sf0, -, -⟩ := box3 HX1.out
    have HSA := Lib.hid (box3_s0 HX1.out (.int .i64 0))
    generalize hsA : (w1).setCell ⟨w.heap.size, 0, none⟩ (.int .i64 0) = wsA at *
    obtain ⟨⟨-, sa1, -⟩, -, sf1, -⟩ := box3 HSA.out
    have HSB := Lib.hid (box3_s1 HSA.out (.string { data := #[] }))
    generalize hsB : wsA.setCell ⟨w.heap.size, 1, none⟩ (.string { data := #[] }) = wsB at *
    obtain ⟨⟨-, -, sa2⟩, -, -, sf2⟩ := box3 HSB.out
    have HSC := Lib.hid (box3_s2 HSB.out (.slice none 0 0))
    generalize hsC : wsB.setCell ⟨w.heap.size, 2, none⟩ (.slice none 0 0) = wsC at *
    obtain ⟨⟨sg0, sg1, sg2⟩, -⟩ := box3 HSC.out
    go_enter Try.func113, Try.ntmps113
    go_wp2_with fail
    refine (HIN.out _).mono ?_
    rintro e w' ⟨rfl, rfl⟩
    go_wp2_with fail
    refine bodyPost_ret (v := .tuple #[.agg #[.int .i64 0, .string { data := #[] }, .slice none 0 0], .int .i64 0]) (by simp [results, Try.results113, go_sem, sg0, sg1, sg2]) rfl ?_
    exact ⟨_, _, _, _, _, _, rfl, HBC.out, fun _ => rfl, fun vs r h => by rw [HNO.out] at h; cases h⟩
  | true =>
    have HYES : Hid (R = some ([vr], rest)) := Lib.hid (by rw [HP.out]; rfl)
    clear HP
    have HBC := Lib.hid (below_set (below_set (below_set HB1.out (Nat.le_refl _) 0 (.int .i64 vr)) (Nat.le_refl _) 1 (.string { data := #[] })) (Nat.le_refl _) 2 (.slice none 0 0))
    obtain ⟨⟨sa0, -, -⟩, sf0, -, -⟩ := box3 HX1.out
    have HSA := Lib.hid (box3_s0 HX1.out (.int .i64 vr))
    generalize hsA : (w1).setCell ⟨w.heap.size, 0, none⟩ (.int .i64 vr) = wsA at *
    obtain ⟨⟨-, sa1, -⟩, -, sf1, -⟩ := box3 HSA.out
    have HSB := Lib.hid (box3_s1 HSA.out (.string { data := #[] }))
    generalize hsB : wsA.setCell ⟨w.heap.size, 1, none⟩ (.string { data := #[] }) = wsB at *
    obtain ⟨⟨-, -, sa2⟩, -, -, sf2⟩ := box3 HSB.out
    have HSC := Lib.hid (box3_s2 HSB.out (.slice none 0 0))
    generalize hsC : wsB.setCell ⟨w.heap.size, 2, none⟩ (.slice none 0 0) = wsC at *
    obtain ⟨⟨sg0, sg1, sg2⟩, -⟩ := box3 HSC.out
    go_enter Try.func113, Try.ntmps113
    go_wp2_with fail
    refine (HIN.out _).mono ?_
    rintro e w' ⟨rfl, rfl⟩
    go_wp2_with fail
    refine bodyPost_ret (v := .tuple #[.agg #[.int .i64 vr, .string { data := #[] }, .slice none 0 0], .int .i64 ((k : Int) + 1)]) (by simp [results, Try.results113, go_sem, sg0, sg1, sg2]) rfl ?_
    refine ⟨_, _, _, _, _, _, rfl, HBC.out, (fun h => by rw [HYES.out] at h; cases h), fun vs r h => ?_⟩
    rw [HYES.out] at h
    simp only [Option.some.injEq, Prod.mk.injEq] at h
    obtain ⟨rfl, rfl⟩ := h
    exact ⟨HDR.out.symm, ⟨_, _, _, _, _, rfl, Nat.le_refl _, by decide, .inl ⟨hr6.1, hr6.2, rfl⟩⟩⟩
end Go.Proofs.Ytlmgckijbamgpaa
