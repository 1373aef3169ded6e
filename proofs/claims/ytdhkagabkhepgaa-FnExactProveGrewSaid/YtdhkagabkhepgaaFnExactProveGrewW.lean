/- The walk of FnExactProveGrew: whatever the arguments, the call returns true and writes nothing that was there. -/
import Derived.Test.YtdhkagabkhepgaaArgs
import Derived.Deep.RegionHeld3
import Derived.Test.YtdhkagabkhepgaaProveG
import Derived.Test.YtdhkagabkhepgaaProofH
import Derived.Test.YtdhkagabkhepgaaMarkText
namespace Go.Proofs.Ytdhkagabkhepgaa.fnExactProveGrew
open Go.ChangeShapes Go.WideShapes Go.ChangeAt Go.RowKit
open Go.ChangeMaps (open_string shut_string)
set_option linter.unusedVariables false

set_option maxHeartbeats 1000000 in
set_option maxRecDepth 100000 in
theorem walk (w : World) (v0 : Value) (a0 : List ByteArray) (w0 : IsStrs w v0 a0) (a1 : Int) (w1 : (Lit.int .i64 a1).wf = true) :
    Calls Try.prog 10 #[v0, .int .i64 a1] w fun e w' => e = .returned (.bool true) ∧ Below w.heap.size w w' := by
  obtain ⟨a, cap, rfl, hrow, hc1, hc2, hsz⟩ := w0
  have hn63 : a0.length ≤ maxLen := Nat.le_trans hc1 hc2
  have hz := sz_strs a cap a0 1048576 w hrow hn63 hsz (by omega) (by omega)
  unfold maxLen at hc2 hsz
  by_cases hneg : szStrs 1048576 a0 < 0
  · have HZ := Lib.hid hz
    clear hz hrow hsz hn63
    go_enter Try.func10, Try.ntmps10
    go_wp2_with fail
    refine HZ.out.mono ?_
    rintro e w' ⟨rfl, rfl⟩
    go_wp2_with fail
    go_ret
    exact ⟨rfl, Below.refl _ _⟩
  have hk := szStrs_ok (by omega) (show 0 ≤ szStrs 1048576 a0 by omega)
  have hn : a0.length ≤ 1048576 := by omega
  have hpos : 0 ≤ szStrs 1048576 a0 := by omega
  have hpl : (ProveGrewR a0 a1).1.length ≤ 1048576 := by
    unfold ProveGrewR
    by_cases h : (logB a0 && inB a1 1 (a0.length : Int)) = true
    · rw [if_pos h]; exact Nat.le_trans (pgrL_len _ _ _ _) hn
    · rw [if_neg h]; simp
  have HZ := Lib.hid hz
  have HSZ := Lib.hid hsz
  have HR := Lib.hid hrow
  have HPL := Lib.hid hpl
  have HI := Lib.hid (fun (a : Option Addr) (cap : Nat) (w : World) (hrow : Rw w a (strs a0)) (hc1 : a0.length ≤ cap) (hc2 : cap ≤ 9223372036854775807) => impl_ProveGrew a cap a0 a1 w hrow hc1 hc2 hn hsz)
  have HS := Lib.hid (fun (a : Option Addr) (cap : Nat) (w : World) (hrow : Rw w a (strs a0)) (hc1 : a0.length ≤ cap) (hc2 : cap ≤ 9223372036854775807) => spec_ProveGrew a cap a0 a1 w hrow hc1 hc2 hn hsz)
  clear hz hrow hsz hn63 hk hneg hpl
  generalize ProveGrewR a0 a1 = R at *
  obtain ⟨xs, ok⟩ := R
  go_enter Try.func10, Try.ntmps10
  go_wp2_with fail
  refine HZ.out.mono ?_
  rintro e w' ⟨rfl, rfl⟩
  go_wp2_with fail
  refine (to_strs a cap a0 _ HR.out hn).mono ?_
  rintro e w1 ⟨rfl, ho1, hb1⟩
  have HO1 := Lib.hid ho1; have HB1 := Lib.hid hb1; clear ho1 hb1
  go_wp2_with fail
  refine (HS.out _ _ _ (own_rw HO1.out) (Nat.le_refl _) (by omega)).mono ?_
  rintro e w2 ⟨v2, rfl, ho2, hb2⟩
  obtain ⟨a2, c2, rfl⟩ := form_of_own ho2
  go_wp2_with fail
  -- what the reference made lies below W2's end, and stays
  have HW := Lib.hid (((HB1.out.trans (hb2.mono HB1.out.size)).alloc (Nat.le_trans HB1.out.size hb2.size) (.cells #[.slice a2 xs.length c2] 41)))
  have HO2 := Lib.hid (ho2.alloc (.cells #[.slice a2 xs.length c2] 41))
  have hG6 : (w2.alloc (.cells #[.slice a2 xs.length c2] 41)).cell? ⟨w2.heap.size, 0, none⟩ = some (.slice a2 xs.length c2) := by go_simp
  have HG6 := Lib.hid hG6
  clear ho2 hb2 hG6 HB1 HO1
  generalize hW2 : (w2.alloc (.cells #[.slice a2 xs.length c2] 41)) = W2 at *
  have HE2 := Lib.hid (show w2.heap.size < W2.heap.size by rw [← hW2]; simp)
  clear hW2
  refine (to_strs a cap a0 _ (HR.out.below HW.out) hn).mono ?_
  rintro e w3 ⟨rfl, ho3, hb3⟩
  have R3 := Lib.hid (rstep (Below.refl _ _) hb3); have X3 := Lib.hid ho3; clear ho3 hb3
  go_wp2_with fail
  refine (HI.out _ _ _ (own_rw X3.out) (Nat.le_refl _) (by omega)).mono ?_
  rintro e w4 ⟨v4, rfl, ho4, hb4⟩
  obtain ⟨a4, c4, rfl⟩ := form_of_own ho4
  have hlt4 : W2.heap.size < w3.heap.size := (X3.out.lt W2.heap.size rfl).2
  have h6 : w4.cell? ⟨w2.heap.size, 0, none⟩ = some (.slice a2 xs.length c2) := below_cellk (rstep R3.out hb4) HG6.out HE2.out
  have n6 : w2.heap.size < w4.heap.size := Nat.lt_of_lt_of_le HE2.out (rstep R3.out hb4).size
  have HL4 := Lib.hid hlt4; have HO4 := Lib.hid ho4; have HB4 := Lib.hid hb4
  clear hlt4 ho4 hb4
  go_wp2_with fail
  have hlt4 := HL4.out; have ho4 := HO4.out; have hb4 := HB4.out
  clear HL4 HO4 HB4 h6
  have R4 := Lib.hid (ralloc (rstep R3.out hb4) (.cells #[.slice a4 xs.length c4] 41))
  have X4 := Lib.hid ((own_later X3.out hb4).alloc (.cells #[.slice a4 xs.length c4] 41))
  have O4 := Lib.hid (ho4.alloc (.cells #[.slice a4 xs.length c4] 41))
  have hG9 : (w4.alloc (.cells #[.slice a4 xs.length c4] 41)).cell? ⟨w4.heap.size, 0, none⟩ = some (.slice a4 xs.length c4) := by go_simp
  have HE4 := Lib.hid (And.intro (Nat.lt_of_lt_of_le hlt4 hb4.size) (fun k (hk : (Value.slice a4 xs.length c4).ownBlock = some k) => And.intro (Nat.lt_of_lt_of_le hlt4 (ho4.lt k hk).1) (ho4.lt k hk).2))
  clear ho4 hb4 X3 R3
  generalize hW4 : (w4.alloc (.cells #[.slice a4 xs.length c4] 41)) = W4 at *
  clear hW4 hlt4
  refine (eq_proof _ _ _ _ xs _ (own_rw O4.out) (own_rw (own_below HO2.out R4.out (fun k hk => (HO2.out.lt k hk).2))) HPL.out).mono ?_
  rintro e w5 ⟨rfl, hb5⟩
  have R5 := Lib.hid (rstep R4.out hb5); have X5 := Lib.hid (own_later X4.out hb5); have O5 := Lib.hid (own_later O4.out hb5)
  have g5 : w5.cell? ⟨w4.heap.size, 0, none⟩ = some (.slice a4 xs.length c4) := below_later hb5 hG9
  clear hb5 R4 X4 O4 hG9
  have G5 := Lib.hid g5; clear g5
  go_wp2_with fail
  refine (to_strs a cap a0 _ (HR.out.below (HW.out.trans (R5.out.mono HW.out.size))) hn).mono ?_
  rintro e w6 ⟨rfl, ho6, hb6⟩
  have R6 := Lib.hid (rstep R5.out hb6); have X6 := Lib.hid (own_later X5.out hb6); have O6 := Lib.hid (own_later O5.out hb6)
  have G6 := Lib.hid (below_later hb6 G5.out); have C6 := Lib.hid ho6
  clear hb6 ho6 R5 X5 O5 G5
  go_wp2_with fail
  refine (eq_strs _ _ _ _ a0 _ (own_rw X6.out) (own_rw C6.out) hn).mono ?_
  rintro e w' ⟨rfl, n6, rfl⟩
  have R7 := Lib.hid (rdrew R6.out n6)
  clear R6 C6
  go_wp2_with fail
  refine (mark_strs _ _ a0 1 _ _ _ rfl (own_later (w := w6) (w' := w6.drewN n6) X6.out (below_drewN (Below.refl _ _) _)) hn (by omega) (by omega)).mono ?_
  rintro e w8 ⟨rfl, _, hw8⟩
  have R8 := Lib.hid (rwrote R7.out hw8 (fun k hk => by simp [Value.ownBlock] at hk; omega))
  have O8 := Lib.hid (hw8.own (own_later (w := w6) (w' := w6.drewN n6) O6.out (below_drewN (Below.refl _ _) _)) (fun k hk hc => by simp [Value.ownBlock] at hc; have := (HE4.out.2 _ hk).1; omega))
  have g8 : w8.cell? ⟨w4.heap.size, 0, none⟩ = some (.slice a4 xs.length c4) := hw8.cell (w := w6.drewN n6) G6.out (fun hc => by simp [Value.ownBlock] at hc; have := HE4.out.1; omega)
  have h8 : w8.cell? ⟨w2.heap.size, 0, none⟩ = some (.slice a2 xs.length c2) := below_cellk R8.out HG6.out HE2.out
  clear hw8 R7 O6 G6 X6
  go_wp2_with fail
  refine (eq_proof _ _ _ _ xs _ (own_rw O8.out) (own_rw (own_below HO2.out R8.out (fun k hk => (HO2.out.lt k hk).2))) HPL.out).mono ?_
  rintro e w9 ⟨rfl, hb9⟩
  have R9 := Lib.hid (rstep R8.out hb9); have O9 := Lib.hid (own_later O8.out hb9)
  have g9 : w9.cell? ⟨w4.heap.size, 0, none⟩ = some (.slice a4 xs.length c4) := below_later hb9 g8
  clear hb9 R8 O8 g8 h8
  go_wp2_with fail
  refine (mark_proof _ _ xs 1 _ _ _ rfl O9.out (Nat.le_trans HPL.out (by omega)) (by omega) (by omega)).mono ?_
  rintro e w10 ⟨rfl, ho10, hw10⟩
  have R10 := Lib.hid (rwrote R9.out hw10 (fun k hk => Nat.le_of_lt (HE4.out.2 k hk).1)); have O10 := Lib.hid ho10
  have g10 : w10.cell? ⟨w4.heap.size, 0, none⟩ = some (.slice a4 xs.length c4) := hw10.cell g9 (fun hc => Nat.lt_irrefl _ (HE4.out.2 _ hc).2)
  clear hw10 ho10 g9 R9 O9
  go_wp2_with fail
  refine (held_proof _ _ xs.length 1 _ (own_rw O10.out) (Nat.le_trans HPL.out (by omega)) (by omega) (by omega)).mono ?_
  rintro e w11 ⟨rfl, hb11⟩
  have R11 := Lib.hid (rstep R10.out hb11); have O11 := Lib.hid (own_later O10.out hb11); have G11 := Lib.hid (below_later hb11 g10)
  clear hb11 R10 O10 g10
  have hneg : ¬ (1 + (xs.length : Int) < 0) := by omega
  go_wp2_with fail
  refine (to_strs a cap a0 _ (HR.out.below (HW.out.trans (R11.out.mono HW.out.size))) hn).mono ?_
  rintro e w12 ⟨rfl, ho12, hb12⟩
  have R12 := Lib.hid (rstep R11.out hb12); have X12 := Lib.hid ho12; have O12 := Lib.hid (own_later O11.out hb12); have G12 := Lib.hid (below_later hb12 G11.out)
  clear hb12 ho12 R11 O11 G11
  go_wp2_with fail
  refine (HI.out _ _ _ (own_rw X12.out) (Nat.le_refl _) (by omega)).mono ?_
  rintro e w13 ⟨v13, rfl, ho13, hb13⟩
  obtain ⟨a13, c13, rfl⟩ := form_of_own ho13
  have h6 : w13.cell? ⟨w2.heap.size, 0, none⟩ = some (.slice a2 xs.length c2) := below_cellk (rstep R12.out hb13) HG6.out HE2.out
  have n13 : w2.heap.size < w13.heap.size := Nat.lt_of_lt_of_le HE2.out (rstep R12.out hb13).size
  have HO13 := Lib.hid ho13; have HB13 := Lib.hid hb13
  clear ho13 hb13
  go_wp2_with fail
  have ho13 := HO13.out; have hb13 := HB13.out
  clear HO13 HB13 h6
  have R13 := Lib.hid (ralloc (rstep R12.out hb13) (.cells #[.slice a13 xs.length c13] 41))
  have O13 := Lib.hid ((own_later O12.out hb13).alloc (.cells #[.slice a13 xs.length c13] 41))
  have N13 := Lib.hid (ho13.alloc (.cells #[.slice a13 xs.length c13] 41))
  have hG14 : (w13.alloc (.cells #[.slice a13 xs.length c13] 41)).cell? ⟨w13.heap.size, 0, none⟩ = some (.slice a13 xs.length c13) := by go_simp
  have G13 := Lib.hid (below_later ((Below.refl _ _).alloc (Nat.le_refl _) (.cells #[.slice a13 xs.length c13] 41)) (below_later hb13 G12.out))
  clear ho13 hb13 R12 O12 G12
  generalize hW13 : (w13.alloc (.cells #[.slice a13 xs.length c13] 41)) = W13 at *
  clear hW13
  refine (eq_proof _ _ _ _ xs _ (own_rw N13.out) (own_rw (own_below HO2.out R13.out (fun k hk => (HO2.out.lt k hk).2))) HPL.out).mono ?_
  rintro e w14 ⟨rfl, hb14⟩
  have R14 := Lib.hid (rstep R13.out hb14); have O14 := Lib.hid (own_later O13.out hb14)
  have g14 : w14.cell? ⟨w4.heap.size, 0, none⟩ = some (.slice a4 xs.length c4) := below_later hb14 G13.out
  clear hb14 R13 O13 G13 hG14
  go_wp2_with fail
  refine (held_proof _ _ xs.length 1 _ (own_rw O14.out) (Nat.le_trans HPL.out (by omega)) (by omega) (by omega)).mono ?_
  rintro e w15 ⟨rfl, hb15⟩
  have R15 := Lib.hid (rstep R14.out hb15)
  clear hb15 g14
  go_wp2_with fail
  go_ret
  exact ⟨rfl, HW.out.trans (R15.out.mono HW.out.size)⟩

end Go.Proofs.Ytdhkagabkhepgaa.fnExactProveGrew
