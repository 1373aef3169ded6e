/- The contracts of the program's and the reference's checks of proofs over logs. -/
import Derived.Test.YtdhkagabkhepgaaLogPlain
import Derived.Test.YtdhkagabkhepgaaInts
import Derived.Lib.SmallJoins
namespace Go.Proofs.Ytdhkagabkhepgaa
set_option linter.unusedVariables false
open Go.ChangeShapes Go.WideShapes Go.ChangeAt Go.RowKit

/-- The block R holds what is left of the sums, and whether some lacked. -/
def Cur (w : World) (R : Nat) (p : List Int) (bad : Bool) : Prop :=
  ∃ (a : Option Addr) (c : Nat), w.heap[R]? = some (.cells #[.slice a p.length c, .bool bad] 74 (0, 0)) ∧ p.length ≤ c ∧ c ≤ 9223372036854775807 ∧ Rb R w a (ints p)

theorem Cur.lt {w : World} {R : Nat} {p : List Int} {bad : Bool} (h : Cur w R p bad) : R < w.heap.size := by
  obtain ⟨a, c, hb, _⟩ := h
  exact (Array.getElem?_eq_some_iff.1 hb).1

set_option maxHeartbeats 400000 in
theorem next_any (R : Nat) (p : List Int) (bad : Bool) (w : World) (h : Cur w R p bad) :
    Calls Try.prog 85 #[.pointer (some ⟨R, 0, none⟩)] w fun e w' => e = .returned (.int .i64 (nextP p bad).1) ∧ Cur w' R (nextP p bad).2.1 (nextP p bad).2.2 ∧ Wrote (fun k => k = R) w w' := by
  obtain ⟨a, c, hb, hl, hcm, hr⟩ := h
  have c0 := Joins.cell_of_block hb 0
  have c1 := Joins.cell_of_block hb 1
  have f0 := Joins.unfrozen_of_block hb 0
  have f1 := Joins.unfrozen_of_block hb 1
  simp at c0 c1
  cases p with
  | nil =>
    have hbl := Joins.block_setCell (i := 1) hb (.bool true)
    have HB := Lib.hid hbl
    have HR := Lib.hid hr
    clear hb hbl hr
    simp at c0
    go_enter Try.func85, Try.ntmps85
    go_wp2_with fail
    go_ret
    refine ⟨rfl, ⟨a, c, HB.out, hl, hcm, HR.out.setCell _ _ _ (Nat.le_refl _)⟩, wrote_cell _ _ _ _⟩
  | cons x r =>
    obtain ⟨b, off, rfl, hbR, hc⟩ := hr.at (ints_ne (k := 0) (by simp))
    have hx := hc 0 _ (ints_at (x :: r) 0 (by simp))
    simp at hx
    rw [List.length_cons] at hl c0
    have hrow := Rb.drop hr 1
    have hr1 : (ints (x :: r)).drop 1 = ints r := rfl
    rw [hr1] at hrow
    by_cases hc1 : c = 1
    · have hr0 : r = [] := List.eq_nil_of_length_eq_zero (by omega)
      subst hr0 hc1
      have hbl2 := Joins.block_setCell (i := 0) hb (.slice (some ⟨b, off, none⟩) 0 0)
      have HB := Lib.hid hbl2
      clear hb hbl2 hr hc hrow hr1
      go_enter Try.func85, Try.ntmps85
      go_wp2_with fail
      go_ret
      refine ⟨rfl, ⟨some ⟨b, off, none⟩, 0, HB.out, by simp [nextP], by omega, .inl rfl⟩, wrote_cell _ _ _ _⟩
    · have hbl2 := Joins.block_setCell (i := 0) hb (.slice (some ⟨b, off + 1, none⟩) r.length (c - 1))
      have HB := Lib.hid hbl2; have HRW := Lib.hid hrow
      clear hb hbl2 hr hc hrow hr1
      have hcc : ¬ c = 1 := hc1
      go_enter Try.func85, Try.ntmps85
      go_wp2_with fail
      go_ret
      refine ⟨rfl, ⟨some ⟨b, off + 1, none⟩, c - 1, HB.out, by simp [nextP]; omega, by omega, HRW.out.setCell _ _ _ (Nat.le_refl _)⟩, wrote_cell _ _ _ _⟩

set_option maxHeartbeats 1000000 in
theorem in_any (m : Nat) : ∀ (n k : Nat) (lf : Int) (R : Nat) (p : List Int) (bad : Bool) (w : World), n ≤ m → 1 ≤ n → k < n → n ≤ 40 → inR lf → allR p → Cur w R p bad →
    Calls Try.prog 67 #[.pointer (some ⟨R, 0, none⟩), .int .i64 (n : Int), .int .i64 (k : Int), .int .i64 lf] w fun e w' => e = .returned (.int .i64 (inF m n k lf p bad).1) ∧ Cur w' R (inF m n k lf p bad).2.1 (inF m n k lf p bad).2.2 ∧ Wrote (fun k => k = R) w w' := by
  induction m with
  | zero => intro n k lf R p bad w h1 h2; omega
  | succ m ih =>
    intro n k lf R p bad w hm h1 hk h40 hlf hp hcur
    by_cases hn : n = 1
    · subst hn
      have hf : inF (m + 1) 1 k lf p bad = (lf, p, bad) := by simp [inF]
      rw [hf]
      have HC := Lib.hid hcur
      clear hcur ih hf
      go_enter Try.func67, Try.ntmps67
      go_wp2_with fail
      go_ret
      exact ⟨rfl, HC.out, Wrote.refl _ _⟩
    have k1 := splitN_pos n
    have k2 := splitN_lt n (by omega)
    have hs := impl_split n w (by omega)
    have hne1 : ((n : Int) == 1) = false := beq_eq_false_iff_ne.2 (by omega)
    by_cases hlt : k < splitN n
    · rw [inF, if_neg hn, if_pos hlt]
      have hb := inF_bd m (splitN n) k lf p bad hlf hp
      have hi := ih (splitN n) k lf R p bad w (by omega) k1 hlt (by omega) hlf hp hcur
      clear ih hcur
      generalize inF m (splitN n) k lf p bad = r at *
      generalize splitN n = q at *
      have hq := nextP_bd (b := r.2.2) hb.2
      have HS := Lib.hid hs; have HI := Lib.hid hi; have HB := Lib.hid hb; have HQ := Lib.hid hq; have HN := Lib.hid hn
      clear hs hi hb hq hn hlf hp
      go_enter Try.func67, Try.ntmps67
      go_wp2_with fail
      refine HS.out.mono ?_
      rintro e w' ⟨rfl, rfl⟩
      go_wp2_with fail
      refine HI.out.mono ?_
      rintro e w1 ⟨rfl, hc1, hw1⟩
      have HC1 := Lib.hid hc1; have HW1 := Lib.hid hw1; clear hc1 hw1
      go_wp2_with fail
      refine (next_any R r.2.1 r.2.2 _ HC1.out).mono ?_
      rintro e w2 ⟨rfl, hc2, hw2⟩
      have HC2 := Lib.hid hc2; have HW2 := Lib.hid hw2; clear hc2 hw2
      go_wp2_with fail
      refine (impl_node _ _ _ HB.out.1 HQ.out.1).mono ?_
      rintro e w' ⟨rfl, rfl⟩
      go_wp2_with fail
      go_ret
      exact ⟨rfl, HC2.out, HW1.out.trans HW2.out⟩
    · rw [inF, if_neg hn, if_neg hlt]
      have hb := inF_bd m (n - splitN n) (k - splitN n) lf p bad hlf hp
      have hi := ih (n - splitN n) (k - splitN n) lf R p bad w (by omega) (by omega) (by omega) (by omega) hlf hp hcur
      clear ih hcur
      generalize inF m (n - splitN n) (k - splitN n) lf p bad = r at *
      generalize splitN n = q at *
      have hq := nextP_bd (b := r.2.2) hb.2
      rw [show (((n - q : Nat)) : Int) = (n : Int) - (q : Int) from by omega, show (((k - q : Nat)) : Int) = (k : Int) - (q : Int) from by omega] at hi
      have HS := Lib.hid hs; have HI := Lib.hid hi; have HB := Lib.hid hb; have HQ := Lib.hid hq; have HN := Lib.hid hn
      clear hs hi hb hq hn hlf hp
      go_enter Try.func67, Try.ntmps67
      go_wp2_with fail
      refine HS.out.mono ?_
      rintro e w' ⟨rfl, rfl⟩
      go_wp2_with fail
      refine HI.out.mono ?_
      rintro e w1 ⟨rfl, hc1, hw1⟩
      have HC1 := Lib.hid hc1; have HW1 := Lib.hid hw1; clear hc1 hw1
      go_wp2_with fail
      refine (next_any R r.2.1 r.2.2 _ HC1.out).mono ?_
      rintro e w2 ⟨rfl, hc2, hw2⟩
      have HC2 := Lib.hid hc2; have HW2 := Lib.hid hw2; clear hc2 hw2
      go_wp2_with fail
      refine (impl_node _ _ _ HQ.out.1 HB.out.1).mono ?_
      rintro e w' ⟨rfl, rfl⟩
      go_wp2_with fail
      go_ret
      exact ⟨rfl, HC2.out, HW1.out.trans HW2.out⟩

set_option maxHeartbeats 1000000 in
theorem grew_any (f : Nat) : ∀ (n m : Nat) (wh : Bool) (old : Int) (R : Nat) (p : List Int) (bad : Bool) (w : World), n ≤ f → 1 ≤ m → m ≤ n → n ≤ 40 → inR old → allR p → Cur w R p bad →
    Calls Try.prog 64 #[.pointer (some ⟨R, 0, none⟩), .int .i64 (n : Int), .int .i64 (m : Int), .bool wh, .int .i64 old] w fun e w' => e = .returned (.tuple #[.int .i64 (grewF f n m wh old p bad).1.1, .int .i64 (grewF f n m wh old p bad).1.2]) ∧ Cur w' R (grewF f n m wh old p bad).2.1 (grewF f n m wh old p bad).2.2 ∧ Wrote (fun k => k = R) w w' := by
  induction f with
  | zero => intro n m wh old R p bad w h1 h2; omega
  | succ f ih =>
    intro n m wh old R p bad w hm h1 hk h40 hlf hp hcur
    by_cases hn : m = n
    · subst hn
      cases wh with
      | true =>
        have hf : grewF (f + 1) m m true old p bad = ((old, old), p, bad) := by simp [grewF]
        rw [hf]
        have HC := Lib.hid hcur
        clear hcur ih hf
        go_enter Try.func64, Try.ntmps64
        go_wp2_with fail
        go_ret2
        exact ⟨rfl, HC.out, Wrote.refl _ _⟩
      | false =>
        have hf : grewF (f + 1) m m false old p bad = (((nextP p bad).1, (nextP p bad).1), (nextP p bad).2) := by simp [grewF]
        rw [hf]
        have HI := Lib.hid (next_any R p bad w hcur)
        clear hcur ih hf
        go_enter Try.func64, Try.ntmps64
        go_wp2_with fail
        refine HI.out.mono ?_
        rintro e w1 ⟨rfl, hc1, hw1⟩
        have HC1 := Lib.hid hc1; have HW1 := Lib.hid hw1; clear hc1 hw1
        go_wp2_with fail
        go_ret2
        exact ⟨rfl, HC1.out, HW1.out⟩
    have k1 := splitN_pos n
    have k2 := splitN_lt n (by omega)
    have hs := impl_split n w (by omega)
    have hne1 : ((m : Int) == (n : Int)) = false := beq_eq_false_iff_ne.2 (by omega)
    by_cases hlt : m ≤ splitN n
    · rw [grewF, if_neg hn, if_pos hlt]
      have hb := grewF_bd f (splitN n) m wh old p bad hlf hp
      have hi := ih (splitN n) m wh old R p bad w (by omega) h1 hlt (by omega) hlf hp hcur
      clear ih hcur
      generalize grewF f (splitN n) m wh old p bad = r at *
      generalize splitN n = q at *
      have hq := nextP_bd (b := r.2.2) hb.2.2
      have HS := Lib.hid hs; have HI := Lib.hid hi; have HB := Lib.hid hb; have HQ := Lib.hid hq; have HN := Lib.hid hn
      clear hs hi hb hq hn hlf hp
      go_enter Try.func64, Try.ntmps64
      go_wp2_with fail
      refine HS.out.mono ?_
      rintro e w' ⟨rfl, rfl⟩
      go_wp2_with fail
      refine HI.out.mono ?_
      rintro e w1 ⟨rfl, hc1, hw1⟩
      have HC1 := Lib.hid hc1; have HW1 := Lib.hid hw1; clear hc1 hw1
      go_wp2_with fail
      refine (next_any R r.2.1 r.2.2 _ HC1.out).mono ?_
      rintro e w2 ⟨rfl, hc2, hw2⟩
      have HC2 := Lib.hid hc2; have HW2 := Lib.hid hw2; clear hc2 hw2
      go_wp2_with fail
      refine (impl_node _ _ _ HB.out.2.1 HQ.out.1).mono ?_
      rintro e w' ⟨rfl, rfl⟩
      go_wp2_with fail
      go_ret2
      exact ⟨rfl, HC2.out, HW1.out.trans HW2.out⟩
    · rw [grewF, if_neg hn, if_neg hlt]
      have hb := grewF_bd f (n - splitN n) (m - splitN n) false old p bad hlf hp
      have hi := ih (n - splitN n) (m - splitN n) false old R p bad w (by omega) (by omega) (by omega) (by omega) hlf hp hcur
      clear ih hcur
      generalize grewF f (n - splitN n) (m - splitN n) false old p bad = r at *
      generalize splitN n = q at *
      have hq := nextP_bd (b := r.2.2) hb.2.2
      rw [show (((n - q : Nat)) : Int) = (n : Int) - (q : Int) from by omega, show (((m - q : Nat)) : Int) = (m : Int) - (q : Int) from by omega] at hi
      have HS := Lib.hid hs; have HI := Lib.hid hi; have HB := Lib.hid hb; have HQ := Lib.hid hq; have HN := Lib.hid hn
      clear hs hi hb hq hn hlf hp
      go_enter Try.func64, Try.ntmps64
      go_wp2_with fail
      refine HS.out.mono ?_
      rintro e w' ⟨rfl, rfl⟩
      go_wp2_with fail
      refine HI.out.mono ?_
      rintro e w1 ⟨rfl, hc1, hw1⟩
      have HC1 := Lib.hid hc1; have HW1 := Lib.hid hw1; clear hc1 hw1
      go_wp2_with fail
      refine (next_any R r.2.1 r.2.2 _ HC1.out).mono ?_
      rintro e w2 ⟨rfl, hc2, hw2⟩
      have HC2 := Lib.hid hc2; have HW2 := Lib.hid hw2; clear hc2 hw2
      go_wp2_with fail
      refine (impl_node _ _ _ HQ.out.1 HB.out.1).mono ?_
      rintro e w' ⟨rfl, rfl⟩
      go_wp2_with fail
      refine (impl_node _ _ _ HQ.out.1 HB.out.2.1).mono ?_
      rintro e w' ⟨rfl, rfl⟩
      go_wp2_with fail
      go_ret2
      exact ⟨rfl, HC2.out, HW1.out.trans HW2.out⟩

end Go.Proofs.Ytdhkagabkhepgaa
