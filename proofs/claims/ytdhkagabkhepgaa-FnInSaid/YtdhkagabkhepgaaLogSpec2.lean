/- The contracts of CheckIn and CheckGrew, the program's and the reference's: whole. -/
import Derived.Test.YtdhkagabkhepgaaLogSpec
namespace Go.Proofs.Ytdhkagabkhepgaa
set_option linter.unusedVariables false
open Go.ChangeShapes Go.WideShapes Go.ChangeAt Go.RowKit

theorem ints_dropLast (p : List Int) : (ints p).take (p.length - 1) = ints p.dropLast := by
  rw [ints, ← List.map_take, ← List.dropLast_eq_take]; rfl
theorem getLastD_at (p : List Int) (h : p ≠ []) : p.getLastD 0 = p.getD (p.length - 1) 0 := by
  have hl := List.length_pos_iff.2 h
  rw [List.getLastD_eq_getLast?, List.getLast?_eq_getElem?, List.getD]

set_option maxHeartbeats 1000000 in
theorem up_any (m : Nat) : ∀ (n k : Nat) (lf : Int) (a : Option Addr) (j c : Nat) (p : List Int) (w : World), n ≤ m → 1 ≤ n → k < n → n ≤ 40 → inR lf → allR p → p.length = j → j ≤ c → c ≤ 9223372036854775807 → Rw w a (ints p) →
    Calls Try.prog 66 #[.int .i64 (n : Int), .int .i64 (k : Int), .int .i64 lf, .slice a j c] w fun e w' => e = .returned (.tuple #[.int .i64 (upF m n k lf p).1, .bool (upF m n k lf p).2]) ∧ w = w' := by
  induction m with
  | zero => intro n k lf a j c p w h1 h2; omega
  | succ m ih =>
    intro n k lf a j c p w hm h1 hk h40 hlf hp hj hjc hc hr
    by_cases hn : n = 1
    · subst hn hj
      clear hr ih
      by_cases h0 : p.length = 0
      · have hf : upF (m + 1) 1 k lf p = (lf, true) := by simp [upF, isEmpty_dec, h0]
        rw [hf]
        have hz : ((p.length : Int) == 0) = true := beq_iff_eq.2 (by omega)
        clear h0 hf
        go_enter Try.func66, Try.ntmps66
        go_wp2_with fail
        go_ret2
        exact ⟨rfl, rfl⟩
      · have hf : upF (m + 1) 1 k lf p = (lf, false) := by simp [upF, isEmpty_dec, h0]
        rw [hf]
        have hz : ((p.length : Int) == 0) = false := beq_eq_false_iff_ne.2 (by omega)
        clear h0 hf
        go_enter Try.func66, Try.ntmps66
        go_wp2_with fail
        go_ret2
        exact ⟨rfl, rfl⟩
    have hne1 : ((n : Int) == 1) = false := beq_eq_false_iff_ne.2 (by omega)
    by_cases h0 : p = []
    · have hf : upF (m + 1) n k lf p = (0, false) := by rw [upF, if_neg hn, if_pos h0]
      rw [hf]
      obtain rfl : j = 0 := by rw [← hj, h0]; rfl
      clear hr ih hf hj hn
      go_enter Try.func66, Try.ntmps66
      go_wp2_with fail
      go_ret2
      exact ⟨rfl, rfl⟩
    have hjp : 0 < j := by rw [← hj]; exact List.length_pos_iff.2 h0
    have k1 := splitN_pos n
    have k2 := splitN_lt n (by omega)
    have hs := spec_split n w (by omega)
    obtain ⟨b, off, rfl, hbl, hcell⟩ := hr.at (ints_ne (k := 0) (by omega))
    have hx := hcell (j - 1) _ (ints_at p (j - 1) (by omega))
    have hlast := getLastD_at p h0
    rw [hj] at hlast
    rw [← hlast] at hx
    have hxr := last_bd hp
    have hdr : Rw w (some ⟨b, off, none⟩) (ints p.dropLast) := by rw [← ints_dropLast]; exact hr.take _
    have hdl : p.dropLast.length = j - 1 := by rw [List.length_dropLast, hj]
    by_cases hlt : k < splitN n
    · rw [upF, if_neg hn, if_neg h0, if_pos hlt]
      have hb := upF_bd m (splitN n) k lf p.dropLast hlf
      have hi := ih (splitN n) k lf (some ⟨b, off, none⟩) (j - 1) c p.dropLast w (by omega) k1 hlt (by omega) hlf (dropLast_bd hp) hdl (by omega) hc hdr
      clear ih hr hcell hlast hdr hdl
      generalize upF m (splitN n) k lf p.dropLast = r at *
      generalize p.getLastD 0 = x at *
      generalize splitN n = q at *
      have HS := Lib.hid hs; have HI := Lib.hid hi; have HB := Lib.hid hb; have HX := Lib.hid hxr; have HN := Lib.hid hn
      clear hs hi hb hxr hn hlf hp h0 hj
      go_enter Try.func66, Try.ntmps66
      go_wp2_with fail
      refine HS.out.mono ?_
      rintro e w' ⟨rfl, rfl⟩
      go_wp2_with fail
      refine HI.out.mono ?_
      rintro e w' ⟨rfl, rfl⟩
      go_wp2_with fail
      refine (spec_node _ _ _ HB.out HX.out).mono ?_
      rintro e w' ⟨rfl, rfl⟩
      go_wp2_with fail
      go_ret2
      exact ⟨rfl, rfl⟩
    · rw [upF, if_neg hn, if_neg h0, if_neg hlt]
      have hb := upF_bd m (n - splitN n) (k - splitN n) lf p.dropLast hlf
      have hi := ih (n - splitN n) (k - splitN n) lf (some ⟨b, off, none⟩) (j - 1) c p.dropLast w (by omega) (by omega) (by omega) (by omega) hlf (dropLast_bd hp) hdl (by omega) hc hdr
      clear ih hr hcell hlast hdr hdl
      generalize upF m (n - splitN n) (k - splitN n) lf p.dropLast = r at *
      generalize p.getLastD 0 = x at *
      generalize splitN n = q at *
      rw [show (((n - q : Nat)) : Int) = (n : Int) - (q : Int) from by omega, show (((k - q : Nat)) : Int) = (k : Int) - (q : Int) from by omega] at hi
      have HS := Lib.hid hs; have HI := Lib.hid hi; have HB := Lib.hid hb; have HX := Lib.hid hxr; have HN := Lib.hid hn
      clear hs hi hb hxr hn hlf hp h0 hj
      go_enter Try.func66, Try.ntmps66
      go_wp2_with fail
      refine HS.out.mono ?_
      rintro e w' ⟨rfl, rfl⟩
      go_wp2_with fail
      refine HI.out.mono ?_
      rintro e w' ⟨rfl, rfl⟩
      go_wp2_with fail
      refine (spec_node _ _ _ HX.out HB.out).mono ?_
      rintro e w' ⟨rfl, rfl⟩
      go_wp2_with fail
      go_ret2
      exact ⟨rfl, rfl⟩

set_option maxHeartbeats 1000000 in
theorem both_any (f : Nat) : ∀ (n m : Nat) (wh : Bool) (old : Int) (a : Option Addr) (j c : Nat) (p : List Int) (w : World), n ≤ f → 1 ≤ m → m ≤ n → n ≤ 40 → inR old → allR p → p.length = j → j ≤ c → c ≤ 9223372036854775807 → Rw w a (ints p) →
    Calls Try.prog 61 #[.int .i64 old, .int .i64 (n : Int), .int .i64 (m : Int), .bool wh, .slice a j c] w fun e w' => e = .returned (.tuple #[.int .i64 (bothF f n m wh old p).1.1, .int .i64 (bothF f n m wh old p).1.2, .bool (bothF f n m wh old p).2]) ∧ Drawn w w' := by
  induction f with
  | zero => intro n m wh old a j c p w h1 h2; omega
  | succ f ih =>
    intro n m wh old a j c p w hm h1 hk h40 hlf hp hj hjc hc hr
    by_cases hn : m = n
    · subst hn hj
      cases wh with
      | true =>
        clear hr ih
        by_cases h0 : p.length = 0
        · have hf : bothF (f + 1) m m true old p = ((old, old), true) := by simp [bothF, isEmpty_dec, h0]
          rw [hf]
          have hz : ((p.length : Int) == 0) = true := beq_iff_eq.2 (by omega)
          clear h0 hf
          go_enter Try.func61, Try.ntmps61
          go_wp2_with fail
          go_ret3
          exact ⟨rfl, Drawn.refl _⟩
        · have hf : bothF (f + 1) m m true old p = ((old, old), false) := by simp [bothF, isEmpty_dec, h0]
          rw [hf]
          have hz : ((p.length : Int) == 0) = false := beq_eq_false_iff_ne.2 (by omega)
          clear h0 hf
          go_enter Try.func61, Try.ntmps61
          go_wp2_with fail
          go_ret3
          exact ⟨rfl, Drawn.refl _⟩
      | false =>
        by_cases h0 : p.length = 1
        · have hf : bothF (f + 1) m m false old p = ((p.getD 0 0, p.getD 0 0), true) := by simp [bothF, h0]
          rw [hf]
          obtain ⟨b, off, rfl, hbl, hcell⟩ := hr.at (ints_ne (k := 0) (by omega))
          have hx := hcell 0 _ (ints_at p 0 (by omega))
          rw [Nat.add_zero] at hx
          have hz : ((p.length : Int) != 1) = false := by simp; omega
          have hl1 : 1 ≤ p.length := by omega
          clear hr ih hf hcell h0
          generalize p.getD 0 0 = x at *
          generalize p.length = jj at *
          go_enter Try.func61, Try.ntmps61
          go_wp2_with fail
          go_quiet (fail)
          go_wp2_with fail
          go_ret3
          exact ⟨rfl, _, rfl⟩
        · have hf : bothF (f + 1) m m false old p = ((0, 0), false) := by simp [bothF, h0]
          rw [hf]
          have hz : ((p.length : Int) != 1) = true := by simp; omega
          clear hr ih hf h0
          go_enter Try.func61, Try.ntmps61
          go_wp2_with fail
          go_ret3
          exact ⟨rfl, Drawn.refl _⟩
    have hne1 : ((m : Int) == (n : Int)) = false := beq_eq_false_iff_ne.2 (by omega)
    by_cases h0 : p = []
    · have hf : bothF (f + 1) n m wh old p = ((0, 0), false) := by rw [bothF, if_neg hn, if_pos h0]
      rw [hf]
      obtain rfl : j = 0 := by rw [← hj, h0]; rfl
      clear hr ih hf hj hn
      go_enter Try.func61, Try.ntmps61
      go_wp2_with fail
      go_ret3
      exact ⟨rfl, Drawn.refl _⟩
    have hjp : 0 < j := by rw [← hj]; exact List.length_pos_iff.2 h0
    have k1 := splitN_pos n
    have k2 := splitN_lt n (by omega)
    have hs := spec_split n w (by omega)
    obtain ⟨b, off, rfl, hbl, hcell⟩ := hr.at (ints_ne (k := 0) (by omega))
    have hx := hcell (j - 1) _ (ints_at p (j - 1) (by omega))
    have hlast := getLastD_at p h0
    rw [hj] at hlast
    rw [← hlast] at hx
    have hxr := last_bd hp
    have hdr : Rw w (some ⟨b, off, none⟩) (ints p.dropLast) := by rw [← ints_dropLast]; exact hr.take _
    have hdl : p.dropLast.length = j - 1 := by rw [List.length_dropLast, hj]
    by_cases hlt : m ≤ splitN n
    · rw [bothF, if_neg hn, if_neg h0, if_pos hlt]
      have hb := bothF_bd f (splitN n) m wh old p.dropLast hlf (dropLast_bd hp)
      have hi := ih (splitN n) m wh old (some ⟨b, off, none⟩) (j - 1) c p.dropLast w (by omega) h1 hlt (by omega) hlf (dropLast_bd hp) hdl (by omega) hc hdr
      clear ih hr hcell hlast hdr hdl
      generalize bothF f (splitN n) m wh old p.dropLast = r at *
      generalize p.getLastD 0 = x at *
      generalize splitN n = q at *
      have HS := Lib.hid hs; have HI := Lib.hid hi; have HB := Lib.hid hb; have HX := Lib.hid hxr; have HN := Lib.hid hn
      clear hs hi hb hxr hn hlf hp h0 hj
      go_enter Try.func61, Try.ntmps61
      go_wp2_with fail
      refine HS.out.mono ?_
      rintro e w' ⟨rfl, rfl⟩
      go_wp2_with fail
      refine HI.out.mono ?_
      rintro e w' ⟨rfl, n1, rfl⟩
      go_wp2_with fail
      refine (spec_node _ _ _ HB.out.2 HX.out).mono ?_
      rintro e w' ⟨rfl, rfl⟩
      go_wp2_with fail
      go_ret3
      exact ⟨rfl, _, rfl⟩
    · rw [bothF, if_neg hn, if_neg h0, if_neg hlt]
      have hb := bothF_bd f (n - splitN n) (m - splitN n) false old p.dropLast hlf (dropLast_bd hp)
      have hi := ih (n - splitN n) (m - splitN n) false old (some ⟨b, off, none⟩) (j - 1) c p.dropLast w (by omega) (by omega) (by omega) (by omega) hlf (dropLast_bd hp) hdl (by omega) hc hdr
      clear ih hr hcell hlast hdr hdl
      generalize bothF f (n - splitN n) (m - splitN n) false old p.dropLast = r at *
      generalize p.getLastD 0 = x at *
      generalize splitN n = q at *
      rw [show (((n - q : Nat)) : Int) = (n : Int) - (q : Int) from by omega, show (((m - q : Nat)) : Int) = (m : Int) - (q : Int) from by omega] at hi
      have HS := Lib.hid hs; have HI := Lib.hid hi; have HB := Lib.hid hb; have HX := Lib.hid hxr; have HN := Lib.hid hn
      clear hs hi hb hxr hn hlf hp h0 hj
      go_enter Try.func61, Try.ntmps61
      go_wp2_with fail
      refine HS.out.mono ?_
      rintro e w' ⟨rfl, rfl⟩
      go_wp2_with fail
      refine HI.out.mono ?_
      rintro e w' ⟨rfl, n1, rfl⟩
      go_wp2_with fail
      have z1 : (0 : Int) ≤ (j : Int) - 1 := by omega
      have z0 : (1 : Int) ≤ (j : Int) := by omega
      have z4 : (0 : Int) < (j : Int) := by omega
      have z2 : (j : Int) - 1 < (j : Int) := by omega
      have z3 : ((j : Int) - 1).toNat = j - 1 := by omega
      go_quiet ((go_at_call 48; (first | (with_reducible exact quiet_same_add (spec_node _ _ _ HX.out HB.out.1)) | (with_reducible exact quiet_same_add (spec_node _ _ _ HX.out HB.out.2)) | (with_reducible exact quiet_same (spec_node _ _ _ HX.out HB.out.1)) | (with_reducible exact quiet_same (spec_node _ _ _ HX.out HB.out.2)))))
      go_wp2_with fail
      go_ret3
      exact ⟨rfl, drawn_more _ _ _⟩
end Go.Proofs.Ytdhkagabkhepgaa
