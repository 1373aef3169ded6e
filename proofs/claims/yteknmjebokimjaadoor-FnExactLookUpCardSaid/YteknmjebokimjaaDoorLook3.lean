/- The contracts of looking up in a trie: the program's walker goes down. -/
import Derived.Test.YteknmjebokimjaaDoorLook2
namespace Go.Proofs.YteknmjebokimjaaDoor
set_option linter.unusedVariables false
open Go.ChangeShapes Go.WideShapes Go.ChangeAt Go.RowKit
set_option maxRecDepth 100000

theorem kid_st (t : List Nd) (tb tf cap : Nat) (W0 : World) (B B2 : Nat) (ht : kTrieNodeS.rd B W0 [.slice (some ⟨tb, tf, none⟩) t.length cap] t) (hB : B < B2) (hr : (nd t 0).2.1 = -1) (u : Nat) (s : ByteArray) (hs : s.size ≤ maxLen) {xs : List Int} {c : Nat} (w : World) (h : St W0 B B2 (.slice (some ⟨tb, tf, none⟩) t.length cap) xs c w) :
    Calls Tryd.prog 45 #[(.slice (some ⟨tb, tf, none⟩) t.length cap), .int .i64 (u : Int), .string s] w fun e w' => e = .returned (.int .i64 (kidR t (u : Int) s)) ∧ St W0 B B2 (.slice (some ⟨tb, tf, none⟩) t.length cap) xs c w' := by
  have h1 := impl_kid t _ _ _ (u : Int) s w (st_rd hB h ht).2 hs
  rw [fidx_kidR hr (by omega)] at h1
  exact h1.mono fun e w' ⟨h2, h3⟩ => ⟨h2, st_later hB h h3⟩
theorem hash_go (t : List Nd) (tb tf cap : Nat) (W0 : World) (B B2 : Nat) (ht : kTrieNodeS.rd B W0 [.slice (some ⟨tb, tf, none⟩) t.length cap] t) (hB : B < B2) (hl : t.length ≤ 181) (hw30 : whosN t ≤ 30) (u : Nat)
    (xs : List Int) (c : Nat) (w : World) (h : St W0 B B2 (.slice (some ⟨tb, tf, none⟩) t.length cap) xs c w) (hs : xs.Pairwise (· < ·)) (hxl : xs.length ≤ 1000000) (hcl : c ≤ 1000000) :
    Calls Tryd.prog 57 #[.pointer (some ⟨B, 0, none⟩), .int .i64 (kidR t (u : Int) more), .slice none 0 0] w fun e w' => e = .returned (.tuple #[]) ∧ St W0 B B2 (.slice (some ⟨tb, tf, none⟩) t.length cap) (puts xs (hashR t u).1) (c + (hashR t u).2) w' := by
  by_cases h0 : 0 ≤ kidR t (u : Int) more
  · have hlv := kid_lvl h0
    have hlt := (kid_lt h0).1
    rw [hash_yes h0]
    obtain ⟨k, hk⟩ := Int.eq_ofNat_of_zero_le h0
    rw [hk] at hlv hlt ⊢
    rw [Int.toNat_natCast] at hlv hlt ⊢
    exact impl_hash t tb tf cap W0 B B2 ht hB hl hw30 k hlt hlv xs c w (Lib.hid h) hs hxl hcl
  · rw [hash_no (u := u) (show kidR t (u : Int) more < 0 by omega)]
    refine (impl_down_neg B _ (by omega) _ w).mono ?_
    rintro e w' ⟨h1, rfl⟩
    exact ⟨h1, h⟩
theorem down_go (t : List Nd) (tb tf cap : Nat) (W0 : World) (B B2 : Nat) (hB : B < B2) (l : List ByteArray) (n : Nat) (la : Option Addr) (lcap : Nat) (u : Nat) (s : ByteArray) (hs : s ≠ more)
    (xs : List Int) (c : Nat) (w : World) (h : St W0 B B2 (.slice (some ⟨tb, tf, none⟩) t.length cap) xs c w)
    (hd : ∀ k, k < t.length → (nd t k).1 ≠ more → Calls Tryd.prog 57 #[.pointer (some ⟨B, 0, none⟩), .int .i64 (k : Int), .slice la n lcap] w fun e w' => e = .returned (.tuple #[]) ∧ St W0 B B2 (.slice (some ⟨tb, tf, none⟩) t.length cap) (puts xs (downR t l k).1) (c + (downR t l k).2) w') :
    Calls Tryd.prog 57 #[.pointer (some ⟨B, 0, none⟩), .int .i64 (kidR t (u : Int) s), .slice la n lcap] w fun e w' => e = .returned (.tuple #[]) ∧ St W0 B B2 (.slice (some ⟨tb, tf, none⟩) t.length cap) (puts xs (goR (downR t l) (kidR t (u : Int) s)).1) (c + (goR (downR t l) (kidR t (u : Int) s)).2) w' := by
  by_cases h0 : 0 ≤ kidR t (u : Int) s
  · have hlv := kid_lvl h0
    have hlt := (kid_lt h0).1
    rw [go_yes h0]
    obtain ⟨k, hk⟩ := Int.eq_ofNat_of_zero_le h0
    rw [hk] at hlv hlt ⊢
    rw [Int.toNat_natCast] at hlv hlt ⊢
    exact hd k hlt (by rw [hlv]; exact hs)
  · rw [go_no (show kidR t (u : Int) s < 0 by omega)]
    refine (impl_down_neg B _ (by omega) _ w).mono ?_
    rintro e w' ⟨h1, rfl⟩
    exact ⟨h1, h⟩
set_option maxHeartbeats 4000000 in
theorem impl_down (t : List Nd) (tb tf cap : Nat) (W0 : World) (B B2 : Nat) (ht : kTrieNodeS.rd B W0 [(.slice (some ⟨tb, tf, none⟩) t.length cap)] t) (hB : B < B2) (hl : t.length ≤ 181) (hw30 : whosN t ≤ 30) (hr : (nd t 0).2.1 = -1) :
    ∀ (l : List ByteArray) (u n : Nat) (la : Option Addr) (lcap : Nat) (xs : List Int) (c : Nat) (w : World), Hid (St W0 B B2 (.slice (some ⟨tb, tf, none⟩) t.length cap) xs c w) → Hid (Rx W0 B B2 la (strs l)) → Hid (n = l.length) → n ≤ lcap → lcap ≤ 9223372036854775807 → l.length ≤ 6 → Hid (∀ x ∈ l, x.size ≤ maxLen ∧ x ≠ more) → u < t.length → (nd t u).1 ≠ more → xs.Pairwise (· < ·) → xs.length + 90 * 2 ^ l.length ≤ 1000000 → c + 4 * 2 ^ l.length ≤ 1000000 →
    Calls Tryd.prog 57 #[.pointer (some ⟨B, 0, none⟩), .int .i64 (u : Int), .slice la n lcap] w fun e w' => e = .returned (.tuple #[]) ∧ St W0 B B2 (.slice (some ⟨tb, tf, none⟩) t.length cap) (puts xs (downR t l u).1) (c + (downR t l u).2) w' := by
  intro l
  induction l with
  | nil =>
    intro u n la lcap xs c w HST HRL HN hnl hlc hl6 HSZ hu hm hs hxl hcl
    obtain rfl : n = 0 := HN.out
    rw [show 2 ^ ([] : List ByteArray).length = 1 from rfl] at hxl hcl
    obtain ⟨v0, d0, d1, d2, z1, z2, _⟩ := st_cells HST.out
    obtain ⟨x, b', off', aw, cw, hx, ha, hbl, e0, e1, e2, hs1, _, hrw⟩ := nd_cells ht hu
    simp only [Option.some.injEq, Addr.mk.injEq, and_true] at ha
    obtain ⟨rfl, rfl⟩ := ha
    have hnd := nd_at hx
    have hne : tb ≠ B := by omega
    have hlt2 : tb < B2 := by omega
    have c0 := st_cell HST.out e0 hlt2 hne
    have c2 := st_cell HST.out e2 hlt2 hne
    have HE0 := Lib.hid e0; have HRW := Lib.hid hrw
    have HND := Lib.hid hnd
    have hw30' := nd_who hw30 u
    have hln := (sl_len ht).2
    rw [hnd] at hw30'
    have hlw := (sl_len hrw).2
    have HT0 := Lib.hid ht
    have HS1 := Lib.hid (st_count hB HST.out (c + 1))
    rw [hnd] at hm
    have hm' : (x.1.toList == [35]) = false := by rw [beq_eq_false_iff_ne]; exact fun e => hm ((is1 x.1 35).1 e)
    have HFIN : Hid (puts (puts xs x.2.2) (hashR t u).1 = puts xs (downR t [] u).1 ∧ c + 1 + (hashR t u).2 = c + (downR t [] u).2) := Lib.hid ⟨by rw [puts_comm hs, downR, hnd], by rw [downR]; omega⟩
    rw [← HFIN.out.1, ← HFIN.out.2]
    have HHG := Lib.hid (fun (xs' : List Int) (c' : Nat) (wx : World) => hash_go t tb tf cap W0 B B2 HT0.out hB hl hw30 u xs' c' wx)
    have HKS := Lib.hid (fun (s : ByteArray) (hsz : s.size ≤ maxLen) (xs' : List Int) (c' : Nat) (wx : World) (h : St W0 B B2 (.slice (some ⟨tb, tf, none⟩) t.length cap) xs' c' wx) => kid_st t tb tf cap W0 B B2 HT0.out hB hr u s hsz wx h)
    have HSP : Hid ((puts xs x.2.2).Pairwise (· < ·) ∧ (puts xs x.2.2).length ≤ 1000000) := Lib.hid ⟨puts_sorted hs, by have := puts_len xs x.2.2; omega⟩
    clear hm hx hnd HFIN
    generalize hashR t u = gh at *
    go_enter Tryd.func57, Tryd.ntmps57
    go_wp2_with fail
    obtain ⟨w1, hw1⟩ : ∃ z : World, z = w.setCell ⟨B, 2, none⟩ (.int .i64 ((c + 1 : Nat) : Int)) := ⟨_, rfl⟩
    have hcc : ((c + 1 : Nat) : Int) = (c : Int) + 1 := by omega
    rw [hcc] at hw1 HS1
    rw [← hw1] at HS1 ⊢
    clear hw1 hcc d0 d1 d2 z1 z2 c0 c2 hrw ht e0 e1 e2 HST
    go_loopw [40] (fun iv wr => ∃ (i : Nat), i ≤ x.2.2.length ∧ iv = .int .i64 (i : Int) ∧ Hid (St W0 B B2 (.slice (some ⟨tb, tf, none⟩) t.length cap) (puts xs (x.2.2.take i)) (c + 1) wr)) (fun iv _ => x.2.2.length - (intOf iv).toNat)
    case atStart => exact ⟨0, by omega, rfl, HS1⟩
    case round =>
      obtain ⟨i, hil, rfl, HSI⟩ := hrel
      by_cases hlt : i < x.2.2.length
      case pos =>
        obtain ⟨y, hy⟩ : ∃ y, x.2.2[i]? = some y := ⟨x.2.2[i], List.getElem?_eq_getElem hlt⟩
        obtain ⟨u', bw, offw, hu', hea, hbw, hcw⟩ := sl_one kInt_ok rfl HRW.out hy
        obtain ⟨hu', _⟩ := hu'
        simp only [List.cons.injEq, and_true] at hu'
        subst hu'
        have q0 : wr.cell? ⟨bw, offw + i, none⟩ = some (.int .i64 y) := st_cell HSI.out hcw (by omega) (by omega)
        obtain ⟨v, k0, k1, k2, z1, z2, ho⟩ := st_cells HSI.out
        have HPT := Lib.hid (puts_take xs x.2.2 i y hy)
        have HPS : Hid ((puts xs (x.2.2.take i)).Pairwise (· < ·)) := Lib.hid (puts_sorted hs)
        have hpl : (puts xs (x.2.2.take i)).length ≤ xs.length + 30 := by have h1 := puts_len xs (x.2.2.take i); rw [List.length_take] at h1; omega
        have HWO := Lib.hid (impl_withO B2 v (puts xs (x.2.2.take i)) y wr ho (st_lt HSI.out) (by omega) HPS.out)
        subst hea
        clear hy ho hcw
        go_wp2_with fail
        refine HWO.out.mono ?_
        rintro e w3 ⟨g3, cp3, rfl, ho3, hb3⟩
        obtain ⟨hs3, ⟨uu, m1⟩, m2⟩ := st_who hB HSI.out ho3 hb3
        have HS3 := Lib.hid hs3; clear hs3 ho3 hb3
        go_wp2_with fail
        go_roundw
        case rel => exact ⟨i + 1, by omega, by go_num, by rw [HPT.out]; exact HS3⟩
        case measure => simp [intOf]; omega
      obtain rfl : i = x.2.2.length := by omega
      rw [List.take_length] at HSI
      obtain ⟨v, k0, k1, k2, z1, z2, _⟩ := st_cells HSI.out
      have c0 := st_cell HSI.out HE0.out hlt2 hne
      go_wp2_with fail
      refine (HKS.out more (by decide) _ _ _ HSI.out).mono ?_
      rintro e w4 ⟨rfl, hs4⟩
      have HS4 := Lib.hid hs4; clear hs4
      go_wp2_with fail
      refine (HHG.out _ _ _ HS4.out HSP.out.1 HSP.out.2 (by omega)).mono ?_
      rintro e w5 ⟨rfl, hs5⟩
      have HS5 := Lib.hid hs5; clear hs5
      go_wp2_with fail
      (try simp only [Exit.inBlock, Exit.then])
      first | (refine bodyPost_ret (results_none rfl _ _ _) rfl ?_) | (refine bodyPost_end (results_none rfl _ _ _) rfl ?_)
      exact ⟨rfl, HS5.out⟩
  | cons y r ih =>
    intro u n la lcap xs c w HST HRL HN hnl hlc hl6 HSZ hu hm hs hxl hcl
    obtain ⟨v0, d0, d1, d2, z1, z2, _⟩ := st_cells HST.out
    obtain ⟨x, b', off', aw, cw, hx, ha, hbl, e0, e1, e2, hs1, _, hrw⟩ := nd_cells ht hu
    simp only [Option.some.injEq, Addr.mk.injEq, and_true] at ha
    obtain ⟨rfl, rfl⟩ := ha
    have hnd := nd_at hx
    have hne : tb ≠ B := by omega
    have hlt2 : tb < B2 := by omega
    have c0 := st_cell HST.out e0 hlt2 hne
    have c2 := st_cell HST.out e2 hlt2 hne
    have HE0 := Lib.hid e0; have HRW := Lib.hid hrw
    have HND := Lib.hid hnd
    have hw30' := nd_who hw30 u
    have hln := (sl_len ht).2
    rw [hnd] at hw30'
    have hlw := (sl_len hrw).2
    have HT0 := Lib.hid ht
    have HS1 := Lib.hid (st_count hB HST.out (c + 1))
    rw [hnd] at hm
    have hm' : (x.1.toList == [35]) = false := by rw [beq_eq_false_iff_ne]; exact fun e => hm ((is1 x.1 35).1 e)
    have hr5 : r.length ≤ 5 := by rw [List.length_cons] at hl6; omega
    obtain ⟨bl, ol, rfl, hbl, hbne, hcl0⟩ : ∃ bl ol, la = some ⟨bl, ol, none⟩ ∧ bl < B2 ∧ bl ≠ B ∧ ∀ i v, (strs (y :: r))[i]? = some v → W0.cell? ⟨bl, ol + i, none⟩ = some v := by
      rcases HRL.out with h | h
      · cases h
      · exact h
    have l0 : W0.cell? ⟨bl, ol, none⟩ = some (.string y) := hcl0 0 _ rfl
    have HRR : Hid (Rx W0 B B2 (some ⟨bl, ol + 1, none⟩) (strs r)) := Lib.hid (.inr ⟨bl, ol + 1, rfl, hbl, hbne, fun i v hv => by rw [Nat.add_assoc, Nat.add_comm 1 i]; exact hcl0 (i + 1) v hv⟩)
    have hn1 : 1 ≤ n := by have := HN.out; rw [List.length_cons] at this; omega
    clear hm hx hnd hcl0
    by_cases hc1 : lcap = 1
    case pos =>
      subst hc1
      obtain rfl : n = 1 := by omega
      have HR0 : Hid (strs r = []) := Lib.hid (by have := HN.out; rw [List.length_cons] at this; rw [List.length_eq_zero_iff.1 (show r.length = 0 by omega)]; rfl)
      have hnz : (((1 : Nat) : Int) == 0) = false := by rw [beq_eq_false_iff_ne]; omega
      have HIH' : Hid (∀ (s : ByteArray), s ≠ more → ∀ (xs' : List Int) (c' : Nat) (wx : World), St W0 B B2 (.slice (some ⟨tb, tf, none⟩) t.length cap) xs' c' wx → xs'.Pairwise (· < ·) → xs'.length + 90 * 2 ^ r.length ≤ 1000000 → c' + 4 * 2 ^ r.length ≤ 1000000 → Calls Tryd.prog 57 #[.pointer (some ⟨B, 0, none⟩), .int .i64 (kidR t (u : Int) s), .slice (some ⟨bl, ol, none⟩) 0 0] wx fun e w' => e = .returned (.tuple #[]) ∧ St W0 B B2 (.slice (some ⟨tb, tf, none⟩) t.length cap) (puts xs' (goR (downR t r) (kidR t (u : Int) s)).1) (c' + (goR (downR t r) (kidR t (u : Int) s)).2) w') := Lib.hid fun s hsm xs' c' wx hst hsx hb1 hb2 =>
        down_go t tb tf cap W0 B B2 hB r _ _ _ u s hsm xs' c' wx hst fun k hk hkm => ih k 0 (some ⟨bl, ol, none⟩) 0 xs' c' wx (Lib.hid hst) (Lib.hid (.inl HR0.out)) (Lib.hid (by have := HN.out; rw [List.length_cons] at this; omega)) (by omega) (by omega) (by omega) (Lib.hid fun z hz => HSZ.out z (by simp [hz])) hk hkm hsx hb1 hb2
      clear ih
      have hpw : 2 ^ (y :: r).length = 2 * 2 ^ r.length := by rw [List.length_cons, Nat.pow_succ]; omega
      rw [hpw] at hxl hcl
      have hp1 : 1 ≤ 2 ^ r.length := Nat.one_le_two_pow
      have hhl := hash_len hw30 u
      have hga := fun k => down_len hw30 r k
      have hgo : ∀ k : Int, (goR (downR t r) k).1.length + 30 ≤ 90 * 2 ^ r.length ∧ (goR (downR t r) k).2 + 2 ≤ 4 * 2 ^ r.length := fun k => by
        unfold goR
        split
        · exact hga k.toNat
        · simp; omega
      have HX1 : Hid ((puts xs (hashR t u).1).length + 90 * 2 ^ r.length ≤ 1000000 ∧ (c + 1 + (hashR t u).2) + 4 * 2 ^ r.length ≤ 1000000 ∧ (puts xs (hashR t u).1).Pairwise (· < ·)) := Lib.hid ⟨by have := puts_len xs (hashR t u).1; omega, by omega, puts_sorted hs⟩
      have HX2 : Hid ((puts (puts xs (hashR t u).1) (goR (downR t r) (kidR t (u : Int) y)).1).length + 90 * 2 ^ r.length ≤ 1000000 ∧ (c + 1 + (hashR t u).2 + (goR (downR t r) (kidR t (u : Int) y)).2) + 4 * 2 ^ r.length ≤ 1000000 ∧ (puts (puts xs (hashR t u).1) (goR (downR t r) (kidR t (u : Int) y)).1).Pairwise (· < ·)) := Lib.hid ⟨by
        have h1 := puts_len xs (hashR t u).1
        have h2 := puts_len (puts xs (hashR t u).1) (goR (downR t r) (kidR t (u : Int) y)).1
        have h3 := hgo (kidR t (u : Int) y)
        omega, by have h3 := hgo (kidR t (u : Int) y); omega, puts_sorted (puts_sorted hs)⟩
      have HFIN : Hid (puts (puts (puts xs (hashR t u).1) (goR (downR t r) (kidR t (u : Int) y)).1) (goR (downR t r) (kidR t (u : Int) any1)).1 = puts xs (downR t (y :: r) u).1 ∧ c + 1 + (hashR t u).2 + (goR (downR t r) (kidR t (u : Int) y)).2 + (goR (downR t r) (kidR t (u : Int) any1)).2 = c + (downR t (y :: r) u).2) := Lib.hid ⟨by
        rw [← puts_app, ← puts_app]; rfl, by simp only [downR]; omega⟩
      rw [← HFIN.out.1, ← HFIN.out.2]
      clear hga hgo HFIN
      have HYM : Hid (y ≠ more) := Lib.hid (HSZ.out y (by simp)).2
      have HYS : Hid (y.size ≤ maxLen) := Lib.hid (HSZ.out y (by simp)).1
      have HHG := Lib.hid (fun (xs' : List Int) (c' : Nat) (wx : World) => hash_go t tb tf cap W0 B B2 HT0.out hB hl hw30 u xs' c' wx)
      have HIY := Lib.hid (HIH'.out y HYM.out); have HI1 := Lib.hid (HIH'.out any1 any1_ne_more); clear HIH'
      have hn1' : (1 : Int) ≤ ((1 : Nat) : Int) := by omega
      have HKS := Lib.hid (fun (s : ByteArray) (hsz : s.size ≤ maxLen) (xs' : List Int) (c' : Nat) (wx : World) (h : St W0 B B2 (.slice (some ⟨tb, tf, none⟩) t.length cap) xs' c' wx) => kid_st t tb tf cap W0 B B2 HT0.out hB hr u s hsz wx h)
      have hcc : ((c + 1 : Nat) : Int) = (c : Int) + 1 := by omega
      rw [hcc] at HS1
      clear hcc hpw
      generalize goR (downR t r) (kidR t (u : Int) y) = ga at *
      generalize goR (downR t r) (kidR t (u : Int) any1) = gb at *
      generalize hashR t u = gh at *
      go_enter Tryd.func57, Tryd.ntmps57
      go_wp2_with fail
      refine (HKS.out more (by decide) _ _ _ HS1.out).mono ?_
      rintro e w4 ⟨rfl, hs4⟩
      have HS4 := Lib.hid hs4; clear hs4
      go_wp2_with fail
      refine (HHG.out _ _ _ HS4.out hs (by omega) (by omega)).mono ?_
      rintro e w5 ⟨rfl, hs5⟩
      have HS5 := Lib.hid hs5
      obtain ⟨v5, k0, _, _, _, _, _⟩ := st_cells hs5
      have l5 := st_cell hs5 l0 hbl hbne
      have HD5 := Lib.hid (st_drew hB hs5)
      clear hs5
      go_wp2_with fail
      refine wp_region_G [9] (fun w' => w'.cell? ⟨B, 0, none⟩ = some (.slice (some ⟨tb, tf, none⟩) t.length cap) ∧ w'.cell? ⟨bl, ol, none⟩ = some (.string y)) (by kernel_rfl) ?_ (fun hHeld => ?_)
      · exact ⟨k0, l5⟩
      refine wpG_pure (i := 0) (oi := { dst := some 74, op := Go.Op.move (Go.Operand.tmp 0), type := 91, pos := "l10_topic.go:208", after := #[], guard := none }) (v := ?vg1) rfl (by kernel_rfl) (fun _ _ _ h => h) (Or.inr hHeld) (Or.inl ⟨by rfl, ?yg1⟩) ?_
      case yg1 => (intro wS _; go_simp <;> with_reducible rfl)
      try simp only [Act.put, List.setIfInBounds_toArray, List.set_cons_zero, List.set_cons_succ]
      refine wpG_pure (i := 1) (oi := { dst := some 75, op := Go.Op.move (Go.Operand.tmp 0), type := 91, pos := "l10_topic.go:208", after := #[], guard := none }) (v := ?vg2) rfl (by kernel_rfl) (fun _ _ _ h => h) (Or.inr hHeld) (Or.inl ⟨by rfl, ?yg2⟩) ?_
      case yg2 => (intro wS _; go_simp <;> with_reducible rfl)
      try simp only [Act.put, List.setIfInBounds_toArray, List.set_cons_zero, List.set_cons_succ]
      refine wpG_pure (i := 2) (oi := { dst := some 76, op := Go.Op.nilCheck (Go.Operand.tmp 75), type := 0, pos := "l10_topic.go:208", after := #[{ on := 1, ground := Go.Ground.data }], guard := none }) (v := ?vg3) rfl (by kernel_rfl) (fun _ _ _ h => h) (Or.inr hHeld) (Or.inl ⟨by rfl, ?yg3⟩) ?_
      case yg3 => (intro wS _; go_simp <;> with_reducible rfl)
      try simp only [Act.put, List.setIfInBounds_toArray, List.set_cons_zero, List.set_cons_succ]
      refine wpG_pure (i := 3) (oi := { dst := some 77, op := Go.Op.fieldAddr 74 (Go.Operand.tmp 76) 0, type := 0, pos := "l10_topic.go:208", after := #[{ on := 2, ground := Go.Ground.data }], guard := none }) (v := ?vg4) rfl (by kernel_rfl) (fun _ _ _ h => h) (Or.inr hHeld) (Or.inl ⟨by rfl, ?yg4⟩) ?_
      case yg4 => (intro wS _; go_simp <;> with_reducible rfl)
      try simp only [Act.put, List.setIfInBounds_toArray, List.set_cons_zero, List.set_cons_succ]
      refine wpG_load (i := 4) (oi := { dst := some 78, op := Go.Op.load 24 (Go.Operand.tmp 77), type := 24, pos := "l10_topic.go:208", after := #[{ on := 3, ground := Go.Ground.data }], guard := none }) (v := ?vg5) [[9, 4]] rfl (by kernel_rfl) (fun _ _ _ h => h) hHeld (Or.inl ⟨by rfl, ?yg5⟩) ?_
      case yg5 => (intro wS hSw; (try dsimp only at hSw); go_simp <;> with_reducible rfl)
      try simp only [Act.put, List.setIfInBounds_toArray, List.set_cons_zero, List.set_cons_succ]
      refine wpG_pure (i := 5) (oi := { dst := some 79, op := Go.Op.move (Go.Operand.tmp 1), type := 3, pos := "l10_topic.go:208", after := #[], guard := none }) (v := ?vg6) rfl (by kernel_rfl) (fun _ _ _ h => h) (Or.inr hHeld) (Or.inl ⟨by rfl, ?yg6⟩) ?_
      case yg6 => (intro wS _; go_simp <;> with_reducible rfl)
      try simp only [Act.put, List.setIfInBounds_toArray, List.set_cons_zero, List.set_cons_succ]
      refine wpG_pure (i := 6) (oi := { dst := some 80, op := Go.Op.move (Go.Operand.tmp 2), type := 59, pos := "l10_topic.go:208", after := #[], guard := none }) (v := ?vg7) rfl (by kernel_rfl) (fun _ _ _ h => h) (Or.inr hHeld) (Or.inl ⟨by rfl, ?yg7⟩) ?_
      case yg7 => (intro wS _; go_simp <;> with_reducible rfl)
      try simp only [Act.put, List.setIfInBounds_toArray, List.set_cons_zero, List.set_cons_succ]
      refine wpG_pure (i := 7) (oi := { dst := some 81, op := Go.Op.indexAddr 59 (Go.Operand.tmp 80) (Go.Operand.const (Go.Value.int Go.IntKind.i64 0)), type := 0, pos := "l10_topic.go:208", after := #[{ on := 6, ground := Go.Ground.data }], guard := none }) (v := ?vg8) rfl (by kernel_rfl) (fun _ _ _ h => h) (Or.inr hHeld) (Or.inl ⟨by rfl, ?yg8⟩) ?_
      case yg8 => (intro wS _; go_simp <;> with_reducible rfl)
      try simp only [Act.put, List.setIfInBounds_toArray, List.set_cons_zero, List.set_cons_succ]
      refine wpG_load (i := 8) (oi := { dst := some 82, op := Go.Op.load 9 (Go.Operand.tmp 81), type := 9, pos := "l10_topic.go:208", after := #[{ on := 7, ground := Go.Ground.data }], guard := none }) (v := ?vg9) [[9, 8]] rfl (by kernel_rfl) (fun _ _ _ h => h) hHeld (Or.inl ⟨by rfl, ?yg9⟩) ?_
      case yg9 => (intro wS hSw; (try dsimp only at hSw); go_simp <;> with_reducible rfl)
      try simp only [Act.put, List.setIfInBounds_toArray, List.set_cons_zero, List.set_cons_succ]
      refine wpG_pure (i := 10) (oi := { dst := some 84, op := Go.Op.move (Go.Operand.tmp 2), type := 59, pos := "l10_topic.go:208", after := #[], guard := none }) (v := ?vg10) rfl (by kernel_rfl) (fun _ _ _ h => h) (Or.inr hHeld) (Or.inl ⟨by rfl, ?yg10⟩) ?_
      case yg10 => (intro wS _; go_simp <;> with_reducible rfl)
      try simp only [Act.put, List.setIfInBounds_toArray, List.set_cons_zero, List.set_cons_succ]
      refine wpG_pure (i := 11) (oi := { dst := some 85, op := Go.Op.slice 59 (Go.Operand.tmp 84) (some (Go.Operand.const (Go.Value.int Go.IntKind.i64 1))) none none, type := 59, pos := "l10_topic.go:208", after := #[{ on := 10, ground := Go.Ground.data }], guard := none }) (v := ?vg11) rfl (by kernel_rfl) (fun _ _ _ h => h) (Or.inr hHeld) (Or.inl ⟨by rfl, ?yg11⟩) ?_
      case yg11 => (intro wS _; go_simp <;> with_reducible rfl)
      try simp only [Act.put, List.setIfInBounds_toArray, List.set_cons_zero, List.set_cons_succ]
      refine wpG_one (i := 9) (o := { dst := some 83, op := Go.Op.call { callee := Go.Callee.value (Go.Operand.func 45), args := #[Go.Operand.tmp 78, Go.Operand.tmp 79, Go.Operand.tmp 82], argTypes := #[24, 3, 9] }, type := 3, pos := "l10_topic.go:208", after := #[{ on := 4, ground := Go.Ground.data }, { on := 5, ground := Go.Ground.data }, { on := 8, ground := Go.Ground.data }], guard := none }) rfl (by kernel_rfl) (fun K hK => ?_)
      go_simp
      refine (HKS.out y HYS.out _ _ _ HD5.out).mono ?_
      rintro e w6 ⟨rfl, hs6⟩
      have HS6 := Lib.hid hs6; clear hs6
      refine hK.out _ _ (Or.inl (by kernel_rfl)) (fun _ => ?_)
      clear hK K
      try simp only [Act.put, List.setIfInBounds_toArray, List.set_cons_zero, List.set_cons_succ]
      refine wpG_one (i := 12) (o := { dst := some 86, op := Go.Op.call { callee := Go.Callee.value (Go.Operand.func 57), args := #[Go.Operand.tmp 74, Go.Operand.tmp 83, Go.Operand.tmp 85], argTypes := #[91, 3, 59] }, type := 0, pos := "l10_topic.go:208", after := #[{ on := 0, ground := Go.Ground.data }, { on := 9, ground := Go.Ground.data }, { on := 11, ground := Go.Ground.data }, { on := 9, ground := Go.Ground.chain }], guard := none }) rfl (by kernel_rfl) (fun K hK => ?_)
      go_simp
      refine (HIY.out _ _ _ HS6.out HX1.out.2.2 HX1.out.1 HX1.out.2.1).mono ?_
      rintro e w7 ⟨rfl, hs7⟩
      have HS7 := Lib.hid hs7; clear hs7
      refine hK.out _ _ (Or.inl (by kernel_rfl)) (fun _ => ?_)
      clear hK K
      try simp only [Act.put, List.setIfInBounds_toArray, List.set_cons_zero, List.set_cons_succ]
      refine wpG_done (by kernel_rfl) ?_
      skip
      obtain ⟨v7, k7, _, _, _, _, _⟩ := st_cells HS7.out
      have HD7 := Lib.hid (st_drew hB HS7.out)
      go_wp2_with fail
      refine wp_region_G [6] (fun w' => w'.cell? ⟨B, 0, none⟩ = some (.slice (some ⟨tb, tf, none⟩) t.length cap)) (by kernel_rfl) ?_ (fun hHeld => ?_)
      · exact k7
      refine wpG_pure (i := 0) (oi := { dst := some 87, op := Go.Op.move (Go.Operand.tmp 0), type := 91, pos := "l10_topic.go:209", after := #[], guard := none }) (v := ?vg14) rfl (by kernel_rfl) (fun _ _ _ h => h) (Or.inr hHeld) (Or.inl ⟨by rfl, ?yg14⟩) ?_
      case yg14 => (intro wS _; go_simp <;> with_reducible rfl)
      try simp only [Act.put, List.setIfInBounds_toArray, List.set_cons_zero, List.set_cons_succ]
      refine wpG_pure (i := 1) (oi := { dst := some 88, op := Go.Op.move (Go.Operand.tmp 0), type := 91, pos := "l10_topic.go:209", after := #[], guard := none }) (v := ?vg15) rfl (by kernel_rfl) (fun _ _ _ h => h) (Or.inr hHeld) (Or.inl ⟨by rfl, ?yg15⟩) ?_
      case yg15 => (intro wS _; go_simp <;> with_reducible rfl)
      try simp only [Act.put, List.setIfInBounds_toArray, List.set_cons_zero, List.set_cons_succ]
      refine wpG_pure (i := 2) (oi := { dst := some 89, op := Go.Op.nilCheck (Go.Operand.tmp 88), type := 0, pos := "l10_topic.go:209", after := #[{ on := 1, ground := Go.Ground.data }], guard := none }) (v := ?vg16) rfl (by kernel_rfl) (fun _ _ _ h => h) (Or.inr hHeld) (Or.inl ⟨by rfl, ?yg16⟩) ?_
      case yg16 => (intro wS _; go_simp <;> with_reducible rfl)
      try simp only [Act.put, List.setIfInBounds_toArray, List.set_cons_zero, List.set_cons_succ]
      refine wpG_pure (i := 3) (oi := { dst := some 90, op := Go.Op.fieldAddr 74 (Go.Operand.tmp 89) 0, type := 0, pos := "l10_topic.go:209", after := #[{ on := 2, ground := Go.Ground.data }], guard := none }) (v := ?vg17) rfl (by kernel_rfl) (fun _ _ _ h => h) (Or.inr hHeld) (Or.inl ⟨by rfl, ?yg17⟩) ?_
      case yg17 => (intro wS _; go_simp <;> with_reducible rfl)
      try simp only [Act.put, List.setIfInBounds_toArray, List.set_cons_zero, List.set_cons_succ]
      refine wpG_load (i := 4) (oi := { dst := some 91, op := Go.Op.load 24 (Go.Operand.tmp 90), type := 24, pos := "l10_topic.go:209", after := #[{ on := 3, ground := Go.Ground.data }], guard := none }) (v := ?vg18) [[6, 4]] rfl (by kernel_rfl) (fun _ _ _ h => h) hHeld (Or.inl ⟨by rfl, ?yg18⟩) ?_
      case yg18 => (intro wS hSw; (try dsimp only at hSw); go_simp <;> with_reducible rfl)
      try simp only [Act.put, List.setIfInBounds_toArray, List.set_cons_zero, List.set_cons_succ]
      refine wpG_pure (i := 5) (oi := { dst := some 92, op := Go.Op.move (Go.Operand.tmp 1), type := 3, pos := "l10_topic.go:209", after := #[], guard := none }) (v := ?vg19) rfl (by kernel_rfl) (fun _ _ _ h => h) (Or.inr hHeld) (Or.inl ⟨by rfl, ?yg19⟩) ?_
      case yg19 => (intro wS _; go_simp <;> with_reducible rfl)
      try simp only [Act.put, List.setIfInBounds_toArray, List.set_cons_zero, List.set_cons_succ]
      refine wpG_pure (i := 7) (oi := { dst := some 94, op := Go.Op.move (Go.Operand.tmp 2), type := 59, pos := "l10_topic.go:209", after := #[], guard := none }) (v := ?vg20) rfl (by kernel_rfl) (fun _ _ _ h => h) (Or.inr hHeld) (Or.inl ⟨by rfl, ?yg20⟩) ?_
      case yg20 => (intro wS _; go_simp <;> with_reducible rfl)
      try simp only [Act.put, List.setIfInBounds_toArray, List.set_cons_zero, List.set_cons_succ]
      refine wpG_pure (i := 8) (oi := { dst := some 95, op := Go.Op.slice 59 (Go.Operand.tmp 94) (some (Go.Operand.const (Go.Value.int Go.IntKind.i64 1))) none none, type := 59, pos := "l10_topic.go:209", after := #[{ on := 7, ground := Go.Ground.data }], guard := none }) (v := ?vg21) rfl (by kernel_rfl) (fun _ _ _ h => h) (Or.inr hHeld) (Or.inl ⟨by rfl, ?yg21⟩) ?_
      case yg21 => (intro wS _; go_simp <;> with_reducible rfl)
      try simp only [Act.put, List.setIfInBounds_toArray, List.set_cons_zero, List.set_cons_succ]
      refine wpG_one (i := 6) (o := { dst := some 93, op := Go.Op.call { callee := Go.Callee.value (Go.Operand.func 45), args := #[Go.Operand.tmp 91, Go.Operand.tmp 92, Go.Operand.const (Go.Value.string { data := #[43] })], argTypes := #[24, 3, 9] }, type := 3, pos := "l10_topic.go:209", after := #[{ on := 4, ground := Go.Ground.data }, { on := 5, ground := Go.Ground.data }], guard := none }) rfl (by kernel_rfl) (fun K hK => ?_)
      go_simp
      refine (HKS.out any1 (by decide) _ _ _ HD7.out).mono ?_
      rintro e w8 ⟨rfl, hs8⟩
      have HS8 := Lib.hid hs8; clear hs8
      refine hK.out _ _ (Or.inl (by kernel_rfl)) (fun _ => ?_)
      clear hK K
      try simp only [Act.put, List.setIfInBounds_toArray, List.set_cons_zero, List.set_cons_succ]
      refine wpG_one (i := 9) (o := { dst := some 96, op := Go.Op.call { callee := Go.Callee.value (Go.Operand.func 57), args := #[Go.Operand.tmp 87, Go.Operand.tmp 93, Go.Operand.tmp 95], argTypes := #[91, 3, 59] }, type := 0, pos := "l10_topic.go:209", after := #[{ on := 0, ground := Go.Ground.data }, { on := 6, ground := Go.Ground.data }, { on := 8, ground := Go.Ground.data }, { on := 6, ground := Go.Ground.chain }], guard := none }) rfl (by kernel_rfl) (fun K hK => ?_)
      go_simp
      refine (HI1.out _ _ _ HS8.out HX2.out.2.2 HX2.out.1 HX2.out.2.1).mono ?_
      rintro e w9 ⟨rfl, hs9⟩
      have HS9 := Lib.hid hs9; clear hs9
      refine hK.out _ _ (Or.inl (by kernel_rfl)) (fun _ => ?_)
      clear hK K
      try simp only [Act.put, List.setIfInBounds_toArray, List.set_cons_zero, List.set_cons_succ]
      refine wpG_done (by kernel_rfl) ?_
      skip
      go_wp2_with fail
      (try simp only [Exit.inBlock, Exit.then])
      first | (refine bodyPost_ret (results_none rfl _ _ _) rfl ?_) | (refine bodyPost_end (results_none rfl _ _ _) rfl ?_)
      exact ⟨rfl, HS9.out⟩
    have hnz : (((n : Nat) : Int) == 0) = false := by rw [beq_eq_false_iff_ne]; omega
    have HIH' : Hid (∀ (s : ByteArray), s ≠ more → ∀ (xs' : List Int) (c' : Nat) (wx : World), St W0 B B2 (.slice (some ⟨tb, tf, none⟩) t.length cap) xs' c' wx → xs'.Pairwise (· < ·) → xs'.length + 90 * 2 ^ r.length ≤ 1000000 → c' + 4 * 2 ^ r.length ≤ 1000000 → Calls Tryd.prog 57 #[.pointer (some ⟨B, 0, none⟩), .int .i64 (kidR t (u : Int) s), .slice (some ⟨bl, ol + 1, none⟩) (n - 1) (lcap - 1)] wx fun e w' => e = .returned (.tuple #[]) ∧ St W0 B B2 (.slice (some ⟨tb, tf, none⟩) t.length cap) (puts xs' (goR (downR t r) (kidR t (u : Int) s)).1) (c' + (goR (downR t r) (kidR t (u : Int) s)).2) w') := Lib.hid fun s hsm xs' c' wx hst hsx hb1 hb2 =>
      down_go t tb tf cap W0 B B2 hB r _ _ _ u s hsm xs' c' wx hst fun k hk hkm => ih k (n - 1) (some ⟨bl, ol + 1, none⟩) (lcap - 1) xs' c' wx (Lib.hid hst) (Lib.hid HRR.out) (Lib.hid (by have := HN.out; rw [List.length_cons] at this; omega)) (by omega) (by omega) (by omega) (Lib.hid fun z hz => HSZ.out z (by simp [hz])) hk hkm hsx hb1 hb2
    clear ih
    have hpw : 2 ^ (y :: r).length = 2 * 2 ^ r.length := by rw [List.length_cons, Nat.pow_succ]; omega
    rw [hpw] at hxl hcl
    have hp1 : 1 ≤ 2 ^ r.length := Nat.one_le_two_pow
    have hhl := hash_len hw30 u
    have hga := fun k => down_len hw30 r k
    have hgo : ∀ k : Int, (goR (downR t r) k).1.length + 30 ≤ 90 * 2 ^ r.length ∧ (goR (downR t r) k).2 + 2 ≤ 4 * 2 ^ r.length := fun k => by
      unfold goR
      split
      · exact hga k.toNat
      · simp; omega
    have HX1 : Hid ((puts xs (hashR t u).1).length + 90 * 2 ^ r.length ≤ 1000000 ∧ (c + 1 + (hashR t u).2) + 4 * 2 ^ r.length ≤ 1000000 ∧ (puts xs (hashR t u).1).Pairwise (· < ·)) := Lib.hid ⟨by have := puts_len xs (hashR t u).1; omega, by omega, puts_sorted hs⟩
    have HX2 : Hid ((puts (puts xs (hashR t u).1) (goR (downR t r) (kidR t (u : Int) y)).1).length + 90 * 2 ^ r.length ≤ 1000000 ∧ (c + 1 + (hashR t u).2 + (goR (downR t r) (kidR t (u : Int) y)).2) + 4 * 2 ^ r.length ≤ 1000000 ∧ (puts (puts xs (hashR t u).1) (goR (downR t r) (kidR t (u : Int) y)).1).Pairwise (· < ·)) := Lib.hid ⟨by
      have h1 := puts_len xs (hashR t u).1
      have h2 := puts_len (puts xs (hashR t u).1) (goR (downR t r) (kidR t (u : Int) y)).1
      have h3 := hgo (kidR t (u : Int) y)
      omega, by have h3 := hgo (kidR t (u : Int) y); omega, puts_sorted (puts_sorted hs)⟩
    have HFIN : Hid (puts (puts (puts xs (hashR t u).1) (goR (downR t r) (kidR t (u : Int) y)).1) (goR (downR t r) (kidR t (u : Int) any1)).1 = puts xs (downR t (y :: r) u).1 ∧ c + 1 + (hashR t u).2 + (goR (downR t r) (kidR t (u : Int) y)).2 + (goR (downR t r) (kidR t (u : Int) any1)).2 = c + (downR t (y :: r) u).2) := Lib.hid ⟨by
      rw [← puts_app, ← puts_app]; rfl, by simp only [downR]; omega⟩
    rw [← HFIN.out.1, ← HFIN.out.2]
    clear hga hgo HFIN
    have HYM : Hid (y ≠ more) := Lib.hid (HSZ.out y (by simp)).2
    have HYS : Hid (y.size ≤ maxLen) := Lib.hid (HSZ.out y (by simp)).1
    have HHG := Lib.hid (fun (xs' : List Int) (c' : Nat) (wx : World) => hash_go t tb tf cap W0 B B2 HT0.out hB hl hw30 u xs' c' wx)
    have HIY := Lib.hid (HIH'.out y HYM.out); have HI1 := Lib.hid (HIH'.out any1 any1_ne_more); clear HIH'
    have hn1' : (1 : Int) ≤ ((n : Nat) : Int) := by omega
    have HKS := Lib.hid (fun (s : ByteArray) (hsz : s.size ≤ maxLen) (xs' : List Int) (c' : Nat) (wx : World) (h : St W0 B B2 (.slice (some ⟨tb, tf, none⟩) t.length cap) xs' c' wx) => kid_st t tb tf cap W0 B B2 HT0.out hB hr u s hsz wx h)
    have hcc : ((c + 1 : Nat) : Int) = (c : Int) + 1 := by omega
    rw [hcc] at HS1
    clear hcc hpw
    generalize goR (downR t r) (kidR t (u : Int) y) = ga at *
    generalize goR (downR t r) (kidR t (u : Int) any1) = gb at *
    generalize hashR t u = gh at *
    go_enter Tryd.func57, Tryd.ntmps57
    go_wp2_with fail
    refine (HKS.out more (by decide) _ _ _ HS1.out).mono ?_
    rintro e w4 ⟨rfl, hs4⟩
    have HS4 := Lib.hid hs4; clear hs4
    go_wp2_with fail
    refine (HHG.out _ _ _ HS4.out hs (by omega) (by omega)).mono ?_
    rintro e w5 ⟨rfl, hs5⟩
    have HS5 := Lib.hid hs5
    obtain ⟨v5, k0, _, _, _, _, _⟩ := st_cells hs5
    have l5 := st_cell hs5 l0 hbl hbne
    have HD5 := Lib.hid (st_drew hB hs5)
    clear hs5
    go_wp2_with fail
    refine wp_region_G [9] (fun w' => w'.cell? ⟨B, 0, none⟩ = some (.slice (some ⟨tb, tf, none⟩) t.length cap) ∧ w'.cell? ⟨bl, ol, none⟩ = some (.string y)) (by kernel_rfl) ?_ (fun hHeld => ?_)
    · exact ⟨k0, l5⟩
    refine wpG_pure (i := 0) (oi := { dst := some 74, op := Go.Op.move (Go.Operand.tmp 0), type := 91, pos := "l10_topic.go:208", after := #[], guard := none }) (v := ?vg24) rfl (by kernel_rfl) (fun _ _ _ h => h) (Or.inr hHeld) (Or.inl ⟨by rfl, ?yg24⟩) ?_
    case yg24 => (intro wS _; go_simp <;> with_reducible rfl)
    try simp only [Act.put, List.setIfInBounds_toArray, List.set_cons_zero, List.set_cons_succ]
    refine wpG_pure (i := 1) (oi := { dst := some 75, op := Go.Op.move (Go.Operand.tmp 0), type := 91, pos := "l10_topic.go:208", after := #[], guard := none }) (v := ?vg25) rfl (by kernel_rfl) (fun _ _ _ h => h) (Or.inr hHeld) (Or.inl ⟨by rfl, ?yg25⟩) ?_
    case yg25 => (intro wS _; go_simp <;> with_reducible rfl)
    try simp only [Act.put, List.setIfInBounds_toArray, List.set_cons_zero, List.set_cons_succ]
    refine wpG_pure (i := 2) (oi := { dst := some 76, op := Go.Op.nilCheck (Go.Operand.tmp 75), type := 0, pos := "l10_topic.go:208", after := #[{ on := 1, ground := Go.Ground.data }], guard := none }) (v := ?vg26) rfl (by kernel_rfl) (fun _ _ _ h => h) (Or.inr hHeld) (Or.inl ⟨by rfl, ?yg26⟩) ?_
    case yg26 => (intro wS _; go_simp <;> with_reducible rfl)
    try simp only [Act.put, List.setIfInBounds_toArray, List.set_cons_zero, List.set_cons_succ]
    refine wpG_pure (i := 3) (oi := { dst := some 77, op := Go.Op.fieldAddr 74 (Go.Operand.tmp 76) 0, type := 0, pos := "l10_topic.go:208", after := #[{ on := 2, ground := Go.Ground.data }], guard := none }) (v := ?vg27) rfl (by kernel_rfl) (fun _ _ _ h => h) (Or.inr hHeld) (Or.inl ⟨by rfl, ?yg27⟩) ?_
    case yg27 => (intro wS _; go_simp <;> with_reducible rfl)
    try simp only [Act.put, List.setIfInBounds_toArray, List.set_cons_zero, List.set_cons_succ]
    refine wpG_load (i := 4) (oi := { dst := some 78, op := Go.Op.load 24 (Go.Operand.tmp 77), type := 24, pos := "l10_topic.go:208", after := #[{ on := 3, ground := Go.Ground.data }], guard := none }) (v := ?vg28) [[9, 4]] rfl (by kernel_rfl) (fun _ _ _ h => h) hHeld (Or.inl ⟨by rfl, ?yg28⟩) ?_
    case yg28 => (intro wS hSw; (try dsimp only at hSw); go_simp <;> with_reducible rfl)
    try simp only [Act.put, List.setIfInBounds_toArray, List.set_cons_zero, List.set_cons_succ]
    refine wpG_pure (i := 5) (oi := { dst := some 79, op := Go.Op.move (Go.Operand.tmp 1), type := 3, pos := "l10_topic.go:208", after := #[], guard := none }) (v := ?vg29) rfl (by kernel_rfl) (fun _ _ _ h => h) (Or.inr hHeld) (Or.inl ⟨by rfl, ?yg29⟩) ?_
    case yg29 => (intro wS _; go_simp <;> with_reducible rfl)
    try simp only [Act.put, List.setIfInBounds_toArray, List.set_cons_zero, List.set_cons_succ]
    refine wpG_pure (i := 6) (oi := { dst := some 80, op := Go.Op.move (Go.Operand.tmp 2), type := 59, pos := "l10_topic.go:208", after := #[], guard := none }) (v := ?vg30) rfl (by kernel_rfl) (fun _ _ _ h => h) (Or.inr hHeld) (Or.inl ⟨by rfl, ?yg30⟩) ?_
    case yg30 => (intro wS _; go_simp <;> with_reducible rfl)
    try simp only [Act.put, List.setIfInBounds_toArray, List.set_cons_zero, List.set_cons_succ]
    refine wpG_pure (i := 7) (oi := { dst := some 81, op := Go.Op.indexAddr 59 (Go.Operand.tmp 80) (Go.Operand.const (Go.Value.int Go.IntKind.i64 0)), type := 0, pos := "l10_topic.go:208", after := #[{ on := 6, ground := Go.Ground.data }], guard := none }) (v := ?vg31) rfl (by kernel_rfl) (fun _ _ _ h => h) (Or.inr hHeld) (Or.inl ⟨by rfl, ?yg31⟩) ?_
    case yg31 => (intro wS _; go_simp <;> with_reducible rfl)
    try simp only [Act.put, List.setIfInBounds_toArray, List.set_cons_zero, List.set_cons_succ]
    refine wpG_load (i := 8) (oi := { dst := some 82, op := Go.Op.load 9 (Go.Operand.tmp 81), type := 9, pos := "l10_topic.go:208", after := #[{ on := 7, ground := Go.Ground.data }], guard := none }) (v := ?vg32) [[9, 8]] rfl (by kernel_rfl) (fun _ _ _ h => h) hHeld (Or.inl ⟨by rfl, ?yg32⟩) ?_
    case yg32 => (intro wS hSw; (try dsimp only at hSw); go_simp <;> with_reducible rfl)
    try simp only [Act.put, List.setIfInBounds_toArray, List.set_cons_zero, List.set_cons_succ]
    refine wpG_pure (i := 10) (oi := { dst := some 84, op := Go.Op.move (Go.Operand.tmp 2), type := 59, pos := "l10_topic.go:208", after := #[], guard := none }) (v := ?vg33) rfl (by kernel_rfl) (fun _ _ _ h => h) (Or.inr hHeld) (Or.inl ⟨by rfl, ?yg33⟩) ?_
    case yg33 => (intro wS _; go_simp <;> with_reducible rfl)
    try simp only [Act.put, List.setIfInBounds_toArray, List.set_cons_zero, List.set_cons_succ]
    refine wpG_pure (i := 11) (oi := { dst := some 85, op := Go.Op.slice 59 (Go.Operand.tmp 84) (some (Go.Operand.const (Go.Value.int Go.IntKind.i64 1))) none none, type := 59, pos := "l10_topic.go:208", after := #[{ on := 10, ground := Go.Ground.data }], guard := none }) (v := ?vg34) rfl (by kernel_rfl) (fun _ _ _ h => h) (Or.inr hHeld) (Or.inl ⟨by rfl, ?yg34⟩) ?_
    case yg34 => (intro wS _; go_simp <;> with_reducible rfl)
    try simp only [Act.put, List.setIfInBounds_toArray, List.set_cons_zero, List.set_cons_succ]
    refine wpG_one (i := 9) (o := { dst := some 83, op := Go.Op.call { callee := Go.Callee.value (Go.Operand.func 45), args := #[Go.Operand.tmp 78, Go.Operand.tmp 79, Go.Operand.tmp 82], argTypes := #[24, 3, 9] }, type := 3, pos := "l10_topic.go:208", after := #[{ on := 4, ground := Go.Ground.data }, { on := 5, ground := Go.Ground.data }, { on := 8, ground := Go.Ground.data }], guard := none }) rfl (by kernel_rfl) (fun K hK => ?_)
    go_simp
    refine (HKS.out y HYS.out _ _ _ HD5.out).mono ?_
    rintro e w6 ⟨rfl, hs6⟩
    have HS6 := Lib.hid hs6; clear hs6
    refine hK.out _ _ (Or.inl (by kernel_rfl)) (fun _ => ?_)
    clear hK K
    try simp only [Act.put, List.setIfInBounds_toArray, List.set_cons_zero, List.set_cons_succ]
    refine wpG_one (i := 12) (o := { dst := some 86, op := Go.Op.call { callee := Go.Callee.value (Go.Operand.func 57), args := #[Go.Operand.tmp 74, Go.Operand.tmp 83, Go.Operand.tmp 85], argTypes := #[91, 3, 59] }, type := 0, pos := "l10_topic.go:208", after := #[{ on := 0, ground := Go.Ground.data }, { on := 9, ground := Go.Ground.data }, { on := 11, ground := Go.Ground.data }, { on := 9, ground := Go.Ground.chain }], guard := none }) rfl (by kernel_rfl) (fun K hK => ?_)
    go_simp
    refine (HIY.out _ _ _ HS6.out HX1.out.2.2 HX1.out.1 HX1.out.2.1).mono ?_
    rintro e w7 ⟨rfl, hs7⟩
    have HS7 := Lib.hid hs7; clear hs7
    refine hK.out _ _ (Or.inl (by kernel_rfl)) (fun _ => ?_)
    clear hK K
    try simp only [Act.put, List.setIfInBounds_toArray, List.set_cons_zero, List.set_cons_succ]
    refine wpG_done (by kernel_rfl) ?_
    skip
    obtain ⟨v7, k7, _, _, _, _, _⟩ := st_cells HS7.out
    have HD7 := Lib.hid (st_drew hB HS7.out)
    go_wp2_with fail
    refine wp_region_G [6] (fun w' => w'.cell? ⟨B, 0, none⟩ = some (.slice (some ⟨tb, tf, none⟩) t.length cap)) (by kernel_rfl) ?_ (fun hHeld => ?_)
    · exact k7
    refine wpG_pure (i := 0) (oi := { dst := some 87, op := Go.Op.move (Go.Operand.tmp 0), type := 91, pos := "l10_topic.go:209", after := #[], guard := none }) (v := ?vg37) rfl (by kernel_rfl) (fun _ _ _ h => h) (Or.inr hHeld) (Or.inl ⟨by rfl, ?yg37⟩) ?_
    case yg37 => (intro wS _; go_simp <;> with_reducible rfl)
    try simp only [Act.put, List.setIfInBounds_toArray, List.set_cons_zero, List.set_cons_succ]
    refine wpG_pure (i := 1) (oi := { dst := some 88, op := Go.Op.move (Go.Operand.tmp 0), type := 91, pos := "l10_topic.go:209", after := #[], guard := none }) (v := ?vg38) rfl (by kernel_rfl) (fun _ _ _ h => h) (Or.inr hHeld) (Or.inl ⟨by rfl, ?yg38⟩) ?_
    case yg38 => (intro wS _; go_simp <;> with_reducible rfl)
    try simp only [Act.put, List.setIfInBounds_toArray, List.set_cons_zero, List.set_cons_succ]
    refine wpG_pure (i := 2) (oi := { dst := some 89, op := Go.Op.nilCheck (Go.Operand.tmp 88), type := 0, pos := "l10_topic.go:209", after := #[{ on := 1, ground := Go.Ground.data }], guard := none }) (v := ?vg39) rfl (by kernel_rfl) (fun _ _ _ h => h) (Or.inr hHeld) (Or.inl ⟨by rfl, ?yg39⟩) ?_
    case yg39 => (intro wS _; go_simp <;> with_reducible rfl)
    try simp only [Act.put, List.setIfInBounds_toArray, List.set_cons_zero, List.set_cons_succ]
    refine wpG_pure (i := 3) (oi := { dst := some 90, op := Go.Op.fieldAddr 74 (Go.Operand.tmp 89) 0, type := 0, pos := "l10_topic.go:209", after := #[{ on := 2, ground := Go.Ground.data }], guard := none }) (v := ?vg40) rfl (by kernel_rfl) (fun _ _ _ h => h) (Or.inr hHeld) (Or.inl ⟨by rfl, ?yg40⟩) ?_
    case yg40 => (intro wS _; go_simp <;> with_reducible rfl)
    try simp only [Act.put, List.setIfInBounds_toArray, List.set_cons_zero, List.set_cons_succ]
    refine wpG_load (i := 4) (oi := { dst := some 91, op := Go.Op.load 24 (Go.Operand.tmp 90), type := 24, pos := "l10_topic.go:209", after := #[{ on := 3, ground := Go.Ground.data }], guard := none }) (v := ?vg41) [[6, 4]] rfl (by kernel_rfl) (fun _ _ _ h => h) hHeld (Or.inl ⟨by rfl, ?yg41⟩) ?_
    case yg41 => (intro wS hSw; (try dsimp only at hSw); go_simp <;> with_reducible rfl)
    try simp only [Act.put, List.setIfInBounds_toArray, List.set_cons_zero, List.set_cons_succ]
    refine wpG_pure (i := 5) (oi := { dst := some 92, op := Go.Op.move (Go.Operand.tmp 1), type := 3, pos := "l10_topic.go:209", after := #[], guard := none }) (v := ?vg42) rfl (by kernel_rfl) (fun _ _ _ h => h) (Or.inr hHeld) (Or.inl ⟨by rfl, ?yg42⟩) ?_
    case yg42 => (intro wS _; go_simp <;> with_reducible rfl)
    try simp only [Act.put, List.setIfInBounds_toArray, List.set_cons_zero, List.set_cons_succ]
    refine wpG_pure (i := 7) (oi := { dst := some 94, op := Go.Op.move (Go.Operand.tmp 2), type := 59, pos := "l10_topic.go:209", after := #[], guard := none }) (v := ?vg43) rfl (by kernel_rfl) (fun _ _ _ h => h) (Or.inr hHeld) (Or.inl ⟨by rfl, ?yg43⟩) ?_
    case yg43 => (intro wS _; go_simp <;> with_reducible rfl)
    try simp only [Act.put, List.setIfInBounds_toArray, List.set_cons_zero, List.set_cons_succ]
    refine wpG_pure (i := 8) (oi := { dst := some 95, op := Go.Op.slice 59 (Go.Operand.tmp 94) (some (Go.Operand.const (Go.Value.int Go.IntKind.i64 1))) none none, type := 59, pos := "l10_topic.go:209", after := #[{ on := 7, ground := Go.Ground.data }], guard := none }) (v := ?vg44) rfl (by kernel_rfl) (fun _ _ _ h => h) (Or.inr hHeld) (Or.inl ⟨by rfl, ?yg44⟩) ?_
    case yg44 => (intro wS _; go_simp <;> with_reducible rfl)
    try simp only [Act.put, List.setIfInBounds_toArray, List.set_cons_zero, List.set_cons_succ]
    refine wpG_one (i := 6) (o := { dst := some 93, op := Go.Op.call { callee := Go.Callee.value (Go.Operand.func 45), args := #[Go.Operand.tmp 91, Go.Operand.tmp 92, Go.Operand.const (Go.Value.string { data := #[43] })], argTypes := #[24, 3, 9] }, type := 3, pos := "l10_topic.go:209", after := #[{ on := 4, ground := Go.Ground.data }, { on := 5, ground := Go.Ground.data }], guard := none }) rfl (by kernel_rfl) (fun K hK => ?_)
    go_simp
    refine (HKS.out any1 (by decide) _ _ _ HD7.out).mono ?_
    rintro e w8 ⟨rfl, hs8⟩
    have HS8 := Lib.hid hs8; clear hs8
    refine hK.out _ _ (Or.inl (by kernel_rfl)) (fun _ => ?_)
    clear hK K
    try simp only [Act.put, List.setIfInBounds_toArray, List.set_cons_zero, List.set_cons_succ]
    refine wpG_one (i := 9) (o := { dst := some 96, op := Go.Op.call { callee := Go.Callee.value (Go.Operand.func 57), args := #[Go.Operand.tmp 87, Go.Operand.tmp 93, Go.Operand.tmp 95], argTypes := #[91, 3, 59] }, type := 0, pos := "l10_topic.go:209", after := #[{ on := 0, ground := Go.Ground.data }, { on := 6, ground := Go.Ground.data }, { on := 8, ground := Go.Ground.data }, { on := 6, ground := Go.Ground.chain }], guard := none }) rfl (by kernel_rfl) (fun K hK => ?_)
    go_simp
    refine (HI1.out _ _ _ HS8.out HX2.out.2.2 HX2.out.1 HX2.out.2.1).mono ?_
    rintro e w9 ⟨rfl, hs9⟩
    have HS9 := Lib.hid hs9; clear hs9
    refine hK.out _ _ (Or.inl (by kernel_rfl)) (fun _ => ?_)
    clear hK K
    try simp only [Act.put, List.setIfInBounds_toArray, List.set_cons_zero, List.set_cons_succ]
    refine wpG_done (by kernel_rfl) ?_
    skip
    go_wp2_with fail
    (try simp only [Exit.inBlock, Exit.then])
    first | (refine bodyPost_ret (results_none rfl _ _ _) rfl ?_) | (refine bodyPost_end (results_none rfl _ _ _) rfl ?_)
    exact ⟨rfl, HS9.out⟩
end Go.Proofs.YteknmjebokimjaaDoor
