/- Rising fields: both walks. -/
import Derived.Test.YtlmgckijbamgpaaFltL
import Derived.Test.YtlmgckijbamgpaaFrS
import Derived.Test.YtlmgckijbamgpaaFrM
import Derived.Test.YtlmgckijbamgpaaFldP
import Derived.Test.YtlmgckijbamgpaaFld3
namespace Go.Proofs.Ytlmgckijbamgpaa
set_option linter.unusedVariables false
set_option linter.unusedSimpArgs false
open Go.ChangeShapes Go.WideShapes Go.ChangeAt Go.RowKit
set_option maxRecDepth 100000

theorem read_small {s : ByteArray} {l : List Fld} (h0 : R_Read s = some l) : l.length ≤ 40 ∧ ∀ f ∈ l, f.data.size ≤ 400 := by
  have h := bytes_back h0
  constructor
  · rcases Nat.lt_or_ge 40 l.length with h1 | h1
    · rw [RF_long h1] at h; cases h
    · exact h1
  · intro f hf
    rcases Nat.lt_or_ge 400 f.data.size with h1 | h1
    · rw [RF_no hf (.inr h1)] at h; cases h
    · exact h1
theorem rising_no (s : ByteArray) (h : R_Read s = none) : R_Rising s = none := by unfold R_Rising; rw [h]
theorem rising_yes {s : ByteArray} {r : List Fld} (h : R_Read s = some r) (h2 : risB r = true) : R_Rising s = some r := by unfold R_Rising; rw [h]; exact if_pos h2
theorem rising_bad {s : ByteArray} {r : List Fld} (h : R_Read s = some r) (h2 : risB r = false) : R_Rising s = none := by unfold R_Rising; rw [h]; simp [h2]
theorem pl_none (w w' : World) (v : Value) (h : Below w.heap.size w w') (hv : v = .slice none 0 0) : PlO none w (.returned (.tuple #[v, .bool false])) w' := ⟨v, [], rfl, by rw [hv]; exact World.ownsRow_nil _ _ _ _, h, by simp, fun r h => by cases h⟩
set_option maxHeartbeats 4000000 in
theorem impl_risingFields (s : ByteArray) (w : World) (hs : s.size ≤ 1048576) : Calls Try.prog 96 #[.string s] w (PlO (R_Rising s) w) := by
  have HRP := Lib.hid (impl_readPlaced s w hs)
  cases hR : R_Read s with
  | none =>
    rw [hR] at HRP
    rw [rising_no s hR]
    clear hR
    go_enter Try.func96, Try.ntmps96
    go_wp2_with fail
    refine HRP.out.mono ?_
    rintro e w1 ⟨v, l, rfl, ho, hb, _, _⟩
    have HB := Lib.hid hb
    clear ho hb
    go_wp2_with fail
    go_ret2
    exact pl_none _ _ _ HB.out rfl
  | some r =>
    rw [hR] at HRP
    have HY := Lib.hid (rising_yes hR)
    have HN := Lib.hid (rising_bad hR)
    generalize R_Rising s = Q at *
    clear hR
    unfold PlO at HRP
    go_enter Try.func96, Try.ntmps96
    go_wp2_with fail
    refine HRP.out.mono ?_
    rintro e w1 ⟨v, l, rfl, ho, hb, hl40, hrr⟩
    have HRL : Hid (r = l.map (·.1)) := Lib.hid (hrr r rfl)
    have HB := Lib.hid hb
    obtain ⟨va, vc, rfl⟩ := form_of_own ho
    have HO := Lib.hid ho
    clear ho hb hrr HRP
    obtain ⟨n, hn⟩ : ∃ n, l.length = n := ⟨_, rfl⟩
    have HLN := Lib.hid hn
    rw [hn] at HO hl40
    rw [hn]
    clear hn
    go_wp2_with fail
    go_loopw [16] (fun iv wr => ∃ k : Nat, k ≤ n ∧ iv = .int .i64 (k : Int) ∧ Hid ((List.range (k - 1)).all (risS r) = true) ∧ Hid (Drawn w1 wr)) (fun iv _ => n - (intOf iv).toNat)
    case atStart => exact ⟨0, Nat.zero_le _, rfl, Lib.hid rfl, Lib.hid (Drawn.refl _)⟩
    case round =>
      obtain ⟨wx, rfl⟩ : ∃ z : World, z = wr := ⟨_, rfl⟩
      obtain ⟨k, hk, rfl, HA, HD⟩ := hrel
      by_cases hkn : k < n
      case neg =>
        obtain rfl : k = n := by omega
        have hq : Q = some r := HY.out (by
          have := HA.out
          unfold risB
          rw [HRL.out] at this ⊢
          rw [List.length_map, HLN.out]; exact this)
        subst hq
        have HO2 := Lib.hid (own_later HO.out (HD.out.below _))
        have HB2 := Lib.hid (rstep HB.out (HD.out.below _))
        go_wp2_with fail
        go_ret2
        have hL := HLN.out
        exact ⟨_, l, rfl, by rw [hL]; exact HO2.out, HB2.out, by omega, fun q h => by cases h; exact HRL.out⟩
      by_cases hk0 : k = 0
      · subst hk0
        go_wp2_with fail
        go_quiet (fail)
        go_wp2_with fail
        go_roundw
        case rel => exact ⟨1, by omega, by go_num, Lib.hid rfl, Lib.hid (HD.out.trans ⟨nq, rfl⟩)⟩
        case measure => (simp [intOf]; try omega)
      obtain ⟨j, hj⟩ : ∃ j, k = j + 1 := ⟨k - 1, by omega⟩
      obtain ⟨x, hx⟩ : ∃ x, l[j]? = some x := ⟨l[j]'(by have := HLN.out; omega), List.getElem?_eq_getElem _⟩
      obtain ⟨y, hy⟩ : ∃ y, l[k]? = some y := ⟨l[k]'(by have := HLN.out; omega), List.getElem?_eq_getElem _⟩
      have hxr : r[j]? = some x.1 := by rw [HRL.out, List.getElem?_map, hx]; rfl
      have hyr : r[j + 1]? = some y.1 := by rw [HRL.out, List.getElem?_map, ← hj, hy]; rfl
      have HRS := Lib.hid (risS_eq hxr hyr)
      have HRLL : Hid (j + 1 < r.length) := Lib.hid (by rw [HRL.out, List.length_map, HLN.out]; omega)
      have hrw := (own_rw HO.out).below (HD.out.below _)
      obtain ⟨b, off, rfl, hbl, hc⟩ := hrw.at (fun e => by have := congrArg List.length e; rw [pvs_len, HLN.out] at this; simp at this; omega)
      have d0 : wx.cell? ⟨b, off + j * 5, none⟩ = _ := hc _ _ (pvs_at l j x hx).1
      have d1 : wx.cell? ⟨b, off + k * 5, none⟩ = _ := hc _ _ (pvs_at l k y hy).1
      have q1 : (1 : Int) ≤ (k : Int) := by omega
      have q2 : (0 : Int) ≤ (k : Int) - 1 := by omega
      have q3 : (k : Int) - 1 < (n : Int) := by omega
      have q4 : ((k : Int) - 1).toNat = j := by omega
      have q5 : 0 < k := by omega
      have q6 : (k : Int) < (n : Int) := by omega
      have HJ : Hid (k = j + 1) := Lib.hid hj
      clear hc hrw hx hy hxr hyr hj
      obtain ⟨⟨xn, xk, xm, xd⟩, xa⟩ := x
      obtain ⟨⟨yn, yk, ym, yd⟩, ya⟩ := y
      simp only at d0 d1 HRS
      by_cases hxy : xn < yn
      · have hge : ¬ xn ≥ yn := by omega
        have HA2 : Hid ((List.range (k + 1 - 1)).all (risS r) = true) := Lib.hid (by
          have h := HA.out
          have e := HJ.out
          subst e
          exact ris_next h (by rw [HRS.out]; exact decide_eq_true hxy))
        clear HRS hxy
        go_wp2_with fail
        go_quiet (fail)
        go_wp2_with fail
        go_roundw
        case rel => exact ⟨k + 1, by omega, by go_num, HA2, Lib.hid (HD.out.trans ⟨nq, rfl⟩)⟩
        case measure => (simp [intOf]; try omega)
      · have hge : xn ≥ yn := by omega
        have hq : Q = none := HN.out (ris_no HRLL.out (by rw [HRS.out]; exact decide_eq_false hxy))
        subst hq
        have HB2 := Lib.hid (rstep HB.out (HD.out.below _))
        clear HRS hxy
        go_wp2_with fail
        go_quiet (fail)
        go_wp2_with fail
        go_ret2
        exact pl_none _ _ _ (rdrew HB2.out nq) rfl
theorem rd_none (w w' : World) (v : Value) (h : Below w.heap.size w w') (hv : v = .slice none 0 0) : ReadO none w (.returned (.tuple #[v, .bool false])) w' := ⟨v, rfl, by rw [hv]; exact World.ownsRow_nil _ _ _ _, h⟩
set_option maxHeartbeats 4000000 in
theorem spec_l5Fields (s : ByteArray) (w : World) (hs : s.size ≤ 1048576) : Calls Try.prog 103 #[.string s] w (ReadO (R_Rising s) w) := by
  have HRP := Lib.hid (spec_ReadFields s w hs)
  cases hR : R_Read s with
  | none =>
    rw [hR] at HRP
    rw [rising_no s hR]
    clear hR
    unfold ReadO at HRP
    go_enter Try.func103, Try.ntmps103
    go_wp2_with fail
    refine HRP.out.mono ?_
    rintro e w1 ⟨v, rfl, ho, hb⟩
    have HB := Lib.hid hb
    clear ho hb
    go_wp2_with fail
    go_ret2
    exact rd_none _ _ _ HB.out rfl
  | some r =>
    rw [hR] at HRP
    have HY := Lib.hid (rising_yes hR)
    have HN := Lib.hid (rising_bad hR)
    generalize R_Rising s = Q at *
    have HR40 := read_small hR
    clear hR
    unfold ReadO at HRP
    go_enter Try.func103, Try.ntmps103
    go_wp2_with fail
    refine HRP.out.mono ?_
    rintro e w1 ⟨v, rfl, ho, hb⟩
    have HB := Lib.hid hb
    obtain ⟨va, vc, rfl⟩ := form_of_own ho
    have HO := Lib.hid ho
    have hl40 := HR40.1
    clear ho hb HRP HR40
    simp only [Option.getD_some, Option.isSome_some] at HO ⊢
    obtain ⟨n, hn⟩ : ∃ n, r.length = n := ⟨_, rfl⟩
    have HLN := Lib.hid hn
    rw [hn] at HO hl40
    rw [hn]
    clear hn
    go_wp2_with fail
    go_loopw [17] (fun iv wr => ∃ k : Nat, k ≤ n ∧ iv = .int .i64 (k : Int) ∧ Hid ((List.range (k - 1)).all (risS r) = true) ∧ Hid (Below w1.heap.size w1 wr)) (fun iv _ => n - (intOf iv).toNat)
    case atStart => exact ⟨0, Nat.zero_le _, rfl, Lib.hid rfl, Lib.hid (Below.refl _ _)⟩
    case round =>
      obtain ⟨wx, rfl⟩ : ∃ z : World, z = wr := ⟨_, rfl⟩
      obtain ⟨k, hk, rfl, HA, HD⟩ := hrel
      by_cases hkn : k < n
      case neg =>
        obtain rfl : k = n := by omega
        have hq : Q = some r := HY.out (by
          have := HA.out
          unfold risB
          rw [HLN.out]; exact this)
        subst hq
        have HO2 := Lib.hid (own_later HO.out HD.out)
        have HB2 := Lib.hid (rstep HB.out HD.out)
        go_wp2_with fail
        go_ret2
        have hL := HLN.out
        exact ⟨_, rfl, by simp only [Option.getD_some]; rw [hL]; exact HO2.out, HB2.out⟩
      obtain ⟨y, hy⟩ : ∃ y, r[k]? = some y := ⟨r[k]'(by have := HLN.out; omega), List.getElem?_eq_getElem _⟩
      have HYK := Lib.hid hy
      obtain ⟨b, off, rfl, hbl, hbw, c0, c1, c2, c3⟩ := row4 (own_rw HO.out) HD.out hy
      clear hy
      obtain ⟨yn, yk, ym, yd⟩ := y
      simp only at c0 c1 c2 c3
      have HA2 := Lib.hid (heap_alloc_new wx (.cells #[.int .i64 yn, .int .i64 yk, .int .i64 ym, .string yd] 57))
      have HD2 := Lib.hid (ralloc HD.out (.cells #[.int .i64 yn, .int .i64 yk, .int .i64 ym, .string yd] 57))
      by_cases hk0 : k = 0
      · subst hk0
        simp only [Nat.zero_mul, Nat.add_zero] at c0 c1 c2 c3
        go_wp2_with fail
        go_quiet (fail)
        go_wp2_with fail
        go_roundw
        case rel => exact ⟨1, by omega, by go_num, Lib.hid rfl, Lib.hid (rdrew HD2.out nq)⟩
        case measure => (simp [intOf]; try omega)
      obtain ⟨j, hj⟩ : ∃ j, k = j + 1 := ⟨k - 1, by omega⟩
      obtain ⟨x, hx⟩ : ∃ x, r[j]? = some x := ⟨r[j]'(by have := HLN.out; omega), List.getElem?_eq_getElem _⟩
      have HRS := Lib.hid (risS_eq hx (by rw [← hj]; exact HYK.out))
      have HRLL : Hid (j + 1 < r.length) := Lib.hid (by rw [HLN.out]; omega)
      obtain ⟨b2, off2, hae, hbl2, hbw2, d0, -, -, -⟩ := row4 (own_rw HO.out) HD.out hx
      cases hae
      have q1 : (1 : Int) ≤ (k : Int) := by omega
      have q2 : (0 : Int) ≤ (k : Int) - 1 := by omega
      have q3 : (k : Int) - 1 < (n : Int) := by omega
      have q4 : ((k : Int) - 1).toNat = j := by omega
      have q5 : 0 < k := by omega
      have q6 : (k : Int) < (n : Int) := by omega
      have HJ : Hid (k = j + 1) := Lib.hid hj
      clear hx hj
      obtain ⟨xn, xk, xm, xd⟩ := x
      simp only at d0 HRS
      by_cases hxy : xn < yn
      · have hge : ¬ xn ≥ yn := by omega
        have HA3 : Hid ((List.range (k + 1 - 1)).all (risS r) = true) := Lib.hid (by
          have h := HA.out
          have e := HJ.out
          subst e
          exact ris_next h (by rw [HRS.out]; exact decide_eq_true hxy))
        clear HRS hxy
        go_wp2_with fail
        go_quiet (fail)
        go_wp2_with fail
        go_roundw
        case rel => exact ⟨k + 1, by omega, by go_num, HA3, Lib.hid (rdrew HD2.out nq)⟩
        case measure => (simp [intOf]; try omega)
      · have hge : xn ≥ yn := by omega
        have hq : Q = none := HN.out (ris_no HRLL.out (by rw [HRS.out]; exact decide_eq_false hxy))
        subst hq
        have HB2 := Lib.hid (rstep HB.out HD2.out)
        clear HRS hxy
        go_wp2_with fail
        go_quiet (fail)
        go_wp2_with fail
        go_ret2
        exact rd_none _ _ _ (rdrew HB2.out nq) rfl
end Go.Proofs.Ytlmgckijbamgpaa
