/- The contracts of topics and patterns: what takes in what, what meets; the exported functions. -/
import Derived.Test.YteknmjebokimjaaDoorTopic2
namespace Go.Proofs.YteknmjebokimjaaDoor
set_option linter.unusedVariables false
open Go.ChangeShapes Go.WideShapes Go.ChangeAt Go.RowKit
set_option maxRecDepth 100000

theorem str_eq {x y : ByteArray} : x.toList = y.toList ↔ x = y := by
  rw [ByteArray.toList_eq, ByteArray.toList_eq]
  exact ⟨fun h => ba_ext h, fun h => by rw [h]⟩
theorem more_43 : ({ data := #[35] } : ByteArray) ≠ any1 := by decide
theorem drop_strs {xs : List ByteArray} {i : Nat} {x : ByteArray} (hx : xs[i]? = some x) : xs.drop i = x :: xs.drop (i + 1) := by
  obtain ⟨hi, rfl⟩ := List.getElem?_eq_some_iff.1 hx
  exact List.drop_eq_getElem_cons hi

theorem takesR_more (p q : List ByteArray) : takesR (more :: p) q = true := by cases q <;> simp [takesR]
theorem takesR_nil {x : ByteArray} (p : List ByteArray) (h : x ≠ more) : takesR (x :: p) [] = false := by simp [takesR, h]
theorem takesR_cons {x : ByteArray} (y : ByteArray) (p q : List ByteArray) (h : x ≠ more) : takesR (x :: p) (y :: q) = if x ≠ y ∧ (x ≠ any1 ∨ y = more) then false else takesR p q := by rw [takesR, if_neg h]
theorem coversR_more (p q : List ByteArray) : coversR (more :: p) q = true := by cases q <;> simp [coversR]
theorem coversR_nil {x : ByteArray} (p : List ByteArray) (h : x ≠ more) : coversR (x :: p) [] = false := by simp [coversR, h]
theorem coversR_cons {x : ByteArray} (y : ByteArray) (p q : List ByteArray) (h : x ≠ more) : coversR (x :: p) (y :: q) = if y = more then false else if x ≠ any1 ∧ x ≠ y then false else coversR p q := by rw [coversR, if_neg h]
theorem fitsR_more (p q : List ByteArray) : fitsR (more :: p) q = true := by cases q <;> simp [fitsR]
theorem fitsR_nil {x : ByteArray} (p : List ByteArray) (h : x ≠ more) : fitsR (x :: p) [] = false := by simp [fitsR, h]
theorem fitsR_cons {x : ByteArray} (y : ByteArray) (p q : List ByteArray) (h : x ≠ more) : fitsR (x :: p) (y :: q) = if x ≠ any1 ∧ x ≠ y then false else fitsR p q := by rw [fitsR, if_neg h]

set_option maxHeartbeats 4000000 in
theorem impl_takes (p q : List ByteArray) (a b : Option Addr) (ca cb : Nat) (w : World) (ha : Rw w a (strs p)) (hb : Rw w b (strs q)) (hp : p.length ≤ 1048577) (hq : q.length ≤ 1048577) :
    Calls Tryd.prog 63 #[.slice a p.length ca, .slice b q.length cb] w fun e w' => e = .returned (.bool (takesR p q)) ∧ w = w' := by
  have HA := Lib.hid ha; have HB := Lib.hid hb; clear ha hb
  go_enter Tryd.func63, Tryd.ntmps63
  go_wp2_with fail
  go_loop [9] (fun iv => ∃ (i : Nat), i ≤ p.length ∧ i ≤ q.length ∧ iv = .int .i64 (i : Int) ∧ Hid (takesR (p.drop i) (q.drop i) = takesR p q)) (fun iv => p.length - (intOf iv).toNat)
  case atStart => exact ⟨0, by omega, by omega, rfl, rfl⟩
  case round =>
    obtain ⟨i, hip, hiq, rfl, HR⟩ := hrel
    by_cases hlp : i < p.length
    case neg =>
      obtain rfl : i = p.length := by omega
      by_cases hpq : p.length = q.length
      · have HE : Hid (takesR p q = true) := Lib.hid (by rw [← HR.out, List.drop_length, hpq, List.drop_length]; rfl)
        go_wp2_with fail
        go_ret
        exact ⟨ret_bool (by rw [HE.out]; try (simp; try omega)), rfl⟩
      · have HE : Hid (takesR p q = false) := Lib.hid (by
          rw [← HR.out, List.drop_length]
          obtain ⟨y, hy⟩ : ∃ y, q[p.length]? = some y := ⟨_, List.getElem?_eq_getElem (by omega)⟩
          rw [drop_strs hy]; rfl)
        go_wp2_with fail
        go_ret
        exact ⟨ret_bool (by rw [HE.out]; try (simp; try omega)), rfl⟩
    obtain ⟨b1, off1, x, hx, rfl, hbl1, hc1⟩ := strs_cell HA.out hlp
    have hrp := HR.out
    rw [drop_strs hx] at hrp
    by_cases h0 : x.toList = [35]
    · have HE : Hid (takesR p q = true) := Lib.hid (by rw [← hrp, yes_more h0, takesR_more])
      clear hx hrp HR
      go_wp2_with fail
      go_ret
      exact ⟨ret_bool HE.out.symm, rfl⟩
    have b0 : (x.toList == [35]) = false := by simp [h0]
    by_cases hlq : i < q.length
    case neg =>
      have HE : Hid (takesR p q = false) := Lib.hid (by
        have hd : q.drop i = [] := List.drop_eq_nil_of_le (by omega)
        rw [← hrp, hd, takesR_nil _ (not_more h0)])
      have hieq : ((i : Int) == (q.length : Int)) = true := by simp; omega
      clear hx hrp HR
      go_wp2_with fail
      go_ret
      exact ⟨ret_bool HE.out.symm, rfl⟩
    obtain ⟨b2, off2, y, hy, rfl, hbl2, hc2⟩ := strs_cell HB.out hlq
    rw [drop_strs hy, takesR_cons _ _ _ (not_more h0)] at hrp
    have hieq : ((i : Int) == (q.length : Int)) = false := by simp; omega
    have HRP := Lib.hid hrp
    clear hx hy hrp HR
    cases h1 : (x.toList == [43]) <;> cases h2 : (y.toList == [35]) <;> cases h3 : (x.toList == y.toList)
    all_goals first
      | (exfalso; simp only [beq_iff_eq, beq_eq_false_iff_ne, ne_eq] at h1 h2 h3; first | (rw [h3] at h0; exact h0 h2) | (rw [h1, h2] at h3; simp at h3; done) | (rw [h1] at h3; simp [← h3] at h2; done))
      | (have HE : Hid (takesR p q = false) := Lib.hid (by
           simp only [beq_iff_eq, beq_eq_false_iff_ne, ne_eq] at h1 h2 h3
           rw [← HRP.out]; simp [any1, more, ← is1, h0, h1, h2, h3, ← str_eq]; done)
         go_wp2_with fail
         try (case roundEnd => exfalso; rename_i h; simp [h1, h2, h3] at h; done)
         go_ret
         exact ⟨ret_bool HE.out.symm, rfl⟩)
      | (have HE : Hid (takesR (p.drop (i + 1)) (q.drop (i + 1)) = takesR p q) := Lib.hid (by
           simp only [beq_iff_eq, beq_eq_false_iff_ne, ne_eq] at h1 h2 h3
           rw [← HRP.out]; simp [any1, more, ← is1, h0, h1, h2, h3, ← str_eq]; done)
         go_wp2_with fail
         go_round
         case rel => exact ⟨i + 1, by omega, by omega, by go_num, HE.out⟩
         case measure => simp [intOf]; omega)

set_option maxHeartbeats 4000000 in
theorem spec_covers (p q : List ByteArray) (a b : Option Addr) (ca cb : Nat) (w : World) (ha : Rw w a (strs p)) (hb : Rw w b (strs q)) (hp : p.length ≤ 1048577) (hq : q.length ≤ 1048577) :
    Calls Tryd.prog 62 #[.slice a p.length ca, .slice b q.length cb] w fun e w' => e = .returned (.bool (coversR p q)) ∧ w = w' := by
  have HA := Lib.hid ha; have HB := Lib.hid hb; clear ha hb
  go_enter Tryd.func62, Tryd.ntmps62
  go_wp2_with fail
  go_loop [9] (fun iv => ∃ (i : Nat), i ≤ p.length ∧ i ≤ q.length ∧ iv = .int .i64 (i : Int) ∧ Hid (coversR (p.drop i) (q.drop i) = coversR p q)) (fun iv => p.length - (intOf iv).toNat)
  case atStart => exact ⟨0, by omega, by omega, rfl, rfl⟩
  case round =>
    obtain ⟨i, hip, hiq, rfl, HR⟩ := hrel
    by_cases hlp : i < p.length
    case neg =>
      obtain rfl : i = p.length := by omega
      by_cases hpq : p.length = q.length
      · have HE : Hid (coversR p q = true) := Lib.hid (by rw [← HR.out, List.drop_length, hpq, List.drop_length]; rfl)
        go_wp2_with fail
        go_ret
        exact ⟨ret_bool (by rw [HE.out]; try (simp; try omega)), rfl⟩
      · have HE : Hid (coversR p q = false) := Lib.hid (by
          rw [← HR.out, List.drop_length]
          obtain ⟨y, hy⟩ : ∃ y, q[p.length]? = some y := ⟨_, List.getElem?_eq_getElem (by omega)⟩
          rw [drop_strs hy]; rfl)
        go_wp2_with fail
        go_ret
        exact ⟨ret_bool (by rw [HE.out]; try (simp; try omega)), rfl⟩
    obtain ⟨b1, off1, x, hx, rfl, hbl1, hc1⟩ := strs_cell HA.out hlp
    have hrp := HR.out
    rw [drop_strs hx] at hrp
    by_cases h0 : x.toList = [35]
    · have HE : Hid (coversR p q = true) := Lib.hid (by rw [← hrp, yes_more h0, coversR_more])
      clear hx hrp HR
      go_wp2_with fail
      go_ret
      exact ⟨ret_bool HE.out.symm, rfl⟩
    have b0 : (x.toList == [35]) = false := by simp [h0]
    by_cases hlq : i < q.length
    case neg =>
      have HE : Hid (coversR p q = false) := Lib.hid (by
        have hd : q.drop i = [] := List.drop_eq_nil_of_le (by omega)
        rw [← hrp, hd, coversR_nil _ (not_more h0)])
      have hieq : ((i : Int) == (q.length : Int)) = true := by simp; omega
      clear hx hrp HR
      go_wp2_with fail
      go_ret
      exact ⟨ret_bool HE.out.symm, rfl⟩
    obtain ⟨b2, off2, y, hy, rfl, hbl2, hc2⟩ := strs_cell HB.out hlq
    rw [drop_strs hy, coversR_cons _ _ _ (not_more h0)] at hrp
    have hieq : ((i : Int) == (q.length : Int)) = false := by simp; omega
    have HRP := Lib.hid hrp
    clear hx hy hrp HR
    cases h1 : (x.toList == [43]) <;> cases h2 : (y.toList == [35]) <;> cases h3 : (x.toList == y.toList)
    all_goals first
      | (exfalso; simp only [beq_iff_eq, beq_eq_false_iff_ne, ne_eq] at h1 h2 h3; first | (rw [h3] at h0; exact h0 h2) | (rw [h1, h2] at h3; simp at h3; done) | (rw [h1] at h3; simp [← h3] at h2; done))
      | (have HE : Hid (coversR p q = false) := Lib.hid (by
           simp only [beq_iff_eq, beq_eq_false_iff_ne, ne_eq] at h1 h2 h3
           rw [← HRP.out]; simp [any1, more, ← is1, h0, h1, h2, h3, ← str_eq]; done)
         go_wp2_with fail
         try (case roundEnd => exfalso; rename_i h; simp [h1, h2, h3] at h; done)
         go_ret
         exact ⟨ret_bool HE.out.symm, rfl⟩)
      | (have HE : Hid (coversR (p.drop (i + 1)) (q.drop (i + 1)) = coversR p q) := Lib.hid (by
           simp only [beq_iff_eq, beq_eq_false_iff_ne, ne_eq] at h1 h2 h3
           rw [← HRP.out]; simp [any1, more, ← is1, h0, h1, h2, h3, ← str_eq]; done)
         go_wp2_with fail
         go_round
         case rel => exact ⟨i + 1, by omega, by omega, by go_num, HE.out⟩
         case measure => simp [intOf]; omega)

set_option maxHeartbeats 4000000 in
theorem spec_fits (p q : List ByteArray) (a b : Option Addr) (ca cb : Nat) (w : World) (ha : Rw w a (strs p)) (hb : Rw w b (strs q)) (hp : p.length ≤ 1048577) (hq : q.length ≤ 1048577) :
    Calls Tryd.prog 66 #[.slice a p.length ca, .slice b q.length cb] w fun e w' => e = .returned (.bool (fitsR p q)) ∧ w = w' := by
  have HA := Lib.hid ha; have HB := Lib.hid hb; clear ha hb
  go_enter Tryd.func66, Tryd.ntmps66
  go_wp2_with fail
  go_loop [9] (fun iv => ∃ (i : Nat), i ≤ p.length ∧ i ≤ q.length ∧ iv = .int .i64 (i : Int) ∧ Hid (fitsR (p.drop i) (q.drop i) = fitsR p q)) (fun iv => p.length - (intOf iv).toNat)
  case atStart => exact ⟨0, by omega, by omega, rfl, rfl⟩
  case round =>
    obtain ⟨i, hip, hiq, rfl, HR⟩ := hrel
    by_cases hlp : i < p.length
    case neg =>
      obtain rfl : i = p.length := by omega
      by_cases hpq : p.length = q.length
      · have HE : Hid (fitsR p q = true) := Lib.hid (by rw [← HR.out, List.drop_length, hpq, List.drop_length]; rfl)
        go_wp2_with fail
        go_ret
        exact ⟨ret_bool (by rw [HE.out]; try (simp; try omega)), rfl⟩
      · have HE : Hid (fitsR p q = false) := Lib.hid (by
          rw [← HR.out, List.drop_length]
          obtain ⟨y, hy⟩ : ∃ y, q[p.length]? = some y := ⟨_, List.getElem?_eq_getElem (by omega)⟩
          rw [drop_strs hy]; rfl)
        go_wp2_with fail
        go_ret
        exact ⟨ret_bool (by rw [HE.out]; try (simp; try omega)), rfl⟩
    obtain ⟨b1, off1, x, hx, rfl, hbl1, hc1⟩ := strs_cell HA.out hlp
    have hrp := HR.out
    rw [drop_strs hx] at hrp
    by_cases h0 : x.toList = [35]
    · have HE : Hid (fitsR p q = true) := Lib.hid (by rw [← hrp, yes_more h0, fitsR_more])
      clear hx hrp HR
      go_wp2_with fail
      go_ret
      exact ⟨ret_bool HE.out.symm, rfl⟩
    have b0 : (x.toList == [35]) = false := by simp [h0]
    by_cases hlq : i < q.length
    case neg =>
      have HE : Hid (fitsR p q = false) := Lib.hid (by
        have hd : q.drop i = [] := List.drop_eq_nil_of_le (by omega)
        rw [← hrp, hd, fitsR_nil _ (not_more h0)])
      have hieq : ((i : Int) == (q.length : Int)) = true := by simp; omega
      clear hx hrp HR
      go_wp2_with fail
      go_ret
      exact ⟨ret_bool HE.out.symm, rfl⟩
    obtain ⟨b2, off2, y, hy, rfl, hbl2, hc2⟩ := strs_cell HB.out hlq
    rw [drop_strs hy, fitsR_cons _ _ _ (not_more h0)] at hrp
    have hieq : ((i : Int) == (q.length : Int)) = false := by simp; omega
    have HRP := Lib.hid hrp
    clear hx hy hrp HR
    cases h1 : (x.toList == [43]) <;> cases h2 : (y.toList == [35]) <;> cases h3 : (x.toList == y.toList)
    all_goals first
      | (exfalso; simp only [beq_iff_eq, beq_eq_false_iff_ne, ne_eq] at h1 h2 h3; first | (rw [h3] at h0; exact h0 h2) | (rw [h1, h2] at h3; simp at h3; done) | (rw [h1] at h3; simp [← h3] at h2; done))
      | (have HE : Hid (fitsR p q = false) := Lib.hid (by
           simp only [beq_iff_eq, beq_eq_false_iff_ne, ne_eq] at h1 h2 h3
           rw [← HRP.out]; simp [any1, more, ← is1, h0, h1, h2, h3, ← str_eq]; done)
         go_wp2_with fail
         try (case roundEnd => exfalso; rename_i h; simp [h1, h2, h3] at h; done)
         go_ret
         exact ⟨ret_bool HE.out.symm, rfl⟩)
      | (have HE : Hid (fitsR (p.drop (i + 1)) (q.drop (i + 1)) = fitsR p q) := Lib.hid (by
           simp only [beq_iff_eq, beq_eq_false_iff_ne, ne_eq] at h1 h2 h3
           rw [← HRP.out]; simp [any1, more, ← is1, h0, h1, h2, h3, ← str_eq]; done)
         go_wp2_with fail
         go_round
         case rel => exact ⟨i + 1, by omega, by omega, by go_num, HE.out⟩
         case measure => simp [intOf]; omega)

theorem meetR_cons {x y : ByteArray} (p q : List ByteArray) (h : x ≠ more) (h' : y ≠ more) : meetR (x :: p) (y :: q) = if x ≠ any1 ∧ y ≠ any1 ∧ x ≠ y then false else meetR p q := by rw [meetR, if_neg (by simp [h, h'])]
theorem meetR_yes {x y : ByteArray} (p q : List ByteArray) (h : x = more ∨ y = more) : meetR (x :: p) (y :: q) = true := by rw [meetR, if_pos h]

set_option maxHeartbeats 4000000 in
theorem spec_meet (p q : List ByteArray) (a b : Option Addr) (ca cb : Nat) (w : World) (ha : Rw w a (strs p)) (hb : Rw w b (strs q)) (hp : p.length ≤ 1048577) (hq : q.length ≤ 1048577) :
    Calls Tryd.prog 64 #[.slice a p.length ca, .slice b q.length cb] w fun e w' => e = .returned (.bool (meetR p q)) ∧ Drawn w w' := by
  have HA := Lib.hid ha; have HB := Lib.hid hb; clear ha hb
  go_enter Tryd.func64, Tryd.ntmps64
  go_wp2_with fail
  go_loopw [5] (fun iv wr => ∃ (i n : Nat), i ≤ p.length ∧ i ≤ q.length ∧ iv = .int .i64 (i : Int) ∧ wr = w.drewN n ∧ Hid (meetR (p.drop i) (q.drop i) = meetR p q)) (fun iv _ => p.length - (intOf iv).toNat)
  case atStart => exact ⟨0, 0, by omega, by omega, rfl, rfl, rfl⟩
  case round =>
    obtain ⟨i, n, hip, hiq, rfl, rfl, HR⟩ := hrel
    have hrp := HR.out
    clear HR
    by_cases hlp : i < p.length
    case neg =>
      have hd : p.drop i = [] := List.drop_eq_nil_of_le (by omega)
      have q1 : ((i : Int) == (p.length : Int)) = true := by simp; omega
      rw [hd] at hrp
      by_cases hlq : i < q.length
      case neg =>
        have hd2 : q.drop i = [] := List.drop_eq_nil_of_le (by omega)
        have q2 : ((p.length : Int) == (q.length : Int)) = true := by simp; omega
        rw [hd2] at hrp
        have HE : Hid (meetR p q = true) := Lib.hid hrp.symm
        clear hrp hd hd2
        go_wp2_with fail
        go_ret
        exact ⟨ret_bool HE.out.symm, n, rfl⟩
      obtain ⟨b2, off2, y, hy, rfl, hbl2, hc2⟩ := strs_cell HB.out hlq
      have q2 : ((p.length : Int) == (q.length : Int)) = false := by simp; omega
      rw [drop_strs hy] at hrp
      have HE : Hid (meetR p q = decide (y = more)) := Lib.hid hrp.symm
      clear hrp hd hy
      cases h2 : (y.toList == [35])
      · have HE2 : Hid (meetR p q = false) := Lib.hid (by simp only [beq_eq_false_iff_ne, ne_eq] at h2; rw [HE.out]; simp [not_more h2])
        go_wp2_with fail
        go_ret
        exact ⟨ret_bool HE2.out.symm, n, rfl⟩
      · have HE2 : Hid (meetR p q = true) := Lib.hid (by simp only [beq_iff_eq] at h2; rw [HE.out]; simp [yes_more h2])
        go_wp2_with fail
        go_ret
        exact ⟨ret_bool HE2.out.symm, n, rfl⟩
    obtain ⟨b1, off1, x, hx, rfl, hbl1, hc1⟩ := strs_cell HA.out hlp
    rw [drop_strs hx] at hrp
    have q1 : ((i : Int) == (p.length : Int)) = false := by simp; omega
    by_cases hlq : i < q.length
    case neg =>
      have hd2 : q.drop i = [] := List.drop_eq_nil_of_le (by omega)
      have q2 : ((i : Int) == (q.length : Int)) = true := by simp; omega
      have q3 : ((p.length : Int) == (q.length : Int)) = false := by simp; omega
      rw [hd2] at hrp
      have HE : Hid (meetR p q = decide (x = more)) := Lib.hid hrp.symm
      clear hrp hd2 hx
      cases h1 : (x.toList == [35])
      · have HE2 : Hid (meetR p q = false) := Lib.hid (by simp only [beq_eq_false_iff_ne, ne_eq] at h1; rw [HE.out]; simp [not_more h1])
        go_wp2_with fail
        go_ret
        exact ⟨ret_bool HE2.out.symm, n, rfl⟩
      · have HE2 : Hid (meetR p q = true) := Lib.hid (by simp only [beq_iff_eq] at h1; rw [HE.out]; simp [yes_more h1])
        go_wp2_with fail
        go_ret
        exact ⟨ret_bool HE2.out.symm, n, rfl⟩
    obtain ⟨b2, off2, y, hy, rfl, hbl2, hc2⟩ := strs_cell HB.out hlq
    have q2 : ((i : Int) == (q.length : Int)) = false := by simp; omega
    rw [drop_strs hy] at hrp
    have HRP := Lib.hid hrp
    clear hrp hx hy
    cases h1 : (x.toList == [35])
    case true =>
      have HE : Hid (meetR p q = true) := Lib.hid (by simp only [beq_iff_eq] at h1; rw [← HRP.out, meetR_yes _ _ (.inl (yes_more h1))])
      go_wp2_with fail
      go_ret
      exact ⟨ret_bool HE.out.symm, n, rfl⟩
    cases h2 : (y.toList == [35])
    case true =>
      have HE : Hid (meetR p q = true) := Lib.hid (by simp only [beq_iff_eq] at h2; rw [← HRP.out, meetR_yes _ _ (.inr (yes_more h2))])
      go_wp2_with fail
      go_ret
      exact ⟨ret_bool HE.out.symm, n, rfl⟩
    have HRC : Hid ((if x ≠ any1 ∧ y ≠ any1 ∧ x ≠ y then false else meetR (p.drop (i + 1)) (q.drop (i + 1))) = meetR p q) := Lib.hid (by
      simp only [beq_eq_false_iff_ne, ne_eq] at h1 h2
      rw [← HRP.out, meetR_cons _ _ (not_more h1) (not_more h2)])
    cases h3 : (x.toList == [43])
    case true =>
      have HE : Hid (meetR (p.drop (i + 1)) (q.drop (i + 1)) = meetR p q) := Lib.hid (by simp only [beq_iff_eq] at h3; rw [← HRC.out]; exact (if_neg (fun h => h.1 (yes_any1 h3))).symm)
      cases h4 : (y.toList == [43]) <;> cases h5 : (x.toList == y.toList)
      all_goals
        (go_wp2_with fail
         go_quiet (fail)
         go_wp2_with fail
         go_roundw
         case rel => exact ⟨i + 1, _, by omega, by omega, by go_num, rfl, HE.out⟩
         case measure => simp [intOf]; omega)
    cases h4 : (y.toList == [43])
    case true =>
      have HE : Hid (meetR (p.drop (i + 1)) (q.drop (i + 1)) = meetR p q) := Lib.hid (by simp only [beq_iff_eq] at h4; rw [← HRC.out]; exact (if_neg (fun h => h.2.1 (yes_any1 h4))).symm)
      cases h5 : (x.toList == y.toList)
      all_goals
        (go_wp2_with fail
         go_quiet (fail)
         go_wp2_with fail
         go_roundw
         case rel => exact ⟨i + 1, _, by omega, by omega, by go_num, rfl, HE.out⟩
         case measure => simp [intOf]; omega)
    cases h5 : (x.toList == y.toList)
    case true =>
      have HE : Hid (meetR (p.drop (i + 1)) (q.drop (i + 1)) = meetR p q) := Lib.hid (by simp only [beq_iff_eq] at h5; rw [← HRC.out]; exact (if_neg (fun h => h.2.2 (str_eq.1 h5))).symm)
      (go_wp2_with fail
       go_quiet (fail)
       go_wp2_with fail
       go_roundw
       case rel => exact ⟨i + 1, _, by omega, by omega, by go_num, rfl, HE.out⟩
       case measure => simp [intOf]; omega)
    have HE : Hid (meetR p q = false) := Lib.hid (by
      simp only [beq_eq_false_iff_ne, ne_eq] at h3 h4 h5
      rw [← HRC.out]; exact if_pos ⟨not_any1 h3, not_any1 h4, fun e => h5 (str_eq.2 e)⟩)
    go_wp2_with fail
    go_quiet (fail)
    go_wp2_with fail
    go_ret
    exact ⟨ret_bool HE.out.symm, drawn_more _ _ _⟩

set_option maxHeartbeats 4000000 in
theorem impl_meet (p q : List ByteArray) (a b : Option Addr) (ca cb : Nat) (w : World) (ha : Rw w a (strs p)) (hb : Rw w b (strs q)) (hp : p.length ≤ 1048577) (hq : q.length ≤ 1048577) :
    Calls Tryd.prog 65 #[.slice a p.length ca, .slice b q.length cb] w fun e w' => e = .returned (.bool (meetR p q)) ∧ Drawn w w' := by
  have HA := Lib.hid ha; have HB := Lib.hid hb; clear ha hb
  go_enter Tryd.func65, Tryd.ntmps65
  go_wp2_with fail
  go_loopw [5] (fun iv wr => ∃ (i n : Nat), i ≤ p.length ∧ i ≤ q.length ∧ iv = .int .i64 (i : Int) ∧ wr = w.drewN n ∧ Hid (meetR (p.drop i) (q.drop i) = meetR p q)) (fun iv _ => p.length - (intOf iv).toNat)
  case atStart => exact ⟨0, 0, by omega, by omega, rfl, rfl, rfl⟩
  case round =>
    obtain ⟨i, n, hip, hiq, rfl, rfl, HR⟩ := hrel
    have hrp := HR.out
    clear HR
    by_cases hlp : i < p.length
    case neg =>
      have hd : p.drop i = [] := List.drop_eq_nil_of_le (by omega)
      have q1 : ((i : Int) == (p.length : Int)) = true := by simp; omega
      rw [hd] at hrp
      by_cases hlq : i < q.length
      case neg =>
        have hd2 : q.drop i = [] := List.drop_eq_nil_of_le (by omega)
        have q2 : ((p.length : Int) == (q.length : Int)) = true := by simp; omega
        rw [hd2] at hrp
        have HE : Hid (meetR p q = true) := Lib.hid hrp.symm
        clear hrp hd hd2
        go_wp2_with fail
        go_ret
        exact ⟨ret_bool HE.out.symm, n, rfl⟩
      obtain ⟨b2, off2, y, hy, rfl, hbl2, hc2⟩ := strs_cell HB.out hlq
      have q2 : ((p.length : Int) == (q.length : Int)) = false := by simp; omega
      rw [drop_strs hy] at hrp
      have HE : Hid (meetR p q = decide (y = more)) := Lib.hid hrp.symm
      clear hrp hd hy
      cases h2 : (y.toList == [35])
      · have HE2 : Hid (meetR p q = false) := Lib.hid (by simp only [beq_eq_false_iff_ne, ne_eq] at h2; rw [HE.out]; simp [not_more h2])
        go_wp2_with fail
        go_ret
        exact ⟨ret_bool HE2.out.symm, n, rfl⟩
      · have HE2 : Hid (meetR p q = true) := Lib.hid (by simp only [beq_iff_eq] at h2; rw [HE.out]; simp [yes_more h2])
        go_wp2_with fail
        go_ret
        exact ⟨ret_bool HE2.out.symm, n, rfl⟩
    obtain ⟨b1, off1, x, hx, rfl, hbl1, hc1⟩ := strs_cell HA.out hlp
    rw [drop_strs hx] at hrp
    have q1 : ((i : Int) == (p.length : Int)) = false := by simp; omega
    by_cases hlq : i < q.length
    case neg =>
      have hd2 : q.drop i = [] := List.drop_eq_nil_of_le (by omega)
      have q2 : ((i : Int) == (q.length : Int)) = true := by simp; omega
      have q3 : ((p.length : Int) == (q.length : Int)) = false := by simp; omega
      rw [hd2] at hrp
      have HE : Hid (meetR p q = decide (x = more)) := Lib.hid hrp.symm
      clear hrp hd2 hx
      cases h1 : (x.toList == [35])
      · have HE2 : Hid (meetR p q = false) := Lib.hid (by simp only [beq_eq_false_iff_ne, ne_eq] at h1; rw [HE.out]; simp [not_more h1])
        go_wp2_with fail
        go_ret
        exact ⟨ret_bool HE2.out.symm, n, rfl⟩
      · have HE2 : Hid (meetR p q = true) := Lib.hid (by simp only [beq_iff_eq] at h1; rw [HE.out]; simp [yes_more h1])
        go_wp2_with fail
        go_ret
        exact ⟨ret_bool HE2.out.symm, n, rfl⟩
    obtain ⟨b2, off2, y, hy, rfl, hbl2, hc2⟩ := strs_cell HB.out hlq
    have q2 : ((i : Int) == (q.length : Int)) = false := by simp; omega
    rw [drop_strs hy] at hrp
    have HRP := Lib.hid hrp
    clear hrp hx hy
    cases h1 : (x.toList == [35])
    case true =>
      have HE : Hid (meetR p q = true) := Lib.hid (by simp only [beq_iff_eq] at h1; rw [← HRP.out, meetR_yes _ _ (.inl (yes_more h1))])
      go_wp2_with fail
      go_ret
      exact ⟨ret_bool HE.out.symm, n, rfl⟩
    cases h2 : (y.toList == [35])
    case true =>
      have HE : Hid (meetR p q = true) := Lib.hid (by simp only [beq_iff_eq] at h2; rw [← HRP.out, meetR_yes _ _ (.inr (yes_more h2))])
      go_wp2_with fail
      go_ret
      exact ⟨ret_bool HE.out.symm, n, rfl⟩
    have HRC : Hid ((if x ≠ any1 ∧ y ≠ any1 ∧ x ≠ y then false else meetR (p.drop (i + 1)) (q.drop (i + 1))) = meetR p q) := Lib.hid (by
      simp only [beq_eq_false_iff_ne, ne_eq] at h1 h2
      rw [← HRP.out, meetR_cons _ _ (not_more h1) (not_more h2)])
    cases h3 : (x.toList == [43])
    case true =>
      have HE : Hid (meetR (p.drop (i + 1)) (q.drop (i + 1)) = meetR p q) := Lib.hid (by simp only [beq_iff_eq] at h3; rw [← HRC.out]; exact (if_neg (fun h => h.1 (yes_any1 h3))).symm)
      cases h4 : (y.toList == [43]) <;> cases h5 : (x.toList == y.toList)
      all_goals
        (go_wp2_with fail
         go_quiet (fail)
         go_wp2_with fail
         go_roundw
         case rel => exact ⟨i + 1, _, by omega, by omega, by go_num, rfl, HE.out⟩
         case measure => simp [intOf]; omega)
    cases h4 : (y.toList == [43])
    case true =>
      have HE : Hid (meetR (p.drop (i + 1)) (q.drop (i + 1)) = meetR p q) := Lib.hid (by simp only [beq_iff_eq] at h4; rw [← HRC.out]; exact (if_neg (fun h => h.2.1 (yes_any1 h4))).symm)
      cases h5 : (x.toList == y.toList)
      all_goals
        (go_wp2_with fail
         go_quiet (fail)
         go_wp2_with fail
         go_roundw
         case rel => exact ⟨i + 1, _, by omega, by omega, by go_num, rfl, HE.out⟩
         case measure => simp [intOf]; omega)
    cases h5 : (x.toList == y.toList)
    case true =>
      have HE : Hid (meetR (p.drop (i + 1)) (q.drop (i + 1)) = meetR p q) := Lib.hid (by simp only [beq_iff_eq] at h5; rw [← HRC.out]; exact (if_neg (fun h => h.2.2 (str_eq.1 h5))).symm)
      (go_wp2_with fail
       go_quiet (fail)
       go_wp2_with fail
       go_roundw
       case rel => exact ⟨i + 1, _, by omega, by omega, by go_num, rfl, HE.out⟩
       case measure => simp [intOf]; omega)
    have HE : Hid (meetR p q = false) := Lib.hid (by
      simp only [beq_eq_false_iff_ne, ne_eq] at h3 h4 h5
      rw [← HRC.out]; exact if_pos ⟨not_any1 h3, not_any1 h4, fun e => h5 (str_eq.2 e)⟩)
    go_wp2_with fail
    go_quiet (fail)
    go_wp2_with fail
    go_ret
    exact ⟨ret_bool HE.out.symm, drawn_more _ _ _⟩

/-! ### the exported functions -/
theorem impl_goodPattern (s : ByteArray) (w : World) (m : Int) (hs : s.size ≤ 1048576) (hm : w.cell? ⟨0, 0, none⟩ = some (.int .i64 m)) : Calls Tryd.prog 28 #[.string s] w fun e w' => e = .returned (.bool (gPat s)) ∧ Below w.heap.size w w' := by
  cases hg : gPat s with
  | true =>
    have H := Lib.hid (levels_yes s w m hs hm hg); clear hg hm
    go_enter Tryd.func28, Tryd.ntmps28
    go_wp2_with fail
    refine H.out.mono ?_
    rintro e w' ⟨b, cap, rfl, hrow, hb⟩
    have HB := Lib.hid hb; clear hb hrow
    go_wp2_with fail
    go_ret
    exact ⟨rfl, HB.out⟩
  | false =>
    have H := Lib.hid (levels_no s w m hs hm hg); clear hg hm
    go_enter Tryd.func28, Tryd.ntmps28
    go_wp2_with fail
    refine H.out.mono ?_
    rintro e w' ⟨rfl, hb⟩
    have HB := Lib.hid hb; clear hb
    go_wp2_with fail
    go_ret
    exact ⟨rfl, HB.out⟩
theorem impl_goodTopic (s : ByteArray) (w : World) (m : Int) (hs : s.size ≤ 1048576) (hm : w.cell? ⟨0, 0, none⟩ = some (.int .i64 m)) : Calls Tryd.prog 30 #[.string s] w fun e w' => e = .returned (.bool (gTop s)) ∧ Below w.heap.size w w' := by
  cases hg : gPat s with
  | true =>
    have H := Lib.hid (levels_yes s w m hs hm hg)
    have HT : Hid (gTop s = !((pieces 47 s).any fun x => !lvl x)) := Lib.hid (by rw [gTop_eq hg]; simp [List.all_eq_not_any_not])
    have hn := pieces_le 47 s
    have H63 : Hid (∀ x ∈ pieces 47 s, x.size ≤ 9223372036854775807) := Lib.hid fun x hx => by have := pieces_size 47 s x hx; omega
    have HC := Lib.hid (fun (wx : World) (b cap : Nat) (hrow : Rw wx (some ⟨b, 0, none⟩) (strs (pieces 47 s))) => has_top (some ⟨b, 0, none⟩) cap (pieces 47 s) wx hrow (by omega) H63.out)
    clear hg hm H63
    go_enter Tryd.func30, Tryd.ntmps30
    go_wp2_with fail
    refine H.out.mono ?_
    rintro e w1 ⟨b, cap, rfl, hrow, hb⟩
    have HB := Lib.hid hb; have HROW := Lib.hid hrow; clear hb hrow H
    generalize pieces 47 s = xs at *
    go_wp2_with (go_at_call 59; refine (HC.out _ _ _ HROW.out).mono ?_; rintro e w' ⟨rfl, rfl⟩)
    go_ret
    exact ⟨ret_bool HT.out.symm, HB.out⟩
  | false =>
    have H := Lib.hid (levels_no s w m hs hm hg)
    have HT := Lib.hid (gTop_no hg); clear hg hm
    go_enter Tryd.func30, Tryd.ntmps30
    go_wp2_with fail
    refine H.out.mono ?_
    rintro e w' ⟨rfl, hb⟩
    have HB := Lib.hid hb; clear hb
    go_wp2_with fail
    go_ret
    exact ⟨ret_bool HT.out.symm, HB.out⟩

set_option maxHeartbeats 1000000 in
theorem impl_PatternsMeet (p q : ByteArray) (w : World) (m : Int) (hp : p.size ≤ 1048576) (hq : q.size ≤ 1048576) (hm : w.cell? ⟨0, 0, none⟩ = some (.int .i64 m)) : Calls Tryd.prog 34 #[.string p, .string q] w fun e w' => e = .returned (.tuple #[.bool (TopicR meetR (gPat p) (gPat q) p q).1, .bool (TopicR meetR (gPat p) (gPat q) p q).2]) ∧ Below w.heap.size w w' := by
  have H1 := Lib.hid (fun wx (h : wx.cell? ⟨0, 0, none⟩ = some (.int .i64 m)) => impl_goodPattern p wx m hp h)
  have H2 := Lib.hid (fun wx (h : wx.cell? ⟨0, 0, none⟩ = some (.int .i64 m)) => impl_goodPattern q wx m hq h)
  have HM := Lib.hid hm; clear hm
  have hn1 := pieces_le 47 p
  have hn2 := pieces_le 47 q
  cases h1 : gPat p with
  | false =>
    have HR : Hid (TopicR meetR false (gPat q) p q = (false, false)) := Lib.hid rfl
    rw [HR.out]; rw [h1] at H1; clear h1
    go_enter Tryd.func34, Tryd.ntmps34
    go_wp2_with fail
    refine (H1.out _ HM.out).mono ?_
    rintro e w1 ⟨rfl, hb⟩
    have HB := Lib.hid hb; clear hb
    go_wp2_with fail
    go_ret2
    exact ⟨rfl, HB.out⟩
  | true =>
  cases h2 : gPat q with
  | false =>
    have HR : Hid (TopicR meetR true false p q = (false, false)) := Lib.hid rfl
    rw [HR.out]; rw [h1] at H1; rw [h2] at H2; clear h1 h2
    go_enter Tryd.func34, Tryd.ntmps34
    go_wp2_with fail
    refine (H1.out _ HM.out).mono ?_
    rintro e w1 ⟨rfl, hb⟩
    have HB := Lib.hid hb; clear hb
    go_wp2_with fail
    refine (H2.out _ (below_later HB.out HM.out)).mono ?_
    rintro e w2 ⟨rfl, hb⟩
    have HB2 := Lib.hid (HB.out.trans (hb.mono HB.out.size)); clear hb
    go_wp2_with fail
    go_ret2
    exact ⟨rfl, HB2.out⟩
  | true =>
    have HR : Hid (TopicR meetR true true p q = (meetR (pieces 47 p) (pieces 47 q), true)) := Lib.hid rfl
    rw [HR.out]
    have hga : gPat p = true := id h1
    have hgb : gPat q = true := by first | exact h2 | exact gTop_gPat h2
    have HL1 := Lib.hid (fun wx (h : wx.cell? ⟨0, 0, none⟩ = some (.int .i64 m)) => levels_yes p wx m hp h hga)
    have HL2 := Lib.hid (fun wx (h : wx.cell? ⟨0, 0, none⟩ = some (.int .i64 m)) => levels_yes q wx m hq h hgb)
    rw [h1] at H1; rw [h2] at H2
    have HQ2 := Lib.hid h2
    clear h1 h2 hga hgb HR
    unfold LevOf at HL1 HL2
    go_enter Tryd.func34, Tryd.ntmps34
    go_wp2_with fail
    refine (H1.out _ HM.out).mono ?_
    rintro e w1 ⟨rfl, hb⟩
    have HB1 := Lib.hid hb; clear hb
    have HM1 := Lib.hid (below_later HB1.out HM.out)
    go_wp2_with fail
    refine (H2.out _ HM1.out).mono ?_
    rintro e w2 ⟨rfl, hb⟩
    have HB2 := Lib.hid (HB1.out.trans (hb.mono HB1.out.size)); clear hb
    have HM2 := Lib.hid (below_later HB2.out HM.out)
    go_wp2_with fail
    refine (HL1.out _ HM2.out).mono ?_
    rintro e w3 ⟨b3, cap3, rfl, hrow3, hb⟩
    have HR3 := Lib.hid hrow3
    have HB3 := Lib.hid (HB2.out.trans (hb.mono HB2.out.size)); clear hb hrow3
    have HM3 := Lib.hid (below_later HB3.out HM.out)
    go_wp2_with fail
    refine (HL2.out _ HM3.out).mono ?_
    rintro e w4 ⟨b4, cap4, rfl, hrow4, hb⟩
    have HR4 := Lib.hid hrow4; have HR3' := Lib.hid (HR3.out.below hb)
    have HB4 := Lib.hid (HB3.out.trans (hb.mono HB3.out.size)); clear hb hrow4
    go_wp2_with fail
    refine (impl_meet (pieces 47 p) (pieces 47 q) _ _ _ _ _ HR3'.out HR4.out (by omega) (by omega)).mono ?_
    rintro e w5 ⟨rfl, hw⟩
    have HB5 := Lib.hid (HB4.out.trans (hw.below _)); clear hw
    go_wp2_with fail
    go_ret2
    exact ⟨rfl, HB5.out⟩

set_option maxHeartbeats 1000000 in
theorem impl_PatternCovers (p q : ByteArray) (w : World) (m : Int) (hp : p.size ≤ 1048576) (hq : q.size ≤ 1048576) (hm : w.cell? ⟨0, 0, none⟩ = some (.int .i64 m)) : Calls Tryd.prog 32 #[.string p, .string q] w fun e w' => e = .returned (.tuple #[.bool (TopicR takesR (gPat p) (gPat q) p q).1, .bool (TopicR takesR (gPat p) (gPat q) p q).2]) ∧ Below w.heap.size w w' := by
  have H1 := Lib.hid (fun wx (h : wx.cell? ⟨0, 0, none⟩ = some (.int .i64 m)) => impl_goodPattern p wx m hp h)
  have H2 := Lib.hid (fun wx (h : wx.cell? ⟨0, 0, none⟩ = some (.int .i64 m)) => impl_goodPattern q wx m hq h)
  have HM := Lib.hid hm; clear hm
  have hn1 := pieces_le 47 p
  have hn2 := pieces_le 47 q
  cases h1 : gPat p with
  | false =>
    have HR : Hid (TopicR takesR false (gPat q) p q = (false, false)) := Lib.hid rfl
    rw [HR.out]; rw [h1] at H1; clear h1
    go_enter Tryd.func32, Tryd.ntmps32
    go_wp2_with fail
    refine (H1.out _ HM.out).mono ?_
    rintro e w1 ⟨rfl, hb⟩
    have HB := Lib.hid hb; clear hb
    go_wp2_with fail
    go_ret2
    exact ⟨rfl, HB.out⟩
  | true =>
  cases h2 : gPat q with
  | false =>
    have HR : Hid (TopicR takesR true false p q = (false, false)) := Lib.hid rfl
    rw [HR.out]; rw [h1] at H1; rw [h2] at H2; clear h1 h2
    go_enter Tryd.func32, Tryd.ntmps32
    go_wp2_with fail
    refine (H1.out _ HM.out).mono ?_
    rintro e w1 ⟨rfl, hb⟩
    have HB := Lib.hid hb; clear hb
    go_wp2_with fail
    refine (H2.out _ (below_later HB.out HM.out)).mono ?_
    rintro e w2 ⟨rfl, hb⟩
    have HB2 := Lib.hid (HB.out.trans (hb.mono HB.out.size)); clear hb
    go_wp2_with fail
    go_ret2
    exact ⟨rfl, HB2.out⟩
  | true =>
    have HR : Hid (TopicR takesR true true p q = (takesR (pieces 47 p) (pieces 47 q), true)) := Lib.hid rfl
    rw [HR.out]
    have hga : gPat p = true := id h1
    have hgb : gPat q = true := by first | exact h2 | exact gTop_gPat h2
    have HL1 := Lib.hid (fun wx (h : wx.cell? ⟨0, 0, none⟩ = some (.int .i64 m)) => levels_yes p wx m hp h hga)
    have HL2 := Lib.hid (fun wx (h : wx.cell? ⟨0, 0, none⟩ = some (.int .i64 m)) => levels_yes q wx m hq h hgb)
    rw [h1] at H1; rw [h2] at H2
    have HQ2 := Lib.hid h2
    clear h1 h2 hga hgb HR
    unfold LevOf at HL1 HL2
    go_enter Tryd.func32, Tryd.ntmps32
    go_wp2_with fail
    refine (H1.out _ HM.out).mono ?_
    rintro e w1 ⟨rfl, hb⟩
    have HB1 := Lib.hid hb; clear hb
    have HM1 := Lib.hid (below_later HB1.out HM.out)
    go_wp2_with fail
    refine (H2.out _ HM1.out).mono ?_
    rintro e w2 ⟨rfl, hb⟩
    have HB2 := Lib.hid (HB1.out.trans (hb.mono HB1.out.size)); clear hb
    have HM2 := Lib.hid (below_later HB2.out HM.out)
    go_wp2_with fail
    refine (HL1.out _ HM2.out).mono ?_
    rintro e w3 ⟨b3, cap3, rfl, hrow3, hb⟩
    have HR3 := Lib.hid hrow3
    have HB3 := Lib.hid (HB2.out.trans (hb.mono HB2.out.size)); clear hb hrow3
    have HM3 := Lib.hid (below_later HB3.out HM.out)
    go_wp2_with fail
    refine (HL2.out _ HM3.out).mono ?_
    rintro e w4 ⟨b4, cap4, rfl, hrow4, hb⟩
    have HR4 := Lib.hid hrow4; have HR3' := Lib.hid (HR3.out.below hb)
    have HB4 := Lib.hid (HB3.out.trans (hb.mono HB3.out.size)); clear hb hrow4
    go_wp2_with fail
    refine (impl_takes (pieces 47 p) (pieces 47 q) _ _ _ _ _ HR3'.out HR4.out (by omega) (by omega)).mono ?_
    rintro e w5 ⟨rfl, hw⟩
    subst hw; have HB5 := HB4
    go_wp2_with fail
    go_ret2
    exact ⟨rfl, HB5.out⟩

set_option maxHeartbeats 1000000 in
theorem impl_TopicFits (p q : ByteArray) (w : World) (m : Int) (hp : p.size ≤ 1048576) (hq : q.size ≤ 1048576) (hm : w.cell? ⟨0, 0, none⟩ = some (.int .i64 m)) : Calls Tryd.prog 36 #[.string p, .string q] w fun e w' => e = .returned (.tuple #[.bool (TopicR takesR (gPat p) (gTop q) p q).1, .bool (TopicR takesR (gPat p) (gTop q) p q).2]) ∧ Below w.heap.size w w' := by
  have H1 := Lib.hid (fun wx (h : wx.cell? ⟨0, 0, none⟩ = some (.int .i64 m)) => impl_goodPattern p wx m hp h)
  have H2 := Lib.hid (fun wx (h : wx.cell? ⟨0, 0, none⟩ = some (.int .i64 m)) => impl_goodTopic q wx m hq h)
  have HM := Lib.hid hm; clear hm
  have hn1 := pieces_le 47 p
  have hn2 := pieces_le 47 q
  cases h1 : gPat p with
  | false =>
    have HR : Hid (TopicR takesR false (gTop q) p q = (false, false)) := Lib.hid rfl
    rw [HR.out]; rw [h1] at H1; clear h1
    go_enter Tryd.func36, Tryd.ntmps36
    go_wp2_with fail
    refine (H1.out _ HM.out).mono ?_
    rintro e w1 ⟨rfl, hb⟩
    have HB := Lib.hid hb; clear hb
    go_wp2_with fail
    go_ret2
    exact ⟨rfl, HB.out⟩
  | true =>
  cases h2 : gTop q with
  | false =>
    have HR : Hid (TopicR takesR true false p q = (false, false)) := Lib.hid rfl
    rw [HR.out]; rw [h1] at H1; rw [h2] at H2; clear h1 h2
    go_enter Tryd.func36, Tryd.ntmps36
    go_wp2_with fail
    refine (H1.out _ HM.out).mono ?_
    rintro e w1 ⟨rfl, hb⟩
    have HB := Lib.hid hb; clear hb
    go_wp2_with fail
    refine (H2.out _ (below_later HB.out HM.out)).mono ?_
    rintro e w2 ⟨rfl, hb⟩
    have HB2 := Lib.hid (HB.out.trans (hb.mono HB.out.size)); clear hb
    go_wp2_with fail
    go_ret2
    exact ⟨rfl, HB2.out⟩
  | true =>
    have HR : Hid (TopicR takesR true true p q = (takesR (pieces 47 p) (pieces 47 q), true)) := Lib.hid rfl
    rw [HR.out]
    have hga : gPat p = true := id h1
    have hgb : gPat q = true := by first | exact h2 | exact gTop_gPat h2
    have HL1 := Lib.hid (fun wx (h : wx.cell? ⟨0, 0, none⟩ = some (.int .i64 m)) => levels_yes p wx m hp h hga)
    have HL2 := Lib.hid (fun wx (h : wx.cell? ⟨0, 0, none⟩ = some (.int .i64 m)) => levels_yes q wx m hq h hgb)
    rw [h1] at H1; rw [h2] at H2
    have HQ2 := Lib.hid h2
    clear h1 h2 hga hgb HR
    unfold LevOf at HL1 HL2
    go_enter Tryd.func36, Tryd.ntmps36
    go_wp2_with fail
    refine (H1.out _ HM.out).mono ?_
    rintro e w1 ⟨rfl, hb⟩
    have HB1 := Lib.hid hb; clear hb
    have HM1 := Lib.hid (below_later HB1.out HM.out)
    go_wp2_with fail
    refine (H2.out _ HM1.out).mono ?_
    rintro e w2 ⟨rfl, hb⟩
    have HB2 := Lib.hid (HB1.out.trans (hb.mono HB1.out.size)); clear hb
    have HM2 := Lib.hid (below_later HB2.out HM.out)
    go_wp2_with fail
    refine (HL1.out _ HM2.out).mono ?_
    rintro e w3 ⟨b3, cap3, rfl, hrow3, hb⟩
    have HR3 := Lib.hid hrow3
    have HB3 := Lib.hid (HB2.out.trans (hb.mono HB2.out.size)); clear hb hrow3
    have HM3 := Lib.hid (below_later HB3.out HM.out)
    go_wp2_with fail
    refine (HL2.out _ HM3.out).mono ?_
    rintro e w4 ⟨b4, cap4, rfl, hrow4, hb⟩
    have HR4 := Lib.hid hrow4; have HR3' := Lib.hid (HR3.out.below hb)
    have HB4 := Lib.hid (HB3.out.trans (hb.mono HB3.out.size)); clear hb hrow4
    go_wp2_with fail
    refine (impl_takes (pieces 47 p) (pieces 47 q) _ _ _ _ _ HR3'.out HR4.out (by omega) (by omega)).mono ?_
    rintro e w5 ⟨rfl, hw⟩
    subst hw; have HB5 := HB4
    go_wp2_with fail
    go_ret2
    exact ⟨rfl, HB5.out⟩

set_option maxHeartbeats 1000000 in
theorem spec_PatternsMeet (p q : ByteArray) (w : World) (hp : p.size ≤ 1048576) (hq : q.size ≤ 1048576) : Calls Tryd.prog 33 #[.string p, .string q] w fun e w' => e = .returned (.tuple #[.bool (TopicR meetR (gPat p) (gPat q) p q).1, .bool (TopicR meetR (gPat p) (gPat q) p q).2]) ∧ Below w.heap.size w w' := by
  have H1 := Lib.hid (fun wx => spec_goodPattern p wx hp)
  have H2 := Lib.hid (fun wx => spec_goodPattern q wx hq)
  have hn1 := pieces_le 47 p
  have hn2 := pieces_le 47 q
  cases h1 : gPat p with
  | false =>
    have HR : Hid (TopicR meetR false (gPat q) p q = (false, false)) := Lib.hid rfl
    rw [HR.out]; rw [h1] at H1; clear h1
    go_enter Tryd.func33, Tryd.ntmps33
    go_wp2_with fail
    refine (H1.out _).mono ?_
    rintro e w1 ⟨rfl, hb⟩
    have HB := Lib.hid hb; clear hb
    go_wp2_with fail
    go_ret2
    exact ⟨rfl, HB.out⟩
  | true =>
  cases h2 : gPat q with
  | false =>
    have HR : Hid (TopicR meetR true false p q = (false, false)) := Lib.hid rfl
    rw [HR.out]; rw [h1] at H1; rw [h2] at H2; clear h1 h2
    go_enter Tryd.func33, Tryd.ntmps33
    go_wp2_with fail
    refine (H1.out _).mono ?_
    rintro e w1 ⟨rfl, hb⟩
    have HB := Lib.hid hb; clear hb
    go_wp2_with fail
    refine (H2.out _).mono ?_
    rintro e w2 ⟨rfl, hb⟩
    have HB2 := Lib.hid (HB.out.trans (hb.mono HB.out.size)); clear hb
    go_wp2_with fail
    go_ret2
    exact ⟨rfl, HB2.out⟩
  | true =>
    have HR : Hid (TopicR meetR true true p q = (meetR (pieces 47 p) (pieces 47 q), true)) := Lib.hid rfl
    rw [HR.out]
    have HL1 := Lib.hid (fun wx => spec_split p wx hp)
    have HL2 := Lib.hid (fun wx => spec_split q wx hq)
    rw [h1] at H1; rw [h2] at H2
    clear h1 h2 HR
    unfold SplitOf at HL1 HL2
    go_enter Tryd.func33, Tryd.ntmps33
    go_wp2_with fail
    refine (H1.out _).mono ?_
    rintro e w1 ⟨rfl, hb⟩
    have HB1 := Lib.hid hb; clear hb
    go_wp2_with fail
    refine (H2.out _).mono ?_
    rintro e w2 ⟨rfl, hb⟩
    have HB2 := Lib.hid (HB1.out.trans (hb.mono HB1.out.size)); clear hb
    go_wp2_with fail
    refine (HL1.out _).mono ?_
    rintro e w3 ⟨b3, cap3, rfl, hrow3, hb⟩
    have HR3 := Lib.hid hrow3
    have HB3 := Lib.hid (HB2.out.trans (hb.mono HB2.out.size)); clear hb hrow3
    go_wp2_with fail
    refine (HL2.out _).mono ?_
    rintro e w4 ⟨b4, cap4, rfl, hrow4, hb⟩
    have HR4 := Lib.hid hrow4; have HR3' := Lib.hid (HR3.out.below hb)
    have HB4 := Lib.hid (HB3.out.trans (hb.mono HB3.out.size)); clear hb hrow4
    go_wp2_with fail
    refine (spec_meet (pieces 47 p) (pieces 47 q) _ _ _ _ _ HR3'.out HR4.out (by omega) (by omega)).mono ?_
    rintro e w5 ⟨rfl, hw⟩
    have HB5 := Lib.hid (HB4.out.trans (hw.below _)); clear hw
    go_wp2_with fail
    go_ret2
    exact ⟨rfl, HB5.out⟩

set_option maxHeartbeats 1000000 in
theorem spec_PatternCovers (p q : ByteArray) (w : World) (hp : p.size ≤ 1048576) (hq : q.size ≤ 1048576) : Calls Tryd.prog 31 #[.string p, .string q] w fun e w' => e = .returned (.tuple #[.bool (TopicR coversR (gPat p) (gPat q) p q).1, .bool (TopicR coversR (gPat p) (gPat q) p q).2]) ∧ Below w.heap.size w w' := by
  have H1 := Lib.hid (fun wx => spec_goodPattern p wx hp)
  have H2 := Lib.hid (fun wx => spec_goodPattern q wx hq)
  have hn1 := pieces_le 47 p
  have hn2 := pieces_le 47 q
  cases h1 : gPat p with
  | false =>
    have HR : Hid (TopicR coversR false (gPat q) p q = (false, false)) := Lib.hid rfl
    rw [HR.out]; rw [h1] at H1; clear h1
    go_enter Tryd.func31, Tryd.ntmps31
    go_wp2_with fail
    refine (H1.out _).mono ?_
    rintro e w1 ⟨rfl, hb⟩
    have HB := Lib.hid hb; clear hb
    go_wp2_with fail
    go_ret2
    exact ⟨rfl, HB.out⟩
  | true =>
  cases h2 : gPat q with
  | false =>
    have HR : Hid (TopicR coversR true false p q = (false, false)) := Lib.hid rfl
    rw [HR.out]; rw [h1] at H1; rw [h2] at H2; clear h1 h2
    go_enter Tryd.func31, Tryd.ntmps31
    go_wp2_with fail
    refine (H1.out _).mono ?_
    rintro e w1 ⟨rfl, hb⟩
    have HB := Lib.hid hb; clear hb
    go_wp2_with fail
    refine (H2.out _).mono ?_
    rintro e w2 ⟨rfl, hb⟩
    have HB2 := Lib.hid (HB.out.trans (hb.mono HB.out.size)); clear hb
    go_wp2_with fail
    go_ret2
    exact ⟨rfl, HB2.out⟩
  | true =>
    have HR : Hid (TopicR coversR true true p q = (coversR (pieces 47 p) (pieces 47 q), true)) := Lib.hid rfl
    rw [HR.out]
    have HL1 := Lib.hid (fun wx => spec_split p wx hp)
    have HL2 := Lib.hid (fun wx => spec_split q wx hq)
    rw [h1] at H1; rw [h2] at H2
    clear h1 h2 HR
    unfold SplitOf at HL1 HL2
    go_enter Tryd.func31, Tryd.ntmps31
    go_wp2_with fail
    refine (H1.out _).mono ?_
    rintro e w1 ⟨rfl, hb⟩
    have HB1 := Lib.hid hb; clear hb
    go_wp2_with fail
    refine (H2.out _).mono ?_
    rintro e w2 ⟨rfl, hb⟩
    have HB2 := Lib.hid (HB1.out.trans (hb.mono HB1.out.size)); clear hb
    go_wp2_with fail
    refine (HL1.out _).mono ?_
    rintro e w3 ⟨b3, cap3, rfl, hrow3, hb⟩
    have HR3 := Lib.hid hrow3
    have HB3 := Lib.hid (HB2.out.trans (hb.mono HB2.out.size)); clear hb hrow3
    go_wp2_with fail
    refine (HL2.out _).mono ?_
    rintro e w4 ⟨b4, cap4, rfl, hrow4, hb⟩
    have HR4 := Lib.hid hrow4; have HR3' := Lib.hid (HR3.out.below hb)
    have HB4 := Lib.hid (HB3.out.trans (hb.mono HB3.out.size)); clear hb hrow4
    go_wp2_with fail
    refine (spec_covers (pieces 47 p) (pieces 47 q) _ _ _ _ _ HR3'.out HR4.out (by omega) (by omega)).mono ?_
    rintro e w5 ⟨rfl, hw⟩
    subst hw; have HB5 := HB4
    go_wp2_with fail
    go_ret2
    exact ⟨rfl, HB5.out⟩

set_option maxHeartbeats 1000000 in
theorem spec_TopicFits (p q : ByteArray) (w : World) (hp : p.size ≤ 1048576) (hq : q.size ≤ 1048576) : Calls Tryd.prog 35 #[.string p, .string q] w fun e w' => e = .returned (.tuple #[.bool (TopicR fitsR (gPat p) (gTop q) p q).1, .bool (TopicR fitsR (gPat p) (gTop q) p q).2]) ∧ Below w.heap.size w w' := by
  have H1 := Lib.hid (fun wx => spec_goodPattern p wx hp)
  have H2 := Lib.hid (fun wx => spec_goodTopic q wx hq)
  have hn1 := pieces_le 47 p
  have hn2 := pieces_le 47 q
  cases h1 : gPat p with
  | false =>
    have HR : Hid (TopicR fitsR false (gTop q) p q = (false, false)) := Lib.hid rfl
    rw [HR.out]; rw [h1] at H1; clear h1
    go_enter Tryd.func35, Tryd.ntmps35
    go_wp2_with fail
    refine (H1.out _).mono ?_
    rintro e w1 ⟨rfl, hb⟩
    have HB := Lib.hid hb; clear hb
    go_wp2_with fail
    go_ret2
    exact ⟨rfl, HB.out⟩
  | true =>
  cases h2 : gTop q with
  | false =>
    have HR : Hid (TopicR fitsR true false p q = (false, false)) := Lib.hid rfl
    rw [HR.out]; rw [h1] at H1; rw [h2] at H2; clear h1 h2
    go_enter Tryd.func35, Tryd.ntmps35
    go_wp2_with fail
    refine (H1.out _).mono ?_
    rintro e w1 ⟨rfl, hb⟩
    have HB := Lib.hid hb; clear hb
    go_wp2_with fail
    refine (H2.out _).mono ?_
    rintro e w2 ⟨rfl, hb⟩
    have HB2 := Lib.hid (HB.out.trans (hb.mono HB.out.size)); clear hb
    go_wp2_with fail
    go_ret2
    exact ⟨rfl, HB2.out⟩
  | true =>
    have HR : Hid (TopicR fitsR true true p q = (fitsR (pieces 47 p) (pieces 47 q), true)) := Lib.hid rfl
    rw [HR.out]
    have HL1 := Lib.hid (fun wx => spec_split p wx hp)
    have HL2 := Lib.hid (fun wx => spec_split q wx hq)
    rw [h1] at H1; rw [h2] at H2
    clear h1 h2 HR
    unfold SplitOf at HL1 HL2
    go_enter Tryd.func35, Tryd.ntmps35
    go_wp2_with fail
    refine (H1.out _).mono ?_
    rintro e w1 ⟨rfl, hb⟩
    have HB1 := Lib.hid hb; clear hb
    go_wp2_with fail
    refine (H2.out _).mono ?_
    rintro e w2 ⟨rfl, hb⟩
    have HB2 := Lib.hid (HB1.out.trans (hb.mono HB1.out.size)); clear hb
    go_wp2_with fail
    refine (HL1.out _).mono ?_
    rintro e w3 ⟨b3, cap3, rfl, hrow3, hb⟩
    have HR3 := Lib.hid hrow3
    have HB3 := Lib.hid (HB2.out.trans (hb.mono HB2.out.size)); clear hb hrow3
    go_wp2_with fail
    refine (HL2.out _).mono ?_
    rintro e w4 ⟨b4, cap4, rfl, hrow4, hb⟩
    have HR4 := Lib.hid hrow4; have HR3' := Lib.hid (HR3.out.below hb)
    have HB4 := Lib.hid (HB3.out.trans (hb.mono HB3.out.size)); clear hb hrow4
    go_wp2_with fail
    refine (spec_fits (pieces 47 p) (pieces 47 q) _ _ _ _ _ HR3'.out HR4.out (by omega) (by omega)).mono ?_
    rintro e w5 ⟨rfl, hw⟩
    subst hw; have HB5 := HB4
    go_wp2_with fail
    go_ret2
    exact ⟨rfl, HB5.out⟩

theorem topic_covers (g h : Bool) (p q : ByteArray) : TopicR takesR g h p q = TopicR coversR g h p q := by unfold TopicR; rw [takes_covers]
theorem topic_fits (g : Bool) (p q : ByteArray) : TopicR takesR g (gTop q) p q = TopicR fitsR g (gTop q) p q := by
  unfold TopicR
  cases h : gTop q with
  | false => simp
  | true =>
    unfold gTop at h
    rw [Bool.and_eq_true] at h
    rw [takes_fits h.2]
end Go.Proofs.YteknmjebokimjaaDoor
