/- Small walks of types: names, what holds parts, what may be a part. -/
import Derived.Test.YtmlnecopbncdbaaTyM
namespace Go.Proofs.Ytmlnecopbncdbaa
set_option linter.unusedVariables false
set_option linter.unusedSimpArgs false
open Go.ChangeShapes Go.WideShapes Go.ChangeAt Go.RowKit
set_option maxRecDepth 100000

theorem inR_iff2 {n lo hi : Int} : inR n lo hi = true ↔ lo ≤ n ∧ n ≤ hi := by unfold inR; simp
theorem nameB_eq (s : ByteArray) : nameB s = (s.data.toList.all lowC && inR (s.size : Int) 1 10) := by
  unfold nameB inR
  congr 2
  · exact decide_eq_decide.2 (by omega)
  · exact decide_eq_decide.2 (by omega)
theorem lowC_at {s : ByteArray} {i : Nat} (h : i < s.size) : (s.data.toList.take (i + 1)).all lowC = ((s.data.toList.take i).all lowC && lowC s[i]) := by
  rw [take_snoc s i h, List.all_append]; simp
theorem lowC_no {s : ByteArray} {i : Nat} (h : i < s.size) (hb : lowC s[i] = false) : nameB s = false := by
  rw [nameB_eq]
  have : s.data.toList.all lowC = false := by
    rw [List.all_eq_false]
    exact ⟨s.data.toList[i]'(by simpa using h), List.getElem_mem _, by show ¬ lowC s[i] = true; simp [hb]⟩
  rw [this]; rfl
set_option maxHeartbeats 1000000 in
theorem impl_nameOK (s : ByteArray) (w : World) (hs : s.size ≤ maxLen) : Calls Try.prog 97 #[.string s] w fun e w' => e = .returned (.bool (nameB s)) ∧ w = w' := by
  unfold maxLen at hs
  generalize hR : nameB s = R
  have HR := Lib.hid hR
  clear hR
  have HIN := Lib.hid (impl_within (s.size : Int) 1 10 w)
  go_enter Try.func97, Try.ntmps97
  go_wp2_with fail
  go_loop [6] (fun iv => ∃ (i : Nat), i ≤ s.size ∧ iv = .int .i64 (i : Int) ∧ Hid ((s.data.toList.take i).all lowC = true)) (fun iv => s.size - (intOf iv).toNat)
  case atStart => exact ⟨0, by omega, rfl, Lib.hid rfl⟩
  case round =>
    obtain ⟨i, hi, rfl, HA⟩ := hrel
    by_cases hlt : i < s.size
    · have HNO := Lib.hid (lowC_no hlt)
      have HYES : Hid (lowC s[i] = true → (s.data.toList.take (i + 1)).all lowC = true) := Lib.hid fun h => by rw [lowC_at hlt, HA.out, h]; rfl
      have hc : s[i].toNat < 256 := UInt8.toNat_lt _
      unfold lowC at HNO HYES
      by_cases h1 : s[i].toNat < 97
      · have h1i : (s[i].toNat : Int) < 97 := by omega
        have hr : R = false := by rw [← HR.out]; exact HNO.out (by simp; omega)
        subst hr
        clear HNO HYES
        go_wp2_with fail
        go_ret
        exact ⟨rfl, rfl⟩
      · have h1i : ¬ (s[i].toNat : Int) < 97 := by omega
        by_cases h2 : 122 < s[i].toNat
        · have h2i : (s[i].toNat : Int) > 122 := by omega
          have hr : R = false := by rw [← HR.out]; exact HNO.out (by simp; omega)
          subst hr
          clear HNO HYES
          go_wp2_with fail
          go_ret
          exact ⟨rfl, rfl⟩
        · have h2i : ¬ (s[i].toNat : Int) > 122 := by omega
          have HY := Lib.hid (HYES.out (by simp; omega))
          clear HNO HYES
          go_wp2_with fail
          go_round
          case rel => exact ⟨i + 1, by omega, by go_num, HY⟩
          case measure => (simp [intOf]; try omega)
    · obtain rfl : i = s.size := by omega
      have ha := HA.out
      rw [List.take_of_length_le (by simp)] at ha
      have hr : R = inR (s.size : Int) 1 10 := by rw [← HR.out]; rw [nameB_eq, ha]; rfl
      rw [← hr] at HIN
      clear ha hr
      go_wp2_with fail
      refine HIN.out.mono ?_
      rintro e w' ⟨rfl, rfl⟩
      go_wp2_with fail
      go_ret
      exact ⟨rfl, rfl⟩
set_option maxHeartbeats 1000000 in
theorem spec_l2Name (s : ByteArray) (w : World) (hs : s.size ≤ maxLen) : Calls Try.prog 80 #[.string s] w fun e w' => e = .returned (.bool (nameB s)) ∧ w = w' := by
  unfold maxLen at hs
  generalize hR : nameB s = R
  have HR := Lib.hid hR
  clear hR
  have HIN := Lib.hid (spec_in (s.size : Int) 1 10 w)
  go_enter Try.func80, Try.ntmps80
  go_wp2_with fail
  go_loop [3] (fun iv => ∃ (i : Nat), i ≤ s.size ∧ iv = .int .i64 (i : Int) ∧ Hid ((s.data.toList.take i).all lowC = true)) (fun iv => s.size - (intOf iv).toNat)
  case atStart => exact ⟨0, by omega, rfl, Lib.hid rfl⟩
  case round =>
    obtain ⟨i, hi, rfl, HA⟩ := hrel
    by_cases hlt : i < s.size
    · have HNO := Lib.hid (lowC_no hlt)
      have HYES : Hid (lowC s[i] = true → (s.data.toList.take (i + 1)).all lowC = true) := Lib.hid fun h => by rw [lowC_at hlt, HA.out, h]; rfl
      have hc : s[i].toNat < 256 := UInt8.toNat_lt _
      unfold lowC at HNO HYES
      by_cases h1 : s[i].toNat < 97
      · have h1i : (s[i].toNat : Int) < 97 := by omega
        have hr : R = false := by rw [← HR.out]; exact HNO.out (by simp; omega)
        subst hr
        clear HNO HYES
        go_wp2_with fail
        go_ret
        exact ⟨rfl, rfl⟩
      · have h1i : ¬ (s[i].toNat : Int) < 97 := by omega
        by_cases h2 : 122 < s[i].toNat
        · have h2i : (s[i].toNat : Int) > 122 := by omega
          have hr : R = false := by rw [← HR.out]; exact HNO.out (by simp; omega)
          subst hr
          clear HNO HYES
          go_wp2_with fail
          go_ret
          exact ⟨rfl, rfl⟩
        · have h2i : ¬ (s[i].toNat : Int) > 122 := by omega
          have HY := Lib.hid (HYES.out (by simp; omega))
          clear HNO HYES
          go_wp2_with fail
          go_round
          case rel => exact ⟨i + 1, by omega, by go_num, HY⟩
          case measure => (simp [intOf]; try omega)
    · obtain rfl : i = s.size := by omega
      have ha := HA.out
      rw [List.take_of_length_le (by simp)] at ha
      have hr : R = inR (s.size : Int) 1 10 := by rw [← HR.out]; rw [nameB_eq, ha]; rfl
      rw [← hr] at HIN
      clear ha hr
      go_wp2_with fail
      refine HIN.out.mono ?_
      rintro e w' ⟨rfl, rfl⟩
      go_wp2_with fail
      go_ret
      exact ⟨rfl, rfl⟩

theorem holdsK_eq (k : Int) : holdsK k = (k == 4 || k == 5) := by
  unfold holdsK
  by_cases h1 : k = 4 <;> by_cases h2 : k = 5 <;> simp [h1, h2]
set_option maxHeartbeats 400000 in
theorem impl_holds (b : Nat) (k : Int) (w : World) (h : w.cell? ⟨b, 0, none⟩ = some (.int .i64 k)) : Calls Try.prog 81 #[.pointer (some ⟨b, 0, none⟩)] w fun e w' => e = .returned (.bool (holdsK k)) ∧ w = w' := by
  rw [holdsK_eq]
  by_cases h1 : k = 4
  · subst h1
    go_enter Try.func81, Try.ntmps81
    go_wp2_with fail
    go_ret
    exact ⟨rfl, rfl⟩
  · have e1 : (k == 4) = false := beq_eq_false_iff_ne.2 h1
    rw [e1, Bool.false_or]
    go_enter Try.func81, Try.ntmps81
    go_wp2_with fail
    go_ret
    exact ⟨rfl, rfl⟩
set_option maxHeartbeats 400000 in
theorem spec_holds (k : Int) (w : World) : Calls Try.prog 78 #[.int .i64 k] w fun e w' => e = .returned (.bool (holdsK k)) ∧ w = w' := by
  rw [holdsK_eq]
  by_cases h1 : k = 4
  · subst h1
    go_enter Try.func78, Try.ntmps78
    go_wp2_with fail
    go_ret
    exact ⟨rfl, rfl⟩
  · have e1 : (k == 4) = false := beq_eq_false_iff_ne.2 h1
    rw [e1, Bool.false_or]
    go_enter Try.func78, Try.ntmps78
    go_wp2_with fail
    go_ret
    exact ⟨rfl, rfl⟩
/-- whether a type may be a part, as it is asked -/
def partB (k : Int) (h : Hd) : Bool := if k = 5 then nameB h.name && inR h.no 1 30 else (h.name.toList.isEmpty && (h.no == 0)) && !h.must
theorem partB_eq (k : Int) (h : Hd) : decide (PartOf k h) = partB k h := by
  rw [Bool.eq_iff_iff, decide_eq_true_iff]
  unfold PartOf partB
  by_cases hk : k = 5
  · rw [if_pos hk, Bool.and_eq_true, inR_iff2]
    exact ⟨fun q => q.1 hk, fun q => ⟨fun _ => q, fun q2 => absurd hk q2⟩⟩
  · rw [if_neg hk, isEm]
    simp [hk, and_assoc]
set_option maxHeartbeats 1000000 in
theorem impl_partOf (b : Nat) (h : Hd) (v : Value) (T : TypeId) (k : Int) (w : World) (hs : h.name.size ≤ maxLen) (hX : w.heap[b]? = some (.cells #[.int .i64 h.kind, .string h.name, .int .i64 h.no, .bool h.must, .int .i64 h.most, v] T)) : Calls Try.prog 93 #[.pointer (some ⟨b, 0, none⟩), .int .i64 k] w fun e w' => e = .returned (.bool (decide (PartOf k h))) ∧ w = w' := by
  rw [partB_eq]
  obtain ⟨kd, nm, no, m, mo⟩ := h
  simp only at hX hs
  obtain ⟨b0, b1, b2, b3, b4, b5⟩ := box6 hX
  clear hX
  have HN := Lib.hid (fun wx => impl_nameOK nm wx hs)
  have HI := Lib.hid (fun wx => impl_within no 1 30 wx)
  by_cases hk : k = 5
  · subst hk
    generalize hR : partB 5 ⟨kd, nm, no, m, mo⟩ = R
    have HR := Lib.hid hR
    clear hR
    cases hn : nameB nm with
    | false =>
      obtain rfl : R = false := by rw [← HR.out]; simp [partB, hn]
      rw [hn] at HN
      go_enter Try.func93, Try.ntmps93
      go_wp2_with fail
      refine (HN.out _).mono ?_
      rintro e w' ⟨rfl, rfl⟩
      go_wp2_with fail
      go_ret
      exact ⟨rfl, rfl⟩
    | true =>
      obtain rfl : R = inR no 1 30 := by rw [← HR.out]; simp [partB, hn]
      rw [hn] at HN
      go_enter Try.func93, Try.ntmps93
      go_wp2_with fail
      refine (HN.out _).mono ?_
      rintro e w' ⟨rfl, rfl⟩
      go_wp2_with fail
      refine (HI.out _).mono ?_
      rintro e w' ⟨rfl, rfl⟩
      go_wp2_with fail
      go_ret
      exact ⟨rfl, rfl⟩
  · have hR : partB k ⟨kd, nm, no, m, mo⟩ = ((nm.toList.isEmpty && (no == 0)) && !m) := by simp [partB, hk]
    rw [hR]
    clear hR HN HI
    generalize he : nm.toList.isEmpty = e1
    generalize hno : (no == 0) = e2
    go_enter Try.func93, Try.ntmps93
    cases e1 <;> cases e2 <;> cases m
    all_goals
      go_wp2_with fail
      go_ret
      exact ⟨rfl, rfl⟩
end Go.Proofs.Ytmlnecopbncdbaa
