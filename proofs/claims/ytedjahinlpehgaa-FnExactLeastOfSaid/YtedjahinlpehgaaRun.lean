/- The contracts of RunMachine, the program's and the reference's. -/
import Derived.Test.YtedjahinlpehgaaMachine
namespace Go.Proofs.Ytedjahinlpehgaa
set_option linter.unusedVariables false
open Go.ChangeShapes Go.WideShapes Go.ChangeAt Go.RowKit
set_option maxRecDepth 100000

structure GoodM (m : Mach) : Prop where
  n1 : 1 ≤ m.1.length
  n12 : m.1.length ≤ 12
  ends : m.2.length = m.1.length
  row : ∀ (k : Nat) (l : List Int), m.1[k]? = some l → l.length = 3 ∧ ∀ (j : Nat) (y : Int), l[j]? = some y → 0 ≤ y ∧ y < (m.1.length : Int)
theorem good_of {m : Mach} (h : R_GoodMachine m = true) : GoodM m := by
  unfold R_GoodMachine at h
  simp only [Bool.and_eq_true, decide_eq_true_eq] at h
  obtain ⟨⟨h1, h2⟩, h3⟩ := h
  have h1' := inB_of h1
  refine ⟨by omega, by omega, h2, fun k l hl => ?_⟩
  have h4 := List.all_eq_true.1 h3 l (List.mem_of_getElem? hl)
  unfold rowB at h4
  simp only [Bool.and_eq_true, decide_eq_true_eq] at h4
  refine ⟨h4.1, fun j y hy => ?_⟩
  have h5 := inB_of (List.all_eq_true.1 h4.2 y (List.mem_of_getElem? hy))
  omega
def go1 (m : Mach) (k j : Nat) : Nat := ((m.1.getD k []).getD j 0).toNat
theorem GoodM.go {m : Mach} (h : GoodM m) (k j : Nat) (hk : k < m.1.length) (hj : j < 3) : ∃ l, m.1[k]? = some l ∧ l.length = 3 ∧ l[j]? = some ((go1 m k j : Nat) : Int) ∧ go1 m k j < m.1.length := by
  have hl : m.1[k]? = some m.1[k] := List.getElem?_eq_getElem hk
  obtain ⟨h3, hb⟩ := h.row k _ hl
  have hy : m.1[k][j]? = some (m.1[k][j]'(by omega)) := List.getElem?_eq_getElem _
  obtain ⟨h4, h5⟩ := hb j _ hy
  have e : go1 m k j = (m.1[k][j]'(by omega)).toNat := by unfold go1; simp [List.getD, hk, hy]
  refine ⟨_, hl, h3, ?_, by rw [e]; omega⟩
  rw [e, hy]
  congr 1
  omega
def okL (c : UInt8) : Bool := decide (97 ≤ c.toNat) && decide (c.toNat ≤ 99)
def runM (m : Mach) : Nat → List UInt8 → Nat
  | k, [] => k
  | k, c :: l => runM m (go1 m k (c.toNat - 97)) l
def R_RunMachine (m : Mach) (s : ByteArray) : Bool × Bool :=
  if R_GoodMachine m = true ∧ s.size ≤ 60 ∧ s.data.toList.all okL = true then (m.2.getD (runM m 0 s.data.toList) false, true) else (false, false)
theorem R_run_no {m : Mach} {s : ByteArray} (h : ¬ (R_GoodMachine m = true ∧ s.size ≤ 60 ∧ s.data.toList.all okL = true)) : R_RunMachine m s = (false, false) := by unfold R_RunMachine; rw [if_neg h]
theorem R_run_yes {m : Mach} {s : ByteArray} (h : R_GoodMachine m = true ∧ s.size ≤ 60 ∧ s.data.toList.all okL = true) : R_RunMachine m s = (m.2.getD (runM m 0 s.data.toList) false, true) := by unfold R_RunMachine; rw [if_pos h]
theorem s_at (s : ByteArray) (i : Nat) (h : i < s.size) : s.data.toList[i]? = some s[i] := List.getElem?_eq_getElem (by simpa using h)
theorem s_drop (s : ByteArray) (i : Nat) (h : i < s.size) : s.data.toList.drop i = s[i] :: s.data.toList.drop (i + 1) := drop_cons _ _ _ (s_at s i h)
theorem okL_yes {c : UInt8} (h : okL c = true) : 97 ≤ c.toNat ∧ c.toNat ≤ 99 := by unfold okL at h; simpa using h
theorem okL_no {c : UInt8} (h : okL c = false) : c.toNat < 97 ∨ 99 < c.toNat := by unfold okL at h; simp at h; omega


set_option maxHeartbeats 2000000 in
theorem impl_RunMachine (w : World) (cs0 : List Value) (a0 : Mach) (a1 : ByteArray) (h0 : kMachine.rd w.heap.size w cs0 a0) (hs : a1.size ≤ maxLen) (ht : kMachine.wt a0 ≤ 1048576) :
    Calls Try.prog 17 #[.agg cs0.toArray, .string a1] w fun e w' => e = .returned (.tuple #[.bool (R_RunMachine a0 a1).1, .bool (R_RunMachine a0 a1).2]) ∧ Below w.heap.size w w' := by
  unfold maxLen at hs
  obtain ⟨ea, ecap, eb, ecap', rfl, hn, he⟩ := Machine_rd h0
  have HG := Lib.hid (fun wx (hb : Below w.heap.size w wx) => impl_GoodMachine wx _ a0 (kMachine_ok.later h0 hb) ht)
  have HN := Lib.hid hn; have HE := Lib.hid he
  have hl1 := (sl_len hn).2; have hl2 := (sl_len he).2
  have HB0 := Lib.hid (box_start w (.cells #[.slice ea a0.1.length ecap, .slice eb a0.2.length ecap'] 28))
  clear h0 ht hn he
  cases hg : R_GoodMachine a0 with
  | false =>
    rw [R_run_no (by rw [hg]; simp)]
    rw [hg] at HG
    clear hg
    go_enter Try.func17, Try.ntmps17
    go_wp2_with fail
    refine (HG.out _ ((Below.refl _ _).alloc (Nat.le_refl _) _)).mono ?_
    rintro e w1 ⟨rfl, hb⟩
    have HB1 := Lib.hid (box_step HB0.out hb); clear hb
    go_wp2_with fail
    go_ret2
    exact ⟨rfl, box_below HB1.out⟩
  | true =>
    rw [hg] at HG
    have HGD := Lib.hid (good_of hg)
    by_cases h60 : a1.size ≤ 60
    case neg =>
      rw [R_run_no (fun h => h60 h.2.1)]
      clear hg
      go_enter Try.func17, Try.ntmps17
      go_wp2_with fail
      refine (HG.out _ ((Below.refl _ _).alloc (Nat.le_refl _) _)).mono ?_
      rintro e w1 ⟨rfl, hb⟩
      have HB1 := Lib.hid (box_step HB0.out hb); clear hb
      go_wp2_with fail
      go_ret2
      exact ⟨rfl, box_below HB1.out⟩
    have HNO : Hid (a1.data.toList.all okL = false → R_RunMachine a0 a1 = (false, false)) := Lib.hid fun h => R_run_no (by rw [h]; simp)
    have HYES : Hid (a1.data.toList.all okL = true → R_RunMachine a0 a1 = (a0.2.getD (runM a0 0 a1.data.toList) false, true)) := Lib.hid fun h => R_run_yes ⟨hg, h60, h⟩
    generalize R_RunMachine a0 a1 = R at *
    clear hg
    go_enter Try.func17, Try.ntmps17
    go_wp2_with fail
    refine (HG.out _ ((Below.refl _ _).alloc (Nat.le_refl _) _)).mono ?_
    rintro e w1 ⟨rfl, hb⟩
    have HB1 := Lib.hid (box_step HB0.out hb); clear hb
    have k0 := box_cell HB1.out 0; have k1 := box_cell HB1.out 1
    go_wp2_with fail
    go_loop [6, 19] (fun at_ i => ∃ k p : Nat, k ≤ a1.size ∧ i = .int .i64 k ∧ at_ = .int .i64 p ∧ p < a0.1.length ∧ Hid (runM a0 0 a1.data.toList = runM a0 p (a1.data.toList.drop k)) ∧ Hid ((a1.data.toList.take k).all okL = true)) (fun _ i => a1.size - (intOf i).toNat)
    case atStart => exact ⟨0, 0, Nat.zero_le _, rfl, rfl, HGD.out.n1, rfl, rfl⟩
    case round =>
      obtain ⟨k, p, hk, rfl, rfl, hp, HR, HA⟩ := hrel
      by_cases hlk : k < a1.size
      case neg =>
        obtain rfl : k = a1.size := by omega
        have hall := HA.out
        rw [List.take_of_length_le (by show a1.size ≤ a1.size; omega)] at hall
        have hRR := HYES.out hall
        rw [HR.out, List.drop_of_length_le (by show a1.size ≤ a1.size; omega), show runM a0 p [] = p from rfl] at hRR
        have hpe : p < a0.2.length := by rw [HGD.out.ends]; exact hp
        obtain ⟨u, b, off, hu, rfl, hbl, hc⟩ := sl_one kBool_ok rfl (kBoolS_ok.rbelow HE.out (box_below HB1.out)) (List.getElem?_eq_getElem hpe)
        obtain ⟨hu, _⟩ := hu
        simp only [List.cons.injEq, and_true] at hu
        subst hu
        have hgd : a0.2.getD p false = a0.2[p] := by simp [List.getD, hpe]
        rw [hgd] at hRR
        have HRR := Lib.hid hRR
        clear hRR hall hgd
        generalize a0.2[p] = r at *
        go_wp2_with fail
        go_ret2
        exact ⟨by rw [HRR.out]; rfl, box_below HB1.out⟩
      have HD := Lib.hid (s_drop a1 k hlk)
      have HAT := Lib.hid (s_at a1 k hlk)
      have HW := Lib.hid (fun wx => within_any ((a1[k].toNat : Int) - 97) 0 2 wx)
      have hby := byte_le a1[k]
      cases hok : okL a1[k] with
      | false =>
        have HRR := Lib.hid (HNO.out (all_no HAT.out hok))
        have hno := okL_no hok
        rw [show inB ((a1[k].toNat : Int) - 97) 0 2 = false from inB_no (by omega)] at HW
        clear hok hno
        go_wp2_with fail
        refine (HW.out _).mono ?_
        rintro e w' ⟨rfl, rfl⟩
        go_wp2_with fail
        go_ret2
        exact ⟨by rw [HRR.out]; rfl, box_below HB1.out⟩
      | true =>
        have hyes := okL_yes hok
        have HA2 := Lib.hid (all_go HAT.out HA.out hok)
        rw [show inB ((a1[k].toNat : Int) - 97) 0 2 = true from inB_yes (by omega)] at HW
        obtain ⟨l, hl, hl3, hj, hlt⟩ := HGD.out.go p (a1[k].toNat - 97) hp (by omega)
        obtain ⟨u, b, off, hu, rfl, hbl, hc⟩ := sl_one kIntS_ok rfl (kIntSS_ok.rbelow HN.out (box_below HB1.out)) hl
        obtain ⟨ea1, ecap1, vs1, hu1, hr1⟩ := hu
        simp only [List.cons.injEq, and_true] at hu1
        subst hu1
        obtain ⟨u2, b2, off2, hu2, rfl, hbl2, hc2⟩ := sl_one kInt_ok rfl (show kIntS.rd _ _ [.slice ea1 l.length ecap1] l from ⟨ea1, ecap1, vs1, rfl, hr1⟩) hj
        obtain ⟨hu2, _⟩ := hu2
        simp only [List.cons.injEq, and_true] at hu2
        subst hu2
        have HR2 : Hid (runM a0 0 a1.data.toList = runM a0 (go1 a0 p (a1[k].toNat - 97)) (a1.data.toList.drop (k + 1))) := by
          have h := HR.out
          rw [HD.out] at h
          exact Lib.hid h
        rw [hl3] at hc
        clear hok hl hj hr1 hl3
        generalize go1 a0 p (a1[k].toNat - 97) = p2 at *
        have e1 : ((a1[k].toNat : Int) - 97).toNat = a1[k].toNat - 97 := by omega
        have e2 : (0 : Int) ≤ (a1[k].toNat : Int) - 97 := by omega
        have e3 : (a1[k].toNat : Int) - 97 < 3 := by omega
        obtain ⟨hy1, hy2⟩ := hyes
        generalize hq : a1[k].toNat = q at *
        go_wp2_with fail
        refine (HW.out _).mono ?_
        rintro e w' ⟨rfl, rfl⟩
        go_wp2_with fail
        go_round
        case rel => exact ⟨k + 1, p2, by omega, by go_num, rfl, hlt, HR2, HA2⟩
        case measure => simp [intOf]; omega

set_option maxHeartbeats 2000000 in
theorem spec_run (w : World) (cs0 : List Value) (a0 : Mach) (a1 : ByteArray) (h0 : kMachine.rd w.heap.size w cs0 a0) (hs : a1.size ≤ 60) (hg : GoodM a0) (hall : a1.data.toList.all okL = true) :
    Calls Try.prog 47 #[.agg cs0.toArray, .string a1] w fun e w' => e = .returned (.bool (a0.2.getD (runM a0 0 a1.data.toList) false)) ∧ Below w.heap.size w w' := by
  obtain ⟨ea, ecap, eb, ecap', rfl, hn, he⟩ := Machine_rd h0
  have HN := Lib.hid hn; have HE := Lib.hid he
  have hl1 := (sl_len hn).2; have hl2 := (sl_len he).2
  have HB0 := Lib.hid (box_start w (.cells #[.slice ea a0.1.length ecap, .slice eb a0.2.length ecap'] 28))
  have HGD := Lib.hid hg; have HAL := Lib.hid hall
  clear h0 hn he hg hall
  have HX := Lib.hid (rfl : a0.2.getD (runM a0 0 a1.data.toList) false = a0.2.getD (runM a0 0 a1.data.toList) false)
  generalize hres : a0.2.getD (runM a0 0 a1.data.toList) false = res at HX ⊢
  have HRES := Lib.hid hres
  clear hres
  go_enter Try.func47, Try.ntmps47
  go_wp2_with fail
  go_loopw [5, 6] (fun at_ i wr => ∃ k p : Nat, k ≤ a1.size ∧ i = .int .i64 k ∧ at_ = .int .i64 p ∧ p < a0.1.length ∧ Hid (runM a0 0 a1.data.toList = runM a0 p (a1.data.toList.drop k)) ∧ Hid (Below (w.heap.size + 1) (w.alloc (.cells #[.slice ea a0.1.length ecap, .slice eb a0.2.length ecap'] 28)) wr)) (fun _ i _ => a1.size - (intOf i).toNat)
  case atStart => exact ⟨0, 0, Nat.zero_le _, rfl, rfl, HGD.out.n1, rfl, HB0⟩
  case round =>
    obtain ⟨k, p, hk, rfl, rfl, hp, HR, HB1⟩ := hrel
    have k0 := box_cell HB1.out 0; have k1 := box_cell HB1.out 1
    by_cases hlk : k < a1.size
    case neg =>
      obtain rfl : k = a1.size := by omega
      have hRR := HRES.out
      rw [HR.out, List.drop_of_length_le (by show a1.size ≤ a1.size; omega), show runM a0 p [] = p from rfl] at hRR
      have hpe : p < a0.2.length := by rw [HGD.out.ends]; exact hp
      obtain ⟨u, b, off, hu, rfl, hbl, hc⟩ := sl_one kBool_ok rfl (kBoolS_ok.rbelow HE.out (box_below HB1.out)) (List.getElem?_eq_getElem hpe)
      obtain ⟨hu, _⟩ := hu
      simp only [List.cons.injEq, and_true] at hu
      subst hu
      have hgd : a0.2.getD p false = a0.2[p] := by simp [List.getD, hpe]
      rw [hgd] at hRR
      rw [hRR] at hc
      clear hRR hgd
      go_wp2_with fail
      go_ret
      exact ⟨rfl, box_below HB1.out⟩
    have HD := Lib.hid (s_drop a1 k hlk)
    have hok : okL a1[k] = true := List.all_eq_true.1 HAL.out _ (List.mem_of_getElem? (s_at a1 k hlk))
    have hby := byte_le a1[k]
    have hyes := okL_yes hok
    obtain ⟨l, hl, hl3, hj, hlt⟩ := HGD.out.go p (a1[k].toNat - 97) hp (by omega)
    obtain ⟨u, b, off, hu, rfl, hbl, hc⟩ := sl_one kIntS_ok rfl (kIntSS_ok.rbelow HN.out (box_below HB1.out)) hl
    obtain ⟨ea1, ecap1, vs1, hu1, hr1⟩ := hu
    simp only [List.cons.injEq, and_true] at hu1
    subst hu1
    obtain ⟨u2, b2, off2, hu2, rfl, hbl2, hc2⟩ := sl_one kInt_ok rfl (show kIntS.rd _ _ [.slice ea1 l.length ecap1] l from ⟨ea1, ecap1, vs1, rfl, hr1⟩) hj
    obtain ⟨hu2, _⟩ := hu2
    simp only [List.cons.injEq, and_true] at hu2
    subst hu2
    have HR2 : Hid (runM a0 0 a1.data.toList = runM a0 (go1 a0 p (a1[k].toNat - 97)) (a1.data.toList.drop (k + 1))) := by
      have h := HR.out
      rw [HD.out] at h
      exact Lib.hid h
    rw [hl3] at hc
    clear hok hl hj hr1 hl3
    generalize go1 a0 p (a1[k].toNat - 97) = p2 at *
    have e1 : ((a1[k].toNat : Int) - 97).toNat = a1[k].toNat - 97 := by omega
    have e2 : (0 : Int) ≤ (a1[k].toNat : Int) - 97 := by omega
    have e3 : (a1[k].toNat : Int) - 97 < 3 := by omega
    have e4 : (0 : Int) ≤ (k : Int) := by omega
    have e5 : (k : Int) < (a1.size : Int) := by omega
    have e6 : (0 : Int) ≤ (p : Int) := by omega
    have e7 : (p : Int) < (a0.1.length : Int) := by omega
    have HB2 := Lib.hid HB1.out.drew
    have HF := Lib.hid (And.intro k0 (And.intro hc hc2))
    have e8 : IntKind.u8.wrap ((a1[k].toNat : Int) - 97) = (a1[k].toNat : Int) - 97 := IntWalk.u8_in _ (by omega)
    have e10 : (97 : Int) ≤ (a1[k].toNat : Int) := by omega
    have e9 : IntKind.i64.wrap ((a1[k].toNat : Int) - 97) = (a1[k].toNat : Int) - 97 := IntWalk.i64_in _ (by omega)
    go_wp2_with fail
    refine wp_region_G [] (fun w' => w'.cell? ⟨w.heap.size, 0, none⟩ = some (.slice (some ⟨b, off, none⟩) a0.1.length ecap) ∧ w'.cell? ⟨b, off + p, none⟩ = some (.slice (some ⟨b2, off2, none⟩) 3 ecap1) ∧ w'.cell? ⟨b2, off2 + (a1[k].toNat - 97), none⟩ = some (.int .i64 p2)) (by kernel_rfl) ?_ (fun hHeld => ?_)
    · exact HF.out
    refine wpG_pure (i := 0) (oi := { dst := some 13, op := Go.Op.fieldAddr 28 (Go.Operand.tmp 2) 0, type := 0, pos := "l12_machine.go:23", after := #[], guard := none }) (v := ?vg1) rfl (by kernel_rfl) (fun _ _ _ h => h) (Or.inr hHeld) (Or.inl ⟨by rfl, ?yg1⟩) ?_
    case yg1 => (intro wS _; go_simp <;> with_reducible rfl)
    try simp only [Act.put, List.setIfInBounds_toArray, List.set_cons_zero, List.set_cons_succ]
    refine wpG_load (i := 1) (oi := { dst := some 14, op := Go.Op.load 22 (Go.Operand.tmp 13), type := 22, pos := "l12_machine.go:23", after := #[{ on := 0, ground := Go.Ground.data }], guard := none }) (v := ?vg2) [] rfl (by kernel_rfl) (fun _ _ _ h => h) hHeld (Or.inl ⟨by rfl, ?yg2⟩) ?_
    case yg2 => (intro wS hSw; (try dsimp only at hSw); go_simp <;> with_reducible rfl)
    try simp only [Act.put, List.setIfInBounds_toArray, List.set_cons_zero, List.set_cons_succ]
    refine wpG_pure (i := 2) (oi := { dst := some 15, op := Go.Op.move (Go.Operand.tmp 5), type := 3, pos := "l12_machine.go:23", after := #[], guard := none }) (v := ?vg3) rfl (by kernel_rfl) (fun _ _ _ h => h) (Or.inr hHeld) (Or.inl ⟨by rfl, ?yg3⟩) ?_
    case yg3 => (intro wS _; go_simp <;> with_reducible rfl)
    try simp only [Act.put, List.setIfInBounds_toArray, List.set_cons_zero, List.set_cons_succ]
    refine wpG_pure (i := 3) (oi := { dst := some 16, op := Go.Op.indexAddr 22 (Go.Operand.tmp 14) (Go.Operand.tmp 15), type := 0, pos := "l12_machine.go:23", after := #[{ on := 1, ground := Go.Ground.data }, { on := 2, ground := Go.Ground.data }], guard := none }) (v := ?vg4) rfl (by kernel_rfl) (fun _ _ _ h => h) (Or.inr hHeld) (Or.inl ⟨by rfl, ?yg4⟩) ?_
    case yg4 => (intro wS _; go_simp <;> with_reducible rfl)
    try simp only [Act.put, List.setIfInBounds_toArray, List.set_cons_zero, List.set_cons_succ]
    refine wpG_load (i := 4) (oi := { dst := some 17, op := Go.Op.load 42 (Go.Operand.tmp 16), type := 42, pos := "l12_machine.go:23", after := #[{ on := 3, ground := Go.Ground.data }], guard := none }) (v := ?vg5) [] rfl (by kernel_rfl) (fun _ _ _ h => h) hHeld (Or.inl ⟨by rfl, ?yg5⟩) ?_
    case yg5 => (intro wS hSw; (try dsimp only at hSw); go_simp <;> with_reducible rfl)
    try simp only [Act.put, List.setIfInBounds_toArray, List.set_cons_zero, List.set_cons_succ]
    refine wpG_pure (i := 5) (oi := { dst := some 18, op := Go.Op.move (Go.Operand.tmp 1), type := 9, pos := "l12_machine.go:23", after := #[], guard := none }) (v := ?vg6) rfl (by kernel_rfl) (fun _ _ _ h => h) (Or.inr hHeld) (Or.inl ⟨by rfl, ?yg6⟩) ?_
    case yg6 => (intro wS _; go_simp <;> with_reducible rfl)
    try simp only [Act.put, List.setIfInBounds_toArray, List.set_cons_zero, List.set_cons_succ]
    refine wpG_pure (i := 6) (oi := { dst := some 19, op := Go.Op.move (Go.Operand.tmp 6), type := 3, pos := "l12_machine.go:23", after := #[], guard := none }) (v := ?vg7) rfl (by kernel_rfl) (fun _ _ _ h => h) (Or.inr hHeld) (Or.inl ⟨by rfl, ?yg7⟩) ?_
    case yg7 => (intro wS _; go_simp <;> with_reducible rfl)
    try simp only [Act.put, List.setIfInBounds_toArray, List.set_cons_zero, List.set_cons_succ]
    refine wpG_pure (i := 7) (oi := { dst := some 20, op := Go.Op.index 9 (Go.Operand.tmp 18) (Go.Operand.tmp 19), type := 5, pos := "l12_machine.go:23", after := #[{ on := 5, ground := Go.Ground.data }, { on := 6, ground := Go.Ground.data }], guard := none }) (v := ?vg8) rfl (by kernel_rfl) (fun _ _ _ h => h) (Or.inr hHeld) (Or.inl ⟨by rfl, ?yg8⟩) ?_
    case yg8 => (intro wS _; go_simp <;> with_reducible rfl)
    try simp only [Act.put, List.setIfInBounds_toArray, List.set_cons_zero, List.set_cons_succ]
    refine wpG_pure (i := 8) (oi := { dst := some 21, op := Go.Op.binOp Go.BinOp.sub 5 (Go.Operand.tmp 20) (Go.Operand.const (Go.Value.int Go.IntKind.u8 97)) 5, type := 5, pos := "l12_machine.go:23", after := #[{ on := 7, ground := Go.Ground.data }], guard := none }) (v := ?vg9) rfl (by kernel_rfl) (fun _ _ _ h => h) (Or.inr hHeld) (Or.inl ⟨by rfl, ?yg9⟩) ?_
    case yg9 => (intro wS _; go_simp <;> with_reducible rfl)
    try simp only [Act.put, List.setIfInBounds_toArray, List.set_cons_zero, List.set_cons_succ]
    refine wpG_pure (i := 9) (oi := { dst := some 22, op := Go.Op.convert 5 3 (Go.Operand.tmp 21), type := 3, pos := "l12_machine.go:23", after := #[{ on := 8, ground := Go.Ground.data }], guard := none }) (v := ?vg10) rfl (by kernel_rfl) (fun _ _ _ h => h) (Or.inr hHeld) (Or.inl ⟨by rfl, ?yg10⟩) ?_
    case yg10 => (intro wS _; go_simp <;> with_reducible rfl)
    try simp only [Act.put, List.setIfInBounds_toArray, List.set_cons_zero, List.set_cons_succ]
    refine wpG_pure (i := 10) (oi := { dst := some 23, op := Go.Op.indexAddr 42 (Go.Operand.tmp 17) (Go.Operand.tmp 22), type := 0, pos := "l12_machine.go:23", after := #[{ on := 4, ground := Go.Ground.data }, { on := 9, ground := Go.Ground.data }], guard := none }) (v := ?vg11) rfl (by kernel_rfl) (fun _ _ _ h => h) (Or.inr hHeld) (Or.inl ⟨by rfl, ?yg11⟩) ?_
    case yg11 => (intro wS _; go_simp <;> with_reducible rfl)
    try simp only [Act.put, List.setIfInBounds_toArray, List.set_cons_zero, List.set_cons_succ]
    refine wpG_load (i := 11) (oi := { dst := some 24, op := Go.Op.load 3 (Go.Operand.tmp 23), type := 3, pos := "l12_machine.go:23", after := #[{ on := 10, ground := Go.Ground.data }], guard := none }) (v := ?vg12) [] rfl (by kernel_rfl) (fun _ _ _ h => h) hHeld (Or.inl ⟨by rfl, ?yg12⟩) ?_
    case yg12 => (intro wS hSw; (try dsimp only at hSw); go_simp <;> with_reducible rfl)
    try simp only [Act.put, List.setIfInBounds_toArray, List.set_cons_zero, List.set_cons_succ]
    refine wpG_pure (i := 12) (oi := { dst := some 5, op := Go.Op.assign (Go.Operand.tmp 24), type := 3, pos := "l12_machine.go:23", after := #[{ on := 11, ground := Go.Ground.data }, { on := 0, ground := Go.Ground.phase }, { on := 1, ground := Go.Ground.phase }, { on := 2, ground := Go.Ground.phase }, { on := 3, ground := Go.Ground.phase }, { on := 4, ground := Go.Ground.phase }, { on := 5, ground := Go.Ground.phase }, { on := 6, ground := Go.Ground.phase }, { on := 7, ground := Go.Ground.phase }, { on := 8, ground := Go.Ground.phase }, { on := 9, ground := Go.Ground.phase }, { on := 10, ground := Go.Ground.phase }, { on := 11, ground := Go.Ground.phase }], guard := none }) (v := ?vg13) rfl (by kernel_rfl) (fun _ _ _ h => h) (Or.inr hHeld) (Or.inl ⟨by rfl, ?yg13⟩) ?_
    case yg13 => (intro wS _; go_simp <;> with_reducible rfl)
    try simp only [Act.put, List.setIfInBounds_toArray, List.set_cons_zero, List.set_cons_succ]
    refine wpG_done (by kernel_rfl) ?_
    go_wp2_with fail
    go_roundw
    case rel => exact ⟨k + 1, p2, by omega, by go_num, rfl, hlt, HR2, HB2⟩
    case measure => simp [intOf]; omega

set_option maxHeartbeats 2000000 in
theorem spec_RunMachine (w : World) (cs0 : List Value) (a0 : Mach) (a1 : ByteArray) (h0 : kMachine.rd w.heap.size w cs0 a0) (hs : a1.size ≤ maxLen) (ht : kMachine.wt a0 ≤ 1048576) :
    Calls Try.prog 16 #[.agg cs0.toArray, .string a1] w fun e w' => e = .returned (.tuple #[.bool (R_RunMachine a0 a1).1, .bool (R_RunMachine a0 a1).2]) ∧ Below w.heap.size w w' := by
  unfold maxLen at hs
  obtain ⟨ea, ecap, eb, ecap', rfl, hn, he⟩ := Machine_rd h0
  have HG := Lib.hid (fun wx (hb : Below w.heap.size w wx) => spec_GoodMachine wx _ a0 (kMachine_ok.later h0 hb) ht)
  have H0 := Lib.hid h0
  have hl1 := (sl_len hn).2; have hl2 := (sl_len he).2
  have HB0 := Lib.hid (box_start w (.cells #[.slice ea a0.1.length ecap, .slice eb a0.2.length ecap'] 28))
  clear h0 ht hn he
  cases hg : R_GoodMachine a0 with
  | false =>
    rw [R_run_no (by rw [hg]; simp)]
    rw [hg] at HG
    clear hg
    go_enter Try.func16, Try.ntmps16
    go_wp2_with fail
    refine (HG.out _ ((Below.refl _ _).alloc (Nat.le_refl _) _)).mono ?_
    rintro e w1 ⟨rfl, hb⟩
    have HB1 := Lib.hid (box_step HB0.out hb); clear hb
    go_wp2_with fail
    go_ret2
    exact ⟨rfl, box_below HB1.out⟩
  | true =>
    rw [hg] at HG
    have HGD := Lib.hid (good_of hg)
    by_cases h60 : a1.size ≤ 60
    case neg =>
      rw [R_run_no (fun h => h60 h.2.1)]
      clear hg
      go_enter Try.func16, Try.ntmps16
      go_wp2_with fail
      refine (HG.out _ ((Below.refl _ _).alloc (Nat.le_refl _) _)).mono ?_
      rintro e w1 ⟨rfl, hb⟩
      have HB1 := Lib.hid (box_step HB0.out hb); clear hb
      go_wp2_with fail
      go_ret2
      exact ⟨rfl, box_below HB1.out⟩
    have HNO : Hid (a1.data.toList.all okL = false → R_RunMachine a0 a1 = (false, false)) := Lib.hid fun h => R_run_no (by rw [h]; simp)
    have HYES : Hid (a1.data.toList.all okL = true → R_RunMachine a0 a1 = (a0.2.getD (runM a0 0 a1.data.toList) false, true)) := Lib.hid fun h => R_run_yes ⟨hg, h60, h⟩
    generalize R_RunMachine a0 a1 = R at *
    clear hg
    go_enter Try.func16, Try.ntmps16
    go_wp2_with fail
    refine (HG.out _ ((Below.refl _ _).alloc (Nat.le_refl _) _)).mono ?_
    rintro e w1 ⟨rfl, hb⟩
    have HB1 := Lib.hid (box_step HB0.out hb); clear hb
    have k0 := box_cell HB1.out 0; have k1 := box_cell HB1.out 1
    go_wp2_with fail
    go_loop [6] (fun i => ∃ k : Nat, k ≤ a1.size ∧ i = .int .i64 k ∧ Hid ((a1.data.toList.take k).all okL = true)) (fun i => a1.size - (intOf i).toNat)
    case atStart => exact ⟨0, Nat.zero_le _, rfl, rfl⟩
    case round =>
      obtain ⟨k, hk, rfl, HA⟩ := hrel
      by_cases hlk : k < a1.size
      case neg =>
        obtain rfl : k = a1.size := by omega
        have hall := HA.out
        rw [List.take_of_length_le (by show a1.size ≤ a1.size; omega)] at hall
        have HRR := Lib.hid (HYES.out hall)
        have HC := Lib.hid (spec_run w1 _ a0 a1 (kMachine_ok.later H0.out (box_below HB1.out)) h60 HGD.out hall)
        clear hall
        generalize a0.2.getD (runM a0 0 a1.data.toList) false = r at *
        go_wp2_with fail
        refine HC.out.mono ?_
        rintro e w2 ⟨rfl, hb2⟩
        have HB2 := Lib.hid (box_step HB1.out hb2); clear hb2
        go_wp2_with fail
        go_ret2
        exact ⟨by rw [HRR.out]; rfl, box_below HB2.out⟩
      have HAT := Lib.hid (s_at a1 k hlk)
      have hby := byte_le a1[k]
      cases hok : okL a1[k] with
      | false =>
        have HRR := Lib.hid (HNO.out (all_no HAT.out hok))
        have hno := okL_no hok
        clear hok
        rcases hno with hno | hno
        · go_wp2_with fail
          go_ret2
          exact ⟨by rw [HRR.out]; rfl, box_below HB1.out⟩
        · have hge : ¬ (a1[k].toNat : Int) < 97 := by omega
          go_wp2_with fail
          go_ret2
          exact ⟨by rw [HRR.out]; rfl, box_below HB1.out⟩
      | true =>
        have hyes := okL_yes hok
        have HA2 := Lib.hid (all_go HAT.out HA.out hok)
        clear hok
        obtain ⟨hy1, hy2⟩ := hyes
        go_wp2_with fail
        go_round
        case rel => exact ⟨k + 1, by omega, by go_num, HA2⟩
        case measure => simp [intOf]; omega

end Go.Proofs.Ytedjahinlpehgaa
