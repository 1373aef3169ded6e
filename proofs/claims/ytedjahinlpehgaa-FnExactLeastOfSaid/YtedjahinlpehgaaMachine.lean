/- The contracts of GoodMachine, the program's and the reference's. -/
import Derived.Test.YtedjahinlpehgaaHMachine
import Derived.Test.YtedjahinlpehgaaRanges
namespace Go.Proofs.Ytedjahinlpehgaa
set_option linter.unusedVariables false
open Go.ChangeShapes Go.WideShapes Go.ChangeAt Go.RowKit
set_option maxRecDepth 100000

abbrev Mach := List (List Int) × List Bool
def stB (many : Nat) (k : Int) : Bool := inB k 0 ((many : Int) - 1)
def rowB (many : Nat) (l : List Int) : Bool := decide (l.length = 3) && l.all (stB many)
def R_GoodMachine (m : Mach) : Bool := inB (m.1.length : Int) 1 12 && decide (m.2.length = m.1.length) && m.1.all (rowB m.1.length)
theorem any_not {α : Type} (p : α → Bool) (l : List α) : l.any (fun x => !p x) = !l.all p := by
  induction l with
  | nil => rfl
  | cons x r ih => simp only [List.any_cons, List.all_cons, ih]; cases p x <;> simp

set_option maxHeartbeats 1000000 in
theorem clo_gm1 (many : Nat) (hm : many ≤ 12) (k : Int) (B : Nat) (w : World) (hc : w.cell? ⟨B, 0, none⟩ = some (.int .i64 (many : Int))) :
    Calls Try.prog 44 #[.int .i64 k, .pointer (some ⟨B, 0, none⟩)] w fun e w' => e = .returned (.bool (!stB many k)) ∧ Below w.heap.size w w' := by
  have HI := Lib.hid (fun wx => within_any k 0 ((many : Int) - 1) wx)
  unfold stB
  generalize inB k 0 ((many : Int) - 1) = r at *
  go_enter Try.func44, Try.ntmps44
  go_wp2_with fail
  refine (HI.out _).mono ?_
  rintro e w' ⟨rfl, rfl⟩
  go_wp2_with fail
  go_ret
  exact ⟨rfl, Below.refl _ _⟩

set_option maxHeartbeats 1000000 in
theorem idx_gm1 {cs : List Value} {xs : List Int} {w : World} (c0 : Value) (p : Int → Bool) (h : kIntS.rd w.heap.size w cs xs) (hclo : ∀ (wx : World) (x : Int) (v : List Value), Below w.heap.size w wx → x ∈ xs → kInt.rd wx.heap.size wx v x → Calls Try.prog 44 #[one v, c0] wx fun e w' => e = .returned (.bool (p x)) ∧ Below wx.heap.size wx w') :
    Calls Try.prog 69 #[one cs, .func (.func 44) #[] #[c0]] w fun e w' => e = .returned (.int .i64 (fidx p xs)) ∧ Below w.heap.size w w' := by
  obtain ⟨a, cap, vss, rfl, ⟨hc1, hc2⟩, hrow, hl⟩ := h
  unfold maxLen at hc2
  have hn : xs.length ≤ 9223372036854775807 := by omega
  show Calls Try.prog 69 #[.slice a xs.length cap, .func (.func 44) #[] #[c0]] w _
  have HROW := Lib.hid hrow; have HL := Lib.hid hl; have HCL := Lib.hid hclo
  clear hrow hl hclo
  go_enter Try.func69, Try.ntmps69
  go_wp2_with fail
  go_loopw [8] (fun i wr => ∃ k : Nat, k ≤ xs.length ∧ i = .int .i64 k ∧ Hid ((xs.take k).any p = false) ∧ Hid (Below w.heap.size w wr)) (fun i _ => xs.length - (intOf i).toNat)
  case atStart => exact ⟨0, Nat.zero_le _, rfl, rfl, Below.refl _ _⟩
  case round =>
    obtain ⟨k, hk, rfl, HA, HB⟩ := hrel
    by_cases hlk : k < xs.length
    case neg =>
      go_wp2_with fail
      go_ret
      obtain rfl : k = xs.length := by omega
      have h1 := HA.out
      rw [List.take_length] at h1
      exact ⟨ret_int (fidx_none p xs h1).symm, HB.out⟩
    obtain ⟨x, hx⟩ : ∃ x, xs[k]? = some x := ⟨xs[k], List.getElem?_eq_getElem hlk⟩
    obtain ⟨v, b, off, hr, hv, rfl, hbl, hcell⟩ := elem_cells kInt_ok (n := 1) rfl (by decide) HROW.out HL.out hx
    have hgd : xs.getD k x = x := by simp [List.getD, hx]
    have hyes : p x = true → fidx p xs = k := fun h => fidx_here p xs x k hlk HA.out (by rw [hgd]; exact h)
    have hno : p x = false → (xs.take (k + 1)).any p = false := fun h => fidx_next p xs x k hlk HA.out (by rw [hgd]; exact h)
    have HC := Lib.hid (HCL.out wr x v HB.out (List.mem_of_getElem? hx) (kInt_ok.later hr HB.out))
    have HY := Lib.hid hyes; have HN := Lib.hid hno
    clear hx hv hgd hyes hno
    obtain ⟨rfl, _⟩ := hr
    have c0 : wr.cell? ⟨b, off + k, none⟩ = some _ := (HB.out.cell (p := ⟨b, off + k, none⟩) hbl).trans (by have := hcell 0 _ rfl; simpa [Nat.add_assoc] using this)
    clear hcell
    cases hp : p x with
    | true =>
      rw [hp] at HC
      have HP := Lib.hid hp; clear hp
      go_wp2_with (go_at_call 44; refine HC.out.mono ?_; rintro e w2 ⟨rfl, hb2⟩; have HB2 := Lib.hid hb2; clear hb2)
      go_ret
      exact ⟨ret_int (HY.out HP.out).symm, HB.out.trans (HB2.out.mono HB.out.size)⟩
    | false =>
      rw [hp] at HC
      have HP := Lib.hid hp; clear hp
      go_wp2_with (go_at_call 44; refine HC.out.mono ?_; rintro e w2 ⟨rfl, hb2⟩; have HB2 := Lib.hid hb2; clear hb2)
      go_roundw
      case rel => exact ⟨k + 1, by omega, by go_num, HN.out HP.out, HB.out.trans (HB2.out.mono HB.out.size)⟩
      case measure => simp [intOf]; omega

set_option maxHeartbeats 1000000 in
theorem has_gm1 {cs : List Value} {xs : List Int} {w : World} (c0 : Value) (p : Int → Bool) (h : kIntS.rd w.heap.size w cs xs) (hclo : ∀ (wx : World) (x : Int) (v : List Value), Below w.heap.size w wx → x ∈ xs → kInt.rd wx.heap.size wx v x → Calls Try.prog 44 #[one v, c0] wx fun e w' => e = .returned (.bool (p x)) ∧ Below wx.heap.size wx w') :
    Calls Try.prog 43 #[one cs, .func (.func 44) #[] #[c0]] w fun e w' => e = .returned (.bool (xs.any p)) ∧ Below w.heap.size w w' := by
  have HI := Lib.hid (idx_gm1 c0 p h hclo)
  obtain ⟨a, cap, vss, rfl, ⟨hc1, hc2⟩, hrow, hl⟩ := h
  clear hclo hrow hl
  by_cases h : 0 ≤ fidx p xs
  · have H := Lib.hid ((fidx_any p xs).1 h)
    go_enter Try.func43, Try.ntmps43
    go_wp2_with (go_at_call 69; refine HI.out.mono ?_; rintro e w' ⟨rfl, hb2⟩; have HB2 := Lib.hid hb2; clear hb2)
    go_ret
    exact ⟨ret_bool (by rw [H.out]; try (simp; try omega)), HB2.out⟩
  · have H := Lib.hid (Bool.eq_false_iff.2 fun hc => h ((fidx_any p xs).2 hc))
    go_enter Try.func43, Try.ntmps43
    go_wp2_with (go_at_call 69; refine HI.out.mono ?_; rintro e w' ⟨rfl, hb2⟩; have HB2 := Lib.hid hb2; clear hb2)
    go_ret
    exact ⟨ret_bool (by rw [H.out]; try (simp; try omega)), HB2.out⟩

set_option maxHeartbeats 1000000 in
theorem clo_gm2 (many : Nat) (hm : many ≤ 12) (x : List Int) (v : List Value) (B : Nat) (w : World) (hr : kIntS.rd w.heap.size w v x) (hB : B < w.heap.size) (hc : w.cell? ⟨B, 0, none⟩ = some (.int .i64 (many : Int))) :
    Calls Try.prog 42 #[one v, .pointer (some ⟨B, 0, none⟩)] w fun e w' => e = .returned (.bool (!rowB many x)) ∧ Below w.heap.size w w' := by
  have HI := Lib.hid (has_gm1 (.pointer (some ⟨B, 0, none⟩)) (fun k => !stB many k) hr (fun wx k v hb _ hk => by
    obtain ⟨rfl, _⟩ := hk
    exact clo_gm1 many hm k B wx (below_later hb hc)))
  obtain ⟨a, cap, vss, rfl, ⟨hc1, hc2⟩, _⟩ := hr
  unfold maxLen at hc2
  have hn : x.length ≤ 9223372036854775807 := by omega
  rw [any_not] at HI
  have hz : rowB many x = (decide (x.length = 3) && x.all (stB many)) := rfl
  rw [hz]; clear hz
  show Calls Try.prog 42 #[.slice a x.length cap, .pointer (some ⟨B, 0, none⟩)] w _
  generalize x.all (stB many) = r at *
  by_cases h3 : x.length = 3
  · have hd : ((x.length : Int) != 3) = false := by simp; omega
    have hd2 : decide (x.length = 3) = true := by simp [h3]
    rw [hd2]
    clear hd2 h3
    go_enter Try.func42, Try.ntmps42
    go_wp2_with fail
    refine HI.out.mono ?_
    rintro e w' ⟨rfl, hb⟩
    have HB := Lib.hid hb; clear hb
    go_wp2_with fail
    go_ret
    exact ⟨rfl, HB.out⟩
  · have hd : ((x.length : Int) != 3) = true := by simp; omega
    have hd2 : decide (x.length = 3) = false := by simp [h3]
    rw [hd2]
    clear hd2 h3
    go_enter Try.func42, Try.ntmps42
    go_wp2_with fail
    go_ret
    exact ⟨rfl, Below.refl _ _⟩

set_option maxHeartbeats 1000000 in
theorem idx_gm2 {cs : List Value} {xs : List (List Int)} {w : World} (c0 : Value) (p : (List Int) → Bool) (h : kIntSS.rd w.heap.size w cs xs) (hclo : ∀ (wx : World) (x : (List Int)) (v : List Value), Below w.heap.size w wx → x ∈ xs → kIntS.rd wx.heap.size wx v x → Calls Try.prog 42 #[one v, c0] wx fun e w' => e = .returned (.bool (p x)) ∧ Below wx.heap.size wx w') :
    Calls Try.prog 68 #[one cs, .func (.func 42) #[] #[c0]] w fun e w' => e = .returned (.int .i64 (fidx p xs)) ∧ Below w.heap.size w w' := by
  obtain ⟨a, cap, vss, rfl, ⟨hc1, hc2⟩, hrow, hl⟩ := h
  unfold maxLen at hc2
  have hn : xs.length ≤ 9223372036854775807 := by omega
  show Calls Try.prog 68 #[.slice a xs.length cap, .func (.func 42) #[] #[c0]] w _
  have HROW := Lib.hid hrow; have HL := Lib.hid hl; have HCL := Lib.hid hclo
  clear hrow hl hclo
  go_enter Try.func68, Try.ntmps68
  go_wp2_with fail
  go_loopw [8] (fun i wr => ∃ k : Nat, k ≤ xs.length ∧ i = .int .i64 k ∧ Hid ((xs.take k).any p = false) ∧ Hid (Below w.heap.size w wr)) (fun i _ => xs.length - (intOf i).toNat)
  case atStart => exact ⟨0, Nat.zero_le _, rfl, rfl, Below.refl _ _⟩
  case round =>
    obtain ⟨k, hk, rfl, HA, HB⟩ := hrel
    by_cases hlk : k < xs.length
    case neg =>
      go_wp2_with fail
      go_ret
      obtain rfl : k = xs.length := by omega
      have h1 := HA.out
      rw [List.take_length] at h1
      exact ⟨ret_int (fidx_none p xs h1).symm, HB.out⟩
    obtain ⟨x, hx⟩ : ∃ x, xs[k]? = some x := ⟨xs[k], List.getElem?_eq_getElem hlk⟩
    obtain ⟨v, b, off, hr, hv, rfl, hbl, hcell⟩ := elem_cells kIntS_ok (n := 1) rfl (by decide) HROW.out HL.out hx
    have hgd : xs.getD k x = x := by simp [List.getD, hx]
    have hyes : p x = true → fidx p xs = k := fun h => fidx_here p xs x k hlk HA.out (by rw [hgd]; exact h)
    have hno : p x = false → (xs.take (k + 1)).any p = false := fun h => fidx_next p xs x k hlk HA.out (by rw [hgd]; exact h)
    have HC := Lib.hid (HCL.out wr x v HB.out (List.mem_of_getElem? hx) (kIntS_ok.later hr HB.out))
    have HY := Lib.hid hyes; have HN := Lib.hid hno
    clear hx hv hgd hyes hno
    obtain ⟨ea, ecap, _, rfl, _⟩ := hr
    have c0 : wr.cell? ⟨b, off + k, none⟩ = some _ := (HB.out.cell (p := ⟨b, off + k, none⟩) hbl).trans (by have := hcell 0 _ rfl; simpa [Nat.add_assoc] using this)
    clear hcell
    cases hp : p x with
    | true =>
      rw [hp] at HC
      have HP := Lib.hid hp; clear hp
      go_wp2_with (go_at_call 42; refine HC.out.mono ?_; rintro e w2 ⟨rfl, hb2⟩; have HB2 := Lib.hid hb2; clear hb2)
      go_ret
      exact ⟨ret_int (HY.out HP.out).symm, HB.out.trans (HB2.out.mono HB.out.size)⟩
    | false =>
      rw [hp] at HC
      have HP := Lib.hid hp; clear hp
      go_wp2_with (go_at_call 42; refine HC.out.mono ?_; rintro e w2 ⟨rfl, hb2⟩; have HB2 := Lib.hid hb2; clear hb2)
      go_roundw
      case rel => exact ⟨k + 1, by omega, by go_num, HN.out HP.out, HB.out.trans (HB2.out.mono HB.out.size)⟩
      case measure => simp [intOf]; omega

set_option maxHeartbeats 1000000 in
theorem has_gm2 {cs : List Value} {xs : List (List Int)} {w : World} (c0 : Value) (p : (List Int) → Bool) (h : kIntSS.rd w.heap.size w cs xs) (hclo : ∀ (wx : World) (x : (List Int)) (v : List Value), Below w.heap.size w wx → x ∈ xs → kIntS.rd wx.heap.size wx v x → Calls Try.prog 42 #[one v, c0] wx fun e w' => e = .returned (.bool (p x)) ∧ Below wx.heap.size wx w') :
    Calls Try.prog 41 #[one cs, .func (.func 42) #[] #[c0]] w fun e w' => e = .returned (.bool (xs.any p)) ∧ Below w.heap.size w w' := by
  have HI := Lib.hid (idx_gm2 c0 p h hclo)
  obtain ⟨a, cap, vss, rfl, ⟨hc1, hc2⟩, hrow, hl⟩ := h
  clear hclo hrow hl
  by_cases h : 0 ≤ fidx p xs
  · have H := Lib.hid ((fidx_any p xs).1 h)
    go_enter Try.func41, Try.ntmps41
    go_wp2_with (go_at_call 68; refine HI.out.mono ?_; rintro e w' ⟨rfl, hb2⟩; have HB2 := Lib.hid hb2; clear hb2)
    go_ret
    exact ⟨ret_bool (by rw [H.out]; try (simp; try omega)), HB2.out⟩
  · have H := Lib.hid (Bool.eq_false_iff.2 fun hc => h ((fidx_any p xs).2 hc))
    go_enter Try.func41, Try.ntmps41
    go_wp2_with (go_at_call 68; refine HI.out.mono ?_; rintro e w' ⟨rfl, hb2⟩; have HB2 := Lib.hid hb2; clear hb2)
    go_ret
    exact ⟨ret_bool (by rw [H.out]; try (simp; try omega)), HB2.out⟩

set_option maxHeartbeats 1000000 in
theorem impl_GoodMachine (w : World) (cs0 : List Value) (a0 : Mach) (h0 : kMachine.rd w.heap.size w cs0 a0) (ht : kMachine.wt a0 ≤ 1048576) :
    Calls Try.prog 14 #[.agg cs0.toArray] w fun e w' => e = .returned (.bool (R_GoodMachine a0)) ∧ Below w.heap.size w w' := by
  obtain ⟨ea, ecap, eb, ecap', rfl, hn, he⟩ := Machine_rd h0
  have hl1 : a0.1.length ≤ 1048576 := by have : a0.1.length + sumL kIntS.wt a0.1 + (a0.2.length + sumL kBool.wt a0.2) ≤ 1048576 := ht; omega
  have hl2 : a0.2.length ≤ 1048576 := by have : a0.1.length + sumL kIntS.wt a0.1 + (a0.2.length + sumL kBool.wt a0.2) ≤ 1048576 := ht; omega
  have HN := Lib.hid hn
  clear h0 ht he hn
  have HW := Lib.hid (fun wx => within_any (a0.1.length : Int) 1 12 wx)
  have hz : R_GoodMachine a0 = (inB (a0.1.length : Int) 1 12 && decide (a0.2.length = a0.1.length) && a0.1.all (rowB a0.1.length)) := rfl
  rw [hz]; clear hz
  cases h1 : inB (a0.1.length : Int) 1 12 with
  | false =>
    rw [h1] at HW
    clear h1
    go_enter Try.func14, Try.ntmps14
    go_wp2_with fail
    refine (HW.out _).mono ?_
    rintro e w' ⟨rfl, rfl⟩
    go_wp2_with fail
    go_ret
    exact ⟨rfl, ((Below.refl _ _).alloc (Nat.le_refl _) _).alloc (by simp) _⟩
  | true =>
    rw [h1] at HW
    have hm : a0.1.length ≤ 12 := by have := inB_of h1; omega
    clear h1
    by_cases h2 : a0.2.length = a0.1.length
    · have hd : ((a0.2.length : Int) != (a0.1.length : Int)) = false := by simp; omega
      have hd2 : decide (a0.2.length = a0.1.length) = true := by simp [h2]
      rw [hd2]
      clear hd2 h2
      have HI := Lib.hid (fun (wx : World) (hb : Below w.heap.size w wx) (B : Nat) (hB : B < wx.heap.size) (hc : wx.cell? ⟨B, 0, none⟩ = some (.int .i64 (a0.1.length : Int))) => has_gm2 (w := wx) (.pointer (some ⟨B, 0, none⟩)) (fun l => !rowB a0.1.length l) (kIntSS_ok.later HN.out hb) (fun wy x v hby _ hx =>
        clo_gm2 a0.1.length hm x v B wy hx (Nat.lt_of_lt_of_le hB hby.size) (below_later hby hc)))
      simp only [any_not] at HI
      generalize a0.1.all (rowB a0.1.length) = r at *
      go_enter Try.func14, Try.ntmps14
      go_wp2_with fail
      refine (HW.out _).mono ?_
      rintro e w' ⟨rfl, rfl⟩
      go_wp2_with fail
      refine (HI.out _ (((Below.refl _ _).alloc (Nat.le_refl _) _).alloc (by simp) _) _ (by simp) (by go_simp)).mono ?_
      rintro e w2 ⟨rfl, hb⟩
      have HB := Lib.hid hb; clear hb
      go_wp2_with fail
      go_ret
      exact ⟨by simp, (((Below.refl _ _).alloc (Nat.le_refl _) _).alloc (by simp) _).trans (HB.out.mono (by simp; omega))⟩
    · have hd : ((a0.2.length : Int) != (a0.1.length : Int)) = true := by simp; omega
      have hd2 : decide (a0.2.length = a0.1.length) = false := by simp [h2]
      rw [hd2]
      clear hd2 h2
      go_enter Try.func14, Try.ntmps14
      go_wp2_with fail
      refine (HW.out _).mono ?_
      rintro e w' ⟨rfl, rfl⟩
      go_wp2_with fail
      go_ret
      exact ⟨rfl, ((Below.refl _ _).alloc (Nat.le_refl _) _).alloc (by simp) _⟩

theorem all_no {α : Type} {p : α → Bool} {l : List α} {k : Nat} {x : α} (h : l[k]? = some x) (hp : p x = false) : l.all p = false := by
  rw [List.all_eq_false]; exact ⟨x, List.mem_of_getElem? h, by simp [hp]⟩
theorem all_go {α : Type} {p : α → Bool} {l : List α} {k : Nat} {x : α} (h : l[k]? = some x) (ha : (l.take k).all p = true) (hp : p x = true) : (l.take (k + 1)).all p = true := by
  rw [take_next l k x h, List.all_append, ha]; simp [hp]

set_option maxHeartbeats 2000000 in
theorem spec_GoodMachine (w : World) (cs0 : List Value) (a0 : Mach) (h0 : kMachine.rd w.heap.size w cs0 a0) (ht : kMachine.wt a0 ≤ 1048576) :
    Calls Try.prog 12 #[.agg cs0.toArray] w fun e w' => e = .returned (.bool (R_GoodMachine a0)) ∧ Below w.heap.size w w' := by
  obtain ⟨ea, ecap, eb, ecap', rfl, hn, he⟩ := Machine_rd h0
  have hl1 : a0.1.length ≤ 1048576 := by have : a0.1.length + sumL kIntS.wt a0.1 + (a0.2.length + sumL kBool.wt a0.2) ≤ 1048576 := ht; omega
  have hl2 : a0.2.length ≤ 1048576 := by have : a0.1.length + sumL kIntS.wt a0.1 + (a0.2.length + sumL kBool.wt a0.2) ≤ 1048576 := ht; omega
  obtain ⟨_, _, vss, hcs, hcap, hrow, hl⟩ := hn
  simp only [List.cons.injEq, Value.slice.injEq, and_true, true_and] at hcs
  obtain ⟨rfl, rfl⟩ := hcs
  have HROW := Lib.hid hrow; have HL := Lib.hid hl
  have HW := Lib.hid (fun wx => l1In_any (a0.1.length : Int) 1 12 wx)
  have HBX : Hid (∀ o, Below w.heap.size w (w.alloc o)) := Lib.hid fun o => (Below.refl _ _).alloc (Nat.le_refl _) o
  have HNO : Hid (a0.1.all (rowB a0.1.length) = false → R_GoodMachine a0 = false) := Lib.hid fun h => by unfold R_GoodMachine; rw [h, Bool.and_false]
  have HYES : Hid (a0.1.all (rowB a0.1.length) = true → R_GoodMachine a0 = (inB (a0.1.length : Int) 1 12 && decide (a0.2.length = a0.1.length))) := Lib.hid fun h => by unfold R_GoodMachine; rw [h, Bool.and_true]
  clear h0 ht he hrow hl hcap
  go_enter Try.func12, Try.ntmps12
  go_wp2_with fail
  go_loop [14] (fun i => ∃ k : Nat, k ≤ a0.1.length ∧ i = .int .i64 k ∧ Hid ((a0.1.take k).all (rowB a0.1.length) = true)) (fun i => a0.1.length - (intOf i).toNat)
  case atStart => exact ⟨0, Nat.zero_le _, rfl, rfl⟩
  case round =>
    obtain ⟨k, hk, rfl, HA⟩ := hrel
    by_cases hlk : k < a0.1.length
    case neg =>
      obtain rfl : k = a0.1.length := by omega
      have hall := HA.out
      rw [List.take_length] at hall
      have HG := Lib.hid (HYES.out hall)
      clear hall
      cases h1 : inB (a0.1.length : Int) 1 12 with
      | false =>
        rw [h1] at HW HG
        clear h1
        go_wp2_with fail
        refine (HW.out _).mono ?_
        rintro e w' ⟨rfl, rfl⟩
        go_wp2_with fail
        go_ret
        exact ⟨ret_bool HG.out.symm, HBX.out _⟩
      | true =>
        rw [h1] at HW HG
        clear h1
        have hd : ((a0.2.length : Int) == (a0.1.length : Int)) = decide (a0.2.length = a0.1.length) := by by_cases h : a0.2.length = a0.1.length <;> simp [h] <;> omega
        go_wp2_with fail
        refine (HW.out _).mono ?_
        rintro e w' ⟨rfl, rfl⟩
        go_wp2_with fail
        go_ret
        exact ⟨ret_bool (by rw [HG.out]; simp), HBX.out _⟩
    obtain ⟨l, hx⟩ : ∃ l, a0.1[k]? = some l := ⟨a0.1[k], List.getElem?_eq_getElem hlk⟩
    obtain ⟨v, b, off, hr, hv, rfl, hbl, hcell⟩ := elem_cells kIntS_ok (n := 1) rfl (by decide) HROW.out HL.out hx
    have HXN : Hid (rowB a0.1.length l = false → R_GoodMachine a0 = false) := Lib.hid fun h => HNO.out (all_no hx h)
    have HXY : Hid (rowB a0.1.length l = true → (a0.1.take (k + 1)).all (rowB a0.1.length) = true) := Lib.hid fun h => all_go hx HA.out h
    obtain ⟨ea1, ecap1, vs2, rfl, ⟨hcp1, hcp2⟩, hrow2, hl2'⟩ := hr
    unfold maxLen at hcp2
    have hln : l.length ≤ 9223372036854775807 := by omega
    have c0 : (w.alloc (.cells #[.slice (some ⟨b, off, none⟩) a0.1.length ecap, .slice eb a0.2.length ecap'] 28)).cell? ⟨b, off + k, none⟩ = some (.slice ea1 l.length ecap1) := cell_alloc _ (by have := hcell 0 _ rfl; simpa using this)
    have HROW2 := Lib.hid hrow2; have HL2 := Lib.hid hl2'
    have HRB : Hid (rowB a0.1.length l = (decide (l.length = 3) && l.all (stB a0.1.length))) := Lib.hid rfl
    clear hrow2 hl2' hcell hx hv
    go_wp2_with fail
    go_loop [20] (fun j => ∃ q : Nat, q ≤ l.length ∧ j = .int .i64 q ∧ Hid ((l.take q).all (stB a0.1.length) = true)) (fun j => l.length - (intOf j).toNat)
    case atStart => exact ⟨0, Nat.zero_le _, rfl, rfl⟩
    case round =>
      obtain ⟨q, hq, rfl, HA2⟩ := hrel
      by_cases hlq : q < l.length
      case neg =>
        obtain rfl : q = l.length := by omega
        have hall := HA2.out
        rw [List.take_length] at hall
        have HALL := Lib.hid hall
        clear hall
        by_cases h3 : l.length = 3
        · have HR3 : Hid (rowB a0.1.length l = true) := Lib.hid (by rw [HRB.out, HALL.out, h3]; rfl)
          have hd : ((l.length : Int) != 3) = false := by simp; omega
          clear h3
          go_wp2_with fail
          go_round
          case rel => exact ⟨k + 1, by omega, by go_num, HXY.out HR3.out⟩
          case measure => simp [intOf]; omega
        · have HR3 : Hid (rowB a0.1.length l = false) := Lib.hid (by rw [HRB.out]; simp [h3])
          have hd : ((l.length : Int) != 3) = true := by simp; omega
          clear h3
          go_wp2_with fail
          go_ret
          exact ⟨ret_bool (HXN.out HR3.out).symm, HBX.out _⟩
      obtain ⟨y, hy⟩ : ∃ y, l[q]? = some y := ⟨l[q], List.getElem?_eq_getElem hlq⟩
      obtain ⟨v, b2, off2, hr2, hv2, rfl, hbl2, hcell2⟩ := elem_cells kInt_ok (n := 1) rfl (by decide) HROW2.out HL2.out hy
      obtain ⟨rfl, _⟩ := hr2
      have c1 : (w.alloc (.cells #[.slice (some ⟨b, off, none⟩) a0.1.length ecap, .slice eb a0.2.length ecap'] 28)).cell? ⟨b2, off2 + q, none⟩ = some (.int .i64 y) := cell_alloc _ (by have := hcell2 0 _ rfl; simpa using this)
      have HY := Lib.hid hy
      clear hcell2 hy hv2
      cases hs : stB a0.1.length y with
      | false =>
        have HR3 : Hid (rowB a0.1.length l = false) := Lib.hid (by rw [HRB.out, all_no HY.out hs, Bool.and_false])
        have hny := inB_not hs
        clear hs
        by_cases h0 : y < 0
        · clear hny
          go_wp2_with fail
          go_ret
          exact ⟨ret_bool (HXN.out HR3.out).symm, HBX.out _⟩
        · have hge : (a0.1.length : Int) ≤ y := by omega
          clear hny
          go_wp2_with fail
          go_ret
          exact ⟨ret_bool (HXN.out HR3.out).symm, HBX.out _⟩
      | true =>
        have HA3 : Hid ((l.take (q + 1)).all (stB a0.1.length) = true) := Lib.hid (all_go HY.out HA2.out hs)
        obtain ⟨hy0, hy1⟩ := inB_of hs
        have hlt : y < (a0.1.length : Int) := by omega
        clear hs hy1
        go_wp2_with fail
        go_round
        case rel => exact ⟨q + 1, by omega, by go_num, HA3⟩
        case measure => simp [intOf]; omega

end Go.Proofs.Ytedjahinlpehgaa
