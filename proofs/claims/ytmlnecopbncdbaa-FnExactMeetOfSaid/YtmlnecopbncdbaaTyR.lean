/- Whether a tree is right, how deep it is, how many types it has, whether it is good: the program's walks. -/
import Derived.Test.YtmlnecopbncdbaaTyP
namespace Go.Proofs.Ytmlnecopbncdbaa
set_option linter.unusedVariables false
set_option linter.unusedSimpArgs false
open Go.ChangeShapes Go.WideShapes Go.ChangeAt Go.RowKit
set_option maxRecDepth 100000

/-! ### slices.IndexFunc, slices.ContainsFunc over the parts of a type -/
set_option maxHeartbeats 1000000 in
theorem idx_right {S : Nat → Prop} {w : World} {a : Option Addr} {cap : Nat} {ks : List Tr} {vs : List Value} (c0 : Value) (p : Tr → Bool) (hrow : RS S w a vs) (hks : KPs S w ks vs) (hn : ks.length ≤ 1048576) (hclo : ∀ (wx : World) (x : Tr) (v : Value), Below w.heap.size w wx → x ∈ ks → KP S wx x v → Calls Try.prog 92 #[v, c0] wx fun e w' => e = .returned (.bool (p x)) ∧ Below wx.heap.size wx w') :
    Calls Try.prog 84 #[.slice a ks.length cap, .func (.func 92) #[] #[c0]] w fun e w' => e = .returned (.int .i64 (fidx p ks)) ∧ Below w.heap.size w w' := by
  have HROW := Lib.hid hrow; have HKS := Lib.hid hks; have HCL := Lib.hid hclo
  clear hrow hks hclo
  go_enter Try.func84, Try.ntmps84
  go_wp2_with fail
  go_loopw [8] (fun i wr => ∃ k : Nat, k ≤ ks.length ∧ i = .int .i64 k ∧ Hid ((ks.take k).any p = false) ∧ Hid (Below w.heap.size w wr)) (fun i _ => ks.length - (intOf i).toNat)
  case atStart => exact ⟨0, Nat.zero_le _, rfl, rfl, Below.refl _ _⟩
  case round =>
    obtain ⟨k, hk, rfl, HA, HB⟩ := hrel
    by_cases hlk : k < ks.length
    case neg =>
      go_wp2_with fail
      go_ret
      obtain rfl : k = ks.length := by omega
      have h1 := HA.out
      rw [List.take_length] at h1
      exact ⟨ret_int (fidx_none p ks h1).symm, HB.out⟩
    obtain ⟨x, hx⟩ : ∃ x, ks[k]? = some x := ⟨ks[k], List.getElem?_eq_getElem hlk⟩
    have hgd : ks.getD k x = x := by simp [List.getD, hx]
    have hyes : p x = true → fidx p ks = k := fun h => fidx_here p ks x k hlk HA.out (by rw [hgd]; exact h)
    have hno : p x = false → (ks.take (k + 1)).any p = false := fun h => fidx_next p ks x k hlk HA.out (by rw [hgd]; exact h)
    obtain ⟨b, off, pb, va, ca, ws, rfl, hrb, r0, hkp, -⟩ := kps_at HROW.out HKS.out HB.out hx
    have HC := Lib.hid (HCL.out wr x _ HB.out (List.mem_of_getElem? hx) (hkp.keep (kept_below HB.out) (fun _ h _ => h)))
    have HY := Lib.hid hyes; have HN := Lib.hid hno
    clear hx hkp hgd hyes hno
    cases hp : p x with
    | true =>
      rw [hp] at HC
      have HP := Lib.hid hp; clear hp
      go_wp2_with (go_at_call 92; refine HC.out.mono ?_; rintro e w2 ⟨rfl, hb2⟩; have HB2 := Lib.hid hb2; clear hb2)
      go_ret
      exact ⟨ret_int (HY.out HP.out).symm, HB.out.trans (HB2.out.mono HB.out.size)⟩
    | false =>
      rw [hp] at HC
      have HP := Lib.hid hp; clear hp
      go_wp2_with (go_at_call 92; refine HC.out.mono ?_; rintro e w2 ⟨rfl, hb2⟩; have HB2 := Lib.hid hb2; clear hb2)
      go_roundw
      case rel => exact ⟨k + 1, by omega, by go_num, HN.out HP.out, HB.out.trans (HB2.out.mono HB.out.size)⟩
      case measure => simp [intOf]; omega

set_option maxHeartbeats 1000000 in
theorem idx_part {S : Nat → Prop} {w : World} {a : Option Addr} {cap : Nat} {ks : List Tr} {vs : List Value} (c0 : Value) (p : Tr → Bool) (hrow : RS S w a vs) (hks : KPs S w ks vs) (hn : ks.length ≤ 1048576) (hclo : ∀ (wx : World) (x : Tr) (v : Value), Below w.heap.size w wx → x ∈ ks → KP S wx x v → Calls Try.prog 85 #[v, c0] wx fun e w' => e = .returned (.bool (p x)) ∧ Below wx.heap.size wx w') :
    Calls Try.prog 84 #[.slice a ks.length cap, .func (.func 85) #[] #[c0]] w fun e w' => e = .returned (.int .i64 (fidx p ks)) ∧ Below w.heap.size w w' := by
  have HROW := Lib.hid hrow; have HKS := Lib.hid hks; have HCL := Lib.hid hclo
  clear hrow hks hclo
  go_enter Try.func84, Try.ntmps84
  go_wp2_with fail
  go_loopw [8] (fun i wr => ∃ k : Nat, k ≤ ks.length ∧ i = .int .i64 k ∧ Hid ((ks.take k).any p = false) ∧ Hid (Below w.heap.size w wr)) (fun i _ => ks.length - (intOf i).toNat)
  case atStart => exact ⟨0, Nat.zero_le _, rfl, rfl, Below.refl _ _⟩
  case round =>
    obtain ⟨k, hk, rfl, HA, HB⟩ := hrel
    by_cases hlk : k < ks.length
    case neg =>
      go_wp2_with fail
      go_ret
      obtain rfl : k = ks.length := by omega
      have h1 := HA.out
      rw [List.take_length] at h1
      exact ⟨ret_int (fidx_none p ks h1).symm, HB.out⟩
    obtain ⟨x, hx⟩ : ∃ x, ks[k]? = some x := ⟨ks[k], List.getElem?_eq_getElem hlk⟩
    have hgd : ks.getD k x = x := by simp [List.getD, hx]
    have hyes : p x = true → fidx p ks = k := fun h => fidx_here p ks x k hlk HA.out (by rw [hgd]; exact h)
    have hno : p x = false → (ks.take (k + 1)).any p = false := fun h => fidx_next p ks x k hlk HA.out (by rw [hgd]; exact h)
    obtain ⟨b, off, pb, va, ca, ws, rfl, hrb, r0, hkp, -⟩ := kps_at HROW.out HKS.out HB.out hx
    have HC := Lib.hid (HCL.out wr x _ HB.out (List.mem_of_getElem? hx) (hkp.keep (kept_below HB.out) (fun _ h _ => h)))
    have HY := Lib.hid hyes; have HN := Lib.hid hno
    clear hx hkp hgd hyes hno
    cases hp : p x with
    | true =>
      rw [hp] at HC
      have HP := Lib.hid hp; clear hp
      go_wp2_with (go_at_call 85; refine HC.out.mono ?_; rintro e w2 ⟨rfl, hb2⟩; have HB2 := Lib.hid hb2; clear hb2)
      go_ret
      exact ⟨ret_int (HY.out HP.out).symm, HB.out.trans (HB2.out.mono HB.out.size)⟩
    | false =>
      rw [hp] at HC
      have HP := Lib.hid hp; clear hp
      go_wp2_with (go_at_call 85; refine HC.out.mono ?_; rintro e w2 ⟨rfl, hb2⟩; have HB2 := Lib.hid hb2; clear hb2)
      go_roundw
      case rel => exact ⟨k + 1, by omega, by go_num, HN.out HP.out, HB.out.trans (HB2.out.mono HB.out.size)⟩
      case measure => simp [intOf]; omega

set_option maxHeartbeats 1000000 in
theorem has_right {S : Nat → Prop} {w : World} {a : Option Addr} {cap : Nat} {ks : List Tr} {vs : List Value} (c0 : Value) (p : Tr → Bool) (hrow : RS S w a vs) (hks : KPs S w ks vs) (hn : ks.length ≤ 1048576) (hclo : ∀ (wx : World) (x : Tr) (v : Value), Below w.heap.size w wx → x ∈ ks → KP S wx x v → Calls Try.prog 92 #[v, c0] wx fun e w' => e = .returned (.bool (p x)) ∧ Below wx.heap.size wx w') :
    Calls Try.prog 91 #[.slice a ks.length cap, .func (.func 92) #[] #[c0]] w fun e w' => e = .returned (.bool (ks.any p)) ∧ Below w.heap.size w w' := by
  have HI := Lib.hid (idx_right (a := a) (cap := cap) c0 p hrow hks hn hclo)
  clear hclo hrow hks
  by_cases h : 0 ≤ fidx p ks
  · have H := Lib.hid ((fidx_any p ks).1 h)
    go_enter Try.func91, Try.ntmps91
    go_wp2_with (go_at_call 84; refine HI.out.mono ?_; rintro e w' ⟨rfl, hb2⟩; have HB2 := Lib.hid hb2; clear hb2)
    go_ret
    exact ⟨ret_bool (by rw [H.out]; try (simp; try omega)), HB2.out⟩
  · have H := Lib.hid (Bool.eq_false_iff.2 fun hc => h ((fidx_any p ks).2 hc))
    go_enter Try.func91, Try.ntmps91
    go_wp2_with (go_at_call 84; refine HI.out.mono ?_; rintro e w' ⟨rfl, hb2⟩; have HB2 := Lib.hid hb2; clear hb2)
    go_ret
    exact ⟨ret_bool (by rw [H.out]; try (simp; try omega)), HB2.out⟩
/-! ### right -/
noncomputable def fitB (t : Tr) : Bool := @decide (Fit t.hd (hds t.kids)) (Classical.propDecidable _)
noncomputable def rightB (t : Tr) : Bool := @decide (RightT t) (Classical.propDecidable _)
theorem fitB_iff {t : Tr} : fitB t = true ↔ Fit t.hd (hds t.kids) := by unfold fitB; exact @decide_eq_true_iff _ (Classical.propDecidable _)
theorem rightB_iff {t : Tr} : rightB t = true ↔ RightT t := by unfold rightB; exact @decide_eq_true_iff _ (Classical.propDecidable _)
/-- a part that is not right there -/
noncomputable def badP (k : Int) (t : Tr) : Bool := !decide (PartOf k t.hd) || !rightB t
theorem badP_any (k : Int) : ∀ (l : List Tr), l.any (badP k) = false ↔ RightL k l
  | [] => by simp [RightL]
  | t :: r => by
    rw [List.any_cons, RightL, Bool.or_eq_false_iff, badP_any k r]
    unfold badP
    rw [Bool.or_eq_false_iff, Bool.not_eq_false', Bool.not_eq_false', decide_eq_true_iff, rightB_iff, and_assoc]
theorem rightB_eq (t : Tr) : rightB t = (fitB t && !t.kids.any (badP t.kind)) := by
  rw [Bool.eq_iff_iff, rightB_iff, Bool.and_eq_true, fitB_iff, Bool.not_eq_true', badP_any]
  cases t with
  | node k n o m mo ks => rw [RightT]; exact Iff.rfl
theorem count_mem : ∀ {l : List Tr} {t : Tr}, t ∈ l → countT t ≤ countL l
  | [], t, h => by simp at h
  | x :: r, t, h => by
    rw [countL]
    rcases List.mem_cons.1 h with rfl | h
    · omega
    · have := count_mem h; omega
theorem count_kids (t : Tr) : countL t.kids < countT t := by
  cases t with
  | node k n o m mo ks => rw [countT]; show countL ks < _; omega
theorem count_len : ∀ (l : List Tr), l.length ≤ countL l
  | [] => by simp
  | t :: r => by
    rw [countL, List.length_cons]
    have := countT_pos t
    have := count_len r
    omega
set_option maxHeartbeats 1000000 in
theorem clo_right {S : Nat → Prop} {w : World} {x : Tr} {v : Value} {cb b : Nat} {kd : Int} {R : Bool} (hcb : w.cell? ⟨cb, 0, none⟩ = some (.pointer (some ⟨b, 0, none⟩))) (hb : w.cell? ⟨b, 0, none⟩ = some (.int .i64 kd)) (h : KP S w x v)
    (IH : Calls Try.prog 82 #[v] w fun e w' => e = .returned (.bool R) ∧ Below w.heap.size w w') :
    Calls Try.prog 92 #[v, .pointer (some ⟨cb, 0, none⟩)] w fun e w' => e = .returned (.bool (!decide (PartOf kd x.hd) || !R)) ∧ Below w.heap.size w w' := by
  have HIH := Lib.hid IH
  obtain ⟨pb, va, c, vs, rfl, -, hp, hc, hnm, -⟩ := h.open
  have HP := Lib.hid (impl_partOf pb x.hd _ _ kd w hnm hc)
  clear IH hc h
  cases hpo : decide (PartOf kd x.hd) with
  | false =>
    rw [hpo] at HP
    clear hpo
    go_enter Try.func92, Try.ntmps92
    go_wp2_with fail
    refine HP.out.mono ?_
    rintro e w' ⟨rfl, rfl⟩
    go_wp2_with fail
    go_ret
    exact ⟨rfl, Below.refl _ _⟩
  | true =>
    rw [hpo] at HP
    clear hpo
    cases R
    all_goals
      go_enter Try.func92, Try.ntmps92
      go_wp2_with fail
      refine HP.out.mono ?_
      rintro e w' ⟨rfl, rfl⟩
      go_wp2_with fail
      refine HIH.out.mono ?_
      rintro e w' ⟨rfl, hb⟩
      have HB := Lib.hid hb; clear hb
      go_wp2_with fail
      go_ret
      exact ⟨rfl, HB.out⟩
set_option maxHeartbeats 1000000 in
theorem impl_right_one {S : Nat → Prop} {w : World} {t : Tr} {p : Value} (h : KP S w t p) (hl : countT t ≤ 1048576) (IH : ∀ (wx : World) (x : Tr) (v : Value), x ∈ t.kids → KP S wx x v → Calls Try.prog 82 #[v] wx fun e w' => e = .returned (.bool (rightB x)) ∧ Below wx.heap.size wx w') :
    Calls Try.prog 82 #[p] w fun e w' => e = .returned (.bool (rightB t)) ∧ Below w.heap.size w w' := by
  have hkl : t.kids.length ≤ 1048576 := by have := count_kids t; have := count_len t.kids; omega
  obtain ⟨b, a, c, vs, rfl, hS, hb, hc, -, hkc, hcm, hrow, hks⟩ := h.open
  have HB1 := Lib.hid ((Below.refl w.heap.size w).alloc (Nat.le_refl _) (.cells #[.pointer (some ⟨b, 0, none⟩)] 65))
  have hbx : (w.alloc (.cells #[.pointer (some ⟨b, 0, none⟩)] 65)).cell? ⟨w.heap.size, 0, none⟩ = some (.pointer (some ⟨b, 0, none⟩)) := by simp
  have hwl : w.heap.size < (w.alloc (.cells #[.pointer (some ⟨b, 0, none⟩)] 65)).heap.size := by simp
  rw [rightB_eq]
  generalize hw1 : w.alloc (.cells #[.pointer (some ⟨b, 0, none⟩)] 65) = w1 at *
  have HP := Lib.hid (impl_partsOK (h.keep (kept_below HB1.out) (fun _ h _ => h)) hkl (fitB t) fitB_iff)
  have HSTEP : Hid (∀ w2, Below w1.heap.size w1 w2 → Calls Try.prog 91 #[.slice a t.kids.length c, .func (.func 92) #[] #[.pointer (some ⟨w.heap.size, 0, none⟩)]] w2 fun e w' => e = .returned (.bool (t.kids.any (badP t.kind))) ∧ Below w2.heap.size w2 w') := Lib.hid (fun w2 hb2 => by
    have hb3 := HB1.out.trans (hb2.mono HB1.out.size)
    refine has_right _ _ (hrow.keep (kept_below hb3) (fun _ h _ => h)) (KPs.keep (kept_below hb3) (fun _ h _ => h) _ _ hks) hkl (fun wx x v hbx2 hx hkp => ?_)
    unfold badP
    refine clo_right (b := b) (below_later hbx2 (below_later hb2 hbx)) ?_ hkp (IH wx x v hx hkp)
    exact (box6 (hp_later hbx2 (hp_later hb3 hc))).1)
  have HX := Lib.hid hc
  clear IH hc hks hrow h
  cases hf : fitB t with
  | false =>
    rw [hf] at HP
    rw [Bool.false_and]
    go_enter Try.func82, Try.ntmps82
    go_wp2_with fail
    refine HP.out.mono ?_
    rintro e w2 ⟨rfl, hb2⟩
    have HB2 := Lib.hid (HB1.out.trans (hb2.mono HB1.out.size)); clear hb2
    go_wp2_with fail
    go_ret
    exact ⟨rfl, HB2.out⟩
  | true =>
    rw [hf] at HP
    rw [Bool.true_and]
    generalize t.kids.any (badP t.kind) = R at *
    cases R
    all_goals
      go_enter Try.func82, Try.ntmps82
      go_wp2_with fail
      refine HP.out.mono ?_
      rintro e w2 ⟨rfl, hb2⟩
      have HB2 := Lib.hid (HB1.out.trans (hb2.mono HB1.out.size))
      have HC := Lib.hid (HSTEP.out w2 hb2)
      have x0 := below_later hb2 hbx
      obtain ⟨-, -, -, -, -, x5⟩ := box6 (hp_later HB2.out HX.out)
      clear hb2
      go_wp2_with fail
      refine HC.out.mono ?_
      rintro e w3 ⟨rfl, hb3⟩
      have HB3 := Lib.hid (HB2.out.trans (hb3.mono HB2.out.size)); clear hb3
      go_wp2_with fail
      go_ret
      exact ⟨rfl, HB3.out⟩
theorem impl_right {S : Nat → Prop} : ∀ (f : Nat) (w : World) (t : Tr) (p : Value), countT t ≤ f → KP S w t p → countT t ≤ 1048576 → Calls Try.prog 82 #[p] w fun e w' => e = .returned (.bool (rightB t)) ∧ Below w.heap.size w w'
  | 0, w, t, p, hf, _, _ => by have := countT_pos t; omega
  | f + 1, w, t, p, hf, h, hl => impl_right_one h hl (fun wx x v hx hk => by
      have h1 := count_mem hx
      have h2 := count_kids t
      exact impl_right f wx x v (by omega) hk (by omega))
/-! ### deep, count -/
theorem deep_count : ∀ (t : Tr), deepT t ≤ countT t := by
  have key : (∀ t : Tr, deepT t ≤ countT t) := fun t => by
    refine Tr.rec (motive_1 := fun t => deepT t ≤ countT t) (motive_2 := fun l => deepL l ≤ countL l) ?_ ?_ ?_ t
    · intro k n o m mo ks ih
      rw [deepT, countT]
      split <;> omega
    · simp [deepL]
    · intro t l h1 h2
      rw [deepL, countL]
      omega
  exact key
theorem deepL_snoc : ∀ (l : List Tr) (t : Tr), deepL (l ++ [t]) = max (deepL l) (deepT t)
  | [], t => by simp [deepL]
  | x :: r, t => by rw [List.cons_append, deepL, deepL_snoc r t, deepL]; omega
theorem countL_snoc : ∀ (l : List Tr) (t : Tr), countL (l ++ [t]) = countL l + countT t
  | [], t => by simp [countL]
  | x :: r, t => by rw [List.cons_append, countL, countL_snoc r t, countL]; omega
theorem take_snocT {l : List Tr} {i : Nat} {t : Tr} (h : l[i]? = some t) : l.take (i + 1) = l.take i ++ [t] := by
  obtain ⟨h1, rfl⟩ := List.getElem?_eq_some_iff.1 h
  exact List.take_succ_eq_append_getElem h1
theorem countL_take : ∀ (l : List Tr) (i : Nat), countL (l.take i) ≤ countL l
  | [], i => by simp
  | x :: r, 0 => by simp [countL]
  | x :: r, i + 1 => by rw [List.take_succ_cons, countL, countL]; have := countL_take r i; omega
theorem deepL_le : ∀ (l : List Tr), deepL l ≤ countL l
  | [] => by simp [deepL]
  | x :: r => by rw [deepL, countL]; have := deepL_le r; have := deep_count x; omega
theorem deepT_eq (t : Tr) : deepT t = deepL t.kids + (if holdsK t.kind = true then 1 else 0) := by
  cases t with
  | node k n o m mo ks => rw [deepT]; rfl
theorem countT_eq (t : Tr) : countT t = 1 + countL t.kids := by
  cases t with
  | node k n o m mo ks => rw [countT]; rfl
set_option maxHeartbeats 1000000 in
theorem impl_deep_one {S : Nat → Prop} {w : World} {t : Tr} {p : Value} (h : KP S w t p) (hl : countT t ≤ 1048576) (IH : ∀ (x : Tr) (v : Value), x ∈ t.kids → KP S w x v → Calls Try.prog 62 #[v] w fun e w' => e = .returned (.int .i64 (deepT x : Int)) ∧ w = w') :
    Calls Try.prog 62 #[p] w fun e w' => e = .returned (.int .i64 (deepT t : Int)) ∧ w = w' := by
  have hcl := count_kids t
  have hln := count_len t.kids
  obtain ⟨b, a, c, vs, rfl, hS, hb, hc, -, hkc, hcm, hrow, hks⟩ := h.open
  obtain ⟨x0, x1, x2, x3, x4, x5⟩ := box6 hc
  have HHO := Lib.hid (impl_holds b t.kind w x0)
  have HROW := Lib.hid hrow; have HKS := Lib.hid hks; have HIH := Lib.hid IH
  have HDL := Lib.hid (deepL_le t.kids)
  rw [deepT_eq]
  generalize t.kids = ks at *
  clear hc hrow hks IH h
  cases hh : holdsK t.kind
  all_goals
    rw [hh] at HHO
    simp only [Bool.false_eq_true, if_false, if_true]
    go_enter Try.func62, Try.ntmps62
    go_wp2_with fail
    go_loop [3, 11] (fun dv iv => ∃ i : Nat, i ≤ ks.length ∧ iv = .int .i64 (i : Int) ∧ dv = .int .i64 (deepL (ks.take i) : Int)) (fun _ iv => ks.length - (intOf iv).toNat)
    case atStart => exact ⟨0, by omega, rfl, by simp [deepL]⟩
    case round =>
      obtain ⟨i, hi, rfl, rfl⟩ := hrel
      by_cases hil : i < ks.length
      case neg =>
        obtain rfl : i = ks.length := by omega
        rw [List.take_length]
        have hd := HDL.out
        go_wp2_with fail
        refine HHO.out.mono ?_
        rintro e w' ⟨rfl, rfl⟩
        go_wp2_with fail
        go_ret
        exact ⟨by first | rfl | simp, rfl⟩
      obtain ⟨x, hx⟩ : ∃ x, ks[i]? = some x := ⟨ks[i], List.getElem?_eq_getElem hil⟩
      obtain ⟨rb, off, pb, va, ca, ws, rfl, hrb, r0, hkp, -⟩ := kps_at HROW.out HKS.out (Below.refl _ w) hx
      have HC := Lib.hid (HIH.out x _ (List.mem_of_getElem? hx) hkp)
      have HE : Hid (((deepL (ks.take (i + 1)) : Nat) : Int) = max (deepL (ks.take i) : Int) (deepT x : Int)) := Lib.hid (by rw [take_snocT hx, deepL_snoc]; omega)
      clear hx hkp
      go_wp2_with fail
      refine HC.out.mono ?_
      rintro e w' ⟨rfl, rfl⟩
      go_wp2_with fail
      go_round
      case rel => exact ⟨i + 1, by omega, by go_num, by rw [HE.out]; first | rfl | (congr 1; split <;> omega)⟩
      case measure => (simp [intOf]; try omega)
theorem impl_deep {S : Nat → Prop} : ∀ (f : Nat) (w : World) (t : Tr) (p : Value), countT t ≤ f → KP S w t p → countT t ≤ 1048576 → Calls Try.prog 62 #[p] w fun e w' => e = .returned (.int .i64 (deepT t : Int)) ∧ w = w'
  | 0, w, t, p, hf, _, _ => by have := countT_pos t; omega
  | f + 1, w, t, p, hf, h, hl => impl_deep_one h hl (fun x v hx hk => by
      have h1 := count_mem hx
      have h2 := count_kids t
      exact impl_deep f w x v (by omega) hk (by omega))
set_option maxHeartbeats 1000000 in
theorem impl_count_one {S : Nat → Prop} {w : World} {t : Tr} {p : Value} (h : KP S w t p) (hl : countT t ≤ 1048576) (IH : ∀ (x : Tr) (v : Value), x ∈ t.kids → KP S w x v → Calls Try.prog 83 #[v] w fun e w' => e = .returned (.int .i64 (countT x : Int)) ∧ w = w') :
    Calls Try.prog 83 #[p] w fun e w' => e = .returned (.int .i64 (countT t : Int)) ∧ w = w' := by
  have hcl := countT_eq t
  have hln := count_len t.kids
  obtain ⟨b, a, c, vs, rfl, hS, hb, hc, -, hkc, hcm, hrow, hks⟩ := h.open
  obtain ⟨x0, x1, x2, x3, x4, x5⟩ := box6 hc
  have HROW := Lib.hid hrow; have HKS := Lib.hid hks; have HIH := Lib.hid IH
  rw [countT_eq]
  generalize t.kids = ks at *
  clear hc hrow hks IH h
  go_enter Try.func83, Try.ntmps83
  go_wp2_with fail
  go_loop [3, 11] (fun dv iv => ∃ i : Nat, i ≤ ks.length ∧ iv = .int .i64 (i : Int) ∧ dv = .int .i64 ((1 + countL (ks.take i) : Nat) : Int)) (fun _ iv => ks.length - (intOf iv).toNat)
  case atStart => exact ⟨0, by omega, rfl, by simp [countL]⟩
  case round =>
    obtain ⟨i, hi, rfl, rfl⟩ := hrel
    by_cases hil : i < ks.length
    case neg =>
      obtain rfl : i = ks.length := by omega
      rw [List.take_length]
      go_wp2_with fail
      go_ret
      exact ⟨by first | rfl | simp, rfl⟩
    obtain ⟨x, hx⟩ : ∃ x, ks[i]? = some x := ⟨ks[i], List.getElem?_eq_getElem hil⟩
    obtain ⟨rb, off, pb, va, ca, ws, rfl, hrb, r0, hkp, -⟩ := kps_at HROW.out HKS.out (Below.refl _ w) hx
    have HC := Lib.hid (HIH.out x _ (List.mem_of_getElem? hx) hkp)
    have HE : Hid (countL (ks.take (i + 1)) = countL (ks.take i) + countT x) := Lib.hid (by rw [take_snocT hx, countL_snoc])
    have hle := countL_take ks (i + 1)
    rw [HE.out] at hle
    clear hx hkp
    generalize countL (ks.take i) = n at *
    go_wp2_with fail
    refine HC.out.mono ?_
    rintro e w' ⟨rfl, rfl⟩
    go_wp2_with fail
    go_round
    case rel => exact ⟨i + 1, by omega, by go_num, by rw [HE.out]; go_num⟩
    case measure => (simp [intOf]; try omega)
theorem impl_count {S : Nat → Prop} : ∀ (f : Nat) (w : World) (t : Tr) (p : Value), countT t ≤ f → KP S w t p → countT t ≤ 1048576 → Calls Try.prog 83 #[p] w fun e w' => e = .returned (.int .i64 (countT t : Int)) ∧ w = w'
  | 0, w, t, p, hf, _, _ => by have := countT_pos t; omega
  | f + 1, w, t, p, hf, h, hl => impl_count_one h hl (fun x v hx hk => by
      have h1 := count_mem hx
      have h2 := count_kids t
      exact impl_count f w x v (by omega) hk (by omega))
end Go.Proofs.Ytmlnecopbncdbaa
