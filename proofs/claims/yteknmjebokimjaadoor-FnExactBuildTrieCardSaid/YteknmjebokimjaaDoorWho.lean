/- The contracts of WhoGets, the program's and the reference's. -/
import Derived.Test.YteknmjebokimjaaDoorInsert
import Derived.Test.YteknmjebokimjaaDoorHSubS
import Derived.Test.YteknmjebokimjaaDoorTopic3
namespace Go.Proofs.YteknmjebokimjaaDoor
set_option linter.unusedVariables false
open Go.ChangeShapes Go.WideShapes Go.ChangeAt Go.RowKit
set_option maxRecDepth 100000

/-! ### plain -/
theorem put_in {l : List Int} {n : Int} (hs : l.Pairwise (· < ·)) (hn : n ∈ l) : l[putK l n]? = some n ∧ putR l n = l := by
  obtain ⟨j, hj, he⟩ := List.getElem_of_mem hn
  have h1 : ¬ j < putK l n := fun h => by have := putK_lt l n j n h (by rw [List.getElem?_eq_getElem hj, he]); omega
  have h2 : putK l n < l.length := by omega
  have h3 := putK_at l n _ (List.getElem?_eq_getElem h2)
  have h4 : l[putK l n]? = some n := by
    rcases Nat.eq_or_lt_of_le (Nat.le_of_not_lt h1) with h | h
    · rw [h, List.getElem?_eq_getElem hj, he]
    · have := List.pairwise_iff_getElem.1 hs (putK l n) j h2 hj h
      omega
  exact ⟨h4, by unfold putR; rw [if_pos h4]⟩
theorem put_keep {l : List Int} (n : Int) (hs : l.Pairwise (· < ·)) : (putR l n).Pairwise (· < ·) := by
  by_cases h : n ∈ l
  · rw [(put_in hs h).2]; exact hs
  · exact put_sorted h hs
theorem count_put : ∀ (l : List Int) (n : Int), l.Pairwise (· < ·) → l.countP (fun x => decide (x < n)) = putK l n
  | [], _, _ => rfl
  | x :: l, n, hs => by
    have h2 := (List.pairwise_cons.1 hs)
    unfold putK
    rw [List.takeWhile_cons, List.countP_cons]
    by_cases hx : x < n
    · simp only [hx, decide_true, if_true, List.length_cons]
      rw [count_put l n h2.2]; rfl
    · simp only [hx, decide_false, Bool.false_eq_true, if_false, List.length_nil, Nat.add_zero]
      rw [List.countP_eq_zero]
      intro y hy
      have := h2.1 y hy
      simp; omega
def subB (s : ByteArray × Int) : Bool := gPat s.1 && inB s.2 0 100
def subsB (l : List (ByteArray × Int)) : Bool := decide (l.length ≤ 30) && l.all subB
def getR (t : ByteArray) (acc : List Int) (s : ByteArray × Int) : List Int := if fitsR (pieces 47 s.1) (pieces 47 t) = true then putR acc s.2 else acc
def R_WhoGets (l : List (ByteArray × Int)) (t : ByteArray) : List Int × Bool := if subsB l = true ∧ gTop t = true then (l.foldl (getR t) [], true) else ([], false)
theorem get_keep {t : ByteArray} {acc : List Int} (s : ByteArray × Int) (hs : acc.Pairwise (· < ·)) : (getR t acc s).Pairwise (· < ·) := by
  unfold getR; split
  · exact put_keep _ hs
  · exact hs
theorem get_len (t : ByteArray) (acc : List Int) (s : ByteArray × Int) : (getR t acc s).length ≤ acc.length + 1 := by
  unfold getR; split
  · exact put_len _ _
  · omega
theorem get_fold (t : ByteArray) : ∀ (l : List (ByteArray × Int)) (acc : List Int), acc.Pairwise (· < ·) → (l.foldl (getR t) acc).Pairwise (· < ·) ∧ (l.foldl (getR t) acc).length ≤ acc.length + l.length
  | [], acc, h => ⟨h, by simp⟩
  | x :: l, acc, h => by
    obtain ⟨h1, h2⟩ := get_fold t l (getR t acc x) (get_keep x h)
    have := get_len t acc x
    exact ⟨h1, by rw [List.foldl_cons, List.length_cons]; omega⟩
theorem mem_put {l : List Int} {n x : Int} (h : x ∈ putR l n) : x ∈ l ∨ x = n := by
  unfold putR at h
  split at h
  · exact .inl h
  · rcases List.mem_append.1 h with h | h
    · exact .inl (List.mem_of_mem_take h)
    · rcases List.mem_cons.1 h with h | h
      · exact .inr h
      · exact .inl (List.mem_of_mem_drop h)
theorem get_wf (t : ByteArray) : ∀ (l : List (ByteArray × Int)) (acc : List Int), (∀ x ∈ l, (Lit.int .i64 x.2).wf = true) → (∀ n ∈ acc, (Lit.int .i64 n).wf = true) → ∀ n ∈ l.foldl (getR t) acc, (Lit.int .i64 n).wf = true
  | [], acc, _, h, n, hn => h n hn
  | x :: l, acc, hl, h, n, hn => by
    refine get_wf t l (getR t acc x) (fun y hy => hl y (by simp [hy])) (fun k hk => ?_) n hn
    unfold getR at hk
    split at hk
    · rcases mem_put hk with hk | hk
      · exact h k hk
      · rw [hk]; exact hl x (by simp)
    · exact h k hk
theorem fold_take_get (t : ByteArray) (l : List (ByteArray × Int)) (j : Nat) (y : ByteArray × Int) (h : l[j]? = some y) : (l.take (j + 1)).foldl (getR t) [] = (if fitsR (pieces 47 y.1) (pieces 47 t) = true then putR ((l.take j).foldl (getR t) []) y.2 else (l.take j).foldl (getR t) []) := by
  rw [take_next l j y h, List.foldl_append]; rfl
theorem R_Who_no {l : List (ByteArray × Int)} {t : ByteArray} (h : ¬ (subsB l = true ∧ gTop t = true)) : R_WhoGets l t = ([], false) := by unfold R_WhoGets; rw [if_neg h]
theorem R_Who_yes {l : List (ByteArray × Int)} {t : ByteArray} (h : subsB l = true ∧ gTop t = true) : R_WhoGets l t = (l.foldl (getR t) [], true) := by unfold R_WhoGets; rw [if_pos h]
theorem subsB_at {l : List (ByteArray × Int)} (h : subsB l = true) {x : ByteArray × Int} (hx : x ∈ l) : gPat x.1 = true ∧ 0 ≤ x.2 ∧ x.2 ≤ 100 := by
  unfold subsB at h
  rw [Bool.and_eq_true] at h
  have := List.all_eq_true.1 h.2 x hx
  unfold subB at this
  rw [Bool.and_eq_true] at this
  exact ⟨this.1, inB_of this.2⟩
theorem subsB_len {l : List (ByteArray × Int)} (h : subsB l = true) : l.length ≤ 30 := by
  unfold subsB at h; rw [Bool.and_eq_true, decide_eq_true_eq] at h; exact h.1
theorem sub_size {l : List (ByteArray × Int)} (h : kSubS.wt l ≤ 1048576) {x : ByteArray × Int} (hx : x ∈ l) : x.1.size ≤ 1048576 := by
  obtain ⟨j, hj⟩ := List.getElem?_of_mem hx
  have h1 := sumL_at kSub.wt l j x hj
  have h2 : kSub.wt x = x.1.size + 0 := rfl
  have h3 : kSubS.wt l = l.length + sumL kSub.wt l := rfl
  omega

/-! ### the subs -/
set_option maxHeartbeats 1000000 in
theorem clo_subs (m : Int) (x : ByteArray × Int) (v : List Value) (w : World) (hm : w.cell? ⟨0, 0, none⟩ = some (.int .i64 m)) (hr : kSub.rd w.heap.size w v x) (hx : x.1.size ≤ 1048576) :
    Calls Tryd.prog 70 #[.agg v.toArray] w fun e w' => e = .returned (.bool (!subB x)) ∧ Below w.heap.size w w' := by
  obtain ⟨rfl, _, _⟩ := Sub_rd hr
  have HG := Lib.hid (fun wx (h : wx.cell? ⟨0, 0, none⟩ = some (.int .i64 m)) => impl_goodPattern x.1 wx m hx h)
  have HW := Lib.hid (fun wx => within_any x.2 0 100 wx)
  have HM := Lib.hid (cell_alloc (.cells #[.string x.1, .int .i64 x.2] 55) hm)
  have HB0 := Lib.hid (box_start w (.cells #[.string x.1, .int .i64 x.2] 55))
  have hz : subB x = (gPat x.1 && inB x.2 0 100) := rfl
  rw [hz]; clear hz hm hr
  cases hg : gPat x.1 with
  | false =>
    rw [hg] at HG
    clear hg
    go_enter Tryd.func70, Tryd.ntmps70
    go_wp2_with fail
    refine (HG.out _ HM.out).mono ?_
    rintro e w1 ⟨rfl, hb⟩
    have HB1 := Lib.hid (box_step HB0.out hb); clear hb
    go_wp2_with fail
    go_ret
    exact ⟨rfl, box_below HB1.out⟩
  | true =>
    rw [hg] at HG
    clear hg
    generalize inB x.2 0 100 = r at *
    go_enter Tryd.func70, Tryd.ntmps70
    go_wp2_with fail
    refine (HG.out _ HM.out).mono ?_
    rintro e w1 ⟨rfl, hb⟩
    have HB1 := Lib.hid (box_step HB0.out hb); clear hb
    have k1 : w1.cell? ⟨w.heap.size, 1, none⟩ = some (.int .i64 x.2) := box_cell HB1.out 1
    go_wp2_with fail
    refine (HW.out _).mono ?_
    rintro e w' ⟨rfl, rfl⟩
    go_wp2_with fail
    go_ret
    exact ⟨rfl, box_below HB1.out⟩

set_option maxHeartbeats 1000000 in
theorem idx_subs {cs : List Value} {xs : List (ByteArray × Int)} {w : World} (p : (ByteArray × Int) → Bool) (h : kSubS.rd w.heap.size w cs xs) (hclo : ∀ (wx : World) (x : (ByteArray × Int)) (v : List Value), Below w.heap.size w wx → x ∈ xs → kSub.rd wx.heap.size wx v x → Calls Tryd.prog 70 #[.agg v.toArray] wx fun e w' => e = .returned (.bool (p x)) ∧ Below wx.heap.size wx w') :
    Calls Tryd.prog 85 #[one cs, .func (.func 70) #[] #[]] w fun e w' => e = .returned (.int .i64 (fidx p xs)) ∧ Below w.heap.size w w' := by
  obtain ⟨a, cap, vss, rfl, ⟨hc1, hc2⟩, hrow, hl⟩ := h
  unfold maxLen at hc2
  have hn : xs.length ≤ 9223372036854775807 := by omega
  show Calls Tryd.prog 85 #[.slice a xs.length cap, .func (.func 70) #[] #[]] w _
  have HROW := Lib.hid hrow; have HL := Lib.hid hl; have HCL := Lib.hid hclo
  clear hrow hl hclo
  go_enter Tryd.func85, Tryd.ntmps85
  go_wp2_with fail
  go_loopw [8] (fun i wr => ∃ k : Nat, k ≤ xs.length ∧ i = .int .i64 k ∧ Hid ((xs.take k).any p = false) ∧ Hid (Below w.heap.size w wr)) (fun i _ => xs.length - (intOf i).toNat)
  case atStart => exact ⟨0, Nat.zero_le _, rfl, rfl, Below.refl _ _⟩
  case round =>
    obtain ⟨k, hk, rfl, HA, HB⟩ := hrel
    by_cases hlk : k < xs.length
    case neg =>
      go_wp2_with fail
      go_ret
      obtain rfl : k = xs.length := by omega
      have h1 := HA.out
      rw [List.take_length] at h1
      exact ⟨ret_int (fidx_none p xs h1).symm, HB.out⟩
    obtain ⟨x, hx⟩ : ∃ x, xs[k]? = some x := ⟨xs[k], List.getElem?_eq_getElem hlk⟩
    obtain ⟨v, b, off, hr, hv, rfl, hbl, hcell⟩ := elem_cells kSub_ok (n := 2) rfl (by decide) HROW.out HL.out hx
    have hgd : xs.getD k x = x := by simp [List.getD, hx]
    have hyes : p x = true → fidx p xs = k := fun h => fidx_here p xs x k hlk HA.out (by rw [hgd]; exact h)
    have hno : p x = false → (xs.take (k + 1)).any p = false := fun h => fidx_next p xs x k hlk HA.out (by rw [hgd]; exact h)
    have HC := Lib.hid (HCL.out wr x v HB.out (List.mem_of_getElem? hx) (kSub_ok.later hr HB.out))
    have HY := Lib.hid hyes; have HN := Lib.hid hno
    clear hx hv hgd hyes hno
    obtain ⟨rfl, _, _⟩ := Sub_rd hr
    have c0 : wr.cell? ⟨b, off + k * 2, none⟩ = some _ := (HB.out.cell (p := ⟨b, off + k * 2, none⟩) hbl).trans (by have := hcell 0 _ rfl; simpa [Nat.add_assoc] using this)
    have c1 : wr.cell? ⟨b, off + k * 2 + 1, none⟩ = some _ := (HB.out.cell (p := ⟨b, off + k * 2 + 1, none⟩) hbl).trans (by have := hcell 1 _ rfl; simpa [Nat.add_assoc] using this)
    clear hcell
    cases hp : p x with
    | true =>
      rw [hp] at HC
      have HP := Lib.hid hp; clear hp
      go_wp2_with (go_at_call 70; refine HC.out.mono ?_; rintro e w2 ⟨rfl, hb2⟩; have HB2 := Lib.hid hb2; clear hb2)
      go_ret
      exact ⟨ret_int (HY.out HP.out).symm, HB.out.trans (HB2.out.mono HB.out.size)⟩
    | false =>
      rw [hp] at HC
      have HP := Lib.hid hp; clear hp
      go_wp2_with (go_at_call 70; refine HC.out.mono ?_; rintro e w2 ⟨rfl, hb2⟩; have HB2 := Lib.hid hb2; clear hb2)
      go_roundw
      case rel => exact ⟨k + 1, by omega, by go_num, HN.out HP.out, HB.out.trans (HB2.out.mono HB.out.size)⟩
      case measure => simp [intOf]; omega

set_option maxHeartbeats 1000000 in
theorem has_subs {cs : List Value} {xs : List (ByteArray × Int)} {w : World} (p : (ByteArray × Int) → Bool) (h : kSubS.rd w.heap.size w cs xs) (hclo : ∀ (wx : World) (x : (ByteArray × Int)) (v : List Value), Below w.heap.size w wx → x ∈ xs → kSub.rd wx.heap.size wx v x → Calls Tryd.prog 70 #[.agg v.toArray] wx fun e w' => e = .returned (.bool (p x)) ∧ Below wx.heap.size wx w') :
    Calls Tryd.prog 69 #[one cs, .func (.func 70) #[] #[]] w fun e w' => e = .returned (.bool (xs.any p)) ∧ Below w.heap.size w w' := by
  have HI := Lib.hid (idx_subs p h hclo)
  obtain ⟨a, cap, vss, rfl, ⟨hc1, hc2⟩, hrow, hl⟩ := h
  clear hclo hrow hl
  by_cases h : 0 ≤ fidx p xs
  · have H := Lib.hid ((fidx_any p xs).1 h)
    go_enter Tryd.func69, Tryd.ntmps69
    go_wp2_with (go_at_call 85; refine HI.out.mono ?_; rintro e w' ⟨rfl, hb2⟩; have HB2 := Lib.hid hb2; clear hb2)
    go_ret
    exact ⟨ret_bool (by rw [H.out]; try (simp; try omega)), HB2.out⟩
  · have H := Lib.hid (Bool.eq_false_iff.2 fun hc => h ((fidx_any p xs).2 hc))
    go_enter Tryd.func69, Tryd.ntmps69
    go_wp2_with (go_at_call 85; refine HI.out.mono ?_; rintro e w' ⟨rfl, hb2⟩; have HB2 := Lib.hid hb2; clear hb2)
    go_ret
    exact ⟨ret_bool (by rw [H.out]; try (simp; try omega)), HB2.out⟩

set_option maxHeartbeats 1000000 in
theorem impl_subs (m : Int) (w : World) (cs0 : List Value) (a0 : List (ByteArray × Int)) (h0 : kSubS.rd w.heap.size w cs0 a0) (ht : kSubS.wt a0 ≤ 1048576) (hm : w.cell? ⟨0, 0, none⟩ = some (.int .i64 m)) :
    Calls Tryd.prog 43 #[one cs0] w fun e w' => e = .returned (.bool (subsB a0)) ∧ Below w.heap.size w w' := by
  have HI := Lib.hid (fun (wx : World) (hb : Below w.heap.size w wx) => has_subs (w := wx) (fun x => !subB x) (kSubS_ok.later h0 hb) (fun wy x v hby hmem hx => clo_subs m x v wy (below_later hby (below_later hb hm)) hx (sub_size ht hmem)))
  have hnn : ∀ (p : ByteArray × Int → Bool) (l : List (ByteArray × Int)), l.any (fun x => !p x) = !l.all p := by
    intro p l
    induction l with
    | nil => rfl
    | cons x r ih => simp only [List.any_cons, List.all_cons, ih]; cases p x <;> simp
  simp only [hnn] at HI
  clear hnn
  obtain ⟨ea, ecap, rfl⟩ := kSl_form h0
  have hln := (sl_len h0).2
  show Calls Tryd.prog 43 #[.slice ea a0.length ecap] w _
  have hz : subsB a0 = (decide (a0.length ≤ 30) && a0.all subB) := rfl
  rw [hz]; clear hz h0 hm
  generalize a0.all subB = r at *
  by_cases h30 : a0.length ≤ 30
  · have hd : decide (a0.length ≤ 30) = true := by simp [h30]
    rw [hd]; clear hd
    go_enter Tryd.func43, Tryd.ntmps43
    go_wp2_with fail
    refine (HI.out _ (Below.refl _ _)).mono ?_
    rintro e w2 ⟨rfl, hb⟩
    have HB := Lib.hid hb; clear hb
    go_wp2_with fail
    go_ret
    exact ⟨by simp, HB.out⟩
  · have hd : decide (a0.length ≤ 30) = false := by simp [h30]
    rw [hd]; clear hd
    go_enter Tryd.func43, Tryd.ntmps43
    go_wp2_with fail
    go_ret
    exact ⟨rfl, Below.refl _ _⟩

theorem subs_no {l : List (ByteArray × Int)} {i : Nat} {x : ByteArray × Int} (hx : l[i]? = some x) (h : subB x = false) : subsB l = false := by
  unfold subsB
  have : l.all subB = false := by rw [List.all_eq_false]; exact ⟨x, List.mem_of_getElem? hx, by simp [h]⟩
  rw [this, Bool.and_false]
theorem subs_go {l : List (ByteArray × Int)} {i : Nat} {x : ByteArray × Int} (h : (l.take i).all subB = true) (hx : l[i]? = some x) (hp : subB x = true) : (l.take (i + 1)).all subB = true := by
  rw [take_next l i x hx, List.all_append, h]; simp [hp]

set_option maxHeartbeats 2000000 in
theorem spec_subs (w : World) (cs0 : List Value) (a0 : List (ByteArray × Int)) (h0 : kSubS.rd w.heap.size w cs0 a0) (ht : kSubS.wt a0 ≤ 1048576) :
    Calls Tryd.prog 40 #[one cs0] w fun e w' => e = .returned (.bool (subsB a0)) ∧ Below w.heap.size w w' := by
  obtain ⟨ea, ecap, rfl⟩ := kSl_form h0
  have hln := (sl_len h0).2
  have H0 := Lib.hid h0
  have HT := Lib.hid ht
  show Calls Tryd.prog 40 #[.slice ea a0.length ecap] w _
  have HE : Hid ((a0.take a0.length).all subB = true → subsB a0 = decide (a0.length ≤ 30)) := Lib.hid fun h => by rw [List.take_length] at h; unfold subsB; rw [h, Bool.and_true]
  clear h0 ht
  go_enter Tryd.func40, Tryd.ntmps40
  go_wp2_with fail
  go_loopw [7] (fun iv wr => ∃ (i : Nat), i ≤ a0.length ∧ iv = .int .i64 (i : Int) ∧ Hid ((a0.take i).all subB = true) ∧ Hid (Below w.heap.size w wr)) (fun iv _ => a0.length - (intOf iv).toNat)
  case atStart => exact ⟨0, by omega, rfl, rfl, Below.refl _ _⟩
  case round =>
    obtain ⟨i, hil, rfl, HA, HB⟩ := hrel
    by_cases hlt : i < a0.length
    case neg =>
      obtain rfl : i = a0.length := by omega
      have HL := Lib.hid (HE.out HA.out)
      by_cases h6 : a0.length ≤ 30
      · go_wp2_with fail
        go_ret
        exact ⟨ret_bool (by rw [HL.out]; simp; try omega), HB.out⟩
      · go_wp2_with fail
        go_ret
        exact ⟨ret_bool (by rw [HL.out]; simp; try omega), HB.out⟩
    obtain ⟨x, hx⟩ : ∃ x, a0[i]? = some x := ⟨a0[i], List.getElem?_eq_getElem hlt⟩
    obtain ⟨v, b, off, hr, rfl, hbl, hcell⟩ := sl_at kSub_ok (n := 2) rfl (by decide) H0.out hx
    obtain ⟨rfl, _, _⟩ := Sub_rd hr
    have c0 : wr.cell? ⟨b, off + i * 2, none⟩ = some (.string x.1) := (HB.out.cell (p := ⟨b, off + i * 2, none⟩) hbl).trans (by have := hcell 0 _ rfl; simpa [Nat.add_assoc] using this)
    have c1 : wr.cell? ⟨b, off + i * 2 + 1, none⟩ = some (.int .i64 x.2) := (HB.out.cell (p := ⟨b, off + i * 2 + 1, none⟩) hbl).trans (by have := hcell 1 _ rfl; simpa [Nat.add_assoc] using this)
    have hsz := sub_size HT.out (List.mem_of_getElem? hx)
    have HG := Lib.hid (fun wx => spec_goodPattern x.1 wx hsz)
    have HW := Lib.hid (fun wx => l1In_any x.2 0 100 wx)
    have HB0 := Lib.hid (box_start wr (.cells #[.string x.1, .int .i64 x.2] 55))
    have hz : subB x = (gPat x.1 && inB x.2 0 100) := rfl
    have HNO : Hid (subB x = false → subsB a0 = false) := Lib.hid (subs_no hx)
    have HGO : Hid (subB x = true → (a0.take (i + 1)).all subB = true) := Lib.hid (subs_go HA.out hx)
    rw [hz] at HNO HGO
    clear hz hcell hr hx
    cases hg : gPat x.1 with
    | false =>
      rw [hg] at HG HNO
      have HN := Lib.hid (HNO.out rfl)
      clear hg
      go_wp2_with fail
      refine (HG.out _).mono ?_
      rintro e w1 ⟨rfl, hb⟩
      have HB1 := Lib.hid (box_step HB0.out hb); clear hb
      go_wp2_with fail
      go_ret
      exact ⟨ret_bool HN.out.symm, HB.out.trans ((box_below HB1.out).mono HB.out.size)⟩
    | true =>
      rw [hg] at HG HNO HGO
      clear hg
      simp only [Bool.true_and] at HNO HGO
      cases hr : inB x.2 0 100 with
      | false =>
        rw [hr] at HW
        have HN := Lib.hid (HNO.out hr)
        clear hr
        go_wp2_with fail
        refine (HG.out _).mono ?_
        rintro e w1 ⟨rfl, hb⟩
        have HB1 := Lib.hid (box_step HB0.out hb); clear hb
        have k1 : w1.cell? ⟨wr.heap.size, 1, none⟩ = some (.int .i64 x.2) := box_cell HB1.out 1
        go_wp2_with fail
        refine (HW.out _).mono ?_
        rintro e w' ⟨rfl, rfl⟩
        go_wp2_with fail
        go_ret
        exact ⟨ret_bool HN.out.symm, HB.out.trans ((box_below HB1.out).mono HB.out.size)⟩
      | true =>
        rw [hr] at HW
        have HN := Lib.hid (HGO.out hr)
        clear hr
        go_wp2_with fail
        refine (HG.out _).mono ?_
        rintro e w1 ⟨rfl, hb⟩
        have HB1 := Lib.hid (box_step HB0.out hb); clear hb
        have k1 : w1.cell? ⟨wr.heap.size, 1, none⟩ = some (.int .i64 x.2) := box_cell HB1.out 1
        go_wp2_with fail
        refine (HW.out _).mono ?_
        rintro e w' ⟨rfl, rfl⟩
        go_wp2_with fail
        go_roundw
        case rel => exact ⟨i + 1, by omega, by go_num, HN, HB.out.trans ((box_below HB1.out).mono HB.out.size)⟩
        case measure => simp [intOf]; omega

end Go.Proofs.YteknmjebokimjaaDoor
