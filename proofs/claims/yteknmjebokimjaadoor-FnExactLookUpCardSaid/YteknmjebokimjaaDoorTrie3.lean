/- The contract of the program's GoodTrie. -/
import Derived.Test.YteknmjebokimjaaDoorTrie2
namespace Go.Proofs.YteknmjebokimjaaDoor
set_option linter.unusedVariables false
open Go.ChangeShapes Go.WideShapes Go.ChangeAt Go.RowKit
set_option maxRecDepth 100000

theorem whosN_wt (t : List Nd) : whosN t ≤ kTrieNodeS.wt t := by
  have h : ∀ t : List Nd, whosN t ≤ sumL kTrieNode.wt t := by
    intro t
    induction t with
    | nil => exact Nat.le_refl _
    | cons x r ih =>
      have h2 : kTrieNode.wt x = x.1.size + (0 + kIntS.wt x.2.2) := rfl
      have h3 : kIntS.wt x.2.2 = x.2.2.length := wt_ints x.2.2
      have e1 : whosN (x :: r) = x.2.2.length + whosN r := rfl
      have e2 : sumL kTrieNode.wt (x :: r) = kTrieNode.wt x + sumL kTrieNode.wt r := rfl
      rw [e1, e2, h2, h3]; omega
  have h1 : kTrieNodeS.wt t = t.length + sumL kTrieNode.wt t := rfl
  have := h t
  omega
theorem whosN_take (t : List Nd) (k : Nat) (x : Nd) (h : t[k]? = some x) : whosN (t.take (k + 1)) = whosN (t.take k) + x.2.2.length := sumL_take (fun x : Nd => x.2.2.length) t k x h
theorem whosN_le (t : List Nd) (k : Nat) : whosN (t.take k) ≤ whosN t := sumL_le (fun x : Nd => x.2.2.length) t k
theorem str_empty (s : ByteArray) : s.toList = [] ↔ s = ByteArray.empty := by
  rw [ByteArray.toList_eq]
  constructor
  · intro h; exact ba_ext (h.trans rfl)
  · rintro rfl; rfl
theorem R_no_root {t : List Nd} (h : rootB t = false) : R_GoodTrie t = false := by unfold R_GoodTrie; rw [h]; rfl
theorem R_no_node {t : List Nd} {k : Nat} (hk : k < t.length) (h : nodeB t k = false) : R_GoodTrie t = false := by
  unfold R_GoodTrie; rw [range_all_no hk h]; simp
theorem R_end {t : List Nd} (hr : rootB t = true) (h : (List.range t.length).all (nodeB t) = true) : R_GoodTrie t = decide (whosN t ≤ 30) := by
  unfold R_GoodTrie; rw [hr, h]; simp
theorem rootB_of {t : List Nd} {x : Nd} (h0 : t[0]? = some x) : rootB t = (decide (1 ≤ t.length) && (decide (t.length ≤ 181) && (decide (x.2.1 = -1) && (decide (x.1 = ByteArray.empty) && decide (x.2.2.length = 0))))) := by
  unfold rootB; rw [nd_at h0]
theorem node0 {t : List Nd} {x : Nd} (h0 : t[0]? = some x) (hw : x.2.2.length = 0) : nodeB t 0 = true := by
  unfold nodeB
  rw [nd_at h0, List.length_eq_zero_iff.1 hw]
  simp [whosB]
def dsL (t : List Nd) (i : Nat) : List Int := ((List.range i).map fun j => ((depR t j j : Nat) : Int)) ++ List.replicate (t.length - i) 0
theorem dsL_len (t : List Nd) (i : Nat) (h : i ≤ t.length) : (dsL t i).length = t.length := by simp [dsL]; omega
theorem dsL_at (t : List Nd) (i j : Nat) (hj : j < i) : (dsL t i)[j]? = some ((depR t j j : Nat) : Int) := by
  unfold dsL
  rw [List.getElem?_append_left (by simpa using hj)]
  simp [hj]
theorem dsL_set (t : List Nd) (i : Nat) (hi : i < t.length) : (dsL t i).set i ((depR t i i : Nat) : Int) = dsL t (i + 1) := by
  unfold dsL
  rw [List.set_append_right _ _ (by simp), show t.length - i = (t.length - (i + 1)) + 1 by omega, List.replicate_succ]
  simp [List.range_succ]
theorem dsL_one (t : List Nd) (h : 1 ≤ t.length) : dsL t 1 = List.replicate t.length 0 := by
  unfold dsL
  have : depR t 0 0 = 0 := rfl
  simp only [List.range_succ, List.range_zero, List.nil_append, List.map_cons, List.map_nil, this]
  rw [show t.length = (t.length - 1) + 1 by omega, List.replicate_succ]; simp
theorem ints_set (xs : List Int) (i : Nat) (v : Int) : (ints xs).set i (.int .i64 v) = ints (xs.set i v) := by simp [ints, List.map_set]
theorem ints_rep (n : Nat) : ints (List.replicate n 0) = List.replicate n (.int .i64 0) := by simp [ints]
theorem dep_all {t : List Nd} {i : Nat} (h : (List.range i).all (nodeB t) = true) : ∀ j, j < i → depR t j j ≤ 6 := by
  intro j hj
  rcases Nat.eq_zero_or_pos j with rfl | h0
  · simp [depR]
  · have h1 := range_all_at h hj
    rw [nodeB_pos h0] at h1
    simp only [Bool.and_eq_true] at h1
    exact (headB_yes h1.2.1).2.2.2.2

set_option maxHeartbeats 4000000 in
theorem impl_GoodTrie (w : World) (cs0 : List Value) (t : List Nd) (h0 : kTrieNodeS.rd w.heap.size w cs0 t) (ht : kTrieNodeS.wt t ≤ 1048576) :
    Calls Tryd.prog 56 #[one cs0] w fun e w' => e = .returned (.bool (R_GoodTrie t)) ∧ Below w.heap.size w w' := by
  obtain ⟨i0, hi, hz0, hz1, hz2⟩ := info_parts Tryd.infoHIntS
  obtain ⟨a, cap, rfl⟩ := kSl_form h0
  show Calls Tryd.prog 56 #[.slice a t.length cap] w _
  have hln := (sl_len h0).2
  have H := Lib.hid h0
  have hwn := whosN_wt t
  have hwt : t.length ≤ 1048576 := by have h1 : kTrieNodeS.wt t = t.length + sumL kTrieNode.wt t := rfl; omega
  by_cases hl0 : t.length = 0
  · have HR : Hid (R_GoodTrie t = false) := Lib.hid (R_no_root (by unfold rootB; simp [hl0]))
    have q0 : ((t.length : Int) == 0) = true := by rw [beq_iff_eq]; omega
    clear hl0
    go_enter Tryd.func56, Tryd.ntmps56
    go_wp2_with fail
    go_ret
    exact ⟨ret_bool HR.out.symm, Below.refl _ _⟩
  have q0 : ((t.length : Int) == 0) = false := by rw [beq_eq_false_iff_ne]; omega
  obtain ⟨x, b, off, aw, cw, hx, rfl, hbl, c0, c1, c2, hs1, hwf, hrw⟩ := nd_cells h0 (k := 0) (by omega)
  have HRB := Lib.hid (rootB_of hx)
  have hroot := nd_at hx
  rw [Nat.zero_mul, Nat.add_zero] at c0 c1 c2
  unfold maxLen at hs1
  by_cases h181 : t.length ≤ 181
  case neg =>
    have HR : Hid (R_GoodTrie t = false) := Lib.hid (R_no_root (by rw [HRB.out]; simp [h181]))
    go_enter Tryd.func56, Tryd.ntmps56
    go_wp2_with fail
    go_ret
    exact ⟨ret_bool HR.out.symm, Below.refl _ _⟩
  by_cases hup : x.2.1 = -1
  case neg =>
    have HR : Hid (R_GoodTrie t = false) := Lib.hid (R_no_root (by rw [HRB.out]; simp [hup]))
    have q1 : (x.2.1 != -1) = true := by simp [hup]
    clear hup hroot
    go_enter Tryd.func56, Tryd.ntmps56
    go_wp2_with fail
    go_ret
    exact ⟨ret_bool HR.out.symm, Below.refl _ _⟩
  have q1 : (x.2.1 != -1) = false := by simp [hup]
  have HUP := Lib.hid hup
  by_cases hlv : x.1.toList = []
  case neg =>
    have HR : Hid (R_GoodTrie t = false) := Lib.hid (R_no_root (by rw [HRB.out]; simp [← str_empty, hlv]))
    clear hup hroot
    go_enter Tryd.func56, Tryd.ntmps56
    go_wp2_with fail
    go_ret
    exact ⟨ret_bool HR.out.symm, Below.refl _ _⟩
  by_cases hwl : x.2.2.length = 0
  case neg =>
    have HR : Hid (R_GoodTrie t = false) := Lib.hid (R_no_root (by rw [HRB.out]; simp [hwl]))
    have hpos : 0 < x.2.2.length := by omega
    clear hup hroot hwl
    go_enter Tryd.func56, Tryd.ntmps56
    go_wp2_with fail
    go_ret
    exact ⟨ret_bool HR.out.symm, Below.refl _ _⟩
  have HRY : Hid (rootB t = true) := Lib.hid (by rw [HRB.out]; simp [h181, hup, (str_empty x.1).1 hlv, hwl]; omega)
  have hz : ¬ 0 < x.2.2.length := by omega
  have HN0 := Lib.hid (node0 hx hwl)
  have HW0 : Hid (whosN (t.take 1) = 0) := Lib.hid (by have := whosN_take t 0 x hx; rw [hwl] at this; exact this.trans (by simp [whosN, sumL]))
  have HRT : Hid ((nd t 0).2.1 = -1) := Lib.hid (by rw [hroot]; exact hup)
  have HNK := Lib.hid (fun (i gd cd : Nat) (wx : World) (hb : Below w.heap.size w wx) (hcd : t.length ≤ cd) (hcd2 : cd ≤ 9223372036854775807) (h0' : 0 < i) (hk : i < t.length) (hall : (List.range i).all (nodeB t) = true) (hgd : gd < wx.heap.size) (hd : ∀ j, j < i → wx.cell? ⟨gd, j, none⟩ = some (.int .i64 ((depR t j j : Nat) : Int))) =>
    impl_nodeOK t _ _ _ i gd cd wx (kTrieNodeS_ok.later H.out hb) h181 hcd hcd2 h0' hk HRT.out (ups_of hall) hgd hd (dep_all hall))
  clear hup hroot hwl hx h0 hrw
  go_enter Tryd.func56, Tryd.ntmps56
  go_wp2_with (refine wpList_make_full _ rfl _ _ _ rfl w.heap.size 3 i0 (.int .i64 0) 1 Tryd.underlying36 hi hz0 hz1 .i64 .i64 _ _ t.length rfl rfl rfl rfl ?c1 ?c2 ?c3 ?_)
  case c1 => rw [hz2]; omega
  case c2 => unfold maxLen; omega
  case c3 => exact Nat.le_refl _
  intro w1 hown hgrow
  have HB1 : Hid (Below w.heap.size w w1) := Lib.hid ((Below.refl _ _).grown hgrow (Nat.le_refl _) (by simp))
  have HO1 : Hid (w1.ownsRow w.heap.size 3 1 (.slice (some ⟨w.heap.size, 0, none⟩) t.length t.length) t.length (ints (dsL t 1))) := Lib.hid (by
    rw [dsL_one t (by omega), ints_rep, ← toList_madeCells_one]; exact hown)
  clear hown hgrow
  go_wp2_with fail
  go_loopw [4, 5] (fun sv iv wr => ∃ (i : Nat), 1 ≤ i ∧ i ≤ t.length ∧ iv = .int .i64 (i : Int) ∧ sv = .int .i64 ((whosN (t.take i) : Nat) : Int) ∧ Hid ((List.range i).all (nodeB t) = true) ∧ Hid (wr.ownsRow w.heap.size 3 1 (.slice (some ⟨w.heap.size, 0, none⟩) t.length t.length) t.length (ints (dsL t i))) ∧ Hid (Below w.heap.size w wr)) (fun _ iv _ => t.length - (intOf iv).toNat)
  case atStart => exact ⟨1, by omega, by omega, rfl, by rw [HW0.out]; rfl, Lib.hid (by simp [HN0.out]), HO1, HB1⟩
  case round =>
    obtain ⟨i, hi1, hil, rfl, rfl, HA, HO, HB⟩ := hrel
    have hwl := whosN_le t i
    by_cases hlt : i < t.length
    case neg =>
      obtain rfl : i = t.length := by omega
      have HR := Lib.hid (R_end HRY.out HA.out)
      rw [List.take_length] at *
      by_cases h30 : whosN t ≤ 30
      · go_wp2_with fail
        go_ret
        exact ⟨ret_bool (by rw [HR.out]; simp; try omega), HB.out⟩
      · go_wp2_with fail
        go_ret
        exact ⟨ret_bool (by rw [HR.out]; simp; try omega), HB.out⟩
    have hgl := (HO.out.lt w.heap.size rfl).2
    have HDC : Hid (∀ j, j < i → wr.cell? ⟨w.heap.size, j, none⟩ = some (.int .i64 ((depR t j j : Nat) : Int))) := Lib.hid fun j hj => by
      rw [HO.out.cellAt j (by omega)]
      simp [ints, dsL_at t i j hj]
    have HC := Lib.hid (HNK.out i w.heap.size t.length wr HB.out (Nat.le_refl _) (by omega) (by omega) hlt HA.out hgl HDC.out)
    cases hnb : nodeB t i with
    | false =>
      rw [hnb] at HC
      have HR := Lib.hid (R_no_node hlt hnb)
      clear hnb
      go_wp2_with fail
      refine HC.out.mono ?_
      rintro e w5 ⟨rfl, hb5⟩
      have HB5 := Lib.hid (HB.out.trans (hb5.mono HB.out.size)); clear hb5
      go_wp2_with fail
      go_ret
      exact ⟨ret_bool HR.out.symm, HB5.out⟩
    | true =>
      rw [hnb] at HC
      have HA2 := Lib.hid (range_all_next HA.out hnb)
      have hupi := upB_yes (nodeB_up hnb (by omega))
      obtain ⟨y, b2, off2, aw2, cw2, hy, hea2, _, e0, e1, e2, _, _, _⟩ := nd_cells H.out hlt
      simp only [Option.some.injEq, Addr.mk.injEq, and_true] at hea2
      obtain ⟨rfl, rfl⟩ := hea2
      have hst := dep_step (t := t) (k := i) (ups_of HA2.out) (by omega)
      rw [nd_at hy] at hupi hst
      have HST := Lib.hid hst
      have HWT := Lib.hid (whosN_take t i y hy)
      have hwl2 := whosN_le t (i + 1)
      have hsum : whosN (t.take i) + y.2.2.length ≤ 1048576 := by have := HWT.out; omega
      have hu0 := hupi.1; have hu1 := hupi.2
      have hul : y.2.1 < (t.length : Int) := by omega
      have hdv := HDC.out y.2.1.toNat (by omega)
      have hdl := dep_all HA.out y.2.1.toNat (by omega)
      clear hnb hupi hst hy
      go_wp2_with fail
      refine HC.out.mono ?_
      rintro e w5 ⟨rfl, hb5⟩
      have k1 : w5.cell? ⟨b, off + i * 3 + 1, none⟩ = some (.int .i64 y.2.1) := below_later (HB.out.trans (hb5.mono HB.out.size)) e1
      have k2 : w5.cell? ⟨b, off + i * 3 + 2, none⟩ = some (.slice aw2 y.2.2.length cw2) := below_later (HB.out.trans (hb5.mono HB.out.size)) e2
      have k3 := below_later hb5 hdv
      have HO5 := Lib.hid (own_later HO.out hb5)
      have k4 : w5.cell? ⟨w.heap.size, i, none⟩ = some (.int .i64 0) := by
        rw [HO5.out.cellAt i (by omega)]
        unfold dsL
        rw [show t.length - i = (t.length - (i + 1)) + 1 by omega, List.replicate_succ]
        simp [ints]
      have k5 := HO5.out.frozenAt i
      have HS5 : Hid ((w5.setCell ⟨w.heap.size, i, none⟩ (.int .i64 ((depR t y.2.1.toNat y.2.1.toNat : Nat) + 1 : Int))).ownsRow w.heap.size 3 1 (.slice (some ⟨w.heap.size, 0, none⟩) t.length t.length) t.length (ints (dsL t (i + 1)))) := Lib.hid (by
        have := (HO5.out.stored i (.int .i64 ((depR t i i : Nat) : Int))).1
        rw [ints_set, dsL_set t i hlt, HST.out] at this
        simpa using this)
      have HB5 := Lib.hid ((HB.out.trans (hb5.mono HB.out.size)).setCell (p := ⟨w.heap.size, i, none⟩) (Nat.le_refl _) (.int .i64 ((depR t y.2.1.toNat y.2.1.toNat : Nat) + 1 : Int))); clear hb5
      go_wp2_with fail
      go_roundw
      case rel => exact ⟨i + 1, by omega, by omega, by go_num, by rw [HWT.out]; go_num, HA2, HS5, HB5⟩
      case measure => simp [intOf]; omega
end Go.Proofs.YteknmjebokimjaaDoor
