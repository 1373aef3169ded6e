/- The contract of the reference's GoodTrie. -/
import Derived.Test.YteknmjebokimjaaDoorTrie3
namespace Go.Proofs.YteknmjebokimjaaDoor
set_option linter.unusedVariables false
open Go.ChangeShapes Go.WideShapes Go.ChangeAt Go.RowKit
theorem gqa {α : Type} (l : List α) (i : Nat) (a : α) : l.toArray.setIfInBounds i a = (l.set i a).toArray := List.setIfInBounds_toArray ..
theorem gqb {α : Type} (x : α) (xs : List α) (a : α) : (x :: xs).set 0 a = a :: xs := rfl
theorem gqc {α : Type} (x : α) (xs : List α) (n : Nat) (a : α) : (x :: xs).set (n + 1) a = x :: xs.set n a := rfl
set_option maxRecDepth 100000

theorem any_next {α : Type} (p : α → Bool) {l : List α} {j : Nat} {z : α} (h : l[j]? = some z) : (l.take (j + 1)).any p = ((l.take j).any p || p z) := by
  rw [List.take_add_one, h]; simp
set_option maxHeartbeats 4000000 in
theorem spec_GoodTrie (w : World) (cs0 : List Value) (t : List Nd) (h0 : kTrieNodeS.rd w.heap.size w cs0 t) (ht : kTrieNodeS.wt t ≤ 1048576) :
    Calls Tryd.prog 51 #[one cs0] w fun e w' => e = .returned (.bool (R_GoodTrie t)) ∧ Below w.heap.size w w' := by
  obtain ⟨a, cap, rfl⟩ := kSl_form h0
  show Calls Tryd.prog 51 #[.slice a t.length cap] w _
  have hln := (sl_len h0).2
  have H := Lib.hid h0
  have hwn := whosN_wt t
  have hwt : t.length ≤ 1048576 := by have h1 : kTrieNodeS.wt t = t.length + sumL kTrieNode.wt t := rfl; omega
  by_cases hl0 : t.length = 0
  · have HR : Hid (R_GoodTrie t = false) := Lib.hid (R_no_root (by unfold rootB; simp [hl0]))
    have q0 : ((t.length : Int) == 0) = true := by rw [beq_iff_eq]; omega
    clear hl0
    go_enter Tryd.func51, Tryd.ntmps51
    go_wp2_with fail
    go_ret
    exact ⟨ret_bool HR.out.symm, Below.refl _ _⟩
  have q0 : ((t.length : Int) == 0) = false := by rw [beq_eq_false_iff_ne]; omega
  obtain ⟨x0, b, off, aw0, cw0, hx, rfl, hbl, c0, c1, c2, hs1, hwf, hrw⟩ := nd_cells h0 (k := 0) (by omega)
  have HRB := Lib.hid (rootB_of hx)
  have hroot := nd_at hx
  rw [Nat.zero_mul, Nat.add_zero] at c0 c1 c2
  unfold maxLen at hs1
  by_cases hup : x0.2.1 = -1
  case neg =>
    have HR : Hid (R_GoodTrie t = false) := Lib.hid (R_no_root (by rw [HRB.out]; simp [hup]))
    have q1 : (x0.2.1 != -1) = true := by simp [hup]
    clear hup hroot
    go_enter Tryd.func51, Tryd.ntmps51
    go_wp2_with fail
    go_ret
    exact ⟨ret_bool HR.out.symm, Below.refl _ _⟩
  have q1 : (x0.2.1 != -1) = false := by simp [hup]
  have HUP := Lib.hid hup
  by_cases hlv : x0.1.toList = []
  case neg =>
    have HR : Hid (R_GoodTrie t = false) := Lib.hid (R_no_root (by rw [HRB.out]; simp [← str_empty, hlv]))
    clear hup hroot
    go_enter Tryd.func51, Tryd.ntmps51
    go_wp2_with fail
    go_ret
    exact ⟨ret_bool HR.out.symm, Below.refl _ _⟩
  by_cases hwl : x0.2.2.length = 0
  case neg =>
    have HR : Hid (R_GoodTrie t = false) := Lib.hid (R_no_root (by rw [HRB.out]; simp [hwl]))
    have hpos : 0 < x0.2.2.length := by omega
    clear hup hroot hwl
    go_enter Tryd.func51, Tryd.ntmps51
    go_wp2_with fail
    go_ret
    exact ⟨ret_bool HR.out.symm, Below.refl _ _⟩
  have hz : ¬ 0 < x0.2.2.length := by omega
  by_cases h181 : t.length ≤ 181
  case neg =>
    have HR : Hid (R_GoodTrie t = false) := Lib.hid (R_no_root (by rw [HRB.out]; simp [h181]))
    clear hup hroot hwl
    go_enter Tryd.func51, Tryd.ntmps51
    go_wp2_with fail
    go_ret
    exact ⟨ret_bool HR.out.symm, Below.refl _ _⟩
  have HRY : Hid (rootB t = true) := Lib.hid (by rw [HRB.out]; simp [h181, hup, (str_empty x0.1).1 hlv, hwl]; omega)
  have HRT : Hid ((nd t 0).2.1 = -1) := Lib.hid (by rw [hroot]; exact hup)
  clear hup hroot hwl hx h0 hrw
  go_enter Tryd.func51, Tryd.ntmps51
  go_wp2_with fail
  clear hlv c0 c1 c2 q1 hz hs1
  go_loopw [3, 43] (fun sv iv wr => ∃ (k : Nat), k ≤ t.length ∧ iv = .int .i64 (k : Int) ∧ sv = .int .i64 ((whosN (t.take k) : Nat) : Int) ∧ Hid ((List.range k).all (nodeB t) = true) ∧ Hid (Below w.heap.size w wr)) (fun _ iv _ => t.length - (intOf iv).toNat)
  case atStart => exact ⟨0, by omega, rfl, rfl, Lib.hid rfl, Below.refl _ _⟩
  case round =>
    obtain ⟨k, hk, rfl, rfl, HA, HB⟩ := hrel
    obtain ⟨wo, rfl⟩ : ∃ z : World, z = wr := ⟨_, rfl⟩
    have hwl := whosN_le t k
    by_cases hlt : k < t.length
    case neg =>
      obtain rfl : k = t.length := by omega
      have HR := Lib.hid (R_end HRY.out HA.out)
      rw [List.take_length] at *
      by_cases h30 : whosN t ≤ 30
      · go_wp2_with fail
        go_ret
        exact ⟨ret_bool (by rw [HR.out]; simp; try omega), HB.out⟩
      · go_wp2_with fail
        go_ret
        exact ⟨ret_bool (by rw [HR.out]; simp; try omega), HB.out⟩
    obtain ⟨x, b2, off2, aw, cw, hx, hea2, _, e0, e1, e2, hs1, _, hrw⟩ := nd_cells H.out hlt
    simp only [Option.some.injEq, Addr.mk.injEq, and_true] at hea2
    obtain ⟨rfl, rfl⟩ := hea2
    have HXA := Lib.hid hx
    have HND := Lib.hid (nd_at hx)
    have HRW := Lib.hid hrw
    have hs2 : x.1.size ≤ 9223372036854775807 := by unfold maxLen at hs1; exact hs1
    have g0 := below_cellk HB.out e0 hbl
    have g1 := below_cellk HB.out e1 hbl
    have g2 := below_cellk HB.out e2 hbl
    have HWT := Lib.hid (whosN_take t k x hx)
    have hwl2 := whosN_le t (k + 1)
    have hsum : whosN (t.take k) + x.2.2.length ≤ 1048576 := by have := HWT.out; omega
    have hlw := (sl_len HRW.out).2
    clear hx e0 e1 e2 hs1 hrw
    go_wp2_with fail
    obtain ⟨wb, hwb⟩ : ∃ z : World, z = wo.alloc (.cells #[.string x.1, .int .i64 x.2.1, .slice aw x.2.2.length cw] 58) := ⟨_, rfl⟩
    have HBW : Hid (Below w.heap.size w wb) := Lib.hid (by rw [hwb]; exact HB.out.alloc HB.out.size _)
    have hsz : wb.heap.size = wo.heap.size + 1 := by rw [hwb]; simp
    have hwz : w.heap.size ≤ wo.heap.size + 1 := by have := HB.out.size; omega
    have f0 : wb.cell? ⟨wo.heap.size, 0, none⟩ = some (.string x.1) := by rw [hwb]; go_simp
    have f1 : wb.cell? ⟨wo.heap.size, 1, none⟩ = some (.int .i64 x.2.1) := by rw [hwb]; go_simp
    have f2 : wb.cell? ⟨wo.heap.size, 2, none⟩ = some (.slice aw x.2.2.length cw) := by rw [hwb]; go_simp
    rw [← hwb]
    clear hwb g0 g1 g2
    go_loop [56] (fun iv => ∃ (i : Nat), i ≤ x.2.2.length ∧ iv = .int .i64 (i : Int) ∧ Hid ((List.range i).all (whoAt x.2.2) = true)) (fun iv => x.2.2.length - (intOf iv).toNat)
    case atStart => exact ⟨0, by omega, rfl, Lib.hid rfl⟩
    case round =>
    obtain ⟨i, hil, rfl, HWA⟩ := hrel
    by_cases hlt3 : i < x.2.2.length
    case pos =>
      obtain ⟨v, hv⟩ : ∃ v, x.2.2[i]? = some v := ⟨x.2.2[i], List.getElem?_eq_getElem hlt3⟩
      obtain ⟨u, bw, offw, hu, hea, hbw, hcw⟩ := sl_one kInt_ok rfl HRW.out hv
      obtain ⟨hu, _⟩ := hu
      simp only [List.cons.injEq, and_true] at hu
      subst hu
      have hgv : x.2.2.getD i 0 = v := by simp [List.getD, hv]
      have c1 : wb.cell? ⟨bw, offw + i, none⟩ = some (.int .i64 v) := below_cellk HBW.out hcw hbw
      have HWN : Hid (whoAt x.2.2 i = false → R_GoodTrie t = false) := Lib.hid fun h => R_no_node hlt (nodeB_whos (by rw [HND.out]; exact whos_no hlt3 h))
      have HWY : Hid (whoAt x.2.2 i = true → (List.range (i + 1)).all (whoAt x.2.2) = true) := Lib.hid (who_next HWA.out)
      have hwa : whoAt x.2.2 i = (inB v 0 100 && !(decide (0 < i) && decide (v ≤ x.2.2.getD (i - 1) 0))) := by unfold whoAt; rw [hgv]
      rw [hwa] at HWN HWY
      subst hea
      clear hwa hgv hcw hv
      have HWC := Lib.hid (fun wx => l1In_any v 0 100 wx)
      cases hin : inB v 0 100 with
      | false =>
        rw [hin] at HWC HWN
        have HR := Lib.hid (HWN.out rfl)
        clear hin
        go_wp2_with (go_at_call 67; refine (HWC.out _).mono ?_; rintro e w' ⟨rfl, rfl⟩)
        go_ret
        exact ⟨ret_bool HR.out.symm, HBW.out⟩
      | true =>
      rw [hin] at HWC HWN HWY
      clear hin
      simp only [Bool.true_and] at HWN HWY
      by_cases hi0 : 0 < i
      case neg =>
        have HR := Lib.hid (HWY.out (by simp [hi0]))
        go_wp2_with (go_at_call 67; refine (HWC.out _).mono ?_; rintro e w' ⟨rfl, rfl⟩)
        go_round
        case rel => exact ⟨i + 1, by omega, by go_num, HR⟩
        case measure => simp [intOf]; omega
      obtain ⟨v2, hv2⟩ : ∃ v, x.2.2[i - 1]? = some v := ⟨x.2.2[i - 1]'(by omega), List.getElem?_eq_getElem (by omega)⟩
      obtain ⟨u2, bw2, offw2, hu2, hea2, hbw2, hcw2⟩ := sl_one kInt_ok rfl HRW.out hv2
      obtain ⟨hu2, _⟩ := hu2
      simp only [List.cons.injEq, and_true] at hu2
      subst hu2
      simp only [Option.some.injEq, Addr.mk.injEq, and_true] at hea2
      obtain ⟨rfl, rfl⟩ := hea2
      have hgv2 : x.2.2.getD (i - 1) 0 = v2 := by simp [List.getD, hv2]
      have c2 : wb.cell? ⟨bw, offw + (i - 1), none⟩ = some (.int .i64 v2) := below_cellk HBW.out hcw2 hbw
      rw [hgv2] at HWN HWY
      simp only [hi0, decide_true, Bool.true_and] at HWN HWY
      clear hgv2 hcw2 hv2
      have q1 : (1 : Int) ≤ (i : Int) := by omega
      have q2 : (0 : Int) ≤ (i : Int) - 1 := by omega
      have q3 : (i : Int) - 1 < (x.2.2.length : Int) := by omega
      have q4 : ((i : Int) - 1).toNat = i - 1 := by omega
      by_cases hvv : v ≤ v2
      · have HR := Lib.hid (HWN.out (by simp [hvv]))
        go_wp2_with (go_at_call 67; refine (HWC.out _).mono ?_; rintro e w' ⟨rfl, rfl⟩)
        go_ret
        exact ⟨ret_bool HR.out.symm, HBW.out⟩
      · have HR := Lib.hid (HWY.out (by simp [hvv]))
        go_wp2_with (go_at_call 67; refine (HWC.out _).mono ?_; rintro e w' ⟨rfl, rfl⟩)
        go_round
        case rel => exact ⟨i + 1, by omega, by go_num, HR⟩
        case measure => simp [intOf]; omega
    obtain rfl : i = x.2.2.length := by omega
    have HWB : Hid (whosB (nd t k).2.2 = true) := Lib.hid (by rw [HND.out]; exact HWA.out)
    by_cases hk0 : k = 0
    case pos =>
      have HN0 : Hid (nodeB t k = true) := Lib.hid (by unfold nodeB; rw [HWB.out, hk0]; rfl)
      have HR := Lib.hid (range_all_next HA.out HN0.out)
      have q2 : ((k : Int) == 0) = true := by rw [beq_iff_eq]; omega
      clear hk0
      go_wp2_with fail
      go_roundw
      case rel => exact ⟨k + 1, by omega, by go_num, by rw [HWT.out]; go_num, HR, HBW⟩
      case measure => simp [intOf]; omega
    have hkp : 0 < k := by omega
    have hkc : k ≤ cap := by omega
    have q2 : ((k : Int) == 0) = false := by rw [beq_eq_false_iff_ne]; omega
    have HNH : Hid (headB t k = false → R_GoodTrie t = false) := Lib.hid fun h => R_no_node hlt (nodeB_head hkp h)
    have HNB0 : Hid (headB t k = true → tailB t k = true → (List.range (k + 1)).all (nodeB t) = true) := Lib.hid fun h1 h2 => range_all_next HA.out (by rw [nodeB_pos hkp, HWB.out, h1, h2]; rfl)
    have HNO0 : Hid (headB t k = true → tailB t k = false → R_GoodTrie t = false) := Lib.hid fun h1 h2 => R_no_node hlt (by rw [nodeB_pos hkp, h1, h2]; simp)
    have HHD : Hid (headB t k = (upB t k && (!decide ((nd t x.2.1.toNat).1 = more) && (lvlOK x.1 && (decide (kidR (t.take k) x.2.1 x.1 < 0) && decide (depR t k k ≤ 6)))))) := Lib.hid (by unfold headB; rw [HND.out])
    have HUB : Hid (upB t k = (decide (0 ≤ x.2.1) && decide (x.2.1 < (k : Int)))) := Lib.hid (by unfold upB; rw [HND.out])
    have HWD : Hid (Below w.heap.size w wb.drew) := Lib.hid HBW.out.drew
    have HWC : Hid (Below (wo.heap.size + 1) wb wb.drew) := Lib.hid (Below.refl _ _).drew
    have hzd : wo.heap.size + 1 ≤ wb.drew.heap.size := by have := HWC.out.size; omega
    go_wp2_with fail
    by_cases hu0 : x.2.1 < 0
    case pos =>
      have HN := Lib.hid (HNH.out (by rw [HHD.out, HUB.out]; simp; omega))
      refine wp_region_G [] (fun w' => w'.cell? ⟨wo.heap.size, 0, none⟩ = some (.string x.1) ∧ w'.cell? ⟨wo.heap.size, 1, none⟩ = some (.int .i64 x.2.1)) (by kernel_rfl) ?_ (fun hHeld => ?_)
      · exact ⟨f0, f1⟩
      refine wpG_pure (i := 0) (oi := ⟨some 81, .fieldAddr 58 (.tmp 5) 1, 0, "l10_topic.go:200", #[], none⟩) (v := ?vg1) rfl (by kernel_rfl) (fun _ _ _ h => h) (Or.inr hHeld) (Or.inl ⟨by rfl, ?yg1⟩) ?_
      case yg1 => (intro wS _; go_simp <;> with_reducible rfl)
      try simp only [Act.put, gqa, gqb, gqc]
      refine wpG_load (i := 1) (oi := ⟨some 82, .load 3 (.tmp 81), 3, "l10_topic.go:200", #[⟨0, .data⟩], none⟩) (v := ?vg2) [] rfl (by kernel_rfl) (fun _ _ _ h => h) hHeld (Or.inl ⟨by rfl, ?yg2⟩) ?_
      case yg2 => (intro wS hSw; (try dsimp only at hSw); go_simp <;> with_reducible rfl)
      try simp only [Act.put, gqa, gqb, gqc]
      refine wpG_pure (i := 2) (oi := ⟨some 83, .binOp .lss 3 (.tmp 82) (.const (.int .i64 0)) 3, 4, "l10_topic.go:200", #[⟨1, .data⟩], none⟩) (v := ?vg3) rfl (by kernel_rfl) (fun _ _ _ h => h) (Or.inr hHeld) (Or.inl ⟨by rfl, ?yg3⟩) ?_
      case yg3 => (intro wS _; go_simp <;> with_reducible rfl)
      try simp only [Act.put, gqa, gqb, gqc]
      refine wpG_pure (i := 3) (oi := ⟨some 84, .move (.tmp 83), 4, "l10_topic.go:200", #[⟨2, .data⟩], none⟩) (v := ?vg4) rfl (by kernel_rfl) (fun _ _ _ h => h) (Or.inr hHeld) (Or.inl ⟨by rfl, ?yg4⟩) ?_
      case yg4 => (intro wS _; go_simp <;> with_reducible rfl)
      try simp only [Act.put, gqa, gqb, gqc]
      refine wpG_pure (i := 4) (oi := ⟨some 85, .fieldAddr 58 (.tmp 5) 1, 0, "l10_topic.go:200", #[⟨3, .guard⟩], some (3, false)⟩) (v := undef) rfl (by kernel_rfl) (fun _ _ _ h => h) (Or.inr hHeld) (Or.inr ⟨by rfl, rfl⟩) ?_
      try simp only [Act.put, gqa, gqb, gqc]
      refine wpG_pure (i := 5) (oi := ⟨some 86, .load 3 (.tmp 85), 3, "l10_topic.go:200", #[⟨4, .data⟩, ⟨3, .guard⟩], some (3, false)⟩) (v := undef) rfl (by kernel_rfl) (fun _ _ _ h => h) (Or.inr hHeld) (Or.inr ⟨by rfl, rfl⟩) ?_
      try simp only [Act.put, gqa, gqb, gqc]
      refine wpG_pure (i := 6) (oi := ⟨some 87, .move (.tmp 4), 3, "l10_topic.go:200", #[⟨3, .guard⟩], some (3, false)⟩) (v := undef) rfl (by kernel_rfl) (fun _ _ _ h => h) (Or.inr hHeld) (Or.inr ⟨by rfl, rfl⟩) ?_
      try simp only [Act.put, gqa, gqb, gqc]
      refine wpG_pure (i := 7) (oi := ⟨some 88, .binOp .geq 3 (.tmp 86) (.tmp 87) 3, 4, "l10_topic.go:200", #[⟨5, .data⟩, ⟨6, .data⟩, ⟨3, .guard⟩], some (3, false)⟩) (v := undef) rfl (by kernel_rfl) (fun _ _ _ h => h) (Or.inr hHeld) (Or.inr ⟨by rfl, rfl⟩) ?_
      try simp only [Act.put, gqa, gqb, gqc]
      refine wpG_pure (i := 8) (oi := ⟨some 89, .pick (.tmp 84) (.const (.bool true)) (.tmp 88), 4, "l10_topic.go:200", #[⟨3, .data⟩, ⟨7, .data⟩], none⟩) (v := ?vg9) rfl (by kernel_rfl) (fun _ _ _ h => h) (Or.inr hHeld) (Or.inl ⟨by rfl, ?yg9⟩) ?_
      case yg9 => (intro wS _; go_simp <;> with_reducible rfl)
      try simp only [Act.put, gqa, gqb, gqc]
      refine wpG_pure (i := 9) (oi := ⟨some 90, .move (.tmp 89), 4, "l10_topic.go:200", #[⟨8, .data⟩, ⟨3, .chain⟩], none⟩) (v := ?vg10) rfl (by kernel_rfl) (fun _ _ _ h => h) (Or.inr hHeld) (Or.inl ⟨by rfl, ?yg10⟩) ?_
      case yg10 => (intro wS _; go_simp <;> with_reducible rfl)
      try simp only [Act.put, gqa, gqb, gqc]
      refine wpG_pure (i := 10) (oi := ⟨some 91, .move (.tmp 0), 24, "l10_topic.go:200", #[⟨9, .guard⟩], some (9, false)⟩) (v := undef) rfl (by kernel_rfl) (fun _ _ _ h => h) (Or.inr hHeld) (Or.inr ⟨by rfl, rfl⟩) ?_
      try simp only [Act.put, gqa, gqb, gqc]
      refine wpG_pure (i := 11) (oi := ⟨some 92, .fieldAddr 58 (.tmp 5) 1, 0, "l10_topic.go:200", #[⟨9, .guard⟩], some (9, false)⟩) (v := undef) rfl (by kernel_rfl) (fun _ _ _ h => h) (Or.inr hHeld) (Or.inr ⟨by rfl, rfl⟩) ?_
      try simp only [Act.put, gqa, gqb, gqc]
      refine wpG_pure (i := 12) (oi := ⟨some 93, .load 3 (.tmp 92), 3, "l10_topic.go:200", #[⟨11, .data⟩, ⟨9, .guard⟩], some (9, false)⟩) (v := undef) rfl (by kernel_rfl) (fun _ _ _ h => h) (Or.inr hHeld) (Or.inr ⟨by rfl, rfl⟩) ?_
      try simp only [Act.put, gqa, gqb, gqc]
      refine wpG_pure (i := 13) (oi := ⟨some 94, .indexAddr 24 (.tmp 91) (.tmp 93), 0, "l10_topic.go:200", #[⟨10, .data⟩, ⟨12, .data⟩, ⟨9, .guard⟩], some (9, false)⟩) (v := undef) rfl (by kernel_rfl) (fun _ _ _ h => h) (Or.inr hHeld) (Or.inr ⟨by rfl, rfl⟩) ?_
      try simp only [Act.put, gqa, gqb, gqc]
      refine wpG_pure (i := 14) (oi := ⟨some 95, .fieldAddr 58 (.tmp 94) 0, 0, "l10_topic.go:200", #[⟨13, .data⟩, ⟨9, .guard⟩], some (9, false)⟩) (v := undef) rfl (by kernel_rfl) (fun _ _ _ h => h) (Or.inr hHeld) (Or.inr ⟨by rfl, rfl⟩) ?_
      try simp only [Act.put, gqa, gqb, gqc]
      refine wpG_pure (i := 15) (oi := ⟨some 96, .load 9 (.tmp 95), 9, "l10_topic.go:200", #[⟨14, .data⟩, ⟨9, .guard⟩], some (9, false)⟩) (v := undef) rfl (by kernel_rfl) (fun _ _ _ h => h) (Or.inr hHeld) (Or.inr ⟨by rfl, rfl⟩) ?_
      try simp only [Act.put, gqa, gqb, gqc]
      refine wpG_pure (i := 16) (oi := ⟨some 97, .binOp .eql 9 (.tmp 96) (.const (.string { data := #[35] })) 9, 4, "l10_topic.go:200", #[⟨15, .data⟩, ⟨9, .guard⟩], some (9, false)⟩) (v := undef) rfl (by kernel_rfl) (fun _ _ _ h => h) (Or.inr hHeld) (Or.inr ⟨by rfl, rfl⟩) ?_
      try simp only [Act.put, gqa, gqb, gqc]
      refine wpG_pure (i := 17) (oi := ⟨some 98, .pick (.tmp 90) (.const (.bool true)) (.tmp 97), 4, "l10_topic.go:200", #[⟨9, .data⟩, ⟨16, .data⟩], none⟩) (v := ?vg18) rfl (by kernel_rfl) (fun _ _ _ h => h) (Or.inr hHeld) (Or.inl ⟨by rfl, ?yg18⟩) ?_
      case yg18 => (intro wS _; go_simp <;> with_reducible rfl)
      try simp only [Act.put, gqa, gqb, gqc]
      refine wpG_pure (i := 18) (oi := ⟨some 99, .move (.tmp 98), 4, "l10_topic.go:200", #[⟨17, .data⟩, ⟨9, .chain⟩], none⟩) (v := ?vg19) rfl (by kernel_rfl) (fun _ _ _ h => h) (Or.inr hHeld) (Or.inl ⟨by rfl, ?yg19⟩) ?_
      case yg19 => (intro wS _; go_simp <;> with_reducible rfl)
      try simp only [Act.put, gqa, gqb, gqc]
      refine wpG_pure (i := 19) (oi := ⟨some 100, .fieldAddr 58 (.tmp 5) 0, 0, "l10_topic.go:200", #[⟨18, .guard⟩], some (18, false)⟩) (v := undef) rfl (by kernel_rfl) (fun _ _ _ h => h) (Or.inr hHeld) (Or.inr ⟨by rfl, rfl⟩) ?_
      try simp only [Act.put, gqa, gqb, gqc]
      refine wpG_pure (i := 20) (oi := ⟨some 101, .load 9 (.tmp 100), 9, "l10_topic.go:200", #[⟨19, .data⟩, ⟨18, .guard⟩], some (18, false)⟩) (v := undef) rfl (by kernel_rfl) (fun _ _ _ h => h) (Or.inr hHeld) (Or.inr ⟨by rfl, rfl⟩) ?_
      try simp only [Act.put, gqa, gqb, gqc]
      refine wpG_pure (i := 21) (oi := ⟨some 102, .call { callee := .value (.func 58), args := #[.tmp 101], argTypes := #[9] }, 4, "l10_topic.go:200", #[⟨20, .data⟩, ⟨18, .chain⟩, ⟨18, .guard⟩], some (18, false)⟩) (v := undef) rfl (by kernel_rfl) (fun _ _ _ h => h) (Or.inr hHeld) (Or.inr ⟨by rfl, rfl⟩) ?_
      try simp only [Act.put, gqa, gqb, gqc]
      refine wpG_pure (i := 22) (oi := ⟨some 103, .unOp .not 4 (.tmp 102), 4, "l10_topic.go:200", #[⟨21, .data⟩, ⟨18, .guard⟩], some (18, false)⟩) (v := undef) rfl (by kernel_rfl) (fun _ _ _ h => h) (Or.inr hHeld) (Or.inr ⟨by rfl, rfl⟩) ?_
      try simp only [Act.put, gqa, gqb, gqc]
      refine wpG_pure (i := 23) (oi := ⟨some 104, .move (.tmp 103), 4, "l10_topic.go:200", #[⟨22, .data⟩, ⟨21, .chain⟩, ⟨18, .guard⟩], some (18, false)⟩) (v := undef) rfl (by kernel_rfl) (fun _ _ _ h => h) (Or.inr hHeld) (Or.inr ⟨by rfl, rfl⟩) ?_
      try simp only [Act.put, gqa, gqb, gqc]
      refine wpG_pure (i := 24) (oi := ⟨some 105, .fieldAddr 58 (.tmp 5) 0, 0, "l10_topic.go:200", #[⟨23, .guard⟩], some (23, true)⟩) (v := undef) rfl (by kernel_rfl) (fun _ _ _ h => h) (Or.inr hHeld) (Or.inr ⟨by rfl, rfl⟩) ?_
      try simp only [Act.put, gqa, gqb, gqc]
      refine wpG_pure (i := 25) (oi := ⟨some 106, .load 9 (.tmp 105), 9, "l10_topic.go:200", #[⟨24, .data⟩, ⟨23, .guard⟩], some (23, true)⟩) (v := undef) rfl (by kernel_rfl) (fun _ _ _ h => h) (Or.inr hHeld) (Or.inr ⟨by rfl, rfl⟩) ?_
      try simp only [Act.put, gqa, gqb, gqc]
      refine wpG_pure (i := 26) (oi := ⟨some 107, .binOp .neq 9 (.tmp 106) (.const (.string { data := #[43] })) 9, 4, "l10_topic.go:200", #[⟨25, .data⟩, ⟨23, .guard⟩], some (23, true)⟩) (v := undef) rfl (by kernel_rfl) (fun _ _ _ h => h) (Or.inr hHeld) (Or.inr ⟨by rfl, rfl⟩) ?_
      try simp only [Act.put, gqa, gqb, gqc]
      refine wpG_pure (i := 27) (oi := ⟨some 108, .pick (.tmp 104) (.tmp 107) (.const (.bool false)), 4, "l10_topic.go:200", #[⟨23, .data⟩, ⟨26, .data⟩, ⟨18, .guard⟩], some (18, false)⟩) (v := undef) rfl (by kernel_rfl) (fun _ _ _ h => h) (Or.inr hHeld) (Or.inr ⟨by rfl, rfl⟩) ?_
      try simp only [Act.put, gqa, gqb, gqc]
      refine wpG_pure (i := 28) (oi := ⟨some 109, .move (.tmp 108), 4, "l10_topic.go:200", #[⟨27, .data⟩, ⟨23, .chain⟩, ⟨18, .guard⟩], some (18, false)⟩) (v := undef) rfl (by kernel_rfl) (fun _ _ _ h => h) (Or.inr hHeld) (Or.inr ⟨by rfl, rfl⟩) ?_
      try simp only [Act.put, gqa, gqb, gqc]
      refine wpG_pure (i := 29) (oi := ⟨some 110, .fieldAddr 58 (.tmp 5) 0, 0, "l10_topic.go:200", #[⟨28, .guard⟩], some (28, true)⟩) (v := undef) rfl (by kernel_rfl) (fun _ _ _ h => h) (Or.inr hHeld) (Or.inr ⟨by rfl, rfl⟩) ?_
      try simp only [Act.put, gqa, gqb, gqc]
      refine wpG_pure (i := 30) (oi := ⟨some 111, .load 9 (.tmp 110), 9, "l10_topic.go:200", #[⟨29, .data⟩, ⟨28, .guard⟩], some (28, true)⟩) (v := undef) rfl (by kernel_rfl) (fun _ _ _ h => h) (Or.inr hHeld) (Or.inr ⟨by rfl, rfl⟩) ?_
      try simp only [Act.put, gqa, gqb, gqc]
      refine wpG_pure (i := 31) (oi := ⟨some 112, .binOp .neq 9 (.tmp 111) (.const (.string { data := #[35] })) 9, 4, "l10_topic.go:200", #[⟨30, .data⟩, ⟨28, .guard⟩], some (28, true)⟩) (v := undef) rfl (by kernel_rfl) (fun _ _ _ h => h) (Or.inr hHeld) (Or.inr ⟨by rfl, rfl⟩) ?_
      try simp only [Act.put, gqa, gqb, gqc]
      refine wpG_pure (i := 32) (oi := ⟨some 113, .pick (.tmp 109) (.tmp 112) (.const (.bool false)), 4, "l10_topic.go:200", #[⟨28, .data⟩, ⟨31, .data⟩, ⟨18, .guard⟩], some (18, false)⟩) (v := undef) rfl (by kernel_rfl) (fun _ _ _ h => h) (Or.inr hHeld) (Or.inr ⟨by rfl, rfl⟩) ?_
      try simp only [Act.put, gqa, gqb, gqc]
      refine wpG_pure (i := 33) (oi := ⟨some 114, .pick (.tmp 99) (.const (.bool true)) (.tmp 113), 4, "l10_topic.go:200", #[⟨18, .data⟩, ⟨32, .data⟩], none⟩) (v := ?vg34) rfl (by kernel_rfl) (fun _ _ _ h => h) (Or.inr hHeld) (Or.inl ⟨by rfl, ?yg34⟩) ?_
      case yg34 => (intro wS _; go_simp <;> with_reducible rfl)
      try simp only [Act.put, gqa, gqb, gqc]
      refine wpG_pure (i := 34) (oi := ⟨some 115, .move (.tmp 114), 4, "l10_topic.go:200", #[⟨33, .data⟩, ⟨28, .chain⟩], none⟩) (v := ?vg35) rfl (by kernel_rfl) (fun _ _ _ h => h) (Or.inr hHeld) (Or.inl ⟨by rfl, ?yg35⟩) ?_
      case yg35 => (intro wS _; go_simp <;> with_reducible rfl)
      try simp only [Act.put, gqa, gqb, gqc]
      refine wpG_pure (i := 35) (oi := ⟨some 116, .move (.tmp 0), 24, "l10_topic.go:200", #[⟨34, .guard⟩], some (34, false)⟩) (v := undef) rfl (by kernel_rfl) (fun _ _ _ h => h) (Or.inr hHeld) (Or.inr ⟨by rfl, rfl⟩) ?_
      try simp only [Act.put, gqa, gqb, gqc]
      refine wpG_pure (i := 36) (oi := ⟨some 117, .move (.tmp 4), 3, "l10_topic.go:200", #[⟨34, .guard⟩], some (34, false)⟩) (v := undef) rfl (by kernel_rfl) (fun _ _ _ h => h) (Or.inr hHeld) (Or.inr ⟨by rfl, rfl⟩) ?_
      try simp only [Act.put, gqa, gqb, gqc]
      refine wpG_pure (i := 37) (oi := ⟨some 118, .slice 24 (.tmp 116) none (some (.tmp 117)) none, 24, "l10_topic.go:200", #[⟨35, .data⟩, ⟨36, .data⟩, ⟨34, .guard⟩], some (34, false)⟩) (v := undef) rfl (by kernel_rfl) (fun _ _ _ h => h) (Or.inr hHeld) (Or.inr ⟨by rfl, rfl⟩) ?_
      try simp only [Act.put, gqa, gqb, gqc]
      refine wpG_pure (i := 38) (oi := ⟨some 119, .fieldAddr 58 (.tmp 5) 1, 0, "l10_topic.go:200", #[⟨34, .guard⟩], some (34, false)⟩) (v := undef) rfl (by kernel_rfl) (fun _ _ _ h => h) (Or.inr hHeld) (Or.inr ⟨by rfl, rfl⟩) ?_
      try simp only [Act.put, gqa, gqb, gqc]
      refine wpG_pure (i := 39) (oi := ⟨some 120, .load 3 (.tmp 119), 3, "l10_topic.go:200", #[⟨38, .data⟩, ⟨34, .guard⟩], some (34, false)⟩) (v := undef) rfl (by kernel_rfl) (fun _ _ _ h => h) (Or.inr hHeld) (Or.inr ⟨by rfl, rfl⟩) ?_
      try simp only [Act.put, gqa, gqb, gqc]
      refine wpG_pure (i := 40) (oi := ⟨some 121, .fieldAddr 58 (.tmp 5) 0, 0, "l10_topic.go:200", #[⟨34, .guard⟩], some (34, false)⟩) (v := undef) rfl (by kernel_rfl) (fun _ _ _ h => h) (Or.inr hHeld) (Or.inr ⟨by rfl, rfl⟩) ?_
      try simp only [Act.put, gqa, gqb, gqc]
      refine wpG_pure (i := 41) (oi := ⟨some 122, .load 9 (.tmp 121), 9, "l10_topic.go:200", #[⟨40, .data⟩, ⟨34, .guard⟩], some (34, false)⟩) (v := undef) rfl (by kernel_rfl) (fun _ _ _ h => h) (Or.inr hHeld) (Or.inr ⟨by rfl, rfl⟩) ?_
      try simp only [Act.put, gqa, gqb, gqc]
      refine wpG_pure (i := 42) (oi := ⟨some 123, .call { callee := .value (.func 68), args := #[.tmp 118, .tmp 120, .tmp 122], argTypes := #[24, 3, 9] }, 3, "l10_topic.go:200", #[⟨37, .data⟩, ⟨39, .data⟩, ⟨41, .data⟩, ⟨34, .chain⟩, ⟨34, .guard⟩], some (34, false)⟩) (v := undef) rfl (by kernel_rfl) (fun _ _ _ h => h) (Or.inr hHeld) (Or.inr ⟨by rfl, rfl⟩) ?_
      try simp only [Act.put, gqa, gqb, gqc]
      refine wpG_pure (i := 43) (oi := ⟨some 124, .binOp .geq 3 (.tmp 123) (.const (.int .i64 0)) 3, 4, "l10_topic.go:200", #[⟨42, .data⟩, ⟨34, .guard⟩], some (34, false)⟩) (v := undef) rfl (by kernel_rfl) (fun _ _ _ h => h) (Or.inr hHeld) (Or.inr ⟨by rfl, rfl⟩) ?_
      try simp only [Act.put, gqa, gqb, gqc]
      refine wpG_pure (i := 44) (oi := ⟨some 125, .pick (.tmp 115) (.const (.bool true)) (.tmp 124), 4, "l10_topic.go:200", #[⟨34, .data⟩, ⟨43, .data⟩], none⟩) (v := ?vg45) rfl (by kernel_rfl) (fun _ _ _ h => h) (Or.inr hHeld) (Or.inl ⟨by rfl, ?yg45⟩) ?_
      case yg45 => (intro wS _; go_simp <;> with_reducible rfl)
      try simp only [Act.put, gqa, gqb, gqc]
      refine wpG_pure (i := 45) (oi := ⟨some 126, .move (.tmp 125), 4, "l10_topic.go:200", #[⟨44, .data⟩, ⟨42, .chain⟩], none⟩) (v := ?vg46) rfl (by kernel_rfl) (fun _ _ _ h => h) (Or.inr hHeld) (Or.inl ⟨by rfl, ?yg46⟩) ?_
      case yg46 => (intro wS _; go_simp <;> with_reducible rfl)
      try simp only [Act.put, gqa, gqb, gqc]
      refine wpG_pure (i := 46) (oi := ⟨some 127, .move (.tmp 0), 24, "l10_topic.go:200", #[⟨45, .guard⟩], some (45, false)⟩) (v := undef) rfl (by kernel_rfl) (fun _ _ _ h => h) (Or.inr hHeld) (Or.inr ⟨by rfl, rfl⟩) ?_
      try simp only [Act.put, gqa, gqb, gqc]
      refine wpG_pure (i := 47) (oi := ⟨some 128, .move (.tmp 4), 3, "l10_topic.go:200", #[⟨45, .guard⟩], some (45, false)⟩) (v := undef) rfl (by kernel_rfl) (fun _ _ _ h => h) (Or.inr hHeld) (Or.inr ⟨by rfl, rfl⟩) ?_
      try simp only [Act.put, gqa, gqb, gqc]
      refine wpG_pure (i := 48) (oi := ⟨some 129, .call { callee := .value (.func 81), args := #[.tmp 127, .tmp 128], argTypes := #[24, 3] }, 3, "l10_topic.go:200", #[⟨46, .data⟩, ⟨47, .data⟩, ⟨45, .chain⟩, ⟨45, .guard⟩], some (45, false)⟩) (v := undef) rfl (by kernel_rfl) (fun _ _ _ h => h) (Or.inr hHeld) (Or.inr ⟨by rfl, rfl⟩) ?_
      try simp only [Act.put, gqa, gqb, gqc]
      refine wpG_pure (i := 49) (oi := ⟨some 130, .binOp .gtr 3 (.tmp 129) (.const (.int .i64 6)) 3, 4, "l10_topic.go:200", #[⟨48, .data⟩, ⟨45, .guard⟩], some (45, false)⟩) (v := undef) rfl (by kernel_rfl) (fun _ _ _ h => h) (Or.inr hHeld) (Or.inr ⟨by rfl, rfl⟩) ?_
      try simp only [Act.put, gqa, gqb, gqc]
      refine wpG_pure (i := 50) (oi := ⟨some 131, .pick (.tmp 126) (.const (.bool true)) (.tmp 130), 4, "l10_topic.go:200", #[⟨45, .data⟩, ⟨49, .data⟩], none⟩) (v := ?vg51) rfl (by kernel_rfl) (fun _ _ _ h => h) (Or.inr hHeld) (Or.inl ⟨by rfl, ?yg51⟩) ?_
      case yg51 => (intro wS _; go_simp <;> with_reducible rfl)
      try simp only [Act.put, gqa, gqb, gqc]
      refine wpG_done (by kernel_rfl) ?_
      (go_wp2_with fail; go_ret; exact ⟨ret_bool HN.out.symm, HWD.out⟩)
    by_cases hu1 : x.2.1 < (k : Int)
    case neg =>
      have HN := Lib.hid (HNH.out (by rw [HHD.out, HUB.out]; simp [hu1]))
      have q3 : (k : Int) ≤ x.2.1 := by omega
      refine wp_region_G [] (fun w' => w'.cell? ⟨wo.heap.size, 0, none⟩ = some (.string x.1) ∧ w'.cell? ⟨wo.heap.size, 1, none⟩ = some (.int .i64 x.2.1)) (by kernel_rfl) ?_ (fun hHeld => ?_)
      · exact ⟨f0, f1⟩
      refine wpG_pure (i := 0) (oi := ⟨some 81, .fieldAddr 58 (.tmp 5) 1, 0, "l10_topic.go:200", #[], none⟩) (v := ?vg52) rfl (by kernel_rfl) (fun _ _ _ h => h) (Or.inr hHeld) (Or.inl ⟨by rfl, ?yg52⟩) ?_
      case yg52 => (intro wS _; go_simp <;> with_reducible rfl)
      try simp only [Act.put, gqa, gqb, gqc]
      refine wpG_load (i := 1) (oi := ⟨some 82, .load 3 (.tmp 81), 3, "l10_topic.go:200", #[⟨0, .data⟩], none⟩) (v := ?vg53) [] rfl (by kernel_rfl) (fun _ _ _ h => h) hHeld (Or.inl ⟨by rfl, ?yg53⟩) ?_
      case yg53 => (intro wS hSw; (try dsimp only at hSw); go_simp <;> with_reducible rfl)
      try simp only [Act.put, gqa, gqb, gqc]
      refine wpG_pure (i := 2) (oi := ⟨some 83, .binOp .lss 3 (.tmp 82) (.const (.int .i64 0)) 3, 4, "l10_topic.go:200", #[⟨1, .data⟩], none⟩) (v := ?vg54) rfl (by kernel_rfl) (fun _ _ _ h => h) (Or.inr hHeld) (Or.inl ⟨by rfl, ?yg54⟩) ?_
      case yg54 => (intro wS _; go_simp <;> with_reducible rfl)
      try simp only [Act.put, gqa, gqb, gqc]
      refine wpG_pure (i := 3) (oi := ⟨some 84, .move (.tmp 83), 4, "l10_topic.go:200", #[⟨2, .data⟩], none⟩) (v := ?vg55) rfl (by kernel_rfl) (fun _ _ _ h => h) (Or.inr hHeld) (Or.inl ⟨by rfl, ?yg55⟩) ?_
      case yg55 => (intro wS _; go_simp <;> with_reducible rfl)
      try simp only [Act.put, gqa, gqb, gqc]
      refine wpG_pure (i := 4) (oi := ⟨some 85, .fieldAddr 58 (.tmp 5) 1, 0, "l10_topic.go:200", #[⟨3, .guard⟩], some (3, false)⟩) (v := ?vg56) rfl (by kernel_rfl) (fun _ _ _ h => h) (Or.inr hHeld) (Or.inl ⟨by rfl, ?yg56⟩) ?_
      case yg56 => (intro wS _; go_simp <;> with_reducible rfl)
      try simp only [Act.put, gqa, gqb, gqc]
      refine wpG_load (i := 5) (oi := ⟨some 86, .load 3 (.tmp 85), 3, "l10_topic.go:200", #[⟨4, .data⟩, ⟨3, .guard⟩], some (3, false)⟩) (v := ?vg57) [] rfl (by kernel_rfl) (fun _ _ _ h => h) hHeld (Or.inl ⟨by rfl, ?yg57⟩) ?_
      case yg57 => (intro wS hSw; (try dsimp only at hSw); go_simp <;> with_reducible rfl)
      try simp only [Act.put, gqa, gqb, gqc]
      refine wpG_pure (i := 6) (oi := ⟨some 87, .move (.tmp 4), 3, "l10_topic.go:200", #[⟨3, .guard⟩], some (3, false)⟩) (v := ?vg58) rfl (by kernel_rfl) (fun _ _ _ h => h) (Or.inr hHeld) (Or.inl ⟨by rfl, ?yg58⟩) ?_
      case yg58 => (intro wS _; go_simp <;> with_reducible rfl)
      try simp only [Act.put, gqa, gqb, gqc]
      refine wpG_pure (i := 7) (oi := ⟨some 88, .binOp .geq 3 (.tmp 86) (.tmp 87) 3, 4, "l10_topic.go:200", #[⟨5, .data⟩, ⟨6, .data⟩, ⟨3, .guard⟩], some (3, false)⟩) (v := ?vg59) rfl (by kernel_rfl) (fun _ _ _ h => h) (Or.inr hHeld) (Or.inl ⟨by rfl, ?yg59⟩) ?_
      case yg59 => (intro wS _; go_simp <;> with_reducible rfl)
      try simp only [Act.put, gqa, gqb, gqc]
      refine wpG_pure (i := 8) (oi := ⟨some 89, .pick (.tmp 84) (.const (.bool true)) (.tmp 88), 4, "l10_topic.go:200", #[⟨3, .data⟩, ⟨7, .data⟩], none⟩) (v := ?vg60) rfl (by kernel_rfl) (fun _ _ _ h => h) (Or.inr hHeld) (Or.inl ⟨by rfl, ?yg60⟩) ?_
      case yg60 => (intro wS _; go_simp <;> with_reducible rfl)
      try simp only [Act.put, gqa, gqb, gqc]
      refine wpG_pure (i := 9) (oi := ⟨some 90, .move (.tmp 89), 4, "l10_topic.go:200", #[⟨8, .data⟩, ⟨3, .chain⟩], none⟩) (v := ?vg61) rfl (by kernel_rfl) (fun _ _ _ h => h) (Or.inr hHeld) (Or.inl ⟨by rfl, ?yg61⟩) ?_
      case yg61 => (intro wS _; go_simp <;> with_reducible rfl)
      try simp only [Act.put, gqa, gqb, gqc]
      refine wpG_pure (i := 10) (oi := ⟨some 91, .move (.tmp 0), 24, "l10_topic.go:200", #[⟨9, .guard⟩], some (9, false)⟩) (v := undef) rfl (by kernel_rfl) (fun _ _ _ h => h) (Or.inr hHeld) (Or.inr ⟨by rfl, rfl⟩) ?_
      try simp only [Act.put, gqa, gqb, gqc]
      refine wpG_pure (i := 11) (oi := ⟨some 92, .fieldAddr 58 (.tmp 5) 1, 0, "l10_topic.go:200", #[⟨9, .guard⟩], some (9, false)⟩) (v := undef) rfl (by kernel_rfl) (fun _ _ _ h => h) (Or.inr hHeld) (Or.inr ⟨by rfl, rfl⟩) ?_
      try simp only [Act.put, gqa, gqb, gqc]
      refine wpG_pure (i := 12) (oi := ⟨some 93, .load 3 (.tmp 92), 3, "l10_topic.go:200", #[⟨11, .data⟩, ⟨9, .guard⟩], some (9, false)⟩) (v := undef) rfl (by kernel_rfl) (fun _ _ _ h => h) (Or.inr hHeld) (Or.inr ⟨by rfl, rfl⟩) ?_
      try simp only [Act.put, gqa, gqb, gqc]
      refine wpG_pure (i := 13) (oi := ⟨some 94, .indexAddr 24 (.tmp 91) (.tmp 93), 0, "l10_topic.go:200", #[⟨10, .data⟩, ⟨12, .data⟩, ⟨9, .guard⟩], some (9, false)⟩) (v := undef) rfl (by kernel_rfl) (fun _ _ _ h => h) (Or.inr hHeld) (Or.inr ⟨by rfl, rfl⟩) ?_
      try simp only [Act.put, gqa, gqb, gqc]
      refine wpG_pure (i := 14) (oi := ⟨some 95, .fieldAddr 58 (.tmp 94) 0, 0, "l10_topic.go:200", #[⟨13, .data⟩, ⟨9, .guard⟩], some (9, false)⟩) (v := undef) rfl (by kernel_rfl) (fun _ _ _ h => h) (Or.inr hHeld) (Or.inr ⟨by rfl, rfl⟩) ?_
      try simp only [Act.put, gqa, gqb, gqc]
      refine wpG_pure (i := 15) (oi := ⟨some 96, .load 9 (.tmp 95), 9, "l10_topic.go:200", #[⟨14, .data⟩, ⟨9, .guard⟩], some (9, false)⟩) (v := undef) rfl (by kernel_rfl) (fun _ _ _ h => h) (Or.inr hHeld) (Or.inr ⟨by rfl, rfl⟩) ?_
      try simp only [Act.put, gqa, gqb, gqc]
      refine wpG_pure (i := 16) (oi := ⟨some 97, .binOp .eql 9 (.tmp 96) (.const (.string { data := #[35] })) 9, 4, "l10_topic.go:200", #[⟨15, .data⟩, ⟨9, .guard⟩], some (9, false)⟩) (v := undef) rfl (by kernel_rfl) (fun _ _ _ h => h) (Or.inr hHeld) (Or.inr ⟨by rfl, rfl⟩) ?_
      try simp only [Act.put, gqa, gqb, gqc]
      refine wpG_pure (i := 17) (oi := ⟨some 98, .pick (.tmp 90) (.const (.bool true)) (.tmp 97), 4, "l10_topic.go:200", #[⟨9, .data⟩, ⟨16, .data⟩], none⟩) (v := ?vg69) rfl (by kernel_rfl) (fun _ _ _ h => h) (Or.inr hHeld) (Or.inl ⟨by rfl, ?yg69⟩) ?_
      case yg69 => (intro wS _; go_simp <;> with_reducible rfl)
      try simp only [Act.put, gqa, gqb, gqc]
      refine wpG_pure (i := 18) (oi := ⟨some 99, .move (.tmp 98), 4, "l10_topic.go:200", #[⟨17, .data⟩, ⟨9, .chain⟩], none⟩) (v := ?vg70) rfl (by kernel_rfl) (fun _ _ _ h => h) (Or.inr hHeld) (Or.inl ⟨by rfl, ?yg70⟩) ?_
      case yg70 => (intro wS _; go_simp <;> with_reducible rfl)
      try simp only [Act.put, gqa, gqb, gqc]
      refine wpG_pure (i := 19) (oi := ⟨some 100, .fieldAddr 58 (.tmp 5) 0, 0, "l10_topic.go:200", #[⟨18, .guard⟩], some (18, false)⟩) (v := undef) rfl (by kernel_rfl) (fun _ _ _ h => h) (Or.inr hHeld) (Or.inr ⟨by rfl, rfl⟩) ?_
      try simp only [Act.put, gqa, gqb, gqc]
      refine wpG_pure (i := 20) (oi := ⟨some 101, .load 9 (.tmp 100), 9, "l10_topic.go:200", #[⟨19, .data⟩, ⟨18, .guard⟩], some (18, false)⟩) (v := undef) rfl (by kernel_rfl) (fun _ _ _ h => h) (Or.inr hHeld) (Or.inr ⟨by rfl, rfl⟩) ?_
      try simp only [Act.put, gqa, gqb, gqc]
      refine wpG_pure (i := 21) (oi := ⟨some 102, .call { callee := .value (.func 58), args := #[.tmp 101], argTypes := #[9] }, 4, "l10_topic.go:200", #[⟨20, .data⟩, ⟨18, .chain⟩, ⟨18, .guard⟩], some (18, false)⟩) (v := undef) rfl (by kernel_rfl) (fun _ _ _ h => h) (Or.inr hHeld) (Or.inr ⟨by rfl, rfl⟩) ?_
      try simp only [Act.put, gqa, gqb, gqc]
      refine wpG_pure (i := 22) (oi := ⟨some 103, .unOp .not 4 (.tmp 102), 4, "l10_topic.go:200", #[⟨21, .data⟩, ⟨18, .guard⟩], some (18, false)⟩) (v := undef) rfl (by kernel_rfl) (fun _ _ _ h => h) (Or.inr hHeld) (Or.inr ⟨by rfl, rfl⟩) ?_
      try simp only [Act.put, gqa, gqb, gqc]
      refine wpG_pure (i := 23) (oi := ⟨some 104, .move (.tmp 103), 4, "l10_topic.go:200", #[⟨22, .data⟩, ⟨21, .chain⟩, ⟨18, .guard⟩], some (18, false)⟩) (v := undef) rfl (by kernel_rfl) (fun _ _ _ h => h) (Or.inr hHeld) (Or.inr ⟨by rfl, rfl⟩) ?_
      try simp only [Act.put, gqa, gqb, gqc]
      refine wpG_pure (i := 24) (oi := ⟨some 105, .fieldAddr 58 (.tmp 5) 0, 0, "l10_topic.go:200", #[⟨23, .guard⟩], some (23, true)⟩) (v := undef) rfl (by kernel_rfl) (fun _ _ _ h => h) (Or.inr hHeld) (Or.inr ⟨by rfl, rfl⟩) ?_
      try simp only [Act.put, gqa, gqb, gqc]
      refine wpG_pure (i := 25) (oi := ⟨some 106, .load 9 (.tmp 105), 9, "l10_topic.go:200", #[⟨24, .data⟩, ⟨23, .guard⟩], some (23, true)⟩) (v := undef) rfl (by kernel_rfl) (fun _ _ _ h => h) (Or.inr hHeld) (Or.inr ⟨by rfl, rfl⟩) ?_
      try simp only [Act.put, gqa, gqb, gqc]
      refine wpG_pure (i := 26) (oi := ⟨some 107, .binOp .neq 9 (.tmp 106) (.const (.string { data := #[43] })) 9, 4, "l10_topic.go:200", #[⟨25, .data⟩, ⟨23, .guard⟩], some (23, true)⟩) (v := undef) rfl (by kernel_rfl) (fun _ _ _ h => h) (Or.inr hHeld) (Or.inr ⟨by rfl, rfl⟩) ?_
      try simp only [Act.put, gqa, gqb, gqc]
      refine wpG_pure (i := 27) (oi := ⟨some 108, .pick (.tmp 104) (.tmp 107) (.const (.bool false)), 4, "l10_topic.go:200", #[⟨23, .data⟩, ⟨26, .data⟩, ⟨18, .guard⟩], some (18, false)⟩) (v := undef) rfl (by kernel_rfl) (fun _ _ _ h => h) (Or.inr hHeld) (Or.inr ⟨by rfl, rfl⟩) ?_
      try simp only [Act.put, gqa, gqb, gqc]
      refine wpG_pure (i := 28) (oi := ⟨some 109, .move (.tmp 108), 4, "l10_topic.go:200", #[⟨27, .data⟩, ⟨23, .chain⟩, ⟨18, .guard⟩], some (18, false)⟩) (v := undef) rfl (by kernel_rfl) (fun _ _ _ h => h) (Or.inr hHeld) (Or.inr ⟨by rfl, rfl⟩) ?_
      try simp only [Act.put, gqa, gqb, gqc]
      refine wpG_pure (i := 29) (oi := ⟨some 110, .fieldAddr 58 (.tmp 5) 0, 0, "l10_topic.go:200", #[⟨28, .guard⟩], some (28, true)⟩) (v := undef) rfl (by kernel_rfl) (fun _ _ _ h => h) (Or.inr hHeld) (Or.inr ⟨by rfl, rfl⟩) ?_
      try simp only [Act.put, gqa, gqb, gqc]
      refine wpG_pure (i := 30) (oi := ⟨some 111, .load 9 (.tmp 110), 9, "l10_topic.go:200", #[⟨29, .data⟩, ⟨28, .guard⟩], some (28, true)⟩) (v := undef) rfl (by kernel_rfl) (fun _ _ _ h => h) (Or.inr hHeld) (Or.inr ⟨by rfl, rfl⟩) ?_
      try simp only [Act.put, gqa, gqb, gqc]
      refine wpG_pure (i := 31) (oi := ⟨some 112, .binOp .neq 9 (.tmp 111) (.const (.string { data := #[35] })) 9, 4, "l10_topic.go:200", #[⟨30, .data⟩, ⟨28, .guard⟩], some (28, true)⟩) (v := undef) rfl (by kernel_rfl) (fun _ _ _ h => h) (Or.inr hHeld) (Or.inr ⟨by rfl, rfl⟩) ?_
      try simp only [Act.put, gqa, gqb, gqc]
      refine wpG_pure (i := 32) (oi := ⟨some 113, .pick (.tmp 109) (.tmp 112) (.const (.bool false)), 4, "l10_topic.go:200", #[⟨28, .data⟩, ⟨31, .data⟩, ⟨18, .guard⟩], some (18, false)⟩) (v := undef) rfl (by kernel_rfl) (fun _ _ _ h => h) (Or.inr hHeld) (Or.inr ⟨by rfl, rfl⟩) ?_
      try simp only [Act.put, gqa, gqb, gqc]
      refine wpG_pure (i := 33) (oi := ⟨some 114, .pick (.tmp 99) (.const (.bool true)) (.tmp 113), 4, "l10_topic.go:200", #[⟨18, .data⟩, ⟨32, .data⟩], none⟩) (v := ?vg85) rfl (by kernel_rfl) (fun _ _ _ h => h) (Or.inr hHeld) (Or.inl ⟨by rfl, ?yg85⟩) ?_
      case yg85 => (intro wS _; go_simp <;> with_reducible rfl)
      try simp only [Act.put, gqa, gqb, gqc]
      refine wpG_pure (i := 34) (oi := ⟨some 115, .move (.tmp 114), 4, "l10_topic.go:200", #[⟨33, .data⟩, ⟨28, .chain⟩], none⟩) (v := ?vg86) rfl (by kernel_rfl) (fun _ _ _ h => h) (Or.inr hHeld) (Or.inl ⟨by rfl, ?yg86⟩) ?_
      case yg86 => (intro wS _; go_simp <;> with_reducible rfl)
      try simp only [Act.put, gqa, gqb, gqc]
      refine wpG_pure (i := 35) (oi := ⟨some 116, .move (.tmp 0), 24, "l10_topic.go:200", #[⟨34, .guard⟩], some (34, false)⟩) (v := undef) rfl (by kernel_rfl) (fun _ _ _ h => h) (Or.inr hHeld) (Or.inr ⟨by rfl, rfl⟩) ?_
      try simp only [Act.put, gqa, gqb, gqc]
      refine wpG_pure (i := 36) (oi := ⟨some 117, .move (.tmp 4), 3, "l10_topic.go:200", #[⟨34, .guard⟩], some (34, false)⟩) (v := undef) rfl (by kernel_rfl) (fun _ _ _ h => h) (Or.inr hHeld) (Or.inr ⟨by rfl, rfl⟩) ?_
      try simp only [Act.put, gqa, gqb, gqc]
      refine wpG_pure (i := 37) (oi := ⟨some 118, .slice 24 (.tmp 116) none (some (.tmp 117)) none, 24, "l10_topic.go:200", #[⟨35, .data⟩, ⟨36, .data⟩, ⟨34, .guard⟩], some (34, false)⟩) (v := undef) rfl (by kernel_rfl) (fun _ _ _ h => h) (Or.inr hHeld) (Or.inr ⟨by rfl, rfl⟩) ?_
      try simp only [Act.put, gqa, gqb, gqc]
      refine wpG_pure (i := 38) (oi := ⟨some 119, .fieldAddr 58 (.tmp 5) 1, 0, "l10_topic.go:200", #[⟨34, .guard⟩], some (34, false)⟩) (v := undef) rfl (by kernel_rfl) (fun _ _ _ h => h) (Or.inr hHeld) (Or.inr ⟨by rfl, rfl⟩) ?_
      try simp only [Act.put, gqa, gqb, gqc]
      refine wpG_pure (i := 39) (oi := ⟨some 120, .load 3 (.tmp 119), 3, "l10_topic.go:200", #[⟨38, .data⟩, ⟨34, .guard⟩], some (34, false)⟩) (v := undef) rfl (by kernel_rfl) (fun _ _ _ h => h) (Or.inr hHeld) (Or.inr ⟨by rfl, rfl⟩) ?_
      try simp only [Act.put, gqa, gqb, gqc]
      refine wpG_pure (i := 40) (oi := ⟨some 121, .fieldAddr 58 (.tmp 5) 0, 0, "l10_topic.go:200", #[⟨34, .guard⟩], some (34, false)⟩) (v := undef) rfl (by kernel_rfl) (fun _ _ _ h => h) (Or.inr hHeld) (Or.inr ⟨by rfl, rfl⟩) ?_
      try simp only [Act.put, gqa, gqb, gqc]
      refine wpG_pure (i := 41) (oi := ⟨some 122, .load 9 (.tmp 121), 9, "l10_topic.go:200", #[⟨40, .data⟩, ⟨34, .guard⟩], some (34, false)⟩) (v := undef) rfl (by kernel_rfl) (fun _ _ _ h => h) (Or.inr hHeld) (Or.inr ⟨by rfl, rfl⟩) ?_
      try simp only [Act.put, gqa, gqb, gqc]
      refine wpG_pure (i := 42) (oi := ⟨some 123, .call { callee := .value (.func 68), args := #[.tmp 118, .tmp 120, .tmp 122], argTypes := #[24, 3, 9] }, 3, "l10_topic.go:200", #[⟨37, .data⟩, ⟨39, .data⟩, ⟨41, .data⟩, ⟨34, .chain⟩, ⟨34, .guard⟩], some (34, false)⟩) (v := undef) rfl (by kernel_rfl) (fun _ _ _ h => h) (Or.inr hHeld) (Or.inr ⟨by rfl, rfl⟩) ?_
      try simp only [Act.put, gqa, gqb, gqc]
      refine wpG_pure (i := 43) (oi := ⟨some 124, .binOp .geq 3 (.tmp 123) (.const (.int .i64 0)) 3, 4, "l10_topic.go:200", #[⟨42, .data⟩, ⟨34, .guard⟩], some (34, false)⟩) (v := undef) rfl (by kernel_rfl) (fun _ _ _ h => h) (Or.inr hHeld) (Or.inr ⟨by rfl, rfl⟩) ?_
      try simp only [Act.put, gqa, gqb, gqc]
      refine wpG_pure (i := 44) (oi := ⟨some 125, .pick (.tmp 115) (.const (.bool true)) (.tmp 124), 4, "l10_topic.go:200", #[⟨34, .data⟩, ⟨43, .data⟩], none⟩) (v := ?vg96) rfl (by kernel_rfl) (fun _ _ _ h => h) (Or.inr hHeld) (Or.inl ⟨by rfl, ?yg96⟩) ?_
      case yg96 => (intro wS _; go_simp <;> with_reducible rfl)
      try simp only [Act.put, gqa, gqb, gqc]
      refine wpG_pure (i := 45) (oi := ⟨some 126, .move (.tmp 125), 4, "l10_topic.go:200", #[⟨44, .data⟩, ⟨42, .chain⟩], none⟩) (v := ?vg97) rfl (by kernel_rfl) (fun _ _ _ h => h) (Or.inr hHeld) (Or.inl ⟨by rfl, ?yg97⟩) ?_
      case yg97 => (intro wS _; go_simp <;> with_reducible rfl)
      try simp only [Act.put, gqa, gqb, gqc]
      refine wpG_pure (i := 46) (oi := ⟨some 127, .move (.tmp 0), 24, "l10_topic.go:200", #[⟨45, .guard⟩], some (45, false)⟩) (v := undef) rfl (by kernel_rfl) (fun _ _ _ h => h) (Or.inr hHeld) (Or.inr ⟨by rfl, rfl⟩) ?_
      try simp only [Act.put, gqa, gqb, gqc]
      refine wpG_pure (i := 47) (oi := ⟨some 128, .move (.tmp 4), 3, "l10_topic.go:200", #[⟨45, .guard⟩], some (45, false)⟩) (v := undef) rfl (by kernel_rfl) (fun _ _ _ h => h) (Or.inr hHeld) (Or.inr ⟨by rfl, rfl⟩) ?_
      try simp only [Act.put, gqa, gqb, gqc]
      refine wpG_pure (i := 48) (oi := ⟨some 129, .call { callee := .value (.func 81), args := #[.tmp 127, .tmp 128], argTypes := #[24, 3] }, 3, "l10_topic.go:200", #[⟨46, .data⟩, ⟨47, .data⟩, ⟨45, .chain⟩, ⟨45, .guard⟩], some (45, false)⟩) (v := undef) rfl (by kernel_rfl) (fun _ _ _ h => h) (Or.inr hHeld) (Or.inr ⟨by rfl, rfl⟩) ?_
      try simp only [Act.put, gqa, gqb, gqc]
      refine wpG_pure (i := 49) (oi := ⟨some 130, .binOp .gtr 3 (.tmp 129) (.const (.int .i64 6)) 3, 4, "l10_topic.go:200", #[⟨48, .data⟩, ⟨45, .guard⟩], some (45, false)⟩) (v := undef) rfl (by kernel_rfl) (fun _ _ _ h => h) (Or.inr hHeld) (Or.inr ⟨by rfl, rfl⟩) ?_
      try simp only [Act.put, gqa, gqb, gqc]
      refine wpG_pure (i := 50) (oi := ⟨some 131, .pick (.tmp 126) (.const (.bool true)) (.tmp 130), 4, "l10_topic.go:200", #[⟨45, .data⟩, ⟨49, .data⟩], none⟩) (v := ?vg102) rfl (by kernel_rfl) (fun _ _ _ h => h) (Or.inr hHeld) (Or.inl ⟨by rfl, ?yg102⟩) ?_
      case yg102 => (intro wS _; go_simp <;> with_reducible rfl)
      try simp only [Act.put, gqa, gqb, gqc]
      refine wpG_done (by kernel_rfl) ?_
      (go_wp2_with fail; go_ret; exact ⟨ret_bool HN.out.symm, HWD.out⟩)
    have q3 : ¬ (k : Int) ≤ x.2.1 := by omega
    have q4 : 0 ≤ x.2.1 := by omega
    have hut : x.2.1 < (t.length : Int) := by omega
    have HUY : Hid (upB t k = true) := Lib.hid (by rw [HUB.out]; simp [hu1, q4])
    obtain ⟨y, bp, offp, awp, cwp, hy, hap, _, p0, p1, p2, hsy, _, _⟩ := nd_cells H.out (show x.2.1.toNat < t.length by omega)
    simp only [Option.some.injEq, Addr.mk.injEq, and_true] at hap
    obtain ⟨rfl, rfl⟩ := hap
    have d1 : wb.cell? ⟨b, off + x.2.1.toNat * 3, none⟩ = some (.string y.1) := below_cellk HBW.out p0 hbl
    rw [HUY.out, nd_at hy, Bool.true_and] at HHD
    clear p0 p1 p2 hy hsy
    cases hmo : (y.1.toList == [35]) with
    | true =>
      have HN := Lib.hid (HNH.out (by simp only [beq_iff_eq] at hmo; rw [HHD.out, (is1 y.1 35).1 hmo]; simp [more]))
      refine wp_region_G [] (fun w' => w'.cell? ⟨wo.heap.size, 0, none⟩ = some (.string x.1) ∧ w'.cell? ⟨wo.heap.size, 1, none⟩ = some (.int .i64 x.2.1) ∧ w'.cell? ⟨b, off + x.2.1.toNat * 3, none⟩ = some (.string y.1)) (by kernel_rfl) ?_ (fun hHeld => ?_)
      · exact ⟨f0, f1, d1⟩
      refine wpG_pure (i := 0) (oi := ⟨some 81, .fieldAddr 58 (.tmp 5) 1, 0, "l10_topic.go:200", #[], none⟩) (v := ?vg103) rfl (by kernel_rfl) (fun _ _ _ h => h) (Or.inr hHeld) (Or.inl ⟨by rfl, ?yg103⟩) ?_
      case yg103 => (intro wS _; go_simp <;> with_reducible rfl)
      try simp only [Act.put, gqa, gqb, gqc]
      refine wpG_load (i := 1) (oi := ⟨some 82, .load 3 (.tmp 81), 3, "l10_topic.go:200", #[⟨0, .data⟩], none⟩) (v := ?vg104) [] rfl (by kernel_rfl) (fun _ _ _ h => h) hHeld (Or.inl ⟨by rfl, ?yg104⟩) ?_
      case yg104 => (intro wS hSw; (try dsimp only at hSw); go_simp <;> with_reducible rfl)
      try simp only [Act.put, gqa, gqb, gqc]
      refine wpG_pure (i := 2) (oi := ⟨some 83, .binOp .lss 3 (.tmp 82) (.const (.int .i64 0)) 3, 4, "l10_topic.go:200", #[⟨1, .data⟩], none⟩) (v := ?vg105) rfl (by kernel_rfl) (fun _ _ _ h => h) (Or.inr hHeld) (Or.inl ⟨by rfl, ?yg105⟩) ?_
      case yg105 => (intro wS _; go_simp <;> with_reducible rfl)
      try simp only [Act.put, gqa, gqb, gqc]
      refine wpG_pure (i := 3) (oi := ⟨some 84, .move (.tmp 83), 4, "l10_topic.go:200", #[⟨2, .data⟩], none⟩) (v := ?vg106) rfl (by kernel_rfl) (fun _ _ _ h => h) (Or.inr hHeld) (Or.inl ⟨by rfl, ?yg106⟩) ?_
      case yg106 => (intro wS _; go_simp <;> with_reducible rfl)
      try simp only [Act.put, gqa, gqb, gqc]
      refine wpG_pure (i := 4) (oi := ⟨some 85, .fieldAddr 58 (.tmp 5) 1, 0, "l10_topic.go:200", #[⟨3, .guard⟩], some (3, false)⟩) (v := ?vg107) rfl (by kernel_rfl) (fun _ _ _ h => h) (Or.inr hHeld) (Or.inl ⟨by rfl, ?yg107⟩) ?_
      case yg107 => (intro wS _; go_simp <;> with_reducible rfl)
      try simp only [Act.put, gqa, gqb, gqc]
      refine wpG_load (i := 5) (oi := ⟨some 86, .load 3 (.tmp 85), 3, "l10_topic.go:200", #[⟨4, .data⟩, ⟨3, .guard⟩], some (3, false)⟩) (v := ?vg108) [] rfl (by kernel_rfl) (fun _ _ _ h => h) hHeld (Or.inl ⟨by rfl, ?yg108⟩) ?_
      case yg108 => (intro wS hSw; (try dsimp only at hSw); go_simp <;> with_reducible rfl)
      try simp only [Act.put, gqa, gqb, gqc]
      refine wpG_pure (i := 6) (oi := ⟨some 87, .move (.tmp 4), 3, "l10_topic.go:200", #[⟨3, .guard⟩], some (3, false)⟩) (v := ?vg109) rfl (by kernel_rfl) (fun _ _ _ h => h) (Or.inr hHeld) (Or.inl ⟨by rfl, ?yg109⟩) ?_
      case yg109 => (intro wS _; go_simp <;> with_reducible rfl)
      try simp only [Act.put, gqa, gqb, gqc]
      refine wpG_pure (i := 7) (oi := ⟨some 88, .binOp .geq 3 (.tmp 86) (.tmp 87) 3, 4, "l10_topic.go:200", #[⟨5, .data⟩, ⟨6, .data⟩, ⟨3, .guard⟩], some (3, false)⟩) (v := ?vg110) rfl (by kernel_rfl) (fun _ _ _ h => h) (Or.inr hHeld) (Or.inl ⟨by rfl, ?yg110⟩) ?_
      case yg110 => (intro wS _; go_simp <;> with_reducible rfl)
      try simp only [Act.put, gqa, gqb, gqc]
      refine wpG_pure (i := 8) (oi := ⟨some 89, .pick (.tmp 84) (.const (.bool true)) (.tmp 88), 4, "l10_topic.go:200", #[⟨3, .data⟩, ⟨7, .data⟩], none⟩) (v := ?vg111) rfl (by kernel_rfl) (fun _ _ _ h => h) (Or.inr hHeld) (Or.inl ⟨by rfl, ?yg111⟩) ?_
      case yg111 => (intro wS _; go_simp <;> with_reducible rfl)
      try simp only [Act.put, gqa, gqb, gqc]
      refine wpG_pure (i := 9) (oi := ⟨some 90, .move (.tmp 89), 4, "l10_topic.go:200", #[⟨8, .data⟩, ⟨3, .chain⟩], none⟩) (v := ?vg112) rfl (by kernel_rfl) (fun _ _ _ h => h) (Or.inr hHeld) (Or.inl ⟨by rfl, ?yg112⟩) ?_
      case yg112 => (intro wS _; go_simp <;> with_reducible rfl)
      try simp only [Act.put, gqa, gqb, gqc]
      refine wpG_pure (i := 10) (oi := ⟨some 91, .move (.tmp 0), 24, "l10_topic.go:200", #[⟨9, .guard⟩], some (9, false)⟩) (v := ?vg113) rfl (by kernel_rfl) (fun _ _ _ h => h) (Or.inr hHeld) (Or.inl ⟨by rfl, ?yg113⟩) ?_
      case yg113 => (intro wS _; go_simp <;> with_reducible rfl)
      try simp only [Act.put, gqa, gqb, gqc]
      refine wpG_pure (i := 11) (oi := ⟨some 92, .fieldAddr 58 (.tmp 5) 1, 0, "l10_topic.go:200", #[⟨9, .guard⟩], some (9, false)⟩) (v := ?vg114) rfl (by kernel_rfl) (fun _ _ _ h => h) (Or.inr hHeld) (Or.inl ⟨by rfl, ?yg114⟩) ?_
      case yg114 => (intro wS _; go_simp <;> with_reducible rfl)
      try simp only [Act.put, gqa, gqb, gqc]
      refine wpG_load (i := 12) (oi := ⟨some 93, .load 3 (.tmp 92), 3, "l10_topic.go:200", #[⟨11, .data⟩, ⟨9, .guard⟩], some (9, false)⟩) (v := ?vg115) [] rfl (by kernel_rfl) (fun _ _ _ h => h) hHeld (Or.inl ⟨by rfl, ?yg115⟩) ?_
      case yg115 => (intro wS hSw; (try dsimp only at hSw); go_simp <;> with_reducible rfl)
      try simp only [Act.put, gqa, gqb, gqc]
      refine wpG_pure (i := 13) (oi := ⟨some 94, .indexAddr 24 (.tmp 91) (.tmp 93), 0, "l10_topic.go:200", #[⟨10, .data⟩, ⟨12, .data⟩, ⟨9, .guard⟩], some (9, false)⟩) (v := ?vg116) rfl (by kernel_rfl) (fun _ _ _ h => h) (Or.inr hHeld) (Or.inl ⟨by rfl, ?yg116⟩) ?_
      case yg116 => (intro wS _; go_simp <;> with_reducible rfl)
      try simp only [Act.put, gqa, gqb, gqc]
      refine wpG_pure (i := 14) (oi := ⟨some 95, .fieldAddr 58 (.tmp 94) 0, 0, "l10_topic.go:200", #[⟨13, .data⟩, ⟨9, .guard⟩], some (9, false)⟩) (v := ?vg117) rfl (by kernel_rfl) (fun _ _ _ h => h) (Or.inr hHeld) (Or.inl ⟨by rfl, ?yg117⟩) ?_
      case yg117 => (intro wS _; go_simp <;> with_reducible rfl)
      try simp only [Act.put, gqa, gqb, gqc]
      refine wpG_load (i := 15) (oi := ⟨some 96, .load 9 (.tmp 95), 9, "l10_topic.go:200", #[⟨14, .data⟩, ⟨9, .guard⟩], some (9, false)⟩) (v := ?vg118) [] rfl (by kernel_rfl) (fun _ _ _ h => h) hHeld (Or.inl ⟨by rfl, ?yg118⟩) ?_
      case yg118 => (intro wS hSw; (try dsimp only at hSw); go_simp <;> with_reducible rfl)
      try simp only [Act.put, gqa, gqb, gqc]
      refine wpG_pure (i := 16) (oi := ⟨some 97, .binOp .eql 9 (.tmp 96) (.const (.string { data := #[35] })) 9, 4, "l10_topic.go:200", #[⟨15, .data⟩, ⟨9, .guard⟩], some (9, false)⟩) (v := ?vg119) rfl (by kernel_rfl) (fun _ _ _ h => h) (Or.inr hHeld) (Or.inl ⟨by rfl, ?yg119⟩) ?_
      case yg119 => (intro wS _; go_simp <;> with_reducible rfl)
      try simp only [Act.put, gqa, gqb, gqc]
      refine wpG_pure (i := 17) (oi := ⟨some 98, .pick (.tmp 90) (.const (.bool true)) (.tmp 97), 4, "l10_topic.go:200", #[⟨9, .data⟩, ⟨16, .data⟩], none⟩) (v := ?vg120) rfl (by kernel_rfl) (fun _ _ _ h => h) (Or.inr hHeld) (Or.inl ⟨by rfl, ?yg120⟩) ?_
      case yg120 => (intro wS _; go_simp <;> with_reducible rfl)
      try simp only [Act.put, gqa, gqb, gqc]
      refine wpG_pure (i := 18) (oi := ⟨some 99, .move (.tmp 98), 4, "l10_topic.go:200", #[⟨17, .data⟩, ⟨9, .chain⟩], none⟩) (v := ?vg121) rfl (by kernel_rfl) (fun _ _ _ h => h) (Or.inr hHeld) (Or.inl ⟨by rfl, ?yg121⟩) ?_
      case yg121 => (intro wS _; go_simp <;> with_reducible rfl)
      try simp only [Act.put, gqa, gqb, gqc]
      refine wpG_pure (i := 19) (oi := ⟨some 100, .fieldAddr 58 (.tmp 5) 0, 0, "l10_topic.go:200", #[⟨18, .guard⟩], some (18, false)⟩) (v := undef) rfl (by kernel_rfl) (fun _ _ _ h => h) (Or.inr hHeld) (Or.inr ⟨by rfl, rfl⟩) ?_
      try simp only [Act.put, gqa, gqb, gqc]
      refine wpG_pure (i := 20) (oi := ⟨some 101, .load 9 (.tmp 100), 9, "l10_topic.go:200", #[⟨19, .data⟩, ⟨18, .guard⟩], some (18, false)⟩) (v := undef) rfl (by kernel_rfl) (fun _ _ _ h => h) (Or.inr hHeld) (Or.inr ⟨by rfl, rfl⟩) ?_
      try simp only [Act.put, gqa, gqb, gqc]
      refine wpG_pure (i := 21) (oi := ⟨some 102, .call { callee := .value (.func 58), args := #[.tmp 101], argTypes := #[9] }, 4, "l10_topic.go:200", #[⟨20, .data⟩, ⟨18, .chain⟩, ⟨18, .guard⟩], some (18, false)⟩) (v := undef) rfl (by kernel_rfl) (fun _ _ _ h => h) (Or.inr hHeld) (Or.inr ⟨by rfl, rfl⟩) ?_
      try simp only [Act.put, gqa, gqb, gqc]
      refine wpG_pure (i := 22) (oi := ⟨some 103, .unOp .not 4 (.tmp 102), 4, "l10_topic.go:200", #[⟨21, .data⟩, ⟨18, .guard⟩], some (18, false)⟩) (v := undef) rfl (by kernel_rfl) (fun _ _ _ h => h) (Or.inr hHeld) (Or.inr ⟨by rfl, rfl⟩) ?_
      try simp only [Act.put, gqa, gqb, gqc]
      refine wpG_pure (i := 23) (oi := ⟨some 104, .move (.tmp 103), 4, "l10_topic.go:200", #[⟨22, .data⟩, ⟨21, .chain⟩, ⟨18, .guard⟩], some (18, false)⟩) (v := undef) rfl (by kernel_rfl) (fun _ _ _ h => h) (Or.inr hHeld) (Or.inr ⟨by rfl, rfl⟩) ?_
      try simp only [Act.put, gqa, gqb, gqc]
      refine wpG_pure (i := 24) (oi := ⟨some 105, .fieldAddr 58 (.tmp 5) 0, 0, "l10_topic.go:200", #[⟨23, .guard⟩], some (23, true)⟩) (v := undef) rfl (by kernel_rfl) (fun _ _ _ h => h) (Or.inr hHeld) (Or.inr ⟨by rfl, rfl⟩) ?_
      try simp only [Act.put, gqa, gqb, gqc]
      refine wpG_pure (i := 25) (oi := ⟨some 106, .load 9 (.tmp 105), 9, "l10_topic.go:200", #[⟨24, .data⟩, ⟨23, .guard⟩], some (23, true)⟩) (v := undef) rfl (by kernel_rfl) (fun _ _ _ h => h) (Or.inr hHeld) (Or.inr ⟨by rfl, rfl⟩) ?_
      try simp only [Act.put, gqa, gqb, gqc]
      refine wpG_pure (i := 26) (oi := ⟨some 107, .binOp .neq 9 (.tmp 106) (.const (.string { data := #[43] })) 9, 4, "l10_topic.go:200", #[⟨25, .data⟩, ⟨23, .guard⟩], some (23, true)⟩) (v := undef) rfl (by kernel_rfl) (fun _ _ _ h => h) (Or.inr hHeld) (Or.inr ⟨by rfl, rfl⟩) ?_
      try simp only [Act.put, gqa, gqb, gqc]
      refine wpG_pure (i := 27) (oi := ⟨some 108, .pick (.tmp 104) (.tmp 107) (.const (.bool false)), 4, "l10_topic.go:200", #[⟨23, .data⟩, ⟨26, .data⟩, ⟨18, .guard⟩], some (18, false)⟩) (v := undef) rfl (by kernel_rfl) (fun _ _ _ h => h) (Or.inr hHeld) (Or.inr ⟨by rfl, rfl⟩) ?_
      try simp only [Act.put, gqa, gqb, gqc]
      refine wpG_pure (i := 28) (oi := ⟨some 109, .move (.tmp 108), 4, "l10_topic.go:200", #[⟨27, .data⟩, ⟨23, .chain⟩, ⟨18, .guard⟩], some (18, false)⟩) (v := undef) rfl (by kernel_rfl) (fun _ _ _ h => h) (Or.inr hHeld) (Or.inr ⟨by rfl, rfl⟩) ?_
      try simp only [Act.put, gqa, gqb, gqc]
      refine wpG_pure (i := 29) (oi := ⟨some 110, .fieldAddr 58 (.tmp 5) 0, 0, "l10_topic.go:200", #[⟨28, .guard⟩], some (28, true)⟩) (v := undef) rfl (by kernel_rfl) (fun _ _ _ h => h) (Or.inr hHeld) (Or.inr ⟨by rfl, rfl⟩) ?_
      try simp only [Act.put, gqa, gqb, gqc]
      refine wpG_pure (i := 30) (oi := ⟨some 111, .load 9 (.tmp 110), 9, "l10_topic.go:200", #[⟨29, .data⟩, ⟨28, .guard⟩], some (28, true)⟩) (v := undef) rfl (by kernel_rfl) (fun _ _ _ h => h) (Or.inr hHeld) (Or.inr ⟨by rfl, rfl⟩) ?_
      try simp only [Act.put, gqa, gqb, gqc]
      refine wpG_pure (i := 31) (oi := ⟨some 112, .binOp .neq 9 (.tmp 111) (.const (.string { data := #[35] })) 9, 4, "l10_topic.go:200", #[⟨30, .data⟩, ⟨28, .guard⟩], some (28, true)⟩) (v := undef) rfl (by kernel_rfl) (fun _ _ _ h => h) (Or.inr hHeld) (Or.inr ⟨by rfl, rfl⟩) ?_
      try simp only [Act.put, gqa, gqb, gqc]
      refine wpG_pure (i := 32) (oi := ⟨some 113, .pick (.tmp 109) (.tmp 112) (.const (.bool false)), 4, "l10_topic.go:200", #[⟨28, .data⟩, ⟨31, .data⟩, ⟨18, .guard⟩], some (18, false)⟩) (v := undef) rfl (by kernel_rfl) (fun _ _ _ h => h) (Or.inr hHeld) (Or.inr ⟨by rfl, rfl⟩) ?_
      try simp only [Act.put, gqa, gqb, gqc]
      refine wpG_pure (i := 33) (oi := ⟨some 114, .pick (.tmp 99) (.const (.bool true)) (.tmp 113), 4, "l10_topic.go:200", #[⟨18, .data⟩, ⟨32, .data⟩], none⟩) (v := ?vg136) rfl (by kernel_rfl) (fun _ _ _ h => h) (Or.inr hHeld) (Or.inl ⟨by rfl, ?yg136⟩) ?_
      case yg136 => (intro wS _; go_simp <;> with_reducible rfl)
      try simp only [Act.put, gqa, gqb, gqc]
      refine wpG_pure (i := 34) (oi := ⟨some 115, .move (.tmp 114), 4, "l10_topic.go:200", #[⟨33, .data⟩, ⟨28, .chain⟩], none⟩) (v := ?vg137) rfl (by kernel_rfl) (fun _ _ _ h => h) (Or.inr hHeld) (Or.inl ⟨by rfl, ?yg137⟩) ?_
      case yg137 => (intro wS _; go_simp <;> with_reducible rfl)
      try simp only [Act.put, gqa, gqb, gqc]
      refine wpG_pure (i := 35) (oi := ⟨some 116, .move (.tmp 0), 24, "l10_topic.go:200", #[⟨34, .guard⟩], some (34, false)⟩) (v := undef) rfl (by kernel_rfl) (fun _ _ _ h => h) (Or.inr hHeld) (Or.inr ⟨by rfl, rfl⟩) ?_
      try simp only [Act.put, gqa, gqb, gqc]
      refine wpG_pure (i := 36) (oi := ⟨some 117, .move (.tmp 4), 3, "l10_topic.go:200", #[⟨34, .guard⟩], some (34, false)⟩) (v := undef) rfl (by kernel_rfl) (fun _ _ _ h => h) (Or.inr hHeld) (Or.inr ⟨by rfl, rfl⟩) ?_
      try simp only [Act.put, gqa, gqb, gqc]
      refine wpG_pure (i := 37) (oi := ⟨some 118, .slice 24 (.tmp 116) none (some (.tmp 117)) none, 24, "l10_topic.go:200", #[⟨35, .data⟩, ⟨36, .data⟩, ⟨34, .guard⟩], some (34, false)⟩) (v := undef) rfl (by kernel_rfl) (fun _ _ _ h => h) (Or.inr hHeld) (Or.inr ⟨by rfl, rfl⟩) ?_
      try simp only [Act.put, gqa, gqb, gqc]
      refine wpG_pure (i := 38) (oi := ⟨some 119, .fieldAddr 58 (.tmp 5) 1, 0, "l10_topic.go:200", #[⟨34, .guard⟩], some (34, false)⟩) (v := undef) rfl (by kernel_rfl) (fun _ _ _ h => h) (Or.inr hHeld) (Or.inr ⟨by rfl, rfl⟩) ?_
      try simp only [Act.put, gqa, gqb, gqc]
      refine wpG_pure (i := 39) (oi := ⟨some 120, .load 3 (.tmp 119), 3, "l10_topic.go:200", #[⟨38, .data⟩, ⟨34, .guard⟩], some (34, false)⟩) (v := undef) rfl (by kernel_rfl) (fun _ _ _ h => h) (Or.inr hHeld) (Or.inr ⟨by rfl, rfl⟩) ?_
      try simp only [Act.put, gqa, gqb, gqc]
      refine wpG_pure (i := 40) (oi := ⟨some 121, .fieldAddr 58 (.tmp 5) 0, 0, "l10_topic.go:200", #[⟨34, .guard⟩], some (34, false)⟩) (v := undef) rfl (by kernel_rfl) (fun _ _ _ h => h) (Or.inr hHeld) (Or.inr ⟨by rfl, rfl⟩) ?_
      try simp only [Act.put, gqa, gqb, gqc]
      refine wpG_pure (i := 41) (oi := ⟨some 122, .load 9 (.tmp 121), 9, "l10_topic.go:200", #[⟨40, .data⟩, ⟨34, .guard⟩], some (34, false)⟩) (v := undef) rfl (by kernel_rfl) (fun _ _ _ h => h) (Or.inr hHeld) (Or.inr ⟨by rfl, rfl⟩) ?_
      try simp only [Act.put, gqa, gqb, gqc]
      refine wpG_pure (i := 42) (oi := ⟨some 123, .call { callee := .value (.func 68), args := #[.tmp 118, .tmp 120, .tmp 122], argTypes := #[24, 3, 9] }, 3, "l10_topic.go:200", #[⟨37, .data⟩, ⟨39, .data⟩, ⟨41, .data⟩, ⟨34, .chain⟩, ⟨34, .guard⟩], some (34, false)⟩) (v := undef) rfl (by kernel_rfl) (fun _ _ _ h => h) (Or.inr hHeld) (Or.inr ⟨by rfl, rfl⟩) ?_
      try simp only [Act.put, gqa, gqb, gqc]
      refine wpG_pure (i := 43) (oi := ⟨some 124, .binOp .geq 3 (.tmp 123) (.const (.int .i64 0)) 3, 4, "l10_topic.go:200", #[⟨42, .data⟩, ⟨34, .guard⟩], some (34, false)⟩) (v := undef) rfl (by kernel_rfl) (fun _ _ _ h => h) (Or.inr hHeld) (Or.inr ⟨by rfl, rfl⟩) ?_
      try simp only [Act.put, gqa, gqb, gqc]
      refine wpG_pure (i := 44) (oi := ⟨some 125, .pick (.tmp 115) (.const (.bool true)) (.tmp 124), 4, "l10_topic.go:200", #[⟨34, .data⟩, ⟨43, .data⟩], none⟩) (v := ?vg147) rfl (by kernel_rfl) (fun _ _ _ h => h) (Or.inr hHeld) (Or.inl ⟨by rfl, ?yg147⟩) ?_
      case yg147 => (intro wS _; go_simp <;> with_reducible rfl)
      try simp only [Act.put, gqa, gqb, gqc]
      refine wpG_pure (i := 45) (oi := ⟨some 126, .move (.tmp 125), 4, "l10_topic.go:200", #[⟨44, .data⟩, ⟨42, .chain⟩], none⟩) (v := ?vg148) rfl (by kernel_rfl) (fun _ _ _ h => h) (Or.inr hHeld) (Or.inl ⟨by rfl, ?yg148⟩) ?_
      case yg148 => (intro wS _; go_simp <;> with_reducible rfl)
      try simp only [Act.put, gqa, gqb, gqc]
      refine wpG_pure (i := 46) (oi := ⟨some 127, .move (.tmp 0), 24, "l10_topic.go:200", #[⟨45, .guard⟩], some (45, false)⟩) (v := undef) rfl (by kernel_rfl) (fun _ _ _ h => h) (Or.inr hHeld) (Or.inr ⟨by rfl, rfl⟩) ?_
      try simp only [Act.put, gqa, gqb, gqc]
      refine wpG_pure (i := 47) (oi := ⟨some 128, .move (.tmp 4), 3, "l10_topic.go:200", #[⟨45, .guard⟩], some (45, false)⟩) (v := undef) rfl (by kernel_rfl) (fun _ _ _ h => h) (Or.inr hHeld) (Or.inr ⟨by rfl, rfl⟩) ?_
      try simp only [Act.put, gqa, gqb, gqc]
      refine wpG_pure (i := 48) (oi := ⟨some 129, .call { callee := .value (.func 81), args := #[.tmp 127, .tmp 128], argTypes := #[24, 3] }, 3, "l10_topic.go:200", #[⟨46, .data⟩, ⟨47, .data⟩, ⟨45, .chain⟩, ⟨45, .guard⟩], some (45, false)⟩) (v := undef) rfl (by kernel_rfl) (fun _ _ _ h => h) (Or.inr hHeld) (Or.inr ⟨by rfl, rfl⟩) ?_
      try simp only [Act.put, gqa, gqb, gqc]
      refine wpG_pure (i := 49) (oi := ⟨some 130, .binOp .gtr 3 (.tmp 129) (.const (.int .i64 6)) 3, 4, "l10_topic.go:200", #[⟨48, .data⟩, ⟨45, .guard⟩], some (45, false)⟩) (v := undef) rfl (by kernel_rfl) (fun _ _ _ h => h) (Or.inr hHeld) (Or.inr ⟨by rfl, rfl⟩) ?_
      try simp only [Act.put, gqa, gqb, gqc]
      refine wpG_pure (i := 50) (oi := ⟨some 131, .pick (.tmp 126) (.const (.bool true)) (.tmp 130), 4, "l10_topic.go:200", #[⟨45, .data⟩, ⟨49, .data⟩], none⟩) (v := ?vg153) rfl (by kernel_rfl) (fun _ _ _ h => h) (Or.inr hHeld) (Or.inl ⟨by rfl, ?yg153⟩) ?_
      case yg153 => (intro wS _; go_simp <;> with_reducible rfl)
      try simp only [Act.put, gqa, gqb, gqc]
      refine wpG_done (by kernel_rfl) ?_
      (go_wp2_with fail; go_ret; exact ⟨ret_bool HN.out.symm, HWD.out⟩)
    | false =>
    have hnm : y.1 ≠ more := fun e => by simp only [beq_eq_false_iff_ne, ne_eq] at hmo; exact hmo ((is1 y.1 35).2 e)
    simp only [hnm, decide_false, Bool.not_false, Bool.true_and] at HHD
    clear hnm
    have HLV := Lib.hid (fun wx => spec_level x.1 wx hs2)
    have HUPS : Hid (Ups t (k + 1)) := Lib.hid fun j h1 h3 => by
      rcases Nat.lt_or_ge j k with h4 | h4
      · exact ups_of HA.out j h1 h4
      · obtain rfl : j = k := by omega
        exact upB_yes HUY.out
    have HKD := Lib.hid (fun (wx : World) (hb : Below w.heap.size w wx) => spec_kid (t.take k) _ _ _ x.2.1 x.1 wx (rd_take kTrieNode_ok rfl (kTrieNodeS_ok.later H.out hb) k hk) (by rw [List.length_take]; omega) hs2)
    have HDP := Lib.hid (fun (wx : World) (hb : Below w.heap.size w wx) => spec_deep t _ _ _ k wx (kTrieNodeS_ok.later H.out hb) hwt hlt HUPS.out)
    have HNHK : Hid (¬ kidR (t.take k) x.2.1 x.1 < 0 → R_GoodTrie t = false) := Lib.hid fun h => HNH.out (by rw [HHD.out]; simp [h])
    have HNHD : Hid (¬ depR t k k ≤ 6 → R_GoodTrie t = false) := Lib.hid fun h => HNH.out (by rw [HHD.out]; simp [h])
    clear HUPS
    cases hlv : lvl x.1 with
    | true =>
      have HLL := Lib.hid hlv
      have HHY : Hid (kidR (t.take k) x.2.1 x.1 < 0 → depR t k k ≤ 6 → headB t k = true) := Lib.hid fun h1 h2 => by rw [HHD.out]; unfold lvlOK; simp [hlv, h1, h2]
      clear hlv HHD HNH
      by_cases hkd : kidR (t.take k) x.2.1 x.1 < 0
      case neg =>
        have HN := Lib.hid (HNHK.out hkd)
        generalize kidR (t.take k) x.2.1 x.1 = kr at *
        have q8 : (0 : Int) ≤ kr := by omega
        clear hkd
        refine wp_region_G [42] (fun w' => w'.cell? ⟨wo.heap.size, 0, none⟩ = some (.string x.1) ∧ w'.cell? ⟨wo.heap.size, 1, none⟩ = some (.int .i64 x.2.1) ∧ w'.cell? ⟨b, off + x.2.1.toNat * 3, none⟩ = some (.string y.1)) (by kernel_rfl) ?_ (fun hHeld => ?_)
        · exact ⟨f0, f1, d1⟩
        refine wpG_pure (i := 0) (oi := ⟨some 81, .fieldAddr 58 (.tmp 5) 1, 0, "l10_topic.go:200", #[], none⟩) (v := ?vg154) rfl (by kernel_rfl) (fun _ _ _ h => h) (Or.inr hHeld) (Or.inl ⟨by rfl, ?yg154⟩) ?_
        case yg154 => (intro wS _; go_simp <;> with_reducible rfl)
        try simp only [Act.put, gqa, gqb, gqc]
        refine wpG_load (i := 1) (oi := ⟨some 82, .load 3 (.tmp 81), 3, "l10_topic.go:200", #[⟨0, .data⟩], none⟩) (v := ?vg155) [[42, 34, 33, 18, 9, 3, 2, 1]] rfl (by kernel_rfl) (fun _ _ _ h => h) hHeld (Or.inl ⟨by rfl, ?yg155⟩) ?_
        case yg155 => (intro wS hSw; (try dsimp only at hSw); go_simp <;> with_reducible rfl)
        try simp only [Act.put, gqa, gqb, gqc]
        refine wpG_pure (i := 2) (oi := ⟨some 83, .binOp .lss 3 (.tmp 82) (.const (.int .i64 0)) 3, 4, "l10_topic.go:200", #[⟨1, .data⟩], none⟩) (v := ?vg156) rfl (by kernel_rfl) (fun _ _ _ h => h) (Or.inr hHeld) (Or.inl ⟨by rfl, ?yg156⟩) ?_
        case yg156 => (intro wS _; go_simp <;> with_reducible rfl)
        try simp only [Act.put, gqa, gqb, gqc]
        refine wpG_pure (i := 3) (oi := ⟨some 84, .move (.tmp 83), 4, "l10_topic.go:200", #[⟨2, .data⟩], none⟩) (v := ?vg157) rfl (by kernel_rfl) (fun _ _ _ h => h) (Or.inr hHeld) (Or.inl ⟨by rfl, ?yg157⟩) ?_
        case yg157 => (intro wS _; go_simp <;> with_reducible rfl)
        try simp only [Act.put, gqa, gqb, gqc]
        refine wpG_pure (i := 4) (oi := ⟨some 85, .fieldAddr 58 (.tmp 5) 1, 0, "l10_topic.go:200", #[⟨3, .guard⟩], some (3, false)⟩) (v := ?vg158) rfl (by kernel_rfl) (fun _ _ _ h => h) (Or.inr hHeld) (Or.inl ⟨by rfl, ?yg158⟩) ?_
        case yg158 => (intro wS _; go_simp <;> with_reducible rfl)
        try simp only [Act.put, gqa, gqb, gqc]
        refine wpG_load (i := 5) (oi := ⟨some 86, .load 3 (.tmp 85), 3, "l10_topic.go:200", #[⟨4, .data⟩, ⟨3, .guard⟩], some (3, false)⟩) (v := ?vg159) [[42, 34, 33, 18, 9, 8, 7, 5]] rfl (by kernel_rfl) (fun _ _ _ h => h) hHeld (Or.inl ⟨by rfl, ?yg159⟩) ?_
        case yg159 => (intro wS hSw; (try dsimp only at hSw); go_simp <;> with_reducible rfl)
        try simp only [Act.put, gqa, gqb, gqc]
        refine wpG_pure (i := 6) (oi := ⟨some 87, .move (.tmp 4), 3, "l10_topic.go:200", #[⟨3, .guard⟩], some (3, false)⟩) (v := ?vg160) rfl (by kernel_rfl) (fun _ _ _ h => h) (Or.inr hHeld) (Or.inl ⟨by rfl, ?yg160⟩) ?_
        case yg160 => (intro wS _; go_simp <;> with_reducible rfl)
        try simp only [Act.put, gqa, gqb, gqc]
        refine wpG_pure (i := 7) (oi := ⟨some 88, .binOp .geq 3 (.tmp 86) (.tmp 87) 3, 4, "l10_topic.go:200", #[⟨5, .data⟩, ⟨6, .data⟩, ⟨3, .guard⟩], some (3, false)⟩) (v := ?vg161) rfl (by kernel_rfl) (fun _ _ _ h => h) (Or.inr hHeld) (Or.inl ⟨by rfl, ?yg161⟩) ?_
        case yg161 => (intro wS _; go_simp <;> with_reducible rfl)
        try simp only [Act.put, gqa, gqb, gqc]
        refine wpG_pure (i := 8) (oi := ⟨some 89, .pick (.tmp 84) (.const (.bool true)) (.tmp 88), 4, "l10_topic.go:200", #[⟨3, .data⟩, ⟨7, .data⟩], none⟩) (v := ?vg162) rfl (by kernel_rfl) (fun _ _ _ h => h) (Or.inr hHeld) (Or.inl ⟨by rfl, ?yg162⟩) ?_
        case yg162 => (intro wS _; go_simp <;> with_reducible rfl)
        try simp only [Act.put, gqa, gqb, gqc]
        refine wpG_pure (i := 9) (oi := ⟨some 90, .move (.tmp 89), 4, "l10_topic.go:200", #[⟨8, .data⟩, ⟨3, .chain⟩], none⟩) (v := ?vg163) rfl (by kernel_rfl) (fun _ _ _ h => h) (Or.inr hHeld) (Or.inl ⟨by rfl, ?yg163⟩) ?_
        case yg163 => (intro wS _; go_simp <;> with_reducible rfl)
        try simp only [Act.put, gqa, gqb, gqc]
        refine wpG_pure (i := 10) (oi := ⟨some 91, .move (.tmp 0), 24, "l10_topic.go:200", #[⟨9, .guard⟩], some (9, false)⟩) (v := ?vg164) rfl (by kernel_rfl) (fun _ _ _ h => h) (Or.inr hHeld) (Or.inl ⟨by rfl, ?yg164⟩) ?_
        case yg164 => (intro wS _; go_simp <;> with_reducible rfl)
        try simp only [Act.put, gqa, gqb, gqc]
        refine wpG_pure (i := 11) (oi := ⟨some 92, .fieldAddr 58 (.tmp 5) 1, 0, "l10_topic.go:200", #[⟨9, .guard⟩], some (9, false)⟩) (v := ?vg165) rfl (by kernel_rfl) (fun _ _ _ h => h) (Or.inr hHeld) (Or.inl ⟨by rfl, ?yg165⟩) ?_
        case yg165 => (intro wS _; go_simp <;> with_reducible rfl)
        try simp only [Act.put, gqa, gqb, gqc]
        refine wpG_load (i := 12) (oi := ⟨some 93, .load 3 (.tmp 92), 3, "l10_topic.go:200", #[⟨11, .data⟩, ⟨9, .guard⟩], some (9, false)⟩) (v := ?vg166) [[42, 34, 33, 18, 17, 16, 15, 14, 13, 12]] rfl (by kernel_rfl) (fun _ _ _ h => h) hHeld (Or.inl ⟨by rfl, ?yg166⟩) ?_
        case yg166 => (intro wS hSw; (try dsimp only at hSw); go_simp <;> with_reducible rfl)
        try simp only [Act.put, gqa, gqb, gqc]
        refine wpG_pure (i := 13) (oi := ⟨some 94, .indexAddr 24 (.tmp 91) (.tmp 93), 0, "l10_topic.go:200", #[⟨10, .data⟩, ⟨12, .data⟩, ⟨9, .guard⟩], some (9, false)⟩) (v := ?vg167) rfl (by kernel_rfl) (fun _ _ _ h => h) (Or.inr hHeld) (Or.inl ⟨by rfl, ?yg167⟩) ?_
        case yg167 => (intro wS _; go_simp <;> with_reducible rfl)
        try simp only [Act.put, gqa, gqb, gqc]
        refine wpG_pure (i := 14) (oi := ⟨some 95, .fieldAddr 58 (.tmp 94) 0, 0, "l10_topic.go:200", #[⟨13, .data⟩, ⟨9, .guard⟩], some (9, false)⟩) (v := ?vg168) rfl (by kernel_rfl) (fun _ _ _ h => h) (Or.inr hHeld) (Or.inl ⟨by rfl, ?yg168⟩) ?_
        case yg168 => (intro wS _; go_simp <;> with_reducible rfl)
        try simp only [Act.put, gqa, gqb, gqc]
        refine wpG_load (i := 15) (oi := ⟨some 96, .load 9 (.tmp 95), 9, "l10_topic.go:200", #[⟨14, .data⟩, ⟨9, .guard⟩], some (9, false)⟩) (v := ?vg169) [[42, 34, 33, 18, 17, 16, 15]] rfl (by kernel_rfl) (fun _ _ _ h => h) hHeld (Or.inl ⟨by rfl, ?yg169⟩) ?_
        case yg169 => (intro wS hSw; (try dsimp only at hSw); go_simp <;> with_reducible rfl)
        try simp only [Act.put, gqa, gqb, gqc]
        refine wpG_pure (i := 16) (oi := ⟨some 97, .binOp .eql 9 (.tmp 96) (.const (.string { data := #[35] })) 9, 4, "l10_topic.go:200", #[⟨15, .data⟩, ⟨9, .guard⟩], some (9, false)⟩) (v := ?vg170) rfl (by kernel_rfl) (fun _ _ _ h => h) (Or.inr hHeld) (Or.inl ⟨by rfl, ?yg170⟩) ?_
        case yg170 => (intro wS _; go_simp <;> with_reducible rfl)
        try simp only [Act.put, gqa, gqb, gqc]
        refine wpG_pure (i := 17) (oi := ⟨some 98, .pick (.tmp 90) (.const (.bool true)) (.tmp 97), 4, "l10_topic.go:200", #[⟨9, .data⟩, ⟨16, .data⟩], none⟩) (v := ?vg171) rfl (by kernel_rfl) (fun _ _ _ h => h) (Or.inr hHeld) (Or.inl ⟨by rfl, ?yg171⟩) ?_
        case yg171 => (intro wS _; go_simp <;> with_reducible rfl)
        try simp only [Act.put, gqa, gqb, gqc]
        refine wpG_pure (i := 18) (oi := ⟨some 99, .move (.tmp 98), 4, "l10_topic.go:200", #[⟨17, .data⟩, ⟨9, .chain⟩], none⟩) (v := ?vg172) rfl (by kernel_rfl) (fun _ _ _ h => h) (Or.inr hHeld) (Or.inl ⟨by rfl, ?yg172⟩) ?_
        case yg172 => (intro wS _; go_simp <;> with_reducible rfl)
        try simp only [Act.put, gqa, gqb, gqc]
        refine wpG_pure (i := 19) (oi := ⟨some 100, .fieldAddr 58 (.tmp 5) 0, 0, "l10_topic.go:200", #[⟨18, .guard⟩], some (18, false)⟩) (v := ?vg173) rfl (by kernel_rfl) (fun _ _ _ h => h) (Or.inr hHeld) (Or.inl ⟨by rfl, ?yg173⟩) ?_
        case yg173 => (intro wS _; go_simp <;> with_reducible rfl)
        try simp only [Act.put, gqa, gqb, gqc]
        refine wpG_load (i := 20) (oi := ⟨some 101, .load 9 (.tmp 100), 9, "l10_topic.go:200", #[⟨19, .data⟩, ⟨18, .guard⟩], some (18, false)⟩) (v := ?vg174) [[42, 34, 28, 23, 21, 20]] rfl (by kernel_rfl) (fun _ _ _ h => h) hHeld (Or.inl ⟨by rfl, ?yg174⟩) ?_
        case yg174 => (intro wS hSw; (try dsimp only at hSw); go_simp <;> with_reducible rfl)
        try simp only [Act.put, gqa, gqb, gqc]
        refine wpG_one (i := 21) (o := ⟨some 102, .call { callee := .value (.func 58), args := #[.tmp 101], argTypes := #[9] }, 4, "l10_topic.go:200", #[⟨20, .data⟩, ⟨18, .chain⟩, ⟨18, .guard⟩], some (18, false)⟩) rfl (by kernel_rfl) (fun K hK => ?_)
        go_simp
        refine (HLV.out _).mono ?_
        rw [HLL.out]
        rintro e w' ⟨rfl, rfl⟩
        refine hK.out _ _ (Or.inr ?khHeld175) (fun hHeld175S => ?_)
        case khHeld175 => exact ⟨f0, f1, d1⟩
        have hHeld175 := hHeld175S.held (by kernel_rfl)
        clear hK K
        try simp only [Act.put, gqa, gqb, gqc]
        refine wpG_pure (i := 22) (oi := ⟨some 103, .unOp .not 4 (.tmp 102), 4, "l10_topic.go:200", #[⟨21, .data⟩, ⟨18, .guard⟩], some (18, false)⟩) (v := ?vg176) rfl (by kernel_rfl) (fun _ _ _ h => h) (Or.inr hHeld175) (Or.inl ⟨by rfl, ?yg176⟩) ?_
        case yg176 => (intro wS _; go_simp <;> with_reducible rfl)
        try simp only [Act.put, gqa, gqb, gqc]
        refine wpG_pure (i := 23) (oi := ⟨some 104, .move (.tmp 103), 4, "l10_topic.go:200", #[⟨22, .data⟩, ⟨21, .chain⟩, ⟨18, .guard⟩], some (18, false)⟩) (v := ?vg177) rfl (by kernel_rfl) (fun _ _ _ h => h) (Or.inr hHeld175) (Or.inl ⟨by rfl, ?yg177⟩) ?_
        case yg177 => (intro wS _; go_simp <;> with_reducible rfl)
        try simp only [Act.put, gqa, gqb, gqc]
        refine wpG_pure (i := 24) (oi := ⟨some 105, .fieldAddr 58 (.tmp 5) 0, 0, "l10_topic.go:200", #[⟨23, .guard⟩], some (23, true)⟩) (v := undef) rfl (by kernel_rfl) (fun _ _ _ h => h) (Or.inr hHeld175) (Or.inr ⟨by rfl, rfl⟩) ?_
        try simp only [Act.put, gqa, gqb, gqc]
        refine wpG_pure (i := 25) (oi := ⟨some 106, .load 9 (.tmp 105), 9, "l10_topic.go:200", #[⟨24, .data⟩, ⟨23, .guard⟩], some (23, true)⟩) (v := undef) rfl (by kernel_rfl) (fun _ _ _ h => h) (Or.inr hHeld175) (Or.inr ⟨by rfl, rfl⟩) ?_
        try simp only [Act.put, gqa, gqb, gqc]
        refine wpG_pure (i := 26) (oi := ⟨some 107, .binOp .neq 9 (.tmp 106) (.const (.string { data := #[43] })) 9, 4, "l10_topic.go:200", #[⟨25, .data⟩, ⟨23, .guard⟩], some (23, true)⟩) (v := undef) rfl (by kernel_rfl) (fun _ _ _ h => h) (Or.inr hHeld175) (Or.inr ⟨by rfl, rfl⟩) ?_
        try simp only [Act.put, gqa, gqb, gqc]
        refine wpG_pure (i := 27) (oi := ⟨some 108, .pick (.tmp 104) (.tmp 107) (.const (.bool false)), 4, "l10_topic.go:200", #[⟨23, .data⟩, ⟨26, .data⟩, ⟨18, .guard⟩], some (18, false)⟩) (v := ?vg181) rfl (by kernel_rfl) (fun _ _ _ h => h) (Or.inr hHeld175) (Or.inl ⟨by rfl, ?yg181⟩) ?_
        case yg181 => (intro wS _; go_simp <;> with_reducible rfl)
        try simp only [Act.put, gqa, gqb, gqc]
        refine wpG_pure (i := 28) (oi := ⟨some 109, .move (.tmp 108), 4, "l10_topic.go:200", #[⟨27, .data⟩, ⟨23, .chain⟩, ⟨18, .guard⟩], some (18, false)⟩) (v := ?vg182) rfl (by kernel_rfl) (fun _ _ _ h => h) (Or.inr hHeld175) (Or.inl ⟨by rfl, ?yg182⟩) ?_
        case yg182 => (intro wS _; go_simp <;> with_reducible rfl)
        try simp only [Act.put, gqa, gqb, gqc]
        refine wpG_pure (i := 29) (oi := ⟨some 110, .fieldAddr 58 (.tmp 5) 0, 0, "l10_topic.go:200", #[⟨28, .guard⟩], some (28, true)⟩) (v := undef) rfl (by kernel_rfl) (fun _ _ _ h => h) (Or.inr hHeld175) (Or.inr ⟨by rfl, rfl⟩) ?_
        try simp only [Act.put, gqa, gqb, gqc]
        refine wpG_pure (i := 30) (oi := ⟨some 111, .load 9 (.tmp 110), 9, "l10_topic.go:200", #[⟨29, .data⟩, ⟨28, .guard⟩], some (28, true)⟩) (v := undef) rfl (by kernel_rfl) (fun _ _ _ h => h) (Or.inr hHeld175) (Or.inr ⟨by rfl, rfl⟩) ?_
        try simp only [Act.put, gqa, gqb, gqc]
        refine wpG_pure (i := 31) (oi := ⟨some 112, .binOp .neq 9 (.tmp 111) (.const (.string { data := #[35] })) 9, 4, "l10_topic.go:200", #[⟨30, .data⟩, ⟨28, .guard⟩], some (28, true)⟩) (v := undef) rfl (by kernel_rfl) (fun _ _ _ h => h) (Or.inr hHeld175) (Or.inr ⟨by rfl, rfl⟩) ?_
        try simp only [Act.put, gqa, gqb, gqc]
        refine wpG_pure (i := 32) (oi := ⟨some 113, .pick (.tmp 109) (.tmp 112) (.const (.bool false)), 4, "l10_topic.go:200", #[⟨28, .data⟩, ⟨31, .data⟩, ⟨18, .guard⟩], some (18, false)⟩) (v := ?vg186) rfl (by kernel_rfl) (fun _ _ _ h => h) (Or.inr hHeld175) (Or.inl ⟨by rfl, ?yg186⟩) ?_
        case yg186 => (intro wS _; go_simp <;> with_reducible rfl)
        try simp only [Act.put, gqa, gqb, gqc]
        refine wpG_pure (i := 33) (oi := ⟨some 114, .pick (.tmp 99) (.const (.bool true)) (.tmp 113), 4, "l10_topic.go:200", #[⟨18, .data⟩, ⟨32, .data⟩], none⟩) (v := ?vg187) rfl (by kernel_rfl) (fun _ _ _ h => h) (Or.inr hHeld175) (Or.inl ⟨by rfl, ?yg187⟩) ?_
        case yg187 => (intro wS _; go_simp <;> with_reducible rfl)
        try simp only [Act.put, gqa, gqb, gqc]
        refine wpG_pure (i := 34) (oi := ⟨some 115, .move (.tmp 114), 4, "l10_topic.go:200", #[⟨33, .data⟩, ⟨28, .chain⟩], none⟩) (v := ?vg188) rfl (by kernel_rfl) (fun _ _ _ h => h) (Or.inr hHeld175) (Or.inl ⟨by rfl, ?yg188⟩) ?_
        case yg188 => (intro wS _; go_simp <;> with_reducible rfl)
        try simp only [Act.put, gqa, gqb, gqc]
        refine wpG_pure (i := 35) (oi := ⟨some 116, .move (.tmp 0), 24, "l10_topic.go:200", #[⟨34, .guard⟩], some (34, false)⟩) (v := ?vg189) rfl (by kernel_rfl) (fun _ _ _ h => h) (Or.inr hHeld175) (Or.inl ⟨by rfl, ?yg189⟩) ?_
        case yg189 => (intro wS _; go_simp <;> with_reducible rfl)
        try simp only [Act.put, gqa, gqb, gqc]
        refine wpG_pure (i := 36) (oi := ⟨some 117, .move (.tmp 4), 3, "l10_topic.go:200", #[⟨34, .guard⟩], some (34, false)⟩) (v := ?vg190) rfl (by kernel_rfl) (fun _ _ _ h => h) (Or.inr hHeld175) (Or.inl ⟨by rfl, ?yg190⟩) ?_
        case yg190 => (intro wS _; go_simp <;> with_reducible rfl)
        try simp only [Act.put, gqa, gqb, gqc]
        refine wpG_pure (i := 37) (oi := ⟨some 118, .slice 24 (.tmp 116) none (some (.tmp 117)) none, 24, "l10_topic.go:200", #[⟨35, .data⟩, ⟨36, .data⟩, ⟨34, .guard⟩], some (34, false)⟩) (v := ?vg191) rfl (by kernel_rfl) (fun _ _ _ h => h) (Or.inr hHeld175) (Or.inl ⟨by rfl, ?yg191⟩) ?_
        case yg191 => (intro wS _; go_simp <;> with_reducible rfl)
        try simp only [Act.put, gqa, gqb, gqc]
        refine wpG_pure (i := 38) (oi := ⟨some 119, .fieldAddr 58 (.tmp 5) 1, 0, "l10_topic.go:200", #[⟨34, .guard⟩], some (34, false)⟩) (v := ?vg192) rfl (by kernel_rfl) (fun _ _ _ h => h) (Or.inr hHeld175) (Or.inl ⟨by rfl, ?yg192⟩) ?_
        case yg192 => (intro wS _; go_simp <;> with_reducible rfl)
        try simp only [Act.put, gqa, gqb, gqc]
        refine wpG_load (i := 39) (oi := ⟨some 120, .load 3 (.tmp 119), 3, "l10_topic.go:200", #[⟨38, .data⟩, ⟨34, .guard⟩], some (34, false)⟩) (v := ?vg193) [[42, 39]] rfl (by kernel_rfl) (fun _ _ _ h => h) hHeld175 (Or.inl ⟨by rfl, ?yg193⟩) ?_
        case yg193 => (intro wS hSw; (try dsimp only at hSw); go_simp <;> with_reducible rfl)
        try simp only [Act.put, gqa, gqb, gqc]
        refine wpG_pure (i := 40) (oi := ⟨some 121, .fieldAddr 58 (.tmp 5) 0, 0, "l10_topic.go:200", #[⟨34, .guard⟩], some (34, false)⟩) (v := ?vg194) rfl (by kernel_rfl) (fun _ _ _ h => h) (Or.inr hHeld175) (Or.inl ⟨by rfl, ?yg194⟩) ?_
        case yg194 => (intro wS _; go_simp <;> with_reducible rfl)
        try simp only [Act.put, gqa, gqb, gqc]
        refine wpG_load (i := 41) (oi := ⟨some 122, .load 9 (.tmp 121), 9, "l10_topic.go:200", #[⟨40, .data⟩, ⟨34, .guard⟩], some (34, false)⟩) (v := ?vg195) [[42, 41]] rfl (by kernel_rfl) (fun _ _ _ h => h) hHeld175 (Or.inl ⟨by rfl, ?yg195⟩) ?_
        case yg195 => (intro wS hSw; (try dsimp only at hSw); go_simp <;> with_reducible rfl)
        try simp only [Act.put, gqa, gqb, gqc]
        refine wpG_one (i := 42) (o := ⟨some 123, .call { callee := .value (.func 68), args := #[.tmp 118, .tmp 120, .tmp 122], argTypes := #[24, 3, 9] }, 3, "l10_topic.go:200", #[⟨37, .data⟩, ⟨39, .data⟩, ⟨41, .data⟩, ⟨34, .chain⟩, ⟨34, .guard⟩], some (34, false)⟩) rfl (by kernel_rfl) (fun K hK => ?_)
        go_simp
        refine (HKD.out _ HWD.out).mono ?_
        rintro e w3 ⟨rfl, hb3⟩
        have HB3 := Lib.hid (HWD.out.trans (hb3.mono HWD.out.size)); have HC3 := Lib.hid (HWC.out.trans (hb3.mono hzd)); clear hb3
        refine hK.out _ _ (Or.inl (by kernel_rfl)) (fun _ => ?_)
        clear hK K
        try simp only [Act.put, gqa, gqb, gqc]
        refine wpG_pure (i := 43) (oi := ⟨some 124, .binOp .geq 3 (.tmp 123) (.const (.int .i64 0)) 3, 4, "l10_topic.go:200", #[⟨42, .data⟩, ⟨34, .guard⟩], some (34, false)⟩) (v := ?vg197) rfl (by kernel_rfl) (fun _ _ _ h => h) (Or.inl (by kernel_rfl)) (Or.inl ⟨by rfl, ?yg197⟩) ?_
        case yg197 => (intro wS _; go_simp <;> with_reducible rfl)
        try simp only [Act.put, gqa, gqb, gqc]
        refine wpG_pure (i := 44) (oi := ⟨some 125, .pick (.tmp 115) (.const (.bool true)) (.tmp 124), 4, "l10_topic.go:200", #[⟨34, .data⟩, ⟨43, .data⟩], none⟩) (v := ?vg198) rfl (by kernel_rfl) (fun _ _ _ h => h) (Or.inl (by kernel_rfl)) (Or.inl ⟨by rfl, ?yg198⟩) ?_
        case yg198 => (intro wS _; go_simp <;> with_reducible rfl)
        try simp only [Act.put, gqa, gqb, gqc]
        refine wpG_pure (i := 45) (oi := ⟨some 126, .move (.tmp 125), 4, "l10_topic.go:200", #[⟨44, .data⟩, ⟨42, .chain⟩], none⟩) (v := ?vg199) rfl (by kernel_rfl) (fun _ _ _ h => h) (Or.inl (by kernel_rfl)) (Or.inl ⟨by rfl, ?yg199⟩) ?_
        case yg199 => (intro wS _; go_simp <;> with_reducible rfl)
        try simp only [Act.put, gqa, gqb, gqc]
        refine wpG_pure (i := 46) (oi := ⟨some 127, .move (.tmp 0), 24, "l10_topic.go:200", #[⟨45, .guard⟩], some (45, false)⟩) (v := undef) rfl (by kernel_rfl) (fun _ _ _ h => h) (Or.inl (by kernel_rfl)) (Or.inr ⟨by rfl, rfl⟩) ?_
        try simp only [Act.put, gqa, gqb, gqc]
        refine wpG_pure (i := 47) (oi := ⟨some 128, .move (.tmp 4), 3, "l10_topic.go:200", #[⟨45, .guard⟩], some (45, false)⟩) (v := undef) rfl (by kernel_rfl) (fun _ _ _ h => h) (Or.inl (by kernel_rfl)) (Or.inr ⟨by rfl, rfl⟩) ?_
        try simp only [Act.put, gqa, gqb, gqc]
        refine wpG_pure (i := 48) (oi := ⟨some 129, .call { callee := .value (.func 81), args := #[.tmp 127, .tmp 128], argTypes := #[24, 3] }, 3, "l10_topic.go:200", #[⟨46, .data⟩, ⟨47, .data⟩, ⟨45, .chain⟩, ⟨45, .guard⟩], some (45, false)⟩) (v := undef) rfl (by kernel_rfl) (fun _ _ _ h => h) (Or.inl (by kernel_rfl)) (Or.inr ⟨by rfl, rfl⟩) ?_
        try simp only [Act.put, gqa, gqb, gqc]
        refine wpG_pure (i := 49) (oi := ⟨some 130, .binOp .gtr 3 (.tmp 129) (.const (.int .i64 6)) 3, 4, "l10_topic.go:200", #[⟨48, .data⟩, ⟨45, .guard⟩], some (45, false)⟩) (v := undef) rfl (by kernel_rfl) (fun _ _ _ h => h) (Or.inl (by kernel_rfl)) (Or.inr ⟨by rfl, rfl⟩) ?_
        try simp only [Act.put, gqa, gqb, gqc]
        refine wpG_pure (i := 50) (oi := ⟨some 131, .pick (.tmp 126) (.const (.bool true)) (.tmp 130), 4, "l10_topic.go:200", #[⟨45, .data⟩, ⟨49, .data⟩], none⟩) (v := ?vg204) rfl (by kernel_rfl) (fun _ _ _ h => h) (Or.inl (by kernel_rfl)) (Or.inl ⟨by rfl, ?yg204⟩) ?_
        case yg204 => (intro wS _; go_simp <;> with_reducible rfl)
        try simp only [Act.put, gqa, gqb, gqc]
        refine wpG_done (by kernel_rfl) ?_
        (go_wp2_with fail; go_ret; exact ⟨ret_bool HN.out.symm, HB3.out⟩)
      have HHK := Lib.hid hkd
      generalize kidR (t.take k) x.2.1 x.1 = kr at *
      have q8 : ¬ (0 : Int) ≤ kr := by omega
      clear hkd
      by_cases hd6 : depR t k k ≤ 6
      case neg =>
        have HN := Lib.hid (HNHD.out hd6)
        generalize depR t k k = dp at *
        have q9 : (6 : Int) < (dp : Int) := by omega
        clear hd6
        refine wp_region_G [42] (fun w' => w'.cell? ⟨wo.heap.size, 0, none⟩ = some (.string x.1) ∧ w'.cell? ⟨wo.heap.size, 1, none⟩ = some (.int .i64 x.2.1) ∧ w'.cell? ⟨b, off + x.2.1.toNat * 3, none⟩ = some (.string y.1)) (by kernel_rfl) ?_ (fun hHeld => ?_)
        · exact ⟨f0, f1, d1⟩
        refine wpG_pure (i := 0) (oi := ⟨some 81, .fieldAddr 58 (.tmp 5) 1, 0, "l10_topic.go:200", #[], none⟩) (v := ?vg205) rfl (by kernel_rfl) (fun _ _ _ h => h) (Or.inr hHeld) (Or.inl ⟨by rfl, ?yg205⟩) ?_
        case yg205 => (intro wS _; go_simp <;> with_reducible rfl)
        try simp only [Act.put, gqa, gqb, gqc]
        refine wpG_load (i := 1) (oi := ⟨some 82, .load 3 (.tmp 81), 3, "l10_topic.go:200", #[⟨0, .data⟩], none⟩) (v := ?vg206) [[42, 34, 33, 18, 9, 3, 2, 1]] rfl (by kernel_rfl) (fun _ _ _ h => h) hHeld (Or.inl ⟨by rfl, ?yg206⟩) ?_
        case yg206 => (intro wS hSw; (try dsimp only at hSw); go_simp <;> with_reducible rfl)
        try simp only [Act.put, gqa, gqb, gqc]
        refine wpG_pure (i := 2) (oi := ⟨some 83, .binOp .lss 3 (.tmp 82) (.const (.int .i64 0)) 3, 4, "l10_topic.go:200", #[⟨1, .data⟩], none⟩) (v := ?vg207) rfl (by kernel_rfl) (fun _ _ _ h => h) (Or.inr hHeld) (Or.inl ⟨by rfl, ?yg207⟩) ?_
        case yg207 => (intro wS _; go_simp <;> with_reducible rfl)
        try simp only [Act.put, gqa, gqb, gqc]
        refine wpG_pure (i := 3) (oi := ⟨some 84, .move (.tmp 83), 4, "l10_topic.go:200", #[⟨2, .data⟩], none⟩) (v := ?vg208) rfl (by kernel_rfl) (fun _ _ _ h => h) (Or.inr hHeld) (Or.inl ⟨by rfl, ?yg208⟩) ?_
        case yg208 => (intro wS _; go_simp <;> with_reducible rfl)
        try simp only [Act.put, gqa, gqb, gqc]
        refine wpG_pure (i := 4) (oi := ⟨some 85, .fieldAddr 58 (.tmp 5) 1, 0, "l10_topic.go:200", #[⟨3, .guard⟩], some (3, false)⟩) (v := ?vg209) rfl (by kernel_rfl) (fun _ _ _ h => h) (Or.inr hHeld) (Or.inl ⟨by rfl, ?yg209⟩) ?_
        case yg209 => (intro wS _; go_simp <;> with_reducible rfl)
        try simp only [Act.put, gqa, gqb, gqc]
        refine wpG_load (i := 5) (oi := ⟨some 86, .load 3 (.tmp 85), 3, "l10_topic.go:200", #[⟨4, .data⟩, ⟨3, .guard⟩], some (3, false)⟩) (v := ?vg210) [[42, 34, 33, 18, 9, 8, 7, 5]] rfl (by kernel_rfl) (fun _ _ _ h => h) hHeld (Or.inl ⟨by rfl, ?yg210⟩) ?_
        case yg210 => (intro wS hSw; (try dsimp only at hSw); go_simp <;> with_reducible rfl)
        try simp only [Act.put, gqa, gqb, gqc]
        refine wpG_pure (i := 6) (oi := ⟨some 87, .move (.tmp 4), 3, "l10_topic.go:200", #[⟨3, .guard⟩], some (3, false)⟩) (v := ?vg211) rfl (by kernel_rfl) (fun _ _ _ h => h) (Or.inr hHeld) (Or.inl ⟨by rfl, ?yg211⟩) ?_
        case yg211 => (intro wS _; go_simp <;> with_reducible rfl)
        try simp only [Act.put, gqa, gqb, gqc]
        refine wpG_pure (i := 7) (oi := ⟨some 88, .binOp .geq 3 (.tmp 86) (.tmp 87) 3, 4, "l10_topic.go:200", #[⟨5, .data⟩, ⟨6, .data⟩, ⟨3, .guard⟩], some (3, false)⟩) (v := ?vg212) rfl (by kernel_rfl) (fun _ _ _ h => h) (Or.inr hHeld) (Or.inl ⟨by rfl, ?yg212⟩) ?_
        case yg212 => (intro wS _; go_simp <;> with_reducible rfl)
        try simp only [Act.put, gqa, gqb, gqc]
        refine wpG_pure (i := 8) (oi := ⟨some 89, .pick (.tmp 84) (.const (.bool true)) (.tmp 88), 4, "l10_topic.go:200", #[⟨3, .data⟩, ⟨7, .data⟩], none⟩) (v := ?vg213) rfl (by kernel_rfl) (fun _ _ _ h => h) (Or.inr hHeld) (Or.inl ⟨by rfl, ?yg213⟩) ?_
        case yg213 => (intro wS _; go_simp <;> with_reducible rfl)
        try simp only [Act.put, gqa, gqb, gqc]
        refine wpG_pure (i := 9) (oi := ⟨some 90, .move (.tmp 89), 4, "l10_topic.go:200", #[⟨8, .data⟩, ⟨3, .chain⟩], none⟩) (v := ?vg214) rfl (by kernel_rfl) (fun _ _ _ h => h) (Or.inr hHeld) (Or.inl ⟨by rfl, ?yg214⟩) ?_
        case yg214 => (intro wS _; go_simp <;> with_reducible rfl)
        try simp only [Act.put, gqa, gqb, gqc]
        refine wpG_pure (i := 10) (oi := ⟨some 91, .move (.tmp 0), 24, "l10_topic.go:200", #[⟨9, .guard⟩], some (9, false)⟩) (v := ?vg215) rfl (by kernel_rfl) (fun _ _ _ h => h) (Or.inr hHeld) (Or.inl ⟨by rfl, ?yg215⟩) ?_
        case yg215 => (intro wS _; go_simp <;> with_reducible rfl)
        try simp only [Act.put, gqa, gqb, gqc]
        refine wpG_pure (i := 11) (oi := ⟨some 92, .fieldAddr 58 (.tmp 5) 1, 0, "l10_topic.go:200", #[⟨9, .guard⟩], some (9, false)⟩) (v := ?vg216) rfl (by kernel_rfl) (fun _ _ _ h => h) (Or.inr hHeld) (Or.inl ⟨by rfl, ?yg216⟩) ?_
        case yg216 => (intro wS _; go_simp <;> with_reducible rfl)
        try simp only [Act.put, gqa, gqb, gqc]
        refine wpG_load (i := 12) (oi := ⟨some 93, .load 3 (.tmp 92), 3, "l10_topic.go:200", #[⟨11, .data⟩, ⟨9, .guard⟩], some (9, false)⟩) (v := ?vg217) [[42, 34, 33, 18, 17, 16, 15, 14, 13, 12]] rfl (by kernel_rfl) (fun _ _ _ h => h) hHeld (Or.inl ⟨by rfl, ?yg217⟩) ?_
        case yg217 => (intro wS hSw; (try dsimp only at hSw); go_simp <;> with_reducible rfl)
        try simp only [Act.put, gqa, gqb, gqc]
        refine wpG_pure (i := 13) (oi := ⟨some 94, .indexAddr 24 (.tmp 91) (.tmp 93), 0, "l10_topic.go:200", #[⟨10, .data⟩, ⟨12, .data⟩, ⟨9, .guard⟩], some (9, false)⟩) (v := ?vg218) rfl (by kernel_rfl) (fun _ _ _ h => h) (Or.inr hHeld) (Or.inl ⟨by rfl, ?yg218⟩) ?_
        case yg218 => (intro wS _; go_simp <;> with_reducible rfl)
        try simp only [Act.put, gqa, gqb, gqc]
        refine wpG_pure (i := 14) (oi := ⟨some 95, .fieldAddr 58 (.tmp 94) 0, 0, "l10_topic.go:200", #[⟨13, .data⟩, ⟨9, .guard⟩], some (9, false)⟩) (v := ?vg219) rfl (by kernel_rfl) (fun _ _ _ h => h) (Or.inr hHeld) (Or.inl ⟨by rfl, ?yg219⟩) ?_
        case yg219 => (intro wS _; go_simp <;> with_reducible rfl)
        try simp only [Act.put, gqa, gqb, gqc]
        refine wpG_load (i := 15) (oi := ⟨some 96, .load 9 (.tmp 95), 9, "l10_topic.go:200", #[⟨14, .data⟩, ⟨9, .guard⟩], some (9, false)⟩) (v := ?vg220) [[42, 34, 33, 18, 17, 16, 15]] rfl (by kernel_rfl) (fun _ _ _ h => h) hHeld (Or.inl ⟨by rfl, ?yg220⟩) ?_
        case yg220 => (intro wS hSw; (try dsimp only at hSw); go_simp <;> with_reducible rfl)
        try simp only [Act.put, gqa, gqb, gqc]
        refine wpG_pure (i := 16) (oi := ⟨some 97, .binOp .eql 9 (.tmp 96) (.const (.string { data := #[35] })) 9, 4, "l10_topic.go:200", #[⟨15, .data⟩, ⟨9, .guard⟩], some (9, false)⟩) (v := ?vg221) rfl (by kernel_rfl) (fun _ _ _ h => h) (Or.inr hHeld) (Or.inl ⟨by rfl, ?yg221⟩) ?_
        case yg221 => (intro wS _; go_simp <;> with_reducible rfl)
        try simp only [Act.put, gqa, gqb, gqc]
        refine wpG_pure (i := 17) (oi := ⟨some 98, .pick (.tmp 90) (.const (.bool true)) (.tmp 97), 4, "l10_topic.go:200", #[⟨9, .data⟩, ⟨16, .data⟩], none⟩) (v := ?vg222) rfl (by kernel_rfl) (fun _ _ _ h => h) (Or.inr hHeld) (Or.inl ⟨by rfl, ?yg222⟩) ?_
        case yg222 => (intro wS _; go_simp <;> with_reducible rfl)
        try simp only [Act.put, gqa, gqb, gqc]
        refine wpG_pure (i := 18) (oi := ⟨some 99, .move (.tmp 98), 4, "l10_topic.go:200", #[⟨17, .data⟩, ⟨9, .chain⟩], none⟩) (v := ?vg223) rfl (by kernel_rfl) (fun _ _ _ h => h) (Or.inr hHeld) (Or.inl ⟨by rfl, ?yg223⟩) ?_
        case yg223 => (intro wS _; go_simp <;> with_reducible rfl)
        try simp only [Act.put, gqa, gqb, gqc]
        refine wpG_pure (i := 19) (oi := ⟨some 100, .fieldAddr 58 (.tmp 5) 0, 0, "l10_topic.go:200", #[⟨18, .guard⟩], some (18, false)⟩) (v := ?vg224) rfl (by kernel_rfl) (fun _ _ _ h => h) (Or.inr hHeld) (Or.inl ⟨by rfl, ?yg224⟩) ?_
        case yg224 => (intro wS _; go_simp <;> with_reducible rfl)
        try simp only [Act.put, gqa, gqb, gqc]
        refine wpG_load (i := 20) (oi := ⟨some 101, .load 9 (.tmp 100), 9, "l10_topic.go:200", #[⟨19, .data⟩, ⟨18, .guard⟩], some (18, false)⟩) (v := ?vg225) [[42, 34, 28, 23, 21, 20]] rfl (by kernel_rfl) (fun _ _ _ h => h) hHeld (Or.inl ⟨by rfl, ?yg225⟩) ?_
        case yg225 => (intro wS hSw; (try dsimp only at hSw); go_simp <;> with_reducible rfl)
        try simp only [Act.put, gqa, gqb, gqc]
        refine wpG_one (i := 21) (o := ⟨some 102, .call { callee := .value (.func 58), args := #[.tmp 101], argTypes := #[9] }, 4, "l10_topic.go:200", #[⟨20, .data⟩, ⟨18, .chain⟩, ⟨18, .guard⟩], some (18, false)⟩) rfl (by kernel_rfl) (fun K hK => ?_)
        go_simp
        refine (HLV.out _).mono ?_
        rw [HLL.out]
        rintro e w' ⟨rfl, rfl⟩
        refine hK.out _ _ (Or.inr ?khHeld226) (fun hHeld226S => ?_)
        case khHeld226 => exact ⟨f0, f1, d1⟩
        have hHeld226 := hHeld226S.held (by kernel_rfl)
        clear hK K
        try simp only [Act.put, gqa, gqb, gqc]
        refine wpG_pure (i := 22) (oi := ⟨some 103, .unOp .not 4 (.tmp 102), 4, "l10_topic.go:200", #[⟨21, .data⟩, ⟨18, .guard⟩], some (18, false)⟩) (v := ?vg227) rfl (by kernel_rfl) (fun _ _ _ h => h) (Or.inr hHeld226) (Or.inl ⟨by rfl, ?yg227⟩) ?_
        case yg227 => (intro wS _; go_simp <;> with_reducible rfl)
        try simp only [Act.put, gqa, gqb, gqc]
        refine wpG_pure (i := 23) (oi := ⟨some 104, .move (.tmp 103), 4, "l10_topic.go:200", #[⟨22, .data⟩, ⟨21, .chain⟩, ⟨18, .guard⟩], some (18, false)⟩) (v := ?vg228) rfl (by kernel_rfl) (fun _ _ _ h => h) (Or.inr hHeld226) (Or.inl ⟨by rfl, ?yg228⟩) ?_
        case yg228 => (intro wS _; go_simp <;> with_reducible rfl)
        try simp only [Act.put, gqa, gqb, gqc]
        refine wpG_pure (i := 24) (oi := ⟨some 105, .fieldAddr 58 (.tmp 5) 0, 0, "l10_topic.go:200", #[⟨23, .guard⟩], some (23, true)⟩) (v := undef) rfl (by kernel_rfl) (fun _ _ _ h => h) (Or.inr hHeld226) (Or.inr ⟨by rfl, rfl⟩) ?_
        try simp only [Act.put, gqa, gqb, gqc]
        refine wpG_pure (i := 25) (oi := ⟨some 106, .load 9 (.tmp 105), 9, "l10_topic.go:200", #[⟨24, .data⟩, ⟨23, .guard⟩], some (23, true)⟩) (v := undef) rfl (by kernel_rfl) (fun _ _ _ h => h) (Or.inr hHeld226) (Or.inr ⟨by rfl, rfl⟩) ?_
        try simp only [Act.put, gqa, gqb, gqc]
        refine wpG_pure (i := 26) (oi := ⟨some 107, .binOp .neq 9 (.tmp 106) (.const (.string { data := #[43] })) 9, 4, "l10_topic.go:200", #[⟨25, .data⟩, ⟨23, .guard⟩], some (23, true)⟩) (v := undef) rfl (by kernel_rfl) (fun _ _ _ h => h) (Or.inr hHeld226) (Or.inr ⟨by rfl, rfl⟩) ?_
        try simp only [Act.put, gqa, gqb, gqc]
        refine wpG_pure (i := 27) (oi := ⟨some 108, .pick (.tmp 104) (.tmp 107) (.const (.bool false)), 4, "l10_topic.go:200", #[⟨23, .data⟩, ⟨26, .data⟩, ⟨18, .guard⟩], some (18, false)⟩) (v := ?vg232) rfl (by kernel_rfl) (fun _ _ _ h => h) (Or.inr hHeld226) (Or.inl ⟨by rfl, ?yg232⟩) ?_
        case yg232 => (intro wS _; go_simp <;> with_reducible rfl)
        try simp only [Act.put, gqa, gqb, gqc]
        refine wpG_pure (i := 28) (oi := ⟨some 109, .move (.tmp 108), 4, "l10_topic.go:200", #[⟨27, .data⟩, ⟨23, .chain⟩, ⟨18, .guard⟩], some (18, false)⟩) (v := ?vg233) rfl (by kernel_rfl) (fun _ _ _ h => h) (Or.inr hHeld226) (Or.inl ⟨by rfl, ?yg233⟩) ?_
        case yg233 => (intro wS _; go_simp <;> with_reducible rfl)
        try simp only [Act.put, gqa, gqb, gqc]
        refine wpG_pure (i := 29) (oi := ⟨some 110, .fieldAddr 58 (.tmp 5) 0, 0, "l10_topic.go:200", #[⟨28, .guard⟩], some (28, true)⟩) (v := undef) rfl (by kernel_rfl) (fun _ _ _ h => h) (Or.inr hHeld226) (Or.inr ⟨by rfl, rfl⟩) ?_
        try simp only [Act.put, gqa, gqb, gqc]
        refine wpG_pure (i := 30) (oi := ⟨some 111, .load 9 (.tmp 110), 9, "l10_topic.go:200", #[⟨29, .data⟩, ⟨28, .guard⟩], some (28, true)⟩) (v := undef) rfl (by kernel_rfl) (fun _ _ _ h => h) (Or.inr hHeld226) (Or.inr ⟨by rfl, rfl⟩) ?_
        try simp only [Act.put, gqa, gqb, gqc]
        refine wpG_pure (i := 31) (oi := ⟨some 112, .binOp .neq 9 (.tmp 111) (.const (.string { data := #[35] })) 9, 4, "l10_topic.go:200", #[⟨30, .data⟩, ⟨28, .guard⟩], some (28, true)⟩) (v := undef) rfl (by kernel_rfl) (fun _ _ _ h => h) (Or.inr hHeld226) (Or.inr ⟨by rfl, rfl⟩) ?_
        try simp only [Act.put, gqa, gqb, gqc]
        refine wpG_pure (i := 32) (oi := ⟨some 113, .pick (.tmp 109) (.tmp 112) (.const (.bool false)), 4, "l10_topic.go:200", #[⟨28, .data⟩, ⟨31, .data⟩, ⟨18, .guard⟩], some (18, false)⟩) (v := ?vg237) rfl (by kernel_rfl) (fun _ _ _ h => h) (Or.inr hHeld226) (Or.inl ⟨by rfl, ?yg237⟩) ?_
        case yg237 => (intro wS _; go_simp <;> with_reducible rfl)
        try simp only [Act.put, gqa, gqb, gqc]
        refine wpG_pure (i := 33) (oi := ⟨some 114, .pick (.tmp 99) (.const (.bool true)) (.tmp 113), 4, "l10_topic.go:200", #[⟨18, .data⟩, ⟨32, .data⟩], none⟩) (v := ?vg238) rfl (by kernel_rfl) (fun _ _ _ h => h) (Or.inr hHeld226) (Or.inl ⟨by rfl, ?yg238⟩) ?_
        case yg238 => (intro wS _; go_simp <;> with_reducible rfl)
        try simp only [Act.put, gqa, gqb, gqc]
        refine wpG_pure (i := 34) (oi := ⟨some 115, .move (.tmp 114), 4, "l10_topic.go:200", #[⟨33, .data⟩, ⟨28, .chain⟩], none⟩) (v := ?vg239) rfl (by kernel_rfl) (fun _ _ _ h => h) (Or.inr hHeld226) (Or.inl ⟨by rfl, ?yg239⟩) ?_
        case yg239 => (intro wS _; go_simp <;> with_reducible rfl)
        try simp only [Act.put, gqa, gqb, gqc]
        refine wpG_pure (i := 35) (oi := ⟨some 116, .move (.tmp 0), 24, "l10_topic.go:200", #[⟨34, .guard⟩], some (34, false)⟩) (v := ?vg240) rfl (by kernel_rfl) (fun _ _ _ h => h) (Or.inr hHeld226) (Or.inl ⟨by rfl, ?yg240⟩) ?_
        case yg240 => (intro wS _; go_simp <;> with_reducible rfl)
        try simp only [Act.put, gqa, gqb, gqc]
        refine wpG_pure (i := 36) (oi := ⟨some 117, .move (.tmp 4), 3, "l10_topic.go:200", #[⟨34, .guard⟩], some (34, false)⟩) (v := ?vg241) rfl (by kernel_rfl) (fun _ _ _ h => h) (Or.inr hHeld226) (Or.inl ⟨by rfl, ?yg241⟩) ?_
        case yg241 => (intro wS _; go_simp <;> with_reducible rfl)
        try simp only [Act.put, gqa, gqb, gqc]
        refine wpG_pure (i := 37) (oi := ⟨some 118, .slice 24 (.tmp 116) none (some (.tmp 117)) none, 24, "l10_topic.go:200", #[⟨35, .data⟩, ⟨36, .data⟩, ⟨34, .guard⟩], some (34, false)⟩) (v := ?vg242) rfl (by kernel_rfl) (fun _ _ _ h => h) (Or.inr hHeld226) (Or.inl ⟨by rfl, ?yg242⟩) ?_
        case yg242 => (intro wS _; go_simp <;> with_reducible rfl)
        try simp only [Act.put, gqa, gqb, gqc]
        refine wpG_pure (i := 38) (oi := ⟨some 119, .fieldAddr 58 (.tmp 5) 1, 0, "l10_topic.go:200", #[⟨34, .guard⟩], some (34, false)⟩) (v := ?vg243) rfl (by kernel_rfl) (fun _ _ _ h => h) (Or.inr hHeld226) (Or.inl ⟨by rfl, ?yg243⟩) ?_
        case yg243 => (intro wS _; go_simp <;> with_reducible rfl)
        try simp only [Act.put, gqa, gqb, gqc]
        refine wpG_load (i := 39) (oi := ⟨some 120, .load 3 (.tmp 119), 3, "l10_topic.go:200", #[⟨38, .data⟩, ⟨34, .guard⟩], some (34, false)⟩) (v := ?vg244) [[42, 39]] rfl (by kernel_rfl) (fun _ _ _ h => h) hHeld226 (Or.inl ⟨by rfl, ?yg244⟩) ?_
        case yg244 => (intro wS hSw; (try dsimp only at hSw); go_simp <;> with_reducible rfl)
        try simp only [Act.put, gqa, gqb, gqc]
        refine wpG_pure (i := 40) (oi := ⟨some 121, .fieldAddr 58 (.tmp 5) 0, 0, "l10_topic.go:200", #[⟨34, .guard⟩], some (34, false)⟩) (v := ?vg245) rfl (by kernel_rfl) (fun _ _ _ h => h) (Or.inr hHeld226) (Or.inl ⟨by rfl, ?yg245⟩) ?_
        case yg245 => (intro wS _; go_simp <;> with_reducible rfl)
        try simp only [Act.put, gqa, gqb, gqc]
        refine wpG_load (i := 41) (oi := ⟨some 122, .load 9 (.tmp 121), 9, "l10_topic.go:200", #[⟨40, .data⟩, ⟨34, .guard⟩], some (34, false)⟩) (v := ?vg246) [[42, 41]] rfl (by kernel_rfl) (fun _ _ _ h => h) hHeld226 (Or.inl ⟨by rfl, ?yg246⟩) ?_
        case yg246 => (intro wS hSw; (try dsimp only at hSw); go_simp <;> with_reducible rfl)
        try simp only [Act.put, gqa, gqb, gqc]
        refine wpG_one (i := 42) (o := ⟨some 123, .call { callee := .value (.func 68), args := #[.tmp 118, .tmp 120, .tmp 122], argTypes := #[24, 3, 9] }, 3, "l10_topic.go:200", #[⟨37, .data⟩, ⟨39, .data⟩, ⟨41, .data⟩, ⟨34, .chain⟩, ⟨34, .guard⟩], some (34, false)⟩) rfl (by kernel_rfl) (fun K hK => ?_)
        go_simp
        refine (HKD.out _ HWD.out).mono ?_
        rintro e w3 ⟨rfl, hb3⟩
        have HB3 := Lib.hid (HWD.out.trans (hb3.mono HWD.out.size)); have HC3 := Lib.hid (HWC.out.trans (hb3.mono hzd)); clear hb3
        refine hK.out _ _ (Or.inl (by kernel_rfl)) (fun _ => ?_)
        clear hK K
        try simp only [Act.put, gqa, gqb, gqc]
        refine wpG_pure (i := 43) (oi := ⟨some 124, .binOp .geq 3 (.tmp 123) (.const (.int .i64 0)) 3, 4, "l10_topic.go:200", #[⟨42, .data⟩, ⟨34, .guard⟩], some (34, false)⟩) (v := ?vg248) rfl (by kernel_rfl) (fun _ _ _ h => h) (Or.inl (by kernel_rfl)) (Or.inl ⟨by rfl, ?yg248⟩) ?_
        case yg248 => (intro wS _; go_simp <;> with_reducible rfl)
        try simp only [Act.put, gqa, gqb, gqc]
        refine wpG_pure (i := 44) (oi := ⟨some 125, .pick (.tmp 115) (.const (.bool true)) (.tmp 124), 4, "l10_topic.go:200", #[⟨34, .data⟩, ⟨43, .data⟩], none⟩) (v := ?vg249) rfl (by kernel_rfl) (fun _ _ _ h => h) (Or.inl (by kernel_rfl)) (Or.inl ⟨by rfl, ?yg249⟩) ?_
        case yg249 => (intro wS _; go_simp <;> with_reducible rfl)
        try simp only [Act.put, gqa, gqb, gqc]
        refine wpG_pure (i := 45) (oi := ⟨some 126, .move (.tmp 125), 4, "l10_topic.go:200", #[⟨44, .data⟩, ⟨42, .chain⟩], none⟩) (v := ?vg250) rfl (by kernel_rfl) (fun _ _ _ h => h) (Or.inl (by kernel_rfl)) (Or.inl ⟨by rfl, ?yg250⟩) ?_
        case yg250 => (intro wS _; go_simp <;> with_reducible rfl)
        try simp only [Act.put, gqa, gqb, gqc]
        refine wpG_pure (i := 46) (oi := ⟨some 127, .move (.tmp 0), 24, "l10_topic.go:200", #[⟨45, .guard⟩], some (45, false)⟩) (v := ?vg251) rfl (by kernel_rfl) (fun _ _ _ h => h) (Or.inl (by kernel_rfl)) (Or.inl ⟨by rfl, ?yg251⟩) ?_
        case yg251 => (intro wS _; go_simp <;> with_reducible rfl)
        try simp only [Act.put, gqa, gqb, gqc]
        refine wpG_pure (i := 47) (oi := ⟨some 128, .move (.tmp 4), 3, "l10_topic.go:200", #[⟨45, .guard⟩], some (45, false)⟩) (v := ?vg252) rfl (by kernel_rfl) (fun _ _ _ h => h) (Or.inl (by kernel_rfl)) (Or.inl ⟨by rfl, ?yg252⟩) ?_
        case yg252 => (intro wS _; go_simp <;> with_reducible rfl)
        try simp only [Act.put, gqa, gqb, gqc]
        refine wpG_one (i := 48) (o := ⟨some 129, .call { callee := .value (.func 81), args := #[.tmp 127, .tmp 128], argTypes := #[24, 3] }, 3, "l10_topic.go:200", #[⟨46, .data⟩, ⟨47, .data⟩, ⟨45, .chain⟩, ⟨45, .guard⟩], some (45, false)⟩) rfl (by kernel_rfl) (fun K hK => ?_)
        go_simp
        refine (HDP.out _ HB3.out).mono ?_
        rintro e w' ⟨rfl, rfl⟩
        refine hK.out _ _ (Or.inl (by kernel_rfl)) (fun _ => ?_)
        clear hK K
        try simp only [Act.put, gqa, gqb, gqc]
        refine wpG_pure (i := 49) (oi := ⟨some 130, .binOp .gtr 3 (.tmp 129) (.const (.int .i64 6)) 3, 4, "l10_topic.go:200", #[⟨48, .data⟩, ⟨45, .guard⟩], some (45, false)⟩) (v := ?vg254) rfl (by kernel_rfl) (fun _ _ _ h => h) (Or.inl (by kernel_rfl)) (Or.inl ⟨by rfl, ?yg254⟩) ?_
        case yg254 => (intro wS _; go_simp <;> with_reducible rfl)
        try simp only [Act.put, gqa, gqb, gqc]
        refine wpG_pure (i := 50) (oi := ⟨some 131, .pick (.tmp 126) (.const (.bool true)) (.tmp 130), 4, "l10_topic.go:200", #[⟨45, .data⟩, ⟨49, .data⟩], none⟩) (v := ?vg255) rfl (by kernel_rfl) (fun _ _ _ h => h) (Or.inl (by kernel_rfl)) (Or.inl ⟨by rfl, ?yg255⟩) ?_
        case yg255 => (intro wS _; go_simp <;> with_reducible rfl)
        try simp only [Act.put, gqa, gqb, gqc]
        refine wpG_done (by kernel_rfl) ?_
        (go_wp2_with fail; go_ret; exact ⟨ret_bool HN.out.symm, HB3.out⟩)
      have HH := Lib.hid (HHY.out HHK.out hd6)
      have HNB := Lib.hid fun h => HNB0.out HH.out h
      have HNO := Lib.hid fun h => HNO0.out HH.out h
      clear HH HHK HHY HNB0 HNO0
      generalize depR t k k = dp at *
      have q9 : ¬ (6 : Int) < (dp : Int) := by omega
      clear hd6
      refine wp_region_G [42] (fun w' => w'.cell? ⟨wo.heap.size, 0, none⟩ = some (.string x.1) ∧ w'.cell? ⟨wo.heap.size, 1, none⟩ = some (.int .i64 x.2.1) ∧ w'.cell? ⟨b, off + x.2.1.toNat * 3, none⟩ = some (.string y.1)) (by kernel_rfl) ?_ (fun hHeld => ?_)
      · exact ⟨f0, f1, d1⟩
      refine wpG_pure (i := 0) (oi := ⟨some 81, .fieldAddr 58 (.tmp 5) 1, 0, "l10_topic.go:200", #[], none⟩) (v := ?vg256) rfl (by kernel_rfl) (fun _ _ _ h => h) (Or.inr hHeld) (Or.inl ⟨by rfl, ?yg256⟩) ?_
      case yg256 => (intro wS _; go_simp <;> with_reducible rfl)
      try simp only [Act.put, gqa, gqb, gqc]
      refine wpG_load (i := 1) (oi := ⟨some 82, .load 3 (.tmp 81), 3, "l10_topic.go:200", #[⟨0, .data⟩], none⟩) (v := ?vg257) [[42, 34, 33, 18, 9, 3, 2, 1]] rfl (by kernel_rfl) (fun _ _ _ h => h) hHeld (Or.inl ⟨by rfl, ?yg257⟩) ?_
      case yg257 => (intro wS hSw; (try dsimp only at hSw); go_simp <;> with_reducible rfl)
      try simp only [Act.put, gqa, gqb, gqc]
      refine wpG_pure (i := 2) (oi := ⟨some 83, .binOp .lss 3 (.tmp 82) (.const (.int .i64 0)) 3, 4, "l10_topic.go:200", #[⟨1, .data⟩], none⟩) (v := ?vg258) rfl (by kernel_rfl) (fun _ _ _ h => h) (Or.inr hHeld) (Or.inl ⟨by rfl, ?yg258⟩) ?_
      case yg258 => (intro wS _; go_simp <;> with_reducible rfl)
      try simp only [Act.put, gqa, gqb, gqc]
      refine wpG_pure (i := 3) (oi := ⟨some 84, .move (.tmp 83), 4, "l10_topic.go:200", #[⟨2, .data⟩], none⟩) (v := ?vg259) rfl (by kernel_rfl) (fun _ _ _ h => h) (Or.inr hHeld) (Or.inl ⟨by rfl, ?yg259⟩) ?_
      case yg259 => (intro wS _; go_simp <;> with_reducible rfl)
      try simp only [Act.put, gqa, gqb, gqc]
      refine wpG_pure (i := 4) (oi := ⟨some 85, .fieldAddr 58 (.tmp 5) 1, 0, "l10_topic.go:200", #[⟨3, .guard⟩], some (3, false)⟩) (v := ?vg260) rfl (by kernel_rfl) (fun _ _ _ h => h) (Or.inr hHeld) (Or.inl ⟨by rfl, ?yg260⟩) ?_
      case yg260 => (intro wS _; go_simp <;> with_reducible rfl)
      try simp only [Act.put, gqa, gqb, gqc]
      refine wpG_load (i := 5) (oi := ⟨some 86, .load 3 (.tmp 85), 3, "l10_topic.go:200", #[⟨4, .data⟩, ⟨3, .guard⟩], some (3, false)⟩) (v := ?vg261) [[42, 34, 33, 18, 9, 8, 7, 5]] rfl (by kernel_rfl) (fun _ _ _ h => h) hHeld (Or.inl ⟨by rfl, ?yg261⟩) ?_
      case yg261 => (intro wS hSw; (try dsimp only at hSw); go_simp <;> with_reducible rfl)
      try simp only [Act.put, gqa, gqb, gqc]
      refine wpG_pure (i := 6) (oi := ⟨some 87, .move (.tmp 4), 3, "l10_topic.go:200", #[⟨3, .guard⟩], some (3, false)⟩) (v := ?vg262) rfl (by kernel_rfl) (fun _ _ _ h => h) (Or.inr hHeld) (Or.inl ⟨by rfl, ?yg262⟩) ?_
      case yg262 => (intro wS _; go_simp <;> with_reducible rfl)
      try simp only [Act.put, gqa, gqb, gqc]
      refine wpG_pure (i := 7) (oi := ⟨some 88, .binOp .geq 3 (.tmp 86) (.tmp 87) 3, 4, "l10_topic.go:200", #[⟨5, .data⟩, ⟨6, .data⟩, ⟨3, .guard⟩], some (3, false)⟩) (v := ?vg263) rfl (by kernel_rfl) (fun _ _ _ h => h) (Or.inr hHeld) (Or.inl ⟨by rfl, ?yg263⟩) ?_
      case yg263 => (intro wS _; go_simp <;> with_reducible rfl)
      try simp only [Act.put, gqa, gqb, gqc]
      refine wpG_pure (i := 8) (oi := ⟨some 89, .pick (.tmp 84) (.const (.bool true)) (.tmp 88), 4, "l10_topic.go:200", #[⟨3, .data⟩, ⟨7, .data⟩], none⟩) (v := ?vg264) rfl (by kernel_rfl) (fun _ _ _ h => h) (Or.inr hHeld) (Or.inl ⟨by rfl, ?yg264⟩) ?_
      case yg264 => (intro wS _; go_simp <;> with_reducible rfl)
      try simp only [Act.put, gqa, gqb, gqc]
      refine wpG_pure (i := 9) (oi := ⟨some 90, .move (.tmp 89), 4, "l10_topic.go:200", #[⟨8, .data⟩, ⟨3, .chain⟩], none⟩) (v := ?vg265) rfl (by kernel_rfl) (fun _ _ _ h => h) (Or.inr hHeld) (Or.inl ⟨by rfl, ?yg265⟩) ?_
      case yg265 => (intro wS _; go_simp <;> with_reducible rfl)
      try simp only [Act.put, gqa, gqb, gqc]
      refine wpG_pure (i := 10) (oi := ⟨some 91, .move (.tmp 0), 24, "l10_topic.go:200", #[⟨9, .guard⟩], some (9, false)⟩) (v := ?vg266) rfl (by kernel_rfl) (fun _ _ _ h => h) (Or.inr hHeld) (Or.inl ⟨by rfl, ?yg266⟩) ?_
      case yg266 => (intro wS _; go_simp <;> with_reducible rfl)
      try simp only [Act.put, gqa, gqb, gqc]
      refine wpG_pure (i := 11) (oi := ⟨some 92, .fieldAddr 58 (.tmp 5) 1, 0, "l10_topic.go:200", #[⟨9, .guard⟩], some (9, false)⟩) (v := ?vg267) rfl (by kernel_rfl) (fun _ _ _ h => h) (Or.inr hHeld) (Or.inl ⟨by rfl, ?yg267⟩) ?_
      case yg267 => (intro wS _; go_simp <;> with_reducible rfl)
      try simp only [Act.put, gqa, gqb, gqc]
      refine wpG_load (i := 12) (oi := ⟨some 93, .load 3 (.tmp 92), 3, "l10_topic.go:200", #[⟨11, .data⟩, ⟨9, .guard⟩], some (9, false)⟩) (v := ?vg268) [[42, 34, 33, 18, 17, 16, 15, 14, 13, 12]] rfl (by kernel_rfl) (fun _ _ _ h => h) hHeld (Or.inl ⟨by rfl, ?yg268⟩) ?_
      case yg268 => (intro wS hSw; (try dsimp only at hSw); go_simp <;> with_reducible rfl)
      try simp only [Act.put, gqa, gqb, gqc]
      refine wpG_pure (i := 13) (oi := ⟨some 94, .indexAddr 24 (.tmp 91) (.tmp 93), 0, "l10_topic.go:200", #[⟨10, .data⟩, ⟨12, .data⟩, ⟨9, .guard⟩], some (9, false)⟩) (v := ?vg269) rfl (by kernel_rfl) (fun _ _ _ h => h) (Or.inr hHeld) (Or.inl ⟨by rfl, ?yg269⟩) ?_
      case yg269 => (intro wS _; go_simp <;> with_reducible rfl)
      try simp only [Act.put, gqa, gqb, gqc]
      refine wpG_pure (i := 14) (oi := ⟨some 95, .fieldAddr 58 (.tmp 94) 0, 0, "l10_topic.go:200", #[⟨13, .data⟩, ⟨9, .guard⟩], some (9, false)⟩) (v := ?vg270) rfl (by kernel_rfl) (fun _ _ _ h => h) (Or.inr hHeld) (Or.inl ⟨by rfl, ?yg270⟩) ?_
      case yg270 => (intro wS _; go_simp <;> with_reducible rfl)
      try simp only [Act.put, gqa, gqb, gqc]
      refine wpG_load (i := 15) (oi := ⟨some 96, .load 9 (.tmp 95), 9, "l10_topic.go:200", #[⟨14, .data⟩, ⟨9, .guard⟩], some (9, false)⟩) (v := ?vg271) [[42, 34, 33, 18, 17, 16, 15]] rfl (by kernel_rfl) (fun _ _ _ h => h) hHeld (Or.inl ⟨by rfl, ?yg271⟩) ?_
      case yg271 => (intro wS hSw; (try dsimp only at hSw); go_simp <;> with_reducible rfl)
      try simp only [Act.put, gqa, gqb, gqc]
      refine wpG_pure (i := 16) (oi := ⟨some 97, .binOp .eql 9 (.tmp 96) (.const (.string { data := #[35] })) 9, 4, "l10_topic.go:200", #[⟨15, .data⟩, ⟨9, .guard⟩], some (9, false)⟩) (v := ?vg272) rfl (by kernel_rfl) (fun _ _ _ h => h) (Or.inr hHeld) (Or.inl ⟨by rfl, ?yg272⟩) ?_
      case yg272 => (intro wS _; go_simp <;> with_reducible rfl)
      try simp only [Act.put, gqa, gqb, gqc]
      refine wpG_pure (i := 17) (oi := ⟨some 98, .pick (.tmp 90) (.const (.bool true)) (.tmp 97), 4, "l10_topic.go:200", #[⟨9, .data⟩, ⟨16, .data⟩], none⟩) (v := ?vg273) rfl (by kernel_rfl) (fun _ _ _ h => h) (Or.inr hHeld) (Or.inl ⟨by rfl, ?yg273⟩) ?_
      case yg273 => (intro wS _; go_simp <;> with_reducible rfl)
      try simp only [Act.put, gqa, gqb, gqc]
      refine wpG_pure (i := 18) (oi := ⟨some 99, .move (.tmp 98), 4, "l10_topic.go:200", #[⟨17, .data⟩, ⟨9, .chain⟩], none⟩) (v := ?vg274) rfl (by kernel_rfl) (fun _ _ _ h => h) (Or.inr hHeld) (Or.inl ⟨by rfl, ?yg274⟩) ?_
      case yg274 => (intro wS _; go_simp <;> with_reducible rfl)
      try simp only [Act.put, gqa, gqb, gqc]
      refine wpG_pure (i := 19) (oi := ⟨some 100, .fieldAddr 58 (.tmp 5) 0, 0, "l10_topic.go:200", #[⟨18, .guard⟩], some (18, false)⟩) (v := ?vg275) rfl (by kernel_rfl) (fun _ _ _ h => h) (Or.inr hHeld) (Or.inl ⟨by rfl, ?yg275⟩) ?_
      case yg275 => (intro wS _; go_simp <;> with_reducible rfl)
      try simp only [Act.put, gqa, gqb, gqc]
      refine wpG_load (i := 20) (oi := ⟨some 101, .load 9 (.tmp 100), 9, "l10_topic.go:200", #[⟨19, .data⟩, ⟨18, .guard⟩], some (18, false)⟩) (v := ?vg276) [[42, 34, 28, 23, 21, 20]] rfl (by kernel_rfl) (fun _ _ _ h => h) hHeld (Or.inl ⟨by rfl, ?yg276⟩) ?_
      case yg276 => (intro wS hSw; (try dsimp only at hSw); go_simp <;> with_reducible rfl)
      try simp only [Act.put, gqa, gqb, gqc]
      refine wpG_one (i := 21) (o := ⟨some 102, .call { callee := .value (.func 58), args := #[.tmp 101], argTypes := #[9] }, 4, "l10_topic.go:200", #[⟨20, .data⟩, ⟨18, .chain⟩, ⟨18, .guard⟩], some (18, false)⟩) rfl (by kernel_rfl) (fun K hK => ?_)
      go_simp
      refine (HLV.out _).mono ?_
      rw [HLL.out]
      rintro e w' ⟨rfl, rfl⟩
      refine hK.out _ _ (Or.inr ?khHeld277) (fun hHeld277S => ?_)
      case khHeld277 => exact ⟨f0, f1, d1⟩
      have hHeld277 := hHeld277S.held (by kernel_rfl)
      clear hK K
      try simp only [Act.put, gqa, gqb, gqc]
      refine wpG_pure (i := 22) (oi := ⟨some 103, .unOp .not 4 (.tmp 102), 4, "l10_topic.go:200", #[⟨21, .data⟩, ⟨18, .guard⟩], some (18, false)⟩) (v := ?vg278) rfl (by kernel_rfl) (fun _ _ _ h => h) (Or.inr hHeld277) (Or.inl ⟨by rfl, ?yg278⟩) ?_
      case yg278 => (intro wS _; go_simp <;> with_reducible rfl)
      try simp only [Act.put, gqa, gqb, gqc]
      refine wpG_pure (i := 23) (oi := ⟨some 104, .move (.tmp 103), 4, "l10_topic.go:200", #[⟨22, .data⟩, ⟨21, .chain⟩, ⟨18, .guard⟩], some (18, false)⟩) (v := ?vg279) rfl (by kernel_rfl) (fun _ _ _ h => h) (Or.inr hHeld277) (Or.inl ⟨by rfl, ?yg279⟩) ?_
      case yg279 => (intro wS _; go_simp <;> with_reducible rfl)
      try simp only [Act.put, gqa, gqb, gqc]
      refine wpG_pure (i := 24) (oi := ⟨some 105, .fieldAddr 58 (.tmp 5) 0, 0, "l10_topic.go:200", #[⟨23, .guard⟩], some (23, true)⟩) (v := undef) rfl (by kernel_rfl) (fun _ _ _ h => h) (Or.inr hHeld277) (Or.inr ⟨by rfl, rfl⟩) ?_
      try simp only [Act.put, gqa, gqb, gqc]
      refine wpG_pure (i := 25) (oi := ⟨some 106, .load 9 (.tmp 105), 9, "l10_topic.go:200", #[⟨24, .data⟩, ⟨23, .guard⟩], some (23, true)⟩) (v := undef) rfl (by kernel_rfl) (fun _ _ _ h => h) (Or.inr hHeld277) (Or.inr ⟨by rfl, rfl⟩) ?_
      try simp only [Act.put, gqa, gqb, gqc]
      refine wpG_pure (i := 26) (oi := ⟨some 107, .binOp .neq 9 (.tmp 106) (.const (.string { data := #[43] })) 9, 4, "l10_topic.go:200", #[⟨25, .data⟩, ⟨23, .guard⟩], some (23, true)⟩) (v := undef) rfl (by kernel_rfl) (fun _ _ _ h => h) (Or.inr hHeld277) (Or.inr ⟨by rfl, rfl⟩) ?_
      try simp only [Act.put, gqa, gqb, gqc]
      refine wpG_pure (i := 27) (oi := ⟨some 108, .pick (.tmp 104) (.tmp 107) (.const (.bool false)), 4, "l10_topic.go:200", #[⟨23, .data⟩, ⟨26, .data⟩, ⟨18, .guard⟩], some (18, false)⟩) (v := ?vg283) rfl (by kernel_rfl) (fun _ _ _ h => h) (Or.inr hHeld277) (Or.inl ⟨by rfl, ?yg283⟩) ?_
      case yg283 => (intro wS _; go_simp <;> with_reducible rfl)
      try simp only [Act.put, gqa, gqb, gqc]
      refine wpG_pure (i := 28) (oi := ⟨some 109, .move (.tmp 108), 4, "l10_topic.go:200", #[⟨27, .data⟩, ⟨23, .chain⟩, ⟨18, .guard⟩], some (18, false)⟩) (v := ?vg284) rfl (by kernel_rfl) (fun _ _ _ h => h) (Or.inr hHeld277) (Or.inl ⟨by rfl, ?yg284⟩) ?_
      case yg284 => (intro wS _; go_simp <;> with_reducible rfl)
      try simp only [Act.put, gqa, gqb, gqc]
      refine wpG_pure (i := 29) (oi := ⟨some 110, .fieldAddr 58 (.tmp 5) 0, 0, "l10_topic.go:200", #[⟨28, .guard⟩], some (28, true)⟩) (v := undef) rfl (by kernel_rfl) (fun _ _ _ h => h) (Or.inr hHeld277) (Or.inr ⟨by rfl, rfl⟩) ?_
      try simp only [Act.put, gqa, gqb, gqc]
      refine wpG_pure (i := 30) (oi := ⟨some 111, .load 9 (.tmp 110), 9, "l10_topic.go:200", #[⟨29, .data⟩, ⟨28, .guard⟩], some (28, true)⟩) (v := undef) rfl (by kernel_rfl) (fun _ _ _ h => h) (Or.inr hHeld277) (Or.inr ⟨by rfl, rfl⟩) ?_
      try simp only [Act.put, gqa, gqb, gqc]
      refine wpG_pure (i := 31) (oi := ⟨some 112, .binOp .neq 9 (.tmp 111) (.const (.string { data := #[35] })) 9, 4, "l10_topic.go:200", #[⟨30, .data⟩, ⟨28, .guard⟩], some (28, true)⟩) (v := undef) rfl (by kernel_rfl) (fun _ _ _ h => h) (Or.inr hHeld277) (Or.inr ⟨by rfl, rfl⟩) ?_
      try simp only [Act.put, gqa, gqb, gqc]
      refine wpG_pure (i := 32) (oi := ⟨some 113, .pick (.tmp 109) (.tmp 112) (.const (.bool false)), 4, "l10_topic.go:200", #[⟨28, .data⟩, ⟨31, .data⟩, ⟨18, .guard⟩], some (18, false)⟩) (v := ?vg288) rfl (by kernel_rfl) (fun _ _ _ h => h) (Or.inr hHeld277) (Or.inl ⟨by rfl, ?yg288⟩) ?_
      case yg288 => (intro wS _; go_simp <;> with_reducible rfl)
      try simp only [Act.put, gqa, gqb, gqc]
      refine wpG_pure (i := 33) (oi := ⟨some 114, .pick (.tmp 99) (.const (.bool true)) (.tmp 113), 4, "l10_topic.go:200", #[⟨18, .data⟩, ⟨32, .data⟩], none⟩) (v := ?vg289) rfl (by kernel_rfl) (fun _ _ _ h => h) (Or.inr hHeld277) (Or.inl ⟨by rfl, ?yg289⟩) ?_
      case yg289 => (intro wS _; go_simp <;> with_reducible rfl)
      try simp only [Act.put, gqa, gqb, gqc]
      refine wpG_pure (i := 34) (oi := ⟨some 115, .move (.tmp 114), 4, "l10_topic.go:200", #[⟨33, .data⟩, ⟨28, .chain⟩], none⟩) (v := ?vg290) rfl (by kernel_rfl) (fun _ _ _ h => h) (Or.inr hHeld277) (Or.inl ⟨by rfl, ?yg290⟩) ?_
      case yg290 => (intro wS _; go_simp <;> with_reducible rfl)
      try simp only [Act.put, gqa, gqb, gqc]
      refine wpG_pure (i := 35) (oi := ⟨some 116, .move (.tmp 0), 24, "l10_topic.go:200", #[⟨34, .guard⟩], some (34, false)⟩) (v := ?vg291) rfl (by kernel_rfl) (fun _ _ _ h => h) (Or.inr hHeld277) (Or.inl ⟨by rfl, ?yg291⟩) ?_
      case yg291 => (intro wS _; go_simp <;> with_reducible rfl)
      try simp only [Act.put, gqa, gqb, gqc]
      refine wpG_pure (i := 36) (oi := ⟨some 117, .move (.tmp 4), 3, "l10_topic.go:200", #[⟨34, .guard⟩], some (34, false)⟩) (v := ?vg292) rfl (by kernel_rfl) (fun _ _ _ h => h) (Or.inr hHeld277) (Or.inl ⟨by rfl, ?yg292⟩) ?_
      case yg292 => (intro wS _; go_simp <;> with_reducible rfl)
      try simp only [Act.put, gqa, gqb, gqc]
      refine wpG_pure (i := 37) (oi := ⟨some 118, .slice 24 (.tmp 116) none (some (.tmp 117)) none, 24, "l10_topic.go:200", #[⟨35, .data⟩, ⟨36, .data⟩, ⟨34, .guard⟩], some (34, false)⟩) (v := ?vg293) rfl (by kernel_rfl) (fun _ _ _ h => h) (Or.inr hHeld277) (Or.inl ⟨by rfl, ?yg293⟩) ?_
      case yg293 => (intro wS _; go_simp <;> with_reducible rfl)
      try simp only [Act.put, gqa, gqb, gqc]
      refine wpG_pure (i := 38) (oi := ⟨some 119, .fieldAddr 58 (.tmp 5) 1, 0, "l10_topic.go:200", #[⟨34, .guard⟩], some (34, false)⟩) (v := ?vg294) rfl (by kernel_rfl) (fun _ _ _ h => h) (Or.inr hHeld277) (Or.inl ⟨by rfl, ?yg294⟩) ?_
      case yg294 => (intro wS _; go_simp <;> with_reducible rfl)
      try simp only [Act.put, gqa, gqb, gqc]
      refine wpG_load (i := 39) (oi := ⟨some 120, .load 3 (.tmp 119), 3, "l10_topic.go:200", #[⟨38, .data⟩, ⟨34, .guard⟩], some (34, false)⟩) (v := ?vg295) [[42, 39]] rfl (by kernel_rfl) (fun _ _ _ h => h) hHeld277 (Or.inl ⟨by rfl, ?yg295⟩) ?_
      case yg295 => (intro wS hSw; (try dsimp only at hSw); go_simp <;> with_reducible rfl)
      try simp only [Act.put, gqa, gqb, gqc]
      refine wpG_pure (i := 40) (oi := ⟨some 121, .fieldAddr 58 (.tmp 5) 0, 0, "l10_topic.go:200", #[⟨34, .guard⟩], some (34, false)⟩) (v := ?vg296) rfl (by kernel_rfl) (fun _ _ _ h => h) (Or.inr hHeld277) (Or.inl ⟨by rfl, ?yg296⟩) ?_
      case yg296 => (intro wS _; go_simp <;> with_reducible rfl)
      try simp only [Act.put, gqa, gqb, gqc]
      refine wpG_load (i := 41) (oi := ⟨some 122, .load 9 (.tmp 121), 9, "l10_topic.go:200", #[⟨40, .data⟩, ⟨34, .guard⟩], some (34, false)⟩) (v := ?vg297) [[42, 41]] rfl (by kernel_rfl) (fun _ _ _ h => h) hHeld277 (Or.inl ⟨by rfl, ?yg297⟩) ?_
      case yg297 => (intro wS hSw; (try dsimp only at hSw); go_simp <;> with_reducible rfl)
      try simp only [Act.put, gqa, gqb, gqc]
      refine wpG_one (i := 42) (o := ⟨some 123, .call { callee := .value (.func 68), args := #[.tmp 118, .tmp 120, .tmp 122], argTypes := #[24, 3, 9] }, 3, "l10_topic.go:200", #[⟨37, .data⟩, ⟨39, .data⟩, ⟨41, .data⟩, ⟨34, .chain⟩, ⟨34, .guard⟩], some (34, false)⟩) rfl (by kernel_rfl) (fun K hK => ?_)
      go_simp
      refine (HKD.out _ HWD.out).mono ?_
      rintro e w3 ⟨rfl, hb3⟩
      have HB3 := Lib.hid (HWD.out.trans (hb3.mono HWD.out.size)); have HC3 := Lib.hid (HWC.out.trans (hb3.mono hzd)); clear hb3
      refine hK.out _ _ (Or.inl (by kernel_rfl)) (fun _ => ?_)
      clear hK K
      try simp only [Act.put, gqa, gqb, gqc]
      refine wpG_pure (i := 43) (oi := ⟨some 124, .binOp .geq 3 (.tmp 123) (.const (.int .i64 0)) 3, 4, "l10_topic.go:200", #[⟨42, .data⟩, ⟨34, .guard⟩], some (34, false)⟩) (v := ?vg299) rfl (by kernel_rfl) (fun _ _ _ h => h) (Or.inl (by kernel_rfl)) (Or.inl ⟨by rfl, ?yg299⟩) ?_
      case yg299 => (intro wS _; go_simp <;> with_reducible rfl)
      try simp only [Act.put, gqa, gqb, gqc]
      refine wpG_pure (i := 44) (oi := ⟨some 125, .pick (.tmp 115) (.const (.bool true)) (.tmp 124), 4, "l10_topic.go:200", #[⟨34, .data⟩, ⟨43, .data⟩], none⟩) (v := ?vg300) rfl (by kernel_rfl) (fun _ _ _ h => h) (Or.inl (by kernel_rfl)) (Or.inl ⟨by rfl, ?yg300⟩) ?_
      case yg300 => (intro wS _; go_simp <;> with_reducible rfl)
      try simp only [Act.put, gqa, gqb, gqc]
      refine wpG_pure (i := 45) (oi := ⟨some 126, .move (.tmp 125), 4, "l10_topic.go:200", #[⟨44, .data⟩, ⟨42, .chain⟩], none⟩) (v := ?vg301) rfl (by kernel_rfl) (fun _ _ _ h => h) (Or.inl (by kernel_rfl)) (Or.inl ⟨by rfl, ?yg301⟩) ?_
      case yg301 => (intro wS _; go_simp <;> with_reducible rfl)
      try simp only [Act.put, gqa, gqb, gqc]
      refine wpG_pure (i := 46) (oi := ⟨some 127, .move (.tmp 0), 24, "l10_topic.go:200", #[⟨45, .guard⟩], some (45, false)⟩) (v := ?vg302) rfl (by kernel_rfl) (fun _ _ _ h => h) (Or.inl (by kernel_rfl)) (Or.inl ⟨by rfl, ?yg302⟩) ?_
      case yg302 => (intro wS _; go_simp <;> with_reducible rfl)
      try simp only [Act.put, gqa, gqb, gqc]
      refine wpG_pure (i := 47) (oi := ⟨some 128, .move (.tmp 4), 3, "l10_topic.go:200", #[⟨45, .guard⟩], some (45, false)⟩) (v := ?vg303) rfl (by kernel_rfl) (fun _ _ _ h => h) (Or.inl (by kernel_rfl)) (Or.inl ⟨by rfl, ?yg303⟩) ?_
      case yg303 => (intro wS _; go_simp <;> with_reducible rfl)
      try simp only [Act.put, gqa, gqb, gqc]
      refine wpG_one (i := 48) (o := ⟨some 129, .call { callee := .value (.func 81), args := #[.tmp 127, .tmp 128], argTypes := #[24, 3] }, 3, "l10_topic.go:200", #[⟨46, .data⟩, ⟨47, .data⟩, ⟨45, .chain⟩, ⟨45, .guard⟩], some (45, false)⟩) rfl (by kernel_rfl) (fun K hK => ?_)
      go_simp
      refine (HDP.out _ HB3.out).mono ?_
      rintro e w' ⟨rfl, rfl⟩
      refine hK.out _ _ (Or.inl (by kernel_rfl)) (fun _ => ?_)
      clear hK K
      try simp only [Act.put, gqa, gqb, gqc]
      refine wpG_pure (i := 49) (oi := ⟨some 130, .binOp .gtr 3 (.tmp 129) (.const (.int .i64 6)) 3, 4, "l10_topic.go:200", #[⟨48, .data⟩, ⟨45, .guard⟩], some (45, false)⟩) (v := ?vg305) rfl (by kernel_rfl) (fun _ _ _ h => h) (Or.inl (by kernel_rfl)) (Or.inl ⟨by rfl, ?yg305⟩) ?_
      case yg305 => (intro wS _; go_simp <;> with_reducible rfl)
      try simp only [Act.put, gqa, gqb, gqc]
      refine wpG_pure (i := 50) (oi := ⟨some 131, .pick (.tmp 126) (.const (.bool true)) (.tmp 130), 4, "l10_topic.go:200", #[⟨45, .data⟩, ⟨49, .data⟩], none⟩) (v := ?vg306) rfl (by kernel_rfl) (fun _ _ _ h => h) (Or.inl (by kernel_rfl)) (Or.inl ⟨by rfl, ?yg306⟩) ?_
      case yg306 => (intro wS _; go_simp <;> with_reducible rfl)
      try simp only [Act.put, gqa, gqb, gqc]
      refine wpG_done (by kernel_rfl) ?_
      skip
      clear HDP HKD HLV HLL f0 f1 d1
      go_wp2_with fail
      go_loopw [8, 134] (fun bv jv wq => ∃ (j : Nat), j ≤ t.length ∧ jv = .int .i64 (j : Int) ∧ bv = .bool ((t.take j).any fun z => decide (z.2.1 = (k : Int))) ∧ Hid (Below (wo.heap.size + 1) wb wq)) (fun _ jv _ => t.length - (intOf jv).toNat)
      case atStart => exact ⟨0, by omega, rfl, rfl, HC3⟩
      case round =>
        obtain ⟨j, hjl, rfl, rfl, HBQ⟩ := hrel
        obtain ⟨wq, rfl⟩ : ∃ z : World, z = wr := ⟨_, rfl⟩
        have HB9 := Lib.hid (HBW.out.trans (HBQ.out.mono hwz))
        have k2 : wq.cell? ⟨wo.heap.size, 2, none⟩ = some (.slice aw x.2.2.length cw) := below_cellk HBQ.out f2 (by omega)
        by_cases hlt2 : j < t.length
        case neg =>
          obtain rfl : j = t.length := by omega
          rw [List.take_length]
          cases hT : (t.any fun z => decide (z.2.1 = (k : Int))) with
          | true =>
            have HR := Lib.hid (HNB.out (by unfold tailB; rw [hT, Bool.or_true]))
            clear hT
            go_wp2_with fail
            go_roundw
            case rel => exact ⟨k + 1, by omega, by go_num, by rw [HWT.out]; go_num, HR, HB9⟩
            case measure => simp [intOf]; omega
          | false =>
            by_cases hp0 : 0 < x.2.2.length
            · have HR := Lib.hid (HNB.out (by unfold tailB; rw [HND.out]; simp [hp0]))
              have q9 : ((x.2.2.length : Int) == 0) = false := by rw [beq_eq_false_iff_ne]; omega
              clear hT
              go_wp2_with fail
              go_roundw
              case rel => exact ⟨k + 1, by omega, by go_num, by rw [HWT.out]; go_num, HR, HB9⟩
              case measure => simp [intOf]; omega
            · have HR := Lib.hid (HNO.out (by unfold tailB; rw [HND.out, hT]; simp [hp0]))
              have q9 : ((x.2.2.length : Int) == 0) = true := by rw [beq_iff_eq]; omega
              clear hT hp0
              go_wp2_with fail
              go_ret
              exact ⟨ret_bool HR.out.symm, HB9.out⟩
        obtain ⟨z, bz, offz, az, cz, hz, heaz, _, z0, z1, z2, _, _, _⟩ := nd_cells H.out hlt2
        simp only [Option.some.injEq, Addr.mk.injEq, and_true] at heaz
        obtain ⟨rfl, rfl⟩ := heaz
        have y0 := below_cellk HB9.out z0 hbl
        have y1 := below_cellk HB9.out z1 hbl
        have y2 := below_cellk HB9.out z2 hbl
        have HAN := Lib.hid (any_next (fun z : Nd => decide (z.2.1 = (k : Int))) hz)
        have HBX := Lib.hid (HBQ.out.alloc (by have := HBQ.out.size; omega) (.cells #[.string z.1, .int .i64 z.2.1, .slice az z.2.2.length cz] 58))
        clear z0 z1 z2 hz k2
        cases hA : ((t.take j).any fun z => decide (z.2.1 = (k : Int))) with
        | true =>
          have HA2 : Hid (((t.take (j + 1)).any fun z => decide (z.2.1 = (k : Int))) = true) := Lib.hid (by rw [HAN.out, hA]; rfl)
          clear hA
          go_wp2_with fail
          go_roundw
          case rel => exact ⟨j + 1, by omega, by go_num, by rw [HA2.out], HBX⟩
          case measure => simp [intOf]; omega
        | false =>
          by_cases hzk : z.2.1 = (k : Int)
          · have HA2 : Hid (((t.take (j + 1)).any fun z => decide (z.2.1 = (k : Int))) = true) := Lib.hid (by rw [HAN.out, hA]; simp [hzk])
            have q1 : (z.2.1 == (k : Int)) = true := by simp [hzk]
            clear hA hzk
            go_wp2_with fail
            go_roundw
            case rel => exact ⟨j + 1, by omega, by go_num, by rw [HA2.out], HBX⟩
            case measure => simp [intOf]; omega
          · have HA2 : Hid (((t.take (j + 1)).any fun z => decide (z.2.1 = (k : Int))) = false) := Lib.hid (by rw [HAN.out, hA]; simp [hzk])
            have q1 : (z.2.1 == (k : Int)) = false := by simp [hzk]
            clear hA hzk
            go_wp2_with fail
            go_roundw
            case rel => exact ⟨j + 1, by omega, by go_num, by rw [HA2.out], HBX⟩
            case measure => simp [intOf]; omega
    | false =>
    have HLL := Lib.hid hlv
    cases h43 : (x.1.toList == [43]) with
    | true =>
      have HHY : Hid (kidR (t.take k) x.2.1 x.1 < 0 → depR t k k ≤ 6 → headB t k = true) := Lib.hid fun h1 h2 => by
        have hl : lvlOK x.1 = true := by
          simp only [beq_iff_eq] at h43; unfold lvlOK; simp [yes_any1 h43]
        rw [HHD.out, hl]; simp [h1, h2]
      have h43' : (x.1.toList != [43]) = false := by simp [bne, h43]
      clear hlv HHD HNH
      by_cases hkd : kidR (t.take k) x.2.1 x.1 < 0
      case neg =>
        have HN := Lib.hid (HNHK.out hkd)
        generalize kidR (t.take k) x.2.1 x.1 = kr at *
        have q8 : (0 : Int) ≤ kr := by omega
        clear hkd
        refine wp_region_G [42] (fun w' => w'.cell? ⟨wo.heap.size, 0, none⟩ = some (.string x.1) ∧ w'.cell? ⟨wo.heap.size, 1, none⟩ = some (.int .i64 x.2.1) ∧ w'.cell? ⟨b, off + x.2.1.toNat * 3, none⟩ = some (.string y.1)) (by kernel_rfl) ?_ (fun hHeld => ?_)
        · exact ⟨f0, f1, d1⟩
        refine wpG_pure (i := 0) (oi := ⟨some 81, .fieldAddr 58 (.tmp 5) 1, 0, "l10_topic.go:200", #[], none⟩) (v := ?vg307) rfl (by kernel_rfl) (fun _ _ _ h => h) (Or.inr hHeld) (Or.inl ⟨by rfl, ?yg307⟩) ?_
        case yg307 => (intro wS _; go_simp <;> with_reducible rfl)
        try simp only [Act.put, gqa, gqb, gqc]
        refine wpG_load (i := 1) (oi := ⟨some 82, .load 3 (.tmp 81), 3, "l10_topic.go:200", #[⟨0, .data⟩], none⟩) (v := ?vg308) [[42, 34, 33, 18, 9, 3, 2, 1]] rfl (by kernel_rfl) (fun _ _ _ h => h) hHeld (Or.inl ⟨by rfl, ?yg308⟩) ?_
        case yg308 => (intro wS hSw; (try dsimp only at hSw); go_simp <;> with_reducible rfl)
        try simp only [Act.put, gqa, gqb, gqc]
        refine wpG_pure (i := 2) (oi := ⟨some 83, .binOp .lss 3 (.tmp 82) (.const (.int .i64 0)) 3, 4, "l10_topic.go:200", #[⟨1, .data⟩], none⟩) (v := ?vg309) rfl (by kernel_rfl) (fun _ _ _ h => h) (Or.inr hHeld) (Or.inl ⟨by rfl, ?yg309⟩) ?_
        case yg309 => (intro wS _; go_simp <;> with_reducible rfl)
        try simp only [Act.put, gqa, gqb, gqc]
        refine wpG_pure (i := 3) (oi := ⟨some 84, .move (.tmp 83), 4, "l10_topic.go:200", #[⟨2, .data⟩], none⟩) (v := ?vg310) rfl (by kernel_rfl) (fun _ _ _ h => h) (Or.inr hHeld) (Or.inl ⟨by rfl, ?yg310⟩) ?_
        case yg310 => (intro wS _; go_simp <;> with_reducible rfl)
        try simp only [Act.put, gqa, gqb, gqc]
        refine wpG_pure (i := 4) (oi := ⟨some 85, .fieldAddr 58 (.tmp 5) 1, 0, "l10_topic.go:200", #[⟨3, .guard⟩], some (3, false)⟩) (v := ?vg311) rfl (by kernel_rfl) (fun _ _ _ h => h) (Or.inr hHeld) (Or.inl ⟨by rfl, ?yg311⟩) ?_
        case yg311 => (intro wS _; go_simp <;> with_reducible rfl)
        try simp only [Act.put, gqa, gqb, gqc]
        refine wpG_load (i := 5) (oi := ⟨some 86, .load 3 (.tmp 85), 3, "l10_topic.go:200", #[⟨4, .data⟩, ⟨3, .guard⟩], some (3, false)⟩) (v := ?vg312) [[42, 34, 33, 18, 9, 8, 7, 5]] rfl (by kernel_rfl) (fun _ _ _ h => h) hHeld (Or.inl ⟨by rfl, ?yg312⟩) ?_
        case yg312 => (intro wS hSw; (try dsimp only at hSw); go_simp <;> with_reducible rfl)
        try simp only [Act.put, gqa, gqb, gqc]
        refine wpG_pure (i := 6) (oi := ⟨some 87, .move (.tmp 4), 3, "l10_topic.go:200", #[⟨3, .guard⟩], some (3, false)⟩) (v := ?vg313) rfl (by kernel_rfl) (fun _ _ _ h => h) (Or.inr hHeld) (Or.inl ⟨by rfl, ?yg313⟩) ?_
        case yg313 => (intro wS _; go_simp <;> with_reducible rfl)
        try simp only [Act.put, gqa, gqb, gqc]
        refine wpG_pure (i := 7) (oi := ⟨some 88, .binOp .geq 3 (.tmp 86) (.tmp 87) 3, 4, "l10_topic.go:200", #[⟨5, .data⟩, ⟨6, .data⟩, ⟨3, .guard⟩], some (3, false)⟩) (v := ?vg314) rfl (by kernel_rfl) (fun _ _ _ h => h) (Or.inr hHeld) (Or.inl ⟨by rfl, ?yg314⟩) ?_
        case yg314 => (intro wS _; go_simp <;> with_reducible rfl)
        try simp only [Act.put, gqa, gqb, gqc]
        refine wpG_pure (i := 8) (oi := ⟨some 89, .pick (.tmp 84) (.const (.bool true)) (.tmp 88), 4, "l10_topic.go:200", #[⟨3, .data⟩, ⟨7, .data⟩], none⟩) (v := ?vg315) rfl (by kernel_rfl) (fun _ _ _ h => h) (Or.inr hHeld) (Or.inl ⟨by rfl, ?yg315⟩) ?_
        case yg315 => (intro wS _; go_simp <;> with_reducible rfl)
        try simp only [Act.put, gqa, gqb, gqc]
        refine wpG_pure (i := 9) (oi := ⟨some 90, .move (.tmp 89), 4, "l10_topic.go:200", #[⟨8, .data⟩, ⟨3, .chain⟩], none⟩) (v := ?vg316) rfl (by kernel_rfl) (fun _ _ _ h => h) (Or.inr hHeld) (Or.inl ⟨by rfl, ?yg316⟩) ?_
        case yg316 => (intro wS _; go_simp <;> with_reducible rfl)
        try simp only [Act.put, gqa, gqb, gqc]
        refine wpG_pure (i := 10) (oi := ⟨some 91, .move (.tmp 0), 24, "l10_topic.go:200", #[⟨9, .guard⟩], some (9, false)⟩) (v := ?vg317) rfl (by kernel_rfl) (fun _ _ _ h => h) (Or.inr hHeld) (Or.inl ⟨by rfl, ?yg317⟩) ?_
        case yg317 => (intro wS _; go_simp <;> with_reducible rfl)
        try simp only [Act.put, gqa, gqb, gqc]
        refine wpG_pure (i := 11) (oi := ⟨some 92, .fieldAddr 58 (.tmp 5) 1, 0, "l10_topic.go:200", #[⟨9, .guard⟩], some (9, false)⟩) (v := ?vg318) rfl (by kernel_rfl) (fun _ _ _ h => h) (Or.inr hHeld) (Or.inl ⟨by rfl, ?yg318⟩) ?_
        case yg318 => (intro wS _; go_simp <;> with_reducible rfl)
        try simp only [Act.put, gqa, gqb, gqc]
        refine wpG_load (i := 12) (oi := ⟨some 93, .load 3 (.tmp 92), 3, "l10_topic.go:200", #[⟨11, .data⟩, ⟨9, .guard⟩], some (9, false)⟩) (v := ?vg319) [[42, 34, 33, 18, 17, 16, 15, 14, 13, 12]] rfl (by kernel_rfl) (fun _ _ _ h => h) hHeld (Or.inl ⟨by rfl, ?yg319⟩) ?_
        case yg319 => (intro wS hSw; (try dsimp only at hSw); go_simp <;> with_reducible rfl)
        try simp only [Act.put, gqa, gqb, gqc]
        refine wpG_pure (i := 13) (oi := ⟨some 94, .indexAddr 24 (.tmp 91) (.tmp 93), 0, "l10_topic.go:200", #[⟨10, .data⟩, ⟨12, .data⟩, ⟨9, .guard⟩], some (9, false)⟩) (v := ?vg320) rfl (by kernel_rfl) (fun _ _ _ h => h) (Or.inr hHeld) (Or.inl ⟨by rfl, ?yg320⟩) ?_
        case yg320 => (intro wS _; go_simp <;> with_reducible rfl)
        try simp only [Act.put, gqa, gqb, gqc]
        refine wpG_pure (i := 14) (oi := ⟨some 95, .fieldAddr 58 (.tmp 94) 0, 0, "l10_topic.go:200", #[⟨13, .data⟩, ⟨9, .guard⟩], some (9, false)⟩) (v := ?vg321) rfl (by kernel_rfl) (fun _ _ _ h => h) (Or.inr hHeld) (Or.inl ⟨by rfl, ?yg321⟩) ?_
        case yg321 => (intro wS _; go_simp <;> with_reducible rfl)
        try simp only [Act.put, gqa, gqb, gqc]
        refine wpG_load (i := 15) (oi := ⟨some 96, .load 9 (.tmp 95), 9, "l10_topic.go:200", #[⟨14, .data⟩, ⟨9, .guard⟩], some (9, false)⟩) (v := ?vg322) [[42, 34, 33, 18, 17, 16, 15]] rfl (by kernel_rfl) (fun _ _ _ h => h) hHeld (Or.inl ⟨by rfl, ?yg322⟩) ?_
        case yg322 => (intro wS hSw; (try dsimp only at hSw); go_simp <;> with_reducible rfl)
        try simp only [Act.put, gqa, gqb, gqc]
        refine wpG_pure (i := 16) (oi := ⟨some 97, .binOp .eql 9 (.tmp 96) (.const (.string { data := #[35] })) 9, 4, "l10_topic.go:200", #[⟨15, .data⟩, ⟨9, .guard⟩], some (9, false)⟩) (v := ?vg323) rfl (by kernel_rfl) (fun _ _ _ h => h) (Or.inr hHeld) (Or.inl ⟨by rfl, ?yg323⟩) ?_
        case yg323 => (intro wS _; go_simp <;> with_reducible rfl)
        try simp only [Act.put, gqa, gqb, gqc]
        refine wpG_pure (i := 17) (oi := ⟨some 98, .pick (.tmp 90) (.const (.bool true)) (.tmp 97), 4, "l10_topic.go:200", #[⟨9, .data⟩, ⟨16, .data⟩], none⟩) (v := ?vg324) rfl (by kernel_rfl) (fun _ _ _ h => h) (Or.inr hHeld) (Or.inl ⟨by rfl, ?yg324⟩) ?_
        case yg324 => (intro wS _; go_simp <;> with_reducible rfl)
        try simp only [Act.put, gqa, gqb, gqc]
        refine wpG_pure (i := 18) (oi := ⟨some 99, .move (.tmp 98), 4, "l10_topic.go:200", #[⟨17, .data⟩, ⟨9, .chain⟩], none⟩) (v := ?vg325) rfl (by kernel_rfl) (fun _ _ _ h => h) (Or.inr hHeld) (Or.inl ⟨by rfl, ?yg325⟩) ?_
        case yg325 => (intro wS _; go_simp <;> with_reducible rfl)
        try simp only [Act.put, gqa, gqb, gqc]
        refine wpG_pure (i := 19) (oi := ⟨some 100, .fieldAddr 58 (.tmp 5) 0, 0, "l10_topic.go:200", #[⟨18, .guard⟩], some (18, false)⟩) (v := ?vg326) rfl (by kernel_rfl) (fun _ _ _ h => h) (Or.inr hHeld) (Or.inl ⟨by rfl, ?yg326⟩) ?_
        case yg326 => (intro wS _; go_simp <;> with_reducible rfl)
        try simp only [Act.put, gqa, gqb, gqc]
        refine wpG_load (i := 20) (oi := ⟨some 101, .load 9 (.tmp 100), 9, "l10_topic.go:200", #[⟨19, .data⟩, ⟨18, .guard⟩], some (18, false)⟩) (v := ?vg327) [[42, 34, 28, 23, 21, 20]] rfl (by kernel_rfl) (fun _ _ _ h => h) hHeld (Or.inl ⟨by rfl, ?yg327⟩) ?_
        case yg327 => (intro wS hSw; (try dsimp only at hSw); go_simp <;> with_reducible rfl)
        try simp only [Act.put, gqa, gqb, gqc]
        refine wpG_one (i := 21) (o := ⟨some 102, .call { callee := .value (.func 58), args := #[.tmp 101], argTypes := #[9] }, 4, "l10_topic.go:200", #[⟨20, .data⟩, ⟨18, .chain⟩, ⟨18, .guard⟩], some (18, false)⟩) rfl (by kernel_rfl) (fun K hK => ?_)
        go_simp
        refine (HLV.out _).mono ?_
        rw [HLL.out]
        rintro e w' ⟨rfl, rfl⟩
        refine hK.out _ _ (Or.inr ?khHeld328) (fun hHeld328S => ?_)
        case khHeld328 => exact ⟨f0, f1, d1⟩
        have hHeld328 := hHeld328S.held (by kernel_rfl)
        clear hK K
        try simp only [Act.put, gqa, gqb, gqc]
        refine wpG_pure (i := 22) (oi := ⟨some 103, .unOp .not 4 (.tmp 102), 4, "l10_topic.go:200", #[⟨21, .data⟩, ⟨18, .guard⟩], some (18, false)⟩) (v := ?vg329) rfl (by kernel_rfl) (fun _ _ _ h => h) (Or.inr hHeld328) (Or.inl ⟨by rfl, ?yg329⟩) ?_
        case yg329 => (intro wS _; go_simp <;> with_reducible rfl)
        try simp only [Act.put, gqa, gqb, gqc]
        refine wpG_pure (i := 23) (oi := ⟨some 104, .move (.tmp 103), 4, "l10_topic.go:200", #[⟨22, .data⟩, ⟨21, .chain⟩, ⟨18, .guard⟩], some (18, false)⟩) (v := ?vg330) rfl (by kernel_rfl) (fun _ _ _ h => h) (Or.inr hHeld328) (Or.inl ⟨by rfl, ?yg330⟩) ?_
        case yg330 => (intro wS _; go_simp <;> with_reducible rfl)
        try simp only [Act.put, gqa, gqb, gqc]
        refine wpG_pure (i := 24) (oi := ⟨some 105, .fieldAddr 58 (.tmp 5) 0, 0, "l10_topic.go:200", #[⟨23, .guard⟩], some (23, true)⟩) (v := ?vg331) rfl (by kernel_rfl) (fun _ _ _ h => h) (Or.inr hHeld328) (Or.inl ⟨by rfl, ?yg331⟩) ?_
        case yg331 => (intro wS _; go_simp <;> with_reducible rfl)
        try simp only [Act.put, gqa, gqb, gqc]
        refine wpG_load (i := 25) (oi := ⟨some 106, .load 9 (.tmp 105), 9, "l10_topic.go:200", #[⟨24, .data⟩, ⟨23, .guard⟩], some (23, true)⟩) (v := ?vg332) [[42, 34, 28, 27, 26, 25]] rfl (by kernel_rfl) (fun _ _ _ h => h) hHeld328 (Or.inl ⟨by rfl, ?yg332⟩) ?_
        case yg332 => (intro wS hSw; (try dsimp only at hSw); go_simp <;> with_reducible rfl)
        try simp only [Act.put, gqa, gqb, gqc]
        refine wpG_pure (i := 26) (oi := ⟨some 107, .binOp .neq 9 (.tmp 106) (.const (.string { data := #[43] })) 9, 4, "l10_topic.go:200", #[⟨25, .data⟩, ⟨23, .guard⟩], some (23, true)⟩) (v := ?vg333) rfl (by kernel_rfl) (fun _ _ _ h => h) (Or.inr hHeld328) (Or.inl ⟨by rfl, ?yg333⟩) ?_
        case yg333 => (intro wS _; go_simp <;> with_reducible rfl)
        try simp only [Act.put, gqa, gqb, gqc]
        refine wpG_pure (i := 27) (oi := ⟨some 108, .pick (.tmp 104) (.tmp 107) (.const (.bool false)), 4, "l10_topic.go:200", #[⟨23, .data⟩, ⟨26, .data⟩, ⟨18, .guard⟩], some (18, false)⟩) (v := ?vg334) rfl (by kernel_rfl) (fun _ _ _ h => h) (Or.inr hHeld328) (Or.inl ⟨by rfl, ?yg334⟩) ?_
        case yg334 => (intro wS _; go_simp <;> with_reducible rfl)
        try simp only [Act.put, gqa, gqb, gqc]
        refine wpG_pure (i := 28) (oi := ⟨some 109, .move (.tmp 108), 4, "l10_topic.go:200", #[⟨27, .data⟩, ⟨23, .chain⟩, ⟨18, .guard⟩], some (18, false)⟩) (v := ?vg335) rfl (by kernel_rfl) (fun _ _ _ h => h) (Or.inr hHeld328) (Or.inl ⟨by rfl, ?yg335⟩) ?_
        case yg335 => (intro wS _; go_simp <;> with_reducible rfl)
        try simp only [Act.put, gqa, gqb, gqc]
        refine wpG_pure (i := 29) (oi := ⟨some 110, .fieldAddr 58 (.tmp 5) 0, 0, "l10_topic.go:200", #[⟨28, .guard⟩], some (28, true)⟩) (v := undef) rfl (by kernel_rfl) (fun _ _ _ h => h) (Or.inr hHeld328) (Or.inr ⟨by rfl, rfl⟩) ?_
        try simp only [Act.put, gqa, gqb, gqc]
        refine wpG_pure (i := 30) (oi := ⟨some 111, .load 9 (.tmp 110), 9, "l10_topic.go:200", #[⟨29, .data⟩, ⟨28, .guard⟩], some (28, true)⟩) (v := undef) rfl (by kernel_rfl) (fun _ _ _ h => h) (Or.inr hHeld328) (Or.inr ⟨by rfl, rfl⟩) ?_
        try simp only [Act.put, gqa, gqb, gqc]
        refine wpG_pure (i := 31) (oi := ⟨some 112, .binOp .neq 9 (.tmp 111) (.const (.string { data := #[35] })) 9, 4, "l10_topic.go:200", #[⟨30, .data⟩, ⟨28, .guard⟩], some (28, true)⟩) (v := undef) rfl (by kernel_rfl) (fun _ _ _ h => h) (Or.inr hHeld328) (Or.inr ⟨by rfl, rfl⟩) ?_
        try simp only [Act.put, gqa, gqb, gqc]
        refine wpG_pure (i := 32) (oi := ⟨some 113, .pick (.tmp 109) (.tmp 112) (.const (.bool false)), 4, "l10_topic.go:200", #[⟨28, .data⟩, ⟨31, .data⟩, ⟨18, .guard⟩], some (18, false)⟩) (v := ?vg339) rfl (by kernel_rfl) (fun _ _ _ h => h) (Or.inr hHeld328) (Or.inl ⟨by rfl, ?yg339⟩) ?_
        case yg339 => (intro wS _; go_simp <;> with_reducible rfl)
        try simp only [Act.put, gqa, gqb, gqc]
        refine wpG_pure (i := 33) (oi := ⟨some 114, .pick (.tmp 99) (.const (.bool true)) (.tmp 113), 4, "l10_topic.go:200", #[⟨18, .data⟩, ⟨32, .data⟩], none⟩) (v := ?vg340) rfl (by kernel_rfl) (fun _ _ _ h => h) (Or.inr hHeld328) (Or.inl ⟨by rfl, ?yg340⟩) ?_
        case yg340 => (intro wS _; go_simp <;> with_reducible rfl)
        try simp only [Act.put, gqa, gqb, gqc]
        refine wpG_pure (i := 34) (oi := ⟨some 115, .move (.tmp 114), 4, "l10_topic.go:200", #[⟨33, .data⟩, ⟨28, .chain⟩], none⟩) (v := ?vg341) rfl (by kernel_rfl) (fun _ _ _ h => h) (Or.inr hHeld328) (Or.inl ⟨by rfl, ?yg341⟩) ?_
        case yg341 => (intro wS _; go_simp <;> with_reducible rfl)
        try simp only [Act.put, gqa, gqb, gqc]
        refine wpG_pure (i := 35) (oi := ⟨some 116, .move (.tmp 0), 24, "l10_topic.go:200", #[⟨34, .guard⟩], some (34, false)⟩) (v := ?vg342) rfl (by kernel_rfl) (fun _ _ _ h => h) (Or.inr hHeld328) (Or.inl ⟨by rfl, ?yg342⟩) ?_
        case yg342 => (intro wS _; go_simp <;> with_reducible rfl)
        try simp only [Act.put, gqa, gqb, gqc]
        refine wpG_pure (i := 36) (oi := ⟨some 117, .move (.tmp 4), 3, "l10_topic.go:200", #[⟨34, .guard⟩], some (34, false)⟩) (v := ?vg343) rfl (by kernel_rfl) (fun _ _ _ h => h) (Or.inr hHeld328) (Or.inl ⟨by rfl, ?yg343⟩) ?_
        case yg343 => (intro wS _; go_simp <;> with_reducible rfl)
        try simp only [Act.put, gqa, gqb, gqc]
        refine wpG_pure (i := 37) (oi := ⟨some 118, .slice 24 (.tmp 116) none (some (.tmp 117)) none, 24, "l10_topic.go:200", #[⟨35, .data⟩, ⟨36, .data⟩, ⟨34, .guard⟩], some (34, false)⟩) (v := ?vg344) rfl (by kernel_rfl) (fun _ _ _ h => h) (Or.inr hHeld328) (Or.inl ⟨by rfl, ?yg344⟩) ?_
        case yg344 => (intro wS _; go_simp <;> with_reducible rfl)
        try simp only [Act.put, gqa, gqb, gqc]
        refine wpG_pure (i := 38) (oi := ⟨some 119, .fieldAddr 58 (.tmp 5) 1, 0, "l10_topic.go:200", #[⟨34, .guard⟩], some (34, false)⟩) (v := ?vg345) rfl (by kernel_rfl) (fun _ _ _ h => h) (Or.inr hHeld328) (Or.inl ⟨by rfl, ?yg345⟩) ?_
        case yg345 => (intro wS _; go_simp <;> with_reducible rfl)
        try simp only [Act.put, gqa, gqb, gqc]
        refine wpG_load (i := 39) (oi := ⟨some 120, .load 3 (.tmp 119), 3, "l10_topic.go:200", #[⟨38, .data⟩, ⟨34, .guard⟩], some (34, false)⟩) (v := ?vg346) [[42, 39]] rfl (by kernel_rfl) (fun _ _ _ h => h) hHeld328 (Or.inl ⟨by rfl, ?yg346⟩) ?_
        case yg346 => (intro wS hSw; (try dsimp only at hSw); go_simp <;> with_reducible rfl)
        try simp only [Act.put, gqa, gqb, gqc]
        refine wpG_pure (i := 40) (oi := ⟨some 121, .fieldAddr 58 (.tmp 5) 0, 0, "l10_topic.go:200", #[⟨34, .guard⟩], some (34, false)⟩) (v := ?vg347) rfl (by kernel_rfl) (fun _ _ _ h => h) (Or.inr hHeld328) (Or.inl ⟨by rfl, ?yg347⟩) ?_
        case yg347 => (intro wS _; go_simp <;> with_reducible rfl)
        try simp only [Act.put, gqa, gqb, gqc]
        refine wpG_load (i := 41) (oi := ⟨some 122, .load 9 (.tmp 121), 9, "l10_topic.go:200", #[⟨40, .data⟩, ⟨34, .guard⟩], some (34, false)⟩) (v := ?vg348) [[42, 41]] rfl (by kernel_rfl) (fun _ _ _ h => h) hHeld328 (Or.inl ⟨by rfl, ?yg348⟩) ?_
        case yg348 => (intro wS hSw; (try dsimp only at hSw); go_simp <;> with_reducible rfl)
        try simp only [Act.put, gqa, gqb, gqc]
        refine wpG_one (i := 42) (o := ⟨some 123, .call { callee := .value (.func 68), args := #[.tmp 118, .tmp 120, .tmp 122], argTypes := #[24, 3, 9] }, 3, "l10_topic.go:200", #[⟨37, .data⟩, ⟨39, .data⟩, ⟨41, .data⟩, ⟨34, .chain⟩, ⟨34, .guard⟩], some (34, false)⟩) rfl (by kernel_rfl) (fun K hK => ?_)
        go_simp
        refine (HKD.out _ HWD.out).mono ?_
        rintro e w3 ⟨rfl, hb3⟩
        have HB3 := Lib.hid (HWD.out.trans (hb3.mono HWD.out.size)); have HC3 := Lib.hid (HWC.out.trans (hb3.mono hzd)); clear hb3
        refine hK.out _ _ (Or.inl (by kernel_rfl)) (fun _ => ?_)
        clear hK K
        try simp only [Act.put, gqa, gqb, gqc]
        refine wpG_pure (i := 43) (oi := ⟨some 124, .binOp .geq 3 (.tmp 123) (.const (.int .i64 0)) 3, 4, "l10_topic.go:200", #[⟨42, .data⟩, ⟨34, .guard⟩], some (34, false)⟩) (v := ?vg350) rfl (by kernel_rfl) (fun _ _ _ h => h) (Or.inl (by kernel_rfl)) (Or.inl ⟨by rfl, ?yg350⟩) ?_
        case yg350 => (intro wS _; go_simp <;> with_reducible rfl)
        try simp only [Act.put, gqa, gqb, gqc]
        refine wpG_pure (i := 44) (oi := ⟨some 125, .pick (.tmp 115) (.const (.bool true)) (.tmp 124), 4, "l10_topic.go:200", #[⟨34, .data⟩, ⟨43, .data⟩], none⟩) (v := ?vg351) rfl (by kernel_rfl) (fun _ _ _ h => h) (Or.inl (by kernel_rfl)) (Or.inl ⟨by rfl, ?yg351⟩) ?_
        case yg351 => (intro wS _; go_simp <;> with_reducible rfl)
        try simp only [Act.put, gqa, gqb, gqc]
        refine wpG_pure (i := 45) (oi := ⟨some 126, .move (.tmp 125), 4, "l10_topic.go:200", #[⟨44, .data⟩, ⟨42, .chain⟩], none⟩) (v := ?vg352) rfl (by kernel_rfl) (fun _ _ _ h => h) (Or.inl (by kernel_rfl)) (Or.inl ⟨by rfl, ?yg352⟩) ?_
        case yg352 => (intro wS _; go_simp <;> with_reducible rfl)
        try simp only [Act.put, gqa, gqb, gqc]
        refine wpG_pure (i := 46) (oi := ⟨some 127, .move (.tmp 0), 24, "l10_topic.go:200", #[⟨45, .guard⟩], some (45, false)⟩) (v := undef) rfl (by kernel_rfl) (fun _ _ _ h => h) (Or.inl (by kernel_rfl)) (Or.inr ⟨by rfl, rfl⟩) ?_
        try simp only [Act.put, gqa, gqb, gqc]
        refine wpG_pure (i := 47) (oi := ⟨some 128, .move (.tmp 4), 3, "l10_topic.go:200", #[⟨45, .guard⟩], some (45, false)⟩) (v := undef) rfl (by kernel_rfl) (fun _ _ _ h => h) (Or.inl (by kernel_rfl)) (Or.inr ⟨by rfl, rfl⟩) ?_
        try simp only [Act.put, gqa, gqb, gqc]
        refine wpG_pure (i := 48) (oi := ⟨some 129, .call { callee := .value (.func 81), args := #[.tmp 127, .tmp 128], argTypes := #[24, 3] }, 3, "l10_topic.go:200", #[⟨46, .data⟩, ⟨47, .data⟩, ⟨45, .chain⟩, ⟨45, .guard⟩], some (45, false)⟩) (v := undef) rfl (by kernel_rfl) (fun _ _ _ h => h) (Or.inl (by kernel_rfl)) (Or.inr ⟨by rfl, rfl⟩) ?_
        try simp only [Act.put, gqa, gqb, gqc]
        refine wpG_pure (i := 49) (oi := ⟨some 130, .binOp .gtr 3 (.tmp 129) (.const (.int .i64 6)) 3, 4, "l10_topic.go:200", #[⟨48, .data⟩, ⟨45, .guard⟩], some (45, false)⟩) (v := undef) rfl (by kernel_rfl) (fun _ _ _ h => h) (Or.inl (by kernel_rfl)) (Or.inr ⟨by rfl, rfl⟩) ?_
        try simp only [Act.put, gqa, gqb, gqc]
        refine wpG_pure (i := 50) (oi := ⟨some 131, .pick (.tmp 126) (.const (.bool true)) (.tmp 130), 4, "l10_topic.go:200", #[⟨45, .data⟩, ⟨49, .data⟩], none⟩) (v := ?vg357) rfl (by kernel_rfl) (fun _ _ _ h => h) (Or.inl (by kernel_rfl)) (Or.inl ⟨by rfl, ?yg357⟩) ?_
        case yg357 => (intro wS _; go_simp <;> with_reducible rfl)
        try simp only [Act.put, gqa, gqb, gqc]
        refine wpG_done (by kernel_rfl) ?_
        (go_wp2_with fail; go_ret; exact ⟨ret_bool HN.out.symm, HB3.out⟩)
      have HHK := Lib.hid hkd
      generalize kidR (t.take k) x.2.1 x.1 = kr at *
      have q8 : ¬ (0 : Int) ≤ kr := by omega
      clear hkd
      by_cases hd6 : depR t k k ≤ 6
      case neg =>
        have HN := Lib.hid (HNHD.out hd6)
        generalize depR t k k = dp at *
        have q9 : (6 : Int) < (dp : Int) := by omega
        clear hd6
        refine wp_region_G [42] (fun w' => w'.cell? ⟨wo.heap.size, 0, none⟩ = some (.string x.1) ∧ w'.cell? ⟨wo.heap.size, 1, none⟩ = some (.int .i64 x.2.1) ∧ w'.cell? ⟨b, off + x.2.1.toNat * 3, none⟩ = some (.string y.1)) (by kernel_rfl) ?_ (fun hHeld => ?_)
        · exact ⟨f0, f1, d1⟩
        refine wpG_pure (i := 0) (oi := ⟨some 81, .fieldAddr 58 (.tmp 5) 1, 0, "l10_topic.go:200", #[], none⟩) (v := ?vg358) rfl (by kernel_rfl) (fun _ _ _ h => h) (Or.inr hHeld) (Or.inl ⟨by rfl, ?yg358⟩) ?_
        case yg358 => (intro wS _; go_simp <;> with_reducible rfl)
        try simp only [Act.put, gqa, gqb, gqc]
        refine wpG_load (i := 1) (oi := ⟨some 82, .load 3 (.tmp 81), 3, "l10_topic.go:200", #[⟨0, .data⟩], none⟩) (v := ?vg359) [[42, 34, 33, 18, 9, 3, 2, 1]] rfl (by kernel_rfl) (fun _ _ _ h => h) hHeld (Or.inl ⟨by rfl, ?yg359⟩) ?_
        case yg359 => (intro wS hSw; (try dsimp only at hSw); go_simp <;> with_reducible rfl)
        try simp only [Act.put, gqa, gqb, gqc]
        refine wpG_pure (i := 2) (oi := ⟨some 83, .binOp .lss 3 (.tmp 82) (.const (.int .i64 0)) 3, 4, "l10_topic.go:200", #[⟨1, .data⟩], none⟩) (v := ?vg360) rfl (by kernel_rfl) (fun _ _ _ h => h) (Or.inr hHeld) (Or.inl ⟨by rfl, ?yg360⟩) ?_
        case yg360 => (intro wS _; go_simp <;> with_reducible rfl)
        try simp only [Act.put, gqa, gqb, gqc]
        refine wpG_pure (i := 3) (oi := ⟨some 84, .move (.tmp 83), 4, "l10_topic.go:200", #[⟨2, .data⟩], none⟩) (v := ?vg361) rfl (by kernel_rfl) (fun _ _ _ h => h) (Or.inr hHeld) (Or.inl ⟨by rfl, ?yg361⟩) ?_
        case yg361 => (intro wS _; go_simp <;> with_reducible rfl)
        try simp only [Act.put, gqa, gqb, gqc]
        refine wpG_pure (i := 4) (oi := ⟨some 85, .fieldAddr 58 (.tmp 5) 1, 0, "l10_topic.go:200", #[⟨3, .guard⟩], some (3, false)⟩) (v := ?vg362) rfl (by kernel_rfl) (fun _ _ _ h => h) (Or.inr hHeld) (Or.inl ⟨by rfl, ?yg362⟩) ?_
        case yg362 => (intro wS _; go_simp <;> with_reducible rfl)
        try simp only [Act.put, gqa, gqb, gqc]
        refine wpG_load (i := 5) (oi := ⟨some 86, .load 3 (.tmp 85), 3, "l10_topic.go:200", #[⟨4, .data⟩, ⟨3, .guard⟩], some (3, false)⟩) (v := ?vg363) [[42, 34, 33, 18, 9, 8, 7, 5]] rfl (by kernel_rfl) (fun _ _ _ h => h) hHeld (Or.inl ⟨by rfl, ?yg363⟩) ?_
        case yg363 => (intro wS hSw; (try dsimp only at hSw); go_simp <;> with_reducible rfl)
        try simp only [Act.put, gqa, gqb, gqc]
        refine wpG_pure (i := 6) (oi := ⟨some 87, .move (.tmp 4), 3, "l10_topic.go:200", #[⟨3, .guard⟩], some (3, false)⟩) (v := ?vg364) rfl (by kernel_rfl) (fun _ _ _ h => h) (Or.inr hHeld) (Or.inl ⟨by rfl, ?yg364⟩) ?_
        case yg364 => (intro wS _; go_simp <;> with_reducible rfl)
        try simp only [Act.put, gqa, gqb, gqc]
        refine wpG_pure (i := 7) (oi := ⟨some 88, .binOp .geq 3 (.tmp 86) (.tmp 87) 3, 4, "l10_topic.go:200", #[⟨5, .data⟩, ⟨6, .data⟩, ⟨3, .guard⟩], some (3, false)⟩) (v := ?vg365) rfl (by kernel_rfl) (fun _ _ _ h => h) (Or.inr hHeld) (Or.inl ⟨by rfl, ?yg365⟩) ?_
        case yg365 => (intro wS _; go_simp <;> with_reducible rfl)
        try simp only [Act.put, gqa, gqb, gqc]
        refine wpG_pure (i := 8) (oi := ⟨some 89, .pick (.tmp 84) (.const (.bool true)) (.tmp 88), 4, "l10_topic.go:200", #[⟨3, .data⟩, ⟨7, .data⟩], none⟩) (v := ?vg366) rfl (by kernel_rfl) (fun _ _ _ h => h) (Or.inr hHeld) (Or.inl ⟨by rfl, ?yg366⟩) ?_
        case yg366 => (intro wS _; go_simp <;> with_reducible rfl)
        try simp only [Act.put, gqa, gqb, gqc]
        refine wpG_pure (i := 9) (oi := ⟨some 90, .move (.tmp 89), 4, "l10_topic.go:200", #[⟨8, .data⟩, ⟨3, .chain⟩], none⟩) (v := ?vg367) rfl (by kernel_rfl) (fun _ _ _ h => h) (Or.inr hHeld) (Or.inl ⟨by rfl, ?yg367⟩) ?_
        case yg367 => (intro wS _; go_simp <;> with_reducible rfl)
        try simp only [Act.put, gqa, gqb, gqc]
        refine wpG_pure (i := 10) (oi := ⟨some 91, .move (.tmp 0), 24, "l10_topic.go:200", #[⟨9, .guard⟩], some (9, false)⟩) (v := ?vg368) rfl (by kernel_rfl) (fun _ _ _ h => h) (Or.inr hHeld) (Or.inl ⟨by rfl, ?yg368⟩) ?_
        case yg368 => (intro wS _; go_simp <;> with_reducible rfl)
        try simp only [Act.put, gqa, gqb, gqc]
        refine wpG_pure (i := 11) (oi := ⟨some 92, .fieldAddr 58 (.tmp 5) 1, 0, "l10_topic.go:200", #[⟨9, .guard⟩], some (9, false)⟩) (v := ?vg369) rfl (by kernel_rfl) (fun _ _ _ h => h) (Or.inr hHeld) (Or.inl ⟨by rfl, ?yg369⟩) ?_
        case yg369 => (intro wS _; go_simp <;> with_reducible rfl)
        try simp only [Act.put, gqa, gqb, gqc]
        refine wpG_load (i := 12) (oi := ⟨some 93, .load 3 (.tmp 92), 3, "l10_topic.go:200", #[⟨11, .data⟩, ⟨9, .guard⟩], some (9, false)⟩) (v := ?vg370) [[42, 34, 33, 18, 17, 16, 15, 14, 13, 12]] rfl (by kernel_rfl) (fun _ _ _ h => h) hHeld (Or.inl ⟨by rfl, ?yg370⟩) ?_
        case yg370 => (intro wS hSw; (try dsimp only at hSw); go_simp <;> with_reducible rfl)
        try simp only [Act.put, gqa, gqb, gqc]
        refine wpG_pure (i := 13) (oi := ⟨some 94, .indexAddr 24 (.tmp 91) (.tmp 93), 0, "l10_topic.go:200", #[⟨10, .data⟩, ⟨12, .data⟩, ⟨9, .guard⟩], some (9, false)⟩) (v := ?vg371) rfl (by kernel_rfl) (fun _ _ _ h => h) (Or.inr hHeld) (Or.inl ⟨by rfl, ?yg371⟩) ?_
        case yg371 => (intro wS _; go_simp <;> with_reducible rfl)
        try simp only [Act.put, gqa, gqb, gqc]
        refine wpG_pure (i := 14) (oi := ⟨some 95, .fieldAddr 58 (.tmp 94) 0, 0, "l10_topic.go:200", #[⟨13, .data⟩, ⟨9, .guard⟩], some (9, false)⟩) (v := ?vg372) rfl (by kernel_rfl) (fun _ _ _ h => h) (Or.inr hHeld) (Or.inl ⟨by rfl, ?yg372⟩) ?_
        case yg372 => (intro wS _; go_simp <;> with_reducible rfl)
        try simp only [Act.put, gqa, gqb, gqc]
        refine wpG_load (i := 15) (oi := ⟨some 96, .load 9 (.tmp 95), 9, "l10_topic.go:200", #[⟨14, .data⟩, ⟨9, .guard⟩], some (9, false)⟩) (v := ?vg373) [[42, 34, 33, 18, 17, 16, 15]] rfl (by kernel_rfl) (fun _ _ _ h => h) hHeld (Or.inl ⟨by rfl, ?yg373⟩) ?_
        case yg373 => (intro wS hSw; (try dsimp only at hSw); go_simp <;> with_reducible rfl)
        try simp only [Act.put, gqa, gqb, gqc]
        refine wpG_pure (i := 16) (oi := ⟨some 97, .binOp .eql 9 (.tmp 96) (.const (.string { data := #[35] })) 9, 4, "l10_topic.go:200", #[⟨15, .data⟩, ⟨9, .guard⟩], some (9, false)⟩) (v := ?vg374) rfl (by kernel_rfl) (fun _ _ _ h => h) (Or.inr hHeld) (Or.inl ⟨by rfl, ?yg374⟩) ?_
        case yg374 => (intro wS _; go_simp <;> with_reducible rfl)
        try simp only [Act.put, gqa, gqb, gqc]
        refine wpG_pure (i := 17) (oi := ⟨some 98, .pick (.tmp 90) (.const (.bool true)) (.tmp 97), 4, "l10_topic.go:200", #[⟨9, .data⟩, ⟨16, .data⟩], none⟩) (v := ?vg375) rfl (by kernel_rfl) (fun _ _ _ h => h) (Or.inr hHeld) (Or.inl ⟨by rfl, ?yg375⟩) ?_
        case yg375 => (intro wS _; go_simp <;> with_reducible rfl)
        try simp only [Act.put, gqa, gqb, gqc]
        refine wpG_pure (i := 18) (oi := ⟨some 99, .move (.tmp 98), 4, "l10_topic.go:200", #[⟨17, .data⟩, ⟨9, .chain⟩], none⟩) (v := ?vg376) rfl (by kernel_rfl) (fun _ _ _ h => h) (Or.inr hHeld) (Or.inl ⟨by rfl, ?yg376⟩) ?_
        case yg376 => (intro wS _; go_simp <;> with_reducible rfl)
        try simp only [Act.put, gqa, gqb, gqc]
        refine wpG_pure (i := 19) (oi := ⟨some 100, .fieldAddr 58 (.tmp 5) 0, 0, "l10_topic.go:200", #[⟨18, .guard⟩], some (18, false)⟩) (v := ?vg377) rfl (by kernel_rfl) (fun _ _ _ h => h) (Or.inr hHeld) (Or.inl ⟨by rfl, ?yg377⟩) ?_
        case yg377 => (intro wS _; go_simp <;> with_reducible rfl)
        try simp only [Act.put, gqa, gqb, gqc]
        refine wpG_load (i := 20) (oi := ⟨some 101, .load 9 (.tmp 100), 9, "l10_topic.go:200", #[⟨19, .data⟩, ⟨18, .guard⟩], some (18, false)⟩) (v := ?vg378) [[42, 34, 28, 23, 21, 20]] rfl (by kernel_rfl) (fun _ _ _ h => h) hHeld (Or.inl ⟨by rfl, ?yg378⟩) ?_
        case yg378 => (intro wS hSw; (try dsimp only at hSw); go_simp <;> with_reducible rfl)
        try simp only [Act.put, gqa, gqb, gqc]
        refine wpG_one (i := 21) (o := ⟨some 102, .call { callee := .value (.func 58), args := #[.tmp 101], argTypes := #[9] }, 4, "l10_topic.go:200", #[⟨20, .data⟩, ⟨18, .chain⟩, ⟨18, .guard⟩], some (18, false)⟩) rfl (by kernel_rfl) (fun K hK => ?_)
        go_simp
        refine (HLV.out _).mono ?_
        rw [HLL.out]
        rintro e w' ⟨rfl, rfl⟩
        refine hK.out _ _ (Or.inr ?khHeld379) (fun hHeld379S => ?_)
        case khHeld379 => exact ⟨f0, f1, d1⟩
        have hHeld379 := hHeld379S.held (by kernel_rfl)
        clear hK K
        try simp only [Act.put, gqa, gqb, gqc]
        refine wpG_pure (i := 22) (oi := ⟨some 103, .unOp .not 4 (.tmp 102), 4, "l10_topic.go:200", #[⟨21, .data⟩, ⟨18, .guard⟩], some (18, false)⟩) (v := ?vg380) rfl (by kernel_rfl) (fun _ _ _ h => h) (Or.inr hHeld379) (Or.inl ⟨by rfl, ?yg380⟩) ?_
        case yg380 => (intro wS _; go_simp <;> with_reducible rfl)
        try simp only [Act.put, gqa, gqb, gqc]
        refine wpG_pure (i := 23) (oi := ⟨some 104, .move (.tmp 103), 4, "l10_topic.go:200", #[⟨22, .data⟩, ⟨21, .chain⟩, ⟨18, .guard⟩], some (18, false)⟩) (v := ?vg381) rfl (by kernel_rfl) (fun _ _ _ h => h) (Or.inr hHeld379) (Or.inl ⟨by rfl, ?yg381⟩) ?_
        case yg381 => (intro wS _; go_simp <;> with_reducible rfl)
        try simp only [Act.put, gqa, gqb, gqc]
        refine wpG_pure (i := 24) (oi := ⟨some 105, .fieldAddr 58 (.tmp 5) 0, 0, "l10_topic.go:200", #[⟨23, .guard⟩], some (23, true)⟩) (v := ?vg382) rfl (by kernel_rfl) (fun _ _ _ h => h) (Or.inr hHeld379) (Or.inl ⟨by rfl, ?yg382⟩) ?_
        case yg382 => (intro wS _; go_simp <;> with_reducible rfl)
        try simp only [Act.put, gqa, gqb, gqc]
        refine wpG_load (i := 25) (oi := ⟨some 106, .load 9 (.tmp 105), 9, "l10_topic.go:200", #[⟨24, .data⟩, ⟨23, .guard⟩], some (23, true)⟩) (v := ?vg383) [[42, 34, 28, 27, 26, 25]] rfl (by kernel_rfl) (fun _ _ _ h => h) hHeld379 (Or.inl ⟨by rfl, ?yg383⟩) ?_
        case yg383 => (intro wS hSw; (try dsimp only at hSw); go_simp <;> with_reducible rfl)
        try simp only [Act.put, gqa, gqb, gqc]
        refine wpG_pure (i := 26) (oi := ⟨some 107, .binOp .neq 9 (.tmp 106) (.const (.string { data := #[43] })) 9, 4, "l10_topic.go:200", #[⟨25, .data⟩, ⟨23, .guard⟩], some (23, true)⟩) (v := ?vg384) rfl (by kernel_rfl) (fun _ _ _ h => h) (Or.inr hHeld379) (Or.inl ⟨by rfl, ?yg384⟩) ?_
        case yg384 => (intro wS _; go_simp <;> with_reducible rfl)
        try simp only [Act.put, gqa, gqb, gqc]
        refine wpG_pure (i := 27) (oi := ⟨some 108, .pick (.tmp 104) (.tmp 107) (.const (.bool false)), 4, "l10_topic.go:200", #[⟨23, .data⟩, ⟨26, .data⟩, ⟨18, .guard⟩], some (18, false)⟩) (v := ?vg385) rfl (by kernel_rfl) (fun _ _ _ h => h) (Or.inr hHeld379) (Or.inl ⟨by rfl, ?yg385⟩) ?_
        case yg385 => (intro wS _; go_simp <;> with_reducible rfl)
        try simp only [Act.put, gqa, gqb, gqc]
        refine wpG_pure (i := 28) (oi := ⟨some 109, .move (.tmp 108), 4, "l10_topic.go:200", #[⟨27, .data⟩, ⟨23, .chain⟩, ⟨18, .guard⟩], some (18, false)⟩) (v := ?vg386) rfl (by kernel_rfl) (fun _ _ _ h => h) (Or.inr hHeld379) (Or.inl ⟨by rfl, ?yg386⟩) ?_
        case yg386 => (intro wS _; go_simp <;> with_reducible rfl)
        try simp only [Act.put, gqa, gqb, gqc]
        refine wpG_pure (i := 29) (oi := ⟨some 110, .fieldAddr 58 (.tmp 5) 0, 0, "l10_topic.go:200", #[⟨28, .guard⟩], some (28, true)⟩) (v := undef) rfl (by kernel_rfl) (fun _ _ _ h => h) (Or.inr hHeld379) (Or.inr ⟨by rfl, rfl⟩) ?_
        try simp only [Act.put, gqa, gqb, gqc]
        refine wpG_pure (i := 30) (oi := ⟨some 111, .load 9 (.tmp 110), 9, "l10_topic.go:200", #[⟨29, .data⟩, ⟨28, .guard⟩], some (28, true)⟩) (v := undef) rfl (by kernel_rfl) (fun _ _ _ h => h) (Or.inr hHeld379) (Or.inr ⟨by rfl, rfl⟩) ?_
        try simp only [Act.put, gqa, gqb, gqc]
        refine wpG_pure (i := 31) (oi := ⟨some 112, .binOp .neq 9 (.tmp 111) (.const (.string { data := #[35] })) 9, 4, "l10_topic.go:200", #[⟨30, .data⟩, ⟨28, .guard⟩], some (28, true)⟩) (v := undef) rfl (by kernel_rfl) (fun _ _ _ h => h) (Or.inr hHeld379) (Or.inr ⟨by rfl, rfl⟩) ?_
        try simp only [Act.put, gqa, gqb, gqc]
        refine wpG_pure (i := 32) (oi := ⟨some 113, .pick (.tmp 109) (.tmp 112) (.const (.bool false)), 4, "l10_topic.go:200", #[⟨28, .data⟩, ⟨31, .data⟩, ⟨18, .guard⟩], some (18, false)⟩) (v := ?vg390) rfl (by kernel_rfl) (fun _ _ _ h => h) (Or.inr hHeld379) (Or.inl ⟨by rfl, ?yg390⟩) ?_
        case yg390 => (intro wS _; go_simp <;> with_reducible rfl)
        try simp only [Act.put, gqa, gqb, gqc]
        refine wpG_pure (i := 33) (oi := ⟨some 114, .pick (.tmp 99) (.const (.bool true)) (.tmp 113), 4, "l10_topic.go:200", #[⟨18, .data⟩, ⟨32, .data⟩], none⟩) (v := ?vg391) rfl (by kernel_rfl) (fun _ _ _ h => h) (Or.inr hHeld379) (Or.inl ⟨by rfl, ?yg391⟩) ?_
        case yg391 => (intro wS _; go_simp <;> with_reducible rfl)
        try simp only [Act.put, gqa, gqb, gqc]
        refine wpG_pure (i := 34) (oi := ⟨some 115, .move (.tmp 114), 4, "l10_topic.go:200", #[⟨33, .data⟩, ⟨28, .chain⟩], none⟩) (v := ?vg392) rfl (by kernel_rfl) (fun _ _ _ h => h) (Or.inr hHeld379) (Or.inl ⟨by rfl, ?yg392⟩) ?_
        case yg392 => (intro wS _; go_simp <;> with_reducible rfl)
        try simp only [Act.put, gqa, gqb, gqc]
        refine wpG_pure (i := 35) (oi := ⟨some 116, .move (.tmp 0), 24, "l10_topic.go:200", #[⟨34, .guard⟩], some (34, false)⟩) (v := ?vg393) rfl (by kernel_rfl) (fun _ _ _ h => h) (Or.inr hHeld379) (Or.inl ⟨by rfl, ?yg393⟩) ?_
        case yg393 => (intro wS _; go_simp <;> with_reducible rfl)
        try simp only [Act.put, gqa, gqb, gqc]
        refine wpG_pure (i := 36) (oi := ⟨some 117, .move (.tmp 4), 3, "l10_topic.go:200", #[⟨34, .guard⟩], some (34, false)⟩) (v := ?vg394) rfl (by kernel_rfl) (fun _ _ _ h => h) (Or.inr hHeld379) (Or.inl ⟨by rfl, ?yg394⟩) ?_
        case yg394 => (intro wS _; go_simp <;> with_reducible rfl)
        try simp only [Act.put, gqa, gqb, gqc]
        refine wpG_pure (i := 37) (oi := ⟨some 118, .slice 24 (.tmp 116) none (some (.tmp 117)) none, 24, "l10_topic.go:200", #[⟨35, .data⟩, ⟨36, .data⟩, ⟨34, .guard⟩], some (34, false)⟩) (v := ?vg395) rfl (by kernel_rfl) (fun _ _ _ h => h) (Or.inr hHeld379) (Or.inl ⟨by rfl, ?yg395⟩) ?_
        case yg395 => (intro wS _; go_simp <;> with_reducible rfl)
        try simp only [Act.put, gqa, gqb, gqc]
        refine wpG_pure (i := 38) (oi := ⟨some 119, .fieldAddr 58 (.tmp 5) 1, 0, "l10_topic.go:200", #[⟨34, .guard⟩], some (34, false)⟩) (v := ?vg396) rfl (by kernel_rfl) (fun _ _ _ h => h) (Or.inr hHeld379) (Or.inl ⟨by rfl, ?yg396⟩) ?_
        case yg396 => (intro wS _; go_simp <;> with_reducible rfl)
        try simp only [Act.put, gqa, gqb, gqc]
        refine wpG_load (i := 39) (oi := ⟨some 120, .load 3 (.tmp 119), 3, "l10_topic.go:200", #[⟨38, .data⟩, ⟨34, .guard⟩], some (34, false)⟩) (v := ?vg397) [[42, 39]] rfl (by kernel_rfl) (fun _ _ _ h => h) hHeld379 (Or.inl ⟨by rfl, ?yg397⟩) ?_
        case yg397 => (intro wS hSw; (try dsimp only at hSw); go_simp <;> with_reducible rfl)
        try simp only [Act.put, gqa, gqb, gqc]
        refine wpG_pure (i := 40) (oi := ⟨some 121, .fieldAddr 58 (.tmp 5) 0, 0, "l10_topic.go:200", #[⟨34, .guard⟩], some (34, false)⟩) (v := ?vg398) rfl (by kernel_rfl) (fun _ _ _ h => h) (Or.inr hHeld379) (Or.inl ⟨by rfl, ?yg398⟩) ?_
        case yg398 => (intro wS _; go_simp <;> with_reducible rfl)
        try simp only [Act.put, gqa, gqb, gqc]
        refine wpG_load (i := 41) (oi := ⟨some 122, .load 9 (.tmp 121), 9, "l10_topic.go:200", #[⟨40, .data⟩, ⟨34, .guard⟩], some (34, false)⟩) (v := ?vg399) [[42, 41]] rfl (by kernel_rfl) (fun _ _ _ h => h) hHeld379 (Or.inl ⟨by rfl, ?yg399⟩) ?_
        case yg399 => (intro wS hSw; (try dsimp only at hSw); go_simp <;> with_reducible rfl)
        try simp only [Act.put, gqa, gqb, gqc]
        refine wpG_one (i := 42) (o := ⟨some 123, .call { callee := .value (.func 68), args := #[.tmp 118, .tmp 120, .tmp 122], argTypes := #[24, 3, 9] }, 3, "l10_topic.go:200", #[⟨37, .data⟩, ⟨39, .data⟩, ⟨41, .data⟩, ⟨34, .chain⟩, ⟨34, .guard⟩], some (34, false)⟩) rfl (by kernel_rfl) (fun K hK => ?_)
        go_simp
        refine (HKD.out _ HWD.out).mono ?_
        rintro e w3 ⟨rfl, hb3⟩
        have HB3 := Lib.hid (HWD.out.trans (hb3.mono HWD.out.size)); have HC3 := Lib.hid (HWC.out.trans (hb3.mono hzd)); clear hb3
        refine hK.out _ _ (Or.inl (by kernel_rfl)) (fun _ => ?_)
        clear hK K
        try simp only [Act.put, gqa, gqb, gqc]
        refine wpG_pure (i := 43) (oi := ⟨some 124, .binOp .geq 3 (.tmp 123) (.const (.int .i64 0)) 3, 4, "l10_topic.go:200", #[⟨42, .data⟩, ⟨34, .guard⟩], some (34, false)⟩) (v := ?vg401) rfl (by kernel_rfl) (fun _ _ _ h => h) (Or.inl (by kernel_rfl)) (Or.inl ⟨by rfl, ?yg401⟩) ?_
        case yg401 => (intro wS _; go_simp <;> with_reducible rfl)
        try simp only [Act.put, gqa, gqb, gqc]
        refine wpG_pure (i := 44) (oi := ⟨some 125, .pick (.tmp 115) (.const (.bool true)) (.tmp 124), 4, "l10_topic.go:200", #[⟨34, .data⟩, ⟨43, .data⟩], none⟩) (v := ?vg402) rfl (by kernel_rfl) (fun _ _ _ h => h) (Or.inl (by kernel_rfl)) (Or.inl ⟨by rfl, ?yg402⟩) ?_
        case yg402 => (intro wS _; go_simp <;> with_reducible rfl)
        try simp only [Act.put, gqa, gqb, gqc]
        refine wpG_pure (i := 45) (oi := ⟨some 126, .move (.tmp 125), 4, "l10_topic.go:200", #[⟨44, .data⟩, ⟨42, .chain⟩], none⟩) (v := ?vg403) rfl (by kernel_rfl) (fun _ _ _ h => h) (Or.inl (by kernel_rfl)) (Or.inl ⟨by rfl, ?yg403⟩) ?_
        case yg403 => (intro wS _; go_simp <;> with_reducible rfl)
        try simp only [Act.put, gqa, gqb, gqc]
        refine wpG_pure (i := 46) (oi := ⟨some 127, .move (.tmp 0), 24, "l10_topic.go:200", #[⟨45, .guard⟩], some (45, false)⟩) (v := ?vg404) rfl (by kernel_rfl) (fun _ _ _ h => h) (Or.inl (by kernel_rfl)) (Or.inl ⟨by rfl, ?yg404⟩) ?_
        case yg404 => (intro wS _; go_simp <;> with_reducible rfl)
        try simp only [Act.put, gqa, gqb, gqc]
        refine wpG_pure (i := 47) (oi := ⟨some 128, .move (.tmp 4), 3, "l10_topic.go:200", #[⟨45, .guard⟩], some (45, false)⟩) (v := ?vg405) rfl (by kernel_rfl) (fun _ _ _ h => h) (Or.inl (by kernel_rfl)) (Or.inl ⟨by rfl, ?yg405⟩) ?_
        case yg405 => (intro wS _; go_simp <;> with_reducible rfl)
        try simp only [Act.put, gqa, gqb, gqc]
        refine wpG_one (i := 48) (o := ⟨some 129, .call { callee := .value (.func 81), args := #[.tmp 127, .tmp 128], argTypes := #[24, 3] }, 3, "l10_topic.go:200", #[⟨46, .data⟩, ⟨47, .data⟩, ⟨45, .chain⟩, ⟨45, .guard⟩], some (45, false)⟩) rfl (by kernel_rfl) (fun K hK => ?_)
        go_simp
        refine (HDP.out _ HB3.out).mono ?_
        rintro e w' ⟨rfl, rfl⟩
        refine hK.out _ _ (Or.inl (by kernel_rfl)) (fun _ => ?_)
        clear hK K
        try simp only [Act.put, gqa, gqb, gqc]
        refine wpG_pure (i := 49) (oi := ⟨some 130, .binOp .gtr 3 (.tmp 129) (.const (.int .i64 6)) 3, 4, "l10_topic.go:200", #[⟨48, .data⟩, ⟨45, .guard⟩], some (45, false)⟩) (v := ?vg407) rfl (by kernel_rfl) (fun _ _ _ h => h) (Or.inl (by kernel_rfl)) (Or.inl ⟨by rfl, ?yg407⟩) ?_
        case yg407 => (intro wS _; go_simp <;> with_reducible rfl)
        try simp only [Act.put, gqa, gqb, gqc]
        refine wpG_pure (i := 50) (oi := ⟨some 131, .pick (.tmp 126) (.const (.bool true)) (.tmp 130), 4, "l10_topic.go:200", #[⟨45, .data⟩, ⟨49, .data⟩], none⟩) (v := ?vg408) rfl (by kernel_rfl) (fun _ _ _ h => h) (Or.inl (by kernel_rfl)) (Or.inl ⟨by rfl, ?yg408⟩) ?_
        case yg408 => (intro wS _; go_simp <;> with_reducible rfl)
        try simp only [Act.put, gqa, gqb, gqc]
        refine wpG_done (by kernel_rfl) ?_
        (go_wp2_with fail; go_ret; exact ⟨ret_bool HN.out.symm, HB3.out⟩)
      have HH := Lib.hid (HHY.out HHK.out hd6)
      have HNB := Lib.hid fun h => HNB0.out HH.out h
      have HNO := Lib.hid fun h => HNO0.out HH.out h
      clear HH HHK HHY HNB0 HNO0
      generalize depR t k k = dp at *
      have q9 : ¬ (6 : Int) < (dp : Int) := by omega
      clear hd6
      refine wp_region_G [42] (fun w' => w'.cell? ⟨wo.heap.size, 0, none⟩ = some (.string x.1) ∧ w'.cell? ⟨wo.heap.size, 1, none⟩ = some (.int .i64 x.2.1) ∧ w'.cell? ⟨b, off + x.2.1.toNat * 3, none⟩ = some (.string y.1)) (by kernel_rfl) ?_ (fun hHeld => ?_)
      · exact ⟨f0, f1, d1⟩
      refine wpG_pure (i := 0) (oi := ⟨some 81, .fieldAddr 58 (.tmp 5) 1, 0, "l10_topic.go:200", #[], none⟩) (v := ?vg409) rfl (by kernel_rfl) (fun _ _ _ h => h) (Or.inr hHeld) (Or.inl ⟨by rfl, ?yg409⟩) ?_
      case yg409 => (intro wS _; go_simp <;> with_reducible rfl)
      try simp only [Act.put, gqa, gqb, gqc]
      refine wpG_load (i := 1) (oi := ⟨some 82, .load 3 (.tmp 81), 3, "l10_topic.go:200", #[⟨0, .data⟩], none⟩) (v := ?vg410) [[42, 34, 33, 18, 9, 3, 2, 1]] rfl (by kernel_rfl) (fun _ _ _ h => h) hHeld (Or.inl ⟨by rfl, ?yg410⟩) ?_
      case yg410 => (intro wS hSw; (try dsimp only at hSw); go_simp <;> with_reducible rfl)
      try simp only [Act.put, gqa, gqb, gqc]
      refine wpG_pure (i := 2) (oi := ⟨some 83, .binOp .lss 3 (.tmp 82) (.const (.int .i64 0)) 3, 4, "l10_topic.go:200", #[⟨1, .data⟩], none⟩) (v := ?vg411) rfl (by kernel_rfl) (fun _ _ _ h => h) (Or.inr hHeld) (Or.inl ⟨by rfl, ?yg411⟩) ?_
      case yg411 => (intro wS _; go_simp <;> with_reducible rfl)
      try simp only [Act.put, gqa, gqb, gqc]
      refine wpG_pure (i := 3) (oi := ⟨some 84, .move (.tmp 83), 4, "l10_topic.go:200", #[⟨2, .data⟩], none⟩) (v := ?vg412) rfl (by kernel_rfl) (fun _ _ _ h => h) (Or.inr hHeld) (Or.inl ⟨by rfl, ?yg412⟩) ?_
      case yg412 => (intro wS _; go_simp <;> with_reducible rfl)
      try simp only [Act.put, gqa, gqb, gqc]
      refine wpG_pure (i := 4) (oi := ⟨some 85, .fieldAddr 58 (.tmp 5) 1, 0, "l10_topic.go:200", #[⟨3, .guard⟩], some (3, false)⟩) (v := ?vg413) rfl (by kernel_rfl) (fun _ _ _ h => h) (Or.inr hHeld) (Or.inl ⟨by rfl, ?yg413⟩) ?_
      case yg413 => (intro wS _; go_simp <;> with_reducible rfl)
      try simp only [Act.put, gqa, gqb, gqc]
      refine wpG_load (i := 5) (oi := ⟨some 86, .load 3 (.tmp 85), 3, "l10_topic.go:200", #[⟨4, .data⟩, ⟨3, .guard⟩], some (3, false)⟩) (v := ?vg414) [[42, 34, 33, 18, 9, 8, 7, 5]] rfl (by kernel_rfl) (fun _ _ _ h => h) hHeld (Or.inl ⟨by rfl, ?yg414⟩) ?_
      case yg414 => (intro wS hSw; (try dsimp only at hSw); go_simp <;> with_reducible rfl)
      try simp only [Act.put, gqa, gqb, gqc]
      refine wpG_pure (i := 6) (oi := ⟨some 87, .move (.tmp 4), 3, "l10_topic.go:200", #[⟨3, .guard⟩], some (3, false)⟩) (v := ?vg415) rfl (by kernel_rfl) (fun _ _ _ h => h) (Or.inr hHeld) (Or.inl ⟨by rfl, ?yg415⟩) ?_
      case yg415 => (intro wS _; go_simp <;> with_reducible rfl)
      try simp only [Act.put, gqa, gqb, gqc]
      refine wpG_pure (i := 7) (oi := ⟨some 88, .binOp .geq 3 (.tmp 86) (.tmp 87) 3, 4, "l10_topic.go:200", #[⟨5, .data⟩, ⟨6, .data⟩, ⟨3, .guard⟩], some (3, false)⟩) (v := ?vg416) rfl (by kernel_rfl) (fun _ _ _ h => h) (Or.inr hHeld) (Or.inl ⟨by rfl, ?yg416⟩) ?_
      case yg416 => (intro wS _; go_simp <;> with_reducible rfl)
      try simp only [Act.put, gqa, gqb, gqc]
      refine wpG_pure (i := 8) (oi := ⟨some 89, .pick (.tmp 84) (.const (.bool true)) (.tmp 88), 4, "l10_topic.go:200", #[⟨3, .data⟩, ⟨7, .data⟩], none⟩) (v := ?vg417) rfl (by kernel_rfl) (fun _ _ _ h => h) (Or.inr hHeld) (Or.inl ⟨by rfl, ?yg417⟩) ?_
      case yg417 => (intro wS _; go_simp <;> with_reducible rfl)
      try simp only [Act.put, gqa, gqb, gqc]
      refine wpG_pure (i := 9) (oi := ⟨some 90, .move (.tmp 89), 4, "l10_topic.go:200", #[⟨8, .data⟩, ⟨3, .chain⟩], none⟩) (v := ?vg418) rfl (by kernel_rfl) (fun _ _ _ h => h) (Or.inr hHeld) (Or.inl ⟨by rfl, ?yg418⟩) ?_
      case yg418 => (intro wS _; go_simp <;> with_reducible rfl)
      try simp only [Act.put, gqa, gqb, gqc]
      refine wpG_pure (i := 10) (oi := ⟨some 91, .move (.tmp 0), 24, "l10_topic.go:200", #[⟨9, .guard⟩], some (9, false)⟩) (v := ?vg419) rfl (by kernel_rfl) (fun _ _ _ h => h) (Or.inr hHeld) (Or.inl ⟨by rfl, ?yg419⟩) ?_
      case yg419 => (intro wS _; go_simp <;> with_reducible rfl)
      try simp only [Act.put, gqa, gqb, gqc]
      refine wpG_pure (i := 11) (oi := ⟨some 92, .fieldAddr 58 (.tmp 5) 1, 0, "l10_topic.go:200", #[⟨9, .guard⟩], some (9, false)⟩) (v := ?vg420) rfl (by kernel_rfl) (fun _ _ _ h => h) (Or.inr hHeld) (Or.inl ⟨by rfl, ?yg420⟩) ?_
      case yg420 => (intro wS _; go_simp <;> with_reducible rfl)
      try simp only [Act.put, gqa, gqb, gqc]
      refine wpG_load (i := 12) (oi := ⟨some 93, .load 3 (.tmp 92), 3, "l10_topic.go:200", #[⟨11, .data⟩, ⟨9, .guard⟩], some (9, false)⟩) (v := ?vg421) [[42, 34, 33, 18, 17, 16, 15, 14, 13, 12]] rfl (by kernel_rfl) (fun _ _ _ h => h) hHeld (Or.inl ⟨by rfl, ?yg421⟩) ?_
      case yg421 => (intro wS hSw; (try dsimp only at hSw); go_simp <;> with_reducible rfl)
      try simp only [Act.put, gqa, gqb, gqc]
      refine wpG_pure (i := 13) (oi := ⟨some 94, .indexAddr 24 (.tmp 91) (.tmp 93), 0, "l10_topic.go:200", #[⟨10, .data⟩, ⟨12, .data⟩, ⟨9, .guard⟩], some (9, false)⟩) (v := ?vg422) rfl (by kernel_rfl) (fun _ _ _ h => h) (Or.inr hHeld) (Or.inl ⟨by rfl, ?yg422⟩) ?_
      case yg422 => (intro wS _; go_simp <;> with_reducible rfl)
      try simp only [Act.put, gqa, gqb, gqc]
      refine wpG_pure (i := 14) (oi := ⟨some 95, .fieldAddr 58 (.tmp 94) 0, 0, "l10_topic.go:200", #[⟨13, .data⟩, ⟨9, .guard⟩], some (9, false)⟩) (v := ?vg423) rfl (by kernel_rfl) (fun _ _ _ h => h) (Or.inr hHeld) (Or.inl ⟨by rfl, ?yg423⟩) ?_
      case yg423 => (intro wS _; go_simp <;> with_reducible rfl)
      try simp only [Act.put, gqa, gqb, gqc]
      refine wpG_load (i := 15) (oi := ⟨some 96, .load 9 (.tmp 95), 9, "l10_topic.go:200", #[⟨14, .data⟩, ⟨9, .guard⟩], some (9, false)⟩) (v := ?vg424) [[42, 34, 33, 18, 17, 16, 15]] rfl (by kernel_rfl) (fun _ _ _ h => h) hHeld (Or.inl ⟨by rfl, ?yg424⟩) ?_
      case yg424 => (intro wS hSw; (try dsimp only at hSw); go_simp <;> with_reducible rfl)
      try simp only [Act.put, gqa, gqb, gqc]
      refine wpG_pure (i := 16) (oi := ⟨some 97, .binOp .eql 9 (.tmp 96) (.const (.string { data := #[35] })) 9, 4, "l10_topic.go:200", #[⟨15, .data⟩, ⟨9, .guard⟩], some (9, false)⟩) (v := ?vg425) rfl (by kernel_rfl) (fun _ _ _ h => h) (Or.inr hHeld) (Or.inl ⟨by rfl, ?yg425⟩) ?_
      case yg425 => (intro wS _; go_simp <;> with_reducible rfl)
      try simp only [Act.put, gqa, gqb, gqc]
      refine wpG_pure (i := 17) (oi := ⟨some 98, .pick (.tmp 90) (.const (.bool true)) (.tmp 97), 4, "l10_topic.go:200", #[⟨9, .data⟩, ⟨16, .data⟩], none⟩) (v := ?vg426) rfl (by kernel_rfl) (fun _ _ _ h => h) (Or.inr hHeld) (Or.inl ⟨by rfl, ?yg426⟩) ?_
      case yg426 => (intro wS _; go_simp <;> with_reducible rfl)
      try simp only [Act.put, gqa, gqb, gqc]
      refine wpG_pure (i := 18) (oi := ⟨some 99, .move (.tmp 98), 4, "l10_topic.go:200", #[⟨17, .data⟩, ⟨9, .chain⟩], none⟩) (v := ?vg427) rfl (by kernel_rfl) (fun _ _ _ h => h) (Or.inr hHeld) (Or.inl ⟨by rfl, ?yg427⟩) ?_
      case yg427 => (intro wS _; go_simp <;> with_reducible rfl)
      try simp only [Act.put, gqa, gqb, gqc]
      refine wpG_pure (i := 19) (oi := ⟨some 100, .fieldAddr 58 (.tmp 5) 0, 0, "l10_topic.go:200", #[⟨18, .guard⟩], some (18, false)⟩) (v := ?vg428) rfl (by kernel_rfl) (fun _ _ _ h => h) (Or.inr hHeld) (Or.inl ⟨by rfl, ?yg428⟩) ?_
      case yg428 => (intro wS _; go_simp <;> with_reducible rfl)
      try simp only [Act.put, gqa, gqb, gqc]
      refine wpG_load (i := 20) (oi := ⟨some 101, .load 9 (.tmp 100), 9, "l10_topic.go:200", #[⟨19, .data⟩, ⟨18, .guard⟩], some (18, false)⟩) (v := ?vg429) [[42, 34, 28, 23, 21, 20]] rfl (by kernel_rfl) (fun _ _ _ h => h) hHeld (Or.inl ⟨by rfl, ?yg429⟩) ?_
      case yg429 => (intro wS hSw; (try dsimp only at hSw); go_simp <;> with_reducible rfl)
      try simp only [Act.put, gqa, gqb, gqc]
      refine wpG_one (i := 21) (o := ⟨some 102, .call { callee := .value (.func 58), args := #[.tmp 101], argTypes := #[9] }, 4, "l10_topic.go:200", #[⟨20, .data⟩, ⟨18, .chain⟩, ⟨18, .guard⟩], some (18, false)⟩) rfl (by kernel_rfl) (fun K hK => ?_)
      go_simp
      refine (HLV.out _).mono ?_
      rw [HLL.out]
      rintro e w' ⟨rfl, rfl⟩
      refine hK.out _ _ (Or.inr ?khHeld430) (fun hHeld430S => ?_)
      case khHeld430 => exact ⟨f0, f1, d1⟩
      have hHeld430 := hHeld430S.held (by kernel_rfl)
      clear hK K
      try simp only [Act.put, gqa, gqb, gqc]
      refine wpG_pure (i := 22) (oi := ⟨some 103, .unOp .not 4 (.tmp 102), 4, "l10_topic.go:200", #[⟨21, .data⟩, ⟨18, .guard⟩], some (18, false)⟩) (v := ?vg431) rfl (by kernel_rfl) (fun _ _ _ h => h) (Or.inr hHeld430) (Or.inl ⟨by rfl, ?yg431⟩) ?_
      case yg431 => (intro wS _; go_simp <;> with_reducible rfl)
      try simp only [Act.put, gqa, gqb, gqc]
      refine wpG_pure (i := 23) (oi := ⟨some 104, .move (.tmp 103), 4, "l10_topic.go:200", #[⟨22, .data⟩, ⟨21, .chain⟩, ⟨18, .guard⟩], some (18, false)⟩) (v := ?vg432) rfl (by kernel_rfl) (fun _ _ _ h => h) (Or.inr hHeld430) (Or.inl ⟨by rfl, ?yg432⟩) ?_
      case yg432 => (intro wS _; go_simp <;> with_reducible rfl)
      try simp only [Act.put, gqa, gqb, gqc]
      refine wpG_pure (i := 24) (oi := ⟨some 105, .fieldAddr 58 (.tmp 5) 0, 0, "l10_topic.go:200", #[⟨23, .guard⟩], some (23, true)⟩) (v := ?vg433) rfl (by kernel_rfl) (fun _ _ _ h => h) (Or.inr hHeld430) (Or.inl ⟨by rfl, ?yg433⟩) ?_
      case yg433 => (intro wS _; go_simp <;> with_reducible rfl)
      try simp only [Act.put, gqa, gqb, gqc]
      refine wpG_load (i := 25) (oi := ⟨some 106, .load 9 (.tmp 105), 9, "l10_topic.go:200", #[⟨24, .data⟩, ⟨23, .guard⟩], some (23, true)⟩) (v := ?vg434) [[42, 34, 28, 27, 26, 25]] rfl (by kernel_rfl) (fun _ _ _ h => h) hHeld430 (Or.inl ⟨by rfl, ?yg434⟩) ?_
      case yg434 => (intro wS hSw; (try dsimp only at hSw); go_simp <;> with_reducible rfl)
      try simp only [Act.put, gqa, gqb, gqc]
      refine wpG_pure (i := 26) (oi := ⟨some 107, .binOp .neq 9 (.tmp 106) (.const (.string { data := #[43] })) 9, 4, "l10_topic.go:200", #[⟨25, .data⟩, ⟨23, .guard⟩], some (23, true)⟩) (v := ?vg435) rfl (by kernel_rfl) (fun _ _ _ h => h) (Or.inr hHeld430) (Or.inl ⟨by rfl, ?yg435⟩) ?_
      case yg435 => (intro wS _; go_simp <;> with_reducible rfl)
      try simp only [Act.put, gqa, gqb, gqc]
      refine wpG_pure (i := 27) (oi := ⟨some 108, .pick (.tmp 104) (.tmp 107) (.const (.bool false)), 4, "l10_topic.go:200", #[⟨23, .data⟩, ⟨26, .data⟩, ⟨18, .guard⟩], some (18, false)⟩) (v := ?vg436) rfl (by kernel_rfl) (fun _ _ _ h => h) (Or.inr hHeld430) (Or.inl ⟨by rfl, ?yg436⟩) ?_
      case yg436 => (intro wS _; go_simp <;> with_reducible rfl)
      try simp only [Act.put, gqa, gqb, gqc]
      refine wpG_pure (i := 28) (oi := ⟨some 109, .move (.tmp 108), 4, "l10_topic.go:200", #[⟨27, .data⟩, ⟨23, .chain⟩, ⟨18, .guard⟩], some (18, false)⟩) (v := ?vg437) rfl (by kernel_rfl) (fun _ _ _ h => h) (Or.inr hHeld430) (Or.inl ⟨by rfl, ?yg437⟩) ?_
      case yg437 => (intro wS _; go_simp <;> with_reducible rfl)
      try simp only [Act.put, gqa, gqb, gqc]
      refine wpG_pure (i := 29) (oi := ⟨some 110, .fieldAddr 58 (.tmp 5) 0, 0, "l10_topic.go:200", #[⟨28, .guard⟩], some (28, true)⟩) (v := undef) rfl (by kernel_rfl) (fun _ _ _ h => h) (Or.inr hHeld430) (Or.inr ⟨by rfl, rfl⟩) ?_
      try simp only [Act.put, gqa, gqb, gqc]
      refine wpG_pure (i := 30) (oi := ⟨some 111, .load 9 (.tmp 110), 9, "l10_topic.go:200", #[⟨29, .data⟩, ⟨28, .guard⟩], some (28, true)⟩) (v := undef) rfl (by kernel_rfl) (fun _ _ _ h => h) (Or.inr hHeld430) (Or.inr ⟨by rfl, rfl⟩) ?_
      try simp only [Act.put, gqa, gqb, gqc]
      refine wpG_pure (i := 31) (oi := ⟨some 112, .binOp .neq 9 (.tmp 111) (.const (.string { data := #[35] })) 9, 4, "l10_topic.go:200", #[⟨30, .data⟩, ⟨28, .guard⟩], some (28, true)⟩) (v := undef) rfl (by kernel_rfl) (fun _ _ _ h => h) (Or.inr hHeld430) (Or.inr ⟨by rfl, rfl⟩) ?_
      try simp only [Act.put, gqa, gqb, gqc]
      refine wpG_pure (i := 32) (oi := ⟨some 113, .pick (.tmp 109) (.tmp 112) (.const (.bool false)), 4, "l10_topic.go:200", #[⟨28, .data⟩, ⟨31, .data⟩, ⟨18, .guard⟩], some (18, false)⟩) (v := ?vg441) rfl (by kernel_rfl) (fun _ _ _ h => h) (Or.inr hHeld430) (Or.inl ⟨by rfl, ?yg441⟩) ?_
      case yg441 => (intro wS _; go_simp <;> with_reducible rfl)
      try simp only [Act.put, gqa, gqb, gqc]
      refine wpG_pure (i := 33) (oi := ⟨some 114, .pick (.tmp 99) (.const (.bool true)) (.tmp 113), 4, "l10_topic.go:200", #[⟨18, .data⟩, ⟨32, .data⟩], none⟩) (v := ?vg442) rfl (by kernel_rfl) (fun _ _ _ h => h) (Or.inr hHeld430) (Or.inl ⟨by rfl, ?yg442⟩) ?_
      case yg442 => (intro wS _; go_simp <;> with_reducible rfl)
      try simp only [Act.put, gqa, gqb, gqc]
      refine wpG_pure (i := 34) (oi := ⟨some 115, .move (.tmp 114), 4, "l10_topic.go:200", #[⟨33, .data⟩, ⟨28, .chain⟩], none⟩) (v := ?vg443) rfl (by kernel_rfl) (fun _ _ _ h => h) (Or.inr hHeld430) (Or.inl ⟨by rfl, ?yg443⟩) ?_
      case yg443 => (intro wS _; go_simp <;> with_reducible rfl)
      try simp only [Act.put, gqa, gqb, gqc]
      refine wpG_pure (i := 35) (oi := ⟨some 116, .move (.tmp 0), 24, "l10_topic.go:200", #[⟨34, .guard⟩], some (34, false)⟩) (v := ?vg444) rfl (by kernel_rfl) (fun _ _ _ h => h) (Or.inr hHeld430) (Or.inl ⟨by rfl, ?yg444⟩) ?_
      case yg444 => (intro wS _; go_simp <;> with_reducible rfl)
      try simp only [Act.put, gqa, gqb, gqc]
      refine wpG_pure (i := 36) (oi := ⟨some 117, .move (.tmp 4), 3, "l10_topic.go:200", #[⟨34, .guard⟩], some (34, false)⟩) (v := ?vg445) rfl (by kernel_rfl) (fun _ _ _ h => h) (Or.inr hHeld430) (Or.inl ⟨by rfl, ?yg445⟩) ?_
      case yg445 => (intro wS _; go_simp <;> with_reducible rfl)
      try simp only [Act.put, gqa, gqb, gqc]
      refine wpG_pure (i := 37) (oi := ⟨some 118, .slice 24 (.tmp 116) none (some (.tmp 117)) none, 24, "l10_topic.go:200", #[⟨35, .data⟩, ⟨36, .data⟩, ⟨34, .guard⟩], some (34, false)⟩) (v := ?vg446) rfl (by kernel_rfl) (fun _ _ _ h => h) (Or.inr hHeld430) (Or.inl ⟨by rfl, ?yg446⟩) ?_
      case yg446 => (intro wS _; go_simp <;> with_reducible rfl)
      try simp only [Act.put, gqa, gqb, gqc]
      refine wpG_pure (i := 38) (oi := ⟨some 119, .fieldAddr 58 (.tmp 5) 1, 0, "l10_topic.go:200", #[⟨34, .guard⟩], some (34, false)⟩) (v := ?vg447) rfl (by kernel_rfl) (fun _ _ _ h => h) (Or.inr hHeld430) (Or.inl ⟨by rfl, ?yg447⟩) ?_
      case yg447 => (intro wS _; go_simp <;> with_reducible rfl)
      try simp only [Act.put, gqa, gqb, gqc]
      refine wpG_load (i := 39) (oi := ⟨some 120, .load 3 (.tmp 119), 3, "l10_topic.go:200", #[⟨38, .data⟩, ⟨34, .guard⟩], some (34, false)⟩) (v := ?vg448) [[42, 39]] rfl (by kernel_rfl) (fun _ _ _ h => h) hHeld430 (Or.inl ⟨by rfl, ?yg448⟩) ?_
      case yg448 => (intro wS hSw; (try dsimp only at hSw); go_simp <;> with_reducible rfl)
      try simp only [Act.put, gqa, gqb, gqc]
      refine wpG_pure (i := 40) (oi := ⟨some 121, .fieldAddr 58 (.tmp 5) 0, 0, "l10_topic.go:200", #[⟨34, .guard⟩], some (34, false)⟩) (v := ?vg449) rfl (by kernel_rfl) (fun _ _ _ h => h) (Or.inr hHeld430) (Or.inl ⟨by rfl, ?yg449⟩) ?_
      case yg449 => (intro wS _; go_simp <;> with_reducible rfl)
      try simp only [Act.put, gqa, gqb, gqc]
      refine wpG_load (i := 41) (oi := ⟨some 122, .load 9 (.tmp 121), 9, "l10_topic.go:200", #[⟨40, .data⟩, ⟨34, .guard⟩], some (34, false)⟩) (v := ?vg450) [[42, 41]] rfl (by kernel_rfl) (fun _ _ _ h => h) hHeld430 (Or.inl ⟨by rfl, ?yg450⟩) ?_
      case yg450 => (intro wS hSw; (try dsimp only at hSw); go_simp <;> with_reducible rfl)
      try simp only [Act.put, gqa, gqb, gqc]
      refine wpG_one (i := 42) (o := ⟨some 123, .call { callee := .value (.func 68), args := #[.tmp 118, .tmp 120, .tmp 122], argTypes := #[24, 3, 9] }, 3, "l10_topic.go:200", #[⟨37, .data⟩, ⟨39, .data⟩, ⟨41, .data⟩, ⟨34, .chain⟩, ⟨34, .guard⟩], some (34, false)⟩) rfl (by kernel_rfl) (fun K hK => ?_)
      go_simp
      refine (HKD.out _ HWD.out).mono ?_
      rintro e w3 ⟨rfl, hb3⟩
      have HB3 := Lib.hid (HWD.out.trans (hb3.mono HWD.out.size)); have HC3 := Lib.hid (HWC.out.trans (hb3.mono hzd)); clear hb3
      refine hK.out _ _ (Or.inl (by kernel_rfl)) (fun _ => ?_)
      clear hK K
      try simp only [Act.put, gqa, gqb, gqc]
      refine wpG_pure (i := 43) (oi := ⟨some 124, .binOp .geq 3 (.tmp 123) (.const (.int .i64 0)) 3, 4, "l10_topic.go:200", #[⟨42, .data⟩, ⟨34, .guard⟩], some (34, false)⟩) (v := ?vg452) rfl (by kernel_rfl) (fun _ _ _ h => h) (Or.inl (by kernel_rfl)) (Or.inl ⟨by rfl, ?yg452⟩) ?_
      case yg452 => (intro wS _; go_simp <;> with_reducible rfl)
      try simp only [Act.put, gqa, gqb, gqc]
      refine wpG_pure (i := 44) (oi := ⟨some 125, .pick (.tmp 115) (.const (.bool true)) (.tmp 124), 4, "l10_topic.go:200", #[⟨34, .data⟩, ⟨43, .data⟩], none⟩) (v := ?vg453) rfl (by kernel_rfl) (fun _ _ _ h => h) (Or.inl (by kernel_rfl)) (Or.inl ⟨by rfl, ?yg453⟩) ?_
      case yg453 => (intro wS _; go_simp <;> with_reducible rfl)
      try simp only [Act.put, gqa, gqb, gqc]
      refine wpG_pure (i := 45) (oi := ⟨some 126, .move (.tmp 125), 4, "l10_topic.go:200", #[⟨44, .data⟩, ⟨42, .chain⟩], none⟩) (v := ?vg454) rfl (by kernel_rfl) (fun _ _ _ h => h) (Or.inl (by kernel_rfl)) (Or.inl ⟨by rfl, ?yg454⟩) ?_
      case yg454 => (intro wS _; go_simp <;> with_reducible rfl)
      try simp only [Act.put, gqa, gqb, gqc]
      refine wpG_pure (i := 46) (oi := ⟨some 127, .move (.tmp 0), 24, "l10_topic.go:200", #[⟨45, .guard⟩], some (45, false)⟩) (v := ?vg455) rfl (by kernel_rfl) (fun _ _ _ h => h) (Or.inl (by kernel_rfl)) (Or.inl ⟨by rfl, ?yg455⟩) ?_
      case yg455 => (intro wS _; go_simp <;> with_reducible rfl)
      try simp only [Act.put, gqa, gqb, gqc]
      refine wpG_pure (i := 47) (oi := ⟨some 128, .move (.tmp 4), 3, "l10_topic.go:200", #[⟨45, .guard⟩], some (45, false)⟩) (v := ?vg456) rfl (by kernel_rfl) (fun _ _ _ h => h) (Or.inl (by kernel_rfl)) (Or.inl ⟨by rfl, ?yg456⟩) ?_
      case yg456 => (intro wS _; go_simp <;> with_reducible rfl)
      try simp only [Act.put, gqa, gqb, gqc]
      refine wpG_one (i := 48) (o := ⟨some 129, .call { callee := .value (.func 81), args := #[.tmp 127, .tmp 128], argTypes := #[24, 3] }, 3, "l10_topic.go:200", #[⟨46, .data⟩, ⟨47, .data⟩, ⟨45, .chain⟩, ⟨45, .guard⟩], some (45, false)⟩) rfl (by kernel_rfl) (fun K hK => ?_)
      go_simp
      refine (HDP.out _ HB3.out).mono ?_
      rintro e w' ⟨rfl, rfl⟩
      refine hK.out _ _ (Or.inl (by kernel_rfl)) (fun _ => ?_)
      clear hK K
      try simp only [Act.put, gqa, gqb, gqc]
      refine wpG_pure (i := 49) (oi := ⟨some 130, .binOp .gtr 3 (.tmp 129) (.const (.int .i64 6)) 3, 4, "l10_topic.go:200", #[⟨48, .data⟩, ⟨45, .guard⟩], some (45, false)⟩) (v := ?vg458) rfl (by kernel_rfl) (fun _ _ _ h => h) (Or.inl (by kernel_rfl)) (Or.inl ⟨by rfl, ?yg458⟩) ?_
      case yg458 => (intro wS _; go_simp <;> with_reducible rfl)
      try simp only [Act.put, gqa, gqb, gqc]
      refine wpG_pure (i := 50) (oi := ⟨some 131, .pick (.tmp 126) (.const (.bool true)) (.tmp 130), 4, "l10_topic.go:200", #[⟨45, .data⟩, ⟨49, .data⟩], none⟩) (v := ?vg459) rfl (by kernel_rfl) (fun _ _ _ h => h) (Or.inl (by kernel_rfl)) (Or.inl ⟨by rfl, ?yg459⟩) ?_
      case yg459 => (intro wS _; go_simp <;> with_reducible rfl)
      try simp only [Act.put, gqa, gqb, gqc]
      refine wpG_done (by kernel_rfl) ?_
      skip
      clear HDP HKD HLV HLL f0 f1 d1
      go_wp2_with fail
      go_loopw [8, 134] (fun bv jv wq => ∃ (j : Nat), j ≤ t.length ∧ jv = .int .i64 (j : Int) ∧ bv = .bool ((t.take j).any fun z => decide (z.2.1 = (k : Int))) ∧ Hid (Below (wo.heap.size + 1) wb wq)) (fun _ jv _ => t.length - (intOf jv).toNat)
      case atStart => exact ⟨0, by omega, rfl, rfl, HC3⟩
      case round =>
        obtain ⟨j, hjl, rfl, rfl, HBQ⟩ := hrel
        obtain ⟨wq, rfl⟩ : ∃ z : World, z = wr := ⟨_, rfl⟩
        have HB9 := Lib.hid (HBW.out.trans (HBQ.out.mono hwz))
        have k2 : wq.cell? ⟨wo.heap.size, 2, none⟩ = some (.slice aw x.2.2.length cw) := below_cellk HBQ.out f2 (by omega)
        by_cases hlt2 : j < t.length
        case neg =>
          obtain rfl : j = t.length := by omega
          rw [List.take_length]
          cases hT : (t.any fun z => decide (z.2.1 = (k : Int))) with
          | true =>
            have HR := Lib.hid (HNB.out (by unfold tailB; rw [hT, Bool.or_true]))
            clear hT
            go_wp2_with fail
            go_roundw
            case rel => exact ⟨k + 1, by omega, by go_num, by rw [HWT.out]; go_num, HR, HB9⟩
            case measure => simp [intOf]; omega
          | false =>
            by_cases hp0 : 0 < x.2.2.length
            · have HR := Lib.hid (HNB.out (by unfold tailB; rw [HND.out]; simp [hp0]))
              have q9 : ((x.2.2.length : Int) == 0) = false := by rw [beq_eq_false_iff_ne]; omega
              clear hT
              go_wp2_with fail
              go_roundw
              case rel => exact ⟨k + 1, by omega, by go_num, by rw [HWT.out]; go_num, HR, HB9⟩
              case measure => simp [intOf]; omega
            · have HR := Lib.hid (HNO.out (by unfold tailB; rw [HND.out, hT]; simp [hp0]))
              have q9 : ((x.2.2.length : Int) == 0) = true := by rw [beq_iff_eq]; omega
              clear hT hp0
              go_wp2_with fail
              go_ret
              exact ⟨ret_bool HR.out.symm, HB9.out⟩
        obtain ⟨z, bz, offz, az, cz, hz, heaz, _, z0, z1, z2, _, _, _⟩ := nd_cells H.out hlt2
        simp only [Option.some.injEq, Addr.mk.injEq, and_true] at heaz
        obtain ⟨rfl, rfl⟩ := heaz
        have y0 := below_cellk HB9.out z0 hbl
        have y1 := below_cellk HB9.out z1 hbl
        have y2 := below_cellk HB9.out z2 hbl
        have HAN := Lib.hid (any_next (fun z : Nd => decide (z.2.1 = (k : Int))) hz)
        have HBX := Lib.hid (HBQ.out.alloc (by have := HBQ.out.size; omega) (.cells #[.string z.1, .int .i64 z.2.1, .slice az z.2.2.length cz] 58))
        clear z0 z1 z2 hz k2
        cases hA : ((t.take j).any fun z => decide (z.2.1 = (k : Int))) with
        | true =>
          have HA2 : Hid (((t.take (j + 1)).any fun z => decide (z.2.1 = (k : Int))) = true) := Lib.hid (by rw [HAN.out, hA]; rfl)
          clear hA
          go_wp2_with fail
          go_roundw
          case rel => exact ⟨j + 1, by omega, by go_num, by rw [HA2.out], HBX⟩
          case measure => simp [intOf]; omega
        | false =>
          by_cases hzk : z.2.1 = (k : Int)
          · have HA2 : Hid (((t.take (j + 1)).any fun z => decide (z.2.1 = (k : Int))) = true) := Lib.hid (by rw [HAN.out, hA]; simp [hzk])
            have q1 : (z.2.1 == (k : Int)) = true := by simp [hzk]
            clear hA hzk
            go_wp2_with fail
            go_roundw
            case rel => exact ⟨j + 1, by omega, by go_num, by rw [HA2.out], HBX⟩
            case measure => simp [intOf]; omega
          · have HA2 : Hid (((t.take (j + 1)).any fun z => decide (z.2.1 = (k : Int))) = false) := Lib.hid (by rw [HAN.out, hA]; simp [hzk])
            have q1 : (z.2.1 == (k : Int)) = false := by simp [hzk]
            clear hA hzk
            go_wp2_with fail
            go_roundw
            case rel => exact ⟨j + 1, by omega, by go_num, by rw [HA2.out], HBX⟩
            case measure => simp [intOf]; omega
    | false =>
    have h43' : (x.1.toList != [43]) = true := by simp [bne, h43]
    cases h35 : (x.1.toList == [35]) with
    | true =>
      have HHY : Hid (kidR (t.take k) x.2.1 x.1 < 0 → depR t k k ≤ 6 → headB t k = true) := Lib.hid fun h1 h2 => by
        have hl : lvlOK x.1 = true := by
          simp only [beq_iff_eq] at h35; unfold lvlOK; simp [yes_more h35]
        rw [HHD.out, hl]; simp [h1, h2]
      have h35' : (x.1.toList != [35]) = false := by simp [bne, h35]
      clear hlv HHD HNH
      by_cases hkd : kidR (t.take k) x.2.1 x.1 < 0
      case neg =>
        have HN := Lib.hid (HNHK.out hkd)
        generalize kidR (t.take k) x.2.1 x.1 = kr at *
        have q8 : (0 : Int) ≤ kr := by omega
        clear hkd
        refine wp_region_G [42] (fun w' => w'.cell? ⟨wo.heap.size, 0, none⟩ = some (.string x.1) ∧ w'.cell? ⟨wo.heap.size, 1, none⟩ = some (.int .i64 x.2.1) ∧ w'.cell? ⟨b, off + x.2.1.toNat * 3, none⟩ = some (.string y.1)) (by kernel_rfl) ?_ (fun hHeld => ?_)
        · exact ⟨f0, f1, d1⟩
        refine wpG_pure (i := 0) (oi := ⟨some 81, .fieldAddr 58 (.tmp 5) 1, 0, "l10_topic.go:200", #[], none⟩) (v := ?vg460) rfl (by kernel_rfl) (fun _ _ _ h => h) (Or.inr hHeld) (Or.inl ⟨by rfl, ?yg460⟩) ?_
        case yg460 => (intro wS _; go_simp <;> with_reducible rfl)
        try simp only [Act.put, gqa, gqb, gqc]
        refine wpG_load (i := 1) (oi := ⟨some 82, .load 3 (.tmp 81), 3, "l10_topic.go:200", #[⟨0, .data⟩], none⟩) (v := ?vg461) [[42, 34, 33, 18, 9, 3, 2, 1]] rfl (by kernel_rfl) (fun _ _ _ h => h) hHeld (Or.inl ⟨by rfl, ?yg461⟩) ?_
        case yg461 => (intro wS hSw; (try dsimp only at hSw); go_simp <;> with_reducible rfl)
        try simp only [Act.put, gqa, gqb, gqc]
        refine wpG_pure (i := 2) (oi := ⟨some 83, .binOp .lss 3 (.tmp 82) (.const (.int .i64 0)) 3, 4, "l10_topic.go:200", #[⟨1, .data⟩], none⟩) (v := ?vg462) rfl (by kernel_rfl) (fun _ _ _ h => h) (Or.inr hHeld) (Or.inl ⟨by rfl, ?yg462⟩) ?_
        case yg462 => (intro wS _; go_simp <;> with_reducible rfl)
        try simp only [Act.put, gqa, gqb, gqc]
        refine wpG_pure (i := 3) (oi := ⟨some 84, .move (.tmp 83), 4, "l10_topic.go:200", #[⟨2, .data⟩], none⟩) (v := ?vg463) rfl (by kernel_rfl) (fun _ _ _ h => h) (Or.inr hHeld) (Or.inl ⟨by rfl, ?yg463⟩) ?_
        case yg463 => (intro wS _; go_simp <;> with_reducible rfl)
        try simp only [Act.put, gqa, gqb, gqc]
        refine wpG_pure (i := 4) (oi := ⟨some 85, .fieldAddr 58 (.tmp 5) 1, 0, "l10_topic.go:200", #[⟨3, .guard⟩], some (3, false)⟩) (v := ?vg464) rfl (by kernel_rfl) (fun _ _ _ h => h) (Or.inr hHeld) (Or.inl ⟨by rfl, ?yg464⟩) ?_
        case yg464 => (intro wS _; go_simp <;> with_reducible rfl)
        try simp only [Act.put, gqa, gqb, gqc]
        refine wpG_load (i := 5) (oi := ⟨some 86, .load 3 (.tmp 85), 3, "l10_topic.go:200", #[⟨4, .data⟩, ⟨3, .guard⟩], some (3, false)⟩) (v := ?vg465) [[42, 34, 33, 18, 9, 8, 7, 5]] rfl (by kernel_rfl) (fun _ _ _ h => h) hHeld (Or.inl ⟨by rfl, ?yg465⟩) ?_
        case yg465 => (intro wS hSw; (try dsimp only at hSw); go_simp <;> with_reducible rfl)
        try simp only [Act.put, gqa, gqb, gqc]
        refine wpG_pure (i := 6) (oi := ⟨some 87, .move (.tmp 4), 3, "l10_topic.go:200", #[⟨3, .guard⟩], some (3, false)⟩) (v := ?vg466) rfl (by kernel_rfl) (fun _ _ _ h => h) (Or.inr hHeld) (Or.inl ⟨by rfl, ?yg466⟩) ?_
        case yg466 => (intro wS _; go_simp <;> with_reducible rfl)
        try simp only [Act.put, gqa, gqb, gqc]
        refine wpG_pure (i := 7) (oi := ⟨some 88, .binOp .geq 3 (.tmp 86) (.tmp 87) 3, 4, "l10_topic.go:200", #[⟨5, .data⟩, ⟨6, .data⟩, ⟨3, .guard⟩], some (3, false)⟩) (v := ?vg467) rfl (by kernel_rfl) (fun _ _ _ h => h) (Or.inr hHeld) (Or.inl ⟨by rfl, ?yg467⟩) ?_
        case yg467 => (intro wS _; go_simp <;> with_reducible rfl)
        try simp only [Act.put, gqa, gqb, gqc]
        refine wpG_pure (i := 8) (oi := ⟨some 89, .pick (.tmp 84) (.const (.bool true)) (.tmp 88), 4, "l10_topic.go:200", #[⟨3, .data⟩, ⟨7, .data⟩], none⟩) (v := ?vg468) rfl (by kernel_rfl) (fun _ _ _ h => h) (Or.inr hHeld) (Or.inl ⟨by rfl, ?yg468⟩) ?_
        case yg468 => (intro wS _; go_simp <;> with_reducible rfl)
        try simp only [Act.put, gqa, gqb, gqc]
        refine wpG_pure (i := 9) (oi := ⟨some 90, .move (.tmp 89), 4, "l10_topic.go:200", #[⟨8, .data⟩, ⟨3, .chain⟩], none⟩) (v := ?vg469) rfl (by kernel_rfl) (fun _ _ _ h => h) (Or.inr hHeld) (Or.inl ⟨by rfl, ?yg469⟩) ?_
        case yg469 => (intro wS _; go_simp <;> with_reducible rfl)
        try simp only [Act.put, gqa, gqb, gqc]
        refine wpG_pure (i := 10) (oi := ⟨some 91, .move (.tmp 0), 24, "l10_topic.go:200", #[⟨9, .guard⟩], some (9, false)⟩) (v := ?vg470) rfl (by kernel_rfl) (fun _ _ _ h => h) (Or.inr hHeld) (Or.inl ⟨by rfl, ?yg470⟩) ?_
        case yg470 => (intro wS _; go_simp <;> with_reducible rfl)
        try simp only [Act.put, gqa, gqb, gqc]
        refine wpG_pure (i := 11) (oi := ⟨some 92, .fieldAddr 58 (.tmp 5) 1, 0, "l10_topic.go:200", #[⟨9, .guard⟩], some (9, false)⟩) (v := ?vg471) rfl (by kernel_rfl) (fun _ _ _ h => h) (Or.inr hHeld) (Or.inl ⟨by rfl, ?yg471⟩) ?_
        case yg471 => (intro wS _; go_simp <;> with_reducible rfl)
        try simp only [Act.put, gqa, gqb, gqc]
        refine wpG_load (i := 12) (oi := ⟨some 93, .load 3 (.tmp 92), 3, "l10_topic.go:200", #[⟨11, .data⟩, ⟨9, .guard⟩], some (9, false)⟩) (v := ?vg472) [[42, 34, 33, 18, 17, 16, 15, 14, 13, 12]] rfl (by kernel_rfl) (fun _ _ _ h => h) hHeld (Or.inl ⟨by rfl, ?yg472⟩) ?_
        case yg472 => (intro wS hSw; (try dsimp only at hSw); go_simp <;> with_reducible rfl)
        try simp only [Act.put, gqa, gqb, gqc]
        refine wpG_pure (i := 13) (oi := ⟨some 94, .indexAddr 24 (.tmp 91) (.tmp 93), 0, "l10_topic.go:200", #[⟨10, .data⟩, ⟨12, .data⟩, ⟨9, .guard⟩], some (9, false)⟩) (v := ?vg473) rfl (by kernel_rfl) (fun _ _ _ h => h) (Or.inr hHeld) (Or.inl ⟨by rfl, ?yg473⟩) ?_
        case yg473 => (intro wS _; go_simp <;> with_reducible rfl)
        try simp only [Act.put, gqa, gqb, gqc]
        refine wpG_pure (i := 14) (oi := ⟨some 95, .fieldAddr 58 (.tmp 94) 0, 0, "l10_topic.go:200", #[⟨13, .data⟩, ⟨9, .guard⟩], some (9, false)⟩) (v := ?vg474) rfl (by kernel_rfl) (fun _ _ _ h => h) (Or.inr hHeld) (Or.inl ⟨by rfl, ?yg474⟩) ?_
        case yg474 => (intro wS _; go_simp <;> with_reducible rfl)
        try simp only [Act.put, gqa, gqb, gqc]
        refine wpG_load (i := 15) (oi := ⟨some 96, .load 9 (.tmp 95), 9, "l10_topic.go:200", #[⟨14, .data⟩, ⟨9, .guard⟩], some (9, false)⟩) (v := ?vg475) [[42, 34, 33, 18, 17, 16, 15]] rfl (by kernel_rfl) (fun _ _ _ h => h) hHeld (Or.inl ⟨by rfl, ?yg475⟩) ?_
        case yg475 => (intro wS hSw; (try dsimp only at hSw); go_simp <;> with_reducible rfl)
        try simp only [Act.put, gqa, gqb, gqc]
        refine wpG_pure (i := 16) (oi := ⟨some 97, .binOp .eql 9 (.tmp 96) (.const (.string { data := #[35] })) 9, 4, "l10_topic.go:200", #[⟨15, .data⟩, ⟨9, .guard⟩], some (9, false)⟩) (v := ?vg476) rfl (by kernel_rfl) (fun _ _ _ h => h) (Or.inr hHeld) (Or.inl ⟨by rfl, ?yg476⟩) ?_
        case yg476 => (intro wS _; go_simp <;> with_reducible rfl)
        try simp only [Act.put, gqa, gqb, gqc]
        refine wpG_pure (i := 17) (oi := ⟨some 98, .pick (.tmp 90) (.const (.bool true)) (.tmp 97), 4, "l10_topic.go:200", #[⟨9, .data⟩, ⟨16, .data⟩], none⟩) (v := ?vg477) rfl (by kernel_rfl) (fun _ _ _ h => h) (Or.inr hHeld) (Or.inl ⟨by rfl, ?yg477⟩) ?_
        case yg477 => (intro wS _; go_simp <;> with_reducible rfl)
        try simp only [Act.put, gqa, gqb, gqc]
        refine wpG_pure (i := 18) (oi := ⟨some 99, .move (.tmp 98), 4, "l10_topic.go:200", #[⟨17, .data⟩, ⟨9, .chain⟩], none⟩) (v := ?vg478) rfl (by kernel_rfl) (fun _ _ _ h => h) (Or.inr hHeld) (Or.inl ⟨by rfl, ?yg478⟩) ?_
        case yg478 => (intro wS _; go_simp <;> with_reducible rfl)
        try simp only [Act.put, gqa, gqb, gqc]
        refine wpG_pure (i := 19) (oi := ⟨some 100, .fieldAddr 58 (.tmp 5) 0, 0, "l10_topic.go:200", #[⟨18, .guard⟩], some (18, false)⟩) (v := ?vg479) rfl (by kernel_rfl) (fun _ _ _ h => h) (Or.inr hHeld) (Or.inl ⟨by rfl, ?yg479⟩) ?_
        case yg479 => (intro wS _; go_simp <;> with_reducible rfl)
        try simp only [Act.put, gqa, gqb, gqc]
        refine wpG_load (i := 20) (oi := ⟨some 101, .load 9 (.tmp 100), 9, "l10_topic.go:200", #[⟨19, .data⟩, ⟨18, .guard⟩], some (18, false)⟩) (v := ?vg480) [[42, 34, 28, 23, 21, 20]] rfl (by kernel_rfl) (fun _ _ _ h => h) hHeld (Or.inl ⟨by rfl, ?yg480⟩) ?_
        case yg480 => (intro wS hSw; (try dsimp only at hSw); go_simp <;> with_reducible rfl)
        try simp only [Act.put, gqa, gqb, gqc]
        refine wpG_one (i := 21) (o := ⟨some 102, .call { callee := .value (.func 58), args := #[.tmp 101], argTypes := #[9] }, 4, "l10_topic.go:200", #[⟨20, .data⟩, ⟨18, .chain⟩, ⟨18, .guard⟩], some (18, false)⟩) rfl (by kernel_rfl) (fun K hK => ?_)
        go_simp
        refine (HLV.out _).mono ?_
        rw [HLL.out]
        rintro e w' ⟨rfl, rfl⟩
        refine hK.out _ _ (Or.inr ?khHeld481) (fun hHeld481S => ?_)
        case khHeld481 => exact ⟨f0, f1, d1⟩
        have hHeld481 := hHeld481S.held (by kernel_rfl)
        clear hK K
        try simp only [Act.put, gqa, gqb, gqc]
        refine wpG_pure (i := 22) (oi := ⟨some 103, .unOp .not 4 (.tmp 102), 4, "l10_topic.go:200", #[⟨21, .data⟩, ⟨18, .guard⟩], some (18, false)⟩) (v := ?vg482) rfl (by kernel_rfl) (fun _ _ _ h => h) (Or.inr hHeld481) (Or.inl ⟨by rfl, ?yg482⟩) ?_
        case yg482 => (intro wS _; go_simp <;> with_reducible rfl)
        try simp only [Act.put, gqa, gqb, gqc]
        refine wpG_pure (i := 23) (oi := ⟨some 104, .move (.tmp 103), 4, "l10_topic.go:200", #[⟨22, .data⟩, ⟨21, .chain⟩, ⟨18, .guard⟩], some (18, false)⟩) (v := ?vg483) rfl (by kernel_rfl) (fun _ _ _ h => h) (Or.inr hHeld481) (Or.inl ⟨by rfl, ?yg483⟩) ?_
        case yg483 => (intro wS _; go_simp <;> with_reducible rfl)
        try simp only [Act.put, gqa, gqb, gqc]
        refine wpG_pure (i := 24) (oi := ⟨some 105, .fieldAddr 58 (.tmp 5) 0, 0, "l10_topic.go:200", #[⟨23, .guard⟩], some (23, true)⟩) (v := ?vg484) rfl (by kernel_rfl) (fun _ _ _ h => h) (Or.inr hHeld481) (Or.inl ⟨by rfl, ?yg484⟩) ?_
        case yg484 => (intro wS _; go_simp <;> with_reducible rfl)
        try simp only [Act.put, gqa, gqb, gqc]
        refine wpG_load (i := 25) (oi := ⟨some 106, .load 9 (.tmp 105), 9, "l10_topic.go:200", #[⟨24, .data⟩, ⟨23, .guard⟩], some (23, true)⟩) (v := ?vg485) [[42, 34, 28, 27, 26, 25]] rfl (by kernel_rfl) (fun _ _ _ h => h) hHeld481 (Or.inl ⟨by rfl, ?yg485⟩) ?_
        case yg485 => (intro wS hSw; (try dsimp only at hSw); go_simp <;> with_reducible rfl)
        try simp only [Act.put, gqa, gqb, gqc]
        refine wpG_pure (i := 26) (oi := ⟨some 107, .binOp .neq 9 (.tmp 106) (.const (.string { data := #[43] })) 9, 4, "l10_topic.go:200", #[⟨25, .data⟩, ⟨23, .guard⟩], some (23, true)⟩) (v := ?vg486) rfl (by kernel_rfl) (fun _ _ _ h => h) (Or.inr hHeld481) (Or.inl ⟨by rfl, ?yg486⟩) ?_
        case yg486 => (intro wS _; go_simp <;> with_reducible rfl)
        try simp only [Act.put, gqa, gqb, gqc]
        refine wpG_pure (i := 27) (oi := ⟨some 108, .pick (.tmp 104) (.tmp 107) (.const (.bool false)), 4, "l10_topic.go:200", #[⟨23, .data⟩, ⟨26, .data⟩, ⟨18, .guard⟩], some (18, false)⟩) (v := ?vg487) rfl (by kernel_rfl) (fun _ _ _ h => h) (Or.inr hHeld481) (Or.inl ⟨by rfl, ?yg487⟩) ?_
        case yg487 => (intro wS _; go_simp <;> with_reducible rfl)
        try simp only [Act.put, gqa, gqb, gqc]
        refine wpG_pure (i := 28) (oi := ⟨some 109, .move (.tmp 108), 4, "l10_topic.go:200", #[⟨27, .data⟩, ⟨23, .chain⟩, ⟨18, .guard⟩], some (18, false)⟩) (v := ?vg488) rfl (by kernel_rfl) (fun _ _ _ h => h) (Or.inr hHeld481) (Or.inl ⟨by rfl, ?yg488⟩) ?_
        case yg488 => (intro wS _; go_simp <;> with_reducible rfl)
        try simp only [Act.put, gqa, gqb, gqc]
        refine wpG_pure (i := 29) (oi := ⟨some 110, .fieldAddr 58 (.tmp 5) 0, 0, "l10_topic.go:200", #[⟨28, .guard⟩], some (28, true)⟩) (v := ?vg489) rfl (by kernel_rfl) (fun _ _ _ h => h) (Or.inr hHeld481) (Or.inl ⟨by rfl, ?yg489⟩) ?_
        case yg489 => (intro wS _; go_simp <;> with_reducible rfl)
        try simp only [Act.put, gqa, gqb, gqc]
        refine wpG_load (i := 30) (oi := ⟨some 111, .load 9 (.tmp 110), 9, "l10_topic.go:200", #[⟨29, .data⟩, ⟨28, .guard⟩], some (28, true)⟩) (v := ?vg490) [[42, 34, 33, 32, 31, 30]] rfl (by kernel_rfl) (fun _ _ _ h => h) hHeld481 (Or.inl ⟨by rfl, ?yg490⟩) ?_
        case yg490 => (intro wS hSw; (try dsimp only at hSw); go_simp <;> with_reducible rfl)
        try simp only [Act.put, gqa, gqb, gqc]
        refine wpG_pure (i := 31) (oi := ⟨some 112, .binOp .neq 9 (.tmp 111) (.const (.string { data := #[35] })) 9, 4, "l10_topic.go:200", #[⟨30, .data⟩, ⟨28, .guard⟩], some (28, true)⟩) (v := ?vg491) rfl (by kernel_rfl) (fun _ _ _ h => h) (Or.inr hHeld481) (Or.inl ⟨by rfl, ?yg491⟩) ?_
        case yg491 => (intro wS _; go_simp <;> with_reducible rfl)
        try simp only [Act.put, gqa, gqb, gqc]
        refine wpG_pure (i := 32) (oi := ⟨some 113, .pick (.tmp 109) (.tmp 112) (.const (.bool false)), 4, "l10_topic.go:200", #[⟨28, .data⟩, ⟨31, .data⟩, ⟨18, .guard⟩], some (18, false)⟩) (v := ?vg492) rfl (by kernel_rfl) (fun _ _ _ h => h) (Or.inr hHeld481) (Or.inl ⟨by rfl, ?yg492⟩) ?_
        case yg492 => (intro wS _; go_simp <;> with_reducible rfl)
        try simp only [Act.put, gqa, gqb, gqc]
        refine wpG_pure (i := 33) (oi := ⟨some 114, .pick (.tmp 99) (.const (.bool true)) (.tmp 113), 4, "l10_topic.go:200", #[⟨18, .data⟩, ⟨32, .data⟩], none⟩) (v := ?vg493) rfl (by kernel_rfl) (fun _ _ _ h => h) (Or.inr hHeld481) (Or.inl ⟨by rfl, ?yg493⟩) ?_
        case yg493 => (intro wS _; go_simp <;> with_reducible rfl)
        try simp only [Act.put, gqa, gqb, gqc]
        refine wpG_pure (i := 34) (oi := ⟨some 115, .move (.tmp 114), 4, "l10_topic.go:200", #[⟨33, .data⟩, ⟨28, .chain⟩], none⟩) (v := ?vg494) rfl (by kernel_rfl) (fun _ _ _ h => h) (Or.inr hHeld481) (Or.inl ⟨by rfl, ?yg494⟩) ?_
        case yg494 => (intro wS _; go_simp <;> with_reducible rfl)
        try simp only [Act.put, gqa, gqb, gqc]
        refine wpG_pure (i := 35) (oi := ⟨some 116, .move (.tmp 0), 24, "l10_topic.go:200", #[⟨34, .guard⟩], some (34, false)⟩) (v := ?vg495) rfl (by kernel_rfl) (fun _ _ _ h => h) (Or.inr hHeld481) (Or.inl ⟨by rfl, ?yg495⟩) ?_
        case yg495 => (intro wS _; go_simp <;> with_reducible rfl)
        try simp only [Act.put, gqa, gqb, gqc]
        refine wpG_pure (i := 36) (oi := ⟨some 117, .move (.tmp 4), 3, "l10_topic.go:200", #[⟨34, .guard⟩], some (34, false)⟩) (v := ?vg496) rfl (by kernel_rfl) (fun _ _ _ h => h) (Or.inr hHeld481) (Or.inl ⟨by rfl, ?yg496⟩) ?_
        case yg496 => (intro wS _; go_simp <;> with_reducible rfl)
        try simp only [Act.put, gqa, gqb, gqc]
        refine wpG_pure (i := 37) (oi := ⟨some 118, .slice 24 (.tmp 116) none (some (.tmp 117)) none, 24, "l10_topic.go:200", #[⟨35, .data⟩, ⟨36, .data⟩, ⟨34, .guard⟩], some (34, false)⟩) (v := ?vg497) rfl (by kernel_rfl) (fun _ _ _ h => h) (Or.inr hHeld481) (Or.inl ⟨by rfl, ?yg497⟩) ?_
        case yg497 => (intro wS _; go_simp <;> with_reducible rfl)
        try simp only [Act.put, gqa, gqb, gqc]
        refine wpG_pure (i := 38) (oi := ⟨some 119, .fieldAddr 58 (.tmp 5) 1, 0, "l10_topic.go:200", #[⟨34, .guard⟩], some (34, false)⟩) (v := ?vg498) rfl (by kernel_rfl) (fun _ _ _ h => h) (Or.inr hHeld481) (Or.inl ⟨by rfl, ?yg498⟩) ?_
        case yg498 => (intro wS _; go_simp <;> with_reducible rfl)
        try simp only [Act.put, gqa, gqb, gqc]
        refine wpG_load (i := 39) (oi := ⟨some 120, .load 3 (.tmp 119), 3, "l10_topic.go:200", #[⟨38, .data⟩, ⟨34, .guard⟩], some (34, false)⟩) (v := ?vg499) [[42, 39]] rfl (by kernel_rfl) (fun _ _ _ h => h) hHeld481 (Or.inl ⟨by rfl, ?yg499⟩) ?_
        case yg499 => (intro wS hSw; (try dsimp only at hSw); go_simp <;> with_reducible rfl)
        try simp only [Act.put, gqa, gqb, gqc]
        refine wpG_pure (i := 40) (oi := ⟨some 121, .fieldAddr 58 (.tmp 5) 0, 0, "l10_topic.go:200", #[⟨34, .guard⟩], some (34, false)⟩) (v := ?vg500) rfl (by kernel_rfl) (fun _ _ _ h => h) (Or.inr hHeld481) (Or.inl ⟨by rfl, ?yg500⟩) ?_
        case yg500 => (intro wS _; go_simp <;> with_reducible rfl)
        try simp only [Act.put, gqa, gqb, gqc]
        refine wpG_load (i := 41) (oi := ⟨some 122, .load 9 (.tmp 121), 9, "l10_topic.go:200", #[⟨40, .data⟩, ⟨34, .guard⟩], some (34, false)⟩) (v := ?vg501) [[42, 41]] rfl (by kernel_rfl) (fun _ _ _ h => h) hHeld481 (Or.inl ⟨by rfl, ?yg501⟩) ?_
        case yg501 => (intro wS hSw; (try dsimp only at hSw); go_simp <;> with_reducible rfl)
        try simp only [Act.put, gqa, gqb, gqc]
        refine wpG_one (i := 42) (o := ⟨some 123, .call { callee := .value (.func 68), args := #[.tmp 118, .tmp 120, .tmp 122], argTypes := #[24, 3, 9] }, 3, "l10_topic.go:200", #[⟨37, .data⟩, ⟨39, .data⟩, ⟨41, .data⟩, ⟨34, .chain⟩, ⟨34, .guard⟩], some (34, false)⟩) rfl (by kernel_rfl) (fun K hK => ?_)
        go_simp
        refine (HKD.out _ HWD.out).mono ?_
        rintro e w3 ⟨rfl, hb3⟩
        have HB3 := Lib.hid (HWD.out.trans (hb3.mono HWD.out.size)); have HC3 := Lib.hid (HWC.out.trans (hb3.mono hzd)); clear hb3
        refine hK.out _ _ (Or.inl (by kernel_rfl)) (fun _ => ?_)
        clear hK K
        try simp only [Act.put, gqa, gqb, gqc]
        refine wpG_pure (i := 43) (oi := ⟨some 124, .binOp .geq 3 (.tmp 123) (.const (.int .i64 0)) 3, 4, "l10_topic.go:200", #[⟨42, .data⟩, ⟨34, .guard⟩], some (34, false)⟩) (v := ?vg503) rfl (by kernel_rfl) (fun _ _ _ h => h) (Or.inl (by kernel_rfl)) (Or.inl ⟨by rfl, ?yg503⟩) ?_
        case yg503 => (intro wS _; go_simp <;> with_reducible rfl)
        try simp only [Act.put, gqa, gqb, gqc]
        refine wpG_pure (i := 44) (oi := ⟨some 125, .pick (.tmp 115) (.const (.bool true)) (.tmp 124), 4, "l10_topic.go:200", #[⟨34, .data⟩, ⟨43, .data⟩], none⟩) (v := ?vg504) rfl (by kernel_rfl) (fun _ _ _ h => h) (Or.inl (by kernel_rfl)) (Or.inl ⟨by rfl, ?yg504⟩) ?_
        case yg504 => (intro wS _; go_simp <;> with_reducible rfl)
        try simp only [Act.put, gqa, gqb, gqc]
        refine wpG_pure (i := 45) (oi := ⟨some 126, .move (.tmp 125), 4, "l10_topic.go:200", #[⟨44, .data⟩, ⟨42, .chain⟩], none⟩) (v := ?vg505) rfl (by kernel_rfl) (fun _ _ _ h => h) (Or.inl (by kernel_rfl)) (Or.inl ⟨by rfl, ?yg505⟩) ?_
        case yg505 => (intro wS _; go_simp <;> with_reducible rfl)
        try simp only [Act.put, gqa, gqb, gqc]
        refine wpG_pure (i := 46) (oi := ⟨some 127, .move (.tmp 0), 24, "l10_topic.go:200", #[⟨45, .guard⟩], some (45, false)⟩) (v := undef) rfl (by kernel_rfl) (fun _ _ _ h => h) (Or.inl (by kernel_rfl)) (Or.inr ⟨by rfl, rfl⟩) ?_
        try simp only [Act.put, gqa, gqb, gqc]
        refine wpG_pure (i := 47) (oi := ⟨some 128, .move (.tmp 4), 3, "l10_topic.go:200", #[⟨45, .guard⟩], some (45, false)⟩) (v := undef) rfl (by kernel_rfl) (fun _ _ _ h => h) (Or.inl (by kernel_rfl)) (Or.inr ⟨by rfl, rfl⟩) ?_
        try simp only [Act.put, gqa, gqb, gqc]
        refine wpG_pure (i := 48) (oi := ⟨some 129, .call { callee := .value (.func 81), args := #[.tmp 127, .tmp 128], argTypes := #[24, 3] }, 3, "l10_topic.go:200", #[⟨46, .data⟩, ⟨47, .data⟩, ⟨45, .chain⟩, ⟨45, .guard⟩], some (45, false)⟩) (v := undef) rfl (by kernel_rfl) (fun _ _ _ h => h) (Or.inl (by kernel_rfl)) (Or.inr ⟨by rfl, rfl⟩) ?_
        try simp only [Act.put, gqa, gqb, gqc]
        refine wpG_pure (i := 49) (oi := ⟨some 130, .binOp .gtr 3 (.tmp 129) (.const (.int .i64 6)) 3, 4, "l10_topic.go:200", #[⟨48, .data⟩, ⟨45, .guard⟩], some (45, false)⟩) (v := undef) rfl (by kernel_rfl) (fun _ _ _ h => h) (Or.inl (by kernel_rfl)) (Or.inr ⟨by rfl, rfl⟩) ?_
        try simp only [Act.put, gqa, gqb, gqc]
        refine wpG_pure (i := 50) (oi := ⟨some 131, .pick (.tmp 126) (.const (.bool true)) (.tmp 130), 4, "l10_topic.go:200", #[⟨45, .data⟩, ⟨49, .data⟩], none⟩) (v := ?vg510) rfl (by kernel_rfl) (fun _ _ _ h => h) (Or.inl (by kernel_rfl)) (Or.inl ⟨by rfl, ?yg510⟩) ?_
        case yg510 => (intro wS _; go_simp <;> with_reducible rfl)
        try simp only [Act.put, gqa, gqb, gqc]
        refine wpG_done (by kernel_rfl) ?_
        (go_wp2_with fail; go_ret; exact ⟨ret_bool HN.out.symm, HB3.out⟩)
      have HHK := Lib.hid hkd
      generalize kidR (t.take k) x.2.1 x.1 = kr at *
      have q8 : ¬ (0 : Int) ≤ kr := by omega
      clear hkd
      by_cases hd6 : depR t k k ≤ 6
      case neg =>
        have HN := Lib.hid (HNHD.out hd6)
        generalize depR t k k = dp at *
        have q9 : (6 : Int) < (dp : Int) := by omega
        clear hd6
        refine wp_region_G [42] (fun w' => w'.cell? ⟨wo.heap.size, 0, none⟩ = some (.string x.1) ∧ w'.cell? ⟨wo.heap.size, 1, none⟩ = some (.int .i64 x.2.1) ∧ w'.cell? ⟨b, off + x.2.1.toNat * 3, none⟩ = some (.string y.1)) (by kernel_rfl) ?_ (fun hHeld => ?_)
        · exact ⟨f0, f1, d1⟩
        refine wpG_pure (i := 0) (oi := ⟨some 81, .fieldAddr 58 (.tmp 5) 1, 0, "l10_topic.go:200", #[], none⟩) (v := ?vg511) rfl (by kernel_rfl) (fun _ _ _ h => h) (Or.inr hHeld) (Or.inl ⟨by rfl, ?yg511⟩) ?_
        case yg511 => (intro wS _; go_simp <;> with_reducible rfl)
        try simp only [Act.put, gqa, gqb, gqc]
        refine wpG_load (i := 1) (oi := ⟨some 82, .load 3 (.tmp 81), 3, "l10_topic.go:200", #[⟨0, .data⟩], none⟩) (v := ?vg512) [[42, 34, 33, 18, 9, 3, 2, 1]] rfl (by kernel_rfl) (fun _ _ _ h => h) hHeld (Or.inl ⟨by rfl, ?yg512⟩) ?_
        case yg512 => (intro wS hSw; (try dsimp only at hSw); go_simp <;> with_reducible rfl)
        try simp only [Act.put, gqa, gqb, gqc]
        refine wpG_pure (i := 2) (oi := ⟨some 83, .binOp .lss 3 (.tmp 82) (.const (.int .i64 0)) 3, 4, "l10_topic.go:200", #[⟨1, .data⟩], none⟩) (v := ?vg513) rfl (by kernel_rfl) (fun _ _ _ h => h) (Or.inr hHeld) (Or.inl ⟨by rfl, ?yg513⟩) ?_
        case yg513 => (intro wS _; go_simp <;> with_reducible rfl)
        try simp only [Act.put, gqa, gqb, gqc]
        refine wpG_pure (i := 3) (oi := ⟨some 84, .move (.tmp 83), 4, "l10_topic.go:200", #[⟨2, .data⟩], none⟩) (v := ?vg514) rfl (by kernel_rfl) (fun _ _ _ h => h) (Or.inr hHeld) (Or.inl ⟨by rfl, ?yg514⟩) ?_
        case yg514 => (intro wS _; go_simp <;> with_reducible rfl)
        try simp only [Act.put, gqa, gqb, gqc]
        refine wpG_pure (i := 4) (oi := ⟨some 85, .fieldAddr 58 (.tmp 5) 1, 0, "l10_topic.go:200", #[⟨3, .guard⟩], some (3, false)⟩) (v := ?vg515) rfl (by kernel_rfl) (fun _ _ _ h => h) (Or.inr hHeld) (Or.inl ⟨by rfl, ?yg515⟩) ?_
        case yg515 => (intro wS _; go_simp <;> with_reducible rfl)
        try simp only [Act.put, gqa, gqb, gqc]
        refine wpG_load (i := 5) (oi := ⟨some 86, .load 3 (.tmp 85), 3, "l10_topic.go:200", #[⟨4, .data⟩, ⟨3, .guard⟩], some (3, false)⟩) (v := ?vg516) [[42, 34, 33, 18, 9, 8, 7, 5]] rfl (by kernel_rfl) (fun _ _ _ h => h) hHeld (Or.inl ⟨by rfl, ?yg516⟩) ?_
        case yg516 => (intro wS hSw; (try dsimp only at hSw); go_simp <;> with_reducible rfl)
        try simp only [Act.put, gqa, gqb, gqc]
        refine wpG_pure (i := 6) (oi := ⟨some 87, .move (.tmp 4), 3, "l10_topic.go:200", #[⟨3, .guard⟩], some (3, false)⟩) (v := ?vg517) rfl (by kernel_rfl) (fun _ _ _ h => h) (Or.inr hHeld) (Or.inl ⟨by rfl, ?yg517⟩) ?_
        case yg517 => (intro wS _; go_simp <;> with_reducible rfl)
        try simp only [Act.put, gqa, gqb, gqc]
        refine wpG_pure (i := 7) (oi := ⟨some 88, .binOp .geq 3 (.tmp 86) (.tmp 87) 3, 4, "l10_topic.go:200", #[⟨5, .data⟩, ⟨6, .data⟩, ⟨3, .guard⟩], some (3, false)⟩) (v := ?vg518) rfl (by kernel_rfl) (fun _ _ _ h => h) (Or.inr hHeld) (Or.inl ⟨by rfl, ?yg518⟩) ?_
        case yg518 => (intro wS _; go_simp <;> with_reducible rfl)
        try simp only [Act.put, gqa, gqb, gqc]
        refine wpG_pure (i := 8) (oi := ⟨some 89, .pick (.tmp 84) (.const (.bool true)) (.tmp 88), 4, "l10_topic.go:200", #[⟨3, .data⟩, ⟨7, .data⟩], none⟩) (v := ?vg519) rfl (by kernel_rfl) (fun _ _ _ h => h) (Or.inr hHeld) (Or.inl ⟨by rfl, ?yg519⟩) ?_
        case yg519 => (intro wS _; go_simp <;> with_reducible rfl)
        try simp only [Act.put, gqa, gqb, gqc]
        refine wpG_pure (i := 9) (oi := ⟨some 90, .move (.tmp 89), 4, "l10_topic.go:200", #[⟨8, .data⟩, ⟨3, .chain⟩], none⟩) (v := ?vg520) rfl (by kernel_rfl) (fun _ _ _ h => h) (Or.inr hHeld) (Or.inl ⟨by rfl, ?yg520⟩) ?_
        case yg520 => (intro wS _; go_simp <;> with_reducible rfl)
        try simp only [Act.put, gqa, gqb, gqc]
        refine wpG_pure (i := 10) (oi := ⟨some 91, .move (.tmp 0), 24, "l10_topic.go:200", #[⟨9, .guard⟩], some (9, false)⟩) (v := ?vg521) rfl (by kernel_rfl) (fun _ _ _ h => h) (Or.inr hHeld) (Or.inl ⟨by rfl, ?yg521⟩) ?_
        case yg521 => (intro wS _; go_simp <;> with_reducible rfl)
        try simp only [Act.put, gqa, gqb, gqc]
        refine wpG_pure (i := 11) (oi := ⟨some 92, .fieldAddr 58 (.tmp 5) 1, 0, "l10_topic.go:200", #[⟨9, .guard⟩], some (9, false)⟩) (v := ?vg522) rfl (by kernel_rfl) (fun _ _ _ h => h) (Or.inr hHeld) (Or.inl ⟨by rfl, ?yg522⟩) ?_
        case yg522 => (intro wS _; go_simp <;> with_reducible rfl)
        try simp only [Act.put, gqa, gqb, gqc]
        refine wpG_load (i := 12) (oi := ⟨some 93, .load 3 (.tmp 92), 3, "l10_topic.go:200", #[⟨11, .data⟩, ⟨9, .guard⟩], some (9, false)⟩) (v := ?vg523) [[42, 34, 33, 18, 17, 16, 15, 14, 13, 12]] rfl (by kernel_rfl) (fun _ _ _ h => h) hHeld (Or.inl ⟨by rfl, ?yg523⟩) ?_
        case yg523 => (intro wS hSw; (try dsimp only at hSw); go_simp <;> with_reducible rfl)
        try simp only [Act.put, gqa, gqb, gqc]
        refine wpG_pure (i := 13) (oi := ⟨some 94, .indexAddr 24 (.tmp 91) (.tmp 93), 0, "l10_topic.go:200", #[⟨10, .data⟩, ⟨12, .data⟩, ⟨9, .guard⟩], some (9, false)⟩) (v := ?vg524) rfl (by kernel_rfl) (fun _ _ _ h => h) (Or.inr hHeld) (Or.inl ⟨by rfl, ?yg524⟩) ?_
        case yg524 => (intro wS _; go_simp <;> with_reducible rfl)
        try simp only [Act.put, gqa, gqb, gqc]
        refine wpG_pure (i := 14) (oi := ⟨some 95, .fieldAddr 58 (.tmp 94) 0, 0, "l10_topic.go:200", #[⟨13, .data⟩, ⟨9, .guard⟩], some (9, false)⟩) (v := ?vg525) rfl (by kernel_rfl) (fun _ _ _ h => h) (Or.inr hHeld) (Or.inl ⟨by rfl, ?yg525⟩) ?_
        case yg525 => (intro wS _; go_simp <;> with_reducible rfl)
        try simp only [Act.put, gqa, gqb, gqc]
        refine wpG_load (i := 15) (oi := ⟨some 96, .load 9 (.tmp 95), 9, "l10_topic.go:200", #[⟨14, .data⟩, ⟨9, .guard⟩], some (9, false)⟩) (v := ?vg526) [[42, 34, 33, 18, 17, 16, 15]] rfl (by kernel_rfl) (fun _ _ _ h => h) hHeld (Or.inl ⟨by rfl, ?yg526⟩) ?_
        case yg526 => (intro wS hSw; (try dsimp only at hSw); go_simp <;> with_reducible rfl)
        try simp only [Act.put, gqa, gqb, gqc]
        refine wpG_pure (i := 16) (oi := ⟨some 97, .binOp .eql 9 (.tmp 96) (.const (.string { data := #[35] })) 9, 4, "l10_topic.go:200", #[⟨15, .data⟩, ⟨9, .guard⟩], some (9, false)⟩) (v := ?vg527) rfl (by kernel_rfl) (fun _ _ _ h => h) (Or.inr hHeld) (Or.inl ⟨by rfl, ?yg527⟩) ?_
        case yg527 => (intro wS _; go_simp <;> with_reducible rfl)
        try simp only [Act.put, gqa, gqb, gqc]
        refine wpG_pure (i := 17) (oi := ⟨some 98, .pick (.tmp 90) (.const (.bool true)) (.tmp 97), 4, "l10_topic.go:200", #[⟨9, .data⟩, ⟨16, .data⟩], none⟩) (v := ?vg528) rfl (by kernel_rfl) (fun _ _ _ h => h) (Or.inr hHeld) (Or.inl ⟨by rfl, ?yg528⟩) ?_
        case yg528 => (intro wS _; go_simp <;> with_reducible rfl)
        try simp only [Act.put, gqa, gqb, gqc]
        refine wpG_pure (i := 18) (oi := ⟨some 99, .move (.tmp 98), 4, "l10_topic.go:200", #[⟨17, .data⟩, ⟨9, .chain⟩], none⟩) (v := ?vg529) rfl (by kernel_rfl) (fun _ _ _ h => h) (Or.inr hHeld) (Or.inl ⟨by rfl, ?yg529⟩) ?_
        case yg529 => (intro wS _; go_simp <;> with_reducible rfl)
        try simp only [Act.put, gqa, gqb, gqc]
        refine wpG_pure (i := 19) (oi := ⟨some 100, .fieldAddr 58 (.tmp 5) 0, 0, "l10_topic.go:200", #[⟨18, .guard⟩], some (18, false)⟩) (v := ?vg530) rfl (by kernel_rfl) (fun _ _ _ h => h) (Or.inr hHeld) (Or.inl ⟨by rfl, ?yg530⟩) ?_
        case yg530 => (intro wS _; go_simp <;> with_reducible rfl)
        try simp only [Act.put, gqa, gqb, gqc]
        refine wpG_load (i := 20) (oi := ⟨some 101, .load 9 (.tmp 100), 9, "l10_topic.go:200", #[⟨19, .data⟩, ⟨18, .guard⟩], some (18, false)⟩) (v := ?vg531) [[42, 34, 28, 23, 21, 20]] rfl (by kernel_rfl) (fun _ _ _ h => h) hHeld (Or.inl ⟨by rfl, ?yg531⟩) ?_
        case yg531 => (intro wS hSw; (try dsimp only at hSw); go_simp <;> with_reducible rfl)
        try simp only [Act.put, gqa, gqb, gqc]
        refine wpG_one (i := 21) (o := ⟨some 102, .call { callee := .value (.func 58), args := #[.tmp 101], argTypes := #[9] }, 4, "l10_topic.go:200", #[⟨20, .data⟩, ⟨18, .chain⟩, ⟨18, .guard⟩], some (18, false)⟩) rfl (by kernel_rfl) (fun K hK => ?_)
        go_simp
        refine (HLV.out _).mono ?_
        rw [HLL.out]
        rintro e w' ⟨rfl, rfl⟩
        refine hK.out _ _ (Or.inr ?khHeld532) (fun hHeld532S => ?_)
        case khHeld532 => exact ⟨f0, f1, d1⟩
        have hHeld532 := hHeld532S.held (by kernel_rfl)
        clear hK K
        try simp only [Act.put, gqa, gqb, gqc]
        refine wpG_pure (i := 22) (oi := ⟨some 103, .unOp .not 4 (.tmp 102), 4, "l10_topic.go:200", #[⟨21, .data⟩, ⟨18, .guard⟩], some (18, false)⟩) (v := ?vg533) rfl (by kernel_rfl) (fun _ _ _ h => h) (Or.inr hHeld532) (Or.inl ⟨by rfl, ?yg533⟩) ?_
        case yg533 => (intro wS _; go_simp <;> with_reducible rfl)
        try simp only [Act.put, gqa, gqb, gqc]
        refine wpG_pure (i := 23) (oi := ⟨some 104, .move (.tmp 103), 4, "l10_topic.go:200", #[⟨22, .data⟩, ⟨21, .chain⟩, ⟨18, .guard⟩], some (18, false)⟩) (v := ?vg534) rfl (by kernel_rfl) (fun _ _ _ h => h) (Or.inr hHeld532) (Or.inl ⟨by rfl, ?yg534⟩) ?_
        case yg534 => (intro wS _; go_simp <;> with_reducible rfl)
        try simp only [Act.put, gqa, gqb, gqc]
        refine wpG_pure (i := 24) (oi := ⟨some 105, .fieldAddr 58 (.tmp 5) 0, 0, "l10_topic.go:200", #[⟨23, .guard⟩], some (23, true)⟩) (v := ?vg535) rfl (by kernel_rfl) (fun _ _ _ h => h) (Or.inr hHeld532) (Or.inl ⟨by rfl, ?yg535⟩) ?_
        case yg535 => (intro wS _; go_simp <;> with_reducible rfl)
        try simp only [Act.put, gqa, gqb, gqc]
        refine wpG_load (i := 25) (oi := ⟨some 106, .load 9 (.tmp 105), 9, "l10_topic.go:200", #[⟨24, .data⟩, ⟨23, .guard⟩], some (23, true)⟩) (v := ?vg536) [[42, 34, 28, 27, 26, 25]] rfl (by kernel_rfl) (fun _ _ _ h => h) hHeld532 (Or.inl ⟨by rfl, ?yg536⟩) ?_
        case yg536 => (intro wS hSw; (try dsimp only at hSw); go_simp <;> with_reducible rfl)
        try simp only [Act.put, gqa, gqb, gqc]
        refine wpG_pure (i := 26) (oi := ⟨some 107, .binOp .neq 9 (.tmp 106) (.const (.string { data := #[43] })) 9, 4, "l10_topic.go:200", #[⟨25, .data⟩, ⟨23, .guard⟩], some (23, true)⟩) (v := ?vg537) rfl (by kernel_rfl) (fun _ _ _ h => h) (Or.inr hHeld532) (Or.inl ⟨by rfl, ?yg537⟩) ?_
        case yg537 => (intro wS _; go_simp <;> with_reducible rfl)
        try simp only [Act.put, gqa, gqb, gqc]
        refine wpG_pure (i := 27) (oi := ⟨some 108, .pick (.tmp 104) (.tmp 107) (.const (.bool false)), 4, "l10_topic.go:200", #[⟨23, .data⟩, ⟨26, .data⟩, ⟨18, .guard⟩], some (18, false)⟩) (v := ?vg538) rfl (by kernel_rfl) (fun _ _ _ h => h) (Or.inr hHeld532) (Or.inl ⟨by rfl, ?yg538⟩) ?_
        case yg538 => (intro wS _; go_simp <;> with_reducible rfl)
        try simp only [Act.put, gqa, gqb, gqc]
        refine wpG_pure (i := 28) (oi := ⟨some 109, .move (.tmp 108), 4, "l10_topic.go:200", #[⟨27, .data⟩, ⟨23, .chain⟩, ⟨18, .guard⟩], some (18, false)⟩) (v := ?vg539) rfl (by kernel_rfl) (fun _ _ _ h => h) (Or.inr hHeld532) (Or.inl ⟨by rfl, ?yg539⟩) ?_
        case yg539 => (intro wS _; go_simp <;> with_reducible rfl)
        try simp only [Act.put, gqa, gqb, gqc]
        refine wpG_pure (i := 29) (oi := ⟨some 110, .fieldAddr 58 (.tmp 5) 0, 0, "l10_topic.go:200", #[⟨28, .guard⟩], some (28, true)⟩) (v := ?vg540) rfl (by kernel_rfl) (fun _ _ _ h => h) (Or.inr hHeld532) (Or.inl ⟨by rfl, ?yg540⟩) ?_
        case yg540 => (intro wS _; go_simp <;> with_reducible rfl)
        try simp only [Act.put, gqa, gqb, gqc]
        refine wpG_load (i := 30) (oi := ⟨some 111, .load 9 (.tmp 110), 9, "l10_topic.go:200", #[⟨29, .data⟩, ⟨28, .guard⟩], some (28, true)⟩) (v := ?vg541) [[42, 34, 33, 32, 31, 30]] rfl (by kernel_rfl) (fun _ _ _ h => h) hHeld532 (Or.inl ⟨by rfl, ?yg541⟩) ?_
        case yg541 => (intro wS hSw; (try dsimp only at hSw); go_simp <;> with_reducible rfl)
        try simp only [Act.put, gqa, gqb, gqc]
        refine wpG_pure (i := 31) (oi := ⟨some 112, .binOp .neq 9 (.tmp 111) (.const (.string { data := #[35] })) 9, 4, "l10_topic.go:200", #[⟨30, .data⟩, ⟨28, .guard⟩], some (28, true)⟩) (v := ?vg542) rfl (by kernel_rfl) (fun _ _ _ h => h) (Or.inr hHeld532) (Or.inl ⟨by rfl, ?yg542⟩) ?_
        case yg542 => (intro wS _; go_simp <;> with_reducible rfl)
        try simp only [Act.put, gqa, gqb, gqc]
        refine wpG_pure (i := 32) (oi := ⟨some 113, .pick (.tmp 109) (.tmp 112) (.const (.bool false)), 4, "l10_topic.go:200", #[⟨28, .data⟩, ⟨31, .data⟩, ⟨18, .guard⟩], some (18, false)⟩) (v := ?vg543) rfl (by kernel_rfl) (fun _ _ _ h => h) (Or.inr hHeld532) (Or.inl ⟨by rfl, ?yg543⟩) ?_
        case yg543 => (intro wS _; go_simp <;> with_reducible rfl)
        try simp only [Act.put, gqa, gqb, gqc]
        refine wpG_pure (i := 33) (oi := ⟨some 114, .pick (.tmp 99) (.const (.bool true)) (.tmp 113), 4, "l10_topic.go:200", #[⟨18, .data⟩, ⟨32, .data⟩], none⟩) (v := ?vg544) rfl (by kernel_rfl) (fun _ _ _ h => h) (Or.inr hHeld532) (Or.inl ⟨by rfl, ?yg544⟩) ?_
        case yg544 => (intro wS _; go_simp <;> with_reducible rfl)
        try simp only [Act.put, gqa, gqb, gqc]
        refine wpG_pure (i := 34) (oi := ⟨some 115, .move (.tmp 114), 4, "l10_topic.go:200", #[⟨33, .data⟩, ⟨28, .chain⟩], none⟩) (v := ?vg545) rfl (by kernel_rfl) (fun _ _ _ h => h) (Or.inr hHeld532) (Or.inl ⟨by rfl, ?yg545⟩) ?_
        case yg545 => (intro wS _; go_simp <;> with_reducible rfl)
        try simp only [Act.put, gqa, gqb, gqc]
        refine wpG_pure (i := 35) (oi := ⟨some 116, .move (.tmp 0), 24, "l10_topic.go:200", #[⟨34, .guard⟩], some (34, false)⟩) (v := ?vg546) rfl (by kernel_rfl) (fun _ _ _ h => h) (Or.inr hHeld532) (Or.inl ⟨by rfl, ?yg546⟩) ?_
        case yg546 => (intro wS _; go_simp <;> with_reducible rfl)
        try simp only [Act.put, gqa, gqb, gqc]
        refine wpG_pure (i := 36) (oi := ⟨some 117, .move (.tmp 4), 3, "l10_topic.go:200", #[⟨34, .guard⟩], some (34, false)⟩) (v := ?vg547) rfl (by kernel_rfl) (fun _ _ _ h => h) (Or.inr hHeld532) (Or.inl ⟨by rfl, ?yg547⟩) ?_
        case yg547 => (intro wS _; go_simp <;> with_reducible rfl)
        try simp only [Act.put, gqa, gqb, gqc]
        refine wpG_pure (i := 37) (oi := ⟨some 118, .slice 24 (.tmp 116) none (some (.tmp 117)) none, 24, "l10_topic.go:200", #[⟨35, .data⟩, ⟨36, .data⟩, ⟨34, .guard⟩], some (34, false)⟩) (v := ?vg548) rfl (by kernel_rfl) (fun _ _ _ h => h) (Or.inr hHeld532) (Or.inl ⟨by rfl, ?yg548⟩) ?_
        case yg548 => (intro wS _; go_simp <;> with_reducible rfl)
        try simp only [Act.put, gqa, gqb, gqc]
        refine wpG_pure (i := 38) (oi := ⟨some 119, .fieldAddr 58 (.tmp 5) 1, 0, "l10_topic.go:200", #[⟨34, .guard⟩], some (34, false)⟩) (v := ?vg549) rfl (by kernel_rfl) (fun _ _ _ h => h) (Or.inr hHeld532) (Or.inl ⟨by rfl, ?yg549⟩) ?_
        case yg549 => (intro wS _; go_simp <;> with_reducible rfl)
        try simp only [Act.put, gqa, gqb, gqc]
        refine wpG_load (i := 39) (oi := ⟨some 120, .load 3 (.tmp 119), 3, "l10_topic.go:200", #[⟨38, .data⟩, ⟨34, .guard⟩], some (34, false)⟩) (v := ?vg550) [[42, 39]] rfl (by kernel_rfl) (fun _ _ _ h => h) hHeld532 (Or.inl ⟨by rfl, ?yg550⟩) ?_
        case yg550 => (intro wS hSw; (try dsimp only at hSw); go_simp <;> with_reducible rfl)
        try simp only [Act.put, gqa, gqb, gqc]
        refine wpG_pure (i := 40) (oi := ⟨some 121, .fieldAddr 58 (.tmp 5) 0, 0, "l10_topic.go:200", #[⟨34, .guard⟩], some (34, false)⟩) (v := ?vg551) rfl (by kernel_rfl) (fun _ _ _ h => h) (Or.inr hHeld532) (Or.inl ⟨by rfl, ?yg551⟩) ?_
        case yg551 => (intro wS _; go_simp <;> with_reducible rfl)
        try simp only [Act.put, gqa, gqb, gqc]
        refine wpG_load (i := 41) (oi := ⟨some 122, .load 9 (.tmp 121), 9, "l10_topic.go:200", #[⟨40, .data⟩, ⟨34, .guard⟩], some (34, false)⟩) (v := ?vg552) [[42, 41]] rfl (by kernel_rfl) (fun _ _ _ h => h) hHeld532 (Or.inl ⟨by rfl, ?yg552⟩) ?_
        case yg552 => (intro wS hSw; (try dsimp only at hSw); go_simp <;> with_reducible rfl)
        try simp only [Act.put, gqa, gqb, gqc]
        refine wpG_one (i := 42) (o := ⟨some 123, .call { callee := .value (.func 68), args := #[.tmp 118, .tmp 120, .tmp 122], argTypes := #[24, 3, 9] }, 3, "l10_topic.go:200", #[⟨37, .data⟩, ⟨39, .data⟩, ⟨41, .data⟩, ⟨34, .chain⟩, ⟨34, .guard⟩], some (34, false)⟩) rfl (by kernel_rfl) (fun K hK => ?_)
        go_simp
        refine (HKD.out _ HWD.out).mono ?_
        rintro e w3 ⟨rfl, hb3⟩
        have HB3 := Lib.hid (HWD.out.trans (hb3.mono HWD.out.size)); have HC3 := Lib.hid (HWC.out.trans (hb3.mono hzd)); clear hb3
        refine hK.out _ _ (Or.inl (by kernel_rfl)) (fun _ => ?_)
        clear hK K
        try simp only [Act.put, gqa, gqb, gqc]
        refine wpG_pure (i := 43) (oi := ⟨some 124, .binOp .geq 3 (.tmp 123) (.const (.int .i64 0)) 3, 4, "l10_topic.go:200", #[⟨42, .data⟩, ⟨34, .guard⟩], some (34, false)⟩) (v := ?vg554) rfl (by kernel_rfl) (fun _ _ _ h => h) (Or.inl (by kernel_rfl)) (Or.inl ⟨by rfl, ?yg554⟩) ?_
        case yg554 => (intro wS _; go_simp <;> with_reducible rfl)
        try simp only [Act.put, gqa, gqb, gqc]
        refine wpG_pure (i := 44) (oi := ⟨some 125, .pick (.tmp 115) (.const (.bool true)) (.tmp 124), 4, "l10_topic.go:200", #[⟨34, .data⟩, ⟨43, .data⟩], none⟩) (v := ?vg555) rfl (by kernel_rfl) (fun _ _ _ h => h) (Or.inl (by kernel_rfl)) (Or.inl ⟨by rfl, ?yg555⟩) ?_
        case yg555 => (intro wS _; go_simp <;> with_reducible rfl)
        try simp only [Act.put, gqa, gqb, gqc]
        refine wpG_pure (i := 45) (oi := ⟨some 126, .move (.tmp 125), 4, "l10_topic.go:200", #[⟨44, .data⟩, ⟨42, .chain⟩], none⟩) (v := ?vg556) rfl (by kernel_rfl) (fun _ _ _ h => h) (Or.inl (by kernel_rfl)) (Or.inl ⟨by rfl, ?yg556⟩) ?_
        case yg556 => (intro wS _; go_simp <;> with_reducible rfl)
        try simp only [Act.put, gqa, gqb, gqc]
        refine wpG_pure (i := 46) (oi := ⟨some 127, .move (.tmp 0), 24, "l10_topic.go:200", #[⟨45, .guard⟩], some (45, false)⟩) (v := ?vg557) rfl (by kernel_rfl) (fun _ _ _ h => h) (Or.inl (by kernel_rfl)) (Or.inl ⟨by rfl, ?yg557⟩) ?_
        case yg557 => (intro wS _; go_simp <;> with_reducible rfl)
        try simp only [Act.put, gqa, gqb, gqc]
        refine wpG_pure (i := 47) (oi := ⟨some 128, .move (.tmp 4), 3, "l10_topic.go:200", #[⟨45, .guard⟩], some (45, false)⟩) (v := ?vg558) rfl (by kernel_rfl) (fun _ _ _ h => h) (Or.inl (by kernel_rfl)) (Or.inl ⟨by rfl, ?yg558⟩) ?_
        case yg558 => (intro wS _; go_simp <;> with_reducible rfl)
        try simp only [Act.put, gqa, gqb, gqc]
        refine wpG_one (i := 48) (o := ⟨some 129, .call { callee := .value (.func 81), args := #[.tmp 127, .tmp 128], argTypes := #[24, 3] }, 3, "l10_topic.go:200", #[⟨46, .data⟩, ⟨47, .data⟩, ⟨45, .chain⟩, ⟨45, .guard⟩], some (45, false)⟩) rfl (by kernel_rfl) (fun K hK => ?_)
        go_simp
        refine (HDP.out _ HB3.out).mono ?_
        rintro e w' ⟨rfl, rfl⟩
        refine hK.out _ _ (Or.inl (by kernel_rfl)) (fun _ => ?_)
        clear hK K
        try simp only [Act.put, gqa, gqb, gqc]
        refine wpG_pure (i := 49) (oi := ⟨some 130, .binOp .gtr 3 (.tmp 129) (.const (.int .i64 6)) 3, 4, "l10_topic.go:200", #[⟨48, .data⟩, ⟨45, .guard⟩], some (45, false)⟩) (v := ?vg560) rfl (by kernel_rfl) (fun _ _ _ h => h) (Or.inl (by kernel_rfl)) (Or.inl ⟨by rfl, ?yg560⟩) ?_
        case yg560 => (intro wS _; go_simp <;> with_reducible rfl)
        try simp only [Act.put, gqa, gqb, gqc]
        refine wpG_pure (i := 50) (oi := ⟨some 131, .pick (.tmp 126) (.const (.bool true)) (.tmp 130), 4, "l10_topic.go:200", #[⟨45, .data⟩, ⟨49, .data⟩], none⟩) (v := ?vg561) rfl (by kernel_rfl) (fun _ _ _ h => h) (Or.inl (by kernel_rfl)) (Or.inl ⟨by rfl, ?yg561⟩) ?_
        case yg561 => (intro wS _; go_simp <;> with_reducible rfl)
        try simp only [Act.put, gqa, gqb, gqc]
        refine wpG_done (by kernel_rfl) ?_
        (go_wp2_with fail; go_ret; exact ⟨ret_bool HN.out.symm, HB3.out⟩)
      have HH := Lib.hid (HHY.out HHK.out hd6)
      have HNB := Lib.hid fun h => HNB0.out HH.out h
      have HNO := Lib.hid fun h => HNO0.out HH.out h
      clear HH HHK HHY HNB0 HNO0
      generalize depR t k k = dp at *
      have q9 : ¬ (6 : Int) < (dp : Int) := by omega
      clear hd6
      refine wp_region_G [42] (fun w' => w'.cell? ⟨wo.heap.size, 0, none⟩ = some (.string x.1) ∧ w'.cell? ⟨wo.heap.size, 1, none⟩ = some (.int .i64 x.2.1) ∧ w'.cell? ⟨b, off + x.2.1.toNat * 3, none⟩ = some (.string y.1)) (by kernel_rfl) ?_ (fun hHeld => ?_)
      · exact ⟨f0, f1, d1⟩
      refine wpG_pure (i := 0) (oi := ⟨some 81, .fieldAddr 58 (.tmp 5) 1, 0, "l10_topic.go:200", #[], none⟩) (v := ?vg562) rfl (by kernel_rfl) (fun _ _ _ h => h) (Or.inr hHeld) (Or.inl ⟨by rfl, ?yg562⟩) ?_
      case yg562 => (intro wS _; go_simp <;> with_reducible rfl)
      try simp only [Act.put, gqa, gqb, gqc]
      refine wpG_load (i := 1) (oi := ⟨some 82, .load 3 (.tmp 81), 3, "l10_topic.go:200", #[⟨0, .data⟩], none⟩) (v := ?vg563) [[42, 34, 33, 18, 9, 3, 2, 1]] rfl (by kernel_rfl) (fun _ _ _ h => h) hHeld (Or.inl ⟨by rfl, ?yg563⟩) ?_
      case yg563 => (intro wS hSw; (try dsimp only at hSw); go_simp <;> with_reducible rfl)
      try simp only [Act.put, gqa, gqb, gqc]
      refine wpG_pure (i := 2) (oi := ⟨some 83, .binOp .lss 3 (.tmp 82) (.const (.int .i64 0)) 3, 4, "l10_topic.go:200", #[⟨1, .data⟩], none⟩) (v := ?vg564) rfl (by kernel_rfl) (fun _ _ _ h => h) (Or.inr hHeld) (Or.inl ⟨by rfl, ?yg564⟩) ?_
      case yg564 => (intro wS _; go_simp <;> with_reducible rfl)
      try simp only [Act.put, gqa, gqb, gqc]
      refine wpG_pure (i := 3) (oi := ⟨some 84, .move (.tmp 83), 4, "l10_topic.go:200", #[⟨2, .data⟩], none⟩) (v := ?vg565) rfl (by kernel_rfl) (fun _ _ _ h => h) (Or.inr hHeld) (Or.inl ⟨by rfl, ?yg565⟩) ?_
      case yg565 => (intro wS _; go_simp <;> with_reducible rfl)
      try simp only [Act.put, gqa, gqb, gqc]
      refine wpG_pure (i := 4) (oi := ⟨some 85, .fieldAddr 58 (.tmp 5) 1, 0, "l10_topic.go:200", #[⟨3, .guard⟩], some (3, false)⟩) (v := ?vg566) rfl (by kernel_rfl) (fun _ _ _ h => h) (Or.inr hHeld) (Or.inl ⟨by rfl, ?yg566⟩) ?_
      case yg566 => (intro wS _; go_simp <;> with_reducible rfl)
      try simp only [Act.put, gqa, gqb, gqc]
      refine wpG_load (i := 5) (oi := ⟨some 86, .load 3 (.tmp 85), 3, "l10_topic.go:200", #[⟨4, .data⟩, ⟨3, .guard⟩], some (3, false)⟩) (v := ?vg567) [[42, 34, 33, 18, 9, 8, 7, 5]] rfl (by kernel_rfl) (fun _ _ _ h => h) hHeld (Or.inl ⟨by rfl, ?yg567⟩) ?_
      case yg567 => (intro wS hSw; (try dsimp only at hSw); go_simp <;> with_reducible rfl)
      try simp only [Act.put, gqa, gqb, gqc]
      refine wpG_pure (i := 6) (oi := ⟨some 87, .move (.tmp 4), 3, "l10_topic.go:200", #[⟨3, .guard⟩], some (3, false)⟩) (v := ?vg568) rfl (by kernel_rfl) (fun _ _ _ h => h) (Or.inr hHeld) (Or.inl ⟨by rfl, ?yg568⟩) ?_
      case yg568 => (intro wS _; go_simp <;> with_reducible rfl)
      try simp only [Act.put, gqa, gqb, gqc]
      refine wpG_pure (i := 7) (oi := ⟨some 88, .binOp .geq 3 (.tmp 86) (.tmp 87) 3, 4, "l10_topic.go:200", #[⟨5, .data⟩, ⟨6, .data⟩, ⟨3, .guard⟩], some (3, false)⟩) (v := ?vg569) rfl (by kernel_rfl) (fun _ _ _ h => h) (Or.inr hHeld) (Or.inl ⟨by rfl, ?yg569⟩) ?_
      case yg569 => (intro wS _; go_simp <;> with_reducible rfl)
      try simp only [Act.put, gqa, gqb, gqc]
      refine wpG_pure (i := 8) (oi := ⟨some 89, .pick (.tmp 84) (.const (.bool true)) (.tmp 88), 4, "l10_topic.go:200", #[⟨3, .data⟩, ⟨7, .data⟩], none⟩) (v := ?vg570) rfl (by kernel_rfl) (fun _ _ _ h => h) (Or.inr hHeld) (Or.inl ⟨by rfl, ?yg570⟩) ?_
      case yg570 => (intro wS _; go_simp <;> with_reducible rfl)
      try simp only [Act.put, gqa, gqb, gqc]
      refine wpG_pure (i := 9) (oi := ⟨some 90, .move (.tmp 89), 4, "l10_topic.go:200", #[⟨8, .data⟩, ⟨3, .chain⟩], none⟩) (v := ?vg571) rfl (by kernel_rfl) (fun _ _ _ h => h) (Or.inr hHeld) (Or.inl ⟨by rfl, ?yg571⟩) ?_
      case yg571 => (intro wS _; go_simp <;> with_reducible rfl)
      try simp only [Act.put, gqa, gqb, gqc]
      refine wpG_pure (i := 10) (oi := ⟨some 91, .move (.tmp 0), 24, "l10_topic.go:200", #[⟨9, .guard⟩], some (9, false)⟩) (v := ?vg572) rfl (by kernel_rfl) (fun _ _ _ h => h) (Or.inr hHeld) (Or.inl ⟨by rfl, ?yg572⟩) ?_
      case yg572 => (intro wS _; go_simp <;> with_reducible rfl)
      try simp only [Act.put, gqa, gqb, gqc]
      refine wpG_pure (i := 11) (oi := ⟨some 92, .fieldAddr 58 (.tmp 5) 1, 0, "l10_topic.go:200", #[⟨9, .guard⟩], some (9, false)⟩) (v := ?vg573) rfl (by kernel_rfl) (fun _ _ _ h => h) (Or.inr hHeld) (Or.inl ⟨by rfl, ?yg573⟩) ?_
      case yg573 => (intro wS _; go_simp <;> with_reducible rfl)
      try simp only [Act.put, gqa, gqb, gqc]
      refine wpG_load (i := 12) (oi := ⟨some 93, .load 3 (.tmp 92), 3, "l10_topic.go:200", #[⟨11, .data⟩, ⟨9, .guard⟩], some (9, false)⟩) (v := ?vg574) [[42, 34, 33, 18, 17, 16, 15, 14, 13, 12]] rfl (by kernel_rfl) (fun _ _ _ h => h) hHeld (Or.inl ⟨by rfl, ?yg574⟩) ?_
      case yg574 => (intro wS hSw; (try dsimp only at hSw); go_simp <;> with_reducible rfl)
      try simp only [Act.put, gqa, gqb, gqc]
      refine wpG_pure (i := 13) (oi := ⟨some 94, .indexAddr 24 (.tmp 91) (.tmp 93), 0, "l10_topic.go:200", #[⟨10, .data⟩, ⟨12, .data⟩, ⟨9, .guard⟩], some (9, false)⟩) (v := ?vg575) rfl (by kernel_rfl) (fun _ _ _ h => h) (Or.inr hHeld) (Or.inl ⟨by rfl, ?yg575⟩) ?_
      case yg575 => (intro wS _; go_simp <;> with_reducible rfl)
      try simp only [Act.put, gqa, gqb, gqc]
      refine wpG_pure (i := 14) (oi := ⟨some 95, .fieldAddr 58 (.tmp 94) 0, 0, "l10_topic.go:200", #[⟨13, .data⟩, ⟨9, .guard⟩], some (9, false)⟩) (v := ?vg576) rfl (by kernel_rfl) (fun _ _ _ h => h) (Or.inr hHeld) (Or.inl ⟨by rfl, ?yg576⟩) ?_
      case yg576 => (intro wS _; go_simp <;> with_reducible rfl)
      try simp only [Act.put, gqa, gqb, gqc]
      refine wpG_load (i := 15) (oi := ⟨some 96, .load 9 (.tmp 95), 9, "l10_topic.go:200", #[⟨14, .data⟩, ⟨9, .guard⟩], some (9, false)⟩) (v := ?vg577) [[42, 34, 33, 18, 17, 16, 15]] rfl (by kernel_rfl) (fun _ _ _ h => h) hHeld (Or.inl ⟨by rfl, ?yg577⟩) ?_
      case yg577 => (intro wS hSw; (try dsimp only at hSw); go_simp <;> with_reducible rfl)
      try simp only [Act.put, gqa, gqb, gqc]
      refine wpG_pure (i := 16) (oi := ⟨some 97, .binOp .eql 9 (.tmp 96) (.const (.string { data := #[35] })) 9, 4, "l10_topic.go:200", #[⟨15, .data⟩, ⟨9, .guard⟩], some (9, false)⟩) (v := ?vg578) rfl (by kernel_rfl) (fun _ _ _ h => h) (Or.inr hHeld) (Or.inl ⟨by rfl, ?yg578⟩) ?_
      case yg578 => (intro wS _; go_simp <;> with_reducible rfl)
      try simp only [Act.put, gqa, gqb, gqc]
      refine wpG_pure (i := 17) (oi := ⟨some 98, .pick (.tmp 90) (.const (.bool true)) (.tmp 97), 4, "l10_topic.go:200", #[⟨9, .data⟩, ⟨16, .data⟩], none⟩) (v := ?vg579) rfl (by kernel_rfl) (fun _ _ _ h => h) (Or.inr hHeld) (Or.inl ⟨by rfl, ?yg579⟩) ?_
      case yg579 => (intro wS _; go_simp <;> with_reducible rfl)
      try simp only [Act.put, gqa, gqb, gqc]
      refine wpG_pure (i := 18) (oi := ⟨some 99, .move (.tmp 98), 4, "l10_topic.go:200", #[⟨17, .data⟩, ⟨9, .chain⟩], none⟩) (v := ?vg580) rfl (by kernel_rfl) (fun _ _ _ h => h) (Or.inr hHeld) (Or.inl ⟨by rfl, ?yg580⟩) ?_
      case yg580 => (intro wS _; go_simp <;> with_reducible rfl)
      try simp only [Act.put, gqa, gqb, gqc]
      refine wpG_pure (i := 19) (oi := ⟨some 100, .fieldAddr 58 (.tmp 5) 0, 0, "l10_topic.go:200", #[⟨18, .guard⟩], some (18, false)⟩) (v := ?vg581) rfl (by kernel_rfl) (fun _ _ _ h => h) (Or.inr hHeld) (Or.inl ⟨by rfl, ?yg581⟩) ?_
      case yg581 => (intro wS _; go_simp <;> with_reducible rfl)
      try simp only [Act.put, gqa, gqb, gqc]
      refine wpG_load (i := 20) (oi := ⟨some 101, .load 9 (.tmp 100), 9, "l10_topic.go:200", #[⟨19, .data⟩, ⟨18, .guard⟩], some (18, false)⟩) (v := ?vg582) [[42, 34, 28, 23, 21, 20]] rfl (by kernel_rfl) (fun _ _ _ h => h) hHeld (Or.inl ⟨by rfl, ?yg582⟩) ?_
      case yg582 => (intro wS hSw; (try dsimp only at hSw); go_simp <;> with_reducible rfl)
      try simp only [Act.put, gqa, gqb, gqc]
      refine wpG_one (i := 21) (o := ⟨some 102, .call { callee := .value (.func 58), args := #[.tmp 101], argTypes := #[9] }, 4, "l10_topic.go:200", #[⟨20, .data⟩, ⟨18, .chain⟩, ⟨18, .guard⟩], some (18, false)⟩) rfl (by kernel_rfl) (fun K hK => ?_)
      go_simp
      refine (HLV.out _).mono ?_
      rw [HLL.out]
      rintro e w' ⟨rfl, rfl⟩
      refine hK.out _ _ (Or.inr ?khHeld583) (fun hHeld583S => ?_)
      case khHeld583 => exact ⟨f0, f1, d1⟩
      have hHeld583 := hHeld583S.held (by kernel_rfl)
      clear hK K
      try simp only [Act.put, gqa, gqb, gqc]
      refine wpG_pure (i := 22) (oi := ⟨some 103, .unOp .not 4 (.tmp 102), 4, "l10_topic.go:200", #[⟨21, .data⟩, ⟨18, .guard⟩], some (18, false)⟩) (v := ?vg584) rfl (by kernel_rfl) (fun _ _ _ h => h) (Or.inr hHeld583) (Or.inl ⟨by rfl, ?yg584⟩) ?_
      case yg584 => (intro wS _; go_simp <;> with_reducible rfl)
      try simp only [Act.put, gqa, gqb, gqc]
      refine wpG_pure (i := 23) (oi := ⟨some 104, .move (.tmp 103), 4, "l10_topic.go:200", #[⟨22, .data⟩, ⟨21, .chain⟩, ⟨18, .guard⟩], some (18, false)⟩) (v := ?vg585) rfl (by kernel_rfl) (fun _ _ _ h => h) (Or.inr hHeld583) (Or.inl ⟨by rfl, ?yg585⟩) ?_
      case yg585 => (intro wS _; go_simp <;> with_reducible rfl)
      try simp only [Act.put, gqa, gqb, gqc]
      refine wpG_pure (i := 24) (oi := ⟨some 105, .fieldAddr 58 (.tmp 5) 0, 0, "l10_topic.go:200", #[⟨23, .guard⟩], some (23, true)⟩) (v := ?vg586) rfl (by kernel_rfl) (fun _ _ _ h => h) (Or.inr hHeld583) (Or.inl ⟨by rfl, ?yg586⟩) ?_
      case yg586 => (intro wS _; go_simp <;> with_reducible rfl)
      try simp only [Act.put, gqa, gqb, gqc]
      refine wpG_load (i := 25) (oi := ⟨some 106, .load 9 (.tmp 105), 9, "l10_topic.go:200", #[⟨24, .data⟩, ⟨23, .guard⟩], some (23, true)⟩) (v := ?vg587) [[42, 34, 28, 27, 26, 25]] rfl (by kernel_rfl) (fun _ _ _ h => h) hHeld583 (Or.inl ⟨by rfl, ?yg587⟩) ?_
      case yg587 => (intro wS hSw; (try dsimp only at hSw); go_simp <;> with_reducible rfl)
      try simp only [Act.put, gqa, gqb, gqc]
      refine wpG_pure (i := 26) (oi := ⟨some 107, .binOp .neq 9 (.tmp 106) (.const (.string { data := #[43] })) 9, 4, "l10_topic.go:200", #[⟨25, .data⟩, ⟨23, .guard⟩], some (23, true)⟩) (v := ?vg588) rfl (by kernel_rfl) (fun _ _ _ h => h) (Or.inr hHeld583) (Or.inl ⟨by rfl, ?yg588⟩) ?_
      case yg588 => (intro wS _; go_simp <;> with_reducible rfl)
      try simp only [Act.put, gqa, gqb, gqc]
      refine wpG_pure (i := 27) (oi := ⟨some 108, .pick (.tmp 104) (.tmp 107) (.const (.bool false)), 4, "l10_topic.go:200", #[⟨23, .data⟩, ⟨26, .data⟩, ⟨18, .guard⟩], some (18, false)⟩) (v := ?vg589) rfl (by kernel_rfl) (fun _ _ _ h => h) (Or.inr hHeld583) (Or.inl ⟨by rfl, ?yg589⟩) ?_
      case yg589 => (intro wS _; go_simp <;> with_reducible rfl)
      try simp only [Act.put, gqa, gqb, gqc]
      refine wpG_pure (i := 28) (oi := ⟨some 109, .move (.tmp 108), 4, "l10_topic.go:200", #[⟨27, .data⟩, ⟨23, .chain⟩, ⟨18, .guard⟩], some (18, false)⟩) (v := ?vg590) rfl (by kernel_rfl) (fun _ _ _ h => h) (Or.inr hHeld583) (Or.inl ⟨by rfl, ?yg590⟩) ?_
      case yg590 => (intro wS _; go_simp <;> with_reducible rfl)
      try simp only [Act.put, gqa, gqb, gqc]
      refine wpG_pure (i := 29) (oi := ⟨some 110, .fieldAddr 58 (.tmp 5) 0, 0, "l10_topic.go:200", #[⟨28, .guard⟩], some (28, true)⟩) (v := ?vg591) rfl (by kernel_rfl) (fun _ _ _ h => h) (Or.inr hHeld583) (Or.inl ⟨by rfl, ?yg591⟩) ?_
      case yg591 => (intro wS _; go_simp <;> with_reducible rfl)
      try simp only [Act.put, gqa, gqb, gqc]
      refine wpG_load (i := 30) (oi := ⟨some 111, .load 9 (.tmp 110), 9, "l10_topic.go:200", #[⟨29, .data⟩, ⟨28, .guard⟩], some (28, true)⟩) (v := ?vg592) [[42, 34, 33, 32, 31, 30]] rfl (by kernel_rfl) (fun _ _ _ h => h) hHeld583 (Or.inl ⟨by rfl, ?yg592⟩) ?_
      case yg592 => (intro wS hSw; (try dsimp only at hSw); go_simp <;> with_reducible rfl)
      try simp only [Act.put, gqa, gqb, gqc]
      refine wpG_pure (i := 31) (oi := ⟨some 112, .binOp .neq 9 (.tmp 111) (.const (.string { data := #[35] })) 9, 4, "l10_topic.go:200", #[⟨30, .data⟩, ⟨28, .guard⟩], some (28, true)⟩) (v := ?vg593) rfl (by kernel_rfl) (fun _ _ _ h => h) (Or.inr hHeld583) (Or.inl ⟨by rfl, ?yg593⟩) ?_
      case yg593 => (intro wS _; go_simp <;> with_reducible rfl)
      try simp only [Act.put, gqa, gqb, gqc]
      refine wpG_pure (i := 32) (oi := ⟨some 113, .pick (.tmp 109) (.tmp 112) (.const (.bool false)), 4, "l10_topic.go:200", #[⟨28, .data⟩, ⟨31, .data⟩, ⟨18, .guard⟩], some (18, false)⟩) (v := ?vg594) rfl (by kernel_rfl) (fun _ _ _ h => h) (Or.inr hHeld583) (Or.inl ⟨by rfl, ?yg594⟩) ?_
      case yg594 => (intro wS _; go_simp <;> with_reducible rfl)
      try simp only [Act.put, gqa, gqb, gqc]
      refine wpG_pure (i := 33) (oi := ⟨some 114, .pick (.tmp 99) (.const (.bool true)) (.tmp 113), 4, "l10_topic.go:200", #[⟨18, .data⟩, ⟨32, .data⟩], none⟩) (v := ?vg595) rfl (by kernel_rfl) (fun _ _ _ h => h) (Or.inr hHeld583) (Or.inl ⟨by rfl, ?yg595⟩) ?_
      case yg595 => (intro wS _; go_simp <;> with_reducible rfl)
      try simp only [Act.put, gqa, gqb, gqc]
      refine wpG_pure (i := 34) (oi := ⟨some 115, .move (.tmp 114), 4, "l10_topic.go:200", #[⟨33, .data⟩, ⟨28, .chain⟩], none⟩) (v := ?vg596) rfl (by kernel_rfl) (fun _ _ _ h => h) (Or.inr hHeld583) (Or.inl ⟨by rfl, ?yg596⟩) ?_
      case yg596 => (intro wS _; go_simp <;> with_reducible rfl)
      try simp only [Act.put, gqa, gqb, gqc]
      refine wpG_pure (i := 35) (oi := ⟨some 116, .move (.tmp 0), 24, "l10_topic.go:200", #[⟨34, .guard⟩], some (34, false)⟩) (v := ?vg597) rfl (by kernel_rfl) (fun _ _ _ h => h) (Or.inr hHeld583) (Or.inl ⟨by rfl, ?yg597⟩) ?_
      case yg597 => (intro wS _; go_simp <;> with_reducible rfl)
      try simp only [Act.put, gqa, gqb, gqc]
      refine wpG_pure (i := 36) (oi := ⟨some 117, .move (.tmp 4), 3, "l10_topic.go:200", #[⟨34, .guard⟩], some (34, false)⟩) (v := ?vg598) rfl (by kernel_rfl) (fun _ _ _ h => h) (Or.inr hHeld583) (Or.inl ⟨by rfl, ?yg598⟩) ?_
      case yg598 => (intro wS _; go_simp <;> with_reducible rfl)
      try simp only [Act.put, gqa, gqb, gqc]
      refine wpG_pure (i := 37) (oi := ⟨some 118, .slice 24 (.tmp 116) none (some (.tmp 117)) none, 24, "l10_topic.go:200", #[⟨35, .data⟩, ⟨36, .data⟩, ⟨34, .guard⟩], some (34, false)⟩) (v := ?vg599) rfl (by kernel_rfl) (fun _ _ _ h => h) (Or.inr hHeld583) (Or.inl ⟨by rfl, ?yg599⟩) ?_
      case yg599 => (intro wS _; go_simp <;> with_reducible rfl)
      try simp only [Act.put, gqa, gqb, gqc]
      refine wpG_pure (i := 38) (oi := ⟨some 119, .fieldAddr 58 (.tmp 5) 1, 0, "l10_topic.go:200", #[⟨34, .guard⟩], some (34, false)⟩) (v := ?vg600) rfl (by kernel_rfl) (fun _ _ _ h => h) (Or.inr hHeld583) (Or.inl ⟨by rfl, ?yg600⟩) ?_
      case yg600 => (intro wS _; go_simp <;> with_reducible rfl)
      try simp only [Act.put, gqa, gqb, gqc]
      refine wpG_load (i := 39) (oi := ⟨some 120, .load 3 (.tmp 119), 3, "l10_topic.go:200", #[⟨38, .data⟩, ⟨34, .guard⟩], some (34, false)⟩) (v := ?vg601) [[42, 39]] rfl (by kernel_rfl) (fun _ _ _ h => h) hHeld583 (Or.inl ⟨by rfl, ?yg601⟩) ?_
      case yg601 => (intro wS hSw; (try dsimp only at hSw); go_simp <;> with_reducible rfl)
      try simp only [Act.put, gqa, gqb, gqc]
      refine wpG_pure (i := 40) (oi := ⟨some 121, .fieldAddr 58 (.tmp 5) 0, 0, "l10_topic.go:200", #[⟨34, .guard⟩], some (34, false)⟩) (v := ?vg602) rfl (by kernel_rfl) (fun _ _ _ h => h) (Or.inr hHeld583) (Or.inl ⟨by rfl, ?yg602⟩) ?_
      case yg602 => (intro wS _; go_simp <;> with_reducible rfl)
      try simp only [Act.put, gqa, gqb, gqc]
      refine wpG_load (i := 41) (oi := ⟨some 122, .load 9 (.tmp 121), 9, "l10_topic.go:200", #[⟨40, .data⟩, ⟨34, .guard⟩], some (34, false)⟩) (v := ?vg603) [[42, 41]] rfl (by kernel_rfl) (fun _ _ _ h => h) hHeld583 (Or.inl ⟨by rfl, ?yg603⟩) ?_
      case yg603 => (intro wS hSw; (try dsimp only at hSw); go_simp <;> with_reducible rfl)
      try simp only [Act.put, gqa, gqb, gqc]
      refine wpG_one (i := 42) (o := ⟨some 123, .call { callee := .value (.func 68), args := #[.tmp 118, .tmp 120, .tmp 122], argTypes := #[24, 3, 9] }, 3, "l10_topic.go:200", #[⟨37, .data⟩, ⟨39, .data⟩, ⟨41, .data⟩, ⟨34, .chain⟩, ⟨34, .guard⟩], some (34, false)⟩) rfl (by kernel_rfl) (fun K hK => ?_)
      go_simp
      refine (HKD.out _ HWD.out).mono ?_
      rintro e w3 ⟨rfl, hb3⟩
      have HB3 := Lib.hid (HWD.out.trans (hb3.mono HWD.out.size)); have HC3 := Lib.hid (HWC.out.trans (hb3.mono hzd)); clear hb3
      refine hK.out _ _ (Or.inl (by kernel_rfl)) (fun _ => ?_)
      clear hK K
      try simp only [Act.put, gqa, gqb, gqc]
      refine wpG_pure (i := 43) (oi := ⟨some 124, .binOp .geq 3 (.tmp 123) (.const (.int .i64 0)) 3, 4, "l10_topic.go:200", #[⟨42, .data⟩, ⟨34, .guard⟩], some (34, false)⟩) (v := ?vg605) rfl (by kernel_rfl) (fun _ _ _ h => h) (Or.inl (by kernel_rfl)) (Or.inl ⟨by rfl, ?yg605⟩) ?_
      case yg605 => (intro wS _; go_simp <;> with_reducible rfl)
      try simp only [Act.put, gqa, gqb, gqc]
      refine wpG_pure (i := 44) (oi := ⟨some 125, .pick (.tmp 115) (.const (.bool true)) (.tmp 124), 4, "l10_topic.go:200", #[⟨34, .data⟩, ⟨43, .data⟩], none⟩) (v := ?vg606) rfl (by kernel_rfl) (fun _ _ _ h => h) (Or.inl (by kernel_rfl)) (Or.inl ⟨by rfl, ?yg606⟩) ?_
      case yg606 => (intro wS _; go_simp <;> with_reducible rfl)
      try simp only [Act.put, gqa, gqb, gqc]
      refine wpG_pure (i := 45) (oi := ⟨some 126, .move (.tmp 125), 4, "l10_topic.go:200", #[⟨44, .data⟩, ⟨42, .chain⟩], none⟩) (v := ?vg607) rfl (by kernel_rfl) (fun _ _ _ h => h) (Or.inl (by kernel_rfl)) (Or.inl ⟨by rfl, ?yg607⟩) ?_
      case yg607 => (intro wS _; go_simp <;> with_reducible rfl)
      try simp only [Act.put, gqa, gqb, gqc]
      refine wpG_pure (i := 46) (oi := ⟨some 127, .move (.tmp 0), 24, "l10_topic.go:200", #[⟨45, .guard⟩], some (45, false)⟩) (v := ?vg608) rfl (by kernel_rfl) (fun _ _ _ h => h) (Or.inl (by kernel_rfl)) (Or.inl ⟨by rfl, ?yg608⟩) ?_
      case yg608 => (intro wS _; go_simp <;> with_reducible rfl)
      try simp only [Act.put, gqa, gqb, gqc]
      refine wpG_pure (i := 47) (oi := ⟨some 128, .move (.tmp 4), 3, "l10_topic.go:200", #[⟨45, .guard⟩], some (45, false)⟩) (v := ?vg609) rfl (by kernel_rfl) (fun _ _ _ h => h) (Or.inl (by kernel_rfl)) (Or.inl ⟨by rfl, ?yg609⟩) ?_
      case yg609 => (intro wS _; go_simp <;> with_reducible rfl)
      try simp only [Act.put, gqa, gqb, gqc]
      refine wpG_one (i := 48) (o := ⟨some 129, .call { callee := .value (.func 81), args := #[.tmp 127, .tmp 128], argTypes := #[24, 3] }, 3, "l10_topic.go:200", #[⟨46, .data⟩, ⟨47, .data⟩, ⟨45, .chain⟩, ⟨45, .guard⟩], some (45, false)⟩) rfl (by kernel_rfl) (fun K hK => ?_)
      go_simp
      refine (HDP.out _ HB3.out).mono ?_
      rintro e w' ⟨rfl, rfl⟩
      refine hK.out _ _ (Or.inl (by kernel_rfl)) (fun _ => ?_)
      clear hK K
      try simp only [Act.put, gqa, gqb, gqc]
      refine wpG_pure (i := 49) (oi := ⟨some 130, .binOp .gtr 3 (.tmp 129) (.const (.int .i64 6)) 3, 4, "l10_topic.go:200", #[⟨48, .data⟩, ⟨45, .guard⟩], some (45, false)⟩) (v := ?vg611) rfl (by kernel_rfl) (fun _ _ _ h => h) (Or.inl (by kernel_rfl)) (Or.inl ⟨by rfl, ?yg611⟩) ?_
      case yg611 => (intro wS _; go_simp <;> with_reducible rfl)
      try simp only [Act.put, gqa, gqb, gqc]
      refine wpG_pure (i := 50) (oi := ⟨some 131, .pick (.tmp 126) (.const (.bool true)) (.tmp 130), 4, "l10_topic.go:200", #[⟨45, .data⟩, ⟨49, .data⟩], none⟩) (v := ?vg612) rfl (by kernel_rfl) (fun _ _ _ h => h) (Or.inl (by kernel_rfl)) (Or.inl ⟨by rfl, ?yg612⟩) ?_
      case yg612 => (intro wS _; go_simp <;> with_reducible rfl)
      try simp only [Act.put, gqa, gqb, gqc]
      refine wpG_done (by kernel_rfl) ?_
      skip
      clear HDP HKD HLV HLL f0 f1 d1
      go_wp2_with fail
      go_loopw [8, 134] (fun bv jv wq => ∃ (j : Nat), j ≤ t.length ∧ jv = .int .i64 (j : Int) ∧ bv = .bool ((t.take j).any fun z => decide (z.2.1 = (k : Int))) ∧ Hid (Below (wo.heap.size + 1) wb wq)) (fun _ jv _ => t.length - (intOf jv).toNat)
      case atStart => exact ⟨0, by omega, rfl, rfl, HC3⟩
      case round =>
        obtain ⟨j, hjl, rfl, rfl, HBQ⟩ := hrel
        obtain ⟨wq, rfl⟩ : ∃ z : World, z = wr := ⟨_, rfl⟩
        have HB9 := Lib.hid (HBW.out.trans (HBQ.out.mono hwz))
        have k2 : wq.cell? ⟨wo.heap.size, 2, none⟩ = some (.slice aw x.2.2.length cw) := below_cellk HBQ.out f2 (by omega)
        by_cases hlt2 : j < t.length
        case neg =>
          obtain rfl : j = t.length := by omega
          rw [List.take_length]
          cases hT : (t.any fun z => decide (z.2.1 = (k : Int))) with
          | true =>
            have HR := Lib.hid (HNB.out (by unfold tailB; rw [hT, Bool.or_true]))
            clear hT
            go_wp2_with fail
            go_roundw
            case rel => exact ⟨k + 1, by omega, by go_num, by rw [HWT.out]; go_num, HR, HB9⟩
            case measure => simp [intOf]; omega
          | false =>
            by_cases hp0 : 0 < x.2.2.length
            · have HR := Lib.hid (HNB.out (by unfold tailB; rw [HND.out]; simp [hp0]))
              have q9 : ((x.2.2.length : Int) == 0) = false := by rw [beq_eq_false_iff_ne]; omega
              clear hT
              go_wp2_with fail
              go_roundw
              case rel => exact ⟨k + 1, by omega, by go_num, by rw [HWT.out]; go_num, HR, HB9⟩
              case measure => simp [intOf]; omega
            · have HR := Lib.hid (HNO.out (by unfold tailB; rw [HND.out, hT]; simp [hp0]))
              have q9 : ((x.2.2.length : Int) == 0) = true := by rw [beq_iff_eq]; omega
              clear hT hp0
              go_wp2_with fail
              go_ret
              exact ⟨ret_bool HR.out.symm, HB9.out⟩
        obtain ⟨z, bz, offz, az, cz, hz, heaz, _, z0, z1, z2, _, _, _⟩ := nd_cells H.out hlt2
        simp only [Option.some.injEq, Addr.mk.injEq, and_true] at heaz
        obtain ⟨rfl, rfl⟩ := heaz
        have y0 := below_cellk HB9.out z0 hbl
        have y1 := below_cellk HB9.out z1 hbl
        have y2 := below_cellk HB9.out z2 hbl
        have HAN := Lib.hid (any_next (fun z : Nd => decide (z.2.1 = (k : Int))) hz)
        have HBX := Lib.hid (HBQ.out.alloc (by have := HBQ.out.size; omega) (.cells #[.string z.1, .int .i64 z.2.1, .slice az z.2.2.length cz] 58))
        clear z0 z1 z2 hz k2
        cases hA : ((t.take j).any fun z => decide (z.2.1 = (k : Int))) with
        | true =>
          have HA2 : Hid (((t.take (j + 1)).any fun z => decide (z.2.1 = (k : Int))) = true) := Lib.hid (by rw [HAN.out, hA]; rfl)
          clear hA
          go_wp2_with fail
          go_roundw
          case rel => exact ⟨j + 1, by omega, by go_num, by rw [HA2.out], HBX⟩
          case measure => simp [intOf]; omega
        | false =>
          by_cases hzk : z.2.1 = (k : Int)
          · have HA2 : Hid (((t.take (j + 1)).any fun z => decide (z.2.1 = (k : Int))) = true) := Lib.hid (by rw [HAN.out, hA]; simp [hzk])
            have q1 : (z.2.1 == (k : Int)) = true := by simp [hzk]
            clear hA hzk
            go_wp2_with fail
            go_roundw
            case rel => exact ⟨j + 1, by omega, by go_num, by rw [HA2.out], HBX⟩
            case measure => simp [intOf]; omega
          · have HA2 : Hid (((t.take (j + 1)).any fun z => decide (z.2.1 = (k : Int))) = false) := Lib.hid (by rw [HAN.out, hA]; simp [hzk])
            have q1 : (z.2.1 == (k : Int)) = false := by simp [hzk]
            clear hA hzk
            go_wp2_with fail
            go_roundw
            case rel => exact ⟨j + 1, by omega, by go_num, by rw [HA2.out], HBX⟩
            case measure => simp [intOf]; omega
    | false =>
      have h35' : (x.1.toList != [35]) = true := by simp [bne, h35]
      have HN := Lib.hid (HNH.out (by
        rw [HHD.out]; simp only [beq_eq_false_iff_ne, ne_eq] at h35 h43; unfold lvlOK; simp [hlv, not_more h35, not_any1 h43]))
      clear hlv HHD HNH
      refine wp_region_G [] (fun w' => w'.cell? ⟨wo.heap.size, 0, none⟩ = some (.string x.1) ∧ w'.cell? ⟨wo.heap.size, 1, none⟩ = some (.int .i64 x.2.1) ∧ w'.cell? ⟨b, off + x.2.1.toNat * 3, none⟩ = some (.string y.1)) (by kernel_rfl) ?_ (fun hHeld => ?_)
      · exact ⟨f0, f1, d1⟩
      refine wpG_pure (i := 0) (oi := ⟨some 81, .fieldAddr 58 (.tmp 5) 1, 0, "l10_topic.go:200", #[], none⟩) (v := ?vg613) rfl (by kernel_rfl) (fun _ _ _ h => h) (Or.inr hHeld) (Or.inl ⟨by rfl, ?yg613⟩) ?_
      case yg613 => (intro wS _; go_simp <;> with_reducible rfl)
      try simp only [Act.put, gqa, gqb, gqc]
      refine wpG_load (i := 1) (oi := ⟨some 82, .load 3 (.tmp 81), 3, "l10_topic.go:200", #[⟨0, .data⟩], none⟩) (v := ?vg614) [] rfl (by kernel_rfl) (fun _ _ _ h => h) hHeld (Or.inl ⟨by rfl, ?yg614⟩) ?_
      case yg614 => (intro wS hSw; (try dsimp only at hSw); go_simp <;> with_reducible rfl)
      try simp only [Act.put, gqa, gqb, gqc]
      refine wpG_pure (i := 2) (oi := ⟨some 83, .binOp .lss 3 (.tmp 82) (.const (.int .i64 0)) 3, 4, "l10_topic.go:200", #[⟨1, .data⟩], none⟩) (v := ?vg615) rfl (by kernel_rfl) (fun _ _ _ h => h) (Or.inr hHeld) (Or.inl ⟨by rfl, ?yg615⟩) ?_
      case yg615 => (intro wS _; go_simp <;> with_reducible rfl)
      try simp only [Act.put, gqa, gqb, gqc]
      refine wpG_pure (i := 3) (oi := ⟨some 84, .move (.tmp 83), 4, "l10_topic.go:200", #[⟨2, .data⟩], none⟩) (v := ?vg616) rfl (by kernel_rfl) (fun _ _ _ h => h) (Or.inr hHeld) (Or.inl ⟨by rfl, ?yg616⟩) ?_
      case yg616 => (intro wS _; go_simp <;> with_reducible rfl)
      try simp only [Act.put, gqa, gqb, gqc]
      refine wpG_pure (i := 4) (oi := ⟨some 85, .fieldAddr 58 (.tmp 5) 1, 0, "l10_topic.go:200", #[⟨3, .guard⟩], some (3, false)⟩) (v := ?vg617) rfl (by kernel_rfl) (fun _ _ _ h => h) (Or.inr hHeld) (Or.inl ⟨by rfl, ?yg617⟩) ?_
      case yg617 => (intro wS _; go_simp <;> with_reducible rfl)
      try simp only [Act.put, gqa, gqb, gqc]
      refine wpG_load (i := 5) (oi := ⟨some 86, .load 3 (.tmp 85), 3, "l10_topic.go:200", #[⟨4, .data⟩, ⟨3, .guard⟩], some (3, false)⟩) (v := ?vg618) [] rfl (by kernel_rfl) (fun _ _ _ h => h) hHeld (Or.inl ⟨by rfl, ?yg618⟩) ?_
      case yg618 => (intro wS hSw; (try dsimp only at hSw); go_simp <;> with_reducible rfl)
      try simp only [Act.put, gqa, gqb, gqc]
      refine wpG_pure (i := 6) (oi := ⟨some 87, .move (.tmp 4), 3, "l10_topic.go:200", #[⟨3, .guard⟩], some (3, false)⟩) (v := ?vg619) rfl (by kernel_rfl) (fun _ _ _ h => h) (Or.inr hHeld) (Or.inl ⟨by rfl, ?yg619⟩) ?_
      case yg619 => (intro wS _; go_simp <;> with_reducible rfl)
      try simp only [Act.put, gqa, gqb, gqc]
      refine wpG_pure (i := 7) (oi := ⟨some 88, .binOp .geq 3 (.tmp 86) (.tmp 87) 3, 4, "l10_topic.go:200", #[⟨5, .data⟩, ⟨6, .data⟩, ⟨3, .guard⟩], some (3, false)⟩) (v := ?vg620) rfl (by kernel_rfl) (fun _ _ _ h => h) (Or.inr hHeld) (Or.inl ⟨by rfl, ?yg620⟩) ?_
      case yg620 => (intro wS _; go_simp <;> with_reducible rfl)
      try simp only [Act.put, gqa, gqb, gqc]
      refine wpG_pure (i := 8) (oi := ⟨some 89, .pick (.tmp 84) (.const (.bool true)) (.tmp 88), 4, "l10_topic.go:200", #[⟨3, .data⟩, ⟨7, .data⟩], none⟩) (v := ?vg621) rfl (by kernel_rfl) (fun _ _ _ h => h) (Or.inr hHeld) (Or.inl ⟨by rfl, ?yg621⟩) ?_
      case yg621 => (intro wS _; go_simp <;> with_reducible rfl)
      try simp only [Act.put, gqa, gqb, gqc]
      refine wpG_pure (i := 9) (oi := ⟨some 90, .move (.tmp 89), 4, "l10_topic.go:200", #[⟨8, .data⟩, ⟨3, .chain⟩], none⟩) (v := ?vg622) rfl (by kernel_rfl) (fun _ _ _ h => h) (Or.inr hHeld) (Or.inl ⟨by rfl, ?yg622⟩) ?_
      case yg622 => (intro wS _; go_simp <;> with_reducible rfl)
      try simp only [Act.put, gqa, gqb, gqc]
      refine wpG_pure (i := 10) (oi := ⟨some 91, .move (.tmp 0), 24, "l10_topic.go:200", #[⟨9, .guard⟩], some (9, false)⟩) (v := ?vg623) rfl (by kernel_rfl) (fun _ _ _ h => h) (Or.inr hHeld) (Or.inl ⟨by rfl, ?yg623⟩) ?_
      case yg623 => (intro wS _; go_simp <;> with_reducible rfl)
      try simp only [Act.put, gqa, gqb, gqc]
      refine wpG_pure (i := 11) (oi := ⟨some 92, .fieldAddr 58 (.tmp 5) 1, 0, "l10_topic.go:200", #[⟨9, .guard⟩], some (9, false)⟩) (v := ?vg624) rfl (by kernel_rfl) (fun _ _ _ h => h) (Or.inr hHeld) (Or.inl ⟨by rfl, ?yg624⟩) ?_
      case yg624 => (intro wS _; go_simp <;> with_reducible rfl)
      try simp only [Act.put, gqa, gqb, gqc]
      refine wpG_load (i := 12) (oi := ⟨some 93, .load 3 (.tmp 92), 3, "l10_topic.go:200", #[⟨11, .data⟩, ⟨9, .guard⟩], some (9, false)⟩) (v := ?vg625) [] rfl (by kernel_rfl) (fun _ _ _ h => h) hHeld (Or.inl ⟨by rfl, ?yg625⟩) ?_
      case yg625 => (intro wS hSw; (try dsimp only at hSw); go_simp <;> with_reducible rfl)
      try simp only [Act.put, gqa, gqb, gqc]
      refine wpG_pure (i := 13) (oi := ⟨some 94, .indexAddr 24 (.tmp 91) (.tmp 93), 0, "l10_topic.go:200", #[⟨10, .data⟩, ⟨12, .data⟩, ⟨9, .guard⟩], some (9, false)⟩) (v := ?vg626) rfl (by kernel_rfl) (fun _ _ _ h => h) (Or.inr hHeld) (Or.inl ⟨by rfl, ?yg626⟩) ?_
      case yg626 => (intro wS _; go_simp <;> with_reducible rfl)
      try simp only [Act.put, gqa, gqb, gqc]
      refine wpG_pure (i := 14) (oi := ⟨some 95, .fieldAddr 58 (.tmp 94) 0, 0, "l10_topic.go:200", #[⟨13, .data⟩, ⟨9, .guard⟩], some (9, false)⟩) (v := ?vg627) rfl (by kernel_rfl) (fun _ _ _ h => h) (Or.inr hHeld) (Or.inl ⟨by rfl, ?yg627⟩) ?_
      case yg627 => (intro wS _; go_simp <;> with_reducible rfl)
      try simp only [Act.put, gqa, gqb, gqc]
      refine wpG_load (i := 15) (oi := ⟨some 96, .load 9 (.tmp 95), 9, "l10_topic.go:200", #[⟨14, .data⟩, ⟨9, .guard⟩], some (9, false)⟩) (v := ?vg628) [] rfl (by kernel_rfl) (fun _ _ _ h => h) hHeld (Or.inl ⟨by rfl, ?yg628⟩) ?_
      case yg628 => (intro wS hSw; (try dsimp only at hSw); go_simp <;> with_reducible rfl)
      try simp only [Act.put, gqa, gqb, gqc]
      refine wpG_pure (i := 16) (oi := ⟨some 97, .binOp .eql 9 (.tmp 96) (.const (.string { data := #[35] })) 9, 4, "l10_topic.go:200", #[⟨15, .data⟩, ⟨9, .guard⟩], some (9, false)⟩) (v := ?vg629) rfl (by kernel_rfl) (fun _ _ _ h => h) (Or.inr hHeld) (Or.inl ⟨by rfl, ?yg629⟩) ?_
      case yg629 => (intro wS _; go_simp <;> with_reducible rfl)
      try simp only [Act.put, gqa, gqb, gqc]
      refine wpG_pure (i := 17) (oi := ⟨some 98, .pick (.tmp 90) (.const (.bool true)) (.tmp 97), 4, "l10_topic.go:200", #[⟨9, .data⟩, ⟨16, .data⟩], none⟩) (v := ?vg630) rfl (by kernel_rfl) (fun _ _ _ h => h) (Or.inr hHeld) (Or.inl ⟨by rfl, ?yg630⟩) ?_
      case yg630 => (intro wS _; go_simp <;> with_reducible rfl)
      try simp only [Act.put, gqa, gqb, gqc]
      refine wpG_pure (i := 18) (oi := ⟨some 99, .move (.tmp 98), 4, "l10_topic.go:200", #[⟨17, .data⟩, ⟨9, .chain⟩], none⟩) (v := ?vg631) rfl (by kernel_rfl) (fun _ _ _ h => h) (Or.inr hHeld) (Or.inl ⟨by rfl, ?yg631⟩) ?_
      case yg631 => (intro wS _; go_simp <;> with_reducible rfl)
      try simp only [Act.put, gqa, gqb, gqc]
      refine wpG_pure (i := 19) (oi := ⟨some 100, .fieldAddr 58 (.tmp 5) 0, 0, "l10_topic.go:200", #[⟨18, .guard⟩], some (18, false)⟩) (v := ?vg632) rfl (by kernel_rfl) (fun _ _ _ h => h) (Or.inr hHeld) (Or.inl ⟨by rfl, ?yg632⟩) ?_
      case yg632 => (intro wS _; go_simp <;> with_reducible rfl)
      try simp only [Act.put, gqa, gqb, gqc]
      refine wpG_load (i := 20) (oi := ⟨some 101, .load 9 (.tmp 100), 9, "l10_topic.go:200", #[⟨19, .data⟩, ⟨18, .guard⟩], some (18, false)⟩) (v := ?vg633) [] rfl (by kernel_rfl) (fun _ _ _ h => h) hHeld (Or.inl ⟨by rfl, ?yg633⟩) ?_
      case yg633 => (intro wS hSw; (try dsimp only at hSw); go_simp <;> with_reducible rfl)
      try simp only [Act.put, gqa, gqb, gqc]
      refine wpG_one (i := 21) (o := ⟨some 102, .call { callee := .value (.func 58), args := #[.tmp 101], argTypes := #[9] }, 4, "l10_topic.go:200", #[⟨20, .data⟩, ⟨18, .chain⟩, ⟨18, .guard⟩], some (18, false)⟩) rfl (by kernel_rfl) (fun K hK => ?_)
      go_simp
      refine (HLV.out _).mono ?_
      rw [HLL.out]
      rintro e w' ⟨rfl, rfl⟩
      refine hK.out _ _ (Or.inr ?khHeld634) (fun hHeld634S => ?_)
      case khHeld634 => exact ⟨f0, f1, d1⟩
      have hHeld634 := hHeld634S.held (by kernel_rfl)
      clear hK K
      try simp only [Act.put, gqa, gqb, gqc]
      refine wpG_pure (i := 22) (oi := ⟨some 103, .unOp .not 4 (.tmp 102), 4, "l10_topic.go:200", #[⟨21, .data⟩, ⟨18, .guard⟩], some (18, false)⟩) (v := ?vg635) rfl (by kernel_rfl) (fun _ _ _ h => h) (Or.inr hHeld634) (Or.inl ⟨by rfl, ?yg635⟩) ?_
      case yg635 => (intro wS _; go_simp <;> with_reducible rfl)
      try simp only [Act.put, gqa, gqb, gqc]
      refine wpG_pure (i := 23) (oi := ⟨some 104, .move (.tmp 103), 4, "l10_topic.go:200", #[⟨22, .data⟩, ⟨21, .chain⟩, ⟨18, .guard⟩], some (18, false)⟩) (v := ?vg636) rfl (by kernel_rfl) (fun _ _ _ h => h) (Or.inr hHeld634) (Or.inl ⟨by rfl, ?yg636⟩) ?_
      case yg636 => (intro wS _; go_simp <;> with_reducible rfl)
      try simp only [Act.put, gqa, gqb, gqc]
      refine wpG_pure (i := 24) (oi := ⟨some 105, .fieldAddr 58 (.tmp 5) 0, 0, "l10_topic.go:200", #[⟨23, .guard⟩], some (23, true)⟩) (v := ?vg637) rfl (by kernel_rfl) (fun _ _ _ h => h) (Or.inr hHeld634) (Or.inl ⟨by rfl, ?yg637⟩) ?_
      case yg637 => (intro wS _; go_simp <;> with_reducible rfl)
      try simp only [Act.put, gqa, gqb, gqc]
      refine wpG_load (i := 25) (oi := ⟨some 106, .load 9 (.tmp 105), 9, "l10_topic.go:200", #[⟨24, .data⟩, ⟨23, .guard⟩], some (23, true)⟩) (v := ?vg638) [] rfl (by kernel_rfl) (fun _ _ _ h => h) hHeld634 (Or.inl ⟨by rfl, ?yg638⟩) ?_
      case yg638 => (intro wS hSw; (try dsimp only at hSw); go_simp <;> with_reducible rfl)
      try simp only [Act.put, gqa, gqb, gqc]
      refine wpG_pure (i := 26) (oi := ⟨some 107, .binOp .neq 9 (.tmp 106) (.const (.string { data := #[43] })) 9, 4, "l10_topic.go:200", #[⟨25, .data⟩, ⟨23, .guard⟩], some (23, true)⟩) (v := ?vg639) rfl (by kernel_rfl) (fun _ _ _ h => h) (Or.inr hHeld634) (Or.inl ⟨by rfl, ?yg639⟩) ?_
      case yg639 => (intro wS _; go_simp <;> with_reducible rfl)
      try simp only [Act.put, gqa, gqb, gqc]
      refine wpG_pure (i := 27) (oi := ⟨some 108, .pick (.tmp 104) (.tmp 107) (.const (.bool false)), 4, "l10_topic.go:200", #[⟨23, .data⟩, ⟨26, .data⟩, ⟨18, .guard⟩], some (18, false)⟩) (v := ?vg640) rfl (by kernel_rfl) (fun _ _ _ h => h) (Or.inr hHeld634) (Or.inl ⟨by rfl, ?yg640⟩) ?_
      case yg640 => (intro wS _; go_simp <;> with_reducible rfl)
      try simp only [Act.put, gqa, gqb, gqc]
      refine wpG_pure (i := 28) (oi := ⟨some 109, .move (.tmp 108), 4, "l10_topic.go:200", #[⟨27, .data⟩, ⟨23, .chain⟩, ⟨18, .guard⟩], some (18, false)⟩) (v := ?vg641) rfl (by kernel_rfl) (fun _ _ _ h => h) (Or.inr hHeld634) (Or.inl ⟨by rfl, ?yg641⟩) ?_
      case yg641 => (intro wS _; go_simp <;> with_reducible rfl)
      try simp only [Act.put, gqa, gqb, gqc]
      refine wpG_pure (i := 29) (oi := ⟨some 110, .fieldAddr 58 (.tmp 5) 0, 0, "l10_topic.go:200", #[⟨28, .guard⟩], some (28, true)⟩) (v := ?vg642) rfl (by kernel_rfl) (fun _ _ _ h => h) (Or.inr hHeld634) (Or.inl ⟨by rfl, ?yg642⟩) ?_
      case yg642 => (intro wS _; go_simp <;> with_reducible rfl)
      try simp only [Act.put, gqa, gqb, gqc]
      refine wpG_load (i := 30) (oi := ⟨some 111, .load 9 (.tmp 110), 9, "l10_topic.go:200", #[⟨29, .data⟩, ⟨28, .guard⟩], some (28, true)⟩) (v := ?vg643) [] rfl (by kernel_rfl) (fun _ _ _ h => h) hHeld634 (Or.inl ⟨by rfl, ?yg643⟩) ?_
      case yg643 => (intro wS hSw; (try dsimp only at hSw); go_simp <;> with_reducible rfl)
      try simp only [Act.put, gqa, gqb, gqc]
      refine wpG_pure (i := 31) (oi := ⟨some 112, .binOp .neq 9 (.tmp 111) (.const (.string { data := #[35] })) 9, 4, "l10_topic.go:200", #[⟨30, .data⟩, ⟨28, .guard⟩], some (28, true)⟩) (v := ?vg644) rfl (by kernel_rfl) (fun _ _ _ h => h) (Or.inr hHeld634) (Or.inl ⟨by rfl, ?yg644⟩) ?_
      case yg644 => (intro wS _; go_simp <;> with_reducible rfl)
      try simp only [Act.put, gqa, gqb, gqc]
      refine wpG_pure (i := 32) (oi := ⟨some 113, .pick (.tmp 109) (.tmp 112) (.const (.bool false)), 4, "l10_topic.go:200", #[⟨28, .data⟩, ⟨31, .data⟩, ⟨18, .guard⟩], some (18, false)⟩) (v := ?vg645) rfl (by kernel_rfl) (fun _ _ _ h => h) (Or.inr hHeld634) (Or.inl ⟨by rfl, ?yg645⟩) ?_
      case yg645 => (intro wS _; go_simp <;> with_reducible rfl)
      try simp only [Act.put, gqa, gqb, gqc]
      refine wpG_pure (i := 33) (oi := ⟨some 114, .pick (.tmp 99) (.const (.bool true)) (.tmp 113), 4, "l10_topic.go:200", #[⟨18, .data⟩, ⟨32, .data⟩], none⟩) (v := ?vg646) rfl (by kernel_rfl) (fun _ _ _ h => h) (Or.inr hHeld634) (Or.inl ⟨by rfl, ?yg646⟩) ?_
      case yg646 => (intro wS _; go_simp <;> with_reducible rfl)
      try simp only [Act.put, gqa, gqb, gqc]
      refine wpG_pure (i := 34) (oi := ⟨some 115, .move (.tmp 114), 4, "l10_topic.go:200", #[⟨33, .data⟩, ⟨28, .chain⟩], none⟩) (v := ?vg647) rfl (by kernel_rfl) (fun _ _ _ h => h) (Or.inr hHeld634) (Or.inl ⟨by rfl, ?yg647⟩) ?_
      case yg647 => (intro wS _; go_simp <;> with_reducible rfl)
      try simp only [Act.put, gqa, gqb, gqc]
      refine wpG_pure (i := 35) (oi := ⟨some 116, .move (.tmp 0), 24, "l10_topic.go:200", #[⟨34, .guard⟩], some (34, false)⟩) (v := undef) rfl (by kernel_rfl) (fun _ _ _ h => h) (Or.inr hHeld634) (Or.inr ⟨by rfl, rfl⟩) ?_
      try simp only [Act.put, gqa, gqb, gqc]
      refine wpG_pure (i := 36) (oi := ⟨some 117, .move (.tmp 4), 3, "l10_topic.go:200", #[⟨34, .guard⟩], some (34, false)⟩) (v := undef) rfl (by kernel_rfl) (fun _ _ _ h => h) (Or.inr hHeld634) (Or.inr ⟨by rfl, rfl⟩) ?_
      try simp only [Act.put, gqa, gqb, gqc]
      refine wpG_pure (i := 37) (oi := ⟨some 118, .slice 24 (.tmp 116) none (some (.tmp 117)) none, 24, "l10_topic.go:200", #[⟨35, .data⟩, ⟨36, .data⟩, ⟨34, .guard⟩], some (34, false)⟩) (v := undef) rfl (by kernel_rfl) (fun _ _ _ h => h) (Or.inr hHeld634) (Or.inr ⟨by rfl, rfl⟩) ?_
      try simp only [Act.put, gqa, gqb, gqc]
      refine wpG_pure (i := 38) (oi := ⟨some 119, .fieldAddr 58 (.tmp 5) 1, 0, "l10_topic.go:200", #[⟨34, .guard⟩], some (34, false)⟩) (v := undef) rfl (by kernel_rfl) (fun _ _ _ h => h) (Or.inr hHeld634) (Or.inr ⟨by rfl, rfl⟩) ?_
      try simp only [Act.put, gqa, gqb, gqc]
      refine wpG_pure (i := 39) (oi := ⟨some 120, .load 3 (.tmp 119), 3, "l10_topic.go:200", #[⟨38, .data⟩, ⟨34, .guard⟩], some (34, false)⟩) (v := undef) rfl (by kernel_rfl) (fun _ _ _ h => h) (Or.inr hHeld634) (Or.inr ⟨by rfl, rfl⟩) ?_
      try simp only [Act.put, gqa, gqb, gqc]
      refine wpG_pure (i := 40) (oi := ⟨some 121, .fieldAddr 58 (.tmp 5) 0, 0, "l10_topic.go:200", #[⟨34, .guard⟩], some (34, false)⟩) (v := undef) rfl (by kernel_rfl) (fun _ _ _ h => h) (Or.inr hHeld634) (Or.inr ⟨by rfl, rfl⟩) ?_
      try simp only [Act.put, gqa, gqb, gqc]
      refine wpG_pure (i := 41) (oi := ⟨some 122, .load 9 (.tmp 121), 9, "l10_topic.go:200", #[⟨40, .data⟩, ⟨34, .guard⟩], some (34, false)⟩) (v := undef) rfl (by kernel_rfl) (fun _ _ _ h => h) (Or.inr hHeld634) (Or.inr ⟨by rfl, rfl⟩) ?_
      try simp only [Act.put, gqa, gqb, gqc]
      refine wpG_pure (i := 42) (oi := ⟨some 123, .call { callee := .value (.func 68), args := #[.tmp 118, .tmp 120, .tmp 122], argTypes := #[24, 3, 9] }, 3, "l10_topic.go:200", #[⟨37, .data⟩, ⟨39, .data⟩, ⟨41, .data⟩, ⟨34, .chain⟩, ⟨34, .guard⟩], some (34, false)⟩) (v := undef) rfl (by kernel_rfl) (fun _ _ _ h => h) (Or.inr hHeld634) (Or.inr ⟨by rfl, rfl⟩) ?_
      try simp only [Act.put, gqa, gqb, gqc]
      refine wpG_pure (i := 43) (oi := ⟨some 124, .binOp .geq 3 (.tmp 123) (.const (.int .i64 0)) 3, 4, "l10_topic.go:200", #[⟨42, .data⟩, ⟨34, .guard⟩], some (34, false)⟩) (v := undef) rfl (by kernel_rfl) (fun _ _ _ h => h) (Or.inr hHeld634) (Or.inr ⟨by rfl, rfl⟩) ?_
      try simp only [Act.put, gqa, gqb, gqc]
      refine wpG_pure (i := 44) (oi := ⟨some 125, .pick (.tmp 115) (.const (.bool true)) (.tmp 124), 4, "l10_topic.go:200", #[⟨34, .data⟩, ⟨43, .data⟩], none⟩) (v := ?vg657) rfl (by kernel_rfl) (fun _ _ _ h => h) (Or.inr hHeld634) (Or.inl ⟨by rfl, ?yg657⟩) ?_
      case yg657 => (intro wS _; go_simp <;> with_reducible rfl)
      try simp only [Act.put, gqa, gqb, gqc]
      refine wpG_pure (i := 45) (oi := ⟨some 126, .move (.tmp 125), 4, "l10_topic.go:200", #[⟨44, .data⟩, ⟨42, .chain⟩], none⟩) (v := ?vg658) rfl (by kernel_rfl) (fun _ _ _ h => h) (Or.inr hHeld634) (Or.inl ⟨by rfl, ?yg658⟩) ?_
      case yg658 => (intro wS _; go_simp <;> with_reducible rfl)
      try simp only [Act.put, gqa, gqb, gqc]
      refine wpG_pure (i := 46) (oi := ⟨some 127, .move (.tmp 0), 24, "l10_topic.go:200", #[⟨45, .guard⟩], some (45, false)⟩) (v := undef) rfl (by kernel_rfl) (fun _ _ _ h => h) (Or.inr hHeld634) (Or.inr ⟨by rfl, rfl⟩) ?_
      try simp only [Act.put, gqa, gqb, gqc]
      refine wpG_pure (i := 47) (oi := ⟨some 128, .move (.tmp 4), 3, "l10_topic.go:200", #[⟨45, .guard⟩], some (45, false)⟩) (v := undef) rfl (by kernel_rfl) (fun _ _ _ h => h) (Or.inr hHeld634) (Or.inr ⟨by rfl, rfl⟩) ?_
      try simp only [Act.put, gqa, gqb, gqc]
      refine wpG_pure (i := 48) (oi := ⟨some 129, .call { callee := .value (.func 81), args := #[.tmp 127, .tmp 128], argTypes := #[24, 3] }, 3, "l10_topic.go:200", #[⟨46, .data⟩, ⟨47, .data⟩, ⟨45, .chain⟩, ⟨45, .guard⟩], some (45, false)⟩) (v := undef) rfl (by kernel_rfl) (fun _ _ _ h => h) (Or.inr hHeld634) (Or.inr ⟨by rfl, rfl⟩) ?_
      try simp only [Act.put, gqa, gqb, gqc]
      refine wpG_pure (i := 49) (oi := ⟨some 130, .binOp .gtr 3 (.tmp 129) (.const (.int .i64 6)) 3, 4, "l10_topic.go:200", #[⟨48, .data⟩, ⟨45, .guard⟩], some (45, false)⟩) (v := undef) rfl (by kernel_rfl) (fun _ _ _ h => h) (Or.inr hHeld634) (Or.inr ⟨by rfl, rfl⟩) ?_
      try simp only [Act.put, gqa, gqb, gqc]
      refine wpG_pure (i := 50) (oi := ⟨some 131, .pick (.tmp 126) (.const (.bool true)) (.tmp 130), 4, "l10_topic.go:200", #[⟨45, .data⟩, ⟨49, .data⟩], none⟩) (v := ?vg663) rfl (by kernel_rfl) (fun _ _ _ h => h) (Or.inr hHeld634) (Or.inl ⟨by rfl, ?yg663⟩) ?_
      case yg663 => (intro wS _; go_simp <;> with_reducible rfl)
      try simp only [Act.put, gqa, gqb, gqc]
      refine wpG_done (by kernel_rfl) ?_
      (go_wp2_with fail; go_ret; exact ⟨ret_bool HN.out.symm, HWD.out⟩)
end Go.Proofs.YteknmjebokimjaaDoor
