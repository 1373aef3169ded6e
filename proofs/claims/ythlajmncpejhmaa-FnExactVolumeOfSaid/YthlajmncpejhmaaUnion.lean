/- The contracts of UnionHas, the program's and the reference's. -/
import Derived.Test.YthlajmncpejhmaaBoxK
import Derived.Test.YthlajmncpejhmaaHIntS
namespace Go.Proofs.Ythlajmncpejhmaa
set_option linter.unusedVariables false
open Go.ChangeShapes Go.WideShapes Go.ChangeAt Go.RowKit
set_option maxRecDepth 100000

def boxesR (l : List Bx) : Bool := decide (l.length ≤ 20) && l.all GoodR
def ptB (n : Int) : Bool := inB n (-1000) 1000
def pointR (p : List Int) : Bool := decide (p.length = 3) && p.all ptB
def hasR : Bx → List Int → Bool
  | s :: xs, p :: ps => inB p s.1 s.2 && hasR xs ps
  | _, _ => true
def R_UnionHas (l : List Bx) (p : List Int) : Bool × Bool := if boxesR l = true ∧ pointR p = true then (l.any (hasR · p), true) else (false, false)
theorem any_neg {α : Type} (p : α → Bool) (l : List α) : l.any (fun x => !p x) = !l.all p := by
  induction l with
  | nil => rfl
  | cons x r ih => simp only [List.any_cons, List.all_cons, ih]; cases p x <;> simp
theorem all_no {α : Type} {p : α → Bool} {l : List α} {k : Nat} {x : α} (h : l[k]? = some x) (hp : p x = false) : l.all p = false := by
  rw [List.all_eq_false]; exact ⟨x, List.mem_of_getElem? h, by simp [hp]⟩
theorem all_go {α : Type} {p : α → Bool} {l : List α} {k : Nat} {x : α} (h : l[k]? = some x) (ha : (l.take k).all p = true) (hp : p x = true) : (l.take (k + 1)).all p = true := by
  rw [take_next l k x h, List.all_append, ha]; simp [hp]

set_option maxHeartbeats 1000000 in
theorem clo_bxok (x : Bx) (v : List Value) (w : World) (hr : kBox.rd w.heap.size w v x) : Calls Try.prog 69 #[.agg v.toArray] w fun e w' => e = .returned (.bool (!GoodR x)) ∧ Below w.heap.size w w' := by
  obtain ⟨a, cap, rfl, hrow, hn, _⟩ := box_form hr
  have HC := Lib.hid (fun wx (h : Rw wx a (sds x)) => impl_goodBox a cap x wx h hn)
  have HR := Lib.hid hrow
  clear hr hrow
  generalize GoodR x = r at *
  go_enter Try.func69, Try.ntmps69
  go_wp2_with fail
  refine (HC.out _ (HR.out.alloc _)).mono ?_
  rintro e w1 ⟨rfl, hb⟩
  have HB := Lib.hid (box_step (box_start w _) hb); clear hb
  go_wp2_with fail
  go_ret
  exact ⟨rfl, box_below HB.out⟩

set_option maxHeartbeats 1000000 in
theorem idx_bxok {cs : List Value} {xs : List (List (Int × Int))} {w : World} (p : (List (Int × Int)) → Bool) (h : kBoxS.rd w.heap.size w cs xs) (hclo : ∀ (wx : World) (x : (List (Int × Int))) (v : List Value), Below w.heap.size w wx → x ∈ xs → kBox.rd wx.heap.size wx v x → Calls Try.prog 69 #[.agg v.toArray] wx fun e w' => e = .returned (.bool (p x)) ∧ Below wx.heap.size wx w') :
    Calls Try.prog 73 #[one cs, .func (.func 69) #[] #[]] w fun e w' => e = .returned (.int .i64 (fidx p xs)) ∧ Below w.heap.size w w' := by
  obtain ⟨a, cap, vss, rfl, ⟨hc1, hc2⟩, hrow, hl⟩ := h
  unfold maxLen at hc2
  have hn : xs.length ≤ 9223372036854775807 := by omega
  show Calls Try.prog 73 #[.slice a xs.length cap, .func (.func 69) #[] #[]] w _
  have HROW := Lib.hid hrow; have HL := Lib.hid hl; have HCL := Lib.hid hclo
  clear hrow hl hclo
  go_enter Try.func73, Try.ntmps73
  go_wp2_with fail
  go_loopw [8] (fun i wr => ∃ k : Nat, k ≤ xs.length ∧ i = .int .i64 k ∧ Hid ((xs.take k).any p = false) ∧ Hid (Below w.heap.size w wr)) (fun i _ => xs.length - (intOf i).toNat)
  case atStart => exact ⟨0, Nat.zero_le _, rfl, rfl, Below.refl _ _⟩
  case round =>
    obtain ⟨k, hk, rfl, HA, HB⟩ := hrel
    by_cases hlk : k < xs.length
    case neg =>
      go_wp2_with fail
      go_ret
      obtain rfl : k = xs.length := by omega
      have h1 := HA.out
      rw [List.take_length] at h1
      exact ⟨ret_int (fidx_none p xs h1).symm, HB.out⟩
    obtain ⟨x, hx⟩ : ∃ x, xs[k]? = some x := ⟨xs[k], List.getElem?_eq_getElem hlk⟩
    obtain ⟨v, b, off, hr, hv, rfl, hbl, hcell⟩ := elem_cells kBox_ok (n := 1) rfl (by decide) HROW.out HL.out hx
    have hgd : xs.getD k x = x := by simp [List.getD, hx]
    have hyes : p x = true → fidx p xs = k := fun h => fidx_here p xs x k hlk HA.out (by rw [hgd]; exact h)
    have hno : p x = false → (xs.take (k + 1)).any p = false := fun h => fidx_next p xs x k hlk HA.out (by rw [hgd]; exact h)
    have HC := Lib.hid (HCL.out wr x v HB.out (List.mem_of_getElem? hx) (kBox_ok.later hr HB.out))
    have HY := Lib.hid hyes; have HN := Lib.hid hno
    clear hx hv hgd hyes hno
    obtain ⟨ea0, ecap0, rfl, _⟩ := Box_rd hr
    have c0 : wr.cell? ⟨b, off + k, none⟩ = some _ := (HB.out.cell (p := ⟨b, off + k, none⟩) hbl).trans (by have := hcell 0 _ rfl; simpa [Nat.add_assoc] using this)
    clear hcell
    cases hp : p x with
    | true =>
      rw [hp] at HC
      have HP := Lib.hid hp; clear hp
      go_wp2_with (go_at_call 69; refine HC.out.mono ?_; rintro e w2 ⟨rfl, hb2⟩; have HB2 := Lib.hid hb2; clear hb2)
      go_ret
      exact ⟨ret_int (HY.out HP.out).symm, HB.out.trans (HB2.out.mono HB.out.size)⟩
    | false =>
      rw [hp] at HC
      have HP := Lib.hid hp; clear hp
      go_wp2_with (go_at_call 69; refine HC.out.mono ?_; rintro e w2 ⟨rfl, hb2⟩; have HB2 := Lib.hid hb2; clear hb2)
      go_roundw
      case rel => exact ⟨k + 1, by omega, by go_num, HN.out HP.out, HB.out.trans (HB2.out.mono HB.out.size)⟩
      case measure => simp [intOf]; omega

set_option maxHeartbeats 1000000 in
theorem has_bxok {cs : List Value} {xs : List (List (Int × Int))} {w : World} (p : (List (Int × Int)) → Bool) (h : kBoxS.rd w.heap.size w cs xs) (hclo : ∀ (wx : World) (x : (List (Int × Int))) (v : List Value), Below w.heap.size w wx → x ∈ xs → kBox.rd wx.heap.size wx v x → Calls Try.prog 69 #[.agg v.toArray] wx fun e w' => e = .returned (.bool (p x)) ∧ Below wx.heap.size wx w') :
    Calls Try.prog 54 #[one cs, .func (.func 69) #[] #[]] w fun e w' => e = .returned (.bool (xs.any p)) ∧ Below w.heap.size w w' := by
  have HI := Lib.hid (idx_bxok p h hclo)
  obtain ⟨a, cap, vss, rfl, ⟨hc1, hc2⟩, hrow, hl⟩ := h
  clear hclo hrow hl
  by_cases h : 0 ≤ fidx p xs
  · have H := Lib.hid ((fidx_any p xs).1 h)
    go_enter Try.func54, Try.ntmps54
    go_wp2_with (go_at_call 73; refine HI.out.mono ?_; rintro e w' ⟨rfl, hb2⟩; have HB2 := Lib.hid hb2; clear hb2)
    go_ret
    exact ⟨ret_bool (by rw [H.out]; try (simp; try omega)), HB2.out⟩
  · have H := Lib.hid (Bool.eq_false_iff.2 fun hc => h ((fidx_any p xs).2 hc))
    go_enter Try.func54, Try.ntmps54
    go_wp2_with (go_at_call 73; refine HI.out.mono ?_; rintro e w' ⟨rfl, hb2⟩; have HB2 := Lib.hid hb2; clear hb2)
    go_ret
    exact ⟨ret_bool (by rw [H.out]; try (simp; try omega)), HB2.out⟩

set_option maxHeartbeats 1000000 in
theorem clo_ptok (k : Int) (w : World) : Calls Try.prog 71 #[.int .i64 k] w fun e w' => e = .returned (.bool (!ptB k)) ∧ Below w.heap.size w w' := by
  have HI := Lib.hid (fun wx => within_any k (-1000) 1000 wx)
  unfold ptB
  generalize inB k (-1000) 1000 = r at *
  go_enter Try.func71, Try.ntmps71
  go_wp2_with fail
  refine (HI.out _).mono ?_
  rintro e w' ⟨rfl, rfl⟩
  go_wp2_with fail
  go_ret
  exact ⟨rfl, Below.refl _ _⟩

set_option maxHeartbeats 1000000 in
theorem idx_ptok {cs : List Value} {xs : List Int} {w : World} (p : Int → Bool) (h : kIntS.rd w.heap.size w cs xs) (hclo : ∀ (wx : World) (x : Int) (v : List Value), Below w.heap.size w wx → x ∈ xs → kInt.rd wx.heap.size wx v x → Calls Try.prog 71 #[one v] wx fun e w' => e = .returned (.bool (p x)) ∧ Below wx.heap.size wx w') :
    Calls Try.prog 78 #[one cs, .func (.func 71) #[] #[]] w fun e w' => e = .returned (.int .i64 (fidx p xs)) ∧ Below w.heap.size w w' := by
  obtain ⟨a, cap, vss, rfl, ⟨hc1, hc2⟩, hrow, hl⟩ := h
  unfold maxLen at hc2
  have hn : xs.length ≤ 9223372036854775807 := by omega
  show Calls Try.prog 78 #[.slice a xs.length cap, .func (.func 71) #[] #[]] w _
  have HROW := Lib.hid hrow; have HL := Lib.hid hl; have HCL := Lib.hid hclo
  clear hrow hl hclo
  go_enter Try.func78, Try.ntmps78
  go_wp2_with fail
  go_loopw [8] (fun i wr => ∃ k : Nat, k ≤ xs.length ∧ i = .int .i64 k ∧ Hid ((xs.take k).any p = false) ∧ Hid (Below w.heap.size w wr)) (fun i _ => xs.length - (intOf i).toNat)
  case atStart => exact ⟨0, Nat.zero_le _, rfl, rfl, Below.refl _ _⟩
  case round =>
    obtain ⟨k, hk, rfl, HA, HB⟩ := hrel
    by_cases hlk : k < xs.length
    case neg =>
      go_wp2_with fail
      go_ret
      obtain rfl : k = xs.length := by omega
      have h1 := HA.out
      rw [List.take_length] at h1
      exact ⟨ret_int (fidx_none p xs h1).symm, HB.out⟩
    obtain ⟨x, hx⟩ : ∃ x, xs[k]? = some x := ⟨xs[k], List.getElem?_eq_getElem hlk⟩
    obtain ⟨v, b, off, hr, hv, rfl, hbl, hcell⟩ := elem_cells kInt_ok (n := 1) rfl (by decide) HROW.out HL.out hx
    have hgd : xs.getD k x = x := by simp [List.getD, hx]
    have hyes : p x = true → fidx p xs = k := fun h => fidx_here p xs x k hlk HA.out (by rw [hgd]; exact h)
    have hno : p x = false → (xs.take (k + 1)).any p = false := fun h => fidx_next p xs x k hlk HA.out (by rw [hgd]; exact h)
    have HC := Lib.hid (HCL.out wr x v HB.out (List.mem_of_getElem? hx) (kInt_ok.later hr HB.out))
    have HY := Lib.hid hyes; have HN := Lib.hid hno
    clear hx hv hgd hyes hno
    obtain ⟨rfl, _⟩ := hr
    have c0 : wr.cell? ⟨b, off + k, none⟩ = some _ := (HB.out.cell (p := ⟨b, off + k, none⟩) hbl).trans (by have := hcell 0 _ rfl; simpa [Nat.add_assoc] using this)
    clear hcell
    cases hp : p x with
    | true =>
      rw [hp] at HC
      have HP := Lib.hid hp; clear hp
      go_wp2_with (go_at_call 71; refine HC.out.mono ?_; rintro e w2 ⟨rfl, hb2⟩; have HB2 := Lib.hid hb2; clear hb2)
      go_ret
      exact ⟨ret_int (HY.out HP.out).symm, HB.out.trans (HB2.out.mono HB.out.size)⟩
    | false =>
      rw [hp] at HC
      have HP := Lib.hid hp; clear hp
      go_wp2_with (go_at_call 71; refine HC.out.mono ?_; rintro e w2 ⟨rfl, hb2⟩; have HB2 := Lib.hid hb2; clear hb2)
      go_roundw
      case rel => exact ⟨k + 1, by omega, by go_num, HN.out HP.out, HB.out.trans (HB2.out.mono HB.out.size)⟩
      case measure => simp [intOf]; omega

set_option maxHeartbeats 1000000 in
theorem has_ptok {cs : List Value} {xs : List Int} {w : World} (p : Int → Bool) (h : kIntS.rd w.heap.size w cs xs) (hclo : ∀ (wx : World) (x : Int) (v : List Value), Below w.heap.size w wx → x ∈ xs → kInt.rd wx.heap.size wx v x → Calls Try.prog 71 #[one v] wx fun e w' => e = .returned (.bool (p x)) ∧ Below wx.heap.size wx w') :
    Calls Try.prog 70 #[one cs, .func (.func 71) #[] #[]] w fun e w' => e = .returned (.bool (xs.any p)) ∧ Below w.heap.size w w' := by
  have HI := Lib.hid (idx_ptok p h hclo)
  obtain ⟨a, cap, vss, rfl, ⟨hc1, hc2⟩, hrow, hl⟩ := h
  clear hclo hrow hl
  by_cases h : 0 ≤ fidx p xs
  · have H := Lib.hid ((fidx_any p xs).1 h)
    go_enter Try.func70, Try.ntmps70
    go_wp2_with (go_at_call 78; refine HI.out.mono ?_; rintro e w' ⟨rfl, hb2⟩; have HB2 := Lib.hid hb2; clear hb2)
    go_ret
    exact ⟨ret_bool (by rw [H.out]; try (simp; try omega)), HB2.out⟩
  · have H := Lib.hid (Bool.eq_false_iff.2 fun hc => h ((fidx_any p xs).2 hc))
    go_enter Try.func70, Try.ntmps70
    go_wp2_with (go_at_call 78; refine HI.out.mono ?_; rintro e w' ⟨rfl, hb2⟩; have HB2 := Lib.hid hb2; clear hb2)
    go_ret
    exact ⟨ret_bool (by rw [H.out]; try (simp; try omega)), HB2.out⟩

set_option maxHeartbeats 1000000 in
theorem impl_boxesOK {cs : List Value} {l : List Bx} {w : World} (h : kBoxS.rd w.heap.size w cs l) : Calls Try.prog 52 #[one cs] w fun e w' => e = .returned (.bool (boxesR l)) ∧ Below w.heap.size w w' := by
  have HI := Lib.hid (has_bxok (fun b => !GoodR b) h (fun wx x v _ _ hr => clo_bxok x v wx hr))
  rw [any_neg] at HI
  obtain ⟨a, cap, rfl⟩ := kSl_form h
  have hn := (sl_len h).2
  clear h
  show Calls Try.prog 52 #[.slice a l.length cap] w _
  have hz : boxesR l = (decide (l.length ≤ 20) && l.all GoodR) := rfl
  rw [hz]; clear hz
  generalize l.all GoodR = r at *
  by_cases h20 : l.length ≤ 20
  · have hd : decide (l.length ≤ 20) = true := by simp [h20]
    rw [hd]; clear hd
    go_enter Try.func52, Try.ntmps52
    go_wp2_with fail
    refine HI.out.mono ?_
    rintro e w1 ⟨rfl, hb⟩
    have HB := Lib.hid hb; clear hb
    go_wp2_with fail
    go_ret
    exact ⟨ret_bool (by simp), HB.out⟩
  · have hd : decide (l.length ≤ 20) = false := by simp [h20]
    rw [hd]; clear hd
    go_enter Try.func52, Try.ntmps52
    go_wp2_with fail
    go_ret
    exact ⟨rfl, Below.refl _ _⟩

set_option maxHeartbeats 1000000 in
theorem impl_pointOK {cs : List Value} {l : List Int} {w : World} (h : kIntS.rd w.heap.size w cs l) : Calls Try.prog 53 #[one cs] w fun e w' => e = .returned (.bool (pointR l)) ∧ Below w.heap.size w w' := by
  have HI := Lib.hid (has_ptok (fun b => !ptB b) h (fun wx x v _ _ hr => by obtain ⟨rfl, _⟩ := hr; exact clo_ptok x wx))
  rw [any_neg] at HI
  obtain ⟨a, cap, rfl⟩ := kSl_form h
  have hn := (sl_len h).2
  clear h
  show Calls Try.prog 53 #[.slice a l.length cap] w _
  have hz : pointR l = (decide (l.length = 3) && l.all ptB) := rfl
  rw [hz]; clear hz
  generalize l.all ptB = r at *
  by_cases h3 : l.length = 3
  · have hd : decide (l.length = 3) = true := by simp [h3]
    have hd2 : ((l.length : Int) == 3) = true := by simp; omega
    rw [hd]; clear hd h3
    go_enter Try.func53, Try.ntmps53
    go_wp2_with fail
    refine HI.out.mono ?_
    rintro e w1 ⟨rfl, hb⟩
    have HB := Lib.hid hb; clear hb
    go_wp2_with fail
    go_ret
    exact ⟨ret_bool (by simp), HB.out⟩
  · have hd : decide (l.length = 3) = false := by simp [h3]
    have hd2 : ((l.length : Int) == 3) = false := by simp; omega
    rw [hd]; clear hd h3
    go_enter Try.func53, Try.ntmps53
    go_wp2_with fail
    go_ret
    exact ⟨rfl, Below.refl _ _⟩

set_option maxHeartbeats 2000000 in
theorem impl_has {cs ps : List Value} {xs : Bx} {pt : List Int} {w : World} (h : kBox.rd w.heap.size w cs xs) (h' : kIntS.rd w.heap.size w ps pt) (hl : xs.length = pt.length) :
    Calls Try.prog 56 #[.agg cs.toArray, one ps] w fun e w' => e = .returned (.bool (hasR xs pt)) ∧ Below w.heap.size w w' := by
  obtain ⟨a, cap, rfl⟩ := kSl_form h
  obtain ⟨a', cap', rfl⟩ := kSl_form h'
  show Calls Try.prog 56 #[.agg #[.slice a xs.length cap], .slice a' pt.length cap'] w _
  have hn := (sl_len h).2; have hn' := (sl_len h').2
  have H := Lib.hid h; have H' := Lib.hid h'; have HLN := Lib.hid hl
  have HB0 := Lib.hid (box_start w (.cells #[.slice a xs.length cap] 28))
  clear h h' hl
  go_enter Try.func56, Try.ntmps56
  go_wp2_with fail
  go_loopw [10] (fun i wr => ∃ k : Nat, k ≤ xs.length ∧ i = .int .i64 k ∧ Hid (hasR xs pt = hasR (xs.drop k) (pt.drop k)) ∧ Hid (Below (w.heap.size + 1) (w.alloc (.cells #[.slice a xs.length cap] 28)) wr)) (fun i _ => xs.length - (intOf i).toNat)
  case atStart => exact ⟨0, Nat.zero_le _, rfl, rfl, HB0⟩
  case round =>
    obtain ⟨k, hk, rfl, HR, HB⟩ := hrel
    have HBW := Lib.hid (box_below HB.out)
    by_cases hlk : k < xs.length
    case neg =>
      obtain rfl : k = xs.length := by omega
      have hr := HR.out
      rw [List.drop_length, show hasR [] (pt.drop xs.length) = true from rfl] at hr
      have HR2 := Lib.hid hr
      clear hr
      go_wp2_with fail
      go_ret
      exact ⟨ret_bool HR2.out.symm, HBW.out⟩
    have hlp : k < pt.length := by have := HLN.out; omega
    obtain ⟨x, hx⟩ : ∃ x, xs[k]? = some x := ⟨xs[k], List.getElem?_eq_getElem hlk⟩
    obtain ⟨y, hy⟩ : ∃ y, pt[k]? = some y := ⟨pt[k], List.getElem?_eq_getElem hlp⟩
    obtain ⟨v, b, off, hv, rfl, hbl, hcell⟩ := sl_at kSide_ok (n := 2) rfl (by decide) H.out hx
    obtain ⟨u, b2, off2, hu, rfl, hbl2, hc2⟩ := sl_one kInt_ok rfl H'.out hy
    obtain ⟨rfl, _⟩ := Side_rd hv
    obtain ⟨hu, _⟩ := hu
    simp only [List.cons.injEq, and_true] at hu
    subst hu
    have HD : Hid (hasR xs pt = (inB y x.1 x.2 && hasR (xs.drop (k + 1)) (pt.drop (k + 1)))) := by
      have h := HR.out
      rw [drop_cons xs k x hx, drop_cons pt k y hy] at h
      exact Lib.hid h
    have c0 : wr.cell? ⟨b, off + k * 2, none⟩ = some (.int .i64 x.1) := below_cellk HBW.out (by have := hcell 0 _ rfl; simpa [Nat.add_assoc] using this) hbl
    have c1 : wr.cell? ⟨b, off + k * 2 + 1, none⟩ = some (.int .i64 x.2) := below_cellk HBW.out (by have := hcell 1 _ rfl; simpa [Nat.add_assoc] using this) hbl
    have c2 : wr.cell? ⟨b2, off2 + k, none⟩ = some (.int .i64 y) := below_cellk HBW.out hc2 hbl2
    clear hcell hc2 hx hy
    obtain ⟨x1, x2⟩ := x
    have HI := Lib.hid (fun wx => within_any y x1 x2 wx)
    have z0 : (0 : Int) ≤ (k : Int) := Int.natCast_nonneg _
    have z1 : (k : Int) < (pt.length : Int) := by omega
    have hbw2 : Below w.heap.size w (wr.alloc (.cells #[.int .i64 x1, .int .i64 x2] 64)) := HBW.out.alloc HBW.out.size _
    have HBA := Lib.hid (box_step HB.out ((Below.refl wr.heap.size wr).alloc (Nat.le_refl _) (.cells #[.int .i64 x1, .int .i64 x2] 64)))
    have HF : Hid ((wr.alloc (.cells #[.int .i64 x1, .int .i64 x2] 64)).cell? ⟨b2, off2 + k, none⟩ = some (.int .i64 y) ∧ (wr.alloc (.cells #[.int .i64 x1, .int .i64 x2] 64)).cell? ⟨wr.heap.size, 0, none⟩ = some (.int .i64 x1) ∧ (wr.alloc (.cells #[.int .i64 x1, .int .i64 x2] 64)).cell? ⟨wr.heap.size, 1, none⟩ = some (.int .i64 x2)) := Lib.hid ⟨cell_alloc _ c2, by go_simp, by go_simp⟩
    clear hbw2
    cases hs : inB y x1 x2 with
    | false =>
      rw [hs] at HI HD
      clear hs
      go_wp2_with fail
      refine wp_region_G [8] (fun w' => w'.cell? ⟨b2, off2 + k, none⟩ = some (.int .i64 y) ∧ w'.cell? ⟨wr.heap.size, 0, none⟩ = some (.int .i64 x1) ∧ w'.cell? ⟨wr.heap.size, 1, none⟩ = some (.int .i64 x2)) (by kernel_rfl) ?_ (fun hHeld => ?_)
      · exact HF.out
      refine wpG_pure (i := 0) (oi := { dst := some 15, op := Go.Op.move (Go.Operand.tmp 1), type := 36, pos := "l9_cover.go:51", after := #[], guard := none }) (v := ?vg1) rfl (by kernel_rfl) (fun _ _ _ h => h) (Or.inr hHeld) (Or.inl ⟨by rfl, ?yg1⟩) ?_
      case yg1 => (intro wS _; go_simp <;> with_reducible rfl)
      try simp only [Act.put, List.setIfInBounds_toArray, List.set_cons_zero, List.set_cons_succ]
      refine wpG_pure (i := 1) (oi := { dst := some 16, op := Go.Op.move (Go.Operand.tmp 5), type := 3, pos := "l9_cover.go:51", after := #[], guard := none }) (v := ?vg2) rfl (by kernel_rfl) (fun _ _ _ h => h) (Or.inr hHeld) (Or.inl ⟨by rfl, ?yg2⟩) ?_
      case yg2 => (intro wS _; go_simp <;> with_reducible rfl)
      try simp only [Act.put, List.setIfInBounds_toArray, List.set_cons_zero, List.set_cons_succ]
      refine wpG_pure (i := 2) (oi := { dst := some 17, op := Go.Op.indexAddr 36 (Go.Operand.tmp 15) (Go.Operand.tmp 16), type := 0, pos := "l9_cover.go:51", after := #[{ on := 0, ground := Go.Ground.data }, { on := 1, ground := Go.Ground.data }], guard := none }) (v := ?vg3) rfl (by kernel_rfl) (fun _ _ _ h => h) (Or.inr hHeld) (Or.inl ⟨by rfl, ?yg3⟩) ?_
      case yg3 => (intro wS _; go_simp <;> with_reducible rfl)
      try simp only [Act.put, List.setIfInBounds_toArray, List.set_cons_zero, List.set_cons_succ]
      refine wpG_load (i := 3) (oi := { dst := some 18, op := Go.Op.load 3 (Go.Operand.tmp 17), type := 3, pos := "l9_cover.go:51", after := #[{ on := 2, ground := Go.Ground.data }], guard := none }) (v := ?vg4) [[8, 3]] rfl (by kernel_rfl) (fun _ _ _ h => h) hHeld (Or.inl ⟨by rfl, ?yg4⟩) ?_
      case yg4 => (intro wS hSw; (try dsimp only at hSw); go_simp <;> with_reducible rfl)
      try simp only [Act.put, List.setIfInBounds_toArray, List.set_cons_zero, List.set_cons_succ]
      refine wpG_pure (i := 4) (oi := { dst := some 19, op := Go.Op.fieldAddr 64 (Go.Operand.tmp 6) 0, type := 0, pos := "l9_cover.go:51", after := #[], guard := none }) (v := ?vg5) rfl (by kernel_rfl) (fun _ _ _ h => h) (Or.inr hHeld) (Or.inl ⟨by rfl, ?yg5⟩) ?_
      case yg5 => (intro wS _; go_simp <;> with_reducible rfl)
      try simp only [Act.put, List.setIfInBounds_toArray, List.set_cons_zero, List.set_cons_succ]
      refine wpG_load (i := 5) (oi := { dst := some 20, op := Go.Op.load 3 (Go.Operand.tmp 19), type := 3, pos := "l9_cover.go:51", after := #[{ on := 4, ground := Go.Ground.data }], guard := none }) (v := ?vg6) [[8, 5]] rfl (by kernel_rfl) (fun _ _ _ h => h) hHeld (Or.inl ⟨by rfl, ?yg6⟩) ?_
      case yg6 => (intro wS hSw; (try dsimp only at hSw); go_simp <;> with_reducible rfl)
      try simp only [Act.put, List.setIfInBounds_toArray, List.set_cons_zero, List.set_cons_succ]
      refine wpG_pure (i := 6) (oi := { dst := some 21, op := Go.Op.fieldAddr 64 (Go.Operand.tmp 6) 1, type := 0, pos := "l9_cover.go:51", after := #[], guard := none }) (v := ?vg7) rfl (by kernel_rfl) (fun _ _ _ h => h) (Or.inr hHeld) (Or.inl ⟨by rfl, ?yg7⟩) ?_
      case yg7 => (intro wS _; go_simp <;> with_reducible rfl)
      try simp only [Act.put, List.setIfInBounds_toArray, List.set_cons_zero, List.set_cons_succ]
      refine wpG_load (i := 7) (oi := { dst := some 22, op := Go.Op.load 3 (Go.Operand.tmp 21), type := 3, pos := "l9_cover.go:51", after := #[{ on := 6, ground := Go.Ground.data }], guard := none }) (v := ?vg8) [[8, 7]] rfl (by kernel_rfl) (fun _ _ _ h => h) hHeld (Or.inl ⟨by rfl, ?yg8⟩) ?_
      case yg8 => (intro wS hSw; (try dsimp only at hSw); go_simp <;> with_reducible rfl)
      try simp only [Act.put, List.setIfInBounds_toArray, List.set_cons_zero, List.set_cons_succ]
      refine wpG_one (i := 8) (o := { dst := some 23, op := Go.Op.call { callee := Go.Callee.value (Go.Operand.func 72), args := #[Go.Operand.tmp 18, Go.Operand.tmp 20, Go.Operand.tmp 22], argTypes := #[3, 3, 3] }, type := 4, pos := "l9_cover.go:51", after := #[{ on := 3, ground := Go.Ground.data }, { on := 5, ground := Go.Ground.data }, { on := 7, ground := Go.Ground.data }], guard := none }) rfl (by kernel_rfl) (fun K hK => ?_)
      go_simp
      refine (HI.out _).mono ?_
      rintro e w' ⟨rfl, rfl⟩
      refine hK.out _ _ (Or.inl (by kernel_rfl)) (fun _ => ?_)
      clear hK K
      try simp only [Act.put, List.setIfInBounds_toArray, List.set_cons_zero, List.set_cons_succ]
      refine wpG_pure (i := 9) (oi := { dst := some 24, op := Go.Op.unOp Go.UnOp.not 4 (Go.Operand.tmp 23), type := 4, pos := "l9_cover.go:51", after := #[{ on := 8, ground := Go.Ground.data }], guard := none }) (v := ?vg10) rfl (by kernel_rfl) (fun _ _ _ h => h) (Or.inl (by kernel_rfl)) (Or.inl ⟨by rfl, ?yg10⟩) ?_
      case yg10 => (intro wS _; go_simp <;> with_reducible rfl)
      try simp only [Act.put, List.setIfInBounds_toArray, List.set_cons_zero, List.set_cons_succ]
      refine wpG_done (by kernel_rfl) ?_
      go_wp2_with fail
      go_ret
      exact ⟨ret_bool (by rw [HD.out, Bool.false_and]), (box_below HBA.out).drew⟩
    | true =>
      rw [hs] at HI HD
      have HD2 : Hid (hasR xs pt = hasR (xs.drop (k + 1)) (pt.drop (k + 1))) := Lib.hid (by rw [HD.out, Bool.true_and])
      clear hs
      go_wp2_with fail
      refine wp_region_G [8] (fun w' => w'.cell? ⟨b2, off2 + k, none⟩ = some (.int .i64 y) ∧ w'.cell? ⟨wr.heap.size, 0, none⟩ = some (.int .i64 x1) ∧ w'.cell? ⟨wr.heap.size, 1, none⟩ = some (.int .i64 x2)) (by kernel_rfl) ?_ (fun hHeld => ?_)
      · exact HF.out
      refine wpG_pure (i := 0) (oi := { dst := some 15, op := Go.Op.move (Go.Operand.tmp 1), type := 36, pos := "l9_cover.go:51", after := #[], guard := none }) (v := ?vg11) rfl (by kernel_rfl) (fun _ _ _ h => h) (Or.inr hHeld) (Or.inl ⟨by rfl, ?yg11⟩) ?_
      case yg11 => (intro wS _; go_simp <;> with_reducible rfl)
      try simp only [Act.put, List.setIfInBounds_toArray, List.set_cons_zero, List.set_cons_succ]
      refine wpG_pure (i := 1) (oi := { dst := some 16, op := Go.Op.move (Go.Operand.tmp 5), type := 3, pos := "l9_cover.go:51", after := #[], guard := none }) (v := ?vg12) rfl (by kernel_rfl) (fun _ _ _ h => h) (Or.inr hHeld) (Or.inl ⟨by rfl, ?yg12⟩) ?_
      case yg12 => (intro wS _; go_simp <;> with_reducible rfl)
      try simp only [Act.put, List.setIfInBounds_toArray, List.set_cons_zero, List.set_cons_succ]
      refine wpG_pure (i := 2) (oi := { dst := some 17, op := Go.Op.indexAddr 36 (Go.Operand.tmp 15) (Go.Operand.tmp 16), type := 0, pos := "l9_cover.go:51", after := #[{ on := 0, ground := Go.Ground.data }, { on := 1, ground := Go.Ground.data }], guard := none }) (v := ?vg13) rfl (by kernel_rfl) (fun _ _ _ h => h) (Or.inr hHeld) (Or.inl ⟨by rfl, ?yg13⟩) ?_
      case yg13 => (intro wS _; go_simp <;> with_reducible rfl)
      try simp only [Act.put, List.setIfInBounds_toArray, List.set_cons_zero, List.set_cons_succ]
      refine wpG_load (i := 3) (oi := { dst := some 18, op := Go.Op.load 3 (Go.Operand.tmp 17), type := 3, pos := "l9_cover.go:51", after := #[{ on := 2, ground := Go.Ground.data }], guard := none }) (v := ?vg14) [[8, 3]] rfl (by kernel_rfl) (fun _ _ _ h => h) hHeld (Or.inl ⟨by rfl, ?yg14⟩) ?_
      case yg14 => (intro wS hSw; (try dsimp only at hSw); go_simp <;> with_reducible rfl)
      try simp only [Act.put, List.setIfInBounds_toArray, List.set_cons_zero, List.set_cons_succ]
      refine wpG_pure (i := 4) (oi := { dst := some 19, op := Go.Op.fieldAddr 64 (Go.Operand.tmp 6) 0, type := 0, pos := "l9_cover.go:51", after := #[], guard := none }) (v := ?vg15) rfl (by kernel_rfl) (fun _ _ _ h => h) (Or.inr hHeld) (Or.inl ⟨by rfl, ?yg15⟩) ?_
      case yg15 => (intro wS _; go_simp <;> with_reducible rfl)
      try simp only [Act.put, List.setIfInBounds_toArray, List.set_cons_zero, List.set_cons_succ]
      refine wpG_load (i := 5) (oi := { dst := some 20, op := Go.Op.load 3 (Go.Operand.tmp 19), type := 3, pos := "l9_cover.go:51", after := #[{ on := 4, ground := Go.Ground.data }], guard := none }) (v := ?vg16) [[8, 5]] rfl (by kernel_rfl) (fun _ _ _ h => h) hHeld (Or.inl ⟨by rfl, ?yg16⟩) ?_
      case yg16 => (intro wS hSw; (try dsimp only at hSw); go_simp <;> with_reducible rfl)
      try simp only [Act.put, List.setIfInBounds_toArray, List.set_cons_zero, List.set_cons_succ]
      refine wpG_pure (i := 6) (oi := { dst := some 21, op := Go.Op.fieldAddr 64 (Go.Operand.tmp 6) 1, type := 0, pos := "l9_cover.go:51", after := #[], guard := none }) (v := ?vg17) rfl (by kernel_rfl) (fun _ _ _ h => h) (Or.inr hHeld) (Or.inl ⟨by rfl, ?yg17⟩) ?_
      case yg17 => (intro wS _; go_simp <;> with_reducible rfl)
      try simp only [Act.put, List.setIfInBounds_toArray, List.set_cons_zero, List.set_cons_succ]
      refine wpG_load (i := 7) (oi := { dst := some 22, op := Go.Op.load 3 (Go.Operand.tmp 21), type := 3, pos := "l9_cover.go:51", after := #[{ on := 6, ground := Go.Ground.data }], guard := none }) (v := ?vg18) [[8, 7]] rfl (by kernel_rfl) (fun _ _ _ h => h) hHeld (Or.inl ⟨by rfl, ?yg18⟩) ?_
      case yg18 => (intro wS hSw; (try dsimp only at hSw); go_simp <;> with_reducible rfl)
      try simp only [Act.put, List.setIfInBounds_toArray, List.set_cons_zero, List.set_cons_succ]
      refine wpG_one (i := 8) (o := { dst := some 23, op := Go.Op.call { callee := Go.Callee.value (Go.Operand.func 72), args := #[Go.Operand.tmp 18, Go.Operand.tmp 20, Go.Operand.tmp 22], argTypes := #[3, 3, 3] }, type := 4, pos := "l9_cover.go:51", after := #[{ on := 3, ground := Go.Ground.data }, { on := 5, ground := Go.Ground.data }, { on := 7, ground := Go.Ground.data }], guard := none }) rfl (by kernel_rfl) (fun K hK => ?_)
      go_simp
      refine (HI.out _).mono ?_
      rintro e w' ⟨rfl, rfl⟩
      refine hK.out _ _ (Or.inl (by kernel_rfl)) (fun _ => ?_)
      clear hK K
      try simp only [Act.put, List.setIfInBounds_toArray, List.set_cons_zero, List.set_cons_succ]
      refine wpG_pure (i := 9) (oi := { dst := some 24, op := Go.Op.unOp Go.UnOp.not 4 (Go.Operand.tmp 23), type := 4, pos := "l9_cover.go:51", after := #[{ on := 8, ground := Go.Ground.data }], guard := none }) (v := ?vg20) rfl (by kernel_rfl) (fun _ _ _ h => h) (Or.inl (by kernel_rfl)) (Or.inl ⟨by rfl, ?yg20⟩) ?_
      case yg20 => (intro wS _; go_simp <;> with_reducible rfl)
      try simp only [Act.put, List.setIfInBounds_toArray, List.set_cons_zero, List.set_cons_succ]
      refine wpG_done (by kernel_rfl) ?_
      go_wp2_with fail
      go_roundw
      case rel => exact ⟨k + 1, by omega, by go_num, HD2, Lib.hid HBA.out.drew⟩
      case measure => simp [intOf]; omega
set_option maxHeartbeats 2000000 in
theorem spec_has {cs ps : List Value} {xs : Bx} {pt : List Int} {w : World} (h : kBox.rd w.heap.size w cs xs) (h' : kIntS.rd w.heap.size w ps pt) (hl : xs.length = pt.length) :
    Calls Try.prog 51 #[.agg cs.toArray, one ps] w fun e w' => e = .returned (.bool (hasR xs pt)) ∧ Below w.heap.size w w' := by
  obtain ⟨a, cap, rfl⟩ := kSl_form h
  obtain ⟨a', cap', rfl⟩ := kSl_form h'
  show Calls Try.prog 51 #[.agg #[.slice a xs.length cap], .slice a' pt.length cap'] w _
  have hn := (sl_len h).2; have hn' := (sl_len h').2
  have H := Lib.hid h; have H' := Lib.hid h'; have HLN := Lib.hid hl
  have HB0 := Lib.hid (box_start w (.cells #[.slice a xs.length cap] 28))
  clear h h' hl
  go_enter Try.func51, Try.ntmps51
  go_wp2_with fail
  go_loopw [10] (fun i wr => ∃ k : Nat, k ≤ xs.length ∧ i = .int .i64 k ∧ Hid (hasR xs pt = hasR (xs.drop k) (pt.drop k)) ∧ Hid (Below (w.heap.size + 1) (w.alloc (.cells #[.slice a xs.length cap] 28)) wr)) (fun i _ => xs.length - (intOf i).toNat)
  case atStart => exact ⟨0, Nat.zero_le _, rfl, rfl, HB0⟩
  case round =>
    obtain ⟨k, hk, rfl, HR, HB⟩ := hrel
    have HBW := Lib.hid (box_below HB.out)
    by_cases hlk : k < xs.length
    case neg =>
      obtain rfl : k = xs.length := by omega
      have hr := HR.out
      rw [List.drop_length, show hasR [] (pt.drop xs.length) = true from rfl] at hr
      have HR2 := Lib.hid hr
      clear hr
      go_wp2_with fail
      go_ret
      exact ⟨ret_bool HR2.out.symm, HBW.out⟩
    have hlp : k < pt.length := by have := HLN.out; omega
    obtain ⟨x, hx⟩ : ∃ x, xs[k]? = some x := ⟨xs[k], List.getElem?_eq_getElem hlk⟩
    obtain ⟨y, hy⟩ : ∃ y, pt[k]? = some y := ⟨pt[k], List.getElem?_eq_getElem hlp⟩
    obtain ⟨v, b, off, hv, rfl, hbl, hcell⟩ := sl_at kSide_ok (n := 2) rfl (by decide) H.out hx
    obtain ⟨u, b2, off2, hu, rfl, hbl2, hc2⟩ := sl_one kInt_ok rfl H'.out hy
    obtain ⟨rfl, _⟩ := Side_rd hv
    obtain ⟨hu, _⟩ := hu
    simp only [List.cons.injEq, and_true] at hu
    subst hu
    have HD : Hid (hasR xs pt = (inB y x.1 x.2 && hasR (xs.drop (k + 1)) (pt.drop (k + 1)))) := by
      have h := HR.out
      rw [drop_cons xs k x hx, drop_cons pt k y hy] at h
      exact Lib.hid h
    have c0 : wr.cell? ⟨b, off + k * 2, none⟩ = some (.int .i64 x.1) := below_cellk HBW.out (by have := hcell 0 _ rfl; simpa [Nat.add_assoc] using this) hbl
    have c1 : wr.cell? ⟨b, off + k * 2 + 1, none⟩ = some (.int .i64 x.2) := below_cellk HBW.out (by have := hcell 1 _ rfl; simpa [Nat.add_assoc] using this) hbl
    have c2 : wr.cell? ⟨b2, off2 + k, none⟩ = some (.int .i64 y) := below_cellk HBW.out hc2 hbl2
    clear hcell hc2 hx hy
    obtain ⟨x1, x2⟩ := x
    have HI := Lib.hid (fun wx => l1In_any y x1 x2 wx)
    have z0 : (0 : Int) ≤ (k : Int) := Int.natCast_nonneg _
    have z1 : (k : Int) < (pt.length : Int) := by omega
    have hbw2 : Below w.heap.size w (wr.alloc (.cells #[.int .i64 x1, .int .i64 x2] 64)) := HBW.out.alloc HBW.out.size _
    have HBA := Lib.hid (box_step HB.out ((Below.refl wr.heap.size wr).alloc (Nat.le_refl _) (.cells #[.int .i64 x1, .int .i64 x2] 64)))
    have HF : Hid ((wr.alloc (.cells #[.int .i64 x1, .int .i64 x2] 64)).cell? ⟨b2, off2 + k, none⟩ = some (.int .i64 y) ∧ (wr.alloc (.cells #[.int .i64 x1, .int .i64 x2] 64)).cell? ⟨wr.heap.size, 0, none⟩ = some (.int .i64 x1) ∧ (wr.alloc (.cells #[.int .i64 x1, .int .i64 x2] 64)).cell? ⟨wr.heap.size, 1, none⟩ = some (.int .i64 x2)) := Lib.hid ⟨cell_alloc _ c2, by go_simp, by go_simp⟩
    clear hbw2
    cases hs : inB y x1 x2 with
    | false =>
      rw [hs] at HI HD
      clear hs
      go_wp2_with fail
      refine wp_region_G [8] (fun w' => w'.cell? ⟨b2, off2 + k, none⟩ = some (.int .i64 y) ∧ w'.cell? ⟨wr.heap.size, 0, none⟩ = some (.int .i64 x1) ∧ w'.cell? ⟨wr.heap.size, 1, none⟩ = some (.int .i64 x2)) (by kernel_rfl) ?_ (fun hHeld => ?_)
      · exact HF.out
      refine wpG_pure (i := 0) (oi := { dst := some 15, op := Go.Op.move (Go.Operand.tmp 1), type := 36, pos := "l9_cover.go:25", after := #[], guard := none }) (v := ?vg21) rfl (by kernel_rfl) (fun _ _ _ h => h) (Or.inr hHeld) (Or.inl ⟨by rfl, ?yg21⟩) ?_
      case yg21 => (intro wS _; go_simp <;> with_reducible rfl)
      try simp only [Act.put, List.setIfInBounds_toArray, List.set_cons_zero, List.set_cons_succ]
      refine wpG_pure (i := 1) (oi := { dst := some 16, op := Go.Op.move (Go.Operand.tmp 5), type := 3, pos := "l9_cover.go:25", after := #[], guard := none }) (v := ?vg22) rfl (by kernel_rfl) (fun _ _ _ h => h) (Or.inr hHeld) (Or.inl ⟨by rfl, ?yg22⟩) ?_
      case yg22 => (intro wS _; go_simp <;> with_reducible rfl)
      try simp only [Act.put, List.setIfInBounds_toArray, List.set_cons_zero, List.set_cons_succ]
      refine wpG_pure (i := 2) (oi := { dst := some 17, op := Go.Op.indexAddr 36 (Go.Operand.tmp 15) (Go.Operand.tmp 16), type := 0, pos := "l9_cover.go:25", after := #[{ on := 0, ground := Go.Ground.data }, { on := 1, ground := Go.Ground.data }], guard := none }) (v := ?vg23) rfl (by kernel_rfl) (fun _ _ _ h => h) (Or.inr hHeld) (Or.inl ⟨by rfl, ?yg23⟩) ?_
      case yg23 => (intro wS _; go_simp <;> with_reducible rfl)
      try simp only [Act.put, List.setIfInBounds_toArray, List.set_cons_zero, List.set_cons_succ]
      refine wpG_load (i := 3) (oi := { dst := some 18, op := Go.Op.load 3 (Go.Operand.tmp 17), type := 3, pos := "l9_cover.go:25", after := #[{ on := 2, ground := Go.Ground.data }], guard := none }) (v := ?vg24) [[8, 3]] rfl (by kernel_rfl) (fun _ _ _ h => h) hHeld (Or.inl ⟨by rfl, ?yg24⟩) ?_
      case yg24 => (intro wS hSw; (try dsimp only at hSw); go_simp <;> with_reducible rfl)
      try simp only [Act.put, List.setIfInBounds_toArray, List.set_cons_zero, List.set_cons_succ]
      refine wpG_pure (i := 4) (oi := { dst := some 19, op := Go.Op.fieldAddr 64 (Go.Operand.tmp 6) 0, type := 0, pos := "l9_cover.go:25", after := #[], guard := none }) (v := ?vg25) rfl (by kernel_rfl) (fun _ _ _ h => h) (Or.inr hHeld) (Or.inl ⟨by rfl, ?yg25⟩) ?_
      case yg25 => (intro wS _; go_simp <;> with_reducible rfl)
      try simp only [Act.put, List.setIfInBounds_toArray, List.set_cons_zero, List.set_cons_succ]
      refine wpG_load (i := 5) (oi := { dst := some 20, op := Go.Op.load 3 (Go.Operand.tmp 19), type := 3, pos := "l9_cover.go:25", after := #[{ on := 4, ground := Go.Ground.data }], guard := none }) (v := ?vg26) [[8, 5]] rfl (by kernel_rfl) (fun _ _ _ h => h) hHeld (Or.inl ⟨by rfl, ?yg26⟩) ?_
      case yg26 => (intro wS hSw; (try dsimp only at hSw); go_simp <;> with_reducible rfl)
      try simp only [Act.put, List.setIfInBounds_toArray, List.set_cons_zero, List.set_cons_succ]
      refine wpG_pure (i := 6) (oi := { dst := some 21, op := Go.Op.fieldAddr 64 (Go.Operand.tmp 6) 1, type := 0, pos := "l9_cover.go:25", after := #[], guard := none }) (v := ?vg27) rfl (by kernel_rfl) (fun _ _ _ h => h) (Or.inr hHeld) (Or.inl ⟨by rfl, ?yg27⟩) ?_
      case yg27 => (intro wS _; go_simp <;> with_reducible rfl)
      try simp only [Act.put, List.setIfInBounds_toArray, List.set_cons_zero, List.set_cons_succ]
      refine wpG_load (i := 7) (oi := { dst := some 22, op := Go.Op.load 3 (Go.Operand.tmp 21), type := 3, pos := "l9_cover.go:25", after := #[{ on := 6, ground := Go.Ground.data }], guard := none }) (v := ?vg28) [[8, 7]] rfl (by kernel_rfl) (fun _ _ _ h => h) hHeld (Or.inl ⟨by rfl, ?yg28⟩) ?_
      case yg28 => (intro wS hSw; (try dsimp only at hSw); go_simp <;> with_reducible rfl)
      try simp only [Act.put, List.setIfInBounds_toArray, List.set_cons_zero, List.set_cons_succ]
      refine wpG_one (i := 8) (o := { dst := some 23, op := Go.Op.call { callee := Go.Callee.value (Go.Operand.func 65), args := #[Go.Operand.tmp 18, Go.Operand.tmp 20, Go.Operand.tmp 22], argTypes := #[3, 3, 3] }, type := 4, pos := "l9_cover.go:25", after := #[{ on := 3, ground := Go.Ground.data }, { on := 5, ground := Go.Ground.data }, { on := 7, ground := Go.Ground.data }], guard := none }) rfl (by kernel_rfl) (fun K hK => ?_)
      go_simp
      refine (HI.out _).mono ?_
      rintro e w' ⟨rfl, rfl⟩
      refine hK.out _ _ (Or.inl (by kernel_rfl)) (fun _ => ?_)
      clear hK K
      try simp only [Act.put, List.setIfInBounds_toArray, List.set_cons_zero, List.set_cons_succ]
      refine wpG_pure (i := 9) (oi := { dst := some 24, op := Go.Op.unOp Go.UnOp.not 4 (Go.Operand.tmp 23), type := 4, pos := "l9_cover.go:25", after := #[{ on := 8, ground := Go.Ground.data }], guard := none }) (v := ?vg30) rfl (by kernel_rfl) (fun _ _ _ h => h) (Or.inl (by kernel_rfl)) (Or.inl ⟨by rfl, ?yg30⟩) ?_
      case yg30 => (intro wS _; go_simp <;> with_reducible rfl)
      try simp only [Act.put, List.setIfInBounds_toArray, List.set_cons_zero, List.set_cons_succ]
      refine wpG_done (by kernel_rfl) ?_
      go_wp2_with fail
      go_ret
      exact ⟨ret_bool (by rw [HD.out, Bool.false_and]), (box_below HBA.out).drew⟩
    | true =>
      rw [hs] at HI HD
      have HD2 : Hid (hasR xs pt = hasR (xs.drop (k + 1)) (pt.drop (k + 1))) := Lib.hid (by rw [HD.out, Bool.true_and])
      clear hs
      go_wp2_with fail
      refine wp_region_G [8] (fun w' => w'.cell? ⟨b2, off2 + k, none⟩ = some (.int .i64 y) ∧ w'.cell? ⟨wr.heap.size, 0, none⟩ = some (.int .i64 x1) ∧ w'.cell? ⟨wr.heap.size, 1, none⟩ = some (.int .i64 x2)) (by kernel_rfl) ?_ (fun hHeld => ?_)
      · exact HF.out
      refine wpG_pure (i := 0) (oi := { dst := some 15, op := Go.Op.move (Go.Operand.tmp 1), type := 36, pos := "l9_cover.go:25", after := #[], guard := none }) (v := ?vg31) rfl (by kernel_rfl) (fun _ _ _ h => h) (Or.inr hHeld) (Or.inl ⟨by rfl, ?yg31⟩) ?_
      case yg31 => (intro wS _; go_simp <;> with_reducible rfl)
      try simp only [Act.put, List.setIfInBounds_toArray, List.set_cons_zero, List.set_cons_succ]
      refine wpG_pure (i := 1) (oi := { dst := some 16, op := Go.Op.move (Go.Operand.tmp 5), type := 3, pos := "l9_cover.go:25", after := #[], guard := none }) (v := ?vg32) rfl (by kernel_rfl) (fun _ _ _ h => h) (Or.inr hHeld) (Or.inl ⟨by rfl, ?yg32⟩) ?_
      case yg32 => (intro wS _; go_simp <;> with_reducible rfl)
      try simp only [Act.put, List.setIfInBounds_toArray, List.set_cons_zero, List.set_cons_succ]
      refine wpG_pure (i := 2) (oi := { dst := some 17, op := Go.Op.indexAddr 36 (Go.Operand.tmp 15) (Go.Operand.tmp 16), type := 0, pos := "l9_cover.go:25", after := #[{ on := 0, ground := Go.Ground.data }, { on := 1, ground := Go.Ground.data }], guard := none }) (v := ?vg33) rfl (by kernel_rfl) (fun _ _ _ h => h) (Or.inr hHeld) (Or.inl ⟨by rfl, ?yg33⟩) ?_
      case yg33 => (intro wS _; go_simp <;> with_reducible rfl)
      try simp only [Act.put, List.setIfInBounds_toArray, List.set_cons_zero, List.set_cons_succ]
      refine wpG_load (i := 3) (oi := { dst := some 18, op := Go.Op.load 3 (Go.Operand.tmp 17), type := 3, pos := "l9_cover.go:25", after := #[{ on := 2, ground := Go.Ground.data }], guard := none }) (v := ?vg34) [[8, 3]] rfl (by kernel_rfl) (fun _ _ _ h => h) hHeld (Or.inl ⟨by rfl, ?yg34⟩) ?_
      case yg34 => (intro wS hSw; (try dsimp only at hSw); go_simp <;> with_reducible rfl)
      try simp only [Act.put, List.setIfInBounds_toArray, List.set_cons_zero, List.set_cons_succ]
      refine wpG_pure (i := 4) (oi := { dst := some 19, op := Go.Op.fieldAddr 64 (Go.Operand.tmp 6) 0, type := 0, pos := "l9_cover.go:25", after := #[], guard := none }) (v := ?vg35) rfl (by kernel_rfl) (fun _ _ _ h => h) (Or.inr hHeld) (Or.inl ⟨by rfl, ?yg35⟩) ?_
      case yg35 => (intro wS _; go_simp <;> with_reducible rfl)
      try simp only [Act.put, List.setIfInBounds_toArray, List.set_cons_zero, List.set_cons_succ]
      refine wpG_load (i := 5) (oi := { dst := some 20, op := Go.Op.load 3 (Go.Operand.tmp 19), type := 3, pos := "l9_cover.go:25", after := #[{ on := 4, ground := Go.Ground.data }], guard := none }) (v := ?vg36) [[8, 5]] rfl (by kernel_rfl) (fun _ _ _ h => h) hHeld (Or.inl ⟨by rfl, ?yg36⟩) ?_
      case yg36 => (intro wS hSw; (try dsimp only at hSw); go_simp <;> with_reducible rfl)
      try simp only [Act.put, List.setIfInBounds_toArray, List.set_cons_zero, List.set_cons_succ]
      refine wpG_pure (i := 6) (oi := { dst := some 21, op := Go.Op.fieldAddr 64 (Go.Operand.tmp 6) 1, type := 0, pos := "l9_cover.go:25", after := #[], guard := none }) (v := ?vg37) rfl (by kernel_rfl) (fun _ _ _ h => h) (Or.inr hHeld) (Or.inl ⟨by rfl, ?yg37⟩) ?_
      case yg37 => (intro wS _; go_simp <;> with_reducible rfl)
      try simp only [Act.put, List.setIfInBounds_toArray, List.set_cons_zero, List.set_cons_succ]
      refine wpG_load (i := 7) (oi := { dst := some 22, op := Go.Op.load 3 (Go.Operand.tmp 21), type := 3, pos := "l9_cover.go:25", after := #[{ on := 6, ground := Go.Ground.data }], guard := none }) (v := ?vg38) [[8, 7]] rfl (by kernel_rfl) (fun _ _ _ h => h) hHeld (Or.inl ⟨by rfl, ?yg38⟩) ?_
      case yg38 => (intro wS hSw; (try dsimp only at hSw); go_simp <;> with_reducible rfl)
      try simp only [Act.put, List.setIfInBounds_toArray, List.set_cons_zero, List.set_cons_succ]
      refine wpG_one (i := 8) (o := { dst := some 23, op := Go.Op.call { callee := Go.Callee.value (Go.Operand.func 65), args := #[Go.Operand.tmp 18, Go.Operand.tmp 20, Go.Operand.tmp 22], argTypes := #[3, 3, 3] }, type := 4, pos := "l9_cover.go:25", after := #[{ on := 3, ground := Go.Ground.data }, { on := 5, ground := Go.Ground.data }, { on := 7, ground := Go.Ground.data }], guard := none }) rfl (by kernel_rfl) (fun K hK => ?_)
      go_simp
      refine (HI.out _).mono ?_
      rintro e w' ⟨rfl, rfl⟩
      refine hK.out _ _ (Or.inl (by kernel_rfl)) (fun _ => ?_)
      clear hK K
      try simp only [Act.put, List.setIfInBounds_toArray, List.set_cons_zero, List.set_cons_succ]
      refine wpG_pure (i := 9) (oi := { dst := some 24, op := Go.Op.unOp Go.UnOp.not 4 (Go.Operand.tmp 23), type := 4, pos := "l9_cover.go:25", after := #[{ on := 8, ground := Go.Ground.data }], guard := none }) (v := ?vg40) rfl (by kernel_rfl) (fun _ _ _ h => h) (Or.inl (by kernel_rfl)) (Or.inl ⟨by rfl, ?yg40⟩) ?_
      case yg40 => (intro wS _; go_simp <;> with_reducible rfl)
      try simp only [Act.put, List.setIfInBounds_toArray, List.set_cons_zero, List.set_cons_succ]
      refine wpG_done (by kernel_rfl) ?_
      go_wp2_with fail
      go_roundw
      case rel => exact ⟨k + 1, by omega, by go_num, HD2, Lib.hid HBA.out.drew⟩
      case measure => simp [intOf]; omega

set_option maxHeartbeats 1000000 in
theorem clo_unh (x : Bx) (v : List Value) (B : Nat) (ps : List Value) (pt : List Int) (w : World) (hr : kBox.rd w.heap.size w v x) (hp : kIntS.rd w.heap.size w ps pt) (hl : x.length = pt.length) (hc : w.cell? ⟨B, 0, none⟩ = some (one ps)) :
    Calls Try.prog 55 #[.agg v.toArray, .pointer (some ⟨B, 0, none⟩)] w fun e w' => e = .returned (.bool (hasR x pt)) ∧ Below w.heap.size w w' := by
  obtain ⟨a, cap, rfl⟩ := kSl_form hr
  obtain ⟨a', cap', rfl⟩ := kSl_form hp
  have hb0 : ∀ o, Below w.heap.size w (w.alloc o) := fun o => (Below.refl _ _).alloc (Nat.le_refl _) o
  have HC := Lib.hid (fun o => impl_has (w := w.alloc o) (kBox_ok.later hr (hb0 o)) (kIntS_ok.later hp (hb0 o)) hl)
  have c0 : w.cell? ⟨B, 0, none⟩ = some (.slice a' pt.length cap') := hc
  have hlt : B < w.heap.size := World.block_lt_of_cell? w _ hc
  clear hr hp hc hl hb0
  generalize hasR x pt = r at *
  go_enter Try.func55, Try.ntmps55
  go_wp2_with fail
  refine (HC.out _).mono ?_
  rintro e w1 ⟨rfl, hb⟩
  have HB := Lib.hid (box_step (box_start w _) hb); clear hb
  go_wp2_with fail
  go_ret
  exact ⟨rfl, box_below HB.out⟩

set_option maxHeartbeats 1000000 in
theorem idx_unh {cs : List Value} {xs : List (List (Int × Int))} {w : World} (c0 : Value) (p : (List (Int × Int)) → Bool) (h : kBoxS.rd w.heap.size w cs xs) (hclo : ∀ (wx : World) (x : (List (Int × Int))) (v : List Value), Below w.heap.size w wx → x ∈ xs → kBox.rd wx.heap.size wx v x → Calls Try.prog 55 #[.agg v.toArray, c0] wx fun e w' => e = .returned (.bool (p x)) ∧ Below wx.heap.size wx w') :
    Calls Try.prog 73 #[one cs, .func (.func 55) #[] #[c0]] w fun e w' => e = .returned (.int .i64 (fidx p xs)) ∧ Below w.heap.size w w' := by
  obtain ⟨a, cap, vss, rfl, ⟨hc1, hc2⟩, hrow, hl⟩ := h
  unfold maxLen at hc2
  have hn : xs.length ≤ 9223372036854775807 := by omega
  show Calls Try.prog 73 #[.slice a xs.length cap, .func (.func 55) #[] #[c0]] w _
  have HROW := Lib.hid hrow; have HL := Lib.hid hl; have HCL := Lib.hid hclo
  clear hrow hl hclo
  go_enter Try.func73, Try.ntmps73
  go_wp2_with fail
  go_loopw [8] (fun i wr => ∃ k : Nat, k ≤ xs.length ∧ i = .int .i64 k ∧ Hid ((xs.take k).any p = false) ∧ Hid (Below w.heap.size w wr)) (fun i _ => xs.length - (intOf i).toNat)
  case atStart => exact ⟨0, Nat.zero_le _, rfl, rfl, Below.refl _ _⟩
  case round =>
    obtain ⟨k, hk, rfl, HA, HB⟩ := hrel
    by_cases hlk : k < xs.length
    case neg =>
      go_wp2_with fail
      go_ret
      obtain rfl : k = xs.length := by omega
      have h1 := HA.out
      rw [List.take_length] at h1
      exact ⟨ret_int (fidx_none p xs h1).symm, HB.out⟩
    obtain ⟨x, hx⟩ : ∃ x, xs[k]? = some x := ⟨xs[k], List.getElem?_eq_getElem hlk⟩
    obtain ⟨v, b, off, hr, hv, rfl, hbl, hcell⟩ := elem_cells kBox_ok (n := 1) rfl (by decide) HROW.out HL.out hx
    have hgd : xs.getD k x = x := by simp [List.getD, hx]
    have hyes : p x = true → fidx p xs = k := fun h => fidx_here p xs x k hlk HA.out (by rw [hgd]; exact h)
    have hno : p x = false → (xs.take (k + 1)).any p = false := fun h => fidx_next p xs x k hlk HA.out (by rw [hgd]; exact h)
    have HC := Lib.hid (HCL.out wr x v HB.out (List.mem_of_getElem? hx) (kBox_ok.later hr HB.out))
    have HY := Lib.hid hyes; have HN := Lib.hid hno
    clear hx hv hgd hyes hno
    obtain ⟨ea0, ecap0, rfl, _⟩ := Box_rd hr
    have c0 : wr.cell? ⟨b, off + k, none⟩ = some _ := (HB.out.cell (p := ⟨b, off + k, none⟩) hbl).trans (by have := hcell 0 _ rfl; simpa [Nat.add_assoc] using this)
    clear hcell
    cases hp : p x with
    | true =>
      rw [hp] at HC
      have HP := Lib.hid hp; clear hp
      go_wp2_with (go_at_call 55; refine HC.out.mono ?_; rintro e w2 ⟨rfl, hb2⟩; have HB2 := Lib.hid hb2; clear hb2)
      go_ret
      exact ⟨ret_int (HY.out HP.out).symm, HB.out.trans (HB2.out.mono HB.out.size)⟩
    | false =>
      rw [hp] at HC
      have HP := Lib.hid hp; clear hp
      go_wp2_with (go_at_call 55; refine HC.out.mono ?_; rintro e w2 ⟨rfl, hb2⟩; have HB2 := Lib.hid hb2; clear hb2)
      go_roundw
      case rel => exact ⟨k + 1, by omega, by go_num, HN.out HP.out, HB.out.trans (HB2.out.mono HB.out.size)⟩
      case measure => simp [intOf]; omega

set_option maxHeartbeats 1000000 in
theorem has_unh {cs : List Value} {xs : List (List (Int × Int))} {w : World} (c0 : Value) (p : (List (Int × Int)) → Bool) (h : kBoxS.rd w.heap.size w cs xs) (hclo : ∀ (wx : World) (x : (List (Int × Int))) (v : List Value), Below w.heap.size w wx → x ∈ xs → kBox.rd wx.heap.size wx v x → Calls Try.prog 55 #[.agg v.toArray, c0] wx fun e w' => e = .returned (.bool (p x)) ∧ Below wx.heap.size wx w') :
    Calls Try.prog 54 #[one cs, .func (.func 55) #[] #[c0]] w fun e w' => e = .returned (.bool (xs.any p)) ∧ Below w.heap.size w w' := by
  have HI := Lib.hid (idx_unh c0 p h hclo)
  obtain ⟨a, cap, vss, rfl, ⟨hc1, hc2⟩, hrow, hl⟩ := h
  clear hclo hrow hl
  by_cases h : 0 ≤ fidx p xs
  · have H := Lib.hid ((fidx_any p xs).1 h)
    go_enter Try.func54, Try.ntmps54
    go_wp2_with (go_at_call 73; refine HI.out.mono ?_; rintro e w' ⟨rfl, hb2⟩; have HB2 := Lib.hid hb2; clear hb2)
    go_ret
    exact ⟨ret_bool (by rw [H.out]; try (simp; try omega)), HB2.out⟩
  · have H := Lib.hid (Bool.eq_false_iff.2 fun hc => h ((fidx_any p xs).2 hc))
    go_enter Try.func54, Try.ntmps54
    go_wp2_with (go_at_call 73; refine HI.out.mono ?_; rintro e w' ⟨rfl, hb2⟩; have HB2 := Lib.hid hb2; clear hb2)
    go_ret
    exact ⟨ret_bool (by rw [H.out]; try (simp; try omega)), HB2.out⟩

theorem boxes_len {l : List Bx} {p : List Int} (h1 : boxesR l = true) (h2 : pointR p = true) : ∀ x ∈ l, x.length = p.length := by
  intro x hx
  unfold boxesR at h1; unfold pointR at h2
  simp only [Bool.and_eq_true, decide_eq_true_eq] at h1 h2
  rw [h2.1]
  exact good_len (List.all_eq_true.1 h1.2 x hx)

set_option maxHeartbeats 2000000 in
theorem impl_UnionHas (w : World) (cs0 cs1 : List Value) (a0 : List Bx) (a1 : List Int) (h0 : kBoxS.rd w.heap.size w cs0 a0) (h1 : kIntS.rd w.heap.size w cs1 a1) (_ht : kBoxS.wt a0 + kIntS.wt a1 ≤ 2097152) :
    Calls Try.prog 22 #[one cs0, one cs1] w fun e w' => e = .returned (.tuple #[.bool (R_UnionHas a0 a1).1, .bool (R_UnionHas a0 a1).2]) ∧ Below w.heap.size w w' := by
  obtain ⟨a, cap, rfl⟩ := kSl_form h0
  obtain ⟨a', cap', rfl⟩ := kSl_form h1
  show Calls Try.prog 22 #[.slice a a0.length cap, .slice a' a1.length cap'] w _
  have H0 := Lib.hid h0; have H1 := Lib.hid h1
  have HC0 := Lib.hid (fun wx (hb : Below w.heap.size w wx) => impl_boxesOK (w := wx) (kBoxS_ok.later H0.out hb))
  have HC1 := Lib.hid (fun wx (hb : Below w.heap.size w wx) => impl_pointOK (w := wx) (kIntS_ok.later H1.out hb))
  have HB0 := Lib.hid (box_start w (.cells #[.slice a' a1.length cap'] 36))
  clear h0 h1
  cases g0 : boxesR a0 with
  | false =>
    have hR : R_UnionHas a0 a1 = (false, false) := by unfold R_UnionHas; rw [if_neg (by rw [g0]; simp)]
    rw [hR]; rw [g0] at HC0
    clear hR g0
    go_enter Try.func22, Try.ntmps22
    go_wp2_with fail
    refine (HC0.out _ ((Below.refl _ _).alloc (Nat.le_refl _) _)).mono ?_
    rintro e w1 ⟨rfl, hb⟩
    have HB := Lib.hid (box_step HB0.out hb); clear hb
    go_wp2_with fail
    go_ret2
    exact ⟨rfl, box_below HB.out⟩
  | true =>
    rw [g0] at HC0
    cases g1 : pointR a1 with
    | false =>
      have hR : R_UnionHas a0 a1 = (false, false) := by unfold R_UnionHas; rw [if_neg (by rw [g1]; simp)]
      rw [hR]; rw [g1] at HC1
      clear hR g0 g1
      go_enter Try.func22, Try.ntmps22
      go_wp2_with fail
      refine (HC0.out _ ((Below.refl _ _).alloc (Nat.le_refl _) _)).mono ?_
      rintro e w1 ⟨rfl, hb⟩
      have HB := Lib.hid (box_step HB0.out hb); clear hb
      have k0 := box_cell HB.out 0
      go_wp2_with fail
      refine (HC1.out _ (box_below HB.out)).mono ?_
      rintro e w2 ⟨rfl, hb⟩
      have HB2 := Lib.hid (box_step HB.out hb); clear hb k0
      go_wp2_with fail
      go_ret2
      exact ⟨rfl, box_below HB2.out⟩
    | true =>
      have hR : R_UnionHas a0 a1 = (a0.any (hasR · a1), true) := by unfold R_UnionHas; rw [if_pos ⟨g0, g1⟩]
      rw [hR]; rw [g1] at HC1
      have HLN := Lib.hid (boxes_len g0 g1)
      have HH := Lib.hid (fun wx (hb : Below w.heap.size w wx) (B : Nat) (hc : wx.cell? ⟨B, 0, none⟩ = some (.slice a' a1.length cap')) => has_unh (w := wx) (.pointer (some ⟨B, 0, none⟩)) (hasR · a1) (kBoxS_ok.later H0.out hb) (fun wy x v hby hx hr =>
        clo_unh x v B _ a1 wy hr (kIntS_ok.later H1.out (hb.trans (hby.mono hb.size))) (HLN.out x hx) (below_later hby hc)))
      clear hR g0 g1
      generalize a0.any (hasR · a1) = r at *
      go_enter Try.func22, Try.ntmps22
      go_wp2_with fail
      refine (HC0.out _ ((Below.refl _ _).alloc (Nat.le_refl _) _)).mono ?_
      rintro e w1 ⟨rfl, hb⟩
      have HB := Lib.hid (box_step HB0.out hb); clear hb
      have k0 := box_cell HB.out 0
      go_wp2_with fail
      refine (HC1.out _ (box_below HB.out)).mono ?_
      rintro e w2 ⟨rfl, hb⟩
      have HB2 := Lib.hid (box_step HB.out hb); clear hb k0
      have k0 := box_cell HB2.out 0
      go_wp2_with fail
      refine (HH.out _ (box_below HB2.out) w.heap.size (box_cell HB2.out 0)).mono ?_
      rintro e w3 ⟨rfl, hb⟩
      have HB3 := Lib.hid (box_step HB2.out hb); clear hb k0
      go_wp2_with fail
      go_ret2
      exact ⟨rfl, box_below HB3.out⟩

end Go.Proofs.Ythlajmncpejhmaa
