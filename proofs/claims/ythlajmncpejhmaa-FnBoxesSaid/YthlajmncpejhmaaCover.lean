/- The contracts of LeastCover, the program's and the reference's. -/
import Derived.Test.YthlajmncpejhmaaUnionS
namespace Go.Proofs.Ythlajmncpejhmaa
set_option linter.unusedVariables false
open Go.ChangeShapes Go.WideShapes Go.ChangeAt Go.RowKit
set_option maxRecDepth 100000

def covR : Bx → Bx → Bool
  | s :: xs, o :: ys => (decide (s.1 ≤ o.1) && decide (o.2 ≤ s.2)) && covR xs ys
  | _, _ => true
def condR (l : List Bx) (i k : Nat) : Bool := decide (k ≠ i) && covR (l.getD k []) (l.getD i []) && (decide (k < i) || !covR (l.getD i []) (l.getD k []))
def ndR (l : List Bx) (i k : Nat) : Bool := (List.range k).all fun j => !condR l i j
def lcL (l : List Bx) (n : Nat) : List Int := ((List.range n).filter fun i => ndR l i l.length).map fun i : Nat => (i : Int)
def R_LeastCover (l : List Bx) : List Int × Bool := if boxesR l = true then (lcL l l.length, true) else ([], false)
theorem ndR_succ (l : List Bx) (i k : Nat) : ndR l i (k + 1) = (ndR l i k && !condR l i k) := by
  unfold ndR; rw [List.range_succ, List.all_append]; simp
theorem lcL_len (l : List Bx) (n : Nat) : (lcL l n).length ≤ n := by
  unfold lcL; rw [List.length_map]; exact Nat.le_trans (List.length_filter_le _ _) (by simp)
theorem lcL_yes {l : List Bx} {n : Nat} (h : ndR l n l.length = true) : lcL l (n + 1) = lcL l n ++ [(n : Int)] := by
  unfold lcL; rw [List.range_succ, List.filter_append, List.map_append]; simp [h]
theorem lcL_no {l : List Bx} {n : Nat} (h : ndR l n l.length = false) : lcL l (n + 1) = lcL l n := by
  unfold lcL; rw [List.range_succ, List.filter_append, List.map_append]; simp [h]
theorem ints_one (xs : List Int) (x : Int) : ints (xs ++ [x]) = ints xs ++ [.int .i64 x] := by simp [ints]
theorem cov_step (xs ys : Bx) (k : Nat) (x y : Int × Int) (hx : xs[k]? = some x) (hy : ys[k]? = some y) : covR (xs.drop k) (ys.drop k) = ((decide (x.1 ≤ y.1) && decide (y.2 ≤ x.2)) && covR (xs.drop (k + 1)) (ys.drop (k + 1))) := by
  rw [drop_cons xs k x hx, drop_cons ys k y hy]; rfl

set_option maxHeartbeats 2000000 in
theorem impl_covers {cs ds : List Value} {xs ys : Bx} {w : World} (h : kBox.rd w.heap.size w cs xs) (h' : kBox.rd w.heap.size w ds ys) (hl : xs.length = ys.length) :
    Calls Try.prog 58 #[.agg cs.toArray, .agg ds.toArray] w fun e w' => e = .returned (.bool (covR xs ys)) ∧ Below w.heap.size w w' := by
  obtain ⟨a, cap, rfl⟩ := kSl_form h
  obtain ⟨a', cap', rfl⟩ := kSl_form h'
  show Calls Try.prog 58 #[.agg #[.slice a xs.length cap], .agg #[.slice a' ys.length cap']] w _
  have hn := (sl_len h).2; have hn' := (sl_len h').2
  have H := Lib.hid h; have H' := Lib.hid h'; have HLN := Lib.hid hl
  have HB0 := Lib.hid (box2_start w (.cells #[.slice a xs.length cap] 28) (.cells #[.slice a' ys.length cap'] 28))
  clear h h' hl
  go_enter Try.func58, Try.ntmps58
  go_wp2_with fail
  go_loopw [10] (fun i wr => ∃ k : Nat, k ≤ (xs).length ∧ i = .int .i64 k ∧ Hid (covR xs ys = covR (xs.drop k) (ys.drop k)) ∧ Hid (Below (w.heap.size + 2) ((w.alloc (.cells #[.slice a xs.length cap] 28)).alloc (.cells #[.slice a' ys.length cap'] 28)) wr)) (fun i _ => (xs).length - (intOf i).toNat)
  case atStart => exact ⟨0, Nat.zero_le _, rfl, rfl, HB0⟩
  case round =>
    obtain ⟨k, hk, rfl, HR, HB⟩ := hrel
    have HBW := Lib.hid (box2_below HB.out)
    by_cases hlk : k < (xs).length
    case neg =>
      have hr : covR xs ys = true := by
        have h := HR.out
        have := HLN.out
        rw [List.drop_eq_nil_of_le (by omega : xs.length ≤ k)] at h
        rw [h]; unfold covR; rfl
      have HR2 := Lib.hid hr
      have hk2 : k = (xs).length := by omega
      clear hr
      subst hk2
      go_wp2_with fail
      go_ret
      exact ⟨ret_bool HR2.out.symm, HBW.out⟩
    have hlx : k < xs.length := by have := HLN.out; omega
    have hly : k < ys.length := by have := HLN.out; omega
    obtain ⟨x, hx⟩ : ∃ x, xs[k]? = some x := ⟨xs[k], List.getElem?_eq_getElem hlx⟩
    obtain ⟨y, hy⟩ : ∃ y, ys[k]? = some y := ⟨ys[k], List.getElem?_eq_getElem hly⟩
    obtain ⟨v, b, off, hv, rfl, hbl, hcell⟩ := sl_at kSide_ok (n := 2) rfl (by decide) H.out hx
    obtain ⟨u, b2, off2, hu, rfl, hbl2, hcell2⟩ := sl_at kSide_ok (n := 2) rfl (by decide) H'.out hy
    obtain ⟨rfl, _⟩ := Side_rd hv
    obtain ⟨rfl, _⟩ := Side_rd hu
    have HD : Hid (covR xs ys = ((decide (x.1 ≤ y.1) && decide (y.2 ≤ x.2)) && covR (xs.drop (k + 1)) (ys.drop (k + 1)))) := Lib.hid (HR.out.trans (cov_step xs ys k x y hx hy))
    have c0 : wr.cell? ⟨b, off + k * 2, none⟩ = some (.int .i64 x.1) := below_cellk HBW.out (by have := hcell 0 _ rfl; simpa [Nat.add_assoc] using this) hbl
    have c1 : wr.cell? ⟨b, off + k * 2 + 1, none⟩ = some (.int .i64 x.2) := below_cellk HBW.out (by have := hcell 1 _ rfl; simpa [Nat.add_assoc] using this) hbl
    have d0 : wr.cell? ⟨b2, off2 + k * 2, none⟩ = some (.int .i64 y.1) := below_cellk HBW.out (by have := hcell2 0 _ rfl; simpa [Nat.add_assoc] using this) hbl2
    have d1 : wr.cell? ⟨b2, off2 + k * 2 + 1, none⟩ = some (.int .i64 y.2) := below_cellk HBW.out (by have := hcell2 1 _ rfl; simpa [Nat.add_assoc] using this) hbl2
    have ba := box2_a HB.out 0
    have bb := box2_b HB.out 0
    clear hcell hcell2 hx hy
    have hw2 : w.heap.size + 2 ≤ wr.heap.size := by have := HB.out.size; simp at this; omega
    have l1 : b < wr.heap.size := by omega
    have l2 : b2 < wr.heap.size := by omega
    have l3 : w.heap.size < wr.heap.size := by omega
    have l4 : w.heap.size + 1 < wr.heap.size := by omega
    obtain ⟨x1, x2⟩ := x
    obtain ⟨y1, y2⟩ := y
    have z0 : (0 : Int) ≤ (k : Int) := Int.natCast_nonneg _
    have z1 : (k : Int) < (xs.length : Int) := by omega
    have z2 : (k : Int) < (ys.length : Int) := by omega
    have HBA := Lib.hid (box2_step HB.out ((Below.refl wr.heap.size wr).alloc (Nat.le_refl _) (.cells #[.int .i64 x1, .int .i64 x2] 64)))
    by_cases t1 : y1 < x1
    · skip
      have HN : Hid (covR xs ys = false) := Lib.hid (by rw [HD.out, show decide (x1 ≤ y1) = false by simp; omega]; rfl)
      go_wp2_with fail
      go_quiet (fail)
      go_wp2_with fail
      go_ret
      exact ⟨ret_bool HN.out.symm, below_drewN (box2_below HBA.out) _⟩
    · by_cases t2 : y2 > x2
      · have HN : Hid (covR xs ys = false) := Lib.hid (by rw [HD.out, show decide (y2 ≤ x2) = false by simp; omega]; simp)
        go_wp2_with fail
        go_quiet (fail)
        go_wp2_with fail
        go_ret
        exact ⟨ret_bool HN.out.symm, below_drewN (box2_below HBA.out) _⟩
      · have HD2 : Hid (covR xs ys = covR (xs.drop (k + 1)) (ys.drop (k + 1))) := Lib.hid (by rw [HD.out, show decide (x1 ≤ y1) = true by simp; omega, show decide (y2 ≤ x2) = true by simp; omega]; rfl)
        go_wp2_with fail
        go_quiet (fail)
        go_wp2_with fail
        go_roundw
        case rel => exact ⟨k + 1, by omega, by go_num, HD2, Lib.hid (below_drewN HBA.out _)⟩
        case measure => simp [intOf]; omega
set_option maxHeartbeats 2000000 in
theorem spec_covers {cs ds : List Value} {xs ys : Bx} {w : World} (h : kBox.rd w.heap.size w cs xs) (h' : kBox.rd w.heap.size w ds ys) (hl : xs.length = ys.length) :
    Calls Try.prog 57 #[.agg cs.toArray, .agg ds.toArray] w fun e w' => e = .returned (.bool (covR xs ys)) ∧ Below w.heap.size w w' := by
  obtain ⟨a, cap, rfl⟩ := kSl_form h
  obtain ⟨a', cap', rfl⟩ := kSl_form h'
  show Calls Try.prog 57 #[.agg #[.slice a xs.length cap], .agg #[.slice a' ys.length cap']] w _
  have hn := (sl_len h).2; have hn' := (sl_len h').2
  have H := Lib.hid h; have H' := Lib.hid h'; have HLN := Lib.hid hl
  have HB0 := Lib.hid (box2_start w (.cells #[.slice a xs.length cap] 28) (.cells #[.slice a' ys.length cap'] 28))
  clear h h' hl
  go_enter Try.func57, Try.ntmps57
  go_wp2_with fail
  go_loopw [10] (fun i wr => ∃ k : Nat, k ≤ (ys).length ∧ i = .int .i64 k ∧ Hid (covR xs ys = covR (xs.drop k) (ys.drop k)) ∧ Hid (Below (w.heap.size + 2) ((w.alloc (.cells #[.slice a xs.length cap] 28)).alloc (.cells #[.slice a' ys.length cap'] 28)) wr)) (fun i _ => (ys).length - (intOf i).toNat)
  case atStart => exact ⟨0, Nat.zero_le _, rfl, rfl, HB0⟩
  case round =>
    obtain ⟨k, hk, rfl, HR, HB⟩ := hrel
    have HBW := Lib.hid (box2_below HB.out)
    by_cases hlk : k < (ys).length
    case neg =>
      have hr : covR xs ys = true := by
        have h := HR.out
        have := HLN.out
        rw [List.drop_eq_nil_of_le (by omega : xs.length ≤ k)] at h
        rw [h]; unfold covR; rfl
      have HR2 := Lib.hid hr
      have hk2 : k = (ys).length := by omega
      clear hr
      subst hk2
      go_wp2_with fail
      go_ret
      exact ⟨ret_bool HR2.out.symm, HBW.out⟩
    have hlx : k < xs.length := by have := HLN.out; omega
    have hly : k < ys.length := by have := HLN.out; omega
    obtain ⟨x, hx⟩ : ∃ x, xs[k]? = some x := ⟨xs[k], List.getElem?_eq_getElem hlx⟩
    obtain ⟨y, hy⟩ : ∃ y, ys[k]? = some y := ⟨ys[k], List.getElem?_eq_getElem hly⟩
    obtain ⟨v, b, off, hv, rfl, hbl, hcell⟩ := sl_at kSide_ok (n := 2) rfl (by decide) H.out hx
    obtain ⟨u, b2, off2, hu, rfl, hbl2, hcell2⟩ := sl_at kSide_ok (n := 2) rfl (by decide) H'.out hy
    obtain ⟨rfl, _⟩ := Side_rd hv
    obtain ⟨rfl, _⟩ := Side_rd hu
    have HD : Hid (covR xs ys = ((decide (x.1 ≤ y.1) && decide (y.2 ≤ x.2)) && covR (xs.drop (k + 1)) (ys.drop (k + 1)))) := Lib.hid (HR.out.trans (cov_step xs ys k x y hx hy))
    have c0 : wr.cell? ⟨b, off + k * 2, none⟩ = some (.int .i64 x.1) := below_cellk HBW.out (by have := hcell 0 _ rfl; simpa [Nat.add_assoc] using this) hbl
    have c1 : wr.cell? ⟨b, off + k * 2 + 1, none⟩ = some (.int .i64 x.2) := below_cellk HBW.out (by have := hcell 1 _ rfl; simpa [Nat.add_assoc] using this) hbl
    have d0 : wr.cell? ⟨b2, off2 + k * 2, none⟩ = some (.int .i64 y.1) := below_cellk HBW.out (by have := hcell2 0 _ rfl; simpa [Nat.add_assoc] using this) hbl2
    have d1 : wr.cell? ⟨b2, off2 + k * 2 + 1, none⟩ = some (.int .i64 y.2) := below_cellk HBW.out (by have := hcell2 1 _ rfl; simpa [Nat.add_assoc] using this) hbl2
    have ba := box2_a HB.out 0
    have bb := box2_b HB.out 0
    clear hcell hcell2 hx hy
    have hw2 : w.heap.size + 2 ≤ wr.heap.size := by have := HB.out.size; simp at this; omega
    have l1 : b < wr.heap.size := by omega
    have l2 : b2 < wr.heap.size := by omega
    have l3 : w.heap.size < wr.heap.size := by omega
    have l4 : w.heap.size + 1 < wr.heap.size := by omega
    obtain ⟨x1, x2⟩ := x
    obtain ⟨y1, y2⟩ := y
    have z0 : (0 : Int) ≤ (k : Int) := Int.natCast_nonneg _
    have z1 : (k : Int) < (xs.length : Int) := by omega
    have z2 : (k : Int) < (ys.length : Int) := by omega
    have HBA := Lib.hid (box2_step HB.out ((Below.refl wr.heap.size wr).alloc (Nat.le_refl _) (.cells #[.int .i64 y1, .int .i64 y2] 64)))
    by_cases t1 : y1 < x1
    · skip
      have HN : Hid (covR xs ys = false) := Lib.hid (by rw [HD.out, show decide (x1 ≤ y1) = false by simp; omega]; rfl)
      go_wp2_with fail
      go_quiet (fail)
      go_wp2_with fail
      go_ret
      exact ⟨ret_bool HN.out.symm, below_drewN (box2_below HBA.out) _⟩
    · by_cases t2 : y2 > x2
      · have HN : Hid (covR xs ys = false) := Lib.hid (by rw [HD.out, show decide (y2 ≤ x2) = false by simp; omega]; simp)
        go_wp2_with fail
        go_quiet (fail)
        go_wp2_with fail
        go_ret
        exact ⟨ret_bool HN.out.symm, below_drewN (box2_below HBA.out) _⟩
      · have HD2 : Hid (covR xs ys = covR (xs.drop (k + 1)) (ys.drop (k + 1))) := Lib.hid (by rw [HD.out, show decide (x1 ≤ y1) = true by simp; omega, show decide (y2 ≤ x2) = true by simp; omega]; rfl)
        go_wp2_with fail
        go_quiet (fail)
        go_wp2_with fail
        go_roundw
        case rel => exact ⟨k + 1, by omega, by go_num, HD2, Lib.hid (below_drewN HBA.out _)⟩
        case measure => simp [intOf]; omega


def MadeI (R : List Int × Bool) (w : World) (e : Ending) (w' : World) : Prop :=
  ∃ v, e = .returned (.tuple #[v, .bool R.2]) ∧ w'.ownsRow w.heap.size 3 1 v R.1.length (ints R.1) ∧ Below w.heap.size w w'
theorem int_ow' (w : World) : ∀ (xs : List Int), (∀ n ∈ xs, (Lit.int .i64 n).wf = true) → OwL kInt w (xs.map fun _ => []) (xs.map fun n => [Value.int .i64 n]) xs
  | [], _ => trivial
  | x :: xs, h => ⟨⟨rfl, rfl, h x (by simp)⟩, int_ow' w xs fun p hp => h p (by simp [hp])⟩
theorem nil_flat' (xs : List Int) : (xs.map fun _ => ([] : List Nat)).flatten = [] := by induction xs with
  | nil => rfl
  | cons x r ih => simp [ih]
theorem ints_flat (xs : List Int) : (xs.map fun n => [Value.int .i64 n]).flatten = ints xs := by induction xs with
  | nil => rfl
  | cons x r ih => rw [List.map_cons, List.flatten_cons, ih]; rfl
theorem ints_ow {w : World} {base : Nat} {v : Value} {xs : List Int} (h : w.ownsRow base 3 1 v xs.length (ints xs)) (hw : ∀ p ∈ xs, (Lit.int .i64 p).wf = true) : kIntS.ow v.ownBlock.toList w [v] xs :=
  ⟨v, _, _, rfl, by rw [ints_flat]; exact own_mono h (Nat.zero_le _), int_ow' w xs hw, by rw [nil_flat', List.append_nil], by cases v.ownBlock <;> simp⟩
theorem made_ints {R : List Int × Bool} {w w' : World} {e : Ending} (hw : ∀ p ∈ R.1, (Lit.int .i64 p).wf = true) (h : MadeI R w e w') : Made kIntS (fun cs => .tuple #[one cs, .bool R.2]) R.1 w e w' := by
  obtain ⟨v, rfl, ho, hb⟩ := h
  refine ⟨[v], v.ownBlock.toList, rfl, ints_ow ho hw, by cases v.ownBlock <;> simp, fun b hm => (ho.lt b (by simpa using hm)).1, hb⟩

theorem cond_no1 {l : List Bx} {i k : Nat} (h : k = i) : ndR l i (k + 1) = ndR l i k := by
  rw [ndR_succ]; unfold condR; simp [h]
theorem cond_no2 {l : List Bx} {i k : Nat} (h : covR (l.getD k []) (l.getD i []) = false) : ndR l i (k + 1) = ndR l i k := by
  rw [ndR_succ]; unfold condR; simp only [h, Bool.and_false, Bool.false_and, Bool.not_false, Bool.and_true]
theorem cond_no3 {l : List Bx} {i k : Nat} (h1 : ¬ k < i) (h : covR (l.getD i []) (l.getD k []) = true) : ndR l i (k + 1) = ndR l i k := by
  rw [ndR_succ]; unfold condR; simp only [h, h1, decide_false, Bool.not_true, Bool.or_false, Bool.and_false, Bool.not_false, Bool.and_true]
theorem cond_yes1 {l : List Bx} {i k : Nat} (h0 : k ≠ i) (h : covR (l.getD k []) (l.getD i []) = true) (h1 : k < i) : ndR l i (k + 1) = false := by
  rw [ndR_succ]; unfold condR; rw [h]; simp [h0, h1]
theorem cond_yes2 {l : List Bx} {i k : Nat} (h0 : k ≠ i) (h : covR (l.getD k []) (l.getD i []) = true) (h1 : covR (l.getD i []) (l.getD k []) = false) : ndR l i (k + 1) = false := by
  rw [ndR_succ]; unfold condR; rw [h, h1]; simp [h0]

theorem boxes_le {l : List Bx} (h : boxesR l = true) : l.length ≤ 20 := by
  unfold boxesR at h; simp only [Bool.and_eq_true, decide_eq_true_eq] at h; exact h.1
theorem lc_wf (l : List Bx) : ∀ n ∈ (R_LeastCover l).1, (Lit.int .i64 n).wf = true := by
  unfold R_LeastCover
  split
  · rename_i h
    intro n hn
    have hb := boxes_le h
    unfold lcL at hn
    simp only [List.mem_map, List.mem_filter, List.mem_range] at hn
    obtain ⟨k, ⟨hk, _⟩, rfl⟩ := hn
    exact WalkArith.wf_i64 (by omega)
  · simp
theorem ints_cnt (xs : List Int) : kIntS.cnt xs = xs.length := by
  show sumL kInt.cnt xs = _
  induction xs with
  | nil => rfl
  | cons x r ih => rw [sumL, ih, List.length_cons]; show 1 + _ = _; omega
theorem R_LeastCover_ok (l : List Bx) (_h : kBoxS.wt l ≤ 1048576) : kIntS.cnt (R_LeastCover l).1 ≤ 16777215 := by
  rw [ints_cnt]
  unfold R_LeastCover
  split
  · rename_i h
    have := boxes_le h; have := lcL_len l l.length
    show (lcL l l.length).length ≤ _
    omega
  · simp
set_option maxHeartbeats 8000000 in
theorem lc_impl (w : World) (cs : List Value) (a0 : List Bx) (h0 : kBoxS.rd w.heap.size w cs a0) :
    Calls Try.prog 26 #[one cs] w (MadeI (R_LeastCover a0) w) := by
  obtain ⟨a, cap, rfl⟩ := kSl_form h0
  show Calls Try.prog 26 #[.slice a a0.length cap] w _
  have hn := (sl_len h0).2
  have H0 := Lib.hid h0
  have HC0 := Lib.hid (impl_boxesOK h0)
  clear h0
  cases g0 : boxesR a0 with
  | false =>
    have hR : R_LeastCover a0 = ([], false) := by unfold R_LeastCover; rw [if_neg (by rw [g0]; simp)]
    rw [hR]; rw [g0] at HC0
    clear hR g0
    go_enter Try.func26, Try.ntmps26
    go_wp2_with fail
    refine HC0.out.mono ?_
    rintro e w1 ⟨rfl, hb⟩
    have HB := Lib.hid hb; clear hb
    go_wp2_with fail
    go_ret2
    exact ⟨_, rfl, World.ownsRow_nil _ _ _ _, HB.out⟩
  | true =>
    have hR : R_LeastCover a0 = (lcL a0 a0.length, true) := by unfold R_LeastCover; rw [if_pos g0]
    have HGL : Hid (∀ x ∈ a0, x.length = 3) := by
      unfold boxesR at g0; simp only [Bool.and_eq_true] at g0
      exact Lib.hid fun x hx => good_len (List.all_eq_true.1 g0.2 x hx)
    have HLN : Hid (a0.length ≤ 20) := by
      unfold boxesR at g0; simp only [Bool.and_eq_true, decide_eq_true_eq] at g0
      exact Lib.hid g0.1
    rw [hR]; rw [g0] at HC0
    clear hR g0
    obtain ⟨i0, hi, hz0, hz1, hz2⟩ := info_parts Try.infoInt
    go_enter Try.func26, Try.ntmps26
    go_wp2_with fail
    refine HC0.out.mono ?_
    rintro e w1 ⟨rfl, hb⟩
    have HB0 := Lib.hid hb; clear hb
    go_wp2_with fail
    go_loopw [4, 16] (fun ov iv wr => ∃ (i : Nat) (v : Value), i ≤ a0.length ∧ iv = .int .i64 (i : Int) ∧ ov = v ∧ Hid (wr.ownsRow w1.heap.size 3 1 v (lcL a0 i).length (ints (lcL a0 i))) ∧ Hid (Below w1.heap.size w1 wr)) (fun _ iv _ => a0.length - (intOf iv).toNat)
    case atStart => exact ⟨0, _, by omega, rfl, rfl, World.ownsRow_made _ #[] 0 (Nat.le_refl _) (by unfold maxLen; omega) rfl, (Below.refl _ _).alloc (Nat.le_refl _) _⟩
    case round =>
      obtain ⟨i, v, hin, rfl, rfl, HOR, HBR⟩ := hrel
      obtain ⟨wo, rfl⟩ : ∃ z : World, z = wr := ⟨_, rfl⟩
      have HBW := Lib.hid (HB0.out.trans (HBR.out.mono HB0.out.size))
      by_cases hlt : i < a0.length
      case neg =>
        obtain rfl : i = a0.length := by omega
        go_wp2_with fail
        go_ret2
        exact ⟨_, rfl, own_mono HOR.out HB0.out.size, HBW.out⟩
      obtain ⟨x, hx⟩ : ∃ x, a0[i]? = some x := ⟨a0[i], List.getElem?_eq_getElem hlt⟩
      obtain ⟨u, b, off, hu, rfl, hbl, hc⟩ := sl_one kBox_ok rfl H0.out hx
      obtain ⟨ea, ecap, hu2⟩ := kSl_form hu
      simp only [List.cons.injEq, and_true] at hu2
      subst hu2
      have c0 : wo.cell? ⟨b, off + i, none⟩ = some (.slice ea x.length ecap) := below_cellk HBW.out hc hbl
      have HU := Lib.hid hu; have HX := Lib.hid hx
      have HXG : Hid (a0.getD i [] = x) := Lib.hid (by simp [List.getD, hx])
      clear hc hx hu
      go_wp2_with fail
      go_loopw [7, 23] (fun nv kv ws => ∃ (k : Nat) (nb : Bool), k ≤ a0.length ∧ nv = .bool nb ∧ kv = .int .i64 (k : Int) ∧ Hid (ndR a0 i k = nb) ∧ Hid (Below (wo.heap.size + 1) (wo.alloc (.cells #[.slice ea x.length ecap] 28)) ws)) (fun _ kv _ => a0.length - (intOf kv).toNat)
      case atStart => exact ⟨0, _, Nat.zero_le _, rfl, rfl, rfl, box_start _ _⟩
      case round =>
        obtain ⟨k, nb, hkn, rfl, rfl, HND, HBI⟩ := hrel
        obtain ⟨ws, rfl⟩ : ∃ z : World, z = wr := ⟨_, rfl⟩
        have HBR1 := Lib.hid (HBR.out.trans ((box_below HBI.out).mono HBR.out.size))
        have HBWs := Lib.hid (HB0.out.trans (HBR1.out.mono HB0.out.size))
        by_cases hlk : k < a0.length
        case neg =>
          obtain rfl : k = a0.length := by omega
          cases nb with
          | false =>
            have HL : Hid (lcL a0 (i + 1) = lcL a0 i) := Lib.hid (lcL_no HND.out)
            have HOR2 := Lib.hid (own_later HOR.out (box_below HBI.out))
            go_wp2_with fail
            go_roundw
            case rel => exact ⟨i + 1, _, by omega, by go_num, rfl, by rw [HL.out]; exact HOR2, HBR1⟩
            case measure => simp [intOf]; omega
          | true =>
            have HL : Hid (lcL a0 (i + 1) = lcL a0 i ++ [(i : Int)]) := Lib.hid (lcL_yes HND.out)
            have HOR2 := Lib.hid (own_later HOR.out (box_below HBI.out))
            have hll := lcL_len a0 i
            have HC3 : Hid ((lcL a0 i).length + 1 ≤ maxLen) := Lib.hid (by have := HLN.out; unfold maxLen; omega)
            have HC4 : Hid (((lcL a0 i).length + 1) * 8 ≤ 140737488355328) := Lib.hid (by have := HLN.out; omega)
            go_wp2_with (at_builtin; refine wpList_append_own _ rfl _ _ 36 rfl w1.heap.size 3 i0 (.int .i64 0) 1 8 Try.underlying36 hi hz0 hz1 hz2 rfl (by decide) _ (lcL a0 i).length _ rfl (HOR2.out.alloc _) _ 1 1 [.int .i64 (i : Int)] rfl rfl (news_one _ _ _) (by simp [Value.oneCell']) HC3.out HC4.out (Nat.le_trans HBR1.out.size (by simp)) ?_)
            intro v' w2 hown hgrow hnil
            have HBG := Lib.hid (Below.grown (HBR1.out.alloc HBR1.out.size _) hgrow (Nat.le_trans HBR1.out.size (by simp)) (fun j hj => (HOR2.out.lt j hj).1))
            have HOW := Lib.hid hown; clear hown hgrow hnil
            go_wp2_with fail
            go_roundw
            case rel => exact ⟨i + 1, _, by omega, by go_num, rfl, by rw [HL.out, ints_one, List.length_append]; exact HOW, HBG⟩
            case measure => simp [intOf]; omega
        obtain ⟨y, hy⟩ : ∃ y, a0[k]? = some y := ⟨a0[k], List.getElem?_eq_getElem hlk⟩
        obtain ⟨u2, b2, off2, hu2, hb2, hbl2, hc2⟩ := sl_one kBox_ok rfl H0.out hy
        simp only [Option.some.injEq, Addr.mk.injEq, and_true] at hb2
        obtain ⟨rfl, rfl⟩ := hb2
        obtain ⟨ea2, ecap2, hu3⟩ := kSl_form hu2
        simp only [List.cons.injEq, and_true] at hu3
        subst hu3
        have c2 : ws.cell? ⟨b, off + k, none⟩ = some (.slice ea2 y.length ecap2) := below_cellk HBWs.out hc2 hbl
        have HYG : Hid (a0.getD k [] = y) := Lib.hid (by simp [List.getD, hy])
        have c6 := box_cell HBI.out 0
        have hls : wo.heap.size < ws.heap.size := box_lt HBI.out
        have HLL := Lib.hid ((HGL.out x (List.mem_of_getElem? HX.out)).trans (HGL.out y (List.mem_of_getElem? hy)).symm)
        have HCV1 := Lib.hid (fun wx (hb : Below w.heap.size w wx) => impl_covers (w := wx) (kBox_ok.later hu2 hb) (kBox_ok.later HU.out hb) HLL.out.symm)
        have HCV2 := Lib.hid (fun wx (hb : Below w.heap.size w wx) => impl_covers (w := wx) (kBox_ok.later HU.out hb) (kBox_ok.later hu2 hb) HLL.out)
        have HB1 := Lib.hid (HBWs.out.alloc HBWs.out.size (.cells #[.slice ea2 y.length ecap2] 28))
        have HBN0 := Lib.hid (box_step HBI.out ((Below.refl ws.heap.size ws).alloc (Nat.le_refl _) (.cells #[.slice ea2 y.length ecap2] 28)))
        clear hc2 hy hu2
        by_cases hki : k = i
        · have HNX : Hid (ndR a0 i (k + 1) = nb) := Lib.hid ((cond_no1 hki).trans HND.out)
          have HBN := HBN0
          subst hki
          go_wp2_with fail
          go_roundw
          case rel => exact ⟨k + 1, nb, by omega, rfl, by go_num, HNX, HBN⟩
          case measure => simp [intOf]; omega
        have hd1 : ((k : Int) == (i : Int)) = false := by simp; omega
        have hk3 : ¬ (k : Int) = (i : Int) := by omega
        cases hr1 : covR y x with
        | false =>
          have HNX : Hid (ndR a0 i (k + 1) = nb) := Lib.hid ((cond_no2 (by rw [HYG.out, HXG.out]; exact hr1)).trans HND.out)
          rw [hr1] at HCV1
          clear hr1
          go_wp2_with fail
          refine (HCV1.out _ HB1.out).mono ?_
          rintro e w3 ⟨rfl, hb3⟩
          have HB3 := Lib.hid (box_step (box_start ws _) hb3); clear hb3
          have HBW3 := Lib.hid (HBWs.out.trans ((box_below HB3.out).mono HBWs.out.size))
          have HBN := Lib.hid (box_step HBI.out (box_below HB3.out))
          have e6 := below_later (box_below HB3.out) c6
          have e9 := box_cell HB3.out 0
          go_wp2_with fail
          go_roundw
          case rel => exact ⟨k + 1, nb, by omega, rfl, by go_num, HNX, HBN⟩
          case measure => simp [intOf]; omega
        | true =>
          rw [hr1] at HCV1
          by_cases hlki : k < i
          · have HNX : Hid (ndR a0 i (k + 1) = false) := Lib.hid (cond_yes1 hki (by rw [HYG.out, HXG.out]; exact hr1) hlki)
            clear hr1
            have hd2 : (k : Int) < (i : Int) := by omega
            go_wp2_with fail
            refine (HCV1.out _ HB1.out).mono ?_
            rintro e w3 ⟨rfl, hb3⟩
            have HB3 := Lib.hid (box_step (box_start ws _) hb3); clear hb3
            have HBW3 := Lib.hid (HBWs.out.trans ((box_below HB3.out).mono HBWs.out.size))
            have HBN := Lib.hid (box_step HBI.out (box_below HB3.out))
            have e6 := below_later (box_below HB3.out) c6
            have e9 := box_cell HB3.out 0
            go_wp2_with fail
            go_roundw
            case rel => exact ⟨k + 1, false, by omega, rfl, by go_num, HNX, HBN⟩
            case measure => simp [intOf]; omega
          · have hd2 : ¬ (k : Int) < (i : Int) := by omega
            cases hr2 : covR x y with
            | true =>
              have HNX : Hid (ndR a0 i (k + 1) = nb) := Lib.hid ((cond_no3 hlki (by rw [HYG.out, HXG.out]; exact hr2)).trans HND.out)
              rw [hr2] at HCV2
              clear hr1 hr2
              go_wp2_with fail
              refine (HCV1.out _ HB1.out).mono ?_
              rintro e w3 ⟨rfl, hb3⟩
              have HB3 := Lib.hid (box_step (box_start ws _) hb3); clear hb3
              have HBW3 := Lib.hid (HBWs.out.trans ((box_below HB3.out).mono HBWs.out.size))
              have HBN := Lib.hid (box_step HBI.out (box_below HB3.out))
              have e6 := below_later (box_below HB3.out) c6
              have e9 := box_cell HB3.out 0
              go_wp2_with fail
              refine (HCV2.out _ HBW3.out).mono ?_
              rintro e w4 ⟨rfl, hb4⟩
              have HB4 := Lib.hid (box_step HB3.out hb4); clear hb4 HBN
              have HBN := Lib.hid (box_step HBI.out (box_below HB4.out))
              go_wp2_with fail
              go_roundw
              case rel => exact ⟨k + 1, nb, by omega, rfl, by go_num, HNX, HBN⟩
              case measure => simp [intOf]; omega
            | false =>
              have HNX : Hid (ndR a0 i (k + 1) = false) := Lib.hid (cond_yes2 hki (by rw [HYG.out, HXG.out]; exact hr1) (by rw [HYG.out, HXG.out]; exact hr2))
              rw [hr2] at HCV2
              clear hr1 hr2
              go_wp2_with fail
              refine (HCV1.out _ HB1.out).mono ?_
              rintro e w3 ⟨rfl, hb3⟩
              have HB3 := Lib.hid (box_step (box_start ws _) hb3); clear hb3
              have HBW3 := Lib.hid (HBWs.out.trans ((box_below HB3.out).mono HBWs.out.size))
              have HBN := Lib.hid (box_step HBI.out (box_below HB3.out))
              have e6 := below_later (box_below HB3.out) c6
              have e9 := box_cell HB3.out 0
              go_wp2_with fail
              refine (HCV2.out _ HBW3.out).mono ?_
              rintro e w4 ⟨rfl, hb4⟩
              have HB4 := Lib.hid (box_step HB3.out hb4); clear hb4 HBN
              have HBN := Lib.hid (box_step HBI.out (box_below HB4.out))
              go_wp2_with fail
              go_roundw
              case rel => exact ⟨k + 1, false, by omega, rfl, by go_num, HNX, HBN⟩
              case measure => simp [intOf]; omega

theorem impl_LeastCover (w : World) (cs0 : List Value) (a0 : List Bx) (h0 : kBoxS.rd w.heap.size w cs0 a0) (_ht : kBoxS.wt a0 ≤ 1048576) :
    Calls Try.prog 26 #[one cs0] w (Made kIntS (fun cs => .tuple #[one cs, .bool (R_LeastCover a0).2]) (R_LeastCover a0).1 w) :=
  (lc_impl w cs0 a0 h0).mono fun _ _ h => made_ints (lc_wf a0) h
set_option maxHeartbeats 8000000 in
theorem lc_spec (w : World) (cs : List Value) (a0 : List Bx) (h0 : kBoxS.rd w.heap.size w cs a0) :
    Calls Try.prog 25 #[one cs] w (MadeI (R_LeastCover a0) w) := by
  obtain ⟨a, cap, rfl⟩ := kSl_form h0
  show Calls Try.prog 25 #[.slice a a0.length cap] w _
  have hn := (sl_len h0).2
  have H0 := Lib.hid h0
  have HC0 := Lib.hid (spec_boxes h0)
  clear h0
  cases g0 : boxesR a0 with
  | false =>
    have hR : R_LeastCover a0 = ([], false) := by unfold R_LeastCover; rw [if_neg (by rw [g0]; simp)]
    rw [hR]; rw [g0] at HC0
    clear hR g0
    go_enter Try.func25, Try.ntmps25
    go_wp2_with fail
    refine HC0.out.mono ?_
    rintro e w1 ⟨rfl, hb⟩
    have HB := Lib.hid hb; clear hb
    go_wp2_with fail
    go_ret2
    exact ⟨_, rfl, World.ownsRow_nil _ _ _ _, HB.out⟩
  | true =>
    have hR : R_LeastCover a0 = (lcL a0 a0.length, true) := by unfold R_LeastCover; rw [if_pos g0]
    have HGL : Hid (∀ x ∈ a0, x.length = 3) := by
      unfold boxesR at g0; simp only [Bool.and_eq_true] at g0
      exact Lib.hid fun x hx => good_len (List.all_eq_true.1 g0.2 x hx)
    have HLN : Hid (a0.length ≤ 20) := by
      unfold boxesR at g0; simp only [Bool.and_eq_true, decide_eq_true_eq] at g0
      exact Lib.hid g0.1
    rw [hR]; rw [g0] at HC0
    clear hR g0
    obtain ⟨i0, hi, hz0, hz1, hz2⟩ := info_parts Try.infoInt
    go_enter Try.func25, Try.ntmps25
    go_wp2_with fail
    refine HC0.out.mono ?_
    rintro e w1 ⟨rfl, hb⟩
    have HB0 := Lib.hid hb; clear hb
    go_wp2_with fail
    go_loopw [4, 15] (fun ov iv wr => ∃ (i : Nat) (v : Value), i ≤ a0.length ∧ iv = .int .i64 (i : Int) ∧ ov = v ∧ Hid (wr.ownsRow w1.heap.size 3 1 v (lcL a0 i).length (ints (lcL a0 i))) ∧ Hid (Below w1.heap.size w1 wr)) (fun _ iv _ => a0.length - (intOf iv).toNat)
    case atStart => exact ⟨0, _, by omega, rfl, rfl, World.ownsRow_nil _ _ _ _, Below.refl _ _⟩
    case round =>
      obtain ⟨i, v, hin, rfl, rfl, HOR, HBR⟩ := hrel
      obtain ⟨wo, rfl⟩ : ∃ z : World, z = wr := ⟨_, rfl⟩
      have HBW := Lib.hid (HB0.out.trans (HBR.out.mono HB0.out.size))
      by_cases hlt : i < a0.length
      case neg =>
        obtain rfl : i = a0.length := by omega
        go_wp2_with fail
        go_ret2
        exact ⟨_, rfl, own_mono HOR.out HB0.out.size, HBW.out⟩
      obtain ⟨x, hx⟩ : ∃ x, a0[i]? = some x := ⟨a0[i], List.getElem?_eq_getElem hlt⟩
      obtain ⟨u, b, off, hu, rfl, hbl, hc⟩ := sl_one kBox_ok rfl H0.out hx
      obtain ⟨ea, ecap, hu2⟩ := kSl_form hu
      simp only [List.cons.injEq, and_true] at hu2
      subst hu2
      have c0 : wo.cell? ⟨b, off + i, none⟩ = some (.slice ea x.length ecap) := below_cellk HBW.out hc hbl
      have HU := Lib.hid hu; have HX := Lib.hid hx
      have HXG : Hid (a0.getD i [] = x) := Lib.hid (by simp [List.getD, hx])
      clear hc hx hu
      go_wp2_with fail
      go_loopw [7, 22] (fun nv kv ws => ∃ (k : Nat) (nb : Bool), k ≤ a0.length ∧ nv = .bool nb ∧ kv = .int .i64 (k : Int) ∧ Hid (ndR a0 i k = nb) ∧ Hid (Below (wo.heap.size + 1) (wo.alloc (.cells #[.slice ea x.length ecap] 28)) ws)) (fun _ kv _ => a0.length - (intOf kv).toNat)
      case atStart => exact ⟨0, _, Nat.zero_le _, rfl, rfl, rfl, box_start _ _⟩
      case round =>
        obtain ⟨k, nb, hkn, rfl, rfl, HND, HBI⟩ := hrel
        obtain ⟨ws, rfl⟩ : ∃ z : World, z = wr := ⟨_, rfl⟩
        have HBR1 := Lib.hid (HBR.out.trans ((box_below HBI.out).mono HBR.out.size))
        have HBWs := Lib.hid (HB0.out.trans (HBR1.out.mono HB0.out.size))
        by_cases hlk : k < a0.length
        case neg =>
          obtain rfl : k = a0.length := by omega
          cases nb with
          | false =>
            have HL : Hid (lcL a0 (i + 1) = lcL a0 i) := Lib.hid (lcL_no HND.out)
            have HOR2 := Lib.hid (own_later HOR.out (box_below HBI.out))
            go_wp2_with fail
            go_roundw
            case rel => exact ⟨i + 1, _, by omega, by go_num, rfl, by rw [HL.out]; exact HOR2, HBR1⟩
            case measure => simp [intOf]; omega
          | true =>
            have HL : Hid (lcL a0 (i + 1) = lcL a0 i ++ [(i : Int)]) := Lib.hid (lcL_yes HND.out)
            have HOR2 := Lib.hid (own_later HOR.out (box_below HBI.out))
            have hll := lcL_len a0 i
            have HC3 : Hid ((lcL a0 i).length + 1 ≤ maxLen) := Lib.hid (by have := HLN.out; unfold maxLen; omega)
            have HC4 : Hid (((lcL a0 i).length + 1) * 8 ≤ 140737488355328) := Lib.hid (by have := HLN.out; omega)
            go_wp2_with (at_builtin; refine wpList_append_own _ rfl _ _ 36 rfl w1.heap.size 3 i0 (.int .i64 0) 1 8 Try.underlying36 hi hz0 hz1 hz2 rfl (by decide) _ (lcL a0 i).length _ rfl (HOR2.out.alloc _) _ 1 1 [.int .i64 (i : Int)] rfl rfl (news_one _ _ _) (by simp [Value.oneCell']) HC3.out HC4.out (Nat.le_trans HBR1.out.size (by simp)) ?_)
            intro v' w2 hown hgrow hnil
            have HBG := Lib.hid (Below.grown (HBR1.out.alloc HBR1.out.size _) hgrow (Nat.le_trans HBR1.out.size (by simp)) (fun j hj => (HOR2.out.lt j hj).1))
            have HOW := Lib.hid hown; clear hown hgrow hnil
            go_wp2_with fail
            go_roundw
            case rel => exact ⟨i + 1, _, by omega, by go_num, rfl, by rw [HL.out, ints_one, List.length_append]; exact HOW, HBG⟩
            case measure => simp [intOf]; omega
        obtain ⟨y, hy⟩ : ∃ y, a0[k]? = some y := ⟨a0[k], List.getElem?_eq_getElem hlk⟩
        obtain ⟨u2, b2, off2, hu2, hb2, hbl2, hc2⟩ := sl_one kBox_ok rfl H0.out hy
        simp only [Option.some.injEq, Addr.mk.injEq, and_true] at hb2
        obtain ⟨rfl, rfl⟩ := hb2
        obtain ⟨ea2, ecap2, hu3⟩ := kSl_form hu2
        simp only [List.cons.injEq, and_true] at hu3
        subst hu3
        have c2 : ws.cell? ⟨b, off + k, none⟩ = some (.slice ea2 y.length ecap2) := below_cellk HBWs.out hc2 hbl
        have HYG : Hid (a0.getD k [] = y) := Lib.hid (by simp [List.getD, hy])
        have c6 := box_cell HBI.out 0
        have hls : wo.heap.size < ws.heap.size := box_lt HBI.out
        have HLL := Lib.hid ((HGL.out x (List.mem_of_getElem? HX.out)).trans (HGL.out y (List.mem_of_getElem? hy)).symm)
        have HCV1 := Lib.hid (fun wx (hb : Below w.heap.size w wx) => spec_covers (w := wx) (kBox_ok.later hu2 hb) (kBox_ok.later HU.out hb) HLL.out.symm)
        have HCV2 := Lib.hid (fun wx (hb : Below w.heap.size w wx) => spec_covers (w := wx) (kBox_ok.later HU.out hb) (kBox_ok.later hu2 hb) HLL.out)
        have HB1 := Lib.hid (HBWs.out.alloc HBWs.out.size (.cells #[.slice ea2 y.length ecap2] 28))
        have HBN0 := Lib.hid (box_step HBI.out ((Below.refl ws.heap.size ws).alloc (Nat.le_refl _) (.cells #[.slice ea2 y.length ecap2] 28)))
        clear hc2 hy hu2
        by_cases hki : k = i
        · have HNX : Hid (ndR a0 i (k + 1) = nb) := Lib.hid ((cond_no1 hki).trans HND.out)
          have HBN := HBN0
          subst hki
          go_wp2_with fail
          go_roundw
          case rel => exact ⟨k + 1, nb, by omega, rfl, by go_num, HNX, HBN⟩
          case measure => simp [intOf]; omega
        have hd1 : ((k : Int) == (i : Int)) = false := by simp; omega
        have hk3 : ¬ (k : Int) = (i : Int) := by omega
        cases hr1 : covR y x with
        | false =>
          have HNX : Hid (ndR a0 i (k + 1) = nb) := Lib.hid ((cond_no2 (by rw [HYG.out, HXG.out]; exact hr1)).trans HND.out)
          rw [hr1] at HCV1
          clear hr1
          go_wp2_with fail
          refine (HCV1.out _ HB1.out).mono ?_
          rintro e w3 ⟨rfl, hb3⟩
          have HB3 := Lib.hid (box_step (box_start ws _) hb3); clear hb3
          have HBW3 := Lib.hid (HBWs.out.trans ((box_below HB3.out).mono HBWs.out.size))
          have HBN := Lib.hid (box_step HBI.out (box_below HB3.out))
          have e6 := below_later (box_below HB3.out) c6
          have e9 := box_cell HB3.out 0
          go_wp2_with fail
          go_roundw
          case rel => exact ⟨k + 1, nb, by omega, rfl, by go_num, HNX, HBN⟩
          case measure => simp [intOf]; omega
        | true =>
          rw [hr1] at HCV1
          by_cases hlki : k < i
          · have HNX : Hid (ndR a0 i (k + 1) = false) := Lib.hid (cond_yes1 hki (by rw [HYG.out, HXG.out]; exact hr1) hlki)
            clear hr1
            have hd2 : (k : Int) < (i : Int) := by omega
            go_wp2_with fail
            refine (HCV1.out _ HB1.out).mono ?_
            rintro e w3 ⟨rfl, hb3⟩
            have HB3 := Lib.hid (box_step (box_start ws _) hb3); clear hb3
            have HBW3 := Lib.hid (HBWs.out.trans ((box_below HB3.out).mono HBWs.out.size))
            have HBN := Lib.hid (box_step HBI.out (box_below HB3.out))
            have e6 := below_later (box_below HB3.out) c6
            have e9 := box_cell HB3.out 0
            go_wp2_with fail
            go_roundw
            case rel => exact ⟨k + 1, false, by omega, rfl, by go_num, HNX, HBN⟩
            case measure => simp [intOf]; omega
          · have hd2 : ¬ (k : Int) < (i : Int) := by omega
            cases hr2 : covR x y with
            | true =>
              have HNX : Hid (ndR a0 i (k + 1) = nb) := Lib.hid ((cond_no3 hlki (by rw [HYG.out, HXG.out]; exact hr2)).trans HND.out)
              rw [hr2] at HCV2
              clear hr1 hr2
              go_wp2_with fail
              refine (HCV1.out _ HB1.out).mono ?_
              rintro e w3 ⟨rfl, hb3⟩
              have HB3 := Lib.hid (box_step (box_start ws _) hb3); clear hb3
              have HBW3 := Lib.hid (HBWs.out.trans ((box_below HB3.out).mono HBWs.out.size))
              have HBN := Lib.hid (box_step HBI.out (box_below HB3.out))
              have e6 := below_later (box_below HB3.out) c6
              have e9 := box_cell HB3.out 0
              go_wp2_with fail
              refine (HCV2.out _ HBW3.out).mono ?_
              rintro e w4 ⟨rfl, hb4⟩
              have HB4 := Lib.hid (box_step HB3.out hb4); clear hb4 HBN
              have HBN := Lib.hid (box_step HBI.out (box_below HB4.out))
              go_wp2_with fail
              go_roundw
              case rel => exact ⟨k + 1, nb, by omega, rfl, by go_num, HNX, HBN⟩
              case measure => simp [intOf]; omega
            | false =>
              have HNX : Hid (ndR a0 i (k + 1) = false) := Lib.hid (cond_yes2 hki (by rw [HYG.out, HXG.out]; exact hr1) (by rw [HYG.out, HXG.out]; exact hr2))
              rw [hr2] at HCV2
              clear hr1 hr2
              go_wp2_with fail
              refine (HCV1.out _ HB1.out).mono ?_
              rintro e w3 ⟨rfl, hb3⟩
              have HB3 := Lib.hid (box_step (box_start ws _) hb3); clear hb3
              have HBW3 := Lib.hid (HBWs.out.trans ((box_below HB3.out).mono HBWs.out.size))
              have HBN := Lib.hid (box_step HBI.out (box_below HB3.out))
              have e6 := below_later (box_below HB3.out) c6
              have e9 := box_cell HB3.out 0
              go_wp2_with fail
              refine (HCV2.out _ HBW3.out).mono ?_
              rintro e w4 ⟨rfl, hb4⟩
              have HB4 := Lib.hid (box_step HB3.out hb4); clear hb4 HBN
              have HBN := Lib.hid (box_step HBI.out (box_below HB4.out))
              go_wp2_with fail
              go_roundw
              case rel => exact ⟨k + 1, false, by omega, rfl, by go_num, HNX, HBN⟩
              case measure => simp [intOf]; omega

theorem spec_LeastCover (w : World) (cs0 : List Value) (a0 : List Bx) (h0 : kBoxS.rd w.heap.size w cs0 a0) (_ht : kBoxS.wt a0 ≤ 1048576) :
    Calls Try.prog 25 #[one cs0] w (Made kIntS (fun cs => .tuple #[one cs, .bool (R_LeastCover a0).2]) (R_LeastCover a0).1 w) :=
  (lc_spec w cs0 a0 h0).mono fun _ _ h => made_ints (lc_wf a0) h

end Go.Proofs.Ythlajmncpejhmaa
