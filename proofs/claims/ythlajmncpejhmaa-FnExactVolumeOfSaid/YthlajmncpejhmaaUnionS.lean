/- The contracts of the reference's UnionHas. -/
import Derived.Test.YthlajmncpejhmaaUnion
namespace Go.Proofs.Ythlajmncpejhmaa
set_option linter.unusedVariables false
open Go.ChangeShapes Go.WideShapes Go.ChangeAt Go.RowKit
set_option maxRecDepth 100000

set_option maxHeartbeats 2000000 in
theorem spec_boxes {cs : List Value} {l : List Bx} {w : World} (h : kBoxS.rd w.heap.size w cs l) : Calls Try.prog 49 #[one cs] w fun e w' => e = .returned (.bool (boxesR l)) ∧ Below w.heap.size w w' := by
  obtain ⟨a, cap, rfl⟩ := kSl_form h
  have hn := (sl_len h).2
  have H := Lib.hid h
  clear h
  show Calls Try.prog 49 #[.slice a l.length cap] w _
  have HNO : Hid (l.all GoodR = false → boxesR l = false) := Lib.hid fun h => by unfold boxesR; rw [h, Bool.and_false]
  have HYES : Hid (l.all GoodR = true → boxesR l = decide (l.length ≤ 20)) := Lib.hid fun h => by unfold boxesR; rw [h, Bool.and_true]
  go_enter Try.func49, Try.ntmps49
  go_wp2_with fail
  go_loopw [7] (fun i wr => ∃ k : Nat, k ≤ l.length ∧ i = .int .i64 k ∧ Hid ((l.take k).all GoodR = true) ∧ Hid (Below w.heap.size w wr)) (fun i _ => l.length - (intOf i).toNat)
  case atStart => exact ⟨0, Nat.zero_le _, rfl, rfl, Below.refl _ _⟩
  case round =>
    obtain ⟨k, hk, rfl, HA, HB⟩ := hrel
    by_cases hlk : k < l.length
    case neg =>
      obtain rfl : k = l.length := by omega
      have hall := HA.out
      rw [List.take_length] at hall
      have HY := Lib.hid (HYES.out hall)
      clear hall
      by_cases h20 : l.length ≤ 20
      · go_wp2_with fail
        go_ret
        exact ⟨ret_bool (by rw [HY.out]; simp; omega), HB.out⟩
      · go_wp2_with fail
        go_ret
        exact ⟨ret_bool (by rw [HY.out]; simp; omega), HB.out⟩
    obtain ⟨x, hx⟩ : ∃ x, l[k]? = some x := ⟨l[k], List.getElem?_eq_getElem hlk⟩
    obtain ⟨u, b, off, hu, rfl, hbl, hc⟩ := sl_one kBox_ok rfl H.out hx
    obtain ⟨ea, ecap, hu2, hrow, hnx, _⟩ := box_form (kBox_ok.later hu HB.out)
    simp only [List.cons.injEq, and_true] at hu2
    subst hu2
    have c0 : wr.cell? ⟨b, off + k, none⟩ = some (.slice ea x.length ecap) := below_cellk HB.out hc hbl
    have HC := Lib.hid (fun o => spec_goodBox ea ecap x (wr.alloc o) (hrow.alloc o) hnx)
    have HX := Lib.hid hx
    clear hc hx hu hrow
    cases hg : GoodR x with
    | false =>
      rw [hg] at HC
      have HN := Lib.hid (HNO.out (all_no HX.out hg))
      clear hg
      go_wp2_with fail
      refine (HC.out _).mono ?_
      rintro e w1 ⟨rfl, hb⟩
      have HB1 := Lib.hid (HB.out.trans (((Below.refl _ _).alloc (Nat.le_refl _) _ : Below wr.heap.size wr (wr.alloc _)).trans (hb.mono (by simp)) |>.mono HB.out.size)); clear hb
      go_wp2_with fail
      go_ret
      exact ⟨ret_bool HN.out.symm, HB1.out⟩
    | true =>
      rw [hg] at HC
      have HA2 := Lib.hid (all_go HX.out HA.out hg)
      clear hg
      go_wp2_with fail
      refine (HC.out _).mono ?_
      rintro e w1 ⟨rfl, hb⟩
      have HB1 := Lib.hid (HB.out.trans (((Below.refl _ _).alloc (Nat.le_refl _) _ : Below wr.heap.size wr (wr.alloc _)).trans (hb.mono (by simp)) |>.mono HB.out.size)); clear hb
      go_wp2_with fail
      go_roundw
      case rel => exact ⟨k + 1, by omega, by go_num, HA2, HB1⟩
      case measure => simp [intOf]; omega

set_option maxHeartbeats 2000000 in
theorem spec_point {cs : List Value} {l : List Int} {w : World} (h : kIntS.rd w.heap.size w cs l) : Calls Try.prog 50 #[one cs] w fun e w' => e = .returned (.bool (pointR l)) ∧ w = w' := by
  obtain ⟨a, cap, rfl⟩ := kSl_form h
  have hn := (sl_len h).2
  have H := Lib.hid h
  clear h
  show Calls Try.prog 50 #[.slice a l.length cap] w _
  have HNO : Hid (l.all ptB = false → pointR l = false) := Lib.hid fun h => by unfold pointR; rw [h, Bool.and_false]
  have HYES : Hid (l.all ptB = true → pointR l = decide (l.length = 3)) := Lib.hid fun h => by unfold pointR; rw [h, Bool.and_true]
  go_enter Try.func50, Try.ntmps50
  go_wp2_with fail
  go_loop [7] (fun i => ∃ k : Nat, k ≤ l.length ∧ i = .int .i64 k ∧ Hid ((l.take k).all ptB = true)) (fun i => l.length - (intOf i).toNat)
  case atStart => exact ⟨0, Nat.zero_le _, rfl, rfl⟩
  case round =>
    obtain ⟨k, hk, rfl, HA⟩ := hrel
    by_cases hlk : k < l.length
    case neg =>
      obtain rfl : k = l.length := by omega
      have hall := HA.out
      rw [List.take_length] at hall
      have HY := Lib.hid (HYES.out hall)
      clear hall
      by_cases h3 : l.length = 3
      · have hd : ((l.length : Int) == 3) = true := by simp; omega
        have HY2 : Hid (pointR l = true) := Lib.hid (by rw [HY.out]; simp [h3])
        clear h3
        go_wp2_with fail
        go_ret
        exact ⟨ret_bool HY2.out.symm, rfl⟩
      · have hd : ((l.length : Int) == 3) = false := by simp; omega
        have HY2 : Hid (pointR l = false) := Lib.hid (by rw [HY.out]; simp [h3])
        clear h3
        go_wp2_with fail
        go_ret
        exact ⟨ret_bool HY2.out.symm, rfl⟩
    obtain ⟨x, hx⟩ : ∃ x, l[k]? = some x := ⟨l[k], List.getElem?_eq_getElem hlk⟩
    obtain ⟨u, b, off, hu, rfl, hbl, hc⟩ := sl_one kInt_ok rfl H.out hx
    obtain ⟨hu, _⟩ := hu
    simp only [List.cons.injEq, and_true] at hu
    subst hu
    have HI := Lib.hid (fun wx => l1In_any x (-1000) 1000 wx)
    have HX := Lib.hid hx
    clear hx
    cases hg : ptB x with
    | false =>
      have HN := Lib.hid (HNO.out (all_no HX.out hg))
      rw [show inB x (-1000) 1000 = false from hg] at HI
      clear hg
      go_wp2_with fail
      refine (HI.out _).mono ?_
      rintro e w' ⟨rfl, rfl⟩
      go_wp2_with fail
      go_ret
      exact ⟨ret_bool HN.out.symm, rfl⟩
    | true =>
      have HA2 := Lib.hid (all_go HX.out HA.out hg)
      rw [show inB x (-1000) 1000 = true from hg] at HI
      clear hg
      go_wp2_with fail
      refine (HI.out _).mono ?_
      rintro e w' ⟨rfl, rfl⟩
      go_wp2_with fail
      go_round
      case rel => exact ⟨k + 1, by omega, by go_num, HA2⟩
      case measure => simp [intOf]; omega

theorem any_yes {α : Type} {p : α → Bool} {l : List α} {k : Nat} {x : α} (h : l[k]? = some x) (hp : p x = true) : l.any p = true := List.any_eq_true.2 ⟨x, List.mem_of_getElem? h, hp⟩
theorem any_go {α : Type} {p : α → Bool} {l : List α} {k : Nat} {x : α} (h : l[k]? = some x) (ha : (l.take k).any p = false) (hp : p x = false) : (l.take (k + 1)).any p = false := by
  rw [take_next l k x h, List.any_append, ha]; simp [hp]

set_option maxHeartbeats 2000000 in
theorem spec_UnionHas (w : World) (cs0 cs1 : List Value) (a0 : List Bx) (a1 : List Int) (h0 : kBoxS.rd w.heap.size w cs0 a0) (h1 : kIntS.rd w.heap.size w cs1 a1) (_ht : kBoxS.wt a0 + kIntS.wt a1 ≤ 2097152) :
    Calls Try.prog 19 #[one cs0, one cs1] w fun e w' => e = .returned (.tuple #[.bool (R_UnionHas a0 a1).1, .bool (R_UnionHas a0 a1).2]) ∧ Below w.heap.size w w' := by
  obtain ⟨a, cap, rfl⟩ := kSl_form h0
  obtain ⟨a', cap', rfl⟩ := kSl_form h1
  show Calls Try.prog 19 #[.slice a a0.length cap, .slice a' a1.length cap'] w _
  have hn := (sl_len h0).2; have hn' := (sl_len h1).2
  have H0 := Lib.hid h0; have H1 := Lib.hid h1
  have HC0 := Lib.hid (spec_boxes h0)
  have HC1 := Lib.hid (fun wx (hb : Below w.heap.size w wx) => spec_point (w := wx) (kIntS_ok.later H1.out hb))
  clear h0 h1
  cases g0 : boxesR a0 with
  | false =>
    have hR : R_UnionHas a0 a1 = (false, false) := by unfold R_UnionHas; rw [if_neg (by rw [g0]; simp)]
    rw [hR]; rw [g0] at HC0
    clear hR g0
    go_enter Try.func19, Try.ntmps19
    go_wp2_with fail
    refine HC0.out.mono ?_
    rintro e w1 ⟨rfl, hb⟩
    have HB := Lib.hid hb; clear hb
    go_wp2_with fail
    go_ret2
    exact ⟨rfl, HB.out⟩
  | true =>
    rw [g0] at HC0
    cases g1 : pointR a1 with
    | false =>
      have hR : R_UnionHas a0 a1 = (false, false) := by unfold R_UnionHas; rw [if_neg (by rw [g1]; simp)]
      rw [hR]; rw [g1] at HC1
      clear hR g0 g1
      go_enter Try.func19, Try.ntmps19
      go_wp2_with fail
      refine HC0.out.mono ?_
      rintro e w1 ⟨rfl, hb⟩
      have HB := Lib.hid hb; clear hb
      go_wp2_with fail
      refine (HC1.out _ HB.out).mono ?_
      rintro e w' ⟨rfl, rfl⟩
      go_wp2_with fail
      go_ret2
      exact ⟨rfl, HB.out⟩
    | true =>
      have hR : R_UnionHas a0 a1 = (a0.any (hasR · a1), true) := by unfold R_UnionHas; rw [if_pos ⟨g0, g1⟩]
      rw [hR]; rw [g1] at HC1
      have HLN := Lib.hid (boxes_len g0 g1)
      have HNO : Hid ((a0.take a0.length).any (hasR · a1) = false → a0.any (hasR · a1) = false) := Lib.hid fun h => by rw [List.take_length] at h; exact h
      clear hR g0 g1
      generalize hres : a0.any (hasR · a1) = r at HNO ⊢
      have HRES := Lib.hid hres
      clear hres
      go_enter Try.func19, Try.ntmps19
      go_wp2_with fail
      refine HC0.out.mono ?_
      rintro e w1 ⟨rfl, hb⟩
      have HB0 := Lib.hid hb; clear hb
      go_wp2_with fail
      refine (HC1.out _ HB0.out).mono ?_
      rintro e w' ⟨rfl, rfl⟩
      go_wp2_with fail
      go_loopw [18] (fun i wr => ∃ k : Nat, k ≤ a0.length ∧ i = .int .i64 k ∧ Hid ((a0.take k).any (hasR · a1) = false) ∧ Hid (Below w.heap.size w wr)) (fun i _ => a0.length - (intOf i).toNat)
      case atStart => exact ⟨0, Nat.zero_le _, rfl, rfl, HB0⟩
      case round =>
        obtain ⟨k, hk, rfl, HA, HB⟩ := hrel
        by_cases hlk : k < a0.length
        case neg =>
          obtain rfl : k = a0.length := by omega
          have hr := HNO.out HA.out
          subst hr
          go_wp2_with fail
          go_ret2
          exact ⟨rfl, HB.out⟩
        obtain ⟨x, hx⟩ : ∃ x, a0[k]? = some x := ⟨a0[k], List.getElem?_eq_getElem hlk⟩
        obtain ⟨u, b, off, hu, rfl, hbl, hc⟩ := sl_one kBox_ok rfl H0.out hx
        obtain ⟨ea, ecap, hu2⟩ := kSl_form hu
        simp only [List.cons.injEq, and_true] at hu2
        subst hu2
        have c0 : wr.cell? ⟨b, off + k, none⟩ = some (.slice ea x.length ecap) := below_cellk HB.out hc hbl
        have hbo : ∀ o, Below wr.heap.size wr (wr.alloc o) := fun o => (Below.refl _ _).alloc (Nat.le_refl _) o
        have HC := Lib.hid (fun o => spec_has (w := wr.alloc o) (kBox_ok.later hu (HB.out.trans ((hbo o).mono HB.out.size))) (kIntS_ok.later H1.out (HB.out.trans ((hbo o).mono HB.out.size))) (HLN.out x (List.mem_of_getElem? hx)))
        have HBO := Lib.hid (fun o => HB.out.trans ((hbo o).mono HB.out.size))
        have HX := Lib.hid hx
        clear hc hx hu hbo
        cases hg : hasR x a1 with
        | true =>
          rw [hg] at HC
          have hr : r = true := by rw [← HRES.out]; exact any_yes HX.out hg
          subst hr
          clear hg
          go_wp2_with fail
          refine (HC.out _).mono ?_
          rintro e w3 ⟨rfl, hb⟩
          have HB1 := Lib.hid ((HBO.out _).trans (hb.mono (HBO.out _).size)); clear hb
          go_wp2_with fail
          go_ret2
          exact ⟨rfl, HB1.out⟩
        | false =>
          rw [hg] at HC
          have HA2 := Lib.hid (any_go HX.out HA.out hg)
          clear hg
          go_wp2_with fail
          refine (HC.out _).mono ?_
          rintro e w3 ⟨rfl, hb⟩
          have HB1 := Lib.hid ((HBO.out _).trans (hb.mono (HBO.out _).size)); clear hb
          go_wp2_with fail
          go_roundw
          case rel => exact ⟨k + 1, by omega, by go_num, HA2, HB1⟩
          case measure => simp [intOf]; omega

end Go.Proofs.Ythlajmncpejhmaa
