/- The contracts of ClassesOf, the program's and the reference's. -/
import Derived.Test.YtedjahinlpehgaaCls4
import Derived.Test.YtedjahinlpehgaaShelf
namespace Go.Proofs.Ytedjahinlpehgaa
set_option linter.unusedVariables false
open Go.ChangeShapes Go.WideShapes Go.ChangeAt Go.RowKit
set_option maxRecDepth 100000

theorem idxOf_at1 {l : List Int} {x : Int} (hx : x ∈ l) : Lib.idxOf l x = at1 l x := by
  obtain ⟨i, i1, i2, i3⟩ := at1_ex hx
  have hi := (List.getElem?_eq_some_iff.1 i1).1
  rw [i3]
  unfold Lib.idxOf
  rw [Lib.idxFrom_hit x l i 0 hi (by rw [List.getD, i1]; rfl) (fun j hj he => i2 j hj (by rw [List.getD, List.getElem?_eq_getElem (by omega)] at he; rw [List.getElem?_eq_getElem (by omega)]; exact congrArg some he)), Nat.zero_add]
theorem made_ints (n : Nat) (L : List Int) (h : L.length = n) : (madeCells (Value.int .i64 0).cells (n * 1)).toList = fill (ints L) (.int .i64 0) 0 := by
  rw [fill_zero, ints_length, h, Nat.mul_one]
  apply List.ext_getElem
  · simp [madeCells]
  · intro i h1 h2
    simp [madeCells, Value.cells, Nat.mod_one]
set_option maxHeartbeats 4000000 in
theorem impl_clsOf (w : World) (cs0 : List Value) (a0 : Mach) (h0 : kMachine.rd w.heap.size w cs0 a0) (ht : kMachine.wt a0 ≤ 1048576) :
    Calls Try.prog 27 #[.agg cs0.toArray] w (ClsOf (R_ClassesOf a0) w) := by
  obtain ⟨i0, hi, hz0, hz1, hz2⟩ := info_parts Try.infoHIntS
  obtain ⟨ea, ecap, eb, ecap', rfl, hn, he⟩ := Machine_rd h0
  have HG := Lib.hid (fun wx (hb : Below w.heap.size w wx) => impl_GoodMachine wx _ a0 (kMachine_ok.later h0 hb) ht)
  have HN := Lib.hid hn
  have HE := Lib.hid he
  have hl1 := (sl_len hn).2; have hl2 := (sl_len he).2
  have HB0 := Lib.hid (box_start w (.cells #[.slice ea a0.1.length ecap, .slice eb a0.2.length ecap'] 28))
  clear hn he h0
  unfold ClsOf
  cases g0 : R_GoodMachine a0 with
  | false =>
    rw [R_Cls_no g0]; rw [g0] at HG
    clear g0
    go_enter Try.func27, Try.ntmps27
    go_wp2_with fail
    refine (HG.out _ ((Below.refl _ _).alloc (Nat.le_refl _) _)).mono ?_
    rintro e w1 ⟨rfl, hb⟩
    have HB1 := Lib.hid (box_step HB0.out hb); clear hb
    go_wp2_with fail
    go_ret3
    exact ⟨_, rfl, World.ownsRow_nil _ _ _ _, box_below HB1.out⟩
  | true =>
    rw [R_Cls_yes g0]
    have hM := good_of g0
    have hn1 := hM.n1; have hn12 := hM.n12
    have HC := Lib.hid (fun wx (hb : Below w.heap.size w wx) (hB : w.heap.size < wx.heap.size) (k0 : wx.cell? ⟨w.heap.size, 0, none⟩ = some (.slice ea a0.1.length ecap)) (k1 : wx.cell? ⟨w.heap.size, 1, none⟩ = some (.slice eb a0.2.length ecap')) => impl_classes ea eb ecap ecap' w.heap.size a0 wx (((MC.of HN.out HE.out hM).below hb).mono hb.size) hM hB k0 k1 hl1 hl2)
    have HLN : Hid ((nw a0 (rnd a0)).length = a0.1.length) := Lib.hid (nw_length hM _)
    have HCL : Hid (fstL (nw a0 (rnd a0)) = clsR a0) := Lib.hid (cl_nw hM _)
    have HCN : Hid ((clsR a0).length = a0.1.length) := Lib.hid (cl_length hM _)
    rw [HCN.out]
    rw [g0] at HG
    clear g0 hM
    generalize nw a0 (rnd a0) = L at *
    generalize a0.1.length = n at *
    go_enter Try.func27, Try.ntmps27
    go_wp2_with fail
    refine (HG.out _ ((Below.refl _ _).alloc (Nat.le_refl _) _)).mono ?_
    rintro e w1 ⟨rfl, hb⟩
    have HB1 := Lib.hid (box_step HB0.out hb); clear hb
    have ma : w1.cell? ⟨w.heap.size, 0, none⟩ = some (.slice ea n ecap) := box_cell HB1.out 0
    have mb : w1.cell? ⟨w.heap.size, 1, none⟩ = some (.slice eb a0.2.length ecap') := box_cell HB1.out 1
    go_wp2_with fail
    refine (HC.out _ (box_below HB1.out) (box_lt HB1.out) ma mb).mono ?_
    rintro e w2 ⟨v, rfl, ho, hb⟩
    have HB2 := Lib.hid ((box_below HB1.out).trans (hb.mono (box_below HB1.out).size)); have HO := Lib.hid (own_mono ho (box_below HB1.out).size); clear hb ho ma mb
    rw [HLN.out] at HO
    obtain ⟨g, cp, rfl, hg1, hg2⟩ := HO.out.form (by omega)
    have HLI : Hid (∀ wx, Below w2.heap.size w2 wx → ∀ j, j < L.length → wx.cell? ⟨g, 0 + j, none⟩ = some (.int .i64 (L.getD j 0))) := Lib.hid (fun wx hb j hj => by
      have h := (own_later HO.out hb).cellAt j (by have := HLN.out; omega)
      rw [Nat.zero_add, h, ints_at _ _ hj])
    have hgl : g < w2.heap.size := (HO.out.lt g rfl).2
    go_wp2_with (at_make; refine wpList_make_full _ rfl _ _ _ rfl w2.heap.size 3 i0 (.int .i64 0) 1 Try.underlying42 hi hz0 hz1 .i64 .i64 _ _ n rfl rfl rfl rfl (by rw [hz2]; omega) (by unfold maxLen; omega) (Nat.le_refl _) ?_; intro w3 hown hgrow
                 have HR := Lib.hid (made_ints n (clsR a0) HCN.out ▸ hown)
                 have HB3 := Lib.hid (Below.grown (Below.refl w2.heap.size w2) hgrow (Nat.le_refl _) (fun j hj => by cases hj))
                 clear hown hgrow)
    go_loopw [22] (fun iv wr => ∃ (k : Nat), k ≤ n ∧ iv = .int .i64 (k : Int) ∧ Hid (wr.ownsRow w2.heap.size 3 1 (.slice (some ⟨w2.heap.size, 0, none⟩) n n) n (fill (ints (clsR a0)) (.int .i64 0) k)) ∧ Hid (Below w2.heap.size w2 wr)) (fun iv _ => n - (intOf iv).toNat)
    case atStart => exact ⟨0, by omega, rfl, HR, HB3⟩
    case round =>
      clear HR HB3
      obtain ⟨wo, rfl⟩ : ∃ z : World, z = wr := ⟨_, rfl⟩
      obtain ⟨k, hk, rfl, HR, HB⟩ := hrel
      by_cases hkn : k < n
      case neg =>
        obtain rfl : k = n := by omega
        have HO2 : Hid (wo.ownsRow w2.heap.size 3 1 (.slice (some ⟨w2.heap.size, 0, none⟩) k k) k (ints (clsR a0))) := Lib.hid (by
          have h := HR.out
          have e : fill (ints (clsR a0)) (.int .i64 0) k = ints (clsR a0) := by have := fill_full (ints (clsR a0)) (.int .i64 0); rw [ints_length, HCN.out] at this; exact this
          rwa [e] at h)
        have HBW := Lib.hid (HB2.out.trans (HB.out.mono HB2.out.size))
        go_wp2_with fail
        go_ret3
        exact ⟨_, rfl, own_mono HO2.out HB2.out.size, HBW.out⟩
      have hkL : k < L.length := by have := HLN.out; omega
      have hx : L[k]? = some (L.getD k 0) := by simp [List.getD, hkL]
      have HIX := Lib.hid (fun wx (hb : Below w2.heap.size w2 wx) => Try.slices_Index_int g 0 n cp L (L.getD k 0) wx (by have := HLN.out; omega) (by omega) (HLI.out wx hb))
      have hcx : wo.cell? ⟨g, k, none⟩ = some (.int .i64 (L.getD k 0)) := by have := HLI.out wo HB.out k hkL; rwa [Nat.zero_add] at this
      have hcl : (clsR a0)[k]? = some (at1 L (L.getD k 0)) := by rw [← HCL.out]; exact fstL_at hx
      have HTK : Hid (L.take n = L) := Lib.hid (by rw [← HLN.out, List.take_length])
      rw [HTK.out] at HIX
      rw [idxOf_at1 (List.mem_of_getElem? hx)] at HIX
      have HSE : Hid ((fill (ints (clsR a0)) (.int .i64 0) k).set k (.int .i64 (at1 L (L.getD k 0))) = fill (ints (clsR a0)) (.int .i64 0) (k + 1)) := Lib.hid (fill_set _ _ _ _ (by simp only [ints, List.getElem?_map, hcl, Option.map_some]))
      have kc : wo.cell? ⟨w2.heap.size, k, none⟩ = some (.int .i64 0) := by
        rw [HR.out.cellAt k (by omega)]; exact fill_at2 _ _ _ (by rw [ints_length, HCN.out]; exact hkn)
      have kf : wo.frozen? ⟨w2.heap.size, k, none⟩ = false := HR.out.frozenAt k
      clear hx hcl
      generalize L.getD k 0 = x at *
      generalize at1 L x = y at *
      have HNX := Lib.hid (HR.out.stored k (.int .i64 y))
      go_wp2_with fail
      refine (HIX.out wo HB.out).mono ?_
      rintro e w' ⟨rfl, hw⟩
      subst hw
      go_wp2_with fail
      go_roundw
      case rel => exact ⟨k + 1, by omega, by go_num, Lib.hid (by have h := HNX.out.1; rwa [HSE.out] at h), Lib.hid (HB.out.setCell (p := ⟨w2.heap.size, k, none⟩) (Nat.le_refl _) _)⟩
      case measure => (simp [intOf]; try omega)
theorem ints_cnt2 (xs : List Int) : kIntS.cnt xs = xs.length := by
  show sumL kInt.cnt xs = _
  induction xs with
  | nil => rfl
  | cons x r ih => rw [sumL, ih, List.length_cons]; show 1 + _ = _; omega
theorem clA_mem {l : List Int} {x : Int} (h : x ∈ l) : ∃ i : Nat, i < l.length ∧ clA l (i : Int) = x := by
  obtain ⟨i, hi, rfl⟩ := List.getElem_of_mem h
  exact ⟨i, hi, by unfold clA; simp [List.getD, hi]⟩
theorem cls_wf {m : Mach} : ∀ p ∈ (R_ClassesOf m).1, (Lit.int .i64 p).wf = true := by
  cases g : R_GoodMachine m with
  | false => rw [R_Cls_no g]; simp
  | true =>
    rw [R_Cls_yes g]
    intro p hp
    have hM := good_of g
    replace hp : p ∈ clsR m := hp
    obtain ⟨i, hi, rfl⟩ := clA_mem hp
    have h12 := hM.n12
    have hl : (clsR m).length = m.1.length := cl_length hM _
    rw [hl] at hi
    have h := cl_in hM (rnd m) (k := (i : Int)) (by omega) (by omega)
    exact WalkArith.wf_i64 (by have e : clsR m = cl m (rnd m) := rfl; rw [e]; omega)
theorem R_ClassesOf_ok (m : Mach) (_h : kMachine.wt m ≤ 1048576) : kIntS.cnt (R_ClassesOf m).1 ≤ 16777215 := by
  rw [ints_cnt2]
  cases g : R_GoodMachine m with
  | false => rw [R_Cls_no g]; simp
  | true =>
    rw [R_Cls_yes g]
    have hM := good_of g
    have hl : (clsR m).length = m.1.length := cl_length hM _
    have := hM.n12
    simp; omega
theorem cls_made {R : List Int × Int × Bool} {w w' : World} {e : Ending} (hw : ∀ p ∈ R.1, (Lit.int .i64 p).wf = true) (h : ClsOf R w e w') : Made kIntS (fun cs => .tuple #[one cs, .int .i64 R.2.1, .bool R.2.2]) R.1 w e w' := by
  obtain ⟨v, rfl, ho, hb⟩ := h
  exact ⟨[v], v.ownBlock.toList, rfl, ints_own ho hw, by cases v.ownBlock <;> simp, fun b hm => (ho.lt b (by simpa using hm)).1, hb⟩
theorem spec_ClassesOf (w : World) (cs0 : List Value) (a0 : Mach) (h0 : kMachine.rd w.heap.size w cs0 a0) (ht : kMachine.wt a0 ≤ 1048576) :
    Calls Try.prog 26 #[.agg cs0.toArray] w (Made kIntS (fun cs => .tuple #[one cs, .int .i64 (R_ClassesOf a0).2.1, .bool (R_ClassesOf a0).2.2]) (R_ClassesOf a0).1 w) :=
  (spec_clsOf w cs0 a0 h0 ht).mono fun _ _ h => cls_made cls_wf h
theorem impl_ClassesOf (w : World) (cs0 : List Value) (a0 : Mach) (h0 : kMachine.rd w.heap.size w cs0 a0) (ht : kMachine.wt a0 ≤ 1048576) :
    Calls Try.prog 27 #[.agg cs0.toArray] w (Made kIntS (fun cs => .tuple #[one cs, .int .i64 (R_ClassesOf a0).2.1, .bool (R_ClassesOf a0).2.2]) (R_ClassesOf a0).1 w) :=
  (impl_clsOf w cs0 a0 h0 ht).mono fun _ _ h => cls_made cls_wf h
end Go.Proofs.Ytedjahinlpehgaa
