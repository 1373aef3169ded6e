/- Fields read out of bytes: the program's walks of all. -/
import Derived.Test.YtlmgckijbamgpaaFrJ
import Derived.Test.YtlmgckijbamgpaaFrK
import Derived.Laws.OwnMore
namespace Go.Proofs.Ytlmgckijbamgpaa
set_option linter.unusedVariables false
set_option linter.unusedSimpArgs false
open Go.ChangeShapes Go.WideShapes Go.ChangeAt Go.RowKit
set_option maxRecDepth 100000

def pvs (l : List (Fld × Int)) : List Value := (l.map fun p => [Value.int .i64 p.1.no, .int .i64 p.1.kind, .int .i64 p.1.num, .string p.1.data, .int .i64 p.2]).flatten
theorem pvs_put (l : List (Fld × Int)) (p : Fld × Int) : pvs (l ++ [p]) = pvs l ++ [.int .i64 p.1.no, .int .i64 p.1.kind, .int .i64 p.1.num, .string p.1.data, .int .i64 p.2] := by simp [pvs]
theorem pvs_len : ∀ (l : List (Fld × Int)), (pvs l).length = l.length * 5
  | [] => rfl
  | p :: r => by
    show ([_, _, _, _, _] ++ pvs r).length = _
    rw [List.length_append, pvs_len r, List.length_cons]; simp; omega
theorem pvs_at : ∀ (l : List (Fld × Int)) (i : Nat) (p : Fld × Int), l[i]? = some p → (pvs l)[i * 5]? = some (.int .i64 p.1.no) ∧ (pvs l)[i * 5 + 1]? = some (.int .i64 p.1.kind) ∧ (pvs l)[i * 5 + 2]? = some (.int .i64 p.1.num) ∧ (pvs l)[i * 5 + 3]? = some (.string p.1.data) ∧ (pvs l)[i * 5 + 4]? = some (.int .i64 p.2)
  | [], i, p, h => by simp at h
  | x :: r, 0, p, h => by simp at h; subst h; exact ⟨rfl, rfl, rfl, rfl, rfl⟩
  | x :: r, i + 1, p, h => by
    have := pvs_at r i p (by simpa using h)
    show ([_, _, _, _, _] ++ pvs r)[_]? = _ ∧ ([_, _, _, _, _] ++ pvs r)[_]? = _ ∧ ([_, _, _, _, _] ++ pvs r)[_]? = _ ∧ ([_, _, _, _, _] ++ pvs r)[_]? = _ ∧ ([_, _, _, _, _] ++ pvs r)[_]? = _
    have key : ∀ j, ([Value.int .i64 x.1.no, .int .i64 x.1.kind, .int .i64 x.1.num, .string x.1.data, .int .i64 x.2] ++ pvs r)[(i + 1) * 5 + j]? = (pvs r)[i * 5 + j]? := by
      intro j
      rw [List.getElem?_append_right (by simp; omega)]
      congr 1; simp; omega
    exact ⟨(key 0).trans this.1, (key 1).trans this.2.1, (key 2).trans this.2.2.1, (key 3).trans this.2.2.2.1, (key 4).trans this.2.2.2.2⟩
/-- what is read, with the places -/
def PlO (R : Option (List Fld)) (w : World) (e : Ending) (w' : World) : Prop :=
  ∃ v l, e = .returned (.tuple #[v, .bool R.isSome]) ∧ w'.ownsRow w.heap.size 119 5 v l.length (pvs l) ∧ Below w.heap.size w w' ∧ l.length ≤ 40 ∧ (∀ r, R = some r → r = l.map (·.1))
set_option maxHeartbeats 2000000 in
theorem impl_readPlaced (s : ByteArray) (w : World) (hs : s.size ≤ 1048576) : Calls Try.prog 88 #[.string s] w (PlO (R_Read s) w) := by
  obtain ⟨i0, hi0, hz0, hz1, hz2'⟩ := info_parts Try.infoPl
  unfold R_Read
  by_cases h4 : 400 < s.size
  · rw [if_pos h4]
    have h4i : (s.size : Int) > 400 := by omega
    go_enter Try.func88, Try.ntmps88
    go_wp2_with fail
    go_ret2
    exact ⟨_, [], rfl, World.ownsRow_nil _ _ _ _, Below.refl _ _, by simp, fun r h => by cases h⟩
  rw [if_neg h4]
  have h4i : ¬ (s.size : Int) > 400 := by omega
  have h4' : s.size ≤ 400 := by omega
  generalize hRR : rdL s s.size 0 0 = R
  have HP0 : Hid (R = preL [] (rdL s s.size 0 0)) := Lib.hid (by rw [preL_nil, hRR])
  clear hRR h4
  have HO0 := Lib.hid (World.ownsRow_lit (base := w.heap.size) (e := 119) (size := 5) w #[] 0 (Nat.le_refl _) (by decide) rfl)
  have HB0 := Lib.hid ((Below.refl w.heap.size w).alloc (Nat.le_refl _) (.cells #[] 119))
  go_enter Try.func88, Try.ntmps88
  go_wp2_with fail
  generalize w.alloc (.cells #[] 119) = w0 at *
  go_loopw [4, 5] (fun ov av wr => ∃ (f a : Nat) (out : List (Fld × Int)) (v : Value), ov = v ∧ av = .int .i64 (a : Int) ∧ a ≤ s.size ∧ s.size - a ≤ f ∧ out.length ≤ 40 ∧ Hid (R = preL (out.map (·.1)) (rdL s f a out.length)) ∧ Hid (wr.ownsRow w.heap.size 119 5 v out.length (pvs out)) ∧ Hid (Below w.heap.size w wr)) (fun _ av _ => s.size - (intOf av).toNat)
  case atStart => exact ⟨s.size, 0, [], _, rfl, rfl, by omega, by omega, by simp, HP0, HO0, HB0⟩
  case round =>
    clear HP0 HO0 HB0
    obtain ⟨w1, rfl⟩ : ∃ z : World, z = wr := ⟨_, rfl⟩
    obtain ⟨f, a, out, v, rfl, rfl, ha, hfz, hol, HP, HO, HB⟩ := hrel
    obtain ⟨va, vc, rfl⟩ := form_of_own HO.out
    by_cases hlt : a < s.size
    case neg =>
      have HYES : Hid (R = some (out.map (·.1))) := Lib.hid (by rw [HP.out, rdL_end (by omega)]; simp [preL])
      have hlti : ¬ (a : Int) < (s.size : Int) := by omega
      go_wp2_with fail
      go_ret2
      exact ⟨_, out, by rw [HYES.out]; rfl, HO.out, HB.out, hol, fun r h => by rw [HYES.out] at h; simpa using h.symm⟩
    have HTF := Lib.hid (impl_takeField s a w1 h4' (by omega))
    unfold FieldO at HTF
    cases hfa : fldAt s a with
    | none =>
      have HNO : Hid (R = none) := Lib.hid (by rw [HP.out, rdL_no hlt hfa hfz]; rfl)
      rw [hfa] at HTF
      clear hfa
      go_wp2_with fail
      refine HTF.out.mono ?_
      rintro e w2 ⟨v0, v1, v2, dt, at1, en, rfl, hb, _⟩
      have HBN := Lib.hid ((HB.out.trans (hb.mono HB.out.size)).alloc (Nat.le_trans HB.out.size hb.size) (.cells #[.int .i64 v0, .int .i64 v1, .int .i64 v2, .string dt, .int .i64 at1] 119))
      clear hb
      go_wp2_with fail
      go_ret2
      exact ⟨_, [], by rw [HNO.out]; rfl, World.ownsRow_nil _ _ _ _, HBN.out, by simp, fun r h => by rw [HNO.out] at h; cases h⟩
    | some p =>
      obtain ⟨x, z⟩ := p
      rw [hfa] at HTF
      have hfe := fldAt_end hfa
      by_cases hc40 : out.length = 40
      · have HNO : Hid (R = none) := Lib.hid (by rw [HP.out, hc40, rdL_full hlt hfz]; rfl)
        have hci : ((out.length : Int) == 40) = true := by rw [hc40]; rfl
        clear hc40 hfa hfe
        go_wp2_with fail
        refine HTF.out.mono ?_
        rintro e w2 ⟨v0, v1, v2, dt, at1, en, rfl, hb, _⟩
        have HBN := Lib.hid ((HB.out.trans (hb.mono HB.out.size)).alloc (Nat.le_trans HB.out.size hb.size) (.cells #[.int .i64 v0, .int .i64 v1, .int .i64 v2, .string dt, .int .i64 at1] 119))
        clear hb
        go_wp2_with fail
        go_ret2
        exact ⟨_, [], by rw [HNO.out]; rfl, World.ownsRow_nil _ _ _ _, HBN.out, by simp, fun r h => by rw [HNO.out] at h; cases h⟩
      have hci : ((out.length : Int) == 40) = false := beq_eq_false_iff_ne.2 (by omega)
      have HPN := Lib.hid (HP.out.trans (rdL_next (out := out.map (·.1)) hlt hfa hc40 hfz))
      have hol2 : out.length < 40 := by omega
      have hlt2 : a < z := hfe.1
      have hle2 : z ≤ s.size := hfe.2.1
      clear hfa hfe hc40
      obtain ⟨xn, xk, xm, xd⟩ := x
      go_wp2_with fail
      refine HTF.out.mono ?_
      rintro e w2 ⟨v0, v1, v2, dt, at1, en, rfl, hb, hh⟩
      obtain ⟨rfl, rfl, rfl, rfl, rfl⟩ := hh _ _ rfl
      simp only
      have HB2 := Lib.hid (HB.out.trans (hb.mono HB.out.size))
      have HO2 := Lib.hid (own_later HO.out hb)
      clear hb hh HTF
      have hz2 := HB2.out.size
      have HA3 := Lib.hid (heap_alloc_new w2 (.cells #[.int .i64 v0, .int .i64 v1, .int .i64 v2, .string dt, .int .i64 at1] 119))
      have HB3 := Lib.hid (HB2.out.alloc hz2 (.cells #[.int .i64 v0, .int .i64 v1, .int .i64 v2, .string dt, .int .i64 at1] 119))
      have HO3 := Lib.hid (HO2.out.alloc (.cells #[.int .i64 v0, .int .i64 v1, .int .i64 v2, .string dt, .int .i64 at1] 119))
      generalize hw3 : w2.alloc (.cells #[.int .i64 v0, .int .i64 v1, .int .i64 v2, .string dt, .int .i64 at1] 119) = w3 at *
      have hz3 := HB3.out.size
      obtain ⟨⟨y0, y1, y2, y3, y4⟩, -⟩ := b5 HA3.out
      have HNW := Lib.hid (World.news_of_block (cs := #[.int .i64 v0, .int .i64 v1, .int .i64 v2, .string dt, .int .i64 at1]) (t := 119) (fr := (0, 0)) (heap_alloc_new w3 (.cells #[.int .i64 v0, .int .i64 v1, .int .i64 v2, .string dt, .int .i64 at1] 119)))
      go_wp2_with (at_builtin; refine wpList_append_own _ rfl _ _ 115 rfl w.heap.size 119 i0 (.agg #[.int .i64 0, .int .i64 0, .int .i64 0, .string ByteArray.empty, .int .i64 0]) 5 48 Try.underlying115 hi0 hz0 hz1 hz2' rfl (by decide) _ out.length _ rfl (HO3.out.alloc _) _ 1 1 [.int .i64 v0, .int .i64 v1, .int .i64 v2, .string dt, .int .i64 at1] rfl rfl HNW.out (by simp [Value.oneCell']) (by unfold maxLen; omega) (by omega) (Nat.le_trans hz3 (by simp)) ?_)
      intro v9 w9 hown hgrow _
      have HO9 : Hid (w9.ownsRow w.heap.size 119 5 v9 (out ++ [(Fld.mk v0 v1 v2 dt, at1)]).length (pvs (out ++ [(Fld.mk v0 v1 v2 dt, at1)]))) := Lib.hid (by rw [pvs_put, List.length_append]; exact hown)
      have HB9 := Lib.hid (Below.grown (HB3.out.alloc hz3 (.cells #[.int .i64 v0, .int .i64 v1, .int .i64 v2, .string dt, .int .i64 at1] 119)) hgrow (Nat.le_trans hz3 (by simp)) (fun q hq => (HO3.out.lt q hq).1))
      clear hown hgrow HNW y0 y1 y2 y3 y4
      go_wp2_with fail
      go_roundw
      case rel => exact ⟨f - 1, z, out ++ [(Fld.mk v0 v1 v2 dt, at1)], _, rfl, rfl, by omega, by omega, by rw [List.length_append]; simp; omega, Lib.hid (by rw [HPN.out, List.map_append, List.length_append]; rfl), HO9, HB9⟩
      case measure => (simp [intOf]; try omega)
end Go.Proofs.Ytlmgckijbamgpaa
