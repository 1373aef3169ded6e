/- Fields read out of bytes: the reference's walk. -/
import Derived.Test.YtlmgckijbamgpaaFrL
import Derived.Test.YtlmgckijbamgpaaFld5
namespace Go.Proofs.Ytlmgckijbamgpaa
set_option linter.unusedVariables false
set_option linter.unusedSimpArgs false
open Go.ChangeShapes Go.WideShapes Go.ChangeAt Go.RowKit
set_option maxRecDepth 100000

def ReadO (R : Option (List Fld)) (w : World) (e : Ending) (w' : World) : Prop :=
  ∃ v, e = .returned (.tuple #[v, .bool R.isSome]) ∧ w'.ownsRow w.heap.size 57 4 v (R.getD []).length (fdsV (R.getD [])) ∧ Below w.heap.size w w'
theorem fdsV_one (f : Fld) : fdsV [f] = [.int .i64 f.no, .int .i64 f.kind, .int .i64 f.num, .string f.data] := rfl
theorem own_fld {w : World} {base : Nat} {v : Value} {l : List Fld} {f : Fld} (h : w.ownsRow base 57 4 v (l.length + 1) (fdsV l ++ [.int .i64 f.no, .int .i64 f.kind, .int .i64 f.num, .string f.data])) : w.ownsRow base 57 4 v (l ++ [f]).length (fdsV (l ++ [f])) := by
  rw [fdsV_snoc, List.length_append]; exact h
set_option maxHeartbeats 4000000 in
theorem spec_l1Read (s : ByteArray) (w : World) (hs : s.size ≤ 400) : Calls Try.prog 91 #[.string s] w (ReadO (rdL s s.size 0 0) w) := by
  obtain ⟨i0, hi0, hz0, hz1, hz2⟩ := info_parts Try.infoFld
  generalize hRR : rdL s s.size 0 0 = R
  have HP0 : Hid (R = preL [] (rdL s s.size 0 0)) := Lib.hid (by rw [preL_nil, hRR])
  clear hRR
  unfold ReadO
  go_enter Try.func91, Try.ntmps91
  go_wp2_with fail
  go_loopw [4, 5] (fun ov av wr => ∃ (f a : Nat) (out : List Fld) (v : Value), ov = v ∧ av = .int .i64 (a : Int) ∧ a ≤ s.size ∧ s.size - a ≤ f ∧ out.length ≤ 40 ∧ Hid (R = preL out (rdL s f a out.length)) ∧ Hid (wr.ownsRow w.heap.size 57 4 v out.length (fdsV out)) ∧ Hid (Below w.heap.size w wr)) (fun _ av _ => s.size - (intOf av).toNat)
  case atStart => exact ⟨s.size, 0, [], _, rfl, rfl, by omega, by omega, by simp, HP0, Lib.hid (World.ownsRow_nil _ _ _ _), Lib.hid (Below.refl _ _)⟩
  case round =>
    obtain ⟨w1, rfl⟩ : ∃ z : World, z = wr := ⟨_, rfl⟩
    obtain ⟨f, a, out, v, rfl, rfl, ha, hfz, hol, HP, HO, HB⟩ := hrel
    obtain ⟨va, vc, rfl⟩ := form_of_own HO.out
    by_cases hlt : a < s.size
    case neg =>
      have HYES : Hid (R = some out) := Lib.hid (by rw [HP.out, rdL_end (by omega)]; simp [preL])
      have hlti : ¬ (a : Int) < (s.size : Int) := by omega
      go_wp2_with fail
      go_ret2
      exact ⟨_, by rw [HYES.out]; rfl, by rw [HYES.out]; exact HO.out, HB.out⟩
    have HNF : Hid (fldAt s a = none → R = none) := Lib.hid fun h => by rw [HP.out, rdL_no hlt h hfz]; rfl
    have HT1 := Lib.hid (fun wx => spec_take s a wx (by omega) (by omega))
    have hbd1 := tk_bd s a
    have hln1 := tk_len (s := s) (a := a)
    obtain ⟨⟨n1, u1, b1⟩, h1⟩ : ∃ q, tk s a = q := ⟨_, rfl⟩
    rw [h1] at hbd1 hln1
    unfold tk at h1
    rw [h1] at HT1
    change takeF 5 (s.data.toList.drop a) 0 0 = _ at h1
    have HBN := HB
    cases b1 with
    | false =>
      have HNO : Hid (R = none) := Lib.hid (HNF.out (fldAt_no1 (by unfold tk; rw [h1])))
      simp only at HT1
      clear h1
      go_wp2_with fail
      refine (HT1.out _).mono ?_
      rintro e w' ⟨rfl, rfl⟩
      go_wp2_with fail
      go_ret2
      exact ⟨_, by rw [HNO.out]; rfl, by rw [HNO.out]; exact World.ownsRow_nil _ _ _ _, HBN.out⟩
    | true =>
    simp only [takeEnd, if_true] at HT1
    obtain ⟨hu1, hau1, -⟩ := hln1 rfl
    simp only at hu1 hau1 hbd1
    have HT2 := Lib.hid (fun wx => spec_take s (a + u1) wx (by omega) (by omega))
    have hbd2 := tk_bd s (a + u1)
    have hln2 := tk_len (s := s) (a := a + u1)
    obtain ⟨⟨n2, u2, b2⟩, h2⟩ : ∃ q, tk s (a + u1) = q := ⟨_, rfl⟩
    rw [h2] at hbd2 hln2
    unfold tk at h2
    rw [h2] at HT2
    change takeF 5 (s.data.toList.drop (a + u1)) 0 0 = _ at h2
    rw [show ((a + u1 : Nat) : Int) = (a : Int) + (u1 : Int) by omega] at HT2
    cases b2 with
    | false =>
      have HNO : Hid (R = none) := Lib.hid (HNF.out (fldAt_no2 (show tk s a = _ from h1) (by unfold tk; rw [h2])))
      simp only at HT2
      clear h1 h2 hln2
      go_wp2_with fail
      refine (HT1.out _).mono ?_
      rintro e w' ⟨rfl, rfl⟩
      go_wp2_with fail
      refine (HT2.out _).mono ?_
      rintro e w' ⟨rfl, rfl⟩
      go_wp2_with fail
      go_ret2
      exact ⟨_, by rw [HNO.out]; rfl, by rw [HNO.out]; exact World.ownsRow_nil _ _ _ _, HBN.out⟩
    | true =>
    simp only [takeEnd, if_true] at HT2
    obtain ⟨hu2, hau2, -⟩ := hln2 rfl
    simp only at hu2 hau2 hbd2
    have HFE := Lib.hid (fldAt_eq (show tk s a = _ from h1) (show tk s (a + u1) = _ from h2))
    clear h1 h2 hln1 hln2
    obtain ⟨e2, he2⟩ : ∃ z, z = a + u1 + u2 := ⟨_, rfl⟩
    rw [show ((a + u1 : Nat) : Int) + (u2 : Int) = ((e2 : Nat) : Int) by omega] at HT2
    rw [← he2] at HFE
    have hae2 : a < e2 ∧ e2 ≤ s.size := by omega
    clear he2 hau2 hu2
    have q2 : (n1 : Int).tdiv 8 = ((n1 / 8 : Nat) : Int) := Int.tdiv_eq_ediv_of_nonneg (by omega)
    have q1 : (n1 : Int).tmod 8 = ((n1 % 8 : Nat) : Int) := Int.tmod_eq_emod_of_nonneg (by omega)
    have hno : n1 / 8 < 2000000001 := by omega
    have hkd : n1 % 8 < 8 := by omega
    generalize n1 / 8 = no at *
    generalize n1 % 8 = kd at *
    by_cases h0 : kd = 0
    · subst h0
      have HUF := Lib.hid (fun wx => spec_unfold (n2 : Int) wx (by omega))
      have HBAD : Hid (okF (Fld.mk (no : Int) 0 (unfoldI (n2 : Int)) ⟨#[]⟩) = false → fldAt s a = none) := Lib.hid fun h => by rw [HFE.out, if_pos rfl, if_neg (by rw [h]; simp)]
      have HGOOD : Hid (okF (Fld.mk (no : Int) 0 (unfoldI (n2 : Int)) ⟨#[]⟩) = true → fldAt s a = some (Fld.mk (no : Int) 0 (unfoldI (n2 : Int)) ⟨#[]⟩, e2)) := Lib.hid fun h => by rw [HFE.out, if_pos rfl, if_pos h]
      clear HFE
      generalize unfoldI (n2 : Int) = uf at *
      go_wp2_with fail
      refine (HT1.out _).mono ?_
      rintro e w' ⟨rfl, rfl⟩
      go_wp2_with fail
      refine (HT2.out _).mono ?_
      rintro e w' ⟨rfl, rfl⟩
      go_wp2_with fail
      refine (HUF.out _).mono ?_
      rintro e w' ⟨rfl, rfl⟩
      go_wp2_with fail
      have HXW := Lib.hid (heap_alloc_new w1 (.cells #[.int .i64 (no : Int), .int .i64 0, .int .i64 uf, .string { data := #[] }] 57))
      have HBW := Lib.hid (HB.out.alloc HB.out.size (.cells #[.int .i64 (no : Int), .int .i64 0, .int .i64 uf, .string { data := #[] }] 57))
      have HOW := Lib.hid (HO.out.alloc (.cells #[.int .i64 (no : Int), .int .i64 0, .int .i64 uf, .string { data := #[] }] 57))
      generalize w1.alloc (.cells #[.int .i64 (no : Int), .int .i64 0, .int .i64 uf, .string { data := #[] }] 57) = w3 at *
      have HOKF := Lib.hid (fun wx => spec_field (Fld.mk (no : Int) 0 uf ⟨#[]⟩) wx)
      cases hok : okF (Fld.mk (no : Int) 0 uf ⟨#[]⟩) with
      | false =>
        rw [hok] at HOKF
        have HNO : Hid (R = none) := Lib.hid (HNF.out (HBAD.out hok))
        simp only at HOKF
        refine (HOKF.out _).mono ?_
        rintro e w5 ⟨rfl, hb⟩
        have HBN := Lib.hid (HBW.out.trans (hb.mono HBW.out.size)); clear hb
        go_wp2_with fail
        go_ret2
        exact ⟨_, by rw [HNO.out]; rfl, by rw [HNO.out]; exact World.ownsRow_nil _ _ _ _, HBN.out⟩
      | true =>
        rw [hok] at HOKF
        have hft := HGOOD.out hok
        have hfe := fldAt_end hft
        by_cases hc40 : out.length = 40
        · have HNO : Hid (R = none) := Lib.hid (by rw [HP.out, hc40, rdL_full hlt hfz]; rfl)
          have hci : ((out.length : Int) == 40) = true := by rw [hc40]; rfl
          clear hc40 hft hfe
          simp only at HOKF
          refine (HOKF.out _).mono ?_
          rintro e w5 ⟨rfl, hb⟩
          have HBN := Lib.hid (HBW.out.trans (hb.mono HBW.out.size)); clear hb
          go_wp2_with fail
          go_ret2
          exact ⟨_, by rw [HNO.out]; rfl, by rw [HNO.out]; exact World.ownsRow_nil _ _ _ _, HBN.out⟩
        · have hci : ((out.length : Int) == 40) = false := beq_eq_false_iff_ne.2 (by omega)
          have HPN := Lib.hid (HP.out.trans (rdL_next (out := out) hlt hft hc40 hfz))
          have hol : out.length < 40 := by omega
          have hlt2 : a < e2 := hfe.1
          have hle2 : e2 ≤ s.size := hfe.2.1
          clear hft hfe hc40
          simp only at HOKF
          refine (HOKF.out _).mono ?_
          rintro e w5 ⟨rfl, hb⟩
          have HX5 := Lib.hid (heap_later hb HXW.out)
          have HB5 := Lib.hid (HBW.out.trans (hb.mono HBW.out.size))
          have HO5 := Lib.hid (own_later HOW.out hb)
          clear hb
          obtain ⟨⟨e0, e1, e2, e3⟩, -⟩ := box4 HX5.out
          have hz5 := HB5.out.size
          have HNW := Lib.hid (World.news_of_block (cs := #[.int .i64 (Fld.mk (no : Int) 0 uf ⟨#[]⟩).no, .int .i64 (Fld.mk (no : Int) 0 uf ⟨#[]⟩).kind, .int .i64 (Fld.mk (no : Int) 0 uf ⟨#[]⟩).num, .string (Fld.mk (no : Int) 0 uf ⟨#[]⟩).data]) (t := 57) (fr := (0, 0)) (heap_alloc_new w5 (.cells #[.int .i64 (Fld.mk (no : Int) 0 uf ⟨#[]⟩).no, .int .i64 (Fld.mk (no : Int) 0 uf ⟨#[]⟩).kind, .int .i64 (Fld.mk (no : Int) 0 uf ⟨#[]⟩).num, .string (Fld.mk (no : Int) 0 uf ⟨#[]⟩).data] 57)))
          go_wp2_with (at_builtin; refine wpList_append_own _ rfl _ _ 49 rfl w.heap.size 57 i0 (.agg #[.int .i64 0, .int .i64 0, .int .i64 0, .string ByteArray.empty]) 4 40 Try.underlying49 hi0 hz0 hz1 hz2 rfl (by decide) _ out.length _ rfl (HO5.out.alloc _) _ 1 1 [.int .i64 (Fld.mk (no : Int) 0 uf ⟨#[]⟩).no, .int .i64 (Fld.mk (no : Int) 0 uf ⟨#[]⟩).kind, .int .i64 (Fld.mk (no : Int) 0 uf ⟨#[]⟩).num, .string (Fld.mk (no : Int) 0 uf ⟨#[]⟩).data] rfl rfl HNW.out (by simp [Value.oneCell']) (by unfold maxLen; omega) (by omega) (Nat.le_trans hz5 (by simp)) ?_)
          intro v9 w9 hown hgrow _
          have HO9 := Lib.hid (own_fld (l := out) (f := Fld.mk (no : Int) 0 uf ⟨#[]⟩) hown)
          have HB9 := Lib.hid (Below.grown (HB5.out.alloc hz5 (.cells #[.int .i64 (Fld.mk (no : Int) 0 uf ⟨#[]⟩).no, .int .i64 (Fld.mk (no : Int) 0 uf ⟨#[]⟩).kind, .int .i64 (Fld.mk (no : Int) 0 uf ⟨#[]⟩).num, .string (Fld.mk (no : Int) 0 uf ⟨#[]⟩).data] 57)) hgrow (Nat.le_trans hz5 (by simp)) (fun q hq => (HO5.out.lt q hq).1))
          clear hown hgrow HNW e0 e1 e2 e3
          go_wp2_with fail
          go_roundw
          case rel => exact ⟨f - 1, e2, out ++ [Fld.mk (no : Int) 0 uf ⟨#[]⟩], _, rfl, by go_num, by omega, by omega, by rw [List.length_append]; simp; omega, Lib.hid (by rw [HPN.out, List.length_append]; rfl), HO9, HB9⟩
          case measure => (simp [intOf]; try omega)
    have hk0 : ((kd : Int) == 0) = false := beq_eq_false_iff_ne.2 (by omega)
    by_cases hfit : e2 + n2 ≤ s.size
    case neg =>
      have HNO : Hid (R = none) := Lib.hid (HNF.out (by
        rw [HFE.out, if_neg h0]
        split
        · rw [if_neg (fun h => hfit h.1)]
        · rfl))
      have hfi : (n2 : Int) > (s.size : Int) - (e2 : Int) := by omega
      have HBN := Lib.hid (HB.out.alloc HB.out.size (.cells #[.int .i64 (no : Int), .int .i64 (kd : Int), .int .i64 0, .string { data := #[] }] 57))
      clear HFE h0
      go_wp2_with fail
      refine (HT1.out _).mono ?_
      rintro e w' ⟨rfl, rfl⟩
      go_wp2_with fail
      refine (HT2.out _).mono ?_
      rintro e w' ⟨rfl, rfl⟩
      go_wp2_with fail
      go_ret2
      exact ⟨_, by rw [HNO.out]; rfl, by rw [HNO.out]; exact World.ownsRow_nil _ _ _ _, HBN.out⟩
    have hfi : ¬ (n2 : Int) > (s.size : Int) - (e2 : Int) := by omega
    have hxs : (s.extract e2 (e2 + n2)).size ≤ 400 := by rw [ByteArray.size_extract]; omega
    have HBAD : Hid (okF (Fld.mk (no : Int) (kd : Int) 0 (s.extract e2 (e2 + n2))) = false → fldAt s a = none) := Lib.hid fun h => by
      rw [HFE.out, if_neg h0]
      split
      · rename_i h2
        subst h2
        rw [if_neg (fun hh => by have := hh.2; rw [show okF ⟨(no : Int), 2, 0, s.extract e2 (e2 + n2)⟩ = false from h] at this; cases this)]
      · rfl
    have HGOOD : Hid (okF (Fld.mk (no : Int) (kd : Int) 0 (s.extract e2 (e2 + n2))) = true → fldAt s a = some (Fld.mk (no : Int) (kd : Int) 0 (s.extract e2 (e2 + n2)), e2 + n2)) := Lib.hid fun h => by
      have h2 : kd = 2 := by
        have := okF_iff.1 h
        simp only at this
        omega
      subst h2
      rw [HFE.out, if_neg (by decide), if_pos rfl, if_pos ⟨hfit, h⟩]
      rfl
    clear HFE h0
    generalize hdt : s.extract e2 (e2 + n2) = dt at *
    go_wp2_with fail
    refine (HT1.out _).mono ?_
    rintro e w' ⟨rfl, rfl⟩
    go_wp2_with fail
    refine (HT2.out _).mono ?_
    rintro e w' ⟨rfl, rfl⟩
    go_wp2_with fail
    have HXW := Lib.hid (heap_alloc_new w1 (.cells #[.int .i64 (no : Int), .int .i64 (kd : Int), .int .i64 0, .string dt] 57))
    have HBW := Lib.hid (HB.out.alloc HB.out.size (.cells #[.int .i64 (no : Int), .int .i64 (kd : Int), .int .i64 0, .string dt] 57))
    have HOW := Lib.hid (HO.out.alloc (.cells #[.int .i64 (no : Int), .int .i64 (kd : Int), .int .i64 0, .string dt] 57))
    generalize w1.alloc (.cells #[.int .i64 (no : Int), .int .i64 (kd : Int), .int .i64 0, .string dt] 57) = w3 at *
    have HOKF := Lib.hid (fun wx => spec_field (Fld.mk (no : Int) (kd : Int) 0 dt) wx)
    cases hok : okF (Fld.mk (no : Int) (kd : Int) 0 dt) with
    | false =>
      rw [hok] at HOKF
      have HNO : Hid (R = none) := Lib.hid (HNF.out (HBAD.out hok))
      simp only at HOKF
      refine (HOKF.out _).mono ?_
      rintro e w5 ⟨rfl, hb⟩
      have HBN := Lib.hid (HBW.out.trans (hb.mono HBW.out.size)); clear hb
      go_wp2_with fail
      go_ret2
      exact ⟨_, by rw [HNO.out]; rfl, by rw [HNO.out]; exact World.ownsRow_nil _ _ _ _, HBN.out⟩
    | true =>
      rw [hok] at HOKF
      have hft := HGOOD.out hok
      have hfe := fldAt_end hft
      by_cases hc40 : out.length = 40
      · have HNO : Hid (R = none) := Lib.hid (by rw [HP.out, hc40, rdL_full hlt hfz]; rfl)
        have hci : ((out.length : Int) == 40) = true := by rw [hc40]; rfl
        clear hc40 hft hfe
        simp only at HOKF
        refine (HOKF.out _).mono ?_
        rintro e w5 ⟨rfl, hb⟩
        have HBN := Lib.hid (HBW.out.trans (hb.mono HBW.out.size)); clear hb
        go_wp2_with fail
        go_ret2
        exact ⟨_, by rw [HNO.out]; rfl, by rw [HNO.out]; exact World.ownsRow_nil _ _ _ _, HBN.out⟩
      · have hci : ((out.length : Int) == 40) = false := beq_eq_false_iff_ne.2 (by omega)
        have HPN := Lib.hid (HP.out.trans (rdL_next (out := out) hlt hft hc40 hfz))
        have hol : out.length < 40 := by omega
        have hlt2 : a < (e2 + n2) := hfe.1
        have hle2 : (e2 + n2) ≤ s.size := hfe.2.1
        clear hft hfe hc40
        simp only at HOKF
        refine (HOKF.out _).mono ?_
        rintro e w5 ⟨rfl, hb⟩
        have HX5 := Lib.hid (heap_later hb HXW.out)
        have HB5 := Lib.hid (HBW.out.trans (hb.mono HBW.out.size))
        have HO5 := Lib.hid (own_later HOW.out hb)
        clear hb
        obtain ⟨⟨e0, e1, e2, e3⟩, -⟩ := box4 HX5.out
        have hz5 := HB5.out.size
        have HNW := Lib.hid (World.news_of_block (cs := #[.int .i64 (Fld.mk (no : Int) (kd : Int) 0 dt).no, .int .i64 (Fld.mk (no : Int) (kd : Int) 0 dt).kind, .int .i64 (Fld.mk (no : Int) (kd : Int) 0 dt).num, .string (Fld.mk (no : Int) (kd : Int) 0 dt).data]) (t := 57) (fr := (0, 0)) (heap_alloc_new w5 (.cells #[.int .i64 (Fld.mk (no : Int) (kd : Int) 0 dt).no, .int .i64 (Fld.mk (no : Int) (kd : Int) 0 dt).kind, .int .i64 (Fld.mk (no : Int) (kd : Int) 0 dt).num, .string (Fld.mk (no : Int) (kd : Int) 0 dt).data] 57)))
        go_wp2_with (at_builtin; refine wpList_append_own _ rfl _ _ 49 rfl w.heap.size 57 i0 (.agg #[.int .i64 0, .int .i64 0, .int .i64 0, .string ByteArray.empty]) 4 40 Try.underlying49 hi0 hz0 hz1 hz2 rfl (by decide) _ out.length _ rfl (HO5.out.alloc _) _ 1 1 [.int .i64 (Fld.mk (no : Int) (kd : Int) 0 dt).no, .int .i64 (Fld.mk (no : Int) (kd : Int) 0 dt).kind, .int .i64 (Fld.mk (no : Int) (kd : Int) 0 dt).num, .string (Fld.mk (no : Int) (kd : Int) 0 dt).data] rfl rfl HNW.out (by simp [Value.oneCell']) (by unfold maxLen; omega) (by omega) (Nat.le_trans hz5 (by simp)) ?_)
        intro v9 w9 hown hgrow _
        have HO9 := Lib.hid (own_fld (l := out) (f := Fld.mk (no : Int) (kd : Int) 0 dt) hown)
        have HB9 := Lib.hid (Below.grown (HB5.out.alloc hz5 (.cells #[.int .i64 (Fld.mk (no : Int) (kd : Int) 0 dt).no, .int .i64 (Fld.mk (no : Int) (kd : Int) 0 dt).kind, .int .i64 (Fld.mk (no : Int) (kd : Int) 0 dt).num, .string (Fld.mk (no : Int) (kd : Int) 0 dt).data] 57)) hgrow (Nat.le_trans hz5 (by simp)) (fun q hq => (HO5.out.lt q hq).1))
        clear hown hgrow HNW e0 e1 e2 e3
        go_wp2_with fail
        go_roundw
        case rel => exact ⟨f - 1, (e2 + n2), out ++ [Fld.mk (no : Int) (kd : Int) 0 dt], _, rfl, by go_num, by omega, by omega, by rw [List.length_append]; simp; omega, Lib.hid (by rw [HPN.out, List.length_append]; rfl), HO9, HB9⟩
        case measure => (simp [intOf]; try omega)
def R_ReadF (s : ByteArray) : List Fld × Bool := ((R_Read s).getD [], (R_Read s).isSome)
set_option maxHeartbeats 1000000 in
theorem spec_ReadFields (s : ByteArray) (w : World) (hs : s.size ≤ 1048576) : Calls Try.prog 37 #[.string s] w (ReadO (R_Read s) w) := by
  unfold R_Read
  by_cases h4 : 400 < s.size
  · rw [if_pos h4]
    have h4i : (s.size : Int) > 400 := by omega
    unfold ReadO
    go_enter Try.func37, Try.ntmps37
    go_wp2_with fail
    go_ret2
    exact ⟨_, rfl, World.ownsRow_nil _ _ _ _, Below.refl _ _⟩
  · rw [if_neg h4]
    have h4i : ¬ (s.size : Int) > 400 := by omega
    have H := Lib.hid (spec_l1Read s w (by omega))
    generalize rdL s s.size 0 0 = R at *
    unfold ReadO at H ⊢
    go_enter Try.func37, Try.ntmps37
    go_wp2_with fail
    refine H.out.mono ?_
    rintro e w1 ⟨v, rfl, ho, hb⟩
    have HO := Lib.hid ho; have HB := Lib.hid hb
    clear ho hb
    obtain ⟨va, vc, rfl⟩ := form_of_own HO.out
    go_wp2_with fail
    go_ret2
    exact ⟨_, rfl, HO.out, HB.out⟩
end Go.Proofs.Ytlmgckijbamgpaa
