/- A term read out of cells: the program's walk, a term with parts, and its contract. -/
import Derived.Test.YtlmgckijbamgpaaTmA
namespace Go.Proofs.Ytlmgckijbamgpaa
set_option linter.unusedVariables false
open Go.ChangeShapes Go.WideShapes Go.ChangeAt Go.RowKit
set_option maxRecDepth 100000

theorem Try.infoPtr : (Try.prog.info? 92).map (fun i => (i.zero, i.size, i.bytes)) = some (some (.pointer none), 1, 8) := by kernel_rfl
def kPs (ks : List (Value × List Int)) : List Value := ks.map (·.1)
def kPv (ks : List (Value × List Int)) : List Int := (ks.map (·.2)).flatten
theorem kPs_put (ks : List (Value × List Int)) (x : Value × List Int) : kPs (ks ++ [x]) = kPs ks ++ [x.1] := by simp [kPs]
theorem kPv_put (ks : List (Value × List Int)) (x : Value × List Int) : kPv (ks ++ [x]) = kPv ks ++ x.2 := by simp [kPv]
set_option maxHeartbeats 8000000 in
theorem impl_from_node (B f : Nat) (a : Option Addr) (cap : Nat) (c : Cel) (t : List Cel) (w : World) (hc : t.length + 1 ≤ cap) (hcm : cap ≤ 9223372036854775807) (hrow : CRow B w a (c :: t)) (hB : B ≤ w.heap.size) (hv : c.1 = 0) (hnz : c.2.1.size ≤ maxLen) (hff : t.length ≤ f)
    (IH : ∀ (l : List Cel) (a : Option Addr) (cap : Nat) (wx : World), l.length ≤ t.length → l.length ≤ cap → cap ≤ 9223372036854775807 → (∀ q ∈ l, q ∈ t) → CRow B wx a l → B ≤ wx.heap.size → Calls Try.prog 115 #[.slice a l.length cap] wx (FromOf B (pT f l) f wx)) :
    Calls Try.prog 115 #[.slice a (t.length + 1) cap] w (FromOf B (pT (f + 1) (c :: t)) (f + 1) w) := by
  have HP := Lib.hid (pT_cons (f := f) (c := c) (t := t))
  rw [if_pos hv] at HP
  have HIH := Lib.hid IH
  clear IH
  generalize pT (f + 1) (c :: t) = R at *
  obtain ⟨b, off, rfl, hbl, c0, c1, c2⟩ := hrow 0 c rfl
  rw [Nat.zero_mul, Nat.add_zero] at c0 c1 c2
  have hbw : b < w.heap.size := by omega
  have h1t : (1 : Int) ≤ (t.length : Int) + 1 := by omega
  obtain ⟨ra0, hra⟩ : ∃ z, (if cap = 1 then (some ⟨b, off, none⟩ : Option Addr) else some ⟨b, off + 3, none⟩) = z := ⟨_, rfl⟩
  have HTL : Hid (CRow B w ra0 t) := Lib.hid (by
    rw [← hra]
    by_cases h1 : cap = 1
    · have : t = [] := List.length_eq_zero_iff.1 (by omega)
      rw [this]; exact CRow.nil _
    · rw [if_neg h1]; exact hrow.tail)
  obtain ⟨vr, nm, mn⟩ := c
  simp only at c0 c1 c2 HP hv
  have HC1 : Hid ((w.alloc (.cells #[.int .i64 vr, .string nm, .int .i64 mn] 145)).drew.heap[w.heap.size]? = some (.cells #[.int .i64 vr, .string nm, .int .i64 mn] 145)) := Lib.hid (heap_alloc_new w (.cells #[.int .i64 vr, .string nm, .int .i64 mn] 145))
  have HB1 := Lib.hid (((Below.refl w.heap.size w).alloc (Nat.le_refl _) (.cells #[.int .i64 vr, .string nm, .int .i64 mn] 145)).drew)
  clear hrow
  simp only at hnz
  subst hv
  have HIN := Lib.hid (fun wx => impl_within mn 0 5 wx)
  have HNM := Lib.hid (fun wx => impl_nameOK nm wx hnz)
  have hnz2 := hnz
  unfold maxLen at hnz2
  unfold FromOf
  go_enter Try.func115, Try.ntmps115
  go_wp2_with fail
  refine wp_region_G [6] (fun w' => w'.cell? ⟨b, off, none⟩ = some (.int .i64 0) ∧ w'.cell? ⟨b, off + 1, none⟩ = some (.string nm) ∧ w'.cell? ⟨b, off + 2, none⟩ = some (.int .i64 mn)) (by kernel_rfl) ?_ (fun hHeld => ?_)
  · exact ⟨c0, c1, c2⟩
  refine wpG_pure (i := 0) (oi := { dst := some 12, op := Go.Op.move (Go.Operand.tmp 0), type := 29, pos := "l6_unify.go:40", after := #[], guard := none }) (v := ?vg1) rfl (by kernel_rfl) (fun _ _ _ h => h) (Or.inr hHeld) (Or.inl ⟨by rfl, ?yg1⟩) ?_
  case yg1 => (intro wS _; go_simp <;> with_reducible rfl)
  try simp only [Act.put, List.setIfInBounds_toArray, List.set_cons_zero, List.set_cons_succ]
  refine wpG_pure (i := 1) (oi := { dst := some 13, op := Go.Op.indexAddr 29 (Go.Operand.tmp 12) (Go.Operand.const (Go.Value.int Go.IntKind.i64 0)), type := 0, pos := "l6_unify.go:40", after := #[{ on := 0, ground := Go.Ground.data }], guard := none }) (v := ?vg2) rfl (by kernel_rfl) (fun _ _ _ h => h) (Or.inr hHeld) (Or.inl ⟨by rfl, ?yg2⟩) ?_
  case yg2 => (intro wS _; go_simp <;> with_reducible rfl)
  try simp only [Act.put, List.setIfInBounds_toArray, List.set_cons_zero, List.set_cons_succ]
  refine wpG_load (i := 2) (oi := { dst := some 14, op := Go.Op.load 145 (Go.Operand.tmp 13), type := 145, pos := "l6_unify.go:40", after := #[{ on := 1, ground := Go.Ground.data }], guard := none }) (v := ?vg3) [[6, 2]] rfl (by kernel_rfl) (fun _ _ _ h => h) hHeld (Or.inl ⟨by rfl, ?yg3⟩) ?_
  case yg3 => (intro wS hSw; (try dsimp only at hSw); go_simp <;> with_reducible rfl)
  try simp only [Act.put, List.setIfInBounds_toArray, List.set_cons_zero, List.set_cons_succ]
  refine wpG_pure (i := 3) (oi := { dst := some 15, op := Go.Op.move (Go.Operand.tmp 0), type := 29, pos := "l6_unify.go:40", after := #[], guard := none }) (v := ?vg4) rfl (by kernel_rfl) (fun _ _ _ h => h) (Or.inr hHeld) (Or.inl ⟨by rfl, ?yg4⟩) ?_
  case yg4 => (intro wS _; go_simp <;> with_reducible rfl)
  try simp only [Act.put, List.setIfInBounds_toArray, List.set_cons_zero, List.set_cons_succ]
  refine wpG_pure (i := 4) (oi := { dst := some 16, op := Go.Op.slice 29 (Go.Operand.tmp 15) (some (Go.Operand.const (Go.Value.int Go.IntKind.i64 1))) none none, type := 29, pos := "l6_unify.go:40", after := #[{ on := 3, ground := Go.Ground.data }], guard := none }) (v := ?vg5) rfl (by kernel_rfl) (fun _ _ _ h => h) (Or.inr hHeld) (Or.inl ⟨by rfl, ?yg5⟩) ?_
  case yg5 => (intro wS _; go_simp <;> with_reducible rfl)
  try simp only [Act.put, List.setIfInBounds_toArray, List.set_cons_zero, List.set_cons_succ]
  refine wpG_one (i := 5) (o := { dst := some 4, op := Go.Op.alloc 145, type := 0, pos := "l6_unify.go:40", after := #[], guard := none }) rfl (by kernel_rfl) (fun K hK => ?_)
  go_simp
  refine hK.out _ _ (Or.inr ?khHeld6) (fun hHeld6S => ?_)
  case khHeld6 => go_simp
  have hHeld6 := hHeld6S.held (by kernel_rfl)
  clear hK K
  try simp only [Act.put, List.setIfInBounds_toArray, List.set_cons_zero, List.set_cons_succ]
  refine wpG_one (i := 6) (o := { dst := none, op := Go.Op.store 145 (Go.Operand.tmp 4) (Go.Operand.tmp 14), type := 0, pos := "l6_unify.go:40", after := #[{ on := 5, ground := Go.Ground.data }, { on := 2, ground := Go.Ground.data }, { on := 0, ground := Go.Ground.phase }, { on := 1, ground := Go.Ground.phase }, { on := 2, ground := Go.Ground.phase }, { on := 3, ground := Go.Ground.textOnly Go.Departure.lateStores }, { on := 4, ground := Go.Ground.textOnly Go.Departure.lateStoresUnsure }, { on := 5, ground := Go.Ground.phase }], guard := none }) rfl (by kernel_rfl) (fun K hK => ?_)
  go_simp
  refine hK.out _ _ (Or.inl (by kernel_rfl)) (fun _ => ?_)
  clear hK K
  try simp only [Act.put, List.setIfInBounds_toArray, List.set_cons_zero, List.set_cons_succ]
  refine wpG_pure (i := 7) (oi := { dst := some 5, op := Go.Op.assign (Go.Operand.tmp 16), type := 29, pos := "l6_unify.go:40", after := #[{ on := 4, ground := Go.Ground.data }, { on := 6, ground := Go.Ground.chain }, { on := 0, ground := Go.Ground.phase }, { on := 1, ground := Go.Ground.phase }, { on := 2, ground := Go.Ground.phase }, { on := 3, ground := Go.Ground.phase }, { on := 4, ground := Go.Ground.phase }, { on := 5, ground := Go.Ground.phase }, { on := 6, ground := Go.Ground.phase }], guard := none }) (v := ?vg8) rfl (by kernel_rfl) (fun _ _ _ h => h) (Or.inl (by kernel_rfl)) (Or.inl ⟨by rfl, ?yg8⟩) ?_
  case yg8 => (intro wS _; go_simp <;> with_reducible rfl)
  try simp only [Act.put, List.setIfInBounds_toArray, List.set_cons_zero, List.set_cons_succ]
  refine wpG_done (by kernel_rfl) ?_
  generalize (w.alloc (.cells #[.int .i64 0, .string nm, .int .i64 mn] 145)).drew = w1 at *
  obtain ⟨⟨d0, d1, d2⟩, -⟩ := box3 HC1.out
  have hw1 := HB1.out.size
  have hwc := hp_lt HC1.out
  clear c0 c1 c2
  have HBN := HB1
  cases hbn : nmB nm with
  | false =>
    rw [hbn] at HP HNM
    have HNO : Hid (R = none) := Lib.hid (by rw [HP.out]; rfl)
    go_wp2_with fail
    refine (HNM.out _).mono ?_
    rintro e w' ⟨rfl, rfl⟩
    go_wp2_with fail
    go_ret2
    exact ⟨_, _, _, _, rfl, HBN.out, fun _ => ⟨rfl, rfl⟩, fun vs r h => by rw [HNO.out] at h; cases h⟩
  | true =>
  rw [hbn] at HP HNM
  by_cases h4 : nm.size ≤ 4
  case neg =>
    have h4i : (nm.size : Int) > 4 := by omega
    have HNO : Hid (R = none) := Lib.hid (by rw [HP.out, decide_eq_false h4]; rfl)
    go_wp2_with fail
    refine (HNM.out _).mono ?_
    rintro e w' ⟨rfl, rfl⟩
    go_wp2_with fail
    go_ret2
    exact ⟨_, _, _, _, rfl, HBN.out, fun _ => ⟨rfl, rfl⟩, fun vs r h => by rw [HNO.out] at h; cases h⟩
  have h4i : ¬ (nm.size : Int) > 4 := by omega
  rw [decide_eq_true h4] at HP
  cases hbi : inR mn 0 5 with
  | false =>
    rw [hbi] at HP HIN
    have HNO : Hid (R = none) := Lib.hid (by rw [HP.out]; rfl)
    go_wp2_with fail
    refine (HNM.out _).mono ?_
    rintro e w' ⟨rfl, rfl⟩
    go_wp2_with fail
    refine (HIN.out _).mono ?_
    rintro e w' ⟨rfl, rfl⟩
    go_wp2_with fail
    go_ret2
    exact ⟨_, _, _, _, rfl, HBN.out, fun _ => ⟨rfl, rfl⟩, fun vs r h => by rw [HNO.out] at h; cases h⟩
  | true =>
  rw [hbi] at HP HIN
  have hm5 := inR_iff2.1 hbi
  obtain ⟨m, rfl⟩ : ∃ m : Nat, mn = (m : Int) := ⟨mn.toNat, by omega⟩
  have hm : m ≤ 5 := by omega
  have HPK : Hid (R = preV [] (pK (pT f) m t)) := Lib.hid (by rw [preV_nil, HP.out]; simp)
  clear HP hbn hbi hm5 h4
  have HT2 := Lib.hid (heap_alloc_new w1 (.cells #[.int .i64 0, .string nm, .slice none 0 0] 151))
  have HB2 := Lib.hid (HB1.out.alloc hw1 (.cells #[.int .i64 0, .string nm, .slice none 0 0] 151))
  obtain ⟨i0, hi0, hz0, hz1, hz2⟩ := info_parts Try.infoPtr
  go_wp2_with fail
  refine (HNM.out _).mono ?_
  rintro e w' ⟨rfl, rfl⟩
  go_wp2_with fail
  refine (HIN.out _).mono ?_
  rintro e w' ⟨rfl, rfl⟩
  go_wp2_with fail
  have ht2 := hp_lt HT2.out
  generalize w1.alloc (.cells #[.int .i64 0, .string nm, .slice none 0 0] 151) = w2 at *
  go_loopw [5, 61] (fun rv jv wr => ∃ (l : List Cel) (ra : Option Addr) (rc : Nat) (v : Value) (ks : List (Value × List Int)), ks.length ≤ m ∧ rv = .slice ra l.length rc ∧ jv = .int .i64 (ks.length : Int) ∧ l.length ≤ rc ∧ rc ≤ 9223372036854775807 ∧ l.length ≤ t.length ∧ Hid (∀ q ∈ l, q ∈ t) ∧ Hid (CRow B wr ra l) ∧ Hid (wr.ownsRow w2.heap.size 92 1 v ks.length (kPs ks)) ∧ Hid (wr.heap[w1.heap.size]? = some (.cells #[.int .i64 0, .string nm, v] 151)) ∧ Hid (Below w.heap.size w wr) ∧ Hid (∀ q ∈ ks, TP (fun x => w2.heap.size ≤ x ∧ v.ownBlock ≠ some x) wr f q.1 q.2) ∧ Hid (R = preV (kPv ks) (pK (pT f) (m - ks.length) l)) ∧ w2.heap.size ≤ wr.heap.size) (fun _ jv _ => m - (intOf jv).toNat)
  case atStart => exact ⟨t, ra0, cap - 1, .slice none 0 0, [], by simp, rfl, rfl, by omega, by omega, Nat.le_refl _, Lib.hid (fun q hq => hq), Lib.hid (HTL.out.below (HB2.out.mono hB)), Lib.hid (World.ownsRow_nil _ _ _ _), HT2, HB2, Lib.hid (by simp), HPK, Nat.le_refl _⟩
  case round =>
    clear HT2 HB2 HC1 HB1 HPK d0 d1 d2 HNM HIN HBN
    obtain ⟨wa, rfl⟩ : ∃ z : World, z = wr := ⟨_, rfl⟩
    obtain ⟨l, ra, rc, v, ks, hj, rfl, rfl, hlc, hcm2, hlt, HSUB, HCR, HOW, HT, HB, HKS, HPK, hsz⟩ := hrel
    obtain ⟨va, vn, hvv⟩ := form_of_own HOW.out
    subst hvv
    obtain ⟨⟨t0, t1, t2⟩, s0, s1, s2⟩ := box3 HT.out
    by_cases hjm : ks.length < m
    case neg =>
      obtain rfl : m = ks.length := by omega
      have HYES : Hid (R = some (kPv ks, l)) := Lib.hid (by rw [HPK.out, Nat.sub_self]; simp [pK, preV])
      have hcap := own_cap HOW.out
      go_wp2_with fail
      go_ret2
      refine ⟨_, _, _, _, rfl, HB.out, (fun h => by rw [HYES.out] at h; cases h), fun vs r h => ?_⟩
      rw [HYES.out] at h
      simp only [Option.some.injEq, Prod.mk.injEq] at h
      obtain ⟨rfl, rfl⟩ := h
      exact ⟨rfl, hlc, hcm2, HCR.out, ⟨_, _, _, _, _, _, rfl, hw1, HT.out, hcap.1, hcap.2, .inr ⟨rfl, ks, rfl, by omega, (RS.own (S := fun x => w.heap.size ≤ x) HOW.out (fun g hg => by have := (HOW.out.lt g hg).1; omega)), fun q hq => (HKS.out q hq).keep (Kept.refl _ _) (fun x hx _ => by omega), rfl⟩⟩⟩
    go_wp2_with fail
    refine (HIH.out l ra rc wa hlt hlc hcm2 HSUB.out HCR.out (Nat.le_trans hB HB.out.size)).mono ?_
    rintro e w3 ⟨p, ra3, rn3, rc3, rfl, hb, hno, hyes⟩
    have HB3 := Lib.hid (rstep HB.out hb)
    have hz3 := hb.size
    have HT3 := Lib.hid (hp_later hb HT.out)
    have HO3 := Lib.hid (own_later HOW.out hb)
    have HK3 := Lib.hid (kept_below (S := fun x => w2.heap.size ≤ x ∧ (Value.slice va ks.length vn).ownBlock ≠ some x) hb)
    clear hb t0 t1 t2 s0 s1 s2
    cases hq : pT f l with
    | none =>
      obtain ⟨rfl, rfl⟩ := hno hq
      have HNO : Hid (R = none) := Lib.hid (by rw [HPK.out, show m - ks.length = (m - (ks.length + 1)) + 1 by omega, pK_stop hq]; rfl)
      have HBN := HB3
      go_wp2_with fail
      go_wp2_with fail
      go_ret2
      exact ⟨_, _, _, _, rfl, HBN.out, fun _ => ⟨rfl, rfl⟩, fun vs r h => by rw [HNO.out] at h; cases h⟩
    | some pr =>
      obtain ⟨vs, r⟩ := pr
      obtain ⟨rfl, hr1, hr2, hcr, htp⟩ := hyes vs r hq
      have hsuf := pT_suf hq
      have HSUB2 : Hid (∀ q ∈ r, q ∈ t) := Lib.hid fun q hm => by
        obtain ⟨kk, _, hr⟩ := hsuf.1
        rw [hr] at hm
        exact HSUB.out q (List.mem_of_mem_drop hm)
      have hrl : r.length ≤ t.length := by have := hsuf.2; omega
      obtain ⟨pb, rfl⟩ : ∃ pb, p = some ⟨pb, 0, none⟩ := by
        match f, htp with
        | f + 1, htp => obtain ⟨b9, _, _, _, _, _, e9, _⟩ := htp; simp only [Value.pointer.injEq] at e9; exact ⟨b9, e9⟩
      have HTP := Lib.hid htp
      have HCR3 := Lib.hid hcr
      have HPN : Hid (R = preV (kPv (ks ++ [(.pointer (some ⟨pb, 0, none⟩), vs)])) (pK (pT f) (m - (ks.length + 1)) r)) := Lib.hid (by
        rw [HPK.out, show m - ks.length = (m - (ks.length + 1)) + 1 by omega, pK_next hq, preV_next, kPv_put])
      clear hq hno hyes htp hcr hsuf
      obtain ⟨⟨t0, t1, t2⟩, -⟩ := box3 HT3.out
      have hks5 : ks.length ≤ 5 := by omega
      go_wp2_with (at_builtin; refine wpList_append_lies _ rfl _ _ 149 rfl w2.heap.size 92 i0 (.pointer none) 1 8 Try.underlying149 hi0 hz0 hz1 hz2 rfl (by decide) _ ks.length _ rfl (HO3.out.alloc _) _ 1 1 [.pointer (some ⟨pb, 0, none⟩)] rfl rfl (news_one _ _ _) (by simp [Value.oneCell']) (by decide) (by unfold maxLen; omega) (by omega) (by simp; omega) _ rfl ?_)
      intro g cp w6 hown hgrow hat hlt6
      have hnT : (Value.slice va ks.length vn).ownBlock ≠ some w1.heap.size := tag_at HO3.out (by omega)
      have HT6 := Lib.hid (hp_grown hgrow (hp_alloc (.cells #[.pointer (some ⟨pb, 0, none⟩)] 92) HT3.out) hnT)
      have HT7 := Lib.hid (box3_s2 HT6.out (.slice (some ⟨g, 0, none⟩) (ks.length + 1) cp))
      have hzb := HB.out.size
      have HBG := Lib.hid (Below.grown (HB3.out.alloc (by omega) (.cells #[.pointer (some ⟨pb, 0, none⟩)] 92)) hgrow (by simp; omega) (fun q hq => by have := (HO3.out.lt q hq).1; omega))
      have HB7 := Lib.hid (below_set HBG.out (X := w1.heap.size) (by omega) 2 (.slice (some ⟨g, 0, none⟩) (ks.length + 1) cp))
      have HO7 := Lib.hid (ownsRow_setCell_below hown (a := ⟨w1.heap.size, 2, none⟩) (by simp only; omega) (.slice (some ⟨g, 0, none⟩) (ks.length + 1) cp))
      have HK7 := Lib.hid (kept_set (kept_grown (kept_alloc HK3.out (.cells #[.pointer (some ⟨pb, 0, none⟩)] 92)) hgrow (fun k hk _ => hk.2)) (X := w1.heap.size) (fun hs => by have := hs.1; omega) 2 (.slice (some ⟨g, 0, none⟩) (ks.length + 1) cp))
      have HJ7 := Lib.hid (kept_set (kept_grown (kept_alloc (Kept.refl (fun x => wa.heap.size ≤ x) w3) (.cells #[.pointer (some ⟨pb, 0, none⟩)] 92)) hgrow (fun k hk _ e => by have := (HOW.out.lt k e).2; omega)) (X := w1.heap.size) (by omega) 2 (.slice (some ⟨g, 0, none⟩) (ks.length + 1) cp))
      have HC7 : Hid (CRow B (w6.setCell ⟨w1.heap.size, 2, none⟩ (.slice (some ⟨g, 0, none⟩) (ks.length + 1) cp)) ra3 r) := Lib.hid (HCR3.out.below (below_set (Below.grown ((Below.refl B w3).alloc (by omega) (.cells #[.pointer (some ⟨pb, 0, none⟩)] 92)) hgrow (by simp; omega) (fun q hq => by have := (HO3.out.lt q hq).1; omega)) (X := w1.heap.size) (by omega) 2 (.slice (some ⟨g, 0, none⟩) (ks.length + 1) cp)))
      have hgb : (Value.slice va ks.length vn).ownBlock = some g ∨ g = w3.heap.size + 1 := by
        rcases hat with e | e
        · exact .inl e
        · right; simpa using e
      have HKN : Hid (∀ q ∈ ks ++ [(.pointer (some ⟨pb, 0, none⟩), vs)], TP (fun x => w2.heap.size ≤ x ∧ (Value.slice (some ⟨g, 0, none⟩) (ks.length + 1) cp).ownBlock ≠ some x) (w6.setCell ⟨w1.heap.size, 2, none⟩ (.slice (some ⟨g, 0, none⟩) (ks.length + 1) cp)) f q.1 q.2) := Lib.hid (by
        intro q hq
        rcases List.mem_append.1 hq with hq | hq
        · refine (HKS.out q hq).keep HK7.out (fun x hx hl => ⟨hx.1, fun e => ?_⟩)
          simp only [Value.ownBlock, Option.some.injEq] at e
          rcases hgb with h | h
          · exact hx.2 (by rw [h, e])
          · omega
        · simp only [List.mem_singleton] at hq
          subst hq
          refine HTP.out.keep HJ7.out (fun x hx hl => ⟨by omega, fun e => ?_⟩)
          simp only [Value.ownBlock, Option.some.injEq] at e
          rcases hgb with h | h
          · have := (HOW.out.lt g h).2; omega
          · omega)
      obtain ⟨⟨-, -, y2⟩, -, -, z2⟩ := box3 HT6.out
      have HZ : Hid (w2.heap.size ≤ (w6.setCell ⟨w1.heap.size, 2, none⟩ (.slice (some ⟨g, 0, none⟩) (ks.length + 1) cp)).heap.size) := Lib.hid (by have := hgrow.size; simp at this ⊢; omega)
      clear hown hgrow hat hgb
      go_wp2_with fail
      go_roundw
      case rel => exact ⟨r, ra3, rc3, _, ks ++ [(.pointer (some ⟨pb, 0, none⟩), vs)], by rw [List.length_append]; simp; omega, rfl, by rw [List.length_append]; go_num, hr1, hr2, hrl, HSUB2, HC7, Lib.hid (by rw [kPs_put, List.length_append]; exact HO7.out), HT7, HB7, HKN, Lib.hid (by rw [HPN.out, List.length_append]; rfl), HZ.out⟩
      case measure => (simp [intOf]; try omega)
end Go.Proofs.Ytlmgckijbamgpaa
