/- A term read out of cells: the reference's walk, a term with parts. -/
import Derived.Test.YtlmgckijbamgpaaTm4
namespace Go.Proofs.Ytlmgckijbamgpaa
set_option linter.unusedVariables false
open Go.ChangeShapes Go.WideShapes Go.ChangeAt Go.RowKit
set_option maxRecDepth 100000

theorem preV_none (us : List Int) : preV us none = none := rfl
theorem tag_at {w : World} {base X : Nat} {e : TypeId} {size : Nat} {v : Value} {n : Nat} {xs : List Value} (h : w.ownsRow base e size v n xs) (hX : X < base) : v.ownBlock ≠ some X := fun e => by have := (h.lt X e).1; omega
theorem own_cap {w : World} {base : Nat} {e : TypeId} {size : Nat} {a : Option Addr} {n cap : Nat} {xs : List Value} (h : w.ownsRow base e size (.slice a n cap) n xs) : n ≤ cap ∧ cap ≤ 9223372036854775807 := by
  rcases h.2 with ⟨hv, h0⟩ | ⟨g, cap', cur, hv, hg, hgb, hlc, hcm, _⟩
  · simp only [Value.slice.injEq] at hv
    obtain ⟨_, h1, h2⟩ := hv
    subst h1; subst h2; exact ⟨Nat.le_refl _, by decide⟩
  · simp only [Value.slice.injEq] at hv
    obtain ⟨_, _, h2⟩ := hv
    subst h2
    unfold maxLen at hcm
    exact ⟨hlc, by omega⟩
theorem Kept.sub {S T : Nat → Prop} {a b : World} (h : Kept T a b) (hs : ∀ x, S x → T x) : Kept S a b := ⟨h.1, fun x hx hl => h.2 x (hs x hx) hl⟩
theorem Kept.refl (S : Nat → Prop) (a : World) : Kept S a a := ⟨Nat.le_refl _, fun _ _ _ => rfl⟩
set_option maxHeartbeats 8000000 in
theorem spec_read_node (B : Nat) (a : Option Addr) (cap : Nat) (L : List Cel) (f k : Nat) (c : Cel) (w : World) (hc : L.length ≤ cap) (hcm : cap ≤ 9223372036854775807) (hrow : CRow B w a L) (hB : B ≤ w.heap.size) (hk : L[k]? = some c) (hl : L.length ≤ 1048576) (hv : c.1 = 0) (hnz : c.2.1.size ≤ maxLen) (hff : L.length - (k + 1) ≤ f)
    (IH : ∀ (i : Nat) (wx : World), CRow B wx a L → B ≤ wx.heap.size → i ≤ L.length → L.length - i ≤ f → Calls Try.prog 113 #[.slice a L.length cap, .int .i64 (i : Int)] wx (ReadOf L (pT f (L.drop i)) f wx)) :
    Calls Try.prog 113 #[.slice a L.length cap, .int .i64 (k : Int)] w (ReadOf L (pT (f + 1) (L.drop k)) (f + 1) w) := by
  have hkl : k < L.length := (List.getElem?_eq_some_iff.1 hk).1
  have HP := Lib.hid (pT_step (f := f) hk)
  rw [if_pos hv] at HP
  have HIH := Lib.hid IH
  clear IH
  generalize pT (f + 1) (L.drop k) = R at *
  have HX0 := Lib.hid (heap_alloc_new w (.cells #[.int .i64 0, .string { data := #[] }, .slice none 0 0] 87))
  have HB0 := Lib.hid ((Below.refl w.heap.size w).alloc (Nat.le_refl _) (.cells #[.int .i64 0, .string { data := #[] }, .slice none 0 0] 87))
  generalize hw0 : w.alloc (.cells #[.int .i64 0, .string { data := #[] }, .slice none 0 0] 87) = w0 at *
  have HROW := Lib.hid (hrow.below (HB0.out.mono hB))
  obtain ⟨b, off, ha, hbl, c0, c1, c2⟩ := HROW.out k c hk
  subst ha
  have hb0 : b < w0.heap.size := by have := HB0.out.size; omega
  obtain ⟨vr, nm, mn⟩ := c
  simp only at c0 c1 c2 HP hv hnz
  subst hv
  have HIN := Lib.hid (fun wx => spec_in mn 0 5 wx)
  have HNM := Lib.hid (fun wx => spec_l6Name nm wx hnz)
  have HHX := heap_alloc_new w0 (.cells #[.int .i64 0, .string nm, .int .i64 mn] 145)
  have HX1 := Lib.hid (hp_alloc (.cells #[.int .i64 0, .string nm, .int .i64 mn] 145) HX0.out)
  have HB1 := Lib.hid (HB0.out.alloc (Nat.le_of_lt (hp_lt HX0.out)) (.cells #[.int .i64 0, .string nm, .int .i64 mn] 145))
  have HA0 := Lib.hid (hp_lt HX0.out)
  generalize hw1 : w0.alloc (.cells #[.int .i64 0, .string nm, .int .i64 mn] 145) = w1 at *
  have HC1 := Lib.hid HHX
  obtain ⟨⟨d0, d1, d2⟩, -⟩ := box3 HHX
  have HR0 := Lib.hid hrow
  clear hrow hk HHX HX0
  unfold ReadOf
  cases hbn : nm4 nm with
  | false =>
    rw [hbn] at HP HNM
    have hr := HP.out
    simp only [Bool.false_and, Bool.and_false, Bool.true_and, Bool.false_eq_true, if_false] at hr
    have HNO := Lib.hid hr
    clear hr HP
    have HBC := Lib.hid (below_set (below_set (below_set HB1.out (Nat.le_refl _) 0 (.int .i64 0)) (Nat.le_refl _) 1 (.string { data := #[] })) (Nat.le_refl _) 2 (.slice none 0 0))
    obtain ⟨⟨sa0, -, -⟩, sf0, -, -⟩ := box3 HX1.out
    have HSA := Lib.hid (box3_s0 HX1.out (.int .i64 0))
    generalize hsA : (w1).setCell ⟨w.heap.size, 0, none⟩ (.int .i64 0) = wsA at *
    obtain ⟨⟨-, sa1, -⟩, -, sf1, -⟩ := box3 HSA.out
    have HSB := Lib.hid (box3_s1 HSA.out (.string { data := #[] }))
    generalize hsB : wsA.setCell ⟨w.heap.size, 1, none⟩ (.string { data := #[] }) = wsB at *
    obtain ⟨⟨-, -, sa2⟩, -, -, sf2⟩ := box3 HSB.out
    have HSC := Lib.hid (box3_s2 HSB.out (.slice none 0 0))
    generalize hsC : wsB.setCell ⟨w.heap.size, 2, none⟩ (.slice none 0 0) = wsC at *
    obtain ⟨⟨sg0, sg1, sg2⟩, -⟩ := box3 HSC.out
    go_enter Try.func113, Try.ntmps113
    go_wp2_with fail
    refine (HNM.out _).mono ?_
    rintro e w' ⟨rfl, rfl⟩
    go_wp2_with fail
    refine bodyPost_ret (v := .tuple #[.agg #[.int .i64 0, .string { data := #[] }, .slice none 0 0], .int .i64 0]) (by simp [results, Try.results113, go_sem, sg0, sg1, sg2]) rfl ?_
    exact ⟨_, _, _, _, _, _, rfl, HBC.out, fun _ => rfl, fun vs r h => by rw [HNO.out] at h; cases h⟩
  | true =>
  rw [hbn] at HP HNM
  cases hbi : inR mn 0 5 with
  | false =>
    rw [hbi] at HP HIN
    have hr := HP.out
    simp only [Bool.false_and, Bool.and_false, Bool.true_and, Bool.false_eq_true, if_false] at hr
    have HNO := Lib.hid hr
    clear hr HP
    have HBC := Lib.hid (below_set (below_set (below_set HB1.out (Nat.le_refl _) 0 (.int .i64 0)) (Nat.le_refl _) 1 (.string { data := #[] })) (Nat.le_refl _) 2 (.slice none 0 0))
    obtain ⟨⟨sa0, -, -⟩, sf0, -, -⟩ := box3 HX1.out
    have HSA := Lib.hid (box3_s0 HX1.out (.int .i64 0))
    generalize hsA : (w1).setCell ⟨w.heap.size, 0, none⟩ (.int .i64 0) = wsA at *
    obtain ⟨⟨-, sa1, -⟩, -, sf1, -⟩ := box3 HSA.out
    have HSB := Lib.hid (box3_s1 HSA.out (.string { data := #[] }))
    generalize hsB : wsA.setCell ⟨w.heap.size, 1, none⟩ (.string { data := #[] }) = wsB at *
    obtain ⟨⟨-, -, sa2⟩, -, -, sf2⟩ := box3 HSB.out
    have HSC := Lib.hid (box3_s2 HSB.out (.slice none 0 0))
    generalize hsC : wsB.setCell ⟨w.heap.size, 2, none⟩ (.slice none 0 0) = wsC at *
    obtain ⟨⟨sg0, sg1, sg2⟩, -⟩ := box3 HSC.out
    go_enter Try.func113, Try.ntmps113
    go_wp2_with fail
    refine (HNM.out _).mono ?_
    rintro e w' ⟨rfl, rfl⟩
    go_wp2_with fail
    refine (HIN.out _).mono ?_
    rintro e w' ⟨rfl, rfl⟩
    go_wp2_with fail
    refine bodyPost_ret (v := .tuple #[.agg #[.int .i64 0, .string { data := #[] }, .slice none 0 0], .int .i64 0]) (by simp [results, Try.results113, go_sem, sg0, sg1, sg2]) rfl ?_
    exact ⟨_, _, _, _, _, _, rfl, HBC.out, fun _ => rfl, fun vs r h => by rw [HNO.out] at h; cases h⟩
  | true =>
  rw [hbi] at HP HIN
  have hm5 := inR_iff2.1 hbi
  obtain ⟨m, rfl⟩ : ∃ m : Nat, mn = (m : Int) := ⟨mn.toNat, by omega⟩
  have hm : m ≤ 5 := by omega
  have hrp := HP.out
  simp only [Bool.and_self, if_true, Int.toNat_natCast] at hrp
  have HPK : Hid (R = preV [] (pK (pT f) m (L.drop (k + 1)))) := Lib.hid (by rw [preV_nil]; exact hrp)
  clear hrp HP hbn hbi hm5
  have HT2 := Lib.hid (heap_alloc_new w1 (.cells #[.int .i64 0, .string nm, .slice none 0 0] 87))
  have HX2 := Lib.hid (hp_alloc (.cells #[.int .i64 0, .string nm, .slice none 0 0] 87) HX1.out)
  have HC2 := Lib.hid (hp_alloc (.cells #[.int .i64 0, .string nm, .slice none 0 0] 87) HC1.out)
  have HB2 := Lib.hid (HB1.out.alloc (Nat.le_of_lt (hp_lt HX1.out)) (.cells #[.int .i64 0, .string nm, .slice none 0 0] 87))
  have ht1 : w0.heap.size < w1.heap.size := hp_lt HC1.out
  have ht0 : w.heap.size < w0.heap.size := HA0.out
  obtain ⟨i0, hi0, hz0, hz1, hz2⟩ := info_parts Try.infoL6
  go_enter Try.func113, Try.ntmps113
  go_wp2_with fail
  refine (HNM.out _).mono ?_
  rintro e w' ⟨rfl, rfl⟩
  go_wp2_with fail
  refine (HIN.out _).mono ?_
  rintro e w' ⟨rfl, rfl⟩
  go_wp2_with fail
  have ht2 := hp_lt HT2.out
  generalize w1.alloc (.cells #[.int .i64 0, .string nm, .slice none 0 0] 87) = w2 at *
  go_loopw [1, 8] (fun av jv wr => ∃ (i : Nat) (v : Value) (ks : List (List Value × List Int)), ks.length ≤ m ∧ i ≤ L.length ∧ k + 1 ≤ i ∧ av = .int .i64 (i : Int) ∧ jv = .int .i64 (ks.length : Int) ∧ Hid (wr.ownsRow w2.heap.size 87 3 v ks.length (kCs ks)) ∧ Hid (wr.heap[w.heap.size]? = some (.cells #[.int .i64 0, .string { data := #[] }, .slice none 0 0] 87)) ∧ Hid (wr.heap[w0.heap.size]? = some (.cells #[.int .i64 0, .string nm, .int .i64 (m : Int)] 145)) ∧ Hid (wr.heap[w1.heap.size]? = some (.cells #[.int .i64 0, .string nm, v] 87)) ∧ Hid (Below w.heap.size w wr) ∧ Hid (∀ q ∈ ks, TS (fun x => w2.heap.size ≤ x ∧ v.ownBlock ≠ some x) wr f q.1 q.2) ∧ Hid (R = preV (kVs ks) (pK (pT f) (m - ks.length) (L.drop i))) ∧ w2.heap.size ≤ wr.heap.size) (fun _ jv _ => m - (intOf jv).toNat)
  case atStart => exact ⟨k + 1, .slice none 0 0, [], by simp, by omega, by omega, by go_num, rfl, Lib.hid (World.ownsRow_nil _ _ _ _), HX2, HC2, HT2, HB2, Lib.hid (by simp), HPK, Nat.le_refl _⟩
  case round =>
    clear HX2 HC2 HT2 HB2 HX1 HC1 HB1 HPK d0 d1 d2 c0 c1 c2 HNM HIN
    obtain ⟨wa, rfl⟩ : ∃ z : World, z = wr := ⟨_, rfl⟩
    obtain ⟨i, v, ks, hj, hi, hik, rfl, rfl, HOW, HX, HC, HT, HB, HKS, HPK, hsz⟩ := hrel
    obtain ⟨⟨-, -, d2⟩, -⟩ := box3 HC.out
    obtain ⟨va, vn, hvv⟩ := form_of_own HOW.out
    subst hvv
    obtain ⟨⟨t0, t1, t2⟩, s0, s1, s2⟩ := box3 HT.out
    by_cases hjm : ks.length < m
    case neg =>
      obtain rfl : m = ks.length := by omega
      have HYES : Hid (R = some (kVs ks, L.drop i)) := Lib.hid (by rw [HPK.out, Nat.sub_self]; simp [pK, preV])
      have hcap := own_cap HOW.out
      have HBC := Lib.hid (below_set (below_set (below_set HB.out (Nat.le_refl _) 0 (.int .i64 0)) (Nat.le_refl _) 1 (.string nm)) (Nat.le_refl _) 2 (.slice va ks.length vn))
      have HKC := Lib.hid (kept_set (kept_set (kept_set (Kept.refl (fun x => w2.heap.size ≤ x) wa) (X := w.heap.size) (by omega) 0 (.int .i64 0)) (X := w.heap.size) (by omega) 1 (.string nm)) (X := w.heap.size) (by omega) 2 (.slice va ks.length vn))
      obtain ⟨⟨sa0, -, -⟩, sf0, -, -⟩ := box3 HX.out
      have HSA := Lib.hid (box3_s0 HX.out (.int .i64 0))
      generalize hsA : (wa).setCell ⟨w.heap.size, 0, none⟩ (.int .i64 0) = wsA at *
      obtain ⟨⟨-, sa1, -⟩, -, sf1, -⟩ := box3 HSA.out
      have HSB := Lib.hid (box3_s1 HSA.out (.string nm))
      generalize hsB : wsA.setCell ⟨w.heap.size, 1, none⟩ (.string nm) = wsB at *
      obtain ⟨⟨-, -, sa2⟩, -, -, sf2⟩ := box3 HSB.out
      have HSC := Lib.hid (box3_s2 HSB.out (.slice va ks.length vn))
      generalize hsC : wsB.setCell ⟨w.heap.size, 2, none⟩ (.slice va ks.length vn) = wsC at *
      obtain ⟨⟨sg0, sg1, sg2⟩, -⟩ := box3 HSC.out
      go_wp2_with fail
      refine bodyPost_ret (v := .tuple #[.agg #[.int .i64 0, .string nm, .slice va ks.length vn], .int .i64 (i : Int)]) (by simp [results, Try.results113, go_sem, sg0, sg1, sg2]) rfl ?_
      refine ⟨_, _, _, _, _, _, rfl, HBC.out, (fun h => by rw [HYES.out] at h; cases h), fun vs r h => ?_⟩
      rw [HYES.out] at h
      simp only [Option.some.injEq, Prod.mk.injEq] at h
      obtain ⟨rfl, rfl⟩ := h
      refine ⟨by rw [List.length_drop]; omega, ⟨_, _, _, _, _, rfl, hcap.1, hcap.2, .inr ⟨rfl, ks, rfl, by omega, ?_, fun q hq => (HKS.out q hq).keep (HKC.out.sub fun x hx => hx.1) (fun x hx _ => by omega), rfl⟩⟩⟩
      exact (RS.own (S := fun x => w2.heap.size ≤ x) HOW.out (fun g hg => (HOW.out.lt g hg).1)).keep HKC.out (fun x hx _ => by omega)
    go_wp2_with fail
    refine (HIH.out i wa (HR0.out.below (HB.out.mono hB)) (Nat.le_trans hB HB.out.size) hi (by omega)).mono ?_
    rintro e w3 ⟨v1, nm1, sa, sn, sc, en, rfl, hb, hno, hyes⟩
    have HB3 := Lib.hid hb
    have HX4 := Lib.hid (hp_alloc (.cells #[.int .i64 v1, .string nm1, .slice sa sn sc] 87) (hp_later hb HX.out))
    have HC4 := Lib.hid (hp_alloc (.cells #[.int .i64 v1, .string nm1, .slice sa sn sc] 87) (hp_later hb HC.out))
    have HT4 := Lib.hid (hp_alloc (.cells #[.int .i64 v1, .string nm1, .slice sa sn sc] 87) (hp_later hb HT.out))
    have HN4 := Lib.hid (heap_alloc_new w3 (.cells #[.int .i64 v1, .string nm1, .slice sa sn sc] 87))
    have HB4 := Lib.hid ((rstep HB.out hb).alloc (Nat.le_trans HB.out.size hb.size) (.cells #[.int .i64 v1, .string nm1, .slice sa sn sc] 87))
    have HO4 := Lib.hid ((own_later HOW.out hb).alloc (.cells #[.int .i64 v1, .string nm1, .slice sa sn sc] 87))
    have HK4 := Lib.hid (kept_alloc (kept_below (S := fun x => w2.heap.size ≤ x ∧ (Value.slice va ks.length vn).ownBlock ≠ some x) hb) (.cells #[.int .i64 v1, .string nm1, .slice sa sn sc] 87))
    have HJ4 := Lib.hid (kept_alloc (Kept.refl (fun x => wa.heap.size ≤ x) w3) (.cells #[.int .i64 v1, .string nm1, .slice sa sn sc] 87))
    have hz3 := hb.size
    have hz4 : w3.heap.size < (w3.alloc (.cells #[.int .i64 v1, .string nm1, .slice sa sn sc] 87)).heap.size := by simp
    clear hb t0 t1 t2 s0 s1 s2 d2
    generalize h4 : w3.alloc (.cells #[.int .i64 v1, .string nm1, .slice sa sn sc] 87) = w4 at *
    cases hq : pT f (L.drop i) with
    | none =>
      obtain rfl := hno hq
      have HNO : Hid (R = none) := Lib.hid (by rw [HPK.out, show m - ks.length = (m - (ks.length + 1)) + 1 by omega, pK_stop hq]; rfl)
      have HBC := Lib.hid (below_set (below_set (below_set HB4.out (Nat.le_refl _) 0 (.int .i64 0)) (Nat.le_refl _) 1 (.string { data := #[] })) (Nat.le_refl _) 2 (.slice none 0 0))
      obtain ⟨⟨sa0, -, -⟩, sf0, -, -⟩ := box3 HX4.out
      have HSA := Lib.hid (box3_s0 HX4.out (.int .i64 0))
      generalize hsA : (w4).setCell ⟨w.heap.size, 0, none⟩ (.int .i64 0) = wsA at *
      obtain ⟨⟨-, sa1, -⟩, -, sf1, -⟩ := box3 HSA.out
      have HSB := Lib.hid (box3_s1 HSA.out (.string { data := #[] }))
      generalize hsB : wsA.setCell ⟨w.heap.size, 1, none⟩ (.string { data := #[] }) = wsB at *
      obtain ⟨⟨-, -, sa2⟩, -, -, sf2⟩ := box3 HSB.out
      have HSC := Lib.hid (box3_s2 HSB.out (.slice none 0 0))
      generalize hsC : wsB.setCell ⟨w.heap.size, 2, none⟩ (.slice none 0 0) = wsC at *
      obtain ⟨⟨sg0, sg1, sg2⟩, -⟩ := box3 HSC.out
      go_wp2_with fail
      refine bodyPost_ret (v := .tuple #[.agg #[.int .i64 0, .string { data := #[] }, .slice none 0 0], .int .i64 0]) (by simp [results, Try.results113, go_sem, sg0, sg1, sg2]) rfl ?_
      exact ⟨_, _, _, _, _, _, rfl, HBC.out, fun _ => rfl, fun vs r h => by rw [HNO.out] at h; cases h⟩
    | some p =>
      obtain ⟨vs, r⟩ := p
      obtain ⟨hen, hts⟩ := hyes vs r hq
      obtain ⟨i2, rfl, hi1, hi2, rfl⟩ : ∃ i2 : Nat, en = (i2 : Int) ∧ i < i2 ∧ i2 ≤ L.length ∧ r = L.drop i2 := by
        obtain ⟨⟨kk, hkk, hr⟩, hlt⟩ := pT_suf hq
        rw [List.drop_drop] at hr
        rw [List.length_drop] at hkk hlt
        rw [hr, List.length_drop] at hlt hen
        exact ⟨i + kk, by omega, by omega, by omega, hr⟩
      have HTS := Lib.hid hts
      have HPN : Hid (R = preV (kVs (ks ++ [([.int .i64 v1, .string nm1, .slice sa sn sc], vs)])) (pK (pT f) (m - (ks.length + 1)) (L.drop i2))) := Lib.hid (by
        rw [HPK.out, show m - ks.length = (m - (ks.length + 1)) + 1 by omega, pK_next hq, preV_next, kVs_put])
      have hne : ((i2 : Int) == 0) = false := beq_eq_false_iff_ne.2 (by omega)
      clear hq hts hno hyes hen
      obtain ⟨⟨t0, t1, t2⟩, -⟩ := box3 HT4.out
      obtain ⟨⟨x0, x1, x2⟩, -⟩ := box3 HN4.out
      have hO4 := HO4.out
      have HNW := Lib.hid (World.news_of_block (cs := #[.int .i64 v1, .string nm1, .slice sa sn sc]) (t := 87) (fr := (0, 0)) (heap_alloc_new w4 (.cells #[.int .i64 v1, .string nm1, .slice sa sn sc] 87)))
      have hks5 : ks.length ≤ 5 := by omega
      clear hO4
      go_wp2_with (at_builtin; refine wpList_append_lies _ rfl _ _ 85 rfl w2.heap.size 87 i0 (.agg #[.int .i64 0, .string ByteArray.empty, .slice none 0 0]) 3 48 Try.underlying85 hi0 hz0 hz1 hz2 rfl (by decide) _ ks.length _ rfl (HO4.out.alloc _) _ 1 1 [.int .i64 v1, .string nm1, .slice sa sn sc] rfl rfl HNW.out (by simp [Value.oneCell']) (by decide) (by unfold maxLen; omega) (by omega) (by simp; omega) _ rfl ?_)
      intro g cp w6 hown hgrow hat hlt
      have hnA : (Value.slice va ks.length vn).ownBlock ≠ some w.heap.size := tag_at HO4.out (by omega)
      have hnC : (Value.slice va ks.length vn).ownBlock ≠ some w0.heap.size := tag_at HO4.out (by omega)
      have hnT : (Value.slice va ks.length vn).ownBlock ≠ some w1.heap.size := tag_at HO4.out (by omega)
      have HT6 := Lib.hid (hp_grown hgrow (hp_alloc (.cells #[.int .i64 v1, .string nm1, .slice sa sn sc] 87) HT4.out) hnT)
      have HX7 := Lib.hid (hp_set (Y := w1.heap.size) (i := 2) (u := .slice (some ⟨g, 0, none⟩) (ks.length + 1) cp) (hp_grown hgrow (hp_alloc (.cells #[.int .i64 v1, .string nm1, .slice sa sn sc] 87) HX4.out) hnA) (by omega))
      have HC7 := Lib.hid (hp_set (Y := w1.heap.size) (i := 2) (u := .slice (some ⟨g, 0, none⟩) (ks.length + 1) cp) (hp_grown hgrow (hp_alloc (.cells #[.int .i64 v1, .string nm1, .slice sa sn sc] 87) HC4.out) hnC) (by omega))
      have HT7 := Lib.hid (box3_s2 HT6.out (.slice (some ⟨g, 0, none⟩) (ks.length + 1) cp))
      have hzb := HB.out.size
      have HB7 := Lib.hid (below_set (Below.grown (HB4.out.alloc (by omega) (.cells #[.int .i64 v1, .string nm1, .slice sa sn sc] 87)) hgrow (by simp; omega) (fun q hq => by have := (HO4.out.lt q hq).1; omega)) (X := w1.heap.size) (by omega) 2 (.slice (some ⟨g, 0, none⟩) (ks.length + 1) cp))
      have HO7 := Lib.hid (ownsRow_setCell_below hown (a := ⟨w1.heap.size, 2, none⟩) (by simp only; omega) (.slice (some ⟨g, 0, none⟩) (ks.length + 1) cp))
      have HK7 := Lib.hid (kept_set (kept_grown (kept_alloc HK4.out (.cells #[.int .i64 v1, .string nm1, .slice sa sn sc] 87)) hgrow (fun k hk _ => hk.2)) (X := w1.heap.size) (fun hs => by have := hs.1; omega) 2 (.slice (some ⟨g, 0, none⟩) (ks.length + 1) cp))
      have HJ7 := Lib.hid (kept_set (kept_grown (kept_alloc HJ4.out (.cells #[.int .i64 v1, .string nm1, .slice sa sn sc] 87)) hgrow (fun k hk _ e => by have := (HOW.out.lt k e).2; omega)) (X := w1.heap.size) (by omega) 2 (.slice (some ⟨g, 0, none⟩) (ks.length + 1) cp))
      have hgb : (Value.slice va ks.length vn).ownBlock = some g ∨ g = w4.heap.size + 1 := by
        rcases hat with e | e
        · exact .inl e
        · right; simpa using e
      have HKN : Hid (∀ q ∈ ks ++ [([.int .i64 v1, .string nm1, .slice sa sn sc], vs)], TS (fun x => w2.heap.size ≤ x ∧ (Value.slice (some ⟨g, 0, none⟩) (ks.length + 1) cp).ownBlock ≠ some x) (w6.setCell ⟨w1.heap.size, 2, none⟩ (.slice (some ⟨g, 0, none⟩) (ks.length + 1) cp)) f q.1 q.2) := Lib.hid (by
        intro q hq
        rcases List.mem_append.1 hq with hq | hq
        · refine (HKS.out q hq).keep HK7.out (fun x hx hl => ⟨hx.1, fun e => ?_⟩)
          simp only [Value.ownBlock, Option.some.injEq] at e
          rcases hgb with h | h
          · exact hx.2 (by rw [h, e])
          · omega
        · simp only [List.mem_singleton] at hq
          subst hq
          refine HTS.out.keep HJ7.out (fun x hx hl => ⟨by omega, fun e => ?_⟩)
          simp only [Value.ownBlock, Option.some.injEq] at e
          rcases hgb with h | h
          · have := (HOW.out.lt g h).2; omega
          · omega)
      obtain ⟨⟨-, -, y2⟩, -, -, z2⟩ := box3 HT6.out
      have HZ : Hid (w2.heap.size ≤ (w6.setCell ⟨w1.heap.size, 2, none⟩ (.slice (some ⟨g, 0, none⟩) (ks.length + 1) cp)).heap.size) := Lib.hid (by have := HB7.out.size; have := hgrow.size; simp at this ⊢; omega)
      clear hown hgrow hat hgb
      go_wp2_with fail
      go_roundw
      case rel => exact ⟨i2, _, ks ++ [([.int .i64 v1, .string nm1, .slice sa sn sc], vs)], by rw [List.length_append]; simp; omega, by omega, by omega, rfl, by rw [List.length_append]; go_num, Lib.hid (by rw [kCs_put, List.length_append]; exact HO7.out), HX7, HC7, HT7, HB7, HKN, Lib.hid (by rw [HPN.out, List.length_append]; rfl), HZ.out⟩
      case measure => (simp [intOf]; try omega)
end Go.Proofs.Ytlmgckijbamgpaa
