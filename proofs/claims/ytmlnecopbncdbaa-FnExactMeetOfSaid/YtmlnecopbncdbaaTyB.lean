/- The tree of a row: the program's walk. -/
import Derived.Test.YtmlnecopbncdbaaTyK
namespace Go.Proofs.Ytmlnecopbncdbaa
set_option linter.unusedVariables false
set_option linter.unusedSimpArgs false
open Go.ChangeShapes Go.WideShapes Go.ChangeAt Go.RowKit
set_option maxRecDepth 100000

theorem Try.infoKPtr : (Try.prog.info? 65).map (fun i => (i.zero, i.size, i.bytes)) = some (some (.pointer none), 1, 8) := by kernel_rfl
/-- what the program's reading hands out -/
def FromOf (L : List Ty) (i : Nat) (w : World) (e : Ending) (w' : World) : Prop :=
  ∃ p t en, e = .returned (.tuple #[.pointer (some ⟨p, 0, none⟩), .int .i64 ((en : Nat) : Int)]) ∧ en ≤ L.length ∧ PTree L i t en ∧ Below w.heap.size w w' ∧ KP (fun b => w.heap.size ≤ b) w' t (.pointer (some ⟨p, 0, none⟩))
theorem countT_pos (t : Tr) : 1 ≤ countT t := by
  cases t with
  | node k n o m mo ks => rw [countT]; omega
theorem box6_s5 {wx : World} {X : Nat} {a b c d e f : Value} {T : TypeId} (h : wx.heap[X]? = some (.cells #[a, b, c, d, e, f] T)) (p : Value) : (wx.setCell ⟨X, 5, none⟩ p).heap[X]? = some (.cells #[a, b, c, d, e, p] T) := by
  simp [World.setCell, Array.getElem?_modify, h]
theorem box6_f5 {wx : World} {X : Nat} {a b c d e f : Value} {T : TypeId} (h : wx.heap[X]? = some (.cells #[a, b, c, d, e, f] T)) : wx.frozen? ⟨X, 5, none⟩ = false := by simp [World.frozen?, h]
set_option maxHeartbeats 8000000 in
theorem impl_from_one (B : Nat) (L : List Ty) (i : Nat) (a : Option Addr) (cap : Nat) (w : World) (hc : L.length ≤ cap) (hcm : cap ≤ 9223372036854775807) (hl : L.length ≤ 1048576) (hnm : ∀ x ∈ L, x.name.size ≤ maxLen) (hrow : Rb B w a (tysV L)) (hB : B ≤ w.heap.size) (hi : i < L.length)
    (IH : ∀ (j : Nat) (wx : World), i < j → j < L.length → Rb B wx a (tysV L) → B ≤ wx.heap.size → Calls Try.prog 60 #[.slice a L.length cap, .int .i64 (j : Int)] wx (FromOf L j wx)) :
    Calls Try.prog 60 #[.slice a L.length cap, .int .i64 (i : Int)] w (FromOf L i w) := by
  have HIH := Lib.hid IH
  clear IH
  have HROW := Lib.hid hrow
  obtain ⟨x, hx⟩ : ∃ x, L[i]? = some x := ⟨L[i], List.getElem?_eq_getElem hi⟩
  obtain ⟨b, off, rfl, hbl, c0, c1, c2, c3, c4, c5⟩ := tys_cells hrow hx
  have HX := Lib.hid hx
  have hnz := hnm x (List.mem_of_getElem? hx)
  clear hx hrow hnm
  obtain ⟨kd, nm, no, mu, up, mo⟩ := x
  simp only at c0 c1 c2 c3 c4 c5 hnz
  have hbw : b < w.heap.size := by omega
  obtain ⟨i0, hi0, hz0, hz1, hz2⟩ := info_parts Try.infoKPtr
  unfold FromOf
  go_enter Try.func60, Try.ntmps60
  go_wp2_with fail
  have HB1 := Lib.hid (((Below.refl w.heap.size w).alloc (Nat.le_refl _) (.cells #[.int .i64 kd, .string nm, .int .i64 no, .bool mu, .int .i64 up, .int .i64 mo] 85)))
  have hw1 := HB1.out.size
  have hwl : w.heap.size < (w.alloc (.cells #[.int .i64 kd, .string nm, .int .i64 no, .bool mu, .int .i64 up, .int .i64 mo] 85)).heap.size := by simp
  have e1 : w.heap.size + 1 = (w.alloc (.cells #[.int .i64 kd, .string nm, .int .i64 no, .bool mu, .int .i64 up, .int .i64 mo] 85)).heap.size := by simp
  rw [e1]
  clear e1
  generalize w.alloc (.cells #[.int .i64 kd, .string nm, .int .i64 no, .bool mu, .int .i64 up, .int .i64 mo] 85) = w1 at *
  have HT2 := Lib.hid (heap_alloc_new w1 (.cells #[.int .i64 kd, .string nm, .int .i64 no, .bool mu, .int .i64 mo, .slice none 0 0] 103))
  have HB2 := Lib.hid (HB1.out.alloc hw1 (.cells #[.int .i64 kd, .string nm, .int .i64 no, .bool mu, .int .i64 mo, .slice none 0 0] 103))
  have ht2 := hp_lt HT2.out
  generalize w1.alloc (.cells #[.int .i64 kd, .string nm, .int .i64 no, .bool mu, .int .i64 mo, .slice none 0 0] 103) = w2 at *
  clear c0 c1 c2 c3 c4 c5
  go_loopw [8] (fun ev wr => ∃ (en : Nat) (v : Value) (vs : List Value) (ks : List Tr), ev = .int .i64 (en : Int) ∧ i < en ∧ en ≤ L.length ∧ ks.length ≤ en ∧ Hid (wr.ownsRow w2.heap.size 65 1 v ks.length vs) ∧ Hid (wr.heap[w1.heap.size]? = some (.cells #[.int .i64 kd, .string nm, .int .i64 no, .bool mu, .int .i64 mo, v] 103)) ∧ Hid (Below w.heap.size w wr) ∧ Hid (KPs (fun x => w2.heap.size ≤ x ∧ v.ownBlock ≠ some x) wr ks vs) ∧ Hid (∀ ts e, Seg L i en ts e → Seg L i (i + 1) (ks ++ ts) e) ∧ Hid (holdsK kd = false → ks = [] ∧ en = i + 1) ∧ w2.heap.size ≤ wr.heap.size) (fun ev _ => L.length - (intOf ev).toNat)
  case atStart => exact ⟨i + 1, .slice none 0 0, [], [], by go_num, by omega, by omega, by simp, Lib.hid (World.ownsRow_nil _ _ _ _), HT2, HB2, Lib.hid (by rw [KPs]), Lib.hid (fun ts e h => h), Lib.hid (fun _ => ⟨rfl, rfl⟩), Nat.le_refl _⟩
  case round =>
    clear HT2 HB2 HB1
    obtain ⟨wa, rfl⟩ : ∃ z : World, z = wr := ⟨_, rfl⟩
    obtain ⟨en, v, vs, ks, rfl, hie, hen, hkl, HOW, HT, HB, HKS, HSEG, HNH, hsz⟩ := hrel
    obtain ⟨va, vn, hvv⟩ := form_of_own HOW.out
    subst hvv
    obtain ⟨t0, t1, t2, t3, t4, t5⟩ := box6 HT.out
    have HHO := Lib.hid (impl_holds w1.heap.size kd wa t0)
    have HEND : Hid ((holdsK kd = true → Seg L i en [] en) → ∃ p t e2, (Ending.returned (.tuple #[.pointer (some ⟨w1.heap.size, 0, none⟩), .int .i64 (en : Int)]) : Ending) = .returned (.tuple #[.pointer (some ⟨p, 0, none⟩), .int .i64 ((e2 : Nat) : Int)]) ∧ e2 ≤ L.length ∧ PTree L i t e2 ∧ Below w.heap.size w wa ∧ KP (fun b => w.heap.size ≤ b) wa t (.pointer (some ⟨p, 0, none⟩))) := Lib.hid (fun hs => by
      have hcap := own_cap HOW.out
      refine ⟨w1.heap.size, trOf ⟨kd, nm, no, mu, up, mo⟩ ks, en, rfl, hen, ⟨_, ks, HX.out, rfl, fun hk => by have := HSEG.out [] en (hs hk); rwa [List.append_nil] at this, HNH.out⟩, HB.out, ?_⟩
      rw [trOf, KP]
      exact ⟨w1.heap.size, va, vn, vs, rfl, hw1, HT.out, hnz, hcap.1, hcap.2, RS.own (S := fun x => w.heap.size ≤ x) HOW.out (fun g hg => by have := (HOW.out.lt g hg).1; omega), KPs.keep (Kept.refl _ _) (fun x hx _ => by omega) ks vs HKS.out⟩)
    cases hh : holdsK kd with
    | false =>
      rw [hh] at HHO
      go_wp2_with fail
      refine HHO.out.mono ?_
      rintro e w' ⟨rfl, rfl⟩
      go_wp2_with fail
      go_ret2
      exact HEND.out (fun h => by rw [hh] at h; cases h)
    | true =>
    rw [hh] at HHO
    by_cases hel : en < L.length
    case neg =>
      have HE2 := Lib.hid (HEND.out (fun _ => .nil (fun y hy => by rw [List.getElem?_eq_none (by omega)] at hy; cases hy)))
      clear HEND
      go_wp2_with fail
      refine HHO.out.mono ?_
      rintro e w' ⟨rfl, rfl⟩
      go_wp2_with fail
      go_ret2
      exact HE2.out
    obtain ⟨y, hy⟩ : ∃ y, L[en]? = some y := ⟨L[en], List.getElem?_eq_getElem hel⟩
    obtain ⟨b2, off2, hbe, hbl2, -, -, -, -, c4, -⟩ := tys_cells (HROW.out.below (HB.out.mono hB)) hy
    simp only [Option.some.injEq, Addr.mk.injEq, and_true] at hbe
    obtain ⟨rfl, rfl⟩ := hbe
    by_cases hup : y.up = (i : Int)
    case neg =>
      have HE2 := Lib.hid (HEND.out (fun _ => .nil (fun z hz => by rw [hy] at hz; cases hz; exact hup)))
      clear HEND hy
      go_wp2_with fail
      refine HHO.out.mono ?_
      rintro e w' ⟨rfl, rfl⟩
      go_wp2_with fail
      go_ret2
      exact HE2.out
    clear HEND HNH
    rw [hup] at c4
    have HY := Lib.hid hy
    have HUP := Lib.hid hup
    have HR3 := Lib.hid (HROW.out.below (HB.out.mono hB))
    have hbs := HB.out.size
    clear hy hup
    go_wp2_with fail
    refine HHO.out.mono ?_
    rintro e w' ⟨rfl, rfl⟩
    go_wp2_with fail
    refine (HIH.out en wa hie hel HR3.out (Nat.le_trans hB hbs)).mono ?_
    rintro e w3 ⟨pb, tp, e2, rfl, he2, hpt, hb, hkp⟩
    have HB3 := Lib.hid (rstep HB.out hb)
    have hz3 := hb.size
    have HT3 := Lib.hid (hp_later hb HT.out)
    have HO3 := Lib.hid (own_later HOW.out hb)
    have HK3 := Lib.hid (kept_below (S := fun x => w2.heap.size ≤ x ∧ (Value.slice va ks.length vn).ownBlock ≠ some x) hb)
    have HTP := Lib.hid hkp
    have HPT := Lib.hid hpt
    clear hb t0 t1 t2 t3 t4 t5 hkp hpt c4
    obtain ⟨t0, t1, t2, t3, t4, t5⟩ := box6 HT3.out
    have hvl := HKS.out.len
    have hmid : en < e2 := by have := HPT.out.count; have := countT_pos tp; omega
    have HSEG2 : Hid (∀ ts e, Seg L i e2 ts e → Seg L i (i + 1) ((ks ++ [tp]) ++ ts) e) := Lib.hid (fun ts e h => by
      rw [List.append_assoc]
      obtain ⟨y2, ks2, p1, rfl, p3, p4⟩ := HPT.out
      have hy := HY.out
      rw [p1] at hy; cases hy
      exact HSEG.out _ _ (.cons p1 HUP.out p3 p4 h))
    clear HSEG HPT
    have hcp9 := own_cap HO3.out
    go_wp2_with (at_builtin; refine wpList_append_lies _ rfl _ _ 101 rfl w2.heap.size 65 i0 (.pointer none) 1 8 Try.underlying101 hi0 hz0 hz1 hz2 rfl (by decide) _ ks.length _ rfl (HO3.out.alloc _) _ 1 1 [.pointer (some ⟨pb, 0, none⟩)] rfl rfl (news_one _ _ _) (by simp [Value.oneCell']) (by decide) (by unfold maxLen; omega) (by omega) (by simp; omega) _ rfl ?_)
    intro g cp w6 hown hgrow hat hlt6
    have hnT : (Value.slice va ks.length vn).ownBlock ≠ some w1.heap.size := tag_at HO3.out (by omega)
    have HT6 := Lib.hid (hp_grown hgrow (hp_alloc (.cells #[.pointer (some ⟨pb, 0, none⟩)] 65) HT3.out) hnT)
    have HT7 := Lib.hid (box6_s5 HT6.out (.slice (some ⟨g, 0, none⟩) (ks.length + 1) cp))
    have hzb := HB.out.size
    have HBG := Lib.hid (Below.grown (HB3.out.alloc (by omega) (.cells #[.pointer (some ⟨pb, 0, none⟩)] 65)) hgrow (by simp; omega) (fun q hq => by have := (HO3.out.lt q hq).1; omega))
    have HB7 := Lib.hid (below_set HBG.out (X := w1.heap.size) (by omega) 5 (.slice (some ⟨g, 0, none⟩) (ks.length + 1) cp))
    have HO7 := Lib.hid (ownsRow_setCell_below hown (a := ⟨w1.heap.size, 5, none⟩) (by simp only; omega) (.slice (some ⟨g, 0, none⟩) (ks.length + 1) cp))
    have HK7 := Lib.hid (kept_set (kept_grown (kept_alloc HK3.out (.cells #[.pointer (some ⟨pb, 0, none⟩)] 65)) hgrow (fun k hk _ => hk.2)) (X := w1.heap.size) (fun hs => by have := hs.1; omega) 5 (.slice (some ⟨g, 0, none⟩) (ks.length + 1) cp))
    have HJ7 := Lib.hid (kept_set (kept_grown (kept_alloc (Kept.refl (fun x => wa.heap.size ≤ x) w3) (.cells #[.pointer (some ⟨pb, 0, none⟩)] 65)) hgrow (fun k hk _ e => by have := (HOW.out.lt k e).2; omega)) (X := w1.heap.size) (by omega) 5 (.slice (some ⟨g, 0, none⟩) (ks.length + 1) cp))
    have hgb : (Value.slice va ks.length vn).ownBlock = some g ∨ g = w3.heap.size + 1 := by
      rcases hat with e | e
      · exact .inl e
      · right; simpa using e
    have HKN : Hid (KPs (fun x => w2.heap.size ≤ x ∧ (Value.slice (some ⟨g, 0, none⟩) (ks.length + 1) cp).ownBlock ≠ some x) (w6.setCell ⟨w1.heap.size, 5, none⟩ (.slice (some ⟨g, 0, none⟩) (ks.length + 1) cp)) (ks ++ [tp]) (vs ++ [.pointer (some ⟨pb, 0, none⟩)])) := Lib.hid (by
      refine KPs.put (HTP.out.keep HJ7.out (fun x hx hl => ⟨by omega, fun e => ?_⟩) tp _) (HKS.out.keep HK7.out (fun x hx hl => ⟨hx.1, fun e => ?_⟩) ks vs)
      · simp only [Value.ownBlock, Option.some.injEq] at e
        rcases hgb with h | h
        · have := (HOW.out.lt g h).2; omega
        · omega
      · simp only [Value.ownBlock, Option.some.injEq] at e
        rcases hgb with h | h
        · exact hx.2 (by rw [h, e])
        · omega)
    obtain ⟨-, -, -, -, -, y5⟩ := box6 HT6.out
    have z5 : w6.frozen? ⟨w1.heap.size, 5, none⟩ = false := box6_f5 HT6.out
    have HZ : Hid (w2.heap.size ≤ (w6.setCell ⟨w1.heap.size, 5, none⟩ (.slice (some ⟨g, 0, none⟩) (ks.length + 1) cp)).heap.size) := Lib.hid (by have := hgrow.size; simp at this ⊢; omega)
    clear hown hgrow hat hgb
    go_wp2_with fail
    go_roundw
    case rel => exact ⟨e2, _, vs ++ [.pointer (some ⟨pb, 0, none⟩)], ks ++ [tp], rfl, by omega, he2, by rw [List.length_append]; simp; omega, Lib.hid (by rw [List.length_append]; exact HO7.out), HT7, HB7, HKN, HSEG2, Lib.hid (fun h => by cases h), HZ.out⟩
    case measure => (simp [intOf]; try omega)
theorem impl_from (B : Nat) (L : List Ty) (a : Option Addr) (cap : Nat) (hc : L.length ≤ cap) (hcm : cap ≤ 9223372036854775807) (hl : L.length ≤ 1048576) (hnm : ∀ x ∈ L, x.name.size ≤ maxLen) : ∀ (f i : Nat) (w : World), L.length - i ≤ f → i < L.length → Rb B w a (tysV L) → B ≤ w.heap.size → Calls Try.prog 60 #[.slice a L.length cap, .int .i64 (i : Int)] w (FromOf L i w)
  | 0, i, w, hf, hi, _, _ => by omega
  | f + 1, i, w, hf, hi, hrow, hB => impl_from_one B L i a cap w hc hcm hl hnm hrow hB hi (fun j wx h1 h2 h3 h4 => impl_from B L a cap hc hcm hl hnm f j wx (by omega) h2 h3 h4)
end Go.Proofs.Ytmlnecopbncdbaa
