/- The variables of a term: the program's contract. -/
import Derived.Test.YtlmgckijbamgpaaTmD
import Derived.Test.YtlmgckijbamgpaaTm9
import Derived.Laws.OwnMore
namespace Go.Proofs.Ytlmgckijbamgpaa
set_option linter.unusedVariables false
open Go.ChangeShapes Go.WideShapes Go.ChangeAt Go.RowKit
set_option maxRecDepth 100000

def TreeP (L : List Cel) (w : World) (e : Ending) (w' : World) : Prop :=
  ∃ p, e = .returned (.pointer p) ∧ Below w.heap.size w w' ∧ (goodT L = none → p = none) ∧ (∀ vs, goodT L = some vs → TP (fun x => w.heap.size ≤ x) w' L.length (.pointer p) vs)
set_option maxHeartbeats 2000000 in
theorem impl_treeOf (B : Nat) (a : Option Addr) (cap : Nat) (L : List Cel) (w : World) (hc : L.length ≤ cap) (hcm : cap ≤ 9223372036854775807) (hnm : ∀ c ∈ L, c.2.1.size ≤ maxLen) (hrow : CRow B w a L) (hB : B ≤ w.heap.size) :
    Calls Try.prog 60 #[.agg #[.slice a L.length cap]] w (TreeP L w) := by
  unfold TreeP
  have HBX := Lib.hid (heap_alloc_new w (.cells #[.slice a L.length cap] 31))
  have HBB := Lib.hid ((Below.refl w.heap.size w).alloc (Nat.le_refl _) (.cells #[.slice a L.length cap] 31))
  generalize hwb : w.alloc (.cells #[.slice a L.length cap] 31) = wb at *
  have hzb := hp_lt HBX.out
  have b0 : wb.cell? ⟨w.heap.size, 0, none⟩ = some (.slice a L.length cap) := by simp [World.cell?, HBX.out]
  by_cases h30 : 30 < L.length
  · have HG := Lib.hid (good_long h30)
    have h30i : (L.length : Int) > 30 := by omega
    go_enter Try.func60, Try.ntmps60
    go_wp2_with fail
    go_ret
    exact ⟨_, rfl, HBB.out, fun _ => rfl, fun vs h => by rw [HG.out] at h; cases h⟩
  have h30i : ¬ (L.length : Int) > 30 := by omega
  have HT := Lib.hid (impl_from B L.length L a cap wb (Nat.le_refl _) hc hcm hnm (hrow.below (HBB.out.mono hB)) (Nat.le_trans hB (Nat.le_of_lt hzb)))
  unfold FromOf at HT
  go_enter Try.func60, Try.ntmps60
  go_wp2_with fail
  refine HT.out.mono ?_
  rintro e w3 ⟨p, ra, rn, rc, rfl, hb, hno, hyes⟩
  have HB3 := Lib.hid (HBB.out.trans (hb.mono HBB.out.size))
  clear hb
  cases hq : pT L.length L with
  | none =>
    obtain ⟨rfl, rfl⟩ := hno hq
    have HG := Lib.hid (good_none h30 hq)
    clear hno hyes hq
    go_wp2_with fail
    go_ret
    exact ⟨_, rfl, HB3.out, fun _ => rfl, fun vs h => by rw [HG.out] at h; cases h⟩
  | some pr =>
    obtain ⟨vs, r⟩ := pr
    obtain ⟨rfl, hr1, hr2, hcr, htp⟩ := hyes vs r hq
    have HG := Lib.hid (good_some h30 hq)
    have HTP := Lib.hid htp
    clear hno hyes hq hcr htp
    by_cases hr : 0 < r.length
    · have HN : Hid (goodT L = none) := Lib.hid (by rw [HG.out, if_neg (by intro e; rw [e] at hr; simp at hr)])
      have hri : (r.length : Int) > 0 := by omega
      go_wp2_with fail
      go_ret
      exact ⟨_, rfl, HB3.out, fun _ => rfl, fun us h => by rw [HN.out] at h; cases h⟩
    · have hr0 : r = [] := List.length_eq_zero_iff.1 (by omega)
      have HY : Hid (goodT L = some vs) := Lib.hid (by rw [HG.out, if_pos hr0])
      have hri : ¬ (r.length : Int) > 0 := by omega
      clear hr0
      go_wp2_with fail
      go_ret
      refine ⟨_, rfl, HB3.out, (fun h => by rw [HY.out] at h; cases h), fun us h => ?_⟩
      rw [HY.out] at h
      simp only [Option.some.injEq] at h
      subst h
      exact HTP.out.keep (Kept.refl _ _) (fun x hx _ => by omega)
theorem pick_one (p : Int → Bool) (k : Nat) : pickN p (k + 1) = pickN p k ++ (if p ((k : Int) + 1) = true then [(k : Int) + 1] else []) := rfl
set_option maxHeartbeats 4000000 in
theorem impl_varsOf (B : Nat) (a : Option Addr) (cap : Nat) (L : List Cel) (w : World) (hc : L.length ≤ cap) (hcm : cap ≤ 9223372036854775807) (hnm : ∀ c ∈ L, c.2.1.size ≤ maxLen) (hrow : CRow B w a L) (hB : B ≤ w.heap.size) :
    Calls Try.prog 11 #[.agg #[.slice a L.length cap]] w (MadeV (R_VarsOf L) w) := by
  unfold MadeV
  obtain ⟨i0, hi, hz0, hz1, hz2⟩ := info_parts Try.infoHIntS
  have HBX := Lib.hid (heap_alloc_new w (.cells #[.slice a L.length cap] 31))
  have HBB := Lib.hid ((Below.refl w.heap.size w).alloc (Nat.le_refl _) (.cells #[.slice a L.length cap] 31))
  generalize hwb : w.alloc (.cells #[.slice a L.length cap] 31) = wb at *
  have hzb := hp_lt HBX.out
  have b0 : wb.cell? ⟨w.heap.size, 0, none⟩ = some (.slice a L.length cap) := by simp [World.cell?, HBX.out]
  have HT := Lib.hid (impl_treeOf B a cap L wb hc hcm hnm (hrow.below (HBB.out.mono hB)) (Nat.le_trans hB (Nat.le_of_lt hzb)))
  unfold TreeP at HT
  cases hg : goodT L with
  | none =>
    rw [R_none hg]
    rw [hg] at HT
    go_enter Try.func11, Try.ntmps11
    go_wp2_with fail
    refine HT.out.mono ?_
    rintro e w3 ⟨p, rfl, hb, hno, hyes⟩
    obtain rfl := hno trivial
    have HB3 := Lib.hid (HBB.out.trans (hb.mono HBB.out.size))
    clear hb hyes hno
    go_wp2_with fail
    go_ret2
    exact ⟨_, rfl, World.ownsRow_nil _ _ _ _, HB3.out⟩
  | some vs =>
    rw [R_some hg]
    rw [hg] at HT
    generalize hRR : pickN (fun x => decide (x ∈ vs)) 6 = RR
    have HRR := Lib.hid hRR
    clear hRR
    go_enter Try.func11, Try.ntmps11
    go_wp2_with fail
    refine HT.out.mono ?_
    rintro e w3 ⟨p, rfl, hb, hno, hyes⟩
    have htp := hyes vs rfl
    obtain ⟨pb, rfl⟩ : ∃ pb, p = some ⟨pb, 0, none⟩ := by
      cases hL : L.length with
      | zero => rw [hL] at htp; exact htp.elim
      | succ f => rw [hL] at htp; obtain ⟨b9, _, _, _, _, _, e9, _⟩ := htp; simp only [Value.pointer.injEq] at e9; exact ⟨b9, e9⟩
    have HTP := Lib.hid htp
    have HB3 := Lib.hid (HBB.out.trans (hb.mono HBB.out.size))
    clear hb hyes hno htp
    have HA4 := Lib.hid ((Below.refl w3.heap.size w3).alloc (Nat.le_refl _) (.cells #[] 3))
    have HO4 := Lib.hid (World.ownsRow_lit (base := w3.heap.size) (e := 3) (size := 1) w3 #[] 0 (Nat.le_refl _) (by decide) rfl)
    have HTP4 := Lib.hid (HTP.out.keep (kept_below HA4.out) (T := fun x => x < w3.heap.size) (fun x _ hl => hl))
    have hw3 := HB3.out.size
    go_wp2_with fail
    have HB4 := Lib.hid (HB3.out.trans (HA4.out.mono hw3))
    have hz4 := HA4.out.size
    clear HA4 HTP HT
    generalize w3.alloc (.cells #[] 3) = w4 at *
    go_loopw [5, 6] (fun ov vv wr => ∃ (k : Nat) (v' : Value), k ≤ 6 ∧ ov = v' ∧ vv = .int .i64 ((k : Int) + 1) ∧ Hid (wr.ownsRow w3.heap.size 3 1 v' (pickN (fun x => decide (x ∈ vs)) k).length (ints (pickN (fun x => decide (x ∈ vs)) k))) ∧ Hid (Below w.heap.size w wr) ∧ Hid (TP (fun x => x < w3.heap.size) wr L.length (.pointer (some ⟨pb, 0, none⟩)) vs) ∧ w3.heap.size ≤ wr.heap.size) (fun _ vv _ => 8 - (intOf vv).toNat)
    case atStart => exact ⟨0, _, by omega, rfl, rfl, HO4, HB4, HTP4, hz4⟩
    case round =>
      clear HO4 HB4 HTP4
      obtain ⟨wx, rfl⟩ : ∃ z : World, z = wr := ⟨_, rfl⟩
      obtain ⟨k, v', hk, rfl, rfl, HO, HB, HTP, hsz⟩ := hrel
      have hPL := pickN_len (fun x => decide (x ∈ vs)) k
      have HPO := Lib.hid (pick_one (fun x => decide (x ∈ vs)) k)
      obtain ⟨oa, oc, rfl⟩ := form_of_own HO.out
      by_cases hk6 : k < 6
      case neg =>
        obtain rfl : k = 6 := by omega
        go_wp2_with fail
        go_ret2
        exact ⟨_, rfl, by rw [← HRR.out]; exact own_mono HO.out hw3, HB.out⟩
      have HH := Lib.hid (impl_has _ ((k : Int) + 1) (by omega) L.length wx _ vs HTP.out)
      generalize pickN (fun x => decide (x ∈ vs)) k = pk at *
      cases hin : decide (((k : Int) + 1) ∈ vs) with
      | false =>
        rw [hin] at HH
        have HPN : Hid (pickN (fun x => decide (x ∈ vs)) (k + 1) = pk) := Lib.hid (by rw [HPO.out, hin]; simp)
        clear HPO hin
        go_wp2_with fail
        refine HH.out.mono ?_
        rintro e w6 ⟨rfl, hb⟩
        have HO6 := Lib.hid (own_later HO.out hb)
        have HB6 := Lib.hid (HB.out.trans (hb.mono HB.out.size))
        have HT6 := Lib.hid (HTP.out.keep (kept_below hb) (fun x hx _ => hx))
        have hz6 := hb.size
        clear hb
        go_wp2_with fail
        go_roundw
        case rel => exact ⟨k + 1, _, by omega, rfl, by go_num, by rw [HPN.out]; exact HO6, HB6, HT6, by omega⟩
        case measure => (simp [intOf]; try omega)
      | true =>
        rw [hin] at HH
        have HPN : Hid (pickN (fun x => decide (x ∈ vs)) (k + 1) = pk ++ [(k : Int) + 1]) := Lib.hid (by rw [HPO.out, hin]; simp)
        clear HPO hin
        go_wp2_with fail
        refine HH.out.mono ?_
        rintro e w6 ⟨rfl, hb⟩
        have HO6 := Lib.hid (own_later HO.out hb)
        have HB6 := Lib.hid (HB.out.trans (hb.mono HB.out.size))
        have HT6 := Lib.hid (HTP.out.keep (kept_below hb) (fun x hx _ => hx))
        have hz6 := hb.size
        have hwx := HB.out.size
        clear hb HO
        go_wp2_with (at_builtin; refine wpList_append_own _ rfl _ _ 26 rfl w3.heap.size 3 i0 (.int .i64 0) 1 8 Try.underlying26 hi hz0 hz1 hz2 rfl (by decide) _ pk.length _ rfl (HO6.out.alloc _) _ 1 1 [.int .i64 ((k : Int) + 1)] rfl rfl (news_one _ _ _) (by simp [Value.oneCell']) (by unfold maxLen; omega) (by omega) (by simp; omega) ?_)
        intro v7 w7 hown hgrow hnil
        have HO7 : Hid (w7.ownsRow w3.heap.size 3 1 v7 (pk ++ [(k : Int) + 1]).length (ints (pk ++ [(k : Int) + 1]))) := Lib.hid (by rw [ints_one, List.length_append]; exact hown)
        have HB7 := Lib.hid (Below.grown (HB6.out.alloc (by omega) (.cells #[.int .i64 ((k : Int) + 1)] 3)) hgrow (by simp; omega) (fun j hj => by have := (HO6.out.lt j hj).1; omega))
        have HT7 := Lib.hid (HT6.out.keep (kept_grown (kept_alloc (Kept.refl (fun x => x < w3.heap.size) w6) (.cells #[.int .i64 ((k : Int) + 1)] 3)) hgrow (fun x hx _ e => by have := (HO6.out.lt x e).1; omega)) (fun x hx _ => hx))
        have hz7 : w3.heap.size ≤ w7.heap.size := by have := hgrow.size; simp at this; omega
        clear hown hgrow hnil
        go_wp2_with fail
        go_roundw
        case rel => exact ⟨k + 1, _, by omega, rfl, by go_num, by rw [HPN.out]; exact HO7, HB7, HT7, hz7⟩
        case measure => (simp [intOf]; try omega)
theorem impl_VarsOf (w : World) (cs0 : List Value) (a0 : List Cel) (h0 : kTerm.rd w.heap.size w cs0 a0) (_ht : kTerm.wt a0 ≤ 1048576) :
    Calls Try.prog 11 #[.agg cs0.toArray] w (Made kIntS (fun cs => .tuple #[one cs, .bool (R_VarsOf a0).2]) (R_VarsOf a0).1 w) := by
  obtain ⟨a, cap, rfl, h1, h2, h3, h4⟩ := term_form h0
  exact (impl_varsOf w.heap.size a cap a0 w h2 h3 h4 h1 (Nat.le_refl _)).mono fun e w' h => made_vars (R_wf a0) h
end Go.Proofs.Ytlmgckijbamgpaa
