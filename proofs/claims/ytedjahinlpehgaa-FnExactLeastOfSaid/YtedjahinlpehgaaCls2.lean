/- The contracts of the reference's classes: split, same, classes, ClassesOf. -/
import Derived.Test.YtedjahinlpehgaaCls
import Derived.Test.YtedjahinlpehgaaTurn
import Derived.Laws.AppendOwnNone
namespace Go.Proofs.Ytedjahinlpehgaa
set_option linter.unusedVariables false
open Go.ChangeShapes Go.WideShapes Go.ChangeAt Go.RowKit
set_option maxRecDepth 100000

theorem ints_snoc (xs : List Int) (x : Int) : ints (xs ++ [x]) = ints xs ++ [.int .i64 x] := by simp [ints]
def OwnInts (w : World) (l : List Int) (e : Ending) (w' : World) : Prop := ∃ v, e = .returned v ∧ w'.ownsRow w.heap.size 3 1 v l.length (ints l) ∧ Below w.heap.size w w'
theorem clA_ge {l : List Int} {i : Nat} (hi : i < l.length) : l[i]? = some (clA l (i : Int)) := by
  unfold clA; simp [List.getD, hi]
/-! ### one place of the list of first places: gone down from the place -/
section
variable {α : Type} [DecidableEq α]
def FSt (L : List α) (k o : Nat) (c : Int) : Prop := (0 ≤ c ∧ c ≤ (k : Int)) ∧ ((c = (k : Int) ∧ ∀ i, o ≤ i → i < k → L[i]? ≠ L[k]?) ∨ c = clA (fstL L) (k : Int))
theorem fst_clA {L : List α} {k : Nat} {x : α} (h : L[k]? = some x) : clA (fstL L) (k : Int) = at1 L x := clA_at (fstL_at h)
theorem FSt.start (L : List α) (k : Nat) : FSt L k k (k : Int) := ⟨by omega, .inl ⟨rfl, fun i h1 h2 => by omega⟩⟩
theorem FSt.hit {L : List α} {k p : Nat} (hk : k < L.length) (hp : p < k) (h : L[p]? = L[k]?) : FSt L k p (clA (fstL L) (p : Int)) := by
  have hx : L[p]? = some (L[p]'(by omega)) := List.getElem?_eq_getElem _
  have hy : L[k]? = some L[k] := List.getElem?_eq_getElem hk
  rw [fst_clA hx]
  have h2 := fstL_le hx
  refine ⟨by omega, .inr ?_⟩
  rw [fst_clA hy]
  rw [hx, hy] at h
  rw [Option.some.inj h]
theorem FSt.miss {L : List α} {k p : Nat} {c : Int} (h : FSt L k (p + 1) c) (hn : ¬ L[p]? = L[k]?) : FSt L k p c := by
  refine ⟨h.1, ?_⟩
  rcases h.2 with ⟨h1, h2⟩ | h3
  · refine .inl ⟨h1, fun i hi1 hi2 => ?_⟩
    rcases Nat.lt_or_ge p i with hc | hc
    · exact h2 i (by omega) hi2
    · obtain rfl : i = p := by omega
      exact hn
  · exact .inr h3
theorem FSt.done {L : List α} {k : Nat} {c : Int} (hk : k < L.length) (h : FSt L k 0 c) : (fstL L).take (k + 1) = (fstL L).take k ++ [c] := by
  have hy : L[k]? = some L[k] := List.getElem?_eq_getElem hk
  rw [take_next (fstL L) k _ (fstL_at hy)]
  congr 2
  rcases h.2 with ⟨h1, h2⟩ | h3
  · rw [h1]; exact at1_here hy fun i hi => by have := h2 i (Nat.zero_le _) hi; rwa [hy] at this
  · rw [h3, fst_clA hy]
theorem clA_take {l : List Int} {k p : Nat} (hp : p < k) : clA (l.take k) (p : Int) = clA l (p : Int) := by
  unfold clA
  simp only [Int.toNat_natCast, List.getD, List.getElem?_take, if_pos hp]
end


set_option maxHeartbeats 1000000 in
theorem spec_same (a b : Option Addr) (ca cb : Nat) (xs ys : List Int) (w : World) (hx : Rw w a (ints xs)) (hy : Rw w b (ints ys)) (hl : xs.length = ys.length) (hn : xs.length ≤ 1000) :
    Calls Try.prog 71 #[.slice a xs.length ca, .slice b xs.length cb] w fun e w' => e = .returned (.bool (decide (xs = ys))) ∧ Below w.heap.size w w' := by
  have HNO : Hid (∀ k, k < xs.length → ¬ clA xs (k : Int) = clA ys (k : Int) → decide (xs = ys) = false) := Lib.hid fun k hk h => decide_eq_false fun e => h (by rw [e])
  have HYES : Hid ((∀ k : Nat, k < xs.length → clA xs (k : Int) = clA ys (k : Int)) → decide (xs = ys) = true) := Lib.hid fun h => decide_eq_true (by
    apply List.ext_getElem hl
    intro i h1 h2
    have := h i h1
    unfold clA at this
    simpa [List.getD, h1, h2] using this)
  generalize decide (xs = ys) = R at *
  by_cases h0 : xs.length = 0
  · have HR := Lib.hid (HYES.out (fun k hk => by omega))
    rw [h0]
    clear hx hy hl hn h0 HNO HYES
    go_enter Try.func71, Try.ntmps71
    go_wp2_with fail
    go_loopw [8] (fun jv wr => jv = .int .i64 0 ∧ w = wr) (fun _ _ => 0)
    case atStart => exact ⟨rfl, rfl⟩
    case round =>
      obtain ⟨rfl, rfl⟩ := hrel
      go_wp2_with fail
      go_ret
      exact ⟨ret_bool HR.out.symm, Below.refl _ _⟩
  obtain ⟨b1, o1, rfl, hb1, hc1⟩ := intsI hx (by omega)
  obtain ⟨b2, o2, rfl, hb2, hc2⟩ := intsI hy (by omega)
  rw [← hl] at hc2
  have HC1 := Lib.hid hc1; have HC2 := Lib.hid hc2
  clear hx hy hl h0 hc1 hc2
  generalize xs.length = n at *
  go_enter Try.func71, Try.ntmps71
  go_wp2_with fail
  go_loopw [8] (fun jv wr => ∃ j : Nat, j ≤ n ∧ jv = .int .i64 (j : Int) ∧ Hid (∀ k : Nat, k < j → clA xs (k : Int) = clA ys (k : Int)) ∧ Drawn w wr) (fun jv _ => n - (intOf jv).toNat)
  case atStart => exact ⟨0, by omega, rfl, Lib.hid (fun i hi => by omega), ⟨0, rfl⟩⟩
  case round =>
    obtain ⟨j, hj, rfl, HJ, q, rfl⟩ := hrel
    by_cases hjn : j < n
    case neg =>
      obtain rfl : j = n := by omega
      have HR := Lib.hid (HYES.out HJ.out)
      go_wp2_with fail
      go_ret
      exact ⟨ret_bool HR.out.symm, rdrew (Below.refl _ _) _⟩
    have y1 := HC1.out (j : Int) (by omega) (by omega); have y2 := HC2.out (j : Int) (by omega) (by omega)
    simp only [Int.toNat_natCast] at y1 y2
    have HX : Hid (clA xs (j : Int) = clA ys (j : Int) → ∀ i : Nat, i < j + 1 → clA xs (i : Int) = clA ys (i : Int)) := Lib.hid fun h i hi => by
      rcases Nat.lt_or_ge i j with hc | hc
      · exact HJ.out i hc
      · obtain rfl : i = j := by omega
        exact h
    have HX2 := Lib.hid (HNO.out j hjn)
    generalize clA xs (j : Int) = v1 at *
    generalize clA ys (j : Int) = v2 at *
    by_cases hv : v1 = v2
    case neg =>
      have hne : (v1 != v2) = true := by simp [hv]
      have HR := Lib.hid (HX2.out hv)
      clear hv
      go_wp2_with fail
      go_quiet (fail)
      go_wp2_with fail
      go_ret
      exact ⟨ret_bool HR.out.symm, rdrew (rdrew (Below.refl _ _) _) _⟩
    have hne : (v1 != v2) = false := by simp [hv]
    have HR := Lib.hid (HX.out hv)
    clear hv
    go_wp2_with fail
    go_quiet (fail)
    go_wp2_with fail
    go_roundw
    case rel => exact ⟨j + 1, by omega, by go_num, HR, ⟨_, rfl⟩⟩
    case measure => simp [intOf]; omega
set_option maxHeartbeats 4000000 in
theorem spec_split (ea eb qa : Option Addr) (ecap ecap' qc : Nat) (m : Mach) (xs : List Int) (w : World) (hM : MC w.heap.size w ea eb m) (hm : GoodM m) (hx : Rw w qa (ints xs)) (hl : xs.length = m.1.length)
    (hc1 : m.1.length ≤ ecap ∧ ecap ≤ 9223372036854775807) (hc2 : xs.length ≤ qc ∧ qc ≤ 9223372036854775807) :
    Calls Try.prog 70 #[.agg #[.slice ea m.1.length ecap, .slice eb m.2.length ecap'], .slice qa m.1.length qc] w (OwnInts w (fstL (marksR m xs))) := by
  obtain ⟨i0, hi, hz0, hz1, hz2⟩ := info_parts Try.infoHIntS
  have h12 := hm.n12
  have HA := Lib.hid (fun (wx : World) (hb : Below w.heap.size w wx) (o k : Nat) (ho : o < m.1.length) (hk : k < m.1.length) => spec_alike ea eb qa ecap ecap' qc m xs o k wx ((hM.below hb).mono hb.size) hm (hx.below hb) hl ho hk hc1 hc2)
  have HMA : Hid (∀ wx, Below (w.heap.size + 1) (w.alloc (.cells #[.slice ea m.1.length ecap, .slice eb m.2.length ecap'] 28)) wx → wx.cell? ⟨w.heap.size, 0, none⟩ = some (.slice ea m.1.length ecap) ∧ wx.cell? ⟨w.heap.size, 1, none⟩ = some (.slice eb m.2.length ecap')) := Lib.hid fun wx hb => ⟨box_cell hb 0, box_cell hb 1⟩
  have HDE : Hid (∀ p k, p < m.1.length → k < m.1.length → (¬ (marksR m xs)[p]? = (marksR m xs)[k]? → decide (mkAt m xs p = mkAt m xs k) = false) ∧ ((marksR m xs)[p]? = (marksR m xs)[k]? → decide (mkAt m xs p = mkAt m xs k) = true)) := Lib.hid fun p k hp hk => by
    rw [marks_at hp, marks_at hk, Option.some.injEq]
    exact ⟨fun h => decide_eq_false h, fun h => decide_eq_true h⟩
  have hL : (marksR m xs).length = m.1.length := by simp
  clear hM hx hl hc1 hc2
  generalize marksR m xs = L at *
  unfold OwnInts
  rw [fstL_length]
  rw [← hL] at HA HMA HDE h12 ⊢
  clear hL hm
  go_enter Try.func70, Try.ntmps70
  go_wp2_with fail
  go_loopw [5, 11] (fun ov iv wr => ∃ (k : Nat) (v : Value), k ≤ L.length ∧ iv = .int .i64 (k : Int) ∧ ov = v ∧ Hid (wr.ownsRow (w.heap.size + 1) 3 1 v k (ints ((fstL L).take k))) ∧ Hid (Below (w.heap.size + 1) (w.alloc (.cells #[.slice ea L.length ecap, .slice eb m.2.length ecap'] 28)) wr)) (fun _ iv _ => L.length - (intOf iv).toNat)
  case atStart => exact ⟨0, _, by omega, rfl, rfl, Lib.hid (World.ownsRow_nil _ _ _ _), Lib.hid (Below.refl _ _)⟩
  case round =>
    obtain ⟨k, v, hk, rfl, rfl, HO, HB⟩ := hrel
    obtain ⟨wr1, rfl⟩ : ∃ z : World, z = wr := ⟨_, rfl⟩
    by_cases hkl : k < L.length
    case neg =>
      obtain rfl : k = L.length := by omega
      have HO2 : Hid (wr1.ownsRow (w.heap.size + 1) 3 1 u5 L.length (ints (fstL L))) := Lib.hid (by have h := HO.out; rwa [List.take_of_length_le (by simp)] at h)
      clear HO
      go_wp2_with fail
      go_ret
      exact ⟨_, rfl, own_mono HO2.out (Nat.le_succ _), box_below HB.out⟩
    obtain ⟨a0, c0, rfl⟩ := form_of_own HO.out
    go_wp2_with fail
    go_loopw [7, 8] (fun cv dv ws => ∃ (o : Nat) (c : Int), o ≤ k ∧ dv = .int .i64 ((o : Int) - 1) ∧ cv = .int .i64 c ∧ Hid (FSt L k o c) ∧ Hid (ws.ownsRow (w.heap.size + 1) 3 1 (.slice a0 k c0) k (ints ((fstL L).take k))) ∧ Hid (Below (w.heap.size + 1) (w.alloc (.cells #[.slice ea L.length ecap, .slice eb m.2.length ecap'] 28)) ws)) (fun _ dv _ => (intOf dv + 1).toNat)
    case atStart => exact ⟨k, (k : Int), Nat.le_refl _, by go_num, rfl, Lib.hid (FSt.start L k), HO, HB⟩
    case round =>
      clear HO HB
      obtain ⟨wo, rfl⟩ : ∃ z : World, z = wr := ⟨_, rfl⟩
      obtain ⟨o, c, hok, rfl, rfl, HF, HO, HB⟩ := hrel
      have hcb := HF.out.1
      have HLT : Hid (w.heap.size + 1 ≤ wo.heap.size) := Lib.hid (box_lt HB.out)
      by_cases ho0 : o = 0
      case pos =>
        subst ho0
        have HT2 := Lib.hid (FSt.done hkl HF.out)
        clear HF
        go_wp2_with (at_builtin; refine wpList_append_own _ rfl _ _ 42 rfl _ 3 i0 (.int .i64 0) 1 8 Try.underlying42 hi hz0 hz1 hz2 rfl (by decide) _ k _ rfl (HO.out.alloc _) _ 1 1 [.int .i64 c] rfl rfl (news_one _ _ _) (by simp [Value.oneCell']) (by unfold maxLen; omega) (by omega) (Nat.le_trans HLT.out (by simp)) ?_)
        intro v' w2 hown hgrow hnil
        have HBG := Lib.hid (Below.grown (HB.out.alloc HLT.out _) hgrow (Nat.le_trans HLT.out (by simp)) (fun j hj => (HO.out.lt j hj).1))
        have HOW := Lib.hid hown; clear hown hgrow hnil
        go_wp2_with fail
        go_roundw
        case rel => exact ⟨k + 1, _, by omega, by go_num, rfl, Lib.hid (by rw [HT2.out, ints_snoc]; exact HOW.out), HBG⟩
        case measure => simp [intOf]; omega
      obtain ⟨p, rfl⟩ : ∃ p, o = p + 1 := ⟨o - 1, by omega⟩
      have hpk : p < k := by omega
      rw [show (((p + 1 : Nat) : Int) - 1) = (p : Int) by omega]
      obtain ⟨g, cp, hgv, hg1, hg2⟩ := HO.out.form (by omega)
      simp only [Value.slice.injEq, true_and] at hgv
      obtain ⟨rfl, rfl⟩ := hgv
      have HCE : Hid (wo.cell? ⟨g, p, none⟩ = some (.int .i64 (clA (fstL L) (p : Int)))) := Lib.hid (by
        rw [HO.out.cellAt p (by omega), ints_at _ p (by simp; omega)]
        have := clA_take (l := fstL L) hpk
        unfold clA at this
        simp only [Int.toNat_natCast] at this
        unfold clA
        rw [Int.toNat_natCast, ← this])
      have hmab := HMA.out _ HB.out; have hma := hmab.1; have hmb := hmab.2; clear hmab
      go_wp2_with fail
      refine (HA.out _ (box_below HB.out) p k (by omega) (by omega)).mono ?_
      by_cases hal : L[p]? = L[k]?
      · have hde := (HDE.out p k (by omega) (by omega)).2 hal
        rw [hde]
        rintro e w5 ⟨rfl, hb⟩
        have HBX := Lib.hid hb; clear hb hde
        have HF2 := Lib.hid (FSt.hit hkl hpk hal)
        have hcz := HF2.out.1
        have HO5 := Lib.hid (own_later HO.out HBX.out)
        have HB5 := Lib.hid (HB.out.trans (HBX.out.mono HLT.out))
        have HCE5 := below_later HBX.out HCE.out
        clear HF HO HB HCE
        go_wp2_with fail
        go_roundw
        case rel => exact ⟨p, _, by omega, by go_num, rfl, HF2, HO5, HB5⟩
        case measure => (simp [intOf]; try omega)
      · have hde := (HDE.out p k (by omega) (by omega)).1 hal
        rw [hde]
        rintro e w5 ⟨rfl, hb⟩
        have HBX := Lib.hid hb; clear hb hde
        have HF2 := Lib.hid (FSt.miss HF.out hal)
        have HO5 := Lib.hid (own_later HO.out HBX.out)
        have HB5 := Lib.hid (HB.out.trans (HBX.out.mono HLT.out))
        clear HF HO HB HCE
        go_wp2_with fail
        go_roundw
        case rel => exact ⟨p, _, by omega, by go_num, rfl, HF2, HO5, HB5⟩
        case measure => (simp [intOf]; try omega)

/-! ### all rounds -/
def OwnCls (w : World) (m : Mach) (e : Ending) (w' : World) : Prop := ∃ v, e = .returned (.tuple #[v, .int .i64 (rnd m : Int)]) ∧ w'.ownsRow w.heap.size 3 1 v (clsR m).length (ints (clsR m)) ∧ Below w.heap.size w w'
set_option maxHeartbeats 4000000 in
theorem spec_classes (ea eb : Option Addr) (ecap ecap' : Nat) (m : Mach) (w : World) (hM : MC w.heap.size w ea eb m) (hm : GoodM m) (he : kBoolS.rd w.heap.size w [.slice eb m.2.length ecap'] m.2) (hc1 : m.1.length ≤ ecap ∧ ecap ≤ 9223372036854775807) :
    Calls Try.prog 58 #[.agg #[.slice ea m.1.length ecap, .slice eb m.2.length ecap']] w (OwnCls w m) := by
  obtain ⟨i0, hi, hz0, hz1, hz2⟩ := info_parts Try.infoHIntS
  have h1 := hm.n1
  have h12 := hm.n12
  have hc2 := sl_len he
  have HSP := Lib.hid (fun (wx : World) (hb : Below w.heap.size w wx) (qa : Option Addr) (qc r : Nat) (hx : Rw wx qa (ints (cl m r))) (h2 : (cl m r).length ≤ qc ∧ qc ≤ 9223372036854775807) => spec_split ea eb qa ecap ecap' qc m (cl m r) wx ((hM.below hb).mono hb.size) hm hx (cl_length hm r) hc1 h2)
  have HMA : Hid (∀ wx, Below (w.heap.size + 1) (w.alloc (.cells #[.slice ea m.1.length ecap, .slice eb m.2.length ecap'] 28)) wx → wx.cell? ⟨w.heap.size, 0, none⟩ = some (.slice ea m.1.length ecap) ∧ wx.cell? ⟨w.heap.size, 1, none⟩ = some (.slice eb m.2.length ecap')) := Lib.hid fun wx hb => ⟨box_cell hb 0, box_cell hb 1⟩
  obtain ⟨be, oe, rfl, hbe, hce⟩ : ∃ b off, eb = some ⟨b, off, none⟩ ∧ b < w.heap.size ∧ ∀ k x, m.2[k]? = some x → w.cell? ⟨b, off + k, none⟩ = some (.bool x) := by
    obtain ⟨b, off, h2, h3, h4⟩ := hM.ends
    refine ⟨b, off, h2, h3, fun k x hx => ?_⟩
    have hk := (List.getElem?_eq_some_iff.1 hx).1
    rw [hm.ends] at hk
    have h5 := h4 (k : Int) (by omega) (by omega)
    rw [Int.toNat_natCast] at h5
    rw [h5, show endI m (k : Int) = x by unfold endI; rw [Int.toNat_natCast, List.getD, hx]; rfl]
  have HCE0 := Lib.hid hce
  have HM := Lib.hid hm
  have hL : m.1.length = m.2.length := hm.ends.symm
  have HL0 : Hid (∀ r, (cl m r).length = m.2.length) := Lib.hid fun r => by rw [cl_length hm, hL]
  have HCL0 : Hid (cl m 0 = fstL m.2) := Lib.hid rfl
  clear hM he hce hm
  unfold OwnCls
  have hcr : (clsR m).length = m.2.length := HL0.out _
  rw [hcr]
  clear hcr
  rw [hL] at h1 h12 hc1 HSP HMA ⊢
  clear hL
  have HLE : Hid (∃ L, L = m.2) := Lib.hid ⟨_, rfl⟩
  generalize m.2 = L at *
  go_enter Try.func58, Try.ntmps58
  go_wp2_with fail
  go_loopw [4, 13] (fun ov iv wr => ∃ (k : Nat) (v : Value), k ≤ L.length ∧ iv = .int .i64 (k : Int) ∧ ov = v ∧ Hid (wr.ownsRow (w.heap.size + 1) 3 1 v k (ints ((fstL L).take k))) ∧ Hid (Below (w.heap.size + 1) (w.alloc (.cells #[.slice ea L.length ecap, .slice (some ⟨be, oe, none⟩) L.length ecap'] 28)) wr)) (fun _ iv _ => L.length - (intOf iv).toNat)
  case atStart => exact ⟨0, _, by omega, rfl, rfl, Lib.hid (World.ownsRow_nil _ _ _ _), Lib.hid (Below.refl _ _)⟩
  case round =>
    obtain ⟨k, v, hk, rfl, rfl, HO, HB⟩ := hrel
    obtain ⟨wr1, rfl⟩ : ∃ z : World, z = wr := ⟨_, rfl⟩
    by_cases hkl : k < L.length
    case neg =>
      obtain rfl : k = L.length := by omega
      have HO2 : Hid (wr1.ownsRow (w.heap.size + 1) 3 1 u4 L.length (ints (fstL L))) := Lib.hid (by have h := HO.out; rwa [List.take_of_length_le (by simp)] at h)
      clear HO
      have HO3 : Hid (wr1.ownsRow (w.heap.size + 1) 3 1 u4 L.length (ints (cl m 0))) := Lib.hid (by rw [HCL0.out]; exact HO2.out)
      clear HO2
      go_wp2_with fail
      go_loopw [4, 8] (fun cv rv wr => ∃ (r : Nat) (v : Value), r < 12 ∧ Hid (AtR m r) ∧ rv = .int .i64 (r : Int) ∧ cv = v ∧ Hid (wr.ownsRow (w.heap.size + 1) 3 1 v L.length (ints (cl m r))) ∧ Hid (Below (w.heap.size + 1) (w.alloc (.cells #[.slice ea L.length ecap, .slice (some ⟨be, oe, none⟩) L.length ecap'] 28)) wr)) (fun _ rv _ => 12 - (intOf rv).toNat)
      case atStart => exact ⟨0, _, by omega, Lib.hid (AtR.zero HM.out), rfl, rfl, HO3, HB⟩
      case round =>
        clear HO3 HB
        obtain ⟨w1, rfl⟩ : ∃ z : World, z = wr := ⟨_, rfl⟩
        obtain ⟨r, v, hr12, HAT, rfl, rfl, HO, HB⟩ := hrel
        have hma := HMA.out _ HB.out; obtain ⟨hma, hmb⟩ := hma
        obtain ⟨g, cp, rfl, hg1, hg2⟩ := HO.out.form (by omega)
        have hcap := own_caps HO.out
        unfold maxLen at hcap
        go_wp2_with fail
        refine (HSP.out w1 (box_below HB.out) _ cp r (own_rw HO.out) (by rw [HL0.out]; omega)).mono ?_
        rintro e w2 ⟨v2, rfl, ho2, hb⟩
        have ho3 : w2.ownsRow w1.heap.size 3 1 v2 (cl m (r + 1)).length (ints (cl m (r + 1))) := ho2
        rw [HL0.out] at ho3
        obtain ⟨g2, cp2, rfl, hg3, hg4⟩ := ho3.form (by omega)
        have HO2 := Lib.hid (own_mono ho3 (box_lt HB.out)); have HB2 := Lib.hid (HB.out.trans (hb.mono (box_lt HB.out)))
        have HOO := Lib.hid (own_later HO.out hb)
        clear ho2 ho3 hb
        have HSM := Lib.hid (spec_same _ _ cp2 cp (cl m (r + 1)) (cl m r) w2 (own_rw HO2.out) (own_rw HOO.out) (by rw [HL0.out, HL0.out]) (by rw [HL0.out]; omega))
        rw [HL0.out] at HSM
        by_cases hs : cl m (r + 1) = cl m r
        · rw [decide_eq_true hs] at HSM
          have HRN := Lib.hid (HAT.out.stop hs)
          have HCR : Hid (clsR m = cl m r) := Lib.hid (by show cl m (rnd m) = _; rw [HRN.out])
          go_wp2_with fail
          refine HSM.out.mono ?_
          rintro e w3 ⟨rfl, hb⟩
          have HB3 := Lib.hid (HB2.out.trans (hb.mono (box_lt HB2.out))); have HO4 := Lib.hid (own_later HOO.out hb); clear hb
          go_wp2_with fail
          go_ret2
          exact ⟨_, by rw [HRN.out]; rfl, by rw [HCR.out]; exact own_mono HO4.out (Nat.le_succ _), box_below HB3.out⟩
        · rw [decide_eq_false hs] at HSM
          have HAN := Lib.hid (HAT.out.next HM.out hs)
          have hr13 := HAN.out.le
          go_wp2_with fail
          refine HSM.out.mono ?_
          rintro e w3 ⟨rfl, hb⟩
          have HB3 := Lib.hid (HB2.out.trans (hb.mono (box_lt HB2.out))); have HO4 := Lib.hid (own_later HO2.out hb); clear hb
          go_wp2_with fail
          go_roundw
          case rel => exact ⟨r + 1, _, hr13, HAN, by go_num, rfl, HO4, HB3⟩
          case measure => (simp [intOf]; try omega)
    obtain ⟨a0, c0, rfl⟩ := form_of_own HO.out
    go_wp2_with fail
    go_loopw [6, 7] (fun cv dv ws => ∃ (o : Nat) (c : Int), o ≤ k ∧ dv = .int .i64 ((o : Int) - 1) ∧ cv = .int .i64 c ∧ Hid (FSt L k o c) ∧ Hid (ws.ownsRow (w.heap.size + 1) 3 1 (.slice a0 k c0) k (ints ((fstL L).take k))) ∧ Hid (Below (w.heap.size + 1) (w.alloc (.cells #[.slice ea L.length ecap, .slice (some ⟨be, oe, none⟩) L.length ecap'] 28)) ws)) (fun _ dv _ => (intOf dv + 1).toNat)
    case atStart => exact ⟨k, (k : Int), Nat.le_refl _, by go_num, rfl, Lib.hid (FSt.start L k), HO, HB⟩
    case round =>
      clear HO HB
      obtain ⟨wo, rfl⟩ : ∃ z : World, z = wr := ⟨_, rfl⟩
      obtain ⟨o, c, hok, rfl, rfl, HF, HO, HB⟩ := hrel
      have hcb := HF.out.1
      have HLT : Hid (w.heap.size + 1 ≤ wo.heap.size) := Lib.hid (box_lt HB.out)
      by_cases ho0 : o = 0
      case pos =>
        subst ho0
        have HT2 := Lib.hid (FSt.done hkl HF.out)
        clear HF
        go_wp2_with (at_builtin; refine wpList_append_own _ rfl _ _ 42 rfl _ 3 i0 (.int .i64 0) 1 8 Try.underlying42 hi hz0 hz1 hz2 rfl (by decide) _ k _ rfl (HO.out.alloc _) _ 1 1 [.int .i64 c] rfl rfl (news_one _ _ _) (by simp [Value.oneCell']) (by unfold maxLen; omega) (by omega) (Nat.le_trans HLT.out (by simp)) ?_)
        intro v' w2 hown hgrow hnil
        have HBG := Lib.hid (Below.grown (HB.out.alloc HLT.out _) hgrow (Nat.le_trans HLT.out (by simp)) (fun j hj => (HO.out.lt j hj).1))
        have HOW := Lib.hid hown; clear hown hgrow hnil
        go_wp2_with fail
        go_roundw
        case rel => exact ⟨k + 1, _, by omega, by go_num, rfl, Lib.hid (by rw [HT2.out, ints_snoc]; exact HOW.out), HBG⟩
        case measure => simp [intOf]; omega
      obtain ⟨p, rfl⟩ : ∃ p, o = p + 1 := ⟨o - 1, by omega⟩
      have hpk : p < k := by omega
      rw [show (((p + 1 : Nat) : Int) - 1) = (p : Int) by omega]
      obtain ⟨g, cp, hgv, hg1, hg2⟩ := HO.out.form (by omega)
      simp only [Value.slice.injEq, true_and] at hgv
      obtain ⟨rfl, rfl⟩ := hgv
      have HCE : Hid (wo.cell? ⟨g, p, none⟩ = some (.int .i64 (clA (fstL L) (p : Int)))) := Lib.hid (by
        rw [HO.out.cellAt p (by omega), ints_at _ p (by simp; omega)]
        have := clA_take (l := fstL L) hpk
        unfold clA at this
        simp only [Int.toNat_natCast] at this
        unfold clA
        rw [Int.toNat_natCast, ← this])
      obtain ⟨xp, hxp⟩ : ∃ x, L[p]? = some x := ⟨L[p]'(by omega), List.getElem?_eq_getElem _⟩
      obtain ⟨xk, hxk⟩ : ∃ x, L[k]? = some x := ⟨L[k], List.getElem?_eq_getElem hkl⟩
      have hmab := HMA.out _ HB.out; have hma := hmab.1; have hmb := hmab.2; clear hmab
      have cp1 := below_cellk (box_below HB.out) (HCE0.out p xp hxp) hbe
      have ck1 := below_cellk (box_below HB.out) (HCE0.out k xk hxk) hbe
      by_cases hal : L[p]? = L[k]?
      · have hde : (xp == xk) = true := by rw [hxp, hxk] at hal; simp [Option.some.inj hal]
        clear hxp hxk
        go_wp2_with fail
        go_quiet (fail)
        have HBX : Hid (Below wo.heap.size wo (wo.drewN nq)) := Lib.hid (rdrew (Below.refl _ _) _)
        have HF2 := Lib.hid (FSt.hit hkl hpk hal)
        have hcz := HF2.out.1
        have HO5 := Lib.hid (own_later HO.out HBX.out)
        have HB5 := Lib.hid (HB.out.trans (HBX.out.mono HLT.out))
        have HCE5 := below_later HBX.out HCE.out
        clear HF HO HB HCE
        go_wp2_with fail
        go_roundw
        case rel => exact ⟨p, _, by omega, by go_num, rfl, HF2, HO5, HB5⟩
        case measure => (simp [intOf]; try omega)
      · have hde : (xp == xk) = false := by rw [hxp, hxk] at hal; simp; exact fun e => hal (by rw [e])
        clear hxp hxk
        go_wp2_with fail
        go_quiet (fail)
        have HBX : Hid (Below wo.heap.size wo (wo.drewN nq)) := Lib.hid (rdrew (Below.refl _ _) _)
        have HF2 := Lib.hid (FSt.miss HF.out hal)
        have HO5 := Lib.hid (own_later HO.out HBX.out)
        have HB5 := Lib.hid (HB.out.trans (HBX.out.mono HLT.out))
        clear HF HO HB HCE
        go_wp2_with fail
        go_roundw
        case rel => exact ⟨p, _, by omega, by go_num, rfl, HF2, HO5, HB5⟩
        case measure => (simp [intOf]; try omega)

theorem R_Cls_no {m : Mach} (h : R_GoodMachine m = false) : R_ClassesOf m = ([], 0, false) := by unfold R_ClassesOf; rw [if_neg (by rw [h]; simp)]
theorem R_Cls_yes {m : Mach} (h : R_GoodMachine m = true) : R_ClassesOf m = (clsR m, (rnd m : Int), true) := by unfold R_ClassesOf; rw [if_pos h]; rfl
def ClsOf (R : List Int × Int × Bool) (w : World) (e : Ending) (w' : World) : Prop :=
  ∃ v, e = .returned (.tuple #[v, .int .i64 R.2.1, .bool R.2.2]) ∧ w'.ownsRow w.heap.size 3 1 v R.1.length (ints R.1) ∧ Below w.heap.size w w'
set_option maxHeartbeats 1000000 in
theorem spec_clsOf (w : World) (cs0 : List Value) (a0 : Mach) (h0 : kMachine.rd w.heap.size w cs0 a0) (ht : kMachine.wt a0 ≤ 1048576) :
    Calls Try.prog 26 #[.agg cs0.toArray] w (ClsOf (R_ClassesOf a0) w) := by
  obtain ⟨ea, ecap, eb, ecap', rfl, hn, he⟩ := Machine_rd h0
  have HG := Lib.hid (fun wx (hb : Below w.heap.size w wx) => spec_GoodMachine wx _ a0 (kMachine_ok.later h0 hb) ht)
  have HN := Lib.hid hn
  have HE := Lib.hid he
  have hl1 := (sl_len hn).2; have hl2 := (sl_len he).2
  have HB0 := Lib.hid (box_start w (.cells #[.slice ea a0.1.length ecap, .slice eb a0.2.length ecap'] 28))
  clear hn he h0
  unfold ClsOf
  cases g0 : R_GoodMachine a0 with
  | false =>
    rw [R_Cls_no g0]; rw [g0] at HG
    clear g0
    go_enter Try.func26, Try.ntmps26
    go_wp2_with fail
    refine (HG.out _ ((Below.refl _ _).alloc (Nat.le_refl _) _)).mono ?_
    rintro e w1 ⟨rfl, hb⟩
    have HB1 := Lib.hid (box_step HB0.out hb); clear hb
    go_wp2_with fail
    go_ret3
    exact ⟨_, rfl, World.ownsRow_nil _ _ _ _, box_below HB1.out⟩
  | true =>
    rw [R_Cls_yes g0]
    have hM := good_of g0
    have HC := Lib.hid (fun wx (hb : Below w.heap.size w wx) => spec_classes ea eb ecap ecap' a0 wx (((MC.of HN.out HE.out hM).below hb).mono hb.size) hM (kBoolS_ok.later HE.out hb) hl1)
    rw [g0] at HG
    clear g0 hM
    go_enter Try.func26, Try.ntmps26
    go_wp2_with fail
    refine (HG.out _ ((Below.refl _ _).alloc (Nat.le_refl _) _)).mono ?_
    rintro e w1 ⟨rfl, hb⟩
    have HB1 := Lib.hid (box_step HB0.out hb); clear hb
    have ma : w1.cell? ⟨w.heap.size, 0, none⟩ = some (.slice ea a0.1.length ecap) := box_cell HB1.out 0
    have mb : w1.cell? ⟨w.heap.size, 1, none⟩ = some (.slice eb a0.2.length ecap') := box_cell HB1.out 1
    go_wp2_with fail
    refine (HC.out _ (box_below HB1.out)).mono ?_
    rintro e w2 ⟨v, rfl, ho, hb⟩
    have HBW := Lib.hid ((box_below HB1.out).trans (hb.mono (box_below HB1.out).size)); have HO := Lib.hid (own_mono ho (box_below HB1.out).size); clear hb ho
    go_wp2_with fail
    go_ret3
    exact ⟨_, rfl, HO.out, HBW.out⟩
end Go.Proofs.Ytedjahinlpehgaa
