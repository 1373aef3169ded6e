/- Fields put in order: the reference's walk. -/
import Derived.Test.YtlmgckijbamgpaaSrt8
import Derived.Test.YtlmgckijbamgpaaFrS
import Derived.Laws.AppendOwnNone
import Derived.BigQuiet
namespace Go.Proofs.Ytlmgckijbamgpaa
set_option linter.unusedVariables false
set_option linter.unusedSimpArgs false
open Go.ChangeShapes Go.WideShapes Go.ChangeAt Go.RowKit
set_option maxRecDepth 100000

theorem tw_at : ∀ (O : List Fld) (f : Fld) (j : Nat), (∀ t x, t < j → O[t]? = some x → x.no ≤ f.no) → (∀ x, O[j]? = some x → f.no < x.no) → j ≤ O.length → O.takeWhile (fun x => decide (x.no ≤ f.no)) = O.take j ∧ O.dropWhile (fun x => decide (x.no ≤ f.no)) = O.drop j
  | [], f, j, _, _, h => by simp
  | y :: r, f, 0, h1, h2, h3 => by
    have := h2 y rfl
    rw [List.takeWhile_cons, List.dropWhile_cons, if_neg (by simp; omega), if_neg (by simp; omega)]
    simp
  | y :: r, f, j + 1, h1, h2, h3 => by
    have := h1 0 y (by omega) rfl
    obtain ⟨a, b⟩ := tw_at r f j (fun t x ht hx => h1 (t + 1) x (by omega) (by simpa using hx)) (fun x hx => h2 x (by simpa using hx)) (by simpa using h3)
    rw [List.takeWhile_cons, List.dropWhile_cons, if_pos (by simp; omega), if_pos (by simp; omega), a, b]
    simp
theorem ins_at {O : List Fld} {f : Fld} {j : Nat} (h1 : ∀ t x, t < j → O[t]? = some x → x.no ≤ f.no) (h2 : ∀ x, O[j]? = some x → f.no < x.no) (h3 : j ≤ O.length) : insF O f = O.take j ++ f :: O.drop j := by
  obtain ⟨a, b⟩ := tw_at O f j h1 h2 h3
  unfold insF; rw [a, b]
theorem fdsV_append (a b : List Fld) : fdsV (a ++ b) = fdsV a ++ fdsV b := by simp [fdsV]
theorem news_take4 {w : World} {base : Nat} {e : TypeId} {g n cap : Nat} {O : List Fld} (h : w.ownsRow base e 4 (.slice (some ⟨g, 0, none⟩) n cap) n (fdsV O)) (k : Nat) : ∀ (j : Nat) (u : Value), (fdsV (O.take k))[j]? = some u → w.cell? ((⟨g, 0, none⟩ : Addr).add j) = some u := by
  intro j u hu
  refine h.cells rfl j u ?_
  have hj := (List.getElem?_eq_some_iff.1 hu).1
  conv => lhs; rw [← List.take_append_drop k O, fdsV_append]
  rw [List.getElem?_append_left hj]; exact hu
theorem news_drop4 {w : World} {base : Nat} {e : TypeId} {g n cap : Nat} {O : List Fld} (h : w.ownsRow base e 4 (.slice (some ⟨g, 0, none⟩) n cap) n (fdsV O)) (k : Nat) (hk : k ≤ O.length) : ∀ (j : Nat) (u : Value), (fdsV (O.drop k))[j]? = some u → w.cell? ((⟨g, k * 4, none⟩ : Addr).add j) = some u := by
  intro j u hu
  have hl : (fdsV (O.take k)).length = k * 4 := by rw [fdsV_len, List.length_take]; omega
  have hx : (fdsV O)[k * 4 + j]? = some u := by
    conv => lhs; rw [← List.take_append_drop k O, fdsV_append]
    rw [List.getElem?_append_right (by omega), hl, show k * 4 + j - k * 4 = j by omega]; exact hu
  have hlt := (List.getElem?_eq_some_iff.1 hx).1
  have hn := h.1
  have h1 := h.cellAt (k * 4 + j) (by omega)
  rw [hx] at h1
  cases j with
  | zero => simpa [Addr.add] using h1
  | succ j => simpa [Addr.add] using h1
def mkF (no kd nm : Int) (dt : ByteArray) : Fld := ⟨no, kd, nm, dt⟩
theorem fold_take {l : List Fld} {k : Nat} {f : Fld} (h : l[k]? = some f) : (l.take (k + 1)).foldl insF [] = insF ((l.take k).foldl insF []) f := by
  obtain ⟨hk, rfl⟩ := List.getElem?_eq_some_iff.1 h
  rw [List.take_succ_eq_append_getElem hk, List.foldl_append]; rfl
theorem take_ilen {l : List Fld} {k : Nat} (h : k ≤ l.length) : ((l.take k).foldl insF []).length = k := by
  rw [fold_ilen, List.length_take]; simp; omega
theorem R_Sort_no {l : List Fld} {f : Fld} (hf : f ∈ l) (h : okF f = false) : R_Sort l = ([], false) := by
  unfold R_Sort
  rw [if_neg]
  intro hg
  unfold goodFs at hg
  simp only [Bool.and_eq_true, List.all_eq_true] at hg
  rw [hg.2 f hf] at h; cases h
theorem R_Sort_long {l : List Fld} (h : 40 < l.length) : R_Sort l = ([], false) := by
  unfold R_Sort
  rw [if_neg]
  intro hg
  unfold goodFs at hg
  simp only [Bool.and_eq_true, decide_eq_true_eq] at hg
  omega
theorem R_Sort_yes {l : List Fld} (h : l.all okF = true) (hl : l.length ≤ 40) : R_Sort l = (srtF l, true) := by
  unfold R_Sort
  rw [if_pos]
  unfold goodFs
  simp [hl, h]
set_option maxHeartbeats 4000000 in
theorem spec_SortFields (a : Option Addr) (cap : Nat) (l : List Fld) (w : World) (hrow : Rw w a (fdsV l)) (hl : l.length ≤ 1048576) :
    Calls Try.prog 33 #[.slice a l.length cap] w (SrtO (R_Sort l) w) := by
  obtain ⟨i0, hi, hz0, hz1, hz2⟩ := info_parts Try.infoFld
  generalize hR : R_Sort l = R
  have HR := Lib.hid hR
  have HROW := Lib.hid hrow
  clear hrow hR
  unfold SrtO
  go_enter Try.func33, Try.ntmps33
  go_wp2_with fail
  go_loopw [4, 11] (fun ov iv wr => ∃ (k : Nat) (v : Value), k ≤ l.length ∧ iv = .int .i64 (k : Int) ∧ v = ov ∧ Hid ((l.take k).all okF = true) ∧ (k = 0 → v = .slice none 0 0) ∧ Hid (wr.ownsRow w.heap.size 57 4 v k (fdsV ((l.take k).foldl insF []))) ∧ Hid (Below w.heap.size w wr)) (fun _ iv _ => l.length - (intOf iv).toNat)
  case atStart => exact ⟨0, _, by omega, rfl, rfl, Lib.hid rfl, fun _ => rfl, Lib.hid (World.ownsRow_nil _ _ _ _), Lib.hid (Below.refl _ _)⟩
  case round =>
    obtain ⟨w1, rfl⟩ : ∃ z : World, z = wr := ⟨_, rfl⟩
    obtain ⟨k, v, hk, rfl, rfl, HA, hk0, HO, HB⟩ := hrel
    by_cases hlk : k < l.length
    case neg =>
      obtain rfl : k = l.length := by omega
      have ha := HA.out
      rw [List.take_length] at ha
      obtain ⟨va, vc, rfl⟩ := form_of_own HO.out
      by_cases hl4 : 40 < l.length
      · have hr := HR.out
        rw [R_Sort_long hl4] at hr
        subst hr
        have hli : (l.length : Int) > 40 := by omega
        clear ha hk0
        go_wp2_with fail
        go_ret2
        exact ⟨_, rfl, World.ownsRow_nil _ _ _ _, HB.out⟩
      · have hr := HR.out
        rw [R_Sort_yes ha (by omega)] at hr
        subst hr
        have hli : ¬ (l.length : Int) > 40 := by omega
        clear ha hk0
        go_wp2_with fail
        go_ret2
        refine ⟨_, rfl, ?_, HB.out⟩
        have h := HO.out
        rw [List.take_length] at h
        show World.ownsRow _ _ _ _ _ (srtF l).length (fdsV (srtF l))
        rw [srtF_len]; exact h
    obtain ⟨f, hf⟩ : ∃ f, l[k]? = some f := ⟨l[k], List.getElem?_eq_getElem hlk⟩
    have HNO : Hid (okF f = false → R = ([], false)) := Lib.hid fun h => by rw [← HR.out]; exact R_Sort_no (List.mem_of_getElem? hf) h
    have HYES : Hid (okF f = true → (l.take (k + 1)).all okF = true) := Lib.hid fun h1 => all_next HA.out hf h1
    have HFT : Hid ((l.take (k + 1)).foldl insF [] = insF ((l.take k).foldl insF []) f) := Lib.hid (fold_take hf)
    have HOL : Hid (((l.take k).foldl insF []).length = k) := Lib.hid (take_ilen (by omega))
    generalize hO : (l.take k).foldl insF [] = O at *
    obtain ⟨b, off, rfl, hbl, hbw, c0, c1, c2, c3⟩ := row4 HROW.out HB.out hf
    have HOK := Lib.hid (fun wx => spec_field f wx)
    generalize okF f = ok at *
    have HFN : Hid (∀ x y, f = mkF x y f.num f.data → f.no = x) := Lib.hid fun x y h => by rw [h]; rfl
    obtain ⟨no, kd, nm, dt⟩ := f
    simp only at c0 c1 c2 c3 HNO HYES HOK
    clear HFN
    have HBX := Lib.hid (box_start w1 (.cells #[.int .i64 no, .int .i64 kd, .int .i64 nm, .string dt] 57))
    have HXX := Lib.hid (heap_alloc_new w1 (.cells #[.int .i64 no, .int .i64 kd, .int .i64 nm, .string dt] 57))
    have HOX := Lib.hid (HO.out.alloc (.cells #[.int .i64 no, .int .i64 kd, .int .i64 nm, .string dt] 57))
    have HBA := Lib.hid (HB.out.alloc HB.out.size (.cells #[.int .i64 no, .int .i64 kd, .int .i64 nm, .string dt] 57))
    clear hf hO
    cases ok with
    | false =>
      have hr := HNO.out rfl
      subst hr
      clear hk0
      go_wp2_with fail
      refine (HOK.out _).mono ?_
      rintro e w2 ⟨rfl, hb⟩
      have HB2 := Lib.hid (HBA.out.trans (hb.mono HBA.out.size))
      clear hb
      go_wp2_with fail
      go_ret2
      exact ⟨_, rfl, World.ownsRow_nil _ _ _ _, HB2.out⟩
    | true =>
      have HALL := Lib.hid (HYES.out rfl)
      clear HYES HNO
      by_cases hkz : k = 0
      · obtain rfl : v = .slice none 0 0 := hk0 hkz
        obtain rfl : O = [] := List.length_eq_zero_iff.1 (by rw [HOL.out]; exact hkz)
        have HKZ := Lib.hid hkz
        have HI1 : Hid (insF [] ⟨no, kd, nm, dt⟩ = [⟨no, kd, nm, dt⟩]) := Lib.hid rfl
        clear hk0 hkz
        go_wp2_with fail
        refine (HOK.out _).mono ?_
        rintro e w2 ⟨rfl, hb⟩
        have HX2 := Lib.hid (heap_later hb HXX.out)
        have HB2 := Lib.hid (HBA.out.trans (hb.mono HBA.out.size))
        clear hb
        go_wp2_with fail
        go_loopw [7] (fun jv wr => jv = .int .i64 0 ∧ Hid (wr.heap[w1.heap.size]? = some (.cells #[.int .i64 no, .int .i64 kd, .int .i64 nm, .string dt] 57)) ∧ Hid (Below w.heap.size w wr)) (fun _ _ => 0)
        case atStart => exact ⟨rfl, HX2, HB2⟩
        case round =>
          clear HX2 HB2
          obtain ⟨wx, rfl⟩ : ∃ z : World, z = wr := ⟨_, rfl⟩
          obtain ⟨rfl, HXW, HBW⟩ := hrel
          obtain ⟨b0, b1, b2, b3⟩ := (box4 HXW.out).1
          have zx := heap_lt HXW.out
          go_wp2_with fail
          go_quiet (fail)
          have HXZ : Hid ((wx.drewN nq).heap[w1.heap.size]? = some (.cells #[.int .i64 no, .int .i64 kd, .int .i64 nm, .string dt] 57)) := HXW
          have HBZ := Lib.hid (below_drewN HBW.out nq)
          generalize wx.drewN nq = wz at *
          clear b0 b1 b2 b3
          obtain ⟨b0, b1, b2, b3⟩ := (box4 HXZ.out).1
          have HNW := Lib.hid (World.news_of_block (cs := #[.int .i64 no, .int .i64 kd, .int .i64 nm, .string dt]) (t := 57) (fr := (0, 0)) (heap_alloc_new wz (.cells #[.int .i64 no, .int .i64 kd, .int .i64 nm, .string dt] 57)))
          go_wp2_with (at_builtin; first
            | (refine wpList_append_own_none rfl _ _ 49 rfl wz.heap.size 57 i0 4 Try.underlying49 hi _ 0 [] rfl (World.ownsRow_nil _ _ _ _) rfl ?_)
            | (refine wpList_append_own _ rfl _ _ 49 rfl wz.heap.size 57 i0 (.agg #[.int .i64 0, .int .i64 0, .int .i64 0, .string ByteArray.empty]) 4 40 Try.underlying49 hi hz0 hz1 hz2 rfl (by decide) _ 0 [] rfl (World.ownsRow_nil _ _ _ _) _ 1 1 [.int .i64 no, .int .i64 kd, .int .i64 nm, .string dt] rfl rfl HNW.out (by simp [Value.oneCell']) (by decide) (by decide) (by simp) ?_))
          intro v' w5 hown hgrow hnil
          have HOW := Lib.hid hown; have HB5 := Lib.hid (Below.grown ((Below.refl wz.heap.size wz).alloc (Nat.le_refl _) _) hgrow (by simp) (fun j hj => by cases hj)); clear hown hgrow hnil
          go_wp2_with (at_builtin; refine wpList_append_own_none rfl _ _ 49 rfl wz.heap.size 57 i0 4 Try.underlying49 hi _ 1 _ rfl HOW.out rfl ?_)
          go_roundw
          case rel => exact ⟨k + 1, _, by omega, by go_num, rfl, HALL, by omega, Lib.hid (by
              rw [HFT.out, HI1.out, HKZ.out]
              exact own_mono HOW.out HBZ.out.size), Lib.hid (HBZ.out.trans (HB5.out.mono HBZ.out.size))⟩
          case measure => (simp [intOf]; try omega)
      · have ho2 := HO.out.2
        rcases ho2 with ⟨hv, h0⟩ | ⟨g, cp, cur, hv, hg, hgb, hlc, hcm, _⟩
        · exact absurd h0 hkz
        subst hv
        have hgl := (Array.getElem?_eq_some_iff.1 hgb).1
        have hc1 : cp ≤ 9223372036854775807 := by unfold maxLen at hcm; omega
        clear hk0 hgb hcm hkz
        go_wp2_with fail
        refine (HOK.out _).mono ?_
        rintro e w2 ⟨rfl, hb⟩
        have HX2 := Lib.hid (heap_later hb HXX.out)
        have HB2 := Lib.hid (HBA.out.trans (hb.mono HBA.out.size))
        have HO2 := Lib.hid (own_later HOX.out hb)
        clear hb
        go_wp2_with fail
        go_loopw [7] (fun jv wr => ∃ j : Nat, j ≤ k ∧ jv = .int .i64 (j : Int) ∧ Hid (∀ (t : Nat) (x : Fld), t < j → O[t]? = some x → x.no ≤ no) ∧ Hid (wr.heap[w1.heap.size]? = some (.cells #[.int .i64 no, .int .i64 kd, .int .i64 nm, .string dt] 57)) ∧ Hid (wr.ownsRow w.heap.size 57 4 (.slice (some ⟨g, 0, none⟩) k cp) k (fdsV O)) ∧ Hid (Below w.heap.size w wr)) (fun jv _ => k - (intOf jv).toNat)
        case atStart => exact ⟨0, by omega, rfl, Lib.hid (by intro t x h; omega), HX2, HO2, HB2⟩
        case round =>
          clear HX2 HB2 HO2
          obtain ⟨wx, rfl⟩ : ∃ z : World, z = wr := ⟨_, rfl⟩
          obtain ⟨j, hj, rfl, HK, HXW, HOW, HBW⟩ := hrel
          have hgx : g < wx.heap.size := (HOW.out.lt g rfl).2
          have zx := heap_lt HXW.out
          obtain ⟨b0, b1, b2, b3⟩ := (box4 HXW.out).1
          by_cases hjk : j < k
          case neg =>
            have hje : j = k := by omega
            have HP : Hid (insF O ⟨no, kd, nm, dt⟩ = O.take j ++ ⟨no, kd, nm, dt⟩ :: O.drop j) := Lib.hid (ins_at HK.out (fun x hx => by rw [List.getElem?_eq_none (by have := HOL.out; omega)] at hx; cases hx) (by have := HOL.out; omega))
            rw [← HFT.out] at HP
            clear hje
            go_wp2_with fail
            go_quiet (fail)
            have HXZ : Hid ((wx.drewN nq).heap[w1.heap.size]? = some (.cells #[.int .i64 no, .int .i64 kd, .int .i64 nm, .string dt] 57)) := HXW
            have HBZ := Lib.hid (below_drewN HBW.out nq)
            have HOZ := Lib.hid (own_drewN HOW.out nq)
            generalize wx.drewN nq = wz at *
            clear b0 b1 b2 b3
            have t0 := (box4 HXZ.out).1
            have z0 := heap_lt HXZ.out
            obtain ⟨b0, b1, b2, b3⟩ := t0
            go_wp2_with (at_builtin; refine wpList_append_own _ rfl _ _ 49 rfl wz.heap.size 57 i0 (.agg #[.int .i64 0, .int .i64 0, .int .i64 0, .string ByteArray.empty]) 4 40 Try.underlying49 hi hz0 hz1 hz2 rfl (by decide) _ 0 [] rfl (World.ownsRow_nil _ _ _ _) ⟨g, 0, none⟩ j cp (fdsV (O.take j)) rfl (by rw [fdsV_len, List.length_take]; have := HOL.out; omega) (news_take4 HOZ.out _) (fdsV_oc _) (by unfold maxLen; omega) (by omega) (Nat.le_refl _) ?_)
            intro v1 w7 hown hgrow hnil
            have HO1 := Lib.hid hown; have HB1 := Lib.hid (Below.grown (Below.refl wz.heap.size wz) hgrow (Nat.le_refl _) (fun j hj => by cases hj)); clear hown hgrow hnil
            try rw [Nat.zero_add] at HO1
            have HX7 := Lib.hid (heap_later HB1.out HXZ.out)
            have HNW := Lib.hid (World.news_of_block (cs := #[.int .i64 no, .int .i64 kd, .int .i64 nm, .string dt]) (t := 57) (fr := (0, 0)) (heap_alloc_new w7 (.cells #[.int .i64 no, .int .i64 kd, .int .i64 nm, .string dt] 57)))
            clear b0 b1 b2 b3
            obtain ⟨b0, b1, b2, b3⟩ := (box4 HX7.out).1
            go_wp2_with (at_builtin; refine wpList_append_own _ rfl _ _ 49 rfl wz.heap.size 57 i0 (.agg #[.int .i64 0, .int .i64 0, .int .i64 0, .string ByteArray.empty]) 4 40 Try.underlying49 hi hz0 hz1 hz2 rfl (by decide) _ j _ rfl (HO1.out.alloc _) _ 1 1 [.int .i64 no, .int .i64 kd, .int .i64 nm, .string dt] rfl rfl HNW.out (by simp [Value.oneCell']) (by unfold maxLen; omega) (by omega) (Nat.le_trans HB1.out.size (by simp)) ?_)
            intro v2 w8 hown hgrow hnil
            have HO2 := Lib.hid hown; have HB2 := Lib.hid (Below.grown (HB1.out.alloc HB1.out.size _) hgrow (Nat.le_trans HB1.out.size (by simp)) (fun j hj => (HO1.out.lt j hj).1)); clear hown hgrow hnil
            have HOY := Lib.hid (own_later HOZ.out HB2.out)
            clear b0 b1 b2 b3
            by_cases hcp : cp = j
            case neg =>
              go_wp2_with (at_builtin; refine wpList_append_own _ rfl _ _ 49 rfl wz.heap.size 57 i0 (.agg #[.int .i64 0, .int .i64 0, .int .i64 0, .string ByteArray.empty]) 4 40 Try.underlying49 hi hz0 hz1 hz2 rfl (by decide) _ (j + 1) _ rfl HO2.out _ (k - j) _ (fdsV (O.drop j)) (by first | rfl | (congr 1; omega)) (by rw [fdsV_len, List.length_drop]; have := HOL.out; omega) (news_drop4 HOY.out j (by have := HOL.out; omega)) (fdsV_oc _) (by unfold maxLen; omega) (by omega) HB2.out.size ?_)
              intro v3 w9 hown hgrow hnil
              have HO3 := Lib.hid hown; have HB3 := Lib.hid (Below.grown HB2.out hgrow HB2.out.size (fun j hj => (HO2.out.lt j hj).1)); clear hown hgrow hnil
              go_wp2_with fail
              go_roundw
              case rel => exact ⟨k + 1, _, by omega, by go_num, rfl, HALL, by omega, Lib.hid (by
                  rw [HP.out]
                  have h3 := own_mono HO3.out (Nat.le_trans (Nat.le_refl _) HBZ.out.size)
                  have e1 : j + 1 + (k - j) = k + 1 := by omega
                  rw [fdsV_append, fdsV_cons]
                  rw [← e1]
                  try rw [hdr]
                  simpa using h3), Lib.hid (HBZ.out.trans (HB3.out.mono HBZ.out.size))⟩
              case measure => (simp [intOf]; try omega)
            have hdr : O.drop j = [] := List.drop_eq_nil_of_le (by have := HOL.out; omega)
            go_wp2_with (at_builtin; refine wpList_append_own _ rfl _ _ 49 rfl wz.heap.size 57 i0 (.agg #[.int .i64 0, .int .i64 0, .int .i64 0, .string ByteArray.empty]) 4 40 Try.underlying49 hi hz0 hz1 hz2 rfl (by decide) _ (j + 1) _ rfl HO2.out _ (k - j) _ (fdsV (O.drop j)) (by first | rfl | (congr 1; omega)) (by rw [fdsV_len, List.length_drop]; have := HOL.out; omega) (by rw [hdr]; intro j u hu; simp [fdsV] at hu) (fdsV_oc _) (by unfold maxLen; omega) (by omega) HB2.out.size ?_)
            intro v3 w9 hown hgrow hnil
            have HO3 := Lib.hid hown; have HB3 := Lib.hid (Below.grown HB2.out hgrow HB2.out.size (fun j hj => (HO2.out.lt j hj).1)); clear hown hgrow hnil
            go_wp2_with fail
            go_roundw
            case rel => exact ⟨k + 1, _, by omega, by go_num, rfl, HALL, by omega, Lib.hid (by
                rw [HP.out]
                have h3 := own_mono HO3.out (Nat.le_trans (Nat.le_refl _) HBZ.out.size)
                have e1 : j + 1 + (k - j) = k + 1 := by omega
                rw [fdsV_append, fdsV_cons]
                rw [← e1]
                try rw [hdr]
                simpa using h3), Lib.hid (HBZ.out.trans (HB3.out.mono HBZ.out.size))⟩
            case measure => (simp [intOf]; try omega)
          obtain ⟨x, hx⟩ : ∃ x, O[j]? = some x := ⟨O[j]'(by have := HOL.out; omega), List.getElem?_eq_getElem _⟩
          have hc : wx.cell? ⟨g, j * 4, none⟩ = some (.int .i64 x.no) := by
            rw [HOW.out.cellAt _ (by omega)]
            exact (fdsV_at O j x hx).1
          by_cases hlt : x.no ≤ no
          · have HK2 : Hid (∀ (t : Nat) (y : Fld), t < j + 1 → O[t]? = some y → y.no ≤ no) := Lib.hid fun t y ht hy => by
              rcases Nat.lt_or_ge t j with h | h
              · exact HK.out t y h hy
              · obtain rfl : t = j := by omega
                rw [hx] at hy; cases hy; exact hlt
            clear hx
            go_wp2_with fail
            go_quiet (fail)
            go_wp2_with fail
            go_roundw
            case rel => exact ⟨j + 1, by omega, by go_num, HK2, HXW, Lib.hid (own_drewN HOW.out _), Lib.hid (below_drewN HBW.out _)⟩
            case measure => (simp [intOf]; try omega)
          · have HP : Hid (insF O ⟨no, kd, nm, dt⟩ = O.take j ++ ⟨no, kd, nm, dt⟩ :: O.drop j) := Lib.hid (ins_at HK.out (fun y hy => by rw [hx] at hy; cases hy; show no < _; omega) (by have := HOL.out; omega))
            rw [← HFT.out] at HP
            clear hx
            go_wp2_with fail
            go_quiet (fail)
            have HXZ : Hid ((wx.drewN nq).heap[w1.heap.size]? = some (.cells #[.int .i64 no, .int .i64 kd, .int .i64 nm, .string dt] 57)) := HXW
            have HBZ := Lib.hid (below_drewN HBW.out nq)
            have HOZ := Lib.hid (own_drewN HOW.out nq)
            generalize wx.drewN nq = wz at *
            clear b0 b1 b2 b3 hc
            have t0 := (box4 HXZ.out).1
            have z0 := heap_lt HXZ.out
            obtain ⟨b0, b1, b2, b3⟩ := t0
            go_wp2_with (at_builtin; refine wpList_append_own _ rfl _ _ 49 rfl wz.heap.size 57 i0 (.agg #[.int .i64 0, .int .i64 0, .int .i64 0, .string ByteArray.empty]) 4 40 Try.underlying49 hi hz0 hz1 hz2 rfl (by decide) _ 0 [] rfl (World.ownsRow_nil _ _ _ _) ⟨g, 0, none⟩ j cp (fdsV (O.take j)) rfl (by rw [fdsV_len, List.length_take]; have := HOL.out; omega) (news_take4 HOZ.out _) (fdsV_oc _) (by unfold maxLen; omega) (by omega) (Nat.le_refl _) ?_)
            intro v1 w7 hown hgrow hnil
            have HO1 := Lib.hid hown; have HB1 := Lib.hid (Below.grown (Below.refl wz.heap.size wz) hgrow (Nat.le_refl _) (fun j hj => by cases hj)); clear hown hgrow hnil
            try rw [Nat.zero_add] at HO1
            have HX7 := Lib.hid (heap_later HB1.out HXZ.out)
            have HNW := Lib.hid (World.news_of_block (cs := #[.int .i64 no, .int .i64 kd, .int .i64 nm, .string dt]) (t := 57) (fr := (0, 0)) (heap_alloc_new w7 (.cells #[.int .i64 no, .int .i64 kd, .int .i64 nm, .string dt] 57)))
            clear b0 b1 b2 b3
            obtain ⟨b0, b1, b2, b3⟩ := (box4 HX7.out).1
            go_wp2_with (at_builtin; refine wpList_append_own _ rfl _ _ 49 rfl wz.heap.size 57 i0 (.agg #[.int .i64 0, .int .i64 0, .int .i64 0, .string ByteArray.empty]) 4 40 Try.underlying49 hi hz0 hz1 hz2 rfl (by decide) _ j _ rfl (HO1.out.alloc _) _ 1 1 [.int .i64 no, .int .i64 kd, .int .i64 nm, .string dt] rfl rfl HNW.out (by simp [Value.oneCell']) (by unfold maxLen; omega) (by omega) (Nat.le_trans HB1.out.size (by simp)) ?_)
            intro v2 w8 hown hgrow hnil
            have HO2 := Lib.hid hown; have HB2 := Lib.hid (Below.grown (HB1.out.alloc HB1.out.size _) hgrow (Nat.le_trans HB1.out.size (by simp)) (fun j hj => (HO1.out.lt j hj).1)); clear hown hgrow hnil
            have HOY := Lib.hid (own_later HOZ.out HB2.out)
            clear b0 b1 b2 b3
            have hcp : ¬ cp = j := by omega
            go_wp2_with (at_builtin; refine wpList_append_own _ rfl _ _ 49 rfl wz.heap.size 57 i0 (.agg #[.int .i64 0, .int .i64 0, .int .i64 0, .string ByteArray.empty]) 4 40 Try.underlying49 hi hz0 hz1 hz2 rfl (by decide) _ (j + 1) _ rfl HO2.out _ (k - j) _ (fdsV (O.drop j)) (by first | rfl | (congr 1; omega)) (by rw [fdsV_len, List.length_drop]; have := HOL.out; omega) (news_drop4 HOY.out j (by have := HOL.out; omega)) (fdsV_oc _) (by unfold maxLen; omega) (by omega) HB2.out.size ?_)
            intro v3 w9 hown hgrow hnil
            have HO3 := Lib.hid hown; have HB3 := Lib.hid (Below.grown HB2.out hgrow HB2.out.size (fun j hj => (HO2.out.lt j hj).1)); clear hown hgrow hnil
            go_wp2_with fail
            go_roundw
            case rel => exact ⟨k + 1, _, by omega, by go_num, rfl, HALL, by omega, Lib.hid (by
                rw [HP.out]
                have h3 := own_mono HO3.out (Nat.le_trans (Nat.le_refl _) HBZ.out.size)
                have e1 : j + 1 + (k - j) = k + 1 := by omega
                rw [fdsV_append, fdsV_cons]
                rw [← e1]
                try rw [hdr]
                simpa using h3), Lib.hid (HBZ.out.trans (HB3.out.mono HBZ.out.size))⟩
            case measure => (simp [intOf]; try omega)
end Go.Proofs.Ytlmgckijbamgpaa
