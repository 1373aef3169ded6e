/- The variables of a tree, put in order: the reference's walk. -/
import Derived.Test.YtlmgckijbamgpaaTm6
import Derived.Laws.AppendOwnNone
namespace Go.Proofs.Ytlmgckijbamgpaa
set_option linter.unusedVariables false
open Go.ChangeShapes Go.WideShapes Go.ChangeAt Go.RowKit
set_option maxRecDepth 100000

theorem ownN {w : World} {base : Nat} {e : TypeId} {size : Nat} {v : Value} {n : Nat} {xs : List Value} (h : w.ownsRow base e size v n xs) (q : Nat) : (w.drewN q).ownsRow base e size v n xs := own_later h (below_drewN (Below.refl _ _) q)
def VarsR (base : Nat) (R : List Int) (w : World) (e : Ending) (w' : World) : Prop :=
  ∃ v, e = .returned v ∧ w'.ownsRow base 3 1 v R.length (ints R) ∧ Below w.heap.size w w'
set_option maxHeartbeats 4000000 in
theorem spec_vars_leaf (base : Nat) (v : Value) (xs : List Int) (n : Int) (nm : ByteArray) (sa : Option Addr) (sn sc : Nat) (w : World) (ho : w.ownsRow base 3 1 v xs.length (ints xs)) (hb : base ≤ w.heap.size) (hl : xs.length ≤ 1048576) (hn : 1 ≤ n) (hn6 : n ≤ 6) :
    Calls Try.prog 58 #[.agg #[.int .i64 n, .string nm, .slice sa sn sc], v] w (VarsR base (putR xs n) w) := by
  obtain ⟨i0, hi, hz0, hz1, hz2⟩ := info_parts Try.infoHIntS
  obtain ⟨a, cp, rfl⟩ := form_of_own ho
  have HBX := Lib.hid (heap_alloc_new w (.cells #[.int .i64 n, .string nm, .slice sa sn sc] 87))
  have HB0 := Lib.hid ((Below.refl w.heap.size w).alloc (Nat.le_refl _) (.cells #[.int .i64 n, .string nm, .slice sa sn sc] 87))
  have HO0 := Lib.hid (ho.alloc (.cells #[.int .i64 n, .string nm, .slice sa sn sc] 87))
  generalize hw0 : w.alloc (.cells #[.int .i64 n, .string nm, .slice sa sn sc] 87) = w0 at *
  obtain ⟨⟨t0, -, -⟩, -⟩ := box3 HBX.out
  unfold VarsR
  have ho2 := ho.2
  rcases ho2 with ⟨hv, h0⟩ | ⟨g, cap, cur, hv, hg, hgb, hlc, hcm, _⟩
  · simp only [Value.slice.injEq] at hv
    obtain ⟨rfl, _, rfl⟩ := hv
    obtain rfl : xs = [] := List.length_eq_zero_iff.1 h0
    have hR : putR [] n = [n] := by simp [putR, putK]
    rw [hR]
    clear ho h0 hR
    go_enter Try.func58, Try.ntmps58
    go_wp2_with fail
    go_loopw [5] (fun iv wr => iv = .int .i64 0 ∧ Hid (Below w.heap.size w wr) ∧ Hid (wr.cell? ⟨w.heap.size, 0, none⟩ = some (.int .i64 n))) (fun iv _ => 0)
    case atStart => exact ⟨rfl, HB0, Lib.hid t0⟩
    case round =>
      obtain ⟨wx, rfl⟩ : ∃ z : World, z = wr := ⟨_, rfl⟩
      obtain ⟨rfl, HBW, HTW⟩ := hrel
      have t1 := HTW.out
      go_wp2_with fail
      go_quiet (fail)
      have t2 : (wx.drewN nq).cell? ⟨w.heap.size, 0, none⟩ = some (.int .i64 n) := HTW.out
      have HBY := Lib.hid (below_drewN HBW.out nq)
      generalize wx.drewN nq = wy at *
      go_wp2_with fail
      go_quiet (fail)
      have t3 : (wy.drewN nq).cell? ⟨w.heap.size, 0, none⟩ = some (.int .i64 n) := t2
      have HBZ := Lib.hid (below_drewN HBY.out nq)
      generalize wy.drewN nq = wz at *
      go_wp2_with (at_builtin; first
        | (refine wpList_append_own_none rfl _ _ 26 rfl wz.heap.size 3 i0 1 Try.underlying26 hi _ 0 [] rfl (World.ownsRow_nil _ _ _ _) rfl ?_)
        | (refine wpList_append_own _ rfl _ _ 26 rfl wz.heap.size 3 i0 (.int .i64 0) 1 8 Try.underlying26 hi hz0 hz1 hz2 rfl (by decide) _ 0 [] rfl (World.ownsRow_nil _ _ _ _) _ 1 1 [.int .i64 n] rfl rfl (news_one _ _ _) (by simp [Value.oneCell']) (by decide) (by decide) (by simp) ?_))
      intro v' w2 hown hgrow hnil
      have HOW := Lib.hid hown; have HB2 := Lib.hid (Below.grown ((Below.refl wz.heap.size wz).alloc (Nat.le_refl _) _) hgrow (by simp) (fun j hj => by cases hj)); clear hown hgrow hnil
      go_wp2_with (at_builtin; refine wpList_append_own_none rfl _ _ 26 rfl wz.heap.size 3 i0 1 Try.underlying26 hi _ 1 _ rfl HOW.out rfl ?_)
      go_ret
      exact ⟨_, rfl, own_mono HOW.out (Nat.le_trans hb HBZ.out.size), HBZ.out.trans (HB2.out.mono HBZ.out.size)⟩
  · cases hv
    have hgl := (Array.getElem?_eq_some_iff.1 hgb).1
    have hc1 : cp ≤ 9223372036854775807 := by unfold maxLen at hcm; omega
    clear ho hgb hcm
    go_enter Try.func58, Try.ntmps58
    go_wp2_with fail
    go_loopw [5] (fun iv wr => ∃ (k : Nat), k ≤ xs.length ∧ iv = .int .i64 (k : Int) ∧ Hid (∀ (j : Nat) (x : Int), j < k → xs[j]? = some x → x < n) ∧ Hid (Below w.heap.size w wr) ∧ Hid (wr.cell? ⟨w.heap.size, 0, none⟩ = some (.int .i64 n)) ∧ Hid (wr.ownsRow base 3 1 (.slice (some ⟨g, 0, none⟩) xs.length cp) xs.length (ints xs))) (fun iv _ => xs.length - (intOf iv).toNat)
    case atStart => exact ⟨0, by omega, rfl, Lib.hid (by intro j x h; omega), HB0, Lib.hid t0, HO0⟩
    case round =>
      obtain ⟨wx, rfl⟩ : ∃ z : World, z = wr := ⟨_, rfl⟩
      obtain ⟨k, hk, rfl, HK, HBW, HTW, HOW⟩ := hrel
      have t1 := HTW.out
      have hgx : g < wx.heap.size := (HOW.out.lt g rfl).2
      have hwx : w.heap.size < wx.heap.size := World.block_lt_of_cell? wx _ t1
      by_cases hlk : k < xs.length
      case neg =>
        have hke : k = xs.length := by omega
        have hpk : putK xs n = k := putK_is xs n k hk HK.out (fun x hx => by rw [List.getElem?_eq_none (by omega)] at hx; cases hx)
        have HP : Hid (putR xs n = xs.take k ++ n :: xs.drop k) := Lib.hid (by unfold putR; rw [hpk, List.getElem?_eq_none (by omega), if_neg (by simp)])
        clear hpk hke
        go_wp2_with fail
        go_quiet (fail)
        have t2 : (wx.drewN nq).cell? ⟨w.heap.size, 0, none⟩ = some (.int .i64 n) := HTW.out
        have HBY := Lib.hid (below_drewN HBW.out nq)
        have HOY0 := Lib.hid (ownN HOW.out nq)
        generalize wx.drewN nq = wy at *
        go_wp2_with fail
        go_quiet (fail)
        have t0z : (wy.drewN nq).cell? ⟨w.heap.size, 0, none⟩ = some (.int .i64 n) := t2
        have HBZ := Lib.hid (below_drewN HBY.out nq)
        have HOZ := Lib.hid (ownN HOY0.out nq)
        generalize wy.drewN nq = wz at *
        clear t0 t1 t2
        have t0 := t0z
        clear t0z
        go_wp2_with (at_builtin; refine wpList_append_own _ rfl _ _ 26 rfl wz.heap.size 3 i0 (.int .i64 0) 1 8 Try.underlying26 hi hz0 hz1 hz2 rfl (by decide) _ 0 [] rfl (World.ownsRow_nil _ _ _ _) ⟨g, 0, none⟩ k cp (ints (xs.take k)) rfl (by simp; omega) (news_take HOZ.out _) (ints_oc _) (by unfold maxLen; omega) (by omega) (Nat.le_refl _) ?_)
        intro v1 w1 hown hgrow hnil
        have HO1 := Lib.hid hown; have HB1 := Lib.hid (Below.grown (Below.refl wz.heap.size wz) hgrow (Nat.le_refl _) (fun j hj => by cases hj)); clear hown hgrow hnil
        try rw [Nat.zero_add] at HO1
        have HOX := Lib.hid (own_later HOZ.out HB1.out)
        have t1 := below_later HB1.out t0
        go_wp2_with (at_builtin; refine wpList_append_own _ rfl _ _ 26 rfl wz.heap.size 3 i0 (.int .i64 0) 1 8 Try.underlying26 hi hz0 hz1 hz2 rfl (by decide) _ k _ rfl (HO1.out.alloc _) _ 1 1 [.int .i64 n] rfl rfl (news_one _ _ _) (by simp [Value.oneCell']) (by unfold maxLen; omega) (by omega) (Nat.le_trans HB1.out.size (by simp)) ?_)
        intro v2 w2 hown hgrow hnil
        have HO2 := Lib.hid hown; have HB2 := Lib.hid (Below.grown (HB1.out.alloc HB1.out.size _) hgrow (Nat.le_trans HB1.out.size (by simp)) (fun j hj => (HO1.out.lt j hj).1)); clear hown hgrow hnil
        have HOY := Lib.hid (own_later HOZ.out HB2.out)
        by_cases hcp : cp = k
        case neg =>
          go_wp2_with (at_builtin; refine wpList_append_own _ rfl _ _ 26 rfl wz.heap.size 3 i0 (.int .i64 0) 1 8 Try.underlying26 hi hz0 hz1 hz2 rfl (by decide) _ (k + 1) _ rfl HO2.out _ _ _ (ints (xs.drop k)) rfl (by simp) (news_drop HOY.out k) (ints_oc _) (by unfold maxLen; omega) (by omega) HB2.out.size ?_)
          intro v3 w3 hown hgrow hnil
          have HO3 := Lib.hid hown; have HB3 := Lib.hid (Below.grown HB2.out hgrow HB2.out.size (fun j hj => (HO2.out.lt j hj).1)); clear hown hgrow hnil
          go_wp2_with fail
          go_ret
          refine ⟨_, rfl, ?_, HBZ.out.trans (HB3.out.mono HBZ.out.size)⟩
          rw [HP.out]
          have h3 := own_mono HO3.out (Nat.le_trans hb HBZ.out.size)
          have e1 : (xs.take k ++ n :: xs.drop k).length = k + 1 + (xs.length - k) := by simp; omega
          have e2 : ints (xs.take k ++ n :: xs.drop k) = ints (xs.take k) ++ [.int .i64 n] ++ ints (xs.drop k) := by simp [ints]
          rw [e1, e2]
          try rw [hdr]
          simpa using h3
        have hdr : xs.drop k = [] := List.drop_eq_nil_of_le (by omega)
        go_wp2_with (at_builtin; refine wpList_append_own _ rfl _ _ 26 rfl wz.heap.size 3 i0 (.int .i64 0) 1 8 Try.underlying26 hi hz0 hz1 hz2 rfl (by decide) _ (k + 1) _ rfl HO2.out _ _ _ (ints (xs.drop k)) rfl (by simp) (by rw [hdr]; intro j u hu; simp [ints] at hu) (ints_oc _) (by unfold maxLen; omega) (by omega) HB2.out.size ?_)
        intro v3 w3 hown hgrow hnil
        have HO3 := Lib.hid hown; have HB3 := Lib.hid (Below.grown HB2.out hgrow HB2.out.size (fun j hj => (HO2.out.lt j hj).1)); clear hown hgrow hnil
        go_wp2_with fail
        go_ret
        refine ⟨_, rfl, ?_, HBZ.out.trans (HB3.out.mono HBZ.out.size)⟩
        rw [HP.out]
        have h3 := own_mono HO3.out (Nat.le_trans hb HBZ.out.size)
        have e1 : (xs.take k ++ n :: xs.drop k).length = k + 1 + (xs.length - k) := by simp; omega
        have e2 : ints (xs.take k ++ n :: xs.drop k) = ints (xs.take k) ++ [.int .i64 n] ++ ints (xs.drop k) := by simp [ints]
        rw [e1, e2]
        try rw [hdr]
        simpa using h3
      obtain ⟨x, hx⟩ : ∃ x, xs[k]? = some x := ⟨xs[k], List.getElem?_eq_getElem hlk⟩
      have hc : wx.cell? ⟨g, k, none⟩ = some (.int .i64 x) := by
        rw [HOW.out.cellAt k (by omega)]
        obtain ⟨hk', rfl⟩ := List.getElem?_eq_some_iff.1 hx
        simp [ints, hk']
      have z0 : (0 : Int) ≤ (k : Int) := Int.natCast_nonneg _
      have z1 : (k : Int) < (xs.length : Int) := by omega
      by_cases hlt : x < n
      · have HK2 : Hid (∀ (j : Nat) (y : Int), j < k + 1 → xs[j]? = some y → y < n) := Lib.hid fun j y hj hy => by
          rcases Nat.lt_or_ge j k with h | h
          · exact HK.out j y h hy
          · obtain rfl : j = k := by omega
            rw [hx] at hy; cases hy; exact hlt
        clear hx
        go_wp2_with fail
        go_quiet (fail)
        go_wp2_with fail
        go_roundw
        case rel => exact ⟨k + 1, by omega, by go_num, HK2, Lib.hid (below_drewN HBW.out _), Lib.hid HTW.out, Lib.hid (ownN HOW.out _)⟩
        case measure => simp [intOf]; omega
      · have hpk : putK xs n = k := putK_is xs n k hk HK.out (fun y hy => by rw [hx] at hy; cases hy; omega)
        by_cases heq : x = n
        · have HP : Hid (putR xs n = xs) := Lib.hid (by unfold putR; rw [hpk, hx, heq, if_pos rfl])
          have hq : (x == n) = true := by simp [heq]
          clear hpk heq hx
          go_wp2_with fail
          go_quiet (fail)
          have t2 : (wx.drewN nq).cell? ⟨w.heap.size, 0, none⟩ = some (.int .i64 n) := HTW.out
          have HBY := Lib.hid (below_drewN HBW.out nq)
          have HOY0 := Lib.hid (ownN HOW.out nq)
          have hc2 : (wx.drewN nq).cell? ⟨g, k, none⟩ = some (.int .i64 x) := hc
          have hgy : g < (wx.drewN nq).heap.size := hgx
          have hwy : w.heap.size < (wx.drewN nq).heap.size := hwx
          generalize wx.drewN nq = wy at *
          go_wp2_with fail
          go_quiet (fail)
          have t0z : (wy.drewN nq).cell? ⟨w.heap.size, 0, none⟩ = some (.int .i64 n) := t2
          have HBZ := Lib.hid (below_drewN HBY.out nq)
          have HOZ := Lib.hid (ownN HOY0.out nq)
          generalize wy.drewN nq = wz at *
          clear t0 t1 t2 hc hc2
          have t0 := t0z
          clear t0z
          go_wp2_with fail
          go_ret
          exact ⟨_, rfl, by rw [HP.out]; exact HOZ.out, HBZ.out⟩
        · have HP : Hid (putR xs n = xs.take k ++ n :: xs.drop k) := Lib.hid (by unfold putR; rw [hpk, hx, if_neg (fun h => heq (by simpa using h))])
          have hq : (x == n) = false := by simp [heq]
          clear hpk heq hx
          go_wp2_with fail
          go_quiet (fail)
          have t2 : (wx.drewN nq).cell? ⟨w.heap.size, 0, none⟩ = some (.int .i64 n) := HTW.out
          have HBY := Lib.hid (below_drewN HBW.out nq)
          have HOY0 := Lib.hid (ownN HOW.out nq)
          have hc2 : (wx.drewN nq).cell? ⟨g, k, none⟩ = some (.int .i64 x) := hc
          have hgy : g < (wx.drewN nq).heap.size := hgx
          have hwy : w.heap.size < (wx.drewN nq).heap.size := hwx
          generalize wx.drewN nq = wy at *
          go_wp2_with fail
          go_quiet (fail)
          have t0z : (wy.drewN nq).cell? ⟨w.heap.size, 0, none⟩ = some (.int .i64 n) := t2
          have HBZ := Lib.hid (below_drewN HBY.out nq)
          have HOZ := Lib.hid (ownN HOY0.out nq)
          generalize wy.drewN nq = wz at *
          clear t0 t1 t2 hc hc2
          have t0 := t0z
          clear t0z
          go_wp2_with (at_builtin; refine wpList_append_own _ rfl _ _ 26 rfl wz.heap.size 3 i0 (.int .i64 0) 1 8 Try.underlying26 hi hz0 hz1 hz2 rfl (by decide) _ 0 [] rfl (World.ownsRow_nil _ _ _ _) ⟨g, 0, none⟩ k cp (ints (xs.take k)) rfl (by simp; omega) (news_take HOZ.out _) (ints_oc _) (by unfold maxLen; omega) (by omega) (Nat.le_refl _) ?_)
          intro v1 w1 hown hgrow hnil
          have HO1 := Lib.hid hown; have HB1 := Lib.hid (Below.grown (Below.refl wz.heap.size wz) hgrow (Nat.le_refl _) (fun j hj => by cases hj)); clear hown hgrow hnil
          try rw [Nat.zero_add] at HO1
          have HOX := Lib.hid (own_later HOZ.out HB1.out)
          have t1 := below_later HB1.out t0
          go_wp2_with (at_builtin; refine wpList_append_own _ rfl _ _ 26 rfl wz.heap.size 3 i0 (.int .i64 0) 1 8 Try.underlying26 hi hz0 hz1 hz2 rfl (by decide) _ k _ rfl (HO1.out.alloc _) _ 1 1 [.int .i64 n] rfl rfl (news_one _ _ _) (by simp [Value.oneCell']) (by unfold maxLen; omega) (by omega) (Nat.le_trans HB1.out.size (by simp)) ?_)
          intro v2 w2 hown hgrow hnil
          have HO2 := Lib.hid hown; have HB2 := Lib.hid (Below.grown (HB1.out.alloc HB1.out.size _) hgrow (Nat.le_trans HB1.out.size (by simp)) (fun j hj => (HO1.out.lt j hj).1)); clear hown hgrow hnil
          have HOY := Lib.hid (own_later HOZ.out HB2.out)
          have hcp : ¬ cp = k := by omega
          go_wp2_with (at_builtin; refine wpList_append_own _ rfl _ _ 26 rfl wz.heap.size 3 i0 (.int .i64 0) 1 8 Try.underlying26 hi hz0 hz1 hz2 rfl (by decide) _ (k + 1) _ rfl HO2.out _ _ _ (ints (xs.drop k)) rfl (by simp) (news_drop HOY.out k) (ints_oc _) (by unfold maxLen; omega) (by omega) HB2.out.size ?_)
          intro v3 w3 hown hgrow hnil
          have HO3 := Lib.hid hown; have HB3 := Lib.hid (Below.grown HB2.out hgrow HB2.out.size (fun j hj => (HO2.out.lt j hj).1)); clear hown hgrow hnil
          go_wp2_with fail
          go_ret
          refine ⟨_, rfl, ?_, HBZ.out.trans (HB3.out.mono HBZ.out.size)⟩
          rw [HP.out]
          have h3 := own_mono HO3.out (Nat.le_trans hb HBZ.out.size)
          have e1 : (xs.take k ++ n :: xs.drop k).length = k + 1 + (xs.length - k) := by simp; omega
          have e2 : ints (xs.take k ++ n :: xs.drop k) = ints (xs.take k) ++ [.int .i64 n] ++ ints (xs.drop k) := by simp [ints]
          rw [e1, e2]
          try rw [hdr]
          simpa using h3
end Go.Proofs.Ytlmgckijbamgpaa
