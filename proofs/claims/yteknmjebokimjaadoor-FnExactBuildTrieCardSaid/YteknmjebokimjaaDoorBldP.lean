/- A number put to its place in a rising list: the two contracts once more, with what of the memory is written told closer. -/
import Derived.Test.YteknmjebokimjaaDoorBldL
namespace Go.Proofs.YteknmjebokimjaaDoor
set_option linter.unusedVariables false
open Go.ChangeShapes Go.WideShapes Go.ChangeAt Go.RowKit
set_option maxRecDepth 100000

def PutOf2 (base : Nat) (v : Value) (xs : List Int) (n : Int) (w : World) (e : Ending) (w' : World) : Prop :=
  ∃ v', e = .returned v' ∧ w'.ownsRow base 3 1 v' (putR xs n).length (ints (putR xs n)) ∧ (v' = v ∨ ∀ k, v'.ownBlock = some k → w.heap.size ≤ k) ∧ Below w.heap.size w w'
set_option maxHeartbeats 4000000 in
theorem spec_put2 (base : Nat) (v : Value) (xs : List Int) (n : Int) (w : World) (ho : w.ownsRow base 3 1 v xs.length (ints xs)) (hb : base ≤ w.heap.size) (hl : xs.length ≤ 1048576) :
    Calls Tryd.prog 54 #[v, .int .i64 n] w (PutOf2 base v xs n w) := by
  obtain ⟨i0, hi, hz0, hz1, hz2⟩ := info_parts Tryd.infoHIntS
  obtain ⟨a, cp, rfl⟩ := form_of_own ho
  have ho2 := ho.2
  rcases ho2 with ⟨hv, h0⟩ | ⟨g, cap, cur, hv, hg, hgb, hlc, hcm, _⟩
  · simp only [Value.slice.injEq] at hv
    obtain ⟨rfl, _, rfl⟩ := hv
    obtain rfl : xs = [] := List.length_eq_zero_iff.1 h0
    have hR : putR [] n = [n] := by simp [putR, putK]
    unfold PutOf2
    rw [hR]
    clear ho h0 hR
    go_enter Tryd.func54, Tryd.ntmps54
    go_wp2_with fail
    go_loop [5] (fun iv => iv = .int .i64 0) (fun iv => 0)
    case atStart => rfl
    case round =>
      obtain rfl := hrel
      go_wp2_with (at_builtin; first
        | (refine wpList_append_own_none rfl _ _ 36 rfl w.heap.size 3 i0 1 Tryd.underlying36 hi _ 0 [] rfl (World.ownsRow_nil _ _ _ _) rfl ?_)
        | (refine wpList_append_own _ rfl _ _ 36 rfl w.heap.size 3 i0 (.int .i64 0) 1 8 Tryd.underlying36 hi hz0 hz1 hz2 rfl (by decide) _ 0 [] rfl (World.ownsRow_nil _ _ _ _) _ 1 1 [.int .i64 n] rfl rfl (news_one _ _ _) (by simp [Value.oneCell']) (by decide) (by decide) (by simp) ?_))
      intro v' w2 hown hgrow hnil
      have HOW := Lib.hid hown; have HB2 := Lib.hid (Below.grown ((Below.refl w.heap.size w).alloc (Nat.le_refl _) _) hgrow (by simp) (fun j hj => by cases hj)); clear hown hgrow hnil
      go_wp2_with (at_builtin; refine wpList_append_own_none rfl _ _ 36 rfl w.heap.size 3 i0 1 Tryd.underlying36 hi _ 1 _ rfl HOW.out rfl ?_)
      go_ret
      exact ⟨_, rfl, own_mono HOW.out hb, .inr (fun k hk => (HOW.out.lt k hk).1), HB2.out⟩
  · cases hv
    have hgl := (Array.getElem?_eq_some_iff.1 hgb).1
    have HO := Lib.hid ho
    have HRW := Lib.hid (own_rw ho)
    have hc1 : cp ≤ 9223372036854775807 := by unfold maxLen at hcm; omega
    clear ho hgb hcm
    unfold PutOf2
    go_enter Tryd.func54, Tryd.ntmps54
    go_wp2_with fail
    go_loop [5] (fun iv => ∃ (k : Nat), k ≤ xs.length ∧ iv = .int .i64 (k : Int) ∧ Hid (∀ (j : Nat) (x : Int), j < k → xs[j]? = some x → x < n)) (fun iv => xs.length - (intOf iv).toNat)
    case atStart => exact ⟨0, by omega, rfl, Lib.hid (by intro j x h; omega)⟩
    case round =>
      obtain ⟨k, hk, rfl, HK⟩ := hrel
      by_cases hlk : k < xs.length
      case neg =>
        have hke : k = xs.length := by omega
        have hpk : putK xs n = k := putK_is xs n k hk HK.out (fun x hx => by rw [List.getElem?_eq_none (by omega)] at hx; cases hx)
        have HP : Hid (putR xs n = xs.take k ++ n :: xs.drop k) := Lib.hid (by unfold putR; rw [hpk, List.getElem?_eq_none (by omega), if_neg (by simp)])
        clear hpk hke
        go_wp2_with (at_builtin; refine wpList_append_own _ rfl _ _ 36 rfl w.heap.size 3 i0 (.int .i64 0) 1 8 Tryd.underlying36 hi hz0 hz1 hz2 rfl (by decide) _ 0 [] rfl (World.ownsRow_nil _ _ _ _) ⟨g, 0, none⟩ k cp (ints (xs.take k)) rfl (by simp; omega) (news_take HO.out _) (ints_oc _) (by unfold maxLen; omega) (by omega) (Nat.le_refl _) ?_)
        intro v1 w1 hown hgrow hnil
        have HO1 := Lib.hid hown; have HB1 := Lib.hid (Below.grown (Below.refl w.heap.size w) hgrow (Nat.le_refl _) (fun j hj => by cases hj)); clear hown hgrow hnil
        try rw [Nat.zero_add] at HO1
        have HOX := Lib.hid (own_later HO.out HB1.out)
        go_wp2_with (at_builtin; refine wpList_append_own _ rfl _ _ 36 rfl w.heap.size 3 i0 (.int .i64 0) 1 8 Tryd.underlying36 hi hz0 hz1 hz2 rfl (by decide) _ k _ rfl (HO1.out.alloc _) _ 1 1 [.int .i64 n] rfl rfl (news_one _ _ _) (by simp [Value.oneCell']) (by unfold maxLen; omega) (by omega) (Nat.le_trans HB1.out.size (by simp)) ?_)
        intro v2 w2 hown hgrow hnil
        have HO2 := Lib.hid hown; have HB2 := Lib.hid (Below.grown (HB1.out.alloc HB1.out.size _) hgrow (Nat.le_trans HB1.out.size (by simp)) (fun j hj => (HO1.out.lt j hj).1)); clear hown hgrow hnil
        have HOY := Lib.hid (own_later HO.out HB2.out)
        by_cases hcp : cp = k
        case neg =>
          go_wp2_with (at_builtin; refine wpList_append_own _ rfl _ _ 36 rfl w.heap.size 3 i0 (.int .i64 0) 1 8 Tryd.underlying36 hi hz0 hz1 hz2 rfl (by decide) _ (k + 1) _ rfl HO2.out _ _ _ (ints (xs.drop k)) rfl (by simp) (news_drop HOY.out k) (ints_oc _) (by unfold maxLen; omega) (by omega) HB2.out.size ?_)
          intro v3 w3 hown hgrow hnil
          have HO3 := Lib.hid hown; have HB3 := Lib.hid (Below.grown HB2.out hgrow HB2.out.size (fun j hj => (HO2.out.lt j hj).1)); clear hown hgrow hnil
          go_wp2_with fail
          go_ret
          refine ⟨_, rfl, ?_, .inr (fun k hk => (HO3.out.lt k hk).1), HB3.out⟩
          rw [HP.out]
          have h3 := own_mono HO3.out hb
          have e1 : (xs.take k ++ n :: xs.drop k).length = k + 1 + (xs.length - k) := by simp; omega
          have e2 : ints (xs.take k ++ n :: xs.drop k) = ints (xs.take k) ++ [.int .i64 n] ++ ints (xs.drop k) := by simp [ints]
          rw [e1, e2]
          try rw [hdr]
          simpa using h3
        have hdr : xs.drop k = [] := List.drop_eq_nil_of_le (by omega)
        go_wp2_with (at_builtin; refine wpList_append_own _ rfl _ _ 36 rfl w.heap.size 3 i0 (.int .i64 0) 1 8 Tryd.underlying36 hi hz0 hz1 hz2 rfl (by decide) _ (k + 1) _ rfl HO2.out _ _ _ (ints (xs.drop k)) rfl (by simp) (by rw [hdr]; intro j u hu; simp [ints] at hu) (ints_oc _) (by unfold maxLen; omega) (by omega) HB2.out.size ?_)
        intro v3 w3 hown hgrow hnil
        have HO3 := Lib.hid hown; have HB3 := Lib.hid (Below.grown HB2.out hgrow HB2.out.size (fun j hj => (HO2.out.lt j hj).1)); clear hown hgrow hnil
        go_wp2_with fail
        go_ret
        refine ⟨_, rfl, ?_, .inr (fun k hk => (HO3.out.lt k hk).1), HB3.out⟩
        rw [HP.out]
        have h3 := own_mono HO3.out hb
        have e1 : (xs.take k ++ n :: xs.drop k).length = k + 1 + (xs.length - k) := by simp; omega
        have e2 : ints (xs.take k ++ n :: xs.drop k) = ints (xs.take k) ++ [.int .i64 n] ++ ints (xs.drop k) := by simp [ints]
        rw [e1, e2]
        try rw [hdr]
        simpa using h3
      obtain ⟨b, off, x, hx, ha, hbl, hc⟩ := intrw_cell HRW.out hlk
      simp only [Option.some.injEq, Addr.mk.injEq, and_true] at ha
      obtain ⟨rfl, rfl⟩ := ha
      rw [Nat.zero_add] at hc
      by_cases hlt : x < n
      · have HK2 : Hid (∀ (j : Nat) (y : Int), j < k + 1 → xs[j]? = some y → y < n) := Lib.hid fun j y hj hy => by
          rcases Nat.lt_or_ge j k with h | h
          · exact HK.out j y h hy
          · obtain rfl : j = k := by omega
            rw [hx] at hy; cases hy; exact hlt
        clear hx
        go_wp2_with fail
        go_round
        case rel => exact ⟨k + 1, by omega, by go_num, HK2⟩
        case measure => simp [intOf]; omega
      · have hpk : putK xs n = k := putK_is xs n k hk HK.out (fun y hy => by rw [hx] at hy; cases hy; omega)
        by_cases heq : x = n
        · have HP : Hid (putR xs n = xs) := Lib.hid (by unfold putR; rw [hpk, hx, heq, if_pos rfl])
          have hq : (x == n) = true := by simp [heq]
          clear hpk heq hx
          go_wp2_with fail
          go_ret
          exact ⟨_, rfl, by rw [HP.out]; exact HO.out, .inl rfl, Below.refl _ _⟩
        · have HP : Hid (putR xs n = xs.take k ++ n :: xs.drop k) := Lib.hid (by unfold putR; rw [hpk, hx, if_neg (fun h => heq (by simpa using h))])
          have hq : (x == n) = false := by simp [heq]
          clear hpk heq hx
          go_wp2_with (at_builtin; refine wpList_append_own _ rfl _ _ 36 rfl w.heap.size 3 i0 (.int .i64 0) 1 8 Tryd.underlying36 hi hz0 hz1 hz2 rfl (by decide) _ 0 [] rfl (World.ownsRow_nil _ _ _ _) ⟨g, 0, none⟩ k cp (ints (xs.take k)) rfl (by simp; omega) (news_take HO.out _) (ints_oc _) (by unfold maxLen; omega) (by omega) (Nat.le_refl _) ?_)
          intro v1 w1 hown hgrow hnil
          have HO1 := Lib.hid hown; have HB1 := Lib.hid (Below.grown (Below.refl w.heap.size w) hgrow (Nat.le_refl _) (fun j hj => by cases hj)); clear hown hgrow hnil
          try rw [Nat.zero_add] at HO1
          have HOX := Lib.hid (own_later HO.out HB1.out)
          go_wp2_with (at_builtin; refine wpList_append_own _ rfl _ _ 36 rfl w.heap.size 3 i0 (.int .i64 0) 1 8 Tryd.underlying36 hi hz0 hz1 hz2 rfl (by decide) _ k _ rfl (HO1.out.alloc _) _ 1 1 [.int .i64 n] rfl rfl (news_one _ _ _) (by simp [Value.oneCell']) (by unfold maxLen; omega) (by omega) (Nat.le_trans HB1.out.size (by simp)) ?_)
          intro v2 w2 hown hgrow hnil
          have HO2 := Lib.hid hown; have HB2 := Lib.hid (Below.grown (HB1.out.alloc HB1.out.size _) hgrow (Nat.le_trans HB1.out.size (by simp)) (fun j hj => (HO1.out.lt j hj).1)); clear hown hgrow hnil
          have HOY := Lib.hid (own_later HO.out HB2.out)
          have hcp : ¬ cp = k := by omega
          go_wp2_with (at_builtin; refine wpList_append_own _ rfl _ _ 36 rfl w.heap.size 3 i0 (.int .i64 0) 1 8 Tryd.underlying36 hi hz0 hz1 hz2 rfl (by decide) _ (k + 1) _ rfl HO2.out _ _ _ (ints (xs.drop k)) rfl (by simp) (news_drop HOY.out k) (ints_oc _) (by unfold maxLen; omega) (by omega) HB2.out.size ?_)
          intro v3 w3 hown hgrow hnil
          have HO3 := Lib.hid hown; have HB3 := Lib.hid (Below.grown HB2.out hgrow HB2.out.size (fun j hj => (HO2.out.lt j hj).1)); clear hown hgrow hnil
          go_wp2_with fail
          go_ret
          refine ⟨_, rfl, ?_, .inr (fun k hk => (HO3.out.lt k hk).1), HB3.out⟩
          rw [HP.out]
          have h3 := own_mono HO3.out hb
          have e1 : (xs.take k ++ n :: xs.drop k).length = k + 1 + (xs.length - k) := by simp; omega
          have e2 : ints (xs.take k ++ n :: xs.drop k) = ints (xs.take k) ++ [.int .i64 n] ++ ints (xs.drop k) := by simp [ints]
          rw [e1, e2]
          try rw [hdr]
          simpa using h3

theorem wrote_setCells {S : Nat → Prop} {w : World} (g : Nat) (hg : S g) : ∀ (vs : List Value) (o : Nat) (w' : World), Wrote S w w' → Wrote S w (w'.setCells g o vs)
  | [], _, _, h => h
  | v :: r, o, w', h => wrote_setCells g hg r (o + 1) _ (h.setCell (p := ⟨g, o, none⟩) hg v)
def WithOf2 (base : Nat) (go : Option Nat) (xs : List Int) (n : Int) (w : World) (e : Ending) (w' : World) : Prop :=
  ∃ g cap, e = .returned (.slice (some ⟨g, 0, none⟩) (putR xs n).length cap) ∧ w'.ownsRow base 3 1 (.slice (some ⟨g, 0, none⟩) (putR xs n).length cap) (putR xs n).length (ints (putR xs n)) ∧ (go = some g ∨ w.heap.size ≤ g) ∧ Wrote (fun k => go = some k) w w'

set_option maxHeartbeats 1000000 in
theorem impl_insert2 (base g cap i : Nat) (xs : List Int) (x : Int) (w : World) (ho : w.ownsRow base 3 1 (.slice (some ⟨g, 0, none⟩) xs.length cap) xs.length (ints xs)) (hb : base ≤ w.heap.size) (hi : i ≤ xs.length) (hl : xs.length ≤ 1048576) :
    Calls Tryd.prog 79 #[.slice (some ⟨g, 0, none⟩) xs.length cap, .int .i64 (i : Int), .slice (some ⟨w.heap.size, 0, none⟩) 1 1] (w.alloc (.cells #[.int .i64 x] 3)) fun e w' => ∃ v, e = .returned v ∧ w'.ownsRow base 3 1 v (xs.length + 1) (ints (xs.take i ++ x :: xs.drop i)) ∧ (∀ k, v.ownBlock = some k → k = g ∨ w.heap.size ≤ k) ∧ Wrote (fun k => k = g) w w' := by
  rcases ho.2 with ⟨hv, _⟩ | ⟨g', cap', cur, hv, hgb, hh, hn, hm, hs, ht⟩
  · cases hv
  cases hv
  rw [Nat.mul_one] at ht hs
  have hgl : g < w.heap.size := (Array.getElem?_eq_some_iff.1 hh).1
  have hh' : (w.alloc (.cells #[.int .i64 x] 3)).heap[g]? = some (.cells cur 3 (0, 0)) := by
    rw [((Below.refl w.heap.size w).alloc (Nat.le_refl _) _).block g hgl]; exact hh
  have hL : cur.toList.length = cap := by simpa using hs
  have hixs : (ints xs).length = xs.length := ints_length xs
  have eL : ints (xs.take i ++ x :: xs.drop i) = (ints xs).take i ++ .int .i64 x :: (ints xs).drop i := by simp [ints, List.map_take, List.map_drop]
  have hBV : Below w.heap.size w (w.alloc (.cells #[.int .i64 x] 3)) := (Below.refl _ _).alloc (Nat.le_refl _) _
  have hBX : Wrote (fun k => k = g) w (w.alloc (.cells #[.int .i64 x] 3)) := Wrote.of_below hBV
  have hvs : ∀ (j : Nat) (v : Value), [Value.int .i64 x][j]? = some v → (w.alloc (.cells #[.int .i64 x] 3)).cell? ⟨w.heap.size, 0 + j, none⟩ = some v := by
    intro j v hj
    cases j with
    | zero => simp at hj; subst hj; go_simp
    | succ j => simp at hj
  have hcc : ∀ (j : Nat), j < cap → ((w.alloc (.cells #[.int .i64 x] 3)).cell? ⟨g, 0 + j, none⟩).isSome = true := by
    intro j hj
    simp only [World.cell?, hh', Nat.zero_add]
    simp [hs, hj]
  have hff : ∀ (j : Nat), (w.alloc (.cells #[.int .i64 x] 3)).frozen? ⟨g, j, none⟩ = false := by intro j; simp [World.frozen?, hh']
  have hcs : ∀ (j : Nat) (v : Value), (ints xs)[j]? = some v → (w.alloc (.cells #[.int .i64 x] 3)).cell? ⟨g, 0 + j, none⟩ = some v := by
    intro j v hj
    rw [← ht] at hj
    simp only [World.cell?, hh', Nat.zero_add]
    rw [List.getElem?_take] at hj
    split at hj
    · rw [← Array.getElem?_toList]; simpa using hj
    · cases hj
  have h1v : ∀ v ∈ [Value.int .i64 x], v.oneCell' = true := by simp [Value.oneCell']
  have hgm : ∀ W : World, grownCap W (xs.length + 1) cap 3 ≤ maxLen := fun W => grownCap_le_maxLen W _ _ _ (by unfold maxLen; omega)
  have hge : ∀ W : World, xs.length + 1 ≤ grownCap W (xs.length + 1) cap 3 := fun W => grownCap_ge W _ _ _
  have hc63 : cap ≤ 9223372036854775807 := by unfold maxLen at hm; omega
  rcases Nat.lt_or_ge i xs.length with hlt | hge2
  · by_cases hroom : xs.length + 1 ≤ cap
    · refine (Any2.slices_Insert_int_shift Tryd.laysNm221 g 0 xs.length cap i w.heap.size 0 1 1 (ints xs) [.int .i64 x] _ hlt (by omega) hroom hc63 (by omega) hixs rfl hcs (fun j hj => hcc j (by omega)) (fun j _ => hff _) hvs (ints_oc xs) h1v 3 3 1 cap (by simp only [World.shape?, heap_alloc_new]; rfl) (by simp only [World.shape?, hh', hs]) (by omega) (by simp only [World.frozen?, heap_alloc_new]; rfl) (by simp only [World.frozen?, heap_alloc_new]; rfl)).mono ?_
      rintro e w' ⟨he, hw⟩
      try rw [show Tryd.laysNm221_ren.t 3 = 3 from rfl] at he hw
      subst he; subst hw
      obtain ⟨c1, k1, k2⟩ := heap_setCells g 3 (0, 0) ((ints xs).drop i) (0 + (i + 1)) (w.alloc (.cells #[.int .i64 x] 3)).drew cur hh'
      obtain ⟨c2, k3, k4⟩ := heap_setCells g 3 (0, 0) [.int .i64 x] (0 + i) _ c1 k1
      have hr := ins_room cur.toList i xs.length (ints xs) (.int .i64 x) hixs ht hi (by omega)
      rw [Nat.zero_add] at k2 k4
      rw [← k2, ← k4] at hr
      refine ⟨_, rfl, ?_, (fun k hk => by simp only [Value.ownBlock, Option.some.injEq] at hk; exact .inl hk.symm), wrote_setCells (S := fun k => k = g) g rfl _ _ _ (wrote_setCells (S := fun k => k = g) g rfl _ _ _ (hBX.drewN 1))⟩
      rw [eL]
      exact own_cells k3 hgb hroom hm (by rw [hr.2]; exact hL) hr.1 (by simp; omega)
    · refine (Any2.slices_Insert_int_grow Tryd.laysNm221 g 0 xs.length cap i w.heap.size 0 1 1 (ints xs) [.int .i64 x] _ hlt (by omega) hn (by omega) (by omega) hixs rfl hcs hvs (ints_oc xs) h1v).mono ?_
      rintro e w' ⟨he, hw⟩
      try rw [show Tryd.laysNm221_ren.t 3 = 3 from rfl] at he hw
      subst he; subst hw
      generalize hW : w.alloc (.cells #[.int .i64 x] 3) = W at *
      have hWs : w.heap.size ≤ W.heap.size := by rw [← hW]; simp
      have e0 := hge W; have e1 := hgm W
      generalize hq : grownCap W (xs.length + 1) cap 3 = q at *
      obtain ⟨c1, k1, k2⟩ := heap_setCells W.heap.size 3 (0, 0) [.int .i64 x] i (W.alloc (.cells (((ints xs).take i).toArray ++ Builtin.zeroCells (Value.int .i64 0).cells (xs.length + 1 - i) ++ Builtin.zeroCells (Value.int .i64 0).cells (q - (xs.length + 1))) 3)).drew _ (heap_alloc_new W _)
      obtain ⟨c2, k3, k4⟩ := heap_setCells W.heap.size 3 (0, 0) ((ints xs).drop i) (i + 1) (((W.alloc (.cells (((ints xs).take i).toArray ++ Builtin.zeroCells (Value.int .i64 0).cells (xs.length + 1 - i) ++ Builtin.zeroCells (Value.int .i64 0).cells (q - (xs.length + 1))) 3)).drew.setCells W.heap.size i [.int .i64 x]).drew) c1 k1
      have hz : ∀ k, (Builtin.zeroCells (Value.int .i64 0).cells k).toList.length = k := fun k => by have := size_zeroCells (Value.int .i64 0).cells k; rw [show (Value.int .i64 0).cells.size = 1 from rfl, Nat.mul_one] at this; simpa using this
      generalize hC : (((ints xs).take i).toArray ++ Builtin.zeroCells (Value.int .i64 0).cells (xs.length + 1 - i) ++ Builtin.zeroCells (Value.int .i64 0).cells (q - (xs.length + 1))) = C at *
      have hCt : C.toList = (ints xs).take i ++ ((Builtin.zeroCells (Value.int .i64 0).cells (xs.length + 1 - i)).toList ++ (Builtin.zeroCells (Value.int .i64 0).cells (q - (xs.length + 1))).toList) := by rw [← hC]; simp
      have hCl : C.toList.length = q := by rw [hCt]; simp only [List.length_append, hz, List.length_take, hixs]; omega
      have hr := ins_grow C.toList i xs.length (ints xs) (.int .i64 x) hixs (by rw [hCt, List.take_append_of_le_length (by simp; omega), List.take_take]; congr 1; omega) hi (by omega)
      rw [← k2, ← k4] at hr
      refine ⟨_, rfl, ?_, (fun k hk => by simp only [Value.ownBlock, Option.some.injEq] at hk; exact .inr (by omega)), Wrote.of_below (below_setCells _ (by omega) _ _ _ (below_setCells _ (by omega) _ _ _ ((hBV.alloc (by omega) _).drew)).drew)⟩
      rw [eL]
      exact own_cells k3 (by omega) e0 e1 (by rw [hr.2]; exact hCl) hr.1 (by simp; omega)
  · obtain rfl : i = xs.length := by omega
    have eL2 : ints (xs.take xs.length ++ x :: xs.drop xs.length) = ints xs ++ [.int .i64 x] := by simp [ints]
    rw [eL2]
    by_cases hroom : xs.length + 1 ≤ cap
    · refine (Any2.slices_Insert_int_end_room Tryd.laysNm221 g 0 xs.length cap w.heap.size 0 1 1 [.int .i64 x] _ (by omega) hroom hc63 rfl (fun j hj => by have := hcc (xs.length + j) (by omega); simpa [Nat.add_assoc] using this) (fun j _ => hff _) hvs h1v).mono ?_
      rintro e w' ⟨he, hw⟩
      try rw [show Tryd.laysNm221_ren.t 3 = 3 from rfl] at he hw
      subst he; subst hw
      obtain ⟨c1, k1, k2⟩ := heap_setCells g 3 (0, 0) [.int .i64 x] (0 + xs.length) _ cur hh'
      rw [Nat.zero_add, sets_at _ _ _ (by simp; omega), ht] at k2
      refine ⟨_, rfl, ?_, (fun k hk => by simp only [Value.ownBlock, Option.some.injEq] at hk; exact .inl hk.symm), wrote_setCells (S := fun k => k = g) g rfl _ _ _ hBX⟩
      refine own_cells k1 hgb hroom hm (by rw [k2]; simp; omega) ?_ (by simp)
      rw [k2, ← List.append_assoc, List.take_append_of_le_length (by simp), List.take_of_length_le (by simp)]
    · refine (Any2.slices_Insert_int_end_grow Tryd.laysNm221 (some ⟨g, 0, none⟩) xs.length cap w.heap.size 0 1 1 (ints xs) [.int .i64 x] _ (by omega) hn (by omega) (by omega) hixs rfl (fun h => by cases h) (fun a ha j v hj => by cases ha; have := hcs j v hj; unfold Addr.add; split <;> simp_all) hvs h1v).mono ?_
      rintro e w' ⟨he, hw⟩
      try rw [show Tryd.laysNm221_ren.t 3 = 3 from rfl] at he hw
      subst he; subst hw
      generalize hW : w.alloc (.cells #[.int .i64 x] 3) = W at *
      have hWs : w.heap.size ≤ W.heap.size := by rw [← hW]; simp
      have e0 := hge W; have e1 := hgm W
      generalize hq : grownCap W (xs.length + 1) cap 3 = q at *
      have hz : ∀ k, (Builtin.zeroCells (Value.int .i64 0).cells k).toList.length = k := fun k => by have := size_zeroCells (Value.int .i64 0).cells k; rw [show (Value.int .i64 0).cells.size = 1 from rfl, Nat.mul_one] at this; simpa using this
      refine ⟨_, rfl, own_cells (heap_alloc_new W.drew _) (by show base ≤ W.heap.size; omega) e0 e1 ?_ ?_ (by simp), (fun k hk => by simp only [Value.ownBlock, Option.some.injEq] at hk; exact .inr (by have : W.heap.size = k := hk; omega)), Wrote.of_below (hBV.drew.alloc (by show w.heap.size ≤ W.heap.size; omega) _)⟩
      · simp only [Array.toList_append, List.length_append, hz, hixs, List.length_singleton]; omega
      · simp only [Array.toList_append]
        rw [List.take_append_of_le_length (by simp), List.take_of_length_le (by simp)]

set_option maxHeartbeats 1000000 in
theorem impl_with2 (base g cap : Nat) (xs : List Int) (n : Int) (w : World) (ho : w.ownsRow base 3 1 (.slice (some ⟨g, 0, none⟩) xs.length cap) xs.length (ints xs)) (hb : base ≤ w.heap.size) (hl : xs.length ≤ 1048576) (hs : xs.Pairwise (· < ·)) :
    Calls Tryd.prog 46 #[.slice (some ⟨g, 0, none⟩) xs.length cap, .int .i64 n] w (WithOf2 base (some g) xs n w) := by
  have HS := Lib.hid (Tryd.slices_BinarySearch_int g 0 xs.length cap xs n w (Nat.le_refl _) (by omega) (fun j hj => by rw [Nat.zero_add, ho.cellAt j (by omega), ints_at _ _ hj]) (by rw [List.take_length]; exact hs.imp (fun h => by omega)))
  rw [List.take_length, count_put xs n hs] at HS
  have hk := putK_le xs n
  have HO := Lib.hid ho
  unfold WithOf2
  by_cases hin : n ∈ xs
  · have hc : xs.contains n = true := by simpa using hin
    rw [hc] at HS
    rw [(put_in hs hin).2]
    generalize putK xs n = k at *
    clear hc hin ho hs
    go_enter Tryd.func46, Tryd.ntmps46
    go_wp2_with fail
    refine HS.out.mono ?_
    rintro e w1 ⟨rfl, q, rfl⟩
    go_wp2_with fail
    go_ret
    exact ⟨g, cap, rfl, own_drewN HO.out _, .inl rfl, (Wrote.refl _ _).drewN _⟩
  · have hc : xs.contains n = false := by simpa using hin
    rw [hc] at HS
    rw [put_new hin]
    have HI := Lib.hid (fun (q : Nat) => impl_insert2 base g cap (putK xs n) xs n (w.drewN q) (own_drewN HO.out q) (by simpa using hb) hk hl)
    have hlen : (xs.take (putK xs n) ++ n :: xs.drop (putK xs n)).length = xs.length + 1 := by simp; omega
    rw [hlen]
    generalize putK xs n = k at *
    clear hc hin ho hs hlen
    go_enter Tryd.func46, Tryd.ntmps46
    go_wp2_with fail
    refine HS.out.mono ?_
    rintro e w1 ⟨rfl, q, rfl⟩
    go_wp2_with fail
    refine (HI.out q).mono ?_
    rintro e w2 ⟨v, rfl, ho2, hn2, hb2⟩
    have HO2 := Lib.hid ho2; have HB2 := Lib.hid hb2; have HN2 := Lib.hid hn2; clear ho2 hb2 hn2 HI HS
    obtain ⟨g2, cp2, rfl, _⟩ := HO2.out.form (by omega)
    go_wp2_with fail
    go_ret
    exact ⟨g2, cp2, rfl, HO2.out, (by rcases HN2.out g2 rfl with h | h; exact .inl (by rw [h]); exact .inr (by simpa using h)), ((Wrote.refl _ _).drewN q).trans (HB2.out.mono (fun k _ hk => by rw [hk]))⟩

set_option maxHeartbeats 1000000 in
theorem impl_insert0 (base : Nat) (x : Int) (w : World) (hb : base ≤ w.heap.size) :
    Calls Tryd.prog 79 #[.slice none 0 0, .int .i64 0, .slice (some ⟨w.heap.size, 0, none⟩) 1 1] (w.alloc (.cells #[.int .i64 x] 3)) fun e w' => ∃ g cap, e = .returned (.slice (some ⟨g, 0, none⟩) 1 cap) ∧ w'.ownsRow base 3 1 (.slice (some ⟨g, 0, none⟩) 1 cap) 1 (ints [x]) ∧ w.heap.size ≤ g ∧ Below w.heap.size w w' := by
  have hBV : Below w.heap.size w (w.alloc (.cells #[.int .i64 x] 3)) := (Below.refl _ _).alloc (Nat.le_refl _) _
  have hvs : ∀ (j : Nat) (v : Value), [Value.int .i64 x][j]? = some v → (w.alloc (.cells #[.int .i64 x] 3)).cell? ⟨w.heap.size, 0 + j, none⟩ = some v := by
    intro j v hj
    cases j with
    | zero => simp at hj; subst hj; go_simp
    | succ j => simp at hj
  have h1v : ∀ v ∈ [Value.int .i64 x], v.oneCell' = true := by simp [Value.oneCell']
  refine (Any2.slices_Insert_int_end_grow Tryd.laysNm221 none 0 0 w.heap.size 0 1 1 [] [.int .i64 x] _ (by omega) (by omega) (by omega) (by omega) rfl rfl (fun _ => rfl) (fun a ha => by cases ha) hvs h1v).mono ?_
  rintro e w' ⟨he, hw⟩
  try rw [show Tryd.laysNm221_ren.t 3 = 3 from rfl] at he hw
  subst he; subst hw
  generalize hW : w.alloc (.cells #[.int .i64 x] 3) = W at *
  have hWs : w.heap.size ≤ W.heap.size := by rw [← hW]; simp
  have e0 : 0 + 1 ≤ grownCap W (0 + 1) 0 3 := grownCap_ge W _ _ _
  have e1 : grownCap W (0 + 1) 0 3 ≤ maxLen := grownCap_le_maxLen W _ _ _ (by unfold maxLen; omega)
  generalize hq : grownCap W (0 + 1) 0 3 = q at *
  have hz : ∀ k, (Builtin.zeroCells (Value.int .i64 0).cells k).toList.length = k := fun k => by have := size_zeroCells (Value.int .i64 0).cells k; rw [show (Value.int .i64 0).cells.size = 1 from rfl, Nat.mul_one] at this; simpa using this
  refine ⟨_, _, rfl, own_cells (heap_alloc_new W.drew _) (by show base ≤ W.heap.size; omega) e0 e1 ?_ ?_ (by simp [ints]), hWs, hBV.drew.alloc (by show w.heap.size ≤ W.heap.size; omega) _⟩
  · simp only [Array.toList_append, List.length_append, hz, List.length_singleton, List.nil_append]; omega
  · simp only [Array.toList_append, List.nil_append]
    rw [List.take_append_of_le_length (by simp), List.take_of_length_le (by simp)]; rfl
set_option maxHeartbeats 1000000 in
theorem impl_with0 (base : Nat) (n : Int) (w : World) (hb : base ≤ w.heap.size) :
    Calls Tryd.prog 46 #[.slice none 0 0, .int .i64 n] w (WithOf2 base none [] n w) := by
  have HS := Lib.hid (Tryd.slices_BinarySearch_int_empty none 0 n w)
  have HI := Lib.hid (impl_insert0 base n w hb)
  have hR : putR [] n = [n] := by simp [putR, putK]
  unfold WithOf2
  rw [hR]
  clear hR
  go_enter Tryd.func46, Tryd.ntmps46
  go_wp2_with fail
  refine HS.out.mono ?_
  rintro e w1 ⟨rfl, rfl⟩
  go_wp2_with fail
  refine HI.out.mono ?_
  rintro e w2 ⟨g, cap, rfl, ho, hg, hb2⟩
  have HO := Lib.hid ho; have HB := Lib.hid hb2; clear ho hb2
  go_wp2_with fail
  go_ret
  exact ⟨g, cap, rfl, HO.out, .inr hg, Wrote.of_below HB.out⟩
end Go.Proofs.YteknmjebokimjaaDoor
