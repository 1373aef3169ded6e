/- A number put to its place in a rising list, once: plain laws; the reference's contract; the program's (by the shelf's contracts of BinarySearch and Insert). -/
import Derived.Test.YteknmjebokimjaaDoorHIntS
import Derived.Laws.AppendOwnNone
import Derived.Deep.RegionHeld3
namespace Go.Proofs.YteknmjebokimjaaDoor
set_option linter.unusedVariables false
open Go.ChangeShapes Go.WideShapes Go.ChangeAt Go.RowKit
set_option maxRecDepth 100000

/-! ### rising -/
def leB (x y : Int) : Bool := decide (x ≤ y)
def putK (l : List Int) (n : Int) : Nat := (l.takeWhile (fun x => decide (x < n))).length
def putR (l : List Int) (n : Int) : List Int := if l[putK l n]? = some n then l else l.take (putK l n) ++ n :: l.drop (putK l n)
theorem putK_le (l : List Int) (n : Int) : putK l n ≤ l.length := (List.takeWhile_prefix _).length_le
theorem putK_lt : ∀ (l : List Int) (n : Int) (j : Nat) (x : Int), j < putK l n → l[j]? = some x → x < n
  | [], n, j, x, h, _ => by simp [putK] at h
  | y :: l, n, j, x, h, hx => by
    unfold putK at h
    rw [List.takeWhile_cons] at h
    by_cases hy : y < n
    · rw [if_pos (by simpa using hy)] at h
      cases j with
      | zero => simp at hx; omega
      | succ j => exact putK_lt l n j x (by unfold putK; simpa using h) (by simpa using hx)
    · rw [if_neg (by simpa using hy)] at h; simp at h
theorem putK_at : ∀ (l : List Int) (n : Int) (x : Int), l[putK l n]? = some x → n ≤ x
  | [], n, x, h => by simp at h
  | y :: l, n, x, h => by
    unfold putK at h
    rw [List.takeWhile_cons] at h
    by_cases hy : y < n
    · rw [if_pos (by simpa using hy)] at h
      exact putK_at l n x (by unfold putK; simpa using h)
    · rw [if_neg (by simpa using hy)] at h
      simp at h; omega
theorem putK_is (l : List Int) (n : Int) (k : Nat) (hk : k ≤ l.length) (h1 : ∀ (j : Nat) (x : Int), j < k → l[j]? = some x → x < n) (h2 : ∀ x, l[k]? = some x → n ≤ x) : putK l n = k := by
  rcases Nat.lt_trichotomy (putK l n) k with h | h | h
  · have hx : l[putK l n]? = some (l[putK l n]'(by omega)) := List.getElem?_eq_getElem _
    have a := putK_at l n _ hx
    have b := h1 _ _ h hx
    omega
  · exact h
  · have := putK_le l n
    have hx : l[k]? = some (l[k]'(by omega)) := List.getElem?_eq_getElem _
    have a := putK_lt l n k _ h hx
    have b := h2 _ hx
    omega
theorem put_new {l : List Int} {n : Int} (hn : n ∉ l) : putR l n = l.take (putK l n) ++ n :: l.drop (putK l n) := by
  unfold putR
  rw [if_neg (fun h => hn (List.mem_of_getElem? h))]
theorem put_perm {l : List Int} {n : Int} (hn : n ∉ l) : (putR l n).Perm (l ++ [n]) := by
  rw [put_new hn]
  refine List.Perm.trans List.perm_middle ?_
  rw [List.take_append_drop]
  exact List.perm_append_singleton n l |>.symm
theorem put_sorted {l : List Int} {n : Int} (hn : n ∉ l) (hs : l.Pairwise (· < ·)) : (putR l n).Pairwise (· < ·) := by
  rw [put_new hn]
  have hsp := hs
  rw [← List.take_append_drop (putK l n) l, List.pairwise_append] at hsp
  obtain ⟨h1, h2, h3⟩ := hsp
  have ha : ∀ a ∈ l.take (putK l n), a < n := by
    intro a ha
    rw [List.mem_take_iff_getElem] at ha
    obtain ⟨j, hj, rfl⟩ := ha
    exact putK_lt l n j _ (by omega) (List.getElem?_eq_getElem _)
  have hb : ∀ b ∈ l.drop (putK l n), n < b := by
    intro b hb
    rw [List.mem_drop_iff_getElem] at hb
    obtain ⟨j, hj, rfl⟩ := hb
    have hk : putK l n < l.length := by omega
    have h4 := putK_at l n _ (List.getElem?_eq_getElem hk)
    have h5 : l[putK l n] ≠ n := fun e => hn (e ▸ List.getElem_mem hk)
    rcases Nat.eq_zero_or_pos j with rfl | hj0
    · simp only [Nat.add_zero]; omega
    · have := List.pairwise_iff_getElem.1 hs (putK l n) (putK l n + j) hk (by omega) (by omega)
      omega
  rw [List.pairwise_append]
  refine ⟨h1, List.pairwise_cons.2 ⟨hb, h2⟩, fun a ha' b hb' => ?_⟩
  rcases List.mem_cons.1 hb' with rfl | hb'
  · exact ha a ha'
  · exact h3 a ha' b hb'
theorem fold_put : ∀ (l acc : List Int), (acc ++ l).Nodup → acc.Pairwise (· < ·) → (l.foldl putR acc).Perm (acc ++ l) ∧ (l.foldl putR acc).Pairwise (· < ·)
  | [], acc, _, hs => ⟨by simp, hs⟩
  | x :: l, acc, hd, hs => by
    have hx : x ∉ acc := by
      intro hm
      rw [List.nodup_append] at hd
      exact hd.2.2 x hm x (by simp) rfl
    have hp := put_perm hx
    have hp2 : (putR acc x ++ l).Perm (acc ++ x :: l) := by
      have := hp.append_right l
      simpa using this
    obtain ⟨h1, h2⟩ := fold_put l (putR acc x) (hp2.nodup_iff.2 hd) (put_sorted hx hs)
    exact ⟨h1.trans hp2, h2⟩
theorem fold_put_sort (l : List Int) (hd : l.Nodup) : l.foldl putR [] = l.mergeSort (fun x y => decide (x ≤ y)) := by
  obtain ⟨h1, h2⟩ := fold_put l [] (by simpa using hd) List.Pairwise.nil
  have h3 := List.pairwise_mergeSort (le := fun x y : Int => decide (x ≤ y)) (by intro a b c; simp; omega) (by intro a b; simp; omega) l
  refine List.Perm.eq_of_pairwise (le := fun a b : Int => decide (a ≤ b) = true) (by intro a b _ _; simp; omega) (h2.imp (by intro a b h; simp; omega)) h3 ?_
  exact (by simpa using h1 : (l.foldl putR []).Perm l).trans (List.mergeSort_perm l _).symm
theorem put_len (l : List Int) (n : Int) : (putR l n).length ≤ l.length + 1 := by
  unfold putR
  split
  · omega
  · have := putK_le l n; simp; omega
theorem fold_len : ∀ (l acc : List Int), (l.foldl putR acc).length ≤ acc.length + l.length
  | [], acc => by simp
  | x :: l, acc => by
    have h1 := fold_len l (putR acc x); have := put_len acc x
    rw [List.foldl_cons, List.length_cons]; omega
theorem intrw_cell {w : World} {a : Option Addr} {xs : List Int} (h : Rw w a (ints xs)) {i : Nat} (hi : i < xs.length) : ∃ b off x, xs[i]? = some x ∧ a = some ⟨b, off, none⟩ ∧ b < w.heap.size ∧ w.cell? ⟨b, off + i, none⟩ = some (.int .i64 x) := by
  obtain ⟨b, off, ha, hb, hc⟩ := h.at (fun e => by have := congrArg List.length e; simp at this; rw [this] at hi; simp at hi)
  exact ⟨b, off, xs[i], List.getElem?_eq_getElem hi, ha, hb, hc i _ (by simp [ints, hi])⟩
theorem ints_one (xs : List Int) (x : Int) : ints (xs ++ [x]) = ints xs ++ [.int .i64 x] := by simp [ints]
theorem int_owl (w : World) : ∀ (xs : List Int), (∀ n ∈ xs, (Lit.int .i64 n).wf = true) → OwL kInt w (xs.map fun _ => []) (xs.map fun n => [Value.int .i64 n]) xs
  | [], _ => trivial
  | x :: xs, h => ⟨⟨rfl, rfl, h x (by simp)⟩, int_owl w xs fun p hp => h p (by simp [hp])⟩
theorem nil_flatten {α : Type} (xs : List α) : (xs.map fun _ => ([] : List Nat)).flatten = [] := by induction xs with
  | nil => rfl
  | cons x r ih => simp [ih]
theorem int_flatten (xs : List Int) : (xs.map fun n => [Value.int .i64 n]).flatten = xs.map (Value.int .i64) := by induction xs with
  | nil => rfl
  | cons x r ih => rw [List.map_cons, List.flatten_cons, ih]; rfl
theorem ints_own {w : World} {base : Nat} {v : Value} {xs : List Int} (h : w.ownsRow base 3 1 v xs.length (xs.map (Value.int .i64))) (hw : ∀ p ∈ xs, (Lit.int .i64 p).wf = true) : kIntS.ow v.ownBlock.toList w [v] xs :=
  ⟨v, _, _, rfl, by rw [int_flatten]; exact own_mono h (Nat.zero_le _), int_owl w xs hw, by rw [nil_flatten, List.append_nil], by cases v.ownBlock <;> simp⟩
theorem ints_rd {w : World} {B : Nat} {a : Option Addr} {n cap : Nat} {xs : List Int} (h : kIntS.rd B w [.slice a n cap] xs) : Rb B w a (xs.map (Value.int .i64)) ∧ ∀ p ∈ xs, (Lit.int .i64 p).wf = true := by
  obtain ⟨a', cap', vss, hc, _, hrow, hl⟩ := h
  simp only [List.cons.injEq, Value.slice.injEq, and_true] at hc
  obtain ⟨rfl, rfl, rfl⟩ := hc
  have hh : ∀ {vs : List (List Value)} {ys : List Int}, RdL kInt B w vs ys → vs.flatten = ys.map (Value.int .i64) ∧ ∀ p ∈ ys, (Lit.int .i64 p).wf = true := by
    intro vs
    induction vs with
    | nil => intro ys h; cases ys with
      | nil => simp
      | cons y ys => exact absurd h (by intro h; exact h)
    | cons v vs ih => intro ys h; cases ys with
      | nil => exact absurd h (by intro h; exact h)
      | cons y ys =>
        obtain ⟨⟨rfl, h2⟩, h3⟩ := h
        obtain ⟨e, f⟩ := ih h3
        rw [List.flatten_cons, e]
        refine ⟨rfl, fun p hp => ?_⟩
        rcases List.mem_cons.1 hp with hp | hp
        · rw [hp]; exact h2
        · exact f p hp
  exact ⟨by rw [← (hh hl).1]; exact hrow, (hh hl).2⟩

/-! ### a number put to its place, once -/
theorem ints_take (xs : List Int) (k : Nat) : (ints xs).take k = ints (xs.take k) := by simp [ints, List.map_take]
theorem ints_drop (xs : List Int) (k : Nat) : (ints xs).drop k = ints (xs.drop k) := by simp [ints, List.map_drop]
theorem ints_app (xs ys : List Int) : ints (xs ++ ys) = ints xs ++ ints ys := by simp [ints]
theorem ints_oc (xs : List Int) : ∀ u ∈ ints xs, u.oneCell' = true := by intro u hu; simp only [ints, List.mem_map] at hu; obtain ⟨z, _, rfl⟩ := hu; rfl
theorem news_take {w : World} {base : Nat} {e : TypeId} {g cap : Nat} {xs : List Int} (h : w.ownsRow base e 1 (.slice (some ⟨g, 0, none⟩) xs.length cap) xs.length (ints xs)) (k : Nat) : ∀ (j : Nat) (u : Value), (ints (xs.take k))[j]? = some u → w.cell? ((⟨g, 0, none⟩ : Addr).add j) = some u := by
  intro j u hu
  rw [← ints_take] at hu
  refine h.cells rfl j u ?_
  rw [List.getElem?_take] at hu
  split at hu
  · exact hu
  · cases hu
theorem news_drop {w : World} {base : Nat} {e : TypeId} {g cap : Nat} {xs : List Int} (h : w.ownsRow base e 1 (.slice (some ⟨g, 0, none⟩) xs.length cap) xs.length (ints xs)) (k : Nat) : ∀ (j : Nat) (u : Value), (ints (xs.drop k))[j]? = some u → w.cell? ((⟨g, k, none⟩ : Addr).add j) = some u := by
  intro j u hu
  rw [← ints_drop, List.getElem?_drop] at hu
  have hlt : k + j < xs.length := by have := (List.getElem?_eq_some_iff.1 hu).1; simpa using this
  have h1 := h.cellAt (k + j) (by omega)
  rw [hu] at h1
  have e : ((⟨g, k, none⟩ : Addr).add j) = ⟨g, k + j, none⟩ := by unfold Addr.add; split <;> simp_all
  rw [e]; exact h1
def PutOf (base : Nat) (xs : List Int) (n : Int) (w : World) (e : Ending) (w' : World) : Prop :=
  ∃ v, e = .returned v ∧ w'.ownsRow base 3 1 v (putR xs n).length (ints (putR xs n)) ∧ Below w.heap.size w w'

set_option maxHeartbeats 4000000 in
theorem spec_put (base : Nat) (v : Value) (xs : List Int) (n : Int) (w : World) (ho : w.ownsRow base 3 1 v xs.length (ints xs)) (hb : base ≤ w.heap.size) (hl : xs.length ≤ 1048576) :
    Calls Tryd.prog 54 #[v, .int .i64 n] w (PutOf base xs n w) := by
  obtain ⟨i0, hi, hz0, hz1, hz2⟩ := info_parts Tryd.infoHIntS
  obtain ⟨a, cp, rfl⟩ := form_of_own ho
  have ho2 := ho.2
  rcases ho2 with ⟨hv, h0⟩ | ⟨g, cap, cur, hv, hg, hgb, hlc, hcm, _⟩
  · simp only [Value.slice.injEq] at hv
    obtain ⟨rfl, _, rfl⟩ := hv
    obtain rfl : xs = [] := List.length_eq_zero_iff.1 h0
    have hR : putR [] n = [n] := by simp [putR, putK]
    unfold PutOf
    rw [hR]
    clear ho h0 hR
    go_enter Tryd.func54, Tryd.ntmps54
    go_wp2_with fail
    go_loop [5] (fun iv => iv = .int .i64 0) (fun iv => 0)
    case atStart => rfl
    case round =>
      obtain rfl := hrel
      go_wp2_with (at_builtin; first
        | (refine wpList_append_own_none rfl _ _ 36 rfl w.heap.size 3 i0 1 Tryd.underlying36 hi _ 0 [] rfl (World.ownsRow_nil _ _ _ _) rfl ?_)
        | (refine wpList_append_own _ rfl _ _ 36 rfl w.heap.size 3 i0 (.int .i64 0) 1 8 Tryd.underlying36 hi hz0 hz1 hz2 rfl (by decide) _ 0 [] rfl (World.ownsRow_nil _ _ _ _) _ 1 1 [.int .i64 n] rfl rfl (news_one _ _ _) (by simp [Value.oneCell']) (by decide) (by decide) (by simp) ?_))
      intro v' w2 hown hgrow hnil
      have HOW := Lib.hid hown; have HB2 := Lib.hid (Below.grown ((Below.refl w.heap.size w).alloc (Nat.le_refl _) _) hgrow (by simp) (fun j hj => by cases hj)); clear hown hgrow hnil
      go_wp2_with (at_builtin; refine wpList_append_own_none rfl _ _ 36 rfl w.heap.size 3 i0 1 Tryd.underlying36 hi _ 1 _ rfl HOW.out rfl ?_)
      go_ret
      exact ⟨_, rfl, own_mono HOW.out hb, HB2.out⟩
  · cases hv
    have hgl := (Array.getElem?_eq_some_iff.1 hgb).1
    have HO := Lib.hid ho
    have HRW := Lib.hid (own_rw ho)
    have hc1 : cp ≤ 9223372036854775807 := by unfold maxLen at hcm; omega
    clear ho hgb hcm
    unfold PutOf
    go_enter Tryd.func54, Tryd.ntmps54
    go_wp2_with fail
    go_loop [5] (fun iv => ∃ (k : Nat), k ≤ xs.length ∧ iv = .int .i64 (k : Int) ∧ Hid (∀ (j : Nat) (x : Int), j < k → xs[j]? = some x → x < n)) (fun iv => xs.length - (intOf iv).toNat)
    case atStart => exact ⟨0, by omega, rfl, Lib.hid (by intro j x h; omega)⟩
    case round =>
      obtain ⟨k, hk, rfl, HK⟩ := hrel
      by_cases hlk : k < xs.length
      case neg =>
        have hke : k = xs.length := by omega
        have hpk : putK xs n = k := putK_is xs n k hk HK.out (fun x hx => by rw [List.getElem?_eq_none (by omega)] at hx; cases hx)
        have HP : Hid (putR xs n = xs.take k ++ n :: xs.drop k) := Lib.hid (by unfold putR; rw [hpk, List.getElem?_eq_none (by omega), if_neg (by simp)])
        clear hpk hke
        go_wp2_with (at_builtin; refine wpList_append_own _ rfl _ _ 36 rfl w.heap.size 3 i0 (.int .i64 0) 1 8 Tryd.underlying36 hi hz0 hz1 hz2 rfl (by decide) _ 0 [] rfl (World.ownsRow_nil _ _ _ _) ⟨g, 0, none⟩ k cp (ints (xs.take k)) rfl (by simp; omega) (news_take HO.out _) (ints_oc _) (by unfold maxLen; omega) (by omega) (Nat.le_refl _) ?_)
        intro v1 w1 hown hgrow hnil
        have HO1 := Lib.hid hown; have HB1 := Lib.hid (Below.grown (Below.refl w.heap.size w) hgrow (Nat.le_refl _) (fun j hj => by cases hj)); clear hown hgrow hnil
        try rw [Nat.zero_add] at HO1
        have HOX := Lib.hid (own_later HO.out HB1.out)
        go_wp2_with (at_builtin; refine wpList_append_own _ rfl _ _ 36 rfl w.heap.size 3 i0 (.int .i64 0) 1 8 Tryd.underlying36 hi hz0 hz1 hz2 rfl (by decide) _ k _ rfl (HO1.out.alloc _) _ 1 1 [.int .i64 n] rfl rfl (news_one _ _ _) (by simp [Value.oneCell']) (by unfold maxLen; omega) (by omega) (Nat.le_trans HB1.out.size (by simp)) ?_)
        intro v2 w2 hown hgrow hnil
        have HO2 := Lib.hid hown; have HB2 := Lib.hid (Below.grown (HB1.out.alloc HB1.out.size _) hgrow (Nat.le_trans HB1.out.size (by simp)) (fun j hj => (HO1.out.lt j hj).1)); clear hown hgrow hnil
        have HOY := Lib.hid (own_later HO.out HB2.out)
        by_cases hcp : cp = k
        case neg =>
          go_wp2_with (at_builtin; refine wpList_append_own _ rfl _ _ 36 rfl w.heap.size 3 i0 (.int .i64 0) 1 8 Tryd.underlying36 hi hz0 hz1 hz2 rfl (by decide) _ (k + 1) _ rfl HO2.out _ _ _ (ints (xs.drop k)) rfl (by simp) (news_drop HOY.out k) (ints_oc _) (by unfold maxLen; omega) (by omega) HB2.out.size ?_)
          intro v3 w3 hown hgrow hnil
          have HO3 := Lib.hid hown; have HB3 := Lib.hid (Below.grown HB2.out hgrow HB2.out.size (fun j hj => (HO2.out.lt j hj).1)); clear hown hgrow hnil
          go_wp2_with fail
          go_ret
          refine ⟨_, rfl, ?_, HB3.out⟩
          rw [HP.out]
          have h3 := own_mono HO3.out hb
          have e1 : (xs.take k ++ n :: xs.drop k).length = k + 1 + (xs.length - k) := by simp; omega
          have e2 : ints (xs.take k ++ n :: xs.drop k) = ints (xs.take k) ++ [.int .i64 n] ++ ints (xs.drop k) := by simp [ints]
          rw [e1, e2]
          try rw [hdr]
          simpa using h3
        have hdr : xs.drop k = [] := List.drop_eq_nil_of_le (by omega)
        go_wp2_with (at_builtin; refine wpList_append_own _ rfl _ _ 36 rfl w.heap.size 3 i0 (.int .i64 0) 1 8 Tryd.underlying36 hi hz0 hz1 hz2 rfl (by decide) _ (k + 1) _ rfl HO2.out _ _ _ (ints (xs.drop k)) rfl (by simp) (by rw [hdr]; intro j u hu; simp [ints] at hu) (ints_oc _) (by unfold maxLen; omega) (by omega) HB2.out.size ?_)
        intro v3 w3 hown hgrow hnil
        have HO3 := Lib.hid hown; have HB3 := Lib.hid (Below.grown HB2.out hgrow HB2.out.size (fun j hj => (HO2.out.lt j hj).1)); clear hown hgrow hnil
        go_wp2_with fail
        go_ret
        refine ⟨_, rfl, ?_, HB3.out⟩
        rw [HP.out]
        have h3 := own_mono HO3.out hb
        have e1 : (xs.take k ++ n :: xs.drop k).length = k + 1 + (xs.length - k) := by simp; omega
        have e2 : ints (xs.take k ++ n :: xs.drop k) = ints (xs.take k) ++ [.int .i64 n] ++ ints (xs.drop k) := by simp [ints]
        rw [e1, e2]
        try rw [hdr]
        simpa using h3
      obtain ⟨b, off, x, hx, ha, hbl, hc⟩ := intrw_cell HRW.out hlk
      simp only [Option.some.injEq, Addr.mk.injEq, and_true] at ha
      obtain ⟨rfl, rfl⟩ := ha
      rw [Nat.zero_add] at hc
      by_cases hlt : x < n
      · have HK2 : Hid (∀ (j : Nat) (y : Int), j < k + 1 → xs[j]? = some y → y < n) := Lib.hid fun j y hj hy => by
          rcases Nat.lt_or_ge j k with h | h
          · exact HK.out j y h hy
          · obtain rfl : j = k := by omega
            rw [hx] at hy; cases hy; exact hlt
        clear hx
        go_wp2_with fail
        go_round
        case rel => exact ⟨k + 1, by omega, by go_num, HK2⟩
        case measure => simp [intOf]; omega
      · have hpk : putK xs n = k := putK_is xs n k hk HK.out (fun y hy => by rw [hx] at hy; cases hy; omega)
        by_cases heq : x = n
        · have HP : Hid (putR xs n = xs) := Lib.hid (by unfold putR; rw [hpk, hx, heq, if_pos rfl])
          have hq : (x == n) = true := by simp [heq]
          clear hpk heq hx
          go_wp2_with fail
          go_ret
          exact ⟨_, rfl, by rw [HP.out]; exact HO.out, Below.refl _ _⟩
        · have HP : Hid (putR xs n = xs.take k ++ n :: xs.drop k) := Lib.hid (by unfold putR; rw [hpk, hx, if_neg (fun h => heq (by simpa using h))])
          have hq : (x == n) = false := by simp [heq]
          clear hpk heq hx
          go_wp2_with (at_builtin; refine wpList_append_own _ rfl _ _ 36 rfl w.heap.size 3 i0 (.int .i64 0) 1 8 Tryd.underlying36 hi hz0 hz1 hz2 rfl (by decide) _ 0 [] rfl (World.ownsRow_nil _ _ _ _) ⟨g, 0, none⟩ k cp (ints (xs.take k)) rfl (by simp; omega) (news_take HO.out _) (ints_oc _) (by unfold maxLen; omega) (by omega) (Nat.le_refl _) ?_)
          intro v1 w1 hown hgrow hnil
          have HO1 := Lib.hid hown; have HB1 := Lib.hid (Below.grown (Below.refl w.heap.size w) hgrow (Nat.le_refl _) (fun j hj => by cases hj)); clear hown hgrow hnil
          try rw [Nat.zero_add] at HO1
          have HOX := Lib.hid (own_later HO.out HB1.out)
          go_wp2_with (at_builtin; refine wpList_append_own _ rfl _ _ 36 rfl w.heap.size 3 i0 (.int .i64 0) 1 8 Tryd.underlying36 hi hz0 hz1 hz2 rfl (by decide) _ k _ rfl (HO1.out.alloc _) _ 1 1 [.int .i64 n] rfl rfl (news_one _ _ _) (by simp [Value.oneCell']) (by unfold maxLen; omega) (by omega) (Nat.le_trans HB1.out.size (by simp)) ?_)
          intro v2 w2 hown hgrow hnil
          have HO2 := Lib.hid hown; have HB2 := Lib.hid (Below.grown (HB1.out.alloc HB1.out.size _) hgrow (Nat.le_trans HB1.out.size (by simp)) (fun j hj => (HO1.out.lt j hj).1)); clear hown hgrow hnil
          have HOY := Lib.hid (own_later HO.out HB2.out)
          have hcp : ¬ cp = k := by omega
          go_wp2_with (at_builtin; refine wpList_append_own _ rfl _ _ 36 rfl w.heap.size 3 i0 (.int .i64 0) 1 8 Tryd.underlying36 hi hz0 hz1 hz2 rfl (by decide) _ (k + 1) _ rfl HO2.out _ _ _ (ints (xs.drop k)) rfl (by simp) (news_drop HOY.out k) (ints_oc _) (by unfold maxLen; omega) (by omega) HB2.out.size ?_)
          intro v3 w3 hown hgrow hnil
          have HO3 := Lib.hid hown; have HB3 := Lib.hid (Below.grown HB2.out hgrow HB2.out.size (fun j hj => (HO2.out.lt j hj).1)); clear hown hgrow hnil
          go_wp2_with fail
          go_ret
          refine ⟨_, rfl, ?_, HB3.out⟩
          rw [HP.out]
          have h3 := own_mono HO3.out hb
          have e1 : (xs.take k ++ n :: xs.drop k).length = k + 1 + (xs.length - k) := by simp; omega
          have e2 : ints (xs.take k ++ n :: xs.drop k) = ints (xs.take k) ++ [.int .i64 n] ++ ints (xs.drop k) := by simp [ints]
          rw [e1, e2]
          try rw [hdr]
          simpa using h3

end Go.Proofs.YteknmjebokimjaaDoor
