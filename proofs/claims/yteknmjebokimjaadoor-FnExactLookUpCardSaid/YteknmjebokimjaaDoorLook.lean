/- The contracts of looking up in a trie: the reference's. -/
import Derived.Test.YteknmjebokimjaaDoorLookL

import Derived.Laws.OwnMore
namespace Go.Proofs.YteknmjebokimjaaDoor
set_option linter.unusedVariables false
open Go.ChangeShapes Go.WideShapes Go.ChangeAt Go.RowKit
set_option maxRecDepth 100000

theorem run_app_none {w : World} (base : Nat) (t ty e : TypeId) (i : TypeInfo) (size c : Nat) (ht : Tryd.prog.underlying t = some (.slice e)) (hi : Tryd.prog.info? e = some i)
    (v : Value) (n : Nat) (xs : List Value) (hown : w.ownsRow base e size v n xs) : (Builtin.append_ #[t, t] ty #[v, .slice none 0 c]).run Tryd.prog w = .ok v w := by
  rcases hown.2 with ⟨rfl, rfl⟩ | ⟨g, cap, cur, rfl, _, _, hnc, _⟩
  · simp [Builtin.append_, run_underlying ht, sizeOf, typeInfo, hi, Builtin.lenOf, Builtin.firstCells]
  · simp [Builtin.append_, run_underlying ht, sizeOf, typeInfo, hi, Builtin.lenOf, Builtin.firstCells, hnc, storeCells]
theorem app_none {w : World} {ops : Array Oper} {rest : List Oper} {o : Oper} {a : Act} {Q : Exit → Act → World → Prop} (hgd : o.guard = none) (s x : Operand) (t : TypeId)
    (ho : o.op = .call { callee := .builtin .append, args := #[s, x], argTypes := #[t, t] })
    (base : Nat) (e : TypeId) (i : TypeInfo) (size c : Nat) (ht : Tryd.prog.underlying t = some (.slice e)) (hi : Tryd.prog.info? e = some i)
    (v : Value) (n : Nat) (xs : List Value) (hs : a.eval s = v) (hown : w.ownsRow base e size v n xs) (hx : a.eval x = .slice none 0 c)
    (h : wpList Tryd.prog ops Q rest (a.put o.dst v) w) : wpList Tryd.prog ops Q (o :: rest) a w := by
  refine wpList_plain hgd fun K hK => ?_
  have hrun := run_app_none (w := w) base t o.type e i size c ht hi v n xs hown
  unfold Oper.wp
  simp [execOp, ho, resolve, invoke, builtin, hs, hx, hrun, Result.andThen]
  exact hK _ _ h
/-- a row of numbers behind an own one -/
theorem app_ints {w : World} {ops : Array Oper} {rest : List Oper} {o : Oper} {a : Act} {Q : Exit → Act → World → Prop} (hgd : o.guard = none) (s x : Operand)
    (ho : o.op = .call { callee := .builtin .append, args := #[s, x], argTypes := #[36, 36] })
    (base : Nat) (v : Value) (xs : List Int) (hs : a.eval s = v) (hown : w.ownsRow base 3 1 v xs.length (ints xs))
    (q : Option Addr) (m c : Nat) (ys : List Int) (hm : m = ys.length) (hx : a.eval x = .slice q m c) (hrow : Rw w q (ints ys)) (hlen : xs.length + ys.length ≤ 1048576) (hbase : base ≤ w.heap.size)
    (h : ∀ v' w', w'.ownsRow base 3 1 v' (xs ++ ys).length (ints (xs ++ ys)) → w.grownBy w' v.ownBlock → Below base w w' → wpList Tryd.prog ops Q rest (a.put o.dst v') w') : wpList Tryd.prog ops Q (o :: rest) a w := by
  obtain ⟨i0, hi, hz0, hz1, hz2⟩ := info_parts Tryd.infoHIntS
  subst hm
  have hel : (xs ++ ys).length = xs.length + ys.length := List.length_append
  have hei : ints (xs ++ ys) = ints xs ++ ints ys := ints_app xs ys
  cases q with
  | none =>
    have hy : ys = [] := by
      rcases hrow with h0 | ⟨b, off, ha, _⟩
      · simpa [ints] using h0
      · cases ha
    subst hy
    refine app_none hgd s x 36 ho base 3 i0 1 c Tryd.underlying36 hi v xs.length (ints xs) hs hown hx ?_
    refine h v w ?_ ⟨rfl, rfl, rfl, Nat.le_refl _, fun _ _ _ => rfl⟩ (Below.refl _ _)
    simpa using hown
  | some ad =>
    refine wpList_append_own _ hgd s x 36 ho base 3 i0 (.int .i64 0) 1 8 Tryd.underlying36 hi hz0 hz1 hz2 rfl (by decide) v xs.length (ints xs) hs hown ad ys.length c (ints ys) hx (by simp) ?_ (ints_oc _) (by unfold maxLen; omega) (by omega) hbase ?_
    · intro j u hu
      rcases hrow with h0 | ⟨b, off, ha, _, hc⟩
      · rw [h0] at hu; simp at hu
      · cases ha
        have e : ((⟨b, off, none⟩ : Addr).add j) = ⟨b, off + j, none⟩ := by unfold Addr.add; split <;> simp_all
        rw [e]; exact hc j u hu
    · intro v' w' ho' hg _
      rw [← hei, ← hel] at ho'
      exact h v' w' ho' hg (Below.grown (Below.refl _ _) hg hbase (fun j hj => (hown.lt j hj).1))

def SplitOwn (s : ByteArray) (w : World) (e : Ending) (w' : World) : Prop :=
  ∃ v, e = .returned v ∧ w'.ownsRow w.heap.size 9 1 v (pieces 47 s).length (strs (pieces 47 s)) ∧ Below w.heap.size w w'
set_option maxHeartbeats 2000000 in
theorem spec_splitO (s : ByteArray) (w : World) (hs : s.size ≤ 1048576) : Calls Tryd.prog 53 #[.string s, .int .u8 47] w (SplitOwn s w) := by
  obtain ⟨i0, hi, hz0, hz1, hz2⟩ := info_parts Tryd.infoStr
  go_enter Tryd.func53, Tryd.ntmps53
  go_wp2_with fail
  go_loopw [5, 6, 7] (fun ov fv iv wr => ∃ (i f : Nat) (out : List ByteArray), i ≤ s.size ∧ f ≤ i ∧ iv = .int .i64 (i : Int) ∧ fv = .int .i64 (f : Int) ∧ Hid (Cut 47 s i f out) ∧ out.length ≤ i ∧ Hid (wr.ownsRow w.heap.size 9 1 ov out.length (strs out)) ∧ Hid (Below w.heap.size w wr)) (fun _ _ iv _ => s.size - (intOf iv).toNat)
  case atStart => exact ⟨0, 0, [], by omega, by omega, rfl, rfl, cut_start _ _, by simp, World.ownsRow_nil _ _ _ _, Below.refl _ _⟩
  case round =>
    obtain ⟨i, f, out, hil, hfi, rfl, rfl, HC, hol, HO, HB⟩ := hrel
    have HC3 : Hid (out.length + 1 ≤ maxLen) := Lib.hid (by unfold maxLen; omega)
    have HC4 : Hid ((out.length + 1) * 16 ≤ 140737488355328) := Lib.hid (by omega)
    by_cases hlt : i < s.size
    case neg =>
      obtain rfl : i = s.size := by omega
      have HE := Lib.hid (cut_end HC.out)
      go_wp2_with (at_builtin; refine wpList_append_own _ rfl _ _ 59 rfl w.heap.size 9 i0 (.string ByteArray.empty) 1 16 Tryd.underlying59 hi hz0 hz1 hz2 rfl (by decide) _ out.length _ rfl (HO.out.alloc _) _ 1 1 [.string _] rfl rfl (news_one _ _ _) (by simp [Value.oneCell']) HC3.out HC4.out (Nat.le_trans HB.out.size (by simp)) ?_)
      intro v' w2 hown hgrow hnil
      have hbw : Below w.heap.size w w2 := Below.grown (HB.out.alloc HB.out.size _) hgrow (Nat.le_trans HB.out.size (by simp)) (fun j hj => (HO.out.lt j hj).1)
      have HOW := Lib.hid hown; have HBW := Lib.hid hbw; clear hown hgrow hnil hbw
      go_wp2_with fail
      go_ret
      have ho := HOW.out
      rw [← strs_snoc, HE.out] at ho
      have hlen : (pieces 47 s).length = out.length + 1 := by rw [← HE.out]; simp
      rw [← hlen] at ho
      exact ⟨_, rfl, ho, HBW.out⟩
    by_cases he : (s[i].toNat : Int) = 47
    · have HN := Lib.hid (cut_yes HC.out hlt (UInt8.toNat_inj.1 (by show s[i].toNat = 47; omega)))
      go_wp2_with (at_builtin; refine wpList_append_own _ rfl _ _ 59 rfl w.heap.size 9 i0 (.string ByteArray.empty) 1 16 Tryd.underlying59 hi hz0 hz1 hz2 rfl (by decide) _ out.length _ rfl (HO.out.alloc _) _ 1 1 [.string _] rfl rfl (news_one _ _ _) (by simp [Value.oneCell']) HC3.out HC4.out (Nat.le_trans HB.out.size (by simp)) ?_)
      intro v' w2 hown hgrow hnil
      have hbw : Below w.heap.size w w2 := Below.grown (HB.out.alloc HB.out.size _) hgrow (Nat.le_trans HB.out.size (by simp)) (fun j hj => (HO.out.lt j hj).1)
      have HOW := Lib.hid hown; have HBW := Lib.hid hbw; clear hown hgrow hnil hbw
      go_wp2_with fail
      go_roundw
      case rel => exact ⟨i + 1, i + 1, _, by omega, by omega, by go_num, by go_num, HN.out, by simp; omega, by rw [strs_snoc, List.length_append]; exact HOW.out, HBW.out⟩
      case measure => simp [intOf]; omega
    · have HN := Lib.hid (cut_no HC.out hlt (fun e => he (by rw [e]; rfl)))
      have hee : ((s[i].toNat : Int) == 47) = false := by simp [he]
      go_wp2_with fail
      go_roundw
      case rel => exact ⟨i + 1, f, out, by omega, by omega, by go_num, rfl, HN.out, by omega, HO.out, HB.out⟩
      case measure => simp [intOf]; omega

def DownOf (R : List Int × Nat) (w : World) (e : Ending) (w' : World) : Prop :=
  ∃ v, e = .returned (.tuple #[v, .int .i64 (R.2 : Int)]) ∧ w'.ownsRow w.heap.size 3 1 v R.1.length (ints R.1) ∧ Below w.heap.size w w'
def stepR (h a b : List Int × Nat) : Nat → List Int × Nat
  | 0 => (h.1, h.2 + 1)
  | 1 => (h.1 ++ a.1, h.2 + 1 + a.2)
  | _ => (h.1 ++ (a.1 ++ b.1), h.2 + 1 + a.2 + b.2)
def levR (x : ByteArray) (j : Nat) : ByteArray := if j = 0 then x else any1
theorem stepR_next (h : List Int × Nat) (f : ByteArray → List Int × Nat) (x : ByteArray) (j : Nat) (hj : j < 2) : stepR h (f x) (f any1) (j + 1) = ((stepR h (f x) (f any1) j).1 ++ (f (levR x j)).1, (stepR h (f x) (f any1) j).2 + (f (levR x j)).2) := by
  obtain rfl | rfl : j = 0 ∨ j = 1 := by omega
  · simp [stepR, levR]
  · simp [stepR, levR, List.append_assoc]
theorem levR_size {x : ByteArray} (h : x.size ≤ maxLen) (j : Nat) : (levR x j).size ≤ maxLen := by
  unfold levR
  split
  · exact h
  · decide
theorem who_row {w : World} {B : Nat} {a : Option Addr} {n cap : Nat} {t : List Nd} (h : kTrieNodeS.rd B w [.slice a n cap] t) (hB : B ≤ w.heap.size) {k : Nat} (hk : k < t.length) :
    ∃ b off aw cw, a = some ⟨b, off, none⟩ ∧ w.cell? ⟨b, off + k * 3 + 2, none⟩ = some (.slice aw (nd t k).2.2.length cw) ∧ Rw w aw (ints (nd t k).2.2) := by
  obtain ⟨x, b, off, aw, cw, hx, ha, _, _, _, e2, _, _, hr⟩ := nd_cells h hk
  rw [nd_at hx]
  exact ⟨b, off, aw, cw, ha, e2, ((ints_rd hr).1).rw hB⟩
def LitAt (w : World) (B : Nat) (x : ByteArray) : Prop := w.heap[B]? = some (.cells #[.string x, .string { data := #[43] }] 9)
theorem lit_lt {w : World} {B : Nat} {x : ByteArray} (h : LitAt w B x) : B < w.heap.size := (Array.getElem?_eq_some_iff.1 h).1
theorem lit_later {w w' : World} {B : Nat} {x : ByteArray} (h : LitAt w B x) (hb : Below w.heap.size w w') : LitAt w' B x := (hb.block B (lit_lt h)).trans h
theorem lit_grown {w w' : World} {B base n : Nat} {x : ByteArray} {v : Value} {xs : List Value} (h : LitAt w B x) (ho : w.ownsRow base 3 1 v n xs) (hg : w.grownBy w' v.ownBlock) : LitAt w' B x := by
  refine (hg.block B (lit_lt h) fun e => ?_).trans h
  rcases ho.2 with ⟨rfl, _⟩ | ⟨g, cap, cur, rfl, _, hh, _⟩
  · cases e
  · simp only [Value.ownBlock, Option.some.injEq] at e
    subst e
    unfold LitAt at h
    rw [h] at hh
    simp at hh
theorem lit_cell {w : World} {B : Nat} {x : ByteArray} (h : LitAt w B x) (j : Nat) (hj : j < 2) : w.cell? ⟨B, j, none⟩ = some (.string (levR x j)) := by
  unfold LitAt at h
  obtain rfl | rfl : j = 0 ∨ j = 1 := by omega
  · simp [World.cell?, h, levR]
  · simp [World.cell?, h, levR, any1]
theorem who_row' {w : World} {B : Nat} {b off : Nat} {n cap : Nat} {t : List Nd} (h : kTrieNodeS.rd B w [.slice (some ⟨b, off, none⟩) n cap] t) (hB : B ≤ w.heap.size) {k : Nat} (hk : k < t.length) :
    ∃ aw cw, w.cell? ⟨b, off + k * 3 + 2, none⟩ = some (.slice aw (nd t k).2.2.length cw) ∧ Rw w aw (ints (nd t k).2.2) := by
  obtain ⟨b', off', aw, cw, ha, e2, hr⟩ := who_row h hB hk
  simp only [Option.some.injEq, Addr.mk.injEq, and_true] at ha
  obtain ⟨rfl, rfl⟩ := ha
  exact ⟨aw, cw, e2, hr⟩

set_option maxHeartbeats 4000000 in
theorem spec_down (t : List Nd) (a : Option Addr) (cap : Nat) (hl : t.length ≤ 181) (hw30 : whosN t ≤ 30) : ∀ (l : List ByteArray) (u n : Nat) (la : Option Addr) (lcap : Nat) (w : World), Hid (kTrieNodeS.rd w.heap.size w [.slice a t.length cap] t) → Hid (Rw w la (strs l)) → Hid (n = l.length) → n ≤ lcap → lcap ≤ 9223372036854775807 → l.length ≤ 6 → Hid (∀ x ∈ l, x.size ≤ maxLen) → u < t.length →
    Calls Tryd.prog 52 #[.slice a t.length cap, .int .i64 (u : Int), .slice la n lcap] w (DownOf (downR t l u) w) := by
  intro l
  induction l with
  | nil =>
    intro u n la lcap w H HRL HN hnl hlc hl6 HSZ hu
    have HKM := Lib.hid (fun (wx : World) (hb : Below w.heap.size w wx) (s : ByteArray) (hs : s.size ≤ maxLen) => spec_kid t _ t.length cap (u : Int) s wx (kTrieNodeS_ok.later H.out hb) (by omega) hs)
    have HK0 := Lib.hid (HKM.out w (Below.refl _ _) more (by decide))
    obtain rfl : n = 0 := HN.out
    have hcp := (sl_len H.out).2
    obtain ⟨bh, oh, _, _, rfl, _, _⟩ := who_row H.out (Nat.le_refl _) hu
    unfold DownOf
    rw [show downR t [] u = ((hashR t u).1 ++ (nd t u).2.2, (hashR t u).2 + 1) from rfl]
    by_cases h0 : 0 ≤ kidR t (u : Int) more
    case neg =>
      rw [hash_no (u := u) (show kidR t (u : Int) more < 0 by omega)]
      generalize kidR t (u : Int) more = kr at *
      clear HKM
      go_enter Tryd.func52, Tryd.ntmps52
      go_wp2_with fail
      refine HK0.out.mono ?_
      rintro e w1 ⟨rfl, hb1⟩
      have HB1 := Lib.hid hb1; clear hb1
      have HO : Hid (w1.ownsRow w.heap.size 3 1 (.slice none 0 0) ([] : List Int).length (ints [])) := Lib.hid (World.ownsRow_nil _ _ _ _)
      obtain ⟨aw, cw, e2, hrw⟩ := who_row' (kTrieNodeS_ok.later H.out HB1.out) (Nat.le_refl _) hu
      have HRW := Lib.hid hrw
      have hl30 := nd_who hw30 u
      clear hrw
      go_wp2_with (at_builtin; refine app_ints rfl _ _ rfl w.heap.size _ _ rfl HO.out _ _ _ _ rfl rfl HRW.out (by omega) HB1.out.size ?_)
      intro v2 w2 ho2 _ hb2
      have HO2 := Lib.hid ho2; have HB2 := Lib.hid (HB1.out.trans hb2); clear ho2 hb2
      try rw [← List.length_append] at HO2
      go_wp2_with fail
      go_ret2
      exact ⟨_, rfl, HO2.out, HB2.out⟩
    rw [hash_yes h0]
    obtain ⟨k0, hk0⟩ := Int.eq_ofNat_of_zero_le h0
    have hkl := (kid_lt h0).1
    rw [hk0] at HK0 hkl ⊢
    rw [Int.toNat_natCast] at hkl ⊢
    have hk30 := nd_who hw30 k0
    clear h0 hk0 HKM
    go_enter Tryd.func52, Tryd.ntmps52
    go_wp2_with fail
    refine HK0.out.mono ?_
    rintro e w0 ⟨rfl, hb1⟩
    have HB0 := Lib.hid hb1; clear hb1
    obtain ⟨ah, ch, e1, hrh⟩ := who_row' (kTrieNodeS_ok.later H.out HB0.out) (Nat.le_refl _) hkl
    have HRH := Lib.hid hrh; clear hrh
    go_wp2_with (at_builtin; refine app_ints rfl _ _ rfl w.heap.size _ [] rfl (World.ownsRow_nil _ _ _ _) _ _ _ _ rfl rfl HRH.out (by simp; omega) HB0.out.size ?_)
    intro v0 w1 ho1 _ hb1
    have HO := Lib.hid ho1; have HB1 := Lib.hid (HB0.out.trans hb1); clear ho1 hb1
    try rw [List.nil_append] at HO
    obtain ⟨aw, cw, e2, hrw⟩ := who_row' (kTrieNodeS_ok.later H.out HB1.out) (Nat.le_refl _) hu
    have HRW := Lib.hid hrw
    have hl30 := nd_who hw30 u
    clear hrw
    go_wp2_with (at_builtin; refine app_ints rfl _ _ rfl w.heap.size _ _ rfl HO.out _ _ _ _ rfl rfl HRW.out (by omega) HB1.out.size ?_)
    intro v2 w2 ho2 _ hb2
    have HO2 := Lib.hid ho2; have HB2 := Lib.hid (HB1.out.trans hb2); clear ho2 hb2
    try rw [← List.length_append] at HO2
    go_wp2_with fail
    go_ret2
    exact ⟨_, rfl, HO2.out, HB2.out⟩
  | cons x r ih =>
    intro u n la lcap w H HRL HN hnl hlc hl6 HSZ hu
    have HIH := Lib.hid ih; clear ih
    have HKM := Lib.hid (fun (wx : World) (hb : Below w.heap.size w wx) (s : ByteArray) (hs : s.size ≤ maxLen) => spec_kid t _ t.length cap (u : Int) s wx (kTrieNodeS_ok.later H.out hb) (by omega) hs)
    have HK0 := Lib.hid (HKM.out w (Below.refl _ _) more (by decide))
    have hcp := (sl_len H.out).2
    obtain ⟨bh, oh, _, _, rfl, _, _⟩ := who_row H.out (Nat.le_refl _) hu
    unfold DownOf
    by_cases hc1 : lcap = 1
    case pos =>
      subst hc1
      obtain rfl : n = 1 := by have := HN.out; rw [List.length_cons] at this; omega
      have HR0 : Hid (strs r = []) := Lib.hid (by have := HN.out; rw [List.length_cons] at this; rw [List.length_eq_zero_iff.1 (show r.length = 0 by omega)]; rfl)
      by_cases h0 : 0 ≤ kidR t (u : Int) more
      case neg =>
        have hh2 : (hashR t u).2 = 0 := by rw [hash_no (u := u) (show kidR t (u : Int) more < 0 by omega)]
        have hh1 : (hashR t u).1 = [] := by rw [hash_no (u := u) (show kidR t (u : Int) more < 0 by omega)]
        generalize kidR t (u : Int) more = kr at HK0 h0
        go_enter Tryd.func52, Tryd.ntmps52
        go_wp2_with fail
        refine HK0.out.mono ?_
        rintro e w1 ⟨rfl, hb1⟩
        have HB1 := Lib.hid hb1; clear hb1
        obtain ⟨v0, hv0⟩ : ∃ v0 : Value, v0 = .slice none 0 0 := ⟨_, rfl⟩
        have HO : Hid (w1.ownsRow w.heap.size 3 1 v0 (hashR t u).1.length (ints (hashR t u).1)) := Lib.hid (by rw [hh1, hv0]; exact World.ownsRow_nil _ _ _ _)
        rw [← hv0]
        clear hv0 hh1
        obtain ⟨bl, ol, y, hy, rfl, hbl, hc0⟩ := strs_cell HRL.out (i := 0) (by simp)
        simp only [List.getElem?_cons_zero, Option.some.injEq] at hy
        subst hy
        rw [Nat.add_zero] at hc0
        have l0 := below_cellk HB1.out hc0 hbl
        have hn1 : 1 ≤ 1 := by have := HN.out; rw [List.length_cons] at this; omega
        have hr5 : r.length ≤ 5 := by rw [List.length_cons] at hl6; omega
        have q1 : (((1 : Nat) : Int) == 0) = false := by rw [beq_eq_false_iff_ne]; omega
        have hsx := HSZ.out x (by simp)
        have hh30 := hash_len hw30 u
        have HRR : Hid (∀ wx, Below w.heap.size w wx → Rw wx (some ⟨bl, ol + 1, none⟩) (strs r)) := Lib.hid fun wx hb => (HRL.out.below hb).drop 1
        clear hc0
        go_wp2_with fail
        obtain ⟨wb, hwb⟩ : ∃ z : World, z = w1.alloc (.cells #[.string x, .string { data := #[43] }] 9) := ⟨_, rfl⟩
        have HLB : Hid (LitAt wb w1.heap.size x) := Lib.hid (by rw [hwb]; exact heap_alloc_new w1 _)
        have HBB : Hid (Below w.heap.size w wb) := Lib.hid (by rw [hwb]; exact HB1.out.alloc HB1.out.size _)
        have HOB : Hid (wb.ownsRow w.heap.size 3 1 v0 (hashR t u).1.length (ints (hashR t u).1)) := Lib.hid (by rw [hwb]; exact HO.out.alloc _)
        rw [← hwb]
        clear hwb
        have HGB := Lib.hid (fun s => go_bound hw30 (show r.length ≤ 6 by simp at hl6; omega) (kidR t (u : Int) s))
        have HST := Lib.hid (fun j (hj : j < 2) => stepR_next (hashR t u) (fun s => goR (downR t r) (kidR t (u : Int) s)) x j hj)
        have HS0 : Hid (stepR (hashR t u) (goR (downR t r) (kidR t (u : Int) x)) (goR (downR t r) (kidR t (u : Int) any1)) 0 = ((hashR t u).1, (hashR t u).2 + 1)) := Lib.hid rfl
        have HS2 : Hid (stepR (hashR t u) (goR (downR t r) (kidR t (u : Int) x)) (goR (downR t r) (kidR t (u : Int) any1)) 2 = downR t (x :: r) u) := Lib.hid rfl
        have HSL : Hid (∀ j, j ≤ 2 → (stepR (hashR t u) (goR (downR t r) (kidR t (u : Int) x)) (goR (downR t r) (kidR t (u : Int) any1)) j).1.length ≤ 11550 ∧ (stepR (hashR t u) (goR (downR t r) (kidR t (u : Int) x)) (goR (downR t r) (kidR t (u : Int) any1)) j).2 ≤ 514) := Lib.hid fun j hj => by
          have h1 := HGB.out x
          have h2 := HGB.out any1
          obtain rfl | rfl | rfl : j = 0 ∨ j = 1 ∨ j = 2 := by omega
          · simp only [stepR]; omega
          · simp only [stepR, List.length_append]; omega
          · simp only [stepR, List.length_append]; omega
        try dsimp only at HST
        generalize hSR : stepR (hashR t u) (goR (downR t r) (kidR t (u : Int) x)) (goR (downR t r) (kidR t (u : Int) any1)) = SR at *
        clear hSR
        have hS01 : (SR 0).2 = (hashR t u).2 + 1 := by rw [HS0.out]
        have HOS : Hid (wb.ownsRow w.heap.size 3 1 v0 (SR 0).1.length (ints (SR 0).1)) := Lib.hid (by rw [HS0.out]; exact HOB.out)
        go_loopw [8, 9, 46] (fun nv ov jv wr => ∃ (j : Nat) (v : Value), j ≤ 2 ∧ jv = .int .i64 (j : Int) ∧ nv = .int .i64 (((SR j).2 : Nat) : Int) ∧ ov = v ∧ Hid (wr.ownsRow w.heap.size 3 1 v (SR j).1.length (ints (SR j).1)) ∧ Hid (LitAt wr w1.heap.size x) ∧ Hid (Below w.heap.size w wr)) (fun _ _ jv _ => 2 - (intOf jv).toNat)
        case atStart => exact ⟨0, v0, by omega, rfl, (by rw [hS01, hh2]; rfl), rfl, HOS, HLB, HBB⟩
        case round =>
          obtain ⟨j, v, hj2, rfl, rfl, rfl, HOJ, HLJ, HBJ⟩ := hrel
          by_cases hjl : j < 2
          case neg =>
            obtain rfl : j = 2 := by omega
            rw [HS2.out] at HOJ
            have e2 : ((SR 2).2 : Int) = ((downR t (x :: r) u).2 : Int) := by rw [HS2.out]
            go_wp2_with fail
            go_ret2
            exact ⟨_, by rw [← e2]; rfl, HOJ.out, HBJ.out⟩
          have hlc := lit_cell HLJ.out j hjl
          have HNX := Lib.hid (HST.out j hjl)
          have hsl := HSL.out j hj2
          have hsn := HSL.out (j + 1) (by omega)
          have hgb := HGB.out (levR x j)
          have HKJ := Lib.hid (HKM.out _ HBJ.out (levR x j) (levR_size hsx j))
          have hjc : j = 0 ∨ j = 1 := by omega
          generalize levR x j = s at *
          by_cases hk : 0 ≤ kidR t (u : Int) s
          case neg =>
            rw [go_no (f := downR t r) (show kidR t (u : Int) s < 0 by omega)] at HNX
            simp only [List.append_nil, Nat.add_zero] at HNX
            generalize kidR t (u : Int) s = kr at *
            go_wp2_with fail
            refine HKJ.out.mono ?_
            rintro e w3 ⟨rfl, hb3⟩
            have HOK := Lib.hid (own_later HOJ.out hb3); have HLK := Lib.hid (lit_later HLJ.out hb3); have HBK := Lib.hid (HBJ.out.trans (hb3.mono HBJ.out.size)); clear hb3
            go_wp2_with fail
            go_roundw
            case rel => exact ⟨j + 1, _, by omega, by go_num, by rw [HNX.out], rfl, by rw [HNX.out]; exact HOK, HLK, HBK⟩
            case measure => simp [intOf]; omega
          obtain ⟨k1, hk1⟩ := Int.eq_ofNat_of_zero_le hk
          have hkl := (kid_lt hk).1
          rw [go_yes (f := downR t r) hk] at HNX hgb
          rw [hk1] at HKJ HNX hgb hkl
          rw [Int.toNat_natCast] at HNX hgb hkl
          clear hk hk1
          go_wp2_with fail
          refine HKJ.out.mono ?_
          rintro e w3 ⟨rfl, hb3⟩
          have HOK := Lib.hid (own_later HOJ.out hb3); have HLK := Lib.hid (lit_later HLJ.out hb3); have HBK := Lib.hid (HBJ.out.trans (hb3.mono HBJ.out.size)); clear hb3
          have hrr : Rw w3 (some ⟨bl, ol, none⟩) (strs r) := .inl HR0.out
          go_wp2_with fail
          refine (HIH.out k1 0 (some ⟨bl, ol, none⟩) 0 _ (Lib.hid (kTrieNodeS_ok.later H.out HBK.out)) (Lib.hid hrr) (Lib.hid (by have := HN.out; rw [List.length_cons] at this; omega)) (by omega) (by omega) (by omega) (Lib.hid fun z hz => HSZ.out z (by simp [hz])) (by omega)).mono ?_
          rintro e w5 ⟨v5, rfl, ho5, hb5⟩
          have HO5 := Lib.hid ho5; have HB5 := Lib.hid (HBK.out.trans (hb5.mono HBK.out.size)); have HOD := Lib.hid (own_later HOK.out hb5); have HL5 := Lib.hid (lit_later HLK.out hb5); clear ho5 hb5
          obtain ⟨q5, c5, rfl⟩ := form_of_own HO5.out
          have HR5 := Lib.hid (own_rw HO5.out)
          go_wp2_with (at_builtin; refine app_ints rfl _ _ rfl w.heap.size _ _ rfl HOD.out _ _ _ _ rfl rfl HR5.out (by omega) HB5.out.size ?_)
          intro v6 w6 ho6 hg6 hb6
          have HO6 := Lib.hid ho6; have HB6 := Lib.hid (HB5.out.trans hb6); have HL6 := Lib.hid (lit_grown HL5.out HOD.out hg6); clear ho6 hb6 hg6
          try rw [← List.length_append] at HO6
          go_wp2_with fail
          go_roundw
          case rel => exact ⟨j + 1, _, by omega, by go_num, by rw [HNX.out]; go_num, rfl, by rw [HNX.out]; exact HO6, HL6, HB6⟩
          case measure => simp [intOf]; omega
      have hh2 : (hashR t u).2 = 1 := by rw [hash_yes h0]
      have hhy : hashR t u = _ := hash_yes h0
      obtain ⟨k0, hk0⟩ := Int.eq_ofNat_of_zero_le h0
      have hkl := (kid_lt h0).1
      rw [hk0] at HK0 hkl hhy
      rw [Int.toNat_natCast] at hkl hhy
      have hk30 := nd_who hw30 k0
      clear h0 hk0
      go_enter Tryd.func52, Tryd.ntmps52
      go_wp2_with fail
      refine HK0.out.mono ?_
      rintro e w0 ⟨rfl, hb1⟩
      have HB0 := Lib.hid hb1; clear hb1
      obtain ⟨ah, ch, e1, hrh⟩ := who_row' (kTrieNodeS_ok.later H.out HB0.out) (Nat.le_refl _) hkl
      have HRH := Lib.hid hrh; clear hrh
      go_wp2_with (at_builtin; refine app_ints rfl _ _ rfl w.heap.size _ [] rfl (World.ownsRow_nil _ _ _ _) _ _ _ _ rfl rfl HRH.out (by simp; omega) HB0.out.size ?_)
      intro v0 w1 ho1 _ hb1
      have HO : Hid (w1.ownsRow w.heap.size 3 1 v0 (hashR t u).1.length (ints (hashR t u).1)) := Lib.hid (by rw [hhy]; simpa using ho1)
      have HB1 := Lib.hid (HB0.out.trans hb1); clear ho1 hb1 hhy e1
      obtain ⟨bl, ol, y, hy, rfl, hbl, hc0⟩ := strs_cell HRL.out (i := 0) (by simp)
      simp only [List.getElem?_cons_zero, Option.some.injEq] at hy
      subst hy
      rw [Nat.add_zero] at hc0
      have l0 := below_cellk HB1.out hc0 hbl
      have hn1 : 1 ≤ 1 := by have := HN.out; rw [List.length_cons] at this; omega
      have hr5 : r.length ≤ 5 := by rw [List.length_cons] at hl6; omega
      have q1 : (((1 : Nat) : Int) == 0) = false := by rw [beq_eq_false_iff_ne]; omega
      have hsx := HSZ.out x (by simp)
      have hh30 := hash_len hw30 u
      have HRR : Hid (∀ wx, Below w.heap.size w wx → Rw wx (some ⟨bl, ol + 1, none⟩) (strs r)) := Lib.hid fun wx hb => (HRL.out.below hb).drop 1
      clear hc0
      go_wp2_with fail
      obtain ⟨wb, hwb⟩ : ∃ z : World, z = w1.alloc (.cells #[.string x, .string { data := #[43] }] 9) := ⟨_, rfl⟩
      have HLB : Hid (LitAt wb w1.heap.size x) := Lib.hid (by rw [hwb]; exact heap_alloc_new w1 _)
      have HBB : Hid (Below w.heap.size w wb) := Lib.hid (by rw [hwb]; exact HB1.out.alloc HB1.out.size _)
      have HOB : Hid (wb.ownsRow w.heap.size 3 1 v0 (hashR t u).1.length (ints (hashR t u).1)) := Lib.hid (by rw [hwb]; exact HO.out.alloc _)
      rw [← hwb]
      clear hwb
      have HGB := Lib.hid (fun s => go_bound hw30 (show r.length ≤ 6 by simp at hl6; omega) (kidR t (u : Int) s))
      have HST := Lib.hid (fun j (hj : j < 2) => stepR_next (hashR t u) (fun s => goR (downR t r) (kidR t (u : Int) s)) x j hj)
      have HS0 : Hid (stepR (hashR t u) (goR (downR t r) (kidR t (u : Int) x)) (goR (downR t r) (kidR t (u : Int) any1)) 0 = ((hashR t u).1, (hashR t u).2 + 1)) := Lib.hid rfl
      have HS2 : Hid (stepR (hashR t u) (goR (downR t r) (kidR t (u : Int) x)) (goR (downR t r) (kidR t (u : Int) any1)) 2 = downR t (x :: r) u) := Lib.hid rfl
      have HSL : Hid (∀ j, j ≤ 2 → (stepR (hashR t u) (goR (downR t r) (kidR t (u : Int) x)) (goR (downR t r) (kidR t (u : Int) any1)) j).1.length ≤ 11550 ∧ (stepR (hashR t u) (goR (downR t r) (kidR t (u : Int) x)) (goR (downR t r) (kidR t (u : Int) any1)) j).2 ≤ 514) := Lib.hid fun j hj => by
        have h1 := HGB.out x
        have h2 := HGB.out any1
        obtain rfl | rfl | rfl : j = 0 ∨ j = 1 ∨ j = 2 := by omega
        · simp only [stepR]; omega
        · simp only [stepR, List.length_append]; omega
        · simp only [stepR, List.length_append]; omega
      try dsimp only at HST
      generalize hSR : stepR (hashR t u) (goR (downR t r) (kidR t (u : Int) x)) (goR (downR t r) (kidR t (u : Int) any1)) = SR at *
      clear hSR
      have hS01 : (SR 0).2 = (hashR t u).2 + 1 := by rw [HS0.out]
      have HOS : Hid (wb.ownsRow w.heap.size 3 1 v0 (SR 0).1.length (ints (SR 0).1)) := Lib.hid (by rw [HS0.out]; exact HOB.out)
      go_loopw [8, 9, 46] (fun nv ov jv wr => ∃ (j : Nat) (v : Value), j ≤ 2 ∧ jv = .int .i64 (j : Int) ∧ nv = .int .i64 (((SR j).2 : Nat) : Int) ∧ ov = v ∧ Hid (wr.ownsRow w.heap.size 3 1 v (SR j).1.length (ints (SR j).1)) ∧ Hid (LitAt wr w1.heap.size x) ∧ Hid (Below w.heap.size w wr)) (fun _ _ jv _ => 2 - (intOf jv).toNat)
      case atStart => exact ⟨0, v0, by omega, rfl, (by rw [hS01, hh2]; rfl), rfl, HOS, HLB, HBB⟩
      case round =>
        obtain ⟨j, v, hj2, rfl, rfl, rfl, HOJ, HLJ, HBJ⟩ := hrel
        by_cases hjl : j < 2
        case neg =>
          obtain rfl : j = 2 := by omega
          rw [HS2.out] at HOJ
          have e2 : ((SR 2).2 : Int) = ((downR t (x :: r) u).2 : Int) := by rw [HS2.out]
          go_wp2_with fail
          go_ret2
          exact ⟨_, by rw [← e2]; rfl, HOJ.out, HBJ.out⟩
        have hlc := lit_cell HLJ.out j hjl
        have HNX := Lib.hid (HST.out j hjl)
        have hsl := HSL.out j hj2
        have hsn := HSL.out (j + 1) (by omega)
        have hgb := HGB.out (levR x j)
        have HKJ := Lib.hid (HKM.out _ HBJ.out (levR x j) (levR_size hsx j))
        have hjc : j = 0 ∨ j = 1 := by omega
        generalize levR x j = s at *
        by_cases hk : 0 ≤ kidR t (u : Int) s
        case neg =>
          rw [go_no (f := downR t r) (show kidR t (u : Int) s < 0 by omega)] at HNX
          simp only [List.append_nil, Nat.add_zero] at HNX
          generalize kidR t (u : Int) s = kr at *
          go_wp2_with fail
          refine HKJ.out.mono ?_
          rintro e w3 ⟨rfl, hb3⟩
          have HOK := Lib.hid (own_later HOJ.out hb3); have HLK := Lib.hid (lit_later HLJ.out hb3); have HBK := Lib.hid (HBJ.out.trans (hb3.mono HBJ.out.size)); clear hb3
          go_wp2_with fail
          go_roundw
          case rel => exact ⟨j + 1, _, by omega, by go_num, by rw [HNX.out], rfl, by rw [HNX.out]; exact HOK, HLK, HBK⟩
          case measure => simp [intOf]; omega
        obtain ⟨k1, hk1⟩ := Int.eq_ofNat_of_zero_le hk
        have hkl := (kid_lt hk).1
        rw [go_yes (f := downR t r) hk] at HNX hgb
        rw [hk1] at HKJ HNX hgb hkl
        rw [Int.toNat_natCast] at HNX hgb hkl
        clear hk hk1
        go_wp2_with fail
        refine HKJ.out.mono ?_
        rintro e w3 ⟨rfl, hb3⟩
        have HOK := Lib.hid (own_later HOJ.out hb3); have HLK := Lib.hid (lit_later HLJ.out hb3); have HBK := Lib.hid (HBJ.out.trans (hb3.mono HBJ.out.size)); clear hb3
        have hrr : Rw w3 (some ⟨bl, ol, none⟩) (strs r) := .inl HR0.out
        go_wp2_with fail
        refine (HIH.out k1 0 (some ⟨bl, ol, none⟩) 0 _ (Lib.hid (kTrieNodeS_ok.later H.out HBK.out)) (Lib.hid hrr) (Lib.hid (by have := HN.out; rw [List.length_cons] at this; omega)) (by omega) (by omega) (by omega) (Lib.hid fun z hz => HSZ.out z (by simp [hz])) (by omega)).mono ?_
        rintro e w5 ⟨v5, rfl, ho5, hb5⟩
        have HO5 := Lib.hid ho5; have HB5 := Lib.hid (HBK.out.trans (hb5.mono HBK.out.size)); have HOD := Lib.hid (own_later HOK.out hb5); have HL5 := Lib.hid (lit_later HLK.out hb5); clear ho5 hb5
        obtain ⟨q5, c5, rfl⟩ := form_of_own HO5.out
        have HR5 := Lib.hid (own_rw HO5.out)
        go_wp2_with (at_builtin; refine app_ints rfl _ _ rfl w.heap.size _ _ rfl HOD.out _ _ _ _ rfl rfl HR5.out (by omega) HB5.out.size ?_)
        intro v6 w6 ho6 hg6 hb6
        have HO6 := Lib.hid ho6; have HB6 := Lib.hid (HB5.out.trans hb6); have HL6 := Lib.hid (lit_grown HL5.out HOD.out hg6); clear ho6 hb6 hg6
        try rw [← List.length_append] at HO6
        go_wp2_with fail
        go_roundw
        case rel => exact ⟨j + 1, _, by omega, by go_num, by rw [HNX.out]; go_num, rfl, by rw [HNX.out]; exact HO6, HL6, HB6⟩
        case measure => simp [intOf]; omega
    by_cases h0 : 0 ≤ kidR t (u : Int) more
    case neg =>
      have hh2 : (hashR t u).2 = 0 := by rw [hash_no (u := u) (show kidR t (u : Int) more < 0 by omega)]
      have hh1 : (hashR t u).1 = [] := by rw [hash_no (u := u) (show kidR t (u : Int) more < 0 by omega)]
      generalize kidR t (u : Int) more = kr at HK0 h0
      go_enter Tryd.func52, Tryd.ntmps52
      go_wp2_with fail
      refine HK0.out.mono ?_
      rintro e w1 ⟨rfl, hb1⟩
      have HB1 := Lib.hid hb1; clear hb1
      obtain ⟨v0, hv0⟩ : ∃ v0 : Value, v0 = .slice none 0 0 := ⟨_, rfl⟩
      have HO : Hid (w1.ownsRow w.heap.size 3 1 v0 (hashR t u).1.length (ints (hashR t u).1)) := Lib.hid (by rw [hh1, hv0]; exact World.ownsRow_nil _ _ _ _)
      rw [← hv0]
      clear hv0 hh1
      obtain ⟨bl, ol, y, hy, rfl, hbl, hc0⟩ := strs_cell HRL.out (i := 0) (by simp)
      simp only [List.getElem?_cons_zero, Option.some.injEq] at hy
      subst hy
      rw [Nat.add_zero] at hc0
      have l0 := below_cellk HB1.out hc0 hbl
      have hn1 : 1 ≤ n := by have := HN.out; rw [List.length_cons] at this; omega
      have hr5 : r.length ≤ 5 := by rw [List.length_cons] at hl6; omega
      have q1 : (((n : Nat) : Int) == 0) = false := by rw [beq_eq_false_iff_ne]; omega
      have hsx := HSZ.out x (by simp)
      have hh30 := hash_len hw30 u
      have HRR : Hid (∀ wx, Below w.heap.size w wx → Rw wx (some ⟨bl, ol + 1, none⟩) (strs r)) := Lib.hid fun wx hb => (HRL.out.below hb).drop 1
      clear hc0
      go_wp2_with fail
      obtain ⟨wb, hwb⟩ : ∃ z : World, z = w1.alloc (.cells #[.string x, .string { data := #[43] }] 9) := ⟨_, rfl⟩
      have HLB : Hid (LitAt wb w1.heap.size x) := Lib.hid (by rw [hwb]; exact heap_alloc_new w1 _)
      have HBB : Hid (Below w.heap.size w wb) := Lib.hid (by rw [hwb]; exact HB1.out.alloc HB1.out.size _)
      have HOB : Hid (wb.ownsRow w.heap.size 3 1 v0 (hashR t u).1.length (ints (hashR t u).1)) := Lib.hid (by rw [hwb]; exact HO.out.alloc _)
      rw [← hwb]
      clear hwb
      have HGB := Lib.hid (fun s => go_bound hw30 (show r.length ≤ 6 by simp at hl6; omega) (kidR t (u : Int) s))
      have HST := Lib.hid (fun j (hj : j < 2) => stepR_next (hashR t u) (fun s => goR (downR t r) (kidR t (u : Int) s)) x j hj)
      have HS0 : Hid (stepR (hashR t u) (goR (downR t r) (kidR t (u : Int) x)) (goR (downR t r) (kidR t (u : Int) any1)) 0 = ((hashR t u).1, (hashR t u).2 + 1)) := Lib.hid rfl
      have HS2 : Hid (stepR (hashR t u) (goR (downR t r) (kidR t (u : Int) x)) (goR (downR t r) (kidR t (u : Int) any1)) 2 = downR t (x :: r) u) := Lib.hid rfl
      have HSL : Hid (∀ j, j ≤ 2 → (stepR (hashR t u) (goR (downR t r) (kidR t (u : Int) x)) (goR (downR t r) (kidR t (u : Int) any1)) j).1.length ≤ 11550 ∧ (stepR (hashR t u) (goR (downR t r) (kidR t (u : Int) x)) (goR (downR t r) (kidR t (u : Int) any1)) j).2 ≤ 514) := Lib.hid fun j hj => by
        have h1 := HGB.out x
        have h2 := HGB.out any1
        obtain rfl | rfl | rfl : j = 0 ∨ j = 1 ∨ j = 2 := by omega
        · simp only [stepR]; omega
        · simp only [stepR, List.length_append]; omega
        · simp only [stepR, List.length_append]; omega
      try dsimp only at HST
      generalize hSR : stepR (hashR t u) (goR (downR t r) (kidR t (u : Int) x)) (goR (downR t r) (kidR t (u : Int) any1)) = SR at *
      clear hSR
      have hS01 : (SR 0).2 = (hashR t u).2 + 1 := by rw [HS0.out]
      have HOS : Hid (wb.ownsRow w.heap.size 3 1 v0 (SR 0).1.length (ints (SR 0).1)) := Lib.hid (by rw [HS0.out]; exact HOB.out)
      go_loopw [8, 9, 46] (fun nv ov jv wr => ∃ (j : Nat) (v : Value), j ≤ 2 ∧ jv = .int .i64 (j : Int) ∧ nv = .int .i64 (((SR j).2 : Nat) : Int) ∧ ov = v ∧ Hid (wr.ownsRow w.heap.size 3 1 v (SR j).1.length (ints (SR j).1)) ∧ Hid (LitAt wr w1.heap.size x) ∧ Hid (Below w.heap.size w wr)) (fun _ _ jv _ => 2 - (intOf jv).toNat)
      case atStart => exact ⟨0, v0, by omega, rfl, (by rw [hS01, hh2]; rfl), rfl, HOS, HLB, HBB⟩
      case round =>
        obtain ⟨j, v, hj2, rfl, rfl, rfl, HOJ, HLJ, HBJ⟩ := hrel
        by_cases hjl : j < 2
        case neg =>
          obtain rfl : j = 2 := by omega
          rw [HS2.out] at HOJ
          have e2 : ((SR 2).2 : Int) = ((downR t (x :: r) u).2 : Int) := by rw [HS2.out]
          go_wp2_with fail
          go_ret2
          exact ⟨_, by rw [← e2]; rfl, HOJ.out, HBJ.out⟩
        have hlc := lit_cell HLJ.out j hjl
        have HNX := Lib.hid (HST.out j hjl)
        have hsl := HSL.out j hj2
        have hsn := HSL.out (j + 1) (by omega)
        have hgb := HGB.out (levR x j)
        have HKJ := Lib.hid (HKM.out _ HBJ.out (levR x j) (levR_size hsx j))
        have hjc : j = 0 ∨ j = 1 := by omega
        generalize levR x j = s at *
        by_cases hk : 0 ≤ kidR t (u : Int) s
        case neg =>
          rw [go_no (f := downR t r) (show kidR t (u : Int) s < 0 by omega)] at HNX
          simp only [List.append_nil, Nat.add_zero] at HNX
          generalize kidR t (u : Int) s = kr at *
          go_wp2_with fail
          refine HKJ.out.mono ?_
          rintro e w3 ⟨rfl, hb3⟩
          have HOK := Lib.hid (own_later HOJ.out hb3); have HLK := Lib.hid (lit_later HLJ.out hb3); have HBK := Lib.hid (HBJ.out.trans (hb3.mono HBJ.out.size)); clear hb3
          go_wp2_with fail
          go_roundw
          case rel => exact ⟨j + 1, _, by omega, by go_num, by rw [HNX.out], rfl, by rw [HNX.out]; exact HOK, HLK, HBK⟩
          case measure => simp [intOf]; omega
        obtain ⟨k1, hk1⟩ := Int.eq_ofNat_of_zero_le hk
        have hkl := (kid_lt hk).1
        rw [go_yes (f := downR t r) hk] at HNX hgb
        rw [hk1] at HKJ HNX hgb hkl
        rw [Int.toNat_natCast] at HNX hgb hkl
        clear hk hk1
        go_wp2_with fail
        refine HKJ.out.mono ?_
        rintro e w3 ⟨rfl, hb3⟩
        have HOK := Lib.hid (own_later HOJ.out hb3); have HLK := Lib.hid (lit_later HLJ.out hb3); have HBK := Lib.hid (HBJ.out.trans (hb3.mono HBJ.out.size)); clear hb3
        have hrr : Rw w3 (some ⟨bl, ol + 1, none⟩) (strs r) := HRR.out _ HBK.out
        go_wp2_with fail
        refine (HIH.out k1 (n - 1) (some ⟨bl, ol + 1, none⟩) (lcap - 1) _ (Lib.hid (kTrieNodeS_ok.later H.out HBK.out)) (Lib.hid hrr) (Lib.hid (by have := HN.out; rw [List.length_cons] at this; omega)) (by omega) (by omega) (by omega) (Lib.hid fun z hz => HSZ.out z (by simp [hz])) (by omega)).mono ?_
        rintro e w5 ⟨v5, rfl, ho5, hb5⟩
        have HO5 := Lib.hid ho5; have HB5 := Lib.hid (HBK.out.trans (hb5.mono HBK.out.size)); have HOD := Lib.hid (own_later HOK.out hb5); have HL5 := Lib.hid (lit_later HLK.out hb5); clear ho5 hb5
        obtain ⟨q5, c5, rfl⟩ := form_of_own HO5.out
        have HR5 := Lib.hid (own_rw HO5.out)
        go_wp2_with (at_builtin; refine app_ints rfl _ _ rfl w.heap.size _ _ rfl HOD.out _ _ _ _ rfl rfl HR5.out (by omega) HB5.out.size ?_)
        intro v6 w6 ho6 hg6 hb6
        have HO6 := Lib.hid ho6; have HB6 := Lib.hid (HB5.out.trans hb6); have HL6 := Lib.hid (lit_grown HL5.out HOD.out hg6); clear ho6 hb6 hg6
        try rw [← List.length_append] at HO6
        go_wp2_with fail
        go_roundw
        case rel => exact ⟨j + 1, _, by omega, by go_num, by rw [HNX.out]; go_num, rfl, by rw [HNX.out]; exact HO6, HL6, HB6⟩
        case measure => simp [intOf]; omega
    have hh2 : (hashR t u).2 = 1 := by rw [hash_yes h0]
    have hhy : hashR t u = _ := hash_yes h0
    obtain ⟨k0, hk0⟩ := Int.eq_ofNat_of_zero_le h0
    have hkl := (kid_lt h0).1
    rw [hk0] at HK0 hkl hhy
    rw [Int.toNat_natCast] at hkl hhy
    have hk30 := nd_who hw30 k0
    clear h0 hk0
    go_enter Tryd.func52, Tryd.ntmps52
    go_wp2_with fail
    refine HK0.out.mono ?_
    rintro e w0 ⟨rfl, hb1⟩
    have HB0 := Lib.hid hb1; clear hb1
    obtain ⟨ah, ch, e1, hrh⟩ := who_row' (kTrieNodeS_ok.later H.out HB0.out) (Nat.le_refl _) hkl
    have HRH := Lib.hid hrh; clear hrh
    go_wp2_with (at_builtin; refine app_ints rfl _ _ rfl w.heap.size _ [] rfl (World.ownsRow_nil _ _ _ _) _ _ _ _ rfl rfl HRH.out (by simp; omega) HB0.out.size ?_)
    intro v0 w1 ho1 _ hb1
    have HO : Hid (w1.ownsRow w.heap.size 3 1 v0 (hashR t u).1.length (ints (hashR t u).1)) := Lib.hid (by rw [hhy]; simpa using ho1)
    have HB1 := Lib.hid (HB0.out.trans hb1); clear ho1 hb1 hhy e1
    obtain ⟨bl, ol, y, hy, rfl, hbl, hc0⟩ := strs_cell HRL.out (i := 0) (by simp)
    simp only [List.getElem?_cons_zero, Option.some.injEq] at hy
    subst hy
    rw [Nat.add_zero] at hc0
    have l0 := below_cellk HB1.out hc0 hbl
    have hn1 : 1 ≤ n := by have := HN.out; rw [List.length_cons] at this; omega
    have hr5 : r.length ≤ 5 := by rw [List.length_cons] at hl6; omega
    have q1 : (((n : Nat) : Int) == 0) = false := by rw [beq_eq_false_iff_ne]; omega
    have hsx := HSZ.out x (by simp)
    have hh30 := hash_len hw30 u
    have HRR : Hid (∀ wx, Below w.heap.size w wx → Rw wx (some ⟨bl, ol + 1, none⟩) (strs r)) := Lib.hid fun wx hb => (HRL.out.below hb).drop 1
    clear hc0
    go_wp2_with fail
    obtain ⟨wb, hwb⟩ : ∃ z : World, z = w1.alloc (.cells #[.string x, .string { data := #[43] }] 9) := ⟨_, rfl⟩
    have HLB : Hid (LitAt wb w1.heap.size x) := Lib.hid (by rw [hwb]; exact heap_alloc_new w1 _)
    have HBB : Hid (Below w.heap.size w wb) := Lib.hid (by rw [hwb]; exact HB1.out.alloc HB1.out.size _)
    have HOB : Hid (wb.ownsRow w.heap.size 3 1 v0 (hashR t u).1.length (ints (hashR t u).1)) := Lib.hid (by rw [hwb]; exact HO.out.alloc _)
    rw [← hwb]
    clear hwb
    have HGB := Lib.hid (fun s => go_bound hw30 (show r.length ≤ 6 by simp at hl6; omega) (kidR t (u : Int) s))
    have HST := Lib.hid (fun j (hj : j < 2) => stepR_next (hashR t u) (fun s => goR (downR t r) (kidR t (u : Int) s)) x j hj)
    have HS0 : Hid (stepR (hashR t u) (goR (downR t r) (kidR t (u : Int) x)) (goR (downR t r) (kidR t (u : Int) any1)) 0 = ((hashR t u).1, (hashR t u).2 + 1)) := Lib.hid rfl
    have HS2 : Hid (stepR (hashR t u) (goR (downR t r) (kidR t (u : Int) x)) (goR (downR t r) (kidR t (u : Int) any1)) 2 = downR t (x :: r) u) := Lib.hid rfl
    have HSL : Hid (∀ j, j ≤ 2 → (stepR (hashR t u) (goR (downR t r) (kidR t (u : Int) x)) (goR (downR t r) (kidR t (u : Int) any1)) j).1.length ≤ 11550 ∧ (stepR (hashR t u) (goR (downR t r) (kidR t (u : Int) x)) (goR (downR t r) (kidR t (u : Int) any1)) j).2 ≤ 514) := Lib.hid fun j hj => by
      have h1 := HGB.out x
      have h2 := HGB.out any1
      obtain rfl | rfl | rfl : j = 0 ∨ j = 1 ∨ j = 2 := by omega
      · simp only [stepR]; omega
      · simp only [stepR, List.length_append]; omega
      · simp only [stepR, List.length_append]; omega
    try dsimp only at HST
    generalize hSR : stepR (hashR t u) (goR (downR t r) (kidR t (u : Int) x)) (goR (downR t r) (kidR t (u : Int) any1)) = SR at *
    clear hSR
    have hS01 : (SR 0).2 = (hashR t u).2 + 1 := by rw [HS0.out]
    have HOS : Hid (wb.ownsRow w.heap.size 3 1 v0 (SR 0).1.length (ints (SR 0).1)) := Lib.hid (by rw [HS0.out]; exact HOB.out)
    go_loopw [8, 9, 46] (fun nv ov jv wr => ∃ (j : Nat) (v : Value), j ≤ 2 ∧ jv = .int .i64 (j : Int) ∧ nv = .int .i64 (((SR j).2 : Nat) : Int) ∧ ov = v ∧ Hid (wr.ownsRow w.heap.size 3 1 v (SR j).1.length (ints (SR j).1)) ∧ Hid (LitAt wr w1.heap.size x) ∧ Hid (Below w.heap.size w wr)) (fun _ _ jv _ => 2 - (intOf jv).toNat)
    case atStart => exact ⟨0, v0, by omega, rfl, (by rw [hS01, hh2]; rfl), rfl, HOS, HLB, HBB⟩
    case round =>
      obtain ⟨j, v, hj2, rfl, rfl, rfl, HOJ, HLJ, HBJ⟩ := hrel
      by_cases hjl : j < 2
      case neg =>
        obtain rfl : j = 2 := by omega
        rw [HS2.out] at HOJ
        have e2 : ((SR 2).2 : Int) = ((downR t (x :: r) u).2 : Int) := by rw [HS2.out]
        go_wp2_with fail
        go_ret2
        exact ⟨_, by rw [← e2]; rfl, HOJ.out, HBJ.out⟩
      have hlc := lit_cell HLJ.out j hjl
      have HNX := Lib.hid (HST.out j hjl)
      have hsl := HSL.out j hj2
      have hsn := HSL.out (j + 1) (by omega)
      have hgb := HGB.out (levR x j)
      have HKJ := Lib.hid (HKM.out _ HBJ.out (levR x j) (levR_size hsx j))
      have hjc : j = 0 ∨ j = 1 := by omega
      generalize levR x j = s at *
      by_cases hk : 0 ≤ kidR t (u : Int) s
      case neg =>
        rw [go_no (f := downR t r) (show kidR t (u : Int) s < 0 by omega)] at HNX
        simp only [List.append_nil, Nat.add_zero] at HNX
        generalize kidR t (u : Int) s = kr at *
        go_wp2_with fail
        refine HKJ.out.mono ?_
        rintro e w3 ⟨rfl, hb3⟩
        have HOK := Lib.hid (own_later HOJ.out hb3); have HLK := Lib.hid (lit_later HLJ.out hb3); have HBK := Lib.hid (HBJ.out.trans (hb3.mono HBJ.out.size)); clear hb3
        go_wp2_with fail
        go_roundw
        case rel => exact ⟨j + 1, _, by omega, by go_num, by rw [HNX.out], rfl, by rw [HNX.out]; exact HOK, HLK, HBK⟩
        case measure => simp [intOf]; omega
      obtain ⟨k1, hk1⟩ := Int.eq_ofNat_of_zero_le hk
      have hkl := (kid_lt hk).1
      rw [go_yes (f := downR t r) hk] at HNX hgb
      rw [hk1] at HKJ HNX hgb hkl
      rw [Int.toNat_natCast] at HNX hgb hkl
      clear hk hk1
      go_wp2_with fail
      refine HKJ.out.mono ?_
      rintro e w3 ⟨rfl, hb3⟩
      have HOK := Lib.hid (own_later HOJ.out hb3); have HLK := Lib.hid (lit_later HLJ.out hb3); have HBK := Lib.hid (HBJ.out.trans (hb3.mono HBJ.out.size)); clear hb3
      have hrr : Rw w3 (some ⟨bl, ol + 1, none⟩) (strs r) := HRR.out _ HBK.out
      go_wp2_with fail
      refine (HIH.out k1 (n - 1) (some ⟨bl, ol + 1, none⟩) (lcap - 1) _ (Lib.hid (kTrieNodeS_ok.later H.out HBK.out)) (Lib.hid hrr) (Lib.hid (by have := HN.out; rw [List.length_cons] at this; omega)) (by omega) (by omega) (by omega) (Lib.hid fun z hz => HSZ.out z (by simp [hz])) (by omega)).mono ?_
      rintro e w5 ⟨v5, rfl, ho5, hb5⟩
      have HO5 := Lib.hid ho5; have HB5 := Lib.hid (HBK.out.trans (hb5.mono HBK.out.size)); have HOD := Lib.hid (own_later HOK.out hb5); have HL5 := Lib.hid (lit_later HLK.out hb5); clear ho5 hb5
      obtain ⟨q5, c5, rfl⟩ := form_of_own HO5.out
      have HR5 := Lib.hid (own_rw HO5.out)
      go_wp2_with (at_builtin; refine app_ints rfl _ _ rfl w.heap.size _ _ rfl HOD.out _ _ _ _ rfl rfl HR5.out (by omega) HB5.out.size ?_)
      intro v6 w6 ho6 hg6 hb6
      have HO6 := Lib.hid ho6; have HB6 := Lib.hid (HB5.out.trans hb6); have HL6 := Lib.hid (lit_grown HL5.out HOD.out hg6); clear ho6 hb6 hg6
      try rw [← List.length_append] at HO6
      go_wp2_with fail
      go_roundw
      case rel => exact ⟨j + 1, _, by omega, by go_num, by rw [HNX.out]; go_num, rfl, by rw [HNX.out]; exact HO6, HL6, HB6⟩
      case measure => simp [intOf]; omega
end Go.Proofs.YteknmjebokimjaaDoor
