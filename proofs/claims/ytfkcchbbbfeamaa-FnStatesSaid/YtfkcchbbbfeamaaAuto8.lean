/- The contracts of BuildStates, the program's and the reference's. -/
import Derived.Test.YtfkcchbbbfeamaaAuto6
import Derived.Test.YtfkcchbbbfeamaaHStateS
namespace Go.Proofs.Ytfkcchbbbfeamaa
set_option linter.unusedVariables false
open Go.ChangeShapes Go.WideShapes Go.ChangeAt Go.RowKit
set_option maxRecDepth 100000

theorem BS_no {ws : List ByteArray} (h : wordsB ws = false) : R_BuildStates ws = ([], false) := if_neg (by rw [h]; decide)
theorem BS_yes {ws : List ByteArray} (h : wordsB ws = true) : R_BuildStates ws = ((textsR ws).map (stR ws), true) := if_pos h
set_option maxHeartbeats 1000000 in
theorem impl_BuildStates (w : World) (cs0 : List Value) (a0 : List ByteArray) (h0 : kStringS.rd w.heap.size w cs0 a0) (_ht : kStringS.wt a0 ≤ 1048576) :
    Calls Try.prog 33 #[one cs0] w (Made kStateS (fun cs => .tuple #[one cs, .bool (R_BuildStates a0).2]) (R_BuildStates a0).1 w) := by
  obtain ⟨a, cap, rfl, hrow, hc1, hc2, hsz⟩ := strS_row h0
  show Calls Try.prog 33 #[.slice a a0.length cap] w _
  have HW := Lib.hid (wordsOK_any a cap a0 w hrow (by omega) hsz)
  have HR := Lib.hid hrow
  clear h0 hrow hsz _ht
  unfold Made
  cases hb : wordsB a0 with
  | false =>
    rw [BS_no hb]
    rw [hb] at HW
    clear hb
    go_enter Try.func33, Try.ntmps33
    go_wp2_with fail
    refine HW.out.mono ?_
    rintro e w' ⟨rfl, rfl⟩
    go_wp2_with fail
    go_ret2
    exact ⟨[.slice none 0 0], [], rfl, ⟨_, [], [], rfl, World.ownsRow_nil _ _ _ _, trivial, rfl, List.nodup_nil⟩, List.nodup_nil, by simp, Below.refl _ _⟩
  | true =>
    rw [BS_yes hb]
    rw [hb] at HW
    have HT := Lib.hid (impl_build a cap a0 w HR.out hb)
    clear hb
    go_enter Try.func33, Try.ntmps33
    go_wp2_with fail
    refine HW.out.mono ?_
    rintro e w' ⟨rfl, rfl⟩
    go_wp2_with fail
    refine HT.out.mono ?_
    rintro e w1 ⟨A, M, sv, tv, vss, fps, rfl, hau, hbl⟩
    have HB := Lib.hid hbl; have HA := Lib.hid hau
    obtain ⟨sg, sc, tg, tc, rfl, rfl, c0, c1, c2, ct⟩ := au_read hau (by simp)
    clear hau hbl ct
    go_wp2_with fail
    go_ret2
    refine ⟨[.slice (some ⟨sg, 0, none⟩) (textsR a0).length sc], sg :: fps.flatten, rfl, ⟨_, vss, fps, rfl, own_mono HA.out.sts (Nat.zero_le _), HA.out.els, rfl, ?_⟩, ?_, ?_, HB.out⟩
    · exact List.nodup_cons.2 ⟨fun h => HA.out.fS h rfl, HA.out.nod⟩
    · exact List.nodup_cons.2 ⟨fun h => HA.out.fS h rfl, HA.out.nod⟩
    · intro b hb
      rcases List.mem_cons.1 hb with rfl | hb
      · exact (HA.out.sts.lt b rfl).1
      · exact HA.out.fpb b hb
/-! ### the reference's states under way -/
structure Sp (n0 : Nat) (wr : World) (v tv : Value) (lt : List ByteArray) (vss : List (List Value)) (fps : List (List Nat)) (xs : List St) : Prop where
  own : wr.ownsRow n0 64 4 v xs.length vss.flatten
  els : OwL kState wr fps vss xs
  nod : fps.flatten.Nodup
  fpb : ∀ b ∈ fps.flatten, n0 ≤ b
  txt : wr.ownsRow n0 9 1 tv lt.length (strs lt)
structure Sx (n0 : Nat) (wr : World) (X : Nat) (v tv wv : Value) (lt : List ByteArray) (vss : List (List Value)) (fps : List (List Nat)) (xs : List St) (x : St) : Prop where
  sp : Sp n0 wr v tv lt vss fps xs
  xx : wr.heap[X]? = some (.cells #[.int .i64 x.1, .int .u8 (x.2.1.toNat : Int), .int .i64 x.2.2.1, wv] 64)
  wrd : wr.ownsRow n0 3 1 wv x.2.2.2.length (ints x.2.2.2)
  vX : v.ownBlock ≠ some X
  wf : ∀ g, wv.ownBlock = some g → g ∉ fps.flatten
  lo : n0 ≤ X
section
variable {n0 : Nat} {wr wy : World} {X : Nat} {v tv wv : Value} {lt : List ByteArray} {vss : List (List Value)} {fps : List (List Nat)} {xs : List St} {x : St}
theorem Sp.ltf (h : Sp n0 wr v tv lt vss fps xs) {b : Nat} (hb : b ∈ fps.flatten) : b < wr.heap.size := h.els.lt kState_ok b hb
theorem Sp.wrote {S : Nat → Prop} (h : Sp n0 wr v tv lt vss fps xs) (hw : Wrote S wr wy) (h1 : ∀ g, v.ownBlock = some g → ¬ S g) (h2 : ∀ b ∈ fps.flatten, ¬ S b) (h3 : ∀ g, tv.ownBlock = some g → ¬ S g) : Sp n0 wy v tv lt vss fps xs :=
  ⟨hw.own h.own h1, h.els.frame kState_ok fun b hb => hw.block b (h.ltf hb) (h2 b hb), h.nod, h.fpb, hw.own h.txt h3⟩
theorem Sp.later (h : Sp n0 wr v tv lt vss fps xs) (hb : Below wr.heap.size wr wy) : Sp n0 wy v tv lt vss fps xs :=
  h.wrote (S := fun _ => False) ⟨hb.os, hb.tape, hb.output, hb.size, fun k hk _ => hb.block k hk⟩ (fun _ _ => id) (fun _ _ => id) (fun _ _ => id)
theorem Sx.ltX (h : Sx n0 wr X v tv wv lt vss fps xs x) : X < wr.heap.size := (Array.getElem?_eq_some_iff.1 h.xx).1
theorem Sx.later (h : Sx n0 wr X v tv wv lt vss fps xs x) (hb : Below wr.heap.size wr wy) : Sx n0 wy X v tv wv lt vss fps xs x :=
  ⟨h.sp.later hb, (hb.block X h.ltX).trans h.xx, own_later h.wrd hb, h.vX, h.wf, h.lo⟩
theorem Sx.cells (h : Sx n0 wr X v tv wv lt vss fps xs x) : wr.cell? ⟨X, 0, none⟩ = some (.int .i64 x.1) ∧ wr.cell? ⟨X, 1, none⟩ = some (.int .u8 (x.2.1.toNat : Int)) ∧ wr.cell? ⟨X, 2, none⟩ = some (.int .i64 x.2.2.1) ∧ wr.cell? ⟨X, 3, none⟩ = some wv ∧ ∀ i, wr.frozen? ⟨X, i, none⟩ = false := by
  have h1 := h.xx
  exact ⟨by simp [World.cell?, h1], by simp [World.cell?, h1], by simp [World.cell?, h1], by simp [World.cell?, h1], fun i => by simp [World.frozen?, h1]⟩
theorem Sx.tX (h : Sx n0 wr X v tv wv lt vss fps xs x) : tv.ownBlock ≠ some X := by
  intro e
  obtain ⟨cur, hc⟩ := own_at h.sp.txt e
  rw [h.xx] at hc; simp at hc
theorem Sx.wX (h : Sx n0 wr X v tv wv lt vss fps xs x) : wv.ownBlock ≠ some X := by
  intro e
  obtain ⟨cur, hc⟩ := own_at h.wrd e
  rw [h.xx] at hc; simp at hc
theorem Sx.fX (h : Sx n0 wr X v tv wv lt vss fps xs x) {b : Nat} (hb : b ∈ fps.flatten) : b ≠ X := by
  rintro rfl
  obtain ⟨cur, hc⟩ := fp_at h.sp.els b hb
  rw [h.xx] at hc; simp at hc
theorem Sx.wvn (h : Sx n0 wr X v tv wv lt vss fps xs x) {g : Nat} (hg : wv.ownBlock = some g) : v.ownBlock ≠ some g := by
  intro e
  obtain ⟨cur, hc⟩ := own_at h.wrd hg
  obtain ⟨cur2, hc2⟩ := own_at h.sp.own e
  rw [hc] at hc2; simp at hc2
theorem Sx.wt (h : Sx n0 wr X v tv wv lt vss fps xs x) {g : Nat} (hg : wv.ownBlock = some g) : tv.ownBlock ≠ some g := by
  intro e
  obtain ⟨cur, hc⟩ := own_at h.wrd hg
  obtain ⟨cur2, hc2⟩ := own_at h.sp.txt e
  rw [hc] at hc2; simp at hc2
theorem Sx.begin (h : Sp n0 wr v tv lt vss fps xs) (hn : n0 ≤ wr.heap.size) : Sx n0 (wr.alloc (.cells #[.int .i64 (-1), .int .u8 0, .int .i64 0, .slice none 0 0] 64)) wr.heap.size v tv (.slice none 0 0) lt vss fps xs (-1, 0, 0, []) :=
  ⟨h.later ((Below.refl _ _).alloc (Nat.le_refl _) _), heap_alloc_new wr _, World.ownsRow_nil _ _ _ _, fun e => by have := (h.own.lt _ e).2; omega, fun g hg => (by cases hg), hn⟩
theorem Sx.setX (h : Sx n0 wr X v tv wv lt vss fps xs x) (i : Nat) (u : Value) (x' : St) (hx : wr.setCell ⟨X, i, none⟩ u = wr.setCell ⟨X, i, none⟩ u → (wr.setCell ⟨X, i, none⟩ u).heap[X]? = some (.cells #[.int .i64 x'.1, .int .u8 (x'.2.1.toNat : Int), .int .i64 x'.2.2.1, wv] 64)) (he : x'.2.2.2 = x.2.2.2) : Sx n0 (wr.setCell ⟨X, i, none⟩ u) X v tv wv lt vss fps xs x' := by
  have hc : Wrote (fun k => k = X) wr (wr.setCell ⟨X, i, none⟩ u) := wrote_cell _ _ _ _
  refine ⟨h.sp.wrote hc (fun g hg e => h.vX (by rw [hg, e])) (fun b hb => h.fX hb) (fun g hg e => h.tX (by rw [hg, e])), hx rfl, ?_, h.vX, h.wf, h.lo⟩
  rw [he]
  exact hc.own h.wrd (fun g hg e => h.wX (by rw [hg, e]))
theorem Sx.putUp (h : Sx n0 wr X v tv wv lt vss fps xs x) (z : Int) : Sx n0 (wr.setCell ⟨X, 0, none⟩ (.int .i64 z)) X v tv wv lt vss fps xs (z, x.2.1, x.2.2.1, x.2.2.2) :=
  h.setX 0 _ _ (fun _ => by simp [World.setCell, Array.getElem?_modify, h.xx]) rfl
theorem Sx.putByte (h : Sx n0 wr X v tv wv lt vss fps xs x) (b : UInt8) : Sx n0 (wr.setCell ⟨X, 1, none⟩ (.int .u8 (b.toNat : Int))) X v tv wv lt vss fps xs (x.1, b, x.2.2.1, x.2.2.2) :=
  h.setX 1 _ _ (fun _ => by simp [World.setCell, Array.getElem?_modify, h.xx]) rfl
theorem Sx.putFail (h : Sx n0 wr X v tv wv lt vss fps xs x) (z : Int) : Sx n0 (wr.setCell ⟨X, 2, none⟩ (.int .i64 z)) X v tv wv lt vss fps xs (x.1, x.2.1, z, x.2.2.2) :=
  h.setX 2 _ _ (fun _ => by simp [World.setCell, Array.getElem?_modify, h.xx]) rfl
theorem Sx.mid (h : Sx n0 wr X v tv wv lt vss fps xs x) (hg : wr.grownBy wy wv.ownBlock) : wy.heap[X]? = some (.cells #[.int .i64 x.1, .int .u8 (x.2.1.toNat : Int), .int .i64 x.2.2.1, wv] 64) :=
  (hg.block X h.ltX (fun e => h.wX e.symm)).trans h.xx
theorem Sx.putWord {a c : Nat} {z : Int} (h : Sx n0 wr X v tv wv lt vss fps xs x) (hg : wr.grownBy wy wv.ownBlock) (ho : wy.ownsRow n0 3 1 (.slice (some ⟨a, 0, none⟩) (x.2.2.2.length + 1) c) (x.2.2.2.length + 1) (ints (x.2.2.2 ++ [z]))) (ha : wv.ownBlock = some a ∨ a = wr.heap.size) :
    Sx n0 (wy.setCell ⟨X, 3, none⟩ (.slice (some ⟨a, 0, none⟩) (x.2.2.2.length + 1) c)) X v tv (.slice (some ⟨a, 0, none⟩) (x.2.2.2.length + 1) c) lt vss fps xs (x.1, x.2.1, x.2.2.1, x.2.2.2 ++ [z]) := by
  have hw := Wrote.of_grown hg
  have hX := h.mid hg
  have h1 := h.sp.wrote hw (fun g hg e => h.wvn e hg) (fun b hb e => h.wf b e hb) (fun g hg e => h.wt e hg)
  have hc : Wrote (fun k => k = X) wy (wy.setCell ⟨X, 3, none⟩ (.slice (some ⟨a, 0, none⟩) (x.2.2.2.length + 1) c)) := wrote_cell _ _ _ _
  have aX : a ≠ X := by
    rintro rfl
    obtain ⟨cur, hcc⟩ := own_at ho rfl
    rw [hX] at hcc; simp at hcc
  refine ⟨h1.wrote hc (fun g hg e => h.vX (by rw [hg, e])) (fun b hb => h.fX hb) (fun g hg e => h.tX (by rw [hg, e])), by simp [World.setCell, Array.getElem?_modify, hX], ?_, h.vX, ?_, h.lo⟩
  · rw [List.length_append]
    exact hc.own ho (fun g hg e => by simp only [Value.ownBlock, Option.some.injEq] at hg; exact aX (hg.trans e))
  · intro g hg hm
    simp only [Value.ownBlock, Option.some.injEq] at hg
    subst hg
    rcases ha with e | e
    · exact h.wf _ e hm
    · have := h.sp.ltf hm; omega
/-- the state is put behind the others -/
theorem Sx.done {v' : Value} {q : Option Addr} {m c : Nat} (h : Sx n0 wr X v tv wv lt vss fps xs x) (hwv : wv = .slice q m c) (hm : m = x.2.2.2.length) (hg : wr.grownBy wy v.ownBlock) (ho : wy.ownsRow n0 64 4 v' (xs.length + 1) (vss.flatten ++ [.int .i64 x.1, .int .u8 (x.2.1.toNat : Int), .int .i64 x.2.2.1, wv])) (w1 : (Lit.int .i64 x.1).wf = true) (w2 : (Lit.int .i64 x.2.2.1).wf = true) (w3 : ∀ y ∈ x.2.2.2, (Lit.int .i64 y).wf = true) :
    Sp n0 wy v' tv lt (vss ++ [[.int .i64 x.1, .int .u8 (x.2.1.toNat : Int), .int .i64 x.2.2.1, wv]]) (fps ++ [wv.ownBlock.toList]) (xs ++ [x]) := by
  have hw := Wrote.of_grown hg
  have fv : ∀ b ∈ fps.flatten, v.ownBlock ≠ some b := fun b hb e => by
    obtain ⟨cur, hc⟩ := fp_at h.sp.els b hb
    obtain ⟨cur2, hc2⟩ := own_at h.sp.own e
    rw [hc] at hc2; simp at hc2
  have tvn : ∀ g, tv.ownBlock = some g → v.ownBlock ≠ some g := fun g ht e => by
    obtain ⟨cur, hc⟩ := own_at h.sp.txt ht
    obtain ⟨cur2, hc2⟩ := own_at h.sp.own e
    rw [hc] at hc2; simp at hc2
  have k1 : wy.ownsRow n0 3 1 wv x.2.2.2.length (ints x.2.2.2) := hw.own h.wrd (fun g hg e => h.wvn hg e)
  refine ⟨?_, (h.sp.els.frame kState_ok fun b hb => hw.block b (h.sp.ltf hb) (fv b hb)).snoc ?_, ?_, ?_, hw.own h.sp.txt tvn⟩
  · rw [List.length_append, List.flatten_append]; simpa using ho
  · subst hwv; subst hm
    exact State_owm (x := x) w1 w2 (ints_mk k1 w3)
  · rw [List.flatten_append, List.nodup_append]
    refine ⟨h.sp.nod, ?_, ?_⟩
    · cases wv.ownBlock <;> simp
    · intro a ha b hb e
      subst e
      simp at hb
      exact h.wf _ hb ha
  · intro b hb
    rw [List.flatten_append] at hb
    rcases List.mem_append.1 hb with hb | hb
    · exact h.sp.fpb b hb
    · simp at hb
      exact (h.wrd.lt b hb).1
end
theorem ends_wf {ws : List ByteArray} {t : ByteArray} {n : Nat} (hn : n ≤ 1000) : ∀ y ∈ endsL ws t n, (Lit.int .i64 y).wf = true := by
  intro y hy
  obtain ⟨j, rfl, hj, _⟩ := ends_mem hy
  exact WalkArith.wf_i64 (by omega)
theorem up_wf {ws : List ByteArray} {t : ByteArray} (h : (textsR ws).length ≤ 161) : (Lit.int .i64 (upR ws t)).wf = true := by
  unfold upR
  split
  · decide
  · have := at_bd (l := textsR ws) (t.extract 0 (t.size - 1))
    exact WalkArith.wf_i64 (by omega)
theorem fail_wf {ws : List ByteArray} {t : ByteArray} (h : (textsR ws).length ≤ 161) : (Lit.int .i64 (failR ws t)).wf = true := by
  unfold failR
  split
  · decide
  · have := at_bd (l := textsR ws) (longR ws (t.extract 1 t.size))
    exact WalkArith.wf_i64 (by omega)
theorem states_next {ws : List ByteArray} {k : Nat} (h : k < (textsR ws).length) : ((textsR ws).take (k + 1)).map (stR ws) = ((textsR ws).take k).map (stR ws) ++ [stR ws (tx ws k)] := by
  rw [List.take_succ_eq_append_getElem h, List.map_append]
  congr 2
  unfold tx; rw [List.getD, List.getElem?_eq_getElem h]; rfl
theorem R_BuildStates_ok (ws : List ByteArray) (_h : kStringS.wt ws ≤ 1048576) : kStateS.cnt (R_BuildStates ws).1 ≤ 16777215 := by
  cases hb : wordsB ws with
  | false => rw [BS_no hb]; decide
  | true =>
    rw [BS_yes hb]
    have h1 := texts_len hb
    have h2 := (wordsB_of hb).1
    have key : ∀ l : List ByteArray, sumL kState.cnt (l.map (stR ws)) ≤ 11 * l.length := by
      intro l
      induction l with
      | nil => simp [sumL]
      | cons t l ih =>
        rw [List.map_cons, sumL, List.length_cons]
        have hc : kState.cnt (stR ws t) = 1 + (1 + (1 + kIntS.cnt (endsL ws t ws.length))) := rfl
        have hi : ∀ ys : List Int, kIntS.cnt ys = ys.length := by
          intro ys
          show sumL kInt.cnt ys = _
          induction ys with
          | nil => rfl
          | cons y r ih => rw [sumL, ih, List.length_cons]; show 1 + _ = _; omega
        rw [hc, hi]
        have := ends_len (ws := ws) (t := t) (n := ws.length)
        omega
    show sumL kState.cnt ((textsR ws).map (stR ws)) ≤ _
    have := key (textsR ws)
    omega
end Go.Proofs.Ytfkcchbbbfeamaa
