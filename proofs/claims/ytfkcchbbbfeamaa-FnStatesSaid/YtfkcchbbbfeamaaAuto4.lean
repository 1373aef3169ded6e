/- Plain laws and steps for the program's automaton under way. -/
import Derived.Test.YtfkcchbbbfeamaaAuto3
import Derived.Laws.OwnMore
import Derived.Deep.AppendLies
namespace Go.Proofs.Ytfkcchbbbfeamaa
set_option linter.unusedVariables false
open Go.ChangeShapes Go.WideShapes Go.ChangeAt Go.RowKit
open Go.WideMaps (keyOf_string_mk)
set_option maxRecDepth 100000

/-- what the states are while the texts come -/
def Inv (acc : List ByteArray) (xs : List St) : Prop :=
  xs.length = acc.length ∧ ∀ (j : Nat) (t : ByteArray), acc[j]? = some t → ∃ u : Int, xs[j]? = some (u, byteR t, 0, []) ∧ (t.size = 0 → u = -1) ∧ (0 < t.size → ∃ q : Nat, u = q ∧ acc[q]? = some (t.extract 0 (t.size - 1)))
theorem inv_start : Inv [ByteArray.empty] [(-1, 0, 0, [])] := by
  refine ⟨rfl, fun j t h => ?_⟩
  cases j with
  | zero =>
    simp at h; subst h
    exact ⟨-1, by simp [byteR], fun _ => rfl, fun h => by simp at h⟩
  | succ j => simp at h
theorem inv_snoc {acc : List ByteArray} {xs : List St} (h : Inv acc xs) {x : ByteArray} {q : Nat} (hx : 0 < x.size) (hq : acc[q]? = some (x.extract 0 (x.size - 1))) : Inv (acc ++ [x]) (xs ++ [((q : Int), byteR x, 0, [])]) := by
  obtain ⟨h1, h2⟩ := h
  refine ⟨by simp [h1], fun j t ht => ?_⟩
  have hlift : ∀ {q : Nat} {s : ByteArray}, acc[q]? = some s → (acc ++ [x])[q]? = some s := fun hs => by rw [List.getElem?_append_left (List.getElem?_eq_some_iff.1 hs).1]; exact hs
  rcases Nat.lt_or_ge j acc.length with hj | hj
  · rw [List.getElem?_append_left hj] at ht
    obtain ⟨u, h3, h4, h5⟩ := h2 j t ht
    refine ⟨u, by rw [List.getElem?_append_left (by omega)]; exact h3, h4, fun hp => ?_⟩
    obtain ⟨q', h6, h7⟩ := h5 hp
    exact ⟨q', h6, hlift h7⟩
  · rw [List.getElem?_append_right hj] at ht
    have hj0 : j - acc.length = 0 := by
      have := (List.getElem?_eq_some_iff.1 ht).1
      simp at this; omega
    rw [hj0] at ht
    simp at ht; subst ht
    refine ⟨q, by rw [List.getElem?_append_right (by omega), show j - xs.length = 0 by omega]; rfl, fun h => by omega, fun _ => ⟨q, rfl, hlift hq⟩⟩
def st1 (ws : List ByteArray) (t : ByteArray) : St := (upR ws t, byteR t, 0, [])
theorem inv_full {ws : List ByteArray} {xs : List St} (h : Inv (textsR ws) xs) : xs = (textsR ws).map (st1 ws) := by
  obtain ⟨h1, h2⟩ := h
  apply List.ext_getElem?
  intro j
  rw [List.getElem?_map]
  cases hj : (textsR ws)[j]? with
  | none =>
    rw [List.getElem?_eq_none_iff] at hj
    rw [List.getElem?_eq_none_iff.2 (by omega)]; rfl
  | some t =>
    obtain ⟨u, h3, h4, h5⟩ := h2 j t hj
    rw [h3]
    show some _ = some (st1 ws t)
    congr 1
    unfold st1 upR
    congr 1
    by_cases hz : t.size = 0
    · rw [if_pos hz, h4 hz]
    · rw [if_neg hz]
      obtain ⟨q, h6, h7⟩ := h5 (by omega)
      rw [h6, at_is (texts_nodup ws) h7]
/-! ### the states while the falls and words come -/
def L2 (ws : List ByteArray) (k : Nat) : List St := ((textsR ws).take k).map (stR ws) ++ ((textsR ws).drop k).map (st1 ws)
theorem L2_zero (ws : List ByteArray) : L2 ws 0 = (textsR ws).map (st1 ws) := by simp [L2]
theorem L2_full (ws : List ByteArray) : L2 ws (textsR ws).length = (textsR ws).map (stR ws) := by simp [L2]
theorem L2_len (ws : List ByteArray) (k : Nat) : (L2 ws k).length = (textsR ws).length := by simp [L2]; omega
theorem L2_at {ws : List ByteArray} {k : Nat} (h : k < (textsR ws).length) : (L2 ws k)[k]? = some (st1 ws (tx ws k)) := by
  unfold L2
  rw [List.getElem?_append_right (by simp; omega), List.length_map, List.length_take, Nat.min_eq_left (by omega), Nat.sub_self, List.getElem?_map, List.getElem?_drop, Nat.add_zero, tx_at h]; rfl
theorem L2_next {ws : List ByteArray} {k : Nat} (h : k < (textsR ws).length) : (L2 ws k).set k (stR ws (tx ws k)) = L2 ws (k + 1) := by
  unfold L2
  have hd : (textsR ws).drop k = tx ws k :: (textsR ws).drop (k + 1) := by
    rw [List.drop_eq_getElem_cons h]
    congr 1
    unfold tx; rw [List.getD, List.getElem?_eq_getElem h]; rfl
  have ht : (textsR ws).take (k + 1) = (textsR ws).take k ++ [tx ws k] := by
    rw [List.take_succ_eq_append_getElem h]
    congr 2
    unfold tx; rw [List.getD, List.getElem?_eq_getElem h]; rfl
  rw [List.set_append_right _ _ (by simp; omega), List.length_map, List.length_take, Nat.min_eq_left (by omega), Nat.sub_self, hd, ht, List.map_cons, List.set_cons_zero, List.map_append, List.append_assoc]
  rfl
theorem ends_next {ws : List ByteArray} {t : ByteArray} {n : Nat} : endsL ws t (n + 1) = endsL ws t n ++ (if endsB t (ws.getD n ByteArray.empty) = true then [(n : Int)] else []) := by
  unfold endsL
  rw [List.range_succ, List.filter_append, List.map_append]
  congr 1
  cases he : endsB t (ws.getD n ByteArray.empty) with
  | true => simp only [List.filter, he, if_true]; rfl
  | false => simp only [List.filter, he]; rfl
theorem ends_len {ws : List ByteArray} {t : ByteArray} {n : Nat} : (endsL ws t n).length ≤ n := by
  unfold endsL
  rw [List.length_map]
  have := List.length_filter_le (fun k => endsB t (ws.getD k ByteArray.empty)) (List.range n)
  rw [List.length_range] at this; exact this
theorem byte_of {s : ByteArray} {m : Nat} (h : m < s.size) : byteR (s.extract 0 (m + 1)) = atS s m := by
  unfold byteR
  rw [if_neg (by rw [ex_size _ _ _ (by omega)]; omega), ex_size _ _ _ (by omega)]
  unfold atS
  have e : (s.extract 0 (m + 1)).data.toList = s.data.toList.take (m + 1) := bL_pre s (m + 1)
  rw [e, show m + 1 - 0 - 1 = m by omega, List.getD, List.getD, List.getElem?_take, if_pos (by omega)]
theorem pre_of {s : ByteArray} {m : Nat} (h : m < s.size) : (s.extract 0 (m + 1)).extract 0 ((s.extract 0 (m + 1)).size - 1) = s.extract 0 m := by
  rw [ex_size _ _ _ (by omega)]
  apply bL_ext
  rw [bL_pre, bL_pre, bL_pre, List.take_take]
  congr 1; omega
/-! ### steps -/
theorem step_maps_put {w : World} {ops : Array Oper} {o : Oper} {a : Act} {K : Act → World → Prop} {Q : Exit → Act → World → Prop} {E : Prop} (hgd : o.guard = none) (m x v : Operand) (hop : o.op = Op.mapUpdate 82 m x v)
    (b : Nat) (l : List ByteArray) (hm : a.eval m = .map (some b)) (h : MapS w b l) (s : ByteArray) (hs : s ∉ l) (hz : s.size ≤ maxLen) (hl : l.length < 1000000) (hx : a.eval x = .string s) (hv : a.eval v = .int .i64 (l.length : Int))
    (hK : ∀ w', MapS w' b (l ++ [s]) → w.grownBy w' (some b) → K (a.put o.dst undef) w') : if Region.wanted o (yielded ops a.tmps) = true then Oper.wp Try.prog o a w K Q else E := by
  have hw : Region.wanted o (yielded ops a.tmps) = true := by simp [Region.wanted, hgd]
  rw [if_pos hw]
  obtain ⟨D, h1, h2, h3⟩ := h
  have hnn : (l ++ [s]).Nodup := by
    rw [List.nodup_append]
    exact ⟨h2, by simp, fun c hc d hd e => hs (by rw [List.mem_singleton.1 hd] at e; exact e ▸ hc)⟩
  obtain ⟨w', hrun, r1, r2⟩ := h1.update key_str Try.underlying82 (by unfold maxLen; omega) (key := .string s) (val := .int .i64 (l.length : Int)) (keyOf_string_mk Try.underlying9 hz) (plainElem_int Try.underlying3 (WalkArith.wf_i64 (by omega)))
  unfold Oper.wp
  simp [execOp, hop, hm, hx, hv, hrun, Result.andThen]
  refine hK w' ⟨_, by rw [List.length_append]; exact r1, hnn, fun t => ?_⟩ r2
  by_cases ht : t = s
  · subst ht
    refine ⟨by rw [Maps.has_put_same h1.isMap (by trivial), inT_snoc]; simp, fun _ => ?_⟩
    rw [Maps.atKey_put_same h1.isMap (by trivial), at_last hnn]
  · have hk : keyS t ≠ keyS s := fun e => ht (keyS_inj e)
    obtain ⟨h6, h7⟩ := h3 t
    refine ⟨by rw [Maps.has_put_other hk, h6, inT_snoc, decide_eq_false (fun e => ht e.symm), Bool.or_false], fun hm => ?_⟩
    have hm2 : t ∈ l := by
      rcases List.mem_append.1 hm with h | h
      · exact h
      · exact absurd (List.mem_singleton.1 h) ht
    rw [Maps.atKey_put_other hk, h7 hm2, at_snoc hnn hm2]
/-- a look-up as an equation -/
theorem maps_look {w : World} {b : Nat} {l : List ByteArray} (h : MapS w b l) {s : ByteArray} (hs : s ∈ l) (hz : s.size ≤ maxLen) : (Instr.lookup 82 (.map (some b)) (.string s) false).run Try.prog w = .ok (.int .i64 (atR l s)) w := by
  obtain ⟨D, h1, h2, h3⟩ := h
  obtain ⟨c, hrun, hat, _⟩ := h1.lookup_int key_str Try.underlying82 Try.underlying3 (zero_int w) (key := .string s) (kl := keyS s) (keyOf_string_mk Try.underlying9 hz)
  rw [(h3 s).2 hs] at hat
  have : c = atR l s := by injection hat with e; injection e with e1 e2; exact e2.symm
  rw [hrun, this]
theorem MapS.nodup {w : World} {b : Nat} {l : List ByteArray} (h : MapS w b l) : l.Nodup := by obtain ⟨_, _, h, _⟩ := h; exact h
theorem maps_look_at {w : World} {b q : Nat} {l : List ByteArray} (h : MapS w b l) {s : ByteArray} (hs : l[q]? = some s) (hz : s.size ≤ maxLen) : (Instr.lookup 82 (.map (some b)) (.string s) false).run Try.prog w = .ok (.int .i64 (q : Int)) w := by
  have := maps_look h (List.mem_of_getElem? hs) hz
  rw [at_is h.nodup hs] at this
  exact this
theorem Try.infoState : (Try.prog.info? 64).map (fun i => (i.zero, i.size, i.bytes)) = some (some (Value.agg #[Value.int .i64 0, Value.int .u8 0, Value.int .i64 0, Value.slice none 0 0]), 4, 48) := by kernel_rfl
theorem Try.infoIntE : (Try.prog.info? 3).map (fun i => (i.zero, i.size, i.bytes)) = some (some (.int .i64 0), 1, 8) := by kernel_rfl
theorem state_new (u : Int) (b : UInt8) (hu : (Lit.int .i64 u).wf = true) (w : World) : kState.ow [] w [.int .i64 u, .int .u8 (b.toNat : Int), .int .i64 0, .slice none 0 0] (u, b, 0, []) :=
  State_owm (x := (u, b, 0, [])) hu (show (Lit.int .i64 0).wf = true by decide) (ints_mk (ys := []) (base := 0) (World.ownsRow_nil _ _ _ _) (by simp))
/-- the automaton as it is laid -/
theorem au_start (w wm w4 : World) (hwm : wm = ((w.alloc (.cells #[.int .i64 (-1), .int .u8 0, .int .i64 0, .slice none 0 0] 64)).alloc (.cells #[.string { data := #[] }] 9)).alloc (.map #[] 0)) (hg : wm.grownBy w4 (some (w.heap.size + 1 + 1))) (hm : MapS w4 (w.heap.size + 1 + 1) [ByteArray.empty]) :
    Au w.heap.size (w4.alloc (.cells #[.slice (some ⟨w.heap.size, 0, none⟩) 1 1, .slice (some ⟨w.heap.size + 1, 0, none⟩) 1 1, .map (some (w.heap.size + 1 + 1))] 84)) w4.heap.size (w.heap.size + 1 + 1) (.slice (some ⟨w.heap.size, 0, none⟩) 1 1) (.slice (some ⟨w.heap.size + 1, 0, none⟩) 1 1) [ByteArray.empty] [ByteArray.empty]
      [[.int .i64 (-1), .int .u8 0, .int .i64 0, .slice none 0 0]] [[]] [(-1, 0, 0, [])] ∧
    Below w.heap.size w (w4.alloc (.cells #[.slice (some ⟨w.heap.size, 0, none⟩) 1 1, .slice (some ⟨w.heap.size + 1, 0, none⟩) 1 1, .map (some (w.heap.size + 1 + 1))] 84)) := by
  have e1 : (w.alloc (.cells #[.int .i64 (-1), .int .u8 0, .int .i64 0, .slice none 0 0] 64)).heap.size = w.heap.size + 1 := by simp
  have hz : wm.heap.size = w.heap.size + 3 := by rw [hwm]; simp
  have b1 := (Below.refl w.heap.size w).alloc (Nat.le_refl _) (.cells #[.int .i64 (-1), .int .u8 0, .int .i64 0, .slice none 0 0] 64)
  have b2 := (b1.alloc (by rw [e1]; omega) (.cells #[.string { data := #[] }] 9)).alloc (by simp; omega) (.map #[] 0)
  rw [← hwm] at b2
  have b3 : Below w.heap.size w w4 := Below.grown b2 hg (by omega) (fun j hj => by simp only [Option.some.injEq] at hj; omega)
  have b4 := b3.alloc b3.size (.cells #[.slice (some ⟨w.heap.size, 0, none⟩) 1 1, .slice (some ⟨w.heap.size + 1, 0, none⟩) 1 1, .map (some (w.heap.size + 1 + 1))] 84)
  have k0 : wm.heap[w.heap.size]? = some (.cells #[.int .i64 (-1), .int .u8 0, .int .i64 0, .slice none 0 0] 64 (0, 0)) := by
    rw [hwm]
    have f1 := ((Below.refl (w.heap.size + 1) (w.alloc (.cells #[.int .i64 (-1), .int .u8 0, .int .i64 0, .slice none 0 0] 64))).alloc (by rw [e1]; exact Nat.le_refl _) (.cells #[.string { data := #[] }] 9)).alloc (by simp) (.map #[] 0)
    exact (f1.block w.heap.size (by omega)).trans (heap_alloc_new w _)
  have k1 : wm.heap[w.heap.size + 1]? = some (.cells #[.string { data := #[] }] 9 (0, 0)) := by
    rw [hwm]
    have f1 := (Below.refl (w.heap.size + 2) ((w.alloc (.cells #[.int .i64 (-1), .int .u8 0, .int .i64 0, .slice none 0 0] 64)).alloc (.cells #[.string { data := #[] }] 9))).alloc (by simp) (.map #[] 0)
    have f2 := heap_alloc_new (w.alloc (.cells #[.int .i64 (-1), .int .u8 0, .int .i64 0, .slice none 0 0] 64)) (.cells #[.string { data := #[] }] 9)
    rw [e1] at f2
    exact (f1.block (w.heap.size + 1) (by omega)).trans f2
  have j0 := (hg.block w.heap.size (by omega) (by simp; omega)).trans k0
  have j1 := (hg.block (w.heap.size + 1) (by omega) (by first | (simp; done) | (simp; omega))).trans k1
  have hz4 : w.heap.size + 3 ≤ w4.heap.size := by have := hg.size; omega
  have hb : Below w4.heap.size w4 (w4.alloc (.cells #[.slice (some ⟨w.heap.size, 0, none⟩) 1 1, .slice (some ⟨w.heap.size + 1, 0, none⟩) 1 1, .map (some (w.heap.size + 1 + 1))] 84)) := (Below.refl _ _).alloc (Nat.le_refl _) _
  refine ⟨⟨heap_alloc_new w4 _, ?_, ⟨state_new (-1) 0 (by decide) _, trivial⟩, by simp, by simp, ?_, hm.wrote (S := fun _ => False) ⟨hb.os, hb.tape, hb.output, hb.size, fun k hk _ => hb.block k hk⟩ id, by omega, by omega⟩, b4⟩
  · refine ⟨rfl, .inr ⟨w.heap.size, 1, _, rfl, Nat.le_refl _, (hb.block w.heap.size (by omega)).trans j0, Nat.le_refl _, by decide, rfl, rfl⟩⟩
  · refine ⟨rfl, .inr ⟨w.heap.size + 1, 1, _, rfl, by omega, (hb.block (w.heap.size + 1) (by omega)).trans j1, Nat.le_refl _, by decide, rfl, rfl⟩⟩
section
variable {n0 : Nat} {wr wy : World} {A M : Nat} {sv tv : Value} {lm lt : List ByteArray} {vss : List (List Value)} {fps : List (List Nat)} {xs : List St}
theorem Au.midS (h : Au n0 wr A M sv tv lm lt vss fps xs) (hg : wr.grownBy wy sv.ownBlock) : wy.cell? ⟨A, 0, none⟩ = some sv ∧ wy.frozen? ⟨A, 0, none⟩ = false := by
  have kA := (hg.block A h.ltA (fun e => h.sA e.symm)).trans h.aut
  exact ⟨by simp [World.cell?, kA], by simp [World.frozen?, kA]⟩
theorem Au.midT (h : Au n0 wr A M sv tv lm lt vss fps xs) (hg : wr.grownBy wy tv.ownBlock) : wy.cell? ⟨A, 1, none⟩ = some tv ∧ wy.frozen? ⟨A, 1, none⟩ = false := by
  have kA := (hg.block A h.ltA (fun e => h.tA e.symm)).trans h.aut
  exact ⟨by simp [World.cell?, kA], by simp [World.frozen?, kA]⟩
theorem Au.alloc (h : Au n0 wr A M sv tv lm lt vss fps xs) (o : Obj) : Au n0 (wr.alloc o) A M sv tv lm lt vss fps xs := h.later ((Below.refl _ _).alloc (Nat.le_refl _) o)
end
theorem below_put {n0 : Nat} {w wr wy : World} {v : Value} {A i : Nat} {u : Value} (h : Below n0 w wr) (hg : wr.grownBy wy v.ownBlock) (hn : n0 ≤ wr.heap.size) (hv : ∀ g, v.ownBlock = some g → n0 ≤ g) (hA : n0 ≤ A) : Below n0 w (wy.setCell ⟨A, i, none⟩ u) :=
  (Below.grown h hg hn hv).setCell (p := ⟨A, i, none⟩) hA u
theorem empty_in {ws acc : List ByteArray} {k : Nat} (h : (ws.take k).foldl wordT [ByteArray.empty] = acc) : ByteArray.empty ∈ acc := by
  rw [← h, mem_fold_words]; exact .inl (by simp)
def L3 (ws : List ByteArray) (k n : Nat) : List St := (L2 ws k).set k (upR ws (tx ws k), byteR (tx ws k), failR ws (tx ws k), endsL ws (tx ws k) n)
theorem L3_len (ws : List ByteArray) (k n : Nat) : (L3 ws k n).length = (textsR ws).length := by unfold L3; rw [List.length_set, L2_len]
theorem L3_full {ws : List ByteArray} {k : Nat} (h : k < (textsR ws).length) : L3 ws k ws.length = L2 ws (k + 1) := by rw [← L2_next h]; rfl
theorem L3_at {ws : List ByteArray} {k n : Nat} (h : k < (textsR ws).length) : (L3 ws k n)[k]? = some (upR ws (tx ws k), byteR (tx ws k), failR ws (tx ws k), endsL ws (tx ws k) n) := by
  unfold L3; rw [List.getElem?_set_self (by rw [L2_len]; exact h)]
theorem L3_next {ws : List ByteArray} {k n : Nat} (e : List Int) (h : endsL ws (tx ws k) (n + 1) = e) : (L3 ws k n).set k (upR ws (tx ws k), byteR (tx ws k), failR ws (tx ws k), e) = L3 ws k (n + 1) := by
  unfold L3; rw [List.set_set, h]
theorem L3_same {ws : List ByteArray} {k n : Nat} (h : endsL ws (tx ws k) (n + 1) = endsL ws (tx ws k) n) : L3 ws k (n + 1) = L3 ws k n := by unfold L3; rw [h]
theorem L3_zero {ws : List ByteArray} {k : Nat} : (L2 ws k).set k ((st1 ws (tx ws k)).1, (st1 ws (tx ws k)).2.1, failR ws (tx ws k), (st1 ws (tx ws k)).2.2.2) = L3 ws k 0 := rfl
theorem L3_first (ws : List ByteArray) : L3 ws 0 0 = L2 ws 0 := by
  have h := L2_at (texts_pos ws)
  obtain ⟨hk, hg⟩ := List.getElem?_eq_some_iff.1 h
  have hf : failR ws (tx ws 0) = 0 := by unfold failR; rw [tx_zero]; rfl
  unfold L3
  rw [hf]
  have he : endsL ws (tx ws 0) 0 = [] := rfl
  rw [he]
  have e2 : (upR ws (tx ws 0), byteR (tx ws 0), (0 : Int), ([] : List Int)) = (L2 ws 0)[0] := hg.symm
  rw [e2]
  exact List.set_getElem_self hk
theorem fail_eq {ws : List ByteArray} {k : Nat} (hk : k < (textsR ws).length) (h : 0 < k) : failR ws (tx ws k) = atR (textsR ws) (longR ws ((tx ws k).extract 1 (tx ws k).size)) := by
  have := (tx_pos hk).1 h
  unfold failR; rw [if_neg (by omega)]
theorem own_up {w : World} {base : Nat} {e : TypeId} {size n : Nat} {v : Value} {xs : List Value} (h : w.ownsRow 0 e size v n xs) (hb : ∀ g, v.ownBlock = some g → base ≤ g) : w.ownsRow base e size v n xs := by
  refine ⟨h.1, ?_⟩
  rcases h.2 with h0 | ⟨g, cap, cur, rfl, _, r⟩
  · exact .inl h0
  · exact .inr ⟨g, cap, cur, rfl, hb g rfl, r⟩
end Go.Proofs.Ytfkcchbbbfeamaa
