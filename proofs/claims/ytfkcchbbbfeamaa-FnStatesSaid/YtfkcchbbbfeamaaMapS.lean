/- Maps from texts to their places in a list: one word for what such a map holds, and the laws of a look-up and of a store. -/
import Derived.Test.YtfkcchbbbfeamaaAutoL
import Derived.Maps.OwnOps
import Derived.Maps.OwnSet
namespace Go.Proofs.Ytfkcchbbbfeamaa
set_option linter.unusedVariables false
open Go.ChangeShapes Go.WideShapes Go.ChangeAt Go.RowKit
open Go.Maps (Keyed)
open Go.WideMaps (keyOf_string_mk)
set_option maxRecDepth 100000

abbrev keyS (s : ByteArray) : Lit := .string s.data.toList
theorem keyS_inj {s t : ByteArray} (h : keyS s = keyS t) : s = t := bL_ext (by unfold bL; exact Lit.string.inj h)
theorem key_str : Keyed Try.prog 9 := Go.Maps.string_keyed Try.underlying9
def inT (l : List ByteArray) (s : ByteArray) : Bool := l.any fun x => decide (x = s)
theorem inT_iff {l : List ByteArray} {s : ByteArray} : inT l s = true ↔ s ∈ l := any_mem
theorem inT_no {l : List ByteArray} {s : ByteArray} (h : s ∉ l) : inT l s = false := by rw [Bool.eq_false_iff]; exact fun e => h (inT_iff.1 e)
theorem inT_snoc (l : List ByteArray) (s t : ByteArray) : inT (l ++ [s]) t = (inT l t || decide (s = t)) := by simp [inT]
/-- the map holds just the texts of the list, each with its place -/
def MapS (w : World) (b : Nat) (l : List ByteArray) : Prop :=
  ∃ D : DataW Unit, w.ownsMap Try.prog 9 (plainElem Try.prog 3) b l.length D ∧ l.Nodup ∧ ∀ s : ByteArray, Maps.has D (keyS s) = inT l s ∧ (s ∈ l → D.atKey (keyS s) (.lit (.int .i64 0)) = .lit (.int .i64 (atR l s)))
theorem MapS.kept {w w' : World} {b : Nat} {l : List ByteArray} {row : Option Nat} (h : MapS w b l) (hg : w.grownBy w' row) (hne : some b ≠ row) : MapS w' b l := by
  obtain ⟨D, h1, h2⟩ := h
  exact ⟨D, h1.kept hg hne, h2⟩
theorem MapS.lt {w : World} {b : Nat} {l : List ByteArray} (h : MapS w b l) : b < w.heap.size := by
  obtain ⟨D, h1, _⟩ := h
  exact h1.lt
theorem MapS.made (w : World) : MapS (w.alloc (.map #[] 0)) w.heap.size [] :=
  ⟨.map [], World.ownsMap_made w _ _ _, List.nodup_nil, fun s => ⟨rfl, by simp⟩⟩
theorem at_snoc {l : List ByteArray} {s : ByteArray} (hn : (l ++ [s]).Nodup) {t : ByteArray} (ht : t ∈ l) : atR (l ++ [s]) t = atR l t := by
  obtain ⟨k, h1, h2⟩ := at_mem ht
  rw [h1, at_is hn (k := k) (by rw [List.getElem?_append_left (List.getElem?_eq_some_iff.1 h2).1]; exact h2)]
theorem at_last {l : List ByteArray} {s : ByteArray} (hn : (l ++ [s]).Nodup) : atR (l ++ [s]) s = l.length := at_is hn (by simp)
theorem wpList_maps_put {w : World} {ops : Array Oper} {rest : List Oper} {o : Oper} {a : Act} {Q : Exit → Act → World → Prop} (hg : o.guard = none) (m x v : Operand) (hop : o.op = Op.mapUpdate 82 m x v)
    (b : Nat) (l : List ByteArray) (hm : a.eval m = .map (some b)) (h : MapS w b l) (s : ByteArray) (hs : s ∉ l) (hz : s.size ≤ maxLen) (hl : l.length < 1000000) (hx : a.eval x = .string s) (hv : a.eval v = .int .i64 (l.length : Int))
    (hK : ∀ w', MapS w' b (l ++ [s]) → w.grownBy w' (some b) → wpList Try.prog ops Q rest (a.put o.dst undef) w') : wpList Try.prog ops Q (o :: rest) a w := by
  obtain ⟨D, h1, h2, h3⟩ := h
  have hnn : (l ++ [s]).Nodup := by
    rw [List.nodup_append]
    exact ⟨h2, by simp, fun c hc d hd e => hs (by rw [List.mem_singleton.1 hd] at e; exact e ▸ hc)⟩
  refine wpList_mapUpdate_own w hg m x v 82 hop 9 3 key_str Try.underlying82 _ b l.length D hm h1 (by unfold maxLen; omega) _ _ (keyS s) hx hv (keyOf_string_mk Try.underlying9 hz) (.lit (.int .i64 (l.length : Int))) [] (plainElem_int Try.underlying3 (WalkArith.wf_i64 (by omega))) ?_
  intro w' h4 h5
  refine hK w' ⟨_, by rw [List.length_append]; exact h4, hnn, fun t => ?_⟩ h5
  by_cases ht : t = s
  · subst ht
    refine ⟨by rw [Maps.has_put_same h1.isMap (by trivial), inT_snoc]; simp, fun _ => ?_⟩
    rw [Maps.atKey_put_same h1.isMap (by trivial), at_last hnn]
  · have hk : keyS t ≠ keyS s := fun e => ht (keyS_inj e)
    obtain ⟨h6, h7⟩ := h3 t
    refine ⟨by rw [Maps.has_put_other hk, h6, inT_snoc, decide_eq_false (fun e => ht e.symm), Bool.or_false], fun hm => ?_⟩
    have hm2 : t ∈ l := by
      rcases List.mem_append.1 hm with h | h
      · exact h
      · exact absurd (List.mem_singleton.1 h) ht
    rw [Maps.atKey_put_other hk, h7 hm2, at_snoc hnn hm2]
/-- the one entry of a map literal -/
theorem wpList_maps_lit {w : World} {ops : Array Oper} {rest : List Oper} {o : Oper} {a : Act} {Q : Exit → Act → World → Prop} (hg : o.guard = none) (m x v : Operand) (hop : o.op = Op.insert 82 m x v)
    (b : Nat) (hm : a.eval m = .map (some b)) (h : MapS w b []) (s : ByteArray) (hz : s.size ≤ maxLen) (hx : a.eval x = .string s) (hv : a.eval v = .int .i64 0)
    (hK : ∀ w', MapS w' b [s] → w.grownBy w' (some b) → wpList Try.prog ops Q rest (a.put o.dst undef) w') : wpList Try.prog ops Q (o :: rest) a w := by
  obtain ⟨D, h1, h2, h3⟩ := h
  refine wpList_plain hg fun K' hK' => ?_
  obtain ⟨w', hrun, r1, r2⟩ := h1.update key_str Try.underlying82 (by simp [maxLen]) (key := .string s) (val := .int .i64 0) (keyOf_string_mk Try.underlying9 hz) (plainElem_int Try.underlying3 (WalkArith.wf_i64 (by omega)))
  unfold Oper.wp
  simp [execOp, hop, hm, hx, hv, hrun, Result.andThen]
  refine hK' _ _ (hK w' ⟨_, r1, by simp, fun t => ?_⟩ r2)
  by_cases ht : t = s
  · subst ht
    refine ⟨by rw [Maps.has_put_same h1.isMap (by trivial)]; simp [inT], fun _ => ?_⟩
    rw [Maps.atKey_put_same h1.isMap (by trivial)]
    simp [atR, fidx]
  · have hk : keyS t ≠ keyS s := fun e => ht (keyS_inj e)
    refine ⟨by rw [Maps.has_put_other hk, (h3 t).1]; simp [inT]; exact fun e => ht e.symm, fun hm => absurd (List.mem_singleton.1 hm) ht⟩
theorem zero_int (w : World) : (zeroValue 3).run Try.prog w = .ok (.int .i64 0) w := by kernel_rfl
/-- 'm[s]', s being there -/
theorem wpList_maps_at {w : World} {ops : Array Oper} {rest : List Oper} {o : Oper} {a : Act} {Q : Exit → Act → World → Prop} (hg : o.guard = none) (m x : Operand) (hop : o.op = Op.lookup 82 m x false)
    (b : Nat) (l : List ByteArray) (hm : a.eval m = .map (some b)) (h : MapS w b l) (s : ByteArray) (hs : s ∈ l) (hz : s.size ≤ maxLen) (hx : a.eval x = .string s)
    (hK : wpList Try.prog ops Q rest (a.put o.dst (.int .i64 (atR l s))) w) : wpList Try.prog ops Q (o :: rest) a w := by
  obtain ⟨D, h1, h2, h3⟩ := h
  refine wpList_lookup_own_int w hg m x 82 hop 9 3 .i64 key_str Try.underlying82 Try.underlying3 (zero_int w) b l.length D hm h1 _ (keyS s) hx (keyOf_string_mk Try.underlying9 hz) ?_
  intro c hc _
  rw [(h3 s).2 hs] at hc
  have : c = atR l s := by injection hc with e; injection e with e1 e2; exact e2.symm
  rw [this]; exact hK
/-- 'n, ok := m[s]' -/
theorem wpList_maps_ok {w : World} {ops : Array Oper} {rest : List Oper} {o : Oper} {a : Act} {Q : Exit → Act → World → Prop} (hg : o.guard = none) (m x : Operand) (hop : o.op = Op.lookup 82 m x true)
    (b : Nat) (l : List ByteArray) (hm : a.eval m = .map (some b)) (h : MapS w b l) (s : ByteArray) (hz : s.size ≤ maxLen) (hx : a.eval x = .string s)
    (hK : ∀ c : Int, (s ∈ l → c = atR l s) → wpList Try.prog ops Q rest (a.put o.dst (.tuple #[.int .i64 c, .bool (inT l s)])) w) : wpList Try.prog ops Q (o :: rest) a w := by
  obtain ⟨D, h1, h2, h3⟩ := h
  refine wpList_lookup_own_ok_int w hg m x 82 hop 9 3 .i64 key_str Try.underlying82 Try.underlying3 (zero_int w) b l.length D hm h1 _ (keyS s) hx (keyOf_string_mk Try.underlying9 hz) ?_
  intro c hc _
  rw [(h3 s).1]
  refine hK c fun hs => ?_
  rw [(h3 s).2 hs] at hc
  injection hc with e; injection e with e1 e2; exact e2.symm
end Go.Proofs.Ytfkcchbbbfeamaa
