/- Maps from values to their places in a list: one word for what such a map holds, and the laws of a look-up, of a store, of its length. -/
import Derived.Test.YtedjahinlpehgaaReachL
import Derived.Maps.OwnOps
import Derived.Maps.OwnSet
import Derived.DeepKeys4
namespace Go.Proofs.Ytedjahinlpehgaa
set_option linter.unusedVariables false
open Go.ChangeShapes Go.WideShapes Go.ChangeAt Go.RowKit
open Go.Maps (Keyed)
set_option maxRecDepth 100000

/-- T is the type of a map from kt to int -/
structure KT (T kt : TypeId) : Prop where
  keyed : Keyed Try.prog kt
  und : Try.prog.underlying T = some (.map kt 3)
/-- v is a key -/
def Ky (kt : TypeId) (v : Value) : Prop := ∃ k, keyOf Try.prog kt v = some k
/-- the map holds just the values of the list, each with its place -/
def MapV (kt : TypeId) (w : World) (b : Nat) (l : List Value) : Prop :=
  ∃ D : DataW Unit, w.ownsMap Try.prog kt (plainElem Try.prog 3) b l.length D ∧ l.Nodup ∧ Maps.size D = l.length ∧ ∀ v k, keyOf Try.prog kt v = some k → (Maps.has D k = true ↔ v ∈ l) ∧ ∀ i : Nat, l[i]? = some v → D.atKey k (.lit (.int .i64 0)) = .lit (.int .i64 (i : Int))
section
variable {T kt : TypeId} {w w' : World} {b : Nat} {l : List Value}
theorem MapV.kept {row : Option Nat} (h : MapV kt w b l) (hg : w.grownBy w' row) (hne : some b ≠ row) : MapV kt w' b l := by
  obtain ⟨D, h1, h2⟩ := h
  exact ⟨D, h1.kept hg hne, h2⟩
theorem MapV.lt (h : MapV kt w b l) : b < w.heap.size := by obtain ⟨D, h1, _⟩ := h; exact h1.lt
theorem MapV.nodup (h : MapV kt w b l) : l.Nodup := by obtain ⟨D, _, h2, _⟩ := h; exact h2
theorem MapV.frame (h : MapV kt w b l) (hb : w'.heap[b]? = w.heap[b]?) : MapV kt w' b l := by
  obtain ⟨D, ⟨es, clock, h1, h2⟩, h3⟩ := h
  exact ⟨D, ⟨es, clock, hb.trans h1, h2⟩, h3⟩
theorem MapV.later (h : MapV kt w b l) (hb : Below w.heap.size w w') : MapV kt w' b l := h.frame (hb.block b h.lt)
theorem MapV.made (w : World) : MapV kt (w.alloc (.map #[] 0)) w.heap.size [] :=
  ⟨.map [], World.ownsMap_made w _ _ _, List.nodup_nil, rfl, fun v k _ => ⟨Iff.intro (fun h => by exact absurd h (by simp [Maps.has])) (fun h => absurd h (by simp)), fun i h => absurd h (by simp)⟩⟩
theorem MapV.block (h : MapV kt w b l) : ∃ es c, w.heap[b]? = some (.map es c) := by obtain ⟨D, ⟨es, c, h1, _⟩, _⟩ := h; exact ⟨es, c, h1⟩
theorem nd_snoc {l : List Value} {v : Value} (h : l.Nodup) (hv : v ∉ l) : (l ++ [v]).Nodup := by
  rw [List.nodup_append]
  exact ⟨h, by simp, fun c hc d hd e => hv (by rw [List.mem_singleton.1 hd] at e; exact e ▸ hc)⟩
/-- a store of a value that is not there yet -/
theorem MapV.put (h : MapV kt w b l) (hT : KT T kt) {v : Value} (hk : Ky kt v) (hv : v ∉ l) (hl : l.length < 1000000) :
    ∃ w', (Instr.mapUpdate T (.map (some b)) v (.int .i64 (l.length : Int))).run Try.prog w = .ok () w' ∧ MapV kt w' b (l ++ [v]) ∧ w.grownBy w' (some b) := by
  obtain ⟨D, h1, h2, h3, h4⟩ := h
  obtain ⟨k, hk⟩ := hk
  obtain ⟨w', hrun, r1, r2⟩ := h1.update hT.keyed hT.und (by unfold maxLen; omega) hk (plainElem_int Try.underlying3 (WalkArith.wf_i64 (show -9223372036854775808 ≤ (l.length : Int) ∧ (l.length : Int) ≤ 9223372036854775807 by omega)))
  have hno : Maps.has D k = false := by rw [Bool.eq_false_iff]; exact fun e => hv ((h4 v k hk).1.1 e)
  refine ⟨w', hrun, ⟨_, by rw [List.length_append]; exact r1, nd_snoc h2 hv, ?_, fun u q hq => ?_⟩, r2⟩
  · rw [Maps.size_put (h1.tidy hT.keyed), hno, List.length_append, h3]; rfl
  · by_cases hu : u = v
    · subst hu
      rw [hk] at hq; cases hq
      refine ⟨⟨fun _ => by simp, fun _ => Maps.has_put_same h1.isMap (hT.keyed.key hk) _⟩, fun i hi => ?_⟩
      rw [Maps.atKey_put_same h1.isMap (hT.keyed.key hk)]
      have : i = l.length := by
        rcases Nat.lt_trichotomy i l.length with hc | hc | hc
        · rw [List.getElem?_append_left hc] at hi; exact absurd (List.mem_of_getElem? hi) hv
        · exact hc
        · rw [List.getElem?_eq_none (by simp; omega)] at hi; cases hi
      rw [this]
    · have hne : q ≠ k := fun e => hu (hT.keyed.inj (e ▸ hq) hk)
      rw [Maps.has_put_other hne, Maps.atKey_put_other hne]
      refine ⟨(h4 u q hq).1.trans ⟨fun h => by simp [h], fun h => ?_⟩, fun i hi => ?_⟩
      · rcases List.mem_append.1 h with h | h
        · exact h
        · exact absurd (List.mem_singleton.1 h) hu
      · refine (h4 u q hq).2 i ?_
        rcases Nat.lt_or_ge i l.length with hc | hc
        · rwa [List.getElem?_append_left hc] at hi
        · rw [List.getElem?_append_right hc] at hi
          have := List.mem_of_getElem? hi
          exact absurd (List.mem_singleton.1 this) hu
theorem zero_intV (w : World) : (zeroValue 3).run Try.prog w = .ok (.int .i64 0) w := by kernel_rfl
/-- 'n, ok := m[v]' -/
theorem MapV.look (h : MapV kt w b l) (hT : KT T kt) {v : Value} (hk : Ky kt v) {B : Bool} (hB : B = true ↔ v ∈ l) :
    ∃ c : Int, (Instr.lookup T (.map (some b)) v true).run Try.prog w = .ok (.tuple #[.int .i64 c, .bool B]) w ∧ ∀ i : Nat, l[i]? = some v → c = (i : Int) := by
  obtain ⟨D, h1, h2, h3, h4⟩ := h
  obtain ⟨k, hk⟩ := hk
  obtain ⟨z, ps, hrun, hR⟩ := h1.look_ok hT.keyed hT.und (zero_intV w) (plainElem_int Try.underlying3 (by decide)) hk
  obtain ⟨c, rfl, hc, _⟩ := plainElem_int_inv Try.underlying3 hR
  have hb : Maps.has D k = B := by rw [Bool.eq_iff_iff]; exact (h4 v k hk).1.trans hB.symm
  rw [hb] at hrun
  refine ⟨c, hrun, fun i hi => ?_⟩
  have h5 := (h4 v k hk).2 i hi
  have h6 := congrArg Prod.fst hc
  simp only at h6
  rw [h5] at h6
  injection h6 with e; injection e with e1 e2; exact e2.symm
/-- 'm[v]', v being there -/
theorem MapV.look1 (h : MapV kt w b l) (hT : KT T kt) {v : Value} (hk : Ky kt v) {i : Nat} (hi : l[i]? = some v) :
    (Instr.lookup T (.map (some b)) v false).run Try.prog w = .ok (.int .i64 (i : Int)) w := by
  obtain ⟨D, h1, h2, h3, h4⟩ := h
  obtain ⟨k, hk⟩ := hk
  obtain ⟨c, hrun, hat, _⟩ := h1.lookup_int hT.keyed hT.und Try.underlying3 (zero_intV w) hk
  rw [(h4 v k hk).2 i hi] at hat
  injection hat with e; injection e with e1 e2
  rw [e2]; exact hrun
/-- 'len(m)' -/
theorem MapV.len (h : MapV kt w b l) (hT : KT T kt) (ty : TypeId) : (Builtin.len_ #[T] ty #[.map (some b)]).run Try.prog w = .ok (.int .i64 (l.length : Int)) w := by
  obtain ⟨D, h1, h2, h3, h4⟩ := h
  have := h1.len hT.und ty
  rw [h3] at this; exact this
end
section
variable {T kt : TypeId} {w : World} {b : Nat} {l : List Value} {ops : Array Oper} {rest : List Oper} {o : Oper} {a : Act} {Q : Exit → Act → World → Prop}
theorem wpList_mapv_put (hg : o.guard = none) (m x v : Operand) (hop : o.op = Op.mapUpdate T m x v) (hT : KT T kt) (hm : a.eval m = .map (some b)) (h : MapV kt w b l) {u : Value} (hx : a.eval x = u) (hk : Ky kt u) (hu : u ∉ l) (hl : l.length < 1000000) {n : Int} (hv : a.eval v = .int .i64 n) (hn : n = (l.length : Int))
    (hK : ∀ w', MapV kt w' b (l ++ [u]) → w.grownBy w' (some b) → wpList Try.prog ops Q rest (a.put o.dst undef) w') : wpList Try.prog ops Q (o :: rest) a w := by
  refine wpList_plain hg fun K' hK' => ?_
  obtain ⟨w', hrun, r1, r2⟩ := h.put hT hk hu hl
  rw [← hn] at hrun
  unfold Oper.wp
  simp [execOp, hop, hm, hx, hv, hrun, Result.andThen]
  exact hK' _ _ (hK w' r1 r2)
/-- the one entry of a map literal -/
theorem wpList_mapv_lit (hg : o.guard = none) (m x v : Operand) (hop : o.op = Op.insert T m x v) (hT : KT T kt) (hm : a.eval m = .map (some b)) (h : MapV kt w b []) {u : Value} (hx : a.eval x = u) (hk : Ky kt u) (hv : a.eval v = .int .i64 0)
    (hK : ∀ w', MapV kt w' b [u] → w.grownBy w' (some b) → wpList Try.prog ops Q rest (a.put o.dst undef) w') : wpList Try.prog ops Q (o :: rest) a w := by
  refine wpList_plain hg fun K' hK' => ?_
  obtain ⟨w', hrun, r1, r2⟩ := h.put hT hk (by simp) (by simp)
  simp only [List.length_nil, Int.ofNat_zero, Int.natCast_zero] at hrun
  unfold Oper.wp
  simp [execOp, hop, hm, hx, hv, hrun, Result.andThen]
  exact hK' _ _ (hK w' r1 r2)
theorem wpList_mapv_ok (hg : o.guard = none) (m x : Operand) (hop : o.op = Op.lookup T m x true) (hT : KT T kt) (hm : a.eval m = .map (some b)) (h : MapV kt w b l) {u : Value} (hx : a.eval x = u) (hk : Ky kt u) {B : Bool} (hB : B = true ↔ u ∈ l)
    (hK : ∀ c : Int, (∀ i : Nat, l[i]? = some u → c = (i : Int)) → wpList Try.prog ops Q rest (a.put o.dst (.tuple #[.int .i64 c, .bool B])) w) : wpList Try.prog ops Q (o :: rest) a w := by
  refine wpList_plain hg fun K' hK' => ?_
  obtain ⟨c, hrun, hc⟩ := h.look hT hk hB
  unfold Oper.wp
  simp [execOp, hop, hm, hx, hrun, Result.andThen]
  exact hK' _ _ (hK c hc)
theorem wpList_mapv_yes (hg : o.guard = none) (m x : Operand) (hop : o.op = Op.lookup T m x true) (hT : KT T kt) (hm : a.eval m = .map (some b)) (h : MapV kt w b l) {u : Value} (hx : a.eval x = u) (hk : Ky kt u) {i : Nat} (hi : l[i]? = some u)
    (hK : wpList Try.prog ops Q rest (a.put o.dst (.tuple #[.int .i64 (i : Int), .bool true])) w) : wpList Try.prog ops Q (o :: rest) a w :=
  wpList_mapv_ok hg m x hop hT hm h hx hk (B := true) ⟨fun _ => List.mem_of_getElem? hi, fun _ => rfl⟩ fun c hc => by rw [hc i hi]; exact hK
theorem wpList_mapv_no (hg : o.guard = none) (m x : Operand) (hop : o.op = Op.lookup T m x true) (hT : KT T kt) (hm : a.eval m = .map (some b)) (h : MapV kt w b l) {u : Value} (hx : a.eval x = u) (hk : Ky kt u) (hn : u ∉ l)
    (hK : ∀ c : Int, wpList Try.prog ops Q rest (a.put o.dst (.tuple #[.int .i64 c, .bool false])) w) : wpList Try.prog ops Q (o :: rest) a w :=
  wpList_mapv_ok hg m x hop hT hm h hx hk (B := false) ⟨fun h => (by cases h), fun h => absurd h hn⟩ fun c _ => hK c
theorem wpList_mapv_at (hg : o.guard = none) (m x : Operand) (hop : o.op = Op.lookup T m x false) (hT : KT T kt) (hm : a.eval m = .map (some b)) (h : MapV kt w b l) {u : Value} (hx : a.eval x = u) (hk : Ky kt u) {i : Nat} (hi : l[i]? = some u)
    (hK : wpList Try.prog ops Q rest (a.put o.dst (.int .i64 (i : Int))) w) : wpList Try.prog ops Q (o :: rest) a w := by
  refine wpList_plain hg fun K' hK' => ?_
  have hrun := h.look1 hT hk hi
  unfold Oper.wp
  simp [execOp, hop, hm, hx, hrun, Result.andThen]
  exact hK' _ _ hK
theorem wpList_mapv_len (hg : o.guard = none) (m : Operand) (hop : o.op = Op.call { callee := Callee.builtin Builtin.len, args := #[m], argTypes := #[T] }) (hT : KT T kt) (hm : a.eval m = .map (some b)) (h : MapV kt w b l)
    (hK : wpList Try.prog ops Q rest (a.put o.dst (.int .i64 (l.length : Int))) w) : wpList Try.prog ops Q (o :: rest) a w := by
  refine wpList_plain hg fun K' hK' => ?_
  unfold Oper.wp
  simp [execOp, hop, resolve, invoke, builtin, hm, h.len hT o.type, Result.andThen]
  exact hK' _ _ hK
end

/-! ### the keys of these maps -/
theorem key_two {P : Program} {k t m : Nat} {f0 f1 : Field} (hk : P.underlying k = some (.struct #[f0, f1])) (h0 : f0.type = t) (h1 : f1.type = t) (o0 : f0.offset = 0) (o1 : f1.offset = 1) (n0 : (f0.name != "_") = true) (n1 : (f1.name != "_") = true)
    (ht : P.underlying t = some (.int .i64)) (ck : P.cellsOf k = 2) (ct : P.cellsOf t = 1) (hkt : P.keyType k = true) (hm : P.types.size + 1 = m + 2) {x y : Int} (hx : (Lit.int .i64 x).wf = true) (hy : (Lit.int .i64 y).wf = true) :
    ∃ l, keyOf P k (.agg #[.int .i64 x, .int .i64 y]) = some l := by
  unfold keyOf
  rw [hk, hkt, hm]
  simp [Value.formed, hk, ck, Program.keyLits, Value.cells, ct, ht, hx, hy, h0, h1, o0, o1, n0, n1]
theorem key_four {P : Program} {k t q m : Nat} {f0 f1 : Field} (hk : P.underlying k = some (.struct #[f0, f1])) (h0 : f0.type = t) (h1 : f1.type = q) (o0 : f0.offset = 0) (o1 : f1.offset = 1) (n0 : (f0.name != "_") = true) (n1 : (f1.name != "_") = true)
    (ht : P.underlying t = some (.int .i64)) (hq : P.underlying q = some (.array 3 t)) (ck : P.cellsOf k = 4) (ct : P.cellsOf t = 1) (cq : P.cellsOf q = 3) (hkt : P.keyType k = true) (hm : P.types.size + 1 = m + 3) {x y z u : Int} (hx : (Lit.int .i64 x).wf = true) (hy : (Lit.int .i64 y).wf = true) (hz : (Lit.int .i64 z).wf = true) (hu : (Lit.int .i64 u).wf = true) :
    ∃ l, keyOf P k (.agg #[.int .i64 x, .int .i64 y, .int .i64 z, .int .i64 u]) = some l := by
  unfold keyOf
  rw [hk, hkt, hm]
  simp [Value.formed, hk, ck, Program.keyLits, Value.cells, ct, ht, hq, cq, hx, hy, hz, hu, h0, h1, o0, o1, n0, n1, List.range, List.range.loop]
theorem laidOutC : laidOutB Try.prog = true := by kernel_rfl
theorem types_ge : ∃ m, Try.prog.types.size = m + 3 := ⟨Try.prog.types.size - 3, by kernel_rfl⟩
theorem kt_int : KT 77 3 := ⟨Go.Maps.int_keyed Try.underlying3, Try.underlying77⟩
theorem ky_int {n : Int} (h : (Lit.int .i64 n).wf = true) : Ky 3 (.int .i64 n) := ⟨_, Go.Maps.keyOf_int_mk Try.underlying3 h⟩
theorem kt_pair : KT 86 71 := ⟨Keyed.of_law (deep_law_laid laidOutC (m := 2) (by omega) (of_decide_eq_true (by kernel_rfl)) (by kernel_rfl) (by rw [Try.underlying71])), Try.underlying86⟩
theorem ky_pair {x y : Int} (hx : (Lit.int .i64 x).wf = true) (hy : (Lit.int .i64 y).wf = true) : Ky 71 (.agg #[.int .i64 x, .int .i64 y]) := by
  obtain ⟨m, hm⟩ := types_ge
  exact key_two Try.underlying71 rfl rfl rfl rfl (by decide) (by decide) Try.underlying3 (by kernel_rfl) (by kernel_rfl) (by kernel_rfl) (by rw [hm]) hx hy
theorem kt_mark : KT 99 93 := ⟨Keyed.of_law (deep_law_laid laidOutC (m := 3) (by omega) (of_decide_eq_true (by kernel_rfl)) (by kernel_rfl) (by rw [Try.underlying93])), Try.underlying99⟩
theorem ky_mark {x y z u : Int} (hx : (Lit.int .i64 x).wf = true) (hy : (Lit.int .i64 y).wf = true) (hz : (Lit.int .i64 z).wf = true) (hu : (Lit.int .i64 u).wf = true) : Ky 93 (.agg #[.int .i64 x, .int .i64 y, .int .i64 z, .int .i64 u]) := by
  obtain ⟨m, hm⟩ := types_ge
  exact key_four Try.underlying93 rfl rfl rfl rfl (by decide) (by decide) Try.underlying3 Try.underlying91 (by kernel_rfl) (by kernel_rfl) (by kernel_rfl) (by kernel_rfl) (by rw [hm]) hx hy hz hu
end Go.Proofs.Ytedjahinlpehgaa
