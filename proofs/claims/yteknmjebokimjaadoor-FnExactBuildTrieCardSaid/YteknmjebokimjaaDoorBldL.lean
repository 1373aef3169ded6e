/- Plain laws of a trie that is built: node by node, sub by sub; and the nodes as rows that own rows, while they are built. No function of the program is named here. -/
import Derived.Test.YteknmjebokimjaaDoorLookL
import Derived.Test.YteknmjebokimjaaDoorWho2
import Derived.Laws.OwnMore
namespace Go.Proofs.YteknmjebokimjaaDoor
set_option linter.unusedVariables false
open Go.ChangeShapes Go.WideShapes Go.ChangeAt Go.RowKit
set_option maxRecDepth 100000

/-! ### plain -/
def stepT (t : List Nd) (u : Nat) (x : ByteArray) : List Nd × Nat := if 0 ≤ kidR t u x then (t, (kidR t u x).toNat) else (t ++ [(x, (u : Int), [])], t.length)
def downT (r : List Nd × Nat) (x : ByteArray) : List Nd × Nat := stepT r.1 r.2 x
def putT (t : List Nd) (k : Nat) (n : Int) : List Nd := t.set k ((nd t k).1, (nd t k).2.1, putR (nd t k).2.2 n)
def addT (t : List Nd) (s : ByteArray × Int) : List Nd := putT ((pieces 47 s.1).foldl downT (t, 0)).1 ((pieces 47 s.1).foldl downT (t, 0)).2 s.2
def root0 : Nd := (ByteArray.empty, -1, [])
def buildR (l : List (ByteArray × Int)) : List Nd := l.foldl addT [root0]
def R_BuildTrie (l : List (ByteArray × Int)) : List Nd × Bool := if subsB l = true then (buildR l, true) else ([], false)
theorem R_Bld_yes {l : List (ByteArray × Int)} (h : subsB l = true) : R_BuildTrie l = (buildR l, true) := if_pos h
theorem R_Bld_no {l : List (ByteArray × Int)} (h : subsB l = false) : R_BuildTrie l = ([], false) := if_neg (by rw [h]; simp)
/-- what holds of the nodes under way: n at most, each Whos of d at most -/
structure TI (n d : Nat) (t : List Nd) : Prop where
  one : 1 ≤ t.length
  len : t.length ≤ n
  root : (nd t 0).2.1 = -1
  up : ∀ x ∈ t, -1 ≤ x.2.1 ∧ x.2.1 < (n : Int)
  sz : ∀ x ∈ t, x.1.size ≤ 1048576
  who : ∀ x ∈ t, x.2.2.Pairwise (· < ·) ∧ x.2.2.length ≤ d ∧ ∀ y ∈ x.2.2, 0 ≤ y ∧ y ≤ 100
theorem TI.start : TI 1 0 [root0] := ⟨by simp, by simp, rfl, by intro x hx; simp at hx; subst hx; simp [root0], by intro x hx; simp at hx; subst hx; simp [root0], by intro x hx; simp at hx; subst hx; simp [root0]⟩
theorem TI.mono {n n' d d' : Nat} {t : List Nd} (h : TI n d t) (hn : n ≤ n') (hd : d ≤ d') : TI n' d' t :=
  ⟨h.one, by have := h.len; omega, h.root, fun x hx => by have := h.up x hx; omega, h.sz, fun x hx => ⟨(h.who x hx).1, by have := (h.who x hx).2.1; omega, (h.who x hx).2.2⟩⟩
theorem TI.step {n d : Nat} {t : List Nd} (h : TI n d t) {u : Nat} (hu : u < t.length) {x : ByteArray} (hx : x.size ≤ 1048576) : TI (n + 1) d (stepT t u x).1 ∧ (stepT t u x).2 < (stepT t u x).1.length := by
  unfold stepT
  split
  · rename_i hk
    exact ⟨h.mono (by omega) (Nat.le_refl _), (kid_lt hk).1⟩
  · have h1 := h.one; have h2 := h.len
    refine ⟨⟨by simp, by simp; omega, ?_, ?_, ?_, ?_⟩, by simp⟩
    · have := h.root
      unfold nd at this ⊢
      rw [List.getD_eq_getElem?_getD, List.getElem?_append_left (by omega), ← List.getD_eq_getElem?_getD]; exact this
    · intro y hy
      rcases List.mem_append.1 hy with hy | hy
      · have := h.up y hy; omega
      · simp at hy; subst hy; simp only; omega
    · intro y hy
      rcases List.mem_append.1 hy with hy | hy
      · exact h.sz y hy
      · simp at hy; subst hy; exact hx
    · intro y hy
      rcases List.mem_append.1 hy with hy | hy
      · exact h.who y hy
      · simp at hy; subst hy; simp
theorem TI.put {n d : Nat} {t : List Nd} (h : TI n d t) {k : Nat} (hk : k < t.length) {v : Int} (hv : 0 ≤ v ∧ v ≤ 100) : TI n (d + 1) (putT t k v) := by
  have hx : nd t k ∈ t := by unfold nd; rw [List.getD_eq_getElem?_getD, List.getElem?_eq_getElem hk]; exact List.getElem_mem hk
  unfold putT
  refine ⟨by rw [List.length_set]; exact h.one, by rw [List.length_set]; exact h.len, ?_, ?_, ?_, ?_⟩
  · unfold nd
    rw [List.getD_eq_getElem?_getD, List.getElem?_set]
    split
    · rename_i h0
      subst h0
      have hr := h.root
      try rw [if_pos hk]
      exact hr
    · have hr := h.root
      unfold nd at hr
      rw [List.getD_eq_getElem?_getD] at hr
      exact hr
  · intro y hy
    rcases List.mem_or_eq_of_mem_set hy with hy | rfl
    · exact h.up y hy
    · have := h.up (nd t k) hx; exact this
  · intro y hy
    rcases List.mem_or_eq_of_mem_set hy with hy | rfl
    · exact h.sz y hy
    · have := h.sz (nd t k) hx; exact this
  · intro y hy
    rcases List.mem_or_eq_of_mem_set hy with hy | rfl
    · exact ⟨(h.who y hy).1, by have := (h.who y hy).2.1; omega, (h.who y hy).2.2⟩
    · obtain ⟨h1, h2, h3⟩ := h.who _ hx
      refine ⟨put_keep v h1, by have := put_len (nd t k).2.2 v; simp only; omega, fun z hz => ?_⟩
      rcases mem_put hz with hz | rfl
      · exact h3 z hz
      · exact hv
theorem TI.fold {d : Nat} : ∀ (l : List ByteArray) (n : Nat) (t : List Nd) (u : Nat), TI n d t → u < t.length → (∀ x ∈ l, x.size ≤ 1048576) → TI (n + l.length) d (l.foldl downT (t, u)).1 ∧ (l.foldl downT (t, u)).2 < (l.foldl downT (t, u)).1.length
  | [], n, t, u, h, hu, _ => ⟨h, hu⟩
  | x :: l, n, t, u, h, hu, hl => by
    obtain ⟨h1, h2⟩ := h.step hu (hl x (by simp))
    have h3 := TI.fold l (n + 1) (stepT t u x).1 (stepT t u x).2 h1 h2 (fun y hy => hl y (by simp [hy]))
    rw [List.length_cons, show n + (l.length + 1) = n + 1 + l.length by omega]
    exact h3
theorem TI.build {s : List (ByteArray × Int)} (hs : subsB s = true) (hz : kSubS.wt s ≤ 1048576) : ∀ i, i ≤ s.length → TI (1 + 6 * i) i ((s.take i).foldl addT [root0])
  | 0, _ => TI.start
  | i + 1, hi => by
    have ih := TI.build hs hz i (by omega)
    have hx : s[i]? = some s[i] := List.getElem?_eq_getElem (by omega)
    have hm := List.mem_of_getElem? hx
    rw [take_next s i _ hx, List.foldl_append]
    have ha := subsB_at hs hm
    have hp : (pieces 47 s[i].1).length ≤ 6 := by have := ha.1; unfold gPat at this; rw [Bool.and_eq_true, decide_eq_true_eq] at this; exact this.1
    obtain ⟨h1, h2⟩ := TI.fold (pieces 47 s[i].1) _ _ 0 ih ih.one (fun x hx => by have := pieces_size 47 s[i].1 x hx; have := sub_size hz hm; omega)
    exact (h1.put h2 ha.2).mono (by omega) (by omega)

/-! ### the nodes in memory -/
theorem OwL.turnB {α : Type} {K : Kind α} {w w' : World} (hK : K.Ok) : ∀ {fs : List (List Nat)} {vs : List (List Value)} {xs : List α}, OwL K w fs vs xs → fs.flatten.Nodup → ∀ (i : Nat) (f f' : List Nat) (v' : List Value) (x' : α), fs[i]? = some f →
    (∀ b ∈ fs.flatten, b ∉ f → w'.heap[b]? = w.heap[b]?) → K.ow f' w' v' x' → OwL K w' (fs.set i f') (vs.set i v') (xs.set i x')
  | [], [], [], _, _, i, f, f', v', x', hf, _, _ => by simp at hf
  | g :: fs, v :: vs, x :: xs, h, hn, 0, f, f', v', x', hf, hb, ho => by
    simp at hf; subst hf
    rw [List.flatten_cons, List.nodup_append] at hn
    exact ⟨ho, h.2.frame hK fun b hm => hb b (by rw [List.flatten_cons]; simp only [List.mem_append]; exact .inr hm) fun hc => hn.2.2 b hc b hm rfl⟩
  | g :: fs, v :: vs, x :: xs, h, hn, i + 1, f, f', v', x', hf, hb, ho => by
    rw [List.flatten_cons, List.nodup_append] at hn
    have hf' : fs[i]? = some f := by simpa using hf
    refine ⟨hK.oframe h.1 fun b hm => hb b (by simp [hm]) fun hc => hn.2.2 b hm b ?_ rfl, h.2.turnB hK hn.2.1 i f f' v' x' hf' (fun b hm => hb b (by rw [List.flatten_cons]; simp only [List.mem_append]; exact .inr hm)) ho⟩
    exact List.mem_flatten.2 ⟨f, List.mem_of_getElem? hf', hc⟩
theorem nodup_setB : ∀ {fs : List (List Nat)} {i : Nat} {f f' : List Nat}, fs.flatten.Nodup → fs[i]? = some f → f'.Nodup → (∀ b ∈ f', b ∈ f ∨ b ∉ fs.flatten) → (fs.set i f').flatten.Nodup
  | [], i, f, f', _, h, _, _ => by simp at h
  | g :: fs, 0, f, f', hn, h, h1, h2 => by
    simp at h; subst h
    rw [List.flatten_cons, List.nodup_append] at hn
    rw [List.set_cons_zero, List.flatten_cons, List.nodup_append]
    refine ⟨h1, hn.2.1, fun a ha b hb e => ?_⟩
    subst e
    rcases h2 a ha with hc | hc
    · exact hn.2.2 a hc a hb rfl
    · exact hc (by rw [List.flatten_cons]; simp only [List.mem_append]; exact .inr hb)
  | g :: fs, i + 1, f, f', hn, h, h1, h2 => by
    have hf' : fs[i]? = some f := by simpa using h
    rw [List.flatten_cons, List.nodup_append] at hn
    rw [List.set_cons_succ, List.flatten_cons, List.nodup_append]
    refine ⟨hn.1, nodup_setB hn.2.1 hf' h1 (fun b hb => (h2 b hb).imp id fun hc hm => hc (by rw [List.flatten_cons]; simp only [List.mem_append]; exact .inr hm)), fun a ha b hb e => ?_⟩
    subst e
    obtain ⟨q, hq, haq⟩ := List.mem_flatten.1 hb
    rcases List.mem_or_eq_of_mem_set hq with hq | rfl
    · exact hn.2.2 a ha a (List.mem_flatten.2 ⟨q, hq, haq⟩) rfl
    · rcases h2 a haq with hc | hc
      · exact hn.2.2 a ha a (List.mem_flatten.2 ⟨f, List.mem_of_getElem? hf', hc⟩) rfl
      · exact hc (by rw [List.flatten_cons]; simp only [List.mem_append]; exact .inl ha)
theorem mem_setB {fs : List (List Nat)} {i : Nat} {f' : List Nat} {b : Nat} (h : b ∈ (fs.set i f').flatten) : b ∈ fs.flatten ∨ b ∈ f' := by
  obtain ⟨q, hq, hb⟩ := List.mem_flatten.1 h
  rcases List.mem_or_eq_of_mem_set hq with hq | rfl
  · exact .inl (List.mem_flatten.2 ⟨q, hq, hb⟩)
  · exact .inr hb
theorem ints_un {fp : List Nat} {w : World} {c : Value} {ys : List Int} (h : kIntS.ow fp w [c] ys) : fp = c.ownBlock.toList ∧ w.ownsRow 0 3 1 c ys.length (ints ys) ∧ ∀ y ∈ ys, (Lit.int .i64 y).wf = true := by
  obtain ⟨v, vss, fps, hv, ho, hr, hfp, _⟩ := h
  simp only [List.cons.injEq, and_true] at hv
  subst hv
  have key : ∀ (fps : List (List Nat)) (vss : List (List Value)) (ys : List Int), OwL kInt w fps vss ys → fps.flatten = [] ∧ vss.flatten = ints ys ∧ ∀ y ∈ ys, (Lit.int .i64 y).wf = true := by
    intro fps
    induction fps with
    | nil =>
      intro vss ys h
      match vss, ys, h with
      | [], [], _ => exact ⟨rfl, rfl, by simp⟩
    | cons f fs ih =>
      intro vss ys h
      match vss, ys, h with
      | v :: vs, y :: ys, h =>
        obtain ⟨⟨rfl, rfl, hw⟩, h2⟩ := h
        obtain ⟨e1, e2, e3⟩ := ih vs ys h2
        refine ⟨by rw [List.flatten_cons, e1]; rfl, by rw [List.flatten_cons, e2]; rfl, ?_⟩
        intro z hz
        rcases List.mem_cons.1 hz with rfl | hz
        · exact hw
        · exact e3 z hz
  obtain ⟨e1, e2, e3⟩ := key fps vss ys hr
  rw [e1, List.append_nil] at hfp
  rw [e2] at ho
  exact ⟨hfp, ho, e3⟩
structure TN (n0 : Nat) (w : World) (g cap : Nat) (vss : List (List Value)) (fps : List (List Nat)) (t : List Nd) : Prop where
  row : w.ownsRow n0 58 3 (.slice (some ⟨g, 0, none⟩) t.length cap) t.length vss.flatten
  els : OwL kTrieNode w fps vss t
  nod : (g :: fps.flatten).Nodup
  ge : ∀ b ∈ g :: fps.flatten, n0 ≤ b
section
variable {n0 : Nat} {w w' : World} {g cap : Nat} {vss : List (List Value)} {fps : List (List Nat)} {t : List Nd}
theorem TN.gl (h : TN n0 w g cap vss fps t) : g < w.heap.size := (h.row.lt g rfl).2
theorem TN.fl (h : TN n0 w g cap vss fps t) : ∀ b ∈ fps.flatten, b < w.heap.size := h.els.lt kTrieNode_ok
theorem TN.frame (h : TN n0 w g cap vss fps t) (hb : ∀ b ∈ g :: fps.flatten, w'.heap[b]? = w.heap[b]?) : TN n0 w' g cap vss fps t := by
  refine ⟨?_, h.els.frame kTrieNode_ok fun b hm => hb b (by simp [hm]), h.nod, h.ge⟩
  refine ⟨h.row.1, ?_⟩
  rcases h.row.2 with h0 | ⟨g', cap', cur, hv, hb', hg, r⟩
  · exact .inl h0
  · simp only [Value.slice.injEq, Option.some.injEq, Addr.mk.injEq, and_true] at hv
    obtain ⟨rfl, -, rfl⟩ := hv
    exact .inr ⟨g, cap, cur, rfl, hb', by rw [hb g (by simp)]; exact hg, r⟩
theorem TN.later (h : TN n0 w g cap vss fps t) (hb : Below w.heap.size w w') : TN n0 w' g cap vss fps t :=
  h.frame fun b hm => by
    rcases List.mem_cons.1 hm with rfl | hm
    · exact hb.block _ h.gl
    · exact hb.block b (h.fl b hm)
theorem TN.ow (h : TN n0 w g cap vss fps t) : kTrieNodeS.ow (g :: fps.flatten) w [.slice (some ⟨g, 0, none⟩) t.length cap] t :=
  ⟨_, vss, fps, rfl, own_mono h.row (Nat.zero_le _), h.els, rfl, h.nod⟩
theorem TN.rd (h : TN n0 w g cap vss fps t) : kTrieNodeS.rd w.heap.size w [.slice (some ⟨g, 0, none⟩) t.length cap] t :=
  kTrieNodeS_ok.ord h.ow fun b hm => by
    rcases List.mem_cons.1 hm with rfl | hm
    · exact h.gl
    · exact h.fl b hm
/-- a node's Whos -/
theorem TN.at (h : TN n0 w g cap vss fps t) {k : Nat} (hk : k < t.length) : ∃ f a c, fps[k]? = some f ∧ vss[k]? = some [.string (nd t k).1, .int .i64 (nd t k).2.1, .slice a (nd t k).2.2.length c] ∧ f = (Value.slice a (nd t k).2.2.length c).ownBlock.toList ∧
    w.ownsRow 0 3 1 (.slice a (nd t k).2.2.length c) (nd t k).2.2.length (ints (nd t k).2.2) ∧ (∀ y ∈ (nd t k).2.2, (Lit.int .i64 y).wf = true) ∧ (nd t k).1.size ≤ maxLen ∧ (Lit.int .i64 (nd t k).2.1).wf = true ∧
    w.cell? ⟨g, k * 3 + 2, none⟩ = some (.slice a (nd t k).2.2.length c) ∧ w.frozen? ⟨g, k * 3 + 2, none⟩ = false := by
  have hx : t[k]? = some (nd t k) := by unfold nd; rw [List.getD_eq_getElem?_getD, List.getElem?_eq_getElem hk]; rfl
  obtain ⟨f, v, h1, h2, h3⟩ := h.els.at k _ hx
  obtain ⟨a, c, rfl, hs, hw, hi⟩ := TrieNode_ow h3
  obtain ⟨e1, e2, e3⟩ := ints_un hi
  have hlen := h.els.lens kTrieNode_ok
  have hf := flat_get hlen k 2 _ (.slice a (nd t k).2.2.length c) h2 rfl
  refine ⟨f, a, c, h1, h2, e1, e2, e3, hs, hw, ?_, h.row.frozenAt _⟩
  rw [h.row.cellAt (k * 3 + 2) (by omega)]; exact hf
/-- one more node -/
theorem TN.app (h : TN n0 w g cap vss fps t) {x : ByteArray} {u : Int} (hx : x.size ≤ maxLen) (hu : (Lit.int .i64 u).wf = true) {g' cap' : Nat} (hown : w'.ownsRow n0 58 3 (.slice (some ⟨g', 0, none⟩) (t.length + 1) cap') (t.length + 1) (vss.flatten ++ [.string x, .int .i64 u, .slice none 0 0])) (hgrow : w.grownBy w' (some g)) (hat : g' = g ∨ w.heap.size ≤ g') (hs : n0 ≤ w.heap.size) :
    TN n0 w' g' cap' (vss ++ [[.string x, .int .i64 u, .slice none 0 0]]) (fps ++ [[]]) (t ++ [(x, u, [])]) := by
  have hn := h.nod
  rw [List.nodup_cons] at hn
  have hfr : ∀ b ∈ fps.flatten, w'.heap[b]? = w.heap[b]? := fun b hm => hgrow.block b (h.fl b hm) (by simp only [ne_eq, Option.some.injEq]; intro e; exact hn.1 (e ▸ hm))
  have hk0 : kTrieNode.ow [] w' [.string x, .int .i64 u, .slice none 0 0] (x, u, []) := TrieNode_owm (x := (x, u, [])) hx hu ⟨.slice none 0 0, [], [], rfl, World.ownsRow_nil _ _ _ _, trivial, rfl, List.nodup_nil⟩
  have hff : (fps ++ [[]]).flatten = fps.flatten := by simp
  refine ⟨by rw [List.length_append, List.flatten_append]; simpa using hown, (h.els.frame kTrieNode_ok hfr).snoc hk0, ?_, ?_⟩
  · rw [hff, List.nodup_cons]
    refine ⟨fun hm => ?_, hn.2⟩
    rcases hat with rfl | hat
    · exact hn.1 hm
    · have := h.fl _ hm; omega
  · intro b hb
    rw [hff] at hb
    rcases List.mem_cons.1 hb with rfl | hb
    · rcases hat with rfl | hat
      · exact h.ge _ (by simp)
      · omega
    · exact h.ge b (by simp [hb])
/-- a node's Whos turn: first their own block and new ones, then the cell -/
theorem TN.put (h : TN n0 w g cap vss fps t) {k : Nat} (hk : k < t.length) {f : List Nat} {a : Option Addr} {c : Nat} (hf : fps[k]? = some f) (hv : vss[k]? = some [.string (nd t k).1, .int .i64 (nd t k).2.1, .slice a (nd t k).2.2.length c]) (hfe : f = (Value.slice a (nd t k).2.2.length c).ownBlock.toList)
    (hs : (nd t k).1.size ≤ maxLen) (hw : (Lit.int .i64 (nd t k).2.1).wf = true) (hwr : Wrote (fun b => b ∈ f) w w') (hs0 : n0 ≤ w.heap.size) {v' : Value} {ys : List Int} (hown : w'.ownsRow 0 3 1 v' ys.length (ints ys)) (hyw : ∀ y ∈ ys, (Lit.int .i64 y).wf = true) (hnew : ∀ b, v'.ownBlock = some b → b ∈ f ∨ w.heap.size ≤ b) :
    ∃ vss' fps', TN n0 (w'.setCell ⟨g, k * 3 + 2, none⟩ v') g cap vss' fps' (t.set k ((nd t k).1, (nd t k).2.1, ys)) := by
  have hn := h.nod
  rw [List.nodup_cons] at hn
  have hfm : ∀ b ∈ f, b ∈ fps.flatten := fun b hb => List.mem_flatten.2 ⟨f, List.mem_of_getElem? hf, hb⟩
  have hgf : g ∉ f := fun hm => hn.1 (hfm g hm)
  have hgl := h.gl
  have hrow' : w'.ownsRow n0 58 3 (.slice (some ⟨g, 0, none⟩) t.length cap) t.length vss.flatten := by
    refine ⟨h.row.1, ?_⟩
    rcases h.row.2 with h0 | ⟨g', cap', cur, hv, hb', hg, r⟩
    · exact .inl h0
    · simp only [Value.slice.injEq, Option.some.injEq, Addr.mk.injEq, and_true] at hv
      obtain ⟨rfl, -, rfl⟩ := hv
      exact .inr ⟨g, cap, cur, rfl, hb', by rw [hwr.block g hgl hgf]; exact hg, r⟩
  have hst := (hrow'.stored (k * 3 + 2) v').1
  have hlen : Lens 3 vss := h.els.lens kTrieNode_ok
  rw [flat_set hlen k 2 _ v' hv (by decide)] at hst
  have hgv : ∀ b, v'.ownBlock = some b → ¬ b = g := fun b hb he => by
    rcases hnew b hb with h1 | h1
    · exact hgf (he ▸ h1)
    · omega
  have hset : ∀ b, ¬ b = g → (w'.setCell ⟨g, k * 3 + 2, none⟩ v').heap[b]? = w'.heap[b]? := fun b hb => Below.heap_setCell _ _ _ _ hb
  have hown2 : kIntS.ow v'.ownBlock.toList (w'.setCell ⟨g, k * 3 + 2, none⟩ v') [v'] ys := by
    refine kIntS_ok.oframe (ints_own (v := v') (xs := ys) hown hyw) fun b hb => hset b (hgv b (by simpa using hb))
  obtain ⟨a', c', rfl⟩ := form_of_own hown
  have hel := h.els.turnB (w' := w'.setCell ⟨g, k * 3 + 2, none⟩ (.slice a' ys.length c')) kTrieNode_ok hn.2 k f (Value.slice a' ys.length c').ownBlock.toList [.string (nd t k).1, .int .i64 (nd t k).2.1, .slice a' ys.length c'] ((nd t k).1, (nd t k).2.1, ys) hf
    (fun b hb hbf => (hset b (fun e => hn.1 (e ▸ hb))).trans (hwr.block b (h.fl b hb) hbf)) (TrieNode_owm (x := ((nd t k).1, (nd t k).2.1, ys)) hs hw hown2)
  refine ⟨_, _, ⟨by rw [List.length_set]; exact hst, hel, ?_, ?_⟩⟩
  · rw [List.nodup_cons]
    refine ⟨fun hm => ?_, nodup_setB hn.2 hf (by cases (Value.slice a' ys.length c').ownBlock <;> simp) fun b hb => ?_⟩
    · rcases mem_setB hm with hm | hm
      · exact hn.1 hm
      · exact hgv g (by simpa using hm) rfl
    · rcases hnew b (by simpa using hb) with h1 | h1
      · exact .inl h1
      · exact .inr fun hm => by have := h.fl b hm; omega
  · intro b hb
    rcases List.mem_cons.1 hb with rfl | hb
    · exact h.ge _ (by simp)
    · rcases mem_setB hb with hb | hb
      · exact h.ge b (by simp [hb])
      · rcases hnew b (by simpa using hb) with h1 | h1
        · exact h.ge b (by simp only [List.mem_cons]; exact .inr (hfm b h1))
        · omega
end
end Go.Proofs.YteknmjebokimjaaDoor
