/- The state of the program's walk through the pairs: its rows, its map. -/
import Derived.Test.YtedjahinlpehgaaPair2
namespace Go.Proofs.Ytedjahinlpehgaa
set_option linter.unusedVariables false
open Go.ChangeShapes Go.WideShapes Go.ChangeAt Go.RowKit
set_option maxRecDepth 100000

def kPr : Kind (Int × Int) := kPair kInt kInt
theorem kPr_ok : kPr.Ok := kPair_ok (kOf_ok _ _ _ _) (kOf_ok _ _ _ _)
def kTx : Kind ByteArray := kStrOf (fun _ => ByteArray.empty)
theorem kTx_ok : kTx.Ok := kOf_ok _ _ _ _
def pkV (p : Pr) : Value := .agg #[.int .i64 p.1, .int .i64 p.2.1]
theorem pkV_inj {p q : Pr} (h : pkV p = pkV q) : keyP p = keyP q := by simp [pkV] at h; simp [keyP, h]
theorem mem_pkV {o : List Pr} {q : Pr} : pkV q ∈ o.map pkV ↔ hasP o q = true := by
  rw [hasP_iff, List.mem_map, List.mem_map]
  constructor
  · rintro ⟨p, h1, h2⟩; exact ⟨p, h1, pkV_inj h2⟩
  · rintro ⟨p, h1, h2⟩; refine ⟨p, h1, ?_⟩; simp [keyP] at h2; simp [pkV, h2]
def txP (p : Pr) : ByteArray := p.2.2
/-- the block of a slice under way bears cells of that type -/
theorem Bd.type {α : Type} {e : TypeId} {K : Kind α} {base : Nat} {fp : List Nat} {w : World} {v : Value} {xs : List α} (h : Bd e K base fp w v xs) : ∀ k, v.ownBlock = some k → ∃ cs fr, w.heap[k]? = some (.cells cs e fr) := by
  obtain ⟨vss, fps, h1, _⟩ := h
  intro k hk
  rcases h1.2 with ⟨rfl, _⟩ | ⟨g, cap, cur, rfl, _, hh, _⟩
  · cases hk
  · simp only [Value.ownBlock, Option.some.injEq] at hk; subst hk; exact ⟨_, _, hh⟩
theorem scal_fps {α : Type} {V : α → Value} {p : α → Prop} {wt : α → Nat} {mk : Nat → α} {w : World} : ∀ {fps : List (List Nat)} {vss : List (List Value)} {xs : List α}, OwL (kOf V p wt mk) w fps vss xs → fps.flatten = []
  | [], [], [], _ => rfl
  | f :: fs, _ :: _, _ :: _, h => by rw [List.flatten_cons, h.1.1, scal_fps h.2]; rfl
theorem pr_fps {w : World} : ∀ {fps : List (List Nat)} {vss : List (List Value)} {xs : List (Int × Int)}, OwL kPr w fps vss xs → fps.flatten = []
  | [], [], [], _ => rfl
  | f :: fs, _ :: _, _ :: _, h => by
    obtain ⟨f1, f2, c, d, rfl, _, h1, h2⟩ := h.1
    rw [List.flatten_cons, h1.1, h2.1, pr_fps h.2]; rfl
theorem bd_pr_fp {base : Nat} {fp : List Nat} {w : World} {g n c : Nat} {xs : List (Int × Int)} {e : TypeId} (h : Bd e kPr base fp w (.slice (some ⟨g, 0, none⟩) n c) xs) : fp = [g] := by
  obtain ⟨vss, fps, _, h2, rfl, _⟩ := h; rw [pr_fps h2]; rfl
theorem bd_tx_fp {base : Nat} {fp : List Nat} {w : World} {g n c : Nat} {xs : List ByteArray} {e : TypeId} (h : Bd e kTx base fp w (.slice (some ⟨g, 0, none⟩) n c) xs) : fp = [g] := by
  obtain ⟨vss, fps, _, h2, rfl, _⟩ := h; rw [scal_fps h2]; rfl
theorem ints_fp {fp : List Nat} {w : World} {cs : List Value} {x : List Int} (h : kIntS.ow fp w cs x) : ∀ b ∈ fp, ∃ cs fr, w.heap[b]? = some (.cells cs 3 fr) := by
  obtain ⟨v, vss, fps, rfl, h1, h2, rfl, _⟩ := h
  intro b hb
  rw [scal_fps h2, List.append_nil] at hb
  rcases h1.2 with ⟨rfl, _⟩ | ⟨g, cap, cur, rfl, _, hh, _⟩
  · simp [Value.ownBlock] at hb
  · simp [Value.ownBlock] at hb; subst hb; exact ⟨_, _, hh⟩
theorem rows_fp {w : World} : ∀ {fps : List (List Nat)} {vss : List (List Value)} {xs : List (List Int)}, OwL kIntS w fps vss xs → ∀ b ∈ fps.flatten, ∃ cs fr, w.heap[b]? = some (.cells cs 3 fr)
  | [], [], [], _, b, hb => by simp at hb
  | f :: fs, _ :: _, _ :: _, h, b, hb => by
    rw [List.flatten_cons] at hb
    rcases List.mem_append.1 hb with hb | hb
    · exact ints_fp h.1 b hb
    · exact rows_fp h.2 b hb
theorem goes_fp {base : Nat} {fp : List Nat} {w : World} {v : Value} {xs : List (List Int)} (h : Bd 42 kIntS base fp w v xs) : ∀ b ∈ fp, ∃ cs t fr, w.heap[b]? = some (.cells cs t fr) ∧ (t = 42 ∨ t = 3) := by
  have ht := h.type
  obtain ⟨vss, fps, h1, h2, rfl, _⟩ := h
  intro b hb
  rcases List.mem_append.1 hb with hb | hb
  · obtain ⟨cs, fr, hh⟩ := ht b (by simpa using hb)
    exact ⟨cs, _, fr, hh, .inl rfl⟩
  · obtain ⟨cs, fr, hh⟩ := rows_fp h2 b hb
    exact ⟨cs, _, fr, hh, .inr rfl⟩
/-- the walk's state: the pairs Lp, the texts Lt, the map Lm, the goals G -/
structure WS (n0 : Nat) (wr : World) (gp cp gt ct bm : Nat) (gv : Value) (fp : List Nat) (L : List Pr) (G : List (List Int)) : Prop where
  pr : Bd 71 kPr n0 [gp] wr (.slice (some ⟨gp, 0, none⟩) L.length cp) (L.map keyP)
  tx : Bd 9 kTx n0 [gt] wr (.slice (some ⟨gt, 0, none⟩) L.length ct) (L.map txP)
  mp : MapV 71 wr bm (L.map pkV)
  bm : n0 ≤ bm
  gs : Bd 42 kIntS n0 fp wr gv G
section
variable {n0 : Nat} {wr wy : World} {gp cp gt ct bm : Nat} {gv : Value} {fp : List Nat} {L : List Pr} {G : List (List Int)}
theorem WS.frame (h : WS n0 wr gp cp gt ct bm gv fp L G) (h1 : wy.heap[gp]? = wr.heap[gp]?) (h2 : wy.heap[gt]? = wr.heap[gt]?) (h3 : wy.heap[bm]? = wr.heap[bm]?) (h4 : ∀ b ∈ fp, wy.heap[b]? = wr.heap[b]?) : WS n0 wy gp cp gt ct bm gv fp L G :=
  ⟨h.pr.frame kPr_ok (by simpa using h1), h.tx.frame kTx_ok (by simpa using h2), h.mp.frame h3, h.bm, h.gs.frame kIntS_ok h4⟩
theorem WS.lp (h : WS n0 wr gp cp gt ct bm gv fp L G) : gp < wr.heap.size ∧ n0 ≤ gp := ⟨h.pr.lt kPr_ok gp (by simp), h.pr.ge gp (by simp)⟩
theorem WS.lt (h : WS n0 wr gp cp gt ct bm gv fp L G) : gt < wr.heap.size ∧ n0 ≤ gt := ⟨h.tx.lt kTx_ok gt (by simp), h.tx.ge gt (by simp)⟩
theorem WS.later (h : WS n0 wr gp cp gt ct bm gv fp L G) (hb : Below wr.heap.size wr wy) : WS n0 wy gp cp gt ct bm gv fp L G :=
  h.frame (hb.block _ h.lp.1) (hb.block _ h.lt.1) (hb.block _ h.mp.lt) (fun b hm => hb.block b (h.gs.lt kIntS_ok b hm))
theorem WS.wrote {S : Nat → Prop} (h : WS n0 wr gp cp gt ct bm gv fp L G) (hw : Wrote S wr wy) (hS : ∀ k, S k → k < n0) : WS n0 wy gp cp gt ct bm gv fp L G :=
  h.frame (hw.block _ h.lp.1 (fun hs => by have := hS _ hs; have := h.lp.2; omega)) (hw.block _ h.lt.1 (fun hs => by have := hS _ hs; have := h.lt.2; omega)) (hw.block _ h.mp.lt (fun hs => by have := hS _ hs; have := h.bm; omega)) (fun b hm => hw.block b (h.gs.lt kIntS_ok b hm) (fun hs => by have := hS _ hs; have := h.gs.ge b hm; omega))
theorem WS.cells (h : WS n0 wr gp cp gt ct bm gv fp L G) {i : Nat} {p : Pr} (hp : L[i]? = some p) : wr.cell? ⟨gp, i * 2, none⟩ = some (.int .i64 p.1) ∧ wr.cell? ⟨gp, i * 2 + 1, none⟩ = some (.int .i64 p.2.1) ∧ wr.cell? ⟨gt, i, none⟩ = some (.string p.2.2) := by
  have r1 := h.pr.rd kPr_ok (by decide) (B := wr.heap.size) (h.pr.lt kPr_ok)
  have r2 := h.tx.rd kTx_ok (by decide) (B := wr.heap.size) (h.tx.lt kTx_ok)
  obtain ⟨v, b, off, hv, hb, _, hc⟩ := sl_at kPr_ok (n := 2) rfl (by decide) r1 (k := i) (x := keyP p) (by rw [List.getElem?_map, hp]; rfl)
  simp only [Option.some.injEq, Addr.mk.injEq, and_true] at hb
  obtain ⟨rfl, rfl⟩ := hb
  obtain ⟨c, d, rfl, ⟨rfl, _⟩, rfl, _⟩ := hv
  obtain ⟨u, b2, off2, hu, hb2, _, hc2⟩ := sl_one kTx_ok rfl r2 (k := i) (x := txP p) (by rw [List.getElem?_map, hp]; rfl)
  simp only [Option.some.injEq, Addr.mk.injEq, and_true] at hb2
  obtain ⟨rfl, rfl⟩ := hb2
  obtain ⟨hu, _⟩ := hu
  simp only [List.cons.injEq, and_true] at hu
  subst hu
  have k0 := hc 0 _ rfl; have k1 := hc 1 _ rfl
  simp only [Nat.zero_add, Nat.add_zero] at k0 k1 hc2
  exact ⟨k0, k1, hc2⟩
theorem type_ne {w : World} {a b : Nat} {c1 c2 : Array Value} {t1 t2 : TypeId} {f1 f2 : Nat × Nat} (h1 : w.heap[a]? = some (.cells c1 t1 f1)) (h2 : w.heap[b]? = some (.cells c2 t2 f2)) (ht : t1 ≠ t2) : a ≠ b := by
  intro e; subst e; rw [h1] at h2; simp at h2; exact ht h2.2.1
theorem WS.apart (h : WS n0 wr gp cp gt ct bm gv fp L G) : gp ≠ gt ∧ gp ≠ bm ∧ gt ≠ bm ∧ gp ∉ fp ∧ gt ∉ fp ∧ bm ∉ fp := by
  obtain ⟨c1, f1, h1⟩ := h.pr.type gp rfl
  obtain ⟨c2, f2, h2⟩ := h.tx.type gt rfl
  obtain ⟨es, cl, h3⟩ := h.mp.block
  refine ⟨type_ne h1 h2 (by decide), fun e => ?_, fun e => ?_, fun hm => ?_, fun hm => ?_, fun hm => ?_⟩
  · rw [e, h3] at h1; cases h1
  · rw [e, h3] at h2; cases h2
  · obtain ⟨c4, t, f4, h4, ht⟩ := goes_fp h.gs gp hm
    rcases ht with rfl | rfl
    · exact type_ne h1 h4 (by decide) rfl
    · exact type_ne h1 h4 (by decide) rfl
  · obtain ⟨c4, t, f4, h4, ht⟩ := goes_fp h.gs gt hm
    rcases ht with rfl | rfl
    · exact type_ne h2 h4 (by decide) rfl
    · exact type_ne h2 h4 (by decide) rfl
  · obtain ⟨c4, t, f4, h4, _⟩ := goes_fp h.gs bm hm
    rw [h3] at h4; cases h4
end
/-! ### an append that keeps the old cells in sight -/
section
variable {P : Program} {w : World}
theorem run_append_keeps (t ty : TypeId) (base : Nat) (e : TypeId) (i : TypeInfo) (z : Value) (size bytes : Nat) (ht : P.underlying t = some (.slice e)) (hi : P.info? e = some i) (hz : i.zero = some z)
    (hsize : i.size = size) (hby : i.bytes = bytes) (hzs : z.cells.size = size) (hsz : 0 < size)
    (g0 n cp : Nat) (xs : List Value) (hown : w.ownsRow base e size (.slice (some ⟨g0, 0, none⟩) n cp) n xs)
    (ad : Addr) (m c : Nat) (news : List Value) (hl : news.length = m * size) (hnews : ∀ j u, news[j]? = some u → w.cell? (ad.add j) = some u) (h1 : ∀ u ∈ news, u.oneCell' = true)
    (hm : 0 < m) (h63 : n + m ≤ maxLen) (hbytes : (n + m) * bytes ≤ 140737488355328) (hbase : base ≤ w.heap.size) (H : Nat) (hH : w.heap.size = H) :
    ∃ g cap w', (Builtin.append_ #[t, t] ty #[.slice (some ⟨g0, 0, none⟩) n cp, .slice (some ad) m c]).run P w = .ok (.slice (some ⟨g, 0, none⟩) (n + m) cap) w' ∧
      w'.ownsRow base e size (.slice (some ⟨g, 0, none⟩) (n + m) cap) (n + m) (xs ++ news) ∧ w.grownBy w' (Value.ownBlock (.slice (some ⟨g0, 0, none⟩) n cp)) ∧ (Value.ownBlock (.slice (some ⟨g0, 0, none⟩) n cp) = some g ∨ g = H) ∧ g < w'.heap.size ∧ ∀ j u, xs[j]? = some u → w'.cell? ⟨g0, j, none⟩ = some u := by
  obtain ⟨g, cap, w', hr, h2, h3, h4, h5⟩ := run_append_lies (P := P) w t ty base e i z size bytes ht hi hz hsize hby hzs hsz _ n xs hown ad m c news hl hnews h1 hm h63 hbytes hbase H hH
  refine ⟨g, cap, w', hr, h2, h3, h4, h5, fun j u hu => ?_⟩
  have hlt := (hown.lt g0 rfl).2
  have hjl := (List.getElem?_eq_some_iff.1 hu).1
  have hxl := hown.1
  have hold : w.cell? ⟨g0, j, none⟩ = some u := by rw [hown.cellAt j (by omega)]; exact hu
  by_cases hroom : n + m ≤ cp
  · obtain ⟨w2, hr2, h6, _⟩ := run_append_fits (P := P) w base t ty e i size ht hi hsize g0 n cp xs hown ad m c news hl hnews h1 hroom
    rw [hr] at hr2
    injection hr2 with e1 e2
    subst e2
    have hlen := h6.1
    rw [h6.cellAt j (by rw [Nat.add_mul]; omega), List.getElem?_append_left hjl]; exact hu
  · obtain ⟨v', w2, hr2, _, h7⟩ := run_append_arg_grows (P := P) w t ty e i z size bytes ht hi hz hsize hby hzs hsz ⟨g0, 0, none⟩ n cp xs hxl (hown.cells rfl) ad m c news hl hnews (by omega) h63 hbytes
    rw [hr] at hr2
    injection hr2 with e1 e2
    subst e2
    exact (h7.cell_far ⟨g0, j, none⟩ hlt (by simp)).trans hold
theorem step_append_keeps {ops : Array Oper} {o : Oper} {a : Act} {K : Act → World → Prop} {Q : Exit → Act → World → Prop} {E : Prop} (hgd : o.guard = none) (s x : Operand) (t : TypeId)
    (ho : o.op = .call { callee := .builtin .append, args := #[s, x], argTypes := #[t, t] })
    (base : Nat) (e : TypeId) (i : TypeInfo) (z : Value) (size bytes : Nat) (ht : P.underlying t = some (.slice e)) (hi : P.info? e = some i) (hz : i.zero = some z)
    (hsize : i.size = size) (hby : i.bytes = bytes) (hzs : z.cells.size = size) (hsz : 0 < size)
    (g0 n cp : Nat) (xs : List Value) (hs : a.eval s = .slice (some ⟨g0, 0, none⟩) n cp) (hown : w.ownsRow base e size (.slice (some ⟨g0, 0, none⟩) n cp) n xs)
    (ad : Addr) (m c : Nat) (news : List Value) (hx : a.eval x = .slice (some ad) m c) (hl : news.length = m * size) (hnews : ∀ j u, news[j]? = some u → w.cell? (ad.add j) = some u) (h1 : ∀ u ∈ news, u.oneCell' = true)
    (hm : 0 < m) (h63 : n + m ≤ maxLen) (hbytes : (n + m) * bytes ≤ 140737488355328) (hbase : base ≤ w.heap.size) (H : Nat) (hH : w.heap.size = H)
    (h : ∀ g cap w', w'.ownsRow base e size (.slice (some ⟨g, 0, none⟩) (n + m) cap) (n + m) (xs ++ news) → w.grownBy w' (Value.ownBlock (.slice (some ⟨g0, 0, none⟩) n cp)) → (Value.ownBlock (.slice (some ⟨g0, 0, none⟩) n cp) = some g ∨ g = H) → g < w'.heap.size → (∀ j u, xs[j]? = some u → w'.cell? ⟨g0, j, none⟩ = some u) → K (a.put o.dst (.slice (some ⟨g, 0, none⟩) (n + m) cap)) w') :
    if Region.wanted o (yielded ops a.tmps) = true then Oper.wp P o a w K Q else E := by
  have hw : Region.wanted o (yielded ops a.tmps) = true := by simp [Region.wanted, hgd]
  rw [if_pos hw]
  obtain ⟨g, cap, w', hr, h2, h3, h4, h5, h6⟩ := run_append_keeps (P := P) (w := w) t o.type base e i z size bytes ht hi hz hsize hby hzs hsz g0 n cp xs hown ad m c news hl hnews h1 hm h63 hbytes hbase H hH
  unfold Oper.wp execOp
  simp only [ho, resolve, invoke, builtin, Sem.run_bind, Sem.run_pure, Result.andThen_ok, List.map_toArray, List.map_cons, List.map_nil, hs, hx, hr]
  exact h g cap w' h2 h3 h4 h5 h6
end
/-- the state when the loop begins -/
theorem WS.start {n0 bm : Nat} {w4 : World} (hm : MapV 71 w4 bm [pkV pr0]) (h0 : n0 ≤ w4.heap.size) (hb : n0 ≤ bm) :
    WS n0 (((w4.alloc (.cells #[.int .i64 0, .int .i64 0] 71)).alloc (.cells #[.string ByteArray.empty] 9)).alloc (.cells #[] 42)) w4.heap.size 1 (w4.heap.size + 1) 1 bm (.slice (some ⟨w4.heap.size + 1 + 1, 0, none⟩) 0 0) [w4.heap.size + 1 + 1] [pr0] [] := by
  have hwf : (Lit.int .i64 0).wf = true := by decide
  have b1 : Bd 71 kPr n0 [w4.heap.size] (w4.alloc (.cells #[.int .i64 0, .int .i64 0] 71)) (.slice (some ⟨w4.heap.size, 0, none⟩) 1 1) [(0, 0)] :=
    ⟨[[.int .i64 0, .int .i64 0]], [[]], ⟨rfl, .inr ⟨w4.heap.size, 1, #[.int .i64 0, .int .i64 0], rfl, h0, heap_alloc_new _ _, Nat.le_refl _, by unfold maxLen; omega, rfl, rfl⟩⟩, ⟨⟨[], [], [.int .i64 0], [.int .i64 0], rfl, rfl, ⟨rfl, rfl, hwf⟩, ⟨rfl, rfl, hwf⟩⟩, trivial⟩, rfl, by simp, by intro b hb; simp at hb; omega⟩
  have b2 : Bd 9 kTx n0 [w4.heap.size + 1] ((w4.alloc (.cells #[.int .i64 0, .int .i64 0] 71)).alloc (.cells #[.string ByteArray.empty] 9)) (.slice (some ⟨w4.heap.size + 1, 0, none⟩) 1 1) [ByteArray.empty] := by
    have e : (w4.alloc (.cells #[.int .i64 0, .int .i64 0] 71)).heap.size = w4.heap.size + 1 := by simp
    rw [← e]
    exact ⟨[[.string ByteArray.empty]], [[]], ⟨rfl, .inr ⟨_, 1, #[.string ByteArray.empty], rfl, by rw [e]; omega, heap_alloc_new _ _, Nat.le_refl _, by unfold maxLen; omega, rfl, rfl⟩⟩, ⟨⟨rfl, rfl, by show ByteArray.empty.size ≤ _; simp [maxLen]⟩, trivial⟩, rfl, by simp, by intro b hb; simp at hb; omega⟩
  have b3 : Bd 42 kIntS n0 [w4.heap.size + 1 + 1] (((w4.alloc (.cells #[.int .i64 0, .int .i64 0] 71)).alloc (.cells #[.string ByteArray.empty] 9)).alloc (.cells #[] 42)) (.slice (some ⟨w4.heap.size + 1 + 1, 0, none⟩) 0 0) [] := by
    have e : ((w4.alloc (.cells #[.int .i64 0, .int .i64 0] 71)).alloc (.cells #[.string ByteArray.empty] 9)).heap.size = w4.heap.size + 1 + 1 := by simp
    rw [← e]
    exact Bd.fresh (World.ownsRow_made _ #[] 0 (by rw [e]; omega) (by unfold maxLen; omega) rfl)
  have hb1 := (b1.alloc kPr_ok (.cells #[.string ByteArray.empty] 9)).alloc kPr_ok (.cells #[] 42)
  have hb2 := b2.alloc kTx_ok (.cells #[] 42)
  refine ⟨hb1, hb2, ?_, hb, b3⟩
  exact hm.later ((((Below.refl _ _).alloc (Nat.le_refl _) _).alloc (by simp) _).alloc (by simp; omega) _)
end Go.Proofs.Ytedjahinlpehgaa
