/- Small laws for the program's walk through the pairs. -/
import Derived.Test.YtedjahinlpehgaaPair3
namespace Go.Proofs.Ytedjahinlpehgaa
set_option linter.unusedVariables false
open Go.ChangeShapes Go.WideShapes Go.ChangeAt Go.RowKit
set_option maxRecDepth 100000

theorem Try.infoPrI : (Try.prog.info? 71).map (fun i => (i.zero, i.size, i.bytes)) = some (some (.agg #[.int .i64 0, .int .i64 0]), 2, 16) := by kernel_rfl
theorem Try.infoStrI : (Try.prog.info? 9).map (fun i => (i.zero, i.size, i.bytes)) = some (some (.string ByteArray.empty), 1, 16) := by kernel_rfl
theorem news_two {w : World} {b : Nat} {x y : Value} (h : w.cell? ⟨b, 0, none⟩ = some x) (h1 : w.cell? ⟨b, 1, none⟩ = some y) : ∀ (j : Nat) (u : Value), [x, y][j]? = some u → w.cell? ((⟨b, 0, none⟩ : Addr).add j) = some u := by
  intro j u hj
  match j, hj with
  | 0, hj => simp at hj; subst hj; exact h
  | 1, hj => simp at hj; subst hj; exact h1
  | j + 2, hj => simp at hj
theorem tx_at {w : World} : ∀ {fps : List (List Nat)} {vss : List (List Value)} {L : List Pr} {i : Nat} {x y : Int} {s : ByteArray}, OwL kTx w fps vss (L.map txP) → L[i]? = some (x, y, s) → vss.flatten[i]? = some (.string s)
  | [], [], [], i, x, y, s, _, hp => by simp at hp
  | f :: fs, v :: vs, p :: L, 0, x, y, s, h, hp => by
    simp at hp; subst hp
    obtain ⟨_, rfl, _⟩ := h.1
    rfl
  | f :: fs, v :: vs, p :: L, i + 1, x, y, s, h, hp => by
    obtain ⟨_, rfl, _⟩ := h.1
    rw [List.flatten_cons]
    exact tx_at h.2 (by simpa using hp)
theorem made_intsN (n : Nat) (L : List Int) (h : L.length = n) : (madeCells (Value.int .i64 0).cells (n * 1)).toList = fill (ints L) (.int .i64 0) 0 := by
  rw [fill_zero, ints_length, h, Nat.mul_one]
  apply List.ext_getElem
  · simp [madeCells]
  · intro i h1 h2
    simp [madeCells, Value.cells, Nat.mod_one]
theorem made_ints3 (L : List Int) (h : L.length = 3) : (madeCells (Value.int .i64 0).cells (3 * 1)).toList = fill (ints L) (.int .i64 0) 0 := made_intsN 3 L h
theorem goes_len (A B : Mach) (o : List Pr) (p : Pr) : (goesP A B o p).length = 3 := rfl
theorem wf_small {n : Int} (h0 : 0 ≤ n) (h1 : n < 1000000) : (Lit.int .i64 n).wf = true := WalkArith.wf_i64 (by omega)
theorem fidx_le {α : Type} (p : α → Bool) (l : List α) : -1 ≤ fidx p l ∧ fidx p l ≤ (l.length : Int) := by
  unfold fidx
  cases h : l.findIdx? p with
  | none => simp
  | some i =>
    have := (List.findIdx?_eq_some_iff_getElem.1 h).1
    simp only; omega
theorem goes_wf {A B : Mach} {p : Pr} (h : (pairsR A B).length ≤ 144) : ∀ n ∈ goesP A B (pairsR A B) p, (Lit.int .i64 n).wf = true := by
  intro n hn
  simp only [goesP, List.mem_map] at hn
  obtain ⟨k, _, rfl⟩ := hn
  have := fidx_le (isK (goI A p.1 k) (goI B p.2.1 k)) (pairsR A B)
  unfold idxP
  exact WalkArith.wf_i64 (by omega)
theorem goes_at (A B : Mach) (o : List Pr) (p : Pr) (k : Nat) (hk : k < 3) : (ints (goesP A B o p))[k]? = some (.int .i64 (idxP o (goI A p.1 k) (goI B p.2.1 k))) := by
  match k, hk with
  | 0, _ => rfl
  | 1, _ => rfl
  | 2, _ => rfl
theorem own_ty {w : World} {base : Nat} {e : TypeId} {size n g c : Nat} {xs : List Value} (h : w.ownsRow base e size (.slice (some ⟨g, 0, none⟩) n c) n xs) : ∃ cs fr, w.heap[g]? = some (.cells cs e fr) := by
  rcases h.2 with ⟨hv, _⟩ | ⟨g', cap, cur, hv, _, hh, _⟩
  · cases hv
  · simp only [Value.slice.injEq, Option.some.injEq, Addr.mk.injEq, and_true, true_and] at hv
    obtain ⟨rfl, _⟩ := hv
    exact ⟨_, _, hh⟩
theorem WS.apartN {n0 : Nat} {wr : World} {gp cp gt ct bm N : Nat} {gv : Value} {fp : List Nat} {L : List Pr} {G : List (List Int)} {xs : List Value} (h : WS n0 wr gp cp gt ct bm gv fp L G) (hN : wr.ownsRow n0 3 1 (.slice (some ⟨N, 0, none⟩) 3 3) 3 xs) : N ≠ gp ∧ N ≠ gt ∧ N ≠ bm := by
  obtain ⟨c0, f0, h0⟩ := own_ty hN
  obtain ⟨c1, f1, h1⟩ := h.pr.type gp rfl
  obtain ⟨c2, f2, h2⟩ := h.tx.type gt rfl
  obtain ⟨es, cl, h3⟩ := h.mp.block
  exact ⟨type_ne h0 h1 (by decide), type_ne h0 h2 (by decide), fun e => by rw [e, h3] at h0; cases h0⟩
theorem WS.store {n0 : Nat} {wr : World} {gp cp gt ct bm N k : Nat} {gv u : Value} {fp : List Nat} {L : List Pr} {G : List (List Int)} (h : WS n0 wr gp cp gt ct bm gv fp L G) (hN : N ≠ gp ∧ N ≠ gt ∧ N ≠ bm) (hf : N ∉ fp) : WS n0 (wr.setCell ⟨N, k, none⟩ u) gp cp gt ct bm gv fp L G := by
  have hw := wrote_cell wr N k u
  exact h.frame (hw.block _ h.lp.1 (fun e => hN.1 e.symm)) (hw.block _ h.lt.1 (fun e => hN.2.1 e.symm)) (hw.block _ h.mp.lt (fun e => hN.2.2 e.symm)) (fun b hm => hw.block b (h.gs.lt kIntS_ok b hm) (fun e => hf (e ▸ hm)))
theorem fin_wrote {S : Nat → Prop} {w W2 wr : World} (h : Below w.heap.size w W2) (hw : Wrote (fun k => S k ∨ w.heap.size + 2 ≤ k) W2 wr) : Wrote S w wr :=
  ⟨hw.os.trans h.os, hw.tape.trans h.tape, hw.output.trans h.output, Nat.le_trans h.size hw.size, fun k hk hs => (hw.block k (Nat.lt_of_lt_of_le hk h.size) (by rintro (h1 | h1); exact hs h1; omega)).trans (h.block k hk)⟩
theorem any_yes_no {α : Type} {p : α → Bool} {l : List α} {i : Nat} {x : α} (h : (l.take i).any p = false) (hx : l[i]? = some x) (hp : p x = false) : (l.take (i + 1)).any p = false := any_no h hx hp
theorem idx_yes {A B : Mach} {p : Pr} {o : List Pr} {k j : Nat} {r : Pr} (hT : foldP A B p o (k + 1) <+: pairsR A B) (hn : ((pairsR A B).map keyP).Nodup) (hh : hasP (foldP A B p o k) (nextP A B p k) = true) (hj : (foldP A B p o k)[j]? = some r) (h1 : r.1 = goI A p.1 k) (h2 : r.2.1 = goI B p.2.1 k) : idxP (pairsR A B) (goI A p.1 k) (goI B p.2.1 k) = (j : Int) := by
  have e : foldP A B p o (k + 1) = foldP A B p o k := visit_yes hh
  rw [e] at hT
  have h3 := idxP_pre hn hT hh
  have hno : ((foldP A B p o k).map keyP).Nodup := by
    obtain ⟨r, hr⟩ := hT
    rw [← hr, List.map_append, List.nodup_append] at hn
    exact hn.1
  refine h3.trans ?_
  have h4 := idxP_at hno hj
  rw [h1, h2] at h4
  exact h4
theorem idx_no {A B : Mach} {p : Pr} {o : List Pr} {k : Nat} (hT : foldP A B p o (k + 1) <+: pairsR A B) (hn : ((pairsR A B).map keyP).Nodup) (hh : hasP (foldP A B p o k) (nextP A B p k) = false) : idxP (pairsR A B) (goI A p.1 k) (goI B p.2.1 k) = ((foldP A B p o k).length : Int) := by
  have e : foldP A B p o (k + 1) = foldP A B p o k ++ [nextP A B p k] := visit_no hh
  rw [e] at hT
  have hno : ((foldP A B p o k ++ [nextP A B p k]).map keyP).Nodup := by
    obtain ⟨r, hr⟩ := hT
    rw [← hr, List.map_append, List.nodup_append] at hn
    exact hn.1
  have hq : hasP (foldP A B p o k ++ [nextP A B p k]) (nextP A B p k) = true := by rw [hasP_iff]; simp
  exact (idxP_pre hn hT hq).trans (idxP_at hno (i := (foldP A B p o k).length) (p := nextP A B p k) (by simp))
theorem WS.push {n0 : Nat} {wr : World} {gp cp gt ct bm N n : Nat} {gv u : Value} {fp : List Nat} {L : List Pr} {G : List (List Int)} {x : List Int} (h : WS n0 wr gp cp gt ct bm gv fp L G) (hx : kIntS.ow [N] wr [u] x) (hNf : N ∉ fp) (hNn : n0 ≤ N) (hsz : n0 ≤ wr.heap.size) (hn : G.length = n) :
    ∃ xs, wr.ownsRow n0 42 1 gv n xs ∧ ∀ g cap w', w'.ownsRow n0 42 1 (.slice (some ⟨g, 0, none⟩) (n + 1) cap) (n + 1) (xs ++ [u]) → wr.grownBy w' gv.ownBlock → (gv.ownBlock = some g ∨ g = wr.heap.size) → ∃ fp', WS n0 w' gp cp gt ct bm (.slice (some ⟨g, 0, none⟩) (n + 1) cap) fp' L (G ++ [x]) := by
  subst hn
  obtain ⟨a1, a2, a3, a4, a5, a6⟩ := h.apart
  have hp := h.lp; have ht := h.lt; have hm := h.mp.lt
  obtain ⟨vss, fps, h1, h2, h3, h4, h5⟩ := h.gs
  subst h3
  refine ⟨vss.flatten, h1, fun g cap w' hown hgrow hat => ⟨g :: (fps.flatten ++ [N]), ?_⟩⟩
  have hne : ∀ k, k ∉ gv.ownBlock.toList ++ fps.flatten → some k ≠ gv.ownBlock := fun k hk e => hk (by rw [← e]; simp)
  refine ⟨h.pr.frame kPr_ok ?_, h.tx.frame kTx_ok ?_, h.mp.frame (hgrow.block _ hm (hne _ a6)), h.bm, ?_⟩
  · intro b hb; simp at hb; subst hb; exact hgrow.block _ hp.1 (hne _ a4)
  · intro b hb; simp at hb; subst hb; exact hgrow.block _ ht.1 (hne _ a5)
  · exact Bd.app rfl kIntS_ok h1 h2 h4 h5 hx (by simp) (by intro b hb; simp at hb; subst hb; exact hNf) (by intro b hb; simp at hb; subst hb; exact hNn) hown hgrow hat hsz
/-- the region in which a pair and its text are laid to the others -/
def Laid15 (n0 : Nat) (w : World) (gp gt : Nat) (L : List Pr) (q : Pr) (v9 v10 : Value) (wx : World) : Prop :=
  ∃ g1 c1 g2 c2, v9 = .slice (some ⟨g1, 0, none⟩) (L.length + 1) c1 ∧ v10 = .slice (some ⟨g2, 0, none⟩) (L.length + 1) c2 ∧ Bd 71 kPr n0 [g1] wx v9 ((L ++ [q]).map keyP) ∧ Bd 9 kTx n0 [g2] wx v10 ((L ++ [q]).map txP) ∧ Wrote (fun k => k = gp ∨ k = gt ∨ w.heap.size ≤ k) w wx
theorem WS.laid15 {n0 : Nat} {w10 wq wx : World} {gp cp gt ct bm : Nat} {gv v9 v10 : Value} {fp : List Nat} {L : List Pr} {G : List (List Int)} {q : Pr} (h : WS n0 w10 gp cp gt ct bm gv fp L G) (hg : w10.grownBy wq (some bm)) (hm : MapV 71 wq bm (L.map pkV ++ [pkV q])) (hl : Laid15 n0 wq gp gt L q v9 v10 wx) :
    ∃ g1 c1 g2 c2, v9 = .slice (some ⟨g1, 0, none⟩) (L ++ [q]).length c1 ∧ v10 = .slice (some ⟨g2, 0, none⟩) (L ++ [q]).length c2 ∧ WS n0 wx g1 c1 g2 c2 bm gv fp (L ++ [q]) G := by
  obtain ⟨a1, a2, a3, a4, a5, a6⟩ := h.apart
  obtain ⟨g1, c1, g2, c2, rfl, rfl, b1, b2, hw⟩ := hl
  refine ⟨g1, c1, g2, c2, by rw [List.length_append]; rfl, by rw [List.length_append]; rfl, ?_, ?_, ?_, h.bm, ?_⟩
  · rw [List.length_append]; exact b1
  · rw [List.length_append]; exact b2
  · rw [List.map_append]
    exact hm.frame (hw.block _ hm.lt (by rintro (e | e | e); exact a2 e.symm; exact a3 e.symm; have := hm.lt; omega))
  · refine h.gs.frame kIntS_ok fun b hb => ?_
    have hlt := h.gs.lt kIntS_ok b hb
    have hsz := hg.size
    have h1 := hg.block b hlt (by simp only [ne_eq, Option.some.injEq]; intro e; exact a6 (e ▸ hb))
    exact (hw.block b (by omega) (by rintro (e | e | e); exact a4 (e ▸ hb); exact a5 (e ▸ hb); omega)).trans h1
theorem WS.grewN {n0 : Nat} {w10 wq wx : World} {gp gt bm N : Nat} {L : List Pr} {q : Pr} {v9 v10 : Value} {xs : List Value} (hN : w10.ownsRow n0 3 1 (.slice (some ⟨N, 0, none⟩) 3 3) 3 xs) (ha : N ≠ gp ∧ N ≠ gt ∧ N ≠ bm) (hg : w10.grownBy wq (some bm)) (hl : Laid15 n0 wq gp gt L q v9 v10 wx) : wx.ownsRow n0 3 1 (.slice (some ⟨N, 0, none⟩) 3 3) 3 xs := by
  obtain ⟨g1, c1, g2, c2, rfl, rfl, b1, b2, hw⟩ := hl
  have hlt := (hN.lt N rfl).2
  have hsz := hg.size
  refine own_frame hN fun b hb => ?_
  simp [Value.ownBlock] at hb
  subst hb
  exact (hw.block _ (by omega) (by rintro (e | e | e); exact ha.1 e; exact ha.2.1 e; omega)).trans (hg.block _ hlt (by simp only [ne_eq, Option.some.injEq]; exact ha.2.2))
end Go.Proofs.Ytedjahinlpehgaa
