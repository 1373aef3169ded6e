/- The reference's cut of a box that meets: the walk. -/
import Derived.Test.YthlajmncpejhmaaVol5
namespace Go.Proofs.Ythlajmncpejhmaa
set_option linter.unusedVariables false
open Go.ChangeShapes Go.WideShapes Go.ChangeAt Go.RowKit
set_option maxRecDepth 100000

theorem outR_len {a b : Bx} : ∀ i, (outR a b i).length ≤ 2 * i
  | 0 => Nat.le_refl _
  | i + 1 => by
    have := outR_len (a := a) (b := b) i
    have h1 : (pc1 a b i).length ≤ 1 := by unfold pc1; split <;> simp
    have h2 : (pc2 a b i).length ≤ 1 := by unfold pc2; split <;> simp
    rw [outR, List.length_append, List.length_append]; omega
theorem set_set3 {Z : Bx} {i : Nat} (p q : Int × Int) : (Z.set i p).set i q = Z.set i q := by rw [List.set_set]
theorem getD_setV {Z : Bx} {i : Nat} (h : i < Z.length) (p : Int × Int) : (Z.set i p).getD i (0, 0) = p := by
  rw [List.getD_eq_getElem?_getD, List.getElem?_set_self h]; rfl

theorem own_frame2 {w w' : World} {base : Nat} {e : TypeId} {v : Value} {n size : Nat} {row : List Value} (h : w.ownsRow base e size v n row) (hb : ∀ b, v.ownBlock = some b → w'.heap[b]? = w.heap[b]?) : w'.ownsRow base e size v n row := by
  refine ⟨h.1, ?_⟩
  rcases h.2 with h0 | ⟨g, cap', cur, rfl, hb', hg, r⟩
  · exact .inl h0
  · exact .inr ⟨g, cap', cur, rfl, hb', by rw [hb g rfl]; exact hg, r⟩
/-- where the cut of a side stands -/
structure CS (w : World) (B8 L cp O : Nat) (y1 y2 x2 : Int) (wc : World) (v : Value) (vs : List Value) (T : List Bx) (Z : Bx) : Prop where
  own : wc.ownsRow B8 28 1 v T.length vs
  pts : Pts wc (fun k => v.ownBlock ≠ some k ∧ B8 ≤ k) vs T
  left : wc.ownsRow w.heap.size 64 2 (.slice (some ⟨L, 0, none⟩) 3 cp) 3 (sds Z)
  bel : Below w.heap.size w wc
  size : O + 2 ≤ wc.heap.size
  o0 : wc.cell? ⟨O, 0, none⟩ = some (.int .i64 y1)
  o1 : wc.cell? ⟨O, 1, none⟩ = some (.int .i64 y2)
  s1 : wc.cell? ⟨O + 1, 1, none⟩ = some (.int .i64 x2)
  ne : ∀ k, v.ownBlock = some k → k < O ∨ O + 2 ≤ k
  ll : L < B8
  lo : B8 ≤ O
section
variable {w wc w' : World} {B8 L cp O : Nat} {y1 y2 x1 x2 : Int} {v : Value} {vs : List Value} {T : List Bx} {Z Z' : Bx}
theorem CS.start (h1 : wc.ownsRow B8 28 1 v T.length vs) (h2 : Pts wc (fun k => v.ownBlock ≠ some k ∧ B8 ≤ k) vs T) (h3 : wc.ownsRow w.heap.size 64 2 (.slice (some ⟨L, 0, none⟩) 3 cp) 3 (sds Z)) (h4 : Below w.heap.size w wc) (h5 : L < B8) (h6 : B8 ≤ wc.heap.size) :
    CS w B8 L cp wc.heap.size y1 y2 x2 ((wc.alloc (.cells #[.int .i64 y1, .int .i64 y2] 64)).alloc (.cells #[.int .i64 x1, .int .i64 x2] 64)) v vs T Z := by
  have hb : Below wc.heap.size wc ((wc.alloc (.cells #[.int .i64 y1, .int .i64 y2] 64)).alloc (.cells #[.int .i64 x1, .int .i64 x2] 64)) := ralloc (ralloc (Below.refl _ _) _) _
  refine ⟨own_later h1 hb, h2.frame hb.size fun b hl hn => ⟨hb.block b hl, hn⟩, own_later h3 hb, rstep h4 hb, by simp, ?_, ?_, ?_, fun k hk => .inl (h1.lt k hk).2, h5, h6⟩
  · exact cell_alloc _ (by go_simp)
  · exact cell_alloc _ (by go_simp)
  · go_simp
theorem CS.later (h : CS w B8 L cp O y1 y2 x2 wc v vs T Z) (hb : Below wc.heap.size wc w') : CS w B8 L cp O y1 y2 x2 w' v vs T Z :=
  ⟨own_later h.own hb, h.pts.frame hb.size fun b hl hn => ⟨hb.block b hl, hn⟩, own_later h.left hb, rstep h.bel hb, Nat.le_trans h.size hb.size, below_later hb h.o0, below_later hb h.o1, below_later hb h.s1, h.ne, h.ll, h.lo⟩
theorem CS.news (h : CS w B8 L cp O y1 y2 x2 wc v vs T Z) (o : Obj) : ∀ j u, (sds Z)[j]? = some u → (wc.alloc o).cell? ((⟨L, 0, none⟩ : Addr).add j) = some u := by
  intro j u hj
  rw [addr_addV, Nat.zero_add]
  exact cell_alloc o (own_cellk h.left hj)
theorem CS.app (h : CS w B8 L cp O y1 y2 x2 wc v vs T Z) {c : Value} {p : Bx} {g cap : Nat} (hp : BxAt wc c p (fun k => v.ownBlock ≠ some k ∧ B8 ≤ k)) (ho : w'.ownsRow B8 28 1 (.slice (some ⟨g, 0, none⟩) (T.length + 1) cap) (T.length + 1) (vs ++ [c])) (hg : wc.grownBy w' v.ownBlock) (hat : v.ownBlock = some g ∨ g = wc.heap.size) :
    CS w B8 L cp O y1 y2 x2 w' (.slice (some ⟨g, 0, none⟩) (T.length + 1) cap) (vs ++ [c]) (T ++ [p]) Z := by
  have hlt := h.own.lt
  have hll := h.ll; have hlo := h.lo; have hsz := h.size
  have hwb : w.heap.size ≤ L := (h.left.lt L rfl).1
  refine ⟨by rw [List.length_append]; exact ho, Pts.grown h.pts ⟨hp, trivial⟩ hg hat, own_frame2 h.left (fun k hk => hg.block k (h.left.lt k hk).2 fun e => ?_), Below.grown h.bel hg h.bel.size (fun q hq => ?_), Nat.le_trans h.size hg.size, ?_, ?_, ?_, fun k hk => ?_, h.ll, h.lo⟩
  · cases hk; have := (hlt L e.symm).1; omega
  · have := (hlt q hq).1; omega
  · exact (hg.cell_far ⟨O, 0, none⟩ (by simp; omega) (fun e => by have := h.ne O e.symm; omega)).trans h.o0
  · exact (hg.cell_far ⟨O, 1, none⟩ (by simp; omega) (fun e => by have := h.ne O e.symm; omega)).trans h.o1
  · exact (hg.cell_far ⟨O + 1, 1, none⟩ (by simp; omega) (fun e => by have := h.ne (O + 1) e.symm; omega)).trans h.s1
  · have hk' : g = k := by simpa [Value.ownBlock] using hk
    subst hk'
    rcases hat with e | e
    · exact h.ne g e
    · exact .inr (by rw [e]; exact hsz)
theorem CS.put (h : CS w B8 L cp O y1 y2 x2 wc v vs T Z) (k : Nat) (u : Value) (hz : (sds Z).set k u = sds Z') : CS w B8 L cp O y1 y2 x2 (wc.setCell ⟨L, k, none⟩ u) v vs T Z' := by
  have hll := h.ll; have hlo := h.lo; have hsz := h.size
  have hwb : w.heap.size ≤ L := (h.left.lt L rfl).1
  have hfar : ∀ b, B8 ≤ b → (wc.setCell ⟨L, k, none⟩ u).heap[b]? = wc.heap[b]? := fun b hb => Below.heap_setCell _ _ _ _ (by show b ≠ L; omega)
  refine ⟨own_frame2 h.own fun b hb => hfar b (h.own.lt b hb).1, h.pts.frame (by simp) fun b hl hn => ⟨hfar b hn.2, hn⟩, by rw [← hz]; exact own_set h.left k u, h.bel.setCell (p := ⟨L, k, none⟩) hwb u, by simp; exact h.size, ?_, ?_, ?_, h.ne, h.ll, h.lo⟩
  · exact (World.cell?_of_block (w := wc) (hfar O (by omega))).trans h.o0
  · exact (World.cell?_of_block (w := wc) (hfar O (by omega))).trans h.o1
  · exact (World.cell?_of_block (w := wc) (hfar (O + 1) (by omega))).trans h.s1
end

set_option maxHeartbeats 8000000 in
theorem spec_cut_yes (a b : Option Addr) (cap cap' : Nat) (xs ys : Bx) (w : World) (ha : Rw w a (sds xs)) (hb : Rw w b (sds ys)) (hx : Ok3 xs) (hy : Ok3 ys) (hm : meetB xs ys = true) :
    Calls Try.prog 59 #[.agg #[.slice a 3 cap], .agg #[.slice b 3 cap']] w (CutOf (cutS xs ys) w) := by
  obtain ⟨i0, hi, hz0, hz1, hz2⟩ := info_parts Try.infoSide
  obtain ⟨j0, hj, hy0, hy1, hy2⟩ := info_parts Try.infoBoxV
  have hR : cutS xs ys = outR xs ys 3 := by unfold cutS; rw [if_pos hm, cutF_out hx.2 hy.2]
  rw [hR]
  have hmr := meetB_MR hx.2 hy.2
  rw [hm] at hmr
  have HA := Lib.hid ha; have HB := Lib.hid hb
  have HCM := Lib.hid (fun (wx : World) (h1 : Rw wx a (sds xs)) (h2 : Rw wx b (sds ys)) => spec_meet a b cap cap' xs ys wx h1 h2 hx.2 hy.2)
  unfold MadeBox at HCM
  rw [hmr, hx.2, hy.2] at HCM
  have HX3 := Lib.hid hx.2
  have HY3 := Lib.hid hy.2
  have HYR := Lib.hid hy.1
  obtain ⟨b1, off1, rfl, hbl1, hc1⟩ := ha.at (sds_ne (k := 0) (by rw [hx.2]; omega))
  obtain ⟨b2, off2, rfl, hbl2, hc2⟩ := hb.at (sds_ne (k := 0) (by rw [hy.2]; omega))
  have HNW := Lib.hid (fun (wx : World) (h : Below w.heap.size w wx) => news_rwV hbl1 hc1 h)
  have HCY := Lib.hid (fun (wx : World) (h : Below w.heap.size w wx) (i : Nat) (hi : i < ys.length) => And.intro (below_cellk h (hc2 _ _ (sds_lo ys i hi)) hbl2) (below_cellk h (hc2 _ _ (sds_hi ys i hi)) hbl2))
  have hsl : (sds xs).length = 3 * 2 := by rw [sds_length, hx.2]
  have HSL := Lib.hid hsl
  have HL0 : Hid (leftR xs ys 0 = xs) := Lib.hid rfl
  have HLL := Lib.hid (fun (i : Nat) (h : i ≤ 3) => leftR_len (b := ys) hx.2 h)
  have HLA := Lib.hid (fun (i : Nat) (h : i < 3) => leftR_at (a := xs) (b := ys) (show i < xs.length by rw [hx.2]; exact h))
  have HLN := Lib.hid (fun (i : Nat) (h : i < 3) => leftR_next (a := xs) (b := ys) (show i < xs.length by rw [hx.2]; exact h))
  have HOL := Lib.hid (fun i => outR_len (a := xs) (b := ys) i)
  have HON := Lib.hid (fun i => show outR xs ys (i + 1) = outR xs ys i ++ (pc1 xs ys i ++ pc2 xs ys i) from rfl)
  unfold pc1 pc2 at HON
  have HO0 : Hid (outR xs ys 0 = []) := Lib.hid rfl
  clear hbl1 hc1 hsl hbl2 hc2 ha hb hx hy hm hR hmr
  generalize outR xs ys = OU at *
  generalize leftR xs ys = LF at *
  go_enter Try.func59, Try.ntmps59
  go_wp2_with fail
  refine (HCM.out _ (HA.out.below (below_2v _ _ _)) (HB.out.below (below_2v _ _ _))).mono ?_
  rintro e w5 ⟨v5, rfl, ho5, hb5⟩
  have HB5 := Lib.hid (rstep (below_2v w _ _) hb5)
  have k0 : w5.cell? ⟨w.heap.size, 0, none⟩ = some (.slice (some ⟨b1, off1, none⟩) 3 cap) := below_later hb5 (by go_simp)
  have k1 : w5.cell? ⟨w.heap.size + 1, 0, none⟩ = some (.slice (some ⟨b2, off2, none⟩) 3 cap') := below_later hb5 (by go_simp)
  have hs0 : w.heap.size < w5.heap.size := World.block_lt_of_cell? w5 _ k0
  have hs1 : w.heap.size + 1 < w5.heap.size := World.block_lt_of_cell? w5 _ k1
  obtain ⟨a5, cap5, rfl⟩ := form_of_own ho5
  clear ho5 hb5
  have HOM := Lib.hid (World.ownsRow_made (w5.alloc (.cells #[.slice a5 (MR xs ys).fst.length cap5] 28)) (e := 64) (size := 2) (base := w.heap.size) #[] 0 (by simp; omega) (by unfold maxLen; omega) rfl)
  simp only [World.size_alloc] at HOM
  generalize (MR xs ys).fst.length = ln at *
  go_wp2_with (at_builtin; refine wpList_append_lies _ rfl _ _ 26 rfl w.heap.size 64 i0 (.agg #[.int .i64 0, .int .i64 0]) 2 16 Try.underlying26 hi hz0 hz1 hz2 rfl (by decide) _ 0 [] rfl HOM.out ⟨b1, off1, none⟩ 3 cap (sds xs) rfl HSL.out (HNW.out _ (ralloc (ralloc HB5.out _) _)) (sds_oc xs) (by decide) (by unfold maxLen; omega) (by omega) (by simp; omega) _ rfl ?_)
  intro L cp w8 hown hgrow hat hlt
  have HO8 : Hid (w8.ownsRow w.heap.size 64 2 (.slice (some ⟨L, 0, none⟩) 3 cp) 3 (sds xs)) := Lib.hid hown
  have HB8 := Lib.hid (Below.grown (ralloc (ralloc HB5.out (.cells #[.slice a5 ln cap5] 28)) (.cells #[] 64)) hgrow (by simp; omega) (fun q hq => (HOM.out.lt q hq).1))
  have k2 : w8.cell? ⟨w.heap.size + 1, 0, none⟩ = some (.slice (some ⟨b2, off2, none⟩) 3 cap') := by
    refine (hgrow.cell_far ⟨w.heap.size + 1, 0, none⟩ (by simp; omega) ?_).trans (cell_alloc _ (cell_alloc _ k1))
    simp [Value.ownBlock]; omega
  have hs2 : w.heap.size + 1 < w8.heap.size := World.block_lt_of_cell? w8 _ k2
  have hltL := hlt
  clear hown hgrow hat k0 k1 hs0 hs1
  go_wp2_with fail
  go_loopw [7, 35] (fun ov iv wr => ∃ (i : Nat) (v : Value) (vs : List Value), i ≤ 3 ∧ iv = .int .i64 (i : Int) ∧ ov = v ∧ Hid (wr.ownsRow w8.heap.size 28 1 v (OU i).length vs) ∧ Hid (Pts wr (fun k => v.ownBlock ≠ some k ∧ w8.heap.size ≤ k) vs (OU i)) ∧ Hid (wr.ownsRow w.heap.size 64 2 (.slice (some ⟨L, 0, none⟩) 3 cp) 3 (sds (LF i))) ∧ Hid (Below w.heap.size w wr) ∧ w8.heap.size ≤ wr.heap.size ∧ Hid ((OU i).length = 0 → v = .slice none 0 0)) (fun _ iv _ => 3 - (intOf iv).toNat)
  case atStart => exact ⟨0, _, [], by omega, rfl, rfl, Lib.hid (by rw [HO0.out]; exact World.ownsRow_nil _ _ _ _), Lib.hid (by rw [HO0.out]; trivial), Lib.hid (by rw [HL0.out]; exact HO8.out), HB8, Nat.le_refl _, Lib.hid (fun _ => rfl)⟩
  case round =>
    obtain ⟨w0, rfl⟩ : ∃ z : World, z = wr := ⟨_, rfl⟩
    obtain ⟨i, v, vs, hi3, rfl, rfl, HO, HP, HL, HBW, hs3, HE⟩ := hrel
    by_cases hil : i < 3
    case neg =>
      obtain rfl : i = 3 := by omega
      go_wp2_with fail
      go_ret
      exact ⟨_, vs, rfl, own_mono HO.out (by omega), HP.out.frame (Nat.le_refl _) (fun b hb hn => ⟨rfl, hn.1, by have := hn.2; omega⟩), HBW.out, HE.out⟩
    have hZl := HLL.out i hi3
    have hZa := HLA.out i hil
    obtain ⟨d3, d4⟩ := HCY.out w0 HBW.out i (by rw [HY3.out]; exact hil)
    have l0 := own_cellk HL.out (sds_lo (LF i) i (by rw [hZl]; exact hil))
    have l1 := own_cellk HL.out (sds_hi (LF i) i (by rw [hZl]; exact hil))
    rw [hZa] at l0 l1
    have hLb := HL.out.lt L rfl
    have hyr := HYR.out (ys.getD i (0, 0)) (by rw [List.getD_eq_getElem?_getD, List.getElem?_eq_getElem (show i < ys.length by rw [HY3.out]; exact hil)]; exact List.getElem_mem _)
    have hON := HON.out i
    have hLN := HLN.out i hil
    have hol := HOL.out i
    rw [← Nat.add_assoc] at d4
    have hb2l : b2 < w0.heap.size := World.block_lt_of_cell? w0 _ d3
    have hi0 : (0 : Int) ≤ (i : Int) := Int.natCast_nonneg _
    have hi3i : (i : Int) < 3 := by omega
    clear HYR
    generalize xs.getD i (0, 0) = x at *
    generalize ys.getD i (0, 0) = y at *
    obtain ⟨x1, x2⟩ := x
    obtain ⟨y1, y2⟩ := y
    simp only at hON hLN d3 d4 l0 l1 hyr
    unfold mQ at hLN
    simp only at hLN
    have HZL := Lib.hid hZl
    have HZA := Lib.hid hZa
    have HNL := Lib.hid hLN
    have HNO := Lib.hid hON
    clear hON hLN hZl hZa
    generalize hZ : LF i = Z at *
    generalize hT : OU i = T at *
    clear hZ hT
    have hw1 : IntKind.i64.wrap (y1 - 1) = y1 - 1 := IntWalk.i64_in _ (by omega)
    have hw2 : IntKind.i64.wrap (y2 + 1) = y2 + 1 := IntWalk.i64_in _ (by omega)
    have hlb1 : L < w0.heap.size := hLb.2
    have m3 := cell_alloc (.cells #[.int .i64 y1, .int .i64 y2] 64) l0
    have m4 := cell_alloc (.cells #[.int .i64 y1, .int .i64 y2] 64) l1
    have HC0 := Lib.hid (CS.start (y1 := y1) (y2 := y2) (x1 := x1) (x2 := x2) HO.out HP.out HL.out HBW.out hltL hs3)
    have HLO : Hid ((sds Z)[i * 2]? = some (.int .i64 x1)) := Lib.hid (by have := sds_lo Z i (by rw [HZL.out]; exact hil); rw [HZA.out] at this; exact this)
    have HHI : Hid ((sds Z)[i * 2 + 1]? = some (.int .i64 x2)) := Lib.hid (by have := sds_hi Z i (by rw [HZL.out]; exact hil); rw [HZA.out] at this; exact this)
    have HS1 : Hid ((sds Z).set (i * 2 + 1) (.int .i64 (y1 - 1)) = sds (Z.set i (x1, y1 - 1))) := Lib.hid (by rw [sds_sethi Z i _ (by rw [HZL.out]; exact hil), HZA.out])
    have HSA : Hid ((sds Z).set (i * 2) (.int .i64 y1) = sds (Z.set i (y1, x2))) := Lib.hid (by rw [sds_setlo Z i _ (by rw [HZL.out]; exact hil), HZA.out])
    clear HO HP HL HBW
    by_cases t1 : x1 < y1
    · have HZZ : Hid (Z.length = 3) := HZL
      have HOLD := HHI
      have HSET := HS1
      have HM := Lib.hid (World.ownsRow_made (((w0.alloc (.cells #[.int .i64 y1, .int .i64 y2] 64)).alloc (.cells #[.int .i64 x1, .int .i64 x2] 64))) (e := 64) (size := 2) (base := w8.heap.size) #[] 0 (by have := (HC0).out.size; have := (HC0).out.lo; omega) (by unfold maxLen; omega) rfl)
      simp only [World.size_alloc, World.size_setCell] at HM
      have HNWL := Lib.hid ((HC0).out.news (.cells #[] 64))
      have HSZ : Hid ((sds Z).length = 3 * 2) := Lib.hid (by rw [sds_length, HZZ.out])
      go_wp2_with (at_builtin; refine wpList_append_lies _ rfl _ _ 26 rfl w8.heap.size 64 i0 (.agg #[.int .i64 0, .int .i64 0]) 2 16 Try.underlying26 hi hz0 hz1 hz2 rfl (by decide) _ 0 [] rfl HM.out ⟨L, 0, none⟩ 3 cp (sds Z) rfl HSZ.out HNWL.out (sds_oc Z) (by decide) (by unfold maxLen; omega) (by omega) (by have := (HC0).out.size; have := (HC0).out.lo; simp at *; omega) _ rfl ?_)
      intro g1 c1 w1 hown hgrow hat hlt1
      have HX : Hid (w1.ownsRow w8.heap.size 64 2 (.slice (some ⟨g1, 0, none⟩) 3 c1) 3 (sds Z)) := Lib.hid hown
      have HB1 : Hid (Below (((w0.alloc (.cells #[.int .i64 y1, .int .i64 y2] 64)).alloc (.cells #[.int .i64 x1, .int .i64 x2] 64))).heap.size (((w0.alloc (.cells #[.int .i64 y1, .int .i64 y2] 64)).alloc (.cells #[.int .i64 x1, .int .i64 x2] 64))) w1) := Lib.hid (Below.grown ((Below.refl _ _).alloc (Nat.le_refl _) _) hgrow (by simp) (fun q hq => by simp [Value.ownBlock] at hq; simp; omega))
      have HG1 : Hid ((((w0.alloc (.cells #[.int .i64 y1, .int .i64 y2] 64)).alloc (.cells #[.int .i64 x1, .int .i64 x2] 64))).heap.size ≤ g1) := Lib.hid (by rcases hat with h | h <;> simp [Value.ownBlock] at h ⊢ <;> omega)
      clear hown hgrow hat HM HNWL HSZ
      have q0 := ((HC0).out.later HB1.out).o0
      have q1 := ((HC0).out.later HB1.out).o1
      have q2 := own_cellk HX.out (show (sds Z)[i * 2 + 1]? = some (.int .i64 x2) from HOLD.out)
      have q3 := own_frozen HX.out (i * 2 + 1)
      have HCN := Lib.hid ((HC0).out.later (HB1.out.setCell (p := ⟨g1, i * 2 + 1, none⟩) HG1.out (.int .i64 (y1 - 1))))
      have HPX := Lib.hid (own_set HX.out (i * 2 + 1) (.int .i64 (y1 - 1)))
      have hgn : g1 < w1.heap.size := hlt1
      clear HB1
      have HNB := Lib.hid (World.news_of_block (cs := #[Value.slice (some ⟨g1, 0, none⟩) 3 c1]) (t := 28) (fr := (0, 0)) (heap_alloc_new (w1.setCell ⟨g1, i * 2 + 1, none⟩ (.int .i64 (y1 - 1))) (.cells #[.slice (some ⟨g1, 0, none⟩) 3 c1] 28)))
      simp only [World.size_setCell] at HNB
      go_wp2_with (at_builtin; refine wpList_append_lies _ rfl _ _ 40 rfl w8.heap.size 28 j0 (.agg #[.slice none 0 0]) 1 24 Try.underlying40 hj hy0 hy1 hy2 rfl (by decide) _ _ _ rfl (HCN.out.own.alloc _) ⟨w1.heap.size, 0, none⟩ 1 1 [.slice (some ⟨g1, 0, none⟩) 3 c1] rfl rfl HNB.out (by simp [Value.oneCell']) (by decide) (by first | (unfold maxLen; omega) | (simp only [List.length_append, List.length_singleton]; unfold maxLen; omega)) (by first | omega | (simp only [List.length_append, List.length_singleton]; omega)) (by have := HCN.out.size; have := HCN.out.lo; simp at *; omega) _ rfl ?_)
      intro g2 c2 w2 hown hgrow hat hlt2
      have HC2 := Lib.hid ((HCN.out.later ((Below.refl _ _).alloc (Nat.le_refl _) (.cells #[.slice (some ⟨g1, 0, none⟩) 3 c1] 28))).app (own_bxat (xs := Z.set i (x1, y1 - 1)) (own_later (by have h := HPX.out; rw [HSET.out] at h; exact h) ((Below.refl _ _).alloc (Nat.le_refl _) (.cells #[.slice (some ⟨g1, 0, none⟩) 3 c1] 28))) (by rw [List.length_set]; exact HZZ.out) ⟨fun e => by have h1 := ((HC0).out.own.lt g1 e).2; have h2 := HG1.out; omega, by have h1 := (HC0).out.size; have h2 := HG1.out; have h3 := (HC0).out.lo; omega⟩) hown hgrow (by simpa using hat))
      clear hown hgrow hat HNB HCN HPX q0 q1 q2 q3 HX HG1
      have q4 := HC2.out.o0
      have q5 := own_cellk HC2.out.left HLO.out
      have q6 := own_frozen HC2.out.left (i * 2)
      have HC3 := Lib.hid (HC2.out.put (i * 2) (.int .i64 y1) HSA.out)
      have q7 := HC3.out.o1
      have q8 := HC3.out.s1
      have HYS : Hid (∀ p, (Z.set i (y1, x2)).set i p = Z.set i p) := Lib.hid (fun p => set_set3 _ _)
      have HYA : Hid ((Z.set i (y1, x2)).getD i (0, 0) = (y1, x2)) := Lib.hid (getD_setV (by rw [HZL.out]; exact hil) _)
      have HYL : Hid ((Z.set i (y1, x2)).length = 3) := Lib.hid (by rw [List.length_set]; exact HZL.out)
      clear HC2 HZZ HOLD HSET
      have hol1 : (T ++ [Z.set i (x1, y1 - 1)]).length ≤ 2 * i + 1 := by rw [List.length_append]; simp; omega
      obtain ⟨vs1, hvs1⟩ : ∃ z, z = vs ++ [Value.slice (some ⟨g1, 0, none⟩) 3 c1] := ⟨_, rfl⟩
      rw [← hvs1] at HC3
      clear hvs1
      obtain ⟨T1, hT1⟩ : ∃ z, z = T ++ [Z.set i (x1, y1 - 1)] := ⟨_, rfl⟩
      rw [← hT1] at HC3 hol1
      have HT1 := Lib.hid hT1
      clear hT1
      generalize hYY : Z.set i (y1, x2) = Y at *
      have HYY := Lib.hid hYY
      clear hYY
      have HZZ := HYL
      by_cases t2 : x2 > y2
      · have HTN : Hid (OU (i + 1) = T1 ++ [Y.set i (y2 + 1, x2)]) := Lib.hid (by rw [HNO.out, if_pos t1, if_pos t2, HYS.out, HT1.out]; simp)
        have HZN : Hid (LF (i + 1) = Y.set i (y1, y2)) := Lib.hid (by rw [HYS.out, ← HNL.out, show max x1 y1 = y1 by omega, show min x2 y2 = y2 by omega])
        have HOLD : Hid ((sds Y)[i * 2]? = some (.int .i64 y1)) := Lib.hid (by have := sds_lo Y i (by rw [HZZ.out]; exact hil); rw [HYA.out] at this; exact this)
        have HHI2 : Hid ((sds Y)[i * 2 + 1]? = some (.int .i64 x2)) := Lib.hid (by have := sds_hi Y i (by rw [HZZ.out]; exact hil); rw [HYA.out] at this; exact this)
        have HSET : Hid ((sds Y).set (i * 2) (.int .i64 (y2 + 1)) = sds ((Y).set i (y2 + 1, x2))) := Lib.hid (by rw [sds_setlo Y i _ (by rw [HZZ.out]; exact hil), HYA.out])
        have HSB : Hid ((sds Y).set (i * 2 + 1) (.int .i64 y2) = sds ((Y).set i (y1, y2))) := Lib.hid (by rw [sds_sethi Y i _ (by rw [HZZ.out]; exact hil), HYA.out])
        have HM := Lib.hid (World.ownsRow_made ((w2.setCell ⟨L, i * 2, none⟩ (.int .i64 y1))) (e := 64) (size := 2) (base := w8.heap.size) #[] 0 (by have := (HC3).out.size; have := (HC3).out.lo; omega) (by unfold maxLen; omega) rfl)
        simp only [World.size_alloc, World.size_setCell] at HM
        have HNWL := Lib.hid ((HC3).out.news (.cells #[] 64))
        have HSZ : Hid ((sds Y).length = 3 * 2) := Lib.hid (by rw [sds_length, HZZ.out])
        go_wp2_with (at_builtin; refine wpList_append_lies _ rfl _ _ 26 rfl w8.heap.size 64 i0 (.agg #[.int .i64 0, .int .i64 0]) 2 16 Try.underlying26 hi hz0 hz1 hz2 rfl (by decide) _ 0 [] rfl HM.out ⟨L, 0, none⟩ 3 cp (sds Y) rfl HSZ.out HNWL.out (sds_oc Y) (by decide) (by unfold maxLen; omega) (by omega) (by have := (HC3).out.size; have := (HC3).out.lo; simp at *; omega) _ rfl ?_)
        intro g1 c1 w1 hown hgrow hat hlt1
        have HX : Hid (w1.ownsRow w8.heap.size 64 2 (.slice (some ⟨g1, 0, none⟩) 3 c1) 3 (sds Y)) := Lib.hid hown
        have HB1 : Hid (Below ((w2.setCell ⟨L, i * 2, none⟩ (.int .i64 y1))).heap.size ((w2.setCell ⟨L, i * 2, none⟩ (.int .i64 y1))) w1) := Lib.hid (Below.grown ((Below.refl _ _).alloc (Nat.le_refl _) _) hgrow (by simp) (fun q hq => by simp [Value.ownBlock] at hq; simp; omega))
        have HG1 : Hid (((w2.setCell ⟨L, i * 2, none⟩ (.int .i64 y1))).heap.size ≤ g1) := Lib.hid (by rcases hat with h | h <;> simp [Value.ownBlock] at h ⊢ <;> omega)
        clear hown hgrow hat HM HNWL HSZ
        have q0 := ((HC3).out.later HB1.out).o0
        have q1 := ((HC3).out.later HB1.out).o1
        have q2 := own_cellk HX.out (show (sds Y)[i * 2]? = some (.int .i64 y1) from HOLD.out)
        have q3 := own_frozen HX.out (i * 2)
        have HCN := Lib.hid ((HC3).out.later (HB1.out.setCell (p := ⟨g1, i * 2, none⟩) HG1.out (.int .i64 (y2 + 1))))
        have HPX := Lib.hid (own_set HX.out (i * 2) (.int .i64 (y2 + 1)))
        have hgn : g1 < w1.heap.size := hlt1
        clear HB1
        have HNB := Lib.hid (World.news_of_block (cs := #[Value.slice (some ⟨g1, 0, none⟩) 3 c1]) (t := 28) (fr := (0, 0)) (heap_alloc_new (w1.setCell ⟨g1, i * 2, none⟩ (.int .i64 (y2 + 1))) (.cells #[.slice (some ⟨g1, 0, none⟩) 3 c1] 28)))
        simp only [World.size_setCell] at HNB
        go_wp2_with (at_builtin; refine wpList_append_lies _ rfl _ _ 40 rfl w8.heap.size 28 j0 (.agg #[.slice none 0 0]) 1 24 Try.underlying40 hj hy0 hy1 hy2 rfl (by decide) _ _ _ rfl (HCN.out.own.alloc _) ⟨w1.heap.size, 0, none⟩ 1 1 [.slice (some ⟨g1, 0, none⟩) 3 c1] rfl rfl HNB.out (by simp [Value.oneCell']) (by decide) (by first | (unfold maxLen; omega) | (simp only [List.length_append, List.length_singleton]; unfold maxLen; omega)) (by first | omega | (simp only [List.length_append, List.length_singleton]; omega)) (by have := HCN.out.size; have := HCN.out.lo; simp at *; omega) _ rfl ?_)
        intro g2 c2 w2 hown hgrow hat hlt2
        have HC2 := Lib.hid ((HCN.out.later ((Below.refl _ _).alloc (Nat.le_refl _) (.cells #[.slice (some ⟨g1, 0, none⟩) 3 c1] 28))).app (own_bxat (xs := (Y).set i (y2 + 1, x2)) (own_later (by have h := HPX.out; rw [HSET.out] at h; exact h) ((Below.refl _ _).alloc (Nat.le_refl _) (.cells #[.slice (some ⟨g1, 0, none⟩) 3 c1] 28))) (by rw [List.length_set]; exact HZZ.out) ⟨fun e => by have h1 := ((HC3).out.own.lt g1 e).2; have h2 := HG1.out; omega, by have h1 := (HC3).out.size; have h2 := HG1.out; have h3 := (HC3).out.lo; omega⟩) hown hgrow (by simpa using hat))
        clear hown hgrow hat HNB HCN HPX q0 q1 q2 q3 HX HG1
        have q4 := HC2.out.o1
        have q5 := own_cellk HC2.out.left HHI2.out
        have q6 := own_frozen HC2.out.left (i * 2 + 1)
        have HC4 := Lib.hid (HC2.out.put (i * 2 + 1) (.int .i64 y2) HSB.out)
        clear HC2
        go_wp2_with fail
        go_roundw
        case rel => exact ⟨i + 1, _, _, by omega, by go_num, rfl, Lib.hid (by rw [HTN.out]; exact (HC4).out.own), Lib.hid (by rw [HTN.out]; exact (HC4).out.pts), Lib.hid (by rw [HZN.out]; exact (HC4).out.left), Lib.hid (HC4).out.bel, by have h1 := (HC4).out.size; have h2 := (HC4).out.lo; omega, Lib.hid ((by rw [HTN.out]; intro h; simp at h))⟩
        case measure => (simp [intOf]; try omega)
      · have HTN : Hid (OU (i + 1) = T1) := Lib.hid (by rw [HNO.out, if_pos t1, if_neg (by omega), HT1.out]; simp)
        have HZN : Hid (LF (i + 1) = Y) := Lib.hid (by rw [← HYY.out, ← HNL.out, show max x1 y1 = y1 by omega, show min x2 y2 = x2 by omega])
        go_wp2_with fail
        go_roundw
        case rel => exact ⟨i + 1, _, _, by omega, by go_num, rfl, Lib.hid (by rw [HTN.out]; exact (HC3).out.own), Lib.hid (by rw [HTN.out]; exact (HC3).out.pts), Lib.hid (by rw [HZN.out]; exact (HC3).out.left), Lib.hid (HC3).out.bel, by have h1 := (HC3).out.size; have h2 := (HC3).out.lo; omega, Lib.hid ((by rw [HTN.out, HT1.out]; intro h; simp at h))⟩
        case measure => (simp [intOf]; try omega)
    · have HYA := HZA
      have HZZ : Hid (Z.length = 3) := HZL
      by_cases t2 : x2 > y2
      · have HTN : Hid (OU (i + 1) = T ++ [Z.set i (y2 + 1, x2)]) := Lib.hid (by rw [HNO.out, if_neg t1, if_pos t2]; simp)
        have HZN : Hid (LF (i + 1) = Z.set i (x1, y2)) := Lib.hid (by rw [← HNL.out, show max x1 y1 = x1 by omega, show min x2 y2 = y2 by omega])
        have HOLD : Hid ((sds Z)[i * 2]? = some (.int .i64 x1)) := Lib.hid (by have := sds_lo Z i (by rw [HZZ.out]; exact hil); rw [HYA.out] at this; exact this)
        have HHI2 : Hid ((sds Z)[i * 2 + 1]? = some (.int .i64 x2)) := Lib.hid (by have := sds_hi Z i (by rw [HZZ.out]; exact hil); rw [HYA.out] at this; exact this)
        have HSET : Hid ((sds Z).set (i * 2) (.int .i64 (y2 + 1)) = sds ((Z).set i (y2 + 1, x2))) := Lib.hid (by rw [sds_setlo Z i _ (by rw [HZZ.out]; exact hil), HYA.out])
        have HSB : Hid ((sds Z).set (i * 2 + 1) (.int .i64 y2) = sds ((Z).set i (x1, y2))) := Lib.hid (by rw [sds_sethi Z i _ (by rw [HZZ.out]; exact hil), HYA.out])
        have HM := Lib.hid (World.ownsRow_made (((w0.alloc (.cells #[.int .i64 y1, .int .i64 y2] 64)).alloc (.cells #[.int .i64 x1, .int .i64 x2] 64))) (e := 64) (size := 2) (base := w8.heap.size) #[] 0 (by have := (HC0).out.size; have := (HC0).out.lo; omega) (by unfold maxLen; omega) rfl)
        simp only [World.size_alloc, World.size_setCell] at HM
        have HNWL := Lib.hid ((HC0).out.news (.cells #[] 64))
        have HSZ : Hid ((sds Z).length = 3 * 2) := Lib.hid (by rw [sds_length, HZZ.out])
        go_wp2_with (at_builtin; refine wpList_append_lies _ rfl _ _ 26 rfl w8.heap.size 64 i0 (.agg #[.int .i64 0, .int .i64 0]) 2 16 Try.underlying26 hi hz0 hz1 hz2 rfl (by decide) _ 0 [] rfl HM.out ⟨L, 0, none⟩ 3 cp (sds Z) rfl HSZ.out HNWL.out (sds_oc Z) (by decide) (by unfold maxLen; omega) (by omega) (by have := (HC0).out.size; have := (HC0).out.lo; simp at *; omega) _ rfl ?_)
        intro g1 c1 w1 hown hgrow hat hlt1
        have HX : Hid (w1.ownsRow w8.heap.size 64 2 (.slice (some ⟨g1, 0, none⟩) 3 c1) 3 (sds Z)) := Lib.hid hown
        have HB1 : Hid (Below (((w0.alloc (.cells #[.int .i64 y1, .int .i64 y2] 64)).alloc (.cells #[.int .i64 x1, .int .i64 x2] 64))).heap.size (((w0.alloc (.cells #[.int .i64 y1, .int .i64 y2] 64)).alloc (.cells #[.int .i64 x1, .int .i64 x2] 64))) w1) := Lib.hid (Below.grown ((Below.refl _ _).alloc (Nat.le_refl _) _) hgrow (by simp) (fun q hq => by simp [Value.ownBlock] at hq; simp; omega))
        have HG1 : Hid ((((w0.alloc (.cells #[.int .i64 y1, .int .i64 y2] 64)).alloc (.cells #[.int .i64 x1, .int .i64 x2] 64))).heap.size ≤ g1) := Lib.hid (by rcases hat with h | h <;> simp [Value.ownBlock] at h ⊢ <;> omega)
        clear hown hgrow hat HM HNWL HSZ
        have q0 := ((HC0).out.later HB1.out).o0
        have q1 := ((HC0).out.later HB1.out).o1
        have q2 := own_cellk HX.out (show (sds Z)[i * 2]? = some (.int .i64 x1) from HOLD.out)
        have q3 := own_frozen HX.out (i * 2)
        have HCN := Lib.hid ((HC0).out.later (HB1.out.setCell (p := ⟨g1, i * 2, none⟩) HG1.out (.int .i64 (y2 + 1))))
        have HPX := Lib.hid (own_set HX.out (i * 2) (.int .i64 (y2 + 1)))
        have hgn : g1 < w1.heap.size := hlt1
        clear HB1
        have HNB := Lib.hid (World.news_of_block (cs := #[Value.slice (some ⟨g1, 0, none⟩) 3 c1]) (t := 28) (fr := (0, 0)) (heap_alloc_new (w1.setCell ⟨g1, i * 2, none⟩ (.int .i64 (y2 + 1))) (.cells #[.slice (some ⟨g1, 0, none⟩) 3 c1] 28)))
        simp only [World.size_setCell] at HNB
        go_wp2_with (at_builtin; refine wpList_append_lies _ rfl _ _ 40 rfl w8.heap.size 28 j0 (.agg #[.slice none 0 0]) 1 24 Try.underlying40 hj hy0 hy1 hy2 rfl (by decide) _ _ _ rfl (HCN.out.own.alloc _) ⟨w1.heap.size, 0, none⟩ 1 1 [.slice (some ⟨g1, 0, none⟩) 3 c1] rfl rfl HNB.out (by simp [Value.oneCell']) (by decide) (by first | (unfold maxLen; omega) | (simp only [List.length_append, List.length_singleton]; unfold maxLen; omega)) (by first | omega | (simp only [List.length_append, List.length_singleton]; omega)) (by have := HCN.out.size; have := HCN.out.lo; simp at *; omega) _ rfl ?_)
        intro g2 c2 w2 hown hgrow hat hlt2
        have HC2 := Lib.hid ((HCN.out.later ((Below.refl _ _).alloc (Nat.le_refl _) (.cells #[.slice (some ⟨g1, 0, none⟩) 3 c1] 28))).app (own_bxat (xs := (Z).set i (y2 + 1, x2)) (own_later (by have h := HPX.out; rw [HSET.out] at h; exact h) ((Below.refl _ _).alloc (Nat.le_refl _) (.cells #[.slice (some ⟨g1, 0, none⟩) 3 c1] 28))) (by rw [List.length_set]; exact HZZ.out) ⟨fun e => by have h1 := ((HC0).out.own.lt g1 e).2; have h2 := HG1.out; omega, by have h1 := (HC0).out.size; have h2 := HG1.out; have h3 := (HC0).out.lo; omega⟩) hown hgrow (by simpa using hat))
        clear hown hgrow hat HNB HCN HPX q0 q1 q2 q3 HX HG1
        have q4 := HC2.out.o1
        have q5 := own_cellk HC2.out.left HHI2.out
        have q6 := own_frozen HC2.out.left (i * 2 + 1)
        have HC4 := Lib.hid (HC2.out.put (i * 2 + 1) (.int .i64 y2) HSB.out)
        clear HC2
        go_wp2_with fail
        go_roundw
        case rel => exact ⟨i + 1, _, _, by omega, by go_num, rfl, Lib.hid (by rw [HTN.out]; exact (HC4).out.own), Lib.hid (by rw [HTN.out]; exact (HC4).out.pts), Lib.hid (by rw [HZN.out]; exact (HC4).out.left), Lib.hid (HC4).out.bel, by have h1 := (HC4).out.size; have h2 := (HC4).out.lo; omega, Lib.hid ((by rw [HTN.out]; intro h; simp at h))⟩
        case measure => (simp [intOf]; try omega)
      · have HTN : Hid (OU (i + 1) = T) := Lib.hid (by rw [HNO.out, if_neg t1, if_neg (by omega)]; simp)
        have HZN : Hid (LF (i + 1) = Z) := Lib.hid (by
          rw [← HNL.out, show max x1 y1 = x1 by omega, show min x2 y2 = x2 by omega]
          have h := HZA.out
          rw [List.getD_eq_getElem?_getD, List.getElem?_eq_getElem (show i < Z.length by rw [HZL.out]; exact hil)] at h
          simp only [Option.getD_some] at h
          rw [← h, List.set_getElem_self])
        go_wp2_with fail
        go_roundw
        case rel => exact ⟨i + 1, _, _, by omega, by go_num, rfl, Lib.hid (by rw [HTN.out]; exact (HC0).out.own), Lib.hid (by rw [HTN.out]; exact (HC0).out.pts), Lib.hid (by rw [HZN.out]; exact (HC0).out.left), Lib.hid (HC0).out.bel, by have h1 := (HC0).out.size; have h2 := (HC0).out.lo; omega, Lib.hid ((by rw [HTN.out]; exact HE.out))⟩
        case measure => (simp [intOf]; try omega)
theorem spec_cut (a b : Option Addr) (cap cap' : Nat) (xs ys : Bx) (w : World) (ha : Rw w a (sds xs)) (hb : Rw w b (sds ys)) (hx : Ok3 xs) (hy : Ok3 ys) :
    Calls Try.prog 59 #[.agg #[.slice a 3 cap], .agg #[.slice b 3 cap']] w (CutOf (cutS xs ys) w) := by
  cases hm : meetB xs ys with
  | false => exact spec_cut_no a b cap cap' xs ys w ha hb hx hy hm
  | true => exact spec_cut_yes a b cap cap' xs ys w ha hb hx hy hm
end Go.Proofs.Ythlajmncpejhmaa
