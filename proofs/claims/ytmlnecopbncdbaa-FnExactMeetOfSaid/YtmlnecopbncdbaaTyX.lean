/- The tree of a type: the reference's walk. -/
import Derived.Test.YtmlnecopbncdbaaTyW
namespace Go.Proofs.Ytmlnecopbncdbaa
set_option linter.unusedVariables false
set_option linter.unusedSimpArgs false
open Go.ChangeShapes Go.WideShapes Go.ChangeAt Go.RowKit
set_option maxRecDepth 100000

/-- a row that is one tree -/
def OneT (L : List Ty) : Prop := ∃ x0 t, L[0]? = some x0 ∧ holdsK x0.kind = true ∧ PTree L 0 t L.length
theorem trees_map {L : List Ty} : ∀ {is : List Nat} {ts : List Tr}, Trees L is ts → ts = is.map (treeOf L)
  | [], ts, h => h
  | i :: r, ts, h => by
    obtain ⟨t, us, e, rfl, hp, hr⟩ := h
    rw [List.map_cons, hp.of, ← trees_map hr]
theorem OneT.kids {L : List Ty} (h : OneT L) {k : Nat} {x : Ty} (hx : L[k]? = some x) : treeOf L k = trOf x ((kidsI L k (k + 1) L.length).map (treeOf L)) ∧ countT (treeOf L k) ≤ L.length := by
  obtain ⟨x0, t0, h0, hk, hT⟩ := h
  obtain ⟨t, m, hp, hm, hno⟩ := hT.sub h0 hk k (List.getElem?_eq_some_iff.1 hx).1
  obtain ⟨e1, e2⟩ := hp.trees hm hx hno
  have hc := hp.count
  rw [hp.of]
  exact ⟨by rw [← trees_map e2]; exact e1, by omega⟩
theorem rows_one {L : List Ty} (h : RowsOK L) (hl : 0 < L.length) : OneT L := by
  have h0 : L[0]? = some L[0] := List.getElem?_eq_getElem hl
  obtain ⟨t, e, hT⟩ := tree_ex h0
  obtain ⟨h1, rfl, -⟩ := (rows_tree h0 hT).1 h
  exact ⟨_, t, h0, by simp [holdsK, h1.1], hT⟩
theorem Try.infoTyT : (Try.prog.info? 59).map (fun i => (i.zero, i.size, i.bytes)) = some (some (.agg #[.int .i64 0, .string ByteArray.empty, .int .i64 0, .bool false, .int .i64 0, .slice none 0 0]), 6, 72) := by kernel_rfl
/-- what the reference's tree of a type is -/
def TreeO (L : List Ty) (k : Nat) (w : World) (e : Ending) (w' : World) : Prop :=
  ∃ cs, e = .returned (.agg cs.toArray) ∧ Below w.heap.size w w' ∧ KS (fun b => w.heap.size ≤ b) w' (treeOf L k) cs
theorem kidsI_at {L : List Ty} {k i q : Nat} (h : (kidsI L k (k + 1) L.length)[i]? = some q) : k < q ∧ q < L.length := by
  have := kidsI_lt L.length (List.mem_of_getElem? h)
  exact ⟨by omega, this.2.1⟩
theorem KSs_put_map {S : Nat → Prop} {w : World} {L : List Ty} {K : List Nat} {i q : Nat} {vss : List (List Value)} {v : List Value} (hq : K[i]? = some q) (h : KSs S w ((K.take i).map (treeOf L)) vss) (hv : KS S w (treeOf L q) v) : KSs S w ((K.take (i + 1)).map (treeOf L)) (vss ++ [v]) := by
  obtain ⟨h1, rfl⟩ := List.getElem?_eq_some_iff.1 hq
  rw [List.take_succ_eq_append_getElem h1, List.map_append]
  exact KSs.put hv h
theorem wrote_grown {S : Nat → Prop} {a b c : World} {row : Option Nat} (h : Wrote S a b) (hg : b.grownBy c row) (hr : ∀ k, row = some k → a.heap.size ≤ k) : Wrote S a c :=
  ⟨hg.os.trans h.os, hg.tape.trans h.tape, hg.output.trans h.output, Nat.le_trans h.size hg.size, fun k hk hs => (hg.block k (Nat.lt_of_lt_of_le hk h.size) (fun e => by have := hr k e.symm; omega)).trans (h.block k hk hs)⟩
theorem ownN {w : World} {base : Nat} {e : TypeId} {size : Nat} {v : Value} {n : Nat} {xs : List Value} (h : w.ownsRow base e size v n xs) (q : Nat) : (w.drewN q).ownsRow base e size v n xs := own_later h (below_drewN (Below.refl _ _) q)
set_option maxHeartbeats 8000000 in
theorem spec_l2Tree_one {B : Nat} {w : World} {L : List Ty} {a : Option Addr} {cap : Nat} (h : Sch B w L a cap) (hone : OneT L) (k : Nat) (hk : k < L.length)
    (IH : ∀ (q : Nat) (wx : World), k < q → q < L.length → Sch B wx L a cap → Calls Try.prog 35 #[.agg #[.slice a L.length cap], .int .i64 (q : Int)] wx (TreeO L q wx)) :
    Calls Try.prog 35 #[.agg #[.slice a L.length cap], .int .i64 (k : Int)] w (TreeO L k w) := by
  obtain ⟨x, hx⟩ : ∃ x, L[k]? = some x := ⟨L[k], List.getElem?_eq_getElem hk⟩
  have hxn := h.hnm x (List.mem_of_getElem? hx)
  obtain ⟨i0, hi0, hz0, hz1, hz2⟩ := info_parts Try.infoTyT
  have hB1 := Below.alloc (Below.refl w.heap.size w) (Nat.le_refl _) (.cells #[.slice a L.length cap] 28)
  have hX1 := heap_alloc_new w (.cells #[.slice a L.length cap] 28)
  generalize hw1 : w.alloc (.cells #[.slice a L.length cap] 28) = w1 at *
  have l1 := hp_lt hX1
  have hB2 := hB1.alloc (Nat.le_of_lt l1) (.cells #[.int .i64 0, .string { data := #[] }, .int .i64 0, .bool false, .int .i64 0, .slice none 0 0] 59)
  have hX1 := hp_alloc (.cells #[.int .i64 0, .string { data := #[] }, .int .i64 0, .bool false, .int .i64 0, .slice none 0 0] 59) hX1
  have hX2 := heap_alloc_new w1 (.cells #[.int .i64 0, .string { data := #[] }, .int .i64 0, .bool false, .int .i64 0, .slice none 0 0] 59)
  generalize hw2 : w1.alloc (.cells #[.int .i64 0, .string { data := #[] }, .int .i64 0, .bool false, .int .i64 0, .slice none 0 0] 59) = w2 at *
  have l2 := hp_lt hX2
  have hX1b := hX1
  obtain ⟨b, off, rfl, hbl, d0, d1, d2, d3, d4, d5⟩ := tys_cells (h.keep hB2).row hx
  have hbw : b < w2.heap.size := by have := h.hB; omega
  have hbw0 : b < w.heap.size := by have := h.hB; omega
  have c1 : w2.cell? ⟨w.heap.size, 0, none⟩ = some (.slice (some ⟨b, off, none⟩) L.length cap) := by simp [World.cell?, hX1b]
  have hB3 := hB2.alloc (by omega) (.cells #[.int .i64 x.kind, .string x.name, .int .i64 x.no, .bool x.must, .int .i64 x.up, .int .i64 x.most] 85)
  have hX1 := hp_alloc (.cells #[.int .i64 x.kind, .string x.name, .int .i64 x.no, .bool x.must, .int .i64 x.up, .int .i64 x.most] 85) hX1
  have hX2 := hp_alloc (.cells #[.int .i64 x.kind, .string x.name, .int .i64 x.no, .bool x.must, .int .i64 x.up, .int .i64 x.most] 85) hX2
  have hX3 := heap_alloc_new w2 (.cells #[.int .i64 x.kind, .string x.name, .int .i64 x.no, .bool x.must, .int .i64 x.up, .int .i64 x.most] 85)
  generalize hw3 : w2.alloc (.cells #[.int .i64 x.kind, .string x.name, .int .i64 x.no, .bool x.must, .int .i64 x.up, .int .i64 x.most] 85) = w3 at *
  have l3 := hp_lt hX3
  obtain ⟨y0, y1, y2, y3, y4, y5⟩ := box6 hX3
  have hB4 := hB3.alloc (by omega) (.cells #[.int .i64 x.kind, .string x.name, .int .i64 x.no, .bool x.must, .int .i64 x.most, .slice none 0 0] 59)
  have hX1 := hp_alloc (.cells #[.int .i64 x.kind, .string x.name, .int .i64 x.no, .bool x.must, .int .i64 x.most, .slice none 0 0] 59) hX1
  have hX2 := hp_alloc (.cells #[.int .i64 x.kind, .string x.name, .int .i64 x.no, .bool x.must, .int .i64 x.most, .slice none 0 0] 59) hX2
  have hX4 := heap_alloc_new w3 (.cells #[.int .i64 x.kind, .string x.name, .int .i64 x.no, .bool x.must, .int .i64 x.most, .slice none 0 0] 59)
  have l4 := hp_lt hX4
  have v1 : (w3.alloc (.cells #[.int .i64 x.kind, .string x.name, .int .i64 x.no, .bool x.must, .int .i64 x.most, .slice none 0 0] 59)).cell? ⟨w.heap.size, 0, none⟩ = some (.slice (some ⟨b, off, none⟩) L.length cap) := by simp only [World.cell?, hX1]; rfl
  have HKI := Lib.hid (spec_l2Kids (h.keep hB4) k hk)
  have HX1 := Lib.hid hX1
  have HX2 := Lib.hid hX2
  have HX4 := Lib.hid hX4
  have HB4 := Lib.hid hB4
  have H := Lib.hid h
  have HIH := Lib.hid IH
  have HTE := Lib.hid (hone.kids hx).1
  have hlm := h.hl
  have hcm := h.hcm
  have hlc := h.hc
  have hBw := h.hB
  unfold TreeO
  clear hB1 hB2 hB3 hB4 hX1 hX1b hX2 hX3 hX4 h IH hx
  go_enter Try.func35, Try.ntmps35
  go_wp2_with fail
  refine HKI.out.mono ?_
  rintro e w5 ⟨v, rfl, hown, hb5⟩
  generalize w3.alloc (.cells #[.int .i64 x.kind, .string x.name, .int .i64 x.no, .bool x.must, .int .i64 x.most, .slice none 0 0] 59) = w4 at *
  obtain ⟨ka, kc, rfl⟩ := form_of_own hown
  have HKO := Lib.hid hown
  have HX1 := Lib.hid (hp_later hb5 HX1.out)
  have HX2 := Lib.hid (hp_later hb5 HX2.out)
  have HX4 := Lib.hid (hp_later hb5 HX4.out)
  have HB5 := Lib.hid (HB4.out.trans (hb5.mono HB4.out.size))
  have l5 := hb5.size
  have hkl := kidsI_len (L := L) (k := k) (s := k + 1) L.length
  have HAT := Lib.hid (fun i q (hq : (kidsI L k (k + 1) L.length)[i]? = some q) => kidsI_at hq)
  clear hown hb5 HB4 HKI v1 c1 d0 d1 d2 d3 d4 d5 y0 y1 y2 y3 y4 y5
  generalize kidsI L k (k + 1) L.length = KL at *
  go_wp2_with fail
  go_loopw [29] (fun iv wr => ∃ (i : Nat) (v : Value) (vss : List (List Value)), i ≤ KL.length ∧ iv = .int .i64 (i : Int) ∧ Hid (wr.ownsRow w5.heap.size 59 6 v i (List.flatten vss)) ∧ Hid (wr.heap[w3.heap.size]? = some (.cells #[.int .i64 x.kind, .string x.name, .int .i64 x.no, .bool x.must, .int .i64 x.most, v] 59)) ∧ Hid (Wrote (fun q => q = w3.heap.size) w5 wr) ∧ Hid (KSs (fun q => w5.heap.size ≤ q ∧ v.ownBlock ≠ some q) wr ((KL.take i).map (treeOf L)) vss)) (fun iv _ => KL.length - (intOf iv).toNat)
  case atStart => exact ⟨0, .slice none 0 0, [], by omega, rfl, Lib.hid (World.ownsRow_nil _ _ _ _), HX4, Lib.hid (Wrote.refl _ _), Lib.hid (by rw [List.take_zero, List.map_nil, KSs])⟩
  case round =>
    obtain ⟨wo, rfl⟩ : ∃ z : World, z = wr := ⟨_, rfl⟩
    obtain ⟨i, v, vss, hi, rfl, HO, HT, HW, HKS⟩ := hrel
    obtain ⟨va, vn, rfl⟩ := form_of_own HO.out
    obtain ⟨o0, o1, o2, o3, o4, o5⟩ := box6 HT.out
    have HS1 := Lib.hid ((HW.out.block w.heap.size (by omega) (by omega)).trans HX1.out)
    have HS2 := Lib.hid ((HW.out.block w1.heap.size (by omega) (by omega)).trans HX2.out)
    have HB := Lib.hid (rwrote HB5.out HW.out (fun q hq => by omega))
    have hzo := HW.out.size
    have s1 : wo.cell? ⟨w.heap.size, 0, none⟩ = some (.slice (some ⟨b, off, none⟩) L.length cap) := by simp [World.cell?, HS1.out]
    by_cases hil : i < KL.length
    case neg =>
      obtain rfl : i = KL.length := by omega
      have hcap := own_cap HO.out
      have HRES : Hid (KS (fun q => w.heap.size ≤ q) ((((((wo.setCell ⟨w1.heap.size, 0, none⟩ (.int .i64 x.kind)).setCell ⟨w1.heap.size, 1, none⟩ (.string x.name)).setCell ⟨w1.heap.size, 2, none⟩ (.int .i64 x.no)).setCell ⟨w1.heap.size, 3, none⟩ (.bool x.must)).setCell ⟨w1.heap.size, 4, none⟩ (.int .i64 x.most)).setCell ⟨w1.heap.size, 5, none⟩ (.slice va KL.length vn)) (treeOf L k) [.int .i64 x.kind, .string x.name, .int .i64 x.no, .bool x.must, .int .i64 x.most, .slice va KL.length vn]) := Lib.hid (by
        have hn : ¬ (fun q => w5.heap.size ≤ q) w1.heap.size := by simp only; omega
        have hkp := kept_set (kept_set (kept_set (kept_set (kept_set (kept_set (Kept.refl (fun q => w5.heap.size ≤ q) wo) hn 0 (.int .i64 x.kind)) hn 1 (.string x.name)) hn 2 (.int .i64 x.no)) hn 3 (.bool x.must)) hn 4 (.int .i64 x.most)) hn 5 (.slice va KL.length vn)
        rw [HTE.out, trOf, KS]
        refine ⟨va, vn, vss, by rw [List.length_map], hxn, by rw [List.length_map]; exact hcap.1, hcap.2, ?_, ?_⟩
        · exact (RS.own (S := fun q => w5.heap.size ≤ q) HO.out (fun g hg => (HO.out.lt g hg).1)).keep hkp (fun q hq _ => by omega)
        · have hh := HKS.out
          rw [List.take_length] at hh
          exact KSs.keep (hkp.sub (S := fun q => w5.heap.size ≤ q ∧ (Value.slice va KL.length vn).ownBlock ≠ some q) (fun q hq => hq.1)) (fun q hq _ => by have := hq.1; omega) _ _ hh)
      have HBR : Hid (Below w.heap.size w ((((((wo.setCell ⟨w1.heap.size, 0, none⟩ (.int .i64 x.kind)).setCell ⟨w1.heap.size, 1, none⟩ (.string x.name)).setCell ⟨w1.heap.size, 2, none⟩ (.int .i64 x.no)).setCell ⟨w1.heap.size, 3, none⟩ (.bool x.must)).setCell ⟨w1.heap.size, 4, none⟩ (.int .i64 x.most)).setCell ⟨w1.heap.size, 5, none⟩ (.slice va KL.length vn))) := Lib.hid (by
        have hn : w.heap.size ≤ w1.heap.size := by omega
        exact below_set (below_set (below_set (below_set (below_set (below_set HB.out hn 0 _) hn 1 _) hn 2 _) hn 3 _) hn 4 _) hn 5 _)
      obtain ⟨sa0, -, -, -, -, -⟩ := box6 HS2.out
      have sf0 := box6_z HS2.out 0
      have HSA := Lib.hid (box6_t0 HS2.out (.int .i64 x.kind))
      generalize hsA : (wo).setCell ⟨w1.heap.size, 0, none⟩ (.int .i64 x.kind) = wsA at *
      obtain ⟨-, sa1, -, -, -, -⟩ := box6 HSA.out
      have sf1 := box6_z HSA.out 1
      have HSB := Lib.hid (box6_t1 HSA.out (.string x.name))
      generalize hsB : wsA.setCell ⟨w1.heap.size, 1, none⟩ (.string x.name) = wsB at *
      obtain ⟨-, -, sa2, -, -, -⟩ := box6 HSB.out
      have sf2 := box6_z HSB.out 2
      have HSC := Lib.hid (box6_t2 HSB.out (.int .i64 x.no))
      generalize hsC : wsB.setCell ⟨w1.heap.size, 2, none⟩ (.int .i64 x.no) = wsC at *
      obtain ⟨-, -, -, sa3, -, -⟩ := box6 HSC.out
      have sf3 := box6_z HSC.out 3
      have HSD := Lib.hid (box6_t3 HSC.out (.bool x.must))
      generalize hsD : wsC.setCell ⟨w1.heap.size, 3, none⟩ (.bool x.must) = wsD at *
      obtain ⟨-, -, -, -, sa4, -⟩ := box6 HSD.out
      have sf4 := box6_z HSD.out 4
      have HSE := Lib.hid (box6_t4 HSD.out (.int .i64 x.most))
      generalize hsE : wsD.setCell ⟨w1.heap.size, 4, none⟩ (.int .i64 x.most) = wsE at *
      obtain ⟨-, -, -, -, -, sa5⟩ := box6 HSE.out
      have sf5 := box6_z HSE.out 5
      have HSF := Lib.hid (box6_t5 HSE.out (.slice va KL.length vn))
      generalize hsF : wsE.setCell ⟨w1.heap.size, 5, none⟩ (.slice va KL.length vn) = wsF at *
      obtain ⟨sg0, sg1, sg2, sg3, sg4, sg5⟩ := box6 HSF.out
      go_wp2_with fail
      refine bodyPost_ret (v := .agg #[.int .i64 x.kind, .string x.name, .int .i64 x.no, .bool x.must, .int .i64 x.most, .slice va KL.length vn]) (by simp [results, Try.results35, go_sem, sg0, sg1, sg2, sg3, sg4, sg5]) rfl ?_
      exact ⟨_, rfl, HBR.out, HRES.out⟩
    obtain ⟨q, hq⟩ : ∃ q, KL[i]? = some q := ⟨KL[i], List.getElem?_eq_getElem hil⟩
    obtain ⟨hkq, hql⟩ := HAT.out i q hq
    have HQ := Lib.hid hq
    have HOK : Hid (wo.ownsRow w4.heap.size 3 1 (.slice ka KL.length kc) KL.length (ints (nums KL))) := Lib.hid (HW.out.own HKO.out (fun g hg => by have := (HKO.out.lt g hg).1; show ¬ g = w3.heap.size; omega))
    obtain ⟨kb, koff, rfl, hkb, hkc⟩ := (own_rw HOK.out).at (by intro e; have := congrArg List.length e; rw [ints_length, nums_len, List.length_nil] at this; omega)
    have n0 : wo.cell? ⟨kb, koff + i, none⟩ = some (.int .i64 (q : Int)) := hkc i _ (by simp [ints, nums, hq])
    have HSC := Lib.hid (H.out.later ((HB.out.drew).mono hBw))
    have HC := Lib.hid (HIH.out q wo.drew hkq hql HSC.out)
    have kcap := own_cap HKO.out
    clear hq hkc
    go_wp2_with fail
    refine wp_region_G [6] (fun w' => w'.cell? ⟨w3.heap.size, 5, none⟩ = some (.slice va i vn) ∧ w'.cell? ⟨w.heap.size, 0, none⟩ = some (.slice (some ⟨b, off, none⟩) L.length cap)) (by kernel_rfl) ?_ (fun hHeld => ?_)
    · exact ⟨o5, s1⟩
    refine wpG_pure (i := 0) (oi := { dst := some 33, op := Go.Op.fieldAddr 59 (Go.Operand.tmp 6) 5, type := 0, pos := "l2_type.go:90", after := #[], guard := none }) (v := ?vg1) rfl (by kernel_rfl) (fun _ _ _ h => h) (Or.inr hHeld) (Or.inl ⟨by rfl, ?yg1⟩) ?_
    case yg1 => (intro wS _; go_simp <;> with_reducible rfl)
    try simp only [Act.put, List.setIfInBounds_toArray, List.set_cons_zero, List.set_cons_succ]
    refine wpG_load (i := 1) (oi := { dst := some 34, op := Go.Op.load 57 (Go.Operand.tmp 33), type := 57, pos := "l2_type.go:90", after := #[{ on := 0, ground := Go.Ground.data }], guard := none }) (v := ?vg2) [[6, 1]] rfl (by kernel_rfl) (fun _ _ _ h => h) hHeld (Or.inl ⟨by rfl, ?yg2⟩) ?_
    case yg2 => (intro wS hSw; (try dsimp only at hSw); go_simp <;> with_reducible rfl)
    try simp only [Act.put, List.setIfInBounds_toArray, List.set_cons_zero, List.set_cons_succ]
    refine wpG_load (i := 2) (oi := { dst := some 35, op := Go.Op.load 28 (Go.Operand.tmp 2), type := 28, pos := "l2_type.go:90", after := #[], guard := none }) (v := ?vg3) [[6, 4, 2]] rfl (by kernel_rfl) (fun _ _ _ h => h) hHeld (Or.inl ⟨by rfl, ?yg3⟩) ?_
    case yg3 => (intro wS hSw; (try dsimp only at hSw); go_simp <;> with_reducible rfl)
    try simp only [Act.put, List.setIfInBounds_toArray, List.set_cons_zero, List.set_cons_succ]
    refine wpG_pure (i := 3) (oi := { dst := some 36, op := Go.Op.move (Go.Operand.tmp 8), type := 3, pos := "l2_type.go:90", after := #[], guard := none }) (v := ?vg4) rfl (by kernel_rfl) (fun _ _ _ h => h) (Or.inr hHeld) (Or.inl ⟨by rfl, ?yg4⟩) ?_
    case yg4 => (intro wS _; go_simp <;> with_reducible rfl)
    try simp only [Act.put, List.setIfInBounds_toArray, List.set_cons_zero, List.set_cons_succ]
    refine wpG_one (i := 4) (o := { dst := some 37, op := Go.Op.call { callee := Go.Callee.value (Go.Operand.func 35), args := #[Go.Operand.tmp 35, Go.Operand.tmp 36], argTypes := #[28, 3] }, type := 59, pos := "l2_type.go:90", after := #[{ on := 2, ground := Go.Ground.data }, { on := 3, ground := Go.Ground.data }], guard := none }) rfl (by kernel_rfl) (fun K hK => ?_)
    go_simp
    refine HC.out.mono ?_
    rintro e w6 ⟨cs, rfl, hb6, hks6⟩
    obtain ⟨qa, qc, qss, rfl, hqn, hqk, hqc, -⟩ := hks6.open
    have HX6 := Lib.hid (hp_later hb6 (show wo.drew.heap[w3.heap.size]? = _ from HT.out))
    have HY6 := Lib.hid (hp_later hb6 (show wo.drew.heap[w.heap.size]? = _ from HS1.out))
    have HO6 := Lib.hid (own_later (ownN HO.out 1) hb6)
    have HW6 := Lib.hid (HW.out.trans (Wrote.of_below (S := fun q => q = w3.heap.size) (show Below wo.heap.size wo w6 from below_undrew hb6)))
    have HK6 := Lib.hid (show Kept (fun q => w5.heap.size ≤ q ∧ (Value.slice va i vn).ownBlock ≠ some q) wo w6 from kept_below (below_undrew hb6))
    have HQ6 := Lib.hid (show KS (fun q => wo.heap.size ≤ q) w6 _ _ from hks6)
    have hz6 : wo.heap.size ≤ w6.heap.size := hb6.size
    clear hb6 hks6
    obtain ⟨-, -, -, -, -, p5⟩ := box6 HX6.out
    have p1 : w6.cell? ⟨w.heap.size, 0, none⟩ = some (.slice (some ⟨b, off, none⟩) L.length cap) := by simp [World.cell?, HY6.out]
    refine hK.out _ _ (Or.inr ?khHeld5) (fun hHeld5S => ?_)
    case khHeld5 => exact ⟨p5, p1⟩
    have hHeld5 := hHeld5S.held (by kernel_rfl)
    clear hK K
    try simp only [Act.put, List.setIfInBounds_toArray, List.set_cons_zero, List.set_cons_succ]
    refine wpG_one (i := 5) (o := { dst := some 38, op := Go.Op.buildSlice 57 1 #[(0, Go.Operand.tmp 37)], type := 57, pos := "l2_type.go:90", after := #[{ on := 4, ground := Go.Ground.data }], guard := none }) rfl (by kernel_rfl) (fun K hK => ?_)
    go_simp
    refine hK.out _ _ (Or.inr ?khHeld6) (fun hHeld6S => ?_)
    case khHeld6 => exact ⟨cell_alloc _ p5, cell_alloc _ p1⟩
    have hHeld6 := hHeld6S.held (by kernel_rfl)
    clear hK K
    try simp only [Act.put, List.setIfInBounds_toArray, List.set_cons_zero, List.set_cons_succ]
    refine wpG_one (i := 6) (o := { dst := some 39, op := Go.Op.call { callee := Go.Callee.builtin Go.Builtin.append, args := #[Go.Operand.tmp 34, Go.Operand.tmp 38], argTypes := #[57, 57] }, type := 57, pos := "l2_type.go:90", after := #[{ on := 1, ground := Go.Ground.data }, { on := 5, ground := Go.Ground.data }, { on := 4, ground := Go.Ground.chain }], guard := none }) rfl (by kernel_rfl) (fun K hK => ?_)
    refine step_append_lies _ rfl (.tmp 34) (.tmp 38) 57 rfl w5.heap.size 59 i0 (.agg #[.int .i64 0, .string ByteArray.empty, .int .i64 0, .bool false, .int .i64 0, .slice none 0 0]) 6 72 Try.underlying57 hi0 hz0 hz1 hz2 rfl (by decide) _ i vss.flatten rfl (HO6.out.alloc _) ⟨w6.heap.size, 0, none⟩ 1 1 [.int .i64 (treeOf L q).kind, .string (treeOf L q).name, .int .i64 (treeOf L q).no, .bool (treeOf L q).must, .int .i64 (treeOf L q).most, .slice qa (treeOf L q).kids.length qc] rfl rfl (World.news_of_block (cs := #[.int .i64 (treeOf L q).kind, .string (treeOf L q).name, .int .i64 (treeOf L q).no, .bool (treeOf L q).must, .int .i64 (treeOf L q).most, .slice qa (treeOf L q).kids.length qc]) (t := 59) (fr := (0, 0)) (heap_alloc_new w6 _)) (by simp [Value.oneCell']) (by omega) (by unfold maxLen; omega) (by omega) (by simp; omega) (w6.heap.size + 1) (by simp) ?_
    intro g cp w8 hown hgrow hat hlt
    have hnT : (Value.slice va i vn).ownBlock ≠ some w3.heap.size := tag_at HO.out (by omega)
    have HX8 := Lib.hid (hp_grown hgrow (hp_alloc (.cells #[.int .i64 (treeOf L q).kind, .string (treeOf L q).name, .int .i64 (treeOf L q).no, .bool (treeOf L q).must, .int .i64 (treeOf L q).most, .slice qa (treeOf L q).kids.length qc] 59) HX6.out) hnT)
    have HX9 := Lib.hid (box6_t5 HX8.out (.slice (some ⟨g, 0, none⟩) (i + 1) cp))
    have HW9 := Lib.hid (Wrote.setCell (wrote_grown (HW6.out.trans (Wrote.of_below (S := fun q => q = w3.heap.size) ((Below.refl w6.heap.size w6).alloc (Nat.le_refl _) (.cells #[.int .i64 (treeOf L q).kind, .string (treeOf L q).name, .int .i64 (treeOf L q).no, .bool (treeOf L q).must, .int .i64 (treeOf L q).most, .slice qa (treeOf L q).kids.length qc] 59)))) hgrow (fun k hk => (HO.out.lt k hk).1)) (p := ⟨w3.heap.size, 5, none⟩) rfl (.slice (some ⟨g, 0, none⟩) (i + 1) cp))
    have HO9 := Lib.hid (ownsRow_setCell_below hown (a := ⟨w3.heap.size, 5, none⟩) (by simp only; omega) (.slice (some ⟨g, 0, none⟩) (i + 1) cp))
    have hnX : ∀ q', (w5.heap.size ≤ q') → ¬ q' = w3.heap.size := fun q' hq' => by omega
    have HK9 := Lib.hid (kept_set (kept_grown (kept_alloc HK6.out (.cells #[.int .i64 (treeOf L q).kind, .string (treeOf L q).name, .int .i64 (treeOf L q).no, .bool (treeOf L q).must, .int .i64 (treeOf L q).most, .slice qa (treeOf L q).kids.length qc] 59)) hgrow (fun k hk _ => hk.2)) (X := w3.heap.size) (fun hs => hnX _ hs.1 rfl) 5 (.slice (some ⟨g, 0, none⟩) (i + 1) cp))
    have HJ9 := Lib.hid (kept_set (kept_grown (kept_alloc (Kept.refl (fun x => wo.heap.size ≤ x) w6) (.cells #[.int .i64 (treeOf L q).kind, .string (treeOf L q).name, .int .i64 (treeOf L q).no, .bool (treeOf L q).must, .int .i64 (treeOf L q).most, .slice qa (treeOf L q).kids.length qc] 59)) hgrow (fun k hk _ e => by have := (HO.out.lt k e).2; omega)) (X := w3.heap.size) (by omega) 5 (.slice (some ⟨g, 0, none⟩) (i + 1) cp))
    have hgb : (Value.slice va i vn).ownBlock = some g ∨ g = w6.heap.size + 1 := hat
    have HS9 : Hid (KSs (fun x => w5.heap.size ≤ x ∧ (Value.slice (some ⟨g, 0, none⟩) (i + 1) cp).ownBlock ≠ some x) (w8.setCell ⟨w3.heap.size, 5, none⟩ (.slice (some ⟨g, 0, none⟩) (i + 1) cp)) ((KL.take (i + 1)).map (treeOf L)) (vss ++ [[.int .i64 (treeOf L q).kind, .string (treeOf L q).name, .int .i64 (treeOf L q).no, .bool (treeOf L q).must, .int .i64 (treeOf L q).most, .slice qa (treeOf L q).kids.length qc]])) := Lib.hid (by
      refine KSs_put_map HQ.out (KSs.keep HK9.out (fun x hx hl => ⟨hx.1, fun e => ?_⟩) _ _ HKS.out) (KS.keep HJ9.out (fun x hx hl => ⟨by omega, fun e => ?_⟩) _ _ HQ6.out)
      · simp only [Value.ownBlock, Option.some.injEq] at e
        rcases hgb with h | h
        · exact hx.2 (by rw [h, e])
        · omega
      · simp only [Value.ownBlock, Option.some.injEq] at e
        rcases hgb with h | h
        · have := (HO.out.lt g h).2; omega
        · omega)
    obtain ⟨-, -, -, -, -, z5⟩ := box6 HX8.out
    have f5 := box6_z HX8.out 5
    clear hown hgrow hat hlt
    refine hK.out _ _ (Or.inl (by kernel_rfl)) (fun _ => ?_)
    clear hK K
    try simp only [Act.put, List.setIfInBounds_toArray, List.set_cons_zero, List.set_cons_succ]
    refine wpG_pure (i := 7) (oi := { dst := some 40, op := Go.Op.fieldAddr 59 (Go.Operand.tmp 6) 5, type := 0, pos := "l2_type.go:90", after := #[{ on := 0, ground := Go.Ground.phase }, { on := 1, ground := Go.Ground.phase }, { on := 2, ground := Go.Ground.phase }, { on := 3, ground := Go.Ground.phase }, { on := 4, ground := Go.Ground.phase }, { on := 5, ground := Go.Ground.phase }, { on := 6, ground := Go.Ground.phase }], guard := none }) (v := ?vg8) rfl (by kernel_rfl) (fun _ _ _ h => h) (Or.inl (by kernel_rfl)) (Or.inl ⟨by rfl, ?yg8⟩) ?_
    case yg8 => (intro wS _; go_simp <;> with_reducible rfl)
    try simp only [Act.put, List.setIfInBounds_toArray, List.set_cons_zero, List.set_cons_succ]
    refine wpG_one (i := 8) (o := { dst := none, op := Go.Op.store 57 (Go.Operand.tmp 40) (Go.Operand.tmp 39), type := 0, pos := "l2_type.go:90", after := #[{ on := 7, ground := Go.Ground.data }, { on := 6, ground := Go.Ground.data }, { on := 6, ground := Go.Ground.chain }, { on := 0, ground := Go.Ground.phase }, { on := 1, ground := Go.Ground.phase }, { on := 2, ground := Go.Ground.phase }, { on := 3, ground := Go.Ground.phase }, { on := 4, ground := Go.Ground.phase }, { on := 5, ground := Go.Ground.phase }, { on := 6, ground := Go.Ground.phase }], guard := none }) rfl (by kernel_rfl) (fun K hK => ?_)
    go_simp
    refine hK.out _ _ (Or.inl (by kernel_rfl)) (fun _ => ?_)
    clear hK K
    try simp only [Act.put, List.setIfInBounds_toArray, List.set_cons_zero, List.set_cons_succ]
    refine wpG_done (by kernel_rfl) ?_
    skip
    go_wp2_with fail
    go_roundw
    case rel => exact ⟨i + 1, .slice (some ⟨g, 0, none⟩) (i + 1) cp, vss ++ [[.int .i64 (treeOf L q).kind, .string (treeOf L q).name, .int .i64 (treeOf L q).no, .bool (treeOf L q).must, .int .i64 (treeOf L q).most, .slice qa (treeOf L q).kids.length qc]], by omega, by go_num, Lib.hid (by rw [List.flatten_concat]; exact HO9.out), HX9, HW9, HS9⟩
    case measure => (simp [intOf]; try omega)
theorem spec_l2Tree {B : Nat} {L : List Ty} {a : Option Addr} {cap : Nat} (hone : OneT L) : ∀ (f k : Nat) (w : World), L.length - k ≤ f → k < L.length → Sch B w L a cap → Calls Try.prog 35 #[.agg #[.slice a L.length cap], .int .i64 (k : Int)] w (TreeO L k w)
  | 0, k, w, hf, hk, _ => by omega
  | f + 1, k, w, hf, hk, h => spec_l2Tree_one h hone k hk (fun q wx h1 h2 h3 => spec_l2Tree hone f q wx (by omega) h2 h3)
end Go.Proofs.Ytmlnecopbncdbaa
