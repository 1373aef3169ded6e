/- The places at which boxes begin, or are over: sorted, each once; the program's edges. -/
import Derived.Test.YthlajmncpejhmaaVolL
import Derived.Test.YthlajmncpejhmaaBoxK
import Derived.Test.YthlajmncpejhmaaHBoxS
import Derived.Test.YthlajmncpejhmaaInts
import Derived.Test.YthlajmncpejhmaaShelf
import Derived.Sort.OwnSortedInts
import Derived.Lib.SlicesCompact
import Derived.Deep.AppendLies
import Derived.Laws.OwnMore
namespace Go.Proofs.Ythlajmncpejhmaa
set_option linter.unusedVariables false
open Go.ChangeShapes Go.WideShapes Go.ChangeAt Go.RowKit Go.Sort
set_option maxRecDepth 100000

/-! ### sorted, each once -/
def plcR (xs : List Int) : List Int := Go.Lib.compact (xs.mergeSort fun x y => decide (x ≤ y))
theorem compact_inv {zs : List Int} (hs : zs.Pairwise (· ≤ ·)) : ∀ m, m ≤ zs.length → (Go.Lib.compactUpTo zs.toArray m).Pairwise (· < ·) ∧ (∀ x, x ∈ Go.Lib.compactUpTo zs.toArray m ↔ x ∈ zs.take m)
  | 0, _ => by simp [Go.Lib.compactUpTo]
  | m + 1, hm => by
    obtain ⟨h1, h2⟩ := compact_inv hs m (by omega)
    have hx : zs[m]? = some zs[m] := List.getElem?_eq_getElem (by omega)
    have hg : zs.toArray[m]! = zs[m] := by rw [getElem!_pos _ m (by simp; omega)]; simp
    rw [Go.Lib.compactUpTo_succ, take_next zs m _ hx]
    rcases Nat.eq_zero_or_pos m with rfl | hm0
    · have hk : Go.Lib.keeps zs.toArray 0 = true := Go.Lib.keeps_lt_one _ 0 (by omega)
      rw [hk, if_pos rfl, hg]
      have e : Go.Lib.compactUpTo zs.toArray 0 = [] := rfl
      rw [e]
      exact ⟨by simp, fun x => by simp⟩
    · have hy : zs[m - 1]? = some (zs[m - 1]'(by omega)) := List.getElem?_eq_getElem _
      have hg1 : zs.toArray[m - 1]! = zs[m - 1]'(by omega) := by rw [getElem!_pos _ (m - 1) (by simp; omega)]; simp
      have hle : zs[m - 1]'(by omega) ≤ zs[m] := List.pairwise_iff_getElem.1 hs (m - 1) m (by omega) (by omega) (by omega)
      have hin : zs[m - 1]'(by omega) ∈ zs.take m := by
        rw [List.mem_take_iff_getElem]; exact ⟨m - 1, by omega, rfl⟩
      have hall : ∀ x ∈ zs.take m, x ≤ zs[m - 1]'(by omega) := by
        intro x hx'
        rw [List.mem_take_iff_getElem] at hx'
        obtain ⟨j, hj, rfl⟩ := hx'
        rcases Nat.lt_or_ge j (m - 1) with h | h
        · exact List.pairwise_iff_getElem.1 hs j (m - 1) (by omega) (by omega) h
        · have : j = m - 1 := by omega
          subst this; exact Int.le_refl _
      by_cases hne : zs[m] = zs[m - 1]'(by omega)
      · have hk : Go.Lib.keeps zs.toArray m = false := Go.Lib.keeps_neg hm0 (by rw [hg, hg1, hne])
        rw [hk, if_neg (by simp), List.append_nil]
        refine ⟨h1, fun x => ?_⟩
        rw [h2 x, List.mem_append]
        exact ⟨.inl, fun h => h.elim id fun h => by simp at h; rw [h, hne]; exact hin⟩
      · have hk : Go.Lib.keeps zs.toArray m = true := Go.Lib.keeps_pos (by rw [hg, hg1]; exact hne)
        rw [hk, if_pos rfl, hg]
        refine ⟨List.pairwise_append.2 ⟨h1, by simp, fun x hx' y hy' => ?_⟩, fun x => by rw [List.mem_append, List.mem_append, h2 x]⟩
        simp at hy'; subst hy'
        have := hall x ((h2 x).1 hx')
        omega
theorem plc_inv (xs : List Int) : (plcR xs).Pairwise (· < ·) ∧ ∀ x, x ∈ plcR xs ↔ x ∈ xs := by
  have hs : (xs.mergeSort fun x y => decide (x ≤ y)).Pairwise (· ≤ ·) := (List.pairwise_mergeSort (le := fun x y : Int => decide (x ≤ y)) (by intro a b c; simp; omega) (by intro a b; simp; omega) xs).imp (by intro a b h; simpa using h)
  obtain ⟨h1, h2⟩ := compact_inv hs _ (Nat.le_refl _)
  refine ⟨h1, fun x => ?_⟩
  unfold plcR Go.Lib.compact
  rw [h2 x, List.take_length]
  exact (List.mergeSort_perm xs _).mem_iff
theorem compact_le (zs : List Int) : (Go.Lib.compact zs).length ≤ zs.length := by
  unfold Go.Lib.compact Go.Lib.compactUpTo
  rw [List.length_map]
  have := List.length_filter_le (Go.Lib.keeps zs.toArray) (List.range zs.length)
  simpa using this
theorem own_holds {w : World} {base g cap n : Nat} {e : TypeId} {xs : List Int} (ho : w.ownsRow base e 1 (.slice (some ⟨g, 0, none⟩) n cap) n (ints xs)) (hn : n = xs.length) : Holds (Value.int .i64) w g 0 xs.toArray := by
  rcases ho.2 with ⟨hv, _⟩ | ⟨g', cap', cur, hv, hgb, hhb, hn1, hn2, hn3, hn4⟩
  · cases hv
  cases hv
  exact holds_of_blockI (ss := xs) hhb (by subst hn; simpa [ints] using hn4)
theorem grow_none (w : World) : grow w #[] = w := by unfold grow; simp
theorem own_sorted {w : World} {base g cap n q : Nat} {e : TypeId} {os : Array Obj} {xs ts : List Int} (ho : w.ownsRow base e 1 (.slice (some ⟨g, 0, none⟩) n cap) n (ints xs)) (hn : n = xs.length) (ht : ts.length = xs.length) :
    (grow (putRow (Value.int .i64) (Sort.ahead w q) g 0 ts.toArray) os).ownsRow base e 1 (.slice (some ⟨g, 0, none⟩) n cap) n (ints ts) := by
  rcases ho.2 with ⟨hv, _⟩ | ⟨g', cap', cur, hv, hgb, hhb, hn1, hn2, hn3, hn4⟩
  · cases hv
  cases hv
  have := ownsRow_sortedI (w := w) (n := q) (os := os) (ss := xs) (ts := ts) ht hgb hhb (by omega) hn2 hn3
  rw [← hn] at this
  exact this
theorem rdl_snocV {α : Type} {K : Kind α} {B : Nat} {w : World} {v : List Value} {x : α} (hx : K.rd B w v x) : ∀ {vs : List (List Value)} {xs : List α}, RdL K B w vs xs → RdL K B w (vs ++ [v]) (xs ++ [x])
  | [], [], _ => ⟨hx, trivial⟩
  | _ :: _, _ :: _, h => ⟨h.1, rdl_snocV hx h.2⟩
theorem box_rwV {w : World} {q : Option Addr} {n c : Nat} {x : Bx} (h : kBox.rd w.heap.size w [.slice q n c] x) : Rw w q (sds x) ∧ n = x.length := by
  obtain ⟨a, cap, hc, hr, _, _⟩ := box_form h
  simp only [List.cons.injEq, Value.slice.injEq, and_true] at hc
  obtain ⟨rfl, h1, _⟩ := hc
  exact ⟨hr, h1⟩
theorem box_formV {B : Nat} {w : World} {cs : List Value} {x : Bx} (h : kBox.rd B w cs x) : ∃ a cap, cs = [.slice a x.length cap] := by
  obtain ⟨a, cap, vss, rfl, _⟩ := h; exact ⟨a, cap, rfl⟩
/-- the two numbers of a box's side -/
theorem side_cells {w : World} {a : Option Addr} {n c : Nat} {x : Bx} (h : kBox.rd w.heap.size w [.slice a n c] x) {i : Nat} (hi : i < x.length) : ∃ b off, a = some ⟨b, off, none⟩ ∧ b < w.heap.size ∧ w.cell? ⟨b, off + i * 2, none⟩ = some (.int .i64 (x.getD i (0, 0)).1) ∧ w.cell? ⟨b, off + i * 2 + 1, none⟩ = some (.int .i64 (x.getD i (0, 0)).2) := by
  obtain ⟨b, off, ha, hb, hc⟩ := (box_rwV h).1.at (fun e => by
    have := sds_lo x i hi
    rw [e] at this; cases this)
  refine ⟨b, off, ha, hb, hc _ _ (sds_lo x i hi), ?_⟩
  have := hc _ _ (sds_hi x i hi)
  rwa [← Nat.add_assoc] at this
def edgeI (l : List Bx) (i : Nat) : List Int := l.flatMap fun b => [(b.getD i (0, 0)).1, (b.getD i (0, 0)).2 + 1]
theorem edgeI_len : ∀ (l : List Bx) (i : Nat), (edgeI l i).length = 2 * l.length
  | [], i => rfl
  | b :: l, i => by have := edgeI_len l i; unfold edgeI at *; rw [List.flatMap_cons, List.length_append, this, List.length_cons]; simp; omega
theorem edgeI_next {l : List Bx} {i j : Nat} {b : Bx} (h : l[j]? = some b) : edgeI (l.take (j + 1)) i = edgeI (l.take j) i ++ [(b.getD i (0, 0)).1, (b.getD i (0, 0)).2 + 1] := by
  unfold edgeI
  rw [take_next l j b h, List.flatMap_append]; simp
theorem getD_drop (b : Bx) (i : Nat) : (b.drop i).getD 0 (0, 0) = b.getD i (0, 0) := by
  rw [List.getD_eq_getElem?_getD, List.getElem?_drop, List.getD_eq_getElem?_getD, Nat.add_zero]
theorem edgeI_L (l : List Bx) (i : Nat) : edgeL (l.map (·.drop i)) = edgeI l i := by
  unfold edgeL edgeI
  rw [List.flatMap_map]
  simp only [getD_drop]
/-- what edges hands out -/
def PlcOf (l : List Bx) (i : Nat) (w : World) (e : Ending) (w' : World) : Prop :=
  ∃ g cp, e = .returned (.slice (some ⟨g, 0, none⟩) (plcR (edgeI l i)).length cp) ∧ (∀ (k : Nat) (x : Int), (plcR (edgeI l i))[k]? = some x → w'.cell? ⟨g, k, none⟩ = some (.int .i64 x)) ∧ g < w'.heap.size ∧ ((plcR (edgeI l i)).length ≤ cp ∧ cp ≤ 9223372036854775807) ∧ Below w.heap.size w w'
theorem Try.infoIntV : (Try.prog.info? 3).map (fun i => (i.zero, i.size, i.bytes)) = some (some (.int .i64 0), 1, 8) := by kernel_rfl
set_option maxHeartbeats 4000000 in
theorem impl_edges (a : Option Addr) (cap : Nat) (l : List Bx) (i : Nat) (w : World) (hr : kBoxS.rd w.heap.size w [.slice a l.length cap] l) (hi3 : i < 3) (hl : ∀ b ∈ l, Ok3 b) (hn : l.length ≤ 20) :
    Calls Try.prog 74 #[.slice a l.length cap, .int .i64 (i : Int)] w (PlcOf l i w) := by
  obtain ⟨i0, hi, hz0, hz1, hz2⟩ := info_parts Try.infoIntV
  have HR := Lib.hid hr
  have hcl := (sl_len hr).2
  have HOK := Lib.hid hl
  have HLEN := Lib.hid (fun (j : Nat) (hj : j ≤ l.length) => show (edgeI (l.take j) i).length = 2 * j by rw [edgeI_len, List.length_take, Nat.min_eq_left hj])
  unfold PlcOf
  clear hr hl
  go_enter Try.func74, Try.ntmps74
  go_wp2_with fail
  go_loopw [5, 11] (fun ov jv wr => ∃ (j g cp : Nat), j ≤ l.length ∧ jv = .int .i64 (j : Int) ∧ ov = .slice (some ⟨g, 0, none⟩) (2 * j) cp ∧ Hid (wr.ownsRow w.heap.size 3 1 (.slice (some ⟨g, 0, none⟩) (2 * j) cp) (2 * j) (ints (edgeI (l.take j) i))) ∧ Hid (Below w.heap.size w wr)) (fun _ jv _ => l.length - (intOf jv).toNat)
  case atStart => exact ⟨0, w.heap.size, 0, by omega, rfl, rfl, Lib.hid (World.ownsRow_made _ #[] 0 (Nat.le_refl _) (by unfold maxLen; omega) rfl), Lib.hid ((Below.refl _ _).alloc (Nat.le_refl _) _)⟩
  case round =>
    obtain ⟨w1, rfl⟩ : ∃ z : World, z = wr := ⟨_, rfl⟩
    obtain ⟨j, g, cp, hj, rfl, rfl, HO, HB⟩ := hrel
    by_cases hjl : j < l.length
    case neg =>
      obtain rfl : j = l.length := by omega
      have hlen := HLEN.out l.length (Nat.le_refl _)
      rw [List.take_length] at HO hlen
      have HL := Lib.hid hlen
      have hgl : g < w1.heap.size := (HO.out.lt g rfl).2
      have hgw : w.heap.size ≤ g := (HO.out.lt g rfl).1
      have hcp := own_caps HO.out
      unfold maxLen at hcp
      have HSRT := Lib.hid (Try.slices_Sort_int g 0 cp (edgeI l i) w1 (own_holds HO.out HL.out.symm) hgl (by omega))
      rw [hlen] at HSRT
      have HXS : Hid (((edgeI l i).mergeSort fun x y => decide (x ≤ y)).length = 2 * l.length) := Lib.hid (by rw [List.length_mergeSort]; exact hlen)
      have HPE : Hid (plcR (edgeI l i) = Go.Lib.compact ((edgeI l i).mergeSort fun x y => decide (x ≤ y))) := Lib.hid rfl
      have HPL := Lib.hid (compact_le ((edgeI l i).mergeSort fun x y => decide (x ≤ y)))
      have HSO := Lib.hid (fun (n : Nat) (os : Array Obj) => own_sorted (q := n) (os := os) (ts := (edgeI l i).mergeSort fun x y => decide (x ≤ y)) HO.out HL.out.symm (List.length_mergeSort _))
      have HSB := Lib.hid (fun (n : Nat) (os : Array Obj) => Below.grown HB.out (grownBy_sortedI (w := w1) (g := g) (n := n) (os := os) ((edgeI l i).mergeSort fun x y => decide (x ≤ y)).toArray) HB.out.size (fun j hj => by cases hj; exact hgw))
      clear hlen
      generalize (edgeI l i).mergeSort (fun x y => decide (x ≤ y)) = ss at *
      go_wp2_with fail
      refine HSRT.out.mono ?_
      rintro e w2 ⟨rfl, n, os, hw⟩
      have HO2 := Lib.hid (HSO.out n os); have HB2 := Lib.hid (HSB.out n os)
      rw [← hw] at HO2 HB2
      clear hw HSO HSB HSRT HO
      have HCMP := Lib.hid (Try.slices_Compact_int g 0 cp ss w2 (own_holds HO2.out HXS.out.symm) (by have := HXS.out; omega) (by have := HXS.out; omega))
      rw [HXS.out] at HCMP
      have HCO := Lib.hid (fun (q : Nat) => own_sorted (q := q) (os := #[]) (ts := Go.Lib.compact ss ++ List.replicate (2 * l.length - (Go.Lib.compact ss).length) 0) HO2.out HXS.out.symm (by have := HPL.out; have := HXS.out; rw [List.length_append, List.length_replicate]; omega))
      have HCB := Lib.hid (fun (q : Nat) => Below.grown HB2.out (grownBy_sortedI (w := w2) (g := g) (n := q) (os := #[]) (Go.Lib.compact ss ++ List.replicate (2 * l.length - (Go.Lib.compact ss).length) 0).toArray) HB2.out.size (fun j hj => by cases hj; exact hgw))
      have hpl : (Go.Lib.compact ss).length ≤ 2 * l.length := by have := HPL.out; have := HXS.out; omega
      generalize Go.Lib.compact ss = cs at *
      go_wp2_with fail
      refine HCMP.out.mono ?_
      rintro e w3 ⟨rfl, q, hw⟩
      have HO3 := Lib.hid (HCO.out q); have HB3 := Lib.hid (HCB.out q)
      rw [grow_none, ← hw] at HO3 HB3
      clear hw HCO HCB HCMP HO2 HB2
      go_wp2_with fail
      go_ret
      rw [HPE.out]
      refine ⟨g, cp, rfl, fun k x hx => ?_, (HO3.out.lt g rfl).2, by omega, HB3.out⟩
      have hk := (List.getElem?_eq_some_iff.1 hx).1
      rw [HO3.out.cellAt k (by omega)]
      unfold ints
      rw [List.getElem?_map, List.getElem?_append_left hk, hx]; rfl
    obtain ⟨x, hx⟩ : ∃ x, l[j]? = some x := ⟨l[j], List.getElem?_eq_getElem hjl⟩
    obtain ⟨u, b, off, hu, rfl, hbl, hc⟩ := sl_one kBox_ok rfl HR.out hx
    obtain ⟨a2, p2, hu2⟩ := box_formV hu
    simp only [List.cons.injEq, and_true] at hu2
    subst hu2
    have hok := HOK.out x (List.mem_of_getElem? hx)
    have hx3 : i < x.length := by rw [hok.2]; exact hi3
    obtain ⟨b2, o2, rfl, hb2, s0, s1⟩ := side_cells hu hx3
    have hrg := hok.1 (x.getD i (0, 0)) (by rw [List.getD_eq_getElem?_getD, List.getElem?_eq_getElem hx3]; exact List.getElem_mem hx3)
    have c0 := below_cellk HB.out hc hbl
    have k1 := cell_alloc (.cells #[.slice (some ⟨b2, o2, none⟩) x.length p2] 28) (below_cellk HB.out s0 hb2)
    have k2 := cell_alloc (.cells #[.slice (some ⟨b2, o2, none⟩) x.length p2] 28) (below_cellk HB.out s1 hb2)
    have k0 : (w1.alloc (.cells #[.slice (some ⟨b2, o2, none⟩) x.length p2] 28)).cell? ⟨w1.heap.size, 0, none⟩ = some (.slice (some ⟨b2, o2, none⟩) x.length p2) := by go_simp
    have HNX := Lib.hid (edgeI_next (i := i) hx)
    have HOA := Lib.hid (HO.out.alloc (.cells #[.slice (some ⟨b2, o2, none⟩) x.length p2] 28))
    have HBA := Lib.hid (ralloc HB.out (.cells #[.slice (some ⟨b2, o2, none⟩) x.length p2] 28))
    have hx3i : (i : Int) < (x.length : Int) := by omega
    have hi0 : (0 : Int) ≤ (i : Int) := Int.natCast_nonneg _
    clear hx hu hc s0 s1 hok
    generalize (x.getD i (0, 0)).1 = lo at *
    generalize (x.getD i (0, 0)).2 = hh at *
    have hwr : IntKind.i64.wrap (hh + 1) = hh + 1 := IntWalk.i64_in _ (by omega)
    have hsA : w.heap.size ≤ (w1.alloc (.cells #[.slice (some ⟨b2, o2, none⟩) x.length p2] 28)).heap.size := HBA.out.size
    go_wp2_with fail
    generalize w1.alloc (.cells #[.slice (some ⟨b2, o2, none⟩) x.length p2] 28) = wa at *
    generalize w1.heap.size = B7 at *
    have HNW := Lib.hid (World.news_of_block (cs := #[Value.int .i64 lo, .int .i64 (hh + 1)]) (t := 3) (fr := (0, 0)) (heap_alloc_new wa (.cells #[.int .i64 lo, .int .i64 (hh + 1)] 3)))
    refine wp_region_G [15] (fun w' => w'.cell? ⟨B7, 0, none⟩ = some (.slice (some ⟨b2, o2, none⟩) x.length p2) ∧ w'.cell? ⟨b2, o2 + i * 2, none⟩ = some (.int .i64 lo) ∧ w'.cell? ⟨b2, o2 + i * 2 + 1, none⟩ = some (.int .i64 hh)) (by kernel_rfl) ?_ (fun hHeld => ?_)
    · exact ⟨k0, k1, k2⟩
    refine wpG_pure (i := 0) (oi := { dst := some 15, op := Go.Op.move (Go.Operand.tmp 5), type := 36, pos := "l9_cover.go:163", after := #[], guard := none }) (v := ?vg1) rfl (by kernel_rfl) (fun _ _ _ h => h) (Or.inr hHeld) (Or.inl ⟨by rfl, ?yg1⟩) ?_
    case yg1 => (intro wS _; go_simp <;> with_reducible rfl)
    try simp only [Act.put, List.setIfInBounds_toArray, List.set_cons_zero, List.set_cons_succ]
    refine wpG_pure (i := 1) (oi := { dst := some 16, op := Go.Op.fieldAddr 28 (Go.Operand.tmp 7) 0, type := 0, pos := "l9_cover.go:163", after := #[], guard := none }) (v := ?vg2) rfl (by kernel_rfl) (fun _ _ _ h => h) (Or.inr hHeld) (Or.inl ⟨by rfl, ?yg2⟩) ?_
    case yg2 => (intro wS _; go_simp <;> with_reducible rfl)
    try simp only [Act.put, List.setIfInBounds_toArray, List.set_cons_zero, List.set_cons_succ]
    refine wpG_load (i := 2) (oi := { dst := some 17, op := Go.Op.load 26 (Go.Operand.tmp 16), type := 26, pos := "l9_cover.go:163", after := #[{ on := 1, ground := Go.Ground.data }], guard := none }) (v := ?vg3) [[15, 14, 6, 5, 4, 2]] rfl (by kernel_rfl) (fun _ _ _ h => h) hHeld (Or.inl ⟨by rfl, ?yg3⟩) ?_
    case yg3 => (intro wS hSw; (try dsimp only at hSw); go_simp <;> with_reducible rfl)
    try simp only [Act.put, List.setIfInBounds_toArray, List.set_cons_zero, List.set_cons_succ]
    refine wpG_pure (i := 3) (oi := { dst := some 18, op := Go.Op.move (Go.Operand.tmp 1), type := 3, pos := "l9_cover.go:163", after := #[], guard := none }) (v := ?vg4) rfl (by kernel_rfl) (fun _ _ _ h => h) (Or.inr hHeld) (Or.inl ⟨by rfl, ?yg4⟩) ?_
    case yg4 => (intro wS _; go_simp <;> with_reducible rfl)
    try simp only [Act.put, List.setIfInBounds_toArray, List.set_cons_zero, List.set_cons_succ]
    refine wpG_pure (i := 4) (oi := { dst := some 19, op := Go.Op.indexAddr 26 (Go.Operand.tmp 17) (Go.Operand.tmp 18), type := 0, pos := "l9_cover.go:163", after := #[{ on := 2, ground := Go.Ground.data }, { on := 3, ground := Go.Ground.data }], guard := none }) (v := ?vg5) rfl (by kernel_rfl) (fun _ _ _ h => h) (Or.inr hHeld) (Or.inl ⟨by rfl, ?yg5⟩) ?_
    case yg5 => (intro wS _; go_simp <;> with_reducible rfl)
    try simp only [Act.put, List.setIfInBounds_toArray, List.set_cons_zero, List.set_cons_succ]
    refine wpG_pure (i := 5) (oi := { dst := some 20, op := Go.Op.fieldAddr 64 (Go.Operand.tmp 19) 0, type := 0, pos := "l9_cover.go:163", after := #[{ on := 4, ground := Go.Ground.data }], guard := none }) (v := ?vg6) rfl (by kernel_rfl) (fun _ _ _ h => h) (Or.inr hHeld) (Or.inl ⟨by rfl, ?yg6⟩) ?_
    case yg6 => (intro wS _; go_simp <;> with_reducible rfl)
    try simp only [Act.put, List.setIfInBounds_toArray, List.set_cons_zero, List.set_cons_succ]
    refine wpG_load (i := 6) (oi := { dst := some 21, op := Go.Op.load 3 (Go.Operand.tmp 20), type := 3, pos := "l9_cover.go:163", after := #[{ on := 5, ground := Go.Ground.data }], guard := none }) (v := ?vg7) [[15, 14, 6]] rfl (by kernel_rfl) (fun _ _ _ h => h) hHeld (Or.inl ⟨by rfl, ?yg7⟩) ?_
    case yg7 => (intro wS hSw; (try dsimp only at hSw); go_simp <;> with_reducible rfl)
    try simp only [Act.put, List.setIfInBounds_toArray, List.set_cons_zero, List.set_cons_succ]
    refine wpG_pure (i := 7) (oi := { dst := some 22, op := Go.Op.fieldAddr 28 (Go.Operand.tmp 7) 0, type := 0, pos := "l9_cover.go:163", after := #[], guard := none }) (v := ?vg8) rfl (by kernel_rfl) (fun _ _ _ h => h) (Or.inr hHeld) (Or.inl ⟨by rfl, ?yg8⟩) ?_
    case yg8 => (intro wS _; go_simp <;> with_reducible rfl)
    try simp only [Act.put, List.setIfInBounds_toArray, List.set_cons_zero, List.set_cons_succ]
    refine wpG_load (i := 8) (oi := { dst := some 23, op := Go.Op.load 26 (Go.Operand.tmp 22), type := 26, pos := "l9_cover.go:163", after := #[{ on := 7, ground := Go.Ground.data }], guard := none }) (v := ?vg9) [[15, 14, 13, 12, 11, 10, 8]] rfl (by kernel_rfl) (fun _ _ _ h => h) hHeld (Or.inl ⟨by rfl, ?yg9⟩) ?_
    case yg9 => (intro wS hSw; (try dsimp only at hSw); go_simp <;> with_reducible rfl)
    try simp only [Act.put, List.setIfInBounds_toArray, List.set_cons_zero, List.set_cons_succ]
    refine wpG_pure (i := 9) (oi := { dst := some 24, op := Go.Op.move (Go.Operand.tmp 1), type := 3, pos := "l9_cover.go:163", after := #[], guard := none }) (v := ?vg10) rfl (by kernel_rfl) (fun _ _ _ h => h) (Or.inr hHeld) (Or.inl ⟨by rfl, ?yg10⟩) ?_
    case yg10 => (intro wS _; go_simp <;> with_reducible rfl)
    try simp only [Act.put, List.setIfInBounds_toArray, List.set_cons_zero, List.set_cons_succ]
    refine wpG_pure (i := 10) (oi := { dst := some 25, op := Go.Op.indexAddr 26 (Go.Operand.tmp 23) (Go.Operand.tmp 24), type := 0, pos := "l9_cover.go:163", after := #[{ on := 8, ground := Go.Ground.data }, { on := 9, ground := Go.Ground.data }], guard := none }) (v := ?vg11) rfl (by kernel_rfl) (fun _ _ _ h => h) (Or.inr hHeld) (Or.inl ⟨by rfl, ?yg11⟩) ?_
    case yg11 => (intro wS _; go_simp <;> with_reducible rfl)
    try simp only [Act.put, List.setIfInBounds_toArray, List.set_cons_zero, List.set_cons_succ]
    refine wpG_pure (i := 11) (oi := { dst := some 26, op := Go.Op.fieldAddr 64 (Go.Operand.tmp 25) 1, type := 0, pos := "l9_cover.go:163", after := #[{ on := 10, ground := Go.Ground.data }], guard := none }) (v := ?vg12) rfl (by kernel_rfl) (fun _ _ _ h => h) (Or.inr hHeld) (Or.inl ⟨by rfl, ?yg12⟩) ?_
    case yg12 => (intro wS _; go_simp <;> with_reducible rfl)
    try simp only [Act.put, List.setIfInBounds_toArray, List.set_cons_zero, List.set_cons_succ]
    refine wpG_load (i := 12) (oi := { dst := some 27, op := Go.Op.load 3 (Go.Operand.tmp 26), type := 3, pos := "l9_cover.go:163", after := #[{ on := 11, ground := Go.Ground.data }], guard := none }) (v := ?vg13) [[15, 14, 13, 12]] rfl (by kernel_rfl) (fun _ _ _ h => h) hHeld (Or.inl ⟨by rfl, ?yg13⟩) ?_
    case yg13 => (intro wS hSw; (try dsimp only at hSw); go_simp <;> with_reducible rfl)
    try simp only [Act.put, List.setIfInBounds_toArray, List.set_cons_zero, List.set_cons_succ]
    refine wpG_pure (i := 13) (oi := { dst := some 28, op := Go.Op.binOp Go.BinOp.add 3 (Go.Operand.tmp 27) (Go.Operand.const (Go.Value.int Go.IntKind.i64 1)) 3, type := 3, pos := "l9_cover.go:163", after := #[{ on := 12, ground := Go.Ground.data }], guard := none }) (v := ?vg14) rfl (by kernel_rfl) (fun _ _ _ h => h) (Or.inr hHeld) (Or.inl ⟨by rfl, ?yg14⟩) ?_
    case yg14 => (intro wS _; go_simp <;> with_reducible rfl)
    try simp only [Act.put, List.setIfInBounds_toArray, List.set_cons_zero, List.set_cons_succ]
    refine wpG_one (i := 14) (o := { dst := some 29, op := Go.Op.buildSlice 36 2 #[(0, Go.Operand.tmp 21), (1, Go.Operand.tmp 28)], type := 36, pos := "l9_cover.go:163", after := #[{ on := 6, ground := Go.Ground.data }, { on := 13, ground := Go.Ground.data }], guard := none }) rfl (by kernel_rfl) (fun K hK => ?_)
    go_simp
    refine hK.out _ _ (Or.inr ?khHeld15) (fun hHeld15S => ?_)
    case khHeld15 => exact ⟨cell_alloc _ k0, cell_alloc _ k1, cell_alloc _ k2⟩
    have hHeld15 := hHeld15S.held (by kernel_rfl)
    clear hK K
    try simp only [Act.put, List.setIfInBounds_toArray, List.set_cons_zero, List.set_cons_succ]
    refine wpG_one (i := 15) (o := { dst := some 30, op := Go.Op.call { callee := Go.Callee.builtin Go.Builtin.append, args := #[Go.Operand.tmp 15, Go.Operand.tmp 29], argTypes := #[36, 36] }, type := 36, pos := "l9_cover.go:163", after := #[{ on := 0, ground := Go.Ground.data }, { on := 14, ground := Go.Ground.data }], guard := none }) rfl (by kernel_rfl) (fun K hK => ?_)
    refine step_append_lies _ rfl (.tmp 15) (.tmp 29) 36 rfl w.heap.size 3 i0 (.int .i64 0) 1 8 Try.underlying36 hi hz0 hz1 hz2 rfl (by decide) (.slice (some ⟨g, 0, none⟩) (2 * j) cp) (2 * j) (ints (edgeI (l.take j) i)) rfl (own_later HOA.out (rdrew (ralloc (Below.refl wa.heap.size wa) _) 1)) ⟨wa.heap.size, 0, none⟩ 2 2 [.int .i64 lo, .int .i64 (hh + 1)] rfl rfl HNW.out (by simp [Value.oneCell']) (by omega) (by unfold maxLen; omega) (by omega) (by first | omega | (simp; omega)) _ rfl ?_
    intro g9 cp9 w9 hown hgrow hat9 hlt9
    have HO9 : Hid (w9.ownsRow w.heap.size 3 1 (.slice (some ⟨g9, 0, none⟩) (2 * j + 2) cp9) (2 * j + 2) (ints (edgeI (l.take (j + 1)) i))) := Lib.hid (by rw [HNX.out]; unfold ints at *; rw [List.map_append]; exact hown)
    have HB9 := Lib.hid (Below.grown (rdrew (ralloc HBA.out (.cells #[.int .i64 lo, .int .i64 (hh + 1)] 3)) 1) hgrow (by first | (simp; done) | (simp; omega)) (fun k hk => (HOA.out.lt k hk).1))
    clear hown hgrow hat9 hlt9
    refine hK.out _ _ (Or.inl (by kernel_rfl)) (fun _ => ?_)
    clear hK K
    try simp only [Act.put, List.setIfInBounds_toArray, List.set_cons_zero, List.set_cons_succ]
    refine wpG_pure (i := 16) (oi := { dst := some 5, op := Go.Op.assign (Go.Operand.tmp 30), type := 36, pos := "l9_cover.go:163", after := #[{ on := 15, ground := Go.Ground.data }, { on := 15, ground := Go.Ground.chain }, { on := 0, ground := Go.Ground.phase }, { on := 1, ground := Go.Ground.phase }, { on := 2, ground := Go.Ground.phase }, { on := 3, ground := Go.Ground.phase }, { on := 4, ground := Go.Ground.phase }, { on := 5, ground := Go.Ground.phase }, { on := 6, ground := Go.Ground.phase }, { on := 7, ground := Go.Ground.phase }, { on := 8, ground := Go.Ground.phase }, { on := 9, ground := Go.Ground.phase }, { on := 10, ground := Go.Ground.phase }, { on := 11, ground := Go.Ground.phase }, { on := 12, ground := Go.Ground.phase }, { on := 13, ground := Go.Ground.phase }, { on := 14, ground := Go.Ground.phase }, { on := 15, ground := Go.Ground.phase }], guard := none }) (v := ?vg17) rfl (by kernel_rfl) (fun _ _ _ h => h) (Or.inl (by kernel_rfl)) (Or.inl ⟨by rfl, ?yg17⟩) ?_
    case yg17 => (intro wS _; go_simp <;> with_reducible rfl)
    try simp only [Act.put, List.setIfInBounds_toArray, List.set_cons_zero, List.set_cons_succ]
    refine wpG_done (by kernel_rfl) ?_
    skip
    go_wp2_with fail
    go_roundw
    case rel => exact ⟨j + 1, g9, cp9, by omega, by go_num, by rw [show 2 * (j + 1) = 2 * j + 2 by omega], by rw [show 2 * (j + 1) = 2 * j + 2 by omega]; exact HO9, HB9⟩
    case measure => (simp [intOf]; try omega)
end Go.Proofs.Ythlajmncpejhmaa
