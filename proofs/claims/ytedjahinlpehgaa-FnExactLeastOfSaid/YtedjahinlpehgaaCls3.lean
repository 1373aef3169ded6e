/- The contracts of the program's numbering of marks. -/
import Derived.Test.YtedjahinlpehgaaCls2
namespace Go.Proofs.Ytedjahinlpehgaa
set_option linter.unusedVariables false
open Go.ChangeShapes Go.WideShapes Go.ChangeAt Go.RowKit
set_option maxRecDepth 100000

def mkC (x : Mk) : List Value := [.int .i64 x.1, .int .i64 x.2.1, .int .i64 x.2.2.1, .int .i64 x.2.2.2]
def mkV (x : Mk) : Value := .agg #[.int .i64 x.1, .int .i64 x.2.1, .int .i64 x.2.2.1, .int .i64 x.2.2.2]
def okMk (x : Mk) : Prop := (-1000 ≤ x.1 ∧ x.1 ≤ 1000) ∧ (-1000 ≤ x.2.1 ∧ x.2.1 ≤ 1000) ∧ (-1000 ≤ x.2.2.1 ∧ x.2.2.1 ≤ 1000) ∧ (-1000 ≤ x.2.2.2 ∧ x.2.2.2 ≤ 1000)
theorem mkV_inj {x y : Mk} (h : mkV x = mkV y) : x = y := by
  obtain ⟨a, b, c, d⟩ := x; obtain ⟨e, f, g, i⟩ := y
  simp [mkV] at h
  simp [h]
theorem mem_mkV {l : List Mk} {x : Mk} : mkV x ∈ l.map mkV ↔ x ∈ l := by
  rw [List.mem_map]
  exact ⟨fun ⟨y, h1, h2⟩ => mkV_inj h2 ▸ h1, fun h => ⟨x, h, rfl⟩⟩
theorem ky_mk {x : Mk} (h : okMk x) : Ky 93 (mkV x) := by
  obtain ⟨h1, h2, h3, h4⟩ := h
  exact ky_mark (WalkArith.wf_i64 (by omega)) (WalkArith.wf_i64 (by omega)) (WalkArith.wf_i64 (by omega)) (WalkArith.wf_i64 (by omega))
theorem fill_at2 (L : List Value) (z : Value) (k : Nat) (hk : k < L.length) : (fill L z k)[k]? = some z := fill_at L z k k (Nat.le_refl _) hk
theorem num_at {L : List Mk} {k : Nat} {x : Mk} (hx : L[k]? = some x) : (ints (numR L))[k]? = some (.int .i64 (at1 (dist L) x)) := by simp [ints, numR, hx]
theorem dist_take (L : List Mk) (k : Nat) : dist (L.take k) <+: dist L := by
  have := dist_pre (L.take k) (L.drop k); rwa [List.take_append_drop] at this
theorem made_fill (L : List Mk) : (madeCells (Value.int .i64 0).cells (L.length * 1)).toList = fill (ints (numR L)) (.int .i64 0) 0 := by
  rw [fill_zero, ints_length, numR_length, Nat.mul_one]
  apply List.ext_getElem
  · simp [madeCells]
  · intro i h1 h2
    simp [madeCells, Value.cells, Nat.mod_one]

set_option maxHeartbeats 4000000 in
theorem impl_number (g cp : Nat) (L : List Mk) (w : World) (hg : g < w.heap.size) (hrow : ∀ (k : Nat) (x : Mk), L[k]? = some x → w.cell? ⟨g, k * 4, none⟩ = some (.int .i64 x.1) ∧ w.cell? ⟨g, k * 4 + 1, none⟩ = some (.int .i64 x.2.1) ∧ w.cell? ⟨g, k * 4 + 2, none⟩ = some (.int .i64 x.2.2.1) ∧ w.cell? ⟨g, k * 4 + 3, none⟩ = some (.int .i64 x.2.2.2)) (hok : ∀ x ∈ L, okMk x) (hn : L.length ≤ 1000) (hcp : L.length ≤ cp ∧ cp ≤ 9223372036854775807) :
    Calls Try.prog 72 #[.slice (some ⟨g, 0, none⟩) L.length cp] w fun e w' => ∃ v, e = .returned (.tuple #[v, .int .i64 ((dist L).length : Int)]) ∧ w'.ownsRow w.heap.size 3 1 v L.length (ints (numR L)) ∧ Below w.heap.size w w' := by
  obtain ⟨i0, hi, hz0, hz1, hz2⟩ := info_parts Try.infoHIntS
  have HROW := Lib.hid hrow
  have HOK := Lib.hid hok
  clear hrow hok
  go_enter Try.func72, Try.ntmps72
  have hmm := @run_makeMap Try.prog
  go_wp2_with (at_make; refine wpList_make_full _ rfl _ _ _ rfl w.heap.size 3 i0 (.int .i64 0) 1 Try.underlying42 hi hz0 hz1 .i64 .i64 _ _ L.length rfl rfl rfl rfl (by rw [hz2]; omega) (by unfold maxLen; omega) (Nat.le_refl _) ?_; intro w1 hown hgrow)
  have hb1 := Below.grown (Below.refl w.heap.size w) hgrow (Nat.le_refl _) (fun j hj => by cases hj)
  have HM0 := Lib.hid (MapV.made (kt := 93) w1)
  have HO := Lib.hid ((made_fill L ▸ hown).alloc (.map #[] 0))
  have HB := Lib.hid (hb1.alloc hb1.size (.map #[] 0))
  have hbm : w.heap.size < w1.heap.size := (hown.lt w.heap.size rfl).2
  clear hown hgrow hb1
  go_wp2_with fail
  clear hmm
  generalize w1.alloc (.map #[] 0) = w2 at *
  generalize w1.heap.size = bm at *
  clear w1
  go_loopw [16] (fun iv wr => ∃ (k : Nat), k ≤ L.length ∧ iv = .int .i64 (k : Int) ∧ Hid (wr.ownsRow w.heap.size 3 1 (.slice (some ⟨w.heap.size, 0, none⟩) L.length L.length) L.length (fill (ints (numR L)) (.int .i64 0) k)) ∧ Hid (MapV 93 wr bm ((dist (L.take k)).map mkV)) ∧ Hid (Below w.heap.size w wr)) (fun iv _ => L.length - (intOf iv).toNat)
  case atStart => exact ⟨0, by omega, rfl, HO, HM0, HB⟩
  case round =>
    clear HO HM0 HB
    obtain ⟨wo, rfl⟩ : ∃ z : World, z = wr := ⟨_, rfl⟩
    obtain ⟨k, hk, rfl, HO, HM, HB⟩ := hrel
    by_cases hkl : k < L.length
    case neg =>
      obtain rfl : k = L.length := by omega
      have HM2 : Hid (MapV 93 wo bm ((dist L).map mkV)) := Lib.hid (by have h := HM.out; rwa [List.take_length] at h)
      have HO2 : Hid (wo.ownsRow w.heap.size 3 1 (.slice (some ⟨w.heap.size, 0, none⟩) L.length L.length) L.length (ints (numR L))) := Lib.hid (by
        have h := HO.out
        have e : fill (ints (numR L)) (.int .i64 0) L.length = ints (numR L) := by have := fill_full (ints (numR L)) (.int .i64 0); simpa using this
        rwa [e] at h)
      go_wp2_with (refine wpList_mapv_len rfl _ rfl kt_mark rfl HM2.out ?_; rw [List.length_map])
      go_ret2
      exact ⟨_, rfl, HO2.out, HB.out⟩
    obtain ⟨x, hx⟩ : ∃ x, L[k]? = some x := ⟨L[k], List.getElem?_eq_getElem hkl⟩
    have HX := Lib.hid hx
    obtain ⟨c0, c1, c2, c3⟩ := HROW.out k x hx
    have HKY := Lib.hid (ky_mk (HOK.out x (List.mem_of_getElem? hx)))
    have HT : Hid (dist (L.take (k + 1)) = addD (dist (L.take k)) x) := Lib.hid (by rw [take_next L k x hx, dist_snoc])
    have HPR := Lib.hid (dist_take L (k + 1))
    replace c0 := below_cellk HB.out c0 hg; replace c1 := below_cellk HB.out c1 hg; replace c2 := below_cellk HB.out c2 hg; replace c3 := below_cellk HB.out c3 hg
    have hdl := dist_len (L.take k)
    rw [List.length_take] at hdl
    clear hx
    have HMA := Lib.hid (HM.out.later ((Below.refl wo.heap.size wo).alloc (Nat.le_refl _) (.cells (mkC x).toArray 93)))
    have HOA := Lib.hid (HO.out.alloc (.cells (mkC x).toArray 93))
    have HBA := Lib.hid (HB.out.alloc HB.out.size (.cells (mkC x).toArray 93))
    obtain ⟨x0, x1, x2, x3⟩ := x
    clear HO HB HM
    have kc : (wo.alloc (.cells #[.int .i64 x0, .int .i64 x1, .int .i64 x2, .int .i64 x3] 93)).cell? ⟨w.heap.size, k, none⟩ = some (.int .i64 0) := by
      have h := HOA.out.cellAt k (by omega)
      rw [fill_at2 _ _ _ (by simp; omega)] at h; exact h
    have kf : (wo.alloc (.cells #[.int .i64 x0, .int .i64 x1, .int .i64 x2, .int .i64 x3] 93)).frozen? ⟨w.heap.size, k, none⟩ = false := HOA.out.frozenAt k
    by_cases hin : (x0, x1, x2, x3) ∈ dist (L.take k)
    · obtain ⟨i, i1, i2, i3⟩ := at1_ex hin
      have HT2 : Hid (dist (L.take (k + 1)) = dist (L.take k)) := Lib.hid (by rw [HT.out]; unfold addD; rw [if_pos hin])
      have HCE : Hid (at1 (dist L) (x0, x1, x2, x3) = (i : Int)) := Lib.hid (by rw [at1_pre (dist_take L k) hin, i3])
      have HI : Hid (((dist (L.take k)).map mkV)[i]? = some (mkV (x0, x1, x2, x3))) := Lib.hid (by rw [List.getElem?_map, i1]; rfl)
      clear hin i1 i2 i3
      go_wp2_with (at_lookup; refine wpList_mapv_yes rfl _ _ rfl kt_mark rfl HMA.out rfl HKY.out HI.out ?_)
      have HNX := Lib.hid (HOA.out.stored k (.int .i64 (i : Int)))
      have HSE : Hid ((fill (ints (numR L)) (.int .i64 0) k).set k (.int .i64 (i : Int)) = fill (ints (numR L)) (.int .i64 0) (k + 1)) := Lib.hid (fill_set _ _ _ _ (by rw [num_at HX.out, HCE.out]))
      have HWR := Lib.hid (wrote_cell (wo.alloc (.cells (mkC (x0, x1, x2, x3)).toArray 93)) w.heap.size k (.int .i64 (i : Int)))
      go_roundw
      case rel => exact ⟨k + 1, by omega, by go_num, Lib.hid (by have h := HNX.out.1; rwa [HSE.out] at h), Lib.hid (by rw [HT2.out]; exact HMA.out.frame (HWR.out.block _ HMA.out.lt (by omega))), Lib.hid (HBA.out.setCell (p := ⟨w.heap.size, k, none⟩) (Nat.le_refl _) _)⟩
      case measure => (simp [intOf]; try omega)
    · have HT2 : Hid (dist (L.take (k + 1)) = dist (L.take k) ++ [(x0, x1, x2, x3)]) := Lib.hid (by rw [HT.out]; unfold addD; rw [if_neg hin])
      have HNI : Hid (mkV (x0, x1, x2, x3) ∉ (dist (L.take k)).map mkV) := Lib.hid (fun h => hin (mem_mkV.1 h))
      have HCE : Hid (at1 (dist L) (x0, x1, x2, x3) = ((dist (L.take k)).length : Int)) := Lib.hid (by
        rw [at1_pre HPR.out (by rw [HT2.out]; simp), HT2.out]
        exact at1_nd (by rw [← HT2.out]; exact dist_nodup _) (by simp))
      have HML : Hid (((dist (L.take k)).map mkV).length < 1000000) := Lib.hid (by rw [List.length_map]; omega)
      have HMM : Hid ((((dist (L.take k)).length : Nat) : Int) = ((((dist (L.take k)).map mkV).length : Nat) : Int)) := Lib.hid (by rw [List.length_map])
      clear hin kc kf
      go_wp2_with (first
        | (at_lookup; refine wpList_mapv_no rfl _ _ rfl kt_mark rfl HMA.out rfl HKY.out HNI.out ?_; intro c)
        | (refine wpList_mapv_len rfl _ rfl kt_mark rfl HMA.out ?_; rw [← HMM.out])
        | (at_mapUpdate; refine wpList_mapv_put rfl _ _ _ rfl kt_mark rfl HMA.out rfl HKY.out HNI.out HML.out rfl HMM.out ?_; intro w5 hm5 hg5
           have HM5 : Hid (MapV 93 w5 bm ((dist (L.take k)).map mkV ++ [mkV (x0, x1, x2, x3)])) := Lib.hid hm5
           clear hm5
           have HO5 := Lib.hid (own_frame HOA.out (w' := w5) (fun b hb => by simp [Value.ownBlock] at hb; subst hb; exact hg5.block _ (HOA.out.lt _ rfl).2 (by simp; omega)))
           have kc : w5.cell? ⟨w.heap.size, k, none⟩ = some (.int .i64 0) := by
             have h := HO5.out.cellAt k (by omega)
             rw [fill_at2 _ _ _ (by simp; omega)] at h; exact h
           have kf : w5.frozen? ⟨w.heap.size, k, none⟩ = false := HO5.out.frozenAt k))
      have HB5 := Lib.hid (Below.grown HBA.out hg5 HBA.out.size (fun j hj => by simp only [Option.some.injEq] at hj; omega))
      have HNX := Lib.hid (HO5.out.stored k (.int .i64 ((dist (L.take k)).length : Int)))
      have HSE : Hid ((fill (ints (numR L)) (.int .i64 0) k).set k (.int .i64 ((dist (L.take k)).length : Int)) = fill (ints (numR L)) (.int .i64 0) (k + 1)) := Lib.hid (fill_set _ _ _ _ (by rw [num_at HX.out, HCE.out]))
      have HWR := Lib.hid (wrote_cell w5 w.heap.size k (.int .i64 ((dist (L.take k)).length : Int)))
      go_roundw
      case rel => exact ⟨k + 1, by omega, by go_num, Lib.hid (by have h := HNX.out.1; rwa [HSE.out] at h), Lib.hid (by rw [HT2.out, List.map_append]; exact HM5.out.frame (HWR.out.block _ HM5.out.lt (by omega))), Lib.hid (HB5.out.setCell (p := ⟨w.heap.size, k, none⟩) (Nat.le_refl _) _)⟩
      case measure => (simp [intOf]; try omega)
end Go.Proofs.Ytedjahinlpehgaa
