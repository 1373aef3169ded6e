/- The reference's cut of a box: the walk. -/
import Derived.Test.YthlajmncpejhmaaVol4
namespace Go.Proofs.Ythlajmncpejhmaa
set_option linter.unusedVariables false
open Go.ChangeShapes Go.WideShapes Go.ChangeAt Go.RowKit
set_option maxRecDepth 100000

theorem below_2v (w : World) (o1 o2 : Obj) : Below w.heap.size w ((w.alloc o1).alloc o2) := ralloc (ralloc (Below.refl _ _) _) _
theorem sds_oc (xs : Bx) : ∀ u ∈ sds xs, u.oneCell' = true := by
  induction xs with
  | nil => intro u hu; simp [sds] at hu
  | cons x r ih =>
    intro u hu
    rw [sds_cons] at hu
    rcases List.mem_cons.1 hu with rfl | hu
    · rfl
    · rcases List.mem_cons.1 hu with rfl | hu
      · rfl
      · exact ih u hu
theorem own_litV (w : World) (T : TypeId) (x : Value) {base : Nat} (hb : base ≤ w.heap.size) : (w.alloc (.cells #[x] T)).ownsRow base T 1 (.slice (some ⟨w.heap.size, 0, none⟩) 1 1) 1 [x] :=
  ⟨rfl, .inr ⟨w.heap.size, 1, #[x], rfl, hb, heap_alloc_new w _, Nat.le_refl _, by unfold maxLen; omega, rfl, rfl⟩⟩
theorem addr_addV (b off j : Nat) : (⟨b, off, none⟩ : Addr).add j = ⟨b, off + j, none⟩ := by unfold Addr.add; split <;> simp_all
theorem news_rwV {w wx : World} {b off : Nat} {vs : List Value} (hl : b < w.heap.size) (hc : ∀ i v, vs[i]? = some v → w.cell? ⟨b, off + i, none⟩ = some v) (h : Below w.heap.size w wx) : ∀ j u, vs[j]? = some u → wx.cell? ((⟨b, off, none⟩ : Addr).add j) = some u := by
  intro j u hj
  rw [addr_addV]
  exact below_cellk h (hc j u hj) hl
set_option maxHeartbeats 4000000 in
theorem spec_cut_no (a b : Option Addr) (cap cap' : Nat) (xs ys : Bx) (w : World) (ha : Rw w a (sds xs)) (hb : Rw w b (sds ys)) (hx : Ok3 xs) (hy : Ok3 ys) (hm : meetB xs ys = false) :
    Calls Try.prog 59 #[.agg #[.slice a 3 cap], .agg #[.slice b 3 cap']] w (CutOf (cutS xs ys) w) := by
  obtain ⟨i0, hi, hz0, hz1, hz2⟩ := info_parts Try.infoSide
  have hR : cutS xs ys = [xs] := by unfold cutS; rw [if_neg (by rw [hm]; simp)]
  rw [hR]
  have hmr := meetB_MR hx.2 hy.2
  rw [hm] at hmr
  have HA := Lib.hid ha; have HB := Lib.hid hb
  have HCM := Lib.hid (fun (wx : World) (h1 : Rw wx a (sds xs)) (h2 : Rw wx b (sds ys)) => spec_meet a b cap cap' xs ys wx h1 h2 hx.2 hy.2)
  unfold MadeBox at HCM
  rw [hmr, hx.2, hy.2] at HCM
  have HX3 := Lib.hid hx.2
  obtain ⟨b1, off1, rfl, hbl1, hc1⟩ := ha.at (sds_ne (k := 0) (by rw [hx.2]; omega))
  have HNW := Lib.hid (fun (wx : World) (h : Below w.heap.size w wx) => news_rwV hbl1 hc1 h)
  have hsl : (sds xs).length = 3 * 2 := by rw [sds_length, hx.2]
  have HSL := Lib.hid hsl
  clear hbl1 hc1 hsl
  clear ha hb hx hy hm hR hmr
  go_enter Try.func59, Try.ntmps59
  go_wp2_with fail
  refine (HCM.out _ (HA.out.below (below_2v _ _ _)) (HB.out.below (below_2v _ _ _))).mono ?_
  rintro e w5 ⟨v5, rfl, ho5, hb5⟩
  have HB5 := Lib.hid (rstep (below_2v w _ _) hb5)
  have k0 : w5.cell? ⟨w.heap.size, 0, none⟩ = some (.slice (some ⟨b1, off1, none⟩) 3 cap) := below_later hb5 (by go_simp)
  have hs0 : w.heap.size < w5.heap.size := World.block_lt_of_cell? w5 _ k0
  obtain ⟨a5, cap5, rfl⟩ := form_of_own ho5
  clear ho5 hb5
  have HOM := Lib.hid (World.ownsRow_made (w5.alloc (.cells #[.slice a5 (MR xs ys).fst.length cap5] 28)) (e := 64) (size := 2) (base := w.heap.size) #[] 0 (by simp; omega) (by unfold maxLen; omega) rfl)
  simp only [World.size_alloc] at HOM
  generalize (MR xs ys).fst.length = ln at *
  go_wp2_with (at_builtin; refine wpList_append_lies _ rfl _ _ 26 rfl w.heap.size 64 i0 (.agg #[.int .i64 0, .int .i64 0]) 2 16 Try.underlying26 hi hz0 hz1 hz2 rfl (by decide) _ 0 [] rfl HOM.out ⟨b1, off1, none⟩ 3 cap (sds xs) rfl HSL.out (HNW.out _ (ralloc (ralloc HB5.out _) _)) (sds_oc xs) (by decide) (by unfold maxLen; omega) (by omega) (by simp; omega) _ rfl ?_)
  intro g cp w6 hown hgrow hat hlt
  have HO6 := Lib.hid hown
  have HB6 := Lib.hid (Below.grown (ralloc (ralloc HB5.out (.cells #[.slice a5 ln cap5] 28)) (.cells #[] 64)) hgrow (by simp; omega) (fun q hq => (HOM.out.lt q hq).1))
  clear hown hgrow hat
  go_wp2_with fail
  go_ret
  have hgb := HO6.out.lt g rfl
  refine ⟨_, [.slice (some ⟨g, 0, none⟩) 3 cp], rfl, own_litV w6 28 (.slice (some ⟨g, 0, none⟩) 3 cp) HB6.out.size, ⟨(own_bxat (N := fun k => some w6.heap.size ≠ some k ∧ w.heap.size ≤ k) (own_later HO6.out ((Below.refl w6.heap.size w6).alloc (Nat.le_refl _) (.cells #[.slice (some ⟨g, 0, none⟩) 3 cp] 28))) HX3.out ⟨by simp; omega, hgb.1⟩), trivial⟩, ralloc HB6.out _, fun h => by simp at h⟩
end Go.Proofs.Ythlajmncpejhmaa
