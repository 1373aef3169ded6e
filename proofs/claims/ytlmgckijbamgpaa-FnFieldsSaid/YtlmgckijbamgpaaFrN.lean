/- Fields read out of bytes: the program's contract. -/
import Derived.Test.YtlmgckijbamgpaaFrM
import Derived.OwnWalk
import Derived.Test.YtlmgckijbamgpaaKind
namespace Go.Proofs.Ytlmgckijbamgpaa
set_option linter.unusedVariables false
set_option linter.unusedSimpArgs false
open Go.ChangeShapes Go.WideShapes Go.ChangeAt Go.RowKit
set_option maxRecDepth 100000

def zFl : Fld := ⟨0, 0, 0, ⟨#[]⟩⟩
theorem made_flds (n : Nat) : (madeCells (Value.agg #[.int .i64 0, .int .i64 0, .int .i64 0, .string ByteArray.empty]).cells (n * 4)).toList = fdsV (List.replicate n zFl) := by
  have h := toList_made (fv zFl) n 4 (by decide) rfl
  unfold fdsV
  rw [List.map_replicate]
  exact h
def mixF (fs : List Fld) (k : Nat) : List Fld := fs.take k ++ List.replicate (fs.length - k) zFl
theorem mixF_len (fs : List Fld) {k : Nat} (h : k ≤ fs.length) : (mixF fs k).length = fs.length := by simp [mixF]; omega
theorem mixF_set {fs : List Fld} {k : Nat} {f : Fld} (h : fs[k]? = some f) : (mixF fs k).set k f = mixF fs (k + 1) := by
  obtain ⟨hk, rfl⟩ := List.getElem?_eq_some_iff.1 h
  unfold mixF
  rw [List.set_append_right _ _ (by simp; omega), List.take_succ_eq_append_getElem hk, List.length_take, Nat.min_eq_left (by omega), Nat.sub_self]
  have : fs.length - k = (fs.length - (k + 1)) + 1 := by omega
  rw [this, List.replicate_succ, List.set_cons_zero, List.append_assoc]
  rfl
set_option maxHeartbeats 2000000 in
theorem impl_ReadFields (s : ByteArray) (w : World) (hs : s.size ≤ 1048576) : Calls Try.prog 35 #[.string s] w (ReadO (R_Read s) w) := by
  obtain ⟨i0, hi, hz0, hz1, hz2⟩ := info_parts Try.infoFld
  have HRP := Lib.hid (impl_readPlaced s w hs)
  cases hR : R_Read s with
  | none =>
    rw [hR] at HRP
    unfold PlO at HRP
    go_enter Try.func35, Try.ntmps35
    go_wp2_with fail
    refine HRP.out.mono ?_
    rintro e w1 ⟨v, l, rfl, ho, hb, _, _⟩
    have HB := Lib.hid hb
    obtain ⟨va, vc, rfl⟩ := form_of_own ho
    clear hb ho
    go_wp2_with fail
    go_ret2
    exact ⟨_, rfl, World.ownsRow_nil _ _ _ _, HB.out⟩
  | some r =>
    rw [hR] at HRP
    unfold PlO at HRP
    go_enter Try.func35, Try.ntmps35
    go_wp2_with fail
    refine HRP.out.mono ?_
    rintro e w1 ⟨v, l, rfl, ho, hb, hl40, hrr⟩
    have HRL : Hid (r = l.map (·.1)) := Lib.hid (hrr r rfl)
    have HB := Lib.hid hb
    obtain ⟨va, vc, rfl⟩ := form_of_own ho
    have HRW := Lib.hid (own_rw ho)
    have hcap := own_caps ho
    clear hb ho hrr hR
    unfold maxLen at hcap
    have hw1 := HB.out.size
    go_wp2_with (at_make; refine wpList_make_full _ rfl _ _ _ rfl w1.heap.size 57 i0 (.agg #[.int .i64 0, .int .i64 0, .int .i64 0, .string ByteArray.empty]) 4 Try.underlying49 hi hz0 hz1 .i64 .i64 _ _ l.length rfl rfl rfl rfl (by rw [hz2]; omega) (by unfold maxLen; omega) (Nat.le_refl _) ?_; intro w2 hown hgrow
                 have HB2 := Lib.hid (Below.grown (Below.refl w1.heap.size w1) hgrow (Nat.le_refl _) (fun j hj => by cases hj))
                 have HO2 : Hid (w2.ownsRow w1.heap.size 57 4 (.slice (some ⟨w1.heap.size, 0, none⟩) l.length l.length) l.length (fdsV (mixF (l.map (·.1)) 0))) := Lib.hid (by
                   rw [made_flds] at hown
                   unfold mixF
                   simpa using hown)
                 clear hown hgrow)
    go_loopw [21] (fun iv wr => ∃ (k : Nat), k ≤ l.length ∧ iv = .int .i64 (k : Int) ∧ Hid (wr.ownsRow w1.heap.size 57 4 (.slice (some ⟨w1.heap.size, 0, none⟩) l.length l.length) l.length (fdsV (mixF (l.map (·.1)) k))) ∧ Hid (Below w1.heap.size w1 wr)) (fun iv _ => l.length - (intOf iv).toNat)
    case atStart => exact ⟨0, by omega, rfl, HO2, HB2⟩
    case round =>
      clear HO2 HB2
      obtain ⟨wx, rfl⟩ : ∃ z : World, z = wr := ⟨_, rfl⟩
      obtain ⟨k, hk, rfl, HO, HB2⟩ := hrel
      by_cases hkl : k < l.length
      case neg =>
        obtain rfl : k = l.length := by omega
        go_wp2_with fail
        go_ret2
        refine ⟨_, rfl, ?_, HB.out.trans (HB2.out.mono hw1)⟩
        have h := own_mono HO.out hw1
        have e : mixF (l.map (·.1)) l.length = r := by rw [HRL.out]; unfold mixF; simp; exact List.take_of_length_le (by simp)
        rw [e] at h
        have e2 : r.length = l.length := by rw [HRL.out]; simp
        show World.ownsRow _ _ _ _ _ r.length (fdsV r)
        rw [e2]; exact h
      obtain ⟨p, hp⟩ : ∃ p, l[k]? = some p := ⟨l[k], List.getElem?_eq_getElem hkl⟩
      obtain ⟨q0, q1, q2, q3, q4⟩ := pvs_at l k p hp
      obtain ⟨b, off, rfl, hbl, hc⟩ := HRW.out.at (fun e => by have := congrArg List.length e; rw [pvs_len] at this; simp at this; omega)
      have HNX : Hid ((mixF (l.map (·.1)) k).set k p.1 = mixF (l.map (·.1)) (k + 1)) := Lib.hid (mixF_set (by simp [hp]))
      obtain ⟨⟨xn, xk, xm, xd⟩, xa⟩ := p
      simp only at q0 q1 q2 q3 q4 HNX
      have d0 := (HB2.out.cell (p := ⟨b, off + k * 5, none⟩) hbl).trans (hc _ _ q0)
      have d1 : wx.cell? ⟨b, off + k * 5 + 1, none⟩ = _ := (HB2.out.cell (p := ⟨b, off + (k * 5 + 1), none⟩) hbl).trans (hc _ _ q1)
      have d2 : wx.cell? ⟨b, off + k * 5 + 2, none⟩ = _ := (HB2.out.cell (p := ⟨b, off + (k * 5 + 2), none⟩) hbl).trans (hc _ _ q2)
      have d3 : wx.cell? ⟨b, off + k * 5 + 3, none⟩ = _ := (HB2.out.cell (p := ⟨b, off + (k * 5 + 3), none⟩) hbl).trans (hc _ _ q3)
      have d4 : wx.cell? ⟨b, off + k * 5 + 4, none⟩ = _ := (HB2.out.cell (p := ⟨b, off + (k * 5 + 4), none⟩) hbl).trans (hc _ _ q4)
      have hz := HB2.out.size
      have hbx : b < wx.heap.size := by omega
      have HA := Lib.hid (heap_alloc_new wx (.cells #[.int .i64 xn, .int .i64 xk, .int .i64 xm, .string xd, .int .i64 xa] 119))
      have HOA := Lib.hid (HO.out.alloc (.cells #[.int .i64 xn, .int .i64 xk, .int .i64 xm, .string xd, .int .i64 xa] 119))
      have HBA := Lib.hid (HB2.out.alloc hz (.cells #[.int .i64 xn, .int .i64 xk, .int .i64 xm, .string xd, .int .i64 xa] 119))
      have hml : (mixF (l.map (·.1)) k).length = l.length := by rw [mixF_len _ (by simp; omega)]; simp
      clear q0 q1 q2 q3 q4 hc hp
      generalize hwy : wx.alloc (.cells #[.int .i64 xn, .int .i64 xk, .int .i64 xm, .string xd, .int .i64 xa] 119) = wy at *
      obtain ⟨⟨y0, y1, y2, y3, y4⟩, -⟩ := b5 HA.out
      obtain ⟨wA, wB, wC, wD, x0, x1, x2, x3, hA, hB, hC, hD, ⟨⟨i1, j1⟩, ⟨i2, j2⟩, ⟨i3, j3⟩, ⟨i4, j4⟩⟩, hown, hwr⟩ := st4row HOA.out hml hkl (Fld.mk xn xk xm xd)
      simp only at hA hB hC hD
      have HOD := Lib.hid hown
      have HBD := Lib.hid (HBA.out.trans (Wrote.below (B := w1.heap.size) hwr (by have := HBA.out.size; omega) (fun b hb => by omega)))
      have hgy : w1.heap.size < wy.heap.size := (HOA.out.lt _ rfl).2
      clear hown hwr hml
      go_wp2_with fail
      go_roundw
      case rel => exact ⟨k + 1, by omega, by go_num, by rw [← HNX.out]; exact HOD, HBD⟩
      case measure => (simp [intOf]; try omega)
end Go.Proofs.Ytlmgckijbamgpaa
