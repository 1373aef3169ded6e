/- The contracts of the laws' helpers over IntS, by kinds. (Written by genhelp.py.) -/
import Derived.Test.YteknmjebokimjaaHBase
import Derived.Lib.SmallJoins
import Derived.Deep.RegionHeld3
namespace Go.Proofs.Yteknmjebokimjaa
set_option linter.unusedVariables false
open Go.ChangeShapes Go.WideShapes Go.ChangeAt Go.RowKit
set_option maxRecDepth 100000


def kIntS : Kind (List Int) := kSl 3 kInt
theorem kIntS_ok : kIntS.Ok := kSl_ok _ kInt_ok (by decide)


theorem reads_IntS : Reads Try.prog 30 1 kIntS.rd := readsK_sl kInt_ok Try.underlying30 (by kernel_rfl) (by decide) (readsK_int Try.underlying3 (by kernel_rfl))


theorem arg_IntS {H : Type} {enc : TypeId × Value → H} {W : World} {r : Reach} {b0 : Nat} {v : Value} {d : DataW H} {ps : List MemPlace} (hval : Value.okWide Try.prog W r b0 30 v) (h : DataW.Trod enc Try.prog W 0 (fun _ => true) true 30 v d ps) : ∃ x, IsK kIntS one W v x := argSlK Try.underlying30 reads_IntS kSl_form hval h


set_option maxHeartbeats 1000000 in
theorem sz_IntS {cs : List Value} {xs : List Int} {w : World} (l : Int) (h : kIntS.rd w.heap.size w cs xs) (h0 : 0 ≤ l) (h1 : l ≤ 1048576) :
    Calls Try.prog 17 #[one cs, .int .i64 l] w fun e w' => e = .returned (.int .i64 (szR l (kIntS.wt xs))) ∧ Below w.heap.size w w' := by
  obtain ⟨a, cap, vss, rfl, ⟨hc1, hc2⟩, hrow, hl⟩ := h
  unfold maxLen at hc2
  have hn : xs.length ≤ 9223372036854775807 := by omega
  show Calls Try.prog 17 #[.slice a xs.length cap, .int .i64 l] w _
  have HROW := Lib.hid hrow; have HL := Lib.hid hl
  clear hrow hl
  by_cases hlt : (xs.length : Int) ≤ l
  case neg =>
    have hf : szR l (kIntS.wt xs) = -1 := by rw [show kIntS.wt xs = xs.length + sumL kInt.wt xs from rfl, szR_step, if_neg hlt]
    rw [hf]; clear hf
    go_enter Try.func17, Try.ntmps17
    go_wp2_with fail
    go_ret
    exact ⟨rfl, Below.refl _ _⟩
  have hz : sumL kInt.wt xs = 0 := by
    clear HROW HL hlt hn hc1
    induction xs with
    | nil => rfl
    | cons x xs ih => rw [sumL, ih]; rfl
  have hf : szR l (kIntS.wt xs) = l - xs.length := by rw [show kIntS.wt xs = xs.length + sumL kInt.wt xs from rfl, hz]; exact szR_fit hlt
  rw [hf]; clear hf hz
  go_enter Try.func17, Try.ntmps17
  go_wp2_with fail
  go_ret
  exact ⟨rfl, Below.refl _ _⟩


set_option maxHeartbeats 1000000 in
theorem eq_IntS {cs cs' : List Value} {xs : List Int} {w : World} (h : kIntS.rd w.heap.size w cs xs) (h' : kIntS.rd w.heap.size w cs' xs) :
    Calls Try.prog 24 #[one cs, one cs'] w fun e w' => e = .returned (.bool true) ∧ Below w.heap.size w w' := by
  obtain ⟨a, cap, vss, rfl, ⟨hc1, hc2⟩, hrow, hl⟩ := h
  obtain ⟨a', cap', vss', rfl, _, hrow', hl'⟩ := h'
  unfold maxLen at hc2
  have hn : xs.length ≤ 9223372036854775807 := by omega
  show Calls Try.prog 24 #[.slice a xs.length cap, .slice a' xs.length cap'] w _
  have HROW := Lib.hid hrow; have HL := Lib.hid hl; have HROW' := Lib.hid hrow'; have HL' := Lib.hid hl'
  clear hrow hl hrow' hl'
  go_enter Try.func24, Try.ntmps24
  go_wp2_with fail
  go_loopw [5] (fun i wr => ∃ k : Nat, k ≤ xs.length ∧ i = .int .i64 k ∧ Hid (Below w.heap.size w wr)) (fun i _ => xs.length - (intOf i).toNat)
  case atStart => exact ⟨0, Nat.zero_le _, rfl, Below.refl _ _⟩
  case round =>
    obtain ⟨k, hk, rfl, HB⟩ := hrel
    by_cases hlk : k < xs.length
    case neg =>
      go_wp2_with fail
      go_ret
      exact ⟨rfl, HB.out⟩
    obtain ⟨x, hx⟩ : ∃ x, xs[k]? = some x := ⟨xs[k], List.getElem?_eq_getElem hlk⟩
    obtain ⟨v, b, off, hr, hv, rfl, hbl, hcell⟩ := elem_cells kInt_ok (n := 1) rfl (by decide) HROW.out HL.out hx
    obtain ⟨v', b', off', hr', hv', rfl, hbl', hcell'⟩ := elem_cells kInt_ok (n := 1) rfl (by decide) HROW'.out HL'.out hx
    clear hx hv hv'
    have z0 : (0 : Int) ≤ (k : Int) := Int.natCast_nonneg _
    have z1 : (k : Int) < (xs.length : Int) := by omega
    obtain ⟨rfl, _⟩ := hr
    have c0 : wr.cell? ⟨b, off + k, none⟩ = some _ := (HB.out.cell (p := ⟨b, off + k, none⟩) hbl).trans (by have := hcell 0 _ rfl; simpa [Nat.add_assoc] using this)
    clear hcell
    obtain ⟨rfl, _⟩ := hr'
    have d0 : wr.cell? ⟨b', off' + k, none⟩ = some _ := (HB.out.cell (p := ⟨b', off' + k, none⟩) hbl').trans (by have := hcell' 0 _ rfl; simpa [Nat.add_assoc] using this)
    clear hcell'
    go_wp2_with fail
    go_quiet (fail)
    go_wp2_with fail
    go_roundw
    case rel => exact ⟨k + 1, by omega, by go_num, below_drewN HB.out _⟩
    case measure => simp [intOf]; omega


theorem Try.infoHIntS : (Try.prog.info? 3).map (fun i => (i.zero, i.size, i.bytes)) = some (some (Value.int .i64 0), 1, 8) := by kernel_rfl


set_option maxHeartbeats 1000000 in
theorem to_IntS {cs : List Value} {xs : List Int} {w : World} (h : kIntS.rd w.heap.size w cs xs) (hw : kIntS.wt xs ≤ 1048576) :
    Calls Try.prog 18 #[one cs] w (Made kIntS one xs w) := by
  obtain ⟨a, cap, vss0, rfl, ⟨hc1, hc2⟩, hrow, hl⟩ := h
  have hwt : xs.length + sumL kInt.wt xs ≤ 1048576 := hw
  have hn : xs.length ≤ 1048576 := by omega
  show Calls Try.prog 18 #[.slice a xs.length cap] w _
  have HROW := Lib.hid hrow; have HL := Lib.hid hl; have HW := Lib.hid hwt
  clear hrow hl hw hwt
  obtain ⟨i0, hi, hz0, hz1, hz2⟩ := info_parts Try.infoHIntS
  go_enter Try.func18, Try.ntmps18
  go_wp2_with (refine wpList_make_full _ rfl _ _ _ rfl w.heap.size 3 i0 (Value.int .i64 0) 1 Try.underlying30 hi hz0 hz1 .i64 .i64 _ _ xs.length rfl rfl rfl rfl ?c1 ?c2 ?c3 ?_)
  case c1 => rw [hz2]; omega
  case c2 => unfold maxLen; omega
  case c3 => exact Nat.le_refl _
  intro w1 hown hgrow
  have hb : Below w.heap.size w w1 := (Below.refl _ _).grown hgrow (Nat.le_refl _) (by simp)
  have hlt1 : w.heap.size < w1.heap.size := (hown.lt w.heap.size rfl).2
  have hown' : w1.ownsRow 0 3 1 (.slice (some ⟨w.heap.size, 0, none⟩) xs.length xs.length) xs.length (([] : List (List Value)).flatten ++ zrow [Value.int .i64 0] (xs.length - 0)) := by
    rw [List.flatten_nil, List.nil_append, Nat.sub_zero, ← toList_made _ _ 1 (by decide) rfl]
    exact own_mono (by simpa using hown) (Nat.zero_le _)
  have HO := Lib.hid hown'; have HB := Lib.hid hb; have HLT := Lib.hid hlt1
  clear hown hgrow hown' hb hlt1 hi hz0 hz1 hz2
  go_wp2_with fail
  go_loopw [4] (fun i wr => ∃ (k : Nat) (vss : List (List Value)) (fps : List (List Nat)), k ≤ xs.length ∧ i = .int .i64 k ∧ Hid (wr.ownsRow 0 3 1 (.slice (some ⟨w.heap.size, 0, none⟩) xs.length xs.length) xs.length (vss.flatten ++ zrow [Value.int .i64 0] (xs.length - k))) ∧ Hid (OwL kInt wr fps vss (xs.take k)) ∧ Hid ((∀ b ∈ fps.flatten, w.heap.size < b) ∧ fps.flatten.Nodup ∧ w.heap.size < wr.heap.size) ∧ Hid (Below w.heap.size w wr)) (fun i _ => xs.length - (intOf i).toNat)
  case atStart => exact ⟨0, [], [], Nat.zero_le _, rfl, HO, trivial, Lib.hid ⟨by simp, by simp, HLT.out⟩, HB⟩
  case round =>
    obtain ⟨k, vss, fps, hk, rfl, HO, HOW, HFP, HB⟩ := hrel
    by_cases hlk : k < xs.length
    case neg =>
      go_wp2_with fail
      go_ret
      obtain rfl : k = xs.length := by omega
      have h1 := HOW.out
      have h2 := HO.out
      rw [List.take_length] at h1
      rw [Nat.sub_self, show zrow [Value.int .i64 0] 0 = [] from rfl, List.append_nil] at h2
      refine ⟨[_], [w.heap.size] ++ fps.flatten, rfl, ⟨_, vss, fps, rfl, h2, h1, rfl, ?_⟩, ?_, ?_, HB.out⟩
      · rw [List.nodup_append]
        exact ⟨by simp, HFP.out.2.1, fun x hx y hy he => by have := HFP.out.1 y hy; simp at hx; omega⟩
      · rw [List.nodup_append]
        exact ⟨by simp, HFP.out.2.1, fun x hx y hy he => by have := HFP.out.1 y hy; simp at hx; omega⟩
      · intro b hb
        rcases List.mem_append.1 hb with hb | hb
        · simp at hb; omega
        · have := HFP.out.1 b hb; omega
    obtain ⟨x, hx⟩ : ∃ x, xs[k]? = some x := ⟨xs[k], List.getElem?_eq_getElem hlk⟩
    have HX := Lib.hid hx
    obtain ⟨v, b, off, hr, hv, rfl, hbl, hcell⟩ := elem_cells kInt_ok (n := 1) rfl (by decide) HROW.out HL.out hx
    have hne : b ≠ w.heap.size := by omega
    have hwx : kInt.wt x ≤ 1048576 := by have h1 := sumL_at kInt.wt xs k x hx; have h2 := HW.out; omega
    have HWX := Lib.hid hwx
    clear hx hv hwx
    have HE := Lib.hid (kInt_ok.later hr HB.out)
    obtain ⟨rfl, _⟩ := hr
    have c0 : wr.cell? ⟨b, off + k, none⟩ = some _ := (HB.out.cell (p := ⟨b, off + k, none⟩) hbl).trans (by have := hcell 0 _ rfl; simpa [Nat.add_assoc] using this)
    clear hcell
    have HFL : Hid (vss.flatten.length = k * 1) := by
      have h := HOW.out.flat kInt_ok
      rw [List.length_take, Nat.min_eq_left (by omega)] at h
      exact Lib.hid h
    have HAT : Hid (∀ j, j < 1 → k * 1 + j < (vss.flatten ++ zrow [Value.int .i64 0] (xs.length - k)).length) := Lib.hid fun j hj => lay_at vss _ k xs.length 1 j HFL.out rfl hlk hj
    have ho2 := HO.out
    obtain ⟨z0, hz0⟩ : ∃ z, (vss.flatten ++ zrow [Value.int .i64 0] (xs.length - k))[k * 1 + 0]? = some z := ⟨_, List.getElem?_eq_getElem (HAT.out 0 (by omega))⟩
    have d0 : wr.cell? ⟨w.heap.size, k, none⟩ = some z0 := by rw [ho2.cellAt (k) (by omega)]; simpa using hz0
    clear hz0
    have e0 := ho2.frozenAt (k)
    have HOW2 := HOW
    have HB2 := HB
    have hst := (ho2.stored (k) (Value.int .i64 x)).1
    have HST : Hid ((wr.setCell ⟨w.heap.size, k, none⟩ (Value.int .i64 x)).ownsRow 0 3 1 (.slice (some ⟨w.heap.size, 0, none⟩) xs.length xs.length) xs.length ((vss ++ [[Value.int .i64 x]]).flatten ++ zrow [Value.int .i64 0] (xs.length - (k + 1)))) := by
      rw [← lay_next vss [Value.int .i64 x] [Value.int .i64 0] k xs.length 1 HFL.out rfl rfl hlk]
      exact Lib.hid (by simpa only [sets, Nat.mul_one] using hst)
    clear hst ho2
    have HSAME : Hid (∀ b, b ≠ w.heap.size → (wr.setCell ⟨w.heap.size, k, none⟩ (Value.int .i64 x)).heap[b]? = wr.heap[b]?) := Lib.hid fun b hb => by rw [Below.heap_setCell _ _ _ _ (by exact hb)]
    have HOWN : Hid (OwL kInt (wr.setCell ⟨w.heap.size, k, none⟩ (Value.int .i64 x)) (fps ++ [[]]) (vss ++ [[Value.int .i64 x]]) (xs.take (k + 1))) := by
      rw [take_next xs k x HX.out]
      refine Lib.hid (OwL.snoc (HOW2.out.frame kInt_ok fun b hb => HSAME.out b (by have := HFP.out.1 b hb; omega)) ⟨rfl, rfl, HE.out.2⟩)
    have HFP2 : Hid ((∀ b ∈ (fps ++ [[]]).flatten, w.heap.size < b) ∧ (fps ++ [[]]).flatten.Nodup ∧ w.heap.size < (wr.setCell ⟨w.heap.size, k, none⟩ (Value.int .i64 x)).heap.size) := by
      simp only [List.flatten_append, List.flatten_cons, List.flatten_nil, List.append_nil, World.size_setCell]
      exact HFP
    have HBF := Lib.hid (HB2.out.setCell (p := ⟨w.heap.size, k, none⟩) (Nat.le_refl _) (Value.int .i64 x))
    go_wp2_with fail
    go_roundw
    case rel => exact ⟨k + 1, _, _, by omega, by go_num, HST, HOWN, HFP2, HBF⟩
    case measure => simp [intOf]; omega


end Go.Proofs.Yteknmjebokimjaa
