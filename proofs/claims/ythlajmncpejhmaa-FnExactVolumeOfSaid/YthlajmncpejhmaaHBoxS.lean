/- The contracts of the laws' helpers over BoxS, by kinds. (Written by genhelp.py.) -/
import Derived.Test.YthlajmncpejhmaaHBox
import Derived.Lib.SmallJoins
import Derived.Deep.RegionHeld3
namespace Go.Proofs.Ythlajmncpejhmaa
set_option linter.unusedVariables false
open Go.ChangeShapes Go.WideShapes Go.ChangeAt Go.RowKit
set_option maxRecDepth 100000


def kBoxS : Kind (List (List (Int × Int))) := kSl 28 kBox
theorem kBoxS_ok : kBoxS.Ok := kSl_ok _ kBox_ok (by decide)


theorem reads_BoxS : Reads Try.prog 35 1 kBoxS.rd := readsK_sl kBox_ok Try.underlying35 (by kernel_rfl) (by decide) reads_Box


theorem arg_BoxS {H : Type} {enc : TypeId × Value → H} {W : World} {r : Reach} {b0 : Nat} {v : Value} {d : DataW H} {ps : List MemPlace} (hval : Value.okWide Try.prog W r b0 35 v) (h : DataW.Trod enc Try.prog W 0 (fun _ => true) true 35 v d ps) : ∃ x, IsK kBoxS one W v x := argSlK Try.underlying35 reads_BoxS kSl_form hval h


set_option maxHeartbeats 1000000 in
theorem sz_BoxS {cs : List Value} {xs : List (List (Int × Int))} {w : World} (l : Int) (h : kBoxS.rd w.heap.size w cs xs) (h0 : 0 ≤ l) (h1 : l ≤ 1048576) :
    Calls Try.prog 18 #[one cs, .int .i64 l] w fun e w' => e = .returned (.int .i64 (szR l (kBoxS.wt xs))) ∧ Below w.heap.size w w' := by
  obtain ⟨a, cap, vss, rfl, ⟨hc1, hc2⟩, hrow, hl⟩ := h
  unfold maxLen at hc2
  have hn : xs.length ≤ 9223372036854775807 := by omega
  show Calls Try.prog 18 #[.slice a xs.length cap, .int .i64 l] w _
  have HROW := Lib.hid hrow; have HL := Lib.hid hl
  clear hrow hl
  by_cases hlt : (xs.length : Int) ≤ l
  case neg =>
    have hf : szR l (kBoxS.wt xs) = -1 := by rw [show kBoxS.wt xs = xs.length + sumL kBox.wt xs from rfl, szR_step, if_neg hlt]
    rw [hf]; clear hf
    go_enter Try.func18, Try.ntmps18
    go_wp2_with fail
    go_ret
    exact ⟨rfl, Below.refl _ _⟩
  have hf : szR l (kBoxS.wt xs) = szR (l - xs.length) (sumL kBox.wt xs) := by rw [show kBoxS.wt xs = xs.length + sumL kBox.wt xs from rfl, szR_step, if_pos hlt]
  rw [hf]; clear hf
  go_enter Try.func18, Try.ntmps18
  go_wp2_with fail
  go_loopw [1, 5] (fun lv i wr => ∃ (k : Nat) (lk : Int), k ≤ xs.length ∧ 0 ≤ lk ∧ lk ≤ l ∧ Hid (szR lk (sumL kBox.wt (xs.drop k)) = szR (l - xs.length) (sumL kBox.wt xs)) ∧ i = .int .i64 k ∧ lv = .int .i64 lk ∧ Hid (Below w.heap.size w wr)) (fun _ i _ => xs.length - (intOf i).toNat)
  case atStart => exact ⟨0, _, Nat.zero_le _, by omega, by omega, rfl, rfl, rfl, Below.refl _ _⟩
  case round =>
    obtain ⟨k, lk, hk, hl0, hl1, HS, rfl, rfl, HB⟩ := hrel
    by_cases hlk : k < xs.length
    case neg =>
      go_wp2_with fail
      go_ret
      obtain rfl : k = xs.length := by omega
      have hs := HS.out
      rw [List.drop_length, show sumL kBox.wt ([] : List (List (Int × Int))) = 0 from rfl, szR_fit (by simpa using hl0)] at hs
      exact ⟨ret_int (by rw [← hs]; simp), HB.out⟩
    obtain ⟨x, hx⟩ : ∃ x, xs[k]? = some x := ⟨xs[k], List.getElem?_eq_getElem hlk⟩
    have HD := Lib.hid (drop_cons xs k x hx)
    obtain ⟨v, b, off, hr, hv, rfl, hbl, hcell⟩ := elem_cells kBox_ok (n := 1) rfl (by decide) HROW.out HL.out hx
    clear hx hv
    have HE := Lib.hid (kBox_ok.later hr HB.out)
    obtain ⟨ea0, ecap0, rfl, _⟩ := Box_rd hr
    have c0 : wr.cell? ⟨b, off + k, none⟩ = some _ := (HB.out.cell (p := ⟨b, off + k, none⟩) hbl).trans (by have := hcell 0 _ rfl; simpa [Nat.add_assoc] using this)
    clear hcell
    have HC := Lib.hid (sz_Box lk HE.out hl0 (by omega))
    generalize hwt : kBox.wt x = n at *
    by_cases hw : (n : Int) ≤ lk
    · have HS2 : Hid (szR (lk - n) (sumL kBox.wt (xs.drop (k + 1))) = szR (l - xs.length) (sumL kBox.wt xs)) := by
        have h := HS.out
        rw [HD.out, sumL, hwt, szR_step, if_pos hw] at h
        exact Lib.hid h
      rw [szR_fit hw] at HC
      clear hwt
      go_wp2_with fail
      refine HC.out.mono ?_
      rintro e w2 ⟨rfl, hb2⟩
      have HB2 := Lib.hid (HB.out.trans (hb2.mono HB.out.size)); clear hb2
      go_wp2_with fail
      go_roundw
      case rel => exact ⟨k + 1, _, by omega, by omega, by omega, HS2, by go_num, rfl, HB2⟩
      case measure => simp [intOf]; omega
    · have HS2 : Hid (szR (l - xs.length) (sumL kBox.wt xs) = -1) := by
        have h := HS.out
        rw [HD.out, sumL, hwt, szR_step, if_neg hw] at h
        exact Lib.hid h.symm
      rw [szR_not hw] at HC
      clear hwt
      go_wp2_with fail
      refine HC.out.mono ?_
      rintro e w2 ⟨rfl, hb2⟩
      have HB2 := Lib.hid (HB.out.trans (hb2.mono HB.out.size)); clear hb2
      go_wp2_with fail
      go_ret
      exact ⟨ret_int HS2.out.symm, HB2.out⟩


set_option maxHeartbeats 1000000 in
theorem eq_BoxS {cs cs' : List Value} {xs : List (List (Int × Int))} {w : World} (h : kBoxS.rd w.heap.size w cs xs) (h' : kBoxS.rd w.heap.size w cs' xs) :
    Calls Try.prog 23 #[one cs, one cs'] w fun e w' => e = .returned (.bool true) ∧ Below w.heap.size w w' := by
  obtain ⟨a, cap, vss, rfl, ⟨hc1, hc2⟩, hrow, hl⟩ := h
  obtain ⟨a', cap', vss', rfl, _, hrow', hl'⟩ := h'
  unfold maxLen at hc2
  have hn : xs.length ≤ 9223372036854775807 := by omega
  show Calls Try.prog 23 #[.slice a xs.length cap, .slice a' xs.length cap'] w _
  have HROW := Lib.hid hrow; have HL := Lib.hid hl; have HROW' := Lib.hid hrow'; have HL' := Lib.hid hl'
  clear hrow hl hrow' hl'
  go_enter Try.func23, Try.ntmps23
  go_wp2_with fail
  go_loopw [5] (fun i wr => ∃ k : Nat, k ≤ xs.length ∧ i = .int .i64 k ∧ Hid (Below w.heap.size w wr)) (fun i _ => xs.length - (intOf i).toNat)
  case atStart => exact ⟨0, Nat.zero_le _, rfl, Below.refl _ _⟩
  case round =>
    obtain ⟨k, hk, rfl, HB⟩ := hrel
    by_cases hlk : k < xs.length
    case neg =>
      go_wp2_with fail
      go_ret
      exact ⟨rfl, HB.out⟩
    obtain ⟨x, hx⟩ : ∃ x, xs[k]? = some x := ⟨xs[k], List.getElem?_eq_getElem hlk⟩
    obtain ⟨v, b, off, hr, hv, rfl, hbl, hcell⟩ := elem_cells kBox_ok (n := 1) rfl (by decide) HROW.out HL.out hx
    obtain ⟨v', b', off', hr', hv', rfl, hbl', hcell'⟩ := elem_cells kBox_ok (n := 1) rfl (by decide) HROW'.out HL'.out hx
    clear hx hv hv'
    have z0 : (0 : Int) ≤ (k : Int) := Int.natCast_nonneg _
    have z1 : (k : Int) < (xs.length : Int) := by omega
    have HE := Lib.hid (kBox_ok.later hr HB.out); have HE' := Lib.hid (kBox_ok.later hr' HB.out)
    obtain ⟨ea0, ecap0, rfl, _⟩ := Box_rd hr
    have c0 : wr.cell? ⟨b, off + k, none⟩ = some _ := (HB.out.cell (p := ⟨b, off + k, none⟩) hbl).trans (by have := hcell 0 _ rfl; simpa [Nat.add_assoc] using this)
    clear hcell
    obtain ⟨ea0', ecap0', rfl, _⟩ := Box_rd hr'
    have d0 : wr.cell? ⟨b', off' + k, none⟩ = some _ := (HB.out.cell (p := ⟨b', off' + k, none⟩) hbl').trans (by have := hcell' 0 _ rfl; simpa [Nat.add_assoc] using this)
    clear hcell'
    have HC := Lib.hid (eq_Box (Kind.Ok.later (w' := wr.drew) kBox_ok HE.out (Below.refl _ _).drew) (Kind.Ok.later (w' := wr.drew) kBox_ok HE'.out (Below.refl _ _).drew))
    have HF := Lib.hid (And.intro c0 d0)
    go_wp2_with fail
    refine wp_region_G [8] (fun w' => w'.cell? ⟨b, off + k, none⟩ = some (Value.slice ea0 x.length ecap0) ∧ w'.cell? ⟨b', off' + k, none⟩ = some (Value.slice ea0' x.length ecap0')) (by kernel_rfl) ?_ (fun hHeld => ?_)
    · exact HF.out
    refine wpG_pure (i := 0) (oi := { dst := some 17, op := Go.Op.move (Go.Operand.tmp 0), type := 40, pos := "exact.go:2748", after := #[], guard := none }) (v := ?vg1) rfl (by kernel_rfl) (fun _ _ _ h => h) (Or.inr hHeld) (Or.inl ⟨by rfl, ?yg1⟩) ?_
    case yg1 => (intro wS _; go_simp <;> with_reducible rfl)
    try simp only [Act.put, List.setIfInBounds_toArray, List.set_cons_zero, List.set_cons_succ]
    refine wpG_pure (i := 1) (oi := { dst := some 18, op := Go.Op.move (Go.Operand.tmp 5), type := 3, pos := "exact.go:2748", after := #[], guard := none }) (v := ?vg2) rfl (by kernel_rfl) (fun _ _ _ h => h) (Or.inr hHeld) (Or.inl ⟨by rfl, ?yg2⟩) ?_
    case yg2 => (intro wS _; go_simp <;> with_reducible rfl)
    try simp only [Act.put, List.setIfInBounds_toArray, List.set_cons_zero, List.set_cons_succ]
    refine wpG_pure (i := 2) (oi := { dst := some 19, op := Go.Op.indexAddr 40 (Go.Operand.tmp 17) (Go.Operand.tmp 18), type := 0, pos := "exact.go:2748", after := #[{ on := 0, ground := Go.Ground.data }, { on := 1, ground := Go.Ground.data }], guard := none }) (v := ?vg3) rfl (by kernel_rfl) (fun _ _ _ h => h) (Or.inr hHeld) (Or.inl ⟨by rfl, ?yg3⟩) ?_
    case yg3 => (intro wS _; go_simp <;> with_reducible rfl)
    try simp only [Act.put, List.setIfInBounds_toArray, List.set_cons_zero, List.set_cons_succ]
    refine wpG_load (i := 3) (oi := { dst := some 20, op := Go.Op.load 28 (Go.Operand.tmp 19), type := 28, pos := "exact.go:2748", after := #[{ on := 2, ground := Go.Ground.data }], guard := none }) (v := ?vg4) [[8, 3]] rfl (by kernel_rfl) (fun _ _ _ h => h) hHeld (Or.inl ⟨by rfl, ?yg4⟩) ?_
    case yg4 => (intro wS hSw; (try dsimp only at hSw); go_simp <;> with_reducible rfl)
    try simp only [Act.put, List.setIfInBounds_toArray, List.set_cons_zero, List.set_cons_succ]
    refine wpG_pure (i := 4) (oi := { dst := some 21, op := Go.Op.move (Go.Operand.tmp 1), type := 40, pos := "exact.go:2748", after := #[], guard := none }) (v := ?vg5) rfl (by kernel_rfl) (fun _ _ _ h => h) (Or.inr hHeld) (Or.inl ⟨by rfl, ?yg5⟩) ?_
    case yg5 => (intro wS _; go_simp <;> with_reducible rfl)
    try simp only [Act.put, List.setIfInBounds_toArray, List.set_cons_zero, List.set_cons_succ]
    refine wpG_pure (i := 5) (oi := { dst := some 22, op := Go.Op.move (Go.Operand.tmp 5), type := 3, pos := "exact.go:2748", after := #[], guard := none }) (v := ?vg6) rfl (by kernel_rfl) (fun _ _ _ h => h) (Or.inr hHeld) (Or.inl ⟨by rfl, ?yg6⟩) ?_
    case yg6 => (intro wS _; go_simp <;> with_reducible rfl)
    try simp only [Act.put, List.setIfInBounds_toArray, List.set_cons_zero, List.set_cons_succ]
    refine wpG_pure (i := 6) (oi := { dst := some 23, op := Go.Op.indexAddr 40 (Go.Operand.tmp 21) (Go.Operand.tmp 22), type := 0, pos := "exact.go:2748", after := #[{ on := 4, ground := Go.Ground.data }, { on := 5, ground := Go.Ground.data }], guard := none }) (v := ?vg7) rfl (by kernel_rfl) (fun _ _ _ h => h) (Or.inr hHeld) (Or.inl ⟨by rfl, ?yg7⟩) ?_
    case yg7 => (intro wS _; go_simp <;> with_reducible rfl)
    try simp only [Act.put, List.setIfInBounds_toArray, List.set_cons_zero, List.set_cons_succ]
    refine wpG_load (i := 7) (oi := { dst := some 24, op := Go.Op.load 28 (Go.Operand.tmp 23), type := 28, pos := "exact.go:2748", after := #[{ on := 6, ground := Go.Ground.data }], guard := none }) (v := ?vg8) [[8, 7]] rfl (by kernel_rfl) (fun _ _ _ h => h) hHeld (Or.inl ⟨by rfl, ?yg8⟩) ?_
    case yg8 => (intro wS hSw; (try dsimp only at hSw); go_simp <;> with_reducible rfl)
    try simp only [Act.put, List.setIfInBounds_toArray, List.set_cons_zero, List.set_cons_succ]
    refine wpG_one (i := 8) (o := { dst := some 25, op := Go.Op.call { callee := Go.Callee.value (Go.Operand.func 13), args := #[Go.Operand.tmp 20, Go.Operand.tmp 24], argTypes := #[28, 28] }, type := 4, pos := "exact.go:2748", after := #[{ on := 3, ground := Go.Ground.data }, { on := 7, ground := Go.Ground.data }], guard := none }) rfl (by kernel_rfl) (fun K hK => ?_)
    go_simp
    refine HC.out.mono ?_
    rintro e w2 ⟨rfl, hb2⟩
    have HB2 := Lib.hid (HB.out.trans ((below_undrew hb2).mono HB.out.size)); clear hb2
    refine hK.out _ _ (Or.inl (by kernel_rfl)) (fun _ => ?_)
    clear hK K
    try simp only [Act.put, List.setIfInBounds_toArray, List.set_cons_zero, List.set_cons_succ]
    refine wpG_pure (i := 9) (oi := { dst := some 26, op := Go.Op.unOp Go.UnOp.not 4 (Go.Operand.tmp 25), type := 4, pos := "exact.go:2748", after := #[{ on := 8, ground := Go.Ground.data }], guard := none }) (v := ?vg10) rfl (by kernel_rfl) (fun _ _ _ h => h) (Or.inl (by kernel_rfl)) (Or.inl ⟨by rfl, ?yg10⟩) ?_
    case yg10 => (intro wS _; go_simp <;> with_reducible rfl)
    try simp only [Act.put, List.setIfInBounds_toArray, List.set_cons_zero, List.set_cons_succ]
    refine wpG_done (by kernel_rfl) ?_
    go_wp2_with fail
    go_roundw
    case rel => exact ⟨k + 1, by omega, by go_num, HB2⟩
    case measure => simp [intOf]; omega


theorem Try.infoHBoxS : (Try.prog.info? 28).map (fun i => (i.zero, i.size, i.bytes)) = some (some (Value.agg #[Value.slice none 0 0]), 1, 24) := by kernel_rfl


set_option maxHeartbeats 1000000 in
theorem to_BoxS {cs : List Value} {xs : List (List (Int × Int))} {w : World} (h : kBoxS.rd w.heap.size w cs xs) (hw : kBoxS.wt xs ≤ 1048576) :
    Calls Try.prog 20 #[one cs] w (Made kBoxS one xs w) := by
  obtain ⟨a, cap, vss0, rfl, ⟨hc1, hc2⟩, hrow, hl⟩ := h
  have hwt : xs.length + sumL kBox.wt xs ≤ 1048576 := hw
  have hn : xs.length ≤ 1048576 := by omega
  show Calls Try.prog 20 #[.slice a xs.length cap] w _
  have HROW := Lib.hid hrow; have HL := Lib.hid hl; have HW := Lib.hid hwt
  clear hrow hl hw hwt
  obtain ⟨i0, hi, hz0, hz1, hz2⟩ := info_parts Try.infoHBoxS
  go_enter Try.func20, Try.ntmps20
  go_wp2_with (refine wpList_make_full _ rfl _ _ _ rfl w.heap.size 28 i0 (Value.agg #[Value.slice none 0 0]) 1 Try.underlying40 hi hz0 hz1 .i64 .i64 _ _ xs.length rfl rfl rfl rfl ?c1 ?c2 ?c3 ?_)
  case c1 => rw [hz2]; omega
  case c2 => unfold maxLen; omega
  case c3 => exact Nat.le_refl _
  intro w1 hown hgrow
  have hb : Below w.heap.size w w1 := (Below.refl _ _).grown hgrow (Nat.le_refl _) (by simp)
  have hlt1 : w.heap.size < w1.heap.size := (hown.lt w.heap.size rfl).2
  have hown' : w1.ownsRow 0 28 1 (.slice (some ⟨w.heap.size, 0, none⟩) xs.length xs.length) xs.length (([] : List (List Value)).flatten ++ zrow [Value.slice none 0 0] (xs.length - 0)) := by
    rw [List.flatten_nil, List.nil_append, Nat.sub_zero, ← toList_made _ _ 1 (by decide) rfl]
    exact own_mono (by simpa using hown) (Nat.zero_le _)
  have HO := Lib.hid hown'; have HB := Lib.hid hb; have HLT := Lib.hid hlt1
  clear hown hgrow hown' hb hlt1 hi hz0 hz1 hz2
  go_wp2_with fail
  go_loopw [4] (fun i wr => ∃ (k : Nat) (vss : List (List Value)) (fps : List (List Nat)), k ≤ xs.length ∧ i = .int .i64 k ∧ Hid (wr.ownsRow 0 28 1 (.slice (some ⟨w.heap.size, 0, none⟩) xs.length xs.length) xs.length (vss.flatten ++ zrow [Value.slice none 0 0] (xs.length - k))) ∧ Hid (OwL kBox wr fps vss (xs.take k)) ∧ Hid ((∀ b ∈ fps.flatten, w.heap.size < b) ∧ fps.flatten.Nodup ∧ w.heap.size < wr.heap.size) ∧ Hid (Below w.heap.size w wr)) (fun i _ => xs.length - (intOf i).toNat)
  case atStart => exact ⟨0, [], [], Nat.zero_le _, rfl, HO, trivial, Lib.hid ⟨by simp, by simp, HLT.out⟩, HB⟩
  case round =>
    obtain ⟨k, vss, fps, hk, rfl, HO, HOW, HFP, HB⟩ := hrel
    by_cases hlk : k < xs.length
    case neg =>
      go_wp2_with fail
      go_ret
      obtain rfl : k = xs.length := by omega
      have h1 := HOW.out
      have h2 := HO.out
      rw [List.take_length] at h1
      rw [Nat.sub_self, show zrow [Value.slice none 0 0] 0 = [] from rfl, List.append_nil] at h2
      refine ⟨[_], [w.heap.size] ++ fps.flatten, rfl, ⟨_, vss, fps, rfl, h2, h1, rfl, ?_⟩, ?_, ?_, HB.out⟩
      · rw [List.nodup_append]
        exact ⟨by simp, HFP.out.2.1, fun x hx y hy he => by have := HFP.out.1 y hy; simp at hx; omega⟩
      · rw [List.nodup_append]
        exact ⟨by simp, HFP.out.2.1, fun x hx y hy he => by have := HFP.out.1 y hy; simp at hx; omega⟩
      · intro b hb
        rcases List.mem_append.1 hb with hb | hb
        · simp at hb; omega
        · have := HFP.out.1 b hb; omega
    obtain ⟨x, hx⟩ : ∃ x, xs[k]? = some x := ⟨xs[k], List.getElem?_eq_getElem hlk⟩
    have HX := Lib.hid hx
    obtain ⟨v, b, off, hr, hv, rfl, hbl, hcell⟩ := elem_cells kBox_ok (n := 1) rfl (by decide) HROW.out HL.out hx
    have hne : b ≠ w.heap.size := by omega
    have hwx : kBox.wt x ≤ 1048576 := by have h1 := sumL_at kBox.wt xs k x hx; have h2 := HW.out; omega
    have HWX := Lib.hid hwx
    clear hx hv hwx
    have HE := Lib.hid (kBox_ok.later hr HB.out)
    obtain ⟨ea0, ecap0, rfl, _⟩ := Box_rd hr
    have c0 : wr.cell? ⟨b, off + k, none⟩ = some _ := (HB.out.cell (p := ⟨b, off + k, none⟩) hbl).trans (by have := hcell 0 _ rfl; simpa [Nat.add_assoc] using this)
    clear hcell
    have HFL : Hid (vss.flatten.length = k * 1) := by
      have h := HOW.out.flat kBox_ok
      rw [List.length_take, Nat.min_eq_left (by omega)] at h
      exact Lib.hid h
    have HAT : Hid (∀ j, j < 1 → k * 1 + j < (vss.flatten ++ zrow [Value.slice none 0 0] (xs.length - k)).length) := Lib.hid fun j hj => lay_at vss _ k xs.length 1 j HFL.out rfl hlk hj
    have HC := Lib.hid (to_Box HE.out HWX.out)
    go_wp2_with fail
    refine HC.out.mono ?_
    rintro e w2 ⟨cs2, fp2, he, ho, hnd, hge, hb2⟩
    have hrd2 := kBox_ok.ord ho (B := w2.heap.size) (kBox_ok.olt ho)
    obtain ⟨ea02, ecap02, rfl, _⟩ := Box_rd hrd2
    change e = .returned (.agg #[Value.slice ea02 x.length ecap02]) at he
    subst he
    have HO2 := Lib.hid ho
    have ho2 := own_below (B := wr.heap.size) HO.out hb2 (fun k hk => by cases hk; exact HFP.out.2.2)
    have HOW2 := Lib.hid (HOW.out.frame kBox_ok (w' := w2) fun b hb => hb2.block b (HOW.out.lt kBox_ok b hb))
    have HB2 := Lib.hid (HB.out.trans (hb2.mono HB.out.size))
    have HF2 : Hid ((∀ b ∈ fp2, wr.heap.size ≤ b) ∧ fp2.Nodup ∧ (∀ b ∈ fp2, b < w2.heap.size) ∧ wr.heap.size ≤ w2.heap.size) := Lib.hid ⟨hge, hnd, kBox_ok.olt ho, hb2.size⟩
    clear ho hnd hge hb2
    obtain ⟨z0, hz0⟩ : ∃ z, (vss.flatten ++ zrow [Value.slice none 0 0] (xs.length - k))[k * 1 + 0]? = some z := ⟨_, List.getElem?_eq_getElem (HAT.out 0 (by omega))⟩
    have d0 : w2.cell? ⟨w.heap.size, k, none⟩ = some z0 := by rw [ho2.cellAt (k) (by omega)]; simpa using hz0
    clear hz0
    have e0 := ho2.frozenAt (k)
    have hst := (ho2.stored (k) (Value.slice ea02 x.length ecap02)).1
    have HST : Hid ((w2.setCell ⟨w.heap.size, k, none⟩ (Value.slice ea02 x.length ecap02)).ownsRow 0 28 1 (.slice (some ⟨w.heap.size, 0, none⟩) xs.length xs.length) xs.length ((vss ++ [[Value.slice ea02 x.length ecap02]]).flatten ++ zrow [Value.slice none 0 0] (xs.length - (k + 1)))) := by
      rw [← lay_next vss [Value.slice ea02 x.length ecap02] [Value.slice none 0 0] k xs.length 1 HFL.out rfl rfl hlk]
      exact Lib.hid (by simpa only [sets, Nat.mul_one] using hst)
    clear hst ho2
    have HSAME : Hid (∀ b, b ≠ w.heap.size → (w2.setCell ⟨w.heap.size, k, none⟩ (Value.slice ea02 x.length ecap02)).heap[b]? = w2.heap[b]?) := Lib.hid fun b hb => by rw [Below.heap_setCell _ _ _ _ (by exact hb)]
    have HOWN : Hid (OwL kBox (w2.setCell ⟨w.heap.size, k, none⟩ (Value.slice ea02 x.length ecap02)) (fps ++ [fp2]) (vss ++ [[Value.slice ea02 x.length ecap02]]) (xs.take (k + 1))) := by
      rw [take_next xs k x HX.out]
      refine Lib.hid (OwL.snoc (HOW2.out.frame kBox_ok fun b hb => HSAME.out b (by have := HFP.out.1 b hb; omega)) (kBox_ok.oframe HO2.out fun b hb => HSAME.out b (by have := HF2.out.1 b hb; have := HFP.out.2.2; omega)))
    have HFP2 : Hid ((∀ b ∈ (fps ++ [fp2]).flatten, w.heap.size < b) ∧ (fps ++ [fp2]).flatten.Nodup ∧ w.heap.size < (w2.setCell ⟨w.heap.size, k, none⟩ (Value.slice ea02 x.length ecap02)).heap.size) := by
      have hlow := HOW.out.lt kBox_ok
      refine Lib.hid ⟨?_, ?_, ?_⟩
      · intro b hb
        simp only [List.flatten_append, List.flatten_cons, List.flatten_nil, List.append_nil, List.mem_append] at hb
        rcases hb with hb | hb
        · exact HFP.out.1 b hb
        · have := HF2.out.1 b hb; have := HFP.out.2.2; omega
      · simp only [List.flatten_append, List.flatten_cons, List.flatten_nil, List.append_nil]
        rw [List.nodup_append]
        exact ⟨HFP.out.2.1, HF2.out.2.1, fun x hx y hy he => by have := hlow x hx; have := HF2.out.1 y hy; omega⟩
      · simp only [World.size_setCell]; have := HF2.out.2.2.2; have := HFP.out.2.2; omega
    have HBF := Lib.hid (HB2.out.setCell (p := ⟨w.heap.size, k, none⟩) (Nat.le_refl _) (Value.slice ea02 x.length ecap02))
    go_wp2_with fail
    go_roundw
    case rel => exact ⟨k + 1, _, _, by omega, by go_num, HST, HOWN, HFP2, HBF⟩
    case measure => simp [intOf]; omega


set_option maxHeartbeats 2000000 in
theorem mark_BoxS {cs : List Value} {xs : List (List (Int × Int))} {w : World} {fp : List Nat} (k0 : Nat) (h : kBoxS.ow fp w cs xs) (h0 : 1 ≤ k0) (h1 : k0 + kBoxS.cnt xs ≤ 16777216) :
    Calls Try.prog 27 #[one cs, .int .i64 (k0 : Int)] w fun e w' => e = .returned (.int .i64 ((k0 + kBoxS.cnt xs : Nat) : Int)) ∧ kBoxS.ow fp w' cs (kBoxS.mark k0 xs) ∧ Wrote (fun b => b ∈ fp) w w' := by
  obtain ⟨sv, vss, fps, rfl, hrow, hol, rfl, hnd⟩ := h
  obtain ⟨a, cap, rfl⟩ := form_of_own hrow
  have hcap := own_caps hrow
  unfold maxLen at hcap
  obtain ⟨hc1, hc2⟩ := hcap
  have hn : xs.length ≤ 9223372036854775807 := by omega
  have h1' : k0 + sumL kBox.cnt xs ≤ 16777216 := h1
  show Calls Try.prog 27 #[.slice a xs.length cap, .int .i64 (k0 : Int)] w _
  have HROW := Lib.hid hrow; have HOL := Lib.hid hol; have HND := Lib.hid hnd; have H1 := Lib.hid h1'
  clear hrow hol hnd h1 h1'
  go_enter Try.func27, Try.ntmps27
  go_wp2_with fail
  go_loopw [1, 5] (fun kv i wr => ∃ (k : Nat) (vss : List (List Value)), k ≤ xs.length ∧ i = .int .i64 k ∧ kv = .int .i64 ((k0 + sumL kBox.cnt (xs.take k) : Nat) : Int) ∧ Hid (wr.ownsRow 0 28 1 (.slice a xs.length cap) xs.length vss.flatten) ∧ Hid (OwL kBox wr fps vss (mkL kBox k0 (xs.take k) ++ xs.drop k)) ∧ Hid (Wrote (fun b => b ∈ (Value.slice a xs.length cap).ownBlock.toList ++ fps.flatten) w wr)) (fun _ i _ => xs.length - (intOf i).toNat)
  case atStart => exact ⟨0, vss, Nat.zero_le _, rfl, by simp [sumL], HROW, Lib.hid (by simpa [mkL] using HOL.out), Wrote.refl _ _⟩
  case round =>
    obtain ⟨k, vss, hk, rfl, rfl, HO, HOW, HWR⟩ := hrel
    by_cases hlk : k < xs.length
    case neg =>
      go_wp2_with fail
      go_ret
      obtain rfl : k = xs.length := by omega
      have h1 := HOW.out
      rw [List.take_length, List.drop_length, List.append_nil] at h1
      refine ⟨by rw [List.take_length]; rfl, ⟨_, vss, fps, rfl, ?_, h1, rfl, HND.out⟩, HWR.out⟩
      show World.ownsRow _ _ _ _ _ (mkL _ _ _).length _
      rw [mkL_length]; exact HO.out
    obtain ⟨x, hx⟩ : ∃ x, xs[k]? = some x := ⟨xs[k], List.getElem?_eq_getElem hlk⟩
    have hel : (mkL kBox k0 (xs.take k) ++ xs.drop k)[k]? = some x := by
      rw [List.getElem?_append_right (by simp; omega), mkL_length, List.length_take, Nat.min_eq_left (by omega), Nat.sub_self, List.getElem?_drop]; exact hx
    obtain ⟨f, v, hf, hv, how⟩ := HOW.out.at k x hel
    obtain ⟨g, rfl⟩ : ∃ g, a = some ⟨g, 0, none⟩ := by
      rcases HO.out.2 with ⟨_, h⟩ | ⟨g, _, _, h, _⟩
      · omega
      · cases h; exact ⟨g, rfl⟩
    have HR0 := Lib.hid (RowAt.begin HO.out (HOW.out.lens kBox_ok) hv)
    have HTK := Lib.hid (sumL_take kBox.cnt xs k x hx)
    have hle := sumL_le kBox.cnt xs (k + 1)
    rw [HTK.out] at hle
    have HSET := Lib.hid (mkL_set kBox xs k0 k x hx)
    generalize hkk : k0 + sumL kBox.cnt (xs.take k) = kk at *
    have hb0 : kk + kBox.cnt x ≤ 16777216 := by have := H1.out; omega
    have hb1 : 1 ≤ kk := by omega
    have HF := Lib.hid hf; have HKK := Lib.hid hkk
    clear hf hv hel hx hle hkk
    have hcx : kBox.cnt x = kSideS.cnt x := rfl
    rw [hcx] at hb0
    have HCX := Lib.hid hcx; clear hcx
    obtain ⟨a0, cap0, rfl, hof⟩ := Box_ow how
    skip
    have HFM : Hid ((∀ b ∈ f, b ∈ fps.flatten) ∧ g ∉ f ∧ f.Nodup) := by
      have h := HND.out
      have hm : ∀ b ∈ f, b ∈ fps.flatten := fun b hb => List.mem_flatten.2 ⟨f, List.mem_of_getElem? HF.out, hb⟩
      rw [List.nodup_append] at h
      exact Lib.hid ⟨hm, fun hg => h.2.2 g (by simp [Value.ownBlock]) g (hm g hg) rfl, nodup_of_flatten h.2.1 HF.out⟩
    have HOF := Lib.hid hof; clear hof
    have c0_0 : wr.cell? ⟨g, k, none⟩ = some (Value.slice a0 x.length cap0) := by have := HR0.out.cell 0 _ rfl; simpa using this
    have e0_0 : wr.frozen? ⟨g, k, none⟩ = false := HR0.out.frozen _
    have hmf := mark_SideS kk HOF.out (by omega) (by omega)
    have HMF := Lib.hid hmf; clear hmf
    go_wp2_with fail
    refine HMF.out.mono ?_
    rintro e w5 ⟨rfl, ho5, hw5⟩
    have HR5 := Lib.hid (RowAt.keep (w' := w5) HR0.out fun b hb => by cases hb; exact hw5.block g (by have := (HR0.out.1.lt g rfl).2; omega) HFM.out.2.1)
    have HW5 := Lib.hid (HWR.out.trans (hw5.mono fun b _ hb => List.mem_append.2 (.inr (HFM.out.1 b hb))))
    have HMB := Lib.hid hw5.block
    have HO5 := Lib.hid ho5; clear ho5 hw5
    have HWF := Lib.hid HW5.out
    have HNEW : Hid (kBox.ow f w5 [Value.slice a0 x.length cap0] (kBox.mark kk x)) := Lib.hid (Box_owm (x := kBox.mark kk x) (HO5.out))
    have HSM : Hid (∀ b ∈ fps.flatten, b ∉ (f : List Nat) → w5.heap[b]? = wr.heap[b]?) := by
      refine Lib.hid fun b hb hnf => ?_
      have hbg : b ≠ g := by
        rintro rfl
        have h := HND.out
        rw [List.nodup_append] at h
        exact h.2.2 b (by simp [Value.ownBlock]) b hb rfl
      have hlt := HOW.out.lt kBox_ok b hb
      refine (HMB.out b (by (try simp only [World.size_setCell]); omega) hnf).trans ?_
      rfl
    have HOWF := Lib.hid (HOW.out.turn kBox_ok (by have h := HND.out; rw [List.nodup_append] at h; exact h.2.1) k f [Value.slice a0 x.length cap0] (kBox.mark kk x) HF.out HSM.out HNEW.out)
    have HRF := Lib.hid HR5.out.1
    have HK2 : Hid (k0 + sumL kBox.cnt (xs.take (k + 1)) = kk + kSideS.cnt x) := Lib.hid (by rw [HTK.out, HCX.out]; have := HKK.out; omega)
    have HSET2 : Hid ((mkL kBox k0 (xs.take k) ++ xs.drop k).set k (kBox.mark kk x) = mkL kBox k0 (xs.take (k + 1)) ++ xs.drop (k + 1)) := Lib.hid HSET.out
    go_wp2_with fail
    go_roundw
    case rel => exact ⟨k + 1, vss.set k [Value.slice a0 x.length cap0], by omega, by go_num, by rw [HK2.out]; go_num, HRF, Lib.hid (by rw [← HSET2.out]; exact HOWF.out), HWF⟩
    case measure => simp [intOf]; omega


end Go.Proofs.Ythlajmncpejhmaa
