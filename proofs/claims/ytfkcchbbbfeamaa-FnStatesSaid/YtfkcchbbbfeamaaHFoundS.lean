/- The contracts of the laws' helpers over FoundS, by kinds. (Written by genhelp.py.) -/
import Derived.Test.YtfkcchbbbfeamaaHFound
import Derived.Lib.SmallJoins
import Derived.Deep.RegionHeld3
namespace Go.Proofs.Ytfkcchbbbfeamaa
set_option linter.unusedVariables false
open Go.ChangeShapes Go.WideShapes Go.ChangeAt Go.RowKit
set_option maxRecDepth 100000


def kFoundS : Kind (List (Int × Int)) := kSl 62 kFound
theorem kFoundS_ok : kFoundS.Ok := kSl_ok _ kFound_ok (by decide)


set_option maxHeartbeats 1000000 in
theorem eq_FoundS {cs cs' : List Value} {xs : List (Int × Int)} {w : World} (h : kFoundS.rd w.heap.size w cs xs) (h' : kFoundS.rd w.heap.size w cs' xs) :
    Calls Try.prog 40 #[one cs, one cs'] w fun e w' => e = .returned (.bool true) ∧ Below w.heap.size w w' := by
  obtain ⟨a, cap, vss, rfl, ⟨hc1, hc2⟩, hrow, hl⟩ := h
  obtain ⟨a', cap', vss', rfl, _, hrow', hl'⟩ := h'
  unfold maxLen at hc2
  have hn : xs.length ≤ 9223372036854775807 := by omega
  show Calls Try.prog 40 #[.slice a xs.length cap, .slice a' xs.length cap'] w _
  have HROW := Lib.hid hrow; have HL := Lib.hid hl; have HROW' := Lib.hid hrow'; have HL' := Lib.hid hl'
  clear hrow hl hrow' hl'
  go_enter Try.func40, Try.ntmps40
  go_wp2_with fail
  go_loopw [5] (fun i wr => ∃ k : Nat, k ≤ xs.length ∧ i = .int .i64 k ∧ Hid (Below w.heap.size w wr)) (fun i _ => xs.length - (intOf i).toNat)
  case atStart => exact ⟨0, Nat.zero_le _, rfl, Below.refl _ _⟩
  case round =>
    obtain ⟨k, hk, rfl, HB⟩ := hrel
    by_cases hlk : k < xs.length
    case neg =>
      go_wp2_with fail
      go_ret
      exact ⟨rfl, HB.out⟩
    obtain ⟨x, hx⟩ : ∃ x, xs[k]? = some x := ⟨xs[k], List.getElem?_eq_getElem hlk⟩
    obtain ⟨v, b, off, hr, hv, rfl, hbl, hcell⟩ := elem_cells kFound_ok (n := 2) rfl (by decide) HROW.out HL.out hx
    obtain ⟨v', b', off', hr', hv', rfl, hbl', hcell'⟩ := elem_cells kFound_ok (n := 2) rfl (by decide) HROW'.out HL'.out hx
    clear hx hv hv'
    have z0 : (0 : Int) ≤ (k : Int) := Int.natCast_nonneg _
    have z1 : (k : Int) < (xs.length : Int) := by omega
    have HE := Lib.hid (kFound_ok.later hr HB.out); have HE' := Lib.hid (kFound_ok.later hr' HB.out)
    obtain ⟨rfl, _, _⟩ := Found_rd hr
    have c0 : wr.cell? ⟨b, off + k * 2, none⟩ = some _ := (HB.out.cell (p := ⟨b, off + k * 2, none⟩) hbl).trans (by have := hcell 0 _ rfl; simpa [Nat.add_assoc] using this)
    have c1 : wr.cell? ⟨b, off + k * 2 + 1, none⟩ = some _ := (HB.out.cell (p := ⟨b, off + k * 2 + 1, none⟩) hbl).trans (by have := hcell 1 _ rfl; simpa [Nat.add_assoc] using this)
    clear hcell
    obtain ⟨rfl, _, _⟩ := Found_rd hr'
    have d0 : wr.cell? ⟨b', off' + k * 2, none⟩ = some _ := (HB.out.cell (p := ⟨b', off' + k * 2, none⟩) hbl').trans (by have := hcell' 0 _ rfl; simpa [Nat.add_assoc] using this)
    have d1 : wr.cell? ⟨b', off' + k * 2 + 1, none⟩ = some _ := (HB.out.cell (p := ⟨b', off' + k * 2 + 1, none⟩) hbl').trans (by have := hcell' 1 _ rfl; simpa [Nat.add_assoc] using this)
    clear hcell'
    have HC := Lib.hid (eq_Found (Kind.Ok.later (w' := wr.drew) kFound_ok HE.out (Below.refl _ _).drew) (Kind.Ok.later (w' := wr.drew) kFound_ok HE'.out (Below.refl _ _).drew))
    have HF := Lib.hid (And.intro c0 (And.intro c1 (And.intro d0 d1)))
    go_wp2_with fail
    refine wp_region_G [8] (fun w' => w'.cell? ⟨b, off + k * 2, none⟩ = some (Value.int .i64 x.1) ∧ w'.cell? ⟨b, off + k * 2 + 1, none⟩ = some (Value.int .i64 x.2) ∧ w'.cell? ⟨b', off' + k * 2, none⟩ = some (Value.int .i64 x.1) ∧ w'.cell? ⟨b', off' + k * 2 + 1, none⟩ = some (Value.int .i64 x.2)) (by kernel_rfl) ?_ (fun hHeld => ?_)
    · exact HF.out
    refine wpG_pure (i := 0) (oi := { dst := some 17, op := Go.Op.move (Go.Operand.tmp 0), type := 53, pos := "exact.go:574", after := #[], guard := none }) (v := ?vg1) rfl (by kernel_rfl) (fun _ _ _ h => h) (Or.inr hHeld) (Or.inl ⟨by rfl, ?yg1⟩) ?_
    case yg1 => (intro wS _; go_simp <;> with_reducible rfl)
    try simp only [Act.put, List.setIfInBounds_toArray, List.set_cons_zero, List.set_cons_succ]
    refine wpG_pure (i := 1) (oi := { dst := some 18, op := Go.Op.move (Go.Operand.tmp 5), type := 3, pos := "exact.go:574", after := #[], guard := none }) (v := ?vg2) rfl (by kernel_rfl) (fun _ _ _ h => h) (Or.inr hHeld) (Or.inl ⟨by rfl, ?yg2⟩) ?_
    case yg2 => (intro wS _; go_simp <;> with_reducible rfl)
    try simp only [Act.put, List.setIfInBounds_toArray, List.set_cons_zero, List.set_cons_succ]
    refine wpG_pure (i := 2) (oi := { dst := some 19, op := Go.Op.indexAddr 53 (Go.Operand.tmp 17) (Go.Operand.tmp 18), type := 0, pos := "exact.go:574", after := #[{ on := 0, ground := Go.Ground.data }, { on := 1, ground := Go.Ground.data }], guard := none }) (v := ?vg3) rfl (by kernel_rfl) (fun _ _ _ h => h) (Or.inr hHeld) (Or.inl ⟨by rfl, ?yg3⟩) ?_
    case yg3 => (intro wS _; go_simp <;> with_reducible rfl)
    try simp only [Act.put, List.setIfInBounds_toArray, List.set_cons_zero, List.set_cons_succ]
    refine wpG_load (i := 3) (oi := { dst := some 20, op := Go.Op.load 62 (Go.Operand.tmp 19), type := 62, pos := "exact.go:574", after := #[{ on := 2, ground := Go.Ground.data }], guard := none }) (v := ?vg4) [[8, 3]] rfl (by kernel_rfl) (fun _ _ _ h => h) hHeld (Or.inl ⟨by rfl, ?yg4⟩) ?_
    case yg4 => (intro wS hSw; (try dsimp only at hSw); go_simp <;> with_reducible rfl)
    try simp only [Act.put, List.setIfInBounds_toArray, List.set_cons_zero, List.set_cons_succ]
    refine wpG_pure (i := 4) (oi := { dst := some 21, op := Go.Op.move (Go.Operand.tmp 1), type := 53, pos := "exact.go:574", after := #[], guard := none }) (v := ?vg5) rfl (by kernel_rfl) (fun _ _ _ h => h) (Or.inr hHeld) (Or.inl ⟨by rfl, ?yg5⟩) ?_
    case yg5 => (intro wS _; go_simp <;> with_reducible rfl)
    try simp only [Act.put, List.setIfInBounds_toArray, List.set_cons_zero, List.set_cons_succ]
    refine wpG_pure (i := 5) (oi := { dst := some 22, op := Go.Op.move (Go.Operand.tmp 5), type := 3, pos := "exact.go:574", after := #[], guard := none }) (v := ?vg6) rfl (by kernel_rfl) (fun _ _ _ h => h) (Or.inr hHeld) (Or.inl ⟨by rfl, ?yg6⟩) ?_
    case yg6 => (intro wS _; go_simp <;> with_reducible rfl)
    try simp only [Act.put, List.setIfInBounds_toArray, List.set_cons_zero, List.set_cons_succ]
    refine wpG_pure (i := 6) (oi := { dst := some 23, op := Go.Op.indexAddr 53 (Go.Operand.tmp 21) (Go.Operand.tmp 22), type := 0, pos := "exact.go:574", after := #[{ on := 4, ground := Go.Ground.data }, { on := 5, ground := Go.Ground.data }], guard := none }) (v := ?vg7) rfl (by kernel_rfl) (fun _ _ _ h => h) (Or.inr hHeld) (Or.inl ⟨by rfl, ?yg7⟩) ?_
    case yg7 => (intro wS _; go_simp <;> with_reducible rfl)
    try simp only [Act.put, List.setIfInBounds_toArray, List.set_cons_zero, List.set_cons_succ]
    refine wpG_load (i := 7) (oi := { dst := some 24, op := Go.Op.load 62 (Go.Operand.tmp 23), type := 62, pos := "exact.go:574", after := #[{ on := 6, ground := Go.Ground.data }], guard := none }) (v := ?vg8) [[8, 7]] rfl (by kernel_rfl) (fun _ _ _ h => h) hHeld (Or.inl ⟨by rfl, ?yg8⟩) ?_
    case yg8 => (intro wS hSw; (try dsimp only at hSw); go_simp <;> with_reducible rfl)
    try simp only [Act.put, List.setIfInBounds_toArray, List.set_cons_zero, List.set_cons_succ]
    refine wpG_one (i := 8) (o := { dst := some 25, op := Go.Op.call { callee := Go.Callee.value (Go.Operand.func 70), args := #[Go.Operand.tmp 20, Go.Operand.tmp 24], argTypes := #[62, 62] }, type := 4, pos := "exact.go:574", after := #[{ on := 3, ground := Go.Ground.data }, { on := 7, ground := Go.Ground.data }], guard := none }) rfl (by kernel_rfl) (fun K hK => ?_)
    go_simp
    refine HC.out.mono ?_
    rintro e w2 ⟨rfl, hb2⟩
    have HB2 := Lib.hid (HB.out.trans ((below_undrew hb2).mono HB.out.size)); clear hb2
    refine hK.out _ _ (Or.inl (by kernel_rfl)) (fun _ => ?_)
    clear hK K
    try simp only [Act.put, List.setIfInBounds_toArray, List.set_cons_zero, List.set_cons_succ]
    refine wpG_pure (i := 9) (oi := { dst := some 26, op := Go.Op.unOp Go.UnOp.not 4 (Go.Operand.tmp 25), type := 4, pos := "exact.go:574", after := #[{ on := 8, ground := Go.Ground.data }], guard := none }) (v := ?vg10) rfl (by kernel_rfl) (fun _ _ _ h => h) (Or.inl (by kernel_rfl)) (Or.inl ⟨by rfl, ?yg10⟩) ?_
    case yg10 => (intro wS _; go_simp <;> with_reducible rfl)
    try simp only [Act.put, List.setIfInBounds_toArray, List.set_cons_zero, List.set_cons_succ]
    refine wpG_done (by kernel_rfl) ?_
    go_wp2_with fail
    go_roundw
    case rel => exact ⟨k + 1, by omega, by go_num, HB2⟩
    case measure => simp [intOf]; omega


theorem Try.infoHFoundS : (Try.prog.info? 62).map (fun i => (i.zero, i.size, i.bytes)) = some (some (Value.agg #[Value.int .i64 0, Value.int .i64 0]), 2, 16) := by kernel_rfl


set_option maxHeartbeats 2000000 in
theorem mark_FoundS {cs : List Value} {xs : List (Int × Int)} {w : World} {fp : List Nat} (k0 : Nat) (h : kFoundS.ow fp w cs xs) (h0 : 1 ≤ k0) (h1 : k0 + kFoundS.cnt xs ≤ 16777216) :
    Calls Try.prog 41 #[one cs, .int .i64 (k0 : Int)] w fun e w' => e = .returned (.int .i64 ((k0 + kFoundS.cnt xs : Nat) : Int)) ∧ kFoundS.ow fp w' cs (kFoundS.mark k0 xs) ∧ Wrote (fun b => b ∈ fp) w w' := by
  obtain ⟨sv, vss, fps, rfl, hrow, hol, rfl, hnd⟩ := h
  obtain ⟨a, cap, rfl⟩ := form_of_own hrow
  have hcap := own_caps hrow
  unfold maxLen at hcap
  obtain ⟨hc1, hc2⟩ := hcap
  have hn : xs.length ≤ 9223372036854775807 := by omega
  have h1' : k0 + sumL kFound.cnt xs ≤ 16777216 := h1
  show Calls Try.prog 41 #[.slice a xs.length cap, .int .i64 (k0 : Int)] w _
  have HROW := Lib.hid hrow; have HOL := Lib.hid hol; have HND := Lib.hid hnd; have H1 := Lib.hid h1'
  clear hrow hol hnd h1 h1'
  go_enter Try.func41, Try.ntmps41
  go_wp2_with fail
  go_loopw [1, 5] (fun kv i wr => ∃ (k : Nat) (vss : List (List Value)), k ≤ xs.length ∧ i = .int .i64 k ∧ kv = .int .i64 ((k0 + sumL kFound.cnt (xs.take k) : Nat) : Int) ∧ Hid (wr.ownsRow 0 62 2 (.slice a xs.length cap) xs.length vss.flatten) ∧ Hid (OwL kFound wr fps vss (mkL kFound k0 (xs.take k) ++ xs.drop k)) ∧ Hid (Wrote (fun b => b ∈ (Value.slice a xs.length cap).ownBlock.toList ++ fps.flatten) w wr)) (fun _ i _ => xs.length - (intOf i).toNat)
  case atStart => exact ⟨0, vss, Nat.zero_le _, rfl, by simp [sumL], HROW, Lib.hid (by simpa [mkL] using HOL.out), Wrote.refl _ _⟩
  case round =>
    obtain ⟨k, vss, hk, rfl, rfl, HO, HOW, HWR⟩ := hrel
    by_cases hlk : k < xs.length
    case neg =>
      go_wp2_with fail
      go_ret
      obtain rfl : k = xs.length := by omega
      have h1 := HOW.out
      rw [List.take_length, List.drop_length, List.append_nil] at h1
      refine ⟨by rw [List.take_length]; rfl, ⟨_, vss, fps, rfl, ?_, h1, rfl, HND.out⟩, HWR.out⟩
      show World.ownsRow _ _ _ _ _ (mkL _ _ _).length _
      rw [mkL_length]; exact HO.out
    obtain ⟨x, hx⟩ : ∃ x, xs[k]? = some x := ⟨xs[k], List.getElem?_eq_getElem hlk⟩
    have hel : (mkL kFound k0 (xs.take k) ++ xs.drop k)[k]? = some x := by
      rw [List.getElem?_append_right (by simp; omega), mkL_length, List.length_take, Nat.min_eq_left (by omega), Nat.sub_self, List.getElem?_drop]; exact hx
    obtain ⟨f, v, hf, hv, how⟩ := HOW.out.at k x hel
    obtain ⟨g, rfl⟩ : ∃ g, a = some ⟨g, 0, none⟩ := by
      rcases HO.out.2 with ⟨_, h⟩ | ⟨g, _, _, h, _⟩
      · omega
      · cases h; exact ⟨g, rfl⟩
    have HR0 := Lib.hid (RowAt.begin HO.out (HOW.out.lens kFound_ok) hv)
    have HTK := Lib.hid (sumL_take kFound.cnt xs k x hx)
    have hle := sumL_le kFound.cnt xs (k + 1)
    rw [HTK.out] at hle
    have HSET := Lib.hid (mkL_set kFound xs k0 k x hx)
    generalize hkk : k0 + sumL kFound.cnt (xs.take k) = kk at *
    have hb0 : kk + kFound.cnt x ≤ 16777216 := by have := H1.out; omega
    have hb1 : 1 ≤ kk := by omega
    have HF := Lib.hid hf; have HKK := Lib.hid hkk
    clear hf hv hel hx hle hkk
    have hcx : kFound.cnt x = 1 + 1 := rfl
    rw [hcx] at hb0
    have HCX := Lib.hid hcx; clear hcx
    obtain ⟨rfl, rfl, hp0, hp1⟩ := Found_ow how
    have HP0 := Lib.hid hp0; clear hp0; have HP1 := Lib.hid hp1; clear hp1
    have c0_0 : wr.cell? ⟨g, k * 2, none⟩ = some (Value.int .i64 x.1) := by have := HR0.out.cell 0 _ rfl; simpa using this
    have e0_0 : wr.frozen? ⟨g, k * 2, none⟩ = false := HR0.out.frozen _
    have c0_1 : wr.cell? ⟨g, k * 2 + 1, none⟩ = some (Value.int .i64 x.2) := by have := HR0.out.cell 1 _ rfl; simpa using this
    have e0_1 : wr.frozen? ⟨g, k * 2 + 1, none⟩ = false := HR0.out.frozen _
    have HRS0 : Hid (RowAt (wr.setCell ⟨g, k * 2, none⟩ (Value.int .i64 (kk : Int))) 62 2 (.slice (some ⟨g, 0, none⟩) xs.length cap) xs.length vss k [Value.int .i64 (kk : Int), Value.int .i64 x.2]) := by
      have h := HR0.out.store 0 (Value.int .i64 (kk : Int)) (by decide)
      exact Lib.hid (by simpa using h)
    have HWS0 := Lib.hid (HWR.out.setCell (p := ⟨g, k * 2, none⟩) (by simp [Value.ownBlock]) (Value.int .i64 (kk : Int)))
    have HRS1 : Hid (RowAt ((wr.setCell ⟨g, k * 2, none⟩ (Value.int .i64 (kk : Int))).setCell ⟨g, k * 2 + 1, none⟩ (Value.int .i64 ((kk : Int) + 1))) 62 2 (.slice (some ⟨g, 0, none⟩) xs.length cap) xs.length vss k [Value.int .i64 (kk : Int), Value.int .i64 ((kk : Int) + 1)]) := by
      have h := HRS0.out.store 1 (Value.int .i64 ((kk : Int) + 1)) (by decide)
      exact Lib.hid (by simpa using h)
    have HWS1 := Lib.hid (HWS0.out.setCell (p := ⟨g, k * 2 + 1, none⟩) (by simp [Value.ownBlock]) (Value.int .i64 ((kk : Int) + 1)))
    have HWF := Lib.hid HWS1.out
    have HNEW : Hid (kFound.ow [] ((wr.setCell ⟨g, k * 2, none⟩ (Value.int .i64 (kk : Int))).setCell ⟨g, k * 2 + 1, none⟩ (Value.int .i64 ((kk : Int) + 1))) [Value.int .i64 (kk : Int), Value.int .i64 ((kk : Int) + 1)] (kFound.mark kk x)) := Lib.hid (Found_owm (x := kFound.mark kk x) (wf_mark (k := kk) (by omega)) (wf_mark (k := (kk + 1)) (by omega)))
    have HSM : Hid (∀ b ∈ fps.flatten, b ∉ ([] : List Nat) → ((wr.setCell ⟨g, k * 2, none⟩ (Value.int .i64 (kk : Int))).setCell ⟨g, k * 2 + 1, none⟩ (Value.int .i64 ((kk : Int) + 1))).heap[b]? = wr.heap[b]?) := by
      refine Lib.hid fun b hb hnf => ?_
      have hbg : b ≠ g := by
        rintro rfl
        have h := HND.out
        rw [List.nodup_append] at h
        exact h.2.2 b (by simp [Value.ownBlock]) b hb rfl
      have hlt := HOW.out.lt kFound_ok b hb
      rw [Below.heap_setCell _ _ _ _ (by exact hbg), Below.heap_setCell _ _ _ _ (by exact hbg)]
    have HOWF := Lib.hid (HOW.out.turn kFound_ok (by have h := HND.out; rw [List.nodup_append] at h; exact h.2.1) k [] [Value.int .i64 (kk : Int), Value.int .i64 ((kk : Int) + 1)] (kFound.mark kk x) HF.out HSM.out HNEW.out)
    have HRF := Lib.hid HRS1.out.1
    have HK2 : Hid (k0 + sumL kFound.cnt (xs.take (k + 1)) = kk + 1 + 1) := Lib.hid (by rw [HTK.out, HCX.out]; have := HKK.out; omega)
    have HSET2 : Hid ((mkL kFound k0 (xs.take k) ++ xs.drop k).set k (kFound.mark kk x) = mkL kFound k0 (xs.take (k + 1)) ++ xs.drop (k + 1)) := Lib.hid HSET.out
    go_wp2_with fail
    go_roundw
    case rel => exact ⟨k + 1, vss.set k [Value.int .i64 (kk : Int), Value.int .i64 ((kk : Int) + 1)], by omega, by go_num, by rw [HK2.out]; go_num, HRF, Lib.hid (by rw [← HSET2.out]; exact HOWF.out), HWF⟩
    case measure => simp [intOf]; omega


set_option maxHeartbeats 2000000 in
theorem held_FoundS {cs : List Value} {xs : List (Int × Int)} {w : World} (k0 : Nat) (h : kFoundS.rd w.heap.size w cs (kFoundS.mark k0 xs)) (h0 : 1 ≤ k0) (h1 : k0 + kFoundS.cnt xs ≤ 16777216) :
    Calls Try.prog 42 #[one cs, .int .i64 (k0 : Int)] w fun e w' => e = .returned (.int .i64 ((k0 + kFoundS.cnt xs : Nat) : Int)) ∧ Below w.heap.size w w' := by
  obtain ⟨a, cap, vss, rfl, hcap, hrow, hl⟩ := h
  have hlen : (kFoundS.mark k0 xs).length = xs.length := mkL_length _ _ _
  rw [hlen] at hcap
  rw [hlen]
  unfold maxLen at hcap
  obtain ⟨hc1, hc2⟩ := hcap
  have hn : xs.length ≤ 9223372036854775807 := by omega
  have h1' : k0 + sumL kFound.cnt xs ≤ 16777216 := h1
  show Calls Try.prog 42 #[.slice a xs.length cap, .int .i64 (k0 : Int)] w _
  have HROW := Lib.hid hrow; have HL := Lib.hid hl; have H1 := Lib.hid h1'
  clear hrow hl h1 h1' hlen
  go_enter Try.func42, Try.ntmps42
  go_wp2_with fail
  go_loopw [1, 5] (fun kv i wr => ∃ (k : Nat), k ≤ xs.length ∧ i = .int .i64 k ∧ kv = .int .i64 ((k0 + sumL kFound.cnt (xs.take k) : Nat) : Int) ∧ Hid (Below w.heap.size w wr)) (fun _ i _ => xs.length - (intOf i).toNat)
  case atStart => exact ⟨0, Nat.zero_le _, rfl, by simp [sumL], Below.refl _ _⟩
  case round =>
    obtain ⟨k, hk, rfl, rfl, HB⟩ := hrel
    by_cases hlk : k < xs.length
    case neg =>
      go_wp2_with fail
      go_ret
      obtain rfl : k = xs.length := by omega
      exact ⟨by rw [List.take_length]; rfl, HB.out⟩
    obtain ⟨x, hx⟩ : ∃ x, xs[k]? = some x := ⟨xs[k], List.getElem?_eq_getElem hlk⟩
    obtain ⟨v, b, off, hr, hv, rfl, hbl, hcell⟩ := elem_cells kFound_ok (n := 2) rfl (by decide) HROW.out HL.out (mkL_at kFound xs k0 k x hx)
    have HTK := Lib.hid (sumL_take kFound.cnt xs k x hx)
    have hle := sumL_le kFound.cnt xs (k + 1)
    rw [HTK.out] at hle
    generalize hkk : k0 + sumL kFound.cnt (xs.take k) = kk at *
    have hb0 : kk + kFound.cnt x ≤ 16777216 := by have := H1.out; omega
    have hb1 : 1 ≤ kk := by omega
    have HKK := Lib.hid hkk
    clear hv hx hle hkk
    have HE := Lib.hid (kFound_ok.later hr HB.out)
    have hcx : kFound.cnt x = 1 + 1 := rfl
    rw [hcx] at hb0
    have HCX := Lib.hid hcx; clear hcx
    obtain ⟨rfl, _, _⟩ := Found_rd hr
    have c0 : wr.cell? ⟨b, off + k * 2, none⟩ = some (Value.int .i64 (kk : Int)) := (HB.out.cell (p := ⟨b, off + k * 2, none⟩) hbl).trans (by have h : w.cell? ⟨b, off + (k * 2 + 0), none⟩ = some (Value.int .i64 (kk : Int)) := hcell 0 _ rfl; simpa [Nat.add_assoc] using h)
    have c1 : wr.cell? ⟨b, off + k * 2 + 1, none⟩ = some (Value.int .i64 ((kk : Int) + 1)) := (HB.out.cell (p := ⟨b, off + k * 2 + 1, none⟩) hbl).trans (by have h : w.cell? ⟨b, off + (k * 2 + 1), none⟩ = some (Value.int .i64 ((kk : Int) + 1)) := hcell 1 _ rfl; simpa [Nat.add_assoc] using h)
    clear hcell hr
    have HK2 : Hid (k0 + sumL kFound.cnt (xs.take (k + 1)) = kk + 1 + 1) := Lib.hid (by rw [HTK.out, HCX.out]; have := HKK.out; omega)
    go_wp2_with fail
    go_roundw
    case rel => exact ⟨k + 1, by omega, by go_num, by rw [HK2.out]; go_num, Lib.hid HB.out⟩
    case measure => simp [intOf]; omega


end Go.Proofs.Ytfkcchbbbfeamaa
