/- The contracts of the laws' helpers over TypeS, by kinds. (Written by genhelp.py.) -/
import Derived.Test.YtmlnecopbncdbaaHType
import Derived.Lib.SmallJoins
import Derived.Deep.RegionHeld3
namespace Go.Proofs.Ytmlnecopbncdbaa
set_option linter.unusedVariables false
set_option linter.unusedSimpArgs false
open Go.ChangeShapes Go.WideShapes Go.ChangeAt Go.RowKit
set_option maxRecDepth 100000


def kTypeS : Kind (List (Int × ByteArray × Int × Bool × Int × Int)) := kSl 85 kType
theorem kTypeS_ok : kTypeS.Ok := kSl_ok _ kType_ok (by decide)


theorem reads_TypeS : Reads Try.prog 22 1 kTypeS.rd := readsK_sl kType_ok Try.underlying22 (by kernel_rfl) (by decide) reads_Type


theorem arg_TypeS {H : Type} {enc : TypeId × Value → H} {W : World} {r : Reach} {b0 : Nat} {v : Value} {d : DataW H} {ps : List MemPlace} (hval : Value.okWide Try.prog W r b0 22 v) (h : DataW.Trod enc Try.prog W 0 (fun _ => true) true 22 v d ps) : ∃ x, IsK kTypeS one W v x := argSlK Try.underlying22 reads_TypeS kSl_form hval h


set_option maxHeartbeats 1000000 in
theorem sz_TypeS {cs : List Value} {xs : List (Int × ByteArray × Int × Bool × Int × Int)} {w : World} (l : Int) (h : kTypeS.rd w.heap.size w cs xs) (h0 : 0 ≤ l) (h1 : l ≤ 1048576) :
    Calls Try.prog 33 #[one cs, .int .i64 l] w fun e w' => e = .returned (.int .i64 (szR l (kTypeS.wt xs))) ∧ Below w.heap.size w w' := by
  obtain ⟨a, cap, vss, rfl, ⟨hc1, hc2⟩, hrow, hl⟩ := h
  unfold maxLen at hc2
  have hn : xs.length ≤ 9223372036854775807 := by omega
  show Calls Try.prog 33 #[.slice a xs.length cap, .int .i64 l] w _
  have HROW := Lib.hid hrow; have HL := Lib.hid hl
  clear hrow hl
  by_cases hlt : (xs.length : Int) ≤ l
  case neg =>
    have hf : szR l (kTypeS.wt xs) = -1 := by rw [show kTypeS.wt xs = xs.length + sumL kType.wt xs from rfl, szR_step, if_neg hlt]
    rw [hf]; clear hf
    go_enter Try.func33, Try.ntmps33
    go_wp2_with fail
    go_ret
    exact ⟨rfl, Below.refl _ _⟩
  have hf : szR l (kTypeS.wt xs) = szR (l - xs.length) (sumL kType.wt xs) := by rw [show kTypeS.wt xs = xs.length + sumL kType.wt xs from rfl, szR_step, if_pos hlt]
  rw [hf]; clear hf
  go_enter Try.func33, Try.ntmps33
  go_wp2_with fail
  go_loopw [1, 5] (fun lv i wr => ∃ (k : Nat) (lk : Int), k ≤ xs.length ∧ 0 ≤ lk ∧ lk ≤ l ∧ Hid (szR lk (sumL kType.wt (xs.drop k)) = szR (l - xs.length) (sumL kType.wt xs)) ∧ i = .int .i64 k ∧ lv = .int .i64 lk ∧ Hid (Below w.heap.size w wr)) (fun _ i _ => xs.length - (intOf i).toNat)
  case atStart => exact ⟨0, _, Nat.zero_le _, by omega, by omega, rfl, rfl, rfl, Below.refl _ _⟩
  case round =>
    obtain ⟨k, lk, hk, hl0, hl1, HS, rfl, rfl, HB⟩ := hrel
    by_cases hlk : k < xs.length
    case neg =>
      go_wp2_with fail
      go_ret
      obtain rfl : k = xs.length := by omega
      have hs := HS.out
      rw [List.drop_length, show sumL kType.wt ([] : List (Int × ByteArray × Int × Bool × Int × Int)) = 0 from rfl, szR_fit (by simpa using hl0)] at hs
      exact ⟨ret_int (by rw [← hs]; simp), HB.out⟩
    obtain ⟨x, hx⟩ : ∃ x, xs[k]? = some x := ⟨xs[k], List.getElem?_eq_getElem hlk⟩
    have HD := Lib.hid (drop_cons xs k x hx)
    obtain ⟨v, b, off, hr, hv, rfl, hbl, hcell⟩ := elem_cells kType_ok (n := 6) rfl (by decide) HROW.out HL.out hx
    clear hx hv
    have HE := Lib.hid (kType_ok.later hr HB.out)
    obtain ⟨rfl, _, _, _, _, _⟩ := Type_rd hr
    have c0 : wr.cell? ⟨b, off + k * 6, none⟩ = some _ := (HB.out.cell (p := ⟨b, off + k * 6, none⟩) hbl).trans (by have := hcell 0 _ rfl; simpa [Nat.add_assoc] using this)
    have c1 : wr.cell? ⟨b, off + k * 6 + 1, none⟩ = some _ := (HB.out.cell (p := ⟨b, off + k * 6 + 1, none⟩) hbl).trans (by have := hcell 1 _ rfl; simpa [Nat.add_assoc] using this)
    have c2 : wr.cell? ⟨b, off + k * 6 + 2, none⟩ = some _ := (HB.out.cell (p := ⟨b, off + k * 6 + 2, none⟩) hbl).trans (by have := hcell 2 _ rfl; simpa [Nat.add_assoc] using this)
    have c3 : wr.cell? ⟨b, off + k * 6 + 3, none⟩ = some _ := (HB.out.cell (p := ⟨b, off + k * 6 + 3, none⟩) hbl).trans (by have := hcell 3 _ rfl; simpa [Nat.add_assoc] using this)
    have c4 : wr.cell? ⟨b, off + k * 6 + 4, none⟩ = some _ := (HB.out.cell (p := ⟨b, off + k * 6 + 4, none⟩) hbl).trans (by have := hcell 4 _ rfl; simpa [Nat.add_assoc] using this)
    have c5 : wr.cell? ⟨b, off + k * 6 + 5, none⟩ = some _ := (HB.out.cell (p := ⟨b, off + k * 6 + 5, none⟩) hbl).trans (by have := hcell 5 _ rfl; simpa [Nat.add_assoc] using this)
    clear hcell
    have HC := Lib.hid (sz_Type lk HE.out hl0 (by omega))
    generalize hwt : kType.wt x = n at *
    by_cases hw : (n : Int) ≤ lk
    · have HS2 : Hid (szR (lk - n) (sumL kType.wt (xs.drop (k + 1))) = szR (l - xs.length) (sumL kType.wt xs)) := by
        have h := HS.out
        rw [HD.out, sumL, hwt, szR_step, if_pos hw] at h
        exact Lib.hid h
      rw [szR_fit hw] at HC
      clear hwt
      go_wp2_with fail
      refine HC.out.mono ?_
      rintro e w2 ⟨rfl, hb2⟩
      have HB2 := Lib.hid (HB.out.trans (hb2.mono HB.out.size)); clear hb2
      go_wp2_with fail
      go_roundw
      case rel => exact ⟨k + 1, _, by omega, by omega, by omega, HS2, by go_num, rfl, HB2⟩
      case measure => simp [intOf]; omega
    · have HS2 : Hid (szR (l - xs.length) (sumL kType.wt xs) = -1) := by
        have h := HS.out
        rw [HD.out, sumL, hwt, szR_step, if_neg hw] at h
        exact Lib.hid h.symm
      rw [szR_not hw] at HC
      clear hwt
      go_wp2_with fail
      refine HC.out.mono ?_
      rintro e w2 ⟨rfl, hb2⟩
      have HB2 := Lib.hid (HB.out.trans (hb2.mono HB.out.size)); clear hb2
      go_wp2_with fail
      go_ret
      exact ⟨ret_int HS2.out.symm, HB2.out⟩


set_option maxHeartbeats 1000000 in
theorem eq_TypeS {cs cs' : List Value} {xs : List (Int × ByteArray × Int × Bool × Int × Int)} {w : World} (h : kTypeS.rd w.heap.size w cs xs) (h' : kTypeS.rd w.heap.size w cs' xs) :
    Calls Try.prog 41 #[one cs, one cs'] w fun e w' => e = .returned (.bool true) ∧ Below w.heap.size w w' := by
  obtain ⟨a, cap, vss, rfl, ⟨hc1, hc2⟩, hrow, hl⟩ := h
  obtain ⟨a', cap', vss', rfl, _, hrow', hl'⟩ := h'
  unfold maxLen at hc2
  have hn : xs.length ≤ 9223372036854775807 := by omega
  show Calls Try.prog 41 #[.slice a xs.length cap, .slice a' xs.length cap'] w _
  have HROW := Lib.hid hrow; have HL := Lib.hid hl; have HROW' := Lib.hid hrow'; have HL' := Lib.hid hl'
  clear hrow hl hrow' hl'
  go_enter Try.func41, Try.ntmps41
  go_wp2_with fail
  go_loopw [5] (fun i wr => ∃ k : Nat, k ≤ xs.length ∧ i = .int .i64 k ∧ Hid (Below w.heap.size w wr)) (fun i _ => xs.length - (intOf i).toNat)
  case atStart => exact ⟨0, Nat.zero_le _, rfl, Below.refl _ _⟩
  case round =>
    obtain ⟨k, hk, rfl, HB⟩ := hrel
    by_cases hlk : k < xs.length
    case neg =>
      go_wp2_with fail
      go_ret
      exact ⟨rfl, HB.out⟩
    obtain ⟨x, hx⟩ : ∃ x, xs[k]? = some x := ⟨xs[k], List.getElem?_eq_getElem hlk⟩
    obtain ⟨v, b, off, hr, hv, rfl, hbl, hcell⟩ := elem_cells kType_ok (n := 6) rfl (by decide) HROW.out HL.out hx
    obtain ⟨v', b', off', hr', hv', rfl, hbl', hcell'⟩ := elem_cells kType_ok (n := 6) rfl (by decide) HROW'.out HL'.out hx
    clear hx hv hv'
    have z0 : (0 : Int) ≤ (k : Int) := Int.natCast_nonneg _
    have z1 : (k : Int) < (xs.length : Int) := by omega
    have HE := Lib.hid (kType_ok.later hr HB.out); have HE' := Lib.hid (kType_ok.later hr' HB.out)
    obtain ⟨rfl, _, _, _, _, _⟩ := Type_rd hr
    have c0 : wr.cell? ⟨b, off + k * 6, none⟩ = some _ := (HB.out.cell (p := ⟨b, off + k * 6, none⟩) hbl).trans (by have := hcell 0 _ rfl; simpa [Nat.add_assoc] using this)
    have c1 : wr.cell? ⟨b, off + k * 6 + 1, none⟩ = some _ := (HB.out.cell (p := ⟨b, off + k * 6 + 1, none⟩) hbl).trans (by have := hcell 1 _ rfl; simpa [Nat.add_assoc] using this)
    have c2 : wr.cell? ⟨b, off + k * 6 + 2, none⟩ = some _ := (HB.out.cell (p := ⟨b, off + k * 6 + 2, none⟩) hbl).trans (by have := hcell 2 _ rfl; simpa [Nat.add_assoc] using this)
    have c3 : wr.cell? ⟨b, off + k * 6 + 3, none⟩ = some _ := (HB.out.cell (p := ⟨b, off + k * 6 + 3, none⟩) hbl).trans (by have := hcell 3 _ rfl; simpa [Nat.add_assoc] using this)
    have c4 : wr.cell? ⟨b, off + k * 6 + 4, none⟩ = some _ := (HB.out.cell (p := ⟨b, off + k * 6 + 4, none⟩) hbl).trans (by have := hcell 4 _ rfl; simpa [Nat.add_assoc] using this)
    have c5 : wr.cell? ⟨b, off + k * 6 + 5, none⟩ = some _ := (HB.out.cell (p := ⟨b, off + k * 6 + 5, none⟩) hbl).trans (by have := hcell 5 _ rfl; simpa [Nat.add_assoc] using this)
    clear hcell
    obtain ⟨rfl, _, _, _, _, _⟩ := Type_rd hr'
    have d0 : wr.cell? ⟨b', off' + k * 6, none⟩ = some _ := (HB.out.cell (p := ⟨b', off' + k * 6, none⟩) hbl').trans (by have := hcell' 0 _ rfl; simpa [Nat.add_assoc] using this)
    have d1 : wr.cell? ⟨b', off' + k * 6 + 1, none⟩ = some _ := (HB.out.cell (p := ⟨b', off' + k * 6 + 1, none⟩) hbl').trans (by have := hcell' 1 _ rfl; simpa [Nat.add_assoc] using this)
    have d2 : wr.cell? ⟨b', off' + k * 6 + 2, none⟩ = some _ := (HB.out.cell (p := ⟨b', off' + k * 6 + 2, none⟩) hbl').trans (by have := hcell' 2 _ rfl; simpa [Nat.add_assoc] using this)
    have d3 : wr.cell? ⟨b', off' + k * 6 + 3, none⟩ = some _ := (HB.out.cell (p := ⟨b', off' + k * 6 + 3, none⟩) hbl').trans (by have := hcell' 3 _ rfl; simpa [Nat.add_assoc] using this)
    have d4 : wr.cell? ⟨b', off' + k * 6 + 4, none⟩ = some _ := (HB.out.cell (p := ⟨b', off' + k * 6 + 4, none⟩) hbl').trans (by have := hcell' 4 _ rfl; simpa [Nat.add_assoc] using this)
    have d5 : wr.cell? ⟨b', off' + k * 6 + 5, none⟩ = some _ := (HB.out.cell (p := ⟨b', off' + k * 6 + 5, none⟩) hbl').trans (by have := hcell' 5 _ rfl; simpa [Nat.add_assoc] using this)
    clear hcell'
    have HC := Lib.hid (eq_Type (Kind.Ok.later (w' := wr.drew) kType_ok HE.out (Below.refl _ _).drew) (Kind.Ok.later (w' := wr.drew) kType_ok HE'.out (Below.refl _ _).drew))
    have HF := Lib.hid (And.intro c0 (And.intro c1 (And.intro c2 (And.intro c3 (And.intro c4 (And.intro c5 (And.intro d0 (And.intro d1 (And.intro d2 (And.intro d3 (And.intro d4 d5)))))))))))
    go_wp2_with fail
    refine wp_region_G [8] (fun w' => w'.cell? ⟨b, off + k * 6, none⟩ = some (Value.int .i64 x.1) ∧ w'.cell? ⟨b, off + k * 6 + 1, none⟩ = some (Value.string x.2.1) ∧ w'.cell? ⟨b, off + k * 6 + 2, none⟩ = some (Value.int .i64 x.2.2.1) ∧ w'.cell? ⟨b, off + k * 6 + 3, none⟩ = some (Value.bool x.2.2.2.1) ∧ w'.cell? ⟨b, off + k * 6 + 4, none⟩ = some (Value.int .i64 x.2.2.2.2.1) ∧ w'.cell? ⟨b, off + k * 6 + 5, none⟩ = some (Value.int .i64 x.2.2.2.2.2) ∧ w'.cell? ⟨b', off' + k * 6, none⟩ = some (Value.int .i64 x.1) ∧ w'.cell? ⟨b', off' + k * 6 + 1, none⟩ = some (Value.string x.2.1) ∧ w'.cell? ⟨b', off' + k * 6 + 2, none⟩ = some (Value.int .i64 x.2.2.1) ∧ w'.cell? ⟨b', off' + k * 6 + 3, none⟩ = some (Value.bool x.2.2.2.1) ∧ w'.cell? ⟨b', off' + k * 6 + 4, none⟩ = some (Value.int .i64 x.2.2.2.2.1) ∧ w'.cell? ⟨b', off' + k * 6 + 5, none⟩ = some (Value.int .i64 x.2.2.2.2.2)) (by kernel_rfl) ?_ (fun hHeld => ?_)
    · exact HF.out
    refine wpG_pure (i := 0) (oi := { dst := some 17, op := Go.Op.move (Go.Operand.tmp 0), type := 26, pos := "exact.go:1361", after := #[], guard := none }) (v := ?vg1) rfl (by kernel_rfl) (fun _ _ _ h => h) (Or.inr hHeld) (Or.inl ⟨by rfl, ?yg1⟩) ?_
    case yg1 => (intro wS _; go_simp <;> with_reducible rfl)
    try simp only [Act.put, List.setIfInBounds_toArray, List.set_cons_zero, List.set_cons_succ]
    refine wpG_pure (i := 1) (oi := { dst := some 18, op := Go.Op.move (Go.Operand.tmp 5), type := 3, pos := "exact.go:1361", after := #[], guard := none }) (v := ?vg2) rfl (by kernel_rfl) (fun _ _ _ h => h) (Or.inr hHeld) (Or.inl ⟨by rfl, ?yg2⟩) ?_
    case yg2 => (intro wS _; go_simp <;> with_reducible rfl)
    try simp only [Act.put, List.setIfInBounds_toArray, List.set_cons_zero, List.set_cons_succ]
    refine wpG_pure (i := 2) (oi := { dst := some 19, op := Go.Op.indexAddr 26 (Go.Operand.tmp 17) (Go.Operand.tmp 18), type := 0, pos := "exact.go:1361", after := #[{ on := 0, ground := Go.Ground.data }, { on := 1, ground := Go.Ground.data }], guard := none }) (v := ?vg3) rfl (by kernel_rfl) (fun _ _ _ h => h) (Or.inr hHeld) (Or.inl ⟨by rfl, ?yg3⟩) ?_
    case yg3 => (intro wS _; go_simp <;> with_reducible rfl)
    try simp only [Act.put, List.setIfInBounds_toArray, List.set_cons_zero, List.set_cons_succ]
    refine wpG_load (i := 3) (oi := { dst := some 20, op := Go.Op.load 85 (Go.Operand.tmp 19), type := 85, pos := "exact.go:1361", after := #[{ on := 2, ground := Go.Ground.data }], guard := none }) (v := ?vg4) [[8, 3]] rfl (by kernel_rfl) (fun _ _ _ h => h) hHeld (Or.inl ⟨by rfl, ?yg4⟩) ?_
    case yg4 => (intro wS hSw; (try dsimp only at hSw); go_simp <;> with_reducible rfl)
    try simp only [Act.put, List.setIfInBounds_toArray, List.set_cons_zero, List.set_cons_succ]
    refine wpG_pure (i := 4) (oi := { dst := some 21, op := Go.Op.move (Go.Operand.tmp 1), type := 26, pos := "exact.go:1361", after := #[], guard := none }) (v := ?vg5) rfl (by kernel_rfl) (fun _ _ _ h => h) (Or.inr hHeld) (Or.inl ⟨by rfl, ?yg5⟩) ?_
    case yg5 => (intro wS _; go_simp <;> with_reducible rfl)
    try simp only [Act.put, List.setIfInBounds_toArray, List.set_cons_zero, List.set_cons_succ]
    refine wpG_pure (i := 5) (oi := { dst := some 22, op := Go.Op.move (Go.Operand.tmp 5), type := 3, pos := "exact.go:1361", after := #[], guard := none }) (v := ?vg6) rfl (by kernel_rfl) (fun _ _ _ h => h) (Or.inr hHeld) (Or.inl ⟨by rfl, ?yg6⟩) ?_
    case yg6 => (intro wS _; go_simp <;> with_reducible rfl)
    try simp only [Act.put, List.setIfInBounds_toArray, List.set_cons_zero, List.set_cons_succ]
    refine wpG_pure (i := 6) (oi := { dst := some 23, op := Go.Op.indexAddr 26 (Go.Operand.tmp 21) (Go.Operand.tmp 22), type := 0, pos := "exact.go:1361", after := #[{ on := 4, ground := Go.Ground.data }, { on := 5, ground := Go.Ground.data }], guard := none }) (v := ?vg7) rfl (by kernel_rfl) (fun _ _ _ h => h) (Or.inr hHeld) (Or.inl ⟨by rfl, ?yg7⟩) ?_
    case yg7 => (intro wS _; go_simp <;> with_reducible rfl)
    try simp only [Act.put, List.setIfInBounds_toArray, List.set_cons_zero, List.set_cons_succ]
    refine wpG_load (i := 7) (oi := { dst := some 24, op := Go.Op.load 85 (Go.Operand.tmp 23), type := 85, pos := "exact.go:1361", after := #[{ on := 6, ground := Go.Ground.data }], guard := none }) (v := ?vg8) [[8, 7]] rfl (by kernel_rfl) (fun _ _ _ h => h) hHeld (Or.inl ⟨by rfl, ?yg8⟩) ?_
    case yg8 => (intro wS hSw; (try dsimp only at hSw); go_simp <;> with_reducible rfl)
    try simp only [Act.put, List.setIfInBounds_toArray, List.set_cons_zero, List.set_cons_succ]
    refine wpG_one (i := 8) (o := { dst := some 25, op := Go.Op.call { callee := Go.Callee.value (Go.Operand.func 73), args := #[Go.Operand.tmp 20, Go.Operand.tmp 24], argTypes := #[85, 85] }, type := 4, pos := "exact.go:1361", after := #[{ on := 3, ground := Go.Ground.data }, { on := 7, ground := Go.Ground.data }], guard := none }) rfl (by kernel_rfl) (fun K hK => ?_)
    go_simp
    refine HC.out.mono ?_
    rintro e w2 ⟨rfl, hb2⟩
    have HB2 := Lib.hid (HB.out.trans ((below_undrew hb2).mono HB.out.size)); clear hb2
    refine hK.out _ _ (Or.inl (by kernel_rfl)) (fun _ => ?_)
    clear hK K
    try simp only [Act.put, List.setIfInBounds_toArray, List.set_cons_zero, List.set_cons_succ]
    refine wpG_pure (i := 9) (oi := { dst := some 26, op := Go.Op.unOp Go.UnOp.not 4 (Go.Operand.tmp 25), type := 4, pos := "exact.go:1361", after := #[{ on := 8, ground := Go.Ground.data }], guard := none }) (v := ?vg10) rfl (by kernel_rfl) (fun _ _ _ h => h) (Or.inl (by kernel_rfl)) (Or.inl ⟨by rfl, ?yg10⟩) ?_
    case yg10 => (intro wS _; go_simp <;> with_reducible rfl)
    try simp only [Act.put, List.setIfInBounds_toArray, List.set_cons_zero, List.set_cons_succ]
    refine wpG_done (by kernel_rfl) ?_
    go_wp2_with fail
    go_roundw
    case rel => exact ⟨k + 1, by omega, by go_num, HB2⟩
    case measure => simp [intOf]; omega


theorem Try.infoHTypeS : (Try.prog.info? 85).map (fun i => (i.zero, i.size, i.bytes)) = some (some (Value.agg #[Value.int .i64 0, Value.string { data := #[] }, Value.int .i64 0, Value.bool false, Value.int .i64 0, Value.int .i64 0]), 6, 56) := by kernel_rfl


set_option maxHeartbeats 1000000 in
theorem to_TypeS {cs : List Value} {xs : List (Int × ByteArray × Int × Bool × Int × Int)} {w : World} (h : kTypeS.rd w.heap.size w cs xs) (hw : kTypeS.wt xs ≤ 1048576) :
    Calls Try.prog 37 #[one cs] w (Made kTypeS one xs w) := by
  obtain ⟨a, cap, vss0, rfl, ⟨hc1, hc2⟩, hrow, hl⟩ := h
  have hwt : xs.length + sumL kType.wt xs ≤ 1048576 := hw
  have hn : xs.length ≤ 1048576 := by omega
  show Calls Try.prog 37 #[.slice a xs.length cap] w _
  have HROW := Lib.hid hrow; have HL := Lib.hid hl; have HW := Lib.hid hwt
  clear hrow hl hw hwt
  obtain ⟨i0, hi, hz0, hz1, hz2⟩ := info_parts Try.infoHTypeS
  go_enter Try.func37, Try.ntmps37
  go_wp2_with (refine wpList_make_full _ rfl _ _ _ rfl w.heap.size 85 i0 (Value.agg #[Value.int .i64 0, Value.string { data := #[] }, Value.int .i64 0, Value.bool false, Value.int .i64 0, Value.int .i64 0]) 6 Try.underlying26 hi hz0 hz1 .i64 .i64 _ _ xs.length rfl rfl rfl rfl ?c1 ?c2 ?c3 ?_)
  case c1 => rw [hz2]; omega
  case c2 => unfold maxLen; omega
  case c3 => exact Nat.le_refl _
  intro w1 hown hgrow
  have hb : Below w.heap.size w w1 := (Below.refl _ _).grown hgrow (Nat.le_refl _) (by simp)
  have hlt1 : w.heap.size < w1.heap.size := (hown.lt w.heap.size rfl).2
  have hown' : w1.ownsRow 0 85 6 (.slice (some ⟨w.heap.size, 0, none⟩) xs.length xs.length) xs.length (([] : List (List Value)).flatten ++ zrow [Value.int .i64 0, Value.string { data := #[] }, Value.int .i64 0, Value.bool false, Value.int .i64 0, Value.int .i64 0] (xs.length - 0)) := by
    rw [List.flatten_nil, List.nil_append, Nat.sub_zero, ← toList_made _ _ 6 (by decide) rfl]
    exact own_mono (by simpa using hown) (Nat.zero_le _)
  have HO := Lib.hid hown'; have HB := Lib.hid hb; have HLT := Lib.hid hlt1
  clear hown hgrow hown' hb hlt1 hi hz0 hz1 hz2
  go_wp2_with fail
  go_loopw [4] (fun i wr => ∃ (k : Nat) (vss : List (List Value)) (fps : List (List Nat)), k ≤ xs.length ∧ i = .int .i64 k ∧ Hid (wr.ownsRow 0 85 6 (.slice (some ⟨w.heap.size, 0, none⟩) xs.length xs.length) xs.length (vss.flatten ++ zrow [Value.int .i64 0, Value.string { data := #[] }, Value.int .i64 0, Value.bool false, Value.int .i64 0, Value.int .i64 0] (xs.length - k))) ∧ Hid (OwL kType wr fps vss (xs.take k)) ∧ Hid ((∀ b ∈ fps.flatten, w.heap.size < b) ∧ fps.flatten.Nodup ∧ w.heap.size < wr.heap.size) ∧ Hid (Below w.heap.size w wr)) (fun i _ => xs.length - (intOf i).toNat)
  case atStart => exact ⟨0, [], [], Nat.zero_le _, rfl, HO, trivial, Lib.hid ⟨by simp, by simp, HLT.out⟩, HB⟩
  case round =>
    obtain ⟨k, vss, fps, hk, rfl, HO, HOW, HFP, HB⟩ := hrel
    by_cases hlk : k < xs.length
    case neg =>
      go_wp2_with fail
      go_ret
      obtain rfl : k = xs.length := by omega
      have h1 := HOW.out
      have h2 := HO.out
      rw [List.take_length] at h1
      rw [Nat.sub_self, show zrow [Value.int .i64 0, Value.string { data := #[] }, Value.int .i64 0, Value.bool false, Value.int .i64 0, Value.int .i64 0] 0 = [] from rfl, List.append_nil] at h2
      refine ⟨[_], [w.heap.size] ++ fps.flatten, rfl, ⟨_, vss, fps, rfl, h2, h1, rfl, ?_⟩, ?_, ?_, HB.out⟩
      · rw [List.nodup_append]
        exact ⟨by simp, HFP.out.2.1, fun x hx y hy he => by have := HFP.out.1 y hy; simp at hx; omega⟩
      · rw [List.nodup_append]
        exact ⟨by simp, HFP.out.2.1, fun x hx y hy he => by have := HFP.out.1 y hy; simp at hx; omega⟩
      · intro b hb
        rcases List.mem_append.1 hb with hb | hb
        · simp at hb; omega
        · have := HFP.out.1 b hb; omega
    obtain ⟨x, hx⟩ : ∃ x, xs[k]? = some x := ⟨xs[k], List.getElem?_eq_getElem hlk⟩
    have HX := Lib.hid hx
    obtain ⟨v, b, off, hr, hv, rfl, hbl, hcell⟩ := elem_cells kType_ok (n := 6) rfl (by decide) HROW.out HL.out hx
    have hne : b ≠ w.heap.size := by omega
    have hwx : kType.wt x ≤ 1048576 := by have h1 := sumL_at kType.wt xs k x hx; have h2 := HW.out; omega
    have HWX := Lib.hid hwx
    clear hx hv hwx
    have HE := Lib.hid (kType_ok.later hr HB.out)
    obtain ⟨rfl, _, _, _, _, _⟩ := Type_rd hr
    have c0 : wr.cell? ⟨b, off + k * 6, none⟩ = some _ := (HB.out.cell (p := ⟨b, off + k * 6, none⟩) hbl).trans (by have := hcell 0 _ rfl; simpa [Nat.add_assoc] using this)
    have c1 : wr.cell? ⟨b, off + k * 6 + 1, none⟩ = some _ := (HB.out.cell (p := ⟨b, off + k * 6 + 1, none⟩) hbl).trans (by have := hcell 1 _ rfl; simpa [Nat.add_assoc] using this)
    have c2 : wr.cell? ⟨b, off + k * 6 + 2, none⟩ = some _ := (HB.out.cell (p := ⟨b, off + k * 6 + 2, none⟩) hbl).trans (by have := hcell 2 _ rfl; simpa [Nat.add_assoc] using this)
    have c3 : wr.cell? ⟨b, off + k * 6 + 3, none⟩ = some _ := (HB.out.cell (p := ⟨b, off + k * 6 + 3, none⟩) hbl).trans (by have := hcell 3 _ rfl; simpa [Nat.add_assoc] using this)
    have c4 : wr.cell? ⟨b, off + k * 6 + 4, none⟩ = some _ := (HB.out.cell (p := ⟨b, off + k * 6 + 4, none⟩) hbl).trans (by have := hcell 4 _ rfl; simpa [Nat.add_assoc] using this)
    have c5 : wr.cell? ⟨b, off + k * 6 + 5, none⟩ = some _ := (HB.out.cell (p := ⟨b, off + k * 6 + 5, none⟩) hbl).trans (by have := hcell 5 _ rfl; simpa [Nat.add_assoc] using this)
    clear hcell
    have HFL : Hid (vss.flatten.length = k * 6) := by
      have h := HOW.out.flat kType_ok
      rw [List.length_take, Nat.min_eq_left (by omega)] at h
      exact Lib.hid h
    have HAT : Hid (∀ j, j < 6 → k * 6 + j < (vss.flatten ++ zrow [Value.int .i64 0, Value.string { data := #[] }, Value.int .i64 0, Value.bool false, Value.int .i64 0, Value.int .i64 0] (xs.length - k)).length) := Lib.hid fun j hj => lay_at vss _ k xs.length 6 j HFL.out rfl hlk hj
    have HC := Lib.hid (to_Type HE.out HWX.out)
    go_wp2_with fail
    refine HC.out.mono ?_
    rintro e w2 ⟨cs2, fp2, he, ho, hnd, hge, hb2⟩
    have hrd2 := kType_ok.ord ho (B := w2.heap.size) (kType_ok.olt ho)
    obtain ⟨rfl, _, _, _, _, _⟩ := Type_rd hrd2
    change e = .returned (.agg #[Value.int .i64 x.1, Value.string x.2.1, Value.int .i64 x.2.2.1, Value.bool x.2.2.2.1, Value.int .i64 x.2.2.2.2.1, Value.int .i64 x.2.2.2.2.2]) at he
    subst he
    have HO2 := Lib.hid ho
    have ho2 := own_below (B := wr.heap.size) HO.out hb2 (fun k hk => by cases hk; exact HFP.out.2.2)
    have HOW2 := Lib.hid (HOW.out.frame kType_ok (w' := w2) fun b hb => hb2.block b (HOW.out.lt kType_ok b hb))
    have HB2 := Lib.hid (HB.out.trans (hb2.mono HB.out.size))
    have HF2 : Hid ((∀ b ∈ fp2, wr.heap.size ≤ b) ∧ fp2.Nodup ∧ (∀ b ∈ fp2, b < w2.heap.size) ∧ wr.heap.size ≤ w2.heap.size) := Lib.hid ⟨hge, hnd, kType_ok.olt ho, hb2.size⟩
    clear ho hnd hge hb2
    obtain ⟨z0, hz0⟩ : ∃ z, (vss.flatten ++ zrow [Value.int .i64 0, Value.string { data := #[] }, Value.int .i64 0, Value.bool false, Value.int .i64 0, Value.int .i64 0] (xs.length - k))[k * 6 + 0]? = some z := ⟨_, List.getElem?_eq_getElem (HAT.out 0 (by omega))⟩
    have d0 : w2.cell? ⟨w.heap.size, k * 6, none⟩ = some z0 := by rw [ho2.cellAt (k * 6) (by omega)]; simpa using hz0
    clear hz0
    have e0 := ho2.frozenAt (k * 6)
    obtain ⟨z1, hz1⟩ : ∃ z, (vss.flatten ++ zrow [Value.int .i64 0, Value.string { data := #[] }, Value.int .i64 0, Value.bool false, Value.int .i64 0, Value.int .i64 0] (xs.length - k))[k * 6 + 1]? = some z := ⟨_, List.getElem?_eq_getElem (HAT.out 1 (by omega))⟩
    have d1 : w2.cell? ⟨w.heap.size, k * 6 + 1, none⟩ = some z1 := by rw [ho2.cellAt (k * 6 + 1) (by omega)]; simpa using hz1
    clear hz1
    have e1 := ho2.frozenAt (k * 6 + 1)
    obtain ⟨z2, hz2⟩ : ∃ z, (vss.flatten ++ zrow [Value.int .i64 0, Value.string { data := #[] }, Value.int .i64 0, Value.bool false, Value.int .i64 0, Value.int .i64 0] (xs.length - k))[k * 6 + 2]? = some z := ⟨_, List.getElem?_eq_getElem (HAT.out 2 (by omega))⟩
    have d2 : w2.cell? ⟨w.heap.size, k * 6 + 2, none⟩ = some z2 := by rw [ho2.cellAt (k * 6 + 2) (by omega)]; simpa using hz2
    clear hz2
    have e2 := ho2.frozenAt (k * 6 + 2)
    obtain ⟨z3, hz3⟩ : ∃ z, (vss.flatten ++ zrow [Value.int .i64 0, Value.string { data := #[] }, Value.int .i64 0, Value.bool false, Value.int .i64 0, Value.int .i64 0] (xs.length - k))[k * 6 + 3]? = some z := ⟨_, List.getElem?_eq_getElem (HAT.out 3 (by omega))⟩
    have d3 : w2.cell? ⟨w.heap.size, k * 6 + 3, none⟩ = some z3 := by rw [ho2.cellAt (k * 6 + 3) (by omega)]; simpa using hz3
    clear hz3
    have e3 := ho2.frozenAt (k * 6 + 3)
    obtain ⟨z4, hz4⟩ : ∃ z, (vss.flatten ++ zrow [Value.int .i64 0, Value.string { data := #[] }, Value.int .i64 0, Value.bool false, Value.int .i64 0, Value.int .i64 0] (xs.length - k))[k * 6 + 4]? = some z := ⟨_, List.getElem?_eq_getElem (HAT.out 4 (by omega))⟩
    have d4 : w2.cell? ⟨w.heap.size, k * 6 + 4, none⟩ = some z4 := by rw [ho2.cellAt (k * 6 + 4) (by omega)]; simpa using hz4
    clear hz4
    have e4 := ho2.frozenAt (k * 6 + 4)
    obtain ⟨z5, hz5⟩ : ∃ z, (vss.flatten ++ zrow [Value.int .i64 0, Value.string { data := #[] }, Value.int .i64 0, Value.bool false, Value.int .i64 0, Value.int .i64 0] (xs.length - k))[k * 6 + 5]? = some z := ⟨_, List.getElem?_eq_getElem (HAT.out 5 (by omega))⟩
    have d5 : w2.cell? ⟨w.heap.size, k * 6 + 5, none⟩ = some z5 := by rw [ho2.cellAt (k * 6 + 5) (by omega)]; simpa using hz5
    clear hz5
    have e5 := ho2.frozenAt (k * 6 + 5)
    have hst := ((((((ho2.stored (k * 6) (Value.int .i64 x.1)).1.stored (k * 6 + 1) (Value.string x.2.1)).1.stored (k * 6 + 2) (Value.int .i64 x.2.2.1)).1.stored (k * 6 + 3) (Value.bool x.2.2.2.1)).1.stored (k * 6 + 4) (Value.int .i64 x.2.2.2.2.1)).1.stored (k * 6 + 5) (Value.int .i64 x.2.2.2.2.2)).1
    have HST : Hid (((((((w2.setCell ⟨w.heap.size, k * 6, none⟩ (Value.int .i64 x.1)).setCell ⟨w.heap.size, k * 6 + 1, none⟩ (Value.string x.2.1)).setCell ⟨w.heap.size, k * 6 + 2, none⟩ (Value.int .i64 x.2.2.1)).setCell ⟨w.heap.size, k * 6 + 3, none⟩ (Value.bool x.2.2.2.1)).setCell ⟨w.heap.size, k * 6 + 4, none⟩ (Value.int .i64 x.2.2.2.2.1)).setCell ⟨w.heap.size, k * 6 + 5, none⟩ (Value.int .i64 x.2.2.2.2.2)).ownsRow 0 85 6 (.slice (some ⟨w.heap.size, 0, none⟩) xs.length xs.length) xs.length ((vss ++ [[Value.int .i64 x.1, Value.string x.2.1, Value.int .i64 x.2.2.1, Value.bool x.2.2.2.1, Value.int .i64 x.2.2.2.2.1, Value.int .i64 x.2.2.2.2.2]]).flatten ++ zrow [Value.int .i64 0, Value.string { data := #[] }, Value.int .i64 0, Value.bool false, Value.int .i64 0, Value.int .i64 0] (xs.length - (k + 1)))) := by
      rw [← lay_next vss [Value.int .i64 x.1, Value.string x.2.1, Value.int .i64 x.2.2.1, Value.bool x.2.2.2.1, Value.int .i64 x.2.2.2.2.1, Value.int .i64 x.2.2.2.2.2] [Value.int .i64 0, Value.string { data := #[] }, Value.int .i64 0, Value.bool false, Value.int .i64 0, Value.int .i64 0] k xs.length 6 HFL.out rfl rfl hlk]
      exact Lib.hid (by simpa only [sets, Nat.mul_one] using hst)
    clear hst ho2
    have HSAME : Hid (∀ b, b ≠ w.heap.size → ((((((w2.setCell ⟨w.heap.size, k * 6, none⟩ (Value.int .i64 x.1)).setCell ⟨w.heap.size, k * 6 + 1, none⟩ (Value.string x.2.1)).setCell ⟨w.heap.size, k * 6 + 2, none⟩ (Value.int .i64 x.2.2.1)).setCell ⟨w.heap.size, k * 6 + 3, none⟩ (Value.bool x.2.2.2.1)).setCell ⟨w.heap.size, k * 6 + 4, none⟩ (Value.int .i64 x.2.2.2.2.1)).setCell ⟨w.heap.size, k * 6 + 5, none⟩ (Value.int .i64 x.2.2.2.2.2)).heap[b]? = w2.heap[b]?) := Lib.hid fun b hb => by rw [Below.heap_setCell _ _ _ _ (by exact hb), Below.heap_setCell _ _ _ _ (by exact hb), Below.heap_setCell _ _ _ _ (by exact hb), Below.heap_setCell _ _ _ _ (by exact hb), Below.heap_setCell _ _ _ _ (by exact hb), Below.heap_setCell _ _ _ _ (by exact hb)]
    have HOWN : Hid (OwL kType ((((((w2.setCell ⟨w.heap.size, k * 6, none⟩ (Value.int .i64 x.1)).setCell ⟨w.heap.size, k * 6 + 1, none⟩ (Value.string x.2.1)).setCell ⟨w.heap.size, k * 6 + 2, none⟩ (Value.int .i64 x.2.2.1)).setCell ⟨w.heap.size, k * 6 + 3, none⟩ (Value.bool x.2.2.2.1)).setCell ⟨w.heap.size, k * 6 + 4, none⟩ (Value.int .i64 x.2.2.2.2.1)).setCell ⟨w.heap.size, k * 6 + 5, none⟩ (Value.int .i64 x.2.2.2.2.2)) (fps ++ [fp2]) (vss ++ [[Value.int .i64 x.1, Value.string x.2.1, Value.int .i64 x.2.2.1, Value.bool x.2.2.2.1, Value.int .i64 x.2.2.2.2.1, Value.int .i64 x.2.2.2.2.2]]) (xs.take (k + 1))) := by
      rw [take_next xs k x HX.out]
      refine Lib.hid (OwL.snoc (HOW2.out.frame kType_ok fun b hb => HSAME.out b (by have := HFP.out.1 b hb; omega)) (kType_ok.oframe HO2.out fun b hb => HSAME.out b (by have := HF2.out.1 b hb; have := HFP.out.2.2; omega)))
    have HFP2 : Hid ((∀ b ∈ (fps ++ [fp2]).flatten, w.heap.size < b) ∧ (fps ++ [fp2]).flatten.Nodup ∧ w.heap.size < ((((((w2.setCell ⟨w.heap.size, k * 6, none⟩ (Value.int .i64 x.1)).setCell ⟨w.heap.size, k * 6 + 1, none⟩ (Value.string x.2.1)).setCell ⟨w.heap.size, k * 6 + 2, none⟩ (Value.int .i64 x.2.2.1)).setCell ⟨w.heap.size, k * 6 + 3, none⟩ (Value.bool x.2.2.2.1)).setCell ⟨w.heap.size, k * 6 + 4, none⟩ (Value.int .i64 x.2.2.2.2.1)).setCell ⟨w.heap.size, k * 6 + 5, none⟩ (Value.int .i64 x.2.2.2.2.2)).heap.size) := by
      have hlow := HOW.out.lt kType_ok
      refine Lib.hid ⟨?_, ?_, ?_⟩
      · intro b hb
        simp only [List.flatten_append, List.flatten_cons, List.flatten_nil, List.append_nil, List.mem_append] at hb
        rcases hb with hb | hb
        · exact HFP.out.1 b hb
        · have := HF2.out.1 b hb; have := HFP.out.2.2; omega
      · simp only [List.flatten_append, List.flatten_cons, List.flatten_nil, List.append_nil]
        rw [List.nodup_append]
        exact ⟨HFP.out.2.1, HF2.out.2.1, fun x hx y hy he => by have := hlow x hx; have := HF2.out.1 y hy; omega⟩
      · simp only [World.size_setCell]; have := HF2.out.2.2.2; have := HFP.out.2.2; omega
    have HBF := Lib.hid ((((((HB2.out.setCell (p := ⟨w.heap.size, k * 6, none⟩) (Nat.le_refl _) (Value.int .i64 x.1)).setCell (p := ⟨w.heap.size, k * 6 + 1, none⟩) (Nat.le_refl _) (Value.string x.2.1)).setCell (p := ⟨w.heap.size, k * 6 + 2, none⟩) (Nat.le_refl _) (Value.int .i64 x.2.2.1)).setCell (p := ⟨w.heap.size, k * 6 + 3, none⟩) (Nat.le_refl _) (Value.bool x.2.2.2.1)).setCell (p := ⟨w.heap.size, k * 6 + 4, none⟩) (Nat.le_refl _) (Value.int .i64 x.2.2.2.2.1)).setCell (p := ⟨w.heap.size, k * 6 + 5, none⟩) (Nat.le_refl _) (Value.int .i64 x.2.2.2.2.2))
    go_wp2_with fail
    go_roundw
    case rel => exact ⟨k + 1, _, _, by omega, by go_num, HST, HOWN, HFP2, HBF⟩
    case measure => simp [intOf]; omega


set_option maxHeartbeats 2000000 in
theorem mark_TypeS {cs : List Value} {xs : List (Int × ByteArray × Int × Bool × Int × Int)} {w : World} {fp : List Nat} (k0 : Nat) (h : kTypeS.ow fp w cs xs) (h0 : 1 ≤ k0) (h1 : k0 + kTypeS.cnt xs ≤ 16777216) :
    Calls Try.prog 42 #[one cs, .int .i64 (k0 : Int)] w fun e w' => e = .returned (.int .i64 ((k0 + kTypeS.cnt xs : Nat) : Int)) ∧ kTypeS.ow fp w' cs (kTypeS.mark k0 xs) ∧ Wrote (fun b => b ∈ fp) w w' := by
  obtain ⟨sv, vss, fps, rfl, hrow, hol, rfl, hnd⟩ := h
  obtain ⟨a, cap, rfl⟩ := form_of_own hrow
  have hcap := own_caps hrow
  unfold maxLen at hcap
  obtain ⟨hc1, hc2⟩ := hcap
  have hn : xs.length ≤ 9223372036854775807 := by omega
  have h1' : k0 + sumL kType.cnt xs ≤ 16777216 := h1
  show Calls Try.prog 42 #[.slice a xs.length cap, .int .i64 (k0 : Int)] w _
  have HROW := Lib.hid hrow; have HOL := Lib.hid hol; have HND := Lib.hid hnd; have H1 := Lib.hid h1'
  clear hrow hol hnd h1 h1'
  go_enter Try.func42, Try.ntmps42
  go_wp2_with fail
  go_loopw [1, 5] (fun kv i wr => ∃ (k : Nat) (vss : List (List Value)), k ≤ xs.length ∧ i = .int .i64 k ∧ kv = .int .i64 ((k0 + sumL kType.cnt (xs.take k) : Nat) : Int) ∧ Hid (wr.ownsRow 0 85 6 (.slice a xs.length cap) xs.length vss.flatten) ∧ Hid (OwL kType wr fps vss (mkL kType k0 (xs.take k) ++ xs.drop k)) ∧ Hid (Wrote (fun b => b ∈ (Value.slice a xs.length cap).ownBlock.toList ++ fps.flatten) w wr)) (fun _ i _ => xs.length - (intOf i).toNat)
  case atStart => exact ⟨0, vss, Nat.zero_le _, rfl, by simp [sumL], HROW, Lib.hid (by simpa [mkL] using HOL.out), Wrote.refl _ _⟩
  case round =>
    obtain ⟨k, vss, hk, rfl, rfl, HO, HOW, HWR⟩ := hrel
    by_cases hlk : k < xs.length
    case neg =>
      go_wp2_with fail
      go_ret
      obtain rfl : k = xs.length := by omega
      have h1 := HOW.out
      rw [List.take_length, List.drop_length, List.append_nil] at h1
      refine ⟨by rw [List.take_length]; rfl, ⟨_, vss, fps, rfl, ?_, h1, rfl, HND.out⟩, HWR.out⟩
      show World.ownsRow _ _ _ _ _ (mkL _ _ _).length _
      rw [mkL_length]; exact HO.out
    obtain ⟨x, hx⟩ : ∃ x, xs[k]? = some x := ⟨xs[k], List.getElem?_eq_getElem hlk⟩
    have hel : (mkL kType k0 (xs.take k) ++ xs.drop k)[k]? = some x := by
      rw [List.getElem?_append_right (by simp; omega), mkL_length, List.length_take, Nat.min_eq_left (by omega), Nat.sub_self, List.getElem?_drop]; exact hx
    obtain ⟨f, v, hf, hv, how⟩ := HOW.out.at k x hel
    obtain ⟨g, rfl⟩ : ∃ g, a = some ⟨g, 0, none⟩ := by
      rcases HO.out.2 with ⟨_, h⟩ | ⟨g, _, _, h, _⟩
      · omega
      · cases h; exact ⟨g, rfl⟩
    have HR0 := Lib.hid (RowKd.begin HO.out (HOW.out.lens kType_ok) hv)
    have HTK := Lib.hid (sumL_take kType.cnt xs k x hx)
    have hle := sumL_le kType.cnt xs (k + 1)
    rw [HTK.out] at hle
    have HSET := Lib.hid (mkL_set kType xs k0 k x hx)
    generalize hkk : k0 + sumL kType.cnt (xs.take k) = kk at *
    have hb0 : kk + kType.cnt x ≤ 16777216 := by have := H1.out; omega
    have hb1 : 1 ≤ kk := by omega
    have HF := Lib.hid hf; have HKK := Lib.hid hkk
    clear hf hv hel hx hle hkk
    have hcx : kType.cnt x = 1 + 1 + 1 + 1 + 1 + 1 := by show 1 + (1 + (1 + (1 + (1 + (1))))) = _; omega
    rw [hcx] at hb0
    have HCX := Lib.hid hcx; clear hcx
    obtain ⟨rfl, rfl, hp0, hp1, hp2, hp4, hp5⟩ := Type_ow how
    have HP0 := Lib.hid hp0; clear hp0; have HP1 := Lib.hid hp1; clear hp1; have HP2 := Lib.hid hp2; clear hp2; have HP4 := Lib.hid hp4; clear hp4; have HP5 := Lib.hid hp5; clear hp5
    have c0_0 : wr.cell? ⟨g, k * 6, none⟩ = some (Value.int .i64 x.1) := by have := HR0.out.cell 0 _ rfl; simpa using this
    have e0_0 : wr.frozen? ⟨g, k * 6, none⟩ = false := HR0.out.frozen _
    have c0_1 : wr.cell? ⟨g, k * 6 + 1, none⟩ = some (Value.string x.2.1) := by have := HR0.out.cell 1 _ rfl; simpa using this
    have e0_1 : wr.frozen? ⟨g, k * 6 + 1, none⟩ = false := HR0.out.frozen _
    have c0_2 : wr.cell? ⟨g, k * 6 + 2, none⟩ = some (Value.int .i64 x.2.2.1) := by have := HR0.out.cell 2 _ rfl; simpa using this
    have e0_2 : wr.frozen? ⟨g, k * 6 + 2, none⟩ = false := HR0.out.frozen _
    have c0_3 : wr.cell? ⟨g, k * 6 + 3, none⟩ = some (Value.bool x.2.2.2.1) := by have := HR0.out.cell 3 _ rfl; simpa using this
    have e0_3 : wr.frozen? ⟨g, k * 6 + 3, none⟩ = false := HR0.out.frozen _
    have c0_4 : wr.cell? ⟨g, k * 6 + 4, none⟩ = some (Value.int .i64 x.2.2.2.2.1) := by have := HR0.out.cell 4 _ rfl; simpa using this
    have e0_4 : wr.frozen? ⟨g, k * 6 + 4, none⟩ = false := HR0.out.frozen _
    have c0_5 : wr.cell? ⟨g, k * 6 + 5, none⟩ = some (Value.int .i64 x.2.2.2.2.2) := by have := HR0.out.cell 5 _ rfl; simpa using this
    have e0_5 : wr.frozen? ⟨g, k * 6 + 5, none⟩ = false := HR0.out.frozen _
    have HRS0 : Hid (RowKd (wr.setCell ⟨g, k * 6, none⟩ (Value.int .i64 (kk : Int))) 85 6 (.slice (some ⟨g, 0, none⟩) xs.length cap) xs.length vss k [Value.int .i64 (kk : Int), Value.string x.2.1, Value.int .i64 x.2.2.1, Value.bool x.2.2.2.1, Value.int .i64 x.2.2.2.2.1, Value.int .i64 x.2.2.2.2.2]) := by
      have h := HR0.out.store 0 (Value.int .i64 (kk : Int)) (by decide)
      exact Lib.hid (by simpa using h)
    have HWS0 := Lib.hid (HWR.out.setCell (p := ⟨g, k * 6, none⟩) (by simp [Value.ownBlock]) (Value.int .i64 (kk : Int)))
    have hmt := mark_text ((kk + 1)) (wr.setCell ⟨g, k * 6, none⟩ (Value.int .i64 (kk : Int))) (by omega) (by omega)
    rw [show ((kk + 1 : Nat) : Int) = ((kk : Int) + 1) by omega] at hmt
    have HM := Lib.hid hmt; clear hmt
    go_wp2_with fail
    refine HM.out.mono ?_
    rintro e w1 ⟨rfl, hb1⟩
    have HR1 := Lib.hid (RowKd.keep (w' := w1) HRS0.out fun b hb => by cases hb; exact hb1.block g (by have := (HO.out.lt g rfl).2; (try simp only [World.size_setCell]); omega))
    have HW1 := Lib.hid (HWS0.out.trans (Wrote.of_below hb1))
    have HB1 := Lib.hid hb1; clear hb1
    clear c0_0 e0_0
    clear c0_1 e0_1
    clear c0_2 e0_2
    clear c0_3 e0_3
    clear c0_4 e0_4
    clear c0_5 e0_5
    have c1_0 : w1.cell? ⟨g, k * 6, none⟩ = some (Value.int .i64 (kk : Int)) := by have := HR1.out.cell 0 _ rfl; simpa using this
    have e1_0 : w1.frozen? ⟨g, k * 6, none⟩ = false := HR1.out.frozen _
    have c1_1 : w1.cell? ⟨g, k * 6 + 1, none⟩ = some (Value.string x.2.1) := by have := HR1.out.cell 1 _ rfl; simpa using this
    have e1_1 : w1.frozen? ⟨g, k * 6 + 1, none⟩ = false := HR1.out.frozen _
    have c1_2 : w1.cell? ⟨g, k * 6 + 2, none⟩ = some (Value.int .i64 x.2.2.1) := by have := HR1.out.cell 2 _ rfl; simpa using this
    have e1_2 : w1.frozen? ⟨g, k * 6 + 2, none⟩ = false := HR1.out.frozen _
    have c1_3 : w1.cell? ⟨g, k * 6 + 3, none⟩ = some (Value.bool x.2.2.2.1) := by have := HR1.out.cell 3 _ rfl; simpa using this
    have e1_3 : w1.frozen? ⟨g, k * 6 + 3, none⟩ = false := HR1.out.frozen _
    have c1_4 : w1.cell? ⟨g, k * 6 + 4, none⟩ = some (Value.int .i64 x.2.2.2.2.1) := by have := HR1.out.cell 4 _ rfl; simpa using this
    have e1_4 : w1.frozen? ⟨g, k * 6 + 4, none⟩ = false := HR1.out.frozen _
    have c1_5 : w1.cell? ⟨g, k * 6 + 5, none⟩ = some (Value.int .i64 x.2.2.2.2.2) := by have := HR1.out.cell 5 _ rfl; simpa using this
    have e1_5 : w1.frozen? ⟨g, k * 6 + 5, none⟩ = false := HR1.out.frozen _
    have HRS1 : Hid (RowKd (w1.setCell ⟨g, k * 6 + 1, none⟩ (Value.string (mt (kk + 1)))) 85 6 (.slice (some ⟨g, 0, none⟩) xs.length cap) xs.length vss k [Value.int .i64 (kk : Int), Value.string (mt (kk + 1)), Value.int .i64 x.2.2.1, Value.bool x.2.2.2.1, Value.int .i64 x.2.2.2.2.1, Value.int .i64 x.2.2.2.2.2]) := by
      have h := HR1.out.store 1 (Value.string (mt (kk + 1))) (by decide)
      exact Lib.hid (by simpa using h)
    have HWS1 := Lib.hid (HW1.out.setCell (p := ⟨g, k * 6 + 1, none⟩) (by simp [Value.ownBlock]) (Value.string (mt (kk + 1))))
    have HRS2 : Hid (RowKd ((w1.setCell ⟨g, k * 6 + 1, none⟩ (Value.string (mt (kk + 1)))).setCell ⟨g, k * 6 + 2, none⟩ (Value.int .i64 ((kk : Int) + 1 + 1))) 85 6 (.slice (some ⟨g, 0, none⟩) xs.length cap) xs.length vss k [Value.int .i64 (kk : Int), Value.string (mt (kk + 1)), Value.int .i64 ((kk : Int) + 1 + 1), Value.bool x.2.2.2.1, Value.int .i64 x.2.2.2.2.1, Value.int .i64 x.2.2.2.2.2]) := by
      have h := HRS1.out.store 2 (Value.int .i64 ((kk : Int) + 1 + 1)) (by decide)
      exact Lib.hid (by simpa using h)
    have HWS2 := Lib.hid (HWS1.out.setCell (p := ⟨g, k * 6 + 2, none⟩) (by simp [Value.ownBlock]) (Value.int .i64 ((kk : Int) + 1 + 1)))
    have HRS3 : Hid (RowKd (((w1.setCell ⟨g, k * 6 + 1, none⟩ (Value.string (mt (kk + 1)))).setCell ⟨g, k * 6 + 2, none⟩ (Value.int .i64 ((kk : Int) + 1 + 1))).setCell ⟨g, k * 6 + 3, none⟩ (Value.bool (decide (((kk : Int) + 1 + 1 + 1) % 3 = 0)))) 85 6 (.slice (some ⟨g, 0, none⟩) xs.length cap) xs.length vss k [Value.int .i64 (kk : Int), Value.string (mt (kk + 1)), Value.int .i64 ((kk : Int) + 1 + 1), Value.bool (decide (((kk : Int) + 1 + 1 + 1) % 3 = 0)), Value.int .i64 x.2.2.2.2.1, Value.int .i64 x.2.2.2.2.2]) := by
      have h := HRS2.out.store 3 (Value.bool (decide (((kk : Int) + 1 + 1 + 1) % 3 = 0))) (by decide)
      exact Lib.hid (by simpa using h)
    have HWS3 := Lib.hid (HWS2.out.setCell (p := ⟨g, k * 6 + 3, none⟩) (by simp [Value.ownBlock]) (Value.bool (decide (((kk : Int) + 1 + 1 + 1) % 3 = 0))))
    have HRS4 : Hid (RowKd ((((w1.setCell ⟨g, k * 6 + 1, none⟩ (Value.string (mt (kk + 1)))).setCell ⟨g, k * 6 + 2, none⟩ (Value.int .i64 ((kk : Int) + 1 + 1))).setCell ⟨g, k * 6 + 3, none⟩ (Value.bool (decide (((kk : Int) + 1 + 1 + 1) % 3 = 0)))).setCell ⟨g, k * 6 + 4, none⟩ (Value.int .i64 ((kk : Int) + 1 + 1 + 1 + 1))) 85 6 (.slice (some ⟨g, 0, none⟩) xs.length cap) xs.length vss k [Value.int .i64 (kk : Int), Value.string (mt (kk + 1)), Value.int .i64 ((kk : Int) + 1 + 1), Value.bool (decide (((kk : Int) + 1 + 1 + 1) % 3 = 0)), Value.int .i64 ((kk : Int) + 1 + 1 + 1 + 1), Value.int .i64 x.2.2.2.2.2]) := by
      have h := HRS3.out.store 4 (Value.int .i64 ((kk : Int) + 1 + 1 + 1 + 1)) (by decide)
      exact Lib.hid (by simpa using h)
    have HWS4 := Lib.hid (HWS3.out.setCell (p := ⟨g, k * 6 + 4, none⟩) (by simp [Value.ownBlock]) (Value.int .i64 ((kk : Int) + 1 + 1 + 1 + 1)))
    have HRS5 : Hid (RowKd (((((w1.setCell ⟨g, k * 6 + 1, none⟩ (Value.string (mt (kk + 1)))).setCell ⟨g, k * 6 + 2, none⟩ (Value.int .i64 ((kk : Int) + 1 + 1))).setCell ⟨g, k * 6 + 3, none⟩ (Value.bool (decide (((kk : Int) + 1 + 1 + 1) % 3 = 0)))).setCell ⟨g, k * 6 + 4, none⟩ (Value.int .i64 ((kk : Int) + 1 + 1 + 1 + 1))).setCell ⟨g, k * 6 + 5, none⟩ (Value.int .i64 ((kk : Int) + 1 + 1 + 1 + 1 + 1))) 85 6 (.slice (some ⟨g, 0, none⟩) xs.length cap) xs.length vss k [Value.int .i64 (kk : Int), Value.string (mt (kk + 1)), Value.int .i64 ((kk : Int) + 1 + 1), Value.bool (decide (((kk : Int) + 1 + 1 + 1) % 3 = 0)), Value.int .i64 ((kk : Int) + 1 + 1 + 1 + 1), Value.int .i64 ((kk : Int) + 1 + 1 + 1 + 1 + 1)]) := by
      have h := HRS4.out.store 5 (Value.int .i64 ((kk : Int) + 1 + 1 + 1 + 1 + 1)) (by decide)
      exact Lib.hid (by simpa using h)
    have HWS5 := Lib.hid (HWS4.out.setCell (p := ⟨g, k * 6 + 5, none⟩) (by simp [Value.ownBlock]) (Value.int .i64 ((kk : Int) + 1 + 1 + 1 + 1 + 1)))
    have HWF := Lib.hid HWS5.out
    have HNEW : Hid (kType.ow [] (((((w1.setCell ⟨g, k * 6 + 1, none⟩ (Value.string (mt (kk + 1)))).setCell ⟨g, k * 6 + 2, none⟩ (Value.int .i64 ((kk : Int) + 1 + 1))).setCell ⟨g, k * 6 + 3, none⟩ (Value.bool (decide (((kk : Int) + 1 + 1 + 1) % 3 = 0)))).setCell ⟨g, k * 6 + 4, none⟩ (Value.int .i64 ((kk : Int) + 1 + 1 + 1 + 1))).setCell ⟨g, k * 6 + 5, none⟩ (Value.int .i64 ((kk : Int) + 1 + 1 + 1 + 1 + 1))) [Value.int .i64 (kk : Int), Value.string (mt (kk + 1)), Value.int .i64 ((kk : Int) + 1 + 1), Value.bool (decide (((kk : Int) + 1 + 1 + 1) % 3 = 0)), Value.int .i64 ((kk : Int) + 1 + 1 + 1 + 1), Value.int .i64 ((kk : Int) + 1 + 1 + 1 + 1 + 1)] (kType.mark kk x)) := Lib.hid (Type_owm (x := kType.mark kk x) (wf_mark (k := kk) (by omega)) (mt_len (k := (kk + 1)) (by omega)) (wf_mark (k := (kk + 2)) (by omega)) (wf_mark (k := (kk + 4)) (by omega)) (wf_mark (k := (kk + 5)) (by omega)))
    have HSM : Hid (∀ b ∈ fps.flatten, b ∉ ([] : List Nat) → (((((w1.setCell ⟨g, k * 6 + 1, none⟩ (Value.string (mt (kk + 1)))).setCell ⟨g, k * 6 + 2, none⟩ (Value.int .i64 ((kk : Int) + 1 + 1))).setCell ⟨g, k * 6 + 3, none⟩ (Value.bool (decide (((kk : Int) + 1 + 1 + 1) % 3 = 0)))).setCell ⟨g, k * 6 + 4, none⟩ (Value.int .i64 ((kk : Int) + 1 + 1 + 1 + 1))).setCell ⟨g, k * 6 + 5, none⟩ (Value.int .i64 ((kk : Int) + 1 + 1 + 1 + 1 + 1))).heap[b]? = wr.heap[b]?) := by
      refine Lib.hid fun b hb hnf => ?_
      have hbg : b ≠ g := by
        rintro rfl
        have h := HND.out
        rw [List.nodup_append] at h
        exact h.2.2 b (by simp [Value.ownBlock]) b hb rfl
      have hlt := HOW.out.lt kType_ok b hb
      rw [Below.heap_setCell _ _ _ _ (by exact hbg), Below.heap_setCell _ _ _ _ (by exact hbg), Below.heap_setCell _ _ _ _ (by exact hbg), Below.heap_setCell _ _ _ _ (by exact hbg), Below.heap_setCell _ _ _ _ (by exact hbg)]
      refine (HB1.out.block b (by (try simp only [World.size_setCell]); omega)).trans ?_
      rw [Below.heap_setCell _ _ _ _ (by exact hbg)]
    have HOWF := Lib.hid (HOW.out.turn kType_ok (by have h := HND.out; rw [List.nodup_append] at h; exact h.2.1) k [] [Value.int .i64 (kk : Int), Value.string (mt (kk + 1)), Value.int .i64 ((kk : Int) + 1 + 1), Value.bool (decide (((kk : Int) + 1 + 1 + 1) % 3 = 0)), Value.int .i64 ((kk : Int) + 1 + 1 + 1 + 1), Value.int .i64 ((kk : Int) + 1 + 1 + 1 + 1 + 1)] (kType.mark kk x) HF.out HSM.out HNEW.out)
    have HRF := Lib.hid HRS5.out.1
    have HK2 : Hid (k0 + sumL kType.cnt (xs.take (k + 1)) = kk + 1 + 1 + 1 + 1 + 1 + 1) := Lib.hid (by rw [HTK.out, HCX.out]; have := HKK.out; omega)
    have HSET2 : Hid ((mkL kType k0 (xs.take k) ++ xs.drop k).set k (kType.mark kk x) = mkL kType k0 (xs.take (k + 1)) ++ xs.drop (k + 1)) := Lib.hid HSET.out
    go_wp2_with fail
    go_roundw
    case rel => exact ⟨k + 1, vss.set k [Value.int .i64 (kk : Int), Value.string (mt (kk + 1)), Value.int .i64 ((kk : Int) + 1 + 1), Value.bool (decide (((kk : Int) + 1 + 1 + 1) % 3 = 0)), Value.int .i64 ((kk : Int) + 1 + 1 + 1 + 1), Value.int .i64 ((kk : Int) + 1 + 1 + 1 + 1 + 1)], by omega, by go_num, by rw [HK2.out]; go_num, HRF, Lib.hid (by rw [← HSET2.out]; exact HOWF.out), HWF⟩
    case measure => simp [intOf]; omega


end Go.Proofs.Ytmlnecopbncdbaa
