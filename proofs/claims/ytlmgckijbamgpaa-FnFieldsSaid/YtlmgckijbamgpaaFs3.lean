/- The bytes of fields: the program's walks. -/
import Derived.Test.YtlmgckijbamgpaaFs2
import Derived.Laws.OwnMore
namespace Go.Proofs.Ytlmgckijbamgpaa
set_option linter.unusedVariables false
set_option linter.unusedSimpArgs false
open Go.ChangeShapes Go.WideShapes Go.ChangeAt Go.RowKit
open Go.Lib
set_option maxRecDepth 100000

theorem wr_heap {S : Nat → Prop} {wx wy : World} (h : Wrote S wx wy) {X : Nat} {o : Obj} (hX : wx.heap[X]? = some o) (hS : ¬ S X) : wy.heap[X]? = some o := (h.block X (Array.getElem?_eq_some_iff.1 hX).1 hS).trans hX
theorem c4 {wx : World} {X : Nat} {a b c d : Value} {T : TypeId} (h : wx.heap[X]? = some (.cells #[a, b, c, d] T)) : wx.cell? ⟨X, 0, none⟩ = some a ∧ wx.cell? ⟨X, 1, none⟩ = some b ∧ wx.cell? ⟨X, 2, none⟩ = some c ∧ wx.cell? ⟨X, 3, none⟩ = some d := by
  simp [World.cell?, h]
def PutF (base : Nat) (xs : List UInt8) (w : World) (e : Ending) (w' : World) : Prop :=
  ∃ v', e = .returned v' ∧ w'.ownsRow base 5 1 v' xs.length (byts xs) ∧ Below base w w'
theorem ok_kind {f : Fld} (h : okF f = true) : 0 ≤ 8 * f.no + f.kind ∧ 8 * f.no + f.kind ≤ 300 := by
  have := okF_iff.1 h
  rcases this.2 with h2 | h2 <;> omega
set_option maxHeartbeats 1000000 in
theorem impl_fieldBytes (base : Nat) (v : Value) (xs : List UInt8) (f : Fld) (w : World) (ho : w.ownsRow base 5 1 v xs.length (byts xs)) (hb : base ≤ w.heap.size) (hx : xs.length ≤ 1000000) (hok : okF f = true) (hd : f.data.size ≤ 40000) :
    Calls Try.prog 126 #[v, .agg #[.int .i64 f.no, .int .i64 f.kind, .int .i64 f.num, .string f.data]] w (PutF base (xs ++ fieldB f) w) := by
  obtain ⟨i0, hJ, hz0, hz1, hz2⟩ := info_parts Try.infoU8V
  have hnk := ok_kind hok
  have hfo := okF_iff.1 hok
  have HFB : Hid (fieldB f = vb (8 * f.no + f.kind).toNat ++ (if f.kind = 0 then vb (foldI f.num).toNat else vb f.data.size ++ f.data.data.toList)) := Lib.hid rfl
  generalize fieldB f = fb at *
  obtain ⟨no, kd, nm, dt⟩ := f
  simp only at hnk hfo hd HFB
  have HV1 := Lib.hid (vintI base (8 * no + kd) v xs (w.alloc (.cells #[.int .i64 no, .int .i64 kd, .int .i64 nm, .string dt] 57)) (ho.alloc _) (Nat.le_trans hb (by simp)) (by omega) (by omega) (by omega))
  have HHX := Lib.hid (heap_alloc_new w (.cells #[.int .i64 no, .int .i64 kd, .int .i64 nm, .string dt] 57))
  have HB0 := Lib.hid ((Below.refl base w).alloc hb (.cells #[.int .i64 no, .int .i64 kd, .int .i64 nm, .string dt] 57))
  have hvX : ∀ k, v.ownBlock = some k → k < w.heap.size := fun k hk => (ho.lt k hk).2
  have h1 : (vb (8 * no + kd).toNat).length ≤ 6 := (vbF_len 5 _).2
  have hno := hfo.1
  have hkd : 0 ≤ kd ∧ kd ≤ 2 := by omega
  clear ho hok
  unfold PutF
  obtain ⟨w0, hw0⟩ : ∃ z, z = w.alloc (.cells #[.int .i64 no, .int .i64 kd, .int .i64 nm, .string dt] 57) := ⟨_, rfl⟩
  rw [← hw0] at HV1 HHX HB0
  obtain ⟨d0, d1, d2, d3⟩ := c4 HHX.out
  have hX := (Array.getElem?_eq_some_iff.1 HHX.out).1
  have hw0' := hw0.symm
  clear hw0
  by_cases h0 : kd = 0
  · have hk0 : (kd == 0) = true := by rw [h0]; rfl
    have hn := hfo.2.resolve_right (by omega)
    have hfo2 := fold_bd nm hn.2.1.1 hn.2.1.2
    have HF := Lib.hid (fun wx => impl_fold nm wx (by omega))
    have hfe := HFB.out
    rw [if_pos h0] at hfe
    have HFE := Lib.hid hfe
    clear hfe HFB h0 hn hfo
    generalize vb (8 * no + kd).toNat = x at *
    generalize foldI nm = fi at *
    go_enter Try.func126, Try.ntmps126
    go_wp2_with fail
    refine HV1.out.mono ?_
    rintro e w1 ⟨v1, rfl, ho1, hb1, hg1⟩
    have hX1 : ¬ v.ownBlock = some w.heap.size := fun e => by have := hvX _ e; omega
    obtain ⟨e0, e1, e2, e3⟩ := c4 (wr_heap hg1.1 HHX.out hX1)
    obtain ⟨y1, hy1⟩ : ∃ z, z = xs ++ x := ⟨_, rfl⟩
    rw [← hy1] at ho1
    have HY1 := Lib.hid hy1
    have hl1 : y1.length ≤ 1000006 := by rw [hy1, List.length_append]; omega
    have HO1 := Lib.hid ho1
    have HB1 := Lib.hid (HB0.out.trans hb1)
    clear ho1 hb1 hg1 hX1 hy1
    obtain ⟨a1, p1, rfl⟩ := form_of_own HO1.out
    go_wp2_with fail
    refine (HF.out _).mono ?_
    rintro e w' ⟨rfl, rfl⟩
    have HV2 := Lib.hid (vintI base fi _ y1 _ HO1.out (Nat.le_trans hb HB1.out.size) (by omega) (by omega) (by omega))
    go_wp2_with fail
    refine HV2.out.mono ?_
    rintro e w2 ⟨v2, rfl, ho2, hb2, _⟩
    obtain ⟨y2, hy2⟩ : ∃ z, z = y1 ++ vb fi.toNat := ⟨_, rfl⟩
    rw [← hy2] at ho2
    have HY2 := Lib.hid hy2
    have HO2 := Lib.hid ho2
    have HB2 := Lib.hid (HB1.out.trans hb2)
    clear ho2 hb2 hy2
    obtain ⟨a2, p2, rfl⟩ := form_of_own HO2.out
    go_wp2_with fail
    go_ret
    refine ⟨_, rfl, ?_, HB2.out⟩
    rw [HFE.out, ← List.append_assoc, ← HY1.out, ← HY2.out]; exact HO2.out
  · have hk0 := kind_eq h0
    have hfe := HFB.out
    rw [if_neg h0] at hfe
    have HFE := Lib.hid hfe
    have h2 : (vb dt.size).length ≤ 6 := (vbF_len 5 _).2
    clear hfe HFB h0 hfo
    generalize vb (8 * no + kd).toNat = x at *
    go_enter Try.func126, Try.ntmps126
    go_wp2_with fail
    refine HV1.out.mono ?_
    rintro e w1 ⟨v1, rfl, ho1, hb1, hg1⟩
    have hX1 : ¬ v.ownBlock = some w.heap.size := fun e => by have := hvX _ e; omega
    have HX1 := Lib.hid (wr_heap hg1.1 HHX.out hX1)
    have hv1X : v1.ownBlock ≠ some w.heap.size := fun e => by
      rcases hg1.2 _ e with h | h
      · exact hX1 h
      · omega
    obtain ⟨e0, e1, e2, e3⟩ := c4 HX1.out
    obtain ⟨y1, hy1⟩ : ∃ z, z = xs ++ x := ⟨_, rfl⟩
    rw [← hy1] at ho1
    have HY1 := Lib.hid hy1
    have hl1 : y1.length ≤ 1000006 := by rw [hy1, List.length_append]; omega
    have HO1 := Lib.hid ho1
    have HB1 := Lib.hid (HB0.out.trans hb1)
    clear ho1 hb1 hg1 hX1 hy1
    obtain ⟨a1, p1, rfl⟩ := form_of_own HO1.out
    have HV2 := Lib.hid (vintI base (dt.size : Int) _ y1 w1.drew (own_later HO1.out (Below.refl _ _).drew) (Nat.le_trans hb HB1.out.size) (by omega) (by omega) (by omega))
    rw [show ((dt.size : Nat) : Int).toNat = dt.size by omega] at HV2
    go_wp2_with fail
    refine wp_region_G [7] (fun w' => w'.cell? ⟨w.heap.size, 3, none⟩ = some (.string dt)) (by kernel_rfl) ?_ (fun hHeld => ?_)
    · exact e3
    refine wpG_pure (i := 0) (oi := { dst := some 21, op := Go.Op.move (Go.Operand.tmp 0), type := 38, pos := "l1_wire.go:119", after := #[], guard := none }) (v := ?vg1) rfl (by kernel_rfl) (fun _ _ _ h => h) (Or.inr hHeld) (Or.inl ⟨by rfl, ?yg1⟩) ?_
    case yg1 => (intro wS _; go_simp <;> with_reducible rfl)
    try simp only [Act.put, List.setIfInBounds_toArray, List.set_cons_zero, List.set_cons_succ]
    refine wpG_pure (i := 1) (oi := { dst := some 22, op := Go.Op.fieldAddr 57 (Go.Operand.tmp 3) 3, type := 0, pos := "l1_wire.go:119", after := #[], guard := none }) (v := ?vg2) rfl (by kernel_rfl) (fun _ _ _ h => h) (Or.inr hHeld) (Or.inl ⟨by rfl, ?yg2⟩) ?_
    case yg2 => (intro wS _; go_simp <;> with_reducible rfl)
    try simp only [Act.put, List.setIfInBounds_toArray, List.set_cons_zero, List.set_cons_succ]
    refine wpG_load (i := 2) (oi := { dst := some 23, op := Go.Op.load 9 (Go.Operand.tmp 22), type := 9, pos := "l1_wire.go:119", after := #[{ on := 1, ground := Go.Ground.data }], guard := none }) (v := ?vg3) [[7, 4, 3, 2]] rfl (by kernel_rfl) (fun _ _ _ h => h) hHeld (Or.inl ⟨by rfl, ?yg3⟩) ?_
    case yg3 => (intro wS hSw; (try dsimp only at hSw); go_simp <;> with_reducible rfl)
    try simp only [Act.put, List.setIfInBounds_toArray, List.set_cons_zero, List.set_cons_succ]
    refine wpG_pure (i := 3) (oi := { dst := some 24, op := Go.Op.call { callee := Go.Callee.builtin Go.Builtin.len, args := #[Go.Operand.tmp 23], argTypes := #[9] }, type := 3, pos := "l1_wire.go:119", after := #[{ on := 2, ground := Go.Ground.data }], guard := none }) (v := ?vg4) rfl (by kernel_rfl) (fun _ _ _ h => h) (Or.inr hHeld) (Or.inl ⟨by rfl, ?yg4⟩) ?_
    case yg4 => (intro wS _; go_simp <;> with_reducible rfl)
    try simp only [Act.put, List.setIfInBounds_toArray, List.set_cons_zero, List.set_cons_succ]
    refine wpG_pure (i := 5) (oi := { dst := some 26, op := Go.Op.fieldAddr 57 (Go.Operand.tmp 3) 3, type := 0, pos := "l1_wire.go:119", after := #[], guard := none }) (v := ?vg5) rfl (by kernel_rfl) (fun _ _ _ h => h) (Or.inr hHeld) (Or.inl ⟨by rfl, ?yg5⟩) ?_
    case yg5 => (intro wS _; go_simp <;> with_reducible rfl)
    try simp only [Act.put, List.setIfInBounds_toArray, List.set_cons_zero, List.set_cons_succ]
    refine wpG_load (i := 6) (oi := { dst := some 27, op := Go.Op.load 9 (Go.Operand.tmp 26), type := 9, pos := "l1_wire.go:119", after := #[{ on := 5, ground := Go.Ground.data }], guard := none }) (v := ?vg6) [[7, 6]] rfl (by kernel_rfl) (fun _ _ _ h => h) hHeld (Or.inl ⟨by rfl, ?yg6⟩) ?_
    case yg6 => (intro wS hSw; (try dsimp only at hSw); go_simp <;> with_reducible rfl)
    try simp only [Act.put, List.setIfInBounds_toArray, List.set_cons_zero, List.set_cons_succ]
    refine wpG_one (i := 4) (o := { dst := some 25, op := Go.Op.call { callee := Go.Callee.value (Go.Operand.func 67), args := #[Go.Operand.tmp 21, Go.Operand.tmp 24], argTypes := #[38, 3] }, type := 38, pos := "l1_wire.go:119", after := #[{ on := 0, ground := Go.Ground.data }, { on := 3, ground := Go.Ground.data }], guard := none }) rfl (by kernel_rfl) (fun K hK => ?_)
    go_simp
    refine HV2.out.mono ?_
    rintro e w2 ⟨v2, rfl, ho2, hb2, hg2⟩
    have HX2 := Lib.hid (wr_heap hg2.1 (show w1.drew.heap[w.heap.size]? = _ from HX1.out) hv1X)
    obtain ⟨y2, hy2⟩ : ∃ z, z = y1 ++ vb dt.size := ⟨_, rfl⟩
    rw [← hy2] at ho2
    have HY2 := Lib.hid hy2
    have hl2 : y2.length ≤ 1000012 := by rw [hy2, List.length_append]; omega
    have HO2 := Lib.hid ho2
    have HB2 := Lib.hid (HB1.out.trans (show Below base w1 w2 from ((Below.refl base w1).drew).trans hb2))
    clear ho2 hb2 hg2 hy2
    obtain ⟨a2, p2, rfl⟩ := form_of_own HO2.out
    refine hK.out _ _ (Or.inr ?khHeld7) (fun hHeld7S => ?_)
    case khHeld7 => exact (c4 HX2.out).2.2.2
    have hHeld7 := hHeld7S.held (by kernel_rfl)
    clear hK K
    try simp only [Act.put, List.setIfInBounds_toArray, List.set_cons_zero, List.set_cons_succ]
    refine wpG_one (i := 7) (o := { dst := some 28, op := Go.Op.call { callee := Go.Callee.builtin Go.Builtin.append, args := #[Go.Operand.tmp 25, Go.Operand.tmp 27], argTypes := #[38, 9] }, type := 38, pos := "l1_wire.go:119", after := #[{ on := 4, ground := Go.Ground.data }, { on := 6, ground := Go.Ground.data }, { on := 4, ground := Go.Ground.chain }], guard := none }) rfl (by kernel_rfl) (fun K hK => ?_)
    refine step_append_str rfl _ _ 38 9 rfl base 5 i0 Try.underlying38 Try.underlying9 hJ hz0 hz1 hz2 _ _ _ rfl HO2.out dt rfl (by unfold maxLen; omega) (by omega) (Nat.le_trans hb HB2.out.size) ?_
    intro v3 w3 hown hgrow
    have HO3 := Lib.hid hown
    have HB3 := Lib.hid (Below.grown HB2.out hgrow (Nat.le_trans hb HB2.out.size) (fun q hq => (HO2.out.lt q hq).1))
    clear hown hgrow
    obtain ⟨a3, p3, rfl⟩ := form_of_own HO3.out
    refine hK.out _ _ (Or.inl (by kernel_rfl)) (fun _ => ?_)
    clear hK K
    try simp only [Act.put, List.setIfInBounds_toArray, List.set_cons_zero, List.set_cons_succ]
    refine wpG_pure (i := 8) (oi := { dst := some 4, op := Go.Op.assign (Go.Operand.tmp 28), type := 38, pos := "l1_wire.go:119", after := #[{ on := 7, ground := Go.Ground.data }, { on := 7, ground := Go.Ground.chain }, { on := 0, ground := Go.Ground.phase }, { on := 1, ground := Go.Ground.phase }, { on := 2, ground := Go.Ground.phase }, { on := 3, ground := Go.Ground.phase }, { on := 4, ground := Go.Ground.phase }, { on := 5, ground := Go.Ground.phase }, { on := 6, ground := Go.Ground.phase }, { on := 7, ground := Go.Ground.phase }], guard := none }) (v := ?vg9) rfl (by kernel_rfl) (fun _ _ _ h => h) (Or.inl (by kernel_rfl)) (Or.inl ⟨by rfl, ?yg9⟩) ?_
    case yg9 => (intro wS _; go_simp <;> with_reducible rfl)
    try simp only [Act.put, List.setIfInBounds_toArray, List.set_cons_zero, List.set_cons_succ]
    refine wpG_done (by kernel_rfl) ?_
    go_wp2_with fail
    go_ret
    refine ⟨_, rfl, ?_, HB3.out⟩
    have h := HO3.out
    rw [str_byts] at h
    have e1 : byts y2 ++ byts dt.data.toList = byts (xs ++ fb) := by rw [HFE.out, HY2.out, HY1.out]; simp [byts]
    have e2 : y2.length + dt.size = (xs ++ fb).length := by rw [HFE.out, HY2.out, HY1.out]; simp [List.length_append]; omega
    rw [e1] at h
    rw [← e2]; exact h
theorem fieldB_pos (f : Fld) : 1 ≤ (fieldB f).length := by
  unfold fieldB
  have := (vbF_len 5 (8 * f.no + f.kind).toNat).1
  rw [List.length_append, vb]; omega
theorem fieldsB_take (l : List Fld) (k : Nat) : (fieldsB (l.take k)).length ≤ (fieldsB l).length := by
  conv => rhs; rw [← List.take_append_drop k l]
  rw [fieldsB_append, List.length_append]; omega
def resF (l : List Fld) : ByteArray × Bool := if (fieldsB l).length ≤ 400 then (⟨(fieldsB l).toArray⟩, true) else (⟨#[]⟩, false)
set_option maxHeartbeats 2000000 in
theorem impl_fieldsBytes (a : Option Addr) (cap : Nat) (l : List Fld) (w : World) (hrow : Rw w a (fdsV l)) (hl : l.length ≤ 40) (hok : l.all okF = true) (hd : ∀ f ∈ l, f.data.size ≤ 40000) :
    Calls Try.prog 81 #[.slice a l.length cap] w fun e w' => e = .returned (.tuple #[.string (resF l).1, .bool (resF l).2]) ∧ Below w.heap.size w w' := by
  have HROW := Lib.hid hrow; have HOK := Lib.hid hok; have HD := Lib.hid hd
  clear hrow hok hd
  generalize hR : resF l = R
  have HR := Lib.hid hR
  clear hR
  have HO0 := Lib.hid (World.ownsRow_lit (base := w.heap.size) (e := 5) (size := 1) w #[] 0 (Nat.le_refl _) (by decide) rfl)
  have HB0 := Lib.hid ((Below.refl w.heap.size w).alloc (Nat.le_refl _) (.cells #[] 5))
  go_enter Try.func81, Try.ntmps81
  go_wp2_with fail
  generalize w.alloc (.cells #[] 5) = w0 at *
  go_loopw [4, 10] (fun ov iv wr => ∃ (k : Nat) (out : List UInt8) (g cp : Nat), k ≤ l.length ∧ out.length ≤ 400 ∧ iv = .int .i64 (k : Int) ∧ ov = .slice (some ⟨g, 0, none⟩) out.length cp ∧ Hid (out = fieldsB (l.take k)) ∧ Hid (wr.ownsRow w.heap.size 5 1 (.slice (some ⟨g, 0, none⟩) out.length cp) out.length (byts out)) ∧ Hid (Below w.heap.size w wr)) (fun _ iv _ => l.length - (intOf iv).toNat)
  case atStart => exact ⟨0, [], _, 0, by omega, by simp, rfl, rfl, Lib.hid rfl, HO0, HB0⟩
  case round =>
    clear HO0 HB0
    obtain ⟨w1, rfl⟩ : ∃ z : World, z = wr := ⟨_, rfl⟩
    obtain ⟨k, out, g, cp, hk, ho, rfl, rfl, HE, HO, HB⟩ := hrel
    by_cases hlk : k < l.length
    case neg =>
      obtain rfl : k = l.length := by omega
      have he := HE.out
      rw [List.take_length] at he
      have hr := HR.out
      unfold resF at hr
      rw [← he, if_pos ho] at hr
      subst hr
      have hcv := conv_own HO.out rfl
      clear he
      go_wp2_with fail
      go_ret2
      exact ⟨rfl, HB.out⟩
    obtain ⟨f, hf⟩ : ∃ f, l[k]? = some f := ⟨l[k], List.getElem?_eq_getElem hlk⟩
    have hfd := HD.out f (List.mem_of_getElem? hf)
    have hfo := List.all_eq_true.1 HOK.out f (List.mem_of_getElem? hf)
    obtain ⟨b, off, rfl, hbl, hbw, c0, c1, c2, c3⟩ := row4 HROW.out HB.out hf
    have HT := Lib.hid (take_field hf)
    have hlen := fieldsB_take l (k + 1)
    rw [HT.out, ← HE.out] at hlen
    have hpos := fieldB_pos f
    have hbs := HB.out.size
    have HFB := Lib.hid (impl_fieldBytes w.heap.size (.slice (some ⟨g, 0, none⟩) out.length cp) out f (w1.alloc (.cells #[.int .i64 f.no, .int .i64 f.kind, .int .i64 f.num, .string f.data] 57)) (HO.out.alloc _) (Nat.le_trans hbs (by simp)) (by omega) hfo hfd)
    have HB1 := Lib.hid (HB.out.alloc hbs (.cells #[.int .i64 f.no, .int .i64 f.kind, .int .i64 f.num, .string f.data] 57))
    unfold PutF at HFB
    generalize fieldB f = fb at *
    obtain ⟨no, kd, nm, dt⟩ := f
    simp only at c0 c1 c2 c3 hfd HFB HB1
    clear hf hfo
    obtain ⟨out2, ho2⟩ : ∃ z, z = out ++ fb := ⟨_, rfl⟩
    rw [← ho2] at HFB hlen
    have hl2 : 1 ≤ out2.length := by rw [ho2, List.length_append]; omega
    have HE2 : Hid (out2 = fieldsB (l.take (k + 1))) := Lib.hid (by rw [HT.out, ho2, HE.out])
    clear ho2
    go_wp2_with fail
    refine HFB.out.mono ?_
    rintro e w2 ⟨v2, rfl, ho2, hb2⟩
    obtain ⟨g2, p2, rfl, _, _⟩ := ho2.form hl2
    have HO2 := Lib.hid ho2
    have HB2 := Lib.hid (HB1.out.trans hb2)
    clear ho2 hb2
    by_cases hc : out2.length ≤ 400
    · have hci : ¬ (out2.length : Int) > 400 := by omega
      go_wp2_with fail
      go_roundw
      case rel => exact ⟨k + 1, out2, g2, p2, by omega, hc, by go_num, rfl, HE2, HO2, HB2⟩
      case measure => (simp [intOf]; try omega)
    · have hci : (out2.length : Int) > 400 := by omega
      have hr := HR.out
      unfold resF at hr
      rw [if_neg (by omega)] at hr
      subst hr
      go_wp2_with fail
      go_ret2
      exact ⟨rfl, HB2.out⟩
theorem RF_res {l : List Fld} (h : goodFs l = true) : R_FieldsBytes l = resF l := by
  unfold R_FieldsBytes resF
  by_cases hc : (fieldsB l).length ≤ 400
  · rw [if_pos ⟨h, hc⟩, if_pos hc]
  · rw [if_neg (fun x => hc x.2), if_neg hc]
theorem RF_bad {l : List Fld} (h : goodFs l = false) : R_FieldsBytes l = (⟨#[]⟩, false) := by
  unfold R_FieldsBytes
  rw [if_neg (fun x => by rw [h] at x; cases x.1)]
set_option maxHeartbeats 1000000 in
theorem impl_FieldsBytes (a : Option Addr) (cap : Nat) (l : List Fld) (w : World) (hrow : Rw w a (fdsV l)) (hl : l.length ≤ 1048576) (hd : ∀ f ∈ l, f.data.size ≤ 40000) :
    Calls Try.prog 30 #[.slice a l.length cap] w fun e w' => e = .returned (.tuple #[.string (R_FieldsBytes l).1, .bool (R_FieldsBytes l).2]) ∧ Below w.heap.size w w' := by
  have HG := Lib.hid (impl_fieldsOK a cap l hrow hl)
  cases hg : goodFs l with
  | false =>
    rw [hg] at HG
    rw [RF_bad hg]
    go_enter Try.func30, Try.ntmps30
    go_wp2_with fail
    refine HG.out.mono ?_
    rintro e w1 ⟨rfl, hb⟩
    have HB := Lib.hid hb; clear hb
    go_wp2_with fail
    go_ret2
    exact ⟨rfl, HB.out⟩
  | true =>
    rw [hg] at HG
    rw [RF_res hg]
    unfold goodFs at hg
    simp only [Bool.and_eq_true, decide_eq_true_eq] at hg
    have HF := Lib.hid (fun wx (hb : Below w.heap.size w wx) => impl_fieldsBytes a cap l wx (hrow.below hb) hg.1 hg.2 hd)
    generalize resF l = R at *
    clear hg hrow hd
    go_enter Try.func30, Try.ntmps30
    go_wp2_with fail
    refine HG.out.mono ?_
    rintro e w1 ⟨rfl, hb⟩
    have HB := Lib.hid hb; clear hb
    go_wp2_with fail
    refine (HF.out _ HB.out).mono ?_
    rintro e w2 ⟨rfl, hb⟩
    have HB2 := Lib.hid (rstep HB.out hb); clear hb
    go_wp2_with fail
    go_ret2
    exact ⟨rfl, HB2.out⟩
end Go.Proofs.Ytlmgckijbamgpaa
