/- The bytes of fields: the reference's walks. -/
import Derived.Test.YtlmgckijbamgpaaFld1
namespace Go.Proofs.Ytlmgckijbamgpaa
set_option linter.unusedVariables false
set_option linter.unusedSimpArgs false
open Go.ChangeShapes Go.WideShapes Go.ChangeAt Go.RowKit
set_option maxRecDepth 100000

theorem str_app (a b : List UInt8) : (⟨a.toArray⟩ : ByteArray) ++ ⟨b.toArray⟩ = ⟨(a ++ b).toArray⟩ := by
  apply ByteArray.ext; simp
theorem str_data (b : ByteArray) : (⟨b.data.toList.toArray⟩ : ByteArray) = b := by
  apply ByteArray.ext; simp
theorem str_len (a : List UInt8) : (⟨a.toArray⟩ : ByteArray).size = a.length := rfl
theorem fieldsB_most : ∀ (l : List Fld), (∀ f ∈ l, f.data.size ≤ 400) → (fieldsB l).length ≤ l.length * 412
  | [], _ => by simp [fieldsB]
  | f :: r, h => by
    have h1 := fieldB_most f
    have h2 := h f (by simp)
    have h3 := fieldsB_most r fun g hg => h g (by simp [hg])
    rw [fieldsB_cons, List.length_append, List.length_cons]; omega
theorem row4 {w wr : World} {a : Option Addr} {l : List Fld} {k : Nat} {f : Fld} (hrow : Rw w a (fdsV l)) (hB : Below w.heap.size w wr) (hf : l[k]? = some f) :
    ∃ b off, a = some ⟨b, off, none⟩ ∧ b < wr.heap.size ∧ b < w.heap.size ∧ wr.cell? ⟨b, off + k * 4, none⟩ = some (.int .i64 f.no) ∧ wr.cell? ⟨b, off + k * 4 + 1, none⟩ = some (.int .i64 f.kind) ∧ wr.cell? ⟨b, off + k * 4 + 2, none⟩ = some (.int .i64 f.num) ∧ wr.cell? ⟨b, off + k * 4 + 3, none⟩ = some (.string f.data) := by
  have hk : k < l.length := (List.getElem?_eq_some_iff.1 hf).1
  obtain ⟨b, off, rfl, hbl, hc⟩ := hrow.at (fdsV_ne hk)
  obtain ⟨e0, e1, e2, e3⟩ := fdsV_at l k f hf
  exact ⟨b, off, rfl, Nat.lt_of_lt_of_le hbl hB.size, hbl, (hB.cell (p := ⟨b, _, none⟩) hbl).trans (hc _ _ e0), (hB.cell (p := ⟨b, _, none⟩) hbl).trans (hc _ _ e1), (hB.cell (p := ⟨b, _, none⟩) hbl).trans (hc _ _ e2), (hB.cell (p := ⟨b, _, none⟩) hbl).trans (hc _ _ e3)⟩
theorem varintC (n : Int) (h0 : 0 ≤ n) (hn : n < 4398046511104) (w : World) : Calls Try.prog 69 #[.int .i64 n] w fun e w' => e = .returned (.string ⟨(vb n.toNat).toArray⟩) ∧ Below w.heap.size w w' := by
  have := spec_varint n.toNat w (by show n.toNat < 4398046511104; omega)
  rwa [Int.toNat_of_nonneg h0] at this
theorem take_field {l : List Fld} {k : Nat} {f : Fld} (h : l[k]? = some f) : fieldsB (l.take (k + 1)) = fieldsB (l.take k) ++ fieldB f := by
  obtain ⟨hk, rfl⟩ := List.getElem?_eq_some_iff.1 h
  rw [List.take_succ_eq_append_getElem hk, fieldsB_snoc]
set_option maxHeartbeats 4000000 in
theorem spec_fields (a : Option Addr) (cap : Nat) (l : List Fld) (w : World) (hrow : Rw w a (fdsV l)) (hl : l.length ≤ 40) (hok : l.all okF = true) (hd : ∀ f ∈ l, f.data.size ≤ 400) :
    Calls Try.prog 83 #[.slice a l.length cap] w fun e w' => e = .returned (.string ⟨(fieldsB l).toArray⟩) ∧ Below w.heap.size w w' := by
  have HROW := Lib.hid hrow; have HOK := Lib.hid hok; have HD := Lib.hid hd
  clear hrow hok hd
  go_enter Try.func83, Try.ntmps83
  go_wp2_with fail
  go_loopw [3, 8] (fun sv iv wr => ∃ (k : Nat) (out : List UInt8), k ≤ l.length ∧ out.length ≤ k * 412 ∧ iv = .int .i64 (k : Int) ∧ sv = .string ⟨out.toArray⟩ ∧ Hid (out = fieldsB (l.take k)) ∧ Hid (Below w.heap.size w wr)) (fun _ iv _ => l.length - (intOf iv).toNat)
  case atStart => exact ⟨0, [], by omega, by simp, rfl, rfl, Lib.hid rfl, Lib.hid (Below.refl _ _)⟩
  case round =>
    obtain ⟨w1, rfl⟩ : ∃ z : World, z = wr := ⟨_, rfl⟩
    obtain ⟨k, out, hk, ho, rfl, rfl, HE, HB⟩ := hrel
    by_cases hlk : k < l.length
    case neg =>
      obtain rfl : k = l.length := by omega
      have he := HE.out
      rw [List.take_length] at he
      subst he
      go_wp2_with fail
      go_ret
      exact ⟨rfl, HB.out⟩
    obtain ⟨f, hf⟩ : ∃ f, l[k]? = some f := ⟨l[k], List.getElem?_eq_getElem hlk⟩
    have hfd := HD.out f (List.mem_of_getElem? hf)
    have hfo := okF_iff.1 (List.all_eq_true.1 HOK.out f (List.mem_of_getElem? hf))
    obtain ⟨b, off, rfl, hbl, hbw, c0, c1, c2, c3⟩ := row4 HROW.out HB.out hf
    have HT := Lib.hid (take_field hf)
    have hfb := fieldB_most f
    have HFB : Hid (fieldB f = vb (8 * f.no + f.kind).toNat ++ (if f.kind = 0 then vb (foldI f.num).toNat else vb f.data.size ++ f.data.data.toList)) := Lib.hid rfl
    generalize fieldB f = fb at *
    obtain ⟨no, kd, nm, dt⟩ := f
    simp only at c0 c1 c2 c3 hfd hfo HFB hfb
    have HV1 := Lib.hid (fun wx => varintC (8 * no + kd) (by omega) (by omega) wx)
    have h1 := (vbF_len 5 (8 * no + kd).toNat).2
    have h1' : (vb (8 * no + kd).toNat).length ≤ 6 := h1
    clear h1 hf
    have HBX := Lib.hid (box_start w1 (.cells #[.int .i64 no, .int .i64 kd, .int .i64 nm, .string dt] 57))
    have hno := hfo.1
    have hkd : 0 ≤ kd ∧ kd ≤ 2 := by omega
    by_cases h0 : kd = 0
    · have hk0 : (kd == 0) = true := by rw [h0]; rfl
      have hn := hfo.2.resolve_right (by omega)
      have hfo2 := fold_bd nm hn.2.1.1 hn.2.1.2
      have HF := Lib.hid (fun wx => spec_fold nm wx (by omega))
      have HV2 := Lib.hid (fun wx => varintC (foldI nm) (by omega) (by omega) wx)
      have h2 : (vb (foldI nm).toNat).length ≤ 6 := (vbF_len 5 (foldI nm).toNat).2
      have hfe := HFB.out
      rw [if_pos h0] at hfe
      have HFE := Lib.hid hfe
      have hn1 := hn.2.1
      clear hfe HFB h0 hn hfo
      generalize vb (foldI nm).toNat = y at *
      generalize vb (8 * no + kd).toNat = x at *
      generalize foldI nm = fi at *
      have hsx : (⟨x.toArray⟩ : ByteArray).size = x.length := rfl
      have hsy : (⟨y.toArray⟩ : ByteArray).size = y.length := rfl
      have hso : (⟨out.toArray⟩ : ByteArray).size = out.length := rfl
      have hse : ((⟨out.toArray⟩ : ByteArray) ++ ⟨x.toArray⟩).size = out.length + x.length := by rw [str_app]; simp [ByteArray.size]
      go_wp2_with fail
      refine (HV1.out _).mono ?_
      rintro e w2 ⟨rfl, hb⟩
      have HB2 := Lib.hid (box_step HBX.out hb)
      clear hb
      have d1 : w2.cell? ⟨w1.heap.size, 1, none⟩ = some (.int .i64 kd) := box_cell HB2.out 1
      have d2 : w2.cell? ⟨w1.heap.size, 2, none⟩ = some (.int .i64 nm) := box_cell HB2.out 2
      go_wp2_with fail
      refine (HF.out _).mono ?_
      rintro e w3 ⟨rfl, rfl⟩
      go_wp2_with fail
      refine (HV2.out _).mono ?_
      rintro e w3 ⟨rfl, hb⟩
      have HB3 := Lib.hid (box_step HB2.out hb)
      clear hb d1 d2
      have HAP : Hid ((⟨out.toArray⟩ : ByteArray) ++ ⟨x.toArray⟩ ++ ⟨y.toArray⟩ = ⟨(out ++ (x ++ y)).toArray⟩) := Lib.hid (by rw [str_app, str_app, List.append_assoc])
      go_wp2_with fail
      go_roundw
      case rel => exact ⟨k + 1, out ++ fb, by omega, by rw [List.length_append]; omega, by go_num, by rw [HAP.out, HFE.out], Lib.hid (by rw [HT.out, HE.out]), Lib.hid (rstep HB.out (box_below HB3.out))⟩
      case measure => (simp [intOf]; try omega)
    · have hn := hfo.2.resolve_left (by omega)
      have hk0 := kind_eq h0
      have HV2 := Lib.hid (fun wx => varintC (dt.size : Int) (by omega) (by omega) wx)
      have h2 : (vb dt.size).length ≤ 6 := (vbF_len 5 dt.size).2
      have hfe := HFB.out
      rw [if_neg h0] at hfe
      have HFE := Lib.hid hfe
      clear hfe HFB hfo hn h0
      rw [show ((dt.size : Nat) : Int).toNat = dt.size by omega] at HV2
      generalize vb dt.size = y at *
      generalize vb (8 * no + kd).toNat = x at *
      have hsx : (⟨x.toArray⟩ : ByteArray).size = x.length := rfl
      have hsy : (⟨y.toArray⟩ : ByteArray).size = y.length := rfl
      have hso : (⟨out.toArray⟩ : ByteArray).size = out.length := rfl
      have hse : ((⟨out.toArray⟩ : ByteArray) ++ ⟨x.toArray⟩).size = out.length + x.length := by rw [str_app]; simp [ByteArray.size]
      have hsd : ((⟨y.toArray⟩ : ByteArray) ++ dt).size = y.length + dt.size := by rw [ByteArray.size_append, hsy]
      go_wp2_with fail
      refine (HV1.out _).mono ?_
      rintro e w2 ⟨rfl, hb⟩
      have HB2 := Lib.hid (box_step HBX.out hb)
      clear hb
      have d1 : w2.cell? ⟨w1.heap.size, 1, none⟩ = some (.int .i64 kd) := box_cell HB2.out 1
      have d3 : w2.cell? ⟨w1.heap.size, 3, none⟩ = some (.string dt) := box_cell HB2.out 3
      have HAP : Hid ((⟨out.toArray⟩ : ByteArray) ++ ⟨x.toArray⟩ ++ (⟨y.toArray⟩ ++ dt) = ⟨(out ++ (x ++ (y ++ dt.data.toList))).toArray⟩) := Lib.hid (by
        have e := str_app y dt.data.toList
        rw [str_data] at e
        rw [e, str_app, str_app, List.append_assoc])
      have q1 : ¬ 9223372036854775807 < y.length + dt.size := by omega
      have q2 : ¬ 9223372036854775807 < out.length + x.length + (y.length + dt.size) := by omega
      go_wp2_with fail
      refine wp_region_G [] (fun w' => w'.cell? ⟨w1.heap.size, 3, none⟩ = some (.string dt)) (by kernel_rfl) ?_ (fun hHeld => ?_)
      · exact d3
      refine wpG_pure (i := 0) (oi := { dst := some 30, op := Go.Op.move (Go.Operand.tmp 3), type := 9, pos := "l1_wire.go:210", after := #[], guard := none }) (v := ?vg1) rfl (by kernel_rfl) (fun _ _ _ h => h) (Or.inr hHeld) (Or.inl ⟨by rfl, ?yg1⟩) ?_
      case yg1 => (intro wS _; go_simp <;> with_reducible rfl)
      try simp only [Act.put, List.setIfInBounds_toArray, List.set_cons_zero, List.set_cons_succ]
      refine wpG_pure (i := 1) (oi := { dst := some 31, op := Go.Op.fieldAddr 57 (Go.Operand.tmp 5) 3, type := 0, pos := "l1_wire.go:210", after := #[], guard := none }) (v := ?vg2) rfl (by kernel_rfl) (fun _ _ _ h => h) (Or.inr hHeld) (Or.inl ⟨by rfl, ?yg2⟩) ?_
      case yg2 => (intro wS _; go_simp <;> with_reducible rfl)
      try simp only [Act.put, List.setIfInBounds_toArray, List.set_cons_zero, List.set_cons_succ]
      refine wpG_load (i := 2) (oi := { dst := some 32, op := Go.Op.load 9 (Go.Operand.tmp 31), type := 9, pos := "l1_wire.go:210", after := #[{ on := 1, ground := Go.Ground.data }], guard := none }) (v := ?vg3) [] rfl (by kernel_rfl) (fun _ _ _ h => h) hHeld (Or.inl ⟨by rfl, ?yg3⟩) ?_
      case yg3 => (intro wS hSw; (try dsimp only at hSw); go_simp <;> with_reducible rfl)
      try simp only [Act.put, List.setIfInBounds_toArray, List.set_cons_zero, List.set_cons_succ]
      refine wpG_pure (i := 3) (oi := { dst := some 33, op := Go.Op.call { callee := Go.Callee.builtin Go.Builtin.len, args := #[Go.Operand.tmp 32], argTypes := #[9] }, type := 3, pos := "l1_wire.go:210", after := #[{ on := 2, ground := Go.Ground.data }], guard := none }) (v := ?vg4) rfl (by kernel_rfl) (fun _ _ _ h => h) (Or.inr hHeld) (Or.inl ⟨by rfl, ?yg4⟩) ?_
      case yg4 => (intro wS _; go_simp <;> with_reducible rfl)
      try simp only [Act.put, List.setIfInBounds_toArray, List.set_cons_zero, List.set_cons_succ]
      refine wpG_pure (i := 5) (oi := { dst := some 35, op := Go.Op.fieldAddr 57 (Go.Operand.tmp 5) 3, type := 0, pos := "l1_wire.go:210", after := #[], guard := none }) (v := ?vg5) rfl (by kernel_rfl) (fun _ _ _ h => h) (Or.inr hHeld) (Or.inl ⟨by rfl, ?yg5⟩) ?_
      case yg5 => (intro wS _; go_simp <;> with_reducible rfl)
      try simp only [Act.put, List.setIfInBounds_toArray, List.set_cons_zero, List.set_cons_succ]
      refine wpG_load (i := 6) (oi := { dst := some 36, op := Go.Op.load 9 (Go.Operand.tmp 35), type := 9, pos := "l1_wire.go:210", after := #[{ on := 5, ground := Go.Ground.data }], guard := none }) (v := ?vg6) [] rfl (by kernel_rfl) (fun _ _ _ h => h) hHeld (Or.inl ⟨by rfl, ?yg6⟩) ?_
      case yg6 => (intro wS hSw; (try dsimp only at hSw); go_simp <;> with_reducible rfl)
      try simp only [Act.put, List.setIfInBounds_toArray, List.set_cons_zero, List.set_cons_succ]
      refine wpG_one (i := 4) (o := { dst := some 34, op := Go.Op.call { callee := Go.Callee.value (Go.Operand.func 69), args := #[Go.Operand.tmp 33], argTypes := #[3] }, type := 9, pos := "l1_wire.go:210", after := #[{ on := 3, ground := Go.Ground.data }], guard := none }) rfl (by kernel_rfl) (fun K hK => ?_)
      go_simp
      refine (HV2.out _).mono ?_
      rintro e w3 ⟨rfl, hb⟩
      have HB3 := Lib.hid (box_step (HB2.out.trans (below_drewN (Below.refl _ w2) 1)) hb)
      clear hb
      refine hK.out _ _ (Or.inr ?khHeld7) (fun hHeld7S => ?_)
      case khHeld7 => exact box_cell HB3.out 3
      have hHeld7 := hHeld7S.held (by kernel_rfl)
      clear hK K
      try simp only [Act.put, List.setIfInBounds_toArray, List.set_cons_zero, List.set_cons_succ]
      refine wpG_pure (i := 7) (oi := { dst := some 37, op := Go.Op.binOp Go.BinOp.add 9 (Go.Operand.tmp 34) (Go.Operand.tmp 36) 9, type := 9, pos := "l1_wire.go:210", after := #[{ on := 4, ground := Go.Ground.data }, { on := 6, ground := Go.Ground.data }], guard := none }) (v := ?vg8) rfl (by kernel_rfl) (fun _ _ _ h => h) (Or.inr hHeld7) (Or.inl ⟨by rfl, ?yg8⟩) ?_
      case yg8 => (intro wS _; go_simp <;> with_reducible rfl)
      try simp only [Act.put, List.setIfInBounds_toArray, List.set_cons_zero, List.set_cons_succ]
      refine wpG_pure (i := 8) (oi := { dst := some 38, op := Go.Op.binOp Go.BinOp.add 9 (Go.Operand.tmp 30) (Go.Operand.tmp 37) 9, type := 9, pos := "l1_wire.go:210", after := #[{ on := 0, ground := Go.Ground.data }, { on := 7, ground := Go.Ground.data }], guard := none }) (v := ?vg9) rfl (by kernel_rfl) (fun _ _ _ h => h) (Or.inr hHeld7) (Or.inl ⟨by rfl, ?yg9⟩) ?_
      case yg9 => (intro wS _; go_simp <;> with_reducible rfl)
      try simp only [Act.put, List.setIfInBounds_toArray, List.set_cons_zero, List.set_cons_succ]
      refine wpG_pure (i := 9) (oi := { dst := some 3, op := Go.Op.assign (Go.Operand.tmp 38), type := 9, pos := "l1_wire.go:210", after := #[{ on := 8, ground := Go.Ground.data }, { on := 4, ground := Go.Ground.chain }, { on := 0, ground := Go.Ground.phase }, { on := 1, ground := Go.Ground.phase }, { on := 2, ground := Go.Ground.phase }, { on := 3, ground := Go.Ground.phase }, { on := 4, ground := Go.Ground.phase }, { on := 5, ground := Go.Ground.phase }, { on := 6, ground := Go.Ground.phase }, { on := 7, ground := Go.Ground.phase }, { on := 8, ground := Go.Ground.phase }], guard := none }) (v := ?vg10) rfl (by kernel_rfl) (fun _ _ _ h => h) (Or.inr hHeld7) (Or.inl ⟨by rfl, ?yg10⟩) ?_
      case yg10 => (intro wS _; go_simp <;> with_reducible rfl)
      try simp only [Act.put, List.setIfInBounds_toArray, List.set_cons_zero, List.set_cons_succ]
      refine wpG_done (by kernel_rfl) ?_
      go_wp2_with fail
      go_roundw
      case rel => exact ⟨k + 1, out ++ fb, by omega, by rw [List.length_append]; omega, by go_num, by rw [HAP.out, HFE.out], Lib.hid (by rw [HT.out, HE.out]), Lib.hid (rstep HB.out (box_below HB3.out))⟩
      case measure => (simp [intOf]; try omega)
end Go.Proofs.Ytlmgckijbamgpaa
