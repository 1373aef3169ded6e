/- The bytes of fields, where all are good: the reference's walk. -/
import Derived.Test.YtlmgckijbamgpaaFld2
namespace Go.Proofs.Ytlmgckijbamgpaa
set_option linter.unusedVariables false
set_option linter.unusedSimpArgs false
open Go.ChangeShapes Go.WideShapes Go.ChangeAt Go.RowKit
set_option maxRecDepth 100000

def okD (f : Fld) : Bool := okF f && decide (f.data.size ≤ 400)
theorem all_next {α : Type} {p : α → Bool} {l : List α} {k : Nat} {x : α} (h : (l.take k).all p = true) (hx : l[k]? = some x) (hp : p x = true) : (l.take (k + 1)).all p = true := by
  obtain ⟨hk, rfl⟩ := List.getElem?_eq_some_iff.1 hx
  rw [List.take_succ_eq_append_getElem hk, List.all_append, h]; simp [hp]
theorem RF_no {l : List Fld} {f : Fld} (hf : f ∈ l) (h : okF f = false ∨ 400 < f.data.size) : R_FieldsBytes l = (⟨#[]⟩, false) := by
  unfold R_FieldsBytes
  rw [if_neg]
  rintro ⟨h1, h2⟩
  unfold goodFs at h1
  simp only [Bool.and_eq_true, decide_eq_true_eq, List.all_eq_true] at h1
  have ho := h1.2 f hf
  rcases h with h | h
  · rw [h] at ho; cases ho
  · have h3 := fieldsB_mem hf
    rcases fieldB_len f with h4 | h4
    · rcases (okF_iff.1 ho).2 with h5 | h5
      · omega
      · omega
    · omega
theorem RF_long {l : List Fld} (h : 40 < l.length) : R_FieldsBytes l = (⟨#[]⟩, false) := by
  unfold R_FieldsBytes
  rw [if_neg]
  rintro ⟨h1, _⟩
  unfold goodFs at h1
  simp only [Bool.and_eq_true, decide_eq_true_eq] at h1
  omega
theorem RF_all {l : List Fld} (h : l.all okD = true) (hl : l.length ≤ 40) : R_FieldsBytes l = if (fieldsB l).length ≤ 400 then (⟨(fieldsB l).toArray⟩, true) else (⟨#[]⟩, false) := by
  unfold R_FieldsBytes
  have hg : goodFs l = true := by
    unfold goodFs
    rw [List.all_eq_true] at h
    simp only [Bool.and_eq_true, decide_eq_true_eq, List.all_eq_true]
    exact ⟨hl, fun f hf => by have := h f hf; unfold okD at this; simp at this; exact this.1⟩
  by_cases hc : (fieldsB l).length ≤ 400
  · rw [if_pos ⟨hg, hc⟩, if_pos hc]
  · rw [if_neg (fun h => hc h.2), if_neg hc]
set_option maxHeartbeats 2000000 in
theorem spec_FieldsBytes (a : Option Addr) (cap : Nat) (l : List Fld) (w : World) (hrow : Rw w a (fdsV l)) (hl : l.length ≤ 1048576) :
    Calls Try.prog 31 #[.slice a l.length cap] w fun e w' => e = .returned (.tuple #[.string (R_FieldsBytes l).1, .bool (R_FieldsBytes l).2]) ∧ Below w.heap.size w w' := by
  generalize hR : R_FieldsBytes l = R
  have HR := Lib.hid hR
  have HROW := Lib.hid hrow
  clear hrow hR
  go_enter Try.func31, Try.ntmps31
  go_wp2_with fail
  go_loopw [9] (fun iv wr => ∃ (k : Nat), k ≤ l.length ∧ iv = .int .i64 (k : Int) ∧ Hid ((l.take k).all okD = true) ∧ Hid (Below w.heap.size w wr)) (fun iv _ => l.length - (intOf iv).toNat)
  case atStart => exact ⟨0, by omega, rfl, Lib.hid rfl, Lib.hid (Below.refl _ _)⟩
  case round =>
    obtain ⟨w1, rfl⟩ : ∃ z : World, z = wr := ⟨_, rfl⟩
    obtain ⟨k, hk, rfl, HA, HB⟩ := hrel
    by_cases hlk : k < l.length
    case neg =>
      obtain rfl : k = l.length := by omega
      have ha := HA.out
      rw [List.take_length] at ha
      by_cases hl4 : 40 < l.length
      · have hr := HR.out
        rw [RF_long hl4] at hr
        subst hr
        clear ha
        go_wp2_with fail
        go_ret2
        exact ⟨rfl, HB.out⟩
      · have hd : Hid (∀ f ∈ l, f.data.size ≤ 400) := Lib.hid fun f hf => by have := List.all_eq_true.1 ha f hf; unfold okD at this; simp at this; exact this.2
        have ho : Hid (l.all okF = true) := Lib.hid (List.all_eq_true.2 fun f hf => by have := List.all_eq_true.1 ha f hf; unfold okD at this; simp at this; exact this.1)
        have HS := Lib.hid (spec_fields a cap l w1 (HROW.out.below HB.out) (by omega) ho.out hd.out)
        have hr := HR.out
        rw [RF_all ha (by omega)] at hr
        have HRR := Lib.hid hr
        clear hr HR ha
        generalize fieldsB l = fb at *
        have hsz : (⟨fb.toArray⟩ : ByteArray).size = fb.length := rfl
        by_cases hc : fb.length ≤ 400
        · have hr := HRR.out
          rw [if_pos hc] at hr
          subst hr
          go_wp2_with fail
          refine HS.out.mono ?_
          rintro e w2 ⟨rfl, hb⟩
          have HB2 := Lib.hid (rstep HB.out hb)
          clear hb
          go_wp2_with fail
          go_ret2
          exact ⟨rfl, HB2.out⟩
        · have hr := HRR.out
          rw [if_neg hc] at hr
          subst hr
          have hci : (fb.length : Int) > 400 := by omega
          go_wp2_with fail
          refine HS.out.mono ?_
          rintro e w2 ⟨rfl, hb⟩
          have HB2 := Lib.hid (rstep HB.out hb)
          clear hb
          go_wp2_with fail
          go_ret2
          exact ⟨rfl, HB2.out⟩
    obtain ⟨f, hf⟩ : ∃ f, l[k]? = some f := ⟨l[k], List.getElem?_eq_getElem hlk⟩
    have HNO : Hid (okF f = false ∨ 400 < f.data.size → R = (⟨#[]⟩, false)) := Lib.hid fun h => by rw [← HR.out]; exact RF_no (List.mem_of_getElem? hf) h
    have HYES : Hid (okF f = true → f.data.size ≤ 400 → (l.take (k + 1)).all okD = true) := Lib.hid fun h1 h2 => all_next HA.out hf (by unfold okD; simp [h1, h2])
    obtain ⟨b, off, rfl, hbl, hbw, c0, c1, c2, c3⟩ := row4 HROW.out HB.out hf
    have HOK := Lib.hid (fun wx => spec_field f wx)
    generalize okF f = ok at *
    obtain ⟨no, kd, nm, dt⟩ := f
    simp only at c0 c1 c2 c3 HNO HYES HOK
    have HBX := Lib.hid (box_start w1 (.cells #[.int .i64 no, .int .i64 kd, .int .i64 nm, .string dt] 57))
    clear hf
    cases ok with
    | false =>
      have hr := HNO.out (.inl rfl)
      subst hr
      go_wp2_with fail
      refine (HOK.out _).mono ?_
      rintro e w2 ⟨rfl, hb⟩
      have HB2 := Lib.hid (box_step HBX.out hb)
      clear hb
      go_wp2_with fail
      go_ret2
      exact ⟨rfl, rstep HB.out (box_below HB2.out)⟩
    | true =>
      by_cases hd : dt.size ≤ 400
      · have hdi : ¬ (dt.size : Int) > 400 := by omega
        have HY := Lib.hid (HYES.out rfl hd)
        clear HYES HNO
        go_wp2_with fail
        refine (HOK.out _).mono ?_
        rintro e w2 ⟨rfl, hb⟩
        have HB2 := Lib.hid (box_step HBX.out hb)
        clear hb
        have d3 : w2.cell? ⟨w1.heap.size, 3, none⟩ = some (.string dt) := box_cell HB2.out 3
        go_wp2_with fail
        go_roundw
        case rel => exact ⟨k + 1, by omega, by go_num, HY, Lib.hid (rstep HB.out (box_below HB2.out))⟩
        case measure => (simp [intOf]; try omega)
      · have hdi : (dt.size : Int) > 400 := by omega
        have hr := HNO.out (.inr (by omega))
        subst hr
        clear HYES HNO
        go_wp2_with fail
        refine (HOK.out _).mono ?_
        rintro e w2 ⟨rfl, hb⟩
        have HB2 := Lib.hid (box_step HBX.out hb)
        clear hb
        have d3 : w2.cell? ⟨w1.heap.size, 3, none⟩ = some (.string dt) := box_cell HB2.out 3
        go_wp2_with fail
        go_ret2
        exact ⟨rfl, rstep HB.out (box_below HB2.out)⟩
end Go.Proofs.Ytlmgckijbamgpaa
