/- Fields come back from their bytes, and bytes from their fields: the plain law. No program in sight. -/
import Derived.Test.YtlmgckijbamgpaaFrL
namespace Go.Proofs.Ytlmgckijbamgpaa
set_option linter.unusedVariables false
set_option linter.unusedSimpArgs false
set_option maxRecDepth 100000

theorem vbF_up' : ∀ (f n : Nat), n < 128 ^ (f + 1) → vbF (f + 1) n = vbF f n
  | 0, n, h => by
    have : n < 128 := by simpa using h
    show (if 128 ≤ n then _ else _) = [UInt8.ofNat n]
    rw [if_neg (by omega)]
  | f + 1, n, h => by
    rw [vbF]
    by_cases hc : 128 ≤ n
    · rw [if_pos hc, vbF_up' f (n / 128) (by rw [Nat.pow_succ] at h; omega)]
      conv => rhs; rw [vbF, if_pos hc]
    · rw [if_neg hc]
      conv => rhs; rw [vbF, if_neg hc]
theorem vb_four {n : Nat} (h : n < 34359738368) : vb n = vbF 4 n := vbF_up' 4 n h
theorem tkL {n : Nat} (h : n ≤ 2000000001) (r : List UInt8) : takeF 5 (vb n ++ r) 0 0 = (n, (vb n).length, true) := by
  rw [vb_four (by omega), take_vb 4 5 0 0 n r (by omega) (by show n < 34359738368; omega) (.inr rfl) (by simpa using h)]
  simp
theorem ofNat_u8 (b : UInt8) : UInt8.ofNat b.toNat = b := by simp
theorem take_enc : ∀ (f k m : Nat) (l : List UInt8) (n u : Nat), takeF f l k m = (n, u, true) → ∃ q, n = m + q * 128 ^ k ∧ l = vbF (f - 1) q ++ l.drop (u - k) ∧ k < u ∧ q < 128 ^ f ∧ (0 < q ∨ k = 0)
  | 0, k, m, l, n, u, h => by simp [takeF] at h
  | f + 1, k, m, [], n, u, h => by simp [takeF] at h
  | f + 1, k, m, b :: r, n, u, h => by
    unfold takeF at h
    split at h
    · rename_i hb
      split at h
      · rename_i hc
        simp only [Prod.mk.injEq, and_true] at h
        obtain ⟨rfl, rfl⟩ := h
        refine ⟨b.toNat, by rw [Nat.mod_eq_of_lt hb], ?_, by omega, ?_, hc.2⟩
        · have e : vbF (f + 1 - 1) b.toNat = [b] := by
            rw [Nat.add_sub_cancel]
            cases f with
            | zero => show [UInt8.ofNat b.toNat] = _; rw [ofNat_u8]
            | succ f => rw [vbF, if_neg (by omega), ofNat_u8]
          rw [e, show k + 1 - k = 1 by omega]; rfl
        · exact Nat.lt_of_lt_of_le hb (by rw [Nat.pow_succ]; exact Nat.le_mul_of_pos_left _ (Nat.pow_pos (by decide)))
      · simp at h
    · rename_i hb
      obtain ⟨q, h1, h2, h3, h4, h5⟩ := take_enc f (k + 1) _ r n u h
      have hq : 0 < q := by omega
      have hb2 : b.toNat < 256 := b.toNat_lt
      cases f with
      | zero => simp [takeF] at h
      | succ f =>
        refine ⟨b.toNat % 128 + 128 * q, ?_, ?_, by omega, ?_, .inl (by omega)⟩
        · rw [h1, Nat.pow_succ, Nat.add_mul, show q * (128 ^ k * 128) = 128 * q * 128 ^ k by rw [Nat.mul_comm (128 ^ k), ← Nat.mul_assoc, Nat.mul_comm q], Nat.add_assoc]
        · rw [Nat.add_sub_cancel, vbF, if_pos (by omega)]
          have e1 : (b.toNat % 128 + 128 * q) % 128 + 128 = b.toNat := by omega
          have e2 : (b.toNat % 128 + 128 * q) / 128 = q := by omega
          rw [e1, e2, ofNat_u8, show u - k = (u - (k + 1)) + 1 by omega, List.drop_succ_cons, List.cons_append]
          congr 1
        · rw [Nat.pow_succ]; omega
theorem dropA (s : ByteArray) (a b : Nat) : (s.data.toList.drop a).drop b = s.data.toList.drop (a + b) := by rw [List.drop_drop]
theorem tk_enc {s : ByteArray} {a n u : Nat} (h : tk s a = (n, u, true)) : s.data.toList.drop a = vb n ++ s.data.toList.drop (a + u) := by
  obtain ⟨q, h1, h2, h3, h4, _⟩ := take_enc 5 0 0 _ n u h
  have hq : n = q := by omega
  subst hq
  rw [vb_four (by exact h4), ← dropA]
  exact h2
theorem fold_unfold (n : Nat) : (foldI (unfoldI (n : Int))).toNat = n := by unfold foldI unfoldI; split <;> split <;> omega
theorem ext_list (s : ByteArray) (a b : Nat) (h : a + b ≤ s.size) : (s.extract a (a + b)).data.toList = (s.data.toList.drop a).take b := by
  have : (s.extract a (a + b)).data = s.data.extract a (a + b) := by simp
  rw [this, Array.toList_extract]
  simp [List.extract]
theorem fld_enc {s : ByteArray} {a e : Nat} {f : Fld} (h : fldAt s a = some (f, e)) : s.data.toList.drop a = fieldB f ++ s.data.toList.drop e := by
  cases hb1 : (tk s a).2.2 with
  | false => rw [fldAt_no1 hb1] at h; cases h
  | true =>
    obtain ⟨⟨n1, u1, b1⟩, h1⟩ : ∃ q, tk s a = q := ⟨_, rfl⟩
    rw [h1] at hb1
    simp only at hb1
    subst hb1
    cases hb2 : (tk s (a + u1)).2.2 with
    | false => rw [fldAt_no2 h1 hb2] at h; cases h
    | true =>
      obtain ⟨⟨n2, u2, b2⟩, h2⟩ : ∃ q, tk s (a + u1) = q := ⟨_, rfl⟩
      rw [h2] at hb2
      simp only at hb2
      subst hb2
      rw [fldAt_eq h1 h2] at h
      rw [tk_enc h1, tk_enc h2]
      split at h
      · rename_i hk
        split at h
        · simp only [Option.some.injEq, Prod.mk.injEq] at h
          obtain ⟨rfl, rfl⟩ := h
          unfold fieldB
          simp only [if_true]
          rw [fold_unfold, show (8 * ((n1 / 8 : Nat) : Int) + 0).toNat = n1 by omega, List.append_assoc]
        · cases h
      · split at h
        · rename_i hk
          split at h
          · rename_i hf
            simp only [Option.some.injEq, Prod.mk.injEq] at h
            obtain ⟨rfl, rfl⟩ := h
            unfold fieldB
            rw [if_neg (by simp)]
            simp only
            have hsz : (s.extract (a + u1 + u2) (a + u1 + u2 + n2)).size = n2 := by rw [ByteArray.size_extract]; omega
            rw [hsz, ext_list s _ _ hf.1, show (8 * ((n1 / 8 : Nat) : Int) + 2).toNat = n1 by omega, List.append_assoc, List.append_assoc, ← dropA s (a + u1 + u2) n2, List.take_append_drop]
          · cases h
        · cases h
theorem rdL_enc {s : ByteArray} : ∀ (f a c : Nat) (l : List Fld), a ≤ s.size → rdL s f a c = some l → s.data.toList.drop a = fieldsB l
  | 0, a, c, l, ha, h => by
    unfold rdL at h; split at h
    · cases h
    · simp only [Option.some.injEq] at h; subst h
      exact List.drop_eq_nil_of_le (by simp; omega)
  | f + 1, a, c, l, ha, h => by
    unfold rdL at h
    split at h
    · cases hf : fldAt s a with
      | none => rw [hf] at h; cases h
      | some p =>
        obtain ⟨x, e⟩ := p
        rw [hf] at h
        simp only at h
        split at h
        · cases h
        · cases hr : rdL s f e (c + 1) with
          | none => rw [hr] at h; cases h
          | some r =>
            rw [hr] at h
            simp only [Option.some.injEq] at h
            subst h
            rw [fld_enc hf, fieldsB_cons, rdL_enc f e (c + 1) r (fldAt_end hf).2.1 hr]
    · simp only [Option.some.injEq] at h; subst h
      exact List.drop_eq_nil_of_le (by simp; omega)
/-- what is read gives its bytes again -/
theorem bytes_back {s : ByteArray} {l : List Fld} (h : R_Read s = some l) : R_FieldsBytes l = (s, true) := by
  unfold R_Read at h
  split at h
  · cases h
  · rename_i h4
    have h1 := rdL_enc s.size 0 0 l (by omega) h
    have h2 := rdL_mem s.size 0 0 l (by omega) h
    rw [List.drop_zero] at h1
    have hg : goodFs l = true := by
      unfold goodFs
      simp only [Bool.and_eq_true, decide_eq_true_eq, List.all_eq_true]
      exact ⟨by omega, fun x hx => (h2.2 x hx).1⟩
    have hl : (fieldsB l).length = s.size := by rw [← h1]; simp
    unfold R_FieldsBytes
    rw [if_pos ⟨hg, by omega⟩, ← h1]
/-- a good field that lies at a place is read there -/
theorem fld_read {s : ByteArray} {a : Nat} {f : Fld} {r : List UInt8} (hs : s.data.toList.drop a = fieldB f ++ r) (ha : a ≤ s.size) (hok : okF f = true) (hd : f.data.size ≤ 2000000000) : fldAt s a = some (f, a + (fieldB f).length) := by
  have hfo := okF_iff.1 hok
  have htag : (8 * f.no + f.kind).toNat ≤ 2000000001 := by omega
  have hsz : s.data.toList.length = s.size := by simp
  have e0 : fieldB f = vb (8 * f.no + f.kind).toNat ++ (if f.kind = 0 then vb (foldI f.num).toNat else vb f.data.size ++ f.data.data.toList) := rfl
  have h1 : tk s a = ((8 * f.no + f.kind).toNat, (vb (8 * f.no + f.kind).toNat).length, true) := by
    unfold tk
    rw [hs, e0, List.append_assoc, tkL htag]
  have hd1 : s.data.toList.drop (a + (vb (8 * f.no + f.kind).toNat).length) = (if f.kind = 0 then vb (foldI f.num).toNat else vb f.data.size ++ f.data.data.toList) ++ r := by
    rw [← dropA, hs, e0, List.append_assoc, List.drop_left]
  rcases hfo.2 with ⟨k0, kb, kd⟩ | ⟨k2, kn⟩
  · have hfb := fold_bd f.num kb.1 kb.2
    have h2 : tk s (a + (vb (8 * f.no + f.kind).toNat).length) = ((foldI f.num).toNat, (vb (foldI f.num).toNat).length, true) := by
      unfold tk
      rw [hd1, if_pos k0, tkL (by omega)]
    rw [fldAt_eq h1 h2, if_pos (by omega)]
    have hde : f.data = ⟨#[]⟩ := by
      apply ByteArray.ext
      exact Array.eq_empty_of_size_eq_zero kd
    have ef : (⟨((8 * f.no + f.kind).toNat / 8 : Nat), 0, unfoldI ((foldI f.num).toNat : Int), ⟨#[]⟩⟩ : Fld) = f := by
      obtain ⟨no, kd, nm, dt⟩ := f
      simp only at k0 hde hfb ⊢
      subst k0 hde
      rw [Int.toNat_of_nonneg hfb.1, fold_back]
      congr 1
      simp only at hfo
      omega
    rw [ef, if_pos hok, e0, if_pos k0, List.length_append, Nat.add_assoc]
  · have h2 : tk s (a + (vb (8 * f.no + f.kind).toNat).length) = (f.data.size, (vb f.data.size).length, true) := by
      unfold tk
      rw [hd1, if_neg (by omega), List.append_assoc, tkL (by omega)]
    rw [fldAt_eq h1 h2, if_neg (by omega), if_pos (by omega)]
    have hdl : f.data.data.toList.length = f.data.size := by simp
    have hd2 : s.data.toList.drop (a + (vb (8 * f.no + f.kind).toNat).length + (vb f.data.size).length) = f.data.data.toList ++ r := by
      rw [← dropA, hd1, if_neg (by omega), List.append_assoc, List.drop_left]
    have hle : a + (vb (8 * f.no + f.kind).toNat).length + (vb f.data.size).length + f.data.size ≤ s.size := by
      have := congrArg List.length hd2
      rw [List.length_drop, List.length_append, hdl, hsz] at this
      have h3 := congrArg List.length hs
      rw [List.length_drop, hsz, e0, if_neg (by omega), List.length_append, List.length_append, List.length_append, hdl] at h3
      omega
    have hex : s.extract (a + (vb (8 * f.no + f.kind).toNat).length + (vb f.data.size).length) (a + (vb (8 * f.no + f.kind).toNat).length + (vb f.data.size).length + f.data.size) = f.data := by
      apply ByteArray.ext
      apply Array.ext'
      rw [ext_list s _ _ hle, hd2, ← hdl, List.take_left]
    rw [hex]
    have ef : (⟨((8 * f.no + f.kind).toNat / 8 : Nat), 2, 0, f.data⟩ : Fld) = f := by
      obtain ⟨no, kd, nm, dt⟩ := f
      simp only at k2 kn ⊢
      subst k2 kn
      congr 1
      simp only at hfo
      omega
    rw [ef, if_pos ⟨hle, hok⟩, e0, if_neg (by omega), List.length_append, List.length_append, hdl]
    congr 2
    omega
theorem rdL_back {s : ByteArray} : ∀ (l : List Fld) (f a c : Nat), s.data.toList.drop a = fieldsB l → a ≤ s.size → s.size - a ≤ f → l.length + c ≤ 40 → (∀ x ∈ l, okF x = true ∧ x.data.size ≤ 2000000000) → rdL s f a c = some l
  | [], f, a, c, h, ha, _, _, _ => rdL_end (by
      have := congrArg List.length h
      rw [List.length_drop] at this
      simp [fieldsB] at this
      omega)
  | x :: r, f, a, c, h, ha, hf, hl, hx => by
    rw [fieldsB_cons] at h
    have hok := hx x (by simp)
    have hrd := fld_read h ha hok.1 hok.2
    have hfe := fldAt_end hrd
    cases f with
    | zero => omega
    | succ f =>
      rw [List.length_cons] at hl
      unfold rdL
      rw [if_pos (by omega), hrd]
      simp only [if_neg (show ¬ c = 40 by omega)]
      rw [rdL_back r f _ (c + 1) (by rw [← dropA, h, List.drop_left]) hfe.2.1 (by omega) (by omega) (fun y hy => hx y (by simp [hy]))]
/-- fields come back from their bytes -/
theorem fields_back {l : List Fld} {s : ByteArray} (h : R_FieldsBytes l = (s, true)) : R_Read s = some l := by
  unfold R_FieldsBytes at h
  split at h
  · rename_i hc
    simp only [Prod.mk.injEq, and_true] at h
    subst h
    have hg := hc.1
    unfold goodFs at hg
    simp only [Bool.and_eq_true, decide_eq_true_eq, List.all_eq_true] at hg
    have hsz : (⟨(fieldsB l).toArray⟩ : ByteArray).size = (fieldsB l).length := rfl
    unfold R_Read
    rw [if_neg (by omega)]
    refine rdL_back l _ 0 0 (by simp) (by omega) (by omega) (by omega) (fun x hx => ⟨hg.2 x hx, ?_⟩)
    have h1 := fieldsB_mem hx
    rcases fieldB_len x with h2 | h2
    · rcases (okF_iff.1 (hg.2 x hx)).2 with h3 | h3 <;> omega
    · omega
  · simp at h
end Go.Proofs.Ytlmgckijbamgpaa
