/- The variables of a tree, put in order: the reference's contract, and VarsOf. -/
import Derived.Test.YtlmgckijbamgpaaTm7
namespace Go.Proofs.Ytlmgckijbamgpaa
set_option linter.unusedVariables false
open Go.ChangeShapes Go.WideShapes Go.ChangeAt Go.RowKit
set_option maxRecDepth 100000

theorem kCs_at : ∀ (ks : List (List Value × List Int)) (j : Nat) (q : List Value × List Int), (∀ p ∈ ks, p.1.length = 3) → ks[j]? = some q → ∀ (i : Nat) (u : Value), q.1[i]? = some u → (kCs ks)[j * 3 + i]? = some u
  | [], j, q, _, h, _, _, _ => by simp at h
  | p :: r, 0, q, hl, h, i, u, hu => by
    simp at h; subst h
    have h3 := hl p (by simp)
    have hi : i < p.1.length := (List.getElem?_eq_some_iff.1 hu).1
    show (p.1 ++ kCs r)[0 * 3 + i]? = _
    rw [List.getElem?_append_left (by omega), Nat.zero_mul, Nat.zero_add]; exact hu
  | p :: r, j + 1, q, hl, h, i, u, hu => by
    have h3 := hl p (by simp)
    show (p.1 ++ kCs r)[(j + 1) * 3 + i]? = _
    rw [List.getElem?_append_right (by omega), show (j + 1) * 3 + i - p.1.length = j * 3 + i by omega]
    exact kCs_at r j q (fun x hx => hl x (by simp [hx])) (by simpa using h) i u hu
theorem kVs_take {ks : List (List Value × List Int)} {j : Nat} {q : List Value × List Int} (h : ks[j]? = some q) : kVs (ks.take (j + 1)) = kVs (ks.take j) ++ q.2 := by
  obtain ⟨hj, rfl⟩ := List.getElem?_eq_some_iff.1 h
  rw [List.take_succ_eq_append_getElem hj, kVs_put]
theorem kVs_len {ks : List (List Value × List Int)} {j : Nat} : (kVs (ks.take j)).length ≤ (kVs ks).length := by
  conv => rhs; rw [← List.take_append_drop j ks]
  unfold kVs
  rw [List.map_append, List.flatten_append, List.length_append]; omega
set_option maxHeartbeats 4000000 in
theorem spec_vars (S : Nat → Prop) (base : Nat) : ∀ (d : Nat) (w : World) (cs : List Value) (vs : List Int) (v : Value) (xs : List Int), TS S w d cs vs → w.ownsRow base 3 1 v xs.length (ints xs) → base ≤ w.heap.size → xs.length + vs.length ≤ 1048576 →
    Calls Try.prog 58 #[.agg cs.toArray, v] w (VarsR base (vs.foldl putR xs) w)
  | 0, _, _, _, _, _, h, _, _, _ => h.elim
  | d + 1, w, cs, vs, v, xs, h, ho, hb, hl => by
    obtain ⟨n, nm, sa, sn, sc, rfl, hsc, hscm, h4⟩ := h
    rcases h4 with ⟨h1, h6, rfl⟩ | ⟨rfl, ks, rfl, h5, hrs, hks, rfl⟩
    · exact spec_vars_leaf base v xs n nm sa sn sc w ho hb (by simp at hl; omega) h1 h6
    show Calls Try.prog 58 #[.agg #[.int .i64 0, .string nm, .slice sa ks.length sc], v] w _
    change xs.length + (kVs ks).length ≤ 1048576 at hl
    have HIH := Lib.hid (fun (wx : World) (cs : List Value) (vs : List Int) (v : Value) (xs : List Int) (h1 : TS S wx d cs vs) (h2 : wx.ownsRow base 3 1 v xs.length (ints xs)) (h3 : base ≤ wx.heap.size) (h4 : xs.length + vs.length ≤ 1048576) => spec_vars S base d wx cs vs v xs h1 h2 h3 h4)
    have hrw : Rw w sa (kCs ks) := hrs.rw
    have HK3 : Hid (∀ p ∈ ks, p.1.length = 3) := Lib.hid fun p hp => (hks p hp).cells
    obtain ⟨oa, oc, rfl⟩ := form_of_own ho
    have HBX := Lib.hid (heap_alloc_new w (.cells #[.int .i64 0, .string nm, .slice sa ks.length sc] 87))
    have HB0 := Lib.hid ((Below.refl w.heap.size w).alloc (Nat.le_refl _) (.cells #[.int .i64 0, .string nm, .slice sa ks.length sc] 87))
    have HO0 := Lib.hid (ho.alloc (.cells #[.int .i64 0, .string nm, .slice sa ks.length sc] 87))
    have HRW := Lib.hid hrw; have HKS := Lib.hid hks
    clear hrw hks hrs ho
    generalize hw0 : w.alloc (.cells #[.int .i64 0, .string nm, .slice sa ks.length sc] 87) = w0 at *
    obtain ⟨⟨t0, t1, t2⟩, -⟩ := box3 HBX.out
    show Calls Try.prog 58 _ w (VarsR base ((kVs ks).foldl putR xs) w)
    generalize hRR : (kVs ks).foldl putR xs = RR
    have HRR := Lib.hid hRR
    clear hRR
    unfold VarsR
    go_enter Try.func58, Try.ntmps58
    go_wp2_with fail
    go_loopw [1, 59] (fun ov iv wr => ∃ (j : Nat) (acc : List Int) (v : Value), ov = v ∧ j ≤ ks.length ∧ iv = .int .i64 (j : Int) ∧ Hid (acc = (kVs (ks.take j)).foldl putR xs) ∧ Hid (wr.ownsRow base 3 1 v acc.length (ints acc)) ∧ Hid (Below w.heap.size w wr)) (fun _ iv _ => ks.length - (intOf iv).toNat)
    case atStart => exact ⟨0, xs, _, rfl, by omega, rfl, Lib.hid rfl, HO0, HB0⟩
    case round =>
      obtain ⟨wx, rfl⟩ : ∃ z : World, z = wr := ⟨_, rfl⟩
      obtain ⟨j, acc, ov, rfl, hj, rfl, HA, HO, HB⟩ := hrel
      obtain ⟨va, vc, hov⟩ := form_of_own HO.out
      subst hov
      by_cases hjl : j < ks.length
      case neg =>
        obtain rfl : j = ks.length := by omega
        have ha := HA.out
        rw [List.take_length] at ha
        have HAR : Hid (acc = RR) := Lib.hid (ha.trans HRR.out)
        clear ha
        go_wp2_with fail
        go_ret
        exact ⟨_, rfl, by rw [← HAR.out]; exact HO.out, HB.out⟩
      obtain ⟨q, hq⟩ : ∃ q, ks[j]? = some q := ⟨ks[j], List.getElem?_eq_getElem hjl⟩
      have hts := HKS.out q (List.mem_of_getElem? hq)
      have hcell := kCs_at ks j q HK3.out hq
      have hne : kCs ks ≠ [] := by
        intro e
        have h3 := HK3.out q (List.mem_of_getElem? hq)
        have := hcell 0 q.1[0] (List.getElem?_eq_getElem (by omega))
        rw [e] at this; simp at this
      obtain ⟨b, off, rfl, hbl, hc⟩ := HRW.out.at hne
      have hKV := kVs_take hq
      have hLL : (kVs (ks.take (j + 1))).length ≤ (kVs ks).length := kVs_len
      obtain ⟨q1, q2⟩ := q
      simp only at hts hcell hKV
      have hsh : ∃ n1 nm1 a1 c1 p1, q1 = [.int .i64 n1, .string nm1, .slice a1 c1 p1] := by
        match d, hts with
        | d + 1, hts => obtain ⟨n1, nm1, a1, c1, p1, h1, _⟩ := hts; exact ⟨n1, nm1, a1, c1, p1, h1⟩
      obtain ⟨n1, nm1, a1, c1, p1, rfl⟩ := hsh
      have d0 : wx.cell? ⟨b, off + j * 3, none⟩ = some (.int .i64 n1) := (HB.out.cell (p := ⟨b, off + j * 3, none⟩) hbl).trans (hc _ _ (hcell 0 _ rfl))
      have d1 : wx.cell? ⟨b, off + j * 3 + 1, none⟩ = some (.string nm1) := (HB.out.cell (p := ⟨b, off + j * 3 + 1, none⟩) hbl).trans (by rw [Nat.add_assoc]; exact hc _ _ (hcell 1 _ rfl))
      have d2 : wx.cell? ⟨b, off + j * 3 + 2, none⟩ = some (.slice a1 c1 p1) := (HB.out.cell (p := ⟨b, off + j * 3 + 2, none⟩) hbl).trans (by rw [Nat.add_assoc]; exact hc _ _ (hcell 2 _ rfl))
      have hbx : b < wx.heap.size := Nat.lt_of_lt_of_le hbl HB.out.size
      have hbs := HB.out.size
      have HBA := Lib.hid ((Below.refl wx.heap.size wx).alloc (Nat.le_refl _) (.cells #[.int .i64 n1, .string nm1, .slice a1 c1 p1] 87))
      have hacc : acc.length + q2.length ≤ 1048576 := by
        have := fold_len (kVs (ks.take j)) xs
        rw [HA.out]
        rw [hKV, List.length_append] at hLL
        omega
      have HC := Lib.hid (HIH.out (wx.alloc (.cells #[.int .i64 n1, .string nm1, .slice a1 c1 p1] 87)) _ q2 _ acc (hts.keep (kept_below (HB.out.trans (HBA.out.mono hbs))) (fun _ h _ => h)) (HO.out.alloc _) (Nat.le_trans hb (Nat.le_trans hbs HBA.out.size)) hacc)
      have HAN : Hid (q2.foldl putR acc = (kVs (ks.take (j + 1))).foldl putR xs) := Lib.hid (by rw [hKV, List.foldl_append, ← HA.out])
      clear hc hcell hts hKV hLL hq hne hacc
      generalize q2.foldl putR acc = acc2 at *
      go_wp2_with fail
      refine HC.out.mono ?_
      rintro e w3 ⟨v3, rfl, ho3, hb3⟩
      have HO3 := Lib.hid ho3
      have HB3 := Lib.hid (HB.out.trans ((HBA.out.trans (hb3.mono HBA.out.size)).mono hbs))
      clear ho3 hb3
      obtain ⟨oa3, oc3, rfl⟩ := form_of_own HO3.out
      go_wp2_with fail
      go_roundw
      case rel => exact ⟨j + 1, acc2, _, rfl, by omega, by go_num, HAN, HO3, HB3⟩
      case measure => (simp [intOf]; try omega)
end Go.Proofs.Ytlmgckijbamgpaa
