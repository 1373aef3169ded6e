/- What a filter tells: the reference's walk, and the match. -/
import Derived.Test.YtlmgckijbamgpaaFltT
import Derived.Test.YtlmgckijbamgpaaWn5
namespace Go.Proofs.Ytlmgckijbamgpaa
set_option linter.unusedVariables false
set_option linter.unusedSimpArgs false
open Go.ChangeShapes Go.WideShapes Go.ChangeAt Go.RowKit
set_option maxRecDepth 100000

theorem leafF_end (fs : List Fld) (w : Wn) (k : Nat) (h : fs.length ≤ k) : leafF (fs.drop k) w = false := by rw [List.drop_of_length_le h]; rfl
theorem leafF_next {fs : List Fld} {k : Nat} {x : Fld} (w : Wn) (h : fs[k]? = some x) (hn : (x.no == w.no) = false) : leafF (fs.drop k) w = leafF (fs.drop (k + 1)) w := by
  obtain ⟨hk, rfl⟩ := List.getElem?_eq_some_iff.1 h
  rw [List.drop_eq_getElem_cons hk]
  unfold leafF
  rw [List.find?_cons, hn]
theorem leafF_here {fs : List Fld} {k : Nat} {x : Fld} (w : Wn) (h : fs[k]? = some x) (hn : (x.no == w.no) = true) : leafF (fs.drop k) w = fldIs x w := by
  obtain ⟨hk, rfl⟩ := List.getElem?_eq_some_iff.1 h
  rw [List.drop_eq_getElem_cons hk]
  unfold leafF
  rw [List.find?_cons, hn]
theorem f1 (fk fn : Int) (fd : ByteArray) (nm : Int) (tx : ByteArray) : fldA fk fn fd 1 nm tx = (fk == 0 && fn == nm) := rfl
theorem f2 (fk fn : Int) (fd : ByteArray) (nm : Int) (tx : ByteArray) : fldA fk fn fd 2 nm tx = (fk == 0 && decide (fn < nm)) := rfl
theorem f3 (fk fn : Int) (fd : ByteArray) (nm : Int) (tx : ByteArray) : fldA fk fn fd 3 nm tx = (fk == 0 && decide (fn > nm)) := rfl
theorem f4 (fk fn : Int) (fd : ByteArray) (nm : Int) (tx : ByteArray) : fldA fk fn fd 4 nm tx = true := rfl
theorem f5 (fk fn : Int) (fd : ByteArray) (nm : Int) (tx : ByteArray) : fldA fk fn fd 5 nm tx = (!(fk == 0) && preB fd tx) := rfl
theorem ok_leaf {kd no nm : Int} {tx : ByteArray} {a b : Int} {k : Nat} (h : OkW ⟨kd, no, nm, tx, a, b⟩ k) (h67 : ¬ (kd = 6 ∨ kd = 7)) (h8 : ¬ kd = 8) : kd = 1 ∨ kd = 2 ∨ kd = 3 ∨ kd = 4 ∨ kd = 5 := by
  unfold OkW TestW at h; simp only at h; omega
set_option maxHeartbeats 8000000 in
theorem spec_l7Is (l : List Wn) (fs : List Fld) (hpw : fs.Pairwise (fun x y => x.no < y.no)) (lc fc : Nat) (hok : okAll l 0 = true) (hn : l.length ≤ 20) (hfn : fs.length ≤ 40) : ∀ (k : Nat), k < l.length → ∀ (la fa : Option Addr) (w : World), Rw w la (wnsV l) → Rw w fa (fdsV fs) →
    Calls Try.prog 135 #[.agg #[.slice la l.length lc], .int .i64 (k : Int), .slice fa fs.length fc] w fun e w' => e = .returned (.bool (soK l fs k)) ∧ Below w.heap.size w w' := by
  intro k
  induction k using Nat.strongRecOn with
  | ind k ih =>
    intro hk la fa w hrow hfrow
    have IH := Lib.hid ih
    clear ih
    have HRW := Lib.hid hrow
    have HFW := Lib.hid hfrow
    obtain ⟨w0, hw⟩ : ∃ w0, l[k]? = some w0 := ⟨l[k], List.getElem?_eq_getElem hk⟩
    have ho := okAll_at l 0 k w0 hok hw
    rw [Nat.zero_add] at ho
    have hks := soK_eq fs hok hw
    rw [← leaf_eq w0 hpw] at hks
    generalize soK l fs k = R at hks ⊢
    have HKS := Lib.hid hks
    have HBA := Lib.hid ((Below.refl w.heap.size w).alloc (Nat.le_refl _) (.cells #[.slice la l.length lc] 61))
    have HA0 := Lib.hid (heap_alloc_new w (.cells #[.slice la l.length lc] 61))
    have hza : w.heap.size < (w.alloc (.cells #[.slice la l.length lc] 61)).heap.size := by simp
    obtain ⟨b, off, hae, hbx, hbw, c0, c1, c2, c3, c4, c5⟩ := row6 hrow HBA.out hw
    subst hae
    clear hks hw hrow hfrow
    obtain ⟨kd, no, nm, tx, xa, xb⟩ := w0
    simp only at c0 c1 c2 c3 c4 c5 HKS
    obtain ⟨n, hnl⟩ : ∃ n, l.length = n := ⟨_, rfl⟩
    have HNL := Lib.hid hnl
    obtain ⟨m, hm⟩ : ∃ m, fs.length = m := ⟨_, rfl⟩
    have HM := Lib.hid hm
    rw [hnl] at hk HA0 HBA hza c0 c1 c2 c3 c4 c5 IH hbx ⊢
    rw [hm] at hfn IH ⊢
    clear hm hnl hn hpw
    generalize hwz : w.alloc (.cells #[.slice (some ⟨b, off, none⟩) n lc] 61) = wz at *
    have g0 : wz.cell? ⟨w.heap.size, 0, none⟩ = some (.slice (some ⟨b, off, none⟩) n lc) := by simp [World.cell?, HA0.out]
    have HA := Lib.hid (heap_alloc_new wz (.cells #[.int .i64 kd, .int .i64 no, .int .i64 nm, .string tx, .int .i64 xa, .int .i64 xb] 134))
    have HB := Lib.hid (HBA.out.alloc HBA.out.size (.cells #[.int .i64 kd, .int .i64 no, .int .i64 nm, .string tx, .int .i64 xa, .int .i64 xb] 134))
    have HBQ1 := Lib.hid ((Below.refl wz.heap.size wz).alloc (Nat.le_refl _) (.cells #[.int .i64 kd, .int .i64 no, .int .i64 nm, .string tx, .int .i64 xa, .int .i64 xb] 134))
    generalize hwy : wz.alloc (.cells #[.int .i64 kd, .int .i64 no, .int .i64 nm, .string tx, .int .i64 xa, .int .i64 xb] 134) = wy at *
    have g1 := below_later HBQ1.out g0
    obtain ⟨y0, y1, y2, y3, y4, y5⟩ := box6 HA.out
    by_cases h67 : kd = 6 ∨ kd = 7
    · obtain ⟨q1, q2, q3⟩ := ok67 ho h67
      simp only at q1 q2 q3
      obtain ⟨x, rfl⟩ : ∃ x : Nat, xa = (x : Int) := ⟨xa.toNat, by omega⟩
      obtain ⟨y, rfl⟩ : ∃ y : Nat, xb = (y : Int) := ⟨xb.toNat, by omega⟩
      have hxk : x < k := by omega
      have hyk : y < k := by omega
      have HX := Lib.hid (fun wx (hb : Below w.heap.size w wx) => IH.out x hxk (by omega) (some ⟨b, off, none⟩) fa wx (HRW.out.below hb) (HFW.out.below hb))
      have HY := Lib.hid (fun wx (hb : Below w.heap.size w wx) => IH.out y hyk (by omega) (some ⟨b, off, none⟩) fa wx (HRW.out.below hb) (HFW.out.below hb))
      rw [Int.toNat_natCast, Int.toNat_natCast] at HKS
      generalize soK l fs x = rx at *
      generalize soK l fs y = ry at *
      rcases h67 with rfl | rfl
      · have hR : R = (rx && ry) := HKS.out.trans (if_pos rfl)
        clear HKS ho
        cases rx with
        | false =>
          subst hR
          go_enter Try.func135, Try.ntmps135
          go_wp2_with fail
          refine (HX.out _ HB.out).mono ?_
          rintro e w2 ⟨rfl, hb⟩
          have HB2 := Lib.hid (rstep HB.out hb); clear hb
          go_wp2_with fail
          go_ret
          exact ⟨rfl, HB2.out⟩
        | true =>
          rw [Bool.true_and] at hR
          subst hR
          go_enter Try.func135, Try.ntmps135
          go_wp2_with fail
          refine (HX.out _ HB.out).mono ?_
          rintro e w2 ⟨rfl, hb⟩
          have HB2 := Lib.hid (rstep HB.out hb)
          have g2 := below_later hb g1
          obtain ⟨z0, z1, z2, z3, z4, z5⟩ := box6 (heap_keep hb HA.out)
          clear hb
          go_wp2_with fail
          refine (HY.out _ HB2.out).mono ?_
          rintro e w3 ⟨rfl, hb⟩
          have HB3 := Lib.hid (rstep HB2.out hb); clear hb
          go_wp2_with fail
          go_ret
          exact ⟨rfl, HB3.out⟩
      · have hR : R = (rx || ry) := HKS.out.trans ((if_neg (by decide)).trans (if_pos rfl))
        clear HKS ho
        cases rx with
        | true =>
          subst hR
          go_enter Try.func135, Try.ntmps135
          go_wp2_with fail
          refine (HX.out _ HB.out).mono ?_
          rintro e w2 ⟨rfl, hb⟩
          have HB2 := Lib.hid (rstep HB.out hb); clear hb
          go_wp2_with fail
          go_ret
          exact ⟨rfl, HB2.out⟩
        | false =>
          rw [Bool.false_or] at hR
          subst hR
          go_enter Try.func135, Try.ntmps135
          go_wp2_with fail
          refine (HX.out _ HB.out).mono ?_
          rintro e w2 ⟨rfl, hb⟩
          have HB2 := Lib.hid (rstep HB.out hb)
          have g2 := below_later hb g1
          obtain ⟨z0, z1, z2, z3, z4, z5⟩ := box6 (heap_keep hb HA.out)
          clear hb
          go_wp2_with fail
          refine (HY.out _ HB2.out).mono ?_
          rintro e w3 ⟨rfl, hb⟩
          have HB3 := Lib.hid (rstep HB2.out hb); clear hb
          go_wp2_with fail
          go_ret
          exact ⟨rfl, HB3.out⟩
    have n6 : ¬ kd = 6 := by omega
    have n7 : ¬ kd = 7 := by omega
    by_cases h8 : kd = 8
    · subst h8
      obtain ⟨q1, q2⟩ := ok8 ho rfl
      simp only at q1 q2
      obtain ⟨x, rfl⟩ : ∃ x : Nat, xa = (x : Int) := ⟨xa.toNat, by omega⟩
      have hxk : x < k := by omega
      have HX := Lib.hid (fun wx (hb : Below w.heap.size w wx) => IH.out x hxk (by omega) (some ⟨b, off, none⟩) fa wx (HRW.out.below hb) (HFW.out.below hb))
      rw [Int.toNat_natCast] at HKS
      generalize soK l fs x = rx at *
      have hR : R = !rx := HKS.out.trans ((if_neg (by decide)).trans ((if_neg (by decide)).trans (if_pos rfl)))
      clear HKS ho n6 n7 h67
      subst hR
      go_enter Try.func135, Try.ntmps135
      go_wp2_with fail
      refine (HX.out _ HB.out).mono ?_
      rintro e w2 ⟨rfl, hb⟩
      have HB2 := Lib.hid (rstep HB.out hb); clear hb
      go_wp2_with fail
      go_ret
      exact ⟨rfl, HB2.out⟩
    have hR : R = leafF (fs.drop 0) ⟨kd, no, nm, tx, xa, xb⟩ := HKS.out.trans ((if_neg n6).trans ((if_neg n7).trans (if_neg h8)))
    have HR := Lib.hid hR
    have hkd := ok_leaf ho h67 h8
    have k6 := kind_eq n6
    have k7 := kind_eq n7
    have k8 := kind_eq h8
    clear HKS ho n6 n7 h67 h8 hR
    have HBW := Lib.hid (Below.refl wy.heap.size wy)
    go_enter Try.func135, Try.ntmps135
    go_wp2_with fail
    clear c0 c1 c2 c3 c4 c5 g0 g1 y0 y1 y2 y3 y4 y5
    go_loopw [56] (fun iv wr => ∃ j : Nat, j ≤ m ∧ iv = .int .i64 (j : Int) ∧ Hid (R = leafF (fs.drop j) ⟨kd, no, nm, tx, xa, xb⟩) ∧ Hid (Below wy.heap.size wy wr)) (fun iv _ => m - (intOf iv).toNat)
    case atStart => exact ⟨0, Nat.zero_le _, rfl, HR, HBW⟩
    case round =>
      clear HR HBW
      obtain ⟨wx, rfl⟩ : ∃ z : World, z = wr := ⟨_, rfl⟩
      obtain ⟨j, hj, rfl, HR, HBW⟩ := hrel
      by_cases hjm : j < m
      case neg =>
        obtain rfl : R = false := by rw [HR.out]; exact leafF_end _ _ _ (by have := HM.out; omega)
        have HBQ := Lib.hid (rstep HB.out HBW.out)
        clear HR
        go_wp2_with fail
        go_ret
        exact ⟨rfl, HBQ.out⟩
      obtain ⟨x, hx⟩ : ∃ x, fs[j]? = some x := ⟨fs[j]'(by have := HM.out; omega), List.getElem?_eq_getElem _⟩
      have HBX := Lib.hid (rstep HB.out HBW.out)
      obtain ⟨b2, o2, rfl, hb2, hb2w, d0, d1, d2, d3⟩ := row4 HFW.out HBX.out hx
      have HNEXT := Lib.hid (fun h => leafF_next ⟨kd, no, nm, tx, xa, xb⟩ hx h)
      have HHERE := Lib.hid (fun h => leafF_here ⟨kd, no, nm, tx, xa, xb⟩ hx h)
      clear hx
      obtain ⟨xn, xk, xm, xd⟩ := x
      simp only at d0 d1 d2 d3 HNEXT HHERE
      obtain ⟨t0, t1, t2, t3, t4, t5⟩ := box6 (heap_keep HBW.out HA.out)
      have htl := World.block_lt_of_cell? wx _ t0
      have HQA := Lib.hid (heap_alloc_new wx (.cells #[.int .i64 xn, .int .i64 xk, .int .i64 xm, .string xd] 57))
      have HQB := Lib.hid (ralloc HBW.out (.cells #[.int .i64 xn, .int .i64 xk, .int .i64 xm, .string xd] 57))
      have HBQ := Lib.hid (rstep HB.out HQB.out)
      cases hn : (xn == no) with
      | false =>
        have HR2 := Lib.hid (HR.out.trans (HNEXT.out hn))
        have hn2 : ¬ xn = no := by simpa using hn
        have hn3 := bne_iff_ne.2 hn2
        clear hn hn2 HHERE HR HNEXT
        go_wp2_with fail
        go_roundw
        case rel => exact ⟨j + 1, by omega, by go_num, HR2, HQB⟩
        case measure => (simp [intOf]; try omega)
      | true =>
        have HRF : Hid (R = fldA xk xm xd kd nm tx) := Lib.hid (HR.out.trans (HHERE.out hn))
        obtain rfl := eq_of_beq hn
        clear hn HHERE HNEXT HR
        rcases hkd with rfl | rfl | rfl | rfl | rfl
        · skip
          cases hk0 : (xk == 0) with
          | false =>
            obtain rfl : R = false := by rw [HRF.out, f1, hk0]; rfl
            clear HRF
            go_wp2_with fail
            go_ret
            exact ⟨rfl, HBQ.out⟩
          | true =>
            have hR := HRF.out
            rw [f1, hk0, Bool.true_and] at hR
            subst hR
            clear HRF
            go_wp2_with fail
            go_ret
            exact ⟨rfl, HBQ.out⟩
        · skip
          cases hk0 : (xk == 0) with
          | false =>
            obtain rfl : R = false := by rw [HRF.out, f2, hk0]; rfl
            clear HRF
            go_wp2_with fail
            go_ret
            exact ⟨rfl, HBQ.out⟩
          | true =>
            have hR := HRF.out
            rw [f2, hk0, Bool.true_and] at hR
            subst hR
            clear HRF
            go_wp2_with fail
            go_ret
            exact ⟨rfl, HBQ.out⟩
        · skip
          cases hk0 : (xk == 0) with
          | false =>
            obtain rfl : R = false := by rw [HRF.out, f3, hk0]; rfl
            clear HRF
            go_wp2_with fail
            go_ret
            exact ⟨rfl, HBQ.out⟩
          | true =>
            have hR := HRF.out
            rw [f3, hk0, Bool.true_and] at hR
            subst hR
            clear HRF
            go_wp2_with fail
            go_ret
            exact ⟨rfl, HBQ.out⟩
        · obtain rfl : R = true := by rw [HRF.out, f4]
          clear HRF
          go_wp2_with fail
          go_ret
          exact ⟨rfl, HBQ.out⟩
        · have hf := HRF.out
          rw [f5] at hf
          cases hk0 : (xk == 0) with
          | true =>
            obtain rfl : R = false := by rw [hf, hk0]; rfl
            clear HRF hf
            go_wp2_with fail
            go_quiet (fail)
            go_wp2_with fail
            go_ret
            exact ⟨rfl, rdrew HBQ.out nq⟩
          | false =>
            rw [hk0, Bool.not_false, Bool.true_and] at hf
            unfold preB at hf
            by_cases hsz : tx.size ≤ xd.size
            · rw [decide_eq_true hsz, Bool.true_and] at hf
              cases hb : ((xd.extract 0 tx.size).toList == tx.toList) with
              | false =>
                obtain rfl : R = false := by rw [hf, hb]
                clear HRF hf
                go_wp2_with fail
                go_quiet (fail)
                go_wp2_with fail
                go_ret
                exact ⟨rfl, rdrew HBQ.out nq⟩
              | true =>
                obtain rfl : R = true := by rw [hf, hb]
                clear HRF hf
                go_wp2_with fail
                go_quiet (fail)
                go_wp2_with fail
                go_ret
                exact ⟨rfl, rdrew HBQ.out nq⟩
            · obtain rfl : R = false := by rw [hf, decide_eq_false hsz]; rfl
              clear HRF hf
              go_wp2_with fail
              go_quiet (fail)
              go_wp2_with fail
              go_ret
              exact ⟨rfl, rdrew HBQ.out nq⟩
theorem spec_l7Matches (l : List Wn) (fs : List Fld) (hpw : fs.Pairwise (fun x y => x.no < y.no)) (lc fc : Nat) (hok : okAll l 0 = true) (hn1 : 1 ≤ l.length) (hn : l.length ≤ 20) (hfn : fs.length ≤ 40) (la fa : Option Addr) (w : World) (hrow : Rw w la (wnsV l)) (hfrow : Rw w fa (fdsV fs)) :
    Calls Try.prog 104 #[.agg #[.slice la l.length lc], .slice fa fs.length fc] w fun e w' => e = .returned (.bool (soK l fs (l.length - 1))) ∧ Below w.heap.size w w' := by
  have HB0 := Lib.hid ((Below.refl w.heap.size w).alloc (Nat.le_refl _) (.cells #[.slice la l.length lc] 61))
  have HS := Lib.hid (fun wx h1 h2 => spec_l7Is l fs hpw lc fc hok hn hfn (l.length - 1) (by omega) la fa wx h1 h2)
  have HR := Lib.hid hrow; have HF := Lib.hid hfrow
  generalize soK l fs (l.length - 1) = r at *
  obtain ⟨n, hnl⟩ : ∃ n, l.length = n := ⟨_, rfl⟩
  obtain ⟨m, hml⟩ : ∃ m, fs.length = m := ⟨_, rfl⟩
  rw [hnl] at hn hn1 HB0 HS ⊢
  rw [hml] at hfn HS ⊢
  clear hrow hfrow hpw hok hnl hml
  obtain ⟨k, hk⟩ : ∃ k, n - 1 = k := ⟨_, rfl⟩
  rw [hk] at HS
  have hw1 : IntKind.i64.wrap ((n : Int) - 1) = (k : Int) := by rw [IntWalk.i64_in _ (by omega)]; omega
  clear hk
  go_enter Try.func104, Try.ntmps104
  go_wp2_with fail
  refine (HS.out _ (HR.out.below HB0.out) (HF.out.below HB0.out)).mono ?_
  rintro e w1 ⟨rfl, hb⟩
  have HB1 := Lib.hid (rstep HB0.out hb); clear hb
  go_wp2_with fail
  go_ret
  exact ⟨rfl, HB1.out⟩
set_option maxHeartbeats 2000000 in
theorem spec_Matches (la : Option Addr) (lc : Nat) (l : List Wn) (s : ByteArray) (w : World) (hrow : Rw w la (wnsV l)) (hn : l.length ≤ 1048576) (hs : s.size ≤ 1048576) : Calls Try.prog 47 #[.agg #[.slice la l.length lc], .string s] w fun e w' => e = .returned (.tuple #[.bool (R_Matches l s).1, .bool (R_Matches l s).2]) ∧ Below w.heap.size w w' := by
  have HRF := Lib.hid (fun wx => spec_l5Fields s wx hs)
  have HGF := Lib.hid (fun wx (h : Rw wx la (wnsV l)) => spec_GoodFilter la lc l wx h hn)
  have HRW := Lib.hid hrow
  have HB0 := Lib.hid ((Below.refl w.heap.size w).alloc (Nat.le_refl _) (.cells #[.slice la l.length lc] 61))
  have HA : Hid ((w.alloc (.cells #[.slice la l.length lc] 61)).cell? ⟨w.heap.size, 0, none⟩ = some (.slice la l.length lc)) := Lib.hid (box_cell (box_start w (.cells #[.slice la l.length lc] 61)) 0)
  cases hG : R_GoodW l with
  | false =>
    rw [matches_bad hG]
    rw [hG] at HGF
    clear hG hrow hn
    generalize R_Rising s = Q at *
    unfold ReadO at HRF
    go_enter Try.func47, Try.ntmps47
    go_wp2_with fail
    refine (HRF.out _).mono ?_
    rintro e w1 ⟨v, rfl, ho, hb⟩
    have HB1 := Lib.hid (rstep HB0.out hb)
    have m0 : w1.cell? ⟨w.heap.size, 0, none⟩ = some (.slice la l.length lc) := below_later hb HA.out
    clear ho hb
    go_wp2_with fail
    refine (HGF.out _ (HRW.out.below HB1.out)).mono ?_
    rintro e w2 ⟨rfl, hb⟩
    have HB2 := Lib.hid (rstep HB1.out hb); clear hb
    go_wp2_with fail
    go_ret2
    exact ⟨rfl, HB2.out⟩
  | true =>
    rw [hG] at HGF
    cases hR : R_Rising s with
    | none =>
      rw [matches_none hR]
      rw [hR] at HRF
      clear hR hrow hn hG
      unfold ReadO at HRF
      go_enter Try.func47, Try.ntmps47
      go_wp2_with fail
      refine (HRF.out _).mono ?_
      rintro e w1 ⟨v, rfl, ho, hb⟩
      have HB1 := Lib.hid (rstep HB0.out hb)
      have m0 : w1.cell? ⟨w.heap.size, 0, none⟩ = some (.slice la l.length lc) := below_later hb HA.out
      clear ho hb
      go_wp2_with fail
      refine (HGF.out _ (HRW.out.below HB1.out)).mono ?_
      rintro e w2 ⟨rfl, hb⟩
      have HB2 := Lib.hid (rstep HB1.out hb); clear hb
      go_wp2_with fail
      go_ret2
      exact ⟨rfl, HB2.out⟩
    | some fs =>
      rw [hR] at HRF
      rw [matches_yes hR hG]
      have hl := good_len hG
      have hrd : R_Read s = some fs ∧ risB fs = true := by
        unfold R_Rising at hR
        cases hq : R_Read s with
        | none => rw [hq] at hR; cases hR
        | some r =>
          rw [hq] at hR
          simp only at hR
          split at hR
          · cases hR; exact ⟨rfl, by assumption⟩
          · cases hR
      have hsm := read_small hrd.1
      have HSM := Lib.hid (fun fc fa wx h1 h2 => spec_l7Matches l fs (ris_pair hrd.2) lc fc (good_ok hG) hl.1 hl.2 hsm.1 la fa wx h1 h2)
      generalize soK l fs (l.length - 1) = r at *
      clear hR hG hrow hn hl hrd hsm
      unfold ReadO at HRF
      go_enter Try.func47, Try.ntmps47
      go_wp2_with fail
      refine (HRF.out _).mono ?_
      rintro e w1 ⟨v, rfl, ho, hb⟩
      have HB1 := Lib.hid (rstep HB0.out hb)
      have m0 : w1.cell? ⟨w.heap.size, 0, none⟩ = some (.slice la l.length lc) := below_later hb HA.out
      simp only [Option.getD_some] at ho
      obtain ⟨va, vc, rfl⟩ := form_of_own ho
      have HO := Lib.hid ho
      clear ho hb
      go_wp2_with fail
      refine (HGF.out _ (HRW.out.below HB1.out)).mono ?_
      rintro e w2 ⟨rfl, hb⟩
      have HB2 := Lib.hid (rstep HB1.out hb)
      have HO2 := Lib.hid (own_later HO.out hb)
      have m1 := below_later hb m0
      clear hb m0
      go_wp2_with fail
      refine (HSM.out vc va _ (HRW.out.below HB2.out) (own_rw HO2.out)).mono ?_
      rintro e w3 ⟨rfl, hb⟩
      have HB3 := Lib.hid (rstep HB2.out hb); clear hb
      go_wp2_with fail
      go_ret2
      exact ⟨rfl, HB3.out⟩
end Go.Proofs.Ytlmgckijbamgpaa
