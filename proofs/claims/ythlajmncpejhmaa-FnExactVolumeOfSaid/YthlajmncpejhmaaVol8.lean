/- The reference's volume: the walk. -/
import Derived.Test.YthlajmncpejhmaaVol7
namespace Go.Proofs.Ythlajmncpejhmaa
set_option linter.unusedVariables false
open Go.ChangeShapes Go.WideShapes Go.ChangeAt Go.RowKit
set_option maxRecDepth 100000

set_option maxHeartbeats 8000000 in
theorem spec_volume (a : Option Addr) (cap : Nat) (l : List Bx) (w : World) (hr : kBoxS.rd w.heap.size w [.slice a l.length cap] l) (g : boxesR l = true) :
    Calls Try.prog 30 #[.slice a l.length cap] w fun e w' => e = .returned (.tuple #[.int .i64 (volumeR l), .bool true]) ∧ Below w.heap.size w w' := by
  obtain ⟨j0, hJ, hy0, hy1, hy2⟩ := info_parts Try.infoBoxV
  obtain ⟨h20, hok⟩ := boxes_ok3 g
  have HSB := Lib.hid (spec_boxes hr)
  rw [g] at HSB
  have HVE : Hid (cntB 3 (l.take l.length) = volumeR l) := Lib.hid (by rw [List.take_length]; rfl)
  have HV0 : Hid (cntB 3 (l.take 0) = 0) := Lib.hid (by rw [List.take_zero]; exact cnt_none 3)
  have HCN := Lib.hid (fun (k : Nat) (hk : k < l.length) => cnt_next hok hk)
  have HBD := Lib.hid (fun k => And.intro (cnt_nonneg 3 (l.take k)) (cnt_bd3 (Nat.le_refl 3) (l.take k)))
  have HPO := Lib.hid (fun (k : Nat) (hk : k < l.length) (j : Nat) => psR_ok hok hk j)
  have HPL := Lib.hid (fun (k : Nat) (hk : k < l.length) (j : Nat) => psR_len hok hk j)
  have HPN := Lib.hid (fun (k j : Nat) (o : Bx) (h : l[j]? = some o) => psR_next (k := k) h)
  have HP0 := Lib.hid (fun k => psR_zero l k)
  have HR := Lib.hid hr
  have HOK := Lib.hid hok
  obtain ⟨hcl, hcm⟩ : l.length ≤ cap ∧ cap ≤ maxLen := by obtain ⟨a', cap', vss, hu, hc, _⟩ := hr; simp only [List.cons.injEq, Value.slice.injEq, and_true] at hu; obtain ⟨_, _, rfl⟩ := hu; exact hc
  unfold maxLen at hcm
  generalize volumeR l = vv at *
  clear hr g hok
  generalize psR l = PS at *
  have HCT : Hid (∀ k, cntB 3 (l.take k) = cntB 3 (l.take k)) := Lib.hid (fun _ => rfl)
  obtain ⟨CT, hCT⟩ : ∃ z : Nat → Int, z = fun k => cntB 3 (l.take k) := ⟨_, rfl⟩
  have HVE' : Hid (CT l.length = vv) := Lib.hid (by rw [hCT]; exact HVE.out)
  have HV0' : Hid (CT 0 = 0) := Lib.hid (by rw [hCT]; exact HV0.out)
  have HCN' : Hid (∀ k, k < l.length → CT (k + 1) = CT k + sumI volB (PS k k)) := Lib.hid (by rw [hCT]; exact HCN.out)
  have HBD' : Hid (∀ k, 0 ≤ CT k ∧ CT k ≤ 8012006001) := Lib.hid (by rw [hCT]; exact HBD.out)
  clear hCT HVE HV0 HCN HBD HCT
  go_enter Try.func30, Try.ntmps30
  go_wp2_with fail
  refine HSB.out.mono ?_
  rintro e w1 ⟨rfl, hb⟩
  have HB1 := Lib.hid hb; clear hb HSB
  go_wp2_with fail
  go_loopw [4, 23] (fun nv kv wr => ∃ k : Nat, k ≤ l.length ∧ kv = .int .i64 (k : Int) ∧ nv = .int .i64 (CT k) ∧ Hid (Below w.heap.size w wr)) (fun _ kv _ => l.length - (intOf kv).toNat)
  case atStart => exact ⟨0, by omega, rfl, by rw [HV0'.out], HB1⟩
  case round =>
    obtain ⟨w2, rfl⟩ : ∃ z : World, z = wr := ⟨_, rfl⟩
    obtain ⟨k, hk, rfl, rfl, HB2⟩ := hrel
    by_cases hkl : k < l.length
    case neg =>
      obtain rfl : k = l.length := by omega
      go_wp2_with fail
      go_ret2
      exact ⟨by rw [HVE'.out]; rfl, HB2.out⟩
    obtain ⟨x, hx⟩ : ∃ x, l[k]? = some x := ⟨l[k], List.getElem?_eq_getElem hkl⟩
    obtain ⟨u, b, off, hu, rfl, hbl, hc⟩ := sl_one kBox_ok rfl HR.out hx
    obtain ⟨a2, p2, hu2⟩ := box_formV hu
    simp only [List.cons.injEq, and_true] at hu2
    subst hu2
    have hxok := HOK.out x (List.mem_of_getElem? hx)
    have HXB := Lib.hid (bxat_of_rd hu hxok)
    have c0 := below_cellk HB2.out hc hbl
    have hx3 := hxok.2
    rw [hx3] at c0 HXB
    have hPk0 : PS k 0 = [x] := by rw [HP0.out, List.getD_eq_getElem?_getD, hx]; rfl
    have HPk0 := Lib.hid hPk0
    have HKO := HPO.out k hkl
    have HKL := HPL.out k hkl
    have HKN := Lib.hid (fun j o h => HPN.out k j o h)
    have HKO' := Lib.hid HKO
    have HKL' := Lib.hid HKL
    have HCK := Lib.hid (HCN'.out k hkl)
    clear HKO HKL hx hu hc hPk0 hxok hx3
    have hkc : k ≤ cap := by omega
    generalize PS k = PK at *
    go_wp2_with fail
    go_loopw [7, 34] (fun pv jv wr => ∃ (j : Nat) (v : Value) (vs : List Value), j ≤ k ∧ jv = .int .i64 (j : Int) ∧ pv = v ∧ Hid (wr.ownsRow w.heap.size 28 1 v (PK j).length vs) ∧ Hid (Pts wr (fun _ => True) vs (PK j)) ∧ Hid (Below w.heap.size w wr)) (fun _ jv _ => k - (intOf jv).toNat)
    case atStart =>
      have hb2 : Below w2.heap.size w2 ((w2.alloc (.cells #[.slice a2 3 p2] 28)).alloc (.cells #[.slice a2 3 p2] 28)) := ralloc (ralloc (Below.refl _ _) _) _
      have hx2 := HXB.out.frame (w' := w2) HB2.out.size (M := fun _ => True) (fun b hb _ => ⟨HB2.out.block b hb, trivial⟩)
      have h9 := own_litV (w2.alloc (.cells #[.slice a2 3 p2] 28)) 28 (.slice a2 3 p2) (base := w.heap.size) (by have := HB2.out.size; simp; omega)
      rw [World.size_alloc] at h9
      exact ⟨0, _, [.slice a2 3 p2], by omega, rfl, rfl, Lib.hid (by rw [HPk0.out]; exact h9), Lib.hid (by rw [HPk0.out]; exact ⟨hx2.frame hb2.size (fun b hb _ => ⟨hb2.block b hb, trivial⟩), trivial⟩), Lib.hid (rstep HB2.out hb2)⟩
    case round =>
      obtain ⟨w3, rfl⟩ : ∃ z : World, z = wr := ⟨_, rfl⟩
      obtain ⟨j, v, vs, hj, rfl, rfl, HO, HP, HB3⟩ := hrel
      by_cases hjl : j < k
      case neg =>
        obtain rfl : j = k := by omega
        have HPO1 := Lib.hid (HKO'.out j)
        have HVT := Lib.hid (fun (p : Bx) (h : Ok3 p) i => vol_take h i)
        have HST := Lib.hid (fun m => sumI_take (f := volB) (PK j) m (fun p hp => by have := vol_pos p (HKO'.out j p hp).1; omega))
        have hb0 := HBD'.out j
        have hb1 := HBD'.out (j + 1)
        have hck := HCK.out
        have hql := HKL'.out j
        generalize PK j = Q at *
        obtain ⟨C1, hC1⟩ : ∃ z, z = CT (j + 1) := ⟨_, rfl⟩
        have HCT2 : Hid (CT (j + 1) = C1) := Lib.hid hC1.symm
        rw [← hC1] at hb1 hck
        clear hC1 HCK HKN HKO' HKL' HPk0
        generalize CT j = C0 at *
        have HC1 := Lib.hid hck
        obtain ⟨va, vc, rfl⟩ := form_of_own HO.out
        go_wp2_with fail
        go_loopw [4, 54] (fun nv mv wr => ∃ m : Nat, m ≤ Q.length ∧ mv = .int .i64 (m : Int) ∧ nv = .int .i64 (C0 + sumI volB (Q.take m)) ∧ Hid (Below w3.heap.size w3 wr)) (fun _ mv _ => Q.length - (intOf mv).toNat)
        case atStart => exact ⟨0, by omega, rfl, by rw [List.take_zero, sumI, Int.add_zero], Lib.hid (Below.refl _ _)⟩
        case round =>
          obtain ⟨w5, rfl⟩ : ∃ z : World, z = wr := ⟨_, rfl⟩
          obtain ⟨m, hm, rfl, rfl, HB5⟩ := hrel
          by_cases hml : m < Q.length
          case neg =>
            obtain rfl : m = Q.length := by omega
            rw [List.take_length]
            have hw : C0 + sumI volB Q = C1 := HC1.out.symm
            go_wp2_with fail
            go_roundw
            case rel => exact ⟨j + 1, by omega, by go_num, by rw [HCT2.out, hw], Lib.hid (rstep HB3.out HB5.out)⟩
            case measure => (simp [intOf]; try omega)
          obtain ⟨p, hp⟩ : ∃ p, Q[m]? = some p := ⟨Q[m], List.getElem?_eq_getElem hml⟩
          obtain ⟨g, cp, hv, _, _⟩ := HO.out.form (by omega : 1 ≤ Q.length)
          simp only [Value.slice.injEq, true_and] at hv
          obtain ⟨rfl, rfl⟩ := hv
          obtain ⟨pv, hpv, hpb⟩ := HP.out.at m p hp
          have cm := below_cellk HB5.out (own_cellk HO.out hpv) (HO.out.lt g rfl).2
          have HPB := Lib.hid (hpb.frame (M := fun _ => True) HB5.out.size (fun b hb _ => ⟨HB5.out.block b hb, trivial⟩))
          obtain ⟨pb, po, pc, rfl, hpcap, _, _, hp3, _⟩ := hpb
          have hgl : g < w5.heap.size := World.block_lt_of_cell? w5 _ cm
          have hPok := HPO1.out p (List.mem_of_getElem? hp)
          have HVTp := Lib.hid (HVT.out p hPok)
          have HPok := Lib.hid hPok
          have hn1 := HST.out (m + 1)
          have hn0 := HST.out m
          rw [sumI_nextV hp] at hn1
          have HNm := Lib.hid (sumI_nextV (f := volB) hp)
          have hvp : volB p = volB (p.take 3) := by rw [← hp3, List.take_length]
          have HVP := Lib.hid hvp
          have hmi : (m : Int) < (Q.length : Int) := by omega
          have hm0 : (0 : Int) ≤ (m : Int) := Int.natCast_nonneg _
          clear hp hpv hPok hvp
          generalize sumI volB (Q.take m) = S0 at *
          go_wp2_with fail
          obtain ⟨w6, hw6⟩ : ∃ z, z = w5.alloc (.cells #[.slice (some ⟨pb, po, none⟩) 3 pc] 28) := ⟨_, rfl⟩
          have HB6 : Hid (Below w5.heap.size w5 w6) := Lib.hid (by rw [hw6]; exact ralloc (Below.refl _ _) _)
          rw [← hw6]
          clear hw6
          go_loopw [15, 61] (fun tv iv wr => ∃ i : Nat, i ≤ 3 ∧ iv = .int .i64 (i : Int) ∧ tv = .int .i64 (volB (p.take i)) ∧ Hid (Below w6.heap.size w6 wr)) (fun _ iv _ => 3 - (intOf iv).toNat)
          case atStart => exact ⟨0, by omega, rfl, by rw [List.take_zero, volB], Lib.hid (Below.refl _ _)⟩
          case round =>
            obtain ⟨w7, rfl⟩ : ∃ z : World, z = wr := ⟨_, rfl⟩
            obtain ⟨i, hi3, rfl, rfl, HB7⟩ := hrel
            have HB57 : Hid (Below w5.heap.size w5 w7) := Lib.hid (rstep HB6.out HB7.out)
            by_cases hil : i < 3
            case neg =>
              obtain rfl : i = 3 := by omega
              rw [← HVP.out]
              have hw : IntKind.i64.wrap (C0 + S0 + volB p) = C0 + S0 + volB p := IntWalk.i64_in _ (by omega)
              go_wp2_with fail
              go_roundw
              case rel => exact ⟨m + 1, by omega, by go_num, by rw [HNm.out, Int.add_assoc], Lib.hid (rstep HB5.out HB57.out)⟩
              case measure => (simp [intOf]; try omega)
            obtain ⟨s, hs⟩ : ∃ s, p[i]? = some s := ⟨p[i]'(by rw [hp3]; exact hil), List.getElem?_eq_getElem _⟩
            have hsr := HPok.out.1 s (List.mem_of_getElem? hs)
            have hsg : p.getD i (0, 0) = s := by rw [List.getD_eq_getElem?_getD, hs]; rfl
            have hv0 := HVTp.out i
            have hv1 := HVTp.out (i + 1)
            have HVN := Lib.hid (volB_next hs)
            rw [volB_next hs] at hv1
            obtain ⟨b3, o3, c3, hpv, _, hb3, _, _, hc3⟩ := HPB.out
            simp only [Value.slice.injEq, Option.some.injEq, Addr.mk.injEq, and_true, true_and] at hpv
            obtain ⟨⟨rfl, rfl⟩, rfl⟩ := hpv
            have e0 := below_cellk HB57.out (hc3 _ _ (sds_lo p i (by rw [hp3]; exact hil))) hb3
            have e1 := below_cellk HB57.out (hc3 _ _ (sds_hi p i (by rw [hp3]; exact hil))) hb3
            rw [hsg] at e0 e1
            rw [← Nat.add_assoc] at e1
            have hii : (i : Int) < 3 := by omega
            have hi0 : (0 : Int) ≤ (i : Int) := Int.natCast_nonneg _
            clear hs hc3
            obtain ⟨s1, s2⟩ := s
            simp only at hsr e0 e1 hv1 HVN
            generalize volB (p.take i) = V0 at *
            have hw1 : IntKind.i64.wrap (s2 - s1) = s2 - s1 := IntWalk.i64_in _ (by omega)
            have hw2 : IntKind.i64.wrap (s2 - s1 + 1) = s2 - s1 + 1 := IntWalk.i64_in _ (by omega)
            have hw3 : IntKind.i64.wrap (V0 * (s2 - s1 + 1)) = V0 * (s2 - s1 + 1) := IntWalk.i64_in _ (by omega)
            go_wp2_with fail
            go_roundw
            case rel => exact ⟨i + 1, by omega, by go_num, by rw [HVN.out], Lib.hid (rstep HB7.out (ralloc (Below.refl _ _) _))⟩
            case measure => (simp [intOf]; try omega)
      have hjll : j < l.length := by omega
      obtain ⟨o, ho⟩ : ∃ o, l[j]? = some o := ⟨l[j], List.getElem?_eq_getElem hjll⟩
      obtain ⟨u, b', off', hu, hab, hbl', hc⟩ := sl_one kBox_ok rfl HR.out ho
      simp only [Option.some.injEq, Addr.mk.injEq, and_true] at hab
      obtain ⟨rfl, rfl⟩ := hab
      obtain ⟨a3, p3, hu2⟩ := box_formV hu
      simp only [List.cons.injEq, and_true] at hu2
      subst hu2
      have hook := HOK.out o (List.mem_of_getElem? ho)
      have HOB := Lib.hid (bxat_of_rd hu hook)
      have c3 := below_cellk HB3.out hc hbl
      rw [hook.2] at c3 HOB
      obtain ⟨ob, oo, oc, hov, hocap, hobl, _, _, hocl⟩ := HOB.out
      simp only [Value.slice.injEq, true_and] at hov
      obtain ⟨rfl, rfl⟩ := hov
      have HRO := Lib.hid (HOB.out.rw)
      have HOO := Lib.hid hook
      have HNXT := Lib.hid (HKN.out j o ho)
      have hlen := HKL'.out j
      have hlen1 := HKL'.out (j + 1)
      have HPO1 := Lib.hid (HKO'.out j)
      have HNL := Lib.hid (fun m => nxR_len (PK j) o m)
      rw [← HNXT.out] at HNL
      have HNF : Hid (nxR (PK j) o (PK j).length = PK (j + 1)) := Lib.hid (by rw [HNXT.out]; unfold nxR; rw [List.take_length])
      have HN0 : Hid (nxR (PK j) o 0 = []) := Lib.hid (by unfold nxR; rw [List.take_zero]; rfl)
      have HNN := Lib.hid (fun (m : Nat) (p : Bx) (h : (PK j)[m]? = some p) => nxR_next (o := o) h)
      obtain ⟨NX, hNX⟩ : ∃ z, z = nxR (PK j) o := ⟨_, rfl⟩
      rw [← hNX] at HNL HNF HN0 HNN
      obtain ⟨Q, hQ⟩ : ∃ z, z = PK j := ⟨_, rfl⟩
      rw [← hQ] at HNF HNN HO HP hlen HPO1
      clear hNX hQ hocl hobl hu hc hook ho
      obtain ⟨va, vc, rfl⟩ := form_of_own HO.out
      have hjc : (j : Int) < (k : Int) := by omega
      go_wp2_with fail
      have HO4 : Hid (w3.heap.size + 1 ≤ (w3.alloc (.cells #[.slice (some ⟨ob, oo, none⟩) 3 p3] 28)).heap.size) := Lib.hid (by simp)
      have k9 : (w3.alloc (.cells #[.slice (some ⟨ob, oo, none⟩) 3 p3] 28)).cell? ⟨w3.heap.size, 0, none⟩ = some (.slice (some ⟨ob, oo, none⟩) 3 p3) := by go_simp
      have HK9 := Lib.hid k9
      clear k9
      have HB43 : Hid (Below w3.heap.size w3 (w3.alloc (.cells #[.slice (some ⟨ob, oo, none⟩) 3 p3] 28))) := Lib.hid ((Below.refl _ _).alloc (Nat.le_refl _) _)
      obtain ⟨w4, hw4⟩ : ∃ z, z = w3.alloc (.cells #[.slice (some ⟨ob, oo, none⟩) 3 p3] 28) := ⟨_, rfl⟩
      rw [← hw4] at HO4 HK9 HB43 ⊢
      clear hw4
      go_loopw [10, 40] (fun nv mv wr => ∃ (m : Nat) (v : Value) (us : List Value), m ≤ Q.length ∧ mv = .int .i64 (m : Int) ∧ nv = v ∧ Hid (wr.ownsRow (w3.heap.size + 1) 28 1 v (NX m).length us) ∧ Hid (Pts wr (fun k => v.ownBlock ≠ some k ∧ True) us (NX m)) ∧ Hid (Below (w3.heap.size + 1) w4 wr)) (fun _ mv _ => Q.length - (intOf mv).toNat)
      case atStart => exact ⟨0, _, [], by omega, rfl, rfl, Lib.hid (by rw [HN0.out]; exact World.ownsRow_nil _ _ _ _), Lib.hid (by rw [HN0.out]; trivial), Lib.hid (Below.refl _ _)⟩
      case round =>
        obtain ⟨w5, rfl⟩ : ∃ z : World, z = wr := ⟨_, rfl⟩
        obtain ⟨m, v, us, hm, rfl, rfl, HN, HQ, HB5⟩ := hrel
        have HB53 : Hid (Below w3.heap.size w3 w5) := Lib.hid (HB43.out.trans (HB5.out.mono (by omega)))
        have hs5 : w3.heap.size + 1 ≤ w5.heap.size := Nat.le_trans HO4.out HB5.out.size
        by_cases hml : m < Q.length
        case neg =>
          obtain rfl : m = Q.length := by omega
          rw [HNF.out] at HN HQ
          go_wp2_with fail
          go_roundw
          case rel => exact ⟨j + 1, _, us, by omega, by go_num, rfl, Lib.hid (own_mono HN.out (by have := HB3.out.size; omega)), Lib.hid (HQ.out.frame (Nat.le_refl _) (fun b _ _ => ⟨rfl, trivial⟩)), Lib.hid (rstep HB3.out HB53.out)⟩
          case measure => (simp [intOf]; try omega)
        obtain ⟨p, hp⟩ : ∃ p, Q[m]? = some p := ⟨Q[m], List.getElem?_eq_getElem hml⟩
        obtain ⟨g, cp, hv, _, _⟩ := HO.out.form (by omega : 1 ≤ Q.length)
        simp only [Value.slice.injEq, true_and] at hv
        obtain ⟨rfl, rfl⟩ := hv
        obtain ⟨pv, hpv, hpb⟩ := HP.out.at m p hp
        have cm := below_cellk HB53.out (own_cellk HO.out hpv) (HO.out.lt g rfl).2
        have HPB := Lib.hid (hpb.frame (M := fun _ => True) HB53.out.size (fun b hb _ => ⟨HB53.out.block b hb, trivial⟩))
        obtain ⟨pb, po, pc, rfl, hpcap, _, _, _, _⟩ := hpb
        have HRP := Lib.hid (HPB.out.rw)
        have k9 : w5.cell? ⟨w3.heap.size, 0, none⟩ = some (.slice (some ⟨ob, oo, none⟩) 3 p3) := below_cellk HB5.out HK9.out (by omega)
        have hgl : g < w5.heap.size := World.block_lt_of_cell? w5 _ cm
        have h39 : w3.heap.size < w5.heap.size := by omega
        have HPok := Lib.hid (HPO1.out p (List.mem_of_getElem? hp))
        have HCUT := Lib.hid (fun (wx : World) (h1 : Below w5.heap.size w5 wx) => spec_cut (some ⟨pb, po, none⟩) (some ⟨ob, oo, none⟩) pc p3 p o wx (HRP.out.below h1) (HRO.out.below (rstep (rstep HB3.out HB53.out) h1)) HPok.out HOO.out)
        have HNm := Lib.hid (HNN.out m p hp)
        have hml1 := HNL.out (m + 1)
        rw [HNm.out, List.length_append] at hml1
        have hmi : (m : Int) < (Q.length : Int) := by omega
        have hm0 : (0 : Int) ≤ (m : Int) := Int.natCast_nonneg _
        clear hp hpv
        generalize cutS p o = CP at *
        go_wp2_with fail
        refine (HCUT.out _ (ralloc (Below.refl w5.heap.size w5) _)).mono ?_
        rintro e w7 ⟨v7, vs7, rfl, ho7, hp7, hb7, hn7⟩
        have HB7 := Lib.hid (rstep (ralloc (Below.refl w5.heap.size w5) (.cells #[.slice (some ⟨pb, po, none⟩) 3 pc] 28)) hb7)
        have HN7 := Lib.hid (own_later HN.out HB7.out)
        have HQ7 := Lib.hid (HQ.out.frame HB7.out.size (fun b hb hn => ⟨HB7.out.block b hb, hn⟩))
        have HV7 : Hid (Pts w7 (fun k => u10.ownBlock ≠ some k ∧ True) vs7 CP) := Lib.hid (hp7.frame (Nat.le_refl _) (fun b hb hn => ⟨rfl, fun e => by have h1 := (HN.out.lt b e).2; have h2 := hn.2; simp at h2; omega, trivial⟩))
        have HB57 := Lib.hid (HB5.out.trans (HB7.out.mono hs5))
        rcases Nat.eq_zero_or_pos CP.length with h0 | h0
        · obtain rfl := hn7 h0
          obtain rfl : CP = [] := List.length_eq_zero_iff.1 h0
          clear ho7 hp7 hb7 hn7 h0
          go_wp2_with (at_builtin; refine wpList_append_own_none rfl _ _ 40 rfl (w3.heap.size + 1) 28 j0 1 Try.underlying40 hJ _ _ _ rfl HN7.out rfl ?_)
          go_wp2_with fail
          go_roundw
          case rel => exact ⟨m + 1, _, us, by omega, by go_num, rfl, Lib.hid (by rw [HNm.out, List.append_nil]; exact HN7.out), Lib.hid (by rw [HNm.out, List.append_nil]; exact HQ7.out), HB57⟩
          case measure => (simp [intOf]; try omega)
        · obtain ⟨g7, c7, rfl, _, _⟩ := ho7.form h0
          have HNW7 : Hid (∀ q u, vs7[q]? = some u → w7.cell? ((⟨g7, 0, none⟩ : Addr).add q) = some u) := Lib.hid (fun q u hq => by rw [addr_addV, Nat.zero_add]; exact own_cellk ho7 hq)
          have HL7 : Hid (vs7.length = CP.length * 1) := Lib.hid ho7.1
          clear ho7 hp7 hb7 hn7
          go_wp2_with (at_builtin; refine wpList_append_lies _ rfl _ _ 40 rfl (w3.heap.size + 1) 28 j0 (.agg #[.slice none 0 0]) 1 24 Try.underlying40 hJ hy0 hy1 hy2 rfl (by decide) _ _ _ rfl HN7.out ⟨g7, 0, none⟩ CP.length c7 vs7 rfl HL7.out HNW7.out HV7.out.one h0 (by unfold maxLen; omega) (by omega) (by have := HB7.out.size; omega) _ rfl ?_)
          intro g8 c8 w8 hown hgrow hat hlt
          have HO8 : Hid (w8.ownsRow (w3.heap.size + 1) 28 1 (.slice (some ⟨g8, 0, none⟩) ((NX m).length + CP.length) c8) ((NX m).length + CP.length) (us ++ vs7)) := Lib.hid hown
          have HQ8 : Hid (Pts w8 (fun k => some g8 ≠ some k ∧ True) (us ++ vs7) (NX m ++ CP)) := Lib.hid (Pts.grown HQ7.out HV7.out hgrow hat)
          have HB8 := Lib.hid (Below.grown HB57.out hgrow (by have := HB7.out.size; omega) (fun q hq => (HN7.out.lt q hq).1))
          clear hown hgrow hat
          go_wp2_with fail
          go_roundw
          case rel => exact ⟨m + 1, _, us ++ vs7, by omega, by go_num, rfl, Lib.hid (by rw [HNm.out, List.length_append]; exact HO8.out), Lib.hid (by rw [HNm.out]; exact HQ8.out), HB8⟩
          case measure => (simp [intOf]; try omega)
end Go.Proofs.Ythlajmncpejhmaa
