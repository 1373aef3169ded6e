/- The walk of FnSearch: whatever the arguments, the call returns true and writes nothing that was there. -/
import Derived.Test.YtfkcchbbbfeamaaArgs
import Derived.Deep.RegionHeld3
import Derived.Test.YtfkcchbbbfeamaaSearchL
import Derived.Test.YtfkcchbbbfeamaaCurS
import Derived.Test.YtfkcchbbbfeamaaSame
namespace Go.Proofs.Ytfkcchbbbfeamaa.fnSearch
open Go.ChangeShapes Go.WideShapes Go.ChangeAt Go.RowKit
open Go.ChangeMaps (open_string shut_string)
set_option linter.unusedVariables false


set_option maxHeartbeats 1000000 in
set_option maxRecDepth 100000 in
theorem walk (w : World) (v0 : Value) (a0 : List UInt8) (w0 : IsBytes w v0 a0) (v1 : Value) (a1 : List UInt8) (w1 : IsBytes w v1 a1) :
    Calls Try.prog 6 #[v0, v1] w fun e w' => e = .returned (.bool true) ∧ Below w.heap.size w w' := by
  obtain ⟨ca, cc, rfl, hr0, hl0, hm0⟩ := w0
  obtain ⟨ma, mc, rfl, hr1, hl1, hm1⟩ := w1
  unfold maxLen at hm0 hm1
  have HR0 := Lib.hid hr0; have HR1 := Lib.hid hr1
  clear hr0 hr1
  by_cases hsum : (1048576 : Int) < wrap64 ((a0.length : Int) + (a1.length : Int))
  case pos =>
    go_enter Try.func6, Try.ntmps6
    go_wp2_with fail
    go_ret
    exact ⟨rfl, Below.refl _ _⟩
  go_enter Try.func6, Try.ntmps6
  go_wp2_with fail
  refine (draw_findAll w ca cc a0 hl0 hm0 HR0.out.rb).mono ?_
  rintro e w1 ⟨s, p, rfl, hs, hp, hb⟩
  have HB1 := Lib.hid hb; clear hb
  have hs63 : s.size ≤ maxLen := by unfold maxLen; omega
  have hp63 : p.size ≤ maxLen := by unfold maxLen; omega
  have HI := Lib.hid (fun wx => impl_findAll s p wx hs63 hp63)
  have HS := Lib.hid (fun wx => spec_findAll s p wx hs63 hp63)
  by_cases hok : s.size ≤ 200 ∧ inB (p.size : Int) 1 200 = true
  case neg =>
    rw [FindR_no s p hok] at HI HS
    clear hok hsum
    go_wp2_with fail
    refine (HI.out _).mono ?_
    rintro e w2 ⟨v2, rfl, ho2, hb⟩
    have HO2 := Lib.hid ho2; have HB2 := Lib.hid (rstep HB1.out hb); clear ho2 hb
    obtain ⟨a2, c2, rfl⟩ := form_of_own HO2.out
    go_wp2_with fail
    refine (HS.out _).mono ?_
    rintro e w3 ⟨v3, rfl, ho3, hb⟩
    have HO3 := Lib.hid ho3; have HB3 := Lib.hid (rstep HB2.out hb); have HO23 := Lib.hid (own_later HO2.out hb); clear ho3 hb
    obtain ⟨a3, c3, rfl⟩ := form_of_own HO3.out
    go_wp2_with fail
    refine (same_ints a2 a3 c2 c3 [] [] w3 (own_rw HO23.out) (own_rw HO3.out) (by decide) (by decide)).mono ?_
    rintro e w' ⟨rfl, q, rfl⟩
    have HB4 := Lib.hid (rdrew HB3.out q)
    generalize w3.drewN q = w4 at *
    go_wp2_with fail
    refine (draw_borders w4 ma mc a1 hl1 hm1 (HR1.out.below HB4.out).rb).mono ?_
    rintro e w5 ⟨t, rfl, ht, hb⟩
    have HB5 := Lib.hid (rstep HB4.out hb); clear hb
    have ht63 : t.size ≤ maxLen := by unfold maxLen; omega
    cases hin : inB (t.size : Int) 1 200 with
    | false =>
      have HBR : Hid (BordersR t = ([], false)) := Lib.hid (by unfold BordersR; rw [hin]; rfl)
      have HPR := Lib.hid (PeriodR_no t hin)
      have HI := Lib.hid (fun wx => impl_bordersOf t wx ht63)
      have HS := Lib.hid (fun wx => spec_bordersOf t wx ht63)
      have HPI := Lib.hid (fun wx => impl_periodOf t wx ht63)
      have HPS := Lib.hid (fun wx => spec_periodOf t wx ht63)
      rw [HBR.out] at HI HS
      rw [HPR.out] at HPI HPS
      clear hin HBR HPR
      go_wp2_with fail
      refine (HI.out _).mono ?_
      rintro e w6 ⟨v6, rfl, ho6, hb⟩
      have HO6 := Lib.hid ho6; have HB6 := Lib.hid (rstep HB5.out hb); clear ho6 hb
      obtain ⟨a6, c6, rfl⟩ := form_of_own HO6.out
      go_wp2_with fail
      refine (HS.out _).mono ?_
      rintro e w7 ⟨v7, rfl, ho7, hb⟩
      have HO7 := Lib.hid ho7; have HB7 := Lib.hid (rstep HB6.out hb); have HO67 := Lib.hid (own_later HO6.out hb); clear ho7 hb
      obtain ⟨a7, c7, rfl⟩ := form_of_own HO7.out
      go_wp2_with fail
      refine (HPI.out _).mono ?_
      rintro e w8 ⟨rfl, hb⟩
      have HB8 := Lib.hid (rstep HB7.out hb); have HO68 := Lib.hid (own_later HO67.out hb); have HO78 := Lib.hid (own_later HO7.out hb); clear hb
      go_wp2_with fail
      refine (HPS.out _).mono ?_
      rintro e w9 ⟨rfl, hb⟩
      have HB9 := Lib.hid (rstep HB8.out hb); have HO69 := Lib.hid (own_later HO68.out hb); have HO79 := Lib.hid (own_later HO78.out hb); clear hb
      go_wp2_with fail
      refine (same_ints a6 a7 c6 c7 [] [] w9 (own_rw HO69.out) (own_rw HO79.out) (by decide) (by decide)).mono ?_
      rintro e w' ⟨rfl, q, rfl⟩
      have HB10 := Lib.hid (rdrew HB9.out q)
      clear HO6 HO7 HO67 HO68 HO78 HO69 HO79 HB6 HB7 HB8 HB9
      generalize w9.drewN q = w10 at *
      go_wp2_with fail
      go_loop [157] (fun jv => jv = .int .i64 0) (fun _ => 0)
      case atStart => rfl
      case round =>
        obtain rfl := hrel
        go_wp2_with fail
        go_ret
        exact ⟨rfl, HB10.out⟩
    | true =>
      obtain ⟨htb1, htb2⟩ : 1 ≤ t.size ∧ t.size ≤ 200 := by have := inB_of hin; omega
      have HBR : Hid (BordersR t = (nats (bordL t t.size), true)) := Lib.hid (by unfold BordersR; rw [hin]; rfl)
      have HPR := Lib.hid (PeriodR_yes t hin)
      have HI := Lib.hid (fun wx => impl_bordersOf t wx ht63)
      have HS := Lib.hid (fun wx => spec_bordersOf t wx ht63)
      have HPI := Lib.hid (fun wx => impl_periodOf t wx ht63)
      have HPS := Lib.hid (fun wx => spec_periodOf t wx ht63)
      rw [HBR.out] at HI HS
      rw [HPR.out] at HPI HPS
      have hbl := bord_le t (t.size - 1) (by omega)
      have HLE := Lib.hid (bord_le t)
      have HYES := Lib.hid (bord_yes t)
      have HNO := Lib.hid (bord_no t)
      have HPE := Lib.hid (period_eq t)
      have hlen := bordL_length t t.size
      have hlen2 : (nats (bordL t t.size)).length = t.size := by rw [nats_length, hlen]
      generalize hbb : bordL t t.size = bb at *
      clear hin HBR HPR hbb
      simp only at HPI HPS
      generalize hx0 : bb.getD (t.size - 1) 0 = x0 at *
      have HX0 := Lib.hid hx0; clear hx0
      have HC : Hid (∀ k, k < t.size → (ints (nats bb))[k]? = some (.int .i64 ((bb.getD k 0 : Nat) : Int))) := Lib.hid fun k hk => by
        rw [ints_at _ _ (by omega), nats_getD]
      have HL2 := Lib.hid hlen2
      clear hlen hlen2
      go_wp2_with fail
      refine (HI.out _).mono ?_
      rintro e w6 ⟨v6, rfl, ho6, hb⟩
      rw [HL2.out] at ho6
      have HO6 := Lib.hid ho6; have HB6 := Lib.hid (rstep HB5.out hb); clear ho6 hb
      obtain ⟨g6, c6, rfl, hg6a, hg6⟩ := HO6.out.form (by omega)
      go_wp2_with fail
      refine (HS.out _).mono ?_
      rintro e w7 ⟨v7, rfl, ho7, hb⟩
      rw [HL2.out] at ho7
      have HO7 := Lib.hid ho7; have HB7 := Lib.hid (rstep HB6.out hb); have HO67 := Lib.hid (own_later HO6.out hb); clear ho7 hb
      obtain ⟨a7, c7, rfl⟩ := form_of_own HO7.out
      go_wp2_with fail
      refine (HPI.out _).mono ?_
      rintro e w8 ⟨rfl, hb⟩
      have HB8 := Lib.hid (rstep HB7.out hb); have HO68 := Lib.hid (own_later HO67.out hb); have HO78 := Lib.hid (own_later HO7.out hb); clear hb
      go_wp2_with fail
      refine (HPS.out _).mono ?_
      rintro e w9 ⟨rfl, hb⟩
      have HB9 := Lib.hid (rstep HB8.out hb); have HO69 := Lib.hid (own_later HO68.out hb); have HO79 := Lib.hid (own_later HO78.out hb); clear hb
      have HSM := Lib.hid (same_ints (some ⟨g6, 0, none⟩) a7 c6 c7 (nats bb) (nats bb) w9 (own_rw HO69.out) (own_rw HO79.out) (by have := HL2.out; omega) (by have := HL2.out; omega))
      rw [HL2.out, decide_eq_true (rfl : nats bb = nats bb)] at HSM
      go_wp2_with fail
      refine HSM.out.mono ?_
      rintro e w' ⟨rfl, q, rfl⟩
      have HB10 := Lib.hid (rdrew HB9.out q)
      have HO10 := Lib.hid (own_drewN HO69.out q)
      clear HO6 HO7 HO67 HO68 HO78 HO69 HO79 HB6 HB7 HB8 HB9 HSM HI HS HPI HPS
      generalize w9.drewN q = w10 at *
      have hneg : ((t.size : Int) - (x0 : Int) != (t.size : Int) - (x0 : Int)) = false := by simp
      go_wp2_with fail
      go_loopw [157] (fun kv wr => ∃ k : Nat, k ≤ t.size ∧ kv = .int .i64 (k : Int) ∧ Drawn w10 wr) (fun kv _ => t.size - (intOf kv).toNat)
      case atStart => exact ⟨0, by omega, rfl, Drawn.refl _⟩
      case round =>
        obtain ⟨k, hk, rfl, q, rfl⟩ := hrel
        by_cases hkl : k < t.size
        · have hcell := (own_drewN HO10.out q).cellAt k (by have := HL2.out; omega)
          rw [HC.out k hkl] at hcell
          have hle := HLE.out k hkl
          have hyes := HYES.out k hkl
          have HN := Lib.hid (fun y => HNO.out k y hkl)
          generalize bb.getD k 0 = x at *
          have hd0 : decide (k < x) = false := by simp; omega
          have e1 : IntKind.i64.wrap ((k : Int) + 1) = (k : Int) + 1 := IntWalk.i64_in _ (by omega)
          have e2 : IntKind.i64.wrap ((k : Int) + 1 - (x : Int)) = (k : Int) + 1 - (x : Int) := IntWalk.i64_in _ (by omega)
          have e3 : ((k : Int) + 1 - (x : Int)).toNat = k + 1 - x := by omega
          have e4 : ((k : Int) + 1).toNat = k + 1 := by omega
          have e5 : (0 : Int) ≤ (k : Int) + 1 - (x : Int) := by omega
          have e6 : (k : Int) + 1 - (x : Int) ≤ (k : Int) + 1 := by omega
          have e7 : (k : Int) + 1 ≤ (t.size : Int) := by omega
          have e8 : (x : Int) ≤ (t.size : Int) := by omega
          have hyes2 : (!(t.extract 0 x).toList == (t.extract (k + 1 - x) (k + 1)).toList) = false := by rw [hyes]; rfl
          clear hyes
          go_wp2_with fail
          go_quiet (fail)
          go_wp2_with fail
          go_loopw [27] (fun yv wr => ∃ y : Nat, x < y ∧ y ≤ k + 1 ∧ yv = .int .i64 (y : Int) ∧ Drawn w10 wr) (fun yv _ => k + 1 - (intOf yv).toNat)
          case atStart => exact ⟨x + 1, by omega, by omega, by go_num, ⟨_, rfl⟩⟩
          case round =>
            obtain ⟨y, hy1, hy2, rfl, q, rfl⟩ := hrel
            by_cases hyl : y ≤ k
            · have hno := HN.out y hy1 hyl
              have f2 : IntKind.i64.wrap ((k : Int) + 1 - (y : Int)) = (k : Int) + 1 - (y : Int) := IntWalk.i64_in _ (by omega)
              have f3 : ((k : Int) + 1 - (y : Int)).toNat = k + 1 - y := by omega
              have f5 : (0 : Int) ≤ (k : Int) + 1 - (y : Int) := by omega
              have f6 : (k : Int) + 1 - (y : Int) ≤ (k : Int) + 1 := by omega
              have f8 : (y : Int) ≤ (t.size : Int) := by omega
              go_wp2_with fail
              go_quiet (fail)
              go_wp2_with fail
              go_roundw
              case rel => exact ⟨y + 1, by omega, by omega, by go_num, ⟨_, rfl⟩⟩
              case measure => simp [intOf]; omega
            · go_wp2_with fail
              go_roundw
              case rel => exact ⟨k + 1, by omega, by go_num, ⟨_, rfl⟩⟩
              case measure => simp [intOf]; omega
        · go_wp2_with fail
          go_loopw [28] (fun iv wr => ∃ i : Nat, t.size - x0 ≤ i ∧ i ≤ t.size ∧ iv = .int .i64 (i : Int) ∧ Drawn w10 wr) (fun iv _ => t.size - (intOf iv).toNat)
          case atStart => exact ⟨t.size - x0, by omega, by omega, by go_num, ⟨_, rfl⟩⟩
          case round =>
            obtain ⟨i, hi1, hi2, rfl, q, rfl⟩ := hrel
            by_cases hil : i < t.size
            · have hpe := HPE.out i hi1 hil
              have e1 : IntKind.i64.wrap ((i : Int) - ((t.size : Int) - (x0 : Int))) = ((i - (t.size - x0) : Nat) : Int) := by rw [IntWalk.i64_in _ (by omega)]; omega
              have hil2 : i - (t.size - x0) < t.size := by omega
              have hne : ((t[i].toNat : Int) != (t[i - (t.size - x0)].toNat : Int)) = false := by rw [atS_eq t i hil, atS_eq t _ hil2, hpe]; simp
              clear hpe
              generalize i - (t.size - x0) = i2 at *
              go_wp2_with fail
              go_quiet (fail)
              go_wp2_with fail
              go_roundw
              case rel => exact ⟨i + 1, by omega, by omega, by go_num, ⟨_, rfl⟩⟩
              case measure => simp [intOf]; omega
            · go_wp2_with fail
              go_ret
              exact ⟨rfl, rdrew HB10.out _⟩
  have hpb := inB_of hok.2
  have hp1 : 1 ≤ p.size := by omega
  rw [FindR_yes s p hok] at HI HS
  have HH := Lib.hid (find_has s p hp1)
  have HRG := Lib.hid (find_rng s p hp1)
  have hlk := find_looks s p hp1
  have hol := (findSt_bd s p hp1 s.size).1
  generalize (findSt s p s.size).1 = o at *
  generalize (findSt s p s.size).2.2 = lk at *
  have hs2 := hok.1
  clear hok hsum hpb
  go_wp2_with fail
  refine (HI.out _).mono ?_
  rintro e w2 ⟨v2, rfl, ho2, hb⟩
  have HO2 := Lib.hid ho2; have HB2 := Lib.hid (rstep HB1.out hb); clear ho2 hb
  obtain ⟨a2, c2, rfl⟩ := form_of_own HO2.out
  go_wp2_with fail
  refine (HS.out _).mono ?_
  rintro e w3 ⟨v3, rfl, ho3, hb⟩
  have HO3 := Lib.hid ho3; have HB3 := Lib.hid (rstep HB2.out hb); have HO23 := Lib.hid (own_later HO2.out hb); clear ho3 hb
  obtain ⟨a3, c3, rfl⟩ := form_of_own HO3.out
  go_wp2_with fail
  refine (same_ints a2 a3 c2 c3 o o w3 (own_rw HO23.out) (own_rw HO3.out) (by omega) (by omega)).mono ?_
  rintro e w' ⟨rfl, q, rfl⟩
  have HB4 := Lib.hid (rdrew HB3.out q)
  have HO4 := Lib.hid (own_drewN HO23.out q)
  clear HO2 HO3 HO23 HB2 HB3
  generalize w3.drewN q = w4 at *
  have hdd : decide (o = o) = true := by simp
  go_wp2_with fail
  go_loopw [13] (fun iv wr => ∃ i : Nat, i ≤ s.size + 1 ∧ iv = .int .i64 (i : Int) ∧ Drawn w4 wr) (fun iv _ => s.size + 1 - (intOf iv).toNat)
  case atStart => exact ⟨0, by omega, rfl, Drawn.refl _⟩
  case round =>
    obtain ⟨i, hi, rfl, q, rfl⟩ := hrel
    by_cases hc : i + p.size ≤ s.size
    · have hx := HH.out i hc
      have e1 : IntKind.i64.wrap ((i : Int) + (p.size : Int)) = (i : Int) + (p.size : Int) := IntWalk.i64_in _ (by omega)
      have e2 : ((i : Int) + (p.size : Int)).toNat = i + p.size := by omega
      have e3 : (i : Int) ≤ (i : Int) + (p.size : Int) := by omega
      have e4 : (i : Int) + (p.size : Int) ≤ (s.size : Int) := by omega
      have e5 : (0 : Int) ≤ (i : Int) + (p.size : Int) := by omega
      have HAS := Lib.hid (fun n => has_int a2 c2 o (i : Int) (w4.drewN n) (own_rw (own_drewN HO4.out n)) (by omega))
      generalize decide ((i : Int) ∈ o) = d at *
      have hdd2 : (d != d) = false := by simp
      go_wp2_with fail
      go_quiet ((go_at_call 23; exact quiet_same_add (HAS.out _)))
      go_wp2_with fail
      go_roundw
      case rel => exact ⟨i + 1, by omega, by go_num, ⟨_, rfl⟩⟩
      case measure => simp [intOf]; omega
    · have hx := HB4.out
      have HB5 := Lib.hid (rdrew HB4.out q)
      have HO5 := Lib.hid (own_drewN HO4.out q)
      clear HO4 hx HB4 HH
      generalize w4.drewN q = w5 at *
      go_wp2_with fail
      go_loop [93] (fun jv => ∃ j : Nat, j ≤ o.length ∧ jv = .int .i64 (j : Int)) (fun jv => o.length - (intOf jv).toNat)
      case atStart => exact ⟨0, by omega, rfl⟩
      case round =>
        obtain ⟨j, hj, rfl⟩ := hrel
        by_cases hjl : j < o.length
        · obtain ⟨g, cp, hg⟩ : ∃ g cp, Value.slice a2 o.length c2 = .slice (some ⟨g, 0, none⟩) o.length cp := by
            obtain ⟨g, cp, h, _⟩ := HO5.out.form (by omega)
            exact ⟨g, cp, h⟩
          cases hg
          have hcell := HO5.out.cellAt j (by omega)
          rw [ints_at o j hjl] at hcell
          have hr := HRG.out (o.getD j 0) (by rw [List.getD, List.getElem?_eq_getElem hjl]; exact List.getElem_mem hjl)
          obtain ⟨hr1, hr2⟩ := hr
          generalize o.getD j 0 = x at *
          go_wp2_with fail
          go_round
          case rel => exact ⟨j + 1, by omega, by go_num⟩
          case measure => simp [intOf]; omega
        · go_wp2_with fail
          refine (draw_borders w5 ma mc a1 hl1 hm1 (HR1.out.below HB5.out).rb).mono ?_
          rintro e w5 ⟨t, rfl, ht, hb⟩
          have HB5 := Lib.hid (rstep HB5.out hb); clear hb
          have ht63 : t.size ≤ maxLen := by unfold maxLen; omega
          cases hin : inB (t.size : Int) 1 200 with
          | false =>
            have HBR : Hid (BordersR t = ([], false)) := Lib.hid (by unfold BordersR; rw [hin]; rfl)
            have HPR := Lib.hid (PeriodR_no t hin)
            have HI := Lib.hid (fun wx => impl_bordersOf t wx ht63)
            have HS := Lib.hid (fun wx => spec_bordersOf t wx ht63)
            have HPI := Lib.hid (fun wx => impl_periodOf t wx ht63)
            have HPS := Lib.hid (fun wx => spec_periodOf t wx ht63)
            rw [HBR.out] at HI HS
            rw [HPR.out] at HPI HPS
            clear hin HBR HPR
            go_wp2_with fail
            refine (HI.out _).mono ?_
            rintro e w6 ⟨v6, rfl, ho6, hb⟩
            have HO6 := Lib.hid ho6; have HB6 := Lib.hid (rstep HB5.out hb); clear ho6 hb
            obtain ⟨a6, c6, rfl⟩ := form_of_own HO6.out
            go_wp2_with fail
            refine (HS.out _).mono ?_
            rintro e w7 ⟨v7, rfl, ho7, hb⟩
            have HO7 := Lib.hid ho7; have HB7 := Lib.hid (rstep HB6.out hb); have HO67 := Lib.hid (own_later HO6.out hb); clear ho7 hb
            obtain ⟨a7, c7, rfl⟩ := form_of_own HO7.out
            go_wp2_with fail
            refine (HPI.out _).mono ?_
            rintro e w8 ⟨rfl, hb⟩
            have HB8 := Lib.hid (rstep HB7.out hb); have HO68 := Lib.hid (own_later HO67.out hb); have HO78 := Lib.hid (own_later HO7.out hb); clear hb
            go_wp2_with fail
            refine (HPS.out _).mono ?_
            rintro e w9 ⟨rfl, hb⟩
            have HB9 := Lib.hid (rstep HB8.out hb); have HO69 := Lib.hid (own_later HO68.out hb); have HO79 := Lib.hid (own_later HO78.out hb); clear hb
            go_wp2_with fail
            refine (same_ints a6 a7 c6 c7 [] [] w9 (own_rw HO69.out) (own_rw HO79.out) (by decide) (by decide)).mono ?_
            rintro e w' ⟨rfl, q, rfl⟩
            have HB10 := Lib.hid (rdrew HB9.out q)
            clear HO6 HO7 HO67 HO68 HO78 HO69 HO79 HB6 HB7 HB8 HB9
            generalize w9.drewN q = w10 at *
            go_wp2_with fail
            go_loop [157] (fun jv => jv = .int .i64 0) (fun _ => 0)
            case atStart => rfl
            case round =>
              obtain rfl := hrel
              go_wp2_with fail
              go_ret
              exact ⟨rfl, HB10.out⟩
          | true =>
            obtain ⟨htb1, htb2⟩ : 1 ≤ t.size ∧ t.size ≤ 200 := by have := inB_of hin; omega
            have HBR : Hid (BordersR t = (nats (bordL t t.size), true)) := Lib.hid (by unfold BordersR; rw [hin]; rfl)
            have HPR := Lib.hid (PeriodR_yes t hin)
            have HI := Lib.hid (fun wx => impl_bordersOf t wx ht63)
            have HS := Lib.hid (fun wx => spec_bordersOf t wx ht63)
            have HPI := Lib.hid (fun wx => impl_periodOf t wx ht63)
            have HPS := Lib.hid (fun wx => spec_periodOf t wx ht63)
            rw [HBR.out] at HI HS
            rw [HPR.out] at HPI HPS
            have hbl := bord_le t (t.size - 1) (by omega)
            have HLE := Lib.hid (bord_le t)
            have HYES := Lib.hid (bord_yes t)
            have HNO := Lib.hid (bord_no t)
            have HPE := Lib.hid (period_eq t)
            have hlen := bordL_length t t.size
            have hlen2 : (nats (bordL t t.size)).length = t.size := by rw [nats_length, hlen]
            generalize hbb : bordL t t.size = bb at *
            clear hin HBR HPR hbb
            simp only at HPI HPS
            generalize hx0 : bb.getD (t.size - 1) 0 = x0 at *
            have HX0 := Lib.hid hx0; clear hx0
            have HC : Hid (∀ k, k < t.size → (ints (nats bb))[k]? = some (.int .i64 ((bb.getD k 0 : Nat) : Int))) := Lib.hid fun k hk => by
              rw [ints_at _ _ (by omega), nats_getD]
            have HL2 := Lib.hid hlen2
            clear hlen hlen2
            go_wp2_with fail
            refine (HI.out _).mono ?_
            rintro e w6 ⟨v6, rfl, ho6, hb⟩
            rw [HL2.out] at ho6
            have HO6 := Lib.hid ho6; have HB6 := Lib.hid (rstep HB5.out hb); clear ho6 hb
            obtain ⟨g6, c6, rfl, hg6a, hg6⟩ := HO6.out.form (by omega)
            go_wp2_with fail
            refine (HS.out _).mono ?_
            rintro e w7 ⟨v7, rfl, ho7, hb⟩
            rw [HL2.out] at ho7
            have HO7 := Lib.hid ho7; have HB7 := Lib.hid (rstep HB6.out hb); have HO67 := Lib.hid (own_later HO6.out hb); clear ho7 hb
            obtain ⟨a7, c7, rfl⟩ := form_of_own HO7.out
            go_wp2_with fail
            refine (HPI.out _).mono ?_
            rintro e w8 ⟨rfl, hb⟩
            have HB8 := Lib.hid (rstep HB7.out hb); have HO68 := Lib.hid (own_later HO67.out hb); have HO78 := Lib.hid (own_later HO7.out hb); clear hb
            go_wp2_with fail
            refine (HPS.out _).mono ?_
            rintro e w9 ⟨rfl, hb⟩
            have HB9 := Lib.hid (rstep HB8.out hb); have HO69 := Lib.hid (own_later HO68.out hb); have HO79 := Lib.hid (own_later HO78.out hb); clear hb
            have HSM := Lib.hid (same_ints (some ⟨g6, 0, none⟩) a7 c6 c7 (nats bb) (nats bb) w9 (own_rw HO69.out) (own_rw HO79.out) (by have := HL2.out; omega) (by have := HL2.out; omega))
            rw [HL2.out, decide_eq_true (rfl : nats bb = nats bb)] at HSM
            go_wp2_with fail
            refine HSM.out.mono ?_
            rintro e w' ⟨rfl, q, rfl⟩
            have HB10 := Lib.hid (rdrew HB9.out q)
            have HO10 := Lib.hid (own_drewN HO69.out q)
            clear HO6 HO7 HO67 HO68 HO78 HO69 HO79 HB6 HB7 HB8 HB9 HSM HI HS HPI HPS
            generalize w9.drewN q = w10 at *
            have hneg : ((t.size : Int) - (x0 : Int) != (t.size : Int) - (x0 : Int)) = false := by simp
            go_wp2_with fail
            go_loopw [157] (fun kv wr => ∃ k : Nat, k ≤ t.size ∧ kv = .int .i64 (k : Int) ∧ Drawn w10 wr) (fun kv _ => t.size - (intOf kv).toNat)
            case atStart => exact ⟨0, by omega, rfl, Drawn.refl _⟩
            case round =>
              obtain ⟨k, hk, rfl, q, rfl⟩ := hrel
              by_cases hkl : k < t.size
              · have hcell := (own_drewN HO10.out q).cellAt k (by have := HL2.out; omega)
                rw [HC.out k hkl] at hcell
                have hle := HLE.out k hkl
                have hyes := HYES.out k hkl
                have HN := Lib.hid (fun y => HNO.out k y hkl)
                generalize bb.getD k 0 = x at *
                have hd0 : decide (k < x) = false := by simp; omega
                have e1 : IntKind.i64.wrap ((k : Int) + 1) = (k : Int) + 1 := IntWalk.i64_in _ (by omega)
                have e2 : IntKind.i64.wrap ((k : Int) + 1 - (x : Int)) = (k : Int) + 1 - (x : Int) := IntWalk.i64_in _ (by omega)
                have e3 : ((k : Int) + 1 - (x : Int)).toNat = k + 1 - x := by omega
                have e4 : ((k : Int) + 1).toNat = k + 1 := by omega
                have e5 : (0 : Int) ≤ (k : Int) + 1 - (x : Int) := by omega
                have e6 : (k : Int) + 1 - (x : Int) ≤ (k : Int) + 1 := by omega
                have e7 : (k : Int) + 1 ≤ (t.size : Int) := by omega
                have e8 : (x : Int) ≤ (t.size : Int) := by omega
                have hyes2 : (!(t.extract 0 x).toList == (t.extract (k + 1 - x) (k + 1)).toList) = false := by rw [hyes]; rfl
                clear hyes
                go_wp2_with fail
                go_quiet (fail)
                go_wp2_with fail
                go_loopw [27] (fun yv wr => ∃ y : Nat, x < y ∧ y ≤ k + 1 ∧ yv = .int .i64 (y : Int) ∧ Drawn w10 wr) (fun yv _ => k + 1 - (intOf yv).toNat)
                case atStart => exact ⟨x + 1, by omega, by omega, by go_num, ⟨_, rfl⟩⟩
                case round =>
                  obtain ⟨y, hy1, hy2, rfl, q, rfl⟩ := hrel
                  by_cases hyl : y ≤ k
                  · have hno := HN.out y hy1 hyl
                    have f2 : IntKind.i64.wrap ((k : Int) + 1 - (y : Int)) = (k : Int) + 1 - (y : Int) := IntWalk.i64_in _ (by omega)
                    have f3 : ((k : Int) + 1 - (y : Int)).toNat = k + 1 - y := by omega
                    have f5 : (0 : Int) ≤ (k : Int) + 1 - (y : Int) := by omega
                    have f6 : (k : Int) + 1 - (y : Int) ≤ (k : Int) + 1 := by omega
                    have f8 : (y : Int) ≤ (t.size : Int) := by omega
                    go_wp2_with fail
                    go_quiet (fail)
                    go_wp2_with fail
                    go_roundw
                    case rel => exact ⟨y + 1, by omega, by omega, by go_num, ⟨_, rfl⟩⟩
                    case measure => simp [intOf]; omega
                  · go_wp2_with fail
                    go_roundw
                    case rel => exact ⟨k + 1, by omega, by go_num, ⟨_, rfl⟩⟩
                    case measure => simp [intOf]; omega
              · go_wp2_with fail
                go_loopw [28] (fun iv wr => ∃ i : Nat, t.size - x0 ≤ i ∧ i ≤ t.size ∧ iv = .int .i64 (i : Int) ∧ Drawn w10 wr) (fun iv _ => t.size - (intOf iv).toNat)
                case atStart => exact ⟨t.size - x0, by omega, by omega, by go_num, ⟨_, rfl⟩⟩
                case round =>
                  obtain ⟨i, hi1, hi2, rfl, q, rfl⟩ := hrel
                  by_cases hil : i < t.size
                  · have hpe := HPE.out i hi1 hil
                    have e1 : IntKind.i64.wrap ((i : Int) - ((t.size : Int) - (x0 : Int))) = ((i - (t.size - x0) : Nat) : Int) := by rw [IntWalk.i64_in _ (by omega)]; omega
                    have hil2 : i - (t.size - x0) < t.size := by omega
                    have hne : ((t[i].toNat : Int) != (t[i - (t.size - x0)].toNat : Int)) = false := by rw [atS_eq t i hil, atS_eq t _ hil2, hpe]; simp
                    clear hpe
                    generalize i - (t.size - x0) = i2 at *
                    go_wp2_with fail
                    go_quiet (fail)
                    go_wp2_with fail
                    go_roundw
                    case rel => exact ⟨i + 1, by omega, by omega, by go_num, ⟨_, rfl⟩⟩
                    case measure => simp [intOf]; omega
                  · go_wp2_with fail
                    go_ret
                    exact ⟨rfl, rdrew HB10.out _⟩

end Go.Proofs.Ytfkcchbbbfeamaa.fnSearch
