/- The walk of FnPaths: whatever the arguments, the call returns true and writes nothing that was there. -/
import Derived.Test.YtmlnecopbncdbaaArgs
import Derived.Deep.RegionHeld3
import Derived.Test.YtmlnecopbncdbaaPaD
namespace Go.Proofs.Ytmlnecopbncdbaa.fnPaths
open Go.ChangeShapes Go.WideShapes Go.ChangeAt Go.RowKit
open Go.ChangeMaps (open_string shut_string)
set_option linter.unusedVariables false
set_option linter.unusedSimpArgs false

/-- a schema lies in a box -/
structure SX (B : Nat) (w : World) (p : Nat) (L : List Ty) (a : Option Addr) (cap : Nat) : Prop where
  cell : w.cell? ⟨p, 0, none⟩ = some (.slice a L.length cap)
  sch : Sch B w L a cap
theorem SX.later {B : Nat} {w w' : World} {p : Nat} {L : List Ty} {a : Option Addr} {cap : Nat} (h : SX B w p L a cap) (hb : Below w.heap.size w w') : SX B w' p L a cap := ⟨below_later hb h.cell, h.sch.keep hb⟩
theorem SX.box {w : World} {base : Nat} {a : Option Addr} {c : Nat} {L : List Ty} (h : w.ownsRow base 85 6 (.slice a L.length c) L.length (tysV L)) (hl : L.length ≤ 30) (hn : ∀ x ∈ L, x.name.size ≤ maxLen) : SX w.heap.size (w.alloc (.cells #[.slice a L.length c] 28)) w.heap.size L a c :=
  ⟨box_cell (box_start w (.cells #[.slice a L.length c] 28)) 0, (sch_own h (by omega) hn).keep ((Below.refl _ _).alloc (Nat.le_refl _) _)⟩
theorem b_same (b : Bool) : (b != b) = false := by cases b <;> rfl
theorem pOf_yes {L : List Ty} {k : Int} (h : (pOf L k).2 = true) : goodL L = true ∧ ∃ n : Nat, k = (n : Int) ∧ n < L.length ∧ pathB L n = true ∧ (pOf L k).1 = pathS L n := by
  unfold pOf at h ⊢
  by_cases hc : goodL L = true ∧ 0 ≤ k ∧ k < (L.length : Int)
  · rw [if_pos hc] at h ⊢
    obtain ⟨n, rfl⟩ : ∃ n : Nat, k = (n : Int) := ⟨k.toNat, by omega⟩
    rw [Int.toNat_natCast] at h ⊢
    exact ⟨hc.1, n, rfl, by omega, h, rfl⟩
  · rw [if_neg hc] at h; cases h
theorem at_path {L : List Ty} {k r : Int} {b : Bool} (h : (pOf L k).2 = true) (hA : AtO L (pOf L k).1 r b) : b = true ∧ r = k := by
  obtain ⟨hg, n, rfl, hn, hb, hs⟩ := pOf_yes h
  rw [hs] at hA
  rcases hA with ⟨rfl, -, k, rfl, h1, h2, h3, -⟩ | ⟨-, -, h1⟩
  · exact ⟨rfl, by rw [paths_inj (goodL_rows hg).1 h1 hn h2 hb h3]⟩
  · exact absurd ⟨hb, rfl⟩ (h1 hg n hn)
theorem path_at {L : List Ty} {s : ByteArray} {r : Int} (h : AtO L s r true) : pOf L r = (s, true) := by
  rcases h with ⟨-, hg, k, rfl, h1, h2, h3, -⟩ | ⟨h, -⟩
  · unfold pOf
    rw [if_pos ⟨hg, by omega, by omega⟩, Int.toNat_natCast, h2, h3]
  · cases h
theorem at_none {L : List Ty} {s : ByteArray} {r : Int} (h : AtO L s r false) : r = 0 := by
  rcases h with ⟨h, -⟩ | ⟨-, h, -⟩
  · cases h
  · exact h

set_option maxHeartbeats 1000000 in
set_option maxRecDepth 100000 in
theorem walk (w : World) (v0 : Value) (a0 : List UInt8) (w0 : IsBytes w v0 a0) (v1 : Value) (a1 : List UInt8) (w1 : IsBytes w v1 a1) :
    Calls Try.prog 4 #[v0, v1] w fun e w' => e = .returned (.bool true) ∧ Below w.heap.size w w' := by
  obtain ⟨ca, cc, rfl, hr0, hl0, hm0⟩ := w0
  obtain ⟨ma, mc, rfl, hr1, hl1, hm1⟩ := w1
  unfold maxLen at hm0 hm1
  have HR0 := Lib.hid hr0; have HR1 := Lib.hid hr1
  clear hr0 hr1
  by_cases hsum : (1048576 : Int) < wrap64 ((a0.length : Int) + (a1.length : Int))
  case pos =>
    go_enter Try.func4, Try.ntmps4
    go_wp2_with fail
    go_ret
    exact ⟨rfl, Below.refl _ _⟩
  go_enter Try.func4, Try.ntmps4
  go_wp2_with fail
  refine (draw_PathOf w ca cc a0 hl0 hm0 HR0.out.rb).mono ?_
  rintro e w1 ⟨L, fa, fc, k, rfl, hll, hk, hnm, ho, hb⟩
  have HS0 := Lib.hid (SX.box ho (by omega) hnm)
  have HB1 := Lib.hid hb
  have HB2 := Lib.hid (ralloc HB1.out (.cells #[.slice fa L.length fc] 28))
  clear ho hnm hb hsum
  generalize hw2 : w1.alloc (.cells #[.slice fa L.length fc] 28) = w2 at *
  have c0 := HS0.out.cell
  have HC1 := Lib.hid (impl_PathOf HS0.out.sch k)
  generalize hpf : w1.heap.size = pf at *
  have HPA := Lib.hid (fun r b (hA : AtO L (pOf L k).1 r b) hb => at_path (L := L) (k := k) hb hA)
  unfold POfO at HC1
  go_wp2_with fail
  refine HC1.out.mono ?_
  rintro e w3 ⟨rfl, hb⟩
  have HS1 := Lib.hid (HS0.out.later hb)
  have HB3 := Lib.hid (rstep HB2.out hb)
  clear hb hw2 hpf c0
  have c1 := HS1.out.cell
  have HC2 := Lib.hid (spec_PathOf HS1.out.sch k)
  unfold POfO at HC2
  generalize (pOf L k).1 = p at *
  generalize (pOf L k).2 = ok at *
  go_wp2_with fail
  refine HC2.out.mono ?_
  rintro e w4 ⟨rfl, hb⟩
  have HS2 := Lib.hid (HS1.out.later hb)
  have HB4 := Lib.hid (rstep HB3.out hb)
  clear hb c1
  have c2 := HS2.out.cell
  have o1 := b_same ok
  have o2 : (p.toList == p.toList) = true := beq_self_eq_true _
  have o3 : (p.toList != p.toList) = false := bne_self_eq_false _
  cases ok with
  | false =>
    go_wp2_with fail
    refine (draw_TypeAt w4 ma mc a1 hl1 hm1 (HR1.out.below HB4.out).rb).mono ?_
    rintro e x1 ⟨M, ga, gc, s, rfl, hml, hmn, ho, hb⟩
    have HT0 := Lib.hid (SX.box ho (by omega) hmn)
    have HD1 := Lib.hid (rstep HB4.out hb)
    have HD2 := Lib.hid (ralloc HD1.out (.cells #[.slice ga M.length gc] 28))
    clear ho hmn hb
    generalize hx2 : x1.alloc (.cells #[.slice ga M.length gc] 28) = x2 at *
    have g0 := HT0.out.cell
    have HC1 := Lib.hid (impl_TypeAt HT0.out.sch s)
    generalize hpx : x1.heap.size = px at *
    unfold TyAtO at HC1
    go_wp2_with fail
    refine HC1.out.mono ?_
    rintro e x3 ⟨r, b, rfl, hA, hb⟩
    have HT1 := Lib.hid (HT0.out.later hb)
    have HD3 := Lib.hid (rstep HD2.out hb)
    have HA := Lib.hid hA
    clear hb hA hx2 hpx g0
    have g1 := HT1.out.cell
    have HC2 := Lib.hid (spec_TypeAt HT1.out.sch s)
    unfold TyAtO at HC2
    go_wp2_with fail
    refine HC2.out.mono ?_
    rintro e x4 ⟨r', b', rfl, hA', hb⟩
    obtain ⟨rfl, rfl⟩ := HA.out.same hA'
    have HT2 := Lib.hid (HT1.out.later hb)
    have HD4 := Lib.hid (rstep HD3.out hb)
    clear hb hA' g1
    have g2 := HT2.out.cell
    have b1 := b_same b
    cases b with
    | false =>
      obtain rfl := at_none HA.out
      go_wp2_with fail
      go_ret
      exact ⟨rfl, HD4.out⟩
    | true =>
      have HC3 := Lib.hid (impl_PathOf HT2.out.sch r)
      unfold POfO at HC3
      rw [path_at HA.out] at HC3
      have r1 : (r != r) = false := bne_self_eq_false r
      have r2 : (s.toList == s.toList) = true := beq_self_eq_true _
      go_wp2_with fail
      refine HC3.out.mono ?_
      rintro e x5 ⟨rfl, hb⟩
      have HD5 := Lib.hid (rstep HD4.out hb)
      clear hb
      go_wp2_with fail
      go_ret
      exact ⟨by first | rfl | simp, HD5.out⟩
  | true =>
    have HC3 := Lib.hid (impl_TypeAt HS2.out.sch p)
    unfold TyAtO at HC3
    go_wp2_with fail
    refine HC3.out.mono ?_
    rintro e w5 ⟨r, b, rfl, hA, hb⟩
    obtain ⟨rfl, rfl⟩ := HPA.out r b hA (by trivial)
    have HB5 := Lib.hid (rstep HB4.out hb)
    clear hb hA
    have r3 : (r != r) = false := bne_self_eq_false r
    go_wp2_with fail
    refine (draw_TypeAt w5 ma mc a1 hl1 hm1 (HR1.out.below HB5.out).rb).mono ?_
    rintro e x1 ⟨M, ga, gc, s, rfl, hml, hmn, ho, hb⟩
    have HT0 := Lib.hid (SX.box ho (by omega) hmn)
    have HD1 := Lib.hid (rstep HB5.out hb)
    have HD2 := Lib.hid (ralloc HD1.out (.cells #[.slice ga M.length gc] 28))
    clear ho hmn hb
    generalize hx2 : x1.alloc (.cells #[.slice ga M.length gc] 28) = x2 at *
    have g0 := HT0.out.cell
    have HC1 := Lib.hid (impl_TypeAt HT0.out.sch s)
    generalize hpx : x1.heap.size = px at *
    unfold TyAtO at HC1
    go_wp2_with fail
    refine HC1.out.mono ?_
    rintro e x3 ⟨r, b, rfl, hA, hb⟩
    have HT1 := Lib.hid (HT0.out.later hb)
    have HD3 := Lib.hid (rstep HD2.out hb)
    have HA := Lib.hid hA
    clear hb hA hx2 hpx g0
    have g1 := HT1.out.cell
    have HC2 := Lib.hid (spec_TypeAt HT1.out.sch s)
    unfold TyAtO at HC2
    go_wp2_with fail
    refine HC2.out.mono ?_
    rintro e x4 ⟨r', b', rfl, hA', hb⟩
    obtain ⟨rfl, rfl⟩ := HA.out.same hA'
    have HT2 := Lib.hid (HT1.out.later hb)
    have HD4 := Lib.hid (rstep HD3.out hb)
    clear hb hA' g1
    have g2 := HT2.out.cell
    have b1 := b_same b
    cases b with
    | false =>
      obtain rfl := at_none HA.out
      go_wp2_with fail
      go_ret
      exact ⟨rfl, HD4.out⟩
    | true =>
      have HC3 := Lib.hid (impl_PathOf HT2.out.sch r)
      unfold POfO at HC3
      rw [path_at HA.out] at HC3
      have r1 : (r != r) = false := bne_self_eq_false r
      have r2 : (s.toList == s.toList) = true := beq_self_eq_true _
      go_wp2_with fail
      refine HC3.out.mono ?_
      rintro e x5 ⟨rfl, hb⟩
      have HD5 := Lib.hid (rstep HD4.out hb)
      clear hb
      go_wp2_with fail
      go_ret
      exact ⟨by first | rfl | simp, HD5.out⟩

end Go.Proofs.Ytmlnecopbncdbaa.fnPaths
