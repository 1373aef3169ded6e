/- The contracts of the parts of the reference's classes: alike, split, same, classes; and of ClassesOf there. -/
import Derived.Test.YtedjahinlpehgaaClsL
import Derived.Test.YtedjahinlpehgaaMapV
namespace Go.Proofs.Ytedjahinlpehgaa
set_option linter.unusedVariables false
open Go.ChangeShapes Go.WideShapes Go.ChangeAt Go.RowKit
set_option maxRecDepth 100000

/-! ### the cells of a good machine -/
structure MC (B : Nat) (w : World) (ea eb : Option Addr) (m : Mach) : Prop where
  rows : ∃ b off, ea = some ⟨b, off, none⟩ ∧ b < B ∧ ∀ p : Int, 0 ≤ p → p < (m.1.length : Int) → ∃ b2 off2 c2, w.cell? ⟨b, off + p.toNat, none⟩ = some (.slice (some ⟨b2, off2, none⟩) 3 c2) ∧ b2 < B ∧ 3 ≤ c2 ∧ c2 ≤ 9223372036854775807 ∧ ∀ k : Nat, k < 3 → w.cell? ⟨b2, off2 + k, none⟩ = some (.int .i64 (goI m p k))
  ends : ∃ b off, eb = some ⟨b, off, none⟩ ∧ b < B ∧ ∀ p : Int, 0 ≤ p → p < (m.1.length : Int) → w.cell? ⟨b, off + p.toNat, none⟩ = some (.bool (endI m p))
theorem MC.of {B : Nat} {w : World} {ea eb : Option Addr} {ecap ecap' : Nat} {m : Mach} (hn : kIntSS.rd B w [.slice ea m.1.length ecap] m.1) (he : kBoolS.rd B w [.slice eb m.2.length ecap'] m.2) (hm : GoodM m) : MC B w ea eb m := by
  have h1 := hm.n1
  refine ⟨?_, ?_⟩
  · have hx0 : m.1[0]? = some (m.1[0]'(by omega)) := List.getElem?_eq_getElem _
    obtain ⟨u0, b, off, _, rfl, hb, _⟩ := sl_one kIntS_ok rfl hn hx0
    refine ⟨b, off, rfl, hb, fun p hp0 hp1 => ?_⟩
    obtain ⟨r1, r2, r3⟩ := row_in hm hp0 hp1
    obtain ⟨u, b', off', hu, he', _, hc⟩ := sl_one kIntS_ok rfl hn r1
    simp only [Option.some.injEq, Addr.mk.injEq, and_true] at he'
    obtain ⟨rfl, rfl⟩ := he'
    obtain ⟨al, acap, hu2⟩ := kSl_form hu
    simp only [List.cons.injEq, and_true] at hu2
    subst hu2
    rw [r2] at hc
    have hl := sl_len hu
    have hy0 := (goI_in hm hp0 hp1 (k := 0) (by omega)).1
    obtain ⟨v0, b2, off2, _, rfl, hb2, _⟩ := sl_one kInt_ok rfl hu hy0
    refine ⟨b2, off2, acap, hc, hb2, by omega, by omega, fun k hk => ?_⟩
    have hy := (goI_in hm hp0 hp1 hk).1
    obtain ⟨v, b3, off3, hv, he3, _, hc3⟩ := sl_one kInt_ok rfl hu hy
    simp only [Option.some.injEq, Addr.mk.injEq, and_true] at he3
    obtain ⟨rfl, rfl⟩ := he3
    obtain ⟨hv, _⟩ := hv
    simp only [List.cons.injEq, and_true] at hv
    subst hv
    exact hc3
  · have h2 := hm.ends
    have hx0 : m.2[0]? = some (m.2[0]'(by omega)) := List.getElem?_eq_getElem _
    obtain ⟨u0, b, off, _, rfl, hb, _⟩ := sl_one kBool_ok rfl he hx0
    refine ⟨b, off, rfl, hb, fun p hp0 hp1 => ?_⟩
    obtain ⟨u, b', off', hu, he', _, hc⟩ := sl_one kBool_ok rfl he (end_in hm hp0 hp1)
    simp only [Option.some.injEq, Addr.mk.injEq, and_true] at he'
    obtain ⟨rfl, rfl⟩ := he'
    obtain ⟨hu, _⟩ := hu
    simp only [List.cons.injEq, and_true] at hu
    subst hu
    exact hc
theorem MC.below {B : Nat} {w w' : World} {ea eb : Option Addr} {m : Mach} (h : MC B w ea eb m) (hb : Below B w w') : MC B w' ea eb m := by
  obtain ⟨⟨b, off, rfl, hl, hc⟩, ⟨b', off', rfl, hl', hc'⟩⟩ := h
  refine ⟨⟨b, off, rfl, hl, fun p h0 h1 => ?_⟩, ⟨b', off', rfl, hl', fun p h0 h1 => below_cellk hb (hc' p h0 h1) hl'⟩⟩
  obtain ⟨b2, off2, c2, k1, k2, k3, k4, k5⟩ := hc p h0 h1
  exact ⟨b2, off2, c2, below_cellk hb k1 hl, k2, k3, k4, fun k hk => below_cellk hb (k5 k hk) k2⟩
theorem MC.mono {B B' : Nat} {w : World} {ea eb : Option Addr} {m : Mach} (h : MC B w ea eb m) (hb : B ≤ B') : MC B' w ea eb m := by
  obtain ⟨⟨b, off, rfl, hl, hc⟩, ⟨b', off', rfl, hl', hc'⟩⟩ := h
  refine ⟨⟨b, off, rfl, by omega, fun p h0 h1 => ?_⟩, ⟨b', off', rfl, by omega, hc'⟩⟩
  obtain ⟨b2, off2, c2, k1, k2, k3, k4, k5⟩ := hc p h0 h1
  exact ⟨b2, off2, c2, k1, by omega, k3, k4, k5⟩
/-- a row of ints, by its places -/
theorem intsI {w : World} {a : Option Addr} {xs : List Int} (h : Rw w a (ints xs)) (h1 : 1 ≤ xs.length) : ∃ b off, a = some ⟨b, off, none⟩ ∧ b < w.heap.size ∧ ∀ x : Int, 0 ≤ x → x < (xs.length : Int) → w.cell? ⟨b, off + x.toNat, none⟩ = some (.int .i64 (clA xs x)) := by
  obtain ⟨b, off, ha, hb, hc⟩ := h.at (fun e => by have := congrArg List.length e; simp at this; rw [this] at h1; simp at h1)
  refine ⟨b, off, ha, hb, fun x h0 hx => ?_⟩
  have hk : x.toNat < xs.length := by omega
  have := hc x.toNat _ (ints_at xs x.toNat hk)
  exact this
theorem mkAt_iff (m : Mach) (c : List Int) (i j : Nat) : mkAt m c i = mkAt m c j ↔ clA c (i : Int) = clA c (j : Int) ∧ ∀ k, k < 3 → clA c (goI m (i : Int) k) = clA c (goI m (j : Int) k) := by
  unfold mkAt
  rw [Prod.mk.injEq, Prod.mk.injEq, Prod.mk.injEq]
  constructor
  · rintro ⟨h1, h2, h3, h4⟩
    refine ⟨h1, fun k hk => ?_⟩
    match k, hk with
    | 0, _ => exact h2
    | 1, _ => exact h3
    | 2, _ => exact h4
  · rintro ⟨h1, h2⟩; exact ⟨h1, h2 0 (by omega), h2 1 (by omega), h2 2 (by omega)⟩

set_option maxHeartbeats 2000000 in
theorem spec_alike (ea eb qa : Option Addr) (ecap ecap' qc : Nat) (m : Mach) (xs : List Int) (o k : Nat) (w : World) (hM : MC w.heap.size w ea eb m) (hm : GoodM m) (hx : Rw w qa (ints xs)) (hl : xs.length = m.1.length) (ho : o < m.1.length) (hk : k < m.1.length)
    (hc1 : m.1.length ≤ ecap ∧ ecap ≤ 9223372036854775807) (hc2 : xs.length ≤ qc ∧ qc ≤ 9223372036854775807) :
    Calls Try.prog 76 #[.agg #[.slice ea m.1.length ecap, .slice eb m.2.length ecap'], .slice qa m.1.length qc, .int .i64 (o : Int), .int .i64 (k : Int)] w fun e w' => e = .returned (.bool (decide (mkAt m xs o = mkAt m xs k))) ∧ Below w.heap.size w w' := by
  have h1 := hm.n1
  have h12 := hm.n12
  obtain ⟨q, qo, rfl, hq, hqc⟩ := intsI hx (by omega)
  obtain ⟨⟨b, off, rfl, hb, hrow⟩, _⟩ := hM
  obtain ⟨bo, fo, co, ko, hbo, hco1, hco2, hco⟩ := hrow (o : Int) (by omega) (by omega)
  obtain ⟨bk, fk, ck, kk, hbk, hck1, hck2, hck⟩ := hrow (k : Int) (by omega) (by omega)
  simp only [Int.toNat_natCast] at ko kk
  have HMO := Lib.hid (fun j (hj : j < 3) => goI_in hm (p := (o : Int)) (by omega) (by omega) hj)
  have HMK := Lib.hid (fun j (hj : j < 3) => goI_in hm (p := (k : Int)) (by omega) (by omega) hj)
  have hal : Below w.heap.size w (w.alloc (.cells #[.slice (some ⟨b, off, none⟩) m.1.length ecap, .slice eb m.2.length ecap'] 28)) := (Below.refl _ _).alloc (Nat.le_refl _) _
  have c0 : (w.alloc (.cells #[.slice (some ⟨b, off, none⟩) m.1.length ecap, .slice eb m.2.length ecap'] 28)).cell? ⟨w.heap.size, 0, none⟩ = some (.slice (some ⟨b, off, none⟩) m.1.length ecap) := by rw [World.cell?_alloc_new]; rfl
  have HQ : Hid (∀ x : Int, 0 ≤ x → x < (xs.length : Int) → (w.alloc (.cells #[.slice (some ⟨b, off, none⟩) m.1.length ecap, .slice eb m.2.length ecap'] 28)).cell? ⟨q, qo + x.toNat, none⟩ = some (.int .i64 (clA xs x))) := Lib.hid fun x x0 x1 => below_cellk hal (hqc x x0 x1) hq
  have qo1 := HQ.out (o : Int) (by omega) (by omega); have qk1 := HQ.out (k : Int) (by omega) (by omega)
  simp only [Int.toNat_natCast] at qo1 qk1
  replace ko := below_cellk hal ko hb; replace kk := below_cellk hal kk hb
  have HCO : Hid (∀ j : Nat, j < 3 → (w.alloc (.cells #[.slice (some ⟨b, off, none⟩) m.1.length ecap, .slice eb m.2.length ecap'] 28)).cell? ⟨bo, fo + j, none⟩ = some (.int .i64 (goI m (o : Int) j))) := Lib.hid fun j hj => below_cellk hal (hco j hj) hbo
  have HCK : Hid (∀ j : Nat, j < 3 → (w.alloc (.cells #[.slice (some ⟨b, off, none⟩) m.1.length ecap, .slice eb m.2.length ecap'] 28)).cell? ⟨bk, fk + j, none⟩ = some (.int .i64 (goI m (k : Int) j))) := Lib.hid fun j hj => below_cellk hal (hck j hj) hbk
  have HAL := Lib.hid hal
  have HNO : Hid (¬ (clA xs (o : Int) = clA xs (k : Int) ∧ ∀ j, j < 3 → clA xs (goI m (o : Int) j) = clA xs (goI m (k : Int) j)) → decide (mkAt m xs o = mkAt m xs k) = false) := Lib.hid fun h => decide_eq_false (fun e => h ((mkAt_iff m xs o k).1 e))
  have HYES : Hid ((clA xs (o : Int) = clA xs (k : Int) ∧ ∀ j, j < 3 → clA xs (goI m (o : Int) j) = clA xs (goI m (k : Int) j)) → decide (mkAt m xs o = mkAt m xs k) = true) := Lib.hid fun h => decide_eq_true ((mkAt_iff m xs o k).2 h)
  have HLN := Lib.hid hl
  clear hm hx hrow hqc hco hck hal
  rw [hl] at hc2
  clear hl
  generalize decide (mkAt m xs o = mkAt m xs k) = R at *
  go_enter Try.func76, Try.ntmps76
  go_wp2_with fail
  generalize w.alloc (.cells #[.slice (some ⟨b, off, none⟩) m.1.length ecap, .slice eb m.2.length ecap'] 28) = w0 at *
  by_cases hcl : clA xs (o : Int) = clA xs (k : Int)
  case neg =>
    have hne : (clA xs (o : Int) != clA xs (k : Int)) = true := by simp [hcl]
    have HR := Lib.hid (HNO.out (fun h => hcl h.1))
    clear hcl
    go_quiet (fail)
    go_wp2_with fail
    go_ret
    exact ⟨ret_bool HR.out.symm, rdrew HAL.out _⟩
  have hne : (clA xs (o : Int) != clA xs (k : Int)) = false := by simp [hcl]
  have HCL := Lib.hid hcl
  clear hcl
  go_quiet (fail)
  go_wp2_with fail
  go_loopw [25] (fun jv wr => ∃ j : Nat, j ≤ 3 ∧ jv = .int .i64 (j : Int) ∧ Hid (∀ i, i < j → clA xs (goI m (o : Int) i) = clA xs (goI m (k : Int) i)) ∧ Drawn w0 wr) (fun jv _ => 3 - (intOf jv).toNat)
  case atStart => exact ⟨0, by omega, rfl, Lib.hid (fun i hi => by omega), ⟨_, rfl⟩⟩
  case round =>
    obtain ⟨j, hj, rfl, HJ, n, rfl⟩ := hrel
    by_cases hj3 : j < 3
    case neg =>
      obtain rfl : j = 3 := by omega
      have HR := Lib.hid (HYES.out ⟨HCL.out, HJ.out⟩)
      go_wp2_with fail
      go_ret
      exact ⟨ret_bool HR.out.symm, rdrew HAL.out _⟩
    have g1 := HMO.out j hj3; have g2 := HMK.out j hj3
    have y1 := HCO.out j hj3; have y2 := HCK.out j hj3
    have z1 := HQ.out _ g1.2.1 (by rw [HLN.out]; exact g1.2.2); have z2 := HQ.out _ g2.2.1 (by rw [HLN.out]; exact g2.2.2)
    obtain ⟨-, g10, g11⟩ := g1; obtain ⟨-, g20, g21⟩ := g2
    have HX : Hid (clA xs (goI m (o : Int) j) = clA xs (goI m (k : Int) j) → ∀ i, i < j + 1 → clA xs (goI m (o : Int) i) = clA xs (goI m (k : Int) i)) := Lib.hid fun h i hi => by
      rcases Nat.lt_or_ge i j with hc | hc
      · exact HJ.out i hc
      · obtain rfl : i = j := by omega
        exact h
    have HX2 : Hid (¬ clA xs (goI m (o : Int) j) = clA xs (goI m (k : Int) j) → R = false) := Lib.hid fun h => HNO.out (fun hc => h (hc.2 j hj3))
    generalize goI m (o : Int) j = u1 at *
    generalize goI m (k : Int) j = u2 at *
    generalize clA xs u1 = v1 at *
    generalize clA xs u2 = v2 at *
    by_cases hv : v1 = v2
    case neg =>
      have hne : (v1 != v2) = true := by simp [hv]
      have HR := Lib.hid (HX2.out hv)
      clear hv
      go_wp2_with fail
      go_quiet (fail)
      go_wp2_with fail
      go_ret
      exact ⟨ret_bool HR.out.symm, rdrew (rdrew HAL.out _) _⟩
    have hne : (v1 != v2) = false := by simp [hv]
    have HR := Lib.hid (HX.out hv)
    clear hv
    go_wp2_with fail
    go_quiet (fail)
    go_wp2_with fail
    go_roundw
    case rel => exact ⟨j + 1, by omega, by go_num, HR, ⟨_, rfl⟩⟩
    case measure => simp [intOf]; omega
end Go.Proofs.Ytedjahinlpehgaa
