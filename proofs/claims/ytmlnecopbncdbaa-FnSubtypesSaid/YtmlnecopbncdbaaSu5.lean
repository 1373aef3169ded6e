/- The parts of a type of a schema: both walks. -/
import Derived.Test.YtmlnecopbncdbaaTyY
import Derived.Test.YtmlnecopbncdbaaTyL
namespace Go.Proofs.Ytmlnecopbncdbaa
set_option linter.unusedVariables false
set_option linter.unusedSimpArgs false
open Go.ChangeShapes Go.WideShapes Go.ChangeAt Go.RowKit
set_option maxRecDepth 100000

/-- the places of the parts of a type -/
noncomputable def fldR (L : List Ty) (k : Int) : List Int × Bool := if goodL L = true ∧ 0 ≤ k ∧ k < (L.length : Int) then (nums (kidsI L k.toNat (k.toNat + 1) L.length), true) else ([], false)
def FldsO (L : List Ty) (k : Int) (w : World) (e : Ending) (w' : World) : Prop :=
  ∃ v, e = .returned (.tuple #[v, .bool (fldR L k).2]) ∧ w'.ownsRow w.heap.size 3 1 v (fldR L k).1.length (ints (fldR L k).1) ∧ Below w.heap.size w w'
theorem goodL_rows2 {L : List Ty} (h : goodL L = true) : RowsOK L ∧ L.length ≤ 30 ∧ 1 ≤ L.length := by
  have := goodL_iff.1 h
  exact ⟨this.2.1, this.1.2, this.1.1⟩
theorem kidsI_all {L : List Ty} (h : RowsOK L) {k : Nat} (hk : k < L.length) : kidsI L k 0 L.length = kidsI L k (k + 1) L.length := by
  rw [kidsI_split (m := k + 1) L.length (Nat.zero_le _) (by omega), kidsI_none (m := 0) (k + 1) (Nat.zero_le _) (fun i x _ h2 hx hu => by have := row_up (h.1 i) hx; omega)]
  rfl
set_option maxHeartbeats 2000000 in
theorem spec_FieldsOf {B : Nat} {w : World} {L : List Ty} {a : Option Addr} {cap : Nat} (h : Sch B w L a cap) (k : Int) : Calls Try.prog 28 #[.agg #[.slice a L.length cap], .int .i64 k] w (FldsO L k w) := by
  have hB1 := Below.alloc (Below.refl w.heap.size w) (Nat.le_refl _) (.cells #[.slice a L.length cap] 28)
  have hX1 := heap_alloc_new w (.cells #[.slice a L.length cap] 28)
  generalize hw1 : w.alloc (.cells #[.slice a L.length cap] 28) = w1 at *
  have l1 := hp_lt hX1
  have HX1 := Lib.hid hX1
  have HB1 := Lib.hid hB1
  have HS1 := Lib.hid (h.keep hB1)
  have hcm := h.hcm
  have hlc := h.hc
  have hlm := h.hl
  have hBw := h.hB
  have c1 : w1.cell? ⟨w.heap.size, 0, none⟩ = some (.slice a L.length cap) := by simp [World.cell?, hX1]
  have HG := Lib.hid (spec_GoodSchema (h.keep hB1))
  unfold FldsO fldR
  clear hB1 hX1 h
  cases hg : goodL L with
  | false =>
    rw [if_neg (by simp)]
    rw [hg] at HG
    go_enter Try.func28, Try.ntmps28
    go_wp2_with fail
    refine HG.out.mono ?_
    rintro e w2 ⟨rfl, hb⟩
    have HB2 := Lib.hid (HB1.out.trans (hb.mono HB1.out.size))
    have c2 := below_later hb c1
    have lz2 : w.heap.size < w2.heap.size := by have := hb.size; omega
    have HS2 := Lib.hid (HS1.out.keep hb)
    clear hb
    go_wp2_with fail
    go_ret2
    exact ⟨_, rfl, World.ownsRow_nil _ _ _ _, HB2.out⟩
  | true =>
  obtain ⟨hrows, h30, h1⟩ := goodL_rows2 hg
  rw [hg] at HG
  clear hg
  by_cases hk0 : k < 0
  · rw [if_neg (by omega)]
    go_enter Try.func28, Try.ntmps28
    go_wp2_with fail
    refine HG.out.mono ?_
    rintro e w2 ⟨rfl, hb⟩
    have HB2 := Lib.hid (HB1.out.trans (hb.mono HB1.out.size))
    have c2 := below_later hb c1
    have lz2 : w.heap.size < w2.heap.size := by have := hb.size; omega
    have HS2 := Lib.hid (HS1.out.keep hb)
    clear hb
    go_wp2_with fail
    go_ret2
    exact ⟨_, rfl, World.ownsRow_nil _ _ _ _, HB2.out⟩
  by_cases hkl : k ≥ (L.length : Int)
  · rw [if_neg (by omega)]
    go_enter Try.func28, Try.ntmps28
    go_wp2_with fail
    refine HG.out.mono ?_
    rintro e w2 ⟨rfl, hb⟩
    have HB2 := Lib.hid (HB1.out.trans (hb.mono HB1.out.size))
    have c2 := below_later hb c1
    have lz2 : w.heap.size < w2.heap.size := by have := hb.size; omega
    have HS2 := Lib.hid (HS1.out.keep hb)
    clear hb
    go_wp2_with fail
    go_ret2
    exact ⟨_, rfl, World.ownsRow_nil _ _ _ _, HB2.out⟩
  rw [if_pos ⟨rfl, by omega, by omega⟩]
  obtain ⟨n, rfl⟩ : ∃ n : Nat, k = (n : Int) := ⟨k.toNat, by omega⟩
  rw [Int.toNat_natCast]
  have HP := Lib.hid (fun wx (hs : Sch B wx L a cap) => spec_l2Kids hs n (by omega))
  have HLN := Lib.hid (nums_len (kidsI L n (n + 1) L.length))
  unfold KidsO at HP
  generalize kidsI L n (n + 1) L.length = K at *
  clear hrows
  go_enter Try.func28, Try.ntmps28
  go_wp2_with fail
  refine HG.out.mono ?_
  rintro e w2 ⟨rfl, hb⟩
  have HB2 := Lib.hid (HB1.out.trans (hb.mono HB1.out.size))
  have HC := Lib.hid (HP.out w2 (HS1.out.keep hb))
  have c2 := below_later hb c1
  clear hb
  go_wp2_with fail
  refine HC.out.mono ?_
  rintro e w3 ⟨v, rfl, ho, hb⟩
  have HB3 := Lib.hid (HB2.out.trans (hb.mono HB2.out.size))
  have HO3 := Lib.hid (own_mono ho HB2.out.size)
  clear hb ho
  go_wp2_with fail
  go_ret2
  exact ⟨_, rfl, by rw [HLN.out]; exact HO3.out, HB3.out⟩
set_option maxHeartbeats 4000000 in
theorem impl_FieldsOf {B : Nat} {w : World} {L : List Ty} {a : Option Addr} {cap : Nat} (h : Sch B w L a cap) (k : Int) : Calls Try.prog 27 #[.agg #[.slice a L.length cap], .int .i64 k] w (FldsO L k w) := by
  obtain ⟨i0, hi0, hz0, hz1, hz2⟩ := info_parts Try.infoTyInt
  have hB1 := Below.alloc (Below.refl w.heap.size w) (Nat.le_refl _) (.cells #[.slice a L.length cap] 28)
  have hX1 := heap_alloc_new w (.cells #[.slice a L.length cap] 28)
  generalize hw1 : w.alloc (.cells #[.slice a L.length cap] 28) = w1 at *
  have l1 := hp_lt hX1
  have HX1 := Lib.hid hX1
  have HB1 := Lib.hid hB1
  have HS1 := Lib.hid (h.keep hB1)
  have hcm := h.hcm
  have hlc := h.hc
  have hlm := h.hl
  have hBw := h.hB
  have c1 : w1.cell? ⟨w.heap.size, 0, none⟩ = some (.slice a L.length cap) := by simp [World.cell?, hX1]
  have HG := Lib.hid (impl_GoodSchema (h.keep hB1))
  unfold FldsO fldR
  clear hB1 hX1 h
  cases hg : goodL L with
  | false =>
    rw [if_neg (by simp)]
    rw [hg] at HG
    go_enter Try.func27, Try.ntmps27
    go_wp2_with fail
    refine HG.out.mono ?_
    rintro e w2 ⟨rfl, hb⟩
    have HB2 := Lib.hid (HB1.out.trans (hb.mono HB1.out.size))
    have c2 := below_later hb c1
    have lz2 : w.heap.size < w2.heap.size := by have := hb.size; omega
    have HS2 := Lib.hid (HS1.out.keep hb)
    clear hb
    go_wp2_with fail
    go_ret2
    exact ⟨_, rfl, World.ownsRow_nil _ _ _ _, HB2.out⟩
  | true =>
  obtain ⟨hrows, h30, h1⟩ := goodL_rows2 hg
  rw [hg] at HG
  clear hg
  have hwr : IntKind.i64.wrap ((L.length : Int) - 1) = (L.length : Int) - 1 := IntWalk.i64_in _ (by omega)
  have HI := Lib.hid (fun wx => impl_within k 0 ((L.length : Int) - 1) wx)
  cases hin : inR k 0 ((L.length : Int) - 1) with
  | false =>
    rw [if_neg (by rw [Bool.eq_false_iff, Ne, inR_iff2] at hin; omega)]
    rw [hin] at HI
    clear hin
    go_enter Try.func27, Try.ntmps27
    go_wp2_with fail
    refine HG.out.mono ?_
    rintro e w2 ⟨rfl, hb⟩
    have HB2 := Lib.hid (HB1.out.trans (hb.mono HB1.out.size))
    have c2 := below_later hb c1
    have lz2 : w.heap.size < w2.heap.size := by have := hb.size; omega
    have HS2 := Lib.hid (HS1.out.keep hb)
    clear hb
    go_wp2_with fail
    refine (HI.out _).mono ?_
    rintro e w3 ⟨rfl, rfl⟩
    go_wp2_with fail
    go_ret2
    exact ⟨_, rfl, World.ownsRow_nil _ _ _ _, HB2.out⟩
  | true =>
  have hk := inR_iff2.1 hin
  rw [hin] at HI
  clear hin
  rw [if_pos ⟨rfl, by omega, by omega⟩]
  obtain ⟨n, rfl⟩ : ∃ n : Nat, k = (n : Int) := ⟨k.toNat, by omega⟩
  rw [Int.toNat_natCast, ← kidsI_all hrows (by omega)]
  clear hrows
  go_enter Try.func27, Try.ntmps27
  go_wp2_with fail
  refine HG.out.mono ?_
  rintro e w2 ⟨rfl, hb⟩
  have HB2 := Lib.hid (HB1.out.trans (hb.mono HB1.out.size))
  have c2 := below_later hb c1
  have lz2 : w.heap.size < w2.heap.size := by have := hb.size; omega
  have HS2 := Lib.hid (HS1.out.keep hb)
  clear hb
  go_wp2_with fail
  refine (HI.out _).mono ?_
  rintro e w3 ⟨rfl, rfl⟩
  go_wp2_with fail
  have HO3 := Lib.hid (World.ownsRow_lit (base := w2.heap.size) (e := 3) (size := 1) w2 #[] 0 (Nat.le_refl _) (by decide) rfl)
  have hb3 := (Below.refl w2.heap.size w2).alloc (Nat.le_refl _) (.cells #[] 3)
  have HB3 := Lib.hid (HB2.out.trans (hb3.mono HB2.out.size))
  have HS3 := Lib.hid (HS2.out.keep hb3)
  have hz3 : w2.heap.size < (w2.alloc (.cells #[] 3)).heap.size := by simp
  clear hb3
  generalize hw3 : w2.alloc (.cells #[] 3) = w3 at *
  go_loopw [6, 25] (fun ov iv wr => ∃ (i : Nat), i ≤ L.length ∧ iv = .int .i64 (i : Int) ∧ Hid (wr.ownsRow w2.heap.size 3 1 ov (kidsI L n 0 i).length (ints (nums (kidsI L n 0 i)))) ∧ Hid (Below w2.heap.size w3 wr) ∧ Hid (w3.heap.size ≤ wr.heap.size)) (fun _ iv _ => L.length - (intOf iv).toNat)
  case atStart => exact ⟨0, by omega, rfl, HO3, Lib.hid (Below.refl _ _), Lib.hid (Nat.le_refl _)⟩
  case round =>
    obtain ⟨wo, rfl⟩ : ∃ z : World, z = wr := ⟨_, rfl⟩
    obtain ⟨i, hi, rfl, HO, HB, HZ⟩ := hrel
    obtain ⟨oa, oc, rfl⟩ := form_of_own HO.out
    have hzo := HZ.out
    have HBo := Lib.hid (HB3.out.trans (HB.out.mono (Nat.le_of_lt lz2)))
    by_cases hil : i < L.length
    case neg =>
      obtain rfl : i = L.length := by omega
      go_wp2_with fail
      go_ret2
      exact ⟨_, rfl, by rw [nums_len]; exact own_mono HO.out (Nat.le_of_lt lz2), HBo.out⟩
    obtain ⟨x, hx⟩ : ∃ x, L[i]? = some x := ⟨L[i], List.getElem?_eq_getElem hil⟩
    obtain ⟨b, off, rfl, hbl, d0, d1, d2, d3, d4, d5⟩ := tys_cells (HS3.out.later (HB.out.mono (by omega))).row hx
    have hbo : b < wo.heap.size := by omega
    have HST : Hid (kidsI L n 0 (i + 1) = kidsI L n 0 i ++ (if x.up = (n : Int) then [i] else [])) := Lib.hid (by rw [kidsI, if_pos (Nat.zero_le _), hx])
    clear hx
    have HO4 := Lib.hid (HO.out.alloc (.cells #[.int .i64 x.kind, .string x.name, .int .i64 x.no, .bool x.must, .int .i64 x.up, .int .i64 x.most] 85))
    have HB4 := Lib.hid (HB.out.alloc (by omega) (.cells #[.int .i64 x.kind, .string x.name, .int .i64 x.no, .bool x.must, .int .i64 x.up, .int .i64 x.most] 85))
    have hz4 : w3.heap.size ≤ (wo.alloc (.cells #[.int .i64 x.kind, .string x.name, .int .i64 x.no, .bool x.must, .int .i64 x.up, .int .i64 x.most] 85)).heap.size := by simp; omega
    by_cases hup : x.up = (n : Int)
    case neg =>
      rw [if_neg hup, List.append_nil] at HST
      have hun : (x.up == (n : Int)) = false := beq_eq_false_iff_ne.2 hup
      clear hup
      go_wp2_with fail
      go_roundw
      case rel => exact ⟨i + 1, by omega, by go_num, Lib.hid (by rw [HST.out]; exact HO4.out), HB4, Lib.hid hz4⟩
      case measure => (simp [intOf]; try omega)
    rw [if_pos hup] at HST
    have hun : (x.up == (n : Int)) = true := beq_iff_eq.2 hup
    clear hup
    have hkl := kidsI_len (L := L) (k := n) (s := 0) i
    have HL2 : Hid ((kidsI L n 0 i ++ [i]).length = (kidsI L n 0 i).length + 1) := Lib.hid (by simp)
    have HV2 : Hid (ints (nums (kidsI L n 0 i ++ [i])) = ints (nums (kidsI L n 0 i)) ++ [.int .i64 (i : Int)]) := Lib.hid (by simp [ints, nums])
    generalize kidsI L n 0 i = q at *
    generalize hw4 : wo.alloc (.cells #[.int .i64 x.kind, .string x.name, .int .i64 x.no, .bool x.must, .int .i64 x.up, .int .i64 x.most] 85) = w4 at *
    have hX4 := heap_alloc_new wo (.cells #[.int .i64 x.kind, .string x.name, .int .i64 x.no, .bool x.must, .int .i64 x.up, .int .i64 x.most] 85)
    rw [hw4] at hX4
    obtain ⟨t0, t1, t2, t3, t4, t5⟩ := box6 hX4
    go_wp2_with (at_builtin; refine wpList_append_own _ rfl _ _ 51 rfl w2.heap.size 3 i0 (.int .i64 0) 1 8 Try.underlying51 hi0 hz0 hz1 hz2 rfl (by decide) _ q.length _ rfl (HO4.out.alloc _) _ 1 1 [.int .i64 (i : Int)] rfl rfl (news_one _ _ _) (by simp [Value.oneCell']) (by unfold maxLen; omega) (by omega) (by simp; omega) ?_)
    intro v2 w5 hown hgrow _
    have HO5 := Lib.hid hown
    have HB5 := Lib.hid (Below.grown (HB4.out.alloc (by omega) _) hgrow (by simp; omega) (fun j hj => (HO4.out.lt j hj).1))
    have hz5 := hgrow.size
    simp only [World.size_alloc] at hz5
    clear hown hgrow
    go_wp2_with fail
    go_roundw
    case rel => exact ⟨i + 1, by omega, by go_num, Lib.hid (by rw [HST.out, HL2.out, HV2.out]; exact HO5.out), HB5, Lib.hid (by omega)⟩
    case measure => (simp [intOf]; try omega)
end Go.Proofs.Ytmlnecopbncdbaa
