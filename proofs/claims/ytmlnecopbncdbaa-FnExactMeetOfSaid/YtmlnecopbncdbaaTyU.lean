/- The parts of a type, those around a type: the reference's walks. -/
import Derived.Test.YtmlnecopbncdbaaTyT
namespace Go.Proofs.Ytmlnecopbncdbaa
set_option linter.unusedVariables false
set_option linter.unusedSimpArgs false
open Go.ChangeShapes Go.WideShapes Go.ChangeAt Go.RowKit
set_option maxRecDepth 100000

theorem Try.infoTyInt : (Try.prog.info? 3).map (fun i => (i.zero, i.size, i.bytes)) = some (some (.int .i64 0), 1, 8) := by kernel_rfl
def nums (l : List Nat) : List Int := l.map fun i : Nat => (i : Int)
theorem nums_len (l : List Nat) : (nums l).length = l.length := by simp [nums]
/-- what the parts of a type are told as -/
def KidsO (L : List Ty) (k : Nat) (w : World) (e : Ending) (w' : World) : Prop :=
  ∃ v, e = .returned v ∧ w'.ownsRow w.heap.size 3 1 v (kidsI L k (k + 1) L.length).length (ints (nums (kidsI L k (k + 1) L.length))) ∧ Below w.heap.size w w'
theorem kidsI_step {L : List Ty} {k i : Nat} {x : Ty} (hx : L[i]? = some x) (hki : k < i) : kidsI L k (k + 1) (i + 1) = kidsI L k (k + 1) i ++ (if x.up = (k : Int) then [i] else []) := by
  rw [kidsI, if_pos (by omega), hx]
theorem kidsI_len {L : List Ty} {k s : Nat} : ∀ e, (kidsI L k s e).length ≤ e
  | 0 => by simp [kidsI]
  | e + 1 => by
    rw [kidsI, List.length_append]
    have := kidsI_len (L := L) (k := k) (s := s) e
    split
    · cases L[e]? with
      | none => simp; omega
      | some x => by_cases hu : x.up = (k : Int) <;> simp [hu] <;> omega
    · simp; omega
set_option maxHeartbeats 2000000 in
theorem spec_l2Kids {B : Nat} {w : World} {L : List Ty} {a : Option Addr} {cap : Nat} (h : Sch B w L a cap) (k : Nat) (hk : k < L.length) : Calls Try.prog 58 #[.agg #[.slice a L.length cap], .int .i64 (k : Int)] w (KidsO L k w) := by
  unfold KidsO
  obtain ⟨i0, hi, hz0, hz1, hz2⟩ := info_parts Try.infoTyInt
  have hB0 := Below.alloc (Below.refl w.heap.size w) (Nat.le_refl _) (.cells #[.slice a L.length cap] 28)
  have hx : (w.alloc (.cells #[.slice a L.length cap] 28)).cell? ⟨w.heap.size, 0, none⟩ = some (.slice a L.length cap) := by simp
  have hwl : w.heap.size < (w.alloc (.cells #[.slice a L.length cap] 28)).heap.size := by simp
  generalize hw1 : w.alloc (.cells #[.slice a L.length cap] 28) = w1 at *
  have H1 := Lib.hid (h.keep hB0)
  have HB1 := Lib.hid hB0
  have hlm := h.hl
  have hcm := h.hcm
  have hlc := h.hc
  have HX := Lib.hid hx
  clear hB0 h hx
  go_enter Try.func58, Try.ntmps58
  go_wp2_with fail
  go_loopw [5, 6] (fun ov iv wr => ∃ (i : Nat), k < i ∧ i ≤ L.length ∧ iv = .int .i64 (i : Int) ∧ Hid (wr.ownsRow w1.heap.size 3 1 ov (kidsI L k (k + 1) i).length (ints (nums (kidsI L k (k + 1) i)))) ∧ Hid (Below w1.heap.size w1 wr)) (fun _ iv _ => L.length - (intOf iv).toNat)
  case atStart => exact ⟨k + 1, by omega, by omega, by go_num, Lib.hid (by rw [kidsI_same _ (Nat.le_refl _)]; exact World.ownsRow_nil _ _ _ _), Lib.hid (Below.refl _ _)⟩
  case round =>
    obtain ⟨wo, rfl⟩ : ∃ z : World, z = wr := ⟨_, rfl⟩
    obtain ⟨i, hki, hil, rfl, HO, HB⟩ := hrel
    obtain ⟨oa, oc, rfl⟩ := form_of_own HO.out
    have t0 := below_later HB.out HX.out
    by_cases hlt : i < L.length
    case neg =>
      obtain rfl : i = L.length := by omega
      go_wp2_with fail
      go_ret
      exact ⟨_, rfl, own_mono HO.out (Nat.le_of_lt hwl), HB1.out.trans (HB.out.mono HB1.out.size)⟩
    obtain ⟨x, hx⟩ : ∃ x, L[i]? = some x := ⟨L[i], List.getElem?_eq_getElem hlt⟩
    obtain ⟨b, off, rfl, hbl, -, -, -, -, c4, -⟩ := tys_cells (H1.out.keep HB.out).row hx
    have HST := Lib.hid (kidsI_step hx hki)
    have hz1' := HB.out.size
    clear hx
    by_cases hup : x.up = (k : Int)
    case neg =>
      rw [if_neg hup, List.append_nil] at HST
      have hun : (x.up == (k : Int)) = false := beq_eq_false_iff_ne.2 hup
      clear hup
      go_wp2_with fail
      go_roundw
      case rel => exact ⟨i + 1, by omega, by omega, by go_num, Lib.hid (by rw [HST.out]; exact HO.out), HB⟩
      case measure => (simp [intOf]; try omega)
    rw [if_pos hup] at HST
    rw [hup] at c4
    clear hup
    have hkl := kidsI_len (L := L) (k := k) (s := k + 1) i
    have HL2 : Hid ((kidsI L k (k + 1) i ++ [i]).length = (kidsI L k (k + 1) i).length + 1) := Lib.hid (by simp)
    have HV2 : Hid (ints (nums (kidsI L k (k + 1) i ++ [i])) = ints (nums (kidsI L k (k + 1) i)) ++ [.int .i64 (i : Int)]) := Lib.hid (by simp [ints, nums])
    generalize kidsI L k (k + 1) i = q at *
    go_wp2_with (at_builtin; refine wpList_append_own _ rfl _ _ 51 rfl w1.heap.size 3 i0 (.int .i64 0) 1 8 Try.underlying51 hi hz0 hz1 hz2 rfl (by decide) _ q.length _ rfl (HO.out.alloc _) _ 1 1 [.int .i64 (i : Int)] rfl rfl (news_one _ _ _) (by simp [Value.oneCell']) (by unfold maxLen; omega) (by omega) (by simp; omega) ?_)
    intro v2 w2 hown hgrow _
    have HO2 := Lib.hid hown
    have HB2 := Lib.hid (Below.grown (HB.out.alloc hz1' _) hgrow (by simp; omega) (fun j hj => (HO.out.lt j hj).1))
    clear hown hgrow
    go_wp2_with fail
    go_roundw
    case rel => exact ⟨i + 1, by omega, by omega, by go_num, Lib.hid (by rw [HST.out, HL2.out, HV2.out]; exact HO2.out), HB2⟩
    case measure => (simp [intOf]; try omega)
/-! ### around -/
theorem Anc.next {L : List Ty} {a j : Nat} {x : Ty} (hx : L[a]? = some x) (hne : ¬ a = j) : Anc L a j ↔ ∃ a' : Nat, x.up = (a' : Int) ∧ a' < a ∧ Anc L a' j := by
  constructor
  · intro h
    cases h with
    | refl => exact absurd rfl hne
    | step hy hu hj ha =>
      rw [hx] at hy; cases hy
      exact ⟨_, hu, hj, ha⟩
  · rintro ⟨a', h1, h2, h3⟩
    exact .step hx h1 h2 h3
set_option maxHeartbeats 2000000 in
theorem spec_l2Around {B : Nat} {w : World} {L : List Ty} {a : Option Addr} {cap : Nat} (h : Sch B w L a cap) (i j : Nat) (x : Ty) (hi0 : 0 < i) (hx : L[i]? = some x) (hj : x.up = (j : Int)) (hbef : ∀ q y, q < i → L[q]? = some y → -1 ≤ y.up ∧ y.up < (q : Int)) (R : Bool) (hR : R = true ↔ Anc L (i - 1) j) :
    Calls Try.prog 79 #[.slice a L.length cap, .int .i64 (i : Int)] w fun e w' => e = .returned (.bool R) ∧ w = w' := by
  have hil := (List.getElem?_eq_some_iff.1 hx).1
  obtain ⟨b, off, rfl, hbl, -, -, -, -, c4, -⟩ := tys_cells h.row hx
  rw [hj] at c4
  have HS := Lib.hid h
  have HBEF := Lib.hid hbef
  have HR := Lib.hid hR
  have i1 : IntKind.i64.wrap ((i : Int) - 1) = (i : Int) - 1 := IntWalk.i64_in _ (by have := h.hl; omega)
  have hlm := h.hl
  have hlc := h.hc
  have hcm := h.hcm
  clear hx h hbef hR
  go_enter Try.func79, Try.ntmps79
  go_wp2_with fail
  go_loop [5] (fun av => ∃ at' : Int, -1 ≤ at' ∧ at' < (i : Int) ∧ av = .int .i64 at' ∧ Hid (R = true ↔ ∃ q : Nat, at' = (q : Int) ∧ Anc L q j)) (fun av => (intOf av + 1).toNat)
  case atStart => exact ⟨(i : Int) - 1, by omega, by omega, rfl, Lib.hid (by
    rw [HR.out]
    constructor
    · intro q; exact ⟨i - 1, by omega, q⟩
    · rintro ⟨q, h1, h2⟩
      obtain rfl : q = i - 1 := by omega
      exact h2)⟩
  case round =>
    obtain ⟨at', h1, h2, rfl, HQ⟩ := hrel
    by_cases h0 : 0 ≤ at'
    case neg =>
      obtain rfl : R = false := by
        rw [Bool.eq_false_iff, Ne, HQ.out]
        rintro ⟨q, e, _⟩
        omega
      go_wp2_with fail
      go_ret
      exact ⟨rfl, rfl⟩
    obtain ⟨q, rfl⟩ : ∃ q : Nat, at' = (q : Int) := ⟨at'.toNat, by omega⟩
    have hqi : q < i := by omega
    by_cases hqj : q = j
    · obtain rfl : R = true := by
        rw [HQ.out]
        exact ⟨q, rfl, hqj ▸ .refl⟩
      have hqe : ((q : Int) == (j : Int)) = true := by rw [beq_iff_eq, hqj]
      clear hqj
      go_wp2_with fail
      go_ret
      exact ⟨rfl, rfl⟩
    obtain ⟨y, hy⟩ : ∃ y, L[q]? = some y := ⟨L[q], List.getElem?_eq_getElem (by omega)⟩
    obtain ⟨b2, off2, hbe, -, -, -, -, -, d4, -⟩ := tys_cells HS.out.row hy
    simp only [Option.some.injEq, Addr.mk.injEq, and_true] at hbe
    obtain ⟨rfl, rfl⟩ := hbe
    obtain ⟨u1, u2⟩ := HBEF.out q y hqi hy
    have HN := Lib.hid (Anc.next (j := j) hy hqj)
    have hqe : ((q : Int) == (j : Int)) = false := beq_eq_false_iff_ne.2 (by omega)
    have hql : q < L.length := by omega
    clear hy hqj
    go_wp2_with fail
    go_round
    case rel => exact ⟨y.up, u1, by omega, rfl, Lib.hid (by
      rw [HQ.out]
      constructor
      · rintro ⟨q2, e, ha⟩
        obtain rfl : q2 = q := by omega
        obtain ⟨a', g1, g2, g3⟩ := HN.out.1 ha
        exact ⟨a', g1, g3⟩
      · rintro ⟨a', g1, g3⟩
        exact ⟨q, rfl, HN.out.2 ⟨a', g1, by omega, g3⟩⟩)⟩
    case measure => (simp [intOf]; try omega)
end Go.Proofs.Ytmlnecopbncdbaa
