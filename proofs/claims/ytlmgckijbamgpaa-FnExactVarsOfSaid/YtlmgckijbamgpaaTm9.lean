/- The variables of a term: the reference's contract. -/
import Derived.Test.YtlmgckijbamgpaaTm8
import Derived.Test.YtlmgckijbamgpaaTmL
namespace Go.Proofs.Ytlmgckijbamgpaa
set_option linter.unusedVariables false
open Go.ChangeShapes Go.WideShapes Go.ChangeAt Go.RowKit
set_option maxRecDepth 100000

theorem good_of {L : List Cel} {vs : List Int} (h : goodT L = some vs) : ∃ r, pT L.length L = some (vs, r) := by
  unfold goodT at h
  split at h
  · cases h
  · split at h
    · cases h
    · rename_i us r hp
      split at h
      · simp only [Option.some.injEq] at h; subst h; exact ⟨r, hp⟩
      · cases h
def R_VarsOf (L : List Cel) : List Int × Bool := match goodT L with
  | none => ([], false)
  | some vs => (pickN (fun x => decide (x ∈ vs)) 6, true)
theorem R_none {L : List Cel} (h : goodT L = none) : R_VarsOf L = ([], false) := by unfold R_VarsOf; rw [h]
theorem R_some {L : List Cel} {vs : List Int} (h : goodT L = some vs) : R_VarsOf L = (pickN (fun x => decide (x ∈ vs)) 6, true) := by unfold R_VarsOf; rw [h]
theorem of_wfI {p : Int} (h1 : 0 ≤ p) (h2 : p ≤ 100) : (Lit.int .i64 p).wf = true := by
  unfold Lit.wf
  rw [Bool.and_eq_true, decide_eq_true_iff, decide_eq_true_iff]
  exact ⟨Int.le_trans (by decide) h1, Int.le_trans h2 (by decide)⟩
theorem R_wf (L : List Cel) : ∀ p ∈ (R_VarsOf L).1, (Lit.int .i64 p).wf = true := by
  intro p hp
  unfold R_VarsOf at hp
  split at hp
  · simp at hp
  · have := pickN_bd _ _ _ hp
    have h6 : ((6 : Nat) : Int) = 6 := rfl
    exact of_wfI (by omega) (by omega)
theorem R_VarsOf_ok (L : List Cel) (_h : kTerm.wt L ≤ 1048576) : kIntS.cnt (R_VarsOf L).1 ≤ 16777215 := by
  have key : ∀ l : List Int, sumL kInt.cnt l = l.length := by
    intro l
    induction l with
    | nil => rfl
    | cons x r ih => show 1 + sumL kInt.cnt r = _; rw [ih, List.length_cons]; omega
  show sumL kInt.cnt (R_VarsOf L).1 ≤ _
  rw [key]
  unfold R_VarsOf
  split
  · simp
  · have := pickN_len (fun x => decide (x ∈ ‹List Int›)) 6
    simp only
    exact Nat.le_trans (pickN_len _ 6) (by decide)
def MadeV (R : List Int × Bool) (w : World) (e : Ending) (w' : World) : Prop :=
  ∃ v, e = .returned (.tuple #[v, .bool R.2]) ∧ w'.ownsRow w.heap.size 3 1 v R.1.length (ints R.1) ∧ Below w.heap.size w w'
theorem made_vars {R : List Int × Bool} {w w' : World} {e : Ending} (hw : ∀ p ∈ R.1, (Lit.int .i64 p).wf = true) (h : MadeV R w e w') : Made kIntS (fun cs => .tuple #[one cs, .bool R.2]) R.1 w e w' := by
  obtain ⟨v, rfl, ho, hb⟩ := h
  refine ⟨[v], v.ownBlock.toList, rfl, ints_own ho hw, by cases v.ownBlock <;> simp, fun b hm => (ho.lt b (by simpa using hm)).1, hb⟩
set_option maxHeartbeats 4000000 in
theorem spec_varsOf (B : Nat) (a : Option Addr) (cap : Nat) (L : List Cel) (w : World) (hc : L.length ≤ cap) (hcm : cap ≤ 9223372036854775807) (hl : L.length ≤ 1048576) (hnm : ∀ c ∈ L, c.2.1.size ≤ maxLen) (hrow : CRow B w a L) (hB : B ≤ w.heap.size) :
    Calls Try.prog 9 #[.agg #[.slice a L.length cap]] w (MadeV (R_VarsOf L) w) := by
  unfold MadeV
  have HBX := Lib.hid (heap_alloc_new w (.cells #[.slice a L.length cap] 31))
  have HBB := Lib.hid ((Below.refl w.heap.size w).alloc (Nat.le_refl _) (.cells #[.slice a L.length cap] 31))
  generalize hwb : w.alloc (.cells #[.slice a L.length cap] 31) = wb at *
  have hzb := hp_lt HBX.out
  have b0 : wb.cell? ⟨w.heap.size, 0, none⟩ = some (.slice a L.length cap) := by simp [World.cell?, HBX.out]
  have HT := Lib.hid (spec_tree B a cap L wb hc hcm hl hnm (hrow.below (HBB.out.mono hB)) (Nat.le_trans hB (Nat.le_of_lt hzb)))
  unfold TreeOf at HT
  cases hg : goodT L with
  | none =>
    rw [R_none hg]
    rw [hg] at HT
    go_enter Try.func9, Try.ntmps9
    go_wp2_with fail
    refine HT.out.mono ?_
    rintro e w3 ⟨v1, nm1, sa, sn, sc, rfl, hb, hyes⟩
    have HB4 := Lib.hid ((HBB.out.trans (hb.mono HBB.out.size)).alloc (Nat.le_trans HBB.out.size hb.size) (.cells #[.int .i64 v1, .string nm1, .slice sa sn sc] 87))
    clear hb hyes
    go_wp2_with fail
    go_ret2
    exact ⟨_, rfl, World.ownsRow_nil _ _ _ _, HB4.out⟩
  | some vs =>
    rw [R_some hg]
    rw [hg] at HT
    obtain ⟨r, hp⟩ := good_of hg
    have hvl := pT_vl _ _ _ _ hp
    have hbd := pT_bd _ _ _ _ hp
    have HFV := Lib.hid (fold_vars hbd)
    generalize pickN (fun x => decide (x ∈ vs)) 6 = R at *
    clear hp hbd hg
    go_enter Try.func9, Try.ntmps9
    go_wp2_with fail
    refine HT.out.mono ?_
    rintro e w3 ⟨v1, nm1, sa, sn, sc, rfl, hb, hyes⟩
    have hz3 := hb.size
    have HA3 := Lib.hid ((Below.refl w3.heap.size w3).alloc (Nat.le_refl _) (.cells #[.int .i64 v1, .string nm1, .slice sa sn sc] 87))
    have HB4 := Lib.hid ((HBB.out.trans (hb.mono HBB.out.size)).alloc (Nat.le_trans HBB.out.size hb.size) (.cells #[.int .i64 v1, .string nm1, .slice sa sn sc] 87))
    have HV := Lib.hid (spec_vars _ (w3.alloc (.cells #[.int .i64 v1, .string nm1, .slice sa sn sc] 87)).heap.size L.length (w3.alloc (.cells #[.int .i64 v1, .string nm1, .slice sa sn sc] 87)) _ vs (.slice none 0 0) [] ((hyes vs rfl).keep (kept_below HA3.out) (fun _ h _ => h)) (World.ownsRow_nil _ _ _ _) (Nat.le_refl _) (by simp; omega))
    rw [HFV.out] at HV
    unfold VarsR at HV
    clear hb hyes HT
    go_wp2_with fail
    refine HV.out.mono ?_
    rintro e w5 ⟨v5, rfl, ho5, hb5⟩
    have HO5 := Lib.hid (own_mono ho5 (Nat.le_trans (Nat.le_of_lt hzb) (Nat.le_trans hz3 HA3.out.size)))
    have HB5 := Lib.hid (HB4.out.trans (hb5.mono HB4.out.size))
    clear ho5 hb5 HV
    obtain ⟨oa, oc, rfl⟩ := form_of_own HO5.out
    go_wp2_with fail
    go_ret2
    exact ⟨_, rfl, HO5.out, HB5.out⟩
theorem term_form {B : Nat} {w : World} {cs : List Value} {L : List Cel} (h : kTerm.rd B w cs L) : ∃ a cap, cs = [.slice a L.length cap] ∧ CRow B w a L ∧ L.length ≤ cap ∧ cap ≤ 9223372036854775807 ∧ (∀ c ∈ L, c.2.1.size ≤ maxLen) := by
  obtain ⟨a, cap, rfl, h2⟩ := Term_rd h
  obtain ⟨h3, _, h4, h5, h6⟩ := cr_of h2
  exact ⟨a, cap, rfl, h3, h4, h5, fun c hc => (h6 c hc).2.1⟩
theorem spec_VarsOf (w : World) (cs0 : List Value) (a0 : List Cel) (h0 : kTerm.rd w.heap.size w cs0 a0) (_ht : kTerm.wt a0 ≤ 1048576) :
    Calls Try.prog 9 #[.agg cs0.toArray] w (Made kIntS (fun cs => .tuple #[one cs, .bool (R_VarsOf a0).2]) (R_VarsOf a0).1 w) := by
  obtain ⟨a, cap, rfl, h1, h2, h3, h4⟩ := term_form h0
  have hl : a0.length ≤ kTerm.wt a0 := Nat.le_add_right _ _
  exact (spec_varsOf w.heap.size a cap a0 w h2 h3 (by omega) h4 h1 (Nat.le_refl _)).mono fun e w' h => made_vars (R_wf a0) h
end Go.Proofs.Ytlmgckijbamgpaa
