/- FnExactRootOf: for every argument the call of the law returns true and each argument reads behind it as before. No condition. -/
import Derived.Test.YtdhkagabkhepgaaArgs
import Derived.Test.YtdhkagabkhepgaaLogRoot
namespace Go.Proofs.Ytdhkagabkhepgaa.fnExactRootOf
open Go.ChangeShapes Go.WideShapes Go.ChangeAt Go.RowKit
open Go.ChangeMaps (open_string shut_string)
set_option linter.unusedVariables false

theorem own : ownKnob Try.prog.godebug = none := by kernel_rfl
theorem laidOut : laidOutB Try.prog = true := by kernel_rfl

set_option maxHeartbeats 1000000 in
set_option maxRecDepth 100000 in
theorem walk (w : World) (v0 : Value) (a0 : List ByteArray) (w0 : IsStrs w v0 a0) :
    Calls Try.prog 6 #[v0] w fun e w' => e = .returned (.bool true) ∧ Below w.heap.size w w' := by
  obtain ⟨a, cap, rfl, hrow, hc1, hc2, hsz⟩ := w0
  have hn63 : a0.length ≤ maxLen := Nat.le_trans hc1 hc2
  have hz := sz_strs a cap a0 1048576 w hrow hn63 hsz (by omega) (by omega)
  unfold maxLen at hc2 hsz
  by_cases hneg : szStrs 1048576 a0 < 0
  · have HZ := Lib.hid hz
    clear hz hrow hsz hn63
    go_enter Try.func6, Try.ntmps6
    go_wp2_with fail
    refine HZ.out.mono ?_
    rintro e w' ⟨rfl, rfl⟩
    go_wp2_with fail
    go_ret
    exact ⟨rfl, Below.refl _ _⟩
  have hk := szStrs_ok (by omega) (show 0 ≤ szStrs 1048576 a0 by omega)
  have hn : a0.length ≤ 1048576 := by omega
  have hpos : 0 ≤ szStrs 1048576 a0 := by omega
  have HZ := Lib.hid hz
  have HSZ := Lib.hid hsz
  have HR := Lib.hid hrow
  clear hz hrow hsz hn63 hk hneg
  go_enter Try.func6, Try.ntmps6
  go_wp2_with fail
  refine HZ.out.mono ?_
  rintro e w' ⟨rfl, rfl⟩
  go_wp2_with fail
  refine (to_strs a cap a0 _ HR.out hn).mono ?_
  rintro e w1 ⟨rfl, ho1, hb1⟩
  have HO1 := Lib.hid ho1; have HB1 := Lib.hid hb1; clear ho1 hb1
  go_wp2_with fail
  refine (spec_rootOf _ _ a0 _ (own_rw HO1.out) (Nat.le_refl _) (by omega) hn HSZ.out).mono ?_
  rintro e w' ⟨rfl, n1, rfl⟩
  have HB2 := Lib.hid (below_drewN HB1.out n1); clear HB1
  go_wp2_with fail
  refine (to_strs a cap a0 _ (HR.out.below HB2.out) hn).mono ?_
  rintro e w2 ⟨rfl, ho2, hb2⟩
  have HB3 := Lib.hid (below_of _ hb2 HB2.out HB2.out.size); have HO2 := Lib.hid ho2; clear ho2 hb2
  go_wp2_with fail
  refine (impl_rootOf _ _ a0 _ (own_rw HO2.out) (Nat.le_refl _) (by omega) hn HSZ.out).mono ?_
  rintro e w' ⟨rfl, n2, rfl⟩
  have HB4 := Lib.hid (below_drewN HB3.out n2); clear HB3
  go_wp2_with fail
  refine (to_strs a cap a0 _ (HR.out.below HB4.out) hn).mono ?_
  rintro e w3 ⟨rfl, ho3, hb3⟩
  have HB5 := Lib.hid (below_of _ hb3 HB4.out HB4.out.size); have HO3 := Lib.hid ho3; have HB3' := Lib.hid hb3; clear ho3 hb3
  go_wp2_with fail
  refine (eq_strs _ _ _ _ a0 _ (own_rw (own_later (w := w2.drewN n2) HO2.out HB3'.out)) (own_rw HO3.out) hn).mono ?_
  rintro e w' ⟨rfl, n3, rfl⟩
  go_wp2_with fail
  go_ret
  exact ⟨rfl, below_drewN HB5.out n3⟩

set_option maxRecDepth 100000 in
theorem lifted (os : Os) (started : os.Started) (H : Type) (enc : TypeId × Value → H) :
    ReturnsInHanded {} Try.checked os 6 .any (Rows.fnExactRootOfSpec.pre6 enc Try.prog Try.f6 Rows.fnExactRootOfRow.domain false) (Rows.fnExactRootOfSpec.post enc Try.prog Try.f6 false true false false) := by
  refine returnsInHanded_of_change (C := Try.checked) own started (by kernel_rfl) Try.func6
    (ChangeSpec.witness6 (enc := enc) (C := Try.checked) false ⟨#[], #[.slice none 0 0], []⟩ 8 (by kernel_rfl) (by kernel_rfl) (by kernel_rfl) (by kernel_rfl)) ?_
  intro W base args ds gs before hval0 hW hcnd _
  have hval : ∀ (j : Nat) t v, Try.f6.params[j]? = some t → args[j]? = some v → Value.okWide Try.prog W .any base t v := hval0
  have hW' := hW
  obtain ⟨p, q, hA0, hV, rfl, hfz, hnd⟩ := hW
  have hA : DataW.TrodAll enc Try.prog W 0 (fun _ => true) true Try.f6.params.toList args.toList ds p := hA0
  rw [Try.params6] at hA hval
  obtain ⟨v0, vs0, d0, ds0, p0, q0, hargs, rfl, rfl, h0, r0⟩ := trodAll_cons hA
  obtain ⟨rfl, rfl, rfl⟩ := trodAll_nil r0
  obtain rfl : args = #[v0] := by cases args; simp_all
  obtain ⟨rfl, rfl⟩ := trodVars_none hV
  have k0 := h0
  have lt0 : ∀ x ∈ p0, x.block < W.heap.size := by obtain ⟨m, hm⟩ := k0; exact DataW.trod_lt m _ _ _ hm
  obtain ⟨a0, w0⟩ := argStrs (hval 0 29 v0 rfl rfl) h0
  clear hA0 hval0
  refine (walk W v0 a0 w0).mono fun e W' ⟨he, bel⟩ => ?_
  subst he
  exact ⟨_, rfl, _, _, _, [], _, [], hW', trodAll_mk1 (shut_bool Try.underlying4 _), (trodAll_cons_mk (Below.trod laidOut (by kernel_rfl) (of_decide_eq_true (by kernel_rfl)) k0 bel lt0) trodAll_mk0), rfl, bel.frame _, fun h => by cases h⟩

theorem over : Rows.fnExactRootOfRow.holds Try.pinned (OpenSpec.ofChange Rows.fnExactRootOfSpec) :=
  OpenClaim.holds_of_wide 6 Try.f6 rfl rfl rfl rfl rfl rfl rfl ⟨rfl, rfl, rfl, rfl, rfl⟩ rfl rfl rfl rfl rfl (by kernel_rfl) Try.func6 (by kernel_rfl)
    (of_decide_eq_true (by kernel_rfl)) (by unfold Func.isWrapper; first | (rw [if_pos (by decide +kernel)]; kernel_rfl) | (rw [if_neg (by decide +kernel)]; exact ⟨rfl, rfl⟩))
    (fun os started H enc _ => lifted os started H enc)

theorem proved : Rows.FnExactRootOfSaid :=
  over
#print axioms proved
end Go.Proofs.Ytdhkagabkhepgaa.fnExactRootOf
