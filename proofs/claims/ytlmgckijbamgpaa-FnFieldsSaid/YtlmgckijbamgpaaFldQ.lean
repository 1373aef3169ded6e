/- The contract of the laws' small word: whether two rows of fields are alike (where they are). -/
import Derived.Test.YtlmgckijbamgpaaFld6
import Derived.Test.YtlmgckijbamgpaaSched
namespace Go.Proofs.Ytlmgckijbamgpaa
set_option linter.unusedVariables false
set_option linter.unusedSimpArgs false
open Go.ChangeShapes Go.WideShapes Go.ChangeAt Go.RowKit
set_option maxRecDepth 100000

set_option maxHeartbeats 1000000 in
theorem same_flds (a b : Option Addr) (cap cap' : Nat) (l : List Fld) (w : World) (ha : Rw w a (fdsV l)) (hb : Rw w b (fdsV l)) (hn : l.length ≤ 1000000) :
    Calls Try.prog 34 #[.slice a l.length cap, .slice b l.length cap'] w fun e w' => e = .returned (.bool true) ∧ Drawn w w' := by
  have HA := Lib.hid ha; have HB := Lib.hid hb
  clear ha hb
  go_enter Try.func34, Try.ntmps34
  go_wp2_with fail
  go_loopw [13] (fun i wr => ∃ k : Nat, k ≤ l.length ∧ i = .int .i64 k ∧ Drawn w wr) (fun i _ => l.length - (intOf i).toNat)
  case atStart => exact ⟨0, Nat.zero_le _, rfl, Drawn.refl w⟩
  case round =>
    obtain ⟨w1, rfl⟩ : ∃ z : World, z = wr := ⟨_, rfl⟩
    obtain ⟨k, hk, rfl, HD⟩ := hrel
    have HBD : Hid (Below w.heap.size w w1) := Lib.hid (by obtain ⟨n, rfl⟩ := HD; exact below_drewN (Below.refl _ _) n)
    by_cases hlk : k < l.length
    · obtain ⟨f, hf⟩ : ∃ f, l[k]? = some f := ⟨l[k], List.getElem?_eq_getElem hlk⟩
      obtain ⟨b1, o1, rfl, hbl1, hbw1, c0, c1, c2, c3⟩ := row4 HA.out HBD.out hf
      obtain ⟨b2, o2, rfl, hbl2, hbw2, d0, d1, d2, d3⟩ := row4 HB.out HBD.out hf
      obtain ⟨no, kd, nm, dt⟩ := f
      simp only at c0 c1 c2 c3 d0 d1 d2 d3
      have e0 : (no != no) = false := by simp
      have e1 : (kd != kd) = false := by simp
      have e2 : (nm != nm) = false := by simp
      clear hf
      have HDW := Lib.hid HD
      clear HD
      go_wp2_with fail
      refine wp_region_G [] (fun w' => (w'.cell? ⟨b1, o1 + k * 4, none⟩ = some (.int .i64 no) ∧ w'.cell? ⟨b1, o1 + k * 4 + 1, none⟩ = some (.int .i64 kd) ∧ w'.cell? ⟨b1, o1 + k * 4 + 2, none⟩ = some (.int .i64 nm) ∧ w'.cell? ⟨b1, o1 + k * 4 + 3, none⟩ = some (.string dt)) ∧ w'.cell? ⟨b2, o2 + k * 4, none⟩ = some (.int .i64 no) ∧ w'.cell? ⟨b2, o2 + k * 4 + 1, none⟩ = some (.int .i64 kd) ∧ w'.cell? ⟨b2, o2 + k * 4 + 2, none⟩ = some (.int .i64 nm) ∧ w'.cell? ⟨b2, o2 + k * 4 + 3, none⟩ = some (.string dt)) (by kernel_rfl) ?_ (fun hHeld => ?_)
      · exact ⟨⟨c0, c1, c2, c3⟩, d0, d1, d2, d3⟩
      refine wpG_pure (i := 0) (oi := { dst := some 16, op := Go.Op.move (Go.Operand.tmp 0), type := 49, pos := "laws.go:105", after := #[], guard := none }) (v := ?vg1) rfl (by kernel_rfl) (fun _ _ _ h => h) (Or.inr hHeld) (Or.inl ⟨by rfl, ?yg1⟩) ?_
      case yg1 => (intro wS _; go_simp <;> with_reducible rfl)
      try simp only [Act.put, List.setIfInBounds_toArray, List.set_cons_zero, List.set_cons_succ]
      refine wpG_pure (i := 1) (oi := { dst := some 17, op := Go.Op.move (Go.Operand.tmp 5), type := 3, pos := "laws.go:105", after := #[], guard := none }) (v := ?vg2) rfl (by kernel_rfl) (fun _ _ _ h => h) (Or.inr hHeld) (Or.inl ⟨by rfl, ?yg2⟩) ?_
      case yg2 => (intro wS _; go_simp <;> with_reducible rfl)
      try simp only [Act.put, List.setIfInBounds_toArray, List.set_cons_zero, List.set_cons_succ]
      refine wpG_pure (i := 2) (oi := { dst := some 18, op := Go.Op.indexAddr 49 (Go.Operand.tmp 16) (Go.Operand.tmp 17), type := 0, pos := "laws.go:105", after := #[{ on := 0, ground := Go.Ground.data }, { on := 1, ground := Go.Ground.data }], guard := none }) (v := ?vg3) rfl (by kernel_rfl) (fun _ _ _ h => h) (Or.inr hHeld) (Or.inl ⟨by rfl, ?yg3⟩) ?_
      case yg3 => (intro wS _; go_simp <;> with_reducible rfl)
      try simp only [Act.put, List.setIfInBounds_toArray, List.set_cons_zero, List.set_cons_succ]
      refine wpG_load (i := 3) (oi := { dst := some 19, op := Go.Op.load 57 (Go.Operand.tmp 18), type := 57, pos := "laws.go:105", after := #[{ on := 2, ground := Go.Ground.data }], guard := none }) (v := ?vg4) [] rfl (by kernel_rfl) (fun _ _ _ h => h) hHeld (Or.inl ⟨by rfl, ?yg4⟩) ?_
      case yg4 => (intro wS hSw; (try dsimp only at hSw); go_simp <;> with_reducible rfl)
      try simp only [Act.put, List.setIfInBounds_toArray, List.set_cons_zero, List.set_cons_succ]
      refine wpG_pure (i := 4) (oi := { dst := some 20, op := Go.Op.move (Go.Operand.tmp 1), type := 49, pos := "laws.go:105", after := #[], guard := none }) (v := ?vg5) rfl (by kernel_rfl) (fun _ _ _ h => h) (Or.inr hHeld) (Or.inl ⟨by rfl, ?yg5⟩) ?_
      case yg5 => (intro wS _; go_simp <;> with_reducible rfl)
      try simp only [Act.put, List.setIfInBounds_toArray, List.set_cons_zero, List.set_cons_succ]
      refine wpG_pure (i := 5) (oi := { dst := some 21, op := Go.Op.move (Go.Operand.tmp 5), type := 3, pos := "laws.go:105", after := #[], guard := none }) (v := ?vg6) rfl (by kernel_rfl) (fun _ _ _ h => h) (Or.inr hHeld) (Or.inl ⟨by rfl, ?yg6⟩) ?_
      case yg6 => (intro wS _; go_simp <;> with_reducible rfl)
      try simp only [Act.put, List.setIfInBounds_toArray, List.set_cons_zero, List.set_cons_succ]
      refine wpG_pure (i := 6) (oi := { dst := some 22, op := Go.Op.indexAddr 49 (Go.Operand.tmp 20) (Go.Operand.tmp 21), type := 0, pos := "laws.go:105", after := #[{ on := 4, ground := Go.Ground.data }, { on := 5, ground := Go.Ground.data }], guard := none }) (v := ?vg7) rfl (by kernel_rfl) (fun _ _ _ h => h) (Or.inr hHeld) (Or.inl ⟨by rfl, ?yg7⟩) ?_
      case yg7 => (intro wS _; go_simp <;> with_reducible rfl)
      try simp only [Act.put, List.setIfInBounds_toArray, List.set_cons_zero, List.set_cons_succ]
      refine wpG_load (i := 7) (oi := { dst := some 23, op := Go.Op.load 57 (Go.Operand.tmp 22), type := 57, pos := "laws.go:105", after := #[{ on := 6, ground := Go.Ground.data }], guard := none }) (v := ?vg8) [] rfl (by kernel_rfl) (fun _ _ _ h => h) hHeld (Or.inl ⟨by rfl, ?yg8⟩) ?_
      case yg8 => (intro wS hSw; (try dsimp only at hSw); go_simp <;> with_reducible rfl)
      try simp only [Act.put, List.setIfInBounds_toArray, List.set_cons_zero, List.set_cons_succ]
      refine wpG_pure (i := 8) (oi := { dst := some 24, op := Go.Op.binOp Go.BinOp.neq 57 (Go.Operand.tmp 19) (Go.Operand.tmp 23) 57, type := 4, pos := "laws.go:105", after := #[{ on := 3, ground := Go.Ground.data }, { on := 7, ground := Go.Ground.data }], guard := none }) (v := ?vg9) rfl (by kernel_rfl) (fun _ _ _ h => h) (Or.inr hHeld) (Or.inl ⟨by rfl, ?yg9⟩) ?_
      case yg9 => (intro wS _; go_simp <;> with_reducible rfl)
      try simp only [Act.put, List.setIfInBounds_toArray, List.set_cons_zero, List.set_cons_succ]
      refine wpG_done (by kernel_rfl) ?_
      go_wp2_with fail
      go_roundw
      case rel => exact ⟨k + 1, by omega, by go_num, HDW.out.trans ⟨1, rfl⟩⟩
      case measure => simp [intOf]; omega
    · have HDW := Lib.hid HD
      clear HD
      go_wp2_with fail
      go_ret
      exact ⟨rfl, HDW.out⟩
end Go.Proofs.Ytlmgckijbamgpaa
