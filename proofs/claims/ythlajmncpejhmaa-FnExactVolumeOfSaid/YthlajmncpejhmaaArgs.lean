/- How the laws' arguments read, type by type. -/
import Derived.Test.YthlajmncpejhmaaRead
namespace Go.Proofs.Ythlajmncpejhmaa
set_option linter.unusedVariables false
open Go.ChangeShapes Go.WideShapes Go.ChangeAt Go.RowKit
set_option maxRecDepth 100000

section
variable {H : Type} {enc : TypeId × Value → H} {W : World} {r : Reach} {b0 : Nat} {v : Value} {d : DataW H} {ps : List MemPlace}

def IsBytes (w : World) (v : Value) (xs : List UInt8) : Prop := ∃ a cap, v = .slice a xs.length cap ∧ Rw w a (byts xs) ∧ xs.length ≤ cap ∧ cap ≤ maxLen
theorem argBytes (hval : Value.okWide Try.prog W r b0 53 v) (h : DataW.Trod enc Try.prog W 0 (fun _ => true) true 53 v d ps) : ∃ ss, IsBytes W v ss := by
  obtain ⟨fuel, hf⟩ := h
  obtain ⟨ss, hs⟩ := (reads_slice Try.underlying53 (by kernel_rfl) (by omega) (reads_byte Try.underlying5 (by kernel_rfl))).read hf
  obtain ⟨a, cap, h1, h2, h3, h3'⟩ := rSl_byte hs
  exact ⟨ss, a, cap, arg_slice Try.underlying53 hval h1, h2, h3, h3'⟩
/-- the cells of a row of pairs of numbers -/
def sds (xs : List (Int × Int)) : List Value := (xs.map fun p => [Value.int .i64 p.1, Value.int .i64 p.2]).flatten
theorem rSl_side {B : Nat} {w : World} {cs : List Value} {xs : List (Int × Int)} (h : rSl 2 (rApp 1 (rInt .i64) (rInt .i64)) B w cs xs) : ∃ a cap, cs = [.slice a xs.length cap] ∧ Rb B w a (sds xs) ∧ xs.length ≤ cap ∧ cap ≤ maxLen ∧ ∀ p ∈ xs, (Lit.int .i64 p.1).wf = true ∧ (Lit.int .i64 p.2).wf = true := by
  obtain ⟨a, cap, vss, h1, h2, h3, h4, h5⟩ := h
  have key : ∀ v (x : Int × Int), v.length = 2 → rApp 1 (rInt .i64) (rInt .i64) B w v x → v = [Value.int .i64 x.1, Value.int .i64 x.2] ∧ (Lit.int .i64 x.1).wf = true ∧ (Lit.int .i64 x.2).wf = true := by
    rintro v x hl ⟨⟨e1, w1⟩, e2, w2⟩
    match v, hl with
    | [u, u'], _ =>
      simp at e1 e2
      exact ⟨by rw [e1, e2], w1, w2⟩
  have e : vss = xs.map fun p => [Value.int .i64 p.1, Value.int .i64 p.2] := by
    apply List.ext_getElem?
    intro i
    by_cases hi : i < xs.length
    · have hv : vss[i]? = some (vss[i]'(by omega)) := List.getElem?_eq_getElem (by omega)
      have hx : xs[i]? = some xs[i] := List.getElem?_eq_getElem hi
      have h6 := h5 i _ _ hv hx
      rw [List.getElem?_map, hx, hv, (key _ _ h6.1 h6.2).1]; rfl
    · rw [List.getElem?_eq_none (by omega), List.getElem?_eq_none (by simp; omega)]
  rw [e] at h3
  refine ⟨a, cap, h1, h3, h2.1, h2.2, fun s hs => ?_⟩
  obtain ⟨i, hi⟩ := List.getElem?_of_mem hs
  have hil := (List.getElem?_eq_some_iff.1 hi).1
  have hv : vss[i]? = some (vss[i]'(by omega)) := List.getElem?_eq_getElem (by omega)
  have h6 := h5 i _ _ hv hi
  exact (key _ _ h6.1 h6.2).2
def IsBox (w : World) (v : Value) (xs : List (Int × Int)) : Prop := ∃ a cap, v = .agg #[.slice a xs.length cap] ∧ Rw w a (sds xs) ∧ xs.length ≤ cap ∧ cap ≤ maxLen ∧ ∀ p ∈ xs, (Lit.int .i64 p.1).wf = true ∧ (Lit.int .i64 p.2).wf = true
theorem argBox (hval : Value.okWide Try.prog W r b0 24 v) (h : DataW.Trod enc Try.prog W 0 (fun _ => true) true 24 v d ps) : ∃ ss, IsBox W v ss := by
  obtain ⟨fuel, hf⟩ := h
  obtain ⟨ss, hs⟩ := (reads_struct1 Try.underlying24 (by kernel_rfl) rfl (reads_slice Try.underlying22 (by kernel_rfl) (by omega) (reads_struct2 (k0 := 1) (k1 := 1) Try.underlying85 (by kernel_rfl) rfl rfl (reads_int Try.underlying3 (by kernel_rfl)) (reads_int Try.underlying3 (by kernel_rfl))))).read hf
  obtain ⟨a, cap, h1, h2, h3, h3', h4⟩ := rSl_side hs
  refine ⟨ss, a, cap, ?_, h2, h3, h3', h4⟩
  rw [arg_struct Try.underlying24 hval, h1]
end
end Go.Proofs.Ythlajmncpejhmaa
