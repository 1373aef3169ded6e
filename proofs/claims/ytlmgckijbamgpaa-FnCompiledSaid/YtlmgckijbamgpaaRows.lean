/-
  No cell of these rows narrows 'for every input' (looked for: loops, veiled, ifaces, maps, wideKeys, modest, calm, conditions, laid).
  DERIVED. THE GIVEN ROWS OF THIS SEAT. 5 by the template 'for every input the law returns true; each argument reads behind the call as it read before'; 0 by the template 'total and deterministic' (their statements: YtlmgckijbamgpaaTotals.lean).
  GIVEN WITH THE SEED: the statements are not yours to turn. If you find one false, say at which input.
  Laid BY PROGRAM, IN A SANDBOX (cutbox-rows.mjs): the forced cells as the released guide's own fill.sh prints them over the translation f9a1c49ac7ee9a00… (all of the seat's roots in one cut). By AI agents, Wed Nov 11 2026. No macro, syntax, notation, axiom, sorry.
-/
import Derived.Test.YtlmgckijbamgpaaChecked
import GoSem.Claim
import GoSem.ClaimJoined
import GoSem.ClaimMapViews
import Derived.JoinedTies
import Derived.KernelRfl
namespace Go.Proofs.Ytlmgckijbamgpaa
/- THE CELL 'sum', in the pinned program and in every row, IS THE sha256 OF THE DUMP (.gsa) THAT YtlmgckijbamgpaaProg.lean LOADS. Nothing in Lean hashes anything: it is a label: what it is worth is what the hold of that sum in a sandbox is worth. -/
noncomputable def Try.pinned : Pinned := { name := "ytlmgckijbamgpaa", sum := "f9a1c49ac7ee9a001b661a345a5d86f5f7b0826a47d9b44b237adc5a3f3129eb", checked := Try.checked }
namespace Rows
def none {H : Type} : Left H := { results := [], args := [] }

/-- 'laws.FnExactVarsOf': WHATEVER THE INPUT: true; the input reads as it did. -/
def fnExactVarsOfSpec : ChangeSpec := { name := "fnExactVarsOf", fn := fun _ => fun
  | [d] => { results := [.lit (.bool true)], args := [d] }
  | _ => none }
def fnExactVarsOfRow : OpenClaim := { program := "ytlmgckijbamgpaa", sum := "f9a1c49ac7ee9a001b661a345a5d86f5f7b0826a47d9b44b237adc5a3f3129eb", func := "loop.example/g00333/laws.FnExactVarsOf", spec := "fnExactVarsOf", unfollowed := true, recurses := true, apart := false }
def FnExactVarsOfSaid : Prop := fnExactVarsOfRow.holds Try.pinned (OpenSpec.ofChange fnExactVarsOfSpec)

/-- ITS FALSE NEIGHBOUR: 'it returns false'. Refute it at one input. -/
def fnExactVarsOfWrong : ChangeSpec := { name := "fnExactVarsOf", fn := fun _ => fun
  | [d] => { results := [.lit (.bool false)], args := [d] }
  | _ => none }
def FnExactVarsOfWrongFalsely : Prop := fnExactVarsOfRow.holds Try.pinned (OpenSpec.ofChange fnExactVarsOfWrong)

/-- 'laws.FnVarint': WHATEVER THE INPUT: true; the input reads as it did. -/
def fnVarintSpec : ChangeSpec := { name := "fnVarint", fn := fun _ => fun
  | [d1, d2] => { results := [.lit (.bool true)], args := [d1, d2] }
  | _ => none }
def fnVarintRow : OpenClaim := { program := "ytlmgckijbamgpaa", sum := "f9a1c49ac7ee9a001b661a345a5d86f5f7b0826a47d9b44b237adc5a3f3129eb", func := "loop.example/g00333/laws.FnVarint", spec := "fnVarint", apart := false }
def FnVarintSaid : Prop := fnVarintRow.holds Try.pinned (OpenSpec.ofChange fnVarintSpec)

/-- ITS FALSE NEIGHBOUR: 'it returns false'. Refute it at one input. -/
def fnVarintWrong : ChangeSpec := { name := "fnVarint", fn := fun _ => fun
  | [d1, d2] => { results := [.lit (.bool false)], args := [d1, d2] }
  | _ => none }
def FnVarintWrongFalsely : Prop := fnVarintRow.holds Try.pinned (OpenSpec.ofChange fnVarintWrong)

/-- 'laws.FnFields': WHATEVER THE INPUT: true; the input reads as it did. -/
def fnFieldsSpec : ChangeSpec := { name := "fnFields", fn := fun _ => fun
  | [d1, d2] => { results := [.lit (.bool true)], args := [d1, d2] }
  | _ => none }
def fnFieldsRow : OpenClaim := { program := "ytlmgckijbamgpaa", sum := "f9a1c49ac7ee9a001b661a345a5d86f5f7b0826a47d9b44b237adc5a3f3129eb", func := "loop.example/g00333/laws.FnFields", spec := "fnFields", unfollowed := true, recurses := true, apart := false }
def FnFieldsSaid : Prop := fnFieldsRow.holds Try.pinned (OpenSpec.ofChange fnFieldsSpec)

/-- ITS FALSE NEIGHBOUR: 'it returns false'. Refute it at one input. -/
def fnFieldsWrong : ChangeSpec := { name := "fnFields", fn := fun _ => fun
  | [d1, d2] => { results := [.lit (.bool false)], args := [d1, d2] }
  | _ => none }
def FnFieldsWrongFalsely : Prop := fnFieldsRow.holds Try.pinned (OpenSpec.ofChange fnFieldsWrong)

/-- 'laws.FnCompiled': WHATEVER THE INPUT: true; the input reads as it did. -/
def fnCompiledSpec : ChangeSpec := { name := "fnCompiled", fn := fun _ => fun
  | [d1, d2] => { results := [.lit (.bool true)], args := [d1, d2] }
  | _ => none }
def fnCompiledRow : OpenClaim := { program := "ytlmgckijbamgpaa", sum := "f9a1c49ac7ee9a001b661a345a5d86f5f7b0826a47d9b44b237adc5a3f3129eb", func := "loop.example/g00333/laws.FnCompiled", spec := "fnCompiled", unfollowed := true, recurses := true, apart := false }
def FnCompiledSaid : Prop := fnCompiledRow.holds Try.pinned (OpenSpec.ofChange fnCompiledSpec)

/-- ITS FALSE NEIGHBOUR: 'it returns false'. Refute it at one input. -/
def fnCompiledWrong : ChangeSpec := { name := "fnCompiled", fn := fun _ => fun
  | [d1, d2] => { results := [.lit (.bool false)], args := [d1, d2] }
  | _ => none }
def FnCompiledWrongFalsely : Prop := fnCompiledRow.holds Try.pinned (OpenSpec.ofChange fnCompiledWrong)

/-- 'laws.FnFilters': WHATEVER THE INPUT: true; the input reads as it did. -/
def fnFiltersSpec : ChangeSpec := { name := "fnFilters", fn := fun _ => fun
  | [d1, d2] => { results := [.lit (.bool true)], args := [d1, d2] }
  | _ => none }
def fnFiltersRow : OpenClaim := { program := "ytlmgckijbamgpaa", sum := "f9a1c49ac7ee9a001b661a345a5d86f5f7b0826a47d9b44b237adc5a3f3129eb", func := "loop.example/g00333/laws.FnFilters", spec := "fnFilters", unfollowed := true, recurses := true, apart := false }
def FnFiltersSaid : Prop := fnFiltersRow.holds Try.pinned (OpenSpec.ofChange fnFiltersSpec)

/-- ITS FALSE NEIGHBOUR: 'it returns false'. Refute it at one input. -/
def fnFiltersWrong : ChangeSpec := { name := "fnFilters", fn := fun _ => fun
  | [d1, d2] => { results := [.lit (.bool false)], args := [d1, d2] }
  | _ => none }
def FnFiltersWrongFalsely : Prop := fnFiltersRow.holds Try.pinned (OpenSpec.ofChange fnFiltersWrong)

/- THE SECOND FORM. 'bulk': how many values and letters a reading holds, each counted each time it is reached (what is shared counts as often as it is met; a slice's spare places count too). A statement '..UptoSaid' is the law's where the arguments, and the package variables that the reading takes, are together of bulk at most 1048576: NARROWER than '..Said'. Prove '..Said' where nothing that the law and all that it calls make is longer than what came in: it says more and counts as full. Else prove '..UptoSaid'. A law counts once. -/
mutual
def uptoBulk {H : Type} : DataW H → Nat
  | .lit (.string bytes) => bytes.length + 1
  | .lit _ => 1
  | .nil => 1
  | .ptr d => uptoBulk d + 1
  | .slice elems spare => uptoBulkAll elems + uptoBulkAll spare + 1
  | .agg parts => uptoBulkAll parts + 1
  | .iface _ d => uptoBulk d + 1
  | .map entries => uptoBulkEntries entries + 1
  | .held _ => 1
def uptoBulkAll {H : Type} : List (DataW H) → Nat
  | [] => 0
  | d :: r => uptoBulk d + uptoBulkAll r
def uptoBulkEntries {H : Type} : List (Lit × DataW H) → Nat
  | [] => 0
  | x :: r => uptoBulkEntry x + uptoBulkEntries r
def uptoBulkEntry {H : Type} : Lit × DataW H → Nat
  | (.string bytes, d) => bytes.length + uptoBulk d + 1
  | (_, d) => uptoBulk d + 1
 end
def uptoSmall : (H : Type) → List (DataW H) → Bool := fun _ ds => decide (uptoBulkAll ds ≤ 1048576)
def OpenSpec.upto (s : _root_.Go.ChangeSpec) : _root_.Go.OpenSpec := { _root_.Go.OpenSpec.ofChange s with cond := some uptoSmall }

/-- 'laws.FnExactVarsOf', WHERE WHAT IT READS IS OF BULK AT MOST 1048576: true; the input reads as it did. -/
def fnExactVarsOfUptoRow : OpenClaim := { program := "ytlmgckijbamgpaa", sum := "f9a1c49ac7ee9a001b661a345a5d86f5f7b0826a47d9b44b237adc5a3f3129eb", func := "loop.example/g00333/laws.FnExactVarsOf", spec := "fnExactVarsOf", unfollowed := true, recurses := true, apart := false, narrowed := true }
def FnExactVarsOfUptoSaid : Prop := fnExactVarsOfUptoRow.holds Try.pinned (OpenSpec.upto fnExactVarsOfSpec)

/-- 'laws.FnVarint', WHERE WHAT IT READS IS OF BULK AT MOST 1048576: true; the input reads as it did. -/
def fnVarintUptoRow : OpenClaim := { program := "ytlmgckijbamgpaa", sum := "f9a1c49ac7ee9a001b661a345a5d86f5f7b0826a47d9b44b237adc5a3f3129eb", func := "loop.example/g00333/laws.FnVarint", spec := "fnVarint", apart := false, narrowed := true }
def FnVarintUptoSaid : Prop := fnVarintUptoRow.holds Try.pinned (OpenSpec.upto fnVarintSpec)

/-- 'laws.FnFields', WHERE WHAT IT READS IS OF BULK AT MOST 1048576: true; the input reads as it did. -/
def fnFieldsUptoRow : OpenClaim := { program := "ytlmgckijbamgpaa", sum := "f9a1c49ac7ee9a001b661a345a5d86f5f7b0826a47d9b44b237adc5a3f3129eb", func := "loop.example/g00333/laws.FnFields", spec := "fnFields", unfollowed := true, recurses := true, apart := false, narrowed := true }
def FnFieldsUptoSaid : Prop := fnFieldsUptoRow.holds Try.pinned (OpenSpec.upto fnFieldsSpec)

/-- 'laws.FnCompiled', WHERE WHAT IT READS IS OF BULK AT MOST 1048576: true; the input reads as it did. -/
def fnCompiledUptoRow : OpenClaim := { program := "ytlmgckijbamgpaa", sum := "f9a1c49ac7ee9a001b661a345a5d86f5f7b0826a47d9b44b237adc5a3f3129eb", func := "loop.example/g00333/laws.FnCompiled", spec := "fnCompiled", unfollowed := true, recurses := true, apart := false, narrowed := true }
def FnCompiledUptoSaid : Prop := fnCompiledUptoRow.holds Try.pinned (OpenSpec.upto fnCompiledSpec)

/-- 'laws.FnFilters', WHERE WHAT IT READS IS OF BULK AT MOST 1048576: true; the input reads as it did. -/
def fnFiltersUptoRow : OpenClaim := { program := "ytlmgckijbamgpaa", sum := "f9a1c49ac7ee9a001b661a345a5d86f5f7b0826a47d9b44b237adc5a3f3129eb", func := "loop.example/g00333/laws.FnFilters", spec := "fnFilters", unfollowed := true, recurses := true, apart := false, narrowed := true }
def FnFiltersUptoSaid : Prop := fnFiltersUptoRow.holds Try.pinned (OpenSpec.upto fnFiltersSpec)

end Rows
end Go.Proofs.Ytlmgckijbamgpaa
