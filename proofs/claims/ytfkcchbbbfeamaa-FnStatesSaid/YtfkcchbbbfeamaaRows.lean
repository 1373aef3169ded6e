/-
  No cell of these rows narrows 'for every input' (looked for: loops, veiled, ifaces, maps, wideKeys, modest, calm, conditions, laid).
  DERIVED. THE GIVEN ROWS OF THIS SEAT. 9 by the template 'for every input the law returns true; each argument reads behind the call as it read before'; 0 by the template 'total and deterministic' (their statements: YtfkcchbbbfeamaaTotals.lean).
  GIVEN WITH THE SEED: the statements are not yours to turn. If you find one false, say at which input.
  Laid BY PROGRAM, IN A SANDBOX (cutbox-rows.mjs): the forced cells as the released guide's own fill.sh prints them over the translation 6e8b2463323199e2… (all of the seat's roots in one cut). By AI agents, Wed Nov 11 2026. No macro, syntax, notation, axiom, sorry.
-/
import Derived.Test.YtfkcchbbbfeamaaChecked
import GoSem.Claim
import GoSem.ClaimJoined
import GoSem.ClaimMapViews
import Derived.JoinedTies
import Derived.KernelRfl
namespace Go.Proofs.Ytfkcchbbbfeamaa
/- THE CELL 'sum', in the pinned program and in every row, IS THE sha256 OF THE DUMP (.gsa) THAT YtfkcchbbbfeamaaProg.lean LOADS. Nothing in Lean hashes anything: it is a label: what it is worth is what the hold of that sum in a sandbox is worth. -/
noncomputable def Try.pinned : Pinned := { name := "ytfkcchbbbfeamaa", sum := "6e8b2463323199e2c805d4edceb98976db0c874094884c13439bfda72f7f8202", checked := Try.checked }
namespace Rows
def none {H : Type} : Left H := { results := [], args := [] }

/-- 'laws.FnExactPeriodOf': WHATEVER THE INPUT: true; the input reads as it did. -/
def fnExactPeriodOfSpec : ChangeSpec := { name := "fnExactPeriodOf", fn := fun _ => fun
  | [d] => { results := [.lit (.bool true)], args := [d] }
  | _ => none }
def fnExactPeriodOfRow : OpenClaim := { program := "ytfkcchbbbfeamaa", sum := "6e8b2463323199e2c805d4edceb98976db0c874094884c13439bfda72f7f8202", func := "loop.example/g00333/laws.FnExactPeriodOf", spec := "fnExactPeriodOf", apart := false }
def FnExactPeriodOfSaid : Prop := fnExactPeriodOfRow.holds Try.pinned (OpenSpec.ofChange fnExactPeriodOfSpec)

/-- ITS FALSE NEIGHBOUR: 'it returns false'. Refute it at one input. -/
def fnExactPeriodOfWrong : ChangeSpec := { name := "fnExactPeriodOf", fn := fun _ => fun
  | [d] => { results := [.lit (.bool false)], args := [d] }
  | _ => none }
def FnExactPeriodOfWrongFalsely : Prop := fnExactPeriodOfRow.holds Try.pinned (OpenSpec.ofChange fnExactPeriodOfWrong)

/-- 'laws.FnExactBordersOf': WHATEVER THE INPUT: true; the input reads as it did. -/
def fnExactBordersOfSpec : ChangeSpec := { name := "fnExactBordersOf", fn := fun _ => fun
  | [d] => { results := [.lit (.bool true)], args := [d] }
  | _ => none }
def fnExactBordersOfRow : OpenClaim := { program := "ytfkcchbbbfeamaa", sum := "6e8b2463323199e2c805d4edceb98976db0c874094884c13439bfda72f7f8202", func := "loop.example/g00333/laws.FnExactBordersOf", spec := "fnExactBordersOf", apart := false }
def FnExactBordersOfSaid : Prop := fnExactBordersOfRow.holds Try.pinned (OpenSpec.ofChange fnExactBordersOfSpec)

/-- ITS FALSE NEIGHBOUR: 'it returns false'. Refute it at one input. -/
def fnExactBordersOfWrong : ChangeSpec := { name := "fnExactBordersOf", fn := fun _ => fun
  | [d] => { results := [.lit (.bool false)], args := [d] }
  | _ => none }
def FnExactBordersOfWrongFalsely : Prop := fnExactBordersOfRow.holds Try.pinned (OpenSpec.ofChange fnExactBordersOfWrong)

/-- 'laws.FnExactFindAll': WHATEVER THE INPUT: true; the input reads as it did. -/
def fnExactFindAllSpec : ChangeSpec := { name := "fnExactFindAll", fn := fun _ => fun
  | [d1, d2] => { results := [.lit (.bool true)], args := [d1, d2] }
  | _ => none }
def fnExactFindAllRow : OpenClaim := { program := "ytfkcchbbbfeamaa", sum := "6e8b2463323199e2c805d4edceb98976db0c874094884c13439bfda72f7f8202", func := "loop.example/g00333/laws.FnExactFindAll", spec := "fnExactFindAll", apart := false }
def FnExactFindAllSaid : Prop := fnExactFindAllRow.holds Try.pinned (OpenSpec.ofChange fnExactFindAllSpec)

/-- ITS FALSE NEIGHBOUR: 'it returns false'. Refute it at one input. -/
def fnExactFindAllWrong : ChangeSpec := { name := "fnExactFindAll", fn := fun _ => fun
  | [d1, d2] => { results := [.lit (.bool false)], args := [d1, d2] }
  | _ => none }
def FnExactFindAllWrongFalsely : Prop := fnExactFindAllRow.holds Try.pinned (OpenSpec.ofChange fnExactFindAllWrong)

/-- 'laws.FnSearch': WHATEVER THE INPUT: true; the input reads as it did. -/
def fnSearchSpec : ChangeSpec := { name := "fnSearch", fn := fun _ => fun
  | [d1, d2] => { results := [.lit (.bool true)], args := [d1, d2] }
  | _ => none }
def fnSearchRow : OpenClaim := { program := "ytfkcchbbbfeamaa", sum := "6e8b2463323199e2c805d4edceb98976db0c874094884c13439bfda72f7f8202", func := "loop.example/g00333/laws.FnSearch", spec := "fnSearch", apart := false }
def FnSearchSaid : Prop := fnSearchRow.holds Try.pinned (OpenSpec.ofChange fnSearchSpec)

/-- ITS FALSE NEIGHBOUR: 'it returns false'. Refute it at one input. -/
def fnSearchWrong : ChangeSpec := { name := "fnSearch", fn := fun _ => fun
  | [d1, d2] => { results := [.lit (.bool false)], args := [d1, d2] }
  | _ => none }
def FnSearchWrongFalsely : Prop := fnSearchRow.holds Try.pinned (OpenSpec.ofChange fnSearchWrong)

/-- 'laws.FnExactLongestEnd': WHATEVER THE INPUT: true; the input reads as it did. -/
def fnExactLongestEndSpec : ChangeSpec := { name := "fnExactLongestEnd", fn := fun _ => fun
  | [d1, d2] => { results := [.lit (.bool true)], args := [d1, d2] }
  | _ => none }
def fnExactLongestEndRow : OpenClaim := { program := "ytfkcchbbbfeamaa", sum := "6e8b2463323199e2c805d4edceb98976db0c874094884c13439bfda72f7f8202", func := "loop.example/g00333/laws.FnExactLongestEnd", spec := "fnExactLongestEnd", unfollowed := true, recurses := true, apart := false }
def FnExactLongestEndSaid : Prop := fnExactLongestEndRow.holds Try.pinned (OpenSpec.ofChange fnExactLongestEndSpec)

/-- ITS FALSE NEIGHBOUR: 'it returns false'. Refute it at one input. -/
def fnExactLongestEndWrong : ChangeSpec := { name := "fnExactLongestEnd", fn := fun _ => fun
  | [d1, d2] => { results := [.lit (.bool false)], args := [d1, d2] }
  | _ => none }
def FnExactLongestEndWrongFalsely : Prop := fnExactLongestEndRow.holds Try.pinned (OpenSpec.ofChange fnExactLongestEndWrong)

/-- 'laws.FnExactStepState': WHATEVER THE INPUT: true; the input reads as it did. -/
def fnExactStepStateSpec : ChangeSpec := { name := "fnExactStepState", fn := fun _ => fun
  | [d1, d2, d3] => { results := [.lit (.bool true)], args := [d1, d2, d3] }
  | _ => none }
def fnExactStepStateRow : OpenClaim := { program := "ytfkcchbbbfeamaa", sum := "6e8b2463323199e2c805d4edceb98976db0c874094884c13439bfda72f7f8202", func := "loop.example/g00333/laws.FnExactStepState", spec := "fnExactStepState", unfollowed := true, recurses := true, apart := false }
def FnExactStepStateSaid : Prop := fnExactStepStateRow.holds Try.pinned (OpenSpec.ofChange fnExactStepStateSpec)

/-- ITS FALSE NEIGHBOUR: 'it returns false'. Refute it at one input. -/
def fnExactStepStateWrong : ChangeSpec := { name := "fnExactStepState", fn := fun _ => fun
  | [d1, d2, d3] => { results := [.lit (.bool false)], args := [d1, d2, d3] }
  | _ => none }
def FnExactStepStateWrongFalsely : Prop := fnExactStepStateRow.holds Try.pinned (OpenSpec.ofChange fnExactStepStateWrong)

/-- 'laws.FnExactBuildStates': WHATEVER THE INPUT: true; the input reads as it did. -/
def fnExactBuildStatesSpec : ChangeSpec := { name := "fnExactBuildStates", fn := fun _ => fun
  | [d] => { results := [.lit (.bool true)], args := [d] }
  | _ => none }
def fnExactBuildStatesRow : OpenClaim := { program := "ytfkcchbbbfeamaa", sum := "6e8b2463323199e2c805d4edceb98976db0c874094884c13439bfda72f7f8202", func := "loop.example/g00333/laws.FnExactBuildStates", spec := "fnExactBuildStates", unfollowed := true, recurses := true, apart := false }
def FnExactBuildStatesSaid : Prop := fnExactBuildStatesRow.holds Try.pinned (OpenSpec.ofChange fnExactBuildStatesSpec)

/-- ITS FALSE NEIGHBOUR: 'it returns false'. Refute it at one input. -/
def fnExactBuildStatesWrong : ChangeSpec := { name := "fnExactBuildStates", fn := fun _ => fun
  | [d] => { results := [.lit (.bool false)], args := [d] }
  | _ => none }
def FnExactBuildStatesWrongFalsely : Prop := fnExactBuildStatesRow.holds Try.pinned (OpenSpec.ofChange fnExactBuildStatesWrong)

/-- 'laws.FnExactFindWords': WHATEVER THE INPUT: true; the input reads as it did. -/
def fnExactFindWordsSpec : ChangeSpec := { name := "fnExactFindWords", fn := fun _ => fun
  | [d1, d2] => { results := [.lit (.bool true)], args := [d1, d2] }
  | _ => none }
def fnExactFindWordsRow : OpenClaim := { program := "ytfkcchbbbfeamaa", sum := "6e8b2463323199e2c805d4edceb98976db0c874094884c13439bfda72f7f8202", func := "loop.example/g00333/laws.FnExactFindWords", spec := "fnExactFindWords", unfollowed := true, recurses := true, apart := false }
def FnExactFindWordsSaid : Prop := fnExactFindWordsRow.holds Try.pinned (OpenSpec.ofChange fnExactFindWordsSpec)

/-- ITS FALSE NEIGHBOUR: 'it returns false'. Refute it at one input. -/
def fnExactFindWordsWrong : ChangeSpec := { name := "fnExactFindWords", fn := fun _ => fun
  | [d1, d2] => { results := [.lit (.bool false)], args := [d1, d2] }
  | _ => none }
def FnExactFindWordsWrongFalsely : Prop := fnExactFindWordsRow.holds Try.pinned (OpenSpec.ofChange fnExactFindWordsWrong)

/-- 'laws.FnStates': WHATEVER THE INPUT: true; the input reads as it did. -/
def fnStatesSpec : ChangeSpec := { name := "fnStates", fn := fun _ => fun
  | [d1, d2] => { results := [.lit (.bool true)], args := [d1, d2] }
  | _ => none }
def fnStatesRow : OpenClaim := { program := "ytfkcchbbbfeamaa", sum := "6e8b2463323199e2c805d4edceb98976db0c874094884c13439bfda72f7f8202", func := "loop.example/g00333/laws.FnStates", spec := "fnStates", unfollowed := true, recurses := true, apart := false }
def FnStatesSaid : Prop := fnStatesRow.holds Try.pinned (OpenSpec.ofChange fnStatesSpec)

/-- ITS FALSE NEIGHBOUR: 'it returns false'. Refute it at one input. -/
def fnStatesWrong : ChangeSpec := { name := "fnStates", fn := fun _ => fun
  | [d1, d2] => { results := [.lit (.bool false)], args := [d1, d2] }
  | _ => none }
def FnStatesWrongFalsely : Prop := fnStatesRow.holds Try.pinned (OpenSpec.ofChange fnStatesWrong)

/- THE SECOND FORM. 'bulk': how many values and letters a reading holds, each counted each time it is reached (what is shared counts as often as it is met; a slice's spare places count too). A statement '..UptoSaid' is the law's where the arguments, and the package variables that the reading takes, are together of bulk at most 1048576: NARROWER than '..Said'. Prove '..Said' where nothing that the law and all that it calls make is longer than what came in: it says more and counts as full. Else prove '..UptoSaid'. A law counts once. -/
mutual
def uptoBulk {H : Type} : DataW H → Nat
  | .lit (.string bytes) => bytes.length + 1
  | .lit _ => 1
  | .nil => 1
  | .ptr d => uptoBulk d + 1
  | .slice elems spare => uptoBulkAll elems + uptoBulkAll spare + 1
  | .agg parts => uptoBulkAll parts + 1
  | .iface _ d => uptoBulk d + 1
  | .map entries => uptoBulkEntries entries + 1
  | .held _ => 1
def uptoBulkAll {H : Type} : List (DataW H) → Nat
  | [] => 0
  | d :: r => uptoBulk d + uptoBulkAll r
def uptoBulkEntries {H : Type} : List (Lit × DataW H) → Nat
  | [] => 0
  | x :: r => uptoBulkEntry x + uptoBulkEntries r
def uptoBulkEntry {H : Type} : Lit × DataW H → Nat
  | (.string bytes, d) => bytes.length + uptoBulk d + 1
  | (_, d) => uptoBulk d + 1
 end
def uptoSmall : (H : Type) → List (DataW H) → Bool := fun _ ds => decide (uptoBulkAll ds ≤ 1048576)
def OpenSpec.upto (s : _root_.Go.ChangeSpec) : _root_.Go.OpenSpec := { _root_.Go.OpenSpec.ofChange s with cond := some uptoSmall }

/-- 'laws.FnExactPeriodOf', WHERE WHAT IT READS IS OF BULK AT MOST 1048576: true; the input reads as it did. -/
def fnExactPeriodOfUptoRow : OpenClaim := { program := "ytfkcchbbbfeamaa", sum := "6e8b2463323199e2c805d4edceb98976db0c874094884c13439bfda72f7f8202", func := "loop.example/g00333/laws.FnExactPeriodOf", spec := "fnExactPeriodOf", apart := false, narrowed := true }
def FnExactPeriodOfUptoSaid : Prop := fnExactPeriodOfUptoRow.holds Try.pinned (OpenSpec.upto fnExactPeriodOfSpec)

/-- 'laws.FnExactBordersOf', WHERE WHAT IT READS IS OF BULK AT MOST 1048576: true; the input reads as it did. -/
def fnExactBordersOfUptoRow : OpenClaim := { program := "ytfkcchbbbfeamaa", sum := "6e8b2463323199e2c805d4edceb98976db0c874094884c13439bfda72f7f8202", func := "loop.example/g00333/laws.FnExactBordersOf", spec := "fnExactBordersOf", apart := false, narrowed := true }
def FnExactBordersOfUptoSaid : Prop := fnExactBordersOfUptoRow.holds Try.pinned (OpenSpec.upto fnExactBordersOfSpec)

/-- 'laws.FnExactFindAll', WHERE WHAT IT READS IS OF BULK AT MOST 1048576: true; the input reads as it did. -/
def fnExactFindAllUptoRow : OpenClaim := { program := "ytfkcchbbbfeamaa", sum := "6e8b2463323199e2c805d4edceb98976db0c874094884c13439bfda72f7f8202", func := "loop.example/g00333/laws.FnExactFindAll", spec := "fnExactFindAll", apart := false, narrowed := true }
def FnExactFindAllUptoSaid : Prop := fnExactFindAllUptoRow.holds Try.pinned (OpenSpec.upto fnExactFindAllSpec)

/-- 'laws.FnSearch', WHERE WHAT IT READS IS OF BULK AT MOST 1048576: true; the input reads as it did. -/
def fnSearchUptoRow : OpenClaim := { program := "ytfkcchbbbfeamaa", sum := "6e8b2463323199e2c805d4edceb98976db0c874094884c13439bfda72f7f8202", func := "loop.example/g00333/laws.FnSearch", spec := "fnSearch", apart := false, narrowed := true }
def FnSearchUptoSaid : Prop := fnSearchUptoRow.holds Try.pinned (OpenSpec.upto fnSearchSpec)

/-- 'laws.FnExactLongestEnd', WHERE WHAT IT READS IS OF BULK AT MOST 1048576: true; the input reads as it did. -/
def fnExactLongestEndUptoRow : OpenClaim := { program := "ytfkcchbbbfeamaa", sum := "6e8b2463323199e2c805d4edceb98976db0c874094884c13439bfda72f7f8202", func := "loop.example/g00333/laws.FnExactLongestEnd", spec := "fnExactLongestEnd", unfollowed := true, recurses := true, apart := false, narrowed := true }
def FnExactLongestEndUptoSaid : Prop := fnExactLongestEndUptoRow.holds Try.pinned (OpenSpec.upto fnExactLongestEndSpec)

/-- 'laws.FnExactStepState', WHERE WHAT IT READS IS OF BULK AT MOST 1048576: true; the input reads as it did. -/
def fnExactStepStateUptoRow : OpenClaim := { program := "ytfkcchbbbfeamaa", sum := "6e8b2463323199e2c805d4edceb98976db0c874094884c13439bfda72f7f8202", func := "loop.example/g00333/laws.FnExactStepState", spec := "fnExactStepState", unfollowed := true, recurses := true, apart := false, narrowed := true }
def FnExactStepStateUptoSaid : Prop := fnExactStepStateUptoRow.holds Try.pinned (OpenSpec.upto fnExactStepStateSpec)

/-- 'laws.FnExactBuildStates', WHERE WHAT IT READS IS OF BULK AT MOST 1048576: true; the input reads as it did. -/
def fnExactBuildStatesUptoRow : OpenClaim := { program := "ytfkcchbbbfeamaa", sum := "6e8b2463323199e2c805d4edceb98976db0c874094884c13439bfda72f7f8202", func := "loop.example/g00333/laws.FnExactBuildStates", spec := "fnExactBuildStates", unfollowed := true, recurses := true, apart := false, narrowed := true }
def FnExactBuildStatesUptoSaid : Prop := fnExactBuildStatesUptoRow.holds Try.pinned (OpenSpec.upto fnExactBuildStatesSpec)

/-- 'laws.FnExactFindWords', WHERE WHAT IT READS IS OF BULK AT MOST 1048576: true; the input reads as it did. -/
def fnExactFindWordsUptoRow : OpenClaim := { program := "ytfkcchbbbfeamaa", sum := "6e8b2463323199e2c805d4edceb98976db0c874094884c13439bfda72f7f8202", func := "loop.example/g00333/laws.FnExactFindWords", spec := "fnExactFindWords", unfollowed := true, recurses := true, apart := false, narrowed := true }
def FnExactFindWordsUptoSaid : Prop := fnExactFindWordsUptoRow.holds Try.pinned (OpenSpec.upto fnExactFindWordsSpec)

/-- 'laws.FnStates', WHERE WHAT IT READS IS OF BULK AT MOST 1048576: true; the input reads as it did. -/
def fnStatesUptoRow : OpenClaim := { program := "ytfkcchbbbfeamaa", sum := "6e8b2463323199e2c805d4edceb98976db0c874094884c13439bfda72f7f8202", func := "loop.example/g00333/laws.FnStates", spec := "fnStates", unfollowed := true, recurses := true, apart := false, narrowed := true }
def FnStatesUptoSaid : Prop := fnStatesUptoRow.holds Try.pinned (OpenSpec.upto fnStatesSpec)

end Rows
end Go.Proofs.Ytfkcchbbbfeamaa
