/-
  No cell of these rows narrows 'for every input' (looked for: loops, veiled, ifaces, maps, wideKeys, modest, calm, conditions, laid).
  DERIVED. THE GIVEN ROWS OF THIS SEAT. 8 by the template 'for every input the law returns true; each argument reads behind the call as it read before'; 0 by the template 'total and deterministic' (their statements: YtedjahinlpehgaaTotals.lean).
  GIVEN WITH THE SEED: the statements are not yours to turn. If you find one false, say at which input.
  Laid BY PROGRAM, IN A SANDBOX (cutbox-rows.mjs): the forced cells as the released guide's own fill.sh prints them over the translation cc690bb34e78af26… (all of the seat's roots in one cut). By AI agents, Wed Nov 11 2026. No macro, syntax, notation, axiom, sorry.
-/
import Derived.Test.YtedjahinlpehgaaChecked
import GoSem.Claim
import GoSem.ClaimJoined
import GoSem.ClaimMapViews
import Derived.JoinedTies
import Derived.KernelRfl
namespace Go.Proofs.Ytedjahinlpehgaa
/- THE CELL 'sum', in the pinned program and in every row, IS THE sha256 OF THE DUMP (.gsa) THAT YtedjahinlpehgaaProg.lean LOADS. Nothing in Lean hashes anything: it is a label: what it is worth is what the hold of that sum in a sandbox is worth. -/
noncomputable def Try.pinned : Pinned := { name := "ytedjahinlpehgaa", sum := "cc690bb34e78af2630b9b624bdd7dc91322a20b13430425ff62e85c5bda43971", checked := Try.checked }
namespace Rows
def none {H : Type} : Left H := { results := [], args := [] }

/-- 'laws.FnExactGoodMachine': WHATEVER THE INPUT: true; the input reads as it did. -/
def fnExactGoodMachineSpec : ChangeSpec := { name := "fnExactGoodMachine", fn := fun _ => fun
  | [d] => { results := [.lit (.bool true)], args := [d] }
  | _ => none }
def fnExactGoodMachineRow : OpenClaim := { program := "ytedjahinlpehgaa", sum := "cc690bb34e78af2630b9b624bdd7dc91322a20b13430425ff62e85c5bda43971", func := "loop.example/g00333/laws.FnExactGoodMachine", spec := "fnExactGoodMachine", unfollowed := true, recurses := true, plainKeys := false, apart := false }
def FnExactGoodMachineSaid : Prop := fnExactGoodMachineRow.holds Try.pinned (OpenSpec.ofChange fnExactGoodMachineSpec)

/-- ITS FALSE NEIGHBOUR: 'it returns false'. Refute it at one input. -/
def fnExactGoodMachineWrong : ChangeSpec := { name := "fnExactGoodMachine", fn := fun _ => fun
  | [d] => { results := [.lit (.bool false)], args := [d] }
  | _ => none }
def FnExactGoodMachineWrongFalsely : Prop := fnExactGoodMachineRow.holds Try.pinned (OpenSpec.ofChange fnExactGoodMachineWrong)

/-- 'laws.FnExactRunMachine': WHATEVER THE INPUT: true; the input reads as it did. -/
def fnExactRunMachineSpec : ChangeSpec := { name := "fnExactRunMachine", fn := fun _ => fun
  | [d1, d2] => { results := [.lit (.bool true)], args := [d1, d2] }
  | _ => none }
def fnExactRunMachineRow : OpenClaim := { program := "ytedjahinlpehgaa", sum := "cc690bb34e78af2630b9b624bdd7dc91322a20b13430425ff62e85c5bda43971", func := "loop.example/g00333/laws.FnExactRunMachine", spec := "fnExactRunMachine", unfollowed := true, recurses := true, plainKeys := false, apart := false }
def FnExactRunMachineSaid : Prop := fnExactRunMachineRow.holds Try.pinned (OpenSpec.ofChange fnExactRunMachineSpec)

/-- ITS FALSE NEIGHBOUR: 'it returns false'. Refute it at one input. -/
def fnExactRunMachineWrong : ChangeSpec := { name := "fnExactRunMachine", fn := fun _ => fun
  | [d1, d2] => { results := [.lit (.bool false)], args := [d1, d2] }
  | _ => none }
def FnExactRunMachineWrongFalsely : Prop := fnExactRunMachineRow.holds Try.pinned (OpenSpec.ofChange fnExactRunMachineWrong)

/-- 'laws.FnExactTurnMachine': WHATEVER THE INPUT: true; the input reads as it did. -/
def fnExactTurnMachineSpec : ChangeSpec := { name := "fnExactTurnMachine", fn := fun _ => fun
  | [d] => { results := [.lit (.bool true)], args := [d] }
  | _ => none }
def fnExactTurnMachineRow : OpenClaim := { program := "ytedjahinlpehgaa", sum := "cc690bb34e78af2630b9b624bdd7dc91322a20b13430425ff62e85c5bda43971", func := "loop.example/g00333/laws.FnExactTurnMachine", spec := "fnExactTurnMachine", unfollowed := true, recurses := true, plainKeys := false, apart := false }
def FnExactTurnMachineSaid : Prop := fnExactTurnMachineRow.holds Try.pinned (OpenSpec.ofChange fnExactTurnMachineSpec)

/-- ITS FALSE NEIGHBOUR: 'it returns false'. Refute it at one input. -/
def fnExactTurnMachineWrong : ChangeSpec := { name := "fnExactTurnMachine", fn := fun _ => fun
  | [d] => { results := [.lit (.bool false)], args := [d] }
  | _ => none }
def FnExactTurnMachineWrongFalsely : Prop := fnExactTurnMachineRow.holds Try.pinned (OpenSpec.ofChange fnExactTurnMachineWrong)

/-- 'laws.FnExactMeetMachines': WHATEVER THE INPUT: true; the input reads as it did. -/
def fnExactMeetMachinesSpec : ChangeSpec := { name := "fnExactMeetMachines", fn := fun _ => fun
  | [d1, d2] => { results := [.lit (.bool true)], args := [d1, d2] }
  | _ => none }
def fnExactMeetMachinesRow : OpenClaim := { program := "ytedjahinlpehgaa", sum := "cc690bb34e78af2630b9b624bdd7dc91322a20b13430425ff62e85c5bda43971", func := "loop.example/g00333/laws.FnExactMeetMachines", spec := "fnExactMeetMachines", unfollowed := true, recurses := true, plainKeys := false, apart := false }
def FnExactMeetMachinesSaid : Prop := fnExactMeetMachinesRow.holds Try.pinned (OpenSpec.ofChange fnExactMeetMachinesSpec)

/-- ITS FALSE NEIGHBOUR: 'it returns false'. Refute it at one input. -/
def fnExactMeetMachinesWrong : ChangeSpec := { name := "fnExactMeetMachines", fn := fun _ => fun
  | [d1, d2] => { results := [.lit (.bool false)], args := [d1, d2] }
  | _ => none }
def FnExactMeetMachinesWrongFalsely : Prop := fnExactMeetMachinesRow.holds Try.pinned (OpenSpec.ofChange fnExactMeetMachinesWrong)

/-- 'laws.FnExactSameLanguage': WHATEVER THE INPUT: true; the input reads as it did. -/
def fnExactSameLanguageSpec : ChangeSpec := { name := "fnExactSameLanguage", fn := fun _ => fun
  | [d1, d2] => { results := [.lit (.bool true)], args := [d1, d2] }
  | _ => none }
def fnExactSameLanguageRow : OpenClaim := { program := "ytedjahinlpehgaa", sum := "cc690bb34e78af2630b9b624bdd7dc91322a20b13430425ff62e85c5bda43971", func := "loop.example/g00333/laws.FnExactSameLanguage", spec := "fnExactSameLanguage", unfollowed := true, recurses := true, plainKeys := false, apart := false }
def FnExactSameLanguageSaid : Prop := fnExactSameLanguageRow.holds Try.pinned (OpenSpec.ofChange fnExactSameLanguageSpec)

/-- ITS FALSE NEIGHBOUR: 'it returns false'. Refute it at one input. -/
def fnExactSameLanguageWrong : ChangeSpec := { name := "fnExactSameLanguage", fn := fun _ => fun
  | [d1, d2] => { results := [.lit (.bool false)], args := [d1, d2] }
  | _ => none }
def FnExactSameLanguageWrongFalsely : Prop := fnExactSameLanguageRow.holds Try.pinned (OpenSpec.ofChange fnExactSameLanguageWrong)

/-- 'laws.FnExactClassesOf': WHATEVER THE INPUT: true; the input reads as it did. -/
def fnExactClassesOfSpec : ChangeSpec := { name := "fnExactClassesOf", fn := fun _ => fun
  | [d] => { results := [.lit (.bool true)], args := [d] }
  | _ => none }
def fnExactClassesOfRow : OpenClaim := { program := "ytedjahinlpehgaa", sum := "cc690bb34e78af2630b9b624bdd7dc91322a20b13430425ff62e85c5bda43971", func := "loop.example/g00333/laws.FnExactClassesOf", spec := "fnExactClassesOf", unfollowed := true, recurses := true, plainKeys := false, apart := false }
def FnExactClassesOfSaid : Prop := fnExactClassesOfRow.holds Try.pinned (OpenSpec.ofChange fnExactClassesOfSpec)

/-- ITS FALSE NEIGHBOUR: 'it returns false'. Refute it at one input. -/
def fnExactClassesOfWrong : ChangeSpec := { name := "fnExactClassesOf", fn := fun _ => fun
  | [d] => { results := [.lit (.bool false)], args := [d] }
  | _ => none }
def FnExactClassesOfWrongFalsely : Prop := fnExactClassesOfRow.holds Try.pinned (OpenSpec.ofChange fnExactClassesOfWrong)

/-- 'laws.FnExactLeastOf': WHATEVER THE INPUT: true; the input reads as it did. -/
def fnExactLeastOfSpec : ChangeSpec := { name := "fnExactLeastOf", fn := fun _ => fun
  | [d] => { results := [.lit (.bool true)], args := [d] }
  | _ => none }
def fnExactLeastOfRow : OpenClaim := { program := "ytedjahinlpehgaa", sum := "cc690bb34e78af2630b9b624bdd7dc91322a20b13430425ff62e85c5bda43971", func := "loop.example/g00333/laws.FnExactLeastOf", spec := "fnExactLeastOf", unfollowed := true, recurses := true, plainKeys := false, apart := false }
def FnExactLeastOfSaid : Prop := fnExactLeastOfRow.holds Try.pinned (OpenSpec.ofChange fnExactLeastOfSpec)

/-- ITS FALSE NEIGHBOUR: 'it returns false'. Refute it at one input. -/
def fnExactLeastOfWrong : ChangeSpec := { name := "fnExactLeastOf", fn := fun _ => fun
  | [d] => { results := [.lit (.bool false)], args := [d] }
  | _ => none }
def FnExactLeastOfWrongFalsely : Prop := fnExactLeastOfRow.holds Try.pinned (OpenSpec.ofChange fnExactLeastOfWrong)

/-- 'laws.FnExactReachedOf': WHATEVER THE INPUT: true; the input reads as it did. -/
def fnExactReachedOfSpec : ChangeSpec := { name := "fnExactReachedOf", fn := fun _ => fun
  | [d] => { results := [.lit (.bool true)], args := [d] }
  | _ => none }
def fnExactReachedOfRow : OpenClaim := { program := "ytedjahinlpehgaa", sum := "cc690bb34e78af2630b9b624bdd7dc91322a20b13430425ff62e85c5bda43971", func := "loop.example/g00333/laws.FnExactReachedOf", spec := "fnExactReachedOf", unfollowed := true, recurses := true, plainKeys := false, apart := false }
def FnExactReachedOfSaid : Prop := fnExactReachedOfRow.holds Try.pinned (OpenSpec.ofChange fnExactReachedOfSpec)

/-- ITS FALSE NEIGHBOUR: 'it returns false'. Refute it at one input. -/
def fnExactReachedOfWrong : ChangeSpec := { name := "fnExactReachedOf", fn := fun _ => fun
  | [d] => { results := [.lit (.bool false)], args := [d] }
  | _ => none }
def FnExactReachedOfWrongFalsely : Prop := fnExactReachedOfRow.holds Try.pinned (OpenSpec.ofChange fnExactReachedOfWrong)

/- THE SECOND FORM. 'bulk': how many values and letters a reading holds, each counted each time it is reached (what is shared counts as often as it is met; a slice's spare places count too). A statement '..UptoSaid' is the law's where the arguments, and the package variables that the reading takes, are together of bulk at most 1048576: NARROWER than '..Said'. Prove '..Said' where nothing that the law and all that it calls make is longer than what came in: it says more and counts as full. Else prove '..UptoSaid'. A law counts once. -/
mutual
def uptoBulk {H : Type} : DataW H → Nat
  | .lit (.string bytes) => bytes.length + 1
  | .lit _ => 1
  | .nil => 1
  | .ptr d => uptoBulk d + 1
  | .slice elems spare => uptoBulkAll elems + uptoBulkAll spare + 1
  | .agg parts => uptoBulkAll parts + 1
  | .iface _ d => uptoBulk d + 1
  | .map entries => uptoBulkEntries entries + 1
  | .held _ => 1
def uptoBulkAll {H : Type} : List (DataW H) → Nat
  | [] => 0
  | d :: r => uptoBulk d + uptoBulkAll r
def uptoBulkEntries {H : Type} : List (Lit × DataW H) → Nat
  | [] => 0
  | x :: r => uptoBulkEntry x + uptoBulkEntries r
def uptoBulkEntry {H : Type} : Lit × DataW H → Nat
  | (.string bytes, d) => bytes.length + uptoBulk d + 1
  | (_, d) => uptoBulk d + 1
 end
def uptoSmall : (H : Type) → List (DataW H) → Bool := fun _ ds => decide (uptoBulkAll ds ≤ 1048576)
def OpenSpec.upto (s : _root_.Go.ChangeSpec) : _root_.Go.OpenSpec := { _root_.Go.OpenSpec.ofChange s with cond := some uptoSmall }

/-- 'laws.FnExactGoodMachine', WHERE WHAT IT READS IS OF BULK AT MOST 1048576: true; the input reads as it did. -/
def fnExactGoodMachineUptoRow : OpenClaim := { program := "ytedjahinlpehgaa", sum := "cc690bb34e78af2630b9b624bdd7dc91322a20b13430425ff62e85c5bda43971", func := "loop.example/g00333/laws.FnExactGoodMachine", spec := "fnExactGoodMachine", unfollowed := true, recurses := true, plainKeys := false, apart := false, narrowed := true }
def FnExactGoodMachineUptoSaid : Prop := fnExactGoodMachineUptoRow.holds Try.pinned (OpenSpec.upto fnExactGoodMachineSpec)

/-- 'laws.FnExactRunMachine', WHERE WHAT IT READS IS OF BULK AT MOST 1048576: true; the input reads as it did. -/
def fnExactRunMachineUptoRow : OpenClaim := { program := "ytedjahinlpehgaa", sum := "cc690bb34e78af2630b9b624bdd7dc91322a20b13430425ff62e85c5bda43971", func := "loop.example/g00333/laws.FnExactRunMachine", spec := "fnExactRunMachine", unfollowed := true, recurses := true, plainKeys := false, apart := false, narrowed := true }
def FnExactRunMachineUptoSaid : Prop := fnExactRunMachineUptoRow.holds Try.pinned (OpenSpec.upto fnExactRunMachineSpec)

/-- 'laws.FnExactTurnMachine', WHERE WHAT IT READS IS OF BULK AT MOST 1048576: true; the input reads as it did. -/
def fnExactTurnMachineUptoRow : OpenClaim := { program := "ytedjahinlpehgaa", sum := "cc690bb34e78af2630b9b624bdd7dc91322a20b13430425ff62e85c5bda43971", func := "loop.example/g00333/laws.FnExactTurnMachine", spec := "fnExactTurnMachine", unfollowed := true, recurses := true, plainKeys := false, apart := false, narrowed := true }
def FnExactTurnMachineUptoSaid : Prop := fnExactTurnMachineUptoRow.holds Try.pinned (OpenSpec.upto fnExactTurnMachineSpec)

/-- 'laws.FnExactMeetMachines', WHERE WHAT IT READS IS OF BULK AT MOST 1048576: true; the input reads as it did. -/
def fnExactMeetMachinesUptoRow : OpenClaim := { program := "ytedjahinlpehgaa", sum := "cc690bb34e78af2630b9b624bdd7dc91322a20b13430425ff62e85c5bda43971", func := "loop.example/g00333/laws.FnExactMeetMachines", spec := "fnExactMeetMachines", unfollowed := true, recurses := true, plainKeys := false, apart := false, narrowed := true }
def FnExactMeetMachinesUptoSaid : Prop := fnExactMeetMachinesUptoRow.holds Try.pinned (OpenSpec.upto fnExactMeetMachinesSpec)

/-- 'laws.FnExactSameLanguage', WHERE WHAT IT READS IS OF BULK AT MOST 1048576: true; the input reads as it did. -/
def fnExactSameLanguageUptoRow : OpenClaim := { program := "ytedjahinlpehgaa", sum := "cc690bb34e78af2630b9b624bdd7dc91322a20b13430425ff62e85c5bda43971", func := "loop.example/g00333/laws.FnExactSameLanguage", spec := "fnExactSameLanguage", unfollowed := true, recurses := true, plainKeys := false, apart := false, narrowed := true }
def FnExactSameLanguageUptoSaid : Prop := fnExactSameLanguageUptoRow.holds Try.pinned (OpenSpec.upto fnExactSameLanguageSpec)

/-- 'laws.FnExactClassesOf', WHERE WHAT IT READS IS OF BULK AT MOST 1048576: true; the input reads as it did. -/
def fnExactClassesOfUptoRow : OpenClaim := { program := "ytedjahinlpehgaa", sum := "cc690bb34e78af2630b9b624bdd7dc91322a20b13430425ff62e85c5bda43971", func := "loop.example/g00333/laws.FnExactClassesOf", spec := "fnExactClassesOf", unfollowed := true, recurses := true, plainKeys := false, apart := false, narrowed := true }
def FnExactClassesOfUptoSaid : Prop := fnExactClassesOfUptoRow.holds Try.pinned (OpenSpec.upto fnExactClassesOfSpec)

/-- 'laws.FnExactLeastOf', WHERE WHAT IT READS IS OF BULK AT MOST 1048576: true; the input reads as it did. -/
def fnExactLeastOfUptoRow : OpenClaim := { program := "ytedjahinlpehgaa", sum := "cc690bb34e78af2630b9b624bdd7dc91322a20b13430425ff62e85c5bda43971", func := "loop.example/g00333/laws.FnExactLeastOf", spec := "fnExactLeastOf", unfollowed := true, recurses := true, plainKeys := false, apart := false, narrowed := true }
def FnExactLeastOfUptoSaid : Prop := fnExactLeastOfUptoRow.holds Try.pinned (OpenSpec.upto fnExactLeastOfSpec)

/-- 'laws.FnExactReachedOf', WHERE WHAT IT READS IS OF BULK AT MOST 1048576: true; the input reads as it did. -/
def fnExactReachedOfUptoRow : OpenClaim := { program := "ytedjahinlpehgaa", sum := "cc690bb34e78af2630b9b624bdd7dc91322a20b13430425ff62e85c5bda43971", func := "loop.example/g00333/laws.FnExactReachedOf", spec := "fnExactReachedOf", unfollowed := true, recurses := true, plainKeys := false, apart := false, narrowed := true }
def FnExactReachedOfUptoSaid : Prop := fnExactReachedOfUptoRow.holds Try.pinned (OpenSpec.upto fnExactReachedOfSpec)

end Rows
end Go.Proofs.Ytedjahinlpehgaa
