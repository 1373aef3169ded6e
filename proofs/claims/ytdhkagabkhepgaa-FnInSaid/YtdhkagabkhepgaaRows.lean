/-
  No cell of these rows narrows 'for every input' (looked for: loops, veiled, ifaces, maps, wideKeys, modest, calm, conditions, laid).
  DERIVED. THE GIVEN ROWS OF THIS SEAT. 10 by the template 'for every input the law returns true; each argument reads behind the call as it read before'; 0 by the template 'total and deterministic' (their statements: YtdhkagabkhepgaaTotals.lean).
  GIVEN WITH THE SEED: the statements are not yours to turn. If you find one false, say at which input.
  Laid BY PROGRAM, IN A SANDBOX (cutbox-rows.mjs): the forced cells as the released guide's own fill.sh prints them over the translation 202ce1db39cbac69… (all of the seat's roots in one cut). By AI agents, Wed Nov 11 2026. No macro, syntax, notation, axiom, sorry.
-/
import Derived.Test.YtdhkagabkhepgaaChecked
import GoSem.Claim
import GoSem.ClaimJoined
import GoSem.ClaimMapViews
import Derived.JoinedTies
import Derived.KernelRfl
namespace Go.Proofs.Ytdhkagabkhepgaa
/- THE CELL 'sum', in the pinned program and in every row, IS THE sha256 OF THE DUMP (.gsa) THAT YtdhkagabkhepgaaProg.lean LOADS. Nothing in Lean hashes anything: it is a label: what it is worth is what the hold of that sum in a sandbox is worth. -/
noncomputable def Try.pinned : Pinned := { name := "ytdhkagabkhepgaa", sum := "202ce1db39cbac69012981d8a9e224d97b2fa28435fa39ca8c448482f0162305", checked := Try.checked }
namespace Rows
def none {H : Type} : Left H := { results := [], args := [] }

/-- 'laws.FnExactLeafSum': WHATEVER THE INPUT: true; the input reads as it did. -/
def fnExactLeafSumSpec : ChangeSpec := { name := "fnExactLeafSum", fn := fun _ => fun
  | [d] => { results := [.lit (.bool true)], args := [d] }
  | _ => none }
def fnExactLeafSumRow : OpenClaim := { program := "ytdhkagabkhepgaa", sum := "202ce1db39cbac69012981d8a9e224d97b2fa28435fa39ca8c448482f0162305", func := "loop.example/g00333/laws.FnExactLeafSum", spec := "fnExactLeafSum", apart := false }
def FnExactLeafSumSaid : Prop := fnExactLeafSumRow.holds Try.pinned (OpenSpec.ofChange fnExactLeafSumSpec)

/-- ITS FALSE NEIGHBOUR: 'it returns false'. Refute it at one input. -/
def fnExactLeafSumWrong : ChangeSpec := { name := "fnExactLeafSum", fn := fun _ => fun
  | [d] => { results := [.lit (.bool false)], args := [d] }
  | _ => none }
def FnExactLeafSumWrongFalsely : Prop := fnExactLeafSumRow.holds Try.pinned (OpenSpec.ofChange fnExactLeafSumWrong)

/-- 'laws.FnExactNodeSum': WHATEVER THE INPUT: true; the input reads as it did. -/
def fnExactNodeSumSpec : ChangeSpec := { name := "fnExactNodeSum", fn := fun _ => fun
  | [d1, d2] => { results := [.lit (.bool true)], args := [d1, d2] }
  | _ => none }
def fnExactNodeSumRow : OpenClaim := { program := "ytdhkagabkhepgaa", sum := "202ce1db39cbac69012981d8a9e224d97b2fa28435fa39ca8c448482f0162305", func := "loop.example/g00333/laws.FnExactNodeSum", spec := "fnExactNodeSum", apart := false }
def FnExactNodeSumSaid : Prop := fnExactNodeSumRow.holds Try.pinned (OpenSpec.ofChange fnExactNodeSumSpec)

/-- ITS FALSE NEIGHBOUR: 'it returns false'. Refute it at one input. -/
def fnExactNodeSumWrong : ChangeSpec := { name := "fnExactNodeSum", fn := fun _ => fun
  | [d1, d2] => { results := [.lit (.bool false)], args := [d1, d2] }
  | _ => none }
def FnExactNodeSumWrongFalsely : Prop := fnExactNodeSumRow.holds Try.pinned (OpenSpec.ofChange fnExactNodeSumWrong)

/-- 'laws.FnExactSplitAt': WHATEVER THE INPUT: true; the input reads as it did. -/
def fnExactSplitAtSpec : ChangeSpec := { name := "fnExactSplitAt", fn := fun _ => fun
  | [d] => { results := [.lit (.bool true)], args := [d] }
  | _ => none }
def fnExactSplitAtRow : OpenClaim := { program := "ytdhkagabkhepgaa", sum := "202ce1db39cbac69012981d8a9e224d97b2fa28435fa39ca8c448482f0162305", func := "loop.example/g00333/laws.FnExactSplitAt", spec := "fnExactSplitAt", apart := false }
def FnExactSplitAtSaid : Prop := fnExactSplitAtRow.holds Try.pinned (OpenSpec.ofChange fnExactSplitAtSpec)

/-- ITS FALSE NEIGHBOUR: 'it returns false'. Refute it at one input. -/
def fnExactSplitAtWrong : ChangeSpec := { name := "fnExactSplitAt", fn := fun _ => fun
  | [d] => { results := [.lit (.bool false)], args := [d] }
  | _ => none }
def FnExactSplitAtWrongFalsely : Prop := fnExactSplitAtRow.holds Try.pinned (OpenSpec.ofChange fnExactSplitAtWrong)

/-- 'laws.FnExactRootOf': WHATEVER THE INPUT: true; the input reads as it did. -/
def fnExactRootOfSpec : ChangeSpec := { name := "fnExactRootOf", fn := fun _ => fun
  | [d] => { results := [.lit (.bool true)], args := [d] }
  | _ => none }
def fnExactRootOfRow : OpenClaim := { program := "ytdhkagabkhepgaa", sum := "202ce1db39cbac69012981d8a9e224d97b2fa28435fa39ca8c448482f0162305", func := "loop.example/g00333/laws.FnExactRootOf", spec := "fnExactRootOf", unfollowed := true, recurses := true, apart := false }
def FnExactRootOfSaid : Prop := fnExactRootOfRow.holds Try.pinned (OpenSpec.ofChange fnExactRootOfSpec)

/-- ITS FALSE NEIGHBOUR: 'it returns false'. Refute it at one input. -/
def fnExactRootOfWrong : ChangeSpec := { name := "fnExactRootOf", fn := fun _ => fun
  | [d] => { results := [.lit (.bool false)], args := [d] }
  | _ => none }
def FnExactRootOfWrongFalsely : Prop := fnExactRootOfRow.holds Try.pinned (OpenSpec.ofChange fnExactRootOfWrong)

/-- 'laws.FnExactCheckGrew': WHATEVER THE INPUT: true; the input reads as it did. -/
def fnExactCheckGrewSpec : ChangeSpec := { name := "fnExactCheckGrew", fn := fun _ => fun
  | [d1, d2, d3, d4, d5] => { results := [.lit (.bool true)], args := [d1, d2, d3, d4, d5] }
  | _ => none }
def fnExactCheckGrewRow : OpenClaim := { program := "ytdhkagabkhepgaa", sum := "202ce1db39cbac69012981d8a9e224d97b2fa28435fa39ca8c448482f0162305", func := "loop.example/g00333/laws.FnExactCheckGrew", spec := "fnExactCheckGrew", unfollowed := true, recurses := true, apart := false }
def FnExactCheckGrewSaid : Prop := fnExactCheckGrewRow.holds Try.pinned (OpenSpec.ofChange fnExactCheckGrewSpec)

/-- ITS FALSE NEIGHBOUR: 'it returns false'. Refute it at one input. -/
def fnExactCheckGrewWrong : ChangeSpec := { name := "fnExactCheckGrew", fn := fun _ => fun
  | [d1, d2, d3, d4, d5] => { results := [.lit (.bool false)], args := [d1, d2, d3, d4, d5] }
  | _ => none }
def FnExactCheckGrewWrongFalsely : Prop := fnExactCheckGrewRow.holds Try.pinned (OpenSpec.ofChange fnExactCheckGrewWrong)

/-- 'laws.FnExactCheckIn': WHATEVER THE INPUT: true; the input reads as it did. -/
def fnExactCheckInSpec : ChangeSpec := { name := "fnExactCheckIn", fn := fun _ => fun
  | [d1, d2, d3, d4, d5] => { results := [.lit (.bool true)], args := [d1, d2, d3, d4, d5] }
  | _ => none }
def fnExactCheckInRow : OpenClaim := { program := "ytdhkagabkhepgaa", sum := "202ce1db39cbac69012981d8a9e224d97b2fa28435fa39ca8c448482f0162305", func := "loop.example/g00333/laws.FnExactCheckIn", spec := "fnExactCheckIn", unfollowed := true, recurses := true, apart := false }
def FnExactCheckInSaid : Prop := fnExactCheckInRow.holds Try.pinned (OpenSpec.ofChange fnExactCheckInSpec)

/-- ITS FALSE NEIGHBOUR: 'it returns false'. Refute it at one input. -/
def fnExactCheckInWrong : ChangeSpec := { name := "fnExactCheckIn", fn := fun _ => fun
  | [d1, d2, d3, d4, d5] => { results := [.lit (.bool false)], args := [d1, d2, d3, d4, d5] }
  | _ => none }
def FnExactCheckInWrongFalsely : Prop := fnExactCheckInRow.holds Try.pinned (OpenSpec.ofChange fnExactCheckInWrong)

/-- 'laws.FnExactProveIn': WHATEVER THE INPUT: true; the input reads as it did. -/
def fnExactProveInSpec : ChangeSpec := { name := "fnExactProveIn", fn := fun _ => fun
  | [d1, d2] => { results := [.lit (.bool true)], args := [d1, d2] }
  | _ => none }
def fnExactProveInRow : OpenClaim := { program := "ytdhkagabkhepgaa", sum := "202ce1db39cbac69012981d8a9e224d97b2fa28435fa39ca8c448482f0162305", func := "loop.example/g00333/laws.FnExactProveIn", spec := "fnExactProveIn", unfollowed := true, recurses := true, apart := false }
def FnExactProveInSaid : Prop := fnExactProveInRow.holds Try.pinned (OpenSpec.ofChange fnExactProveInSpec)

/-- ITS FALSE NEIGHBOUR: 'it returns false'. Refute it at one input. -/
def fnExactProveInWrong : ChangeSpec := { name := "fnExactProveIn", fn := fun _ => fun
  | [d1, d2] => { results := [.lit (.bool false)], args := [d1, d2] }
  | _ => none }
def FnExactProveInWrongFalsely : Prop := fnExactProveInRow.holds Try.pinned (OpenSpec.ofChange fnExactProveInWrong)

/-- 'laws.FnExactProveGrew': WHATEVER THE INPUT: true; the input reads as it did. -/
def fnExactProveGrewSpec : ChangeSpec := { name := "fnExactProveGrew", fn := fun _ => fun
  | [d1, d2] => { results := [.lit (.bool true)], args := [d1, d2] }
  | _ => none }
def fnExactProveGrewRow : OpenClaim := { program := "ytdhkagabkhepgaa", sum := "202ce1db39cbac69012981d8a9e224d97b2fa28435fa39ca8c448482f0162305", func := "loop.example/g00333/laws.FnExactProveGrew", spec := "fnExactProveGrew", unfollowed := true, recurses := true, apart := false }
def FnExactProveGrewSaid : Prop := fnExactProveGrewRow.holds Try.pinned (OpenSpec.ofChange fnExactProveGrewSpec)

/-- ITS FALSE NEIGHBOUR: 'it returns false'. Refute it at one input. -/
def fnExactProveGrewWrong : ChangeSpec := { name := "fnExactProveGrew", fn := fun _ => fun
  | [d1, d2] => { results := [.lit (.bool false)], args := [d1, d2] }
  | _ => none }
def FnExactProveGrewWrongFalsely : Prop := fnExactProveGrewRow.holds Try.pinned (OpenSpec.ofChange fnExactProveGrewWrong)

/-- 'laws.FnIn': WHATEVER THE INPUT: true; the input reads as it did. -/
def fnInSpec : ChangeSpec := { name := "fnIn", fn := fun _ => fun
  | [d1, d2] => { results := [.lit (.bool true)], args := [d1, d2] }
  | _ => none }
def fnInRow : OpenClaim := { program := "ytdhkagabkhepgaa", sum := "202ce1db39cbac69012981d8a9e224d97b2fa28435fa39ca8c448482f0162305", func := "loop.example/g00333/laws.FnIn", spec := "fnIn", unfollowed := true, recurses := true, apart := false }
def FnInSaid : Prop := fnInRow.holds Try.pinned (OpenSpec.ofChange fnInSpec)

/-- ITS FALSE NEIGHBOUR: 'it returns false'. Refute it at one input. -/
def fnInWrong : ChangeSpec := { name := "fnIn", fn := fun _ => fun
  | [d1, d2] => { results := [.lit (.bool false)], args := [d1, d2] }
  | _ => none }
def FnInWrongFalsely : Prop := fnInRow.holds Try.pinned (OpenSpec.ofChange fnInWrong)

/-- 'laws.FnGrew': WHATEVER THE INPUT: true; the input reads as it did. -/
def fnGrewSpec : ChangeSpec := { name := "fnGrew", fn := fun _ => fun
  | [d1, d2] => { results := [.lit (.bool true)], args := [d1, d2] }
  | _ => none }
def fnGrewRow : OpenClaim := { program := "ytdhkagabkhepgaa", sum := "202ce1db39cbac69012981d8a9e224d97b2fa28435fa39ca8c448482f0162305", func := "loop.example/g00333/laws.FnGrew", spec := "fnGrew", unfollowed := true, recurses := true, apart := false }
def FnGrewSaid : Prop := fnGrewRow.holds Try.pinned (OpenSpec.ofChange fnGrewSpec)

/-- ITS FALSE NEIGHBOUR: 'it returns false'. Refute it at one input. -/
def fnGrewWrong : ChangeSpec := { name := "fnGrew", fn := fun _ => fun
  | [d1, d2] => { results := [.lit (.bool false)], args := [d1, d2] }
  | _ => none }
def FnGrewWrongFalsely : Prop := fnGrewRow.holds Try.pinned (OpenSpec.ofChange fnGrewWrong)

/- THE SECOND FORM. 'bulk': how many values and letters a reading holds, each counted each time it is reached (what is shared counts as often as it is met; a slice's spare places count too). A statement '..UptoSaid' is the law's where the arguments, and the package variables that the reading takes, are together of bulk at most 1048576: NARROWER than '..Said'. Prove '..Said' where nothing that the law and all that it calls make is longer than what came in: it says more and counts as full. Else prove '..UptoSaid'. A law counts once. -/
mutual
def uptoBulk {H : Type} : DataW H → Nat
  | .lit (.string bytes) => bytes.length + 1
  | .lit _ => 1
  | .nil => 1
  | .ptr d => uptoBulk d + 1
  | .slice elems spare => uptoBulkAll elems + uptoBulkAll spare + 1
  | .agg parts => uptoBulkAll parts + 1
  | .iface _ d => uptoBulk d + 1
  | .map entries => uptoBulkEntries entries + 1
  | .held _ => 1
def uptoBulkAll {H : Type} : List (DataW H) → Nat
  | [] => 0
  | d :: r => uptoBulk d + uptoBulkAll r
def uptoBulkEntries {H : Type} : List (Lit × DataW H) → Nat
  | [] => 0
  | x :: r => uptoBulkEntry x + uptoBulkEntries r
def uptoBulkEntry {H : Type} : Lit × DataW H → Nat
  | (.string bytes, d) => bytes.length + uptoBulk d + 1
  | (_, d) => uptoBulk d + 1
 end
def uptoSmall : (H : Type) → List (DataW H) → Bool := fun _ ds => decide (uptoBulkAll ds ≤ 1048576)
def OpenSpec.upto (s : _root_.Go.ChangeSpec) : _root_.Go.OpenSpec := { _root_.Go.OpenSpec.ofChange s with cond := some uptoSmall }

/-- 'laws.FnExactLeafSum', WHERE WHAT IT READS IS OF BULK AT MOST 1048576: true; the input reads as it did. -/
def fnExactLeafSumUptoRow : OpenClaim := { program := "ytdhkagabkhepgaa", sum := "202ce1db39cbac69012981d8a9e224d97b2fa28435fa39ca8c448482f0162305", func := "loop.example/g00333/laws.FnExactLeafSum", spec := "fnExactLeafSum", apart := false, narrowed := true }
def FnExactLeafSumUptoSaid : Prop := fnExactLeafSumUptoRow.holds Try.pinned (OpenSpec.upto fnExactLeafSumSpec)

/-- 'laws.FnExactNodeSum', WHERE WHAT IT READS IS OF BULK AT MOST 1048576: true; the input reads as it did. -/
def fnExactNodeSumUptoRow : OpenClaim := { program := "ytdhkagabkhepgaa", sum := "202ce1db39cbac69012981d8a9e224d97b2fa28435fa39ca8c448482f0162305", func := "loop.example/g00333/laws.FnExactNodeSum", spec := "fnExactNodeSum", apart := false, narrowed := true }
def FnExactNodeSumUptoSaid : Prop := fnExactNodeSumUptoRow.holds Try.pinned (OpenSpec.upto fnExactNodeSumSpec)

/-- 'laws.FnExactSplitAt', WHERE WHAT IT READS IS OF BULK AT MOST 1048576: true; the input reads as it did. -/
def fnExactSplitAtUptoRow : OpenClaim := { program := "ytdhkagabkhepgaa", sum := "202ce1db39cbac69012981d8a9e224d97b2fa28435fa39ca8c448482f0162305", func := "loop.example/g00333/laws.FnExactSplitAt", spec := "fnExactSplitAt", apart := false, narrowed := true }
def FnExactSplitAtUptoSaid : Prop := fnExactSplitAtUptoRow.holds Try.pinned (OpenSpec.upto fnExactSplitAtSpec)

/-- 'laws.FnExactRootOf', WHERE WHAT IT READS IS OF BULK AT MOST 1048576: true; the input reads as it did. -/
def fnExactRootOfUptoRow : OpenClaim := { program := "ytdhkagabkhepgaa", sum := "202ce1db39cbac69012981d8a9e224d97b2fa28435fa39ca8c448482f0162305", func := "loop.example/g00333/laws.FnExactRootOf", spec := "fnExactRootOf", unfollowed := true, recurses := true, apart := false, narrowed := true }
def FnExactRootOfUptoSaid : Prop := fnExactRootOfUptoRow.holds Try.pinned (OpenSpec.upto fnExactRootOfSpec)

/-- 'laws.FnExactCheckGrew', WHERE WHAT IT READS IS OF BULK AT MOST 1048576: true; the input reads as it did. -/
def fnExactCheckGrewUptoRow : OpenClaim := { program := "ytdhkagabkhepgaa", sum := "202ce1db39cbac69012981d8a9e224d97b2fa28435fa39ca8c448482f0162305", func := "loop.example/g00333/laws.FnExactCheckGrew", spec := "fnExactCheckGrew", unfollowed := true, recurses := true, apart := false, narrowed := true }
def FnExactCheckGrewUptoSaid : Prop := fnExactCheckGrewUptoRow.holds Try.pinned (OpenSpec.upto fnExactCheckGrewSpec)

/-- 'laws.FnExactCheckIn', WHERE WHAT IT READS IS OF BULK AT MOST 1048576: true; the input reads as it did. -/
def fnExactCheckInUptoRow : OpenClaim := { program := "ytdhkagabkhepgaa", sum := "202ce1db39cbac69012981d8a9e224d97b2fa28435fa39ca8c448482f0162305", func := "loop.example/g00333/laws.FnExactCheckIn", spec := "fnExactCheckIn", unfollowed := true, recurses := true, apart := false, narrowed := true }
def FnExactCheckInUptoSaid : Prop := fnExactCheckInUptoRow.holds Try.pinned (OpenSpec.upto fnExactCheckInSpec)

/-- 'laws.FnExactProveIn', WHERE WHAT IT READS IS OF BULK AT MOST 1048576: true; the input reads as it did. -/
def fnExactProveInUptoRow : OpenClaim := { program := "ytdhkagabkhepgaa", sum := "202ce1db39cbac69012981d8a9e224d97b2fa28435fa39ca8c448482f0162305", func := "loop.example/g00333/laws.FnExactProveIn", spec := "fnExactProveIn", unfollowed := true, recurses := true, apart := false, narrowed := true }
def FnExactProveInUptoSaid : Prop := fnExactProveInUptoRow.holds Try.pinned (OpenSpec.upto fnExactProveInSpec)

/-- 'laws.FnExactProveGrew', WHERE WHAT IT READS IS OF BULK AT MOST 1048576: true; the input reads as it did. -/
def fnExactProveGrewUptoRow : OpenClaim := { program := "ytdhkagabkhepgaa", sum := "202ce1db39cbac69012981d8a9e224d97b2fa28435fa39ca8c448482f0162305", func := "loop.example/g00333/laws.FnExactProveGrew", spec := "fnExactProveGrew", unfollowed := true, recurses := true, apart := false, narrowed := true }
def FnExactProveGrewUptoSaid : Prop := fnExactProveGrewUptoRow.holds Try.pinned (OpenSpec.upto fnExactProveGrewSpec)

/-- 'laws.FnIn', WHERE WHAT IT READS IS OF BULK AT MOST 1048576: true; the input reads as it did. -/
def fnInUptoRow : OpenClaim := { program := "ytdhkagabkhepgaa", sum := "202ce1db39cbac69012981d8a9e224d97b2fa28435fa39ca8c448482f0162305", func := "loop.example/g00333/laws.FnIn", spec := "fnIn", unfollowed := true, recurses := true, apart := false, narrowed := true }
def FnInUptoSaid : Prop := fnInUptoRow.holds Try.pinned (OpenSpec.upto fnInSpec)

/-- 'laws.FnGrew', WHERE WHAT IT READS IS OF BULK AT MOST 1048576: true; the input reads as it did. -/
def fnGrewUptoRow : OpenClaim := { program := "ytdhkagabkhepgaa", sum := "202ce1db39cbac69012981d8a9e224d97b2fa28435fa39ca8c448482f0162305", func := "loop.example/g00333/laws.FnGrew", spec := "fnGrew", unfollowed := true, recurses := true, apart := false, narrowed := true }
def FnGrewUptoSaid : Prop := fnGrewUptoRow.holds Try.pinned (OpenSpec.upto fnGrewSpec)

end Rows
end Go.Proofs.Ytdhkagabkhepgaa
