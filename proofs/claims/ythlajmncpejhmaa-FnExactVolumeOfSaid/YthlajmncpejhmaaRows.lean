/-
  No cell of these rows narrows 'for every input' (looked for: loops, veiled, ifaces, maps, wideKeys, modest, calm, conditions, laid).
  DERIVED. THE GIVEN ROWS OF THIS SEAT. 6 by the template 'for every input the law returns true; each argument reads behind the call as it read before'; 0 by the template 'total and deterministic' (their statements: YthlajmncpejhmaaTotals.lean).
  GIVEN WITH THE SEED: the statements are not yours to turn. If you find one false, say at which input.
  Laid BY PROGRAM, IN A SANDBOX (cutbox-rows.mjs): the forced cells as the released guide's own fill.sh prints them over the translation e0ce902cebc868f0… (all of the seat's roots in one cut). By AI agents, Wed Nov 11 2026. No macro, syntax, notation, axiom, sorry.
-/
import Derived.Test.YthlajmncpejhmaaChecked
import GoSem.Claim
import GoSem.ClaimJoined
import GoSem.ClaimMapViews
import Derived.JoinedTies
import Derived.KernelRfl
namespace Go.Proofs.Ythlajmncpejhmaa
/- THE CELL 'sum', in the pinned program and in every row, IS THE sha256 OF THE DUMP (.gsa) THAT YthlajmncpejhmaaProg.lean LOADS. Nothing in Lean hashes anything: it is a label: what it is worth is what the hold of that sum in a sandbox is worth. -/
noncomputable def Try.pinned : Pinned := { name := "ythlajmncpejhmaa", sum := "e0ce902cebc868f0d7baa916563f69e158ab6cfc7cef51f6515590e5f98c4e80", checked := Try.checked }
namespace Rows
def none {H : Type} : Left H := { results := [], args := [] }

/-- 'laws.FnExactHullOf': WHATEVER THE INPUT: true; the input reads as it did. -/
def fnExactHullOfSpec : ChangeSpec := { name := "fnExactHullOf", fn := fun _ => fun
  | [d1, d2] => { results := [.lit (.bool true)], args := [d1, d2] }
  | _ => none }
def fnExactHullOfRow : OpenClaim := { program := "ythlajmncpejhmaa", sum := "e0ce902cebc868f0d7baa916563f69e158ab6cfc7cef51f6515590e5f98c4e80", func := "loop.example/g00333/laws.FnExactHullOf", spec := "fnExactHullOf", unfollowed := true, recurses := true, apart := false }
def FnExactHullOfSaid : Prop := fnExactHullOfRow.holds Try.pinned (OpenSpec.ofChange fnExactHullOfSpec)

/-- ITS FALSE NEIGHBOUR: 'it returns false'. Refute it at one input. -/
def fnExactHullOfWrong : ChangeSpec := { name := "fnExactHullOf", fn := fun _ => fun
  | [d1, d2] => { results := [.lit (.bool false)], args := [d1, d2] }
  | _ => none }
def FnExactHullOfWrongFalsely : Prop := fnExactHullOfRow.holds Try.pinned (OpenSpec.ofChange fnExactHullOfWrong)

/-- 'laws.FnExactMeetBoxes': WHATEVER THE INPUT: true; the input reads as it did. -/
def fnExactMeetBoxesSpec : ChangeSpec := { name := "fnExactMeetBoxes", fn := fun _ => fun
  | [d1, d2] => { results := [.lit (.bool true)], args := [d1, d2] }
  | _ => none }
def fnExactMeetBoxesRow : OpenClaim := { program := "ythlajmncpejhmaa", sum := "e0ce902cebc868f0d7baa916563f69e158ab6cfc7cef51f6515590e5f98c4e80", func := "loop.example/g00333/laws.FnExactMeetBoxes", spec := "fnExactMeetBoxes", unfollowed := true, recurses := true, apart := false }
def FnExactMeetBoxesSaid : Prop := fnExactMeetBoxesRow.holds Try.pinned (OpenSpec.ofChange fnExactMeetBoxesSpec)

/-- ITS FALSE NEIGHBOUR: 'it returns false'. Refute it at one input. -/
def fnExactMeetBoxesWrong : ChangeSpec := { name := "fnExactMeetBoxes", fn := fun _ => fun
  | [d1, d2] => { results := [.lit (.bool false)], args := [d1, d2] }
  | _ => none }
def FnExactMeetBoxesWrongFalsely : Prop := fnExactMeetBoxesRow.holds Try.pinned (OpenSpec.ofChange fnExactMeetBoxesWrong)

/-- 'laws.FnExactUnionHas': WHATEVER THE INPUT: true; the input reads as it did. -/
def fnExactUnionHasSpec : ChangeSpec := { name := "fnExactUnionHas", fn := fun _ => fun
  | [d1, d2] => { results := [.lit (.bool true)], args := [d1, d2] }
  | _ => none }
def fnExactUnionHasRow : OpenClaim := { program := "ythlajmncpejhmaa", sum := "e0ce902cebc868f0d7baa916563f69e158ab6cfc7cef51f6515590e5f98c4e80", func := "loop.example/g00333/laws.FnExactUnionHas", spec := "fnExactUnionHas", unfollowed := true, recurses := true, apart := false }
def FnExactUnionHasSaid : Prop := fnExactUnionHasRow.holds Try.pinned (OpenSpec.ofChange fnExactUnionHasSpec)

/-- ITS FALSE NEIGHBOUR: 'it returns false'. Refute it at one input. -/
def fnExactUnionHasWrong : ChangeSpec := { name := "fnExactUnionHas", fn := fun _ => fun
  | [d1, d2] => { results := [.lit (.bool false)], args := [d1, d2] }
  | _ => none }
def FnExactUnionHasWrongFalsely : Prop := fnExactUnionHasRow.holds Try.pinned (OpenSpec.ofChange fnExactUnionHasWrong)

/-- 'laws.FnExactLeastCover': WHATEVER THE INPUT: true; the input reads as it did. -/
def fnExactLeastCoverSpec : ChangeSpec := { name := "fnExactLeastCover", fn := fun _ => fun
  | [d] => { results := [.lit (.bool true)], args := [d] }
  | _ => none }
def fnExactLeastCoverRow : OpenClaim := { program := "ythlajmncpejhmaa", sum := "e0ce902cebc868f0d7baa916563f69e158ab6cfc7cef51f6515590e5f98c4e80", func := "loop.example/g00333/laws.FnExactLeastCover", spec := "fnExactLeastCover", unfollowed := true, recurses := true, apart := false }
def FnExactLeastCoverSaid : Prop := fnExactLeastCoverRow.holds Try.pinned (OpenSpec.ofChange fnExactLeastCoverSpec)

/-- ITS FALSE NEIGHBOUR: 'it returns false'. Refute it at one input. -/
def fnExactLeastCoverWrong : ChangeSpec := { name := "fnExactLeastCover", fn := fun _ => fun
  | [d] => { results := [.lit (.bool false)], args := [d] }
  | _ => none }
def FnExactLeastCoverWrongFalsely : Prop := fnExactLeastCoverRow.holds Try.pinned (OpenSpec.ofChange fnExactLeastCoverWrong)

/-- 'laws.FnExactVolumeOf': WHATEVER THE INPUT: true; the input reads as it did. -/
def fnExactVolumeOfSpec : ChangeSpec := { name := "fnExactVolumeOf", fn := fun _ => fun
  | [d] => { results := [.lit (.bool true)], args := [d] }
  | _ => none }
def fnExactVolumeOfRow : OpenClaim := { program := "ythlajmncpejhmaa", sum := "e0ce902cebc868f0d7baa916563f69e158ab6cfc7cef51f6515590e5f98c4e80", func := "loop.example/g00333/laws.FnExactVolumeOf", spec := "fnExactVolumeOf", unfollowed := true, recurses := true, apart := false }
def FnExactVolumeOfSaid : Prop := fnExactVolumeOfRow.holds Try.pinned (OpenSpec.ofChange fnExactVolumeOfSpec)

/-- ITS FALSE NEIGHBOUR: 'it returns false'. Refute it at one input. -/
def fnExactVolumeOfWrong : ChangeSpec := { name := "fnExactVolumeOf", fn := fun _ => fun
  | [d] => { results := [.lit (.bool false)], args := [d] }
  | _ => none }
def FnExactVolumeOfWrongFalsely : Prop := fnExactVolumeOfRow.holds Try.pinned (OpenSpec.ofChange fnExactVolumeOfWrong)

/-- 'laws.FnBoxes': WHATEVER THE INPUT: true; the input reads as it did. -/
def fnBoxesSpec : ChangeSpec := { name := "fnBoxes", fn := fun _ => fun
  | [d1, d2] => { results := [.lit (.bool true)], args := [d1, d2] }
  | _ => none }
def fnBoxesRow : OpenClaim := { program := "ythlajmncpejhmaa", sum := "e0ce902cebc868f0d7baa916563f69e158ab6cfc7cef51f6515590e5f98c4e80", func := "loop.example/g00333/laws.FnBoxes", spec := "fnBoxes", unfollowed := true, recurses := true, apart := false }
def FnBoxesSaid : Prop := fnBoxesRow.holds Try.pinned (OpenSpec.ofChange fnBoxesSpec)

/-- ITS FALSE NEIGHBOUR: 'it returns false'. Refute it at one input. -/
def fnBoxesWrong : ChangeSpec := { name := "fnBoxes", fn := fun _ => fun
  | [d1, d2] => { results := [.lit (.bool false)], args := [d1, d2] }
  | _ => none }
def FnBoxesWrongFalsely : Prop := fnBoxesRow.holds Try.pinned (OpenSpec.ofChange fnBoxesWrong)

/- THE SECOND FORM. 'bulk': how many values and letters a reading holds, each counted each time it is reached (what is shared counts as often as it is met; a slice's spare places count too). A statement '..UptoSaid' is the law's where the arguments, and the package variables that the reading takes, are together of bulk at most 1048576: NARROWER than '..Said'. Prove '..Said' where nothing that the law and all that it calls make is longer than what came in: it says more and counts as full. Else prove '..UptoSaid'. A law counts once. -/
mutual
def uptoBulk {H : Type} : DataW H → Nat
  | .lit (.string bytes) => bytes.length + 1
  | .lit _ => 1
  | .nil => 1
  | .ptr d => uptoBulk d + 1
  | .slice elems spare => uptoBulkAll elems + uptoBulkAll spare + 1
  | .agg parts => uptoBulkAll parts + 1
  | .iface _ d => uptoBulk d + 1
  | .map entries => uptoBulkEntries entries + 1
  | .held _ => 1
def uptoBulkAll {H : Type} : List (DataW H) → Nat
  | [] => 0
  | d :: r => uptoBulk d + uptoBulkAll r
def uptoBulkEntries {H : Type} : List (Lit × DataW H) → Nat
  | [] => 0
  | x :: r => uptoBulkEntry x + uptoBulkEntries r
def uptoBulkEntry {H : Type} : Lit × DataW H → Nat
  | (.string bytes, d) => bytes.length + uptoBulk d + 1
  | (_, d) => uptoBulk d + 1
 end
def uptoSmall : (H : Type) → List (DataW H) → Bool := fun _ ds => decide (uptoBulkAll ds ≤ 1048576)
def OpenSpec.upto (s : _root_.Go.ChangeSpec) : _root_.Go.OpenSpec := { _root_.Go.OpenSpec.ofChange s with cond := some uptoSmall }

/-- 'laws.FnExactHullOf', WHERE WHAT IT READS IS OF BULK AT MOST 1048576: true; the input reads as it did. -/
def fnExactHullOfUptoRow : OpenClaim := { program := "ythlajmncpejhmaa", sum := "e0ce902cebc868f0d7baa916563f69e158ab6cfc7cef51f6515590e5f98c4e80", func := "loop.example/g00333/laws.FnExactHullOf", spec := "fnExactHullOf", unfollowed := true, recurses := true, apart := false, narrowed := true }
def FnExactHullOfUptoSaid : Prop := fnExactHullOfUptoRow.holds Try.pinned (OpenSpec.upto fnExactHullOfSpec)

/-- 'laws.FnExactMeetBoxes', WHERE WHAT IT READS IS OF BULK AT MOST 1048576: true; the input reads as it did. -/
def fnExactMeetBoxesUptoRow : OpenClaim := { program := "ythlajmncpejhmaa", sum := "e0ce902cebc868f0d7baa916563f69e158ab6cfc7cef51f6515590e5f98c4e80", func := "loop.example/g00333/laws.FnExactMeetBoxes", spec := "fnExactMeetBoxes", unfollowed := true, recurses := true, apart := false, narrowed := true }
def FnExactMeetBoxesUptoSaid : Prop := fnExactMeetBoxesUptoRow.holds Try.pinned (OpenSpec.upto fnExactMeetBoxesSpec)

/-- 'laws.FnExactUnionHas', WHERE WHAT IT READS IS OF BULK AT MOST 1048576: true; the input reads as it did. -/
def fnExactUnionHasUptoRow : OpenClaim := { program := "ythlajmncpejhmaa", sum := "e0ce902cebc868f0d7baa916563f69e158ab6cfc7cef51f6515590e5f98c4e80", func := "loop.example/g00333/laws.FnExactUnionHas", spec := "fnExactUnionHas", unfollowed := true, recurses := true, apart := false, narrowed := true }
def FnExactUnionHasUptoSaid : Prop := fnExactUnionHasUptoRow.holds Try.pinned (OpenSpec.upto fnExactUnionHasSpec)

/-- 'laws.FnExactLeastCover', WHERE WHAT IT READS IS OF BULK AT MOST 1048576: true; the input reads as it did. -/
def fnExactLeastCoverUptoRow : OpenClaim := { program := "ythlajmncpejhmaa", sum := "e0ce902cebc868f0d7baa916563f69e158ab6cfc7cef51f6515590e5f98c4e80", func := "loop.example/g00333/laws.FnExactLeastCover", spec := "fnExactLeastCover", unfollowed := true, recurses := true, apart := false, narrowed := true }
def FnExactLeastCoverUptoSaid : Prop := fnExactLeastCoverUptoRow.holds Try.pinned (OpenSpec.upto fnExactLeastCoverSpec)

/-- 'laws.FnExactVolumeOf', WHERE WHAT IT READS IS OF BULK AT MOST 1048576: true; the input reads as it did. -/
def fnExactVolumeOfUptoRow : OpenClaim := { program := "ythlajmncpejhmaa", sum := "e0ce902cebc868f0d7baa916563f69e158ab6cfc7cef51f6515590e5f98c4e80", func := "loop.example/g00333/laws.FnExactVolumeOf", spec := "fnExactVolumeOf", unfollowed := true, recurses := true, apart := false, narrowed := true }
def FnExactVolumeOfUptoSaid : Prop := fnExactVolumeOfUptoRow.holds Try.pinned (OpenSpec.upto fnExactVolumeOfSpec)

/-- 'laws.FnBoxes', WHERE WHAT IT READS IS OF BULK AT MOST 1048576: true; the input reads as it did. -/
def fnBoxesUptoRow : OpenClaim := { program := "ythlajmncpejhmaa", sum := "e0ce902cebc868f0d7baa916563f69e158ab6cfc7cef51f6515590e5f98c4e80", func := "loop.example/g00333/laws.FnBoxes", spec := "fnBoxes", unfollowed := true, recurses := true, apart := false, narrowed := true }
def FnBoxesUptoSaid : Prop := fnBoxesUptoRow.holds Try.pinned (OpenSpec.upto fnBoxesSpec)

end Rows
end Go.Proofs.Ythlajmncpejhmaa
