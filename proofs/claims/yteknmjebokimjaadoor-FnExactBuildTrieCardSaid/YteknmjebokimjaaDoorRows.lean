/-
  NARROWER THAN 'FOR EVERY INPUT', by the rows' own cells (each row's printed sentence says how): FnExactBuildTrie: laid · FnExactLookUp: laid · FnExactGoodPattern: laid · FnExactGoodTopic: laid · FnExactPatternCovers: laid · FnExactPatternsMeet: laid · FnExactTopicFits: laid · FnExactWhoGets: laid.
  DERIVED. THE GIVEN ROWS OF THIS SEAT. 8 by the template 'for every input the law returns true; each argument reads behind the call as it read before'; 0 by the template 'total and deterministic' (their statements: YteknmjebokimjaaDoorTotals.lean).
  GIVEN WITH THE SEED: the statements are not yours to turn. If you find one false, say at which input.
  Laid BY PROGRAM, IN A SANDBOX (cutbox-rows.mjs): the forced cells as the released guide's own fill.sh prints them over the translation 046540ec6959f325… (all of the seat's roots in one cut). By AI agents, Wed Nov 11 2026. No macro, syntax, notation, axiom, sorry.
-/
import Derived.Test.YteknmjebokimjaaDoorChecked
import GoSem.PinnedTables
import GoSem.Claim
import GoSem.ClaimJoined
import GoSem.ClaimMapViews
import Derived.JoinedTies
import Derived.KernelRfl
namespace Go.Proofs.YteknmjebokimjaaDoor
/- THE CELL 'sum', in the pinned program and in every row, IS THE sha256 OF THE DUMP (.gsa) THAT YteknmjebokimjaaDoorProg.lean LOADS. Nothing in Lean hashes anything: it is a label: what it is worth is what the hold of that sum in a sandbox is worth. -/
noncomputable def Tryd.pinned : Pinned := { name := "yteknmjebokimjaadoor", sum := "046540ec6959f32526681f6de4b289f4157118725b932181e36416c7bff0c612", checked := Tryd.checked }
namespace Rows
def none {H : Type} : Left H := { results := [], args := [] }

/- WHAT THE LISTED PACKAGE-LEVEL VARIABLES READ AS WHEN THE CALL BEGINS. Each datum BY PROGRAM (the guide's laid-datum.mjs) off the statement by which the dump's own 'gosem.cut.vars' lays the variable. In a bare row this is a premise. The card (YteknmjebokimjaaDoorCards.lean) ties it to the program's text. -/
def laid_unicode_utf8_acceptRanges {H : Type} : DataW H := .agg [.agg [.lit (.int .u8 128), .lit (.int .u8 191)], .agg [.lit (.int .u8 160), .lit (.int .u8 191)], .agg [.lit (.int .u8 128), .lit (.int .u8 159)], .agg [.lit (.int .u8 144), .lit (.int .u8 191)], .agg [.lit (.int .u8 128), .lit (.int .u8 143)], .agg [.lit (.int .u8 0), .lit (.int .u8 0)], .agg [.lit (.int .u8 0), .lit (.int .u8 0)], .agg [.lit (.int .u8 0), .lit (.int .u8 0)], .agg [.lit (.int .u8 0), .lit (.int .u8 0)], .agg [.lit (.int .u8 0), .lit (.int .u8 0)], .agg [.lit (.int .u8 0), .lit (.int .u8 0)], .agg [.lit (.int .u8 0), .lit (.int .u8 0)], .agg [.lit (.int .u8 0), .lit (.int .u8 0)], .agg [.lit (.int .u8 0), .lit (.int .u8 0)], .agg [.lit (.int .u8 0), .lit (.int .u8 0)], .agg [.lit (.int .u8 0), .lit (.int .u8 0)]]
/-- One of Go's own tables, pinned by name: the form's constant. -/
def laid_unicode_utf8_first : DataW Unit := Go.Pinned.utf8First

/-- 'laws.FnExactBuildTrie': WHATEVER THE INPUT: true; the input reads as it did. -/
def fnExactBuildTrieSpec : ChangeSpec := { name := "fnExactBuildTrie", fn := fun _ => fun
  | [d] => { results := [.lit (.bool true)], args := [d] }
  | _ => none }
def fnExactBuildTrieRow : OpenClaim := { program := "yteknmjebokimjaadoor", sum := "046540ec6959f32526681f6de4b289f4157118725b932181e36416c7bff0c612", func := "loop.example/g00333/laws.FnExactBuildTrie", spec := "fnExactBuildTrie", inPlace := ["internal/bytealg.CountString", "internal/bytealg.IndexByteString", "internal/bytealg.IndexString", "slices.overlaps[int]"], unfollowed := true, recurses := true, named := ["unicode/utf8.first", "unicode/utf8.acceptRanges", "internal/bytealg.MaxLen"], apart := false, laid := [("unicode/utf8.acceptRanges", laid_unicode_utf8_acceptRanges), ("unicode/utf8.first", laid_unicode_utf8_first)] }
def FnExactBuildTrieSaid : Prop := fnExactBuildTrieRow.holds Tryd.pinned (OpenSpec.ofChange fnExactBuildTrieSpec)

/-- ITS FALSE NEIGHBOUR: 'it returns false'. Refute it at one input. -/
def fnExactBuildTrieWrong : ChangeSpec := { name := "fnExactBuildTrie", fn := fun _ => fun
  | [d] => { results := [.lit (.bool false)], args := [d] }
  | _ => none }
def FnExactBuildTrieWrongFalsely : Prop := fnExactBuildTrieRow.holds Tryd.pinned (OpenSpec.ofChange fnExactBuildTrieWrong)

/-- 'laws.FnExactLookUp': WHATEVER THE INPUT: true; the input reads as it did. -/
def fnExactLookUpSpec : ChangeSpec := { name := "fnExactLookUp", fn := fun _ => fun
  | [d1, d2] => { results := [.lit (.bool true)], args := [d1, d2] }
  | _ => none }
def fnExactLookUpRow : OpenClaim := { program := "yteknmjebokimjaadoor", sum := "046540ec6959f32526681f6de4b289f4157118725b932181e36416c7bff0c612", func := "loop.example/g00333/laws.FnExactLookUp", spec := "fnExactLookUp", inPlace := ["internal/bytealg.CountString", "internal/bytealg.IndexByteString", "internal/bytealg.IndexString", "slices.overlaps[int]"], unfollowed := true, recurses := true, named := ["unicode/utf8.first", "unicode/utf8.acceptRanges", "internal/bytealg.MaxLen"], apart := false, laid := [("unicode/utf8.acceptRanges", laid_unicode_utf8_acceptRanges), ("unicode/utf8.first", laid_unicode_utf8_first)] }
def FnExactLookUpSaid : Prop := fnExactLookUpRow.holds Tryd.pinned (OpenSpec.ofChange fnExactLookUpSpec)

/-- ITS FALSE NEIGHBOUR: 'it returns false'. Refute it at one input. -/
def fnExactLookUpWrong : ChangeSpec := { name := "fnExactLookUp", fn := fun _ => fun
  | [d1, d2] => { results := [.lit (.bool false)], args := [d1, d2] }
  | _ => none }
def FnExactLookUpWrongFalsely : Prop := fnExactLookUpRow.holds Tryd.pinned (OpenSpec.ofChange fnExactLookUpWrong)

/-- 'laws.FnExactGoodPattern': WHATEVER THE INPUT: true; the input reads as it did. -/
def fnExactGoodPatternSpec : ChangeSpec := { name := "fnExactGoodPattern", fn := fun _ => fun
  | [d] => { results := [.lit (.bool true)], args := [d] }
  | _ => none }
def fnExactGoodPatternRow : OpenClaim := { program := "yteknmjebokimjaadoor", sum := "046540ec6959f32526681f6de4b289f4157118725b932181e36416c7bff0c612", func := "loop.example/g00333/laws.FnExactGoodPattern", spec := "fnExactGoodPattern", inPlace := ["internal/bytealg.CountString", "internal/bytealg.IndexByteString", "internal/bytealg.IndexString"], unfollowed := true, recurses := true, named := ["unicode/utf8.first", "unicode/utf8.acceptRanges", "internal/bytealg.MaxLen"], apart := false, laid := [("unicode/utf8.acceptRanges", laid_unicode_utf8_acceptRanges), ("unicode/utf8.first", laid_unicode_utf8_first)] }
def FnExactGoodPatternSaid : Prop := fnExactGoodPatternRow.holds Tryd.pinned (OpenSpec.ofChange fnExactGoodPatternSpec)

/-- ITS FALSE NEIGHBOUR: 'it returns false'. Refute it at one input. -/
def fnExactGoodPatternWrong : ChangeSpec := { name := "fnExactGoodPattern", fn := fun _ => fun
  | [d] => { results := [.lit (.bool false)], args := [d] }
  | _ => none }
def FnExactGoodPatternWrongFalsely : Prop := fnExactGoodPatternRow.holds Tryd.pinned (OpenSpec.ofChange fnExactGoodPatternWrong)

/-- 'laws.FnExactGoodTopic': WHATEVER THE INPUT: true; the input reads as it did. -/
def fnExactGoodTopicSpec : ChangeSpec := { name := "fnExactGoodTopic", fn := fun _ => fun
  | [d] => { results := [.lit (.bool true)], args := [d] }
  | _ => none }
def fnExactGoodTopicRow : OpenClaim := { program := "yteknmjebokimjaadoor", sum := "046540ec6959f32526681f6de4b289f4157118725b932181e36416c7bff0c612", func := "loop.example/g00333/laws.FnExactGoodTopic", spec := "fnExactGoodTopic", inPlace := ["internal/bytealg.CountString", "internal/bytealg.IndexByteString", "internal/bytealg.IndexString"], unfollowed := true, recurses := true, named := ["unicode/utf8.first", "unicode/utf8.acceptRanges", "internal/bytealg.MaxLen"], apart := false, laid := [("unicode/utf8.acceptRanges", laid_unicode_utf8_acceptRanges), ("unicode/utf8.first", laid_unicode_utf8_first)] }
def FnExactGoodTopicSaid : Prop := fnExactGoodTopicRow.holds Tryd.pinned (OpenSpec.ofChange fnExactGoodTopicSpec)

/-- ITS FALSE NEIGHBOUR: 'it returns false'. Refute it at one input. -/
def fnExactGoodTopicWrong : ChangeSpec := { name := "fnExactGoodTopic", fn := fun _ => fun
  | [d] => { results := [.lit (.bool false)], args := [d] }
  | _ => none }
def FnExactGoodTopicWrongFalsely : Prop := fnExactGoodTopicRow.holds Tryd.pinned (OpenSpec.ofChange fnExactGoodTopicWrong)

/-- 'laws.FnExactPatternCovers': WHATEVER THE INPUT: true; the input reads as it did. -/
def fnExactPatternCoversSpec : ChangeSpec := { name := "fnExactPatternCovers", fn := fun _ => fun
  | [d1, d2] => { results := [.lit (.bool true)], args := [d1, d2] }
  | _ => none }
def fnExactPatternCoversRow : OpenClaim := { program := "yteknmjebokimjaadoor", sum := "046540ec6959f32526681f6de4b289f4157118725b932181e36416c7bff0c612", func := "loop.example/g00333/laws.FnExactPatternCovers", spec := "fnExactPatternCovers", inPlace := ["internal/bytealg.CountString", "internal/bytealg.IndexByteString", "internal/bytealg.IndexString"], unfollowed := true, recurses := true, named := ["unicode/utf8.first", "unicode/utf8.acceptRanges", "internal/bytealg.MaxLen"], apart := false, laid := [("unicode/utf8.acceptRanges", laid_unicode_utf8_acceptRanges), ("unicode/utf8.first", laid_unicode_utf8_first)] }
def FnExactPatternCoversSaid : Prop := fnExactPatternCoversRow.holds Tryd.pinned (OpenSpec.ofChange fnExactPatternCoversSpec)

/-- ITS FALSE NEIGHBOUR: 'it returns false'. Refute it at one input. -/
def fnExactPatternCoversWrong : ChangeSpec := { name := "fnExactPatternCovers", fn := fun _ => fun
  | [d1, d2] => { results := [.lit (.bool false)], args := [d1, d2] }
  | _ => none }
def FnExactPatternCoversWrongFalsely : Prop := fnExactPatternCoversRow.holds Tryd.pinned (OpenSpec.ofChange fnExactPatternCoversWrong)

/-- 'laws.FnExactPatternsMeet': WHATEVER THE INPUT: true; the input reads as it did. -/
def fnExactPatternsMeetSpec : ChangeSpec := { name := "fnExactPatternsMeet", fn := fun _ => fun
  | [d1, d2] => { results := [.lit (.bool true)], args := [d1, d2] }
  | _ => none }
def fnExactPatternsMeetRow : OpenClaim := { program := "yteknmjebokimjaadoor", sum := "046540ec6959f32526681f6de4b289f4157118725b932181e36416c7bff0c612", func := "loop.example/g00333/laws.FnExactPatternsMeet", spec := "fnExactPatternsMeet", inPlace := ["internal/bytealg.CountString", "internal/bytealg.IndexByteString", "internal/bytealg.IndexString"], unfollowed := true, recurses := true, named := ["unicode/utf8.first", "unicode/utf8.acceptRanges", "internal/bytealg.MaxLen"], apart := false, laid := [("unicode/utf8.acceptRanges", laid_unicode_utf8_acceptRanges), ("unicode/utf8.first", laid_unicode_utf8_first)] }
def FnExactPatternsMeetSaid : Prop := fnExactPatternsMeetRow.holds Tryd.pinned (OpenSpec.ofChange fnExactPatternsMeetSpec)

/-- ITS FALSE NEIGHBOUR: 'it returns false'. Refute it at one input. -/
def fnExactPatternsMeetWrong : ChangeSpec := { name := "fnExactPatternsMeet", fn := fun _ => fun
  | [d1, d2] => { results := [.lit (.bool false)], args := [d1, d2] }
  | _ => none }
def FnExactPatternsMeetWrongFalsely : Prop := fnExactPatternsMeetRow.holds Tryd.pinned (OpenSpec.ofChange fnExactPatternsMeetWrong)

/-- 'laws.FnExactTopicFits': WHATEVER THE INPUT: true; the input reads as it did. -/
def fnExactTopicFitsSpec : ChangeSpec := { name := "fnExactTopicFits", fn := fun _ => fun
  | [d1, d2] => { results := [.lit (.bool true)], args := [d1, d2] }
  | _ => none }
def fnExactTopicFitsRow : OpenClaim := { program := "yteknmjebokimjaadoor", sum := "046540ec6959f32526681f6de4b289f4157118725b932181e36416c7bff0c612", func := "loop.example/g00333/laws.FnExactTopicFits", spec := "fnExactTopicFits", inPlace := ["internal/bytealg.CountString", "internal/bytealg.IndexByteString", "internal/bytealg.IndexString"], unfollowed := true, recurses := true, named := ["unicode/utf8.first", "unicode/utf8.acceptRanges", "internal/bytealg.MaxLen"], apart := false, laid := [("unicode/utf8.acceptRanges", laid_unicode_utf8_acceptRanges), ("unicode/utf8.first", laid_unicode_utf8_first)] }
def FnExactTopicFitsSaid : Prop := fnExactTopicFitsRow.holds Tryd.pinned (OpenSpec.ofChange fnExactTopicFitsSpec)

/-- ITS FALSE NEIGHBOUR: 'it returns false'. Refute it at one input. -/
def fnExactTopicFitsWrong : ChangeSpec := { name := "fnExactTopicFits", fn := fun _ => fun
  | [d1, d2] => { results := [.lit (.bool false)], args := [d1, d2] }
  | _ => none }
def FnExactTopicFitsWrongFalsely : Prop := fnExactTopicFitsRow.holds Tryd.pinned (OpenSpec.ofChange fnExactTopicFitsWrong)

/-- 'laws.FnExactWhoGets': WHATEVER THE INPUT: true; the input reads as it did. -/
def fnExactWhoGetsSpec : ChangeSpec := { name := "fnExactWhoGets", fn := fun _ => fun
  | [d1, d2] => { results := [.lit (.bool true)], args := [d1, d2] }
  | _ => none }
def fnExactWhoGetsRow : OpenClaim := { program := "yteknmjebokimjaadoor", sum := "046540ec6959f32526681f6de4b289f4157118725b932181e36416c7bff0c612", func := "loop.example/g00333/laws.FnExactWhoGets", spec := "fnExactWhoGets", inPlace := ["internal/bytealg.CountString", "internal/bytealg.IndexByteString", "internal/bytealg.IndexString", "slices.overlaps[int]"], unfollowed := true, recurses := true, named := ["unicode/utf8.first", "unicode/utf8.acceptRanges", "internal/bytealg.MaxLen"], apart := false, laid := [("unicode/utf8.acceptRanges", laid_unicode_utf8_acceptRanges), ("unicode/utf8.first", laid_unicode_utf8_first)] }
def FnExactWhoGetsSaid : Prop := fnExactWhoGetsRow.holds Tryd.pinned (OpenSpec.ofChange fnExactWhoGetsSpec)

/-- ITS FALSE NEIGHBOUR: 'it returns false'. Refute it at one input. -/
def fnExactWhoGetsWrong : ChangeSpec := { name := "fnExactWhoGets", fn := fun _ => fun
  | [d1, d2] => { results := [.lit (.bool false)], args := [d1, d2] }
  | _ => none }
def FnExactWhoGetsWrongFalsely : Prop := fnExactWhoGetsRow.holds Tryd.pinned (OpenSpec.ofChange fnExactWhoGetsWrong)

/- THE SECOND FORM. 'bulk': how many values and letters a reading holds, each counted each time it is reached (what is shared counts as often as it is met; a slice's spare places count too). A statement '..UptoSaid' is the law's where the arguments, and the package variables that the reading takes, are together of bulk at most 1048576: NARROWER than '..Said'. Prove '..Said' where nothing that the law and all that it calls make is longer than what came in: it says more and counts as full. Else prove '..UptoSaid'. A law counts once. -/
mutual
def uptoBulk {H : Type} : DataW H → Nat
  | .lit (.string bytes) => bytes.length + 1
  | .lit _ => 1
  | .nil => 1
  | .ptr d => uptoBulk d + 1
  | .slice elems spare => uptoBulkAll elems + uptoBulkAll spare + 1
  | .agg parts => uptoBulkAll parts + 1
  | .iface _ d => uptoBulk d + 1
  | .map entries => uptoBulkEntries entries + 1
  | .held _ => 1
def uptoBulkAll {H : Type} : List (DataW H) → Nat
  | [] => 0
  | d :: r => uptoBulk d + uptoBulkAll r
def uptoBulkEntries {H : Type} : List (Lit × DataW H) → Nat
  | [] => 0
  | x :: r => uptoBulkEntry x + uptoBulkEntries r
def uptoBulkEntry {H : Type} : Lit × DataW H → Nat
  | (.string bytes, d) => bytes.length + uptoBulk d + 1
  | (_, d) => uptoBulk d + 1
 end
def uptoSmall : (H : Type) → List (DataW H) → Bool := fun _ ds => decide (uptoBulkAll ds ≤ 1048576)
def OpenSpec.upto (s : _root_.Go.ChangeSpec) : _root_.Go.OpenSpec := { _root_.Go.OpenSpec.ofChange s with cond := some uptoSmall }

/-- 'laws.FnExactBuildTrie', WHERE WHAT IT READS IS OF BULK AT MOST 1048576: true; the input reads as it did. -/
def fnExactBuildTrieUptoRow : OpenClaim := { program := "yteknmjebokimjaadoor", sum := "046540ec6959f32526681f6de4b289f4157118725b932181e36416c7bff0c612", func := "loop.example/g00333/laws.FnExactBuildTrie", spec := "fnExactBuildTrie", inPlace := ["internal/bytealg.CountString", "internal/bytealg.IndexByteString", "internal/bytealg.IndexString", "slices.overlaps[int]"], unfollowed := true, recurses := true, named := ["unicode/utf8.first", "unicode/utf8.acceptRanges", "internal/bytealg.MaxLen"], apart := false, laid := [("unicode/utf8.acceptRanges", laid_unicode_utf8_acceptRanges), ("unicode/utf8.first", laid_unicode_utf8_first)], narrowed := true }
def FnExactBuildTrieUptoSaid : Prop := fnExactBuildTrieUptoRow.holds Tryd.pinned (OpenSpec.upto fnExactBuildTrieSpec)

/-- 'laws.FnExactLookUp', WHERE WHAT IT READS IS OF BULK AT MOST 1048576: true; the input reads as it did. -/
def fnExactLookUpUptoRow : OpenClaim := { program := "yteknmjebokimjaadoor", sum := "046540ec6959f32526681f6de4b289f4157118725b932181e36416c7bff0c612", func := "loop.example/g00333/laws.FnExactLookUp", spec := "fnExactLookUp", inPlace := ["internal/bytealg.CountString", "internal/bytealg.IndexByteString", "internal/bytealg.IndexString", "slices.overlaps[int]"], unfollowed := true, recurses := true, named := ["unicode/utf8.first", "unicode/utf8.acceptRanges", "internal/bytealg.MaxLen"], apart := false, laid := [("unicode/utf8.acceptRanges", laid_unicode_utf8_acceptRanges), ("unicode/utf8.first", laid_unicode_utf8_first)], narrowed := true }
def FnExactLookUpUptoSaid : Prop := fnExactLookUpUptoRow.holds Tryd.pinned (OpenSpec.upto fnExactLookUpSpec)

/-- 'laws.FnExactGoodPattern', WHERE WHAT IT READS IS OF BULK AT MOST 1048576: true; the input reads as it did. -/
def fnExactGoodPatternUptoRow : OpenClaim := { program := "yteknmjebokimjaadoor", sum := "046540ec6959f32526681f6de4b289f4157118725b932181e36416c7bff0c612", func := "loop.example/g00333/laws.FnExactGoodPattern", spec := "fnExactGoodPattern", inPlace := ["internal/bytealg.CountString", "internal/bytealg.IndexByteString", "internal/bytealg.IndexString"], unfollowed := true, recurses := true, named := ["unicode/utf8.first", "unicode/utf8.acceptRanges", "internal/bytealg.MaxLen"], apart := false, laid := [("unicode/utf8.acceptRanges", laid_unicode_utf8_acceptRanges), ("unicode/utf8.first", laid_unicode_utf8_first)], narrowed := true }
def FnExactGoodPatternUptoSaid : Prop := fnExactGoodPatternUptoRow.holds Tryd.pinned (OpenSpec.upto fnExactGoodPatternSpec)

/-- 'laws.FnExactGoodTopic', WHERE WHAT IT READS IS OF BULK AT MOST 1048576: true; the input reads as it did. -/
def fnExactGoodTopicUptoRow : OpenClaim := { program := "yteknmjebokimjaadoor", sum := "046540ec6959f32526681f6de4b289f4157118725b932181e36416c7bff0c612", func := "loop.example/g00333/laws.FnExactGoodTopic", spec := "fnExactGoodTopic", inPlace := ["internal/bytealg.CountString", "internal/bytealg.IndexByteString", "internal/bytealg.IndexString"], unfollowed := true, recurses := true, named := ["unicode/utf8.first", "unicode/utf8.acceptRanges", "internal/bytealg.MaxLen"], apart := false, laid := [("unicode/utf8.acceptRanges", laid_unicode_utf8_acceptRanges), ("unicode/utf8.first", laid_unicode_utf8_first)], narrowed := true }
def FnExactGoodTopicUptoSaid : Prop := fnExactGoodTopicUptoRow.holds Tryd.pinned (OpenSpec.upto fnExactGoodTopicSpec)

/-- 'laws.FnExactPatternCovers', WHERE WHAT IT READS IS OF BULK AT MOST 1048576: true; the input reads as it did. -/
def fnExactPatternCoversUptoRow : OpenClaim := { program := "yteknmjebokimjaadoor", sum := "046540ec6959f32526681f6de4b289f4157118725b932181e36416c7bff0c612", func := "loop.example/g00333/laws.FnExactPatternCovers", spec := "fnExactPatternCovers", inPlace := ["internal/bytealg.CountString", "internal/bytealg.IndexByteString", "internal/bytealg.IndexString"], unfollowed := true, recurses := true, named := ["unicode/utf8.first", "unicode/utf8.acceptRanges", "internal/bytealg.MaxLen"], apart := false, laid := [("unicode/utf8.acceptRanges", laid_unicode_utf8_acceptRanges), ("unicode/utf8.first", laid_unicode_utf8_first)], narrowed := true }
def FnExactPatternCoversUptoSaid : Prop := fnExactPatternCoversUptoRow.holds Tryd.pinned (OpenSpec.upto fnExactPatternCoversSpec)

/-- 'laws.FnExactPatternsMeet', WHERE WHAT IT READS IS OF BULK AT MOST 1048576: true; the input reads as it did. -/
def fnExactPatternsMeetUptoRow : OpenClaim := { program := "yteknmjebokimjaadoor", sum := "046540ec6959f32526681f6de4b289f4157118725b932181e36416c7bff0c612", func := "loop.example/g00333/laws.FnExactPatternsMeet", spec := "fnExactPatternsMeet", inPlace := ["internal/bytealg.CountString", "internal/bytealg.IndexByteString", "internal/bytealg.IndexString"], unfollowed := true, recurses := true, named := ["unicode/utf8.first", "unicode/utf8.acceptRanges", "internal/bytealg.MaxLen"], apart := false, laid := [("unicode/utf8.acceptRanges", laid_unicode_utf8_acceptRanges), ("unicode/utf8.first", laid_unicode_utf8_first)], narrowed := true }
def FnExactPatternsMeetUptoSaid : Prop := fnExactPatternsMeetUptoRow.holds Tryd.pinned (OpenSpec.upto fnExactPatternsMeetSpec)

/-- 'laws.FnExactTopicFits', WHERE WHAT IT READS IS OF BULK AT MOST 1048576: true; the input reads as it did. -/
def fnExactTopicFitsUptoRow : OpenClaim := { program := "yteknmjebokimjaadoor", sum := "046540ec6959f32526681f6de4b289f4157118725b932181e36416c7bff0c612", func := "loop.example/g00333/laws.FnExactTopicFits", spec := "fnExactTopicFits", inPlace := ["internal/bytealg.CountString", "internal/bytealg.IndexByteString", "internal/bytealg.IndexString"], unfollowed := true, recurses := true, named := ["unicode/utf8.first", "unicode/utf8.acceptRanges", "internal/bytealg.MaxLen"], apart := false, laid := [("unicode/utf8.acceptRanges", laid_unicode_utf8_acceptRanges), ("unicode/utf8.first", laid_unicode_utf8_first)], narrowed := true }
def FnExactTopicFitsUptoSaid : Prop := fnExactTopicFitsUptoRow.holds Tryd.pinned (OpenSpec.upto fnExactTopicFitsSpec)

/-- 'laws.FnExactWhoGets', WHERE WHAT IT READS IS OF BULK AT MOST 1048576: true; the input reads as it did. -/
def fnExactWhoGetsUptoRow : OpenClaim := { program := "yteknmjebokimjaadoor", sum := "046540ec6959f32526681f6de4b289f4157118725b932181e36416c7bff0c612", func := "loop.example/g00333/laws.FnExactWhoGets", spec := "fnExactWhoGets", inPlace := ["internal/bytealg.CountString", "internal/bytealg.IndexByteString", "internal/bytealg.IndexString", "slices.overlaps[int]"], unfollowed := true, recurses := true, named := ["unicode/utf8.first", "unicode/utf8.acceptRanges", "internal/bytealg.MaxLen"], apart := false, laid := [("unicode/utf8.acceptRanges", laid_unicode_utf8_acceptRanges), ("unicode/utf8.first", laid_unicode_utf8_first)], narrowed := true }
def FnExactWhoGetsUptoSaid : Prop := fnExactWhoGetsUptoRow.holds Tryd.pinned (OpenSpec.upto fnExactWhoGetsSpec)

end Rows
end Go.Proofs.YteknmjebokimjaaDoor
