/-
  DERIVED. GIVEN WITH THE SEED: THE CARDS: each row of YteknmjebokimjaaDoorRows.lean that lists a variable, with what it lists TIED to the program's text (the seventh form; the later family's looks); each row that meets fmt, with fmt's text TOLD by the authors' own Lean function (tested against real Go, not proved from fmt's source: count such statements apart). THE CARD IS WHAT COUNTS. Prove the row's statement (the work); the ties are given (YteknmjebokimjaaDoorTie.lean); close each card by the builder's one call (the guide's Derived/Test/ToyasCard.lean, 'card_holds'). Laid BY PROGRAM, IN A SANDBOX (cutbox-door.mjs). By AI agents, Wed Nov 11 2026. No macro, syntax, notation, axiom, sorry.
-/
import Derived.Test.YteknmjebokimjaaDoorRows
import GoSem.ClaimSeven
namespace Go.Proofs.YteknmjebokimjaaDoor
namespace Rows

/-- THE TIED CARD OF 'laws.FnExactBuildTrie'. -/
def fnExactBuildTrieCard : Claim7 := { stood := { row := fnExactBuildTrieRow, standIns := [], harness := (true, "dc9e88614048bc0b194f5d2f37eb349b6bab31e98bcfafdc9b91f701337439ab"), looks := false }, kinds := [], alts := [], laidByText := true, laidKinds := [.data, .pinned], laidTests := true, laidLooks := .later }
def FnExactBuildTrieCardSaid : Prop := Claim7.holds Tryd.pinned (.plain (OpenSpec.ofChange fnExactBuildTrieSpec)) fnExactBuildTrieCard

/-- THE TIED CARD OF 'laws.FnExactLookUp'. -/
def fnExactLookUpCard : Claim7 := { stood := { row := fnExactLookUpRow, standIns := [], harness := (true, "dc9e88614048bc0b194f5d2f37eb349b6bab31e98bcfafdc9b91f701337439ab"), looks := false }, kinds := [], alts := [], laidByText := true, laidKinds := [.data, .pinned], laidTests := true, laidLooks := .later }
def FnExactLookUpCardSaid : Prop := Claim7.holds Tryd.pinned (.plain (OpenSpec.ofChange fnExactLookUpSpec)) fnExactLookUpCard

/-- THE TIED CARD OF 'laws.FnExactGoodPattern'. -/
def fnExactGoodPatternCard : Claim7 := { stood := { row := fnExactGoodPatternRow, standIns := [], harness := (true, "dc9e88614048bc0b194f5d2f37eb349b6bab31e98bcfafdc9b91f701337439ab"), looks := false }, kinds := [], alts := [], laidByText := true, laidKinds := [.data, .pinned], laidTests := true, laidLooks := .later }
def FnExactGoodPatternCardSaid : Prop := Claim7.holds Tryd.pinned (.plain (OpenSpec.ofChange fnExactGoodPatternSpec)) fnExactGoodPatternCard

/-- THE TIED CARD OF 'laws.FnExactGoodTopic'. -/
def fnExactGoodTopicCard : Claim7 := { stood := { row := fnExactGoodTopicRow, standIns := [], harness := (true, "dc9e88614048bc0b194f5d2f37eb349b6bab31e98bcfafdc9b91f701337439ab"), looks := false }, kinds := [], alts := [], laidByText := true, laidKinds := [.data, .pinned], laidTests := true, laidLooks := .later }
def FnExactGoodTopicCardSaid : Prop := Claim7.holds Tryd.pinned (.plain (OpenSpec.ofChange fnExactGoodTopicSpec)) fnExactGoodTopicCard

/-- THE TIED CARD OF 'laws.FnExactPatternCovers'. -/
def fnExactPatternCoversCard : Claim7 := { stood := { row := fnExactPatternCoversRow, standIns := [], harness := (true, "dc9e88614048bc0b194f5d2f37eb349b6bab31e98bcfafdc9b91f701337439ab"), looks := false }, kinds := [], alts := [], laidByText := true, laidKinds := [.data, .pinned], laidTests := true, laidLooks := .later }
def FnExactPatternCoversCardSaid : Prop := Claim7.holds Tryd.pinned (.plain (OpenSpec.ofChange fnExactPatternCoversSpec)) fnExactPatternCoversCard

/-- THE TIED CARD OF 'laws.FnExactPatternsMeet'. -/
def fnExactPatternsMeetCard : Claim7 := { stood := { row := fnExactPatternsMeetRow, standIns := [], harness := (true, "dc9e88614048bc0b194f5d2f37eb349b6bab31e98bcfafdc9b91f701337439ab"), looks := false }, kinds := [], alts := [], laidByText := true, laidKinds := [.data, .pinned], laidTests := true, laidLooks := .later }
def FnExactPatternsMeetCardSaid : Prop := Claim7.holds Tryd.pinned (.plain (OpenSpec.ofChange fnExactPatternsMeetSpec)) fnExactPatternsMeetCard

/-- THE TIED CARD OF 'laws.FnExactTopicFits'. -/
def fnExactTopicFitsCard : Claim7 := { stood := { row := fnExactTopicFitsRow, standIns := [], harness := (true, "dc9e88614048bc0b194f5d2f37eb349b6bab31e98bcfafdc9b91f701337439ab"), looks := false }, kinds := [], alts := [], laidByText := true, laidKinds := [.data, .pinned], laidTests := true, laidLooks := .later }
def FnExactTopicFitsCardSaid : Prop := Claim7.holds Tryd.pinned (.plain (OpenSpec.ofChange fnExactTopicFitsSpec)) fnExactTopicFitsCard

/-- THE TIED CARD OF 'laws.FnExactWhoGets'. -/
def fnExactWhoGetsCard : Claim7 := { stood := { row := fnExactWhoGetsRow, standIns := [], harness := (true, "dc9e88614048bc0b194f5d2f37eb349b6bab31e98bcfafdc9b91f701337439ab"), looks := false }, kinds := [], alts := [], laidByText := true, laidKinds := [.data, .pinned], laidTests := true, laidLooks := .later }
def FnExactWhoGetsCardSaid : Prop := Claim7.holds Tryd.pinned (.plain (OpenSpec.ofChange fnExactWhoGetsSpec)) fnExactWhoGetsCard

/-- THE SECOND FORM's CARD OF 'laws.FnExactBuildTrie'. -/
def fnExactBuildTrieUptoCard : Claim7 := { stood := { row := fnExactBuildTrieUptoRow, standIns := [], harness := (true, "dc9e88614048bc0b194f5d2f37eb349b6bab31e98bcfafdc9b91f701337439ab"), looks := false }, kinds := [], alts := [], laidByText := true, laidKinds := [.data, .pinned], laidTests := true, laidLooks := .later }
def FnExactBuildTrieUptoCardSaid : Prop := Claim7.holds Tryd.pinned (.plain (OpenSpec.upto fnExactBuildTrieSpec)) fnExactBuildTrieUptoCard

/-- THE SECOND FORM's CARD OF 'laws.FnExactLookUp'. -/
def fnExactLookUpUptoCard : Claim7 := { stood := { row := fnExactLookUpUptoRow, standIns := [], harness := (true, "dc9e88614048bc0b194f5d2f37eb349b6bab31e98bcfafdc9b91f701337439ab"), looks := false }, kinds := [], alts := [], laidByText := true, laidKinds := [.data, .pinned], laidTests := true, laidLooks := .later }
def FnExactLookUpUptoCardSaid : Prop := Claim7.holds Tryd.pinned (.plain (OpenSpec.upto fnExactLookUpSpec)) fnExactLookUpUptoCard

/-- THE SECOND FORM's CARD OF 'laws.FnExactGoodPattern'. -/
def fnExactGoodPatternUptoCard : Claim7 := { stood := { row := fnExactGoodPatternUptoRow, standIns := [], harness := (true, "dc9e88614048bc0b194f5d2f37eb349b6bab31e98bcfafdc9b91f701337439ab"), looks := false }, kinds := [], alts := [], laidByText := true, laidKinds := [.data, .pinned], laidTests := true, laidLooks := .later }
def FnExactGoodPatternUptoCardSaid : Prop := Claim7.holds Tryd.pinned (.plain (OpenSpec.upto fnExactGoodPatternSpec)) fnExactGoodPatternUptoCard

/-- THE SECOND FORM's CARD OF 'laws.FnExactGoodTopic'. -/
def fnExactGoodTopicUptoCard : Claim7 := { stood := { row := fnExactGoodTopicUptoRow, standIns := [], harness := (true, "dc9e88614048bc0b194f5d2f37eb349b6bab31e98bcfafdc9b91f701337439ab"), looks := false }, kinds := [], alts := [], laidByText := true, laidKinds := [.data, .pinned], laidTests := true, laidLooks := .later }
def FnExactGoodTopicUptoCardSaid : Prop := Claim7.holds Tryd.pinned (.plain (OpenSpec.upto fnExactGoodTopicSpec)) fnExactGoodTopicUptoCard

/-- THE SECOND FORM's CARD OF 'laws.FnExactPatternCovers'. -/
def fnExactPatternCoversUptoCard : Claim7 := { stood := { row := fnExactPatternCoversUptoRow, standIns := [], harness := (true, "dc9e88614048bc0b194f5d2f37eb349b6bab31e98bcfafdc9b91f701337439ab"), looks := false }, kinds := [], alts := [], laidByText := true, laidKinds := [.data, .pinned], laidTests := true, laidLooks := .later }
def FnExactPatternCoversUptoCardSaid : Prop := Claim7.holds Tryd.pinned (.plain (OpenSpec.upto fnExactPatternCoversSpec)) fnExactPatternCoversUptoCard

/-- THE SECOND FORM's CARD OF 'laws.FnExactPatternsMeet'. -/
def fnExactPatternsMeetUptoCard : Claim7 := { stood := { row := fnExactPatternsMeetUptoRow, standIns := [], harness := (true, "dc9e88614048bc0b194f5d2f37eb349b6bab31e98bcfafdc9b91f701337439ab"), looks := false }, kinds := [], alts := [], laidByText := true, laidKinds := [.data, .pinned], laidTests := true, laidLooks := .later }
def FnExactPatternsMeetUptoCardSaid : Prop := Claim7.holds Tryd.pinned (.plain (OpenSpec.upto fnExactPatternsMeetSpec)) fnExactPatternsMeetUptoCard

/-- THE SECOND FORM's CARD OF 'laws.FnExactTopicFits'. -/
def fnExactTopicFitsUptoCard : Claim7 := { stood := { row := fnExactTopicFitsUptoRow, standIns := [], harness := (true, "dc9e88614048bc0b194f5d2f37eb349b6bab31e98bcfafdc9b91f701337439ab"), looks := false }, kinds := [], alts := [], laidByText := true, laidKinds := [.data, .pinned], laidTests := true, laidLooks := .later }
def FnExactTopicFitsUptoCardSaid : Prop := Claim7.holds Tryd.pinned (.plain (OpenSpec.upto fnExactTopicFitsSpec)) fnExactTopicFitsUptoCard

/-- THE SECOND FORM's CARD OF 'laws.FnExactWhoGets'. -/
def fnExactWhoGetsUptoCard : Claim7 := { stood := { row := fnExactWhoGetsUptoRow, standIns := [], harness := (true, "dc9e88614048bc0b194f5d2f37eb349b6bab31e98bcfafdc9b91f701337439ab"), looks := false }, kinds := [], alts := [], laidByText := true, laidKinds := [.data, .pinned], laidTests := true, laidLooks := .later }
def FnExactWhoGetsUptoCardSaid : Prop := Claim7.holds Tryd.pinned (.plain (OpenSpec.upto fnExactWhoGetsSpec)) fnExactWhoGetsUptoCard
end Rows
end Go.Proofs.YteknmjebokimjaaDoor
