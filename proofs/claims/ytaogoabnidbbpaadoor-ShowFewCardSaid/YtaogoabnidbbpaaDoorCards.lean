/-
  DERIVED. GIVEN WITH THE SEED: THE CARDS: each row of YtaogoabnidbbpaaDoorRows.lean that lists a variable, with what it lists TIED to the program's text (the seventh form; the later family's looks); each row that meets fmt, with fmt's text TOLD by the authors' own Lean function (tested against real Go, not proved from fmt's source: count such statements apart). THE CARD IS WHAT COUNTS. Prove the row's statement (the work); the ties are given (YtaogoabnidbbpaaDoorTie.lean); close each card by the builder's one call (the guide's Derived/Test/ToyasCard.lean, 'card_holds'). Laid BY PROGRAM, IN A SANDBOX (cutbox-door.mjs). By AI agents, Wed Nov 11 2026. No macro, syntax, notation, axiom, sorry.
-/
import Derived.Test.YtaogoabnidbbpaaDoorRows
import GoSem.ClaimSeven
namespace Go.Proofs.YtaogoabnidbbpaaDoor
namespace Rows

/-- THE TIED CARD OF 'rejoinderlaw04.LexisSpans'. -/
def lexisSpansCard : Claim7 := { stood := { row := lexisSpansRow, standIns := [], harness := (true, "1f854cd33aba80ae19e5c7147fbdaedbe1721b485b58866a5f592069681eca9e"), looks := true }, kinds := [], alts := [], laidByText := true, laidKinds := [.listed, .data], laidTests := true, laidLooks := .later }
def LexisSpansCardSaid : Prop := Claim7.holds Tryd.pinned (.plain (OpenSpec.ofChange lexisSpansSpec)) lexisSpansCard

/-- THE TIED CARD OF 'rejoinderlaw04.LexisWords'. -/
def lexisWordsCard : Claim7 := { stood := { row := lexisWordsRow, standIns := [], harness := (true, "1f854cd33aba80ae19e5c7147fbdaedbe1721b485b58866a5f592069681eca9e"), looks := true }, kinds := [], alts := [], laidByText := true, laidKinds := [.listed, .data], laidTests := true, laidLooks := .later }
def LexisWordsCardSaid : Prop := Claim7.holds Tryd.pinned (.plain (OpenSpec.ofChange lexisWordsSpec)) lexisWordsCard

/-- THE TIED CARD OF 'rejoinderlaw04.LexisKnown'. -/
def lexisKnownCard : Claim7 := { stood := { row := lexisKnownRow, standIns := [], harness := (true, "1f854cd33aba80ae19e5c7147fbdaedbe1721b485b58866a5f592069681eca9e"), looks := true }, kinds := [], alts := [], laidByText := true, laidKinds := [.listed, .data], laidTests := true, laidLooks := .later }
def LexisKnownCardSaid : Prop := Claim7.holds Tryd.pinned (.plain (OpenSpec.ofChange lexisKnownSpec)) lexisKnownCard

/-- THE TIED CARD OF 'rejoinderlaw05.ParseJoins'. -/
def parseJoinsCard : Claim7 := { stood := { row := parseJoinsRow, standIns := [], harness := (true, "1f854cd33aba80ae19e5c7147fbdaedbe1721b485b58866a5f592069681eca9e"), looks := true }, kinds := [], alts := [], laidByText := true, laidKinds := [.listed, .data], laidTests := true, laidLooks := .later }
def ParseJoinsCardSaid : Prop := Claim7.holds Tryd.pinned (.plain (OpenSpec.ofChange parseJoinsSpec)) parseJoinsCard

/-- THE TIED CARD OF 'rejoinderlaw05.ParseReads'. -/
def parseReadsCard : Claim7 := { stood := { row := parseReadsRow, standIns := [], harness := (true, "1f854cd33aba80ae19e5c7147fbdaedbe1721b485b58866a5f592069681eca9e"), looks := true }, kinds := [], alts := [], laidByText := true, laidKinds := [.listed, .data], laidTests := true, laidLooks := .later }
def ParseReadsCardSaid : Prop := Claim7.holds Tryd.pinned (.plain (OpenSpec.ofChange parseReadsSpec)) parseReadsCard

/-- THE TIED CARD OF 'rejoinderlaw05.ParsePaths'. -/
def parsePathsCard : Claim7 := { stood := { row := parsePathsRow, standIns := [], harness := (true, "1f854cd33aba80ae19e5c7147fbdaedbe1721b485b58866a5f592069681eca9e"), looks := true }, kinds := [], alts := [], laidByText := true, laidKinds := [.listed, .data], laidTests := true, laidLooks := .later }
def ParsePathsCardSaid : Prop := Claim7.holds Tryd.pinned (.plain (OpenSpec.ofChange parsePathsSpec)) parsePathsCard

/-- THE TIED CARD OF 'rejoinderlaw05.ParseKnown'. -/
def parseKnownCard : Claim7 := { stood := { row := parseKnownRow, standIns := [], harness := (true, "1f854cd33aba80ae19e5c7147fbdaedbe1721b485b58866a5f592069681eca9e"), looks := true }, kinds := [], alts := [], laidByText := true, laidKinds := [.listed, .data], laidTests := true, laidLooks := .later }
def ParseKnownCardSaid : Prop := Claim7.holds Tryd.pinned (.plain (OpenSpec.ofChange parseKnownSpec)) parseKnownCard

/-- THE TIED CARD OF 'rejoinderlaw06.ShowFew'. -/
def showFewCard : Claim7 := { stood := { row := showFewRow, standIns := [], harness := (true, "1f854cd33aba80ae19e5c7147fbdaedbe1721b485b58866a5f592069681eca9e"), looks := true }, kinds := [], alts := [], laidByText := true, laidKinds := [.listed, .data], laidTests := true, laidLooks := .later }
def ShowFewCardSaid : Prop := Claim7.holds Tryd.pinned (.plain (OpenSpec.ofChange showFewSpec)) showFewCard

/-- THE TIED CARD OF 'rejoinderlaw06.ShowKnown'. -/
def showKnownCard : Claim7 := { stood := { row := showKnownRow, standIns := [], harness := (true, "1f854cd33aba80ae19e5c7147fbdaedbe1721b485b58866a5f592069681eca9e"), looks := true }, kinds := [], alts := [], laidByText := true, laidKinds := [.listed, .data], laidTests := true, laidLooks := .later }
def ShowKnownCardSaid : Prop := Claim7.holds Tryd.pinned (.plain (OpenSpec.ofChange showKnownSpec)) showKnownCard

/-- THE TIED CARD OF 'rejoinderlaw06.ShowBack'. -/
def showBackCard : Claim7 := { stood := { row := showBackRow, standIns := [], harness := (true, "1f854cd33aba80ae19e5c7147fbdaedbe1721b485b58866a5f592069681eca9e"), looks := true }, kinds := [], alts := [], laidByText := true, laidKinds := [.listed, .data], laidTests := true, laidLooks := .later }
def ShowBackCardSaid : Prop := Claim7.holds Tryd.pinned (.plain (OpenSpec.ofChange showBackSpec)) showBackCard

/-- THE SECOND FORM's CARD OF 'rejoinderlaw04.LexisSpans'. -/
def lexisSpansUptoCard : Claim7 := { stood := { row := lexisSpansUptoRow, standIns := [], harness := (true, "1f854cd33aba80ae19e5c7147fbdaedbe1721b485b58866a5f592069681eca9e"), looks := true }, kinds := [], alts := [], laidByText := true, laidKinds := [.listed, .data], laidTests := true, laidLooks := .later }
def LexisSpansUptoCardSaid : Prop := Claim7.holds Tryd.pinned (.plain (OpenSpec.upto lexisSpansSpec)) lexisSpansUptoCard

/-- THE SECOND FORM's CARD OF 'rejoinderlaw04.LexisWords'. -/
def lexisWordsUptoCard : Claim7 := { stood := { row := lexisWordsUptoRow, standIns := [], harness := (true, "1f854cd33aba80ae19e5c7147fbdaedbe1721b485b58866a5f592069681eca9e"), looks := true }, kinds := [], alts := [], laidByText := true, laidKinds := [.listed, .data], laidTests := true, laidLooks := .later }
def LexisWordsUptoCardSaid : Prop := Claim7.holds Tryd.pinned (.plain (OpenSpec.upto lexisWordsSpec)) lexisWordsUptoCard

/-- THE SECOND FORM's CARD OF 'rejoinderlaw04.LexisKnown'. -/
def lexisKnownUptoCard : Claim7 := { stood := { row := lexisKnownUptoRow, standIns := [], harness := (true, "1f854cd33aba80ae19e5c7147fbdaedbe1721b485b58866a5f592069681eca9e"), looks := true }, kinds := [], alts := [], laidByText := true, laidKinds := [.listed, .data], laidTests := true, laidLooks := .later }
def LexisKnownUptoCardSaid : Prop := Claim7.holds Tryd.pinned (.plain (OpenSpec.upto lexisKnownSpec)) lexisKnownUptoCard

/-- THE SECOND FORM's CARD OF 'rejoinderlaw05.ParseJoins'. -/
def parseJoinsUptoCard : Claim7 := { stood := { row := parseJoinsUptoRow, standIns := [], harness := (true, "1f854cd33aba80ae19e5c7147fbdaedbe1721b485b58866a5f592069681eca9e"), looks := true }, kinds := [], alts := [], laidByText := true, laidKinds := [.listed, .data], laidTests := true, laidLooks := .later }
def ParseJoinsUptoCardSaid : Prop := Claim7.holds Tryd.pinned (.plain (OpenSpec.upto parseJoinsSpec)) parseJoinsUptoCard

/-- THE SECOND FORM's CARD OF 'rejoinderlaw05.ParseReads'. -/
def parseReadsUptoCard : Claim7 := { stood := { row := parseReadsUptoRow, standIns := [], harness := (true, "1f854cd33aba80ae19e5c7147fbdaedbe1721b485b58866a5f592069681eca9e"), looks := true }, kinds := [], alts := [], laidByText := true, laidKinds := [.listed, .data], laidTests := true, laidLooks := .later }
def ParseReadsUptoCardSaid : Prop := Claim7.holds Tryd.pinned (.plain (OpenSpec.upto parseReadsSpec)) parseReadsUptoCard

/-- THE SECOND FORM's CARD OF 'rejoinderlaw05.ParsePaths'. -/
def parsePathsUptoCard : Claim7 := { stood := { row := parsePathsUptoRow, standIns := [], harness := (true, "1f854cd33aba80ae19e5c7147fbdaedbe1721b485b58866a5f592069681eca9e"), looks := true }, kinds := [], alts := [], laidByText := true, laidKinds := [.listed, .data], laidTests := true, laidLooks := .later }
def ParsePathsUptoCardSaid : Prop := Claim7.holds Tryd.pinned (.plain (OpenSpec.upto parsePathsSpec)) parsePathsUptoCard

/-- THE SECOND FORM's CARD OF 'rejoinderlaw05.ParseKnown'. -/
def parseKnownUptoCard : Claim7 := { stood := { row := parseKnownUptoRow, standIns := [], harness := (true, "1f854cd33aba80ae19e5c7147fbdaedbe1721b485b58866a5f592069681eca9e"), looks := true }, kinds := [], alts := [], laidByText := true, laidKinds := [.listed, .data], laidTests := true, laidLooks := .later }
def ParseKnownUptoCardSaid : Prop := Claim7.holds Tryd.pinned (.plain (OpenSpec.upto parseKnownSpec)) parseKnownUptoCard

/-- THE SECOND FORM's CARD OF 'rejoinderlaw06.ShowFew'. -/
def showFewUptoCard : Claim7 := { stood := { row := showFewUptoRow, standIns := [], harness := (true, "1f854cd33aba80ae19e5c7147fbdaedbe1721b485b58866a5f592069681eca9e"), looks := true }, kinds := [], alts := [], laidByText := true, laidKinds := [.listed, .data], laidTests := true, laidLooks := .later }
def ShowFewUptoCardSaid : Prop := Claim7.holds Tryd.pinned (.plain (OpenSpec.upto showFewSpec)) showFewUptoCard

/-- THE SECOND FORM's CARD OF 'rejoinderlaw06.ShowKnown'. -/
def showKnownUptoCard : Claim7 := { stood := { row := showKnownUptoRow, standIns := [], harness := (true, "1f854cd33aba80ae19e5c7147fbdaedbe1721b485b58866a5f592069681eca9e"), looks := true }, kinds := [], alts := [], laidByText := true, laidKinds := [.listed, .data], laidTests := true, laidLooks := .later }
def ShowKnownUptoCardSaid : Prop := Claim7.holds Tryd.pinned (.plain (OpenSpec.upto showKnownSpec)) showKnownUptoCard

/-- THE SECOND FORM's CARD OF 'rejoinderlaw06.ShowBack'. -/
def showBackUptoCard : Claim7 := { stood := { row := showBackUptoRow, standIns := [], harness := (true, "1f854cd33aba80ae19e5c7147fbdaedbe1721b485b58866a5f592069681eca9e"), looks := true }, kinds := [], alts := [], laidByText := true, laidKinds := [.listed, .data], laidTests := true, laidLooks := .later }
def ShowBackUptoCardSaid : Prop := Claim7.holds Tryd.pinned (.plain (OpenSpec.upto showBackSpec)) showBackUptoCard
end Rows
end Go.Proofs.YtaogoabnidbbpaaDoor
