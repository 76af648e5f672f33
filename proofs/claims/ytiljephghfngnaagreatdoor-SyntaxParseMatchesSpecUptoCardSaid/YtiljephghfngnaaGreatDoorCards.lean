/-
  DERIVED. GIVEN WITH THE SEED: THE CARDS: each row of YtiljephghfngnaaGreatDoorRows.lean that lists a variable, with what it lists TIED to the program's text (the seventh form; the later family's looks); each row that meets fmt, with fmt's text TOLD by the authors' own Lean function (tested against real Go, not proved from fmt's source: count such statements apart). THE CARD IS WHAT COUNTS. Prove the row's statement (the work); the ties are given (YtiljephghfngnaaGreatDoorTie.lean); close each card by the builder's one call (the guide's Derived/Test/ToyasCard.lean, 'card_holds'). Laid BY PROGRAM, IN A SANDBOX (cutbox-door.mjs). By AI agents, Wed Nov 11 2026. No macro, syntax, notation, axiom, sorry.
-/
import Derived.Test.YtiljephghfngnaaGreatDoorRows
import GoSem.ClaimSeven
namespace Go.Proofs.YtiljephghfngnaaGreatDoor
namespace Rows

/-- THE TIED CARD OF 'scriptoriumlaw7.SyntaxPrintMatchesSpec'. -/
def syntaxPrintMatchesSpecCard : Claim7 := { stood := { row := syntaxPrintMatchesSpecRow, standIns := [], harness := (true, "c19df9c47582f25ef762cc70e6b9dc57ad8ce6283910153580217535a3bccf87"), looks := true }, kinds := [], alts := [], laidByText := true, laidKinds := [.data, .data, .data, .sentinel, .sentinel, .listed, .data], laidTests := true, laidLooks := .later }
def SyntaxPrintMatchesSpecCardSaid : Prop := Claim7.holds Tryz.pinned (.plain (OpenSpec.ofChange syntaxPrintMatchesSpecSpec)) syntaxPrintMatchesSpecCard

/-- THE TIED CARD OF 'scriptoriumlaw7.SyntaxParseMatchesSpec'. -/
def syntaxParseMatchesSpecCard : Claim7 := { stood := { row := syntaxParseMatchesSpecRow, standIns := [], harness := (true, "c19df9c47582f25ef762cc70e6b9dc57ad8ce6283910153580217535a3bccf87"), looks := true }, kinds := [], alts := [], laidByText := true, laidKinds := [.data, .data, .data, .sentinel, .sentinel, .listed, .data], laidTests := true, laidLooks := .later }
def SyntaxParseMatchesSpecCardSaid : Prop := Claim7.holds Tryz.pinned (.plain (OpenSpec.ofChange syntaxParseMatchesSpecSpec)) syntaxParseMatchesSpecCard

/-- THE TIED CARD OF 'scriptoriumlaw7.SyntaxRoundTrip'. -/
def syntaxRoundTripCard : Claim7 := { stood := { row := syntaxRoundTripRow, standIns := [], harness := (true, "c19df9c47582f25ef762cc70e6b9dc57ad8ce6283910153580217535a3bccf87"), looks := true }, kinds := [], alts := [], laidByText := true, laidKinds := [.data, .data, .data, .sentinel, .sentinel, .listed, .data], laidTests := true, laidLooks := .later }
def SyntaxRoundTripCardSaid : Prop := Claim7.holds Tryz.pinned (.plain (OpenSpec.ofChange syntaxRoundTripSpec)) syntaxRoundTripCard

/-- THE TIED CARD OF 'scriptoriumlaw7.SyntaxLayoutDoesNotMatter'. -/
def syntaxLayoutDoesNotMatterCard : Claim7 := { stood := { row := syntaxLayoutDoesNotMatterRow, standIns := [], harness := (true, "c19df9c47582f25ef762cc70e6b9dc57ad8ce6283910153580217535a3bccf87"), looks := true }, kinds := [], alts := [], laidByText := true, laidKinds := [.data, .data, .data, .sentinel, .sentinel, .listed, .data], laidTests := true, laidLooks := .later }
def SyntaxLayoutDoesNotMatterCardSaid : Prop := Claim7.holds Tryz.pinned (.plain (OpenSpec.ofChange syntaxLayoutDoesNotMatterSpec)) syntaxLayoutDoesNotMatterCard

/-- THE TIED CARD OF 'scriptoriumlaw7.SyntaxErrorsDoNotDependOnTheRest'. -/
def syntaxErrorsDoNotDependOnTheRestCard : Claim7 := { stood := { row := syntaxErrorsDoNotDependOnTheRestRow, standIns := [], harness := (true, "c19df9c47582f25ef762cc70e6b9dc57ad8ce6283910153580217535a3bccf87"), looks := true }, kinds := [], alts := [], laidByText := true, laidKinds := [.data, .data, .data, .sentinel, .sentinel, .listed, .data], laidTests := true, laidLooks := .later }
def SyntaxErrorsDoNotDependOnTheRestCardSaid : Prop := Claim7.holds Tryz.pinned (.plain (OpenSpec.ofChange syntaxErrorsDoNotDependOnTheRestSpec)) syntaxErrorsDoNotDependOnTheRestCard

/-- THE SECOND FORM's CARD OF 'scriptoriumlaw7.SyntaxPrintMatchesSpec'. -/
def syntaxPrintMatchesSpecUptoCard : Claim7 := { stood := { row := syntaxPrintMatchesSpecUptoRow, standIns := [], harness := (true, "c19df9c47582f25ef762cc70e6b9dc57ad8ce6283910153580217535a3bccf87"), looks := true }, kinds := [], alts := [], laidByText := true, laidKinds := [.data, .data, .data, .sentinel, .sentinel, .listed, .data], laidTests := true, laidLooks := .later }
def SyntaxPrintMatchesSpecUptoCardSaid : Prop := Claim7.holds Tryz.pinned (.plain (OpenSpec.upto syntaxPrintMatchesSpecSpec)) syntaxPrintMatchesSpecUptoCard

/-- THE SECOND FORM's CARD OF 'scriptoriumlaw7.SyntaxParseMatchesSpec'. -/
def syntaxParseMatchesSpecUptoCard : Claim7 := { stood := { row := syntaxParseMatchesSpecUptoRow, standIns := [], harness := (true, "c19df9c47582f25ef762cc70e6b9dc57ad8ce6283910153580217535a3bccf87"), looks := true }, kinds := [], alts := [], laidByText := true, laidKinds := [.data, .data, .data, .sentinel, .sentinel, .listed, .data], laidTests := true, laidLooks := .later }
def SyntaxParseMatchesSpecUptoCardSaid : Prop := Claim7.holds Tryz.pinned (.plain (OpenSpec.upto syntaxParseMatchesSpecSpec)) syntaxParseMatchesSpecUptoCard

/-- THE SECOND FORM's CARD OF 'scriptoriumlaw7.SyntaxRoundTrip'. -/
def syntaxRoundTripUptoCard : Claim7 := { stood := { row := syntaxRoundTripUptoRow, standIns := [], harness := (true, "c19df9c47582f25ef762cc70e6b9dc57ad8ce6283910153580217535a3bccf87"), looks := true }, kinds := [], alts := [], laidByText := true, laidKinds := [.data, .data, .data, .sentinel, .sentinel, .listed, .data], laidTests := true, laidLooks := .later }
def SyntaxRoundTripUptoCardSaid : Prop := Claim7.holds Tryz.pinned (.plain (OpenSpec.upto syntaxRoundTripSpec)) syntaxRoundTripUptoCard

/-- THE SECOND FORM's CARD OF 'scriptoriumlaw7.SyntaxLayoutDoesNotMatter'. -/
def syntaxLayoutDoesNotMatterUptoCard : Claim7 := { stood := { row := syntaxLayoutDoesNotMatterUptoRow, standIns := [], harness := (true, "c19df9c47582f25ef762cc70e6b9dc57ad8ce6283910153580217535a3bccf87"), looks := true }, kinds := [], alts := [], laidByText := true, laidKinds := [.data, .data, .data, .sentinel, .sentinel, .listed, .data], laidTests := true, laidLooks := .later }
def SyntaxLayoutDoesNotMatterUptoCardSaid : Prop := Claim7.holds Tryz.pinned (.plain (OpenSpec.upto syntaxLayoutDoesNotMatterSpec)) syntaxLayoutDoesNotMatterUptoCard

/-- THE SECOND FORM's CARD OF 'scriptoriumlaw7.SyntaxErrorsDoNotDependOnTheRest'. -/
def syntaxErrorsDoNotDependOnTheRestUptoCard : Claim7 := { stood := { row := syntaxErrorsDoNotDependOnTheRestUptoRow, standIns := [], harness := (true, "c19df9c47582f25ef762cc70e6b9dc57ad8ce6283910153580217535a3bccf87"), looks := true }, kinds := [], alts := [], laidByText := true, laidKinds := [.data, .data, .data, .sentinel, .sentinel, .listed, .data], laidTests := true, laidLooks := .later }
def SyntaxErrorsDoNotDependOnTheRestUptoCardSaid : Prop := Claim7.holds Tryz.pinned (.plain (OpenSpec.upto syntaxErrorsDoNotDependOnTheRestSpec)) syntaxErrorsDoNotDependOnTheRestUptoCard
end Rows
end Go.Proofs.YtiljephghfngnaaGreatDoor
