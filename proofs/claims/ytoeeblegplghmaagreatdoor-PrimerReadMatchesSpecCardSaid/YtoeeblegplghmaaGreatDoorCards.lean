/-
  DERIVED. GIVEN WITH THE SEED: THE CARDS: each row of YtoeeblegplghmaaGreatDoorRows.lean that lists a variable, with what it lists TIED to the program's text (the seventh form; the later family's looks); each row that meets fmt, with fmt's text TOLD by the authors' own Lean function (tested against real Go, not proved from fmt's source: count such statements apart). THE CARD IS WHAT COUNTS. Prove the row's statement (the work); the ties are given (YtoeeblegplghmaaGreatDoorTie.lean); close each card by the builder's one call (the guide's Derived/Test/ToyasCard.lean, 'card_holds'). Laid BY PROGRAM, IN A SANDBOX (cutbox-door.mjs). By AI agents, Wed Nov 11 2026. No macro, syntax, notation, axiom, sorry.
-/
import Derived.Test.YtoeeblegplghmaaGreatDoorRows
import GoSem.ClaimSeven
namespace Go.Proofs.YtoeeblegplghmaaGreatDoor
namespace Rows

/-- THE TIED CARD OF 'scriptoriumlaw7.PrimerTextMatchesSpec'. -/
def primerTextMatchesSpecCard : Claim7 := { stood := { row := primerTextMatchesSpecRow, standIns := [], harness := (true, "9deedf6da0a9f979f73cc94a2041119411f9c3a8de5ea652c836be80442c5a58"), looks := true }, kinds := [], alts := [], laidByText := true, laidKinds := [.data, .data, .data, .data, .sentinel, .sentinel, .listed, .data, .pinned], laidTests := true, laidLooks := .later }
def PrimerTextMatchesSpecCardSaid : Prop := Claim7.holds Tryz.pinned (.plain (OpenSpec.ofChange primerTextMatchesSpecSpec)) primerTextMatchesSpecCard

/-- THE TIED CARD OF 'scriptoriumlaw7.PrimerReadMatchesSpec'. -/
def primerReadMatchesSpecCard : Claim7 := { stood := { row := primerReadMatchesSpecRow, standIns := [], harness := (true, "9deedf6da0a9f979f73cc94a2041119411f9c3a8de5ea652c836be80442c5a58"), looks := true }, kinds := [], alts := [], laidByText := true, laidKinds := [.data, .data, .data, .data, .sentinel, .sentinel, .listed, .data, .pinned], laidTests := true, laidLooks := .later }
def PrimerReadMatchesSpecCardSaid : Prop := Claim7.holds Tryz.pinned (.plain (OpenSpec.ofChange primerReadMatchesSpecSpec)) primerReadMatchesSpecCard

/-- THE TIED CARD OF 'scriptoriumlaw7.PrimerIsReadAgain'. -/
def primerIsReadAgainCard : Claim7 := { stood := { row := primerIsReadAgainRow, standIns := [], harness := (true, "9deedf6da0a9f979f73cc94a2041119411f9c3a8de5ea652c836be80442c5a58"), looks := true }, kinds := [], alts := [], laidByText := true, laidKinds := [.data, .data, .data, .data, .sentinel, .sentinel, .listed, .data, .pinned], laidTests := true, laidLooks := .later }
def PrimerIsReadAgainCardSaid : Prop := Claim7.holds Tryz.pinned (.plain (OpenSpec.ofChange primerIsReadAgainSpec)) primerIsReadAgainCard

/-- THE TIED CARD OF 'scriptoriumlaw7.PrimerLayoutDoesNotMatter'. -/
def primerLayoutDoesNotMatterCard : Claim7 := { stood := { row := primerLayoutDoesNotMatterRow, standIns := [], harness := (true, "9deedf6da0a9f979f73cc94a2041119411f9c3a8de5ea652c836be80442c5a58"), looks := true }, kinds := [], alts := [], laidByText := true, laidKinds := [.data, .data, .data, .data, .sentinel, .sentinel, .listed, .data, .pinned], laidTests := true, laidLooks := .later }
def PrimerLayoutDoesNotMatterCardSaid : Prop := Claim7.holds Tryz.pinned (.plain (OpenSpec.ofChange primerLayoutDoesNotMatterSpec)) primerLayoutDoesNotMatterCard

/-- THE TIED CARD OF 'scriptoriumlaw7.PrimerFindsAChangedCharacter'. -/
def primerFindsAChangedCharacterCard : Claim7 := { stood := { row := primerFindsAChangedCharacterRow, standIns := [], harness := (true, "9deedf6da0a9f979f73cc94a2041119411f9c3a8de5ea652c836be80442c5a58"), looks := true }, kinds := [], alts := [], laidByText := true, laidKinds := [.data, .data, .data, .data, .sentinel, .sentinel, .listed, .data, .pinned], laidTests := true, laidLooks := .later }
def PrimerFindsAChangedCharacterCardSaid : Prop := Claim7.holds Tryz.pinned (.plain (OpenSpec.ofChange primerFindsAChangedCharacterSpec)) primerFindsAChangedCharacterCard

/-- THE TIED CARD OF 'scriptoriumlaw7.PrimerFindsExchangedCharacters'. -/
def primerFindsExchangedCharactersCard : Claim7 := { stood := { row := primerFindsExchangedCharactersRow, standIns := [], harness := (true, "9deedf6da0a9f979f73cc94a2041119411f9c3a8de5ea652c836be80442c5a58"), looks := true }, kinds := [], alts := [], laidByText := true, laidKinds := [.data, .data, .data, .data, .sentinel, .sentinel, .listed, .data, .pinned], laidTests := true, laidLooks := .later }
def PrimerFindsExchangedCharactersCardSaid : Prop := Claim7.holds Tryz.pinned (.plain (OpenSpec.ofChange primerFindsExchangedCharactersSpec)) primerFindsExchangedCharactersCard

/-- THE SECOND FORM's CARD OF 'scriptoriumlaw7.PrimerTextMatchesSpec'. -/
def primerTextMatchesSpecUptoCard : Claim7 := { stood := { row := primerTextMatchesSpecUptoRow, standIns := [], harness := (true, "9deedf6da0a9f979f73cc94a2041119411f9c3a8de5ea652c836be80442c5a58"), looks := true }, kinds := [], alts := [], laidByText := true, laidKinds := [.data, .data, .data, .data, .sentinel, .sentinel, .listed, .data, .pinned], laidTests := true, laidLooks := .later }
def PrimerTextMatchesSpecUptoCardSaid : Prop := Claim7.holds Tryz.pinned (.plain (OpenSpec.upto primerTextMatchesSpecSpec)) primerTextMatchesSpecUptoCard

/-- THE SECOND FORM's CARD OF 'scriptoriumlaw7.PrimerReadMatchesSpec'. -/
def primerReadMatchesSpecUptoCard : Claim7 := { stood := { row := primerReadMatchesSpecUptoRow, standIns := [], harness := (true, "9deedf6da0a9f979f73cc94a2041119411f9c3a8de5ea652c836be80442c5a58"), looks := true }, kinds := [], alts := [], laidByText := true, laidKinds := [.data, .data, .data, .data, .sentinel, .sentinel, .listed, .data, .pinned], laidTests := true, laidLooks := .later }
def PrimerReadMatchesSpecUptoCardSaid : Prop := Claim7.holds Tryz.pinned (.plain (OpenSpec.upto primerReadMatchesSpecSpec)) primerReadMatchesSpecUptoCard

/-- THE SECOND FORM's CARD OF 'scriptoriumlaw7.PrimerIsReadAgain'. -/
def primerIsReadAgainUptoCard : Claim7 := { stood := { row := primerIsReadAgainUptoRow, standIns := [], harness := (true, "9deedf6da0a9f979f73cc94a2041119411f9c3a8de5ea652c836be80442c5a58"), looks := true }, kinds := [], alts := [], laidByText := true, laidKinds := [.data, .data, .data, .data, .sentinel, .sentinel, .listed, .data, .pinned], laidTests := true, laidLooks := .later }
def PrimerIsReadAgainUptoCardSaid : Prop := Claim7.holds Tryz.pinned (.plain (OpenSpec.upto primerIsReadAgainSpec)) primerIsReadAgainUptoCard

/-- THE SECOND FORM's CARD OF 'scriptoriumlaw7.PrimerLayoutDoesNotMatter'. -/
def primerLayoutDoesNotMatterUptoCard : Claim7 := { stood := { row := primerLayoutDoesNotMatterUptoRow, standIns := [], harness := (true, "9deedf6da0a9f979f73cc94a2041119411f9c3a8de5ea652c836be80442c5a58"), looks := true }, kinds := [], alts := [], laidByText := true, laidKinds := [.data, .data, .data, .data, .sentinel, .sentinel, .listed, .data, .pinned], laidTests := true, laidLooks := .later }
def PrimerLayoutDoesNotMatterUptoCardSaid : Prop := Claim7.holds Tryz.pinned (.plain (OpenSpec.upto primerLayoutDoesNotMatterSpec)) primerLayoutDoesNotMatterUptoCard

/-- THE SECOND FORM's CARD OF 'scriptoriumlaw7.PrimerFindsAChangedCharacter'. -/
def primerFindsAChangedCharacterUptoCard : Claim7 := { stood := { row := primerFindsAChangedCharacterUptoRow, standIns := [], harness := (true, "9deedf6da0a9f979f73cc94a2041119411f9c3a8de5ea652c836be80442c5a58"), looks := true }, kinds := [], alts := [], laidByText := true, laidKinds := [.data, .data, .data, .data, .sentinel, .sentinel, .listed, .data, .pinned], laidTests := true, laidLooks := .later }
def PrimerFindsAChangedCharacterUptoCardSaid : Prop := Claim7.holds Tryz.pinned (.plain (OpenSpec.upto primerFindsAChangedCharacterSpec)) primerFindsAChangedCharacterUptoCard

/-- THE SECOND FORM's CARD OF 'scriptoriumlaw7.PrimerFindsExchangedCharacters'. -/
def primerFindsExchangedCharactersUptoCard : Claim7 := { stood := { row := primerFindsExchangedCharactersUptoRow, standIns := [], harness := (true, "9deedf6da0a9f979f73cc94a2041119411f9c3a8de5ea652c836be80442c5a58"), looks := true }, kinds := [], alts := [], laidByText := true, laidKinds := [.data, .data, .data, .data, .sentinel, .sentinel, .listed, .data, .pinned], laidTests := true, laidLooks := .later }
def PrimerFindsExchangedCharactersUptoCardSaid : Prop := Claim7.holds Tryz.pinned (.plain (OpenSpec.upto primerFindsExchangedCharactersSpec)) primerFindsExchangedCharactersUptoCard
end Rows
end Go.Proofs.YtoeeblegplghmaaGreatDoor
