/-
  DERIVED. GIVEN WITH THE SEED: THE CARDS: each row of YtacajpepkfinoaaGreatDoorRows.lean that lists a variable, with what it lists TIED to the program's text (the seventh form; the later family's looks); each row that meets fmt, with fmt's text TOLD by the authors' own Lean function (tested against real Go, not proved from fmt's source: count such statements apart). THE CARD IS WHAT COUNTS. Prove the row's statement (the work); the ties are given (YtacajpepkfinoaaGreatDoorTie.lean); close each card by the builder's one call (the guide's Derived/Test/ToyasCard.lean, 'card_holds'). Laid BY PROGRAM, IN A SANDBOX (cutbox-door.mjs). By AI agents, Wed Nov 11 2026. No macro, syntax, notation, axiom, sorry.
-/
import Derived.Test.YtacajpepkfinoaaGreatDoorRows
import GoSem.ClaimSeven
namespace Go.Proofs.YtacajpepkfinoaaGreatDoor
namespace Rows

/-- THE TIED CARD OF 'scriptoriumlaw7.CheckProgramMatchesSpec'. -/
def checkProgramMatchesSpecCard : Claim7 := { stood := { row := checkProgramMatchesSpecRow, standIns := [], harness := (true, "ff642f27fd9d8528011e98e0128abfa4d6c100082618d256da9b2d1d88b58da4"), looks := false }, kinds := [], alts := [], laidByText := true, laidKinds := [.data, .data, .data, .listed, .data], laidTests := true, laidLooks := .later }
def CheckProgramMatchesSpecCardSaid : Prop := Claim7.holds Tryz.pinned (.plain (OpenSpec.ofChange checkProgramMatchesSpecSpec)) checkProgramMatchesSpecCard

/-- THE TIED CARD OF 'scriptoriumlaw7.CheckNamesMatchSpec'. -/
def checkNamesMatchSpecCard : Claim7 := { stood := { row := checkNamesMatchSpecRow, standIns := [], harness := (true, "ff642f27fd9d8528011e98e0128abfa4d6c100082618d256da9b2d1d88b58da4"), looks := false }, kinds := [], alts := [], laidByText := true, laidKinds := [.data, .data, .data, .listed, .data], laidTests := true, laidLooks := .later }
def CheckNamesMatchSpecCardSaid : Prop := Claim7.holds Tryz.pinned (.plain (OpenSpec.ofChange checkNamesMatchSpecSpec)) checkNamesMatchSpecCard

/-- THE TIED CARD OF 'scriptoriumlaw7.CheckTrimMatchesSpec'. -/
def checkTrimMatchesSpecCard : Claim7 := { stood := { row := checkTrimMatchesSpecRow, standIns := [], harness := (true, "ff642f27fd9d8528011e98e0128abfa4d6c100082618d256da9b2d1d88b58da4"), looks := false }, kinds := [], alts := [], laidByText := true, laidKinds := [.data, .data, .data, .listed, .data], laidTests := true, laidLooks := .later }
def CheckTrimMatchesSpecCardSaid : Prop := Claim7.holds Tryz.pinned (.plain (OpenSpec.ofChange checkTrimMatchesSpecSpec)) checkTrimMatchesSpecCard

/-- THE TIED CARD OF 'scriptoriumlaw7.CheckTrimLeavesWhatIsUsed'. -/
def checkTrimLeavesWhatIsUsedCard : Claim7 := { stood := { row := checkTrimLeavesWhatIsUsedRow, standIns := [], harness := (true, "ff642f27fd9d8528011e98e0128abfa4d6c100082618d256da9b2d1d88b58da4"), looks := false }, kinds := [], alts := [], laidByText := true, laidKinds := [.data, .data, .data, .listed, .data], laidTests := true, laidLooks := .later }
def CheckTrimLeavesWhatIsUsedCardSaid : Prop := Claim7.holds Tryz.pinned (.plain (OpenSpec.ofChange checkTrimLeavesWhatIsUsedSpec)) checkTrimLeavesWhatIsUsedCard

/-- THE TIED CARD OF 'scriptoriumlaw7.CheckFoldMatchesSpec'. -/
def checkFoldMatchesSpecCard : Claim7 := { stood := { row := checkFoldMatchesSpecRow, standIns := [], harness := (true, "ff642f27fd9d8528011e98e0128abfa4d6c100082618d256da9b2d1d88b58da4"), looks := false }, kinds := [], alts := [], laidByText := true, laidKinds := [.data, .data, .data, .listed, .data], laidTests := true, laidLooks := .later }
def CheckFoldMatchesSpecCardSaid : Prop := Claim7.holds Tryz.pinned (.plain (OpenSpec.ofChange checkFoldMatchesSpecSpec)) checkFoldMatchesSpecCard

/-- THE SECOND FORM's CARD OF 'scriptoriumlaw7.CheckProgramMatchesSpec'. -/
def checkProgramMatchesSpecUptoCard : Claim7 := { stood := { row := checkProgramMatchesSpecUptoRow, standIns := [], harness := (true, "ff642f27fd9d8528011e98e0128abfa4d6c100082618d256da9b2d1d88b58da4"), looks := false }, kinds := [], alts := [], laidByText := true, laidKinds := [.data, .data, .data, .listed, .data], laidTests := true, laidLooks := .later }
def CheckProgramMatchesSpecUptoCardSaid : Prop := Claim7.holds Tryz.pinned (.plain (OpenSpec.upto checkProgramMatchesSpecSpec)) checkProgramMatchesSpecUptoCard

/-- THE SECOND FORM's CARD OF 'scriptoriumlaw7.CheckNamesMatchSpec'. -/
def checkNamesMatchSpecUptoCard : Claim7 := { stood := { row := checkNamesMatchSpecUptoRow, standIns := [], harness := (true, "ff642f27fd9d8528011e98e0128abfa4d6c100082618d256da9b2d1d88b58da4"), looks := false }, kinds := [], alts := [], laidByText := true, laidKinds := [.data, .data, .data, .listed, .data], laidTests := true, laidLooks := .later }
def CheckNamesMatchSpecUptoCardSaid : Prop := Claim7.holds Tryz.pinned (.plain (OpenSpec.upto checkNamesMatchSpecSpec)) checkNamesMatchSpecUptoCard

/-- THE SECOND FORM's CARD OF 'scriptoriumlaw7.CheckTrimMatchesSpec'. -/
def checkTrimMatchesSpecUptoCard : Claim7 := { stood := { row := checkTrimMatchesSpecUptoRow, standIns := [], harness := (true, "ff642f27fd9d8528011e98e0128abfa4d6c100082618d256da9b2d1d88b58da4"), looks := false }, kinds := [], alts := [], laidByText := true, laidKinds := [.data, .data, .data, .listed, .data], laidTests := true, laidLooks := .later }
def CheckTrimMatchesSpecUptoCardSaid : Prop := Claim7.holds Tryz.pinned (.plain (OpenSpec.upto checkTrimMatchesSpecSpec)) checkTrimMatchesSpecUptoCard

/-- THE SECOND FORM's CARD OF 'scriptoriumlaw7.CheckTrimLeavesWhatIsUsed'. -/
def checkTrimLeavesWhatIsUsedUptoCard : Claim7 := { stood := { row := checkTrimLeavesWhatIsUsedUptoRow, standIns := [], harness := (true, "ff642f27fd9d8528011e98e0128abfa4d6c100082618d256da9b2d1d88b58da4"), looks := false }, kinds := [], alts := [], laidByText := true, laidKinds := [.data, .data, .data, .listed, .data], laidTests := true, laidLooks := .later }
def CheckTrimLeavesWhatIsUsedUptoCardSaid : Prop := Claim7.holds Tryz.pinned (.plain (OpenSpec.upto checkTrimLeavesWhatIsUsedSpec)) checkTrimLeavesWhatIsUsedUptoCard

/-- THE SECOND FORM's CARD OF 'scriptoriumlaw7.CheckFoldMatchesSpec'. -/
def checkFoldMatchesSpecUptoCard : Claim7 := { stood := { row := checkFoldMatchesSpecUptoRow, standIns := [], harness := (true, "ff642f27fd9d8528011e98e0128abfa4d6c100082618d256da9b2d1d88b58da4"), looks := false }, kinds := [], alts := [], laidByText := true, laidKinds := [.data, .data, .data, .listed, .data], laidTests := true, laidLooks := .later }
def CheckFoldMatchesSpecUptoCardSaid : Prop := Claim7.holds Tryz.pinned (.plain (OpenSpec.upto checkFoldMatchesSpecSpec)) checkFoldMatchesSpecUptoCard
end Rows
end Go.Proofs.YtacajpepkfinoaaGreatDoor
