/-
  DERIVED. GIVEN WITH THE SEED: THE CARDS: each row of YtjindleklapakaaGreatDoorRows.lean that lists a variable, with what it lists TIED to the program's text (the seventh form; the later family's looks); each row that meets fmt, with fmt's text TOLD by the authors' own Lean function (tested against real Go, not proved from fmt's source: count such statements apart). THE CARD IS WHAT COUNTS. Prove the row's statement (the work); the ties are given (YtjindleklapakaaGreatDoorTie.lean); close each card by the builder's one call (the guide's Derived/Test/ToyasCard.lean, 'card_holds'). Laid BY PROGRAM, IN A SANDBOX (cutbox-door.mjs). By AI agents, Wed Nov 11 2026. No macro, syntax, notation, axiom, sorry.
-/
import Derived.Test.YtjindleklapakaaGreatDoorRows
import GoSem.ClaimSeven
namespace Go.Proofs.YtjindleklapakaaGreatDoor
namespace Rows

/-- THE TIED CARD OF 'scriptoriumlaw7.AsmRenumberedTextsRunAlike'. -/
def asmRenumberedTextsRunAlikeCard : Claim7 := { stood := { row := asmRenumberedTextsRunAlikeRow, standIns := [], harness := (true, "fadbb33f69be3ba81f014b8fc5b5ab414cefae2b54240761d2e3f041fd65efa9"), looks := true }, kinds := [], alts := [], laidByText := true, laidKinds := [.data, .data, .data, .data, .sentinel, .sentinel, .pinned], laidTests := true, laidLooks := .later }
def AsmRenumberedTextsRunAlikeCardSaid : Prop := Claim7.holds Tryz.pinned (.plain (OpenSpec.ofChange asmRenumberedTextsRunAlikeSpec)) asmRenumberedTextsRunAlikeCard

/-- THE SECOND FORM's CARD OF 'scriptoriumlaw7.AsmRenumberedTextsRunAlike'. -/
def asmRenumberedTextsRunAlikeUptoCard : Claim7 := { stood := { row := asmRenumberedTextsRunAlikeUptoRow, standIns := [], harness := (true, "fadbb33f69be3ba81f014b8fc5b5ab414cefae2b54240761d2e3f041fd65efa9"), looks := true }, kinds := [], alts := [], laidByText := true, laidKinds := [.data, .data, .data, .data, .sentinel, .sentinel, .pinned], laidTests := true, laidLooks := .later }
def AsmRenumberedTextsRunAlikeUptoCardSaid : Prop := Claim7.holds Tryz.pinned (.plain (OpenSpec.upto asmRenumberedTextsRunAlikeSpec)) asmRenumberedTextsRunAlikeUptoCard
end Rows
end Go.Proofs.YtjindleklapakaaGreatDoor
