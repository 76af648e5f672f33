/-
  DERIVED. GIVEN WITH THE SEED: THE CARDS: each row of YtapeaicongaggaaGreatDoorRows.lean that lists a variable, with what it lists TIED to the program's text (the seventh form; the later family's looks); each row that meets fmt, with fmt's text TOLD by the authors' own Lean function (tested against real Go, not proved from fmt's source: count such statements apart). THE CARD IS WHAT COUNTS. Prove the row's statement (the work); the ties are given (YtapeaicongaggaaGreatDoorTie.lean); close each card by the builder's one call (the guide's Derived/Test/ToyasCard.lean, 'card_holds'). Laid BY PROGRAM, IN A SANDBOX (cutbox-door.mjs). By AI agents, Wed Nov 11 2026. No macro, syntax, notation, axiom, sorry.
-/
import Derived.Test.YtapeaicongaggaaGreatDoorRows
import GoSem.ClaimSeven
namespace Go.Proofs.YtapeaicongaggaaGreatDoor
namespace Rows

/-- THE TIED CARD OF 'scriptoriumlaw7.CheckOperateIsMeant'. -/
def checkOperateIsMeantCard : Claim7 := { stood := { row := checkOperateIsMeantRow, standIns := [], harness := (true, "5eb6c8e723aadda14d9429f9f82df7a9bba9f560d4b540b4c0efc736b6060a6d"), looks := true }, kinds := [], alts := [], laidByText := true, laidKinds := [.data, .data, .data, .data, .sentinel, .sentinel, .listed, .data, .pinned], laidTests := true, laidLooks := .later }
def CheckOperateIsMeantCardSaid : Prop := Claim7.holds Tryz.pinned (.plain (OpenSpec.ofChange checkOperateIsMeantSpec)) checkOperateIsMeantCard

/-- THE TIED CARD OF 'scriptoriumlaw7.CompileSimplifiedProgramsAgree'. -/
def compileSimplifiedProgramsAgreeCard : Claim7 := { stood := { row := compileSimplifiedProgramsAgreeRow, standIns := [], harness := (true, "5eb6c8e723aadda14d9429f9f82df7a9bba9f560d4b540b4c0efc736b6060a6d"), looks := true }, kinds := [], alts := [], laidByText := true, laidKinds := [.data, .data, .data, .data, .sentinel, .sentinel, .listed, .data, .pinned], laidTests := true, laidLooks := .later }
def CompileSimplifiedProgramsAgreeCardSaid : Prop := Claim7.holds Tryz.pinned (.plain (OpenSpec.ofChange compileSimplifiedProgramsAgreeSpec)) compileSimplifiedProgramsAgreeCard

/-- THE SECOND FORM's CARD OF 'scriptoriumlaw7.CheckOperateIsMeant'. -/
def checkOperateIsMeantUptoCard : Claim7 := { stood := { row := checkOperateIsMeantUptoRow, standIns := [], harness := (true, "5eb6c8e723aadda14d9429f9f82df7a9bba9f560d4b540b4c0efc736b6060a6d"), looks := true }, kinds := [], alts := [], laidByText := true, laidKinds := [.data, .data, .data, .data, .sentinel, .sentinel, .listed, .data, .pinned], laidTests := true, laidLooks := .later }
def CheckOperateIsMeantUptoCardSaid : Prop := Claim7.holds Tryz.pinned (.plain (OpenSpec.upto checkOperateIsMeantSpec)) checkOperateIsMeantUptoCard

/-- THE SECOND FORM's CARD OF 'scriptoriumlaw7.CompileSimplifiedProgramsAgree'. -/
def compileSimplifiedProgramsAgreeUptoCard : Claim7 := { stood := { row := compileSimplifiedProgramsAgreeUptoRow, standIns := [], harness := (true, "5eb6c8e723aadda14d9429f9f82df7a9bba9f560d4b540b4c0efc736b6060a6d"), looks := true }, kinds := [], alts := [], laidByText := true, laidKinds := [.data, .data, .data, .data, .sentinel, .sentinel, .listed, .data, .pinned], laidTests := true, laidLooks := .later }
def CompileSimplifiedProgramsAgreeUptoCardSaid : Prop := Claim7.holds Tryz.pinned (.plain (OpenSpec.upto compileSimplifiedProgramsAgreeSpec)) compileSimplifiedProgramsAgreeUptoCard
end Rows
end Go.Proofs.YtapeaicongaggaaGreatDoor
