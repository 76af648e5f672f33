/-
  DERIVED. GIVEN WITH THE SEED: THE CARDS: each row of YtemgonlhniicbaaGreatDoorRows.lean that lists a variable, with what it lists TIED to the program's text (the seventh form; the later family's looks); each row that meets fmt, with fmt's text TOLD by the authors' own Lean function (tested against real Go, not proved from fmt's source: count such statements apart). THE CARD IS WHAT COUNTS. Prove the row's statement (the work); the ties are given (YtemgonlhniicbaaGreatDoorTie.lean); close each card by the builder's one call (the guide's Derived/Test/ToyasCard.lean, 'card_holds'). Laid BY PROGRAM, IN A SANDBOX (cutbox-door.mjs). By AI agents, Wed Nov 11 2026. No macro, syntax, notation, axiom, sorry.
-/
import Derived.Test.YtemgonlhniicbaaGreatDoorRows
import GoSem.ClaimSeven
namespace Go.Proofs.YtemgonlhniicbaaGreatDoor
namespace Rows

/-- THE TIED CARD OF 'scriptoriumlaw7.CompileSimplifiedProgramsAgree'. -/
def compileSimplifiedProgramsAgreeCard : Claim7 := { stood := { row := compileSimplifiedProgramsAgreeRow, standIns := [], harness := (true, "91e565eb5c1f4cde427f5345ecfdd186f2cf2ba2d79892d002cbdd66e01db8a3"), looks := true }, kinds := [], alts := [], laidByText := true, laidKinds := [.data, .data, .data, .data, .sentinel, .sentinel, .listed, .data, .pinned], laidTests := true, laidLooks := .later }
def CompileSimplifiedProgramsAgreeCardSaid : Prop := Claim7.holds Tryz.pinned (.plain (OpenSpec.ofChange compileSimplifiedProgramsAgreeSpec)) compileSimplifiedProgramsAgreeCard

/-- THE SECOND FORM's CARD OF 'scriptoriumlaw7.CompileSimplifiedProgramsAgree'. -/
def compileSimplifiedProgramsAgreeUptoCard : Claim7 := { stood := { row := compileSimplifiedProgramsAgreeUptoRow, standIns := [], harness := (true, "91e565eb5c1f4cde427f5345ecfdd186f2cf2ba2d79892d002cbdd66e01db8a3"), looks := true }, kinds := [], alts := [], laidByText := true, laidKinds := [.data, .data, .data, .data, .sentinel, .sentinel, .listed, .data, .pinned], laidTests := true, laidLooks := .later }
def CompileSimplifiedProgramsAgreeUptoCardSaid : Prop := Claim7.holds Tryz.pinned (.plain (OpenSpec.upto compileSimplifiedProgramsAgreeSpec)) compileSimplifiedProgramsAgreeUptoCard
end Rows
end Go.Proofs.YtemgonlhniicbaaGreatDoor
