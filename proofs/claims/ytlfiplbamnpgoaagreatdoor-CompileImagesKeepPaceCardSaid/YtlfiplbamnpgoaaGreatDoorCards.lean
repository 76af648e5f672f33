/-
  DERIVED. GIVEN WITH THE SEED: THE CARDS: each row of YtlfiplbamnpgoaaGreatDoorRows.lean that lists a variable, with what it lists TIED to the program's text (the seventh form; the later family's looks); each row that meets fmt, with fmt's text TOLD by the authors' own Lean function (tested against real Go, not proved from fmt's source: count such statements apart). THE CARD IS WHAT COUNTS. Prove the row's statement (the work); the ties are given (YtlfiplbamnpgoaaGreatDoorTie.lean); close each card by the builder's one call (the guide's Derived/Test/ToyasCard.lean, 'card_holds'). Laid BY PROGRAM, IN A SANDBOX (cutbox-door.mjs). By AI agents, Wed Nov 11 2026. No macro, syntax, notation, axiom, sorry.
-/
import Derived.Test.YtlfiplbamnpgoaaGreatDoorRows
import GoSem.ClaimSeven
namespace Go.Proofs.YtlfiplbamnpgoaaGreatDoor
namespace Rows

/-- THE TIED CARD OF 'scriptoriumlaw7.CompileImagesDoWhatIsMeant'. -/
def compileImagesDoWhatIsMeantCard : Claim7 := { stood := { row := compileImagesDoWhatIsMeantRow, standIns := [], harness := (true, "920133ee0d40b5e4e0f3fb5c865ce4549614be826f4fcc82f305b0c847cd15d0"), looks := true }, kinds := [], alts := [], laidByText := true, laidKinds := [.data, .data, .data, .data, .sentinel, .sentinel, .listed, .data, .pinned], laidTests := true, laidLooks := .later }
def CompileImagesDoWhatIsMeantCardSaid : Prop := Claim7.holds Tryz.pinned (.plain (OpenSpec.ofChange compileImagesDoWhatIsMeantSpec)) compileImagesDoWhatIsMeantCard

/-- THE TIED CARD OF 'scriptoriumlaw7.CompileImagesKeepPace'. -/
def compileImagesKeepPaceCard : Claim7 := { stood := { row := compileImagesKeepPaceRow, standIns := [], harness := (true, "920133ee0d40b5e4e0f3fb5c865ce4549614be826f4fcc82f305b0c847cd15d0"), looks := true }, kinds := [], alts := [], laidByText := true, laidKinds := [.data, .data, .data, .data, .sentinel, .sentinel, .listed, .data, .pinned], laidTests := true, laidLooks := .later }
def CompileImagesKeepPaceCardSaid : Prop := Claim7.holds Tryz.pinned (.plain (OpenSpec.ofChange compileImagesKeepPaceSpec)) compileImagesKeepPaceCard

/-- THE SECOND FORM's CARD OF 'scriptoriumlaw7.CompileImagesDoWhatIsMeant'. -/
def compileImagesDoWhatIsMeantUptoCard : Claim7 := { stood := { row := compileImagesDoWhatIsMeantUptoRow, standIns := [], harness := (true, "920133ee0d40b5e4e0f3fb5c865ce4549614be826f4fcc82f305b0c847cd15d0"), looks := true }, kinds := [], alts := [], laidByText := true, laidKinds := [.data, .data, .data, .data, .sentinel, .sentinel, .listed, .data, .pinned], laidTests := true, laidLooks := .later }
def CompileImagesDoWhatIsMeantUptoCardSaid : Prop := Claim7.holds Tryz.pinned (.plain (OpenSpec.upto compileImagesDoWhatIsMeantSpec)) compileImagesDoWhatIsMeantUptoCard

/-- THE SECOND FORM's CARD OF 'scriptoriumlaw7.CompileImagesKeepPace'. -/
def compileImagesKeepPaceUptoCard : Claim7 := { stood := { row := compileImagesKeepPaceUptoRow, standIns := [], harness := (true, "920133ee0d40b5e4e0f3fb5c865ce4549614be826f4fcc82f305b0c847cd15d0"), looks := true }, kinds := [], alts := [], laidByText := true, laidKinds := [.data, .data, .data, .data, .sentinel, .sentinel, .listed, .data, .pinned], laidTests := true, laidLooks := .later }
def CompileImagesKeepPaceUptoCardSaid : Prop := Claim7.holds Tryz.pinned (.plain (OpenSpec.upto compileImagesKeepPaceSpec)) compileImagesKeepPaceUptoCard
end Rows
end Go.Proofs.YtlfiplbamnpgoaaGreatDoor
