/-
  DERIVED. GIVEN WITH THE SEED: THE CARDS: each row of YtpdnijphccdiiaaGreatDoorRows.lean that lists a variable, with what it lists TIED to the program's text (the seventh form; the later family's looks); each row that meets fmt, with fmt's text TOLD by the authors' own Lean function (tested against real Go, not proved from fmt's source: count such statements apart). THE CARD IS WHAT COUNTS. Prove the row's statement (the work); the ties are given (YtpdnijphccdiiaaGreatDoorTie.lean); close each card by the builder's one call (the guide's Derived/Test/ToyasCard.lean, 'card_holds'). Laid BY PROGRAM, IN A SANDBOX (cutbox-door.mjs). By AI agents, Wed Nov 11 2026. No macro, syntax, notation, axiom, sorry.
-/
import Derived.Test.YtpdnijphccdiiaaGreatDoorRows
import GoSem.ClaimSeven
namespace Go.Proofs.YtpdnijphccdiiaaGreatDoor
namespace Rows

/-- THE TIED CARD OF 'scriptoriumlaw7.InterpRunMatchesSpec'. -/
def interpRunMatchesSpecCard : Claim7 := { stood := { row := interpRunMatchesSpecRow, standIns := [], harness := (true, "fe493a29d0094156992b9a900423763fa3923009ebeab75f3eb4f0c56f060dc8"), looks := true }, kinds := [], alts := [], laidByText := true, laidKinds := [.data, .data, .data, .listed, .data], laidTests := true, laidLooks := .later }
def InterpRunMatchesSpecCardSaid : Prop := Claim7.holds Tryz.pinned (.plain (OpenSpec.ofChange interpRunMatchesSpecSpec)) interpRunMatchesSpecCard

/-- THE TIED CARD OF 'scriptoriumlaw7.InterpMoreStepsGoOn'. -/
def interpMoreStepsGoOnCard : Claim7 := { stood := { row := interpMoreStepsGoOnRow, standIns := [], harness := (true, "fe493a29d0094156992b9a900423763fa3923009ebeab75f3eb4f0c56f060dc8"), looks := true }, kinds := [], alts := [], laidByText := true, laidKinds := [.data, .data, .data, .listed, .data], laidTests := true, laidLooks := .later }
def InterpMoreStepsGoOnCardSaid : Prop := Claim7.holds Tryz.pinned (.plain (OpenSpec.ofChange interpMoreStepsGoOnSpec)) interpMoreStepsGoOnCard

/-- THE TIED CARD OF 'scriptoriumlaw7.InterpTrimmedProgramsRunAlike'. -/
def interpTrimmedProgramsRunAlikeCard : Claim7 := { stood := { row := interpTrimmedProgramsRunAlikeRow, standIns := [], harness := (true, "fe493a29d0094156992b9a900423763fa3923009ebeab75f3eb4f0c56f060dc8"), looks := true }, kinds := [], alts := [], laidByText := true, laidKinds := [.data, .data, .data, .listed, .data], laidTests := true, laidLooks := .later }
def InterpTrimmedProgramsRunAlikeCardSaid : Prop := Claim7.holds Tryz.pinned (.plain (OpenSpec.ofChange interpTrimmedProgramsRunAlikeSpec)) interpTrimmedProgramsRunAlikeCard

/-- THE TIED CARD OF 'scriptoriumlaw7.InterpFoldedProgramsRunAlike'. -/
def interpFoldedProgramsRunAlikeCard : Claim7 := { stood := { row := interpFoldedProgramsRunAlikeRow, standIns := [], harness := (true, "fe493a29d0094156992b9a900423763fa3923009ebeab75f3eb4f0c56f060dc8"), looks := true }, kinds := [], alts := [], laidByText := true, laidKinds := [.data, .data, .data, .listed, .data], laidTests := true, laidLooks := .later }
def InterpFoldedProgramsRunAlikeCardSaid : Prop := Claim7.holds Tryz.pinned (.plain (OpenSpec.ofChange interpFoldedProgramsRunAlikeSpec)) interpFoldedProgramsRunAlikeCard

/-- THE SECOND FORM's CARD OF 'scriptoriumlaw7.InterpRunMatchesSpec'. -/
def interpRunMatchesSpecUptoCard : Claim7 := { stood := { row := interpRunMatchesSpecUptoRow, standIns := [], harness := (true, "fe493a29d0094156992b9a900423763fa3923009ebeab75f3eb4f0c56f060dc8"), looks := true }, kinds := [], alts := [], laidByText := true, laidKinds := [.data, .data, .data, .listed, .data], laidTests := true, laidLooks := .later }
def InterpRunMatchesSpecUptoCardSaid : Prop := Claim7.holds Tryz.pinned (.plain (OpenSpec.upto interpRunMatchesSpecSpec)) interpRunMatchesSpecUptoCard

/-- THE SECOND FORM's CARD OF 'scriptoriumlaw7.InterpMoreStepsGoOn'. -/
def interpMoreStepsGoOnUptoCard : Claim7 := { stood := { row := interpMoreStepsGoOnUptoRow, standIns := [], harness := (true, "fe493a29d0094156992b9a900423763fa3923009ebeab75f3eb4f0c56f060dc8"), looks := true }, kinds := [], alts := [], laidByText := true, laidKinds := [.data, .data, .data, .listed, .data], laidTests := true, laidLooks := .later }
def InterpMoreStepsGoOnUptoCardSaid : Prop := Claim7.holds Tryz.pinned (.plain (OpenSpec.upto interpMoreStepsGoOnSpec)) interpMoreStepsGoOnUptoCard

/-- THE SECOND FORM's CARD OF 'scriptoriumlaw7.InterpTrimmedProgramsRunAlike'. -/
def interpTrimmedProgramsRunAlikeUptoCard : Claim7 := { stood := { row := interpTrimmedProgramsRunAlikeUptoRow, standIns := [], harness := (true, "fe493a29d0094156992b9a900423763fa3923009ebeab75f3eb4f0c56f060dc8"), looks := true }, kinds := [], alts := [], laidByText := true, laidKinds := [.data, .data, .data, .listed, .data], laidTests := true, laidLooks := .later }
def InterpTrimmedProgramsRunAlikeUptoCardSaid : Prop := Claim7.holds Tryz.pinned (.plain (OpenSpec.upto interpTrimmedProgramsRunAlikeSpec)) interpTrimmedProgramsRunAlikeUptoCard

/-- THE SECOND FORM's CARD OF 'scriptoriumlaw7.InterpFoldedProgramsRunAlike'. -/
def interpFoldedProgramsRunAlikeUptoCard : Claim7 := { stood := { row := interpFoldedProgramsRunAlikeUptoRow, standIns := [], harness := (true, "fe493a29d0094156992b9a900423763fa3923009ebeab75f3eb4f0c56f060dc8"), looks := true }, kinds := [], alts := [], laidByText := true, laidKinds := [.data, .data, .data, .listed, .data], laidTests := true, laidLooks := .later }
def InterpFoldedProgramsRunAlikeUptoCardSaid : Prop := Claim7.holds Tryz.pinned (.plain (OpenSpec.upto interpFoldedProgramsRunAlikeSpec)) interpFoldedProgramsRunAlikeUptoCard
end Rows
end Go.Proofs.YtpdnijphccdiiaaGreatDoor
