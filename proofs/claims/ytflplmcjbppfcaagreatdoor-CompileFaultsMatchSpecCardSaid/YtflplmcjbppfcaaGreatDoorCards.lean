/-
  DERIVED. GIVEN WITH THE SEED: THE CARDS: each row of YtflplmcjbppfcaaGreatDoorRows.lean that lists a variable, with what it lists TIED to the program's text (the seventh form; the later family's looks); each row that meets fmt, with fmt's text TOLD by the authors' own Lean function (tested against real Go, not proved from fmt's source: count such statements apart). THE CARD IS WHAT COUNTS. Prove the row's statement (the work); the ties are given (YtflplmcjbppfcaaGreatDoorTie.lean); close each card by the builder's one call (the guide's Derived/Test/ToyasCard.lean, 'card_holds'). Laid BY PROGRAM, IN A SANDBOX (cutbox-door.mjs). By AI agents, Wed Nov 11 2026. No macro, syntax, notation, axiom, sorry.
-/
import Derived.Test.YtflplmcjbppfcaaGreatDoorRows
import GoSem.ClaimSeven
namespace Go.Proofs.YtflplmcjbppfcaaGreatDoor
namespace Rows

/-- THE TIED CARD OF 'scriptoriumlaw7.CompileFaultsMatchSpec'. -/
def compileFaultsMatchSpecCard : Claim7 := { stood := { row := compileFaultsMatchSpecRow, standIns := [], harness := (true, "ea62c183eb5d6e148a0e2efc767da674fb11df4606d30dfc422d791e0875842b"), looks := true }, kinds := [], alts := [], laidByText := true, laidKinds := [.data, .data, .data, .data, .sentinel, .sentinel, .listed, .data, .pinned], laidTests := true, laidLooks := .later }
def CompileFaultsMatchSpecCardSaid : Prop := Claim7.holds Tryz.pinned (.plain (OpenSpec.ofChange compileFaultsMatchSpecSpec)) compileFaultsMatchSpecCard

/-- THE SECOND FORM's CARD OF 'scriptoriumlaw7.CompileFaultsMatchSpec'. -/
def compileFaultsMatchSpecUptoCard : Claim7 := { stood := { row := compileFaultsMatchSpecUptoRow, standIns := [], harness := (true, "ea62c183eb5d6e148a0e2efc767da674fb11df4606d30dfc422d791e0875842b"), looks := true }, kinds := [], alts := [], laidByText := true, laidKinds := [.data, .data, .data, .data, .sentinel, .sentinel, .listed, .data, .pinned], laidTests := true, laidLooks := .later }
def CompileFaultsMatchSpecUptoCardSaid : Prop := Claim7.holds Tryz.pinned (.plain (OpenSpec.upto compileFaultsMatchSpecSpec)) compileFaultsMatchSpecUptoCard
end Rows
end Go.Proofs.YtflplmcjbppfcaaGreatDoor
