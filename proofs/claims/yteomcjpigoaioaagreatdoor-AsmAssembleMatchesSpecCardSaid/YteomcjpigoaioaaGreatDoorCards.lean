/-
  DERIVED. GIVEN WITH THE SEED: THE CARDS: each row of YteomcjpigoaioaaGreatDoorRows.lean that lists a variable, with what it lists TIED to the program's text (the seventh form; the later family's looks); each row that meets fmt, with fmt's text TOLD by the authors' own Lean function (tested against real Go, not proved from fmt's source: count such statements apart). THE CARD IS WHAT COUNTS. Prove the row's statement (the work); the ties are given (YteomcjpigoaioaaGreatDoorTie.lean); close each card by the builder's one call (the guide's Derived/Test/ToyasCard.lean, 'card_holds'). Laid BY PROGRAM, IN A SANDBOX (cutbox-door.mjs). By AI agents, Wed Nov 11 2026. No macro, syntax, notation, axiom, sorry.
-/
import Derived.Test.YteomcjpigoaioaaGreatDoorRows
import GoSem.ClaimSeven
namespace Go.Proofs.YteomcjpigoaioaaGreatDoor
namespace Rows

/-- THE TIED CARD OF 'scriptoriumlaw7.AsmAssembleMatchesSpec'. -/
def asmAssembleMatchesSpecCard : Claim7 := { stood := { row := asmAssembleMatchesSpecRow, standIns := [], harness := (true, "93d4c0311b015a7379df6a17f90400127606bcdeff5e9e5153a14bbdbec54546"), looks := true }, kinds := [], alts := [], laidByText := true, laidKinds := [.data, .data, .data, .data, .sentinel, .sentinel, .pinned], laidTests := true, laidLooks := .later }
def AsmAssembleMatchesSpecCardSaid : Prop := Claim7.holds Tryz.pinned (.plain (OpenSpec.ofChange asmAssembleMatchesSpecSpec)) asmAssembleMatchesSpecCard

/-- THE TIED CARD OF 'scriptoriumlaw7.AsmListMatchesSpec'. -/
def asmListMatchesSpecCard : Claim7 := { stood := { row := asmListMatchesSpecRow, standIns := [], harness := (true, "93d4c0311b015a7379df6a17f90400127606bcdeff5e9e5153a14bbdbec54546"), looks := true }, kinds := [], alts := [], laidByText := true, laidKinds := [.data, .data, .data, .data, .sentinel, .sentinel, .pinned], laidTests := true, laidLooks := .later }
def AsmListMatchesSpecCardSaid : Prop := Claim7.holds Tryz.pinned (.plain (OpenSpec.ofChange asmListMatchesSpecSpec)) asmListMatchesSpecCard

/-- THE TIED CARD OF 'scriptoriumlaw7.AsmListIsAssembled'. -/
def asmListIsAssembledCard : Claim7 := { stood := { row := asmListIsAssembledRow, standIns := [], harness := (true, "93d4c0311b015a7379df6a17f90400127606bcdeff5e9e5153a14bbdbec54546"), looks := true }, kinds := [], alts := [], laidByText := true, laidKinds := [.data, .data, .data, .data, .sentinel, .sentinel, .pinned], laidTests := true, laidLooks := .later }
def AsmListIsAssembledCardSaid : Prop := Claim7.holds Tryz.pinned (.plain (OpenSpec.ofChange asmListIsAssembledSpec)) asmListIsAssembledCard

/-- THE TIED CARD OF 'scriptoriumlaw7.AsmCommentsDoNotMatter'. -/
def asmCommentsDoNotMatterCard : Claim7 := { stood := { row := asmCommentsDoNotMatterRow, standIns := [], harness := (true, "93d4c0311b015a7379df6a17f90400127606bcdeff5e9e5153a14bbdbec54546"), looks := true }, kinds := [], alts := [], laidByText := true, laidKinds := [.data, .data, .data, .data, .sentinel, .sentinel, .pinned], laidTests := true, laidLooks := .later }
def AsmCommentsDoNotMatterCardSaid : Prop := Claim7.holds Tryz.pinned (.plain (OpenSpec.ofChange asmCommentsDoNotMatterSpec)) asmCommentsDoNotMatterCard

/-- THE TIED CARD OF 'scriptoriumlaw7.AsmKeysMatchSpec'. -/
def asmKeysMatchSpecCard : Claim7 := { stood := { row := asmKeysMatchSpecRow, standIns := [], harness := (true, "93d4c0311b015a7379df6a17f90400127606bcdeff5e9e5153a14bbdbec54546"), looks := true }, kinds := [], alts := [], laidByText := true, laidKinds := [.data, .data, .data, .data, .sentinel, .sentinel, .pinned], laidTests := true, laidLooks := .later }
def AsmKeysMatchSpecCardSaid : Prop := Claim7.holds Tryz.pinned (.plain (OpenSpec.ofChange asmKeysMatchSpecSpec)) asmKeysMatchSpecCard

/-- THE TIED CARD OF 'scriptoriumlaw7.AsmPackMatchesSpec'. -/
def asmPackMatchesSpecCard : Claim7 := { stood := { row := asmPackMatchesSpecRow, standIns := [], harness := (true, "93d4c0311b015a7379df6a17f90400127606bcdeff5e9e5153a14bbdbec54546"), looks := true }, kinds := [], alts := [], laidByText := true, laidKinds := [.data, .data, .data, .data, .sentinel, .sentinel, .pinned], laidTests := true, laidLooks := .later }
def AsmPackMatchesSpecCardSaid : Prop := Claim7.holds Tryz.pinned (.plain (OpenSpec.ofChange asmPackMatchesSpecSpec)) asmPackMatchesSpecCard

/-- THE TIED CARD OF 'scriptoriumlaw7.AsmPackIsInverse'. -/
def asmPackIsInverseCard : Claim7 := { stood := { row := asmPackIsInverseRow, standIns := [], harness := (true, "93d4c0311b015a7379df6a17f90400127606bcdeff5e9e5153a14bbdbec54546"), looks := true }, kinds := [], alts := [], laidByText := true, laidKinds := [.data, .data, .data, .data, .sentinel, .sentinel, .pinned], laidTests := true, laidLooks := .later }
def AsmPackIsInverseCardSaid : Prop := Claim7.holds Tryz.pinned (.plain (OpenSpec.ofChange asmPackIsInverseSpec)) asmPackIsInverseCard

/-- THE TIED CARD OF 'scriptoriumlaw7.AsmRenumberedTextsRunAlike'. -/
def asmRenumberedTextsRunAlikeCard : Claim7 := { stood := { row := asmRenumberedTextsRunAlikeRow, standIns := [], harness := (true, "93d4c0311b015a7379df6a17f90400127606bcdeff5e9e5153a14bbdbec54546"), looks := true }, kinds := [], alts := [], laidByText := true, laidKinds := [.data, .data, .data, .data, .sentinel, .sentinel, .pinned], laidTests := true, laidLooks := .later }
def AsmRenumberedTextsRunAlikeCardSaid : Prop := Claim7.holds Tryz.pinned (.plain (OpenSpec.ofChange asmRenumberedTextsRunAlikeSpec)) asmRenumberedTextsRunAlikeCard

/-- THE SECOND FORM's CARD OF 'scriptoriumlaw7.AsmAssembleMatchesSpec'. -/
def asmAssembleMatchesSpecUptoCard : Claim7 := { stood := { row := asmAssembleMatchesSpecUptoRow, standIns := [], harness := (true, "93d4c0311b015a7379df6a17f90400127606bcdeff5e9e5153a14bbdbec54546"), looks := true }, kinds := [], alts := [], laidByText := true, laidKinds := [.data, .data, .data, .data, .sentinel, .sentinel, .pinned], laidTests := true, laidLooks := .later }
def AsmAssembleMatchesSpecUptoCardSaid : Prop := Claim7.holds Tryz.pinned (.plain (OpenSpec.upto asmAssembleMatchesSpecSpec)) asmAssembleMatchesSpecUptoCard

/-- THE SECOND FORM's CARD OF 'scriptoriumlaw7.AsmListMatchesSpec'. -/
def asmListMatchesSpecUptoCard : Claim7 := { stood := { row := asmListMatchesSpecUptoRow, standIns := [], harness := (true, "93d4c0311b015a7379df6a17f90400127606bcdeff5e9e5153a14bbdbec54546"), looks := true }, kinds := [], alts := [], laidByText := true, laidKinds := [.data, .data, .data, .data, .sentinel, .sentinel, .pinned], laidTests := true, laidLooks := .later }
def AsmListMatchesSpecUptoCardSaid : Prop := Claim7.holds Tryz.pinned (.plain (OpenSpec.upto asmListMatchesSpecSpec)) asmListMatchesSpecUptoCard

/-- THE SECOND FORM's CARD OF 'scriptoriumlaw7.AsmListIsAssembled'. -/
def asmListIsAssembledUptoCard : Claim7 := { stood := { row := asmListIsAssembledUptoRow, standIns := [], harness := (true, "93d4c0311b015a7379df6a17f90400127606bcdeff5e9e5153a14bbdbec54546"), looks := true }, kinds := [], alts := [], laidByText := true, laidKinds := [.data, .data, .data, .data, .sentinel, .sentinel, .pinned], laidTests := true, laidLooks := .later }
def AsmListIsAssembledUptoCardSaid : Prop := Claim7.holds Tryz.pinned (.plain (OpenSpec.upto asmListIsAssembledSpec)) asmListIsAssembledUptoCard

/-- THE SECOND FORM's CARD OF 'scriptoriumlaw7.AsmCommentsDoNotMatter'. -/
def asmCommentsDoNotMatterUptoCard : Claim7 := { stood := { row := asmCommentsDoNotMatterUptoRow, standIns := [], harness := (true, "93d4c0311b015a7379df6a17f90400127606bcdeff5e9e5153a14bbdbec54546"), looks := true }, kinds := [], alts := [], laidByText := true, laidKinds := [.data, .data, .data, .data, .sentinel, .sentinel, .pinned], laidTests := true, laidLooks := .later }
def AsmCommentsDoNotMatterUptoCardSaid : Prop := Claim7.holds Tryz.pinned (.plain (OpenSpec.upto asmCommentsDoNotMatterSpec)) asmCommentsDoNotMatterUptoCard

/-- THE SECOND FORM's CARD OF 'scriptoriumlaw7.AsmKeysMatchSpec'. -/
def asmKeysMatchSpecUptoCard : Claim7 := { stood := { row := asmKeysMatchSpecUptoRow, standIns := [], harness := (true, "93d4c0311b015a7379df6a17f90400127606bcdeff5e9e5153a14bbdbec54546"), looks := true }, kinds := [], alts := [], laidByText := true, laidKinds := [.data, .data, .data, .data, .sentinel, .sentinel, .pinned], laidTests := true, laidLooks := .later }
def AsmKeysMatchSpecUptoCardSaid : Prop := Claim7.holds Tryz.pinned (.plain (OpenSpec.upto asmKeysMatchSpecSpec)) asmKeysMatchSpecUptoCard

/-- THE SECOND FORM's CARD OF 'scriptoriumlaw7.AsmPackMatchesSpec'. -/
def asmPackMatchesSpecUptoCard : Claim7 := { stood := { row := asmPackMatchesSpecUptoRow, standIns := [], harness := (true, "93d4c0311b015a7379df6a17f90400127606bcdeff5e9e5153a14bbdbec54546"), looks := true }, kinds := [], alts := [], laidByText := true, laidKinds := [.data, .data, .data, .data, .sentinel, .sentinel, .pinned], laidTests := true, laidLooks := .later }
def AsmPackMatchesSpecUptoCardSaid : Prop := Claim7.holds Tryz.pinned (.plain (OpenSpec.upto asmPackMatchesSpecSpec)) asmPackMatchesSpecUptoCard

/-- THE SECOND FORM's CARD OF 'scriptoriumlaw7.AsmPackIsInverse'. -/
def asmPackIsInverseUptoCard : Claim7 := { stood := { row := asmPackIsInverseUptoRow, standIns := [], harness := (true, "93d4c0311b015a7379df6a17f90400127606bcdeff5e9e5153a14bbdbec54546"), looks := true }, kinds := [], alts := [], laidByText := true, laidKinds := [.data, .data, .data, .data, .sentinel, .sentinel, .pinned], laidTests := true, laidLooks := .later }
def AsmPackIsInverseUptoCardSaid : Prop := Claim7.holds Tryz.pinned (.plain (OpenSpec.upto asmPackIsInverseSpec)) asmPackIsInverseUptoCard

/-- THE SECOND FORM's CARD OF 'scriptoriumlaw7.AsmRenumberedTextsRunAlike'. -/
def asmRenumberedTextsRunAlikeUptoCard : Claim7 := { stood := { row := asmRenumberedTextsRunAlikeUptoRow, standIns := [], harness := (true, "93d4c0311b015a7379df6a17f90400127606bcdeff5e9e5153a14bbdbec54546"), looks := true }, kinds := [], alts := [], laidByText := true, laidKinds := [.data, .data, .data, .data, .sentinel, .sentinel, .pinned], laidTests := true, laidLooks := .later }
def AsmRenumberedTextsRunAlikeUptoCardSaid : Prop := Claim7.holds Tryz.pinned (.plain (OpenSpec.upto asmRenumberedTextsRunAlikeSpec)) asmRenumberedTextsRunAlikeUptoCard
end Rows
end Go.Proofs.YteomcjpigoaioaaGreatDoor
