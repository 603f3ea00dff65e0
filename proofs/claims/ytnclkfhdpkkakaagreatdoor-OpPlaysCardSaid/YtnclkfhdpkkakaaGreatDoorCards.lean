/-
  DERIVED. GIVEN WITH THE SEED: THE CARDS: each row of YtnclkfhdpkkakaaGreatDoorRows.lean that lists a variable, with what it lists TIED to the program's text (the seventh form; the later family's looks); each row that meets fmt, with fmt's text TOLD by the authors' own Lean function (tested against real Go, not proved from fmt's source: count such statements apart). THE CARD IS WHAT COUNTS. Prove the row's statement (the work); the ties are given (YtnclkfhdpkkakaaGreatDoorTie.lean); close each card by the builder's one call (the guide's Derived/Test/ToyasCard.lean, 'card_holds'). Laid BY PROGRAM, IN A SANDBOX (cutbox-door.mjs). By AI agents, Wed Nov 11 2026. No macro, syntax, notation, axiom, sorry.
-/
import Derived.Test.YtnclkfhdpkkakaaGreatDoorRows
import GoSem.ClaimSeven
namespace Go.Proofs.YtnclkfhdpkkakaaGreatDoor
namespace Rows

/-- THE TIED CARD OF 'outriderlaw05.OpFits'. -/
def opFitsCard : Claim7 := { stood := { row := opFitsRow, standIns := [], harness := (true, "5e11fd36bc67ed5151fe7644e5545b006d57675f055209af3be9fc2d740cb124"), looks := true }, kinds := [], alts := [], laidByText := true, laidKinds := [.data, .data, .data, .data, .pinned], laidTests := true, laidLooks := .later }
def OpFitsCardSaid : Prop := Claim7.holds Tryz.pinned (.plain (OpenSpec.ofChange opFitsSpec)) opFitsCard

/-- THE TIED CARD OF 'outriderlaw05.OpMulti'. -/
def opMultiCard : Claim7 := { stood := { row := opMultiRow, standIns := [], harness := (true, "5e11fd36bc67ed5151fe7644e5545b006d57675f055209af3be9fc2d740cb124"), looks := true }, kinds := [], alts := [], laidByText := true, laidKinds := [.data, .data, .data, .data, .pinned], laidTests := true, laidLooks := .later }
def OpMultiCardSaid : Prop := Claim7.holds Tryz.pinned (.plain (OpenSpec.ofChange opMultiSpec)) opMultiCard

/-- THE TIED CARD OF 'outriderlaw05.OpNumbers'. -/
def opNumbersCard : Claim7 := { stood := { row := opNumbersRow, standIns := [], harness := (true, "5e11fd36bc67ed5151fe7644e5545b006d57675f055209af3be9fc2d740cb124"), looks := true }, kinds := [], alts := [], laidByText := true, laidKinds := [.data, .data, .data, .data, .pinned], laidTests := true, laidLooks := .later }
def OpNumbersCardSaid : Prop := Claim7.holds Tryz.pinned (.plain (OpenSpec.ofChange opNumbersSpec)) opNumbersCard

/-- THE TIED CARD OF 'outriderlaw05.OpVersions'. -/
def opVersionsCard : Claim7 := { stood := { row := opVersionsRow, standIns := [], harness := (true, "5e11fd36bc67ed5151fe7644e5545b006d57675f055209af3be9fc2d740cb124"), looks := true }, kinds := [], alts := [], laidByText := true, laidKinds := [.data, .data, .data, .data, .pinned], laidTests := true, laidLooks := .later }
def OpVersionsCardSaid : Prop := Claim7.holds Tryz.pinned (.plain (OpenSpec.ofChange opVersionsSpec)) opVersionsCard

/-- THE TIED CARD OF 'outriderlaw05.OpKnown'. -/
def opKnownCard : Claim7 := { stood := { row := opKnownRow, standIns := [], harness := (true, "5e11fd36bc67ed5151fe7644e5545b006d57675f055209af3be9fc2d740cb124"), looks := true }, kinds := [], alts := [], laidByText := true, laidKinds := [.data, .data, .data, .data, .pinned], laidTests := true, laidLooks := .later }
def OpKnownCardSaid : Prop := Claim7.holds Tryz.pinned (.plain (OpenSpec.ofChange opKnownSpec)) opKnownCard

/-- THE TIED CARD OF 'outriderlaw05.OpReads'. -/
def opReadsCard : Claim7 := { stood := { row := opReadsRow, standIns := [], harness := (true, "5e11fd36bc67ed5151fe7644e5545b006d57675f055209af3be9fc2d740cb124"), looks := true }, kinds := [], alts := [], laidByText := true, laidKinds := [.data, .data, .data, .data, .pinned], laidTests := true, laidLooks := .later }
def OpReadsCardSaid : Prop := Claim7.holds Tryz.pinned (.plain (OpenSpec.ofChange opReadsSpec)) opReadsCard

/-- THE TIED CARD OF 'outriderlaw05.OpEphemeral'. -/
def opEphemeralCard : Claim7 := { stood := { row := opEphemeralRow, standIns := [], harness := (true, "5e11fd36bc67ed5151fe7644e5545b006d57675f055209af3be9fc2d740cb124"), looks := true }, kinds := [], alts := [], laidByText := true, laidKinds := [.data, .data, .data, .data, .pinned], laidTests := true, laidLooks := .later }
def OpEphemeralCardSaid : Prop := Claim7.holds Tryz.pinned (.plain (OpenSpec.ofChange opEphemeralSpec)) opEphemeralCard

/-- THE TIED CARD OF 'outriderlaw05.OpNested'. -/
def opNestedCard : Claim7 := { stood := { row := opNestedRow, standIns := [], harness := (true, "5e11fd36bc67ed5151fe7644e5545b006d57675f055209af3be9fc2d740cb124"), looks := true }, kinds := [], alts := [], laidByText := true, laidKinds := [.data, .data, .data, .data, .pinned], laidTests := true, laidLooks := .later }
def OpNestedCardSaid : Prop := Claim7.holds Tryz.pinned (.plain (OpenSpec.ofChange opNestedSpec)) opNestedCard

/-- THE TIED CARD OF 'outriderlaw05.OpPlays'. -/
def opPlaysCard : Claim7 := { stood := { row := opPlaysRow, standIns := [], harness := (true, "5e11fd36bc67ed5151fe7644e5545b006d57675f055209af3be9fc2d740cb124"), looks := true }, kinds := [], alts := [], laidByText := true, laidKinds := [.data, .data, .data, .data, .pinned], laidTests := true, laidLooks := .later }
def OpPlaysCardSaid : Prop := Claim7.holds Tryz.pinned (.plain (OpenSpec.ofChange opPlaysSpec)) opPlaysCard

/-- THE SECOND FORM's CARD OF 'outriderlaw05.OpFits'. -/
def opFitsUptoCard : Claim7 := { stood := { row := opFitsUptoRow, standIns := [], harness := (true, "5e11fd36bc67ed5151fe7644e5545b006d57675f055209af3be9fc2d740cb124"), looks := true }, kinds := [], alts := [], laidByText := true, laidKinds := [.data, .data, .data, .data, .pinned], laidTests := true, laidLooks := .later }
def OpFitsUptoCardSaid : Prop := Claim7.holds Tryz.pinned (.plain (OpenSpec.upto opFitsSpec)) opFitsUptoCard

/-- THE SECOND FORM's CARD OF 'outriderlaw05.OpMulti'. -/
def opMultiUptoCard : Claim7 := { stood := { row := opMultiUptoRow, standIns := [], harness := (true, "5e11fd36bc67ed5151fe7644e5545b006d57675f055209af3be9fc2d740cb124"), looks := true }, kinds := [], alts := [], laidByText := true, laidKinds := [.data, .data, .data, .data, .pinned], laidTests := true, laidLooks := .later }
def OpMultiUptoCardSaid : Prop := Claim7.holds Tryz.pinned (.plain (OpenSpec.upto opMultiSpec)) opMultiUptoCard

/-- THE SECOND FORM's CARD OF 'outriderlaw05.OpNumbers'. -/
def opNumbersUptoCard : Claim7 := { stood := { row := opNumbersUptoRow, standIns := [], harness := (true, "5e11fd36bc67ed5151fe7644e5545b006d57675f055209af3be9fc2d740cb124"), looks := true }, kinds := [], alts := [], laidByText := true, laidKinds := [.data, .data, .data, .data, .pinned], laidTests := true, laidLooks := .later }
def OpNumbersUptoCardSaid : Prop := Claim7.holds Tryz.pinned (.plain (OpenSpec.upto opNumbersSpec)) opNumbersUptoCard

/-- THE SECOND FORM's CARD OF 'outriderlaw05.OpVersions'. -/
def opVersionsUptoCard : Claim7 := { stood := { row := opVersionsUptoRow, standIns := [], harness := (true, "5e11fd36bc67ed5151fe7644e5545b006d57675f055209af3be9fc2d740cb124"), looks := true }, kinds := [], alts := [], laidByText := true, laidKinds := [.data, .data, .data, .data, .pinned], laidTests := true, laidLooks := .later }
def OpVersionsUptoCardSaid : Prop := Claim7.holds Tryz.pinned (.plain (OpenSpec.upto opVersionsSpec)) opVersionsUptoCard

/-- THE SECOND FORM's CARD OF 'outriderlaw05.OpKnown'. -/
def opKnownUptoCard : Claim7 := { stood := { row := opKnownUptoRow, standIns := [], harness := (true, "5e11fd36bc67ed5151fe7644e5545b006d57675f055209af3be9fc2d740cb124"), looks := true }, kinds := [], alts := [], laidByText := true, laidKinds := [.data, .data, .data, .data, .pinned], laidTests := true, laidLooks := .later }
def OpKnownUptoCardSaid : Prop := Claim7.holds Tryz.pinned (.plain (OpenSpec.upto opKnownSpec)) opKnownUptoCard

/-- THE SECOND FORM's CARD OF 'outriderlaw05.OpReads'. -/
def opReadsUptoCard : Claim7 := { stood := { row := opReadsUptoRow, standIns := [], harness := (true, "5e11fd36bc67ed5151fe7644e5545b006d57675f055209af3be9fc2d740cb124"), looks := true }, kinds := [], alts := [], laidByText := true, laidKinds := [.data, .data, .data, .data, .pinned], laidTests := true, laidLooks := .later }
def OpReadsUptoCardSaid : Prop := Claim7.holds Tryz.pinned (.plain (OpenSpec.upto opReadsSpec)) opReadsUptoCard

/-- THE SECOND FORM's CARD OF 'outriderlaw05.OpEphemeral'. -/
def opEphemeralUptoCard : Claim7 := { stood := { row := opEphemeralUptoRow, standIns := [], harness := (true, "5e11fd36bc67ed5151fe7644e5545b006d57675f055209af3be9fc2d740cb124"), looks := true }, kinds := [], alts := [], laidByText := true, laidKinds := [.data, .data, .data, .data, .pinned], laidTests := true, laidLooks := .later }
def OpEphemeralUptoCardSaid : Prop := Claim7.holds Tryz.pinned (.plain (OpenSpec.upto opEphemeralSpec)) opEphemeralUptoCard

/-- THE SECOND FORM's CARD OF 'outriderlaw05.OpNested'. -/
def opNestedUptoCard : Claim7 := { stood := { row := opNestedUptoRow, standIns := [], harness := (true, "5e11fd36bc67ed5151fe7644e5545b006d57675f055209af3be9fc2d740cb124"), looks := true }, kinds := [], alts := [], laidByText := true, laidKinds := [.data, .data, .data, .data, .pinned], laidTests := true, laidLooks := .later }
def OpNestedUptoCardSaid : Prop := Claim7.holds Tryz.pinned (.plain (OpenSpec.upto opNestedSpec)) opNestedUptoCard

/-- THE SECOND FORM's CARD OF 'outriderlaw05.OpPlays'. -/
def opPlaysUptoCard : Claim7 := { stood := { row := opPlaysUptoRow, standIns := [], harness := (true, "5e11fd36bc67ed5151fe7644e5545b006d57675f055209af3be9fc2d740cb124"), looks := true }, kinds := [], alts := [], laidByText := true, laidKinds := [.data, .data, .data, .data, .pinned], laidTests := true, laidLooks := .later }
def OpPlaysUptoCardSaid : Prop := Claim7.holds Tryz.pinned (.plain (OpenSpec.upto opPlaysSpec)) opPlaysUptoCard
end Rows
end Go.Proofs.YtnclkfhdpkkakaaGreatDoor
