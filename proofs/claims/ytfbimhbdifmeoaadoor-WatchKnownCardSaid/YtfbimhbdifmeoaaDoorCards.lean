/-
  DERIVED. GIVEN WITH THE SEED: THE CARDS: each row of YtfbimhbdifmeoaaDoorRows.lean that lists a variable, with what it lists TIED to the program's text (the seventh form; the later family's looks); each row that meets fmt, with fmt's text TOLD by the authors' own Lean function (tested against real Go, not proved from fmt's source: count such statements apart). THE CARD IS WHAT COUNTS. Prove the row's statement (the work); the ties are given (YtfbimhbdifmeoaaDoorTie.lean); close each card by the builder's one call (the guide's Derived/Test/ToyasCard.lean, 'card_holds'). Laid BY PROGRAM, IN A SANDBOX (cutbox-door.mjs). By AI agents, Wed Nov 11 2026. No macro, syntax, notation, axiom, sorry.
-/
import Derived.Test.YtfbimhbdifmeoaaDoorRows
import GoSem.ClaimSeven
namespace Go.Proofs.YtfbimhbdifmeoaaDoor
namespace Rows

/-- THE TIED CARD OF 'outriderlaw23.WatchPlays'. -/
def watchPlaysCard : Claim7 := { stood := { row := watchPlaysRow, standIns := [], harness := (true, "55c76d04c75c230efcd9648037dcd700c51e4b0ec1b813c69855469637aa95f5"), looks := false }, kinds := [], alts := [], laidByText := true, laidKinds := [.data, .pinned], laidTests := true, laidLooks := .later }
def WatchPlaysCardSaid : Prop := Claim7.holds Tryd.pinned (.plain (OpenSpec.ofChange watchPlaysSpec)) watchPlaysCard

/-- THE TIED CARD OF 'outriderlaw23.WatchOnce'. -/
def watchOnceCard : Claim7 := { stood := { row := watchOnceRow, standIns := [], harness := (true, "55c76d04c75c230efcd9648037dcd700c51e4b0ec1b813c69855469637aa95f5"), looks := false }, kinds := [], alts := [], laidByText := true, laidKinds := [.data, .pinned], laidTests := true, laidLooks := .later }
def WatchOnceCardSaid : Prop := Claim7.holds Tryd.pinned (.plain (OpenSpec.ofChange watchOnceSpec)) watchOnceCard

/-- THE TIED CARD OF 'outriderlaw23.WatchOrder'. -/
def watchOrderCard : Claim7 := { stood := { row := watchOrderRow, standIns := [], harness := (true, "55c76d04c75c230efcd9648037dcd700c51e4b0ec1b813c69855469637aa95f5"), looks := false }, kinds := [], alts := [], laidByText := true, laidKinds := [.data, .pinned], laidTests := true, laidLooks := .later }
def WatchOrderCardSaid : Prop := Claim7.holds Tryd.pinned (.plain (OpenSpec.ofChange watchOrderSpec)) watchOrderCard

/-- THE TIED CARD OF 'outriderlaw23.WatchKnown'. -/
def watchKnownCard : Claim7 := { stood := { row := watchKnownRow, standIns := [], harness := (true, "55c76d04c75c230efcd9648037dcd700c51e4b0ec1b813c69855469637aa95f5"), looks := false }, kinds := [], alts := [], laidByText := true, laidKinds := [.data, .pinned], laidTests := true, laidLooks := .later }
def WatchKnownCardSaid : Prop := Claim7.holds Tryd.pinned (.plain (OpenSpec.ofChange watchKnownSpec)) watchKnownCard

/-- THE TIED CARD OF 'outriderlaw23.WatchOthers'. -/
def watchOthersCard : Claim7 := { stood := { row := watchOthersRow, standIns := [], harness := (true, "55c76d04c75c230efcd9648037dcd700c51e4b0ec1b813c69855469637aa95f5"), looks := false }, kinds := [], alts := [], laidByText := true, laidKinds := [.data, .pinned], laidTests := true, laidLooks := .later }
def WatchOthersCardSaid : Prop := Claim7.holds Tryd.pinned (.plain (OpenSpec.ofChange watchOthersSpec)) watchOthersCard

/-- THE SECOND FORM's CARD OF 'outriderlaw23.WatchPlays'. -/
def watchPlaysUptoCard : Claim7 := { stood := { row := watchPlaysUptoRow, standIns := [], harness := (true, "55c76d04c75c230efcd9648037dcd700c51e4b0ec1b813c69855469637aa95f5"), looks := false }, kinds := [], alts := [], laidByText := true, laidKinds := [.data, .pinned], laidTests := true, laidLooks := .later }
def WatchPlaysUptoCardSaid : Prop := Claim7.holds Tryd.pinned (.plain (OpenSpec.upto watchPlaysSpec)) watchPlaysUptoCard

/-- THE SECOND FORM's CARD OF 'outriderlaw23.WatchOnce'. -/
def watchOnceUptoCard : Claim7 := { stood := { row := watchOnceUptoRow, standIns := [], harness := (true, "55c76d04c75c230efcd9648037dcd700c51e4b0ec1b813c69855469637aa95f5"), looks := false }, kinds := [], alts := [], laidByText := true, laidKinds := [.data, .pinned], laidTests := true, laidLooks := .later }
def WatchOnceUptoCardSaid : Prop := Claim7.holds Tryd.pinned (.plain (OpenSpec.upto watchOnceSpec)) watchOnceUptoCard

/-- THE SECOND FORM's CARD OF 'outriderlaw23.WatchOrder'. -/
def watchOrderUptoCard : Claim7 := { stood := { row := watchOrderUptoRow, standIns := [], harness := (true, "55c76d04c75c230efcd9648037dcd700c51e4b0ec1b813c69855469637aa95f5"), looks := false }, kinds := [], alts := [], laidByText := true, laidKinds := [.data, .pinned], laidTests := true, laidLooks := .later }
def WatchOrderUptoCardSaid : Prop := Claim7.holds Tryd.pinned (.plain (OpenSpec.upto watchOrderSpec)) watchOrderUptoCard

/-- THE SECOND FORM's CARD OF 'outriderlaw23.WatchKnown'. -/
def watchKnownUptoCard : Claim7 := { stood := { row := watchKnownUptoRow, standIns := [], harness := (true, "55c76d04c75c230efcd9648037dcd700c51e4b0ec1b813c69855469637aa95f5"), looks := false }, kinds := [], alts := [], laidByText := true, laidKinds := [.data, .pinned], laidTests := true, laidLooks := .later }
def WatchKnownUptoCardSaid : Prop := Claim7.holds Tryd.pinned (.plain (OpenSpec.upto watchKnownSpec)) watchKnownUptoCard

/-- THE SECOND FORM's CARD OF 'outriderlaw23.WatchOthers'. -/
def watchOthersUptoCard : Claim7 := { stood := { row := watchOthersUptoRow, standIns := [], harness := (true, "55c76d04c75c230efcd9648037dcd700c51e4b0ec1b813c69855469637aa95f5"), looks := false }, kinds := [], alts := [], laidByText := true, laidKinds := [.data, .pinned], laidTests := true, laidLooks := .later }
def WatchOthersUptoCardSaid : Prop := Claim7.holds Tryd.pinned (.plain (OpenSpec.upto watchOthersSpec)) watchOthersUptoCard
end Rows
end Go.Proofs.YtfbimhbdifmeoaaDoor
