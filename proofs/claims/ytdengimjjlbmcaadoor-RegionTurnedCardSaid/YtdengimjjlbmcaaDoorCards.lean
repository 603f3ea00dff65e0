/-
  DERIVED. GIVEN WITH THE SEED: THE CARDS: each row of YtdengimjjlbmcaaDoorRows.lean that lists a variable, with what it lists TIED to the program's text (the seventh form; the later family's looks); each row that meets fmt, with fmt's text TOLD by the authors' own Lean function (tested against real Go, not proved from fmt's source: count such statements apart). THE CARD IS WHAT COUNTS. Prove the row's statement (the work); the ties are given (YtdengimjjlbmcaaDoorTie.lean); close each card by the builder's one call (the guide's Derived/Test/ToyasCard.lean, 'card_holds'). Laid BY PROGRAM, IN A SANDBOX (cutbox-door.mjs). By AI agents, Wed Nov 11 2026. No macro, syntax, notation, axiom, sorry.
-/
import Derived.Test.YtdengimjjlbmcaaDoorRows
import GoSem.ClaimSeven
namespace Go.Proofs.YtdengimjjlbmcaaDoor
namespace Rows

/-- THE TIED CARD OF 'outriderlaw06.RegionFinds'. -/
def regionFindsCard : Claim7 := { stood := { row := regionFindsRow, standIns := [], harness := (true, "11f217c986149b4d73582501d68211e84b0802ff30fd12b224fbd96779caf8fe"), looks := false }, kinds := [], alts := [], laidByText := true, laidKinds := [.data, .pinned], laidTests := true, laidLooks := .later }
def RegionFindsCardSaid : Prop := Claim7.holds Tryd.pinned (.plain (OpenSpec.ofChange regionFindsSpec)) regionFindsCard

/-- THE TIED CARD OF 'outriderlaw06.RegionAll'. -/
def regionAllCard : Claim7 := { stood := { row := regionAllRow, standIns := [], harness := (true, "11f217c986149b4d73582501d68211e84b0802ff30fd12b224fbd96779caf8fe"), looks := false }, kinds := [], alts := [], laidByText := true, laidKinds := [.data, .pinned], laidTests := true, laidLooks := .later }
def RegionAllCardSaid : Prop := Claim7.holds Tryd.pinned (.plain (OpenSpec.ofChange regionAllSpec)) regionAllCard

/-- THE TIED CARD OF 'outriderlaw06.RegionLongest'. -/
def regionLongestCard : Claim7 := { stood := { row := regionLongestRow, standIns := [], harness := (true, "11f217c986149b4d73582501d68211e84b0802ff30fd12b224fbd96779caf8fe"), looks := false }, kinds := [], alts := [], laidByText := true, laidKinds := [.data, .pinned], laidTests := true, laidLooks := .later }
def RegionLongestCardSaid : Prop := Claim7.holds Tryd.pinned (.plain (OpenSpec.ofChange regionLongestSpec)) regionLongestCard

/-- THE TIED CARD OF 'outriderlaw06.RegionKnown'. -/
def regionKnownCard : Claim7 := { stood := { row := regionKnownRow, standIns := [], harness := (true, "11f217c986149b4d73582501d68211e84b0802ff30fd12b224fbd96779caf8fe"), looks := false }, kinds := [], alts := [], laidByText := true, laidKinds := [.data, .pinned], laidTests := true, laidLooks := .later }
def RegionKnownCardSaid : Prop := Claim7.holds Tryd.pinned (.plain (OpenSpec.ofChange regionKnownSpec)) regionKnownCard

/-- THE TIED CARD OF 'outriderlaw06.RegionTurned'. -/
def regionTurnedCard : Claim7 := { stood := { row := regionTurnedRow, standIns := [], harness := (true, "11f217c986149b4d73582501d68211e84b0802ff30fd12b224fbd96779caf8fe"), looks := false }, kinds := [], alts := [], laidByText := true, laidKinds := [.data, .pinned], laidTests := true, laidLooks := .later }
def RegionTurnedCardSaid : Prop := Claim7.holds Tryd.pinned (.plain (OpenSpec.ofChange regionTurnedSpec)) regionTurnedCard

/-- THE TIED CARD OF 'outriderlaw06.RegionBelow'. -/
def regionBelowCard : Claim7 := { stood := { row := regionBelowRow, standIns := [], harness := (true, "11f217c986149b4d73582501d68211e84b0802ff30fd12b224fbd96779caf8fe"), looks := false }, kinds := [], alts := [], laidByText := true, laidKinds := [.data, .pinned], laidTests := true, laidLooks := .later }
def RegionBelowCardSaid : Prop := Claim7.holds Tryd.pinned (.plain (OpenSpec.ofChange regionBelowSpec)) regionBelowCard

/-- THE SECOND FORM's CARD OF 'outriderlaw06.RegionFinds'. -/
def regionFindsUptoCard : Claim7 := { stood := { row := regionFindsUptoRow, standIns := [], harness := (true, "11f217c986149b4d73582501d68211e84b0802ff30fd12b224fbd96779caf8fe"), looks := false }, kinds := [], alts := [], laidByText := true, laidKinds := [.data, .pinned], laidTests := true, laidLooks := .later }
def RegionFindsUptoCardSaid : Prop := Claim7.holds Tryd.pinned (.plain (OpenSpec.upto regionFindsSpec)) regionFindsUptoCard

/-- THE SECOND FORM's CARD OF 'outriderlaw06.RegionAll'. -/
def regionAllUptoCard : Claim7 := { stood := { row := regionAllUptoRow, standIns := [], harness := (true, "11f217c986149b4d73582501d68211e84b0802ff30fd12b224fbd96779caf8fe"), looks := false }, kinds := [], alts := [], laidByText := true, laidKinds := [.data, .pinned], laidTests := true, laidLooks := .later }
def RegionAllUptoCardSaid : Prop := Claim7.holds Tryd.pinned (.plain (OpenSpec.upto regionAllSpec)) regionAllUptoCard

/-- THE SECOND FORM's CARD OF 'outriderlaw06.RegionLongest'. -/
def regionLongestUptoCard : Claim7 := { stood := { row := regionLongestUptoRow, standIns := [], harness := (true, "11f217c986149b4d73582501d68211e84b0802ff30fd12b224fbd96779caf8fe"), looks := false }, kinds := [], alts := [], laidByText := true, laidKinds := [.data, .pinned], laidTests := true, laidLooks := .later }
def RegionLongestUptoCardSaid : Prop := Claim7.holds Tryd.pinned (.plain (OpenSpec.upto regionLongestSpec)) regionLongestUptoCard

/-- THE SECOND FORM's CARD OF 'outriderlaw06.RegionKnown'. -/
def regionKnownUptoCard : Claim7 := { stood := { row := regionKnownUptoRow, standIns := [], harness := (true, "11f217c986149b4d73582501d68211e84b0802ff30fd12b224fbd96779caf8fe"), looks := false }, kinds := [], alts := [], laidByText := true, laidKinds := [.data, .pinned], laidTests := true, laidLooks := .later }
def RegionKnownUptoCardSaid : Prop := Claim7.holds Tryd.pinned (.plain (OpenSpec.upto regionKnownSpec)) regionKnownUptoCard

/-- THE SECOND FORM's CARD OF 'outriderlaw06.RegionTurned'. -/
def regionTurnedUptoCard : Claim7 := { stood := { row := regionTurnedUptoRow, standIns := [], harness := (true, "11f217c986149b4d73582501d68211e84b0802ff30fd12b224fbd96779caf8fe"), looks := false }, kinds := [], alts := [], laidByText := true, laidKinds := [.data, .pinned], laidTests := true, laidLooks := .later }
def RegionTurnedUptoCardSaid : Prop := Claim7.holds Tryd.pinned (.plain (OpenSpec.upto regionTurnedSpec)) regionTurnedUptoCard

/-- THE SECOND FORM's CARD OF 'outriderlaw06.RegionBelow'. -/
def regionBelowUptoCard : Claim7 := { stood := { row := regionBelowUptoRow, standIns := [], harness := (true, "11f217c986149b4d73582501d68211e84b0802ff30fd12b224fbd96779caf8fe"), looks := false }, kinds := [], alts := [], laidByText := true, laidKinds := [.data, .pinned], laidTests := true, laidLooks := .later }
def RegionBelowUptoCardSaid : Prop := Claim7.holds Tryd.pinned (.plain (OpenSpec.upto regionBelowSpec)) regionBelowUptoCard
end Rows
end Go.Proofs.YtdengimjjlbmcaaDoor
