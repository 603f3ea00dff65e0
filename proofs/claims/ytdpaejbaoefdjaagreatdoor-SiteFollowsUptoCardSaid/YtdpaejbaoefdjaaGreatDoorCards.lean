/-
  DERIVED. GIVEN WITH THE SEED: THE CARDS: each row of YtdpaejbaoefdjaaGreatDoorRows.lean that lists a variable, with what it lists TIED to the program's text (the seventh form; the later family's looks); each row that meets fmt, with fmt's text TOLD by the authors' own Lean function (tested against real Go, not proved from fmt's source: count such statements apart). THE CARD IS WHAT COUNTS. Prove the row's statement (the work); the ties are given (YtdpaejbaoefdjaaGreatDoorTie.lean); close each card by the builder's one call (the guide's Derived/Test/ToyasCard.lean, 'card_holds'). Laid BY PROGRAM, IN A SANDBOX (cutbox-door.mjs). By AI agents, Wed Nov 11 2026. No macro, syntax, notation, axiom, sorry.
-/
import Derived.Test.YtdpaejbaoefdjaaGreatDoorRows
import GoSem.ClaimSeven
namespace Go.Proofs.YtdpaejbaoefdjaaGreatDoor
namespace Rows

/-- THE TIED CARD OF 'outriderlaw20.SiteItems'. -/
def siteItemsCard : Claim7 := { stood := { row := siteItemsRow, standIns := [], harness := (true, "e41422726a6318d719e12bf6ebc58f2b4c0fc7468aeca040369bc0367fe56f6c"), looks := true }, kinds := [], alts := [], laidByText := true, laidKinds := [.data, .data, .data, .data, .pinned], laidTests := true, laidLooks := .later }
def SiteItemsCardSaid : Prop := Claim7.holds Tryz.pinned (.plain (OpenSpec.ofChange siteItemsSpec)) siteItemsCard

/-- THE TIED CARD OF 'outriderlaw20.SiteReaps'. -/
def siteReapsCard : Claim7 := { stood := { row := siteReapsRow, standIns := [], harness := (true, "e41422726a6318d719e12bf6ebc58f2b4c0fc7468aeca040369bc0367fe56f6c"), looks := true }, kinds := [], alts := [], laidByText := true, laidKinds := [.data, .data, .data, .data, .pinned], laidTests := true, laidLooks := .later }
def SiteReapsCardSaid : Prop := Claim7.holds Tryz.pinned (.plain (OpenSpec.ofChange siteReapsSpec)) siteReapsCard

/-- THE TIED CARD OF 'outriderlaw20.SiteFollows'. -/
def siteFollowsCard : Claim7 := { stood := { row := siteFollowsRow, standIns := [], harness := (true, "e41422726a6318d719e12bf6ebc58f2b4c0fc7468aeca040369bc0367fe56f6c"), looks := true }, kinds := [], alts := [], laidByText := true, laidKinds := [.data, .data, .data, .data, .pinned], laidTests := true, laidLooks := .later }
def SiteFollowsCardSaid : Prop := Claim7.holds Tryz.pinned (.plain (OpenSpec.ofChange siteFollowsSpec)) siteFollowsCard

/-- THE TIED CARD OF 'outriderlaw20.SiteTokens'. -/
def siteTokensCard : Claim7 := { stood := { row := siteTokensRow, standIns := [], harness := (true, "e41422726a6318d719e12bf6ebc58f2b4c0fc7468aeca040369bc0367fe56f6c"), looks := true }, kinds := [], alts := [], laidByText := true, laidKinds := [.data, .data, .data, .data, .pinned], laidTests := true, laidLooks := .later }
def SiteTokensCardSaid : Prop := Claim7.holds Tryz.pinned (.plain (OpenSpec.ofChange siteTokensSpec)) siteTokensCard

/-- THE TIED CARD OF 'outriderlaw20.SiteRegions'. -/
def siteRegionsCard : Claim7 := { stood := { row := siteRegionsRow, standIns := [], harness := (true, "e41422726a6318d719e12bf6ebc58f2b4c0fc7468aeca040369bc0367fe56f6c"), looks := true }, kinds := [], alts := [], laidByText := true, laidKinds := [.data, .data, .data, .data, .pinned], laidTests := true, laidLooks := .later }
def SiteRegionsCardSaid : Prop := Claim7.holds Tryz.pinned (.plain (OpenSpec.ofChange siteRegionsSpec)) siteRegionsCard

/-- THE TIED CARD OF 'outriderlaw20.SitePlays'. -/
def sitePlaysCard : Claim7 := { stood := { row := sitePlaysRow, standIns := [], harness := (true, "e41422726a6318d719e12bf6ebc58f2b4c0fc7468aeca040369bc0367fe56f6c"), looks := true }, kinds := [], alts := [], laidByText := true, laidKinds := [.data, .data, .data, .data, .pinned], laidTests := true, laidLooks := .later }
def SitePlaysCardSaid : Prop := Claim7.holds Tryz.pinned (.plain (OpenSpec.ofChange sitePlaysSpec)) sitePlaysCard

/-- THE TIED CARD OF 'outriderlaw20.SiteTwins'. -/
def siteTwinsCard : Claim7 := { stood := { row := siteTwinsRow, standIns := [], harness := (true, "e41422726a6318d719e12bf6ebc58f2b4c0fc7468aeca040369bc0367fe56f6c"), looks := true }, kinds := [], alts := [], laidByText := true, laidKinds := [.data, .data, .data, .data, .pinned], laidTests := true, laidLooks := .later }
def SiteTwinsCardSaid : Prop := Claim7.holds Tryz.pinned (.plain (OpenSpec.ofChange siteTwinsSpec)) siteTwinsCard

/-- THE TIED CARD OF 'outriderlaw20.SiteKnown'. -/
def siteKnownCard : Claim7 := { stood := { row := siteKnownRow, standIns := [], harness := (true, "e41422726a6318d719e12bf6ebc58f2b4c0fc7468aeca040369bc0367fe56f6c"), looks := true }, kinds := [], alts := [], laidByText := true, laidKinds := [.data, .data, .data, .data, .pinned], laidTests := true, laidLooks := .later }
def SiteKnownCardSaid : Prop := Claim7.holds Tryz.pinned (.plain (OpenSpec.ofChange siteKnownSpec)) siteKnownCard

/-- THE SECOND FORM's CARD OF 'outriderlaw20.SiteItems'. -/
def siteItemsUptoCard : Claim7 := { stood := { row := siteItemsUptoRow, standIns := [], harness := (true, "e41422726a6318d719e12bf6ebc58f2b4c0fc7468aeca040369bc0367fe56f6c"), looks := true }, kinds := [], alts := [], laidByText := true, laidKinds := [.data, .data, .data, .data, .pinned], laidTests := true, laidLooks := .later }
def SiteItemsUptoCardSaid : Prop := Claim7.holds Tryz.pinned (.plain (OpenSpec.upto siteItemsSpec)) siteItemsUptoCard

/-- THE SECOND FORM's CARD OF 'outriderlaw20.SiteReaps'. -/
def siteReapsUptoCard : Claim7 := { stood := { row := siteReapsUptoRow, standIns := [], harness := (true, "e41422726a6318d719e12bf6ebc58f2b4c0fc7468aeca040369bc0367fe56f6c"), looks := true }, kinds := [], alts := [], laidByText := true, laidKinds := [.data, .data, .data, .data, .pinned], laidTests := true, laidLooks := .later }
def SiteReapsUptoCardSaid : Prop := Claim7.holds Tryz.pinned (.plain (OpenSpec.upto siteReapsSpec)) siteReapsUptoCard

/-- THE SECOND FORM's CARD OF 'outriderlaw20.SiteFollows'. -/
def siteFollowsUptoCard : Claim7 := { stood := { row := siteFollowsUptoRow, standIns := [], harness := (true, "e41422726a6318d719e12bf6ebc58f2b4c0fc7468aeca040369bc0367fe56f6c"), looks := true }, kinds := [], alts := [], laidByText := true, laidKinds := [.data, .data, .data, .data, .pinned], laidTests := true, laidLooks := .later }
def SiteFollowsUptoCardSaid : Prop := Claim7.holds Tryz.pinned (.plain (OpenSpec.upto siteFollowsSpec)) siteFollowsUptoCard

/-- THE SECOND FORM's CARD OF 'outriderlaw20.SiteTokens'. -/
def siteTokensUptoCard : Claim7 := { stood := { row := siteTokensUptoRow, standIns := [], harness := (true, "e41422726a6318d719e12bf6ebc58f2b4c0fc7468aeca040369bc0367fe56f6c"), looks := true }, kinds := [], alts := [], laidByText := true, laidKinds := [.data, .data, .data, .data, .pinned], laidTests := true, laidLooks := .later }
def SiteTokensUptoCardSaid : Prop := Claim7.holds Tryz.pinned (.plain (OpenSpec.upto siteTokensSpec)) siteTokensUptoCard

/-- THE SECOND FORM's CARD OF 'outriderlaw20.SiteRegions'. -/
def siteRegionsUptoCard : Claim7 := { stood := { row := siteRegionsUptoRow, standIns := [], harness := (true, "e41422726a6318d719e12bf6ebc58f2b4c0fc7468aeca040369bc0367fe56f6c"), looks := true }, kinds := [], alts := [], laidByText := true, laidKinds := [.data, .data, .data, .data, .pinned], laidTests := true, laidLooks := .later }
def SiteRegionsUptoCardSaid : Prop := Claim7.holds Tryz.pinned (.plain (OpenSpec.upto siteRegionsSpec)) siteRegionsUptoCard

/-- THE SECOND FORM's CARD OF 'outriderlaw20.SitePlays'. -/
def sitePlaysUptoCard : Claim7 := { stood := { row := sitePlaysUptoRow, standIns := [], harness := (true, "e41422726a6318d719e12bf6ebc58f2b4c0fc7468aeca040369bc0367fe56f6c"), looks := true }, kinds := [], alts := [], laidByText := true, laidKinds := [.data, .data, .data, .data, .pinned], laidTests := true, laidLooks := .later }
def SitePlaysUptoCardSaid : Prop := Claim7.holds Tryz.pinned (.plain (OpenSpec.upto sitePlaysSpec)) sitePlaysUptoCard

/-- THE SECOND FORM's CARD OF 'outriderlaw20.SiteTwins'. -/
def siteTwinsUptoCard : Claim7 := { stood := { row := siteTwinsUptoRow, standIns := [], harness := (true, "e41422726a6318d719e12bf6ebc58f2b4c0fc7468aeca040369bc0367fe56f6c"), looks := true }, kinds := [], alts := [], laidByText := true, laidKinds := [.data, .data, .data, .data, .pinned], laidTests := true, laidLooks := .later }
def SiteTwinsUptoCardSaid : Prop := Claim7.holds Tryz.pinned (.plain (OpenSpec.upto siteTwinsSpec)) siteTwinsUptoCard

/-- THE SECOND FORM's CARD OF 'outriderlaw20.SiteKnown'. -/
def siteKnownUptoCard : Claim7 := { stood := { row := siteKnownUptoRow, standIns := [], harness := (true, "e41422726a6318d719e12bf6ebc58f2b4c0fc7468aeca040369bc0367fe56f6c"), looks := true }, kinds := [], alts := [], laidByText := true, laidKinds := [.data, .data, .data, .data, .pinned], laidTests := true, laidLooks := .later }
def SiteKnownUptoCardSaid : Prop := Claim7.holds Tryz.pinned (.plain (OpenSpec.upto siteKnownSpec)) siteKnownUptoCard
end Rows
end Go.Proofs.YtdpaejbaoefdjaaGreatDoor
