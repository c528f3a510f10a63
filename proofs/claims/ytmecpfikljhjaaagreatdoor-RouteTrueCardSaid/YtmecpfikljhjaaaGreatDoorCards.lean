/-
  DERIVED. GIVEN WITH THE SEED: THE CARDS: each row of YtmecpfikljhjaaaGreatDoorRows.lean that lists a variable, with what it lists TIED to the program's text (the seventh form; the later family's looks); each row that meets fmt, with fmt's text TOLD by the authors' own Lean function (tested against real Go, not proved from fmt's source: count such statements apart). THE CARD IS WHAT COUNTS. Prove the row's statement (the work); the ties are given (YtmecpfikljhjaaaGreatDoorTie.lean); close each card by the builder's one call (the guide's Derived/Test/ToyasCard.lean, 'card_holds'). Laid BY PROGRAM, IN A SANDBOX (cutbox-door.mjs). By AI agents, Wed Nov 11 2026. No macro, syntax, notation, axiom, sorry.
-/
import Derived.Test.YtmecpfikljhjaaaGreatDoorRows
import GoSem.ClaimSeven
namespace Go.Proofs.YtmecpfikljhjaaaGreatDoor
namespace Rows

/-- THE TIED CARD OF 'polynyalaw04.RouteBest'. -/
def routeBestCard : Claim7 := { stood := { row := routeBestRow, standIns := [], harness := (true, "ea398fe0e9baf5bd6fadf6732648e1384b3c80dbb1f0b0744738c49895baddb4"), looks := false }, kinds := [], alts := [], laidByText := true, laidKinds := [.data], laidTests := true, laidLooks := .later }
def RouteBestCardSaid : Prop := Claim7.holds Tryz.pinned (.plain (OpenSpec.ofChange routeBestSpec)) routeBestCard

/-- THE TIED CARD OF 'polynyalaw04.RouteProofs'. -/
def routeProofsCard : Claim7 := { stood := { row := routeProofsRow, standIns := [], harness := (true, "ea398fe0e9baf5bd6fadf6732648e1384b3c80dbb1f0b0744738c49895baddb4"), looks := false }, kinds := [], alts := [], laidByText := true, laidKinds := [.data], laidTests := true, laidLooks := .later }
def RouteProofsCardSaid : Prop := Claim7.holds Tryz.pinned (.plain (OpenSpec.ofChange routeProofsSpec)) routeProofsCard

/-- THE TIED CARD OF 'polynyalaw04.RouteLegs'. -/
def routeLegsCard : Claim7 := { stood := { row := routeLegsRow, standIns := [], harness := (true, "ea398fe0e9baf5bd6fadf6732648e1384b3c80dbb1f0b0744738c49895baddb4"), looks := false }, kinds := [], alts := [], laidByText := true, laidKinds := [.data], laidTests := true, laidLooks := .later }
def RouteLegsCardSaid : Prop := Claim7.holds Tryz.pinned (.plain (OpenSpec.ofChange routeLegsSpec)) routeLegsCard

/-- THE TIED CARD OF 'polynyalaw04.RouteTrue'. -/
def routeTrueCard : Claim7 := { stood := { row := routeTrueRow, standIns := [], harness := (true, "ea398fe0e9baf5bd6fadf6732648e1384b3c80dbb1f0b0744738c49895baddb4"), looks := false }, kinds := [], alts := [], laidByText := true, laidKinds := [.data], laidTests := true, laidLooks := .later }
def RouteTrueCardSaid : Prop := Claim7.holds Tryz.pinned (.plain (OpenSpec.ofChange routeTrueSpec)) routeTrueCard

/-- THE TIED CARD OF 'polynyalaw04.RouteSmall'. -/
def routeSmallCard : Claim7 := { stood := { row := routeSmallRow, standIns := [], harness := (true, "ea398fe0e9baf5bd6fadf6732648e1384b3c80dbb1f0b0744738c49895baddb4"), looks := false }, kinds := [], alts := [], laidByText := true, laidKinds := [.data], laidTests := true, laidLooks := .later }
def RouteSmallCardSaid : Prop := Claim7.holds Tryz.pinned (.plain (OpenSpec.ofChange routeSmallSpec)) routeSmallCard

/-- THE TIED CARD OF 'polynyalaw04.RouteDrifts'. -/
def routeDriftsCard : Claim7 := { stood := { row := routeDriftsRow, standIns := [], harness := (true, "ea398fe0e9baf5bd6fadf6732648e1384b3c80dbb1f0b0744738c49895baddb4"), looks := false }, kinds := [], alts := [], laidByText := true, laidKinds := [.data], laidTests := true, laidLooks := .later }
def RouteDriftsCardSaid : Prop := Claim7.holds Tryz.pinned (.plain (OpenSpec.ofChange routeDriftsSpec)) routeDriftsCard

/-- THE SECOND FORM's CARD OF 'polynyalaw04.RouteBest'. -/
def routeBestUptoCard : Claim7 := { stood := { row := routeBestUptoRow, standIns := [], harness := (true, "ea398fe0e9baf5bd6fadf6732648e1384b3c80dbb1f0b0744738c49895baddb4"), looks := false }, kinds := [], alts := [], laidByText := true, laidKinds := [.data], laidTests := true, laidLooks := .later }
def RouteBestUptoCardSaid : Prop := Claim7.holds Tryz.pinned (.plain (OpenSpec.upto routeBestSpec)) routeBestUptoCard

/-- THE SECOND FORM's CARD OF 'polynyalaw04.RouteProofs'. -/
def routeProofsUptoCard : Claim7 := { stood := { row := routeProofsUptoRow, standIns := [], harness := (true, "ea398fe0e9baf5bd6fadf6732648e1384b3c80dbb1f0b0744738c49895baddb4"), looks := false }, kinds := [], alts := [], laidByText := true, laidKinds := [.data], laidTests := true, laidLooks := .later }
def RouteProofsUptoCardSaid : Prop := Claim7.holds Tryz.pinned (.plain (OpenSpec.upto routeProofsSpec)) routeProofsUptoCard

/-- THE SECOND FORM's CARD OF 'polynyalaw04.RouteLegs'. -/
def routeLegsUptoCard : Claim7 := { stood := { row := routeLegsUptoRow, standIns := [], harness := (true, "ea398fe0e9baf5bd6fadf6732648e1384b3c80dbb1f0b0744738c49895baddb4"), looks := false }, kinds := [], alts := [], laidByText := true, laidKinds := [.data], laidTests := true, laidLooks := .later }
def RouteLegsUptoCardSaid : Prop := Claim7.holds Tryz.pinned (.plain (OpenSpec.upto routeLegsSpec)) routeLegsUptoCard

/-- THE SECOND FORM's CARD OF 'polynyalaw04.RouteTrue'. -/
def routeTrueUptoCard : Claim7 := { stood := { row := routeTrueUptoRow, standIns := [], harness := (true, "ea398fe0e9baf5bd6fadf6732648e1384b3c80dbb1f0b0744738c49895baddb4"), looks := false }, kinds := [], alts := [], laidByText := true, laidKinds := [.data], laidTests := true, laidLooks := .later }
def RouteTrueUptoCardSaid : Prop := Claim7.holds Tryz.pinned (.plain (OpenSpec.upto routeTrueSpec)) routeTrueUptoCard

/-- THE SECOND FORM's CARD OF 'polynyalaw04.RouteSmall'. -/
def routeSmallUptoCard : Claim7 := { stood := { row := routeSmallUptoRow, standIns := [], harness := (true, "ea398fe0e9baf5bd6fadf6732648e1384b3c80dbb1f0b0744738c49895baddb4"), looks := false }, kinds := [], alts := [], laidByText := true, laidKinds := [.data], laidTests := true, laidLooks := .later }
def RouteSmallUptoCardSaid : Prop := Claim7.holds Tryz.pinned (.plain (OpenSpec.upto routeSmallSpec)) routeSmallUptoCard

/-- THE SECOND FORM's CARD OF 'polynyalaw04.RouteDrifts'. -/
def routeDriftsUptoCard : Claim7 := { stood := { row := routeDriftsUptoRow, standIns := [], harness := (true, "ea398fe0e9baf5bd6fadf6732648e1384b3c80dbb1f0b0744738c49895baddb4"), looks := false }, kinds := [], alts := [], laidByText := true, laidKinds := [.data], laidTests := true, laidLooks := .later }
def RouteDriftsUptoCardSaid : Prop := Claim7.holds Tryz.pinned (.plain (OpenSpec.upto routeDriftsSpec)) routeDriftsUptoCard
end Rows
end Go.Proofs.YtmecpfikljhjaaaGreatDoor
