/-
  DERIVED. GIVEN WITH THE SEED: THE CARDS: each row of YtmecpfikljhjaaaDoorRows.lean that lists a variable, with what it lists TIED to the program's text (the seventh form; the later family's looks); each row that meets fmt, with fmt's text TOLD by the authors' own Lean function (tested against real Go, not proved from fmt's source: count such statements apart). THE CARD IS WHAT COUNTS. Prove the row's statement (the work); the ties are given (YtmecpfikljhjaaaDoorTie.lean); close each card by the builder's one call (the guide's Derived/Test/ToyasCard.lean, 'card_holds'). Laid BY PROGRAM, IN A SANDBOX (cutbox-door.mjs). By AI agents, Wed Nov 11 2026. No macro, syntax, notation, axiom, sorry.
-/
import Derived.Test.YtmecpfikljhjaaaDoorRows
import GoSem.ClaimSeven
namespace Go.Proofs.YtmecpfikljhjaaaDoor
namespace Rows

/-- THE TIED CARD OF 'polynyalaw04.RouteHelped'. -/
def routeHelpedCard : Claim7 := { stood := { row := routeHelpedRow, standIns := [], harness := (true, "9f2038168a6ea5cbb8132f05dd5e9e728dbbf8d9a0b8a53257e9158a6c5ed0eb"), looks := false }, kinds := [], alts := [], laidByText := true, laidKinds := [.data], laidTests := true, laidLooks := .later }
def RouteHelpedCardSaid : Prop := Claim7.holds Tryd.pinned (.plain (OpenSpec.ofChange routeHelpedSpec)) routeHelpedCard

/-- THE TIED CARD OF 'polynyalaw04.RouteLeast'. -/
def routeLeastCard : Claim7 := { stood := { row := routeLeastRow, standIns := [], harness := (true, "9f2038168a6ea5cbb8132f05dd5e9e728dbbf8d9a0b8a53257e9158a6c5ed0eb"), looks := false }, kinds := [], alts := [], laidByText := true, laidKinds := [.data], laidTests := true, laidLooks := .later }
def RouteLeastCardSaid : Prop := Claim7.holds Tryd.pinned (.plain (OpenSpec.ofChange routeLeastSpec)) routeLeastCard

/-- THE TIED CARD OF 'polynyalaw04.RouteRefused'. -/
def routeRefusedCard : Claim7 := { stood := { row := routeRefusedRow, standIns := [], harness := (true, "9f2038168a6ea5cbb8132f05dd5e9e728dbbf8d9a0b8a53257e9158a6c5ed0eb"), looks := false }, kinds := [], alts := [], laidByText := true, laidKinds := [.data], laidTests := true, laidLooks := .later }
def RouteRefusedCardSaid : Prop := Claim7.holds Tryd.pinned (.plain (OpenSpec.ofChange routeRefusedSpec)) routeRefusedCard

/-- THE TIED CARD OF 'polynyalaw04.RouteInside'. -/
def routeInsideCard : Claim7 := { stood := { row := routeInsideRow, standIns := [], harness := (true, "9f2038168a6ea5cbb8132f05dd5e9e728dbbf8d9a0b8a53257e9158a6c5ed0eb"), looks := false }, kinds := [], alts := [], laidByText := true, laidKinds := [.data], laidTests := true, laidLooks := .later }
def RouteInsideCardSaid : Prop := Claim7.holds Tryd.pinned (.plain (OpenSpec.ofChange routeInsideSpec)) routeInsideCard

/-- THE SECOND FORM's CARD OF 'polynyalaw04.RouteHelped'. -/
def routeHelpedUptoCard : Claim7 := { stood := { row := routeHelpedUptoRow, standIns := [], harness := (true, "9f2038168a6ea5cbb8132f05dd5e9e728dbbf8d9a0b8a53257e9158a6c5ed0eb"), looks := false }, kinds := [], alts := [], laidByText := true, laidKinds := [.data], laidTests := true, laidLooks := .later }
def RouteHelpedUptoCardSaid : Prop := Claim7.holds Tryd.pinned (.plain (OpenSpec.upto routeHelpedSpec)) routeHelpedUptoCard

/-- THE SECOND FORM's CARD OF 'polynyalaw04.RouteLeast'. -/
def routeLeastUptoCard : Claim7 := { stood := { row := routeLeastUptoRow, standIns := [], harness := (true, "9f2038168a6ea5cbb8132f05dd5e9e728dbbf8d9a0b8a53257e9158a6c5ed0eb"), looks := false }, kinds := [], alts := [], laidByText := true, laidKinds := [.data], laidTests := true, laidLooks := .later }
def RouteLeastUptoCardSaid : Prop := Claim7.holds Tryd.pinned (.plain (OpenSpec.upto routeLeastSpec)) routeLeastUptoCard

/-- THE SECOND FORM's CARD OF 'polynyalaw04.RouteRefused'. -/
def routeRefusedUptoCard : Claim7 := { stood := { row := routeRefusedUptoRow, standIns := [], harness := (true, "9f2038168a6ea5cbb8132f05dd5e9e728dbbf8d9a0b8a53257e9158a6c5ed0eb"), looks := false }, kinds := [], alts := [], laidByText := true, laidKinds := [.data], laidTests := true, laidLooks := .later }
def RouteRefusedUptoCardSaid : Prop := Claim7.holds Tryd.pinned (.plain (OpenSpec.upto routeRefusedSpec)) routeRefusedUptoCard

/-- THE SECOND FORM's CARD OF 'polynyalaw04.RouteInside'. -/
def routeInsideUptoCard : Claim7 := { stood := { row := routeInsideUptoRow, standIns := [], harness := (true, "9f2038168a6ea5cbb8132f05dd5e9e728dbbf8d9a0b8a53257e9158a6c5ed0eb"), looks := false }, kinds := [], alts := [], laidByText := true, laidKinds := [.data], laidTests := true, laidLooks := .later }
def RouteInsideUptoCardSaid : Prop := Claim7.holds Tryd.pinned (.plain (OpenSpec.upto routeInsideSpec)) routeInsideUptoCard
end Rows
end Go.Proofs.YtmecpfikljhjaaaDoor
