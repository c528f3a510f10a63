/-
  NARROWER THAN 'FOR EVERY INPUT', by the rows' own cells (each row's printed sentence says how): RouteBest: laid · RouteProofs: laid · RouteLegs: laid · RouteTrue: laid · RouteSmall: laid · RouteDrifts: laid.
  DERIVED. THE GIVEN ROWS OF THIS SEAT. 6 by the template 'for every input the law returns true; each argument reads behind the call as it read before'; 0 by the template 'total and deterministic' (their statements: YtmecpfikljhjaaaGreatDoorTotals.lean).
  GIVEN WITH THE SEED: the statements are not yours to turn. If you find one false, say at which input.
  Laid BY PROGRAM, IN A SANDBOX (cutbox-rows.mjs): the forced cells as the released guide's own fill.sh prints them over the translation adf7f09975ae6a2a… (all of the seat's roots in one cut). By AI agents, Wed Nov 11 2026. No macro, syntax, notation, axiom, sorry.
-/
import Derived.Test.YtmecpfikljhjaaaGreatDoorChecked
import GoSem.Claim
import GoSem.ClaimJoined
import GoSem.ClaimMapViews
import Derived.JoinedTies
import Derived.KernelRfl
namespace Go.Proofs.YtmecpfikljhjaaaGreatDoor
/- THE CELL 'sum', in the pinned program and in every row, IS THE sha256 OF THE DUMP (.gsa) THAT YtmecpfikljhjaaaGreatDoorProg.lean LOADS. Nothing in Lean hashes anything: it is a label: what it is worth is what the hold of that sum in a sandbox is worth. -/
noncomputable def Tryz.pinned : Pinned := { name := "ytmecpfikljhjaaagreatdoor", sum := "adf7f09975ae6a2a1db1d17395dc4ed3691102681ee74deb139b9f5a82c0ee3c", checked := Tryz.checked }
namespace Rows
def none {H : Type} : Left H := { results := [], args := [] }

/- WHAT THE LISTED PACKAGE-LEVEL VARIABLES READ AS WHEN THE CALL BEGINS. Each datum BY PROGRAM (the guide's laid-datum.mjs) off the statement by which the dump's own 'gosem.cut.vars' lays the variable. In a bare row this is a premise. The card (YtmecpfikljhjaaaGreatDoorCards.lean) ties it to the program's text. -/
def laid_polynya_hull_strengths {H : Type} : DataW H := .agg [.lit (.int .i64 4000), .lit (.int .i64 8000), .lit (.int .i64 14000), .lit (.int .i64 24000), .lit (.int .i64 40000), .lit (.int .i64 90000)]

/-- 'polynyalaw04.RouteBest': WHATEVER THE INPUT: true; the input reads as it did. -/
def routeBestSpec : ChangeSpec := { name := "routeBest", fn := fun _ => fun
  | [d] => { results := [.lit (.bool true)], args := [d] }
  | _ => none }
def routeBestRow : OpenClaim := { program := "ytmecpfikljhjaaagreatdoor", sum := "adf7f09975ae6a2a1db1d17395dc4ed3691102681ee74deb139b9f5a82c0ee3c", func := "polynya/polynyalaw04.RouteBest", spec := "routeBest", unfollowed := true, recurses := true, named := ["polynya/hull.strengths"], plainKeys := false, apart := false, laid := [("polynya/hull.strengths", laid_polynya_hull_strengths)] }
def RouteBestSaid : Prop := routeBestRow.holds Tryz.pinned (OpenSpec.ofChange routeBestSpec)

/-- ITS FALSE NEIGHBOUR: 'it returns false'. Refute it at one input. -/
def routeBestWrong : ChangeSpec := { name := "routeBest", fn := fun _ => fun
  | [d] => { results := [.lit (.bool false)], args := [d] }
  | _ => none }
def RouteBestWrongFalsely : Prop := routeBestRow.holds Tryz.pinned (OpenSpec.ofChange routeBestWrong)

/-- 'polynyalaw04.RouteProofs': WHATEVER THE INPUT: true; the input reads as it did. -/
def routeProofsSpec : ChangeSpec := { name := "routeProofs", fn := fun _ => fun
  | [d1, d2, d3, d4] => { results := [.lit (.bool true)], args := [d1, d2, d3, d4] }
  | _ => none }
def routeProofsRow : OpenClaim := { program := "ytmecpfikljhjaaagreatdoor", sum := "adf7f09975ae6a2a1db1d17395dc4ed3691102681ee74deb139b9f5a82c0ee3c", func := "polynya/polynyalaw04.RouteProofs", spec := "routeProofs", unfollowed := true, recurses := true, named := ["polynya/hull.strengths"], plainKeys := false, apart := false, laid := [("polynya/hull.strengths", laid_polynya_hull_strengths)] }
def RouteProofsSaid : Prop := routeProofsRow.holds Tryz.pinned (OpenSpec.ofChange routeProofsSpec)

/-- ITS FALSE NEIGHBOUR: 'it returns false'. Refute it at one input. -/
def routeProofsWrong : ChangeSpec := { name := "routeProofs", fn := fun _ => fun
  | [d1, d2, d3, d4] => { results := [.lit (.bool false)], args := [d1, d2, d3, d4] }
  | _ => none }
def RouteProofsWrongFalsely : Prop := routeProofsRow.holds Tryz.pinned (OpenSpec.ofChange routeProofsWrong)

/-- 'polynyalaw04.RouteLegs': WHATEVER THE INPUT: true; the input reads as it did. -/
def routeLegsSpec : ChangeSpec := { name := "routeLegs", fn := fun _ => fun
  | [d1, d2, d3, d4, d5] => { results := [.lit (.bool true)], args := [d1, d2, d3, d4, d5] }
  | _ => none }
def routeLegsRow : OpenClaim := { program := "ytmecpfikljhjaaagreatdoor", sum := "adf7f09975ae6a2a1db1d17395dc4ed3691102681ee74deb139b9f5a82c0ee3c", func := "polynya/polynyalaw04.RouteLegs", spec := "routeLegs", unfollowed := true, recurses := true, named := ["polynya/hull.strengths"], plainKeys := false, apart := false, laid := [("polynya/hull.strengths", laid_polynya_hull_strengths)] }
def RouteLegsSaid : Prop := routeLegsRow.holds Tryz.pinned (OpenSpec.ofChange routeLegsSpec)

/-- ITS FALSE NEIGHBOUR: 'it returns false'. Refute it at one input. -/
def routeLegsWrong : ChangeSpec := { name := "routeLegs", fn := fun _ => fun
  | [d1, d2, d3, d4, d5] => { results := [.lit (.bool false)], args := [d1, d2, d3, d4, d5] }
  | _ => none }
def RouteLegsWrongFalsely : Prop := routeLegsRow.holds Tryz.pinned (OpenSpec.ofChange routeLegsWrong)

/-- 'polynyalaw04.RouteTrue': WHATEVER THE INPUT: true; the input reads as it did. -/
def routeTrueSpec : ChangeSpec := { name := "routeTrue", fn := fun _ => fun
  | [d1, d2, d3] => { results := [.lit (.bool true)], args := [d1, d2, d3] }
  | _ => none }
def routeTrueRow : OpenClaim := { program := "ytmecpfikljhjaaagreatdoor", sum := "adf7f09975ae6a2a1db1d17395dc4ed3691102681ee74deb139b9f5a82c0ee3c", func := "polynya/polynyalaw04.RouteTrue", spec := "routeTrue", unfollowed := true, recurses := true, named := ["polynya/hull.strengths"], plainKeys := false, apart := false, laid := [("polynya/hull.strengths", laid_polynya_hull_strengths)] }
def RouteTrueSaid : Prop := routeTrueRow.holds Tryz.pinned (OpenSpec.ofChange routeTrueSpec)

/-- ITS FALSE NEIGHBOUR: 'it returns false'. Refute it at one input. -/
def routeTrueWrong : ChangeSpec := { name := "routeTrue", fn := fun _ => fun
  | [d1, d2, d3] => { results := [.lit (.bool false)], args := [d1, d2, d3] }
  | _ => none }
def RouteTrueWrongFalsely : Prop := routeTrueRow.holds Tryz.pinned (OpenSpec.ofChange routeTrueWrong)

/-- 'polynyalaw04.RouteSmall': WHATEVER THE INPUT: true; the input reads as it did. -/
def routeSmallSpec : ChangeSpec := { name := "routeSmall", fn := fun _ => fun
  | [] => { results := [.lit (.bool true)], args := [] }
  | _ => none }
def routeSmallRow : OpenClaim := { program := "ytmecpfikljhjaaagreatdoor", sum := "adf7f09975ae6a2a1db1d17395dc4ed3691102681ee74deb139b9f5a82c0ee3c", func := "polynya/polynyalaw04.RouteSmall", spec := "routeSmall", unfollowed := true, recurses := true, named := ["polynya/hull.strengths"], plainKeys := false, apart := false, laid := [("polynya/hull.strengths", laid_polynya_hull_strengths)] }
def RouteSmallSaid : Prop := routeSmallRow.holds Tryz.pinned (OpenSpec.ofChange routeSmallSpec)

/-- ITS FALSE NEIGHBOUR: 'it returns false'. Refute it at one input. -/
def routeSmallWrong : ChangeSpec := { name := "routeSmall", fn := fun _ => fun
  | [] => { results := [.lit (.bool false)], args := [] }
  | _ => none }
def RouteSmallWrongFalsely : Prop := routeSmallRow.holds Tryz.pinned (OpenSpec.ofChange routeSmallWrong)

/-- 'polynyalaw04.RouteDrifts': WHATEVER THE INPUT: true; the input reads as it did. -/
def routeDriftsSpec : ChangeSpec := { name := "routeDrifts", fn := fun _ => fun
  | [d1, d2, d3] => { results := [.lit (.bool true)], args := [d1, d2, d3] }
  | _ => none }
def routeDriftsRow : OpenClaim := { program := "ytmecpfikljhjaaagreatdoor", sum := "adf7f09975ae6a2a1db1d17395dc4ed3691102681ee74deb139b9f5a82c0ee3c", func := "polynya/polynyalaw04.RouteDrifts", spec := "routeDrifts", unfollowed := true, recurses := true, named := ["polynya/hull.strengths"], plainKeys := false, apart := false, laid := [("polynya/hull.strengths", laid_polynya_hull_strengths)] }
def RouteDriftsSaid : Prop := routeDriftsRow.holds Tryz.pinned (OpenSpec.ofChange routeDriftsSpec)

/-- ITS FALSE NEIGHBOUR: 'it returns false'. Refute it at one input. -/
def routeDriftsWrong : ChangeSpec := { name := "routeDrifts", fn := fun _ => fun
  | [d1, d2, d3] => { results := [.lit (.bool false)], args := [d1, d2, d3] }
  | _ => none }
def RouteDriftsWrongFalsely : Prop := routeDriftsRow.holds Tryz.pinned (OpenSpec.ofChange routeDriftsWrong)

/- THE SECOND FORM. 'bulk': how many values and letters a reading holds, each counted each time it is reached (what is shared counts as often as it is met; a slice's spare places count too). A statement '..UptoSaid' is the law's where the arguments, and the package variables that the reading takes, are together of bulk at most 1048576: NARROWER than '..Said'. Prove '..Said' where nothing that the law and all that it calls make is longer than what came in: it says more and counts as full. Else prove '..UptoSaid'. A law counts once. -/
mutual
def uptoBulk {H : Type} : DataW H → Nat
  | .lit (.string bytes) => bytes.length + 1
  | .lit _ => 1
  | .nil => 1
  | .ptr d => uptoBulk d + 1
  | .slice elems spare => uptoBulkAll elems + uptoBulkAll spare + 1
  | .agg parts => uptoBulkAll parts + 1
  | .iface _ d => uptoBulk d + 1
  | .map entries => uptoBulkEntries entries + 1
  | .held _ => 1
def uptoBulkAll {H : Type} : List (DataW H) → Nat
  | [] => 0
  | d :: r => uptoBulk d + uptoBulkAll r
def uptoBulkEntries {H : Type} : List (Lit × DataW H) → Nat
  | [] => 0
  | x :: r => uptoBulkEntry x + uptoBulkEntries r
def uptoBulkEntry {H : Type} : Lit × DataW H → Nat
  | (.string bytes, d) => bytes.length + uptoBulk d + 1
  | (_, d) => uptoBulk d + 1
 end
def uptoSmall : (H : Type) → List (DataW H) → Bool := fun _ ds => decide (uptoBulkAll ds ≤ 1048576)
def OpenSpec.upto (s : _root_.Go.ChangeSpec) : _root_.Go.OpenSpec := { _root_.Go.OpenSpec.ofChange s with cond := some uptoSmall }

/-- 'polynyalaw04.RouteBest', WHERE WHAT IT READS IS OF BULK AT MOST 1048576: true; the input reads as it did. -/
def routeBestUptoRow : OpenClaim := { program := "ytmecpfikljhjaaagreatdoor", sum := "adf7f09975ae6a2a1db1d17395dc4ed3691102681ee74deb139b9f5a82c0ee3c", func := "polynya/polynyalaw04.RouteBest", spec := "routeBest", unfollowed := true, recurses := true, named := ["polynya/hull.strengths"], plainKeys := false, apart := false, laid := [("polynya/hull.strengths", laid_polynya_hull_strengths)], narrowed := true }
def RouteBestUptoSaid : Prop := routeBestUptoRow.holds Tryz.pinned (OpenSpec.upto routeBestSpec)

/-- 'polynyalaw04.RouteProofs', WHERE WHAT IT READS IS OF BULK AT MOST 1048576: true; the input reads as it did. -/
def routeProofsUptoRow : OpenClaim := { program := "ytmecpfikljhjaaagreatdoor", sum := "adf7f09975ae6a2a1db1d17395dc4ed3691102681ee74deb139b9f5a82c0ee3c", func := "polynya/polynyalaw04.RouteProofs", spec := "routeProofs", unfollowed := true, recurses := true, named := ["polynya/hull.strengths"], plainKeys := false, apart := false, laid := [("polynya/hull.strengths", laid_polynya_hull_strengths)], narrowed := true }
def RouteProofsUptoSaid : Prop := routeProofsUptoRow.holds Tryz.pinned (OpenSpec.upto routeProofsSpec)

/-- 'polynyalaw04.RouteLegs', WHERE WHAT IT READS IS OF BULK AT MOST 1048576: true; the input reads as it did. -/
def routeLegsUptoRow : OpenClaim := { program := "ytmecpfikljhjaaagreatdoor", sum := "adf7f09975ae6a2a1db1d17395dc4ed3691102681ee74deb139b9f5a82c0ee3c", func := "polynya/polynyalaw04.RouteLegs", spec := "routeLegs", unfollowed := true, recurses := true, named := ["polynya/hull.strengths"], plainKeys := false, apart := false, laid := [("polynya/hull.strengths", laid_polynya_hull_strengths)], narrowed := true }
def RouteLegsUptoSaid : Prop := routeLegsUptoRow.holds Tryz.pinned (OpenSpec.upto routeLegsSpec)

/-- 'polynyalaw04.RouteTrue', WHERE WHAT IT READS IS OF BULK AT MOST 1048576: true; the input reads as it did. -/
def routeTrueUptoRow : OpenClaim := { program := "ytmecpfikljhjaaagreatdoor", sum := "adf7f09975ae6a2a1db1d17395dc4ed3691102681ee74deb139b9f5a82c0ee3c", func := "polynya/polynyalaw04.RouteTrue", spec := "routeTrue", unfollowed := true, recurses := true, named := ["polynya/hull.strengths"], plainKeys := false, apart := false, laid := [("polynya/hull.strengths", laid_polynya_hull_strengths)], narrowed := true }
def RouteTrueUptoSaid : Prop := routeTrueUptoRow.holds Tryz.pinned (OpenSpec.upto routeTrueSpec)

/-- 'polynyalaw04.RouteSmall', WHERE WHAT IT READS IS OF BULK AT MOST 1048576: true; the input reads as it did. -/
def routeSmallUptoRow : OpenClaim := { program := "ytmecpfikljhjaaagreatdoor", sum := "adf7f09975ae6a2a1db1d17395dc4ed3691102681ee74deb139b9f5a82c0ee3c", func := "polynya/polynyalaw04.RouteSmall", spec := "routeSmall", unfollowed := true, recurses := true, named := ["polynya/hull.strengths"], plainKeys := false, apart := false, laid := [("polynya/hull.strengths", laid_polynya_hull_strengths)], narrowed := true }
def RouteSmallUptoSaid : Prop := routeSmallUptoRow.holds Tryz.pinned (OpenSpec.upto routeSmallSpec)

/-- 'polynyalaw04.RouteDrifts', WHERE WHAT IT READS IS OF BULK AT MOST 1048576: true; the input reads as it did. -/
def routeDriftsUptoRow : OpenClaim := { program := "ytmecpfikljhjaaagreatdoor", sum := "adf7f09975ae6a2a1db1d17395dc4ed3691102681ee74deb139b9f5a82c0ee3c", func := "polynya/polynyalaw04.RouteDrifts", spec := "routeDrifts", unfollowed := true, recurses := true, named := ["polynya/hull.strengths"], plainKeys := false, apart := false, laid := [("polynya/hull.strengths", laid_polynya_hull_strengths)], narrowed := true }
def RouteDriftsUptoSaid : Prop := routeDriftsUptoRow.holds Tryz.pinned (OpenSpec.upto routeDriftsSpec)

end Rows
end Go.Proofs.YtmecpfikljhjaaaGreatDoor
