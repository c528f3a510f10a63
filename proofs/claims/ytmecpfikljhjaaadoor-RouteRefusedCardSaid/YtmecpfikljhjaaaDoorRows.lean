/-
  NARROWER THAN 'FOR EVERY INPUT', by the rows' own cells (each row's printed sentence says how): RouteHelped: laid · RouteLeast: laid · RouteRefused: laid · RouteInside: laid.
  DERIVED. THE GIVEN ROWS OF THIS SEAT. 4 by the template 'for every input the law returns true; each argument reads behind the call as it read before'; 0 by the template 'total and deterministic' (their statements: YtmecpfikljhjaaaDoorTotals.lean).
  GIVEN WITH THE SEED: the statements are not yours to turn. If you find one false, say at which input.
  Laid BY PROGRAM, IN A SANDBOX (cutbox-rows.mjs): the forced cells as the released guide's own fill.sh prints them over the translation 60179401f887e69e… (all of the seat's roots in one cut). By AI agents, Wed Nov 11 2026. No macro, syntax, notation, axiom, sorry.
-/
import Derived.Test.YtmecpfikljhjaaaDoorChecked
import GoSem.Claim
import GoSem.ClaimJoined
import GoSem.ClaimMapViews
import Derived.JoinedTies
import Derived.KernelRfl
namespace Go.Proofs.YtmecpfikljhjaaaDoor
/- THE CELL 'sum', in the pinned program and in every row, IS THE sha256 OF THE DUMP (.gsa) THAT YtmecpfikljhjaaaDoorProg.lean LOADS. Nothing in Lean hashes anything: it is a label: what it is worth is what the hold of that sum in a sandbox is worth. -/
noncomputable def Tryd.pinned : Pinned := { name := "ytmecpfikljhjaaadoor", sum := "60179401f887e69ec2d89689983a223d15f24edc55b5af283432231de3975ce6", checked := Tryd.checked }
namespace Rows
def none {H : Type} : Left H := { results := [], args := [] }

/- WHAT THE LISTED PACKAGE-LEVEL VARIABLES READ AS WHEN THE CALL BEGINS. Each datum BY PROGRAM (the guide's laid-datum.mjs) off the statement by which the dump's own 'gosem.cut.vars' lays the variable. In a bare row this is a premise. The card (YtmecpfikljhjaaaDoorCards.lean) ties it to the program's text. -/
def laid_polynya_hull_strengths {H : Type} : DataW H := .agg [.lit (.int .i64 4000), .lit (.int .i64 8000), .lit (.int .i64 14000), .lit (.int .i64 24000), .lit (.int .i64 40000), .lit (.int .i64 90000)]

/-- 'polynyalaw04.RouteHelped': WHATEVER THE INPUT: true; the input reads as it did. -/
def routeHelpedSpec : ChangeSpec := { name := "routeHelped", fn := fun _ => fun
  | [d] => { results := [.lit (.bool true)], args := [d] }
  | _ => none }
def routeHelpedRow : OpenClaim := { program := "ytmecpfikljhjaaadoor", sum := "60179401f887e69ec2d89689983a223d15f24edc55b5af283432231de3975ce6", func := "polynya/polynyalaw04.RouteHelped", spec := "routeHelped", unfollowed := true, recurses := true, named := ["polynya/hull.strengths"], plainKeys := false, apart := false, laid := [("polynya/hull.strengths", laid_polynya_hull_strengths)] }
def RouteHelpedSaid : Prop := routeHelpedRow.holds Tryd.pinned (OpenSpec.ofChange routeHelpedSpec)

/-- ITS FALSE NEIGHBOUR: 'it returns false'. Refute it at one input. -/
def routeHelpedWrong : ChangeSpec := { name := "routeHelped", fn := fun _ => fun
  | [d] => { results := [.lit (.bool false)], args := [d] }
  | _ => none }
def RouteHelpedWrongFalsely : Prop := routeHelpedRow.holds Tryd.pinned (OpenSpec.ofChange routeHelpedWrong)

/-- 'polynyalaw04.RouteLeast': WHATEVER THE INPUT: true; the input reads as it did. -/
def routeLeastSpec : ChangeSpec := { name := "routeLeast", fn := fun _ => fun
  | [d1, d2, d3] => { results := [.lit (.bool true)], args := [d1, d2, d3] }
  | _ => none }
def routeLeastRow : OpenClaim := { program := "ytmecpfikljhjaaadoor", sum := "60179401f887e69ec2d89689983a223d15f24edc55b5af283432231de3975ce6", func := "polynya/polynyalaw04.RouteLeast", spec := "routeLeast", unfollowed := true, recurses := true, named := ["polynya/hull.strengths"], plainKeys := false, apart := false, laid := [("polynya/hull.strengths", laid_polynya_hull_strengths)] }
def RouteLeastSaid : Prop := routeLeastRow.holds Tryd.pinned (OpenSpec.ofChange routeLeastSpec)

/-- ITS FALSE NEIGHBOUR: 'it returns false'. Refute it at one input. -/
def routeLeastWrong : ChangeSpec := { name := "routeLeast", fn := fun _ => fun
  | [d1, d2, d3] => { results := [.lit (.bool false)], args := [d1, d2, d3] }
  | _ => none }
def RouteLeastWrongFalsely : Prop := routeLeastRow.holds Tryd.pinned (OpenSpec.ofChange routeLeastWrong)

/-- 'polynyalaw04.RouteRefused': WHATEVER THE INPUT: true; the input reads as it did. -/
def routeRefusedSpec : ChangeSpec := { name := "routeRefused", fn := fun _ => fun
  | [d1, d2, d3] => { results := [.lit (.bool true)], args := [d1, d2, d3] }
  | _ => none }
def routeRefusedRow : OpenClaim := { program := "ytmecpfikljhjaaadoor", sum := "60179401f887e69ec2d89689983a223d15f24edc55b5af283432231de3975ce6", func := "polynya/polynyalaw04.RouteRefused", spec := "routeRefused", unfollowed := true, recurses := true, named := ["polynya/hull.strengths"], plainKeys := false, apart := false, laid := [("polynya/hull.strengths", laid_polynya_hull_strengths)] }
def RouteRefusedSaid : Prop := routeRefusedRow.holds Tryd.pinned (OpenSpec.ofChange routeRefusedSpec)

/-- ITS FALSE NEIGHBOUR: 'it returns false'. Refute it at one input. -/
def routeRefusedWrong : ChangeSpec := { name := "routeRefused", fn := fun _ => fun
  | [d1, d2, d3] => { results := [.lit (.bool false)], args := [d1, d2, d3] }
  | _ => none }
def RouteRefusedWrongFalsely : Prop := routeRefusedRow.holds Tryd.pinned (OpenSpec.ofChange routeRefusedWrong)

/-- 'polynyalaw04.RouteInside': WHATEVER THE INPUT: true; the input reads as it did. -/
def routeInsideSpec : ChangeSpec := { name := "routeInside", fn := fun _ => fun
  | [d1, d2, d3] => { results := [.lit (.bool true)], args := [d1, d2, d3] }
  | _ => none }
def routeInsideRow : OpenClaim := { program := "ytmecpfikljhjaaadoor", sum := "60179401f887e69ec2d89689983a223d15f24edc55b5af283432231de3975ce6", func := "polynya/polynyalaw04.RouteInside", spec := "routeInside", unfollowed := true, recurses := true, named := ["polynya/hull.strengths"], plainKeys := false, apart := false, laid := [("polynya/hull.strengths", laid_polynya_hull_strengths)] }
def RouteInsideSaid : Prop := routeInsideRow.holds Tryd.pinned (OpenSpec.ofChange routeInsideSpec)

/-- ITS FALSE NEIGHBOUR: 'it returns false'. Refute it at one input. -/
def routeInsideWrong : ChangeSpec := { name := "routeInside", fn := fun _ => fun
  | [d1, d2, d3] => { results := [.lit (.bool false)], args := [d1, d2, d3] }
  | _ => none }
def RouteInsideWrongFalsely : Prop := routeInsideRow.holds Tryd.pinned (OpenSpec.ofChange routeInsideWrong)

/- THE SECOND FORM. 'bulk': how many values and letters a reading holds, each counted each time it is reached (what is shared counts as often as it is met; a slice's spare places count too). A statement '..UptoSaid' is the law's where the arguments, and the package variables that the reading takes, are together of bulk at most 1048576: NARROWER than '..Said'. Prove '..Said' where nothing that the law and all that it calls make is longer than what came in: it says more and counts as full. Else prove '..UptoSaid'. A law counts once. -/
mutual
def uptoBulk {H : Type} : DataW H → Nat
  | .lit (.string bytes) => bytes.length + 1
  | .lit _ => 1
  | .nil => 1
  | .ptr d => uptoBulk d + 1
  | .slice elems spare => uptoBulkAll elems + uptoBulkAll spare + 1
  | .agg parts => uptoBulkAll parts + 1
  | .iface _ d => uptoBulk d + 1
  | .map entries => uptoBulkEntries entries + 1
  | .held _ => 1
def uptoBulkAll {H : Type} : List (DataW H) → Nat
  | [] => 0
  | d :: r => uptoBulk d + uptoBulkAll r
def uptoBulkEntries {H : Type} : List (Lit × DataW H) → Nat
  | [] => 0
  | x :: r => uptoBulkEntry x + uptoBulkEntries r
def uptoBulkEntry {H : Type} : Lit × DataW H → Nat
  | (.string bytes, d) => bytes.length + uptoBulk d + 1
  | (_, d) => uptoBulk d + 1
 end
def uptoSmall : (H : Type) → List (DataW H) → Bool := fun _ ds => decide (uptoBulkAll ds ≤ 1048576)
def OpenSpec.upto (s : _root_.Go.ChangeSpec) : _root_.Go.OpenSpec := { _root_.Go.OpenSpec.ofChange s with cond := some uptoSmall }

/-- 'polynyalaw04.RouteHelped', WHERE WHAT IT READS IS OF BULK AT MOST 1048576: true; the input reads as it did. -/
def routeHelpedUptoRow : OpenClaim := { program := "ytmecpfikljhjaaadoor", sum := "60179401f887e69ec2d89689983a223d15f24edc55b5af283432231de3975ce6", func := "polynya/polynyalaw04.RouteHelped", spec := "routeHelped", unfollowed := true, recurses := true, named := ["polynya/hull.strengths"], plainKeys := false, apart := false, laid := [("polynya/hull.strengths", laid_polynya_hull_strengths)], narrowed := true }
def RouteHelpedUptoSaid : Prop := routeHelpedUptoRow.holds Tryd.pinned (OpenSpec.upto routeHelpedSpec)

/-- 'polynyalaw04.RouteLeast', WHERE WHAT IT READS IS OF BULK AT MOST 1048576: true; the input reads as it did. -/
def routeLeastUptoRow : OpenClaim := { program := "ytmecpfikljhjaaadoor", sum := "60179401f887e69ec2d89689983a223d15f24edc55b5af283432231de3975ce6", func := "polynya/polynyalaw04.RouteLeast", spec := "routeLeast", unfollowed := true, recurses := true, named := ["polynya/hull.strengths"], plainKeys := false, apart := false, laid := [("polynya/hull.strengths", laid_polynya_hull_strengths)], narrowed := true }
def RouteLeastUptoSaid : Prop := routeLeastUptoRow.holds Tryd.pinned (OpenSpec.upto routeLeastSpec)

/-- 'polynyalaw04.RouteRefused', WHERE WHAT IT READS IS OF BULK AT MOST 1048576: true; the input reads as it did. -/
def routeRefusedUptoRow : OpenClaim := { program := "ytmecpfikljhjaaadoor", sum := "60179401f887e69ec2d89689983a223d15f24edc55b5af283432231de3975ce6", func := "polynya/polynyalaw04.RouteRefused", spec := "routeRefused", unfollowed := true, recurses := true, named := ["polynya/hull.strengths"], plainKeys := false, apart := false, laid := [("polynya/hull.strengths", laid_polynya_hull_strengths)], narrowed := true }
def RouteRefusedUptoSaid : Prop := routeRefusedUptoRow.holds Tryd.pinned (OpenSpec.upto routeRefusedSpec)

/-- 'polynyalaw04.RouteInside', WHERE WHAT IT READS IS OF BULK AT MOST 1048576: true; the input reads as it did. -/
def routeInsideUptoRow : OpenClaim := { program := "ytmecpfikljhjaaadoor", sum := "60179401f887e69ec2d89689983a223d15f24edc55b5af283432231de3975ce6", func := "polynya/polynyalaw04.RouteInside", spec := "routeInside", unfollowed := true, recurses := true, named := ["polynya/hull.strengths"], plainKeys := false, apart := false, laid := [("polynya/hull.strengths", laid_polynya_hull_strengths)], narrowed := true }
def RouteInsideUptoSaid : Prop := routeInsideUptoRow.holds Tryd.pinned (OpenSpec.upto routeInsideSpec)

end Rows
end Go.Proofs.YtmecpfikljhjaaaDoor
