/-
  No cell of these rows narrows 'for every input' (looked for: loops, veiled, ifaces, maps, wideKeys, modest, calm, conditions, laid).
  DERIVED. THE GIVEN ROWS OF THIS SEAT. 10 by the template 'for every input the law returns true; each argument reads behind the call as it read before'; 0 by the template 'total and deterministic' (their statements: YthdekmpkioikdaaGreatTotals.lean).
  GIVEN WITH THE SEED: the statements are not yours to turn. If you find one false, say at which input.
  Laid BY PROGRAM, IN A SANDBOX (cutbox-rows.mjs): the forced cells as the released guide's own fill.sh prints them over the translation 65f9a6af74f603a2… (all of the seat's roots in one cut). By AI agents, Wed Nov 11 2026. No macro, syntax, notation, axiom, sorry.
-/
import Derived.Test.YthdekmpkioikdaaGreatChecked
import GoSem.Claim
import GoSem.ClaimJoined
import GoSem.ClaimMapViews
import Derived.JoinedTies
import Derived.KernelRfl
namespace Go.Proofs.YthdekmpkioikdaaGreat
/- THE CELL 'sum', in the pinned program and in every row, IS THE sha256 OF THE DUMP (.gsa) THAT YthdekmpkioikdaaGreatProg.lean LOADS. Nothing in Lean hashes anything: it is a label: what it is worth is what the hold of that sum in a sandbox is worth. -/
noncomputable def Tryz.pinned : Pinned := { name := "ythdekmpkioikdaagreat", sum := "65f9a6af74f603a22f4f8f777ab35c6bee462f3468ff9307b99542af03875d80", checked := Tryz.checked }
namespace Rows
def none {H : Type} : Left H := { results := [], args := [] }

/-- 'polynyalaw07.RequestTrees': WHATEVER THE INPUT: true; the input reads as it did. -/
def requestTreesSpec : ChangeSpec := { name := "requestTrees", fn := fun _ => fun
  | [d1, d2, d3, d4, d5, d6] => { results := [.lit (.bool true)], args := [d1, d2, d3, d4, d5, d6] }
  | _ => none }
def requestTreesRow : OpenClaim := { program := "ythdekmpkioikdaagreat", sum := "65f9a6af74f603a22f4f8f777ab35c6bee462f3468ff9307b99542af03875d80", func := "polynya/polynyalaw07.RequestTrees", spec := "requestTrees", unfollowed := true, recurses := true, apart := false }
def RequestTreesSaid : Prop := requestTreesRow.holds Tryz.pinned (OpenSpec.ofChange requestTreesSpec)

/-- ITS FALSE NEIGHBOUR: 'it returns false'. Refute it at one input. -/
def requestTreesWrong : ChangeSpec := { name := "requestTrees", fn := fun _ => fun
  | [d1, d2, d3, d4, d5, d6] => { results := [.lit (.bool false)], args := [d1, d2, d3, d4, d5, d6] }
  | _ => none }
def RequestTreesWrongFalsely : Prop := requestTreesRow.holds Tryz.pinned (OpenSpec.ofChange requestTreesWrong)

/-- 'polynyalaw07.RequestLater': WHATEVER THE INPUT: true; the input reads as it did. -/
def requestLaterSpec : ChangeSpec := { name := "requestLater", fn := fun _ => fun
  | [d1, d2] => { results := [.lit (.bool true)], args := [d1, d2] }
  | _ => none }
def requestLaterRow : OpenClaim := { program := "ythdekmpkioikdaagreat", sum := "65f9a6af74f603a22f4f8f777ab35c6bee462f3468ff9307b99542af03875d80", func := "polynya/polynyalaw07.RequestLater", spec := "requestLater", unfollowed := true, recurses := true, apart := false }
def RequestLaterSaid : Prop := requestLaterRow.holds Tryz.pinned (OpenSpec.ofChange requestLaterSpec)

/-- ITS FALSE NEIGHBOUR: 'it returns false'. Refute it at one input. -/
def requestLaterWrong : ChangeSpec := { name := "requestLater", fn := fun _ => fun
  | [d1, d2] => { results := [.lit (.bool false)], args := [d1, d2] }
  | _ => none }
def RequestLaterWrongFalsely : Prop := requestLaterRow.holds Tryz.pinned (OpenSpec.ofChange requestLaterWrong)

/-- 'polynyalaw07.RequestRuns': WHATEVER THE INPUT: true; the input reads as it did. -/
def requestRunsSpec : ChangeSpec := { name := "requestRuns", fn := fun _ => fun
  | [d1, d2, d3, d4] => { results := [.lit (.bool true)], args := [d1, d2, d3, d4] }
  | _ => none }
def requestRunsRow : OpenClaim := { program := "ythdekmpkioikdaagreat", sum := "65f9a6af74f603a22f4f8f777ab35c6bee462f3468ff9307b99542af03875d80", func := "polynya/polynyalaw07.RequestRuns", spec := "requestRuns", unfollowed := true, recurses := true, apart := false }
def RequestRunsSaid : Prop := requestRunsRow.holds Tryz.pinned (OpenSpec.ofChange requestRunsSpec)

/-- ITS FALSE NEIGHBOUR: 'it returns false'. Refute it at one input. -/
def requestRunsWrong : ChangeSpec := { name := "requestRuns", fn := fun _ => fun
  | [d1, d2, d3, d4] => { results := [.lit (.bool false)], args := [d1, d2, d3, d4] }
  | _ => none }
def RequestRunsWrongFalsely : Prop := requestRunsRow.holds Tryz.pinned (OpenSpec.ofChange requestRunsWrong)

/-- 'polynyalaw07.RequestBounds': WHATEVER THE INPUT: true; the input reads as it did. -/
def requestBoundsSpec : ChangeSpec := { name := "requestBounds", fn := fun _ => fun
  | [d1, d2, d3] => { results := [.lit (.bool true)], args := [d1, d2, d3] }
  | _ => none }
def requestBoundsRow : OpenClaim := { program := "ythdekmpkioikdaagreat", sum := "65f9a6af74f603a22f4f8f777ab35c6bee462f3468ff9307b99542af03875d80", func := "polynya/polynyalaw07.RequestBounds", spec := "requestBounds", unfollowed := true, recurses := true, apart := false }
def RequestBoundsSaid : Prop := requestBoundsRow.holds Tryz.pinned (OpenSpec.ofChange requestBoundsSpec)

/-- ITS FALSE NEIGHBOUR: 'it returns false'. Refute it at one input. -/
def requestBoundsWrong : ChangeSpec := { name := "requestBounds", fn := fun _ => fun
  | [d1, d2, d3] => { results := [.lit (.bool false)], args := [d1, d2, d3] }
  | _ => none }
def RequestBoundsWrongFalsely : Prop := requestBoundsRow.holds Tryz.pinned (OpenSpec.ofChange requestBoundsWrong)

/-- 'polynyalaw07.RequestBounded': WHATEVER THE INPUT: true; the input reads as it did. -/
def requestBoundedSpec : ChangeSpec := { name := "requestBounded", fn := fun _ => fun
  | [d1, d2] => { results := [.lit (.bool true)], args := [d1, d2] }
  | _ => none }
def requestBoundedRow : OpenClaim := { program := "ythdekmpkioikdaagreat", sum := "65f9a6af74f603a22f4f8f777ab35c6bee462f3468ff9307b99542af03875d80", func := "polynya/polynyalaw07.RequestBounded", spec := "requestBounded", unfollowed := true, recurses := true, apart := false }
def RequestBoundedSaid : Prop := requestBoundedRow.holds Tryz.pinned (OpenSpec.ofChange requestBoundedSpec)

/-- ITS FALSE NEIGHBOUR: 'it returns false'. Refute it at one input. -/
def requestBoundedWrong : ChangeSpec := { name := "requestBounded", fn := fun _ => fun
  | [d1, d2] => { results := [.lit (.bool false)], args := [d1, d2] }
  | _ => none }
def RequestBoundedWrongFalsely : Prop := requestBoundedRow.holds Tryz.pinned (OpenSpec.ofChange requestBoundedWrong)

/-- 'polynyalaw07.RequestFair': WHATEVER THE INPUT: true; the input reads as it did. -/
def requestFairSpec : ChangeSpec := { name := "requestFair", fn := fun _ => fun
  | [d1, d2, d3] => { results := [.lit (.bool true)], args := [d1, d2, d3] }
  | _ => none }
def requestFairRow : OpenClaim := { program := "ythdekmpkioikdaagreat", sum := "65f9a6af74f603a22f4f8f777ab35c6bee462f3468ff9307b99542af03875d80", func := "polynya/polynyalaw07.RequestFair", spec := "requestFair", unfollowed := true, recurses := true, apart := false }
def RequestFairSaid : Prop := requestFairRow.holds Tryz.pinned (OpenSpec.ofChange requestFairSpec)

/-- ITS FALSE NEIGHBOUR: 'it returns false'. Refute it at one input. -/
def requestFairWrong : ChangeSpec := { name := "requestFair", fn := fun _ => fun
  | [d1, d2, d3] => { results := [.lit (.bool false)], args := [d1, d2, d3] }
  | _ => none }
def RequestFairWrongFalsely : Prop := requestFairRow.holds Tryz.pinned (OpenSpec.ofChange requestFairWrong)

/-- 'polynyalaw07.RequestHistories': WHATEVER THE INPUT: true; the input reads as it did. -/
def requestHistoriesSpec : ChangeSpec := { name := "requestHistories", fn := fun _ => fun
  | [d1, d2, d3, d4, d5, d6, d7] => { results := [.lit (.bool true)], args := [d1, d2, d3, d4, d5, d6, d7] }
  | _ => none }
def requestHistoriesRow : OpenClaim := { program := "ythdekmpkioikdaagreat", sum := "65f9a6af74f603a22f4f8f777ab35c6bee462f3468ff9307b99542af03875d80", func := "polynya/polynyalaw07.RequestHistories", spec := "requestHistories", unfollowed := true, recurses := true, apart := false }
def RequestHistoriesSaid : Prop := requestHistoriesRow.holds Tryz.pinned (OpenSpec.ofChange requestHistoriesSpec)

/-- ITS FALSE NEIGHBOUR: 'it returns false'. Refute it at one input. -/
def requestHistoriesWrong : ChangeSpec := { name := "requestHistories", fn := fun _ => fun
  | [d1, d2, d3, d4, d5, d6, d7] => { results := [.lit (.bool false)], args := [d1, d2, d3, d4, d5, d6, d7] }
  | _ => none }
def RequestHistoriesWrongFalsely : Prop := requestHistoriesRow.holds Tryz.pinned (OpenSpec.ofChange requestHistoriesWrong)

/-- 'polynyalaw07.RequestPlans': WHATEVER THE INPUT: true; the input reads as it did. -/
def requestPlansSpec : ChangeSpec := { name := "requestPlans", fn := fun _ => fun
  | [d1, d2, d3, d4] => { results := [.lit (.bool true)], args := [d1, d2, d3, d4] }
  | _ => none }
def requestPlansRow : OpenClaim := { program := "ythdekmpkioikdaagreat", sum := "65f9a6af74f603a22f4f8f777ab35c6bee462f3468ff9307b99542af03875d80", func := "polynya/polynyalaw07.RequestPlans", spec := "requestPlans", unfollowed := true, recurses := true, apart := false }
def RequestPlansSaid : Prop := requestPlansRow.holds Tryz.pinned (OpenSpec.ofChange requestPlansSpec)

/-- ITS FALSE NEIGHBOUR: 'it returns false'. Refute it at one input. -/
def requestPlansWrong : ChangeSpec := { name := "requestPlans", fn := fun _ => fun
  | [d1, d2, d3, d4] => { results := [.lit (.bool false)], args := [d1, d2, d3, d4] }
  | _ => none }
def RequestPlansWrongFalsely : Prop := requestPlansRow.holds Tryz.pinned (OpenSpec.ofChange requestPlansWrong)

/-- 'polynyalaw07.RequestLeast': WHATEVER THE INPUT: true; the input reads as it did. -/
def requestLeastSpec : ChangeSpec := { name := "requestLeast", fn := fun _ => fun
  | [d1, d2, d3, d4] => { results := [.lit (.bool true)], args := [d1, d2, d3, d4] }
  | _ => none }
def requestLeastRow : OpenClaim := { program := "ythdekmpkioikdaagreat", sum := "65f9a6af74f603a22f4f8f777ab35c6bee462f3468ff9307b99542af03875d80", func := "polynya/polynyalaw07.RequestLeast", spec := "requestLeast", unfollowed := true, recurses := true, apart := false }
def RequestLeastSaid : Prop := requestLeastRow.holds Tryz.pinned (OpenSpec.ofChange requestLeastSpec)

/-- ITS FALSE NEIGHBOUR: 'it returns false'. Refute it at one input. -/
def requestLeastWrong : ChangeSpec := { name := "requestLeast", fn := fun _ => fun
  | [d1, d2, d3, d4] => { results := [.lit (.bool false)], args := [d1, d2, d3, d4] }
  | _ => none }
def RequestLeastWrongFalsely : Prop := requestLeastRow.holds Tryz.pinned (OpenSpec.ofChange requestLeastWrong)

/-- 'polynyalaw07.RequestSmall': WHATEVER THE INPUT: true; the input reads as it did. -/
def requestSmallSpec : ChangeSpec := { name := "requestSmall", fn := fun _ => fun
  | [] => { results := [.lit (.bool true)], args := [] }
  | _ => none }
def requestSmallRow : OpenClaim := { program := "ythdekmpkioikdaagreat", sum := "65f9a6af74f603a22f4f8f777ab35c6bee462f3468ff9307b99542af03875d80", func := "polynya/polynyalaw07.RequestSmall", spec := "requestSmall", unfollowed := true, recurses := true, apart := false }
def RequestSmallSaid : Prop := requestSmallRow.holds Tryz.pinned (OpenSpec.ofChange requestSmallSpec)

/-- ITS FALSE NEIGHBOUR: 'it returns false'. Refute it at one input. -/
def requestSmallWrong : ChangeSpec := { name := "requestSmall", fn := fun _ => fun
  | [] => { results := [.lit (.bool false)], args := [] }
  | _ => none }
def RequestSmallWrongFalsely : Prop := requestSmallRow.holds Tryz.pinned (OpenSpec.ofChange requestSmallWrong)

/- THE SECOND FORM. 'bulk': how many values and letters a reading holds, each counted each time it is reached (what is shared counts as often as it is met; a slice's spare places count too). A statement '..UptoSaid' is the law's where the arguments, and the package variables that the reading takes, are together of bulk at most 1048576: NARROWER than '..Said'. Prove '..Said' where nothing that the law and all that it calls make is longer than what came in: it says more and counts as full. Else prove '..UptoSaid'. A law counts once. -/
mutual
def uptoBulk {H : Type} : DataW H → Nat
  | .lit (.string bytes) => bytes.length + 1
  | .lit _ => 1
  | .nil => 1
  | .ptr d => uptoBulk d + 1
  | .slice elems spare => uptoBulkAll elems + uptoBulkAll spare + 1
  | .agg parts => uptoBulkAll parts + 1
  | .iface _ d => uptoBulk d + 1
  | .map entries => uptoBulkEntries entries + 1
  | .held _ => 1
def uptoBulkAll {H : Type} : List (DataW H) → Nat
  | [] => 0
  | d :: r => uptoBulk d + uptoBulkAll r
def uptoBulkEntries {H : Type} : List (Lit × DataW H) → Nat
  | [] => 0
  | x :: r => uptoBulkEntry x + uptoBulkEntries r
def uptoBulkEntry {H : Type} : Lit × DataW H → Nat
  | (.string bytes, d) => bytes.length + uptoBulk d + 1
  | (_, d) => uptoBulk d + 1
 end
def uptoSmall : (H : Type) → List (DataW H) → Bool := fun _ ds => decide (uptoBulkAll ds ≤ 1048576)
def OpenSpec.upto (s : _root_.Go.ChangeSpec) : _root_.Go.OpenSpec := { _root_.Go.OpenSpec.ofChange s with cond := some uptoSmall }

/-- 'polynyalaw07.RequestTrees', WHERE WHAT IT READS IS OF BULK AT MOST 1048576: true; the input reads as it did. -/
def requestTreesUptoRow : OpenClaim := { program := "ythdekmpkioikdaagreat", sum := "65f9a6af74f603a22f4f8f777ab35c6bee462f3468ff9307b99542af03875d80", func := "polynya/polynyalaw07.RequestTrees", spec := "requestTrees", unfollowed := true, recurses := true, apart := false, narrowed := true }
def RequestTreesUptoSaid : Prop := requestTreesUptoRow.holds Tryz.pinned (OpenSpec.upto requestTreesSpec)

/-- 'polynyalaw07.RequestLater', WHERE WHAT IT READS IS OF BULK AT MOST 1048576: true; the input reads as it did. -/
def requestLaterUptoRow : OpenClaim := { program := "ythdekmpkioikdaagreat", sum := "65f9a6af74f603a22f4f8f777ab35c6bee462f3468ff9307b99542af03875d80", func := "polynya/polynyalaw07.RequestLater", spec := "requestLater", unfollowed := true, recurses := true, apart := false, narrowed := true }
def RequestLaterUptoSaid : Prop := requestLaterUptoRow.holds Tryz.pinned (OpenSpec.upto requestLaterSpec)

/-- 'polynyalaw07.RequestRuns', WHERE WHAT IT READS IS OF BULK AT MOST 1048576: true; the input reads as it did. -/
def requestRunsUptoRow : OpenClaim := { program := "ythdekmpkioikdaagreat", sum := "65f9a6af74f603a22f4f8f777ab35c6bee462f3468ff9307b99542af03875d80", func := "polynya/polynyalaw07.RequestRuns", spec := "requestRuns", unfollowed := true, recurses := true, apart := false, narrowed := true }
def RequestRunsUptoSaid : Prop := requestRunsUptoRow.holds Tryz.pinned (OpenSpec.upto requestRunsSpec)

/-- 'polynyalaw07.RequestBounds', WHERE WHAT IT READS IS OF BULK AT MOST 1048576: true; the input reads as it did. -/
def requestBoundsUptoRow : OpenClaim := { program := "ythdekmpkioikdaagreat", sum := "65f9a6af74f603a22f4f8f777ab35c6bee462f3468ff9307b99542af03875d80", func := "polynya/polynyalaw07.RequestBounds", spec := "requestBounds", unfollowed := true, recurses := true, apart := false, narrowed := true }
def RequestBoundsUptoSaid : Prop := requestBoundsUptoRow.holds Tryz.pinned (OpenSpec.upto requestBoundsSpec)

/-- 'polynyalaw07.RequestBounded', WHERE WHAT IT READS IS OF BULK AT MOST 1048576: true; the input reads as it did. -/
def requestBoundedUptoRow : OpenClaim := { program := "ythdekmpkioikdaagreat", sum := "65f9a6af74f603a22f4f8f777ab35c6bee462f3468ff9307b99542af03875d80", func := "polynya/polynyalaw07.RequestBounded", spec := "requestBounded", unfollowed := true, recurses := true, apart := false, narrowed := true }
def RequestBoundedUptoSaid : Prop := requestBoundedUptoRow.holds Tryz.pinned (OpenSpec.upto requestBoundedSpec)

/-- 'polynyalaw07.RequestFair', WHERE WHAT IT READS IS OF BULK AT MOST 1048576: true; the input reads as it did. -/
def requestFairUptoRow : OpenClaim := { program := "ythdekmpkioikdaagreat", sum := "65f9a6af74f603a22f4f8f777ab35c6bee462f3468ff9307b99542af03875d80", func := "polynya/polynyalaw07.RequestFair", spec := "requestFair", unfollowed := true, recurses := true, apart := false, narrowed := true }
def RequestFairUptoSaid : Prop := requestFairUptoRow.holds Tryz.pinned (OpenSpec.upto requestFairSpec)

/-- 'polynyalaw07.RequestHistories', WHERE WHAT IT READS IS OF BULK AT MOST 1048576: true; the input reads as it did. -/
def requestHistoriesUptoRow : OpenClaim := { program := "ythdekmpkioikdaagreat", sum := "65f9a6af74f603a22f4f8f777ab35c6bee462f3468ff9307b99542af03875d80", func := "polynya/polynyalaw07.RequestHistories", spec := "requestHistories", unfollowed := true, recurses := true, apart := false, narrowed := true }
def RequestHistoriesUptoSaid : Prop := requestHistoriesUptoRow.holds Tryz.pinned (OpenSpec.upto requestHistoriesSpec)

/-- 'polynyalaw07.RequestPlans', WHERE WHAT IT READS IS OF BULK AT MOST 1048576: true; the input reads as it did. -/
def requestPlansUptoRow : OpenClaim := { program := "ythdekmpkioikdaagreat", sum := "65f9a6af74f603a22f4f8f777ab35c6bee462f3468ff9307b99542af03875d80", func := "polynya/polynyalaw07.RequestPlans", spec := "requestPlans", unfollowed := true, recurses := true, apart := false, narrowed := true }
def RequestPlansUptoSaid : Prop := requestPlansUptoRow.holds Tryz.pinned (OpenSpec.upto requestPlansSpec)

/-- 'polynyalaw07.RequestLeast', WHERE WHAT IT READS IS OF BULK AT MOST 1048576: true; the input reads as it did. -/
def requestLeastUptoRow : OpenClaim := { program := "ythdekmpkioikdaagreat", sum := "65f9a6af74f603a22f4f8f777ab35c6bee462f3468ff9307b99542af03875d80", func := "polynya/polynyalaw07.RequestLeast", spec := "requestLeast", unfollowed := true, recurses := true, apart := false, narrowed := true }
def RequestLeastUptoSaid : Prop := requestLeastUptoRow.holds Tryz.pinned (OpenSpec.upto requestLeastSpec)

/-- 'polynyalaw07.RequestSmall', WHERE WHAT IT READS IS OF BULK AT MOST 1048576: true; the input reads as it did. -/
def requestSmallUptoRow : OpenClaim := { program := "ythdekmpkioikdaagreat", sum := "65f9a6af74f603a22f4f8f777ab35c6bee462f3468ff9307b99542af03875d80", func := "polynya/polynyalaw07.RequestSmall", spec := "requestSmall", unfollowed := true, recurses := true, apart := false, narrowed := true }
def RequestSmallUptoSaid : Prop := requestSmallUptoRow.holds Tryz.pinned (OpenSpec.upto requestSmallSpec)

end Rows
end Go.Proofs.YthdekmpkioikdaaGreat
