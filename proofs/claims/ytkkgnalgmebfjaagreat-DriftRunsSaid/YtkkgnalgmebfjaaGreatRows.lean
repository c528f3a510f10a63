/-
  No cell of these rows narrows 'for every input' (looked for: loops, veiled, ifaces, maps, wideKeys, modest, calm, conditions, laid).
  DERIVED. THE GIVEN ROWS OF THIS SEAT. 4 by the template 'for every input the law returns true; each argument reads behind the call as it read before'; 0 by the template 'total and deterministic' (their statements: YtkkgnalgmebfjaaGreatTotals.lean).
  GIVEN WITH THE SEED: the statements are not yours to turn. If you find one false, say at which input.
  Laid BY PROGRAM, IN A SANDBOX (cutbox-rows.mjs): the forced cells as the released guide's own fill.sh prints them over the translation 19d707452393c85f… (all of the seat's roots in one cut). By AI agents, Wed Nov 11 2026. No macro, syntax, notation, axiom, sorry.
-/
import Derived.Test.YtkkgnalgmebfjaaGreatChecked
import GoSem.Claim
import GoSem.ClaimJoined
import GoSem.ClaimMapViews
import Derived.JoinedTies
import Derived.KernelRfl
namespace Go.Proofs.YtkkgnalgmebfjaaGreat
/- THE CELL 'sum', in the pinned program and in every row, IS THE sha256 OF THE DUMP (.gsa) THAT YtkkgnalgmebfjaaGreatProg.lean LOADS. Nothing in Lean hashes anything: it is a label: what it is worth is what the hold of that sum in a sandbox is worth. -/
noncomputable def Tryz.pinned : Pinned := { name := "ytkkgnalgmebfjaagreat", sum := "19d707452393c85fc7f340d9614d8f1332fba1d9ff970f7e5f20d5219d8c5f96", checked := Tryz.checked }
namespace Rows
def none {H : Type} : Left H := { results := [], args := [] }

/-- 'polynyalaw02.DriftSteps': WHATEVER THE INPUT: true; the input reads as it did. -/
def driftStepsSpec : ChangeSpec := { name := "driftSteps", fn := fun _ => fun
  | [d1, d2, d3, d4, d5] => { results := [.lit (.bool true)], args := [d1, d2, d3, d4, d5] }
  | _ => none }
def driftStepsRow : OpenClaim := { program := "ytkkgnalgmebfjaagreat", sum := "19d707452393c85fc7f340d9614d8f1332fba1d9ff970f7e5f20d5219d8c5f96", func := "polynya/polynyalaw02.DriftSteps", spec := "driftSteps", unfollowed := true, recurses := true, plainKeys := false, apart := false }
def DriftStepsSaid : Prop := driftStepsRow.holds Tryz.pinned (OpenSpec.ofChange driftStepsSpec)

/-- ITS FALSE NEIGHBOUR: 'it returns false'. Refute it at one input. -/
def driftStepsWrong : ChangeSpec := { name := "driftSteps", fn := fun _ => fun
  | [d1, d2, d3, d4, d5] => { results := [.lit (.bool false)], args := [d1, d2, d3, d4, d5] }
  | _ => none }
def DriftStepsWrongFalsely : Prop := driftStepsRow.holds Tryz.pinned (OpenSpec.ofChange driftStepsWrong)

/-- 'polynyalaw02.DriftRuns': WHATEVER THE INPUT: true; the input reads as it did. -/
def driftRunsSpec : ChangeSpec := { name := "driftRuns", fn := fun _ => fun
  | [d1, d2, d3, d4] => { results := [.lit (.bool true)], args := [d1, d2, d3, d4] }
  | _ => none }
def driftRunsRow : OpenClaim := { program := "ytkkgnalgmebfjaagreat", sum := "19d707452393c85fc7f340d9614d8f1332fba1d9ff970f7e5f20d5219d8c5f96", func := "polynya/polynyalaw02.DriftRuns", spec := "driftRuns", unfollowed := true, recurses := true, plainKeys := false, apart := false }
def DriftRunsSaid : Prop := driftRunsRow.holds Tryz.pinned (OpenSpec.ofChange driftRunsSpec)

/-- ITS FALSE NEIGHBOUR: 'it returns false'. Refute it at one input. -/
def driftRunsWrong : ChangeSpec := { name := "driftRuns", fn := fun _ => fun
  | [d1, d2, d3, d4] => { results := [.lit (.bool false)], args := [d1, d2, d3, d4] }
  | _ => none }
def DriftRunsWrongFalsely : Prop := driftRunsRow.holds Tryz.pinned (OpenSpec.ofChange driftRunsWrong)

/-- 'polynyalaw02.DriftSmall': WHATEVER THE INPUT: true; the input reads as it did. -/
def driftSmallSpec : ChangeSpec := { name := "driftSmall", fn := fun _ => fun
  | [] => { results := [.lit (.bool true)], args := [] }
  | _ => none }
def driftSmallRow : OpenClaim := { program := "ytkkgnalgmebfjaagreat", sum := "19d707452393c85fc7f340d9614d8f1332fba1d9ff970f7e5f20d5219d8c5f96", func := "polynya/polynyalaw02.DriftSmall", spec := "driftSmall", unfollowed := true, recurses := true, plainKeys := false, apart := false }
def DriftSmallSaid : Prop := driftSmallRow.holds Tryz.pinned (OpenSpec.ofChange driftSmallSpec)

/-- ITS FALSE NEIGHBOUR: 'it returns false'. Refute it at one input. -/
def driftSmallWrong : ChangeSpec := { name := "driftSmall", fn := fun _ => fun
  | [] => { results := [.lit (.bool false)], args := [] }
  | _ => none }
def DriftSmallWrongFalsely : Prop := driftSmallRow.holds Tryz.pinned (OpenSpec.ofChange driftSmallWrong)

/-- 'polynyalaw02.DriftForecast': WHATEVER THE INPUT: true; the input reads as it did. -/
def driftForecastSpec : ChangeSpec := { name := "driftForecast", fn := fun _ => fun
  | [d1, d2, d3] => { results := [.lit (.bool true)], args := [d1, d2, d3] }
  | _ => none }
def driftForecastRow : OpenClaim := { program := "ytkkgnalgmebfjaagreat", sum := "19d707452393c85fc7f340d9614d8f1332fba1d9ff970f7e5f20d5219d8c5f96", func := "polynya/polynyalaw02.DriftForecast", spec := "driftForecast", unfollowed := true, recurses := true, plainKeys := false, apart := false }
def DriftForecastSaid : Prop := driftForecastRow.holds Tryz.pinned (OpenSpec.ofChange driftForecastSpec)

/-- ITS FALSE NEIGHBOUR: 'it returns false'. Refute it at one input. -/
def driftForecastWrong : ChangeSpec := { name := "driftForecast", fn := fun _ => fun
  | [d1, d2, d3] => { results := [.lit (.bool false)], args := [d1, d2, d3] }
  | _ => none }
def DriftForecastWrongFalsely : Prop := driftForecastRow.holds Tryz.pinned (OpenSpec.ofChange driftForecastWrong)

/- THE SECOND FORM. 'bulk': how many values and letters a reading holds, each counted each time it is reached (what is shared counts as often as it is met; a slice's spare places count too). A statement '..UptoSaid' is the law's where the arguments, and the package variables that the reading takes, are together of bulk at most 1048576: NARROWER than '..Said'. Prove '..Said' where nothing that the law and all that it calls make is longer than what came in: it says more and counts as full. Else prove '..UptoSaid'. A law counts once. -/
mutual
def uptoBulk {H : Type} : DataW H → Nat
  | .lit (.string bytes) => bytes.length + 1
  | .lit _ => 1
  | .nil => 1
  | .ptr d => uptoBulk d + 1
  | .slice elems spare => uptoBulkAll elems + uptoBulkAll spare + 1
  | .agg parts => uptoBulkAll parts + 1
  | .iface _ d => uptoBulk d + 1
  | .map entries => uptoBulkEntries entries + 1
  | .held _ => 1
def uptoBulkAll {H : Type} : List (DataW H) → Nat
  | [] => 0
  | d :: r => uptoBulk d + uptoBulkAll r
def uptoBulkEntries {H : Type} : List (Lit × DataW H) → Nat
  | [] => 0
  | x :: r => uptoBulkEntry x + uptoBulkEntries r
def uptoBulkEntry {H : Type} : Lit × DataW H → Nat
  | (.string bytes, d) => bytes.length + uptoBulk d + 1
  | (_, d) => uptoBulk d + 1
 end
def uptoSmall : (H : Type) → List (DataW H) → Bool := fun _ ds => decide (uptoBulkAll ds ≤ 1048576)
def OpenSpec.upto (s : _root_.Go.ChangeSpec) : _root_.Go.OpenSpec := { _root_.Go.OpenSpec.ofChange s with cond := some uptoSmall }

/-- 'polynyalaw02.DriftSteps', WHERE WHAT IT READS IS OF BULK AT MOST 1048576: true; the input reads as it did. -/
def driftStepsUptoRow : OpenClaim := { program := "ytkkgnalgmebfjaagreat", sum := "19d707452393c85fc7f340d9614d8f1332fba1d9ff970f7e5f20d5219d8c5f96", func := "polynya/polynyalaw02.DriftSteps", spec := "driftSteps", unfollowed := true, recurses := true, plainKeys := false, apart := false, narrowed := true }
def DriftStepsUptoSaid : Prop := driftStepsUptoRow.holds Tryz.pinned (OpenSpec.upto driftStepsSpec)

/-- 'polynyalaw02.DriftRuns', WHERE WHAT IT READS IS OF BULK AT MOST 1048576: true; the input reads as it did. -/
def driftRunsUptoRow : OpenClaim := { program := "ytkkgnalgmebfjaagreat", sum := "19d707452393c85fc7f340d9614d8f1332fba1d9ff970f7e5f20d5219d8c5f96", func := "polynya/polynyalaw02.DriftRuns", spec := "driftRuns", unfollowed := true, recurses := true, plainKeys := false, apart := false, narrowed := true }
def DriftRunsUptoSaid : Prop := driftRunsUptoRow.holds Tryz.pinned (OpenSpec.upto driftRunsSpec)

/-- 'polynyalaw02.DriftSmall', WHERE WHAT IT READS IS OF BULK AT MOST 1048576: true; the input reads as it did. -/
def driftSmallUptoRow : OpenClaim := { program := "ytkkgnalgmebfjaagreat", sum := "19d707452393c85fc7f340d9614d8f1332fba1d9ff970f7e5f20d5219d8c5f96", func := "polynya/polynyalaw02.DriftSmall", spec := "driftSmall", unfollowed := true, recurses := true, plainKeys := false, apart := false, narrowed := true }
def DriftSmallUptoSaid : Prop := driftSmallUptoRow.holds Tryz.pinned (OpenSpec.upto driftSmallSpec)

/-- 'polynyalaw02.DriftForecast', WHERE WHAT IT READS IS OF BULK AT MOST 1048576: true; the input reads as it did. -/
def driftForecastUptoRow : OpenClaim := { program := "ytkkgnalgmebfjaagreat", sum := "19d707452393c85fc7f340d9614d8f1332fba1d9ff970f7e5f20d5219d8c5f96", func := "polynya/polynyalaw02.DriftForecast", spec := "driftForecast", unfollowed := true, recurses := true, plainKeys := false, apart := false, narrowed := true }
def DriftForecastUptoSaid : Prop := driftForecastUptoRow.holds Tryz.pinned (OpenSpec.upto driftForecastSpec)

end Rows
end Go.Proofs.YtkkgnalgmebfjaaGreat
