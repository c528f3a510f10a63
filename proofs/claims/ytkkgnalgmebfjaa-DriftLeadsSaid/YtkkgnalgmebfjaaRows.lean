/-
  No cell of these rows narrows 'for every input' (looked for: loops, veiled, ifaces, maps, wideKeys, modest, calm, conditions, laid).
  DERIVED. THE GIVEN ROWS OF THIS SEAT. 8 by the template 'for every input the law returns true; each argument reads behind the call as it read before'; 0 by the template 'total and deterministic' (their statements: YtkkgnalgmebfjaaTotals.lean).
  GIVEN WITH THE SEED: the statements are not yours to turn. If you find one false, say at which input.
  Laid BY PROGRAM, IN A SANDBOX (cutbox-rows.mjs): the forced cells as the released guide's own fill.sh prints them over the translation 1e60024eaa93375d… (all of the seat's roots in one cut). By AI agents, Wed Nov 11 2026. No macro, syntax, notation, axiom, sorry.
-/
import Derived.Test.YtkkgnalgmebfjaaChecked
import GoSem.Claim
import GoSem.ClaimJoined
import GoSem.ClaimMapViews
import Derived.JoinedTies
import Derived.KernelRfl
namespace Go.Proofs.Ytkkgnalgmebfjaa
/- THE CELL 'sum', in the pinned program and in every row, IS THE sha256 OF THE DUMP (.gsa) THAT YtkkgnalgmebfjaaProg.lean LOADS. Nothing in Lean hashes anything: it is a label: what it is worth is what the hold of that sum in a sandbox is worth. -/
noncomputable def Try.pinned : Pinned := { name := "ytkkgnalgmebfjaa", sum := "1e60024eaa93375d0dd6f6c838e49f244aa98dd05ec231932d8da820e9d47cbf", checked := Try.checked }
namespace Rows
def none {H : Type} : Left H := { results := [], args := [] }

/-- 'polynyalaw02.DriftKept': WHATEVER THE INPUT: true; the input reads as it did. -/
def driftKeptSpec : ChangeSpec := { name := "driftKept", fn := fun _ => fun
  | [d] => { results := [.lit (.bool true)], args := [d] }
  | _ => none }
def driftKeptRow : OpenClaim := { program := "ytkkgnalgmebfjaa", sum := "1e60024eaa93375d0dd6f6c838e49f244aa98dd05ec231932d8da820e9d47cbf", func := "polynya/polynyalaw02.DriftKept", spec := "driftKept", unfollowed := true, recurses := true, apart := false }
def DriftKeptSaid : Prop := driftKeptRow.holds Try.pinned (OpenSpec.ofChange driftKeptSpec)

/-- ITS FALSE NEIGHBOUR: 'it returns false'. Refute it at one input. -/
def driftKeptWrong : ChangeSpec := { name := "driftKept", fn := fun _ => fun
  | [d] => { results := [.lit (.bool false)], args := [d] }
  | _ => none }
def DriftKeptWrongFalsely : Prop := driftKeptRow.holds Try.pinned (OpenSpec.ofChange driftKeptWrong)

/-- 'polynyalaw02.DriftFlows': WHATEVER THE INPUT: true; the input reads as it did. -/
def driftFlowsSpec : ChangeSpec := { name := "driftFlows", fn := fun _ => fun
  | [d1, d2, d3, d4, d5, d6] => { results := [.lit (.bool true)], args := [d1, d2, d3, d4, d5, d6] }
  | _ => none }
def driftFlowsRow : OpenClaim := { program := "ytkkgnalgmebfjaa", sum := "1e60024eaa93375d0dd6f6c838e49f244aa98dd05ec231932d8da820e9d47cbf", func := "polynya/polynyalaw02.DriftFlows", spec := "driftFlows", unfollowed := true, recurses := true, apart := false }
def DriftFlowsSaid : Prop := driftFlowsRow.holds Try.pinned (OpenSpec.ofChange driftFlowsSpec)

/-- ITS FALSE NEIGHBOUR: 'it returns false'. Refute it at one input. -/
def driftFlowsWrong : ChangeSpec := { name := "driftFlows", fn := fun _ => fun
  | [d1, d2, d3, d4, d5, d6] => { results := [.lit (.bool false)], args := [d1, d2, d3, d4, d5, d6] }
  | _ => none }
def DriftFlowsWrongFalsely : Prop := driftFlowsRow.holds Try.pinned (OpenSpec.ofChange driftFlowsWrong)

/-- 'polynyalaw02.DriftFloes': WHATEVER THE INPUT: true; the input reads as it did. -/
def driftFloesSpec : ChangeSpec := { name := "driftFloes", fn := fun _ => fun
  | [d1, d2, d3] => { results := [.lit (.bool true)], args := [d1, d2, d3] }
  | _ => none }
def driftFloesRow : OpenClaim := { program := "ytkkgnalgmebfjaa", sum := "1e60024eaa93375d0dd6f6c838e49f244aa98dd05ec231932d8da820e9d47cbf", func := "polynya/polynyalaw02.DriftFloes", spec := "driftFloes", unfollowed := true, recurses := true, apart := false }
def DriftFloesSaid : Prop := driftFloesRow.holds Try.pinned (OpenSpec.ofChange driftFloesSpec)

/-- ITS FALSE NEIGHBOUR: 'it returns false'. Refute it at one input. -/
def driftFloesWrong : ChangeSpec := { name := "driftFloes", fn := fun _ => fun
  | [d1, d2, d3] => { results := [.lit (.bool false)], args := [d1, d2, d3] }
  | _ => none }
def DriftFloesWrongFalsely : Prop := driftFloesRow.holds Try.pinned (OpenSpec.ofChange driftFloesWrong)

/-- 'polynyalaw02.DriftFloats': WHATEVER THE INPUT: true; the input reads as it did. -/
def driftFloatsSpec : ChangeSpec := { name := "driftFloats", fn := fun _ => fun
  | [d1, d2] => { results := [.lit (.bool true)], args := [d1, d2] }
  | _ => none }
def driftFloatsRow : OpenClaim := { program := "ytkkgnalgmebfjaa", sum := "1e60024eaa93375d0dd6f6c838e49f244aa98dd05ec231932d8da820e9d47cbf", func := "polynya/polynyalaw02.DriftFloats", spec := "driftFloats", unfollowed := true, recurses := true, apart := false }
def DriftFloatsSaid : Prop := driftFloatsRow.holds Try.pinned (OpenSpec.ofChange driftFloatsSpec)

/-- ITS FALSE NEIGHBOUR: 'it returns false'. Refute it at one input. -/
def driftFloatsWrong : ChangeSpec := { name := "driftFloats", fn := fun _ => fun
  | [d1, d2] => { results := [.lit (.bool false)], args := [d1, d2] }
  | _ => none }
def DriftFloatsWrongFalsely : Prop := driftFloatsRow.holds Try.pinned (OpenSpec.ofChange driftFloatsWrong)

/-- 'polynyalaw02.DriftTight': WHATEVER THE INPUT: true; the input reads as it did. -/
def driftTightSpec : ChangeSpec := { name := "driftTight", fn := fun _ => fun
  | [d1, d2, d3] => { results := [.lit (.bool true)], args := [d1, d2, d3] }
  | _ => none }
def driftTightRow : OpenClaim := { program := "ytkkgnalgmebfjaa", sum := "1e60024eaa93375d0dd6f6c838e49f244aa98dd05ec231932d8da820e9d47cbf", func := "polynya/polynyalaw02.DriftTight", spec := "driftTight", unfollowed := true, recurses := true, apart := false }
def DriftTightSaid : Prop := driftTightRow.holds Try.pinned (OpenSpec.ofChange driftTightSpec)

/-- ITS FALSE NEIGHBOUR: 'it returns false'. Refute it at one input. -/
def driftTightWrong : ChangeSpec := { name := "driftTight", fn := fun _ => fun
  | [d1, d2, d3] => { results := [.lit (.bool false)], args := [d1, d2, d3] }
  | _ => none }
def DriftTightWrongFalsely : Prop := driftTightRow.holds Try.pinned (OpenSpec.ofChange driftTightWrong)

/-- 'polynyalaw02.DriftLeads': WHATEVER THE INPUT: true; the input reads as it did. -/
def driftLeadsSpec : ChangeSpec := { name := "driftLeads", fn := fun _ => fun
  | [d1, d2, d3, d4, d5] => { results := [.lit (.bool true)], args := [d1, d2, d3, d4, d5] }
  | _ => none }
def driftLeadsRow : OpenClaim := { program := "ytkkgnalgmebfjaa", sum := "1e60024eaa93375d0dd6f6c838e49f244aa98dd05ec231932d8da820e9d47cbf", func := "polynya/polynyalaw02.DriftLeads", spec := "driftLeads", unfollowed := true, recurses := true, apart := false }
def DriftLeadsSaid : Prop := driftLeadsRow.holds Try.pinned (OpenSpec.ofChange driftLeadsSpec)

/-- ITS FALSE NEIGHBOUR: 'it returns false'. Refute it at one input. -/
def driftLeadsWrong : ChangeSpec := { name := "driftLeads", fn := fun _ => fun
  | [d1, d2, d3, d4, d5] => { results := [.lit (.bool false)], args := [d1, d2, d3, d4, d5] }
  | _ => none }
def DriftLeadsWrongFalsely : Prop := driftLeadsRow.holds Try.pinned (OpenSpec.ofChange driftLeadsWrong)

/-- 'polynyalaw02.DriftInside': WHATEVER THE INPUT: true; the input reads as it did. -/
def driftInsideSpec : ChangeSpec := { name := "driftInside", fn := fun _ => fun
  | [d1, d2] => { results := [.lit (.bool true)], args := [d1, d2] }
  | _ => none }
def driftInsideRow : OpenClaim := { program := "ytkkgnalgmebfjaa", sum := "1e60024eaa93375d0dd6f6c838e49f244aa98dd05ec231932d8da820e9d47cbf", func := "polynya/polynyalaw02.DriftInside", spec := "driftInside", unfollowed := true, recurses := true, apart := false }
def DriftInsideSaid : Prop := driftInsideRow.holds Try.pinned (OpenSpec.ofChange driftInsideSpec)

/-- ITS FALSE NEIGHBOUR: 'it returns false'. Refute it at one input. -/
def driftInsideWrong : ChangeSpec := { name := "driftInside", fn := fun _ => fun
  | [d1, d2] => { results := [.lit (.bool false)], args := [d1, d2] }
  | _ => none }
def DriftInsideWrongFalsely : Prop := driftInsideRow.holds Try.pinned (OpenSpec.ofChange driftInsideWrong)

/-- 'polynyalaw02.DriftHolds': WHATEVER THE INPUT: true; the input reads as it did. -/
def driftHoldsSpec : ChangeSpec := { name := "driftHolds", fn := fun _ => fun
  | [d1, d2] => { results := [.lit (.bool true)], args := [d1, d2] }
  | _ => none }
def driftHoldsRow : OpenClaim := { program := "ytkkgnalgmebfjaa", sum := "1e60024eaa93375d0dd6f6c838e49f244aa98dd05ec231932d8da820e9d47cbf", func := "polynya/polynyalaw02.DriftHolds", spec := "driftHolds", unfollowed := true, recurses := true, apart := false }
def DriftHoldsSaid : Prop := driftHoldsRow.holds Try.pinned (OpenSpec.ofChange driftHoldsSpec)

/-- ITS FALSE NEIGHBOUR: 'it returns false'. Refute it at one input. -/
def driftHoldsWrong : ChangeSpec := { name := "driftHolds", fn := fun _ => fun
  | [d1, d2] => { results := [.lit (.bool false)], args := [d1, d2] }
  | _ => none }
def DriftHoldsWrongFalsely : Prop := driftHoldsRow.holds Try.pinned (OpenSpec.ofChange driftHoldsWrong)

/- THE SECOND FORM. 'bulk': how many values and letters a reading holds, each counted each time it is reached (what is shared counts as often as it is met; a slice's spare places count too). A statement '..UptoSaid' is the law's where the arguments, and the package variables that the reading takes, are together of bulk at most 1048576: NARROWER than '..Said'. Prove '..Said' where nothing that the law and all that it calls make is longer than what came in: it says more and counts as full. Else prove '..UptoSaid'. A law counts once. -/
mutual
def uptoBulk {H : Type} : DataW H → Nat
  | .lit (.string bytes) => bytes.length + 1
  | .lit _ => 1
  | .nil => 1
  | .ptr d => uptoBulk d + 1
  | .slice elems spare => uptoBulkAll elems + uptoBulkAll spare + 1
  | .agg parts => uptoBulkAll parts + 1
  | .iface _ d => uptoBulk d + 1
  | .map entries => uptoBulkEntries entries + 1
  | .held _ => 1
def uptoBulkAll {H : Type} : List (DataW H) → Nat
  | [] => 0
  | d :: r => uptoBulk d + uptoBulkAll r
def uptoBulkEntries {H : Type} : List (Lit × DataW H) → Nat
  | [] => 0
  | x :: r => uptoBulkEntry x + uptoBulkEntries r
def uptoBulkEntry {H : Type} : Lit × DataW H → Nat
  | (.string bytes, d) => bytes.length + uptoBulk d + 1
  | (_, d) => uptoBulk d + 1
 end
def uptoSmall : (H : Type) → List (DataW H) → Bool := fun _ ds => decide (uptoBulkAll ds ≤ 1048576)
def OpenSpec.upto (s : _root_.Go.ChangeSpec) : _root_.Go.OpenSpec := { _root_.Go.OpenSpec.ofChange s with cond := some uptoSmall }

/-- 'polynyalaw02.DriftKept', WHERE WHAT IT READS IS OF BULK AT MOST 1048576: true; the input reads as it did. -/
def driftKeptUptoRow : OpenClaim := { program := "ytkkgnalgmebfjaa", sum := "1e60024eaa93375d0dd6f6c838e49f244aa98dd05ec231932d8da820e9d47cbf", func := "polynya/polynyalaw02.DriftKept", spec := "driftKept", unfollowed := true, recurses := true, apart := false, narrowed := true }
def DriftKeptUptoSaid : Prop := driftKeptUptoRow.holds Try.pinned (OpenSpec.upto driftKeptSpec)

/-- 'polynyalaw02.DriftFlows', WHERE WHAT IT READS IS OF BULK AT MOST 1048576: true; the input reads as it did. -/
def driftFlowsUptoRow : OpenClaim := { program := "ytkkgnalgmebfjaa", sum := "1e60024eaa93375d0dd6f6c838e49f244aa98dd05ec231932d8da820e9d47cbf", func := "polynya/polynyalaw02.DriftFlows", spec := "driftFlows", unfollowed := true, recurses := true, apart := false, narrowed := true }
def DriftFlowsUptoSaid : Prop := driftFlowsUptoRow.holds Try.pinned (OpenSpec.upto driftFlowsSpec)

/-- 'polynyalaw02.DriftFloes', WHERE WHAT IT READS IS OF BULK AT MOST 1048576: true; the input reads as it did. -/
def driftFloesUptoRow : OpenClaim := { program := "ytkkgnalgmebfjaa", sum := "1e60024eaa93375d0dd6f6c838e49f244aa98dd05ec231932d8da820e9d47cbf", func := "polynya/polynyalaw02.DriftFloes", spec := "driftFloes", unfollowed := true, recurses := true, apart := false, narrowed := true }
def DriftFloesUptoSaid : Prop := driftFloesUptoRow.holds Try.pinned (OpenSpec.upto driftFloesSpec)

/-- 'polynyalaw02.DriftFloats', WHERE WHAT IT READS IS OF BULK AT MOST 1048576: true; the input reads as it did. -/
def driftFloatsUptoRow : OpenClaim := { program := "ytkkgnalgmebfjaa", sum := "1e60024eaa93375d0dd6f6c838e49f244aa98dd05ec231932d8da820e9d47cbf", func := "polynya/polynyalaw02.DriftFloats", spec := "driftFloats", unfollowed := true, recurses := true, apart := false, narrowed := true }
def DriftFloatsUptoSaid : Prop := driftFloatsUptoRow.holds Try.pinned (OpenSpec.upto driftFloatsSpec)

/-- 'polynyalaw02.DriftTight', WHERE WHAT IT READS IS OF BULK AT MOST 1048576: true; the input reads as it did. -/
def driftTightUptoRow : OpenClaim := { program := "ytkkgnalgmebfjaa", sum := "1e60024eaa93375d0dd6f6c838e49f244aa98dd05ec231932d8da820e9d47cbf", func := "polynya/polynyalaw02.DriftTight", spec := "driftTight", unfollowed := true, recurses := true, apart := false, narrowed := true }
def DriftTightUptoSaid : Prop := driftTightUptoRow.holds Try.pinned (OpenSpec.upto driftTightSpec)

/-- 'polynyalaw02.DriftLeads', WHERE WHAT IT READS IS OF BULK AT MOST 1048576: true; the input reads as it did. -/
def driftLeadsUptoRow : OpenClaim := { program := "ytkkgnalgmebfjaa", sum := "1e60024eaa93375d0dd6f6c838e49f244aa98dd05ec231932d8da820e9d47cbf", func := "polynya/polynyalaw02.DriftLeads", spec := "driftLeads", unfollowed := true, recurses := true, apart := false, narrowed := true }
def DriftLeadsUptoSaid : Prop := driftLeadsUptoRow.holds Try.pinned (OpenSpec.upto driftLeadsSpec)

/-- 'polynyalaw02.DriftInside', WHERE WHAT IT READS IS OF BULK AT MOST 1048576: true; the input reads as it did. -/
def driftInsideUptoRow : OpenClaim := { program := "ytkkgnalgmebfjaa", sum := "1e60024eaa93375d0dd6f6c838e49f244aa98dd05ec231932d8da820e9d47cbf", func := "polynya/polynyalaw02.DriftInside", spec := "driftInside", unfollowed := true, recurses := true, apart := false, narrowed := true }
def DriftInsideUptoSaid : Prop := driftInsideUptoRow.holds Try.pinned (OpenSpec.upto driftInsideSpec)

/-- 'polynyalaw02.DriftHolds', WHERE WHAT IT READS IS OF BULK AT MOST 1048576: true; the input reads as it did. -/
def driftHoldsUptoRow : OpenClaim := { program := "ytkkgnalgmebfjaa", sum := "1e60024eaa93375d0dd6f6c838e49f244aa98dd05ec231932d8da820e9d47cbf", func := "polynya/polynyalaw02.DriftHolds", spec := "driftHolds", unfollowed := true, recurses := true, apart := false, narrowed := true }
def DriftHoldsUptoSaid : Prop := driftHoldsUptoRow.holds Try.pinned (OpenSpec.upto driftHoldsSpec)

end Rows
end Go.Proofs.Ytkkgnalgmebfjaa
