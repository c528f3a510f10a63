/-
  No cell of these rows narrows 'for every input' (looked for: loops, veiled, ifaces, maps, wideKeys, modest, calm, conditions, laid).
  DERIVED. THE GIVEN ROWS OF THIS SEAT. 5 by the template 'for every input the law returns true; each argument reads behind the call as it read before'; 0 by the template 'total and deterministic' (their statements: YthcjliffpebjaaaTotals.lean).
  GIVEN WITH THE SEED: the statements are not yours to turn. If you find one false, say at which input.
  Laid BY PROGRAM, IN A SANDBOX (cutbox-rows.mjs): the forced cells as the released guide's own fill.sh prints them over the translation 9b056e81a45760da… (all of the seat's roots in one cut). By AI agents, Wed Nov 11 2026. No macro, syntax, notation, axiom, sorry.
-/
import Derived.Test.YthcjliffpebjaaaChecked
import GoSem.Claim
import GoSem.ClaimJoined
import GoSem.ClaimMapViews
import Derived.JoinedTies
import Derived.KernelRfl
namespace Go.Proofs.Ythcjliffpebjaaa
/- THE CELL 'sum', in the pinned program and in every row, IS THE sha256 OF THE DUMP (.gsa) THAT YthcjliffpebjaaaProg.lean LOADS. Nothing in Lean hashes anything: it is a label: what it is worth is what the hold of that sum in a sandbox is worth. -/
noncomputable def Try.pinned : Pinned := { name := "ythcjliffpebjaaa", sum := "9b056e81a45760da645eafb3ff46a1057d3bf5db71d4392c5f1e9324ffc523c7", checked := Try.checked }
namespace Rows
def none {H : Type} : Left H := { results := [], args := [] }

/-- 'polynyalaw01.IceBlames': WHATEVER THE INPUT: true; the input reads as it did. -/
def iceBlamesSpec : ChangeSpec := { name := "iceBlames", fn := fun _ => fun
  | [d1, d2, d3] => { results := [.lit (.bool true)], args := [d1, d2, d3] }
  | _ => none }
def iceBlamesRow : OpenClaim := { program := "ythcjliffpebjaaa", sum := "9b056e81a45760da645eafb3ff46a1057d3bf5db71d4392c5f1e9324ffc523c7", func := "polynya/polynyalaw01.IceBlames", spec := "iceBlames", unfollowed := true, recurses := true, apart := false }
def IceBlamesSaid : Prop := iceBlamesRow.holds Try.pinned (OpenSpec.ofChange iceBlamesSpec)

/-- ITS FALSE NEIGHBOUR: 'it returns false'. Refute it at one input. -/
def iceBlamesWrong : ChangeSpec := { name := "iceBlames", fn := fun _ => fun
  | [d1, d2, d3] => { results := [.lit (.bool false)], args := [d1, d2, d3] }
  | _ => none }
def IceBlamesWrongFalsely : Prop := iceBlamesRow.holds Try.pinned (OpenSpec.ofChange iceBlamesWrong)

/-- 'polynyalaw01.IceGuilt': WHATEVER THE INPUT: true; the input reads as it did. -/
def iceGuiltSpec : ChangeSpec := { name := "iceGuilt", fn := fun _ => fun
  | [d1, d2] => { results := [.lit (.bool true)], args := [d1, d2] }
  | _ => none }
def iceGuiltRow : OpenClaim := { program := "ythcjliffpebjaaa", sum := "9b056e81a45760da645eafb3ff46a1057d3bf5db71d4392c5f1e9324ffc523c7", func := "polynya/polynyalaw01.IceGuilt", spec := "iceGuilt", unfollowed := true, recurses := true, apart := false }
def IceGuiltSaid : Prop := iceGuiltRow.holds Try.pinned (OpenSpec.ofChange iceGuiltSpec)

/-- ITS FALSE NEIGHBOUR: 'it returns false'. Refute it at one input. -/
def iceGuiltWrong : ChangeSpec := { name := "iceGuilt", fn := fun _ => fun
  | [d1, d2] => { results := [.lit (.bool false)], args := [d1, d2] }
  | _ => none }
def IceGuiltWrongFalsely : Prop := iceGuiltRow.holds Try.pinned (OpenSpec.ofChange iceGuiltWrong)

/-- 'polynyalaw01.IceAges': WHATEVER THE INPUT: true; the input reads as it did. -/
def iceAgesSpec : ChangeSpec := { name := "iceAges", fn := fun _ => fun
  | [d1, d2, d3, d4] => { results := [.lit (.bool true)], args := [d1, d2, d3, d4] }
  | _ => none }
def iceAgesRow : OpenClaim := { program := "ythcjliffpebjaaa", sum := "9b056e81a45760da645eafb3ff46a1057d3bf5db71d4392c5f1e9324ffc523c7", func := "polynya/polynyalaw01.IceAges", spec := "iceAges", unfollowed := true, recurses := true, apart := false }
def IceAgesSaid : Prop := iceAgesRow.holds Try.pinned (OpenSpec.ofChange iceAgesSpec)

/-- ITS FALSE NEIGHBOUR: 'it returns false'. Refute it at one input. -/
def iceAgesWrong : ChangeSpec := { name := "iceAges", fn := fun _ => fun
  | [d1, d2, d3, d4] => { results := [.lit (.bool false)], args := [d1, d2, d3, d4] }
  | _ => none }
def IceAgesWrongFalsely : Prop := iceAgesRow.holds Try.pinned (OpenSpec.ofChange iceAgesWrong)

/-- 'polynyalaw01.IceHolds': WHATEVER THE INPUT: true; the input reads as it did. -/
def iceHoldsSpec : ChangeSpec := { name := "iceHolds", fn := fun _ => fun
  | [d1, d2, d3, d4, d5, d6, d7] => { results := [.lit (.bool true)], args := [d1, d2, d3, d4, d5, d6, d7] }
  | _ => none }
def iceHoldsRow : OpenClaim := { program := "ythcjliffpebjaaa", sum := "9b056e81a45760da645eafb3ff46a1057d3bf5db71d4392c5f1e9324ffc523c7", func := "polynya/polynyalaw01.IceHolds", spec := "iceHolds", unfollowed := true, recurses := true, apart := false }
def IceHoldsSaid : Prop := iceHoldsRow.holds Try.pinned (OpenSpec.ofChange iceHoldsSpec)

/-- ITS FALSE NEIGHBOUR: 'it returns false'. Refute it at one input. -/
def iceHoldsWrong : ChangeSpec := { name := "iceHolds", fn := fun _ => fun
  | [d1, d2, d3, d4, d5, d6, d7] => { results := [.lit (.bool false)], args := [d1, d2, d3, d4, d5, d6, d7] }
  | _ => none }
def IceHoldsWrongFalsely : Prop := iceHoldsRow.holds Try.pinned (OpenSpec.ofChange iceHoldsWrong)

/-- 'polynyalaw01.IceLattice': WHATEVER THE INPUT: true; the input reads as it did. -/
def iceLatticeSpec : ChangeSpec := { name := "iceLattice", fn := fun _ => fun
  | [d1, d2, d3, d4, d5] => { results := [.lit (.bool true)], args := [d1, d2, d3, d4, d5] }
  | _ => none }
def iceLatticeRow : OpenClaim := { program := "ythcjliffpebjaaa", sum := "9b056e81a45760da645eafb3ff46a1057d3bf5db71d4392c5f1e9324ffc523c7", func := "polynya/polynyalaw01.IceLattice", spec := "iceLattice", unfollowed := true, recurses := true, apart := false }
def IceLatticeSaid : Prop := iceLatticeRow.holds Try.pinned (OpenSpec.ofChange iceLatticeSpec)

/-- ITS FALSE NEIGHBOUR: 'it returns false'. Refute it at one input. -/
def iceLatticeWrong : ChangeSpec := { name := "iceLattice", fn := fun _ => fun
  | [d1, d2, d3, d4, d5] => { results := [.lit (.bool false)], args := [d1, d2, d3, d4, d5] }
  | _ => none }
def IceLatticeWrongFalsely : Prop := iceLatticeRow.holds Try.pinned (OpenSpec.ofChange iceLatticeWrong)

/- THE SECOND FORM. 'bulk': how many values and letters a reading holds, each counted each time it is reached (what is shared counts as often as it is met; a slice's spare places count too). A statement '..UptoSaid' is the law's where the arguments, and the package variables that the reading takes, are together of bulk at most 1048576: NARROWER than '..Said'. Prove '..Said' where nothing that the law and all that it calls make is longer than what came in: it says more and counts as full. Else prove '..UptoSaid'. A law counts once. -/
mutual
def uptoBulk {H : Type} : DataW H → Nat
  | .lit (.string bytes) => bytes.length + 1
  | .lit _ => 1
  | .nil => 1
  | .ptr d => uptoBulk d + 1
  | .slice elems spare => uptoBulkAll elems + uptoBulkAll spare + 1
  | .agg parts => uptoBulkAll parts + 1
  | .iface _ d => uptoBulk d + 1
  | .map entries => uptoBulkEntries entries + 1
  | .held _ => 1
def uptoBulkAll {H : Type} : List (DataW H) → Nat
  | [] => 0
  | d :: r => uptoBulk d + uptoBulkAll r
def uptoBulkEntries {H : Type} : List (Lit × DataW H) → Nat
  | [] => 0
  | x :: r => uptoBulkEntry x + uptoBulkEntries r
def uptoBulkEntry {H : Type} : Lit × DataW H → Nat
  | (.string bytes, d) => bytes.length + uptoBulk d + 1
  | (_, d) => uptoBulk d + 1
 end
def uptoSmall : (H : Type) → List (DataW H) → Bool := fun _ ds => decide (uptoBulkAll ds ≤ 1048576)
def OpenSpec.upto (s : _root_.Go.ChangeSpec) : _root_.Go.OpenSpec := { _root_.Go.OpenSpec.ofChange s with cond := some uptoSmall }

/-- 'polynyalaw01.IceBlames', WHERE WHAT IT READS IS OF BULK AT MOST 1048576: true; the input reads as it did. -/
def iceBlamesUptoRow : OpenClaim := { program := "ythcjliffpebjaaa", sum := "9b056e81a45760da645eafb3ff46a1057d3bf5db71d4392c5f1e9324ffc523c7", func := "polynya/polynyalaw01.IceBlames", spec := "iceBlames", unfollowed := true, recurses := true, apart := false, narrowed := true }
def IceBlamesUptoSaid : Prop := iceBlamesUptoRow.holds Try.pinned (OpenSpec.upto iceBlamesSpec)

/-- 'polynyalaw01.IceGuilt', WHERE WHAT IT READS IS OF BULK AT MOST 1048576: true; the input reads as it did. -/
def iceGuiltUptoRow : OpenClaim := { program := "ythcjliffpebjaaa", sum := "9b056e81a45760da645eafb3ff46a1057d3bf5db71d4392c5f1e9324ffc523c7", func := "polynya/polynyalaw01.IceGuilt", spec := "iceGuilt", unfollowed := true, recurses := true, apart := false, narrowed := true }
def IceGuiltUptoSaid : Prop := iceGuiltUptoRow.holds Try.pinned (OpenSpec.upto iceGuiltSpec)

/-- 'polynyalaw01.IceAges', WHERE WHAT IT READS IS OF BULK AT MOST 1048576: true; the input reads as it did. -/
def iceAgesUptoRow : OpenClaim := { program := "ythcjliffpebjaaa", sum := "9b056e81a45760da645eafb3ff46a1057d3bf5db71d4392c5f1e9324ffc523c7", func := "polynya/polynyalaw01.IceAges", spec := "iceAges", unfollowed := true, recurses := true, apart := false, narrowed := true }
def IceAgesUptoSaid : Prop := iceAgesUptoRow.holds Try.pinned (OpenSpec.upto iceAgesSpec)

/-- 'polynyalaw01.IceHolds', WHERE WHAT IT READS IS OF BULK AT MOST 1048576: true; the input reads as it did. -/
def iceHoldsUptoRow : OpenClaim := { program := "ythcjliffpebjaaa", sum := "9b056e81a45760da645eafb3ff46a1057d3bf5db71d4392c5f1e9324ffc523c7", func := "polynya/polynyalaw01.IceHolds", spec := "iceHolds", unfollowed := true, recurses := true, apart := false, narrowed := true }
def IceHoldsUptoSaid : Prop := iceHoldsUptoRow.holds Try.pinned (OpenSpec.upto iceHoldsSpec)

/-- 'polynyalaw01.IceLattice', WHERE WHAT IT READS IS OF BULK AT MOST 1048576: true; the input reads as it did. -/
def iceLatticeUptoRow : OpenClaim := { program := "ythcjliffpebjaaa", sum := "9b056e81a45760da645eafb3ff46a1057d3bf5db71d4392c5f1e9324ffc523c7", func := "polynya/polynyalaw01.IceLattice", spec := "iceLattice", unfollowed := true, recurses := true, apart := false, narrowed := true }
def IceLatticeUptoSaid : Prop := iceLatticeUptoRow.holds Try.pinned (OpenSpec.upto iceLatticeSpec)

end Rows
end Go.Proofs.Ythcjliffpebjaaa
