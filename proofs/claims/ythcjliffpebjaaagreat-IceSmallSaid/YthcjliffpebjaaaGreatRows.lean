/-
  No cell of these rows narrows 'for every input' (looked for: loops, veiled, ifaces, maps, wideKeys, modest, calm, conditions, laid).
  DERIVED. THE GIVEN ROWS OF THIS SEAT. 6 by the template 'for every input the law returns true; each argument reads behind the call as it read before'; 0 by the template 'total and deterministic' (their statements: YthcjliffpebjaaaGreatTotals.lean).
  GIVEN WITH THE SEED: the statements are not yours to turn. If you find one false, say at which input.
  Laid BY PROGRAM, IN A SANDBOX (cutbox-rows.mjs): the forced cells as the released guide's own fill.sh prints them over the translation 600247301d99dadd… (all of the seat's roots in one cut). By AI agents, Wed Nov 11 2026. No macro, syntax, notation, axiom, sorry.
-/
import Derived.Test.YthcjliffpebjaaaGreatChecked
import GoSem.Claim
import GoSem.ClaimJoined
import GoSem.ClaimMapViews
import Derived.JoinedTies
import Derived.KernelRfl
namespace Go.Proofs.YthcjliffpebjaaaGreat
/- THE CELL 'sum', in the pinned program and in every row, IS THE sha256 OF THE DUMP (.gsa) THAT YthcjliffpebjaaaGreatProg.lean LOADS. Nothing in Lean hashes anything: it is a label: what it is worth is what the hold of that sum in a sandbox is worth. -/
noncomputable def Tryz.pinned : Pinned := { name := "ythcjliffpebjaaagreat", sum := "600247301d99dadd1e83413b184f3abcb337cafab0eee391a88f9e6c38af9b5b", checked := Tryz.checked }
namespace Rows
def none {H : Type} : Left H := { results := [], args := [] }

/-- 'polynyalaw01.IceReports': WHATEVER THE INPUT: true; the input reads as it did. -/
def iceReportsSpec : ChangeSpec := { name := "iceReports", fn := fun _ => fun
  | [d1, d2, d3] => { results := [.lit (.bool true)], args := [d1, d2, d3] }
  | _ => none }
def iceReportsRow : OpenClaim := { program := "ythcjliffpebjaaagreat", sum := "600247301d99dadd1e83413b184f3abcb337cafab0eee391a88f9e6c38af9b5b", func := "polynya/polynyalaw01.IceReports", spec := "iceReports", unfollowed := true, recurses := true, plainKeys := false, apart := false }
def IceReportsSaid : Prop := iceReportsRow.holds Tryz.pinned (OpenSpec.ofChange iceReportsSpec)

/-- ITS FALSE NEIGHBOUR: 'it returns false'. Refute it at one input. -/
def iceReportsWrong : ChangeSpec := { name := "iceReports", fn := fun _ => fun
  | [d1, d2, d3] => { results := [.lit (.bool false)], args := [d1, d2, d3] }
  | _ => none }
def IceReportsWrongFalsely : Prop := iceReportsRow.holds Tryz.pinned (OpenSpec.ofChange iceReportsWrong)

/-- 'polynyalaw01.IceCells': WHATEVER THE INPUT: true; the input reads as it did. -/
def iceCellsSpec : ChangeSpec := { name := "iceCells", fn := fun _ => fun
  | [d1, d2, d3, d4, d5, d6] => { results := [.lit (.bool true)], args := [d1, d2, d3, d4, d5, d6] }
  | _ => none }
def iceCellsRow : OpenClaim := { program := "ythcjliffpebjaaagreat", sum := "600247301d99dadd1e83413b184f3abcb337cafab0eee391a88f9e6c38af9b5b", func := "polynya/polynyalaw01.IceCells", spec := "iceCells", unfollowed := true, recurses := true, plainKeys := false, apart := false }
def IceCellsSaid : Prop := iceCellsRow.holds Tryz.pinned (OpenSpec.ofChange iceCellsSpec)

/-- ITS FALSE NEIGHBOUR: 'it returns false'. Refute it at one input. -/
def iceCellsWrong : ChangeSpec := { name := "iceCells", fn := fun _ => fun
  | [d1, d2, d3, d4, d5, d6] => { results := [.lit (.bool false)], args := [d1, d2, d3, d4, d5, d6] }
  | _ => none }
def IceCellsWrongFalsely : Prop := iceCellsRow.holds Tryz.pinned (OpenSpec.ofChange iceCellsWrong)

/-- 'polynyalaw01.IceCharts': WHATEVER THE INPUT: true; the input reads as it did. -/
def iceChartsSpec : ChangeSpec := { name := "iceCharts", fn := fun _ => fun
  | [d1, d2, d3, d4, d5] => { results := [.lit (.bool true)], args := [d1, d2, d3, d4, d5] }
  | _ => none }
def iceChartsRow : OpenClaim := { program := "ythcjliffpebjaaagreat", sum := "600247301d99dadd1e83413b184f3abcb337cafab0eee391a88f9e6c38af9b5b", func := "polynya/polynyalaw01.IceCharts", spec := "iceCharts", unfollowed := true, recurses := true, plainKeys := false, apart := false }
def IceChartsSaid : Prop := iceChartsRow.holds Tryz.pinned (OpenSpec.ofChange iceChartsSpec)

/-- ITS FALSE NEIGHBOUR: 'it returns false'. Refute it at one input. -/
def iceChartsWrong : ChangeSpec := { name := "iceCharts", fn := fun _ => fun
  | [d1, d2, d3, d4, d5] => { results := [.lit (.bool false)], args := [d1, d2, d3, d4, d5] }
  | _ => none }
def IceChartsWrongFalsely : Prop := iceChartsRow.holds Tryz.pinned (OpenSpec.ofChange iceChartsWrong)

/-- 'polynyalaw01.IceDraws': WHATEVER THE INPUT: true; the input reads as it did. -/
def iceDrawsSpec : ChangeSpec := { name := "iceDraws", fn := fun _ => fun
  | [d1, d2, d3, d4, d5] => { results := [.lit (.bool true)], args := [d1, d2, d3, d4, d5] }
  | _ => none }
def iceDrawsRow : OpenClaim := { program := "ythcjliffpebjaaagreat", sum := "600247301d99dadd1e83413b184f3abcb337cafab0eee391a88f9e6c38af9b5b", func := "polynya/polynyalaw01.IceDraws", spec := "iceDraws", unfollowed := true, recurses := true, plainKeys := false, apart := false }
def IceDrawsSaid : Prop := iceDrawsRow.holds Tryz.pinned (OpenSpec.ofChange iceDrawsSpec)

/-- ITS FALSE NEIGHBOUR: 'it returns false'. Refute it at one input. -/
def iceDrawsWrong : ChangeSpec := { name := "iceDraws", fn := fun _ => fun
  | [d1, d2, d3, d4, d5] => { results := [.lit (.bool false)], args := [d1, d2, d3, d4, d5] }
  | _ => none }
def IceDrawsWrongFalsely : Prop := iceDrawsRow.holds Tryz.pinned (OpenSpec.ofChange iceDrawsWrong)

/-- 'polynyalaw01.IceDrawn': WHATEVER THE INPUT: true; the input reads as it did. -/
def iceDrawnSpec : ChangeSpec := { name := "iceDrawn", fn := fun _ => fun
  | [d1, d2, d3] => { results := [.lit (.bool true)], args := [d1, d2, d3] }
  | _ => none }
def iceDrawnRow : OpenClaim := { program := "ythcjliffpebjaaagreat", sum := "600247301d99dadd1e83413b184f3abcb337cafab0eee391a88f9e6c38af9b5b", func := "polynya/polynyalaw01.IceDrawn", spec := "iceDrawn", unfollowed := true, recurses := true, plainKeys := false, apart := false }
def IceDrawnSaid : Prop := iceDrawnRow.holds Tryz.pinned (OpenSpec.ofChange iceDrawnSpec)

/-- ITS FALSE NEIGHBOUR: 'it returns false'. Refute it at one input. -/
def iceDrawnWrong : ChangeSpec := { name := "iceDrawn", fn := fun _ => fun
  | [d1, d2, d3] => { results := [.lit (.bool false)], args := [d1, d2, d3] }
  | _ => none }
def IceDrawnWrongFalsely : Prop := iceDrawnRow.holds Tryz.pinned (OpenSpec.ofChange iceDrawnWrong)

/-- 'polynyalaw01.IceSmall': WHATEVER THE INPUT: true; the input reads as it did. -/
def iceSmallSpec : ChangeSpec := { name := "iceSmall", fn := fun _ => fun
  | [] => { results := [.lit (.bool true)], args := [] }
  | _ => none }
def iceSmallRow : OpenClaim := { program := "ythcjliffpebjaaagreat", sum := "600247301d99dadd1e83413b184f3abcb337cafab0eee391a88f9e6c38af9b5b", func := "polynya/polynyalaw01.IceSmall", spec := "iceSmall", unfollowed := true, recurses := true, plainKeys := false, apart := false }
def IceSmallSaid : Prop := iceSmallRow.holds Tryz.pinned (OpenSpec.ofChange iceSmallSpec)

/-- ITS FALSE NEIGHBOUR: 'it returns false'. Refute it at one input. -/
def iceSmallWrong : ChangeSpec := { name := "iceSmall", fn := fun _ => fun
  | [] => { results := [.lit (.bool false)], args := [] }
  | _ => none }
def IceSmallWrongFalsely : Prop := iceSmallRow.holds Tryz.pinned (OpenSpec.ofChange iceSmallWrong)

/- THE SECOND FORM. 'bulk': how many values and letters a reading holds, each counted each time it is reached (what is shared counts as often as it is met; a slice's spare places count too). A statement '..UptoSaid' is the law's where the arguments, and the package variables that the reading takes, are together of bulk at most 1048576: NARROWER than '..Said'. Prove '..Said' where nothing that the law and all that it calls make is longer than what came in: it says more and counts as full. Else prove '..UptoSaid'. A law counts once. -/
mutual
def uptoBulk {H : Type} : DataW H → Nat
  | .lit (.string bytes) => bytes.length + 1
  | .lit _ => 1
  | .nil => 1
  | .ptr d => uptoBulk d + 1
  | .slice elems spare => uptoBulkAll elems + uptoBulkAll spare + 1
  | .agg parts => uptoBulkAll parts + 1
  | .iface _ d => uptoBulk d + 1
  | .map entries => uptoBulkEntries entries + 1
  | .held _ => 1
def uptoBulkAll {H : Type} : List (DataW H) → Nat
  | [] => 0
  | d :: r => uptoBulk d + uptoBulkAll r
def uptoBulkEntries {H : Type} : List (Lit × DataW H) → Nat
  | [] => 0
  | x :: r => uptoBulkEntry x + uptoBulkEntries r
def uptoBulkEntry {H : Type} : Lit × DataW H → Nat
  | (.string bytes, d) => bytes.length + uptoBulk d + 1
  | (_, d) => uptoBulk d + 1
 end
def uptoSmall : (H : Type) → List (DataW H) → Bool := fun _ ds => decide (uptoBulkAll ds ≤ 1048576)
def OpenSpec.upto (s : _root_.Go.ChangeSpec) : _root_.Go.OpenSpec := { _root_.Go.OpenSpec.ofChange s with cond := some uptoSmall }

/-- 'polynyalaw01.IceReports', WHERE WHAT IT READS IS OF BULK AT MOST 1048576: true; the input reads as it did. -/
def iceReportsUptoRow : OpenClaim := { program := "ythcjliffpebjaaagreat", sum := "600247301d99dadd1e83413b184f3abcb337cafab0eee391a88f9e6c38af9b5b", func := "polynya/polynyalaw01.IceReports", spec := "iceReports", unfollowed := true, recurses := true, plainKeys := false, apart := false, narrowed := true }
def IceReportsUptoSaid : Prop := iceReportsUptoRow.holds Tryz.pinned (OpenSpec.upto iceReportsSpec)

/-- 'polynyalaw01.IceCells', WHERE WHAT IT READS IS OF BULK AT MOST 1048576: true; the input reads as it did. -/
def iceCellsUptoRow : OpenClaim := { program := "ythcjliffpebjaaagreat", sum := "600247301d99dadd1e83413b184f3abcb337cafab0eee391a88f9e6c38af9b5b", func := "polynya/polynyalaw01.IceCells", spec := "iceCells", unfollowed := true, recurses := true, plainKeys := false, apart := false, narrowed := true }
def IceCellsUptoSaid : Prop := iceCellsUptoRow.holds Tryz.pinned (OpenSpec.upto iceCellsSpec)

/-- 'polynyalaw01.IceCharts', WHERE WHAT IT READS IS OF BULK AT MOST 1048576: true; the input reads as it did. -/
def iceChartsUptoRow : OpenClaim := { program := "ythcjliffpebjaaagreat", sum := "600247301d99dadd1e83413b184f3abcb337cafab0eee391a88f9e6c38af9b5b", func := "polynya/polynyalaw01.IceCharts", spec := "iceCharts", unfollowed := true, recurses := true, plainKeys := false, apart := false, narrowed := true }
def IceChartsUptoSaid : Prop := iceChartsUptoRow.holds Tryz.pinned (OpenSpec.upto iceChartsSpec)

/-- 'polynyalaw01.IceDraws', WHERE WHAT IT READS IS OF BULK AT MOST 1048576: true; the input reads as it did. -/
def iceDrawsUptoRow : OpenClaim := { program := "ythcjliffpebjaaagreat", sum := "600247301d99dadd1e83413b184f3abcb337cafab0eee391a88f9e6c38af9b5b", func := "polynya/polynyalaw01.IceDraws", spec := "iceDraws", unfollowed := true, recurses := true, plainKeys := false, apart := false, narrowed := true }
def IceDrawsUptoSaid : Prop := iceDrawsUptoRow.holds Tryz.pinned (OpenSpec.upto iceDrawsSpec)

/-- 'polynyalaw01.IceDrawn', WHERE WHAT IT READS IS OF BULK AT MOST 1048576: true; the input reads as it did. -/
def iceDrawnUptoRow : OpenClaim := { program := "ythcjliffpebjaaagreat", sum := "600247301d99dadd1e83413b184f3abcb337cafab0eee391a88f9e6c38af9b5b", func := "polynya/polynyalaw01.IceDrawn", spec := "iceDrawn", unfollowed := true, recurses := true, plainKeys := false, apart := false, narrowed := true }
def IceDrawnUptoSaid : Prop := iceDrawnUptoRow.holds Tryz.pinned (OpenSpec.upto iceDrawnSpec)

/-- 'polynyalaw01.IceSmall', WHERE WHAT IT READS IS OF BULK AT MOST 1048576: true; the input reads as it did. -/
def iceSmallUptoRow : OpenClaim := { program := "ythcjliffpebjaaagreat", sum := "600247301d99dadd1e83413b184f3abcb337cafab0eee391a88f9e6c38af9b5b", func := "polynya/polynyalaw01.IceSmall", spec := "iceSmall", unfollowed := true, recurses := true, plainKeys := false, apart := false, narrowed := true }
def IceSmallUptoSaid : Prop := iceSmallUptoRow.holds Tryz.pinned (OpenSpec.upto iceSmallSpec)

end Rows
end Go.Proofs.YthcjliffpebjaaaGreat
