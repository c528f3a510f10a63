/-
  No cell of these rows narrows 'for every input' (looked for: loops, veiled, ifaces, maps, wideKeys, modest, calm, conditions, laid).
  DERIVED. THE GIVEN ROWS OF THIS SEAT. 11 by the template 'for every input the law returns true; each argument reads behind the call as it read before'; 0 by the template 'total and deterministic' (their statements: YtbgfjemppjhmjaaGreatTotals.lean).
  GIVEN WITH THE SEED: the statements are not yours to turn. If you find one false, say at which input.
  Laid BY PROGRAM, IN A SANDBOX (cutbox-rows.mjs): the forced cells as the released guide's own fill.sh prints them over the translation d9c68800f0a714b7… (all of the seat's roots in one cut). By AI agents, Wed Nov 11 2026. No macro, syntax, notation, axiom, sorry.
-/
import Derived.Test.YtbgfjemppjhmjaaGreatChecked
import GoSem.Claim
import GoSem.ClaimJoined
import GoSem.ClaimMapViews
import Derived.JoinedTies
import Derived.KernelRfl
namespace Go.Proofs.YtbgfjemppjhmjaaGreat
/- THE CELL 'sum', in the pinned program and in every row, IS THE sha256 OF THE DUMP (.gsa) THAT YtbgfjemppjhmjaaGreatProg.lean LOADS. Nothing in Lean hashes anything: it is a label: what it is worth is what the hold of that sum in a sandbox is worth. -/
noncomputable def Tryz.pinned : Pinned := { name := "ytbgfjemppjhmjaagreat", sum := "d9c68800f0a714b71fb866e7fbaec5a716e259665d877a1d99905b82ad90fe20", checked := Tryz.checked }
namespace Rows
def none {H : Type} : Left H := { results := [], args := [] }

/-- 'polynyalaw10.RadioTimes': WHATEVER THE INPUT: true; the input reads as it did. -/
def radioTimesSpec : ChangeSpec := { name := "radioTimes", fn := fun _ => fun
  | [d1, d2, d3, d4, d5] => { results := [.lit (.bool true)], args := [d1, d2, d3, d4, d5] }
  | _ => none }
def radioTimesRow : OpenClaim := { program := "ytbgfjemppjhmjaagreat", sum := "d9c68800f0a714b71fb866e7fbaec5a716e259665d877a1d99905b82ad90fe20", func := "polynya/polynyalaw10.RadioTimes", spec := "radioTimes", unfollowed := true, recurses := true, plainKeys := false, apart := false }
def RadioTimesSaid : Prop := radioTimesRow.holds Tryz.pinned (OpenSpec.ofChange radioTimesSpec)

/-- ITS FALSE NEIGHBOUR: 'it returns false'. Refute it at one input. -/
def radioTimesWrong : ChangeSpec := { name := "radioTimes", fn := fun _ => fun
  | [d1, d2, d3, d4, d5] => { results := [.lit (.bool false)], args := [d1, d2, d3, d4, d5] }
  | _ => none }
def RadioTimesWrongFalsely : Prop := radioTimesRow.holds Tryz.pinned (OpenSpec.ofChange radioTimesWrong)

/-- 'polynyalaw10.RadioHolds': WHATEVER THE INPUT: true; the input reads as it did. -/
def radioHoldsSpec : ChangeSpec := { name := "radioHolds", fn := fun _ => fun
  | [d1, d2, d3] => { results := [.lit (.bool true)], args := [d1, d2, d3] }
  | _ => none }
def radioHoldsRow : OpenClaim := { program := "ytbgfjemppjhmjaagreat", sum := "d9c68800f0a714b71fb866e7fbaec5a716e259665d877a1d99905b82ad90fe20", func := "polynya/polynyalaw10.RadioHolds", spec := "radioHolds", unfollowed := true, recurses := true, plainKeys := false, apart := false }
def RadioHoldsSaid : Prop := radioHoldsRow.holds Tryz.pinned (OpenSpec.ofChange radioHoldsSpec)

/-- ITS FALSE NEIGHBOUR: 'it returns false'. Refute it at one input. -/
def radioHoldsWrong : ChangeSpec := { name := "radioHolds", fn := fun _ => fun
  | [d1, d2, d3] => { results := [.lit (.bool false)], args := [d1, d2, d3] }
  | _ => none }
def RadioHoldsWrongFalsely : Prop := radioHoldsRow.holds Tryz.pinned (OpenSpec.ofChange radioHoldsWrong)

/-- 'polynyalaw10.RadioOrders': WHATEVER THE INPUT: true; the input reads as it did. -/
def radioOrdersSpec : ChangeSpec := { name := "radioOrders", fn := fun _ => fun
  | [d1, d2, d3] => { results := [.lit (.bool true)], args := [d1, d2, d3] }
  | _ => none }
def radioOrdersRow : OpenClaim := { program := "ytbgfjemppjhmjaagreat", sum := "d9c68800f0a714b71fb866e7fbaec5a716e259665d877a1d99905b82ad90fe20", func := "polynya/polynyalaw10.RadioOrders", spec := "radioOrders", inPlace := ["maps.clone"], unfollowed := true, recurses := true, plainKeys := false, apart := false }
def RadioOrdersSaid : Prop := radioOrdersRow.holds Tryz.pinned (OpenSpec.ofChange radioOrdersSpec)

/-- ITS FALSE NEIGHBOUR: 'it returns false'. Refute it at one input. -/
def radioOrdersWrong : ChangeSpec := { name := "radioOrders", fn := fun _ => fun
  | [d1, d2, d3] => { results := [.lit (.bool false)], args := [d1, d2, d3] }
  | _ => none }
def RadioOrdersWrongFalsely : Prop := radioOrdersRow.holds Tryz.pinned (OpenSpec.ofChange radioOrdersWrong)

/-- 'polynyalaw10.RadioTold': WHATEVER THE INPUT: true; the input reads as it did. -/
def radioToldSpec : ChangeSpec := { name := "radioTold", fn := fun _ => fun
  | [d1, d2, d3, d4] => { results := [.lit (.bool true)], args := [d1, d2, d3, d4] }
  | _ => none }
def radioToldRow : OpenClaim := { program := "ytbgfjemppjhmjaagreat", sum := "d9c68800f0a714b71fb866e7fbaec5a716e259665d877a1d99905b82ad90fe20", func := "polynya/polynyalaw10.RadioTold", spec := "radioTold", inPlace := ["maps.clone"], unfollowed := true, recurses := true, plainKeys := false, apart := false }
def RadioToldSaid : Prop := radioToldRow.holds Tryz.pinned (OpenSpec.ofChange radioToldSpec)

/-- ITS FALSE NEIGHBOUR: 'it returns false'. Refute it at one input. -/
def radioToldWrong : ChangeSpec := { name := "radioTold", fn := fun _ => fun
  | [d1, d2, d3, d4] => { results := [.lit (.bool false)], args := [d1, d2, d3, d4] }
  | _ => none }
def RadioToldWrongFalsely : Prop := radioToldRow.holds Tryz.pinned (OpenSpec.ofChange radioToldWrong)

/-- 'polynyalaw10.RadioWithdrawn': WHATEVER THE INPUT: true; the input reads as it did. -/
def radioWithdrawnSpec : ChangeSpec := { name := "radioWithdrawn", fn := fun _ => fun
  | [d1, d2, d3, d4] => { results := [.lit (.bool true)], args := [d1, d2, d3, d4] }
  | _ => none }
def radioWithdrawnRow : OpenClaim := { program := "ytbgfjemppjhmjaagreat", sum := "d9c68800f0a714b71fb866e7fbaec5a716e259665d877a1d99905b82ad90fe20", func := "polynya/polynyalaw10.RadioWithdrawn", spec := "radioWithdrawn", unfollowed := true, recurses := true, plainKeys := false, apart := false }
def RadioWithdrawnSaid : Prop := radioWithdrawnRow.holds Tryz.pinned (OpenSpec.ofChange radioWithdrawnSpec)

/-- ITS FALSE NEIGHBOUR: 'it returns false'. Refute it at one input. -/
def radioWithdrawnWrong : ChangeSpec := { name := "radioWithdrawn", fn := fun _ => fun
  | [d1, d2, d3, d4] => { results := [.lit (.bool false)], args := [d1, d2, d3, d4] }
  | _ => none }
def RadioWithdrawnWrongFalsely : Prop := radioWithdrawnRow.holds Tryz.pinned (OpenSpec.ofChange radioWithdrawnWrong)

/-- 'polynyalaw10.RadioBlames': WHATEVER THE INPUT: true; the input reads as it did. -/
def radioBlamesSpec : ChangeSpec := { name := "radioBlames", fn := fun _ => fun
  | [d1, d2, d3, d4] => { results := [.lit (.bool true)], args := [d1, d2, d3, d4] }
  | _ => none }
def radioBlamesRow : OpenClaim := { program := "ytbgfjemppjhmjaagreat", sum := "d9c68800f0a714b71fb866e7fbaec5a716e259665d877a1d99905b82ad90fe20", func := "polynya/polynyalaw10.RadioBlames", spec := "radioBlames", unfollowed := true, recurses := true, plainKeys := false, apart := false }
def RadioBlamesSaid : Prop := radioBlamesRow.holds Tryz.pinned (OpenSpec.ofChange radioBlamesSpec)

/-- ITS FALSE NEIGHBOUR: 'it returns false'. Refute it at one input. -/
def radioBlamesWrong : ChangeSpec := { name := "radioBlames", fn := fun _ => fun
  | [d1, d2, d3, d4] => { results := [.lit (.bool false)], args := [d1, d2, d3, d4] }
  | _ => none }
def RadioBlamesWrongFalsely : Prop := radioBlamesRow.holds Tryz.pinned (OpenSpec.ofChange radioBlamesWrong)

/-- 'polynyalaw10.RadioTracks': WHATEVER THE INPUT: true; the input reads as it did. -/
def radioTracksSpec : ChangeSpec := { name := "radioTracks", fn := fun _ => fun
  | [d1, d2, d3, d4, d5, d6, d7] => { results := [.lit (.bool true)], args := [d1, d2, d3, d4, d5, d6, d7] }
  | _ => none }
def radioTracksRow : OpenClaim := { program := "ytbgfjemppjhmjaagreat", sum := "d9c68800f0a714b71fb866e7fbaec5a716e259665d877a1d99905b82ad90fe20", func := "polynya/polynyalaw10.RadioTracks", spec := "radioTracks", unfollowed := true, recurses := true, plainKeys := false, apart := false }
def RadioTracksSaid : Prop := radioTracksRow.holds Tryz.pinned (OpenSpec.ofChange radioTracksSpec)

/-- ITS FALSE NEIGHBOUR: 'it returns false'. Refute it at one input. -/
def radioTracksWrong : ChangeSpec := { name := "radioTracks", fn := fun _ => fun
  | [d1, d2, d3, d4, d5, d6, d7] => { results := [.lit (.bool false)], args := [d1, d2, d3, d4, d5, d6, d7] }
  | _ => none }
def RadioTracksWrongFalsely : Prop := radioTracksRow.holds Tryz.pinned (OpenSpec.ofChange radioTracksWrong)

/-- 'polynyalaw10.RadioPlays': WHATEVER THE INPUT: true; the input reads as it did. -/
def radioPlaysSpec : ChangeSpec := { name := "radioPlays", fn := fun _ => fun
  | [d1, d2, d3, d4, d5, d6] => { results := [.lit (.bool true)], args := [d1, d2, d3, d4, d5, d6] }
  | _ => none }
def radioPlaysRow : OpenClaim := { program := "ytbgfjemppjhmjaagreat", sum := "d9c68800f0a714b71fb866e7fbaec5a716e259665d877a1d99905b82ad90fe20", func := "polynya/polynyalaw10.RadioPlays", spec := "radioPlays", inPlace := ["maps.clone"], unfollowed := true, recurses := true, plainKeys := false, apart := false }
def RadioPlaysSaid : Prop := radioPlaysRow.holds Tryz.pinned (OpenSpec.ofChange radioPlaysSpec)

/-- ITS FALSE NEIGHBOUR: 'it returns false'. Refute it at one input. -/
def radioPlaysWrong : ChangeSpec := { name := "radioPlays", fn := fun _ => fun
  | [d1, d2, d3, d4, d5, d6] => { results := [.lit (.bool false)], args := [d1, d2, d3, d4, d5, d6] }
  | _ => none }
def RadioPlaysWrongFalsely : Prop := radioPlaysRow.holds Tryz.pinned (OpenSpec.ofChange radioPlaysWrong)

/-- 'polynyalaw10.RadioNone': WHATEVER THE INPUT: true; the input reads as it did. -/
def radioNoneSpec : ChangeSpec := { name := "radioNone", fn := fun _ => fun
  | [d1, d2, d3, d4, d5] => { results := [.lit (.bool true)], args := [d1, d2, d3, d4, d5] }
  | _ => none }
def radioNoneRow : OpenClaim := { program := "ytbgfjemppjhmjaagreat", sum := "d9c68800f0a714b71fb866e7fbaec5a716e259665d877a1d99905b82ad90fe20", func := "polynya/polynyalaw10.RadioNone", spec := "radioNone", inPlace := ["maps.clone"], unfollowed := true, recurses := true, plainKeys := false, apart := false }
def RadioNoneSaid : Prop := radioNoneRow.holds Tryz.pinned (OpenSpec.ofChange radioNoneSpec)

/-- ITS FALSE NEIGHBOUR: 'it returns false'. Refute it at one input. -/
def radioNoneWrong : ChangeSpec := { name := "radioNone", fn := fun _ => fun
  | [d1, d2, d3, d4, d5] => { results := [.lit (.bool false)], args := [d1, d2, d3, d4, d5] }
  | _ => none }
def RadioNoneWrongFalsely : Prop := radioNoneRow.holds Tryz.pinned (OpenSpec.ofChange radioNoneWrong)

/-- 'polynyalaw10.RadioSmall': WHATEVER THE INPUT: true; the input reads as it did. -/
def radioSmallSpec : ChangeSpec := { name := "radioSmall", fn := fun _ => fun
  | [] => { results := [.lit (.bool true)], args := [] }
  | _ => none }
def radioSmallRow : OpenClaim := { program := "ytbgfjemppjhmjaagreat", sum := "d9c68800f0a714b71fb866e7fbaec5a716e259665d877a1d99905b82ad90fe20", func := "polynya/polynyalaw10.RadioSmall", spec := "radioSmall", inPlace := ["maps.clone"], unfollowed := true, recurses := true, plainKeys := false, apart := false }
def RadioSmallSaid : Prop := radioSmallRow.holds Tryz.pinned (OpenSpec.ofChange radioSmallSpec)

/-- ITS FALSE NEIGHBOUR: 'it returns false'. Refute it at one input. -/
def radioSmallWrong : ChangeSpec := { name := "radioSmall", fn := fun _ => fun
  | [] => { results := [.lit (.bool false)], args := [] }
  | _ => none }
def RadioSmallWrongFalsely : Prop := radioSmallRow.holds Tryz.pinned (OpenSpec.ofChange radioSmallWrong)

/-- 'polynyalaw10.RadioReports': WHATEVER THE INPUT: true; the input reads as it did. -/
def radioReportsSpec : ChangeSpec := { name := "radioReports", fn := fun _ => fun
  | [d1, d2, d3] => { results := [.lit (.bool true)], args := [d1, d2, d3] }
  | _ => none }
def radioReportsRow : OpenClaim := { program := "ytbgfjemppjhmjaagreat", sum := "d9c68800f0a714b71fb866e7fbaec5a716e259665d877a1d99905b82ad90fe20", func := "polynya/polynyalaw10.RadioReports", spec := "radioReports", unfollowed := true, recurses := true, plainKeys := false, apart := false }
def RadioReportsSaid : Prop := radioReportsRow.holds Tryz.pinned (OpenSpec.ofChange radioReportsSpec)

/-- ITS FALSE NEIGHBOUR: 'it returns false'. Refute it at one input. -/
def radioReportsWrong : ChangeSpec := { name := "radioReports", fn := fun _ => fun
  | [d1, d2, d3] => { results := [.lit (.bool false)], args := [d1, d2, d3] }
  | _ => none }
def RadioReportsWrongFalsely : Prop := radioReportsRow.holds Tryz.pinned (OpenSpec.ofChange radioReportsWrong)

/- THE SECOND FORM. 'bulk': how many values and letters a reading holds, each counted each time it is reached (what is shared counts as often as it is met; a slice's spare places count too). A statement '..UptoSaid' is the law's where the arguments, and the package variables that the reading takes, are together of bulk at most 1048576: NARROWER than '..Said'. Prove '..Said' where nothing that the law and all that it calls make is longer than what came in: it says more and counts as full. Else prove '..UptoSaid'. A law counts once. -/
mutual
def uptoBulk {H : Type} : DataW H → Nat
  | .lit (.string bytes) => bytes.length + 1
  | .lit _ => 1
  | .nil => 1
  | .ptr d => uptoBulk d + 1
  | .slice elems spare => uptoBulkAll elems + uptoBulkAll spare + 1
  | .agg parts => uptoBulkAll parts + 1
  | .iface _ d => uptoBulk d + 1
  | .map entries => uptoBulkEntries entries + 1
  | .held _ => 1
def uptoBulkAll {H : Type} : List (DataW H) → Nat
  | [] => 0
  | d :: r => uptoBulk d + uptoBulkAll r
def uptoBulkEntries {H : Type} : List (Lit × DataW H) → Nat
  | [] => 0
  | x :: r => uptoBulkEntry x + uptoBulkEntries r
def uptoBulkEntry {H : Type} : Lit × DataW H → Nat
  | (.string bytes, d) => bytes.length + uptoBulk d + 1
  | (_, d) => uptoBulk d + 1
 end
def uptoSmall : (H : Type) → List (DataW H) → Bool := fun _ ds => decide (uptoBulkAll ds ≤ 1048576)
def OpenSpec.upto (s : _root_.Go.ChangeSpec) : _root_.Go.OpenSpec := { _root_.Go.OpenSpec.ofChange s with cond := some uptoSmall }

/-- 'polynyalaw10.RadioTimes', WHERE WHAT IT READS IS OF BULK AT MOST 1048576: true; the input reads as it did. -/
def radioTimesUptoRow : OpenClaim := { program := "ytbgfjemppjhmjaagreat", sum := "d9c68800f0a714b71fb866e7fbaec5a716e259665d877a1d99905b82ad90fe20", func := "polynya/polynyalaw10.RadioTimes", spec := "radioTimes", unfollowed := true, recurses := true, plainKeys := false, apart := false, narrowed := true }
def RadioTimesUptoSaid : Prop := radioTimesUptoRow.holds Tryz.pinned (OpenSpec.upto radioTimesSpec)

/-- 'polynyalaw10.RadioHolds', WHERE WHAT IT READS IS OF BULK AT MOST 1048576: true; the input reads as it did. -/
def radioHoldsUptoRow : OpenClaim := { program := "ytbgfjemppjhmjaagreat", sum := "d9c68800f0a714b71fb866e7fbaec5a716e259665d877a1d99905b82ad90fe20", func := "polynya/polynyalaw10.RadioHolds", spec := "radioHolds", unfollowed := true, recurses := true, plainKeys := false, apart := false, narrowed := true }
def RadioHoldsUptoSaid : Prop := radioHoldsUptoRow.holds Tryz.pinned (OpenSpec.upto radioHoldsSpec)

/-- 'polynyalaw10.RadioOrders', WHERE WHAT IT READS IS OF BULK AT MOST 1048576: true; the input reads as it did. -/
def radioOrdersUptoRow : OpenClaim := { program := "ytbgfjemppjhmjaagreat", sum := "d9c68800f0a714b71fb866e7fbaec5a716e259665d877a1d99905b82ad90fe20", func := "polynya/polynyalaw10.RadioOrders", spec := "radioOrders", inPlace := ["maps.clone"], unfollowed := true, recurses := true, plainKeys := false, apart := false, narrowed := true }
def RadioOrdersUptoSaid : Prop := radioOrdersUptoRow.holds Tryz.pinned (OpenSpec.upto radioOrdersSpec)

/-- 'polynyalaw10.RadioTold', WHERE WHAT IT READS IS OF BULK AT MOST 1048576: true; the input reads as it did. -/
def radioToldUptoRow : OpenClaim := { program := "ytbgfjemppjhmjaagreat", sum := "d9c68800f0a714b71fb866e7fbaec5a716e259665d877a1d99905b82ad90fe20", func := "polynya/polynyalaw10.RadioTold", spec := "radioTold", inPlace := ["maps.clone"], unfollowed := true, recurses := true, plainKeys := false, apart := false, narrowed := true }
def RadioToldUptoSaid : Prop := radioToldUptoRow.holds Tryz.pinned (OpenSpec.upto radioToldSpec)

/-- 'polynyalaw10.RadioWithdrawn', WHERE WHAT IT READS IS OF BULK AT MOST 1048576: true; the input reads as it did. -/
def radioWithdrawnUptoRow : OpenClaim := { program := "ytbgfjemppjhmjaagreat", sum := "d9c68800f0a714b71fb866e7fbaec5a716e259665d877a1d99905b82ad90fe20", func := "polynya/polynyalaw10.RadioWithdrawn", spec := "radioWithdrawn", unfollowed := true, recurses := true, plainKeys := false, apart := false, narrowed := true }
def RadioWithdrawnUptoSaid : Prop := radioWithdrawnUptoRow.holds Tryz.pinned (OpenSpec.upto radioWithdrawnSpec)

/-- 'polynyalaw10.RadioBlames', WHERE WHAT IT READS IS OF BULK AT MOST 1048576: true; the input reads as it did. -/
def radioBlamesUptoRow : OpenClaim := { program := "ytbgfjemppjhmjaagreat", sum := "d9c68800f0a714b71fb866e7fbaec5a716e259665d877a1d99905b82ad90fe20", func := "polynya/polynyalaw10.RadioBlames", spec := "radioBlames", unfollowed := true, recurses := true, plainKeys := false, apart := false, narrowed := true }
def RadioBlamesUptoSaid : Prop := radioBlamesUptoRow.holds Tryz.pinned (OpenSpec.upto radioBlamesSpec)

/-- 'polynyalaw10.RadioTracks', WHERE WHAT IT READS IS OF BULK AT MOST 1048576: true; the input reads as it did. -/
def radioTracksUptoRow : OpenClaim := { program := "ytbgfjemppjhmjaagreat", sum := "d9c68800f0a714b71fb866e7fbaec5a716e259665d877a1d99905b82ad90fe20", func := "polynya/polynyalaw10.RadioTracks", spec := "radioTracks", unfollowed := true, recurses := true, plainKeys := false, apart := false, narrowed := true }
def RadioTracksUptoSaid : Prop := radioTracksUptoRow.holds Tryz.pinned (OpenSpec.upto radioTracksSpec)

/-- 'polynyalaw10.RadioPlays', WHERE WHAT IT READS IS OF BULK AT MOST 1048576: true; the input reads as it did. -/
def radioPlaysUptoRow : OpenClaim := { program := "ytbgfjemppjhmjaagreat", sum := "d9c68800f0a714b71fb866e7fbaec5a716e259665d877a1d99905b82ad90fe20", func := "polynya/polynyalaw10.RadioPlays", spec := "radioPlays", inPlace := ["maps.clone"], unfollowed := true, recurses := true, plainKeys := false, apart := false, narrowed := true }
def RadioPlaysUptoSaid : Prop := radioPlaysUptoRow.holds Tryz.pinned (OpenSpec.upto radioPlaysSpec)

/-- 'polynyalaw10.RadioNone', WHERE WHAT IT READS IS OF BULK AT MOST 1048576: true; the input reads as it did. -/
def radioNoneUptoRow : OpenClaim := { program := "ytbgfjemppjhmjaagreat", sum := "d9c68800f0a714b71fb866e7fbaec5a716e259665d877a1d99905b82ad90fe20", func := "polynya/polynyalaw10.RadioNone", spec := "radioNone", inPlace := ["maps.clone"], unfollowed := true, recurses := true, plainKeys := false, apart := false, narrowed := true }
def RadioNoneUptoSaid : Prop := radioNoneUptoRow.holds Tryz.pinned (OpenSpec.upto radioNoneSpec)

/-- 'polynyalaw10.RadioSmall', WHERE WHAT IT READS IS OF BULK AT MOST 1048576: true; the input reads as it did. -/
def radioSmallUptoRow : OpenClaim := { program := "ytbgfjemppjhmjaagreat", sum := "d9c68800f0a714b71fb866e7fbaec5a716e259665d877a1d99905b82ad90fe20", func := "polynya/polynyalaw10.RadioSmall", spec := "radioSmall", inPlace := ["maps.clone"], unfollowed := true, recurses := true, plainKeys := false, apart := false, narrowed := true }
def RadioSmallUptoSaid : Prop := radioSmallUptoRow.holds Tryz.pinned (OpenSpec.upto radioSmallSpec)

/-- 'polynyalaw10.RadioReports', WHERE WHAT IT READS IS OF BULK AT MOST 1048576: true; the input reads as it did. -/
def radioReportsUptoRow : OpenClaim := { program := "ytbgfjemppjhmjaagreat", sum := "d9c68800f0a714b71fb866e7fbaec5a716e259665d877a1d99905b82ad90fe20", func := "polynya/polynyalaw10.RadioReports", spec := "radioReports", unfollowed := true, recurses := true, plainKeys := false, apart := false, narrowed := true }
def RadioReportsUptoSaid : Prop := radioReportsUptoRow.holds Tryz.pinned (OpenSpec.upto radioReportsSpec)

end Rows
end Go.Proofs.YtbgfjemppjhmjaaGreat
