/- What is to be shown of functions. Printed by a program. No condition. -/
import Derived.Test.YtbgfjemppjhmjaaGreatGO3gxW8
import Derived.Test.YtbgfjemppjhmjaaGreatGO9gxP10
import Derived.Test.YtbgfjemppjhmjaaGreatGW9xP7
import Derived.Test.YtbgfjemppjhmjaaGreatGW2xP2
namespace Go.Proofs.YtbgfjemppjhmjaaGreat
set_option linter.unusedSimpArgs false
open Go Go.K
set_option maxRecDepth 100000
set_option maxHeartbeats 4000000
set_option linter.unusedVariables false
noncomputable section
def Rnotice (L : List Msg) (c : Int) : Prop :=
 (((decide ((0 : Int) <= c)) = true -> (((!(decide ((c : Int) <= 1023))) = true -> (true = true /\ wk (.tuple #[.agg #[.int .i64 0, .int .i64 0, .int .i64 0, .int .i64 0, .int .i64 0, .int .i64 0, .int .i64 0], .int .i64 6] : Value) (rn (sg 2 []) 3 (.tuple #[.agg #[.int .i64 (notM L c).au, .int .i64 (notM L c).nu, .int .i64 (notM L c).at_, .int .i64 (notM L c).ki, .int .i64 (notM L c).sh, .int .i64 (notM L c).ce, .int .i64 (notM L c).va], .int .i64 (notErr L c)] : Value)) /\ (True))) /\ ((!(decide ((c : Int) <= 1023))) = false -> (((some (.cells true 0 [.map (some 1)] : KObj) = some (.cells true 0 [.map (some 1)] : KObj)) /\ (some (.map (heldE L) : KObj) = some (.map (heldE L) : KObj)) /\ True) /\ (∀ H' : Heap, H'.length = 4 -> (H'[0]? = some (.cells true 0 [.map (some 1)] : KObj) /\ H'[1]? = some (.map (heldE L) : KObj) /\ True) -> KCall prog 98 [.pointer (some ⟨0, 0, none⟩)] H' [] (Is (.slice (some ⟨4, 0, some 2⟩) (List.length (liveL L)) (List.length (liveL L))) (H' ++ [(.cells true 7 (List.flatMap msgC (liveL L)) : KObj)]))) /\ (((some (.cells true 7 (List.flatMap msgC (liveL L)) : KObj) = some (.cells true 7 (List.flatMap msgC (liveL L)) : KObj)) /\ (some (.cells true 0 [.int .i64 c] : KObj) = some (.cells true 0 [.int .i64 c] : KObj)) /\ True) /\ (∀ H' : Heap, H'.length = 5 -> (H'[4]? = some (.cells true 7 (List.flatMap msgC (liveL L)) : KObj) /\ H'[2]? = some (.cells true 0 [.int .i64 c] : KObj) /\ True) -> KCall prog 94 [.slice (some ⟨4, 0, some 2⟩) (List.length (liveL L)) (List.length (liveL L)), .func (.func 103) #[] #[.pointer (some ⟨2, 0, none⟩)]] H' [4] (Is (.slice (some ⟨4, 0, some 2⟩) (List.length (List.filter (isNo c) (liveL L))) (List.length (List.filter (isNo c) (liveL L)))) (List.set H' 4 (.cells true 7 (List.flatMap msgC (delQ (isNo c) (liveL L))) : KObj)))) /\ (((((((List.length (List.filter (isNo c) (liveL L))) : Nat) : Int) : Int) == 0) = true -> (true = true /\ wk (.tuple #[.agg #[.int .i64 0, .int .i64 0, .int .i64 0, .int .i64 0, .int .i64 0, .int .i64 0, .int .i64 0], .int .i64 4] : Value) (rn (sg 2 []) 3 (.tuple #[.agg #[.int .i64 (notM L c).au, .int .i64 (notM L c).nu, .int .i64 (notM L c).at_, .int .i64 (notM L c).ki, .int .i64 (notM L c).sh, .int .i64 (notM L c).ce, .int .i64 (notM L c).va], .int .i64 (notErr L c)] : Value)) /\ (True))) /\ ((((((List.length (List.filter (isNo c) (liveL L))) : Nat) : Int) : Int) == 0) = false -> (((decide (((((List.length (List.filter (isNo c) (liveL L))) : Nat) : Int) : Int) < 1)) = true -> False) /\ ((decide (((((List.length (List.filter (isNo c) (liveL L))) : Nat) : Int) : Int) < 1)) = false -> (((0 : Int) <= 0 /\ (0 : Int) < (((List.length (List.filter (isNo c) (liveL L))) : Nat) : Int)) /\ ((partA 7 (List.flatMap msgC (delQ (isNo c) (liveL L))) 0 = some (.agg #[.int .i64 (List.getD (delQ (isNo c) (liveL L)) 0 zeroM).au, .int .i64 (List.getD (delQ (isNo c) (liveL L)) 0 zeroM).nu, .int .i64 (List.getD (delQ (isNo c) (liveL L)) 0 zeroM).at_, .int .i64 (List.getD (delQ (isNo c) (liveL L)) 0 zeroM).ki, .int .i64 (List.getD (delQ (isNo c) (liveL L)) 0 zeroM).sh, .int .i64 (List.getD (delQ (isNo c) (liveL L)) 0 zeroM).ce, .int .i64 (List.getD (delQ (isNo c) (liveL L)) 0 zeroM).va])) /\ (true = true /\ (0 + 1 <= List.length (List.filter (isNo c) (liveL L))) /\ (true = true /\ ((.int .i64 1 : Value) = .int .i64 (((0 + 1) : Nat) : Int) /\ (.func (.func 105) #[] #[] : Value) = .func (.func 105) #[] #[] /\ wk (.slice (some ⟨4, 0, some 2⟩) (List.length (List.filter (isNo c) (liveL L))) (List.length (List.filter (isNo c) (liveL L))) : Value) (.slice (some ⟨4, 0, some 2⟩) (List.length (List.filter (isNo c) (liveL L))) (List.length (List.filter (isNo c) (liveL L))) : Value) /\ (.pointer (some ⟨5, 0, none⟩) : Value) = .pointer (some ⟨5, 0, none⟩) /\ (.pointer (some ⟨6, 0, none⟩) : Value) = .pointer (some ⟨6, 0, none⟩) /\ True) /\ ((some (.cells true 0 [.int .i64 (List.getD (delQ (isNo c) (liveL L)) 0 zeroM).au, .int .i64 (List.getD (delQ (isNo c) (liveL L)) 0 zeroM).nu, .int .i64 (List.getD (delQ (isNo c) (liveL L)) 0 zeroM).at_, .int .i64 (List.getD (delQ (isNo c) (liveL L)) 0 zeroM).ki, .int .i64 (List.getD (delQ (isNo c) (liveL L)) 0 zeroM).sh, .int .i64 (List.getD (delQ (isNo c) (liveL L)) 0 zeroM).ce, .int .i64 (List.getD (delQ (isNo c) (liveL L)) 0 zeroM).va] : KObj) = some (.cells true 0 [.int .i64 (maxN (delQ (isNo c) (liveL L)) 0).au, .int .i64 (maxN (delQ (isNo c) (liveL L)) 0).nu, .int .i64 (maxN (delQ (isNo c) (liveL L)) 0).at_, .int .i64 (maxN (delQ (isNo c) (liveL L)) 0).ki, .int .i64 (maxN (delQ (isNo c) (liveL L)) 0).sh, .int .i64 (maxN (delQ (isNo c) (liveL L)) 0).ce, .int .i64 (maxN (delQ (isNo c) (liveL L)) 0).va] : KObj) /\ belowO 7 (.cells true 0 [.int .i64 (maxN (delQ (isNo c) (liveL L)) 0).au, .int .i64 (maxN (delQ (isNo c) (liveL L)) 0).nu, .int .i64 (maxN (delQ (isNo c) (liveL L)) 0).at_, .int .i64 (maxN (delQ (isNo c) (liveL L)) 0).ki, .int .i64 (maxN (delQ (isNo c) (liveL L)) 0).sh, .int .i64 (maxN (delQ (isNo c) (liveL L)) 0).ce, .int .i64 (maxN (delQ (isNo c) (liveL L)) 0).va] : KObj) = true) /\ True) /\ (True) /\ (True)) /\ (∀ x2 : Nat, true = true) /\ ∀ x2 : Nat, (x2 + 1 <= List.length (List.filter (isNo c) (liveL L))) -> (((decide (((((x2 + 1) : Nat) : Int) : Int) < (((List.length (List.filter (isNo c) (liveL L))) : Nat) : Int))) = true -> (((0 : Int) <= (((x2 + 1) : Nat) : Int) /\ ((((x2 + 1) : Nat) : Int) : Int) < (((List.length (List.filter (isNo c) (liveL L))) : Nat) : Int)) /\ ((partA 7 (List.flatMap msgC (delQ (isNo c) (liveL L))) (0 + Int.toNat (((x2 + 1) : Nat) : Int) * 7) = some (.agg #[.int .i64 (List.getD (delQ (isNo c) (liveL L)) (x2 + 1) zeroM).au, .int .i64 (List.getD (delQ (isNo c) (liveL L)) (x2 + 1) zeroM).nu, .int .i64 (List.getD (delQ (isNo c) (liveL L)) (x2 + 1) zeroM).at_, .int .i64 (List.getD (delQ (isNo c) (liveL L)) (x2 + 1) zeroM).ki, .int .i64 (List.getD (delQ (isNo c) (liveL L)) (x2 + 1) zeroM).sh, .int .i64 (List.getD (delQ (isNo c) (liveL L)) (x2 + 1) zeroM).ce, .int .i64 (List.getD (delQ (isNo c) (liveL L)) (x2 + 1) zeroM).va])) /\ ((.int .i64 (IntKind.wrap .i64 ((List.getD (delQ (isNo c) (liveL L)) (x2 + 1) zeroM).at_ - (maxN (delQ (isNo c) (liveL L)) x2).at_)) : Value) = .int .i64 ((List.getD (delQ (isNo c) (liveL L)) (x2 + 1) zeroM).at_ - (maxN (delQ (isNo c) (liveL L)) x2).at_) /\ ((.int .i64 (IntKind.wrap .i64 ((List.getD (delQ (isNo c) (liveL L)) (x2 + 1) zeroM).au - (maxN (delQ (isNo c) (liveL L)) x2).au)) : Value) = .int .i64 ((List.getD (delQ (isNo c) (liveL L)) (x2 + 1) zeroM).au - (maxN (delQ (isNo c) (liveL L)) x2).au) /\ ((.int .i64 (IntKind.wrap .i64 ((List.getD (delQ (isNo c) (liveL L)) (x2 + 1) zeroM).nu - (maxN (delQ (isNo c) (liveL L)) x2).nu)) : Value) = .int .i64 ((List.getD (delQ (isNo c) (liveL L)) (x2 + 1) zeroM).nu - (maxN (delQ (isNo c) (liveL L)) x2).nu) /\ ((((((List.getD (delQ (isNo c) (liveL L)) (x2 + 1) zeroM).at_ - (maxN (delQ (isNo c) (liveL L)) x2).at_) : Int) != 0) = true -> (((decide ((0 : Int) < ((List.getD (delQ (isNo c) (liveL L)) (x2 + 1) zeroM).at_ - (maxN (delQ (isNo c) (liveL L)) x2).at_))) = true -> (((0 : Int) <= (((x2 + 1) : Nat) : Int) /\ ((((x2 + 1) : Nat) : Int) : Int) < (((List.length (List.filter (isNo c) (liveL L))) : Nat) : Int)) /\ ((partA 7 (List.flatMap msgC (delQ (isNo c) (liveL L))) (0 + Int.toNat (((x2 + 1) : Nat) : Int) * 7) = some (.agg #[.int .i64 (List.getD (delQ (isNo c) (liveL L)) (x2 + 1) zeroM).au, .int .i64 (List.getD (delQ (isNo c) (liveL L)) (x2 + 1) zeroM).nu, .int .i64 (List.getD (delQ (isNo c) (liveL L)) (x2 + 1) zeroM).at_, .int .i64 (List.getD (delQ (isNo c) (liveL L)) (x2 + 1) zeroM).ki, .int .i64 (List.getD (delQ (isNo c) (liveL L)) (x2 + 1) zeroM).sh, .int .i64 (List.getD (delQ (isNo c) (liveL L)) (x2 + 1) zeroM).ce, .int .i64 (List.getD (delQ (isNo c) (liveL L)) (x2 + 1) zeroM).va])) /\ ((.int .i64 (IntKind.wrap .i64 ((((x2 + 1) : Nat) : Int) + 1)) : Value) = .int .i64 ((((x2 + 1) : Nat) : Int) + 1) /\ (∃ x2' : Nat, (x2' + 1 <= List.length (List.filter (isNo c) (liveL L))) /\ (List.length (List.filter (isNo c) (liveL L)) - x2') < (List.length (List.filter (isNo c) (liveL L)) - x2) /\ true = true /\ ((.int .i64 ((((x2 + 1) : Nat) : Int) + 1) : Value) = .int .i64 (((x2' + 1) : Nat) : Int) /\ (.func (.func 105) #[] #[] : Value) = .func (.func 105) #[] #[] /\ wk (.slice (some ⟨4, 0, some 2⟩) (List.length (List.filter (isNo c) (liveL L))) (List.length (List.filter (isNo c) (liveL L))) : Value) (.slice (some ⟨4, 0, some 2⟩) (List.length (List.filter (isNo c) (liveL L))) (List.length (List.filter (isNo c) (liveL L))) : Value) /\ (.pointer (some ⟨5, 0, none⟩) : Value) = .pointer (some ⟨5, 0, none⟩) /\ (.pointer (some ⟨6, 0, none⟩) : Value) = .pointer (some ⟨6, 0, none⟩) /\ True) /\ ((some (.cells true 0 [.int .i64 (List.getD (delQ (isNo c) (liveL L)) (x2 + 1) zeroM).au, .int .i64 (List.getD (delQ (isNo c) (liveL L)) (x2 + 1) zeroM).nu, .int .i64 (List.getD (delQ (isNo c) (liveL L)) (x2 + 1) zeroM).at_, .int .i64 (List.getD (delQ (isNo c) (liveL L)) (x2 + 1) zeroM).ki, .int .i64 (List.getD (delQ (isNo c) (liveL L)) (x2 + 1) zeroM).sh, .int .i64 (List.getD (delQ (isNo c) (liveL L)) (x2 + 1) zeroM).ce, .int .i64 (List.getD (delQ (isNo c) (liveL L)) (x2 + 1) zeroM).va] : KObj) = some (.cells true 0 [.int .i64 (maxN (delQ (isNo c) (liveL L)) x2').au, .int .i64 (maxN (delQ (isNo c) (liveL L)) x2').nu, .int .i64 (maxN (delQ (isNo c) (liveL L)) x2').at_, .int .i64 (maxN (delQ (isNo c) (liveL L)) x2').ki, .int .i64 (maxN (delQ (isNo c) (liveL L)) x2').sh, .int .i64 (maxN (delQ (isNo c) (liveL L)) x2').ce, .int .i64 (maxN (delQ (isNo c) (liveL L)) x2').va] : KObj) /\ belowO 7 (.cells true 0 [.int .i64 (maxN (delQ (isNo c) (liveL L)) x2').au, .int .i64 (maxN (delQ (isNo c) (liveL L)) x2').nu, .int .i64 (maxN (delQ (isNo c) (liveL L)) x2').at_, .int .i64 (maxN (delQ (isNo c) (liveL L)) x2').ki, .int .i64 (maxN (delQ (isNo c) (liveL L)) x2').sh, .int .i64 (maxN (delQ (isNo c) (liveL L)) x2').ce, .int .i64 (maxN (delQ (isNo c) (liveL L)) x2').va] : KObj) = true) /\ True) /\ (True) /\ (True)))))) /\ ((decide ((0 : Int) < ((List.getD (delQ (isNo c) (liveL L)) (x2 + 1) zeroM).at_ - (maxN (delQ (isNo c) (liveL L)) x2).at_))) = false -> ((.int .i64 (IntKind.wrap .i64 ((((x2 + 1) : Nat) : Int) + 1)) : Value) = .int .i64 ((((x2 + 1) : Nat) : Int) + 1) /\ (∃ x2' : Nat, (x2' + 1 <= List.length (List.filter (isNo c) (liveL L))) /\ (List.length (List.filter (isNo c) (liveL L)) - x2') < (List.length (List.filter (isNo c) (liveL L)) - x2) /\ true = true /\ ((.int .i64 ((((x2 + 1) : Nat) : Int) + 1) : Value) = .int .i64 (((x2' + 1) : Nat) : Int) /\ (.func (.func 105) #[] #[] : Value) = .func (.func 105) #[] #[] /\ wk (.slice (some ⟨4, 0, some 2⟩) (List.length (List.filter (isNo c) (liveL L))) (List.length (List.filter (isNo c) (liveL L))) : Value) (.slice (some ⟨4, 0, some 2⟩) (List.length (List.filter (isNo c) (liveL L))) (List.length (List.filter (isNo c) (liveL L))) : Value) /\ (.pointer (some ⟨5, 0, none⟩) : Value) = .pointer (some ⟨5, 0, none⟩) /\ (.pointer (some ⟨6, 0, none⟩) : Value) = .pointer (some ⟨6, 0, none⟩) /\ True) /\ ((some (.cells true 0 [.int .i64 (maxN (delQ (isNo c) (liveL L)) x2).au, .int .i64 (maxN (delQ (isNo c) (liveL L)) x2).nu, .int .i64 (maxN (delQ (isNo c) (liveL L)) x2).at_, .int .i64 (maxN (delQ (isNo c) (liveL L)) x2).ki, .int .i64 (maxN (delQ (isNo c) (liveL L)) x2).sh, .int .i64 (maxN (delQ (isNo c) (liveL L)) x2).ce, .int .i64 (maxN (delQ (isNo c) (liveL L)) x2).va] : KObj) = some (.cells true 0 [.int .i64 (maxN (delQ (isNo c) (liveL L)) x2').au, .int .i64 (maxN (delQ (isNo c) (liveL L)) x2').nu, .int .i64 (maxN (delQ (isNo c) (liveL L)) x2').at_, .int .i64 (maxN (delQ (isNo c) (liveL L)) x2').ki, .int .i64 (maxN (delQ (isNo c) (liveL L)) x2').sh, .int .i64 (maxN (delQ (isNo c) (liveL L)) x2').ce, .int .i64 (maxN (delQ (isNo c) (liveL L)) x2').va] : KObj) /\ belowO 7 (.cells true 0 [.int .i64 (maxN (delQ (isNo c) (liveL L)) x2').au, .int .i64 (maxN (delQ (isNo c) (liveL L)) x2').nu, .int .i64 (maxN (delQ (isNo c) (liveL L)) x2').at_, .int .i64 (maxN (delQ (isNo c) (liveL L)) x2').ki, .int .i64 (maxN (delQ (isNo c) (liveL L)) x2').sh, .int .i64 (maxN (delQ (isNo c) (liveL L)) x2').ce, .int .i64 (maxN (delQ (isNo c) (liveL L)) x2').va] : KObj) = true) /\ True) /\ (True) /\ (True)))))) /\ (((((List.getD (delQ (isNo c) (liveL L)) (x2 + 1) zeroM).at_ - (maxN (delQ (isNo c) (liveL L)) x2).at_) : Int) != 0) = false -> ((((((List.getD (delQ (isNo c) (liveL L)) (x2 + 1) zeroM).au - (maxN (delQ (isNo c) (liveL L)) x2).au) : Int) != 0) = true -> (((decide ((0 : Int) < ((List.getD (delQ (isNo c) (liveL L)) (x2 + 1) zeroM).au - (maxN (delQ (isNo c) (liveL L)) x2).au))) = true -> (((0 : Int) <= (((x2 + 1) : Nat) : Int) /\ ((((x2 + 1) : Nat) : Int) : Int) < (((List.length (List.filter (isNo c) (liveL L))) : Nat) : Int)) /\ ((partA 7 (List.flatMap msgC (delQ (isNo c) (liveL L))) (0 + Int.toNat (((x2 + 1) : Nat) : Int) * 7) = some (.agg #[.int .i64 (List.getD (delQ (isNo c) (liveL L)) (x2 + 1) zeroM).au, .int .i64 (List.getD (delQ (isNo c) (liveL L)) (x2 + 1) zeroM).nu, .int .i64 (List.getD (delQ (isNo c) (liveL L)) (x2 + 1) zeroM).at_, .int .i64 (List.getD (delQ (isNo c) (liveL L)) (x2 + 1) zeroM).ki, .int .i64 (List.getD (delQ (isNo c) (liveL L)) (x2 + 1) zeroM).sh, .int .i64 (List.getD (delQ (isNo c) (liveL L)) (x2 + 1) zeroM).ce, .int .i64 (List.getD (delQ (isNo c) (liveL L)) (x2 + 1) zeroM).va])) /\ ((.int .i64 (IntKind.wrap .i64 ((((x2 + 1) : Nat) : Int) + 1)) : Value) = .int .i64 ((((x2 + 1) : Nat) : Int) + 1) /\ (∃ x2' : Nat, (x2' + 1 <= List.length (List.filter (isNo c) (liveL L))) /\ (List.length (List.filter (isNo c) (liveL L)) - x2') < (List.length (List.filter (isNo c) (liveL L)) - x2) /\ true = true /\ ((.int .i64 ((((x2 + 1) : Nat) : Int) + 1) : Value) = .int .i64 (((x2' + 1) : Nat) : Int) /\ (.func (.func 105) #[] #[] : Value) = .func (.func 105) #[] #[] /\ wk (.slice (some ⟨4, 0, some 2⟩) (List.length (List.filter (isNo c) (liveL L))) (List.length (List.filter (isNo c) (liveL L))) : Value) (.slice (some ⟨4, 0, some 2⟩) (List.length (List.filter (isNo c) (liveL L))) (List.length (List.filter (isNo c) (liveL L))) : Value) /\ (.pointer (some ⟨5, 0, none⟩) : Value) = .pointer (some ⟨5, 0, none⟩) /\ (.pointer (some ⟨6, 0, none⟩) : Value) = .pointer (some ⟨6, 0, none⟩) /\ True) /\ ((some (.cells true 0 [.int .i64 (List.getD (delQ (isNo c) (liveL L)) (x2 + 1) zeroM).au, .int .i64 (List.getD (delQ (isNo c) (liveL L)) (x2 + 1) zeroM).nu, .int .i64 (List.getD (delQ (isNo c) (liveL L)) (x2 + 1) zeroM).at_, .int .i64 (List.getD (delQ (isNo c) (liveL L)) (x2 + 1) zeroM).ki, .int .i64 (List.getD (delQ (isNo c) (liveL L)) (x2 + 1) zeroM).sh, .int .i64 (List.getD (delQ (isNo c) (liveL L)) (x2 + 1) zeroM).ce, .int .i64 (List.getD (delQ (isNo c) (liveL L)) (x2 + 1) zeroM).va] : KObj) = some (.cells true 0 [.int .i64 (maxN (delQ (isNo c) (liveL L)) x2').au, .int .i64 (maxN (delQ (isNo c) (liveL L)) x2').nu, .int .i64 (maxN (delQ (isNo c) (liveL L)) x2').at_, .int .i64 (maxN (delQ (isNo c) (liveL L)) x2').ki, .int .i64 (maxN (delQ (isNo c) (liveL L)) x2').sh, .int .i64 (maxN (delQ (isNo c) (liveL L)) x2').ce, .int .i64 (maxN (delQ (isNo c) (liveL L)) x2').va] : KObj) /\ belowO 7 (.cells true 0 [.int .i64 (maxN (delQ (isNo c) (liveL L)) x2').au, .int .i64 (maxN (delQ (isNo c) (liveL L)) x2').nu, .int .i64 (maxN (delQ (isNo c) (liveL L)) x2').at_, .int .i64 (maxN (delQ (isNo c) (liveL L)) x2').ki, .int .i64 (maxN (delQ (isNo c) (liveL L)) x2').sh, .int .i64 (maxN (delQ (isNo c) (liveL L)) x2').ce, .int .i64 (maxN (delQ (isNo c) (liveL L)) x2').va] : KObj) = true) /\ True) /\ (True) /\ (True)))))) /\ ((decide ((0 : Int) < ((List.getD (delQ (isNo c) (liveL L)) (x2 + 1) zeroM).au - (maxN (delQ (isNo c) (liveL L)) x2).au))) = false -> ((.int .i64 (IntKind.wrap .i64 ((((x2 + 1) : Nat) : Int) + 1)) : Value) = .int .i64 ((((x2 + 1) : Nat) : Int) + 1) /\ (∃ x2' : Nat, (x2' + 1 <= List.length (List.filter (isNo c) (liveL L))) /\ (List.length (List.filter (isNo c) (liveL L)) - x2') < (List.length (List.filter (isNo c) (liveL L)) - x2) /\ true = true /\ ((.int .i64 ((((x2 + 1) : Nat) : Int) + 1) : Value) = .int .i64 (((x2' + 1) : Nat) : Int) /\ (.func (.func 105) #[] #[] : Value) = .func (.func 105) #[] #[] /\ wk (.slice (some ⟨4, 0, some 2⟩) (List.length (List.filter (isNo c) (liveL L))) (List.length (List.filter (isNo c) (liveL L))) : Value) (.slice (some ⟨4, 0, some 2⟩) (List.length (List.filter (isNo c) (liveL L))) (List.length (List.filter (isNo c) (liveL L))) : Value) /\ (.pointer (some ⟨5, 0, none⟩) : Value) = .pointer (some ⟨5, 0, none⟩) /\ (.pointer (some ⟨6, 0, none⟩) : Value) = .pointer (some ⟨6, 0, none⟩) /\ True) /\ ((some (.cells true 0 [.int .i64 (maxN (delQ (isNo c) (liveL L)) x2).au, .int .i64 (maxN (delQ (isNo c) (liveL L)) x2).nu, .int .i64 (maxN (delQ (isNo c) (liveL L)) x2).at_, .int .i64 (maxN (delQ (isNo c) (liveL L)) x2).ki, .int .i64 (maxN (delQ (isNo c) (liveL L)) x2).sh, .int .i64 (maxN (delQ (isNo c) (liveL L)) x2).ce, .int .i64 (maxN (delQ (isNo c) (liveL L)) x2).va] : KObj) = some (.cells true 0 [.int .i64 (maxN (delQ (isNo c) (liveL L)) x2').au, .int .i64 (maxN (delQ (isNo c) (liveL L)) x2').nu, .int .i64 (maxN (delQ (isNo c) (liveL L)) x2').at_, .int .i64 (maxN (delQ (isNo c) (liveL L)) x2').ki, .int .i64 (maxN (delQ (isNo c) (liveL L)) x2').sh, .int .i64 (maxN (delQ (isNo c) (liveL L)) x2').ce, .int .i64 (maxN (delQ (isNo c) (liveL L)) x2').va] : KObj) /\ belowO 7 (.cells true 0 [.int .i64 (maxN (delQ (isNo c) (liveL L)) x2').au, .int .i64 (maxN (delQ (isNo c) (liveL L)) x2').nu, .int .i64 (maxN (delQ (isNo c) (liveL L)) x2').at_, .int .i64 (maxN (delQ (isNo c) (liveL L)) x2').ki, .int .i64 (maxN (delQ (isNo c) (liveL L)) x2').sh, .int .i64 (maxN (delQ (isNo c) (liveL L)) x2').ce, .int .i64 (maxN (delQ (isNo c) (liveL L)) x2').va] : KObj) = true) /\ True) /\ (True) /\ (True)))))) /\ (((((List.getD (delQ (isNo c) (liveL L)) (x2 + 1) zeroM).au - (maxN (delQ (isNo c) (liveL L)) x2).au) : Int) != 0) = false -> ((((((List.getD (delQ (isNo c) (liveL L)) (x2 + 1) zeroM).nu - (maxN (delQ (isNo c) (liveL L)) x2).nu) : Int) != 0) = true -> (((decide ((0 : Int) < ((List.getD (delQ (isNo c) (liveL L)) (x2 + 1) zeroM).nu - (maxN (delQ (isNo c) (liveL L)) x2).nu))) = true -> (((0 : Int) <= (((x2 + 1) : Nat) : Int) /\ ((((x2 + 1) : Nat) : Int) : Int) < (((List.length (List.filter (isNo c) (liveL L))) : Nat) : Int)) /\ ((partA 7 (List.flatMap msgC (delQ (isNo c) (liveL L))) (0 + Int.toNat (((x2 + 1) : Nat) : Int) * 7) = some (.agg #[.int .i64 (List.getD (delQ (isNo c) (liveL L)) (x2 + 1) zeroM).au, .int .i64 (List.getD (delQ (isNo c) (liveL L)) (x2 + 1) zeroM).nu, .int .i64 (List.getD (delQ (isNo c) (liveL L)) (x2 + 1) zeroM).at_, .int .i64 (List.getD (delQ (isNo c) (liveL L)) (x2 + 1) zeroM).ki, .int .i64 (List.getD (delQ (isNo c) (liveL L)) (x2 + 1) zeroM).sh, .int .i64 (List.getD (delQ (isNo c) (liveL L)) (x2 + 1) zeroM).ce, .int .i64 (List.getD (delQ (isNo c) (liveL L)) (x2 + 1) zeroM).va])) /\ ((.int .i64 (IntKind.wrap .i64 ((((x2 + 1) : Nat) : Int) + 1)) : Value) = .int .i64 ((((x2 + 1) : Nat) : Int) + 1) /\ (∃ x2' : Nat, (x2' + 1 <= List.length (List.filter (isNo c) (liveL L))) /\ (List.length (List.filter (isNo c) (liveL L)) - x2') < (List.length (List.filter (isNo c) (liveL L)) - x2) /\ true = true /\ ((.int .i64 ((((x2 + 1) : Nat) : Int) + 1) : Value) = .int .i64 (((x2' + 1) : Nat) : Int) /\ (.func (.func 105) #[] #[] : Value) = .func (.func 105) #[] #[] /\ wk (.slice (some ⟨4, 0, some 2⟩) (List.length (List.filter (isNo c) (liveL L))) (List.length (List.filter (isNo c) (liveL L))) : Value) (.slice (some ⟨4, 0, some 2⟩) (List.length (List.filter (isNo c) (liveL L))) (List.length (List.filter (isNo c) (liveL L))) : Value) /\ (.pointer (some ⟨5, 0, none⟩) : Value) = .pointer (some ⟨5, 0, none⟩) /\ (.pointer (some ⟨6, 0, none⟩) : Value) = .pointer (some ⟨6, 0, none⟩) /\ True) /\ ((some (.cells true 0 [.int .i64 (List.getD (delQ (isNo c) (liveL L)) (x2 + 1) zeroM).au, .int .i64 (List.getD (delQ (isNo c) (liveL L)) (x2 + 1) zeroM).nu, .int .i64 (List.getD (delQ (isNo c) (liveL L)) (x2 + 1) zeroM).at_, .int .i64 (List.getD (delQ (isNo c) (liveL L)) (x2 + 1) zeroM).ki, .int .i64 (List.getD (delQ (isNo c) (liveL L)) (x2 + 1) zeroM).sh, .int .i64 (List.getD (delQ (isNo c) (liveL L)) (x2 + 1) zeroM).ce, .int .i64 (List.getD (delQ (isNo c) (liveL L)) (x2 + 1) zeroM).va] : KObj) = some (.cells true 0 [.int .i64 (maxN (delQ (isNo c) (liveL L)) x2').au, .int .i64 (maxN (delQ (isNo c) (liveL L)) x2').nu, .int .i64 (maxN (delQ (isNo c) (liveL L)) x2').at_, .int .i64 (maxN (delQ (isNo c) (liveL L)) x2').ki, .int .i64 (maxN (delQ (isNo c) (liveL L)) x2').sh, .int .i64 (maxN (delQ (isNo c) (liveL L)) x2').ce, .int .i64 (maxN (delQ (isNo c) (liveL L)) x2').va] : KObj) /\ belowO 7 (.cells true 0 [.int .i64 (maxN (delQ (isNo c) (liveL L)) x2').au, .int .i64 (maxN (delQ (isNo c) (liveL L)) x2').nu, .int .i64 (maxN (delQ (isNo c) (liveL L)) x2').at_, .int .i64 (maxN (delQ (isNo c) (liveL L)) x2').ki, .int .i64 (maxN (delQ (isNo c) (liveL L)) x2').sh, .int .i64 (maxN (delQ (isNo c) (liveL L)) x2').ce, .int .i64 (maxN (delQ (isNo c) (liveL L)) x2').va] : KObj) = true) /\ True) /\ (True) /\ (True)))))) /\ ((decide ((0 : Int) < ((List.getD (delQ (isNo c) (liveL L)) (x2 + 1) zeroM).nu - (maxN (delQ (isNo c) (liveL L)) x2).nu))) = false -> ((.int .i64 (IntKind.wrap .i64 ((((x2 + 1) : Nat) : Int) + 1)) : Value) = .int .i64 ((((x2 + 1) : Nat) : Int) + 1) /\ (∃ x2' : Nat, (x2' + 1 <= List.length (List.filter (isNo c) (liveL L))) /\ (List.length (List.filter (isNo c) (liveL L)) - x2') < (List.length (List.filter (isNo c) (liveL L)) - x2) /\ true = true /\ ((.int .i64 ((((x2 + 1) : Nat) : Int) + 1) : Value) = .int .i64 (((x2' + 1) : Nat) : Int) /\ (.func (.func 105) #[] #[] : Value) = .func (.func 105) #[] #[] /\ wk (.slice (some ⟨4, 0, some 2⟩) (List.length (List.filter (isNo c) (liveL L))) (List.length (List.filter (isNo c) (liveL L))) : Value) (.slice (some ⟨4, 0, some 2⟩) (List.length (List.filter (isNo c) (liveL L))) (List.length (List.filter (isNo c) (liveL L))) : Value) /\ (.pointer (some ⟨5, 0, none⟩) : Value) = .pointer (some ⟨5, 0, none⟩) /\ (.pointer (some ⟨6, 0, none⟩) : Value) = .pointer (some ⟨6, 0, none⟩) /\ True) /\ ((some (.cells true 0 [.int .i64 (maxN (delQ (isNo c) (liveL L)) x2).au, .int .i64 (maxN (delQ (isNo c) (liveL L)) x2).nu, .int .i64 (maxN (delQ (isNo c) (liveL L)) x2).at_, .int .i64 (maxN (delQ (isNo c) (liveL L)) x2).ki, .int .i64 (maxN (delQ (isNo c) (liveL L)) x2).sh, .int .i64 (maxN (delQ (isNo c) (liveL L)) x2).ce, .int .i64 (maxN (delQ (isNo c) (liveL L)) x2).va] : KObj) = some (.cells true 0 [.int .i64 (maxN (delQ (isNo c) (liveL L)) x2').au, .int .i64 (maxN (delQ (isNo c) (liveL L)) x2').nu, .int .i64 (maxN (delQ (isNo c) (liveL L)) x2').at_, .int .i64 (maxN (delQ (isNo c) (liveL L)) x2').ki, .int .i64 (maxN (delQ (isNo c) (liveL L)) x2').sh, .int .i64 (maxN (delQ (isNo c) (liveL L)) x2').ce, .int .i64 (maxN (delQ (isNo c) (liveL L)) x2').va] : KObj) /\ belowO 7 (.cells true 0 [.int .i64 (maxN (delQ (isNo c) (liveL L)) x2').au, .int .i64 (maxN (delQ (isNo c) (liveL L)) x2').nu, .int .i64 (maxN (delQ (isNo c) (liveL L)) x2').at_, .int .i64 (maxN (delQ (isNo c) (liveL L)) x2').ki, .int .i64 (maxN (delQ (isNo c) (liveL L)) x2').sh, .int .i64 (maxN (delQ (isNo c) (liveL L)) x2').ce, .int .i64 (maxN (delQ (isNo c) (liveL L)) x2').va] : KObj) = true) /\ True) /\ (True) /\ (True)))))) /\ (((((List.getD (delQ (isNo c) (liveL L)) (x2 + 1) zeroM).nu - (maxN (delQ (isNo c) (liveL L)) x2).nu) : Int) != 0) = false -> ((.int .i64 (IntKind.wrap .i64 ((((x2 + 1) : Nat) : Int) + 1)) : Value) = .int .i64 ((((x2 + 1) : Nat) : Int) + 1) /\ (∃ x2' : Nat, (x2' + 1 <= List.length (List.filter (isNo c) (liveL L))) /\ (List.length (List.filter (isNo c) (liveL L)) - x2') < (List.length (List.filter (isNo c) (liveL L)) - x2) /\ true = true /\ ((.int .i64 ((((x2 + 1) : Nat) : Int) + 1) : Value) = .int .i64 (((x2' + 1) : Nat) : Int) /\ (.func (.func 105) #[] #[] : Value) = .func (.func 105) #[] #[] /\ wk (.slice (some ⟨4, 0, some 2⟩) (List.length (List.filter (isNo c) (liveL L))) (List.length (List.filter (isNo c) (liveL L))) : Value) (.slice (some ⟨4, 0, some 2⟩) (List.length (List.filter (isNo c) (liveL L))) (List.length (List.filter (isNo c) (liveL L))) : Value) /\ (.pointer (some ⟨5, 0, none⟩) : Value) = .pointer (some ⟨5, 0, none⟩) /\ (.pointer (some ⟨6, 0, none⟩) : Value) = .pointer (some ⟨6, 0, none⟩) /\ True) /\ ((some (.cells true 0 [.int .i64 (maxN (delQ (isNo c) (liveL L)) x2).au, .int .i64 (maxN (delQ (isNo c) (liveL L)) x2).nu, .int .i64 (maxN (delQ (isNo c) (liveL L)) x2).at_, .int .i64 (maxN (delQ (isNo c) (liveL L)) x2).ki, .int .i64 (maxN (delQ (isNo c) (liveL L)) x2).sh, .int .i64 (maxN (delQ (isNo c) (liveL L)) x2).ce, .int .i64 (maxN (delQ (isNo c) (liveL L)) x2).va] : KObj) = some (.cells true 0 [.int .i64 (maxN (delQ (isNo c) (liveL L)) x2').au, .int .i64 (maxN (delQ (isNo c) (liveL L)) x2').nu, .int .i64 (maxN (delQ (isNo c) (liveL L)) x2').at_, .int .i64 (maxN (delQ (isNo c) (liveL L)) x2').ki, .int .i64 (maxN (delQ (isNo c) (liveL L)) x2').sh, .int .i64 (maxN (delQ (isNo c) (liveL L)) x2').ce, .int .i64 (maxN (delQ (isNo c) (liveL L)) x2').va] : KObj) /\ belowO 7 (.cells true 0 [.int .i64 (maxN (delQ (isNo c) (liveL L)) x2').au, .int .i64 (maxN (delQ (isNo c) (liveL L)) x2').nu, .int .i64 (maxN (delQ (isNo c) (liveL L)) x2').at_, .int .i64 (maxN (delQ (isNo c) (liveL L)) x2').ki, .int .i64 (maxN (delQ (isNo c) (liveL L)) x2').sh, .int .i64 (maxN (delQ (isNo c) (liveL L)) x2').ce, .int .i64 (maxN (delQ (isNo c) (liveL L)) x2').va] : KObj) = true) /\ True) /\ (True) /\ (True))))))))))))))) /\ ((decide (((((x2 + 1) : Nat) : Int) : Int) < (((List.length (List.filter (isNo c) (liveL L))) : Nat) : Int))) = false -> (true = true /\ wk (.tuple #[.agg #[.int .i64 (maxN (delQ (isNo c) (liveL L)) x2).au, .int .i64 (maxN (delQ (isNo c) (liveL L)) x2).nu, .int .i64 (maxN (delQ (isNo c) (liveL L)) x2).at_, .int .i64 (maxN (delQ (isNo c) (liveL L)) x2).ki, .int .i64 (maxN (delQ (isNo c) (liveL L)) x2).sh, .int .i64 (maxN (delQ (isNo c) (liveL L)) x2).ce, .int .i64 (maxN (delQ (isNo c) (liveL L)) x2).va], .int .i64 0] : Value) (rn (sg 2 []) 3 (.tuple #[.agg #[.int .i64 (notM L c).au, .int .i64 (notM L c).nu, .int .i64 (notM L c).at_, .int .i64 (notM L c).ki, .int .i64 (notM L c).sh, .int .i64 (notM L c).ce, .int .i64 (notM L c).va], .int .i64 (notErr L c)] : Value)) /\ (True)))))))))))))))) /\ ((decide ((0 : Int) <= c)) = false -> (true = true /\ wk (.tuple #[.agg #[.int .i64 0, .int .i64 0, .int .i64 0, .int .i64 0, .int .i64 0, .int .i64 0, .int .i64 0], .int .i64 6] : Value) (rn (sg 2 []) 3 (.tuple #[.agg #[.int .i64 (notM L c).au, .int .i64 (notM L c).nu, .int .i64 (notM L c).at_, .int .i64 (notM L c).ki, .int .i64 (notM L c).sh, .int .i64 (notM L c).ce, .int .i64 (notM L c).va], .int .i64 (notErr L c)] : Value)) /\ (True))))
theorem Enotice (L : List Msg) (c : Int) : vF prog msk (dm 0) 100000 true 40 true 37 [.pointer (some ⟨0, 0, none⟩), .int .i64 c] (readsK [.cells true 0 [.map (some 1)], .map (heldE L)]) (some [])
 (.go 23 (.gfork (.go 5 (.fork (.go 2 (.again [])) (.go 0 (.ans [(0, .cells true 0 [.map (some 1)]), (1, .map (heldE L))] (.slice (some ⟨4, 0, some 2⟩) (List.length (liveL L)) (List.length (liveL L))) [.cells true 7 (List.flatMap msgC (liveL L))] (.go 0 (.answ [(4, .cells true 7 (List.flatMap msgC (liveL L))), (2, .cells true 0 [.int .i64 c])] (.slice (some ⟨4, 0, some 2⟩) (List.length (List.filter (isNo c) (liveL L))) (List.length (List.filter (isNo c) (liveL L)))) [(4, .cells true 7 (List.flatMap msgC (delQ (isNo c) (liveL L))))] [] (.go 3 (.fork (.go 2 (.again [])) (.go 5 (.fork (.auto) (.go 0 (.need (.val (.agg #[.int .i64 (List.getD (delQ (isNo c) (liveL L)) 0 zeroM).au, .int .i64 (List.getD (delQ (isNo c) (liveL L)) 0 zeroM).nu, .int .i64 (List.getD (delQ (isNo c) (liveL L)) 0 zeroM).at_, .int .i64 (List.getD (delQ (isNo c) (liveL L)) 0 zeroM).ki, .int .i64 (List.getD (delQ (isNo c) (liveL L)) 0 zeroM).sh, .int .i64 (List.getD (delQ (isNo c) (liveL L)) 0 zeroM).ce, .int .i64 (List.getD (delQ (isNo c) (liveL L)) 0 zeroM).va]) (.go 2 (.inv 3 (Nat) (0) [] [6] (fun x2 => [(6, .int .i64 (((x2 + 1) : Nat) : Int)), (1, .func (.func 105) #[] #[]), (0, .slice (some ⟨4, 0, some 2⟩) (List.length (List.filter (isNo c) (liveL L))) (List.length (List.filter (isNo c) (liveL L)))), (4, .pointer (some ⟨5, 0, none⟩)), (5, .pointer (some ⟨6, 0, none⟩))]) (fun x2 => [(6, true, .cells true 0 [.int .i64 (maxN (delQ (isNo c) (liveL L)) x2).au, .int .i64 (maxN (delQ (isNo c) (liveL L)) x2).nu, .int .i64 (maxN (delQ (isNo c) (liveL L)) x2).at_, .int .i64 (maxN (delQ (isNo c) (liveL L)) x2).ki, .int .i64 (maxN (delQ (isNo c) (liveL L)) x2).sh, .int .i64 (maxN (delQ (isNo c) (liveL L)) x2).ce, .int .i64 (maxN (delQ (isNo c) (liveL L)) x2).va])]) (fun x2 => []) (fun x2 => []) (fun x2 => (x2 + 1 <= List.length (List.filter (isNo c) (liveL L)))) (fun x2 => (List.length (List.filter (isNo c) (liveL L)) - x2)) (fun x2 => .go 3 (.fork (.go 2 (.need (.val (.agg #[.int .i64 (List.getD (delQ (isNo c) (liveL L)) (x2 + 1) zeroM).au, .int .i64 (List.getD (delQ (isNo c) (liveL L)) (x2 + 1) zeroM).nu, .int .i64 (List.getD (delQ (isNo c) (liveL L)) (x2 + 1) zeroM).at_, .int .i64 (List.getD (delQ (isNo c) (liveL L)) (x2 + 1) zeroM).ki, .int .i64 (List.getD (delQ (isNo c) (liveL L)) (x2 + 1) zeroM).sh, .int .i64 (List.getD (delQ (isNo c) (liveL L)) (x2 + 1) zeroM).ce, .int .i64 (List.getD (delQ (isNo c) (liveL L)) (x2 + 1) zeroM).va]) (.go 9 (.slot 9 (.int .i64 ((List.getD (delQ (isNo c) (liveL L)) (x2 + 1) zeroM).at_ - (maxN (delQ (isNo c) (liveL L)) x2).at_)) (.go 4 (.slot 14 (.int .i64 ((List.getD (delQ (isNo c) (liveL L)) (x2 + 1) zeroM).au - (maxN (delQ (isNo c) (liveL L)) x2).au)) (.go 4 (.slot 19 (.int .i64 ((List.getD (delQ (isNo c) (liveL L)) (x2 + 1) zeroM).nu - (maxN (delQ (isNo c) (liveL L)) x2).nu)) (.go 14 (.fork (.go 3 (.fork (.go 1 (.need (.val (.agg #[.int .i64 (List.getD (delQ (isNo c) (liveL L)) (x2 + 1) zeroM).au, .int .i64 (List.getD (delQ (isNo c) (liveL L)) (x2 + 1) zeroM).nu, .int .i64 (List.getD (delQ (isNo c) (liveL L)) (x2 + 1) zeroM).at_, .int .i64 (List.getD (delQ (isNo c) (liveL L)) (x2 + 1) zeroM).ki, .int .i64 (List.getD (delQ (isNo c) (liveL L)) (x2 + 1) zeroM).sh, .int .i64 (List.getD (delQ (isNo c) (liveL L)) (x2 + 1) zeroM).ce, .int .i64 (List.getD (delQ (isNo c) (liveL L)) (x2 + 1) zeroM).va]) (.go 2 (.slot 19 (.int .i64 ((((x2 + 1) : Nat) : Int) + 1)) (.go 0 (.again []))))))) (.go 1 (.slot 19 (.int .i64 ((((x2 + 1) : Nat) : Int) + 1)) (.go 0 (.again [])))))) (.go 9 (.fork (.go 3 (.fork (.go 1 (.need (.val (.agg #[.int .i64 (List.getD (delQ (isNo c) (liveL L)) (x2 + 1) zeroM).au, .int .i64 (List.getD (delQ (isNo c) (liveL L)) (x2 + 1) zeroM).nu, .int .i64 (List.getD (delQ (isNo c) (liveL L)) (x2 + 1) zeroM).at_, .int .i64 (List.getD (delQ (isNo c) (liveL L)) (x2 + 1) zeroM).ki, .int .i64 (List.getD (delQ (isNo c) (liveL L)) (x2 + 1) zeroM).sh, .int .i64 (List.getD (delQ (isNo c) (liveL L)) (x2 + 1) zeroM).ce, .int .i64 (List.getD (delQ (isNo c) (liveL L)) (x2 + 1) zeroM).va]) (.go 2 (.slot 19 (.int .i64 ((((x2 + 1) : Nat) : Int) + 1)) (.go 0 (.again []))))))) (.go 1 (.slot 19 (.int .i64 ((((x2 + 1) : Nat) : Int) + 1)) (.go 0 (.again [])))))) (.go 9 (.fork (.go 3 (.fork (.go 1 (.need (.val (.agg #[.int .i64 (List.getD (delQ (isNo c) (liveL L)) (x2 + 1) zeroM).au, .int .i64 (List.getD (delQ (isNo c) (liveL L)) (x2 + 1) zeroM).nu, .int .i64 (List.getD (delQ (isNo c) (liveL L)) (x2 + 1) zeroM).at_, .int .i64 (List.getD (delQ (isNo c) (liveL L)) (x2 + 1) zeroM).ki, .int .i64 (List.getD (delQ (isNo c) (liveL L)) (x2 + 1) zeroM).sh, .int .i64 (List.getD (delQ (isNo c) (liveL L)) (x2 + 1) zeroM).ce, .int .i64 (List.getD (delQ (isNo c) (liveL L)) (x2 + 1) zeroM).va]) (.go 2 (.slot 19 (.int .i64 ((((x2 + 1) : Nat) : Int) + 1)) (.go 0 (.again []))))))) (.go 1 (.slot 19 (.int .i64 ((((x2 + 1) : Nat) : Int) + 1)) (.go 0 (.again [])))))) (.go 10 (.slot 19 (.int .i64 ((((x2 + 1) : Nat) : Int) + 1)) (.go 0 (.again []))))))))))))))))))) (.go 3 (.again []))))))))))))))))))) (.go 6 (.again []))))
 (newK ((readsK [.cells true 0 [.map (some 1)], .map (heldE L)]) : HT).n 3 (.tuple #[.agg #[.int .i64 (notM L c).au, .int .i64 (notM L c).nu, .int .i64 (notM L c).at_, .int .i64 (notM L c).ki, .int .i64 (notM L c).sh, .int .i64 (notM L c).ce, .int .i64 (notM L c).va], .int .i64 (notErr L c)]) []) = Rnotice L c := by kernel_rfl
end
end Go.Proofs.YtbgfjemppjhmjaaGreat
/- Radio: notices. No condition. -/
namespace Go.Proofs.YtbgfjemppjhmjaaGreat
open Go Go.K
set_option maxRecDepth 100000
set_option linter.unusedVariables false
set_option linter.unusedSimpArgs false
noncomputable section
attribute [local irreducible] vF
theorem delQ_len (q : Msg -> Bool) (M : List Msg) : (delQ q M).length = M.length := by
 have : (M.filter q).length <= M.length := List.length_filter_le ..
 unfold delQ; rw [List.length_append, List.length_replicate]; omega
theorem delQ_ok {q : Msg -> Bool} {M : List Msg} (hk : ∀ m ∈ M, okM m = true) {x : Nat} (hx : x < (M.filter q).length) : okM ((delQ q M).getD x zeroM) = true := by
 unfold delQ
 rw [List.getD_eq_getElem?_getD, List.getElem?_append_left hx, List.getElem?_eq_getElem hx]
 exact hk _ (List.mem_filter.1 (List.getElem_mem hx)).1
theorem maxN_ok {N : List Msg} {n : Nat} (h : ∀ x, x < n -> okM (N.getD x zeroM) = true) : ∀ x, x < n -> okM (maxN N x) = true
 | 0, hx => h 0 hx
 | x + 1, hx => by
  unfold maxN
  split
  ·exact h _ hx
  ·exact maxN_ok h x (by omega)
theorem hv14 {L : List Msg} {c : Int} (hk : ∀ m ∈ L, okM m = true) (hl : L.length <= 2000) (h0 : 0 <= c) (h1 : c <= 1023) : Rnotice L c := by
 have s1 := srtM_len L
 have l1 : (liveL L).length <= L.length := by rw [<- s1]; exact List.length_filter_le ..
 have l2 : ((liveL L).filter (isNo c)).length <= (liveL L).length := List.length_filter_le ..
 have l3 := delQ_len (isNo c) (liveL L)
 have hlk : ∀ m ∈ liveL L, okM m = true := fun m hm => hk m (srtM_mem.1 (List.mem_filter.1 hm).1)
 unfold Rnotice
 refine ⟨fun a => ⟨fun b => (by rw [decide_eq_true h1] at b; cases b), fun b => ⟨⟨rfl, rfl, trivial⟩, fun H' hl' h => ?_, ⟨rfl, rfl, trivial⟩, fun H' _ h => kDelN c (by omega) h.1 h.2.1 (by decide), fun d => ?_, fun d => ⟨fun e => ?_, fun e => ⟨⟨by omega, ?_⟩, partM ?_ (by omega), rfl, ?_, ?_, fun _ => rfl, fun x hx => ?_⟩⟩⟩⟩, fun a => (by rw [decide_eq_true h0] at a; cases a)⟩
 ·have := kLive0 hk hl (H := H') (by decide) h.1 h.2.1
  rw [hl'] at this; exact this
 ·have hz : ((liveL L).filter (isNo c)).length = 0 := by have := eq_of_beq d; omega
  rw [show notM L c = zeroM from if_pos hz, show notErr L c = 4 from if_pos hz]
  exact ⟨rfl, wk_refl _, trivial⟩
 ·have hd : ¬ ((liveL L).filter (isNo c)).length = 0 := fun q => absurd d (by rw [q]; decide)
  have := of_decide_eq_true e
  omega
 ·have hd : ¬ ((liveL L).filter (isNo c)).length = 0 := fun q => absurd d (by rw [q]; decide)
  omega
 ·have hd : ¬ ((liveL L).filter (isNo c)).length = 0 := fun q => absurd d (by rw [q]; decide)
  omega
 ·have hd : ¬ ((liveL L).filter (isNo c)).length = 0 := fun q => absurd d (by rw [q]; decide)
  omega
 ·repeat' first | exact trivial | exact rfl | exact wk_refl _ | refine wkO_cells ?_ | refine wks_cons ?_ ?_ | exact wks_nil | exact wk_nil _ _ _ (.inl rfl) | (exact wk_Q (by omega)) | refine wk_tupL ?_ | refine wk_aggL ?_ | refine joinMax ?_ ?_ ?_ | refine joinMin ?_ ?_ ?_ | refine toMax ?_ | refine toMin ?_ | refine ⟨rfl, ?_⟩ | refine ⟨trivial, ?_⟩ | (refine forkD (fun h => ?_) (fun h => ?_)) | (refine forkNe (fun h => ?_) (fun h => ?_)) | (refine forkEq (fun h => ?_) (fun h => ?_)) | refine forkNot ?_ | (refine ⟨vI64 (by omega), ?_⟩) | (refine And.intro (by omega) ?_) | apply And.intro | (exact iEq (by omega)) | (exact vI64 (by omega))
 ·refine ⟨fun f => ?_, fun f => ?_⟩
  ·have hx1 : x + 1 < ((liveL L).filter (isNo c)).length := by have := of_decide_eq_true f; omega
   have a1 := okM_spec (delQ_ok (q := isNo c) hlk hx1)
   have a2 := okM_spec (maxN_ok (N := delQ (isNo c) (liveL L)) (n := ((liveL L).filter (isNo c)).length) (fun y hy => delQ_ok hlk hy) x (by omega))
   have hT : 0 < ordT ((delQ (isNo c) (liveL L)).getD (x + 1) zeroM) (maxN (delQ (isNo c) (liveL L)) x) -> maxN (delQ (isNo c) (liveL L)) (x + 1) = (delQ (isNo c) (liveL L)).getD (x + 1) zeroM := fun h => if_pos h
   have hF : ¬ 0 < ordT ((delQ (isNo c) (liveL L)).getD (x + 1) zeroM) (maxN (delQ (isNo c) (liveL L)) x) -> maxN (delQ (isNo c) (liveL L)) (x + 1) = maxN (delQ (isNo c) (liveL L)) x := fun h => if_neg h
   refine ⟨⟨by omega, by omega⟩, partM (by omega) (by omega), vI64 (by omega), vI64 (by omega), vI64 (by omega), fun p => ⟨fun g => ?_, fun g => ?_⟩, fun p => ⟨fun r => ⟨fun g => ?_, fun g => ?_⟩, fun r => ?_⟩⟩
   ·refine ⟨⟨by omega, by omega⟩, partM (by omega) (by omega), vI64 (by omega), x + 1, by omega, by omega, rfl, ?_⟩
    rw [hT (by unfold ordT; rw [orI_1 (neB p)]; exact of_decide_eq_true g)]
    repeat' first | exact trivial | exact rfl | exact wk_refl _ | refine wkO_cells ?_ | refine wks_cons ?_ ?_ | exact wks_nil | exact wk_nil _ _ _ (.inl rfl) | (exact wk_Q (by omega)) | refine wk_tupL ?_ | refine wk_aggL ?_ | refine joinMax ?_ ?_ ?_ | refine joinMin ?_ ?_ ?_ | refine toMax ?_ | refine toMin ?_ | refine ⟨rfl, ?_⟩ | refine ⟨trivial, ?_⟩ | (refine forkD (fun h => ?_) (fun h => ?_)) | (refine forkNe (fun h => ?_) (fun h => ?_)) | (refine forkEq (fun h => ?_) (fun h => ?_)) | refine forkNot ?_ | (refine ⟨vI64 (by omega), ?_⟩) | (refine And.intro (by omega) ?_) | apply And.intro | (exact iEq (by omega)) | (exact vI64 (by omega))
   ·refine ⟨vI64 (by omega), x + 1, by omega, by omega, rfl, ?_⟩
    rw [hF (by unfold ordT; rw [orI_1 (neB p)]; exact of_decide_eq_false g)]
    repeat' first | exact trivial | exact rfl | exact wk_refl _ | refine wkO_cells ?_ | refine wks_cons ?_ ?_ | exact wks_nil | exact wk_nil _ _ _ (.inl rfl) | (exact wk_Q (by omega)) | refine wk_tupL ?_ | refine wk_aggL ?_ | refine joinMax ?_ ?_ ?_ | refine joinMin ?_ ?_ ?_ | refine toMax ?_ | refine toMin ?_ | refine ⟨rfl, ?_⟩ | refine ⟨trivial, ?_⟩ | (refine forkD (fun h => ?_) (fun h => ?_)) | (refine forkNe (fun h => ?_) (fun h => ?_)) | (refine forkEq (fun h => ?_) (fun h => ?_)) | refine forkNot ?_ | (refine ⟨vI64 (by omega), ?_⟩) | (refine And.intro (by omega) ?_) | apply And.intro | (exact iEq (by omega)) | (exact vI64 (by omega))
   ·refine ⟨⟨by omega, by omega⟩, partM (by omega) (by omega), vI64 (by omega), x + 1, by omega, by omega, rfl, ?_⟩
    rw [hT (by unfold ordT; rw [orI_0 (eqB0 p), orI_1 (neB r)]; exact of_decide_eq_true g)]
    repeat' first | exact trivial | exact rfl | exact wk_refl _ | refine wkO_cells ?_ | refine wks_cons ?_ ?_ | exact wks_nil | exact wk_nil _ _ _ (.inl rfl) | (exact wk_Q (by omega)) | refine wk_tupL ?_ | refine wk_aggL ?_ | refine joinMax ?_ ?_ ?_ | refine joinMin ?_ ?_ ?_ | refine toMax ?_ | refine toMin ?_ | refine ⟨rfl, ?_⟩ | refine ⟨trivial, ?_⟩ | (refine forkD (fun h => ?_) (fun h => ?_)) | (refine forkNe (fun h => ?_) (fun h => ?_)) | (refine forkEq (fun h => ?_) (fun h => ?_)) | refine forkNot ?_ | (refine ⟨vI64 (by omega), ?_⟩) | (refine And.intro (by omega) ?_) | apply And.intro | (exact iEq (by omega)) | (exact vI64 (by omega))
   ·refine ⟨vI64 (by omega), x + 1, by omega, by omega, rfl, ?_⟩
    rw [hF (by unfold ordT; rw [orI_0 (eqB0 p), orI_1 (neB r)]; exact of_decide_eq_false g)]
    repeat' first | exact trivial | exact rfl | exact wk_refl _ | refine wkO_cells ?_ | refine wks_cons ?_ ?_ | exact wks_nil | exact wk_nil _ _ _ (.inl rfl) | (exact wk_Q (by omega)) | refine wk_tupL ?_ | refine wk_aggL ?_ | refine joinMax ?_ ?_ ?_ | refine joinMin ?_ ?_ ?_ | refine toMax ?_ | refine toMin ?_ | refine ⟨rfl, ?_⟩ | refine ⟨trivial, ?_⟩ | (refine forkD (fun h => ?_) (fun h => ?_)) | (refine forkNe (fun h => ?_) (fun h => ?_)) | (refine forkEq (fun h => ?_) (fun h => ?_)) | refine forkNot ?_ | (refine ⟨vI64 (by omega), ?_⟩) | (refine And.intro (by omega) ?_) | apply And.intro | (exact iEq (by omega)) | (exact vI64 (by omega))
   ·refine ⟨fun u => ⟨fun g => ?_, fun g => ?_⟩, fun u => ?_⟩
    ·refine ⟨⟨by omega, by omega⟩, partM (by omega) (by omega), vI64 (by omega), x + 1, by omega, by omega, rfl, ?_⟩
     rw [hT (by unfold ordT; rw [orI_0 (eqB0 p), orI_0 (eqB0 r)]; exact of_decide_eq_true g)]
     repeat' first | exact trivial | exact rfl | exact wk_refl _ | refine wkO_cells ?_ | refine wks_cons ?_ ?_ | exact wks_nil | exact wk_nil _ _ _ (.inl rfl) | (exact wk_Q (by omega)) | refine wk_tupL ?_ | refine wk_aggL ?_ | refine joinMax ?_ ?_ ?_ | refine joinMin ?_ ?_ ?_ | refine toMax ?_ | refine toMin ?_ | refine ⟨rfl, ?_⟩ | refine ⟨trivial, ?_⟩ | (refine forkD (fun h => ?_) (fun h => ?_)) | (refine forkNe (fun h => ?_) (fun h => ?_)) | (refine forkEq (fun h => ?_) (fun h => ?_)) | refine forkNot ?_ | (refine ⟨vI64 (by omega), ?_⟩) | (refine And.intro (by omega) ?_) | apply And.intro | (exact iEq (by omega)) | (exact vI64 (by omega))
    ·refine ⟨vI64 (by omega), x + 1, by omega, by omega, rfl, ?_⟩
     rw [hF (by unfold ordT; rw [orI_0 (eqB0 p), orI_0 (eqB0 r)]; exact of_decide_eq_false g)]
     repeat' first | exact trivial | exact rfl | exact wk_refl _ | refine wkO_cells ?_ | refine wks_cons ?_ ?_ | exact wks_nil | exact wk_nil _ _ _ (.inl rfl) | (exact wk_Q (by omega)) | refine wk_tupL ?_ | refine wk_aggL ?_ | refine joinMax ?_ ?_ ?_ | refine joinMin ?_ ?_ ?_ | refine toMax ?_ | refine toMin ?_ | refine ⟨rfl, ?_⟩ | refine ⟨trivial, ?_⟩ | (refine forkD (fun h => ?_) (fun h => ?_)) | (refine forkNe (fun h => ?_) (fun h => ?_)) | (refine forkEq (fun h => ?_) (fun h => ?_)) | refine forkNot ?_ | (refine ⟨vI64 (by omega), ?_⟩) | (refine And.intro (by omega) ?_) | apply And.intro | (exact iEq (by omega)) | (exact vI64 (by omega))
    ·refine ⟨vI64 (by omega), x + 1, by omega, by omega, rfl, ?_⟩
     rw [hF (by unfold ordT; rw [orI_0 (eqB0 p), orI_0 (eqB0 r), eqB0 u]; exact Int.lt_irrefl 0)]
     repeat' first | exact trivial | exact rfl | exact wk_refl _ | refine wkO_cells ?_ | refine wks_cons ?_ ?_ | exact wks_nil | exact wk_nil _ _ _ (.inl rfl) | (exact wk_Q (by omega)) | refine wk_tupL ?_ | refine wk_aggL ?_ | refine joinMax ?_ ?_ ?_ | refine joinMin ?_ ?_ ?_ | refine toMax ?_ | refine toMin ?_ | refine ⟨rfl, ?_⟩ | refine ⟨trivial, ?_⟩ | (refine forkD (fun h => ?_) (fun h => ?_)) | (refine forkNe (fun h => ?_) (fun h => ?_)) | (refine forkEq (fun h => ?_) (fun h => ?_)) | refine forkNot ?_ | (refine ⟨vI64 (by omega), ?_⟩) | (refine And.intro (by omega) ?_) | apply And.intro | (exact iEq (by omega)) | (exact vI64 (by omega))
  ·have hd : ¬ (notL L c).length = 0 := fun q => absurd d (by rw [show ((liveL L).filter (isNo c)).length = 0 from q]; decide)
   have hx2 : (notL L c).length - 1 = x := by
    have := of_decide_eq_false f
    have : (notL L c).length = ((liveL L).filter (isNo c)).length := rfl
    omega
   rw [show notM L c = maxN (delQ (isNo c) (liveL L)) x from by unfold notM; rw [if_neg hd, hx2], show notErr L c = 0 from if_neg hd]
   exact ⟨rfl, wk_refl _, trivial⟩
theorem kNotice {L : List Msg} {c : Int} (hk : ∀ m ∈ L, okM m = true) (hl : L.length <= 2000) (h0 : 0 <= c) (h1 : c <= 1023) {H : Heap} {i q : Nat} (hne : i ≠ q) (hi : H[i]? = some (.cells true 0 [.map (some q)])) (hq : H[q]? = some (.map (heldE L))) :
  KCall prog 37 [.pointer (some ⟨i, 0, none⟩), .int .i64 c] H [] (Is (.tuple #[msgV (notM L c), .int .i64 (notErr L c)]) H) := by
 have key := valKs (fun _ => .tuple #[msgV (notM L c), .int .i64 (notErr L c)]) (os := [.cells true 0 [.map (some 1)], .map (heldE L)]) (new := []) (Eq.mpr (Enotice L c) (hv14 hk hl h0 h1)) (pic_ok L 1) rfl trivial (ids := [i, q]) (by simp [hne])
  (pic_objs hi hq) (fun j => rfl) (args' := [.pointer (some ⟨i, 0, none⟩), .int .i64 c]) rfl
 rwa [List.append_nil] at key
end
end Go.Proofs.YtbgfjemppjhmjaaGreat
/- What is to be shown of functions. Printed by a program. No condition. -/
namespace Go.Proofs.YtbgfjemppjhmjaaGreat
set_option linter.unusedSimpArgs false
open Go Go.K
set_option maxRecDepth 100000
set_option maxHeartbeats 4000000
set_option linter.unusedVariables false
noncomputable section
def Rforged (L : List Msg) : Prop :=
 (true = true /\ (SeenI L ([] : List Nat)) /\ (true = true /\ ((.map none : Value) = .map none /\ (.map (some 2) : Value) = .map (some 2) /\ (.pointer (some ⟨3, 0, none⟩) : Value) = .pointer (some ⟨3, 0, none⟩) /\ True) /\ ((some (.map (nmE []) : KObj) = some (.map (nmE (forgF L ([] : List Nat))) : KObj) /\ belowO 4 (.map (nmE (forgF L ([] : List Nat))) : KObj) = true) /\ (some (.iter 1 (List.length (heldE L)) [] : KObj) = some (.iter 1 (List.length (heldE L)) ([] : List Nat) : KObj) /\ belowO 4 (.iter 1 (List.length (heldE L)) ([] : List Nat) : KObj) = true) /\ True) /\ (True) /\ (True)) /\ (∀ x0 : List Nat, true = true) /\ ∀ x0 : List Nat, (SeenI L x0) -> ((List.length (heldE L) = (List.length (heldE L))) /\ (∀ x1 : Nat, x1 < (List.length (heldE L)) -> x1 ∉ x0 -> ((List.length (heldE L) = (List.length (heldE L))) /\ (entryE (heldE L) (x0 ++ [x1]) = some (.tuple #[.agg #[.int .i64 (List.getD L x1 zeroM).au, .int .i64 (List.getD L x1 zeroM).nu, .int .i64 (List.getD L x1 zeroM).at_, .int .i64 (List.getD L x1 zeroM).ki, .int .i64 (List.getD L x1 zeroM).sh, .int .i64 (List.getD L x1 zeroM).ce, .int .i64 (List.getD L x1 zeroM).va], .bool true])) /\ ((klookE prog 79 (.bool false) (.agg #[.int .i64 (List.getD L x1 zeroM).au, .int .i64 (List.getD L x1 zeroM).nu]) true (nmE (forgF L x0)) = some (.tuple #[.bool (getA ((List.getD L x1 zeroM).au, (List.getD L x1 zeroM).nu) false (forgF L x0)), .bool (hasA ((List.getD L x1 zeroM).au, (List.getD L x1 zeroM).nu) (forgF L x0))])) /\ ((ksetE prog 79 (.agg #[.int .i64 (List.getD L x1 zeroM).au, .int .i64 (List.getD L x1 zeroM).nu]) (.bool (hasA ((List.getD L x1 zeroM).au, (List.getD L x1 zeroM).nu) (forgF L x0))) (nmE (forgF L x0)) = some (nmE (putA ((List.getD L x1 zeroM).au, (List.getD L x1 zeroM).nu) (hasA ((List.getD L x1 zeroM).au, (List.getD L x1 zeroM).nu) (forgF L x0)) (forgF L x0)))) /\ (∃ x0' : List Nat, (SeenI L x0') /\ (List.length L - List.length x0') < (List.length L - List.length x0) /\ true = true /\ ((.map none : Value) = .map none /\ (.map (some 2) : Value) = .map (some 2) /\ (.pointer (some ⟨3, 0, none⟩) : Value) = .pointer (some ⟨3, 0, none⟩) /\ True) /\ ((some (.map (nmE (putA ((List.getD L x1 zeroM).au, (List.getD L x1 zeroM).nu) (hasA ((List.getD L x1 zeroM).au, (List.getD L x1 zeroM).nu) (forgF L x0)) (forgF L x0))) : KObj) = some (.map (nmE (forgF L x0')) : KObj) /\ belowO 4 (.map (nmE (forgF L x0')) : KObj) = true) /\ (some (.iter 1 (List.length (heldE L)) (x0 ++ [x1]) : KObj) = some (.iter 1 (List.length (heldE L)) x0' : KObj) /\ belowO 4 (.iter 1 (List.length (heldE L)) x0' : KObj) = true) /\ True) /\ (True) /\ (True)))))) /\ ((∀ x1 : Nat, x1 < (List.length (heldE L)) -> x1 ∈ x0) -> (true = true /\ (SeenN (forgF L x0) ([] : List Nat)) /\ (true = true /\ (wk (.slice none 0 0 : Value) (.slice (some ⟨0, 0, some 1⟩) (List.length (fgP (forgF L x0) ([] : List Nat))) (List.length (fgP (forgF L x0) ([] : List Nat))) : Value) /\ (.slice none 0 0 : Value) = .slice none 0 0 /\ (.int .i64 0 : Value) = .int .i64 0 /\ (.pointer (some ⟨4, 0, none⟩) : Value) = .pointer (some ⟨4, 0, none⟩) /\ True) /\ ((some (.iter 2 (List.length (nmE (forgF L x0))) [] : KObj) = some (.iter 2 (List.length (nmE (forgF L x0))) ([] : List Nat) : KObj) /\ belowO 5 (.iter 2 (List.length (nmE (forgF L x0))) ([] : List Nat) : KObj) = true) /\ True) /\ (True /\ True) /\ (True)) /\ (∀ x2 : List Nat, true = true) /\ ∀ x2 : List Nat, (SeenN (forgF L x0) x2) -> ((List.length (nmE (forgF L x0)) = (List.length (nmE (forgF L x0)))) /\ (∀ x3 : Nat, x3 < (List.length (nmE (forgF L x0))) -> x3 ∉ x2 -> ((List.length (nmE (forgF L x0)) = (List.length (nmE (forgF L x0)))) /\ (entryE (nmE (forgF L x0)) (x2 ++ [x3]) = some (.tuple #[.agg #[.int .i64 (List.getD (forgF L x0) x3 zeroN).1.1, .int .i64 (List.getD (forgF L x0) x3 zeroN).1.2], .bool (List.getD (forgF L x0) x3 zeroN).2])) /\ (((List.getD (forgF L x0) x3 zeroN).2 = true -> ((((List.length (fgP (forgF L x0) x2)) + 1) * 16 <= 2 ^ 44 /\ 1 ≠ 0 /\ ((List.length (fgP (forgF L x0) x2)) <= (List.length (fgP (forgF L x0) x2)) /\ 0 + (List.length (fgP (forgF L x0) x2)) * 2 <= List.length (List.flatMap nmC (fgP (forgF L x0) x2))) /\ (1 <= 1 /\ 0 + 1 * 2 <= List.length ([.int .i64 (List.getD (forgF L x0) x3 zeroN).1.1, .int .i64 (List.getD (forgF L x0) x3 zeroN).1.2] : List Value)) /\ ((List.take (1 * 2) (List.drop 0 ([.int .i64 (List.getD (forgF L x0) x3 zeroN).1.1, .int .i64 (List.getD (forgF L x0) x3 zeroN).1.2] : List Value))) : List Value).all (fun v => one1 v) = true) /\ true = true /\ (∃ x2' : List Nat, (SeenN (forgF L x0) x2') /\ (List.length (forgF L x0) - List.length x2') < (List.length (forgF L x0) - List.length x2) /\ true = true /\ (wk (.slice (some ⟨8, 0, none⟩) ((List.length (fgP (forgF L x0) x2)) + 1) ((List.length (fgP (forgF L x0) x2)) + 1) : Value) (.slice (some ⟨8, 0, some 1⟩) (List.length (fgP (forgF L x0) x2')) (List.length (fgP (forgF L x0) x2')) : Value) /\ (.slice none 0 0 : Value) = .slice none 0 0 /\ (.int .i64 0 : Value) = .int .i64 0 /\ (.pointer (some ⟨4, 0, none⟩) : Value) = .pointer (some ⟨4, 0, none⟩) /\ True) /\ ((some (.iter 2 (List.length (nmE (forgF L x0))) (x2 ++ [x3]) : KObj) = some (.iter 2 (List.length (nmE (forgF L x0))) x2' : KObj) /\ belowO 5 (.iter 2 (List.length (nmE (forgF L x0))) x2' : KObj) = true) /\ True) /\ ((some (.cells true 2 ((List.take ((List.length (fgP (forgF L x0) x2)) * 2) (List.drop 0 (List.flatMap nmC (fgP (forgF L x0) x2)))) ++ (List.take (1 * 2) (List.drop 0 ([.int .i64 (List.getD (forgF L x0) x3 zeroN).1.1, .int .i64 (List.getD (forgF L x0) x3 zeroN).1.2] : List Value)))) : KObj) = some (.cells true 2 (List.flatMap nmC (fgP (forgF L x0) x2')) : KObj) /\ belowO 5 (.cells true 2 (List.flatMap nmC (fgP (forgF L x0) x2')) : KObj) = true) /\ True) /\ (True)))) /\ ((List.getD (forgF L x0) x3 zeroN).2 = false -> (∃ x2' : List Nat, (SeenN (forgF L x0) x2') /\ (List.length (forgF L x0) - List.length x2') < (List.length (forgF L x0) - List.length x2) /\ true = true /\ (wk (.slice (some ⟨5, 0, some 1⟩) (List.length (fgP (forgF L x0) x2)) (List.length (fgP (forgF L x0) x2)) : Value) (.slice (some ⟨5, 0, some 1⟩) (List.length (fgP (forgF L x0) x2')) (List.length (fgP (forgF L x0) x2')) : Value) /\ (.slice none 0 0 : Value) = .slice none 0 0 /\ (.int .i64 0 : Value) = .int .i64 0 /\ (.pointer (some ⟨4, 0, none⟩) : Value) = .pointer (some ⟨4, 0, none⟩) /\ True) /\ ((some (.iter 2 (List.length (nmE (forgF L x0))) (x2 ++ [x3]) : KObj) = some (.iter 2 (List.length (nmE (forgF L x0))) x2' : KObj) /\ belowO 5 (.iter 2 (List.length (nmE (forgF L x0))) x2' : KObj) = true) /\ True) /\ ((some (.cells true 2 (List.flatMap nmC (fgP (forgF L x0) x2)) : KObj) = some (.cells true 2 (List.flatMap nmC (fgP (forgF L x0) x2')) : KObj) /\ belowO 5 (.cells true 2 (List.flatMap nmC (fgP (forgF L x0) x2')) : KObj) = true) /\ True) /\ (True)))))) /\ ((∀ x3 : Nat, x3 < (List.length (nmE (forgF L x0))) -> x3 ∈ x2) -> (((some (.cells true 2 (List.flatMap nmC (fgP (forgF L x0) x2)) : KObj) = some (.cells true 2 (List.flatMap nmC (fgP (forgF L x0) x2)) : KObj)) /\ True) /\ (∀ H' : Heap, H'.length = 6 -> (H'[5]? = some (.cells true 2 (List.flatMap nmC (fgP (forgF L x0) x2)) : KObj) /\ True) -> KCall prog 100 [.slice (some ⟨5, 0, some 1⟩) (List.length (fgP (forgF L x0) x2)) (List.length (fgP (forgF L x0) x2)), .func (.func 101) #[] #[]] H' [5] (Is (.tuple #[]) (List.set H' 5 (.cells true 2 (List.flatMap nmC (srtN (fgP (forgF L x0) x2))) : KObj)))) /\ (true = true /\ wk (.tuple #[.slice (some ⟨5, 0, some 1⟩) (List.length (fgP (forgF L x0) x2)) (List.length (fgP (forgF L x0) x2)), .int .i64 0] : Value) (rn (sg 2 [(2, 5)]) 3 (.tuple #[.slice (some ⟨2, 0, some 1⟩) (List.length (fgL L)) (List.length (fgL L)), .int .i64 0] : Value)) /\ ((some (.cells true 2 (List.flatMap nmC (srtN (fgP (forgF L x0) x2))) : KObj) = some (.cells true 2 (List.flatMap nmC (fgL L)) : KObj) /\ belowO 2 (.cells true 2 (List.flatMap nmC (fgL L)) : KObj) = true) /\ True)))))))))
theorem Eforged (L : List Msg) : vF prog msk (dm 0) 100000 true 40 true 35 [.pointer (some ⟨0, 0, none⟩)] (readsK [.cells true 0 [.map (some 1)], .map (heldE L)]) (some [])
 (.go 26 (.inv 3 (List Nat) (([] : List Nat)) [] [2, 3] (fun x0 => [(2, .map none), (3, .map (some 2)), (12, .pointer (some ⟨3, 0, none⟩))]) (fun x0 => [(2, true, .map (nmE (forgF L x0))), (3, true, .iter 1 (List.length (heldE L)) x0)]) (fun x0 => []) (fun x0 => []) (fun x0 => (SeenI L x0)) (fun x0 => (List.length L - List.length x0)) (fun x0 => .nxt (fun x1 => .go 1 (.val (.tuple #[.agg #[.int .i64 (List.getD L x1 zeroM).au, .int .i64 (List.getD L x1 zeroM).nu, .int .i64 (List.getD L x1 zeroM).at_, .int .i64 (List.getD L x1 zeroM).ki, .int .i64 (List.getD L x1 zeroM).sh, .int .i64 (List.getD L x1 zeroM).ce, .int .i64 (List.getD L x1 zeroM).va], .bool true]) (.go 13 (.val (.tuple #[.bool (getA ((List.getD L x1 zeroM).au, (List.getD L x1 zeroM).nu) false (forgF L x0)), .bool (hasA ((List.getD L x1 zeroM).au, (List.getD L x1 zeroM).nu) (forgF L x0))]) (.go 16 (.mset (nmE (putA ((List.getD L x1 zeroM).au, (List.getD L x1 zeroM).nu) (hasA ((List.getD L x1 zeroM).au, (List.getD L x1 zeroM).nu) (forgF L x0)) (forgF L x0))) (.again []))))))) (.go 4 (.inv 3 (List Nat) (([] : List Nat)) [] [4] (fun x2 => [(4, .slice (some ⟨5, 0, some 1⟩) (List.length (fgP (forgF L x0) x2)) (List.length (fgP (forgF L x0) x2))), (2, .slice none 0 0), (3, .int .i64 0), (11, .pointer (some ⟨4, 0, none⟩))]) (fun x2 => [(4, true, .iter 2 (List.length (nmE (forgF L x0))) x2)]) (fun x2 => [(true, .cells true 2 (List.flatMap nmC (fgP (forgF L x0) x2)))]) (fun x2 => []) (fun x2 => (SeenN (forgF L x0) x2)) (fun x2 => (List.length (forgF L x0) - List.length x2)) (fun x2 => .nxt (fun x3 => .go 1 (.val (.tuple #[.agg #[.int .i64 (List.getD (forgF L x0) x3 zeroN).1.1, .int .i64 (List.getD (forgF L x0) x3 zeroN).1.2], .bool (List.getD (forgF L x0) x3 zeroN).2]) (.go 5 (.fork (.go 2 (.need (.go 0 (.again [(5, 8)])))) (.again [(5, 5)]))))) (.go 2 (.answ [(5, .cells true 2 (List.flatMap nmC (fgP (forgF L x0) x2)))] (.tuple #[]) [(5, .cells true 2 (List.flatMap nmC (srtN (fgP (forgF L x0) x2))))] [] (.go 2 (.again [(2, 5)]))))))))))
 (newK ((readsK [.cells true 0 [.map (some 1)], .map (heldE L)]) : HT).n 3 (.tuple #[.slice (some ⟨2, 0, some 1⟩) (List.length (fgL L)) (List.length (fgL L)), .int .i64 0]) [(true, .cells true 2 (List.flatMap nmC (fgL L)))]) = Rforged L := by kernel_rfl
end
end Go.Proofs.YtbgfjemppjhmjaaGreat
/- What is to be shown of functions. Printed by a program. No condition. -/
namespace Go.Proofs.YtbgfjemppjhmjaaGreat
set_option linter.unusedSimpArgs false
open Go Go.K
set_option maxRecDepth 100000
set_option maxHeartbeats 4000000
set_option linter.unusedVariables false
noncomputable section
def RcmpN (sp : Value) (a b : Int × Int) : Prop :=
 ((.int .i64 (IntKind.wrap .i64 (a.1 - b.1)) : Value) = .int .i64 (a.1 - b.1) /\ ((.int .i64 (IntKind.wrap .i64 (a.2 - b.2)) : Value) = .int .i64 (a.2 - b.2) /\ (((((a.1 - b.1) : Int) != 0) = true -> (.int .i64 (a.1 - b.1) : Value) = sp) /\ ((((a.1 - b.1) : Int) != 0) = false -> (((((a.2 - b.2) : Int) != 0) = true -> (.int .i64 (a.2 - b.2) : Value) = sp) /\ ((((a.2 - b.2) : Int) != 0) = false -> (.int .i64 0 : Value) = sp))))))
theorem EcmpN (sp : Value) (a b : Int × Int) : vF prog msk (dm 0) 100000 true 40 true 101 [.agg #[.int .i64 a.1, .int .i64 a.2], .agg #[.int .i64 b.1, .int .i64 b.2]] ⟨0, .leaf⟩ (some [])
 (.go 7 (.slot 9 (.int .i64 (a.1 - b.1)) (.go 4 (.slot 14 (.int .i64 (a.2 - b.2)) (.go 14 (.fork (.auto) (.go 9 (.fork (.auto) (.auto)))))))))
 (fun v _ _ => v = sp) = RcmpN sp a b := by kernel_rfl
def Rsort0N (sp : Value)  : Prop :=
 (.tuple #[] : Value) = sp
theorem Esort0N (sp : Value)  : vF prog msk (dm 0) 100000 true 40 true 100 [.slice (some ⟨0, 0, some 1⟩) 0 0, .func (.func 101) #[] #[]] ⟨0, .leaf⟩ (some [])
  (.auto)
  (fun v _ _ => v = sp) = Rsort0N sp  := by kernel_rfl
end
end Go.Proofs.YtbgfjemppjhmjaaGreat
/- Radio: forged names. No condition. -/
namespace Go.Proofs.YtbgfjemppjhmjaaGreat
open Go Go.K Go.Sort
set_option maxRecDepth 100000
set_option linter.unusedVariables false
set_option linter.unusedSimpArgs false
noncomputable section
attribute [local irreducible] vF
abbrev nmA (n : Int × Int) : Value := .agg ⟨nmC n⟩
def ordN (a b : Int × Int) : Int := orI (a.1 - b.1) (a.2 - b.2)
def okN2 (n : Int × Int) : Prop := (1 <= n.1 /\ n.1 <= 4) /\ 1 <= n.2 /\ n.2 <= 200
theorem ordN_lt {a b : Int × Int} (ha : okN2 a) (hb : okN2 b) : ordN a b < 0 ↔ a.1 * 256 + a.2 < b.1 * 256 + b.2 := by
 unfold okN2 at ha hb
 unfold ordN orI
 split <;> omega
theorem kCmpN {a b : Int × Int} (ha : okN2 a) (hb : okN2 b) (H : Heap) : KCall prog 101 [nmA a, nmA b] H [] (Is (.int .i64 (ordN a b)) H) := by
 refine valB (v := .int .i64 (ordN a b)) (css := []) (ids := []) (Eq.mpr (EcmpN _ a b) ?_) (hv := rfl) (hi := trivial) (ha := rfl)
 unfold okN2 at ha hb
 unfold RcmpN ordN
 refine ⟨vI64 (by omega), vI64 (by omega), fun h => by rw [orI_1 (neB h)], fun h => ?_⟩
 rw [orI_0 (eqB0 h)]
 exact ⟨fun h => rfl, fun h => by rw [eqB0 h]⟩
theorem entersSN : Enters prog 100 := entersF Tryz.func100 (by kernel_rfl) (by kernel_rfl)
theorem entersCN : Enters prog 101 := entersF Tryz.func101 (by kernel_rfl) (by kernel_rfl)
abbrev OkNm := {n : Int × Int // okN2 n}
theorem swoN : SWO (ltOf fun x y : OkNm => ordN x.1 y.1) := by
 have h : ∀ x y : OkNm, ltOf (fun x y : OkNm => ordN x.1 y.1) x y = decide (x.1.1 * 256 + x.1.2 < y.1.1 * 256 + y.1.2) := fun x y => decide_eq_decide.2 (ordN_lt x.2 y.2)
 refine ⟨fun x => ?_, fun x y z h1 h2 => ?_, fun x y z h1 h2 => ?_⟩
 ·rw [h]; exact decide_eq_false (by omega)
 ·rw [h] at h1 h2 ⊢; have := of_decide_eq_true h1; have := of_decide_eq_true h2; exact decide_eq_true (by omega)
 ·rw [h] at h1 h2 ⊢; have := of_decide_eq_false h1; have := of_decide_eq_false h2; exact decide_eq_false (by omega)
theorem okSubN : ∀ (L : List (Int × Int)), (∀ m ∈ L, okN2 m) -> ∃ L' : List OkNm, L'.map (·.1) = L
 | [], _ => ⟨[], rfl⟩
 | m :: L, h => by
  obtain ⟨L', e⟩ := okSubN L fun x hx => h x (List.mem_cons_of_mem _ hx)
  exact ⟨⟨m, h m (List.mem_cons_self ..)⟩ :: L', by rw [List.map_cons, e]⟩
theorem flatSubN : ∀ (L' : List OkNm), L'.flatMap (fun x => nmC x.1) = (L'.map (·.1)).flatMap nmC
 | [] => rfl
 | x :: L' => by rw [List.flatMap_cons, flatSubN L']; rfl
theorem kSortN {L0 : List (Int × Int)} (hk : ∀ m ∈ L0, okN2 m) (hl : L0.length < 4000000) {H : Heap} {id : Nat} (ho : H[id]? = some (.cells true 2 (L0.flatMap nmC))) :
  KCall prog 100 [.slice (some ⟨id, 0, some 1⟩) L0.length L0.length, .func (.func 101) #[] #[]] H [id] (Is (.tuple #[]) (H.set id (.cells true 2 ((srtN L0).flatMap nmC)))) := by
 rcases Nat.eq_zero_or_pos L0.length with h0 | h0
 ·have e : L0 = [] := List.length_eq_zero_iff.1 h0
  subst e
  have key : KCall prog 100 [.slice (some ⟨0, 0, some 1⟩) 0 0, .func (.func 101) #[] #[]] H [] (Is (.tuple #[]) H) :=
   valB (v := .tuple #[]) (css := []) (ids := []) (Eq.mpr (Esort0N _) rfl) (hv := rfl) (hi := trivial) (ha := rfl)
  have e2 : srtN [] = [] := List.length_eq_zero_iff.1 (by rw [(srtN_perm _).length_eq]; rfl)
  rw [e2, set_same ho]
  exact (KCall.wkA (args := [.slice (some ⟨id, 0, some 1⟩) 0 0, .func (.func 101) #[] #[]]) key (wks_cons (wk_Q0 _ _ _ _) (wks_cons (wk_refl _) wks_nil))).mono (fun _ h _ => by cases h) (fun _ _ h => h)
 ·obtain ⟨L', e⟩ := okSubN L0 hk
  have hl' : L'.length = L0.length := by rw [<- e, List.length_map]
  rw [<- e, <- flatSubN] at ho
  have key := kSortFuncN (P := prog) sortN 2 (by omega) Tryz.isAgg79 Tryz.sizeOf79 (fun x : OkNm => nmC x.1) (fun x => rfl) (fun x y => ordN x.1 y.1) swoN 101
   (fun ρ x v v' hv hr => by
    simp only [List.mem_cons, List.not_mem_nil, or_false] at hv
    rcases hv with rfl | rfl <;> cases hr <;> rfl)
   entersCN entersSN (fun x y n => kCmpN x.2 y.2 _) (.inr rfl) (L0 := L') (by omega) (by omega) ho (Q := Is (.tuple #[]) (H.set id (.cells true 2 ((srtN L0).flatMap nmC))))
   (fun L1 hp hs => ⟨rfl, by
    have e1 : L1.map (·.1) = srtN L0 := by
     have hp2 : (L1.map (·.1)).Perm L0 := by rw [<- e]; exact hp.map _
     refine sortedN_one (hp2.trans (srtN_perm L0).symm) (fun m hm => (hk m (hp2.mem_iff.1 hm)).2) ?_ (srtN_sorted L0)
     rw [List.pairwise_map]
     refine hs.imp fun {x y} h => ?_
     have := (ordN_lt y.2 x.2)
     have h2 : ¬ ordN y.1 x.1 < 0 := of_decide_eq_false h
     omega
    rw [flatSubN, e1]⟩)
  rw [hl'] at key
  exact key
theorem entN (F : List ((Int × Int) × Bool)) {i : Nat} (hi : i < F.length) (s : List Nat) : entryE (nmE F) (s ++ [i]) = some (.tuple #[nmV (F.getD i zeroN).1, .bool (F.getD i zeroN).2]) := by
 unfold nmE
 rw [entry_A zeroN hi]
theorem nmE_len (F : List ((Int × Int) × Bool)) : (nmE F).length = F.length := encA_len ..
theorem seenN_0 (F : List ((Int × Int) × Bool)) : SeenN F [] := ⟨List.nodup_nil, fun i h => by cases h⟩
theorem seenN_snoc {F : List ((Int × Int) × Bool)} {s : List Nat} {i : Nat} (h : SeenN F s) (hi : i < F.length) (hn : i ∉ s) : SeenN F (s ++ [i]) :=
 ⟨List.nodup_append.2 ⟨h.1, (by simp), fun a ha b hb e => hn (by rw [List.mem_singleton.1 hb] at e; exact e ▸ ha)⟩, fun j hj => by
  rcases List.mem_append.1 hj with h1 | h1
  ·exact h.2 j h1
  ·rw [List.mem_singleton.1 h1]; exact hi⟩
theorem seenN_len {F : List ((Int × Int) × Bool)} {s : List Nat} (h : SeenN F s) : s.length <= F.length := by
 have h2 := seen_len (L := List.replicate F.length zeroM) (s := s) ⟨h.1, fun i hi => by rw [List.length_replicate]; exact h.2 i hi⟩
 rwa [List.length_replicate] at h2
theorem seenN_more {F : List ((Int × Int) × Bool)} {s : List Nat} {i : Nat} (h : SeenN F s) (hi : i < F.length) (hn : i ∉ s) : F.length - (s ++ [i]).length < F.length - s.length := by
 have := seenN_len (seenN_snoc h hi hn)
 rw [List.length_append] at this ⊢
 simp only [List.length_cons, List.length_nil] at this ⊢
 omega
theorem fgP_snoc (F : List ((Int × Int) × Bool)) (s : List Nat) (i : Nat) : fgP F (s ++ [i]) = if (F.getD i zeroN).2 = true then fgP F s ++ [(F.getD i zeroN).1] else fgP F s := by
 unfold fgP
 rw [List.map_append, List.filter_append, List.map_append, List.map_cons, List.map_nil, List.filter_cons]
 split
 ·rfl
 ·rw [List.filter_nil, List.map_nil, List.append_nil]
theorem fgP_len (F : List ((Int × Int) × Bool)) (s : List Nat) : (fgP F s).length <= s.length := by
 unfold fgP
 rw [List.length_map]
 exact Nat.le_trans (List.length_filter_le ..) (by rw [List.length_map]; exact Nat.le_refl _)
theorem forgF_len (L : List Msg) : ∀ s, (forgF L s).length <= s.length := by
 refine snoc_ind (Nat.le_refl _) fun s i h => ?_
 rw [forgF_snoc, List.length_append]
 have : ∀ (k : Int × Int) (v : Bool) (F : List ((Int × Int) × Bool)), (putA k v F).length <= F.length + 1 := by
  intro k v F
  cases hk : hasA k F with
  | true =>
   have := congrArg List.length (put_keys k v F hk)
   rw [List.length_map, List.length_map] at this; omega
  | false => rw [putA_no k v F hk, List.length_append]; simp
 have := this ((L.getD i zeroM).au, (L.getD i zeroM).nu) (hasA ((L.getD i zeroM).au, (L.getD i zeroM).nu) (forgF L s)) (forgF L s)
 simp only [List.length_cons, List.length_nil]; omega
theorem nmC_len (n : Int × Int) : (nmC n).length = 2 := rfl
theorem plainNL (n : Nat) (l : List (Int × Int)) : (l.flatMap nmC).all (belowC n) = true := plain_flat (fun _ => rfl) l
theorem hv15 {L : List Msg} (hk : ∀ m ∈ L, okM m = true) (hl : L.length <= 2000) : Rforged L := by
 unfold Rforged
 refine ⟨rfl, seen_0 L, ?_, fun _ => rfl, fun s hs => ⟨rfl, fun i hi hn => ⟨rfl, entM L (by rwa [held_len] at hi) s, lookN _ _ _ true, setN _ _ _ _, ?_⟩, fun hall => ?_⟩⟩
 ·repeat' first | exact nm_below _ _ | exact trivial | exact rfl | exact wk_refl _ | refine wkO_cells ?_ | refine wks_cons ?_ ?_ | exact wks_nil | exact wk_nil _ _ _ (.inl rfl) | (exact wk_Q (by omega)) | refine wk_tupL ?_ | refine wk_aggL ?_ | refine joinMax ?_ ?_ ?_ | refine joinMin ?_ ?_ ?_ | refine toMax ?_ | refine toMin ?_ | refine ⟨rfl, ?_⟩ | refine ⟨trivial, ?_⟩ | (refine forkD (fun h => ?_) (fun h => ?_)) | (refine forkNe (fun h => ?_) (fun h => ?_)) | (refine forkEq (fun h => ?_) (fun h => ?_)) | refine forkNot ?_ | (refine ⟨vI64 (by omega), ?_⟩) | (refine And.intro (by omega) ?_) | apply And.intro | (exact iEq (by omega)) | (exact vI64 (by omega))
 ·have hi' : i < L.length := by rwa [held_len] at hi
  refine ⟨s ++ [i], seen_snoc hs hi' hn, seen_more hs hi' hn, ?_⟩
  rw [forgF_snoc]
  repeat' first | exact nm_below _ _ | exact trivial | exact rfl | exact wk_refl _ | refine wkO_cells ?_ | refine wks_cons ?_ ?_ | exact wks_nil | exact wk_nil _ _ _ (.inl rfl) | (exact wk_Q (by omega)) | refine wk_tupL ?_ | refine wk_aggL ?_ | refine joinMax ?_ ?_ ?_ | refine joinMin ?_ ?_ ?_ | refine toMax ?_ | refine toMin ?_ | refine ⟨rfl, ?_⟩ | refine ⟨trivial, ?_⟩ | (refine forkD (fun h => ?_) (fun h => ?_)) | (refine forkNe (fun h => ?_) (fun h => ?_)) | (refine forkEq (fun h => ?_) (fun h => ?_)) | refine forkNot ?_ | (refine ⟨vI64 (by omega), ?_⟩) | (refine And.intro (by omega) ?_) | apply And.intro | (exact iEq (by omega)) | (exact vI64 (by omega))
 ·have hall1 : s.Perm (List.range L.length) := seen_all hs fun i hi => hall i (by rwa [held_len])
  have hfl := forgF_len L s
  have hsl := seen_len hs
  have hbl : ∀ x, belowO 5 (.iter 2 (nmE (forgF L s)).length x) = true := fun x => rfl
  refine ⟨rfl, seenN_0 _, ?_, fun _ => rfl, fun t ht => ⟨rfl, fun i hi hn => ⟨rfl, entN _ (by rwa [nmE_len] at hi) t, fun b => ?_, fun b => ?_⟩, fun hall => ?_⟩⟩
  ·repeat' first | exact wk_nil _ _ _ (.inl rfl) | exact trivial | exact rfl | exact wk_refl _ | refine wkO_cells ?_ | refine wks_cons ?_ ?_ | exact wks_nil | exact wk_nil _ _ _ (.inl rfl) | (exact wk_Q (by omega)) | refine wk_tupL ?_ | refine wk_aggL ?_ | refine joinMax ?_ ?_ ?_ | refine joinMin ?_ ?_ ?_ | refine toMax ?_ | refine toMin ?_ | refine ⟨rfl, ?_⟩ | refine ⟨trivial, ?_⟩ | (refine forkD (fun h => ?_) (fun h => ?_)) | (refine forkNe (fun h => ?_) (fun h => ?_)) | (refine forkEq (fun h => ?_) (fun h => ?_)) | refine forkNot ?_ | (refine ⟨vI64 (by omega), ?_⟩) | (refine And.intro (by omega) ?_) | apply And.intro | (exact iEq (by omega)) | (exact vI64 (by omega))
  ·have hi' : i < (forgF L s).length := by rwa [nmE_len] at hi
   have h1 := fgP_len (forgF L s) t
   have h2 := seenN_len ht
   have e : fgP (forgF L s) (t ++ [i]) = fgP (forgF L s) t ++ [((forgF L s).getD i zeroN).1] := by rw [fgP_snoc, if_pos b]
   refine ⟨?_, rfl, t ++ [i], seenN_snoc ht hi' hn, seenN_more ht hi' hn, ?_⟩
   ·repeat' first | exact flat_le nmC_len _ | exact Nat.le_refl 2 | exact trivial | exact rfl | exact wk_refl _ | refine wkO_cells ?_ | refine wks_cons ?_ ?_ | exact wks_nil | exact wk_nil _ _ _ (.inl rfl) | (exact wk_Q (by omega)) | refine wk_tupL ?_ | refine wk_aggL ?_ | refine joinMax ?_ ?_ ?_ | refine joinMin ?_ ?_ ?_ | refine toMax ?_ | refine toMin ?_ | refine ⟨rfl, ?_⟩ | refine ⟨trivial, ?_⟩ | (refine forkD (fun h => ?_) (fun h => ?_)) | (refine forkNe (fun h => ?_) (fun h => ?_)) | (refine forkEq (fun h => ?_) (fun h => ?_)) | refine forkNot ?_ | (refine ⟨vI64 (by omega), ?_⟩) | (refine And.intro (by omega) ?_) | apply And.intro | (exact iEq (by omega)) | (exact vI64 (by omega))
   ·repeat' first | exact wk_snoc e | exact ob_snoc nmC_len e rfl | exact plainNL _ _ | exact trivial | exact rfl | exact wk_refl _ | refine wkO_cells ?_ | refine wks_cons ?_ ?_ | exact wks_nil | exact wk_nil _ _ _ (.inl rfl) | (exact wk_Q (by omega)) | refine wk_tupL ?_ | refine wk_aggL ?_ | refine joinMax ?_ ?_ ?_ | refine joinMin ?_ ?_ ?_ | refine toMax ?_ | refine toMin ?_ | refine ⟨rfl, ?_⟩ | refine ⟨trivial, ?_⟩ | (refine forkD (fun h => ?_) (fun h => ?_)) | (refine forkNe (fun h => ?_) (fun h => ?_)) | (refine forkEq (fun h => ?_) (fun h => ?_)) | refine forkNot ?_ | (refine ⟨vI64 (by omega), ?_⟩) | (refine And.intro (by omega) ?_) | apply And.intro | (exact iEq (by omega)) | (exact vI64 (by omega))
  ·have hi' : i < (forgF L s).length := by rwa [nmE_len] at hi
   have e : fgP (forgF L s) (t ++ [i]) = fgP (forgF L s) t := by rw [fgP_snoc, if_neg (by rw [b]; simp)]
   refine ⟨t ++ [i], seenN_snoc ht hi' hn, seenN_more ht hi' hn, ?_⟩
   rw [e]
   repeat' first | exact plainNL _ _ | exact trivial | exact rfl | exact wk_refl _ | refine wkO_cells ?_ | refine wks_cons ?_ ?_ | exact wks_nil | exact wk_nil _ _ _ (.inl rfl) | (exact wk_Q (by omega)) | refine wk_tupL ?_ | refine wk_aggL ?_ | refine joinMax ?_ ?_ ?_ | refine joinMin ?_ ?_ ?_ | refine toMax ?_ | refine toMin ?_ | refine ⟨rfl, ?_⟩ | refine ⟨trivial, ?_⟩ | (refine forkD (fun h => ?_) (fun h => ?_)) | (refine forkNe (fun h => ?_) (fun h => ?_)) | (refine forkEq (fun h => ?_) (fun h => ?_)) | refine forkNot ?_ | (refine ⟨vI64 (by omega), ?_⟩) | (refine And.intro (by omega) ?_) | apply And.intro | (exact iEq (by omega)) | (exact vI64 (by omega))
  ·have hall2 : t.Perm (List.range (forgF L s).length) := seen_perm ht.1 ht.2 fun i hi => hall i (by rwa [nmE_len])
   have h1 := fgP_len (forgF L s) t
   have h2 := seenN_len ht
   have hm : ∀ n ∈ fgP (forgF L s) t, okN2 n := fun n hn => forgB_ok hk ((fgP_forg hall1 hall2 n).1 hn)
   refine ⟨⟨rfl, trivial⟩, fun H' _ h => kSortN hm (by omega) h.1, ?_⟩
   have e := fg_any hk hall1 hall2 (srtN_perm _) (srtN_sorted _)
   have el : (fgP (forgF L s) t).length = (fgL L).length := by rw [<- e, (srtN_perm _).length_eq]
   rw [e, el]
   repeat' first | exact plainNL _ _ | exact trivial | exact rfl | exact wk_refl _ | refine wkO_cells ?_ | refine wks_cons ?_ ?_ | exact wks_nil | exact wk_nil _ _ _ (.inl rfl) | (exact wk_Q (by omega)) | refine wk_tupL ?_ | refine wk_aggL ?_ | refine joinMax ?_ ?_ ?_ | refine joinMin ?_ ?_ ?_ | refine toMax ?_ | refine toMin ?_ | refine ⟨rfl, ?_⟩ | refine ⟨trivial, ?_⟩ | (refine forkD (fun h => ?_) (fun h => ?_)) | (refine forkNe (fun h => ?_) (fun h => ?_)) | (refine forkEq (fun h => ?_) (fun h => ?_)) | refine forkNot ?_ | (refine ⟨vI64 (by omega), ?_⟩) | (refine And.intro (by omega) ?_) | apply And.intro | (exact iEq (by omega)) | (exact vI64 (by omega))
theorem kForged {L : List Msg} (hk : ∀ m ∈ L, okM m = true) (hl : L.length <= 2000) {H : Heap} {i q : Nat} (hne : i ≠ q) (hi : H[i]? = some (.cells true 0 [.map (some q)])) (hq : H[q]? = some (.map (heldE L))) :
  KCall prog 35 [.pointer (some ⟨i, 0, none⟩)] H [] (Is (.tuple #[.slice (some ⟨H.length, 0, some 1⟩) (fgL L).length (fgL L).length, .int .i64 0]) (H ++ [.cells true 2 ((fgL L).flatMap nmC)])) :=
 valKp (fun j => .tuple #[.slice (some ⟨j, 0, some 1⟩) (fgL L).length (fgL L).length, .int .i64 0]) (os := [.cells true 0 [.map (some 1)], .map (heldE L)]) (Eq.mpr (Eforged L) (hv15 hk hl)) (pic_ok L 1) rfl
  ⟨⟨_, _, rfl, plainNL _ _⟩, trivial⟩ (ids := [i, q]) (by simp [hne]) (pic_objs hi hq) (fun j => rfl) rfl
end
end Go.Proofs.YtbgfjemppjhmjaaGreat
/- Radio: pictures that tell one another: words. No condition. -/
namespace Go.Proofs.YtbgfjemppjhmjaaGreat
set_option linter.unusedSimpArgs false
open Go Go.K
set_option linter.unusedVariables false
def sd (A : List Int) (n : Int) : List Msg := (saidS A 0 (Int.toNat (n % 41))).1
def sdN (A : List Int) (n : Int) : Int := (saidS A 0 (Int.toNat (n % 41))).2
theorem sd_ok (A : List Int) (n : Int) : (sd A n).length <= 40 /\ (∀ m ∈ sd A n, okM m = true) /\ 0 <= sdN A n /\ sdN A n <= 1000 := by
 obtain ⟨h1, h2, h3, h4⟩ := saidS_ok A 0 (Int.toNat (n % 41))
 have := Int.emod_nonneg n (b := 41) (by omega)
 have := Int.emod_lt_of_pos n (b := 41) (by omega)
 unfold sd sdN
 exact ⟨by omega, h4, by omega, by omega⟩
end Go.Proofs.YtbgfjemppjhmjaaGreat
/- Radio: lists of numbers in laws' arguments. No condition. -/
namespace Go.Proofs.YtbgfjemppjhmjaaGreat
set_option linter.unusedSimpArgs false
set_option linter.unusedVariables false
open Go Go.K
noncomputable section
abbrev dI (L : List Int) : Value := .iface (L.length + 1) (.agg ⟨L.flatMap intC⟩)
theorem dI_b (L : List Int) : belowC 0 (dI L) = true := all_belowD 0 L
theorem args_rn {vs : List Value} (h : vs.all (belowC 0) = true) (σ : Nat -> Option Nat) : vs.map (rn σ 5) = vs := (rnCl (σ := σ) (d := 2) h).1
end
end Go.Proofs.YtbgfjemppjhmjaaGreat
/- Radio: pictures that tell one another: the law. No condition. -/
namespace Go.Proofs.YtbgfjemppjhmjaaGreat
open Go Go.K
set_option maxRecDepth 100000
set_option linter.unusedVariables false
set_option linter.unusedSimpArgs false
noncomputable section
attribute [local irreducible] vF
theorem kPick41 (x : Int) (H : Heap) : KCall prog 16 [.int .i64 x, .int .i64 41] H [] (Is (.int .i64 ((Int.toNat (x % 41) : Nat) : Int)) H) := by
 have h0 := Int.emod_nonneg x (b := 41) (by omega)
 have := kPick x 41 (by omega) (by omega) H
 rw [show ((Int.toNat (x % 41) : Nat) : Int) = x % 41 by omega]; exact this
theorem kSd (A : List Int) (n : Int) {H : Heap} {D : Nat} (hD : H[D]? = some (.cells true 0 (digC A 0))) :
  KCall prog 25 [.pointer (some ⟨D, 0, none⟩), .int .i64 ((Int.toNat (n % 41) : Nat) : Int)] H [D] (Is (.slice (some ⟨H.length, 0, some 1⟩) (sd A n).length (sd A n).length) (H.set D (.cells true 0 (digC A (sdN A n))) ++ [.cells true 7 ((sd A n).flatMap msgC)])) := by
 have h0 := Int.emod_nonneg n (b := 41) (by omega)
 have h1 := Int.emod_lt_of_pos n (b := 41) (by omega)
 exact kSaid A 0 (Int.toNat (n % 41)) (by omega) (by omega) hD
theorem msgAt {l : List Msg} {k off c : Nat} {v : Value} (h : k < l.length) (hc : c < 7) (ho : off = k * 7 + c) (hv : (msgC (l.getD k zeroM))[c]? = some v) : (l.flatMap msgC)[off]? = some v := cell_at (c := c) msgC_len h ho hv
end
end Go.Proofs.YtbgfjemppjhmjaaGreat
/- Radio: what is withdrawn: words of the law. No condition. -/
namespace Go.Proofs.YtbgfjemppjhmjaaGreat
set_option linter.unusedSimpArgs false
open Go Go.K
set_option linter.unusedVariables false
def wM (q : Int) : Msg := ⟨1 + q % 4, 200, 0, 3, 0, 0, 1 + (Int.tdiv q 4) % 12⟩
def allW (f : Bool) (A : List Int) (n q : Int) : List Msg := if f = true then wM q :: sd A n else sd A n ++ [wM q]
def goneS (L X : List Msg) (m : Msg) (x : Nat) : Bool := (decide (m.ki = 3) || forgB L m.au m.nu) || (X.take x).any fun w => decide (w.ki = 3) && decide (w.au = m.au) && decide (w.va = m.nu) && !forgB L w.au w.nu
def thereS (V : List Msg) (m : Msg) (x : Nat) : Bool := (V.take x).any fun v => decide (v = m)
theorem wM_ok (q : Int) : okM (wM q) = true := by
 unfold wM
 have h1 := Int.emod_nonneg q (b := 4) (by omega)
 have h2 := Int.emod_lt_of_pos q (b := 4) (by omega)
 have h3 := Int.emod_nonneg (Int.tdiv q 4) (b := 12) (by omega)
 have h4 := Int.emod_lt_of_pos (Int.tdiv q 4) (b := 12) (by omega)
 generalize q % 4 = a at *
 generalize (Int.tdiv q 4) % 12 = b at *
 have e : okM ⟨1 + a, 200, 0, 3, 0, 0, 1 + b⟩ = ((decide (1 <= 1 + b) && decide (1 + b <= 200)) && (decide (1 <= 1 + a) && decide (1 + a <= 4))) := by
  simp [okM, kindB, k1B, k2B, k3B, inB]
 rw [e, decide_eq_true (by omega), decide_eq_true (by omega), decide_eq_true (by omega), decide_eq_true (by omega)]; rfl
theorem allW_mem (f : Bool) (A : List Int) (n q : Int) (m : Msg) : m ∈ allW f A n q ↔ m = wM q ∨ m ∈ sd A n := by
 unfold allW
 split
 ·rw [List.mem_cons]
 ·rw [List.mem_append, List.mem_singleton]; exact or_comm
theorem allW_len (f : Bool) (A : List Int) (n q : Int) : (allW f A n q).length = (sd A n).length + 1 := by
 unfold allW
 split
 ·rfl
 ·rw [List.length_append]; rfl
theorem allW_ok (f : Bool) (A : List Int) (n q : Int) : ∀ m ∈ allW f A n q, okM m = true := fun m h => ((allW_mem f A n q m).1 h).elim (fun e => by rw [e]; exact wM_ok q) ((sd_ok A n).2.1 m)
theorem goneS_succ {L X : List Msg} {m : Msg} {x : Nat} (hx : x < X.length) : goneS L X m (x + 1) = (goneS L X m x || (decide ((X.getD x zeroM).ki = 3) && decide ((X.getD x zeroM).au = m.au) && decide ((X.getD x zeroM).va = m.nu) && !forgB L (X.getD x zeroM).au (X.getD x zeroM).nu)) := by
 unfold goneS
 rw [take_getD hx, List.any_append, List.any_cons, List.any_nil, Bool.or_false]
 simp only [Bool.or_assoc]
theorem goneS_0 (L X : List Msg) (m : Msg) : goneS L X m 0 = (decide (m.ki = 3) || forgB L m.au m.nu) := by
 unfold goneS
 rw [List.take_zero, List.any_nil, Bool.or_false]
theorem goneS_end {L X : List Msg} (h : ∀ m, m ∈ L ↔ m ∈ X) (m : Msg) : goneS L X m X.length = goneB L m := by
 unfold goneS goneB wdB
 rw [List.take_length]
 congr 1
 rw [Bool.eq_iff_iff, List.any_eq_true, List.any_eq_true]
 constructor
 ·rintro ⟨w, h1, h2⟩
  refine ⟨w, (h w).2 h1, ?_⟩
  simp only [Bool.and_eq_true] at h2 ⊢
  exact ⟨⟨⟨h2.1.1.1, h2.2⟩, h2.1.1.2⟩, h2.1.2⟩
 ·rintro ⟨w, h1, h2⟩
  refine ⟨w, (h w).1 h1, ?_⟩
  simp only [Bool.and_eq_true] at h2 ⊢
  exact ⟨⟨⟨h2.1.1.1, h2.1.2⟩, h2.2⟩, h2.1.1.2⟩
theorem thereS_succ {V : List Msg} {m : Msg} {x : Nat} (hx : x < V.length) : thereS V m (x + 1) = (thereS V m x || decide (V.getD x zeroM = m)) := by
 unfold thereS
 rw [take_getD hx, List.any_append, List.any_cons, List.any_nil, Bool.or_false]
theorem thereS_end (V : List Msg) (m : Msg) : thereS V m V.length = decide (m ∈ V) := by
 unfold thereS
 rw [List.take_length, Bool.eq_iff_iff, List.any_eq_true, decide_eq_true_eq]
 constructor
 ·rintro ⟨v, h1, h2⟩; rw [<- of_decide_eq_true h2]; exact h1
 ·intro h; exact ⟨m, h, decide_eq_true rfl⟩
theorem there_gone {L X : List Msg} (h : ∀ m, m ∈ L ↔ m ∈ X) {m : Msg} (hm : m ∈ X) : thereS (liveL L) m (liveL L).length = !goneS L X m X.length := by
 rw [thereS_end, goneS_end h, Bool.eq_iff_iff, decide_eq_true_eq, live_mem]
 simp [(h m).2 hm]
theorem wd_gone {f : Bool} {A : List Int} {n q : Int} {L : List Msg} (h : ∀ m, m ∈ L ↔ m ∈ allW f A n q) (hL : L.Nodup) {m : Msg} (ha : m.au = (wM q).au) (hn : m.nu = (wM q).va) : goneB L m = true := by
 have hw : wM q ∈ L := (h _).2 ((allW_mem f A n q _).2 (.inl rfl))
 have hf : forgB L (wM q).au (wM q).nu = false := by
  unfold forgB
  refine decide_eq_false fun h2 => ?_
  have hone : ∀ x ∈ namedL L (wM q).au (wM q).nu, x = wM q := by
   intro x hx
   unfold namedL at hx
   rw [List.mem_filter, Bool.and_eq_true] at hx
   have hnu := of_decide_eq_true hx.2.2
   rcases (allW_mem f A n q x).1 ((h x).1 hx.1) with e | e
   ·exact e
   ·have : x.nu <= 12 := by
     have key : ∀ k, ∀ z ∈ (saidS A 0 k).1, z.nu <= 12 := by
      intro k
      induction k with
      | zero => intro z hz; cases hz
      | succ k ih =>
       intro z hz
       have b := dN_bd A ((saidS A 0 k).2 + 1) (m := 12) (by omega)
       simp only [saidS] at hz
       split at hz
       ·rcases List.mem_append.1 hz with e | e
        ·exact ih z e
        ·rw [List.mem_singleton.1 e]; dsimp only; omega
       ·split at hz
        ·rcases List.mem_append.1 hz with e | e
         ·exact ih z e
         ·rw [List.mem_singleton.1 e]; dsimp only; omega
        ·rcases List.mem_append.1 hz with e | e
         ·exact ih z e
         ·rw [List.mem_singleton.1 e]; dsimp only; omega
     exact key _ x e
    rw [show (wM q).nu = 200 from rfl] at hnu
    omega
  have hnd : (namedL L (wM q).au (wM q).nu).Nodup := hL.filter _
  match hl : namedL L (wM q).au (wM q).nu, hone, hnd, h2 with
  | [], _, _, h2 => simp at h2
  | [a], _, _, h2 => simp at h2
  | a :: b :: t, hone, hnd, _ =>
   have e1 := hone a (by simp)
   have e2 := hone b (by simp)
   rw [List.nodup_cons] at hnd
   exact hnd.1 (by rw [e1, e2]; simp)
 unfold goneB
 have : wdB L m.au m.nu = true := by
  unfold wdB
  refine List.any_eq_true.2 ⟨wM q, hw, ?_⟩
  rw [hf, ha, hn]
  simp [wM]
 rw [this]; simp
end Go.Proofs.YtbgfjemppjhmjaaGreat
