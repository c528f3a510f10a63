/- What is to be shown of functions. Printed by a program. No condition. -/
import Derived.Test.YtbgfjemppjhmjaaGreatGO3gxW8
import Derived.Test.YtbgfjemppjhmjaaGreatGW9xP7
import Derived.Test.YtbgfjemppjhmjaaGreatGK27xW1
import Derived.Test.YtbgfjemppjhmjaaGreatGW2xP2
namespace Go.Proofs.YtbgfjemppjhmjaaGreat
set_option linter.unusedSimpArgs false
open Go Go.K
set_option maxRecDepth 100000
set_option maxHeartbeats 4000000
set_option linter.unusedVariables false
noncomputable section
def RSaid (L : List Int) (n : Int) (k : Nat) : Prop :=
 (true = true /\ (0 <= k) /\ (true = true /\ ((.int .i64 0 : Value) = .int .i64 ((0 : Nat) : Int) /\ wk (.slice none 0 0 : Value) (.slice (some ⟨0, 0, some 1⟩) (List.length (saidS L n 0).1) (List.length (saidS L n 0).1) : Value) /\ (.int .i64 ((k : Nat) : Int) : Value) = .int .i64 ((k : Nat) : Int) /\ (.pointer (some ⟨0, 0, none⟩) : Value) = .pointer (some ⟨0, 0, none⟩) /\ (.slice none 0 0 : Value) = .slice none 0 0 /\ True) /\ ((some (.cells true 0 [.iface ((List.length L) + 1) (.agg ⟨(List.flatMap intC L)⟩), .int .i64 n] : KObj) = some (.cells true 0 [.iface ((List.length L) + 1) (.agg ⟨(List.flatMap intC L)⟩), .int .i64 (saidS L n 0).2] : KObj) /\ belowO 1 (.cells true 0 [.iface ((List.length L) + 1) (.agg ⟨(List.flatMap intC L)⟩), .int .i64 (saidS L n 0).2] : KObj) = true) /\ True) /\ (True /\ True) /\ (True)) /\ (∀ x0 : Nat, true = true) /\ ∀ x0 : Nat, (x0 <= k) -> (((decide ((((x0 : Nat) : Int) : Int) < ((k : Nat) : Int))) = true -> (((some (.cells true 0 [.iface ((List.length L) + 1) (.agg ⟨(List.flatMap intC L)⟩), .int .i64 (saidS L n x0).2] : KObj) = some (.cells true 0 [.iface ((List.length L) + 1) (.agg ⟨(List.flatMap intC L)⟩), .int .i64 (saidS L n x0).2] : KObj)) /\ True) /\ (∀ H' : Heap, H'.length = 2 -> (H'[0]? = some (.cells true 0 [.iface ((List.length L) + 1) (.agg ⟨(List.flatMap intC L)⟩), .int .i64 (saidS L n x0).2] : KObj) /\ True) -> KCall prog 27 [.pointer (some ⟨0, 0, none⟩), .int .i64 4] H' [0] (Is (.int .i64 (dN L (saidS L n x0).2 4)) (List.set H' 0 (.cells true 0 [.iface ((List.length L) + 1) (.agg ⟨(List.flatMap intC L)⟩), .int .i64 ((saidS L n x0).2 + 1)] : KObj)))) /\ ((.int .i64 (IntKind.wrap .i64 (1 + (dN L (saidS L n x0).2 4))) : Value) = .int .i64 (1 + (dN L (saidS L n x0).2 4)) /\ (((some (.cells true 0 [.iface ((List.length L) + 1) (.agg ⟨(List.flatMap intC L)⟩), .int .i64 ((saidS L n x0).2 + 1)] : KObj) = some (.cells true 0 [.iface ((List.length L) + 1) (.agg ⟨(List.flatMap intC L)⟩), .int .i64 ((saidS L n x0).2 + 1)] : KObj)) /\ True) /\ (∀ H' : Heap, H'.length = 2 -> (H'[0]? = some (.cells true 0 [.iface ((List.length L) + 1) (.agg ⟨(List.flatMap intC L)⟩), .int .i64 ((saidS L n x0).2 + 1)] : KObj) /\ True) -> KCall prog 27 [.pointer (some ⟨0, 0, none⟩), .int .i64 12] H' [0] (Is (.int .i64 (dN L ((saidS L n x0).2 + 1) 12)) (List.set H' 0 (.cells true 0 [.iface ((List.length L) + 1) (.agg ⟨(List.flatMap intC L)⟩), .int .i64 (((saidS L n x0).2 + 1) + 1)] : KObj)))) /\ ((.int .i64 (IntKind.wrap .i64 (1 + (dN L ((saidS L n x0).2 + 1) 12))) : Value) = .int .i64 (1 + (dN L ((saidS L n x0).2 + 1) 12)) /\ (((some (.cells true 0 [.iface ((List.length L) + 1) (.agg ⟨(List.flatMap intC L)⟩), .int .i64 (((saidS L n x0).2 + 1) + 1)] : KObj) = some (.cells true 0 [.iface ((List.length L) + 1) (.agg ⟨(List.flatMap intC L)⟩), .int .i64 (((saidS L n x0).2 + 1) + 1)] : KObj)) /\ True) /\ (∀ H' : Heap, H'.length = 2 -> (H'[0]? = some (.cells true 0 [.iface ((List.length L) + 1) (.agg ⟨(List.flatMap intC L)⟩), .int .i64 (((saidS L n x0).2 + 1) + 1)] : KObj) /\ True) -> KCall prog 27 [.pointer (some ⟨0, 0, none⟩), .int .i64 50] H' [0] (Is (.int .i64 (dN L (((saidS L n x0).2 + 1) + 1) 50)) (List.set H' 0 (.cells true 0 [.iface ((List.length L) + 1) (.agg ⟨(List.flatMap intC L)⟩), .int .i64 ((((saidS L n x0).2 + 1) + 1) + 1)] : KObj)))) /\ (((some (.cells true 0 [.iface ((List.length L) + 1) (.agg ⟨(List.flatMap intC L)⟩), .int .i64 ((((saidS L n x0).2 + 1) + 1) + 1)] : KObj) = some (.cells true 0 [.iface ((List.length L) + 1) (.agg ⟨(List.flatMap intC L)⟩), .int .i64 ((((saidS L n x0).2 + 1) + 1) + 1)] : KObj)) /\ True) /\ (∀ H' : Heap, H'.length = 2 -> (H'[0]? = some (.cells true 0 [.iface ((List.length L) + 1) (.agg ⟨(List.flatMap intC L)⟩), .int .i64 ((((saidS L n x0).2 + 1) + 1) + 1)] : KObj) /\ True) -> KCall prog 27 [.pointer (some ⟨0, 0, none⟩), .int .i64 3] H' [0] (Is (.int .i64 (dN L ((((saidS L n x0).2 + 1) + 1) + 1) 3)) (List.set H' 0 (.cells true 0 [.iface ((List.length L) + 1) (.agg ⟨(List.flatMap intC L)⟩), .int .i64 (((((saidS L n x0).2 + 1) + 1) + 1) + 1)] : KObj)))) /\ ((.int .i64 (IntKind.wrap .i64 (1 + (dN L ((((saidS L n x0).2 + 1) + 1) + 1) 3))) : Value) = .int .i64 (1 + (dN L ((((saidS L n x0).2 + 1) + 1) + 1) 3)) /\ (((((1 + (dN L ((((saidS L n x0).2 + 1) + 1) + 1) 3)) : Int) == 1) = true -> (((some (.cells true 0 [.iface ((List.length L) + 1) (.agg ⟨(List.flatMap intC L)⟩), .int .i64 (((((saidS L n x0).2 + 1) + 1) + 1) + 1)] : KObj) = some (.cells true 0 [.iface ((List.length L) + 1) (.agg ⟨(List.flatMap intC L)⟩), .int .i64 (((((saidS L n x0).2 + 1) + 1) + 1) + 1)] : KObj)) /\ True) /\ (∀ H' : Heap, H'.length = 3 -> (H'[0]? = some (.cells true 0 [.iface ((List.length L) + 1) (.agg ⟨(List.flatMap intC L)⟩), .int .i64 (((((saidS L n x0).2 + 1) + 1) + 1) + 1)] : KObj) /\ True) -> KCall prog 27 [.pointer (some ⟨0, 0, none⟩), .int .i64 3] H' [0] (Is (.int .i64 (dN L (((((saidS L n x0).2 + 1) + 1) + 1) + 1) 3)) (List.set H' 0 (.cells true 0 [.iface ((List.length L) + 1) (.agg ⟨(List.flatMap intC L)⟩), .int .i64 ((((((saidS L n x0).2 + 1) + 1) + 1) + 1) + 1)] : KObj)))) /\ ((.int .i64 (IntKind.wrap .i64 (1 + (dN L (((((saidS L n x0).2 + 1) + 1) + 1) + 1) 3))) : Value) = .int .i64 (1 + (dN L (((((saidS L n x0).2 + 1) + 1) + 1) + 1) 3)) /\ (((some (.cells true 0 [.iface ((List.length L) + 1) (.agg ⟨(List.flatMap intC L)⟩), .int .i64 ((((((saidS L n x0).2 + 1) + 1) + 1) + 1) + 1)] : KObj) = some (.cells true 0 [.iface ((List.length L) + 1) (.agg ⟨(List.flatMap intC L)⟩), .int .i64 ((((((saidS L n x0).2 + 1) + 1) + 1) + 1) + 1)] : KObj)) /\ True) /\ (∀ H' : Heap, H'.length = 3 -> (H'[0]? = some (.cells true 0 [.iface ((List.length L) + 1) (.agg ⟨(List.flatMap intC L)⟩), .int .i64 ((((((saidS L n x0).2 + 1) + 1) + 1) + 1) + 1)] : KObj) /\ True) -> KCall prog 27 [.pointer (some ⟨0, 0, none⟩), .int .i64 9] H' [0] (Is (.int .i64 (dN L ((((((saidS L n x0).2 + 1) + 1) + 1) + 1) + 1) 9)) (List.set H' 0 (.cells true 0 [.iface ((List.length L) + 1) (.agg ⟨(List.flatMap intC L)⟩), .int .i64 (((((((saidS L n x0).2 + 1) + 1) + 1) + 1) + 1) + 1)] : KObj)))) /\ ((((List.length (saidS L n x0).1) + 1) * 56 <= 2 ^ 44 /\ 1 ≠ 0 /\ ((List.length (saidS L n x0).1) <= (List.length (saidS L n x0).1) /\ 0 + (List.length (saidS L n x0).1) * 7 <= List.length (List.flatMap msgC (saidS L n x0).1)) /\ (1 <= 1 /\ 0 + 1 * 7 <= List.length ([.int .i64 (1 + (dN L (saidS L n x0).2 4)), .int .i64 (1 + (dN L ((saidS L n x0).2 + 1) 12)), .int .i64 (dN L (((saidS L n x0).2 + 1) + 1) 50), .int .i64 (1 + (dN L ((((saidS L n x0).2 + 1) + 1) + 1) 3)), .int .i64 (1 + (dN L (((((saidS L n x0).2 + 1) + 1) + 1) + 1) 3)), .int .i64 (dN L ((((((saidS L n x0).2 + 1) + 1) + 1) + 1) + 1) 9), .int .i64 0] : List Value)) /\ ((List.take (1 * 7) (List.drop 0 ([.int .i64 (1 + (dN L (saidS L n x0).2 4)), .int .i64 (1 + (dN L ((saidS L n x0).2 + 1) 12)), .int .i64 (dN L (((saidS L n x0).2 + 1) + 1) 50), .int .i64 (1 + (dN L ((((saidS L n x0).2 + 1) + 1) + 1) 3)), .int .i64 (1 + (dN L (((((saidS L n x0).2 + 1) + 1) + 1) + 1) 3)), .int .i64 (dN L ((((((saidS L n x0).2 + 1) + 1) + 1) + 1) + 1) 9), .int .i64 0] : List Value))) : List Value).all (fun v => one1 v) = true) /\ true = true /\ ((.int .i64 (IntKind.wrap .i64 (((x0 : Nat) : Int) + 1)) : Value) = .int .i64 (((x0 : Nat) : Int) + 1) /\ (∃ x0' : Nat, (x0' <= k) /\ (k - x0') < (k - x0) /\ true = true /\ ((.int .i64 (((x0 : Nat) : Int) + 1) : Value) = .int .i64 ((x0' : Nat) : Int) /\ wk (.slice (some ⟨4, 0, none⟩) ((List.length (saidS L n x0).1) + 1) ((List.length (saidS L n x0).1) + 1) : Value) (.slice (some ⟨4, 0, some 1⟩) (List.length (saidS L n x0').1) (List.length (saidS L n x0').1) : Value) /\ (.int .i64 ((k : Nat) : Int) : Value) = .int .i64 ((k : Nat) : Int) /\ (.pointer (some ⟨0, 0, none⟩) : Value) = .pointer (some ⟨0, 0, none⟩) /\ (.slice none 0 0 : Value) = .slice none 0 0 /\ True) /\ ((some (.cells true 0 [.iface ((List.length L) + 1) (.agg ⟨(List.flatMap intC L)⟩), .int .i64 (((((((saidS L n x0).2 + 1) + 1) + 1) + 1) + 1) + 1)] : KObj) = some (.cells true 0 [.iface ((List.length L) + 1) (.agg ⟨(List.flatMap intC L)⟩), .int .i64 (saidS L n x0').2] : KObj) /\ belowO 1 (.cells true 0 [.iface ((List.length L) + 1) (.agg ⟨(List.flatMap intC L)⟩), .int .i64 (saidS L n x0').2] : KObj) = true) /\ True) /\ ((some (.cells true 7 ((List.take ((List.length (saidS L n x0).1) * 7) (List.drop 0 (List.flatMap msgC (saidS L n x0).1))) ++ (List.take (1 * 7) (List.drop 0 ([.int .i64 (1 + (dN L (saidS L n x0).2 4)), .int .i64 (1 + (dN L ((saidS L n x0).2 + 1) 12)), .int .i64 (dN L (((saidS L n x0).2 + 1) + 1) 50), .int .i64 (1 + (dN L ((((saidS L n x0).2 + 1) + 1) + 1) 3)), .int .i64 (1 + (dN L (((((saidS L n x0).2 + 1) + 1) + 1) + 1) 3)), .int .i64 (dN L ((((((saidS L n x0).2 + 1) + 1) + 1) + 1) + 1) 9), .int .i64 0] : List Value)))) : KObj) = some (.cells true 7 (List.flatMap msgC (saidS L n x0').1) : KObj) /\ belowO 1 (.cells true 7 (List.flatMap msgC (saidS L n x0').1) : KObj) = true) /\ True) /\ (True)))))))) /\ ((((1 + (dN L ((((saidS L n x0).2 + 1) + 1) + 1) 3)) : Int) == 1) = false -> (((((1 + (dN L ((((saidS L n x0).2 + 1) + 1) + 1) 3)) : Int) == 2) = true -> (((some (.cells true 0 [.iface ((List.length L) + 1) (.agg ⟨(List.flatMap intC L)⟩), .int .i64 (((((saidS L n x0).2 + 1) + 1) + 1) + 1)] : KObj) = some (.cells true 0 [.iface ((List.length L) + 1) (.agg ⟨(List.flatMap intC L)⟩), .int .i64 (((((saidS L n x0).2 + 1) + 1) + 1) + 1)] : KObj)) /\ True) /\ (∀ H' : Heap, H'.length = 3 -> (H'[0]? = some (.cells true 0 [.iface ((List.length L) + 1) (.agg ⟨(List.flatMap intC L)⟩), .int .i64 (((((saidS L n x0).2 + 1) + 1) + 1) + 1)] : KObj) /\ True) -> KCall prog 27 [.pointer (some ⟨0, 0, none⟩), .int .i64 4] H' [0] (Is (.int .i64 (dN L (((((saidS L n x0).2 + 1) + 1) + 1) + 1) 4)) (List.set H' 0 (.cells true 0 [.iface ((List.length L) + 1) (.agg ⟨(List.flatMap intC L)⟩), .int .i64 ((((((saidS L n x0).2 + 1) + 1) + 1) + 1) + 1)] : KObj)))) /\ (((some (.cells true 0 [.iface ((List.length L) + 1) (.agg ⟨(List.flatMap intC L)⟩), .int .i64 ((((((saidS L n x0).2 + 1) + 1) + 1) + 1) + 1)] : KObj) = some (.cells true 0 [.iface ((List.length L) + 1) (.agg ⟨(List.flatMap intC L)⟩), .int .i64 ((((((saidS L n x0).2 + 1) + 1) + 1) + 1) + 1)] : KObj)) /\ True) /\ (∀ H' : Heap, H'.length = 3 -> (H'[0]? = some (.cells true 0 [.iface ((List.length L) + 1) (.agg ⟨(List.flatMap intC L)⟩), .int .i64 ((((((saidS L n x0).2 + 1) + 1) + 1) + 1) + 1)] : KObj) /\ True) -> KCall prog 27 [.pointer (some ⟨0, 0, none⟩), .int .i64 5] H' [0] (Is (.int .i64 (dN L ((((((saidS L n x0).2 + 1) + 1) + 1) + 1) + 1) 5)) (List.set H' 0 (.cells true 0 [.iface ((List.length L) + 1) (.agg ⟨(List.flatMap intC L)⟩), .int .i64 (((((((saidS L n x0).2 + 1) + 1) + 1) + 1) + 1) + 1)] : KObj)))) /\ ((((List.length (saidS L n x0).1) + 1) * 56 <= 2 ^ 44 /\ 1 ≠ 0 /\ ((List.length (saidS L n x0).1) <= (List.length (saidS L n x0).1) /\ 0 + (List.length (saidS L n x0).1) * 7 <= List.length (List.flatMap msgC (saidS L n x0).1)) /\ (1 <= 1 /\ 0 + 1 * 7 <= List.length ([.int .i64 (1 + (dN L (saidS L n x0).2 4)), .int .i64 (1 + (dN L ((saidS L n x0).2 + 1) 12)), .int .i64 (dN L (((saidS L n x0).2 + 1) + 1) 50), .int .i64 (1 + (dN L ((((saidS L n x0).2 + 1) + 1) + 1) 3)), .int .i64 0, .int .i64 (dN L (((((saidS L n x0).2 + 1) + 1) + 1) + 1) 4), .int .i64 (dN L ((((((saidS L n x0).2 + 1) + 1) + 1) + 1) + 1) 5)] : List Value)) /\ ((List.take (1 * 7) (List.drop 0 ([.int .i64 (1 + (dN L (saidS L n x0).2 4)), .int .i64 (1 + (dN L ((saidS L n x0).2 + 1) 12)), .int .i64 (dN L (((saidS L n x0).2 + 1) + 1) 50), .int .i64 (1 + (dN L ((((saidS L n x0).2 + 1) + 1) + 1) 3)), .int .i64 0, .int .i64 (dN L (((((saidS L n x0).2 + 1) + 1) + 1) + 1) 4), .int .i64 (dN L ((((((saidS L n x0).2 + 1) + 1) + 1) + 1) + 1) 5)] : List Value))) : List Value).all (fun v => one1 v) = true) /\ true = true /\ ((.int .i64 (IntKind.wrap .i64 (((x0 : Nat) : Int) + 1)) : Value) = .int .i64 (((x0 : Nat) : Int) + 1) /\ (∃ x0' : Nat, (x0' <= k) /\ (k - x0') < (k - x0) /\ true = true /\ ((.int .i64 (((x0 : Nat) : Int) + 1) : Value) = .int .i64 ((x0' : Nat) : Int) /\ wk (.slice (some ⟨4, 0, none⟩) ((List.length (saidS L n x0).1) + 1) ((List.length (saidS L n x0).1) + 1) : Value) (.slice (some ⟨4, 0, some 1⟩) (List.length (saidS L n x0').1) (List.length (saidS L n x0').1) : Value) /\ (.int .i64 ((k : Nat) : Int) : Value) = .int .i64 ((k : Nat) : Int) /\ (.pointer (some ⟨0, 0, none⟩) : Value) = .pointer (some ⟨0, 0, none⟩) /\ (.slice none 0 0 : Value) = .slice none 0 0 /\ True) /\ ((some (.cells true 0 [.iface ((List.length L) + 1) (.agg ⟨(List.flatMap intC L)⟩), .int .i64 (((((((saidS L n x0).2 + 1) + 1) + 1) + 1) + 1) + 1)] : KObj) = some (.cells true 0 [.iface ((List.length L) + 1) (.agg ⟨(List.flatMap intC L)⟩), .int .i64 (saidS L n x0').2] : KObj) /\ belowO 1 (.cells true 0 [.iface ((List.length L) + 1) (.agg ⟨(List.flatMap intC L)⟩), .int .i64 (saidS L n x0').2] : KObj) = true) /\ True) /\ ((some (.cells true 7 ((List.take ((List.length (saidS L n x0).1) * 7) (List.drop 0 (List.flatMap msgC (saidS L n x0).1))) ++ (List.take (1 * 7) (List.drop 0 ([.int .i64 (1 + (dN L (saidS L n x0).2 4)), .int .i64 (1 + (dN L ((saidS L n x0).2 + 1) 12)), .int .i64 (dN L (((saidS L n x0).2 + 1) + 1) 50), .int .i64 (1 + (dN L ((((saidS L n x0).2 + 1) + 1) + 1) 3)), .int .i64 0, .int .i64 (dN L (((((saidS L n x0).2 + 1) + 1) + 1) + 1) 4), .int .i64 (dN L ((((((saidS L n x0).2 + 1) + 1) + 1) + 1) + 1) 5)] : List Value)))) : KObj) = some (.cells true 7 (List.flatMap msgC (saidS L n x0').1) : KObj) /\ belowO 1 (.cells true 7 (List.flatMap msgC (saidS L n x0').1) : KObj) = true) /\ True) /\ (True))))))) /\ ((((1 + (dN L ((((saidS L n x0).2 + 1) + 1) + 1) 3)) : Int) == 2) = false -> (((some (.cells true 0 [.iface ((List.length L) + 1) (.agg ⟨(List.flatMap intC L)⟩), .int .i64 (((((saidS L n x0).2 + 1) + 1) + 1) + 1)] : KObj) = some (.cells true 0 [.iface ((List.length L) + 1) (.agg ⟨(List.flatMap intC L)⟩), .int .i64 (((((saidS L n x0).2 + 1) + 1) + 1) + 1)] : KObj)) /\ True) /\ (∀ H' : Heap, H'.length = 3 -> (H'[0]? = some (.cells true 0 [.iface ((List.length L) + 1) (.agg ⟨(List.flatMap intC L)⟩), .int .i64 (((((saidS L n x0).2 + 1) + 1) + 1) + 1)] : KObj) /\ True) -> KCall prog 27 [.pointer (some ⟨0, 0, none⟩), .int .i64 12] H' [0] (Is (.int .i64 (dN L (((((saidS L n x0).2 + 1) + 1) + 1) + 1) 12)) (List.set H' 0 (.cells true 0 [.iface ((List.length L) + 1) (.agg ⟨(List.flatMap intC L)⟩), .int .i64 ((((((saidS L n x0).2 + 1) + 1) + 1) + 1) + 1)] : KObj)))) /\ ((.int .i64 (IntKind.wrap .i64 (1 + (dN L (((((saidS L n x0).2 + 1) + 1) + 1) + 1) 12))) : Value) = .int .i64 (1 + (dN L (((((saidS L n x0).2 + 1) + 1) + 1) + 1) 12)) /\ ((((List.length (saidS L n x0).1) + 1) * 56 <= 2 ^ 44 /\ 1 ≠ 0 /\ ((List.length (saidS L n x0).1) <= (List.length (saidS L n x0).1) /\ 0 + (List.length (saidS L n x0).1) * 7 <= List.length (List.flatMap msgC (saidS L n x0).1)) /\ (1 <= 1 /\ 0 + 1 * 7 <= List.length ([.int .i64 (1 + (dN L (saidS L n x0).2 4)), .int .i64 (1 + (dN L ((saidS L n x0).2 + 1) 12)), .int .i64 (dN L (((saidS L n x0).2 + 1) + 1) 50), .int .i64 (1 + (dN L ((((saidS L n x0).2 + 1) + 1) + 1) 3)), .int .i64 0, .int .i64 0, .int .i64 (1 + (dN L (((((saidS L n x0).2 + 1) + 1) + 1) + 1) 12))] : List Value)) /\ ((List.take (1 * 7) (List.drop 0 ([.int .i64 (1 + (dN L (saidS L n x0).2 4)), .int .i64 (1 + (dN L ((saidS L n x0).2 + 1) 12)), .int .i64 (dN L (((saidS L n x0).2 + 1) + 1) 50), .int .i64 (1 + (dN L ((((saidS L n x0).2 + 1) + 1) + 1) 3)), .int .i64 0, .int .i64 0, .int .i64 (1 + (dN L (((((saidS L n x0).2 + 1) + 1) + 1) + 1) 12))] : List Value))) : List Value).all (fun v => one1 v) = true) /\ true = true /\ ((.int .i64 (IntKind.wrap .i64 (((x0 : Nat) : Int) + 1)) : Value) = .int .i64 (((x0 : Nat) : Int) + 1) /\ (∃ x0' : Nat, (x0' <= k) /\ (k - x0') < (k - x0) /\ true = true /\ ((.int .i64 (((x0 : Nat) : Int) + 1) : Value) = .int .i64 ((x0' : Nat) : Int) /\ wk (.slice (some ⟨4, 0, none⟩) ((List.length (saidS L n x0).1) + 1) ((List.length (saidS L n x0).1) + 1) : Value) (.slice (some ⟨4, 0, some 1⟩) (List.length (saidS L n x0').1) (List.length (saidS L n x0').1) : Value) /\ (.int .i64 ((k : Nat) : Int) : Value) = .int .i64 ((k : Nat) : Int) /\ (.pointer (some ⟨0, 0, none⟩) : Value) = .pointer (some ⟨0, 0, none⟩) /\ (.slice none 0 0 : Value) = .slice none 0 0 /\ True) /\ ((some (.cells true 0 [.iface ((List.length L) + 1) (.agg ⟨(List.flatMap intC L)⟩), .int .i64 ((((((saidS L n x0).2 + 1) + 1) + 1) + 1) + 1)] : KObj) = some (.cells true 0 [.iface ((List.length L) + 1) (.agg ⟨(List.flatMap intC L)⟩), .int .i64 (saidS L n x0').2] : KObj) /\ belowO 1 (.cells true 0 [.iface ((List.length L) + 1) (.agg ⟨(List.flatMap intC L)⟩), .int .i64 (saidS L n x0').2] : KObj) = true) /\ True) /\ ((some (.cells true 7 ((List.take ((List.length (saidS L n x0).1) * 7) (List.drop 0 (List.flatMap msgC (saidS L n x0).1))) ++ (List.take (1 * 7) (List.drop 0 ([.int .i64 (1 + (dN L (saidS L n x0).2 4)), .int .i64 (1 + (dN L ((saidS L n x0).2 + 1) 12)), .int .i64 (dN L (((saidS L n x0).2 + 1) + 1) 50), .int .i64 (1 + (dN L ((((saidS L n x0).2 + 1) + 1) + 1) 3)), .int .i64 0, .int .i64 0, .int .i64 (1 + (dN L (((((saidS L n x0).2 + 1) + 1) + 1) + 1) 12))] : List Value)))) : KObj) = some (.cells true 7 (List.flatMap msgC (saidS L n x0').1) : KObj) /\ belowO 1 (.cells true 7 (List.flatMap msgC (saidS L n x0').1) : KObj) = true) /\ True) /\ (True)))))))))))))))))) /\ ((decide ((((x0 : Nat) : Int) : Int) < ((k : Nat) : Int))) = false -> (true = true /\ wk (.slice (some ⟨1, 0, some 1⟩) (List.length (saidS L n x0).1) (List.length (saidS L n x0).1) : Value) (rn (sg 1 [(1, 1)]) 3 (.slice (some ⟨1, 0, some 1⟩) (List.length (saidS L n k).1) (List.length (saidS L n k).1) : Value)) /\ ((some (.cells true 0 [.iface ((List.length L) + 1) (.agg ⟨(List.flatMap intC L)⟩), .int .i64 (saidS L n x0).2] : KObj) = some (.cells true 0 [.iface ((List.length L) + 1) (.agg ⟨(List.flatMap intC L)⟩), .int .i64 (saidS L n k).2] : KObj) /\ belowO 1 (.cells true 0 [.iface ((List.length L) + 1) (.agg ⟨(List.flatMap intC L)⟩), .int .i64 (saidS L n k).2] : KObj) = true) /\ True) /\ ((some (.cells true 7 (List.flatMap msgC (saidS L n x0).1) : KObj) = some (.cells true 7 (List.flatMap msgC (saidS L n k).1) : KObj) /\ belowO 1 (.cells true 7 (List.flatMap msgC (saidS L n k).1) : KObj) = true) /\ True)))))
theorem ESaid (L : List Int) (n : Int) (k : Nat) : vF prog msk (dm 0) 100000 true 40 true 25 [.pointer (some ⟨0, 0, none⟩), .int .i64 ((k : Nat) : Int)] (readsW 0 0 (digC L n) []) (some [0])
 (.go 2 (.inv 3 (Nat) (0) [] [0] (fun x0 => [(6, .int .i64 ((x0 : Nat) : Int)), (5, .slice (some ⟨1, 0, some 1⟩) (List.length (saidS L n x0).1) (List.length (saidS L n x0).1)), (1, .int .i64 ((k : Nat) : Int)), (0, .pointer (some ⟨0, 0, none⟩)), (4, .slice none 0 0)]) (fun x0 => [(0, true, .cells true 0 [.iface ((List.length L) + 1) (.agg ⟨(List.flatMap intC L)⟩), .int .i64 (saidS L n x0).2])]) (fun x0 => [(true, .cells true 7 (List.flatMap msgC (saidS L n x0).1))]) (fun x0 => []) (fun x0 => (x0 <= k)) (fun x0 => (k - x0)) (fun x0 => .go 2 (.fork (.go 0 (.answ [(0, .cells true 0 [.iface ((List.length L) + 1) (.agg ⟨(List.flatMap intC L)⟩), .int .i64 (saidS L n x0).2])] (.int .i64 (dN L (saidS L n x0).2 4)) [(0, .cells true 0 [.iface ((List.length L) + 1) (.agg ⟨(List.flatMap intC L)⟩), .int .i64 ((saidS L n x0).2 + 1)])] [] (.go 0 (.slot 15 (.int .i64 (1 + (dN L (saidS L n x0).2 4))) (.go 0 (.answ [(0, .cells true 0 [.iface ((List.length L) + 1) (.agg ⟨(List.flatMap intC L)⟩), .int .i64 ((saidS L n x0).2 + 1)])] (.int .i64 (dN L ((saidS L n x0).2 + 1) 12)) [(0, .cells true 0 [.iface ((List.length L) + 1) (.agg ⟨(List.flatMap intC L)⟩), .int .i64 (((saidS L n x0).2 + 1) + 1)])] [] (.go 0 (.slot 18 (.int .i64 (1 + (dN L ((saidS L n x0).2 + 1) 12))) (.go 0 (.answ [(0, .cells true 0 [.iface ((List.length L) + 1) (.agg ⟨(List.flatMap intC L)⟩), .int .i64 (((saidS L n x0).2 + 1) + 1)])] (.int .i64 (dN L (((saidS L n x0).2 + 1) + 1) 50)) [(0, .cells true 0 [.iface ((List.length L) + 1) (.agg ⟨(List.flatMap intC L)⟩), .int .i64 ((((saidS L n x0).2 + 1) + 1) + 1)])] [] (.go 0 (.answ [(0, .cells true 0 [.iface ((List.length L) + 1) (.agg ⟨(List.flatMap intC L)⟩), .int .i64 ((((saidS L n x0).2 + 1) + 1) + 1)])] (.int .i64 (dN L ((((saidS L n x0).2 + 1) + 1) + 1) 3)) [(0, .cells true 0 [.iface ((List.length L) + 1) (.agg ⟨(List.flatMap intC L)⟩), .int .i64 (((((saidS L n x0).2 + 1) + 1) + 1) + 1)])] [] (.go 0 (.slot 23 (.int .i64 (1 + (dN L ((((saidS L n x0).2 + 1) + 1) + 1) 3))) (.go 6 (.fork (.go 0 (.answ [(0, .cells true 0 [.iface ((List.length L) + 1) (.agg ⟨(List.flatMap intC L)⟩), .int .i64 (((((saidS L n x0).2 + 1) + 1) + 1) + 1)])] (.int .i64 (dN L (((((saidS L n x0).2 + 1) + 1) + 1) + 1) 3)) [(0, .cells true 0 [.iface ((List.length L) + 1) (.agg ⟨(List.flatMap intC L)⟩), .int .i64 ((((((saidS L n x0).2 + 1) + 1) + 1) + 1) + 1)])] [] (.go 0 (.slot 35 (.int .i64 (1 + (dN L (((((saidS L n x0).2 + 1) + 1) + 1) + 1) 3))) (.go 0 (.answ [(0, .cells true 0 [.iface ((List.length L) + 1) (.agg ⟨(List.flatMap intC L)⟩), .int .i64 ((((((saidS L n x0).2 + 1) + 1) + 1) + 1) + 1)])] (.int .i64 (dN L ((((((saidS L n x0).2 + 1) + 1) + 1) + 1) + 1) 9)) [(0, .cells true 0 [.iface ((List.length L) + 1) (.agg ⟨(List.flatMap intC L)⟩), .int .i64 (((((((saidS L n x0).2 + 1) + 1) + 1) + 1) + 1) + 1)])] [] (.go 6 (.need (.go 2 (.slot 12 (.int .i64 (((x0 : Nat) : Int) + 1)) (.go 0 (.again [(1, 4)])))))))))))) (.go 1 (.fork (.go 0 (.answ [(0, .cells true 0 [.iface ((List.length L) + 1) (.agg ⟨(List.flatMap intC L)⟩), .int .i64 (((((saidS L n x0).2 + 1) + 1) + 1) + 1)])] (.int .i64 (dN L (((((saidS L n x0).2 + 1) + 1) + 1) + 1) 4)) [(0, .cells true 0 [.iface ((List.length L) + 1) (.agg ⟨(List.flatMap intC L)⟩), .int .i64 ((((((saidS L n x0).2 + 1) + 1) + 1) + 1) + 1)])] [] (.go 0 (.answ [(0, .cells true 0 [.iface ((List.length L) + 1) (.agg ⟨(List.flatMap intC L)⟩), .int .i64 ((((((saidS L n x0).2 + 1) + 1) + 1) + 1) + 1)])] (.int .i64 (dN L ((((((saidS L n x0).2 + 1) + 1) + 1) + 1) + 1) 5)) [(0, .cells true 0 [.iface ((List.length L) + 1) (.agg ⟨(List.flatMap intC L)⟩), .int .i64 (((((((saidS L n x0).2 + 1) + 1) + 1) + 1) + 1) + 1)])] [] (.go 6 (.need (.go 2 (.slot 12 (.int .i64 (((x0 : Nat) : Int) + 1)) (.go 0 (.again [(1, 4)])))))))))) (.go 0 (.answ [(0, .cells true 0 [.iface ((List.length L) + 1) (.agg ⟨(List.flatMap intC L)⟩), .int .i64 (((((saidS L n x0).2 + 1) + 1) + 1) + 1)])] (.int .i64 (dN L (((((saidS L n x0).2 + 1) + 1) + 1) + 1) 12)) [(0, .cells true 0 [.iface ((List.length L) + 1) (.agg ⟨(List.flatMap intC L)⟩), .int .i64 ((((((saidS L n x0).2 + 1) + 1) + 1) + 1) + 1)])] [] (.go 0 (.slot 29 (.int .i64 (1 + (dN L (((((saidS L n x0).2 + 1) + 1) + 1) + 1) 12))) (.go 4 (.need (.go 2 (.slot 12 (.int .i64 (((x0 : Nat) : Int) + 1)) (.go 0 (.again [(1, 4)])))))))))))))))))))))))))))) (.go 1 (.keep (.again [(1, 1)])))))))
 (newKW ((readsW 0 0 (digC L n) []) : HT).n 3 0 (.cells true 0 [.iface ((List.length L) + 1) (.agg ⟨(List.flatMap intC L)⟩), .int .i64 (saidS L n k).2]) (.slice (some ⟨1, 0, some 1⟩) (List.length (saidS L n k).1) (List.length (saidS L n k).1)) [(true, .cells true 7 (List.flatMap msgC (saidS L n k).1))]) = RSaid L n k := by kernel_rfl
end
end Go.Proofs.YtbgfjemppjhmjaaGreat
/- Radio: messages that are made of numbers. No condition. -/
namespace Go.Proofs.YtbgfjemppjhmjaaGreat
open Go Go.K
set_option maxRecDepth 100000
set_option linter.unusedVariables false
set_option linter.unusedSimpArgs false
noncomputable section
attribute [local irreducible] vF
theorem hv11 (L : List Int) (n : Int) (k : Nat) (hn : 0 <= n /\ n <= 1000000) (hk : k <= 1000) : RSaid L n k := by
 unfold RSaid
 refine ⟨rfl, Nat.zero_le _, ?_, fun _ => rfl, fun x hx => ⟨fun a => ?_, fun a => ?_⟩⟩
 ·repeat' first | exact digO _ _ _ | exact plainML _ _ | exact wk_nil _ _ _ (.inl rfl) | exact trivial | exact rfl | exact wk_refl _ | refine wkO_cells ?_ | refine wks_cons ?_ ?_ | exact wks_nil | exact wk_nil _ _ _ (.inl rfl) | (exact wk_Q (by omega)) | refine wk_tupL ?_ | refine wk_aggL ?_ | refine joinMax ?_ ?_ ?_ | refine joinMin ?_ ?_ ?_ | refine toMax ?_ | refine toMin ?_ | refine ⟨rfl, ?_⟩ | refine ⟨trivial, ?_⟩ | (refine forkD (fun h => ?_) (fun h => ?_)) | (refine forkNe (fun h => ?_) (fun h => ?_)) | (refine forkEq (fun h => ?_) (fun h => ?_)) | refine forkNot ?_ | (refine ⟨vI64 (by omega), ?_⟩) | (refine And.intro (by omega) ?_) | apply And.intro | (exact iEq (by omega)) | (exact vI64 (by omega))
 ·have h1 : x < k := by have := of_decide_eq_true a; omega
  obtain ⟨l1, l2, l3, l4⟩ := saidS_ok L n x
  have b1 := dN_bd L (saidS L n x).2 (m := 4) (by omega)
  have b2 := dN_bd L ((saidS L n x).2 + 1) (m := 12) (by omega)
  have b3 := dN_bd L ((saidS L n x).2 + 1 + 1) (m := 50) (by omega)
  have b4 := dN_bd L ((saidS L n x).2 + 1 + 1 + 1) (m := 3) (by omega)
  have b5 := dN_bd L ((saidS L n x).2 + 1 + 1 + 1 + 1) (m := 3) (by omega)
  have b9 := dN_bd L ((saidS L n x).2 + 1 + 1 + 1 + 1) (m := 12) (by omega)
  have kN : ∀ (q : Int) (m : Int) (c : Nat), (0 <= q /\ q <= 1000000000) -> (1 <= m /\ m <= 1000000000) -> ∀ H' : Heap, H'.length = c -> (H'[0]? = some (.cells true 0 (digC L q)) /\ True) -> KCall prog 27 [.pointer (some ⟨0, 0, none⟩), .int .i64 m] H' [0] (Is (.int .i64 (dN L q m)) (List.set H' 0 (.cells true 0 (digC L (q + 1))))) :=
   fun q m c h1 h2 H' _ h => kNext L q m h1 h2 h.1
  refine ⟨⟨rfl, trivial⟩, kN _ _ _ (by omega) (by omega), vI64 (by omega), ⟨rfl, trivial⟩, kN _ _ _ (by omega) (by omega), vI64 (by omega), ⟨rfl, trivial⟩, kN _ _ _ (by omega) (by omega), ⟨rfl, trivial⟩, kN _ _ _ (by omega) (by omega), vI64 (by omega), ?_⟩
  refine ⟨fun c => ⟨⟨rfl, trivial⟩, kN _ _ _ (by omega) (by omega), vI64 (by omega), ⟨rfl, trivial⟩, kN _ _ _ (by omega) (by omega), ?_, rfl, vI64 (by omega), x + 1, by omega, by omega, rfl, ?_⟩,
   fun c => ⟨fun d => ⟨⟨rfl, trivial⟩, kN _ _ _ (by omega) (by omega), ⟨rfl, trivial⟩, kN _ _ _ (by omega) (by omega), ?_, rfl, vI64 (by omega), x + 1, by omega, by omega, rfl, ?_⟩,
    fun d => ⟨⟨rfl, trivial⟩, kN _ _ _ (by omega) (by omega), vI64 (by omega), ?_, rfl, vI64 (by omega), x + 1, by omega, by omega, rfl, ?_⟩⟩⟩
  ·repeat' first | exact flat_le msgC_len _ | exact Nat.le_refl 7 | exact trivial | exact rfl | exact wk_refl _ | refine wkO_cells ?_ | refine wks_cons ?_ ?_ | exact wks_nil | exact wk_nil _ _ _ (.inl rfl) | (exact wk_Q (by omega)) | refine wk_tupL ?_ | refine wk_aggL ?_ | refine joinMax ?_ ?_ ?_ | refine joinMin ?_ ?_ ?_ | refine toMax ?_ | refine toMin ?_ | refine ⟨rfl, ?_⟩ | refine ⟨trivial, ?_⟩ | (refine forkD (fun h => ?_) (fun h => ?_)) | (refine forkNe (fun h => ?_) (fun h => ?_)) | (refine forkEq (fun h => ?_) (fun h => ?_)) | refine forkNot ?_ | (refine ⟨vI64 (by omega), ?_⟩) | (refine And.intro (by omega) ?_) | apply And.intro | (exact iEq (by omega)) | (exact vI64 (by omega))
  ·simp only [saidS]
   rw [if_pos (eq_of_beq c)]
   repeat' first | exact digO _ _ _ | exact plainML _ _ | exact wk_snoc rfl | exact ob_snoc msgC_len rfl rfl | exact trivial | exact rfl | exact wk_refl _ | refine wkO_cells ?_ | refine wks_cons ?_ ?_ | exact wks_nil | exact wk_nil _ _ _ (.inl rfl) | (exact wk_Q (by omega)) | refine wk_tupL ?_ | refine wk_aggL ?_ | refine joinMax ?_ ?_ ?_ | refine joinMin ?_ ?_ ?_ | refine toMax ?_ | refine toMin ?_ | refine ⟨rfl, ?_⟩ | refine ⟨trivial, ?_⟩ | (refine forkD (fun h => ?_) (fun h => ?_)) | (refine forkNe (fun h => ?_) (fun h => ?_)) | (refine forkEq (fun h => ?_) (fun h => ?_)) | refine forkNot ?_ | (refine ⟨vI64 (by omega), ?_⟩) | (refine And.intro (by omega) ?_) | apply And.intro | (exact iEq (by omega)) | (exact vI64 (by omega))
  ·repeat' first | exact flat_le msgC_len _ | exact Nat.le_refl 7 | exact trivial | exact rfl | exact wk_refl _ | refine wkO_cells ?_ | refine wks_cons ?_ ?_ | exact wks_nil | exact wk_nil _ _ _ (.inl rfl) | (exact wk_Q (by omega)) | refine wk_tupL ?_ | refine wk_aggL ?_ | refine joinMax ?_ ?_ ?_ | refine joinMin ?_ ?_ ?_ | refine toMax ?_ | refine toMin ?_ | refine ⟨rfl, ?_⟩ | refine ⟨trivial, ?_⟩ | (refine forkD (fun h => ?_) (fun h => ?_)) | (refine forkNe (fun h => ?_) (fun h => ?_)) | (refine forkEq (fun h => ?_) (fun h => ?_)) | refine forkNot ?_ | (refine ⟨vI64 (by omega), ?_⟩) | (refine And.intro (by omega) ?_) | apply And.intro | (exact iEq (by omega)) | (exact vI64 (by omega))
  ·simp only [saidS]
   rw [if_neg (fun q => by rw [q] at c; cases c), if_pos (eq_of_beq d)]
   repeat' first | exact digO _ _ _ | exact plainML _ _ | exact wk_snoc rfl | exact ob_snoc msgC_len rfl rfl | exact trivial | exact rfl | exact wk_refl _ | refine wkO_cells ?_ | refine wks_cons ?_ ?_ | exact wks_nil | exact wk_nil _ _ _ (.inl rfl) | (exact wk_Q (by omega)) | refine wk_tupL ?_ | refine wk_aggL ?_ | refine joinMax ?_ ?_ ?_ | refine joinMin ?_ ?_ ?_ | refine toMax ?_ | refine toMin ?_ | refine ⟨rfl, ?_⟩ | refine ⟨trivial, ?_⟩ | (refine forkD (fun h => ?_) (fun h => ?_)) | (refine forkNe (fun h => ?_) (fun h => ?_)) | (refine forkEq (fun h => ?_) (fun h => ?_)) | refine forkNot ?_ | (refine ⟨vI64 (by omega), ?_⟩) | (refine And.intro (by omega) ?_) | apply And.intro | (exact iEq (by omega)) | (exact vI64 (by omega))
  ·repeat' first | exact flat_le msgC_len _ | exact Nat.le_refl 7 | exact trivial | exact rfl | exact wk_refl _ | refine wkO_cells ?_ | refine wks_cons ?_ ?_ | exact wks_nil | exact wk_nil _ _ _ (.inl rfl) | (exact wk_Q (by omega)) | refine wk_tupL ?_ | refine wk_aggL ?_ | refine joinMax ?_ ?_ ?_ | refine joinMin ?_ ?_ ?_ | refine toMax ?_ | refine toMin ?_ | refine ⟨rfl, ?_⟩ | refine ⟨trivial, ?_⟩ | (refine forkD (fun h => ?_) (fun h => ?_)) | (refine forkNe (fun h => ?_) (fun h => ?_)) | (refine forkEq (fun h => ?_) (fun h => ?_)) | refine forkNot ?_ | (refine ⟨vI64 (by omega), ?_⟩) | (refine And.intro (by omega) ?_) | apply And.intro | (exact iEq (by omega)) | (exact vI64 (by omega))
  ·simp only [saidS]
   rw [if_neg (fun q => by rw [q] at c; cases c), if_neg (fun q => by rw [q] at d; cases d)]
   repeat' first | exact digO _ _ _ | exact plainML _ _ | exact wk_snoc rfl | exact ob_snoc msgC_len rfl rfl | exact trivial | exact rfl | exact wk_refl _ | refine wkO_cells ?_ | refine wks_cons ?_ ?_ | exact wks_nil | exact wk_nil _ _ _ (.inl rfl) | (exact wk_Q (by omega)) | refine wk_tupL ?_ | refine wk_aggL ?_ | refine joinMax ?_ ?_ ?_ | refine joinMin ?_ ?_ ?_ | refine toMax ?_ | refine toMin ?_ | refine ⟨rfl, ?_⟩ | refine ⟨trivial, ?_⟩ | (refine forkD (fun h => ?_) (fun h => ?_)) | (refine forkNe (fun h => ?_) (fun h => ?_)) | (refine forkEq (fun h => ?_) (fun h => ?_)) | refine forkNot ?_ | (refine ⟨vI64 (by omega), ?_⟩) | (refine And.intro (by omega) ?_) | apply And.intro | (exact iEq (by omega)) | (exact vI64 (by omega))
 ·have h1 : x = k := by have := of_decide_eq_false a; omega
  subst h1
  repeat' first | exact digO _ _ _ | exact plainML _ _ | exact wk_refl _ | exact trivial | exact rfl | exact wk_refl _ | refine wkO_cells ?_ | refine wks_cons ?_ ?_ | exact wks_nil | exact wk_nil _ _ _ (.inl rfl) | (exact wk_Q (by omega)) | refine wk_tupL ?_ | refine wk_aggL ?_ | refine joinMax ?_ ?_ ?_ | refine joinMin ?_ ?_ ?_ | refine toMax ?_ | refine toMin ?_ | refine ⟨rfl, ?_⟩ | refine ⟨trivial, ?_⟩ | (refine forkD (fun h => ?_) (fun h => ?_)) | (refine forkNe (fun h => ?_) (fun h => ?_)) | (refine forkEq (fun h => ?_) (fun h => ?_)) | refine forkNot ?_ | (refine ⟨vI64 (by omega), ?_⟩) | (refine And.intro (by omega) ?_) | apply And.intro | (exact iEq (by omega)) | (exact vI64 (by omega))
theorem kSaid (L : List Int) (n : Int) (k : Nat) (hn : 0 <= n /\ n <= 1000000) (hk : k <= 1000) {H : Heap} {D : Nat} (hD : H[D]? = some (.cells true 0 (digC L n))) :
  KCall prog 25 [.pointer (some ⟨D, 0, none⟩), .int .i64 (k : Int)] H [D] (Is (.slice (some ⟨H.length, 0, some 1⟩) (saidS L n k).1.length (saidS L n k).1.length) (H.set D (.cells true 0 (digC L (saidS L n k).2)) ++ [.cells true 7 ((saidS L n k).1.flatMap msgC)])) :=
 valW (fun j => .slice (some ⟨j, 0, some 1⟩) (saidS L n k).1.length (saidS L n k).1.length) (css := []) (new := [.cells true 7 ((saidS L n k).1.flatMap msgC)]) (Eq.mpr (ESaid L n k) (hv11 L n k hn hk)) (plainDig 0 L n) (plainDig 0 L _) trivial
  ⟨⟨_, _, rfl, plainML _ _⟩, trivial⟩ rfl rfl (fun _ => rfl) hD (ids := []) trivial (by simp) rfl
end
end Go.Proofs.YtbgfjemppjhmjaaGreat
/- What is to be shown of functions. Printed by a program. No condition. -/
namespace Go.Proofs.YtbgfjemppjhmjaaGreat
set_option linter.unusedSimpArgs false
open Go Go.K
set_option maxRecDepth 100000
set_option maxHeartbeats 4000000
set_option linter.unusedVariables false
noncomputable section
def Rno1 (sp : Value) (c : Int) (m : Msg) : Prop :=
 ((((m.ki : Int) != 2) = true -> (.bool true : Value) = sp) /\ (((m.ki : Int) != 2) = false -> (.bool ((m.ce : Int) != c) : Value) = sp))
theorem Eno1 (sp : Value) (c : Int) (m : Msg) : vF prog msk (dm 0) 100000 true 40 true 103 [.agg #[.int .i64 m.au, .int .i64 m.nu, .int .i64 m.at_, .int .i64 m.ki, .int .i64 m.sh, .int .i64 m.ce, .int .i64 m.va], .pointer (some ⟨0, 0, none⟩)] (readsT 0 [[.int .i64 c]]) (some [])
 (.go 5 (.gfork (.auto) (.auto)))
 (fun v _ _ => v = sp) = Rno1 sp c m := by kernel_rfl
def RdelN (M : List Msg) (c : Int) : Prop :=
 (true = true /\ (0 <= List.length M /\ (List.take 0 M).all (isNo c) = true) /\ (true = true /\ ((.int .i64 0 : Value) = .int .i64 ((0 : Nat) : Int) /\ (.func (.func 103) #[] #[.pointer (some ⟨1, 0, none⟩)] : Value) = .func (.func 103) #[] #[.pointer (some ⟨1, 0, none⟩)] /\ wk (.slice (some ⟨0, 0, some 2⟩) (List.length M) (List.length M) : Value) (.slice (some ⟨0, 0, some 2⟩) (List.length M) (List.length M) : Value) /\ (.int .i64 (((List.length M) : Nat) : Int) : Value) = .int .i64 (((List.length M) : Nat) : Int) /\ True) /\ (True) /\ (True) /\ (True)) /\ (∀ x0 : Nat, true = true) /\ ∀ x0 : Nat, (x0 <= List.length M /\ (List.take x0 M).all (isNo c) = true) -> (((decide ((((x0 : Nat) : Int) : Int) < (((List.length M) : Nat) : Int))) = true -> (((0 : Int) <= ((x0 : Nat) : Int) /\ (((x0 : Nat) : Int) : Int) < (((List.length M) : Nat) : Int)) /\ ((partA 7 (List.flatMap msgC M) (0 + Int.toNat ((x0 : Nat) : Int) * 7) = some (.agg #[.int .i64 (List.getD M x0 zeroM).au, .int .i64 (List.getD M x0 zeroM).nu, .int .i64 (List.getD M x0 zeroM).at_, .int .i64 (List.getD M x0 zeroM).ki, .int .i64 (List.getD M x0 zeroM).sh, .int .i64 (List.getD M x0 zeroM).ce, .int .i64 (List.getD M x0 zeroM).va])) /\ (((some (.cells false 0 [.int .i64 c] : KObj) = some (.cells false 0 [.int .i64 c] : KObj)) /\ True) /\ (∀ H' : Heap, H'.length = 2 -> (H'[1]? = some (.cells false 0 [.int .i64 c] : KObj) /\ True) -> KCall prog 103 [.agg #[.int .i64 (List.getD M x0 zeroM).au, .int .i64 (List.getD M x0 zeroM).nu, .int .i64 (List.getD M x0 zeroM).at_, .int .i64 (List.getD M x0 zeroM).ki, .int .i64 (List.getD M x0 zeroM).sh, .int .i64 (List.getD M x0 zeroM).ce, .int .i64 (List.getD M x0 zeroM).va], .pointer (some ⟨1, 0, none⟩)] H' [] (Is (.bool (notNo c (List.getD M x0 zeroM))) H')) /\ (((notNo c (List.getD M x0 zeroM)) = true -> ((((((x0 : Nat) : Int) : Int) == (-1)) = true -> (true = true /\ wk (.slice (some ⟨0, 0, some 2⟩) (List.length M) (List.length M) : Value) (rn (sg 2 []) 3 (.slice (some ⟨0, 0, some 2⟩) (List.length (M.filter (isNo c))) (List.length (M.filter (isNo c))) : Value)) /\ ((some (.cells true 7 (List.flatMap msgC M) : KObj) = some (.cells true 7 (List.flatMap msgC (delQ (isNo c) M)) : KObj) /\ belowO 2 (.cells true 7 (List.flatMap msgC (delQ (isNo c) M)) : KObj) = true) /\ True) /\ (True))) /\ (((((x0 : Nat) : Int) : Int) == (-1)) = false -> ((.int .i64 (IntKind.wrap .i64 (((x0 : Nat) : Int) + 1)) : Value) = .int .i64 (((x0 : Nat) : Int) + 1) /\ (true = true /\ ((x0 + 1) <= List.length M /\ (List.length (keepQ (isNo c) M (x0 + 1))) < (x0 + 1)) /\ (true = true /\ ((.int .i64 (((x0 : Nat) : Int) + 1) : Value) = .int .i64 (((x0 + 1) : Nat) : Int) /\ (.int .i64 ((x0 : Nat) : Int) : Value) = .int .i64 (((List.length (keepQ (isNo c) M (x0 + 1))) : Nat) : Int) /\ (.func (.func 103) #[] #[.pointer (some ⟨1, 0, none⟩)] : Value) = .func (.func 103) #[] #[.pointer (some ⟨1, 0, none⟩)] /\ wk (.slice (some ⟨0, 0, some 2⟩) (List.length M) (List.length M) : Value) (.slice (some ⟨0, 0, some 2⟩) (List.length M) (List.length M) : Value) /\ (.slice none 0 0 : Value) = .slice none 0 0 /\ True) /\ ((some (.cells true 7 (List.flatMap msgC M) : KObj) = some (.cells true 7 (List.flatMap msgC (midQ (isNo c) M (x0 + 1))) : KObj) /\ belowO 2 (.cells true 7 (List.flatMap msgC (midQ (isNo c) M (x0 + 1))) : KObj) = true) /\ True) /\ (True) /\ (True)) /\ (∀ x2 : Nat, true = true) /\ ∀ x2 : Nat, (x2 <= List.length M /\ (List.length (keepQ (isNo c) M x2)) < x2) -> (((decide ((((x2 : Nat) : Int) : Int) < (((List.length M) : Nat) : Int))) = true -> (((0 : Int) <= ((x2 : Nat) : Int) /\ (((x2 : Nat) : Int) : Int) < (((List.length M) : Nat) : Int)) /\ ((partA 7 (List.flatMap msgC (midQ (isNo c) M x2)) (0 + Int.toNat ((x2 : Nat) : Int) * 7) = some (.agg #[.int .i64 (List.getD (midQ (isNo c) M x2) x2 zeroM).au, .int .i64 (List.getD (midQ (isNo c) M x2) x2 zeroM).nu, .int .i64 (List.getD (midQ (isNo c) M x2) x2 zeroM).at_, .int .i64 (List.getD (midQ (isNo c) M x2) x2 zeroM).ki, .int .i64 (List.getD (midQ (isNo c) M x2) x2 zeroM).sh, .int .i64 (List.getD (midQ (isNo c) M x2) x2 zeroM).ce, .int .i64 (List.getD (midQ (isNo c) M x2) x2 zeroM).va])) /\ (((some (.cells false 0 [.int .i64 c] : KObj) = some (.cells false 0 [.int .i64 c] : KObj)) /\ True) /\ (∀ H' : Heap, H'.length = 3 -> (H'[1]? = some (.cells false 0 [.int .i64 c] : KObj) /\ True) -> KCall prog 103 [.agg #[.int .i64 (List.getD (midQ (isNo c) M x2) x2 zeroM).au, .int .i64 (List.getD (midQ (isNo c) M x2) x2 zeroM).nu, .int .i64 (List.getD (midQ (isNo c) M x2) x2 zeroM).at_, .int .i64 (List.getD (midQ (isNo c) M x2) x2 zeroM).ki, .int .i64 (List.getD (midQ (isNo c) M x2) x2 zeroM).sh, .int .i64 (List.getD (midQ (isNo c) M x2) x2 zeroM).ce, .int .i64 (List.getD (midQ (isNo c) M x2) x2 zeroM).va], .pointer (some ⟨1, 0, none⟩)] H' [] (Is (.bool (notNo c (List.getD (midQ (isNo c) M x2) x2 zeroM))) H')) /\ (((!(notNo c (List.getD (midQ (isNo c) M x2) x2 zeroM))) = true -> (((0 : Int) <= (((List.length (keepQ (isNo c) M x2)) : Nat) : Int) /\ ((((List.length (keepQ (isNo c) M x2)) : Nat) : Int) : Int) < (((List.length M) : Nat) : Int)) /\ (((0 + Int.toNat (((List.length (keepQ (isNo c) M x2)) : Nat) : Int) * 7) + 7 <= List.length (List.flatMap msgC (midQ (isNo c) M x2))) /\ true = true /\ ((.int .i64 (IntKind.wrap .i64 ((((List.length (keepQ (isNo c) M x2)) : Nat) : Int) + 1)) : Value) = .int .i64 ((((List.length (keepQ (isNo c) M x2)) : Nat) : Int) + 1) /\ ((.int .i64 (IntKind.wrap .i64 (((x2 : Nat) : Int) + 1)) : Value) = .int .i64 (((x2 : Nat) : Int) + 1) /\ (∃ x2' : Nat, (x2' <= List.length M /\ (List.length (keepQ (isNo c) M x2')) < x2') /\ (List.length M - x2') < (List.length M - x2) /\ true = true /\ ((.int .i64 (((x2 : Nat) : Int) + 1) : Value) = .int .i64 ((x2' : Nat) : Int) /\ (.int .i64 ((((List.length (keepQ (isNo c) M x2)) : Nat) : Int) + 1) : Value) = .int .i64 (((List.length (keepQ (isNo c) M x2')) : Nat) : Int) /\ (.func (.func 103) #[] #[.pointer (some ⟨1, 0, none⟩)] : Value) = .func (.func 103) #[] #[.pointer (some ⟨1, 0, none⟩)] /\ wk (.slice (some ⟨0, 0, some 2⟩) (List.length M) (List.length M) : Value) (.slice (some ⟨0, 0, some 2⟩) (List.length M) (List.length M) : Value) /\ (.slice none 0 0 : Value) = .slice none 0 0 /\ True) /\ ((some (.cells true 7 (setl (List.flatMap msgC (midQ (isNo c) M x2)) (0 + Int.toNat (((List.length (keepQ (isNo c) M x2)) : Nat) : Int) * 7) [.int .i64 (List.getD (midQ (isNo c) M x2) x2 zeroM).au, .int .i64 (List.getD (midQ (isNo c) M x2) x2 zeroM).nu, .int .i64 (List.getD (midQ (isNo c) M x2) x2 zeroM).at_, .int .i64 (List.getD (midQ (isNo c) M x2) x2 zeroM).ki, .int .i64 (List.getD (midQ (isNo c) M x2) x2 zeroM).sh, .int .i64 (List.getD (midQ (isNo c) M x2) x2 zeroM).ce, .int .i64 (List.getD (midQ (isNo c) M x2) x2 zeroM).va]) : KObj) = some (.cells true 7 (List.flatMap msgC (midQ (isNo c) M x2')) : KObj) /\ belowO 2 (.cells true 7 (List.flatMap msgC (midQ (isNo c) M x2')) : KObj) = true) /\ True) /\ (True) /\ (True))))))) /\ ((!(notNo c (List.getD (midQ (isNo c) M x2) x2 zeroM))) = false -> ((.int .i64 (IntKind.wrap .i64 (((x2 : Nat) : Int) + 1)) : Value) = .int .i64 (((x2 : Nat) : Int) + 1) /\ (∃ x2' : Nat, (x2' <= List.length M /\ (List.length (keepQ (isNo c) M x2')) < x2') /\ (List.length M - x2') < (List.length M - x2) /\ true = true /\ ((.int .i64 (((x2 : Nat) : Int) + 1) : Value) = .int .i64 ((x2' : Nat) : Int) /\ (.int .i64 (((List.length (keepQ (isNo c) M x2)) : Nat) : Int) : Value) = .int .i64 (((List.length (keepQ (isNo c) M x2')) : Nat) : Int) /\ (.func (.func 103) #[] #[.pointer (some ⟨1, 0, none⟩)] : Value) = .func (.func 103) #[] #[.pointer (some ⟨1, 0, none⟩)] /\ wk (.slice (some ⟨0, 0, some 2⟩) (List.length M) (List.length M) : Value) (.slice (some ⟨0, 0, some 2⟩) (List.length M) (List.length M) : Value) /\ (.slice none 0 0 : Value) = .slice none 0 0 /\ True) /\ ((some (.cells true 7 (List.flatMap msgC (midQ (isNo c) M x2)) : KObj) = some (.cells true 7 (List.flatMap msgC (midQ (isNo c) M x2')) : KObj) /\ belowO 2 (.cells true 7 (List.flatMap msgC (midQ (isNo c) M x2')) : KObj) = true) /\ True) /\ (True) /\ (True))))))))) /\ ((decide ((((x2 : Nat) : Int) : Int) < (((List.length M) : Nat) : Int))) = false -> ((((true = false ∨ 7 = 0 ∨ 7 = 7) /\ (List.length M) <= (List.length M)) /\ ((List.length M) <= (List.length M)) /\ ((0 : Int) <= (((List.length (keepQ (isNo c) M x2)) : Nat) : Int) /\ ((((List.length (keepQ (isNo c) M x2)) : Nat) : Int) : Int) <= (((List.length M) : Nat) : Int))) /\ ((.slice (some ⟨0, (0 + (Int.toNat (((List.length (keepQ (isNo c) M x2)) : Nat) : Int)) * 7), some 2⟩) ((List.length M) - (Int.toNat (((List.length (keepQ (isNo c) M x2)) : Nat) : Int))) ((List.length M) - (Int.toNat (((List.length (keepQ (isNo c) M x2)) : Nat) : Int))) : Value) = .slice (some ⟨0, (0 + (Int.toNat (((List.length (keepQ (isNo c) M x2)) : Nat) : Int)) * 7), some 2⟩) ((List.length M) - (List.length (keepQ (isNo c) M x2))) ((List.length M) - (List.length (keepQ (isNo c) M x2))) /\ (((0 + (Int.toNat (((List.length (keepQ (isNo c) M x2)) : Nat) : Int)) * 7) + ((List.length M) - (List.length (keepQ (isNo c) M x2))) * 7 <= List.length (List.flatMap msgC (midQ (isNo c) M x2))) /\ true = true /\ ((((true = false ∨ 7 = 0 ∨ 7 = 7) /\ (Int.toNat (((List.length (keepQ (isNo c) M x2)) : Nat) : Int)) <= (List.length M)) /\ ((0 : Int) <= (((List.length (keepQ (isNo c) M x2)) : Nat) : Int) /\ ((((List.length (keepQ (isNo c) M x2)) : Nat) : Int) : Int) <= (((List.length M) : Nat) : Int)) /\ (0 <= (Int.toNat (((List.length (keepQ (isNo c) M x2)) : Nat) : Int)))) /\ ((.slice (some ⟨0, 0, some 2⟩) ((Int.toNat (((List.length (keepQ (isNo c) M x2)) : Nat) : Int)) - 0) ((Int.toNat (((List.length (keepQ (isNo c) M x2)) : Nat) : Int)) - 0) : Value) = .slice (some ⟨0, 0, some 2⟩) (List.length (keepQ (isNo c) M x2)) (List.length (keepQ (isNo c) M x2)) /\ (true = true /\ wk (.slice (some ⟨0, 0, some 2⟩) (List.length (keepQ (isNo c) M x2)) (List.length (keepQ (isNo c) M x2)) : Value) (rn (sg 2 []) 3 (.slice (some ⟨0, 0, some 2⟩) (List.length (M.filter (isNo c))) (List.length (M.filter (isNo c))) : Value)) /\ ((some (.cells true 7 (setl (List.flatMap msgC (midQ (isNo c) M x2)) (0 + (Int.toNat (((List.length (keepQ (isNo c) M x2)) : Nat) : Int)) * 7) (krep [.int .i64 0, .int .i64 0, .int .i64 0, .int .i64 0, .int .i64 0, .int .i64 0, .int .i64 0] ((List.length M) - (List.length (keepQ (isNo c) M x2))))) : KObj) = some (.cells true 7 (List.flatMap msgC (delQ (isNo c) M)) : KObj) /\ belowO 2 (.cells true 7 (List.flatMap msgC (delQ (isNo c) M)) : KObj) = true) /\ True) /\ (True)))))))))))))) /\ ((notNo c (List.getD M x0 zeroM)) = false -> ((.int .i64 (IntKind.wrap .i64 (((x0 : Nat) : Int) + 1)) : Value) = .int .i64 (((x0 : Nat) : Int) + 1) /\ (∃ x0' : Nat, (x0' <= List.length M /\ (List.take x0' M).all (isNo c) = true) /\ (List.length M - x0') < (List.length M - x0) /\ true = true /\ ((.int .i64 (((x0 : Nat) : Int) + 1) : Value) = .int .i64 ((x0' : Nat) : Int) /\ (.func (.func 103) #[] #[.pointer (some ⟨1, 0, none⟩)] : Value) = .func (.func 103) #[] #[.pointer (some ⟨1, 0, none⟩)] /\ wk (.slice (some ⟨0, 0, some 2⟩) (List.length M) (List.length M) : Value) (.slice (some ⟨0, 0, some 2⟩) (List.length M) (List.length M) : Value) /\ (.int .i64 (((List.length M) : Nat) : Int) : Value) = .int .i64 (((List.length M) : Nat) : Int) /\ True) /\ (True) /\ (True) /\ (True))))))))) /\ ((decide ((((x0 : Nat) : Int) : Int) < (((List.length M) : Nat) : Int))) = false -> (true = true /\ wk (.slice (some ⟨0, 0, some 2⟩) (List.length M) (List.length M) : Value) (rn (sg 2 []) 3 (.slice (some ⟨0, 0, some 2⟩) (List.length (M.filter (isNo c))) (List.length (M.filter (isNo c))) : Value)) /\ ((some (.cells true 7 (List.flatMap msgC M) : KObj) = some (.cells true 7 (List.flatMap msgC (delQ (isNo c) M)) : KObj) /\ belowO 2 (.cells true 7 (List.flatMap msgC (delQ (isNo c) M)) : KObj) = true) /\ True) /\ (True)))))
theorem EdelN (M : List Msg) (c : Int) : vF prog msk (dm 0) 100000 true 40 true 94 [.slice (some ⟨0, 0, some 2⟩) (List.length M) (List.length M), .func (.func 103) #[] #[.pointer (some ⟨1, 0, none⟩)]] (readsW 0 7 (M.flatMap msgC) [[.int .i64 c]]) (some [0])
 (.go 7 (.inv 3 (Nat) (0) [] [] (fun x0 => [(8, .int .i64 ((x0 : Nat) : Int)), (1, .func (.func 103) #[] #[.pointer (some ⟨1, 0, none⟩)]), (0, .slice (some ⟨0, 0, some 2⟩) (List.length M) (List.length M)), (7, .int .i64 (((List.length M) : Nat) : Int))]) (fun x0 => []) (fun x0 => []) (fun x0 => []) (fun x0 => (x0 <= List.length M /\ (List.take x0 M).all (isNo c) = true)) (fun x0 => (List.length M - x0)) (fun x0 => .go 0 (.fork (.go 4 (.need (.val (.agg #[.int .i64 (List.getD M x0 zeroM).au, .int .i64 (List.getD M x0 zeroM).nu, .int .i64 (List.getD M x0 zeroM).at_, .int .i64 (List.getD M x0 zeroM).ki, .int .i64 (List.getD M x0 zeroM).sh, .int .i64 (List.getD M x0 zeroM).ce, .int .i64 (List.getD M x0 zeroM).va]) (.ans [(1, .cells false 0 [.int .i64 c])] (.bool (notNo c (List.getD M x0 zeroM))) [] (.fork (.go 4 (.fork (.go 1 (.keep (.again []))) (.go 1 (.slot 15 (.int .i64 (((x0 : Nat) : Int) + 1)) (.go 0 (.inv 3 (Nat) ((x0 + 1)) [] [0] (fun x2 => [(6, .int .i64 ((x2 : Nat) : Int)), (5, .int .i64 (((List.length (keepQ (isNo c) M x2)) : Nat) : Int)), (1, .func (.func 103) #[] #[.pointer (some ⟨1, 0, none⟩)]), (0, .slice (some ⟨0, 0, some 2⟩) (List.length M) (List.length M)), (4, .slice none 0 0)]) (fun x2 => [(0, true, .cells true 7 (List.flatMap msgC (midQ (isNo c) M x2)))]) (fun x2 => []) (fun x2 => []) (fun x2 => (x2 <= List.length M /\ (List.length (keepQ (isNo c) M x2)) < x2)) (fun x2 => (List.length M - x2)) (fun x2 => .go 3 (.fork (.go 1 (.need (.val (.agg #[.int .i64 (List.getD (midQ (isNo c) M x2) x2 zeroM).au, .int .i64 (List.getD (midQ (isNo c) M x2) x2 zeroM).nu, .int .i64 (List.getD (midQ (isNo c) M x2) x2 zeroM).at_, .int .i64 (List.getD (midQ (isNo c) M x2) x2 zeroM).ki, .int .i64 (List.getD (midQ (isNo c) M x2) x2 zeroM).sh, .int .i64 (List.getD (midQ (isNo c) M x2) x2 zeroM).ce, .int .i64 (List.getD (midQ (isNo c) M x2) x2 zeroM).va]) (.go 3 (.ans [(1, .cells false 0 [.int .i64 c])] (.bool (notNo c (List.getD (midQ (isNo c) M x2) x2 zeroM))) [] (.go 0 (.fork (.go 2 (.need (.need (.go 1 (.slot 35 (.int .i64 ((((List.length (keepQ (isNo c) M x2)) : Nat) : Int) + 1)) (.go 2 (.slot 21 (.int .i64 (((x2 : Nat) : Int) + 1)) (.go 0 (.again []))))))))) (.go 1 (.slot 21 (.int .i64 (((x2 : Nat) : Int) + 1)) (.go 0 (.again []))))))))))) (.go 1 (.need (.slot 38 (.slice (some ⟨0, (0 + (Int.toNat (((List.length (keepQ (isNo c) M x2)) : Nat) : Int)) * 7), some 2⟩) ((List.length M) - (List.length (keepQ (isNo c) M x2))) ((List.length M) - (List.length (keepQ (isNo c) M x2)))) (.need (.go 1 (.need (.slot 41 (.slice (some ⟨0, 0, some 2⟩) (List.length (keepQ (isNo c) M x2)) (List.length (keepQ (isNo c) M x2))) (.go 0 (.keep (.again [])))))))))))))))))) (.go 0 (.slot 18 (.int .i64 (((x0 : Nat) : Int) + 1)) (.go 0 (.again []))))))))) (.go 6 (.keep (.again [])))))))
 (newKW ((readsW 0 7 (M.flatMap msgC) [[.int .i64 c]]) : HT).n 3 0 (.cells true 7 (List.flatMap msgC (delQ (isNo c) M))) (.slice (some ⟨0, 0, some 2⟩) (List.length (M.filter (isNo c))) (List.length (M.filter (isNo c)))) []) = RdelN M c := by kernel_rfl
end
end Go.Proofs.YtbgfjemppjhmjaaGreat
/- Functions that write one block and answer with a list in it. No condition. -/
namespace Go.K
set_option linter.unusedSimpArgs false
open Go
set_option linter.unusedVariables false
noncomputable section
attribute [local irreducible] vF
variable {P : Program}
theorem KCall.writesG {f : FuncId} {args : List Value} {H0 H new : Heap} {v V : Value} {σ : Nat -> Option Nat} {d k D z : Nat} {c0 c1 : List Value} (hp : ReadsW P H0 H σ d k D (.cells true z c0)) (h : KCall P f args H0 [k] (Is v (H0.set k (.cells true z c1) ++ new)))
  (h1p : c1.all (belowC 0) = true) (hV : ∀ (ρ1 ρ2 : Ren) (x : Value), (∀ r, ρ1 k = some r -> ρ2 D = some r) -> VR ρ1 v x -> VR ρ2 V x) (hn : new.all (fun o => rnoOk d o && o.owned) = true) (hn2 : new.map (rno (sgOnly H0.length) d) = new) :
  KCall P f (args.map (rn σ d)) H [D] (Is V (H.set D (.cells true z c1) ++ new.map (rno (sgUp H0.length H.length) d))) := by
 refine ⟨h.1, fun B ρ w args' hr ha => ?_⟩
 let ρs : Ren := ⟨fun id => (σ id).bind fun id' => (ρ id').map fun r => if id = k then r else ⟨r.b, r.s, r.n, 0, false⟩, ρ.mem, fun F k => (σ F).bind fun F' => ρ.g F' k⟩
 have hσ : ∀ id id' r, σ id = some id' -> ρ id' = some r -> ρs id = some (if id = k then r else ⟨r.b, r.s, r.n, 0, false⟩) := by
  intro id id' r h1 h2; show Option.bind _ _ = _; rw [h1]; show Option.map _ _ = _; rw [h2]; rfl
 have hσd : ∀ id id' r, σ id = some id' -> ρ id' = some r -> ∃ r', ρs id = some r' /\ r'.b = r.b /\ r'.s = r.s /\ (r'.own = false ∨ r' = r) := fun id id' r h1 h2 => by
  refine ⟨_, hσ _ _ _ h1 h2, ?_⟩
  split
  ·exact ⟨rfl, rfl, .inr rfl⟩
  ·exact ⟨rfl, rfl, .inl rfl⟩
 have hσg : ∀ F F' k r, σ F = some F' -> ρ.g F' k = some r -> ρs.g F k = some r := by intro F F' k r h1 h2; show Option.bind _ _ = _; rw [h1]; exact h2
 have hsomeg : ∀ {F k r}, ρs.g F k = some r -> ∃ F', σ F = some F' /\ ρ.g F' k = some r := fun h => Option.bind_eq_some_iff.1 h
 have hnf0 : ∀ {F : Nat} {z : Nat} {cs : List Value}, H0[F]? = some (.fam z cs) -> False := fun {F z' cs} mh => by
  by_cases e : F = k
  ·have := mh; rw [e, hp.k0] at this; cases this
  ·rcases hp.obj F _ e mh with h | ⟨_, h⟩ <;> cases h
 have hnf : ∀ {F k r z cs}, FM ρs H0 F k r z cs -> False := fun m => hnf0 m.h
 have hsome : ∀ {id r}, ρs id = some r -> ∃ id' r0, σ id = some id' /\ ρ id' = some r0 /\ r = if id = k then r0 else ⟨r0.b, r0.s, r0.n, 0, false⟩ := by
  intro id r h
  obtain ⟨id', h1, h2⟩ := Option.bind_eq_some_iff.1 h
  obtain ⟨r0, h3, h4⟩ := Option.map_eq_some_iff.1 h2
  exact ⟨id', r0, h1, h3, h4.symm⟩
 have hsk : ∀ {r}, ρs k = some r -> ρ D = some r := fun {r} h => by
  obtain ⟨id', r0, h1, h2, h3⟩ := hsome h
  rw [if_pos rfl] at h3
  subst h3
  rw [hp.hk] at h1; cases h1; exact h2
 have hown : ∀ (id : Nat) (o : KObj), H0[id]? = some o -> o.owned = true -> id = k := by
  intro id o h1 h2
  by_cases e : id = k
  ·exact e
  ·rcases hp.obj id o e h1 with rfl | ⟨cs, rfl⟩ <;> cases h2
 have hDo : (KObj.cells true z c0).owned = true := rfl
 have hoth : ∀ {id r o rD}, id ≠ k -> ρs id = some r -> H0[id]? = some o -> o.alive = true -> ρ D = some rD -> rD.b ≠ r.b := fun {id r o rD} e h1 h2 h3 h4 => by
  rcases hp.obj id o e h2 with rfl | ⟨cs, rfl⟩
  ·cases h3
  ·obtain ⟨id', r0, k1, k2, rfl⟩ := hsome h1
   obtain ⟨own, z', g⟩ := hp.rd id id' cs k1 h2
   rw [if_neg e]
   exact hr.sep D id' rD r0 _ _ h4 k2 hp.hD g hDo rfl (fun q => hp.ne id cs h2 (by rw [k1, q]))
 have hr0 : Rel P B ρs H0 w := by
  refine ⟨hr.bsize, fun g hg => ?_, fun id r h => ?_, fun id r h => ?_, fun id r o h1 h2 => ?_, fun id r o h1 h2 h3 => ?_, fun id1 id2 r1 r2 o1 o2 h1 h2 g1 g2 k1 k2 hne => ?_, fun b m hb => ⟨(hr.mem b m hb).1, fun id r o h1 h2 h3 => ?_⟩,
   ⟨fun F k r h => by obtain ⟨F', k1, _⟩ := hsomeg h; exact hp.dom _ _ k1, fun F k r h => by obtain ⟨F', _, k2⟩ := hsomeg h; exact hr.fam.lt _ _ _ k2, fun _ _ _ _ _ m => (hnf m).elim, fun _ _ _ _ _ m => (hnf m).elim, fun _ _ _ _ _ _ _ _ _ _ m => (hnf m).elim, fun _ _ _ _ _ _ _ _ m => (hnf m).elim, fun _ _ _ _ _ _ _ m => (hnf m).elim, fun _ _ _ _ _ h => (hnf0 h).elim⟩⟩
  ·obtain ⟨r, k1, k2, k3⟩ := hr.glob g hg
   refine ⟨_, hσ g g r (hp.glob g hg) k1, ?_⟩
   split
   ·exact ⟨k2, k3⟩
   ·exact ⟨k2, k3⟩
  ·obtain ⟨id', r0, h1, _, _⟩ := hsome h; exact hp.dom _ _ h1
  ·obtain ⟨id', r0, _, h2, rfl⟩ := hsome h
   have := hr.lt id' r0 h2
   split <;> exact this
  ·by_cases e : id = k
   ·subst e
    rw [hp.k0] at h2; cases h2
    exact plain_obj (ρ := ρ) (ρ' := ρs) (fun _ _ h => h) hp.pl (hr.obj D r _ (hsk h1) hp.hD)
   ·obtain ⟨id', r0, k1, k2, rfl⟩ := hsome h1
    rw [if_neg e]
    rcases hp.obj id o e h2 with rfl | ⟨cs, rfl⟩
    ·trivial
    ·obtain ⟨own, z, g⟩ := hp.rd id id' cs k1 h2
     obtain ⟨e1, e2, cs', ty, fz, hb, hnz, hfz, hcs⟩ := hr.obj _ _ _ k2 g
     refine ⟨rfl, rfl, cs', ty, fz, hb, hnz, fun h => (by cases h), fun i x hx => ?_⟩
     obtain ⟨x', y1, y2⟩ := hcs i (rn σ d x) (by rw [List.getElem?_map, hx]; rfl)
     exact ⟨x', y1, rn_VRw hσd (fun _ _ h => h) hσg d y2⟩
  ·obtain rfl := hown id o h2 h3
   exact hr.base D r _ (hsk h1) hp.hD hDo
  ·obtain rfl := hown id1 o1 g1 k1
   exact hoth (Ne.symm hne) h2 g2 k2 (hsk h1)
  ·obtain rfl := hown id o h2 h3
   exact (hr.mem b m hb).2 D r _ (hsk h1) hp.hD hDo
 have ha0 : VRl ρs args args'.toList := ⟨by have := ha.1; simpa using this, fun i x x' a b => rn_VRw hσd (fun _ _ h => h) hσg d (ha.2 i (rn σ d x) x' (by rw [List.getElem?_map, a]; rfl) b)⟩
 refine (h.2 B ρs w args' hr0 ha0).mono ?_
 rintro e w' ⟨v1, v', ρ1, H1, rfl, hv', hpost, rfl, rfl⟩
 have hkl : k < H0.length := (List.getElem?_eq_some_iff.1 hp.k0).1
 have hDl : D < H.length := (List.getElem?_eq_some_iff.1 hp.hD).1
 have h1k : (H0.set k (.cells true z c1) ++ new)[k]? = some (.cells true z c1) := by
  rw [List.getElem?_append_left (by simpa using hkl), List.getElem?_set_self hkl]
 have h1o : ∀ i, i < H0.length -> i ≠ k -> (H0.set k (.cells true z c1) ++ new)[i]? = H0[i]? := fun i hi e => by
  rw [List.getElem?_append_left (by simpa using hi), List.getElem?_set_ne (Ne.symm e)]
 have h1n : ∀ i, H0.length <= i -> (H0.set k (.cells true z c1) ++ new)[i]? = new[i - H0.length]? := fun i hi => by
  rw [List.getElem?_append_right (by simpa using hi)]; simp
 have hOBk : ∀ b, OB ρs H0 b -> ∃ rD, ρ D = some rD /\ ρs k = some rD /\ rD.b = b := fun b h => h.elim (fun ⟨id, r, o, h1, h2, h3, h4⟩ => by
   obtain rfl := hown id o h2 h3
   exact ⟨r, hsk h1, h1, h4⟩) (fun ⟨_, _, _, _, _, m, _⟩ => (hnf m).elim)
 have hOB : ∀ b, OB ρs H0 b -> OB ρ H b := fun b h => by
  obtain ⟨rD, h1, _, h2⟩ := hOBk b h
  exact .inl ⟨D, rD, _, h1, hp.hD, hDo, h2⟩
 let ρ2 : Ren := ⟨fun id => if id < H.length then ρ id else ρ1 (H0.length + (id - H.length)), ρ1.mem, fun F k => if F < H.length then ρ.g F k else ρ1.g (H0.length + (F - H.length)) k⟩
 let ρn : Ren := ⟨fun id => if id < H0.length then none else ρ1 id, ρ1.mem, fun F k => if F < H0.length then none else ρ1.g F k⟩
 have hn1 : ∀ id id' r, sgOnly H0.length id = some id' -> ρ1 id' = some r -> ρn id = some r := by
  intro id id' r h1 h2
  unfold sgOnly at h1
  split at h1
  ·cases h1
  ·rename_i hlt; cases h1; show (if _ then _ else _) = _; rw [if_neg hlt]; exact h2
 have hn1g : ∀ F F' k r, sgOnly H0.length F = some F' -> ρ1.g F' k = some r -> ρn.g F k = some r := by
  intro F F' k r h1 h2
  unfold sgOnly at h1
  split at h1
  ·cases h1
  ·rename_i hlt; cases h1; show (if _ then _ else _) = _; rw [if_neg hlt]; exact h2
 have hfwdg : ∀ F k r, ρn.g F k = some r -> ∃ F', sgUp H0.length H.length F = some F' /\ ρ2.g F' k = some r := by
  intro F k r h1
  have h1' : (if F < H0.length then none else ρ1.g F k) = some r := h1
  split at h1'
  ·cases h1'
  ·rename_i hlt
   refine ⟨_, if_neg hlt, ?_⟩
   show (if _ then _ else _) = _
   rw [if_neg (by omega), show H0.length + (H.length + (F - H0.length) - H.length) = F by omega]; exact h1'
 have hfwd : ∀ id r, ρn id = some r -> ∃ id', sgUp H0.length H.length id = some id' /\ ρ2 id' = some r := by
  intro id r h1
  have h1' : (if id < H0.length then none else ρ1 id) = some r := h1
  split at h1'
  ·cases h1'
  ·rename_i hlt
   refine ⟨_, if_neg hlt, ?_⟩
   show (if _ then _ else _) = _
   rw [if_neg (by omega), show H0.length + (H.length + (id - H0.length) - H.length) = id by omega]; exact h1'
 have hext : Ren.le ρ ρ2 := ⟨fun id r h1 => by
  show (if _ then _ else _) = _
  rw [if_pos (hr.dom _ _ h1)]; exact h1, hpost.ext.mem, fun F k r h1 => by
  show (if _ then _ else _) = _
  rw [if_pos (hr.fam.dom _ _ _ h1)]; exact h1⟩
 have hnew : ∀ (k : Nat) (o : KObj), new[k]? = some o -> rnoOk d o = true /\ o.owned = true /\ rno (sgOnly H0.length) d o = o := by
  intro k o hk
  rw [List.all_eq_true] at hn
  have := hn o (List.mem_of_getElem? hk)
  simp only [Bool.and_eq_true] at this
  refine ⟨this.1, this.2, ?_⟩
  have h3 : (new.map (rno (sgOnly H0.length) d))[k]? = some o := by rw [hn2]; exact hk
  rw [List.getElem?_map, hk] at h3
  exact Option.some.inj h3
 have hoa : ∀ o : KObj, o.owned = true -> o.alive = true := by intro o ho; cases o <;> first | rfl | cases ho
 have hfresh : ∀ id r o, H0.length <= id -> ρ1 id = some r -> new[id - H0.length]? = some o -> w.heap.size <= r.b := by
  intro id r o hid h1 h2
  have ho : o.owned = true := (hnew _ _ h2).2.1
  rcases Nat.lt_or_ge r.b w.heap.size with hlt | hge
  ·obtain ⟨rD, k1, k2, k3⟩ := hOBk _ (hpost.ob r.b hlt (.inl ⟨id, r, o, h1, by rw [h1n id hid]; exact h2, ho, rfl⟩))
   exact absurd k3 (hpost.rel.sep k id rD r _ o (hpost.ext _ _ k2) h1 h1k (by rw [h1n id hid]; exact h2) rfl (hoa _ ho) (by omega))
  ·exact hge
 have hgetD : (H.set D (.cells true z c1) ++ new.map (rno (sgUp H0.length H.length) d))[D]? = some (.cells true z c1) := by
  rw [List.getElem?_append_left (by simpa using hDl), List.getElem?_set_self hDl]
 have hgeto : ∀ id, id < H.length -> id ≠ D -> (H.set D (.cells true z c1) ++ new.map (rno (sgUp H0.length H.length) d))[id]? = H[id]? := fun id hid e => by
  rw [List.getElem?_append_left (by simpa using hid), List.getElem?_set_ne (Ne.symm e)]
 have hback : ∀ id o, id < H.length -> (H.set D (.cells true z c1) ++ new.map (rno (sgUp H0.length H.length) d))[id]? = some o -> ∃ o', H[id]? = some o' /\ o'.owned = o.owned /\ o'.alive = o.alive := fun id o hid h2 => by
  by_cases e : id = D
  ·subst e
   rw [hgetD] at h2; cases h2
   exact ⟨_, hp.hD, rfl, rfl⟩
  ·rw [hgeto id hid e] at h2; exact ⟨o, h2, rfl, rfl⟩
 have hgetn : ∀ id o', H.length <= id -> (H.set D (.cells true z c1) ++ new.map (rno (sgUp H0.length H.length) d))[id]? = some o' -> ∃ o, new[id - H.length]? = some o /\ o' = rno (sgUp H0.length H.length) d o /\ rnoOk d o = true /\ o.owned = true /\ rno (sgOnly H0.length) d o = o := by
  intro id o' hid h2
  rw [List.getElem?_append_right (by simpa using hid), List.getElem?_map, List.length_set] at h2
  obtain ⟨o, a1, rfl⟩ := Option.map_eq_some_iff.1 h2
  obtain ⟨x1, x2, x3⟩ := hnew _ _ a1
  exact ⟨o, a1, rfl, x1, x2, x3⟩
 have hVk : ∀ r, ρ1 k = some r -> ρ2 D = some r := fun r h1 => by
  show (if _ then _ else _) = _
  rw [if_pos hDl]
  cases hs : ρs k with
  | none => exact absurd (hpost.new k r h1 hs) (by omega)
  | some r' =>
   have := hpost.ext _ _ hs
   rw [h1] at this; cases this
   exact hsk hs
 refine ⟨_, v', ρ2, _, rfl, hV ρ1 ρ2 v' hVk hv', ?_, rfl, rfl⟩
 have fr : ∀ id r o, ¬ id < H.length -> ρ1 (H0.length + (id - H.length)) = some r -> (H.set D (.cells true z c1) ++ new.map (rno (sgUp H0.length H.length) d))[id]? = some o -> w.heap.size <= r.b := by
  intro id r o hid a b
  obtain ⟨o0, a1, _, _, _, _⟩ := hgetn id o (by omega) b
  exact hfresh _ r o0 (by omega) a (by rw [show H0.length + (id - H.length) - H0.length = id - H.length by omega]; exact a1)
 have u : ∀ id, ρ2 id = if id < H.length then ρ id else ρ1 (H0.length + (id - H.length)) := fun _ => rfl
 have hnob : ∀ id r o, ρ id = some r -> H[id]? = some o -> o.alive = true -> id ≠ D -> ¬ OB ρs H0 r.b := fun id r o a b c e q => by
  obtain ⟨rD, k1, _, k3⟩ := hOBk _ q
  exact hr.sep D id rD r _ o k1 a hp.hD b hDo c (Ne.symm e) k3
 have hfm2 : ∀ {F k r z' cs}, ρ2.g F k = some r -> (H.set D (.cells true z c1) ++ new.map (rno (sgUp H0.length H.length) d))[F]? = some (.fam z' cs) -> ρ.g F k = some r /\ H[F]? = some (.fam z' cs) := fun {F k r z' cs} mg mh => by
  have h1 : (if F < H.length then ρ.g F k else ρ1.g (H0.length + (F - H.length)) k) = some r := mg
  rcases Nat.lt_or_ge F H.length with h | h
  ·rw [if_pos h] at h1
   refine ⟨h1, ?_⟩
   by_cases e : F = D
   ·have := mh; rw [e, hgetD] at this; cases this
   ·rw [<- hgeto F h e]; exact mh
  ·obtain ⟨o, _, e, g1, g2, _⟩ := hgetn F _ h mh
   cases o <;> first | (cases g1; done) | (cases g2; done) | (cases e; done)
 have hfm : ∀ {F k r z' cs}, FM ρ2 (H.set D (.cells true z c1) ++ new.map (rno (sgUp H0.length H.length) d)) F k r z' cs -> FM ρ H F k r z' cs := fun m => ⟨(hfm2 m.g m.h).1, (hfm2 m.g m.h).2, m.a⟩
 have hfam : FRel B ρ2 (H.set D (.cells true z c1) ++ new.map (rno (sgUp H0.length H.length) d)) w' := by
  refine ⟨fun F k r h1 => ?_, fun F k r h1 => ?_, fun F k r z cs m => hr.fam.base _ _ _ _ _ (hfm m), fun F k r z cs m => (hr.fam.obj _ _ _ _ _ (hfm m)).mono hext (hpost.keep _ (hr.fam.lt _ _ _ (hfm m).g) (fun q => ?_)),
   fun F k r z cs F' k' r' z' cs' m m' => hr.fam.sep _ _ _ _ _ _ _ _ _ _ (hfm m) (hfm m'), fun F k r z cs id r' o m h1 h2 h3 => ?_, fun F k r z cs b m' m hb => ?_, fun F k r cs h1 h2 => hr.fam.cnt F k r cs (hfm2 h1 h2).1 (hfm2 h1 h2).2⟩
  ·have h1 : (if F < H.length then ρ.g F k else ρ1.g (H0.length + (F - H.length)) k) = some r := h1
   rcases Nat.lt_or_ge F H.length with h | h
   ·simp; omega
   ·rw [if_neg (by omega)] at h1
    have := hpost.rel.fam.dom _ _ _ h1
    simp at this ⊢; omega
  ·have h1 : (if F < H.length then ρ.g F k else ρ1.g (H0.length + (F - H.length)) k) = some r := h1
   rcases Nat.lt_or_ge F H.length with h | h
   ·rw [if_pos h] at h1
    exact Nat.lt_of_lt_of_le (hr.fam.lt _ _ _ h1) hpost.size
   ·rw [if_neg (by omega)] at h1
    exact hpost.rel.fam.lt _ _ _ h1
  ·obtain ⟨rD, k1, _, k3⟩ := hOBk _ q
   exact hr.fam.sep2 _ _ _ _ _ D rD _ (hfm m) k1 hp.hD rfl k3
  ·rw [u] at h1
   rcases Nat.lt_or_ge id H.length with h | h
   ·rw [if_pos h] at h1
    obtain ⟨o', b1, _, b3⟩ := hback id o h h2
    exact hr.fam.sep2 _ _ _ _ _ id r' o' (hfm m) h1 b1 (by rw [b3]; exact h3)
   ·rw [if_neg (by omega)] at h1
    have := fr id r' o (by omega) h1 h2
    have := hr.fam.lt _ _ _ (hfm m).g
    omega
  ·have hb : ρ1.mem b = some m' := hb
   rcases hpost.frz b m' hb with g | g | g
   ·exact hr.fam.mem _ _ _ _ _ b m' (hfm m) g
   ·have := hr.fam.lt _ _ _ (hfm m).g; omega
   ·obtain ⟨rD, k1, _, k3⟩ := hOBk _ g
    exact fun q => hr.fam.sep2 _ _ _ _ _ D rD _ (hfm m) k1 hp.hD rfl (k3.trans q.symm)
 refine ⟨⟨Nat.le_trans hr.bsize hpost.size, fun g hg => ?_, fun id r h1 => ?_, fun id r h1 => ?_, fun id r o h1 h2 => ?_, fun id r o h1 h2 h3 => ?_, fun id1 id2 r1 r2 o1 o2 h1 h2 g1 g2 k1 k2 hne => ?_, fun b m hb => ⟨(hpost.rel.mem b m hb).1, fun id r o h1 h2 h3 => ?_⟩, hfam⟩, hext, fun id r h1 h2 => ?_, by simp, fun id h1 h2 => hgeto id h1 (fun e => h2 (by rw [e]; exact List.mem_singleton.2 rfl)), hpost.size, fun b h1 h2 => hpost.keep b h1 (fun q => h2 (hOB b q)), fun b h1 h2 => ?_, hpost.os, hpost.tape, hpost.output, fun b m hb => (hpost.frz b m hb).imp id fun h => h.imp id (hOB b), hpost.drawn, fun F k r h1 h2 => .inl (by
  have h1 : (if F < H.length then ρ.g F k else ρ1.g (H0.length + (F - H.length)) k) = some r := h1
  rcases Nat.lt_or_ge F H.length with h | h
  ·rw [if_pos h, h2] at h1; cases h1
  ·exact h)⟩
 ·obtain ⟨r, k1, k2, k3⟩ := hr.glob g hg; exact ⟨r, hext _ _ k1, k2, k3⟩
 ·rw [u] at h1
  split at h1
  ·rw [List.length_append, List.length_set]; omega
  ·rename_i hid
   have := hpost.rel.dom _ _ h1
   rw [List.length_append, List.length_set] at this
   rw [List.length_append, List.length_map, List.length_set]; omega
 ·rw [u] at h1
  split at h1
  ·exact Nat.lt_of_lt_of_le (hr.lt _ _ h1) hpost.size
  ·exact hpost.rel.lt _ _ h1
 ·rw [u] at h1
  split at h1
  ·rename_i hid
   by_cases e : id = D
   ·subst e
    rw [hgetD] at h2; cases h2
    have hk1 : ρs k = some r := by have := hσ _ _ _ hp.hk h1; rw [if_pos rfl] at this; exact this
    exact plain_obj (ρ := ρ1) (ρ' := ρ2) (fun _ _ h => h) h1p (hpost.rel.obj k r _ (hpost.ext _ _ hk1) h1k)
   ·rw [hgeto id hid e] at h2
    cases hal : o.alive with
    | true => exact (hr.obj _ _ _ h1 h2).mono hext (hpost.keep _ (hr.lt _ _ h1) (hnob id r o h1 h2 hal e))
    | false => cases o <;> first | trivial | cases hal
  ·rename_i hid
   obtain ⟨o0, a1, rfl, a3, a4, a5⟩ := hgetn id o (by omega) h2
   have h6 := hpost.rel.obj _ _ _ h1 (show _ = some o0 by rw [h1n _ (by omega), show H0.length + (id - H.length) - H0.length = id - H.length by omega]; exact a1)
   rw [<- a5] at h6
   have hd : rno (sgOnly H0.length) d o0 = .dead -> o0 = .dead := fun he => by rw [a5] at he; exact he
   exact rel_rno hfwd (fun _ _ h => h) hfwdg a3 (rno_rel hn1 (fun _ _ h => h) hn1g h6 hd)
 ·rw [u] at h1
  split at h1
  ·rename_i hid
   obtain ⟨o', b1, b2, _⟩ := hback id o hid h2
   exact hr.base _ _ _ h1 b1 (by rw [b2]; exact h3)
  ·rename_i hid
   obtain ⟨o0, a1, _, a3, a4, _⟩ := hgetn id o (by omega) h2
   exact hpost.rel.base _ _ _ h1 (show _ = some o0 by rw [h1n _ (by omega), show H0.length + (id - H.length) - H0.length = id - H.length by omega]; exact a1) a4
 ·rw [u] at h1 h2
  by_cases c1' : id1 < H.length
  ·rw [if_pos c1'] at h1
   obtain ⟨p1, b1, b2, _⟩ := hback id1 o1 c1' g1
   by_cases c2 : id2 < H.length
   ·rw [if_pos c2] at h2
    obtain ⟨p2, d1, _, d3⟩ := hback id2 o2 c2 g2
    exact hr.sep id1 id2 r1 r2 p1 p2 h1 h2 b1 d1 (by rw [b2]; exact k1) (by rw [d3]; exact k2) hne
   ·rw [if_neg c2] at h2
    have := hr.lt _ _ h1
    have := fr id2 r2 o2 c2 h2 g2
    omega
  ·rw [if_neg c1'] at h1
   have f1 := fr id1 r1 o1 c1' h1 g1
   by_cases c2 : id2 < H.length
   ·rw [if_pos c2] at h2
    have := hr.lt _ _ h2
    omega
   ·rw [if_neg c2] at h2
    obtain ⟨p1, a1, _, _, a4, _⟩ := hgetn id1 o1 (by omega) g1
    obtain ⟨p2, b1, _, _, b4, _⟩ := hgetn id2 o2 (by omega) g2
    exact hpost.rel.sep _ _ r1 r2 p1 p2 h1 h2 (by rw [h1n _ (by omega), show H0.length + (id1 - H.length) - H0.length = id1 - H.length by omega]; exact a1) (by rw [h1n _ (by omega), show H0.length + (id2 - H.length) - H0.length = id2 - H.length by omega]; exact b1) a4 (hoa _ b4) (by omega)
 ·rw [u] at h1
  split at h1
  ·rename_i hid
   obtain ⟨o', b1, b2, _⟩ := hback id o hid h2
   intro he
   rcases hpost.frz b m hb with g | g | g
   ·exact (hr.mem b m g).2 id r o' h1 b1 (by rw [b2]; exact h3) he
   ·have := hr.lt _ _ h1; omega
   ·obtain ⟨rD, k1, k2, k3⟩ := hOBk _ g
    exact (hpost.rel.mem b m hb).2 k rD _ (hpost.ext _ _ k2) h1k rfl k3
  ·rename_i hid
   obtain ⟨o0, a1, _, a3, a4, _⟩ := hgetn id o (by omega) h2
   exact (hpost.rel.mem b m hb).2 _ r o0 h1 (by rw [h1n _ (by omega), show H0.length + (id - H.length) - H0.length = id - H.length by omega]; exact a1) a4
 ·rw [u] at h1
  split at h1
  ·rw [h2] at h1; cases h1
  ·omega
 ·rcases h2 with ⟨id, r, o, k1, k2, k3, k4⟩ | ⟨F, k, r, z, cs, m, e⟩
  ·rw [u] at k1
   split at k1
   ·rename_i hid
    obtain ⟨o', b1, b2, _⟩ := hback id o hid k2
    exact .inl ⟨id, r, o', k1, b1, by rw [b2]; exact k3, k4⟩
   ·rename_i hid
    have := fr id r o hid k1 k2
    omega
  ·exact .inr ⟨F, k, r, z, cs, hfm m, e⟩
theorem vcWG {mixed : Bool} {mask : Nat} {dm : Value -> MS} {rounds : Nat} (hmask : MaskOk P mixed mask) (hmix : mixed = true -> P.follows .mixedOrders = true) (n : Nat) {f : FuncId} {args : List Value} {css : List (List Value)} {h : Hint} {v : Value} {z : Nat} {c0 c1 : List Value}
  (hc : vF P mask dm rounds mixed n true f args (readsW P.globals.size z c0 css) (some [P.globals.size]) h (newKW (readsW P.globals.size z c0 css).n 3 P.globals.size (.cells true z c1) v []))
  (hp0 : c0.all (belowC 0) = true) (hp1 : c1.all (belowC 0) = true) {V : Value} {D : Nat} (hV : ∀ (ρ1 ρ2 : Ren) (x : Value), (∀ r, ρ1 P.globals.size = some r -> ρ2 D = some r) -> VR ρ1 v x -> VR ρ2 V x)
  {H : Heap} (hD : H[D]? = some (.cells true z c0)) (ids : List Nat) (hl : ids.length = css.length) (hids : ∀ (k : Nat) (cs : List Value), css[k]? = some cs -> ∃ id own z, ids[k]? = some id /\ H[id]? = some (KObj.cells own z (cs.map (rn (sgRW P.globals.size D ids) 3)))) (hne : D ∉ ids) :
  KCall P f (args.map (rn (sgRW P.globals.size D ids) 3)) H [D] (Is V (H.set D (.cells true z c1))) := by
 have e : (readsW P.globals.size z c0 css).list.length = P.globals.size + 1 + css.length := by rw [HT.length, readsW_n]
 have hkn : P.globals.size < (readsW P.globals.size z c0 css).n := by rw [readsW_n]; omega
 have h1 : KCall P f args (readsW P.globals.size z c0 css).list [P.globals.size] (Is v ((readsW P.globals.size z c0 css).list.set P.globals.size (.cells true z c1) ++ ([] : List (Bool × KObj)).map (·.2))) := by
  refine KCall.packW (d := 3) hkn (((vF_sound hmask hmix n).1 f args _ (some [P.globals.size]) h _ hc).post ?_)
  rintro v' H' ⟨H2, h2, e, hk⟩
  cases h2 with
  | again σ => exact ⟨H2, σ, e, hk⟩
  | _ => exact hk.elim
 have hp : ReadsW P (readsW P.globals.size z c0 css).list H (sgRW P.globals.size D ids) 3 P.globals.size D (.cells true z c0) := by
  refine ⟨fun g hg => if_pos hg, fun id id' h => ?_, by rw [e]; omega, ?_, ?_, hD, hp0, fun id o hne h => ?_, fun id cs h => ?_, fun id id' cs h1 h2 => ?_⟩
  ·rw [e]
   unfold sgRW at h
   split at h
   ·omega
   ·split at h
    ·omega
    ·have := (List.getElem?_eq_some_iff.1 h).1; omega
  ·rw [readsW_list, if_neg (Nat.lt_irrefl _), if_pos rfl]
  ·show (if _ then _ else _) = _
   rw [if_neg (Nat.lt_irrefl _), if_pos rfl]
  ·rw [readsW_list] at h
   split at h
   ·cases h; exact .inl rfl
   ·try rw [if_neg hne] at h
    obtain ⟨cs, _, rfl⟩ := Option.map_eq_some_iff.1 h; exact .inr ⟨cs, rfl⟩
  ·rw [readsW_list] at h
   split at h
   ·cases h
   ·rename_i h5
    split at h
    ·cases h
    ·rename_i h6
     unfold sgRW
     rw [if_neg h5, if_neg h6]
     exact fun q => hne (List.mem_of_getElem? q)
  ·rw [readsW_list] at h2
   split at h2
   ·cases h2
   ·rename_i h5
    split at h2
    ·cases h2
    ·rename_i h6
     obtain ⟨cs', a1, a2⟩ := Option.map_eq_some_iff.1 h2
     cases a2
     unfold sgRW at h1
     rw [if_neg h5, if_neg h6] at h1
     obtain ⟨id2, own, z2, b1, b2⟩ := hids _ _ a1
     rw [h1] at b1; cases b1
     exact ⟨own, z2, b2⟩
 have := KCall.writesG (V := V) (new := []) hp h1 hp1 hV rfl rfl
 rw [List.map_nil, List.append_nil] at this
 exact this
end
end Go.K
/- Radio: notices: what is taken out. No condition. -/
namespace Go.Proofs.YtbgfjemppjhmjaaGreat
open Go Go.K
set_option maxRecDepth 100000
set_option linter.unusedVariables false
set_option linter.unusedSimpArgs false
noncomputable section
attribute [local irreducible] vF
theorem kNo1 (c : Int) (m : Msg) {H : Heap} {i : Nat} {o z} (hi : H[i]? = some (.cells o z [.int .i64 c])) : KCall prog 103 [msgV m, .pointer (some ⟨i, 0, none⟩)] H [] (Is (.bool (notNo c m)) H) := by
 refine valB (v := .bool (notNo c m)) (css := [[.int .i64 c]]) (ids := [i]) (Eq.mpr (Eno1 _ c m) ?_) (hv := rfl) (hi := ⟨⟨_, _, hi⟩, trivial⟩) (ha := rfl)
 unfold Rno1 notNo
 have e1 : (m.ki != 2) = decide (m.ki ≠ 2) := by rw [Bool.eq_iff_iff]; simp
 have e2 : (m.ce != c) = decide (m.ce ≠ c) := by rw [Bool.eq_iff_iff]; simp
 rw [e1, e2]
 cases decide (m.ki ≠ 2) <;> simp
theorem hv13 {M : List Msg} (c : Int) (hS : M.length <= 2000) : RdelN M c := by
 unfold RdelN
 refine ⟨rfl, ⟨Nat.zero_le _, rfl⟩, ?_, fun _ => rfl, fun x hx => ⟨fun a => ?_, fun a => ?_⟩⟩
 ·repeat' first | exact trivial | exact rfl | exact wk_refl _ | refine wkO_cells ?_ | refine wks_cons ?_ ?_ | exact wks_nil | exact wk_nil _ _ _ (.inl rfl) | (exact wk_Q (by omega)) | refine wk_tupL ?_ | refine wk_aggL ?_ | refine joinMax ?_ ?_ ?_ | refine joinMin ?_ ?_ ?_ | refine toMax ?_ | refine toMin ?_ | refine ⟨rfl, ?_⟩ | refine ⟨trivial, ?_⟩ | (refine forkD (fun h => ?_) (fun h => ?_)) | (refine forkNe (fun h => ?_) (fun h => ?_)) | (refine forkEq (fun h => ?_) (fun h => ?_)) | refine forkNot ?_ | (refine ⟨vI64 (by omega), ?_⟩) | (refine And.intro (by omega) ?_) | apply And.intro | (exact iEq (by omega)) | (exact vI64 (by omega))
 ·have hx1 : x < M.length := by have := of_decide_eq_true a; omega
  refine ⟨⟨by omega, by omega⟩, partM hx1 (by omega), ⟨rfl, trivial⟩, fun H' _ h => kNo1 _ _ h.1, fun g => ⟨fun cc => absurd (eq_of_beq cc) (by omega), fun cc => ?_⟩, fun g => ?_⟩
  ·skip
   have hq : isNo c (M.getD x zeroM) = false := by unfold isNo; rw [g]; rfl
   have hkl : (keepQ (isNo c) M (x + 1)).length = x := by rw [keepQ_0 hx1 hq, keepQ_all hx.2, List.length_take]; omega
   refine ⟨vI64 (by omega), rfl, ⟨hx1, by omega⟩, ?_, fun _ => rfl, fun y hy => ⟨fun b => ?_, fun b => ?_⟩⟩
   ·rw [hkl, midQ_0 hx1 hq, midQ_all hx.2 hx.1]
    repeat' first | exact plainML _ _ | exact trivial | exact rfl | exact wk_refl _ | refine wkO_cells ?_ | refine wks_cons ?_ ?_ | exact wks_nil | exact wk_nil _ _ _ (.inl rfl) | (exact wk_Q (by omega)) | refine wk_tupL ?_ | refine wk_aggL ?_ | refine joinMax ?_ ?_ ?_ | refine joinMin ?_ ?_ ?_ | refine toMax ?_ | refine toMin ?_ | refine ⟨rfl, ?_⟩ | refine ⟨trivial, ?_⟩ | (refine forkD (fun h => ?_) (fun h => ?_)) | (refine forkNe (fun h => ?_) (fun h => ?_)) | (refine forkEq (fun h => ?_) (fun h => ?_)) | refine forkNot ?_ | (refine ⟨vI64 (by omega), ?_⟩) | (refine And.intro (by omega) ?_) | apply And.intro | (exact iEq (by omega)) | (exact vI64 (by omega))
   ·have hy1 : y < M.length := by have := of_decide_eq_true b; omega
    have hml := midQ_len (q := isNo c) (M := M) hy.1
    refine ⟨⟨by omega, by omega⟩, partM (by omega) (by omega), ⟨rfl, trivial⟩, fun H' _ h => kNo1 _ _ h.1, ?_⟩
    rw [midQ_at hy1]
    refine ⟨fun g2 => ?_, fun g2 => ?_⟩
    ·have hq : isNo c (M.getD y zeroM) = true := g2
     have hy2 := hy.2
     have hle : (keepQ (isNo c) M (y + 1)).length = (keepQ (isNo c) M y).length + 1 := by rw [keepQ_1 hy1 hq, List.length_append]; rfl
     refine ⟨⟨by omega, by omega⟩, by rw [flat_len msgC_len, hml]; omega, rfl, vI64 (by omega), vI64 (by omega), y + 1, ⟨by omega, by omega⟩, by omega, rfl, ?_⟩
     rw [hle, midQ_1 hy1 hq]
     repeat' first | (exact setQ (by omega) (by omega) _) | exact plainML _ _ | exact trivial | exact rfl | exact wk_refl _ | refine wkO_cells ?_ | refine wks_cons ?_ ?_ | exact wks_nil | exact wk_nil _ _ _ (.inl rfl) | (exact wk_Q (by omega)) | refine wk_tupL ?_ | refine wk_aggL ?_ | refine joinMax ?_ ?_ ?_ | refine joinMin ?_ ?_ ?_ | refine toMax ?_ | refine toMin ?_ | refine ⟨rfl, ?_⟩ | refine ⟨trivial, ?_⟩ | (refine forkD (fun h => ?_) (fun h => ?_)) | (refine forkNe (fun h => ?_) (fun h => ?_)) | (refine forkEq (fun h => ?_) (fun h => ?_)) | refine forkNot ?_ | (refine ⟨vI64 (by omega), ?_⟩) | (refine And.intro (by omega) ?_) | apply And.intro | (exact iEq (by omega)) | (exact vI64 (by omega))
    ·have hq : isNo c (M.getD y zeroM) = false := g2
     have hy2 := hy.2
     refine ⟨vI64 (by omega), y + 1, ⟨by omega, by rw [keepQ_0 hy1 hq]; omega⟩, by omega, rfl, ?_⟩
     rw [keepQ_0 hy1 hq, midQ_0 hy1 hq]
     repeat' first | exact plainML _ _ | exact trivial | exact rfl | exact wk_refl _ | refine wkO_cells ?_ | refine wks_cons ?_ ?_ | exact wks_nil | exact wk_nil _ _ _ (.inl rfl) | (exact wk_Q (by omega)) | refine wk_tupL ?_ | refine wk_aggL ?_ | refine joinMax ?_ ?_ ?_ | refine joinMin ?_ ?_ ?_ | refine toMax ?_ | refine toMin ?_ | refine ⟨rfl, ?_⟩ | refine ⟨trivial, ?_⟩ | (refine forkD (fun h => ?_) (fun h => ?_)) | (refine forkNe (fun h => ?_) (fun h => ?_)) | (refine forkEq (fun h => ?_) (fun h => ?_)) | refine forkNot ?_ | (refine ⟨vI64 (by omega), ?_⟩) | (refine And.intro (by omega) ?_) | apply And.intro | (exact iEq (by omega)) | (exact vI64 (by omega))
   ·have hy1 : y = M.length := by have := of_decide_eq_false b; omega
    have hml := midQ_len (q := isNo c) (M := M) hy.1
    have hy2 := hy.2
    have e : keepQ (isNo c) M y = M.filter (isNo c) := by rw [hy1, keepQ_end]
    refine ⟨⟨⟨.inr (.inr rfl), Nat.le_refl _⟩, Nat.le_refl _, by omega, by omega⟩, rfl, by rw [flat_len msgC_len, hml]; omega, rfl, ⟨⟨.inr (.inr rfl), by omega⟩, ⟨by omega, by omega⟩, Nat.zero_le _⟩, rfl, rfl, ?_, ?_, trivial⟩
    ·rw [e]; exact wk_refl _
    ·refine ⟨⟨?_, plainML _ _⟩, trivial⟩
     show (some (KObj.cells true 7 (setl ((keepQ (isNo c) M y ++ M.drop (keepQ (isNo c) M y).length).flatMap msgC) _ _)) : Option KObj) = _
     rw [e]
     exact congrArg (fun q => some (KObj.cells true 7 q)) (del_cells (by rw [List.length_drop]) rfl (by omega))
  ·skip
   have hq : isNo c (M.getD x zeroM) = true := by unfold isNo; rw [g]; rfl
   refine ⟨vI64 (by omega), x + 1, ⟨by omega, ?_⟩, by omega, rfl, ?_⟩
   ·rw [List.take_succ_eq_append_getElem hx1, List.all_append, hx.2, List.all_cons]
    rw [show M.getD x zeroM = M[x] from by simp [List.getD_eq_getElem?_getD, hx1]] at hq
    rw [hq]; rfl
   ·repeat' first | exact trivial | exact rfl | exact wk_refl _ | refine wkO_cells ?_ | refine wks_cons ?_ ?_ | exact wks_nil | exact wk_nil _ _ _ (.inl rfl) | (exact wk_Q (by omega)) | refine wk_tupL ?_ | refine wk_aggL ?_ | refine joinMax ?_ ?_ ?_ | refine joinMin ?_ ?_ ?_ | refine toMax ?_ | refine toMin ?_ | refine ⟨rfl, ?_⟩ | refine ⟨trivial, ?_⟩ | (refine forkD (fun h => ?_) (fun h => ?_)) | (refine forkNe (fun h => ?_) (fun h => ?_)) | (refine forkEq (fun h => ?_) (fun h => ?_)) | refine forkNot ?_ | (refine ⟨vI64 (by omega), ?_⟩) | (refine And.intro (by omega) ?_) | apply And.intro | (exact iEq (by omega)) | (exact vI64 (by omega))
 ·have hx1 : x = M.length := by have := of_decide_eq_false a; omega
  have hall3 : M.filter (isNo c) = M := by
   show M.filter (isNo c) = M
   have := hx.2
   rw [hx1, List.take_length, List.all_eq_true] at this
   exact List.filter_eq_self.2 this
  rw [hall3]
  repeat' first | exact wk_refl _ | exact plainML _ _ | (exact congrArg (fun q => some (KObj.cells true 7 (List.flatMap msgC q))) (delQ_all hall3).symm) | exact trivial | exact rfl | exact wk_refl _ | refine wkO_cells ?_ | refine wks_cons ?_ ?_ | exact wks_nil | exact wk_nil _ _ _ (.inl rfl) | (exact wk_Q (by omega)) | refine wk_tupL ?_ | refine wk_aggL ?_ | refine joinMax ?_ ?_ ?_ | refine joinMin ?_ ?_ ?_ | refine toMax ?_ | refine toMin ?_ | refine ⟨rfl, ?_⟩ | refine ⟨trivial, ?_⟩ | (refine forkD (fun h => ?_) (fun h => ?_)) | (refine forkNe (fun h => ?_) (fun h => ?_)) | (refine forkEq (fun h => ?_) (fun h => ?_)) | refine forkNot ?_ | (refine ⟨vI64 (by omega), ?_⟩) | (refine And.intro (by omega) ?_) | apply And.intro | (exact iEq (by omega)) | (exact vI64 (by omega))
theorem valG7 {f : FuncId} {args : List Value} {css : List (List Value)} {h : Hint} {n : Nat} {c0 c1 : List Value}
  (hc : vF prog msk (dm 0) 100000 true 40 true f args (readsW 0 7 c0 css) (some [0]) h (newKW (readsW 0 7 c0 css).n 3 0 (.cells true 7 c1) (slQ 0 2 n) []))
  (hp0 : c0.all (belowC 0) = true) (hp1 : c1.all (belowC 0) = true) {H : Heap} {D : Nat} (hD : H[D]? = some (.cells true 7 c0)) {ids : List Nat} (hi : InsA H (sgRW 0 D ids) ids css) (hne : D ∉ ids) {args' : List Value} (ha : args.map (rn (sgRW 0 D ids) 3) = args') :
  KCall prog f args' H [D] (Is (slQ D 2 n) (H.set D (.cells true 7 c1))) := by
 subst ha
 have key := vcWG (H := H) (D := D) (z := 7) (c0 := c0) (c1 := c1) mskOk mixed 40 (v := slQ 0 2 n) (V := slQ D 2 n) (by rw [glob0]; exact hc) hp0 hp1 (fun ρ1 ρ2 x hr hv => by
  rw [glob0] at hr
  cases hv with
  | sliceRe => exact .sliceRe
  | sliceR h hp hl hc ho => exact .sliceR (hr _ h) hp hl hc ho) hD ids hi.len (by rw [glob0]; exact hi.get) hne
 rw [glob0] at key
 exact key
theorem kDelN {M : List Msg} (c : Int) (hS : M.length <= 2000) {H : Heap} {D i : Nat} {o z} (hD : H[D]? = some (.cells true 7 (M.flatMap msgC))) (hi : H[i]? = some (.cells o z [.int .i64 c])) (hne : D ≠ i) :
  KCall prog 94 [slQ D 2 M.length, .func (.func 103) #[] #[.pointer (some ⟨i, 0, none⟩)]] H [D] (Is (slQ D 2 (M.filter (isNo c)).length) (H.set D (.cells true 7 ((delQ (isNo c) M).flatMap msgC)))) :=
 valG7 (css := [[.int .i64 c]]) (Eq.mpr (EdelN M c) (hv13 c hS)) (plainML _ _) (plainML _ _) hD (ids := [i]) ⟨⟨_, _, hi⟩, trivial⟩ (by simpa using hne) rfl
end
end Go.Proofs.YtbgfjemppjhmjaaGreat
