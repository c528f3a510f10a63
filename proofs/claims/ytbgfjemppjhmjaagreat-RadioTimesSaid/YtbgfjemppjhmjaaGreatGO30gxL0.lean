/- What is to be shown of functions. Printed by a program. No condition. -/
import Derived.Test.YtbgfjemppjhmjaaGreatGO28gxW27
import Derived.Test.YtbgfjemppjhmjaaGreatGW2xP2
import Derived.Test.YtbgfjemppjhmjaaGreatGZ2xP21
import Derived.Test.YtbgfjemppjhmjaaGreatRows
import Derived.JoinedCond
import Derived.Test.YtbgfjemppjhmjaaGreatGK27xW1
namespace Go.Proofs.YtbgfjemppjhmjaaGreat
set_option linter.unusedSimpArgs false
open Go Go.K
set_option maxRecDepth 100000
set_option maxHeartbeats 4000000
set_option linter.unusedVariables false
noncomputable section
abbrev kg15 (S : List Int) : Int := ((List.length S) : Nat)
abbrev kgk (N : List Int) : List Value := [.iface ((List.length N) + 1) (.agg ⟨(List.flatMap intC N)⟩), .int .i64 0]
abbrev kg4 (N : List Int) := List.length (wtLd N)
abbrev kg16 (N : List Int) : Value := .agg #[.int .i64 (wtW N 0), .int .i64 (wtH N 0), .slice (some ⟨1, 0, some 1⟩) (kg4 N) (kg4 N)]
abbrev kg8 (N : List Int) : List Value := [.iface ((List.length N) + 1) (.agg ⟨(List.flatMap intC N)⟩), .int .i64 (wtN (Int.toNat (wtW N 0 * wtH N 0)))]
abbrev kg1j (N : List Int) : KObj := .cells true 0 (kg8 N)
abbrev kg9 (N : List Int) : KObj := .cells true 1 (List.flatMap boolC (wtLd N))
abbrev kgs (N : List Int) (z : Int) : List Value := [.iface ((List.length N) + 1) (.agg ⟨(List.flatMap intC N)⟩), .int .i64 ((slF N (wtW N 0) (wtH N 0) (wtLd N) (pcP z) (wtN (Int.toNat (wtW N 0 * wtH N 0)))).q)]
abbrev kg1h : Value := .int .i64 0
abbrev kge (S : List Int) : Value := .iface ((List.length S) + 1) (.agg ⟨(List.flatMap intC S)⟩)
abbrev kg13 : Value := .bool false
abbrev kga : Prop := kg13 = .bool false /\ (.pointer (some ⟨2, 0, none⟩) : Value) = .pointer (some ⟨2, 0, none⟩) /\ wk (.slice (some ⟨3, 0, some 2⟩) 121 121 : Value) (.slice (some ⟨3, 0, some 2⟩) 121 121 : Value) /\ True
abbrev kgu (N : List Int) (z : Int) : KObj := .cells true 0 [.int .i64 (wtW N 0), .int .i64 (wtH N 0), .slice (some ⟨1, 0, some 1⟩) (kg4 N) (kg4 N), .int .i64 (1 + (z % 30)), .slice none 0 0]
abbrev kgy (x3 : Nat) : Int := (x3 : Nat)
abbrev kg12 (S : List Int) (x3 : Nat) := List.getD S x3 0
abbrev kg1k (S : List Int) (x3 : Nat) : Int := ((kg12 S x3) % 121)
abbrev kgb (N : List Int) (z : Int) (S : List Int) (x3 : Nat) := List.getD (atL N (pcP z)) (Int.toNat ((kg12 S x3) % 121)) 0
abbrev kg10 (N : List Int) (S : List Int) (z : Int) (x3 : Nat) := lsQ (sgt N S z x3)
abbrev kg1b (N : List Int) (S : List Int) (z : Int) (x3 : Nat) := msQ (sgt N S z x3)
abbrev kgi (N : List Int) (S : List Int) (z : Int) (x3 : Nat) := List.length (sgt N S z x3)
abbrev kgw (N : List Int) (z : Int) (S : List Int) (x3 : Nat) : List Value := [.int .i64 (wtW N 0), .int .i64 (wtH N 0), .slice (some ⟨1, 0, some 1⟩) (kg4 N) (kg4 N), .int .i64 (1 + (z % 30)), .slice (some ⟨4, 0, some 1⟩) (kgi N S z x3) (kgi N S z x3)]
abbrev kgq (N : List Int) (z : Int) (S : List Int) (x3' : Nat) : KObj := .cells true 0 [.int .i64 (wtW N 0), .int .i64 (wtH N 0), .slice (some ⟨1, 0, some 1⟩) (kg4 N) (kg4 N), .int .i64 (1 + (z % 30)), .slice (some ⟨4, 0, some 1⟩) (List.length (sgt N S z x3')) (List.length (sgt N S z x3'))]
abbrev kgl (N : List Int) (S : List Int) (z : Int) (x3 : Nat) : KObj := .cells true 2 (List.flatMap spC (sgt N S z x3))
abbrev kg1a (N : List Int) (S : List Int) (z : Int) (x3' : Nat) : KObj := .cells true 2 (List.flatMap spC (sgt N S z x3'))
abbrev kg1g (S : List Int) (x3 : Nat) (N : List Int) (z : Int) : List Value := [.int .i64 ((kg12 S x3) % 121), .int .i64 (kgb N z S x3)]
abbrev kgr (N : List Int) : Int := ((kg4 N) : Nat)
abbrev kg5 (N : List Int) (c : Int) := List.getD (wtLd N) (Int.toNat (c % (kgr N))) false
abbrev kg1f (N : List Int) (c : Int) (x5' : Int) : Prop := ((kg5 N c) = true /\ (x5' : Int) = 0 /\ True) ∨ ((kg5 N c) = false /\ (x5' : Int) = (c % (kgr N)) /\ True)
abbrev kgh (N : List Int) (S : List Int) (z : Int) (x3 : Nat) (m : Int) : Prop := (.int .i64 (kg10 N S z x3) : Value) = .int .i64 (kg10 N S z x3) /\ (.int .i64 (kg1b N S z x3) : Value) = .int .i64 (kg1b N S z x3) /\ (.int .i64 m : Value) = .int .i64 m /\ kg13 = .bool false /\ (.pointer (some ⟨2, 0, none⟩) : Value) = .pointer (some ⟨2, 0, none⟩) /\ True
abbrev kg1i : Prop := (True) /\ (True) /\ (True)
abbrev kg1d (N : List Int) (c : Int) (x5 : Int) : Prop := ((kg5 N c) = true /\ (x5 : Int) = 0 /\ True) ∨ ((kg5 N c) = false /\ (x5 : Int) = (c % (kgr N)) /\ True)
abbrev kg0 (N : List Int) (z : Int) (S : List Int) (x3 : Nat) (m : Int) := whQ N z (sgt N S z x3) ((kg10 N S z x3) + (m % (((kg1b N S z x3) - (kg10 N S z x3)) + 1)))
abbrev kg17 (N : List Int) (z : Int) (S : List Int) (x3 : Nat) (m : Int) := List.length (kg0 N z S x3 m)
abbrev kgm (N : List Int) (z : Int) (S : List Int) (x3 : Nat) (m : Int) : KObj := .cells true 1 (List.flatMap intC (kg0 N z S x3 m))
abbrev kg7 (N : List Int) (z : Int) (S : List Int) (x3 : Nat) (x5 : Int) := tmQ N z (sgt N S z x3) x5
abbrev kg1e (N : List Int) (z : Int) (S : List Int) (x3 : Nat) (x5 : Int) := List.length (kg7 N z S x3 x5)
abbrev kgt (N : List Int) (z : Int) (S : List Int) (x3 : Nat) (x5 : Int) := List.flatMap spC (kg7 N z S x3 x5)
abbrev kgn (N : List Int) (z : Int) (S : List Int) (x3 : Nat) (x5 : Int) (m : Int) := notF (kg7 N z S x3 x5) ((kg10 N S z x3) + (m % (((kg1b N S z x3) - (kg10 N S z x3)) + 1)))
abbrev kg1 (N : List Int) (S : List Int) (z : Int) (x3 : Nat) (m : Int) (x5 : Int) : Prop := (.pointer (some ⟨2, 0, none⟩) : Value) = .pointer (some ⟨2, 0, none⟩) /\ (.int .i64 (kg1b N S z x3) : Value) = .int .i64 (kg1b N S z x3) /\ (.int .i64 (kg10 N S z x3) : Value) = .int .i64 (kg10 N S z x3) /\ (.int .i64 ((kg10 N S z x3) + (m % (((kg1b N S z x3) - (kg10 N S z x3)) + 1))) : Value) = .int .i64 ((kg10 N S z x3) + (m % (((kg1b N S z x3) - (kg10 N S z x3)) + 1))) /\ wk (.slice (some ⟨5, 0, some 1⟩) (kg17 N z S x3 m) (kg17 N z S x3 m) : Value) (.slice (some ⟨5, 0, some 1⟩) (kg17 N z S x3 m) (kg17 N z S x3 m) : Value) /\ kg1h = .int .i64 0 /\ wk (.slice (some ⟨6, 0, some 1⟩) (kg1e N z S x3 x5) (kg1e N z S x3 x5) : Value) (.slice (some ⟨6, 0, some 1⟩) (kg1e N z S x3 x5) (kg1e N z S x3 x5) : Value) /\ True
abbrev kgc (x11 : Nat) : Int := (x11 : Nat)
abbrev kgj (x11 : Nat) (N : List Int) (z : Int) (S : List Int) (x3 : Nat) (x5 : Int) : Prop := (0 : Int) <= (kgc x11) /\ ((kgc x11) : Int) < (((kg1e N z S x3 x5) : Nat) : Int)
abbrev kgf (N : List Int) (z : Int) (S : List Int) (x3 : Nat) (x5 : Int) (x11 : Nat) := List.getD (kg7 N z S x3 x5) x11 zeroSp
abbrev kg19 (N : List Int) (z : Int) (S : List Int) (x3 : Nat) (x5 : Int) (x11 : Nat) : Prop := (kgt N z S x3 x5)[((0 + Int.toNat (kgc x11) * 2) + 0)]? = some (.int .i64 (kgf N z S x3 x5 x11).1)
abbrev kgp (N : List Int) (z : Int) (S : List Int) (x3 : Nat) (x5 : Int) (x11 : Nat) := List.getD (kg7 N z S x3 x5) (Int.toNat ((kgc x11) - 1)) zeroSp
abbrev kgg (x11 : Nat) (N : List Int) (z : Int) (S : List Int) (x3 : Nat) (x5 : Int) (m : Int) : Prop := (.int .i64 (IntKind.wrap .i64 ((kgc x11) + 1)) : Value) = .int .i64 ((kgc x11) + 1) /\ (∃ x11' : Nat, (x11' <= List.length (kg7 N z S x3 x5)) /\ (List.length (kg7 N z S x3 x5) - x11') < (List.length (kg7 N z S x3 x5) - x11) /\ true = true /\ ((.int .i64 ((kgc x11) + 1) : Value) = .int .i64 ((x11' : Nat) : Int) /\ kg1 N S z x3 m x5) /\ kg1i)
abbrev kgd (N : List Int) (S : List Int) (z : Int) (x3 : Nat) : Int := (List.length (sgt N S z x3) : Nat)
abbrev kg6 (N : List Int) (z : Int) (S : List Int) (x3 : Nat) (m : Int) : Prop := kg1h = .int .i64 0 /\ wk (.slice (some ⟨5, 0, some 1⟩) (kg17 N z S x3 m) (kg17 N z S x3 m) : Value) (.slice (some ⟨5, 0, some 1⟩) (kg17 N z S x3 m) (kg17 N z S x3 m) : Value) /\ (.int .i64 ((kg10 N S z x3) + (m % (((kg1b N S z x3) - (kg10 N S z x3)) + 1))) : Value) = .int .i64 ((kg10 N S z x3) + (m % (((kg1b N S z x3) - (kg10 N S z x3)) + 1))) /\ (.pointer (some ⟨2, 0, none⟩) : Value) = .pointer (some ⟨2, 0, none⟩) /\ (.pointer (some ⟨7, 0, none⟩) : Value) = .pointer (some ⟨7, 0, none⟩) /\ True
abbrev kg11 (x12 : Nat) : Int := (x12 : Nat)
abbrev kg2 (N : List Int) (S : List Int) (z : Int) (x3 : Nat) (x12 : Nat) := List.getD (sgt N S z x3) (Int.toNat ((kgd N S z x3) - 1 - (kg11 x12))) zeroSp
abbrev kg14 (N : List Int) (S : List Int) (z : Int) (x3 : Nat) (x12 : Nat) : Value := .agg #[.int .i64 (kg2 N S z x3 x12).1, .int .i64 (kg2 N S z x3 x12).2]
abbrev kgv (N : List Int) (S : List Int) (z : Int) (x3 : Nat) (x12 : Nat) := List.length (bkL (sgt N S z x3) x12)
abbrev kg18 (N : List Int) (S : List Int) (z : Int) (x3 : Nat) (x12 : Nat) := List.flatMap spC (bkL (sgt N S z x3) x12)
abbrev kgo (N : List Int) (S : List Int) (z : Int) (x3 : Nat) (x12 : Nat) : List Value := [.int .i64 (kg2 N S z x3 x12).1, .int .i64 (kg2 N S z x3 x12).2, .int .i64 (kg2 N S z x3 x12).1, .int .i64 (kg2 N S z x3 x12).2]
abbrev kg3 (N : List Int) (z : Int) (S : List Int) (x3 : Nat) (x12 : Nat) (m : Int) := whQ N z (bkL (sgt N S z x3) x12) ((kg10 N S z x3) + (m % (((kg1b N S z x3) - (kg10 N S z x3)) + 1)))
def Rltimes (sp : Value) (N S : List Int) (z c m : Int) : Prop :=
 (((decide ((10 : Int) < (kg15 S))) = true -> ((True) /\ (∀ H' : Heap, H'.length = 0 -> (True) -> KCall prog 14 [] H' [] (Is (.bool true) H')) /\ (.bool true : Value) = sp)) /\ ((decide ((10 : Int) < (kg15 S))) = false -> (((some (.cells true 0 (kgk N) : KObj) = some (.cells true 0 (kgk N) : KObj)) /\ True) /\ (∀ H' : Heap, H'.length = 1 -> (H'[0]? = some (.cells true 0 (kgk N) : KObj) /\ True) -> KCall prog 15 [.pointer (some ⟨0, 0, none⟩)] H' [0] (Is (kg16 N) ((List.set H' 0 (kg1j N)) ++ [(kg9 N)]))) /\ ((True) /\ (∀ H' : Heap, H'.length = 2 -> (True) -> KCall prog 16 [.int .i64 z, .int .i64 30] H' [] (Is (.int .i64 (z % 30)) H')) /\ ((.int .i64 (IntKind.wrap .i64 (1 + (z % 30))) : Value) = .int .i64 (1 + (z % 30)) /\ (((some (kg1j N) = some (kg1j N)) /\ (some (kg9 N) = some (kg9 N)) /\ True) /\ (∀ H' : Heap, H'.length = 3 -> (H'[0]? = some (kg1j N) /\ H'[1]? = some (kg9 N) /\ True) -> KCall prog 17 [.pointer (some ⟨0, 0, none⟩), .agg #[.int .i64 (wtW N 0), .int .i64 (wtH N 0), .slice (some ⟨1, 0, some 1⟩) (kg4 N) (kg4 N)], .int .i64 (1 + (z % 30)), .int .i64 120] H' [0] (Is (.slice (some ⟨3, 0, some 2⟩) 121 121) ((List.set H' 0 (.cells true 0 (kgs N z) : KObj)) ++ [(.cells true 1 (List.flatMap intC (atL N (pcP z))) : KObj)]))) /\ (true = true /\ (0 <= List.length S) /\ (true = true /\ (kg1h = .int .i64 ((0 : Nat) : Int) /\ (.int .i64 120 : Value) = .int .i64 (lsQ (sgt N S z 0)) /\ kg1h = .int .i64 (msQ (sgt N S z 0)) /\ (.int .i64 m : Value) = .int .i64 m /\ (.int .i64 c : Value) = .int .i64 c /\ (kge S) = rn (sg 4 []) 3 (kge S) /\ kga) /\ (wkO (kgu N z) (rno (sg 4 []) 3 (.cells true 0 [.int .i64 (wtW N 0), .int .i64 (wtH N 0), .slice (some ⟨1, 0, some 1⟩) (kg4 N) (kg4 N), .int .i64 (1 + (z % 30)), .slice (some ⟨4, 0, some 1⟩) (List.length (sgt N S z 0)) (List.length (sgt N S z 0))] : KObj)) /\ True) /\ (True /\ True) /\ (True)) /\ (∀ x3 : Nat, true = true) /\ ∀ x3 : Nat, (x3 <= List.length S) -> (((decide (((kgy x3) : Int) < (kg15 S))) = true -> (((0 : Int) <= (kgy x3) /\ ((kgy x3) : Int) < (kg15 S)) /\ (((List.flatMap intC S)[(Int.toNat (kgy x3) * 1)]? = some (.int .i64 (kg12 S x3))) /\ ((True) /\ (∀ H' : Heap, H'.length = 5 -> (True) -> KCall prog 16 [.int .i64 (kg12 S x3), .int .i64 121] H' [] (Is (.int .i64 ((kg12 S x3) % 121)) H')) /\ (((0 : Int) <= ((kg12 S x3) % 121) /\ (kg1k S x3) < ((121 : Nat) : Int)) /\ (((List.flatMap intC (atL N (pcP z)))[(0 + Int.toNat ((kg12 S x3) % 121) * 1)]? = some (.int .i64 (kgb N z S x3))) /\ (((decide (((kgb N z S x3) : Int) < 0)) = true -> ((.int .i64 (IntKind.wrap .i64 ((kgy x3) + 1)) : Value) = .int .i64 ((kgy x3) + 1) /\ (∃ x3' : Nat, (x3' <= List.length S) /\ (List.length S - x3') < (List.length S - x3) /\ true = true /\ ((.int .i64 ((kgy x3) + 1) : Value) = .int .i64 ((x3' : Nat) : Int) /\ (.int .i64 (kg10 N S z x3) : Value) = .int .i64 (lsQ (sgt N S z x3')) /\ (.int .i64 (kg1b N S z x3) : Value) = .int .i64 (msQ (sgt N S z x3')) /\ (.int .i64 m : Value) = .int .i64 m /\ (.int .i64 c : Value) = .int .i64 c /\ (kge S) = rn (sg 4 [(4, 4)]) 3 (kge S) /\ kga) /\ (wkO (.cells true 0 (kgw N z S x3) : KObj) (rno (sg 4 [(4, 4)]) 3 (kgq N z S x3')) /\ True) /\ ((some (kgl N S z x3) = some (kg1a N S z x3') /\ belowO 4 (kg1a N S z x3') = true) /\ True) /\ (True)))) /\ ((decide (((kgb N z S x3) : Int) < 0)) = false -> (((0 : Int) <= ((kg12 S x3) % 121) /\ (kg1k S x3) < ((121 : Nat) : Int)) /\ (((List.flatMap intC (atL N (pcP z)))[(0 + Int.toNat ((kg12 S x3) % 121) * 1)]? = some (.int .i64 (kgb N z S x3))) /\ ((((kgi N S z x3) + 1) * 16 <= 2 ^ 44 /\ 1 ≠ 0 /\ ((kgi N S z x3) <= (kgi N S z x3) /\ 0 + (kgi N S z x3) * 2 <= List.length (List.flatMap spC (sgt N S z x3))) /\ (1 <= 1 /\ 0 + 1 * 2 <= List.length (kg1g S x3 N z)) /\ ((List.take (1 * 2) (List.drop 0 (kg1g S x3 N z))) : List Value).all (fun v => one1 v) = true) /\ true = true /\ ((.int .i64 (IntKind.wrap .i64 ((kgy x3) + 1)) : Value) = .int .i64 ((kgy x3) + 1) /\ (∃ x3' : Nat, (x3' <= List.length S) /\ (List.length S - x3') < (List.length S - x3) /\ true = true /\ ((.int .i64 ((kgy x3) + 1) : Value) = .int .i64 ((x3' : Nat) : Int) /\ (.int .i64 (if (kg1k S x3) < (kg10 N S z x3) then (kg1k S x3) else (kg10 N S z x3)) : Value) = .int .i64 (lsQ (sgt N S z x3')) /\ (.int .i64 (if (kg1k S x3) > (kg1b N S z x3) then (kg1k S x3) else (kg1b N S z x3)) : Value) = .int .i64 (msQ (sgt N S z x3')) /\ (.int .i64 m : Value) = .int .i64 m /\ (.int .i64 c : Value) = .int .i64 c /\ (kge S) = rn (sg 4 [(4, 6)]) 3 (kge S) /\ kga) /\ (wkO (.cells true 0 [.int .i64 (wtW N 0), .int .i64 (wtH N 0), .slice (some ⟨1, 0, some 1⟩) (kg4 N) (kg4 N), .int .i64 (1 + (z % 30)), .slice (some ⟨6, 0, none⟩) ((kgi N S z x3) + 1) ((kgi N S z x3) + 1)] : KObj) (rno (sg 4 [(4, 6)]) 3 (kgq N z S x3')) /\ True) /\ ((some (.cells true 2 ((List.take ((kgi N S z x3) * 2) (List.drop 0 (List.flatMap spC (sgt N S z x3)))) ++ (List.take (1 * 2) (List.drop 0 (kg1g S x3 N z)))) : KObj) = some (kg1a N S z x3') /\ belowO 4 (kg1a N S z x3') = true) /\ True) /\ (True)))))))))))))) /\ ((decide (((kgy x3) : Int) < (kg15 S))) = false -> (((((((kgi N S z x3) : Nat) : Int) : Int) == 0) = true -> ((True) /\ (∀ H' : Heap, H'.length = 5 -> (True) -> KCall prog 14 [] H' [] (Is (.bool true) H')) /\ (.bool true : Value) = sp)) /\ ((((((kgi N S z x3) : Nat) : Int) : Int) == 0) = false -> ((True) /\ (∀ H' : Heap, H'.length = 5 -> (True) -> KCall prog 16 [.int .i64 c, .int .i64 (kgr N)] H' [] (Is (.int .i64 (c % (kgr N))) H')) /\ (((0 : Int) <= (c % (kgr N)) /\ ((c % (kgr N)) : Int) < (kgr N)) /\ (((List.flatMap boolC (wtLd N))[(0 + Int.toNat (c % (kgr N)) * 1)]? = some (.bool (kg5 N c))) /\ (true = true /\ ((kg5 N c) = true -> (∃ x5' : Int, (kg1f N c x5') /\ true = true /\ (kg1h = .int .i64 x5' /\ kgh N S z x3 m) /\ kg1i)) /\ ((kg5 N c) = false -> (∃ x5' : Int, (kg1f N c x5') /\ true = true /\ ((.int .i64 (c % (kgr N)) : Value) = .int .i64 x5' /\ kgh N S z x3 m) /\ kg1i)) /\ ∀ x5 : Int, (kg1d N c x5) -> ((.int .i64 (IntKind.wrap .i64 ((kg1b N S z x3) - (kg10 N S z x3))) : Value) = .int .i64 ((kg1b N S z x3) - (kg10 N S z x3)) /\ ((.int .i64 (IntKind.wrap .i64 (((kg1b N S z x3) - (kg10 N S z x3)) + 1)) : Value) = .int .i64 (((kg1b N S z x3) - (kg10 N S z x3)) + 1) /\ ((True) /\ (∀ H' : Heap, H'.length = 5 -> (True) -> KCall prog 16 [.int .i64 m, .int .i64 (((kg1b N S z x3) - (kg10 N S z x3)) + 1)] H' [] (Is (.int .i64 (m % (((kg1b N S z x3) - (kg10 N S z x3)) + 1))) H')) /\ ((.int .i64 (IntKind.wrap .i64 ((kg10 N S z x3) + (m % (((kg1b N S z x3) - (kg10 N S z x3)) + 1)))) : Value) = .int .i64 ((kg10 N S z x3) + (m % (((kg1b N S z x3) - (kg10 N S z x3)) + 1))) /\ (((some (kg9 N) = some (kg9 N)) /\ (some (kgl N S z x3) = some (kgl N S z x3)) /\ True) /\ (∀ H' : Heap, H'.length = 5 -> (H'[1]? = some (kg9 N) /\ H'[4]? = some (kgl N S z x3) /\ True) -> KCall prog 18 [.agg #[.int .i64 (wtW N 0), .int .i64 (wtH N 0), .slice (some ⟨1, 0, some 1⟩) (kg4 N) (kg4 N), .int .i64 (1 + (z % 30)), .slice (some ⟨4, 0, some 1⟩) (kgi N S z x3) (kgi N S z x3)], .int .i64 ((kg10 N S z x3) + (m % (((kg1b N S z x3) - (kg10 N S z x3)) + 1)))] H' [] (Is (.tuple #[.slice (some ⟨5, 0, some 1⟩) (kg17 N z S x3 m) (kg17 N z S x3 m), .int .i64 0]) (H' ++ [(kgm N z S x3 m)]))) /\ (((some (kg9 N) = some (kg9 N)) /\ (some (kgl N S z x3) = some (kgl N S z x3)) /\ True) /\ (∀ H' : Heap, H'.length = 6 -> (H'[1]? = some (kg9 N) /\ H'[4]? = some (kgl N S z x3) /\ True) -> KCall prog 19 [.agg #[.int .i64 (wtW N 0), .int .i64 (wtH N 0), .slice (some ⟨1, 0, some 1⟩) (kg4 N) (kg4 N), .int .i64 (1 + (z % 30)), .slice (some ⟨4, 0, some 1⟩) (kgi N S z x3) (kgi N S z x3)], .int .i64 x5] H' [] (Is (.tuple #[.slice (some ⟨6, 0, some 1⟩) (kg1e N z S x3 x5) (kg1e N z S x3 x5), .int .i64 0]) (H' ++ [(.cells true 2 (kgt N z S x3 x5) : KObj)]))) /\ (((some (kgm N z S x3 m) = some (kgm N z S x3 m)) /\ True) /\ (∀ H' : Heap, H'.length = 7 -> (H'[5]? = some (kgm N z S x3 m) /\ True) -> KCall prog 20 [.slice (some ⟨5, 0, some 1⟩) (kg17 N z S x3 m) (kg17 N z S x3 m), .int .i64 x5] H' [] (Is (.bool (List.any (kg0 N z S x3 m) (fun v => v == x5))) H')) /\ (((some (.cells true 2 (kgt N z S x3 x5) : KObj) = some (.cells true 2 (kgt N z S x3 x5) : KObj)) /\ True) /\ (∀ H' : Heap, H'.length = 7 -> (H'[6]? = some (.cells true 2 (kgt N z S x3 x5) : KObj) /\ True) -> KCall prog 21 [.slice (some ⟨6, 0, some 1⟩) (kg1e N z S x3 x5) (kg1e N z S x3 x5), .int .i64 ((kg10 N S z x3) + (m % (((kg1b N S z x3) - (kg10 N S z x3)) + 1)))] H' [] (Is (.bool (kgn N z S x3 x5 m)) H')) /\ (((!((List.any (kg0 N z S x3 m) (fun v => v == x5)) == (kgn N z S x3 x5 m))) = true -> kg13 = sp) /\ ((!((List.any (kg0 N z S x3 m) (fun v => v == x5)) == (kgn N z S x3 x5 m))) = false -> (true = true /\ (0 <= List.length (kg7 N z S x3 x5)) /\ (true = true /\ (kg1h = .int .i64 ((0 : Nat) : Int) /\ kg1 N S z x3 m x5) /\ kg1i) /\ (∀ x11 : Nat, true = true) /\ ∀ x11 : Nat, (x11 <= List.length (kg7 N z S x3 x5)) -> (((decide (((kgc x11) : Int) < (((kg1e N z S x3 x5) : Nat) : Int))) = true -> ((kgj x11 N z S x3 x5) /\ ((kg19 N z S x3 x5 x11) /\ (((decide (((kgf N z S x3 x5 x11).1 : Int) < (kg10 N S z x3))) = true -> kg13 = sp) /\ ((decide (((kgf N z S x3 x5 x11).1 : Int) < (kg10 N S z x3))) = false -> ((kgj x11 N z S x3 x5) /\ (((kgt N z S x3 x5)[((0 + Int.toNat (kgc x11) * 2) + 1)]? = some (.int .i64 (kgf N z S x3 x5 x11).2)) /\ (((decide (((kg1b N S z x3) : Int) < (kgf N z S x3 x5 x11).2)) = true -> kg13 = sp) /\ ((decide (((kg1b N S z x3) : Int) < (kgf N z S x3 x5 x11).2)) = false -> ((kgj x11 N z S x3 x5) /\ ((kg19 N z S x3 x5 x11) /\ ((kgj x11 N z S x3 x5) /\ (((kgt N z S x3 x5)[((0 + Int.toNat (kgc x11) * 2) + 1)]? = some (.int .i64 (kgf N z S x3 x5 x11).2)) /\ (((decide (((kgf N z S x3 x5 x11).2 : Int) < (kgf N z S x3 x5 x11).1)) = true -> kg13 = sp) /\ ((decide (((kgf N z S x3 x5 x11).2 : Int) < (kgf N z S x3 x5 x11).1)) = false -> (((decide ((0 : Int) < (kgc x11))) = true -> ((kgj x11 N z S x3 x5) /\ ((kg19 N z S x3 x5 x11) /\ ((.int .i64 (IntKind.wrap .i64 ((kgc x11) - 1)) : Value) = .int .i64 ((kgc x11) - 1) /\ (((0 : Int) <= ((kgc x11) - 1) /\ (((kgc x11) - 1) : Int) < (((kg1e N z S x3 x5) : Nat) : Int)) /\ (((kgt N z S x3 x5)[((0 + Int.toNat ((kgc x11) - 1) * 2) + 1)]? = some (.int .i64 (kgp N z S x3 x5 x11).2)) /\ ((.int .i64 (IntKind.wrap .i64 ((kgp N z S x3 x5 x11).2 + 1)) : Value) = .int .i64 ((kgp N z S x3 x5 x11).2 + 1) /\ (((decide (((kgf N z S x3 x5 x11).1 : Int) <= ((kgp N z S x3 x5 x11).2 + 1))) = true -> kg13 = sp) /\ ((decide (((kgf N z S x3 x5 x11).1 : Int) <= ((kgp N z S x3 x5 x11).2 + 1))) = false -> (kgg x11 N z S x3 x5 m)))))))))) /\ ((decide ((0 : Int) < (kgc x11))) = false -> (kgg x11 N z S x3 x5 m)))))))))))))))))) /\ ((decide (((kgc x11) : Int) < (((kg1e N z S x3 x5) : Nat) : Int))) = false -> ((.int .i64 (IntKind.wrap .i64 ((((kgi N S z x3) : Nat) : Int) - 1)) : Value) = .int .i64 ((((kgi N S z x3) : Nat) : Int) - 1) /\ (true = true /\ (0 <= List.length (sgt N S z x3)) /\ (true = true /\ ((.int .i64 ((((kgi N S z x3) : Nat) : Int) - 1) : Value) = .int .i64 ((kgd N S z x3) - 1 - ((0 : Nat) : Int)) /\ kg6 N z S x3 m) /\ (wkO (kgu N z) (rno (sg 8 []) 3 (.cells true 0 [.int .i64 (wtW N 0), .int .i64 (wtH N 0), .slice (some ⟨1, 0, some 1⟩) (kg4 N) (kg4 N), .int .i64 (1 + (z % 30)), .slice (some ⟨8, 0, some 1⟩) (List.length (bkL (sgt N S z x3) 0)) (List.length (bkL (sgt N S z x3) 0))] : KObj)) /\ True) /\ (True /\ True) /\ (True)) /\ (∀ x12 : Nat, true = true) /\ ∀ x12 : Nat, (x12 <= List.length (sgt N S z x3)) -> (((decide ((0 : Int) <= ((kgd N S z x3) - 1 - (kg11 x12)))) = true -> (((0 : Int) <= ((kgd N S z x3) - 1 - (kg11 x12)) /\ (((kgd N S z x3) - 1 - (kg11 x12)) : Int) < (((kgi N S z x3) : Nat) : Int)) /\ ((partA 2 (List.flatMap spC (sgt N S z x3)) (0 + Int.toNat ((kgd N S z x3) - 1 - (kg11 x12)) * 2) = some (kg14 N S z x3 x12)) /\ (((0 : Int) <= ((kgd N S z x3) - 1 - (kg11 x12)) /\ (((kgd N S z x3) - 1 - (kg11 x12)) : Int) < (((kgi N S z x3) : Nat) : Int)) /\ ((partA 2 (List.flatMap spC (sgt N S z x3)) (0 + Int.toNat ((kgd N S z x3) - 1 - (kg11 x12)) * 2) = some (kg14 N S z x3 x12)) /\ ((((kgv N S z x3 x12) + 2) * 16 <= 2 ^ 44 /\ 2 ≠ 0 /\ ((kgv N S z x3 x12) <= (kgv N S z x3 x12) /\ 0 + (kgv N S z x3 x12) * 2 <= List.length (kg18 N S z x3 x12)) /\ (2 <= 2 /\ 0 + 2 * 2 <= List.length (kgo N S z x3 x12)) /\ ((List.take (2 * 2) (List.drop 0 (kgo N S z x3 x12))) : List Value).all (fun v => one1 v) = true) /\ true = true /\ ((.int .i64 (IntKind.wrap .i64 (((kgd N S z x3) - 1 - (kg11 x12)) - 1)) : Value) = .int .i64 (((kgd N S z x3) - 1 - (kg11 x12)) - 1) /\ (∃ x12' : Nat, (x12' <= List.length (sgt N S z x3)) /\ (List.length (sgt N S z x3) - x12') < (List.length (sgt N S z x3) - x12) /\ true = true /\ ((.int .i64 (((kgd N S z x3) - 1 - (kg11 x12)) - 1) : Value) = .int .i64 ((kgd N S z x3) - 1 - ((x12' : Nat) : Int)) /\ kg6 N z S x3 m) /\ (wkO (.cells true 0 [.int .i64 (wtW N 0), .int .i64 (wtH N 0), .slice (some ⟨1, 0, some 1⟩) (kg4 N) (kg4 N), .int .i64 (1 + (z % 30)), .slice (some ⟨10, 0, none⟩) ((kgv N S z x3 x12) + 2) ((kgv N S z x3 x12) + 2)] : KObj) (rno (sg 8 [(8, 10)]) 3 (.cells true 0 [.int .i64 (wtW N 0), .int .i64 (wtH N 0), .slice (some ⟨1, 0, some 1⟩) (kg4 N) (kg4 N), .int .i64 (1 + (z % 30)), .slice (some ⟨8, 0, some 1⟩) (List.length (bkL (sgt N S z x3) x12')) (List.length (bkL (sgt N S z x3) x12'))] : KObj)) /\ True) /\ ((some (.cells true 2 ((List.take ((kgv N S z x3 x12) * 2) (List.drop 0 (kg18 N S z x3 x12))) ++ (List.take (2 * 2) (List.drop 0 (kgo N S z x3 x12)))) : KObj) = some (.cells true 2 (List.flatMap spC (bkL (sgt N S z x3) x12')) : KObj) /\ belowO 8 (.cells true 2 (List.flatMap spC (bkL (sgt N S z x3) x12')) : KObj) = true) /\ True) /\ (True))))))))) /\ ((decide ((0 : Int) <= ((kgd N S z x3) - 1 - (kg11 x12)))) = false -> (((some (kg9 N) = some (kg9 N)) /\ (some (.cells true 2 (kg18 N S z x3 x12) : KObj) = some (.cells true 2 (kg18 N S z x3 x12) : KObj)) /\ True) /\ (∀ H' : Heap, H'.length = 9 -> (H'[1]? = some (kg9 N) /\ H'[8]? = some (.cells true 2 (kg18 N S z x3 x12) : KObj) /\ True) -> KCall prog 18 [.agg #[.int .i64 (wtW N 0), .int .i64 (wtH N 0), .slice (some ⟨1, 0, some 1⟩) (kg4 N) (kg4 N), .int .i64 (1 + (z % 30)), .slice (some ⟨8, 0, some 1⟩) (kgv N S z x3 x12) (kgv N S z x3 x12)], .int .i64 ((kg10 N S z x3) + (m % (((kg1b N S z x3) - (kg10 N S z x3)) + 1)))] H' [] (Is (.tuple #[.slice (some ⟨9, 0, some 1⟩) (List.length (kg3 N z S x3 x12 m)) (List.length (kg3 N z S x3 x12 m)), .int .i64 0]) (H' ++ [(.cells true 1 (List.flatMap intC (kg3 N z S x3 x12 m)) : KObj)]))) /\ (((some (.cells true 1 (List.flatMap intC (kg3 N z S x3 x12 m)) : KObj) = some (.cells true 1 (List.flatMap intC (kg3 N z S x3 x12 m)) : KObj)) /\ (some (kgm N z S x3 m) = some (kgm N z S x3 m)) /\ True) /\ (∀ H' : Heap, H'.length = 10 -> (H'[9]? = some (.cells true 1 (List.flatMap intC (kg3 N z S x3 x12 m)) : KObj) /\ H'[5]? = some (kgm N z S x3 m) /\ True) -> KCall prog 22 [.slice (some ⟨9, 0, some 1⟩) (List.length (kg3 N z S x3 x12 m)) (List.length (kg3 N z S x3 x12 m)), .slice (some ⟨5, 0, some 1⟩) (kg17 N z S x3 m) (kg17 N z S x3 m)] H' [] (Is (.bool (decide ((kg3 N z S x3 x12 m) = (kg0 N z S x3 m)))) H')) /\ (((decide ((kg3 N z S x3 x12 m) = (kg0 N z S x3 m))) = true -> ((True) /\ (∀ H' : Heap, H'.length = 10 -> (True) -> KCall prog 14 [] H' [] (Is (.bool true) H')) /\ (.bool true : Value) = sp)) /\ ((decide ((kg3 N z S x3 x12 m) = (kg0 N z S x3 m))) = false -> kg13 = sp))))))))))))))))))))))))))))))))))))
abbrev kg1c : Hint := .ans [] (.bool true) [] (.auto)
abbrev kgz (N : List Int) : Nat × KObj := (1, .cells true 1 (List.flatMap boolC (wtLd N)))
abbrev kgx : Nat × Value := (12, .pointer (some ⟨2, 0, none⟩))
theorem Eltimes (sp : Value) (N S : List Int) (z c m : Int) : vF prog msk (dm 0) 100000 true 40 true 3 [.iface ((List.length N) + 1) (.agg ⟨(List.flatMap intC N)⟩), .iface ((List.length S) + 1) (.agg ⟨(List.flatMap intC S)⟩), .int .i64 z, .int .i64 c, .int .i64 m] ⟨0, .leaf⟩ (some [])
 (.go 3 (.fork kg1c (.go 4 (.answ [(0, .cells true 0 (kgk N))] (kg16 N) [(0, .cells true 0 (kg8 N))] [.cells true 1 (List.flatMap boolC (wtLd N))] (.go 0 (.ans [] (.int .i64 (z % 30)) [] (.go 0 (.slot 39 (.int .i64 (1 + (z % 30))) (.go 7 (.answ [(0, .cells true 0 (kg8 N)), (kgz N)] (.slice (some ⟨3, 0, some 2⟩) 121 121) [(0, .cells true 0 (kgs N z))] [.cells true 1 (List.flatMap intC (atL N (pcP z)))] (.go 3 (.inv 3 (Nat) (0) [] [2] (fun x3 => [(16, .int .i64 (kgy x3)), (14, .int .i64 (kg10 N S z x3)), (15, .int .i64 (kg1b N S z x3)), (4, .int .i64 m), (3, .int .i64 c), (1, .iface ((List.length S) + 1) (.agg ⟨(List.flatMap intC S)⟩)), (10, .bool false), kgx, (13, .slice (some ⟨3, 0, some 2⟩) 121 121)]) (fun x3 => [(2, false, .cells true 0 (kgw N z S x3))]) (fun x3 => [(true, .cells true 2 (List.flatMap spC (sgt N S z x3)))]) (fun x3 => []) (fun x3 => (x3 <= List.length S)) (fun x3 => (List.length S - x3)) (fun x3 => .go 3 (.fork (.go 1 (.need (.val (.int .i64 (kg12 S x3)) (.ans [] (.int .i64 ((kg12 S x3) % 121)) [] (.go 2 (.need (.val (.int .i64 (kgb N z S x3)) (.go 0 (.fork (.go 1 (.slot 52 (.int .i64 ((kgy x3) + 1)) (.go 0 (.again [(4, 4)])))) (.go 4 (.need (.val (.int .i64 (kgb N z S x3)) (.go 1 (.need (.go 11 (.slot 52 (.int .i64 ((kgy x3) + 1)) (.go 0 (.again [(4, 6)])))))))))))))))))) (.go 3 (.fork kg1c (.go 4 (.ans [] (.int .i64 (c % (kgr N))) [] (.go 4 (.need (.val (.bool (kg5 N c)) (.join 3 (Int) [] (fun x5 => [(18, .int .i64 x5), (14, .int .i64 (kg10 N S z x3)), (15, .int .i64 (kg1b N S z x3)), (4, .int .i64 m), (10, .bool false), kgx]) (fun x5 => []) (fun x5 => []) (fun x5 => []) (fun x5 => (kg1d N c x5)) (.go 0 (.again [])) (.again []) (fun x5 => .go 4 (.slot 101 (.int .i64 ((kg1b N S z x3) - (kg10 N S z x3))) (.go 0 (.slot 102 (.int .i64 (((kg1b N S z x3) - (kg10 N S z x3)) + 1)) (.ans [] (.int .i64 (m % (((kg1b N S z x3) - (kg10 N S z x3)) + 1))) [] (.go 0 (.slot 104 (.int .i64 ((kg10 N S z x3) + (m % (((kg1b N S z x3) - (kg10 N S z x3)) + 1)))) (.go 2 (.ans [(kgz N), (4, .cells true 2 (List.flatMap spC (sgt N S z x3)))] (.tuple #[.slice (some ⟨5, 0, some 1⟩) (kg17 N z S x3 m) (kg17 N z S x3 m), .int .i64 0]) [.cells true 1 (List.flatMap intC (kg0 N z S x3 m))] (.go 6 (.ans [(kgz N), (4, .cells true 2 (List.flatMap spC (sgt N S z x3)))] (.tuple #[.slice (some ⟨6, 0, some 1⟩) (kg1e N z S x3 x5) (kg1e N z S x3 x5), .int .i64 0]) [.cells true 2 (kgt N z S x3 x5)] (.go 13 (.ans [(5, .cells true 1 (List.flatMap intC (kg0 N z S x3 m)))] (.bool (List.any (kg0 N z S x3 m) (fun v => v == x5))) [] (.go 1 (.ans [(6, .cells true 2 (kgt N z S x3 x5))] (.bool (kgn N z S x3 x5 m)) [] (.go 1 (.fork (.auto) (.go 0 (.inv 3 (Nat) (0) [] [] (fun x11 => [(24, .int .i64 (kgc x11)), kgx, (15, .int .i64 (kg1b N S z x3)), (14, .int .i64 (kg10 N S z x3)), (19, .int .i64 ((kg10 N S z x3) + (m % (((kg1b N S z x3) - (kg10 N S z x3)) + 1)))), (20, .slice (some ⟨5, 0, some 1⟩) (kg17 N z S x3 m) (kg17 N z S x3 m)), (21, .int .i64 0), (22, .slice (some ⟨6, 0, some 1⟩) (kg1e N z S x3 x5) (kg1e N z S x3 x5))]) (fun x11 => []) (fun x11 => []) (fun x11 => []) (fun x11 => (x11 <= List.length (kg7 N z S x3 x5))) (fun x11 => (List.length (kg7 N z S x3 x5) - x11)) (fun x11 => .go 3 (.fork (.go 1 (.need (.go 0 (.val (.int .i64 (kgf N z S x3 x5 x11).1) (.go 2 (.gfork (.auto) (.go 1 (.need (.go 0 (.val (.int .i64 (kgf N z S x3 x5 x11).2) (.go 3 (.gfork (.auto) (.go 1 (.need (.go 0 (.val (.int .i64 (kgf N z S x3 x5 x11).1) (.go 1 (.need (.go 0 (.val (.int .i64 (kgf N z S x3 x5 x11).2) (.go 2 (.gfork (.auto) (.go 2 (.gfork (.go 1 (.need (.go 0 (.val (.int .i64 (kgf N z S x3 x5 x11).1) (.go 2 (.slot 178 (.int .i64 ((kgc x11) - 1)) (.need (.go 0 (.val (.int .i64 (kgp N z S x3 x5 x11).2) (.go 0 (.slot 182 (.int .i64 ((kgp N z S x3 x5 x11).2 + 1)) (.go 2 (.fork (.auto) (.go 1 (.slot 137 (.int .i64 ((kgc x11) + 1)) (.go 0 (.again []))))))))))))))))) (.go 4 (.slot 137 (.int .i64 ((kgc x11) + 1)) (.go 0 (.again [])))))))))))))))))))))))))))) (.go 8 (.slot 191 (.int .i64 ((((kgi N S z x3) : Nat) : Int) - 1)) (.go 0 (.inv 3 (Nat) (0) [] [7] (fun x12 => [(26, .int .i64 ((kgd N S z x3) - 1 - (kg11 x12))), (21, .int .i64 0), (20, .slice (some ⟨5, 0, some 1⟩) (kg17 N z S x3 m) (kg17 N z S x3 m)), (19, .int .i64 ((kg10 N S z x3) + (m % (((kg1b N S z x3) - (kg10 N S z x3)) + 1)))), kgx, (25, .pointer (some ⟨7, 0, none⟩))]) (fun x12 => [(7, false, .cells true 0 [.int .i64 (wtW N 0), .int .i64 (wtH N 0), .slice (some ⟨1, 0, some 1⟩) (kg4 N) (kg4 N), .int .i64 (1 + (z % 30)), .slice (some ⟨8, 0, some 1⟩) (kgv N S z x3 x12) (kgv N S z x3 x12)])]) (fun x12 => [(true, .cells true 2 (kg18 N S z x3 x12))]) (fun x12 => []) (fun x12 => (x12 <= List.length (sgt N S z x3))) (fun x12 => (List.length (sgt N S z x3) - x12)) (fun x12 => .go 1 (.fork (.go 4 (.need (.val (kg14 N S z x3 x12) (.go 2 (.need (.val (kg14 N S z x3 x12) (.go 0 (.need (.go 3 (.slot 195 (.int .i64 (((kgd N S z x3) - 1 - (kg11 x12)) - 1)) (.go 0 (.again [(8, 10)])))))))))))) (.go 1 (.ans [(kgz N), (8, .cells true 2 (kg18 N S z x3 x12))] (.tuple #[.slice (some ⟨9, 0, some 1⟩) (List.length (kg3 N z S x3 x12 m)) (List.length (kg3 N z S x3 x12 m)), .int .i64 0]) [.cells true 1 (List.flatMap intC (kg3 N z S x3 x12 m))] (.go 9 (.ans [(9, .cells true 1 (List.flatMap intC (kg3 N z S x3 x12 m))), (5, .cells true 1 (List.flatMap intC (kg0 N z S x3 m)))] (.bool (decide ((kg3 N z S x3 x12 m) = (kg0 N z S x3 m)))) [] (.go 1 (.gfork kg1c (.auto))))))))))))))))))))))))))))))))))))))))))))))))))))))))
 (fun v _ _ => v = sp) = Rltimes sp N S z c m := by kernel_rfl
end
end Go.Proofs.YtbgfjemppjhmjaaGreat
/- Radio: lists of numbers in laws' arguments. No condition. -/
namespace Go.Proofs.YtbgfjemppjhmjaaGreat
set_option linter.unusedSimpArgs false
set_option linter.unusedVariables false
open Go Go.K
noncomputable section
abbrev dI (L : List Int) : Value := .iface (L.length + 1) (.agg ⟨L.flatMap intC⟩)
theorem dI_b (L : List Int) : belowC 0 (dI L) = true := all_belowD 0 L
theorem args_rn {vs : List Value} (h : vs.all (belowC 0) = true) (σ : Nat -> Option Nat) : vs.map (rn σ 5) = vs := (rnCl (σ := σ) (d := 2) h).1
end
end Go.Proofs.YtbgfjemppjhmjaaGreat
/- Radio: RadioTimes: the law. No condition. -/
namespace Go.Proofs.YtbgfjemppjhmjaaGreat
open Go Go.K
set_option maxRecDepth 100000
set_option linter.unusedVariables false
set_option linter.unusedSimpArgs false
noncomputable section
attribute [local irreducible] vF
theorem wkTrk {w h p : Int} {i j n k : Nat} : wk (.agg #[.int .i64 w, .int .i64 h, .slice (some ⟨i, 0, some 1⟩) n n, .int .i64 p, .slice (some ⟨j, 0, some 1⟩) k k]) (.agg #[.int .i64 w, .int .i64 h, .slice (some ⟨i, 0, some 2⟩) n n, .int .i64 p, .slice (some ⟨j, 0, some 2⟩) k k]) :=
 wk_aggL (wks_cons (wk_refl _) (wks_cons (wk_refl _) (wks_cons wk_QR (wks_cons (wk_refl _) (wks_cons wk_QR wks_nil)))))
theorem wkBas {w h : Int} {i n : Nat} : wk (.agg #[.int .i64 w, .int .i64 h, .slice (some ⟨i, 0, some 1⟩) n n]) (.agg #[.int .i64 w, .int .i64 h, .slice (some ⟨i, 0, some 2⟩) n n]) :=
 wk_aggL (wks_cons (wk_refl _) (wks_cons (wk_refl _) (wks_cons wk_QR wks_nil)))
theorem kWhQ {N : List Int} {z m : Int} {ss : List (Int × Int)} (hl : ss.length <= 20) (k : Seen1 (atL N (pcP z)) ss) (hm : 0 <= m /\ m <= 100000) {H : Heap} {i j : Nat} (hne : i ≠ j) {o1 o2 : Bool} {z1 z2 : Nat} (hi : H[i]? = some (.cells o1 z1 ((wtLd N).flatMap boolC))) (hj : H[j]? = some (.cells o2 z2 (ss.flatMap spC))) :
  KCall prog 18 [.agg #[.int .i64 (wtW N 0), .int .i64 (wtH N 0), .slice (some ⟨i, 0, some 1⟩) (wtLd N).length (wtLd N).length, .int .i64 (1 + z % 30), .slice (some ⟨j, 0, some 1⟩) ss.length ss.length], .int .i64 m] H [] (Is (.tuple #[.slice (some ⟨H.length, 0, some 1⟩) (whQ N z ss m).length (whQ N z ss m).length, .int .i64 0]) (H ++ [.cells true 1 ((whQ N z ss m).flatMap intC)])) :=
 KCall.wkA (kWhere (wt_err hl k) hm (wt_cf hl k) hne hi hj) (wks_cons wkTrk (wks_cons (wk_refl _) wks_nil))
theorem kTmQ {N : List Int} {z c : Int} {ss : List (Int × Int)} (hl : ss.length <= 20) (k : Seen1 (atL N (pcP z)) ss) (h0 : 0 < ss.length) (hs : seaB (wtLd N) c = true) {H : Heap} {i j : Nat} (hne : i ≠ j) {o1 o2 : Bool} {z1 z2 : Nat} (hi : H[i]? = some (.cells o1 z1 ((wtLd N).flatMap boolC))) (hj : H[j]? = some (.cells o2 z2 (ss.flatMap spC))) :
  KCall prog 19 [.agg #[.int .i64 (wtW N 0), .int .i64 (wtH N 0), .slice (some ⟨i, 0, some 1⟩) (wtLd N).length (wtLd N).length, .int .i64 (1 + z % 30), .slice (some ⟨j, 0, some 1⟩) ss.length ss.length], .int .i64 c] H [] (Is (.tuple #[.slice (some ⟨H.length, 0, some 1⟩) (tmQ N z ss c).length (tmQ N z ss c).length, .int .i64 0]) (H ++ [.cells true 2 ((tmQ N z ss c).flatMap spC)])) :=
 KCall.wkA (kTimes (wt_err hl k) hs h0 (wt_cf hl k) hne hi hj) (wks_cons wkTrk (wks_cons (wk_refl _) wks_nil))
theorem sgt_yes {N S : List Int} {z : Int} {x : Nat} (h : ¬ (atL N (pcP z)).getD (Int.toNat (S.getD x 0 % 121)) 0 < 0) : sgt N S z (x + 1) = sgt N S z x ++ [(S.getD x 0 % 121, (atL N (pcP z)).getD (Int.toNat (S.getD x 0 % 121)) 0)] := by
 show (if _ then _ else _) = _
 rw [if_neg h]; rfl
theorem sgt_no {N S : List Int} {z : Int} {x : Nat} (h : (atL N (pcP z)).getD (Int.toNat (S.getD x 0 % 121)) 0 < 0) : sgt N S z x = sgt N S z (x + 1) := by
 symm
 show (if _ then _ else _) = _
 rw [if_pos h]; rfl
theorem bkL_succ (ss : List (Int × Int)) (x : Nat) : bkL ss (x + 1) = bkL ss x ++ [ss.getD (ss.length - 1 - x) zeroSp, ss.getD (ss.length - 1 - x) zeroSp] := rfl
theorem wk_snoc2 {α : Type} {L M : List α} {x y : α} {id : Nat} (hM : M = L ++ [x, y]) : wk (.slice (some ⟨id, 0, none⟩) (L.length + 2) (L.length + 2)) (.slice (some ⟨id, 0, some 1⟩) M.length M.length) := by
 have : M.length = L.length + 2 := by rw [hM, List.length_append]; rfl
 rw [this]; exact wk_Q (by omega)
theorem ob_sp2 {L M : List (Int × Int)} {x y : Int × Int} {c : List Value} (hM : M = L ++ [x, y]) (hc : spC x ++ spC y = c) : (some (KObj.cells true 2 (List.take (L.length * 2) (List.drop 0 (L.flatMap spC)) ++ List.take (2 * 2) (List.drop 0 c))) : Option KObj) = some (.cells true 2 (M.flatMap spC)) := by
 subst hc hM
 rw [List.drop_zero, List.drop_zero, List.take_of_length_le (by rw [flat_len spC_len]; omega), List.flatMap_append]; rfl
theorem cl_sea {N : List Int} {x : Int} (h : 0 <= x /\ x < ((wtLd N).length : Int)) (k : (wtLd N).getD (Int.toNat x) false = false) : seaB (wtLd N) x = true := by
 unfold seaB
 rw [decide_eq_true h.1, decide_eq_true (show x <= (((wtLd N).length : Nat) : Int) - 1 by omega), k]; rfl
theorem hvTimesL (N S : List Int) (z c m : Int) : Rltimes (.bool true) N S z c m := by
 delta Rltimes kg15 kgk kg4 kg16 kg8 kg1j kg9 kgs kg1h kge kg13 kga kgu kgy kg12 kg1k kgb kg10 kg1b kgi kgw kgq kgl kg1a kg1g kgr kg5 kg1f kgh kg1i kg1d kg0 kg17 kgm kg7 kg1e kgt kgn kg1 kgc kgj kgf kg19 kgp kgg kgd kg6 kg11 kg2 kg14 kgv kg18 kgo kg3
 refine ⟨fun _ => ⟨trivial, fun H' _ _ => kAwake H', rfl⟩, fun k0 => ?_⟩
 have hS : S.length <= 10 := by have := of_decide_eq_false k0; omega
 have hp := pcP_bd z
 have hp' : 1 <= 1 + z % 30 /\ 1 + z % 30 <= 30 := hp
 have b := wtBas N
 have hwh := wtWH_bd N 0
 have hld : (wtLd N).length = Int.toNat (wtW N 0 * wtH N 0) := wtLand_len N _
 have hAt := (wtPath N z).2
 refine ⟨⟨rfl, trivial⟩, fun H' hl h => ?_, trivial, fun H' _ _ => kPick z 30 (by omega) (by omega) H', vI64 (by omega), ⟨rfl, rfl, trivial⟩, fun H' hl h => ?_, rfl, Nat.zero_le _, ?_, fun _ => rfl, fun x hx => ⟨fun k => ?_, fun k => ?_⟩⟩
 ·have := kWaters N h.1
  rw [hl] at this; exact this
 ·have := kSails (L := N) (q := wtN (Int.toNat (wtW N 0 * wtH N 0))) b hp (by unfold wtN; omega) (D := 0) (i := 1) (by decide) h.1 h.2.1
  rw [hl] at this
  exact KCall.wkA this (wks_cons (wk_refl _) (wks_cons wkBas (wks_cons (wk_refl _) (wks_cons (wk_refl _) wks_nil))))
 ·repeat' first | exact (inV_rn _ 0 S).symm | exact wk_nil _ _ _ (.inl rfl) | exact trivial | exact rfl | exact wk_refl _ | refine wkO_cells ?_ | refine wks_cons ?_ ?_ | exact wks_nil | exact wk_nil _ _ _ (.inl rfl) | (exact wk_Q (by omega)) | refine wk_tupL ?_ | refine wk_aggL ?_ | refine joinMax ?_ ?_ ?_ | refine joinMin ?_ ?_ ?_ | refine toMax ?_ | refine toMin ?_ | refine ⟨rfl, ?_⟩ | refine ⟨trivial, ?_⟩ | (refine forkD (fun h => ?_) (fun h => ?_)) | (refine forkNe (fun h => ?_) (fun h => ?_)) | (refine forkEq (fun h => ?_) (fun h => ?_)) | refine forkNot ?_ | (refine ⟨vI64 (by omega), ?_⟩) | (refine And.intro (by omega) ?_) | apply And.intro | (exact iEq (by omega)) | (exact vI64 (by omega))
 ·have h1 : x < S.length := by have := of_decide_eq_true k; omega
  have hsl : (sgt N S z x).length <= x := sgL_len ..
  have v1 := Int.emod_nonneg (S.getD x 0) (b := 121) (by omega)
  have v2 := Int.emod_lt_of_pos (S.getD x 0) (b := 121) (by omega)
  refine ⟨⟨by omega, by omega⟩, intAt h1 (by omega), trivial, fun H' _ _ => kPick _ 121 (by omega) (by omega) H', ⟨v1, v2⟩, intAt (by omega) (by omega), fun g => ?_, fun g => ⟨⟨v1, v2⟩, intAt (by omega) (by omega), ?_⟩⟩
  ·have e := sgt_no (of_decide_eq_true g)
   refine ⟨vI64 (by omega), x + 1, by omega, by omega, rfl, ?_⟩
   rw [<- e]
   repeat' first | exact (inV_rn _ 0 S).symm | exact spB _ _ | exact trivial | exact rfl | exact wk_refl _ | refine wkO_cells ?_ | refine wks_cons ?_ ?_ | exact wks_nil | exact wk_nil _ _ _ (.inl rfl) | (exact wk_Q (by omega)) | refine wk_tupL ?_ | refine wk_aggL ?_ | refine joinMax ?_ ?_ ?_ | refine joinMin ?_ ?_ ?_ | refine toMax ?_ | refine toMin ?_ | refine ⟨rfl, ?_⟩ | refine ⟨trivial, ?_⟩ | (refine forkD (fun h => ?_) (fun h => ?_)) | (refine forkNe (fun h => ?_) (fun h => ?_)) | (refine forkEq (fun h => ?_) (fun h => ?_)) | refine forkNot ?_ | (refine ⟨vI64 (by omega), ?_⟩) | (refine And.intro (by omega) ?_) | apply And.intro | (exact iEq (by omega)) | (exact vI64 (by omega))
  ·have e := sgt_yes (of_decide_eq_false g)
   refine ⟨⟨by omega, by decide, ⟨Nat.le_refl _, by rw [flat_len spC_len]; omega⟩, ⟨Nat.le_refl _, by simp⟩, rfl⟩, rfl, vI64 (by omega), x + 1, by omega, by omega, rfl, ?_⟩
   have e1 := lsQ_snoc (sgt N S z x) (S.getD x 0 % 121, (atL N (pcP z)).getD (Int.toNat (S.getD x 0 % 121)) 0)
   have e2 := msQ_snoc (sgt N S z x) (S.getD x 0 % 121, (atL N (pcP z)).getD (Int.toNat (S.getD x 0 % 121)) 0)
   rw [<- e] at e1 e2
   repeat' first | exact (inV_rn _ 0 S).symm | exact wk_snoc e | exact ob_snoc spC_len e rfl | exact spB _ _ | exact congrArg (Value.int .i64) e1.symm | exact congrArg (Value.int .i64) e2.symm | exact trivial | exact rfl | exact wk_refl _ | refine wkO_cells ?_ | refine wks_cons ?_ ?_ | exact wks_nil | exact wk_nil _ _ _ (.inl rfl) | (exact wk_Q (by omega)) | refine wk_tupL ?_ | refine wk_aggL ?_ | refine joinMax ?_ ?_ ?_ | refine joinMin ?_ ?_ ?_ | refine toMax ?_ | refine toMin ?_ | refine ⟨rfl, ?_⟩ | refine ⟨trivial, ?_⟩ | (refine forkD (fun h => ?_) (fun h => ?_)) | (refine forkNe (fun h => ?_) (fun h => ?_)) | (refine forkEq (fun h => ?_) (fun h => ?_)) | refine forkNot ?_ | (refine ⟨vI64 (by omega), ?_⟩) | (refine And.intro (by omega) ?_) | apply And.intro | (exact iEq (by omega)) | (exact vI64 (by omega))
 ·have h1 : x = S.length := by have := of_decide_eq_false k; omega
  have hsl : (sgt N S z x).length <= x := sgL_len ..
  have hseen : Seen1 (atL N (pcP z)) (sgt N S z x) := sgL_seen _ _ _
  generalize hss : sgt N S z x = ss at *
  refine ⟨fun _ => ⟨trivial, fun H' _ _ => kAwake H', rfl⟩, fun k1 => ?_⟩
  have h0 : 0 < ss.length := by
   have : ¬ ((ss.length : Nat) : Int) = 0 := fun e => by rw [e] at k1; cases k1
   omega
  have hc1 := Int.emod_nonneg c (b := (((wtLd N).length : Nat) : Int)) (by omega)
  have hc2 := Int.emod_lt_of_pos c (b := (((wtLd N).length : Nat) : Int)) (by omega)
  have hls := lsQ_is h0 (fun s hs => (hseen s hs).1)
  have hms := msQ_is ss
  obtain ⟨b1, b2, b3⟩ := lm_bd (ss := ss) (fun s hs => by have := (hseen s hs).1; omega) ss.length (Nat.le_refl _)
  have hle : lsT ss ss.length <= msT ss ss.length := by have := b3 0 h0; omega
  rw [hls, hms]
  have hm1 := Int.emod_nonneg m (b := msT ss ss.length - lsT ss ss.length + 1) (by omega)
  have hm2 := Int.emod_lt_of_pos m (b := msT ss ss.length - lsT ss ss.length + 1) (by omega)
  refine ⟨trivial, fun H' _ _ => kPick c _ (by omega) (by omega) H', ⟨hc1, hc2⟩, boolAt (by omega) (by omega), rfl, fun g => ⟨0, .inl ⟨g, rfl, trivial⟩, rfl, ?_⟩, fun g => ⟨_, .inr ⟨g, rfl, trivial⟩, rfl, ?_⟩, fun x5 hx5 => ?_⟩
  ·repeat' first | exact trivial | exact rfl | exact wk_refl _ | refine wkO_cells ?_ | refine wks_cons ?_ ?_ | exact wks_nil | exact wk_nil _ _ _ (.inl rfl) | (exact wk_Q (by omega)) | refine wk_tupL ?_ | refine wk_aggL ?_ | refine joinMax ?_ ?_ ?_ | refine joinMin ?_ ?_ ?_ | refine toMax ?_ | refine toMin ?_ | refine ⟨rfl, ?_⟩ | refine ⟨trivial, ?_⟩ | (refine forkD (fun h => ?_) (fun h => ?_)) | (refine forkNe (fun h => ?_) (fun h => ?_)) | (refine forkEq (fun h => ?_) (fun h => ?_)) | refine forkNot ?_ | (refine ⟨vI64 (by omega), ?_⟩) | (refine And.intro (by omega) ?_) | apply And.intro | (exact iEq (by omega)) | (exact vI64 (by omega))
  ·repeat' first | exact trivial | exact rfl | exact wk_refl _ | refine wkO_cells ?_ | refine wks_cons ?_ ?_ | exact wks_nil | exact wk_nil _ _ _ (.inl rfl) | (exact wk_Q (by omega)) | refine wk_tupL ?_ | refine wk_aggL ?_ | refine joinMax ?_ ?_ ?_ | refine joinMin ?_ ?_ ?_ | refine toMax ?_ | refine toMin ?_ | refine ⟨rfl, ?_⟩ | refine ⟨trivial, ?_⟩ | (refine forkD (fun h => ?_) (fun h => ?_)) | (refine forkNe (fun h => ?_) (fun h => ?_)) | (refine forkEq (fun h => ?_) (fun h => ?_)) | refine forkNot ?_ | (refine ⟨vI64 (by omega), ?_⟩) | (refine And.intro (by omega) ?_) | apply And.intro | (exact iEq (by omega)) | (exact vI64 (by omega))
  have hsea : seaB (wtLd N) x5 = true := by
   rcases hx5 with ⟨_, e, _⟩ | ⟨g, e, _⟩
   ·rw [e]; exact cl_sea ⟨Int.le_refl _, by omega⟩ (wtLd_0 N)
   ·rw [e]; exact cl_sea ⟨hc1, hc2⟩ g
  have hx5' := (seaB_in hsea).1
  have t := trOk (wt_err (by omega) hseen)
  obtain ⟨M, hM⟩ : ∃ M, lsT ss ss.length + m % (msT ss ss.length - lsT ss ss.length + 1) = M := ⟨_, rfl⟩
  have heq : (List.any (whQ N z ss M) fun v => v == x5) = notF (tmQ N z ss x5) M := by
   unfold whQ tmQ rwQ
   rw [whL_has hx5', tm_cov t hx5' (by omega), hsea, Bool.true_and]
  obtain ⟨tr1, tr2⟩ := tm_run (p := pcP z) (rr := rwQ N ss) (c := x5) hle
  have tr3 := tm_len (p := pcP z) (ss := ss) (rr := rwQ N ss) (c := x5)
  rw [show tmL (pcP z) ss (rwQ N ss) x5 = tmQ N z ss x5 from rfl] at tr1 tr2 tr3
  have wl : (whQ N z ss M).length <= 1024 := by
   have := whL_le (wtLd N) (pcP z) ss (rwQ N ss) M (wtLd N).length
   unfold whQ; omega
  refine ⟨vI64 (by omega), vI64 (by omega), trivial, fun H' _ _ => kPick m _ (by omega) (by omega) H', vI64 (by omega), ?_⟩
  rw [hM]
  refine ⟨⟨rfl, rfl, trivial⟩, fun H' hl h => hl ▸ kWhQ (by omega) hseen (by omega) (by decide) h.1 h.2.1, ⟨rfl, rfl, trivial⟩, fun H' hl h => hl ▸ kTmQ (by omega) hseen h0 hsea (by decide) h.1 h.2.1, ⟨rfl, trivial⟩, fun H' hl h => KCall.wkA (kHas _ x5 (by omega) h.1) (wks_cons wk_QR (wks_cons (wk_refl _) wks_nil)), ⟨rfl, trivial⟩, fun H' hl h => KCall.wkA (kCovers _ M (by omega) h.1) (wks_cons wk_QR (wks_cons (wk_refl _) wks_nil)), fun g => (by rw [heq] at g; simp at g), fun _ => ⟨rfl, Nat.zero_le _, ?_, fun _ => rfl, fun y hy => ⟨fun ky => ?_, fun ky => ?_⟩⟩⟩
  ·repeat' first | exact trivial | exact rfl | exact wk_refl _ | refine wkO_cells ?_ | refine wks_cons ?_ ?_ | exact wks_nil | exact wk_nil _ _ _ (.inl rfl) | (exact wk_Q (by omega)) | refine wk_tupL ?_ | refine wk_aggL ?_ | refine joinMax ?_ ?_ ?_ | refine joinMin ?_ ?_ ?_ | refine toMax ?_ | refine toMin ?_ | refine ⟨rfl, ?_⟩ | refine ⟨trivial, ?_⟩ | (refine forkD (fun h => ?_) (fun h => ?_)) | (refine forkNe (fun h => ?_) (fun h => ?_)) | (refine forkEq (fun h => ?_) (fun h => ?_)) | refine forkNot ?_ | (refine ⟨vI64 (by omega), ?_⟩) | (refine And.intro (by omega) ?_) | apply And.intro | (exact iEq (by omega)) | (exact vI64 (by omega))
  ·have hy1 : y < (tmQ N z ss x5).length := by have := of_decide_eq_true ky; omega
   have hv := tr1 _ (getD_mem (d := zeroSp) hy1)
   have hbad : ∀ {P : Prop}, False -> P := fun f => f.elim
   refine ⟨⟨by omega, by omega⟩, spAt0 hy1 (by omega), fun g => absurd (of_decide_eq_true g) (by omega), fun _ => ⟨⟨by omega, by omega⟩, spAt1 hy1 (by omega), fun g => absurd (of_decide_eq_true g) (by omega), fun _ => ⟨⟨by omega, by omega⟩, spAt0 hy1 (by omega), ⟨by omega, by omega⟩, spAt1 hy1 (by omega), fun g => absurd (of_decide_eq_true g) (by omega), fun _ => ⟨fun g => ?_, fun g => ⟨vI64 (by omega), y + 1, by omega, by omega, rfl, ?_⟩⟩⟩⟩⟩
   ·have hg : 0 < y := by have := of_decide_eq_true g; omega
    have hv2 := tr1 _ (getD_mem (d := zeroSp) (show y - 1 < (tmQ N z ss x5).length by omega))
    have hgap := List.pairwise_iff_getElem.1 tr2 (y - 1) y (by omega) hy1 (by omega)
    have e1 : (tmQ N z ss x5)[y - 1] = (tmQ N z ss x5).getD (y - 1) zeroSp := by rw [List.getD_eq_getElem?_getD, List.getElem?_eq_getElem (by omega)]; rfl
    have e2 : (tmQ N z ss x5)[y] = (tmQ N z ss x5).getD y zeroSp := by rw [List.getD_eq_getElem?_getD, List.getElem?_eq_getElem hy1]; rfl
    rw [e1, e2] at hgap
    have en : Int.toNat ((y : Int) - 1) = y - 1 := by omega
    rw [en]
    refine ⟨⟨by omega, by omega⟩, spAt0 hy1 (by omega), vI64 (by omega), ⟨by omega, by omega⟩, spAt1 (by omega) (by omega), vI64 (by omega), fun q => absurd (of_decide_eq_true q) (by omega), fun _ => ⟨vI64 (by omega), y + 1, by omega, by omega, rfl, ?_⟩⟩
    repeat' first | exact trivial | exact rfl | exact wk_refl _ | refine wkO_cells ?_ | refine wks_cons ?_ ?_ | exact wks_nil | exact wk_nil _ _ _ (.inl rfl) | (exact wk_Q (by omega)) | refine wk_tupL ?_ | refine wk_aggL ?_ | refine joinMax ?_ ?_ ?_ | refine joinMin ?_ ?_ ?_ | refine toMax ?_ | refine toMin ?_ | refine ⟨rfl, ?_⟩ | refine ⟨trivial, ?_⟩ | (refine forkD (fun h => ?_) (fun h => ?_)) | (refine forkNe (fun h => ?_) (fun h => ?_)) | (refine forkEq (fun h => ?_) (fun h => ?_)) | refine forkNot ?_ | (refine ⟨vI64 (by omega), ?_⟩) | (refine And.intro (by omega) ?_) | apply And.intro | (exact iEq (by omega)) | (exact vI64 (by omega))
   ·repeat' first | exact trivial | exact rfl | exact wk_refl _ | refine wkO_cells ?_ | refine wks_cons ?_ ?_ | exact wks_nil | exact wk_nil _ _ _ (.inl rfl) | (exact wk_Q (by omega)) | refine wk_tupL ?_ | refine wk_aggL ?_ | refine joinMax ?_ ?_ ?_ | refine joinMin ?_ ?_ ?_ | refine toMax ?_ | refine toMin ?_ | refine ⟨rfl, ?_⟩ | refine ⟨trivial, ?_⟩ | (refine forkD (fun h => ?_) (fun h => ?_)) | (refine forkNe (fun h => ?_) (fun h => ?_)) | (refine forkEq (fun h => ?_) (fun h => ?_)) | refine forkNot ?_ | (refine ⟨vI64 (by omega), ?_⟩) | (refine And.intro (by omega) ?_) | apply And.intro | (exact iEq (by omega)) | (exact vI64 (by omega))
  ·refine ⟨vI64 (by omega), rfl, Nat.zero_le _, ?_, fun _ => rfl, fun u hu => ⟨fun ku => ?_, fun ku => ?_⟩⟩
   ·repeat' first | exact wk_nil _ _ _ (.inl rfl) | exact trivial | exact rfl | exact wk_refl _ | refine wkO_cells ?_ | refine wks_cons ?_ ?_ | exact wks_nil | exact wk_nil _ _ _ (.inl rfl) | (exact wk_Q (by omega)) | refine wk_tupL ?_ | refine wk_aggL ?_ | refine joinMax ?_ ?_ ?_ | refine joinMin ?_ ?_ ?_ | refine toMax ?_ | refine toMin ?_ | refine ⟨rfl, ?_⟩ | refine ⟨trivial, ?_⟩ | (refine forkD (fun h => ?_) (fun h => ?_)) | (refine forkNe (fun h => ?_) (fun h => ?_)) | (refine forkEq (fun h => ?_) (fun h => ?_)) | refine forkNot ?_ | (refine ⟨vI64 (by omega), ?_⟩) | (refine And.intro (by omega) ?_) | apply And.intro | (exact iEq (by omega)) | (exact vI64 (by omega))
   ·have hu1 : u < ss.length := by have := of_decide_eq_true ku; omega
    have en : Int.toNat ((ss.length : Int) - 1 - (u : Int)) = ss.length - 1 - u := by omega
    have hbl := bkL_len ss u
    have es := bkL_succ ss u
    rw [en]
    refine ⟨⟨by omega, by omega⟩, spPart (by omega) (by omega), ⟨by omega, by omega⟩, spPart (by omega) (by omega), ⟨by omega, by decide, ⟨Nat.le_refl _, by rw [flat_len spC_len]; omega⟩, ⟨Nat.le_refl _, by simp⟩, rfl⟩, rfl, vI64 (by omega), u + 1, by omega, by omega, rfl, ?_⟩
    repeat' first | exact wk_snoc2 es | exact ob_sp2 es rfl | exact spB _ _ | exact trivial | exact rfl | exact wk_refl _ | refine wkO_cells ?_ | refine wks_cons ?_ ?_ | exact wks_nil | exact wk_nil _ _ _ (.inl rfl) | (exact wk_Q (by omega)) | refine wk_tupL ?_ | refine wk_aggL ?_ | refine joinMax ?_ ?_ ?_ | refine joinMin ?_ ?_ ?_ | refine toMax ?_ | refine toMin ?_ | refine ⟨rfl, ?_⟩ | refine ⟨trivial, ?_⟩ | (refine forkD (fun h => ?_) (fun h => ?_)) | (refine forkNe (fun h => ?_) (fun h => ?_)) | (refine forkEq (fun h => ?_) (fun h => ?_)) | refine forkNot ?_ | (refine ⟨vI64 (by omega), ?_⟩) | (refine And.intro (by omega) ?_) | apply And.intro | (exact iEq (by omega)) | (exact vI64 (by omega))
   ·have hu1 : u = ss.length := by have := of_decide_eq_false ku; omega
    subst hu1
    have hbl := bkL_len ss ss.length
    have hs2 : Seen1 (atL N (pcP z)) (bkL ss ss.length) := fun s hs => hseen s ((bkL_all s).1 hs)
    have hsame : whQ N z (bkL ss ss.length) M = whQ N z ss M := whL_set fun s => bkL_all s
    refine ⟨⟨rfl, rfl, trivial⟩, fun H' hl h => hl ▸ kWhQ (by omega) hs2 (by omega) (by decide) h.1 h.2.1, ⟨rfl, rfl, trivial⟩, fun H' hl h => KCall.wkA (kSame _ _ (by rw [hsame]; omega) (by omega) h.1 h.2.1) (wks_cons wk_QR (wks_cons wk_QR wks_nil)), fun _ => ⟨trivial, fun H' _ _ => kAwake H', rfl⟩, fun g => absurd hsame (of_decide_eq_false g)⟩
theorem kTimesLaw (N S : List Int) (z c m : Int) (H : Heap) : KCall prog 3 [dI N, dI S, .int .i64 z, .int .i64 c, .int .i64 m] H [] (Is (.bool true) H) :=
 valK 40 (args_rn (by show (belowC 0 (dI N) && (belowC 0 (dI S) && true)) = true; rw [dI_b, dI_b]; rfl)) rfl (Eq.mpr (Eltimes _ N S z c m) (hvTimesL N S z c m)) H
end
end Go.Proofs.YtbgfjemppjhmjaaGreat
/- How laws' arguments are read. No condition. -/
namespace Go.Proofs.YtbgfjemppjhmjaaGreat
set_option linter.unusedSimpArgs false
open Go Go.K Go.ChangeShapes Go.WideShapes Go.ChangeAt Go.RowKit
set_option maxRecDepth 100000
set_option linter.unusedVariables false
noncomputable section
theorem own : ownKnob Tryz.prog.godebug = none := by kernel_rfl
theorem sized : slicesSized Tryz.prog = true := by kernel_rfl
abbrev known (t : TypeId) : Prop := t < Tryz.prog.types.size
theorem kids : Kids Tryz.prog known := kids_rows (by kernel_rfl) (by kernel_rfl)
theorem goodAD_cons {n : Nat} {t : TypeId} {ts : List TypeId} {vs : List Value} (h : GoodAD Tryz.prog n (t :: ts) vs) : ∃ v vs', vs = v :: vs' /\ GoodVD Tryz.prog n t v /\ GoodAD Tryz.prog n ts vs' := by
 cases vs with
 | nil => exact h.elim
 | cons v vs => exact ⟨v, vs, rfl, h.1, h.2⟩
theorem goodAD_nil {n : Nat} {vs : List Value} (h : GoodAD Tryz.prog n [] vs) : vs = [] := by
 cases vs with
 | nil => rfl
 | cons v vs => exact h.elim
theorem goodD_i64 {n : Nat} {c : List Value} (h : GoodD Tryz.prog (n + 1) 3 c) : ∃ x : Int, c = [.int .i64 x] /\ inI x := by
 unfold GoodD at h
 rw [show Tryz.prog.underlying 3 = some (.int .i64) by kernel_rfl] at h
 obtain ⟨x, rfl, h1, h2⟩ := h
 refine ⟨x, rfl, ?_⟩
 simp only [IntKind.min, IntKind.max, IntKind.signed, IntKind.bits] at h1 h2
 unfold inI
 simp at h1 h2
 omega
theorem goodVD_int {v : Value} (h : GoodVD Tryz.prog 6 3 v) : ∃ x : Int, v = .int .i64 x /\ inI x := by
 unfold GoodVD at h
 rw [show Tryz.prog.underlying 3 = some (.int .i64) by kernel_rfl] at h
 obtain ⟨x, h1, h2⟩ := goodD_i64 h
 exact ⟨x, by simpa using h1, h2⟩
theorem goodVD_ints {v : Value} (h : GoodVD Tryz.prog 6 22 v) : ∃ L : List Int, v = .iface (L.length + 1) (.agg ⟨L.flatMap intC⟩) /\ L.length <= maxLen /\ ∀ x ∈ L, inI x := by
 unfold GoodVD at h
 rw [show Tryz.prog.underlying 22 = some (.slice 3) by kernel_rfl] at h
 unfold GoodD at h
 rw [show Tryz.prog.underlying 22 = some (.slice 3) by kernel_rfl] at h
 obtain ⟨len, ds, h1, h2, h3, h4⟩ := h
 obtain ⟨xs, e1, e2, e3⟩ := goodL_list (f := intC) (q := inI) (fun c hc => goodD_i64 (n := 4) hc) len ds h4
 subst e1 e2
 exact ⟨xs, by simpa using h1, h3, e3⟩
end
end Go.Proofs.YtbgfjemppjhmjaaGreat
