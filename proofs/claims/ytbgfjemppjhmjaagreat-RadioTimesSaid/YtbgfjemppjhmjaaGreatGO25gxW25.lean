/- What is to be shown of functions. Printed by a program. No condition. -/
import Derived.Test.YtbgfjemppjhmjaaGreatGO22gxW22
import Derived.Test.YtbgfjemppjhmjaaGreatGO3gxZ0
import Derived.Test.YtbgfjemppjhmjaaGreatGW2xP2
namespace Go.Proofs.YtbgfjemppjhmjaaGreat
set_option linter.unusedSimpArgs false
open Go Go.K
set_option maxRecDepth 100000
set_option maxHeartbeats 4000000
set_option linter.unusedVariables false
noncomputable section
abbrev kda (a : List Bool) := List.flatMap boolC a
abbrev kde (a : List Bool) := List.length a
abbrev kdh : Value := .tuple #[.pointer (some ⟨4, 0, none⟩), .int .i64 0]
abbrev kd3 (w : Int) (h : Int) (a : List Bool) (ss : List (Int × Int)) := rowT w h a ss (List.length ss)
abbrev kd0 (w : Int) (h : Int) (a : List Bool) (p : Int) (ss : List (Int × Int)) : List Value := [.int .i64 w, .int .i64 h, .slice (some ⟨0, 0, some 2⟩) (kde a) (kde a), .int .i64 p, .slice (some ⟨1, 0, some 2⟩) (List.length ss) (List.length ss), .slice (some ⟨5, 0, some 1⟩) (List.length (kd3 w h a ss)) (List.length (kd3 w h a ss))]
abbrev kd6 (a : List Bool) (p : Int) (ss : List (Int × Int)) (w : Int) (h : Int) (m : Int) : Value := .tuple #[.slice (some ⟨2, 0, some 1⟩) (List.length (whL a p ss (kd3 w h a ss) m (kde a))) (List.length (whL a p ss (kd3 w h a ss) m (kde a))), .int .i64 0]
abbrev kd4 (w : Int) (h : Int) (a : List Bool) (p : Int) (ss : List (Int × Int)) (o1 : Bool) (z1 : Nat) (o2 : Bool) (z2 : Nat) : Prop := (some (.cells true 0 (kd0 w h a p ss) : KObj) = some (.cells true 0 (kd0 w h a p ss) : KObj)) /\ (some (.cells o1 z1 (kda a) : KObj) = some (.cells o1 z1 (kda a) : KObj)) /\ (some (.cells o2 z2 (List.flatMap spC ss) : KObj) = some (.cells o2 z2 (List.flatMap spC ss) : KObj)) /\ (some (.cells true 1 (inL (kd3 w h a ss)) : KObj) = some (.cells true 1 (inL (kd3 w h a ss)) : KObj)) /\ True
abbrev kd8 (H' : Heap) (w : Int) (h : Int) (a : List Bool) (p : Int) (ss : List (Int × Int)) (o1 : Bool) (z1 : Nat) (o2 : Bool) (z2 : Nat) : Prop := H'[4]? = some (.cells true 0 (kd0 w h a p ss) : KObj) /\ H'[0]? = some (.cells o1 z1 (kda a) : KObj) /\ H'[1]? = some (.cells o2 z2 (List.flatMap spC ss) : KObj) /\ H'[5]? = some (.cells true 1 (inL (kd3 w h a ss)) : KObj) /\ True
abbrev kdb (p : Int) (ss : List (Int × Int)) (w : Int) (h : Int) (a : List Bool) := List.length (cfTo p ss (kd3 w h a ss) (List.length ss))
abbrev kd9 (x2 : Nat) : Int := (x2 : Nat)
abbrev kd7 (ss : List (Int × Int)) := allL (List.length ss)
abbrev kdd (ss : List (Int × Int)) := List.length (kd7 ss)
abbrev kd5 (ss : List (Int × Int)) : Prop := (.func (.func 78) #[] #[.pointer (some ⟨6, 0, none⟩), .pointer (some ⟨9, 0, none⟩), .pointer (some ⟨3, 0, none⟩)] : Value) = .func (.func 78) #[] #[.pointer (some ⟨6, 0, none⟩), .pointer (some ⟨9, 0, none⟩), .pointer (some ⟨3, 0, none⟩)] /\ wk (.slice (some ⟨10, 0, some 1⟩) (kdd ss) (kdd ss) : Value) (.slice (some ⟨10, 0, some 1⟩) (kdd ss) (kdd ss) : Value) /\ (.int .i64 (((kdd ss) : Nat) : Int) : Value) = .int .i64 (((kdd ss) : Nat) : Int) /\ True
abbrev kdf (x5 : Nat) : Int := (x5 : Nat)
abbrev kd1 (a : List Bool) (p : Int) (ss : List (Int × Int)) (w : Int) (h : Int) (m : Int) (x2 : Nat) : Prop := (((List.length (whL a p ss (kd3 w h a ss) m x2)) + 1) * 8 <= 2 ^ 44 /\ 1 ≠ 0 /\ ((List.length (whL a p ss (kd3 w h a ss) m x2)) <= (List.length (whL a p ss (kd3 w h a ss) m x2)) /\ 0 + (List.length (whL a p ss (kd3 w h a ss) m x2)) * 1 <= List.length (List.flatMap intC (whL a p ss (kd3 w h a ss) m x2))) /\ (1 <= 1 /\ 0 + 1 * 1 <= List.length ([.int .i64 (kd9 x2)] : List Value)) /\ ((List.take (1 * 1) (List.drop 0 ([.int .i64 (kd9 x2)] : List Value))) : List Value).all (fun v => one1 v) = true) /\ true = true /\ ((.int .i64 (IntKind.wrap .i64 ((kd9 x2) + 1)) : Value) = .int .i64 ((kd9 x2) + 1) /\ (∃ x2' : Nat, (x2' <= List.length a) /\ (List.length a - x2') < (List.length a - x2) /\ true = true /\ ((.int .i64 ((kd9 x2) + 1) : Value) = .int .i64 ((x2' : Nat) : Int) /\ wk (.slice (some ⟨12, 0, none⟩) ((List.length (whL a p ss (kd3 w h a ss) m x2)) + 1) ((List.length (whL a p ss (kd3 w h a ss) m x2)) + 1) : Value) (.slice (some ⟨12, 0, some 1⟩) (List.length (whL a p ss (kd3 w h a ss) m x2')) (List.length (whL a p ss (kd3 w h a ss) m x2')) : Value) /\ (.pointer (some ⟨3, 0, none⟩) : Value) = .pointer (some ⟨3, 0, none⟩) /\ (.slice none 0 0 : Value) = .slice none 0 0 /\ (.int .i64 0 : Value) = .int .i64 0 /\ (.pointer (some ⟨6, 0, none⟩) : Value) = .pointer (some ⟨6, 0, none⟩) /\ (.int .i64 (((kde a) : Nat) : Int) : Value) = .int .i64 (((kde a) : Nat) : Int) /\ True) /\ (True) /\ ((some (.cells true 1 ((List.take ((List.length (whL a p ss (kd3 w h a ss) m x2)) * 1) (List.drop 0 (List.flatMap intC (whL a p ss (kd3 w h a ss) m x2)))) ++ (List.take (1 * 1) (List.drop 0 ([.int .i64 (kd9 x2)] : List Value)))) : KObj) = some (.cells true 1 (List.flatMap intC (whL a p ss (kd3 w h a ss) m x2')) : KObj) /\ belowO 8 (.cells true 1 (List.flatMap intC (whL a p ss (kd3 w h a ss) m x2')) : KObj) = true) /\ True) /\ (True)))
abbrev kd2 (x2 : Nat) (a : List Bool) (p : Int) (ss : List (Int × Int)) (w : Int) (h : Int) (m : Int) : Prop := (.int .i64 (IntKind.wrap .i64 ((kd9 x2) + 1)) : Value) = .int .i64 ((kd9 x2) + 1) /\ (∃ x2' : Nat, (x2' <= List.length a) /\ (List.length a - x2') < (List.length a - x2) /\ true = true /\ ((.int .i64 ((kd9 x2) + 1) : Value) = .int .i64 ((x2' : Nat) : Int) /\ wk (.slice (some ⟨8, 0, some 1⟩) (List.length (whL a p ss (kd3 w h a ss) m x2)) (List.length (whL a p ss (kd3 w h a ss) m x2)) : Value) (.slice (some ⟨8, 0, some 1⟩) (List.length (whL a p ss (kd3 w h a ss) m x2')) (List.length (whL a p ss (kd3 w h a ss) m x2')) : Value) /\ (.pointer (some ⟨3, 0, none⟩) : Value) = .pointer (some ⟨3, 0, none⟩) /\ (.slice none 0 0 : Value) = .slice none 0 0 /\ (.int .i64 0 : Value) = .int .i64 0 /\ (.pointer (some ⟨6, 0, none⟩) : Value) = .pointer (some ⟨6, 0, none⟩) /\ (.int .i64 (((kde a) : Nat) : Int) : Value) = .int .i64 (((kde a) : Nat) : Int) /\ True) /\ (True) /\ ((some (.cells true 1 (List.flatMap intC (whL a p ss (kd3 w h a ss) m x2)) : KObj) = some (.cells true 1 (List.flatMap intC (whL a p ss (kd3 w h a ss) m x2')) : KObj) /\ belowO 8 (.cells true 1 (List.flatMap intC (whL a p ss (kd3 w h a ss) m x2')) : KObj) = true) /\ True) /\ (True))
def Rwhere (o1 o2 : Bool) (z1 z2 : Nat) (w h : Int) (a : List Bool) (p : Int) (ss : List (Int × Int)) (m : Int) : Prop :=
 (((some (.cells o1 z1 (kda a) : KObj) = some (.cells o1 z1 (kda a) : KObj)) /\ (some (.cells o2 z2 (List.flatMap spC ss) : KObj) = some (.cells o2 z2 (List.flatMap spC ss) : KObj)) /\ True) /\ (∀ H' : Heap, H'.length = 4 -> (H'[0]? = some (.cells o1 z1 (kda a) : KObj) /\ H'[1]? = some (.cells o2 z2 (List.flatMap spC ss) : KObj) /\ True) -> KCall prog 72 [.agg #[.int .i64 w, .int .i64 h, .slice (some ⟨0, 0, some 2⟩) (kde a) (kde a), .int .i64 p, .slice (some ⟨1, 0, some 2⟩) (List.length ss) (List.length ss)]] H' [] (Is kdh (H' ++ [(.cells true 0 (kd0 w h a p ss) : KObj), (.cells true 1 (inL (kd3 w h a ss)) : KObj)]))) /\ (((decide ((0 : Int) <= m)) = true -> (((!(decide ((m : Int) <= 100000))) = true -> (true = true /\ wk (.tuple #[.slice none 0 0, .int .i64 6] : Value) (rn (sg 2 []) 3 (kd6 a p ss w h m)) /\ (True /\ True))) /\ ((!(decide ((m : Int) <= 100000))) = false -> ((kd4 w h a p ss o1 z1 o2 z2) /\ (∀ H' : Heap, H'.length = 7 -> (kd8 H' w h a p ss o1 z1 o2 z2) -> KCall prog 74 [.pointer (some ⟨4, 0, none⟩)] H' [] (Is (.slice (some ⟨7, 0, some 1⟩) (kdb p ss w h a) (kdb p ss w h a)) (H' ++ [(.cells true 2 (List.flatMap spC (cfTo p ss (kd3 w h a ss) (List.length ss))) : KObj)]))) /\ (((decide ((0 : Int) < (((kdb p ss w h a) : Nat) : Int))) = true -> (true = true /\ wk (.tuple #[.slice none 0 0, .int .i64 9] : Value) (rn (sg 2 []) 3 (kd6 a p ss w h m)) /\ (True /\ True))) /\ ((decide ((0 : Int) < (((kdb p ss w h a) : Nat) : Int))) = false -> (true = true /\ (0 <= List.length a) /\ (true = true /\ ((.int .i64 0 : Value) = .int .i64 ((0 : Nat) : Int) /\ wk (.slice none 0 0 : Value) (.slice (some ⟨0, 0, some 1⟩) (List.length (whL a p ss (kd3 w h a ss) m 0)) (List.length (whL a p ss (kd3 w h a ss) m 0)) : Value) /\ (.pointer (some ⟨3, 0, none⟩) : Value) = .pointer (some ⟨3, 0, none⟩) /\ (.slice none 0 0 : Value) = .slice none 0 0 /\ (.int .i64 0 : Value) = .int .i64 0 /\ (.pointer (some ⟨6, 0, none⟩) : Value) = .pointer (some ⟨6, 0, none⟩) /\ (.int .i64 (((kde a) : Nat) : Int) : Value) = .int .i64 (((kde a) : Nat) : Int) /\ True) /\ (True) /\ (True /\ True) /\ (True)) /\ (∀ x2 : Nat, true = true) /\ ∀ x2 : Nat, (x2 <= List.length a) -> (((decide (((kd9 x2) : Int) < (((kde a) : Nat) : Int))) = true -> (((some (.cells o1 z1 (kda a) : KObj) = some (.cells o1 z1 (kda a) : KObj)) /\ True) /\ (∀ H' : Heap, H'.length = 10 -> (H'[0]? = some (.cells o1 z1 (kda a) : KObj) /\ True) -> KCall prog 75 [.agg #[.int .i64 w, .int .i64 h, .slice (some ⟨0, 0, some 2⟩) (kde a) (kde a)], .int .i64 (kd9 x2)] H' [] (Is (.bool (seaB a (kd9 x2))) H')) /\ (((seaB a (kd9 x2)) = true -> ((kd4 w h a p ss o1 z1 o2 z2) /\ (∀ H' : Heap, H'.length = 10 -> (kd8 H' w h a p ss o1 z1 o2 z2) -> KCall prog 77 [.pointer (some ⟨4, 0, none⟩)] H' [] (Is (.slice (some ⟨10, 0, some 1⟩) (kdd ss) (kdd ss)) (H' ++ [(.cells true 1 (List.flatMap intC (kd7 ss)) : KObj)]))) /\ (true = true /\ ((0) <= List.length (kd7 ss) /\ clrB p ss (kd3 w h a ss) (kd9 x2) m (0) = true) /\ (true = true /\ ((.int .i64 0 : Value) = .int .i64 (((0) : Nat) : Int) /\ kd5 ss) /\ (True) /\ (True) /\ (True)) /\ (∀ x5 : Nat, true = true) /\ ∀ x5 : Nat, (x5 <= List.length (kd7 ss) /\ clrB p ss (kd3 w h a ss) (kd9 x2) m x5 = true) -> (((decide (((kdf x5) : Int) < (((kdd ss) : Nat) : Int))) = true -> (((0 : Int) <= (kdf x5) /\ ((kdf x5) : Int) < (((kdd ss) : Nat) : Int)) /\ (((List.flatMap intC (kd7 ss))[(0 + Int.toNat (kdf x5) * 1)]? = some (.int .i64 (List.getD (kd7 ss) x5 0))) /\ ((kd4 w h a p ss o1 z1 o2 z2) /\ (∀ H' : Heap, H'.length = 11 -> (kd8 H' w h a p ss o1 z1 o2 z2) -> KCall prog 79 [.pointer (some ⟨4, 0, none⟩), .int .i64 (List.getD (kd7 ss) x5 0), .int .i64 (kd9 x2), .int .i64 m] H' [] (Is (.bool (canB p ss (kd3 w h a ss) (Int.toNat (List.getD (kd7 ss) x5 0)) (kd9 x2) m)) H')) /\ (((!(canB p ss (kd3 w h a ss) (Int.toNat (List.getD (kd7 ss) x5 0)) (kd9 x2) m)) = true -> (((!(decide ((0 : Int) <= (kdf x5)))) = true -> (kd1 a p ss w h m x2)) /\ ((!(decide ((0 : Int) <= (kdf x5)))) = false -> (kd2 x2 a p ss w h m)))) /\ ((!(canB p ss (kd3 w h a ss) (Int.toNat (List.getD (kd7 ss) x5 0)) (kd9 x2) m)) = false -> ((.int .i64 (IntKind.wrap .i64 ((kdf x5) + 1)) : Value) = .int .i64 ((kdf x5) + 1) /\ (∃ x5' : Nat, (x5' <= List.length (kd7 ss) /\ clrB p ss (kd3 w h a ss) (kd9 x2) m x5' = true) /\ (List.length (kd7 ss) - x5') < (List.length (kd7 ss) - x5) /\ true = true /\ ((.int .i64 ((kdf x5) + 1) : Value) = .int .i64 ((x5' : Nat) : Int) /\ kd5 ss) /\ (True) /\ (True) /\ (True))))))))) /\ ((decide (((kdf x5) : Int) < (((kdd ss) : Nat) : Int))) = false -> (kd1 a p ss w h m x2)))))) /\ ((seaB a (kd9 x2)) = false -> (kd2 x2 a p ss w h m))))) /\ ((decide (((kd9 x2) : Int) < (((kde a) : Nat) : Int))) = false -> (true = true /\ wk (.tuple #[.slice (some ⟨8, 0, some 1⟩) (List.length (whL a p ss (kd3 w h a ss) m x2)) (List.length (whL a p ss (kd3 w h a ss) m x2)), .int .i64 0] : Value) (rn (sg 2 [(2, 8)]) 3 (kd6 a p ss w h m)) /\ ((some (.cells true 1 (List.flatMap intC (whL a p ss (kd3 w h a ss) m x2)) : KObj) = some (.cells true 1 (List.flatMap intC (whL a p ss (kd3 w h a ss) m (kde a))) : KObj) /\ belowO 2 (.cells true 1 (List.flatMap intC (whL a p ss (kd3 w h a ss) m (kde a))) : KObj) = true) /\ True))))))))))) /\ ((decide ((0 : Int) <= m)) = false -> (true = true /\ wk (.tuple #[.slice none 0 0, .int .i64 6] : Value) (rn (sg 2 []) 3 (kd6 a p ss w h m)) /\ (True /\ True)))))
abbrev kdc (w : Int) (h : Int) (a : List Bool) (p : Int) (ss : List (Int × Int)) (o1 : Bool) (z1 : Nat) (o2 : Bool) (z2 : Nat) : List (Nat × KObj) := [(4, .cells true 0 (kd0 w h a p ss)), (0, .cells o1 z1 (kda a)), (1, .cells o2 z2 (List.flatMap spC ss)), (5, .cells true 1 (inL (kd3 w h a ss)))]
abbrev kdg (x2 : Nat) : Hint := .need (.go 1 (.slot 56 (.int .i64 ((kd9 x2) + 1)) (.go 0 (.again [(8, 12)]))))
theorem Ewhere (o1 o2 : Bool) (z1 z2 : Nat) (w h : Int) (a : List Bool) (p : Int) (ss : List (Int × Int)) (m : Int) : vF prog msk (dm 0) 100000 true 40 true 18 [.agg #[.int .i64 w, .int .i64 h, .slice (some ⟨0, 0, some 2⟩) (kde a) (kde a), .int .i64 p, .slice (some ⟨1, 0, some 2⟩) (List.length ss) (List.length ss)], .int .i64 m] (readsK [.cells o1 z1 (kda a), .cells o2 z2 (List.flatMap spC ss)]) (some [])
 (.go 4 (.ans [(0, .cells o1 z1 (kda a)), (1, .cells o2 z2 (List.flatMap spC ss))] kdh [.cells true 0 (kd0 w h a p ss), .cells true 1 (inL (kd3 w h a ss))] (.go 16 (.gfork (.go 6 (.fork (.go 1 (.again [])) (.go 0 (.ans (kdc w h a p ss o1 z1 o2 z2) (.slice (some ⟨7, 0, some 1⟩) (kdb p ss w h a) (kdb p ss w h a)) [.cells true 2 (List.flatMap spC (cfTo p ss (kd3 w h a ss) (List.length ss)))] (.go 2 (.fork (.go 1 (.again [])) (.go 8 (.inv 3 (Nat) (0) [] [] (fun x2 => [(35, .int .i64 (kd9 x2)), (8, .slice (some ⟨8, 0, some 1⟩) (List.length (whL a p ss (kd3 w h a ss) m x2)) (List.length (whL a p ss (kd3 w h a ss) m x2))), (3, .pointer (some ⟨3, 0, none⟩)), (4, .slice none 0 0), (5, .int .i64 0), (6, .pointer (some ⟨6, 0, none⟩)), (34, .int .i64 (((kde a) : Nat) : Int))]) (fun x2 => []) (fun x2 => [(true, .cells true 1 (List.flatMap intC (whL a p ss (kd3 w h a ss) m x2)))]) (fun x2 => []) (fun x2 => (x2 <= List.length a)) (fun x2 => (List.length a - x2)) (fun x2 => .go 0 (.fork (.go 8 (.ans [(0, .cells o1 z1 (kda a))] (.bool (seaB a (kd9 x2))) [] (.go 0 (.gfork (.go 1 (.ans (kdc w h a p ss o1 z1 o2 z2) (.slice (some ⟨10, 0, some 1⟩) (kdd ss) (kdd ss)) [.cells true 1 (List.flatMap intC (kd7 ss))] (.go 8 (.inv 3 (Nat) ((0)) [] [] (fun x5 => [(8, .int .i64 (kdf x5)), (1, .func (.func 78) #[] #[.pointer (some ⟨6, 0, none⟩), .pointer (some ⟨9, 0, none⟩), .pointer (some ⟨3, 0, none⟩)]), (0, .slice (some ⟨10, 0, some 1⟩) (kdd ss) (kdd ss)), (7, .int .i64 (((kdd ss) : Nat) : Int))]) (fun x5 => []) (fun x5 => []) (fun x5 => []) (fun x5 => (x5 <= List.length (kd7 ss) /\ clrB p ss (kd3 w h a ss) (kd9 x2) m x5 = true)) (fun x5 => (List.length (kd7 ss) - x5)) (fun x5 => .go 0 (.fork (.go 4 (.need (.val (.int .i64 (List.getD (kd7 ss) x5 0)) (.go 5 (.ans (kdc w h a p ss o1 z1 o2 z2) (.bool (canB p ss (kd3 w h a ss) (Int.toNat (List.getD (kd7 ss) x5 0)) (kd9 x2) m)) [] (.go 1 (.fork (.go 5 (.fork (.go 2 (kdg x2)) (.go 0 (.slot 56 (.int .i64 ((kd9 x2) + 1)) (.go 0 (.again [(8, 8)])))))) (.go 0 (.slot 18 (.int .i64 ((kdf x5) + 1)) (.go 0 (.again []))))))))))) (.go 8 (kdg x2)))))))) (.go 2 (.slot 56 (.int .i64 ((kd9 x2) + 1)) (.go 0 (.again [(8, 8)])))))))) (.go 2 (.again [(2, 8)])))))))))))) (.go 6 (.again []))))))
 (newK ((readsK [.cells o1 z1 (kda a), .cells o2 z2 (List.flatMap spC ss)]) : HT).n 3 (.tuple #[.slice (some ⟨2, 0, some 1⟩) (List.length (whL a p ss (kd3 w h a ss) m (kde a))) (List.length (whL a p ss (kd3 w h a ss) m (kde a))), .int .i64 0]) [(true, .cells true 1 (List.flatMap intC (whL a p ss (kd3 w h a ss) m (kde a))))]) = Rwhere o1 o2 z1 z2 w h a p ss m := by kernel_rfl
end
end Go.Proofs.YtbgfjemppjhmjaaGreat
/- Radio: where a ship can be. No condition. -/
namespace Go.Proofs.YtbgfjemppjhmjaaGreat
open Go Go.K
set_option maxRecDepth 100000
set_option linter.unusedVariables false
set_option linter.unusedSimpArgs false
noncomputable section
attribute [local irreducible] vF
theorem nodupI : ∀ (X l : List Int), X.Nodup -> (∀ m ∈ X, m ∈ l) -> X.length <= l.length
 | [], _, _, _ => Nat.zero_le _
 | a :: X, l, h, hs => by
  rw [List.nodup_cons] at h
  have ih := nodupI X (l.erase a) h.2 fun m hm => (List.mem_erase_of_ne fun e => h.1 (by rw [<- e]; exact hm)).2 (hs m (List.mem_cons_of_mem _ hm))
  have ha := hs a (List.mem_cons_self ..)
  rw [List.length_erase_of_mem ha] at ih
  have := List.length_pos_of_mem ha
  rw [List.length_cons]; omega
theorem lst_one {w h : Int} {a : List Bool} {f c : Int} {n m : Nat} (x : Lst w h a f c n) (y : Lst w h a f c m) : n = m := by
 have := x.2 m y.1
 have := y.2 n x.1
 omega
theorem wy_in {w h : Int} {a : List Bool} {f c : Int} {n : Nat} (b : BasOk w h a.length) (hf : 0 <= f /\ f < (a.length : Int)) (q : Wy w h a f n c) : 0 <= c /\ c < (a.length : Int) := by
 cases q with
 | base => exact hf
 | step j hj hw hb => exact nb_in b hb.1.1 hb.1.2
theorem lst_chain {w h : Int} {a : List Bool} {f : Int} (b : BasOk w h a.length) (hf : 0 <= f /\ f < (a.length : Int)) : ∀ (n : Nat) (c : Int), Lst w h a f c n -> ∃ X : List Int, X.Nodup /\ X.length = n + 1 /\ ∀ x ∈ X, (0 <= x /\ x < (a.length : Int)) /\ ∃ k, k <= n /\ Lst w h a f x k := by
 intro n
 induction n with
 | zero => exact fun c q => ⟨[c], by simp, rfl, fun x hx => by rw [List.mem_singleton.1 hx]; exact ⟨wy_in b hf q.1, 0, Nat.le_refl _, q⟩⟩
 | succ n ih =>
  intro c q
  have q0 := q
  obtain ⟨q1, q2⟩ := q
  cases q1 with
  | @step _ i j hj hw hb =>
   have hp : Lst w h a f i n := ⟨hw, fun m hm => by have := q2 (m + 1) (.step j hj hm hb); omega⟩
   obtain ⟨X, x1, x2, x3⟩ := ih i hp
   refine ⟨nbT w i j :: X, List.nodup_cons.2 ⟨fun hx => ?_, x1⟩, by rw [List.length_cons, x2], fun x hx => ?_⟩
   ·obtain ⟨_, k, k1, k2⟩ := x3 _ hx
    have := lst_one k2 q0
    omega
   ·rcases List.mem_cons.1 hx with rfl | hx
    ·exact ⟨nb_in b hb.1.1 hb.1.2, n + 1, Nat.le_refl _, q0⟩
    ·obtain ⟨y1, k, k1, k2⟩ := x3 _ hx
     exact ⟨y1, k, by omega, k2⟩
theorem lst_le {w h : Int} {a : List Bool} {f c : Int} {n : Nat} (b : BasOk w h a.length) (hf : 0 <= f /\ f < (a.length : Int)) (q : Lst w h a f c n) : n + 1 <= a.length := by
 obtain ⟨X, x1, x2, x3⟩ := lst_chain b hf n c q
 have := nodupI X ((List.range a.length).map fun k : Nat => (k : Int)) x1 (fun x hx => by
  have := (x3 x hx).1
  exact List.mem_map.2 ⟨Int.toNat x, List.mem_range.2 (by omega), by omega⟩)
 rw [List.length_map, List.length_range] at this
 omega
theorem wy_lst {w h : Int} {a : List Bool} {f c : Int} : ∀ {n : Nat}, Wy w h a f n c -> ∃ m, m <= n /\ Lst w h a f c m := by
 intro n
 induction n using Nat.strongRecOn with
 | ind n ih =>
  intro q
  by_cases hx : ∃ m, m < n /\ Wy w h a f m c
  ·obtain ⟨m, hm, hq⟩ := hx
   obtain ⟨k, k1, k2⟩ := ih m hm hq
   exact ⟨k, by omega, k2⟩
  ·exact ⟨n, Nat.le_refl _, q, fun m hm => Nat.le_of_not_lt fun hl => hx ⟨m, hl, hm⟩⟩
theorem dstI_bd {w h : Int} {a : List Bool} {f : Int} (b : BasOk w h a.length) (hf : 0 <= f /\ f < (a.length : Int)) (c : Int) : 0 <= dstI w h a f c /\ (dstI w h a f c < 1024 ∨ dstI w h a f c = farI) := by
 by_cases q : ∃ n, Lst w h a f c n
 ·obtain ⟨n, hn⟩ := q
  have := lst_le b hf hn
  have h1 := b.n1
  have h2 := b.p1
  rw [dst_is hn]; omega
 ·have e : dstI w h a f c = farI := by unfold dstI; rw [dif_neg q]
  rw [e]; unfold farI; omega
theorem dstL_row {w h : Int} {a : List Bool} {f : Int} (b : BasOk w h a.length) (hf : 0 <= f /\ f < (a.length : Int)) : (dstL w h a f).length = a.length /\ ∀ c, c < a.length -> 0 <= (dstL w h a f).getD c 0 /\ (dstL w h a f).getD c 0 <= farI := by
 refine ⟨tabP_len .., fun c hc => ?_⟩
 rw [show (dstL w h a f).getD c 0 = dstI w h a f (c : Int) from tabP_get hc]
 have := dstI_bd b hf (c : Int)
 unfold farI at *
 omega
theorem rowsOk {w h : Int} {a : List Bool} {p : Int} {ss : List (Int × Int)} (t : TrOk w h a p ss) : RowsOk a ss (trkRows w h a ss) :=
 ⟨rowT_len .., fun k hk => by
  have e : (trkRows w h a ss).getD k [] = dstL w h a (ss.getD k zeroSp).2 := tabP_get hk
  rw [e]
  exact dstL_row t.bas (t.bd hk).2⟩
theorem clrB_succ {p : Int} {ss : List (Int × Int)} {rr : List (List Int)} {c m : Int} {x : Nat} (h : clrB p ss rr c m x = true) (h1 : canB p ss rr x c m = true) : clrB p ss rr c m (x + 1) = true := by
 unfold clrB at h ⊢
 rw [List.range_succ, List.all_append, h, List.all_cons, h1]; rfl
theorem clrB_no {p : Int} {ss : List (Int × Int)} {rr : List (List Int)} {c m : Int} {x n : Nat} (hx : x < n) (h1 : canB p ss rr x c m = false) : clrB p ss rr c m n = false := by
 unfold clrB
 rw [Bool.eq_false_iff]
 intro h
 rw [List.all_eq_true] at h
 have := h x (List.mem_range.2 hx)
 rw [h1] at this; cases this
theorem whL_yes {a : List Bool} {p : Int} {ss : List (Int × Int)} {rr : List (List Int)} {m : Int} {x : Nat} (h1 : seaB a x = true) (h2 : clrB p ss rr x m ss.length = true) : whL a p ss rr m (x + 1) = whL a p ss rr m x ++ [(x : Int)] := by
 unfold whL
 rw [List.range_succ, List.filter_append, List.map_append]
 simp [h1, h2]
theorem whL_no {a : List Bool} {p : Int} {ss : List (Int × Int)} {rr : List (List Int)} {m : Int} {x : Nat} (h : (seaB a x && clrB p ss rr x m ss.length) = false) : whL a p ss rr m (x + 1) = whL a p ss rr m x := by
 unfold whL
 rw [List.range_succ, List.filter_append, List.map_append]
 simp only [List.filter_cons, h]
 simp
theorem whL_le (a : List Bool) (p : Int) (ss : List (Int × Int)) (rr : List (List Int)) (m : Int) (x : Nat) : (whL a p ss rr m x).length <= x := by
 unfold whL
 rw [List.length_map]
 exact Nat.le_trans (List.length_filter_le ..) (by simp)
theorem obI {own : Bool} {z : Nat} {L M : List Int} (h : L = M) : (some (KObj.cells own z (L.flatMap intC)) : Option KObj) = some (.cells own z (M.flatMap intC)) := by rw [h]
theorem allL_at {n x : Nat} (h : x < n) : (allL n).getD x 0 = (x : Int) := tabP_get h
theorem hvWhere {o1 o2 : Bool} {z1 z2 : Nat} {w h : Int} {a : List Bool} {p : Int} {ss : List (Int × Int)} {m : Int} (t : TrOk w h a p ss) (e0 : errT w h a p ss = 0) (hm : 0 <= m /\ m <= 100000) (hc : cfTo p ss (trkRows w h a ss) ss.length = []) : Rwhere o1 o2 z1 z2 w h a p ss m := by
 have hs := t.few
 have hn := t.bas.n1
 have hp1 := t.bas.p1
 have ha : a.length <= 1024 := by omega
 have rk := rowsOk t
 delta Rwhere kda kde kdh kd3 kd0 kd6 kd4 kd8 kdb kd9 kd7 kdd kd5 kdf kd1 kd2
 refine ⟨⟨rfl, rfl, trivial⟩, fun H' hH h => (by have := kOpen0 (by omega) (by omega) e0 (by decide) h.1 h.2.1; rw [hH] at this; exact this), fun k1 => ⟨fun k2 => absurd (of_decide_eq_false (notB k2)) (by omega), fun k2 => ⟨⟨rfl, rfl, rfl, rfl, trivial⟩, fun H' hH h => hH ▸ kConf t rk ⟨by decide, h.2.1, h.2.2.1, h.1, h.2.2.2.1⟩, fun k3 => ?_, fun k3 => ?_⟩⟩, fun k1 => absurd (of_decide_eq_false k1) (by omega)⟩
 ·have := of_decide_eq_true k3
  rw [show (rowT w h a ss ss.length) = trkRows w h a ss from rfl, hc] at this
  exact absurd this (by simp)
 refine ⟨rfl, Nat.zero_le _, ?_, fun _ => rfl, fun x hx => ⟨fun k => ?_, fun k => ?_⟩⟩
 ·repeat' first | exact wk_nil _ _ _ (.inl rfl) | exact trivial | exact rfl | exact wk_refl _ | refine wkO_cells ?_ | refine wks_cons ?_ ?_ | exact wks_nil | exact wk_nil _ _ _ (.inl rfl) | (exact wk_Q (by omega)) | refine wk_tupL ?_ | refine wk_aggL ?_ | refine joinMax ?_ ?_ ?_ | refine joinMin ?_ ?_ ?_ | refine toMax ?_ | refine toMin ?_ | refine ⟨rfl, ?_⟩ | refine ⟨trivial, ?_⟩ | (refine forkD (fun h => ?_) (fun h => ?_)) | (refine forkNe (fun h => ?_) (fun h => ?_)) | (refine forkEq (fun h => ?_) (fun h => ?_)) | refine forkNot ?_ | (refine ⟨vI64 (by omega), ?_⟩) | (refine And.intro (by omega) ?_) | apply And.intro | (exact iEq (by omega)) | (exact vI64 (by omega))
 ·have h1 : x < a.length := by have := of_decide_eq_true k; omega
  have hle := whL_le a p ss (rowT w h a ss ss.length) m x
  have hyes : seaB a x = true -> clrB p ss (rowT w h a ss ss.length) x m ss.length = true -> whL a p ss (rowT w h a ss ss.length) m (x + 1) = whL a p ss (rowT w h a ss ss.length) m x ++ [(x : Int)] := whL_yes
  refine ⟨⟨rfl, trivial⟩, fun H' _ h => kSea _ _ _ _ (by omega) h.1, fun b => ⟨⟨rfl, rfl, rfl, rfl, trivial⟩, fun H' hH h => hH ▸ kAll (by omega) ⟨by decide, h.2.1, h.2.2.1, h.1, h.2.2.2.1⟩, rfl, ⟨Nat.zero_le _, rfl⟩, ?_, fun _ => rfl, fun y hy => ⟨fun ky => ?_, fun ky => ?_⟩⟩, fun b => ?_⟩
  ·repeat' first | exact trivial | exact rfl | exact wk_refl _ | refine wkO_cells ?_ | refine wks_cons ?_ ?_ | exact wks_nil | exact wk_nil _ _ _ (.inl rfl) | (exact wk_Q (by omega)) | refine wk_tupL ?_ | refine wk_aggL ?_ | refine joinMax ?_ ?_ ?_ | refine joinMin ?_ ?_ ?_ | refine toMax ?_ | refine toMin ?_ | refine ⟨rfl, ?_⟩ | refine ⟨trivial, ?_⟩ | (refine forkD (fun h => ?_) (fun h => ?_)) | (refine forkNe (fun h => ?_) (fun h => ?_)) | (refine forkEq (fun h => ?_) (fun h => ?_)) | refine forkNot ?_ | (refine ⟨vI64 (by omega), ?_⟩) | (refine And.intro (by omega) ?_) | apply And.intro | (exact iEq (by omega)) | (exact vI64 (by omega))
  ·have h2 : y < ss.length := by have := of_decide_eq_true ky; rw [allL_len] at this; omega
   have e1 := allL_at h2
   have hl := allL_len ss.length
   rw [e1]
   refine ⟨⟨by omega, by omega⟩, by rw [intAt (k := y) (by omega) (by omega), e1], ⟨rfl, rfl, rfl, rfl, trivial⟩, fun H' _ h => kCan t rk h2 ⟨by omega, by omega⟩ (by omega) ⟨by decide, h.2.1, h.2.2.1, h.1, h.2.2.2.1⟩, fun q => ⟨fun q2 => absurd (of_decide_eq_false (notB q2)) (by omega), fun q2 => ?_⟩, fun q => ?_⟩
   ·have e2 : whL a p ss (rowT w h a ss ss.length) m x = whL a p ss (rowT w h a ss ss.length) m (x + 1) := (whL_no (by rw [clrB_no h2 (notB q), Bool.and_false])).symm
    refine ⟨vI64 (by omega), x + 1, by omega, by omega, rfl, ?_⟩
    repeat' first | exact wkQL e2 | exact obI e2 | exact plainIL _ _ | exact trivial | exact rfl | exact wk_refl _ | refine wkO_cells ?_ | refine wks_cons ?_ ?_ | exact wks_nil | exact wk_nil _ _ _ (.inl rfl) | (exact wk_Q (by omega)) | refine wk_tupL ?_ | refine wk_aggL ?_ | refine joinMax ?_ ?_ ?_ | refine joinMin ?_ ?_ ?_ | refine toMax ?_ | refine toMin ?_ | refine ⟨rfl, ?_⟩ | refine ⟨trivial, ?_⟩ | (refine forkD (fun h => ?_) (fun h => ?_)) | (refine forkNe (fun h => ?_) (fun h => ?_)) | (refine forkEq (fun h => ?_) (fun h => ?_)) | refine forkNot ?_ | (refine ⟨vI64 (by omega), ?_⟩) | (refine And.intro (by omega) ?_) | apply And.intro | (exact iEq (by omega)) | (exact vI64 (by omega))
   ·refine ⟨vI64 (by omega), y + 1, ⟨by omega, clrB_succ hy.2 (notB2 q)⟩, by omega, rfl, ?_⟩
    repeat' first | exact trivial | exact rfl | exact wk_refl _ | refine wkO_cells ?_ | refine wks_cons ?_ ?_ | exact wks_nil | exact wk_nil _ _ _ (.inl rfl) | (exact wk_Q (by omega)) | refine wk_tupL ?_ | refine wk_aggL ?_ | refine joinMax ?_ ?_ ?_ | refine joinMin ?_ ?_ ?_ | refine toMax ?_ | refine toMin ?_ | refine ⟨rfl, ?_⟩ | refine ⟨trivial, ?_⟩ | (refine forkD (fun h => ?_) (fun h => ?_)) | (refine forkNe (fun h => ?_) (fun h => ?_)) | (refine forkEq (fun h => ?_) (fun h => ?_)) | refine forkNot ?_ | (refine ⟨vI64 (by omega), ?_⟩) | (refine And.intro (by omega) ?_) | apply And.intro | (exact iEq (by omega)) | (exact vI64 (by omega))
  ·have h2 : y = ss.length := by have := of_decide_eq_false ky; have := hy.1; rw [allL_len] at *; omega
   have e2 := hyes b (h2 ▸ hy.2)
   refine ⟨⟨by omega, by decide, ⟨Nat.le_refl _, by rw [flat_len intC_len]; omega⟩, ⟨Nat.le_refl _, by simp⟩, rfl⟩, rfl, vI64 (by omega), x + 1, by omega, by omega, rfl, ?_⟩
   repeat' first | exact wk_snoc e2 | exact ob_snoc intC_len e2 rfl | exact plainIL _ _ | exact trivial | exact rfl | exact wk_refl _ | refine wkO_cells ?_ | refine wks_cons ?_ ?_ | exact wks_nil | exact wk_nil _ _ _ (.inl rfl) | (exact wk_Q (by omega)) | refine wk_tupL ?_ | refine wk_aggL ?_ | refine joinMax ?_ ?_ ?_ | refine joinMin ?_ ?_ ?_ | refine toMax ?_ | refine toMin ?_ | refine ⟨rfl, ?_⟩ | refine ⟨trivial, ?_⟩ | (refine forkD (fun h => ?_) (fun h => ?_)) | (refine forkNe (fun h => ?_) (fun h => ?_)) | (refine forkEq (fun h => ?_) (fun h => ?_)) | refine forkNot ?_ | (refine ⟨vI64 (by omega), ?_⟩) | (refine And.intro (by omega) ?_) | apply And.intro | (exact iEq (by omega)) | (exact vI64 (by omega))
  ·have e2 : whL a p ss (rowT w h a ss ss.length) m x = whL a p ss (rowT w h a ss ss.length) m (x + 1) := (whL_no (by rw [b, Bool.false_and])).symm
   refine ⟨vI64 (by omega), x + 1, by omega, by omega, rfl, ?_⟩
   repeat' first | exact wkQL e2 | exact obI e2 | exact plainIL _ _ | exact trivial | exact rfl | exact wk_refl _ | refine wkO_cells ?_ | refine wks_cons ?_ ?_ | exact wks_nil | exact wk_nil _ _ _ (.inl rfl) | (exact wk_Q (by omega)) | refine wk_tupL ?_ | refine wk_aggL ?_ | refine joinMax ?_ ?_ ?_ | refine joinMin ?_ ?_ ?_ | refine toMax ?_ | refine toMin ?_ | refine ⟨rfl, ?_⟩ | refine ⟨trivial, ?_⟩ | (refine forkD (fun h => ?_) (fun h => ?_)) | (refine forkNe (fun h => ?_) (fun h => ?_)) | (refine forkEq (fun h => ?_) (fun h => ?_)) | refine forkNot ?_ | (refine ⟨vI64 (by omega), ?_⟩) | (refine And.intro (by omega) ?_) | apply And.intro | (exact iEq (by omega)) | (exact vI64 (by omega))
 ·have h1 : x = a.length := by have := of_decide_eq_false k; omega
  rw [h1]
  repeat' first | exact plainIL _ _ | exact trivial | exact rfl | exact wk_refl _ | refine wkO_cells ?_ | refine wks_cons ?_ ?_ | exact wks_nil | exact wk_nil _ _ _ (.inl rfl) | (exact wk_Q (by omega)) | refine wk_tupL ?_ | refine wk_aggL ?_ | refine joinMax ?_ ?_ ?_ | refine joinMin ?_ ?_ ?_ | refine toMax ?_ | refine toMin ?_ | refine ⟨rfl, ?_⟩ | refine ⟨trivial, ?_⟩ | (refine forkD (fun h => ?_) (fun h => ?_)) | (refine forkNe (fun h => ?_) (fun h => ?_)) | (refine forkEq (fun h => ?_) (fun h => ?_)) | refine forkNot ?_ | (refine ⟨vI64 (by omega), ?_⟩) | (refine And.intro (by omega) ?_) | apply And.intro | (exact iEq (by omega)) | (exact vI64 (by omega))
theorem kWhere {w h : Int} {a : List Bool} {p : Int} {ss : List (Int × Int)} {m : Int} (e0 : errT w h a p ss = 0) (hm : 0 <= m /\ m <= 100000) (hc : cfTo p ss (trkRows w h a ss) ss.length = []) {H : Heap} {i j : Nat} (hne : i ≠ j) {o1 o2 : Bool} {z1 z2 : Nat} (hi : H[i]? = some (.cells o1 z1 (a.flatMap boolC))) (hj : H[j]? = some (.cells o2 z2 (ss.flatMap spC))) :
  KCall prog 18 [trkV w h a p ss i j, .int .i64 m] H [] (Is (.tuple #[.slice (some ⟨H.length, 0, some 1⟩) (whL a p ss (trkRows w h a ss) m a.length).length (whL a p ss (trkRows w h a ss) m a.length).length, .int .i64 0]) (H ++ [.cells true 1 ((whL a p ss (trkRows w h a ss) m a.length).flatMap intC)])) :=
 valKs (fun j => .tuple #[.slice (some ⟨j, 0, some 1⟩) (whL a p ss (trkRows w h a ss) m a.length).length (whL a p ss (trkRows w h a ss) m a.length).length, .int .i64 0]) (new := [.cells true 1 ((whL a p ss (trkRows w h a ss) m a.length).flatMap intC)]) (Eq.mpr (Ewhere o1 o2 z1 z2 w h a p ss m) (hvWhere (trOk e0) e0 hm hc)) (trk_ok ..) rfl ⟨⟨_, _, rfl, plainIL _ _⟩, trivial⟩ (ids := [i, j]) (by simp [hne]) (trk_objs hi hj) (fun j => rfl) rfl
end
end Go.Proofs.YtbgfjemppjhmjaaGreat
/- Radio: the minutes at which a ship can be in a cell: plain laws. No condition. -/
namespace Go.Proofs.YtbgfjemppjhmjaaGreat
set_option linter.unusedSimpArgs false
open Go Go.K
set_option linter.unusedVariables false
theorem addR_nil (m : Int) : addR [] m = [(m, m)] := rfl
theorem addR_snoc (l : List (Int × Int)) (x : Int × Int) (m : Int) : addR (l ++ [x]) m = if x.2 + 1 = m then l ++ [(x.1, m)] else l ++ [x] ++ [(m, m)] := by
 unfold addR
 simp
theorem runs_succ (f : Int -> Bool) (lo : Int) (n : Nat) : runs f lo (n + 1) = if f (lo + (n : Int)) = true then addR (runs f lo n) (lo + (n : Int)) else runs f lo n := rfl
structure RunI (f : Int -> Bool) (lo hi : Int) (l : List (Int × Int)) : Prop where
 mem : ∀ x ∈ l, lo <= x.1 /\ x.1 <= x.2 /\ x.2 < hi /\ ∀ m, x.1 <= m -> m <= x.2 -> f m = true
 cov : ∀ m, lo <= m -> m < hi -> f m = true -> ∃ x ∈ l, x.1 <= m /\ m <= x.2
 gap : l.Pairwise fun x y => x.2 + 1 < y.1
theorem runs_I (f : Int -> Bool) (lo : Int) (n : Nat) : RunI f lo (lo + (n : Int)) (runs f lo n) := by
 induction n with
 | zero => exact ⟨fun x hx => (by cases hx), fun m h1 h2 => by omega, List.Pairwise.nil⟩
 | succ n ih =>
  rw [runs_succ]
  obtain ⟨h1, h2, h3⟩ := ih
  by_cases hf : f (lo + (n : Int)) = true
  ·rw [if_pos hf]
   rcases List.eq_nil_or_concat (runs f lo n) with e | ⟨L, x, e⟩
   ·rw [e] at h1 h2 ⊢
    rw [addR_nil]
    refine ⟨fun x hx => ?_, fun m m1 m2 m3 => ?_, List.pairwise_singleton ..⟩
    ·rw [List.mem_singleton.1 hx]
     exact ⟨by dsimp only; omega, by dsimp only; omega, by dsimp only; omega, fun m m1 m2 => by dsimp only at m1 m2; rw [show m = lo + (n : Int) from by omega]; exact hf⟩
    ·by_cases hm : m = lo + (n : Int)
     ·exact ⟨_, List.mem_singleton.2 rfl, by dsimp only; omega, by dsimp only; omega⟩
     ·obtain ⟨x, hx, _⟩ := h2 m m1 (by omega) m3
      cases hx
   ·rw [List.concat_eq_append] at e
    rw [e] at h1 h2 h3 ⊢
    rw [addR_snoc]
    have hx := h1 x (List.mem_append_right _ (List.mem_singleton.2 rfl))
    have h4 := List.pairwise_append.1 h3
    by_cases he : x.2 + 1 = lo + (n : Int)
    ·rw [if_pos he]
     refine ⟨fun y hy => ?_, fun m m1 m2 m3 => ?_, List.pairwise_append.2 ⟨h4.1, List.pairwise_singleton .., fun y hy z hz => ?_⟩⟩
     ·rcases List.mem_append.1 hy with hy | hy
      ·have := h1 y (List.mem_append_left _ hy)
       exact ⟨this.1, this.2.1, by omega, this.2.2.2⟩
      ·rw [List.mem_singleton.1 hy]
       refine ⟨hx.1, by dsimp only; omega, by dsimp only; omega, fun m m1 m2 => ?_⟩
       dsimp only at m1 m2
       by_cases hm : m = lo + (n : Int)
       ·rw [hm]; exact hf
       ·exact hx.2.2.2 m m1 (by omega)
     ·by_cases hm : m = lo + (n : Int)
      ·exact ⟨_, List.mem_append_right _ (List.mem_singleton.2 rfl), by dsimp only; omega, by dsimp only; omega⟩
      ·obtain ⟨y, hy, y1, y2⟩ := h2 m m1 (by omega) m3
       rcases List.mem_append.1 hy with hy | hy
       ·exact ⟨y, List.mem_append_left _ hy, y1, y2⟩
       ·rw [List.mem_singleton.1 hy] at y1 y2
        exact ⟨_, List.mem_append_right _ (List.mem_singleton.2 rfl), y1, by dsimp only; omega⟩
     ·rw [List.mem_singleton.1 hz]
      exact h4.2.2 y hy x (List.mem_singleton.2 rfl)
    ·rw [if_neg he]
     refine ⟨fun y hy => ?_, fun m m1 m2 m3 => ?_, List.pairwise_append.2 ⟨h3, List.pairwise_singleton .., fun y hy z hz => ?_⟩⟩
     ·rcases List.mem_append.1 hy with hy | hy
      ·have := h1 y hy
       exact ⟨this.1, this.2.1, by omega, this.2.2.2⟩
      ·rw [List.mem_singleton.1 hy]
       exact ⟨by dsimp only; omega, by dsimp only; omega, by dsimp only; omega, fun m m1 m2 => by dsimp only at m1 m2; rw [show m = lo + (n : Int) from by omega]; exact hf⟩
     ·by_cases hm : m = lo + (n : Int)
      ·exact ⟨_, List.mem_append_right _ (List.mem_singleton.2 rfl), by dsimp only; omega, by dsimp only; omega⟩
      ·obtain ⟨y, hy, y1, y2⟩ := h2 m m1 (by omega) m3
       exact ⟨y, List.mem_append_left _ hy, y1, y2⟩
     ·rw [List.mem_singleton.1 hz]
      dsimp only
      rcases List.mem_append.1 hy with hy | hy
      ·have := h4.2.2 y hy x (List.mem_singleton.2 rfl)
       omega
      ·rw [List.mem_singleton.1 hy]; omega
  ·rw [if_neg hf]
   refine ⟨fun y hy => ?_, fun m m1 m2 m3 => ?_, h3⟩
   ·have := h1 y hy
    exact ⟨this.1, this.2.1, by omega, this.2.2.2⟩
   ·by_cases hm : m = lo + (n : Int)
    ·rw [hm] at m3; exact absurd m3 hf
    ·exact h2 m m1 (by omega) m3
theorem runs_skip (f : Int -> Bool) (lo : Int) (n : Nat) : ∀ k : Nat, (∀ m, lo + (n : Int) <= m -> m < lo + (n : Int) + (k : Int) -> f m = false) -> runs f lo (n + k) = runs f lo n
 | 0, _ => rfl
 | k + 1, h => by
  rw [show n + (k + 1) = (n + k) + 1 from rfl, runs_succ, if_neg (by rw [h _ (by omega) (by omega)]; exact Bool.noConfusion)]
  exact runs_skip f lo n k fun m m1 m2 => h m m1 (by omega)
theorem runs_new (f : Int -> Bool) (lo : Int) (n : Nat) (h0 : n = 0 ∨ f (lo + (n : Int) - 1) = false) : ∀ k : Nat, (∀ m, lo + (n : Int) <= m -> m <= lo + (n : Int) + (k : Int) -> f m = true) -> runs f lo (n + k + 1) = runs f lo n ++ [(lo + (n : Int), lo + (n : Int) + (k : Int))]
 | 0, h => by
  rw [Nat.add_zero, runs_succ, if_pos (h _ (by omega) (by omega))]
  rcases List.eq_nil_or_concat (runs f lo n) with e | ⟨L, x, e⟩
  ·rw [e, addR_nil]; simp
  ·rw [List.concat_eq_append] at e
   have hx := (runs_I f lo n).mem x (by rw [e]; exact List.mem_append_right _ (List.mem_singleton.2 rfl))
   rw [e, addR_snoc, if_neg (fun q => ?_)]
   ·simp
   ·rcases h0 with rfl | h0
    ·cases L <;> cases e
    ·have := hx.2.2.2 x.2 hx.2.1 (Int.le_refl _)
     rw [show x.2 = lo + (n : Int) - 1 from by omega, h0] at this
     cases this
 | k + 1, h => by
  have ih := runs_new f lo n h0 k fun m m1 m2 => h m m1 (by omega)
  rw [show n + (k + 1) + 1 = (n + k + 1) + 1 from rfl, runs_succ, if_pos (h _ (by omega) (by omega)), ih, addR_snoc, if_pos (by dsimp only; omega)]
  congr 2
  apply Prod.ext
  ·rfl
  ·dsimp only; omega
theorem runs_le (f : Int -> Bool) (lo : Int) : ∀ n, (runs f lo n).length <= n
 | 0 => Nat.le_refl _
 | n + 1 => by
  have ih := runs_le f lo n
  rw [runs_succ]
  split
  ·rcases List.eq_nil_or_concat (runs f lo n) with e | ⟨L, x, e⟩
   ·rw [e, addR_nil]; simp
   ·rw [List.concat_eq_append] at e
    rw [e] at ih ⊢
    rw [addR_snoc]
    split <;> simp only [List.length_append, List.length_singleton] at * <;> omega
  ·omega
structure ScI (N : List (Int × Int)) (least most : Int) (D : List (Int × Int)) (st : Int × List (Int × Int)) : Prop where
 lo : least <= st.1
 edge : st.1 = least ∨ ∃ y ∈ D, y.1 <= y.2 /\ y.2 + 1 = st.1
 past : ∀ y ∈ D, y.1 <= y.2 -> y.2 + 1 <= st.1
 inN : ∀ y ∈ D, y ∈ N ∨ most < y.1
 out : st.2 = runs (fun m => !notF N m) least (Int.toNat (mnI (most + 1) st.1 - least))
theorem notF_yes {N : List (Int × Int)} {m : Int} {y : Int × Int} (h : y ∈ N) (h1 : y.1 <= m) (h2 : m <= y.2) : (!notF N m) = false := by
 have : notF N m = true := by
  unfold notF
  rw [List.any_eq_true]
  exact ⟨y, h, by rw [decide_eq_true h1, decide_eq_true h2]; rfl⟩
 rw [this]; rfl
theorem notF_no {N : List (Int × Int)} {m : Int} (h : ∀ y ∈ N, ¬ (y.1 <= m /\ m <= y.2)) : (!notF N m) = true := by
 have : notF N m = false := by
  rw [Bool.eq_false_iff]
  intro q
  unfold notF at q
  rw [List.any_eq_true] at q
  obtain ⟨y, hy, q⟩ := q
  rw [Bool.and_eq_true, decide_eq_true_eq, decide_eq_true_eq] at q
  exact h y hy q
 rw [this]; rfl
theorem mnI_1 {x y : Int} (h : y < x) : mnI x y = y := by unfold mnI; rw [if_pos h]
theorem mnI_2 {x y : Int} (h : ¬ y < x) : mnI x y = x := by unfold mnI; rw [if_neg h]
theorem ScI.step {N : List (Int × Int)} {least most : Int} {D : List (Int × Int)} {st : Int × List (Int × Int)} {x : Int × Int} (hl : least <= most) (s : ScI N least most D st) (hx : x ∈ N ∨ most < x.1) (hN : ∀ y ∈ N, y ∈ D ∨ x.1 <= y.1) : ScI N least most (D ++ [x]) (scan most st x) := by
 obtain ⟨s1, s2, s3, s4, s5⟩ := s
 have hin : ∀ y ∈ D ++ [x], y ∈ N ∨ most < y.1 := fun y hy => by
  rcases List.mem_append.1 hy with hy | hy
  ·exact s4 y hy
  ·rw [List.mem_singleton.1 hy]; exact hx
 have hself : x ∈ D ++ [x] := List.mem_append_right _ (List.mem_singleton.2 rfl)
 unfold scan
 by_cases h0 : x.1 > x.2
 ·rw [if_pos h0]
  refine ⟨s1, s2.imp id (fun ⟨y, hy, q⟩ => ⟨y, List.mem_append_left _ hy, q⟩), fun y hy h => ?_, hin, s5⟩
  rcases List.mem_append.1 hy with hy | hy
  ·exact s3 y hy h
  ·rw [List.mem_singleton.1 hy] at h; omega
 rw [if_neg h0]
 have hmx : mxI st.1 (x.2 + 1) = st.1 /\ x.2 + 1 <= st.1 ∨ mxI st.1 (x.2 + 1) = x.2 + 1 /\ st.1 < x.2 + 1 := by unfold mxI; split <;> omega
 refine ⟨?_, ?_, fun y hy h => ?_, hin, ?_⟩
 ·dsimp only; omega
 ·dsimp only
  rcases hmx with ⟨e, q⟩ | ⟨e, q⟩
  ·rw [e]; exact s2.imp id (fun ⟨y, hy, q⟩ => ⟨y, List.mem_append_left _ hy, q⟩)
  ·rw [e]; exact .inr ⟨x, hself, by omega, rfl⟩
 ·dsimp only
  rcases List.mem_append.1 hy with hy | hy
  ·have := s3 y hy h; omega
  ·rw [List.mem_singleton.1 hy]; omega
 ·dsimp only
  by_cases hem : x.1 > st.1 /\ st.1 <= most
  ·rw [if_pos hem]
   have e1 : mxI st.1 (x.2 + 1) = x.2 + 1 := by rcases hmx with ⟨_, q⟩ | ⟨e, _⟩ <;> omega
   rw [e1]
   rw [mnI_1 (show st.1 < most + 1 by omega)] at s5
   obtain ⟨n, hn⟩ : ∃ n : Nat, (n : Int) = st.1 - least := ⟨Int.toNat (st.1 - least), by omega⟩
   have en : Int.toNat (st.1 - least) = n := by omega
   rw [en] at s5
   have elo : least + (n : Int) = st.1 := by omega
   obtain ⟨u, hu⟩ : ∃ u, mnI (x.1 - 1) most = u := ⟨_, rfl⟩
   have hub : (u = most /\ most < x.1 - 1) ∨ (u = x.1 - 1 /\ x.1 - 1 <= most) := by
    rw [<- hu]; unfold mnI; split <;> omega
   obtain ⟨k, hk⟩ : ∃ k : Nat, (k : Int) = u - st.1 := ⟨Int.toNat (u - st.1), by omega⟩
   have hnew := runs_new (fun m => !notF N m) least n (by
    rcases s2 with e | ⟨y, hy, y1, y2⟩
    ·exact .inl (by omega)
    ·refine .inr ?_
     rcases s4 y hy with h | h
     ·exact notF_yes h (by omega) (by omega)
     ·omega) k (fun m m1 m2 => notF_no fun y hy q => by
      rcases hN y hy with h | h
      ·have := s3 y h (by omega); omega
      ·omega)
   rw [hu, s5]
   have ek : least + (n : Int) + (k : Int) = u := by omega
   rw [ek, elo] at hnew
   rw [<- hnew]
   rcases hub with ⟨h1, h2⟩ | ⟨h1, h2⟩
   ·rw [mnI_2 (by omega)]
    rw [show Int.toNat (most + 1 - least) = n + k + 1 from by omega]
   ·by_cases h3 : x.1 <= most
    ·have hxN : x ∈ N := hx.resolve_right (by omega)
     obtain ⟨v, hv⟩ : ∃ v, mnI (most + 1) (x.2 + 1) = v := ⟨_, rfl⟩
     have hvb : (v = x.2 + 1 /\ x.2 < most) ∨ (v = most + 1 /\ most <= x.2) := by rw [<- hv]; unfold mnI; split <;> omega
     rw [hv]
     obtain ⟨j, hj⟩ : ∃ j : Nat, (j : Int) = v - (least + ((n + k + 1 : Nat) : Int)) := ⟨Int.toNat (v - (least + ((n + k + 1 : Nat) : Int))), by omega⟩
     rw [show Int.toNat (v - least) = n + k + 1 + j from by omega]
     exact (runs_skip _ _ _ j fun m m1 m2 => notF_yes hxN (by omega) (by omega)).symm
    ·rw [mnI_2 (by omega)]
     rw [show Int.toNat (most + 1 - least) = n + k + 1 from by omega]
  ·rw [if_neg hem, s5]
   rcases hmx with ⟨e, q⟩ | ⟨e, q⟩
   ·rw [e]
   ·rw [e]
    by_cases h1 : st.1 <= most
    ·have h2 : x.1 <= st.1 := by omega
     have hxN : x ∈ N := hx.resolve_right (by omega)
     rw [mnI_1 (show st.1 < most + 1 by omega)]
     obtain ⟨v, hv⟩ : ∃ v, mnI (most + 1) (x.2 + 1) = v := ⟨_, rfl⟩
     have hvb : (v = x.2 + 1 /\ x.2 < most) ∨ (v = most + 1 /\ most <= x.2) := by rw [<- hv]; unfold mnI; split <;> omega
     rw [hv]
     obtain ⟨j, hj⟩ : ∃ j : Nat, (j : Int) = v - st.1 := ⟨Int.toNat (v - st.1), by omega⟩
     rw [show Int.toNat (v - least) = Int.toNat (st.1 - least) + j from by omega]
     exact (runs_skip _ _ _ j fun m m1 m2 => notF_yes hxN (by omega) (by omega)).symm
    ·rw [mnI_2 (show ¬ st.1 < most + 1 by omega), mnI_2 (by omega)]
theorem scanT_succ (least most : Int) (S : List (Int × Int)) {k : Nat} (hk : k < S.length) : scanT least most S (k + 1) = scan most (scanT least most S k) (S.getD k zeroSp) := by
 unfold scanT
 rw [List.take_succ_eq_append_getElem hk, List.foldl_append, List.getD_eq_getElem?_getD, List.getElem?_eq_getElem hk]; rfl
theorem scan_I {N M : List (Int × Int)} {least most : Int} (hl : least <= most) (hs : SortS N M) : ∀ k, k <= (M ++ [(most + 1, most + 1)]).length -> ScI N least most ((M ++ [(most + 1, most + 1)]).take k) (scanT least most (M ++ [(most + 1, most + 1)]) k)
 | 0, _ => by
  have e : ([] : List (Int × Int)) = runs (fun m => !notF N m) least (Int.toNat (mnI (most + 1) least - least)) := by
   rw [mnI_1 (by omega), Int.sub_self]; rfl
  exact ⟨Int.le_refl _, .inl rfl, fun y hy => (by cases hy), fun y hy => (by cases hy), e⟩
 | k + 1, hk => by
  have ih := scan_I hl hs k (by omega)
  rw [scanT_succ _ _ _ (by omega), List.take_succ_eq_append_getElem (by omega)]
  have e : (M ++ [(most + 1, most + 1)]).getD k zeroSp = (M ++ [(most + 1, most + 1)])[k] := by rw [List.getD_eq_getElem?_getD, List.getElem?_eq_getElem (by omega)]; rfl
  rw [e]
  rw [List.length_append, List.length_singleton] at hk
  refine ih.step hl ?_ fun y hy => ?_
  ·by_cases h : k < M.length
   ·rw [List.getElem_append_left h]
    exact .inl (hs.1.mem_iff.2 (List.getElem_mem h))
   ·rw [List.getElem_append_right (by omega)]
    refine .inr ?_
    simp only [show k - M.length = 0 from by omega, List.getElem_cons_zero]; omega
  ·obtain ⟨i, hi, rfl⟩ := List.mem_iff_getElem.1 (hs.1.mem_iff.1 hy)
   by_cases hik : i < k
   ·refine .inl ?_
    rw [List.mem_iff_getElem]
    refine ⟨i, by rw [List.length_take, List.length_append, List.length_singleton]; omega, ?_⟩
    rw [List.getElem_take, List.getElem_append_left hi]
   ·refine .inr ?_
    rw [List.getElem_append_left (by omega)]
    by_cases h : k = i
    ·subst h; exact Int.le_refl _
    ·exact List.pairwise_iff_getElem.1 hs.2 k i (by omega) hi (by omega)
theorem scan_all {N M : List (Int × Int)} {least most : Int} (hl : least <= most) (hs : SortS N M) : (scanT least most (M ++ [(most + 1, most + 1)]) (M ++ [(most + 1, most + 1)]).length).2 = runs (fun m => !notF N m) least (Int.toNat (most - least + 1)) := by
 have h := scan_I hl hs _ (Nat.le_refl _)
 rw [List.take_length] at h
 have h1 := h.past (most + 1, most + 1) (List.mem_append_right _ (List.mem_singleton.2 rfl)) (Int.le_refl _)
 rw [h.out, mnI_2 (by dsimp only at h1; omega)]
 congr 1; omega
end Go.Proofs.YtbgfjemppjhmjaaGreat
/- What is to be shown of functions. Printed by a program. No condition. -/
namespace Go.Proofs.YtbgfjemppjhmjaaGreat
set_option linter.unusedSimpArgs false
open Go Go.K
set_option maxRecDepth 100000
set_option maxHeartbeats 4000000
set_option linter.unusedVariables false
noncomputable section
abbrev kef (o1 : Bool) (z1 : Nat) (a : List Bool) : KObj := .cells o1 z1 (List.flatMap boolC a)
abbrev kem (ss : List (Int × Int)) := List.flatMap spC ss
abbrev keg (ss : List (Int × Int)) := List.length ss
abbrev ket : Value := .tuple #[.pointer (some ⟨3, 0, none⟩), .int .i64 0]
abbrev ke2 (w : Int) (h : Int) (a : List Bool) (ss : List (Int × Int)) := rowT w h a ss (keg ss)
abbrev ke4 (w : Int) (h : Int) (a : List Bool) (p : Int) (ss : List (Int × Int)) : List Value := [.int .i64 w, .int .i64 h, .slice (some ⟨0, 0, some 2⟩) (List.length a) (List.length a), .int .i64 p, .slice (some ⟨1, 0, some 2⟩) (keg ss) (keg ss), .slice (some ⟨4, 0, some 1⟩) (List.length (ke2 w h a ss)) (List.length (ke2 w h a ss))]
abbrev ke9 (p : Int) (ss : List (Int × Int)) (w : Int) (h : Int) (a : List Bool) (c : Int) : Value := .tuple #[.slice (some ⟨2, 0, some 1⟩) (List.length (tmL p ss (ke2 w h a ss) c)) (List.length (tmL p ss (ke2 w h a ss) c)), .int .i64 0]
abbrev kes : Prop := True /\ True
abbrev keo (p : Int) (ss : List (Int × Int)) (w : Int) (h : Int) (a : List Bool) := List.length (cfTo p ss (ke2 w h a ss) (keg ss))
abbrev kec (c : Int) (ss : List (Int × Int)) : Prop := (.int .i64 c : Value) = .int .i64 c /\ (.pointer (some ⟨3, 0, none⟩) : Value) = .pointer (some ⟨3, 0, none⟩) /\ wk (.slice (some ⟨1, 0, some 2⟩) (keg ss) (keg ss) : Value) (.slice (some ⟨1, 0, some 2⟩) (keg ss) (keg ss) : Value) /\ (.int .i64 (((keg ss) : Nat) : Int) : Value) = .int .i64 (((keg ss) : Nat) : Int) /\ True
abbrev kel (x3 : Nat) : Int := (x3 : Nat)
abbrev ked (ss : List (Int × Int)) (x3 : Nat) := List.getD ss x3 zeroSp
abbrev ke6 (w : Int) (h : Int) (a : List Bool) (ss : List (Int × Int)) (x3 : Nat) (c : Int) := List.getD (List.getD (ke2 w h a ss) x3 []) (Int.toNat c) 0
abbrev keb (p : Int) (ss : List (Int × Int)) (w : Int) (h : Int) (a : List Bool) (c : Int) (x3 : Nat) := List.length (notT p ss (ke2 w h a ss) c x3)
abbrev ker (p : Int) (ss : List (Int × Int)) (w : Int) (h : Int) (a : List Bool) (c : Int) (x3 : Nat) := List.flatMap spC (notT p ss (ke2 w h a ss) c x3)
abbrev keh (ss : List (Int × Int)) (x3 : Nat) (w : Int) (h : Int) (a : List Bool) (c : Int) (p : Int) : List Value := [.int .i64 (((ked ss x3).1 - ((ke6 w h a ss x3 c) * p)) + 1), .int .i64 (((ked ss x3).1 + ((ke6 w h a ss x3 c) * p)) - 1)]
abbrev ken (ss : List (Int × Int)) (x3 : Nat) : List Value := [.int .i64 ((msT ss x3) + 1), .int .i64 ((msT ss x3) + 1)]
abbrev ke0 (ss : List (Int × Int)) := msT ss (keg ss)
abbrev kep (ss : List (Int × Int)) (r4 : List (Int × Int)) := scanT (lsT ss (keg ss)) (ke0 ss) (r4 ++ [((ke0 ss) + 1, (ke0 ss) + 1)]) 0
abbrev ke7 (ss : List (Int × Int)) (x3 : Nat) (p : Int) (w : Int) (h : Int) (a : List Bool) (c : Int) : Prop := (.int .i64 (msT ss x3) : Value) = .int .i64 (msT ss x3) /\ (.slice (some ⟨8, 0, none⟩) ((keb p ss w h a c x3) + 1) ((keb p ss w h a c x3) + 1) : Value) = .slice (some ⟨8, 0, none⟩) ((keb p ss w h a c x3) + 1) ((keb p ss w h a c x3) + 1) /\ (.int .i64 ((((keb p ss w h a c x3) + 1) : Nat) : Int) : Value) = .int .i64 ((((keb p ss w h a c x3) + 1) : Nat) : Int) /\ True
abbrev kea (r4 : List (Int × Int)) (ss : List (Int × Int)) : KObj := .cells true 2 (List.flatMap spC (r4 ++ [((ke0 ss) + 1, (ke0 ss) + 1)]))
abbrev kei (x5 : Nat) : Int := (x5 : Nat)
abbrev ke5 (r4 : List (Int × Int)) (ss : List (Int × Int)) (x5 : Nat) := List.getD (r4 ++ [((ke0 ss) + 1, (ke0 ss) + 1)]) x5 zeroSp
abbrev ke3 (ss : List (Int × Int)) (r4 : List (Int × Int)) (x5 : Nat) := scanT (lsT ss (keg ss)) (ke0 ss) (r4 ++ [((ke0 ss) + 1, (ke0 ss) + 1)]) x5
abbrev kej (ss : List (Int × Int)) (r4 : List (Int × Int)) (x5 : Nat) := List.length (ke3 ss r4 x5).2
abbrev ke8 (ss : List (Int × Int)) (r4 : List (Int × Int)) (x5' : Nat) := scanT (lsT ss (keg ss)) (ke0 ss) (r4 ++ [((ke0 ss) + 1, (ke0 ss) + 1)]) x5'
abbrev keq (ss : List (Int × Int)) (r4 : List (Int × Int)) (x5' : Nat) : KObj := .cells true 2 (List.flatMap spC ((ke8 ss r4 x5').2))
abbrev kee (ss : List (Int × Int)) (r4 : List (Int × Int)) (x5 : Nat) (x3 : Nat) : List Value := [.int .i64 (ke3 ss r4 x5).1, .int .i64 (if ((msT ss x3) : Int) < ((ke5 r4 ss x5).1 - 1) then ((msT ss x3) : Int) else ((ke5 r4 ss x5).1 - 1))]
abbrev ke1 (r4 : List (Int × Int)) (ss : List (Int × Int)) (x5 : Nat) (x3 : Nat) (p : Int) (w : Int) (h : Int) (a : List Bool) (c : Int) : Prop := (.int .i64 (IntKind.wrap .i64 ((ke5 r4 ss x5).2 + 1)) : Value) = .int .i64 ((ke5 r4 ss x5).2 + 1) /\ (∃ y6 : Int, (.int .i64 (if (((ke5 r4 ss x5).2 + 1) : Int) > (ke3 ss r4 x5).1 then (((ke5 r4 ss x5).2 + 1) : Int) else (ke3 ss r4 x5).1) : Value) = .int .i64 y6 /\ ((.int .i64 (IntKind.wrap .i64 ((kei x5) + 1)) : Value) = .int .i64 ((kei x5) + 1) /\ (∃ x5' : Nat, (x5' <= List.length (r4 ++ [((ke0 ss) + 1, (ke0 ss) + 1)])) /\ (List.length (r4 ++ [((ke0 ss) + 1, (ke0 ss) + 1)]) - x5') < (List.length (r4 ++ [((ke0 ss) + 1, (ke0 ss) + 1)]) - x5) /\ true = true /\ ((.int .i64 ((kei x5) + 1) : Value) = .int .i64 ((x5' : Nat) : Int) /\ wk (.slice (some ⟨9, 0, some 1⟩) (kej ss r4 x5) (kej ss r4 x5) : Value) (.slice (some ⟨9, 0, some 1⟩) (List.length (ke8 ss r4 x5').2) (List.length (ke8 ss r4 x5').2) : Value) /\ (.int .i64 y6 : Value) = .int .i64 (ke8 ss r4 x5').1 /\ ke7 ss x3 p w h a c) /\ ((some (kea r4 ss) = some (kea r4 ss) /\ belowO 9 (kea r4 ss) = true) /\ True) /\ ((some (.cells true 2 (List.flatMap spC ((ke3 ss r4 x5).2)) : KObj) = some (keq ss r4 x5') /\ belowO 9 (keq ss r4 x5') = true) /\ True) /\ (True))))
def Rtimes (o1 o2 : Bool) (z1 z2 : Nat) (w h : Int) (a : List Bool) (p : Int) (ss : List (Int × Int)) (c : Int) : Prop :=
 (((some (kef o1 z1 a) = some (kef o1 z1 a)) /\ (some (.cells o2 z2 (kem ss) : KObj) = some (.cells o2 z2 (kem ss) : KObj)) /\ True) /\ (∀ H' : Heap, H'.length = 3 -> (H'[0]? = some (kef o1 z1 a) /\ H'[1]? = some (.cells o2 z2 (kem ss) : KObj) /\ True) -> KCall prog 72 [.agg #[.int .i64 w, .int .i64 h, .slice (some ⟨0, 0, some 2⟩) (List.length a) (List.length a), .int .i64 p, .slice (some ⟨1, 0, some 2⟩) (keg ss) (keg ss)]] H' [] (Is ket (H' ++ [(.cells true 0 (ke4 w h a p ss) : KObj), (.cells true 1 (inL (ke2 w h a ss)) : KObj)]))) /\ (((some (kef o1 z1 a) = some (kef o1 z1 a)) /\ True) /\ (∀ H' : Heap, H'.length = 5 -> (H'[0]? = some (kef o1 z1 a) /\ True) -> KCall prog 75 [.agg #[.int .i64 w, .int .i64 h, .slice (some ⟨0, 0, some 2⟩) (List.length a) (List.length a)], .int .i64 c] H' [] (Is (.bool (seaB a c)) H')) /\ (((!(seaB a c)) = true -> (true = true /\ wk (.tuple #[.slice none 0 0, .int .i64 1] : Value) (rn (sg 2 []) 3 (ke9 p ss w h a c)) /\ kes)) /\ ((!(seaB a c)) = false -> (((some (.cells true 0 (ke4 w h a p ss) : KObj) = some (.cells true 0 (ke4 w h a p ss) : KObj)) /\ (some (kef o1 z1 a) = some (kef o1 z1 a)) /\ (some (.cells o2 z2 (kem ss) : KObj) = some (.cells o2 z2 (kem ss) : KObj)) /\ (some (.cells true 1 (inL (ke2 w h a ss)) : KObj) = some (.cells true 1 (inL (ke2 w h a ss)) : KObj)) /\ True) /\ (∀ H' : Heap, H'.length = 5 -> (H'[3]? = some (.cells true 0 (ke4 w h a p ss) : KObj) /\ H'[0]? = some (kef o1 z1 a) /\ H'[1]? = some (.cells o2 z2 (kem ss) : KObj) /\ H'[4]? = some (.cells true 1 (inL (ke2 w h a ss)) : KObj) /\ True) -> KCall prog 74 [.pointer (some ⟨3, 0, none⟩)] H' [] (Is (.slice (some ⟨5, 0, some 1⟩) (keo p ss w h a) (keo p ss w h a)) (H' ++ [(.cells true 2 (List.flatMap spC (cfTo p ss (ke2 w h a ss) (keg ss))) : KObj)]))) /\ (((decide ((0 : Int) < (((keo p ss w h a) : Nat) : Int))) = true -> (true = true /\ wk (.tuple #[.slice none 0 0, .int .i64 9] : Value) (rn (sg 2 []) 3 (ke9 p ss w h a c)) /\ kes)) /\ ((decide ((0 : Int) < (((keo p ss w h a) : Nat) : Int))) = false -> (((((((keg ss) : Nat) : Int) : Int) == 0) = true -> (true = true /\ wk (.tuple #[.slice none 0 0, .int .i64 4] : Value) (rn (sg 2 []) 3 (ke9 p ss w h a c)) /\ kes)) /\ ((((((keg ss) : Nat) : Int) : Int) == 0) = false -> (true = true /\ (0 <= List.length ss /\ farT (ke2 w h a ss) c 0 = false) /\ (true = true /\ ((.int .i64 0 : Value) = .int .i64 ((0 : Nat) : Int) /\ wk (.slice none 0 0 : Value) (.slice (some ⟨0, 0, some 1⟩) (List.length (notT p ss (ke2 w h a ss) c 0)) (List.length (notT p ss (ke2 w h a ss) c 0)) : Value) /\ (.int .i64 100000 : Value) = .int .i64 (lsT ss 0) /\ (.int .i64 0 : Value) = .int .i64 (msT ss 0) /\ kec c ss) /\ (True) /\ kes /\ (True)) /\ (∀ x3 : Nat, true = true) /\ ∀ x3 : Nat, (x3 <= List.length ss /\ farT (ke2 w h a ss) c x3 = false) -> (((decide (((kel x3) : Int) < (((keg ss) : Nat) : Int))) = true -> (((0 : Int) <= (kel x3) /\ ((kel x3) : Int) < (((keg ss) : Nat) : Int)) /\ ((partA 2 (kem ss) (0 + Int.toNat (kel x3) * 2) = some (.agg #[.int .i64 (ked ss x3).1, .int .i64 (ked ss x3).2])) /\ (((0 : Int) <= (kel x3) /\ ((kel x3) : Int) < (((List.length (ke2 w h a ss)) : Nat) : Int)) /\ (((inL (ke2 w h a ss))[(0 + Int.toNat (kel x3) * 1)]? = some (.iface ((List.length (List.getD (ke2 w h a ss) x3 [])) + 1) (.agg ⟨(List.flatMap intC (List.getD (ke2 w h a ss) x3 []))⟩))) /\ (((0 : Int) <= c /\ (c : Int) < (((List.length (List.getD (ke2 w h a ss) x3 [])) : Nat) : Int)) /\ (((List.flatMap intC (List.getD (ke2 w h a ss) x3 []))[(Int.toNat c * 1)]? = some (.int .i64 (ke6 w h a ss x3 c))) /\ (((((ke6 w h a ss x3 c) : Int) == 1073741824) = true -> (true = true /\ wk (.tuple #[.slice none 0 0, .int .i64 0] : Value) (rn (sg 2 []) 3 (ke9 p ss w h a c)) /\ kes)) /\ ((((ke6 w h a ss x3 c) : Int) == 1073741824) = false -> ((.int .i64 (IntKind.wrap .i64 ((ke6 w h a ss x3 c) * p)) : Value) = .int .i64 ((ke6 w h a ss x3 c) * p) /\ ((.int .i64 (IntKind.wrap .i64 ((ked ss x3).1 - ((ke6 w h a ss x3 c) * p))) : Value) = .int .i64 ((ked ss x3).1 - ((ke6 w h a ss x3 c) * p)) /\ ((.int .i64 (IntKind.wrap .i64 (((ked ss x3).1 - ((ke6 w h a ss x3 c) * p)) + 1)) : Value) = .int .i64 (((ked ss x3).1 - ((ke6 w h a ss x3 c) * p)) + 1) /\ ((.int .i64 (IntKind.wrap .i64 ((ke6 w h a ss x3 c) * p)) : Value) = .int .i64 ((ke6 w h a ss x3 c) * p) /\ ((.int .i64 (IntKind.wrap .i64 ((ked ss x3).1 + ((ke6 w h a ss x3 c) * p))) : Value) = .int .i64 ((ked ss x3).1 + ((ke6 w h a ss x3 c) * p)) /\ ((.int .i64 (IntKind.wrap .i64 (((ked ss x3).1 + ((ke6 w h a ss x3 c) * p)) - 1)) : Value) = .int .i64 (((ked ss x3).1 + ((ke6 w h a ss x3 c) * p)) - 1) /\ ((((keb p ss w h a c x3) + 1) * 16 <= 2 ^ 44 /\ 1 ≠ 0 /\ ((keb p ss w h a c x3) <= (keb p ss w h a c x3) /\ 0 + (keb p ss w h a c x3) * 2 <= List.length (ker p ss w h a c x3)) /\ (1 <= 1 /\ 0 + 1 * 2 <= List.length (keh ss x3 w h a c p)) /\ ((List.take (1 * 2) (List.drop 0 (keh ss x3 w h a c p))) : List Value).all (fun v => one1 v) = true) /\ true = true /\ ((.int .i64 (IntKind.wrap .i64 ((kel x3) + 1)) : Value) = .int .i64 ((kel x3) + 1) /\ (∃ x3' : Nat, (x3' <= List.length ss /\ farT (ke2 w h a ss) c x3' = false) /\ (List.length ss - x3') < (List.length ss - x3) /\ true = true /\ ((.int .i64 ((kel x3) + 1) : Value) = .int .i64 ((x3' : Nat) : Int) /\ wk (.slice (some ⟨9, 0, none⟩) ((keb p ss w h a c x3) + 1) ((keb p ss w h a c x3) + 1) : Value) (.slice (some ⟨9, 0, some 1⟩) (List.length (notT p ss (ke2 w h a ss) c x3')) (List.length (notT p ss (ke2 w h a ss) c x3')) : Value) /\ (.int .i64 (if ((ked ss x3).1 : Int) < (lsT ss x3) then ((ked ss x3).1 : Int) else (lsT ss x3)) : Value) = .int .i64 (lsT ss x3') /\ (.int .i64 (if ((ked ss x3).1 : Int) > (msT ss x3) then ((ked ss x3).1 : Int) else (msT ss x3)) : Value) = .int .i64 (msT ss x3') /\ kec c ss) /\ (True) /\ ((some (.cells true 2 ((List.take ((keb p ss w h a c x3) * 2) (List.drop 0 (ker p ss w h a c x3))) ++ (List.take (1 * 2) (List.drop 0 (keh ss x3 w h a c p)))) : KObj) = some (.cells true 2 (List.flatMap spC (notT p ss (ke2 w h a ss) c x3')) : KObj) /\ belowO 6 (.cells true 2 (List.flatMap spC (notT p ss (ke2 w h a ss) c x3')) : KObj) = true) /\ True) /\ (True))))))))))))))))))) /\ ((decide (((kel x3) : Int) < (((keg ss) : Nat) : Int))) = false -> (((some (.cells true 2 (ker p ss w h a c x3) : KObj) = some (.cells true 2 (ker p ss w h a c x3) : KObj)) /\ True) /\ (∀ H' : Heap, H'.length = 7 -> (H'[6]? = some (.cells true 2 (ker p ss w h a c x3) : KObj) /\ True) -> KCall prog 81 [.slice (some ⟨6, 0, some 1⟩) (keb p ss w h a c x3) (keb p ss w h a c x3), .func (.func 82) #[] #[]] H' [6] (fun y H2 => ∃ z : List (Int × Int), (SortS (notT p ss (ke2 w h a ss) c x3) z) /\ y = .tuple #[] /\ H2 = (List.set H' 6 (.cells true 2 (List.flatMap spC z) : KObj)))) /\ (∀ r4 : List (Int × Int), (SortS (notT p ss (ke2 w h a ss) c x3) r4) -> ((.int .i64 (IntKind.wrap .i64 ((msT ss x3) + 1)) : Value) = .int .i64 ((msT ss x3) + 1) /\ ((.int .i64 (IntKind.wrap .i64 ((msT ss x3) + 1)) : Value) = .int .i64 ((msT ss x3) + 1) /\ ((((keb p ss w h a c x3) + 1) * 16 <= 2 ^ 44 /\ 1 ≠ 0 /\ ((keb p ss w h a c x3) <= (keb p ss w h a c x3) /\ 0 + (keb p ss w h a c x3) * 2 <= List.length (List.flatMap spC r4)) /\ (1 <= 1 /\ 0 + 1 * 2 <= List.length (ken ss x3)) /\ ((List.take (1 * 2) (List.drop 0 (ken ss x3))) : List Value).all (fun v => one1 v) = true) /\ true = true /\ (true = true /\ (0 <= List.length (r4 ++ [((ke0 ss) + 1, (ke0 ss) + 1)])) /\ (true = true /\ ((.int .i64 0 : Value) = .int .i64 ((0 : Nat) : Int) /\ wk (.slice none 0 0 : Value) (.slice (some ⟨0, 0, some 1⟩) (List.length (kep ss r4).2) (List.length (kep ss r4).2) : Value) /\ (.int .i64 (lsT ss x3) : Value) = .int .i64 (kep ss r4).1 /\ ke7 ss x3 p w h a c) /\ ((some (.cells true 2 ((List.take ((keb p ss w h a c x3) * 2) (List.drop 0 (List.flatMap spC r4))) ++ (List.take (1 * 2) (List.drop 0 (ken ss x3)))) : KObj) = some (kea r4 ss) /\ belowO 9 (kea r4 ss) = true) /\ True) /\ kes /\ (True)) /\ (∀ x5 : Nat, true = true) /\ ∀ x5 : Nat, (x5 <= List.length (r4 ++ [((ke0 ss) + 1, (ke0 ss) + 1)])) -> (((decide (((kei x5) : Int) < ((((keb p ss w h a c x3) + 1) : Nat) : Int))) = true -> (((0 : Int) <= (kei x5) /\ ((kei x5) : Int) < ((((keb p ss w h a c x3) + 1) : Nat) : Int)) /\ ((partA 2 (List.flatMap spC (r4 ++ [((ke0 ss) + 1, (ke0 ss) + 1)])) (0 + Int.toNat (kei x5) * 2) = some (.agg #[.int .i64 (ke5 r4 ss x5).1, .int .i64 (ke5 r4 ss x5).2])) /\ (((decide (((ke5 r4 ss x5).2 : Int) < (ke5 r4 ss x5).1)) = true -> ((.int .i64 (IntKind.wrap .i64 ((kei x5) + 1)) : Value) = .int .i64 ((kei x5) + 1) /\ (∃ x5' : Nat, (x5' <= List.length (r4 ++ [((ke0 ss) + 1, (ke0 ss) + 1)])) /\ (List.length (r4 ++ [((ke0 ss) + 1, (ke0 ss) + 1)]) - x5') < (List.length (r4 ++ [((ke0 ss) + 1, (ke0 ss) + 1)]) - x5) /\ true = true /\ ((.int .i64 ((kei x5) + 1) : Value) = .int .i64 ((x5' : Nat) : Int) /\ wk (.slice (some ⟨9, 0, some 1⟩) (kej ss r4 x5) (kej ss r4 x5) : Value) (.slice (some ⟨9, 0, some 1⟩) (List.length (ke8 ss r4 x5').2) (List.length (ke8 ss r4 x5').2) : Value) /\ (.int .i64 (ke3 ss r4 x5).1 : Value) = .int .i64 (ke8 ss r4 x5').1 /\ ke7 ss x3 p w h a c) /\ ((some (kea r4 ss) = some (kea r4 ss) /\ belowO 9 (kea r4 ss) = true) /\ True) /\ ((some (.cells true 2 (List.flatMap spC ((ke3 ss r4 x5).2)) : KObj) = some (keq ss r4 x5') /\ belowO 9 (keq ss r4 x5') = true) /\ True) /\ (True)))) /\ ((decide (((ke5 r4 ss x5).2 : Int) < (ke5 r4 ss x5).1)) = false -> (((decide (((ke3 ss r4 x5).1 : Int) < (ke5 r4 ss x5).1)) = true -> (((decide (((ke3 ss r4 x5).1 : Int) <= (msT ss x3))) = true -> ((.int .i64 (IntKind.wrap .i64 ((ke5 r4 ss x5).1 - 1)) : Value) = .int .i64 ((ke5 r4 ss x5).1 - 1) /\ ((((kej ss r4 x5) + 1) * 16 <= 2 ^ 44 /\ 1 ≠ 0 /\ ((kej ss r4 x5) <= (kej ss r4 x5) /\ 0 + (kej ss r4 x5) * 2 <= List.length (List.flatMap spC ((ke3 ss r4 x5).2))) /\ (1 <= 1 /\ 0 + 1 * 2 <= List.length (kee ss r4 x5 x3)) /\ ((List.take (1 * 2) (List.drop 0 (kee ss r4 x5 x3))) : List Value).all (fun v => one1 v) = true) /\ true = true /\ ((.int .i64 (IntKind.wrap .i64 ((ke5 r4 ss x5).2 + 1)) : Value) = .int .i64 ((ke5 r4 ss x5).2 + 1) /\ (∃ y6 : Int, (.int .i64 (if (((ke5 r4 ss x5).2 + 1) : Int) > (ke3 ss r4 x5).1 then (((ke5 r4 ss x5).2 + 1) : Int) else (ke3 ss r4 x5).1) : Value) = .int .i64 y6 /\ ((.int .i64 (IntKind.wrap .i64 ((kei x5) + 1)) : Value) = .int .i64 ((kei x5) + 1) /\ (∃ x5' : Nat, (x5' <= List.length (r4 ++ [((ke0 ss) + 1, (ke0 ss) + 1)])) /\ (List.length (r4 ++ [((ke0 ss) + 1, (ke0 ss) + 1)]) - x5') < (List.length (r4 ++ [((ke0 ss) + 1, (ke0 ss) + 1)]) - x5) /\ true = true /\ ((.int .i64 ((kei x5) + 1) : Value) = .int .i64 ((x5' : Nat) : Int) /\ wk (.slice (some ⟨12, 0, none⟩) ((kej ss r4 x5) + 1) ((kej ss r4 x5) + 1) : Value) (.slice (some ⟨12, 0, some 1⟩) (List.length (ke8 ss r4 x5').2) (List.length (ke8 ss r4 x5').2) : Value) /\ (.int .i64 y6 : Value) = .int .i64 (ke8 ss r4 x5').1 /\ ke7 ss x3 p w h a c) /\ ((some (kea r4 ss) = some (kea r4 ss) /\ belowO 9 (kea r4 ss) = true) /\ True) /\ ((some (.cells true 2 ((List.take ((kej ss r4 x5) * 2) (List.drop 0 (List.flatMap spC ((ke3 ss r4 x5).2)))) ++ (List.take (1 * 2) (List.drop 0 (kee ss r4 x5 x3)))) : KObj) = some (keq ss r4 x5') /\ belowO 9 (keq ss r4 x5') = true) /\ True) /\ (True)))))))) /\ ((decide (((ke3 ss r4 x5).1 : Int) <= (msT ss x3))) = false -> (ke1 r4 ss x5 x3 p w h a c)))) /\ ((decide (((ke3 ss r4 x5).1 : Int) < (ke5 r4 ss x5).1)) = false -> (ke1 r4 ss x5 x3 p w h a c)))))))) /\ ((decide (((kei x5) : Int) < ((((keb p ss w h a c x3) + 1) : Nat) : Int))) = false -> (true = true /\ wk (.tuple #[.slice (some ⟨9, 0, some 1⟩) (kej ss r4 x5) (kej ss r4 x5), .int .i64 0] : Value) (rn (sg 2 [(2, 9)]) 3 (ke9 p ss w h a c)) /\ ((some (.cells true 2 (List.flatMap spC ((ke3 ss r4 x5).2)) : KObj) = some (.cells true 2 (List.flatMap spC (tmL p ss (ke2 w h a ss) c)) : KObj) /\ belowO 2 (.cells true 2 (List.flatMap spC (tmL p ss (ke2 w h a ss) c)) : KObj) = true) /\ True))))))))))))))))))))))
abbrev kek (x5 : Nat) : Hint := .go 0 (.bind Int (fun y6 => .slot 144 (.int .i64 y6) (.go 1 (.slot 145 (.int .i64 ((kei x5) + 1)) (.go 0 (.again [(9, 9)]))))))
theorem Etimes (o1 o2 : Bool) (z1 z2 : Nat) (w h : Int) (a : List Bool) (p : Int) (ss : List (Int × Int)) (c : Int) : vF prog msk (dm 0) 100000 true 40 true 19 [.agg #[.int .i64 w, .int .i64 h, .slice (some ⟨0, 0, some 2⟩) (List.length a) (List.length a), .int .i64 p, .slice (some ⟨1, 0, some 2⟩) (keg ss) (keg ss)], .int .i64 c] (readsK [.cells o1 z1 (List.flatMap boolC a), .cells o2 z2 (kem ss)]) (some [])
 (.go 3 (.ans [(0, .cells o1 z1 (List.flatMap boolC a)), (1, .cells o2 z2 (kem ss))] ket [.cells true 0 (ke4 w h a p ss), .cells true 1 (inL (ke2 w h a ss))] (.go 11 (.ans [(0, .cells o1 z1 (List.flatMap boolC a))] (.bool (seaB a c)) [] (.go 1 (.fork (.go 1 (.again [])) (.go 0 (.ans [(3, .cells true 0 (ke4 w h a p ss)), (0, .cells o1 z1 (List.flatMap boolC a)), (1, .cells o2 z2 (kem ss)), (4, .cells true 1 (inL (ke2 w h a ss)))] (.slice (some ⟨5, 0, some 1⟩) (keo p ss w h a) (keo p ss w h a)) [.cells true 2 (List.flatMap spC (cfTo p ss (ke2 w h a ss) (keg ss)))] (.go 2 (.fork (.go 1 (.again [])) (.go 7 (.fork (.go 1 (.again [])) (.go 9 (.inv 3 (Nat) (0) [] [] (fun x3 => [(52, .int .i64 (kel x3)), (8, .slice (some ⟨6, 0, some 1⟩) (keb p ss w h a c x3) (keb p ss w h a c x3)), (9, .int .i64 (lsT ss x3)), (10, .int .i64 (msT ss x3)), (1, .int .i64 c), (6, .pointer (some ⟨3, 0, none⟩)), (50, .slice (some ⟨1, 0, some 2⟩) (keg ss) (keg ss)), (51, .int .i64 (((keg ss) : Nat) : Int))]) (fun x3 => []) (fun x3 => [(true, .cells true 2 (ker p ss w h a c x3))]) (fun x3 => []) (fun x3 => (x3 <= List.length ss /\ farT (ke2 w h a ss) c x3 = false)) (fun x3 => (List.length ss - x3)) (fun x3 => .go 0 (.fork (.go 0 (.need (.val (.agg #[.int .i64 (ked ss x3).1, .int .i64 (ked ss x3).2]) (.go 24 (.need (.val (.iface ((List.length (List.getD (ke2 w h a ss) x3 [])) + 1) (.agg ⟨(List.flatMap intC (List.getD (ke2 w h a ss) x3 []))⟩)) (.go 0 (.need (.val (.int .i64 (ke6 w h a ss x3 c)) (.go 3 (.fork (.go 1 (.again [])) (.go 9 (.slot 82 (.int .i64 ((ke6 w h a ss x3 c) * p)) (.go 0 (.slot 83 (.int .i64 ((ked ss x3).1 - ((ke6 w h a ss x3 c) * p))) (.go 0 (.slot 84 (.int .i64 (((ked ss x3).1 - ((ke6 w h a ss x3 c) * p)) + 1)) (.go 8 (.slot 93 (.int .i64 ((ke6 w h a ss x3 c) * p)) (.go 0 (.slot 94 (.int .i64 ((ked ss x3).1 + ((ke6 w h a ss x3 c) * p))) (.go 0 (.slot 95 (.int .i64 (((ked ss x3).1 + ((ke6 w h a ss x3 c) * p)) - 1)) (.go 1 (.need (.go 1 (.slot 99 (.int .i64 ((kel x3) + 1)) (.go 0 (.again [(6, 9)]))))))))))))))))))))))))))))) (.go 0 (.anse [(6, .cells true 2 (ker p ss w h a c x3))] [6] (List (Int × Int)) (fun r4 => (SortS (notT p ss (ke2 w h a ss) c x3) r4)) (fun r4 => .tuple #[]) (fun r4 => [(6, .cells true 2 (List.flatMap spC r4))]) (fun r4 => []) (fun r4 => .go 5 (.slot 105 (.int .i64 ((msT ss x3) + 1)) (.go 1 (.slot 107 (.int .i64 ((msT ss x3) + 1)) (.go 1 (.need (.go 1 (.inv 3 (Nat) (0) [] [8] (fun x5 => [(112, .int .i64 (kei x5)), (14, .slice (some ⟨9, 0, some 1⟩) (kej ss r4 x5) (kej ss r4 x5)), (15, .int .i64 (ke3 ss r4 x5).1), (10, .int .i64 (msT ss x3)), (110, .slice (some ⟨8, 0, none⟩) ((keb p ss w h a c x3) + 1) ((keb p ss w h a c x3) + 1)), (111, .int .i64 ((((keb p ss w h a c x3) + 1) : Nat) : Int))]) (fun x5 => [(8, true, .cells true 2 (List.flatMap spC (r4 ++ [((ke0 ss) + 1, (ke0 ss) + 1)])))]) (fun x5 => [(true, .cells true 2 (List.flatMap spC ((ke3 ss r4 x5).2)))]) (fun x5 => []) (fun x5 => (x5 <= List.length (r4 ++ [((ke0 ss) + 1, (ke0 ss) + 1)]))) (fun x5 => (List.length (r4 ++ [((ke0 ss) + 1, (ke0 ss) + 1)]) - x5)) (fun x5 => .go 0 (.fork (.need (.val (.agg #[.int .i64 (ke5 r4 ss x5).1, .int .i64 (ke5 r4 ss x5).2]) (.go 6 (.fork (.go 0 (.slot 145 (.int .i64 ((kei x5) + 1)) (.go 0 (.again [(9, 9)])))) (.go 4 (.gfork (.go 3 (.fork (.go 4 (.slot 134 (.int .i64 ((ke5 r4 ss x5).1 - 1)) (.go 3 (.need (.go 4 (.slot 143 (.int .i64 ((ke5 r4 ss x5).2 + 1)) (.go 0 (.bind Int (fun y6 => .slot 144 (.int .i64 y6) (.go 1 (.slot 145 (.int .i64 ((kei x5) + 1)) (.go 0 (.again [(9, 12)]))))))))))))) (.go 3 (.slot 143 (.int .i64 ((ke5 r4 ss x5).2 + 1)) (kek x5))))) (.go 5 (.slot 143 (.int .i64 ((ke5 r4 ss x5).2 + 1)) (kek x5))))))))) (.go 2 (.again [(2, 9)]))))))))))))))))))))))))))))))
 (newK ((readsK [.cells o1 z1 (List.flatMap boolC a), .cells o2 z2 (kem ss)]) : HT).n 3 (.tuple #[.slice (some ⟨2, 0, some 1⟩) (List.length (tmL p ss (ke2 w h a ss) c)) (List.length (tmL p ss (ke2 w h a ss) c)), .int .i64 0]) [(true, .cells true 2 (List.flatMap spC (tmL p ss (ke2 w h a ss) c)))]) = Rtimes o1 o2 z1 z2 w h a p ss c := by kernel_rfl
end
end Go.Proofs.YtbgfjemppjhmjaaGreat
/- What is to be shown of functions. Printed by a program. No condition. -/
namespace Go.Proofs.YtbgfjemppjhmjaaGreat
set_option linter.unusedSimpArgs false
open Go Go.K
set_option maxRecDepth 100000
set_option maxHeartbeats 4000000
set_option linter.unusedVariables false
noncomputable section
def RcmpS (sp : Value) (a b : Int × Int) : Prop :=
 ((.int .i64 (IntKind.wrap .i64 (a.1 - b.1)) : Value) = .int .i64 (a.1 - b.1) /\ (.int .i64 (a.1 - b.1) : Value) = sp)
theorem EcmpS (sp : Value) (a b : Int × Int) : vF prog msk (dm 0) 100000 true 40 true 82 [.agg #[.int .i64 a.1, .int .i64 a.2], .agg #[.int .i64 b.1, .int .i64 b.2]] ⟨0, .leaf⟩ (some [])
 (.go 7 (.slot 9 (.int .i64 (a.1 - b.1)) (.auto)))
 (fun v _ _ => v = sp) = RcmpS sp a b := by kernel_rfl
end
end Go.Proofs.YtbgfjemppjhmjaaGreat
/- Radio: the minutes at which a ship can be in a cell. No condition. -/
namespace Go.Proofs.YtbgfjemppjhmjaaGreat
open Go Go.K Go.Sort
set_option maxRecDepth 100000
set_option linter.unusedVariables false
set_option linter.unusedSimpArgs false
noncomputable section
attribute [local irreducible] vF
abbrev spA (n : Int × Int) : Value := .agg ⟨spC n⟩
def okS2 (n : Int × Int) : Prop := -2000000000000 <= n.1 /\ n.1 <= 2000000000000
theorem kCmpS {a b : Int × Int} (ha : okS2 a) (hb : okS2 b) (H : Heap) : KCall prog 82 [spA a, spA b] H [] (Is (.int .i64 (a.1 - b.1)) H) := by
 refine valB (v := .int .i64 (a.1 - b.1)) (css := []) (ids := []) (Eq.mpr (EcmpS _ a b) ?_) (hv := rfl) (hi := trivial) (ha := rfl)
 unfold okS2 at ha hb
 exact ⟨vI64 (by omega), rfl⟩
theorem entersSS : Enters prog 81 := entersF Tryz.func81 (by kernel_rfl) (by kernel_rfl)
theorem entersCS : Enters prog 82 := entersF Tryz.func82 (by kernel_rfl) (by kernel_rfl)
abbrev OkSp := {n : Int × Int // okS2 n}
theorem swoS : SWO (ltOf fun x y : OkSp => x.1.1 - y.1.1) := by
 have h : ∀ x y : OkSp, ltOf (fun x y : OkSp => x.1.1 - y.1.1) x y = decide (x.1.1 < y.1.1) := fun x y => decide_eq_decide.2 (by dsimp only; omega)
 refine ⟨fun x => ?_, fun x y z h1 h2 => ?_, fun x y z h1 h2 => ?_⟩
 ·rw [h]; exact decide_eq_false (by omega)
 ·rw [h] at h1 h2 ⊢; have := of_decide_eq_true h1; have := of_decide_eq_true h2; exact decide_eq_true (by omega)
 ·rw [h] at h1 h2 ⊢; have := of_decide_eq_false h1; have := of_decide_eq_false h2; exact decide_eq_false (by omega)
theorem okSubS : ∀ (L : List (Int × Int)), (∀ m ∈ L, okS2 m) -> ∃ L' : List OkSp, L'.map (·.1) = L
 | [], _ => ⟨[], rfl⟩
 | m :: L, h => by
  obtain ⟨L', e⟩ := okSubS L fun x hx => h x (List.mem_cons_of_mem _ hx)
  exact ⟨⟨m, h m (List.mem_cons_self ..)⟩ :: L', by rw [List.map_cons, e]⟩
theorem flatSubS : ∀ (L' : List OkSp), L'.flatMap (fun x => spC x.1) = (L'.map (·.1)).flatMap spC
 | [] => rfl
 | x :: L' => by rw [List.flatMap_cons, flatSubS L']; rfl
theorem kSortS {L0 : List (Int × Int)} (hk : ∀ m ∈ L0, okS2 m) (h0 : 0 < L0.length) (hl : L0.length < 4000000) {H : Heap} {id : Nat} (ho : H[id]? = some (.cells true 2 (L0.flatMap spC))) :
  KCall prog 81 [.slice (some ⟨id, 0, some 1⟩) L0.length L0.length, .func (.func 82) #[] #[]] H [id] (fun v' H' => ∃ z, SortS L0 z /\ v' = .tuple #[] /\ H' = H.set id (.cells true 2 (z.flatMap spC))) := by
 obtain ⟨L', e⟩ := okSubS L0 hk
 have hl' : L'.length = L0.length := by rw [<- e, List.length_map]
 rw [<- e, <- flatSubS] at ho
 have key := kSortFuncN (P := prog) sortS 2 (by omega) Tryz.isAgg47 Tryz.sizeOf47 (fun x : OkSp => spC x.1) (fun x => rfl) (fun x y => x.1.1 - y.1.1) swoS 82
  (fun ρ x v v' hv hr => by
   simp only [List.mem_cons, List.not_mem_nil, or_false] at hv
   rcases hv with rfl | rfl <;> cases hr <;> rfl)
  entersCS entersSS (fun x y n => kCmpS x.2 y.2 _) (.inr rfl) (L0 := L') (by omega) (by omega) ho (Q := fun v' H' => ∃ z, SortS L0 z /\ v' = .tuple #[] /\ H' = H.set id (.cells true 2 (z.flatMap spC)))
  (fun L1 hp hs => ⟨L1.map (·.1), ⟨by rw [<- e]; exact (hp.map _).symm, by
   rw [List.pairwise_map]
   refine hs.imp fun {x y} h => ?_
   have h2 : ¬ y.1.1 - x.1.1 < 0 := of_decide_eq_false h
   omega⟩, rfl, by rw [flatSubS]⟩)
 rw [hl'] at key
 exact key
theorem lsT_succ {ss : List (Int × Int)} {x : Nat} (hx : x < ss.length) : lsT ss (x + 1) = mnI (lsT ss x) (ss.getD x zeroSp).1 := by
 unfold lsT
 rw [List.take_succ_eq_append_getElem hx, List.foldl_append, List.getD_eq_getElem?_getD, List.getElem?_eq_getElem hx]; rfl
theorem msT_succ {ss : List (Int × Int)} {x : Nat} (hx : x < ss.length) : msT ss (x + 1) = mxI (msT ss x) (ss.getD x zeroSp).1 := by
 unfold msT
 rw [List.take_succ_eq_append_getElem hx, List.foldl_append, List.getD_eq_getElem?_getD, List.getElem?_eq_getElem hx]; rfl
theorem lm_bd {ss : List (Int × Int)} (h : ∀ s ∈ ss, 0 <= s.1 /\ s.1 <= 100000) : ∀ x, x <= ss.length -> (0 <= lsT ss x /\ lsT ss x <= 100000) /\ (0 <= msT ss x /\ msT ss x <= 100000) /\ ∀ k, k < x -> lsT ss x <= (ss.getD k zeroSp).1 /\ (ss.getD k zeroSp).1 <= msT ss x
 | 0, _ => ⟨⟨(by decide : (0 : Int) <= 100000), Int.le_refl _⟩, ⟨Int.le_refl 0, (by decide : (0 : Int) <= 100000)⟩, fun k hk => by omega⟩
 | x + 1, hx => by
  obtain ⟨h1, h2, h3⟩ := lm_bd h x (by omega)
  have h4 := h _ (getD_mem (d := zeroSp) (show x < ss.length by omega))
  rw [lsT_succ (by omega), msT_succ (by omega)]
  have e1 : mnI (lsT ss x) (ss.getD x zeroSp).1 <= lsT ss x /\ mnI (lsT ss x) (ss.getD x zeroSp).1 <= (ss.getD x zeroSp).1 /\ 0 <= mnI (lsT ss x) (ss.getD x zeroSp).1 := by unfold mnI; split <;> omega
  have e2 : msT ss x <= mxI (msT ss x) (ss.getD x zeroSp).1 /\ (ss.getD x zeroSp).1 <= mxI (msT ss x) (ss.getD x zeroSp).1 /\ mxI (msT ss x) (ss.getD x zeroSp).1 <= 100000 := by unfold mxI; split <;> omega
  refine ⟨by omega, by omega, fun k hk => ?_⟩
  by_cases hkx : k = x
  ·rw [hkx]; omega
  ·have := h3 k (by omega); omega
theorem notT_succ (p : Int) (ss : List (Int × Int)) (rr : List (List Int)) (c : Int) (x : Nat) : notT p ss rr c (x + 1) = notT p ss rr c x ++ [((ss.getD x zeroSp).1 - stC rr x c * p + 1, (ss.getD x zeroSp).1 + stC rr x c * p - 1)] := tabP_succ ..
theorem notT_len (p : Int) (ss : List (Int × Int)) (rr : List (List Int)) (c : Int) (x : Nat) : (notT p ss rr c x).length = x := tabP_len ..
theorem farT_no {rr : List (List Int)} {c : Int} {x : Nat} (h : farT rr c x = false) (h1 : stC rr x c ≠ farI) : farT rr c (x + 1) = false := by
 unfold farT at h ⊢
 rw [List.range_succ, List.any_append, h, List.any_cons, decide_eq_false h1]; rfl
theorem farT_yes {rr : List (List Int)} {c : Int} {x n : Nat} (hx : x < n) (h1 : stC rr x c = farI) : farT rr c n = true := by
 unfold farT
 rw [List.any_eq_true]
 exact ⟨x, List.mem_range.2 hx, decide_eq_true h1⟩
theorem scanT_len (least most : Int) (S : List (Int × Int)) : ∀ k, k <= S.length -> (scanT least most S k).2.length <= k
 | 0, _ => Nat.le_refl _
 | k + 1, hk => by
  have ih := scanT_len least most S k (by omega)
  rw [scanT_succ _ _ _ (by omega)]
  unfold scan
  split
  ·omega
  ·dsimp only
   split
   ·rw [List.length_append, List.length_singleton]; omega
   ·omega
theorem ep_bd {e p : Int} (he : 0 <= e /\ e <= farI) (hp : 1 <= p /\ p <= 1000) : 0 <= e * p /\ e * p <= 1073741824000 := by
 have h1 : e * p <= 1073741824 * 1000 := Int.mul_le_mul he.2 hp.2 (by omega) (by omega)
 exact ⟨Int.mul_nonneg he.1 (by omega), h1⟩
theorem notT_bd {w h : Int} {a : List Bool} {p : Int} {ss : List (Int × Int)} {rr : List (List Int)} {c : Int} (t : TrOk w h a p ss) (rk : RowsOk a ss rr) (hc : 0 <= c /\ c < (a.length : Int)) : ∀ y ∈ notT p ss rr c ss.length, (-1100000000000 <= y.1 /\ y.1 <= 1100000000000) /\ (-1100000000000 <= y.2 /\ y.2 <= 1100000000000) := by
 intro y hy
 obtain ⟨k, hk, rfl⟩ := List.mem_map.1 hy
 have hk := List.mem_range.1 hk
 have h1 := ((rk.row k hk).2 (Int.toNat c) (by omega))
 have h2 := ep_bd (show 0 <= stC rr k c /\ stC rr k c <= farI from h1) t.pace
 have h3 := (t.bd hk).1
 dsimp only
 omega
theorem hvTimes {o1 o2 : Bool} {z1 z2 : Nat} {w h : Int} {a : List Bool} {p : Int} {ss : List (Int × Int)} {c : Int} (t : TrOk w h a p ss) (e0 : errT w h a p ss = 0) (hsea : seaB a c = true) (hne : 0 < ss.length) (hcf : cfTo p ss (trkRows w h a ss) ss.length = []) : Rtimes o1 o2 z1 z2 w h a p ss c := by
 have hs := t.few
 have hn := t.bas.n1
 have hp1 := t.bas.p1
 have ha : a.length <= 1024 := by omega
 have rk := rowsOk t
 have hc := (seaB_in hsea).1
 obtain ⟨rr, hrr⟩ : ∃ rr, rowT w h a ss ss.length = rr := ⟨_, rfl⟩
 have hcf' := hcf
 have rk' := rk
 rw [show trkRows w h a ss = rr from hrr] at hcf' rk'
 have hlr := rk'.len
 have hrow := fun k hk => rk'.row k hk
 have hlm := lm_bd (ss := ss) (fun s hm => (t.seen s hm).1)
 have hNb := notT_bd t rk' hc
 delta Rtimes kef kem keg ket ke2 ke4 ke9 kes keo kec kel ked ke6 keb ker keh ken ke0 kep ke7 kea kei ke5 ke3 kej ke8 keq kee ke1
 refine ⟨⟨rfl, rfl, trivial⟩, fun H' hH h => (by have := kOpen0 (by omega) (by omega) e0 (by decide) h.1 h.2.1; rw [hH] at this; exact this), ⟨rfl, trivial⟩, fun H' _ h => kSea _ _ _ _ (by omega) h.1, fun k => absurd hsea (by rw [notB k]; exact Bool.noConfusion), fun _ => ⟨⟨rfl, rfl, rfl, rfl, trivial⟩, fun H' hH h => hH ▸ kConf t rk ⟨by decide, h.2.1, h.2.2.1, h.1, h.2.2.2.1⟩, fun k3 => ?_, fun k3 => ⟨fun k4 => absurd (eq_of_beq k4) (by omega), fun _ => ?_⟩⟩⟩
 ·have := of_decide_eq_true k3
  rw [show (rowT w h a ss ss.length) = trkRows w h a ss from rfl, hcf] at this
  exact absurd this (by simp)
 rw [hrr]
 refine ⟨rfl, ⟨Nat.zero_le _, rfl⟩, ?_, fun _ => rfl, fun x hx => ⟨fun k => ?_, fun k => ?_⟩⟩
 ·repeat' first | exact wk_nil _ _ _ (.inl rfl) | exact trivial | exact rfl | exact wk_refl _ | refine wkO_cells ?_ | refine wks_cons ?_ ?_ | exact wks_nil | exact wk_nil _ _ _ (.inl rfl) | (exact wk_Q (by omega)) | refine wk_tupL ?_ | refine wk_aggL ?_ | refine joinMax ?_ ?_ ?_ | refine joinMin ?_ ?_ ?_ | refine toMax ?_ | refine toMin ?_ | refine ⟨rfl, ?_⟩ | refine ⟨trivial, ?_⟩ | (refine forkD (fun h => ?_) (fun h => ?_)) | (refine forkNe (fun h => ?_) (fun h => ?_)) | (refine forkEq (fun h => ?_) (fun h => ?_)) | refine forkNot ?_ | (refine ⟨vI64 (by omega), ?_⟩) | (refine And.intro (by omega) ?_) | apply And.intro | (exact iEq (by omega)) | (exact vI64 (by omega))
 ·have h1 : x < ss.length := by have := of_decide_eq_true k; omega
  obtain ⟨r1, r2⟩ := hrow x h1
  have hb := r2 (Int.toNat c) (by omega)
  have ht := (t.bd h1).1
  obtain ⟨b1, b2, _⟩ := hlm x (by omega)
  have hNl := notT_len p ss rr c x
  refine ⟨⟨by omega, by omega⟩, spPart h1 (by omega), ⟨by omega, by omega⟩, inL_at (by omega) (by omega), ⟨hc.1, by rw [r1]; exact hc.2⟩, intAt (by omega) (by omega), fun q => ⟨rfl, ?_⟩, fun q => ?_⟩
  ·have hfar : farT rr c ss.length = true := farT_yes h1 (eq_of_beq q)
   have e : tmL p ss rr c = [] := by unfold tmL; rw [if_pos hfar]
   rw [e]
   exact ⟨wk_tupL (wks_cons (wk_nil _ _ _ (.inl rfl)) (wks_cons (wk_refl _) wks_nil)), trivial, trivial⟩
  ·have hq : stC rr x c ≠ farI := fun e => by
    have e2 : (rr.getD x []).getD (Int.toNat c) 0 = 1073741824 := e
    rw [e2] at q; cases q
   have hsucc := notT_succ p ss rr c x
   unfold stC at hsucc
   obtain ⟨e, he⟩ : ∃ e, (rr.getD x []).getD (Int.toNat c) 0 = e := ⟨_, rfl⟩
   rw [he] at hb hsucc ⊢
   have hep := ep_bd hb t.pace
   obtain ⟨ep, hepe⟩ : ∃ ep, e * p = ep := ⟨_, rfl⟩
   rw [hepe] at hep hsucc ⊢
   refine ⟨vI64 (by omega), vI64 (by omega), vI64 (by omega), vI64 (by omega), vI64 (by omega), vI64 (by omega), ⟨by omega, by decide, ⟨Nat.le_refl _, by rw [flat_len spC_len]; omega⟩, ⟨Nat.le_refl _, by simp⟩, rfl⟩, rfl, vI64 (by omega), x + 1, ⟨by omega, farT_no hx.2 hq⟩, by omega, rfl, ?_⟩
   repeat' first | exact wk_snoc hsucc | exact ob_snoc spC_len hsucc rfl | exact spB _ _ | exact congrArg (Value.int .i64) (lsT_succ h1).symm | exact congrArg (Value.int .i64) (msT_succ h1).symm | exact trivial | exact rfl | exact wk_refl _ | refine wkO_cells ?_ | refine wks_cons ?_ ?_ | exact wks_nil | exact wk_nil _ _ _ (.inl rfl) | (exact wk_Q (by omega)) | refine wk_tupL ?_ | refine wk_aggL ?_ | refine joinMax ?_ ?_ ?_ | refine joinMin ?_ ?_ ?_ | refine toMax ?_ | refine toMin ?_ | refine ⟨rfl, ?_⟩ | refine ⟨trivial, ?_⟩ | (refine forkD (fun h => ?_) (fun h => ?_)) | (refine forkNe (fun h => ?_) (fun h => ?_)) | (refine forkEq (fun h => ?_) (fun h => ?_)) | refine forkNot ?_ | (refine ⟨vI64 (by omega), ?_⟩) | (refine And.intro (by omega) ?_) | apply And.intro | (exact iEq (by omega)) | (exact vI64 (by omega))
 ·have h1 : x = ss.length := by have := of_decide_eq_false k; omega
  have hfar := hx.2
  subst h1
  have hNl := notT_len p ss rr c ss.length
  obtain ⟨b1, b2, b3⟩ := hlm ss.length (Nat.le_refl _)
  have hlm0 : lsT ss ss.length <= msT ss ss.length := by have := b3 0 hne; omega
  refine ⟨⟨rfl, trivial⟩, fun H' _ h => kSortS (fun m hm => ?_) (by omega) (by omega) h.1, fun M hM => ?_⟩
  ·have := hNb m hm
   unfold okS2; omega
  have hfin := scan_all hlm0 hM
  have htm : tmL p ss rr c = runs (fun m => !notF (notT p ss rr c ss.length) m) (lsT ss ss.length) (Int.toNat (msT ss ss.length - lsT ss ss.length + 1)) := by
   unfold tmL; rw [if_neg (by rw [hfar]; exact Bool.noConfusion)]
  rw [<- htm] at hfin
  have hMl := hM.1.length_eq
  have hMb : ∀ y ∈ M, (-1100000000000 <= y.1 /\ y.1 <= 1100000000000) /\ (-1100000000000 <= y.2 /\ y.2 <= 1100000000000) := fun y hy => hNb y (hM.1.mem_iff.2 hy)
  clear hNb htm hM b3 hlm hx k
  generalize hmost : msT ss ss.length = most at *
  generalize hleast : lsT ss ss.length = least at *
  generalize hN : notT p ss rr c ss.length = N at *
  refine ⟨vI64 (by omega), vI64 (by omega), ⟨by omega, by decide, ⟨Nat.le_refl _, by rw [flat_len spC_len]; omega⟩, ⟨Nat.le_refl _, by simp⟩, rfl⟩, rfl, rfl, Nat.zero_le _, ?_, fun _ => rfl, fun y hy => ⟨fun ky => ?_, fun ky => ?_⟩⟩
  ·rw [hMl]
   repeat' first | exact wk_nil _ _ _ (.inl rfl) | exact iEq rfl | exact ob_snoc spC_len rfl rfl | exact spB _ _ | exact trivial | exact rfl | exact wk_refl _ | refine wkO_cells ?_ | refine wks_cons ?_ ?_ | exact wks_nil | exact wk_nil _ _ _ (.inl rfl) | (exact wk_Q (by omega)) | refine wk_tupL ?_ | refine wk_aggL ?_ | refine joinMax ?_ ?_ ?_ | refine joinMin ?_ ?_ ?_ | refine toMax ?_ | refine toMin ?_ | refine ⟨rfl, ?_⟩ | refine ⟨trivial, ?_⟩ | (refine forkD (fun h => ?_) (fun h => ?_)) | (refine forkNe (fun h => ?_) (fun h => ?_)) | (refine forkEq (fun h => ?_) (fun h => ?_)) | refine forkNot ?_ | (refine ⟨vI64 (by omega), ?_⟩) | (refine And.intro (by omega) ?_) | apply And.intro | (exact iEq (by omega)) | (exact vI64 (by omega))
  ·have hSl : (M ++ [(most + 1, most + 1)]).length = N.length + 1 := by rw [List.length_append, List.length_singleton, hMl]
   have hSb : ∀ z ∈ M ++ [(most + 1, most + 1)], (-1100000000000 <= z.1 /\ z.1 <= 1100000000000) /\ (-1100000000000 <= z.2 /\ z.2 <= 1100000000000) := fun z hz => by
    rcases List.mem_append.1 hz with hz | hz
    ·exact hMb z hz
    ·rw [List.mem_singleton.1 hz]; dsimp only; omega
   have hyl : y < (M ++ [(most + 1, most + 1)]).length := by have := of_decide_eq_true ky; omega
   clear hMb hfin
   generalize hS : M ++ [(most + 1, most + 1)] = S at *
   have hst := scanT_succ least most S hyl
   have hsl := scanT_len least most S y (by omega)
   have hxb := hSb _ (getD_mem (d := zeroSp) hyl)
   refine ⟨⟨by omega, by omega⟩, spPart hyl (by omega), ?_⟩
   unfold scan at hst
   generalize hx : S.getD y zeroSp = x at *
   generalize hsc : scanT least most S y = st at *
   refine ⟨fun c0 => ⟨vI64 (by omega), y + 1, by omega, by omega, rfl, ?_⟩, fun c0 => ⟨fun c1 => ⟨fun c2 => ?_, fun c2 => ?_⟩, fun c1 => ?_⟩⟩
   ·have h0 : x.1 > x.2 := of_decide_eq_true c0
    rw [if_pos h0] at hst
    rw [hst]
    repeat' first | exact spB _ _ | exact trivial | exact rfl | exact wk_refl _ | refine wkO_cells ?_ | refine wks_cons ?_ ?_ | exact wks_nil | exact wk_nil _ _ _ (.inl rfl) | (exact wk_Q (by omega)) | refine wk_tupL ?_ | refine wk_aggL ?_ | refine joinMax ?_ ?_ ?_ | refine joinMin ?_ ?_ ?_ | refine toMax ?_ | refine toMin ?_ | refine ⟨rfl, ?_⟩ | refine ⟨trivial, ?_⟩ | (refine forkD (fun h => ?_) (fun h => ?_)) | (refine forkNe (fun h => ?_) (fun h => ?_)) | (refine forkEq (fun h => ?_) (fun h => ?_)) | refine forkNot ?_ | (refine ⟨vI64 (by omega), ?_⟩) | (refine And.intro (by omega) ?_) | apply And.intro | (exact iEq (by omega)) | (exact vI64 (by omega))
   ·have h0 : ¬ x.1 > x.2 := of_decide_eq_false c0
    have h1 : x.1 > st.1 /\ st.1 <= most := ⟨of_decide_eq_true c1, of_decide_eq_true c2⟩
    rw [if_neg h0, if_pos h1] at hst
    refine ⟨vI64 (by omega), ⟨by omega, by decide, ⟨Nat.le_refl _, by rw [flat_len spC_len]; omega⟩, ⟨Nat.le_refl _, by simp⟩, rfl⟩, rfl, vI64 (by omega), mxI st.1 (x.2 + 1), rfl, vI64 (by omega), y + 1, by omega, by omega, rfl, ?_⟩
    rw [hst]
    repeat' first | exact wk_snoc rfl | exact ob_snoc spC_len rfl rfl | exact spB _ _ | exact trivial | exact rfl | exact wk_refl _ | refine wkO_cells ?_ | refine wks_cons ?_ ?_ | exact wks_nil | exact wk_nil _ _ _ (.inl rfl) | (exact wk_Q (by omega)) | refine wk_tupL ?_ | refine wk_aggL ?_ | refine joinMax ?_ ?_ ?_ | refine joinMin ?_ ?_ ?_ | refine toMax ?_ | refine toMin ?_ | refine ⟨rfl, ?_⟩ | refine ⟨trivial, ?_⟩ | (refine forkD (fun h => ?_) (fun h => ?_)) | (refine forkNe (fun h => ?_) (fun h => ?_)) | (refine forkEq (fun h => ?_) (fun h => ?_)) | refine forkNot ?_ | (refine ⟨vI64 (by omega), ?_⟩) | (refine And.intro (by omega) ?_) | apply And.intro | (exact iEq (by omega)) | (exact vI64 (by omega))
   ·have h0 : ¬ x.1 > x.2 := of_decide_eq_false c0
    have h1 : ¬ (x.1 > st.1 /\ st.1 <= most) := fun q => absurd (of_decide_eq_false c2) (by omega)
    rw [if_neg h0, if_neg h1] at hst
    refine ⟨vI64 (by omega), mxI st.1 (x.2 + 1), rfl, vI64 (by omega), y + 1, by omega, by omega, rfl, ?_⟩
    rw [hst]
    repeat' first | exact spB _ _ | exact trivial | exact rfl | exact wk_refl _ | refine wkO_cells ?_ | refine wks_cons ?_ ?_ | exact wks_nil | exact wk_nil _ _ _ (.inl rfl) | (exact wk_Q (by omega)) | refine wk_tupL ?_ | refine wk_aggL ?_ | refine joinMax ?_ ?_ ?_ | refine joinMin ?_ ?_ ?_ | refine toMax ?_ | refine toMin ?_ | refine ⟨rfl, ?_⟩ | refine ⟨trivial, ?_⟩ | (refine forkD (fun h => ?_) (fun h => ?_)) | (refine forkNe (fun h => ?_) (fun h => ?_)) | (refine forkEq (fun h => ?_) (fun h => ?_)) | refine forkNot ?_ | (refine ⟨vI64 (by omega), ?_⟩) | (refine And.intro (by omega) ?_) | apply And.intro | (exact iEq (by omega)) | (exact vI64 (by omega))
   ·have h0 : ¬ x.1 > x.2 := of_decide_eq_false c0
    have h1 : ¬ (x.1 > st.1 /\ st.1 <= most) := fun q => absurd (of_decide_eq_false c1) (by omega)
    rw [if_neg h0, if_neg h1] at hst
    refine ⟨vI64 (by omega), mxI st.1 (x.2 + 1), rfl, vI64 (by omega), y + 1, by omega, by omega, rfl, ?_⟩
    rw [hst]
    repeat' first | exact spB _ _ | exact trivial | exact rfl | exact wk_refl _ | refine wkO_cells ?_ | refine wks_cons ?_ ?_ | exact wks_nil | exact wk_nil _ _ _ (.inl rfl) | (exact wk_Q (by omega)) | refine wk_tupL ?_ | refine wk_aggL ?_ | refine joinMax ?_ ?_ ?_ | refine joinMin ?_ ?_ ?_ | refine toMax ?_ | refine toMin ?_ | refine ⟨rfl, ?_⟩ | refine ⟨trivial, ?_⟩ | (refine forkD (fun h => ?_) (fun h => ?_)) | (refine forkNe (fun h => ?_) (fun h => ?_)) | (refine forkEq (fun h => ?_) (fun h => ?_)) | refine forkNot ?_ | (refine ⟨vI64 (by omega), ?_⟩) | (refine And.intro (by omega) ?_) | apply And.intro | (exact iEq (by omega)) | (exact vI64 (by omega))
  ·have h2 : y = (M ++ [(most + 1, most + 1)]).length := by
    have := of_decide_eq_false ky
    rw [List.length_append, List.length_singleton] at *
    omega
   subst h2
   rw [hfin]
   repeat' first | exact spB _ _ | exact trivial | exact rfl | exact wk_refl _ | refine wkO_cells ?_ | refine wks_cons ?_ ?_ | exact wks_nil | exact wk_nil _ _ _ (.inl rfl) | (exact wk_Q (by omega)) | refine wk_tupL ?_ | refine wk_aggL ?_ | refine joinMax ?_ ?_ ?_ | refine joinMin ?_ ?_ ?_ | refine toMax ?_ | refine toMin ?_ | refine ⟨rfl, ?_⟩ | refine ⟨trivial, ?_⟩ | (refine forkD (fun h => ?_) (fun h => ?_)) | (refine forkNe (fun h => ?_) (fun h => ?_)) | (refine forkEq (fun h => ?_) (fun h => ?_)) | refine forkNot ?_ | (refine ⟨vI64 (by omega), ?_⟩) | (refine And.intro (by omega) ?_) | apply And.intro | (exact iEq (by omega)) | (exact vI64 (by omega))
theorem kTimes {w h : Int} {a : List Bool} {p : Int} {ss : List (Int × Int)} {c : Int} (e0 : errT w h a p ss = 0) (hsea : seaB a c = true) (hne0 : 0 < ss.length) (hcf : cfTo p ss (trkRows w h a ss) ss.length = []) {H : Heap} {i j : Nat} (hne : i ≠ j) {o1 o2 : Bool} {z1 z2 : Nat} (hi : H[i]? = some (.cells o1 z1 (a.flatMap boolC))) (hj : H[j]? = some (.cells o2 z2 (ss.flatMap spC))) :
  KCall prog 19 [trkV w h a p ss i j, .int .i64 c] H [] (Is (.tuple #[.slice (some ⟨H.length, 0, some 1⟩) (tmL p ss (trkRows w h a ss) c).length (tmL p ss (trkRows w h a ss) c).length, .int .i64 0]) (H ++ [.cells true 2 ((tmL p ss (trkRows w h a ss) c).flatMap spC)])) :=
 valKs (fun j => .tuple #[.slice (some ⟨j, 0, some 1⟩) (tmL p ss (trkRows w h a ss) c).length (tmL p ss (trkRows w h a ss) c).length, .int .i64 0]) (new := [.cells true 2 ((tmL p ss (trkRows w h a ss) c).flatMap spC)]) (Eq.mpr (Etimes o1 o2 z1 z2 w h a p ss c) (hvTimes (trOk e0) e0 hsea hne0 hcf)) (trk_ok ..) rfl ⟨⟨_, _, rfl, plainSp _ _⟩, trivial⟩ (ids := [i, j]) (by simp [hne]) (trk_objs hi hj) (fun j => rfl) rfl
end
end Go.Proofs.YtbgfjemppjhmjaaGreat
/- Radio: basins and ways made of numbers, as plain functions. No condition. -/
namespace Go.Proofs.YtbgfjemppjhmjaaGreat
set_option linter.unusedSimpArgs false
open Go Go.K
set_option linter.unusedVariables false
def wtLand (L : List Int) (k : Nat) : List Bool := tabP (fun i : Nat => decide (0 < i) && decide (dN L ((i : Int) + 1) 7 = 0)) k
def wtN (k : Nat) : Int := 2 + ((k - 1 : Nat) : Int)
def sdx (d : Int) : Int := List.getD [1, 0, -1, 0] (Int.toNat d) 0
def sdy (d : Int) : Int := List.getD [0, 1, 0, -1] (Int.toNat d) 0
structure Sl where
 now : Int
 q : Int
 at_ : List Int
def slU (L : List Int) (w : Int) (s : Sl) : Int := Int.tmod s.now w + sdx (dN L (s.q + 1) 4)
def slV (L : List Int) (w : Int) (s : Sl) : Int := Int.tdiv s.now w + sdy (dN L (s.q + 1) 4)
def slOk (L : List Int) (w h : Int) (a : List Bool) (s : Sl) : Bool := decide (0 <= slU L w s) && (decide (slU L w s < w) && (decide (0 <= slV L w s) && (decide (slV L w s < h) && !(List.getD a (Int.toNat (slV L w s * w + slU L w s)) false))))
def slPut (s : Sl) (x : Nat) : List Int := s.at_ ++ List.replicate x (-1)
def slStep (L : List Int) (w h : Int) (a : List Bool) (p : Int) (s : Sl) : Sl :=
 if dN L s.q 3 > 0 then (if slOk L w h a s = true then ⟨slV L w s * w + slU L w s, s.q + 1 + 1, slPut s (Int.toNat (p - 1)) ++ [slV L w s * w + slU L w s]⟩ else ⟨s.now, s.q + 1 + 1, s.at_ ++ [s.now]⟩)
 else ⟨s.now, s.q + 1, s.at_ ++ [s.now]⟩
def slRun (L : List Int) (w h : Int) (a : List Bool) (p : Int) : Nat -> Sl -> Sl
 | 0, s => s
 | m + 1, s => if s.at_.length <= 120 then slRun L w h a p m (slStep L w h a p s) else s
def slF (L : List Int) (w h : Int) (a : List Bool) (p q : Int) : Sl := slRun L w h a p 120 ⟨0, q, [0]⟩
end Go.Proofs.YtbgfjemppjhmjaaGreat
/- Radio: ways made of numbers: what the loop keeps. No condition. -/
namespace Go.Proofs.YtbgfjemppjhmjaaGreat
set_option linter.unusedSimpArgs false
open Go Go.K
set_option linter.unusedVariables false
structure SlI (L : List Int) (w h : Int) (a : List Bool) (p q : Int) (s : Sl) : Prop where
 now : 0 <= s.now /\ s.now < (a.length : Int)
 cnt : 0 <= s.q /\ s.q <= q + 2 * (s.at_.length : Int)
 len : 1 <= s.at_.length /\ s.at_.length <= 160
 run : ∃ m, 121 <= m + s.at_.length /\ slRun L w h a p m s = slF L w h a p q
end Go.Proofs.YtbgfjemppjhmjaaGreat
