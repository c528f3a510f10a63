/- What is to be shown of functions. Printed by a program. No condition. -/
import Derived.Test.YtbgfjemppjhmjaaGreatGO25gxW25
import Derived.Test.YtbgfjemppjhmjaaGreatGZ2xP21
import Derived.Test.YtbgfjemppjhmjaaGreatGO3gxZ0
namespace Go.Proofs.YtbgfjemppjhmjaaGreat
set_option linter.unusedSimpArgs false
open Go Go.K
set_option maxRecDepth 100000
set_option maxHeartbeats 4000000
set_option linter.unusedVariables false
noncomputable section
abbrev khs : Value := .int .i64 0
abbrev kh4 (L : List Int) := List.length L
abbrev kh3 (L : List Int) : Prop := wk (.slice (some ⟨0, 0, some 2⟩) (kh4 L) (kh4 L) : Value) (.slice (some ⟨0, 0, some 2⟩) (kh4 L) (kh4 L) : Value) /\ True
abbrev khf : Prop := (True) /\ (True) /\ (True)
abbrev kh5 (x0 : Nat) : Int := (x0 : Nat)
abbrev khg (x0 : Nat) (L : List Int) := decide (((kh5 x0) : Int) < (((kh4 L) : Nat) : Int))
abbrev khu (L : List Int) (x0 : Nat) : Prop := (List.flatMap intC L)[(0 + Int.toNat (kh5 x0) * 1)]? = some (.int .i64 (List.getD L x0 0))
abbrev kht : Value := .bool false
def Rhas (sp : Value) (L : List Int) (n : Int) : Prop :=
 (true = true /\ (0 <= List.length L /\ (List.take 0 L).any (fun v => v == n) = false) /\ (true = true /\ (khs = .int .i64 ((0 : Nat) : Int) /\ (.int .i64 n : Value) = .int .i64 n /\ kh3 L) /\ khf) /\ (∀ x0 : Nat, true = true) /\ ∀ x0 : Nat, (x0 <= List.length L /\ (List.take x0 L).any (fun v => v == n) = false) -> (((khg x0 L) = true -> (((0 : Int) <= (kh5 x0) /\ ((kh5 x0) : Int) < (((kh4 L) : Nat) : Int)) /\ ((khu L x0) /\ (((((List.getD L x0 0) : Int) == n) = true -> (.bool true : Value) = sp) /\ ((((List.getD L x0 0) : Int) == n) = false -> ((.int .i64 (IntKind.wrap .i64 ((kh5 x0) + 1)) : Value) = .int .i64 ((kh5 x0) + 1) /\ (∃ x0' : Nat, (x0' <= List.length L /\ (List.take x0' L).any (fun v => v == n) = false) /\ (List.length L - x0') < (List.length L - x0) /\ true = true /\ ((.int .i64 ((kh5 x0) + 1) : Value) = .int .i64 ((x0' : Nat) : Int) /\ (.int .i64 n : Value) = .int .i64 n /\ kh3 L) /\ khf))))))) /\ ((khg x0 L) = false -> kht = sp)))
abbrev khk (x0 : Nat) : Hint := .slot 11 (.int .i64 ((kh5 x0) + 1)) (.go 0 (.again []))
theorem Ehas (sp : Value) (L : List Int) (n : Int) : vF prog msk (dm 0) 100000 true 40 true 20 [.slice (some ⟨0, 0, some 2⟩) (kh4 L) (kh4 L), .int .i64 n] (readsT 0 [L.flatMap intC]) (some [])
 (.go 1 (.inv 3 (Nat) (0) [] [] (fun x0 => [(5, .int .i64 (kh5 x0)), (1, .int .i64 n), (0, .slice (some ⟨0, 0, some 2⟩) (kh4 L) (kh4 L))]) (fun x0 => []) (fun x0 => []) (fun x0 => []) (fun x0 => (x0 <= List.length L /\ (List.take x0 L).any (fun v => v == n) = false)) (fun x0 => (List.length L - x0)) (fun x0 => .go 3 (.fork (.go 1 (.need (.val (.int .i64 (List.getD L x0 0)) (.go 1 (.fork (.auto) (.go 1 (khk x0))))))) (.auto)))))
 (fun v _ _ => v = sp) = Rhas sp L n := by kernel_rfl
abbrev kh1 (x0 : Nat) (L1_ : List (Int × Int)) (n : Int) : Prop := (.int .i64 (IntKind.wrap .i64 ((kh5 x0) + 1)) : Value) = .int .i64 ((kh5 x0) + 1) /\ (∃ x0' : Nat, (x0' <= List.length L1_ /\ notF (List.take x0' L1_) n = false) /\ (List.length L1_ - x0') < (List.length L1_ - x0) /\ true = true /\ ((.int .i64 ((kh5 x0) + 1) : Value) = .int .i64 ((x0' : Nat) : Int) /\ (.int .i64 n : Value) = .int .i64 n /\ wk (.slice (some ⟨0, 0, some 2⟩) (List.length L1_) (List.length L1_) : Value) (.slice (some ⟨0, 0, some 2⟩) (List.length L1_) (List.length L1_) : Value) /\ True) /\ khf)
def Rcovers (sp : Value) (L1_ : List (Int × Int)) (n : Int) : Prop :=
 (true = true /\ (0 <= List.length L1_ /\ notF (List.take 0 L1_) n = false) /\ (true = true /\ (khs = .int .i64 ((0 : Nat) : Int) /\ (.int .i64 n : Value) = .int .i64 n /\ wk (.slice (some ⟨0, 0, some 2⟩) (List.length L1_) (List.length L1_) : Value) (.slice (some ⟨0, 0, some 2⟩) (List.length L1_) (List.length L1_) : Value) /\ True) /\ khf) /\ (∀ x0 : Nat, true = true) /\ ∀ x0 : Nat, (x0 <= List.length L1_ /\ notF (List.take x0 L1_) n = false) -> (((decide (((kh5 x0) : Int) < (((List.length L1_) : Nat) : Int))) = true -> (((0 : Int) <= (kh5 x0) /\ ((kh5 x0) : Int) < (((List.length L1_) : Nat) : Int)) /\ (((List.flatMap spC L1_)[((0 + Int.toNat (kh5 x0) * 2) + 0)]? = some (.int .i64 (List.getD L1_ x0 zeroSp).1)) /\ (((decide (((List.getD L1_ x0 zeroSp).1 : Int) <= n)) = true -> (((0 : Int) <= (kh5 x0) /\ ((kh5 x0) : Int) < (((List.length L1_) : Nat) : Int)) /\ (((List.flatMap spC L1_)[((0 + Int.toNat (kh5 x0) * 2) + 1)]? = some (.int .i64 (List.getD L1_ x0 zeroSp).2)) /\ (((decide ((n : Int) <= (List.getD L1_ x0 zeroSp).2)) = true -> (.bool true : Value) = sp) /\ ((decide ((n : Int) <= (List.getD L1_ x0 zeroSp).2)) = false -> (kh1 x0 L1_ n)))))) /\ ((decide (((List.getD L1_ x0 zeroSp).1 : Int) <= n)) = false -> (kh1 x0 L1_ n)))))) /\ ((decide (((kh5 x0) : Int) < (((List.length L1_) : Nat) : Int))) = false -> kht = sp)))
theorem Ecovers (sp : Value) (L1_ : List (Int × Int)) (n : Int) : vF prog msk (dm 0) 100000 true 40 true 21 [.slice (some ⟨0, 0, some 2⟩) (List.length L1_) (List.length L1_), .int .i64 n] (readsT 0 [L1_.flatMap spC]) (some [])
 (.go 1 (.inv 3 (Nat) (0) [] [] (fun x0 => [(5, .int .i64 (kh5 x0)), (1, .int .i64 n), (0, .slice (some ⟨0, 0, some 2⟩) (List.length L1_) (List.length L1_))]) (fun x0 => []) (fun x0 => []) (fun x0 => []) (fun x0 => (x0 <= List.length L1_ /\ notF (List.take x0 L1_) n = false)) (fun x0 => (List.length L1_ - x0)) (fun x0 => .go 3 (.fork (.go 1 (.need (.go 0 (.val (.int .i64 (List.getD L1_ x0 zeroSp).1) (.go 2 (.gfork (.go 2 (.need (.go 0 (.val (.int .i64 (List.getD L1_ x0 zeroSp).2) (.go 1 (.fork (.auto) (.go 1 (khk x0)))))))) (.go 3 (khk x0)))))))) (.auto)))))
 (fun v _ _ => v = sp) = Rcovers sp L1_ n := by kernel_rfl
abbrev kha (M : List Int) : Value := .slice (some ⟨1, 0, some 2⟩) (List.length M) (List.length M)
def Rsame (sp : Value) (L M : List Int) : Prop :=
 (((((((kh4 L) : Nat) : Int) : Int) != (((List.length M) : Nat) : Int)) = true -> kht = sp) /\ ((((((kh4 L) : Nat) : Int) : Int) != (((List.length M) : Nat) : Int)) = false -> (true = true /\ (0 <= List.length L /\ List.take 0 L = List.take 0 M) /\ (true = true /\ (khs = .int .i64 ((0 : Nat) : Int) /\ wk (kha M) (kha M) /\ kh3 L) /\ khf) /\ (∀ x0 : Nat, true = true) /\ ∀ x0 : Nat, (x0 <= List.length L /\ List.take x0 L = List.take x0 M) -> (((khg x0 L) = true -> (((0 : Int) <= (kh5 x0) /\ ((kh5 x0) : Int) < (((kh4 L) : Nat) : Int)) /\ ((khu L x0) /\ (((0 : Int) <= (kh5 x0) /\ ((kh5 x0) : Int) < (((List.length M) : Nat) : Int)) /\ (((List.flatMap intC M)[(0 + Int.toNat (kh5 x0) * 1)]? = some (.int .i64 (List.getD M x0 0))) /\ (((((List.getD L x0 0) : Int) != (List.getD M x0 0)) = true -> kht = sp) /\ ((((List.getD L x0 0) : Int) != (List.getD M x0 0)) = false -> ((.int .i64 (IntKind.wrap .i64 ((kh5 x0) + 1)) : Value) = .int .i64 ((kh5 x0) + 1) /\ (∃ x0' : Nat, (x0' <= List.length L /\ List.take x0' L = List.take x0' M) /\ (List.length L - x0') < (List.length L - x0) /\ true = true /\ ((.int .i64 ((kh5 x0) + 1) : Value) = .int .i64 ((x0' : Nat) : Int) /\ wk (kha M) (kha M) /\ kh3 L) /\ khf))))))))) /\ ((khg x0 L) = false -> (.bool true : Value) = sp)))))
theorem Esame (sp : Value) (L M : List Int) : vF prog msk (dm 0) 100000 true 40 true 22 [.slice (some ⟨0, 0, some 2⟩) (kh4 L) (kh4 L), .slice (some ⟨1, 0, some 2⟩) (List.length M) (List.length M)] (readsT 0 [L.flatMap intC, M.flatMap intC]) (some [])
 (.go 5 (.fork (.auto) (.go 0 (.inv 3 (Nat) (0) [] [] (fun x0 => [(5, .int .i64 (kh5 x0)), (1, .slice (some ⟨1, 0, some 2⟩) (List.length M) (List.length M)), (0, .slice (some ⟨0, 0, some 2⟩) (kh4 L) (kh4 L))]) (fun x0 => []) (fun x0 => []) (fun x0 => []) (fun x0 => (x0 <= List.length L /\ List.take x0 L = List.take x0 M)) (fun x0 => (List.length L - x0)) (fun x0 => .go 3 (.fork (.go 1 (.need (.val (.int .i64 (List.getD L x0 0)) (.go 1 (.need (.val (.int .i64 (List.getD M x0 0)) (.go 0 (.fork (.auto) (.go 1 (.slot 16 (.int .i64 ((kh5 x0) + 1)) (.go 0 (.again [])))))))))))) (.auto)))))))
 (fun v _ _ => v = sp) = Rsame sp L M := by kernel_rfl
abbrev kh0 (L : List Int) : Value := .agg ⟨(List.flatMap intC L)⟩
abbrev khe (L : List Int) : KObj := .cells true 0 [.iface ((kh4 L) + 1) (kh0 L), .int .i64 0]
abbrev kh9 (L : List Int) : List Value := [.iface ((kh4 L) + 1) (kh0 L), .int .i64 (0 + 1)]
abbrev khv (L : List Int) : KObj := .cells true 0 (kh9 L)
abbrev khl (L : List Int) : List Value := [.iface ((kh4 L) + 1) (kh0 L), .int .i64 ((0 + 1) + 1)]
abbrev kh2 : Prop := (.pointer (some ⟨0, 0, none⟩) : Value) = .pointer (some ⟨0, 0, none⟩) /\ (.pointer (some ⟨1, 0, none⟩) : Value) = .pointer (some ⟨1, 0, none⟩) /\ (.pointer (some ⟨2, 0, none⟩) : Value) = .pointer (some ⟨2, 0, none⟩) /\ True
abbrev khh (x2 : Nat) : Int := (x2 : Nat)
abbrev kh7 (L : List Int) (x2 : Nat) : KObj := .cells true 0 [.iface ((kh4 L) + 1) (kh0 L), .int .i64 (wtN x2)]
abbrev kho (L : List Int) (x2 : Nat) : List Value := [.iface ((kh4 L) + 1) (kh0 L), .int .i64 ((wtN x2) + 1)]
abbrev kh6 (L : List Int) (x2 : Nat) := List.length (wtLand L x2)
abbrev khj (L : List Int) (x2 : Nat) := List.flatMap boolC (wtLand L x2)
abbrev khp (L : List Int) (x2 : Nat) : List Value := [.bool (((dN L (wtN x2) 7) : Int) == 0)]
abbrev khi (L : List Int) (x2 : Nat) : KObj := .cells true 0 [.int .i64 (wtW L 0), .int .i64 (wtH L 0), .slice (some ⟨5, 0, none⟩) ((kh6 L x2) + 1) ((kh6 L x2) + 1)]
abbrev khc (L : List Int) (x2' : Nat) : KObj := .cells true 0 [.int .i64 (wtW L 0), .int .i64 (wtH L 0), .slice (some ⟨3, 0, some 1⟩) (List.length (wtLand L x2')) (List.length (wtLand L x2'))]
abbrev khb (L : List Int) (x2' : Nat) : KObj := .cells true 0 [.iface ((kh4 L) + 1) (kh0 L), .int .i64 (wtN x2')]
abbrev khd (L : List Int) (x2' : Nat) : KObj := .cells true 1 (List.flatMap boolC (wtLand L x2'))
abbrev khn := List.take (1 * 1) (List.drop 0 ([.bool false] : List Value))
abbrev kh8 (L : List Int) := Int.toNat (wtW L 0 * wtH L 0)
abbrev khr (L : List Int) := List.length (wtLand L (kh8 L))
abbrev khm (L : List Int) : List Value := [.iface ((kh4 L) + 1) (kh0 L), .int .i64 (wtN (kh8 L))]
def Rwaters (L : List Int) : Prop :=
 (((some (khe L) = some (khe L)) /\ True) /\ (∀ H' : Heap, H'.length = 2 -> (H'[0]? = some (khe L) /\ True) -> KCall prog 27 [.pointer (some ⟨0, 0, none⟩), .int .i64 5] H' [0] (Is (.int .i64 (dN L 0 5)) (List.set H' 0 (khv L)))) /\ ((.int .i64 (IntKind.wrap .i64 (2 + (dN L 0 5))) : Value) = .int .i64 (2 + (dN L 0 5)) /\ (((some (khv L) = some (khv L)) /\ True) /\ (∀ H' : Heap, H'.length = 2 -> (H'[0]? = some (khv L) /\ True) -> KCall prog 27 [.pointer (some ⟨0, 0, none⟩), .int .i64 4] H' [0] (Is (.int .i64 (dN L (0 + 1) 4)) (List.set H' 0 (.cells true 0 (khl L) : KObj)))) /\ ((.int .i64 (IntKind.wrap .i64 (2 + (dN L (0 + 1) 4))) : Value) = .int .i64 (2 + (dN L (0 + 1) 4)) /\ (true = true /\ (0 <= Int.toNat (wtW L 0 * wtH L 0)) /\ (true = true /\ (khs = .int .i64 ((0 : Nat) : Int) /\ kh2) /\ (wkO (.cells true 0 [.int .i64 (2 + (dN L 0 5)), .int .i64 (2 + (dN L (0 + 1) 4)), .slice none 0 0] : KObj) (rno (sg 3 []) 3 (.cells true 0 [.int .i64 (wtW L 0), .int .i64 (wtH L 0), .slice (some ⟨3, 0, some 1⟩) (List.length (wtLand L 0)) (List.length (wtLand L 0))] : KObj)) /\ (some (.cells true 0 (khl L) : KObj) = some (.cells true 0 [.iface ((kh4 L) + 1) (kh0 L), .int .i64 (wtN 0)] : KObj) /\ belowO 3 (.cells true 0 [.iface ((kh4 L) + 1) (kh0 L), .int .i64 (wtN 0)] : KObj) = true) /\ True) /\ (True /\ True) /\ (True)) /\ (∀ x2 : Nat, true = true) /\ ∀ x2 : Nat, (x2 <= Int.toNat (wtW L 0 * wtH L 0)) -> ((.int .i64 (IntKind.wrap .i64 ((wtW L 0) * (wtH L 0))) : Value) = .int .i64 ((wtW L 0) * (wtH L 0)) /\ (((decide (((khh x2) : Int) < ((wtW L 0) * (wtH L 0)))) = true -> (((decide ((0 : Int) < (khh x2))) = true -> (((some (kh7 L x2) = some (kh7 L x2)) /\ True) /\ (∀ H' : Heap, H'.length = 4 -> (H'[0]? = some (kh7 L x2) /\ True) -> KCall prog 27 [.pointer (some ⟨0, 0, none⟩), .int .i64 7] H' [0] (Is (.int .i64 (dN L (wtN x2) 7)) (List.set H' 0 (.cells true 0 (kho L x2) : KObj)))) /\ ((((kh6 L x2) + 1) * 1 <= 2 ^ 44 /\ 1 ≠ 0 /\ ((kh6 L x2) <= (kh6 L x2) /\ 0 + (kh6 L x2) * 1 <= List.length (khj L x2)) /\ (1 <= 1 /\ 0 + 1 * 1 <= List.length (khp L x2)) /\ ((List.take (1 * 1) (List.drop 0 (khp L x2))) : List Value).all (fun v => one1 v) = true) /\ true = true /\ ((.int .i64 (IntKind.wrap .i64 ((khh x2) + 1)) : Value) = .int .i64 ((khh x2) + 1) /\ (∃ x2' : Nat, (x2' <= Int.toNat (wtW L 0 * wtH L 0)) /\ (Int.toNat (wtW L 0 * wtH L 0) - x2') < (Int.toNat (wtW L 0 * wtH L 0) - x2) /\ true = true /\ ((.int .i64 ((khh x2) + 1) : Value) = .int .i64 ((x2' : Nat) : Int) /\ kh2) /\ (wkO (khi L x2) (rno (sg 3 [(3, 5)]) 3 (khc L x2')) /\ (some (.cells true 0 (kho L x2) : KObj) = some (khb L x2') /\ belowO 3 (khb L x2') = true) /\ True) /\ ((some (.cells true 1 ((List.take ((kh6 L x2) * 1) (List.drop 0 (khj L x2))) ++ (List.take (1 * 1) (List.drop 0 (khp L x2)))) : KObj) = some (khd L x2') /\ belowO 3 (khd L x2') = true) /\ True) /\ (True)))))) /\ ((decide ((0 : Int) < (khh x2))) = false -> ((((kh6 L x2) + 1) * 1 <= 2 ^ 44 /\ 1 ≠ 0 /\ ((kh6 L x2) <= (kh6 L x2) /\ 0 + (kh6 L x2) * 1 <= List.length (khj L x2)) /\ (1 <= 1 /\ 0 + 1 * 1 <= List.length ([.bool false] : List Value)) /\ (khn : List Value).all (fun v => one1 v) = true) /\ true = true /\ ((.int .i64 (IntKind.wrap .i64 ((khh x2) + 1)) : Value) = .int .i64 ((khh x2) + 1) /\ (∃ x2' : Nat, (x2' <= Int.toNat (wtW L 0 * wtH L 0)) /\ (Int.toNat (wtW L 0 * wtH L 0) - x2') < (Int.toNat (wtW L 0 * wtH L 0) - x2) /\ true = true /\ ((.int .i64 ((khh x2) + 1) : Value) = .int .i64 ((x2' : Nat) : Int) /\ kh2) /\ (wkO (khi L x2) (rno (sg 3 [(3, 5)]) 3 (khc L x2')) /\ (some (kh7 L x2) = some (khb L x2') /\ belowO 3 (khb L x2') = true) /\ True) /\ ((some (.cells true 1 ((List.take ((kh6 L x2) * 1) (List.drop 0 (khj L x2))) ++ khn) : KObj) = some (khd L x2') /\ belowO 3 (khd L x2') = true) /\ True) /\ (True))))))) /\ ((decide (((khh x2) : Int) < ((wtW L 0) * (wtH L 0)))) = false -> (true = true /\ wk (.agg #[.int .i64 (wtW L 0), .int .i64 (wtH L 0), .slice (some ⟨3, 0, some 1⟩) (kh6 L x2) (kh6 L x2)] : Value) (rn (sg 1 [(1, 3)]) 3 (.agg #[.int .i64 (wtW L 0), .int .i64 (wtH L 0), .slice (some ⟨1, 0, some 1⟩) (khr L) (khr L)] : Value)) /\ ((some (kh7 L x2) = some (.cells true 0 (khm L) : KObj) /\ belowO 1 (.cells true 0 (khm L) : KObj) = true) /\ True) /\ ((some (.cells true 1 (khj L x2) : KObj) = some (.cells true 1 (List.flatMap boolC (wtLand L (kh8 L))) : KObj) /\ belowO 1 (.cells true 1 (List.flatMap boolC (wtLand L (kh8 L))) : KObj) = true) /\ True))))))))))
abbrev khq (x2 : Nat) : Hint := .need (.go 3 (.slot 20 (.int .i64 ((khh x2) + 1)) (.go 0 (.again [(3, 5)]))))
theorem Ewaters (L : List Int) : vF prog msk (dm 0) 100000 true 40 true 15 [.pointer (some ⟨0, 0, none⟩)] (readsW 0 0 (digC L 0) []) (some [0])
 (.go 1 (.answ [(0, .cells true 0 [.iface ((kh4 L) + 1) (kh0 L), .int .i64 0])] (.int .i64 (dN L 0 5)) [(0, .cells true 0 (kh9 L))] [] (.go 0 (.slot 7 (.int .i64 (2 + (dN L 0 5))) (.go 0 (.answ [(0, .cells true 0 (kh9 L))] (.int .i64 (dN L (0 + 1) 4)) [(0, .cells true 0 (khl L))] [] (.go 0 (.slot 10 (.int .i64 (2 + (dN L (0 + 1) 4))) (.go 3 (.inv 3 (Nat) (0) [] [2, 0] (fun x2 => [(4, .int .i64 (khh x2)), (0, .pointer (some ⟨0, 0, none⟩)), (2, .pointer (some ⟨1, 0, none⟩)), (3, .pointer (some ⟨2, 0, none⟩))]) (fun x2 => [(2, false, .cells true 0 [.int .i64 (wtW L 0), .int .i64 (wtH L 0), .slice (some ⟨3, 0, some 1⟩) (kh6 L x2) (kh6 L x2)]), (0, true, .cells true 0 [.iface ((kh4 L) + 1) (kh0 L), .int .i64 (wtN x2)])]) (fun x2 => [(true, .cells true 1 (khj L x2))]) (fun x2 => []) (fun x2 => (x2 <= Int.toNat (wtW L 0 * wtH L 0))) (fun x2 => (Int.toNat (wtW L 0 * wtH L 0) - x2)) (fun x2 => .go 5 (.slot 17 (.int .i64 ((wtW L 0) * (wtH L 0))) (.go 0 (.fork (.go 4 (.gfork (.go 0 (.answ [(0, .cells true 0 [.iface ((kh4 L) + 1) (kh0 L), .int .i64 (wtN x2)])] (.int .i64 (dN L (wtN x2) 7)) [(0, .cells true 0 (kho L x2))] [] (.go 2 (khq x2)))) (.go 1 (khq x2)))) (.go 1 (.keep (.again [(1, 3)])))))))))))))))))
 (newKW ((readsW 0 0 (digC L 0) []) : HT).n 3 0 (.cells true 0 (khm L)) (.agg #[.int .i64 (wtW L 0), .int .i64 (wtH L 0), .slice (some ⟨1, 0, some 1⟩) (khr L) (khr L)]) [(true, .cells true 1 (List.flatMap boolC (wtLand L (kh8 L))))]) = Rwaters L := by kernel_rfl
end
end Go.Proofs.YtbgfjemppjhmjaaGreat
/- Radio: has, covers, same numbers; a basin made of numbers. No condition. -/
namespace Go.Proofs.YtbgfjemppjhmjaaGreat
open Go Go.K
set_option maxRecDepth 100000
set_option linter.unusedVariables false
set_option linter.unusedSimpArgs false
noncomputable section
attribute [local irreducible] vF
theorem any_succ {α : Type} {p : α -> Bool} {l : List α} {x : Nat} {d : α} (hx : x < l.length) (h : (l.take x).any p = false) (h1 : p (l.getD x d) = false) : (l.take (x + 1)).any p = false := by
 rw [List.take_succ_eq_append_getElem hx, List.any_append, h, List.any_cons]
 rw [show l.getD x d = l[x] from by simp [List.getD_eq_getElem?_getD, hx]] at h1
 rw [h1]; rfl
theorem any_yes {α : Type} {p : α -> Bool} {l : List α} {x : Nat} {d : α} (hx : x < l.length) (h1 : p (l.getD x d) = true) : l.any p = true := List.any_eq_true.2 ⟨_, getD_mem (d := d) hx, h1⟩
theorem kHas (L : List Int) (n : Int) (hl : L.length <= 1000000) {H : Heap} {id : Nat} {own : Bool} {z : Nat} (hid : H[id]? = some (.cells own z (L.flatMap intC))) :
  KCall prog 20 [.slice (some ⟨id, 0, some 2⟩) L.length L.length, .int .i64 n] H [] (Is (.bool (L.any fun v => v == n)) H) := by
 refine valRx (css := [L.flatMap intC]) (v := .bool (L.any fun v => v == n)) (ids := [id]) (Eq.mpr (Ehas _ L n) ?_) ⟨plainIL _ _, trivial⟩ rfl ⟨⟨_, _, hid⟩, trivial⟩ rfl
 delta Rhas khs kh4 kh3 khf kh5 khg khu kht
 refine ⟨rfl, ⟨Nat.zero_le _, rfl⟩, ?_, fun _ => rfl, fun x hx => ⟨fun k => ?_, fun k => ?_⟩⟩
 ·repeat' first | exact trivial | exact rfl | exact wk_refl _ | refine wkO_cells ?_ | refine wks_cons ?_ ?_ | exact wks_nil | exact wk_nil _ _ _ (.inl rfl) | (exact wk_Q (by omega)) | refine wk_tupL ?_ | refine wk_aggL ?_ | refine joinMax ?_ ?_ ?_ | refine joinMin ?_ ?_ ?_ | refine toMax ?_ | refine toMin ?_ | refine ⟨rfl, ?_⟩ | refine ⟨trivial, ?_⟩ | (refine forkD (fun h => ?_) (fun h => ?_)) | (refine forkNe (fun h => ?_) (fun h => ?_)) | (refine forkEq (fun h => ?_) (fun h => ?_)) | refine forkNot ?_ | (refine ⟨vI64 (by omega), ?_⟩) | (refine And.intro (by omega) ?_) | apply And.intro | (exact iEq (by omega)) | (exact vI64 (by omega))
 ·have h1 : x < L.length := by have := of_decide_eq_true k; omega
  refine ⟨⟨by omega, by omega⟩, intAt h1 (by omega), fun b => ?_, fun b => ?_⟩
  ·rw [any_yes (d := 0) h1 b]
  ·refine ⟨vI64 (by omega), x + 1, ⟨by omega, any_succ (d := 0) h1 hx.2 b⟩, by omega, rfl, ?_⟩
   repeat' first | exact trivial | exact rfl | exact wk_refl _ | refine wkO_cells ?_ | refine wks_cons ?_ ?_ | exact wks_nil | exact wk_nil _ _ _ (.inl rfl) | (exact wk_Q (by omega)) | refine wk_tupL ?_ | refine wk_aggL ?_ | refine joinMax ?_ ?_ ?_ | refine joinMin ?_ ?_ ?_ | refine toMax ?_ | refine toMin ?_ | refine ⟨rfl, ?_⟩ | refine ⟨trivial, ?_⟩ | (refine forkD (fun h => ?_) (fun h => ?_)) | (refine forkNe (fun h => ?_) (fun h => ?_)) | (refine forkEq (fun h => ?_) (fun h => ?_)) | refine forkNot ?_ | (refine ⟨vI64 (by omega), ?_⟩) | (refine And.intro (by omega) ?_) | apply And.intro | (exact iEq (by omega)) | (exact vI64 (by omega))
 ·have h1 : x = L.length := by have := of_decide_eq_false k; omega
  have := hx.2
  rw [h1, List.take_length] at this
  rw [this]
theorem kCovers (L : List (Int × Int)) (n : Int) (hl : L.length <= 1000000) {H : Heap} {id : Nat} {own : Bool} {z : Nat} (hid : H[id]? = some (.cells own z (L.flatMap spC))) :
  KCall prog 21 [.slice (some ⟨id, 0, some 2⟩) L.length L.length, .int .i64 n] H [] (Is (.bool (notF L n)) H) := by
 refine valRx (css := [L.flatMap spC]) (v := .bool (notF L n)) (ids := [id]) (Eq.mpr (Ecovers _ L n) ?_) ⟨plainSp _ _, trivial⟩ rfl ⟨⟨_, _, hid⟩, trivial⟩ rfl
 delta Rcovers khs khf kh5 kh1 kht
 refine ⟨rfl, ⟨Nat.zero_le _, rfl⟩, ?_, fun _ => rfl, fun x hx => ⟨fun k => ?_, fun k => ?_⟩⟩
 ·repeat' first | exact trivial | exact rfl | exact wk_refl _ | refine wkO_cells ?_ | refine wks_cons ?_ ?_ | exact wks_nil | exact wk_nil _ _ _ (.inl rfl) | (exact wk_Q (by omega)) | refine wk_tupL ?_ | refine wk_aggL ?_ | refine joinMax ?_ ?_ ?_ | refine joinMin ?_ ?_ ?_ | refine toMax ?_ | refine toMin ?_ | refine ⟨rfl, ?_⟩ | refine ⟨trivial, ?_⟩ | (refine forkD (fun h => ?_) (fun h => ?_)) | (refine forkNe (fun h => ?_) (fun h => ?_)) | (refine forkEq (fun h => ?_) (fun h => ?_)) | refine forkNot ?_ | (refine ⟨vI64 (by omega), ?_⟩) | (refine And.intro (by omega) ?_) | apply And.intro | (exact iEq (by omega)) | (exact vI64 (by omega))
 ·have h1 : x < L.length := by have := of_decide_eq_true k; omega
  refine ⟨⟨by omega, by omega⟩, spAt0 h1 (by omega), fun b => ⟨⟨by omega, by omega⟩, spAt1 h1 (by omega), fun c => ?_, fun c => ?_⟩, fun b => ?_⟩
  ·have e : notF L n = true := any_yes (d := zeroSp) h1 (by rw [b, c]; rfl)
   rw [e]
  ·refine ⟨vI64 (by omega), x + 1, ⟨by omega, any_succ (d := zeroSp) h1 hx.2 (by rw [b, c]; rfl)⟩, by omega, rfl, ?_⟩
   repeat' first | exact trivial | exact rfl | exact wk_refl _ | refine wkO_cells ?_ | refine wks_cons ?_ ?_ | exact wks_nil | exact wk_nil _ _ _ (.inl rfl) | (exact wk_Q (by omega)) | refine wk_tupL ?_ | refine wk_aggL ?_ | refine joinMax ?_ ?_ ?_ | refine joinMin ?_ ?_ ?_ | refine toMax ?_ | refine toMin ?_ | refine ⟨rfl, ?_⟩ | refine ⟨trivial, ?_⟩ | (refine forkD (fun h => ?_) (fun h => ?_)) | (refine forkNe (fun h => ?_) (fun h => ?_)) | (refine forkEq (fun h => ?_) (fun h => ?_)) | refine forkNot ?_ | (refine ⟨vI64 (by omega), ?_⟩) | (refine And.intro (by omega) ?_) | apply And.intro | (exact iEq (by omega)) | (exact vI64 (by omega))
  ·refine ⟨vI64 (by omega), x + 1, ⟨by omega, any_succ (d := zeroSp) h1 hx.2 (by rw [b]; rfl)⟩, by omega, rfl, ?_⟩
   repeat' first | exact trivial | exact rfl | exact wk_refl _ | refine wkO_cells ?_ | refine wks_cons ?_ ?_ | exact wks_nil | exact wk_nil _ _ _ (.inl rfl) | (exact wk_Q (by omega)) | refine wk_tupL ?_ | refine wk_aggL ?_ | refine joinMax ?_ ?_ ?_ | refine joinMin ?_ ?_ ?_ | refine toMax ?_ | refine toMin ?_ | refine ⟨rfl, ?_⟩ | refine ⟨trivial, ?_⟩ | (refine forkD (fun h => ?_) (fun h => ?_)) | (refine forkNe (fun h => ?_) (fun h => ?_)) | (refine forkEq (fun h => ?_) (fun h => ?_)) | refine forkNot ?_ | (refine ⟨vI64 (by omega), ?_⟩) | (refine And.intro (by omega) ?_) | apply And.intro | (exact iEq (by omega)) | (exact vI64 (by omega))
 ·have h1 : x = L.length := by have := of_decide_eq_false k; omega
  have := hx.2
  rw [h1, List.take_length] at this
  rw [this]
theorem take_succ_eq {L M : List Int} {x : Nat} (h1 : x < L.length) (h2 : x < M.length) (h : L.take x = M.take x) (e : L.getD x 0 = M.getD x 0) : L.take (x + 1) = M.take (x + 1) := by
 rw [List.take_succ_eq_append_getElem h1, List.take_succ_eq_append_getElem h2, h]
 simp only [List.getD_eq_getElem?_getD, List.getElem?_eq_getElem h1, List.getElem?_eq_getElem h2, Option.getD_some] at e
 rw [e]
theorem kSame (L M : List Int) (hl : L.length <= 1000000) (hm : M.length <= 1000000) {H : Heap} {i j : Nat} {o1 o2 : Bool} {z1 z2 : Nat} (hi : H[i]? = some (.cells o1 z1 (L.flatMap intC))) (hj : H[j]? = some (.cells o2 z2 (M.flatMap intC))) :
  KCall prog 22 [.slice (some ⟨i, 0, some 2⟩) L.length L.length, .slice (some ⟨j, 0, some 2⟩) M.length M.length] H [] (Is (.bool (decide (L = M))) H) := by
 refine valRx (css := [L.flatMap intC, M.flatMap intC]) (v := .bool (decide (L = M))) (ids := [i, j]) (Eq.mpr (Esame _ L M) ?_) ⟨plainIL _ _, plainIL _ _, trivial⟩ rfl ⟨⟨_, _, hi⟩, ⟨_, _, hj⟩, trivial⟩ rfl
 delta Rsame kh4 kht khs kha kh3 khf kh5 khg khu
 refine ⟨fun k => ?_, fun k => ?_⟩
 ·rw [decide_eq_false (fun e => by rw [e] at k; simp at k)]
 have hlm : L.length = M.length := by have := eqB2 k; omega
 refine ⟨rfl, ⟨Nat.zero_le _, rfl⟩, ?_, fun _ => rfl, fun x hx => ⟨fun k => ?_, fun k => ?_⟩⟩
 ·repeat' first | exact trivial | exact rfl | exact wk_refl _ | refine wkO_cells ?_ | refine wks_cons ?_ ?_ | exact wks_nil | exact wk_nil _ _ _ (.inl rfl) | (exact wk_Q (by omega)) | refine wk_tupL ?_ | refine wk_aggL ?_ | refine joinMax ?_ ?_ ?_ | refine joinMin ?_ ?_ ?_ | refine toMax ?_ | refine toMin ?_ | refine ⟨rfl, ?_⟩ | refine ⟨trivial, ?_⟩ | (refine forkD (fun h => ?_) (fun h => ?_)) | (refine forkNe (fun h => ?_) (fun h => ?_)) | (refine forkEq (fun h => ?_) (fun h => ?_)) | refine forkNot ?_ | (refine ⟨vI64 (by omega), ?_⟩) | (refine And.intro (by omega) ?_) | apply And.intro | (exact iEq (by omega)) | (exact vI64 (by omega))
 ·have h1 : x < L.length := by have := of_decide_eq_true k; omega
  refine ⟨⟨by omega, by omega⟩, intAt h1 (by omega), ⟨by omega, by omega⟩, intAt (by omega) (by omega), fun b => ?_, fun b => ?_⟩
  ·rw [decide_eq_false (fun e => by rw [e] at b; simp at b)]
  ·refine ⟨vI64 (by omega), x + 1, ⟨by omega, take_succ_eq h1 (by omega) hx.2 (eqB2 b)⟩, by omega, rfl, ?_⟩
   repeat' first | exact trivial | exact rfl | exact wk_refl _ | refine wkO_cells ?_ | refine wks_cons ?_ ?_ | exact wks_nil | exact wk_nil _ _ _ (.inl rfl) | (exact wk_Q (by omega)) | refine wk_tupL ?_ | refine wk_aggL ?_ | refine joinMax ?_ ?_ ?_ | refine joinMin ?_ ?_ ?_ | refine toMax ?_ | refine toMin ?_ | refine ⟨rfl, ?_⟩ | refine ⟨trivial, ?_⟩ | (refine forkD (fun h => ?_) (fun h => ?_)) | (refine forkNe (fun h => ?_) (fun h => ?_)) | (refine forkEq (fun h => ?_) (fun h => ?_)) | refine forkNot ?_ | (refine ⟨vI64 (by omega), ?_⟩) | (refine And.intro (by omega) ?_) | apply And.intro | (exact iEq (by omega)) | (exact vI64 (by omega))
 ·have h1 : x = L.length := by have := of_decide_eq_false k; omega
  have := hx.2
  rw [h1, List.take_length, hlm, List.take_length] at this
  rw [decide_eq_true this]
theorem wtW_bd (L : List Int) (n : Int) : 2 <= wtW L n /\ wtW L n <= 6 := by have := dN_bd L n (m := 5) (by omega); unfold wtW; omega
theorem wtH_bd (L : List Int) (n : Int) : 2 <= wtH L n /\ wtH L n <= 5 := by have := dN_bd L (n + 1) (m := 4) (by omega); unfold wtH; omega
theorem wtWH_bd (L : List Int) (n : Int) : 4 <= wtW L n * wtH L n /\ wtW L n * wtH L n <= 30 := by
 have h1 := wtW_bd L n
 have h2 := wtH_bd L n
 have h3 : 2 * 2 <= wtW L n * wtH L n := Int.mul_le_mul h1.1 h2.1 (by omega) (by omega)
 have h4 : wtW L n * wtH L n <= 6 * 5 := Int.mul_le_mul h1.2 h2.2 (by omega) (by omega)
 omega
theorem wtLand_len (L : List Int) (k : Nat) : (wtLand L k).length = k := tabP_len ..
theorem wtLand_succ (L : List Int) (k : Nat) : wtLand L (k + 1) = wtLand L k ++ [decide (0 < k) && decide (dN L ((k : Int) + 1) 7 = 0)] := tabP_succ ..
theorem blB (n : Nat) (l : List Bool) : belowO n (.cells true 1 (l.flatMap boolC)) = true := plainBL n l
theorem digB (n : Nat) (L : List Int) (k : Int) : belowO n (.cells true 0 (digC L k)) = true := plainDig n L k
theorem dig_eq {L : List Int} {a b : Int} (h : a = b) : (some (KObj.cells true 0 [.iface (L.length + 1) (.agg ⟨L.flatMap intC⟩), .int .i64 a]) : Option KObj) = some (.cells true 0 [.iface (L.length + 1) (.agg ⟨L.flatMap intC⟩), .int .i64 b]) := by rw [h]
theorem hvWaters (L : List Int) : Rwaters L := by
 have hw := wtW_bd L 0
 have hh := wtH_bd L 0
 have hwh := wtWH_bd L 0
 have b1 := dN_bd L 0 (m := 5) (by omega)
 have b2 := dN_bd L (0 + 1) (m := 4) (by omega)
 have kN : ∀ (q : Int) (m : Int) (c : Nat), (0 <= q /\ q <= 1000000000) -> (1 <= m /\ m <= 1000000000) -> ∀ H' : Heap, H'.length = c -> (H'[0]? = some (.cells true 0 (digC L q)) /\ True) -> KCall prog 27 [.pointer (some ⟨0, 0, none⟩), .int .i64 m] H' [0] (Is (.int .i64 (dN L q m)) (List.set H' 0 (.cells true 0 (digC L (q + 1))))) :=
  fun q m c h1 h2 H' _ h => kNext L q m h1 h2 h.1
 delta Rwaters kh4 kh0 khe kh9 khv khl khs kh2 khh kh7 kho kh6 khj khp khi khc khb khd khn kh8 khr khm
 refine ⟨⟨rfl, trivial⟩, kN _ _ _ (by omega) (by omega), vI64 (by omega), ⟨rfl, trivial⟩, kN _ _ _ (by omega) (by omega), vI64 (by omega), rfl, Nat.zero_le _, ?_, fun _ => rfl, fun x hx => ⟨vI64 (by omega), fun k => ⟨fun k0 => ?_, fun k0 => ?_⟩, fun k => ?_⟩⟩
 ·repeat' first | exact wk_nil _ _ _ (.inl rfl) | exact digB _ _ _ | exact trivial | exact rfl | exact wk_refl _ | refine wkO_cells ?_ | refine wks_cons ?_ ?_ | exact wks_nil | exact wk_nil _ _ _ (.inl rfl) | (exact wk_Q (by omega)) | refine wk_tupL ?_ | refine wk_aggL ?_ | refine joinMax ?_ ?_ ?_ | refine joinMin ?_ ?_ ?_ | refine toMax ?_ | refine toMin ?_ | refine ⟨rfl, ?_⟩ | refine ⟨trivial, ?_⟩ | (refine forkD (fun h => ?_) (fun h => ?_)) | (refine forkNe (fun h => ?_) (fun h => ?_)) | (refine forkEq (fun h => ?_) (fun h => ?_)) | refine forkNot ?_ | (refine ⟨vI64 (by omega), ?_⟩) | (refine And.intro (by omega) ?_) | apply And.intro | (exact iEq (by omega)) | (exact vI64 (by omega))
 ·have h1 : 0 < x := by have := of_decide_eq_true k0; omega
  have h2 : (x : Int) < wtW L 0 * wtH L 0 := of_decide_eq_true k
  have hl := wtLand_len L x
  have en : wtN x = (x : Int) + 1 := by unfold wtN; omega
  have en2 : wtN x + 1 = wtN (x + 1) := by unfold wtN; omega
  have es : wtLand L (x + 1) = wtLand L x ++ [dN L (wtN x) 7 == 0] := by
   rw [wtLand_succ, en, decide_eq_true h1, Bool.true_and]; rfl
  refine ⟨⟨rfl, trivial⟩, kN _ _ _ (by unfold wtN; omega) (by omega), ⟨by omega, by decide, ⟨Nat.le_refl _, by rw [flat_len boolC_len]; omega⟩, ⟨Nat.le_refl _, by simp⟩, rfl⟩, rfl, vI64 (by omega), x + 1, by omega, by omega, rfl, ?_⟩
  repeat' first | exact wk_snoc es | exact ob_snoc boolC_len es rfl | exact blB _ _ | exact digB _ _ _ | exact dig_eq en2 | exact trivial | exact rfl | exact wk_refl _ | refine wkO_cells ?_ | refine wks_cons ?_ ?_ | exact wks_nil | exact wk_nil _ _ _ (.inl rfl) | (exact wk_Q (by omega)) | refine wk_tupL ?_ | refine wk_aggL ?_ | refine joinMax ?_ ?_ ?_ | refine joinMin ?_ ?_ ?_ | refine toMax ?_ | refine toMin ?_ | refine ⟨rfl, ?_⟩ | refine ⟨trivial, ?_⟩ | (refine forkD (fun h => ?_) (fun h => ?_)) | (refine forkNe (fun h => ?_) (fun h => ?_)) | (refine forkEq (fun h => ?_) (fun h => ?_)) | refine forkNot ?_ | (refine ⟨vI64 (by omega), ?_⟩) | (refine And.intro (by omega) ?_) | apply And.intro | (exact iEq (by omega)) | (exact vI64 (by omega))
 ·have h1 : x = 0 := by have := of_decide_eq_false k0; omega
  have hl := wtLand_len L x
  have en2 : wtN x = wtN (x + 1) := by unfold wtN; omega
  have es : wtLand L (x + 1) = wtLand L x ++ [false] := by
   rw [wtLand_succ, decide_eq_false (by omega)]; rfl
  refine ⟨⟨by omega, by decide, ⟨Nat.le_refl _, by rw [flat_len boolC_len]; omega⟩, ⟨Nat.le_refl _, by simp⟩, rfl⟩, rfl, vI64 (by omega), x + 1, by omega, by omega, rfl, ?_⟩
  repeat' first | exact wk_snoc es | exact ob_snoc boolC_len es rfl | exact blB _ _ | exact digB _ _ _ | exact dig_eq en2 | exact trivial | exact rfl | exact wk_refl _ | refine wkO_cells ?_ | refine wks_cons ?_ ?_ | exact wks_nil | exact wk_nil _ _ _ (.inl rfl) | (exact wk_Q (by omega)) | refine wk_tupL ?_ | refine wk_aggL ?_ | refine joinMax ?_ ?_ ?_ | refine joinMin ?_ ?_ ?_ | refine toMax ?_ | refine toMin ?_ | refine ⟨rfl, ?_⟩ | refine ⟨trivial, ?_⟩ | (refine forkD (fun h => ?_) (fun h => ?_)) | (refine forkNe (fun h => ?_) (fun h => ?_)) | (refine forkEq (fun h => ?_) (fun h => ?_)) | refine forkNot ?_ | (refine ⟨vI64 (by omega), ?_⟩) | (refine And.intro (by omega) ?_) | apply And.intro | (exact iEq (by omega)) | (exact vI64 (by omega))
 ·have h1 : x = Int.toNat (wtW L 0 * wtH L 0) := by have := of_decide_eq_false k; omega
  rw [h1]
  repeat' first | exact blB _ _ | exact digB _ _ _ | exact trivial | exact rfl | exact wk_refl _ | refine wkO_cells ?_ | refine wks_cons ?_ ?_ | exact wks_nil | exact wk_nil _ _ _ (.inl rfl) | (exact wk_Q (by omega)) | refine wk_tupL ?_ | refine wk_aggL ?_ | refine joinMax ?_ ?_ ?_ | refine joinMin ?_ ?_ ?_ | refine toMax ?_ | refine toMin ?_ | refine ⟨rfl, ?_⟩ | refine ⟨trivial, ?_⟩ | (refine forkD (fun h => ?_) (fun h => ?_)) | (refine forkNe (fun h => ?_) (fun h => ?_)) | (refine forkEq (fun h => ?_) (fun h => ?_)) | refine forkNot ?_ | (refine ⟨vI64 (by omega), ?_⟩) | (refine And.intro (by omega) ?_) | apply And.intro | (exact iEq (by omega)) | (exact vI64 (by omega))
abbrev wtLd (L : List Int) : List Bool := wtLand L (Int.toNat (wtW L 0 * wtH L 0))
theorem kWaters (L : List Int) {H : Heap} {D : Nat} (hD : H[D]? = some (.cells true 0 (digC L 0))) :
  KCall prog 15 [.pointer (some ⟨D, 0, none⟩)] H [D] (Is (.agg #[.int .i64 (wtW L 0), .int .i64 (wtH L 0), .slice (some ⟨H.length, 0, some 1⟩) (wtLd L).length (wtLd L).length]) (H.set D (.cells true 0 (digC L (wtN (Int.toNat (wtW L 0 * wtH L 0))))) ++ [.cells true 1 ((wtLd L).flatMap boolC)])) :=
 valW (fun j => .agg #[.int .i64 (wtW L 0), .int .i64 (wtH L 0), .slice (some ⟨j, 0, some 1⟩) (wtLd L).length (wtLd L).length]) (css := []) (new := [.cells true 1 ((wtLd L).flatMap boolC)]) (Eq.mpr (Ewaters L) (hvWaters L)) (plainDig 0 L _) (plainDig 0 L _) trivial
  ⟨⟨_, _, rfl, plainBL _ _⟩, trivial⟩ rfl rfl (fun _ => rfl) hD (ids := []) trivial (by simp) rfl
end
end Go.Proofs.YtbgfjemppjhmjaaGreat
/- What is to be shown of functions. Printed by a program. No condition. -/
namespace Go.Proofs.YtbgfjemppjhmjaaGreat
set_option linter.unusedSimpArgs false
open Go Go.K
set_option maxRecDepth 100000
set_option maxHeartbeats 4000000
set_option linter.unusedVariables false
noncomputable section
abbrev kf5 (p : Int) : Prop := (.int .i64 120 : Value) = .int .i64 120 /\ (.int .i64 p : Value) = .int .i64 p /\ (.pointer (some ⟨0, 0, none⟩) : Value) = .pointer (some ⟨0, 0, none⟩) /\ (.pointer (some ⟨2, 0, none⟩) : Value) = .pointer (some ⟨2, 0, none⟩) /\ (.slice none 0 0 : Value) = .slice none 0 0 /\ True
abbrev kf3 (L : List Int) : Value := .agg ⟨(List.flatMap intC L)⟩
abbrev kfn (L : List Int) (q : Int) : KObj := .cells true 0 [.iface ((List.length L) + 1) (kf3 L), .int .i64 (Sl.mk 0 q [0]).q]
abbrev kfc (x0 : Sl) := List.length x0.at_
abbrev kfa (L : List Int) (x0 : Sl) : List Value := [.iface ((List.length L) + 1) (kf3 L), .int .i64 x0.q]
abbrev kf6 (L : List Int) (x0 : Sl) : List Value := [.iface ((List.length L) + 1) (kf3 L), .int .i64 (x0.q + 1)]
abbrev kfk (L : List Int) (x0 : Sl) : KObj := .cells true 0 (kf6 L x0)
abbrev kfh (L : List Int) (x0 : Sl) : List Value := [.iface ((List.length L) + 1) (kf3 L), .int .i64 ((x0.q + 1) + 1)]
abbrev kf2 (L : List Int) (x0 : Sl) := List.getD ([1, 0, -1, 0] : List Int) (Int.toNat (dN L (x0.q + 1) 4)) 0
abbrev kf1 (L : List Int) (x0 : Sl) := List.getD ([0, 1, 0, -1] : List Int) (Int.toNat (dN L (x0.q + 1) 4)) 0
abbrev kfd (x0 : Sl) (w : Int) := Int.tmod x0.now w
abbrev kf7 (x0 : Sl) (w : Int) := Int.tdiv x0.now w
abbrev kf8 (a : List Bool) (x0 : Sl) (w : Int) (L : List Int) := List.getD a (Int.toNat ((((kf7 x0 w) + (kf1 L x0)) * w) + ((kfd x0 w) + (kf2 L x0)))) false
abbrev kf4 (p : Int) (x0 : Sl) (w : Int) (L : List Int) : Prop := (.slice none 0 0 : Value) = .slice none 0 0 /\ (.pointer (some ⟨2, 0, none⟩) : Value) = .pointer (some ⟨2, 0, none⟩) /\ (.pointer (some ⟨0, 0, none⟩) : Value) = .pointer (some ⟨0, 0, none⟩) /\ (.int .i64 p : Value) = .int .i64 p /\ (.int .i64 120 : Value) = .int .i64 120 /\ (.int .i64 x0.now : Value) = .int .i64 x0.now /\ (.pointer (some ⟨6, 0, none⟩) : Value) = .pointer (some ⟨6, 0, none⟩) /\ (.int .i64 ((kfd x0 w) + (kf2 L x0)) : Value) = .int .i64 ((kfd x0 w) + (kf2 L x0)) /\ (.int .i64 ((kf7 x0 w) + (kf1 L x0)) : Value) = .int .i64 ((kf7 x0 w) + (kf1 L x0)) /\ True
abbrev kfm (x0 : Sl) := List.flatMap intC x0.at_
abbrev kfl (x3 : Nat) : Int := (x3 : Nat)
abbrev kf9 (x0 : Sl) (x3 : Nat) := List.length (slPut x0 x3)
abbrev kfi (x0 : Sl) (x3 : Nat) : Prop := (kf9 x0 x3) <= (kf9 x0 x3) /\ 0 + (kf9 x0 x3) * 1 <= List.length (List.flatMap intC (slPut x0 x3))
abbrev kfj := List.take (1 * 1) (List.drop 0 ([.int .i64 (-1)] : List Value))
abbrev kff (x0 : Sl) (w : Int) (L : List Int) : List Value := [.int .i64 ((((kf7 x0 w) + (kf1 L x0)) * w) + ((kfd x0 w) + (kf2 L x0)))]
abbrev kfb (L : List Int) (x0' : Sl) : KObj := .cells true 0 [.iface ((List.length L) + 1) (kf3 L), .int .i64 x0'.q]
abbrev kfg (x0' : Sl) : KObj := .cells true 1 (List.flatMap intC x0'.at_)
abbrev kf0 (x0 : Sl) (L : List Int) (w : Int) (h : Int) (a : List Bool) (p : Int) (q : Int) : Prop := (((kfc x0) + 1) * 8 <= 2 ^ 44 /\ 1 ≠ 0 /\ ((kfc x0) <= (kfc x0) /\ 0 + (kfc x0) * 1 <= List.length (kfm x0)) /\ (1 <= 1 /\ 0 + 1 * 1 <= List.length ([.int .i64 x0.now] : List Value)) /\ ((List.take (1 * 1) (List.drop 0 ([.int .i64 x0.now] : List Value))) : List Value).all (fun v => one1 v) = true) /\ true = true /\ (∃ x0' : Sl, (SlI L w h a p q x0') /\ (400 - List.length x0'.at_) < (400 - List.length x0.at_) /\ true = true /\ ((.int .i64 x0.now : Value) = .int .i64 x0'.now /\ wk (.slice (some ⟨8, 0, none⟩) ((kfc x0) + 1) ((kfc x0) + 1) : Value) (.slice (some ⟨8, 0, some 1⟩) (List.length x0'.at_) (List.length x0'.at_) : Value) /\ kf5 p) /\ ((some (.cells true 0 (kfh L x0) : KObj) = some (kfb L x0') /\ belowO 4 (kfb L x0') = true) /\ True /\ True) /\ ((some (.cells true 1 ((List.take ((kfc x0) * 1) (List.drop 0 (kfm x0))) ++ (List.take (1 * 1) (List.drop 0 ([.int .i64 x0.now] : List Value)))) : KObj) = some (kfg x0') /\ belowO 4 (kfg x0') = true) /\ True) /\ (True))
def Rsails (L : List Int) (z : Nat) (w h : Int) (a : List Bool) (p q : Int) : Prop :=
 (true = true /\ (SlI L w h a p q (Sl.mk 0 q [0])) /\ (true = true /\ ((.int .i64 0 : Value) = .int .i64 (Sl.mk 0 q [0]).now /\ wk (.slice (some ⟨3, 0, none⟩) 1 1 : Value) (.slice (some ⟨3, 0, some 1⟩) (List.length (Sl.mk 0 q [0]).at_) (List.length (Sl.mk 0 q [0]).at_) : Value) /\ kf5 p) /\ ((some (.cells true 0 [.iface ((List.length L) + 1) (kf3 L), .int .i64 q] : KObj) = some (kfn L q) /\ belowO 4 (kfn L q) = true) /\ True /\ True) /\ ((some (.cells true 1 [.int .i64 0] : KObj) = some (.cells true 1 (List.flatMap intC (Sl.mk 0 q [0]).at_) : KObj) /\ belowO 4 (.cells true 1 (List.flatMap intC (Sl.mk 0 q [0]).at_) : KObj) = true) /\ True) /\ (True)) /\ (∀ x0 : Sl, true = true) /\ ∀ x0 : Sl, (SlI L w h a p q x0) -> (((decide (((((kfc x0) : Nat) : Int) : Int) <= 120)) = true -> (((some (.cells true 0 (kfa L x0) : KObj) = some (.cells true 0 (kfa L x0) : KObj)) /\ True) /\ (∀ H' : Heap, H'.length = 5 -> (H'[0]? = some (.cells true 0 (kfa L x0) : KObj) /\ True) -> KCall prog 27 [.pointer (some ⟨0, 0, none⟩), .int .i64 3] H' [0] (Is (.int .i64 (dN L x0.q 3)) (List.set H' 0 (kfk L x0)))) /\ (((decide ((0 : Int) < (dN L x0.q 3))) = true -> (((some (kfk L x0) = some (kfk L x0)) /\ True) /\ (∀ H' : Heap, H'.length = 6 -> (H'[0]? = some (kfk L x0) /\ True) -> KCall prog 27 [.pointer (some ⟨0, 0, none⟩), .int .i64 4] H' [0] (Is (.int .i64 (dN L (x0.q + 1) 4)) (List.set H' 0 (.cells true 0 (kfh L x0) : KObj)))) /\ (((0 : Int) <= (dN L (x0.q + 1) 4) /\ ((dN L (x0.q + 1) 4) : Int) < ((4 : Nat) : Int)) /\ ((partA 2 ([.int .i64 1, .int .i64 0, .int .i64 0, .int .i64 1, .int .i64 (-1), .int .i64 0, .int .i64 0, .int .i64 (-1)] : List Value) (0 + Int.toNat (dN L (x0.q + 1) 4) * 2) = some (.agg #[.int .i64 (kf2 L x0), .int .i64 (kf1 L x0)])) /\ (((w : Int) ≠ 0) /\ ((.int .i64 (IntKind.wrap .i64 ((kfd x0 w) + (kf2 L x0))) : Value) = .int .i64 ((kfd x0 w) + (kf2 L x0)) /\ (((w : Int) ≠ 0) /\ ((.int .i64 (IntKind.wrap .i64 (kf7 x0 w)) : Value) = .int .i64 (kf7 x0 w) /\ ((.int .i64 (IntKind.wrap .i64 ((kf7 x0 w) + (kf1 L x0))) : Value) = .int .i64 ((kf7 x0 w) + (kf1 L x0)) /\ (((decide ((0 : Int) <= ((kfd x0 w) + (kf2 L x0)))) = true -> (((decide ((((kfd x0 w) + (kf2 L x0)) : Int) < w)) = true -> (((decide ((0 : Int) <= ((kf7 x0 w) + (kf1 L x0)))) = true -> (((decide ((((kf7 x0 w) + (kf1 L x0)) : Int) < h)) = true -> ((.int .i64 (IntKind.wrap .i64 (((kf7 x0 w) + (kf1 L x0)) * w)) : Value) = .int .i64 (((kf7 x0 w) + (kf1 L x0)) * w) /\ ((.int .i64 (IntKind.wrap .i64 ((((kf7 x0 w) + (kf1 L x0)) * w) + ((kfd x0 w) + (kf2 L x0)))) : Value) = .int .i64 ((((kf7 x0 w) + (kf1 L x0)) * w) + ((kfd x0 w) + (kf2 L x0))) /\ (((0 : Int) <= ((((kf7 x0 w) + (kf1 L x0)) * w) + ((kfd x0 w) + (kf2 L x0))) /\ (((((kf7 x0 w) + (kf1 L x0)) * w) + ((kfd x0 w) + (kf2 L x0))) : Int) < (((List.length a) : Nat) : Int)) /\ (((List.flatMap boolC a)[(0 + Int.toNat ((((kf7 x0 w) + (kf1 L x0)) * w) + ((kfd x0 w) + (kf2 L x0))) * 1)]? = some (.bool (kf8 a x0 w L))) /\ (((!(kf8 a x0 w L)) = true -> (true = true /\ (((0 : Nat) : Int) <= p - 1) /\ (true = true /\ ((.int .i64 1 : Value) = .int .i64 (((0 : Nat) : Int) + 1) /\ wk (.slice (some ⟨4, 0, some 1⟩) (kfc x0) (kfc x0) : Value) (.slice (some ⟨4, 0, some 1⟩) (List.length (slPut x0 0)) (List.length (slPut x0 0)) : Value) /\ kf4 p x0 w L) /\ (True /\ True) /\ ((some (.cells true 1 (kfm x0) : KObj) = some (.cells true 1 (List.flatMap intC (slPut x0 0)) : KObj) /\ belowO 7 (.cells true 1 (List.flatMap intC (slPut x0 0)) : KObj) = true) /\ True) /\ (True)) /\ (∀ x3 : Nat, true = true) /\ ∀ x3 : Nat, ((kfl x3) <= p - 1) -> (((decide ((((kfl x3) + 1) : Int) < p)) = true -> ((((kf9 x0 x3) + 1) * 8 <= 2 ^ 44 /\ 1 ≠ 0 /\ (kfi x0 x3) /\ (1 <= 1 /\ 0 + 1 * 1 <= List.length ([.int .i64 (-1)] : List Value)) /\ (kfj : List Value).all (fun v => one1 v) = true) /\ true = true /\ ((.int .i64 (IntKind.wrap .i64 (((kfl x3) + 1) + 1)) : Value) = .int .i64 (((kfl x3) + 1) + 1) /\ (∃ x3' : Nat, (((x3' : Nat) : Int) <= p - 1) /\ (Int.toNat p - x3') < (Int.toNat p - x3) /\ true = true /\ ((.int .i64 (((kfl x3) + 1) + 1) : Value) = .int .i64 (((x3' : Nat) : Int) + 1) /\ wk (.slice (some ⟨9, 0, none⟩) ((kf9 x0 x3) + 1) ((kf9 x0 x3) + 1) : Value) (.slice (some ⟨9, 0, some 1⟩) (List.length (slPut x0 x3')) (List.length (slPut x0 x3')) : Value) /\ kf4 p x0 w L) /\ (True /\ True) /\ ((some (.cells true 1 ((List.take ((kf9 x0 x3) * 1) (List.drop 0 (List.flatMap intC (slPut x0 x3)))) ++ kfj) : KObj) = some (.cells true 1 (List.flatMap intC (slPut x0 x3')) : KObj) /\ belowO 7 (.cells true 1 (List.flatMap intC (slPut x0 x3')) : KObj) = true) /\ True) /\ (True))))) /\ ((decide ((((kfl x3) + 1) : Int) < p)) = false -> ((.int .i64 (IntKind.wrap .i64 (((kf7 x0 w) + (kf1 L x0)) * w)) : Value) = .int .i64 (((kf7 x0 w) + (kf1 L x0)) * w) /\ ((.int .i64 (IntKind.wrap .i64 ((((kf7 x0 w) + (kf1 L x0)) * w) + ((kfd x0 w) + (kf2 L x0)))) : Value) = .int .i64 ((((kf7 x0 w) + (kf1 L x0)) * w) + ((kfd x0 w) + (kf2 L x0))) /\ ((((kf9 x0 x3) + 1) * 8 <= 2 ^ 44 /\ 1 ≠ 0 /\ (kfi x0 x3) /\ (1 <= 1 /\ 0 + 1 * 1 <= List.length (kff x0 w L)) /\ ((List.take (1 * 1) (List.drop 0 (kff x0 w L))) : List Value).all (fun v => one1 v) = true) /\ true = true /\ (∃ x0' : Sl, (SlI L w h a p q x0') /\ (400 - List.length x0'.at_) < (400 - List.length x0.at_) /\ true = true /\ ((.int .i64 ((((kf7 x0 w) + (kf1 L x0)) * w) + ((kfd x0 w) + (kf2 L x0))) : Value) = .int .i64 x0'.now /\ wk (.slice (some ⟨9, 0, none⟩) ((kf9 x0 x3) + 1) ((kf9 x0 x3) + 1) : Value) (.slice (some ⟨9, 0, some 1⟩) (List.length x0'.at_) (List.length x0'.at_) : Value) /\ kf5 p) /\ ((some (.cells true 0 (kfh L x0) : KObj) = some (kfb L x0') /\ belowO 4 (kfb L x0') = true) /\ True /\ True) /\ ((some (.cells true 1 ((List.take ((kf9 x0 x3) * 1) (List.drop 0 (List.flatMap intC (slPut x0 x3)))) ++ (List.take (1 * 1) (List.drop 0 (kff x0 w L)))) : KObj) = some (kfg x0') /\ belowO 4 (kfg x0') = true) /\ True) /\ (True))))))))) /\ ((!(kf8 a x0 w L)) = false -> (kf0 x0 L w h a p q)))))))) /\ ((decide ((((kf7 x0 w) + (kf1 L x0)) : Int) < h)) = false -> (kf0 x0 L w h a p q)))) /\ ((decide ((0 : Int) <= ((kf7 x0 w) + (kf1 L x0)))) = false -> (kf0 x0 L w h a p q)))) /\ ((decide ((((kfd x0 w) + (kf2 L x0)) : Int) < w)) = false -> (kf0 x0 L w h a p q)))) /\ ((decide ((0 : Int) <= ((kfd x0 w) + (kf2 L x0)))) = false -> (kf0 x0 L w h a p q)))))))))))) /\ ((decide ((0 : Int) < (dN L x0.q 3))) = false -> ((((kfc x0) + 1) * 8 <= 2 ^ 44 /\ 1 ≠ 0 /\ ((kfc x0) <= (kfc x0) /\ 0 + (kfc x0) * 1 <= List.length (kfm x0)) /\ (1 <= 1 /\ 0 + 1 * 1 <= List.length ([.int .i64 x0.now] : List Value)) /\ ((List.take (1 * 1) (List.drop 0 ([.int .i64 x0.now] : List Value))) : List Value).all (fun v => one1 v) = true) /\ true = true /\ (∃ x0' : Sl, (SlI L w h a p q x0') /\ (400 - List.length x0'.at_) < (400 - List.length x0.at_) /\ true = true /\ ((.int .i64 x0.now : Value) = .int .i64 x0'.now /\ wk (.slice (some ⟨6, 0, none⟩) ((kfc x0) + 1) ((kfc x0) + 1) : Value) (.slice (some ⟨6, 0, some 1⟩) (List.length x0'.at_) (List.length x0'.at_) : Value) /\ kf5 p) /\ ((some (kfk L x0) = some (kfb L x0') /\ belowO 4 (kfb L x0') = true) /\ True /\ True) /\ ((some (.cells true 1 ((List.take ((kfc x0) * 1) (List.drop 0 (kfm x0))) ++ (List.take (1 * 1) (List.drop 0 ([.int .i64 x0.now] : List Value)))) : KObj) = some (kfg x0') /\ belowO 4 (kfg x0') = true) /\ True) /\ (True))))))) /\ ((decide (((((kfc x0) : Nat) : Int) : Int) <= 120)) = false -> ((((true = false ∨ 1 = 0 ∨ 1 = 1) /\ 121 <= (kfc x0)) /\ ((0 : Int) <= 121 /\ (121 : Int) <= (((kfc x0) : Nat) : Int)) /\ (0 <= 121)) /\ (true = true /\ wk (.slice (some ⟨4, 0, some 2⟩) 121 121 : Value) (rn (sg 2 [(2, 4)]) 3 (.slice (some ⟨2, 0, some 2⟩) 121 121 : Value)) /\ ((some (.cells true 0 (kfa L x0) : KObj) = some (.cells true 0 [.iface ((List.length L) + 1) (kf3 L), .int .i64 ((slF L w h a p q).q)] : KObj) /\ belowO 2 (.cells true 0 [.iface ((List.length L) + 1) (kf3 L), .int .i64 ((slF L w h a p q).q)] : KObj) = true) /\ True) /\ ((some (.cells true 1 (kfm x0) : KObj) = some (.cells true 1 (List.flatMap intC (slF L w h a p q).at_) : KObj) /\ belowO 2 (.cells true 1 (List.flatMap intC (slF L w h a p q).at_) : KObj) = true) /\ True))))))
abbrev kfe : Hint := .need (.go 0 (.again [(4, 8)]))
theorem Esails (L : List Int) (z : Nat) (w h : Int) (a : List Bool) (p q : Int) : vF prog msk (dm 0) 100000 true 40 true 17 [.pointer (some ⟨0, 0, none⟩), .agg #[.int .i64 w, .int .i64 h, .slice (some ⟨1, 0, some 2⟩) (List.length a) (List.length a)], .int .i64 p, .int .i64 120] (readsW 0 0 (digC L q) [a.flatMap boolC]) (some [0])
 (.go 4 (.inv 3 (Sl) ((Sl.mk 0 q [0])) [(4, 3)] [0, 3] (fun x0 => [(10, .int .i64 x0.now), (9, .slice (some ⟨4, 0, some 1⟩) (kfc x0) (kfc x0)), (3, .int .i64 120), (2, .int .i64 p), (0, .pointer (some ⟨0, 0, none⟩)), (5, .pointer (some ⟨2, 0, none⟩)), (8, .slice none 0 0)]) (fun x0 => [(0, true, .cells true 0 (kfa L x0)), (3, false, .dead)]) (fun x0 => [(true, .cells true 1 (kfm x0))]) (fun x0 => []) (fun x0 => (SlI L w h a p q x0)) (fun x0 => (400 - List.length x0.at_)) (fun x0 => .go 3 (.fork (.go 0 (.answ [(0, .cells true 0 (kfa L x0))] (.int .i64 (dN L x0.q 3)) [(0, .cells true 0 (kf6 L x0))] [] (.go 0 (.fork (.go 5 (.answ [(0, .cells true 0 (kf6 L x0))] (.int .i64 (dN L (x0.q + 1) 4)) [(0, .cells true 0 (kfh L x0))] [] (.need (.val (.agg #[.int .i64 (kf2 L x0), .int .i64 (kf1 L x0)]) (.go 4 (.need (.go 2 (.slot 38 (.int .i64 ((kfd x0 w) + (kf2 L x0))) (.go 2 (.need (.slot 42 (.int .i64 (kf7 x0 w)) (.go 2 (.slot 45 (.int .i64 ((kf7 x0 w) + (kf1 L x0))) (.go 4 (.gfork (.go 5 (.gfork (.go 3 (.gfork (.go 5 (.gfork (.go 5 (.slot 70 (.int .i64 (((kf7 x0 w) + (kf1 L x0)) * w)) (.go 1 (.slot 72 (.int .i64 ((((kf7 x0 w) + (kf1 L x0)) * w) + ((kfd x0 w) + (kf2 L x0)))) (.need (.val (.bool (kf8 a x0 w L)) (.go 1 (.fork (.go 0 (.inv 3 (Nat) (0) [(7, 4)] [4] (fun x3 => [(14, .int .i64 ((kfl x3) + 1)), (9, .slice (some ⟨7, 0, some 1⟩) (kf9 x0 x3) (kf9 x0 x3)), (8, .slice none 0 0), (5, .pointer (some ⟨2, 0, none⟩)), (0, .pointer (some ⟨0, 0, none⟩)), (2, .int .i64 p), (3, .int .i64 120), (10, .int .i64 x0.now), (11, .pointer (some ⟨6, 0, none⟩)), (12, .int .i64 ((kfd x0 w) + (kf2 L x0))), (13, .int .i64 ((kf7 x0 w) + (kf1 L x0)))]) (fun x3 => [(4, false, .dead)]) (fun x3 => [(true, .cells true 1 (List.flatMap intC (slPut x0 x3)))]) (fun x3 => []) (fun x3 => ((kfl x3) <= p - 1)) (fun x3 => (Int.toNat p - x3)) (fun x3 => .go 2 (.fork (.go 1 (.need (.go 2 (.slot 81 (.int .i64 (((kfl x3) + 1) + 1)) (.go 0 (.again [(7, 9)])))))) (.go 3 (.slot 88 (.int .i64 (((kf7 x0 w) + (kf1 L x0)) * w)) (.go 1 (.slot 90 (.int .i64 ((((kf7 x0 w) + (kf1 L x0)) * w) + ((kfd x0 w) + (kf2 L x0)))) (.go 3 (.need (.go 0 (.again [(4, 9)])))))))))))) (.go 2 kfe))))))))) (.go 4 kfe))) (.go 6 kfe))) (.go 8 kfe))) (.go 10 kfe)))))))))))))))) (.go 2 (.need (.go 0 (.again [(4, 6)])))))))) (.go 2 (.need (.go 0 (.keep (.again [(2, 4)])))))))))
 (newKW ((readsW 0 0 (digC L q) [a.flatMap boolC]) : HT).n 3 0 (.cells true 0 [.iface ((List.length L) + 1) (kf3 L), .int .i64 ((slF L w h a p q).q)]) (.slice (some ⟨2, 0, some 2⟩) 121 121) [(true, .cells true 1 (List.flatMap intC (slF L w h a p q).at_))]) = Rsails L z w h a p q := by kernel_rfl
end
end Go.Proofs.YtbgfjemppjhmjaaGreat
/- Radio: ways made of numbers. No condition. -/
namespace Go.Proofs.YtbgfjemppjhmjaaGreat
open Go Go.K
set_option maxRecDepth 100000
set_option linter.unusedVariables false
set_option linter.unusedSimpArgs false
noncomputable section
attribute [local irreducible] vF
theorem slPut_0 (s : Sl) : slPut s 0 = s.at_ := by unfold slPut; simp
theorem slPut_succ (s : Sl) (x : Nat) : slPut s (x + 1) = slPut s x ++ [-1] := by
 unfold slPut
 rw [List.replicate_succ', List.append_assoc]
theorem slPut_len (s : Sl) (x : Nat) : (slPut s x).length = s.at_.length + x := by unfold slPut; rw [List.length_append, List.length_replicate]
theorem slStep_len (L : List Int) (w h : Int) (a : List Bool) (p : Int) (s : Sl) : s.at_.length + 1 <= (slStep L w h a p s).at_.length := by
 unfold slStep
 split
 ·split
  ·dsimp only; rw [List.length_append, slPut_len, List.length_singleton]; omega
  ·dsimp only; rw [List.length_append, List.length_singleton]; omega
 ·dsimp only; rw [List.length_append, List.length_singleton]; omega
theorem slRun_done {L : List Int} {w h : Int} {a : List Bool} {p : Int} {s : Sl} (hs : ¬ s.at_.length <= 120) : ∀ m, slRun L w h a p m s = s
 | 0 => rfl
 | m + 1 => by unfold slRun; rw [if_neg hs]
theorem slI_0 {L : List Int} {w h : Int} {a : List Bool} {p q : Int} (hn : 0 < a.length) (hq : 0 <= q) : SlI L w h a p q ⟨0, q, [0]⟩ := by
 refine ⟨?_, ?_, ?_, 120, ?_, rfl⟩
 ·dsimp only; omega
 ·show 0 <= q /\ q <= q + 2 * ((1 : Nat) : Int); omega
 ·show 1 <= 1 /\ 1 <= 160; omega
 ·show 121 <= 120 + 1; omega
theorem slI_step {L : List Int} {w h : Int} {a : List Bool} {p q : Int} {s : Sl} (b : BasOk w h a.length) (hp : 1 <= p /\ p <= 30) (i : SlI L w h a p q s) (hs : s.at_.length <= 120) : SlI L w h a p q (slStep L w h a p s) := by
 obtain ⟨i1, i2, i3, m, i4, i5⟩ := i
 have hlen := slStep_len L w h a p s
 have hrun : ∃ m, 121 <= m + (slStep L w h a p s).at_.length /\ slRun L w h a p m (slStep L w h a p s) = slF L w h a p q := by
  cases m with
  | zero => omega
  | succ m =>
   refine ⟨m, by omega, ?_⟩
   rw [<- i5]
   show _ = (if s.at_.length <= 120 then _ else _)
   rw [if_pos hs]
 refine ⟨?_, ?_, ?_, hrun⟩
 ·unfold slStep
  split
  ·split
   ·rename_i h1 h2
    unfold slOk at h2
    simp only [Bool.and_eq_true, decide_eq_true_eq] at h2
    exact nb_in b ⟨h2.1, by omega⟩ ⟨h2.2.2.1, by omega⟩
   ·exact i1
  ·exact i1
 ·unfold slStep
  split
  ·split
   ·dsimp only; rw [List.length_append, slPut_len, List.length_singleton]; omega
   ·dsimp only; rw [List.length_append, List.length_singleton]; omega
  ·dsimp only; rw [List.length_append, List.length_singleton]; omega
 ·refine ⟨by omega, ?_⟩
  unfold slStep
  split
  ·split
   ·dsimp only; rw [List.length_append, slPut_len, List.length_singleton]; omega
   ·dsimp only; rw [List.length_append, List.length_singleton]; omega
  ·dsimp only; rw [List.length_append, List.length_singleton]; omega
theorem dirPart {d : Int} (hd : 0 <= d /\ d < 4) : partA 2 ([nI 1, nI 0, nI 0, nI 1, nI (-1), nI 0, nI 0, nI (-1)] : List Value) (0 + Int.toNat d * 2) = some (.agg #[nI (List.getD ([1, 0, -1, 0] : List Int) (Int.toNat d) 0), nI (List.getD ([0, 1, 0, -1] : List Int) (Int.toNat d) 0)]) := by
 have : d = 0 ∨ d = 1 ∨ d = 2 ∨ d = 3 := by omega
 rcases this with rfl | rfl | rfl | rfl <;> rfl
theorem sd_bd {d : Int} (hd : 0 <= d /\ d < 4) : (-1 <= sdx d /\ sdx d <= 1) /\ (-1 <= sdy d /\ sdy d <= 1) := by
 have : d = 0 ∨ d = 1 ∨ d = 2 ∨ d = 3 := by omega
 rcases this with rfl | rfl | rfl | rfl <;> decide
theorem hvSails {L : List Int} {z : Nat} {w h : Int} {a : List Bool} {p q : Int} (b : BasOk w h a.length) (hp : 1 <= p /\ p <= 30) (hq : 0 <= q /\ q <= 1000) : Rsails L z w h a p q := by
 have hw := b.w1
 have hh := b.h1
 have hn := b.n1
 have hp1 := b.p1
 have hwh := mul_bd hw hh
 have kN : ∀ (q : Int) (m : Int) (c : Nat), (0 <= q /\ q <= 1000000000) -> (1 <= m /\ m <= 1000000000) -> ∀ H' : Heap, H'.length = c -> (H'[0]? = some (.cells true 0 (digC L q)) /\ True) -> KCall prog 27 [.pointer (some ⟨0, 0, none⟩), .int .i64 m] H' [0] (Is (.int .i64 (dN L q m)) (List.set H' 0 (.cells true 0 (digC L (q + 1))))) :=
  fun q m c h1 h2 H' _ h => kNext L q m h1 h2 h.1
 delta Rsails kf5 kf3 kfn kfc kfa kf6 kfk kfh kf2 kf1 kfd kf7 kf8 kf4 kfm kfl kf9 kfi kfj kff kfb kfg kf0
 refine ⟨rfl, slI_0 (by omega) hq.1, ?_, fun _ => rfl, fun s hs => ⟨fun k => ?_, fun k => ?_⟩⟩
 ·repeat' first | (exact wk_Q (by decide)) | exact digB _ _ _ | exact intB _ _ | exact trivial | exact rfl | exact wk_refl _ | refine wkO_cells ?_ | refine wks_cons ?_ ?_ | exact wks_nil | exact wk_nil _ _ _ (.inl rfl) | (exact wk_Q (by omega)) | refine wk_tupL ?_ | refine wk_aggL ?_ | refine joinMax ?_ ?_ ?_ | refine joinMin ?_ ?_ ?_ | refine toMax ?_ | refine toMin ?_ | refine ⟨rfl, ?_⟩ | refine ⟨trivial, ?_⟩ | (refine forkD (fun h => ?_) (fun h => ?_)) | (refine forkNe (fun h => ?_) (fun h => ?_)) | (refine forkEq (fun h => ?_) (fun h => ?_)) | refine forkNot ?_ | (refine ⟨vI64 (by omega), ?_⟩) | (refine And.intro (by omega) ?_) | apply And.intro | (exact iEq (by omega)) | (exact vI64 (by omega))
 ·have hl : s.at_.length <= 120 := by have := of_decide_eq_true k; omega
  have hst := slI_step b hp hs hl
  have hsl := slStep_len L w h a p s
  have hi := hs.now
  have hcn := hs.cnt
  have hl1 := hs.len
  obtain ⟨d1, d2, d3⟩ := divm b hi
  have b1 := dN_bd L s.q (m := 3) (by omega)
  have b2 := dN_bd L (s.q + 1) (m := 4) (by omega)
  have hsd := sd_bd b2
  refine ⟨⟨rfl, trivial⟩, kN _ _ _ (by omega) (by omega), fun k1 => ?_, fun k1 => ?_⟩
  ·have g1 : dN L s.q 3 > 0 := of_decide_eq_true k1
   have hno : slOk L w h a s = false -> slStep L w h a p s = ⟨s.now, s.q + 1 + 1, s.at_ ++ [s.now]⟩ := fun e => by unfold slStep; rw [if_pos g1, if_neg (by rw [e]; exact Bool.noConfusion)]
   have eU : Int.tmod s.now w + List.getD ([1, 0, -1, 0] : List Int) (Int.toNat (dN L (s.q + 1) 4)) 0 = slU L w s := rfl
   have eV : Int.tdiv s.now w + List.getD ([0, 1, 0, -1] : List Int) (Int.toNat (dN L (s.q + 1) 4)) 0 = slV L w s := rfl
   have bu : -1 <= slU L w s /\ slU L w s <= 64 := by unfold slU; omega
   have bv : -1 <= slV L w s /\ slV L w s <= 64 := by unfold slV; omega
   refine ⟨⟨rfl, trivial⟩, kN _ _ _ (by omega) (by omega), ⟨b2.1, b2.2⟩, dirPart b2, by omega, vI64 (by rw [eU]; omega), by omega, vI64 (by omega), vI64 (by rw [eV]; omega), ?_⟩
   rw [eU, eV]
   generalize hU : slU L w s = u at *
   generalize hV : slV L w s = v at *
   refine ⟨fun c1 => ⟨fun c2 => ⟨fun c3 => ⟨fun c4 => ?_, fun c4 => ?_⟩, fun c3 => ?_⟩, fun c2 => ?_⟩, fun c1 => ?_⟩
   ·have hu : 0 <= u /\ u <= w - 1 := ⟨of_decide_eq_true c1, by have := of_decide_eq_true c2; omega⟩
    have hv : 0 <= v /\ v <= h - 1 := ⟨of_decide_eq_true c3, by have := of_decide_eq_true c4; omega⟩
    have hin := nb_in b hu hv
    have hvw : 0 <= v * w := Int.mul_nonneg hv.1 (by omega)
    refine ⟨vI64 (by omega), vI64 (by omega), hin, boolAt (by omega) (by omega), fun l1 => ⟨rfl, by omega, ?_, fun _ => rfl, fun x hx => ⟨fun kx => ?_, fun kx => ?_⟩⟩, fun l1 => ?_⟩
    ·rw [slPut_0]
     repeat' first | exact intB _ _ | exact trivial | exact rfl | exact wk_refl _ | refine wkO_cells ?_ | refine wks_cons ?_ ?_ | exact wks_nil | exact wk_nil _ _ _ (.inl rfl) | (exact wk_Q (by omega)) | refine wk_tupL ?_ | refine wk_aggL ?_ | refine joinMax ?_ ?_ ?_ | refine joinMin ?_ ?_ ?_ | refine toMax ?_ | refine toMin ?_ | refine ⟨rfl, ?_⟩ | refine ⟨trivial, ?_⟩ | (refine forkD (fun h => ?_) (fun h => ?_)) | (refine forkNe (fun h => ?_) (fun h => ?_)) | (refine forkEq (fun h => ?_) (fun h => ?_)) | refine forkNot ?_ | (refine ⟨vI64 (by omega), ?_⟩) | (refine And.intro (by omega) ?_) | apply And.intro | (exact iEq (by omega)) | (exact vI64 (by omega))
    ·have hpl := slPut_len s x
     have hk := of_decide_eq_true kx
     refine ⟨⟨by omega, by decide, ⟨Nat.le_refl _, by rw [flat_len intC_len]; omega⟩, ⟨Nat.le_refl _, by simp⟩, rfl⟩, rfl, vI64 (by omega), x + 1, by omega, by omega, rfl, ?_⟩
     repeat' first | exact wk_snoc (slPut_succ s x) | exact ob_snoc intC_len (slPut_succ s x) rfl | exact intB _ _ | exact trivial | exact rfl | exact wk_refl _ | refine wkO_cells ?_ | refine wks_cons ?_ ?_ | exact wks_nil | exact wk_nil _ _ _ (.inl rfl) | (exact wk_Q (by omega)) | refine wk_tupL ?_ | refine wk_aggL ?_ | refine joinMax ?_ ?_ ?_ | refine joinMin ?_ ?_ ?_ | refine toMax ?_ | refine toMin ?_ | refine ⟨rfl, ?_⟩ | refine ⟨trivial, ?_⟩ | (refine forkD (fun h => ?_) (fun h => ?_)) | (refine forkNe (fun h => ?_) (fun h => ?_)) | (refine forkEq (fun h => ?_) (fun h => ?_)) | refine forkNot ?_ | (refine ⟨vI64 (by omega), ?_⟩) | (refine And.intro (by omega) ?_) | apply And.intro | (exact iEq (by omega)) | (exact vI64 (by omega))
    ·have hpl := slPut_len s x
     have hk := of_decide_eq_false kx
     have hx2 : x = Int.toNat (p - 1) := by omega
     have hyes : slStep L w h a p s = ⟨v * w + u, s.q + 1 + 1, slPut s x ++ [v * w + u]⟩ := by
      unfold slStep
      rw [if_pos g1, if_pos (by unfold slOk; rw [hU, hV, c1, c2, c3, c4, l1]; rfl), hU, hV, hx2]
     rw [hyes] at hst hsl
     refine ⟨vI64 (by omega), vI64 (by omega), ⟨by omega, by decide, ⟨Nat.le_refl _, by rw [flat_len intC_len]; omega⟩, ⟨Nat.le_refl _, by simp⟩, rfl⟩, rfl, _, hst, by have := hst.len; omega, rfl, ?_⟩
     repeat' first | exact wk_snoc rfl | exact ob_snoc intC_len rfl rfl | exact intB _ _ | exact digB _ _ _ | exact trivial | exact rfl | exact wk_refl _ | refine wkO_cells ?_ | refine wks_cons ?_ ?_ | exact wks_nil | exact wk_nil _ _ _ (.inl rfl) | (exact wk_Q (by omega)) | refine wk_tupL ?_ | refine wk_aggL ?_ | refine joinMax ?_ ?_ ?_ | refine joinMin ?_ ?_ ?_ | refine toMax ?_ | refine toMin ?_ | refine ⟨rfl, ?_⟩ | refine ⟨trivial, ?_⟩ | (refine forkD (fun h => ?_) (fun h => ?_)) | (refine forkNe (fun h => ?_) (fun h => ?_)) | (refine forkEq (fun h => ?_) (fun h => ?_)) | refine forkNot ?_ | (refine ⟨vI64 (by omega), ?_⟩) | (refine And.intro (by omega) ?_) | apply And.intro | (exact iEq (by omega)) | (exact vI64 (by omega))
    ·have e := hno (by unfold slOk; rw [hU, hV, c1, c2, c3, c4, l1]; rfl)
     rw [e] at hst hsl
     refine ⟨⟨by omega, by decide, ⟨Nat.le_refl _, by rw [flat_len intC_len]; omega⟩, ⟨Nat.le_refl _, by simp⟩, rfl⟩, rfl, _, hst, by have := hst.len; omega, rfl, ?_⟩
     repeat' first | exact wk_snoc rfl | exact ob_snoc intC_len rfl rfl | exact intB _ _ | exact digB _ _ _ | exact trivial | exact rfl | exact wk_refl _ | refine wkO_cells ?_ | refine wks_cons ?_ ?_ | exact wks_nil | exact wk_nil _ _ _ (.inl rfl) | (exact wk_Q (by omega)) | refine wk_tupL ?_ | refine wk_aggL ?_ | refine joinMax ?_ ?_ ?_ | refine joinMin ?_ ?_ ?_ | refine toMax ?_ | refine toMin ?_ | refine ⟨rfl, ?_⟩ | refine ⟨trivial, ?_⟩ | (refine forkD (fun h => ?_) (fun h => ?_)) | (refine forkNe (fun h => ?_) (fun h => ?_)) | (refine forkEq (fun h => ?_) (fun h => ?_)) | refine forkNot ?_ | (refine ⟨vI64 (by omega), ?_⟩) | (refine And.intro (by omega) ?_) | apply And.intro | (exact iEq (by omega)) | (exact vI64 (by omega))
   ·have e := hno (by unfold slOk; rw [hU, hV, c1, c2, c3, c4]; rfl)
    rw [e] at hst hsl
    refine ⟨⟨by omega, by decide, ⟨Nat.le_refl _, by rw [flat_len intC_len]; omega⟩, ⟨Nat.le_refl _, by simp⟩, rfl⟩, rfl, _, hst, by have := hst.len; omega, rfl, ?_⟩
    repeat' first | exact wk_snoc rfl | exact ob_snoc intC_len rfl rfl | exact intB _ _ | exact digB _ _ _ | exact trivial | exact rfl | exact wk_refl _ | refine wkO_cells ?_ | refine wks_cons ?_ ?_ | exact wks_nil | exact wk_nil _ _ _ (.inl rfl) | (exact wk_Q (by omega)) | refine wk_tupL ?_ | refine wk_aggL ?_ | refine joinMax ?_ ?_ ?_ | refine joinMin ?_ ?_ ?_ | refine toMax ?_ | refine toMin ?_ | refine ⟨rfl, ?_⟩ | refine ⟨trivial, ?_⟩ | (refine forkD (fun h => ?_) (fun h => ?_)) | (refine forkNe (fun h => ?_) (fun h => ?_)) | (refine forkEq (fun h => ?_) (fun h => ?_)) | refine forkNot ?_ | (refine ⟨vI64 (by omega), ?_⟩) | (refine And.intro (by omega) ?_) | apply And.intro | (exact iEq (by omega)) | (exact vI64 (by omega))
   ·have e := hno (by unfold slOk; rw [hU, hV, c1, c2, c3]; rfl)
    rw [e] at hst hsl
    refine ⟨⟨by omega, by decide, ⟨Nat.le_refl _, by rw [flat_len intC_len]; omega⟩, ⟨Nat.le_refl _, by simp⟩, rfl⟩, rfl, _, hst, by have := hst.len; omega, rfl, ?_⟩
    repeat' first | exact wk_snoc rfl | exact ob_snoc intC_len rfl rfl | exact intB _ _ | exact digB _ _ _ | exact trivial | exact rfl | exact wk_refl _ | refine wkO_cells ?_ | refine wks_cons ?_ ?_ | exact wks_nil | exact wk_nil _ _ _ (.inl rfl) | (exact wk_Q (by omega)) | refine wk_tupL ?_ | refine wk_aggL ?_ | refine joinMax ?_ ?_ ?_ | refine joinMin ?_ ?_ ?_ | refine toMax ?_ | refine toMin ?_ | refine ⟨rfl, ?_⟩ | refine ⟨trivial, ?_⟩ | (refine forkD (fun h => ?_) (fun h => ?_)) | (refine forkNe (fun h => ?_) (fun h => ?_)) | (refine forkEq (fun h => ?_) (fun h => ?_)) | refine forkNot ?_ | (refine ⟨vI64 (by omega), ?_⟩) | (refine And.intro (by omega) ?_) | apply And.intro | (exact iEq (by omega)) | (exact vI64 (by omega))
   ·have e := hno (by unfold slOk; rw [hU, hV, c1, c2]; rfl)
    rw [e] at hst hsl
    refine ⟨⟨by omega, by decide, ⟨Nat.le_refl _, by rw [flat_len intC_len]; omega⟩, ⟨Nat.le_refl _, by simp⟩, rfl⟩, rfl, _, hst, by have := hst.len; omega, rfl, ?_⟩
    repeat' first | exact wk_snoc rfl | exact ob_snoc intC_len rfl rfl | exact intB _ _ | exact digB _ _ _ | exact trivial | exact rfl | exact wk_refl _ | refine wkO_cells ?_ | refine wks_cons ?_ ?_ | exact wks_nil | exact wk_nil _ _ _ (.inl rfl) | (exact wk_Q (by omega)) | refine wk_tupL ?_ | refine wk_aggL ?_ | refine joinMax ?_ ?_ ?_ | refine joinMin ?_ ?_ ?_ | refine toMax ?_ | refine toMin ?_ | refine ⟨rfl, ?_⟩ | refine ⟨trivial, ?_⟩ | (refine forkD (fun h => ?_) (fun h => ?_)) | (refine forkNe (fun h => ?_) (fun h => ?_)) | (refine forkEq (fun h => ?_) (fun h => ?_)) | refine forkNot ?_ | (refine ⟨vI64 (by omega), ?_⟩) | (refine And.intro (by omega) ?_) | apply And.intro | (exact iEq (by omega)) | (exact vI64 (by omega))
   ·have e := hno (by unfold slOk; rw [hU, hV, c1]; rfl)
    rw [e] at hst hsl
    refine ⟨⟨by omega, by decide, ⟨Nat.le_refl _, by rw [flat_len intC_len]; omega⟩, ⟨Nat.le_refl _, by simp⟩, rfl⟩, rfl, _, hst, by have := hst.len; omega, rfl, ?_⟩
    repeat' first | exact wk_snoc rfl | exact ob_snoc intC_len rfl rfl | exact intB _ _ | exact digB _ _ _ | exact trivial | exact rfl | exact wk_refl _ | refine wkO_cells ?_ | refine wks_cons ?_ ?_ | exact wks_nil | exact wk_nil _ _ _ (.inl rfl) | (exact wk_Q (by omega)) | refine wk_tupL ?_ | refine wk_aggL ?_ | refine joinMax ?_ ?_ ?_ | refine joinMin ?_ ?_ ?_ | refine toMax ?_ | refine toMin ?_ | refine ⟨rfl, ?_⟩ | refine ⟨trivial, ?_⟩ | (refine forkD (fun h => ?_) (fun h => ?_)) | (refine forkNe (fun h => ?_) (fun h => ?_)) | (refine forkEq (fun h => ?_) (fun h => ?_)) | refine forkNot ?_ | (refine ⟨vI64 (by omega), ?_⟩) | (refine And.intro (by omega) ?_) | apply And.intro | (exact iEq (by omega)) | (exact vI64 (by omega))
  ·have e : slStep L w h a p s = ⟨s.now, s.q + 1, s.at_ ++ [s.now]⟩ := by unfold slStep; rw [if_neg (of_decide_eq_false k1)]
   rw [e] at hst hsl
   refine ⟨⟨by omega, by decide, ⟨Nat.le_refl _, by rw [flat_len intC_len]; omega⟩, ⟨Nat.le_refl _, by simp⟩, rfl⟩, rfl, _, hst, by have := hst.len; omega, rfl, ?_⟩
   repeat' first | exact wk_snoc rfl | exact ob_snoc intC_len rfl rfl | exact intB _ _ | exact digB _ _ _ | exact trivial | exact rfl | exact wk_refl _ | refine wkO_cells ?_ | refine wks_cons ?_ ?_ | exact wks_nil | exact wk_nil _ _ _ (.inl rfl) | (exact wk_Q (by omega)) | refine wk_tupL ?_ | refine wk_aggL ?_ | refine joinMax ?_ ?_ ?_ | refine joinMin ?_ ?_ ?_ | refine toMax ?_ | refine toMin ?_ | refine ⟨rfl, ?_⟩ | refine ⟨trivial, ?_⟩ | (refine forkD (fun h => ?_) (fun h => ?_)) | (refine forkNe (fun h => ?_) (fun h => ?_)) | (refine forkEq (fun h => ?_) (fun h => ?_)) | refine forkNot ?_ | (refine ⟨vI64 (by omega), ?_⟩) | (refine And.intro (by omega) ?_) | apply And.intro | (exact iEq (by omega)) | (exact vI64 (by omega))
 ·have hl : ¬ s.at_.length <= 120 := fun e => absurd (of_decide_eq_false k) (by omega)
  have e : s = slF L w h a p q := by
   obtain ⟨m, m1, m2⟩ := hs.run
   rw [slRun_done hl] at m2
   exact m2
  refine ⟨⟨⟨.inr (.inr rfl), by omega⟩, ⟨by omega, by omega⟩, by omega⟩, ?_⟩
  rw [e]
  repeat' first | exact intB _ _ | exact digB _ _ _ | exact trivial | exact rfl | exact wk_refl _ | refine wkO_cells ?_ | refine wks_cons ?_ ?_ | exact wks_nil | exact wk_nil _ _ _ (.inl rfl) | (exact wk_Q (by omega)) | refine wk_tupL ?_ | refine wk_aggL ?_ | refine joinMax ?_ ?_ ?_ | refine joinMin ?_ ?_ ?_ | refine toMax ?_ | refine toMin ?_ | refine ⟨rfl, ?_⟩ | refine ⟨trivial, ?_⟩ | (refine forkD (fun h => ?_) (fun h => ?_)) | (refine forkNe (fun h => ?_) (fun h => ?_)) | (refine forkEq (fun h => ?_) (fun h => ?_)) | refine forkNot ?_ | (refine ⟨vI64 (by omega), ?_⟩) | (refine And.intro (by omega) ?_) | apply And.intro | (exact iEq (by omega)) | (exact vI64 (by omega))
theorem kSails {L : List Int} {w h : Int} {a : List Bool} {p q : Int} (b : BasOk w h a.length) (hp : 1 <= p /\ p <= 30) (hq : 0 <= q /\ q <= 1000) {H : Heap} {D i : Nat} {own : Bool} {z : Nat} (hne : D ≠ i) (hD : H[D]? = some (.cells true 0 (digC L q))) (hi : H[i]? = some (.cells own z (a.flatMap boolC))) :
  KCall prog 17 [.pointer (some ⟨D, 0, none⟩), basV w h i a.length, .int .i64 p, .int .i64 120] H [D] (Is (.slice (some ⟨H.length, 0, some 2⟩) 121 121) (H.set D (.cells true 0 (digC L (slF L w h a p q).q)) ++ [.cells true 1 ((slF L w h a p q).at_.flatMap intC)])) :=
 valW (fun j => .slice (some ⟨j, 0, some 2⟩) 121 121) (css := [a.flatMap boolC]) (new := [.cells true 1 ((slF L w h a p q).at_.flatMap intC)]) (Eq.mpr (Esails L 0 w h a p q) (hvSails b hp hq)) (plainDig 0 L _) (plainDig 0 L _) ⟨plainBL _ _, trivial⟩
  ⟨⟨_, _, rfl, plainIL _ _⟩, trivial⟩ rfl rfl (fun _ => rfl) hD (ids := [i]) ⟨⟨_, _, hi⟩, trivial⟩ (by simp [hne]) rfl
end
end Go.Proofs.YtbgfjemppjhmjaaGreat
/- Radio: a ship that takes at least Pace for each step: plain laws. No condition. -/
namespace Go.Proofs.YtbgfjemppjhmjaaGreat
set_option linter.unusedSimpArgs false
open Go Go.K
set_option linter.unusedVariables false
theorem nb_place {w u v : Int} (hw : 1 <= w) (hu : 0 <= u /\ u <= w - 1) (hv : 0 <= v) : Int.tmod (v * w + u) w = u /\ Int.tdiv (v * w + u) w = v := by
 have h0 : 0 <= v * w := Int.mul_nonneg hv (by omega)
 rw [Int.tmod_eq_emod_of_nonneg (by omega), Int.tdiv_eq_ediv_of_nonneg (by omega)]
 have e : v * w + u = u + w * v := by rw [Int.mul_comm, Int.add_comm]
 rw [e, Int.add_mul_emod_self_left, Int.add_mul_ediv_left _ _ (by omega), Int.emod_eq_of_lt (by omega) (by omega), Int.ediv_eq_zero_of_lt (by omega) (by omega)]
 omega
theorem bd_back {j : Nat} (hj : j < 4) : bdx (3 - j) = - bdx j /\ bdy (3 - j) = - bdy j := by
 match j, hj with
 | 0, _ => decide
 | 1, _ => decide
 | 2, _ => decide
 | 3, _ => decide
theorem nb_back {w h : Int} {a : List Bool} {i : Int} {j : Nat} (b : BasOk w h a.length) (hi : 0 <= i /\ i < (a.length : Int)) (hs : a.getD (Int.toNat i) false = false) (hj : j < 4) (k : nbOk w h a i j) : nbOk w h a (nbT w i j) (3 - j) /\ nbT w (nbT w i j) (3 - j) = i := by
 obtain ⟨d1, d2, d3⟩ := divm b hi
 have hw := b.w1
 obtain ⟨⟨hu, hv⟩, hl⟩ := k
 obtain ⟨p1, p2⟩ := nb_place (w := w) hw.1 hu hv.1
 obtain ⟨q1, q2⟩ := bd_back hj
 have eT : nbV w i j * w + nbU w i j = nbT w i j := rfl
 rw [eT] at p1 p2
 have eU : nbU w (nbT w i j) (3 - j) = Int.tmod i w := by
  show Int.tmod (nbT w i j) w + bdx (3 - j) = _
  rw [p1, q1]; show Int.tmod i w + bdx j + -bdx j = _; omega
 have eV : nbV w (nbT w i j) (3 - j) = Int.tdiv i w := by
  show Int.tdiv (nbT w i j) w + bdy (3 - j) = _
  rw [p2, q2]; show Int.tdiv i w + bdy j + -bdy j = _; omega
 have e : nbT w (nbT w i j) (3 - j) = i := by
  show nbV w (nbT w i j) (3 - j) * w + nbU w (nbT w i j) (3 - j) = i
  rw [eU, eV]; exact d3
 exact ⟨⟨⟨by rw [eU]; omega, by rw [eV]; omega⟩, by rw [e]; exact hs⟩, e⟩
theorem wy_front {w h : Int} {a : List Bool} {i : Int} {j : Nat} (hj : j < 4) (k : nbOk w h a i j) {n : Nat} {c : Int} (q : Wy w h a (nbT w i j) n c) : Wy w h a i (n + 1) c := by
 induction q with
 | base => exact .step j hj .base k
 | step l hl _ hb ih => exact .step l hl ih hb
theorem wy_sea {w h : Int} {a : List Bool} {f c : Int} {n : Nat} (hs : a.getD (Int.toNat f) false = false) (q : Wy w h a f n c) : a.getD (Int.toNat c) false = false := by
 cases q with
 | base => exact hs
 | step l hl _ hb => exact hb.2
theorem wy_rev {w h : Int} {a : List Bool} {f c : Int} {n : Nat} (b : BasOk w h a.length) (hf : 0 <= f /\ f < (a.length : Int)) (hs : a.getD (Int.toNat f) false = false) (q : Wy w h a f n c) : Wy w h a c n f := by
 induction q with
 | base => exact .base
 | @step n i j hj hw hb ih =>
  obtain ⟨h1, h2⟩ := nb_back b (wy_in b hf hw) (wy_sea hs hw) hj hb
  refine wy_front (j := 3 - j) (by omega) h1 ?_
  rw [h2]; exact ih
theorem dst_wy {w h : Int} {a : List Bool} {f c : Int} {n : Nat} (q : Wy w h a f n c) : dstI w h a f c <= n := by
 obtain ⟨m, h1, h2⟩ := wy_lst q
 rw [dst_is h2]; omega
theorem wy_app {w h : Int} {a : List Bool} {f g c : Int} {m n : Nat} (p : Wy w h a f m g) (q : Wy w h a g n c) : Wy w h a f (m + n) c := by
 induction q with
 | base => exact p
 | step l hl _ hb ih => exact .step l hl ih hb
structure PathI (w h : Int) (a : List Bool) (p : Int) (s : Sl) : Prop where
 len : 1 <= s.at_.length
 last : s.at_.getD (s.at_.length - 1) 0 = s.now
 cell : 0 <= s.now /\ s.now < (a.length : Int)
 cells : ∀ m, m < s.at_.length -> s.at_.getD m 0 = -1 ∨ ((0 <= s.at_.getD m 0 /\ s.at_.getD m 0 < (a.length : Int)) /\ a.getD (Int.toNat (s.at_.getD m 0)) false = false)
 way : ∀ m k, m <= k -> k < s.at_.length -> 0 <= s.at_.getD m 0 -> 0 <= s.at_.getD k 0 -> ∃ n : Nat, Wy w h a (s.at_.getD m 0) n (s.at_.getD k 0) /\ (n : Int) * p <= (k : Int) - (m : Int)
theorem getD_app1 {l r : List Int} {m : Nat} (h : m < l.length) : (l ++ r).getD m 0 = l.getD m 0 := by
 rw [List.getD_eq_getElem?_getD, List.getElem?_append_left h, <- List.getD_eq_getElem?_getD]
theorem getD_app2 {l r : List Int} {m : Nat} (h : l.length <= m) : (l ++ r).getD m 0 = r.getD (m - l.length) 0 := by
 rw [List.getD_eq_getElem?_getD, List.getElem?_append_right h, <- List.getD_eq_getElem?_getD]
theorem path_add {w h : Int} {a : List Bool} {p : Int} {s : Sl} (hp : 1 <= p) (i : PathI w h a p s) {x : Nat} {c q : Int} (hc : (0 <= c /\ c < (a.length : Int)) /\ a.getD (Int.toNat c) false = false) {n : Nat} (hn : Wy w h a s.now n c) (hx : (n : Int) * p <= (x : Int) + 1) : PathI w h a p ⟨c, q, slPut s x ++ [c]⟩ := by
 have hl := slPut_len s x
 have g1 : ∀ m, m < s.at_.length -> (slPut s x ++ [c]).getD m 0 = s.at_.getD m 0 := fun m hm => by rw [getD_app1 (by omega)]; exact getD_app1 hm
 have g2 : ∀ m, s.at_.length <= m -> m < s.at_.length + x -> (slPut s x ++ [c]).getD m 0 = -1 := fun m h1 h2 => by
  rw [getD_app1 (by omega)]
  unfold slPut
  rw [getD_app2 h1]
  simp only [List.getD_eq_getElem?_getD, List.getElem?_replicate]
  rw [if_pos (by omega)]; rfl
 have g3 : (slPut s x ++ [c]).getD (s.at_.length + x) 0 = c := by
  rw [getD_app2 (by omega), show s.at_.length + x - (slPut s x).length = 0 from by omega]; rfl
 have hL : (slPut s x ++ [c]).length = s.at_.length + x + 1 := by rw [List.length_append, List.length_singleton, hl]
 refine ⟨?_, ?_, hc.1, fun m hm => ?_, fun m k hmk hk h1 h2 => ?_⟩
 ·dsimp only; omega
 ·dsimp only
  rw [hL, show s.at_.length + x + 1 - 1 = s.at_.length + x from by omega]; exact g3
 ·dsimp only at hm ⊢
  rw [hL] at hm
  by_cases a1 : m < s.at_.length
  ·rw [g1 m a1]; exact i.cells m a1
  ·by_cases a2 : m < s.at_.length + x
   ·exact .inl (g2 m (by omega) a2)
   ·rw [show m = s.at_.length + x from by omega, g3]; exact .inr hc
 ·dsimp only at hk h1 h2 ⊢
  rw [hL] at hk
  by_cases a1 : k < s.at_.length
  ·rw [g1 k a1] at h2 ⊢
   rw [g1 m (by omega)] at h1 ⊢
   exact i.way m k hmk a1 h1 h2
  ·by_cases a2 : k < s.at_.length + x
   ·rw [g2 k (by omega) a2] at h2; omega
   ·have ek : k = s.at_.length + x := by omega
    rw [ek, g3]
    by_cases a3 : m < s.at_.length
    ·rw [g1 m a3] at h1 ⊢
     have hl1 := i.len
     obtain ⟨n1, w1, w2⟩ := i.way m (s.at_.length - 1) (by omega) (by omega) h1 (by rw [i.last]; exact i.cell.1)
     rw [i.last] at w1
     refine ⟨n1 + n, ?_, ?_⟩
     ·exact wy_app w1 hn
     ·rw [Int.natCast_add, Int.add_mul]; omega
    ·by_cases a4 : m < s.at_.length + x
     ·rw [g2 m (by omega) a4] at h1; omega
     ·rw [show m = s.at_.length + x from by omega, g3]
      exact ⟨0, .base, by rw [show ((0 : Nat) : Int) * p = 0 from Int.zero_mul p]; omega⟩
theorem path_0 {w h : Int} {a : List Bool} {p q : Int} (hn : 0 < a.length) (h0 : a.getD 0 false = false) : PathI w h a p ⟨0, q, [0]⟩ := by
 refine ⟨Nat.le_refl 1, rfl, ⟨Int.le_refl _, by dsimp only; omega⟩, fun m hm => ?_, fun m k hmk hk h1 h2 => ?_⟩
 ·have hm0 : m = 0 := by have : m < 1 := hm; omega
  subst hm0
  exact .inr ⟨⟨Int.le_refl _, by show (0 : Int) < _; omega⟩, h0⟩
 ·have hk0 : k = 0 := by have : k < 1 := hk; omega
  have hm0 : m = 0 := by omega
  subst hk0 hm0
  exact ⟨0, .base, by rw [show ((0 : Nat) : Int) * p = 0 from Int.zero_mul p]; omega⟩
theorem sl_dir {L : List Int} {w : Int} {s : Sl} : ∃ j, j < 4 /\ slU L w s = nbU w s.now j /\ slV L w s = nbV w s.now j := by
 have hd := dN_bd L (s.q + 1) (m := 4) (by omega)
 unfold slU slV nbU nbV
 generalize dN L (s.q + 1) 4 = d at *
 have : d = 0 ∨ d = 1 ∨ d = 2 ∨ d = 3 := by omega
 rcases this with rfl | rfl | rfl | rfl
 ·exact ⟨2, by omega, rfl, rfl⟩
 ·exact ⟨3, by omega, rfl, rfl⟩
 ·exact ⟨1, by omega, rfl, rfl⟩
 ·exact ⟨0, by omega, rfl, rfl⟩
theorem path_step {L : List Int} {w h : Int} {a : List Bool} {p : Int} {s : Sl} (b : BasOk w h a.length) (hp : 1 <= p) (i : PathI w h a p s) : PathI w h a p (slStep L w h a p s) := by
 have hnow : (0 <= s.now /\ s.now < (a.length : Int)) /\ a.getD (Int.toNat s.now) false = false := by
  have h1 := i.cells (s.at_.length - 1) (by have := i.len; omega)
  rw [i.last] at h1
  exact h1.resolve_left (by have := i.cell; omega)
 have hst : ∀ q, PathI w h a p ⟨s.now, q, s.at_ ++ [s.now]⟩ := fun q => by
  have := path_add (x := 0) (q := q) (n := 0) hp i hnow .base (by rw [show ((0 : Nat) : Int) * p = 0 from Int.zero_mul p]; omega)
  rwa [slPut_0] at this
 unfold slStep
 split
 ·split
  ·rename_i h1 h2
   obtain ⟨j, hj, eU, eV⟩ := sl_dir (L := L) (w := w) (s := s)
   unfold slOk at h2
   rw [eU, eV] at h2 ⊢
   have hb : nbOk w h a s.now j := by
    simp only [Bool.and_eq_true, decide_eq_true_eq] at h2
    exact ⟨⟨⟨h2.1, by omega⟩, ⟨h2.2.2.1, by omega⟩⟩, notB h2.2.2.2.2⟩
   exact path_add (x := Int.toNat (p - 1)) hp i ⟨nb_in b hb.1.1 hb.1.2, hb.2⟩ (.step j hj .base hb) (by show ((0 + 1 : Nat) : Int) * p <= _; rw [show ((0 + 1 : Nat) : Int) * p = p from Int.one_mul p]; omega)
  ·exact hst _
 ·exact hst _
theorem path_run {L : List Int} {w h : Int} {a : List Bool} {p : Int} (b : BasOk w h a.length) (hp : 1 <= p) : ∀ (m : Nat) (s : Sl), PathI w h a p s -> 121 <= m + s.at_.length -> PathI w h a p (slRun L w h a p m s) /\ 121 <= (slRun L w h a p m s).at_.length
 | 0, s, i, hm => ⟨i, by show 121 <= s.at_.length; omega⟩
 | m + 1, s, i, hm => by
  unfold slRun
  split
  ·have := slStep_len L w h a p s
   exact path_run b hp m _ (path_step b hp i) (by omega)
  ·exact ⟨i, by omega⟩
theorem path_all {L : List Int} {w h : Int} {a : List Bool} {p q : Int} (b : BasOk w h a.length) (hp : 1 <= p) (h0 : a.getD 0 false = false) : PathI w h a p (slF L w h a p q) /\ 121 <= (slF L w h a p q).at_.length := by
 have hw := mul_bd b.w1 b.h1
 have := b.n1
 exact path_run b hp 120 _ (path_0 (by omega) h0) (by show 121 <= 120 + 1; omega)
noncomputable def canS (w h : Int) (a : List Bool) (p : Int) (s : Int × Int) (c m : Int) : Bool := decide (dstI w h a s.2 c < farI) && decide (dstI w h a s.2 c * p <= mxI (m - s.1) (s.1 - m))
theorem canB_is {w h : Int} {a : List Bool} {p : Int} {ss : List (Int × Int)} {x : Nat} {c m : Int} (hx : x < ss.length) (hc : 0 <= c /\ c < (a.length : Int)) : canB p ss (trkRows w h a ss) x c m = canS w h a p (ss.getD x zeroSp) c m := by
 unfold canB canS
 have e : ((trkRows w h a ss).getD x []).getD (Int.toNat c) 0 = dstI w h a (ss.getD x zeroSp).2 c := by
  rw [show (trkRows w h a ss).getD x [] = dstL w h a (ss.getD x zeroSp).2 from tabP_get hx]
  rw [show (dstL w h a (ss.getD x zeroSp).2).getD (Int.toNat c) 0 = dstI w h a (ss.getD x zeroSp).2 ((Int.toNat c : Nat) : Int) from tabP_get (by omega)]
  rw [show ((Int.toNat c : Nat) : Int) = c from by omega]
 rw [e]
def Seen1 (at_ : List Int) (ss : List (Int × Int)) : Prop := ∀ s ∈ ss, (0 <= s.1 /\ s.1 <= 120) /\ s.2 = at_.getD (Int.toNat s.1) 0 /\ 0 <= s.2
theorem can_way {w h : Int} {a : List Bool} {p : Int} {s : Sl} (b : BasOk w h a.length) (hp : 1 <= p) (i : PathI w h a p s) {m k : Nat} (hm : m < s.at_.length) (hk : k < s.at_.length) (h1 : 0 <= s.at_.getD m 0) (h2 : 0 <= s.at_.getD k 0) : canS w h a p ((m : Int), s.at_.getD m 0) (s.at_.getD k 0) (k : Int) = true := by
 have c1 := (i.cells m hm).resolve_left (by omega)
 have c2 := (i.cells k hk).resolve_left (by omega)
 have key : ∃ n : Nat, Wy w h a (s.at_.getD m 0) n (s.at_.getD k 0) /\ (n : Int) * p <= mxI ((k : Int) - (m : Int)) ((m : Int) - (k : Int)) := by
  rcases Nat.le_total m k with q | q
  ·obtain ⟨n, n1, n2⟩ := i.way m k q hk h1 h2
   exact ⟨n, n1, by unfold mxI; split <;> omega⟩
  ·obtain ⟨n, n1, n2⟩ := i.way k m q hm h2 h1
   exact ⟨n, wy_rev b c2.1 c2.2 n1, by unfold mxI; split <;> omega⟩
 obtain ⟨n, n1, n2⟩ := key
 have d1 := dst_wy n1
 obtain ⟨m', h3, h4⟩ := wy_lst n1
 have d2 := lst_le b c1.1 h4
 have d3 := dst_is h4
 have := b.n1
 have := b.p1
 unfold canS
 rw [Bool.and_eq_true, decide_eq_true_eq, decide_eq_true_eq]
 refine ⟨by dsimp only; rw [d3]; unfold farI; omega, ?_⟩
 dsimp only
 have : dstI w h a (s.at_.getD m 0) (s.at_.getD k 0) * p <= (n : Int) * p := Int.mul_le_mul_of_nonneg_right d1 (by omega)
 omega
theorem seen_can {w h : Int} {a : List Bool} {p : Int} {s : Sl} {ss : List (Int × Int)} (b : BasOk w h a.length) (hp : 1 <= p) (i : PathI w h a p s) (hl : 121 <= s.at_.length) (k : Seen1 s.at_ ss) {x y : Int × Int} (hx : x ∈ ss) (hy : y ∈ ss) : canS w h a p x y.2 y.1 = true := by
 obtain ⟨x1, x2, x3⟩ := k x hx
 obtain ⟨y1, y2, y3⟩ := k y hy
 have := can_way b hp i (m := Int.toNat x.1) (k := Int.toNat y.1) (by omega) (by omega) (by omega) (by omega)
 rw [<- x2, <- y2, show ((Int.toNat x.1 : Nat) : Int) = x.1 from by omega, show ((Int.toNat y.1 : Nat) : Int) = y.1 from by omega] at this
 exact this
theorem cf_nil {w h : Int} {a : List Bool} {p : Int} {ss : List (Int × Int)} (hc : ∀ s ∈ ss, 0 <= s.2 /\ s.2 < (a.length : Int)) (k : ∀ x ∈ ss, ∀ y ∈ ss, canS w h a p x y.2 y.1 = true) : cfTo p ss (trkRows w h a ss) ss.length = [] := by
 unfold cfTo
 rw [List.flatMap_eq_nil_iff]
 intro x hx
 have hx := List.mem_range.1 hx
 unfold cfRow
 rw [List.map_eq_nil_iff, List.filter_eq_nil_iff]
 intro y hy
 have hy := List.mem_range.1 hy
 unfold agrB
 rw [canB_is hx (hc _ (getD_mem hy)), k _ (getD_mem hx) _ (getD_mem hy)]
 simp
theorem clr_is {w h : Int} {a : List Bool} {p : Int} {ss : List (Int × Int)} {c m : Int} (hc : 0 <= c /\ c < (a.length : Int)) : clrB p ss (trkRows w h a ss) c m ss.length = ss.all fun s => canS w h a p s c m := by
 unfold clrB
 rw [Bool.eq_iff_iff, List.all_eq_true, List.all_eq_true]
 constructor
 ·intro h s hs
  obtain ⟨x, hx, rfl⟩ := List.mem_iff_getElem.1 hs
  have := h x (List.mem_range.2 hx)
  rw [canB_is hx hc] at this
  rw [<- this]; congr 1
  rw [List.getD_eq_getElem?_getD, List.getElem?_eq_getElem hx]; rfl
 ·intro h x hx
  have hx := List.mem_range.1 hx
  rw [canB_is hx hc]
  exact h _ (getD_mem hx)
end Go.Proofs.YtbgfjemppjhmjaaGreat
/- Radio: RadioTimes: words and plain laws. No condition. -/
namespace Go.Proofs.YtbgfjemppjhmjaaGreat
set_option linter.unusedSimpArgs false
open Go Go.K
set_option linter.unusedVariables false
def sgL (A S : List Int) : Nat -> List (Int × Int)
 | 0 => []
 | x + 1 => if A.getD (Int.toNat (S.getD x 0 % 121)) 0 < 0 then sgL A S x else sgL A S x ++ [(S.getD x 0 % 121, A.getD (Int.toNat (S.getD x 0 % 121)) 0)]
def bkL (ss : List (Int × Int)) : Nat -> List (Int × Int)
 | 0 => []
 | x + 1 => bkL ss x ++ [ss.getD (ss.length - 1 - x) zeroSp, ss.getD (ss.length - 1 - x) zeroSp]
def lsQ (ss : List (Int × Int)) : Int := ss.foldl (fun b s => mnI b s.1) 120
def msQ (ss : List (Int × Int)) : Int := ss.foldl (fun b s => mxI b s.1) 0
def atL (N : List Int) (p : Int) : List Int := (slF N (wtW N 0) (wtH N 0) (wtLd N) p (wtN (Int.toNat (wtW N 0 * wtH N 0)))).at_
def pcP (z : Int) : Int := 1 + z % 30
def sgt (N S : List Int) (z : Int) (x : Nat) : List (Int × Int) := sgL (atL N (pcP z)) S x
noncomputable def rwQ (N : List Int) (ss : List (Int × Int)) : List (List Int) := trkRows (wtW N 0) (wtH N 0) (wtLd N) ss
noncomputable def whQ (N : List Int) (z : Int) (ss : List (Int × Int)) (m : Int) : List Int := whL (wtLd N) (pcP z) ss (rwQ N ss) m (wtLd N).length
noncomputable def tmQ (N : List Int) (z : Int) (ss : List (Int × Int)) (c : Int) : List (Int × Int) := tmL (pcP z) ss (rwQ N ss) c
theorem whL_has {w h : Int} {a : List Bool} {p : Int} {ss : List (Int × Int)} {m c : Int} (hc : 0 <= c /\ c < (a.length : Int)) : (whL a p ss (trkRows w h a ss) m a.length).any (fun v => v == c) = (seaB a c && ss.all fun s => canS w h a p s c m) := by
 rw [<- clr_is hc, Bool.eq_iff_iff, List.any_eq_true]
 unfold whL
 constructor
 ·rintro ⟨v, hv, he⟩
  obtain ⟨x, hx, rfl⟩ := List.mem_map.1 hv
  rw [List.mem_filter] at hx
  rw [<- eq_of_beq he]; exact hx.2
 ·intro q
  refine ⟨c, List.mem_map.2 ⟨Int.toNat c, List.mem_filter.2 ⟨List.mem_range.2 (by omega), ?_⟩, by omega⟩, by simp⟩
  rw [show ((Int.toNat c : Nat) : Int) = c from by omega]; exact q
theorem notF_iff {N : List (Int × Int)} {m : Int} : notF N m = true ↔ ∃ y ∈ N, y.1 <= m /\ m <= y.2 := by
 unfold notF
 rw [List.any_eq_true]
 constructor
 ·rintro ⟨y, hy, q⟩
  rw [Bool.and_eq_true, decide_eq_true_eq, decide_eq_true_eq] at q
  exact ⟨y, hy, q⟩
 ·rintro ⟨y, hy, q⟩
  exact ⟨y, hy, by rw [decide_eq_true q.1, decide_eq_true q.2]; rfl⟩
theorem stC_is {w h : Int} {a : List Bool} {ss : List (Int × Int)} {x : Nat} {c : Int} (hx : x < ss.length) (hc : 0 <= c /\ c < (a.length : Int)) : stC (trkRows w h a ss) x c = dstI w h a (ss.getD x zeroSp).2 c := by
 unfold stC
 rw [show (trkRows w h a ss).getD x [] = dstL w h a (ss.getD x zeroSp).2 from tabP_get hx]
 rw [show (dstL w h a (ss.getD x zeroSp).2).getD (Int.toNat c) 0 = dstI w h a (ss.getD x zeroSp).2 ((Int.toNat c : Nat) : Int) from tabP_get (by omega)]
 rw [show ((Int.toNat c : Nat) : Int) = c from by omega]
theorem tm_cov {w h : Int} {a : List Bool} {p : Int} {ss : List (Int × Int)} {m c : Int} (t : TrOk w h a p ss) (hc : 0 <= c /\ c < (a.length : Int)) (hm : lsT ss ss.length <= m /\ m <= msT ss ss.length) : notF (tmL p ss (trkRows w h a ss) c) m = ss.all fun s => canS w h a p s c m := by
 have hd : ∀ x, x < ss.length -> 0 <= dstI w h a (ss.getD x zeroSp).2 c /\ (dstI w h a (ss.getD x zeroSp).2 c < 1024 ∨ dstI w h a (ss.getD x zeroSp).2 c = farI) := fun x hx => dstI_bd t.bas (t.bd hx).2 c
 unfold tmL
 split
 ·rename_i hf
  unfold farT at hf
  rw [List.any_eq_true] at hf
  obtain ⟨x, hx, e⟩ := hf
  have hx := List.mem_range.1 hx
  have e := of_decide_eq_true e
  rw [stC_is hx hc] at e
  symm
  show _ = false
  rw [Bool.eq_false_iff]
  intro q
  rw [List.all_eq_true] at q
  have := q _ (getD_mem (d := zeroSp) hx)
  unfold canS at this
  rw [e] at this
  simp at this
 ·rename_i hf
  have hI := runs_I (fun m => !notF (notT p ss (trkRows w h a ss) c ss.length) m) (lsT ss ss.length) (Int.toNat (msT ss ss.length - lsT ss ss.length + 1))
  have hnf : ∀ x, x < ss.length -> dstI w h a (ss.getD x zeroSp).2 c ≠ farI := fun x hx e => by
   apply hf
   unfold farT
   rw [List.any_eq_true]
   exact ⟨x, List.mem_range.2 hx, by rw [stC_is hx hc]; exact decide_eq_true e⟩
  have hfm : ∀ m, (!notF (notT p ss (trkRows w h a ss) c ss.length) m) = ss.all fun s => canS w h a p s c m := fun m => by
   have hone : ∀ x, x < ss.length -> (canS w h a p (ss.getD x zeroSp) c m = true ↔ ¬ ((ss.getD x zeroSp).1 - dstI w h a (ss.getD x zeroSp).2 c * p + 1 <= m /\ m <= (ss.getD x zeroSp).1 + dstI w h a (ss.getD x zeroSp).2 c * p - 1)) := fun x hx => by
    have h1 := hd x hx
    have h2 := hnf x hx
    unfold canS
    rw [Bool.and_eq_true, decide_eq_true_eq, decide_eq_true_eq]
    have h3 : dstI w h a (ss.getD x zeroSp).2 c < farI := by
     rcases h1.2 with q | q
     ·unfold farI; omega
     ·exact absurd q h2
    generalize dstI w h a (ss.getD x zeroSp).2 c * p = e
    unfold mxI
    constructor
    ·rintro ⟨_, q⟩; split at q <;> omega
    ·intro q; refine ⟨h3, ?_⟩; split <;> omega
   have hmem : ∀ x, x < ss.length -> ((ss.getD x zeroSp).1 - dstI w h a (ss.getD x zeroSp).2 c * p + 1, (ss.getD x zeroSp).1 + dstI w h a (ss.getD x zeroSp).2 c * p - 1) ∈ notT p ss (trkRows w h a ss) c ss.length := fun x hx => by
    unfold notT tabP
    exact List.mem_map.2 ⟨x, List.mem_range.2 hx, by rw [stC_is hx hc]⟩
   rw [Bool.eq_iff_iff, List.all_eq_true]
   constructor
   ·intro q s hs
    obtain ⟨x, hx, rfl⟩ := List.mem_iff_getElem.1 hs
    have e : ss[x] = ss.getD x zeroSp := by rw [List.getD_eq_getElem?_getD, List.getElem?_eq_getElem hx]; rfl
    rw [e]
    refine (hone x hx).2 fun r => ?_
    have : notF (notT p ss (trkRows w h a ss) c ss.length) m = true := notF_iff.2 ⟨_, hmem x hx, r⟩
    rw [this] at q; cases q
   ·intro q
    refine notF_no fun y hy r => ?_
    unfold notT tabP at hy
    obtain ⟨x, hx, rfl⟩ := List.mem_map.1 hy
    have hx := List.mem_range.1 hx
    rw [stC_is hx hc] at r
    exact (hone x hx).1 (q _ (getD_mem hx)) r
  rw [<- hfm, Bool.eq_iff_iff, notF_iff]
  constructor
  ·rintro ⟨y, hy, y1, y2⟩
   exact (hI.mem y hy).2.2.2 m y1 y2
  ·intro q
   exact hI.cov m hm.1 (by omega) q
theorem tm_run {p : Int} {ss : List (Int × Int)} {rr : List (List Int)} {c : Int} (hl : lsT ss ss.length <= msT ss ss.length) : (∀ x ∈ tmL p ss rr c, lsT ss ss.length <= x.1 /\ x.1 <= x.2 /\ x.2 <= msT ss ss.length) /\ (tmL p ss rr c).Pairwise fun x y => x.2 + 1 < y.1 := by
 unfold tmL
 split
 ·exact ⟨fun x hx => (by cases hx), List.Pairwise.nil⟩
 ·have hI := runs_I (fun m => !notF (notT p ss rr c ss.length) m) (lsT ss ss.length) (Int.toNat (msT ss ss.length - lsT ss ss.length + 1))
  exact ⟨fun x hx => by have := hI.mem x hx; omega, hI.gap⟩
theorem tm_len {p : Int} {ss : List (Int × Int)} {rr : List (List Int)} {c : Int} : (tmL p ss rr c).length <= Int.toNat (msT ss ss.length - lsT ss ss.length + 1) := by
 unfold tmL
 split
 ·exact Nat.zero_le _
 ·exact runs_le ..
theorem sgL_len (A S : List Int) : ∀ x, (sgL A S x).length <= x
 | 0 => Nat.le_refl _
 | x + 1 => by
  have ih := sgL_len A S x
  unfold sgL
  split
  ·omega
  ·rw [List.length_append, List.length_singleton]; omega
theorem sgL_seen (A S : List Int) : ∀ x, Seen1 A (sgL A S x)
 | 0 => fun s hs => by cases hs
 | x + 1 => by
  have ih := sgL_seen A S x
  unfold sgL
  split
  ·exact ih
  ·rename_i h
   intro s hs
   rcases List.mem_append.1 hs with hs | hs
   ·exact ih s hs
   ·rw [List.mem_singleton.1 hs]
    have h1 := Int.emod_nonneg (S.getD x 0) (b := 121) (by omega)
    have h2 := Int.emod_lt_of_pos (S.getD x 0) (b := 121) (by omega)
    exact ⟨⟨h1, by dsimp only; omega⟩, rfl, by dsimp only; omega⟩
theorem foldl_snoc1 {α β : Type} (f : β -> α -> β) (b : β) (l : List α) (x : α) : (l ++ [x]).foldl f b = f (l.foldl f b) x := by rw [List.foldl_append]; rfl
theorem lsQ_snoc (l : List (Int × Int)) (x : Int × Int) : lsQ (l ++ [x]) = mnI (lsQ l) x.1 := foldl_snoc1 ..
theorem msQ_snoc (l : List (Int × Int)) (x : Int × Int) : msQ (l ++ [x]) = mxI (msQ l) x.1 := foldl_snoc1 ..
theorem lsQ_is {ss : List (Int × Int)} (hne : 0 < ss.length) (hb : ∀ s ∈ ss, 0 <= s.1 /\ s.1 <= 120) : lsQ ss = lsT ss ss.length := by
 have key : ∀ (l : List (Int × Int)) (b : Int), mnI 120 (l.foldl (fun b s => mnI b s.1) b) = l.foldl (fun b s => mnI b s.1) (mnI 120 b) := by
  intro l
  induction l with
  | nil => intro b; rfl
  | cons x l ih =>
   intro b
   rw [List.foldl_cons, List.foldl_cons, ih]
   congr 1
   unfold mnI; (repeat' split) <;> omega
 unfold lsT
 rw [List.take_length]
 have h1 := key ss 100000
 rw [show mnI 120 100000 = 120 from rfl] at h1
 unfold lsQ
 rw [<- h1]
 have h2 := (lm_bd (ss := ss) (fun s hs => by have := hb s hs; omega) ss.length (Nat.le_refl _)).2.2 0 hne
 unfold lsT at h2
 rw [List.take_length] at h2
 have h3 := hb _ (getD_mem (d := zeroSp) hne)
 by_cases h4 : ss.foldl (fun b s => mnI b s.1) 100000 < 120
 ·rw [mnI_1 h4]
 ·rw [mnI_2 h4]; omega
theorem msQ_is (ss : List (Int × Int)) : msQ ss = msT ss ss.length := by unfold msT msQ; rw [List.take_length]
theorem bkL_len (ss : List (Int × Int)) : ∀ x, (bkL ss x).length = 2 * x
 | 0 => rfl
 | x + 1 => by unfold bkL; rw [List.length_append, bkL_len ss x]; simp; omega
theorem bkL_mem {ss : List (Int × Int)} {s : Int × Int} : ∀ x, x <= ss.length -> (s ∈ bkL ss x ↔ ∃ k, ss.length - x <= k /\ k < ss.length /\ ss.getD k zeroSp = s)
 | 0, _ => ⟨fun h => (by cases h), fun ⟨k, h1, h2, _⟩ => by omega⟩
 | x + 1, hx => by
  unfold bkL
  rw [List.mem_append, bkL_mem x (by omega)]
  constructor
  ·rintro (⟨k, h1, h2, h3⟩ | h)
   ·exact ⟨k, by omega, h2, h3⟩
   ·refine ⟨ss.length - 1 - x, by omega, by omega, ?_⟩
    simp only [List.mem_cons, List.not_mem_nil, or_false, or_self] at h
    exact h.symm
  ·rintro ⟨k, h1, h2, h3⟩
   by_cases hk : k = ss.length - 1 - x
   ·exact .inr (by rw [<- h3, hk]; exact List.mem_cons_self ..)
   ·exact .inl ⟨k, by omega, h2, h3⟩
theorem bkL_all {ss : List (Int × Int)} (s : Int × Int) : s ∈ bkL ss ss.length ↔ s ∈ ss := by
 rw [bkL_mem _ (Nat.le_refl _)]
 constructor
 ·rintro ⟨k, _, h2, rfl⟩; exact getD_mem h2
 ·intro h
  obtain ⟨k, hk, rfl⟩ := List.mem_iff_getElem.1 h
  exact ⟨k, by omega, hk, by rw [List.getD_eq_getElem?_getD, List.getElem?_eq_getElem hk]; rfl⟩
theorem whL_set {w h : Int} {a : List Bool} {p : Int} {ss s2 : List (Int × Int)} {m : Int} (k : ∀ s, s ∈ s2 ↔ s ∈ ss) : whL a p s2 (trkRows w h a s2) m a.length = whL a p ss (trkRows w h a ss) m a.length := by
 unfold whL
 congr 1
 apply List.filter_congr
 intro c hc
 have hc := List.mem_range.1 hc
 rw [clr_is (by omega), clr_is (by omega)]
 congr 1
 rw [Bool.eq_iff_iff, List.all_eq_true, List.all_eq_true]
 exact ⟨fun h s hs => h s ((k s).2 hs), fun h s hs => h s ((k s).1 hs)⟩
theorem wtBas (N : List Int) : BasOk (wtW N 0) (wtH N 0) (wtLd N).length := by
 have h1 := wtW_bd N 0
 have h2 := wtH_bd N 0
 have h3 := wtWH_bd N 0
 exact ⟨by omega, by omega, by omega, by rw [wtLand_len]; omega⟩
theorem wtLd_0 (N : List Int) : (wtLd N).getD 0 false = false := by
 have h3 := wtWH_bd N 0
 rw [show (wtLd N).getD 0 false = (decide (0 < 0) && decide (dN N (((0 : Nat) : Int) + 1) 7 = 0)) from tabP_get (by omega)]
 rfl
theorem pcP_bd (z : Int) : 1 <= pcP z /\ pcP z <= 30 := by
 have h1 := Int.emod_nonneg z (b := 30) (by omega)
 have h2 := Int.emod_lt_of_pos z (b := 30) (by omega)
 unfold pcP; omega
theorem wtPath (N : List Int) (z : Int) : PathI (wtW N 0) (wtH N 0) (wtLd N) (pcP z) (slF N (wtW N 0) (wtH N 0) (wtLd N) (pcP z) (wtN (Int.toNat (wtW N 0 * wtH N 0)))) /\ 121 <= (atL N (pcP z)).length := path_all (wtBas N) (pcP_bd z).1 (wtLd_0 N)
theorem wt_err {N : List Int} {z : Int} {ss : List (Int × Int)} (hl : ss.length <= 20) (k : Seen1 (atL N (pcP z)) ss) : errT (wtW N 0) (wtH N 0) (wtLd N) (pcP z) ss = 0 := by
 have b := wtBas N
 have hp := pcP_bd z
 have e0 : errBas (wtW N 0) (wtH N 0) (wtLd N).length = 0 := by
  unfold errBas
  rw [if_pos ⟨b.w1, b.h1, b.p1⟩, if_pos b.n1]
 unfold errT
 rw [if_pos e0, if_pos ⟨hp.1, by omega⟩, if_pos hl, if_pos]
 rw [List.all_eq_true]
 intro s hs
 obtain ⟨k1, k2, k3⟩ := k s hs
 obtain ⟨i, hi⟩ := wtPath N z
 have hc := (i.cells (Int.toNat s.1) (by show _ < (atL N (pcP z)).length; omega)).resolve_left (by show ¬ (atL N (pcP z)).getD _ 0 = -1; rw [<- k2]; omega)
 rw [show (slF N (wtW N 0) (wtH N 0) (wtLd N) (pcP z) (wtN (Int.toNat (wtW N 0 * wtH N 0)))).at_ = atL N (pcP z) from rfl, <- k2] at hc
 unfold okS seaB
 rw [decide_eq_true k1.1, decide_eq_true (show s.1 <= 100000 by omega), decide_eq_true hc.1.1, decide_eq_true (show s.2 <= (((wtLd N).length : Nat) : Int) - 1 by omega), hc.2]
 rfl
theorem wt_cf {N : List Int} {z : Int} {ss : List (Int × Int)} (hl : ss.length <= 20) (k : Seen1 (atL N (pcP z)) ss) : cfTo (pcP z) ss (trkRows (wtW N 0) (wtH N 0) (wtLd N) ss) ss.length = [] := by
 have t := trOk (wt_err hl k)
 obtain ⟨i, hi⟩ := wtPath N z
 exact cf_nil (fun s hs => (t.seen s hs).2.1) fun x hx y hy => seen_can (wtBas N) (pcP_bd z).1 i hi k hx hy
end Go.Proofs.YtbgfjemppjhmjaaGreat
