/- What is to be shown of functions. Printed by a program. No condition. -/
import Derived.Test.YtbgfjemppjhmjaaGreatGK27xW1
import Derived.Test.YtbgfjemppjhmjaaGreatGW2xP2
import Derived.Test.YtbgfjemppjhmjaaGreatGO3gxP4
namespace Go.Proofs.YtbgfjemppjhmjaaGreat
set_option linter.unusedSimpArgs false
open Go Go.K
set_option maxRecDepth 100000
set_option maxHeartbeats 4000000
set_option linter.unusedVariables false
noncomputable section
def Requal (sp : Value) (A B : List Msg) : Prop :=
 (((((((List.length A) : Nat) : Int) : Int) != (((List.length B) : Nat) : Int)) = true -> (.bool false : Value) = sp) /\ ((((((List.length A) : Nat) : Int) : Int) != (((List.length B) : Nat) : Int)) = false -> (true = true /\ (0 <= List.length A /\ List.take 0 A = List.take 0 B) /\ (true = true /\ ((.int .i64 0 : Value) = .int .i64 ((0 : Nat) : Int) /\ wk (.slice (some ⟨1, 0, some 2⟩) (List.length B) (List.length B) : Value) (.slice (some ⟨1, 0, some 2⟩) (List.length B) (List.length B) : Value) /\ wk (.slice (some ⟨0, 0, some 2⟩) (List.length A) (List.length A) : Value) (.slice (some ⟨0, 0, some 2⟩) (List.length A) (List.length A) : Value) /\ True) /\ (True) /\ (True) /\ (True)) /\ (∀ x0 : Nat, true = true) /\ ∀ x0 : Nat, (x0 <= List.length A /\ List.take x0 A = List.take x0 B) -> (((decide ((((x0 : Nat) : Int) : Int) < (((List.length A) : Nat) : Int))) = true -> (((0 : Int) <= ((x0 : Nat) : Int) /\ (((x0 : Nat) : Int) : Int) < (((List.length A) : Nat) : Int)) /\ ((partA 7 (List.flatMap msgC A) (0 + Int.toNat ((x0 : Nat) : Int) * 7) = some (.agg #[.int .i64 (List.getD A x0 zeroM).au, .int .i64 (List.getD A x0 zeroM).nu, .int .i64 (List.getD A x0 zeroM).at_, .int .i64 (List.getD A x0 zeroM).ki, .int .i64 (List.getD A x0 zeroM).sh, .int .i64 (List.getD A x0 zeroM).ce, .int .i64 (List.getD A x0 zeroM).va])) /\ (((0 : Int) <= ((x0 : Nat) : Int) /\ (((x0 : Nat) : Int) : Int) < (((List.length B) : Nat) : Int)) /\ ((partA 7 (List.flatMap msgC B) (0 + Int.toNat ((x0 : Nat) : Int) * 7) = some (.agg #[.int .i64 (List.getD B x0 zeroM).au, .int .i64 (List.getD B x0 zeroM).nu, .int .i64 (List.getD B x0 zeroM).at_, .int .i64 (List.getD B x0 zeroM).ki, .int .i64 (List.getD B x0 zeroM).sh, .int .i64 (List.getD B x0 zeroM).ce, .int .i64 (List.getD B x0 zeroM).va])) /\ (((!((((List.getD A x0 zeroM).au : Int) == (List.getD B x0 zeroM).au) && ((((List.getD A x0 zeroM).nu : Int) == (List.getD B x0 zeroM).nu) && ((((List.getD A x0 zeroM).at_ : Int) == (List.getD B x0 zeroM).at_) && ((((List.getD A x0 zeroM).ki : Int) == (List.getD B x0 zeroM).ki) && ((((List.getD A x0 zeroM).sh : Int) == (List.getD B x0 zeroM).sh) && ((((List.getD A x0 zeroM).ce : Int) == (List.getD B x0 zeroM).ce) && ((((List.getD A x0 zeroM).va : Int) == (List.getD B x0 zeroM).va) && true)))))))) = true -> (.bool false : Value) = sp) /\ ((!((((List.getD A x0 zeroM).au : Int) == (List.getD B x0 zeroM).au) && ((((List.getD A x0 zeroM).nu : Int) == (List.getD B x0 zeroM).nu) && ((((List.getD A x0 zeroM).at_ : Int) == (List.getD B x0 zeroM).at_) && ((((List.getD A x0 zeroM).ki : Int) == (List.getD B x0 zeroM).ki) && ((((List.getD A x0 zeroM).sh : Int) == (List.getD B x0 zeroM).sh) && ((((List.getD A x0 zeroM).ce : Int) == (List.getD B x0 zeroM).ce) && ((((List.getD A x0 zeroM).va : Int) == (List.getD B x0 zeroM).va) && true)))))))) = false -> ((.int .i64 (IntKind.wrap .i64 (((x0 : Nat) : Int) + 1)) : Value) = .int .i64 (((x0 : Nat) : Int) + 1) /\ (∃ x0' : Nat, (x0' <= List.length A /\ List.take x0' A = List.take x0' B) /\ (List.length A - x0') < (List.length A - x0) /\ true = true /\ ((.int .i64 (((x0 : Nat) : Int) + 1) : Value) = .int .i64 ((x0' : Nat) : Int) /\ wk (.slice (some ⟨1, 0, some 2⟩) (List.length B) (List.length B) : Value) (.slice (some ⟨1, 0, some 2⟩) (List.length B) (List.length B) : Value) /\ wk (.slice (some ⟨0, 0, some 2⟩) (List.length A) (List.length A) : Value) (.slice (some ⟨0, 0, some 2⟩) (List.length A) (List.length A) : Value) /\ True) /\ (True) /\ (True) /\ (True)))))))))) /\ ((decide ((((x0 : Nat) : Int) : Int) < (((List.length A) : Nat) : Int))) = false -> (.bool true : Value) = sp)))))
theorem Eequal (sp : Value) (A B : List Msg) : vF prog msk (dm 0) 100000 true 40 true 90 [.slice (some ⟨0, 0, some 2⟩) (List.length A) (List.length A), .slice (some ⟨1, 0, some 2⟩) (List.length B) (List.length B)] (readsT 0 [A.flatMap msgC, B.flatMap msgC]) (some [])
 (.go 5 (.fork (.auto) (.go 0 (.inv 3 (Nat) (0) [] [] (fun x0 => [(5, .int .i64 ((x0 : Nat) : Int)), (1, .slice (some ⟨1, 0, some 2⟩) (List.length B) (List.length B)), (0, .slice (some ⟨0, 0, some 2⟩) (List.length A) (List.length A))]) (fun x0 => []) (fun x0 => []) (fun x0 => []) (fun x0 => (x0 <= List.length A /\ List.take x0 A = List.take x0 B)) (fun x0 => (List.length A - x0)) (fun x0 => .go 3 (.fork (.go 1 (.need (.val (.agg #[.int .i64 (List.getD A x0 zeroM).au, .int .i64 (List.getD A x0 zeroM).nu, .int .i64 (List.getD A x0 zeroM).at_, .int .i64 (List.getD A x0 zeroM).ki, .int .i64 (List.getD A x0 zeroM).sh, .int .i64 (List.getD A x0 zeroM).ce, .int .i64 (List.getD A x0 zeroM).va]) (.go 1 (.need (.val (.agg #[.int .i64 (List.getD B x0 zeroM).au, .int .i64 (List.getD B x0 zeroM).nu, .int .i64 (List.getD B x0 zeroM).at_, .int .i64 (List.getD B x0 zeroM).ki, .int .i64 (List.getD B x0 zeroM).sh, .int .i64 (List.getD B x0 zeroM).ce, .int .i64 (List.getD B x0 zeroM).va]) (.go 0 (.fork (.auto) (.go 1 (.slot 16 (.int .i64 (((x0 : Nat) : Int) + 1)) (.go 0 (.again [])))))))))))) (.auto)))))))
 (fun v _ _ => v = sp) = Requal sp A B := by kernel_rfl
def Ragrees (L M : List Msg) : Prop :=
 (((some (.cells true 0 [.map (some 1)] : KObj) = some (.cells true 0 [.map (some 1)] : KObj)) /\ (some (.map (heldE L) : KObj) = some (.map (heldE L) : KObj)) /\ True) /\ (∀ H' : Heap, H'.length = 4 -> (H'[0]? = some (.cells true 0 [.map (some 1)] : KObj) /\ H'[1]? = some (.map (heldE L) : KObj) /\ True) -> KCall prog 32 [.pointer (some ⟨0, 0, none⟩)] H' [] (Is (.tuple #[.slice (some ⟨4, 0, some 1⟩) (List.length (srtM L)) (List.length (srtM L)), .int .i64 0]) (H' ++ [(.cells true 7 (List.flatMap msgC (srtM L)) : KObj)]))) /\ (((some (.cells true 0 [.map (some 3)] : KObj) = some (.cells true 0 [.map (some 3)] : KObj)) /\ (some (.map (heldE M) : KObj) = some (.map (heldE M) : KObj)) /\ True) /\ (∀ H' : Heap, H'.length = 5 -> (H'[2]? = some (.cells true 0 [.map (some 3)] : KObj) /\ H'[3]? = some (.map (heldE M) : KObj) /\ True) -> KCall prog 32 [.pointer (some ⟨2, 0, none⟩)] H' [] (Is (.tuple #[.slice (some ⟨5, 0, some 1⟩) (List.length (srtM M)) (List.length (srtM M)), .int .i64 0]) (H' ++ [(.cells true 7 (List.flatMap msgC (srtM M)) : KObj)]))) /\ (((some (.cells true 0 [.map (some 1)] : KObj) = some (.cells true 0 [.map (some 1)] : KObj)) /\ (some (.map (heldE L) : KObj) = some (.map (heldE L) : KObj)) /\ True) /\ (∀ H' : Heap, H'.length = 6 -> (H'[0]? = some (.cells true 0 [.map (some 1)] : KObj) /\ H'[1]? = some (.map (heldE L) : KObj) /\ True) -> KCall prog 34 [.pointer (some ⟨0, 0, none⟩)] H' [] (Is (.tuple #[.slice (some ⟨6, 0, some 2⟩) (List.length (liveL L)) (List.length (liveL L)), .int .i64 0]) (H' ++ [(.cells true 7 (List.flatMap msgC (liveL L)) : KObj)]))) /\ (((some (.cells true 0 [.map (some 3)] : KObj) = some (.cells true 0 [.map (some 3)] : KObj)) /\ (some (.map (heldE M) : KObj) = some (.map (heldE M) : KObj)) /\ True) /\ (∀ H' : Heap, H'.length = 7 -> (H'[2]? = some (.cells true 0 [.map (some 3)] : KObj) /\ H'[3]? = some (.map (heldE M) : KObj) /\ True) -> KCall prog 34 [.pointer (some ⟨2, 0, none⟩)] H' [] (Is (.tuple #[.slice (some ⟨7, 0, some 2⟩) (List.length (liveL M)) (List.length (liveL M)), .int .i64 0]) (H' ++ [(.cells true 7 (List.flatMap msgC (liveL M)) : KObj)]))) /\ (((some (.cells true 7 (List.flatMap msgC (srtM L)) : KObj) = some (.cells true 7 (List.flatMap msgC (srtM L)) : KObj)) /\ (some (.cells true 7 (List.flatMap msgC (srtM M)) : KObj) = some (.cells true 7 (List.flatMap msgC (srtM M)) : KObj)) /\ True) /\ (∀ H' : Heap, H'.length = 8 -> (H'[4]? = some (.cells true 7 (List.flatMap msgC (srtM L)) : KObj) /\ H'[5]? = some (.cells true 7 (List.flatMap msgC (srtM M)) : KObj) /\ True) -> KCall prog 90 [.slice (some ⟨4, 0, some 1⟩) (List.length (srtM L)) (List.length (srtM L)), .slice (some ⟨5, 0, some 1⟩) (List.length (srtM M)) (List.length (srtM M))] H' [] (Is (.bool (eqL (srtM L) (srtM M))) H')) /\ (((eqL (srtM L) (srtM M)) = true -> (((some (.cells true 7 (List.flatMap msgC (liveL L)) : KObj) = some (.cells true 7 (List.flatMap msgC (liveL L)) : KObj)) /\ (some (.cells true 7 (List.flatMap msgC (liveL M)) : KObj) = some (.cells true 7 (List.flatMap msgC (liveL M)) : KObj)) /\ True) /\ (∀ H' : Heap, H'.length = 8 -> (H'[6]? = some (.cells true 7 (List.flatMap msgC (liveL L)) : KObj) /\ H'[7]? = some (.cells true 7 (List.flatMap msgC (liveL M)) : KObj) /\ True) -> KCall prog 90 [.slice (some ⟨6, 0, some 2⟩) (List.length (liveL L)) (List.length (liveL L)), .slice (some ⟨7, 0, some 2⟩) (List.length (liveL M)) (List.length (liveL M))] H' [] (Is (.bool (eqL (liveL L) (liveL M))) H')) /\ (true = true /\ wk (.bool (eqL (liveL L) (liveL M)) : Value) (rn (sg 4 []) 3 (.bool (agreeB L M) : Value)) /\ (True)))) /\ ((eqL (srtM L) (srtM M)) = false -> (true = true /\ wk (.bool false : Value) (rn (sg 4 []) 3 (.bool (agreeB L M) : Value)) /\ (True)))))))))
theorem Eagrees (L M : List Msg) : vF prog msk (dm 0) 100000 true 40 true 28 [.pointer (some ⟨0, 0, none⟩), .pointer (some ⟨2, 0, none⟩)] (readsK [.cells true 0 [.map (some 1)], .map (heldE L), .cells true 0 [.map (some 3)], .map (heldE M)]) (some [])
 (.go 1 (.ans [(0, .cells true 0 [.map (some 1)]), (1, .map (heldE L))] (.tuple #[.slice (some ⟨4, 0, some 1⟩) (List.length (srtM L)) (List.length (srtM L)), .int .i64 0]) [.cells true 7 (List.flatMap msgC (srtM L))] (.go 5 (.ans [(2, .cells true 0 [.map (some 3)]), (3, .map (heldE M))] (.tuple #[.slice (some ⟨5, 0, some 1⟩) (List.length (srtM M)) (List.length (srtM M)), .int .i64 0]) [.cells true 7 (List.flatMap msgC (srtM M))] (.go 5 (.ans [(0, .cells true 0 [.map (some 1)]), (1, .map (heldE L))] (.tuple #[.slice (some ⟨6, 0, some 2⟩) (List.length (liveL L)) (List.length (liveL L)), .int .i64 0]) [.cells true 7 (List.flatMap msgC (liveL L))] (.go 5 (.ans [(2, .cells true 0 [.map (some 3)]), (3, .map (heldE M))] (.tuple #[.slice (some ⟨7, 0, some 2⟩) (List.length (liveL M)) (List.length (liveL M)), .int .i64 0]) [.cells true 7 (List.flatMap msgC (liveL M))] (.go 21 (.ans [(4, .cells true 7 (List.flatMap msgC (srtM L))), (5, .cells true 7 (List.flatMap msgC (srtM M)))] (.bool (eqL (srtM L) (srtM M))) [] (.go 1 (.gfork (.go 1 (.ans [(6, .cells true 7 (List.flatMap msgC (liveL L))), (7, .cells true 7 (List.flatMap msgC (liveL M)))] (.bool (eqL (liveL L) (liveL M))) [] (.go 1 (.again [])))) (.go 1 (.again []))))))))))))))
 (newK ((readsK [.cells true 0 [.map (some 1)], .map (heldE L), .cells true 0 [.map (some 3)], .map (heldE M)]) : HT).n 3 (.bool (agreeB L M)) []) = Ragrees L M := by kernel_rfl
def Rfilled (l : List Msg) : Prop :=
 ((True) /\ (∀ H' : Heap, H'.length = 1 -> (True) -> KCall prog 54 [] H' [] (Is (.tuple #[.pointer (some ⟨1, 0, none⟩), .int .i64 0]) (H' ++ [(.cells true 0 [.map (some 2)] : KObj), (.map (heldE []) : KObj)]))) /\ (true = true /\ (0 <= List.length l) /\ (true = true /\ ((.int .i64 0 : Value) = .int .i64 ((0 : Nat) : Int) /\ wk (.slice (some ⟨0, 0, some 2⟩) (List.length l) (List.length l) : Value) (.slice (some ⟨0, 0, some 2⟩) (List.length l) (List.length l) : Value) /\ (.pointer (some ⟨1, 0, none⟩) : Value) = .pointer (some ⟨1, 0, none⟩) /\ True) /\ ((some (.map (heldE []) : KObj) = some (.map (heldE (addAll (List.take 0 l))) : KObj) /\ belowO 3 (.map (heldE (addAll (List.take 0 l))) : KObj) = true) /\ True) /\ (True) /\ (True)) /\ (∀ x1 : Nat, true = true) /\ ∀ x1 : Nat, (x1 <= List.length l) -> (((decide ((((x1 : Nat) : Int) : Int) < (((List.length l) : Nat) : Int))) = true -> (((0 : Int) <= ((x1 : Nat) : Int) /\ (((x1 : Nat) : Int) : Int) < (((List.length l) : Nat) : Int)) /\ ((partA 7 (List.flatMap msgC l) (0 + Int.toNat ((x1 : Nat) : Int) * 7) = some (.agg #[.int .i64 (List.getD l x1 zeroM).au, .int .i64 (List.getD l x1 zeroM).nu, .int .i64 (List.getD l x1 zeroM).at_, .int .i64 (List.getD l x1 zeroM).ki, .int .i64 (List.getD l x1 zeroM).sh, .int .i64 (List.getD l x1 zeroM).ce, .int .i64 (List.getD l x1 zeroM).va])) /\ (((some (.cells true 0 [.map (some 2)] : KObj) = some (.cells true 0 [.map (some 2)] : KObj)) /\ (some (.map (heldE (addAll (List.take x1 l))) : KObj) = some (.map (heldE (addAll (List.take x1 l))) : KObj)) /\ True) /\ (∀ H' : Heap, H'.length = 3 -> (H'[1]? = some (.cells true 0 [.map (some 2)] : KObj) /\ H'[2]? = some (.map (heldE (addAll (List.take x1 l))) : KObj) /\ True) -> KCall prog 31 [.pointer (some ⟨1, 0, none⟩), .agg #[.int .i64 (List.getD l x1 zeroM).au, .int .i64 (List.getD l x1 zeroM).nu, .int .i64 (List.getD l x1 zeroM).at_, .int .i64 (List.getD l x1 zeroM).ki, .int .i64 (List.getD l x1 zeroM).sh, .int .i64 (List.getD l x1 zeroM).ce, .int .i64 (List.getD l x1 zeroM).va]] H' [2] (Is (.tuple #[.bool (addB (addAll (List.take x1 l)) (List.getD l x1 zeroM)), .int .i64 (addErr (addAll (List.take x1 l)) (List.getD l x1 zeroM))]) (List.set H' 2 (.map (heldE (addL (addAll (List.take x1 l)) (List.getD l x1 zeroM))) : KObj)))) /\ (∃ y3 : Int, (.int .i64 (addErr (addAll (List.take x1 l)) (List.getD l x1 zeroM)) : Value) = .int .i64 y3 /\ ((((y3 : Int) != 0) = true -> (true = true /\ wk (.tuple #[.pointer none, .bool false] : Value) (rn (sg 1 []) 3 (.tuple #[.pointer (some ⟨1, 0, none⟩), .bool true] : Value)) /\ (True /\ True /\ True))) /\ (((y3 : Int) != 0) = false -> ((.int .i64 (IntKind.wrap .i64 (((x1 : Nat) : Int) + 1)) : Value) = .int .i64 (((x1 : Nat) : Int) + 1) /\ (∃ x1' : Nat, (x1' <= List.length l) /\ (List.length l - x1') < (List.length l - x1) /\ true = true /\ ((.int .i64 (((x1 : Nat) : Int) + 1) : Value) = .int .i64 ((x1' : Nat) : Int) /\ wk (.slice (some ⟨0, 0, some 2⟩) (List.length l) (List.length l) : Value) (.slice (some ⟨0, 0, some 2⟩) (List.length l) (List.length l) : Value) /\ (.pointer (some ⟨1, 0, none⟩) : Value) = .pointer (some ⟨1, 0, none⟩) /\ True) /\ ((some (.map (heldE (addL (addAll (List.take x1 l)) (List.getD l x1 zeroM))) : KObj) = some (.map (heldE (addAll (List.take x1' l))) : KObj) /\ belowO 3 (.map (heldE (addAll (List.take x1' l))) : KObj) = true) /\ True) /\ (True) /\ (True)))))))))) /\ ((decide ((((x1 : Nat) : Int) : Int) < (((List.length l) : Nat) : Int))) = false -> (true = true /\ wk (.tuple #[.pointer (some ⟨1, 0, none⟩), .bool true] : Value) (rn (sg 1 [(1, 1), (2, 2)]) 3 (.tuple #[.pointer (some ⟨1, 0, none⟩), .bool true] : Value)) /\ (wkO (.cells true 0 [.map (some 2)] : KObj) (rno (sg 1 [(1, 1), (2, 2)]) 3 (.cells true 0 [.map (some 2)] : KObj)) /\ (some (.map (heldE (addAll (List.take x1 l))) : KObj) = some (.map (heldE (addAll l)) : KObj) /\ belowO 1 (.map (heldE (addAll l)) : KObj) = true) /\ True))))))
theorem Efilled (l : List Msg) : vF prog msk (dm 0) 100000 true 40 true 26 [.slice (some ⟨0, 0, some 2⟩) (List.length l) (List.length l)] (readsT 0 [l.flatMap msgC]) (some [])
 (.go 1 (.ans [] (.tuple #[.pointer (some ⟨1, 0, none⟩), .int .i64 0]) [.cells true 0 [.map (some 2)], .map (heldE [])] (.go 12 (.inv 3 (Nat) (0) [] [2] (fun x1 => [(6, .int .i64 ((x1 : Nat) : Int)), (0, .slice (some ⟨0, 0, some 2⟩) (List.length l) (List.length l)), (4, .pointer (some ⟨1, 0, none⟩))]) (fun x1 => [(2, true, .map (heldE (addAll (List.take x1 l))))]) (fun x1 => []) (fun x1 => []) (fun x1 => (x1 <= List.length l)) (fun x1 => (List.length l - x1)) (fun x1 => .go 3 (.fork (.go 2 (.need (.val (.agg #[.int .i64 (List.getD l x1 zeroM).au, .int .i64 (List.getD l x1 zeroM).nu, .int .i64 (List.getD l x1 zeroM).at_, .int .i64 (List.getD l x1 zeroM).ki, .int .i64 (List.getD l x1 zeroM).sh, .int .i64 (List.getD l x1 zeroM).ce, .int .i64 (List.getD l x1 zeroM).va]) (.answ [(1, .cells true 0 [.map (some 2)]), (2, .map (heldE (addAll (List.take x1 l))))] (.tuple #[.bool (addB (addAll (List.take x1 l)) (List.getD l x1 zeroM)), .int .i64 (addErr (addAll (List.take x1 l)) (List.getD l x1 zeroM))]) [(2, .map (heldE (addL (addAll (List.take x1 l)) (List.getD l x1 zeroM))))] [] (.go 2 (.bind Int (fun y3 => .slot 33 (.int .i64 y3) (.go 3 (.fork (.go 1 (.again [])) (.go 1 (.slot 24 (.int .i64 (((x1 : Nat) : Int) + 1)) (.go 0 (.again []))))))))))))) (.go 2 (.again [(1, 1), (2, 2)]))))))))
 (newK ((readsT 0 [l.flatMap msgC]) : HT).n 3 (.tuple #[.pointer (some ⟨1, 0, none⟩), .bool true]) [(false, .cells true 0 [.map (some 2)]), (true, .map (heldE (addAll l)))]) = Rfilled l := by kernel_rfl
end
end Go.Proofs.YtbgfjemppjhmjaaGreat
/- Radio: pictures that are filled, and compared. No condition. -/
namespace Go.Proofs.YtbgfjemppjhmjaaGreat
open Go Go.K
set_option maxRecDepth 100000
set_option linter.unusedVariables false
set_option linter.unusedSimpArgs false
noncomputable section
attribute [local irreducible] vF
theorem msgE (a b : Msg) : ((a.au == b.au) && ((a.nu == b.nu) && ((a.at_ == b.at_) && ((a.ki == b.ki) && ((a.sh == b.sh) && ((a.ce == b.ce) && ((a.va == b.va) && true))))))) = decide (a = b) := by
 rw [Bool.eq_iff_iff]
 obtain ⟨a1, a2, a3, a4, a5, a6, a7⟩ := a
 obtain ⟨b1, b2, b3, b4, b5, b6, b7⟩ := b
 simp
theorem take_1 {A B : List Msg} {x : Nat} (ha : x < A.length) (hb : x < B.length) (h : A.take x = B.take x) (e : A.getD x zeroM = B.getD x zeroM) : A.take (x + 1) = B.take (x + 1) := by
 rw [List.take_succ_eq_append_getElem ha, List.take_succ_eq_append_getElem hb, h]
 have e1 : A.getD x zeroM = A[x] := by simp [List.getD_eq_getElem?_getD, ha]
 have e2 : B.getD x zeroM = B[x] := by simp [List.getD_eq_getElem?_getD, hb]
 rw [<- e1, <- e2, e]
theorem hv7 {A B : List Msg} (ha : A.length <= 100000) : Requal (.bool (eqL A B)) A B := by
  unfold Requal
  refine ⟨fun a => ?_, fun a => ⟨rfl, ⟨Nat.zero_le _, rfl⟩, ?_, fun _ => rfl, fun x hx => ⟨fun b => ?_, fun b => ?_⟩⟩⟩
  · have h : A ≠ B := fun e => by rw [e] at a; simp at a
    rw [show eqL A B = false from decide_eq_false h]
  · repeat' first | exact trivial | exact rfl | exact wk_refl _ | refine wkO_cells ?_ | refine wks_cons ?_ ?_ | exact wks_nil | exact wk_nil _ _ _ (.inl rfl) | (exact wk_Q (by omega)) | refine wk_tupL ?_ | refine wk_aggL ?_ | refine joinMax ?_ ?_ ?_ | refine joinMin ?_ ?_ ?_ | refine toMax ?_ | refine toMin ?_ | refine ⟨rfl, ?_⟩ | refine ⟨trivial, ?_⟩ | (refine forkD (fun h => ?_) (fun h => ?_)) | (refine forkNe (fun h => ?_) (fun h => ?_)) | (refine forkEq (fun h => ?_) (fun h => ?_)) | refine forkNot ?_ | (refine ⟨vI64 (by omega), ?_⟩) | (refine And.intro (by omega) ?_) | apply And.intro | (exact iEq (by omega)) | (exact vI64 (by omega))
  · have hl : A.length = B.length := by have : ((A.length : Nat) : Int) = B.length := by simpa using a
                                        omega
    have h1 : x < A.length := by have := of_decide_eq_true b; omega
    refine ⟨⟨by omega, by omega⟩, partM h1 (by omega), ⟨by omega, by omega⟩, partM (by omega) (by omega), ?_⟩
    rw [msgE]
    refine ⟨fun c => ?_, fun c => ⟨vI64 (by omega), x + 1, ⟨by omega, take_1 h1 (by omega) hx.2 (of_decide_eq_true (notB2 c))⟩, by omega, rfl, ?_⟩⟩
    · have h : A ≠ B := fun e => of_decide_eq_false (notB c) (by rw [e])
      rw [show eqL A B = false from decide_eq_false h]
    · repeat' first | exact trivial | exact rfl | exact wk_refl _ | refine wkO_cells ?_ | refine wks_cons ?_ ?_ | exact wks_nil | exact wk_nil _ _ _ (.inl rfl) | (exact wk_Q (by omega)) | refine wk_tupL ?_ | refine wk_aggL ?_ | refine joinMax ?_ ?_ ?_ | refine joinMin ?_ ?_ ?_ | refine toMax ?_ | refine toMin ?_ | refine ⟨rfl, ?_⟩ | refine ⟨trivial, ?_⟩ | (refine forkD (fun h => ?_) (fun h => ?_)) | (refine forkNe (fun h => ?_) (fun h => ?_)) | (refine forkEq (fun h => ?_) (fun h => ?_)) | refine forkNot ?_ | (refine ⟨vI64 (by omega), ?_⟩) | (refine And.intro (by omega) ?_) | apply And.intro | (exact iEq (by omega)) | (exact vI64 (by omega))
  · have hl : A.length = B.length := by have : ((A.length : Nat) : Int) = B.length := by simpa using a
                                        omega
    have h1 : x = A.length := by have := of_decide_eq_false b; omega
    have h : A = B := by have := hx.2; rwa [h1, List.take_length, hl, List.take_length] at this
    rw [show eqL A B = true from decide_eq_true h]
theorem kEqual {A B : List Msg} (ha : A.length <= 100000) {H : Heap} {i j : Nat} {o z o2 z2} (hi : H[i]? = some (.cells o z (A.flatMap msgC))) (hj : H[j]? = some (.cells o2 z2 (B.flatMap msgC))) :
  KCall prog 90 [.slice (some ⟨i, 0, some 2⟩) A.length A.length, .slice (some ⟨j, 0, some 2⟩) B.length B.length] H [] (Is (.bool (eqL A B)) H) :=
 valRx (v := .bool (eqL A B)) (css := [A.flatMap msgC, B.flatMap msgC]) (ids := [i, j]) (Eq.mpr (Eequal _ A B) (hv7 ha)) ⟨plainML _ _, plainML _ _, trivial⟩ rfl ⟨⟨_, _, hi⟩, ⟨_, _, hj⟩, trivial⟩ rfl
theorem hv8 {l : List Msg} (hk : ∀ m ∈ l, okM m = true) (hl : l.length <= 1500) : Rfilled l := by
 unfold Rfilled
 refine ⟨trivial, fun H' hl' _ => ?_, rfl, Nat.zero_le _, ?_, fun _ => rfl, fun x hx => ⟨fun b => ?_, fun b => ?_⟩⟩
 ·have := kNew H'
  rw [hl'] at this; exact this
 ·repeat' first | exact held_below _ _ | exact trivial | exact rfl | exact wk_refl _ | refine wkO_cells ?_ | refine wks_cons ?_ ?_ | exact wks_nil | exact wk_nil _ _ _ (.inl rfl) | (exact wk_Q (by omega)) | refine wk_tupL ?_ | refine wk_aggL ?_ | refine joinMax ?_ ?_ ?_ | refine joinMin ?_ ?_ ?_ | refine toMax ?_ | refine toMin ?_ | refine ⟨rfl, ?_⟩ | refine ⟨trivial, ?_⟩ | (refine forkD (fun h => ?_) (fun h => ?_)) | (refine forkNe (fun h => ?_) (fun h => ?_)) | (refine forkEq (fun h => ?_) (fun h => ?_)) | refine forkNot ?_ | (refine ⟨vI64 (by omega), ?_⟩) | (refine And.intro (by omega) ?_) | apply And.intro | (exact iEq (by omega)) | (exact vI64 (by omega))
 ·have h1 : x < l.length := by have := of_decide_eq_true b; omega
  have h2 := (addAll_spec (l.take x)).2.1
  rw [List.length_take] at h2
  have hm : okM (l.getD x zeroM) = true := hk _ (getD_mem h1)
  obtain ⟨e1, e2⟩ := addL_ok (L := addAll (l.take x)) hm (by omega)
  have e3 : addAll (l.take (x + 1)) = addM (addAll (l.take x)) (l.getD x zeroM) := by
   rw [List.take_succ_eq_append_getElem h1, addAll_snoc]
   rw [show l.getD x zeroM = l[x] from by simp [List.getD_eq_getElem?_getD, h1]]
  refine ⟨⟨by omega, by omega⟩, partM h1 (by omega), ⟨rfl, rfl, trivial⟩, fun H' _ h => kAdd _ _ h.1 h.2.1, ?_⟩
  rw [e1, e2]
  refine ⟨0, rfl, fun c => (by cases c), fun _ => ⟨vI64 (by omega), x + 1, by omega, by omega, rfl, ?_⟩⟩
  rw [e3]
  repeat' first | exact held_below _ _ | exact trivial | exact rfl | exact wk_refl _ | refine wkO_cells ?_ | refine wks_cons ?_ ?_ | exact wks_nil | exact wk_nil _ _ _ (.inl rfl) | (exact wk_Q (by omega)) | refine wk_tupL ?_ | refine wk_aggL ?_ | refine joinMax ?_ ?_ ?_ | refine joinMin ?_ ?_ ?_ | refine toMax ?_ | refine toMin ?_ | refine ⟨rfl, ?_⟩ | refine ⟨trivial, ?_⟩ | (refine forkD (fun h => ?_) (fun h => ?_)) | (refine forkNe (fun h => ?_) (fun h => ?_)) | (refine forkEq (fun h => ?_) (fun h => ?_)) | refine forkNot ?_ | (refine ⟨vI64 (by omega), ?_⟩) | (refine And.intro (by omega) ?_) | apply And.intro | (exact iEq (by omega)) | (exact vI64 (by omega))
 ·have h1 : x = l.length := by have := of_decide_eq_false b; omega
  have e : l.take x = l := by rw [h1, List.take_length]
  rw [e]
  exact ⟨rfl, wk_of_eq rfl, wkO_of_eq rfl, ⟨rfl, held_below _ _⟩, trivial⟩
theorem hv9 {L M : List Msg} (hL : ∀ m ∈ L, okM m = true) (hM : ∀ m ∈ M, okM m = true) (h1 : L.length <= 2000) (h2 : M.length <= 2000) : Ragrees L M := by
 have l1 : (liveL L).length <= L.length := by rw [<- srtM_len L]; exact List.length_filter_le ..
 have s1 := srtM_len L
 unfold Ragrees
 refine ⟨⟨rfl, rfl, trivial⟩, fun H' hl h => ?_, ⟨rfl, rfl, trivial⟩, fun H' hl h => ?_, ⟨rfl, rfl, trivial⟩, fun H' hl h => ?_, ⟨rfl, rfl, trivial⟩, fun H' hl h => ?_, ⟨rfl, rfl, trivial⟩, fun H' hl h => ?_, fun a => ⟨⟨rfl, rfl, trivial⟩, fun H' hl h => ?_, rfl, ?_, trivial⟩, fun a => ⟨rfl, ?_, trivial⟩⟩
 ·have := kMsgs hL h1 (H := H') (by decide) h.1 h.2.1
  rw [hl] at this; exact this
 ·have := kMsgs hM h2 (H := H') (by decide) h.1 h.2.1
  rw [hl] at this; exact this
 ·have := kLive hL h1 (H := H') (by decide) h.1 h.2.1
  rw [hl] at this; exact this
 ·have := kLive hM h2 (H := H') (by decide) h.1 h.2.1
  rw [hl] at this; exact this
 ·exact KCall.wkA (kEqual (by omega) h.1 h.2.1) (wks_cons wk_QR (wks_cons wk_QR wks_nil))
 ·exact kEqual (by omega) h.1 h.2.1
 ·unfold agreeB; rw [a]; exact wk_refl _
 ·unfold agreeB; rw [a]; exact wk_refl _
theorem kAgrees {L M : List Msg} (hL : ∀ m ∈ L, okM m = true) (hM : ∀ m ∈ M, okM m = true) (h1 : L.length <= 2000) (h2 : M.length <= 2000) {H : Heap} {i q j r : Nat} (hnd : [i, q, j, r].Nodup) (hi : H[i]? = some (.cells true 0 [.map (some q)])) (hq : H[q]? = some (.map (heldE L))) (hj : H[j]? = some (.cells true 0 [.map (some r)])) (hr : H[r]? = some (.map (heldE M))) :
  KCall prog 28 [.pointer (some ⟨i, 0, none⟩), .pointer (some ⟨j, 0, none⟩)] H [] (Is (.bool (agreeB L M)) H) := by
 have key := valKs (fun _ => .bool (agreeB L M)) (os := [.cells true 0 [.map (some 1)], .map (heldE L), .cells true 0 [.map (some 3)], .map (heldE M)]) (new := []) (Eq.mpr (Eagrees L M) (hv9 hL hM h1 h2)) (pic_ok2 L M 1 3) rfl trivial (ids := [i, q, j, r]) hnd
  (pic_objs2 hi hq hj hr) (fun j => rfl) (args' := [.pointer (some ⟨i, 0, none⟩), .pointer (some ⟨j, 0, none⟩)]) rfl
 rwa [List.append_nil] at key
theorem kFilled {l : List Msg} (hk : ∀ m ∈ l, okM m = true) (hl : l.length <= 1500) {H : Heap} {i : Nat} {o z} (hi : H[i]? = some (.cells o z (l.flatMap msgC))) :
  KCall prog 26 [.slice (some ⟨i, 0, some 2⟩) l.length l.length] H [] (Is (.tuple #[.pointer (some ⟨H.length, 0, none⟩), .bool true]) (H ++ [.cells true 0 [.map (some (H.length + 1))], .map (heldE (addAll l))])) := by
 have key := valN (css := [l.flatMap msgC]) (v := .tuple #[.pointer (some ⟨1, 0, none⟩), .bool true]) (new := [(false, .cells true 0 [.map (some 2)]), (true, .map (heldE (addAll l)))]) (Eq.mpr (Efilled l) (hv8 hk hl)) (one_cs (plainML _ _)) rfl rfl
  (by show ((rnoOk 3 (.cells true 0 [.map (some 2)]) && true) && ((rnoOk 3 (.map (heldE (addAll l))) && true) && true)) = true; rw [held_ok]; rfl)
  (by show [rno _ 3 (.cells true 0 [.map (some 2)]), rno _ 3 (.map (heldE (addAll l)))] = _; rw [held_rno]; rfl) (H := H) [i] rfl (one_id hi)
 have e : (List.map (rno (sgUp (0 + [l.flatMap msgC].length) H.length) 3) ([(false, KObj.cells true 0 [.map (some 2)]), (true, KObj.map (heldE (addAll l)))].map (·.2))) = [.cells true 0 [.map (some (H.length + 1))], .map (heldE (addAll l))] := by
  show [rno _ 3 (.cells true 0 [.map (some 2)]), rno _ 3 (.map (heldE (addAll l)))] = _
  rw [held_rno]; rfl
 rw [e] at key
 exact key
end
end Go.Proofs.YtbgfjemppjhmjaaGreat
/- Radio: gaps, as plain functions. No condition. -/
namespace Go.Proofs.YtbgfjemppjhmjaaGreat
set_option linter.unusedSimpArgs false
open Go Go.K
set_option linter.unusedVariables false
def zeroSp : Int × Int := (0, 0)
abbrev spC (x : Int × Int) : List Value := [.int .i64 x.1, .int .i64 x.2]
def gStep (a : Int) (st : Int × Int × List (Int × Int)) (m : Msg) : Int × Int × List (Int × Int) :=
 if m.au = a /\ m.nu ≠ st.1 then (m.nu, m.nu + 1, if st.2.1 < m.nu then st.2.2 ++ [(st.2.1, m.nu - 1)] else st.2.2) else st
def gapS (M : List Msg) (a : Int) (x : Nat) : Int × Int × List (Int × Int) := (M.take x).foldl (gStep a) (0, 1, [])
def gapsL (L : List Msg) (a : Int) : List (Int × Int) := (gapS (srtM L) a (srtM L).length).2.2
theorem gapS_succ {M : List Msg} {x : Nat} (hx : x < M.length) (a : Int) : gapS M a (x + 1) = gStep a (gapS M a x) (M.getD x zeroM) := by
 unfold gapS
 rw [List.take_succ_eq_append_getElem hx, List.foldl_append]
 rw [show M.getD x zeroM = M[x] from by simp [List.getD_eq_getElem?_getD, hx]]; rfl
theorem gapS_len (M : List Msg) (a : Int) : ∀ x, (gapS M a x).2.2.length <= x := by
 intro x
 induction x with
 | zero => exact Nat.le_refl _
 | succ x ih =>
  rcases Nat.lt_or_ge x M.length with h | h
  ·rw [gapS_succ h]
   unfold gStep
   split
   ·show (if (gapS M a x).2.1 < (M.getD x zeroM).nu then (gapS M a x).2.2 ++ [((gapS M a x).2.1, (M.getD x zeroM).nu - 1)] else (gapS M a x).2.2).length <= x + 1
    split
    ·rw [List.length_append]; simp only [List.length_cons, List.length_nil]; omega
    ·omega
   ·omega
  ·have : gapS M a (x + 1) = gapS M a x := by unfold gapS; rw [List.take_of_length_le (by omega), List.take_of_length_le h]
   rw [this]; omega
theorem gStep_0 {a : Int} {st : Int × Int × List (Int × Int)} {m : Msg} (h : m.au ≠ a ∨ m.nu = st.1) : gStep a st m = st := if_neg fun q => h.elim (fun e => e q.1) (fun e => q.2 e)
theorem gStep_1 {a : Int} {st : Int × Int × List (Int × Int)} {m : Msg} (h1 : m.au = a) (h2 : m.nu ≠ st.1) (h3 : st.2.1 < m.nu) : gStep a st m = (m.nu, m.nu + 1, st.2.2 ++ [(st.2.1, m.nu - 1)]) := by
 unfold gStep; rw [if_pos ⟨h1, h2⟩, if_pos h3]
theorem gStep_2 {a : Int} {st : Int × Int × List (Int × Int)} {m : Msg} (h1 : m.au = a) (h2 : m.nu ≠ st.1) (h3 : ¬ st.2.1 < m.nu) : gStep a st m = (m.nu, m.nu + 1, st.2.2) := by
 unfold gStep; rw [if_pos ⟨h1, h2⟩, if_neg h3]
end Go.Proofs.YtbgfjemppjhmjaaGreat
/- What is to be shown of functions. Printed by a program. No condition. -/
namespace Go.Proofs.YtbgfjemppjhmjaaGreat
set_option linter.unusedSimpArgs false
open Go Go.K
set_option maxRecDepth 100000
set_option maxHeartbeats 4000000
set_option linter.unusedVariables false
noncomputable section
def Rgaps (L : List Msg) (a : Int) : Prop :=
 (((decide ((1 : Int) <= a)) = true -> (((!(decide ((a : Int) <= 4))) = true -> (true = true /\ wk (.tuple #[.slice none 0 0, .int .i64 6] : Value) (rn (sg 2 []) 3 (.tuple #[.slice (some ⟨2, 0, some 1⟩) (List.length (gapsL L a)) (List.length (gapsL L a)), .int .i64 0] : Value)) /\ (True /\ True))) /\ ((!(decide ((a : Int) <= 4))) = false -> (((some (.cells true 0 [.map (some 1)] : KObj) = some (.cells true 0 [.map (some 1)] : KObj)) /\ (some (.map (heldE L) : KObj) = some (.map (heldE L) : KObj)) /\ True) /\ (∀ H' : Heap, H'.length = 7 -> (H'[0]? = some (.cells true 0 [.map (some 1)] : KObj) /\ H'[1]? = some (.map (heldE L) : KObj) /\ True) -> KCall prog 95 [.pointer (some ⟨0, 0, none⟩)] H' [] (Is (.slice (some ⟨7, 0, some 1⟩) (List.length (srtM L)) (List.length (srtM L))) (H' ++ [(.cells true 7 (List.flatMap msgC (srtM L)) : KObj)]))) /\ (true = true /\ (0 <= List.length (srtM L)) /\ (true = true /\ ((.int .i64 0 : Value) = .int .i64 ((0 : Nat) : Int) /\ (.int .i64 0 : Value) = .int .i64 (gapS (srtM L) a 0).1 /\ (.pointer (some ⟨5, 0, none⟩) : Value) = .pointer (some ⟨5, 0, none⟩) /\ (.func (.yield 6) #[] #[] : Value) = .func (.yield 6) #[] #[] /\ wk (.slice (some ⟨7, 0, some 1⟩) (List.length (srtM L)) (List.length (srtM L)) : Value) (.slice (some ⟨7, 0, some 1⟩) (List.length (srtM L)) (List.length (srtM L)) : Value) /\ (.int .i64 (((List.length (srtM L)) : Nat) : Int) : Value) = .int .i64 (((List.length (srtM L)) : Nat) : Int) /\ True) /\ (wkO (.cells true 0 [.slice none 0 0] : KObj) (rno (sg 8 []) 3 (.cells true 0 [.slice (some ⟨8, 0, some 1⟩) (List.length (gapS (srtM L) a 0).2.2) (List.length (gapS (srtM L) a 0).2.2)] : KObj)) /\ (some (.cells true 0 [.int .i64 1] : KObj) = some (.cells true 0 [.int .i64 (gapS (srtM L) a 0).2.1] : KObj) /\ belowO 8 (.cells true 0 [.int .i64 (gapS (srtM L) a 0).2.1] : KObj) = true) /\ True) /\ (True /\ True) /\ ((lrecOk prog 33 0 /\ (.func (.func 161) #[] #[.pointer (some ⟨4, 0, none⟩), .pointer (some ⟨5, 0, none⟩)] : Value) = .func (.func 161) #[] #[.pointer (some ⟨4, 0, none⟩), .pointer (some ⟨5, 0, none⟩)] /\ (.int .i64 a : Value) = .int .i64 a /\ (.pointer (some ⟨0, 0, none⟩) : Value) = .pointer (some ⟨0, 0, none⟩) /\ (.pointer (some ⟨3, 0, none⟩) : Value) = .pointer (some ⟨3, 0, none⟩) /\ (.pointer (some ⟨2, 0, none⟩) : Value) = .pointer (some ⟨2, 0, none⟩) /\ (.bool false : Value) = .bool false /\ (.bool (decide ((a : Int) <= 4)) : Value) = .bool (decide ((a : Int) <= 4)) /\ (.int .i64 a : Value) = .int .i64 a /\ (.bool false : Value) = .bool false /\ (.pointer (some ⟨0, 0, none⟩) : Value) = .pointer (some ⟨0, 0, none⟩) /\ (.int .i64 0 : Value) = .int .i64 0 /\ (.slice none 0 0 : Value) = .slice none 0 0 /\ (.pointer (some ⟨0, 0, none⟩) : Value) = .pointer (some ⟨0, 0, none⟩) /\ (.int .i64 a : Value) = .int .i64 a /\ True) /\ True)) /\ (∀ x1 : Nat, true = true) /\ ∀ x1 : Nat, (x1 <= List.length (srtM L)) -> (((decide ((((x1 : Nat) : Int) : Int) < (((List.length (srtM L)) : Nat) : Int))) = true -> (((0 : Int) <= ((x1 : Nat) : Int) /\ (((x1 : Nat) : Int) : Int) < (((List.length (srtM L)) : Nat) : Int)) /\ ((partA 7 (List.flatMap msgC (srtM L)) (0 + Int.toNat ((x1 : Nat) : Int) * 7) = some (.agg #[.int .i64 (List.getD (srtM L) x1 zeroM).au, .int .i64 (List.getD (srtM L) x1 zeroM).nu, .int .i64 (List.getD (srtM L) x1 zeroM).at_, .int .i64 (List.getD (srtM L) x1 zeroM).ki, .int .i64 (List.getD (srtM L) x1 zeroM).sh, .int .i64 (List.getD (srtM L) x1 zeroM).ce, .int .i64 (List.getD (srtM L) x1 zeroM).va])) /\ (((((List.getD (srtM L) x1 zeroM).au : Int) != a) = true -> ((.int .i64 (IntKind.wrap .i64 (((x1 : Nat) : Int) + 1)) : Value) = .int .i64 (((x1 : Nat) : Int) + 1) /\ (∃ x1' : Nat, (x1' <= List.length (srtM L)) /\ (List.length (srtM L) - x1') < (List.length (srtM L) - x1) /\ true = true /\ ((.int .i64 (((x1 : Nat) : Int) + 1) : Value) = .int .i64 ((x1' : Nat) : Int) /\ (.int .i64 (gapS (srtM L) a x1).1 : Value) = .int .i64 (gapS (srtM L) a x1').1 /\ (.pointer (some ⟨5, 0, none⟩) : Value) = .pointer (some ⟨5, 0, none⟩) /\ (.func (.yield 6) #[] #[] : Value) = .func (.yield 6) #[] #[] /\ wk (.slice (some ⟨7, 0, some 1⟩) (List.length (srtM L)) (List.length (srtM L)) : Value) (.slice (some ⟨7, 0, some 1⟩) (List.length (srtM L)) (List.length (srtM L)) : Value) /\ (.int .i64 (((List.length (srtM L)) : Nat) : Int) : Value) = .int .i64 (((List.length (srtM L)) : Nat) : Int) /\ True) /\ (wkO (.cells true 0 [.slice (some ⟨8, 0, some 1⟩) (List.length (gapS (srtM L) a x1).2.2) (List.length (gapS (srtM L) a x1).2.2)] : KObj) (rno (sg 8 [(8, 8)]) 3 (.cells true 0 [.slice (some ⟨8, 0, some 1⟩) (List.length (gapS (srtM L) a x1').2.2) (List.length (gapS (srtM L) a x1').2.2)] : KObj)) /\ (some (.cells true 0 [.int .i64 (gapS (srtM L) a x1).2.1] : KObj) = some (.cells true 0 [.int .i64 (gapS (srtM L) a x1').2.1] : KObj) /\ belowO 8 (.cells true 0 [.int .i64 (gapS (srtM L) a x1').2.1] : KObj) = true) /\ True) /\ ((some (.cells true 2 (List.flatMap spC (gapS (srtM L) a x1).2.2) : KObj) = some (.cells true 2 (List.flatMap spC (gapS (srtM L) a x1').2.2) : KObj) /\ belowO 8 (.cells true 2 (List.flatMap spC (gapS (srtM L) a x1').2.2) : KObj) = true) /\ True) /\ ((lrecOk prog 33 0 /\ (.func (.func 161) #[] #[.pointer (some ⟨4, 0, none⟩), .pointer (some ⟨5, 0, none⟩)] : Value) = .func (.func 161) #[] #[.pointer (some ⟨4, 0, none⟩), .pointer (some ⟨5, 0, none⟩)] /\ (.int .i64 a : Value) = .int .i64 a /\ (.pointer (some ⟨0, 0, none⟩) : Value) = .pointer (some ⟨0, 0, none⟩) /\ (.pointer (some ⟨3, 0, none⟩) : Value) = .pointer (some ⟨3, 0, none⟩) /\ (.pointer (some ⟨2, 0, none⟩) : Value) = .pointer (some ⟨2, 0, none⟩) /\ (.bool false : Value) = .bool false /\ (.bool (decide ((a : Int) <= 4)) : Value) = .bool (decide ((a : Int) <= 4)) /\ (.int .i64 a : Value) = .int .i64 a /\ (.bool false : Value) = .bool false /\ (.pointer (some ⟨0, 0, none⟩) : Value) = .pointer (some ⟨0, 0, none⟩) /\ (.int .i64 0 : Value) = .int .i64 0 /\ (.slice none 0 0 : Value) = .slice none 0 0 /\ (.pointer (some ⟨0, 0, none⟩) : Value) = .pointer (some ⟨0, 0, none⟩) /\ (.int .i64 a : Value) = .int .i64 a /\ True) /\ True)))) /\ ((((List.getD (srtM L) x1 zeroM).au : Int) != a) = false -> (((((List.getD (srtM L) x1 zeroM).nu : Int) == (gapS (srtM L) a x1).1) = true -> ((.int .i64 (IntKind.wrap .i64 (((x1 : Nat) : Int) + 1)) : Value) = .int .i64 (((x1 : Nat) : Int) + 1) /\ (∃ x1' : Nat, (x1' <= List.length (srtM L)) /\ (List.length (srtM L) - x1') < (List.length (srtM L) - x1) /\ true = true /\ ((.int .i64 (((x1 : Nat) : Int) + 1) : Value) = .int .i64 ((x1' : Nat) : Int) /\ (.int .i64 (gapS (srtM L) a x1).1 : Value) = .int .i64 (gapS (srtM L) a x1').1 /\ (.pointer (some ⟨5, 0, none⟩) : Value) = .pointer (some ⟨5, 0, none⟩) /\ (.func (.yield 6) #[] #[] : Value) = .func (.yield 6) #[] #[] /\ wk (.slice (some ⟨7, 0, some 1⟩) (List.length (srtM L)) (List.length (srtM L)) : Value) (.slice (some ⟨7, 0, some 1⟩) (List.length (srtM L)) (List.length (srtM L)) : Value) /\ (.int .i64 (((List.length (srtM L)) : Nat) : Int) : Value) = .int .i64 (((List.length (srtM L)) : Nat) : Int) /\ True) /\ (wkO (.cells true 0 [.slice (some ⟨8, 0, some 1⟩) (List.length (gapS (srtM L) a x1).2.2) (List.length (gapS (srtM L) a x1).2.2)] : KObj) (rno (sg 8 [(8, 8)]) 3 (.cells true 0 [.slice (some ⟨8, 0, some 1⟩) (List.length (gapS (srtM L) a x1').2.2) (List.length (gapS (srtM L) a x1').2.2)] : KObj)) /\ (some (.cells true 0 [.int .i64 (gapS (srtM L) a x1).2.1] : KObj) = some (.cells true 0 [.int .i64 (gapS (srtM L) a x1').2.1] : KObj) /\ belowO 8 (.cells true 0 [.int .i64 (gapS (srtM L) a x1').2.1] : KObj) = true) /\ True) /\ ((some (.cells true 2 (List.flatMap spC (gapS (srtM L) a x1).2.2) : KObj) = some (.cells true 2 (List.flatMap spC (gapS (srtM L) a x1').2.2) : KObj) /\ belowO 8 (.cells true 2 (List.flatMap spC (gapS (srtM L) a x1').2.2) : KObj) = true) /\ True) /\ ((lrecOk prog 33 0 /\ (.func (.func 161) #[] #[.pointer (some ⟨4, 0, none⟩), .pointer (some ⟨5, 0, none⟩)] : Value) = .func (.func 161) #[] #[.pointer (some ⟨4, 0, none⟩), .pointer (some ⟨5, 0, none⟩)] /\ (.int .i64 a : Value) = .int .i64 a /\ (.pointer (some ⟨0, 0, none⟩) : Value) = .pointer (some ⟨0, 0, none⟩) /\ (.pointer (some ⟨3, 0, none⟩) : Value) = .pointer (some ⟨3, 0, none⟩) /\ (.pointer (some ⟨2, 0, none⟩) : Value) = .pointer (some ⟨2, 0, none⟩) /\ (.bool false : Value) = .bool false /\ (.bool (decide ((a : Int) <= 4)) : Value) = .bool (decide ((a : Int) <= 4)) /\ (.int .i64 a : Value) = .int .i64 a /\ (.bool false : Value) = .bool false /\ (.pointer (some ⟨0, 0, none⟩) : Value) = .pointer (some ⟨0, 0, none⟩) /\ (.int .i64 0 : Value) = .int .i64 0 /\ (.slice none 0 0 : Value) = .slice none 0 0 /\ (.pointer (some ⟨0, 0, none⟩) : Value) = .pointer (some ⟨0, 0, none⟩) /\ (.int .i64 a : Value) = .int .i64 a /\ True) /\ True)))) /\ ((((List.getD (srtM L) x1 zeroM).nu : Int) == (gapS (srtM L) a x1).1) = false -> (((decide (((gapS (srtM L) a x1).2.1 : Int) < (List.getD (srtM L) x1 zeroM).nu)) = true -> ((.int .i64 (IntKind.wrap .i64 ((List.getD (srtM L) x1 zeroM).nu - 1)) : Value) = .int .i64 ((List.getD (srtM L) x1 zeroM).nu - 1) /\ ((((List.length (gapS (srtM L) a x1).2.2) + 1) * 16 <= 2 ^ 44 /\ 1 ≠ 0 /\ ((List.length (gapS (srtM L) a x1).2.2) <= (List.length (gapS (srtM L) a x1).2.2) /\ 0 + (List.length (gapS (srtM L) a x1).2.2) * 2 <= List.length (List.flatMap spC (gapS (srtM L) a x1).2.2)) /\ (1 <= 1 /\ 0 + 1 * 2 <= List.length ([.int .i64 (gapS (srtM L) a x1).2.1, .int .i64 ((List.getD (srtM L) x1 zeroM).nu - 1)] : List Value)) /\ ((List.take (1 * 2) (List.drop 0 ([.int .i64 (gapS (srtM L) a x1).2.1, .int .i64 ((List.getD (srtM L) x1 zeroM).nu - 1)] : List Value))) : List Value).all (fun v => one1 v) = true) /\ true = true /\ ((.int .i64 (IntKind.wrap .i64 ((List.getD (srtM L) x1 zeroM).nu + 1)) : Value) = .int .i64 ((List.getD (srtM L) x1 zeroM).nu + 1) /\ ((.int .i64 (IntKind.wrap .i64 (((x1 : Nat) : Int) + 1)) : Value) = .int .i64 (((x1 : Nat) : Int) + 1) /\ (∃ x1' : Nat, (x1' <= List.length (srtM L)) /\ (List.length (srtM L) - x1') < (List.length (srtM L) - x1) /\ true = true /\ ((.int .i64 (((x1 : Nat) : Int) + 1) : Value) = .int .i64 ((x1' : Nat) : Int) /\ (.int .i64 (List.getD (srtM L) x1 zeroM).nu : Value) = .int .i64 (gapS (srtM L) a x1').1 /\ (.pointer (some ⟨5, 0, none⟩) : Value) = .pointer (some ⟨5, 0, none⟩) /\ (.func (.yield 6) #[] #[] : Value) = .func (.yield 6) #[] #[] /\ wk (.slice (some ⟨7, 0, some 1⟩) (List.length (srtM L)) (List.length (srtM L)) : Value) (.slice (some ⟨7, 0, some 1⟩) (List.length (srtM L)) (List.length (srtM L)) : Value) /\ (.int .i64 (((List.length (srtM L)) : Nat) : Int) : Value) = .int .i64 (((List.length (srtM L)) : Nat) : Int) /\ True) /\ (wkO (.cells true 0 [.slice (some ⟨11, 0, none⟩) ((List.length (gapS (srtM L) a x1).2.2) + 1) ((List.length (gapS (srtM L) a x1).2.2) + 1)] : KObj) (rno (sg 8 [(8, 11)]) 3 (.cells true 0 [.slice (some ⟨8, 0, some 1⟩) (List.length (gapS (srtM L) a x1').2.2) (List.length (gapS (srtM L) a x1').2.2)] : KObj)) /\ (some (.cells true 0 [.int .i64 ((List.getD (srtM L) x1 zeroM).nu + 1)] : KObj) = some (.cells true 0 [.int .i64 (gapS (srtM L) a x1').2.1] : KObj) /\ belowO 8 (.cells true 0 [.int .i64 (gapS (srtM L) a x1').2.1] : KObj) = true) /\ True) /\ ((some (.cells true 2 ((List.take ((List.length (gapS (srtM L) a x1).2.2) * 2) (List.drop 0 (List.flatMap spC (gapS (srtM L) a x1).2.2))) ++ (List.take (1 * 2) (List.drop 0 ([.int .i64 (gapS (srtM L) a x1).2.1, .int .i64 ((List.getD (srtM L) x1 zeroM).nu - 1)] : List Value)))) : KObj) = some (.cells true 2 (List.flatMap spC (gapS (srtM L) a x1').2.2) : KObj) /\ belowO 8 (.cells true 2 (List.flatMap spC (gapS (srtM L) a x1').2.2) : KObj) = true) /\ True) /\ ((lrecOk prog 33 0 /\ (.func (.func 161) #[] #[.pointer (some ⟨4, 0, none⟩), .pointer (some ⟨5, 0, none⟩)] : Value) = .func (.func 161) #[] #[.pointer (some ⟨4, 0, none⟩), .pointer (some ⟨5, 0, none⟩)] /\ (.int .i64 a : Value) = .int .i64 a /\ (.pointer (some ⟨0, 0, none⟩) : Value) = .pointer (some ⟨0, 0, none⟩) /\ (.pointer (some ⟨3, 0, none⟩) : Value) = .pointer (some ⟨3, 0, none⟩) /\ (.pointer (some ⟨2, 0, none⟩) : Value) = .pointer (some ⟨2, 0, none⟩) /\ (.bool false : Value) = .bool false /\ (.bool (decide ((a : Int) <= 4)) : Value) = .bool (decide ((a : Int) <= 4)) /\ (.int .i64 a : Value) = .int .i64 a /\ (.bool false : Value) = .bool false /\ (.pointer (some ⟨0, 0, none⟩) : Value) = .pointer (some ⟨0, 0, none⟩) /\ (.int .i64 0 : Value) = .int .i64 0 /\ (.slice none 0 0 : Value) = .slice none 0 0 /\ (.pointer (some ⟨0, 0, none⟩) : Value) = .pointer (some ⟨0, 0, none⟩) /\ (.int .i64 a : Value) = .int .i64 a /\ True) /\ True))))))) /\ ((decide (((gapS (srtM L) a x1).2.1 : Int) < (List.getD (srtM L) x1 zeroM).nu)) = false -> ((.int .i64 (IntKind.wrap .i64 ((List.getD (srtM L) x1 zeroM).nu + 1)) : Value) = .int .i64 ((List.getD (srtM L) x1 zeroM).nu + 1) /\ ((.int .i64 (IntKind.wrap .i64 (((x1 : Nat) : Int) + 1)) : Value) = .int .i64 (((x1 : Nat) : Int) + 1) /\ (∃ x1' : Nat, (x1' <= List.length (srtM L)) /\ (List.length (srtM L) - x1') < (List.length (srtM L) - x1) /\ true = true /\ ((.int .i64 (((x1 : Nat) : Int) + 1) : Value) = .int .i64 ((x1' : Nat) : Int) /\ (.int .i64 (List.getD (srtM L) x1 zeroM).nu : Value) = .int .i64 (gapS (srtM L) a x1').1 /\ (.pointer (some ⟨5, 0, none⟩) : Value) = .pointer (some ⟨5, 0, none⟩) /\ (.func (.yield 6) #[] #[] : Value) = .func (.yield 6) #[] #[] /\ wk (.slice (some ⟨7, 0, some 1⟩) (List.length (srtM L)) (List.length (srtM L)) : Value) (.slice (some ⟨7, 0, some 1⟩) (List.length (srtM L)) (List.length (srtM L)) : Value) /\ (.int .i64 (((List.length (srtM L)) : Nat) : Int) : Value) = .int .i64 (((List.length (srtM L)) : Nat) : Int) /\ True) /\ (wkO (.cells true 0 [.slice (some ⟨8, 0, some 1⟩) (List.length (gapS (srtM L) a x1).2.2) (List.length (gapS (srtM L) a x1).2.2)] : KObj) (rno (sg 8 [(8, 8)]) 3 (.cells true 0 [.slice (some ⟨8, 0, some 1⟩) (List.length (gapS (srtM L) a x1').2.2) (List.length (gapS (srtM L) a x1').2.2)] : KObj)) /\ (some (.cells true 0 [.int .i64 ((List.getD (srtM L) x1 zeroM).nu + 1)] : KObj) = some (.cells true 0 [.int .i64 (gapS (srtM L) a x1').2.1] : KObj) /\ belowO 8 (.cells true 0 [.int .i64 (gapS (srtM L) a x1').2.1] : KObj) = true) /\ True) /\ ((some (.cells true 2 (List.flatMap spC (gapS (srtM L) a x1).2.2) : KObj) = some (.cells true 2 (List.flatMap spC (gapS (srtM L) a x1').2.2) : KObj) /\ belowO 8 (.cells true 2 (List.flatMap spC (gapS (srtM L) a x1').2.2) : KObj) = true) /\ True) /\ ((lrecOk prog 33 0 /\ (.func (.func 161) #[] #[.pointer (some ⟨4, 0, none⟩), .pointer (some ⟨5, 0, none⟩)] : Value) = .func (.func 161) #[] #[.pointer (some ⟨4, 0, none⟩), .pointer (some ⟨5, 0, none⟩)] /\ (.int .i64 a : Value) = .int .i64 a /\ (.pointer (some ⟨0, 0, none⟩) : Value) = .pointer (some ⟨0, 0, none⟩) /\ (.pointer (some ⟨3, 0, none⟩) : Value) = .pointer (some ⟨3, 0, none⟩) /\ (.pointer (some ⟨2, 0, none⟩) : Value) = .pointer (some ⟨2, 0, none⟩) /\ (.bool false : Value) = .bool false /\ (.bool (decide ((a : Int) <= 4)) : Value) = .bool (decide ((a : Int) <= 4)) /\ (.int .i64 a : Value) = .int .i64 a /\ (.bool false : Value) = .bool false /\ (.pointer (some ⟨0, 0, none⟩) : Value) = .pointer (some ⟨0, 0, none⟩) /\ (.int .i64 0 : Value) = .int .i64 0 /\ (.slice none 0 0 : Value) = .slice none 0 0 /\ (.pointer (some ⟨0, 0, none⟩) : Value) = .pointer (some ⟨0, 0, none⟩) /\ (.int .i64 a : Value) = .int .i64 a /\ True) /\ True))))))))))))) /\ ((decide ((((x1 : Nat) : Int) : Int) < (((List.length (srtM L)) : Nat) : Int))) = false -> (true = true /\ wk (.tuple #[.slice (some ⟨8, 0, some 1⟩) (List.length (gapS (srtM L) a x1).2.2) (List.length (gapS (srtM L) a x1).2.2), .int .i64 0] : Value) (rn (sg 2 [(2, 8)]) 3 (.tuple #[.slice (some ⟨2, 0, some 1⟩) (List.length (gapsL L a)) (List.length (gapsL L a)), .int .i64 0] : Value)) /\ ((some (.cells true 2 (List.flatMap spC (gapS (srtM L) a x1).2.2) : KObj) = some (.cells true 2 (List.flatMap spC (gapsL L a)) : KObj) /\ belowO 2 (.cells true 2 (List.flatMap spC (gapsL L a)) : KObj) = true) /\ True))))))))) /\ ((decide ((1 : Int) <= a)) = false -> (true = true /\ wk (.tuple #[.slice none 0 0, .int .i64 6] : Value) (rn (sg 2 []) 3 (.tuple #[.slice (some ⟨2, 0, some 1⟩) (List.length (gapsL L a)) (List.length (gapsL L a)), .int .i64 0] : Value)) /\ (True /\ True))))
theorem Egaps (L : List Msg) (a : Int) : vF prog msk (dm 0) 100000 true 40 true 33 [.pointer (some ⟨0, 0, none⟩), .int .i64 a] (readsK [.cells true 0 [.map (some 1)], .map (heldE L)]) (some [])
 (.go 22 (.gfork (.go 5 (.fork (.go 1 (.again [])) (.go 10 (.into (some [2, 3, 4, 5]) (.go 1 (.ans [(0, .cells true 0 [.map (some 1)]), (1, .map (heldE L))] (.slice (some ⟨7, 0, some 1⟩) (List.length (srtM L)) (List.length (srtM L))) [.cells true 7 (List.flatMap msgC (srtM L))] (.go 1 (.inv 3 (Nat) (0) [] [2, 3, 6] (fun x1 => [(10, .int .i64 ((x1 : Nat) : Int)), (4, .int .i64 (gapS (srtM L) a x1).1), (2, .pointer (some ⟨5, 0, none⟩)), (0, .func (.yield 6) #[] #[]), (8, .slice (some ⟨7, 0, some 1⟩) (List.length (srtM L)) (List.length (srtM L))), (9, .int .i64 (((List.length (srtM L)) : Nat) : Int))]) (fun x1 => [(2, false, .cells true 0 [.slice (some ⟨8, 0, some 1⟩) (List.length (gapS (srtM L) a x1).2.2) (List.length (gapS (srtM L) a x1).2.2)]), (3, true, .cells true 0 [.int .i64 (gapS (srtM L) a x1).2.1])]) (fun x1 => [(true, .cells true 2 (List.flatMap spC (gapS (srtM L) a x1).2.2))]) (fun x1 => [(6, [(16, .func (.func 161) #[] #[.pointer (some ⟨4, 0, none⟩), .pointer (some ⟨5, 0, none⟩)]), (15, .int .i64 a), (14, .pointer (some ⟨0, 0, none⟩)), (7, .pointer (some ⟨3, 0, none⟩)), (6, .pointer (some ⟨2, 0, none⟩)), (13, .bool false), (12, .bool (decide ((a : Int) <= 4))), (11, .int .i64 a), (10, .bool false), (9, .pointer (some ⟨0, 0, none⟩)), (5, .int .i64 0), (4, .slice none 0 0), (0, .pointer (some ⟨0, 0, none⟩)), (1, .int .i64 a)])]) (fun x1 => (x1 <= List.length (srtM L))) (fun x1 => (List.length (srtM L) - x1)) (fun x1 => .go 0 (.fork (.need (.val (.agg #[.int .i64 (List.getD (srtM L) x1 zeroM).au, .int .i64 (List.getD (srtM L) x1 zeroM).nu, .int .i64 (List.getD (srtM L) x1 zeroM).at_, .int .i64 (List.getD (srtM L) x1 zeroM).ki, .int .i64 (List.getD (srtM L) x1 zeroM).sh, .int .i64 (List.getD (srtM L) x1 zeroM).ce, .int .i64 (List.getD (srtM L) x1 zeroM).va]) (.go 6 (.gfork (.go 2 (.slot 30 (.int .i64 (((x1 : Nat) : Int) + 1)) (.go 0 (.again [(8, 8)])))) (.go 4 (.fork (.go 0 (.slot 30 (.int .i64 (((x1 : Nat) : Int) + 1)) (.go 0 (.again [(8, 8)])))) (.go 4 (.into (some [2, 3, 6, 8, 9]) (.go 3 (.fork (.go 3 (.slot 24 (.int .i64 ((List.getD (srtM L) x1 zeroM).nu - 1)) (.go 1 (.need (.go 2 (.slot 29 (.int .i64 ((List.getD (srtM L) x1 zeroM).nu + 1)) (.go 3 (.slot 30 (.int .i64 (((x1 : Nat) : Int) + 1)) (.go 0 (.again [(8, 11)])))))))))) (.go 1 (.slot 29 (.int .i64 ((List.getD (srtM L) x1 zeroM).nu + 1)) (.go 3 (.slot 30 (.int .i64 (((x1 : Nat) : Int) + 1)) (.go 0 (.again [(8, 8)])))))))))))))))) (.go 2 (.again [(2, 8)])))))))))))) (.go 5 (.again []))))
 (newK ((readsK [.cells true 0 [.map (some 1)], .map (heldE L)]) : HT).n 3 (.tuple #[.slice (some ⟨2, 0, some 1⟩) (List.length (gapsL L a)) (List.length (gapsL L a)), .int .i64 0]) [(true, .cells true 2 (List.flatMap spC (gapsL L a)))]) = Rgaps L a := by kernel_rfl
end
end Go.Proofs.YtbgfjemppjhmjaaGreat
/- Radio: gaps. No condition. -/
namespace Go.Proofs.YtbgfjemppjhmjaaGreat
open Go Go.K
set_option maxRecDepth 100000
set_option linter.unusedVariables false
set_option linter.unusedSimpArgs false
noncomputable section
attribute [local irreducible] vF
theorem neB2 {x y : Int} (h : (x != y) = true) : x ≠ y := by simpa using h
theorem eqB2 {x y : Int} (h : (x != y) = false) : x = y := by simpa using h
theorem spC_len (x : Int × Int) : (spC x).length = 2 := rfl
theorem plainSp (n : Nat) (l : List (Int × Int)) : (l.flatMap spC).all (belowC n) = true := plain_flat (fun _ => rfl) l
theorem lrec33 : lrecOk prog 33 0 := lrecOk_of (by kernel_rfl)
theorem hv10 {L : List Msg} {a : Int} (hk : ∀ m ∈ L, okM m = true) (hl : L.length <= 2000) (h1 : 1 <= a) (h4 : a <= 4) : Rgaps L a := by
 have hS := srtM_len L
 unfold Rgaps
 refine ⟨fun b => ⟨fun c => (by rw [decide_eq_true h4] at c; cases c), fun c => ⟨⟨rfl, rfl, trivial⟩, fun H' hl' h => ?_, rfl, Nat.zero_le _, ?_, fun _ => rfl, fun x hx => ⟨fun d => ?_, fun d => ?_⟩⟩⟩, fun b => (by rw [decide_eq_true h1] at b; cases b)⟩
 ·have := kSorted hk hl (H := H') (by decide) h.1 h.2.1
  rw [hl'] at this; exact this
 ·repeat' first | exact lrec33 | exact wk_nil _ _ _ (.inl rfl) | exact plainSp _ _ | exact trivial | exact rfl | exact wk_refl _ | refine wkO_cells ?_ | refine wks_cons ?_ ?_ | exact wks_nil | exact wk_nil _ _ _ (.inl rfl) | (exact wk_Q (by omega)) | refine wk_tupL ?_ | refine wk_aggL ?_ | refine joinMax ?_ ?_ ?_ | refine joinMin ?_ ?_ ?_ | refine toMax ?_ | refine toMin ?_ | refine ⟨rfl, ?_⟩ | refine ⟨trivial, ?_⟩ | (refine forkD (fun h => ?_) (fun h => ?_)) | (refine forkNe (fun h => ?_) (fun h => ?_)) | (refine forkEq (fun h => ?_) (fun h => ?_)) | refine forkNot ?_ | (refine ⟨vI64 (by omega), ?_⟩) | (refine And.intro (by omega) ?_) | apply And.intro | (exact iEq (by omega)) | (exact vI64 (by omega))
 ·have hx1 : x < (srtM L).length := by have := of_decide_eq_true d; omega
  have hm := okM_spec (hk _ (srtM_mem.1 (getD_mem (d := zeroM) hx1)))
  refine ⟨⟨by omega, by omega⟩, partM hx1 (by omega), fun e => ⟨vI64 (by omega), x + 1, by omega, by omega, rfl, ?_⟩, fun e => ⟨fun f => ⟨vI64 (by omega), x + 1, by omega, by omega, rfl, ?_⟩, fun f => ?_⟩⟩
  ·rw [gapS_succ hx1, gStep_0 (.inl (neB2 e))]
   repeat' first | exact lrec33 | exact plainSp _ _ | exact wk_refl _ | exact trivial | exact rfl | exact wk_refl _ | refine wkO_cells ?_ | refine wks_cons ?_ ?_ | exact wks_nil | exact wk_nil _ _ _ (.inl rfl) | (exact wk_Q (by omega)) | refine wk_tupL ?_ | refine wk_aggL ?_ | refine joinMax ?_ ?_ ?_ | refine joinMin ?_ ?_ ?_ | refine toMax ?_ | refine toMin ?_ | refine ⟨rfl, ?_⟩ | refine ⟨trivial, ?_⟩ | (refine forkD (fun h => ?_) (fun h => ?_)) | (refine forkNe (fun h => ?_) (fun h => ?_)) | (refine forkEq (fun h => ?_) (fun h => ?_)) | refine forkNot ?_ | (refine ⟨vI64 (by omega), ?_⟩) | (refine And.intro (by omega) ?_) | apply And.intro | (exact iEq (by omega)) | (exact vI64 (by omega))
  ·rw [gapS_succ hx1, gStep_0 (.inr (eq_of_beq f))]
   repeat' first | exact lrec33 | exact plainSp _ _ | exact wk_refl _ | exact trivial | exact rfl | exact wk_refl _ | refine wkO_cells ?_ | refine wks_cons ?_ ?_ | exact wks_nil | exact wk_nil _ _ _ (.inl rfl) | (exact wk_Q (by omega)) | refine wk_tupL ?_ | refine wk_aggL ?_ | refine joinMax ?_ ?_ ?_ | refine joinMin ?_ ?_ ?_ | refine toMax ?_ | refine toMin ?_ | refine ⟨rfl, ?_⟩ | refine ⟨trivial, ?_⟩ | (refine forkD (fun h => ?_) (fun h => ?_)) | (refine forkNe (fun h => ?_) (fun h => ?_)) | (refine forkEq (fun h => ?_) (fun h => ?_)) | refine forkNot ?_ | (refine ⟨vI64 (by omega), ?_⟩) | (refine And.intro (by omega) ?_) | apply And.intro | (exact iEq (by omega)) | (exact vI64 (by omega))
  ·have ea : ((srtM L).getD x zeroM).au = a := eqB2 e
   have en : ((srtM L).getD x zeroM).nu ≠ (gapS (srtM L) a x).1 := fun q => by rw [q] at f; simp at f
   have gl := gapS_len (srtM L) a x
   refine ⟨fun g => ⟨vI64 (by omega), ?_, rfl, vI64 (by omega), vI64 (by omega), x + 1, by omega, by omega, rfl, ?_⟩, fun g => ⟨vI64 (by omega), vI64 (by omega), x + 1, by omega, by omega, rfl, ?_⟩⟩
   ·repeat' first | exact flat_le spC_len _ | exact Nat.le_refl 2 | exact trivial | exact rfl | exact wk_refl _ | refine wkO_cells ?_ | refine wks_cons ?_ ?_ | exact wks_nil | exact wk_nil _ _ _ (.inl rfl) | (exact wk_Q (by omega)) | refine wk_tupL ?_ | refine wk_aggL ?_ | refine joinMax ?_ ?_ ?_ | refine joinMin ?_ ?_ ?_ | refine toMax ?_ | refine toMin ?_ | refine ⟨rfl, ?_⟩ | refine ⟨trivial, ?_⟩ | (refine forkD (fun h => ?_) (fun h => ?_)) | (refine forkNe (fun h => ?_) (fun h => ?_)) | (refine forkEq (fun h => ?_) (fun h => ?_)) | refine forkNot ?_ | (refine ⟨vI64 (by omega), ?_⟩) | (refine And.intro (by omega) ?_) | apply And.intro | (exact iEq (by omega)) | (exact vI64 (by omega))
   ·rw [gapS_succ hx1, gStep_1 ea en (of_decide_eq_true g)]
    repeat' first | exact lrec33 | exact plainSp _ _ | exact wk_snoc rfl | exact ob_snoc spC_len rfl rfl | exact trivial | exact rfl | exact wk_refl _ | refine wkO_cells ?_ | refine wks_cons ?_ ?_ | exact wks_nil | exact wk_nil _ _ _ (.inl rfl) | (exact wk_Q (by omega)) | refine wk_tupL ?_ | refine wk_aggL ?_ | refine joinMax ?_ ?_ ?_ | refine joinMin ?_ ?_ ?_ | refine toMax ?_ | refine toMin ?_ | refine ⟨rfl, ?_⟩ | refine ⟨trivial, ?_⟩ | (refine forkD (fun h => ?_) (fun h => ?_)) | (refine forkNe (fun h => ?_) (fun h => ?_)) | (refine forkEq (fun h => ?_) (fun h => ?_)) | refine forkNot ?_ | (refine ⟨vI64 (by omega), ?_⟩) | (refine And.intro (by omega) ?_) | apply And.intro | (exact iEq (by omega)) | (exact vI64 (by omega))
   ·rw [gapS_succ hx1, gStep_2 ea en (of_decide_eq_false g)]
    repeat' first | exact lrec33 | exact plainSp _ _ | exact wk_refl _ | exact trivial | exact rfl | exact wk_refl _ | refine wkO_cells ?_ | refine wks_cons ?_ ?_ | exact wks_nil | exact wk_nil _ _ _ (.inl rfl) | (exact wk_Q (by omega)) | refine wk_tupL ?_ | refine wk_aggL ?_ | refine joinMax ?_ ?_ ?_ | refine joinMin ?_ ?_ ?_ | refine toMax ?_ | refine toMin ?_ | refine ⟨rfl, ?_⟩ | refine ⟨trivial, ?_⟩ | (refine forkD (fun h => ?_) (fun h => ?_)) | (refine forkNe (fun h => ?_) (fun h => ?_)) | (refine forkEq (fun h => ?_) (fun h => ?_)) | refine forkNot ?_ | (refine ⟨vI64 (by omega), ?_⟩) | (refine And.intro (by omega) ?_) | apply And.intro | (exact iEq (by omega)) | (exact vI64 (by omega))
 ·have hx1 : x = (srtM L).length := by have := of_decide_eq_false d; omega
  rw [hx1]
  exact ⟨rfl, wk_refl _, ⟨rfl, plainSp _ _⟩, trivial⟩
theorem kGaps {L : List Msg} {a : Int} (hk : ∀ m ∈ L, okM m = true) (hl : L.length <= 2000) (h1 : 1 <= a) (h4 : a <= 4) {H : Heap} {i q : Nat} (hne : i ≠ q) (hi : H[i]? = some (.cells true 0 [.map (some q)])) (hq : H[q]? = some (.map (heldE L))) :
  KCall prog 33 [.pointer (some ⟨i, 0, none⟩), .int .i64 a] H [] (Is (.tuple #[.slice (some ⟨H.length, 0, some 1⟩) (gapsL L a).length (gapsL L a).length, .int .i64 0]) (H ++ [.cells true 2 ((gapsL L a).flatMap spC)])) :=
 valKp (fun j => .tuple #[.slice (some ⟨j, 0, some 1⟩) (gapsL L a).length (gapsL L a).length, .int .i64 0]) (os := [.cells true 0 [.map (some 1)], .map (heldE L)]) (Eq.mpr (Egaps L a) (hv10 hk hl h1 h4)) (pic_ok L 1) rfl
  ⟨⟨_, _, rfl, plainSp _ _⟩, trivial⟩ (ids := [i, q]) (by simp [hne]) (pic_objs hi hq) (fun j => rfl) rfl
end
end Go.Proofs.YtbgfjemppjhmjaaGreat
/- Radio: messages that are made of numbers, as plain functions. No condition. -/
namespace Go.Proofs.YtbgfjemppjhmjaaGreat
set_option linter.unusedSimpArgs false
open Go Go.K
set_option linter.unusedVariables false
abbrev digC (L : List Int) (n : Int) : List Value := [.iface (L.length + 1) (.agg ⟨L.flatMap intC⟩), .int .i64 n]
def dVal (L : List Int) (n : Int) : Int := if 0 < L.length then IntKind.wrap .i64 (L.getD (Int.toNat (Int.tmod n ((L.length : Nat) : Int))) 0 + IntKind.wrap .i64 (Int.tdiv n ((L.length : Nat) : Int))) else 0
def dN (L : List Int) (n m : Int) : Int := dVal L n % m
theorem dN_bd (L : List Int) (n : Int) {m : Int} (hm : 1 <= m) : 0 <= dN L n m /\ dN L n m < m := by
 unfold dN
 exact ⟨Int.emod_nonneg _ (by omega), Int.emod_lt_of_pos _ (by omega)⟩
def saidS (L : List Int) (n : Int) : Nat -> List Msg × Int
 | 0 => ([], n)
 | x + 1 =>
  let s := saidS L n x
  let q := s.2
  let k := 1 + dN L (q + 1 + 1 + 1) 3
  if k = 1 then (s.1 ++ [⟨1 + dN L q 4, 1 + dN L (q + 1) 12, dN L (q + 1 + 1) 50, k, 1 + dN L (q + 1 + 1 + 1 + 1) 3, dN L (q + 1 + 1 + 1 + 1 + 1) 9, 0⟩], q + 1 + 1 + 1 + 1 + 1 + 1)
  else if k = 2 then (s.1 ++ [⟨1 + dN L q 4, 1 + dN L (q + 1) 12, dN L (q + 1 + 1) 50, k, 0, dN L (q + 1 + 1 + 1 + 1) 4, dN L (q + 1 + 1 + 1 + 1 + 1) 5⟩], q + 1 + 1 + 1 + 1 + 1 + 1)
  else (s.1 ++ [⟨1 + dN L q 4, 1 + dN L (q + 1) 12, dN L (q + 1 + 1) 50, k, 0, 0, 1 + dN L (q + 1 + 1 + 1 + 1) 12⟩], q + 1 + 1 + 1 + 1 + 1)
theorem saidS_ok (L : List Int) (n : Int) : ∀ k, (saidS L n k).1.length = k /\ n <= (saidS L n k).2 /\ (saidS L n k).2 <= n + 6 * (k : Int) /\ ∀ m ∈ (saidS L n k).1, okM m = true := by
 intro k
 induction k with
 | zero => exact ⟨rfl, Int.le_refl _, (by show n <= n + 6 * ((0 : Nat) : Int); omega), fun m h => (by cases h)⟩
 | succ x ih =>
  obtain ⟨h1, h2, h3, h4⟩ := ih
  have b1 := dN_bd L (saidS L n x).2 (m := 4) (by omega)
  have b2 := dN_bd L ((saidS L n x).2 + 1) (m := 12) (by omega)
  have b3 := dN_bd L ((saidS L n x).2 + 1 + 1) (m := 50) (by omega)
  have b4 := dN_bd L ((saidS L n x).2 + 1 + 1 + 1) (m := 3) (by omega)
  have b5 := dN_bd L ((saidS L n x).2 + 1 + 1 + 1 + 1) (m := 3) (by omega)
  have b6 := dN_bd L ((saidS L n x).2 + 1 + 1 + 1 + 1 + 1) (m := 9) (by omega)
  have b7 := dN_bd L ((saidS L n x).2 + 1 + 1 + 1 + 1) (m := 4) (by omega)
  have b8 := dN_bd L ((saidS L n x).2 + 1 + 1 + 1 + 1 + 1) (m := 5) (by omega)
  have b9 := dN_bd L ((saidS L n x).2 + 1 + 1 + 1 + 1) (m := 12) (by omega)
  simp only [saidS]
  split
  ·rename_i hk
   refine ⟨by rw [List.length_append, h1]; rfl, by omega, by omega, fun m hm => ?_⟩
   rcases List.mem_append.1 hm with h | h
   ·exact h4 m h
   ·rw [List.mem_singleton.1 h]
    simp only [okM, kindB, k1B, k2B, k3B, inB, Bool.and_eq_true, Bool.or_eq_true, decide_eq_true_eq, and_true, true_and]
    omega
  ·split
   ·rename_i hk
    refine ⟨by rw [List.length_append, h1]; rfl, by omega, by omega, fun m hm => ?_⟩
    rcases List.mem_append.1 hm with h | h
    ·exact h4 m h
    ·rw [List.mem_singleton.1 h]
     simp only [okM, kindB, k1B, k2B, k3B, inB, Bool.and_eq_true, Bool.or_eq_true, decide_eq_true_eq, and_true, true_and]
     omega
   ·rename_i hk hk2
    refine ⟨by rw [List.length_append, h1]; rfl, by omega, by omega, fun m hm => ?_⟩
    rcases List.mem_append.1 hm with h | h
    ·exact h4 m h
    ·rw [List.mem_singleton.1 h]
     simp only [okM, kindB, k1B, k2B, k3B, inB, Bool.and_eq_true, Bool.or_eq_true, decide_eq_true_eq, and_true, true_and]
     omega
end Go.Proofs.YtbgfjemppjhmjaaGreat
/- Radio: pictures with the same messages tell the same. No condition. -/
namespace Go.Proofs.YtbgfjemppjhmjaaGreat
set_option linter.unusedSimpArgs false
open Go Go.K
set_option linter.unusedVariables false
theorem same_perm {L M : List Msg} (hL : L.Nodup) (hM : M.Nodup) (h : ∀ m, m ∈ L ↔ m ∈ M) : L.Perm M := (List.perm_ext_iff_of_nodup hL hM).2 h
theorem agree_same {L M : List Msg} (hL : L.Nodup) (hM : M.Nodup) (h : ∀ m, m ∈ L ↔ m ∈ M) (hk : ∀ m ∈ L, okM m = true) : agreeB L M = true := by
 have hp := same_perm hL hM h
 unfold agreeB eqL
 rw [srtM_of_perm hp hk, liveL_perm hp hk]
 simp
theorem lackL_mem {L M : List Msg} {m : Msg} : m ∈ lackL L M ↔ m ∈ L /\ ¬ m ∈ M := by
 unfold lackL notIn memB
 rw [List.mem_filter, srtM_mem]
 simp
theorem lackL_nil {L M : List Msg} (h : ∀ m ∈ L, m ∈ M) : lackL L M = [] := by
 unfold lackL notIn memB
 rw [List.filter_eq_nil_iff]
 intro m hm
 simp [h m (srtM_mem.1 hm)]
theorem addAllTo_spec {L : List Msg} (hL : L.Nodup) : ∀ s : List Msg, (s.foldl addM L).Nodup /\ (s.foldl addM L).length <= L.length + s.length /\ ∀ m, m ∈ s.foldl addM L ↔ m ∈ L ∨ m ∈ s := by
 refine snoc_ind ⟨hL, Nat.le_refl _, fun m => by simp⟩ fun s i ⟨h1, h2, h3⟩ => ?_
 rw [List.foldl_append]
 refine ⟨addM_nodup h1 _, ?_, fun m => ?_⟩
 ·have := addM_len (s.foldl addM L) i
  rw [List.length_append]
  show (addM (s.foldl addM L) i).length <= L.length + (s.length + 1)
  omega
 ·show m ∈ addM (s.foldl addM L) i ↔ _
  rw [addM_mem, h3, List.mem_append, List.mem_singleton, or_assoc]
end Go.Proofs.YtbgfjemppjhmjaaGreat
/- Radio: what gaps are. No condition. -/
namespace Go.Proofs.YtbgfjemppjhmjaaGreat
set_option linter.unusedSimpArgs false
open Go Go.K
set_option linter.unusedVariables false
def numB (L : List Msg) (a n : Int) : Bool := L.any fun m => decide (m.au = a) && decide (m.nu = n)
def inG (n : Int) (g : Int × Int) : Bool := decide (g.1 <= n) && decide (n <= g.2)
def grtS (M : List Msg) (a : Int) (x : Nat) : Int := (M.take x).foldl (fun g m => if m.au = a then (if m.nu > g then m.nu else g) else g) 0
theorem take_getD {M : List Msg} {x : Nat} (hx : x < M.length) : M.take (x + 1) = M.take x ++ [M.getD x zeroM] := by
 rw [List.take_succ_eq_append_getElem hx]
 rw [show M.getD x zeroM = M[x] from by simp [List.getD_eq_getElem?_getD, hx]]
theorem grtS_succ {M : List Msg} {x : Nat} (hx : x < M.length) (a : Int) : grtS M a (x + 1) = if (M.getD x zeroM).au = a then (if (M.getD x zeroM).nu > grtS M a x then (M.getD x zeroM).nu else grtS M a x) else grtS M a x := by
 unfold grtS
 rw [take_getD hx, List.foldl_append]; rfl
theorem numB_succ {M : List Msg} {x : Nat} (hx : x < M.length) (a n : Int) : numB (M.take (x + 1)) a n = (numB (M.take x) a n || (decide ((M.getD x zeroM).au = a) && decide ((M.getD x zeroM).nu = n))) := by
 unfold numB
 rw [take_getD hx, List.any_append, List.any_cons, List.any_nil, Bool.or_false]
theorem numB_spec {L : List Msg} {a n : Int} : numB L a n = true ↔ ∃ m ∈ L, m.au = a /\ m.nu = n := by
 unfold numB
 rw [List.any_eq_true]
 constructor
 ·rintro ⟨m, h1, h2⟩
  rw [Bool.and_eq_true] at h2
  exact ⟨m, h1, of_decide_eq_true h2.1, of_decide_eq_true h2.2⟩
 ·rintro ⟨m, h1, h2, h3⟩
  exact ⟨m, h1, by rw [Bool.and_eq_true]; exact ⟨decide_eq_true h2, decide_eq_true h3⟩⟩
theorem key_nu {m p : Msg} (hm : okM m = true) (hp : okM p = true) (h : keyM m <= keyM p) (ha : m.au = p.au) : m.nu <= p.nu := by
 have h1 := okM_spec hm
 have h2 := okM_spec hp
 unfold keyM at h
 omega
structure GapI (M : List Msg) (a : Int) (x : Nat) : Prop where
 nx : (gapS M a x).2.1 = (gapS M a x).1 + 1
 bd : 0 <= (gapS M a x).1 /\ (gapS M a x).1 <= 200
 gr : grtS M a x = (gapS M a x).1
 le : ∀ m ∈ M.take x, m.au = a -> m.nu <= (gapS M a x).1
 at_ : (gapS M a x).1 = 0 ∨ ∃ m ∈ M.take x, m.au = a /\ m.nu = (gapS M a x).1
 gb : ∀ g ∈ (gapS M a x).2.2, 1 <= g.1 /\ g.1 <= g.2 /\ g.2 < (gapS M a x).1
 cov : ∀ n, 1 <= n -> n <= (gapS M a x).1 -> numB (M.take x) a n = true ∨ ∃ g ∈ (gapS M a x).2.2, g.1 <= n /\ n <= g.2
 no : ∀ g ∈ (gapS M a x).2.2, ∀ n, g.1 <= n -> n <= g.2 -> numB (M.take x) a n = false
 pw : (gapS M a x).2.2.Pairwise fun g h => g.2 < h.1
theorem gapI_0 (M : List Msg) (a : Int) : GapI M a 0 := by
 have e : gapS M a 0 = (0, 1, []) := rfl
 constructor <;> rw [e]
 ·rfl
 ·exact ⟨Int.le_refl _, by decide⟩
 ·rfl
 ·intro m hm; cases hm
 ·exact .inl rfl
 ·intro g hg; cases hg
 ·intro n h1 h2; simp only at h2; omega
 ·intro g hg; cases hg
 ·exact List.Pairwise.nil
theorem gapI_succ {M : List Msg} {a : Int} {x : Nat} (hx : x < M.length) (hk : ∀ m ∈ M, okM m = true) (hs : M.Pairwise fun a b => keyM a <= keyM b) (h : GapI M a x) : GapI M a (x + 1) := by
 have hm : M.getD x zeroM ∈ M := by
  rw [List.getD_eq_getElem?_getD, List.getElem?_eq_getElem hx]; exact List.getElem_mem hx
 have hok := okM_spec (hk _ hm)
 have hge : ∀ m ∈ M.take x, m.au = (M.getD x zeroM).au -> m.nu <= (M.getD x zeroM).nu := by
  intro m hmt ha
  have hs2 := hs
  rw [<- List.take_append_drop x M, List.pairwise_append] at hs2
  have hd : M.getD x zeroM ∈ M.drop x := by
   rw [List.drop_eq_getElem_cons hx]
   rw [show M.getD x zeroM = M[x] from by simp [List.getD_eq_getElem?_getD, hx]]
   exact List.mem_cons_self ..
  exact key_nu (hk _ (List.mem_of_mem_take hmt)) (hk _ hm) (hs2.2.2 m hmt _ hd) ha
 have hnum := numB_succ hx a
 have htk := take_getD hx
 have hgr := grtS_succ hx a
 have hg1 := gapS_succ hx a
 generalize hmm : M.getD x zeroM = m at *
 obtain ⟨e1, e2, e3, e4, e5, e6, e7, e8, e9⟩ := h
 by_cases ha : m.au = a
 ·by_cases hn : m.nu = (gapS M a x).1
  ·rw [gStep_0 (.inr hn)] at hg1
   constructor <;> rw [hg1]
   ·exact e1
   ·exact e2
   ·rw [hgr, if_pos ha, e3]; split <;> omega
   ·intro p hp hpa
    rw [htk] at hp
    rcases List.mem_append.1 hp with q | q
    ·exact e4 p q hpa
    ·rw [List.mem_singleton.1 q]; omega
   ·rcases e5 with q | ⟨p, q1, q2⟩
    ·exact .inl q
    ·exact .inr ⟨p, by rw [htk]; exact List.mem_append_left _ q1, q2⟩
   ·exact e6
   ·intro n h1 h2
    rw [hnum]
    rcases e7 n h1 h2 with q | q
    ·exact .inl (by rw [q]; rfl)
    ·exact .inr q
   ·intro g hg n h1 h2
    rw [hnum, e8 g hg n h1 h2]
    have := e6 g hg
    rw [show decide (m.nu = n) = false from decide_eq_false (by omega)]
    simp
   ·exact e9
  ·have hlt : (gapS M a x).1 < m.nu := by
    rcases e5 with q | ⟨p, q1, q2, q3⟩
    ·omega
    ·have := hge p q1 (q2.trans ha.symm); omega
   by_cases hl : (gapS M a x).2.1 < m.nu
   ·rw [gStep_1 ha hn hl] at hg1
    constructor <;> rw [hg1] <;> dsimp only
    ·omega
    ·rw [hgr, if_pos ha, e3, if_pos hlt]
    ·intro p hp hpa
     rw [htk] at hp
     rcases List.mem_append.1 hp with q | q
     ·have := e4 p q hpa; omega
     ·rw [List.mem_singleton.1 q]; exact Int.le_refl _
    ·exact .inr ⟨m, by rw [htk]; exact List.mem_append_right _ (List.mem_singleton.2 rfl), ha, rfl⟩
    ·intro g hg
     rcases List.mem_append.1 hg with q | q
     ·have := e6 g q; omega
     ·rw [List.mem_singleton.1 q]; dsimp only; omega
    ·intro n h1 h2
     rw [hnum]
     by_cases q1 : n <= (gapS M a x).1
     ·rcases e7 n h1 q1 with q | ⟨g, q2, q3⟩
      ·exact .inl (by rw [q]; rfl)
      ·exact .inr ⟨g, List.mem_append_left _ q2, q3⟩
     ·by_cases q2 : n = m.nu
      ·exact .inl (by rw [decide_eq_true ha, decide_eq_true q2.symm]; simp)
      ·exact .inr ⟨_, List.mem_append_right _ (List.mem_singleton.2 rfl), by dsimp only; omega⟩
    ·intro g hg n h1 h2
     rw [hnum]
     rcases List.mem_append.1 hg with q | q
     ·rw [e8 g q n h1 h2]
      have := e6 g q
      rw [show decide (m.nu = n) = false from decide_eq_false (by omega)]
      simp
     ·rw [List.mem_singleton.1 q] at h1 h2
      dsimp only at h1 h2
      rw [show decide (m.nu = n) = false from decide_eq_false (by omega), Bool.and_false, Bool.or_false, Bool.eq_false_iff]
      intro w
      obtain ⟨p, p1, p2, p3⟩ := numB_spec.1 w
      have := e4 p p1 p2
      omega
    ·refine List.pairwise_append.2 ⟨e9, List.pairwise_singleton _ _, fun g hg b hb => ?_⟩
     rw [List.mem_singleton.1 hb]
     have := e6 g hg
     dsimp only; omega
   ·rw [gStep_2 ha hn hl] at hg1
    constructor <;> rw [hg1] <;> dsimp only
    ·omega
    ·rw [hgr, if_pos ha, e3, if_pos hlt]
    ·intro p hp hpa
     rw [htk] at hp
     rcases List.mem_append.1 hp with q | q
     ·have := e4 p q hpa; omega
     ·rw [List.mem_singleton.1 q]; exact Int.le_refl _
    ·exact .inr ⟨m, by rw [htk]; exact List.mem_append_right _ (List.mem_singleton.2 rfl), ha, rfl⟩
    ·intro g hg
     have := e6 g hg; omega
    ·intro n h1 h2
     rw [hnum]
     by_cases q1 : n <= (gapS M a x).1
     ·rcases e7 n h1 q1 with q | q
      ·exact .inl (by rw [q]; rfl)
      ·exact .inr q
     ·exact .inl (by rw [decide_eq_true ha, show decide (m.nu = n) = true from decide_eq_true (by omega)]; simp)
    ·intro g hg n h1 h2
     rw [hnum, e8 g hg n h1 h2]
     have := e6 g hg
     rw [show decide (m.nu = n) = false from decide_eq_false (by omega)]
     simp
    ·exact e9
 ·rw [gStep_0 (.inl ha)] at hg1
  have hx2 : ∀ n, numB (M.take (x + 1)) a n = numB (M.take x) a n := fun n => by rw [hnum, decide_eq_false ha]; simp
  constructor <;> rw [hg1]
  ·exact e1
  ·exact e2
  ·rw [hgr, if_neg ha, e3]
  ·intro p hp hpa
   rw [htk] at hp
   rcases List.mem_append.1 hp with q | q
   ·exact e4 p q hpa
   ·rw [List.mem_singleton.1 q] at hpa; exact absurd hpa ha
  ·rcases e5 with q | ⟨p, q1, q2⟩
   ·exact .inl q
   ·exact .inr ⟨p, by rw [htk]; exact List.mem_append_left _ q1, q2⟩
  ·exact e6
  ·intro n h1 h2; rw [hx2]; exact e7 n h1 h2
  ·intro g hg n h1 h2; rw [hx2]; exact e8 g hg n h1 h2
  ·exact e9
theorem gapI {M : List Msg} {a : Int} (hk : ∀ m ∈ M, okM m = true) (hs : M.Pairwise fun a b => keyM a <= keyM b) : ∀ x, x <= M.length -> GapI M a x
 | 0, _ => gapI_0 M a
 | x + 1, h => gapI_succ (by omega) hk hs (gapI hk hs x (by omega))
def hereL (M : List Msg) (a : Int) (x : Nat) : List Bool := tabP (fun n : Nat => numB (M.take x) a (n : Int)) 201
def hereG (M : List Msg) (a : Int) (G : List (Int × Int)) (x : Nat) (g : Int) (t : Nat) : List Bool := tabP (fun n : Nat => numB M a (n : Int) || (G.take x).any (inG (n : Int)) || (decide (g <= (n : Int)) && decide ((n : Int) < g + (t : Int)))) 201
theorem tabP_set {f f' : Nat -> Bool} {n k : Nat} (hk : k < n) (h : ∀ i, i < n -> f' i = if i = k then true else f i) : (tabP f n).set k true = tabP f' n := by
 refine List.ext_getElem? fun i => ?_
 unfold tabP
 rw [List.getElem?_set, List.getElem?_map, List.getElem?_map, List.length_map, List.length_range]
 by_cases hi : i < n
 ·rw [List.getElem?_range hi]
  show _ = some (f' i)
  rw [h i hi]
  by_cases e : k = i
  ·rw [if_pos e, if_pos hk, if_pos e.symm]
  ·rw [if_neg e, if_neg (fun q => e q.symm)]; rfl
 ·rw [List.getElem?_eq_none (by simpa using Nat.le_of_not_lt hi)]
  rw [if_neg (by omega)]; rfl
theorem here_0 (M : List Msg) (a : Int) : hereL M a 0 = List.replicate 201 false := by
 unfold hereL tabP numB
 rw [List.take_zero]
 simp only [List.any_nil]
 rw [List.map_const']
 simp
theorem here_same {M : List Msg} {a : Int} {x : Nat} (hx : x < M.length) (h : (M.getD x zeroM).au ≠ a) : hereL M a (x + 1) = hereL M a x := by
 unfold hereL
 congr 1
 funext n
 rw [numB_succ hx, decide_eq_false h]; simp
theorem here_set {M : List Msg} {a : Int} {x : Nat} (hx : x < M.length) (h : (M.getD x zeroM).au = a) (h0 : 0 <= (M.getD x zeroM).nu /\ (M.getD x zeroM).nu <= 200) : (hereL M a x).set (Int.toNat (M.getD x zeroM).nu) true = hereL M a (x + 1) := by
 unfold hereL
 refine tabP_set (by omega) fun i hi => ?_
 rw [numB_succ hx, decide_eq_true h]
 by_cases e : i = Int.toNat (M.getD x zeroM).nu
 ·rw [if_pos e, show decide ((M.getD x zeroM).nu = (i : Int)) = true from decide_eq_true (by omega)]; simp
 ·rw [if_neg e, show decide ((M.getD x zeroM).nu = (i : Int)) = false from decide_eq_false (by omega)]; simp
theorem hereG_0 (M : List Msg) (a : Int) (G : List (Int × Int)) (g : Int) : hereG M a G 0 g 0 = hereL M a M.length := by
 unfold hereG hereL
 congr 1
 funext n
 rw [List.take_length, List.take_zero, List.any_nil]
 have : (decide (g <= (n : Int)) && decide ((n : Int) < g + ((0 : Nat) : Int))) = false := by
  rw [Bool.eq_false_iff]; intro w
  rw [Bool.and_eq_true] at w
  have := of_decide_eq_true w.1
  have := of_decide_eq_true w.2
  omega
 rw [this]; simp
theorem hereG_any (M : List Msg) (a : Int) (G : List (Int × Int)) (x : Nat) (g g' : Int) : hereG M a G x g 0 = hereG M a G x g' 0 := by
 unfold hereG
 congr 1
 funext n
 have : ∀ g : Int, (decide (g <= (n : Int)) && decide ((n : Int) < g + ((0 : Nat) : Int))) = false := by
  intro g
  rw [Bool.eq_false_iff]; intro w
  rw [Bool.and_eq_true] at w
  have := of_decide_eq_true w.1
  have := of_decide_eq_true w.2
  omega
 rw [this, this]
theorem hereG_set {M : List Msg} {a : Int} {G : List (Int × Int)} {x : Nat} {g : Int} {t : Nat} (h0 : 0 <= g /\ g + (t : Int) <= 200) : (hereG M a G x g t).set (Int.toNat (g + (t : Int))) true = hereG M a G x g (t + 1) := by
 unfold hereG
 refine tabP_set (by omega) fun i hi => ?_
 by_cases e : i = Int.toNat (g + (t : Int))
 ·rw [if_pos e, show decide (g <= (i : Int)) = true from decide_eq_true (by omega), show decide ((i : Int) < g + ((t + 1 : Nat) : Int)) = true from decide_eq_true (by omega)]; simp
 ·rw [if_neg e]
  congr 2
  rw [decide_eq_decide]
  omega
theorem hereG_next {M : List Msg} {a : Int} {G : List (Int × Int)} {x : Nat} (hx : x < G.length) {t : Nat} (ht : (G.getD x zeroSp).2 + 1 = (G.getD x zeroSp).1 + (t : Int)) (g : Int) : hereG M a G x (G.getD x zeroSp).1 t = hereG M a G (x + 1) g 0 := by
 unfold hereG
 congr 1
 funext n
 have : (decide (g <= (n : Int)) && decide ((n : Int) < g + ((0 : Nat) : Int))) = false := by
  rw [Bool.eq_false_iff]; intro w
  rw [Bool.and_eq_true] at w
  have := of_decide_eq_true w.1
  have := of_decide_eq_true w.2
  omega
 rw [this, Bool.or_false, List.take_succ_eq_append_getElem hx, List.any_append, List.any_cons, List.any_nil, Bool.or_false, <- Bool.or_assoc]
 rw [show G.getD x zeroSp = G[x] from by simp [List.getD_eq_getElem?_getD, hx]] at ht ⊢
 congr 1
 unfold inG
 congr 1
 rw [decide_eq_decide]
 omega
theorem hereG_false {M : List Msg} {a : Int} {x : Nat} (hI : GapI M a M.length) (hx : x < (gapS M a M.length).2.2.length) {t : Nat} (ht : ((gapS M a M.length).2.2.getD x zeroSp).1 + (t : Int) <= ((gapS M a M.length).2.2.getD x zeroSp).2) :
  (hereG M a (gapS M a M.length).2.2 x ((gapS M a M.length).2.2.getD x zeroSp).1 t).getD (Int.toNat (((gapS M a M.length).2.2.getD x zeroSp).1 + (t : Int))) false = false := by
 have hno := hI.no
 have hpw := hI.pw
 have hgb := hI.gb
 have hb := hI.bd
 rw [List.take_length] at hno
 generalize (gapS M a M.length).2.2 = G at *
 have hmem : G.getD x zeroSp ∈ G := by rw [List.getD_eq_getElem?_getD, List.getElem?_eq_getElem hx]; exact List.getElem_mem hx
 have h1 := hgb _ hmem
 have h2 := hno _ hmem (((G.getD x zeroSp).1 + (t : Int))) (by omega) ht
 have h3 : (G.take x).any (inG ((G.getD x zeroSp).1 + (t : Int))) = false := by
  rw [Bool.eq_false_iff]; intro w
  rw [List.any_eq_true] at w
  obtain ⟨g, g1, g2⟩ := w
  rw [<- List.take_append_drop x G, List.pairwise_append] at hpw
  have hd : G.getD x zeroSp ∈ G.drop x := by
   rw [List.drop_eq_getElem_cons hx, show G.getD x zeroSp = G[x] from by simp [List.getD_eq_getElem?_getD, hx]]
   exact List.mem_cons_self ..
  have := hpw.2.2 g g1 _ hd
  unfold inG at g2
  rw [Bool.and_eq_true] at g2
  have := of_decide_eq_true g2.2
  omega
 generalize G.getD x zeroSp = q at *
 unfold hereG
 rw [tabP_get (by omega)]
 rw [show ((Int.toNat (q.1 + (t : Int)) : Nat) : Int) = q.1 + (t : Int) by omega, h2, h3, show decide (q.1 + (t : Int) < q.1 + (t : Int)) = false from decide_eq_false (by omega)]
 simp
theorem hereG_true {M : List Msg} {a : Int} (hI : GapI M a M.length) {n : Nat} (h1 : 1 <= n) (h2 : (n : Int) <= grtS M a M.length) (g : Int) :
  (hereG M a (gapS M a M.length).2.2 (gapS M a M.length).2.2.length g 0).getD n false = true := by
 have hc := hI.cov n (by omega) (by rw [<- hI.gr]; exact h2)
 have hb := hI.bd
 have hg := hI.gr
 rw [List.take_length] at hc
 unfold hereG
 rw [tabP_get (by omega), List.take_length]
 rcases hc with q | ⟨p, p1, p2, p3⟩
 ·rw [q]; rfl
 ·have : (gapS M a M.length).2.2.any (inG (n : Int)) = true := List.any_eq_true.2 ⟨p, p1, by unfold inG; rw [decide_eq_true p2, decide_eq_true p3]; rfl⟩
  rw [this]; simp
theorem lackL_nodup {L M : List Msg} (hL : L.Nodup) : (lackL L M).Nodup := ((srtM_perm L).nodup_iff.2 hL).filter _
theorem told_new {L M : List Msg} (hL : L.Nodup) (hM : M.Nodup) {x : Nat} (hx : x < (lackL L M).length) : ¬ (lackL L M).getD x zeroM ∈ ((lackL L M).take x).foldl addM M := by
 rw [(addAllTo_spec hM _).2.2]
 have hm : (lackL L M).getD x zeroM ∈ lackL L M := by rw [List.getD_eq_getElem?_getD, List.getElem?_eq_getElem hx]; exact List.getElem_mem hx
 rintro (q | q)
 ·exact (lackL_mem.1 hm).2 q
 ·have hn := lackL_nodup (M := M) hL
  rw [<- List.take_append_drop x (lackL L M), List.nodup_append] at hn
  have hd : (lackL L M).getD x zeroM ∈ (lackL L M).drop x := by
   rw [List.drop_eq_getElem_cons hx, show (lackL L M).getD x zeroM = (lackL L M)[x] from by simp [List.getD_eq_getElem?_getD, hx]]
   exact List.mem_cons_self ..
  exact hn.2.2 _ q _ hd rfl
def toldL (L M : List Msg) : List Msg := (lackL L M).foldl addM M
theorem toldL_spec {L M : List Msg} (hM : M.Nodup) : (toldL L M).Nodup /\ ∀ m, m ∈ toldL L M ↔ m ∈ L ∨ m ∈ M := by
 obtain ⟨h1, _, h3⟩ := addAllTo_spec hM (lackL L M)
 refine ⟨h1, fun m => ?_⟩
 unfold toldL
 rw [h3, lackL_mem]
 by_cases h : m ∈ M
 ·simp [h]
 ·simp [h]
theorem lackL_len (L M : List Msg) : (lackL L M).length <= L.length := by
 unfold lackL
 rw [<- srtM_len L]; exact List.length_filter_le ..
theorem toldL_len {L M : List Msg} (hM : M.Nodup) (x : Nat) : (((lackL L M).take x).foldl addM M).length <= M.length + L.length := by
 have h1 := (addAllTo_spec hM ((lackL L M).take x)).2.1
 have h2 := lackL_len L M
 rw [List.length_take] at h1
 omega
end Go.Proofs.YtbgfjemppjhmjaaGreat
/- Radio: forged names, what is withdrawn, notices: plain laws. No condition. -/
namespace Go.Proofs.YtbgfjemppjhmjaaGreat
set_option linter.unusedSimpArgs false
open Go Go.K
set_option linter.unusedVariables false
theorem rangeG {α : Type} (d : α) (F : List α) : (List.range F.length).map (fun i => F.getD i d) = F := by
 refine List.ext_getElem? fun i => ?_
 rw [List.getElem?_map]
 by_cases h : i < F.length
 ·rw [List.getElem?_range h, List.getElem?_eq_getElem h]
  simp [List.getD_eq_getElem?_getD, h]
 ·rw [List.getElem?_eq_none (by simpa using Nat.le_of_not_lt h), List.getElem?_eq_none (Nat.le_of_not_lt h)]; rfl
end Go.Proofs.YtbgfjemppjhmjaaGreat
/- Radio: the messages of the chapter's example. No condition. -/
namespace Go.Proofs.YtbgfjemppjhmjaaGreat
set_option linter.unusedSimpArgs false
open Go Go.K
set_option linter.unusedVariables false
abbrev mA : Msg := ⟨1, 5, 9, 3, 0, 0, 2⟩
abbrev mB : Msg := ⟨1, 2, 10, 1, 7, 3, 0⟩
abbrev mC : Msg := ⟨1, 5, 9, 1, 8, 0, 0⟩
theorem srtM_is {A B : List Msg} (hp : A.Perm B) (hk : ∀ m ∈ A, okM m = true) (hb : B.Pairwise fun a b => keyM a <= keyM b) : srtM A = B :=
 sorted_one ((srtM_perm A).trans hp) (fun m hm => hk m (srtM_mem.1 hm)) (srtM_sorted A) hb
theorem okAB : ∀ m ∈ [mA, mB], okM m = true := by decide
theorem okABC : ∀ m ∈ [mA, mB, mC], okM m = true := by decide
theorem srtAB : srtM [mA, mB] = [mB, mA] := srtM_is (List.Perm.swap ..) okAB (by decide)
theorem srtABC : srtM [mA, mB, mC] = [mB, mC, mA] := srtM_is (((List.Perm.swap mB mA [mC])).trans (List.Perm.cons _ (List.Perm.swap ..))) okABC (by decide)
theorem liveAB : liveL [mA, mB] = [] := by unfold liveL; rw [srtAB]; rfl
theorem liveABC : liveL [mA, mB, mC] = [mB] := by unfold liveL; rw [srtABC]; rfl
theorem gapsAB : gapsL [mA, mB] 1 = [(1, 1), (3, 4)] := by unfold gapsL; rw [srtAB]; rfl
end Go.Proofs.YtbgfjemppjhmjaaGreat
/- What is to be shown of functions. Printed by a program. No condition. -/
namespace Go.Proofs.YtbgfjemppjhmjaaGreat
set_option linter.unusedSimpArgs false
open Go Go.K
set_option maxRecDepth 100000
set_option maxHeartbeats 4000000
set_option linter.unusedVariables false
noncomputable section
def Rawake (sp : Value)  : Prop :=
 ((True) /\ (∀ H' : Heap, H'.length = 0 -> (True) -> KCall prog 54 [] H' [] (Is (.tuple #[.pointer (some ⟨0, 0, none⟩), .int .i64 0]) (H' ++ [(.cells true 0 [.map (some 1)] : KObj), (.map (heldE []) : KObj)]))) /\ (((some (.cells true 0 [.map (some 1)] : KObj) = some (.cells true 0 [.map (some 1)] : KObj)) /\ (some (.map (heldE []) : KObj) = some (.map (heldE []) : KObj)) /\ True) /\ (∀ H' : Heap, H'.length = 2 -> (H'[0]? = some (.cells true 0 [.map (some 1)] : KObj) /\ H'[1]? = some (.map (heldE []) : KObj) /\ True) -> KCall prog 31 [.pointer (some ⟨0, 0, none⟩), .agg #[.int .i64 1, .int .i64 5, .int .i64 9, .int .i64 3, .int .i64 0, .int .i64 0, .int .i64 2]] H' [1] (Is (.tuple #[.bool true, .int .i64 0]) (List.set H' 1 (.map (heldE [mA]) : KObj)))) /\ (((some (.cells true 0 [.map (some 1)] : KObj) = some (.cells true 0 [.map (some 1)] : KObj)) /\ (some (.map (heldE [mA]) : KObj) = some (.map (heldE [mA]) : KObj)) /\ True) /\ (∀ H' : Heap, H'.length = 2 -> (H'[0]? = some (.cells true 0 [.map (some 1)] : KObj) /\ H'[1]? = some (.map (heldE [mA]) : KObj) /\ True) -> KCall prog 31 [.pointer (some ⟨0, 0, none⟩), .agg #[.int .i64 1, .int .i64 2, .int .i64 10, .int .i64 1, .int .i64 7, .int .i64 3, .int .i64 0]] H' [1] (Is (.tuple #[.bool true, .int .i64 0]) (List.set H' 1 (.map (heldE [mA, mB]) : KObj)))) /\ (((some (.cells true 0 [.map (some 1)] : KObj) = some (.cells true 0 [.map (some 1)] : KObj)) /\ (some (.map (heldE [mA, mB]) : KObj) = some (.map (heldE [mA, mB]) : KObj)) /\ True) /\ (∀ H' : Heap, H'.length = 2 -> (H'[0]? = some (.cells true 0 [.map (some 1)] : KObj) /\ H'[1]? = some (.map (heldE [mA, mB]) : KObj) /\ True) -> KCall prog 34 [.pointer (some ⟨0, 0, none⟩)] H' [] (Is (.tuple #[.slice (some ⟨2, 0, some 2⟩) 0 0, .int .i64 0]) (H' ++ [(.cells true 7 [] : KObj)]))) /\ (((some (.cells true 0 [.map (some 1)] : KObj) = some (.cells true 0 [.map (some 1)] : KObj)) /\ (some (.map (heldE [mA, mB]) : KObj) = some (.map (heldE [mA, mB]) : KObj)) /\ True) /\ (∀ H' : Heap, H'.length = 3 -> (H'[0]? = some (.cells true 0 [.map (some 1)] : KObj) /\ H'[1]? = some (.map (heldE [mA, mB]) : KObj) /\ True) -> KCall prog 33 [.pointer (some ⟨0, 0, none⟩), .int .i64 1] H' [] (Is (.tuple #[.slice (some ⟨3, 0, some 1⟩) 2 2, .int .i64 0]) (H' ++ [(.cells true 2 [.int .i64 1, .int .i64 1, .int .i64 3, .int .i64 4] : KObj)]))) /\ (((some (.cells true 0 [.map (some 1)] : KObj) = some (.cells true 0 [.map (some 1)] : KObj)) /\ (some (.map (heldE [mA, mB]) : KObj) = some (.map (heldE [mA, mB]) : KObj)) /\ True) /\ (∀ H' : Heap, H'.length = 5 -> (H'[0]? = some (.cells true 0 [.map (some 1)] : KObj) /\ H'[1]? = some (.map (heldE [mA, mB]) : KObj) /\ True) -> KCall prog 31 [.pointer (some ⟨0, 0, none⟩), .agg #[.int .i64 1, .int .i64 5, .int .i64 9, .int .i64 1, .int .i64 8, .int .i64 0, .int .i64 0]] H' [1] (Is (.tuple #[.bool true, .int .i64 0]) (List.set H' 1 (.map (heldE [mA, mB, mC]) : KObj)))) /\ (((some (.cells true 0 [.map (some 1)] : KObj) = some (.cells true 0 [.map (some 1)] : KObj)) /\ (some (.map (heldE [mA, mB, mC]) : KObj) = some (.map (heldE [mA, mB, mC]) : KObj)) /\ True) /\ (∀ H' : Heap, H'.length = 5 -> (H'[0]? = some (.cells true 0 [.map (some 1)] : KObj) /\ H'[1]? = some (.map (heldE [mA, mB, mC]) : KObj) /\ True) -> KCall prog 34 [.pointer (some ⟨0, 0, none⟩)] H' [] (Is (.tuple #[.slice (some ⟨5, 0, some 2⟩) 1 1, .int .i64 0]) (H' ++ [(.cells true 7 [.int .i64 1, .int .i64 2, .int .i64 10, .int .i64 1, .int .i64 7, .int .i64 3, .int .i64 0] : KObj)]))) /\ (((some (.cells true 1 [.bool false, .bool false, .bool false, .bool false, .bool false] : KObj) = some (.cells true 1 [.bool false, .bool false, .bool false, .bool false, .bool false] : KObj)) /\ (some (.cells true 2 [.int .i64 0, .int .i64 0, .int .i64 30, .int .i64 4, .int .i64 40, .int .i64 2] : KObj) = some (.cells true 2 [.int .i64 0, .int .i64 0, .int .i64 30, .int .i64 4, .int .i64 40, .int .i64 2] : KObj)) /\ True) /\ (∀ H' : Heap, H'.length = 23 -> (H'[15]? = some (.cells true 1 [.bool false, .bool false, .bool false, .bool false, .bool false] : KObj) /\ H'[21]? = some (.cells true 2 [.int .i64 0, .int .i64 0, .int .i64 30, .int .i64 4, .int .i64 40, .int .i64 2] : KObj) /\ True) -> KCall prog 24 [.agg #[.int .i64 5, .int .i64 1, .slice (some ⟨15, 0, none⟩) 5 5, .int .i64 10, .slice (some ⟨21, 0, none⟩) 3 3]] H' [] (Is (.tuple #[.slice (some ⟨23, 0, none⟩) 3 3, .int .i64 0]) (H' ++ [(.cells true 1 [.bool true, .bool false, .bool true] : KObj)]))) /\ (((some (.cells true 1 [.bool false, .bool false, .bool false, .bool false, .bool false] : KObj) = some (.cells true 1 [.bool false, .bool false, .bool false, .bool false, .bool false] : KObj)) /\ (some (.cells true 2 [.int .i64 0, .int .i64 0, .int .i64 40, .int .i64 2] : KObj) = some (.cells true 2 [.int .i64 0, .int .i64 0, .int .i64 40, .int .i64 2] : KObj)) /\ True) /\ (∀ H' : Heap, H'.length = 26 -> (H'[15]? = some (.cells true 1 [.bool false, .bool false, .bool false, .bool false, .bool false] : KObj) /\ H'[25]? = some (.cells true 2 [.int .i64 0, .int .i64 0, .int .i64 40, .int .i64 2] : KObj) /\ True) -> KCall prog 18 [.agg #[.int .i64 5, .int .i64 1, .slice (some ⟨15, 0, none⟩) 5 5, .int .i64 10, .slice (some ⟨25, 0, none⟩) 2 2], .int .i64 25] H' [] (Is (.tuple #[.slice (some ⟨26, 0, none⟩) 2 2, .int .i64 0]) (H' ++ [(.cells true 1 [.int .i64 1, .int .i64 2] : KObj)]))) /\ (((some (.cells true 1 [.bool false, .bool false, .bool false, .bool false, .bool false] : KObj) = some (.cells true 1 [.bool false, .bool false, .bool false, .bool false, .bool false] : KObj)) /\ (some (.cells true 2 [.int .i64 0, .int .i64 0, .int .i64 40, .int .i64 2] : KObj) = some (.cells true 2 [.int .i64 0, .int .i64 0, .int .i64 40, .int .i64 2] : KObj)) /\ True) /\ (∀ H' : Heap, H'.length = 27 -> (H'[15]? = some (.cells true 1 [.bool false, .bool false, .bool false, .bool false, .bool false] : KObj) /\ H'[25]? = some (.cells true 2 [.int .i64 0, .int .i64 0, .int .i64 40, .int .i64 2] : KObj) /\ True) -> KCall prog 19 [.agg #[.int .i64 5, .int .i64 1, .slice (some ⟨15, 0, none⟩) 5 5, .int .i64 10, .slice (some ⟨25, 0, none⟩) 2 2], .int .i64 1] H' [] (Is (.tuple #[.slice (some ⟨27, 0, none⟩) 1 1, .int .i64 0]) (H' ++ [(.cells true 2 [.int .i64 10, .int .i64 30] : KObj)]))) /\ (.bool true : Value) = sp))))))))))
theorem Eawake (sp : Value)  : vF prog msk (dm 0) 100000 true 40 true 14 [] ⟨0, .leaf⟩ (some [])
  (.go 0 (.ans [] (.tuple #[.pointer (some ⟨0, 0, none⟩), .int .i64 0]) [.cells true 0 [.map (some 1)], .map (heldE [])] (.go 13 (.answ [(0, .cells true 0 [.map (some 1)]), (1, .map (heldE []))] (.tuple #[.bool true, .int .i64 0]) [(1, .map (heldE [mA]))] [] (.go 6 (.answ [(0, .cells true 0 [.map (some 1)]), (1, .map (heldE [mA]))] (.tuple #[.bool true, .int .i64 0]) [(1, .map (heldE [mA, mB]))] [] (.go 5 (.ans [(0, .cells true 0 [.map (some 1)]), (1, .map (heldE [mA, mB]))] (.tuple #[.slice (some ⟨2, 0, some 2⟩) 0 0, .int .i64 0]) [.cells true 7 []] (.go 5 (.ans [(0, .cells true 0 [.map (some 1)]), (1, .map (heldE [mA, mB]))] (.tuple #[.slice (some ⟨3, 0, some 1⟩) 2 2, .int .i64 0]) [.cells true 2 [.int .i64 1, .int .i64 1, .int .i64 3, .int .i64 4]] (.go 92 (.answ [(0, .cells true 0 [.map (some 1)]), (1, .map (heldE [mA, mB]))] (.tuple #[.bool true, .int .i64 0]) [(1, .map (heldE [mA, mB, mC]))] [] (.go 4 (.ans [(0, .cells true 0 [.map (some 1)]), (1, .map (heldE [mA, mB, mC]))] (.tuple #[.slice (some ⟨5, 0, some 2⟩) 1 1, .int .i64 0]) [.cells true 7 [.int .i64 1, .int .i64 2, .int .i64 10, .int .i64 1, .int .i64 7, .int .i64 3, .int .i64 0]] (.go 117 (.ans [(15, .cells true 1 [.bool false, .bool false, .bool false, .bool false, .bool false]), (21, .cells true 2 [.int .i64 0, .int .i64 0, .int .i64 30, .int .i64 4, .int .i64 40, .int .i64 2])] (.tuple #[.slice (some ⟨23, 0, none⟩) 3 3, .int .i64 0]) [.cells true 1 [.bool true, .bool false, .bool true]] (.go 16 (.ans [(15, .cells true 1 [.bool false, .bool false, .bool false, .bool false, .bool false]), (25, .cells true 2 [.int .i64 0, .int .i64 0, .int .i64 40, .int .i64 2])] (.tuple #[.slice (some ⟨26, 0, none⟩) 2 2, .int .i64 0]) [.cells true 1 [.int .i64 1, .int .i64 2]] (.go 5 (.ans [(15, .cells true 1 [.bool false, .bool false, .bool false, .bool false, .bool false]), (25, .cells true 2 [.int .i64 0, .int .i64 0, .int .i64 40, .int .i64 2])] (.tuple #[.slice (some ⟨27, 0, none⟩) 1 1, .int .i64 0]) [.cells true 2 [.int .i64 10, .int .i64 30]] (.auto)))))))))))))))))))))
  (fun v _ _ => v = sp) = Rawake sp  := by kernel_rfl
end
end Go.Proofs.YtbgfjemppjhmjaaGreat
/- Radio: maps of numbers that are known,and the greatest value in one. No condition. -/
namespace Go.Proofs.YtbgfjemppjhmjaaGreat
set_option linter.unusedSimpArgs false
open Go Go.K
set_option linter.unusedVariables false
noncomputable section
abbrev sL (i n c : Nat) : Value:=.slice (some ⟨i,0,none⟩) n c
abbrev mapI (F : List (Int × Int)) : List (Value × Value):=encA (fun k : Int => .int .i64 k) (fun v : Int => .int .i64 v) F
def SeenL (n : Nat) (s : List Nat) : Prop:=s.Nodup /\ ∀ i ∈ s,i < n
def maxS (E : List (Int × Int)) (s : List Nat) : Int:=s.foldl (fun n i => if (List.getD E i (0,0)).2 > n then (List.getD E i (0,0)).2 else n) 0
def maxI (E : List (Int × Int)) : Int:=E.foldl (fun n e => if e.2 > n then e.2 else n) 0
theorem seenL_0 (n : Nat) : SeenL n []:=⟨List.nodup_nil,fun i h => by cases h⟩
theorem seenL_snoc {n : Nat} {s : List Nat} {i : Nat} (h : SeenL n s) (hi : i < n) (hn : i ∉ s) : SeenL n (s ++ [i]) :=
 ⟨List.nodup_append.2 ⟨h.1,(by simp),fun a ha b hb e => hn (by rw [List.mem_singleton.1 hb] at e; exact e ▸ ha)⟩,fun j hj => by
  rcases List.mem_append.1 hj with h1 | h1
  ·exact h.2 j h1
  ·rw [List.mem_singleton.1 h1]; exact hi⟩
theorem seenL_len {n : Nat} {s : List Nat} (h : SeenL n s) : s.length <= n:=by
 have h2:=seen_len (L:=List.replicate n zeroM) (s:=s) ⟨h.1,fun i hi => by rw [List.length_replicate]; exact h.2 i hi⟩
 rwa [List.length_replicate] at h2
theorem seenL_more {n : Nat} {s : List Nat} {i : Nat} (h : SeenL n s) (hi : i < n) (hn : i ∉ s) : n - (s ++ [i]).length < n - s.length:=by
 have:=seenL_len (seenL_snoc h hi hn)
 rw [List.length_append] at this ⊢
 simp only [List.length_cons,List.length_nil] at this ⊢
 omega
theorem maxS_snoc (E : List (Int × Int)) (s : List Nat) (i : Nat) : maxS E (s ++ [i]) = if (List.getD E i (0,0)).2 > maxS E s then (List.getD E i (0,0)).2 else maxS E s:=by
 unfold maxS; rw [List.foldl_append]; rfl
theorem maxS_all {E : List (Int × Int)} {s : List Nat} (h : SeenL E.length s) (h3 : ∀ i,i < E.length -> i ∈ s) {k : Int} (hk : maxI E = k) : maxS E s = k:=by
 have hp : s.Perm (List.range E.length):=seen_perm h.1 h.2 h3
 rw [<- hk]
 have e1 : maxS E s = maxS E (List.range E.length):=by
  unfold maxS
  refine hp.foldl_eq' (fun x _ y _ z => ?_) 0
  repeat' split
  all_goals omega
 rw [e1]
 have e2 : maxI E = maxI ((List.range E.length).map fun i => E.getD i (0,0)):=by rw [rangeG]
 rw [e2]
 unfold maxS maxI
 rw [List.foldl_map]
theorem entI (E : List (Int × Int)) {i : Nat} (hi : i < E.length) (s : List Nat) : entryE (mapI E) (s ++ [i]) = some (.tuple #[.int .i64 (List.getD E i (0,0)).1,.int .i64 (List.getD E i (0,0)).2]):=by
 unfold mapI
 rw [entry_A (0,0) hi]
end
end Go.Proofs.YtbgfjemppjhmjaaGreat
/- Closed calls of the chapter's examples. Printed by a program. No condition. -/
namespace Go.Proofs.YtbgfjemppjhmjaaGreat
set_option linter.unusedSimpArgs false
open Go Go.K
set_option maxRecDepth 1000000
set_option maxHeartbeats 4000000
set_option linter.unusedVariables false
noncomputable section
attribute [local irreducible] vF
def R106_733418866 : Prop :=
 (/-N ⟨(by kernel_rfl),REST⟩-/(ksetE prog 3 (nI 0) (nI 1) (mapI []) = some (mapI [(0,1)])) /\ (/-N ⟨(by kernel_rfl),REST⟩-/(ksetE prog 3 (nI 1) (nI 1) (mapI [(0,1)]) = some (mapI [(0,1),(1,1)])) /\ (/-N ⟨(by kernel_rfl),REST⟩-/(ksetE prog 3 (nI 2) (nI 1) (mapI [(0,1),(1,1)]) = some (mapI [(0,1),(1,1),(2,1)])) /\ (/-N ⟨(by kernel_rfl),REST⟩-/(klookE prog 3 (nI 0) (nI 2) false (mapI [(0,1),(1,1),(2,1)]) = some (nI 1)) /\ (/-N ⟨(by kernel_rfl),REST⟩-/(klookE prog 3 (nI 0) (nI 0) false (mapI [(0,1),(1,1),(2,1)]) = some (nI 1)) /\ (/-N ⟨(by kernel_rfl),REST⟩-/(ksetE prog 3 (nI 2) (nI 2) (mapI [(0,1),(1,1),(2,1)]) = some (mapI [(0,1),(1,1),(2,2)])) /\ (true = true /\ wk (.map (some 11) : Value) (rn (sg 8 [(8,11)]) 3 (.map (some 8) : Value)) /\ (wkO (.map (mapI [(0,1),(1,1),(2,2)]) : KObj) (rno (sg 8 [(8,11)]) 3 (.map (mapI [(0,1),(1,1),(2,2)]) : KObj)) /\ True))))))))
theorem E106_733418866 : vF prog msk (dm 0) 100000 true 40 true 106 [.pointer (some ⟨0,0,none⟩),sL 1 3 3] (readsT 0 [[nI 5,nI 1,sL 2 5 5,nI 10,sL 3 3 3,sL 4 3 3],[nI 0,nI 1,nI 2],[.bool false,.bool false,.bool false,.bool false,.bool false],[nI 0,nI 0,nI 30,nI 4,nI 40,nI 2],[sL 5 5 5,sL 6 5 5,sL 7 5 5],[nI 0,nI 1,nI 2,nI 3,nI 4],[nI 4,nI 3,nI 2,nI 1,nI 0],[nI 2,nI 1,nI 0,nI 1,nI 2]]) (some [])
 (.go 14 (.into (some [8,9,10]) (.go 3 (.into (some [8,9,10]) (.go 11 (.into (some [8,9,10]) (.go 120 (.mset (mapI [(0,1)]) (.go 17 (.mset (mapI [(0,1),(1,1)]) (.go 108 (.mset (mapI [(0,1),(1,1),(2,1)]) (.go 97 (.val (nI 1) (.go 1 (.val (nI 1) (.go 1 (.mset (mapI [(0,1),(1,1),(2,2)]) (.go 100 (.again [(8,11)]))))))))))))))))))))
 (newK (readsT 0 [[nI 5,nI 1,sL 2 5 5,nI 10,sL 3 3 3,sL 4 3 3],[nI 0,nI 1,nI 2],[.bool false,.bool false,.bool false,.bool false,.bool false],[nI 0,nI 0,nI 30,nI 4,nI 40,nI 2],[sL 5 5 5,sL 6 5 5,sL 7 5 5],[nI 0,nI 1,nI 2,nI 3,nI 4],[nI 4,nI 3,nI 2,nI 1,nI 0],[nI 2,nI 1,nI 0,nI 1,nI 2]]).n 3 (.map (some 8)) [(false,.map (mapI [(0,1),(1,1),(2,2)]))]) = R106_733418866:=by kernel_rfl
theorem P106_733418866 : R106_733418866:=⟨(by kernel_rfl),⟨(by kernel_rfl),⟨(by kernel_rfl),⟨(by kernel_rfl),⟨(by kernel_rfl),⟨(by kernel_rfl),⟨rfl,wk_of_eq rfl,wkO_of_eq rfl,trivial⟩⟩⟩⟩⟩⟩⟩
theorem C106_733418866 {H : Heap} (ids : List Nat) (h : InsA H (sgR 0 ids) ids [[nI 5,nI 1,sL 2 5 5,nI 10,sL 3 3 3,sL 4 3 3],[nI 0,nI 1,nI 2],[.bool false,.bool false,.bool false,.bool false,.bool false],[nI 0,nI 0,nI 30,nI 4,nI 40,nI 2],[sL 5 5 5,sL 6 5 5,sL 7 5 5],[nI 0,nI 1,nI 2,nI 3,nI 4],[nI 4,nI 3,nI 2,nI 1,nI 0],[nI 2,nI 1,nI 0,nI 1,nI 2]]) : KCall prog 106 (([.pointer (some ⟨0,0,none⟩),sL 1 3 3] : List Value).map (rn (sgR 0 ids) 3)) H [] (Is (rn (sgUp 8 H.length) 3 (.map (some 8))) (H ++ [rno (sgUp 8 H.length) 3 (.map (mapI [(0,1),(1,1),(2,2)]))])) :=
 valNA (css:=[[nI 5,nI 1,sL 2 5 5,nI 10,sL 3 3 3,sL 4 3 3],[nI 0,nI 1,nI 2],[.bool false,.bool false,.bool false,.bool false,.bool false],[nI 0,nI 0,nI 30,nI 4,nI 40,nI 2],[sL 5 5 5,sL 6 5 5,sL 7 5 5],[nI 0,nI 1,nI 2,nI 3,nI 4],[nI 4,nI 3,nI 2,nI 1,nI 0],[nI 2,nI 1,nI 0,nI 1,nI 2]]) (v:=.map (some 8)) (new:=[(false,.map (mapI [(0,1),(1,1),(2,2)]))]) (Eq.mpr E106_733418866 P106_733418866) rfl rfl rfl rfl ids h.len h.get
def R106_276827979 : Prop :=
 (/-N ⟨(by kernel_rfl),REST⟩-/(ksetE prog 3 (nI 0) (nI 1) (mapI []) = some (mapI [(0,1)])) /\ (/-N ⟨(by kernel_rfl),REST⟩-/(ksetE prog 3 (nI 2) (nI 1) (mapI [(0,1)]) = some (mapI [(0,1),(2,1)])) /\ (/-N ⟨(by kernel_rfl),REST⟩-/(klookE prog 3 (nI 0) (nI 2) false (mapI [(0,1),(2,1)]) = some (nI 1)) /\ (/-N ⟨(by kernel_rfl),REST⟩-/(klookE prog 3 (nI 0) (nI 0) false (mapI [(0,1),(2,1)]) = some (nI 1)) /\ (/-N ⟨(by kernel_rfl),REST⟩-/(ksetE prog 3 (nI 2) (nI 2) (mapI [(0,1),(2,1)]) = some (mapI [(0,1),(2,2)])) /\ (true = true /\ wk (.map (some 11) : Value) (rn (sg 8 [(8,11)]) 3 (.map (some 8) : Value)) /\ (wkO (.map (mapI [(0,1),(2,2)]) : KObj) (rno (sg 8 [(8,11)]) 3 (.map (mapI [(0,1),(2,2)]) : KObj)) /\ True)))))))
theorem E106_276827979 : vF prog msk (dm 0) 100000 true 40 true 106 [.pointer (some ⟨0,0,none⟩),sL 1 2 3] (readsT 0 [[nI 5,nI 1,sL 2 5 5,nI 10,sL 3 3 3,sL 4 3 3],[nI 0,nI 2,nI 0],[.bool false,.bool false,.bool false,.bool false,.bool false],[nI 0,nI 0,nI 30,nI 4,nI 40,nI 2],[sL 5 5 5,sL 6 5 5,sL 7 5 5],[nI 0,nI 1,nI 2,nI 3,nI 4],[nI 4,nI 3,nI 2,nI 1,nI 0],[nI 2,nI 1,nI 0,nI 1,nI 2]]) (some [])
 (.go 14 (.into (some [8,9,10]) (.go 3 (.into (some [8,9,10]) (.go 11 (.into (some [8,9,10]) (.go 72 (.mset (mapI [(0,1)]) (.go 17 (.mset (mapI [(0,1),(2,1)]) (.go 97 (.val (nI 1) (.go 1 (.val (nI 1) (.go 1 (.mset (mapI [(0,1),(2,2)]) (.go 9 (.again [(8,11)]))))))))))))))))))
 (newK (readsT 0 [[nI 5,nI 1,sL 2 5 5,nI 10,sL 3 3 3,sL 4 3 3],[nI 0,nI 2,nI 0],[.bool false,.bool false,.bool false,.bool false,.bool false],[nI 0,nI 0,nI 30,nI 4,nI 40,nI 2],[sL 5 5 5,sL 6 5 5,sL 7 5 5],[nI 0,nI 1,nI 2,nI 3,nI 4],[nI 4,nI 3,nI 2,nI 1,nI 0],[nI 2,nI 1,nI 0,nI 1,nI 2]]).n 3 (.map (some 8)) [(false,.map (mapI [(0,1),(2,2)]))]) = R106_276827979:=by kernel_rfl
theorem P106_276827979 : R106_276827979:=⟨(by kernel_rfl),⟨(by kernel_rfl),⟨(by kernel_rfl),⟨(by kernel_rfl),⟨(by kernel_rfl),⟨rfl,wk_of_eq rfl,wkO_of_eq rfl,trivial⟩⟩⟩⟩⟩⟩
theorem C106_276827979 {H : Heap} (ids : List Nat) (h : InsA H (sgR 0 ids) ids [[nI 5,nI 1,sL 2 5 5,nI 10,sL 3 3 3,sL 4 3 3],[nI 0,nI 2,nI 0],[.bool false,.bool false,.bool false,.bool false,.bool false],[nI 0,nI 0,nI 30,nI 4,nI 40,nI 2],[sL 5 5 5,sL 6 5 5,sL 7 5 5],[nI 0,nI 1,nI 2,nI 3,nI 4],[nI 4,nI 3,nI 2,nI 1,nI 0],[nI 2,nI 1,nI 0,nI 1,nI 2]]) : KCall prog 106 (([.pointer (some ⟨0,0,none⟩),sL 1 2 3] : List Value).map (rn (sgR 0 ids) 3)) H [] (Is (rn (sgUp 8 H.length) 3 (.map (some 8))) (H ++ [rno (sgUp 8 H.length) 3 (.map (mapI [(0,1),(2,2)]))])) :=
 valNA (css:=[[nI 5,nI 1,sL 2 5 5,nI 10,sL 3 3 3,sL 4 3 3],[nI 0,nI 2,nI 0],[.bool false,.bool false,.bool false,.bool false,.bool false],[nI 0,nI 0,nI 30,nI 4,nI 40,nI 2],[sL 5 5 5,sL 6 5 5,sL 7 5 5],[nI 0,nI 1,nI 2,nI 3,nI 4],[nI 4,nI 3,nI 2,nI 1,nI 0],[nI 2,nI 1,nI 0,nI 1,nI 2]]) (v:=.map (some 8)) (new:=[(false,.map (mapI [(0,1),(2,2)]))]) (Eq.mpr E106_276827979 P106_276827979) rfl rfl rfl rfl ids h.len h.get
def R106_671112452 : Prop :=
 (/-N ⟨(by kernel_rfl),REST⟩-/(ksetE prog 3 (nI 0) (nI 1) (mapI []) = some (mapI [(0,1)])) /\ (/-N ⟨(by kernel_rfl),REST⟩-/(ksetE prog 3 (nI 2) (nI 1) (mapI [(0,1)]) = some (mapI [(0,1),(2,1)])) /\ (/-N ⟨(by kernel_rfl),REST⟩-/(klookE prog 3 (nI 0) (nI 2) false (mapI [(0,1),(2,1)]) = some (nI 1)) /\ (/-N ⟨(by kernel_rfl),REST⟩-/(klookE prog 3 (nI 0) (nI 0) false (mapI [(0,1),(2,1)]) = some (nI 1)) /\ (/-N ⟨(by kernel_rfl),REST⟩-/(ksetE prog 3 (nI 2) (nI 2) (mapI [(0,1),(2,1)]) = some (mapI [(0,1),(2,2)])) /\ (true = true /\ wk (.map (some 11) : Value) (rn (sg 8 [(8,11)]) 3 (.map (some 8) : Value)) /\ (wkO (.map (mapI [(0,1),(2,2)]) : KObj) (rno (sg 8 [(8,11)]) 3 (.map (mapI [(0,1),(2,2)]) : KObj)) /\ True)))))))
theorem E106_671112452 : vF prog msk (dm 0) 100000 true 40 true 106 [.pointer (some ⟨0,0,none⟩),sL 1 2 2] (readsT 0 [[nI 5,nI 1,sL 2 5 5,nI 10,sL 3 3 3,sL 4 3 3],[nI 0,nI 2],[.bool false,.bool false,.bool false,.bool false,.bool false],[nI 0,nI 0,nI 30,nI 4,nI 40,nI 2],[sL 5 5 5,sL 6 5 5,sL 7 5 5],[nI 0,nI 1,nI 2,nI 3,nI 4],[nI 4,nI 3,nI 2,nI 1,nI 0],[nI 2,nI 1,nI 0,nI 1,nI 2]]) (some [])
 (.go 14 (.into (some [8,9,10]) (.go 3 (.into (some [8,9,10]) (.go 11 (.into (some [8,9,10]) (.go 72 (.mset (mapI [(0,1)]) (.go 17 (.mset (mapI [(0,1),(2,1)]) (.go 97 (.val (nI 1) (.go 1 (.val (nI 1) (.go 1 (.mset (mapI [(0,1),(2,2)]) (.go 9 (.again [(8,11)]))))))))))))))))))
 (newK (readsT 0 [[nI 5,nI 1,sL 2 5 5,nI 10,sL 3 3 3,sL 4 3 3],[nI 0,nI 2],[.bool false,.bool false,.bool false,.bool false,.bool false],[nI 0,nI 0,nI 30,nI 4,nI 40,nI 2],[sL 5 5 5,sL 6 5 5,sL 7 5 5],[nI 0,nI 1,nI 2,nI 3,nI 4],[nI 4,nI 3,nI 2,nI 1,nI 0],[nI 2,nI 1,nI 0,nI 1,nI 2]]).n 3 (.map (some 8)) [(false,.map (mapI [(0,1),(2,2)]))]) = R106_671112452:=by kernel_rfl
theorem P106_671112452 : R106_671112452:=⟨(by kernel_rfl),⟨(by kernel_rfl),⟨(by kernel_rfl),⟨(by kernel_rfl),⟨(by kernel_rfl),⟨rfl,wk_of_eq rfl,wkO_of_eq rfl,trivial⟩⟩⟩⟩⟩⟩
theorem C106_671112452 {H : Heap} (ids : List Nat) (h : InsA H (sgR 0 ids) ids [[nI 5,nI 1,sL 2 5 5,nI 10,sL 3 3 3,sL 4 3 3],[nI 0,nI 2],[.bool false,.bool false,.bool false,.bool false,.bool false],[nI 0,nI 0,nI 30,nI 4,nI 40,nI 2],[sL 5 5 5,sL 6 5 5,sL 7 5 5],[nI 0,nI 1,nI 2,nI 3,nI 4],[nI 4,nI 3,nI 2,nI 1,nI 0],[nI 2,nI 1,nI 0,nI 1,nI 2]]) : KCall prog 106 (([.pointer (some ⟨0,0,none⟩),sL 1 2 2] : List Value).map (rn (sgR 0 ids) 3)) H [] (Is (rn (sgUp 8 H.length) 3 (.map (some 8))) (H ++ [rno (sgUp 8 H.length) 3 (.map (mapI [(0,1),(2,2)]))])) :=
 valNA (css:=[[nI 5,nI 1,sL 2 5 5,nI 10,sL 3 3 3,sL 4 3 3],[nI 0,nI 2],[.bool false,.bool false,.bool false,.bool false,.bool false],[nI 0,nI 0,nI 30,nI 4,nI 40,nI 2],[sL 5 5 5,sL 6 5 5,sL 7 5 5],[nI 0,nI 1,nI 2,nI 3,nI 4],[nI 4,nI 3,nI 2,nI 1,nI 0],[nI 2,nI 1,nI 0,nI 1,nI 2]]) (v:=.map (some 8)) (new:=[(false,.map (mapI [(0,1),(2,2)]))]) (Eq.mpr E106_671112452 P106_671112452) rfl rfl rfl rfl ids h.len h.get
end
end Go.Proofs.YtbgfjemppjhmjaaGreat
