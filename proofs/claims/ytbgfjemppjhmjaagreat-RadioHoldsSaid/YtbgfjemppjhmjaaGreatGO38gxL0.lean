/- What is to be shown of functions. Printed by a program. No condition. -/
import Derived.Test.YtbgfjemppjhmjaaGreatGO34gxW39
import Derived.Test.YtbgfjemppjhmjaaGreatGO28gxW30
import Derived.Test.YtbgfjemppjhmjaaGreatRows
import Derived.JoinedCond
import Derived.Test.YtbgfjemppjhmjaaGreatGW2xO3g
import Derived.Test.YtbgfjemppjhmjaaGreatGK27xW1
namespace Go.Proofs.YtbgfjemppjhmjaaGreat
set_option linter.unusedSimpArgs false
open Go Go.K
set_option maxRecDepth 100000
set_option maxHeartbeats 4000000
set_option linter.unusedVariables false
noncomputable section
abbrev ko9 (qn0 : Nat) (qv0 : Value) : Prop:=(True) /\ (∀ H' : Heap,H'.length = qn0 -> (True) -> KCall prog 14 [] H' [] (Is (.bool true) H')) /\ (.bool true : Value) = qv0
abbrev kol (N : List Int) : Value:=.agg ⟨(N.flatMap intC)⟩
abbrev kop (qd0 : List Int) : List Value:=[.iface (qd0.length + 1) (.agg ⟨(qd0.flatMap intC)⟩),nI (wtN (wtW qd0 0 * wtH qd0 0).toNat)]
abbrev koa (qd0 : List Int) : KObj:=.cells true 0 (kop qd0)
abbrev kom (N : List Int) (z : Int) : List Value:=[.iface (N.length + 1) (kol N),nI ((slF N (wtW N 0) (wtH N 0) (wtLd N) (pcP z) (wtN (wtW N 0 * wtH N 0).toNat)).q)]
abbrev kof (S : List Int) : Value:=.iface (S.length + 1) (.agg ⟨(S.flatMap intC)⟩)
abbrev kok : Value:=.bool false
abbrev koe : Prop:=(.pointer (some ⟨2,0,none⟩) : Value) = .pointer (some ⟨2,0,none⟩) /\ wkR (slQ 3 2 121) /\ True
abbrev koq (S : List Int) (n_0 : Nat) : Int:=((S.getD n_0 0) % 121)
abbrev kod (qd0 : List Int) (qi0 : Int) (qd1 : List Int) (qn0 : Nat) : Prop:=((atL qd0 (pcP qi0)).flatMap intC)[(0 + Int.toNat ((qd1.getD qn0 0) % 121) * 1)]? = some (nI ((atL qd0 (pcP qi0)).getD ((qd1.getD qn0 0) % 121).toNat 0))
abbrev ko3 (qd0 : List Int) (qi0 : Int) (qd1 : List Int) (qn0 : Nat) : KObj:=.cells true 0 [nI (wtW qd0 0),nI (wtH qd0 0),slQ 1 1 (wtLd qd0).length,nI (1 + (qi0 % 30)),slQ 4 1 (sgt qd0 qd1 qi0 qn0).length]
abbrev ko8 (qd0 : List Int) (qn0 : Nat) (qd1 : List Int) (qi0 : Int) : List Value:=[nI ((qd0.getD qn0 0) % 121),nI ((atL qd1 (pcP qi0)).getD ((qd0.getD qn0 0) % 121).toNat 0)]
abbrev ko2 (qd0 : List Int) (qd1 : List Int) (qi0 : Int) (qn0 : Nat) : Prop:=(someR (.cells true 1 ((wtLd qd0).flatMap boolC))) /\ (someR (.cells true 2 ((sgt qd0 qd1 qi0 qn0).flatMap spC))) /\ True
abbrev ko1 (qh0 : Heap) (qd0 : List Int) (qd1 : List Int) (qi0 : Int) (qn0 : Nat) : Prop:=qh0[1]? = some (.cells true 1 ((wtLd qd0).flatMap boolC) : KObj) /\ qh0[4]? = some (.cells true 2 ((sgt qd0 qd1 qi0 qn0).flatMap spC) : KObj) /\ True
abbrev koj (N : List Int) (z : Int) (S : List Int) (n_0 : Nat):=truQ N z (sgt N S z n_0)
abbrev kog (N : List Int) (S : List Int) (z : Int) (n_0 : Nat) : Prop:=wkR (slQ 3 2 121) /\ (.pointer (some ⟨2,0,none⟩) : Value) = .pointer (some ⟨2,0,none⟩) /\ (nI (msQ (sgt N S z n_0)) : Value) = nI (msQ (sgt N S z n_0)) /\ (nI (lsQ (sgt N S z n_0)) : Value) = nI (lsQ (sgt N S z n_0)) /\ wkR (slQ 6 1 (koj N z S n_0).length) /\ True
abbrev kon : Prop:=(True) /\ (True) /\ (True)
abbrev ko7 (qn0 : Nat) : Prop:=(0 : Int) <= (qn0 : Int) /\ ((qn0 : Int) : Int) < ((121 : Nat) : Int)
abbrev ko6 (qd0 : List Int) (qi0 : Int) (qn0 : Nat) : Prop:=((atL qd0 (pcP qi0)).flatMap intC)[(0 + Int.toNat (qn0 : Int) * 1)]? = some (nI ((atL qd0 (pcP qi0)).getD qn0 0))
abbrev ko0 (qn0 : Nat) (qd0 : List Int) (qd1 : List Int) (qi0 : Int) (qn1 : Nat) : Prop:=(nI (IntKind.wrap .i64 ((qn0 : Int) + 1)) : Value) = nI ((qn0 : Int) + 1) /\ (∃ n_3' : Nat,(n_3' <= 121) /\ (121 - n_3') < (121 - qn0) /\ true = true /\ ((nI ((qn0 : Int) + 1) : Value) = nI (n_3' : Int) /\ (nI (lsQ (sgt qd0 qd1 qi0 qn1)) : Value) = nI (lsQ (sgt qd0 qd1 qi0 qn1)) /\ (nI (msQ (sgt qd0 qd1 qi0 qn1)) : Value) = nI (msQ (sgt qd0 qd1 qi0 qn1)) /\ koe) /\ kon)
abbrev ko4 (qd0 : List Int) (qi0 : Int) (qd1 : List Int) (qn0 : Nat) (qn1 : Nat):=List.any (whQ qd0 qi0 (sgt qd0 qd1 qi0 qn0) (qn1 : Int)) (fun v => v == ((atL qd0 (pcP qi0)).getD qn1 0))
abbrev koi (N : List Int) (z : Int) (S : List Int) (n_0 : Nat) (n_2 : Nat):=tmQ N z (sgt N S z n_0) ((atL N (pcP z)).getD n_2 0)
abbrev kob (qd0 : List Int) (qi0 : Int) (qd1 : List Int) (qn0 : Nat) (qn1 : Nat):=notF (tmQ qd0 qi0 (sgt qd0 qd1 qi0 qn0) ((atL qd0 (pcP qi0)).getD qn1 0)) (qn1 : Int)
def Rlholds (sp : Value) (N S : List Int) (z : Int) : Prop :=
 (((decide ((10 : Int) < ((S.length : Nat) : Int))) = true -> (ko9 0 sp)) /\ ((decide ((10 : Int) < ((S.length : Nat) : Int))) = false -> (((someR (.cells true 0 [.iface (N.length + 1) (kol N),nI 0])) /\ True) /\ (∀ H' : Heap,H'.length = 1 -> (H'[0]? = some (.cells true 0 [.iface (N.length + 1) (kol N),nI 0] : KObj) /\ True) -> KCall prog 15 [.pointer (some ⟨0,0,none⟩)] H' [0] (Is (.agg #[nI (wtW N 0),nI (wtH N 0),slQ 1 1 (wtLd N).length]) ((List.set H' 0 (koa N)) ++ [(.cells true 1 ((wtLd N).flatMap boolC) : KObj)]))) /\ ((True) /\ (∀ H' : Heap,H'.length = 2 -> (True) -> KCall prog 16 [nI z,nI 30] H' [] (Is (nI (z % 30)) H')) /\ ((nI (IntKind.wrap .i64 (1 + (z % 30))) : Value) = nI (1 + (z % 30)) /\ (((someR (.cells true 0 [.iface (N.length + 1) (kol N),nI (wtN (wtW N 0 * wtH N 0).toNat)])) /\ (someR (.cells true 1 ((wtLd N).flatMap boolC))) /\ True) /\ (∀ H' : Heap,H'.length = 3 -> (H'[0]? = some (koa N) /\ H'[1]? = some (.cells true 1 ((wtLd N).flatMap boolC) : KObj) /\ True) -> KCall prog 17 [.pointer (some ⟨0,0,none⟩),.agg #[nI (wtW N 0),nI (wtH N 0),slQ 1 1 (wtLd N).length],nI (1 + (z % 30)),nI 120] H' [0] (Is (slQ 3 2 121) ((List.set H' 0 (.cells true 0 (kom N z) : KObj)) ++ [(.cells true 1 ((atL N (pcP z)).flatMap intC) : KObj)]))) /\ (true = true /\ (0 <= List.length S) /\ (true = true /\ ((nI 0 : Value) = nI ((0 : Nat) : Int) /\ (nI 120 : Value) = nI (lsQ (sgt N S z 0)) /\ (nI 0 : Value) = nI (msQ (sgt N S z 0)) /\ (kof S) = rn (sg 4 []) 3 (kof S) /\ kok = .bool false /\ koe) /\ (wkO (.cells true 0 [nI (wtW N 0),nI (wtH N 0),slQ 1 1 (wtLd N).length,nI (1 + (z % 30)),.slice none 0 0] : KObj) (rno (sg 4 []) 3 (.cells true 0 [nI (wtW N 0),nI (wtH N 0),slQ 1 1 (wtLd N).length,nI (1 + (z % 30)),slQ 4 1 (sgt N S z 0).length] : KObj)) /\ True) /\ (True /\ True) /\ (True)) /\ (∀ n_0 : Nat,true = true) /\ ∀ n_0 : Nat,(n_0 <= List.length S) -> (((decide (((n_0 : Int) : Int) < ((S.length : Nat) : Int))) = true -> (((0 : Int) <= (n_0 : Int) /\ ((n_0 : Int) : Int) < ((S.length : Nat) : Int)) /\ (((S.flatMap intC)[(Int.toNat (n_0 : Int) * 1)]? = some (nI (S.getD n_0 0))) /\ ((True) /\ (∀ H' : Heap,H'.length = 5 -> (True) -> KCall prog 16 [nI (S.getD n_0 0),nI 121] H' [] (Is (nI ((S.getD n_0 0) % 121)) H')) /\ (((0 : Int) <= ((S.getD n_0 0) % 121) /\ (koq S n_0) < ((121 : Nat) : Int)) /\ ((kod N z S n_0) /\ (((decide ((((atL N (pcP z)).getD ((S.getD n_0 0) % 121).toNat 0) : Int) < 0)) = true -> ((nI (IntKind.wrap .i64 ((n_0 : Int) + 1)) : Value) = nI ((n_0 : Int) + 1) /\ (∃ n_1' : Nat,(n_1' <= List.length S) /\ (List.length S - n_1') < (List.length S - n_0) /\ true = true /\ ((nI ((n_0 : Int) + 1) : Value) = nI (n_1' : Int) /\ (nI (lsQ (sgt N S z n_0)) : Value) = nI (lsQ (sgt N S z n_1')) /\ (nI (msQ (sgt N S z n_0)) : Value) = nI (msQ (sgt N S z n_1')) /\ (kof S) = rn (sg 4 [(4,4)]) 3 (kof S) /\ kok = .bool false /\ koe) /\ (wkO (ko3 N z S n_0) (rno (sg 4 [(4,4)]) 3 (ko3 N z S n_1')) /\ True) /\ ((some (.cells true 2 ((sgt N S z n_0).flatMap spC) : KObj) = some (.cells true 2 ((sgt N S z n_1').flatMap spC) : KObj) /\ belowO 4 (.cells true 2 ((sgt N S z n_1').flatMap spC) : KObj) = true) /\ True) /\ (True)))) /\ ((decide ((((atL N (pcP z)).getD ((S.getD n_0 0) % 121).toNat 0) : Int) < 0)) = false -> (((0 : Int) <= ((S.getD n_0 0) % 121) /\ (koq S n_0) < ((121 : Nat) : Int)) /\ ((kod N z S n_0) /\ ((((sgt N S z n_0).length + 1) * 16 <= 2 ^ 44 /\ 1 ≠ 0 /\ ((sgt N S z n_0).length <= (sgt N S z n_0).length /\ 0 + (sgt N S z n_0).length * 2 <= List.length ((sgt N S z n_0).flatMap spC)) /\ (1 <= 1 /\ 0 + 1 * 2 <= List.length (ko8 S n_0 N z)) /\ ((((ko8 S n_0 N z).drop 0).take (1 * 2)) : List Value).all (fun v => one1 v) = true) /\ true = true /\ ((nI (IntKind.wrap .i64 ((n_0 : Int) + 1)) : Value) = nI ((n_0 : Int) + 1) /\ (∃ n_1' : Nat,(n_1' <= List.length S) /\ (List.length S - n_1') < (List.length S - n_0) /\ true = true /\ ((nI ((n_0 : Int) + 1) : Value) = nI (n_1' : Int) /\ (nI (if (koq S n_0) < (lsQ (sgt N S z n_0)) then (koq S n_0) else (lsQ (sgt N S z n_0))) : Value) = nI (lsQ (sgt N S z n_1')) /\ (nI (if (koq S n_0) > (msQ (sgt N S z n_0)) then (koq S n_0) else (msQ (sgt N S z n_0))) : Value) = nI (msQ (sgt N S z n_1')) /\ (kof S) = rn (sg 4 [(4,6)]) 3 (kof S) /\ kok = .bool false /\ koe) /\ (wkO (.cells true 0 [nI (wtW N 0),nI (wtH N 0),slQ 1 1 (wtLd N).length,nI (1 + (z % 30)),.slice (some ⟨6,0,none⟩) ((sgt N S z n_0).length + 1) ((sgt N S z n_0).length + 1)] : KObj) (rno (sg 4 [(4,6)]) 3 (ko3 N z S n_1')) /\ True) /\ ((some (.cells true 2 (((((sgt N S z n_0).flatMap spC).drop 0).take ((sgt N S z n_0).length * 2)) ++ (((ko8 S n_0 N z).drop 0).take (1 * 2))) : KObj) = some (.cells true 2 ((sgt N S z n_1').flatMap spC) : KObj) /\ belowO 4 (.cells true 2 ((sgt N S z n_1').flatMap spC) : KObj) = true) /\ True) /\ (True)))))))))))))) /\ ((decide (((n_0 : Int) : Int) < ((S.length : Nat) : Int))) = false -> ((ko2 N S z n_0) /\ (∀ H' : Heap,H'.length = 5 -> (ko1 H' N S z n_0) -> KCall prog 23 [.agg #[nI (wtW N 0),nI (wtH N 0),slQ 1 1 (wtLd N).length,nI (1 + (z % 30)),slQ 4 1 (sgt N S z n_0).length]] H' [] (Is (.tuple #[slQ 5 1 (cfQ N z (sgt N S z n_0)).length,nI 0]) (H' ++ [(.cells true 2 ((cfQ N z (sgt N S z n_0)).flatMap spC) : KObj)]))) /\ ((ko2 N S z n_0) /\ (∀ H' : Heap,H'.length = 6 -> (ko1 H' N S z n_0) -> KCall prog 24 [.agg #[nI (wtW N 0),nI (wtH N 0),slQ 1 1 (wtLd N).length,nI (1 + (z % 30)),slQ 4 1 (sgt N S z n_0).length]] H' [] (Is (.tuple #[slQ 6 1 (koj N z S n_0).length,nI 0]) (H' ++ [(.cells true 1 ((koj N z S n_0).flatMap boolC) : KObj)]))) /\ (((((((cfQ N z (sgt N S z n_0)).length : Nat) : Int) : Int) != 0) = true -> kok = sp) /\ ((((((cfQ N z (sgt N S z n_0)).length : Nat) : Int) : Int) != 0) = false -> (((((((koj N z S n_0).length : Nat) : Int) : Int) != (((sgt N S z n_0).length : Nat) : Int)) = true -> kok = sp) /\ ((((((koj N z S n_0).length : Nat) : Int) : Int) != (((sgt N S z n_0).length : Nat) : Int)) = false -> (true = true /\ (0 <= List.length (koj N z S n_0)) /\ (true = true /\ ((nI 0 : Value) = nI ((0 : Nat) : Int) /\ kog N S z n_0) /\ kon) /\ (∀ n_1 : Nat,true = true) /\ ∀ n_1 : Nat,(n_1 <= List.length (koj N z S n_0)) -> (((decide (((n_1 : Int) : Int) < (((koj N z S n_0).length : Nat) : Int))) = true -> (((0 : Int) <= (n_1 : Int) /\ ((n_1 : Int) : Int) < (((koj N z S n_0).length : Nat) : Int)) /\ ((((koj N z S n_0).flatMap boolC)[(0 + Int.toNat (n_1 : Int) * 1)]? = some (.bool ((koj N z S n_0).getD n_1 false))) /\ (((!((koj N z S n_0).getD n_1 false)) = true -> kok = sp) /\ ((!((koj N z S n_0).getD n_1 false)) = false -> ((nI (IntKind.wrap .i64 ((n_1 : Int) + 1)) : Value) = nI ((n_1 : Int) + 1) /\ (∃ n_2' : Nat,(n_2' <= List.length (koj N z S n_0)) /\ (List.length (koj N z S n_0) - n_2') < (List.length (koj N z S n_0) - n_1) /\ true = true /\ ((nI ((n_1 : Int) + 1) : Value) = nI (n_2' : Int) /\ kog N S z n_0) /\ kon))))))) /\ ((decide (((n_1 : Int) : Int) < (((koj N z S n_0).length : Nat) : Int))) = false -> (true = true /\ (0 <= 121) /\ (true = true /\ ((nI 0 : Value) = nI ((0 : Nat) : Int) /\ (nI (lsQ (sgt N S z n_0)) : Value) = nI (lsQ (sgt N S z n_0)) /\ (nI (msQ (sgt N S z n_0)) : Value) = nI (msQ (sgt N S z n_0)) /\ koe) /\ kon) /\ (∀ n_2 : Nat,true = true) /\ ∀ n_2 : Nat,(n_2 <= 121) -> (((decide (((n_2 : Int) : Int) <= 120)) = true -> ((ko7 n_2) /\ ((ko6 N z n_2) /\ (((decide ((((atL N (pcP z)).getD n_2 0) : Int) < 0)) = true -> (ko0 n_2 N S z n_0)) /\ ((decide ((((atL N (pcP z)).getD n_2 0) : Int) < 0)) = false -> ((ko2 N S z n_0) /\ (∀ H' : Heap,H'.length = 7 -> (ko1 H' N S z n_0) -> KCall prog 18 [.agg #[nI (wtW N 0),nI (wtH N 0),slQ 1 1 (wtLd N).length,nI (1 + (z % 30)),slQ 4 1 (sgt N S z n_0).length],nI (n_2 : Int)] H' [] (Is (.tuple #[slQ 7 1 (whQ N z (sgt N S z n_0) (n_2 : Int)).length,nI 0]) (H' ++ [(.cells true 1 ((whQ N z (sgt N S z n_0) (n_2 : Int)).flatMap intC) : KObj)]))) /\ ((ko7 n_2) /\ ((ko6 N z n_2) /\ (((someR (.cells true 1 ((whQ N z (sgt N S z n_0) (n_2 : Int)).flatMap intC))) /\ True) /\ (∀ H' : Heap,H'.length = 8 -> (H'[7]? = some (.cells true 1 ((whQ N z (sgt N S z n_0) (n_2 : Int)).flatMap intC) : KObj) /\ True) -> KCall prog 20 [slQ 7 1 (whQ N z (sgt N S z n_0) (n_2 : Int)).length,nI ((atL N (pcP z)).getD n_2 0)] H' [] (Is (.bool (ko4 N z S n_0 n_2)) H')) /\ (((!(ko4 N z S n_0 n_2)) = true -> kok = sp) /\ ((!(ko4 N z S n_0 n_2)) = false -> (((decide (((n_2 : Int) : Int) < (lsQ (sgt N S z n_0)))) = true -> (ko0 n_2 N S z n_0)) /\ ((decide (((n_2 : Int) : Int) < (lsQ (sgt N S z n_0)))) = false -> (((decide (((msQ (sgt N S z n_0)) : Int) < (n_2 : Int))) = true -> (ko0 n_2 N S z n_0)) /\ ((decide (((msQ (sgt N S z n_0)) : Int) < (n_2 : Int))) = false -> ((ko7 n_2) /\ ((ko6 N z n_2) /\ ((ko2 N S z n_0) /\ (∀ H' : Heap,H'.length = 8 -> (ko1 H' N S z n_0) -> KCall prog 19 [.agg #[nI (wtW N 0),nI (wtH N 0),slQ 1 1 (wtLd N).length,nI (1 + (z % 30)),slQ 4 1 (sgt N S z n_0).length],nI ((atL N (pcP z)).getD n_2 0)] H' [] (Is (.tuple #[slQ 8 1 (koi N z S n_0 n_2).length,nI 0]) (H' ++ [(.cells true 2 ((koi N z S n_0 n_2).flatMap spC) : KObj)]))) /\ (((someR (.cells true 2 ((koi N z S n_0 n_2).flatMap spC))) /\ True) /\ (∀ H' : Heap,H'.length = 9 -> (H'[8]? = some (.cells true 2 ((koi N z S n_0 n_2).flatMap spC) : KObj) /\ True) -> KCall prog 21 [slQ 8 1 (koi N z S n_0 n_2).length,nI (n_2 : Int)] H' [] (Is (.bool (kob N z S n_0 n_2)) H')) /\ (((!(kob N z S n_0 n_2)) = true -> kok = sp) /\ ((!(kob N z S n_0 n_2)) = false -> (ko0 n_2 N S z n_0)))))))))))))))))))))) /\ ((decide (((n_2 : Int) : Int) <= 120)) = false -> (ko9 7 sp))))))))))))))))))))))
abbrev koc (qd0 : List Int) : Nat × KObj:=(0,.cells true 0 (kop qd0))
abbrev koo : Nat × Value:=(8,.pointer (some ⟨2,0,none⟩))
abbrev koh (N : List Int) (S : List Int) (z : Int) (n_0 : Nat) : List (Nat × KObj):=[(1,.cells true 1 ((wtLd N).flatMap boolC)),(4,.cells true 2 ((sgt N S z n_0).flatMap spC))]
abbrev ko5 (qn0 : Nat) (qn1 : Nat) (qn2 : Nat) : Hint:=.go qn0 (.slot qn1 (nI ((qn2 : Int) + 1)) (.go 0 (.again [])))
theorem Elholds (sp : Value) (N S : List Int) (z : Int) : vF prog msk (dm 0) 100000 true 40 true 4 [.iface (N.length + 1) (kol N),.iface (S.length + 1) (.agg ⟨(S.flatMap intC)⟩),nI z] ⟨0,.leaf⟩ (some [])
 (.go 3 (.fork (.ans [] (.bool true) [] (.auto)) (.go 4 (.answ [(0,.cells true 0 [.iface (N.length + 1) (kol N),nI 0])] (.agg #[nI (wtW N 0),nI (wtH N 0),slQ 1 1 (wtLd N).length]) [(koc N)] [.cells true 1 ((wtLd N).flatMap boolC)] (.go 0 (.ans [] (nI (z % 30)) [] (.go 0 (.slot 34 (nI (1 + (z % 30))) (.go 7 (.answ [(koc N),(1,.cells true 1 ((wtLd N).flatMap boolC))] (slQ 3 2 121) [(0,.cells true 0 (kom N z))] [.cells true 1 ((atL N (pcP z)).flatMap intC)] (.go 3 (.inv 3 (Nat) (0) [] [2] (fun n_0 => [(12,nI (n_0 : Int)),(10,nI (lsQ (sgt N S z n_0))),(11,nI (msQ (sgt N S z n_0))),(1,.iface (S.length + 1) (.agg ⟨(S.flatMap intC)⟩)),(6,.bool false),koo,(9,slQ 3 2 121)]) (fun n_0 => [(2,false,.cells true 0 [nI (wtW N 0),nI (wtH N 0),slQ 1 1 (wtLd N).length,nI (1 + (z % 30)),slQ 4 1 (sgt N S z n_0).length])]) (fun n_0 => [(true,.cells true 2 ((sgt N S z n_0).flatMap spC))]) (fun n_0 => []) (fun n_0 => (n_0 <= List.length S)) (fun n_0 => (List.length S - n_0)) (fun n_0 => .go 3 (.fork (.go 1 (.need (.val (nI (S.getD n_0 0)) (.ans [] (nI ((S.getD n_0 0) % 121)) [] (.go 2 (.need (.val (nI ((atL N (pcP z)).getD ((S.getD n_0 0) % 121).toNat 0)) (.go 0 (.fork (.go 1 (.slot 47 (nI ((n_0 : Int) + 1)) (.go 0 (.again [(4,4)])))) (.go 4 (.need (.val (nI ((atL N (pcP z)).getD ((S.getD n_0 0) % 121).toNat 0)) (.go 1 (.need (.go 11 (.slot 47 (nI ((n_0 : Int) + 1)) (.go 0 (.again [(4,6)])))))))))))))))))) (.go 0 (.ans (koh N S z n_0) (.tuple #[slQ 5 1 (cfQ N z (sgt N S z n_0)).length,nI 0]) [.cells true 2 ((cfQ N z (sgt N S z n_0)).flatMap spC)] (.go 5 (.ans (koh N S z n_0) (.tuple #[slQ 6 1 (koj N z S n_0).length,nI 0]) [.cells true 1 ((koj N z S n_0).flatMap boolC)] (.go 16 (.gfork (.auto) (.go 6 (.fork (.auto) (.go 0 (.inv 3 (Nat) (0) [] [] (fun n_1 => [(18,nI (n_1 : Int)),(9,slQ 3 2 121),koo,(11,nI (msQ (sgt N S z n_0))),(10,nI (lsQ (sgt N S z n_0))),(16,slQ 6 1 (koj N z S n_0).length)]) (fun n_1 => []) (fun n_1 => []) (fun n_1 => []) (fun n_1 => (n_1 <= List.length (koj N z S n_0))) (fun n_1 => (List.length (koj N z S n_0) - n_1)) (fun n_1 => .go 3 (.fork (.go 1 (.need (.val (.bool ((koj N z S n_0).getD n_1 false)) (.go 0 (.fork (.auto) (ko5 1 109 n_1)))))) (.go 0 (.inv 3 (Nat) (0) [] [] (fun n_2 => [(19,nI (n_2 : Int)),(10,nI (lsQ (sgt N S z n_0))),(11,nI (msQ (sgt N S z n_0))),koo,(9,slQ 3 2 121)]) (fun n_2 => []) (fun n_2 => []) (fun n_2 => []) (fun n_2 => (n_2 <= 121)) (fun n_2 => (121 - n_2)) (fun n_2 => .go 1 (.fork (.go 1 (.need (.val (nI ((atL N (pcP z)).getD n_2 0)) (.go 0 (.fork (ko5 1 118 n_2) (.go 1 (.ans (koh N S z n_0) (.tuple #[slQ 7 1 (whQ N z (sgt N S z n_0) (n_2 : Int)).length,nI 0]) [.cells true 1 ((whQ N z (sgt N S z n_0) (n_2 : Int)).flatMap intC)] (.go 10 (.need (.val (nI ((atL N (pcP z)).getD n_2 0)) (.ans [(7,.cells true 1 ((whQ N z (sgt N S z n_0) (n_2 : Int)).flatMap intC))] (.bool (ko4 N z S n_0 n_2)) [] (.go 1 (.fork (.auto) (.go 3 (.gfork (ko5 3 118 n_2) (.go 3 (.fork (ko5 1 118 n_2) (.go 2 (.need (.val (nI ((atL N (pcP z)).getD n_2 0)) (.ans (koh N S z n_0) (.tuple #[slQ 8 1 (koi N z S n_0 n_2).length,nI 0]) [.cells true 2 ((koi N z S n_0 n_2).flatMap spC)] (.go 9 (.ans [(8,.cells true 2 ((koi N z S n_0 n_2).flatMap spC))] (.bool (kob N z S n_0 n_2)) [] (.go 1 (.fork (.auto) (ko5 1 118 n_2)))))))))))))))))))))))))) (.ans [] (.bool true) [] (.auto))))))))))))))))))))))))))))))))
 (fun v _ _ => v = sp) = Rlholds sp N S z:=by kernel_rfl
end
end Go.Proofs.YtbgfjemppjhmjaaGreat
/- Radio: RadioHolds: the law. No condition. -/
namespace Go.Proofs.YtbgfjemppjhmjaaGreat
open Go Go.K
set_option maxRecDepth 100000
set_option linter.unusedVariables false
set_option linter.unusedSimpArgs false
noncomputable section
attribute [local irreducible] vF
theorem kCfQ {N : List Int} {z : Int} {ss : List (Int × Int)} (e0 : errT (wtW N 0) (wtH N 0) (wtLd N) (pcP z) ss = 0) {H : Heap} {i j : Nat} (hne : i ≠ j) {o1 o2 : Bool} {z1 z2 : Nat} (hi : H[i]? = some (.cells o1 z1 ((wtLd N).flatMap boolC))) (hj : H[j]? = some (.cells o2 z2 (ss.flatMap spC))) :
  KCall prog 23 [.agg #[.int .i64 (wtW N 0), .int .i64 (wtH N 0), .slice (some ⟨i, 0, some 1⟩) (wtLd N).length (wtLd N).length, .int .i64 (1 + z % 30), .slice (some ⟨j, 0, some 1⟩) ss.length ss.length]] H [] (Is (.tuple #[.slice (some ⟨H.length, 0, some 1⟩) (cfQ N z ss).length (cfQ N z ss).length, .int .i64 0]) (H ++ [.cells true 2 ((cfQ N z ss).flatMap spC)])) :=
 KCall.wkA (kConfs e0 hne hi hj) (wks_cons wkTrk wks_nil)
theorem kTrQ {N : List Int} {z : Int} {ss : List (Int × Int)} (hl : ss.length <= 19) (e0 : errT (wtW N 0) (wtH N 0) (wtLd N) (pcP z) ss = 0) {H : Heap} {i j : Nat} (hne : i ≠ j) {o1 o2 : Bool} {z1 z2 : Nat} (hi : H[i]? = some (.cells o1 z1 ((wtLd N).flatMap boolC))) (hj : H[j]? = some (.cells o2 z2 (ss.flatMap spC))) :
  KCall prog 24 [.agg #[.int .i64 (wtW N 0), .int .i64 (wtH N 0), .slice (some ⟨i, 0, some 1⟩) (wtLd N).length (wtLd N).length, .int .i64 (1 + z % 30), .slice (some ⟨j, 0, some 1⟩) ss.length ss.length]] H [] (Is (.tuple #[.slice (some ⟨H.length, 0, some 1⟩) (truQ N z ss).length (truQ N z ss).length, .int .i64 0]) (H ++ [.cells true 1 ((truQ N z ss).flatMap boolC)])) :=
 KCall.wkA (kTrustA (by have := (wtBas N).n1; have := (wtBas N).p1; omega) hl e0 hne hi hj) (wks_cons wkTrk wks_nil)
theorem can_at {N : List Int} {z : Int} {ss : List (Int × Int)} (k : Seen1 (atL N (pcP z)) ss) {m : Nat} (hm : m <= 120) (h0 : 0 <= (atL N (pcP z)).getD m 0) {s : Int × Int} (hs : s ∈ ss) : canS (wtW N 0) (wtH N 0) (wtLd N) (pcP z) s ((atL N (pcP z)).getD m 0) (m : Int) = true := by
 obtain ⟨i, hi⟩ := wtPath N z
 have := seen_can (ss := [s, ((m : Int), (atL N (pcP z)).getD m 0)]) (wtBas N) (pcP_bd z).1 i hi (fun t ht => by
  rcases List.mem_cons.1 ht with rfl | ht
  ·exact k _ hs
  ·rw [List.mem_singleton.1 ht]
   exact ⟨⟨Int.natCast_nonneg _, by dsimp only; omega⟩, by dsimp only; rw [Int.toNat_natCast]; rfl, h0⟩) (List.mem_cons_self ..) (List.mem_cons_of_mem _ (List.mem_cons_self ..))
 exact this
theorem at_sea {N : List Int} {z : Int} {m : Nat} (hm : m <= 120) (h0 : 0 <= (atL N (pcP z)).getD m 0) : seaB (wtLd N) ((atL N (pcP z)).getD m 0) = true := by
 obtain ⟨i, hi⟩ := wtPath N z
 have hc := (i.cells m (by show _ < (atL N (pcP z)).length; omega)).resolve_left (by show ¬ (atL N (pcP z)).getD _ 0 = -1; omega)
 exact cl_sea hc.1 hc.2
theorem hvHolds (N S : List Int) (z : Int) : Rlholds (.bool true) N S z := by
 delta Rlholds ko9 kol kop koa kom kof kok koe koq kod ko3 ko8 ko2 ko1 koj kog kon ko7 ko6 ko0 ko4 koi kob
 refine ⟨fun _ => ⟨trivial, fun H' _ _ => kAwake H', rfl⟩, fun k0 => ?_⟩
 have hS : S.length <= 10 := by have := of_decide_eq_false k0; omega
 have hp := pcP_bd z
 have hp' : 1 <= 1 + z % 30 /\ 1 + z % 30 <= 30 := hp
 have b := wtBas N
 have hwh := wtWH_bd N 0
 have hld : (wtLd N).length = Int.toNat (wtW N 0 * wtH N 0) := wtLand_len N _
 have hAt := (wtPath N z).2
 refine ⟨⟨rfl, trivial⟩, fun H' hl h => ?_, trivial, fun H' _ _ => kPick z 30 (by omega) (by omega) H', vI64 (by omega), ⟨rfl, rfl, trivial⟩, fun H' hl h => ?_, rfl, Nat.zero_le _, ?_, fun _ => rfl, fun x hx => ⟨fun k => ?_, fun k => ?_⟩⟩
 ·have := kWaters N h.1
  rw [hl] at this; exact this
 ·have := kSails (L := N) (q := wtN (Int.toNat (wtW N 0 * wtH N 0))) b hp (by unfold wtN; omega) (D := 0) (i := 1) (by decide) h.1 h.2.1
  rw [hl] at this
  exact KCall.wkA this (wks_cons (wk_refl _) (wks_cons wkBas (wks_cons (wk_refl _) (wks_cons (wk_refl _) wks_nil))))
 ·repeat' first | exact (inV_rn _ 0 S).symm | exact wk_nil _ _ _ (.inl rfl) | exact rfl | exact wk_refl _ | refine wkO_cells ?_ | exact wks_nil | exact wk_nil _ _ _ (.inl rfl) | apply And.intro
 ·have h1 : x < S.length := by have := of_decide_eq_true k; omega
  have hsl : (sgt N S z x).length <= x := sgL_len ..
  have v1 := Int.emod_nonneg (S.getD x 0) (b := 121) (by omega)
  have v2 := Int.emod_lt_of_pos (S.getD x 0) (b := 121) (by omega)
  refine ⟨⟨by omega, by omega⟩, intAt h1 (by omega), trivial, fun H' _ _ => kPick _ 121 (by omega) (by omega) H', ⟨v1, v2⟩, intAt (by omega) (by omega), fun g => ?_, fun g => ⟨⟨v1, v2⟩, intAt (by omega) (by omega), ?_⟩⟩
  ·have e := sgt_no (of_decide_eq_true g)
   refine ⟨vI64 (by omega), x + 1, by omega, by omega, rfl, ?_⟩
   rw [<- e]
   repeat' first | exact (inV_rn _ 0 S).symm | exact spB _ _ | exact rfl | exact wk_refl _ | refine wkO_cells ?_ | exact wks_nil | exact wk_nil _ _ _ (.inl rfl) | apply And.intro
  ·have e := sgt_yes (of_decide_eq_false g)
   refine ⟨⟨by omega, by decide, ⟨Nat.le_refl _, by rw [flat_len spC_len]; omega⟩, ⟨Nat.le_refl _, by simp⟩, rfl⟩, rfl, vI64 (by omega), x + 1, by omega, by omega, rfl, ?_⟩
   have e1 := lsQ_snoc (sgt N S z x) (S.getD x 0 % 121, (atL N (pcP z)).getD (Int.toNat (S.getD x 0 % 121)) 0)
   have e2 := msQ_snoc (sgt N S z x) (S.getD x 0 % 121, (atL N (pcP z)).getD (Int.toNat (S.getD x 0 % 121)) 0)
   rw [<- e] at e1 e2
   repeat' first | exact (inV_rn _ 0 S).symm | exact wk_snoc e | exact ob_snoc spC_len e rfl | exact spB _ _ | exact congrArg (Value.int .i64) e1.symm | exact congrArg (Value.int .i64) e2.symm | exact rfl | exact wk_refl _ | refine wkO_cells ?_ | exact wks_nil | exact wk_nil _ _ _ (.inl rfl) | apply And.intro
 ·have h1 : x = S.length := by have := of_decide_eq_false k; omega
  have hsl : (sgt N S z x).length <= x := sgL_len ..
  have hseen : Seen1 (atL N (pcP z)) (sgt N S z x) := sgL_seen _ _ _
  generalize hss : sgt N S z x = ss at *
  have e0 := wt_err (by omega) hseen
  have t := trOk e0
  have hcf : cfQ N z ss = [] := wt_cf (by omega) hseen
  have aO : AgOk (agI (pcP z) ss (rwQ N ss)) (kyI ss) (allL ss.length) := agOk t
  have htl : (truQ N z ss).length = ss.length := truL_len aO
  have hall : ∀ i, i < ss.length -> (truQ N z ss).getD i false = true := fun i hi => truL_all aO (fun u hu v hv => by
   have hu := allL_mem.1 hu
   have hv := allL_mem.1 hv
   obtain ⟨q, hq⟩ := wtPath N z
   unfold rwQ
   rw [agI_is (fun s hs => (t.seen s hs).2.1) hu hv]
   exact seen_can (wtBas N) (pcP_bd z).1 q hq hseen (getD_mem (by omega)) (getD_mem (by omega))) hi
  have hmsb : msQ ss <= 120 /\ 0 <= lsQ ss /\ lsQ ss <= 120 /\ 0 <= msQ ss /\ (lsQ ss <= msQ ss -> 0 < ss.length /\ lsQ ss = lsT ss ss.length /\ msQ ss = msT ss ss.length) := by
   by_cases h0 : 0 < ss.length
   ·have hls := lsQ_is h0 (fun s hs => (hseen s hs).1)
    have hms := msQ_is ss
    obtain ⟨b1, b2, b3⟩ := lm_bd (ss := ss) (fun s hs => by have := (hseen s hs).1; omega) ss.length (Nat.le_refl _)
    have c1 := b3 0 h0
    have c2 := (hseen _ (getD_mem (d := zeroSp) h0)).1
    have mx : ∀ (l : List (Int × Int)) (q : Int), (∀ s ∈ l, s.1 <= 120) -> q <= 120 -> l.foldl (fun b s => mxI b s.1) q <= 120 := by
     intro l
     induction l with
     | nil => intro q _ h; exact h
     | cons s l ih =>
      intro q h hq
      refine ih _ (fun s hs => h s (List.mem_cons_of_mem _ hs)) ?_
      have := h s (List.mem_cons_self ..)
      show mxI q s.1 <= 120
      unfold mxI; split <;> omega
    have m1 : msQ ss <= 120 := mx ss 0 (fun s hs => (hseen s hs).1.2) (by decide)
    exact ⟨m1, by omega, by omega, by omega, fun _ => ⟨h0, hls, hms⟩⟩
   ·obtain rfl : ss = [] := List.length_eq_zero_iff.1 (by omega)
    refine ⟨by decide, by decide, by decide, by decide, fun h => absurd h (by decide)⟩
  have hldb : (wtLd N).length <= 1024 := by have := b.n1; have := b.p1; omega
  refine ⟨⟨rfl, rfl, trivial⟩, fun H' hl h => hl ▸ kCfQ e0 (by decide) h.1 h.2.1, ⟨rfl, rfl, trivial⟩, fun H' hl h => hl ▸ kTrQ (by omega) e0 (by decide) h.1 h.2.1, fun g => ?_, fun _ => ⟨fun g => ?_, fun _ => ⟨rfl, Nat.zero_le _, ?_, fun _ => rfl, fun y hy => ⟨fun c => ?_, fun c => ⟨rfl, Nat.zero_le _, ?_, fun _ => rfl, fun m hm => ⟨fun d => ?_, fun d => ⟨trivial, fun H' _ _ => kAwake H', rfl⟩⟩⟩⟩⟩⟩⟩
  ·rw [hcf] at g; exact absurd g (by decide)
  ·rw [htl] at g; simp at g
  ·repeat' first | exact rfl | exact wk_refl _ | refine wkO_cells ?_ | exact wks_nil | exact wk_nil _ _ _ (.inl rfl) | apply And.intro
  ·have hy1 : y < ss.length := by have := of_decide_eq_true c; omega
   refine ⟨⟨by omega, by omega⟩, boolAt (by omega) (by omega), fun g => ?_, fun g => ⟨vI64 (by omega), y + 1, by omega, by omega, rfl, ?_⟩⟩
   ·rw [hall y hy1] at g; exact absurd g (by decide)
   ·repeat' first | exact rfl | exact wk_refl _ | refine wkO_cells ?_ | exact wks_nil | exact wk_nil _ _ _ (.inl rfl) | apply And.intro
  ·repeat' first | exact rfl | exact wk_refl _ | refine wkO_cells ?_ | exact wks_nil | exact wk_nil _ _ _ (.inl rfl) | apply And.intro
  ·have hm1 : m <= 120 := by have := of_decide_eq_true d; omega
   refine ⟨⟨by omega, by omega⟩, intAt (by omega) (by omega), fun g => ⟨vI64 (by omega), m + 1, by omega, by omega, rfl, ?_⟩, fun g => ?_⟩
   ·repeat' first | exact rfl | exact wk_refl _ | refine wkO_cells ?_ | exact wks_nil | exact wk_nil _ _ _ (.inl rfl) | apply And.intro
   ·have hg : 0 <= (atL N (pcP z)).getD m 0 := by have := of_decide_eq_false g; omega
    have hsea := at_sea hm1 hg
    have hcin := (seaB_in hsea).1
    have hcan : (ss.all fun s => canS (wtW N 0) (wtH N 0) (wtLd N) (pcP z) s ((atL N (pcP z)).getD m 0) (m : Int)) = true := List.all_eq_true.2 fun s hs => can_at hseen hm1 hg hs
    have hwh2 : (List.any (whQ N z ss (m : Int)) fun v => v == (atL N (pcP z)).getD m 0) = true := by
     unfold whQ rwQ
     rw [whL_has hcin, hsea, hcan]; rfl
    have wl : (whQ N z ss (m : Int)).length <= 1024 := by
     have := whL_le (wtLd N) (pcP z) ss (rwQ N ss) (m : Int) (wtLd N).length
     unfold whQ; omega
    refine ⟨⟨rfl, rfl, trivial⟩, fun H' hl h => hl ▸ kWhQ (by omega) hseen (by omega) (by decide) h.1 h.2.1, ⟨by omega, by omega⟩, intAt (by omega) (by omega), ⟨rfl, trivial⟩, fun H' hl h => KCall.wkA (kHas _ _ (by omega) h.1) (wks_cons wk_QR (wks_cons (wk_refl _) wks_nil)), fun q => ?_, fun _ => ⟨fun q => ⟨vI64 (by omega), m + 1, by omega, by omega, rfl, ?_⟩, fun q => ⟨fun r => ⟨vI64 (by omega), m + 1, by omega, by omega, rfl, ?_⟩, fun r => ?_⟩⟩⟩
    ·rw [hwh2] at q; exact absurd q (by decide)
    ·repeat' first | exact rfl | exact wk_refl _ | refine wkO_cells ?_ | exact wks_nil | exact wk_nil _ _ _ (.inl rfl) | apply And.intro
    ·repeat' first | exact rfl | exact wk_refl _ | refine wkO_cells ?_ | exact wks_nil | exact wk_nil _ _ _ (.inl rfl) | apply And.intro
    ·have q1 := of_decide_eq_false q
     have r1 := of_decide_eq_false r
     obtain ⟨h0, l1, l2⟩ := hmsb.2.2.2.2 (by omega)
     have htm : notF (tmQ N z ss ((atL N (pcP z)).getD m 0)) (m : Int) = true := by
      unfold tmQ rwQ
      rw [tm_cov t hcin (by omega)]; exact hcan
     have tr3 := tm_len (p := pcP z) (ss := ss) (rr := rwQ N ss) (c := (atL N (pcP z)).getD m 0)
     rw [show tmL (pcP z) ss (rwQ N ss) ((atL N (pcP z)).getD m 0) = tmQ N z ss ((atL N (pcP z)).getD m 0) from rfl] at tr3
     refine ⟨⟨by omega, by omega⟩, intAt (by omega) (by omega), ⟨rfl, rfl, trivial⟩, fun H' hl h => hl ▸ kTmQ (by omega) hseen h0 hsea (by decide) h.1 h.2.1, ⟨rfl, trivial⟩, fun H' hl h => KCall.wkA (kCovers _ _ (by omega) h.1) (wks_cons wk_QR (wks_cons (wk_refl _) wks_nil)), fun u => ?_, fun _ => ⟨vI64 (by omega), m + 1, by omega, by omega, rfl, ?_⟩⟩
     ·rw [htm] at u; exact absurd u (by decide)
     ·repeat' first | exact rfl | exact wk_refl _ | refine wkO_cells ?_ | exact wks_nil | exact wk_nil _ _ _ (.inl rfl) | apply And.intro
theorem kHoldsLaw (N S : List Int) (z : Int) (H : Heap) : KCall prog 4 [dI N, dI S, .int .i64 z] H [] (Is (.bool true) H) :=
 valK 40 (args_rn (by show (belowC 0 (dI N) && (belowC 0 (dI S) && true)) = true; rw [dI_b, dI_b]; rfl)) rfl (Eq.mpr (Elholds _ N S z) (hvHolds N S z)) H
end
end Go.Proofs.YtbgfjemppjhmjaaGreat
/- How laws' arguments are read. No condition. -/
namespace Go.Proofs.YtbgfjemppjhmjaaGreat
set_option linter.unusedSimpArgs false
open Go Go.K Go.ChangeShapes Go.WideShapes Go.ChangeAt Go.RowKit
set_option maxRecDepth 100000
set_option linter.unusedVariables false
noncomputable section
theorem own : ownKnob Tryz.prog.godebug = none := by kernel_rfl
theorem sized : slicesSized Tryz.prog = true := by kernel_rfl
abbrev known (t : TypeId) : Prop := t < Tryz.prog.types.size
theorem kids : Kids Tryz.prog known := kids_rows (by kernel_rfl) (by kernel_rfl)
theorem goodAD_cons {n : Nat} {t : TypeId} {ts : List TypeId} {vs : List Value} (h : GoodAD Tryz.prog n (t :: ts) vs) : ∃ v vs', vs = v :: vs' /\ GoodVD Tryz.prog n t v /\ GoodAD Tryz.prog n ts vs' := by
 cases vs with
 | nil => exact h.elim
 | cons v vs => exact ⟨v, vs, rfl, h.1, h.2⟩
theorem goodAD_nil {n : Nat} {vs : List Value} (h : GoodAD Tryz.prog n [] vs) : vs = [] := by
 cases vs with
 | nil => rfl
 | cons v vs => exact h.elim
theorem goodD_i64 {n : Nat} {c : List Value} (h : GoodD Tryz.prog (n + 1) 3 c) : ∃ x : Int, c = [.int .i64 x] /\ inI x := by
 unfold GoodD at h
 rw [show Tryz.prog.underlying 3 = some (.int .i64) by kernel_rfl] at h
 obtain ⟨x, rfl, h1, h2⟩ := h
 refine ⟨x, rfl, ?_⟩
 simp only [IntKind.min, IntKind.max, IntKind.signed, IntKind.bits] at h1 h2
 unfold inI
 simp at h1 h2
 omega
theorem goodVD_int {v : Value} (h : GoodVD Tryz.prog 6 3 v) : ∃ x : Int, v = .int .i64 x /\ inI x := by
 unfold GoodVD at h
 rw [show Tryz.prog.underlying 3 = some (.int .i64) by kernel_rfl] at h
 obtain ⟨x, h1, h2⟩ := goodD_i64 h
 exact ⟨x, by simpa using h1, h2⟩
theorem goodVD_ints {v : Value} (h : GoodVD Tryz.prog 6 22 v) : ∃ L : List Int, v = .iface (L.length + 1) (.agg ⟨L.flatMap intC⟩) /\ L.length <= maxLen /\ ∀ x ∈ L, inI x := by
 unfold GoodVD at h
 rw [show Tryz.prog.underlying 22 = some (.slice 3) by kernel_rfl] at h
 unfold GoodD at h
 rw [show Tryz.prog.underlying 22 = some (.slice 3) by kernel_rfl] at h
 obtain ⟨len, ds, h1, h2, h3, h4⟩ := h
 obtain ⟨xs, e1, e2, e3⟩ := goodL_list (f := intC) (q := inI) (fun c hc => goodD_i64 (n := 4) hc) len ds h4
 subst e1 e2
 exact ⟨xs, by simpa using h1, h3, e3⟩
end
end Go.Proofs.YtbgfjemppjhmjaaGreat
