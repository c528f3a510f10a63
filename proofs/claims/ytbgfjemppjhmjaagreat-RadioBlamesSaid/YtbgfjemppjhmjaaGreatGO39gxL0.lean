/- What is to be shown of functions. Printed by a program. No condition. -/
import Derived.Test.YtbgfjemppjhmjaaGreatGO35gxW40
import Derived.Test.YtbgfjemppjhmjaaGreatRows
import Derived.JoinedCond
import Derived.Test.YtbgfjemppjhmjaaGreatGW2xO3g
import Derived.Test.YtbgfjemppjhmjaaGreatGK27xW1
namespace Go.Proofs.YtbgfjemppjhmjaaGreat
set_option linter.unusedSimpArgs false
open Go Go.K
set_option maxRecDepth 100000
set_option maxHeartbeats 4000000
set_option linter.unusedVariables false
noncomputable section
abbrev ky17 (S : List Int) : Int:=(S.length : Nat)
abbrev kyj (qn0 : Nat) (qv0 : Value) : Prop:=(True) /\ (∀ H' : Heap,H'.length = qn0 -> (True) -> KCall prog 14 [] H' [] (Is (.bool true) H')) /\ (.bool true : Value) = qv0
abbrev ky10 (N : List Int) : Value:=.agg ⟨(N.flatMap intC)⟩
abbrev ky16 (qd0 : List Int) : List Value:=[.iface (qd0.length + 1) (.agg ⟨(qd0.flatMap intC)⟩),nI (wtN (wtW qd0 0 * wtH qd0 0).toNat)]
abbrev kyk (qd0 : List Int) : KObj:=.cells true 0 (ky16 qd0)
abbrev kyt (N : List Int) : KObj:=.cells true 1 ((wtLd N).flatMap boolC)
abbrev kyy (N : List Int):=someR (.cells true 1 ((wtLd N).flatMap boolC))
abbrev ky14 (N : List Int) (z : Int) : List Value:=[.iface (N.length + 1) (ky10 N),nI ((slF N (wtW N 0) (wtH N 0) (wtLd N) (pcP z) (wtN (wtW N 0 * wtH N 0).toNat)).q)]
abbrev ky15 : Value:=nI 0
abbrev kyp : Value:=.bool false
abbrev kyw : Value:=.pointer (some ⟨2,0,none⟩)
abbrev kym (qd0 : List Int) (qi0 : Int) : KObj:=.cells true 0 [nI (wtW qd0 0),nI (wtH qd0 0),slQ 1 1 (wtLd qd0).length,nI (1 + (qi0 % 30)),.slice none 0 0]
abbrev ky11 (n_0 : Nat) : Value:=nI (IntKind.wrap .i64 ((n_0 : Int) + 1))
abbrev kyx (qd1 : List Int) : Value:=.iface (qd1.length + 1) (.agg ⟨(qd1.flatMap intC)⟩)
abbrev ky7 (qn0 : Nat) (qn1 : Nat) (qd0 : List Int) (qd1 : List Int) (qi0 : Int) (qi1 : Int) (qn2 : Nat) : Prop:=(nI ((qn0 : Int) + 1) : Value) = nI (qn1 : Int) /\ (nI (liW qd0 qd1 qi0 qi1 qn0) : Value) = nI (liW qd0 qd1 qi0 qi1 qn1) /\ (nI qi1 : Value) = nI qi1 /\ (kyx qd1) = rn (sg 4 [(4,qn2)]) 3 (kyx qd1) /\ kyp = .bool false /\ kyw = .pointer (some ⟨2,0,none⟩) /\ wkR (slQ 3 2 121) /\ True
abbrev kyd (qi0 : Int) (qn0 : Nat) : Int:=(IntKind.wrap .i64 ((BitVec.ofInt (IntKind.bits .i64) (Int.fdiv qi0 (2 ^ min (qn0 : Int).toNat (IntKind.bits .i64))) &&& BitVec.ofInt (IntKind.bits .i64) 1).toNat : Nat))
abbrev kyv (S : List Int) (n_0 : Nat):=Int.tdiv (S.getD n_0 0) 121
abbrev kyq (N : List Int) : Int:=((wtLd N).length : Nat)
abbrev kyc (qd0 : List Int) (qn0 : Nat) (qd1 : List Int) : List Value:=[nI ((qd0.getD qn0 0) % 121),nI ((Int.tdiv (qd0.getD qn0 0) 121) % (((wtLd qd1).length : Nat) : Int))]
abbrev ky6 (qn0 : Nat) (qn1 : Nat) (qd0 : List Int) (qd1 : List Int) (qi0 : Int) (qi1 : Int) : Prop:=(nI ((qn0 : Int) + 1) : Value) = nI (qn1 : Int) /\ (nI ((liW qd0 qd1 qi0 qi1 qn0) + 1) : Value) = nI (liW qd0 qd1 qi0 qi1 qn1) /\ (nI qi1 : Value) = nI qi1 /\ (kyx qd1) = rn (sg 4 [(4,6)]) 3 (kyx qd1) /\ kyp = .bool false /\ kyw = .pointer (some ⟨2,0,none⟩) /\ wkR (slQ 3 2 121) /\ True
abbrev ky1 (qd0 : List Int) (qi0 : Int) (qd1 : List Int) (qi1 : Int) (qn0 : Nat) (qn1 : Nat) : Prop:=wkO (.cells true 0 [nI (wtW qd0 0),nI (wtH qd0 0),slQ 1 1 (wtLd qd0).length,nI (1 + (qi0 % 30)),.slice (some ⟨6,0,none⟩) ((sgW qd0 qd1 qi0 qi1 qn0).length + 1) ((sgW qd0 qd1 qi0 qi1 qn0).length + 1)] : KObj) (rno (sg 4 [(4,6)]) 3 (.cells true 0 [nI (wtW qd0 0),nI (wtH qd0 0),slQ 1 1 (wtLd qd0).length,nI (1 + (qi0 % 30)),slQ 4 1 (sgW qd0 qd1 qi0 qi1 qn1).length] : KObj)) /\ True
abbrev ky12 (qd1 : List Int) (qn0 : Nat) (qd0 : List Int) (qi0 : Int) : List Value:=[nI ((qd1.getD qn0 0) % 121),nI ((atL qd0 (pcP qi0)).getD ((qd1.getD qn0 0) % 121).toNat 0)]
abbrev ky4 (qd0 : List Int) (qd1 : List Int) (qi0 : Int) (qi1 : Int) (qn0 : Nat) : Prop:=((sgW qd0 qd1 qi0 qi1 qn0).length + 1) * 16 <= 2 ^ 44 /\ 1 ≠ 0 /\ ((sgW qd0 qd1 qi0 qi1 qn0).length <= (sgW qd0 qd1 qi0 qi1 qn0).length /\ 0 + (sgW qd0 qd1 qi0 qi1 qn0).length * 2 <= List.length ((sgW qd0 qd1 qi0 qi1 qn0).flatMap spC)) /\ (1 <= 1 /\ 0 + 1 * 2 <= List.length (ky12 qd1 qn0 qd0 qi0)) /\ ((((ky12 qd1 qn0 qd0 qi0).drop 0).take (1 * 2)) : List Value).all (fun v => one1 v) = true
abbrev ky8 (qd0 : List Int) (qd1 : List Int) (qi0 : Int) (qi1 : Int) (qn0 : Nat) (qn1 : Nat) : Prop:=(some (.cells true 2 (((((sgW qd0 qd1 qi0 qi1 qn0).flatMap spC).drop 0).take ((sgW qd0 qd1 qi0 qi1 qn0).length * 2)) ++ (((ky12 qd1 qn0 qd0 qi0).drop 0).take (1 * 2))) : KObj) = some (.cells true 2 ((sgW qd0 qd1 qi0 qi1 qn1).flatMap spC) : KObj) /\ belowO 4 (.cells true 2 ((sgW qd0 qd1 qi0 qi1 qn1).flatMap spC) : KObj) = true) /\ True
abbrev kyu (N : List Int) (z : Int) (S : List Int) (q : Int) (n_0 : Nat):=truQ N z (sgW N S z q n_0)
abbrev kyz (N : List Int) (z : Int) (S : List Int) (q : Int) (n_0 : Nat):=mstQ N z (sgW N S z q n_0)
abbrev kyh (qd0 : List Int) (qd1 : List Int) (qi0 : Int) (qi1 : Int) (qn0 : Nat) : Prop:=(someR (.cells true 1 ((wtLd qd0).flatMap boolC))) /\ (someR (.cells true 2 ((sgW qd0 qd1 qi0 qi1 qn0).flatMap spC))) /\ (someR (.cells true 1 ((clsQ qd0 qi0 (sgW qd0 qd1 qi0 qi1 qn0)).flatMap intC))) /\ True
abbrev kyf (qh0 : Heap) (qd0 : List Int) (qd1 : List Int) (qi0 : Int) (qi1 : Int) (qn0 : Nat) : Prop:=qh0[1]? = some (.cells true 1 ((wtLd qd0).flatMap boolC) : KObj) /\ qh0[4]? = some (.cells true 2 ((sgW qd0 qd1 qi0 qi1 qn0).flatMap spC) : KObj) /\ qh0[6]? = some (.cells true 1 ((clsQ qd0 qi0 (sgW qd0 qd1 qi0 qi1 qn0)).flatMap intC) : KObj) /\ True
abbrev kye (qd0 : List Int) (qi0 : Int) (qd1 : List Int) (qi1 : Int) (qn0 : Nat):=prW qd0 qi0 (sgW qd0 qd1 qi0 qi1 qn0) (clsQ qd0 qi0 (sgW qd0 qd1 qi0 qi1 qn0)) (mstQ qd0 qi0 (sgW qd0 qd1 qi0 qi1 qn0))
abbrev kyg (qd0 : List Int) (qd1 : List Int) (qi0 : Int) (qi1 : Int) (qn0 : Nat):=prE (sgW qd0 qd1 qi0 qi1 qn0) (clsQ qd0 qi0 (sgW qd0 qd1 qi0 qi1 qn0)) (mstQ qd0 qi0 (sgW qd0 qd1 qi0 qi1 qn0))
abbrev ky13 (N : List Int) (S : List Int) (z : Int) (q : Int) (n_0 : Nat) : Int:=((sgW N S z q n_0).length : Nat)
abbrev kyo (N : List Int) (z : Int) (S : List Int) (q : Int) (n_0 : Nat) (n_1 : Nat):=gdW N z (sgW N S z q n_0) n_1
abbrev kyn (qd0 : List Int) (qd1 : List Int) (qi0 : Int) (qi1 : Int) (qn0 : Nat) (qn1 : Nat) : List Value:=[nI ((sgW qd0 qd1 qi0 qi1 qn0).getD qn1 zeroSp).1,nI ((sgW qd0 qd1 qi0 qi1 qn0).getD qn1 zeroSp).2]
abbrev ky5 (qn0 : Nat) (qn1 : Nat) (qd0 : List Int) (qd1 : List Int) (qi0 : Int) (qi1 : Int) (qn2 : Nat) : Prop:=(nI ((qn0 : Int) + 1) : Value) = nI (qn1 : Int) /\ kyw = .pointer (some ⟨2,0,none⟩) /\ kyp = .bool false /\ (nI (liW qd0 qd1 qi0 qi1 qn2) : Value) = nI (liW qd0 qd1 qi0 qi1 qn2) /\ wkR (slQ 5 1 (truQ qd0 qi0 (sgW qd0 qd1 qi0 qi1 qn2)).length) /\ ky15 = nI 0 /\ wkR (slQ 6 1 (clsQ qd0 qi0 (sgW qd0 qd1 qi0 qi1 qn2)).length) /\ (nI (mstQ qd0 qi0 (sgW qd0 qd1 qi0 qi1 qn2)) : Value) = nI (mstQ qd0 qi0 (sgW qd0 qd1 qi0 qi1 qn2)) /\ ky15 = nI 0 /\ (.pointer (some ⟨7,0,none⟩) : Value) = .pointer (some ⟨7,0,none⟩) /\ True
abbrev kyb (qd0 : List Int) (qi0 : Int) (qd1 : List Int) (qi1 : Int) (qn0 : Nat) (qn1 : Nat) : KObj:=.cells true 0 [nI (wtW qd0 0),nI (wtH qd0 0),slQ 1 1 (wtLd qd0).length,nI (1 + (qi0 % 30)),slQ 8 1 (gdW qd0 qi0 (sgW qd0 qd1 qi0 qi1 qn0) qn1).length]
abbrev ky9 (qd0 : List Int) (qi0 : Int) (qd1 : List Int) (qi1 : Int) (qn0 : Nat) (qn1 : Nat) : KObj:=.cells true 2 ((gdW qd0 qi0 (sgW qd0 qd1 qi0 qi1 qn0) qn1).flatMap spC)
abbrev ky2 (qd0 : List Int) (qi0 : Int) (qd1 : List Int) (qi1 : Int) (qn0 : Nat):=prW qd0 qi0 (sgW qd0 qd1 qi0 qi1 qn0) (clsQ qd0 qi0 (sgW qd0 qd1 qi0 qi1 qn0)) ((mstQ qd0 qi0 (sgW qd0 qd1 qi0 qi1 qn0)) - 1)
abbrev ky3 (qd0 : List Int) (qd1 : List Int) (qi0 : Int) (qi1 : Int) (qn0 : Nat):=prE (sgW qd0 qd1 qi0 qi1 qn0) (clsQ qd0 qi0 (sgW qd0 qd1 qi0 qi1 qn0)) ((mstQ qd0 qi0 (sgW qd0 qd1 qi0 qi1 qn0)) - 1)
abbrev kyr (N : List Int) (z : Int) (S : List Int) (q : Int) (n_0 : Nat) : Prop:=(.pointer (some ⟨7,0,none⟩) : Value) = .pointer (some ⟨7,0,none⟩) /\ (nI (kyz N z S q n_0) : Value) = nI (kyz N z S q n_0) /\ (.bool (ky2 N z S q n_0) : Value) = .bool (ky2 N z S q n_0) /\ (nI (ky3 N S z q n_0) : Value) = nI (ky3 N S z q n_0) /\ True
abbrev ky0 (qd0 : List Int) (qi0 : Int) (qd1 : List Int) (qi1 : Int) (qn0 : Nat) (qn1 : Nat) (qn2 : Nat):=whQ qd0 qi0 (gdW qd0 qi0 (sgW qd0 qd1 qi0 qi1 qn0) qn1) ((gdW qd0 qi0 (sgW qd0 qd1 qi0 qi1 qn0) qn1).getD qn2 zeroSp).1
abbrev kyi (qd0 : List Int) (qi0 : Int) (qd1 : List Int) (qi1 : Int) (qn0 : Nat) (qn1 : Nat) (qn2 : Nat):=decide ((ky0 qd0 qi0 qd1 qi1 qn0 qn1 qn2) = [((gdW qd0 qi0 (sgW qd0 qd1 qi0 qi1 qn0) qn1).getD qn2 zeroSp).2])
def Rlblames (sp : Value) (N S : List Int) (z q : Int) : Prop :=
 (((decide ((12 : Int) < (ky17 S))) = true -> (kyj 0 sp)) /\ ((decide ((12 : Int) < (ky17 S))) = false -> (((someR (.cells true 0 [.iface (N.length + 1) (ky10 N),nI 0])) /\ True) /\ (∀ H' : Heap,H'.length = 1 -> (H'[0]? = some (.cells true 0 [.iface (N.length + 1) (ky10 N),nI 0] : KObj) /\ True) -> KCall prog 15 [.pointer (some ⟨0,0,none⟩)] H' [0] (Is (.agg #[nI (wtW N 0),nI (wtH N 0),slQ 1 1 (wtLd N).length]) ((List.set H' 0 (kyk N)) ++ [(kyt N)]))) /\ ((True) /\ (∀ H' : Heap,H'.length = 2 -> (True) -> KCall prog 16 [nI z,nI 30] H' [] (Is (nI (z % 30)) H')) /\ ((nI (IntKind.wrap .i64 (1 + (z % 30))) : Value) = nI (1 + (z % 30)) /\ (((someR (.cells true 0 [.iface (N.length + 1) (ky10 N),nI (wtN (wtW N 0 * wtH N 0).toNat)])) /\ (kyy N) /\ True) /\ (∀ H' : Heap,H'.length = 3 -> (H'[0]? = some (kyk N) /\ H'[1]? = some (kyt N) /\ True) -> KCall prog 17 [.pointer (some ⟨0,0,none⟩),.agg #[nI (wtW N 0),nI (wtH N 0),slQ 1 1 (wtLd N).length],nI (1 + (z % 30)),nI 120] H' [0] (Is (slQ 3 2 121) ((List.set H' 0 (.cells true 0 (ky14 N z) : KObj)) ++ [(.cells true 1 ((atL N (pcP z)).flatMap intC) : KObj)]))) /\ (true = true /\ (0 <= List.length S) /\ (true = true /\ (ky15 = nI ((0 : Nat) : Int) /\ ky15 = nI (liW N S z q 0) /\ (nI q : Value) = nI q /\ (.iface (S.length + 1) (.agg ⟨(S.flatMap intC)⟩) : Value) = rn (sg 4 []) 3 (.iface (S.length + 1) (.agg ⟨(S.flatMap intC)⟩) : Value) /\ kyp = .bool false /\ kyw = .pointer (some ⟨2,0,none⟩) /\ wkR (slQ 3 2 121) /\ True) /\ (wkO (kym N z) (rno (sg 4 []) 3 (.cells true 0 [nI (wtW N 0),nI (wtH N 0),slQ 1 1 (wtLd N).length,nI (1 + (z % 30)),slQ 4 1 (sgW N S z q 0).length] : KObj)) /\ True) /\ (True /\ True) /\ (True)) /\ (∀ n_0 : Nat,true = true) /\ ∀ n_0 : Nat,(n_0 <= List.length S) -> (((decide (((n_0 : Int) : Int) < (ky17 S))) = true -> (((0 : Int) <= (n_0 : Int) /\ ((n_0 : Int) : Int) < (ky17 S)) /\ (((S.flatMap intC)[(Int.toNat (n_0 : Int) * 1)]? = some (nI (S.getD n_0 0))) /\ ((True) /\ (∀ H' : Heap,H'.length = 5 -> (True) -> KCall prog 16 [nI (S.getD n_0 0),nI 121] H' [] (Is (nI ((S.getD n_0 0) % 121)) H')) /\ (((0 : Int) <= ((S.getD n_0 0) % 121) /\ (((S.getD n_0 0) % 121) : Int) < ((121 : Nat) : Int)) /\ ((((atL N (pcP z)).flatMap intC)[(0 + Int.toNat ((S.getD n_0 0) % 121) * 1)]? = some (nI ((atL N (pcP z)).getD ((S.getD n_0 0) % 121).toNat 0))) /\ (((decide ((((atL N (pcP z)).getD ((S.getD n_0 0) % 121).toNat 0) : Int) < 0)) = true -> ((ky11 n_0) = nI ((n_0 : Int) + 1) /\ (∃ n_1' : Nat,(n_1' <= List.length S) /\ (List.length S - n_1') < (List.length S - n_0) /\ true = true /\ (ky7 n_0 n_1' N S z q 4) /\ (wkO (.cells true 0 [nI (wtW N 0),nI (wtH N 0),slQ 1 1 (wtLd N).length,nI (1 + (z % 30)),slQ 4 1 (sgW N S z q n_0).length] : KObj) (rno (sg 4 [(4,4)]) 3 (.cells true 0 [nI (wtW N 0),nI (wtH N 0),slQ 1 1 (wtLd N).length,nI (1 + (z % 30)),slQ 4 1 (sgW N S z q n_1').length] : KObj)) /\ True) /\ ((some (.cells true 2 ((sgW N S z q n_0).flatMap spC) : KObj) = some (.cells true 2 ((sgW N S z q n_1').flatMap spC) : KObj) /\ belowO 4 (.cells true 2 ((sgW N S z q n_1').flatMap spC) : KObj) = true) /\ True) /\ (True)))) /\ ((decide ((((atL N (pcP z)).getD ((S.getD n_0 0) % 121).toNat 0) : Int) < 0)) = false -> (((0 : Int) <= (n_0 : Int)) /\ ((((kyd q n_0) == 1) = true -> ((nI (IntKind.wrap .i64 ((liW N S z q n_0) + 1)) : Value) = nI ((liW N S z q n_0) + 1) /\ (((0 : Int) <= (n_0 : Int) /\ ((n_0 : Int) : Int) < (ky17 S)) /\ (((S.flatMap intC)[(Int.toNat (n_0 : Int) * 1)]? = some (nI (S.getD n_0 0))) /\ ((nI (IntKind.wrap .i64 (kyv S n_0)) : Value) = nI (kyv S n_0) /\ ((True) /\ (∀ H' : Heap,H'.length = 5 -> (True) -> KCall prog 16 [nI (kyv S n_0),nI (kyq N)] H' [] (Is (nI ((kyv S n_0) % (kyq N))) H')) /\ (((0 : Int) <= ((kyv S n_0) % (kyq N)) /\ (((kyv S n_0) % (kyq N)) : Int) < (kyq N)) /\ ((((wtLd N).flatMap boolC)[(0 + Int.toNat ((kyv S n_0) % (kyq N)) * 1)]? = some (.bool ((wtLd N).getD ((kyv S n_0) % (kyq N)).toNat false))) /\ (((!((wtLd N).getD ((kyv S n_0) % (kyq N)).toNat false)) = true -> ((((sgW N S z q n_0).length + 1) * 16 <= 2 ^ 44 /\ 1 ≠ 0 /\ ((sgW N S z q n_0).length <= (sgW N S z q n_0).length /\ 0 + (sgW N S z q n_0).length * 2 <= List.length ((sgW N S z q n_0).flatMap spC)) /\ (1 <= 1 /\ 0 + 1 * 2 <= List.length (kyc S n_0 N)) /\ ((((kyc S n_0 N).drop 0).take (1 * 2)) : List Value).all (fun v => one1 v) = true) /\ true = true /\ ((ky11 n_0) = nI ((n_0 : Int) + 1) /\ (∃ n_1' : Nat,(n_1' <= List.length S) /\ (List.length S - n_1') < (List.length S - n_0) /\ true = true /\ (ky6 n_0 n_1' N S z q) /\ (ky1 N z S q n_0 n_1') /\ ((some (.cells true 2 (((((sgW N S z q n_0).flatMap spC).drop 0).take ((sgW N S z q n_0).length * 2)) ++ (((kyc S n_0 N).drop 0).take (1 * 2))) : KObj) = some (.cells true 2 ((sgW N S z q n_1').flatMap spC) : KObj) /\ belowO 4 (.cells true 2 ((sgW N S z q n_1').flatMap spC) : KObj) = true) /\ True) /\ (True))))) /\ ((!((wtLd N).getD ((kyv S n_0) % (kyq N)).toNat false)) = false -> ((ky4 N S z q n_0) /\ true = true /\ ((ky11 n_0) = nI ((n_0 : Int) + 1) /\ (∃ n_1' : Nat,(n_1' <= List.length S) /\ (List.length S - n_1') < (List.length S - n_0) /\ true = true /\ (ky6 n_0 n_1' N S z q) /\ (ky1 N z S q n_0 n_1') /\ (ky8 N S z q n_0 n_1') /\ (True)))))))))))))) /\ (((kyd q n_0) == 1) = false -> ((ky4 N S z q n_0) /\ true = true /\ ((ky11 n_0) = nI ((n_0 : Int) + 1) /\ (∃ n_1' : Nat,(n_1' <= List.length S) /\ (List.length S - n_1') < (List.length S - n_0) /\ true = true /\ (ky7 n_0 n_1' N S z q 6) /\ (ky1 N z S q n_0 n_1') /\ (ky8 N S z q n_0 n_1') /\ (True))))))))))))))) /\ ((decide (((n_0 : Int) : Int) < (ky17 S))) = false -> (((kyy N) /\ (someR (.cells true 2 ((sgW N S z q n_0).flatMap spC))) /\ True) /\ (∀ H' : Heap,H'.length = 5 -> (H'[1]? = some (kyt N) /\ H'[4]? = some (.cells true 2 ((sgW N S z q n_0).flatMap spC) : KObj) /\ True) -> KCall prog 24 [.agg #[nI (wtW N 0),nI (wtH N 0),slQ 1 1 (wtLd N).length,nI (1 + (z % 30)),slQ 4 1 (sgW N S z q n_0).length]] H' [] (Is (.tuple #[slQ 5 1 (kyu N z S q n_0).length,nI 0]) (H' ++ [(.cells true 1 ((kyu N z S q n_0).flatMap boolC) : KObj)]))) /\ (((kyy N) /\ (someR (.cells true 2 ((sgW N S z q n_0).flatMap spC))) /\ True) /\ (∀ H' : Heap,H'.length = 6 -> (H'[1]? = some (kyt N) /\ H'[4]? = some (.cells true 2 ((sgW N S z q n_0).flatMap spC) : KObj) /\ True) -> KCall prog 38 [.agg #[nI (wtW N 0),nI (wtH N 0),slQ 1 1 (wtLd N).length,nI (1 + (z % 30)),slQ 4 1 (sgW N S z q n_0).length]] H' [] (Is (.tuple #[slQ 6 1 (clsQ N z (sgW N S z q n_0)).length,nI (kyz N z S q n_0),nI 0]) (H' ++ [(.cells true 1 ((clsQ N z (sgW N S z q n_0)).flatMap intC) : KObj)]))) /\ ((kyh N S z q n_0) /\ (∀ H' : Heap,H'.length = 7 -> (kyf H' N S z q n_0) -> KCall prog 39 [.agg #[nI (wtW N 0),nI (wtH N 0),slQ 1 1 (wtLd N).length,nI (1 + (z % 30)),slQ 4 1 (sgW N S z q n_0).length],slQ 6 1 (clsQ N z (sgW N S z q n_0)).length,nI (kyz N z S q n_0)] H' [] (Is (.tuple #[.bool (kye N z S q n_0),nI (kyg N S z q n_0)]) H')) /\ (((((kyg N S z q n_0) : Int) != 0) = true -> kyp = sp) /\ ((((kyg N S z q n_0) : Int) != 0) = false -> (((((((kyu N z S q n_0).length : Nat) : Int) : Int) != (ky13 N S z q n_0)) = true -> kyp = sp) /\ ((((((kyu N z S q n_0).length : Nat) : Int) : Int) != (ky13 N S z q n_0)) = false -> (((!(kye N z S q n_0)) = true -> kyp = sp) /\ ((!(kye N z S q n_0)) = false -> (true = true /\ (0 <= List.length (kyu N z S q n_0)) /\ (true = true /\ (ky15 = nI ((0 : Nat) : Int) /\ kyw = .pointer (some ⟨2,0,none⟩) /\ kyp = .bool false /\ (nI (liW N S z q n_0) : Value) = nI (liW N S z q n_0) /\ wkR (slQ 5 1 (kyu N z S q n_0).length) /\ ky15 = nI 0 /\ wkR (slQ 6 1 (clsQ N z (sgW N S z q n_0)).length) /\ (nI (kyz N z S q n_0) : Value) = nI (kyz N z S q n_0) /\ ky15 = nI 0 /\ (.pointer (some ⟨7,0,none⟩) : Value) = .pointer (some ⟨7,0,none⟩) /\ True) /\ (wkO (kym N z) (rno (sg 8 []) 3 (.cells true 0 [nI (wtW N 0),nI (wtH N 0),slQ 1 1 (wtLd N).length,nI (1 + (z % 30)),slQ 8 1 (gdW N z (sgW N S z q n_0) 0).length] : KObj)) /\ True) /\ (True /\ True) /\ (True)) /\ (∀ n_1 : Nat,true = true) /\ ∀ n_1 : Nat,(n_1 <= List.length (kyu N z S q n_0)) -> (((decide (((n_1 : Int) : Int) < (((kyu N z S q n_0).length : Nat) : Int))) = true -> (((0 : Int) <= (n_1 : Int) /\ ((n_1 : Int) : Int) < (((kyu N z S q n_0).length : Nat) : Int)) /\ ((((kyu N z S q n_0).flatMap boolC)[(0 + Int.toNat (n_1 : Int) * 1)]? = some (.bool ((kyu N z S q n_0).getD n_1 false))) /\ ((((kyu N z S q n_0).getD n_1 false) = true -> (((0 : Int) <= (n_1 : Int) /\ ((n_1 : Int) : Int) < (ky13 N S z q n_0)) /\ ((partA 2 ((sgW N S z q n_0).flatMap spC) (0 + Int.toNat (n_1 : Int) * 2) = some (.agg #[nI ((sgW N S z q n_0).getD n_1 zeroSp).1,nI ((sgW N S z q n_0).getD n_1 zeroSp).2])) /\ ((((kyo N z S q n_0 n_1).length + 1) * 16 <= 2 ^ 44 /\ 1 ≠ 0 /\ ((kyo N z S q n_0 n_1).length <= (kyo N z S q n_0 n_1).length /\ 0 + (kyo N z S q n_0 n_1).length * 2 <= List.length ((kyo N z S q n_0 n_1).flatMap spC)) /\ (1 <= 1 /\ 0 + 1 * 2 <= List.length (kyn N S z q n_0 n_1)) /\ ((((kyn N S z q n_0 n_1).drop 0).take (1 * 2)) : List Value).all (fun v => one1 v) = true) /\ true = true /\ ((nI (IntKind.wrap .i64 ((n_1 : Int) + 1)) : Value) = nI ((n_1 : Int) + 1) /\ (∃ n_2' : Nat,(n_2' <= List.length (kyu N z S q n_0)) /\ (List.length (kyu N z S q n_0) - n_2') < (List.length (kyu N z S q n_0) - n_1) /\ true = true /\ (ky5 n_1 n_2' N S z q n_0) /\ (wkO (.cells true 0 [nI (wtW N 0),nI (wtH N 0),slQ 1 1 (wtLd N).length,nI (1 + (z % 30)),.slice (some ⟨10,0,none⟩) ((kyo N z S q n_0 n_1).length + 1) ((kyo N z S q n_0 n_1).length + 1)] : KObj) (rno (sg 8 [(8,10)]) 3 (kyb N z S q n_0 n_2')) /\ True) /\ ((some (.cells true 2 (((((kyo N z S q n_0 n_1).flatMap spC).drop 0).take ((kyo N z S q n_0 n_1).length * 2)) ++ (((kyn N S z q n_0 n_1).drop 0).take (1 * 2))) : KObj) = some (ky9 N z S q n_0 n_2') /\ belowO 8 (ky9 N z S q n_0 n_2') = true) /\ True) /\ (True))))))) /\ (((kyu N z S q n_0).getD n_1 false) = false -> ((nI (IntKind.wrap .i64 ((n_1 : Int) + 1)) : Value) = nI ((n_1 : Int) + 1) /\ (∃ n_2' : Nat,(n_2' <= List.length (kyu N z S q n_0)) /\ (List.length (kyu N z S q n_0) - n_2') < (List.length (kyu N z S q n_0) - n_1) /\ true = true /\ (ky5 n_1 n_2' N S z q n_0) /\ (wkO (kyb N z S q n_0 n_1) (rno (sg 8 [(8,8)]) 3 (kyb N z S q n_0 n_2')) /\ True) /\ ((some (ky9 N z S q n_0 n_1) = some (ky9 N z S q n_0 n_2') /\ belowO 8 (ky9 N z S q n_0 n_2') = true) /\ True) /\ (True)))))))) /\ ((decide (((n_1 : Int) : Int) < (((kyu N z S q n_0).length : Nat) : Int))) = false -> (((kyy N) /\ (someR (.cells true 2 ((kyo N z S q n_0 n_1).flatMap spC))) /\ True) /\ (∀ H' : Heap,H'.length = 9 -> (H'[1]? = some (kyt N) /\ H'[8]? = some (ky9 N z S q n_0 n_1) /\ True) -> KCall prog 23 [.agg #[nI (wtW N 0),nI (wtH N 0),slQ 1 1 (wtLd N).length,nI (1 + (z % 30)),slQ 8 1 (kyo N z S q n_0 n_1).length]] H' [] (Is (.tuple #[slQ 9 1 (cfQ N z (kyo N z S q n_0 n_1)).length,nI 0]) (H' ++ [(.cells true 2 ((cfQ N z (kyo N z S q n_0 n_1)).flatMap spC) : KObj)]))) /\ (((((((cfQ N z (kyo N z S q n_0 n_1)).length : Nat) : Int) : Int) != 0) = true -> kyp = sp) /\ ((((((cfQ N z (kyo N z S q n_0 n_1)).length : Nat) : Int) : Int) != 0) = false -> (((((((kyo N z S q n_0 n_1).length : Nat) : Int) : Int) != (kyz N z S q n_0)) = true -> kyp = sp) /\ ((((((kyo N z S q n_0 n_1).length : Nat) : Int) : Int) != (kyz N z S q n_0)) = false -> ((nI (IntKind.wrap .i64 ((ky13 N S z q n_0) - (kyz N z S q n_0))) : Value) = nI ((ky13 N S z q n_0) - (kyz N z S q n_0)) /\ (((decide (((liW N S z q n_0) : Int) < ((ky13 N S z q n_0) - (kyz N z S q n_0)))) = true -> kyp = sp) /\ ((decide (((liW N S z q n_0) : Int) < ((ky13 N S z q n_0) - (kyz N z S q n_0)))) = false -> ((nI (IntKind.wrap .i64 ((kyz N z S q n_0) - 1)) : Value) = nI ((kyz N z S q n_0) - 1) /\ ((kyh N S z q n_0) /\ (∀ H' : Heap,H'.length = 10 -> (kyf H' N S z q n_0) -> KCall prog 39 [.agg #[nI (wtW N 0),nI (wtH N 0),slQ 1 1 (wtLd N).length,nI (1 + (z % 30)),slQ 4 1 (sgW N S z q n_0).length],slQ 6 1 (clsQ N z (sgW N S z q n_0)).length,nI ((kyz N z S q n_0) - 1)] H' [] (Is (.tuple #[.bool (ky2 N z S q n_0),nI (ky3 N S z q n_0)]) H')) /\ (true = true /\ (0 <= List.length (kyo N z S q n_0 n_1)) /\ (true = true /\ (ky15 = nI ((0 : Nat) : Int) /\ kyr N z S q n_0) /\ (True) /\ (True) /\ (True)) /\ (∀ n_2 : Nat,true = true) /\ ∀ n_2 : Nat,(n_2 <= List.length (kyo N z S q n_0 n_1)) -> (((decide (((n_2 : Int) : Int) < (((kyo N z S q n_0 n_1).length : Nat) : Int))) = true -> (((0 : Int) <= (n_2 : Int) /\ ((n_2 : Int) : Int) < (((kyo N z S q n_0 n_1).length : Nat) : Int)) /\ ((((kyo N z S q n_0 n_1).flatMap spC)[((0 + Int.toNat (n_2 : Int) * 2) + 0)]? = some (nI ((kyo N z S q n_0 n_1).getD n_2 zeroSp).1)) /\ (((kyy N) /\ (someR (.cells true 2 ((kyo N z S q n_0 n_1).flatMap spC))) /\ True) /\ (∀ H' : Heap,H'.length = 10 -> (H'[1]? = some (kyt N) /\ H'[8]? = some (ky9 N z S q n_0 n_1) /\ True) -> KCall prog 18 [.agg #[nI (wtW N 0),nI (wtH N 0),slQ 1 1 (wtLd N).length,nI (1 + (z % 30)),slQ 8 1 (kyo N z S q n_0 n_1).length],nI ((kyo N z S q n_0 n_1).getD n_2 zeroSp).1] H' [] (Is (.tuple #[slQ 10 1 (ky0 N z S q n_0 n_1 n_2).length,nI 0]) (H' ++ [(.cells true 1 ((ky0 N z S q n_0 n_1 n_2).flatMap intC) : KObj)]))) /\ (((0 : Int) <= (n_2 : Int) /\ ((n_2 : Int) : Int) < (((kyo N z S q n_0 n_1).length : Nat) : Int)) /\ ((((kyo N z S q n_0 n_1).flatMap spC)[((0 + Int.toNat (n_2 : Int) * 2) + 1)]? = some (nI ((kyo N z S q n_0 n_1).getD n_2 zeroSp).2)) /\ (((someR (.cells true 1 ((ky0 N z S q n_0 n_1 n_2).flatMap intC))) /\ (someR (.cells true 1 [nI ((kyo N z S q n_0 n_1).getD n_2 zeroSp).2])) /\ True) /\ (∀ H' : Heap,H'.length = 12 -> (H'[10]? = some (.cells true 1 ((ky0 N z S q n_0 n_1 n_2).flatMap intC) : KObj) /\ H'[11]? = some (.cells true 1 [nI ((kyo N z S q n_0 n_1).getD n_2 zeroSp).2] : KObj) /\ True) -> KCall prog 22 [slQ 10 1 (ky0 N z S q n_0 n_1 n_2).length,.slice (some ⟨11,0,none⟩) 1 1] H' [] (Is (.bool (kyi N z S q n_0 n_1 n_2)) H')) /\ (((!(kyi N z S q n_0 n_1 n_2)) = true -> kyp = sp) /\ ((!(kyi N z S q n_0 n_1 n_2)) = false -> ((nI (IntKind.wrap .i64 ((n_2 : Int) + 1)) : Value) = nI ((n_2 : Int) + 1) /\ (∃ n_3' : Nat,(n_3' <= List.length (kyo N z S q n_0 n_1)) /\ (List.length (kyo N z S q n_0 n_1) - n_3') < (List.length (kyo N z S q n_0 n_1) - n_2) /\ true = true /\ ((nI ((n_2 : Int) + 1) : Value) = nI (n_3' : Int) /\ kyr N z S q n_0) /\ (True) /\ (True) /\ (True)))))))))))) /\ ((decide (((n_2 : Int) : Int) < (((kyo N z S q n_0 n_1).length : Nat) : Int))) = false -> ((((((kyz N z S q n_0) : Int) == 0) == (((ky3 N S z q n_0) : Int) == 1)) = true -> (((!(ky2 N z S q n_0)) = true -> (kyj 10 sp)) /\ ((!(ky2 N z S q n_0)) = false -> kyp = sp))) /\ (((((kyz N z S q n_0) : Int) == 0) == (((ky3 N S z q n_0) : Int) == 1)) = false -> kyp = sp))))))))))))))))))))))))))))))))))))
abbrev kyl (qd0 : List Int) : Nat × KObj:=(0,.cells true 0 (ky16 qd0))
abbrev kys (N : List Int) : Nat × KObj:=(1,.cells true 1 ((wtLd N).flatMap boolC))
abbrev kya (qn0 : Nat) (qn1 : Nat) (qn2 : Nat) (qn3 : Nat) (qn4 : Nat) : Hint:=.go qn0 (.slot qn1 (nI ((qn2 : Int) + 1)) (.go 0 (.again [(qn3,qn4)])))
theorem Elblames (sp : Value) (N S : List Int) (z q : Int) : vF prog msk (dm 0) 100000 true 40 true 8 [.iface (N.length + 1) (ky10 N),.iface (S.length + 1) (.agg ⟨(S.flatMap intC)⟩),nI z,nI q] ⟨0,.leaf⟩ (some [])
 (.go 3 (.fork (.ans [] (.bool true) [] (.auto)) (.go 4 (.answ [(0,.cells true 0 [.iface (N.length + 1) (ky10 N),nI 0])] (.agg #[nI (wtW N 0),nI (wtH N 0),slQ 1 1 (wtLd N).length]) [(kyl N)] [.cells true 1 ((wtLd N).flatMap boolC)] (.go 0 (.ans [] (nI (z % 30)) [] (.go 0 (.slot 42 (nI (1 + (z % 30))) (.go 7 (.answ [(kyl N),(kys N)] (slQ 3 2 121) [(0,.cells true 0 (ky14 N z))] [.cells true 1 ((atL N (pcP z)).flatMap intC)] (.go 2 (.inv 3 (Nat) (0) [] [2] (fun n_0 => [(13,nI (n_0 : Int)),(12,nI (liW N S z q n_0)),(3,nI q),(1,.iface (S.length + 1) (.agg ⟨(S.flatMap intC)⟩)),(8,.bool false),(10,.pointer (some ⟨2,0,none⟩)),(11,slQ 3 2 121)]) (fun n_0 => [(2,false,.cells true 0 [nI (wtW N 0),nI (wtH N 0),slQ 1 1 (wtLd N).length,nI (1 + (z % 30)),slQ 4 1 (sgW N S z q n_0).length])]) (fun n_0 => [(true,.cells true 2 ((sgW N S z q n_0).flatMap spC))]) (fun n_0 => []) (fun n_0 => (n_0 <= List.length S)) (fun n_0 => (List.length S - n_0)) (fun n_0 => .go 3 (.fork (.go 1 (.need (.val (nI (S.getD n_0 0)) (.ans [] (nI ((S.getD n_0 0) % 121)) [] (.go 2 (.need (.val (nI ((atL N (pcP z)).getD ((S.getD n_0 0) % 121).toNat 0)) (.go 2 (.fork (kya 1 55 n_0 4 4) (.go 1 (.need (.go 1 (.fork (.go 1 (.slot 73 (nI ((liW N S z q n_0) + 1)) (.go 2 (.need (.val (nI (S.getD n_0 0)) (.go 0 (.slot 78 (nI (kyv S n_0)) (.go 3 (.ans [] (nI ((kyv S n_0) % (kyq N))) [] (.go 4 (.need (.val (.bool ((wtLd N).getD ((kyv S n_0) % (kyq N)).toNat false)) (.go 0 (.fork (.go 7 (.need (kya 3 55 n_0 4 6))) (.go 5 (.need (kya 3 55 n_0 4 6))))))))))))))))) (.go 5 (.need (kya 3 55 n_0 4 6)))))))))))))))) (.go 0 (.ans [(kys N),(4,.cells true 2 ((sgW N S z q n_0).flatMap spC))] (.tuple #[slQ 5 1 (kyu N z S q n_0).length,nI 0]) [.cells true 1 ((kyu N z S q n_0).flatMap boolC)] (.go 5 (.ans [(kys N),(4,.cells true 2 ((sgW N S z q n_0).flatMap spC))] (.tuple #[slQ 6 1 (clsQ N z (sgW N S z q n_0)).length,nI (kyz N z S q n_0),nI 0]) [.cells true 1 ((clsQ N z (sgW N S z q n_0)).flatMap intC)] (.go 9 (.ans [(kys N),(4,.cells true 2 ((sgW N S z q n_0).flatMap spC)),(6,.cells true 1 ((clsQ N z (sgW N S z q n_0)).flatMap intC))] (.tuple #[.bool (kye N z S q n_0),nI (kyg N S z q n_0)]) [] (.go 15 (.gfork (.auto) (.go 7 (.gfork (.auto) (.go 2 (.fork (.auto) (.go 5 (.inv 3 (Nat) (0) [] [7] (fun n_1 => [(25,nI (n_1 : Int)),(10,.pointer (some ⟨2,0,none⟩)),(8,.bool false),(12,nI (liW N S z q n_0)),(17,slQ 5 1 (kyu N z S q n_0).length),(18,nI 0),(19,slQ 6 1 (clsQ N z (sgW N S z q n_0)).length),(20,nI (kyz N z S q n_0)),(21,nI 0),(24,.pointer (some ⟨7,0,none⟩))]) (fun n_1 => [(7,false,.cells true 0 [nI (wtW N 0),nI (wtH N 0),slQ 1 1 (wtLd N).length,nI (1 + (z % 30)),slQ 8 1 (kyo N z S q n_0 n_1).length])]) (fun n_1 => [(true,.cells true 2 ((kyo N z S q n_0 n_1).flatMap spC))]) (fun n_1 => []) (fun n_1 => (n_1 <= List.length (kyu N z S q n_0))) (fun n_1 => (List.length (kyu N z S q n_0) - n_1)) (fun n_1 => .go 3 (.fork (.go 1 (.need (.val (.bool ((kyu N z S q n_0).getD n_1 false)) (.fork (.go 4 (.need (.val (.agg #[nI ((sgW N S z q n_0).getD n_1 zeroSp).1,nI ((sgW N S z q n_0).getD n_1 zeroSp).2]) (.go 0 (.need (kya 3 147 n_1 8 10)))))) (kya 1 147 n_1 8 8))))) (.go 0 (.ans [(kys N),(8,.cells true 2 ((kyo N z S q n_0 n_1).flatMap spC))] (.tuple #[slQ 9 1 (cfQ N z (kyo N z S q n_0 n_1)).length,nI 0]) [.cells true 2 ((cfQ N z (kyo N z S q n_0 n_1)).flatMap spC)] (.go 12 (.gfork (.auto) (.go 6 (.gfork (.auto) (.go 4 (.slot 186 (nI ((ky13 N S z q n_0) - (kyz N z S q n_0))) (.go 2 (.fork (.auto) (.go 3 (.slot 194 (nI ((kyz N z S q n_0) - 1)) (.ans [(kys N),(4,.cells true 2 ((sgW N S z q n_0).flatMap spC)),(6,.cells true 1 ((clsQ N z (sgW N S z q n_0)).flatMap intC))] (.tuple #[.bool (ky2 N z S q n_0),nI (ky3 N S z q n_0)]) [] (.go 5 (.inv 3 (Nat) (0) [] [] (fun n_2 => [(28,nI (n_2 : Int)),(24,.pointer (some ⟨7,0,none⟩)),(20,nI (kyz N z S q n_0)),(27,.bool (ky2 N z S q n_0)),(21,nI (ky3 N S z q n_0))]) (fun n_2 => []) (fun n_2 => []) (fun n_2 => []) (fun n_2 => (n_2 <= List.length (kyo N z S q n_0 n_1))) (fun n_2 => (List.length (kyo N z S q n_0 n_1) - n_2)) (fun n_2 => .go 4 (.fork (.go 3 (.need (.go 0 (.val (nI ((kyo N z S q n_0 n_1).getD n_2 zeroSp).1) (.ans [(kys N),(8,.cells true 2 ((kyo N z S q n_0 n_1).flatMap spC))] (.tuple #[slQ 10 1 (ky0 N z S q n_0 n_1 n_2).length,nI 0]) [.cells true 1 ((ky0 N z S q n_0 n_1 n_2).flatMap intC)] (.go 11 (.need (.go 0 (.val (nI ((kyo N z S q n_0 n_1).getD n_2 zeroSp).2) (.go 0 (.ans [(10,.cells true 1 ((ky0 N z S q n_0 n_1 n_2).flatMap intC)),(11,.cells true 1 [nI ((kyo N z S q n_0 n_1).getD n_2 zeroSp).2])] (.bool (kyi N z S q n_0 n_1 n_2)) [] (.go 1 (.fork (.auto) (.go 1 (.slot 204 (nI ((n_2 : Int) + 1)) (.go 0 (.again []))))))))))))))))) (.go 5 (.gfork (.go 3 (.gfork (.ans [] (.bool true) [] (.auto)) (.auto))) (.auto))))))))))))))))))))))))))))))))))))))))))))))))))
 (fun v _ _ => v = sp) = Rlblames sp N S z q:=by kernel_rfl
end
end Go.Proofs.YtbgfjemppjhmjaaGreat
/- Radio: RadioBlames: the law. No condition. -/
namespace Go.Proofs.YtbgfjemppjhmjaaGreat
open Go Go.K
set_option maxRecDepth 100000
set_option linter.unusedVariables false
set_option linter.unusedSimpArgs false
noncomputable section
attribute [local irreducible] vF
theorem kClQ {N : List Int} {z : Int} {ss : List (Int × Int)} (hl : ss.length <= 19) (e0 : errT (wtW N 0) (wtH N 0) (wtLd N) (pcP z) ss = 0) {H : Heap} {i j : Nat} (hne : i ≠ j) {o1 o2 : Bool} {z1 z2 : Nat} (hi : H[i]? = some (.cells o1 z1 ((wtLd N).flatMap boolC))) (hj : H[j]? = some (.cells o2 z2 (ss.flatMap spC))) :
  KCall prog 38 [.agg #[.int .i64 (wtW N 0), .int .i64 (wtH N 0), .slice (some ⟨i, 0, some 1⟩) (wtLd N).length (wtLd N).length, .int .i64 (1 + z % 30), .slice (some ⟨j, 0, some 1⟩) ss.length ss.length]] H [] (Is (.tuple #[.slice (some ⟨H.length, 0, some 1⟩) (clsQ N z ss).length (clsQ N z ss).length, .int .i64 (mstQ N z ss), .int .i64 0]) (H ++ [.cells true 1 ((clsQ N z ss).flatMap intC)])) :=
 KCall.wkA (kClasses (by have := (wtBas N).n1; have := (wtBas N).p1; omega) hl e0 hne hi hj) (wks_cons wkTrk wks_nil)
theorem kPrQ {N : List Int} {z : Int} {ss : List (Int × Int)} {c : List Int} {k : Int} (hl : ss.length <= 19) (hc : c.length <= 1000) (hk : -1000000 <= k /\ k <= 1000000) (e0 : errT (wtW N 0) (wtH N 0) (wtLd N) (pcP z) ss = 0) {H : Heap} {i j l : Nat} (hnd : [i, j, l].Nodup) {o1 o2 : Bool} {z1 z2 : Nat} (hi : H[i]? = some (.cells o1 z1 ((wtLd N).flatMap boolC))) (hj : H[j]? = some (.cells o2 z2 (ss.flatMap spC))) (hc' : H[l]? = some (.cells true 1 (c.flatMap intC))) :
  KCall prog 39 [.agg #[.int .i64 (wtW N 0), .int .i64 (wtH N 0), .slice (some ⟨i, 0, some 1⟩) (wtLd N).length (wtLd N).length, .int .i64 (1 + z % 30), .slice (some ⟨j, 0, some 1⟩) ss.length ss.length], .slice (some ⟨l, 0, some 1⟩) c.length c.length, .int .i64 k] H [] (Is (.tuple #[.bool (prW N z ss c k), .int .i64 (prE ss c k)]) H) :=
 KCall.wkA (kProves (by have := (wtBas N).n1; have := (wtBas N).p1; omega) (by omega) hc hk e0 hnd (.inr (.inr rfl)) hi hj hc') (wks_cons wkTrk (wks_cons wk_QR (wks_cons (wk_refl _) wks_nil)))
theorem kWhG {N : List Int} {z m : Int} {ss : List (Int × Int)} (e0 : errT (wtW N 0) (wtH N 0) (wtLd N) (pcP z) ss = 0) (hcf : cfTo (pcP z) ss (trkRows (wtW N 0) (wtH N 0) (wtLd N) ss) ss.length = []) (hm : 0 <= m /\ m <= 100000) {H : Heap} {i j : Nat} (hne : i ≠ j) {o1 o2 : Bool} {z1 z2 : Nat} (hi : H[i]? = some (.cells o1 z1 ((wtLd N).flatMap boolC))) (hj : H[j]? = some (.cells o2 z2 (ss.flatMap spC))) :
  KCall prog 18 [.agg #[.int .i64 (wtW N 0), .int .i64 (wtH N 0), .slice (some ⟨i, 0, some 1⟩) (wtLd N).length (wtLd N).length, .int .i64 (1 + z % 30), .slice (some ⟨j, 0, some 1⟩) ss.length ss.length], .int .i64 m] H [] (Is (.tuple #[.slice (some ⟨H.length, 0, some 1⟩) (whQ N z ss m).length (whQ N z ss m).length, .int .i64 0]) (H ++ [.cells true 1 ((whQ N z ss m).flatMap intC)])) :=
 KCall.wkA (kWhere e0 hm hcf hne hi hj) (wks_cons wkTrk (wks_cons (wk_refl _) wks_nil))
theorem sgW_no {N S : List Int} {z q : Int} {x : Nat} (h : (atL N (pcP z)).getD (Int.toNat (S.getD x 0 % 121)) 0 < 0) : sgW N S z q (x + 1) = sgW N S z q x /\ liW N S z q (x + 1) = liW N S z q x := by
 constructor
 ·show (if _ then _ else _) = _
  rw [if_pos h]; rfl
 ·show (if _ then _ else _) = _
  rw [if_pos h]; rfl
theorem sgW_yes {N S : List Int} {z q : Int} {x : Nat} (h : ¬ (atL N (pcP z)).getD (Int.toNat (S.getD x 0 % 121)) 0 < 0) : sgW N S z q (x + 1) = sgW N S z q x ++ [(S.getD x 0 % 121, blC (atL N (pcP z)) S (wtLd N) (btB q) x)] /\ liW N S z q (x + 1) = (if btB q x = true then liW N S z q x + 1 else liW N S z q x) := by
 constructor
 ·show (if _ then _ else _) = _
  rw [if_neg h]; rfl
 ·show (if _ then _ else _) = _
  rw [if_neg h]; rfl
theorem gdW_1 {N : List Int} {z : Int} {ss : List (Int × Int)} {x : Nat} (h : (truQ N z ss).getD x false = true) : gdW N z ss (x + 1) = gdW N z ss x ++ [ss.getD x zeroSp] := by
 show (if _ then _ else _) = _
 rw [if_pos h]; rfl
theorem gdW_0 {N : List Int} {z : Int} {ss : List (Int × Int)} {x : Nat} (h : (truQ N z ss).getD x false = false) : gdW N z ss (x + 1) = gdW N z ss x := by
 show (if _ then _ else _) = _
 rw [if_neg (by rw [h]; decide)]; rfl
theorem gdW_le (N : List Int) (z : Int) (ss : List (Int × Int)) : ∀ x, (gdW N z ss x).length <= x
 | 0 => Nat.le_refl _
 | x + 1 => by
  have ih := gdW_le N z ss x
  cases q : (truQ N z ss).getD x false with
  | true => rw [gdW_1 q, List.length_append, List.length_singleton]; omega
  | false => rw [gdW_0 q]; omega
theorem tdv {v : Int} (h : -9223372036854775808 <= v /\ v <= 9223372036854775807) : -9223372036854775808 <= Int.tdiv v 121 /\ Int.tdiv v 121 <= 9223372036854775807 := by
 by_cases q : 0 <= v
 ·rw [Int.tdiv_eq_ediv_of_nonneg q]; omega
 ·have e : Int.tdiv v 121 = - Int.tdiv (-v) 121 := by rw [Int.neg_tdiv, Int.neg_neg]
  rw [e, Int.tdiv_eq_ediv_of_nonneg (by omega)]; omega
theorem hvBlames (N S : List Int) (z q : Int) (hSr : ∀ v ∈ S, -9223372036854775808 <= v /\ v <= 9223372036854775807) : Rlblames (.bool true) N S z q := by
 delta Rlblames ky17 kyj ky10 ky16 kyk kyt kyy ky14 ky15 kyp kyw kym ky11 kyx ky7 kyd kyv kyq kyc ky6 ky1 ky12 ky4 ky8 kyu kyz kyh kyf kye kyg ky13 kyo kyn ky5 kyb ky9 ky2 ky3 kyr ky0 kyi
 refine ⟨fun _ => ⟨trivial, fun H' _ _ => kAwake H', rfl⟩, fun k0 => ?_⟩
 have hS : S.length <= 12 := by have := of_decide_eq_false k0; omega
 have hp := pcP_bd z
 have hp' : 1 <= 1 + z % 30 /\ 1 + z % 30 <= 30 := hp
 have b := wtBas N
 have hwh := wtWH_bd N 0
 have hld : (wtLd N).length = Int.toNat (wtW N 0 * wtH N 0) := wtLand_len N _
 have hAt := (wtPath N z).2
 refine ⟨⟨rfl, trivial⟩, fun H' hl h => ?_, trivial, fun H' _ _ => kPick z 30 (by omega) (by omega) H', vI64 (by omega), ⟨rfl, rfl, trivial⟩, fun H' hl h => ?_, rfl, Nat.zero_le _, ?_, fun _ => rfl, fun x hx => ⟨fun k => ?_, fun k => ?_⟩⟩
 ·have := kWaters N h.1
  rw [hl] at this; exact this
 ·have := kSails (L := N) (q := wtN (Int.toNat (wtW N 0 * wtH N 0))) b hp (by unfold wtN; omega) (D := 0) (i := 1) (by decide) h.1 h.2.1
  rw [hl] at this
  exact KCall.wkA this (wks_cons (wk_refl _) (wks_cons wkBas (wks_cons (wk_refl _) (wks_cons (wk_refl _) wks_nil))))
 ·repeat' first | exact (inV_rn _ 0 S).symm | exact wk_nil _ _ _ (.inl rfl) | exact rfl | exact wk_refl _ | refine wkO_cells ?_ | exact wks_nil | exact wk_nil _ _ _ (.inl rfl) | apply And.intro
 ·have h1 : x < S.length := by have := of_decide_eq_true k; omega
  have hsl : (sgW N S z q x).length <= x := sgB_len ..
  have hli : 0 <= liW N S z q x /\ liW N S z q x <= x := liN_bd ..
  have v1 := Int.emod_nonneg (S.getD x 0) (b := 121) (by omega)
  have v2 := Int.emod_lt_of_pos (S.getD x 0) (b := 121) (by omega)
  refine ⟨⟨by omega, by omega⟩, intAt h1 (by omega), trivial, fun H' _ _ => kPick _ 121 (by omega) (by omega) H', ⟨v1, v2⟩, intAt (by omega) (by omega), fun g => ?_, fun g => ⟨by omega, fun bt => ?_, fun bt => ?_⟩⟩
  ·obtain ⟨e1, e2⟩ := sgW_no (q := q) (of_decide_eq_true g)
   refine ⟨vI64 (by omega), x + 1, by omega, by omega, rfl, ?_⟩
   rw [e1, e2]
   repeat' first | exact (inV_rn _ 0 S).symm | exact spB _ _ | exact rfl | exact wk_refl _ | refine wkO_cells ?_ | exact wks_nil | exact wk_nil _ _ _ (.inl rfl) | apply And.intro
  ·obtain ⟨e1, e2⟩ := sgW_yes (q := q) (of_decide_eq_false g)
   have hb : btB q x = true := bt
   rw [if_pos hb] at e2
   have hc1 := Int.emod_nonneg (Int.tdiv (S.getD x 0) 121) (b := (((wtLd N).length : Nat) : Int)) (by omega)
   have hc2 := Int.emod_lt_of_pos (Int.tdiv (S.getD x 0) 121) (b := (((wtLd N).length : Nat) : Int)) (by omega)
   have hr := hSr _ (getD_mem (d := 0) h1)
   have ht : -9223372036854775808 <= Int.tdiv (S.getD x 0) 121 /\ Int.tdiv (S.getD x 0) 121 <= 9223372036854775807 := tdv hr
   unfold blC at e1
   rw [if_pos hb] at e1
   refine ⟨vI64 (by omega), ⟨by omega, by omega⟩, intAt h1 (by omega), vI64 ht, trivial, fun H' _ _ => kPick _ _ (by omega) (by omega) H', ⟨hc1, hc2⟩, boolAt (by omega) (by omega), fun d => ?_, fun d => ?_⟩
   ·rw [if_neg (by rw [notB d]; decide)] at e1
    refine ⟨⟨by omega, by decide, ⟨Nat.le_refl _, by rw [flat_len spC_len]; omega⟩, ⟨Nat.le_refl _, by simp⟩, rfl⟩, rfl, vI64 (by omega), x + 1, by omega, by omega, rfl, ?_⟩
    rw [e2]
    repeat' first | exact wk_snoc e1 | exact ob_snoc spC_len e1 rfl | exact (inV_rn _ 0 S).symm | exact spB _ _ | exact rfl | exact wk_refl _ | refine wkO_cells ?_ | exact wks_nil | exact wk_nil _ _ _ (.inl rfl) | apply And.intro
   ·rw [if_pos (notB2 d)] at e1
    refine ⟨⟨by omega, by decide, ⟨Nat.le_refl _, by rw [flat_len spC_len]; omega⟩, ⟨Nat.le_refl _, by simp⟩, rfl⟩, rfl, vI64 (by omega), x + 1, by omega, by omega, rfl, ?_⟩
    rw [e2]
    repeat' first | exact wk_snoc e1 | exact ob_snoc spC_len e1 rfl | exact (inV_rn _ 0 S).symm | exact spB _ _ | exact rfl | exact wk_refl _ | refine wkO_cells ?_ | exact wks_nil | exact wk_nil _ _ _ (.inl rfl) | apply And.intro
  ·obtain ⟨e1, e2⟩ := sgW_yes (q := q) (of_decide_eq_false g)
   have hb : ¬ btB q x = true := fun e => by unfold btB at e; rw [e] at bt; cases bt
   rw [if_neg hb] at e2
   unfold blC at e1
   rw [if_neg hb] at e1
   refine ⟨⟨by omega, by decide, ⟨Nat.le_refl _, by rw [flat_len spC_len]; omega⟩, ⟨Nat.le_refl _, by simp⟩, rfl⟩, rfl, vI64 (by omega), x + 1, by omega, by omega, rfl, ?_⟩
   rw [e2]
   repeat' first | exact wk_snoc e1 | exact ob_snoc spC_len e1 rfl | exact (inV_rn _ 0 S).symm | exact spB _ _ | exact rfl | exact wk_refl _ | refine wkO_cells ?_ | exact wks_nil | exact wk_nil _ _ _ (.inl rfl) | apply And.intro
 ·have h1 : x = S.length := by have := of_decide_eq_false k; omega
  have hsl : (sgW N S z q x).length <= x := sgB_len ..
  have hli : 0 <= liW N S z q x /\ liW N S z q x <= x := liN_bd ..
  have kk : SgOk N z (sgW N S z q x) := sgB_sg N S z (btB q) (by omega)
  have hmst : ((sgW N S z q x).length : Int) - mstQ N z (sgW N S z q x) <= liW N S z q x := sgB_mst (by omega)
  generalize hss : sgW N S z q x = ss at *
  generalize liW N S z q x = li at *
  have e0 := kk.err
  have t := kk.tr
  have aO := kk.ag
  have htl : (truQ N z ss).length = ss.length := truL_len aO
  have hm1 : mstQ N z ss <= (ss.length : Int) := by have := mst_le aO; rw [allN_len] at this; exact this
  have hm0 := mst_pos (agr := agI (pcP z) ss (rwQ N ss)) (k := kyI ss) (n := ss.length)
  have hm0' : 0 <= mstQ N z ss := hm0.1
  have hcl : (clsQ N z ss).length = ss.length := clsL_len ..
  have hpw : prW N z ss (clsQ N z ss) (mstQ N z ss) = true := by
   unfold prW
   rw [decide_eq_true ⟨hcl, hm0'⟩, Bool.true_and]
   exact prv_own aO
  have hpe : prE ss (clsQ N z ss) (mstQ N z ss) = 0 := if_pos ⟨hcl, hm0'⟩
  have gg := gdQ_sg kk
  have gcf : cfQ N z (gdQ N z ss) = [] := gdQ_cf kk
  have glen := gdQ_len kk
  refine ⟨⟨rfl, rfl, trivial⟩, fun H' hl h => hl ▸ kTrQ (by omega) e0 (by decide) h.1 h.2.1, ⟨rfl, rfl, trivial⟩, fun H' hl h => hl ▸ kClQ (by omega) e0 (by decide) h.1 h.2.1, ⟨rfl, rfl, rfl, trivial⟩, fun H' hl h => kPrQ (by omega) (by omega) (by omega) e0 (by decide) h.1 h.2.1 h.2.2.1, fun g => ?_, fun _ => ⟨fun g => ?_, fun _ => ⟨fun g => ?_, fun _ => ⟨rfl, Nat.zero_le _, ?_, fun _ => rfl, fun y hy => ⟨fun c => ?_, fun c => ?_⟩⟩⟩⟩⟩
  ·rw [hpe] at g; exact absurd g (by decide)
  ·rw [htl] at g; simp at g
  ·rw [hpw] at g; exact absurd g (by decide)
  ·repeat' first | exact wk_nil _ _ _ (.inl rfl) | exact rfl | exact wk_refl _ | refine wkO_cells ?_ | exact wks_nil | exact wk_nil _ _ _ (.inl rfl) | apply And.intro
  ·have hy1 : y < ss.length := by have := of_decide_eq_true c; omega
   have hgl := gdW_le N z ss y
   refine ⟨⟨by omega, by omega⟩, boolAt (by omega) (by omega), fun g => ⟨⟨by omega, by omega⟩, spPart hy1 (by omega), ⟨by omega, by decide, ⟨Nat.le_refl _, by rw [flat_len spC_len]; omega⟩, ⟨Nat.le_refl _, by simp⟩, rfl⟩, rfl, vI64 (by omega), y + 1, by omega, by omega, rfl, ?_⟩, fun g => ⟨vI64 (by omega), y + 1, by omega, by omega, rfl, ?_⟩⟩
   ·have e1 := gdW_1 g
    repeat' first | exact wk_snoc e1 | exact ob_snoc spC_len e1 rfl | exact (inV_rn _ 0 S).symm | exact spB _ _ | exact rfl | exact wk_refl _ | refine wkO_cells ?_ | exact wks_nil | exact wk_nil _ _ _ (.inl rfl) | apply And.intro
   ·rw [gdW_0 g]
    repeat' first | exact (inV_rn _ 0 S).symm | exact spB _ _ | exact rfl | exact wk_refl _ | refine wkO_cells ?_ | exact wks_nil | exact wk_nil _ _ _ (.inl rfl) | apply And.intro
  ·have hy1 : y = ss.length := by have := of_decide_eq_false c; omega
   subst hy1
   rw [show gdW N z ss ss.length = gdQ N z ss from rfl]
   have gl2 : (gdQ N z ss).length <= ss.length := gdW_le N z ss ss.length
   refine ⟨⟨rfl, rfl, trivial⟩, fun H' hl h => hl ▸ kCfQ gg.err (by decide) h.1 h.2.1, fun g => ?_, fun _ => ⟨fun g => ?_, fun _ => ⟨vI64 (by omega), fun g => ?_, fun _ => ⟨vI64 (by omega), ⟨rfl, rfl, rfl, trivial⟩, fun H' hl h => kPrQ (by omega) (by omega) (by omega) e0 (by decide) h.1 h.2.1 h.2.2.1, rfl, Nat.zero_le _, ?_, fun _ => rfl, fun u hu => ⟨fun ku => ?_, fun ku => ?_⟩⟩⟩⟩⟩
   ·rw [gcf] at g; exact absurd g (by decide)
   ·rw [glen] at g; simp at g
   ·have := of_decide_eq_true g; omega
   ·repeat' first | exact rfl | exact wk_refl _ | refine wkO_cells ?_ | exact wks_nil | exact wk_nil _ _ _ (.inl rfl) | apply And.intro
   ·have hu1 : u < (gdQ N z ss).length := by have := of_decide_eq_true ku; omega
    have hw := gdQ_wh kk hu1
    have hs := gg.ok _ (getD_mem (d := zeroSp) hu1)
    refine ⟨⟨by omega, by omega⟩, spAt0 hu1 (by omega), ⟨rfl, rfl, trivial⟩, fun H' hl h => hl ▸ kWhG gg.err (gdQ_cf kk) (by omega) (by decide) h.1 h.2.1, ⟨by omega, by omega⟩, spAt1 hu1 (by omega), ⟨rfl, rfl, trivial⟩, fun H' hl h => ?_, fun g => ?_, fun _ => ⟨vI64 (by omega), u + 1, by omega, by omega, rfl, ?_⟩⟩
    ·exact KCall.wkA (kSame _ [((gdQ N z ss).getD u zeroSp).2] (by rw [hw]; show 1 <= _; omega) (by simp) h.1 h.2.1) (wks_cons wk_QR (wks_cons wk_R wks_nil))
    ·rw [hw] at g; simp at g
    ·repeat' first | exact rfl | exact wk_refl _ | refine wkO_cells ?_ | exact wks_nil | exact wk_nil _ _ _ (.inl rfl) | apply And.intro
   ·by_cases hn : 0 < ss.length
    ·have p1 := hm0.2 hn
     have p1' : 1 <= mstQ N z ss := p1
     have q1 : prE ss (clsQ N z ss) (mstQ N z ss - 1) = 0 := if_pos ⟨hcl, by omega⟩
     have q2 : prW N z ss (clsQ N z ss) (mstQ N z ss - 1) = false := by
      unfold prW
      rw [show prvQ N z ss (clsQ N z ss) (mstQ N z ss - 1) = false from prv_less aO hn, Bool.and_false]
     rw [q1, q2]
     refine ⟨fun _ => ⟨fun _ => ⟨trivial, fun H' _ _ => kAwake H', rfl⟩, fun g => absurd g (by decide)⟩, fun g => ?_⟩
     rw [beq_eq_false_iff_ne.2 (show mstQ N z ss ≠ 0 by omega)] at g
     exact absurd g (by decide)
    ·have hz : mstQ N z ss = 0 := by omega
     have q1 : prE ss (clsQ N z ss) (mstQ N z ss - 1) = 1 := if_neg fun h => by omega
     have q2 : prW N z ss (clsQ N z ss) (mstQ N z ss - 1) = false := by
      unfold prW
      rw [decide_eq_false (fun h => by omega), Bool.false_and]
     rw [q1, q2, hz]
     exact ⟨fun _ => ⟨fun _ => ⟨trivial, fun H' _ _ => kAwake H', rfl⟩, fun g => absurd g (by decide)⟩, fun g => absurd g (by decide)⟩
theorem kBlamesLaw (N S : List Int) (z q : Int) (hSr : ∀ v ∈ S, -9223372036854775808 <= v /\ v <= 9223372036854775807) (H : Heap) : KCall prog 8 [dI N, dI S, .int .i64 z, .int .i64 q] H [] (Is (.bool true) H) :=
 valK 40 (args_rn (by show (belowC 0 (dI N) && (belowC 0 (dI S) && true)) = true; rw [dI_b, dI_b]; rfl)) rfl (Eq.mpr (Elblames _ N S z q) (hvBlames N S z q hSr)) H
end
end Go.Proofs.YtbgfjemppjhmjaaGreat
/- How laws' arguments are read. No condition. -/
namespace Go.Proofs.YtbgfjemppjhmjaaGreat
set_option linter.unusedSimpArgs false
open Go Go.K Go.ChangeShapes Go.WideShapes Go.ChangeAt Go.RowKit
set_option maxRecDepth 100000
set_option linter.unusedVariables false
noncomputable section
theorem own : ownKnob Tryz.prog.godebug = none := by kernel_rfl
theorem sized : slicesSized Tryz.prog = true := by kernel_rfl
abbrev known (t : TypeId) : Prop := t < Tryz.prog.types.size
theorem kids : Kids Tryz.prog known := kids_rows (by kernel_rfl) (by kernel_rfl)
theorem goodAD_cons {n : Nat} {t : TypeId} {ts : List TypeId} {vs : List Value} (h : GoodAD Tryz.prog n (t :: ts) vs) : ∃ v vs', vs = v :: vs' /\ GoodVD Tryz.prog n t v /\ GoodAD Tryz.prog n ts vs' := by
 cases vs with
 | nil => exact h.elim
 | cons v vs => exact ⟨v, vs, rfl, h.1, h.2⟩
theorem goodAD_nil {n : Nat} {vs : List Value} (h : GoodAD Tryz.prog n [] vs) : vs = [] := by
 cases vs with
 | nil => rfl
 | cons v vs => exact h.elim
theorem goodD_i64 {n : Nat} {c : List Value} (h : GoodD Tryz.prog (n + 1) 3 c) : ∃ x : Int, c = [.int .i64 x] /\ inI x := by
 unfold GoodD at h
 rw [show Tryz.prog.underlying 3 = some (.int .i64) by kernel_rfl] at h
 obtain ⟨x, rfl, h1, h2⟩ := h
 refine ⟨x, rfl, ?_⟩
 simp only [IntKind.min, IntKind.max, IntKind.signed, IntKind.bits] at h1 h2
 unfold inI
 simp at h1 h2
 omega
theorem goodVD_int {v : Value} (h : GoodVD Tryz.prog 6 3 v) : ∃ x : Int, v = .int .i64 x /\ inI x := by
 unfold GoodVD at h
 rw [show Tryz.prog.underlying 3 = some (.int .i64) by kernel_rfl] at h
 obtain ⟨x, h1, h2⟩ := goodD_i64 h
 exact ⟨x, by simpa using h1, h2⟩
theorem goodVD_ints {v : Value} (h : GoodVD Tryz.prog 6 22 v) : ∃ L : List Int, v = .iface (L.length + 1) (.agg ⟨L.flatMap intC⟩) /\ L.length <= maxLen /\ ∀ x ∈ L, inI x := by
 unfold GoodVD at h
 rw [show Tryz.prog.underlying 22 = some (.slice 3) by kernel_rfl] at h
 unfold GoodD at h
 rw [show Tryz.prog.underlying 22 = some (.slice 3) by kernel_rfl] at h
 obtain ⟨len, ds, h1, h2, h3, h4⟩ := h
 obtain ⟨xs, e1, e2, e3⟩ := goodL_list (f := intC) (q := inI) (fun c hc => goodD_i64 (n := 4) hc) len ds h4
 subst e1 e2
 exact ⟨xs, by simpa using h1, h3, e3⟩
end
end Go.Proofs.YtbgfjemppjhmjaaGreat
