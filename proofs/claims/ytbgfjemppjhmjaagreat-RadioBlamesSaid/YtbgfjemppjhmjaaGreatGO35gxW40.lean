/- What is to be shown of functions. Printed by a program. No condition. -/
import Derived.Test.YtbgfjemppjhmjaaGreatGW26xO32g
import Derived.Test.YtbgfjemppjhmjaaGreatGK42xP32
namespace Go.Proofs.YtbgfjemppjhmjaaGreat
set_option linter.unusedSimpArgs false
open Go Go.K
set_option maxRecDepth 100000
set_option maxHeartbeats 4000000
set_option linter.unusedVariables false
noncomputable section
abbrev knm (a : List Bool):=a.flatMap boolC
abbrev kn3 (w : Int) (h : Int) (a : List Bool) (p : Int) (ss : List (Int × Int)) : List Value:=[nI w,nI h,slQ 0 2 a.length,nI p,slQ 1 2 ss.length,slQ 4 1 (rowT w h a ss ss.length).length]
abbrev knb (o1 : Bool) (z1 : Nat) (a : List Bool) (o2 : Bool) (z2 : Nat) (ss : List (Int × Int)) (w : Int) (h : Int) : Prop:=(someR (.cells o1 z1 (knm a))) /\ (someR (.cells o2 z2 (ss.flatMap spC))) /\ (someR (.cells true 1 (inL (rowT w h a ss ss.length)))) /\ True
abbrev kn8 (H' : Heap) (o1 : Bool) (z1 : Nat) (a : List Bool) (o2 : Bool) (z2 : Nat) (ss : List (Int × Int)) (w : Int) (h : Int) : Prop:=H'[0]? = some (.cells o1 z1 (knm a) : KObj) /\ H'[1]? = some (.cells o2 z2 (ss.flatMap spC) : KObj) /\ H'[4]? = some (.cells true 1 (inL (rowT w h a ss ss.length)) : KObj) /\ True
abbrev kni : List Value:=[.pointer (some ⟨3,0,none⟩)]
abbrev knk (ss : List (Int × Int)) : KObj:=.cells true 1 ((allL ss.length).flatMap intC)
abbrev kn4 (p : Int) (ss : List (Int × Int)) (w : Int) (h : Int) (a : List Bool):=agI p ss (rowT w h a ss ss.length)
abbrev kng (p : Int) (ss : List (Int × Int)) (w : Int) (h : Int) (a : List Bool):=mst (kn4 p ss w h a) (kyI ss) (allL ss.length)
abbrev knl (p : Int) (ss : List (Int × Int)) (w : Int) (h : Int) (a : List Bool):=trS (kn4 p ss w h a) (kyI ss) ss.length (0,allL ss.length).1
abbrev kn0 (p : Int) (ss : List (Int × Int)) (w : Int) (h : Int) (a : List Bool) (x3 : Nat × List Int):=trS (kn4 p ss w h a) (kyI ss) ss.length x3.1
abbrev kn5 (x3 : Nat × List Int) : Int:=(x3.1 : Nat)
abbrev knj (x3 : Nat × List Int):=someR (.cells true 1 (x3.2.flatMap intC))
abbrev kne (p : Int) (ss : List (Int × Int)) (w : Int) (h : Int) (a : List Bool) (x3 : Nat × List Int):=keepP (agI p ss (rowT w h a ss ss.length) (kn5 x3)) (kn0 p ss w h a x3).1 (List.length (kn0 p ss w h a x3).1)
abbrev kn9 (p : Int) (ss : List (Int × Int)) (w : Int) (h : Int) (a : List Bool) (x3 : Nat × List Int):=delP (agI p ss (rowT w h a ss ss.length) (kn5 x3)) (kn0 p ss w h a x3).1 (List.length (kn0 p ss w h a x3).1)
abbrev kn1 (p : Int) (ss : List (Int × Int)) (w : Int) (h : Int) (a : List Bool) (x3 : Nat × List Int):=mst (kn4 p ss w h a) (kyI ss) (kne p ss w h a x3)
abbrev kn6 (p : Int) (ss : List (Int × Int)) (w : Int) (h : Int) (a : List Bool) (x3 : Nat × List Int) : Prop:=((List.length (kn0 p ss w h a x3).2) + 1) * 1 <= 2 ^ 44 /\ 1 ≠ 0 /\ ((List.length (kn0 p ss w h a x3).2) <= (List.length (kn0 p ss w h a x3).2) /\ 0 + (List.length (kn0 p ss w h a x3).2) * 1 <= List.length (((kn0 p ss w h a x3).2).flatMap boolC)) /\ (1 <= 1 /\ 0 + 1 * 1 <= List.length ([.bool (((kn1 p ss w h a x3) : Int) == (kng p ss w h a))] : List Value)) /\ (((([.bool (((kn1 p ss w h a x3) : Int) == (kng p ss w h a))] : List Value).drop 0).take (1 * 1)) : List Value).all (fun v => one1 v) = true
abbrev knn (x3 : Nat × List Int) : Value:=nI (IntKind.wrap .i64 ((kn5 x3) + 1))
abbrev knc (x3' : Nat × List Int) (ss : List (Int × Int)) (p : Int) (w : Int) (h : Int) (a : List Bool) : Prop:=x3'.1 <= List.length ss /\ List.take (List.length (trS (kn4 p ss w h a) (kyI ss) ss.length x3'.1).1) x3'.2 = (trS (kn4 p ss w h a) (kyI ss) ss.length x3'.1).1 /\ List.length x3'.2 <= List.length ss
abbrev kn2 (p : Int) (ss : List (Int × Int)) (w : Int) (h : Int) (a : List Bool) (x3 : Nat × List Int) (x3' : Nat × List Int) : Prop:=wk (.slice (some ⟨12,0,none⟩) ((List.length (kn0 p ss w h a x3).2) + 1) ((List.length (kn0 p ss w h a x3).2) + 1) : Value) (slQ 12 1 (List.length (trS (kn4 p ss w h a) (kyI ss) ss.length x3'.1).2) : Value) /\ (.slice none 0 0 : Value) = .slice none 0 0 /\ (nI 0 : Value) = nI 0 /\ (.pointer (some ⟨5,0,none⟩) : Value) = .pointer (some ⟨5,0,none⟩) /\ (nI (kng p ss w h a) : Value) = nI (kng p ss w h a) /\ (nI ((ss.length : Nat) : Int) : Value) = nI ((ss.length : Nat) : Int) /\ True
abbrev knf (x3' : Nat × List Int) : KObj:=.cells true 1 (x3'.2.flatMap intC)
abbrev kna (p : Int) (ss : List (Int × Int)) (w : Int) (h : Int) (a : List Bool) (x3 : Nat × List Int) (x3' : Nat × List Int) : Prop:=(some (.cells true 1 ((((((kn0 p ss w h a x3).2).flatMap boolC).drop 0).take ((List.length (kn0 p ss w h a x3).2) * 1)) ++ ((([.bool (((kn1 p ss w h a x3) : Int) == (kng p ss w h a))] : List Value).drop 0).take (1 * 1))) : KObj) = some (.cells true 1 (((trS (kn4 p ss w h a) (kyI ss) ss.length x3'.1).2).flatMap boolC) : KObj) /\ belowO 7 (.cells true 1 (((trS (kn4 p ss w h a) (kyI ss) ss.length x3'.1).2).flatMap boolC) : KObj) = true) /\ True
abbrev kn7 (x3 : Nat × List Int) (p : Int) (ss : List (Int × Int)) (w : Int) (h : Int) (a : List Bool) : Prop:=∀ H' : Heap,H'.length = 11 -> (H'[7]? = some (.cells true 1 (x3.2.flatMap intC) : KObj) /\ H'[9]? = some (.cells true 0 [nI (kn5 x3)] : KObj) /\ True) -> KCall prog 84 [slQ 7 2 (List.length (kn0 p ss w h a x3).1),.func (.func 89) #[] #[.pointer (some ⟨9,0,none⟩)]] H' [7] (Is (slQ 7 2 (keepP (qNe (kn5 x3)) x3.2 (List.length (kn0 p ss w h a x3).1)).length) (List.set H' 7 (.cells true 1 ((delP (qNe (kn5 x3)) x3.2 (List.length (kn0 p ss w h a x3).1)).flatMap intC) : KObj)))
abbrev knh (x3 : Nat × List Int) (x3' : Nat × List Int) (p : Int) (ss : List (Int × Int)) (w : Int) (h : Int) (a : List Bool) : Prop:=(nI ((kn5 x3) + 1) : Value) = nI ((x3'.1 : Nat) : Int) /\ wk (slQ 7 2 (keepP (qNe (kn5 x3)) x3.2 (List.length (kn0 p ss w h a x3).1)).length : Value) (slQ 7 2 (List.length (trS (kn4 p ss w h a) (kyI ss) ss.length x3'.1).1) : Value) /\ kn2 p ss w h a x3 x3'
abbrev kno : List Value:=[.bool false]
def Rtrust (o1 o2 : Bool) (z1 z2 : Nat) (w h : Int) (a : List Bool) (p : Int) (ss : List (Int × Int)) : Prop :=
 (((someR (.cells o1 z1 (knm a))) /\ (someR (.cells o2 z2 (ss.flatMap spC))) /\ True) /\ (∀ H' : Heap,H'.length = 3 -> (H'[0]? = some (.cells o1 z1 (knm a) : KObj) /\ H'[1]? = some (.cells o2 z2 (ss.flatMap spC) : KObj) /\ True) -> KCall prog 72 [.agg #[nI w,nI h,slQ 0 2 a.length,nI p,slQ 1 2 ss.length]] H' [] (Is (.tuple #[.pointer (some ⟨3,0,none⟩),nI 0]) (H' ++ [(.cells true 0 (kn3 w h a p ss) : KObj),(.cells true 1 (inL (rowT w h a ss ss.length)) : KObj)]))) /\ (((someR (.cells true 0 (kn3 w h a p ss))) /\ knb o1 z1 a o2 z2 ss w h) /\ (∀ H' : Heap,H'.length = 6 -> (H'[3]? = some (.cells true 0 (kn3 w h a p ss) : KObj) /\ kn8 H' o1 z1 a o2 z2 ss w h) -> KCall prog 77 kni H' [] (Is (slQ 6 1 (allL ss.length).length) (H' ++ [(knk ss)]))) /\ (((someR (.cells true 0 (kn3 w h a p ss))) /\ (someR (.cells true 1 ((allL ss.length).flatMap intC))) /\ knb o1 z1 a o2 z2 ss w h) /\ (∀ H' : Heap,H'.length = 7 -> (H'[3]? = some (.cells true 0 (kn3 w h a p ss) : KObj) /\ H'[6]? = some (knk ss) /\ kn8 H' o1 z1 a o2 z2 ss w h) -> KCall prog 83 [.pointer (some ⟨3,0,none⟩),slQ 6 1 (allL ss.length).length] H' [] (Is (nI (kng p ss w h a)) H')) /\ (true = true /\ ((0,allL ss.length).1 <= List.length ss /\ List.take (List.length (knl p ss w h a).1) (0,allL ss.length).2 = (knl p ss w h a).1 /\ List.length (0,allL ss.length).2 <= List.length ss) /\ (true = true /\ ((nI 0 : Value) = nI (((0,allL ss.length).1 : Nat) : Int) /\ wk (slQ 6 1 (allL ss.length).length : Value) (slQ 6 2 (List.length (knl p ss w h a).1) : Value) /\ wk (.slice none 0 0 : Value) (slQ 0 1 (List.length (knl p ss w h a).2) : Value) /\ (.slice none 0 0 : Value) = .slice none 0 0 /\ (nI 0 : Value) = nI 0 /\ (.pointer (some ⟨5,0,none⟩) : Value) = .pointer (some ⟨5,0,none⟩) /\ (nI (kng p ss w h a) : Value) = nI (kng p ss w h a) /\ (nI ((ss.length : Nat) : Int) : Value) = nI ((ss.length : Nat) : Int) /\ True) /\ (True /\ True) /\ ((some (knk ss) = some (.cells true 1 (List.flatMap intC (0,allL ss.length).2) : KObj) /\ belowO 7 (.cells true 1 (List.flatMap intC (0,allL ss.length).2) : KObj) = true) /\ True /\ True) /\ (True)) /\ (∀ x3 : Nat × List Int,true = true) /\ ∀ x3 : Nat × List Int,(x3.1 <= List.length ss /\ List.take (List.length (kn0 p ss w h a x3).1) x3.2 = (kn0 p ss w h a x3).1 /\ List.length x3.2 <= List.length ss) -> (((decide (((kn5 x3) : Int) < ((ss.length : Nat) : Int))) = true -> (((knj x3) /\ True) /\ (∀ H' : Heap,H'.length = 10 -> (H'[7]? = some (.cells true 1 (x3.2.flatMap intC) : KObj) /\ True) -> KCall prog 85 [slQ 7 2 (List.length (kn0 p ss w h a x3).1)] H' [] (Is (slQ 10 1 (List.length (kn0 p ss w h a x3).1)) (H' ++ [(.cells true 1 (List.flatMap intC (kn0 p ss w h a x3).1) : KObj)]))) /\ (((someR (.cells true 1 (List.flatMap intC (kn0 p ss w h a x3).1))) /\ (someR (.cells true 0 kni)) /\ (someR (.cells true 0 [nI (kn5 x3)])) /\ (someR (.cells true 0 (kn3 w h a p ss))) /\ knb o1 z1 a o2 z2 ss w h) /\ (∀ H' : Heap,H'.length = 11 -> (H'[10]? = some (.cells true 1 (List.flatMap intC (kn0 p ss w h a x3).1) : KObj) /\ H'[5]? = some (.cells true 0 kni : KObj) /\ H'[9]? = some (.cells true 0 [nI (kn5 x3)] : KObj) /\ H'[3]? = some (.cells true 0 (kn3 w h a p ss) : KObj) /\ kn8 H' o1 z1 a o2 z2 ss w h) -> KCall prog 84 [slQ 10 1 (List.length (kn0 p ss w h a x3).1),.func (.func 86) #[] #[.pointer (some ⟨5,0,none⟩),.pointer (some ⟨9,0,none⟩)]] H' [10] (Is (slQ 10 2 (kne p ss w h a x3).length) (List.set H' 10 (.cells true 1 ((kn9 p ss w h a x3).flatMap intC) : KObj)))) /\ (((knj x3) /\ True) /\ (∀ H' : Heap,H'.length = 11 -> (H'[7]? = some (.cells true 1 (x3.2.flatMap intC) : KObj) /\ True) -> KCall prog 88 [slQ 7 2 (List.length (kn0 p ss w h a x3).1),nI (kn5 x3)] H' [] (Is (.bool (List.any (kn0 p ss w h a x3).1 (fun v => v == (kn5 x3)))) H')) /\ (((List.any (kn0 p ss w h a x3).1 (fun v => v == (kn5 x3))) = true -> (((someR (.cells true 0 (kn3 w h a p ss))) /\ (someR (.cells true 1 ((kn9 p ss w h a x3).flatMap intC))) /\ knb o1 z1 a o2 z2 ss w h) /\ (∀ H' : Heap,H'.length = 11 -> (H'[3]? = some (.cells true 0 (kn3 w h a p ss) : KObj) /\ H'[10]? = some (.cells true 1 ((kn9 p ss w h a x3).flatMap intC) : KObj) /\ kn8 H' o1 z1 a o2 z2 ss w h) -> KCall prog 83 [.pointer (some ⟨3,0,none⟩),slQ 10 2 (kne p ss w h a x3).length] H' [] (Is (nI (kn1 p ss w h a x3)) H')) /\ (((((kn1 p ss w h a x3) : Int) == (kng p ss w h a)) = true -> ((kn6 p ss w h a x3) /\ true = true /\ ((knn x3) = nI ((kn5 x3) + 1) /\ (∃ x3' : Nat × List Int,(knc x3' ss p w h a) /\ (List.length ss - x3'.1) < (List.length ss - x3.1) /\ true = true /\ ((nI ((kn5 x3) + 1) : Value) = nI ((x3'.1 : Nat) : Int) /\ wk (slQ 10 2 (kne p ss w h a x3).length : Value) (slQ 10 2 (List.length (trS (kn4 p ss w h a) (kyI ss) ss.length x3'.1).1) : Value) /\ kn2 p ss w h a x3 x3') /\ (True /\ True) /\ ((some (.cells true 1 ((kn9 p ss w h a x3).flatMap intC) : KObj) = some (knf x3') /\ belowO 7 (knf x3') = true) /\ kna p ss w h a x3 x3') /\ (True))))) /\ ((((kn1 p ss w h a x3) : Int) == (kng p ss w h a)) = false -> (((knj x3) /\ (someR (.cells true 0 [nI (kn5 x3)])) /\ True) /\ (kn7 x3 p ss w h a) /\ ((kn6 p ss w h a x3) /\ true = true /\ ((knn x3) = nI ((kn5 x3) + 1) /\ (∃ x3' : Nat × List Int,(knc x3' ss p w h a) /\ (List.length ss - x3'.1) < (List.length ss - x3.1) /\ true = true /\ (knh x3 x3' p ss w h a) /\ (True /\ True) /\ ((some (.cells true 1 ((delP (qNe (kn5 x3)) x3.2 (List.length (kn0 p ss w h a x3).1)).flatMap intC) : KObj) = some (knf x3') /\ belowO 7 (knf x3') = true) /\ kna p ss w h a x3 x3') /\ (True))))))))) /\ ((List.any (kn0 p ss w h a x3).1 (fun v => v == (kn5 x3))) = false -> (((knj x3) /\ (someR (.cells true 0 [nI (kn5 x3)])) /\ True) /\ (kn7 x3 p ss w h a) /\ ((((List.length (kn0 p ss w h a x3).2) + 1) * 1 <= 2 ^ 44 /\ 1 ≠ 0 /\ ((List.length (kn0 p ss w h a x3).2) <= (List.length (kn0 p ss w h a x3).2) /\ 0 + (List.length (kn0 p ss w h a x3).2) * 1 <= List.length (((kn0 p ss w h a x3).2).flatMap boolC)) /\ (1 <= 1 /\ 0 + 1 * 1 <= List.length kno) /\ (((kno.drop 0).take (1 * 1)) : List Value).all (fun v => one1 v) = true) /\ true = true /\ ((knn x3) = nI ((kn5 x3) + 1) /\ (∃ x3' : Nat × List Int,(knc x3' ss p w h a) /\ (List.length ss - x3'.1) < (List.length ss - x3.1) /\ true = true /\ (knh x3 x3' p ss w h a) /\ (True /\ True) /\ ((some (.cells true 1 ((delP (qNe (kn5 x3)) x3.2 (List.length (kn0 p ss w h a x3).1)).flatMap intC) : KObj) = some (knf x3') /\ belowO 7 (knf x3') = true) /\ (some (.cells true 1 ((((((kn0 p ss w h a x3).2).flatMap boolC).drop 0).take ((List.length (kn0 p ss w h a x3).2) * 1)) ++ ((kno.drop 0).take (1 * 1))) : KObj) = some (.cells true 1 (((trS (kn4 p ss w h a) (kyI ss) ss.length x3'.1).2).flatMap boolC) : KObj) /\ belowO 7 (.cells true 1 (((trS (kn4 p ss w h a) (kyI ss) ss.length x3'.1).2).flatMap boolC) : KObj) = true) /\ True) /\ (True))))))))))) /\ ((decide (((kn5 x3) : Int) < ((ss.length : Nat) : Int))) = false -> (true = true /\ wk (.tuple #[slQ 8 1 (List.length (kn0 p ss w h a x3).2),nI 0] : Value) (rn (sg 2 [(2,8)]) 3 (.tuple #[slQ 2 1 (truL (kn4 p ss w h a) (kyI ss) ss.length).length,nI 0] : Value)) /\ ((some (.cells true 1 (((kn0 p ss w h a x3).2).flatMap boolC) : KObj) = some (.cells true 1 ((truL (kn4 p ss w h a) (kyI ss) ss.length).flatMap boolC) : KObj) /\ belowO 2 (.cells true 1 ((truL (kn4 p ss w h a) (kyI ss) ss.length).flatMap boolC) : KObj) = true) /\ True))))))))
abbrev knd (x3 : Nat × List Int) (p : Int) (ss : List (Int × Int)) (w : Int) (h : Int) (a : List Bool) : Hint:=.answ [(7,.cells true 1 (x3.2.flatMap intC)),(9,.cells true 0 [nI (kn5 x3)])] (slQ 7 2 (keepP (qNe (kn5 x3)) x3.2 (List.length (kn0 p ss w h a x3).1)).length) [(7,.cells true 1 ((delP (qNe (kn5 x3)) x3.2 (List.length (kn0 p ss w h a x3).1)).flatMap intC))] [] (.go 3 (.need (.go 1 (.slot 57 (nI ((kn5 x3) + 1)) (.go 0 (.again [(7,7),(8,12)]))))))
theorem Etrust (o1 o2 : Bool) (z1 z2 : Nat) (w h : Int) (a : List Bool) (p : Int) (ss : List (Int × Int)) : vF prog msk (dm 0) 100000 true 40 true 24 [.agg #[nI w,nI h,slQ 0 2 a.length,nI p,slQ 1 2 ss.length]] (readsK [.cells o1 z1 (knm a),.cells o2 z2 (ss.flatMap spC)]) (some [])
 (.go 3 (.ans [(0,.cells o1 z1 (knm a)),(1,.cells o2 z2 (ss.flatMap spC))] (.tuple #[.pointer (some ⟨3,0,none⟩),nI 0]) [.cells true 0 (kn3 w h a p ss),.cells true 1 (inL (rowT w h a ss ss.length))] (.go 9 (.ans [(3,.cells true 0 (kn3 w h a p ss)),(0,.cells o1 z1 (knm a)),(1,.cells o2 z2 (ss.flatMap spC)),(4,.cells true 1 (inL (rowT w h a ss ss.length)))] (slQ 6 1 (allL ss.length).length) [.cells true 1 ((allL ss.length).flatMap intC)] (.go 2 (.ans [(3,.cells true 0 (kn3 w h a p ss)),(6,.cells true 1 ((allL ss.length).flatMap intC)),(0,.cells o1 z1 (knm a)),(1,.cells o2 z2 (ss.flatMap spC)),(4,.cells true 1 (inL (rowT w h a ss ss.length)))] (nI (kng p ss w h a)) [] (.go 8 (.inv 3 (Nat × List Int) ((0,allL ss.length)) [(7,6)] [6] (fun x3 => [(31,nI (kn5 x3)),(6,slQ 7 2 (List.length (kn0 p ss w h a x3).1)),(8,slQ 8 1 (List.length (kn0 p ss w h a x3).2)),(2,.slice none 0 0),(3,nI 0),(4,.pointer (some ⟨5,0,none⟩)),(7,nI (kng p ss w h a)),(30,nI ((ss.length : Nat) : Int))]) (fun x3 => [(6,false,.dead)]) (fun x3 => [(true,.cells true 1 (x3.2.flatMap intC)),(true,.cells true 1 (((kn0 p ss w h a x3).2).flatMap boolC))]) (fun x3 => []) (fun x3 => (x3.1 <= List.length ss /\ List.take (List.length (kn0 p ss w h a x3).1) x3.2 = (kn0 p ss w h a x3).1 /\ List.length x3.2 <= List.length ss)) (fun x3 => (List.length ss - x3.1)) (fun x3 => .go 0 (.fork (.go 3 (.ans [(7,.cells true 1 (x3.2.flatMap intC))] (slQ 10 1 (List.length (kn0 p ss w h a x3).1)) [.cells true 1 (List.flatMap intC (kn0 p ss w h a x3).1)] (.go 0 (.answ [(10,.cells true 1 (List.flatMap intC (kn0 p ss w h a x3).1)),(5,.cells true 0 kni),(9,.cells true 0 [nI (kn5 x3)]),(3,.cells true 0 (kn3 w h a p ss)),(0,.cells o1 z1 (knm a)),(1,.cells o2 z2 (ss.flatMap spC)),(4,.cells true 1 (inL (rowT w h a ss ss.length)))] (slQ 10 2 (kne p ss w h a x3).length) [(10,.cells true 1 ((kn9 p ss w h a x3).flatMap intC))] [] (.go 2 (.ans [(7,.cells true 1 (x3.2.flatMap intC))] (.bool (List.any (kn0 p ss w h a x3).1 (fun v => v == (kn5 x3)))) [] (.go 0 (.gfork (.go 1 (.ans [(3,.cells true 0 (kn3 w h a p ss)),(10,.cells true 1 ((kn9 p ss w h a x3).flatMap intC)),(0,.cells o1 z1 (knm a)),(1,.cells o2 z2 (ss.flatMap spC)),(4,.cells true 1 (inL (rowT w h a ss ss.length)))] (nI (kn1 p ss w h a x3)) [] (.go 4 (.fork (.go 4 (.need (.go 1 (.slot 57 (nI ((kn5 x3) + 1)) (.go 0 (.again [(7,10),(8,12)])))))) (.go 1 (knd x3 p ss w h a)))))) (.go 5 (knd x3 p ss w h a)))))))))) (.go 2 (.again [(2,8)]))))))))))))
 (newK ((readsK [.cells o1 z1 (knm a),.cells o2 z2 (ss.flatMap spC)]) : HT).n 3 (.tuple #[slQ 2 1 (truL (kn4 p ss w h a) (kyI ss) ss.length).length,nI 0]) [(true,.cells true 1 ((truL (kn4 p ss w h a) (kyI ss) ss.length).flatMap boolC))]) = Rtrust o1 o2 z1 z2 w h a p ss:=by kernel_rfl
end
end Go.Proofs.YtbgfjemppjhmjaaGreat
/- Radio: Trust. No condition. -/
namespace Go.Proofs.YtbgfjemppjhmjaaGreat
open Go Go.K
set_option maxRecDepth 100000
set_option linter.unusedVariables false
set_option linter.unusedSimpArgs false
noncomputable section
attribute [local irreducible] vF
theorem keepP_end (q : Int -> Bool) (M : List Int) : keepP q M M.length = M.filter q := by unfold keepP; rw [List.take_length]
theorem trS_1 {agr : Int -> Int -> Bool} {k : Int -> Int} {n i : Nat} (h1 : (trS agr k n i).1.any (fun v => v == (i : Int)) = true) (h2 : mst agr k ((trS agr k n i).1.filter fun v => agr i v) = mst agr k (allL n)) : trS agr k n (i + 1) = ((trS agr k n i).1.filter (fun v => agr i v), (trS agr k n i).2 ++ [true]) := by
 show (if _ then _ else _) = _; rw [if_pos ⟨h1, h2⟩]
theorem trS_0 {agr : Int -> Int -> Bool} {k : Int -> Int} {n i : Nat} (h : ¬ ((trS agr k n i).1.any (fun v => v == (i : Int)) = true /\ mst agr k ((trS agr k n i).1.filter fun v => agr i v) = mst agr k (allL n))) : trS agr k n (i + 1) = ((trS agr k n i).1.filter (fun v => !(v == (i : Int))), (trS agr k n i).2 ++ [false]) := by
 show (if _ then _ else _) = _; rw [if_neg h]
theorem qNe_fil (i : Int) (L : List Int) : L.filter (qNe i) = L.filter fun v => !(v == i) := List.filter_congr fun v _ => by
 unfold qNe
 congr 1
theorem keepP_take (q : Int -> Bool) (M : List Int) (k : Nat) : keepP q M k = (M.take k).filter q := rfl
theorem hvTrust {o1 o2 : Bool} {z1 z2 : Nat} {w h : Int} {a : List Bool} {p : Int} {ss : List (Int × Int)} (ha : a.length <= 100000) (hs : ss.length <= 19) (h0 : 0 < ss.length) (e0 : errT w h a p ss = 0) : Rtrust o1 o2 z1 z2 w h a p ss := by
 have t := trOk e0
 have rk : RowsOk a ss (rowT w h a ss ss.length) := rowsOk t
 have aO : AgOk (agI p ss (rowT w h a ss ss.length)) (kyI ss) (allL ss.length) := agOk t
 have hn := allN_len ss.length
 have hp0 := mst_pos (agr := agI p ss (rowT w h a ss ss.length)) (k := kyI ss) (n := ss.length)
 delta Rtrust knm kn3 knb kn8 kni knk kn4 kng knl kn0 kn5 knj kne kn9 kn1 kn6 knn knc kn2 knf kna kn7 knh kno
 generalize hA : agI p ss (rowT w h a ss ss.length) = A at *
 refine ⟨⟨rfl, rfl, trivial⟩, fun H' hl' g => ?_, ⟨rfl, rfl, rfl, rfl, trivial⟩, fun H' hl' g => ?_, ⟨rfl, rfl, rfl, rfl, rfl, trivial⟩, fun H' hl' g => ?_, rfl, ⟨Nat.zero_le _, ?_, Nat.le_of_eq hn⟩, ?_, fun _ => rfl, fun v hv => ?_⟩
 ·have key := kOpen0 ha (by omega) e0 (i := 0) (j := 1) (by decide) g.1 g.2.1
  rw [hl'] at key; exact key
 ·have key := kAll (by omega) (p := p) (i := 0) (j := 1) (r := 3) (q := 4) (rr := rowT w h a ss ss.length) (H := H') ⟨by decide, g.2.1, g.2.2.1, g.1, g.2.2.2.1⟩
  rw [hl', <- hn] at key
  rw [<- hn]
  exact key
 ·have key := kMosts t rk (M := allL ss.length) (k := (allL ss.length).length) (by omega) (Nat.le_refl _) (by omega) (by omega) (by rw [List.take_length]; exact fun v hv => allL_mem.1 hv) (by rw [List.take_length]; exact allL_nodup _) (i := 0) (j := 1) (r := 3) (q := 4) (l := 6) ⟨by decide, g.2.2.1, g.2.2.2.1, g.1, g.2.2.2.2.1⟩ g.2.1 (by decide)
  rw [List.take_length, hA] at key
  exact key.wkA ⟨wk_refl _, wk_QR, trivial⟩
 ·show List.take (allL ss.length).length (allL ss.length) = allL ss.length
  exact List.take_length
 ·repeat' first | exact plainIL _ _ | exact plainBL _ _ | exact wk_refl _ | exact wk_QR | exact wk_nil _ _ _ (.inl rfl) | exact rfl | exact wk_refl _ | exact wks_nil | exact wk_nil _ _ _ (.inl rfl) | apply And.intro
 ·obtain ⟨x, B⟩ := v
  obtain ⟨hx, hB, hBm⟩ := hv
  dsimp only at hx hB hBm ⊢
  have I := trI aO x hx
  have hsub := I.sub
  have hin : InS ss.length (trS A (kyI ss) ss.length x).1 := fun v hv => allL_mem.1 (hsub.subset hv)
  have hnd : (trS A (kyI ss) ss.length x).1.Nodup := hsub.nodup (allL_nodup _)
  have hle := hsub.length_le
  have hT2 := I.len
  have hpos : 0 < (trS A (kyI ss) ss.length x).1.length := by
   have h1 := mst_le (aO.sub fun v hv => hsub.subset hv)
   rw [I.mo] at h1
   have := hp0.2 h0
   omega
  have hBl : (trS A (kyI ss) ss.length x).1.length <= B.length := by
   have := congrArg List.length hB
   rw [List.length_take] at this
   omega
  have s1 := trS_1 (agr := A) (k := kyI ss) (n := ss.length) (i := x)
  have s0 := trS_0 (agr := A) (k := kyI ss) (n := ss.length) (i := x)
  have hend : ss.length <= x -> (trS A (kyI ss) ss.length x).2 = truL A (kyI ss) ss.length := fun q => by
   obtain rfl : x = ss.length := by omega
   rfl
  generalize (trS A (kyI ss) ss.length x).1 = T at *
  generalize (trS A (kyI ss) ss.length x).2 = O at *
  clear I
  refine ⟨fun c => ?_, fun c => ?_⟩
  ·have hx1 : x < ss.length := by have := of_decide_eq_true c; omega
   refine ⟨⟨rfl, trivial⟩, fun H' hl' g => ?_, ⟨rfl, rfl, rfl, rfl, rfl, rfl, rfl, trivial⟩, fun H' hl' g => ?_, ⟨rfl, trivial⟩, fun H' hl' g => ?_, fun d => ?_, fun d => ?_⟩
   ·have key := kCloneI B T.length hpos hBl (by omega) hl' g.1
    rw [hB] at key; exact key
   ·have key := kDelA (M := T) (k := T.length) (i := (x : Int)) (Nat.le_refl _) (by omega) t rk ⟨by omega, by omega⟩ (fun y hy => hin.at hy) (D := 10) (b := 5) (c := 9) (r := 3) (j := 0) (l := 1) (q := 4) g.1 (by decide) ⟨_, _, g.2.1⟩ ⟨_, _, g.2.2.1⟩ ⟨_, _, g.2.2.2.1⟩ ⟨_, _, g.2.2.2.2.1⟩ ⟨_, _, g.2.2.2.2.2.1⟩ ⟨_, _, g.2.2.2.2.2.2.1⟩
    rw [hA] at key
    exact key.wkA ⟨wk_QR, wk_refl _, trivial⟩
   ·have key := kCont (M := B) (k := T.length) (i := (x : Int)) hBl (by omega) g.1
    rw [hB] at key
    exact key.wkA ⟨wk_ofR hpos, wk_refl _, trivial⟩
   ·have hxT : (x : Int) ∈ T := any_is.1 d
    have hke := keepP_end (A (x : Int)) T
    have hk0 : 0 < (keepP (A (x : Int)) T T.length).length := by
     rw [hke]
     exact List.length_pos_of_mem (List.mem_filter.2 ⟨hxT, aO.rfl _ (hsub.subset hxT)⟩)
    have hkl := keepP_le (A (x : Int)) T T.length
    have hdl := delP_len (q := A (x : Int)) (Nat.le_refl T.length)
    refine ⟨⟨rfl, rfl, rfl, rfl, rfl, trivial⟩, fun H' hl' g => ?_, fun e => ?_, fun e => ?_⟩
    ·have key := kMosts t rk (M := delP (A (x : Int)) T T.length) (k := (keepP (A (x : Int)) T T.length).length) hk0 (by omega) (by omega) (by omega) (by rw [delP_take, hke]; exact fun v hv => hin v (List.mem_filter.1 hv).1) (by rw [delP_take, hke]; exact hnd.filter _) (i := 0) (j := 1) (r := 3) (q := 4) (l := 10) ⟨by decide, g.2.2.1, g.2.2.2.1, g.1, g.2.2.2.2.1⟩ g.2.1 (by decide)
     rw [delP_take, hA] at key
     exact key
    ·have hst : trS A (kyI ss) ss.length (x + 1) = (T.filter (A (x : Int)), O ++ [true]) := s1 d (by have := eq_of_beq e; rw [hke] at this; exact this)
     rw [e]
     refine ⟨⟨by omega, by decide, ⟨Nat.le_refl _, flat_le boolC_len _⟩, ⟨by decide, by decide⟩, rfl⟩, rfl, vI64 (by omega), (x + 1, delP (A (x : Int)) T T.length), ⟨hx1, ?_, by dsimp only; omega⟩, by dsimp only; omega, ?_⟩
     ·dsimp only
      rw [hst, <- hke]; exact delP_take
     ·dsimp only
      rw [hst, <- hke]
      repeat' first | exact wk_snoc rfl | exact ob_snoc boolC_len rfl rfl | exact plainIL _ _ | exact plainBL _ _ | exact wk_refl _ | exact rfl | exact wk_refl _ | exact wks_nil | exact wk_nil _ _ _ (.inl rfl) | apply And.intro
    ·have hst : trS A (kyI ss) ss.length (x + 1) = (T.filter (qNe (x : Int)), O ++ [false]) := by
      rw [qNe_fil]
      exact s0 fun q => by
       have : ¬ mst A (kyI ss) (keepP (A (x : Int)) T T.length) = mst A (kyI ss) (allL ss.length) := beq_eq_false_iff_ne.1 e
       rw [hke] at this
       exact this q.2
     have hkq : keepP (qNe (x : Int)) B T.length = T.filter (qNe (x : Int)) := by rw [keepP_take, hB]
     have hdl2 := delP_len (q := qNe (x : Int)) hBl
     rw [e]
     refine ⟨⟨rfl, rfl, trivial⟩, fun H' hl' g => kDelI hBl (by omega) g.1 (by decide) ⟨_, _, g.2.1⟩, ⟨by omega, by decide, ⟨Nat.le_refl _, flat_le boolC_len _⟩, ⟨by decide, by decide⟩, rfl⟩, rfl, vI64 (by omega), (x + 1, delP (qNe (x : Int)) B T.length), ⟨hx1, ?_, by dsimp only; omega⟩, by dsimp only; omega, ?_⟩
     ·dsimp only
      rw [hst, <- hkq]; exact delP_take
     ·dsimp only
      rw [hst, <- hkq]
      repeat' first | exact wk_snoc rfl | exact ob_snoc boolC_len rfl rfl | exact plainIL _ _ | exact plainBL _ _ | exact wk_refl _ | exact rfl | exact wk_refl _ | exact wks_nil | exact wk_nil _ _ _ (.inl rfl) | apply And.intro
   ·have hst : trS A (kyI ss) ss.length (x + 1) = (T.filter (qNe (x : Int)), O ++ [false]) := by
     rw [qNe_fil]
     exact s0 fun q => by rw [d] at q; cases q.1
    have hkq : keepP (qNe (x : Int)) B T.length = T.filter (qNe (x : Int)) := by rw [keepP_take, hB]
    have hdl2 := delP_len (q := qNe (x : Int)) hBl
    refine ⟨⟨rfl, rfl, trivial⟩, fun H' hl' g => kDelI hBl (by omega) g.1 (by decide) ⟨_, _, g.2.1⟩, ⟨by omega, by decide, ⟨Nat.le_refl _, flat_le boolC_len _⟩, ⟨by decide, by decide⟩, rfl⟩, rfl, vI64 (by omega), (x + 1, delP (qNe (x : Int)) B T.length), ⟨hx1, ?_, by dsimp only; omega⟩, by dsimp only; omega, ?_⟩
    ·dsimp only
     rw [hst, <- hkq]; exact delP_take
    ·dsimp only
     rw [hst, <- hkq]
     repeat' first | exact wk_snoc rfl | exact ob_snoc boolC_len rfl rfl | exact plainIL _ _ | exact plainBL _ _ | exact wk_refl _ | exact rfl | exact wk_refl _ | exact wks_nil | exact wk_nil _ _ _ (.inl rfl) | apply And.intro
  ·have hx1 : ss.length <= x := by have := of_decide_eq_false c; omega
   rw [hend hx1]
   repeat' first | exact plainIL _ _ | exact plainBL _ _ | exact wk_refl _ | exact rfl | exact wk_refl _ | exact wks_nil | exact wk_nil _ _ _ (.inl rfl) | apply And.intro
theorem kTrust {w h : Int} {a : List Bool} {p : Int} {ss : List (Int × Int)} (ha : a.length <= 100000) (hs : ss.length <= 19) (h0 : 0 < ss.length) (e0 : errT w h a p ss = 0) {H : Heap} {i j : Nat} (hne : i ≠ j) {o1 o2 : Bool} {z1 z2 : Nat} (hi : H[i]? = some (.cells o1 z1 (a.flatMap boolC))) (hj : H[j]? = some (.cells o2 z2 (ss.flatMap spC))) :
  KCall prog 24 [trkV w h a p ss i j] H [] (Is (.tuple #[slQ H.length 1 (truL (agI p ss (trkRows w h a ss)) (kyI ss) ss.length).length, .int .i64 0]) (H ++ [.cells true 1 ((truL (agI p ss (trkRows w h a ss)) (kyI ss) ss.length).flatMap boolC)])) :=
 valKs (fun j => .tuple #[slQ j 1 (truL (agI p ss (trkRows w h a ss)) (kyI ss) ss.length).length, .int .i64 0]) (new := [.cells true 1 ((truL (agI p ss (trkRows w h a ss)) (kyI ss) ss.length).flatMap boolC)]) (Eq.mpr (Etrust o1 o2 z1 z2 w h a p ss) (hvTrust ha hs h0 e0)) (trk_ok ..) rfl ⟨⟨_, _, rfl, plainBL _ _⟩, trivial⟩ (by simpa using hne) (trk_objs hi hj) (fun j => rfl) rfl
end
end Go.Proofs.YtbgfjemppjhmjaaGreat
/- What is to be shown of functions. Printed by a program. No condition. -/
namespace Go.Proofs.YtbgfjemppjhmjaaGreat
set_option linter.unusedSimpArgs false
open Go Go.K
set_option maxRecDepth 100000
set_option maxHeartbeats 4000000
set_option linter.unusedVariables false
noncomputable section
abbrev krb (a : List Bool):=List.flatMap boolC a
abbrev krn (o1 : Bool) (z1 : Nat) (a : List Bool) : KObj:=.cells o1 z1 (krb a)
abbrev krf (ss : List (Int × Int)):=List.flatMap spC ss
abbrev krp (o2 : Bool) (z2 : Nat) (ss : List (Int × Int)) : KObj:=.cells o2 z2 (krf ss)
abbrev kr9 (ss : List (Int × Int)):=List.length ss
abbrev krd (w : Int) (h : Int) (a : List Bool) (p : Int) (ss : List (Int × Int)) : List Value:=[.agg #[.int .i64 w,.int .i64 h,.slice (some ⟨0,0,some 2⟩) (List.length a) (List.length a),.int .i64 p,.slice (some ⟨1,0,some 2⟩) (kr9 ss) (kr9 ss)]]
abbrev krr : Value:=.tuple #[.pointer (some ⟨3,0,none⟩),.int .i64 0]
abbrev kr3 (w : Int) (h : Int) (a : List Bool) (ss : List (Int × Int)):=rowT w h a ss (kr9 ss)
abbrev kr1 (w : Int) (h : Int) (a : List Bool) (p : Int) (ss : List (Int × Int)) : List Value:=[.int .i64 w,.int .i64 h,.slice (some ⟨0,0,some 2⟩) (List.length a) (List.length a),.int .i64 p,.slice (some ⟨1,0,some 2⟩) (kr9 ss) (kr9 ss),.slice (some ⟨4,0,some 1⟩) (List.length (kr3 w h a ss)) (List.length (kr3 w h a ss))]
abbrev krv (w : Int) (h : Int) (a : List Bool) (p : Int) (ss : List (Int × Int)) : KObj:=.cells true 0 (kr1 w h a p ss)
abbrev kr8 (o1 : Bool) (z1 : Nat) (a : List Bool) (o2 : Bool) (z2 : Nat) (ss : List (Int × Int)) (w : Int) (h : Int) : Prop:=(some (krn o1 z1 a) = some (krn o1 z1 a)) /\ (some (krp o2 z2 ss) = some (krp o2 z2 ss)) /\ (some (.cells true 1 (inL (kr3 w h a ss)) : KObj) = some (.cells true 1 (inL (kr3 w h a ss)) : KObj)) /\ True
abbrev kro (ss : List (Int × Int)):=List.length (allL (kr9 ss))
abbrev krj (ss : List (Int × Int)) : KObj:=.cells true 1 (List.flatMap intC (allL (kr9 ss)))
abbrev krl (p : Int) (ss : List (Int × Int)) (w : Int) (h : Int) (a : List Bool):=agI p ss (kr3 w h a ss)
abbrev kr0 (p : Int) (ss : List (Int × Int)) (w : Int) (h : Int) (a : List Bool):=hE (krl p ss w h a) (isr (kyI ss) (allL (kr9 ss)) (kro ss)) (List.length (isr (kyI ss) (allL (kr9 ss)) (kro ss)))
abbrev krt : Value:=.int .i64 0
abbrev kra (ss : List (Int × Int)) : Prop:=(.slice none 0 0 : Value) = .slice none 0 0 /\ krt = .int .i64 0 /\ krt = .int .i64 0 /\ (.map (some 6) : Value) = .map (some 6) /\ (.int .i64 (((kr9 ss) : Nat) : Int) : Value) = .int .i64 (((kr9 ss) : Nat) : Int) /\ True
abbrev krq (x3 : Nat) : Int:=(x3 : Nat)
abbrev krh (x3 : Nat) (p : Int) (ss : List (Int × Int)) (w : Int) (h : Int) (a : List Bool):=getA (krq x3) 0 (kr0 p ss w h a)
abbrev kr7 (p : Int) (ss : List (Int × Int)) (w : Int) (h : Int) (a : List Bool) (x3 : Nat):=clsL (krl p ss w h a) (kyI ss) (kr9 ss) x3
abbrev krg (p : Int) (ss : List (Int × Int)) (w : Int) (h : Int) (a : List Bool):=clsL (krl p ss w h a) (kyI ss) (kr9 ss) (kr9 ss)
def Rclasses (o1 o2 : Bool) (z1 z2 : Nat) (w h : Int) (a : List Bool) (p : Int) (ss : List (Int × Int)) : Prop :=
 (((some (krn o1 z1 a) = some (krn o1 z1 a)) /\ (some (krp o2 z2 ss) = some (krp o2 z2 ss)) /\ True) /\ (∀ H' : Heap,H'.length = 3 -> (H'[0]? = some (krn o1 z1 a) /\ H'[1]? = some (krp o2 z2 ss) /\ True) -> KCall prog 72 (krd w h a p ss) H' [] (Is krr (H' ++ [(krv w h a p ss),(.cells true 1 (inL (kr3 w h a ss)) : KObj)]))) /\ (((some (krv w h a p ss) = some (krv w h a p ss)) /\ kr8 o1 z1 a o2 z2 ss w h) /\ (∀ H' : Heap,H'.length = 5 -> (H'[3]? = some (krv w h a p ss) /\ H'[0]? = some (krn o1 z1 a) /\ H'[1]? = some (krp o2 z2 ss) /\ H'[4]? = some (.cells true 1 (inL (kr3 w h a ss)) : KObj) /\ True) -> KCall prog 77 [.pointer (some ⟨3,0,none⟩)] H' [] (Is (.slice (some ⟨5,0,some 1⟩) (kro ss) (kro ss)) (H' ++ [(krj ss)]))) /\ (((some (krv w h a p ss) = some (krv w h a p ss)) /\ (some (krj ss) = some (krj ss)) /\ kr8 o1 z1 a o2 z2 ss w h) /\ (∀ H' : Heap,H'.length = 6 -> (H'[3]? = some (krv w h a p ss) /\ H'[5]? = some (krj ss) /\ H'[0]? = some (krn o1 z1 a) /\ H'[1]? = some (krp o2 z2 ss) /\ H'[4]? = some (.cells true 1 (inL (kr3 w h a ss)) : KObj) /\ True) -> KCall prog 106 [.pointer (some ⟨3,0,none⟩),.slice (some ⟨5,0,some 1⟩) (kro ss) (kro ss)] H' [] (Is (.map (some 6)) (H' ++ [(.map (mapI (kr0 p ss w h a)) : KObj)]))) /\ (true = true /\ (0 <= List.length ss) /\ (true = true /\ (krt = .int .i64 ((0 : Nat) : Int) /\ wk (.slice none 0 0 : Value) (.slice (some ⟨0,0,some 1⟩) (List.length (clsL (krl p ss w h a) (kyI ss) (kr9 ss) 0)) (List.length (clsL (krl p ss w h a) (kyI ss) (kr9 ss) 0)) : Value) /\ krt = .int .i64 (clsK (krl p ss w h a) (kyI ss) (kr9 ss) 0) /\ kra ss) /\ (True) /\ (True /\ True) /\ (True)) /\ (∀ x3 : Nat,true = true) /\ ∀ x3 : Nat,(x3 <= List.length ss) -> (((decide (((krq x3) : Int) < (((kr9 ss) : Nat) : Int))) = true -> ((klookE prog 3 (.int .i64 0) (.int .i64 (krq x3)) false (mapI (kr0 p ss w h a)) = some (.int .i64 (krh x3 p ss w h a))) /\ ((.int .i64 (IntKind.wrap .i64 ((krh x3 p ss w h a) - 1)) : Value) = .int .i64 ((krh x3 p ss w h a) - 1) /\ ((((List.length (kr7 p ss w h a x3)) + 1) * 8 <= 2 ^ 44 /\ 1 ≠ 0 /\ ((List.length (kr7 p ss w h a x3)) <= (List.length (kr7 p ss w h a x3)) /\ 0 + (List.length (kr7 p ss w h a x3)) * 1 <= List.length (List.flatMap intC (kr7 p ss w h a x3))) /\ (1 <= 1 /\ 0 + 1 * 1 <= List.length ([.int .i64 ((krh x3 p ss w h a) - 1)] : List Value)) /\ ((List.take (1 * 1) (List.drop 0 ([.int .i64 ((krh x3 p ss w h a) - 1)] : List Value))) : List Value).all (fun v => one1 v) = true) /\ true = true /\ ((klookE prog 3 (.int .i64 0) (.int .i64 (krq x3)) false (mapI (kr0 p ss w h a)) = some (.int .i64 (krh x3 p ss w h a))) /\ (∃ y4 : Int,(.int .i64 (if ((krh x3 p ss w h a) : Int) > (clsK (krl p ss w h a) (kyI ss) (kr9 ss) x3) then ((krh x3 p ss w h a) : Int) else (clsK (krl p ss w h a) (kyI ss) (kr9 ss) x3)) : Value) = .int .i64 y4 /\ ((.int .i64 (IntKind.wrap .i64 ((krq x3) + 1)) : Value) = .int .i64 ((krq x3) + 1) /\ (∃ x3' : Nat,(x3' <= List.length ss) /\ (List.length ss - x3') < (List.length ss - x3) /\ true = true /\ ((.int .i64 ((krq x3) + 1) : Value) = .int .i64 ((x3' : Nat) : Int) /\ wk (.slice (some ⟨9,0,none⟩) ((List.length (kr7 p ss w h a x3)) + 1) ((List.length (kr7 p ss w h a x3)) + 1) : Value) (.slice (some ⟨9,0,some 1⟩) (List.length (clsL (krl p ss w h a) (kyI ss) (kr9 ss) x3')) (List.length (clsL (krl p ss w h a) (kyI ss) (kr9 ss) x3')) : Value) /\ (.int .i64 y4 : Value) = .int .i64 (clsK (krl p ss w h a) (kyI ss) (kr9 ss) x3') /\ kra ss) /\ (True) /\ ((some (.cells true 1 ((List.take ((List.length (kr7 p ss w h a x3)) * 1) (List.drop 0 (List.flatMap intC (kr7 p ss w h a x3)))) ++ (List.take (1 * 1) (List.drop 0 ([.int .i64 ((krh x3 p ss w h a) - 1)] : List Value)))) : KObj) = some (.cells true 1 (List.flatMap intC (clsL (krl p ss w h a) (kyI ss) (kr9 ss) x3')) : KObj) /\ belowO 7 (.cells true 1 (List.flatMap intC (clsL (krl p ss w h a) (kyI ss) (kr9 ss) x3')) : KObj) = true) /\ True) /\ (True))))))))) /\ ((decide (((krq x3) : Int) < (((kr9 ss) : Nat) : Int))) = false -> (true = true /\ wk (.tuple #[.slice (some ⟨7,0,some 1⟩) (List.length (kr7 p ss w h a x3)) (List.length (kr7 p ss w h a x3)),.int .i64 (clsK (krl p ss w h a) (kyI ss) (kr9 ss) x3),.int .i64 0] : Value) (rn (sg 2 [(2,7)]) 3 (.tuple #[.slice (some ⟨2,0,some 1⟩) (List.length (krg p ss w h a)) (List.length (krg p ss w h a)),.int .i64 (mst (krl p ss w h a) (kyI ss) (allL (kr9 ss))),.int .i64 0] : Value)) /\ ((some (.cells true 1 (List.flatMap intC (kr7 p ss w h a x3)) : KObj) = some (.cells true 1 (List.flatMap intC (krg p ss w h a)) : KObj) /\ belowO 2 (.cells true 1 (List.flatMap intC (krg p ss w h a)) : KObj) = true) /\ True))))))))
theorem Eclasses (o1 o2 : Bool) (z1 z2 : Nat) (w h : Int) (a : List Bool) (p : Int) (ss : List (Int × Int)) : vF prog msk (dm 0) 100000 true 40 true 38 (krd w h a p ss) (readsK [.cells o1 z1 (krb a),.cells o2 z2 (krf ss)]) (some [])
 (.go 4 (.ans [(0,.cells o1 z1 (krb a)),(1,.cells o2 z2 (krf ss))] krr [.cells true 0 (kr1 w h a p ss),.cells true 1 (inL (kr3 w h a ss))] (.go 9 (.ans [(3,.cells true 0 (kr1 w h a p ss)),(0,.cells o1 z1 (krb a)),(1,.cells o2 z2 (krf ss)),(4,.cells true 1 (inL (kr3 w h a ss)))] (.slice (some ⟨5,0,some 1⟩) (kro ss) (kro ss)) [.cells true 1 (List.flatMap intC (allL (kr9 ss)))] (.ans [(3,.cells true 0 (kr1 w h a p ss)),(5,.cells true 1 (List.flatMap intC (allL (kr9 ss)))),(0,.cells o1 z1 (krb a)),(1,.cells o2 z2 (krf ss)),(4,.cells true 1 (inL (kr3 w h a ss)))] (.map (some 6)) [.map (mapI (kr0 p ss w h a))] (.go 9 (.inv 3 (Nat) (0) [] [] (fun x3 => [(29,.int .i64 (krq x3)),(8,.slice (some ⟨7,0,some 1⟩) (List.length (kr7 p ss w h a x3)) (List.length (kr7 p ss w h a x3))),(9,.int .i64 (clsK (krl p ss w h a) (kyI ss) (kr9 ss) x3)),(2,.slice none 0 0),(3,.int .i64 0),(4,.int .i64 0),(7,.map (some 6)),(28,.int .i64 (((kr9 ss) : Nat) : Int))]) (fun x3 => []) (fun x3 => [(true,.cells true 1 (List.flatMap intC (kr7 p ss w h a x3)))]) (fun x3 => []) (fun x3 => (x3 <= List.length ss)) (fun x3 => (List.length ss - x3)) (fun x3 => .go 0 (.fork (.go 4 (.val (.int .i64 (krh x3 p ss w h a)) (.go 0 (.slot 36 (.int .i64 ((krh x3 p ss w h a) - 1)) (.go 0 (.need (.go 3 (.val (.int .i64 (krh x3 p ss w h a)) (.go 0 (.bind Int (fun y4 => .slot 43 (.int .i64 y4) (.go 1 (.slot 44 (.int .i64 ((krq x3) + 1)) (.go 0 (.again [(7,9)]))))))))))))))) (.go 4 (.again [(2,7)])))))))))))
 (newK ((readsK [.cells o1 z1 (krb a),.cells o2 z2 (krf ss)]) : HT).n 3 (.tuple #[.slice (some ⟨2,0,some 1⟩) (List.length (krg p ss w h a)) (List.length (krg p ss w h a)),.int .i64 (mst (krl p ss w h a) (kyI ss) (allL (kr9 ss))),.int .i64 0]) [(true,.cells true 1 (List.flatMap intC (krg p ss w h a)))]) = Rclasses o1 o2 z1 z2 w h a p ss:=by kernel_rfl
abbrev krs : Value:=.tuple #[.pointer (some ⟨4,0,none⟩),.int .i64 0]
abbrev kr4 (w : Int) (h : Int) (a : List Bool) (p : Int) (ss : List (Int × Int)) : List Value:=[.int .i64 w,.int .i64 h,.slice (some ⟨0,0,some 2⟩) (List.length a) (List.length a),.int .i64 p,.slice (some ⟨1,0,some 2⟩) (kr9 ss) (kr9 ss),.slice (some ⟨5,0,some 1⟩) (List.length (kr3 w h a ss)) (List.length (kr3 w h a ss))]
abbrev kru (c : List Int):=List.length c
abbrev kri (c : List Int) : Int:=((kru c) : Nat)
abbrev kr5 (c : List Int) (ss : List (Int × Int)) (k : Int) (p : Int) (w : Int) (h : Int) (a : List Bool):=rn (sg 3 []) 3 (.tuple #[.bool (decide (List.length c = List.length ss /\ 0 <= k) && prvB (krl p ss w h a) c k (kr9 ss)),.int .i64 (if List.length c = List.length ss /\ 0 <= k then 0 else 1)] : Value)
abbrev kr6 (k : Int) (c : List Int) : Prop:=(.int .i64 k : Value) = .int .i64 k /\ wk (.slice (some ⟨2,0,some 2⟩) (kru c) (kru c) : Value) (.slice (some ⟨2,0,some 2⟩) (kru c) (kru c) : Value) /\ (.pointer (some ⟨4,0,none⟩) : Value) = .pointer (some ⟨4,0,none⟩) /\ wk (.slice (some ⟨2,0,some 2⟩) (kru c) (kru c) : Value) (.slice (some ⟨2,0,some 2⟩) (kru c) (kru c) : Value) /\ (.int .i64 (kri c) : Value) = .int .i64 (kri c) /\ True
abbrev krw : Prop:=(True) /\ (True) /\ (True)
abbrev krc (x1 : Nat) : Int:=(x1 : Nat)
abbrev krm : Value:=.tuple #[.bool false,.int .i64 0]
abbrev kr2 (c : List Int) (k : Int) (x1 : Nat) : Prop:=(.int .i64 (kri c) : Value) = .int .i64 (kri c) /\ wk (.slice (some ⟨2,0,some 2⟩) (kru c) (kru c) : Value) (.slice (some ⟨2,0,some 2⟩) (kru c) (kru c) : Value) /\ (.pointer (some ⟨4,0,none⟩) : Value) = .pointer (some ⟨4,0,none⟩) /\ wk (.slice (some ⟨2,0,some 2⟩) (kru c) (kru c) : Value) (.slice (some ⟨2,0,some 2⟩) (kru c) (kru c) : Value) /\ (.int .i64 k : Value) = .int .i64 k /\ (.int .i64 (krc x1) : Value) = .int .i64 (krc x1) /\ (.int .i64 (krc x1) : Value) = .int .i64 (krc x1) /\ (.int .i64 (List.getD c x1 0) : Value) = .int .i64 (List.getD c x1 0) /\ wk (.slice (some ⟨2,0,some 2⟩) x1 x1 : Value) (.slice (some ⟨2,0,some 2⟩) x1 x1 : Value) /\ (.int .i64 (krc x1) : Value) = .int .i64 (krc x1) /\ True
abbrev krk (x2 : Nat) : Int:=(x2 : Nat)
abbrev kre (x2 : Nat) (x1 : Nat) (p : Int) (ss : List (Int × Int)) (w : Int) (h : Int) (a : List Bool) (c : List Int) (k : Int) : Prop:=(.int .i64 (IntKind.wrap .i64 ((krk x2) + 1)) : Value) = .int .i64 ((krk x2) + 1) /\ (∃ x2' : Nat,(x2' <= x1 /\ prv0 (krl p ss w h a) c x1 x2' = true) /\ (x1 - x2') < (x1 - x2) /\ true = true /\ ((.int .i64 ((krk x2) + 1) : Value) = .int .i64 ((x2' : Nat) : Int) /\ kr2 c k x1) /\ krw)
def Rproves (o1 o2 : Bool) (z1 z2 : Nat) (o3 : Bool) (z3 : Nat) (w h : Int) (a : List Bool) (p : Int) (ss : List (Int × Int)) (c : List Int) (k : Int) : Prop :=
 (((some (krn o1 z1 a) = some (krn o1 z1 a)) /\ (some (krp o2 z2 ss) = some (krp o2 z2 ss)) /\ True) /\ (∀ H' : Heap,H'.length = 4 -> (H'[0]? = some (krn o1 z1 a) /\ H'[1]? = some (krp o2 z2 ss) /\ True) -> KCall prog 72 (krd w h a p ss) H' [] (Is krs (H' ++ [(.cells true 0 (kr4 w h a p ss) : KObj),(.cells true 1 (inL (kr3 w h a ss)) : KObj)]))) /\ (((((kri c) : Int) != (((kr9 ss) : Nat) : Int)) = true -> (true = true /\ wk (.tuple #[.bool false,.int .i64 1] : Value) (kr5 c ss k p w h a) /\ (True))) /\ ((((kri c) : Int) != (((kr9 ss) : Nat) : Int)) = false -> (((decide ((k : Int) < 0)) = true -> (true = true /\ wk (.tuple #[.bool false,.int .i64 1] : Value) (kr5 c ss k p w h a) /\ (True))) /\ ((decide ((k : Int) < 0)) = false -> (true = true /\ (0 <= List.length c /\ prvB (krl p ss w h a) c k 0 = true) /\ (true = true /\ (krt = .int .i64 ((0 : Nat) : Int) /\ kr6 k c) /\ krw) /\ (∀ x1 : Nat,true = true) /\ ∀ x1 : Nat,(x1 <= List.length c /\ prvB (krl p ss w h a) c k x1 = true) -> (((decide (((krc x1) : Int) < (kri c))) = true -> (((0 : Int) <= (krc x1) /\ ((krc x1) : Int) < (kri c)) /\ (((List.flatMap intC c)[(0 + Int.toNat (krc x1) * 1)]? = some (.int .i64 (List.getD c x1 0))) /\ ((.int .i64 (IntKind.wrap .i64 (k - 1)) : Value) = .int .i64 (k - 1) /\ (((decide ((0 : Int) <= (List.getD c x1 0))) = true -> (((!(decide (((List.getD c x1 0) : Int) <= (k - 1)))) = true -> (true = true /\ wk krm (kr5 c ss k p w h a) /\ (True))) /\ ((!(decide (((List.getD c x1 0) : Int) <= (k - 1)))) = false -> ((((o3 = false ∨ z3 = 0 ∨ z3 = 1) /\ (Int.toNat (krc x1)) <= (kru c)) /\ ((0 : Int) <= (krc x1) /\ ((krc x1) : Int) <= (kri c)) /\ (0 <= (Int.toNat (krc x1)))) /\ ((.slice (some ⟨2,0,some 2⟩) ((Int.toNat (krc x1)) - 0) ((Int.toNat (krc x1)) - 0) : Value) = .slice (some ⟨2,0,some 2⟩) x1 x1 /\ (true = true /\ (0 <= x1 /\ prv0 (krl p ss w h a) c x1 0 = true) /\ (true = true /\ (krt = .int .i64 ((0 : Nat) : Int) /\ kr2 c k x1) /\ krw) /\ (∀ x2 : Nat,true = true) /\ ∀ x2 : Nat,(x2 <= x1 /\ prv0 (krl p ss w h a) c x1 x2 = true) -> (((decide (((krk x2) : Int) < (krc x1))) = true -> (((0 : Int) <= (krk x2) /\ ((krk x2) : Int) < (krc x1)) /\ (((List.flatMap intC c)[(0 + Int.toNat (krk x2) * 1)]? = some (.int .i64 (List.getD c x2 0))) /\ (((((List.getD c x1 0) : Int) == (List.getD c x2 0)) = true -> (((some (.cells true 0 (kr4 w h a p ss) : KObj) = some (.cells true 0 (kr4 w h a p ss) : KObj)) /\ kr8 o1 z1 a o2 z2 ss w h) /\ (∀ H' : Heap,H'.length = 6 -> (H'[4]? = some (.cells true 0 (kr4 w h a p ss) : KObj) /\ H'[0]? = some (krn o1 z1 a) /\ H'[1]? = some (krp o2 z2 ss) /\ H'[5]? = some (.cells true 1 (inL (kr3 w h a ss)) : KObj) /\ True) -> KCall prog 87 [.pointer (some ⟨4,0,none⟩),.int .i64 (krk x2),.int .i64 (krc x1)] H' [] (Is (.bool (agI p ss (kr3 w h a ss) (krk x2) (krc x1))) H')) /\ (((agI p ss (kr3 w h a ss) (krk x2) (krc x1)) = true -> (true = true /\ wk krm (kr5 c ss k p w h a) /\ (True))) /\ ((agI p ss (kr3 w h a ss) (krk x2) (krc x1)) = false -> (kre x2 x1 p ss w h a c k))))) /\ ((((List.getD c x1 0) : Int) == (List.getD c x2 0)) = false -> (kre x2 x1 p ss w h a c k)))))) /\ ((decide (((krk x2) : Int) < (krc x1))) = false -> ((.int .i64 (IntKind.wrap .i64 ((krc x1) + 1)) : Value) = .int .i64 ((krc x1) + 1) /\ (∃ x1' : Nat,(x1' <= List.length c /\ prvB (krl p ss w h a) c k x1' = true) /\ (List.length c - x1') < (List.length c - x1) /\ true = true /\ ((.int .i64 ((krc x1) + 1) : Value) = .int .i64 ((x1' : Nat) : Int) /\ kr6 k c) /\ krw)))))))))) /\ ((decide ((0 : Int) <= (List.getD c x1 0))) = false -> (true = true /\ wk krm (kr5 c ss k p w h a) /\ (True)))))))) /\ ((decide (((krc x1) : Int) < (kri c))) = false -> (true = true /\ wk (.tuple #[.bool true,.int .i64 0] : Value) (kr5 c ss k p w h a) /\ (True))))))))))
theorem Eproves (o1 o2 : Bool) (z1 z2 : Nat) (o3 : Bool) (z3 : Nat) (w h : Int) (a : List Bool) (p : Int) (ss : List (Int × Int)) (c : List Int) (k : Int) : vF prog msk (dm 0) 100000 true 40 true 39 [.agg #[.int .i64 w,.int .i64 h,.slice (some ⟨0,0,some 2⟩) (List.length a) (List.length a),.int .i64 p,.slice (some ⟨1,0,some 2⟩) (kr9 ss) (kr9 ss)],.slice (some ⟨2,0,some 2⟩) (kru c) (kru c),.int .i64 k] (readsK [.cells o1 z1 (krb a),.cells o2 z2 (krf ss),.cells o3 z3 (List.flatMap intC c)]) (some [])
 (.go 3 (.ans [(0,.cells o1 z1 (krb a)),(1,.cells o2 z2 (krf ss))] krs [.cells true 0 (kr4 w h a p ss),.cells true 1 (inL (kr3 w h a ss))] (.go 17 (.gfork (.go 3 (.again [])) (.go 2 (.fork (.go 1 (.again [])) (.go 2 (.inv 3 (Nat) (0) [] [] (fun x1 => [(37,.int .i64 (krc x1)),(2,.int .i64 k),(1,.slice (some ⟨2,0,some 2⟩) (kru c) (kru c)),(8,.pointer (some ⟨4,0,none⟩)),(35,.slice (some ⟨2,0,some 2⟩) (kru c) (kru c)),(36,.int .i64 (kri c))]) (fun x1 => []) (fun x1 => []) (fun x1 => []) (fun x1 => (x1 <= List.length c /\ prvB (krl p ss w h a) c k x1 = true)) (fun x1 => (List.length c - x1)) (fun x1 => .go 0 (.fork (.go 0 (.need (.val (.int .i64 (List.getD c x1 0)) (.go 4 (.slot 44 (.int .i64 (k - 1)) (.go 5 (.gfork (.go 5 (.fork (.go 1 (.again [])) (.go 1 (.need (.slot 49 (.slice (some ⟨2,0,some 2⟩) x1 x1) (.go 1 (.inv 3 (Nat) (0) [] [] (fun x2 => [(51,.int .i64 (krk x2)),(36,.int .i64 (kri c)),(35,.slice (some ⟨2,0,some 2⟩) (kru c) (kru c)),(8,.pointer (some ⟨4,0,none⟩)),(1,.slice (some ⟨2,0,some 2⟩) (kru c) (kru c)),(2,.int .i64 k),(37,.int .i64 (krc x1)),(10,.int .i64 (krc x1)),(11,.int .i64 (List.getD c x1 0)),(49,.slice (some ⟨2,0,some 2⟩) x1 x1),(50,.int .i64 (krc x1))]) (fun x2 => []) (fun x2 => []) (fun x2 => []) (fun x2 => (x2 <= x1 /\ prv0 (krl p ss w h a) c x1 x2 = true)) (fun x2 => (x1 - x2)) (fun x2 => .go 0 (.fork (.go 0 (.need (.val (.int .i64 (List.getD c x2 0)) (.go 5 (.gfork (.go 2 (.ans [(4,.cells true 0 (kr4 w h a p ss)),(0,.cells o1 z1 (krb a)),(1,.cells o2 z2 (krf ss)),(5,.cells true 1 (inL (kr3 w h a ss)))] (.bool (agI p ss (kr3 w h a ss) (krk x2) (krc x1))) [] (.go 0 (.fork (.go 1 (.again [])) (.go 0 (.slot 65 (.int .i64 ((krk x2) + 1)) (.go 0 (.again [])))))))) (.go 2 (.slot 65 (.int .i64 ((krk x2) + 1)) (.go 0 (.again []))))))))) (.go 0 (.slot 66 (.int .i64 ((krc x1) + 1)) (.go 0 (.again []))))))))))))) (.go 5 (.again []))))))))) (.go 1 (.again []))))))))))))
 (newK ((readsK [.cells o1 z1 (krb a),.cells o2 z2 (krf ss),.cells o3 z3 (List.flatMap intC c)]) : HT).n 3 (.tuple #[.bool (decide (List.length c = List.length ss /\ 0 <= k) && prvB (krl p ss w h a) c k (kr9 ss)),.int .i64 (if List.length c = List.length ss /\ 0 <= k then 0 else 1)]) []) = Rproves o1 o2 z1 z2 o3 z3 w h a p ss c k:=by kernel_rfl
end
end Go.Proofs.YtbgfjemppjhmjaaGreat
/- What is to be shown of functions. Printed by a program. No condition. -/
namespace Go.Proofs.YtbgfjemppjhmjaaGreat
set_option linter.unusedSimpArgs false
open Go Go.K
set_option maxRecDepth 100000
set_option maxHeartbeats 4000000
set_option linter.unusedVariables false
noncomputable section
def Rtrust0 (o1 o2 : Bool) (z1 z2 : Nat) (w h : Int) (a : List Bool) (p : Int) : Prop :=
 (((some (.cells o1 z1 (List.flatMap boolC a) : KObj) = some (.cells o1 z1 (List.flatMap boolC a) : KObj)) /\ (some (.cells o2 z2 [] : KObj) = some (.cells o2 z2 [] : KObj)) /\ True) /\ (∀ H' : Heap,H'.length = 3 -> (H'[0]? = some (.cells o1 z1 (List.flatMap boolC a) : KObj) /\ H'[1]? = some (.cells o2 z2 [] : KObj) /\ True) -> KCall prog 72 [.agg #[.int .i64 w,.int .i64 h,.slice (some ⟨0,0,some 2⟩) (List.length a) (List.length a),.int .i64 p,.slice (some ⟨1,0,some 2⟩) 0 0]] H' [] (Is (.tuple #[.pointer (some ⟨3,0,none⟩),.int .i64 0]) (H' ++ [(.cells true 0 [.int .i64 w,.int .i64 h,.slice (some ⟨0,0,some 2⟩) (List.length a) (List.length a),.int .i64 p,.slice (some ⟨1,0,some 2⟩) 0 0,.slice (some ⟨4,0,some 1⟩) 0 0] : KObj),(.cells true 1 (inL ([])) : KObj)]))) /\ (true = true /\ (SeenL (List.length ([] : List (Int × Int))) ([] : List Nat)) /\ (true = true /\ ((.int .i64 0 : Value) = .int .i64 (maxS [] ([] : List Nat)) /\ (.int .i64 0 : Value) = .int .i64 0 /\ (.pointer (some ⟨8,0,none⟩) : Value) = .pointer (some ⟨8,0,none⟩) /\ True) /\ ((some (.iter 7 (List.length (mapI [])) [] : KObj) = some (.iter 7 (List.length (mapI [])) ([] : List Nat) : KObj) /\ belowO 9 (.iter 7 (List.length (mapI [])) ([] : List Nat) : KObj) = true) /\ True) /\ (True) /\ (True)) /\ (∀ x1 : List Nat,true = true) /\ ∀ x1 : List Nat,(SeenL (List.length ([] : List (Int × Int))) x1) -> ((List.length (mapI []) = (List.length (mapI []))) /\ (∀ x2 : Nat,x2 < (List.length (mapI [])) -> x2 ∉ x1 -> ((List.length (mapI []) = (List.length (mapI []))) /\ (entryE (mapI []) (x1 ++ [x2]) = some (.tuple #[.int .i64 (List.getD [] x2 (0,0)).1,.int .i64 (List.getD [] x2 (0,0)).2])) /\ (∃ x1' : List Nat,(SeenL (List.length ([] : List (Int × Int))) x1') /\ (List.length ([] : List (Int × Int)) - List.length x1') < (List.length ([] : List (Int × Int)) - List.length x1) /\ true = true /\ ((.int .i64 (if ((List.getD [] x2 (0,0)).2 : Int) > (maxS [] x1) then ((List.getD [] x2 (0,0)).2 : Int) else (maxS [] x1)) : Value) = .int .i64 (maxS [] x1') /\ (.int .i64 0 : Value) = .int .i64 0 /\ (.pointer (some ⟨8,0,none⟩) : Value) = .pointer (some ⟨8,0,none⟩) /\ True) /\ ((some (.iter 7 (List.length (mapI [])) (x1 ++ [x2]) : KObj) = some (.iter 7 (List.length (mapI [])) x1' : KObj) /\ belowO 9 (.iter 7 (List.length (mapI [])) x1' : KObj) = true) /\ True) /\ (True) /\ (True)))) /\ ((∀ x2 : Nat,x2 < (List.length (mapI [])) -> x2 ∈ x1) -> (true = true /\ wk (.tuple #[.slice none 0 0,.int .i64 0] : Value) (rn (sg 2 []) 3 (.tuple #[.slice (some ⟨2,0,some 1⟩) 0 0,.int .i64 0] : Value)) /\ (True /\ True))))))
theorem Etrust0 (o1 o2 : Bool) (z1 z2 : Nat) (w h : Int) (a : List Bool) (p : Int) : vF prog msk (dm 0) 100000 true 40 true 24 [.agg #[.int .i64 w,.int .i64 h,.slice (some ⟨0,0,some 2⟩) (List.length a) (List.length a),.int .i64 p,.slice (some ⟨1,0,some 2⟩) 0 0]] (readsK [.cells o1 z1 (List.flatMap boolC a),.cells o2 z2 []]) (some [])
 (.go 3 (.ans [(0,.cells o1 z1 (List.flatMap boolC a)),(1,.cells o2 z2 [])] (.tuple #[.pointer (some ⟨3,0,none⟩),.int .i64 0]) [.cells true 0 [.int .i64 w,.int .i64 h,.slice (some ⟨0,0,some 2⟩) (List.length a) (List.length a),.int .i64 p,.slice (some ⟨1,0,some 2⟩) 0 0,.slice (some ⟨4,0,some 1⟩) 0 0],.cells true 1 (inL ([]))] (.go 44 (.into (some [6]) (.go 3 (.into (some [6]) (.go 11 (.into (some [6]) (.go 20 (.inv 3 (List Nat) (([] : List Nat)) [] [8] (fun x1 => [(5,.int .i64 (maxS [] x1)),(4,.int .i64 0),(11,.pointer (some ⟨8,0,none⟩))]) (fun x1 => [(8,true,.iter 7 (List.length (mapI [])) x1)]) (fun x1 => []) (fun x1 => []) (fun x1 => (SeenL (List.length ([] : List (Int × Int))) x1)) (fun x1 => (List.length ([] : List (Int × Int)) - List.length x1)) (fun x1 => .nxt (fun x2 => .go 1 (.val (.tuple #[.int .i64 (List.getD [] x2 (0,0)).1,.int .i64 (List.getD [] x2 (0,0)).2]) (.go 5 (.again [])))) (.go 17 (.again [])))))))))))))
 (newK ((readsK [.cells o1 z1 (List.flatMap boolC a),.cells o2 z2 []]) : HT).n 3 (.tuple #[.slice (some ⟨2,0,some 1⟩) 0 0,.int .i64 0]) [(true,.cells true 1 (List.flatMap boolC ([])))]) = Rtrust0 o1 o2 z1 z2 w h a p:=by kernel_rfl
def Rclass0 (o1 o2 : Bool) (z1 z2 : Nat) (w h : Int) (a : List Bool) (p : Int) : Prop :=
 (((some (.cells o1 z1 (List.flatMap boolC a) : KObj) = some (.cells o1 z1 (List.flatMap boolC a) : KObj)) /\ (some (.cells o2 z2 [] : KObj) = some (.cells o2 z2 [] : KObj)) /\ True) /\ (∀ H' : Heap,H'.length = 3 -> (H'[0]? = some (.cells o1 z1 (List.flatMap boolC a) : KObj) /\ H'[1]? = some (.cells o2 z2 [] : KObj) /\ True) -> KCall prog 72 [.agg #[.int .i64 w,.int .i64 h,.slice (some ⟨0,0,some 2⟩) (List.length a) (List.length a),.int .i64 p,.slice (some ⟨1,0,some 2⟩) 0 0]] H' [] (Is (.tuple #[.pointer (some ⟨3,0,none⟩),.int .i64 0]) (H' ++ [(.cells true 0 [.int .i64 w,.int .i64 h,.slice (some ⟨0,0,some 2⟩) (List.length a) (List.length a),.int .i64 p,.slice (some ⟨1,0,some 2⟩) 0 0,.slice (some ⟨4,0,some 1⟩) 0 0] : KObj),(.cells true 1 (inL ([])) : KObj)]))) /\ (true = true /\ wk (.tuple #[.slice none 0 0,.int .i64 0,.int .i64 0] : Value) (rn (sg 2 []) 3 (.tuple #[.slice (some ⟨2,0,some 1⟩) 0 0,.int .i64 0,.int .i64 0] : Value)) /\ (True /\ True)))
theorem Eclass0 (o1 o2 : Bool) (z1 z2 : Nat) (w h : Int) (a : List Bool) (p : Int) : vF prog msk (dm 0) 100000 true 40 true 38 [.agg #[.int .i64 w,.int .i64 h,.slice (some ⟨0,0,some 2⟩) (List.length a) (List.length a),.int .i64 p,.slice (some ⟨1,0,some 2⟩) 0 0]] (readsK [.cells o1 z1 (List.flatMap boolC a),.cells o2 z2 []]) (some [])
 (.go 4 (.ans [(0,.cells o1 z1 (List.flatMap boolC a)),(1,.cells o2 z2 [])] (.tuple #[.pointer (some ⟨3,0,none⟩),.int .i64 0]) [.cells true 0 [.int .i64 w,.int .i64 h,.slice (some ⟨0,0,some 2⟩) (List.length a) (List.length a),.int .i64 p,.slice (some ⟨1,0,some 2⟩) 0 0,.slice (some ⟨4,0,some 1⟩) 0 0],.cells true 1 (inL ([]))] (.go 36 (.into (some [5]) (.go 3 (.into (some [5]) (.go 11 (.into (some [5]) (.go 36 (.again []))))))))))
 (newK ((readsK [.cells o1 z1 (List.flatMap boolC a),.cells o2 z2 []]) : HT).n 3 (.tuple #[.slice (some ⟨2,0,some 1⟩) 0 0,.int .i64 0,.int .i64 0]) [(true,.cells true 1 (List.flatMap intC ([])))]) = Rclass0 o1 o2 z1 z2 w h a p:=by kernel_rfl
end
end Go.Proofs.YtbgfjemppjhmjaaGreat
/- Radio: Classes, Proves; a track that has no sightings. No condition. -/
namespace Go.Proofs.YtbgfjemppjhmjaaGreat
open Go Go.K
set_option maxRecDepth 100000
set_option linter.unusedVariables false
set_option linter.unusedSimpArgs false
noncomputable section
attribute [local irreducible] vF
theorem open0_nil {w h : Int} {a : List Bool} {p : Int} (ha : a.length <= 100000) (e0 : errT w h a p [] = 0) {H : Heap} {L : Nat} (hL : H.length = L) {o1 o2 : Bool} {z1 z2 : Nat} (hi : H[0]? = some (.cells o1 z1 (a.flatMap boolC))) (hj : H[1]? = some (.cells o2 z2 [])) :
  KCall prog 72 [trkV w h a p [] 0 1] H [] (Is (.tuple #[.pointer (some ⟨L, 0, none⟩), .int .i64 0]) (H ++ [.cells true 0 (wkCs w h a p [] [] 0 1 (L + 1)), .cells true 1 (inL [])])) := by
 have key := kOpen0 (ss := []) ha (by decide) e0 (i := 0) (j := 1) (by decide) hi hj
 rw [hL] at key; exact key
theorem hvTrust0 {o1 o2 : Bool} {z1 z2 : Nat} {w h : Int} {a : List Bool} {p : Int} (ha : a.length <= 100000) (e0 : errT w h a p [] = 0) : Rtrust0 o1 o2 z1 z2 w h a p := by
 unfold Rtrust0
 refine ⟨⟨rfl, rfl, trivial⟩, fun H' hl' g => open0_nil ha e0 hl' g.1 g.2.1, rfl, seenL_0 _, ?_, fun _ => rfl, fun x hx => ⟨rfl, fun i hi hn => absurd hi (Nat.not_lt_zero i), fun hall => ?_⟩⟩
 ·repeat' first | exact rfl | exact wk_refl _ | exact wks_nil | exact wk_nil _ _ _ (.inl rfl) | refine wk_tupL ?_ | apply And.intro
 ·repeat' first | exact wk_nil _ _ _ (.inl rfl) | exact rfl | exact wk_refl _ | exact wks_nil | exact wk_nil _ _ _ (.inl rfl) | refine wk_tupL ?_ | apply And.intro
theorem kTrust0 {w h : Int} {a : List Bool} {p : Int} (ha : a.length <= 100000) (e0 : errT w h a p [] = 0) {H : Heap} {i j : Nat} (hne : i ≠ j) {o1 o2 : Bool} {z1 z2 : Nat} (hi : H[i]? = some (.cells o1 z1 (a.flatMap boolC))) (hj : H[j]? = some (.cells o2 z2 [])) :
  KCall prog 24 [trkV w h a p [] i j] H [] (Is (.tuple #[slQ H.length 1 0, .int .i64 0]) (H ++ [.cells true 1 []])) :=
 valKs (fun j => .tuple #[slQ j 1 0, .int .i64 0]) (new := [.cells true 1 (([] : List Bool).flatMap boolC)]) (Eq.mpr (Etrust0 o1 o2 z1 z2 w h a p) (hvTrust0 ha e0)) (trk_ok o1 o2 z1 z2 a []) rfl ⟨⟨_, _, rfl, rfl⟩, trivial⟩ (by simpa using hne) (trk_objs (ss := []) hi hj) (fun j => rfl) rfl
theorem hvClass0 {o1 o2 : Bool} {z1 z2 : Nat} {w h : Int} {a : List Bool} {p : Int} (ha : a.length <= 100000) (e0 : errT w h a p [] = 0) : Rclass0 o1 o2 z1 z2 w h a p := by
 unfold Rclass0
 refine ⟨⟨rfl, rfl, trivial⟩, fun H' hl' g => open0_nil ha e0 hl' g.1 g.2.1, ?_⟩
 repeat' first | exact wk_nil _ _ _ (.inl rfl) | exact rfl | exact wk_refl _ | exact wks_nil | exact wk_nil _ _ _ (.inl rfl) | refine wk_tupL ?_ | apply And.intro
theorem kClass0 {w h : Int} {a : List Bool} {p : Int} (ha : a.length <= 100000) (e0 : errT w h a p [] = 0) {H : Heap} {i j : Nat} (hne : i ≠ j) {o1 o2 : Bool} {z1 z2 : Nat} (hi : H[i]? = some (.cells o1 z1 (a.flatMap boolC))) (hj : H[j]? = some (.cells o2 z2 [])) :
  KCall prog 38 [trkV w h a p [] i j] H [] (Is (.tuple #[slQ H.length 1 0, .int .i64 0, .int .i64 0]) (H ++ [.cells true 1 []])) :=
 valKs (fun j => .tuple #[slQ j 1 0, .int .i64 0, .int .i64 0]) (new := [.cells true 1 (([] : List Int).flatMap intC)]) (Eq.mpr (Eclass0 o1 o2 z1 z2 w h a p) (hvClass0 ha e0)) (trk_ok o1 o2 z1 z2 a []) rfl ⟨⟨_, _, rfl, rfl⟩, trivial⟩ (by simpa using hne) (trk_objs (ss := []) hi hj) (fun j => rfl) rfl
theorem kTrustA {w h : Int} {a : List Bool} {p : Int} {ss : List (Int × Int)} (ha : a.length <= 100000) (hs : ss.length <= 19) (e0 : errT w h a p ss = 0) {H : Heap} {i j : Nat} (hne : i ≠ j) {o1 o2 : Bool} {z1 z2 : Nat} (hi : H[i]? = some (.cells o1 z1 (a.flatMap boolC))) (hj : H[j]? = some (.cells o2 z2 (ss.flatMap spC))) :
  KCall prog 24 [trkV w h a p ss i j] H [] (Is (.tuple #[slQ H.length 1 (truL (agI p ss (trkRows w h a ss)) (kyI ss) ss.length).length, .int .i64 0]) (H ++ [.cells true 1 ((truL (agI p ss (trkRows w h a ss)) (kyI ss) ss.length).flatMap boolC)])) := by
 by_cases h0 : 0 < ss.length
 ·exact kTrust ha hs h0 e0 hne hi hj
 ·obtain rfl : ss = [] := List.length_eq_zero_iff.1 (by omega)
  exact kTrust0 ha e0 hne hi hj
theorem clsK_S (agr : Int -> Int -> Bool) (k : Int -> Int) (n x : Nat) : clsK agr k n (x + 1) = mxI (clsK agr k n x) (hgo agr k (allL n) (x : Int)) := by
 unfold clsK; rw [tabP_succ, List.foldl_append]; rfl
theorem clsL_S (agr : Int -> Int -> Bool) (k : Int -> Int) (n x : Nat) : clsL agr k n (x + 1) = clsL agr k n x ++ [hgo agr k (allL n) (x : Int) - 1] := tabP_succ ..
theorem hvClasses {o1 o2 : Bool} {z1 z2 : Nat} {w h : Int} {a : List Bool} {p : Int} {ss : List (Int × Int)} (ha : a.length <= 100000) (hs : ss.length <= 19) (h0 : 0 < ss.length) (e0 : errT w h a p ss = 0) : Rclasses o1 o2 z1 z2 w h a p ss := by
 have t := trOk e0
 have rk : RowsOk a ss (rowT w h a ss ss.length) := rowsOk t
 have aO : AgOk (agI p ss (rowT w h a ss ss.length)) (kyI ss) (allL ss.length) := agOk t
 have hn := allN_len ss.length
 delta Rclasses krb krn krf krp kr9 krd krr kr3 kr1 krv kr8 kro krj krl kr0 krt kra krq krh kr7 krg
 refine ⟨⟨rfl, rfl, trivial⟩, fun H' hl' g => ?_, ⟨rfl, rfl, rfl, rfl, trivial⟩, fun H' hl' g => ?_, ⟨rfl, rfl, rfl, rfl, rfl, trivial⟩, fun H' hl' g => ?_, rfl, Nat.zero_le _, ?_, fun _ => rfl, fun x hx => ⟨fun c => ?_, fun c => ?_⟩⟩
 ·have key := kOpen0 ha (by omega) e0 (i := 0) (j := 1) (by decide) g.1 g.2.1
  rw [hl'] at key; exact key
 ·have key := kAll (by omega) (p := p) (i := 0) (j := 1) (r := 3) (q := 4) (rr := rowT w h a ss ss.length) (H := H') ⟨by decide, g.2.1, g.2.2.1, g.1, g.2.2.2.1⟩
  rw [hl'] at key
  exact key
 ·have key := kHgts t rk (M := allL ss.length) (k := (allL ss.length).length) (by omega) (Nat.le_refl _) (by omega) (by omega) (by rw [List.take_length]; exact fun v hv => allL_mem.1 hv) (by rw [List.take_length]; exact allL_nodup _) (i := 0) (j := 1) (r := 3) (q := 4) (l := 5) ⟨by decide, g.2.2.1, g.2.2.2.1, g.1, g.2.2.2.2.1⟩ g.2.1 (by decide)
  rw [List.take_length, hl'] at key
  exact key.wkA ⟨wk_refl _, wk_QR, trivial⟩
 ·repeat' first | exact plainIL _ _ | exact wk_refl _ | exact wk_nil _ _ _ (.inl rfl) | exact rfl | exact wk_refl _ | exact wks_nil | exact wk_nil _ _ _ (.inl rfl) | refine wk_tupL ?_ | apply And.intro
 ·have hx1 : x < ss.length := by have := of_decide_eq_true c; omega
  have hm : (x : Int) ∈ allL ss.length := allL_mem.2 (by omega)
  have hg := hE_hgo (agr := agI p ss (rowT w h a ss ss.length)) (k := kyI ss) (allL_nodup ss.length) hm
  have hb := hgo_bd (agr := agI p ss (rowT w h a ss ss.length)) (k := kyI ss) hm
  have hml := mst_le aO
  have hcl := clsL_len (agI p ss (rowT w h a ss ss.length)) (kyI ss) ss.length x
  rw [hg]
  refine ⟨by rw [<- hg]; exact lookZ _ _, vI64 (by omega), ⟨by omega, by decide, ⟨Nat.le_refl _, flat_le intC_len _⟩, ⟨by decide, Nat.le_refl 1⟩, rfl⟩, rfl, by rw [<- hg]; exact lookZ _ _, mxI (clsK (agI p ss (rowT w h a ss ss.length)) (kyI ss) ss.length x) (hgo (agI p ss (rowT w h a ss ss.length)) (kyI ss) (allL ss.length) (x : Int)), rfl, vI64 (by omega), x + 1, by omega, by omega, ?_⟩
  rw [<- clsK_S]
  repeat' first | exact wk_snoc (clsL_S ..) | exact ob_snoc intC_len (clsL_S ..) rfl | exact plainIL _ _ | exact wk_refl _ | exact rfl | exact wk_refl _ | exact wks_nil | exact wk_nil _ _ _ (.inl rfl) | refine wk_tupL ?_ | apply And.intro
 ·obtain rfl : x = ss.length := by have := of_decide_eq_false c; omega
  rw [clsK_all aO]
  repeat' first | exact plainIL _ _ | exact wk_refl _ | exact rfl | exact wk_refl _ | exact wks_nil | exact wk_nil _ _ _ (.inl rfl) | refine wk_tupL ?_ | apply And.intro
theorem kClasses {w h : Int} {a : List Bool} {p : Int} {ss : List (Int × Int)} (ha : a.length <= 100000) (hs : ss.length <= 19) (e0 : errT w h a p ss = 0) {H : Heap} {i j : Nat} (hne : i ≠ j) {o1 o2 : Bool} {z1 z2 : Nat} (hi : H[i]? = some (.cells o1 z1 (a.flatMap boolC))) (hj : H[j]? = some (.cells o2 z2 (ss.flatMap spC))) :
  KCall prog 38 [trkV w h a p ss i j] H [] (Is (.tuple #[slQ H.length 1 (clsL (agI p ss (trkRows w h a ss)) (kyI ss) ss.length ss.length).length, .int .i64 (mst (agI p ss (trkRows w h a ss)) (kyI ss) (allL ss.length)), .int .i64 0]) (H ++ [.cells true 1 ((clsL (agI p ss (trkRows w h a ss)) (kyI ss) ss.length ss.length).flatMap intC)])) := by
 by_cases h0 : 0 < ss.length
 ·exact valKs (fun j => .tuple #[slQ j 1 (clsL (agI p ss (trkRows w h a ss)) (kyI ss) ss.length ss.length).length, .int .i64 (mst (agI p ss (trkRows w h a ss)) (kyI ss) (allL ss.length)), .int .i64 0]) (new := [.cells true 1 ((clsL (agI p ss (trkRows w h a ss)) (kyI ss) ss.length ss.length).flatMap intC)]) (Eq.mpr (Eclasses o1 o2 z1 z2 w h a p ss) (hvClasses ha hs h0 e0)) (trk_ok ..) rfl ⟨⟨_, _, rfl, plainIL _ _⟩, trivial⟩ (by simpa using hne) (trk_objs hi hj) (fun j => rfl) rfl
 ·obtain rfl : ss = [] := List.length_eq_zero_iff.1 (by omega)
  exact kClass0 ha e0 hne hi hj
theorem prvB_S (agr : Int -> Int -> Bool) (c : List Int) (k : Int) (x : Nat) : prvB agr c k (x + 1) = (prvB agr c k x && prv1 agr c k x) := by
 unfold prvB; rw [List.range_succ, List.all_append, List.all_cons, List.all_nil, Bool.and_true]
theorem prvB_no {agr : Int -> Int -> Bool} {c : List Int} {k : Int} {x n : Nat} (h : x < n) (q : prv1 agr c k x = false) : prvB agr c k n = false := by
 unfold prvB
 rw [List.all_eq_false]
 exact ⟨x, List.mem_range.2 h, by rw [q]; decide⟩
theorem prv0_S (agr : Int -> Int -> Bool) (c : List Int) (x y : Nat) : prv0 agr c x (y + 1) = (prv0 agr c x y && !(decide (c.getD x 0 = c.getD y 0) && agr (y : Int) (x : Int))) := by
 unfold prv0; rw [List.range_succ, List.all_append, List.all_cons, List.all_nil, Bool.and_true]
theorem prv0_no {agr : Int -> Int -> Bool} {c : List Int} {x y n : Nat} (h : y < n) (e : c.getD x 0 = c.getD y 0) (q : agr (y : Int) (x : Int) = true) : prv0 agr c x n = false := by
 unfold prv0
 rw [List.all_eq_false]
 exact ⟨y, List.mem_range.2 h, by rw [decide_eq_true e, q]; decide⟩
theorem hvProves {o1 o2 : Bool} {z1 z2 : Nat} {o3 : Bool} {z3 : Nat} {w h : Int} {a : List Bool} {p : Int} {ss : List (Int × Int)} {c : List Int} {k : Int} (ha : a.length <= 100000) (hs : ss.length <= 20) (hc : c.length <= 1000) (hz : o3 = false ∨ z3 = 0 ∨ z3 = 1) (hk : -1000000 <= k /\ k <= 1000000) (e0 : errT w h a p ss = 0) : Rproves o1 o2 z1 z2 o3 z3 w h a p ss c k := by
 have t := trOk e0
 have rk : RowsOk a ss (rowT w h a ss ss.length) := rowsOk t
 have bad : ¬ (c.length = ss.length /\ 0 <= k) -> (Value.tuple #[.bool false, .int .i64 1] = Value.tuple #[.bool (decide (c.length = ss.length /\ 0 <= k) && prvB (agI p ss (rowT w h a ss ss.length)) c k ss.length), .int .i64 (if c.length = ss.length /\ 0 <= k then 0 else 1)]) := fun q => by rw [decide_eq_false q, if_neg q]; rfl
 delta Rproves krb krn krf krp kr9 krd krs kr3 kr4 kru kri krl kr5 krt kr6 krw krc krm kr2 krk kr8 kre
 refine ⟨⟨rfl, rfl, trivial⟩, fun H' hl' g => ?_, fun e => ?_, fun e => ?_⟩
 ·have key := kOpen0 ha (by omega) e0 (i := 0) (j := 1) (by decide) g.1 g.2.1
  rw [hl'] at key; exact key
 ·refine ⟨rfl, wk_of_eq (bad fun q => ?_), trivial⟩
  have := bne_iff_ne.1 e
  omega
 ·have hcl : c.length = ss.length := by
   by_cases q : ((c.length : Nat) : Int) = ((ss.length : Nat) : Int)
   ·omega
   ·rw [bne_iff_ne.2 q] at e; cases e
  refine ⟨fun f => ?_, fun f => ?_⟩
  ·refine ⟨rfl, wk_of_eq (bad fun q => ?_), trivial⟩
   have := of_decide_eq_true f
   omega
  ·have hk0 : 0 <= k := by have := of_decide_eq_false f; omega
   have good : ∀ b, prvB (agI p ss (rowT w h a ss ss.length)) c k ss.length = b -> (Value.tuple #[.bool b, .int .i64 0] = Value.tuple #[.bool (decide (c.length = ss.length /\ 0 <= k) && prvB (agI p ss (rowT w h a ss ss.length)) c k ss.length), .int .i64 (if c.length = ss.length /\ 0 <= k then 0 else 1)]) := fun b q => by rw [decide_eq_true ⟨hcl, hk0⟩, if_pos ⟨hcl, hk0⟩, q]; rfl
   refine ⟨rfl, ⟨Nat.zero_le _, rfl⟩, ?_, fun _ => rfl, fun x hx => ⟨fun d => ?_, fun d => ?_⟩⟩
   ·repeat' first | exact plainIL _ _ | exact wk_refl _ | exact rfl | exact wk_refl _ | exact wks_nil | exact wk_nil _ _ _ (.inl rfl) | refine wk_tupL ?_ | apply And.intro
   ·have hx1 : x < c.length := by have := of_decide_eq_true d; omega
    refine ⟨⟨by omega, by omega⟩, intAt hx1 (by omega), vI64 (by omega), fun u => ⟨fun v => ?_, fun v => ⟨⟨⟨hz, by omega⟩, ⟨by omega, by omega⟩, by omega⟩, ?_, rfl, ⟨Nat.zero_le _, rfl⟩, ?_, fun _ => rfl, fun y hy => ⟨fun r => ?_, fun r => ?_⟩⟩⟩, fun u => ?_⟩
    ·refine ⟨rfl, wk_of_eq (good false (prvB_no (x := x) (by omega) ?_)), trivial⟩
     unfold prv1
     have := of_decide_eq_false (notB v)
     rw [decide_eq_false this]; simp
    ·rw [Nat.sub_zero, Int.toNat_natCast]
    ·repeat' first | exact plainIL _ _ | exact wk_refl _ | exact rfl | exact wk_refl _ | exact wks_nil | exact wk_nil _ _ _ (.inl rfl) | refine wk_tupL ?_ | apply And.intro
    ·have hy1 : y < x := by have := of_decide_eq_true r; omega
     refine ⟨⟨by omega, by omega⟩, intAt (by omega) (by omega), fun q => ⟨⟨rfl, rfl, rfl, rfl, trivial⟩, fun H' _ g => kAgC t rk (by omega) (by omega) ⟨_, _, g.1⟩ ⟨_, _, g.2.1⟩ ⟨_, _, g.2.2.1⟩ ⟨_, _, g.2.2.2.1⟩, fun b => ?_, fun b => ?_⟩, fun q => ?_⟩
     ·refine ⟨rfl, wk_of_eq (good false (prvB_no (x := x) (by omega) ?_)), trivial⟩
      unfold prv1
      rw [prv0_no hy1 (eq_of_beq q) b]; simp
     ·refine ⟨vI64 (by omega), y + 1, ⟨by omega, ?_⟩, by omega, ?_⟩
      ·rw [prv0_S, hy.2, b]; simp
      ·repeat' first | exact plainIL _ _ | exact wk_refl _ | exact rfl | exact wk_refl _ | exact wks_nil | exact wk_nil _ _ _ (.inl rfl) | refine wk_tupL ?_ | apply And.intro
     ·refine ⟨vI64 (by omega), y + 1, ⟨by omega, ?_⟩, by omega, ?_⟩
      ·rw [prv0_S, hy.2, decide_eq_false (beq_eq_false_iff_ne.1 q)]; simp
      ·repeat' first | exact plainIL _ _ | exact wk_refl _ | exact rfl | exact wk_refl _ | exact wks_nil | exact wk_nil _ _ _ (.inl rfl) | refine wk_tupL ?_ | apply And.intro
    ·obtain rfl : y = x := by have := of_decide_eq_false r; omega
     refine ⟨vI64 (by omega), y + 1, ⟨by omega, ?_⟩, by omega, ?_⟩
     ·rw [prvB_S, hx.2]
      unfold prv1
      rw [u, notB2 v, hy.2]; rfl
     ·repeat' first | exact plainIL _ _ | exact wk_refl _ | exact rfl | exact wk_refl _ | exact wks_nil | exact wk_nil _ _ _ (.inl rfl) | refine wk_tupL ?_ | apply And.intro
    ·refine ⟨rfl, wk_of_eq (good false (prvB_no (x := x) (by omega) ?_)), trivial⟩
     unfold prv1
     rw [u]; simp
   ·obtain rfl : x = c.length := by have := of_decide_eq_false d; omega
    exact ⟨rfl, wk_of_eq (good true (by have := hx.2; rwa [show prvB (agI p ss (rowT w h a ss ss.length)) c k c.length = prvB (agI p ss (rowT w h a ss ss.length)) c k ss.length from congrArg _ hcl] at this)), trivial⟩
theorem prv_ok (o1 o2 o3 : Bool) (z1 z2 z3 : Nat) (a : List Bool) (ss : List (Int × Int)) (c : List Int) : [KObj.cells o1 z1 (a.flatMap boolC), .cells o2 z2 (ss.flatMap spC), .cells o3 z3 (c.flatMap intC)].all (rnoOk 3) = true := by
 show (rnoOk 3 (.cells o1 z1 (a.flatMap boolC)) && (rnoOk 3 (.cells o2 z2 (ss.flatMap spC)) && (rnoOk 3 (.cells o3 z3 (c.flatMap intC)) && true))) = true
 rw [boolRok, spRok, intRok]; rfl
theorem kProves {w h : Int} {a : List Bool} {p : Int} {ss : List (Int × Int)} {c : List Int} {k : Int} (ha : a.length <= 100000) (hs : ss.length <= 20) (hc : c.length <= 1000) (hk : -1000000 <= k /\ k <= 1000000) (e0 : errT w h a p ss = 0) {H : Heap} {i j l : Nat} (hnd : [i, j, l].Nodup) {o1 o2 o3 : Bool} {z1 z2 z3 : Nat} (hz : o3 = false ∨ z3 = 0 ∨ z3 = 1) (hi : H[i]? = some (.cells o1 z1 (a.flatMap boolC))) (hj : H[j]? = some (.cells o2 z2 (ss.flatMap spC))) (hl : H[l]? = some (.cells o3 z3 (c.flatMap intC))) :
  KCall prog 39 [trkV w h a p ss i j, slQ l 2 c.length, .int .i64 k] H [] (Is (.tuple #[.bool (decide (c.length = ss.length /\ 0 <= k) && prvB (agI p ss (trkRows w h a ss)) c k ss.length), .int .i64 (if c.length = ss.length /\ 0 <= k then 0 else 1)]) H) := by
 have key := valKs (fun _ => .tuple #[.bool (decide (c.length = ss.length /\ 0 <= k) && prvB (agI p ss (trkRows w h a ss)) c k ss.length), .int .i64 (if c.length = ss.length /\ 0 <= k then 0 else 1)]) (new := []) (Eq.mpr (Eproves o1 o2 z1 z2 o3 z3 w h a p ss c k) (hvProves ha hs hc hz hk e0)) (prv_ok ..) rfl trivial hnd (H := H) ⟨by rw [boolRno]; exact hi, by rw [spRno]; exact hj, by rw [intRno]; exact hl, trivial⟩ (fun j => rfl) (args' := [trkV w h a p ss i j, slQ l 2 c.length, .int .i64 k]) rfl
 rwa [List.append_nil] at key
end
end Go.Proofs.YtbgfjemppjhmjaaGreat
/- Radio: RadioBlames: words and plain laws. No condition. -/
namespace Go.Proofs.YtbgfjemppjhmjaaGreat
set_option linter.unusedSimpArgs false
open Go Go.K
set_option linter.unusedVariables false
def blC (A S : List Int) (Ld : List Bool) (bt : Nat -> Bool) (x : Nat) : Int :=
 if bt x = true then (if Ld.getD (Int.toNat (Int.tdiv (S.getD x 0) 121 % (Ld.length : Int))) false = true then A.getD (Int.toNat (S.getD x 0 % 121)) 0 else Int.tdiv (S.getD x 0) 121 % (Ld.length : Int)) else A.getD (Int.toNat (S.getD x 0 % 121)) 0
def sgB (A S : List Int) (Ld : List Bool) (bt : Nat -> Bool) : Nat -> List (Int × Int)
 | 0 => []
 | x + 1 => if A.getD (Int.toNat (S.getD x 0 % 121)) 0 < 0 then sgB A S Ld bt x else sgB A S Ld bt x ++ [(S.getD x 0 % 121, blC A S Ld bt x)]
def liN (A S : List Int) (bt : Nat -> Bool) : Nat -> Int
 | 0 => 0
 | x + 1 => if A.getD (Int.toNat (S.getD x 0 % 121)) 0 < 0 then liN A S bt x else if bt x = true then liN A S bt x + 1 else liN A S bt x
def gdL (ss : List (Int × Int)) (is : List Bool) : Nat -> List (Int × Int)
 | 0 => []
 | x + 1 => if is.getD x false = true then gdL ss is x ++ [ss.getD x zeroSp] else gdL ss is x
theorem sgB_len (A S : List Int) (Ld : List Bool) (bt : Nat -> Bool) : ∀ x, (sgB A S Ld bt x).length <= x
 | 0 => Nat.le_refl _
 | x + 1 => by
  have ih := sgB_len A S Ld bt x
  unfold sgB
  split
  ·omega
  ·rw [List.length_append, List.length_singleton]; omega
theorem liN_bd (A S : List Int) (bt : Nat -> Bool) : ∀ x, 0 <= liN A S bt x /\ liN A S bt x <= x
 | 0 => ⟨Int.le_refl 0, Int.le_refl 0⟩
 | x + 1 => by
  have ih := liN_bd A S bt x
  unfold liN
  split
  ·omega
  ·split <;> omega
theorem sgB_ok {A S : List Int} {Ld : List Bool} {bt : Nat -> Bool} (h0 : 0 < Ld.length) (hA : ∀ m, m < 121 -> A.getD m 0 = -1 ∨ ((0 <= A.getD m 0 /\ A.getD m 0 < (Ld.length : Int)) /\ Ld.getD (Int.toNat (A.getD m 0)) false = false)) : ∀ x, ∀ s ∈ sgB A S Ld bt x, (0 <= s.1 /\ s.1 <= 120) /\ (0 <= s.2 /\ s.2 < (Ld.length : Int)) /\ Ld.getD (Int.toNat s.2) false = false
 | 0 => fun s hs => by cases hs
 | x + 1 => by
  have ih := sgB_ok (S := S) (bt := bt) h0 hA x
  unfold sgB
  split
  ·exact ih
  ·rename_i h
   intro s hs
   rcases List.mem_append.1 hs with hs | hs
   ·exact ih s hs
   ·rw [List.mem_singleton.1 hs]
    have h1 := Int.emod_nonneg (S.getD x 0) (b := 121) (by omega)
    have h2 := Int.emod_lt_of_pos (S.getD x 0) (b := 121) (by omega)
    have h3 := Int.emod_nonneg (Int.tdiv (S.getD x 0) 121) (b := (Ld.length : Int)) (by omega)
    have h4 := Int.emod_lt_of_pos (Int.tdiv (S.getD x 0) 121) (b := (Ld.length : Int)) (by omega)
    have hc := (hA (Int.toNat (S.getD x 0 % 121)) (by omega)).resolve_left (by omega)
    refine ⟨⟨h1, by dsimp only; omega⟩, ?_⟩
    show (0 <= blC A S Ld bt x /\ _) /\ _
    unfold blC
    split
    ·split
     ·exact hc
     ·rename_i q
      exact ⟨⟨h3, h4⟩, by simpa using q⟩
    ·exact hc
def trB (A : List Int) (s : Int × Int) : Bool := decide (s.2 = A.getD (Int.toNat s.1) 0)
theorem sgB_true {A S : List Int} {Ld : List Bool} {bt : Nat -> Bool} : ∀ x, ((sgB A S Ld bt x).length : Int) <= (((sgB A S Ld bt x).filter (trB A)).length : Int) + liN A S bt x
 | 0 => by simp [sgB, liN]
 | x + 1 => by
  have ih := sgB_true (A := A) (S := S) (Ld := Ld) (bt := bt) x
  unfold sgB liN
  split
  ·exact ih
  ·rename_i h
   rw [List.length_append, List.filter_append, List.length_append, List.length_singleton]
   split
   ·have : 0 <= (([(S.getD x 0 % 121, blC A S Ld bt x)].filter (trB A)).length : Int) := Int.natCast_nonneg _
    omega
   ·rename_i q
    have e : trB A (S.getD x 0 % 121, blC A S Ld bt x) = true := by
     unfold trB blC
     rw [if_neg q]
     exact decide_eq_true rfl
    rw [List.filter_cons_of_pos e]
    show _ <= ((_ + 1 : Nat) : Int) + _
    omega
theorem fil_all {ss : List (Int × Int)} (q : Int × Int -> Bool) : ((allL ss.length).filter fun v => q (ss.getD (Int.toNat v) zeroSp)).length = (ss.filter q).length := by
 have e : ss = (allL ss.length).map fun v => ss.getD (Int.toNat v) zeroSp := by
  unfold allL tabP
  rw [List.map_map]
  refine List.ext_getElem (by rw [List.length_map, List.length_range]) fun i h1 h2 => ?_
  rw [List.getElem_map, List.getElem_range]
  show _ = ss.getD (Int.toNat ((i : Nat) : Int)) zeroSp
  rw [show Int.toNat ((i : Nat) : Int) = i by omega, List.getD_eq_getElem?_getD, List.getElem?_eq_getElem h1]; rfl
 conv => rhs; rw [e]
 rw [List.filter_map, List.length_map]; rfl
theorem gdL_mem {ss : List (Int × Int)} {is : List Bool} {s : Int × Int} : ∀ {x : Nat}, s ∈ gdL ss is x -> ∃ i, i < x /\ is.getD i false = true /\ s = ss.getD i zeroSp
 | 0, h => by cases h
 | x + 1, h => by
  unfold gdL at h
  split at h
  ·rcases List.mem_append.1 h with h | h
   ·obtain ⟨i, h1, h2⟩ := gdL_mem h; exact ⟨i, by omega, h2⟩
   ·exact ⟨x, by omega, by assumption, List.mem_singleton.1 h⟩
  ·obtain ⟨i, h1, h2⟩ := gdL_mem h; exact ⟨i, by omega, h2⟩
theorem allL_S (n : Nat) : allL (n + 1) = allL n ++ [(n : Int)] := by unfold allL; rw [tabP_succ]
theorem gdL_len {ss : List (Int × Int)} {is : List Bool} : ∀ x, (gdL ss is x).length = ((allL x).filter fun v => is.getD (Int.toNat v) false).length
 | 0 => rfl
 | x + 1 => by
  have ih := gdL_len (ss := ss) (is := is) x
  unfold gdL
  rw [allL_S, List.filter_append, List.length_append]
  cases q : is.getD x false with
  | true => rw [if_pos rfl, List.length_append, ih, List.filter_cons_of_pos (by rw [show Int.toNat ((x : Nat) : Int) = x by omega]; exact q)]; rfl
  | false => rw [if_neg (by simp), ih, List.filter_cons_of_neg (by rw [show Int.toNat ((x : Nat) : Int) = x by omega, q]; simp)]; rfl
theorem er_ok {w h : Int} {a : List Bool} {p : Int} {ss : List (Int × Int)} (b : BasOk w h a.length) (hp : 1 <= p /\ p <= 1000) (hl : ss.length <= 20) (k : ∀ s ∈ ss, (0 <= s.1 /\ s.1 <= 120) /\ (0 <= s.2 /\ s.2 < (a.length : Int)) /\ a.getD (Int.toNat s.2) false = false) : errT w h a p ss = 0 := by
 have e0 : errBas w h a.length = 0 := by
  unfold errBas
  rw [if_pos ⟨b.w1, b.h1, b.p1⟩, if_pos b.n1]
 unfold errT
 rw [if_pos e0, if_pos hp, if_pos hl, if_pos]
 rw [List.all_eq_true]
 intro s hs
 obtain ⟨k1, k2, k3⟩ := k s hs
 unfold okS seaB
 rw [decide_eq_true k1.1, decide_eq_true (show s.1 <= 100000 by omega), decide_eq_true k2.1, decide_eq_true (show s.2 <= ((a.length : Nat) : Int) - 1 by omega), k3]
 rfl
noncomputable def truQ (N : List Int) (z : Int) (ss : List (Int × Int)) : List Bool := truL (agI (pcP z) ss (rwQ N ss)) (kyI ss) ss.length
noncomputable def mstQ (N : List Int) (z : Int) (ss : List (Int × Int)) : Int := mst (agI (pcP z) ss (rwQ N ss)) (kyI ss) (allL ss.length)
noncomputable def clsQ (N : List Int) (z : Int) (ss : List (Int × Int)) : List Int := clsL (agI (pcP z) ss (rwQ N ss)) (kyI ss) ss.length ss.length
noncomputable def prvQ (N : List Int) (z : Int) (ss : List (Int × Int)) (c : List Int) (k : Int) : Bool := prvB (agI (pcP z) ss (rwQ N ss)) c k ss.length
structure SgOk (N : List Int) (z : Int) (ss : List (Int × Int)) : Prop where
 few : ss.length <= 12
 ok : ∀ s ∈ ss, (0 <= s.1 /\ s.1 <= 120) /\ (0 <= s.2 /\ s.2 < ((wtLd N).length : Int)) /\ (wtLd N).getD (Int.toNat s.2) false = false
theorem SgOk.err {N : List Int} {z : Int} {ss : List (Int × Int)} (k : SgOk N z ss) : errT (wtW N 0) (wtH N 0) (wtLd N) (pcP z) ss = 0 := er_ok (wtBas N) (by have := pcP_bd z; omega) (by have := k.few; omega) k.ok
theorem SgOk.tr {N : List Int} {z : Int} {ss : List (Int × Int)} (k : SgOk N z ss) : TrOk (wtW N 0) (wtH N 0) (wtLd N) (pcP z) ss := trOk k.err
theorem SgOk.ag {N : List Int} {z : Int} {ss : List (Int × Int)} (k : SgOk N z ss) : AgOk (agI (pcP z) ss (rwQ N ss)) (kyI ss) (allL ss.length) := agOk k.tr
theorem sgB_sg (N S : List Int) (z : Int) (bt : Nat -> Bool) {x : Nat} (hx : x <= 12) : SgOk N z (sgB (atL N (pcP z)) S (wtLd N) bt x) := by
 obtain ⟨i, hi⟩ := wtPath N z
 have h3 := wtWH_bd N 0
 have h4 := (wtBas N).n1
 exact ⟨Nat.le_trans (sgB_len ..) hx, sgB_ok (by omega) (fun m hm => i.cells m (by show _ < (atL N (pcP z)).length; omega)) x⟩
noncomputable def gdQ (N : List Int) (z : Int) (ss : List (Int × Int)) : List (Int × Int) := gdL ss (truQ N z ss) ss.length
theorem gdQ_sg {N : List Int} {z : Int} {ss : List (Int × Int)} (k : SgOk N z ss) : SgOk N z (gdQ N z ss) := by
 refine ⟨?_, fun s hs => ?_⟩
 ·have h1 := gdL_len (ss := ss) (is := truQ N z ss) ss.length
  have h2 := List.length_filter_le (fun v => (truQ N z ss).getD (Int.toNat v) false) (allL ss.length)
  rw [allN_len] at h2
  have := k.few
  unfold gdQ; omega
 ·obtain ⟨i, h1, _, rfl⟩ := gdL_mem hs
  exact k.ok _ (getD_mem h1)
theorem gdQ_can {N : List Int} {z : Int} {ss : List (Int × Int)} (k : SgOk N z ss) {s t : Int × Int} (hs : s ∈ gdQ N z ss) (ht : t ∈ gdQ N z ss) : canS (wtW N 0) (wtH N 0) (wtLd N) (pcP z) s t.2 t.1 = true := by
 obtain ⟨i, h1, h2, rfl⟩ := gdL_mem hs
 obtain ⟨j, g1, g2, rfl⟩ := gdL_mem ht
 have := truL_ag k.ag h1 g1 h2 g2
 unfold rwQ at this
 rw [agI_is (fun s hs => (k.ok s hs).2.1) (by omega) (by omega)] at this
 exact this
theorem gdQ_cf {N : List Int} {z : Int} {ss : List (Int × Int)} (k : SgOk N z ss) : cfTo (pcP z) (gdQ N z ss) (rwQ N (gdQ N z ss)) (gdQ N z ss).length = [] :=
 cf_nil (fun s hs => ((gdQ_sg k).ok s hs).2.1) fun x hx y hy => gdQ_can k hx hy
theorem gdQ_len {N : List Int} {z : Int} {ss : List (Int × Int)} (k : SgOk N z ss) : ((gdQ N z ss).length : Int) = mstQ N z ss := by
 unfold gdQ
 rw [gdL_len]
 exact truL_cnt k.ag
theorem fil_one {N : Nat} {q : Nat -> Bool} {c : Nat} (hc : c < N) (h : ∀ x, x < N -> (q x = true ↔ x = c)) : (List.range N).filter q = [c] := by
 have e : (List.range N).filter q = (List.range N).filter fun x => x == c := List.filter_congr fun x hx => by
  rw [Bool.eq_iff_iff, h x (List.mem_range.1 hx), beq_iff_eq]
 rw [e]
 clear e h
 induction N with
 | zero => omega
 | succ N ih =>
  rw [List.range_succ, List.filter_append]
  by_cases r : c = N
  ·subst r
   rw [List.filter_eq_nil_iff.2 fun x hx => by have := List.mem_range.1 hx; simp; omega]
   simp
  ·rw [ih (by omega), List.filter_cons_of_neg (by simp; omega)]; rfl
theorem gdQ_wh {N : List Int} {z : Int} {ss : List (Int × Int)} (k : SgOk N z ss) {x : Nat} (hx : x < (gdQ N z ss).length) : whQ N z (gdQ N z ss) ((gdQ N z ss).getD x zeroSp).1 = [((gdQ N z ss).getD x zeroSp).2] := by
 have hm : (gdQ N z ss).getD x zeroSp ∈ gdQ N z ss := getD_mem hx
 have kk := gdQ_sg k
 generalize hs : (gdQ N z ss).getD x zeroSp = s at hm
 have ks := kk.ok s hm
 unfold whQ whL rwQ
 rw [fil_one (c := Int.toNat s.2) (by omega) fun y hy => ?_]
 ·show [((Int.toNat s.2 : Nat) : Int)] = _
  rw [show ((Int.toNat s.2 : Nat) : Int) = s.2 by omega]
 ·rw [clr_is (by omega), Bool.and_eq_true, List.all_eq_true]
  constructor
  ·rintro ⟨_, h2⟩
   have h3 := canS_iff.1 (h2 s hm)
   obtain ⟨n, n1, n2⟩ := dst_lt h3.1
   have h4 := h3.2
   rw [n2, Int.sub_self] at h4
   have hp := (pcP_bd z).1
   have : (n : Int) * 1 <= (n : Int) * pcP z := Int.mul_le_mul_of_nonneg_left hp (by omega)
   unfold mxI at h4
   simp at h4
   have n0 : n = 0 := by omega
   subst n0
   generalize hy' : ((y : Nat) : Int) = g at n1
   cases n1
   omega
  ·intro e
   subst e
   rw [show ((Int.toNat s.2 : Nat) : Int) = s.2 by omega]
   refine ⟨?_, fun t ht => gdQ_can k ht hm⟩
   unfold seaB
   rw [decide_eq_true ks.2.1.1, decide_eq_true (show s.2 <= (((wtLd N).length : Nat) : Int) - 1 by omega), ks.2.2]; rfl
theorem sgB_mst {N S : List Int} {z : Int} {bt : Nat -> Bool} {x : Nat} (hx : x <= 12) : ((sgB (atL N (pcP z)) S (wtLd N) bt x).length : Int) - mstQ N z (sgB (atL N (pcP z)) S (wtLd N) bt x) <= liN (atL N (pcP z)) S bt x := by
 have k := sgB_sg N S z bt hx
 have h1 := sgB_true (A := atL N (pcP z)) (S := S) (Ld := wtLd N) (bt := bt) x
 generalize sgB (atL N (pcP z)) S (wtLd N) bt x = ss at *
 obtain ⟨i, hi⟩ := wtPath N z
 have h2 := mst_ge (agr := agI (pcP z) ss (rwQ N ss)) (k := kyI ss) (l := allL ss.length) (P := fun v => trB (atL N (pcP z)) (ss.getD (Int.toNat v) zeroSp)) fun v hv u hu pv pu => by
  have hv := allL_mem.1 hv
  have hu := allL_mem.1 hu
  unfold rwQ
  rw [agI_is (fun s hs => (k.ok s hs).2.1) hv hu]
  have kv := k.ok _ (getD_mem (d := zeroSp) (show Int.toNat v < ss.length by omega))
  have ku := k.ok _ (getD_mem (d := zeroSp) (show Int.toNat u < ss.length by omega))
  refine seen_can (ss := [ss.getD (Int.toNat v) zeroSp, ss.getD (Int.toNat u) zeroSp]) (wtBas N) (pcP_bd z).1 i hi (fun s hs => ?_) (List.mem_cons_self ..) (List.mem_cons_of_mem _ (List.mem_cons_self ..))
  rcases List.mem_cons.1 hs with rfl | hs
  ·exact ⟨kv.1, of_decide_eq_true pv, kv.2.1.1⟩
  ·rw [List.mem_singleton.1 hs]
   exact ⟨ku.1, of_decide_eq_true pu, ku.2.1.1⟩
 rw [fil_all] at h2
 unfold mstQ
 omega
end Go.Proofs.YtbgfjemppjhmjaaGreat
/- Radio: RadioHolds and RadioBlames: words. No condition. -/
namespace Go.Proofs.YtbgfjemppjhmjaaGreat
set_option linter.unusedSimpArgs false
open Go Go.K
set_option linter.unusedVariables false
noncomputable def cfQ (N : List Int) (z : Int) (ss : List (Int × Int)) : List (Int × Int) := cfTo (pcP z) ss (rwQ N ss) ss.length
end Go.Proofs.YtbgfjemppjhmjaaGreat
/- Radio: RadioHolds: the law. No condition. -/
namespace Go.Proofs.YtbgfjemppjhmjaaGreat
open Go Go.K
set_option maxRecDepth 100000
set_option linter.unusedVariables false
set_option linter.unusedSimpArgs false
noncomputable section
attribute [local irreducible] vF
theorem kCfQ {N : List Int} {z : Int} {ss : List (Int × Int)} (e0 : errT (wtW N 0) (wtH N 0) (wtLd N) (pcP z) ss = 0) {H : Heap} {i j : Nat} (hne : i ≠ j) {o1 o2 : Bool} {z1 z2 : Nat} (hi : H[i]? = some (.cells o1 z1 ((wtLd N).flatMap boolC))) (hj : H[j]? = some (.cells o2 z2 (ss.flatMap spC))) :
  KCall prog 23 [.agg #[.int .i64 (wtW N 0), .int .i64 (wtH N 0), .slice (some ⟨i, 0, some 1⟩) (wtLd N).length (wtLd N).length, .int .i64 (1 + z % 30), .slice (some ⟨j, 0, some 1⟩) ss.length ss.length]] H [] (Is (.tuple #[.slice (some ⟨H.length, 0, some 1⟩) (cfQ N z ss).length (cfQ N z ss).length, .int .i64 0]) (H ++ [.cells true 2 ((cfQ N z ss).flatMap spC)])) :=
 KCall.wkA (kConfs e0 hne hi hj) (wks_cons wkTrk wks_nil)
theorem kTrQ {N : List Int} {z : Int} {ss : List (Int × Int)} (hl : ss.length <= 19) (e0 : errT (wtW N 0) (wtH N 0) (wtLd N) (pcP z) ss = 0) {H : Heap} {i j : Nat} (hne : i ≠ j) {o1 o2 : Bool} {z1 z2 : Nat} (hi : H[i]? = some (.cells o1 z1 ((wtLd N).flatMap boolC))) (hj : H[j]? = some (.cells o2 z2 (ss.flatMap spC))) :
  KCall prog 24 [.agg #[.int .i64 (wtW N 0), .int .i64 (wtH N 0), .slice (some ⟨i, 0, some 1⟩) (wtLd N).length (wtLd N).length, .int .i64 (1 + z % 30), .slice (some ⟨j, 0, some 1⟩) ss.length ss.length]] H [] (Is (.tuple #[.slice (some ⟨H.length, 0, some 1⟩) (truQ N z ss).length (truQ N z ss).length, .int .i64 0]) (H ++ [.cells true 1 ((truQ N z ss).flatMap boolC)])) :=
 KCall.wkA (kTrustA (by have := (wtBas N).n1; have := (wtBas N).p1; omega) hl e0 hne hi hj) (wks_cons wkTrk wks_nil)
end
end Go.Proofs.YtbgfjemppjhmjaaGreat
/- Radio: RadioBlames: words. No condition. -/
namespace Go.Proofs.YtbgfjemppjhmjaaGreat
set_option linter.unusedSimpArgs false
open Go Go.K
set_option linter.unusedVariables false
def btB (q : Int) (x : Nat) : Bool := ((IntKind.wrap .i64 (((BitVec.ofInt (IntKind.bits .i64) (Int.fdiv q (2 ^ min (Int.toNat ((x : Nat) : Int)) (IntKind.bits .i64))) &&& BitVec.ofInt (IntKind.bits .i64) 1)).toNat : Nat)) : Int) == 1
noncomputable section
def sgW (N S : List Int) (z q : Int) (x : Nat) : List (Int × Int) := sgB (atL N (pcP z)) S (wtLd N) (btB q) x
def liW (N S : List Int) (z q : Int) (x : Nat) : Int := liN (atL N (pcP z)) S (btB q) x
def gdW (N : List Int) (z : Int) (ss : List (Int × Int)) (x : Nat) : List (Int × Int) := gdL ss (truQ N z ss) x
def prW (N : List Int) (z : Int) (ss : List (Int × Int)) (c : List Int) (k : Int) : Bool := decide (c.length = ss.length /\ 0 <= k) && prvQ N z ss c k
def prE (ss : List (Int × Int)) (c : List Int) (k : Int) : Int := if c.length = ss.length /\ 0 <= k then 0 else 1
end
end Go.Proofs.YtbgfjemppjhmjaaGreat
