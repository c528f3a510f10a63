/- What is to be shown of functions. Printed by a program. No condition. -/
import Derived.Test.YtbgfjemppjhmjaaGreatGP26xW38
import Derived.Test.YtbgfjemppjhmjaaGreatGP40xP32
import Derived.Test.YtbgfjemppjhmjaaGreatGO32gxW36
import Derived.Test.YtbgfjemppjhmjaaGreatGO24gxO27g
import Derived.Test.YtbgfjemppjhmjaaGreatO60g
import Derived.Test.YtbgfjemppjhmjaaGreatGW34xW45
open Go Go.K
set_option maxRecDepth 1000000
set_option maxHeartbeats 4000000
set_option linter.unusedVariables false
set_option linter.unusedSimpArgs false
namespace Go.Proofs.YtbgfjemppjhmjaaGreat
noncomputable section
attribute [local irreducible] vF
variable {w h:Int} {a:List Bool} {p:Int} {ss:List (Int×Int)} {o1 o2:Bool} {z1 z2:Nat} {H:Heap}
abbrev knm(a:List Bool):=a.flatMap af
abbrev kn3(w h:Int)(a:List Bool)(p:Int)(ss:List (Int×Int)):List Value:=[nI w,nI h,slQ 0 2 a.length,nI p,slQ 1 2 ss.length,slQ 4 1 (aC w h a ss ss.length).length]
abbrev knb(o1:Bool)(z1:Nat)(a:List Bool)(o2:Bool)(z2:Nat)(ss:List (Int×Int))(w h:Int):Prop:=(ar (.cells o1 z1 (knm a)))/\(ar (.cells o2 z2 (ss.flatMap spC)))/\(ar (.cells true 1 (inL (aC w h a ss ss.length))))/\True
abbrev kn8(H':Heap)(o1:Bool)(z1:Nat)(a:List Bool)(o2:Bool)(z2:Nat)(ss:List (Int×Int))(w h:Int):Prop:=H'[0]?=some (.cells o1 z1 (knm a):ab)/\H'[1]?=some (.cells o2 z2 (ss.flatMap spC):ab)/\H'[4]?=some (.cells true 1 (inL (aC w h a ss ss.length)):ab)/\True
abbrev kni:List Value:=[.pointer (some ⟨3,0,none⟩)]
abbrev knk(ss:List (Int×Int)):ab:=.cells true 1 ((aQ ss.length).flatMap ai)
abbrev kn4(p:Int)(ss:List (Int×Int))(w h:Int)(a:List Bool):=agI p ss (aC w h a ss ss.length)
abbrev kng(p:Int)(ss:List (Int×Int))(w h:Int)(a:List Bool):=mst (kn4 p ss w h a) (kyI ss) (aQ ss.length)
abbrev knl(p:Int)(ss:List (Int×Int))(w h:Int)(a:List Bool):=trS (kn4 p ss w h a) (kyI ss) ss.length (0,aQ ss.length).1
abbrev kn0(p:Int)(ss:List (Int×Int))(w h:Int)(a:List Bool)(x3:Nat×List Int):=trS (kn4 p ss w h a) (kyI ss) ss.length x3.1
abbrev kn5(x3:Nat×List Int):Int:=(x3.1:Nat)
abbrev knj(x3:Nat×List Int):=ar (.cells true 1 (x3.2.flatMap ai))
abbrev kne(p:Int)(ss:List (Int×Int))(w h:Int)(a:List Bool)(x3:Nat×List Int):=aN (agI p ss (aC w h a ss ss.length) (kn5 x3)) (kn0 p ss w h a x3).1 (List.length (kn0 p ss w h a x3).1)
abbrev kn9(p:Int)(ss:List (Int×Int))(w h:Int)(a:List Bool)(x3:Nat×List Int):=fA (agI p ss (aC w h a ss ss.length) (kn5 x3)) (kn0 p ss w h a x3).1 (List.length (kn0 p ss w h a x3).1)
abbrev kn1(p:Int)(ss:List (Int×Int))(w h:Int)(a:List Bool)(x3:Nat×List Int):=mst (kn4 p ss w h a) (kyI ss) (kne p ss w h a x3)
abbrev kn6(p:Int)(ss:List (Int×Int))(w h:Int)(a:List Bool)(x3:Nat×List Int):Prop:=((List.length (kn0 p ss w h a x3).2)+1)*1<=2 ^ 44/\1≠0/\((List.length (kn0 p ss w h a x3).2)<=(List.length (kn0 p ss w h a x3).2)/\0+(List.length (kn0 p ss w h a x3).2)*1<=List.length (((kn0 p ss w h a x3).2).flatMap af))/\(1<=1/\0+1*1<=List.length ([.bool (((kn1 p ss w h a x3):Int) == (kng p ss w h a))]:List Value))/\(((([.bool (((kn1 p ss w h a x3):Int) == (kng p ss w h a))]:List Value).drop 0).take (1*1)):List Value).all (fun v=>cO v)=true
abbrev knn(x3:Nat×List Int):Value:=nI (IntKind.wrap .i64 ((kn5 x3)+1))
abbrev knc(x3':Nat×List Int)(ss:List (Int×Int))(p w h:Int)(a:List Bool):Prop:=x3'.1<=List.length ss/\List.take (List.length (trS (kn4 p ss w h a) (kyI ss) ss.length x3'.1).1) x3'.2=(trS (kn4 p ss w h a) (kyI ss) ss.length x3'.1).1/\List.length x3'.2<=List.length ss
abbrev kn2(p:Int)(ss:List (Int×Int))(w h:Int)(a:List Bool)(x3:Nat×List Int)(x3':Nat×List Int):Prop:=wk (.slice (some ⟨12,0,none⟩) ((List.length (kn0 p ss w h a x3).2)+1) ((List.length (kn0 p ss w h a x3).2)+1):Value) (slQ 12 1 (List.length (trS (kn4 p ss w h a) (kyI ss) ss.length x3'.1).2):Value)/\(.slice none 0 0:Value) = .slice none 0 0/\(nI 0:Value)=nI 0/\(.pointer (some ⟨5,0,none⟩):Value) = .pointer (some ⟨5,0,none⟩)/\(nI (kng p ss w h a):Value)=nI (kng p ss w h a)/\(nI ((ss.length:Nat):Int):Value)=nI ((ss.length:Nat):Int)/\True
abbrev knf(x3':Nat×List Int):ab:=.cells true 1 (x3'.2.flatMap ai)
abbrev kna(p:Int)(ss:List (Int×Int))(w h:Int)(a:List Bool)(x3:Nat×List Int)(x3':Nat×List Int):Prop:=(some (.cells true 1 ((((((kn0 p ss w h a x3).2).flatMap af).drop 0).take ((List.length (kn0 p ss w h a x3).2)*1))++((([.bool (((kn1 p ss w h a x3):Int) == (kng p ss w h a))]:List Value).drop 0).take (1*1))):ab)=some (.cells true 1 (((trS (kn4 p ss w h a) (kyI ss) ss.length x3'.1).2).flatMap af):ab)/\aj 7 (.cells true 1 (((trS (kn4 p ss w h a) (kyI ss) ss.length x3'.1).2).flatMap af):ab)=true)/\True
abbrev kn7(x3:Nat×List Int)(p:Int)(ss:List (Int×Int))(w h:Int)(a:List Bool):Prop:=∀H':Heap,H'.length=11->(H'[7]?=some (.cells true 1 (x3.2.flatMap ai):ab)/\H'[9]?=some (.cells true 0 [nI (kn5 x3)]:ab)/\True)->ad prog 84 [slQ 7 2 (List.length (kn0 p ss w h a x3).1),.func (.func 89) #[] #[.pointer (some ⟨9,0,none⟩)]] H' [7] (Is (slQ 7 2 (aN (qNe (kn5 x3)) x3.2 (List.length (kn0 p ss w h a x3).1)).length) (List.set H' 7 (.cells true 1 ((fA (qNe (kn5 x3)) x3.2 (List.length (kn0 p ss w h a x3).1)).flatMap ai):ab)))
abbrev knh(x3:Nat×List Int)(x3':Nat×List Int)(p:Int)(ss:List (Int×Int))(w h:Int)(a:List Bool):Prop:=(nI ((kn5 x3)+1):Value)=nI ((x3'.1:Nat):Int)/\wk (slQ 7 2 (aN (qNe (kn5 x3)) x3.2 (List.length (kn0 p ss w h a x3).1)).length:Value) (slQ 7 2 (List.length (trS (kn4 p ss w h a) (kyI ss) ss.length x3'.1).1):Value)/\kn2 p ss w h a x3 x3'
abbrev kno:List Value:=[.bool false]
def ye(o1 o2:Bool)(z1 z2:Nat)(w h:Int)(a:List Bool)(p:Int)(ss:List (Int×Int)):Prop :=
 (((ar (.cells o1 z1 (knm a)))/\(ar (.cells o2 z2 (ss.flatMap spC)))/\True)/\(∀H':Heap,H'.length=3->(H'[0]?=some (.cells o1 z1 (knm a):ab)/\H'[1]?=some (.cells o2 z2 (ss.flatMap spC):ab)/\True)->ad prog 72 [.agg #[nI w,nI h,slQ 0 2 a.length,nI p,slQ 1 2 ss.length]] H' [] (Is (.tuple #[.pointer (some ⟨3,0,none⟩),nI 0]) (H' ++ [(.cells true 0 (kn3 w h a p ss):ab),(.cells true 1 (inL (aC w h a ss ss.length)):ab)])))/\((ar (.cells true 0 (kn3 w h a p ss)))/\knb o1 z1 a o2 z2 ss w h)/\(∀H':Heap,H'.length=6->(H'[3]?=some (.cells true 0 (kn3 w h a p ss):ab)/\kn8 H' o1 z1 a o2 z2 ss w h)->ad prog 77 kni H' [] (Is (slQ 6 1 (aQ ss.length).length) (H' ++ [(knk ss)])))/\((ar (.cells true 0 (kn3 w h a p ss)))/\(ar (.cells true 1 ((aQ ss.length).flatMap ai)))/\knb o1 z1 a o2 z2 ss w h)/\(∀H':Heap,H'.length=7->(H'[3]?=some (.cells true 0 (kn3 w h a p ss):ab)/\H'[6]?=some (knk ss)/\kn8 H' o1 z1 a o2 z2 ss w h)->ad prog 83 [.pointer (some ⟨3,0,none⟩),slQ 6 1 (aQ ss.length).length] H' [] (Is (nI (kng p ss w h a)) H'))/\(true=true/\((0,aQ ss.length).1<=List.length ss/\List.take (List.length (knl p ss w h a).1) (0,aQ ss.length).2=(knl p ss w h a).1/\List.length (0,aQ ss.length).2<=List.length ss)/\(true=true/\((nI 0:Value)=nI (((0,aQ ss.length).1:Nat):Int)/\wk (slQ 6 1 (aQ ss.length).length:Value) (slQ 6 2 (List.length (knl p ss w h a).1):Value)/\wk (.slice none 0 0:Value) (slQ 0 1 (List.length (knl p ss w h a).2):Value)/\(.slice none 0 0:Value) = .slice none 0 0/\(nI 0:Value)=nI 0/\(.pointer (some ⟨5,0,none⟩):Value) = .pointer (some ⟨5,0,none⟩)/\(nI (kng p ss w h a):Value)=nI (kng p ss w h a)/\(nI ((ss.length:Nat):Int):Value)=nI ((ss.length:Nat):Int)/\True)/\(True/\True)/\((some (knk ss)=some (.cells true 1 (List.flatMap ai (0,aQ ss.length).2):ab)/\aj 7 (.cells true 1 (List.flatMap ai (0,aQ ss.length).2):ab)=true)/\True/\True)/\True)/\(∀x3:Nat×List Int,true=true)/\∀x3:Nat×List Int,(x3.1<=List.length ss/\List.take (List.length (kn0 p ss w h a x3).1) x3.2=(kn0 p ss w h a x3).1/\List.length x3.2<=List.length ss)->(((decide (((kn5 x3):Int)<((ss.length:Nat):Int)))=true->(((knj x3)/\True)/\(∀H':Heap,H'.length=10->(H'[7]?=some (.cells true 1 (x3.2.flatMap ai):ab)/\True)->ad prog 85 [slQ 7 2 (List.length (kn0 p ss w h a x3).1)] H' [] (Is (slQ 10 1 (List.length (kn0 p ss w h a x3).1)) (H' ++ [(.cells true 1 (List.flatMap ai (kn0 p ss w h a x3).1):ab)])))/\((ar (.cells true 1 (List.flatMap ai (kn0 p ss w h a x3).1)))/\(ar (.cells true 0 kni))/\(ar (.cells true 0 [nI (kn5 x3)]))/\(ar (.cells true 0 (kn3 w h a p ss)))/\knb o1 z1 a o2 z2 ss w h)/\(∀H':Heap,H'.length=11->(H'[10]?=some (.cells true 1 (List.flatMap ai (kn0 p ss w h a x3).1):ab)/\H'[5]?=some (.cells true 0 kni:ab)/\H'[9]?=some (.cells true 0 [nI (kn5 x3)]:ab)/\H'[3]?=some (.cells true 0 (kn3 w h a p ss):ab)/\kn8 H' o1 z1 a o2 z2 ss w h)->ad prog 84 [slQ 10 1 (List.length (kn0 p ss w h a x3).1),.func (.func 86) #[] #[.pointer (some ⟨5,0,none⟩),.pointer (some ⟨9,0,none⟩)]] H' [10] (Is (slQ 10 2 (kne p ss w h a x3).length) (List.set H' 10 (.cells true 1 ((kn9 p ss w h a x3).flatMap ai):ab))))/\((knj x3)/\True)/\(∀H':Heap,H'.length=11->(H'[7]?=some (.cells true 1 (x3.2.flatMap ai):ab)/\True)->ad prog 88 [slQ 7 2 (List.length (kn0 p ss w h a x3).1),nI (kn5 x3)] H' [] (Is (.bool (List.any (kn0 p ss w h a x3).1 (fun v=>v == (kn5 x3)))) H'))/\((List.any (kn0 p ss w h a x3).1 (fun v=>v == (kn5 x3)))=true->(((ar (.cells true 0 (kn3 w h a p ss)))/\(ar (.cells true 1 ((kn9 p ss w h a x3).flatMap ai)))/\knb o1 z1 a o2 z2 ss w h)/\(∀H':Heap,H'.length=11->(H'[3]?=some (.cells true 0 (kn3 w h a p ss):ab)/\H'[10]?=some (.cells true 1 ((kn9 p ss w h a x3).flatMap ai):ab)/\kn8 H' o1 z1 a o2 z2 ss w h)->ad prog 83 [.pointer (some ⟨3,0,none⟩),slQ 10 2 (kne p ss w h a x3).length] H' [] (Is (nI (kn1 p ss w h a x3)) H'))/\((((kn1 p ss w h a x3):Int) == (kng p ss w h a))=true->((kn6 p ss w h a x3)/\true=true/\((knn x3)=nI ((kn5 x3)+1)/\∃x3':Nat×List Int,(knc x3' ss p w h a)/\(List.length ss-x3'.1)<(List.length ss-x3.1)/\true=true/\((nI ((kn5 x3)+1):Value)=nI ((x3'.1:Nat):Int)/\wk (slQ 10 2 (kne p ss w h a x3).length:Value) (slQ 10 2 (List.length (trS (kn4 p ss w h a) (kyI ss) ss.length x3'.1).1):Value)/\kn2 p ss w h a x3 x3')/\(True/\True)/\((some (.cells true 1 ((kn9 p ss w h a x3).flatMap ai):ab)=some (knf x3')/\aj 7 (knf x3')=true)/\kna p ss w h a x3 x3')/\True)))/\((((kn1 p ss w h a x3):Int) == (kng p ss w h a))=false->(((knj x3)/\(ar (.cells true 0 [nI (kn5 x3)]))/\True)/\(kn7 x3 p ss w h a)/\(kn6 p ss w h a x3)/\true=true/\((knn x3)=nI ((kn5 x3)+1)/\∃x3':Nat×List Int,(knc x3' ss p w h a)/\(List.length ss-x3'.1)<(List.length ss-x3.1)/\true=true/\(knh x3 x3' p ss w h a)/\(True/\True)/\((some (.cells true 1 ((fA (qNe (kn5 x3)) x3.2 (List.length (kn0 p ss w h a x3).1)).flatMap ai):ab)=some (knf x3')/\aj 7 (knf x3')=true)/\kna p ss w h a x3 x3')/\True)))))/\((List.any (kn0 p ss w h a x3).1 (fun v=>v == (kn5 x3)))=false->(((knj x3)/\(ar (.cells true 0 [nI (kn5 x3)]))/\True)/\(kn7 x3 p ss w h a)/\(((List.length (kn0 p ss w h a x3).2)+1)*1<=2 ^ 44/\1≠0/\((List.length (kn0 p ss w h a x3).2)<=(List.length (kn0 p ss w h a x3).2)/\0+(List.length (kn0 p ss w h a x3).2)*1<=List.length (((kn0 p ss w h a x3).2).flatMap af))/\(1<=1/\0+1*1<=List.length kno)/\(((kno.drop 0).take (1*1)):List Value).all (fun v=>cO v)=true)/\true=true/\((knn x3)=nI ((kn5 x3)+1)/\∃x3':Nat×List Int,(knc x3' ss p w h a)/\(List.length ss-x3'.1)<(List.length ss-x3.1)/\true=true/\(knh x3 x3' p ss w h a)/\(True/\True)/\((some (.cells true 1 ((fA (qNe (kn5 x3)) x3.2 (List.length (kn0 p ss w h a x3).1)).flatMap ai):ab)=some (knf x3')/\aj 7 (knf x3')=true)/\(some (.cells true 1 ((((((kn0 p ss w h a x3).2).flatMap af).drop 0).take ((List.length (kn0 p ss w h a x3).2)*1))++((kno.drop 0).take (1*1))):ab)=some (.cells true 1 (((trS (kn4 p ss w h a) (kyI ss) ss.length x3'.1).2).flatMap af):ab)/\aj 7 (.cells true 1 (((trS (kn4 p ss w h a) (kyI ss) ss.length x3'.1).2).flatMap af):ab)=true)/\True)/\True)))))/\((decide (((kn5 x3):Int)<((ss.length:Nat):Int)))=false->(true=true/\wk (.tuple #[slQ 8 1 (List.length (kn0 p ss w h a x3).2),nI 0]:Value) (rn (sg 2 [(2,8)]) 3 (.tuple #[slQ 2 1 (gV (kn4 p ss w h a) (kyI ss) ss.length).length,nI 0]:Value))/\(some (.cells true 1 (((kn0 p ss w h a x3).2).flatMap af):ab)=some (.cells true 1 ((gV (kn4 p ss w h a) (kyI ss) ss.length).flatMap af):ab)/\aj 2 (.cells true 1 ((gV (kn4 p ss w h a) (kyI ss) ss.length).flatMap af):ab)=true)/\True)))))
abbrev knd(x3:Nat×List Int)(p:Int)(ss:List (Int×Int))(w h:Int)(a:List Bool):Hint:=.mn [(7,.cells true 1 (x3.2.flatMap ai)),(9,.cells true 0 [nI (kn5 x3)])] (slQ 7 2 (aN (qNe (kn5 x3)) x3.2 (List.length (kn0 p ss w h a x3).1)).length) [(7,.cells true 1 ((fA (qNe (kn5 x3)) x3.2 (List.length (kn0 p ss w h a x3).1)).flatMap ai))] [] (.go 3 (.need (.go 1 (.slot 57 (nI ((kn5 x3)+1)) (.go 0 (.again [(7,7),(8,12)]))))))
theorem JY(o1 o2:Bool)(z1 z2:Nat)(w h:Int)(a:List Bool)(p:Int)(ss:List (Int×Int)):vF prog msk (dm 0) 100000 true 40 true 24 [.agg #[nI w,nI h,slQ 0 2 a.length,nI p,slQ 1 2 ss.length]] (aW [.cells o1 z1 (knm a),.cells o2 z2 (ss.flatMap spC)]) (some [])
 (.go 3 (.ans [(0,.cells o1 z1 (knm a)),(1,.cells o2 z2 (ss.flatMap spC))] (.tuple #[.pointer (some ⟨3,0,none⟩),nI 0]) [.cells true 0 (kn3 w h a p ss),.cells true 1 (inL (aC w h a ss ss.length))] (.go 9 (.ans [(3,.cells true 0 (kn3 w h a p ss)),(0,.cells o1 z1 (knm a)),(1,.cells o2 z2 (ss.flatMap spC)),(4,.cells true 1 (inL (aC w h a ss ss.length)))] (slQ 6 1 (aQ ss.length).length) [.cells true 1 ((aQ ss.length).flatMap ai)] (.go 2 (.ans [(3,.cells true 0 (kn3 w h a p ss)),(6,.cells true 1 ((aQ ss.length).flatMap ai)),(0,.cells o1 z1 (knm a)),(1,.cells o2 z2 (ss.flatMap spC)),(4,.cells true 1 (inL (aC w h a ss ss.length)))] (nI (kng p ss w h a)) [] (.go 8 (.inv 3 (Nat×List Int) ((0,aQ ss.length)) [(7,6)] [6] (fun x3=>[(31,nI (kn5 x3)),(6,slQ 7 2 (List.length (kn0 p ss w h a x3).1)),(8,slQ 8 1 (List.length (kn0 p ss w h a x3).2)),(2,.slice none 0 0),(3,nI 0),(4,.pointer (some ⟨5,0,none⟩)),(7,nI (kng p ss w h a)),(30,nI ((ss.length:Nat):Int))]) (fun x3=>[(6,false,.dead)]) (fun x3=>[(true,.cells true 1 (x3.2.flatMap ai)),(true,.cells true 1 (((kn0 p ss w h a x3).2).flatMap af))]) (fun x3=>[]) (fun x3=>(x3.1<=List.length ss/\List.take (List.length (kn0 p ss w h a x3).1) x3.2=(kn0 p ss w h a x3).1/\List.length x3.2<=List.length ss)) (fun x3=>(List.length ss-x3.1)) (fun x3 => .go 0 (.fork (.go 3 (.ans [(7,.cells true 1 (x3.2.flatMap ai))] (slQ 10 1 (List.length (kn0 p ss w h a x3).1)) [.cells true 1 (List.flatMap ai (kn0 p ss w h a x3).1)] (.go 0 (.mn [(10,.cells true 1 (List.flatMap ai (kn0 p ss w h a x3).1)),(5,.cells true 0 kni),(9,.cells true 0 [nI (kn5 x3)]),(3,.cells true 0 (kn3 w h a p ss)),(0,.cells o1 z1 (knm a)),(1,.cells o2 z2 (ss.flatMap spC)),(4,.cells true 1 (inL (aC w h a ss ss.length)))] (slQ 10 2 (kne p ss w h a x3).length) [(10,.cells true 1 ((kn9 p ss w h a x3).flatMap ai))] [] (.go 2 (.ans [(7,.cells true 1 (x3.2.flatMap ai))] (.bool (List.any (kn0 p ss w h a x3).1 (fun v=>v == (kn5 x3)))) [] (.go 0 (.aT (.go 1 (.ans [(3,.cells true 0 (kn3 w h a p ss)),(10,.cells true 1 ((kn9 p ss w h a x3).flatMap ai)),(0,.cells o1 z1 (knm a)),(1,.cells o2 z2 (ss.flatMap spC)),(4,.cells true 1 (inL (aC w h a ss ss.length)))] (nI (kn1 p ss w h a x3)) [] (.go 4 (.fork (.go 4 (.need (.go 1 (.slot 57 (nI ((kn5 x3)+1)) (.go 0 (.again [(7,10),(8,12)])))))) (.go 1 (knd x3 p ss w h a)))))) (.go 5 (knd x3 p ss w h a)))))))))) (.go 2 (.again [(2,8)]))))))))))))
 (ca ((aW [.cells o1 z1 (knm a),.cells o2 z2 (ss.flatMap spC)]):HT).n 3 (.tuple #[slQ 2 1 (gV (kn4 p ss w h a) (kyI ss) ss.length).length,nI 0]) [(true,.cells true 1 ((gV (kn4 p ss w h a) (kyI ss) ss.length).flatMap af))])=ye o1 o2 z1 z2 w h a p ss:=by kernel_rfl
theorem A2(q:Int->Bool)(M:List Int):aN q M M.length=M.filter q:=by unfold aN;rw[List.take_length]
theorem KF{agr:Int->Int->Bool}{k:Int->Int}{n i:Nat}(h1:(trS agr k n i).1.any (fun v=>v == (i:Int))=true)(h2:mst agr k ((trS agr k n i).1.filter fun v=>agr i v)=mst agr k (aQ n)):trS agr k n (i+1)=((trS agr k n i).1.filter (fun v=>agr i v),(trS agr k n i).2 ++ [true]):=by
 show (if _ then _ else _)=_;rw[if_pos ⟨h1,h2⟩]
theorem KG{agr:Int->Int->Bool}{k:Int->Int}{n i:Nat}(h:¬ ((trS agr k n i).1.any (fun v=>v == (i:Int))=true/\mst agr k ((trS agr k n i).1.filter fun v=>agr i v)=mst agr k (aQ n))):trS agr k n (i+1)=((trS agr k n i).1.filter (fun v => !(v == (i:Int))),(trS agr k n i).2 ++ [false]):=by
 show (if _ then _ else _)=_;rw[if_neg h]
theorem yS(i:Int)(L:List Int):L.filter (qNe i)=L.filter fun v => !(v == i):=List.filter_congr fun v _=>by
 unfold qNe
 congr 1
theorem pv(q:Int->Bool)(M:List Int)(k:Nat):aN q M k=(M.take k).filter q:=rfl
theorem FY(ha:a.length<=100000)(hs:ss.length<=19)(h0:0<ss.length)(e0:aB w h a p ss=0):ye o1 o2 z1 z2 w h a p ss:=by
 have t:=gW e0
 have rk:dZ a ss (aC w h a ss ss.length):=jR t
 have aO:fD (agI p ss (aC w h a ss ss.length)) (kyI ss) (aQ ss.length):=Br t
 have hn:=qH ss.length
 have hp0:=Fh (agr:=agI p ss (aC w h a ss ss.length)) (k:=kyI ss) (n:=ss.length)
 delta ye knm kn3 knb kn8 kni knk kn4 kng knl kn0 kn5 knj kne kn9 kn1 kn6 knn knc kn2 knf kna kn7 knh kno
 generalize hA:agI p ss (aC w h a ss ss.length)=A at *
 refine ⟨⟨rfl,rfl,trivial⟩,fun H' hl' g =>?_,⟨rfl,rfl,rfl,rfl,trivial⟩,fun H' hl' g =>?_,⟨rfl,rfl,rfl,rfl,rfl,trivial⟩,fun H' hl' g =>?_,rfl,⟨Nat.zero_le _,?_,Nat.le_of_eq hn⟩,?_,fun _=>rfl,fun v hv =>?_⟩
 ·have key:=j7 ha (by omega) e0 (i:=0) (j:=1) (by decide) g.1 g.2.1
  rw[hl']at key;exact key
 ·have key:=IL (by omega) (p:=p) (i:=0) (j:=1) (r:=3) (q:=4) (rr:=aC w h a ss ss.length) (H:=H') ⟨by decide,g.2.1,g.2.2.1,g.1,g.2.2.2.1⟩
  rw[hl',<- hn]at key
  rw[<- hn]
  exact key
 ·have key:=Dh t rk (M:=aQ ss.length) (k:=(aQ ss.length).length) (by omega) (Nat.le_refl _) (by omega) (by omega) (by rw[List.take_length];exact fun v hv=>bI.1 hv) (by rw[List.take_length];exact fS _) (i:=0) (j:=1) (r:=3) (q:=4) (l:=6) ⟨by decide,g.2.2.1,g.2.2.2.1,g.1,g.2.2.2.2.1⟩ g.2.1 (by decide)
  rw[List.take_length,hA]at key
  exact key.wkA ⟨aa _,dU,trivial⟩
 ·show List.take (aQ ss.length).length (aQ ss.length)=aQ ss.length
  exact List.take_length
 ·repeat' first|exact am _ _|exact az _ _|exact aa _|exact dU|exact ah _ _ _ (.inl rfl)|exact rfl|exact aa _|exact ac|exact ah _ _ _ (.inl rfl)|apply And.intro
 ·obtain ⟨x,B⟩:=v
  obtain ⟨hx,hB,hBm⟩:=hv
  dsimp only at hx hB hBm ⊢
  have I:=trI aO x hx
  have hsub:=I.sub
  have hin:InS ss.length (trS A (kyI ss) ss.length x).1:=fun v hv=>bI.1 (hsub.subset hv)
  have hnd:(trS A (kyI ss) ss.length x).1.Nodup:=hsub.nodup (fS _)
  have hle:=hsub.length_le
  have hT2:=I.len
  have hpos:0<(trS A (kyI ss) ss.length x).1.length:=by
   have h1:=w8 (aO.sub fun v hv=>hsub.subset hv)
   rw[I.mo]at h1
   have:=hp0.2 h0
   omega
  have hBl:(trS A (kyI ss) ss.length x).1.length<=B.length:=by
   have:=congrArg List.length hB
   rw[List.length_take]at this
   omega
  have s1:=KF (agr:=A) (k:=kyI ss) (n:=ss.length) (i:=x)
  have s0:=KG (agr:=A) (k:=kyI ss) (n:=ss.length) (i:=x)
  have hend:ss.length<=x->(trS A (kyI ss) ss.length x).2=gV A (kyI ss) ss.length:=fun q=>by
   obtain rfl:x=ss.length:=by omega
   rfl
  generalize (trS A (kyI ss) ss.length x).1=T at *
  generalize (trS A (kyI ss) ss.length x).2=O at *
  clear I
  refine ⟨fun c =>?_,fun c =>?_⟩
  ·have hx1:x<ss.length:=by have:=av c;omega
   refine ⟨⟨rfl,trivial⟩,fun H' hl' g =>?_,⟨rfl,rfl,rfl,rfl,rfl,rfl,rfl,trivial⟩,fun H' hl' g =>?_,⟨rfl,trivial⟩,fun H' hl' g =>?_,fun d =>?_,fun d =>?_⟩
   ·have key:=zL B T.length hpos hBl (by omega) hl' g.1
    rw[hB]at key;exact key
   ·have key:=K6 (M:=T) (k:=T.length) (i:=(x:Int)) (Nat.le_refl _) (by omega) t rk ⟨by omega,by omega⟩ (fun y hy=>hin.at hy) (D:=10) (b:=5) (c:=9) (r:=3) (j:=0) (l:=1) (q:=4) g.1 (by decide) ⟨_,_,g.2.1⟩ ⟨_,_,g.2.2.1⟩ ⟨_,_,g.2.2.2.1⟩ ⟨_,_,g.2.2.2.2.1⟩ ⟨_,_,g.2.2.2.2.2.1⟩ ⟨_,_,g.2.2.2.2.2.2.1⟩
    rw[hA]at key
    exact key.wkA ⟨dU,aa _,trivial⟩
   ·have key:=K7 (M:=B) (k:=T.length) (i:=(x:Int)) hBl (by omega) g.1
    rw[hB]at key
    exact key.wkA ⟨Bw hpos,aa _,trivial⟩
   ·have hxT:(x:Int)∈T:=qG.1 d
    have hke:=A2 (A (x:Int)) T
    have hk0:0<(aN (A (x:Int)) T T.length).length:=by
     rw[hke]
     exact List.length_pos_of_mem (List.mem_filter.2 ⟨hxT,aO.rfl _ (hsub.subset hxT)⟩)
    have hkl:=iX (A (x:Int)) T T.length
    have hdl:=qt (q:=A (x:Int)) (Nat.le_refl T.length)
    refine ⟨⟨rfl,rfl,rfl,rfl,rfl,trivial⟩,fun H' hl' g =>?_,fun e =>?_,fun e =>?_⟩
    ·have key:=Dh t rk (M:=fA (A (x:Int)) T T.length) (k:=(aN (A (x:Int)) T T.length).length) hk0 (by omega) (by omega) (by omega) (by rw[gT,hke];exact fun v hv=>hin v (List.mem_filter.1 hv).1) (by rw[gT,hke];exact hnd.filter _) (i:=0) (j:=1) (r:=3) (q:=4) (l:=10) ⟨by decide,g.2.2.1,g.2.2.2.1,g.1,g.2.2.2.2.1⟩ g.2.1 (by decide)
     rw[gT,hA]at key
     exact key
    ·have hst:trS A (kyI ss) ss.length (x+1)=(T.filter (A (x:Int)),O ++ [true]):=s1 d (by have:=eq_of_beq e;rw[hke]at this;exact this)
     rw[e]
     refine ⟨⟨by omega,by decide,⟨Nat.le_refl _,kF bU _⟩,⟨by decide,by decide⟩,rfl⟩,rfl,aG (by omega),(x+1,fA (A (x:Int)) T T.length),⟨hx1,?_,by dsimp only;omega⟩,by dsimp only;omega,?_⟩
     ·dsimp only
      rw[hst,<- hke];exact gT
     ·dsimp only
      rw[hst,<- hke]
      repeat' first|exact dd rfl|exact de bU rfl rfl|exact am _ _|exact az _ _|exact aa _|exact rfl|exact aa _|exact ac|exact ah _ _ _ (.inl rfl)|apply And.intro
    ·have hst:trS A (kyI ss) ss.length (x+1)=(T.filter (qNe (x:Int)),O ++ [false]):=by
      rw[yS]
      exact s0 fun q=>by
       have:¬ mst A (kyI ss) (aN (A (x:Int)) T T.length)=mst A (kyI ss) (aQ ss.length):=beq_eq_false_iff_ne.1 e
       rw[hke]at this
       exact this q.2
     have hkq:aN (qNe (x:Int)) B T.length=T.filter (qNe (x:Int)):=by rw[pv,hB]
     have MG:=qt (q:=qNe (x:Int)) hBl
     rw[e]
     refine ⟨⟨rfl,rfl,trivial⟩,fun H' hl' g=>Hl hBl (by omega) g.1 (by decide) ⟨_,_,g.2.1⟩,⟨by omega,by decide,⟨Nat.le_refl _,kF bU _⟩,⟨by decide,by decide⟩,rfl⟩,rfl,aG (by omega),(x+1,fA (qNe (x:Int)) B T.length),⟨hx1,?_,by dsimp only;omega⟩,by dsimp only;omega,?_⟩
     ·dsimp only
      rw[hst,<- hkq];exact gT
     ·dsimp only
      rw[hst,<- hkq]
      repeat' first|exact dd rfl|exact de bU rfl rfl|exact am _ _|exact az _ _|exact aa _|exact rfl|exact aa _|exact ac|exact ah _ _ _ (.inl rfl)|apply And.intro
   ·have hst:trS A (kyI ss) ss.length (x+1)=(T.filter (qNe (x:Int)),O ++ [false]):=by
     rw[yS]
     exact s0 fun q=>by rw[d]at q;cases q.1
    have hkq:aN (qNe (x:Int)) B T.length=T.filter (qNe (x:Int)):=by rw[pv,hB]
    have MG:=qt (q:=qNe (x:Int)) hBl
    refine ⟨⟨rfl,rfl,trivial⟩,fun H' hl' g=>Hl hBl (by omega) g.1 (by decide) ⟨_,_,g.2.1⟩,⟨by omega,by decide,⟨Nat.le_refl _,kF bU _⟩,⟨by decide,by decide⟩,rfl⟩,rfl,aG (by omega),(x+1,fA (qNe (x:Int)) B T.length),⟨hx1,?_,by dsimp only;omega⟩,by dsimp only;omega,?_⟩
    ·dsimp only
     rw[hst,<- hkq];exact gT
    ·dsimp only
     rw[hst,<- hkq]
     repeat' first|exact dd rfl|exact de bU rfl rfl|exact am _ _|exact az _ _|exact aa _|exact rfl|exact aa _|exact ac|exact ah _ _ _ (.inl rfl)|apply And.intro
  ·have hx1:ss.length<=x:=by have:=aA c;omega
   rw[hend hx1]
   repeat' first|exact am _ _|exact az _ _|exact aa _|exact rfl|exact aa _|exact ac|exact ah _ _ _ (.inl rfl)|apply And.intro
theorem Iv(ha:a.length<=100000)(hs:ss.length<=19)(h0:0<ss.length)(e0:aB w h a p ss=0){i j:Nat}(hne:i≠j)(hi:H[i]?=some (.cells o1 z1 (a.flatMap af)))(hj:H[j]?=some (.cells o2 z2 (ss.flatMap spC))) :
  ad prog 24 [db w h a p ss i j] H [] (Is (.tuple #[slQ H.length 1 (gV (agI p ss (aH w h a ss)) (kyI ss) ss.length).length,.int .i64 0]) (H ++ [.cells true 1 ((gV (agI p ss (aH w h a ss)) (kyI ss) ss.length).flatMap af)])) :=
 bR (fun j => .tuple #[slQ j 1 (gV (agI p ss (aH w h a ss)) (kyI ss) ss.length).length,.int .i64 0]) (new:=[.cells true 1 ((gV (agI p ss (aH w h a ss)) (kyI ss) ss.length).flatMap af)]) (Eq.mpr (JY o1 o2 z1 z2 w h a p ss) (FY ha hs h0 e0)) (cz ..) rfl ⟨⟨_,_,rfl,az _ _⟩,trivial⟩ (by simpa using hne) (bC hi hj) (fun j=>rfl) rfl
abbrev krb(a:List Bool):=List.flatMap af a
abbrev krn(o1:Bool)(z1:Nat)(a:List Bool):ab:=.cells o1 z1 (krb a)
abbrev krf(ss:List (Int×Int)):=List.flatMap spC ss
abbrev krp(o2:Bool)(z2:Nat)(ss:List (Int×Int)):ab:=.cells o2 z2 (krf ss)
abbrev kr9(ss:List (Int×Int)):=List.length ss
abbrev krd(w h:Int)(a:List Bool)(p:Int)(ss:List (Int×Int)):List Value:=[.agg #[.int .i64 w,.int .i64 h,.slice (some ⟨0,0,some 2⟩) (List.length a) (List.length a),.int .i64 p,.slice (some ⟨1,0,some 2⟩) (kr9 ss) (kr9 ss)]]
abbrev krr:Value:=.tuple #[.pointer (some ⟨3,0,none⟩),.int .i64 0]
abbrev kr3(w h:Int)(a:List Bool)(ss:List (Int×Int)):=aC w h a ss (kr9 ss)
abbrev kr1(w h:Int)(a:List Bool)(p:Int)(ss:List (Int×Int)):List Value:=[.int .i64 w,.int .i64 h,.slice (some ⟨0,0,some 2⟩) (List.length a) (List.length a),.int .i64 p,.slice (some ⟨1,0,some 2⟩) (kr9 ss) (kr9 ss),.slice (some ⟨4,0,some 1⟩) (List.length (kr3 w h a ss)) (List.length (kr3 w h a ss))]
abbrev krv(w h:Int)(a:List Bool)(p:Int)(ss:List (Int×Int)):ab:=.cells true 0 (kr1 w h a p ss)
abbrev kr8(o1:Bool)(z1:Nat)(a:List Bool)(o2:Bool)(z2:Nat)(ss:List (Int×Int))(w h:Int):Prop:=(some (krn o1 z1 a)=some (krn o1 z1 a))/\(some (krp o2 z2 ss)=some (krp o2 z2 ss))/\(some (.cells true 1 (inL (kr3 w h a ss)):ab)=some (.cells true 1 (inL (kr3 w h a ss)):ab))/\True
abbrev kro(ss:List (Int×Int)):=List.length (aQ (kr9 ss))
abbrev krj(ss:List (Int×Int)):ab:=.cells true 1 (List.flatMap ai (aQ (kr9 ss)))
abbrev krl(p:Int)(ss:List (Int×Int))(w h:Int)(a:List Bool):=agI p ss (kr3 w h a ss)
abbrev kr0(p:Int)(ss:List (Int×Int))(w h:Int)(a:List Bool):=hE (krl p ss w h a) (isr (kyI ss) (aQ (kr9 ss)) (kro ss)) (List.length (isr (kyI ss) (aQ (kr9 ss)) (kro ss)))
abbrev krt:Value:=.int .i64 0
abbrev kra(ss:List (Int×Int)):Prop:=(.slice none 0 0:Value) = .slice none 0 0/\krt = .int .i64 0/\krt = .int .i64 0/\(.map (some 6):Value) = .map (some 6)/\(.int .i64 (((kr9 ss):Nat):Int):Value) = .int .i64 (((kr9 ss):Nat):Int)/\True
abbrev krq(x3:Nat):Int:=(x3:Nat)
abbrev krh(x3:Nat)(p:Int)(ss:List (Int×Int))(w h:Int)(a:List Bool):=cS (krq x3) 0 (kr0 p ss w h a)
abbrev kr7(p:Int)(ss:List (Int×Int))(w h:Int)(a:List Bool)(x3:Nat):=jq (krl p ss w h a) (kyI ss) (kr9 ss) x3
abbrev krg(p:Int)(ss:List (Int×Int))(w h:Int)(a:List Bool):=jq (krl p ss w h a) (kyI ss) (kr9 ss) (kr9 ss)
def qN(o1 o2:Bool)(z1 z2:Nat)(w h:Int)(a:List Bool)(p:Int)(ss:List (Int×Int)):Prop :=
 (((some (krn o1 z1 a)=some (krn o1 z1 a))/\(some (krp o2 z2 ss)=some (krp o2 z2 ss))/\True)/\(∀H':Heap,H'.length=3->(H'[0]?=some (krn o1 z1 a)/\H'[1]?=some (krp o2 z2 ss)/\True)->ad prog 72 (krd w h a p ss) H' [] (Is krr (H' ++ [(krv w h a p ss),(.cells true 1 (inL (kr3 w h a ss)):ab)])))/\((some (krv w h a p ss)=some (krv w h a p ss))/\kr8 o1 z1 a o2 z2 ss w h)/\(∀H':Heap,H'.length=5->(H'[3]?=some (krv w h a p ss)/\H'[0]?=some (krn o1 z1 a)/\H'[1]?=some (krp o2 z2 ss)/\H'[4]?=some (.cells true 1 (inL (kr3 w h a ss)):ab)/\True)->ad prog 77 [.pointer (some ⟨3,0,none⟩)] H' [] (Is (.slice (some ⟨5,0,some 1⟩) (kro ss) (kro ss)) (H' ++ [(krj ss)])))/\((some (krv w h a p ss)=some (krv w h a p ss))/\(some (krj ss)=some (krj ss))/\kr8 o1 z1 a o2 z2 ss w h)/\(∀H':Heap,H'.length=6->(H'[3]?=some (krv w h a p ss)/\H'[5]?=some (krj ss)/\H'[0]?=some (krn o1 z1 a)/\H'[1]?=some (krp o2 z2 ss)/\H'[4]?=some (.cells true 1 (inL (kr3 w h a ss)):ab)/\True)->ad prog 106 [.pointer (some ⟨3,0,none⟩),.slice (some ⟨5,0,some 1⟩) (kro ss) (kro ss)] H' [] (Is (.map (some 6)) (H' ++ [(.map (bD (kr0 p ss w h a)):ab)])))/\(true=true/\(0<=List.length ss)/\(true=true/\(krt = .int .i64 ((0:Nat):Int)/\wk (.slice none 0 0:Value) (.slice (some ⟨0,0,some 1⟩) (List.length (jq (krl p ss w h a) (kyI ss) (kr9 ss) 0)) (List.length (jq (krl p ss w h a) (kyI ss) (kr9 ss) 0)):Value)/\krt = .int .i64 (nV (krl p ss w h a) (kyI ss) (kr9 ss) 0)/\kra ss)/\(True)/\(True/\True)/\True)/\(∀x3:Nat,true=true)/\∀x3:Nat,(x3<=List.length ss)->(((decide (((krq x3):Int)<(((kr9 ss):Nat):Int)))=true->((dR prog 3 (.int .i64 0) (.int .i64 (krq x3)) false (bD (kr0 p ss w h a))=some (.int .i64 (krh x3 p ss w h a)))/\(.int .i64 (IntKind.wrap .i64 ((krh x3 p ss w h a)-1)):Value) = .int .i64 ((krh x3 p ss w h a)-1)/\(((List.length (kr7 p ss w h a x3))+1)*8<=2 ^ 44/\1≠0/\((List.length (kr7 p ss w h a x3))<=(List.length (kr7 p ss w h a x3))/\0+(List.length (kr7 p ss w h a x3))*1<=List.length (List.flatMap ai (kr7 p ss w h a x3)))/\(1<=1/\0+1*1<=List.length ([.int .i64 ((krh x3 p ss w h a)-1)]:List Value))/\((List.take (1*1) (List.drop 0 ([.int .i64 ((krh x3 p ss w h a)-1)]:List Value))):List Value).all (fun v=>cO v)=true)/\true=true/\((dR prog 3 (.int .i64 0) (.int .i64 (krq x3)) false (bD (kr0 p ss w h a))=some (.int .i64 (krh x3 p ss w h a)))/\∃y4:Int,(.int .i64 (if ((krh x3 p ss w h a):Int) > (nV (krl p ss w h a) (kyI ss) (kr9 ss) x3) then ((krh x3 p ss w h a):Int) else (nV (krl p ss w h a) (kyI ss) (kr9 ss) x3)):Value) = .int .i64 y4/\((.int .i64 (IntKind.wrap .i64 ((krq x3)+1)):Value) = .int .i64 ((krq x3)+1)/\∃x3':Nat,(x3'<=List.length ss)/\(List.length ss-x3')<(List.length ss-x3)/\true=true/\((.int .i64 ((krq x3)+1):Value) = .int .i64 ((x3':Nat):Int)/\wk (.slice (some ⟨9,0,none⟩) ((List.length (kr7 p ss w h a x3))+1) ((List.length (kr7 p ss w h a x3))+1):Value) (.slice (some ⟨9,0,some 1⟩) (List.length (jq (krl p ss w h a) (kyI ss) (kr9 ss) x3')) (List.length (jq (krl p ss w h a) (kyI ss) (kr9 ss) x3')):Value)/\(.int .i64 y4:Value) = .int .i64 (nV (krl p ss w h a) (kyI ss) (kr9 ss) x3')/\kra ss)/\(True)/\((some (.cells true 1 ((List.take ((List.length (kr7 p ss w h a x3))*1) (List.drop 0 (List.flatMap ai (kr7 p ss w h a x3))))++(List.take (1*1) (List.drop 0 ([.int .i64 ((krh x3 p ss w h a)-1)]:List Value)))):ab)=some (.cells true 1 (List.flatMap ai (jq (krl p ss w h a) (kyI ss) (kr9 ss) x3')):ab)/\aj 7 (.cells true 1 (List.flatMap ai (jq (krl p ss w h a) (kyI ss) (kr9 ss) x3')):ab)=true)/\True)/\True))))/\((decide (((krq x3):Int)<(((kr9 ss):Nat):Int)))=false->(true=true/\wk (.tuple #[.slice (some ⟨7,0,some 1⟩) (List.length (kr7 p ss w h a x3)) (List.length (kr7 p ss w h a x3)),.int .i64 (nV (krl p ss w h a) (kyI ss) (kr9 ss) x3),.int .i64 0]:Value) (rn (sg 2 [(2,7)]) 3 (.tuple #[.slice (some ⟨2,0,some 1⟩) (List.length (krg p ss w h a)) (List.length (krg p ss w h a)),.int .i64 (mst (krl p ss w h a) (kyI ss) (aQ (kr9 ss))),.int .i64 0]:Value))/\(some (.cells true 1 (List.flatMap ai (kr7 p ss w h a x3)):ab)=some (.cells true 1 (List.flatMap ai (krg p ss w h a)):ab)/\aj 2 (.cells true 1 (List.flatMap ai (krg p ss w h a)):ab)=true)/\True)))))
theorem EG(o1 o2:Bool)(z1 z2:Nat)(w h:Int)(a:List Bool)(p:Int)(ss:List (Int×Int)):vF prog msk (dm 0) 100000 true 40 true 38 (krd w h a p ss) (aW [.cells o1 z1 (krb a),.cells o2 z2 (krf ss)]) (some [])
 (.go 4 (.ans [(0,.cells o1 z1 (krb a)),(1,.cells o2 z2 (krf ss))] krr [.cells true 0 (kr1 w h a p ss),.cells true 1 (inL (kr3 w h a ss))] (.go 9 (.ans [(3,.cells true 0 (kr1 w h a p ss)),(0,.cells o1 z1 (krb a)),(1,.cells o2 z2 (krf ss)),(4,.cells true 1 (inL (kr3 w h a ss)))] (.slice (some ⟨5,0,some 1⟩) (kro ss) (kro ss)) [.cells true 1 (List.flatMap ai (aQ (kr9 ss)))] (.ans [(3,.cells true 0 (kr1 w h a p ss)),(5,.cells true 1 (List.flatMap ai (aQ (kr9 ss)))),(0,.cells o1 z1 (krb a)),(1,.cells o2 z2 (krf ss)),(4,.cells true 1 (inL (kr3 w h a ss)))] (.map (some 6)) [.map (bD (kr0 p ss w h a))] (.go 9 (.inv 3 (Nat) (0) [] [] (fun x3=>[(29,.int .i64 (krq x3)),(8,.slice (some ⟨7,0,some 1⟩) (List.length (kr7 p ss w h a x3)) (List.length (kr7 p ss w h a x3))),(9,.int .i64 (nV (krl p ss w h a) (kyI ss) (kr9 ss) x3)),(2,.slice none 0 0),(3,.int .i64 0),(4,.int .i64 0),(7,.map (some 6)),(28,.int .i64 (((kr9 ss):Nat):Int))]) (fun x3=>[]) (fun x3=>[(true,.cells true 1 (List.flatMap ai (kr7 p ss w h a x3)))]) (fun x3=>[]) (fun x3=>(x3<=List.length ss)) (fun x3=>(List.length ss-x3)) (fun x3 => .go 0 (.fork (.go 4 (.val (.int .i64 (krh x3 p ss w h a)) (.go 0 (.slot 36 (.int .i64 ((krh x3 p ss w h a)-1)) (.go 0 (.need (.go 3 (.val (.int .i64 (krh x3 p ss w h a)) (.go 0 (.bind Int (fun y4 => .slot 43 (.int .i64 y4) (.go 1 (.slot 44 (.int .i64 ((krq x3)+1)) (.go 0 (.again [(7,9)]))))))))))))))) (.go 4 (.again [(2,7)])))))))))))
 (ca ((aW [.cells o1 z1 (krb a),.cells o2 z2 (krf ss)]):HT).n 3 (.tuple #[.slice (some ⟨2,0,some 1⟩) (List.length (krg p ss w h a)) (List.length (krg p ss w h a)),.int .i64 (mst (krl p ss w h a) (kyI ss) (aQ (kr9 ss))),.int .i64 0]) [(true,.cells true 1 (List.flatMap ai (krg p ss w h a)))])=qN o1 o2 z1 z2 w h a p ss:=by kernel_rfl
abbrev krs:Value:=.tuple #[.pointer (some ⟨4,0,none⟩),.int .i64 0]
abbrev kr4(w h:Int)(a:List Bool)(p:Int)(ss:List (Int×Int)):List Value:=[.int .i64 w,.int .i64 h,.slice (some ⟨0,0,some 2⟩) (List.length a) (List.length a),.int .i64 p,.slice (some ⟨1,0,some 2⟩) (kr9 ss) (kr9 ss),.slice (some ⟨5,0,some 1⟩) (List.length (kr3 w h a ss)) (List.length (kr3 w h a ss))]
abbrev kru(c:List Int):=List.length c
abbrev kri(c:List Int):Int:=((kru c):Nat)
abbrev kr5(c:List Int)(ss:List (Int×Int))(k p w h:Int)(a:List Bool):=rn (sg 3 []) 3 (.tuple #[.bool (decide (List.length c=List.length ss/\0<=k)&&fP (krl p ss w h a) c k (kr9 ss)),.int .i64 (if List.length c=List.length ss/\0<=k then 0 else 1)]:Value)
abbrev kr6(k:Int)(c:List Int):Prop:=(.int .i64 k:Value) = .int .i64 k/\wk (.slice (some ⟨2,0,some 2⟩) (kru c) (kru c):Value) (.slice (some ⟨2,0,some 2⟩) (kru c) (kru c):Value)/\(.pointer (some ⟨4,0,none⟩):Value) = .pointer (some ⟨4,0,none⟩)/\wk (.slice (some ⟨2,0,some 2⟩) (kru c) (kru c):Value) (.slice (some ⟨2,0,some 2⟩) (kru c) (kru c):Value)/\(.int .i64 (kri c):Value) = .int .i64 (kri c)/\True
abbrev krw:Prop:=(True)/\(True)/\(True)
abbrev krc(x1:Nat):Int:=(x1:Nat)
abbrev krm:Value:=.tuple #[.bool false,.int .i64 0]
abbrev kr2(c:List Int)(k:Int)(x1:Nat):Prop:=(.int .i64 (kri c):Value) = .int .i64 (kri c)/\wk (.slice (some ⟨2,0,some 2⟩) (kru c) (kru c):Value) (.slice (some ⟨2,0,some 2⟩) (kru c) (kru c):Value)/\(.pointer (some ⟨4,0,none⟩):Value) = .pointer (some ⟨4,0,none⟩)/\wk (.slice (some ⟨2,0,some 2⟩) (kru c) (kru c):Value) (.slice (some ⟨2,0,some 2⟩) (kru c) (kru c):Value)/\(.int .i64 k:Value) = .int .i64 k/\(.int .i64 (krc x1):Value) = .int .i64 (krc x1)/\(.int .i64 (krc x1):Value) = .int .i64 (krc x1)/\(.int .i64 (List.getD c x1 0):Value) = .int .i64 (List.getD c x1 0)/\wk (.slice (some ⟨2,0,some 2⟩) x1 x1:Value) (.slice (some ⟨2,0,some 2⟩) x1 x1:Value)/\(.int .i64 (krc x1):Value) = .int .i64 (krc x1)/\True
abbrev krk(x2:Nat):Int:=(x2:Nat)
abbrev kre(x2 x1:Nat)(p:Int)(ss:List (Int×Int))(w h:Int)(a:List Bool)(c:List Int)(k:Int):Prop:=(.int .i64 (IntKind.wrap .i64 ((krk x2)+1)):Value) = .int .i64 ((krk x2)+1)/\(∃x2':Nat,(x2'<=x1/\iG (krl p ss w h a) c x1 x2'=true)/\(x1-x2')<(x1-x2)/\true=true/\((.int .i64 ((krk x2)+1):Value) = .int .i64 ((x2':Nat):Int)/\kr2 c k x1)/\krw)
def uA(o1 o2:Bool)(z1 z2:Nat)(o3:Bool)(z3:Nat)(w h:Int)(a:List Bool)(p:Int)(ss:List (Int×Int))(c:List Int)(k:Int):Prop :=
 (((some (krn o1 z1 a)=some (krn o1 z1 a))/\(some (krp o2 z2 ss)=some (krp o2 z2 ss))/\True)/\(∀H':Heap,H'.length=4->(H'[0]?=some (krn o1 z1 a)/\H'[1]?=some (krp o2 z2 ss)/\True)->ad prog 72 (krd w h a p ss) H' [] (Is krs (H' ++ [(.cells true 0 (kr4 w h a p ss):ab),(.cells true 1 (inL (kr3 w h a ss)):ab)])))/\((((kri c):Int) != (((kr9 ss):Nat):Int))=true->(true=true/\wk (.tuple #[.bool false,.int .i64 1]:Value) (kr5 c ss k p w h a)/\True))/\((((kri c):Int) != (((kr9 ss):Nat):Int))=false->(((decide ((k:Int)<0))=true->(true=true/\wk (.tuple #[.bool false,.int .i64 1]:Value) (kr5 c ss k p w h a)/\True))/\((decide ((k:Int)<0))=false->(true=true/\(0<=List.length c/\fP (krl p ss w h a) c k 0=true)/\(true=true/\(krt = .int .i64 ((0:Nat):Int)/\kr6 k c)/\krw)/\(∀x1:Nat,true=true)/\∀x1:Nat,(x1<=List.length c/\fP (krl p ss w h a) c k x1=true)->(((decide (((krc x1):Int)<(kri c)))=true->(((0:Int)<=(krc x1)/\((krc x1):Int)<(kri c))/\((List.flatMap ai c)[(0+Int.toNat (krc x1)*1)]?=some (.int .i64 (List.getD c x1 0)))/\(.int .i64 (IntKind.wrap .i64 (k-1)):Value) = .int .i64 (k-1)/\((decide ((0:Int)<=(List.getD c x1 0)))=true->(((!(decide (((List.getD c x1 0):Int)<=(k-1))))=true->(true=true/\wk krm (kr5 c ss k p w h a)/\True))/\((!(decide (((List.getD c x1 0):Int)<=(k-1))))=false->((((o3=false∨z3=0∨z3=1)/\(Int.toNat (krc x1))<=(kru c))/\((0:Int)<=(krc x1)/\((krc x1):Int)<=(kri c))/\0<=(Int.toNat (krc x1)))/\(.slice (some ⟨2,0,some 2⟩) ((Int.toNat (krc x1))-0) ((Int.toNat (krc x1))-0):Value) = .slice (some ⟨2,0,some 2⟩) x1 x1/\(true=true/\(0<=x1/\iG (krl p ss w h a) c x1 0=true)/\(true=true/\(krt = .int .i64 ((0:Nat):Int)/\kr2 c k x1)/\krw)/\(∀x2:Nat,true=true)/\∀x2:Nat,(x2<=x1/\iG (krl p ss w h a) c x1 x2=true)->(((decide (((krk x2):Int)<(krc x1)))=true->(((0:Int)<=(krk x2)/\((krk x2):Int)<(krc x1))/\((List.flatMap ai c)[(0+Int.toNat (krk x2)*1)]?=some (.int .i64 (List.getD c x2 0)))/\((((List.getD c x1 0):Int) == (List.getD c x2 0))=true->(((some (.cells true 0 (kr4 w h a p ss):ab)=some (.cells true 0 (kr4 w h a p ss):ab))/\kr8 o1 z1 a o2 z2 ss w h)/\(∀H':Heap,H'.length=6->(H'[4]?=some (.cells true 0 (kr4 w h a p ss):ab)/\H'[0]?=some (krn o1 z1 a)/\H'[1]?=some (krp o2 z2 ss)/\H'[5]?=some (.cells true 1 (inL (kr3 w h a ss)):ab)/\True)->ad prog 87 [.pointer (some ⟨4,0,none⟩),.int .i64 (krk x2),.int .i64 (krc x1)] H' [] (Is (.bool (agI p ss (kr3 w h a ss) (krk x2) (krc x1))) H'))/\((agI p ss (kr3 w h a ss) (krk x2) (krc x1))=true->(true=true/\wk krm (kr5 c ss k p w h a)/\True))/\((agI p ss (kr3 w h a ss) (krk x2) (krc x1))=false->(kre x2 x1 p ss w h a c k))))/\((((List.getD c x1 0):Int) == (List.getD c x2 0))=false->(kre x2 x1 p ss w h a c k))))/\((decide (((krk x2):Int)<(krc x1)))=false->((.int .i64 (IntKind.wrap .i64 ((krc x1)+1)):Value) = .int .i64 ((krc x1)+1)/\∃x1':Nat,(x1'<=List.length c/\fP (krl p ss w h a) c k x1'=true)/\(List.length c-x1')<(List.length c-x1)/\true=true/\((.int .i64 ((krc x1)+1):Value) = .int .i64 ((x1':Nat):Int)/\kr6 k c)/\krw))))))))/\((decide ((0:Int)<=(List.getD c x1 0)))=false->(true=true/\wk krm (kr5 c ss k p w h a)/\True))))/\((decide (((krc x1):Int)<(kri c)))=false->(true=true/\wk (.tuple #[.bool true,.int .i64 0]:Value) (kr5 c ss k p w h a)/\True))))))))
theorem GP(o1 o2:Bool)(z1 z2:Nat)(o3:Bool)(z3:Nat)(w h:Int)(a:List Bool)(p:Int)(ss:List (Int×Int))(c:List Int)(k:Int):vF prog msk (dm 0) 100000 true 40 true 39 [.agg #[.int .i64 w,.int .i64 h,.slice (some ⟨0,0,some 2⟩) (List.length a) (List.length a),.int .i64 p,.slice (some ⟨1,0,some 2⟩) (kr9 ss) (kr9 ss)],.slice (some ⟨2,0,some 2⟩) (kru c) (kru c),.int .i64 k] (aW [.cells o1 z1 (krb a),.cells o2 z2 (krf ss),.cells o3 z3 (List.flatMap ai c)]) (some [])
 (.go 3 (.ans [(0,.cells o1 z1 (krb a)),(1,.cells o2 z2 (krf ss))] krs [.cells true 0 (kr4 w h a p ss),.cells true 1 (inL (kr3 w h a ss))] (.go 17 (.aT (.go 3 (.again [])) (.go 2 (.fork (.go 1 (.again [])) (.go 2 (.inv 3 (Nat) (0) [] [] (fun x1=>[(37,.int .i64 (krc x1)),(2,.int .i64 k),(1,.slice (some ⟨2,0,some 2⟩) (kru c) (kru c)),(8,.pointer (some ⟨4,0,none⟩)),(35,.slice (some ⟨2,0,some 2⟩) (kru c) (kru c)),(36,.int .i64 (kri c))]) (fun x1=>[]) (fun x1=>[]) (fun x1=>[]) (fun x1=>(x1<=List.length c/\fP (krl p ss w h a) c k x1=true)) (fun x1=>(List.length c-x1)) (fun x1 => .go 0 (.fork (.go 0 (.need (.val (.int .i64 (List.getD c x1 0)) (.go 4 (.slot 44 (.int .i64 (k-1)) (.go 5 (.aT (.go 5 (.fork (.go 1 (.again [])) (.go 1 (.need (.slot 49 (.slice (some ⟨2,0,some 2⟩) x1 x1) (.go 1 (.inv 3 (Nat) (0) [] [] (fun x2=>[(51,.int .i64 (krk x2)),(36,.int .i64 (kri c)),(35,.slice (some ⟨2,0,some 2⟩) (kru c) (kru c)),(8,.pointer (some ⟨4,0,none⟩)),(1,.slice (some ⟨2,0,some 2⟩) (kru c) (kru c)),(2,.int .i64 k),(37,.int .i64 (krc x1)),(10,.int .i64 (krc x1)),(11,.int .i64 (List.getD c x1 0)),(49,.slice (some ⟨2,0,some 2⟩) x1 x1),(50,.int .i64 (krc x1))]) (fun x2=>[]) (fun x2=>[]) (fun x2=>[]) (fun x2=>(x2<=x1/\iG (krl p ss w h a) c x1 x2=true)) (fun x2=>(x1-x2)) (fun x2 => .go 0 (.fork (.go 0 (.need (.val (.int .i64 (List.getD c x2 0)) (.go 5 (.aT (.go 2 (.ans [(4,.cells true 0 (kr4 w h a p ss)),(0,.cells o1 z1 (krb a)),(1,.cells o2 z2 (krf ss)),(5,.cells true 1 (inL (kr3 w h a ss)))] (.bool (agI p ss (kr3 w h a ss) (krk x2) (krc x1))) [] (.go 0 (.fork (.go 1 (.again [])) (.go 0 (.slot 65 (.int .i64 ((krk x2)+1)) (.go 0 (.again [])))))))) (.go 2 (.slot 65 (.int .i64 ((krk x2)+1)) (.go 0 (.again []))))))))) (.go 0 (.slot 66 (.int .i64 ((krc x1)+1)) (.go 0 (.again []))))))))))))) (.go 5 (.again []))))))))) (.go 1 (.again []))))))))))))
 (ca ((aW [.cells o1 z1 (krb a),.cells o2 z2 (krf ss),.cells o3 z3 (List.flatMap ai c)]):HT).n 3 (.tuple #[.bool (decide (List.length c=List.length ss/\0<=k)&&fP (krl p ss w h a) c k (kr9 ss)),.int .i64 (if List.length c=List.length ss/\0<=k then 0 else 1)]) [])=uA o1 o2 z1 z2 o3 z3 w h a p ss c k:=by kernel_rfl
def uq(o1 o2:Bool)(z1 z2:Nat)(w h:Int)(a:List Bool)(p:Int):Prop :=
 (((some (.cells o1 z1 (List.flatMap af a):ab)=some (.cells o1 z1 (List.flatMap af a):ab))/\(some (.cells o2 z2 []:ab)=some (.cells o2 z2 []:ab))/\True)/\(∀H':Heap,H'.length=3->(H'[0]?=some (.cells o1 z1 (List.flatMap af a):ab)/\H'[1]?=some (.cells o2 z2 []:ab)/\True)->ad prog 72 [.agg #[.int .i64 w,.int .i64 h,.slice (some ⟨0,0,some 2⟩) (List.length a) (List.length a),.int .i64 p,.slice (some ⟨1,0,some 2⟩) 0 0]] H' [] (Is (.tuple #[.pointer (some ⟨3,0,none⟩),.int .i64 0]) (H' ++ [(.cells true 0 [.int .i64 w,.int .i64 h,.slice (some ⟨0,0,some 2⟩) (List.length a) (List.length a),.int .i64 p,.slice (some ⟨1,0,some 2⟩) 0 0,.slice (some ⟨4,0,some 1⟩) 0 0]:ab),(.cells true 1 (inL ([])):ab)])))/\(true=true/\(iE (List.length ([]:List (Int×Int))) ([]:List Nat))/\(true=true/\((.int .i64 0:Value) = .int .i64 (maxS [] ([]:List Nat))/\(.int .i64 0:Value) = .int .i64 0/\(.pointer (some ⟨8,0,none⟩):Value) = .pointer (some ⟨8,0,none⟩)/\True)/\((some (.iter 7 (List.length (bD [])) []:ab)=some (.iter 7 (List.length (bD [])) ([]:List Nat):ab)/\aj 9 (.iter 7 (List.length (bD [])) ([]:List Nat):ab)=true)/\True)/\(True)/\True)/\(∀x1:List Nat,true=true)/\∀x1:List Nat,(iE (List.length ([]:List (Int×Int))) x1)->((List.length (bD [])=(List.length (bD [])))/\(∀x2:Nat,x2<(List.length (bD []))->x2 ∉ x1->((List.length (bD [])=(List.length (bD [])))/\(gx (bD []) (x1 ++ [x2])=some (.tuple #[.int .i64 (List.getD [] x2 (0,0)).1,.int .i64 (List.getD [] x2 (0,0)).2]))/\∃x1':List Nat,(iE (List.length ([]:List (Int×Int))) x1')/\(List.length ([]:List (Int×Int))-List.length x1')<(List.length ([]:List (Int×Int))-List.length x1)/\true=true/\((.int .i64 (if ((List.getD [] x2 (0,0)).2:Int) > (maxS [] x1) then ((List.getD [] x2 (0,0)).2:Int) else (maxS [] x1)):Value) = .int .i64 (maxS [] x1')/\(.int .i64 0:Value) = .int .i64 0/\(.pointer (some ⟨8,0,none⟩):Value) = .pointer (some ⟨8,0,none⟩)/\True)/\((some (.iter 7 (List.length (bD [])) (x1 ++ [x2]):ab)=some (.iter 7 (List.length (bD [])) x1':ab)/\aj 9 (.iter 7 (List.length (bD [])) x1':ab)=true)/\True)/\(True)/\True))/\((∀x2:Nat,x2<(List.length (bD []))->x2∈x1)->(true=true/\wk (.tuple #[.slice none 0 0,.int .i64 0]:Value) (rn (sg 2 []) 3 (.tuple #[.slice (some ⟨2,0,some 1⟩) 0 0,.int .i64 0]:Value))/\True/\True)))))
theorem GD(o1 o2:Bool)(z1 z2:Nat)(w h:Int)(a:List Bool)(p:Int):vF prog msk (dm 0) 100000 true 40 true 24 [.agg #[.int .i64 w,.int .i64 h,.slice (some ⟨0,0,some 2⟩) (List.length a) (List.length a),.int .i64 p,.slice (some ⟨1,0,some 2⟩) 0 0]] (aW [.cells o1 z1 (List.flatMap af a),.cells o2 z2 []]) (some [])
 (.go 3 (.ans [(0,.cells o1 z1 (List.flatMap af a)),(1,.cells o2 z2 [])] (.tuple #[.pointer (some ⟨3,0,none⟩),.int .i64 0]) [.cells true 0 [.int .i64 w,.int .i64 h,.slice (some ⟨0,0,some 2⟩) (List.length a) (List.length a),.int .i64 p,.slice (some ⟨1,0,some 2⟩) 0 0,.slice (some ⟨4,0,some 1⟩) 0 0],.cells true 1 (inL ([]))] (.go 44 (.into (some [6]) (.go 3 (.into (some [6]) (.go 11 (.into (some [6]) (.go 20 (.inv 3 (List Nat) (([]:List Nat)) [] [8] (fun x1=>[(5,.int .i64 (maxS [] x1)),(4,.int .i64 0),(11,.pointer (some ⟨8,0,none⟩))]) (fun x1=>[(8,true,.iter 7 (List.length (bD [])) x1)]) (fun x1=>[]) (fun x1=>[]) (fun x1=>(iE (List.length ([]:List (Int×Int))) x1)) (fun x1=>(List.length ([]:List (Int×Int))-List.length x1)) (fun x1 => .nxt (fun x2 => .go 1 (.val (.tuple #[.int .i64 (List.getD [] x2 (0,0)).1,.int .i64 (List.getD [] x2 (0,0)).2]) (.go 5 (.again [])))) (.go 17 (.again [])))))))))))))
 (ca ((aW [.cells o1 z1 (List.flatMap af a),.cells o2 z2 []]):HT).n 3 (.tuple #[.slice (some ⟨2,0,some 1⟩) 0 0,.int .i64 0]) [(true,.cells true 1 (List.flatMap af ([])))])=uq o1 o2 z1 z2 w h a p:=by kernel_rfl
def uD(o1 o2:Bool)(z1 z2:Nat)(w h:Int)(a:List Bool)(p:Int):Prop :=
 (((some (.cells o1 z1 (List.flatMap af a):ab)=some (.cells o1 z1 (List.flatMap af a):ab))/\(some (.cells o2 z2 []:ab)=some (.cells o2 z2 []:ab))/\True)/\(∀H':Heap,H'.length=3->(H'[0]?=some (.cells o1 z1 (List.flatMap af a):ab)/\H'[1]?=some (.cells o2 z2 []:ab)/\True)->ad prog 72 [.agg #[.int .i64 w,.int .i64 h,.slice (some ⟨0,0,some 2⟩) (List.length a) (List.length a),.int .i64 p,.slice (some ⟨1,0,some 2⟩) 0 0]] H' [] (Is (.tuple #[.pointer (some ⟨3,0,none⟩),.int .i64 0]) (H' ++ [(.cells true 0 [.int .i64 w,.int .i64 h,.slice (some ⟨0,0,some 2⟩) (List.length a) (List.length a),.int .i64 p,.slice (some ⟨1,0,some 2⟩) 0 0,.slice (some ⟨4,0,some 1⟩) 0 0]:ab),(.cells true 1 (inL ([])):ab)])))/\true=true/\wk (.tuple #[.slice none 0 0,.int .i64 0,.int .i64 0]:Value) (rn (sg 2 []) 3 (.tuple #[.slice (some ⟨2,0,some 1⟩) 0 0,.int .i64 0,.int .i64 0]:Value))/\True/\True)
theorem GR(o1 o2:Bool)(z1 z2:Nat)(w h:Int)(a:List Bool)(p:Int):vF prog msk (dm 0) 100000 true 40 true 38 [.agg #[.int .i64 w,.int .i64 h,.slice (some ⟨0,0,some 2⟩) (List.length a) (List.length a),.int .i64 p,.slice (some ⟨1,0,some 2⟩) 0 0]] (aW [.cells o1 z1 (List.flatMap af a),.cells o2 z2 []]) (some [])
 (.go 4 (.ans [(0,.cells o1 z1 (List.flatMap af a)),(1,.cells o2 z2 [])] (.tuple #[.pointer (some ⟨3,0,none⟩),.int .i64 0]) [.cells true 0 [.int .i64 w,.int .i64 h,.slice (some ⟨0,0,some 2⟩) (List.length a) (List.length a),.int .i64 p,.slice (some ⟨1,0,some 2⟩) 0 0,.slice (some ⟨4,0,some 1⟩) 0 0],.cells true 1 (inL ([]))] (.go 36 (.into (some [5]) (.go 3 (.into (some [5]) (.go 11 (.into (some [5]) (.go 36 (.again []))))))))))
 (ca ((aW [.cells o1 z1 (List.flatMap af a),.cells o2 z2 []]):HT).n 3 (.tuple #[.slice (some ⟨2,0,some 1⟩) 0 0,.int .i64 0,.int .i64 0]) [(true,.cells true 1 (List.flatMap ai ([])))])=uD o1 o2 z1 z2 w h a p:=by kernel_rfl
theorem rT(ha:a.length<=100000)(e0:aB w h a p []=0){L:Nat}(hL:H.length=L)(hi:H[0]?=some (.cells o1 z1 (a.flatMap af)))(hj:H[1]?=some (.cells o2 z2 [])) :
  ad prog 72 [db w h a p [] 0 1] H [] (Is (.tuple #[.pointer (some ⟨L,0,none⟩),.int .i64 0]) (H ++ [.cells true 0 (iF w h a p [] [] 0 1 (L+1)),.cells true 1 (inL [])])):=by
 have key:=j7 (ss:=[]) ha (by decide) e0 (i:=0) (j:=1) (by decide) hi hj
 rw[hL]at key;exact key
theorem Dm(ha:a.length<=100000)(e0:aB w h a p []=0):uq o1 o2 z1 z2 w h a p:=by
 unfold uq
 refine ⟨⟨rfl,rfl,trivial⟩,fun H' hl' g=>rT ha e0 hl' g.1 g.2.1,rfl,yQ _,?_,fun _=>rfl,fun x hx=>⟨rfl,fun i hi hn=>absurd hi (Nat.not_lt_zero i),fun hall =>?_⟩⟩
 ·repeat' first|exact rfl|exact aa _|exact ac|exact ah _ _ _ (.inl rfl)|refine ap ?_|apply And.intro
 ·repeat' first|exact ah _ _ _ (.inl rfl)|exact rfl|exact aa _|exact ac|exact ah _ _ _ (.inl rfl)|refine ap ?_|apply And.intro
theorem FJ(ha:a.length<=100000)(e0:aB w h a p []=0){i j:Nat}(hne:i≠j)(hi:H[i]?=some (.cells o1 z1 (a.flatMap af)))(hj:H[j]?=some (.cells o2 z2 [])) :
  ad prog 24 [db w h a p [] i j] H [] (Is (.tuple #[slQ H.length 1 0,.int .i64 0]) (H ++ [.cells true 1 []])) :=
 bR (fun j => .tuple #[slQ j 1 0,.int .i64 0]) (new:=[.cells true 1 (([]:List Bool).flatMap af)]) (Eq.mpr (GD o1 o2 z1 z2 w h a p) (Dm ha e0)) (cz o1 o2 z1 z2 a []) rfl ⟨⟨_,_,rfl,rfl⟩,trivial⟩ (by simpa using hne) (bC (ss:=[]) hi hj) (fun j=>rfl) rfl
theorem Dv(ha:a.length<=100000)(e0:aB w h a p []=0):uD o1 o2 z1 z2 w h a p:=by
 unfold uD
 refine ⟨⟨rfl,rfl,trivial⟩,fun H' hl' g=>rT ha e0 hl' g.1 g.2.1,?_⟩
 repeat' first|exact ah _ _ _ (.inl rfl)|exact rfl|exact aa _|exact ac|exact ah _ _ _ (.inl rfl)|refine ap ?_|apply And.intro
theorem FN(ha:a.length<=100000)(e0:aB w h a p []=0){i j:Nat}(hne:i≠j)(hi:H[i]?=some (.cells o1 z1 (a.flatMap af)))(hj:H[j]?=some (.cells o2 z2 [])) :
  ad prog 38 [db w h a p [] i j] H [] (Is (.tuple #[slQ H.length 1 0,.int .i64 0,.int .i64 0]) (H ++ [.cells true 1 []])) :=
 bR (fun j => .tuple #[slQ j 1 0,.int .i64 0,.int .i64 0]) (new:=[.cells true 1 (([]:List Int).flatMap ai)]) (Eq.mpr (GR o1 o2 z1 z2 w h a p) (Dv ha e0)) (cz o1 o2 z1 z2 a []) rfl ⟨⟨_,_,rfl,rfl⟩,trivial⟩ (by simpa using hne) (bC (ss:=[]) hi hj) (fun j=>rfl) rfl
theorem FI(ha:a.length<=100000)(hs:ss.length<=19)(e0:aB w h a p ss=0){i j:Nat}(hne:i≠j)(hi:H[i]?=some (.cells o1 z1 (a.flatMap af)))(hj:H[j]?=some (.cells o2 z2 (ss.flatMap spC))) :
  ad prog 24 [db w h a p ss i j] H [] (Is (.tuple #[slQ H.length 1 (gV (agI p ss (aH w h a ss)) (kyI ss) ss.length).length,.int .i64 0]) (H ++ [.cells true 1 ((gV (agI p ss (aH w h a ss)) (kyI ss) ss.length).flatMap af)])):=by
 by_cases h0:0<ss.length
 ·exact Iv ha hs h0 e0 hne hi hj
 ·obtain rfl:ss=[]:=List.length_eq_zero_iff.1 (by omega)
  exact FJ ha e0 hne hi hj
theorem JI(agr:Int->Int->Bool)(k:Int->Int)(n x:Nat):nV agr k n (x+1)=mxI (nV agr k n x) (hgo agr k (aQ n) (x:Int)):=by
 unfold nV;rw[gQ,List.foldl_append];rfl
theorem DS(agr:Int->Int->Bool)(k:Int->Int)(n x:Nat):jq agr k n (x+1)=jq agr k n x ++ [hgo agr k (aQ n) (x:Int)-1]:=gQ ..
theorem Bc(ha:a.length<=100000)(hs:ss.length<=19)(h0:0<ss.length)(e0:aB w h a p ss=0):qN o1 o2 z1 z2 w h a p ss:=by
 have t:=gW e0
 have rk:dZ a ss (aC w h a ss ss.length):=jR t
 have aO:fD (agI p ss (aC w h a ss ss.length)) (kyI ss) (aQ ss.length):=Br t
 have hn:=qH ss.length
 delta qN krb krn krf krp kr9 krd krr kr3 kr1 krv kr8 kro krj krl kr0 krt kra krq krh kr7 krg
 refine ⟨⟨rfl,rfl,trivial⟩,fun H' hl' g =>?_,⟨rfl,rfl,rfl,rfl,trivial⟩,fun H' hl' g =>?_,⟨rfl,rfl,rfl,rfl,rfl,trivial⟩,fun H' hl' g =>?_,rfl,Nat.zero_le _,?_,fun _=>rfl,fun x hx=>⟨fun c =>?_,fun c =>?_⟩⟩
 ·have key:=j7 ha (by omega) e0 (i:=0) (j:=1) (by decide) g.1 g.2.1
  rw[hl']at key;exact key
 ·have key:=IL (by omega) (p:=p) (i:=0) (j:=1) (r:=3) (q:=4) (rr:=aC w h a ss ss.length) (H:=H') ⟨by decide,g.2.1,g.2.2.1,g.1,g.2.2.2.1⟩
  rw[hl']at key
  exact key
 ·have key:=Hj t rk (M:=aQ ss.length) (k:=(aQ ss.length).length) (by omega) (Nat.le_refl _) (by omega) (by omega) (by rw[List.take_length];exact fun v hv=>bI.1 hv) (by rw[List.take_length];exact fS _) (i:=0) (j:=1) (r:=3) (q:=4) (l:=5) ⟨by decide,g.2.2.1,g.2.2.2.1,g.1,g.2.2.2.2.1⟩ g.2.1 (by decide)
  rw[List.take_length,hl']at key
  exact key.wkA ⟨aa _,dU,trivial⟩
 ·repeat' first|exact am _ _|exact aa _|exact ah _ _ _ (.inl rfl)|exact rfl|exact aa _|exact ac|exact ah _ _ _ (.inl rfl)|refine ap ?_|apply And.intro
 ·have hx1:x<ss.length:=by have:=av c;omega
  have hm:(x:Int)∈aQ ss.length:=bI.2 (by omega)
  have hg:=Jv (agr:=agI p ss (aC w h a ss ss.length)) (k:=kyI ss) (fS ss.length) hm
  have hb:=p7 (agr:=agI p ss (aC w h a ss ss.length)) (k:=kyI ss) hm
  have hml:=w8 aO
  have hcl:=qv (agI p ss (aC w h a ss ss.length)) (kyI ss) ss.length x
  rw[hg]
  refine ⟨by rw[<- hg];exact ze _ _,aG (by omega),⟨by omega,by decide,⟨Nat.le_refl _,kF bg _⟩,⟨by decide,Nat.le_refl 1⟩,rfl⟩,rfl,by rw[<- hg];exact ze _ _,mxI (nV (agI p ss (aC w h a ss ss.length)) (kyI ss) ss.length x) (hgo (agI p ss (aC w h a ss ss.length)) (kyI ss) (aQ ss.length) (x:Int)),rfl,aG (by omega),x+1,by omega,by omega,?_⟩
  rw[<- JI]
  repeat' first|exact dd (DS ..)|exact de bg (DS ..) rfl|exact am _ _|exact aa _|exact rfl|exact aa _|exact ac|exact ah _ _ _ (.inl rfl)|refine ap ?_|apply And.intro
 ·obtain rfl:x=ss.length:=by have:=aA c;omega
  rw[DT aO]
  repeat' first|exact am _ _|exact aa _|exact rfl|exact aa _|exact ac|exact ah _ _ _ (.inl rfl)|refine ap ?_|apply And.intro
theorem Dj(ha:a.length<=100000)(hs:ss.length<=19)(e0:aB w h a p ss=0){i j:Nat}(hne:i≠j)(hi:H[i]?=some (.cells o1 z1 (a.flatMap af)))(hj:H[j]?=some (.cells o2 z2 (ss.flatMap spC))) :
  ad prog 38 [db w h a p ss i j] H [] (Is (.tuple #[slQ H.length 1 (jq (agI p ss (aH w h a ss)) (kyI ss) ss.length ss.length).length,.int .i64 (mst (agI p ss (aH w h a ss)) (kyI ss) (aQ ss.length)),.int .i64 0]) (H ++ [.cells true 1 ((jq (agI p ss (aH w h a ss)) (kyI ss) ss.length ss.length).flatMap ai)])):=by
 by_cases h0:0<ss.length
 ·exact bR (fun j => .tuple #[slQ j 1 (jq (agI p ss (aH w h a ss)) (kyI ss) ss.length ss.length).length,.int .i64 (mst (agI p ss (aH w h a ss)) (kyI ss) (aQ ss.length)),.int .i64 0]) (new:=[.cells true 1 ((jq (agI p ss (aH w h a ss)) (kyI ss) ss.length ss.length).flatMap ai)]) (Eq.mpr (EG o1 o2 z1 z2 w h a p ss) (Bc ha hs h0 e0)) (cz ..) rfl ⟨⟨_,_,rfl,am _ _⟩,trivial⟩ (by simpa using hne) (bC hi hj) (fun j=>rfl) rfl
 ·obtain rfl:ss=[]:=List.length_eq_zero_iff.1 (by omega)
  exact FN ha e0 hne hi hj
theorem B8(agr:Int->Int->Bool)(c:List Int)(k:Int)(x:Nat):fP agr c k (x+1)=(fP agr c k x&&nT agr c k x):=by
 unfold fP;rw[List.range_succ,List.all_append,List.all_cons,List.all_nil,Bool.and_true]
theorem kp{agr:Int->Int->Bool}{c:List Int}{k:Int}{x n:Nat}(h:x<n)(q:nT agr c k x=false):fP agr c k n=false:=by
 unfold fP
 rw[List.all_eq_false]
 exact ⟨x,List.mem_range.2 h,by rw[q];decide⟩
theorem Ca(agr:Int->Int->Bool)(c:List Int)(x y:Nat):iG agr c x (y+1)=(iG agr c x y && !(decide (c.getD x 0=c.getD y 0)&&agr (y:Int) (x:Int))):=by
 unfold iG;rw[List.range_succ,List.all_append,List.all_cons,List.all_nil,Bool.and_true]
theorem E7{agr:Int->Int->Bool}{c:List Int}{x y n:Nat}(h:y<n)(e:c.getD x 0=c.getD y 0)(q:agr (y:Int) (x:Int)=true):iG agr c x n=false:=by
 unfold iG
 rw[List.all_eq_false]
 exact ⟨y,List.mem_range.2 h,by rw[decide_eq_true e,q];decide⟩
theorem Du{o3:Bool}{z3:Nat}{c:List Int}{k:Int}(ha:a.length<=100000)(hs:ss.length<=20)(hc:c.length<=1000)(hz:o3=false∨z3=0∨z3=1)(hk : -9223372036854775808<=k/\k<=9223372036854775807)(e0:aB w h a p ss=0):uA o1 o2 z1 z2 o3 z3 w h a p ss c k:=by
 have t:=gW e0
 have rk:dZ a ss (aC w h a ss ss.length):=jR t
 have bad:¬ (c.length=ss.length/\0<=k)->(Value.tuple #[.bool false,.int .i64 1]=Value.tuple #[.bool (decide (c.length=ss.length/\0<=k)&&fP (agI p ss (aC w h a ss ss.length)) c k ss.length),.int .i64 (if c.length=ss.length/\0<=k then 0 else 1)]):=fun q=>by rw[decide_eq_false q,if_neg q];rfl
 delta uA krb krn krf krp kr9 krd krs kr3 kr4 kru kri krl kr5 krt kr6 krw krc krm kr2 krk kr8 kre
 refine ⟨⟨rfl,rfl,trivial⟩,fun H' hl' g =>?_,fun e =>?_,fun e =>?_⟩
 ·have key:=j7 ha (by omega) e0 (i:=0) (j:=1) (by decide) g.1 g.2.1
  rw[hl']at key;exact key
 ·refine ⟨rfl,bl (bad fun q =>?_),trivial⟩
  have:=bne_iff_ne.1 e
  omega
 ·have hcl:c.length=ss.length:=by
   by_cases q:((c.length:Nat):Int)=((ss.length:Nat):Int)
   ·omega
   ·rw[bne_iff_ne.2 q]at e;cases e
  refine ⟨fun f =>?_,fun f =>?_⟩
  ·refine ⟨rfl,bl (bad fun q =>?_),trivial⟩
   have:=av f
   omega
  ·have hk0:0<=k:=by have:=aA f;omega
   have good:∀b,fP (agI p ss (aC w h a ss ss.length)) c k ss.length=b->(Value.tuple #[.bool b,.int .i64 0]=Value.tuple #[.bool (decide (c.length=ss.length/\0<=k)&&fP (agI p ss (aC w h a ss ss.length)) c k ss.length),.int .i64 (if c.length=ss.length/\0<=k then 0 else 1)]):=fun b q=>by rw[decide_eq_true ⟨hcl,hk0⟩,if_pos ⟨hcl,hk0⟩,q];rfl
   refine ⟨rfl,⟨Nat.zero_le _,rfl⟩,?_,fun _=>rfl,fun x hx=>⟨fun d =>?_,fun d =>?_⟩⟩
   ·repeat' first|exact am _ _|exact aa _|exact rfl|exact aa _|exact ac|exact ah _ _ _ (.inl rfl)|refine ap ?_|apply And.intro
   ·have hx1:x<c.length:=by have:=av d;omega
    refine ⟨⟨by omega,by omega⟩,cL hx1 (by omega),aG (by omega),fun u=>⟨fun v =>?_,fun v=>⟨⟨⟨hz,by omega⟩,⟨by omega,by omega⟩,by omega⟩,?_,rfl,⟨Nat.zero_le _,rfl⟩,?_,fun _=>rfl,fun y hy=>⟨fun r =>?_,fun r =>?_⟩⟩⟩,fun u =>?_⟩
    ·refine ⟨rfl,bl (good false (kp (x:=x) (by omega) ?_)),trivial⟩
     unfold nT
     have:=aA (ff v)
     rw[decide_eq_false this];simp
    ·rw[Nat.sub_zero,Int.toNat_natCast]
    ·repeat' first|exact am _ _|exact aa _|exact rfl|exact aa _|exact ac|exact ah _ _ _ (.inl rfl)|refine ap ?_|apply And.intro
    ·have hy1:y<x:=by have:=av r;omega
     refine ⟨⟨by omega,by omega⟩,cL (by omega) (by omega),fun q=>⟨⟨rfl,rfl,rfl,rfl,trivial⟩,fun H' _ g=>FO t rk (by omega) (by omega) ⟨_,_,g.1⟩ ⟨_,_,g.2.1⟩ ⟨_,_,g.2.2.1⟩ ⟨_,_,g.2.2.2.1⟩,fun b =>?_,fun b =>?_⟩,fun q =>?_⟩
     ·refine ⟨rfl,bl (good false (kp (x:=x) (by omega) ?_)),trivial⟩
      unfold nT
      rw[E7 hy1 (eq_of_beq q) b];simp
     ·refine ⟨aG (by omega),y+1,⟨by omega,?_⟩,by omega,?_⟩
      ·rw[Ca,hy.2,b];simp
      ·repeat' first|exact am _ _|exact aa _|exact rfl|exact aa _|exact ac|exact ah _ _ _ (.inl rfl)|refine ap ?_|apply And.intro
     ·refine ⟨aG (by omega),y+1,⟨by omega,?_⟩,by omega,?_⟩
      ·rw[Ca,hy.2,decide_eq_false (beq_eq_false_iff_ne.1 q)];simp
      ·repeat' first|exact am _ _|exact aa _|exact rfl|exact aa _|exact ac|exact ah _ _ _ (.inl rfl)|refine ap ?_|apply And.intro
    ·obtain rfl:y=x:=by have:=aA r;omega
     refine ⟨aG (by omega),y+1,⟨by omega,?_⟩,by omega,?_⟩
     ·rw[B8,hx.2]
      unfold nT
      rw[u,bK v,hy.2];rfl
     ·repeat' first|exact am _ _|exact aa _|exact rfl|exact aa _|exact ac|exact ah _ _ _ (.inl rfl)|refine ap ?_|apply And.intro
    ·refine ⟨rfl,bl (good false (kp (x:=x) (by omega) ?_)),trivial⟩
     unfold nT
     rw[u];simp
   ·obtain rfl:x=c.length:=by have:=aA d;omega
    exact ⟨rfl,bl (good true (by have:=hx.2;rwa [show fP (agI p ss (aC w h a ss ss.length)) c k c.length=fP (agI p ss (aC w h a ss ss.length)) c k ss.length from congrArg _ hcl]at this)),trivial⟩
theorem th(o1 o2 o3:Bool)(z1 z2 z3:Nat)(a:List Bool)(ss:List (Int×Int))(c:List Int):[ab.cells o1 z1 (a.flatMap af),.cells o2 z2 (ss.flatMap spC),.cells o3 z3 (c.flatMap ai)].all (aZ 3)=true:=by
 show (aZ 3 (.cells o1 z1 (a.flatMap af))&&(aZ 3 (.cells o2 z2 (ss.flatMap spC))&&(aZ 3 (.cells o3 z3 (c.flatMap ai))&&true)))=true
 rw[fB,jv,xI];rfl
theorem FK{c:List Int}{k:Int}(ha:a.length<=100000)(hs:ss.length<=20)(hc:c.length<=1000)(hk : -9223372036854775808<=k/\k<=9223372036854775807)(e0:aB w h a p ss=0){i j l:Nat}(hnd:[i,j,l].Nodup){o1 o2 o3:Bool}{z1 z2 z3:Nat}(hz:o3=false∨z3=0∨z3=1)(hi:H[i]?=some (.cells o1 z1 (a.flatMap af)))(hj:H[j]?=some (.cells o2 z2 (ss.flatMap spC)))(hl:H[l]?=some (.cells o3 z3 (c.flatMap ai))) :
  ad prog 39 [db w h a p ss i j,slQ l 2 c.length,.int .i64 k] H [] (Is (.tuple #[.bool (decide (c.length=ss.length/\0<=k)&&fP (agI p ss (aH w h a ss)) c k ss.length),.int .i64 (if c.length=ss.length/\0<=k then 0 else 1)]) H):=by
 have key:=bR (fun _ => .tuple #[.bool (decide (c.length=ss.length/\0<=k)&&fP (agI p ss (aH w h a ss)) c k ss.length),.int .i64 (if c.length=ss.length/\0<=k then 0 else 1)]) (new:=[]) (Eq.mpr (GP o1 o2 z1 z2 o3 z3 w h a p ss c k) (Du ha hs hc hz hk e0)) (th ..) rfl trivial hnd (H:=H) ⟨by rw[dB];exact hi,by rw[gz];exact hj,by rw[mP];exact hl,trivial⟩ (fun j=>rfl) (args':=[db w h a p ss i j,slQ l 2 c.length,.int .i64 k]) rfl
 rwa [List.append_nil]at key
abbrev kv0(w h:Int)(a:List Bool)(p:Int)(ss:List (Int×Int)):List Value:=[nI w,nI h,slQ 0 2 a.length,nI p,slQ 1 2 ss.length,slQ 4 1 (aC w h a ss ss.length).length]
abbrev kv1(p:Int)(ss:List (Int×Int))(w h:Int)(a:List Bool):=a8 p ss (aC w h a ss ss.length) ss.length
def yt(o1 o2:Bool)(z1 z2:Nat)(w h:Int)(a:List Bool)(p:Int)(ss:List (Int×Int)):Prop :=
 (((ar (.cells o1 z1 (a.flatMap af)))/\(ar (.cells o2 z2 (ss.flatMap spC)))/\True)/\(∀H':Heap,H'.length=3->(H'[0]?=some (.cells o1 z1 (a.flatMap af):ab)/\H'[1]?=some (.cells o2 z2 (ss.flatMap spC):ab)/\True)->ad prog 72 [.agg #[nI w,nI h,slQ 0 2 a.length,nI p,slQ 1 2 ss.length]] H' [] (Is (.tuple #[.pointer (some ⟨3,0,none⟩),nI 0]) (H' ++ [(.cells true 0 (kv0 w h a p ss):ab),(.cells true 1 (inL (aC w h a ss ss.length)):ab)])))/\((ar (.cells true 0 (kv0 w h a p ss)))/\(ar (.cells o1 z1 (a.flatMap af)))/\(ar (.cells o2 z2 (ss.flatMap spC)))/\(ar (.cells true 1 (inL (aC w h a ss ss.length))))/\True)/\(∀H':Heap,H'.length=5->(H'[3]?=some (.cells true 0 (kv0 w h a p ss):ab)/\H'[0]?=some (.cells o1 z1 (a.flatMap af):ab)/\H'[1]?=some (.cells o2 z2 (ss.flatMap spC):ab)/\H'[4]?=some (.cells true 1 (inL (aC w h a ss ss.length)):ab)/\True)->ad prog 74 [.pointer (some ⟨3,0,none⟩)] H' [] (Is (slQ 5 1 (kv1 p ss w h a).length) (H' ++ [(.cells true 2 ((kv1 p ss w h a).flatMap spC):ab)])))/\true=true/\wk (.tuple #[slQ 5 1 (kv1 p ss w h a).length,nI 0]:Value) (rn (sg 2 [(2,5)]) 3 (.tuple #[slQ 2 1 (kv1 p ss w h a).length,nI 0]:Value))/\(nk 2 (.cells true 2 ((kv1 p ss w h a).flatMap spC)))/\True)
theorem Kj(o1 o2:Bool)(z1 z2:Nat)(w h:Int)(a:List Bool)(p:Int)(ss:List (Int×Int)):vF prog msk (dm 0) 100000 true 40 true 23 [.agg #[nI w,nI h,slQ 0 2 a.length,nI p,slQ 1 2 ss.length]] (aW [.cells o1 z1 (a.flatMap af),.cells o2 z2 (ss.flatMap spC)]) (some [])
 (.go 3 (.ans [(0,.cells o1 z1 (a.flatMap af)),(1,.cells o2 z2 (ss.flatMap spC))] (.tuple #[.pointer (some ⟨3,0,none⟩),nI 0]) [.cells true 0 (kv0 w h a p ss),.cells true 1 (inL (aC w h a ss ss.length))] (.go 8 (.ans [(3,.cells true 0 (kv0 w h a p ss)),(0,.cells o1 z1 (a.flatMap af)),(1,.cells o2 z2 (ss.flatMap spC)),(4,.cells true 1 (inL (aC w h a ss ss.length)))] (slQ 5 1 (kv1 p ss w h a).length) [.cells true 2 ((kv1 p ss w h a).flatMap spC)] (.go 1 (.again [(2,5)]))))))
 (ca ((aW [.cells o1 z1 (a.flatMap af),.cells o2 z2 (ss.flatMap spC)]):HT).n 3 (.tuple #[slQ 2 1 (kv1 p ss w h a).length,nI 0]) [(true,.cells true 2 ((kv1 p ss w h a).flatMap spC))])=yt o1 o2 z1 z2 w h a p ss:=by kernel_rfl
theorem F6(t:ej w h a p ss)(e0:aB w h a p ss=0):yt o1 o2 z1 z2 w h a p ss:=by
 have hs:=t.few
 have hn:=t.bas.n1
 have hp1:=t.bas.p1
 have rk:=jR t
 delta yt kv0 kv1
 refine ⟨⟨rfl,rfl,trivial⟩,fun H' hH h=>(by have:=j7 (by omega) (by omega) e0 (by decide) h.1 h.2.1;rw[hH]at this;exact this),⟨rfl,rfl,rfl,rfl,trivial⟩,fun H' hH h=>hH ▸ v8 t rk ⟨by decide,h.2.1,h.2.2.1,h.1,h.2.2.2.1⟩,?_⟩
 repeat' first|exact spB _ _|exact trivial|exact rfl|exact aa _|refine aK ?_|refine ak ?_ ?_|exact ac|exact ah _ _ _ (.inl rfl)|(exact iq (by omega))|refine ap ?_|refine b9 ?_|refine tT ?_ ?_ ?_|refine tS ?_ ?_ ?_|refine toMax ?_|refine toMin ?_|refine ⟨rfl,?_⟩|refine ⟨trivial,?_⟩|(refine mi (fun h =>?_) (fun h =>?_))|(refine JA (fun h =>?_) (fun h =>?_))|(refine JB (fun h =>?_) (fun h =>?_))|refine cU ?_|(refine ⟨aG (by omega),?_⟩)|(refine And.intro (by omega) ?_)|apply And.intro|(exact iEq (by omega))|(exact aG (by omega))
theorem IJ(e0:aB w h a p ss=0){i j:Nat}(hne:i≠j)(hi:H[i]?=some (.cells o1 z1 (a.flatMap af)))(hj:H[j]?=some (.cells o2 z2 (ss.flatMap spC))) :
  ad prog 23 [db w h a p ss i j] H [] (Is (.tuple #[.slice (some ⟨H.length,0,some 1⟩) (a8 p ss (aH w h a ss) ss.length).length (a8 p ss (aH w h a ss) ss.length).length,.int .i64 0]) (H ++ [.cells true 2 ((a8 p ss (aH w h a ss) ss.length).flatMap spC)])) :=
 bR (fun j => .tuple #[.slice (some ⟨j,0,some 1⟩) (a8 p ss (aH w h a ss) ss.length).length (a8 p ss (aH w h a ss) ss.length).length,.int .i64 0]) (new:=[.cells true 2 ((a8 p ss (aH w h a ss) ss.length).flatMap spC)]) (Eq.mpr (Kj o1 o2 z1 z2 w h a p ss) (F6 (gW e0) e0)) (cz ..) rfl ⟨⟨_,_,rfl,ct _ _⟩,trivial⟩ (ids:=[i,j]) (by simp[hne]) (bC hi hj) (fun j=>rfl) rfl
theorem iQ(ha:a.length<=100000)(hs:ss.length<=100000)(e:aB w h a p ss≠0){L:Nat}(hL:H.length=L)(hi:H[0]?=some (.cells o1 z1 (a.flatMap af)))(hj:H[1]?=some (.cells o2 z2 (ss.flatMap spC))) :
  ad prog 72 [db w h a p ss 0 1] H [] (Is (.tuple #[.pointer none,.int .i64 (aB w h a p ss)]) H):=IB ha hs e (by decide) hi hj
theorem Bj(e:aB w h a p ss≠0):(.bool ((aB w h a p ss:Int) != 0):Value) = .bool true:=congrArg Value.bool (bne_iff_ne.2 e)
theorem I1(ha:a.length<=100000)(hs:ss.length<=100000)(e:aB w h a p ss≠0):Ek o1 o2 z1 z2 w h a p ss:=by
 delta Ek ck c6 bf df cZ dY dL ib nE cD gG cu
 rw[D0 e]
 refine ⟨⟨rfl,rfl,trivial⟩,fun H' hl' g=>iQ ha hs e hl' g.1 g.2.1,Bj e,rfl,?_,?_⟩
 ·repeat' first|exact ah _ _ _ (.inl rfl)|exact aa _|exact aa _|exact ac|exact ah _ _ _ (.inl rfl)|refine ap ?_|apply And.intro
 ·repeat' first|exact ah _ _ _ (.inl rfl)|exact aa _|exact aa _|exact ac|exact ah _ _ _ (.inl rfl)|refine ap ?_|apply And.intro
theorem IX(ha:a.length<=100000)(hs:ss.length<=100000)(e:aB w h a p ss≠0):Eg o1 o2 z1 z2 w h a p ss:=by
 delta Eg ck c6 bf df cZ dY dL ib nE cD gG cu
 rw[yI e]
 refine ⟨⟨rfl,rfl,trivial⟩,fun H' hl' g=>iQ ha hs e hl' g.1 g.2.1,Bj e,rfl,?_,?_⟩
 ·repeat' first|exact ah _ _ _ (.inl rfl)|exact aa _|exact aa _|exact ac|exact ah _ _ _ (.inl rfl)|refine ap ?_|apply And.intro
 ·repeat' first|exact ah _ _ _ (.inl rfl)|exact aa _|exact aa _|exact ac|exact ah _ _ _ (.inl rfl)|refine ap ?_|apply And.intro
theorem I0(ha:a.length<=100000)(hs:ss.length<=100000)(e:aB w h a p ss≠0):Ej o1 o2 z1 z2 w h a p ss:=by
 delta Ej ck c6 bf df cZ dY dL ib nE cD cu
 rw[Ht e,Hu e]
 refine ⟨⟨rfl,rfl,trivial⟩,fun H' hl' g=>iQ ha hs e hl' g.1 g.2.1,Bj e,rfl,?_,?_⟩
 ·repeat' first|exact ah _ _ _ (.inl rfl)|exact aa _|exact aa _|exact ac|exact ah _ _ _ (.inl rfl)|refine ap ?_|apply And.intro
 ·repeat' first|exact ah _ _ _ (.inl rfl)|exact aa _|exact aa _|exact ac|exact ah _ _ _ (.inl rfl)|refine ap ?_|apply And.intro
theorem IW{m:Int}(ha:a.length<=100000)(hs:ss.length<=100000)(e:aB w h a p ss≠0):Ef o1 o2 z1 z2 w h a p ss m:=by
 delta Ef ck c6 bf df cZ dY dL ib cD gG nJ cu
 rw[ry (by rw[yG e];exact e),yG e]
 refine ⟨⟨rfl,rfl,trivial⟩,fun H' hl' g=>iQ ha hs e hl' g.1 g.2.1,Bj e,rfl,?_,?_⟩
 ·repeat' first|exact ah _ _ _ (.inl rfl)|exact aa _|exact aa _|exact ac|exact ah _ _ _ (.inl rfl)|refine ap ?_|apply And.intro
 ·repeat' first|exact ah _ _ _ (.inl rfl)|exact aa _|exact aa _|exact ac|exact ah _ _ _ (.inl rfl)|refine ap ?_|apply And.intro
theorem IY{c:Int}(ha:a.length<=100000)(hs:ss.length<=100000)(e:aB w h a p ss≠0):Eh o1 o2 z1 z2 w h a p ss c:=by
 delta Eh ck c6 bf df cZ dY dL ib nE cD gG j0 cu
 rw[oB (by rw[yJ e];exact e),yJ e]
 refine ⟨⟨rfl,rfl,trivial⟩,fun H' hl' g=>iQ ha hs e hl' g.1 g.2.1,Bj e,rfl,?_,?_⟩
 ·repeat' first|exact ah _ _ _ (.inl rfl)|exact aa _|exact aa _|exact ac|exact ah _ _ _ (.inl rfl)|refine ap ?_|apply And.intro
 ·repeat' first|exact ah _ _ _ (.inl rfl)|exact aa _|exact aa _|exact ac|exact ah _ _ _ (.inl rfl)|refine ap ?_|apply And.intro
theorem IZ{o3:Bool}{z3:Nat}{c:List Int}{k:Int}(ha:a.length<=100000)(hs:ss.length<=100000)(e:aB w h a p ss≠0):Ei o1 o2 z1 z2 w h a p ss o3 z3 c k:=by
 delta Ei ck c6 bf df cZ dY dL ib cD ld
 have e1:eh w h a p ss c k=aB w h a p ss:=if_neg e
 have e2:ew w h a p ss c k=false:=by unfold ew;rw[e1,decide_eq_false e];rfl
 rw[e1,e2]
 exact ⟨⟨rfl,rfl,trivial⟩,fun H' hl' g=>iQ ha hs e hl' g.1 g.2.1,Bj e,rfl,aa _,trivial⟩
theorem vh(ha:a.length<=100000)(hs:ss.length<=100000)(e:aB w h a p ss=0){L:Nat}(hL:H.length=L)(hi:H[0]?=some (.cells o1 z1 (a.flatMap af)))(hj:H[1]?=some (.cells o2 z2 (ss.flatMap spC))) :
  ad prog 72 [db w h a p ss 0 1] H [] (Is (.tuple #[.pointer (some ⟨L,0,none⟩),.int .i64 0]) (H ++ [.cells true 0 (iF w h a p ss (aH w h a ss) 0 1 (L+1)),.cells true 1 (inL (aH w h a ss))])):=by
 have key:=j7 ha hs e (i:=0) (j:=1) (by decide) hi hj
 rw[hL]at key;exact key
theorem IU{m:Int}(e:aB w h a p ss=0)(q:whE w h a p ss m≠0):Ed o1 o2 z1 z2 w h a p ss m:=by
 have t:=gW e
 have h1:=t.bas.n1
 have h2:=t.bas.p1
 have hs:=t.few
 have rk:=jR t
 delta Ed ck c6 bf df cZ dY dL bo sv nJ cu sk bG gF jZ nA
 rw[ry q]
 refine ⟨⟨rfl,rfl,trivial⟩,fun H' hl' g=>vh (by omega) (by omega) e hl' g.1 g.2.1,fun k1=>⟨fun k2=>⟨rfl,?_,?_⟩,fun k2=>⟨⟨rfl,rfl,rfl,rfl,trivial⟩,fun H' hl' g=>hl' ▸ v8 t rk ⟨by decide,g.2.1,g.2.2.1,g.1,g.2.2.2.1⟩,?_,rfl,?_,?_⟩⟩,fun k1=>⟨rfl,?_,?_⟩⟩
 ·rw[yF e (fun r=>absurd (aA (ff k2)) (by omega))]
  repeat' first|exact ah _ _ _ (.inl rfl)|exact aa _|exact aa _|exact ac|exact ah _ _ _ (.inl rfl)|refine ap ?_|apply And.intro
 ·repeat' first|exact ah _ _ _ (.inl rfl)|exact aa _|exact aa _|exact ac|exact ah _ _ _ (.inl rfl)|refine ap ?_|apply And.intro
 ·by_cases z:(a8 p ss (aC w h a ss ss.length) ss.length).length=0
  ·exact absurd (sP e ⟨av k1,av (bK k2)⟩ z) q
  ·exact congrArg Value.bool (decide_eq_true (by omega))
 ·by_cases z:(a8 p ss (aC w h a ss ss.length) ss.length).length=0
  ·exact absurd (sP e ⟨av k1,av (bK k2)⟩ z) q
  ·rw[GS e ⟨av k1,av (bK k2)⟩ z]
   repeat' first|exact ah _ _ _ (.inl rfl)|exact aa _|exact aa _|exact ac|exact ah _ _ _ (.inl rfl)|refine ap ?_|apply And.intro
 ·repeat' first|exact ah _ _ _ (.inl rfl)|exact aa _|exact aa _|exact ac|exact ah _ _ _ (.inl rfl)|refine ap ?_|apply And.intro
 ·rw[yF e (fun r=>absurd (aA k1) (by omega))]
  repeat' first|exact ah _ _ _ (.inl rfl)|exact aa _|exact aa _|exact ac|exact ah _ _ _ (.inl rfl)|refine ap ?_|apply And.intro
 ·repeat' first|exact ah _ _ _ (.inl rfl)|exact aa _|exact aa _|exact ac|exact ah _ _ _ (.inl rfl)|refine ap ?_|apply And.intro
theorem IV{c:Int}(e:aB w h a p ss=0)(q:tmE w h a p ss c≠0):Ee o1 o2 z1 z2 w h a p ss c:=by
 have t:=gW e
 have h1:=t.bas.n1
 have h2:=t.bas.p1
 have hs:=t.few
 have rk:=jR t
 delta Ee ck c6 bf df cZ dY dL bo su eL eO j0 cu bG gF jZ nA dJ
 rw[oB q]
 refine ⟨⟨rfl,rfl,trivial⟩,fun H' hl' g=>vh (by omega) (by omega) e hl' g.1 g.2.1,⟨rfl,trivial⟩,fun H' _ g=>A9 _ _ _ _ (by omega) g.1,fun k1=>⟨rfl,?_,?_⟩,fun k1=>⟨⟨rfl,rfl,rfl,rfl,trivial⟩,fun H' hl' g=>hl' ▸ v8 t rk ⟨by decide,g.2.1,g.2.2.1,g.1,g.2.2.2.1⟩,fun k2=>⟨rfl,?_,?_⟩,fun k2=>⟨?_,rfl,?_,?_⟩⟩⟩
 ·rw[GW e (ff k1)]
  repeat' first|exact ah _ _ _ (.inl rfl)|exact aa _|exact aa _|exact ac|exact ah _ _ _ (.inl rfl)|refine ap ?_|apply And.intro
 ·repeat' first|exact ah _ _ _ (.inl rfl)|exact aa _|exact aa _|exact ac|exact ah _ _ _ (.inl rfl)|refine ap ?_|apply And.intro
 ·rw[GY e (bK k1) (by have:=av k2;omega)]
  repeat' first|exact ah _ _ _ (.inl rfl)|exact aa _|exact aa _|exact ac|exact ah _ _ _ (.inl rfl)|refine ap ?_|apply And.intro
 ·repeat' first|exact ah _ _ _ (.inl rfl)|exact aa _|exact aa _|exact ac|exact ah _ _ _ (.inl rfl)|refine ap ?_|apply And.intro
 ·by_cases z:ss.length=0
  ·exact congrArg Value.bool (beq_iff_eq.2 (by omega))
  ·exact absurd (sV e (bK k1) (by have:=aA k2;omega) z) q
 ·by_cases z:ss.length=0
  ·rw[GX e (bK k1) (by have:=aA k2;omega) z]
   repeat' first|exact ah _ _ _ (.inl rfl)|exact aa _|exact aa _|exact ac|exact ah _ _ _ (.inl rfl)|refine ap ?_|apply And.intro
  ·exact absurd (sV e (bK k1) (by have:=aA k2;omega) z) q
 ·repeat' first|exact ah _ _ _ (.inl rfl)|exact aa _|exact aa _|exact ac|exact ah _ _ _ (.inl rfl)|refine ap ?_|apply And.intro
theorem Ih{w h:Int}{p:Int}(ha:a.length<=100000)(hs:ss.length<=100000){i j:Nat}(hne:i≠j)(hi:H[i]?=some (.cells o1 z1 (a.flatMap af)))(hj:H[j]?=some (.cells o2 z2 (ss.flatMap spC))) :
  ad prog 23 [db w h a p ss i j] H [] (Is (.tuple #[slQ H.length 1 (cfX w h a p ss).length,.int .i64 (aB w h a p ss)]) (H ++ [.cells true 2 ((cfX w h a p ss).flatMap spC)])):=by
 by_cases e:aB w h a p ss=0
 ·rw[DZ e,e];exact IJ e hne hi hj
 ·exact bR (fun j => .tuple #[slQ j 1 (cfX w h a p ss).length,.int .i64 (aB w h a p ss)]) (new:=[.cells true 2 ((cfX w h a p ss).flatMap spC)]) (Eq.mpr (LO o1 o2 z1 z2 w h a p ss) (I1 ha hs e)) (cz ..) rfl ⟨⟨_,_,rfl,ct _ _⟩,trivial⟩ (by simpa using hne) (bC hi hj) (fun j=>rfl) rfl
theorem zg(ha:a.length<=100000)(hs:ss.length<=100000)(hq:aB w h a p ss=0->ss.length<=19){i j:Nat}(hne:i≠j)(hi:H[i]?=some (.cells o1 z1 (a.flatMap af)))(hj:H[j]?=some (.cells o2 z2 (ss.flatMap spC))) :
  ad prog 24 [db w h a p ss i j] H [] (Is (.tuple #[slQ H.length 1 (trX w h a p ss).length,.int .i64 (aB w h a p ss)]) (H ++ [.cells true 1 ((trX w h a p ss).flatMap af)])):=by
 by_cases e:aB w h a p ss=0
 ·rw[uT e,e];exact FI ha (hq e) e hne hi hj
 ·exact bR (fun j => .tuple #[slQ j 1 (trX w h a p ss).length,.int .i64 (aB w h a p ss)]) (new:=[.cells true 1 ((trX w h a p ss).flatMap af)]) (Eq.mpr (LK o1 o2 z1 z2 w h a p ss) (IX ha hs e)) (cz ..) rfl ⟨⟨_,_,rfl,az _ _⟩,trivial⟩ (by simpa using hne) (bC hi hj) (fun j=>rfl) rfl
theorem AY(ha:a.length<=100000)(hs:ss.length<=100000)(hq:aB w h a p ss=0->ss.length<=19){i j:Nat}(hne:i≠j)(hi:H[i]?=some (.cells o1 z1 (a.flatMap af)))(hj:H[j]?=some (.cells o2 z2 (ss.flatMap spC))) :
  ad prog 38 [db w h a p ss i j] H [] (Is (.tuple #[slQ H.length 1 (clX w h a p ss).length,.int .i64 (clK w h a p ss),.int .i64 (aB w h a p ss)]) (H ++ [.cells true 1 ((clX w h a p ss).flatMap ai)])):=by
 by_cases e:aB w h a p ss=0
 ·rw[Al e,DV e,e];exact Dj ha (hq e) e hne hi hj
 ·exact bR (fun j => .tuple #[slQ j 1 (clX w h a p ss).length,.int .i64 (clK w h a p ss),.int .i64 (aB w h a p ss)]) (new:=[.cells true 1 ((clX w h a p ss).flatMap ai)]) (Eq.mpr (LN o1 o2 z1 z2 w h a p ss) (I0 ha hs e)) (cz ..) rfl ⟨⟨_,_,rfl,am _ _⟩,trivial⟩ (by simpa using hne) (bC hi hj) (fun j=>rfl) rfl
theorem zf{w h:Int}{p:Int}{m:Int}(ha:a.length<=100000)(hs:ss.length<=100000){i j:Nat}(hne:i≠j)(hi:H[i]?=some (.cells o1 z1 (a.flatMap af)))(hj:H[j]?=some (.cells o2 z2 (ss.flatMap spC))) :
  ad prog 18 [db w h a p ss i j,.int .i64 m] H [] (Is (.tuple #[slQ H.length 1 (whX w h a p ss m).length,.int .i64 (whE w h a p ss m)]) (H ++ [.cells true 1 ((whX w h a p ss m).flatMap ai)])):=by
 by_cases q:whE w h a p ss m=0
 ·obtain ⟨e,hm,hc⟩:=Ky q
  rw[show whX w h a p ss m=whL a p ss (aC w h a ss ss.length) m a.length from if_pos q,q]
  exact Iu e hm hc hne hi hj
 ·by_cases e:aB w h a p ss=0
  ·exact bR (fun j => .tuple #[slQ j 1 (whX w h a p ss m).length,.int .i64 (whE w h a p ss m)]) (new:=[.cells true 1 ((whX w h a p ss m).flatMap ai)]) (Eq.mpr (LH o1 o2 z1 z2 w h a p ss m) (IU e q)) (cz ..) rfl ⟨⟨_,_,rfl,am _ _⟩,trivial⟩ (by simpa using hne) (bC hi hj) (fun j=>rfl) rfl
  ·exact bR (fun j => .tuple #[slQ j 1 (whX w h a p ss m).length,.int .i64 (whE w h a p ss m)]) (new:=[.cells true 1 ((whX w h a p ss m).flatMap ai)]) (Eq.mpr (LJ o1 o2 z1 z2 w h a p ss m) (IW ha hs e)) (cz ..) rfl ⟨⟨_,_,rfl,am _ _⟩,trivial⟩ (by simpa using hne) (bC hi hj) (fun j=>rfl) rfl
theorem zh{w h:Int}{p:Int}{c:Int}(ha:a.length<=100000)(hs:ss.length<=100000){i j:Nat}(hne:i≠j)(hi:H[i]?=some (.cells o1 z1 (a.flatMap af)))(hj:H[j]?=some (.cells o2 z2 (ss.flatMap spC))) :
  ad prog 19 [db w h a p ss i j,.int .i64 c] H [] (Is (.tuple #[slQ H.length 1 (tmX w h a p ss c).length,.int .i64 (tmE w h a p ss c)]) (H ++ [.cells true 2 ((tmX w h a p ss c).flatMap spC)])):=by
 by_cases q:tmE w h a p ss c=0
 ·obtain ⟨e,pX,hc,h0⟩:=GZ q
  rw[show tmX w h a p ss c=tmL p ss (aC w h a ss ss.length) c from if_pos q,q]
  exact Iw e pX h0 hc hne hi hj
 ·by_cases e:aB w h a p ss=0
  ·exact bR (fun j => .tuple #[slQ j 1 (tmX w h a p ss c).length,.int .i64 (tmE w h a p ss c)]) (new:=[.cells true 2 ((tmX w h a p ss c).flatMap spC)]) (Eq.mpr (LI o1 o2 z1 z2 w h a p ss c) (IV e q)) (cz ..) rfl ⟨⟨_,_,rfl,ct _ _⟩,trivial⟩ (by simpa using hne) (bC hi hj) (fun j=>rfl) rfl
  ·exact bR (fun j => .tuple #[slQ j 1 (tmX w h a p ss c).length,.int .i64 (tmE w h a p ss c)]) (new:=[.cells true 2 ((tmX w h a p ss c).flatMap spC)]) (Eq.mpr (LL o1 o2 z1 z2 w h a p ss c) (IY ha hs e)) (cz ..) rfl ⟨⟨_,_,rfl,ct _ _⟩,trivial⟩ (by simpa using hne) (bC hi hj) (fun j=>rfl) rfl
theorem pd{w h:Int}{p:Int}{c:List Int}{k:Int}(ha:a.length<=100000)(hs:ss.length<=100000)(hc:c.length<=1000)(hk : -9223372036854775808<=k/\k<=9223372036854775807){i j l:Nat}(hnd:[i,j,l].Nodup){o1 o2 o3:Bool}{z1 z2 z3:Nat}(hz:o3=false∨z3=0∨z3=1)(hi:H[i]?=some (.cells o1 z1 (a.flatMap af)))(hj:H[j]?=some (.cells o2 z2 (ss.flatMap spC)))(hl:H[l]?=some (.cells o3 z3 (c.flatMap ai))) :
  ad prog 39 [db w h a p ss i j,slQ l 2 c.length,.int .i64 k] H [] (Is (.tuple #[.bool (ew w h a p ss c k),.int .i64 (eh w h a p ss c k)]) H):=by
 by_cases e:aB w h a p ss=0
 ·have key:=FK ha (gW e).few hc hk e hnd hz hi hj hl
  have e1:eh w h a p ss c k=if c.length=ss.length/\0<=k then 0 else 1:=if_pos e
  have e2:ew w h a p ss c k=(decide (c.length=ss.length/\0<=k)&&fP (agI p ss (aH w h a ss)) c k ss.length):=by
   unfold ew
   rw[e1]
   by_cases q:c.length=ss.length/\0<=k
   ·rw[if_pos q,decide_eq_true rfl,decide_eq_true q,q.1]
   ·rw[if_neg q,decide_eq_false q];rfl
  rw[e1,e2];exact key
 ·have key:=bR (fun _ => .tuple #[.bool (ew w h a p ss c k),.int .i64 (eh w h a p ss c k)]) (new:=[]) (Eq.mpr (LM o1 o2 z1 z2 w h a p ss o3 z3 c k) (IZ ha hs e)) (th ..) rfl trivial hnd (H:=H) ⟨by rw[dB];exact hi,by rw[gz];exact hj,by rw[mP];exact hl,trivial⟩ (fun j=>rfl) (args':=[db w h a p ss i j,slQ l 2 c.length,.int .i64 k]) rfl
  rwa [List.append_nil]at key
def yx(o2:Bool)(z2:Nat)(p:List (Int×Int)):Prop :=
 (true=true/\wk (.slice none 0 0:Value) (rn (sg 1 []) 3 (.slice (some ⟨1,0,some 2⟩) 0 0:Value))/\True/\True)
theorem Kn(o2:Bool)(z2:Nat)(p:List (Int×Int)):vF prog msk (dm 0) 100000 true 40 true 117 [.slice none 0 0,.int .i64 0,.slice (some ⟨0,0,some 2⟩) (List.length p) (List.length p)] (aW [.cells o2 z2 (List.flatMap spC p)]) (some [])
 (.go 7 (.again []))
 (ca ((aW [.cells o2 z2 (List.flatMap spC p)]):HT).n 3 (.slice (some ⟨1,0,some 2⟩) 0 0) [(true,.cells true 1 (List.flatMap af ([]:List Bool)))])=yx o2 z2 p:=by kernel_rfl
theorem Dt(ha:a.length<=100000)(hs:ss.length<=100000):uz o1 o2 z1 z2 w h a p ss:=by
 delta uz ck c6 bf df cZ dY dL nC cD gG cu bo bG gF nG
 refine ⟨⟨rfl,rfl,trivial⟩,fun H' hl g=>ks w h a p ss ha hs g.1 g.2.1,fun k=>⟨rfl,?_,?_⟩,fun k =>?_⟩
 ·rw[D0 (bne_iff_ne.1 k)]
  repeat' first|exact az _ _|exact spB _ _|exact ah _ _ _ (.inl rfl)|exact aa _|exact rfl|exact aa _|exact ac|exact ah _ _ _ (.inl rfl)|refine ap ?_|apply And.intro
 ·repeat' first|exact az _ _|exact spB _ _|exact ah _ _ _ (.inl rfl)|exact aa _|exact rfl|exact aa _|exact ac|exact ah _ _ _ (.inl rfl)|refine ap ?_|apply And.intro
 ·have e:aB w h a p ss=0:=bne_eq_false_iff_eq.1 k
  refine ⟨⟨rfl,rfl,trivial⟩,fun H' hl g=>hl ▸ l7 (gW e) (by decide) g.1 g.2.1,rfl,?_⟩
  rw[DZ e,e]
  repeat' first|exact az _ _|exact spB _ _|exact ah _ _ _ (.inl rfl)|exact aa _|exact rfl|exact aa _|exact ac|exact ah _ _ _ (.inl rfl)|refine ap ?_|apply And.intro
theorem Fs{w h:Int}{p:Int}(ha:a.length<=100000)(hs:ss.length<=100000){i j:Nat}(hne:i≠j)(hi:H[i]?=some (.cells o1 z1 (a.flatMap af)))(hj:H[j]?=some (.cells o2 z2 (ss.flatMap spC))) :
  ad prog 45 [db w h a p ss i j] H [] (Is (.tuple #[slQ H.length 1 (cfX w h a p ss).length,.int .i64 (aB w h a p ss)]) (H ++ [.cells true 2 ((cfX w h a p ss).flatMap spC)])) :=
 bR (fun j => .tuple #[slQ j 1 (cfX w h a p ss).length,.int .i64 (aB w h a p ss)]) (new:=[.cells true 2 ((cfX w h a p ss).flatMap spC)]) (Eq.mpr (GN o1 o2 z1 z2 w h a p ss) (Dt ha hs)) (cz ..) rfl ⟨⟨_,_,rfl,ct _ _⟩,trivial⟩ (by simpa using hne) (bC hi hj) (fun j=>rfl) rfl
theorem FW{o2:Bool}{z2:Nat}{p:List (Int×Int)}:yx o2 z2 p:=by
 unfold yx
 repeat' first|exact ah _ _ _ (.inr rfl)|exact az _ _|exact spB _ _|exact ah _ _ _ (.inl rfl)|exact aa _|exact rfl|exact aa _|exact ac|exact ah _ _ _ (.inl rfl)|refine ap ?_|apply And.intro
theorem Ft(p:List (Int×Int))(hp:p.length<=1000)(n:Nat)(hn:n<=90)(ho:rt n p){L j:Nat}(hL:H.length=L){o2:Bool}{z2:Nat}(hj:H[j]?=some (.cells o2 z2 (p.flatMap spC))) :
  ad prog 117 [.slice none 0 0,.int .i64 ((n:Nat):Int),slQ j 2 p.length] H [] (Is (slQ L 2 (bB p n []).length) (H ++ [.cells true 1 ((bB p n []).flatMap af)])):=by
 cases n with
 |succ m=>exact Fu p hp m (by omega) ho hL hj
 |zero =>
  subst hL
  have ok:[ab.cells o2 z2 (p.flatMap spC)].all (aZ 3)=true:=by
   show (aZ 3 (.cells o2 z2 (p.flatMap spC))&&true)=true
   rw[jv];rfl
  exact bR (fun j=>slQ j 2 (bB p 0 []).length) (new:=[.cells true 1 ((bB p 0 []).flatMap af)]) (Eq.mpr (Kn o2 z2 p) FW) ok rfl ⟨⟨_,_,rfl,az _ _⟩,trivial⟩ (ids:=[j]) (by simp) ⟨by rw[gz];exact hj,trivial⟩ (fun j=>rfl) rfl
theorem xW(t:ej w h a p ss):(a8 p ss (aC w h a ss ss.length) ss.length).length<=400:=by
 have a1:=ug p ss (aC w h a ss ss.length) ss.length
 have hs:=t.few
 have a3:ss.length*ss.length<=20*20:=Nat.mul_le_mul hs hs
 omega
theorem Dp(ha:a.length<=100000)(hs:ss.length<=100000):uv o1 o2 z1 z2 w h a p ss:=by
 delta uv ck c6 bf df cZ dY dL nC cD gG cu bo bG gF nG dJ nz
 refine ⟨⟨rfl,rfl,trivial⟩,fun H' hl g=>ks w h a p ss ha hs g.1 g.2.1,fun k=>⟨rfl,?_,?_⟩,fun k =>?_⟩
 ·rw[yI (bne_iff_ne.1 k)]
  repeat' first|exact ah _ _ _ (.inr rfl)|exact az _ _|exact spB _ _|exact ah _ _ _ (.inl rfl)|exact aa _|exact rfl|exact aa _|exact ac|exact ah _ _ _ (.inl rfl)|refine ap ?_|apply And.intro
 ·repeat' first|exact az _ _|exact spB _ _|exact ah _ _ _ (.inl rfl)|exact aa _|exact rfl|exact aa _|exact ac|exact ah _ _ _ (.inl rfl)|refine ap ?_|apply And.intro
 ·have e:aB w h a p ss=0:=bne_eq_false_iff_eq.1 k
  have t:=gW e
  have hf:=t.few
  have hc:=xW t
  refine ⟨⟨rfl,rfl,trivial⟩,fun H' hl g=>hl ▸ l7 t (by decide) g.1 g.2.1,⟨rfl,trivial⟩,fun H' hl g =>?_,rfl,?_⟩
  ·exact ad.wkA (Ft (a8 p ss (aC w h a ss ss.length) ss.length) (by omega) ss.length (by omega) Hv hl g.1) (ak (aa _) (ak (aa _) (ak dU ac)))
  ·rw[uT e,<- JM t,e]
   repeat' first|exact az _ _|exact spB _ _|exact ah _ _ _ (.inl rfl)|exact aa _|exact rfl|exact aa _|exact ac|exact ah _ _ _ (.inl rfl)|refine ap ?_|apply And.intro
theorem Fq{w h:Int}{p:Int}(ha:a.length<=100000)(hs:ss.length<=100000){i j:Nat}(hne:i≠j)(hi:H[i]?=some (.cells o1 z1 (a.flatMap af)))(hj:H[j]?=some (.cells o2 z2 (ss.flatMap spC))) :
  ad prog 46 [db w h a p ss i j] H [] (Is (.tuple #[slQ H.length 2 (trX w h a p ss).length,.int .i64 (aB w h a p ss)]) (H ++ [.cells true 1 ((trX w h a p ss).flatMap af)])) :=
 bR (fun j => .tuple #[slQ j 2 (trX w h a p ss).length,.int .i64 (aB w h a p ss)]) (new:=[.cells true 1 ((trX w h a p ss).flatMap af)]) (Eq.mpr (GH o1 o2 z1 z2 w h a p ss) (Dp ha hs)) (cz ..) rfl ⟨⟨_,_,rfl,az _ _⟩,trivial⟩ (by simpa using hne) (bC hi hj) (fun j=>rfl) rfl
end
end Go.Proofs.YtbgfjemppjhmjaaGreat
