/- What is to be shown of functions. Printed by a program. No condition. -/
import Derived.Test.YtmecpfikljhjaaaDoorGA7xA14
import Derived.Test.YtmecpfikljhjaaaDoorGK27xA0
import Derived.Test.YtmecpfikljhjaaaDoorGV3xK38
import Derived.Test.YtmecpfikljhjaaaDoorGK41xV5
open Go Go.K
set_option maxRecDepth 1000000
set_option maxHeartbeats 4000000
set_option linter.unusedVariables false
set_option linter.unusedSimpArgs false
namespace Go.Proofs.YtmecpfikljhjaaaDoor
noncomputable section
attribute [local irreducible] vF
abbrev jn3:List Value:=[nI 4000,nI 8000,nI 14000,nI 24000,nI 40000,nI 90000]
abbrev jnn:KObj:=.cells false 0 jn3
abbrev jn9(p:Pl):=p.land.flatMap boolC
abbrev jng(p:Pl):=p.cts.flatMap chC
abbrev jna(p:Pl):=p.chan.flatMap boolC
abbrev jnb(p:Pl):=p.shp.th.flatMap ptC
abbrev jnc(p:Pl):=p.shp.wa.flatMap ptC
abbrev jnd(p:Pl):=p.shp.ic.flatMap ptC
abbrev jn4(p:Pl):List Value:=[.agg #[nI p.w,nI p.h,slQ 1 2 p.land.length,slQ 2 2 p.cts.length,slQ 3 2 p.chan.length,nI p.shp.cls,nI p.shp.pow,nI p.shp.dra,nI p.shp.ton,slQ 4 2 p.shp.th.length,slQ 5 2 p.shp.wa.length,slQ 6 2 p.shp.ic.length,nI p.shp.slow,nI p.shp.brash,nI p.shp.rdg,nI p.shp.prs,nI p.size,nI p.frm,nI p.to]]
abbrev jn0(p:Pl):List Value:=[nI p.w,nI p.h,slQ 1 2 p.land.length,slQ 2 2 p.cts.length,slQ 3 2 p.chan.length,nI p.shp.cls,nI p.shp.pow,nI p.shp.dra,nI p.shp.ton,slQ 4 2 p.shp.th.length,slQ 5 2 p.shp.wa.length,slQ 6 2 p.shp.ic.length,nI p.shp.slow,nI p.shp.brash,nI p.shp.rdg,nI p.shp.prs,nI p.size,nI p.frm,nI p.to,nI (endP p),.map (some 9)]
abbrev jni(p:Pl):=knE (Memo.nil (sfP p)).1
abbrev jn7(p:Pl):Int:=(p.chan.length:Nat)
abbrev jn8(p:Pl):Prop:=eR (.slice none 0 0)/\eR (nI 0)/\eR (pt 8)/\eR (pt 11)/\wR (slQ 12 1 (tbP p).length)/\eR (nI (((tbP p).length:Nat):Int))/\True
abbrev jnl:Prop:=(True)/\(True)
abbrev jne(p:Pl)(x2:Nat):Value:=.agg ⟨(((tbP p).getD x2 []).flatMap boolC)⟩
abbrev jn1(p:Pl)(x2:Nat):Prop:=eR (nI (((tbP p).length:Nat):Int))/\wR (slQ 12 1 (tbP p).length)/\eR (pt 11)/\eR (pt 8)/\eR (nI 0)/\eR (.slice none 0 0)/\eR (nI (x2:Int))/\(.iface (((tbP p).getD x2 []).length+1) (jne p x2):Value)=rn (sg 13 []) 3 (.iface (((tbP p).getD x2 []).length+1) (jne p x2):Value)/\(.iface (((tbP p).getD x2 []).length+1) (jne p x2):Value)=rn (sg 13 []) 3 (.iface (((tbP p).getD x2 []).length+1) (jne p x2):Value)/\eR (nI ((((tbP p).getD x2 []).length:Nat):Int))/\True
abbrev jn6(p:Pl)(x2 x3:Nat):=met1 (metTo p x2) ((tbP p).getD x2 []) x3
abbrev jnj(p:Pl):=rn (sg 7 [(7,13)]) 3 (.tuple #[slQ 7 1 (wlP p).length,nI (wlE p)]:Value)
abbrev jnh(p:Pl):Prop:=eR (pt 11)/\eR (pt 8)/\eR (nI 0)/\eR (.slice none 0 0)/\eR (nI (jn7 p))/\True
abbrev jn2(x3:Nat)(p:Pl):=nw ((x3:Int)+1) (∃x3':Nat,(x3'<=List.length (metP p))/\(List.length (metP p)-x3')<(List.length (metP p)-x3)/\true=true/\((nI ((x3:Int)+1):Value)=nI (x3':Int)/\wk (slQ 13 1 (wlTo p x3).length:Value) (slQ 13 1 (wlTo p x3').length:Value)/\jnh p)/\(True)/\((kbq 13 (.cells true 1 ((wlTo p x3).flatMap intC)) (.cells true 1 ((wlTo p x3').flatMap intC)))/\True)/\(True))
def RWall(p:Pl):Prop :=
 (((someR jnn)/\(someR (.cells true 1 (jn9 p)))/\(someR (.cells false 0 (jng p)))/\(someR (.cells true 1 (jna p)))/\(someR (.cells true 2 (jnb p)))/\(someR (.cells true 2 (jnc p)))/\(someR (.cells true 2 (jnd p)))/\True)/\(∀H':Heap,H'.length=8->(H'[0]?=some (.cells false 0 jn3:KObj)/\H'[1]?=some (.cells true 1 (jn9 p):KObj)/\H'[2]?=some (.cells false 0 (jng p):KObj)/\H'[3]?=some (.cells true 1 (jna p):KObj)/\H'[4]?=some (.cells true 2 (jnb p):KObj)/\H'[5]?=some (.cells true 2 (jnc p):KObj)/\H'[6]?=some (.cells true 2 (jnd p):KObj)/\True)->KCall prog 30 (jn4 p) H' [] (Is (.tuple #[pt 8,nI 0]) (H' ++ [(.cells true 0 (jn0 p):KObj),(.map (jni p):KObj)])))/\(((0:Int)<=(jn7 p)/\((jn7 p):Int)<=(jn7 p)/\((jn7 p):Int)<2 ^ 62/\1*((jn7 p):Int)<=2 ^ 48)/\(((someR jnn)/\(someR (.cells true 0 (jn0 p)))/\(someR (.cells true 1 (jn9 p)))/\(someR (.cells false 0 (jng p)))/\(someR (.cells true 1 (jna p)))/\(someR (.cells true 2 (jnb p)))/\(someR (.cells true 2 (jnc p)))/\(someR (.cells true 2 (jnd p)))/\(someR (.map (jni p)))/\True)/\(∀H':Heap,H'.length=12->(H'[0]?=some (.cells false 0 jn3:KObj)/\H'[8]?=some (.cells true 0 (jn0 p):KObj)/\H'[1]?=some (.cells true 1 (jn9 p):KObj)/\H'[2]?=some (.cells false 0 (jng p):KObj)/\H'[3]?=some (.cells true 1 (jna p):KObj)/\H'[4]?=some (.cells true 2 (jnb p):KObj)/\H'[5]?=some (.cells true 2 (jnc p):KObj)/\H'[6]?=some (.cells true 2 (jnd p):KObj)/\H'[9]?=some (.map (jni p):KObj)/\True)->KCall prog 51 [pt 8] H' [9] (fun y H2 => ∃z:Memo (sfP p),True/\y=slQ 12 1 (tbP p).length/\H2=((List.set H' 9 (.map (knE z.1):KObj)) ++ [(.cells true 1 (List.map dV (tbP p)):KObj)])))/\(∀r1:Memo (sfP p),True->(lq (0<=List.length (tbP p)) (true=true/\((nI 0:Value)=nI ((0:Nat):Int)/\jn8 p)/\((kbq 13 (.cells true 1 (krep [.bool false] p.chan.length)) (.cells true 1 ((metTo p 0).flatMap boolC)))/\True)/\jnl) (∀x2:Nat,(x2<=List.length (tbP p))->(fk (decide (((x2:Int):Int)<(((tbP p).length:Nat):Int))) ((ixq (x2:Int) (tbP p).length)/\(((List.map dV (tbP p))[(0+Int.toNat (x2:Int)*1)]?=some (.iface (((tbP p).getD x2 []).length+1) (jne p x2)))/\(lq (0<=List.length ((tbP p).getD x2 [])) (true=true/\((nI 0:Value)=nI ((0:Nat):Int)/\jn1 p x2)/\((kbq 13 (.cells true 1 ((metTo p x2).flatMap boolC)) (.cells true 1 ((met1 (metTo p x2) ((tbP p).getD x2 []) 0).flatMap boolC)))/\True)/\jnl) (∀x3:Nat,(x3<=List.length ((tbP p).getD x2 []))->(fk (decide (((x3:Int):Int)<((((tbP p).getD x2 []).length:Nat):Int))) ((ixq (x3:Int) ((tbP p).getD x2 []).length)/\(((((tbP p).getD x2 []).flatMap boolC)[(Int.toNat (x3:Int)*1)]?=some (.bool (((tbP p).getD x2 []).getD x3 false)))/\((ixq (x3:Int) p.chan.length)/\((((jn6 p x2 x3).flatMap boolC)[(0+Int.toNat (x3:Int)*1)]?=some (.bool ((jn6 p x2 x3).getD x3 false)))/\(fk ((jn6 p x2 x3).getD x3 false) ((ixq (x3:Int) p.chan.length)/\(((0+Int.toNat (x3:Int)*1)+1<=List.length ((jn6 p x2 x3).flatMap boolC))/\true=true/\(nw ((x3:Int)+1) (∃x3':Nat,(x3'<=List.length ((tbP p).getD x2 []))/\(List.length ((tbP p).getD x2 [])-x3')<(List.length ((tbP p).getD x2 [])-x3)/\true=true/\((nI ((x3:Int)+1):Value)=nI (x3':Int)/\jn1 p x2)/\((kbq 13 (.cells true 1 (setl ((jn6 p x2 x3).flatMap boolC) (0+Int.toNat (x3:Int)*1) [.bool true])) (.cells true 1 ((met1 (metTo p x2) ((tbP p).getD x2 []) x3').flatMap boolC)))/\True)/\jnl)))) ((ixq (x3:Int) p.chan.length)/\(((0+Int.toNat (x3:Int)*1)+1<=List.length ((jn6 p x2 x3).flatMap boolC))/\true=true/\(nw ((x3:Int)+1) (∃x3':Nat,(x3'<=List.length ((tbP p).getD x2 []))/\(List.length ((tbP p).getD x2 [])-x3')<(List.length ((tbP p).getD x2 [])-x3)/\true=true/\((nI ((x3:Int)+1):Value)=nI (x3':Int)/\jn1 p x2)/\((kbq 13 (.cells true 1 (setl ((jn6 p x2 x3).flatMap boolC) (0+Int.toNat (x3:Int)*1) [.bool (((tbP p).getD x2 []).getD x3 false)])) (.cells true 1 ((met1 (metTo p x2) ((tbP p).getD x2 []) x3').flatMap boolC)))/\True)/\jnl))))))))) (nw ((x2:Int)+1) (∃x2':Nat,(x2'<=List.length (tbP p))/\(List.length (tbP p)-x2')<(List.length (tbP p)-x2)/\true=true/\((nI ((x2:Int)+1):Value)=nI (x2':Int)/\jn8 p)/\((kbq 13 (.cells true 1 ((jn6 p x2 x3).flatMap boolC)) (.cells true 1 ((metTo p x2').flatMap boolC)))/\True)/\jnl))))))) ((some (.cells true 1 ((metTo p x2).flatMap boolC):KObj)=some (.cells true 1 ((metP p).flatMap boolC):KObj))/\((ixq p.to p.chan.length)/\((((metP p).flatMap boolC)[(0+Int.toNat p.to*1)]?=some (.bool ((metP p).getD p.to.toNat false)))/\(fk ((metP p).getD p.to.toNat false) (wk (.tuple #[.slice none 0 0,nI 9]:Value) (.tuple #[slQ 13 1 0,nI 9]:Value)/\(true=true/\wk (.tuple #[slQ 13 1 0,nI 9]:Value) (jnj p)/\((kbq 7 (.cells true 1 []) (.cells true 1 ((wlP p).flatMap intC)))/\True))) (lq (0<=List.length (metP p)) (true=true/\((nI 0:Value)=nI ((0:Nat):Int)/\wk (.slice none 0 0:Value) (slQ 0 1 (wlTo p 0).length:Value)/\jnh p)/\(True)/\(True/\True)/\(True)) (∀x3:Nat,(x3<=List.length (metP p))->(fk (decide (((x3:Int):Int)<(jn7 p))) (c1q 14 1 (.cells true 1 (jn9 p)) 43 [.agg #[nI p.w,nI p.h,slQ 1 2 p.land.length],nI (x3:Int)] (.bool (seaB p.land (x3:Int))) (fk (seaB p.land (x3:Int)) ((ixq (x3:Int) p.chan.length)/\((((metP p).flatMap boolC)[(0+Int.toNat (x3:Int)*1)]?=some (.bool ((metP p).getD x3 false)))/\(fk (!((metP p).getD x3 false)) (((someR jnn)/\(someR (.cells true 0 (jn0 p)))/\(someR (.cells true 1 (jn9 p)))/\(someR (.cells false 0 (jng p)))/\(someR (.cells true 1 (jna p)))/\(someR (.cells true 2 (jnb p)))/\(someR (.cells true 2 (jnc p)))/\(someR (.cells true 2 (jnd p)))/\(someR (.map (knE r1.1)))/\True)/\(∀H':Heap,H'.length=14->(H'[0]?=some (.cells false 0 jn3:KObj)/\H'[8]?=some (.cells true 0 (jn0 p):KObj)/\H'[1]?=some (.cells true 1 (jn9 p):KObj)/\H'[2]?=some (.cells false 0 (jng p):KObj)/\H'[3]?=some (.cells true 1 (jna p):KObj)/\H'[4]?=some (.cells true 2 (jnb p):KObj)/\H'[5]?=some (.cells true 2 (jnc p):KObj)/\H'[6]?=some (.cells true 2 (jnd p):KObj)/\H'[9]?=some (.map (knE r1.1):KObj)/\True)->KCall prog 53 [pt 8,nI (x3:Int)] H' [] (Is (slQ 14 1 (bsP p (x3:Int)).length) (H' ++ [(.cells true 1 ((bsP p (x3:Int)).flatMap intC):KObj)])))/\(c4q 15 0 jnn 14 (.cells true 1 ((bsP p (x3:Int)).flatMap intC)) 11 (.cells true 0 [slN 10 p.chan.length]) 10 (.cells true 1 ((metP p).flatMap boolC)) 52 [slQ 14 1 (bsP p (x3:Int)).length,.func (.func 54) #[] #[pt 11]] (.bool (anyM (metP p) (bsP p (x3:Int)))) (fk (anyM (metP p) (bsP p (x3:Int))) (apq (wlTo p x3).length 8 1 ((wlTo p x3).flatMap intC) [nI (x3:Int)] (nw ((x3:Int)+1) (∃x3':Nat,(x3'<=List.length (metP p))/\(List.length (metP p)-x3')<(List.length (metP p)-x3)/\true=true/\((nI ((x3:Int)+1):Value)=nI (x3':Int)/\wk (slN 16 ((wlTo p x3).length+1):Value) (slQ 16 1 (wlTo p x3').length:Value)/\jnh p)/\(True)/\((kbq 13 (.cells true 1 (((((wlTo p x3).flatMap intC).drop 0).take ((wlTo p x3).length*1))++((([nI (x3:Int)]:List Value).drop 0).take (1*1)))) (.cells true 1 ((wlTo p x3').flatMap intC)))/\True)/\(True)))) (jn2 x3 p)))) (jn2 x3 p)))) (jn2 x3 p))) (true=true/\wk (.tuple #[slQ 13 1 (wlTo p x3).length,nI 0]:Value) (jnj p)/\((kbq 7 (.cells true 1 ((wlTo p x3).flatMap intC)) (.cells true 1 ((wlP p).flatMap intC)))/\True))))))))))))))))
abbrev jn5(p:Pl):=readsK [.cells false 0 jn3,.cells true 1 (jn9 p),.cells false 0 (jng p),.cells true 1 (jna p),.cells true 2 (jnb p),.cells true 2 (jnc p),.cells true 2 (jnd p)]
abbrev jnk:Nat×KObj:=(0,.cells false 0 jn3)
abbrev jnm(x3:Nat):Hint:=.need (.need (.go 0 (.slot 52 (nI ((x3:Int)+1)) (.go 0 (.again [])))))
abbrev jnf(x3:Nat):Hint:=.slot 92 (nI ((x3:Int)+1)) (.go 0 (.again [(13,13)]))
theorem EWall(p:Pl):vF prog msk (dm 0) 100000 true 40 true 17 (jn4 p) (jn5 p) (some [])
 (.go 3 (.ans [jnk,(1,.cells true 1 (jn9 p)),(2,.cells false 0 (jng p)),(3,.cells true 1 (jna p)),(4,.cells true 2 (jnb p)),(5,.cells true 2 (jnc p)),(6,.cells true 2 (jnd p))] (.tuple #[pt 8,nI 0]) [.cells true 0 (jn0 p),.map (jni p)] (.go 13 (.need (.go 2 (.anse [jnk,(8,.cells true 0 (jn0 p)),(1,.cells true 1 (jn9 p)),(2,.cells false 0 (jng p)),(3,.cells true 1 (jna p)),(4,.cells true 2 (jnb p)),(5,.cells true 2 (jnc p)),(6,.cells true 2 (jnd p)),(9,.map (jni p))] [9] (Memo (sfP p)) (fun r1=>True) (fun r1=>slQ 12 1 (tbP p).length) (fun r1=>[(9,.map (knE r1.1))]) (fun r1=>[.cells true 1 (List.map dV (tbP p))]) (fun r1 => .go 1 (.inv 3 (Nat) (0) [] [10] (fun x2=>[(31,nI (x2:Int)),(2,.slice none 0 0),(3,nI 0),(4,pt 8),(6,pt 11),(29,slQ 12 1 (tbP p).length),(30,nI (((tbP p).length:Nat):Int))]) (fun x2=>[(10,true,.cells true 1 ((metTo p x2).flatMap boolC))]) (fun x2=>[]) (fun x2=>[]) (fun x2=>(x2<=List.length (tbP p))) (fun x2=>(List.length (tbP p)-x2)) (fun x2 => .go 0 (.fork (.need (.val (.iface (((tbP p).getD x2 []).length+1) (jne p x2)) (.go 3 (.inv 3 (Nat) (0) [] [10] (fun x3=>[(37,nI (x3:Int)),(30,nI (((tbP p).length:Nat):Int)),(29,slQ 12 1 (tbP p).length),(6,pt 11),(4,pt 8),(3,nI 0),(2,.slice none 0 0),(31,nI (x2:Int)),(8,.iface (((tbP p).getD x2 []).length+1) (jne p x2)),(35,.iface (((tbP p).getD x2 []).length+1) (jne p x2)),(36,nI ((((tbP p).getD x2 []).length:Nat):Int))]) (fun x3=>[(10,true,.cells true 1 ((jn6 p x2 x3).flatMap boolC))]) (fun x3=>[]) (fun x3=>[]) (fun x3=>(x3<=List.length ((tbP p).getD x2 []))) (fun x3=>(List.length ((tbP p).getD x2 [])-x3)) (fun x3 => .go 0 (.fork (.go 0 (.need (.val (.bool (((tbP p).getD x2 []).getD x3 false)) (.go 5 (.need (.val (.bool ((jn6 p x2 x3).getD x3 false)) (.go 0 (.gfork (.go 0 (jnm x3)) (.go 1 (jnm x3)))))))))) (.go 0 (.slot 53 (nI ((x2:Int)+1)) (.go 0 (.again [])))))))))) (.obj 10 (.cells true 1 ((metP p).flatMap boolC)) (.go 5 (.need (.val (.bool ((metP p).getD p.to.toNat false)) (.fork (.go 1 (.as (.tuple #[slQ 13 1 0,nI 9]) (.ghost (.cells true 1 []) (.again [(7,13)])))) (.go 3 (.inv 3 (Nat) (0) [] [] (fun x3=>[(64,nI (x3:Int)),(11,slQ 13 1 (wlTo p x3).length),(6,pt 11),(4,pt 8),(3,nI 0),(2,.slice none 0 0),(63,nI (jn7 p))]) (fun x3=>[]) (fun x3=>[(true,.cells true 1 ((wlTo p x3).flatMap intC))]) (fun x3=>[]) (fun x3=>(x3<=List.length (metP p))) (fun x3=>(List.length (metP p)-x3)) (fun x3 => .go 0 (.fork (.go 7 (.ans [(1,.cells true 1 (jn9 p))] (.bool (seaB p.land (x3:Int))) [] (.go 0 (.gfork (.go 1 (.need (.val (.bool ((metP p).getD x3 false)) (.go 2 (.gfork (.go 1 (.ans [jnk,(8,.cells true 0 (jn0 p)),(1,.cells true 1 (jn9 p)),(2,.cells false 0 (jng p)),(3,.cells true 1 (jna p)),(4,.cells true 2 (jnb p)),(5,.cells true 2 (jnc p)),(6,.cells true 2 (jnd p)),(9,.map (knE r1.1))] (slQ 14 1 (bsP p (x3:Int)).length) [.cells true 1 ((bsP p (x3:Int)).flatMap intC)] (.go 0 (.ans [jnk,(14,.cells true 1 ((bsP p (x3:Int)).flatMap intC)),(11,.cells true 0 [slN 10 p.chan.length]),(10,.cells true 1 ((metP p).flatMap boolC))] (.bool (anyM (metP p) (bsP p (x3:Int)))) [] (.go 0 (.fork (.go 2 (.need (.go 1 (.slot 92 (nI ((x3:Int)+1)) (.go 0 (.again [(13,16)])))))) (.go 0 (jnf x3)))))))) (.go 2 (jnf x3))))))) (.go 4 (jnf x3)))))) (.go 2 (.again [(7,13)])))))))))))))))))))))
 (newK ((jn5 p):HT).n 3 (.tuple #[slQ 7 1 (wlP p).length,nI (wlE p)]) [(true,.cells true 1 ((wlP p).flatMap intC))])=RWall p:=by kernel_rfl
theorem wlTo_succ(p:Pl)(n:Nat):wlTo p (n+1)=wlTo p n++(if wlB p n then [(n:Int)] else []):=by
 unfold wlTo
 rw[List.range_succ,List.filter_append,List.map_append]
 congr 1
 by_cases h:wlB p n=true
 ·rw[if_pos h,List.filter_cons,if_pos h];rfl
 ·rw[if_neg h,List.filter_cons,if_neg h];rfl
theorem wlTo_len(p:Pl)(n:Nat):(wlTo p n).length<=n:=by
 unfold wlTo
 rw[List.length_map]
 exact Nat.le_trans (List.length_filter_le ..) (by simp)
theorem setl_bo(l:List Bool){c off:Nat}(b:Bool)(h:c<l.length)(ho:off=0+c*1):setl (l.flatMap boolC) off [.bool b]=(l.set c b).flatMap boolC:=by
 subst ho
 rw[Nat.zero_add];exact flat_set boolC_len l c h b
theorem met1_succ(m r:List Bool)(i:Nat):met1 m r (i+1)=(met1 m r i).set i ((met1 m r i).getD i false ||r.getD i false):=rfl
theorem kWall{p:Pl}(hp:LstP p)(e0:errPl p=0){H:Heap}{l c n t w i:Nat}(a:PlAt H p l c n t w i) :
  KCall prog 17 [plV p l c n t w i] H [] (Is (.tuple #[.slice (some ⟨H.length,0,some 1⟩) (wlP p).length (wlP p).length,nI (wlE p)]) (H ++ [.cells true 1 ((wlP p).flatMap intC)])):=by
 have o:=plOk e0
 refine valKs (fun j => .tuple #[.slice (some ⟨j,0,some 1⟩) (wlP p).length (wlP p).length,nI (wlE p)]) (new:=[.cells true 1 ((wlP p).flatMap intC)]) (Eq.mpr (EWall p) ?_) (pOs_ok p) rfl ⟨⟨_,_,rfl,plainIL _ _⟩,trivial⟩ a.1 a.objs rfl (fun j=>rfl) rfl
 have he:=end_le o
 have hct:=o.cts
 have hch:=o.chan
 have hbd:=o.bd
 have hto:=sea_in o.to
 have hT:=tbOk p
 have hl:=hT.gl
 have hN:NT p=Int.toNat (endP p+1):=rfl
 have hm:=metTo_len p (tbP p).length
 have hm':(metP p).length=p.chan.length:=hm
 delta RWall jnn jn9 jng jna jnb jnc jnd jn3 jn4 jn0 jni jn7 jn8 jnl jne jn1 jn6 jnj jnh jn2 nI slQ pt slN someR fk nw eR wR kbq ixq lq apq c1q c4q
 refine ⟨?_,fun H' hn h=>kOpenN hp e0 hn rfl (plAt7 h),⟨by omega,by omega,by omega,by omega⟩,?_,fun H' hn h=>hn ▸ kTable o (wkAt89 h),fun r1 _=>⟨rfl,Nat.zero_le _,⟨rfl,?_⟩,fun _=>rfl,fun x2 hx2=>⟨fun q =>?_,fun q =>?_⟩⟩⟩
 ·repeat' first|exact trivial|refine ⟨rfl,?_⟩
 ·repeat' first|exact trivial|refine ⟨rfl,?_⟩
 ·repeat' first|(exact congrArg (fun l=>some (KObj.cells true 1 l)) (krepB _))|exact plainBL _ _|exact trivial|exact wk_refl _|refine ⟨rfl,?_⟩|refine ⟨trivial,?_⟩|apply And.intro
 ·have hx:=of_decide_eq_true q
  have hx':x2<(tbP p).length:=by omega
  have hr:=hT.rl x2 (by omega)
  have hmx:=metTo_len p x2
  refine ⟨by omega,mapAt hx' (by omega),rfl,Nat.zero_le _,⟨rfl,?_⟩,fun _=>rfl,fun x3 hx3=>⟨fun q3 =>?_,fun q3 =>?_⟩⟩
  ·repeat' first|exact plainBL _ _|exact (rn_dV _ _).symm|exact trivial|exact wk_refl _|refine ⟨rfl,?_⟩|refine ⟨trivial,?_⟩|apply And.intro
  ·have h3:=of_decide_eq_true q3
   have hm1:=met1_len (metTo p x2) ((tbP p).getD x2 []) x3
   refine ⟨by omega,boolAt (by omega) (by omega),by omega,boolAt (by omega) (by omega),fun s =>?_,fun s =>?_⟩
   ·refine ⟨by omega,by rw[flat_len boolC_len];omega,rfl,vI64 (by omega),x3+1,by omega,by omega,rfl,?_⟩
    rw[met1_succ,s,Bool.true_or,setl_bo (c:=x3) _ true (by omega) (by omega)]
    repeat' first|exact plainBL _ _|exact (rn_dV _ _).symm|exact trivial|exact wk_refl _|refine ⟨rfl,?_⟩|refine ⟨trivial,?_⟩|apply And.intro
   ·refine ⟨by omega,by rw[flat_len boolC_len];omega,rfl,vI64 (by omega),x3+1,by omega,by omega,rfl,?_⟩
    rw[met1_succ,s,Bool.false_or,setl_bo (c:=x3) _ _ (by omega) (by omega)]
    repeat' first|exact plainBL _ _|exact (rn_dV _ _).symm|exact trivial|exact wk_refl _|refine ⟨rfl,?_⟩|refine ⟨trivial,?_⟩|apply And.intro
  ·have h3:=of_decide_eq_false q3
   have e:met1 (metTo p x2) ((tbP p).getD x2 []) x3=metTo p (x2+1):=by
    show _=met1 (metTo p x2) ((tbP p).getD x2 []) _
    congr 1;omega
   rw[e]
   refine ⟨vI64 (by omega),x2+1,by omega,by omega,rfl,?_⟩
   repeat' first|exact plainBL _ _|exact trivial|exact wk_refl _|refine ⟨rfl,?_⟩|refine ⟨trivial,?_⟩|apply And.intro
 ·have hx:=of_decide_eq_false q
  have e:metTo p x2=metP p:=by
   show _=metTo p _
   congr 1;omega
  rw[e]
  refine ⟨rfl,by omega,boolAt (by omega) (by omega),fun s =>?_,fun s =>?_⟩
  ·rw[show wlP p=[] from if_pos s,show wlE p=9 from if_pos s]
   repeat' first|exact trivial|exact rfl|exact wk_refl _|refine wks_cons ?_ ?_|exact wk_nil _ _ _ (.inl rfl)|refine wk_tupL ?_|refine ⟨rfl,?_⟩|apply And.intro
  ·have hz:wlP p=wlTo p (metP p).length:=if_neg (by rw[s];decide)
   have hze:wlE p=0:=if_neg (by rw[s];decide)
   refine ⟨rfl,Nat.zero_le _,⟨rfl,?_⟩,fun _=>rfl,fun x3 hx3=>⟨fun q3 =>?_,fun q3 =>?_⟩⟩
   ·repeat' first|exact trivial|exact wk_nil _ _ _ (.inl rfl)|refine ⟨rfl,?_⟩|refine ⟨trivial,?_⟩|apply And.intro
   ·have h3:=of_decide_eq_true q3
    have hwl:=wlTo_len p x3
    have no:wlB p x3=false->wlTo p (x3+1)=wlTo p x3:=fun z=>by rw[wlTo_succ,z];exact List.append_nil _
    refine ⟨⟨rfl,trivial⟩,fun H' hn h=>kIs _ _ _ _ (by omega) h.1,fun s1 =>?_,fun s1 =>?_⟩
    ·refine ⟨by omega,boolAt (by omega) (by omega),fun s2 =>?_,fun s2 =>?_⟩
     ·refine ⟨?_,fun H' hn h=>hn ▸ kBeside o (by omega) (wkAt89 h),?_,fun H' hn h=>(kContains (m:=metP p) (by have:=bsP_len p (x3:Int);omega) (fun j hj=>by have:=bs_at o (c:=(x3:Int)) (by omega) hj;omega) (by decide) h.1 h.2.1 (by rw[hm'];exact h.2.2.1) h.2.2.2.1).wkA ⟨wk_QR,wk_refl _,trivial⟩,fun s3 =>?_,fun s3 =>?_⟩
      ·repeat' first|exact trivial|refine ⟨rfl,?_⟩
      ·repeat' first|exact trivial|refine ⟨rfl,?_⟩
      ·have yes:wlTo p (x3+1)=wlTo p x3 ++ [(x3:Int)]:=by rw[wlTo_succ,show wlB p x3=true from by unfold wlB;rw[s1,s2,s3];rfl];rfl
       refine ⟨⟨by omega,by decide,⟨Nat.le_refl _,by rw[flat_len intC_len];omega⟩,⟨Nat.le_refl _,by simp⟩,rfl⟩,rfl,vI64 (by omega),x3+1,by omega,by omega,rfl,?_⟩
       repeat' first|exact wk_snoc yes|exact ob_snoc intC_len yes rfl|exact plainIL _ _|exact trivial|refine ⟨rfl,?_⟩|refine ⟨trivial,?_⟩|apply And.intro
      ·refine ⟨vI64 (by omega),x3+1,by omega,by omega,rfl,?_⟩
       rw[no (by unfold wlB;rw[s3,Bool.and_false,Bool.and_false])]
       repeat' first|exact plainIL _ _|exact trivial|exact wk_refl _|refine ⟨rfl,?_⟩|refine ⟨trivial,?_⟩|apply And.intro
     ·refine ⟨vI64 (by omega),x3+1,by omega,by omega,rfl,?_⟩
      rw[no (by unfold wlB;rw[s2,Bool.false_and,Bool.and_false])]
      repeat' first|exact plainIL _ _|exact trivial|exact wk_refl _|refine ⟨rfl,?_⟩|refine ⟨trivial,?_⟩|apply And.intro
    ·refine ⟨vI64 (by omega),x3+1,by omega,by omega,rfl,?_⟩
     rw[no (by unfold wlB;rw[s1,Bool.false_and])]
     repeat' first|exact plainIL _ _|exact trivial|exact wk_refl _|refine ⟨rfl,?_⟩|refine ⟨trivial,?_⟩|apply And.intro
   ·have h3:=of_decide_eq_false q3
    rw[hz,hze,show x3=(metP p).length by omega]
    repeat' first|exact plainIL _ _|exact trivial|exact wk_refl _|refine ⟨rfl,?_⟩|apply And.intro
def exShp:Shp:=⟨3,6000,800,9000,[(0,1000),(100,800),(200,0)],[(0,0),(200,400)],[(0,0),(400,2000)],0,20,10,100⟩
def hvC:Cell:=⟨⟨0,100⟩,⟨0,150⟩,⟨0,0⟩,⟨0,3⟩⟩
def threeP(a b:Cell):Pl:=⟨3,1,[false,false,false],[⟨3,1,0,[zeroC,a,zeroC]⟩,⟨3,1,1,[zeroC,b,zeroC]⟩],[false,false,false],exShp,80,0,2⟩
theorem ex_e0:errPl (threeP zeroC zeroC)=0:=by kernel_rfl
theorem ex_e1:errPl (threeP hvC zeroC)=0:=by kernel_rfl
theorem ex_e2:errPl (threeP hvC hvC)=0:=by kernel_rfl
theorem ex_a0:arrP (threeP zeroC zeroC)=6:=by kernel_rfl
theorem ex_a1:arrP (threeP hvC zeroC)=12:=by kernel_rfl
theorem ex_a2:arrP (hopeP (threeP hvC hvC))=6:=by kernel_rfl
theorem ex_b0:bestP (threeP zeroC zeroC) 6=[⟨1,0,160,3⟩,⟨2,3,160,6⟩]:=by kernel_rfl
theorem ex_b1:bestP (threeP hvC zeroC) 12=[⟨1,6,160,9⟩,⟨2,9,160,12⟩]:=by kernel_rfl
theorem ex_w2:wlP (threeP hvC hvC)=[1]:=by kernel_rfl
theorem ex_w3:wlE (threeP hvC hvC)=0:=by kernel_rfl
abbrev jp5:List Value:=[nI 4000,nI 8000,nI 14000,nI 24000,nI 40000,nI 90000]
abbrev jpl:=someR (.cells false 0 jp5)
abbrev jp0:List Value:=[nI 3,nI 1,slN 2 3,slN 14 2,slN 3 3,nI 3,nI 6000,nI 800,nI 9000,slN 6 3,slN 7 2,slN 8 2,nI 0,nI 20,nI 10,nI 100,nI 80,nI 0,nI 2]
abbrev jpe:=someR (.cells true 0 jp0)
abbrev jp4:List Value:=[.bool false,.bool false,.bool false]
abbrev jph:=someR (.cells true 1 jp4)
abbrev jp3:List Value:=[nI 3,nI 6000,nI 800,nI 9000,slN 6 3,slN 7 2,slN 8 2,nI 0,nI 20,nI 10,nI 100]
abbrev jpm:=someR (.cells true 0 jp3)
abbrev jp8:List Value:=[nI 0,nI 1000,nI 100,nI 800,nI 200,nI 0]
abbrev jpn:=someR (.cells true 2 jp8)
abbrev jpc:List Value:=[nI 0,nI 0,nI 200,nI 400]
abbrev jpo:=someR (.cells true 2 jpc)
abbrev jpb:List Value:=[nI 0,nI 0,nI 400,nI 2000]
abbrev jpp:=someR (.cells true 2 jpb)
abbrev jp2:List Value:=[nI 0,nI 0,nI 0,nI 0,nI 0,nI 0,nI 0,nI 0,nI 0,nI 0,nI 0,nI 0,nI 0,nI 0,nI 0,nI 0,nI 0,nI 0,nI 0,nI 0,nI 0,nI 0,nI 0,nI 0]
abbrev jpf:List Value:=[nI 3,nI 1,nI 0,slN 9 3]
abbrev jpq:=someR (.cells true 4 jpf)
abbrev jpd:List Value:=[nI 3,nI 1,nI 1,slN 12 3]
abbrev jpr:=someR (.cells true 4 jpd)
abbrev jp6:List Value:=[nI 3,nI 1,nI 0,slN 9 3,nI 3,nI 1,nI 1,slN 12 3]
abbrev jps:=someR (.cells true 4 jp6)
abbrev jpt:KObj:=.cells false 0 jp5
abbrev jpg:KObj:=.cells true 0 jp0
abbrev jpi:KObj:=.cells true 1 jp4
abbrev jpu:KObj:=.cells true 0 jp3
abbrev jpv:KObj:=.cells true 2 jp8
abbrev jpw:KObj:=.cells true 2 jpc
abbrev jpx:KObj:=.cells true 2 jpb
abbrev jpy:KObj:=.cells true 4 jpf
abbrev jpz:KObj:=.cells true 4 jpd
abbrev jp10:KObj:=.cells true 4 jp6
abbrev jp9:List Value:=[.agg #[nI 3,nI 1,slN 2 3,slN 14 2,slN 3 3,nI 3,nI 6000,nI 800,nI 9000,slN 6 3,slN 7 2,slN 8 2,nI 0,nI 20,nI 10,nI 100,nI 80,nI 0,nI 2]]
abbrev jp7:List Value:=[nI 1,nI 0,nI 160,nI 3,nI 2,nI 3,nI 160,nI 6]
abbrev jp11:KObj:=.cells true 4 jp7
abbrev jp1:List Value:=[nI 0,nI 0,nI 0,nI 0,nI 0,nI 0,nI 0,nI 0,nI 0,nI 100,nI 0,nI 150,nI 0,nI 0,nI 0,nI 3,nI 0,nI 0,nI 0,nI 0,nI 0,nI 0,nI 0,nI 0]
abbrev jpj:=someR (.cells true 8 jp1)
abbrev jpk:KObj:=.cells true 8 jp1
abbrev jpa:List Value:=[nI 1,nI 6,nI 160,nI 9,nI 2,nI 9,nI 160,nI 12]
def Rawake(sp:Value)  : Prop :=
 ((jpl/\jpe/\jph/\jph/\jpe/\jpm/\jpn/\jpo/\jpp/\(someR (.cells true 8 jp2))/\jpq/\(someR (.dead))/\(someR (.cells true 8 jp2))/\jpr/\jps/\jpe/\True)/\(∀H':Heap,H'.length=16->(H'[0]?=some jpt/\H'[1]?=some jpg/\H'[2]?=some jpi/\H'[3]?=some jpi/\H'[4]?=some jpg/\H'[5]?=some jpu/\H'[6]?=some jpv/\H'[7]?=some jpw/\H'[8]?=some jpx/\H'[9]?=some (.cells true 8 jp2:KObj)/\H'[10]?=some jpy/\H'[11]?=some (.dead:KObj)/\H'[12]?=some (.cells true 8 jp2:KObj)/\H'[13]?=some jpz/\H'[14]?=some jp10/\H'[15]?=some jpg/\True)->KCall prog 8 jp9 H' [] (Is (.tuple #[slQ 16 1 2,nI 6,nI 0]) (H' ++ [jp11])))/\((jpl/\jpe/\jph/\jph/\jpe/\jpm/\jpn/\jpo/\jpp/\jpj/\jpq/\(someR (.dead))/\(someR (.cells true 8 jp2))/\jpr/\jps/\jpe/\(someR (.cells true 4 jp7))/\True)/\(∀H':Heap,H'.length=17->(H'[0]?=some jpt/\H'[1]?=some jpg/\H'[2]?=some jpi/\H'[3]?=some jpi/\H'[4]?=some jpg/\H'[5]?=some jpu/\H'[6]?=some jpv/\H'[7]?=some jpw/\H'[8]?=some jpx/\H'[9]?=some jpk/\H'[10]?=some jpy/\H'[11]?=some (.dead:KObj)/\H'[12]?=some (.cells true 8 jp2:KObj)/\H'[13]?=some jpz/\H'[14]?=some jp10/\H'[15]?=some jpg/\H'[16]?=some jp11/\True)->KCall prog 8 jp9 H' [] (Is (.tuple #[slQ 17 1 2,nI 12,nI 0]) (H' ++ [(.cells true 4 jpa:KObj)])))/\((jpl/\jpe/\jph/\jph/\jpe/\jpm/\jpn/\jpo/\jpp/\jpj/\jpq/\(someR (.dead))/\jpj/\jpr/\jps/\jpe/\(someR (.cells true 4 jp7))/\(someR (.cells true 4 jpa))/\True)/\(∀H':Heap,H'.length=18->(H'[0]?=some jpt/\H'[1]?=some jpg/\H'[2]?=some jpi/\H'[3]?=some jpi/\H'[4]?=some jpg/\H'[5]?=some jpu/\H'[6]?=some jpv/\H'[7]?=some jpw/\H'[8]?=some jpx/\H'[9]?=some jpk/\H'[10]?=some jpy/\H'[11]?=some (.dead:KObj)/\H'[12]?=some jpk/\H'[13]?=some jpz/\H'[14]?=some jp10/\H'[15]?=some jpg/\H'[16]?=some jp11/\H'[17]?=some (.cells true 4 jpa:KObj)/\True)->KCall prog 17 jp9 H' [] (Is (.tuple #[slQ 18 1 1,nI 0]) (H' ++ [(.cells true 1 [nI 1]:KObj)])))/\((jpl/\jpe/\jph/\jph/\jpe/\jpm/\jpn/\jpo/\jpp/\jpj/\jpq/\(someR (.dead))/\jpj/\jpr/\jps/\jpe/\(someR (.cells true 4 jp7))/\(someR (.cells true 4 jpa))/\(someR (.cells true 1 [nI 1]))/\True)/\(∀H':Heap,H'.length=19->(H'[0]?=some jpt/\H'[1]?=some jpg/\H'[2]?=some jpi/\H'[3]?=some jpi/\H'[4]?=some jpg/\H'[5]?=some jpu/\H'[6]?=some jpv/\H'[7]?=some jpw/\H'[8]?=some jpx/\H'[9]?=some jpk/\H'[10]?=some jpy/\H'[11]?=some (.dead:KObj)/\H'[12]?=some jpk/\H'[13]?=some jpz/\H'[14]?=some jp10/\H'[15]?=some jpg/\H'[16]?=some jp11/\H'[17]?=some (.cells true 4 jpa:KObj)/\H'[18]?=some (.cells true 1 [nI 1]:KObj)/\True)->KCall prog 25 jp9 H' [] (Is (.tuple #[nI 6,nI 0]) H'))/\(.bool true:Value)=sp))))
abbrev jp12:Nat×KObj:=(0,.cells false 0 jp5)
abbrev jp17:Nat×KObj:=(1,.cells true 0 jp0)
abbrev jp18:Nat×KObj:=(2,.cells true 1 jp4)
abbrev jp19:Nat×KObj:=(3,.cells true 1 jp4)
abbrev jp1a:Nat×KObj:=(4,.cells true 0 jp0)
abbrev jp1b:Nat×KObj:=(5,.cells true 0 jp3)
abbrev jp1c:Nat×KObj:=(6,.cells true 2 jp8)
abbrev jp1d:Nat×KObj:=(7,.cells true 2 jpc)
abbrev jp1e:Nat×KObj:=(8,.cells true 2 jpb)
abbrev jp13:Nat×KObj:=(10,.cells true 4 jpf)
abbrev jp14:Nat×KObj:=(13,.cells true 4 jpd)
abbrev jp15:Nat×KObj:=(14,.cells true 4 jp6)
abbrev jp16:Nat×KObj:=(15,.cells true 0 jp0)
theorem Eawake (sp : Value)  : vF prog msk (dm 0) 100000 true 40 true 9 [] (readsK [.cells false 0 jp5]) (some [])
  (.go 61 (.ans [jp12,jp17,jp18,jp19,jp1a,jp1b,jp1c,jp1d,jp1e,(9,.cells true 8 jp2),jp13,(11,.dead),(12,.cells true 8 jp2),jp14,jp15,jp16] (.tuple #[slQ 16 1 2,nI 6,nI 0]) [.cells true 4 jp7] (.go 47 (.ans [jp12,jp17,jp18,jp19,jp1a,jp1b,jp1c,jp1d,jp1e,(9,.cells true 8 jp1),jp13,(11,.dead),(12,.cells true 8 jp2),jp14,jp15,jp16,(16,.cells true 4 jp7)] (.tuple #[slQ 17 1 2,nI 12,nI 0]) [.cells true 4 jpa] (.go 20 (.ans [jp12,jp17,jp18,jp19,jp1a,jp1b,jp1c,jp1d,jp1e,(9,.cells true 8 jp1),jp13,(11,.dead),(12,.cells true 8 jp1),jp14,jp15,jp16,(16,.cells true 4 jp7),(17,.cells true 4 jpa)] (.tuple #[slQ 18 1 1,nI 0]) [.cells true 1 [nI 1]] (.go 5 (.ans [jp12,jp17,jp18,jp19,jp1a,jp1b,jp1c,jp1d,jp1e,(9,.cells true 8 jp1),jp13,(11,.dead),(12,.cells true 8 jp1),jp14,jp15,jp16,(16,.cells true 4 jp7),(17,.cells true 4 jpa),(18,.cells true 1 [nI 1])] (.tuple #[nI 6,nI 0]) [] (.auto)))))))))
  (fun v _ _ => v = sp) = Rawake sp  := by kernel_rfl
end
end Go.Proofs.YtmecpfikljhjaaaDoor
namespace Go.K
variable {P:Program}
theorem VRl.set1{ρ ρ1:Ren}{args l:List Value}{k:Nat}{u u2:Value}(h:VRl ρ args l)(hk:args[k]?=some u)(hle:Ren.le ρ ρ1)(hv:∀x,VR ρ u x->VR ρ1 u2 x):VRl ρ1 (args.set k u2) l:=by
 obtain ⟨h1,h2⟩:=h
 refine ⟨by simpa using h1,fun j v v' a b =>?_⟩
 rw[List.getElem?_set]at a
 split at a
 ·rename_i e;subst e
  split at a
  ·cases a;exact hv _ (h2 k u v' hk b)
  ·cases a
 ·exact (h2 j v v' a b).mono hle
theorem KCall.freeze{f:FuncId}{args:List Value}{H:Heap}{k i id n c z:Nat}{tag:Option Nat}{cs vs:List Value}{Q:Value->Heap->Prop}(hk:args[k]?=some (.agg ⟨vs⟩))(hi:vs[i]?=some (.slice (some ⟨id,0,tag⟩) n c))(htag:tag=none∨tag=some 1)(ho:H[id]?=some (.cells true z cs))
  (h:KCall P f (args.set k (.agg ⟨vs.set i (.iface (n+1) (.agg ⟨cs⟩))⟩)) (H.set id .dead) [] Q):KCall P f args H [id] Q:=by
 refine ⟨h.1,fun B ρ w args' hr ha =>?_⟩
 have key:∃ρ1,Post P B H.length [id] ρ H w ρ1 (H.set id .dead) w/\∀x,VR ρ (.slice (some ⟨id,0,tag⟩) n c) x->VR ρ1 (.iface (n+1) (.agg ⟨cs⟩)) x:=by
  have hM:id<H.length->id ∈ [id]:=fun _=>List.mem_cons_self ..
  cases hid:ρ id with
  |none=>exact ⟨ρ,Post.kill' hr ho rfl hM,fun x hx=>VR.freeze0 htag hid hx⟩
  |some r =>
   have hob:=hr.obj id r _ hid ho
   obtain ⟨_,_,m,ty,fz,hb,_⟩:=hob
   have p:=Post.frz1 (base:=H.length) (M:=[id]) hr hid ho hb hM
   exact ⟨_,p,fun x hx=>VR.freeze (H:=H) htag hid hb (hr.obj id r _ hid ho) p.ext hx⟩
 obtain ⟨ρ1,p,hv⟩:=key
 refine (h.2 B ρ1 w args' p.rel (VRl.set1 ha hk p.ext fun x hx=>VR.aggSet hi p.ext hv hx)).mono ?_
 rintro e w' ⟨v,v',ρ',H',rfl,h1,h2,h3⟩
 exact ⟨v,v',ρ',H',rfl,h1,p.trans (h2.weaken (by simp) (fun _ h _=>by cases h)),h3⟩
def flatC:Value->Bool
 | .bool _| .int _ _| .float _ _| .string _| .pointer none| .pointer (some ⟨_,_,none⟩)| .slice _ _ _| .map _| .nilFunc| .nilIface=>true
 |_=>false
def flatV:Value->Bool
 | .tuple vs=>vs.toList.all flatC
 |v=>flatC v
def flatO:KObj->Bool
 | .cells _ _ cs=>cs.all flatC
 | .dead=>true
 |_=>false
theorem flatC_VR{ρ ρ2:Ren}(hf:ρ2.f=ρ.f){v x:Value}(h:flatC v=true)(hv:VR ρ v x):VR ρ2 v x:=by
 have hg:∀{id:Nat} {r:RI},ρ id=some r->ρ2 id=some r:=fun {id r} q=>by show ρ2.f id=_;rw[hf];exact q
 cases hv with
 |junk v'=>cases h
 |bool b=>exact .bool b
 |int k n=>exact .int k n
 |float k n=>exact .float k n
 |string s=>exact .string s
 |ptrNil=>exact .ptrNil
 |ptr h'=>exact .ptr (hg h')
 |fptr h'=>cases h
 |sliceNil=>exact .sliceNil
 |slice h' hl hc ho=>exact .slice (hg h') hl hc ho
 |slice0 h'=>exact .slice0 (hg h')
 |sliceE=>exact .sliceE
 |sliceQn=>exact .sliceQn
 |sliceQe=>exact .sliceQe
 |sliceQ h' hp hl hc ho=>exact .sliceQ (hg h') hp hl hc ho
 |sliceRe=>exact .sliceRe
 |sliceR h' hp hl hc ho=>exact .sliceR (hg h') hp hl hc ho
 |mapNil=>exact .mapNil
 |map h'=>exact .map (hg h')
 |nilFunc=>exact .nilFunc
 |nilIface=>exact .nilIface
 |func h1 h2 h3 h4=>cases h
 |yield h'=>cases h
 |agg h1 h2=>cases h
 |tuple h1 h2=>cases h
 |deep hm hp hc h1 h2=>cases h
 |deep0=>cases h
 |fsl h' hp hc hs ho=>cases h
 |fsl0=>cases h
 |deepP hm h1 h2=>cases h
theorem flatV_VR{ρ ρ2:Ren}(hf:ρ2.f=ρ.f){v x:Value}(h:flatV v=true)(hv:VR ρ v x):VR ρ2 v x:=by
 cases v with
 |tuple vs =>
  cases hv with
  | @tuple _ cs' h1 h2 =>
   have h':vs.toList.all flatC=true:=h
   rw[List.all_eq_true]at h'
   refine .tuple h1 fun i v v' a b=>flatC_VR hf (h' v ?_) (h2 i v v' a b)
   exact List.mem_of_getElem? (by simpa using a)
 |_=>exact flatC_VR hf h hv
theorem flatO_rel{ρ ρ2:Ren}(hf:ρ2.f=ρ.f){r:RI}{o:KObj}{w:World}(h:flatO o=true)(ho:ObjRel ρ r o w):ObjRel ρ2 r o w:=by
 cases o with
 |cells own z cs =>
  obtain ⟨h1,h2,cs',ty,fz,h3,h4,h5,h6⟩:=ho
  have h':cs.all flatC=true:=h
  rw[List.all_eq_true]at h'
  exact ⟨h1,h2,cs',ty,fz,h3,h4,h5,fun i v a=>let ⟨v',b,c⟩:=h6 i v a; ⟨v',b,flatC_VR hf (h' v (List.mem_of_getElem? a)) c⟩⟩
 |dead=>trivial
 |fam z cs=>trivial
 |map es=>cases h
 |iter m n s=>cases h
 |loop _ _ _ _ _ _ _=>cases h
def Lent(P:Program)(base:Nat)(M L:List Nat)(H H1:Heap)(args args0:List Value):Prop :=
 ∀(B:Nat) (ρ:Ren) (w:World) (xs:List Value),Rel P B ρ H w->VRl ρ args xs->∃ρ1:Ren,Post P B base M ρ H w ρ1 H1 w/\ρ1.f=ρ.f/\ρ1.g=ρ.g /\
  (∀id∈L,∀r,ρ id=some r->∃m,ρ1.mem r.b=some m)/\VRl ρ1 args0 xs
theorem Lent.refl{base:Nat}{H:Heap}{args:List Value}:Lent P base [] [] H H args args:=fun B ρ w xs hr hv=>⟨ρ,Post.refl hr,rfl,rfl,fun id h=>(by cases h),hv⟩
open Classical in
theorem KCall.borrow{f:FuncId}{args args0:List Value}{H H1 new:Heap}{v:Value}{L:List Nat}(hl:Lent P H.length L L H H1 args args0)(hlen:H1.length=H.length)
  (hL:∀id∈L,∃z cs,H[id]?=some (KObj.cells true z cs)) (hflat:∀id o,id ∉ L->H[id]?=some o->flatO o=true) (hnew:∀o∈new,flatO o=true/\o.owned=true) (hv:flatV v=true)
  (h:KCall P f args0 H1 [] (Is v (H1++new))):KCall P f args H [] (Is v (H++new)):=by
 refine ⟨h.1,fun B ρ w args' hr ha =>?_⟩
 obtain ⟨ρ1,p,hf1,hg1,hm1,ha1⟩:=hl B ρ w args'.toList hr ha
 refine (h.2 B ρ1 w args' p.rel ha1).mono ?_
 rintro e w' ⟨u,v',ρ',H2,rfl,h1,q,hu,hH2⟩
 rw[hu]at h1
 subst hH2
 have pq:=p.trans (q.weaken (base':=H.length) (M':=L) (by rw[hlen];exact Nat.le_refl _) (fun _ h _=>by cases h))
 have R:=q.rel
 have f1:∀{id r},ρ1 id=some r->ρ id=some r:=fun {id r} a=>by have:ρ1.f id=some r:=a;rw[hf1]at this;exact this
 let rem:Nat->Prop:=fun x => ∃id∈L,∃r,ρ id=some r/\r.b=x
 have remO:∀{id r},id∈L->ρ id=some r->rem r.b:=fun {id r} a b=>⟨id,a,r,b,rfl⟩
 have remNo:∀{x m},rem x->ρ.mem x=some m->False:=by
  rintro x m ⟨id,hi,r,hid,rfl⟩ hm
  obtain ⟨z,cs,ho⟩:=hL id hi
  exact (hr.mem _ _ hm).2 id r _ hid ho rfl rfl
 have remM:∀{x},rem x->∃m,ρ1.mem x=some m:=by
  rintro x ⟨id,hi,r,hid,rfl⟩
  exact hm1 id hi r hid
 have remW:∀{x},rem x->w'.heap[x]?=w.heap[x]? := by
  rintro x hx
  obtain ⟨m,hm⟩:=remM hx
  obtain ⟨id,hi,r,hid,rfl⟩:=hx
  refine q.keep _ (hr.lt id r hid) ?_
  rintro (⟨id',r',o',a,b,c,d⟩|hfb)
  ·exact (p.rel.mem _ _ hm).2 id' r' o' a b c d
  ·exact p.rel.fam.freeM hm hfb
 let ρ2:Ren:=⟨ρ'.f,fun x=>if rem x then none else ρ'.mem x,ρ'.g⟩
 have hle:Ren.le ρ ρ2:=⟨fun id r a=>pq.ext.f id r a,fun x m a=>by
  show (if rem x then none else ρ'.mem x)=_
  rw[if_neg (fun hx=>remNo hx a)];exact pq.ext.mem x m a,fun F k r a=>pq.ext.g F k r a⟩
 have old:∀{id r},ρ' id=some r->id<H.length->ρ id=some r:=fun {id r} a b=>by
  cases hc:ρ id with
  |none=>exact absurd (pq.new id r a hc) (by omega)
  |some r0 =>
   have:=pq.ext.f id r0 hc
   rw[show ρ'.f id=some r from a]at this;exact this.symm
 have getL:∀{id o},(H++new)[id]?=some o->id<H.length->H[id]?=some o:=fun {id o} a b=>by rw[List.getElem?_append_left b]at a;exact a
 have getN:∀{id o},(H++new)[id]?=some o->¬ id<H.length->(H1++new)[id]?=some o/\flatO o=true/\o.owned=true:=fun {id o} a b=>by
  have hb:H.length<=id:=by omega
  rw[List.getElem?_append_right hb]at a
  have ho:=hnew o (List.mem_of_getElem? a)
  refine ⟨?_,ho⟩
  rw[List.getElem?_append_right (by omega),hlen];exact a
 have getS:∀{id o},(H++new)[id]?=some o->id ∉ L->(H1++new)[id]?=some o/\flatO o=true:=fun {id o} a hn=>by
  by_cases b:id<H.length
  ·have a':=getL a b
   refine ⟨?_,hflat id o hn a'⟩
   rw[List.getElem?_append_left (by omega),p.same id b hn];exact a'
  ·have:=getN a b;exact ⟨this.1,this.2.1⟩
 have Lt:∀{id},id∈L->id<H.length:=fun {id} hi=>by obtain ⟨z,cs,ho⟩:=hL id hi;exact (List.getElem?_eq_some_iff.1 ho).1
 have nofam:∀(F z:Nat) (cs:List Value),(H++new)[F]?=some (.fam z cs)->False:=fun F z cs a=>by
  by_cases hi:F∈L
  ·obtain ⟨z',cs',ho⟩:=hL F hi
   rw[getL a (Lt hi)]at ho;cases ho
  ·have:=(getS a hi).2;cases this
 have lentNew:∀{id r id' r' o'},id∈L->ρ id=some r->ρ' id'=some r'->(H1++new)[id']?=some o'->o'.owned=true->r'.b≠r.b:=fun {id r id' r' o'} hi hid hid' ho' hw'=>by
  obtain ⟨m,hm⟩:=hm1 id hi r hid
  exact (R.mem _ _ (q.ext.mem _ _ hm)).2 id' r' o' hid' ho' hw'
 have rel2:Rel P B ρ2 (H++new) w':=by
  refine ⟨R.bsize,R.glob,fun id r a =>?_,fun id r a=>R.lt id r a,fun id r o a b =>?_,fun id r o a b c =>?_,fun id id' r r' o o' a a' b b' c c' hne =>?_,fun x m a =>?_,FRel.nofam (fun F k r a =>?_) (fun F k r a=>R.fam.lt F k r a) nofam⟩
  ·have:=R.dom id r a
   rw[List.length_append]at this ⊢;omega
  ·by_cases hi:id∈L
   ·have hid:=old a (Lt hi)
    exact (hr.obj id r o hid (getL b (Lt hi))).mono hle (remW (remO hi hid))
   ·obtain ⟨b1,b2⟩:=getS b hi
    exact flatO_rel (ρ:=ρ') (ρ2:=ρ2) rfl b2 (R.obj id r o a b1)
  ·by_cases hi:id∈L
   ·exact hr.base id r o (old a (Lt hi)) (getL b (Lt hi)) c
   ·exact R.base id r o a (getS b hi).1 c
  ·by_cases hi:id∈L
   ·have hid:=old a (Lt hi)
    by_cases hj:id'<H.length
    ·exact hr.sep id id' r r' o o' hid (old a' hj) (getL b (Lt hi)) (getL b' hj) c c' hne
    ·have n':=getN b' hj
     exact fun e=>lentNew hi hid a' n'.1 n'.2.2 e.symm
   ·by_cases hj:id'∈L
    ·have hid':=old a' (Lt hj)
     by_cases hk:id<H.length
     ·exact hr.sep id id' r r' o o' (old a hk) hid' (getL b hk) (getL b' (Lt hj)) c c' hne
     ·exact lentNew hj hid' a (getN b hk).1 c
    ·exact R.sep id id' r r' o o' a a' (getS b hi).1 (getS b' hj).1 c c' hne
  ·have a':(if rem x then none else ρ'.mem x)=some m:=a
   by_cases hx:rem x
   ·rw[if_pos hx]at a';cases a'
   ·rw[if_neg hx]at a'
    refine ⟨(R.mem x m a').1,fun id r o b c d e =>?_⟩
    by_cases hi:id∈L
    ·exact hx (by rw[<- e];exact remO hi (old b (Lt hi)))
    ·exact (R.mem x m a').2 id r o b (getS c hi).1 d e
  ·have:=R.fam.dom F k r a
   rw[List.length_append]at this ⊢;omega
 refine ⟨v,v',ρ2,H++new,rfl,flatV_VR (ρ:=ρ') (ρ2:=ρ2) rfl hv h1,⟨rel2,hle,pq.new,by rw[List.length_append];omega,fun id hb _=>List.getElem?_append_left hb,pq.size,pq.keep,fun b hb ho =>?_,pq.os,pq.tape,pq.output,fun x m a =>?_,pq.drawn,fun F k r a b =>?_⟩,rfl,rfl⟩
 ·rcases ho with ⟨id,r,o,a1,a2,a3,a4⟩|hfb
  ·by_cases hk:id<H.length
   ·exact .inl ⟨id,r,o,old a1 hk,getL a2 hk,a3,a4⟩
   ·exact pq.ob b hb (.inl ⟨id,r,o,a1,(getN a2 hk).1,a3,a4⟩)
  ·exact absurd hfb (FB.none nofam b)
 ·have a':(if rem x then none else ρ'.mem x)=some m:=a
  by_cases hx:rem x
  ·rw[if_pos hx]at a';cases a'
  ·rw[if_neg hx]at a';exact pq.frz x m a'
 ·refine (q.newg F k r a ?_).imp (fun z=>by rw[hlen]at z;exact z) (fun z=>by cases z)
  rw[hg1];exact b
theorem Lent.frzH{base:Nat}{M L M' L':List Nat}{H H1:Heap}{args args0:List Value}(h:Lent P base M L H H1 args args0){hd t A n c zh z:Nat}{tag:Option Nat}{hs row:List Value}(ho:H1[hd]?=some (.cells true zh hs))(hA:H1[A]?=some (.cells true z row))
  (hv:hs[t]?=some (.slice (some ⟨A,0,tag⟩) n c)) (htag:tag=none∨tag=some 1) (hne:A≠hd) (hMh:hd∈M') (hMA:A∈M') (hsub:∀id∈M,id∈M') (hL:∀id∈L',id=A∨id∈L) :
  Lent P base M' L' H ((H1.set A .dead).set hd (KObj.cells true zh (hs.set t (.iface (n+1) (.agg ⟨row⟩))))) args args0:=by
 intro B ρ w xs hr hx
 obtain ⟨ρ1,p,hf,hg,hm,ha⟩:=h B ρ w xs hr hx
 have hr1:=p.rel
 have p':=p.weaken (base':=base) (M':=M') (Nat.le_refl _) (fun id h _=>hsub id h)
 have hget:(H1.set A .dead)[hd]?=some (.cells true zh hs):=by rw[List.getElem?_set_ne hne];exact ho
 cases hid:ρ1 A with
 |none =>
  have p1:=Post.kill' (base:=base) (M:=M') hr1 hA rfl (fun _=>hMA)
  have p2:=Post.resayAt (M:=M') (base:=base) p1.rel (t:=t) (v:=.iface (n+1) (.agg ⟨row⟩)) hget (fun v0 e x hx=>by
   rw[hv]at e;cases e
   exact VR.freeze0 htag hid hx) (fun _=>hMh)
  refine ⟨ρ1,p'.trans (p1.trans p2),hf,hg,fun id hi r hr' =>?_,ha⟩
  rcases hL id hi with rfl|hi
  ·have:ρ1.f id=some r:=by rw[hf];exact hr'
   rw[show ρ1.f id=none from hid]at this;cases this
  ·exact hm id hi r hr'
 |some r =>
  have hob:=hr1.obj A r _ hid hA
  obtain ⟨_,_,m,ty,fz,hbm,_⟩:=hob
  have p1:=Post.frz1 (base:=base) (M:=M') hr1 hid hA hbm (fun _=>hMA)
  have p2:=Post.resayAt (M:=M') (base:=base) p1.rel (t:=t) (v:=.iface (n+1) (.agg ⟨row⟩)) hget (fun v0 e x hx=>by
   rw[hv]at e;cases e
   have hx':VR ρ1 (.slice (some ⟨A,0,tag⟩) n c) x:=by
    rcases htag with rfl|rfl
    ·cases hx with
     |slice h hl hc ho=>exact .slice (ρ:=ρ1) h hl hc ho
     |slice0 h=>exact .slice0 (ρ:=ρ1) h
    ·cases hx with
     |sliceQn=>exact .sliceQn
     |sliceQe=>exact .sliceQe
     |sliceQ h hp hl hc ho=>exact .sliceQ (ρ:=ρ1) h hp hl hc ho
   exact VR.freeze (H:=H1) htag hid hbm (hr1.obj A r _ hid hA) p1.ext hx') (fun _=>hMh)
  refine ⟨_,p'.trans (p1.trans p2),hf,hg,fun id hi r' hr' =>?_,ha.mono p1.ext⟩
  rcases hL id hi with rfl|hi
  ·have e:ρ1.f id=some r':=by rw[hf];exact hr'
   rw[show ρ1.f id=some r from hid]at e;cases e
   exact ⟨m,by show (if _ then _ else _)=_;rw[if_pos rfl]⟩
  ·obtain ⟨m',hm'⟩:=hm id hi r' hr'
   exact ⟨m',p1.ext.mem _ _ hm'⟩
theorem Lent.frzA{base:Nat}{M L M' L':List Nat}{H H1:Heap}{args args0:List Value}(h:Lent P base M L H H1 args args0){k i id n c z:Nat}{tag:Option Nat}{cs vs:List Value}(hk:args0[k]?=some (.agg ⟨vs⟩))(hi:vs[i]?=some (.slice (some ⟨id,0,tag⟩) n c))(htag:tag=none∨tag=some 1)
  (ho:H1[id]?=some (.cells true z cs)) (hMA:id∈M') (hsub:∀id∈M,id∈M') (hL:∀id'∈L',id'=id∨id'∈L) :
  Lent P base M' L' H (H1.set id .dead) args (args0.set k (.agg ⟨vs.set i (.iface (n+1) (.agg ⟨cs⟩))⟩)):=by
 intro B ρ w xs hr hx
 obtain ⟨ρ1,p,hf,hg,hm,ha⟩:=h B ρ w xs hr hx
 have hr1:=p.rel
 have p':=p.weaken (base':=base) (M':=M') (Nat.le_refl _) (fun id h _=>hsub id h)
 cases hid:ρ1 id with
 |none =>
  have p1:=Post.kill' (base:=base) (M:=M') hr1 ho rfl (fun _=>hMA)
  refine ⟨ρ1,p'.trans p1,hf,hg,fun id' hi' r hr' =>?_,VRl.set1 ha hk (Ren.le_refl _) fun x hx=>VR.aggSet hi (Ren.le_refl _) (fun x hx=>VR.freeze0 htag hid hx) hx⟩
  rcases hL id' hi' with rfl|hi'
  ·have:ρ1.f id'=some r:=by rw[hf];exact hr'
   rw[show ρ1.f id'=none from hid]at this;cases this
  ·exact hm id' hi' r hr'
 |some r =>
  have hob:=hr1.obj id r _ hid ho
  obtain ⟨_,_,m,ty,fz,hbm,_⟩:=hob
  have p1:=Post.frz1 (base:=base) (M:=M') hr1 hid ho hbm (fun _=>hMA)
  refine ⟨_,p'.trans p1,hf,hg,fun id' hi' r' hr' =>?_,VRl.set1 ha hk p1.ext fun x hx=>VR.aggSet hi p1.ext (fun x hx=>VR.freeze (H:=H1) htag hid hbm (hr1.obj id r _ hid ho) p1.ext hx) hx⟩
  rcases hL id' hi' with rfl|hi'
  ·have e:ρ1.f id'=some r':=by rw[hf];exact hr'
   rw[show ρ1.f id'=some r from hid]at e;cases e
   exact ⟨m,by show (if _ then _ else _)=_;rw[if_pos rfl]⟩
  ·obtain ⟨m',hm'⟩:=hm id' hi' r' hr'
   exact ⟨m',p1.ext.mem _ _ hm'⟩
end Go.K

namespace Go.Proofs.YtmecpfikljhjaaaDoor
noncomputable section
attribute [local irreducible] vF
theorem newAll_mem:∀{os:List KObj},newAll os->∀o∈os,∃z cs,o=KObj.cells true z cs
 | [],_,o,h=>by cases h
 |p :: os,⟨⟨z,cs,e,_⟩,hs⟩,o,h=>by
  rcases List.mem_cons.1 h with rfl|h
  ·exact ⟨z,cs,e⟩
  ·exact newAll_mem hs o h
theorem thawN{f:FuncId}{args args2:List Value}{H gs new:Heap}(v:Nat->Value)(ht:ThawA prog H.length H args args2 gs)(h:KCall prog f args2 (H++gs) [] (Is (v (H++gs).length) ((H++gs)++new)))(hn:newAll new)
  (hv:rn (sgDrop H.length gs.length new.length) 3 (v H.length)=v (H.length+gs.length)):KCall prog f args H [] (Is (v H.length) (H++new)) :=
 KCall.drop (d:=3) (KCall.thaw ht h) rfl (fun _ _ _=>rfl) (fun _ _ _ h=>by cases h) (by rw[hv,List.length_append]) (newAll_spec hn).2 (newAll_mem hn)
theorem at_old{H gs:Heap}{id:Nat}{o:KObj}(h:H[id]?=some o):(H++gs)[id]?=some o:=by
 rw[List.getElem?_append_left (List.getElem?_eq_some_iff.1 h).1];exact h
def DpAt(H:Heap)(p:Pl)(l n t w i:Nat):Prop :=
 [0,l,n,t,w,i].Nodup/\H[0]?=some strO/\H[l]?=some (.cells true 1 (p.land.flatMap boolC))/\H[n]?=some (.cells true 1 (p.chan.flatMap boolC)) /\
  H[t]?=some (.cells true 2 (p.shp.th.flatMap ptC))/\H[w]?=some (.cells true 2 (p.shp.wa.flatMap ptC))/\H[i]?=some (.cells true 2 (p.shp.ic.flatMap ptC))
abbrev dpV(p:Pl)(l n t w i:Nat):Value:=.agg ⟨(plC p l 0 n t w i).set 3 (.iface (p.cts.length+1) (.agg ⟨p.cts.flatMap chC⟩))⟩
theorem DpAt.pl{H:Heap}{p:Pl}{l n t w i:Nat}(a:DpAt H p l n t w i):PlAt (H ++ [.cells false 0 (p.cts.flatMap chC)]) p l H.length n t w i:=by
 obtain ⟨hn,a0,a1,a3,a4,a5,a6⟩:=a
 have lt:∀{id:Nat} {o:KObj},H[id]?=some o->id≠H.length:=fun {id o} h=>Nat.ne_of_lt (List.getElem?_eq_some_iff.1 h).1
 refine ⟨?_,at_old a0,at_old a1,by simp,at_old a3,at_old a4,at_old a5,at_old a6⟩
 simp only[List.nodup_cons,List.mem_cons,List.not_mem_nil,or_false,not_or,List.nodup_nil,and_true]at hn ⊢
 obtain ⟨⟨h1,h2,h3,h4,h5⟩,⟨h6,h7,h8,h9⟩,⟨h10,h11,h12⟩,⟨h13,h14⟩,h15,_⟩:=hn
 exact ⟨⟨h1,lt a0,h2,h3,h4,h5⟩,⟨lt a1,h6,h7,h8,h9⟩,⟨Ne.symm (lt a3),Ne.symm (lt a4),Ne.symm (lt a5),Ne.symm (lt a6)⟩,⟨h10,h11,h12⟩,⟨h13,h14⟩,h15,not_false⟩
theorem deepN{f:FuncId}{p:Pl}{new:Heap}(v:Nat->Value)(k:∀{H:Heap} {l c n t w i:Nat},PlAt H p l c n t w i->KCall prog f [plV p l c n t w i] H [] (Is (v H.length) (H++new)))(hn:newAll new)
  {H:Heap} (hv:rn (sgDrop H.length 1 new.length) 3 (v H.length)=v (H.length+1)) {l n t w i:Nat} (a:DpAt H p l n t w i):KCall prog f [dpV p l n t w i] H [] (Is (v H.length) (H++new)) :=
 thawN v (ThawA.agg (i:=3) rfl ThawA.nil) (k a.pl) hn hv
theorem wk_nR{id o l:Nat}:wk (.slice (some ⟨id,o,none⟩) l l) (.slice (some ⟨id,o,some 2⟩) l l):=by
 intro ρ x hx
 cases hx with
 |slice h hl hc ho =>
  cases l with
  |zero=>exact .sliceRe
  |succ l=>exact .sliceR h (Nat.succ_pos _) hl hc ho
 |slice0 h=>exact .sliceRe
def atAll(H:Heap):Nat->List KObj->Prop
 |_,[] =>True
 |k,o :: os=>H[k]?=some o/\atAll H (k+1) os
theorem atAll_drop{H:Heap}:∀{os:List KObj} {k:Nat},atAll H k os->H.length=k+os.length->H.drop k=os
 | [],k,_,hl=>List.drop_eq_nil_of_le (by simp at hl;omega)
 |o :: os,k,⟨h1,h2⟩,hl=>by
  have hk:k<H.length:=(List.getElem?_eq_some_iff.1 h1).1
  rw[List.drop_eq_getElem_cons hk,atAll_drop h2 (by rw[hl,List.length_cons];omega)]
  congr 1
  rw[List.getElem?_eq_getElem hk]at h1
  exact Option.some.inj h1
theorem atAll_eq{H:Heap}{os:List KObj}(h:atAll H 0 os)(hl:H.length=os.length):H=os:=by
 have:=atAll_drop h (by omega)
 rwa [List.drop_zero]at this
def flatAll:Nat->List Nat->List KObj->Bool
 |_,_,[] =>true
 |k,L,o :: os=>(L.contains k ||flatO o)&&flatAll (k+1) L os
theorem flatAll_at{L:List Nat}:∀{os:List KObj} {k:Nat},flatAll k L os=true->∀(i:Nat) (o:KObj),k+i ∉ L->os[i]?=some o->flatO o=true
 | [],_,_,i,o,_,h=>by cases h
 |q :: os,k,hf,i,o,hn,h=>by
  have hf':((L.contains k ||flatO q)&&flatAll (k+1) L os)=true:=hf
  rw[Bool.and_eq_true,Bool.or_eq_true]at hf'
  cases i with
  |zero =>
   cases h
   rcases hf'.1 with g|g
   ·exact absurd (by simpa using g) hn
   ·exact g
  |succ i=>exact flatAll_at hf'.2 i o (by rw[show k+1+i=k+(i+1) by omega];exact hn) h
abbrev twoC(a b:Value):List Value:=[nI 3,nI 1,nI 0,a,nI 3,nI 1,nI 1,b]
abbrev lentH(H:Heap)(c9 c12:List Value):Heap :=
 ((((H.set 9 .dead).set 14 (.cells true 4 (twoC (.iface 4 (.agg ⟨c9⟩)) (slN 12 3)))).set 12 .dead).set 14 (.cells true 4 (twoC (.iface 4 (.agg ⟨c9⟩)) (.iface 4 (.agg ⟨c12⟩))))).set 14 .dead
theorem liveP{f:FuncId}{H new:Heap}{v:Value}{c9 c12 vs:List Value}(h9:H[9]?=some (.cells true 8 c9))(h12:H[12]?=some (.cells true 8 c12))(h14:H[14]?=some (.cells true 4 (twoC (slN 9 3) (slN 12 3))))
  (hflat:flatAll 0 [14,12,9] H=true) (hnew:∀o∈new,flatO o=true/\o.owned=true) (hv:flatV v=true) (hk:vs[3]?=some (slN 14 2))
  (k:KCall prog f [.agg ⟨vs.set 3 (.iface 3 (.agg ⟨twoC (.iface 4 (.agg ⟨c9⟩)) (.iface 4 (.agg ⟨c12⟩))⟩))⟩] (lentH H c9 c12) [] (Is v (lentH H c9 c12++new))):KCall prog f [.agg ⟨vs⟩] H [] (Is v (H++new)):=by
 have b9:9<H.length:=(List.getElem?_eq_some_iff.1 h9).1
 have b12:12<H.length:=(List.getElem?_eq_some_iff.1 h12).1
 have b14:14<H.length:=(List.getElem?_eq_some_iff.1 h14).1
 have l0:Lent prog H.length [] [] H H [.agg ⟨vs⟩] [.agg ⟨vs⟩]:=Lent.refl
 have l1:=l0.frzH (M':=[14,12,9]) (L':=[9]) (hd:=14) (t:=3) (A:=9) (n:=3) (c:=3) (tag:=none) h14 h9 rfl (.inl rfl) (by decide) (by decide) (by decide) (fun _ h=>by cases h) (fun id h => .inl (List.mem_singleton.1 h))
 have l2:=l1.frzH (M':=[14,12,9]) (L':=[12,9]) (hd:=14) (t:=7) (A:=12) (n:=3) (c:=3) (tag:=none) (zh:=4) (z:=8) (row:=c12) (hs:=twoC (.iface 4 (.agg ⟨c9⟩)) (slN 12 3)) (by rw[List.getElem?_set_self (by rw[List.length_set];exact b14)];rfl) (by rw[List.getElem?_set_ne (by decide),List.getElem?_set_ne (by decide)];exact h12) rfl (.inl rfl) (by decide) (by decide) (by decide) (fun _ h=>h) (fun id h=>by
  rcases List.mem_cons.1 h with h|h
  ·exact .inl h
  ·exact .inr h)
 have l3:=l2.frzA (M':=[14,12,9]) (L':=[14,12,9]) (k:=0) (i:=3) (id:=14) (n:=2) (c:=2) (tag:=none) (z:=4) (vs:=vs) (cs:=twoC (.iface 4 (.agg ⟨c9⟩)) (.iface 4 (.agg ⟨c12⟩))) rfl hk (.inl rfl) (by rw[List.getElem?_set_self (by rw[List.length_set,List.length_set,List.length_set];exact b14)];rfl) (by decide) (fun _ h=>h) (fun id h=>by
  rcases List.mem_cons.1 h with h|h
  ·exact .inl h
  ·exact .inr h)
 refine KCall.borrow l3 (by simp only[List.length_set]) (fun id hi =>?_) (fun id o hn ho=>flatAll_at hflat id o (by rw[Nat.zero_add];exact hn) ho) hnew hv k
 simp only[List.mem_cons,List.not_mem_nil,or_false]at hi
 rcases hi with rfl|rfl|rfl
 ·exact ⟨_,_,h14⟩
 ·exact ⟨_,_,h12⟩
 ·exact ⟨_,_,h9⟩
theorem exLs0:bestLs (threeP zeroC zeroC)=[⟨1,0,160,3⟩,⟨2,3,160,6⟩]:=by unfold bestLs;rw[ex_a0,if_neg (by decide)];exact ex_b0
theorem exT0:bestT (threeP zeroC zeroC)=6:=by unfold bestT;rw[ex_a0,if_neg (by decide)]
theorem exE0:bestE (threeP zeroC zeroC)=0:=by unfold bestE;rw[ex_a0,if_neg (by decide)]
theorem exLs1:bestLs (threeP hvC zeroC)=[⟨1,6,160,9⟩,⟨2,9,160,12⟩]:=by unfold bestLs;rw[ex_a1,if_neg (by decide)];exact ex_b1
theorem exT1:bestT (threeP hvC zeroC)=12:=by unfold bestT;rw[ex_a1,if_neg (by decide)]
theorem exE1:bestE (threeP hvC zeroC)=0:=by unfold bestE;rw[ex_a1,if_neg (by decide)]
theorem exT2:bestT (hopeP (threeP hvC hvC))=6:=by unfold bestT;rw[ex_a2,if_neg (by decide)]
theorem exE2:bestE (hopeP (threeP hvC hvC))=0:=by unfold bestE;rw[ex_a2,if_neg (by decide)]
abbrev exVs:List Value:=[nI 3,nI 1,slN 2 3,slN 14 2,slN 3 3,nI 3,nI 6000,nI 800,nI 9000,slN 6 3,slN 7 2,slN 8 2,nI 0,nI 20,nI 10,nI 100,nI 80,nI 0,nI 2]
theorem exWk(c9 c12:List Value)(a b:Cell)(h9:c9=[zeroC,a,zeroC].flatMap cellC)(h12:c12=[zeroC,b,zeroC].flatMap cellC):wks [.agg ⟨exVs.set 3 (.iface 3 (.agg ⟨twoC (.iface 4 (.agg ⟨c9⟩)) (.iface 4 (.agg ⟨c12⟩))⟩))⟩] [dpV (threeP a b) 2 3 6 7 8]:=by
 subst h9 h12
 exact ⟨wk_aggL ⟨wk_refl _,wk_refl _,wk_nR,wk_refl _,wk_nR,wk_refl _,wk_refl _,wk_refl _,wk_refl _,wk_nR,wk_nR,wk_nR,wk_refl _,wk_refl _,wk_refl _,wk_refl _,wk_refl _,wk_refl _,wk_refl _,trivial⟩,trivial⟩
def Rclone(cs:List Cht):Prop :=
 (ck (cs.length=0) False (((0+cs.length)*48<=2 ^ 44/\cs.length≠0/\(0<=0/\0+0*4<=List.length ([]:List Value))/\(cs.length<=cs.length/\0+cs.length*4<=List.length (cs.flatMap chC))/\((((cs.flatMap chC).drop 0).take (cs.length*4)):List Value).all (fun v=>one1 v)=true)/\true=true/\(true=true/\wk (slN 3 (0+cs.length):Value) (rn (sg 2 [(2,3)]) 3 (slQ 2 1 cs.length:Value))/\((kbq 2 (.cells true 4 (((([]:List Value).drop 0).take (0*4))++(((cs.flatMap chC).drop 0).take (cs.length*4)))) (.cells true 4 (cs.flatMap chC)))/\True))))
abbrev jo2:List Value:=[nI 4000,nI 8000,nI 14000,nI 24000,nI 40000,nI 90000]
theorem Eclone(cs:List Cht):vF prog msk (dm 0) 100000 true 40 true 64 [slN 1 cs.length] (readsK [.cells false 0 jo2,.cells false 0 (cs.flatMap chC)]) (some [])
 (.go 5 (.cas (cs.length=0) (.again []) (.need (.go 0 (.again [(2,3)])))))
 (newK ((readsK [.cells false 0 jo2,.cells false 0 (cs.flatMap chC)]):HT).n 3 (slQ 2 1 cs.length) [(true,.cells true 4 (cs.flatMap chC))])=Rclone cs:=by kernel_rfl
abbrev joq:KObj:=.cells false 0 jo2
abbrev jof(p:Pl):=p.land.flatMap boolC
abbrev joj(p:Pl):=p.cts.flatMap chC
abbrev jo8(p:Pl):Prop:=(someR (.cells true 1 (p.chan.flatMap boolC)))/\(someR (.cells true 2 (p.shp.th.flatMap ptC)))/\(someR (.cells true 2 (p.shp.wa.flatMap ptC)))/\(someR (.cells true 2 (p.shp.ic.flatMap ptC)))/\True
abbrev jo7(H':Heap)(p:Pl):Prop:=H'[3]?=some (.cells true 1 (p.chan.flatMap boolC):KObj)/\H'[4]?=some (.cells true 2 (p.shp.th.flatMap ptC):KObj)/\H'[5]?=some (.cells true 2 (p.shp.wa.flatMap ptC):KObj)/\H'[6]?=some (.cells true 2 (p.shp.ic.flatMap ptC):KObj)/\True
abbrev jo5(p:Pl):List Value:=[.agg #[nI p.w,nI p.h,slQ 1 2 p.land.length,slQ 2 2 p.cts.length,slQ 3 2 p.chan.length,nI p.shp.cls,nI p.shp.pow,nI p.shp.dra,nI p.shp.ton,slQ 4 2 p.shp.th.length,slQ 5 2 p.shp.wa.length,slQ 6 2 p.shp.ic.length,nI p.shp.slow,nI p.shp.brash,nI p.shp.rdg,nI p.shp.prs,nI p.size,nI p.frm,nI p.to]]
abbrev joi(p:Pl):Int:=(p.cts.length:Nat)
abbrev jod(p:Pl):Prop:=eR (pt 7)/\eR (nI 0)/\eR (nI 0)/\eR (.func (.func 63) #[] #[])/\wR (slQ 8 1 p.cts.length)/\eR (nI (joi p))/\True
abbrev jor(p:Pl)(x2:Nat):=lstTo p.cts x2
abbrev jo3(p:Pl)(x2:Nat):=List.length ((jor p x2).getD x2 zCh).cells
abbrev jo4(p:Pl)(x2:Nat):Value:=.agg ⟨(List.flatMap cellC ((jor p x2).getD x2 zCh).cells)⟩
abbrev joe(p:Pl)(x2:Nat):Value:=.agg #[nI ((jor p x2).getD x2 zCh).w,nI ((jor p x2).getD x2 zCh).h,nI ((jor p x2).getD x2 zCh).hr,.iface ((jo3 p x2)+1) (jo4 p x2)]
abbrev joh(p:Pl)(x2:Nat):Value:=.iface ((jo3 p x2)+1) (jo4 p x2)
abbrev jo1(p:Pl)(x2 x3:Nat):=List.getD ((jor p x2).getD x2 zCh).cells x3 zeroC
abbrev jo9(p:Pl)(x2 x3:Nat):Value:=.agg #[nI (jo1 p x2 x3).conc.lo,nI (jo1 p x2 x3).conc.hi,nI (jo1 p x2 x3).thick.lo,nI (jo1 p x2 x3).thick.hi,nI (jo1 p x2 x3).ridge.lo,nI (jo1 p x2 x3).ridge.hi,nI (jo1 p x2 x3).press.lo,nI (jo1 p x2 x3).press.hi]
abbrev joa(p:Pl)(x2 x3:Nat):=leTo ((jor p x2).getD x2 zCh) x3
abbrev job(p:Pl)(x2 x3:Nat):List Value:=[nI (jo1 p x2 x3).conc.lo,nI (jo1 p x2 x3).conc.lo,nI (jo1 p x2 x3).thick.lo,nI (jo1 p x2 x3).thick.lo,nI (jo1 p x2 x3).ridge.lo,nI (jo1 p x2 x3).ridge.lo,nI (jo1 p x2 x3).press.lo,nI (jo1 p x2 x3).press.lo]
abbrev joc(p:Pl):=List.flatMap chC (hopeP p).cts
abbrev jo0(p:Pl):List Value:=[nI p.w,nI p.h,slQ 1 2 p.land.length,slQ 9 2 (List.length (hopeP p).cts),slQ 3 2 p.chan.length,nI p.shp.cls,nI p.shp.pow,nI p.shp.dra,nI p.shp.ton,slQ 4 2 p.shp.th.length,slQ 5 2 p.shp.wa.length,slQ 6 2 p.shp.ic.length,nI p.shp.slow,nI p.shp.brash,nI p.shp.rdg,nI p.shp.prs,nI p.size,nI p.frm,nI p.to,nI (endP (hopeP p)),.map (some 11)]
abbrev jog(p:Pl):=knE (Memo.nil (sfP (hopeP p))).1
abbrev jok(p:Pl):=rn (sg 7 []) 3 (.tuple #[nI (bestT (hopeP p)),nI (bestE (hopeP p))]:Value)
def RHope(p:Pl):Prop :=
 (((someR joq)/\(someR (.cells true 1 (jof p)))/\(someR (.cells false 0 (joj p)))/\jo8 p)/\(∀H':Heap,H'.length=8->(H'[0]?=some (.cells false 0 jo2:KObj)/\H'[1]?=some (.cells true 1 (jof p):KObj)/\H'[2]?=some (.cells false 0 (joj p):KObj)/\jo7 H' p)->KCall prog 47 (jo5 p) H' [] (Is (nI 0) H'))/\(n2q 8 0 joq 2 (.cells false 0 (joj p)) 64 [slQ 2 2 p.cts.length] (slQ 8 1 p.cts.length) [(.cells true 4 (joj p):KObj)] (lq (0<=List.length p.cts) (true=true/\((nI 0:Value)=nI ((0:Nat):Int)/\jod p)/\((kbq 9 (.cells true 4 (joj p)) (.cells true 4 ((lstTo p.cts 0).flatMap chC)))/\True)/\(True)/\(True)) (∀x2:Nat,(x2<=List.length p.cts)->(fk (decide (((x2:Int):Int)<(joi p))) ((ixq (x2:Int) p.cts.length)/\((partA 4 ((jor p x2).flatMap chC) (0+Int.toNat (x2:Int)*4)=some (joe p x2))/\(lq (0<=List.length ((jor p x2).getD x2 zCh).cells) (true=true/\((nI 0:Value)=nI ((0:Nat):Int)/\wk (.slice none 0 0:Value) (slQ 0 1 (leTo ((jor p x2).getD x2 zCh) 0).length:Value)/\eR (nI (joi p))/\wR (slQ 8 1 p.cts.length)/\eR (.func (.func 63) #[] #[])/\eR (nI 0)/\eR (nI 0)/\eR (pt 7)/\eR (nI (x2:Int))/\eR (pt 9)/\eR (nI (x2:Int))/\(joh p x2)=rn (sg 10 []) 3 (joh p x2)/\eR (nI (((jo3 p x2):Nat):Int))/\True)/\(True)/\(True/\True)/\(True)) (∀x3:Nat,(x3<=List.length ((jor p x2).getD x2 zCh).cells)->(fk (decide (((x3:Int):Int)<(((jo3 p x2):Nat):Int))) ((ixq (x3:Int) (jo3 p x2))/\((partA 8 (List.flatMap cellC ((jor p x2).getD x2 zCh).cells) (Int.toNat (x3:Int)*8)=some (jo9 p x2 x3))/\(apq (joa p x2 x3).length 64 8 ((joa p x2 x3).flatMap cellC) (job p x2 x3) (nw ((x3:Int)+1) (∃x3':Nat,(x3'<=List.length ((jor p x2).getD x2 zCh).cells)/\(List.length ((jor p x2).getD x2 zCh).cells-x3')<(List.length ((jor p x2).getD x2 zCh).cells-x3)/\true=true/\((nI ((x3:Int)+1):Value)=nI (x3':Int)/\wk (slN 13 ((joa p x2 x3).length+1):Value) (slQ 13 1 (leTo ((jor p x2).getD x2 zCh) x3').length:Value)/\eR (nI (joi p))/\wR (slQ 8 1 p.cts.length)/\eR (.func (.func 63) #[] #[])/\eR (nI 0)/\eR (nI 0)/\eR (pt 7)/\eR (nI (x2:Int))/\eR (pt 9)/\eR (nI (x2:Int))/\(joh p x2)=rn (sg 10 [(10,13)]) 3 (joh p x2)/\eR (nI (((jo3 p x2):Nat):Int))/\True)/\(True)/\((kbq 10 (.cells true 8 (((((joa p x2 x3).flatMap cellC).drop 0).take ((joa p x2 x3).length*8))++((((job p x2 x3):List Value).drop 0).take (1*8)))) (.cells true 8 ((leTo ((jor p x2).getD x2 zCh) x3').flatMap cellC)))/\True)/\(True)))))) ((ixq (x2:Int) p.cts.length)/\((((0+Int.toNat (x2:Int)*4)+3)+1<=List.length ((jor p x2).flatMap chC))/\true=true/\(nw ((x2:Int)+1) (∃x2':Nat,(x2'<=List.length p.cts)/\(List.length p.cts-x2')<(List.length p.cts-x2)/\true=true/\((nI ((x2:Int)+1):Value)=nI (x2':Int)/\jod p)/\((kbq 9 (.cells true 4 (setl ((jor p x2).flatMap chC) ((0+Int.toNat (x2:Int)*4)+3) [.iface ((joa p x2 x3).length+1) (.agg ⟨((joa p x2 x3).flatMap cellC)⟩)])) (.cells true 4 ((lstTo p.cts x2').flatMap chC)))/\True)/\(True)/\(True)))))))))) ((some (.cells true 4 ((jor p x2).flatMap chC):KObj)=some (.cells true 4 (joc p):KObj))/\(((.agg #[nI p.w,nI p.h,slQ 1 2 p.land.length,slQ 9 2 p.cts.length,slQ 3 2 p.chan.length,nI p.shp.cls,nI p.shp.pow,nI p.shp.dra,nI p.shp.ton,slQ 4 2 p.shp.th.length,slQ 5 2 p.shp.wa.length,slQ 6 2 p.shp.ic.length,nI p.shp.slow,nI p.shp.brash,nI p.shp.rdg,nI p.shp.prs,nI p.size,nI p.frm,nI p.to]:Value) = .agg #[nI p.w,nI p.h,slQ 1 2 p.land.length,slQ 9 2 (List.length (hopeP p).cts),slQ 3 2 p.chan.length,nI p.shp.cls,nI p.shp.pow,nI p.shp.dra,nI p.shp.ton,slQ 4 2 p.shp.th.length,slQ 5 2 p.shp.wa.length,slQ 6 2 p.shp.ic.length,nI p.shp.slow,nI p.shp.brash,nI p.shp.rdg,nI p.shp.prs,nI p.size,nI p.frm,nI p.to])/\(((someR joq)/\(someR (.cells true 1 (jof p)))/\(someR (.cells false 0 (joc p)))/\jo8 p)/\(∀H':Heap,H'.length=10->(H'[0]?=some (.cells false 0 jo2:KObj)/\H'[1]?=some (.cells true 1 (jof p):KObj)/\H'[9]?=some (.cells false 0 (joc p):KObj)/\jo7 H' p)->KCall prog 30 [.agg #[nI p.w,nI p.h,slQ 1 2 p.land.length,slQ 9 2 (List.length (hopeP p).cts),slQ 3 2 p.chan.length,nI p.shp.cls,nI p.shp.pow,nI p.shp.dra,nI p.shp.ton,slQ 4 2 p.shp.th.length,slQ 5 2 p.shp.wa.length,slQ 6 2 p.shp.ic.length,nI p.shp.slow,nI p.shp.brash,nI p.shp.rdg,nI p.shp.prs,nI p.size,nI p.frm,nI p.to]] H' [] (Is (.tuple #[pt 10,nI 0]) (H' ++ [(.cells true 0 (jo0 p):KObj),(.map (jog p):KObj)])))/\(((someR joq)/\(someR (.cells true 0 (jo0 p)))/\(someR (.cells true 1 (jof p)))/\(someR (.cells false 0 (joc p)))/\(someR (.cells true 1 (p.chan.flatMap boolC)))/\(someR (.cells true 2 (p.shp.th.flatMap ptC)))/\(someR (.cells true 2 (p.shp.wa.flatMap ptC)))/\(someR (.cells true 2 (p.shp.ic.flatMap ptC)))/\(someR (.map (jog p)))/\True)/\(∀H':Heap,H'.length=12->(H'[0]?=some (.cells false 0 jo2:KObj)/\H'[10]?=some (.cells true 0 (jo0 p):KObj)/\H'[1]?=some (.cells true 1 (jof p):KObj)/\H'[9]?=some (.cells false 0 (joc p):KObj)/\H'[3]?=some (.cells true 1 (p.chan.flatMap boolC):KObj)/\H'[4]?=some (.cells true 2 (p.shp.th.flatMap ptC):KObj)/\H'[5]?=some (.cells true 2 (p.shp.wa.flatMap ptC):KObj)/\H'[6]?=some (.cells true 2 (p.shp.ic.flatMap ptC):KObj)/\H'[11]?=some (.map (jog p):KObj)/\True)->KCall prog 31 [pt 10] H' [11] (fun y H2 => ∃z:Memo (sfP (hopeP p)),True/\y=nI (arrP (hopeP p))/\H2=(List.set H' 11 (.map (knE z.1):KObj))))/\(∀r4:Memo (sfP (hopeP p)),True->(fk (decide (((arrP (hopeP p)):Int)<0)) (true=true/\wk (.tuple #[nI 0,nI 51]:Value) (jok p)/\(True)) (true=true/\wk (.tuple #[nI (arrP (hopeP p)),nI 0]:Value) (jok p)/\(True)))))))))))))
abbrev jo6(p:Pl):=readsK [.cells false 0 jo2,.cells true 1 (jof p),.cells false 0 (joj p),.cells true 1 (p.chan.flatMap boolC),.cells true 2 (p.shp.th.flatMap ptC),.cells true 2 (p.shp.wa.flatMap ptC),.cells true 2 (p.shp.ic.flatMap ptC)]
abbrev jol:Nat×KObj:=(0,.cells false 0 jo2)
abbrev jom(p:Pl):Nat×KObj:=(3,.cells true 1 (p.chan.flatMap boolC))
abbrev jon(p:Pl):Nat×KObj:=(4,.cells true 2 (p.shp.th.flatMap ptC))
abbrev joo(p:Pl):Nat×KObj:=(5,.cells true 2 (p.shp.wa.flatMap ptC))
abbrev jop(p:Pl):Nat×KObj:=(6,.cells true 2 (p.shp.ic.flatMap ptC))
theorem EHope(p:Pl):vF prog msk (dm 0) 100000 true 40 true 25 (jo5 p) (jo6 p) (some [])
 (.go 3 (.ans [jol,(1,.cells true 1 (jof p)),(2,.cells false 0 (joj p)),(jom p),(jon p),(joo p),(jop p)] (nI 0) [] (.go 6 (.ans [jol,(2,.cells false 0 (joj p))] (slQ 8 1 p.cts.length) [.cells true 4 (joj p)] (.go 5 (.inv 3 (Nat) (0) [] [8] (fun x2=>[(26,nI (x2:Int)),(1,pt 7),(2,nI 0),(3,nI 0),(5,.func (.func 63) #[] #[]),(24,slQ 8 1 p.cts.length),(25,nI (joi p))]) (fun x2=>[(8,true,.cells true 4 ((jor p x2).flatMap chC))]) (fun x2=>[]) (fun x2=>[]) (fun x2=>(x2<=List.length p.cts)) (fun x2=>(List.length p.cts-x2)) (fun x2 => .go 0 (.fork (.go 0 (.need (.val (joe p x2) (.go 7 (.inv 3 (Nat) (0) [] [] (fun x3=>[(34,nI (x3:Int)),(8,slQ 10 1 (joa p x2 x3).length),(25,nI (joi p)),(24,slQ 8 1 p.cts.length),(5,.func (.func 63) #[] #[]),(3,nI 0),(2,nI 0),(1,pt 7),(26,nI (x2:Int)),(7,pt 9),(6,nI (x2:Int)),(32,.iface ((jo3 p x2)+1) (jo4 p x2)),(33,nI (((jo3 p x2):Nat):Int))]) (fun x3=>[]) (fun x3=>[(true,.cells true 8 ((joa p x2 x3).flatMap cellC))]) (fun x3=>[]) (fun x3=>(x3<=List.length ((jor p x2).getD x2 zCh).cells)) (fun x3=>(List.length ((jor p x2).getD x2 zCh).cells-x3)) (fun x3 => .go 0 (.fork (.need (.val (jo9 p x2 x3) (.go 52 (.need (.go 1 (.slot 58 (nI ((x3:Int)+1)) (.go 0 (.again [(10,13)])))))))) (.go 3 (.frz [62] (.need (.go 0 (.need (.go 0 (.slot 65 (nI ((x2:Int)+1)) (.go 0 (.again [])))))))))))))))) (.obj 8 (.cells true 4 (joc p)) (.go 0 (.tab [.tog 67 3,.tog 67 3] (.slot 67 (.agg #[nI p.w,nI p.h,slQ 1 2 p.land.length,slQ 9 2 (List.length (hopeP p).cts),slQ 3 2 p.chan.length,nI p.shp.cls,nI p.shp.pow,nI p.shp.dra,nI p.shp.ton,slQ 4 2 p.shp.th.length,slQ 5 2 p.shp.wa.length,slQ 6 2 p.shp.ic.length,nI p.shp.slow,nI p.shp.brash,nI p.shp.rdg,nI p.shp.prs,nI p.size,nI p.frm,nI p.to]) (.ans [jol,(1,.cells true 1 (jof p)),(9,.cells false 0 (joc p)),(jom p),(jon p),(joo p),(jop p)] (.tuple #[pt 10,nI 0]) [.cells true 0 (jo0 p),.map (jog p)] (.go 8 (.anse [jol,(10,.cells true 0 (jo0 p)),(1,.cells true 1 (jof p)),(9,.cells false 0 (joc p)),(jom p),(jon p),(joo p),(jop p),(11,.map (jog p))] [11] (Memo (sfP (hopeP p))) (fun r4=>True) (fun r4=>nI (arrP (hopeP p))) (fun r4=>[(11,.map (knE r4.1))]) (fun r4=>[]) (fun r4 => .go 2 (.fork (.go 1 (.again [])) (.go 2 (.again [])))))))))))))))))))
 (newK ((jo6 p):HT).n 3 (.tuple #[nI (bestT (hopeP p)),nI (bestE (hopeP p))]) [])=RHope p:=by kernel_rfl
theorem errUp_zero{e:Nat->Int}:∀{n:Nat},(∀i,i<n->e i=0)->errUp e n=0
 |0,_=>rfl
 |n+1,h=>errUp_succ (errUp_zero fun i hi=>h i (by omega)) (h n (by omega))
theorem le_right{c:Cell}(h:rightC c):rightC (leC c):=by
 unfold rightC rightSp leC leS at *
 dsimp only at *
 omega
theorem errs_le{l:List Cell}(h:errs errCell l=0):errs errCell (l.map leC)=0:=by
 induction l with
 |nil=>rfl
 |cons x l ih =>
  have h0:(if errCell x=0 then errs errCell l else errCell x)=0:=h
  split at h0
  ·rename_i hx
   show (if errCell (leC x)=0 then errs errCell (l.map leC) else errCell (leC x))=0
   rw[if_pos (errCell_iff.2 (le_right (errCell_iff.1 hx)))];exact ih h0
  ·rename_i hx;exact absurd h0 hx
theorem leTo_all(c:Cht):leTo c c.cells.length=c.cells.map leC:=by unfold leTo;rw[List.take_length]
theorem hope_cht{p:Pl}(e:∀i,i<p.cts.length->errCht p i=0):∀i,i<p.cts.length->errCht (hopeP p) i=0:=by
 intro i hi
 have h:=e i hi
 have g1:(hopeP p).cts.getD i zCh=leH (p.cts.getD i zCh):=by
  show (lstTo p.cts p.cts.length).getD i zCh=_
  rw[lstTo_get _ _ (Nat.le_refl _) i hi,if_pos hi]
 have g0:(hopeP p).cts.getD 0 zCh=leH (p.cts.getD 0 zCh):=by
  show (lstTo p.cts p.cts.length).getD 0 zCh=_
  rw[lstTo_get _ _ (Nat.le_refl _) 0 (by omega),if_pos (by omega)]
 unfold errCht at h ⊢
 dsimp only at h ⊢
 rw[g1,g0]
 obtain ⟨h1,h2⟩:=first2_0 h
 have h3:errChart (p.cts.getD i zCh).w (p.cts.getD i zCh).h (p.cts.getD i zCh).hr (leTo (p.cts.getD i zCh) (p.cts.getD i zCh).cells.length)=0:=by
  unfold errChart at h1 ⊢
  obtain ⟨k1,k2⟩:=first2_0 h1
  rw[leTo_all,List.length_map,k1,first2_2 rfl]
  split at k2
  ·rename_i q;rw[if_pos q];exact errs_le k2
  ·cases k2
 show first2 (errChart _ _ _ (leTo _ _)) _=0
 rw[show errChart (leH (p.cts.getD i zCh)).w (leH (p.cts.getD i zCh)).h (leH (p.cts.getD i zCh)).hr (leTo (p.cts.getD i zCh) (p.cts.getD i zCh).cells.length)=0 from h3,first2_2 rfl]
 exact h2
theorem hopeErr{p:Pl}(e0:errPl p=0):errPl (hopeP p)=0:=by
 have o:=plOk e0
 have hl:(hopeP p).cts.length=p.cts.length:=lstTo_len _ _
 have hu:errUp (errCht (hopeP p)) p.cts.length=errUp (errCht p) p.cts.length:=by rw[errUp_zero (hope_cht o.cht),errUp_zero o.cht]
 unfold errPl at e0 ⊢
 rw[hl,hu]
 exact e0
theorem one_chs(l:List Cht)(n:Nat):((List.take n (List.drop 0 (l.flatMap chC))).all fun v=>one1 v)=true:=by
 rw[List.all_eq_true]
 intro v hv
 have h:=List.mem_of_mem_take hv
 rw[List.drop_zero]at h
 obtain ⟨c,_,h⟩:=List.mem_flatMap.1 h
 simp only[chC,List.mem_cons,List.not_mem_nil,or_false,List.mem_append]at h
 rcases h with h|h|h|h <;> (subst h;rfl)
theorem wk_Rn{id o l:Nat}(h:0<l):wk (.slice (some ⟨id,o,some 2⟩) l l) (.slice (some ⟨id,o,none⟩) l l):=by
 intro ρ x hx
 cases hx with
 |sliceRe=>exact absurd h (Nat.lt_irrefl 0)
 |sliceR h hp hl hc ho=>exact .slice h hl hc ho
theorem kClone{cs:List Cht}(h0:0<cs.length)(h1:cs.length<=1000000){H:Heap}{L:Nat}(hH:H[0]?=some strO)(hL:H[L]?=some (.cells false 0 (cs.flatMap chC)))(hne:L≠0) :
  KCall prog 64 [slQ L 2 cs.length] H [] (Is (slQ H.length 1 cs.length) (H ++ [.cells true 4 (cs.flatMap chC)])):=by
 have fl:=flat_len (f:=chC) chC_len cs
 refine KCall.wkA (args2:=[slN L cs.length]) ?_ ⟨wk_Rn h0,trivial⟩
 refine valKs (os:=[strO,.cells false 0 (cs.flatMap chC)]) (ids:=[0,L]) (fun j=>slQ j 1 cs.length) (new:=[.cells true 4 (cs.flatMap chC)]) (Eq.mpr (Eclone cs) ?_) (by show (rnoOk 3 strO&&(rnoOk 3 (.cells false 0 (cs.flatMap chC))&&true))=true;rw[chRok];rfl) rfl ⟨⟨_,_,rfl,plainCh _ _⟩,trivial⟩ (by simp[Ne.symm hne]) ⟨hH,by rw[chRno];exact hL,trivial⟩ rfl (fun j=>rfl) rfl
 delta Rclone slQ slN ck kbq
 refine ⟨fun q=>absurd q (by omega),fun _=>⟨⟨by omega,by omega,⟨Nat.le_refl _,Nat.le_refl _⟩,⟨Nat.le_refl _,by omega⟩,one_chs _ _⟩,rfl,?_⟩⟩
 have e:List.take (0*4) (List.drop 0 ([]:List Value))++List.take (cs.length*4) (List.drop 0 (cs.flatMap chC))=cs.flatMap chC:=by
  rw[List.drop_zero,List.drop_zero,List.take_of_length_le (l:=cs.flatMap chC) (by omega)];rfl
 rw[e,Nat.zero_add]
 repeat' first|exact plainCh _ _|exact trivial|(exact wk_Q (by omega))|refine ⟨rfl,?_⟩|apply And.intro
theorem partCl{l:List Cell}{k off:Nat}(h:k<l.length)(ho:off=k*8):partA 8 (l.flatMap cellC) off=some (.agg ⟨cellC (l.getD k zeroC)⟩):=part_at (n:=8) (d:=zeroC) (c:=0) (m:=8) cellC_len h (by omega) (by omega)
theorem rn_dC(σ:Nat->Option Nat)(n:Nat)(l:List Cell):rn σ 3 (.iface n (.agg ⟨l.flatMap cellC⟩)) = .iface n (.agg ⟨l.flatMap cellC⟩):=by
 show Value.iface _ (.agg ⟨(l.flatMap cellC).map (rn σ 2)⟩)=_
 rw[List.map_congr_left (g:=fun v=>v) fun v hv =>?_,List.map_id']
 obtain ⟨c,_,h⟩:=List.mem_flatMap.1 hv
 simp only[cellC,List.mem_cons,List.not_mem_nil,or_false,List.mem_append]at h
 rcases h with h|h|h|h|h|h|h|h <;> (subst h;rfl)
theorem plAt8{H:Heap}{p:Pl}{Q:Prop}(h:H[0]?=some strO/\H[1]?=some (.cells true 1 (p.land.flatMap boolC))/\H[9]?=some (.cells false 0 (p.cts.flatMap chC))/\H[3]?=some (.cells true 1 (p.chan.flatMap boolC)) /\
  H[4]?=some (.cells true 2 (p.shp.th.flatMap ptC))/\H[5]?=some (.cells true 2 (p.shp.wa.flatMap ptC))/\H[6]?=some (.cells true 2 (p.shp.ic.flatMap ptC))/\Q):PlAt H p 1 9 3 4 5 6:=by
 obtain ⟨a0,a1,a2,a3,a4,a5,a6,_⟩:=h
 exact ⟨by decide,a0,a1,a2,a3,a4,a5,a6⟩
theorem wkAtH{H:Heap}{p:Pl}{K:Memo (sfP p)}{Q:Prop}(h:H[0]?=some strO/\H[10]?=some (.cells true 0 (wkC p 1 9 3 4 5 6 11))/\H[1]?=some (.cells true 1 (p.land.flatMap boolC))/\H[9]?=some (.cells false 0 (p.cts.flatMap chC))/\H[3]?=some (.cells true 1 (p.chan.flatMap boolC)) /\
  H[4]?=some (.cells true 2 (p.shp.th.flatMap ptC))/\H[5]?=some (.cells true 2 (p.shp.wa.flatMap ptC))/\H[6]?=some (.cells true 2 (p.shp.ic.flatMap ptC))/\H[11]?=some (.map (knE K.1))/\Q):WkAt H p K 1 9 3 4 5 6 10 11:=by
 obtain ⟨a0,a7,a1,a2,a3,a4,a5,a6,a8,_⟩:=h
 exact ⟨by decide,a0,a1,a2,a3,a4,a5,a6,a7,a8⟩
theorem kHope{p:Pl}(e0:errPl p=0){H:Heap}{l c n t w i:Nat}(a:PlAt H p l c n t w i) :
  KCall prog 25 [plV p l c n t w i] H [] (Is (.tuple #[nI (bestT (hopeP p)),nI (bestE (hopeP p))]) H):=by
 have o:=plOk e0
 have e1:=hopeErr e0
 have o1:=plOk e1
 have hcl:(hopeP p).cts.length=p.cts.length:=lstTo_len _ _
 have key:=valKs (fun _ => .tuple #[nI (bestT (hopeP p)),nI (bestE (hopeP p))]) (new:=[]) (Eq.mpr (EHope p) ?_) (pOs_ok p) rfl trivial a.1 a.objs rfl (fun _=>rfl) (args':=[plV p l c n t w i]) rfl
 ·rwa [List.append_nil]at key
 have hct:=o.cts
 have hbd:=o.bd
 delta RHope joq jof joj jo8 jo2 jo7 jo5 jod joi jor joe joh jo3 jo9 joa job joc jo0 jog jok jo1 jo4 nI slQ pt slN someR fk nw eR wR kbq ixq lq apq n2q
 refine ⟨?_,fun H' _ h=>e0 ▸ kCheck p o.lst h.2.1 h.2.2.1 h.2.2.2.1 h.2.2.2.2.1 h.2.2.2.2.2.1 h.2.2.2.2.2.2.1,?_,fun H' hn h=>hn ▸ kClone (by omega) (by omega) h.1 h.2.1 (by decide),rfl,Nat.zero_le _,⟨rfl,?_⟩,fun _=>rfl,fun x2 hx2=>⟨fun q =>?_,fun q =>?_⟩⟩
 ·repeat' first|exact trivial|refine ⟨rfl,?_⟩
 ·repeat' first|exact trivial|refine ⟨rfl,?_⟩
 ·repeat' first|exact plainCh _ _|exact trivial|exact wk_refl _|refine ⟨rfl,?_⟩|refine ⟨trivial,?_⟩|apply And.intro
 ·have hx:=of_decide_eq_true q
  have hx':x2<p.cts.length:=by omega
  have hll:=lstTo_len p.cts x2
  have hg:=lstTo_get p.cts x2 hx2 x2 hx'
  rw[if_neg (Nat.lt_irrefl x2)]at hg
  have ch:=o.chart hx'
  have hcc:=ch.len
  rw[<- hg]at hcc
  refine ⟨by omega,partCh (by omega) (by omega),rfl,Nat.zero_le _,⟨rfl,?_⟩,fun _=>rfl,fun x3 hx3=>⟨fun q3 =>?_,fun q3 =>?_⟩⟩
  ·repeat' first|exact (rn_dC _ _ _).symm|exact trivial|exact wk_refl _|exact wk_nil _ _ _ (.inl rfl)|refine ⟨rfl,?_⟩|refine ⟨trivial,?_⟩|apply And.intro
  ·have h3:=of_decide_eq_true q3
   have h3':x3<((lstTo p.cts x2).getD x2 zCh).cells.length:=by omega
   have yes:=leTo_succ h3'
   have hl3:=leTo_len _ x3 hx3
   refine ⟨by omega,partCl h3' (by omega),⟨by omega,by decide,⟨Nat.le_refl _,by rw[flat_len cellC_len];omega⟩,⟨Nat.le_refl _,by simp⟩,rfl⟩,rfl,vI64 (by omega),x3+1,by omega,by omega,rfl,?_⟩
   repeat' first|exact wk_snoc yes|exact ob_snoc cellC_len yes rfl|exact plainC _ _|exact (rn_dC _ _ _).symm|exact trivial|exact wk_refl _|refine ⟨rfl,?_⟩|refine ⟨trivial,?_⟩|apply And.intro
  ·have h3:=of_decide_eq_false q3
   have e3:x3=((lstTo p.cts x2).getD x2 zCh).cells.length:=by omega
   have fl:=flat_len (f:=chC) chC_len (lstTo p.cts x2)
   have es:setl ((lstTo p.cts x2).flatMap chC) (x2*4+3) [.iface ((leTo ((lstTo p.cts x2).getD x2 zCh) x3).length+1) (.agg ⟨(leTo ((lstTo p.cts x2).getD x2 zCh) x3).flatMap cellC⟩)]=(lstTo p.cts (x2+1)).flatMap chC:=by
    rw[e3]
    exact flat_setIn (d:=zCh) (y:=leH ((lstTo p.cts x2).getD x2 zCh)) chC_len (lstTo p.cts x2) x2 (by omega) (Nat.le_refl 4) rfl
   refine ⟨by omega,by omega,rfl,vI64 (by omega),x2+1,by omega,by omega,rfl,?_⟩
   rw[show 0+Int.toNat (x2:Int)*4+3=x2*4+3 by omega,es]
   repeat' first|exact plainCh _ _|exact trivial|exact wk_refl _|refine ⟨rfl,?_⟩|refine ⟨trivial,?_⟩|apply And.intro
 ·have hx:=of_decide_eq_false q
  have e:lstTo p.cts x2=(hopeP p).cts:=by
   show _=lstTo p.cts p.cts.length
   congr 1;omega
  rw[e]
  refine ⟨rfl,by rw[hcl],?_,fun H' hn h=>kOpenN o1.lst e1 hn rfl (plAt8 h),?_,fun H' hn h=>kArrival o1 (wkAtH h),fun r4 _=>⟨fun s =>?_,fun s =>?_⟩⟩
  ·repeat' first|exact trivial|refine ⟨rfl,?_⟩
  ·repeat' first|exact trivial|refine ⟨rfl,?_⟩
  ·have h:=of_decide_eq_true s
   rw[show bestT (hopeP p)=0 from if_pos h,show bestE (hopeP p)=51 from if_pos h]
   repeat' first|exact trivial|exact wk_refl _|refine ⟨rfl,?_⟩|apply And.intro
  ·have h:=of_decide_eq_false s
   rw[show bestT (hopeP p)=arrP (hopeP p) from if_neg h,show bestE (hopeP p)=0 from if_neg h]
   repeat' first|exact trivial|exact wk_refl _|refine ⟨rfl,?_⟩|apply And.intro
abbrev exH1:List KObj:=[.cells false 0 [nI 4000,nI 8000,nI 14000,nI 24000,nI 40000,nI 90000],.cells true 0 [nI 3,nI 1,slN 2 3,slN 14 2,slN 3 3,nI 3,nI 6000,nI 800,nI 9000,slN 6 3,slN 7 2,slN 8 2,nI 0,nI 20,nI 10,nI 100,nI 80,nI 0,nI 2],.cells true 1 [.bool false,.bool false,.bool false],.cells true 1 [.bool false,.bool false,.bool false],.cells true 0 [nI 3,nI 1,slN 2 3,slN 14 2,slN 3 3,nI 3,nI 6000,nI 800,nI 9000,slN 6 3,slN 7 2,slN 8 2,nI 0,nI 20,nI 10,nI 100,nI 80,nI 0,nI 2],.cells true 0 [nI 3,nI 6000,nI 800,nI 9000,slN 6 3,slN 7 2,slN 8 2,nI 0,nI 20,nI 10,nI 100],.cells true 2 [nI 0,nI 1000,nI 100,nI 800,nI 200,nI 0],.cells true 2 [nI 0,nI 0,nI 200,nI 400],.cells true 2 [nI 0,nI 0,nI 400,nI 2000],.cells true 8 [nI 0,nI 0,nI 0,nI 0,nI 0,nI 0,nI 0,nI 0,nI 0,nI 0,nI 0,nI 0,nI 0,nI 0,nI 0,nI 0,nI 0,nI 0,nI 0,nI 0,nI 0,nI 0,nI 0,nI 0],.cells true 4 [nI 3,nI 1,nI 0,slN 9 3],.dead,.cells true 8 [nI 0,nI 0,nI 0,nI 0,nI 0,nI 0,nI 0,nI 0,nI 0,nI 0,nI 0,nI 0,nI 0,nI 0,nI 0,nI 0,nI 0,nI 0,nI 0,nI 0,nI 0,nI 0,nI 0,nI 0],.cells true 4 [nI 3,nI 1,nI 1,slN 12 3],.cells true 4 [nI 3,nI 1,nI 0,slN 9 3,nI 3,nI 1,nI 1,slN 12 3],.cells true 0 [nI 3,nI 1,slN 2 3,slN 14 2,slN 3 3,nI 3,nI 6000,nI 800,nI 9000,slN 6 3,slN 7 2,slN 8 2,nI 0,nI 20,nI 10,nI 100,nI 80,nI 0,nI 2]]
abbrev exH2:List KObj:=[.cells false 0 [nI 4000,nI 8000,nI 14000,nI 24000,nI 40000,nI 90000],.cells true 0 [nI 3,nI 1,slN 2 3,slN 14 2,slN 3 3,nI 3,nI 6000,nI 800,nI 9000,slN 6 3,slN 7 2,slN 8 2,nI 0,nI 20,nI 10,nI 100,nI 80,nI 0,nI 2],.cells true 1 [.bool false,.bool false,.bool false],.cells true 1 [.bool false,.bool false,.bool false],.cells true 0 [nI 3,nI 1,slN 2 3,slN 14 2,slN 3 3,nI 3,nI 6000,nI 800,nI 9000,slN 6 3,slN 7 2,slN 8 2,nI 0,nI 20,nI 10,nI 100,nI 80,nI 0,nI 2],.cells true 0 [nI 3,nI 6000,nI 800,nI 9000,slN 6 3,slN 7 2,slN 8 2,nI 0,nI 20,nI 10,nI 100],.cells true 2 [nI 0,nI 1000,nI 100,nI 800,nI 200,nI 0],.cells true 2 [nI 0,nI 0,nI 200,nI 400],.cells true 2 [nI 0,nI 0,nI 400,nI 2000],.cells true 8 [nI 0,nI 0,nI 0,nI 0,nI 0,nI 0,nI 0,nI 0,nI 0,nI 100,nI 0,nI 150,nI 0,nI 0,nI 0,nI 3,nI 0,nI 0,nI 0,nI 0,nI 0,nI 0,nI 0,nI 0],.cells true 4 [nI 3,nI 1,nI 0,slN 9 3],.dead,.cells true 8 [nI 0,nI 0,nI 0,nI 0,nI 0,nI 0,nI 0,nI 0,nI 0,nI 0,nI 0,nI 0,nI 0,nI 0,nI 0,nI 0,nI 0,nI 0,nI 0,nI 0,nI 0,nI 0,nI 0,nI 0],.cells true 4 [nI 3,nI 1,nI 1,slN 12 3],.cells true 4 [nI 3,nI 1,nI 0,slN 9 3,nI 3,nI 1,nI 1,slN 12 3],.cells true 0 [nI 3,nI 1,slN 2 3,slN 14 2,slN 3 3,nI 3,nI 6000,nI 800,nI 9000,slN 6 3,slN 7 2,slN 8 2,nI 0,nI 20,nI 10,nI 100,nI 80,nI 0,nI 2],.cells true 4 [nI 1,nI 0,nI 160,nI 3,nI 2,nI 3,nI 160,nI 6]]
abbrev exH3:List KObj:=[.cells false 0 [nI 4000,nI 8000,nI 14000,nI 24000,nI 40000,nI 90000],.cells true 0 [nI 3,nI 1,slN 2 3,slN 14 2,slN 3 3,nI 3,nI 6000,nI 800,nI 9000,slN 6 3,slN 7 2,slN 8 2,nI 0,nI 20,nI 10,nI 100,nI 80,nI 0,nI 2],.cells true 1 [.bool false,.bool false,.bool false],.cells true 1 [.bool false,.bool false,.bool false],.cells true 0 [nI 3,nI 1,slN 2 3,slN 14 2,slN 3 3,nI 3,nI 6000,nI 800,nI 9000,slN 6 3,slN 7 2,slN 8 2,nI 0,nI 20,nI 10,nI 100,nI 80,nI 0,nI 2],.cells true 0 [nI 3,nI 6000,nI 800,nI 9000,slN 6 3,slN 7 2,slN 8 2,nI 0,nI 20,nI 10,nI 100],.cells true 2 [nI 0,nI 1000,nI 100,nI 800,nI 200,nI 0],.cells true 2 [nI 0,nI 0,nI 200,nI 400],.cells true 2 [nI 0,nI 0,nI 400,nI 2000],.cells true 8 [nI 0,nI 0,nI 0,nI 0,nI 0,nI 0,nI 0,nI 0,nI 0,nI 100,nI 0,nI 150,nI 0,nI 0,nI 0,nI 3,nI 0,nI 0,nI 0,nI 0,nI 0,nI 0,nI 0,nI 0],.cells true 4 [nI 3,nI 1,nI 0,slN 9 3],.dead,.cells true 8 [nI 0,nI 0,nI 0,nI 0,nI 0,nI 0,nI 0,nI 0,nI 0,nI 100,nI 0,nI 150,nI 0,nI 0,nI 0,nI 3,nI 0,nI 0,nI 0,nI 0,nI 0,nI 0,nI 0,nI 0],.cells true 4 [nI 3,nI 1,nI 1,slN 12 3],.cells true 4 [nI 3,nI 1,nI 0,slN 9 3,nI 3,nI 1,nI 1,slN 12 3],.cells true 0 [nI 3,nI 1,slN 2 3,slN 14 2,slN 3 3,nI 3,nI 6000,nI 800,nI 9000,slN 6 3,slN 7 2,slN 8 2,nI 0,nI 20,nI 10,nI 100,nI 80,nI 0,nI 2],.cells true 4 [nI 1,nI 0,nI 160,nI 3,nI 2,nI 3,nI 160,nI 6],.cells true 4 [nI 1,nI 6,nI 160,nI 9,nI 2,nI 9,nI 160,nI 12]]
abbrev exH4:List KObj:=[.cells false 0 [nI 4000,nI 8000,nI 14000,nI 24000,nI 40000,nI 90000],.cells true 0 [nI 3,nI 1,slN 2 3,slN 14 2,slN 3 3,nI 3,nI 6000,nI 800,nI 9000,slN 6 3,slN 7 2,slN 8 2,nI 0,nI 20,nI 10,nI 100,nI 80,nI 0,nI 2],.cells true 1 [.bool false,.bool false,.bool false],.cells true 1 [.bool false,.bool false,.bool false],.cells true 0 [nI 3,nI 1,slN 2 3,slN 14 2,slN 3 3,nI 3,nI 6000,nI 800,nI 9000,slN 6 3,slN 7 2,slN 8 2,nI 0,nI 20,nI 10,nI 100,nI 80,nI 0,nI 2],.cells true 0 [nI 3,nI 6000,nI 800,nI 9000,slN 6 3,slN 7 2,slN 8 2,nI 0,nI 20,nI 10,nI 100],.cells true 2 [nI 0,nI 1000,nI 100,nI 800,nI 200,nI 0],.cells true 2 [nI 0,nI 0,nI 200,nI 400],.cells true 2 [nI 0,nI 0,nI 400,nI 2000],.cells true 8 [nI 0,nI 0,nI 0,nI 0,nI 0,nI 0,nI 0,nI 0,nI 0,nI 100,nI 0,nI 150,nI 0,nI 0,nI 0,nI 3,nI 0,nI 0,nI 0,nI 0,nI 0,nI 0,nI 0,nI 0],.cells true 4 [nI 3,nI 1,nI 0,slN 9 3],.dead,.cells true 8 [nI 0,nI 0,nI 0,nI 0,nI 0,nI 0,nI 0,nI 0,nI 0,nI 100,nI 0,nI 150,nI 0,nI 0,nI 0,nI 3,nI 0,nI 0,nI 0,nI 0,nI 0,nI 0,nI 0,nI 0],.cells true 4 [nI 3,nI 1,nI 1,slN 12 3],.cells true 4 [nI 3,nI 1,nI 0,slN 9 3,nI 3,nI 1,nI 1,slN 12 3],.cells true 0 [nI 3,nI 1,slN 2 3,slN 14 2,slN 3 3,nI 3,nI 6000,nI 800,nI 9000,slN 6 3,slN 7 2,slN 8 2,nI 0,nI 20,nI 10,nI 100,nI 80,nI 0,nI 2],.cells true 4 [nI 1,nI 0,nI 160,nI 3,nI 2,nI 3,nI 160,nI 6],.cells true 4 [nI 1,nI 6,nI 160,nI 9,nI 2,nI 9,nI 160,nI 12],.cells true 1 [nI 1]]
abbrev cZ:List Value:=[zeroC,zeroC,zeroC].flatMap cellC
theorem exDp(a b:Cell){H:Heap}(h0:H[0]?=some strO)(h2:H[2]?=some (.cells true 1 [.bool false,.bool false,.bool false]))(h3:H[3]?=some (.cells true 1 [.bool false,.bool false,.bool false]))(h6:H[6]?=some (.cells true 2 [nI 0,nI 1000,nI 100,nI 800,nI 200,nI 0]))(h7:H[7]?=some (.cells true 2 [nI 0,nI 0,nI 200,nI 400]))(h8:H[8]?=some (.cells true 2 [nI 0,nI 0,nI 400,nI 2000])) :
  DpAt H (threeP a b) 2 3 6 7 8:=⟨by decide,h0,h2,h3,h6,h7,h8⟩
theorem exC1:KCall prog 8 [.agg ⟨exVs⟩] exH1 [] (Is (.tuple #[slQ 16 1 2,nI 6,nI 0]) (exH1 ++ [.cells true 4 [nI 1,nI 0,nI 160,nI 3,nI 2,nI 3,nI 160,nI 6]])):=by
 have k:=deepN (p:=threeP zeroC zeroC) (fun j => .tuple #[.slice (some ⟨j,0,some 1⟩) (bestLs (threeP zeroC zeroC)).length (bestLs (threeP zeroC zeroC)).length,nI (bestT (threeP zeroC zeroC)),nI (bestE (threeP zeroC zeroC))]) (fun a=>kBst (plOk ex_e0).lst ex_e0 a) ⟨⟨_,_,rfl,plainGL _ _⟩,trivial⟩ (H:=lentH exH1 cZ cZ) rfl (exDp zeroC zeroC rfl rfl rfl rfl rfl rfl)
 rw[exLs0,exT0,exE0]at k
 exact liveP (c9:=cZ) (c12:=cZ) rfl rfl rfl rfl (fun o ho=>by rw[List.mem_singleton.1 ho];exact ⟨rfl,rfl⟩) rfl rfl (k.wkA (exWk _ _ zeroC zeroC rfl rfl))
abbrev cV:List Value:=[zeroC,hvC,zeroC].flatMap cellC
theorem exC2:KCall prog 8 [.agg ⟨exVs⟩] exH2 [] (Is (.tuple #[slQ 17 1 2,nI 12,nI 0]) (exH2 ++ [.cells true 4 [nI 1,nI 6,nI 160,nI 9,nI 2,nI 9,nI 160,nI 12]])):=by
 have k:=deepN (p:=threeP hvC zeroC) (fun j => .tuple #[.slice (some ⟨j,0,some 1⟩) (bestLs (threeP hvC zeroC)).length (bestLs (threeP hvC zeroC)).length,nI (bestT (threeP hvC zeroC)),nI (bestE (threeP hvC zeroC))]) (fun a=>kBst (plOk ex_e1).lst ex_e1 a) ⟨⟨_,_,rfl,plainGL _ _⟩,trivial⟩ (H:=lentH exH2 cV cZ) rfl (exDp hvC zeroC rfl rfl rfl rfl rfl rfl)
 rw[exLs1,exT1,exE1]at k
 exact liveP (c9:=cV) (c12:=cZ) rfl rfl rfl rfl (fun o ho=>by rw[List.mem_singleton.1 ho];exact ⟨rfl,rfl⟩) rfl rfl (k.wkA (exWk _ _ hvC zeroC rfl rfl))
theorem exC3:KCall prog 17 [.agg ⟨exVs⟩] exH3 [] (Is (.tuple #[slQ 18 1 1,nI 0]) (exH3 ++ [.cells true 1 [nI 1]])):=by
 have k:=deepN (p:=threeP hvC hvC) (fun j => .tuple #[.slice (some ⟨j,0,some 1⟩) (wlP (threeP hvC hvC)).length (wlP (threeP hvC hvC)).length,nI (wlE (threeP hvC hvC))]) (fun a=>kWall (plOk ex_e2).lst ex_e2 a) ⟨⟨_,_,rfl,plainIL _ _⟩,trivial⟩ (H:=lentH exH3 cV cV) rfl (exDp hvC hvC rfl rfl rfl rfl rfl rfl)
 rw[ex_w2,ex_w3]at k
 exact liveP (c9:=cV) (c12:=cV) rfl rfl rfl rfl (fun o ho=>by rw[List.mem_singleton.1 ho];exact ⟨rfl,rfl⟩) rfl rfl (k.wkA (exWk _ _ hvC hvC rfl rfl))
theorem exC4:KCall prog 25 [.agg ⟨exVs⟩] exH4 [] (Is (.tuple #[nI 6,nI 0]) exH4):=by
 have k:=deepN (p:=threeP hvC hvC) (new:=[]) (fun _ => .tuple #[nI (bestT (hopeP (threeP hvC hvC))),nI (bestE (hopeP (threeP hvC hvC)))]) (fun {H l c n t w i} a=>by rw[List.append_nil];exact kHope ex_e2 a) trivial (H:=lentH exH4 cV cV) rfl (exDp hvC hvC rfl rfl rfl rfl rfl rfl)
 rw[exT2,exE2]at k
 have z:=liveP (new:=[]) (c9:=cV) (c12:=cV) rfl rfl rfl rfl (fun o ho=>by cases ho) rfl rfl (k.wkA (exWk _ _ hvC hvC rfl rfl)) (H:=exH4) (vs:=exVs) (f:=25) (v:=.tuple #[nI 6,nI 0])
 rw[List.append_nil]at z
 exact z
theorem kAwake{H:Heap}(h0:H[0]?=some strO):KCall prog 9 [] H [] (Is (.bool true) H):=by
 refine valV (os:=[strO]) (ids:=[0]) (Eq.mpr (Eawake _) ?_) rfl rfl rfl (fun _=>rfl) (by decide) ⟨h0,trivial⟩ rfl rfl
 delta Rawake jpl jpe jph jpm jpn jpo jpp jp2 jpq jpr jps jpt jpg jpi jpu jpv jpw jpx jpy jpz jp10 jp9 jp11 jpj jp7 jpk jpa jp1 jp6 jpd jpf jpb jpc jp8 jp3 jp4 jp0 jp5 nI slQ slN someR
 refine ⟨?_,fun H' hn h =>?_,?_,fun H' hn h =>?_,?_,fun H' hn h =>?_,?_,fun H' hn h =>?_,rfl⟩
 ·repeat' first|exact trivial|refine ⟨rfl,?_⟩
 ·obtain rfl:H'=exH1:=atAll_eq h hn
  exact exC1
 ·repeat' first|exact trivial|refine ⟨rfl,?_⟩
 ·obtain rfl:H'=exH2:=atAll_eq h hn
  exact exC2
 ·repeat' first|exact trivial|refine ⟨rfl,?_⟩
 ·obtain rfl:H'=exH3:=atAll_eq h hn
  exact exC3
 ·repeat' first|exact trivial|refine ⟨rfl,?_⟩
 ·obtain rfl:H'=exH4:=atAll_eq h hn
  exact exC4
def wtW(L:List Int)(n:Int):Int:=2+dN L n 5
def wtH(L:List Int)(n:Int):Int:=2+dN L (n+1) 4
def wtC(L:List Int)(n:Int)(i:Nat):Bool:=decide (0<i)&&(dN L (n+1+(i:Int)) 7 == 0)
def wtL(L:List Int)(n:Int)(k:Nat):List Bool:=(List.range k).map (wtC L n)
def wtK(L:List Int)(n:Int):Nat:=Int.toNat (wtW L n*wtH L n)
def wtD(n:Int):Nat->Int
 |0=>n+2
 |k+1=>n+2+(k:Int)
theorem wtL_succ(L:List Int)(n:Int)(k:Nat):wtL L n (k+1)=wtL L n k ++ [wtC L n k]:=by unfold wtL;rw[List.range_succ,List.map_append];rfl
theorem wtL_len(L:List Int)(n:Int)(k:Nat):(wtL L n k).length=k:=by unfold wtL;simp
theorem wt_bd(L:List Int)(n:Int):(2<=wtW L n/\wtW L n<=6)/\2<=wtH L n/\wtH L n<=5:=by
 have h1:=dN_bd L n (m:=5) (by omega)
 have h2:=dN_bd L (n+1) (m:=4) (by omega)
 unfold wtW wtH
 omega
theorem wt_mul(L:List Int)(n:Int):4<=wtW L n*wtH L n/\wtW L n*wtH L n<=30:=by
 obtain ⟨h1,h2⟩:=wt_bd L n
 have a:2*2<=wtW L n*wtH L n:=Int.mul_le_mul h1.1 h2.1 (by omega) (by omega)
 have b:wtW L n*wtH L n<=6*5:=Int.mul_le_mul h1.2 h2.2 (by omega) (by omega)
 omega
abbrev u8C(x:Int):List Value:=[.int .u8 x]
def bytesOk(l:List Int):Prop:=∀x∈l,0<=x/\x<=255
structure CurSo(l:List Pt)(way:Int)(k:Nat)(x y:Int):Prop where
 len:l.length=k+1
 z:(l.getD 0 zP).1=0
 last:l.getD k zP=(x,y)
 pt:∀i,i<=k->ptOk l i=true
 st:∀i,i<=k->stOk l way i=true
theorem getD_app{l:List Pt}{q:Pt}{i:Nat}(h:i<l.length):(l ++ [q]).getD i zP=l.getD i zP:=by
 rw[List.getD_eq_getElem?_getD,List.getD_eq_getElem?_getD,List.getElem?_append_left h]
theorem getD_lst{l:List Pt}{q:Pt}:(l ++ [q]).getD l.length zP=q:=by
 rw[List.getD_eq_getElem?_getD,List.getElem?_append_right (Nat.le_refl _),Nat.sub_self];rfl
theorem CurSo.one{way x y:Int}(hx:x=0)(hy:0<=y/\y<=20000):CurSo [(x,y)] way 0 x y:=by
 subst hx
 refine ⟨rfl,rfl,rfl,fun i hi =>?_,fun i hi =>?_⟩
 ·obtain rfl:i=0:=by omega
  show (inB 0 0 400&&inB y 0 20000 && !(decide (0<0)&&_))=true
  rw[inB_iff.2 (show (0:Int)<=0/\(0:Int)<=400 by omega),inB_iff.2 hy];rfl
 ·obtain rfl:i=0:=by omega
  rfl
theorem CurSo.more{l:List Pt}{way x y x' y':Int}{k:Nat}(c:CurSo l way k x y)(hx:x<x'/\x'<=400)(h0:0<=x')(hy:0<=y'/\y'<=20000)(hw:0<=(y'-y)*way):CurSo (l ++ [(x',y')]) way (k+1) x' y':=by
 have hl:=c.len
 have e1:(l ++ [(x',y')]).getD (k+1) zP=(x',y'):=by rw[<- hl];exact getD_lst
 have e0:∀i,i<=k->(l ++ [(x',y')]).getD i zP=l.getD i zP:=fun i hi=>getD_app (by omega)
 refine ⟨by rw[List.length_append,hl];rfl,by rw[e0 0 (by omega)];exact c.z,e1,fun i hi =>?_,fun i hi =>?_⟩
 ·by_cases e:i=k+1
  ·subst e
   unfold ptOk
   rw[e1,show k+1-1=k from rfl,e0 k (Nat.le_refl _),c.last,inB_iff.2 (show 0<=x'/\x'<=400 by omega),inB_iff.2 hy,decide_eq_false (show ¬ x'<=x by omega),Bool.and_false];rfl
  ·have:=c.pt i (by omega)
   unfold ptOk at this ⊢
   rw[e0 i (by omega),e0 (i-1) (by omega)];exact this
 ·by_cases e:i=k+1
  ·subst e
   unfold stOk
   rw[e1,show k+1-1=k from rfl,e0 k (Nat.le_refl _),c.last,decide_eq_false (show ¬ (y'-y)*way<0 by omega)]
   simp
  ·have:=c.st i (by omega)
   unfold stOk at this ⊢
   rw[e0 i (by omega),e0 (i-1) (by omega)];exact this
theorem CurSo.ok{l:List Pt}{way x y:Int}{k:Nat}(c:CurSo l way k x y)(h1:1<=k)(h2:k<=7):steB l way=true/\endX l=x:=by
 have hl:=c.len
 refine ⟨?_,by unfold endX;rw[hl,Nat.add_sub_cancel,c.last]⟩
 unfold steB curB
 rw[inB_iff.2 (show (2:Int)<=(l.length:Int)/\(l.length:Int)<=8 by omega),c.z]
 have a:(List.range l.length).all (ptOk l)=true:=by
  rw[List.all_eq_true];intro i hi;exact c.pt i (by have:=List.mem_range.1 hi;omega)
 have b:(List.range l.length).all (stOk l way)=true:=by
  rw[List.all_eq_true];intro i hi;exact c.st i (by have:=List.mem_range.1 hi;omega)
 rw[a,b];rfl
def byL(L:List Int)(n:Int)(k:Nat):List Int:=(List.range k).map fun (j:Nat)=>dN L (n+1+(j:Int)) 256
theorem byL_succ(L:List Int)(n:Int)(k:Nat):byL L n (k+1)=byL L n k ++ [dN L (n+1+(k:Int)) 256]:=by unfold byL;rw[List.range_succ,List.map_append];rfl
theorem byL_len(L:List Int)(n:Int)(k:Nat):(byL L n k).length=k:=by unfold byL;simp
theorem byL_ok(L:List Int)(n:Int)(k:Nat):bytesOk (byL L n k):=by
 intro x hx
 unfold byL at hx
 obtain ⟨j,_,rfl⟩:=List.mem_map.1 hx
 have:=dN_bd L (n+1+(j:Int)) (m:=256) (by omega)
 omega
def cellsOk(nl:Nat)(l:List Cell):Prop:=l.length=nl/\∀k,k<l.length->rightC (l.getD k zeroC)
def ChSo(w h b:Int)(nl:Nat)(cs:List Cht):Prop:=∀i,i<cs.length->(cs.getD i zCh).w=w/\(cs.getD i zCh).h=h/\(cs.getD i zCh).hr=b+(i:Int)/\cellsOk nl (cs.getD i zCh).cells
abbrev jr0(L:List Int):Value:=.agg ⟨(L.flatMap intC)⟩
abbrev jr3(L:List Int)(n:Int):List Value:=[.iface (L.length+1) (jr0 L),nI (n+1)]
abbrev jr9(L:List Int)(n:Int):List Value:=[.iface (L.length+1) (jr0 L),nI ((n+1)+1)]
abbrev jr5:Prop:=eR (pt 1)/\eR (pt 2)/\eR (pt 3)/\True
abbrev jr2(L:List Int)(n:Int)(x2:Nat):List Value:=[.iface (L.length+1) (jr0 L),nI (wtD n x2)]
abbrev jr6(L:List Int)(n:Int)(x2:Nat):Prop:=(wtL L n x2).length<=(wtL L n x2).length/\0+(wtL L n x2).length*1<=List.length ((wtL L n x2).flatMap boolC)
abbrev jr1(L:List Int)(n:Int)(x2 x2':Nat):Prop:=wkO (.cells true 0 [nI (wtW L n),nI (wtH L n),slN 6 ((wtL L n x2).length+1)]:KObj) (rno (sg 4 [(4,6)]) 3 (.cells true 0 [nI (wtW L n),nI (wtH L n),slQ 4 1 (wtL L n x2').length]:KObj))/\True
abbrev jr8:List Value:=[.bool false]
def Rwaters(L:List Int)(n:Int):Prop :=
 (((someR (.cells true 0 [.iface (L.length+1) (jr0 L),nI n]))/\True)/\(∀H':Heap,H'.length=3->(H'[1]?=some (.cells true 0 [.iface (L.length+1) (jr0 L),nI n]:KObj)/\True)->KCall prog 13 [pt 1,nI 5] H' [1] (Is (nI (dN L n 5)) (List.set H' 1 (.cells true 0 (jr3 L n):KObj))))/\(nw (2+(dN L n 5)) (((someR (.cells true 0 (jr3 L n)))/\True)/\(∀H':Heap,H'.length=3->(H'[1]?=some (.cells true 0 (jr3 L n):KObj)/\True)->KCall prog 13 [pt 1,nI 4] H' [1] (Is (nI (dN L (n+1) 4)) (List.set H' 1 (.cells true 0 (jr9 L n):KObj))))/\(nw (2+(dN L (n+1) 4)) (((nI (2+(dN L n 5)):Value)=nI (wtW L n))/\(((nI (2+(dN L (n+1) 4)):Value)=nI (wtH L n))/\(lq (0<=wtK L n) (true=true/\((nI 0:Value)=nI ((0:Nat):Int)/\jr5)/\((kbq 4 (.cells true 0 (jr9 L n)) (.cells true 0 [.iface (L.length+1) (jr0 L),nI (wtD n 0)]))/\wkO (.cells true 0 [nI (2+(dN L n 5)),nI (2+(dN L (n+1) 4)),.slice none 0 0]:KObj) (rno (sg 4 []) 3 (.cells true 0 [nI (wtW L n),nI (wtH L n),slQ 4 1 (wtL L n 0).length]:KObj))/\True)/\(True/\True)/\(True)) (∀x2:Nat,(x2<=wtK L n)->(nw ((wtW L n)*(wtH L n)) (fk (decide (((x2:Int):Int)<((wtW L n)*(wtH L n)))) (fk (decide ((0:Int)<(x2:Int))) (((someR (.cells true 0 (jr2 L n x2)))/\True)/\(∀H':Heap,H'.length=5->(H'[1]?=some (.cells true 0 (jr2 L n x2):KObj)/\True)->KCall prog 13 [pt 1,nI 7] H' [1] (Is (nI (dN L (wtD n x2) 7)) (List.set H' 1 (.cells true 0 [.iface (L.length+1) (jr0 L),nI ((wtD n x2)+1)]:KObj))))/\((((wtL L n x2).length+1)*1<=2 ^ 44/\1≠0/\(jr6 L n x2)/\(1<=1/\0+1*1<=List.length ([.bool (((dN L (wtD n x2) 7):Int) == 0)]:List Value))/\(((([.bool (((dN L (wtD n x2) 7):Int) == 0)]:List Value).drop 0).take (1*1)):List Value).all (fun v=>one1 v)=true)/\true=true/\(nw ((x2:Int)+1) (∃x2':Nat,(x2'<=wtK L n)/\(wtK L n-x2')<(wtK L n-x2)/\true=true/\((nI ((x2:Int)+1):Value)=nI (x2':Int)/\jr5)/\((kbq 4 (.cells true 0 [.iface (L.length+1) (jr0 L),nI ((wtD n x2)+1)]) (.cells true 0 [.iface (L.length+1) (jr0 L),nI (wtD n x2')]))/\jr1 L n x2 x2')/\((kbq 4 (.cells true 1 (((((wtL L n x2).flatMap boolC).drop 0).take ((wtL L n x2).length*1))++((([.bool (((dN L (wtD n x2) 7):Int) == 0)]:List Value).drop 0).take (1*1)))) (.cells true 1 ((wtL L n x2').flatMap boolC)))/\True)/\(True))))) ((((wtL L n x2).length+1)*1<=2 ^ 44/\1≠0/\(jr6 L n x2)/\(1<=1/\0+1*1<=List.length jr8)/\(((jr8.drop 0).take (1*1)):List Value).all (fun v=>one1 v)=true)/\true=true/\(nw ((x2:Int)+1) (∃x2':Nat,(x2'<=wtK L n)/\(wtK L n-x2')<(wtK L n-x2)/\true=true/\((nI ((x2:Int)+1):Value)=nI (x2':Int)/\jr5)/\((kbq 4 (.cells true 0 (jr2 L n x2)) (.cells true 0 [.iface (L.length+1) (jr0 L),nI (wtD n x2')]))/\jr1 L n x2 x2')/\((kbq 4 (.cells true 1 (((((wtL L n x2).flatMap boolC).drop 0).take ((wtL L n x2).length*1))++((jr8.drop 0).take (1*1)))) (.cells true 1 ((wtL L n x2').flatMap boolC)))/\True)/\(True))))) (∃x:Unit,True/\(true=true/\wk (.agg #[nI (wtW L n),nI (wtH L n),slQ 4 1 (wtL L n x2).length]:Value) (rn (sg 2 [(2,4)]) 3 (.agg #[nI (wtW L n),nI (wtH L n),slQ 2 1 (wtL L n (wtK L n)).length]:Value))/\((kbq 2 (.cells true 0 (jr2 L n x2)) (.cells true 0 [.iface (L.length+1) (jr0 L),nI (wtD n (wtK L n))]))/\True)/\((kbq 2 (.cells true 1 ((wtL L n x2).flatMap boolC)) (.cells true 1 ((wtL L n (wtK L n)).flatMap boolC)))/\True)))))))))))))
abbrev jr4(L:List Int)(n:Int):=readsK [.cells false 0 [nI 4000,nI 8000,nI 14000,nI 24000,nI 40000,nI 90000],.cells true 0 [.iface (L.length+1) (jr0 L),nI n]]
abbrev jr7(x2:Nat):Hint:=.need (.go 3 (.slot 20 (nI ((x2:Int)+1)) (.go 0 (.again [(4,6)]))))
theorem Ewaters(L:List Int)(n:Int):vF prog msk (dm 0) 100000 true 40 true 27 [pt 1] (jr4 L n) (some [1])
 (.go 1 (.answ [(1,.cells true 0 [.iface (L.length+1) (jr0 L),nI n])] (nI (dN L n 5)) [(1,.cells true 0 (jr3 L n))] [] (.go 0 (.slot 7 (nI (2+(dN L n 5))) (.go 0 (.answ [(1,.cells true 0 (jr3 L n))] (nI (dN L (n+1) 4)) [(1,.cells true 0 (jr9 L n))] [] (.go 0 (.slot 10 (nI (2+(dN L (n+1) 4))) (.go 0 (.slot 7 (nI (wtW L n)) (.slot 10 (nI (wtH L n)) (.go 2 (.inv 3 (Nat) (0) [] [1,3] (fun x2=>[(4,nI (x2:Int)),(0,pt 1),(2,pt 2),(3,pt 3)]) (fun x2=>[(1,true,.cells true 0 (jr2 L n x2)),(3,false,.cells true 0 [nI (wtW L n),nI (wtH L n),slQ 4 1 (wtL L n x2).length])]) (fun x2=>[(true,.cells true 1 ((wtL L n x2).flatMap boolC))]) (fun x2=>[]) (fun x2=>(x2<=wtK L n)) (fun x2=>(wtK L n-x2)) (fun x2 => .go 5 (.slot 17 (nI ((wtW L n)*(wtH L n))) (.go 0 (.fork (.go 4 (.gfork (.go 0 (.answ [(1,.cells true 0 (jr2 L n x2))] (nI (dN L (wtD n x2) 7)) [(1,.cells true 0 [.iface (L.length+1) (jr0 L),nI ((wtD n x2)+1)])] [] (.go 2 (jr7 x2)))) (.go 1 (jr7 x2)))) (.go 1 (.keep (.again [(2,4)]))))))))))))))))))))
 (newKWE (α:=Unit) ((jr4 L n):HT).n 3 [1] (fun x=>True) (fun x => .agg #[nI (wtW L n),nI (wtH L n),slQ 2 1 (wtL L n (wtK L n)).length]) (fun x=>[(1,true,.cells true 0 [.iface (L.length+1) (jr0 L),nI (wtD n (wtK L n))])]) (fun x=>[(true,.cells true 1 ((wtL L n (wtK L n)).flatMap boolC))]))=Rwaters L n:=by kernel_rfl
end
end Go.Proofs.YtmecpfikljhjaaaDoor
