/- What is to be shown of functions. Printed by a program. No condition. -/
import Derived.Test.YtmecpfikljhjaaaGreatDoorGH5gxA4
import Derived.Test.YtmecpfikljhjaaaGreatDoorGK27xA0
open Go Go.K
set_option maxRecDepth 1000000
set_option maxHeartbeats 4000000
set_option linter.unusedVariables false
set_option linter.unusedSimpArgs false
namespace Go.Proofs.YtmecpfikljhjaaaGreatDoor
noncomputable section
attribute [local irreducible] vF
abbrev jik(p:Pl)(x2:Nat×ab (sfP p)×Tb):Int:=(x2.1:Nat)
abbrev ji4(p:Pl)(x2:Nat×ab (sfP p)×Tb):=bsP p (jik p x2)
abbrev ji2(p:Pl)(x1:Nat×ab (sfP p)×Tb):Int:=(x1.1:Nat)
abbrev jiy(p:Pl)(x2:Nat×ab (sfP p)×Tb)(x51:Nat×ab (sfP p)×Tb)(x1:Nat×ab (sfP p)×Tb)(x52:Nat×ab (sfP p)×Tb):=spL p ((ji4 p x2).getD x51.1 0) (ji2 p x1) (x52.1+1)
abbrev A6(p:Pl)(x2:Nat×ab (sfP p)×Tb):Prop:=eR (pt 17)/\eR (pt 15)/\eR (.func (.yield 18) #[] #[])/\wR (slQ 19 1 (ji4 p x2).length)/\eR (nI (((ji4 p x2).length:Nat):Int))/\True
abbrev jim(p:Pl)(x1:Nat×ab (sfP p)×Tb):=ce x1.2.2 x1.1
abbrev ji1(p:Pl)(x2:Nat×ab (sfP p)×Tb)(x1:Nat×ab (sfP p)×Tb):Prop:=(True)/\((u6 prog 59 0/\eR (nI (jik p x2))/\eR (nI (endP p))/\eR (pt 7)/\eR (.slice none 0 0)/\eR (pt 10)/\eR (nI (ji2 p x1))/\(.iface ((jim p x1).length+1) (.agg ⟨((jim p x1).flatMap af)⟩):Value)=rn (sg 20 []) 3 (.iface ((jim p x1).length+1) (.agg ⟨((jim p x1).flatMap af)⟩):Value)/\eR (nI (((jim p x1).length:Nat):Int))/\True)/\True)
abbrev jib(p:Pl)(x51:Nat×ab (sfP p)×Tb)(x2:Nat×ab (sfP p)×Tb)(x1:Nat×ab (sfP p)×Tb)(B:List (List Bool))(r53:ab (sfP p))(x52:Nat×ab (sfP p)×Tb):=nw (((x51.1:Nat):Int)+1) (∃cj:Nat×ab (sfP p)×Tb,(cj.1<=List.length (ji4 p x2)/\bN 11 (endP p+1).toNat p.chan.length (x1.1+1) (bU B (aV p (jik p x2) (ji2 p x1) cj.1)) cj.2.2)/\(List.length (ji4 p x2)-cj.1)<(List.length (ji4 p x2)-x51.1)/\true=true/\((nI (((x51.1:Nat):Int)+1):Value)=nI ((cj.1:Nat):Int)/\A6 p x2)/\((kbq 20 (.map (knE r53.1)) (.map (knE cj.2.1.1)))/\wkO (.cells true 1 x52.2.2.hs:aa) (rno (sg 20 []) 3 (.cells true 1 cj.2.2.hs:aa))/\wkO (.fam 0 x52.2.2.ms:aa) (rno (sg 20 []) 3 (.fam 0 cj.2.2.ms:aa))/\True)/\ji1 p x2 x1)
abbrev ji9:List Value:=[nI 4000,nI 8000,nI 14000,nI 24000,nI 40000,nI 90000]
abbrev vS:=ac (.cells false 0 ji9)
abbrev ji0(p:Pl):List Value:=[nI p.w,nI p.h,slQ 1 2 p.land.length,slQ 2 2 p.cts.length,slQ 3 2 p.chan.length,nI p.shp.cls,nI p.shp.pow,nI p.shp.dra,nI p.shp.ton,slQ 4 2 p.shp.th.length,slQ 5 2 p.shp.wa.length,slQ 6 2 p.shp.ic.length,nI p.shp.slow,nI p.shp.aw,nI p.shp.rdg,nI p.shp.prs,nI p.size,nI p.frm,nI p.to,nI (endP p),.map (some 8)]
abbrev vP(p:Pl):=ac (.cells true 0 (ji0 p))
abbrev jiq(p:Pl):=p.land.flatMap af
abbrev vO(p:Pl):=ac (.cells true 1 (jiq p))
abbrev jiz(p:Pl):=p.cts.flatMap chC
abbrev vQ(p:Pl):=ac (.cells false 0 (jiz p))
abbrev jir(p:Pl):=p.chan.flatMap af
abbrev vN(p:Pl):=ac (.cells true 1 (jir p))
abbrev jis(p:Pl):=p.shp.th.flatMap ptC
abbrev vM(p:Pl):=ac (.cells true 2 (jis p))
abbrev jit(p:Pl):=p.shp.wa.flatMap ptC
abbrev vL(p:Pl):=ac (.cells true 2 (jit p))
abbrev jiu(p:Pl):=p.shp.ic.flatMap ptC
abbrev vK(p:Pl):=ac (.cells true 2 (jiu p))
abbrev vR:aa:=.cells false 0 ji9
abbrev vI(p:Pl):aa:=.cells true 0 (ji0 p)
abbrev vH(p:Pl):aa:=.cells true 1 (jiq p)
abbrev vJ(p:Pl):aa:=.cells false 0 (jiz p)
abbrev vG(p:Pl):aa:=.cells true 1 (jir p)
abbrev vE(p:Pl):aa:=.cells true 2 (jis p)
abbrev vD(p:Pl):aa:=.cells true 2 (jit p)
abbrev vC(p:Pl):aa:=.cells true 2 (jiu p)
abbrev jii(p:Pl)(x52:Nat×ab (sfP p)×Tb):Int:=(x52.1:Nat)
abbrev ji7(p:Pl)(x52:Nat×ab (sfP p)×Tb)(x1:Nat×ab (sfP p)×Tb):=ce x52.2.2 ((ji2 p x1)+1+(jii p x52)).toNat
abbrev tQ(p:Pl)(x52:Nat×ab (sfP p)×Tb)(x1:Nat×ab (sfP p)×Tb):=x52.2.2.ks ((ji2 p x1)+1+(jii p x52)).toNat
abbrev jin:=nI ((1:Nat):Int)
abbrev Dn(p:Pl)(x52:Nat×ab (sfP p)×Tb)(x1:Nat×ab (sfP p)×Tb):=List.set x52.2.2.hs ((ji2 p x1)+1+(jii p x52)).toNat (slQ 21 1 (ji7 p x52 x1).length)
abbrev Gg(p:Pl)(bi:Nat×ab (sfP p)×Tb)(x1:Nat×ab (sfP p)×Tb)(x2:Nat×ab (sfP p)×Tb)(x51:Nat×ab (sfP p)×Tb)(B:List (List Bool)):Prop:=(bi.1<=Int.toNat (endP p-(ji2 p x1))/\okL p ((ji4 p x2).getD x51.1 0) (ji2 p x1) bi.1=true)/\bN 11 (endP p+1).toNat p.chan.length (x1.1+1) (bU B (aV p (jik p x2) (ji2 p x1) x51.1++bD p ((ji4 p x2).getD x51.1 0) (ji2 p x1) bi.1)) bi.2.2
abbrev nG(p:Pl)(x2:Nat×ab (sfP p)×Tb)(x51:Nat×ab (sfP p)×Tb)(x1:Nat×ab (sfP p)×Tb)(x52:Nat×ab (sfP p)×Tb):=bR p ((ji4 p x2).getD x51.1 0) (ji2 p x1) (x52.1+1)
abbrev jie(p:Pl)(x2:Nat×ab (sfP p)×Tb)(x51:Nat×ab (sfP p)×Tb):Prop:=eR (nI (((ji4 p x2).length:Nat):Int))/\wR (slQ 19 1 (ji4 p x2).length)/\eR (.func (.yield 18) #[] #[])/\eR (pt 15)/\eR (pt 17)/\eR (nI ((x51.1:Nat):Int))/\eR (nI ((ji4 p x2).getD x51.1 0))/\True
def uB(p:Pl)(x1 x2 x51 x52:Nat×ab (sfP p)×Tb)(r53:ab (sfP p))(B:List (List Bool)):Prop :=
 (fk (decide (((jiy p x2 x51 x1 x52):Int)<10)) (jib p x51 x2 x1 B r53 x52) ((vS/\(vP p)/\(vO p)/\(vQ p)/\(vN p)/\(vM p)/\(vL p)/\(vK p)/\(ac (.map (knE r53.1)))/\True)/\(∀H':Heap,H'.length=20->(H'[0]?=some vR/\H'[7]?=some (vI p)/\H'[1]?=some (vH p)/\H'[2]?=some (vJ p)/\H'[3]?=some (vG p)/\H'[4]?=some (vE p)/\H'[5]?=some (vD p)/\H'[6]?=some (vC p)/\H'[8]?=some (.map (knE r53.1):aa)/\True)->ad prog 118 [pt 7,nI (jiy p x2 x51 x1 x52)] H' [] (Is (nI (tkP p (jiy p x2 x51 x1 x52))) H'))/\(fk (((tkP p (jiy p x2 x51 x1 x52)):Int) == (((x52.1+1):Nat):Int)) (((x52.2.2.hs:List Value)[((ji2 p x1)+1+(jii p x52)).toNat]?=some (cX (ji7 p x52 x1).length 11 (tQ p x52 x1))/\(x52.2.2.ms:List Value)[0]?=some jin/\List.length (((ji7 p x52 x1).flatMap af):List Value)=(ji7 p x52 x1).length*1/\(0<(ji7 p x52 x1).length->(x52.2.2.ms:List Value)[(tQ p x52 x1)+1]?=some (.agg ⟨((ji7 p x52 x1).flatMap af)⟩)))/\((ixq ((ji2 p x1)+1+(jii p x52)) ((endP p)+1).toNat)/\(((Dn p x52 x1)[(0+Int.toNat ((ji2 p x1)+1+(jii p x52))*1)]?=some (slQ 21 1 (ji7 p x52 x1).length))/\((ixq ((ji4 p x2).getD x51.1 0) (ji7 p x52 x1).length)/\(((0+Int.toNat ((ji4 p x2).getD x51.1 0)*1)+1<=List.length ((ji7 p x52 x1).flatMap af))/\true=true/\((((Dn p x52 x1):List Value)[((ji2 p x1)+1+(jii p x52)).toNat]?=some (slQ 21 1 (ji7 p x52 x1).length)/\(true=true∨0<(ji7 p x52 x1).length)/\((aE (ji7 p x52 x1).length (tQ p x52 x1) x52.2.2.ms):List Value)[0]?=some jin/\0<1/\List.length ((ba ((ji7 p x52 x1).flatMap af) (0+Int.toNat ((ji4 p x2).getD x51.1 0)*1) [.bool true]):List Value)=(ji7 p x52 x1).length*1/\List.length ((aE (ji7 p x52 x1).length (tQ p x52 x1) x52.2.2.ms):List Value)=(List.length x52.2.2.ms-1)+1)/\(nw (((ji2 p x1)+1+(jii p x52))+1) (∃bi:Nat×ab (sfP p)×Tb,(Gg p bi x1 x2 x51 B)/\(Int.toNat (endP p-(ji2 p x1))-bi.1)<(Int.toNat (endP p-(ji2 p x1))-x52.1)/\true=true/\((nI (((ji2 p x1)+1+(jii p x52))+1):Value)=nI ((ji2 p x1)+1+((bi.1:Nat):Int))/\(nI (nG p x2 x51 x1 x52):Value)=nI (bR p ((ji4 p x2).getD x51.1 0) (ji2 p x1) bi.1)/\jie p x2 x51)/\((kbq 20 (.map (knE r53.1)) (.map (knE bi.2.1.1)))/\wkO (.cells true 1 (List.set (Dn p x52 x1) ((ji2 p x1)+1+(jii p x52)).toNat (cX (ji7 p x52 x1).length 11 (List.length x52.2.2.ms-1))):aa) (rno (sg 20 []) 3 (.cells true 1 bi.2.2.hs:aa))/\wkO (.fam 0 (cp (ji7 p x52 x1).length (aE (ji7 p x52 x1).length (tQ p x52 x1) x52.2.2.ms) (ba ((ji7 p x52 x1).flatMap af) (0+Int.toNat ((ji4 p x2).getD x51.1 0)*1) [.bool true])):aa) (rno (sg 20 []) 3 (.fam 0 bi.2.2.ms:aa))/\True)/\ji1 p x2 x1)))))))) (nw (((ji2 p x1)+1+(jii p x52))+1) (∃bi:Nat×ab (sfP p)×Tb,(Gg p bi x1 x2 x51 B)/\(Int.toNat (endP p-(ji2 p x1))-bi.1)<(Int.toNat (endP p-(ji2 p x1))-x52.1)/\true=true/\((nI (((ji2 p x1)+1+(jii p x52))+1):Value)=nI ((ji2 p x1)+1+((bi.1:Nat):Int))/\(nI (nG p x2 x51 x1 x52):Value)=nI (bR p ((ji4 p x2).getD x51.1 0) (ji2 p x1) bi.1)/\jie p x2 x51)/\((kbq 20 (.map (knE r53.1)) (.map (knE bi.2.1.1)))/\wkO (.cells true 1 x52.2.2.hs:aa) (rno (sg 20 []) 3 (.cells true 1 bi.2.2.hs:aa))/\wkO (.fam 0 x52.2.2.ms:aa) (rno (sg 20 []) 3 (.fam 0 bi.2.2.ms:aa))/\True)/\ji1 p x2 x1)))))
abbrev jip(p:Pl)(r3:ab (sfP p))(U:Tb):Nat×ab (sfP p)×Tb:=(0,r3,U)
abbrev jif(p:Pl)(x51:Nat×ab (sfP p)×Tb):Nat×ab (sfP p)×Tb:=(0,x51.2.1,x51.2.2)
abbrev Dl(p:Pl)(x52:Nat×ab (sfP p)×Tb)(x1:Nat×ab (sfP p)×Tb)(x2:Nat×ab (sfP p)×Tb)(x51:Nat×ab (sfP p)×Tb)(B:List (List Bool)):Prop:=(x52.1<=Int.toNat (endP p-(ji2 p x1))/\okL p ((ji4 p x2).getD x51.1 0) (ji2 p x1) x52.1=true)/\bN 11 (endP p+1).toNat p.chan.length (x1.1+1) (bU B (aV p (jik p x2) (ji2 p x1) x51.1++bD p ((ji4 p x2).getD x51.1 0) (ji2 p x1) x52.1)) x52.2.2
abbrev yU(p:Pl)(x52:Nat×ab (sfP p)×Tb):=Int.tdiv ((6*p.size)-1) ((((x52.1+1):Nat):Int)-1)
abbrev ji8(p:Pl)(x1:Nat×ab (sfP p)×Tb):Prop:=eR (nI (endP p))/\eR (pt 7)/\eR (.slice none 0 0)/\eR (pt 10)/\eR (nI (ji2 p x1))/\eR (nI (ji2 p x1))/\(.iface ((jim p x1).length+1) (.agg ⟨((jim p x1).flatMap af)⟩):Value)=rn (sg 14 []) 3 (.iface ((jim p x1).length+1) (.agg ⟨((jim p x1).flatMap af)⟩):Value)/\eR (nI (((jim p x1).length:Nat):Int))/\True
abbrev qZ:Prop:=(True)/\(True)
def xQ(p:Pl)(x1 x2:Nat×ab (sfP p)×Tb)(r3:ab (sfP p))(B:List (List Bool))(U:Tb):Prop :=
 ((vS/\(vP p)/\(vO p)/\(vQ p)/\(vN p)/\(vM p)/\(vL p)/\(vK p)/\(ac (.map (knE r3.1)))/\True)/\(∀H':Heap,H'.length=19->(H'[0]?=some vR/\H'[7]?=some (vI p)/\H'[1]?=some (vH p)/\H'[2]?=some (vJ p)/\H'[3]?=some (vG p)/\H'[4]?=some (vE p)/\H'[5]?=some (vD p)/\H'[6]?=some (vC p)/\H'[8]?=some (.map (knE r3.1):aa)/\True)->ad prog 62 [pt 7,nI (jik p x2)] H' [] (Is (slQ 19 1 (ji4 p x2).length) (H' ++ [(.cells true 1 ((ji4 p x2).flatMap bc):aa)])))/\(true=true/\((jip p r3 U).1<=List.length (ji4 p x2)/\bN 11 (endP p+1).toNat p.chan.length (x1.1+1) (bU B (aV p (jik p x2) (ji2 p x1) (jip p r3 U).1)) (jip p r3 U).2.2)/\(true=true/\((nI 0:Value)=nI (((jip p r3 U).1:Nat):Int)/\A6 p x2)/\((kbq 20 (.map (knE r3.1)) (.map (knE (jip p r3 U).2.1.1)))/\wkO (.cells true 1 U.hs:aa) (rno (sg 20 []) 3 (.cells true 1 (jip p r3 U).2.2.hs:aa))/\wkO (.fam 0 U.ms:aa) (rno (sg 20 []) 3 (.fam 0 (jip p r3 U).2.2.ms:aa))/\True)/\ji1 p x2 x1)/\(∀x51:Nat×ab (sfP p)×Tb,true=true)/\∀x51:Nat×ab (sfP p)×Tb,(x51.1<=List.length (ji4 p x2)/\bN 11 (endP p+1).toNat p.chan.length (x1.1+1) (bU B (aV p (jik p x2) (ji2 p x1) x51.1)) x51.2.2)->(fk (decide ((((x51.1:Nat):Int):Int)<(((ji4 p x2).length:Nat):Int))) ((ixq ((x51.1:Nat):Int) (ji4 p x2).length)/\((((ji4 p x2).flatMap bc)[(0+Int.toNat ((x51.1:Nat):Int)*1)]?=some (nI ((ji4 p x2).getD x51.1 0)))/\(nw ((ji2 p x1)+1) (true=true/\(((jif p x51).1<=Int.toNat (endP p-(ji2 p x1))/\okL p ((ji4 p x2).getD x51.1 0) (ji2 p x1) (jif p x51).1=true)/\bN 11 (endP p+1).toNat p.chan.length (x1.1+1) (bU B (aV p (jik p x2) (ji2 p x1) x51.1++bD p ((ji4 p x2).getD x51.1 0) (ji2 p x1) (jif p x51).1)) (jif p x51).2.2)/\(true=true/\((nI ((ji2 p x1)+1):Value)=nI ((ji2 p x1)+1+(((jif p x51).1:Nat):Int))/\(nI 250:Value)=nI (bR p ((ji4 p x2).getD x51.1 0) (ji2 p x1) (jif p x51).1)/\jie p x2 x51)/\((kbq 20 (.map (knE x51.2.1.1)) (.map (knE (jif p x51).2.1.1)))/\wkO (.cells true 1 x51.2.2.hs:aa) (rno (sg 20 []) 3 (.cells true 1 (jif p x51).2.2.hs:aa))/\wkO (.fam 0 x51.2.2.ms:aa) (rno (sg 20 []) 3 (.fam 0 (jif p x51).2.2.ms:aa))/\True)/\ji1 p x2 x1)/\(∀x52:Nat×ab (sfP p)×Tb,true=true)/\∀x52:Nat×ab (sfP p)×Tb,(Dl p x52 x1 x2 x51 B)->(fk (decide ((((ji2 p x1)+1+(jii p x52)):Int)<=(endP p))) (nw (((ji2 p x1)+1+(jii p x52))-1) ((vS/\(vP p)/\(vO p)/\(vQ p)/\(vN p)/\(vM p)/\(vL p)/\(vK p)/\(ac (.map (knE x52.2.1.1)))/\True)/\(∀H':Heap,H'.length=20->(H'[0]?=some vR/\H'[7]?=some (vI p)/\H'[1]?=some (vH p)/\H'[2]?=some (vJ p)/\H'[3]?=some (vG p)/\H'[4]?=some (vE p)/\H'[5]?=some (vD p)/\H'[6]?=some (vC p)/\H'[8]?=some (.map (knE x52.2.1.1):aa)/\True)->ad prog 119 [pt 7,nI ((ji4 p x2).getD x51.1 0),nI (((ji2 p x1)+1+(jii p x52))-1)] H' [8] (fun y H2 => ∃z:ab (sfP p),True/\y=nI (sfP p ((ji4 p x2).getD x51.1 0) (Int.tdiv (((ji2 p x1)+1+(jii p x52))-1) 6))/\H2=(List.set H' 8 (.map (knE z.1):aa))))/\(∀r53:ab (sfP p),True->(((nI (if ((sfP p ((ji4 p x2).getD x51.1 0) (Int.tdiv (((ji2 p x1)+1+(jii p x52))-1) 6)):Int)<(bR p ((ji4 p x2).getD x51.1 0) (ji2 p x1) x52.1) then ((sfP p ((ji4 p x2).getD x51.1 0) (Int.tdiv (((ji2 p x1)+1+(jii p x52))-1) 6)):Int) else (bR p ((ji4 p x2).getD x51.1 0) (ji2 p x1) x52.1)):Value)=nI (nG p x2 x51 x1 x52))/\(fk (decide (((nG p x2 x51 x1 x52):Int)<10)) (jib p x51 x2 x1 B r53 x52) (nw (((ji2 p x1)+1+(jii p x52))-(ji2 p x1)) (((nI (((ji2 p x1)+1+(jii p x52))-(ji2 p x1)):Value)=nI (((x52.1+1):Nat):Int))/\(fk (decide ((1:Int)<(((x52.1+1):Nat):Int))) (nw (6*p.size) (nw ((6*p.size)-1) (nw ((((x52.1+1):Nat):Int)-1) (((((((x52.1+1):Nat):Int)-1):Int)≠0)/\(nw (yU p x52) (((nI (if ((yU p x52):Int)<(nG p x2 x51 x1 x52) then ((yU p x52):Int) else (nG p x2 x51 x1 x52)):Value)=nI (jiy p x2 x51 x1 x52))/\(uB p x1 x2 x51 x52 r53 B))))))) (((nI (nG p x2 x51 x1 x52):Value)=nI (jiy p x2 x51 x1 x52))/\(uB p x1 x2 x51 x52 r53 B)))))))))) (nw (((x51.1:Nat):Int)+1) (∃cj:Nat×ab (sfP p)×Tb,(cj.1<=List.length (ji4 p x2)/\bN 11 (endP p+1).toNat p.chan.length (x1.1+1) (bU B (aV p (jik p x2) (ji2 p x1) cj.1)) cj.2.2)/\(List.length (ji4 p x2)-cj.1)<(List.length (ji4 p x2)-x51.1)/\true=true/\((nI (((x51.1:Nat):Int)+1):Value)=nI ((cj.1:Nat):Int)/\A6 p x2)/\((kbq 20 (.map (knE x52.2.1.1)) (.map (knE cj.2.1.1)))/\wkO (.cells true 1 x52.2.2.hs:aa) (rno (sg 20 []) 3 (.cells true 1 cj.2.2.hs:aa))/\wkO (.fam 0 x52.2.2.ms:aa) (rno (sg 20 []) 3 (.fam 0 cj.2.2.ms:aa))/\True)/\ji1 p x2 x1))))))) (nw ((jik p x2)+1) (∃x2':Nat×ab (sfP p)×Tb,(x2'.1<=List.length p.chan/\bN 11 (endP p+1).toNat p.chan.length (x1.1+1) (cTo p x1.1 (gTo p x1.1) x2'.1) x2'.2.2)/\(List.length p.chan-x2'.1)<(List.length p.chan-x2.1)/\true=true/\((nI ((jik p x2)+1):Value)=nI ((x2'.1:Nat):Int)/\ji8 p x1)/\((kbq 14 (.map (knE x51.2.1.1)) (.map (knE x2'.2.1.1)))/\wkO (.cells true 1 x51.2.2.hs:aa) (rno (sg 14 []) 3 (.cells true 1 x2'.2.2.hs:aa))/\wkO (.fam 0 x51.2.2.ms:aa) (rno (sg 14 []) 3 (.fam 0 x2'.2.2.ms:aa))/\True)/\qZ)))))
abbrev jij(p:Pl):Nat×Tb:=(0,Tb.new 11 1 (endP p+1).toNat)
abbrev Gi(p:Pl):Prop:=eR (pt 7)/\eR (.slice none 0 0)/\eR (pt 10)/\eR (nI ((((endP p)+1).toNat:Nat):Int))/\True
abbrev Gj(x0:Nat×Tb)(p:Pl):Prop:=x0.1<=(endP p+1).toNat/\fS 11 1 (endP p+1).toNat af (fun j=>if j<x0.1 then List.replicate p.chan.length false else []) x0.2
abbrev oP(x0:Nat×Tb):Int:=(x0.1:Nat)
abbrev yT(p:Pl):Int:=(p.chan.length:Nat)
abbrev vT(x0:Nat×Tb):=slQ 12 1 (ce x0.2 0).length
abbrev Dm(x0:Nat×Tb):=aE (ce x0.2 0).length (x0.2.ks 0) x0.2.ms
abbrev ji3(x0:Nat×Tb)(p:Pl):=Tb.put 11 0 (ce x0.2 0).length (ba ((ce x0.2 0).flatMap af) (0+Int.toNat p.frm*1) [.bool true]) (ce x0.2 0).length x0.2
abbrev jil(p:Pl)(K:ab (sfP p))(x0:Nat×Tb):Nat×ab (sfP p)×Tb:=(0,K,(ji3 x0 p))
abbrev Gh(p:Pl):Prop:=eR (pt 10)/\eR (.slice none 0 0)/\eR (pt 7)/\eR (nI (endP p))/\True
abbrev ji5(p:Pl)(x1:Nat×ab (sfP p)×Tb):Value:=.iface ((jim p x1).length+1) (.agg ⟨((jim p x1).flatMap af)⟩)
abbrev jiv(p:Pl)(x1:Nat×ab (sfP p)×Tb):=Tb.frz x1.1 (jim p x1).length (ji5 p x1) x1.2.2
abbrev jia(p:Pl)(x1:Nat×ab (sfP p)×Tb):Nat×ab (sfP p)×Tb:=(0,x1.2.1,(jiv p x1))
abbrev jid(p:Pl)(x2:Nat×ab (sfP p)×Tb)(x1:Nat×ab (sfP p)×Tb):=ce x2.2.2 ((ji2 p x1)+1).toNat
abbrev ji6(p:Pl)(x1:Nat×ab (sfP p)×Tb)(x2:Nat×ab (sfP p)×Tb):=Tb.put 11 ((ji2 p x1)+1).toNat (jid p x2 x1).length (ba ((jid p x2 x1).flatMap af) (0+Int.toNat (jik p x2)*1) [.bool true]) (jid p x2 x1).length x2.2.2
abbrev jic(p:Pl)(x1:Nat×ab (sfP p)×Tb):=ce x1.2.2 (endP p).toNat
abbrev jig(p:Pl)(x1:Nat×ab (sfP p)×Tb):Value:=.iface ((jic p x1).length+1) (.agg ⟨((jic p x1).flatMap af)⟩)
abbrev jio(p:Pl)(x1:Nat×ab (sfP p)×Tb):=Tb.frz (endP p).toNat (jic p x1).length (jig p x1) x1.2.2
abbrev jix:Hint:=.go 0 (.again [])
abbrev A5:Nat×aa:=(0,.cells false 0 ji9)
abbrev jiw(p:Pl)(x2:Nat×ab (sfP p)×Tb)(x1:Nat×ab (sfP p)×Tb):List (Nat×Value):=[(52,nI (jik p x2)),(43,nI (endP p)),(0,pt 7),(2,.slice none 0 0),(3,pt 10),(44,nI (ji2 p x1)),(50,.iface ((jim p x1).length+1) (.agg ⟨((jim p x1).flatMap af)⟩)),(51,nI (((jim p x1).length:Nat):Int))]
def BW(p:Pl)(K:ab (sfP p)):Prop :=
 (nw ((endP p)+1) (((0:Int)<=((endP p)+1)/\(((endP p)+1):Int)<=((endP p)+1)/\(((endP p)+1):Int)<2 ^ 62/\24*(((endP p)+1):Int)<=2 ^ 48)/\(true=true/\((jij p).1<=(endP p+1).toNat/\fS 11 1 (endP p+1).toNat af (fun j=>if j<(jij p).1 then List.replicate p.chan.length false else []) (jij p).2)/\(true=true/\((nI 0:Value)=nI (((jij p).1:Nat):Int)/\Gi p)/\(wkO (.cells true 1 (cM [.slice none 0 0] ((endP p)+1).toNat):aa) (rno (sg 12 []) 3 (.cells true 1 (jij p).2.hs:aa))/\wkO (.fam 0 [nI ((1:Nat):Int)]:aa) (rno (sg 12 []) 3 (.fam 0 (jij p).2.ms:aa))/\True)/\qZ)/\(∀x0:Nat×Tb,true=true)/\∀x0:Nat×Tb,(Gj x0 p)->(fk (decide (((oP x0):Int)<((((endP p)+1).toNat:Nat):Int))) (((0:Int)<=(yT p)/\((yT p):Int)<=(yT p)/\((yT p):Int)<2 ^ 62/\1*((yT p):Int)<=2 ^ 48)/\((ixq (oP x0) ((endP p)+1).toNat)/\(((0+Int.toNat (oP x0)*1)+1<=List.length x0.2.hs)/\true=true/\((((ba x0.2.hs (0+Int.toNat (oP x0)*1) [slN 12 p.chan.length]):List Value)[x0.1]?=some (slN 12 p.chan.length)/\(false=true∨0<p.chan.length)/\(x0.2.ms:List Value)[0]?=some jin/\0<1/\List.length ((cM [.bool false] p.chan.length):List Value)=p.chan.length*1/\List.length (x0.2.ms:List Value)=(List.length x0.2.ms-1)+1)/\(nw ((oP x0)+1) (∃x0':Nat×Tb,(x0'.1<=(endP p+1).toNat/\fS 11 1 (endP p+1).toNat af (fun j=>if j<x0'.1 then List.replicate p.chan.length false else []) x0'.2)/\((endP p+1).toNat-x0'.1)<((endP p+1).toNat-x0.1)/\true=true/\((nI ((oP x0)+1):Value)=nI ((x0'.1:Nat):Int)/\Gi p)/\(wkO (.cells true 1 (List.set (ba x0.2.hs (0+Int.toNat (oP x0)*1) [slN 12 p.chan.length]) x0.1 (cX p.chan.length 11 (List.length x0.2.ms-1))):aa) (rno (sg 12 []) 3 (.cells true 1 x0'.2.hs:aa))/\wkO (.fam 0 (cp p.chan.length x0.2.ms (cM [.bool false] p.chan.length)):aa) (rno (sg 12 []) 3 (.fam 0 x0'.2.ms:aa))/\True)/\qZ)))))) (((x0.2.hs:List Value)[0]?=some (cX (ce x0.2 0).length 11 (x0.2.ks 0))/\(x0.2.ms:List Value)[0]?=some jin/\List.length (((ce x0.2 0).flatMap af):List Value)=(ce x0.2 0).length*1/\(0<(ce x0.2 0).length->(x0.2.ms:List Value)[(x0.2.ks 0)+1]?=some (.agg ⟨((ce x0.2 0).flatMap af)⟩)))/\((ixq 0 ((endP p)+1).toNat)/\(((List.set x0.2.hs 0 (vT x0))[0]?=some (vT x0))/\((ixq p.frm (ce x0.2 0).length)/\(((0+Int.toNat p.frm*1)+1<=List.length ((ce x0.2 0).flatMap af))/\true=true/\((((List.set x0.2.hs 0 (vT x0)):List Value)[0]?=some (vT x0)/\(true=true∨0<(ce x0.2 0).length)/\((Dm x0):List Value)[0]?=some jin/\0<1/\List.length ((ba ((ce x0.2 0).flatMap af) (0+Int.toNat p.frm*1) [.bool true]):List Value)=(ce x0.2 0).length*1/\List.length ((Dm x0):List Value)=(List.length x0.2.ms-1)+1)/\((some (.cells true 1 (List.set (List.set x0.2.hs 0 (vT x0)) 0 (cX (ce x0.2 0).length 11 (List.length x0.2.ms-1))):aa)=some (.cells true 1 (ji3 x0 p).hs:aa))/\((some (.fam 0 (cp (ce x0.2 0).length (Dm x0) (ba ((ce x0.2 0).flatMap af) (0+Int.toNat p.frm*1) [.bool true])):aa)=some (.fam 0 (ji3 x0 p).ms:aa))/\(true=true/\((jil p K x0).1<=Int.toNat (endP p)/\bN 11 (endP p+1).toNat p.chan.length (jil p K x0).1 (gTo p (jil p K x0).1) (jil p K x0).2.2)/\(true=true/\((nI 0:Value)=nI (((jil p K x0).1:Nat):Int)/\Gh p)/\((kbq 13 (.map (knE K.1)) (.map (knE (jil p K x0).2.1.1)))/\wkO (.cells true 1 (ji3 x0 p).hs:aa) (rno (sg 13 []) 3 (.cells true 1 (jil p K x0).2.2.hs:aa))/\wkO (.fam 0 (ji3 x0 p).ms:aa) (rno (sg 13 []) 3 (.fam 0 (jil p K x0).2.2.ms:aa))/\True)/\qZ)/\(∀x1:Nat×ab (sfP p)×Tb,true=true)/\∀x1:Nat×ab (sfP p)×Tb,(x1.1<=Int.toNat (endP p)/\bN 11 (endP p+1).toNat p.chan.length x1.1 (gTo p x1.1) x1.2.2)->(fk (decide (((ji2 p x1):Int)<(endP p))) (((x1.2.2.hs:List Value)[x1.1]?=some (cX (jim p x1).length 11 (x1.2.2.ks x1.1))/\(x1.2.2.ms:List Value)[0]?=some jin/\List.length (((jim p x1).flatMap af):List Value)=(jim p x1).length*1/\(0<(jim p x1).length->(x1.2.2.ms:List Value)[(x1.2.2.ks x1.1)+1]?=some (.agg ⟨((jim p x1).flatMap af)⟩)))/\((((List.set x1.2.2.hs x1.1 (slQ 13 1 (jim p x1).length)):List Value)[x1.1]?=some (slQ 13 1 (jim p x1).length))/\((ixq (ji2 p x1) ((endP p)+1).toNat)/\(((List.set (List.set x1.2.2.hs x1.1 (slQ 13 1 (jim p x1).length)) x1.1 (ji5 p x1))[(0+Int.toNat (ji2 p x1)*1)]?=some (ji5 p x1))/\((some (.cells true 1 (List.set (List.set x1.2.2.hs x1.1 (slQ 13 1 (jim p x1).length)) x1.1 (ji5 p x1)):aa)=some (.cells true 1 (jiv p x1).hs:aa))/\((some (.fam 0 (aE (jim p x1).length (x1.2.2.ks x1.1) x1.2.2.ms):aa)=some (.fam 0 (jiv p x1).ms:aa))/\(true=true/\((jia p x1).1<=List.length p.chan/\bN 11 (endP p+1).toNat p.chan.length (x1.1+1) (cTo p x1.1 (gTo p x1.1) (jia p x1).1) (jia p x1).2.2)/\(true=true/\((nI 0:Value)=nI (((jia p x1).1:Nat):Int)/\ji8 p x1)/\((kbq 14 (.map (knE x1.2.1.1)) (.map (knE (jia p x1).2.1.1)))/\wkO (.cells true 1 (jiv p x1).hs:aa) (rno (sg 14 []) 3 (.cells true 1 (jia p x1).2.2.hs:aa))/\wkO (.fam 0 (jiv p x1).ms:aa) (rno (sg 14 []) 3 (.fam 0 (jia p x1).2.2.ms:aa))/\True)/\qZ)/\(∀x2:Nat×ab (sfP p)×Tb,true=true)/\∀x2:Nat×ab (sfP p)×Tb,(x2.1<=List.length p.chan/\bN 11 (endP p+1).toNat p.chan.length (x1.1+1) (cTo p x1.1 (gTo p x1.1) x2.1) x2.2.2)->(fk (decide (((jik p x2):Int)<(((jim p x1).length:Nat):Int))) ((ixq (jik p x2) (jim p x1).length)/\((((jim p x1).flatMap af)[(Int.toNat (jik p x2)*1)]?=some (.bool ((jim p x1).getD x2.1 false)))/\(fk (!((jim p x1).getD x2.1 false)) (nw ((jik p x2)+1) (∃x2':Nat×ab (sfP p)×Tb,(x2'.1<=List.length p.chan/\bN 11 (endP p+1).toNat p.chan.length (x1.1+1) (cTo p x1.1 (gTo p x1.1) x2'.1) x2'.2.2)/\(List.length p.chan-x2'.1)<(List.length p.chan-x2.1)/\true=true/\((nI ((jik p x2)+1):Value)=nI ((x2'.1:Nat):Int)/\ji8 p x1)/\((kbq 14 (.map (knE x2.2.1.1)) (.map (knE x2'.2.1.1)))/\wkO (.cells true 1 x2.2.2.hs:aa) (rno (sg 14 []) 3 (.cells true 1 x2'.2.2.hs:aa))/\wkO (.fam 0 x2.2.2.ms:aa) (rno (sg 14 []) 3 (.fam 0 x2'.2.2.ms:aa))/\True)/\qZ)) (nw ((ji2 p x1)+1) ((vS/\(vP p)/\(vO p)/\(vQ p)/\(vN p)/\(vM p)/\(vL p)/\(vK p)/\(ac (.map (knE x2.2.1.1)))/\True)/\(∀H':Heap,H'.length=14->(H'[0]?=some vR/\H'[7]?=some (vI p)/\H'[1]?=some (vH p)/\H'[2]?=some (vJ p)/\H'[3]?=some (vG p)/\H'[4]?=some (vE p)/\H'[5]?=some (vD p)/\H'[6]?=some (vC p)/\H'[8]?=some (.map (knE x2.2.1.1):aa)/\True)->ad prog 70 [pt 7,nI (jik p x2),nI (ji2 p x1),nI ((ji2 p x1)+1)] H' [8] (fun y H2 => ∃z:ab (sfP p),True/\y = .bool (wtB p (jik p x2) (ji2 p x1) ((ji2 p x1)+1))/\H2=(List.set H' 8 (.map (knE z.1):aa))))/\(∀r3:ab (sfP p),True->(fk (wtB p (jik p x2) (ji2 p x1) ((ji2 p x1)+1)) (((x2.2.2.hs:List Value)[((ji2 p x1)+1).toNat]?=some (cX (jid p x2 x1).length 11 (x2.2.2.ks ((ji2 p x1)+1).toNat))/\(x2.2.2.ms:List Value)[0]?=some jin/\List.length (((jid p x2 x1).flatMap af):List Value)=(jid p x2 x1).length*1/\(0<(jid p x2 x1).length->(x2.2.2.ms:List Value)[(x2.2.2.ks ((ji2 p x1)+1).toNat)+1]?=some (.agg ⟨((jid p x2 x1).flatMap af)⟩)))/\(nw ((ji2 p x1)+1) ((ixq ((ji2 p x1)+1) ((endP p)+1).toNat)/\(((List.set x2.2.2.hs ((ji2 p x1)+1).toNat (slQ 14 1 (jid p x2 x1).length))[(0+Int.toNat ((ji2 p x1)+1)*1)]?=some (slQ 14 1 (jid p x2 x1).length))/\((ixq (jik p x2) (jid p x2 x1).length)/\(((0+Int.toNat (jik p x2)*1)+1<=List.length ((jid p x2 x1).flatMap af))/\true=true/\((((List.set x2.2.2.hs ((ji2 p x1)+1).toNat (slQ 14 1 (jid p x2 x1).length)):List Value)[((ji2 p x1)+1).toNat]?=some (slQ 14 1 (jid p x2 x1).length)/\(true=true∨0<(jid p x2 x1).length)/\((aE (jid p x2 x1).length (x2.2.2.ks ((ji2 p x1)+1).toNat) x2.2.2.ms):List Value)[0]?=some jin/\0<1/\List.length ((ba ((jid p x2 x1).flatMap af) (0+Int.toNat (jik p x2)*1) [.bool true]):List Value)=(jid p x2 x1).length*1/\List.length ((aE (jid p x2 x1).length (x2.2.2.ks ((ji2 p x1)+1).toNat) x2.2.2.ms):List Value)=(List.length x2.2.2.ms-1)+1)/\((some (.cells true 1 (List.set (List.set x2.2.2.hs ((ji2 p x1)+1).toNat (slQ 14 1 (jid p x2 x1).length)) ((ji2 p x1)+1).toNat (cX (jid p x2 x1).length 11 (List.length x2.2.2.ms-1))):aa)=some (.cells true 1 (ji6 p x1 x2).hs:aa))/\((some (.fam 0 (cp (jid p x2 x1).length (aE (jid p x2 x1).length (x2.2.2.ks ((ji2 p x1)+1).toNat) x2.2.2.ms) (ba ((jid p x2 x1).flatMap af) (0+Int.toNat (jik p x2)*1) [.bool true])):aa)=some (.fam 0 (ji6 p x1 x2).ms:aa))/\(xQ p x1 x2 r3 (dc (cTo p x1.1 (gTo p x1.1) x2.1) ((ji2 p x1)+1) (jik p x2)) (ji6 p x1 x2))))))))))) (xQ p x1 x2 r3 (cTo p x1.1 (gTo p x1.1) x2.1) x2.2.2)))))))) (nw ((ji2 p x1)+1) (∃x1':Nat×ab (sfP p)×Tb,(x1'.1<=Int.toNat (endP p)/\bN 11 (endP p+1).toNat p.chan.length x1'.1 (gTo p x1'.1) x1'.2.2)/\(Int.toNat (endP p)-x1'.1)<(Int.toNat (endP p)-x1.1)/\true=true/\((nI ((ji2 p x1)+1):Value)=nI ((x1'.1:Nat):Int)/\Gh p)/\((kbq 13 (.map (knE x2.2.1.1)) (.map (knE x1'.2.1.1)))/\wkO (.cells true 1 x2.2.2.hs:aa) (rno (sg 13 []) 3 (.cells true 1 x1'.2.2.hs:aa))/\wkO (.fam 0 x2.2.2.ms:aa) (rno (sg 13 []) 3 (.fam 0 x1'.2.2.ms:aa))/\True)/\qZ)))))))))) (((x1.2.2.hs:List Value)[(endP p).toNat]?=some (cX (jic p x1).length 11 (x1.2.2.ks (endP p).toNat))/\(x1.2.2.ms:List Value)[0]?=some jin/\List.length (((jic p x1).flatMap af):List Value)=(jic p x1).length*1/\(0<(jic p x1).length->(x1.2.2.ms:List Value)[(x1.2.2.ks (endP p).toNat)+1]?=some (.agg ⟨((jic p x1).flatMap af)⟩)))/\((((List.set x1.2.2.hs (endP p).toNat (slQ 13 1 (jic p x1).length)):List Value)[(endP p).toNat]?=some (slQ 13 1 (jic p x1).length))/\((some (.cells true 1 (List.set (List.set x1.2.2.hs (endP p).toNat (slQ 13 1 (jic p x1).length)) (endP p).toNat (jig p x1)):aa)=some (.cells true 1 (jio p x1).hs:aa))/\((some (.fam 0 (aE (jic p x1).length (x1.2.2.ks (endP p).toNat) x1.2.2.ms):aa)=some (.fam 0 (jio p x1).ms:aa))/\(∃x:ab (sfP p),True/\(true=true/\wk (.slice (some ⟨9,0,none⟩) ((endP p)+1).toNat ((endP p)+1).toNat:Value) (rn (sg 9 [(9,9)]) 3 (slQ 9 1 (tbP p).length:Value))/\((kbq 9 (.map (knE x1.2.1.1)) (.map (knE x.1)))/\True)/\((kbq 9 (.cells true 1 (jio p x1).hs) (.cells true 1 (List.map dV (tbP p))))/\True)))))))))))))))))))))
def Fo(p:Pl)(x1 x2 x51 x52:Nat×ab (sfP p)×Tb)(r53:ab (sfP p))(B:List (List Bool)):Hint :=
 .go 1 (.fork (.go 0 (.slot 73 (nI (((x51.1:Nat):Int)+1)) jix)) (.go 1 (.ans [A5,(7,.cells true 0 (ji0 p)),(1,.cells true 1 (jiq p)),(2,.cells false 0 (jiz p)),(3,.cells true 1 (jir p)),(4,.cells true 2 (jis p)),(5,.cells true 2 (jit p)),(6,.cells true 2 (jiu p)),(8,.map (knE r53.1))] (nI (tkP p (jiy p x2 x51 x1 x52))) [] (.go 2 (.aM (.go 5 (.into (some [8,9,11,18]) (.go 1 (.tab [.take 9 ((ji2 p x1)+1+(jii p x52)).toNat 11 (tQ p x52 x1) (ji7 p x52 x1).length 1 ((ji7 p x52 x1).flatMap af)] (.go 2 (.need (.val (slQ 21 1 (ji7 p x52 x1).length) (.go 1 (.need (.need (.go 2 (.tab [.give 9 ((ji2 p x1)+1+(jii p x52)).toNat 11 21 (List.length x52.2.2.ms-1) (ji7 p x52 x1).length 1 true] (.go 1 (.slot 28 (nI (((ji2 p x1)+1+(jii p x52))+1)) jix)))))))))))))) (.go 3 (.slot 28 (nI (((ji2 p x1)+1+(jii p x52))+1)) jix)))))))
def Fp(p:Pl)(x1 x2:Nat×ab (sfP p)×Tb)(r3:ab (sfP p))(B:List (List Bool))(U:Tb):Hint :=
 .go 9 (.into (some [8,9,11,14,15,16,17]) (.go 1 (.ans [A5,(7,.cells true 0 (ji0 p)),(1,.cells true 1 (jiq p)),(2,.cells false 0 (jiz p)),(3,.cells true 1 (jir p)),(4,.cells true 2 (jis p)),(5,.cells true 2 (jit p)),(6,.cells true 2 (jiu p)),(8,.map (knE r3.1))] (slQ 19 1 (ji4 p x2).length) [.cells true 1 ((ji4 p x2).flatMap bc)] (.go 1 (.inv 3 (Nat×ab (sfP p)×Tb) ((jip p r3 U)) [] [8,9,11,18] (fun x51=>[(15,nI ((x51.1:Nat):Int)),(3,pt 17),(1,pt 15),(0,.func (.yield 18) #[] #[]),(13,slQ 19 1 (ji4 p x2).length),(14,nI (((ji4 p x2).length:Nat):Int))]) (fun x51=>[(8,true,.map (knE x51.2.1.1)),(9,false,.cells true 1 x51.2.2.hs),(11,false,.fam 0 x51.2.2.ms)]) (fun x51=>[]) (fun x51=>[(18,(jiw p x2 x1))]) (fun x51=>(x51.1<=List.length (ji4 p x2)/\bN 11 (endP p+1).toNat p.chan.length (x1.1+1) (bU B (aV p (jik p x2) (ji2 p x1) x51.1)) x51.2.2)) (fun x51=>(List.length (ji4 p x2)-x51.1)) (fun x51 => .go 0 (.fork (.need (.val (nI ((ji4 p x2).getD x51.1 0)) (.go 3 (.slot 20 (nI ((ji2 p x1)+1)) (.go 0 (.inv 3 (Nat×ab (sfP p)×Tb) ((jif p x51)) [] [8,9,11,18] (fun x52=>[(8,nI ((ji2 p x1)+1+(jii p x52))),(7,nI (bR p ((ji4 p x2).getD x51.1 0) (ji2 p x1) x52.1)),(14,nI (((ji4 p x2).length:Nat):Int)),(13,slQ 19 1 (ji4 p x2).length),(0,.func (.yield 18) #[] #[]),(1,pt 15),(3,pt 17),(15,nI ((x51.1:Nat):Int)),(6,nI ((ji4 p x2).getD x51.1 0))]) (fun x52=>[(8,true,.map (knE x52.2.1.1)),(9,false,.cells true 1 x52.2.2.hs),(11,false,.fam 0 x52.2.2.ms)]) (fun x52=>[]) (fun x52=>[(18,(jiw p x2 x1))]) (fun x52=>(Dl p x52 x1 x2 x51 B)) (fun x52=>(Int.toNat (endP p-(ji2 p x1))-x52.1)) (fun x52 => .go 5 (.fork (.go 4 (.slot 33 (nI (((ji2 p x1)+1+(jii p x52))-1)) (.cg [A5,(7,.cells true 0 (ji0 p)),(1,.cells true 1 (jiq p)),(2,.cells false 0 (jiz p)),(3,.cells true 1 (jir p)),(4,.cells true 2 (jis p)),(5,.cells true 2 (jit p)),(6,.cells true 2 (jiu p)),(8,.map (knE x52.2.1.1))] [8] (ab (sfP p)) (fun r53=>True) (fun r53=>nI (sfP p ((ji4 p x2).getD x51.1 0) (Int.tdiv (((ji2 p x1)+1+(jii p x52))-1) 6))) (fun r53=>[(8,.map (knE r53.1))]) (fun r53=>[]) (fun r53 => .go 1 (.slot 7 (nI (nG p x2 x51 x1 x52)) (.go 1 (.fork (.go 0 (.slot 73 (nI (((x51.1:Nat):Int)+1)) jix)) (.go 3 (.slot 41 (nI (((ji2 p x1)+1+(jii p x52))-(ji2 p x1))) (.go 1 (.slot 10 (nI (((x52.1+1):Nat):Int)) (.go 1 (.fork (.go 6 (.slot 50 (nI (6*p.size)) (.go 0 (.slot 51 (nI ((6*p.size)-1)) (.go 1 (.slot 53 (nI ((((x52.1+1):Nat):Int)-1)) (.need (.slot 54 (nI (yU p x52)) (.go 1 (.slot 9 (nI (jiy p x2 x51 x1 x52)) ((Fo p x1 x2 x51 x52 r53 B)))))))))))) (.slot 9 (nI (jiy p x2 x51 x1 x52)) ((Fo p x1 x2 x51 x52 r53 B)))))))))))))))) (.go 0 (.slot 73 (nI (((x51.1:Nat):Int)+1)) jix)))))))))) (.keep (.go 0 (.slot 85 (nI ((jik p x2)+1)) jix))))))))))
abbrev jih(p:Pl)(K:ab (sfP p)):=aG [.cells false 0 ji9,.cells true 1 (jiq p),.cells false 0 (jiz p),.cells true 1 (jir p),.cells true 2 (jis p),.cells true 2 (jit p),.cells true 2 (jiu p),.cells true 0 (ji0 p),.map (knE K.1)]
theorem GZ(p:Pl)(K:ab (sfP p)):vF prog msk (dm 0) 100000 true 40 true 59 [pt 7] (jih p K) (some [8])
 (.go 5 (.slot 13 (nI ((endP p)+1)) (.need (.go 1 (.tab [.new 1] (.go 2 (.inv 3 (Nat×Tb) ((jij p)) [] [9,11] (fun x0=>[(17,nI (oP x0)),(0,pt 7),(2,.slice none 0 0),(3,pt 10),(16,nI ((((endP p)+1).toNat:Nat):Int))]) (fun x0=>[(9,false,.cells true 1 x0.2.hs),(11,false,.fam 0 x0.2.ms)]) (fun x0=>[]) (fun x0=>[]) (fun x0=>(Gj x0 p)) (fun x0=>((endP p+1).toNat-x0.1)) (fun x0 => .go 0 (.fork (.go 9 (.need (.need (.need (.tab [.give 9 x0.1 11 12 (List.length x0.2.ms-1) p.chan.length 1 false] (.go 0 (.slot 30 (nI ((oP x0)+1)) jix))))))) (.tab [.take 9 0 11 (x0.2.ks 0) (ce x0.2 0).length 1 ((ce x0.2 0).flatMap af)] (.go 0 (.need (.val (vT x0) (.go 4 (.need (.need (.tab [.give 9 0 11 12 (List.length x0.2.ms-1) (ce x0.2 0).length 1 true] (.obj 9 (.cells true 1 (ji3 x0 p).hs) (.obj 11 (.fam 0 (ji3 x0 p).ms) (.go 4 (.inv 3 (Nat×ab (sfP p)×Tb) ((jil p K x0)) [] [8,9,11] (fun x1=>[(44,nI (ji2 p x1)),(3,pt 10),(2,.slice none 0 0),(0,pt 7),(43,nI (endP p))]) (fun x1=>[(8,true,.map (knE x1.2.1.1)),(9,false,.cells true 1 x1.2.2.hs),(11,false,.fam 0 x1.2.2.ms)]) (fun x1=>[]) (fun x1=>[]) (fun x1=>(x1.1<=Int.toNat (endP p)/\bN 11 (endP p+1).toNat p.chan.length x1.1 (gTo p x1.1) x1.2.2)) (fun x1=>(Int.toNat (endP p)-x1.1)) (fun x1 => .go 0 (.fork (.go 1 (.tab [.take 9 x1.1 11 (x1.2.2.ks x1.1) (jim p x1).length 1 ((jim p x1).flatMap af),.rh 9 x1.1 13 (jim p x1).length (jim p x1).length true] (.go 1 (.need (.val (ji5 p x1) (.go 0 (.obj 9 (.cells true 1 (jiv p x1).hs) (.obj 11 (.fam 0 (jiv p x1).ms) (.go 0 (.inv 3 (Nat×ab (sfP p)×Tb) ((jia p x1)) [] [8,9,11] (fun x2=>[(52,nI (jik p x2)),(43,nI (endP p)),(0,pt 7),(2,.slice none 0 0),(3,pt 10),(44,nI (ji2 p x1)),(5,nI (ji2 p x1)),(50,.iface ((jim p x1).length+1) (.agg ⟨((jim p x1).flatMap af)⟩)),(51,nI (((jim p x1).length:Nat):Int))]) (fun x2=>[(8,true,.map (knE x2.2.1.1)),(9,false,.cells true 1 x2.2.2.hs),(11,false,.fam 0 x2.2.2.ms)]) (fun x2=>[]) (fun x2=>[]) (fun x2=>(x2.1<=List.length p.chan/\bN 11 (endP p+1).toNat p.chan.length (x1.1+1) (cTo p x1.1 (gTo p x1.1) x2.1) x2.2.2)) (fun x2=>(List.length p.chan-x2.1)) (fun x2 => .go 0 (.fork (.go 0 (.need (.val (.bool ((jim p x1).getD x2.1 false)) (.go 3 (.fork (.go 0 (.slot 85 (nI ((jik p x2)+1)) jix)) (.go 4 (.slot 63 (nI ((ji2 p x1)+1)) (.cg [A5,(7,.cells true 0 (ji0 p)),(1,.cells true 1 (jiq p)),(2,.cells false 0 (jiz p)),(3,.cells true 1 (jir p)),(4,.cells true 2 (jis p)),(5,.cells true 2 (jit p)),(6,.cells true 2 (jiu p)),(8,.map (knE x2.2.1.1))] [8] (ab (sfP p)) (fun r3=>True) (fun r3 => .bool (wtB p (jik p x2) (ji2 p x1) ((ji2 p x1)+1))) (fun r3=>[(8,.map (knE r3.1))]) (fun r3=>[]) (fun r3 => .fork (.tab [.take 9 ((ji2 p x1)+1).toNat 11 (x2.2.2.ks ((ji2 p x1)+1).toNat) (jid p x2 x1).length 1 ((jid p x2 x1).flatMap af)] (.go 2 (.slot 67 (nI ((ji2 p x1)+1)) (.need (.val (slQ 14 1 (jid p x2 x1).length) (.go 0 (.need (.need (.tab [.give 9 ((ji2 p x1)+1).toNat 11 14 (List.length x2.2.2.ms-1) (jid p x2 x1).length 1 true] (.obj 9 (.cells true 1 (ji6 p x1 x2).hs) (.obj 11 (.fam 0 (ji6 p x1 x2).ms) ((Fp p x1 x2 r3 (dc (cTo p x1.1 (gTo p x1.1) x2.1) ((ji2 p x1)+1) (jik p x2)) (ji6 p x1 x2)))))))))))))) (.fam [] 0 0 [1] [] ((Fp p x1 x2 r3 (cTo p x1.1 (gTo p x1.1) x2.1) x2.2.2)))))))))))) (.go 0 (.slot 86 (nI ((ji2 p x1)+1)) jix)))))))))))))) (.tab [.take 9 (endP p).toNat 11 (x1.2.2.ks (endP p).toNat) (jic p x1).length 1 ((jic p x1).flatMap af),.rh 9 (endP p).toNat 13 (jic p x1).length (jic p x1).length true] (.obj 9 (.cells true 1 (jio p x1).hs) (.obj 11 (.fam 0 (jio p x1).ms) (.go 1 (.keep (.again [(9,9)])))))))))))))))))))))))))))))
 (cK (α:=ab (sfP p)) ((jih p K):HT).n 3 [8] (fun x=>True) (fun x=>slQ 9 1 (tbP p).length) (fun x=>[(8,true,.map (knE x.1))]) (fun x=>[(true,.cells true 1 (List.map dV (tbP p)))]))=BW p K:=by kernel_rfl
end
end Go.Proofs.YtmecpfikljhjaaaGreatDoor
namespace Go.Proofs.YtmecpfikljhjaaaGreatDoor
noncomputable section
attribute [local irreducible] vF
theorem yB(B:List (List Bool))(l m:List Leg):bU B (l++m)=bU (bU B l) m:=List.foldl_append
theorem yz(B:List (List Bool))(l:List Leg)(x:Leg):bU B (l ++ [x])=dc (bU B l) x.arr x.to:=by rw[yB];rfl
theorem jH{hs:List Value}{t off:Nat}{v:Value}(h:t<hs.length)(ho:off=t):(hs.set t v)[off]?=some v:=by subst ho;exact List.getElem?_set_self h
theorem yJ(r k:Nat)(ms:List Value):(aE r k ms)[0]?=ms[0]? := by
 cases r with
 |zero=>rfl
 |succ r=>exact List.getElem?_set_ne (by omega)
theorem pj(l:List Bool){c:Nat}(h:c<l.length):ba (l.flatMap af) (0+c*1) [.bool true]=(l.set c true).flatMap af:=by
 rw[Nat.zero_add];exact t9 bF l c h true
section
variable {F N n f:Nat} {G:List (List Bool)} {T:Tb}
theorem bN.rowLen(I:bN F N n f G T)(h0:0<n){t:Nat}(h1:f<=t)(h2:t<N):(ce T t).length=n:=by rw[I.row h0 h1 h2];exact I.rl t h2
theorem bN.take(I:bN F N n f G T)(h0:0<n){t:Nat}(h1:f<=t)(h2:t<N):T.hs[t]?=some (cX (ce T t).length F (T.ks t))/\T.ms[0]?=some (nI ((1:Nat):Int))/\((ce T t).flatMap af).length=(ce T t).length*1/\(0<(ce T t).length->T.ms[T.ks t+1]?=some (.agg ⟨(ce T t).flatMap af⟩)):=by
 rw[I.row h0 h1 h2]
 exact ⟨I.at h1 h2,I.m0,aP bF _,I.rw h1 h2⟩
theorem bN.give(I:bN F N n f G T)(h0:0<n){t c:Nat}(h1:f<=t)(h2:t<N)(hc:c<n){sl:Value}:(T.hs.set t sl)[t]?=some sl/\(true=true∨0<(ce T t).length)/\(aE (ce T t).length (T.ks t) T.ms)[0]?=some (nI ((1:Nat):Int))/\0<1 /\
  (ba ((ce T t).flatMap af) (0+c*1) [.bool true]).length=(ce T t).length*1/\(aE (ce T t).length (T.ks t) T.ms).length=(T.ms.length-1)+1:=by
 refine ⟨jH (by rw[I.tl];exact h2) rfl,.inl rfl,(yJ _ _ _).trans I.m0,by decide,?_,?_⟩
 ·rw[pj _ (by rw[I.rowLen h0 h1 h2];exact hc),aP bF,List.length_set]
 ·rw[lN];have:=I.pos;omega
theorem bN.puts(I:bN F N n f G T)(h0:0<n){t c:Nat}{a d:Int}(ha:Int.toNat a=t)(hd:Int.toNat d=c)(h1:f<=t)(h2:t<N)(hc:c<n):bN F N n f (dc G a d) (Tb.put F t (ce T t).length (ba ((ce T t).flatMap af) (0+c*1) [.bool true]) (ce T t).length T):=by
 subst ha hd
 have e:=I.row h0 h1 h2
 have el:=I.rl _ h2
 refine I.put (l:=(G.getD (Int.toNat a) []).set (Int.toNat d) true) h1 h2 ?_ (by rw[e]) (by rw[e,List.length_set]) (by rw[List.length_set];exact el)
 rw[e,pj _ (by rw[el];exact hc)]
end
theorem wV(n:Nat)(l:List (List Bool)):(l.map dV).all (ao n)=true:=by
 rw[List.all_map,List.all_eq_true]
 intro x _
 show ((x.flatMap af).all (b7 n))=true
 rw[List.all_eq_true]
 intro v hv
 obtain ⟨b,_,hb⟩:=List.mem_flatMap.1 hv
 cases List.mem_singleton.1 hb;rfl
theorem Jm{p:Pl}(o:bG p){x1 x2 x51 x52:Nat×ab (sfP p)×Tb}{r53:ab (sfP p)}{B:List (List Bool)}(hc:x2.1<p.land.length)(ht:(x1.1:Int)<endP p)(h1:x51.1<(bsP p (x2.1:Int)).length)(h2:x52.1<Int.toNat (endP p-(x1.1:Int)))
  (hk:okL p ((bsP p (x2.1:Int)).getD x51.1 0) (x1.1:Int) x52.1=true) (hl:¬ bR p ((bsP p (x2.1:Int)).getD x51.1 0) (x1.1:Int) (x52.1+1)<10)
  (I:bN 11 (Int.toNat (endP p+1)) p.chan.length (x1.1+1) (bU B (aV p (x2.1:Int) (x1.1:Int) x51.1++bD p ((bsP p (x2.1:Int)).getD x51.1 0) (x1.1:Int) x52.1)) x52.2.2):uB p x1 x2 x51 x52 r53 B:=by
 have he:=dG o
 have hb:=ft p (x2.1:Int)
 have hs:=ml p ((bsP p (x2.1:Int)).getD x51.1 0) (x1.1:Int) (x52.1+1)
 have hp:=uS p ((bsP p (x2.1:Int)).getD x51.1 0) (x1.1:Int) (x52.1+1)
 have hch:=o.chan
 have hto:=nY o (c:=(x2.1:Int)) (by omega) h1
 delta uB jiy jib vS vP vO vQ vN vM vL vK vR vI vH vJ vG vE vD vC ji2 jii ji7 tQ jin Dn ji4 Gg nG jie ji1 jik jim jiu jit jis jir jiz jiq ji0 ji9 A6 nI slQ pt ac fk nw eR wR kbq ixq
 refine ⟨fun k=>⟨ak (by omega),(x51.1+1,r53,x52.2.2),⟨by show x51.1+1<=_;omega,?_⟩,by show _-(x51.1+1)<_;omega,rfl,?_⟩,fun k =>?_⟩
 ·rw[show aV p (x2.1:Int) (x1.1:Int) (x51.1+1)=_ from dy h1 (Nat.le_of_lt h2) (.inr (vY (of_decide_eq_true k)))];exact I
 ·repeat' first|exact knB _ _|(exact I.wkH (by rfl) rfl)|exact I.wkM rfl|exact (fV _ _).symm|exact trivial|exact rfl|exact ae _|refine ⟨rfl,?_⟩|refine ⟨trivial,?_⟩|apply And.intro
 ·have hk2:okL p ((bsP p (x2.1:Int)).getD x51.1 0) (x1.1:Int) (x52.1+1)=true:=by rw[mS,hk,rc hl (of_decide_eq_false k)];rfl
  have hsp:=of_decide_eq_false k
  refine ⟨?_,fun H' hn h=>qV o (by omega) (eG h),fun q =>?_,fun q =>?_⟩
  ·repeat' first|exact trivial|refine ⟨rfl,?_⟩
  ·have h0:0<p.chan.length:=by omega
   have e1:x1.1+1<=Int.toNat ((x1.1:Int)+1+(x52.1:Int)):=by omega
   have e2:Int.toNat ((x1.1:Int)+1+(x52.1:Int))<Int.toNat (endP p+1):=by omega
   have e3:Int.toNat ((bsP p (x2.1:Int)).getD x51.1 0)<p.chan.length:=by omega
   have er:=I.rowLen h0 e1 e2
   have et:=I.tl
   have P:=I.puts h0 (a:=(x1.1:Int)+1+(x52.1:Int)) (d:=(bsP p (x2.1:Int)).getD x51.1 0) rfl rfl e1 e2 e3
   have yes:bU B (aV p (x2.1:Int) (x1.1:Int) x51.1++bD p ((bsP p (x2.1:Int)).getD x51.1 0) (x1.1:Int) (x52.1+1))=dc (bU B (aV p (x2.1:Int) (x1.1:Int) x51.1++bD p ((bsP p (x2.1:Int)).getD x51.1 0) (x1.1:Int) x52.1)) ((x1.1:Int)+1+(x52.1:Int)) ((bsP p (x2.1:Int)).getD x51.1 0):=by
    have e:ek p ((bsP p (x2.1:Int)).getD x51.1 0) (x1.1:Int) x52.1=[⟨(bsP p (x2.1:Int)).getD x51.1 0,(x1.1:Int),spL p ((bsP p (x2.1:Int)).getD x51.1 0) (x1.1:Int) (x52.1+1),(x1.1:Int)+1+(x52.1:Int)⟩]:=by
     unfold ek;rw[hk2,q];rfl
    rw[dU,<- List.append_assoc,e,yz]
   refine ⟨I.take h0 e1 e2,by omega,jH (by omega) (by omega),by omega,by rw[aP bF];omega,rfl,I.give h0 e1 e2 e3,ak (by omega),(x52.1+1,r53,_),⟨⟨by show x52.1+1<=_;omega,hk2⟩,by rw[show (x52.1+1,r53,_).1=x52.1+1 from rfl,yes];exact P⟩,by show _-(x52.1+1)<_;omega,rfl,?_⟩
   repeat' first|exact knB _ _|(exact P.wkH (by rfl) (List.set_set ..))|exact P.wkM rfl|exact (fV _ _).symm|exact trivial|exact rfl|exact ae _|refine ⟨rfl,?_⟩|refine ⟨trivial,?_⟩|apply And.intro
  ·have no:aV p (x2.1:Int) (x1.1:Int) x51.1++bD p ((bsP p (x2.1:Int)).getD x51.1 0) (x1.1:Int) (x52.1+1)=aV p (x2.1:Int) (x1.1:Int) x51.1++bD p ((bsP p (x2.1:Int)).getD x51.1 0) (x1.1:Int) x52.1:=by
    rw[dU];unfold ek;rw[hk2,q];simp
   refine ⟨ak (by omega),(x52.1+1,r53,x52.2.2),⟨⟨by show x52.1+1<=_;omega,hk2⟩,by rw[no];exact I⟩,by show _-(x52.1+1)<_;omega,rfl,?_⟩
   repeat' first|exact knB _ _|(exact I.wkH (by rfl) rfl)|exact I.wkM rfl|exact (fV _ _).symm|exact trivial|exact rfl|exact ae _|refine ⟨rfl,?_⟩|refine ⟨trivial,?_⟩|apply And.intro
theorem Hz{p:Pl}(o:bG p){x1 x2:Nat×ab (sfP p)×Tb}{r3:ab (sfP p)}{B:List (List Bool)}{U:Tb}(hc:x2.1<p.land.length)(ht:(x1.1:Int)<endP p)
  (I:bN 11 (Int.toNat (endP p+1)) p.chan.length (x1.1+1) B U) (hE:cTo p x1.1 (gTo p x1.1) (x2.1+1)=bU B (lgP p (x2.1:Int) (x1.1:Int))):xQ p x1 x2 r3 B U:=by
 have he:=dG o
 have hb:=ft p (x2.1:Int)
 have hch:=o.chan
 have hcc:0<=(x2.1:Int)/\(x2.1:Int)<(p.land.length:Int):=by omega
 delta xQ vS vP vO vQ vN vM vL vK vR vI vH vJ vG vE vD vC jik ji4 jip ji2 A6 ji1 jif jie Dl jii nG jib yU jiy ji8 qZ jim jiu jit jis jir jiz jiq ji0 ji9 nI slQ pt ac fk nw eR wR kbq ixq
 refine ⟨?_,fun H' hn h=>hn ▸ ky o hcc (eG h),rfl,⟨Nat.zero_le _,I⟩,⟨rfl,?_⟩,fun _=>rfl,fun x51 hx1=>⟨fun q1 =>?_,fun q1 =>?_⟩⟩
 ·repeat' first|exact trivial|refine ⟨rfl,?_⟩
 ·repeat' first|exact knB _ _|(exact I.wkH (by rfl) rfl)|exact I.wkM rfl|exact (fV _ _).symm|exact trivial|exact rfl|exact ae _|refine ⟨rfl,?_⟩|refine ⟨trivial,?_⟩|apply And.intro
 ·have hx:=of_decide_eq_true q1
  have hx':x51.1<(bsP p (x2.1:Int)).length:=by omega
  have J0:=hx1.2
  have e0:aV p (x2.1:Int) (x1.1:Int) x51.1++bD p ((bsP p (x2.1:Int)).getD x51.1 0) (x1.1:Int) 0=aV p (x2.1:Int) (x1.1:Int) x51.1:=List.append_nil _
  refine ⟨by omega,pM hx' (by omega),ak (by omega),rfl,⟨⟨Nat.zero_le _,rfl⟩,by rw[show ((0,x51.2.1,x51.2.2):Nat×ab (sfP p)×Tb).1=0 from rfl,e0];exact J0⟩,⟨rfl,?_⟩,fun _=>rfl,fun x52 hx2=>⟨fun q2 =>?_,fun q2 =>?_⟩⟩
  ·repeat' first|exact knB _ _|(exact J0.wkH (by rfl) rfl)|exact J0.wkM rfl|exact (fV _ _).symm|exact trivial|exact rfl|exact ae _|refine ⟨rfl,?_⟩|refine ⟨trivial,?_⟩|apply And.intro
  ·have hq:=of_decide_eq_true q2
   have tU:x52.1<Int.toNat (endP p-(x1.1:Int)):=by omega
   have e1:Int.tdiv ((x1.1:Int)+1+(x52.1:Int)-1) 6=Int.tdiv ((x1.1:Int)+(x52.1:Int)) 6:=by congr 1;omega
   have J:=hx2.2
   refine ⟨ak (by omega),?_,fun H' hn h=>td o (nY o hcc hx') (by omega) (eG h),fun r53 _=>⟨?_,fun q3 =>?_,fun q3 =>?_⟩⟩
   ·repeat' first|exact trivial|refine ⟨rfl,?_⟩
   ·rw[nf e1]
   ·refine ⟨ak (by omega),(x51.1+1,r53,x52.2.2),⟨by show x51.1+1<=_;omega,?_⟩,by show _-(x51.1+1)<_;omega,rfl,?_⟩
    ·rw[show aV p (x2.1:Int) (x1.1:Int) (x51.1+1)=_ from dy hx' (Nat.le_of_lt tU) (.inr (re (of_decide_eq_true q3)))];exact J
    ·repeat' first|exact knB _ _|(exact J.wkH (by rfl) rfl)|exact J.wkM rfl|exact (fV _ _).symm|exact trivial|exact rfl|exact ae _|refine ⟨rfl,?_⟩|refine ⟨trivial,?_⟩|apply And.intro
   ·have tl:uB p x1 x2 x51 x52 r53 B:=Jm o hc ht hx' tU hx2.1.2 (of_decide_eq_false q3) J
    have hz:=o.size
    refine ⟨ak (by omega),iEq (by omega),fun q4 =>?_,fun q4 =>?_⟩
    ·have h4:=of_decide_eq_true q4
     have hdiv:0<=Int.tdiv (6*p.size-1) (((x52.1+1:Nat):Int)-1)/\Int.tdiv (6*p.size-1) (((x52.1+1:Nat):Int)-1)<=3000:=by
      rw[Int.tdiv_eq_ediv_of_nonneg (by omega)]
      exact ⟨Int.ediv_nonneg (by omega) (by omega),Int.le_trans (Int.ediv_le_self _ (by omega)) (by omega)⟩
     refine ⟨ak (by omega),ak (by omega),ak (by omega),by omega,ak (by omega),?_,tl⟩
     have h5:1<x52.1+1:=by omega
     unfold spL;rw[if_pos h5]
    ·refine ⟨?_,tl⟩
     have h5:¬ 1<x52.1+1:=by have:=of_decide_eq_false q4;omega
     unfold spL;rw[if_neg h5]
  ·have hq:=of_decide_eq_false q2
   have J:=hx2.2
   refine ⟨ak (by omega),(x51.1+1,x52.2.1,x52.2.2),⟨by show x51.1+1<=_;omega,?_⟩,by show _-(x51.1+1)<_;omega,rfl,?_⟩
   ·rw[show aV p (x2.1:Int) (x1.1:Int) (x51.1+1)=_ from dy hx' hx2.1.1 (.inl (by omega))];exact J
   ·repeat' first|exact knB _ _|(exact J.wkH (by rfl) rfl)|exact J.wkM rfl|exact (fV _ _).symm|exact trivial|exact rfl|exact ae _|refine ⟨rfl,?_⟩|refine ⟨trivial,?_⟩|apply And.intro
 ·have hq:=of_decide_eq_false q1
  have hbd:=o.bd
  have J:=hx1.2
  rw[gu (by omega),<- hE]at J
  refine ⟨ak (by omega),(x2.1+1,x51.2.1,x51.2.2),⟨by show x2.1+1<=_;omega,J⟩,by show _-(x2.1+1)<_;omega,rfl,?_⟩
  repeat' first|exact knB _ _|(exact J.wkH (by rfl) rfl)|exact J.wkM rfl|exact (fV _ _).symm|exact trivial|refine ⟨rfl,?_⟩|refine ⟨trivial,?_⟩|apply And.intro
theorem gV{l:List Bool}{c:Int}(h:fh l c=true):(0<=c/\c<(l.length:Int))/\l.getD (Int.toNat c) false=false:=by
 unfold fh at h
 rw[Bool.and_eq_true,Bool.not_eq_true']at h
 have:=aR.1 h.1
 exact ⟨⟨this.1,by omega⟩,h.2⟩
theorem HA(F N n:Nat):fS F 1 N af (fun j=>if j<0 then List.replicate n false else []) (Tb.new F 1 N):=by
 have e:(fun j:Nat=>if j<0 then List.replicate n false else [])=fun _=>[]:=funext fun j=>if_neg (Nat.not_lt_zero j)
 rw[e];exact fS.new F 1 N af
theorem xj:∀n,cM [.bool false] n=(List.replicate n false).flatMap af
 |0=>rfl
 |n+1=>by show Value.bool false :: cM [.bool false] n=_;rw[xj n];rfl
theorem FA{F N n k:Nat}{T:Tb}(I:fS F 1 N af (fun j=>if j<k then List.replicate n false else []) T)(hk:k<N):fS F 1 N af (fun j=>if j<k+1 then List.replicate n false else []) (Tb.put F k 0 (cM [.bool false] n) n T):=by
 have J:=I.put hk (List.replicate n false) nZ (xj n)
 have e1:(fun j=>if j<k+1 then List.replicate n false else [])=fun j=>if j=k then List.replicate n false else if j<k then List.replicate n false else []:=funext fun j=>by
  by_cases h:j=k
  ·rw[if_pos h,if_pos (by omega)]
  ·rw[if_neg h]
   by_cases h2:j<k
   ·rw[if_pos h2,if_pos (by omega)]
   ·rw[if_neg h2,if_neg (by omega)]
 rw[e1]
 have e2:(if k<k then List.replicate n false else []).length=0:=by rw[if_neg (by omega)];rfl
 have J2:=J
 rw[e2,List.length_replicate]at J2
 exact J2
theorem Gl{hs:List Value}{t off:Nat}{s1 v:Value}(ho:off=t):(ba hs off [s1]).set t v=hs.set t v:=by
 subst ho
 simp only[ba,List.set_set]
theorem Cy{hs:List Value}{t off:Nat}{v:Value}(h:t<hs.length)(ho:off=t):(ba hs off [v])[t]?=some v:=by subst ho;exact List.getElem?_set_self h
theorem AM{p:Pl}(o:bG p){K:ab (sfP p)}{H:Heap}{l c' n t' w i W m:Nat}(a:i7 H p K l c' n t' w i W m) :
  ad prog 59 [pt W] H [m] (fun y H2 => ∃z:ab (sfP p),True/\y = .slice (some ⟨H.length,0,some 1⟩) (tbP p).length (tbP p).length/\H2=H.set m (.map (knE z.1)) ++ [.cells true 1 ((tbP p).map dV)]):=by
 have key:=lI (α:=ab (sfP p)) (I:=fun _=>True) (os:=wOs p K) (fun _ j => .slice (some ⟨j,0,some 1⟩) (tbP p).length (tbP p).length) (chg:=fun x=>[(8,true,.map (knE x.1))]) (new:=fun _=>[.cells true 1 ((tbP p).map dV)]) (ks:=[8])
  (Eq.mpr (GZ p K) ?_) (jE p K) (fun k hk=>by obtain rfl:=List.mem_singleton.1 hk;exact ⟨_,rfl,rfl⟩) (fun _ _=>rfl) (fun x _=>⟨⟨List.mem_singleton.2 rfl,plM x.1⟩,trivial⟩) (fun _ _=>⟨⟨_,_,rfl,wV _ _⟩,trivial⟩) a.1 a.objs rfl (fun _ _ _=>rfl) rfl (ms:=[m]) rfl
 ·exact key
 have he:=dG o
 have hct:=o.cts
 have he0:0<=endP p:=by unfold endP;omega
 have hch:=o.chan
 have hbd:=o.bd
 have hfr:=gV o.frm
 have h0:0<p.chan.length:=by omega
 delta BW jij Gi qZ Gj oP yT jin vT Dm ji3 jil Gh ji2 jim ji5 jiv jia ji8 jik vS vP vO vQ vN vM vL vK vR vI vH vJ vG vE vD vC jid ji6 jic jig jio jix A5 ji0 jiq jiz jir jis jit jiu jiy jii tQ ji7 ji4 jip jiw jif Dl nG yU ji9 nI slQ pt slN ac fk nw eR kbq ixq
 refine ⟨ak (by omega),⟨by omega,by omega,by omega,by omega⟩,rfl,⟨Nat.zero_le _,HA 11 _ _⟩,⟨rfl,?_⟩,fun _=>rfl,fun x0 hx0=>⟨fun q0 =>?_,fun q0 =>?_⟩⟩
 ·repeat' first|exact Fq|exact (fS.new 11 1 _ af).wkM rfl|exact trivial|refine ⟨rfl,?_⟩|refine ⟨trivial,?_⟩|apply And.intro
 ·have hq:=of_decide_eq_true q0
  have I0:=hx0.2
  have hl:=I0.hl
  have hp:=I0.pos
  have J0:=FA I0 (by omega)
  refine ⟨⟨by omega,by omega,by omega,by omega⟩,by omega,by omega,rfl,⟨Cy (by omega) (by omega),.inr h0,I0.m0,by decide,by rw[xj,aP bF,List.length_replicate],by omega⟩,ak (by omega),(x0.1+1,_),⟨by show x0.1+1<=_;omega,J0⟩,by show _-(x0.1+1)<_;omega,rfl,?_⟩
  repeat' first|(exact J0.wkH (by rfl) (Gl (by omega)))|exact J0.wkM rfl|exact trivial|refine ⟨rfl,?_⟩|refine ⟨trivial,?_⟩|apply And.intro
 have hq0:=of_decide_eq_false q0
 have I0:bN 11 (Int.toNat (endP p+1)) p.chan.length 0 _ x0.2:=bN.ofI (k:=x0.1) (by omega) hx0.2
 have et:=I0.tl
 have er:=I0.rowLen h0 (Nat.le_refl 0) (by omega)
 have P0:bN 11 (Int.toNat (endP p+1)) p.chan.length 0 (gTo p 0) _:=I0.puts h0 (a:=0) (d:=p.frm) rfl rfl (Nat.le_refl 0) (by omega) (c:=Int.toNat p.frm) (by omega)
 refine ⟨I0.take h0 (Nat.le_refl 0) (by omega),by omega,jH (by omega) rfl,by omega,by rw[aP bF];omega,rfl,I0.give h0 (Nat.le_refl 0) (by omega) (by omega),congrArg _ (congrArg _ (List.set_set ..)),rfl,rfl,⟨Nat.zero_le _,P0⟩,⟨rfl,?_⟩,fun _=>rfl,fun x1 hx1=>⟨fun q1 =>?_,fun q1 =>?_⟩⟩
 ·repeat' first|exact knB _ _|(exact P0.wkH (by rfl) rfl)|exact P0.wkM rfl|exact trivial|refine ⟨rfl,?_⟩|refine ⟨trivial,?_⟩|apply And.intro
 ·have hq:=of_decide_eq_true q1
  have I:=hx1.2
  have et:=I.tl
  have eq:=I.row h0 (Nat.le_refl _) (by omega)
  have er:=I.rowLen h0 (Nat.le_refl _) (by omega)
  have Z:=I.frz (by omega) (r:=(ce x1.2.2 x1.1).length) (v:=dV (ce x1.2.2 x1.1)) (by rw[eq]) (by rw[eq])
  refine ⟨I.take h0 (Nat.le_refl _) (by omega),jH (by omega) rfl,by omega,jH (by rw[List.length_set];omega) (by omega),congrArg _ (congrArg _ (List.set_set ..)),rfl,rfl,⟨Nat.zero_le _,Z⟩,⟨rfl,?_⟩,fun _=>rfl,fun x2 hx2=>⟨fun q2 =>?_,fun q2 =>?_⟩⟩
  ·repeat' first|exact knB _ _|(exact Z.wkH (by rfl) rfl)|exact Z.wkM rfl|exact (fV _ _).symm|exact trivial|refine ⟨rfl,?_⟩|refine ⟨trivial,?_⟩|apply And.intro
  ·have hq2:=of_decide_eq_true q2
   have J:=hx2.2
   have hth:((gTo p x1.1).getD x1.1 []).getD x2.1 false=(ce x1.2.2 x1.1).getD x2.1 false:=by rw[eq]
   refine ⟨by omega,eQ (by omega) (by omega),fun q3 =>?_,fun q3 =>?_⟩
   ·have hE:cTo p x1.1 (gTo p x1.1) (x2.1+1)=cTo p x1.1 (gTo p x1.1) x2.1:=by
     show (if _ then _ else _)=_
     rw[hth,show (ce x1.2.2 x1.1).getD x2.1 false=false by simpa using q3];rfl
    rw[<- hE]at J
    refine ⟨ak (by omega),(x2.1+1,x2.2.1,x2.2.2),⟨by show x2.1+1<=_;omega,J⟩,by show _-(x2.1+1)<_;omega,rfl,?_⟩
    repeat' first|exact knB _ _|(exact J.wkH (by rfl) rfl)|exact J.wkM rfl|exact (fV _ _).symm|exact trivial|refine ⟨rfl,?_⟩|refine ⟨trivial,?_⟩|apply And.intro
   ·have hE:cTo p x1.1 (gTo p x1.1) (x2.1+1)=cSt p x1.1 x2.1 (cTo p x1.1 (gTo p x1.1) x2.1):=by
     show (if _ then _ else _)=_
     rw[hth,show (ce x1.2.2 x1.1).getD x2.1 false=true by simpa using q3];rfl
    refine ⟨ak (by omega),?_,fun H' hn h=>qU o (by omega) (by omega) (by omega) (eG h),fun r3 _=>⟨fun q4 =>?_,fun q4 =>?_⟩⟩
    ·repeat' first|exact trivial|refine ⟨rfl,?_⟩
    ·have t2:x1.1+1<=Int.toNat ((x1.1:Int)+1):=by omega
     have t3:Int.toNat ((x1.1:Int)+1)<Int.toNat (endP p+1):=by omega
     have jt:=J.tl
     have jr:=J.rowLen h0 t2 t3
     have P:=J.puts h0 (a:=(x1.1:Int)+1) (d:=(x2.1:Int)) rfl rfl t2 t3 (c:=Int.toNat (x2.1:Int)) (by omega)
     refine ⟨J.take h0 t2 t3,ak (by omega),by omega,jH (by omega) (by omega),by omega,by rw[aP bF];omega,rfl,J.give h0 t2 t3 (by omega),congrArg _ (congrArg _ (List.set_set ..)),rfl,Hz o (by omega) (by omega) P ?_⟩
     rw[hE];unfold cSt;rw[if_pos q4]
    ·refine Hz o (by omega) (by omega) J ?_
     rw[hE];unfold cSt;rw[q4];rfl
  ·have hq2:=of_decide_eq_false q2
   have J:=hx2.2
   have hE:cTo p x1.1 (gTo p x1.1) x2.1=gTo p (x1.1+1):=by
    show _=cTo p x1.1 (gTo p x1.1) _
    rw[<- eq,er];congr 1;omega
   rw[hE]at J
   refine ⟨ak (by omega),(x1.1+1,x2.2.1,x2.2.2),⟨by show x1.1+1<=_;omega,J⟩,by show _-(x1.1+1)<_;omega,rfl,?_⟩
   repeat' first|exact knB _ _|(exact J.wkH (by rfl) rfl)|exact J.wkM rfl|exact trivial|refine ⟨rfl,?_⟩|refine ⟨trivial,?_⟩|apply And.intro
 ·have hq:=of_decide_eq_false q1
  have hx:x1.1=Int.toNat (endP p):=by omega
  have I:=hx1.2
  rw[hx]at I
  have et:=I.tl
  have eq:=I.row h0 (Nat.le_refl _) (by omega)
  have Z:=I.frz (by omega) (r:=(ce x1.2.2 (Int.toNat (endP p))).length) (v:=dV (ce x1.2.2 (Int.toNat (endP p)))) (by rw[eq]) (by rw[eq])
  have hN:Int.toNat (endP p)+1=Int.toNat (endP p+1):=by omega
  rw[hN]at Z
  have za:=Z.all
  have zl:=Z.gl
  refine ⟨I.take h0 (Nat.le_refl _) (by omega),jH (by omega) rfl,congrArg _ (congrArg _ (List.set_set ..)),rfl,x1.2.1,trivial,?_⟩
  rw[za]
  have zl2:(tbP p).length=Int.toNat (endP p+1):=zl
  rw[zl2]
  repeat' first|exact wV _ _|exact knB _ _|exact trivial|(exact rT (by omega))|refine ⟨rfl,?_⟩|apply And.intro
end
end Go.Proofs.YtmecpfikljhjaaaGreatDoor
namespace Go.Proofs.YtmecpfikljhjaaaGreatDoor
noncomputable section
attribute [local irreducible] vF
def t6(q:Nat->Bool):Nat->Int
 |0 => -1
 |n+1=>match t6 q n with
  | .ofNat k=>(k:Int)
  | .negSucc _=>if q n then (n:Int) else -1
theorem mp{q:Nat->Bool}:∀{n:Nat},(∀k,k<n->q k=false)->t6 q n = -1
 |0,_=>rfl
 |n+1,h=>by
  show (match t6 q n with| .ofNat k=>(k:Int)| .negSucc _=>if q n then (n:Int) else -1) = -1
  rw[mp (n:=n) fun k hk=>h k (by omega)]
  show (if q n then (n:Int) else -1) = -1
  rw[if_neg (by rw[h n (by omega)];decide)]
theorem kF{q:Nat->Bool}{k:Nat}(hk:q k=true)(h:∀j,j<k->q j=false):∀{n:Nat},k<n->t6 q n=(k:Int)
 |0,hn=>absurd hn (Nat.not_lt_zero k)
 |n+1,hn=>by
  show (match t6 q n with| .ofNat k=>(k:Int)| .negSucc _=>if q n then (n:Int) else -1)=_
  by_cases e:k=n
  ·subst e
   rw[mp h]
   show (if q k then (k:Int) else -1)=_
   rw[if_pos hk]
  ·rw[kF hk h (n:=n) (by omega)]
theorem v4(q:Nat->Bool)(n:Nat):(t6 q n = -1/\∀k,k<n->q k=false)∨∃k,k<n/\q k=true/\(∀j,j<k->q j=false)/\t6 q n=(k:Int):=by
 induction n with
 |zero=>exact .inl ⟨rfl,fun k hk=>absurd hk (Nat.not_lt_zero k)⟩
 |succ n ih =>
  rcases ih with ⟨_,h⟩|⟨k,h1,h2,h3,h4⟩
  ·by_cases e:q n=true
   ·exact .inr ⟨n,by omega,e,h,kF e h (by omega)⟩
   ·have g:∀k,k<n+1->q k=false:=fun k hk=>by
     by_cases a:k=n
     ·rw[a];exact Bool.eq_false_iff.2 e
     ·exact h k (by omega)
    exact .inl ⟨mp g,g⟩
  ·exact .inr ⟨k,by omega,h2,h3,kF h2 h3 (by omega)⟩
def atB(p:Pl)(t:Nat):Bool:=((tbP p).getD t []).getD (Int.toNat p.to) false
def bp(p:Pl):Int:=t6 (atB p) (tbP p).length
def lfF(p:Pl)(a:Int):Nat->Int->Int->Int
 |0,c,t=>if t=a then (if c=p.to then 0 else 1048576) else 1048576
 |f+1,c,t=>if t=a then (if c=p.to then 0 else 1048576) else
   (lgP p c t).foldl (fun n x=>if x.arr<=a then min n (1+lfF p a f x.to x.arr) else n) (if wtB p c t (t+1) then lfF p a f c (t+1) else 1048576)
def lfP(p:Pl)(a c t:Int):Int:=lfF p a (Int.toNat (a-t)) c t
def lfS(p:Pl)(a:Int)(n:Int)(x:Leg):Int:=if x.arr<=a then min n (1+lfP p a x.to x.arr) else n
def ee(p:Pl)(a n:Int)(l:List Leg):Int:=l.foldl (lfS p a) n
def lf0(p:Pl)(a c t:Int):Int:=if wtB p c t (t+1) then lfP p a c (t+1) else 1048576
def gd(a b:Int):Int:=if a<b then -1 else if b<a then 1 else 0
def kK(a b:Leg):Int:=if gd a.to b.to≠0 then gd a.to b.to else if gd a.dep b.dep≠0 then gd a.dep b.dep else gd a.arr b.arr
def oS(b:Leg)(l:List Leg):Leg:=l.foldl (fun b x=>if kK x b<0 then x else b) b
def dM(l:List Leg)(n:Nat):Leg:=oS (l.getD 0 zL) ((l.drop 1).take n)
def iR:List Leg->Leg
 | [] =>zL
 |b :: l=>oS b l
def iP(p:Pl)(a n:Int)(x:Leg):Bool:=decide (x.arr<=a)&&(lfP p a x.to x.arr == n-1)
def D5(p:Pl)(a n c t:Int):List Leg:=(lgP p c t).filter (iP p a n)
def io(p:Pl)(a n c t:Int)(k:Nat):List Leg:=(List.range k).flatMap fun (j:Nat)=>if wtB p c t (t+(j:Int)) then D5 p a n c (t+(j:Int)) else []
def JX(p:Pl)(a n c t:Int):List Leg:=io p a n c t (Int.toNat (a-t))
def GF(p:Pl)(a:Int):Nat->Int×Int
 |0=>(p.frm,0)
 |k+1=>let q:=GF p a k;let x:=iR (JX p a (lfP p a q.1 q.2) q.1 q.2); (x.to,x.arr)
def bsC(p:Pl)(a:Int)(k:Nat):Int:=(GF p a k).1
def bsT(p:Pl)(a:Int)(k:Nat):Int:=(GF p a k).2
def bsN(p:Pl)(a:Int)(k:Nat):Int:=lfP p a (bsC p a k) (bsT p a k)
def bJ(p:Pl)(a:Int)(k j:Nat):List Leg:=io p a (bsN p a k) (bsC p a k) (bsT p a k) j
def dP(p:Pl)(a:Int)(k:Nat):List Leg:=bJ p a k (Int.toNat (a-bsT p a k))
def nxL(p:Pl)(a:Int)(k:Nat):Leg:=iR (dP p a k)
def bsL(p:Pl)(a:Int)(k:Nat):List Leg:=(List.range k).map (nxL p a)
def dO(p:Pl)(a:Int):List Leg:=bsL p a (Int.toNat (lfP p a p.frm 0))
theorem BI(p:Pl)(a:Int)(k:Nat):bsC p a (k+1)=(nxL p a k).to:=rfl
theorem BG(p:Pl)(a:Int)(k:Nat):bsT p a (k+1)=(nxL p a k).arr:=rfl
theorem um(p:Pl)(a:Int)(k:Nat):bsL p a (k+1)=bsL p a k ++ [nxL p a k]:=by unfold bsL;rw[List.range_succ,List.map_append];rfl
theorem xG(p:Pl)(a:Int)(k:Nat):(bsL p a k).length=k:=by unfold bsL;simp
theorem li{p:Pl}{to t:Int}{k:Nat}{x:Leg}(h:x∈ek p to t k):x.to=to/\x.dep=t/\x.arr=t+1+(k:Int)/\x.spd=spL p to t (k+1)/\okL p to t (k+1)=true/\tkP p x.spd=((k+1:Nat):Int):=by
 unfold ek at h
 by_cases e:(okL p to t (k+1)&&(tkP p (spL p to t (k+1)) == ((k+1:Nat):Int)))=true
 ·rw[if_pos e]at h
  rw[Bool.and_eq_true,beq_iff_eq]at e
  cases List.mem_singleton.1 h
  exact ⟨rfl,rfl,rfl,rfl,e.1,e.2⟩
 ·rw[if_neg e]at h;cases h
theorem jN{p:Pl}{to t:Int}{x:Leg}(h:x∈jO p t to):∃k:Nat,t+1+(k:Int)<=endP p/\x∈ek p to t k:=by
 unfold jO bD at h
 obtain ⟨k,hk,hx⟩:=List.mem_flatMap.1 h
 have:=List.mem_range.1 hk
 exact ⟨k,by omega,hx⟩
theorem eU{p:Pl}{c t:Int}{x:Leg}(h:x∈lgP p c t):x.to∈bsP p c/\x.dep=t/\t<x.arr/\x.arr<=endP p:=by
 unfold lgP at h
 obtain ⟨to,h1,h2⟩:=List.mem_flatMap.1 h
 obtain ⟨k,h3,h4⟩:=jN h2
 obtain ⟨e1,e2,e3,_⟩:=li h4
 exact ⟨by rw[e1];exact h1,e2,by omega,by omega⟩
theorem jV{α β:Type}{f g:β->α->β}:∀{l:List α} {b:β},(∀x∈l,∀b,f b x=g b x)->l.foldl f b=l.foldl g b
 | [],_,_=>rfl
 |x :: l,b,h=>by
  show l.foldl f (f b x)=l.foldl g (g b x)
  rw[h x List.mem_cons_self b];exact jV fun y hy=>h y (List.mem_cons_of_mem _ hy)
theorem Ar(p:Pl)(a:Int):∀(f:Nat) (c t:Int),t<=a->Int.toNat (a-t)<=f->lfF p a f c t=lfF p a (Int.toNat (a-t)) c t:=by
 intro f
 induction f using Nat.strongRecOn with
 |_ f ih =>
  intro c t h1 h2
  by_cases e:t=a
  ·subst e
   rw[show Int.toNat (t-t)=0 by omega]
   cases f with
   |zero=>rfl
   |succ f=>show (if t=t then _ else _)=(if t=t then _ else _);rw[if_pos rfl,if_pos rfl]
  ·cases f with
   |zero=>omega
   |succ f =>
    obtain ⟨g,hg⟩:∃g,Int.toNat (a-t)=g+1:=⟨Int.toNat (a-t)-1,by omega⟩
    rw[hg]
    show (if t=a then _ else _)=(if t=a then _ else _)
    rw[if_neg e,if_neg e]
    have same:∀c' u,t<u->u<=a->lfF p a f c' u=lfF p a g c' u:=fun c' u hu1 hu2=>by
     rw[ih f (by omega) c' u hu2 (by omega)]
     by_cases q:g<f+1
     ·rw[ih g q c' u hu2 (by omega)]
     ·omega
    rw[show lfF p a f c (t+1)=lfF p a g c (t+1) from same _ _ (by omega) (by omega)]
    refine jV fun x hx b =>?_
    have hm:=eU hx
    by_cases q:x.arr<=a
    ·rw[if_pos q,if_pos q,same _ _ hm.2.2.1 q]
    ·rw[if_neg q,if_neg q]
theorem je(p:Pl)(a c:Int):lfP p a c a=if c=p.to then 0 else 1048576:=by
 unfold lfP
 rw[show Int.toNat (a-a)=0 by omega]
 show (if a=a then _ else _)=_
 rw[if_pos rfl]
theorem lj{p:Pl}{a c t:Int}(h:t<a):lfP p a c t=ee p a (lf0 p a c t) (lgP p c t):=by
 unfold lfP
 obtain ⟨g,hg⟩:∃g,Int.toNat (a-t)=g+1:=⟨Int.toNat (a-t)-1,by omega⟩
 rw[hg]
 show (if t=a then _ else _)=_
 rw[if_neg (by omega)]
 have same:∀c' u,t<u->u<=a->lfF p a g c' u=lfP p a c' u:=fun c' u hu1 hu2=>Ar p a g c' u hu2 (by omega)
 unfold ee lf0
 rw[same _ _ (by omega) (by omega)]
 refine jV fun x hx b =>?_
 have hm:=eU hx
 unfold lfS
 by_cases q:x.arr<=a
 ·rw[if_pos q,if_pos q,same _ _ hm.2.2.1 q]
 ·rw[if_neg q,if_neg q]
theorem yH(p:Pl)(a n:Int)(l:List Leg)(x:Leg):ee p a n (l ++ [x])=lfS p a (ee p a n l) x:=by unfold ee;rw[List.foldl_append];rfl
theorem CL{p:Pl}{a n:Int}(hn:0<=n/\n<=1048576){l:List Leg}(hl:∀x∈l,x.arr<=a->0<=lfP p a x.to x.arr):0<=ee p a n l/\ee p a n l<=1048576:=by
 induction l generalizing n with
 |nil=>exact hn
 |cons x l ih =>
  refine ih (n:=lfS p a n x) ?_ fun y hy=>hl y (List.mem_cons_of_mem _ hy)
  unfold lfS
  by_cases q:x.arr<=a
  ·have:=hl x List.mem_cons_self q
   rw[if_pos q];omega
  ·rw[if_neg q];exact hn
theorem FY(p:Pl)(a:Int):∀(k:Nat) (c t:Int),t<=a->Int.toNat (a-t)=k->0<=lfP p a c t/\lfP p a c t<=1048576:=by
 intro k
 induction k using Nat.strongRecOn with
 |_ k ih =>
  intro c t h1 h2
  by_cases e:t=a
  ·subst e
   rw[je]
   by_cases q:c=p.to
   ·rw[if_pos q];omega
   ·rw[if_neg q];omega
  ·rw[lj (by omega)]
   refine CL ?_ fun x hx hy =>?_
   ·unfold lf0
    by_cases q:wtB p c t (t+1)=true
    ·rw[if_pos q];exact ih (Int.toNat (a-(t+1))) (by omega) c (t+1) (by omega) rfl
    ·rw[if_neg q];omega
   ·have hm:=eU hx
    exact (ih (Int.toNat (a-x.arr)) (by omega) x.to x.arr hy rfl).1
theorem As(p:Pl){a c t:Int}(h:t<=a):0<=lfP p a c t/\lfP p a c t<=1048576:=FY p a _ c t h rfl
abbrev jj3:List Value:=[nI 4000,nI 8000,nI 14000,nI 24000,nI 40000,nI 90000]
abbrev jj0(p:Pl):List Value:=[nI p.w,nI p.h,slQ 1 2 p.land.length,slQ 2 2 p.cts.length,slQ 3 2 p.chan.length,nI p.shp.cls,nI p.shp.pow,nI p.shp.dra,nI p.shp.ton,slQ 4 2 p.shp.th.length,slQ 5 2 p.shp.wa.length,slQ 6 2 p.shp.ic.length,nI p.shp.slow,nI p.shp.aw,nI p.shp.rdg,nI p.shp.prs,nI p.size,nI p.frm,nI p.to,nI (endP p),.map (some 8)]
abbrev jj5(p:Pl):Prop:=eR (.func (.func 112) #[] #[pt 9])/\wR (slQ 10 1 (tbP p).length)/\eR (nI (((tbP p).length:Nat):Int))/\True
abbrev jj9:Prop:=(True)/\(True)
abbrev jj8(p:Pl)(x1:Nat):Value:=.iface (((tbP p).getD x1 []).length+1) (.agg ⟨(((tbP p).getD x1 []).flatMap af)⟩)
def uE(p:Pl)(K:ab (sfP p)):Prop :=
 (((ac (.cells false 0 jj3))/\(ac (.cells true 0 (jj0 p)))/\(ac (.cells true 1 (p.land.flatMap af)))/\(ac (.cells false 0 (p.cts.flatMap chC)))/\(ac (.cells true 1 (p.chan.flatMap af)))/\(ac (.cells true 2 (p.shp.th.flatMap ptC)))/\(ac (.cells true 2 (p.shp.wa.flatMap ptC)))/\(ac (.cells true 2 (p.shp.ic.flatMap ptC)))/\(ac (.map (knE K.1)))/\True)/\(∀H':Heap,H'.length=10->(H'[0]?=some (.cells false 0 jj3:aa)/\H'[7]?=some (.cells true 0 (jj0 p):aa)/\H'[1]?=some (.cells true 1 (p.land.flatMap af):aa)/\H'[2]?=some (.cells false 0 (p.cts.flatMap chC):aa)/\H'[3]?=some (.cells true 1 (p.chan.flatMap af):aa)/\H'[4]?=some (.cells true 2 (p.shp.th.flatMap ptC):aa)/\H'[5]?=some (.cells true 2 (p.shp.wa.flatMap ptC):aa)/\H'[6]?=some (.cells true 2 (p.shp.ic.flatMap ptC):aa)/\H'[8]?=some (.map (knE K.1):aa)/\True)->ad prog 59 [pt 7] H' [8] (fun y H2 => ∃z:ab (sfP p),True/\y=slQ 10 1 (tbP p).length/\H2=((List.set H' 8 (.map (knE z.1):aa)) ++ [(.cells true 1 (List.map dV (tbP p)):aa)])))/\(∀r0:ab (sfP p),True->(lq (0<=List.length (tbP p)/\∀jz:Nat,jz<0->atB p jz=false) (true=true/\((nI 0:Value)=nI ((0:Nat):Int)/\jj5 p)/\(True)/\jj9) (∀x1:Nat,(x1<=List.length (tbP p)/\∀jz:Nat,jz<x1->atB p jz=false)->(fk (decide (((x1:Int):Int)<(((tbP p).length:Nat):Int))) ((ixq (x1:Int) (tbP p).length)/\(((List.map dV (tbP p))[(0+Int.toNat (x1:Int)*1)]?=some (jj8 p x1))/\((ixq p.to ((tbP p).getD x1 []).length)/\(((((tbP p).getD x1 []).flatMap af)[(Int.toNat p.to*1)]?=some (.bool (((tbP p).getD x1 []).getD p.to.toNat false)))/\(fk (((tbP p).getD x1 []).getD p.to.toNat false) (∃x:ab (sfP p),True/\(true=true/\wk (nI (x1:Int):Value) (rn (sg 9 []) 3 (nI (bp p):Value))/\((kbq 9 (.map (knE r0.1)) (.map (knE x.1)))/\True)/\(True))) (nw ((x1:Int)+1) (∃x1':Nat,(x1'<=List.length (tbP p)/\∀jz:Nat,jz<x1'->atB p jz=false)/\(List.length (tbP p)-x1')<(List.length (tbP p)-x1)/\true=true/\((nI ((x1:Int)+1):Value)=nI (x1':Int)/\jj5 p)/\(True)/\jj9))))))) (∃x:ab (sfP p),True/\(true=true/\wk (nI (-1):Value) (rn (sg 9 []) 3 (nI (bp p):Value))/\((kbq 9 (.map (knE r0.1)) (.map (knE x.1)))/\True)/\(True))))))))
abbrev jj2(p:Pl)(K:ab (sfP p)):=aG [.cells false 0 jj3,.cells true 1 (p.land.flatMap af),.cells false 0 (p.cts.flatMap chC),.cells true 1 (p.chan.flatMap af),.cells true 2 (p.shp.th.flatMap ptC),.cells true 2 (p.shp.wa.flatMap ptC),.cells true 2 (p.shp.ic.flatMap ptC),.cells true 0 (jj0 p),.map (knE K.1)]
theorem Cn(p:Pl)(K:ab (sfP p)):vF prog msk (dm 0) 100000 true 40 true 54 [pt 7] (jj2 p K) (some [8])
 (.go 2 (.cg [(0,.cells false 0 jj3),(7,.cells true 0 (jj0 p)),(1,.cells true 1 (p.land.flatMap af)),(2,.cells false 0 (p.cts.flatMap chC)),(3,.cells true 1 (p.chan.flatMap af)),(4,.cells true 2 (p.shp.th.flatMap ptC)),(5,.cells true 2 (p.shp.wa.flatMap ptC)),(6,.cells true 2 (p.shp.ic.flatMap ptC)),(8,.map (knE K.1))] [8] (ab (sfP p)) (fun r0=>True) (fun r0=>slQ 10 1 (tbP p).length) (fun r0=>[(8,.map (knE r0.1))]) (fun r0=>[.cells true 1 (List.map dV (tbP p))]) (fun r0 => .go 5 (.inv 3 (Nat) (0) [] [] (fun x1=>[(8,nI (x1:Int)),(1,.func (.func 112) #[] #[pt 9]),(0,slQ 10 1 (tbP p).length),(7,nI (((tbP p).length:Nat):Int))]) (fun x1=>[]) (fun x1=>[]) (fun x1=>[]) (fun x1=>(x1<=List.length (tbP p)/\∀jz:Nat,jz<x1->atB p jz=false)) (fun x1=>(List.length (tbP p)-x1)) (fun x1 => .go 0 (.fork (.go 4 (.need (.val (jj8 p x1) (.go 7 (.need (.val (.bool (((tbP p).getD x1 []).getD p.to.toNat false)) (.go 0 (.fork (.go 2 (.keep (.again []))) (.go 0 (.slot 18 (nI ((x1:Int)+1)) (.go 0 (.again [])))))))))))) (.go 1 (.keep (.again [])))))))))
 (cK (α:=ab (sfP p)) ((jj2 p K):HT).n 3 [8] (fun x=>True) (fun x=>nI (bp p)) (fun x=>[(8,true,.map (knE x.1))]) (fun x=>[]))=uE p K:=by kernel_rfl
def uD(sp:Value)(x1_ y:Int):Prop :=
 (fk ((x1_:Int) != x1_) (fk ((y:Int) != y) ((nI 0:Value)=sp) ((nI (-1):Value)=sp)) (fk ((y:Int) != y) ((nI 1:Value)=sp) (fk (decide ((x1_:Int)<y)) ((nI (-1):Value)=sp) (fk (decide ((y:Int)<x1_)) ((nI 1:Value)=sp) ((nI 0:Value)=sp)))))
theorem Cm(sp:Value)(x1_ y:Int):vF prog msk (dm 0) 100000 true 40 true 163 [nI x1_,nI y] ⟨1,.leaf⟩ (some [])
 (.go 17 (.fork (.go 0 (.fork (.auto) (.auto))) (.go 0 (.fork (.auto) (.go 2 (.fork (.auto) (.go 2 (.fork (.auto) (.auto)))))))))
 (fun v _ _=>v=sp)=uD sp x1_ y:=by kernel_rfl
def yb(sp:Value)(x2_ y1_:Leg):Prop :=
 (c0q 3 163 [nI x2_.to,nI y1_.to] (nI (gd x2_.to y1_.to)) (c0q 3 163 [nI x2_.dep,nI y1_.dep] (nI (gd x2_.dep y1_.dep)) (c0q 3 163 [nI x2_.arr,nI y1_.arr] (nI (gd x2_.arr y1_.arr)) (fk (((gd x2_.to y1_.to):Int) != 0) ((nI (gd x2_.to y1_.to):Value)=sp) (fk (((gd x2_.dep y1_.dep):Int) != 0) ((nI (gd x2_.dep y1_.dep):Value)=sp) (fk (((gd x2_.arr y1_.arr):Int) != 0) ((nI (gd x2_.arr y1_.arr):Value)=sp) ((nI 0:Value)=sp)))))))
theorem Er(sp:Value)(x2_ y1_:Leg):vF prog msk (dm 0) 100000 true 40 true 115 [.agg #[nI x2_.to,nI x2_.dep,nI x2_.spd,nI x2_.arr],.agg #[nI y1_.to,nI y1_.dep,nI y1_.spd,nI y1_.arr]] ⟨1,.leaf⟩ (some [])
 (.go 14 (.ans [] (nI (gd x2_.to y1_.to)) [] (.ans [] (nI (gd x2_.dep y1_.dep)) [] (.ans [] (nI (gd x2_.arr y1_.arr)) [] (.go 14 (.fork (.auto) (.go 9 (.fork (.auto) (.go 9 (.fork (.auto) (.auto)))))))))))
 (fun v _ _=>v=sp)=yb sp x2_ y1_:=by kernel_rfl
abbrev jj7(l:List Leg):Value:=.agg #[nI (l.getD 0 zL).to,nI (l.getD 0 zL).dep,nI (l.getD 0 zL).spd,nI (l.getD 0 zL).arr]
abbrev jj1(l:List Leg):Prop:=eR (.func (.func 115) #[] #[])/\eR (pt 2)/\eR (pt 3)/\wR (.slice (some ⟨1,4,some 2⟩) (l.length-1) (l.length-1))/\eR (nI (((l.length-1):Nat):Int))/\True
abbrev jj4(l:List Leg)(x0:Nat):=l.getD (1+x0) zL
abbrev jj6(l:List Leg)(x0':Nat):=rno (sg 4 []) 3 (.cells true 0 [nI (dM l x0').to,nI (dM l x0').dep,nI (dM l x0').spd,nI (dM l x0').arr]:aa)
def B8(sp:Value)(l:List Leg):Prop :=
 ((ixq 0 l.length)/\((cN 4 (l.flatMap lgC) 0=some (jj7 l))/\((((true=false∨4=0∨4=4)/\l.length<=l.length)/\(l.length<=l.length)/\((0:Int)<=1/\(1:Int)<=((l.length:Nat):Int)))/\(lq (0<=List.length l-1) (true=true/\((nI 0:Value)=nI ((0:Nat):Int)/\jj1 l)/\(wkO (.cells true 0 [nI (l.getD 0 zL).to,nI (l.getD 0 zL).dep,nI (l.getD 0 zL).spd,nI (l.getD 0 zL).arr]:aa) (rno (sg 4 []) 3 (.cells true 0 [nI (dM l 0).to,nI (dM l 0).dep,nI (dM l 0).spd,nI (dM l 0).arr]:aa))/\True)/\jj9) (∀x0:Nat,(x0<=List.length l-1)->(fk (decide (((x0:Int):Int)<(((l.length-1):Nat):Int))) ((ixq (x0:Int) (l.length-1))/\((cN 4 (l.flatMap lgC) (4+Int.toNat (x0:Int)*4)=some (.agg #[nI (jj4 l x0).to,nI (jj4 l x0).dep,nI (jj4 l x0).spd,nI (jj4 l x0).arr]))/\(c0q 5 115 [.agg #[nI (jj4 l x0).to,nI (jj4 l x0).dep,nI (jj4 l x0).spd,nI (jj4 l x0).arr],.agg #[nI (dM l x0).to,nI (dM l x0).dep,nI (dM l x0).spd,nI (dM l x0).arr]] (nI (kK (jj4 l x0) (dM l x0))) (fk (decide (((kK (jj4 l x0) (dM l x0)):Int)<0)) (nw ((x0:Int)+1) (∃x0':Nat,(x0'<=List.length l-1)/\(List.length l-1-x0')<(List.length l-1-x0)/\true=true/\((nI ((x0:Int)+1):Value)=nI (x0':Int)/\jj1 l)/\(wkO (.cells true 0 [nI (jj4 l x0).to,nI (jj4 l x0).dep,nI (jj4 l x0).spd,nI (jj4 l x0).arr]:aa) (jj6 l x0')/\True)/\jj9)) (nw ((x0:Int)+1) (∃x0':Nat,(x0'<=List.length l-1)/\(List.length l-1-x0')<(List.length l-1-x0)/\true=true/\((nI ((x0:Int)+1):Value)=nI (x0':Int)/\jj1 l)/\(wkO (.cells true 0 [nI (dM l x0).to,nI (dM l x0).dep,nI (dM l x0).spd,nI (dM l x0).arr]:aa) (jj6 l x0')/\True)/\jj9)))))) ((.agg #[nI (dM l x0).to,nI (dM l x0).dep,nI (dM l x0).spd,nI (dM l x0).arr]:Value)=sp)))))))
theorem G9(sp:Value)(l:List Leg):vF prog msk (dm 0) 100000 true 40 true 114 [slQ 1 2 l.length,.func (.func 115) #[] #[]] (aG [.cells false 0 jj3,.cells true 4 (l.flatMap lgC)]) (some [])
 (.go 1 (.need (.val (jj7 l) (.go 2 (.need (.go 1 (.inv 3 (Nat) (0) [] [3] (fun x0=>[(14,nI (x0:Int)),(1,.func (.func 115) #[] #[]),(4,pt 2),(5,pt 3),(12,.slice (some ⟨1,4,some 2⟩) (l.length-1) (l.length-1)),(13,nI (((l.length-1):Nat):Int))]) (fun x0=>[(3,false,.cells true 0 [nI (dM l x0).to,nI (dM l x0).dep,nI (dM l x0).spd,nI (dM l x0).arr])]) (fun x0=>[]) (fun x0=>[]) (fun x0=>(x0<=List.length l-1)) (fun x0=>(List.length l-1-x0)) (fun x0 => .go 0 (.fork (.need (.val (.agg #[nI (jj4 l x0).to,nI (jj4 l x0).dep,nI (jj4 l x0).spd,nI (jj4 l x0).arr]) (.go 4 (.ans [] (nI (kK (jj4 l x0) (dM l x0))) [] (.go 0 (.fork (.go 2 (.slot 24 (nI ((x0:Int)+1)) (.go 0 (.again [])))) (.go 0 (.slot 24 (nI ((x0:Int)+1)) (.go 0 (.again [])))))))))) (.auto))))))))))
 (fun v _ _=>v=sp)=B8 sp l:=by kernel_rfl
theorem yA(G:List (List Bool))(l:List Leg):(bU G l).length=G.length:=by
 unfold bU
 induction l generalizing G with
 |nil=>rfl
 |cons x l ih=>exact (ih _).trans List.length_set
theorem sM{G:List (List Bool)}{n:Nat}{a c:Int}(h:∀t,t<G.length->(G.getD t []).length=n):∀t,t<G.length->((dc G a c).getD t []).length=n:=by
 intro t ht
 unfold dc
 by_cases hb:Int.toNat a<G.length
 ·rw[c7 hb]
  by_cases e:t=Int.toNat a
  ·rw[if_pos e,List.length_set];exact h _ hb
  ·rw[if_neg e];exact h t ht
 ·rw[List.set_eq_of_length_le (by omega)];exact h t ht
theorem yy{G:List (List Bool)}{n:Nat}{l:List Leg}(h:∀t,t<G.length->(G.getD t []).length=n):∀t,t<G.length->((bU G l).getD t []).length=n:=by
 unfold bU
 induction l generalizing G with
 |nil=>exact h
 |cons x l ih =>
  intro t ht
  have hl:(dc G x.arr x.to).length=G.length:=List.length_set
  exact ih (G:=dc G x.arr x.to) (fun u hu=>sM h u (by rw[<- hl];exact hu)) t (by rw[hl];exact ht)
structure GOk(N n:Nat)(G:List (List Bool)):Prop where
 gl:G.length=N
 rl:∀t,t<N->(G.getD t []).length=n
theorem GOk.dc{N n:Nat}{G:List (List Bool)}(g:GOk N n G)(a c:Int):GOk N n (dc G a c):=⟨List.length_set.trans g.gl,fun t ht=>sM (fun u hu=>g.rl u (by rw[<- g.gl];exact hu)) t (by rw[g.gl];exact ht)⟩
theorem GOk.bU{N n:Nat}{G:List (List Bool)}(g:GOk N n G)(l:List Leg):GOk N n (bU G l):=⟨(yA _ _).trans g.gl,fun t ht=>yy (fun u hu=>g.rl u (by rw[<- g.gl];exact hu)) t (by rw[g.gl];exact ht)⟩
theorem GOk.cSt{p:Pl}{N n:Nat}{G:List (List Bool)}(g:GOk N n G)(t j:Nat):GOk N n (cSt p t j G):=by
 unfold YtmecpfikljhjaaaGreatDoor.cSt
 by_cases h:wtB p (j:Int) (t:Int) ((t:Int)+1)=true
 ·rw[if_pos h];exact (g.dc _ _).bU _
 ·rw[if_neg h];exact g.bU _
theorem GOk.cTo{p:Pl}{N n:Nat}{G:List (List Bool)}(g:GOk N n G)(t:Nat):∀j,GOk N n (cTo p t G j)
 |0=>g
 |j+1=>by
  show GOk N n (if _ then _ else _)
  by_cases h:(G.getD t []).getD j false=true
  ·rw[if_pos h];exact (GOk.cTo g t j).cSt t j
  ·rw[if_neg h];exact GOk.cTo g t j
theorem GOk.gTo(p:Pl):∀k,GOk (NT p) p.chan.length (gTo p k)
 |0=>by
  refine GOk.dc ⟨List.length_replicate,fun t ht =>?_⟩ _ _
  rw[List.getD_eq_getElem?_getD,List.getElem?_replicate,if_pos ht];exact List.length_replicate
 |k+1=>(GOk.gTo p k).cTo k _
theorem Cv(p:Pl):GOk (NT p) p.chan.length (tbP p):=GOk.gTo p _
theorem EK{l:List (List Bool)}{k off:Nat}(h:k<l.length)(ho:off=k):(l.map dV)[off]?=some (dV (l.getD k [])):=by
 subst ho
 rw[List.getElem?_map,List.getD_eq_getElem?_getD,List.getElem?_eq_getElem h];rfl
theorem tg{p:Pl}(o:bG p){K:ab (sfP p)}{H:Heap}{l c' n t' w i W m:Nat}(a:i7 H p K l c' n t' w i W m) :
  ad prog 54 [pt W] H [m] (fun y H2 => ∃z:ab (sfP p),True/\y=nI (bp p)/\H2=H.set m (.map (knE z.1))):=by
 refine zC (Eq.mpr (Cn p K) ?_) rfl (fun _=>rfl) a rfl
 have he:=dG o
 have hct:=o.cts
 have he0:0<=endP p:=by unfold endP;omega
 have hch:=o.chan
 have hto:=gV o.to
 have hT:=Cv p
 have hl:=hT.gl
 have hN:NT p=Int.toNat (endP p+1):=rfl
 delta uE jj3 jj0 jj5 jj9 jj8 nI slQ pt ac fk nw eR wR kbq ixq lq
 refine ⟨?_,fun H' hn h=>hn ▸ AM o (eG h),fun r0 _=>⟨rfl,⟨Nat.zero_le _,fun j hj=>absurd hj (Nat.not_lt_zero j)⟩,⟨rfl,?_⟩,fun _=>rfl,fun x1 hx1=>⟨fun q1 =>?_,fun q1 =>?_⟩⟩⟩
 ·repeat' first|exact trivial|refine ⟨rfl,?_⟩
 ·repeat' first|exact trivial|exact ae _|refine ⟨rfl,?_⟩|refine ⟨trivial,?_⟩|apply And.intro
 ·have hx:=of_decide_eq_true q1
  have hx':x1<(tbP p).length:=by omega
  have hr:=hT.rl x1 (by omega)
  refine ⟨by omega,EK hx' (by omega),by omega,eQ (by omega) (by omega),fun q2 =>?_,fun q2 =>?_⟩
  ·refine ⟨r0,trivial,rfl,?_,⟨⟨rfl,knB _ _⟩,trivial⟩,trivial⟩
   rw[show bp p=(x1:Int) from kF q2 hx1.2 hx'];exact ae _
  ·refine ⟨ak (by omega),x1+1,⟨by omega,fun j hj =>?_⟩,by omega,rfl,?_⟩
   ·by_cases e:j=x1
    ·rw[e];exact q2
    ·exact hx1.2 j (by omega)
   ·repeat' first|exact trivial|exact ae _|refine ⟨rfl,?_⟩|refine ⟨trivial,?_⟩|apply And.intro
 ·have hx:=of_decide_eq_false q1
  refine ⟨r0,trivial,rfl,?_,⟨⟨rfl,knB _ _⟩,trivial⟩,trivial⟩
  rw[show bp p = -1 from mp fun k hk=>hx1.2 k (by omega)];exact ae _
theorem nF(x y:Int){H:Heap}(hH:1<=H.length):ad prog 163 [nI x,nI y] H [] (Is (nI (gd x y)) H):=by
 refine l9 40 (fun _=>rfl) rfl (Eq.mpr (Cm _ x y) ?_) hH
 delta uD nI fk
 have hx:(x != x)=false:=by simp
 have hy:(y != y)=false:=by simp
 refine ⟨fun q=>absurd q (by rw[hx];decide),fun _=>⟨fun q=>absurd q (by rw[hy];decide),fun _=>⟨fun q =>?_,fun q=>⟨fun r =>?_,fun r =>?_⟩⟩⟩⟩
 ·have h:=of_decide_eq_true q
  rw[show gd x y = -1 from if_pos h]
 ·have h:=of_decide_eq_false q
  rw[show gd x y=1 from (if_neg h).trans (if_pos (of_decide_eq_true r))]
 ·have h:=of_decide_eq_false q
  rw[show gd x y=0 from (if_neg h).trans (if_neg (of_decide_eq_false r))]
theorem C0(x y:Leg){H:Heap}(hH:1<=H.length):ad prog 115 [.agg ⟨lgC x⟩,.agg ⟨lgC y⟩] H [] (Is (nI (kK x y)) H):=by
 refine l9 40 (fun _=>rfl) rfl (Eq.mpr (Er _ x y) ?_) hH
 delta yb nI fk c0q
 have e:∀{a:Int},(a != 0)=true->a≠0:=fun h=>by simpa using h
 have f:∀{a:Int},(a != 0)=false->¬ a≠0:=fun h=>by simpa using h
 refine ⟨trivial,fun H' hl _=>nF _ _ (by omega),trivial,fun H' hl _=>nF _ _ (by omega),trivial,fun H' hl _=>nF _ _ (by omega),fun q =>?_,fun q=>⟨fun r =>?_,fun r=>⟨fun u =>?_,fun u =>?_⟩⟩⟩
 ·unfold kK;rw[if_pos (e q)]
 ·unfold kK;rw[if_neg (f q),if_pos (e r)]
 ·unfold kK;rw[if_neg (f q),if_neg (f r)]
 ·unfold kK;rw[if_neg (f q),if_neg (f r),Classical.not_not.1 (f u)]
theorem qA{l:List Leg}{k off:Nat}(h:k<l.length)(ho:off=k*4):cN 4 (l.flatMap lgC) off=some (.agg ⟨lgC (l.getD k zL)⟩):=jc (n:=4) (d:=zL) (c:=0) (m:=4) jd h (by omega) (by omega)
theorem yY{l:List Leg}{n:Nat}(h:1+n<l.length):dM l (n+1)=if kK (l.getD (1+n) zL) (dM l n)<0 then l.getD (1+n) zL else dM l n:=by
 unfold dM
 have e:(l.drop 1).take (n+1)=(l.drop 1).take n ++ [l.getD (1+n) zL]:=by
  rw[List.take_add_one,List.getElem?_drop,List.getD_eq_getElem?_getD,List.getElem?_eq_getElem h];rfl
 rw[e]
 unfold oS
 rw[List.foldl_append];rfl
theorem Dw{l:List Leg}(h:0<l.length):dM l (l.length-1)=iR l:=by
 cases l with
 |nil=>cases h
 |cons b l =>
  show oS b (l.take _)=oS b l
  rw[List.take_of_length_le (by simp)]
theorem F7{l:List Leg}(hl0:0<l.length)(hl1:l.length<=1000000){H:Heap}{L:Nat}(h0:H[0]?=some bC)(hL:H[L]?=some (.cells true 4 (l.flatMap lgC)))(hne:L≠0) :
  ad prog 114 [slQ L 2 l.length,.func (.func 115) #[] #[]] H [] (Is (.agg ⟨lgC (iR l)⟩) H):=by
 have hok:am 3 (.cells true 4 (l.flatMap lgC))=true:=(ed (σ:=fun _=>none) (d:=0) (bu 0 l)).2
 have hrn:∀σ,rno σ 3 (.cells true 4 (l.flatMap lgC)) = .cells true 4 (l.flatMap lgC):=fun σ=>congrArg (aa.cells true 4) (ed (d:=0) (bu 0 l)).1
 refine gi (os:=[bC,.cells true 4 (l.flatMap lgC)]) (ids:=[0,L]) (Eq.mpr (G9 _ l) ?_) (by show (am 3 bC&&(am 3 (.cells true 4 (l.flatMap lgC))&&true))=true;rw[hok];rfl) rfl rfl (fun _=>rfl) (by simp[Ne.symm hne]) ⟨h0,by rw[hrn];exact hL,trivial⟩ rfl rfl
 delta B8 jj7 jj1 jj9 jj4 jj6 nI pt fk nw eR wR ixq lq c0q
 have fl:=aP (f:=lgC) jd l
 refine ⟨by omega,qA (by omega) rfl,⟨⟨.inr (.inr rfl),Nat.le_refl _⟩,Nat.le_refl _,by omega⟩,rfl,Nat.zero_le _,⟨rfl,?_⟩,fun _=>rfl,fun x0 hx0=>⟨fun q =>?_,fun q =>?_⟩⟩
 ·repeat' first|exact trivial|exact ae _|refine aN ?_|refine aS ?_ ?_|refine ⟨rfl,?_⟩|refine ⟨trivial,?_⟩|apply And.intro
 ·have hx:=of_decide_eq_true q
  have hs:=yY (l:=l) (n:=x0) (by omega)
  refine ⟨by omega,qA (by omega) (by omega),trivial,fun H' hn _=>C0 _ _ (by omega),fun r =>?_,fun r =>?_⟩
  ·have hr:=of_decide_eq_true r
   rw[if_pos hr]at hs
   refine ⟨ak (by omega),x0+1,by omega,by omega,rfl,?_⟩
   rw[hs]
   repeat' first|exact bh rfl|exact trivial|exact ae _|refine ⟨rfl,?_⟩|refine ⟨trivial,?_⟩|apply And.intro
  ·have hr:=of_decide_eq_false r
   rw[if_neg hr]at hs
   refine ⟨ak (by omega),x0+1,by omega,by omega,rfl,?_⟩
   rw[hs]
   repeat' first|exact bh rfl|exact trivial|exact ae _|refine ⟨rfl,?_⟩|refine ⟨trivial,?_⟩|apply And.intro
 ·have hx:=of_decide_eq_false q
  rw[show x0=l.length-1 by omega,Dw hl0]
end
end Go.Proofs.YtmecpfikljhjaaaGreatDoor
