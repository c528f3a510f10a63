/- What is to be shown of functions. Printed by a program. No condition. -/
import Derived.Test.YtmecpfikljhjaaaDoorGI2gxI3
import Derived.Test.YtmecpfikljhjaaaDoorGK27xA0
open Go Go.K
set_option maxRecDepth 1000000
set_option maxHeartbeats 4000000
set_option linter.unusedVariables false
set_option linter.unusedSimpArgs false
namespace Go.Proofs.YtmecpfikljhjaaaDoor
noncomputable section
attribute [local irreducible] vF
abbrev jkh(p:Pl)(c:Int):Prop:=eR (pt 18)/\eR (pt 16)/\eR (.func (.yield 19) #[] #[])/\wR (slQ 20 1 (bsP p c).length)/\eR (nI (((bsP p c).length:Nat):Int))/\True
abbrev jk1(c t:Int):Prop:=(True)/\((lrecOk prog 70 0/\eR (pt 15)/\eR (pt 14)/\eR (nI c)/\eR (nI t)/\eR (pt 9)/\eR (pt 10)/\eR (pt 11)/\eR (pt 12)/\True)/\True)
abbrev jk4(p:Pl)(a:Int)(x51:Nat×Memo (sfP p)×Memo (lfP p a))(c:Int)(r53:Memo (sfP p))(x52:Nat×Memo (sfP p)×Memo (lfP p a))(t:Int):=nw (((x51.1:Nat):Int)+1) (∃x51':Nat×Memo (sfP p)×Memo (lfP p a),(x51'.1<=List.length (bsP p c))/\(List.length (bsP p c)-x51'.1)<(List.length (bsP p c)-x51.1)/\true=true/\((nI (((x51.1:Nat):Int)+1):Value)=nI ((x51'.1:Nat):Int)/\jkh p c)/\((kbq 21 (.map (knE r53.1)) (.map (knE x51'.2.1.1)))/\(kbq 21 (.map (knE x52.2.2.1)) (.map (knE x51'.2.2.1)))/\wkO (.cells true 0 [nI (lfTo p a (lf0 p a c t) (preL p c t x51.1++lgTo p ((bsP p c).getD x51.1 0) t x52.1))]:KObj) (rno (sg 21 []) 3 (.cells true 0 [nI (lfTo p a (lf0 p a c t) (preL p c t x51'.1))]:KObj))/\True)/\jk1 c t)
abbrev jk2:List Value:=[nI 4000,nI 8000,nI 14000,nI 24000,nI 40000,nI 90000]
abbrev jkg:=someR (.cells false 0 jk2)
abbrev jk0(p:Pl):List Value:=[nI p.w,nI p.h,slQ 1 2 p.land.length,slQ 2 2 p.cts.length,slQ 3 2 p.chan.length,nI p.shp.cls,nI p.shp.pow,nI p.shp.dra,nI p.shp.ton,slQ 4 2 p.shp.th.length,slQ 5 2 p.shp.wa.length,slQ 6 2 p.shp.ic.length,nI p.shp.slow,nI p.shp.brash,nI p.shp.rdg,nI p.shp.prs,nI p.size,nI p.frm,nI p.to,nI (endP p),.map (some 8)]
abbrev jkk(p:Pl):=someR (.cells true 0 (jk0 p))
abbrev jk9(p:Pl):=p.land.flatMap boolC
abbrev jk12(p:Pl):=someR (.cells true 1 (jk9 p))
abbrev jkm(p:Pl):=someR (.cells false 0 (p.cts.flatMap chC))
abbrev jka(p:Pl):=p.chan.flatMap boolC
abbrev jk13(p:Pl):=someR (.cells true 1 (jka p))
abbrev jkb(p:Pl):=p.shp.th.flatMap ptC
abbrev jk14(p:Pl):=someR (.cells true 2 (jkb p))
abbrev jkc(p:Pl):=p.shp.wa.flatMap ptC
abbrev jk15(p:Pl):=someR (.cells true 2 (jkc p))
abbrev jkd(p:Pl):=p.shp.ic.flatMap ptC
abbrev jk16(p:Pl):=someR (.cells true 2 (jkd p))
abbrev jk7(p:Pl)(r53:Memo (sfP p)):Prop:=(jk12 p)/\(jkm p)/\(jk13 p)/\(jk14 p)/\(jk15 p)/\(jk16 p)/\(someR (.map (knE r53.1)))/\True
abbrev jki:KObj:=.cells false 0 jk2
abbrev jkl(p:Pl):KObj:=.cells true 0 (jk0 p)
abbrev jk17(p:Pl):KObj:=.cells true 1 (jk9 p)
abbrev jkp(p:Pl):KObj:=.cells false 0 (p.cts.flatMap chC)
abbrev jk18(p:Pl):KObj:=.cells true 1 (jka p)
abbrev jk19(p:Pl):KObj:=.cells true 2 (jkb p)
abbrev jk1a(p:Pl):KObj:=.cells true 2 (jkc p)
abbrev jk1b(p:Pl):KObj:=.cells true 2 (jkd p)
abbrev jk5(H':Heap)(p:Pl)(r53:Memo (sfP p)):Prop:=H'[1]?=some (jk17 p)/\H'[2]?=some (jkp p)/\H'[3]?=some (jk18 p)/\H'[4]?=some (jk19 p)/\H'[5]?=some (jk1a p)/\H'[6]?=some (jk1b p)/\H'[8]?=some (.map (knE r53.1):KObj)/\True
abbrev jko(p:Pl)(a:Int)(x52:Nat×Memo (sfP p)×Memo (lfP p a)):Int:=(x52.1:Nat)
abbrev jkz:=someR (.cells true 0 [.func (.func 70) #[] #[pt 9,pt 10,pt 11,pt 12]])
abbrev jk10:KObj:=.cells true 0 [.func (.func 70) #[] #[pt 9,pt 10,pt 11,pt 12]]
abbrev jkf(p:Pl)(c a:Int)(x51:Nat×Memo (sfP p)×Memo (lfP p a)):Prop:=eR (nI (((bsP p c).length:Nat):Int))/\wR (slQ 20 1 (bsP p c).length)/\eR (.func (.yield 19) #[] #[])/\eR (pt 16)/\eR (pt 18)/\eR (nI ((x51.1:Nat):Int))/\eR (nI ((bsP p c).getD x51.1 0))/\True
abbrev jk3(t:Int)(p:Pl)(a:Int)(x52:Nat×Memo (sfP p)×Memo (lfP p a))(c:Int)(x51:Nat×Memo (sfP p)×Memo (lfP p a))(r53:Memo (sfP p)):=nw ((t+1+(jko p a x52))+1) (∃x52':Nat×Memo (sfP p)×Memo (lfP p a),((x52'.1<=Int.toNat (endP p-t)/\okL p ((bsP p c).getD x51.1 0) t x52'.1=true))/\(Int.toNat (endP p-t)-x52'.1)<(Int.toNat (endP p-t)-x52.1)/\true=true/\((nI ((t+1+(jko p a x52))+1):Value)=nI (t+1+((x52'.1:Nat):Int))/\(nI (lowP p ((bsP p c).getD x51.1 0) t (x52.1+1)):Value)=nI (lowP p ((bsP p c).getD x51.1 0) t x52'.1)/\jkf p c a x51)/\((kbq 21 (.map (knE r53.1)) (.map (knE x52'.2.1.1)))/\(kbq 21 (.map (knE x52.2.2.1)) (.map (knE x52'.2.2.1)))/\wkO (.cells true 0 [nI (lfTo p a (lf0 p a c t) (preL p c t x51.1++lgTo p ((bsP p c).getD x51.1 0) t x52.1))]:KObj) (rno (sg 21 []) 3 (.cells true 0 [nI (lfTo p a (lf0 p a c t) (preL p c t x51.1++lgTo p ((bsP p c).getD x51.1 0) t x52'.1))]:KObj))/\True)/\jk1 c t)
def RleftU(p:Pl)(a c t:Int)(x51 x52:Nat×Memo (sfP p)×Memo (lfP p a))(r53:Memo (sfP p)):Prop :=
 (fk (decide (((spL p ((bsP p c).getD x51.1 0) t (x52.1+1)):Int)<10)) (jk4 p a x51 c r53 x52 t) ((jkg/\(jkk p)/\jk7 p r53)/\(∀H':Heap,H'.length=21->(H'[0]?=some jki/\H'[7]?=some (jkl p)/\jk5 H' p r53)->KCall prog 86 [pt 7,nI (spL p ((bsP p c).getD x51.1 0) t (x52.1+1))] H' [] (Is (nI (tkP p (spL p ((bsP p c).getD x51.1 0) t (x52.1+1)))) H'))/\(fk (((tkP p (spL p ((bsP p c).getD x51.1 0) t (x52.1+1))):Int) == (((x52.1+1):Nat):Int)) (fk (decide (((t+1+(jko p a x52)):Int)<=a)) ((jkg/\(someR (.cells true 0 [nI a]))/\(someR (.cells true 0 [pt 7]))/\(someR (.cells true 0 [.map (some 13)]))/\jkz/\(jkk p)/\(someR (.map (knE x52.2.2.1)))/\jk7 p r53)/\(∀H':Heap,H'.length=22->(H'[0]?=some jki/\H'[9]?=some (.cells true 0 [nI a]:KObj)/\H'[10]?=some (.cells true 0 [pt 7]:KObj)/\H'[11]?=some (.cells true 0 [.map (some 13)]:KObj)/\H'[12]?=some jk10/\H'[7]?=some (jkl p)/\H'[13]?=some (.map (knE x52.2.2.1):KObj)/\jk5 H' p r53)->KCall prog 70 [nI ((bsP p c).getD x51.1 0),nI (t+1+(jko p a x52)),pt 9,pt 10,pt 11,pt 12] H' [8,13] (fun y H2 => ∃z:Memo (sfP p)×Memo (lfP p a),True/\y=nI (lfP p a ((bsP p c).getD x51.1 0) (t+1+(jko p a x52)))/\H2=(List.set (List.set H' 8 (.map (knE z.1.1):KObj)) 13 (.map (knE z.2.1):KObj))))/\(∀r51:Memo (sfP p)×Memo (lfP p a),True->(nw (1+(lfP p a ((bsP p c).getD x51.1 0) (t+1+(jko p a x52)))) (nw ((t+1+(jko p a x52))+1) (∃x52':Nat×Memo (sfP p)×Memo (lfP p a),((x52'.1<=Int.toNat (endP p-t)/\okL p ((bsP p c).getD x51.1 0) t x52'.1=true))/\(Int.toNat (endP p-t)-x52'.1)<(Int.toNat (endP p-t)-x52.1)/\true=true/\((nI ((t+1+(jko p a x52))+1):Value)=nI (t+1+((x52'.1:Nat):Int))/\(nI (lowP p ((bsP p c).getD x51.1 0) t (x52.1+1)):Value)=nI (lowP p ((bsP p c).getD x51.1 0) t x52'.1)/\jkf p c a x51)/\((kbq 21 (.map (knE r51.1.1)) (.map (knE x52'.2.1.1)))/\(kbq 21 (.map (knE r51.2.1)) (.map (knE x52'.2.2.1)))/\wkO (.cells true 0 [nI (if ((1+(lfP p a ((bsP p c).getD x51.1 0) (t+1+(jko p a x52)))):Int)<(lfTo p a (lf0 p a c t) (preL p c t x51.1++lgTo p ((bsP p c).getD x51.1 0) t x52.1)) then ((1+(lfP p a ((bsP p c).getD x51.1 0) (t+1+(jko p a x52)))):Int) else (lfTo p a (lf0 p a c t) (preL p c t x51.1++lgTo p ((bsP p c).getD x51.1 0) t x52.1)))]:KObj) (rno (sg 21 []) 3 (.cells true 0 [nI (lfTo p a (lf0 p a c t) (preL p c t x51.1++lgTo p ((bsP p c).getD x51.1 0) t x52'.1))]:KObj))/\True)/\jk1 c t))))) (jk3 t p a x52 c x51 r53)) (jk3 t p a x52 c x51 r53))))
abbrev jkj(p:Pl)(Kx:Memo (sfP p))(a:Int)(Lx:Memo (lfP p a)):Nat×Memo (sfP p)×Memo (lfP p a):=(0,Kx,Lx)
abbrev jk8(p:Pl)(a:Int)(x51:Nat×Memo (sfP p)×Memo (lfP p a)):Nat×Memo (sfP p)×Memo (lfP p a):=(0,x51.2.1,x51.2.2)
abbrev jk1c(p:Pl)(a c t:Int)(x51:Nat×Memo (sfP p)×Memo (lfP p a)):=lfTo p a (lf0 p a c t) (preL p c t x51.1)
abbrev jky(p:Pl)(a:Int)(x52:Nat×Memo (sfP p)×Memo (lfP p a)):=Int.tdiv ((6*p.size)-1) ((((x52.1+1):Nat):Int)-1)
def RleftT(p:Pl)(a c t:Int)(Kx:Memo (sfP p))(Lx:Memo (lfP p a)):Prop :=
 ((jkg/\(jkk p)/\(jk12 p)/\(jkm p)/\(jk13 p)/\(jk14 p)/\(jk15 p)/\(jk16 p)/\(someR (.map (knE Kx.1)))/\True)/\(∀H':Heap,H'.length=20->(H'[0]?=some jki/\H'[7]?=some (jkl p)/\H'[1]?=some (jk17 p)/\H'[2]?=some (jkp p)/\H'[3]?=some (jk18 p)/\H'[4]?=some (jk19 p)/\H'[5]?=some (jk1a p)/\H'[6]?=some (jk1b p)/\H'[8]?=some (.map (knE Kx.1):KObj)/\True)->KCall prog 53 [pt 7,nI c] H' [] (Is (slQ 20 1 (bsP p c).length) (H' ++ [(.cells true 1 ((bsP p c).flatMap intC):KObj)])))/\(true=true/\((jkj p Kx a Lx).1<=List.length (bsP p c))/\(true=true/\((nI 0:Value)=nI (((jkj p Kx a Lx).1:Nat):Int)/\jkh p c)/\((kbq 21 (.map (knE Kx.1)) (.map (knE (jkj p Kx a Lx).2.1.1)))/\(kbq 21 (.map (knE Lx.1)) (.map (knE (jkj p Kx a Lx).2.2.1)))/\wkO (.cells true 0 [nI (lf0 p a c t)]:KObj) (rno (sg 21 []) 3 (.cells true 0 [nI (lfTo p a (lf0 p a c t) (preL p c t (jkj p Kx a Lx).1))]:KObj))/\True)/\jk1 c t)/\(∀x51:Nat×Memo (sfP p)×Memo (lfP p a),true=true)/\∀x51:Nat×Memo (sfP p)×Memo (lfP p a),(x51.1<=List.length (bsP p c))->(fk (decide ((((x51.1:Nat):Int):Int)<(((bsP p c).length:Nat):Int))) ((ixq ((x51.1:Nat):Int) (bsP p c).length)/\((((bsP p c).flatMap intC)[(0+Int.toNat ((x51.1:Nat):Int)*1)]?=some (nI ((bsP p c).getD x51.1 0)))/\(nw (t+1) (true=true/\(((jk8 p a x51).1<=Int.toNat (endP p-t)/\okL p ((bsP p c).getD x51.1 0) t (jk8 p a x51).1=true))/\(true=true/\((nI (t+1):Value)=nI (t+1+(((jk8 p a x51).1:Nat):Int))/\(nI 250:Value)=nI (lowP p ((bsP p c).getD x51.1 0) t (jk8 p a x51).1)/\jkf p c a x51)/\((kbq 21 (.map (knE x51.2.1.1)) (.map (knE (jk8 p a x51).2.1.1)))/\(kbq 21 (.map (knE x51.2.2.1)) (.map (knE (jk8 p a x51).2.2.1)))/\wkO (.cells true 0 [nI (jk1c p a c t x51)]:KObj) (rno (sg 21 []) 3 (.cells true 0 [nI (lfTo p a (lf0 p a c t) (preL p c t x51.1++lgTo p ((bsP p c).getD x51.1 0) t (jk8 p a x51).1))]:KObj))/\True)/\jk1 c t)/\(∀x52:Nat×Memo (sfP p)×Memo (lfP p a),true=true)/\∀x52:Nat×Memo (sfP p)×Memo (lfP p a),((x52.1<=Int.toNat (endP p-t)/\okL p ((bsP p c).getD x51.1 0) t x52.1=true))->(fk (decide (((t+1+(jko p a x52)):Int)<=(endP p))) (nw ((t+1+(jko p a x52))-1) ((jkg/\(jkk p)/\(jk12 p)/\(jkm p)/\(jk13 p)/\(jk14 p)/\(jk15 p)/\(jk16 p)/\(someR (.map (knE x52.2.1.1)))/\True)/\(∀H':Heap,H'.length=21->(H'[0]?=some jki/\H'[7]?=some (jkl p)/\H'[1]?=some (jk17 p)/\H'[2]?=some (jkp p)/\H'[3]?=some (jk18 p)/\H'[4]?=some (jk19 p)/\H'[5]?=some (jk1a p)/\H'[6]?=some (jk1b p)/\H'[8]?=some (.map (knE x52.2.1.1):KObj)/\True)->KCall prog 85 [pt 7,nI ((bsP p c).getD x51.1 0),nI ((t+1+(jko p a x52))-1)] H' [8] (fun y H2 => ∃z1_:Memo (sfP p),True/\y=nI (sfP p ((bsP p c).getD x51.1 0) (Int.tdiv ((t+1+(jko p a x52))-1) 6))/\H2=(List.set H' 8 (.map (knE z1_.1):KObj))))/\(∀r53:Memo (sfP p),True->(((nI (if ((sfP p ((bsP p c).getD x51.1 0) (Int.tdiv ((t+1+(jko p a x52))-1) 6)):Int)<(lowP p ((bsP p c).getD x51.1 0) t x52.1) then ((sfP p ((bsP p c).getD x51.1 0) (Int.tdiv ((t+1+(jko p a x52))-1) 6)):Int) else (lowP p ((bsP p c).getD x51.1 0) t x52.1)):Value)=nI (lowP p ((bsP p c).getD x51.1 0) t (x52.1+1)))/\(fk (decide (((lowP p ((bsP p c).getD x51.1 0) t (x52.1+1)):Int)<10)) (jk4 p a x51 c r53 x52 t) (nw ((t+1+(jko p a x52))-t) (((nI ((t+1+(jko p a x52))-t):Value)=nI (((x52.1+1):Nat):Int))/\(fk (decide ((1:Int)<(((x52.1+1):Nat):Int))) (nw (6*p.size) (nw ((6*p.size)-1) (nw ((((x52.1+1):Nat):Int)-1) (((((((x52.1+1):Nat):Int)-1):Int)≠0)/\(nw (jky p a x52) (((nI (if ((jky p a x52):Int)<(lowP p ((bsP p c).getD x51.1 0) t (x52.1+1)) then ((jky p a x52):Int) else (lowP p ((bsP p c).getD x51.1 0) t (x52.1+1))):Value)=nI (spL p ((bsP p c).getD x51.1 0) t (x52.1+1)))/\(RleftU p a c t x51 x52 r53))))))) (((nI (lowP p ((bsP p c).getD x51.1 0) t (x52.1+1)):Value)=nI (spL p ((bsP p c).getD x51.1 0) t (x52.1+1)))/\(RleftU p a c t x51 x52 r53)))))))))) (nw (((x51.1:Nat):Int)+1) (∃x51':Nat×Memo (sfP p)×Memo (lfP p a),(x51'.1<=List.length (bsP p c))/\(List.length (bsP p c)-x51'.1)<(List.length (bsP p c)-x51.1)/\true=true/\((nI (((x51.1:Nat):Int)+1):Value)=nI ((x51'.1:Nat):Int)/\jkh p c)/\((kbq 21 (.map (knE x52.2.1.1)) (.map (knE x51'.2.1.1)))/\(kbq 21 (.map (knE x52.2.2.1)) (.map (knE x51'.2.2.1)))/\wkO (.cells true 0 [nI (lfTo p a (lf0 p a c t) (preL p c t x51.1++lgTo p ((bsP p c).getD x51.1 0) t x52.1))]:KObj) (rno (sg 21 []) 3 (.cells true 0 [nI (lfTo p a (lf0 p a c t) (preL p c t x51'.1))]:KObj))/\True)/\jk1 c t))))))) ((ksetE prog 137 (.agg #[nI c,nI t]) (nI (jk1c p a c t x51)) (knE x51.2.2.1)=some (knE (putA (c,t) (jk1c p a c t x51) x51.2.2.1)))/\(∃x:Memo (sfP p)×Memo (lfP p a),True/\(true=true/\wk (nI (jk1c p a c t x51):Value) (rn (sg 14 []) 3 (nI (lfP p a c t):Value))/\((kbq 14 (.map (knE x51.2.1.1)) (.map (knE x.1.1)))/\(kbq 14 (.map (knE (putA (c,t) (jk1c p a c t x51) x51.2.2.1))) (.map (knE x.2.1)))/\True)/\(True)))))))
abbrev jkq(p:Pl)(K0:Memo (sfP p))(a:Int)(x:Memo (sfP p)×Memo (lfP p a))(L0:Memo (lfP p a)):Prop:=((kbq 14 (.map (knE K0.1)) (.map (knE x.1.1)))/\(kbq 14 (.map (knE L0.1)) (.map (knE x.2.1)))/\True)/\(True)
abbrev jkx:Hint:=.go 0 (.again [])
abbrev jkn:Nat×KObj:=(0,.cells false 0 jk2)
abbrev jkr(p:Pl):Nat×KObj:=(7,.cells true 0 (jk0 p))
abbrev jks(p:Pl):Nat×KObj:=(1,.cells true 1 (jk9 p))
abbrev jke(p:Pl):Nat×KObj:=(2,.cells false 0 (p.cts.flatMap chC))
abbrev jkt(p:Pl):Nat×KObj:=(3,.cells true 1 (jka p))
abbrev jku(p:Pl):Nat×KObj:=(4,.cells true 2 (jkb p))
abbrev jkv(p:Pl):Nat×KObj:=(5,.cells true 2 (jkc p))
abbrev jkw(p:Pl):Nat×KObj:=(6,.cells true 2 (jkd p))
abbrev jk11:Nat×KObj:=(12,.cells true 0 [.func (.func 70) #[] #[pt 9,pt 10,pt 11,pt 12]])
def Rleft(p:Pl)(a c t:Int)(K0:Memo (sfP p))(L0:Memo (lfP p a)):Prop :=
 (fk ((t:Int) == a) (fk ((c:Int) == p.to) (∃x:Memo (sfP p)×Memo (lfP p a),True/\(true=true/\wk (nI 0:Value) (rn (sg 14 []) 3 (nI (lfP p a c t):Value))/\jkq p K0 a x L0)) (∃x:Memo (sfP p)×Memo (lfP p a),True/\(true=true/\wk (nI 1048576:Value) (rn (sg 14 []) 3 (nI (lfP p a c t):Value))/\jkq p K0 a x L0))) ((klookE prog 137 (nI 0) (.agg #[nI c,nI t]) true (knE L0.1)=some (.tuple #[nI (getA (c,t) 0 L0.1),.bool (hasA (c,t) L0.1)]))/\(fk (hasA (c,t) L0.1) (∃x:Memo (sfP p)×Memo (lfP p a),True/\(true=true/\wk (nI (getA (c,t) 0 L0.1):Value) (rn (sg 14 []) 3 (nI (lfP p a c t):Value))/\jkq p K0 a x L0)) (nw (t+1) ((jkg/\(jkk p)/\(jk12 p)/\(jkm p)/\(jk13 p)/\(jk14 p)/\(jk15 p)/\(jk16 p)/\(someR (.map (knE K0.1)))/\True)/\(∀H':Heap,H'.length=16->(H'[0]?=some jki/\H'[7]?=some (jkl p)/\H'[1]?=some (jk17 p)/\H'[2]?=some (jkp p)/\H'[3]?=some (jk18 p)/\H'[4]?=some (jk19 p)/\H'[5]?=some (jk1a p)/\H'[6]?=some (jk1b p)/\H'[8]?=some (.map (knE K0.1):KObj)/\True)->KCall prog 57 [pt 7,nI c,nI t,nI (t+1)] H' [8] (fun y H2 => ∃z:Memo (sfP p),True/\y = .bool (wtB p c t (t+1))/\H2=(List.set H' 8 (.map (knE z.1):KObj))))/\(∀r0:Memo (sfP p),True->(fk (wtB p c t (t+1)) (nw (t+1) ((jkg/\(someR (.cells true 0 [nI a]))/\(someR (.cells true 0 [pt 7]))/\(someR (.cells true 0 [.map (some 13)]))/\jkz/\(jkk p)/\(someR (.map (knE L0.1)))/\(jk12 p)/\(jkm p)/\(jk13 p)/\(jk14 p)/\(jk15 p)/\(jk16 p)/\(someR (.map (knE r0.1)))/\True)/\(∀H':Heap,H'.length=16->(H'[0]?=some jki/\H'[9]?=some (.cells true 0 [nI a]:KObj)/\H'[10]?=some (.cells true 0 [pt 7]:KObj)/\H'[11]?=some (.cells true 0 [.map (some 13)]:KObj)/\H'[12]?=some jk10/\H'[7]?=some (jkl p)/\H'[13]?=some (.map (knE L0.1):KObj)/\H'[1]?=some (jk17 p)/\H'[2]?=some (jkp p)/\H'[3]?=some (jk18 p)/\H'[4]?=some (jk19 p)/\H'[5]?=some (jk1a p)/\H'[6]?=some (jk1b p)/\H'[8]?=some (.map (knE r0.1):KObj)/\True)->KCall prog 70 [nI c,nI (t+1),pt 9,pt 10,pt 11,pt 12] H' [8,13] (fun y H2 => ∃z:Memo (sfP p)×Memo (lfP p a),True/\y=nI (lfP p a c (t+1))/\H2=(List.set (List.set H' 8 (.map (knE z.1.1):KObj)) 13 (.map (knE z.2.1):KObj))))/\(∀r1:Memo (sfP p)×Memo (lfP p a),True->((some (.cells true 0 [nI (lfP p a c (t+1))]:KObj)=some (.cells true 0 [nI (lf0 p a c t)]:KObj))/\(RleftT p a c t r1.1 r1.2))))) ((some (.cells true 0 [nI 1048576]:KObj)=some (.cells true 0 [nI (lf0 p a c t)]:KObj))/\(RleftT p a c t r0 L0)))))))))
def HleftU(p:Pl)(a c t:Int)(x51 x52:Nat×Memo (sfP p)×Memo (lfP p a))(r53:Memo (sfP p)):Hint :=
 .go 1 (.fork (.go 0 (.slot 73 (nI (((x51.1:Nat):Int)+1)) jkx)) (.go 1 (.ans [jkn,(jkr p),(jks p),(jke p),(jkt p),(jku p),(jkv p),(jkw p),(8,.map (knE r53.1))] (nI (tkP p (spL p ((bsP p c).getD x51.1 0) t (x52.1+1)))) [] (.go 2 (.gfork (.go 5 (.into (some [8,13,15,19]) (.go 5 (.fork (.go 5 (.anse [jkn,(9,.cells true 0 [nI a]),(10,.cells true 0 [pt 7]),(11,.cells true 0 [.map (some 13)]),jk11,(jkr p),(13,.map (knE x52.2.2.1)),(jks p),(jke p),(jkt p),(jku p),(jkv p),(jkw p),(8,.map (knE r53.1))] [8,13] (Memo (sfP p)×Memo (lfP p a)) (fun r51=>True) (fun r51=>nI (lfP p a ((bsP p c).getD x51.1 0) (t+1+(jko p a x52)))) (fun r51=>[(8,.map (knE r51.1.1)),(13,.map (knE r51.2.1))]) (fun r51=>[]) (fun r51 => .go 0 (.slot 62 (nI (1+(lfP p a ((bsP p c).getD x51.1 0) (t+1+(jko p a x52))))) (.go 6 (.slot 28 (nI ((t+1+(jko p a x52))+1)) jkx)))))) (.go 4 (.slot 28 (nI ((t+1+(jko p a x52))+1)) jkx)))))) (.go 3 (.slot 28 (nI ((t+1+(jko p a x52))+1)) jkx)))))))
def HleftT(p:Pl)(a c t:Int)(Kx:Memo (sfP p))(Lx:Memo (lfP p a)):Hint :=
 .go 9 (.into (some [8,13,14,15,16,17,18]) (.go 1 (.ans [jkn,(jkr p),(jks p),(jke p),(jkt p),(jku p),(jkv p),(jkw p),(8,.map (knE Kx.1))] (slQ 20 1 (bsP p c).length) [.cells true 1 ((bsP p c).flatMap intC)] (.go 1 (.inv 3 (Nat×Memo (sfP p)×Memo (lfP p a)) ((jkj p Kx a Lx)) [] [8,13,15,19] (fun x51=>[(15,nI ((x51.1:Nat):Int)),(3,pt 18),(1,pt 16),(0,.func (.yield 19) #[] #[]),(13,slQ 20 1 (bsP p c).length),(14,nI (((bsP p c).length:Nat):Int))]) (fun x51=>[(8,true,.map (knE x51.2.1.1)),(13,true,.map (knE x51.2.2.1)),(15,false,.cells true 0 [nI (jk1c p a c t x51)])]) (fun x51=>[]) (fun x51=>[(19,[(12,pt 15),(9,pt 14),(0,nI c),(1,nI t),(2,pt 9),(3,pt 10),(4,pt 11),(5,pt 12)])]) (fun x51=>(x51.1<=List.length (bsP p c))) (fun x51=>(List.length (bsP p c)-x51.1)) (fun x51 => .go 0 (.fork (.need (.val (nI ((bsP p c).getD x51.1 0)) (.go 3 (.slot 20 (nI (t+1)) (.go 0 (.inv 3 (Nat×Memo (sfP p)×Memo (lfP p a)) ((jk8 p a x51)) [] [8,13,15,19] (fun x52=>[(8,nI (t+1+(jko p a x52))),(7,nI (lowP p ((bsP p c).getD x51.1 0) t x52.1)),(14,nI (((bsP p c).length:Nat):Int)),(13,slQ 20 1 (bsP p c).length),(0,.func (.yield 19) #[] #[]),(1,pt 16),(3,pt 18),(15,nI ((x51.1:Nat):Int)),(6,nI ((bsP p c).getD x51.1 0))]) (fun x52=>[(8,true,.map (knE x52.2.1.1)),(13,true,.map (knE x52.2.2.1)),(15,false,.cells true 0 [nI (lfTo p a (lf0 p a c t) (preL p c t x51.1++lgTo p ((bsP p c).getD x51.1 0) t x52.1))])]) (fun x52=>[]) (fun x52=>[(19,[(12,pt 15),(9,pt 14),(0,nI c),(1,nI t),(2,pt 9),(3,pt 10),(4,pt 11),(5,pt 12)])]) (fun x52=>((x52.1<=Int.toNat (endP p-t)/\okL p ((bsP p c).getD x51.1 0) t x52.1=true))) (fun x52=>(Int.toNat (endP p-t)-x52.1)) (fun x52 => .go 5 (.fork (.go 4 (.slot 33 (nI ((t+1+(jko p a x52))-1)) (.anse [jkn,(jkr p),(jks p),(jke p),(jkt p),(jku p),(jkv p),(jkw p),(8,.map (knE x52.2.1.1))] [8] (Memo (sfP p)) (fun r53=>True) (fun r53=>nI (sfP p ((bsP p c).getD x51.1 0) (Int.tdiv ((t+1+(jko p a x52))-1) 6))) (fun r53=>[(8,.map (knE r53.1))]) (fun r53=>[]) (fun r53 => .go 1 (.slot 7 (nI (lowP p ((bsP p c).getD x51.1 0) t (x52.1+1))) (.go 1 (.fork (.go 0 (.slot 73 (nI (((x51.1:Nat):Int)+1)) jkx)) (.go 3 (.slot 41 (nI ((t+1+(jko p a x52))-t)) (.go 1 (.slot 10 (nI (((x52.1+1):Nat):Int)) (.go 1 (.fork (.go 6 (.slot 50 (nI (6*p.size)) (.go 0 (.slot 51 (nI ((6*p.size)-1)) (.go 1 (.slot 53 (nI ((((x52.1+1):Nat):Int)-1)) (.need (.slot 54 (nI (jky p a x52)) (.go 1 (.slot 9 (nI (spL p ((bsP p c).getD x51.1 0) t (x52.1+1))) ((HleftU p a c t x51 x52 r53)))))))))))) (.slot 9 (nI (spL p ((bsP p c).getD x51.1 0) t (x52.1+1))) ((HleftU p a c t x51 x52 r53)))))))))))))))) (.go 0 (.slot 73 (nI (((x51.1:Nat):Int)+1)) jkx)))))))))) (.keep (.go 2 (.mset (knE (putA (c,t) (jk1c p a c t x51) x51.2.2.1)) (.go 1 (.keep (.again [])))))))))))))
abbrev jk6(p:Pl)(K0:Memo (sfP p))(a:Int)(L0:Memo (lfP p a)):=readsK [.cells false 0 jk2,.cells true 1 (jk9 p),.cells false 0 (p.cts.flatMap chC),.cells true 1 (jka p),.cells true 2 (jkb p),.cells true 2 (jkc p),.cells true 2 (jkd p),.cells true 0 (jk0 p),.map (knE K0.1),.cells true 0 [nI a],.cells true 0 [pt 7],.cells true 0 [.map (some 13)],.cells true 0 [.func (.func 70) #[] #[pt 9,pt 10,pt 11,pt 12]],.map (knE L0.1)]
theorem Eleft(p:Pl)(a c t:Int)(K0:Memo (sfP p))(L0:Memo (lfP p a)):vF prog msk (dm 0) 100000 true 40 true 70 [nI c,nI t,pt 9,pt 10,pt 11,pt 12] (jk6 p K0 a L0) (some [8,13])
 (.go 3 (.fork (.go 6 (.fork (.go 0 (.keep (.again []))) (.go 0 (.keep (.again []))))) (.go 6 (.val (.tuple #[nI (getA (c,t) 0 L0.1),.bool (hasA (c,t) L0.1)]) (.go 5 (.fork (.go 1 (.keep (.again []))) (.go 6 (.slot 39 (nI (t+1)) (.anse [jkn,(jkr p),(jks p),(jke p),(jkt p),(jku p),(jkv p),(jkw p),(8,.map (knE K0.1))] [8] (Memo (sfP p)) (fun r0=>True) (fun r0 => .bool (wtB p c t (t+1))) (fun r0=>[(8,.map (knE r0.1))]) (fun r0=>[]) (fun r0 => .fork (.go 3 (.slot 44 (nI (t+1)) (.anse [jkn,(9,.cells true 0 [nI a]),(10,.cells true 0 [pt 7]),(11,.cells true 0 [.map (some 13)]),jk11,(jkr p),(13,.map (knE L0.1)),(jks p),(jke p),(jkt p),(jku p),(jkv p),(jkw p),(8,.map (knE r0.1))] [8,13] (Memo (sfP p)×Memo (lfP p a)) (fun r1=>True) (fun r1=>nI (lfP p a c (t+1))) (fun r1=>[(8,.map (knE r1.1.1)),(13,.map (knE r1.2.1))]) (fun r1=>[]) (fun r1 => .go 0 (.obj 15 (.cells true 0 [nI (lf0 p a c t)]) ((HleftT p a c t r1.1 r1.2))))))) (.obj 15 (.cells true 0 [nI (lf0 p a c t)]) ((HleftT p a c t r0 L0)))))))))))))
 (newKWE (α:=Memo (sfP p)×Memo (lfP p a)) ((jk6 p K0 a L0):HT).n 3 [8,13] (fun x=>True) (fun x=>nI (lfP p a c t)) (fun x=>[(8,true,.map (knE x.1.1)),(13,true,.map (knE x.2.1))]) (fun x=>[]))=Rleft p a c t K0 L0:=by kernel_rfl
abbrev fnV(A B C D:Nat):Value:=.func (.func 70) #[] #[pt A,pt B,pt C,pt D]
def LfAt(H:Heap)(p:Pl)(a:Int)(K:Memo (sfP p))(L:Memo (lfP p a))(l c n t w i W m A B C D M:Nat):Prop :=
 [0,l,c,n,t,w,i,W,m,A,B,C,D,M].Nodup/\WkAt H p K l c n t w i W m/\H[A]?=some (.cells true 0 [nI a])/\H[B]?=some (.cells true 0 [pt W])/\H[C]?=some (.cells true 0 [.map (some M)])/\H[D]?=some (.cells true 0 [fnV A B C D])/\H[M]?=some (.map (knE L.1))
abbrev lfOs(p:Pl)(a:Int)(K:Memo (sfP p))(L:Memo (lfP p a)):List KObj:=wOs p K ++ [.cells true 0 [nI a],.cells true 0 [pt 7],.cells true 0 [.map (some 13)],.cells true 0 [fnV 9 10 11 12],.map (knE L.1)]
theorem lfOs_ok(p:Pl)(a:Int)(K:Memo (sfP p))(L:Memo (lfP p a)):(lfOs p a K L).all (rnoOk 3)=true:=by
 rw[List.all_append,wOs_ok]
 show (true&&(rnoOk 3 (.cells true 0 [nI a])&&(rnoOk 3 (.cells true 0 [pt 7])&&(rnoOk 3 (.cells true 0 [.map (some 13)])&&(rnoOk 3 (.cells true 0 [fnV 9 10 11 12])&&(rnoOk 3 (.map (knE L.1))&&true))))))=true
 rw[(plM L.1).ok];rfl
theorem LfAt.objs{H:Heap}{p:Pl}{a:Int}{K:Memo (sfP p)}{L:Memo (lfP p a)}{l c n t w i W m A B C D M:Nat}(h:LfAt H p a K L l c n t w i W m A B C D M):objsAt H (sgI [0,l,c,n,t,w,i,W,m,A,B,C,D,M]) [0,l,c,n,t,w,i,W,m,A,B,C,D,M] (lfOs p a K L):=by
 obtain ⟨_,⟨_,a0,a1,a2,a3,a4,a5,a6,a7,a8⟩,b1,b2,b3,b4,b5⟩:=h
 exact ⟨a0,by rw[boolRno];exact a1,by rw[chRno];exact a2,by rw[boolRno];exact a3,by rw[ptRno];exact a4,by rw[ptRno];exact a5,by rw[ptRno];exact a6,a7,by rw[(plM K.1).rn];exact a8,b1,b2,b3,b4,by rw[(plM L.1).rn];exact b5,trivial⟩
theorem lfAt14{H:Heap}{p:Pl}{a:Int}{K:Memo (sfP p)}{L:Memo (lfP p a)}{Q:Prop}(h:H[0]?=some strO/\H[9]?=some (.cells true 0 [nI a])/\H[10]?=some (.cells true 0 [pt 7])/\H[11]?=some (.cells true 0 [.map (some 13)])/\H[12]?=some (.cells true 0 [fnV 9 10 11 12]) /\
  H[7]?=some (.cells true 0 (wkC p 1 2 3 4 5 6 8))/\H[13]?=some (.map (knE L.1))/\H[1]?=some (.cells true 1 (p.land.flatMap boolC))/\H[2]?=some (.cells false 0 (p.cts.flatMap chC))/\H[3]?=some (.cells true 1 (p.chan.flatMap boolC)) /\
  H[4]?=some (.cells true 2 (p.shp.th.flatMap ptC))/\H[5]?=some (.cells true 2 (p.shp.wa.flatMap ptC))/\H[6]?=some (.cells true 2 (p.shp.ic.flatMap ptC))/\H[8]?=some (.map (knE K.1))/\Q):LfAt H p a K L 1 2 3 4 5 6 7 8 9 10 11 12 13:=by
 obtain ⟨a0,b1,b2,b3,b4,a7,b5,a1,a2,a3,a4,a5,a6,a8,_⟩:=h
 exact ⟨by decide,⟨by decide,a0,a1,a2,a3,a4,a5,a6,a7,a8⟩,b1,b2,b3,b4,b5⟩
abbrev lfArgs(c t:Int)(A B C D:Nat):List Value:=[nI c,nI t,pt A,pt B,pt C,pt D]
abbrev LfPost(p:Pl)(a c t:Int)(H:Heap)(m M:Nat):Value->Heap->Prop:=fun y H2 => ∃z:Memo (sfP p)×Memo (lfP p a),True/\y=nI (lfP p a c t)/\H2=(H.set m (.map (knE z.1.1))).set M (.map (knE z.2.1))
theorem valLf{p:Pl}{a c t:Int}{K:Memo (sfP p)}{L:Memo (lfP p a)}{h:Hint}
  (hc:vF prog msk (dm 0) 100000 true 40 true 70 (lfArgs c t 9 10 11 12) (readsK (lfOs p a K L)) (some [8,13]) h (newKWE (α:=Memo (sfP p)×Memo (lfP p a)) (readsK (lfOs p a K L)).n 3 [8,13] (fun _=>True) (fun _=>nI (lfP p a c t)) (fun x=>[(8,true,.map (knE x.1.1)),(13,true,.map (knE x.2.1))]) (fun _=>[])))
  {H:Heap} {l c' n t' w i W m A B C D M:Nat} (at_:LfAt H p a K L l c' n t' w i W m A B C D M):KCall prog 70 (lfArgs c t A B C D) H [m,M] (LfPost p a c t H m M):=by
 have hks:∀k ∈ [8,13],∃o,(lfOs p a K L)[k]?=some o/\o.owned=true:=by
  intro k hk
  rcases List.mem_cons.1 hk with rfl|hk
  ·exact ⟨_,rfl,rfl⟩
  ·obtain rfl:=List.mem_singleton.1 hk
   exact ⟨_,rfl,rfl⟩
 have key:=valWE (α:=Memo (sfP p)×Memo (lfP p a)) (I:=fun _=>True) (os:=lfOs p a K L) (fun _ _=>nI (lfP p a c t)) (chg:=fun x=>[(8,true,.map (knE x.1.1)),(13,true,.map (knE x.2.1))]) (new:=fun _=>[]) (ks:=[8,13])
  hc (lfOs_ok p a K L) hks (fun _ _=>rfl) (fun x _=>⟨⟨List.mem_cons_self,plM x.1.1⟩,⟨List.mem_cons_of_mem _ (List.mem_singleton.2 rfl),plM x.2.1⟩,trivial⟩) (fun _ _=>trivial) at_.1 at_.objs rfl (fun _ _ _=>rfl) rfl (ms:=[m,M]) rfl
 refine key.post ?_
 rintro y H2 ⟨x,_,rfl,rfl⟩
 exact ⟨x,trivial,rfl,List.append_nil _⟩
abbrev LfIH(p:Pl)(a t:Int):Prop:=∀(c' t':Int) (K:Memo (sfP p)) (L:Memo (lfP p a)) (H:Heap),(0<=c'/\c'<(p.land.length:Int))->t<t'->t'<=a->LfAt H p a K L 1 2 3 4 5 6 7 8 9 10 11 12 13 ->
 KCall prog 70 (lfArgs c' t' 9 10 11 12) H [8,13] (LfPost p a c' t' H 8 13)
theorem minI(a b:Int):min a b=if b<a then b else a:=by
 by_cases h:b<a
 ·rw[if_pos h];omega
 ·rw[if_neg h];omega
theorem leftU{p:Pl}(o:PlOk p){a c t:Int}(ih:LfIH p a t)(hc:0<=c/\c<(p.land.length:Int))(ht:0<=t/\t<a)(ha:a<=endP p){x51 x52:Nat×Memo (sfP p)×Memo (lfP p a)}{r53:Memo (sfP p)}(h1:x51.1<(bsP p c).length)(h2:x52.1<Int.toNat (endP p-t))
  (hk:okL p ((bsP p c).getD x51.1 0) t x52.1=true) (hl:¬ lowP p ((bsP p c).getD x51.1 0) t (x52.1+1)<10):RleftU p a c t x51 x52 r53:=by
 have he:=end_le o
 have hb:=bsP_len p c
 have hs:=lowP_le p ((bsP p c).getD x51.1 0) t (x52.1+1)
 have hp:=spL_le p ((bsP p c).getD x51.1 0) t (x52.1+1)
 have hto:=bs_at o hc h1
 delta RleftU jk4 jkg jkk jk7 jki jkl jk5 jko jkz jk10 jkf jk1 jk3 jk17 jkp jk18 jk19 jk1a jk1b jkd jkc jkb jka jk9 jk0 jk2 jk12 jkm jk13 jk14 jk15 jk16 jkh nI slQ pt someR fk nw eR wR kbq
 refine ⟨fun k=>⟨vI64 (by omega),(x51.1+1,r53,x52.2.2),by show x51.1+1<=_;omega,by show _-(x51.1+1)<_;omega,rfl,?_⟩,fun k =>?_⟩
 ·rw[show preL p c t (x51.1+1)=_ from preL_next h1 (Nat.le_of_lt h2) (.inr (goB_sp (of_decide_eq_true k)))]
  repeat' first|exact knB _ _|exact wkO_of_eq rfl|exact trivial|exact rfl|exact wk_refl _|refine ⟨rfl,?_⟩|refine ⟨trivial,?_⟩|apply And.intro
 ·have hk2:okL p ((bsP p c).getD x51.1 0) t (x52.1+1)=true:=by rw[okL_succ,hk,goB_yes hl (of_decide_eq_false k)];rfl
  have hsp:=of_decide_eq_false k
  refine ⟨?_,fun H' hn h=>kTakes o (by omega) (wkAt9 h),fun q =>?_,fun q =>?_⟩
  ·repeat' first|exact trivial|refine ⟨rfl,?_⟩
  ·have yes:lfTo p a (lf0 p a c t) (preL p c t x51.1++lgTo p ((bsP p c).getD x51.1 0) t (x52.1+1))=lfS p a (lfTo p a (lf0 p a c t) (preL p c t x51.1++lgTo p ((bsP p c).getD x51.1 0) t x52.1)) ⟨(bsP p c).getD x51.1 0,t,spL p ((bsP p c).getD x51.1 0) t (x52.1+1),t+1+(x52.1:Int)⟩:=by
    have e:lgOne p ((bsP p c).getD x51.1 0) t x52.1=[⟨(bsP p c).getD x51.1 0,t,spL p ((bsP p c).getD x51.1 0) t (x52.1+1),t+1+(x52.1:Int)⟩]:=by
     unfold lgOne;rw[hk2,q];rfl
    rw[lgTo_succ,<- List.append_assoc,e,lfTo_snoc]
   refine ⟨fun r =>?_,fun r =>?_⟩
   ·have hr:=of_decide_eq_true r
    have hbd:=lfBd p (c:=(bsP p c).getD x51.1 0) hr
    refine ⟨?_,fun H' hn h=>ih _ _ _ _ _ hto (by omega) hr (lfAt14 h),fun r51 _=>⟨vI64 (by omega),vI64 (by omega),(x52.1+1,r51.1,r51.2),⟨by show x52.1+1<=_;omega,hk2⟩,by show _-(x52.1+1)<_;omega,rfl,?_⟩⟩
    ·repeat' first|exact trivial|refine ⟨rfl,?_⟩
    ·rw[yes]
     unfold lfS
     rw[if_pos hr,minI]
     repeat' first|exact knB _ _|exact wkO_of_eq rfl|exact trivial|exact rfl|exact wk_refl _|refine ⟨rfl,?_⟩|refine ⟨trivial,?_⟩|apply And.intro|(exact iEq (by omega))
   ·have hr:=of_decide_eq_false r
    refine ⟨vI64 (by omega),(x52.1+1,r53,x52.2.2),⟨by show x52.1+1<=_;omega,hk2⟩,by show _-(x52.1+1)<_;omega,rfl,?_⟩
    rw[yes]
    unfold lfS
    rw[if_neg hr]
    repeat' first|exact knB _ _|exact wkO_of_eq rfl|exact trivial|exact rfl|exact wk_refl _|refine ⟨rfl,?_⟩|refine ⟨trivial,?_⟩|apply And.intro|(exact iEq (by omega))
  ·have no:preL p c t x51.1++lgTo p ((bsP p c).getD x51.1 0) t (x52.1+1)=preL p c t x51.1++lgTo p ((bsP p c).getD x51.1 0) t x52.1:=by
    rw[lgTo_succ];unfold lgOne;rw[hk2,q];simp
   refine ⟨vI64 (by omega),(x52.1+1,r53,x52.2.2),⟨by show x52.1+1<=_;omega,hk2⟩,by show _-(x52.1+1)<_;omega,rfl,?_⟩
   rw[no]
   repeat' first|exact knB _ _|exact wkO_of_eq rfl|exact trivial|exact rfl|exact wk_refl _|refine ⟨rfl,?_⟩|refine ⟨trivial,?_⟩|apply And.intro|(exact iEq (by omega))
theorem keqP2(a b:Int×Int):keqIn prog Op.maxDepth 137 (kyV a) (kyV b)=some (decide (a=b)):=by
 have h:keqIn prog Op.maxDepth 137 (kyV a) (kyV b)=some ((a.1 == b.1)&&((a.2 == b.2)&&true)):=by kernel_rfl
 rw[h]
 congr 1
 rw[Bool.and_true,Bool.eq_iff_iff,Bool.and_eq_true,beq_iff_eq,beq_iff_eq,decide_eq_true_eq]
 exact ⟨fun q=>Prod.ext q.1 q.2,fun q=>by rw[q];exact ⟨rfl,rfl⟩⟩
theorem leftT{p:Pl}(o:PlOk p){a c t:Int}(ih:LfIH p a t)(hc:0<=c/\c<(p.land.length:Int))(ht:0<=t/\t<a)(ha:a<=endP p)(Kx:Memo (sfP p))(Lx:Memo (lfP p a)):RleftT p a c t Kx Lx:=by
 have he:=end_le o
 have hb:=bsP_len p c
 delta RleftT jkg jkk jk12 jkm jk13 jk14 jk15 jk16 jki jkl jk17 jkp jk18 jk19 jk1a jk1b jkj jkh jk1 jk8 jkf jk1c jko jk4 jky jkd jkc jkb jka jk9 jk0 jk2 nI slQ pt someR fk nw eR wR kbq ixq
 refine ⟨?_,fun H' hn h=>hn ▸ kBeside o hc (wkAt9 h),rfl,Nat.zero_le _,⟨rfl,?_⟩,fun _=>rfl,fun x51 hx1=>⟨fun q1 =>?_,fun q1 =>?_⟩⟩
 ·repeat' first|exact trivial|refine ⟨rfl,?_⟩
 ·repeat' first|exact knB _ _|exact wkO_of_eq rfl|exact trivial|exact rfl|exact wk_refl _|refine ⟨rfl,?_⟩|refine ⟨trivial,?_⟩|apply And.intro
 ·have hx:=of_decide_eq_true q1
  have hx':x51.1<(bsP p c).length:=by omega
  have e0:preL p c t x51.1++lgTo p ((bsP p c).getD x51.1 0) t 0=preL p c t x51.1:=List.append_nil _
  refine ⟨by omega,intAt hx' (by omega),vI64 (by omega),rfl,⟨Nat.zero_le _,rfl⟩,⟨rfl,?_⟩,fun _=>rfl,fun x52 hx2=>⟨fun q2 =>?_,fun q2 =>?_⟩⟩
  ·rw[e0]
   repeat' first|exact knB _ _|exact wkO_of_eq rfl|exact trivial|exact rfl|exact wk_refl _|refine ⟨rfl,?_⟩|refine ⟨trivial,?_⟩|apply And.intro|(exact iEq (by omega))
  ·have hq:=of_decide_eq_true q2
   have hx2':x52.1<Int.toNat (endP p-t):=by omega
   have e1:Int.tdiv (t+1+(x52.1:Int)-1) 6=Int.tdiv (t+(x52.1:Int)) 6:=by congr 1;omega
   refine ⟨vI64 (by omega),?_,fun H' hn h=>kSafe o (bs_at o hc hx') (by omega) (wkAt9 h),fun r53 _=>⟨?_,fun q3 =>?_,fun q3 =>?_⟩⟩
   ·repeat' first|exact trivial|refine ⟨rfl,?_⟩
   ·rw[low_step e1]
   ·refine ⟨vI64 (by omega),(x51.1+1,r53,x52.2.2),by show x51.1+1<=_;omega,by show _-(x51.1+1)<_;omega,rfl,?_⟩
    rw[show preL p c t (x51.1+1)=_ from preL_next hx' (Nat.le_of_lt hx2') (.inr (goB_low (of_decide_eq_true q3)))]
    repeat' first|exact knB _ _|exact wkO_of_eq rfl|exact trivial|exact rfl|exact wk_refl _|refine ⟨rfl,?_⟩|refine ⟨trivial,?_⟩|apply And.intro
   ·have tl:RleftU p a c t x51 x52 r53:=leftU o ih hc ht ha hx' hx2' hx2.2 (of_decide_eq_false q3)
    have hz:=o.size
    refine ⟨vI64 (by omega),iEq (by omega),fun q4 =>?_,fun q4 =>?_⟩
    ·have h4:=of_decide_eq_true q4
     have hdiv:0<=Int.tdiv (6*p.size-1) (((x52.1+1:Nat):Int)-1)/\Int.tdiv (6*p.size-1) (((x52.1+1:Nat):Int)-1)<=3000:=by
      rw[Int.tdiv_eq_ediv_of_nonneg (by omega)]
      exact ⟨Int.ediv_nonneg (by omega) (by omega),Int.le_trans (Int.ediv_le_self _ (by omega)) (by omega)⟩
     refine ⟨vI64 (by omega),vI64 (by omega),vI64 (by omega),by omega,vI64 (by omega),?_,tl⟩
     have h5:1<x52.1+1:=by omega
     unfold spL;rw[if_pos h5]
    ·refine ⟨?_,tl⟩
     have h5:¬ 1<x52.1+1:=by have:=of_decide_eq_false q4;omega
     unfold spL;rw[if_neg h5]
  ·have hq:=of_decide_eq_false q2
   refine ⟨vI64 (by omega),(x51.1+1,x52.2.1,x52.2.2),by show x51.1+1<=_;omega,by show _-(x51.1+1)<_;omega,rfl,?_⟩
   rw[show preL p c t (x51.1+1)=_ from preL_next hx' hx2.1 (.inl (by omega))]
   repeat' first|exact knB _ _|exact wkO_of_eq rfl|exact trivial|exact rfl|exact wk_refl _|refine ⟨rfl,?_⟩|refine ⟨trivial,?_⟩|apply And.intro
 ·have hq:=of_decide_eq_false q1
  rw[preL_all (by omega),<- lfP_eq ht.2]
  refine ⟨set_A (kt:=137) (key:=kyV) (val:=fun v=>nI v) keqP2 keyQ (c,t) (lfP p a c t) x51.2.2.1,(x51.2.1,x51.2.2.put c t),trivial,rfl,wk_refl _,⟨⟨rfl,knB _ _⟩,⟨rfl,knB _ _⟩,trivial⟩,trivial⟩
theorem kLeft{p:Pl}(o:PlOk p){a:Int}(ha:a<=endP p):∀(k:Nat) (c t:Int),Int.toNat (a-t)=k->(0<=c/\c<(p.land.length:Int))->0<=t->t<=a->∀{K:Memo (sfP p)} {L:Memo (lfP p a)} {H:Heap} {l c' n t' w i W m A B C D M:Nat},LfAt H p a K L l c' n t' w i W m A B C D M ->
  KCall prog 70 (lfArgs c t A B C D) H [m,M] (LfPost p a c t H m M):=by
 intro k
 induction k using Nat.strongRecOn with
 |_ k ih =>
  intro c t hk hc ht hta K L H l c' n t' w i W m A B C D M at_
  have he:=end_le o
  refine valLf (Eq.mpr (Eleft p a c t K L) ?_) at_
  delta Rleft jkq jkg jkk jk12 jkm jk13 jk14 jk15 jk16 jki jkl jk17 jkp jk18 jk19 jk1a jk1b jkz jk10 jkx jkn jkr jks jke jkt jku jkv jkw jk11 jko jkj jk1c jk8 jky jkd jkc jkb jka jk9 jk0 jk2 nI slQ pt someR fk nw kbq
  refine ⟨fun q =>?_,fun q =>?_⟩
  ·have hq:t=a:=by simpa using q
   subst hq
   have hE:=lfP_end p t c
   refine ⟨fun r =>?_,fun r =>?_⟩
   ·have hr:c=p.to:=by simpa using r
    rw[if_pos hr]at hE
    rw[hE]
    exact ⟨(K,L),trivial,rfl,wk_refl _,⟨⟨rfl,knB _ _⟩,⟨rfl,knB _ _⟩,trivial⟩,trivial⟩
   ·have hr:¬ c=p.to:=by simpa using r
    rw[if_neg hr]at hE
    rw[hE]
    exact ⟨(K,L),trivial,rfl,wk_refl _,⟨⟨rfl,knB _ _⟩,⟨rfl,knB _ _⟩,trivial⟩,trivial⟩
  ·have hq:¬ t=a:=by simpa using q
   have hlt:t<a:=by omega
   have IH:LfIH p a t:=fun c2 t2 K2 L2 H2 h1 h2 h3 h4=>ih (Int.toNat (a-t2)) (by omega) c2 t2 rfl h1 (by omega) h3 h4
   refine ⟨look_A (kt:=137) (key:=kyV) (val:=fun v=>nI v) keqP2 (c,t) 0 rfl true L.1,fun e =>?_,fun e =>?_⟩
   ·refine ⟨(K,L),trivial,rfl,?_,⟨⟨rfl,knB _ _⟩,⟨rfl,knB _ _⟩,trivial⟩,trivial⟩
    rw[L.2 c t e];exact wk_refl _
   ·refine ⟨vI64 (by omega),?_,fun H' hn h=>kWaits o hc ht (by omega) (wkAt9 h),fun r0 _=>⟨fun r =>?_,fun r =>?_⟩⟩
    ·repeat' first|exact trivial|refine ⟨rfl,?_⟩
    ·refine ⟨vI64 (by omega),?_,fun H' hn h=>IH _ _ _ _ _ hc (by omega) (by omega) (lfAt14 h),fun r1 _=>⟨?_,leftT o IH hc ⟨ht,hlt⟩ ha _ _⟩⟩
     ·repeat' first|exact trivial|refine ⟨rfl,?_⟩
     ·unfold lf0;rw[if_pos r]
    ·refine ⟨?_,leftT o IH hc ⟨ht,hlt⟩ ha _ _⟩
     unfold lf0;rw[r];rfl
theorem wtB_iff{p:Pl}{c a b:Int}:wtB p c a b=true ↔ ∀u:Int,a<=u->u<b->sfP p c (Int.tdiv u 6)≠0:=by
 unfold wtB wtTo
 rw[List.all_eq_true]
 constructor
 ·intro h u h1 h2
  have:=h (Int.toNat (u-a)) (List.mem_range.2 (by omega))
  rw[show a+((Int.toNat (u-a):Nat):Int)=u by omega]at this
  simpa using this
 ·intro h n hn
  have:=List.mem_range.1 hn
  simpa using h (a+(n:Int)) (by omega) (by omega)
theorem lfTo_min(p:Pl)(a:Int):∀(l:List Leg) (n:Int),lfTo p a n l=n∨∃x∈l,x.arr<=a/\lfTo p a n l=1+lfP p a x.to x.arr
 | [],n => .inl rfl
 |x :: l,n=>by
  show lfTo p a (lfS p a n x) l=n∨∃y∈x :: l,y.arr<=a/\lfTo p a (lfS p a n x) l=1+lfP p a y.to y.arr
  rcases lfTo_min p a l (lfS p a n x) with h|⟨y,h1,h2,h3⟩
  ·rw[h]
   unfold lfS
   by_cases q:x.arr<=a
   ·rw[if_pos q]
    by_cases r:n<=1+lfP p a x.to x.arr
    ·exact .inl (by omega)
    ·exact .inr ⟨x,List.mem_cons_self,q,by omega⟩
   ·rw[if_neg q];exact .inl rfl
  ·exact .inr ⟨y,List.mem_cons_of_mem _ h1,h2,h3⟩
theorem lfTo_le(p:Pl)(a:Int):∀(l:List Leg) (n:Int),lfTo p a n l<=n/\∀x∈l,x.arr<=a->lfTo p a n l<=1+lfP p a x.to x.arr
 | [],n=>⟨Int.le_refl _,fun x hx=>by cases hx⟩
 |x :: l,n=>by
  show lfTo p a (lfS p a n x) l<=n/\∀y∈x :: l,y.arr<=a->lfTo p a (lfS p a n x) l<=1+lfP p a y.to y.arr
  obtain ⟨h1,h2⟩:=lfTo_le p a l (lfS p a n x)
  have hs:lfS p a n x<=n:=by
   unfold lfS
   by_cases q:x.arr<=a
   ·rw[if_pos q];omega
   ·rw[if_neg q];omega
  refine ⟨by omega,fun y hy hya =>?_⟩
  rcases List.mem_cons.1 hy with rfl|hy
  ·have:lfS p a n y<=1+lfP p a y.to y.arr:=by unfold lfS;rw[if_pos hya];omega
   omega
  ·exact h2 y hy hya
theorem abl_ex(p:Pl)(a:Int):∀(k:Nat) (c t:Int),t<=a->Int.toNat (a-t)=k->0<lfP p a c t->lfP p a c t<1048576 ->
  ∃(j:Nat) (x:Leg),t+(j:Int)<a/\wtB p c t (t+(j:Int))=true/\x∈lgP p c (t+(j:Int))/\x.arr<=a/\lfP p a x.to x.arr=lfP p a c t-1:=by
 intro k
 induction k using Nat.strongRecOn with
 |_ k ih =>
  intro c t h1 h2 h3 h4
  by_cases e:t=a
  ·subst e
   rw[lfP_end]at h3 h4
   by_cases q:c=p.to
   ·rw[if_pos q]at h3;omega
   ·rw[if_neg q]at h4;omega
  have hlt:t<a:=by omega
  have E:=lfP_eq (p:=p) (c:=c) hlt
  rcases lfTo_min p a (lgP p c t) (lf0 p a c t) with h|⟨x,hx,hxa,h⟩
  ·rw[h]at E
   unfold lf0 at E
   by_cases w:wtB p c t (t+1)=true
   ·rw[if_pos w]at E
    obtain ⟨j,x,g1,g2,g3,g4,g5⟩:=ih (Int.toNat (a-(t+1))) (by omega) c (t+1) (by omega) rfl (by omega) (by omega)
    have ej:t+((j+1:Nat):Int)=t+1+(j:Int):=by omega
    refine ⟨j+1,x,by omega,?_,by rw[ej];exact g3,g4,by omega⟩
    rw[ej]
    rw[wtB_iff]at g2 w ⊢
    intro u u1 u2
    by_cases q:u<t+1
    ·exact w u u1 q
    ·exact g2 u (by omega) u2
   ·rw[if_neg w]at E;omega
  ·refine ⟨0,x,by omega,?_,by rw[show t+((0:Nat):Int)=t by omega];exact hx,hxa,by omega⟩
   rw[wtB_iff]
   intro u u1 u2;omega
theorem goodL_iff{p:Pl}{a n:Int}{x:Leg}:goodL p a n x=true ↔ x.arr<=a/\lfP p a x.to x.arr=n-1:=by
 unfold goodL;rw[Bool.and_eq_true,decide_eq_true_eq,beq_iff_eq]
theorem ablTo_mem{p:Pl}{a n c t:Int}{k:Nat}{x:Leg}:x∈ablTo p a n c t k ↔ ∃j,j<k/\wtB p c t (t+(j:Int))=true/\x∈lgP p c (t+(j:Int))/\x.arr<=a/\lfP p a x.to x.arr=n-1:=by
 unfold ablTo
 rw[List.mem_flatMap]
 constructor
 ·rintro ⟨j,hj,hx⟩
  by_cases w:wtB p c t (t+(j:Int))=true
  ·rw[if_pos w]at hx
   have:=List.mem_filter.1 hx
   exact ⟨j,List.mem_range.1 hj,w,this.1,goodL_iff.1 this.2⟩
  ·rw[if_neg w]at hx;cases hx
 ·rintro ⟨j,hj,w,hx,g⟩
  exact ⟨j,List.mem_range.2 hj,by rw[if_pos w];exact List.mem_filter.2 ⟨hx,goodL_iff.2 g⟩⟩
theorem ablTo_succ{p:Pl}{a n c t:Int}{k:Nat}:ablTo p a n c t (k+1)=ablTo p a n c t k++(if wtB p c t (t+(k:Int)) then ablO p a n c (t+(k:Int)) else []):=by
 unfold ablTo;rw[List.range_succ,List.flatMap_append];simp
theorem ablTo_stop{p:Pl}{a n c t:Int}{k:Nat}(h:wtB p c t (t+(k:Int))=false):∀{m:Nat},k<=m->ablTo p a n c t m=ablTo p a n c t k
 |0,hm=>by rw[Nat.le_zero.1 hm]
 |m+1,hm=>by
  by_cases e:k=m+1
  ·rw[e]
  ·have w:wtB p c t (t+(m:Int))=false:=by
    rw[Bool.eq_false_iff]at h ⊢
    exact fun q=>h (wtB_iff.2 fun u h1 h2=>wtB_iff.1 q u h1 (by omega))
   rw[ablTo_succ,w]
   show ablTo p a n c t m ++ []=_
   rw[List.append_nil];exact ablTo_stop h (by omega)
theorem fsTo_mem:∀(l:List Leg) (b:Leg),fsTo b l=b∨fsTo b l∈l
 | [],b => .inl rfl
 |x :: l,b=>by
  show fsTo (if befL x b<0 then x else b) l=b∨fsTo (if befL x b<0 then x else b) l∈x :: l
  rcases fsTo_mem l (if befL x b<0 then x else b) with h|h
  ·by_cases q:befL x b<0
   ·rw[if_pos q]at h ⊢;exact .inr (by rw[h];exact List.mem_cons_self)
   ·rw[if_neg q]at h ⊢;exact .inl h
  ·exact .inr (List.mem_cons_of_mem _ h)
theorem firL_mem{l:List Leg}(h:0<l.length):firL l∈l:=by
 cases l with
 |nil=>cases h
 |cons b l =>
  rcases fsTo_mem l b with e|e
  ·show fsTo b l∈_;rw[e];exact List.mem_cons_self
  ·exact List.mem_cons_of_mem _ e
structure BsOk(p:Pl)(a:Int):Prop where
 a0:0<=a
 a1:a<=endP p
 fin:lfP p a p.frm 0<1048576
structure BsAt(p:Pl)(a:Int)(k:Nat):Prop where
 c:0<=bsC p a k/\bsC p a k<(p.land.length:Int)
 t:0<=bsT p a k/\bsT p a k<=a
 n:bsN p a k=lfP p a p.frm 0-(k:Int)
theorem ablK_mem{p:Pl}{a:Int}{k:Nat}{x:Leg}(h:x∈ablK p a k):∃j:Nat,bsT p a k+(j:Int)<a/\wtB p (bsC p a k) (bsT p a k) (bsT p a k+(j:Int))=true/\x∈lgP p (bsC p a k) (bsT p a k+(j:Int))/\x.arr<=a/\lfP p a x.to x.arr=bsN p a k-1:=by
 obtain ⟨j,hj,h1,h2,h3,h4⟩:=ablTo_mem.1 h
 exact ⟨j,by omega,h1,h2,h3,h4⟩
theorem ablK_pos{p:Pl}{a:Int}{k:Nat}(ht:bsT p a k<=a)(h0:0<bsN p a k)(h1:bsN p a k<1048576):0<(ablK p a k).length:=by
 obtain ⟨j,x,g1,g2,g3,g4,g5⟩:=abl_ex p a _ (bsC p a k) (bsT p a k) ht rfl h0 h1
 exact List.length_pos_of_mem (ablTo_mem.2 ⟨j,by omega,g2,g3,g4,g5⟩)
theorem bsAt{p:Pl}(o:PlOk p){a:Int}(b:BsOk p a):∀k:Nat,(k:Int)<=lfP p a p.frm 0->BsAt p a k
 |0,_=>⟨(sea_in o.frm).1,⟨Int.le_refl _,b.a0⟩,by show lfP p a p.frm 0=_;omega⟩
 |k+1,hk=>by
  have ih:=bsAt o b k (by omega)
  have hn:=ih.n
  have hf:=b.fin
  have hp:0<(ablK p a k).length:=ablK_pos ih.t.2 (by omega) (by omega)
  obtain ⟨j,g1,g2,g3,g4,g5⟩:=ablK_mem (firL_mem hp)
  have hm:=lgP_mem g3
  have ht:=ih.t
  refine ⟨(bs_mem o ih.c hm.1).1,⟨?_,g4⟩,?_⟩
  ·show 0<=(nxL p a k).arr
   have:bsT p a k+(j:Int)<(nxL p a k).arr:=hm.2.2.1
   omega
  ·show lfP p a (nxL p a k).to (nxL p a k).arr=_
   have:lfP p a (nxL p a k).to (nxL p a k).arr=bsN p a k-1:=g5
   omega
theorem abls_len{p:Pl}(o:PlOk p){a:Int}(b:BsOk p a){k:Nat}(h:BsAt p a k):∀j:Nat,(abls p a k j).length<=j*1152
 |0=>by simp[abls,ablTo]
 |j+1=>by
  have ih:=abls_len o b h j
  have e:abls p a k (j+1)=abls p a k j++(if wtB p (bsC p a k) (bsT p a k) (bsT p a k+(j:Int)) then ablO p a (bsN p a k) (bsC p a k) (bsT p a k+(j:Int)) else []):=ablTo_succ
  have ht:=h.t
  have hl:=lgP_lt o (c:=bsC p a k) (t:=bsT p a k+(j:Int)) (by omega)
  have hf:(ablO p a (bsN p a k) (bsC p a k) (bsT p a k+(j:Int))).length<=(lgP p (bsC p a k) (bsT p a k+(j:Int))).length:=List.length_filter_le ..
  rw[e,List.length_append,Nat.add_mul]
  by_cases w:wtB p (bsC p a k) (bsT p a k) (bsT p a k+(j:Int))=true
  ·rw[if_pos w];omega
  ·rw[if_neg w,List.length_nil,Nat.add_zero];exact Nat.le_trans ih (Nat.le_add_right _ _)
abbrev jl6(p:Pl)(a:Int)(x0:Nat×Memo (sfP p)×Memo (lfP p a)):=bsP p (bsC p a x0.1)
abbrev jl5(p:Pl)(a:Int)(x2:Nat×Memo (sfP p)×Memo (lfP p a)):Int:=(x2.1:Nat)
abbrev jl9(p:Pl)(a:Int)(x0:Nat×Memo (sfP p)×Memo (lfP p a))(x51:Nat×Memo (sfP p)×Memo (lfP p a))(x2:Nat×Memo (sfP p)×Memo (lfP p a))(x52:Nat×Memo (sfP p)×Memo (lfP p a)):=spL p ((jl6 p a x0).getD x51.1 0) (bsT p a x0.1+(jl5 p a x2)) (x52.1+1)
abbrev jl15(p:Pl)(a:Int)(x0:Nat×Memo (sfP p)×Memo (lfP p a)):Prop:=eR (pt 20)/\eR (pt 18)/\eR (.func (.yield 21) #[] #[])/\wR (slQ 22 1 (jl6 p a x0).length)/\eR (nI (((jl6 p a x0).length:Nat):Int))/\True
abbrev jld(p:Pl)(a:Int)(x0:Nat×Memo (sfP p)×Memo (lfP p a)):=goodL p a (bsN p a x0.1)
abbrev jlq(p:Pl)(a:Int)(x0:Nat×Memo (sfP p)×Memo (lfP p a))(x2:Nat×Memo (sfP p)×Memo (lfP p a))(x51:Nat×Memo (sfP p)×Memo (lfP p a))(x52:Nat×Memo (sfP p)×Memo (lfP p a)):List Value:=[slQ 24 1 (abls p a x0.1 x2.1++List.filter (jld p a x0) (preL p (bsC p a x0.1) (bsT p a x0.1+(jl5 p a x2)) x51.1++lgTo p ((jl6 p a x0).getD x51.1 0) (bsT p a x0.1+(jl5 p a x2)) x52.1)).length]
abbrev jl4(p:Pl)(a:Int)(x0:Nat×Memo (sfP p)×Memo (lfP p a)):Prop:=eR (pt 13)/\eR (.slice none 0 0)/\eR (pt 10)/\eR (pt 9)/\wR (slQ 14 1 (bsL p a x0.1).length)/\eR (nI (bsT p a x0.1))/\eR (nI (bsC p a x0.1))/\eR (pt 15)/\eR (pt 16)/\True
abbrev jll(p:Pl)(a:Int)(x0:Nat×Memo (sfP p)×Memo (lfP p a))(x2:Nat×Memo (sfP p)×Memo (lfP p a)):Prop:=(lrecOk prog 32 0/\eR (nI (bsT p a x0.1+(jl5 p a x2)))/\jl4 p a x0)/\True
abbrev jl2(p:Pl)(a:Int)(x51:Nat×Memo (sfP p)×Memo (lfP p a))(x0:Nat×Memo (sfP p)×Memo (lfP p a))(r53:Memo (sfP p))(x52:Nat×Memo (sfP p)×Memo (lfP p a))(x2:Nat×Memo (sfP p)×Memo (lfP p a)):=nw (((x51.1:Nat):Int)+1) (∃x51':Nat×Memo (sfP p)×Memo (lfP p a),(x51'.1<=List.length (jl6 p a x0))/\(List.length (jl6 p a x0)-x51'.1)<(List.length (jl6 p a x0)-x51.1)/\true=true/\((nI (((x51.1:Nat):Int)+1):Value)=nI ((x51'.1:Nat):Int)/\jl15 p a x0)/\((kbq 23 (.map (knE r53.1)) (.map (knE x51'.2.1.1)))/\(kbq 23 (.map (knE x52.2.2.1)) (.map (knE x51'.2.2.1)))/\wkO (.cells true 0 (jlq p a x0 x2 x51 x52):KObj) (rno (sg 23 [(23,24)]) 3 (.cells true 0 [slQ 23 1 (abls p a x0.1 x2.1++List.filter (jld p a x0) (preL p (bsC p a x0.1) (bsT p a x0.1+(jl5 p a x2)) x51'.1)).length]:KObj))/\True/\True)/\((kbq 23 (.cells true 4 ((abls p a x0.1 x2.1++List.filter (jld p a x0) (preL p (bsC p a x0.1) (bsT p a x0.1+(jl5 p a x2)) x51.1++lgTo p ((jl6 p a x0).getD x51.1 0) (bsT p a x0.1+(jl5 p a x2)) x52.1)).flatMap lgC)) (.cells true 4 ((abls p a x0.1 x2.1++List.filter (jld p a x0) (preL p (bsC p a x0.1) (bsT p a x0.1+(jl5 p a x2)) x51'.1)).flatMap lgC)))/\True)/\(jll p a x0 x2))
abbrev jl3:List Value:=[nI 4000,nI 8000,nI 14000,nI 24000,nI 40000,nI 90000]
abbrev jlr:=someR (.cells false 0 jl3)
abbrev jl0(p:Pl):List Value:=[nI p.w,nI p.h,slQ 1 2 p.land.length,slQ 2 2 p.cts.length,slQ 3 2 p.chan.length,nI p.shp.cls,nI p.shp.pow,nI p.shp.dra,nI p.shp.ton,slQ 4 2 p.shp.th.length,slQ 5 2 p.shp.wa.length,slQ 6 2 p.shp.ic.length,nI p.shp.slow,nI p.shp.brash,nI p.shp.rdg,nI p.shp.prs,nI p.size,nI p.frm,nI p.to,nI (endP p),.map (some 8)]
abbrev jlv(p:Pl):=someR (.cells true 0 (jl0 p))
abbrev jlg(p:Pl):=p.land.flatMap boolC
abbrev jl1d(p:Pl):=someR (.cells true 1 (jlg p))
abbrev jlx(p:Pl):=someR (.cells false 0 (p.cts.flatMap chC))
abbrev jlh(p:Pl):=p.chan.flatMap boolC
abbrev jl1e(p:Pl):=someR (.cells true 1 (jlh p))
abbrev jli(p:Pl):=p.shp.th.flatMap ptC
abbrev jl1f(p:Pl):=someR (.cells true 2 (jli p))
abbrev jlj(p:Pl):=p.shp.wa.flatMap ptC
abbrev jl1g(p:Pl):=someR (.cells true 2 (jlj p))
abbrev jlk(p:Pl):=p.shp.ic.flatMap ptC
abbrev jl1h(p:Pl):=someR (.cells true 2 (jlk p))
abbrev jlb(p:Pl)(r53:Memo (sfP p)):Prop:=(jl1d p)/\(jlx p)/\(jl1e p)/\(jl1f p)/\(jl1g p)/\(jl1h p)/\(someR (.map (knE r53.1)))/\True
abbrev jls:KObj:=.cells false 0 jl3
abbrev jlw(p:Pl):KObj:=.cells true 0 (jl0 p)
abbrev jl1j(p:Pl):KObj:=.cells true 1 (jlg p)
abbrev jly(p:Pl):KObj:=.cells false 0 (p.cts.flatMap chC)
abbrev jl1k(p:Pl):KObj:=.cells true 1 (jlh p)
abbrev jl1l(p:Pl):KObj:=.cells true 2 (jli p)
abbrev jl1m(p:Pl):KObj:=.cells true 2 (jlj p)
abbrev jl1n(p:Pl):KObj:=.cells true 2 (jlk p)
abbrev jl7(H':Heap)(p:Pl)(r53:Memo (sfP p)):Prop:=H'[1]?=some (jl1j p)/\H'[2]?=some (jly p)/\H'[3]?=some (jl1k p)/\H'[4]?=some (jl1l p)/\H'[5]?=some (jl1m p)/\H'[6]?=some (jl1n p)/\H'[8]?=some (.map (knE r53.1):KObj)/\True
abbrev jlu(p:Pl)(a:Int)(x52:Nat×Memo (sfP p)×Memo (lfP p a)):Int:=(x52.1:Nat)
abbrev jl1c(p:Pl)(a:Int)(x0:Nat×Memo (sfP p)×Memo (lfP p a)):=lfP p a (bsC p a x0.1) (bsT p a x0.1)
abbrev jl17:=someR (.cells true 0 [.func (.func 70) #[] #[pt 10,pt 9,pt 12,pt 13]])
abbrev jl18:KObj:=.cells true 0 [.func (.func 70) #[] #[pt 10,pt 9,pt 12,pt 13]]
abbrev jlm(p:Pl)(a:Int)(x0:Nat×Memo (sfP p)×Memo (lfP p a))(x51:Nat×Memo (sfP p)×Memo (lfP p a))(x2:Nat×Memo (sfP p)×Memo (lfP p a))(x52:Nat×Memo (sfP p)×Memo (lfP p a)):=lowP p ((jl6 p a x0).getD x51.1 0) (bsT p a x0.1+(jl5 p a x2)) (x52.1+1)
abbrev jla(p:Pl)(a:Int)(x0:Nat×Memo (sfP p)×Memo (lfP p a))(x51:Nat×Memo (sfP p)×Memo (lfP p a)):Prop:=eR (nI (((jl6 p a x0).length:Nat):Int))/\wR (slQ 22 1 (jl6 p a x0).length)/\eR (.func (.yield 21) #[] #[])/\eR (pt 18)/\eR (pt 20)/\eR (nI ((x51.1:Nat):Int))/\eR (nI ((jl6 p a x0).getD x51.1 0))/\True
abbrev jl1(p:Pl)(a:Int)(x0:Nat×Memo (sfP p)×Memo (lfP p a))(x2:Nat×Memo (sfP p)×Memo (lfP p a))(x52:Nat×Memo (sfP p)×Memo (lfP p a))(x51:Nat×Memo (sfP p)×Memo (lfP p a))(r53:Memo (sfP p)):=nw (((bsT p a x0.1+(jl5 p a x2))+1+(jlu p a x52))+1) (∃x52':Nat×Memo (sfP p)×Memo (lfP p a),((x52'.1<=Int.toNat (endP p-(bsT p a x0.1+(jl5 p a x2)))/\okL p ((jl6 p a x0).getD x51.1 0) (bsT p a x0.1+(jl5 p a x2)) x52'.1=true))/\(Int.toNat (endP p-(bsT p a x0.1+(jl5 p a x2)))-x52'.1)<(Int.toNat (endP p-(bsT p a x0.1+(jl5 p a x2)))-x52.1)/\true=true/\((nI (((bsT p a x0.1+(jl5 p a x2))+1+(jlu p a x52))+1):Value)=nI ((bsT p a x0.1+(jl5 p a x2))+1+((x52'.1:Nat):Int))/\(nI (jlm p a x0 x51 x2 x52):Value)=nI (lowP p ((jl6 p a x0).getD x51.1 0) (bsT p a x0.1+(jl5 p a x2)) x52'.1)/\jla p a x0 x51)/\((kbq 24 (.map (knE r53.1)) (.map (knE x52'.2.1.1)))/\(kbq 24 (.map (knE x52.2.2.1)) (.map (knE x52'.2.2.1)))/\wkO (.cells true 0 (jlq p a x0 x2 x51 x52):KObj) (rno (sg 24 [(24,24)]) 3 (.cells true 0 [slQ 24 1 (abls p a x0.1 x2.1++List.filter (jld p a x0) (preL p (bsC p a x0.1) (bsT p a x0.1+(jl5 p a x2)) x51.1++lgTo p ((jl6 p a x0).getD x51.1 0) (bsT p a x0.1+(jl5 p a x2)) x52'.1)).length]:KObj))/\True/\True)/\((kbq 24 (.cells true 4 ((abls p a x0.1 x2.1++List.filter (jld p a x0) (preL p (bsC p a x0.1) (bsT p a x0.1+(jl5 p a x2)) x51.1++lgTo p ((jl6 p a x0).getD x51.1 0) (bsT p a x0.1+(jl5 p a x2)) x52.1)).flatMap lgC)) (.cells true 4 ((abls p a x0.1 x2.1++List.filter (jld p a x0) (preL p (bsC p a x0.1) (bsT p a x0.1+(jl5 p a x2)) x51.1++lgTo p ((jl6 p a x0).getD x51.1 0) (bsT p a x0.1+(jl5 p a x2)) x52'.1)).flatMap lgC)))/\True)/\(jll p a x0 x2))
def RbestU(p:Pl)(a:Int)(x0 x2 x51 x52:Nat×Memo (sfP p)×Memo (lfP p a))(r53:Memo (sfP p)):Prop :=
 (fk (decide (((jl9 p a x0 x51 x2 x52):Int)<10)) (jl2 p a x51 x0 r53 x52 x2) ((jlr/\(jlv p)/\jlb p r53)/\(∀H':Heap,H'.length=25->(H'[0]?=some jls/\H'[7]?=some (jlw p)/\jl7 H' p r53)->KCall prog 86 [pt 7,nI (jl9 p a x0 x51 x2 x52)] H' [] (Is (nI (tkP p (jl9 p a x0 x51 x2 x52))) H'))/\(fk (((tkP p (jl9 p a x0 x51 x2 x52)):Int) == (((x52.1+1):Nat):Int)) (fk (decide ((((bsT p a x0.1+(jl5 p a x2))+1+(jlu p a x52)):Int)<=a)) (nw ((jl1c p a x0)-1) ((jlr/\(someR (.cells true 0 [nI a]))/\(someR (.cells true 0 [pt 7]))/\(someR (.cells true 0 [.map (some 11)]))/\jl17/\(jlv p)/\(someR (.map (knE x52.2.2.1)))/\jlb p r53)/\(∀H':Heap,H'.length=26->(H'[0]?=some jls/\H'[10]?=some (.cells true 0 [nI a]:KObj)/\H'[9]?=some (.cells true 0 [pt 7]:KObj)/\H'[12]?=some (.cells true 0 [.map (some 11)]:KObj)/\H'[13]?=some jl18/\H'[7]?=some (jlw p)/\H'[11]?=some (.map (knE x52.2.2.1):KObj)/\jl7 H' p r53)->KCall prog 70 [nI ((jl6 p a x0).getD x51.1 0),nI ((bsT p a x0.1+(jl5 p a x2))+1+(jlu p a x52)),pt 10,pt 9,pt 12,pt 13] H' [8,11] (fun y H2 => ∃z:Memo (sfP p)×Memo (lfP p a),True/\y=nI (lfP p a ((jl6 p a x0).getD x51.1 0) ((bsT p a x0.1+(jl5 p a x2))+1+(jlu p a x52)))/\H2=(List.set (List.set H' 8 (.map (knE z.1.1):KObj)) 11 (.map (knE z.2.1):KObj))))/\(∀r51:Memo (sfP p)×Memo (lfP p a),True->(fk (((lfP p a ((jl6 p a x0).getD x51.1 0) ((bsT p a x0.1+(jl5 p a x2))+1+(jlu p a x52))):Int) == ((jl1c p a x0)-1)) (apq (abls p a x0.1 x2.1++List.filter (jld p a x0) (preL p (bsC p a x0.1) (bsT p a x0.1+(jl5 p a x2)) x51.1++lgTo p ((jl6 p a x0).getD x51.1 0) (bsT p a x0.1+(jl5 p a x2)) x52.1)).length 32 4 ((abls p a x0.1 x2.1++List.filter (jld p a x0) (preL p (bsC p a x0.1) (bsT p a x0.1+(jl5 p a x2)) x51.1++lgTo p ((jl6 p a x0).getD x51.1 0) (bsT p a x0.1+(jl5 p a x2)) x52.1)).flatMap lgC) [nI ((jl6 p a x0).getD x51.1 0),nI (bsT p a x0.1+(jl5 p a x2)),nI (jl9 p a x0 x51 x2 x52),nI ((bsT p a x0.1+(jl5 p a x2))+1+(jlu p a x52))] (nw (((bsT p a x0.1+(jl5 p a x2))+1+(jlu p a x52))+1) (∃x52':Nat×Memo (sfP p)×Memo (lfP p a),((x52'.1<=Int.toNat (endP p-(bsT p a x0.1+(jl5 p a x2)))/\okL p ((jl6 p a x0).getD x51.1 0) (bsT p a x0.1+(jl5 p a x2)) x52'.1=true))/\(Int.toNat (endP p-(bsT p a x0.1+(jl5 p a x2)))-x52'.1)<(Int.toNat (endP p-(bsT p a x0.1+(jl5 p a x2)))-x52.1)/\true=true/\((nI (((bsT p a x0.1+(jl5 p a x2))+1+(jlu p a x52))+1):Value)=nI ((bsT p a x0.1+(jl5 p a x2))+1+((x52'.1:Nat):Int))/\(nI (jlm p a x0 x51 x2 x52):Value)=nI (lowP p ((jl6 p a x0).getD x51.1 0) (bsT p a x0.1+(jl5 p a x2)) x52'.1)/\jla p a x0 x51)/\((kbq 24 (.map (knE r51.1.1)) (.map (knE x52'.2.1.1)))/\(kbq 24 (.map (knE r51.2.1)) (.map (knE x52'.2.2.1)))/\wkO (.cells true 0 [slN 27 ((abls p a x0.1 x2.1++List.filter (jld p a x0) (preL p (bsC p a x0.1) (bsT p a x0.1+(jl5 p a x2)) x51.1++lgTo p ((jl6 p a x0).getD x51.1 0) (bsT p a x0.1+(jl5 p a x2)) x52.1)).length+1)]:KObj) (rno (sg 24 [(24,27)]) 3 (.cells true 0 [slQ 24 1 (abls p a x0.1 x2.1++List.filter (jld p a x0) (preL p (bsC p a x0.1) (bsT p a x0.1+(jl5 p a x2)) x51.1++lgTo p ((jl6 p a x0).getD x51.1 0) (bsT p a x0.1+(jl5 p a x2)) x52'.1)).length]:KObj))/\True/\True)/\((kbq 24 (.cells true 4 (((((abls p a x0.1 x2.1++List.filter (jld p a x0) (preL p (bsC p a x0.1) (bsT p a x0.1+(jl5 p a x2)) x51.1++lgTo p ((jl6 p a x0).getD x51.1 0) (bsT p a x0.1+(jl5 p a x2)) x52.1)).flatMap lgC).drop 0).take ((abls p a x0.1 x2.1++List.filter (jld p a x0) (preL p (bsC p a x0.1) (bsT p a x0.1+(jl5 p a x2)) x51.1++lgTo p ((jl6 p a x0).getD x51.1 0) (bsT p a x0.1+(jl5 p a x2)) x52.1)).length*4))++((([nI ((jl6 p a x0).getD x51.1 0),nI (bsT p a x0.1+(jl5 p a x2)),nI (jl9 p a x0 x51 x2 x52),nI ((bsT p a x0.1+(jl5 p a x2))+1+(jlu p a x52))]:List Value).drop 0).take (1*4)))) (.cells true 4 ((abls p a x0.1 x2.1++List.filter (jld p a x0) (preL p (bsC p a x0.1) (bsT p a x0.1+(jl5 p a x2)) x51.1++lgTo p ((jl6 p a x0).getD x51.1 0) (bsT p a x0.1+(jl5 p a x2)) x52'.1)).flatMap lgC)))/\True)/\(jll p a x0 x2)))) (nw (((bsT p a x0.1+(jl5 p a x2))+1+(jlu p a x52))+1) (∃x52':Nat×Memo (sfP p)×Memo (lfP p a),((x52'.1<=Int.toNat (endP p-(bsT p a x0.1+(jl5 p a x2)))/\okL p ((jl6 p a x0).getD x51.1 0) (bsT p a x0.1+(jl5 p a x2)) x52'.1=true))/\(Int.toNat (endP p-(bsT p a x0.1+(jl5 p a x2)))-x52'.1)<(Int.toNat (endP p-(bsT p a x0.1+(jl5 p a x2)))-x52.1)/\true=true/\((nI (((bsT p a x0.1+(jl5 p a x2))+1+(jlu p a x52))+1):Value)=nI ((bsT p a x0.1+(jl5 p a x2))+1+((x52'.1:Nat):Int))/\(nI (jlm p a x0 x51 x2 x52):Value)=nI (lowP p ((jl6 p a x0).getD x51.1 0) (bsT p a x0.1+(jl5 p a x2)) x52'.1)/\jla p a x0 x51)/\((kbq 24 (.map (knE r51.1.1)) (.map (knE x52'.2.1.1)))/\(kbq 24 (.map (knE r51.2.1)) (.map (knE x52'.2.2.1)))/\wkO (.cells true 0 (jlq p a x0 x2 x51 x52):KObj) (rno (sg 24 [(24,24)]) 3 (.cells true 0 [slQ 24 1 (abls p a x0.1 x2.1++List.filter (jld p a x0) (preL p (bsC p a x0.1) (bsT p a x0.1+(jl5 p a x2)) x51.1++lgTo p ((jl6 p a x0).getD x51.1 0) (bsT p a x0.1+(jl5 p a x2)) x52'.1)).length]:KObj))/\True/\True)/\((kbq 24 (.cells true 4 ((abls p a x0.1 x2.1++List.filter (jld p a x0) (preL p (bsC p a x0.1) (bsT p a x0.1+(jl5 p a x2)) x51.1++lgTo p ((jl6 p a x0).getD x51.1 0) (bsT p a x0.1+(jl5 p a x2)) x52.1)).flatMap lgC)) (.cells true 4 ((abls p a x0.1 x2.1++List.filter (jld p a x0) (preL p (bsC p a x0.1) (bsT p a x0.1+(jl5 p a x2)) x51.1++lgTo p ((jl6 p a x0).getD x51.1 0) (bsT p a x0.1+(jl5 p a x2)) x52'.1)).flatMap lgC)))/\True)/\(jll p a x0 x2))))))) (jl1 p a x0 x2 x52 x51 r53)) (jl1 p a x0 x2 x52 x51 r53))))
abbrev jl19:Prop:=eR (pt 9)/\eR (pt 10)/\eR (.slice none 0 0)/\eR (pt 13)/\True
def RbestX(p:Pl)(a:Int)(x0:Nat×Memo (sfP p)×Memo (lfP p a))(Kx:Memo (sfP p))(Lx:Memo (lfP p a)):Prop :=
 (c2q 18 0 (.cells false 0 jl3) 17 (.cells true 4 ((ablK p a x0.1).flatMap lgC)) 71 [slQ 17 1 (ablK p a x0.1).length,.func (.func 72) #[] #[]] (.agg #[nI (firL (ablK p a x0.1)).to,nI (firL (ablK p a x0.1)).dep,nI (firL (ablK p a x0.1)).spd,nI (firL (ablK p a x0.1)).arr]) (((.agg #[nI (firL (ablK p a x0.1)).to,nI (firL (ablK p a x0.1)).dep,nI (firL (ablK p a x0.1)).spd,nI (firL (ablK p a x0.1)).arr]:Value) = .agg #[nI (nxL p a x0.1).to,nI (nxL p a x0.1).dep,nI (nxL p a x0.1).spd,nI (nxL p a x0.1).arr])/\(apq (bsL p a x0.1).length 32 4 ((bsL p a x0.1).flatMap lgC) [nI (nxL p a x0.1).to,nI (nxL p a x0.1).dep,nI (nxL p a x0.1).spd,nI (nxL p a x0.1).arr] (∃x0':Nat×Memo (sfP p)×Memo (lfP p a),(x0'.1<=Int.toNat (lfP p a p.frm 0))/\(Int.toNat (lfP p a p.frm 0)-x0'.1)<(Int.toNat (lfP p a p.frm 0)-x0.1)/\true=true/\((nI (nxL p a x0.1).to:Value)=nI (bsC p a x0'.1)/\(nI (nxL p a x0.1).arr:Value)=nI (bsT p a x0'.1)/\wk (slN 20 ((bsL p a x0.1).length+1):Value) (slQ 20 1 (bsL p a x0'.1).length:Value)/\jl19)/\((kbq 14 (.map (knE Kx.1)) (.map (knE x0'.2.1.1)))/\(kbq 14 (.map (knE Lx.1)) (.map (knE x0'.2.2.1)))/\True)/\((kbq 14 (.cells true 4 (((((bsL p a x0.1).flatMap lgC).drop 0).take ((bsL p a x0.1).length*4))++((([nI (nxL p a x0.1).to,nI (nxL p a x0.1).dep,nI (nxL p a x0.1).spd,nI (nxL p a x0.1).arr]:List Value).drop 0).take (1*4)))) (.cells true 4 ((bsL p a x0'.1).flatMap lgC)))/\True)/\(True)))))
abbrev jlo(p:Pl)(Kx:Memo (sfP p))(a:Int)(Lx:Memo (lfP p a)):Nat×Memo (sfP p)×Memo (lfP p a):=(0,Kx,Lx)
abbrev jl8(p:Pl)(a:Int)(x51:Nat×Memo (sfP p)×Memo (lfP p a)):Nat×Memo (sfP p)×Memo (lfP p a):=(0,x51.2.1,x51.2.2)
abbrev jl16(p:Pl)(a:Int)(x52:Nat×Memo (sfP p)×Memo (lfP p a)):=Int.tdiv ((6*p.size)-1) ((((x52.1+1):Nat):Int)-1)
def RbestV(p:Pl)(a:Int)(x0 x2:Nat×Memo (sfP p)×Memo (lfP p a))(Kx:Memo (sfP p))(Lx:Memo (lfP p a)):Prop :=
 ((jlr/\(jlv p)/\(jl1d p)/\(jlx p)/\(jl1e p)/\(jl1f p)/\(jl1g p)/\(jl1h p)/\(someR (.map (knE Kx.1)))/\True)/\(∀H':Heap,H'.length=22->(H'[0]?=some jls/\H'[7]?=some (jlw p)/\H'[1]?=some (jl1j p)/\H'[2]?=some (jly p)/\H'[3]?=some (jl1k p)/\H'[4]?=some (jl1l p)/\H'[5]?=some (jl1m p)/\H'[6]?=some (jl1n p)/\H'[8]?=some (.map (knE Kx.1):KObj)/\True)->KCall prog 53 [pt 7,nI (bsC p a x0.1)] H' [] (Is (slQ 22 1 (jl6 p a x0).length) (H' ++ [(.cells true 1 ((jl6 p a x0).flatMap intC):KObj)])))/\(true=true/\((jlo p Kx a Lx).1<=List.length (jl6 p a x0))/\(true=true/\((nI 0:Value)=nI (((jlo p Kx a Lx).1:Nat):Int)/\jl15 p a x0)/\((kbq 23 (.map (knE Kx.1)) (.map (knE (jlo p Kx a Lx).2.1.1)))/\(kbq 23 (.map (knE Lx.1)) (.map (knE (jlo p Kx a Lx).2.2.1)))/\wkO (.cells true 0 [slQ 17 1 (abls p a x0.1 x2.1).length]:KObj) (rno (sg 23 [(23,17)]) 3 (.cells true 0 [slQ 23 1 (abls p a x0.1 x2.1++List.filter (jld p a x0) (preL p (bsC p a x0.1) (bsT p a x0.1+(jl5 p a x2)) (jlo p Kx a Lx).1)).length]:KObj))/\True/\True)/\((kbq 23 (.cells true 4 ((abls p a x0.1 x2.1).flatMap lgC)) (.cells true 4 ((abls p a x0.1 x2.1++List.filter (jld p a x0) (preL p (bsC p a x0.1) (bsT p a x0.1+(jl5 p a x2)) (jlo p Kx a Lx).1)).flatMap lgC)))/\True)/\(jll p a x0 x2))/\(∀x51:Nat×Memo (sfP p)×Memo (lfP p a),true=true)/\∀x51:Nat×Memo (sfP p)×Memo (lfP p a),(x51.1<=List.length (jl6 p a x0))->(fk (decide ((((x51.1:Nat):Int):Int)<(((jl6 p a x0).length:Nat):Int))) ((ixq ((x51.1:Nat):Int) (jl6 p a x0).length)/\((((jl6 p a x0).flatMap intC)[(0+Int.toNat ((x51.1:Nat):Int)*1)]?=some (nI ((jl6 p a x0).getD x51.1 0)))/\(nw ((bsT p a x0.1+(jl5 p a x2))+1) (true=true/\(((jl8 p a x51).1<=Int.toNat (endP p-(bsT p a x0.1+(jl5 p a x2)))/\okL p ((jl6 p a x0).getD x51.1 0) (bsT p a x0.1+(jl5 p a x2)) (jl8 p a x51).1=true))/\(true=true/\((nI ((bsT p a x0.1+(jl5 p a x2))+1):Value)=nI ((bsT p a x0.1+(jl5 p a x2))+1+(((jl8 p a x51).1:Nat):Int))/\(nI 250:Value)=nI (lowP p ((jl6 p a x0).getD x51.1 0) (bsT p a x0.1+(jl5 p a x2)) (jl8 p a x51).1)/\jla p a x0 x51)/\((kbq 24 (.map (knE x51.2.1.1)) (.map (knE (jl8 p a x51).2.1.1)))/\(kbq 24 (.map (knE x51.2.2.1)) (.map (knE (jl8 p a x51).2.2.1)))/\wkO (.cells true 0 [slQ 23 1 (abls p a x0.1 x2.1++List.filter (jld p a x0) (preL p (bsC p a x0.1) (bsT p a x0.1+(jl5 p a x2)) x51.1)).length]:KObj) (rno (sg 24 [(24,23)]) 3 (.cells true 0 [slQ 24 1 (abls p a x0.1 x2.1++List.filter (jld p a x0) (preL p (bsC p a x0.1) (bsT p a x0.1+(jl5 p a x2)) x51.1++lgTo p ((jl6 p a x0).getD x51.1 0) (bsT p a x0.1+(jl5 p a x2)) (jl8 p a x51).1)).length]:KObj))/\True/\True)/\((kbq 24 (.cells true 4 ((abls p a x0.1 x2.1++List.filter (jld p a x0) (preL p (bsC p a x0.1) (bsT p a x0.1+(jl5 p a x2)) x51.1)).flatMap lgC)) (.cells true 4 ((abls p a x0.1 x2.1++List.filter (jld p a x0) (preL p (bsC p a x0.1) (bsT p a x0.1+(jl5 p a x2)) x51.1++lgTo p ((jl6 p a x0).getD x51.1 0) (bsT p a x0.1+(jl5 p a x2)) (jl8 p a x51).1)).flatMap lgC)))/\True)/\(jll p a x0 x2))/\(∀x52:Nat×Memo (sfP p)×Memo (lfP p a),true=true)/\∀x52:Nat×Memo (sfP p)×Memo (lfP p a),((x52.1<=Int.toNat (endP p-(bsT p a x0.1+(jl5 p a x2)))/\okL p ((jl6 p a x0).getD x51.1 0) (bsT p a x0.1+(jl5 p a x2)) x52.1=true))->(fk (decide ((((bsT p a x0.1+(jl5 p a x2))+1+(jlu p a x52)):Int)<=(endP p))) (nw (((bsT p a x0.1+(jl5 p a x2))+1+(jlu p a x52))-1) ((jlr/\(jlv p)/\(jl1d p)/\(jlx p)/\(jl1e p)/\(jl1f p)/\(jl1g p)/\(jl1h p)/\(someR (.map (knE x52.2.1.1)))/\True)/\(∀H':Heap,H'.length=25->(H'[0]?=some jls/\H'[7]?=some (jlw p)/\H'[1]?=some (jl1j p)/\H'[2]?=some (jly p)/\H'[3]?=some (jl1k p)/\H'[4]?=some (jl1l p)/\H'[5]?=some (jl1m p)/\H'[6]?=some (jl1n p)/\H'[8]?=some (.map (knE x52.2.1.1):KObj)/\True)->KCall prog 85 [pt 7,nI ((jl6 p a x0).getD x51.1 0),nI (((bsT p a x0.1+(jl5 p a x2))+1+(jlu p a x52))-1)] H' [8] (fun y H2 => ∃z1_:Memo (sfP p),True/\y=nI (sfP p ((jl6 p a x0).getD x51.1 0) (Int.tdiv (((bsT p a x0.1+(jl5 p a x2))+1+(jlu p a x52))-1) 6))/\H2=(List.set H' 8 (.map (knE z1_.1):KObj))))/\(∀r53:Memo (sfP p),True->(((nI (if ((sfP p ((jl6 p a x0).getD x51.1 0) (Int.tdiv (((bsT p a x0.1+(jl5 p a x2))+1+(jlu p a x52))-1) 6)):Int)<(lowP p ((jl6 p a x0).getD x51.1 0) (bsT p a x0.1+(jl5 p a x2)) x52.1) then ((sfP p ((jl6 p a x0).getD x51.1 0) (Int.tdiv (((bsT p a x0.1+(jl5 p a x2))+1+(jlu p a x52))-1) 6)):Int) else (lowP p ((jl6 p a x0).getD x51.1 0) (bsT p a x0.1+(jl5 p a x2)) x52.1)):Value)=nI (jlm p a x0 x51 x2 x52))/\(fk (decide (((jlm p a x0 x51 x2 x52):Int)<10)) (jl2 p a x51 x0 r53 x52 x2) (nw (((bsT p a x0.1+(jl5 p a x2))+1+(jlu p a x52))-(bsT p a x0.1+(jl5 p a x2))) (((nI (((bsT p a x0.1+(jl5 p a x2))+1+(jlu p a x52))-(bsT p a x0.1+(jl5 p a x2))):Value)=nI (((x52.1+1):Nat):Int))/\(fk (decide ((1:Int)<(((x52.1+1):Nat):Int))) (nw (6*p.size) (nw ((6*p.size)-1) (nw ((((x52.1+1):Nat):Int)-1) (((((((x52.1+1):Nat):Int)-1):Int)≠0)/\(nw (jl16 p a x52) (((nI (if ((jl16 p a x52):Int)<(jlm p a x0 x51 x2 x52) then ((jl16 p a x52):Int) else (jlm p a x0 x51 x2 x52)):Value)=nI (jl9 p a x0 x51 x2 x52))/\(RbestU p a x0 x2 x51 x52 r53))))))) (((nI (jlm p a x0 x51 x2 x52):Value)=nI (jl9 p a x0 x51 x2 x52))/\(RbestU p a x0 x2 x51 x52 r53)))))))))) (nw (((x51.1:Nat):Int)+1) (∃x51':Nat×Memo (sfP p)×Memo (lfP p a),(x51'.1<=List.length (jl6 p a x0))/\(List.length (jl6 p a x0)-x51'.1)<(List.length (jl6 p a x0)-x51.1)/\true=true/\((nI (((x51.1:Nat):Int)+1):Value)=nI ((x51'.1:Nat):Int)/\jl15 p a x0)/\((kbq 23 (.map (knE x52.2.1.1)) (.map (knE x51'.2.1.1)))/\(kbq 23 (.map (knE x52.2.2.1)) (.map (knE x51'.2.2.1)))/\wkO (.cells true 0 (jlq p a x0 x2 x51 x52):KObj) (rno (sg 23 [(23,24)]) 3 (.cells true 0 [slQ 23 1 (abls p a x0.1 x2.1++List.filter (jld p a x0) (preL p (bsC p a x0.1) (bsT p a x0.1+(jl5 p a x2)) x51'.1)).length]:KObj))/\True/\True)/\((kbq 23 (.cells true 4 ((abls p a x0.1 x2.1++List.filter (jld p a x0) (preL p (bsC p a x0.1) (bsT p a x0.1+(jl5 p a x2)) x51.1++lgTo p ((jl6 p a x0).getD x51.1 0) (bsT p a x0.1+(jl5 p a x2)) x52.1)).flatMap lgC)) (.cells true 4 ((abls p a x0.1 x2.1++List.filter (jld p a x0) (preL p (bsC p a x0.1) (bsT p a x0.1+(jl5 p a x2)) x51'.1)).flatMap lgC)))/\True)/\(jll p a x0 x2)))))))) (nw ((bsT p a x0.1+(jl5 p a x2))+1) (∃x2':Nat×Memo (sfP p)×Memo (lfP p a),(x2'.1<=Int.toNat (a-bsT p a x0.1))/\(Int.toNat (a-bsT p a x0.1)-x2'.1)<(Int.toNat (a-bsT p a x0.1)-x2.1)/\true=true/\((nI ((bsT p a x0.1+(jl5 p a x2))+1):Value)=nI (bsT p a x0.1+((x2'.1:Nat):Int))/\jl4 p a x0)/\((kbq 17 (.map (knE x51.2.1.1)) (.map (knE x2'.2.1.1)))/\(kbq 17 (.map (knE x51.2.2.1)) (.map (knE x2'.2.2.1)))/\wkO (.cells true 0 [slQ 23 1 (abls p a x0.1 x2.1++List.filter (jld p a x0) (preL p (bsC p a x0.1) (bsT p a x0.1+(jl5 p a x2)) x51.1)).length]:KObj) (rno (sg 17 [(17,23)]) 3 (.cells true 0 [slQ 17 1 (abls p a x0.1 x2'.1).length]:KObj))/\True)/\((kbq 17 (.cells true 4 ((abls p a x0.1 x2.1++List.filter (jld p a x0) (preL p (bsC p a x0.1) (bsT p a x0.1+(jl5 p a x2)) x51.1)).flatMap lgC)) (.cells true 4 ((abls p a x0.1 x2'.1).flatMap lgC)))/\True)/\(True))))))
abbrev jlc(p:Pl)(K0:Memo (sfP p))(a:Int):Nat×Memo (sfP p)×Memo (lfP p a):=(0,K0,Memo.nil (lfP p a))
abbrev jln(p:Pl)(a:Int)(r1:Memo (sfP p)×Memo (lfP p a)):Nat×Memo (sfP p)×Memo (lfP p a):=(0,r1.1,r1.2)
abbrev jl1i(p:Pl)(a:Int)(x51:Nat×Memo (sfP p)×Memo (lfP p a)):Hint:=.go 0 (.slot 73 (nI (((x51.1:Nat):Int)+1)) (.go 0 (.again [(23,24)])))
abbrev jlt:Nat×KObj:=(0,.cells false 0 jl3)
abbrev jlz(p:Pl):Nat×KObj:=(7,.cells true 0 (jl0 p))
abbrev jl10(p:Pl):Nat×KObj:=(1,.cells true 1 (jlg p))
abbrev jlp(p:Pl):Nat×KObj:=(2,.cells false 0 (p.cts.flatMap chC))
abbrev jl11(p:Pl):Nat×KObj:=(3,.cells true 1 (jlh p))
abbrev jl12(p:Pl):Nat×KObj:=(4,.cells true 2 (jli p))
abbrev jl13(p:Pl):Nat×KObj:=(5,.cells true 2 (jlj p))
abbrev jl14(p:Pl):Nat×KObj:=(6,.cells true 2 (jlk p))
abbrev jl1a:Nat×KObj:=(13,.cells true 0 [.func (.func 70) #[] #[pt 10,pt 9,pt 12,pt 13]])
abbrev jl1b(p:Pl)(a:Int):=Nat×Memo (sfP p)×Memo (lfP p a)
abbrev jle(p:Pl)(a:Int)(x0:Nat×Memo (sfP p)×Memo (lfP p a))(x2:Nat×Memo (sfP p)×Memo (lfP p a)):List (Nat×Value):=[(12,nI (bsT p a x0.1+(jl5 p a x2))),(6,pt 13),(4,.slice none 0 0),(3,pt 10),(2,pt 9),(7,slQ 14 1 (bsL p a x0.1).length),(9,nI (bsT p a x0.1)),(8,nI (bsC p a x0.1)),(10,pt 15),(11,pt 16)]
def Rbest(p:Pl)(a:Int)(K0:Memo (sfP p)):Prop :=
 (true=true/\((jlc p K0 a).1<=Int.toNat (lfP p a p.frm 0))/\(true=true/\((nI p.frm:Value)=nI (bsC p a (jlc p K0 a).1)/\(nI 0:Value)=nI (bsT p a (jlc p K0 a).1)/\wk (.slice none 0 0:Value) (slQ 0 1 (bsL p a (jlc p K0 a).1).length:Value)/\jl19)/\((kbq 14 (.map (knE K0.1)) (.map (knE (jlc p K0 a).2.1.1)))/\(kbq 14 (.map (knE [])) (.map (knE (jlc p K0 a).2.2.1)))/\True)/\(True/\True)/\(True))/\(∀x0:Nat×Memo (sfP p)×Memo (lfP p a),true=true)/\∀x0:Nat×Memo (sfP p)×Memo (lfP p a),(x0.1<=Int.toNat (lfP p a p.frm 0))->((jlr/\(someR (.cells true 0 [nI a]))/\(someR (.cells true 0 [pt 7]))/\(someR (.cells true 0 [.map (some 11)]))/\jl17/\(jlv p)/\(someR (.map (knE x0.2.2.1)))/\(jl1d p)/\(jlx p)/\(jl1e p)/\(jl1f p)/\(jl1g p)/\(jl1h p)/\(someR (.map (knE x0.2.1.1)))/\True)/\(∀H':Heap,H'.length=15->(H'[0]?=some jls/\H'[10]?=some (.cells true 0 [nI a]:KObj)/\H'[9]?=some (.cells true 0 [pt 7]:KObj)/\H'[12]?=some (.cells true 0 [.map (some 11)]:KObj)/\H'[13]?=some jl18/\H'[7]?=some (jlw p)/\H'[11]?=some (.map (knE x0.2.2.1):KObj)/\H'[1]?=some (jl1j p)/\H'[2]?=some (jly p)/\H'[3]?=some (jl1k p)/\H'[4]?=some (jl1l p)/\H'[5]?=some (jl1m p)/\H'[6]?=some (jl1n p)/\H'[8]?=some (.map (knE x0.2.1.1):KObj)/\True)->KCall prog 70 [nI (bsC p a x0.1),nI (bsT p a x0.1),pt 10,pt 9,pt 12,pt 13] H' [8,11] (fun y H2 => ∃z:Memo (sfP p)×Memo (lfP p a),True/\y=nI (jl1c p a x0)/\H2=(List.set (List.set H' 8 (.map (knE z.1.1):KObj)) 11 (.map (knE z.2.1):KObj))))/\(∀r1:Memo (sfP p)×Memo (lfP p a),True->(fk (((jl1c p a x0):Int) == 0) (∃x:Memo (sfP p),True/\(true=true/\wk (slQ 14 1 (bsL p a x0.1).length:Value) (rn (sg 9 [(9,14)]) 3 (slQ 9 1 (bestP p a).length:Value))/\((kbq 9 (.map (knE r1.1.1)) (.map (knE x.1)))/\True)/\((kbq 9 (.cells true 4 ((bsL p a x0.1).flatMap lgC)) (.cells true 4 ((bestP p a).flatMap lgC)))/\True))) (true=true/\((jln p a r1).1<=Int.toNat (a-bsT p a x0.1))/\(true=true/\((nI (bsT p a x0.1):Value)=nI (bsT p a x0.1+(((jln p a r1).1:Nat):Int))/\jl4 p a x0)/\((kbq 17 (.map (knE r1.1.1)) (.map (knE (jln p a r1).2.1.1)))/\(kbq 17 (.map (knE r1.2.1)) (.map (knE (jln p a r1).2.2.1)))/\wkO (.cells true 0 [.slice none 0 0]:KObj) (rno (sg 17 []) 3 (.cells true 0 [slQ 17 1 (abls p a x0.1 (jln p a r1).1).length]:KObj))/\True)/\(True/\True)/\(True))/\(∀x2:Nat×Memo (sfP p)×Memo (lfP p a),true=true)/\∀x2:Nat×Memo (sfP p)×Memo (lfP p a),(x2.1<=Int.toNat (a-bsT p a x0.1))->(fk (decide (((bsT p a x0.1+(jl5 p a x2)):Int)<a)) ((jlr/\(jlv p)/\(jl1d p)/\(jlx p)/\(jl1e p)/\(jl1f p)/\(jl1g p)/\(jl1h p)/\(someR (.map (knE x2.2.1.1)))/\True)/\(∀H':Heap,H'.length=18->(H'[0]?=some jls/\H'[7]?=some (jlw p)/\H'[1]?=some (jl1j p)/\H'[2]?=some (jly p)/\H'[3]?=some (jl1k p)/\H'[4]?=some (jl1l p)/\H'[5]?=some (jl1m p)/\H'[6]?=some (jl1n p)/\H'[8]?=some (.map (knE x2.2.1.1):KObj)/\True)->KCall prog 57 [pt 7,nI (bsC p a x0.1),nI (bsT p a x0.1),nI (bsT p a x0.1+(jl5 p a x2))] H' [8] (fun y H2 => ∃z:Memo (sfP p),True/\y = .bool (wtB p (bsC p a x0.1) (bsT p a x0.1) (bsT p a x0.1+(jl5 p a x2)))/\H2=(List.set H' 8 (.map (knE z.1):KObj))))/\(∀r3:Memo (sfP p),True->(fk (wtB p (bsC p a x0.1) (bsT p a x0.1) (bsT p a x0.1+(jl5 p a x2))) (RbestV p a x0 x2 r3 x2.2.2) ((some (.cells true 0 [slQ 17 1 (abls p a x0.1 x2.1).length]:KObj)=some (.cells true 0 [slQ 17 1 (ablK p a x0.1).length]:KObj))/\((some (.cells true 4 ((abls p a x0.1 x2.1).flatMap lgC):KObj)=some (.cells true 4 ((ablK p a x0.1).flatMap lgC):KObj))/\(RbestX p a x0 r3 x2.2.2)))))) ((some (.cells true 0 [slQ 17 1 (abls p a x0.1 x2.1).length]:KObj)=some (.cells true 0 [slQ 17 1 (ablK p a x0.1).length]:KObj))/\((some (.cells true 4 ((abls p a x0.1 x2.1).flatMap lgC):KObj)=some (.cells true 4 ((ablK p a x0.1).flatMap lgC):KObj))/\(RbestX p a x0 x2.2.1 x2.2.2)))))))))
def HbestU(p:Pl)(a:Int)(x0 x2 x51 x52:Nat×Memo (sfP p)×Memo (lfP p a))(r53:Memo (sfP p)):Hint :=
 .go 1 (.fork (jl1i p a x51) (.go 1 (.ans [jlt,(jlz p),(jl10 p),(jlp p),(jl11 p),(jl12 p),(jl13 p),(jl14 p),(8,.map (knE r53.1))] (nI (tkP p (jl9 p a x0 x51 x2 x52))) [] (.go 2 (.gfork (.go 5 (.into (some [8,11,16,23,21,24]) (.go 6 (.gfork (.go 6 (.slot 58 (nI ((jl1c p a x0)-1)) (.anse [jlt,(10,.cells true 0 [nI a]),(9,.cells true 0 [pt 7]),(12,.cells true 0 [.map (some 11)]),jl1a,(jlz p),(11,.map (knE x52.2.2.1)),(jl10 p),(jlp p),(jl11 p),(jl12 p),(jl13 p),(jl14 p),(8,.map (knE r53.1))] [8,11] (Memo (sfP p)×Memo (lfP p a)) (fun r51=>True) (fun r51=>nI (lfP p a ((jl6 p a x0).getD x51.1 0) ((bsT p a x0.1+(jl5 p a x2))+1+(jlu p a x52)))) (fun r51=>[(8,.map (knE r51.1.1)),(11,.map (knE r51.2.1))]) (fun r51=>[]) (fun r51 => .go 1 (.fork (.go 2 (.need (.go 5 (.slot 28 (nI (((bsT p a x0.1+(jl5 p a x2))+1+(jlu p a x52))+1)) (.go 0 (.again [(24,27)])))))) (.go 4 (.slot 28 (nI (((bsT p a x0.1+(jl5 p a x2))+1+(jlu p a x52))+1)) (.go 0 (.again [(24,24)]))))))))) (.go 6 (.slot 28 (nI (((bsT p a x0.1+(jl5 p a x2))+1+(jlu p a x52))+1)) (.go 0 (.again [(24,24)])))))))) (.go 3 (.slot 28 (nI (((bsT p a x0.1+(jl5 p a x2))+1+(jlu p a x52))+1)) (.go 0 (.again [(24,24)])))))))))
def HbestX(p:Pl)(a:Int)(x0:Nat×Memo (sfP p)×Memo (lfP p a))(Kx:Memo (sfP p))(Lx:Memo (lfP p a)):Hint :=
 .go 0 (.ans [jlt,(17,.cells true 4 ((ablK p a x0.1).flatMap lgC))] (.agg #[nI (firL (ablK p a x0.1)).to,nI (firL (ablK p a x0.1)).dep,nI (firL (ablK p a x0.1)).spd,nI (firL (ablK p a x0.1)).arr]) [] (.slot 66 (.agg #[nI (nxL p a x0.1).to,nI (nxL p a x0.1).dep,nI (nxL p a x0.1).spd,nI (nxL p a x0.1).arr]) (.go 4 (.need (.go 6 (.again [(14,20)]))))))
def HbestV(p:Pl)(a:Int)(x0 x2:Nat×Memo (sfP p)×Memo (lfP p a))(Kx:Memo (sfP p))(Lx:Memo (lfP p a)):Hint :=
 .go 9 (.into (some [8,11,16,17,18,19,20]) (.go 1 (.ans [jlt,(jlz p),(jl10 p),(jlp p),(jl11 p),(jl12 p),(jl13 p),(jl14 p),(8,.map (knE Kx.1))] (slQ 22 1 (jl6 p a x0).length) [.cells true 1 ((jl6 p a x0).flatMap intC)] (.go 1 (.inv 3 (jl1b p a) ((jlo p Kx a Lx)) [(23,17)] [8,11,16,17,21] (fun x51=>[(15,nI ((x51.1:Nat):Int)),(3,pt 20),(1,pt 18),(0,.func (.yield 21) #[] #[]),(13,slQ 22 1 (jl6 p a x0).length),(14,nI (((jl6 p a x0).length:Nat):Int))]) (fun x51=>[(8,true,.map (knE x51.2.1.1)),(11,true,.map (knE x51.2.2.1)),(16,false,.cells true 0 [slQ 23 1 (abls p a x0.1 x2.1++List.filter (jld p a x0) (preL p (bsC p a x0.1) (bsT p a x0.1+(jl5 p a x2)) x51.1)).length]),(17,false,.dead)]) (fun x51=>[(true,.cells true 4 ((abls p a x0.1 x2.1++List.filter (jld p a x0) (preL p (bsC p a x0.1) (bsT p a x0.1+(jl5 p a x2)) x51.1)).flatMap lgC))]) (fun x51=>[(21,(jle p a x0 x2))]) (fun x51=>(x51.1<=List.length (jl6 p a x0))) (fun x51=>(List.length (jl6 p a x0)-x51.1)) (fun x51 => .go 0 (.fork (.need (.val (nI ((jl6 p a x0).getD x51.1 0)) (.go 3 (.slot 20 (nI ((bsT p a x0.1+(jl5 p a x2))+1)) (.go 0 (.inv 3 (jl1b p a) ((jl8 p a x51)) [(24,23)] [8,11,16,23,21] (fun x52=>[(8,nI ((bsT p a x0.1+(jl5 p a x2))+1+(jlu p a x52))),(7,nI (lowP p ((jl6 p a x0).getD x51.1 0) (bsT p a x0.1+(jl5 p a x2)) x52.1)),(14,nI (((jl6 p a x0).length:Nat):Int)),(13,slQ 22 1 (jl6 p a x0).length),(0,.func (.yield 21) #[] #[]),(1,pt 18),(3,pt 20),(15,nI ((x51.1:Nat):Int)),(6,nI ((jl6 p a x0).getD x51.1 0))]) (fun x52=>[(8,true,.map (knE x52.2.1.1)),(11,true,.map (knE x52.2.2.1)),(16,false,.cells true 0 (jlq p a x0 x2 x51 x52)),(23,false,.dead)]) (fun x52=>[(true,.cells true 4 ((abls p a x0.1 x2.1++List.filter (jld p a x0) (preL p (bsC p a x0.1) (bsT p a x0.1+(jl5 p a x2)) x51.1++lgTo p ((jl6 p a x0).getD x51.1 0) (bsT p a x0.1+(jl5 p a x2)) x52.1)).flatMap lgC))]) (fun x52=>[(21,(jle p a x0 x2))]) (fun x52=>((x52.1<=Int.toNat (endP p-(bsT p a x0.1+(jl5 p a x2)))/\okL p ((jl6 p a x0).getD x51.1 0) (bsT p a x0.1+(jl5 p a x2)) x52.1=true))) (fun x52=>(Int.toNat (endP p-(bsT p a x0.1+(jl5 p a x2)))-x52.1)) (fun x52 => .go 5 (.fork (.go 4 (.slot 33 (nI (((bsT p a x0.1+(jl5 p a x2))+1+(jlu p a x52))-1)) (.anse [jlt,(jlz p),(jl10 p),(jlp p),(jl11 p),(jl12 p),(jl13 p),(jl14 p),(8,.map (knE x52.2.1.1))] [8] (Memo (sfP p)) (fun r53=>True) (fun r53=>nI (sfP p ((jl6 p a x0).getD x51.1 0) (Int.tdiv (((bsT p a x0.1+(jl5 p a x2))+1+(jlu p a x52))-1) 6))) (fun r53=>[(8,.map (knE r53.1))]) (fun r53=>[]) (fun r53 => .go 1 (.slot 7 (nI (jlm p a x0 x51 x2 x52)) (.go 1 (.fork (jl1i p a x51) (.go 3 (.slot 41 (nI (((bsT p a x0.1+(jl5 p a x2))+1+(jlu p a x52))-(bsT p a x0.1+(jl5 p a x2)))) (.go 1 (.slot 10 (nI (((x52.1+1):Nat):Int)) (.go 1 (.fork (.go 6 (.slot 50 (nI (6*p.size)) (.go 0 (.slot 51 (nI ((6*p.size)-1)) (.go 1 (.slot 53 (nI ((((x52.1+1):Nat):Int)-1)) (.need (.slot 54 (nI (jl16 p a x52)) (.go 1 (.slot 9 (nI (jl9 p a x0 x51 x2 x52)) ((HbestU p a x0 x2 x51 x52 r53)))))))))))) (.slot 9 (nI (jl9 p a x0 x51 x2 x52)) ((HbestU p a x0 x2 x51 x52 r53)))))))))))))))) (jl1i p a x51))))))))) (.keep (.go 1 (.slot 40 (nI ((bsT p a x0.1+(jl5 p a x2))+1)) (.go 0 (.again [(17,23)]))))))))))))
abbrev jlf(p:Pl)(K0:Memo (sfP p)):=readsK [.cells false 0 jl3,.cells true 1 (jlg p),.cells false 0 (p.cts.flatMap chC),.cells true 1 (jlh p),.cells true 2 (jli p),.cells true 2 (jlj p),.cells true 2 (jlk p),.cells true 0 (jl0 p),.map (knE K0.1)]
theorem Ebest(p:Pl)(a:Int)(K0:Memo (sfP p)):vF prog msk (dm 0) 100000 true 40 true 32 [pt 7,nI a] (jlf p K0) (some [8])
 (.go 16 (.inv 3 (jl1b p a) ((jlc p K0 a)) [] [8,11] (fun x0=>[(8,nI (bsC p a x0.1)),(9,nI (bsT p a x0.1)),(7,slQ 14 1 (bsL p a x0.1).length),(2,pt 9),(3,pt 10),(4,.slice none 0 0),(6,pt 13)]) (fun x0=>[(8,true,.map (knE x0.2.1.1)),(11,true,.map (knE x0.2.2.1))]) (fun x0=>[(true,.cells true 4 ((bsL p a x0.1).flatMap lgC))]) (fun x0=>[]) (fun x0=>(x0.1<=Int.toNat (lfP p a p.frm 0))) (fun x0=>(Int.toNat (lfP p a p.frm 0)-x0.1)) (fun x0 => .go 2 (.anse [jlt,(10,.cells true 0 [nI a]),(9,.cells true 0 [pt 7]),(12,.cells true 0 [.map (some 11)]),jl1a,(jlz p),(11,.map (knE x0.2.2.1)),(jl10 p),(jlp p),(jl11 p),(jl12 p),(jl13 p),(jl14 p),(8,.map (knE x0.2.1.1))] [8,11] (Memo (sfP p)×Memo (lfP p a)) (fun r1=>True) (fun r1=>nI (jl1c p a x0)) (fun r1=>[(8,.map (knE r1.1.1)),(11,.map (knE r1.2.1))]) (fun r1=>[]) (fun r1 => .go 3 (.fork (.go 1 (.keep (.again [(9,14)]))) (.go 2 (.inv 3 (jl1b p a) ((jln p a r1)) [] [8,11,16] (fun x2=>(jle p a x0 x2)) (fun x2=>[(8,true,.map (knE x2.2.1.1)),(11,true,.map (knE x2.2.2.1)),(16,false,.cells true 0 [slQ 17 1 (abls p a x0.1 x2.1).length])]) (fun x2=>[(true,.cells true 4 ((abls p a x0.1 x2.1).flatMap lgC))]) (fun x2=>[]) (fun x2=>(x2.1<=Int.toNat (a-bsT p a x0.1))) (fun x2=>(Int.toNat (a-bsT p a x0.1)-x2.1)) (fun x2 => .go 3 (.gfork (.go 3 (.anse [jlt,(jlz p),(jl10 p),(jlp p),(jl11 p),(jl12 p),(jl13 p),(jl14 p),(8,.map (knE x2.2.1.1))] [8] (Memo (sfP p)) (fun r3=>True) (fun r3 => .bool (wtB p (bsC p a x0.1) (bsT p a x0.1) (bsT p a x0.1+(jl5 p a x2)))) (fun r3=>[(8,.map (knE r3.1))]) (fun r3=>[]) (fun r3 => .go 0 (.fork ((HbestV p a x0 x2 r3 x2.2.2)) (.obj 16 (.cells true 0 [slQ 17 1 (ablK p a x0.1).length]) (.obj 17 (.cells true 4 ((ablK p a x0.1).flatMap lgC)) ((HbestX p a x0 r3 x2.2.2)))))))) (.go 1 (.obj 16 (.cells true 0 [slQ 17 1 (ablK p a x0.1).length]) (.obj 17 (.cells true 4 ((ablK p a x0.1).flatMap lgC)) ((HbestX p a x0 x2.2.1 x2.2.2)))))))))))))))
 (newKWE (α:=Memo (sfP p)) ((jlf p K0):HT).n 3 [8] (fun x=>True) (fun x=>slQ 9 1 (bestP p a).length) (fun x=>[(8,true,.map (knE x.1))]) (fun x=>[(true,.cells true 4 ((bestP p a).flatMap lgC))]))=Rbest p a K0:=by kernel_rfl
end
end Go.Proofs.YtmecpfikljhjaaaDoor
namespace Go.Proofs.YtmecpfikljhjaaaDoor
noncomputable section
attribute [local irreducible] vF
theorem lfAtB{H:Heap}{p:Pl}{a:Int}{K:Memo (sfP p)}{L:Memo (lfP p a)}{Q:Prop}(h:H[0]?=some strO/\H[10]?=some (.cells true 0 [nI a])/\H[9]?=some (.cells true 0 [pt 7])/\H[12]?=some (.cells true 0 [.map (some 11)])/\H[13]?=some (.cells true 0 [fnV 10 9 12 13]) /\
  H[7]?=some (.cells true 0 (wkC p 1 2 3 4 5 6 8))/\H[11]?=some (.map (knE L.1))/\H[1]?=some (.cells true 1 (p.land.flatMap boolC))/\H[2]?=some (.cells false 0 (p.cts.flatMap chC))/\H[3]?=some (.cells true 1 (p.chan.flatMap boolC)) /\
  H[4]?=some (.cells true 2 (p.shp.th.flatMap ptC))/\H[5]?=some (.cells true 2 (p.shp.wa.flatMap ptC))/\H[6]?=some (.cells true 2 (p.shp.ic.flatMap ptC))/\H[8]?=some (.map (knE K.1))/\Q):LfAt H p a K L 1 2 3 4 5 6 7 8 10 9 12 13 11:=by
 obtain ⟨a0,b1,b2,b3,b4,a7,b5,a1,a2,a3,a4,a5,a6,a8,_⟩:=h
 exact ⟨by decide,⟨by decide,a0,a1,a2,a3,a4,a5,a6,a7,a8⟩,b1,b2,b3,b4,b5⟩
theorem lLeft{p:Pl}(o:PlOk p){a:Int}(ha:a<=endP p){c t:Int}(hc:0<=c/\c<(p.land.length:Int))(h0:0<=t)(h1:t<=a){K:Memo (sfP p)}{L:Memo (lfP p a)}{H:Heap}{l c' n t' w i W m A B C D M:Nat}(at_:LfAt H p a K L l c' n t' w i W m A B C D M) :
  KCall prog 70 (lfArgs c t A B C D) H [m,M] (LfPost p a c t H m M):=kLeft o ha _ c t rfl hc h0 h1 at_
section
variable {p:Pl} {a:Int}
theorem bestU(o:PlOk p)(b:BsOk p a){x0 x2 x51 x52:Nat×Memo (sfP p)×Memo (lfP p a)}{r53:Memo (sfP p)}(g:BsAt p a x0.1)(hx2:bsT p a x0.1+(x2.1:Int)<a)(h1:x51.1<(bsP p (bsC p a x0.1)).length)(h2:x52.1<Int.toNat (endP p-(bsT p a x0.1+(x2.1:Int))))
  (hk:okL p ((bsP p (bsC p a x0.1)).getD x51.1 0) (bsT p a x0.1+(x2.1:Int)) x52.1=true) (hl:¬ lowP p ((bsP p (bsC p a x0.1)).getD x51.1 0) (bsT p a x0.1+(x2.1:Int)) (x52.1+1)<10):RbestU p a x0 x2 x51 x52 r53:=by
 have he:=end_le o
 have ha:=b.a1
 have hc:=g.c
 have ht:=g.t
 have hb:=bsP_len p (bsC p a x0.1)
 have hal:=abls_len o b g x2.1
 have hs:=lowP_le p ((bsP p (bsC p a x0.1)).getD x51.1 0) (bsT p a x0.1+(x2.1:Int)) (x52.1+1)
 have hp:=spL_le p ((bsP p (bsC p a x0.1)).getD x51.1 0) (bsT p a x0.1+(x2.1:Int)) (x52.1+1)
 have hto:=bs_at o hc h1
 have hlf:0<=lfP p a (bsC p a x0.1) (bsT p a x0.1)/\lfP p a (bsC p a x0.1) (bsT p a x0.1)<=1048576:=lfBd p ht.2
 have hpl:=preTo_lt o (c:=bsC p a x0.1) (to:=(bsP p (bsC p a x0.1)).getD x51.1 0) (t:=bsT p a x0.1+(x2.1:Int)) (by omega) (Nat.le_of_lt h1) (Nat.le_of_lt h2)
 have hfl:(List.filter (goodL p a (bsN p a x0.1)) (preL p (bsC p a x0.1) (bsT p a x0.1+(x2.1:Int)) x51.1++lgTo p ((bsP p (bsC p a x0.1)).getD x51.1 0) (bsT p a x0.1+(x2.1:Int)) x52.1)).length<=1440:=Nat.le_trans (List.length_filter_le ..) hpl
 have hLL:(abls p a x0.1 x2.1++List.filter (goodL p a (bsN p a x0.1)) (preL p (bsC p a x0.1) (bsT p a x0.1+(x2.1:Int)) x51.1++lgTo p ((bsP p (bsC p a x0.1)).getD x51.1 0) (bsT p a x0.1+(x2.1:Int)) x52.1)).length<=1000000:=by
  rw[List.length_append];have:x2.1<=288:=by omega
  omega
 delta RbestU jl9 jl2 jlr jlv jlb jls jlw jl7 jl5 jlu jl1c jl17 jl18 jl6 jld jlm jla jll jlq jl1 jl4 jl1j jly jl1k jl1l jl1m jl1n jlk jlj jli jlh jlg jl0 jl3 jl1d jlx jl1e jl1f jl1g jl1h jl15 nI slQ pt slN someR fk nw eR wR kbq apq
 refine ⟨fun k=>⟨vI64 (by omega),(x51.1+1,r53,x52.2.2),by show x51.1+1<=_;omega,by show _-(x51.1+1)<_;omega,rfl,?_⟩,fun k =>?_⟩
 ·rw[show preL p (bsC p a x0.1) (bsT p a x0.1+(x2.1:Int)) (x51.1+1)=_ from preL_next h1 (Nat.le_of_lt h2) (.inr (goB_sp (of_decide_eq_true k)))]
  repeat' first|exact plainGL _ _|exact knB _ _|exact trivial|exact rfl|exact wk_refl _|refine wkO_cells ?_|refine wks_cons ?_ ?_|refine ⟨rfl,?_⟩|refine ⟨trivial,?_⟩|apply And.intro
 ·have hk2:okL p ((bsP p (bsC p a x0.1)).getD x51.1 0) (bsT p a x0.1+(x2.1:Int)) (x52.1+1)=true:=by rw[okL_succ,hk,goB_yes hl (of_decide_eq_false k)];rfl
  have hsp:=of_decide_eq_false k
  refine ⟨?_,fun H' hn h=>kTakes o (by omega) (wkAt9 h),fun q =>?_,fun q =>?_⟩
  ·repeat' first|exact trivial|refine ⟨rfl,?_⟩
  ·have e:lgOne p ((bsP p (bsC p a x0.1)).getD x51.1 0) (bsT p a x0.1+(x2.1:Int)) x52.1=[⟨(bsP p (bsC p a x0.1)).getD x51.1 0,bsT p a x0.1+(x2.1:Int),spL p ((bsP p (bsC p a x0.1)).getD x51.1 0) (bsT p a x0.1+(x2.1:Int)) (x52.1+1),bsT p a x0.1+(x2.1:Int)+1+(x52.1:Int)⟩]:=by
    unfold lgOne;rw[hk2,q];rfl
   have yes:∀{bb:Bool},goodL p a (bsN p a x0.1) ⟨(bsP p (bsC p a x0.1)).getD x51.1 0,bsT p a x0.1+(x2.1:Int),spL p ((bsP p (bsC p a x0.1)).getD x51.1 0) (bsT p a x0.1+(x2.1:Int)) (x52.1+1),bsT p a x0.1+(x2.1:Int)+1+(x52.1:Int)⟩=bb ->
     abls p a x0.1 x2.1++List.filter (goodL p a (bsN p a x0.1)) (preL p (bsC p a x0.1) (bsT p a x0.1+(x2.1:Int)) x51.1++lgTo p ((bsP p (bsC p a x0.1)).getD x51.1 0) (bsT p a x0.1+(x2.1:Int)) (x52.1+1)) =
     (abls p a x0.1 x2.1++List.filter (goodL p a (bsN p a x0.1)) (preL p (bsC p a x0.1) (bsT p a x0.1+(x2.1:Int)) x51.1++lgTo p ((bsP p (bsC p a x0.1)).getD x51.1 0) (bsT p a x0.1+(x2.1:Int)) x52.1)) ++
      (if bb then [⟨(bsP p (bsC p a x0.1)).getD x51.1 0,bsT p a x0.1+(x2.1:Int),spL p ((bsP p (bsC p a x0.1)).getD x51.1 0) (bsT p a x0.1+(x2.1:Int)) (x52.1+1),bsT p a x0.1+(x2.1:Int)+1+(x52.1:Int)⟩] else []):=by
    rintro bb rfl
    rw[lgTo_succ,e]
    simp only[List.filter_append,List.append_assoc,List.filter_cons,List.filter_nil]
   refine ⟨fun r =>?_,fun r =>?_⟩
   ·have hr:=of_decide_eq_true r
    refine ⟨vI64 (by omega),?_,fun H' hn h=>lLeft o ha hto (by omega) hr (lfAtB h),fun r51 _=>⟨fun s =>?_,fun s =>?_⟩⟩
    ·repeat' first|exact trivial|refine ⟨rfl,?_⟩
    ·have y2:=yes (bb:=true) (goodL_iff.2 ⟨hr,eq_of_beq s⟩)
     refine ⟨⟨by omega,by decide,⟨Nat.le_refl _,by rw[flat_len lgC_len];omega⟩,⟨Nat.le_refl _,by simp⟩,rfl⟩,rfl,vI64 (by omega),(x52.1+1,r51.1,r51.2),⟨by show x52.1+1<=_;omega,hk2⟩,by show _-(x52.1+1)<_;omega,rfl,?_⟩
     repeat' first|exact wk_snoc y2|exact ob_snoc lgC_len y2 rfl|exact plainGL _ _|exact knB _ _|exact trivial|exact rfl|exact wk_refl _|refine wkO_cells ?_|refine wks_cons ?_ ?_|refine ⟨rfl,?_⟩|refine ⟨trivial,?_⟩|apply And.intro|(exact iEq (by omega))
    ·have y2:=yes (bb:=false) (by rw[Bool.eq_false_iff];intro z;exact (beq_eq_false_iff_ne.1 s) (goodL_iff.1 z).2)
     rw[if_neg (by decide),List.append_nil]at y2
     refine ⟨vI64 (by omega),(x52.1+1,r51.1,r51.2),⟨by show x52.1+1<=_;omega,hk2⟩,by show _-(x52.1+1)<_;omega,rfl,?_⟩
     rw[y2]
     repeat' first|exact plainGL _ _|exact knB _ _|exact trivial|exact rfl|exact wk_refl _|refine wkO_cells ?_|refine wks_cons ?_ ?_|refine ⟨rfl,?_⟩|refine ⟨trivial,?_⟩|apply And.intro|(exact iEq (by omega))
   ·have hr:=of_decide_eq_false r
    have y2:=yes (bb:=false) (by rw[Bool.eq_false_iff];intro z;exact hr (goodL_iff.1 z).1)
    rw[if_neg (by decide),List.append_nil]at y2
    refine ⟨vI64 (by omega),(x52.1+1,r53,x52.2.2),⟨by show x52.1+1<=_;omega,hk2⟩,by show _-(x52.1+1)<_;omega,rfl,?_⟩
    rw[y2]
    repeat' first|exact plainGL _ _|exact knB _ _|exact trivial|exact rfl|exact wk_refl _|refine wkO_cells ?_|refine wks_cons ?_ ?_|refine ⟨rfl,?_⟩|refine ⟨trivial,?_⟩|apply And.intro|(exact iEq (by omega))
  ·have no:preL p (bsC p a x0.1) (bsT p a x0.1+(x2.1:Int)) x51.1++lgTo p ((bsP p (bsC p a x0.1)).getD x51.1 0) (bsT p a x0.1+(x2.1:Int)) (x52.1+1)=preL p (bsC p a x0.1) (bsT p a x0.1+(x2.1:Int)) x51.1++lgTo p ((bsP p (bsC p a x0.1)).getD x51.1 0) (bsT p a x0.1+(x2.1:Int)) x52.1:=by
    rw[lgTo_succ];unfold lgOne;rw[hk2,q];simp
   refine ⟨vI64 (by omega),(x52.1+1,r53,x52.2.2),⟨by show x52.1+1<=_;omega,hk2⟩,by show _-(x52.1+1)<_;omega,rfl,?_⟩
   rw[no]
   repeat' first|exact plainGL _ _|exact knB _ _|exact trivial|exact rfl|exact wk_refl _|refine wkO_cells ?_|refine wks_cons ?_ ?_|refine ⟨rfl,?_⟩|refine ⟨trivial,?_⟩|apply And.intro|(exact iEq (by omega))
theorem bestX(o:PlOk p)(b:BsOk p a){x0:Nat×Memo (sfP p)×Memo (lfP p a)}(g:BsAt p a x0.1)(hN:(x0.1:Int)<lfP p a p.frm 0)(Kx:Memo (sfP p))(Lx:Memo (lfP p a)):RbestX p a x0 Kx Lx:=by
 have he:=end_le o
 have ha:=b.a1
 have hf:=b.fin
 have gn:=g.n
 have ht:=g.t
 have hal:=abls_len o b g (Int.toNat (a-bsT p a x0.1))
 have hpos:0<(ablK p a x0.1).length:=ablK_pos ht.2 (by omega) (by omega)
 have hle:(ablK p a x0.1).length<=1000000:=by
  have:(ablK p a x0.1).length<=Int.toNat (a-bsT p a x0.1)*1152:=hal
  have h2:Int.toNat (a-bsT p a x0.1)<=288:=by omega
  omega
 have hbl:=bsL_len p a x0.1
 delta RbestX jl3 jl19 nI slQ pt slN eR kbq apq c2q
 refine ⟨⟨rfl,rfl,trivial⟩,fun H' hn h=>(kFirst hpos hle h.1 h.2.1 (by decide)).wkA ⟨wk_QR,wk_refl _,trivial⟩,rfl,⟨by omega,by decide,⟨Nat.le_refl _,by rw[flat_len lgC_len];omega⟩,⟨Nat.le_refl _,by simp⟩,rfl⟩,rfl,(x0.1+1,Kx,Lx),by show x0.1+1<=_;omega,by show _-(x0.1+1)<_;omega,rfl,?_⟩
 have yes:=bsL_succ p a x0.1
 repeat' first|exact wk_snoc yes|exact ob_snoc lgC_len yes rfl|exact plainGL _ _|exact knB _ _|exact trivial|refine ⟨rfl,?_⟩|apply And.intro
theorem bestV(o:PlOk p)(b:BsOk p a){x0 x2:Nat×Memo (sfP p)×Memo (lfP p a)}{Kx:Memo (sfP p)}{Lx:Memo (lfP p a)}(g:BsAt p a x0.1)(hx2:bsT p a x0.1+(x2.1:Int)<a)(hw:wtB p (bsC p a x0.1) (bsT p a x0.1) (bsT p a x0.1+(x2.1:Int))=true):RbestV p a x0 x2 Kx Lx:=by
 have he:=end_le o
 have ha:=b.a1
 have hc:=g.c
 have ht:=g.t
 have hb:=bsP_len p (bsC p a x0.1)
 delta RbestV jlr jlv jl1d jlx jl1e jl1f jl1g jl1h jls jlw jl1j jly jl1k jl1l jl1m jl1n jl6 jlo jl15 jld jl5 jll jl8 jla jlu jlm jl2 jl16 jl9 jlq jl4 jlk jlj jli jlh jlg jl0 jl3 nI slQ pt someR fk nw eR wR kbq ixq
 refine ⟨?_,fun H' hn h=>hn ▸ kBeside o hc (wkAt9 h),rfl,Nat.zero_le _,⟨rfl,?_⟩,fun _=>rfl,fun x51 hx1=>⟨fun q1 =>?_,fun q1 =>?_⟩⟩
 ·repeat' first|exact trivial|refine ⟨rfl,?_⟩
 ·rw[show preL p (bsC p a x0.1) (bsT p a x0.1+(x2.1:Int)) ((0,Kx,Lx):Nat×Memo (sfP p)×Memo (lfP p a)).1=[] from rfl,show List.filter (goodL p a (bsN p a x0.1)) []=[] from rfl,List.append_nil]
  repeat' first|exact plainGL _ _|exact knB _ _|exact trivial|exact rfl|exact wk_refl _|refine wkO_cells ?_|refine wks_cons ?_ ?_|refine ⟨rfl,?_⟩|refine ⟨trivial,?_⟩|apply And.intro
 ·have hx:=of_decide_eq_true q1
  have hx':x51.1<(bsP p (bsC p a x0.1)).length:=by omega
  have e0:preL p (bsC p a x0.1) (bsT p a x0.1+(x2.1:Int)) x51.1++lgTo p ((bsP p (bsC p a x0.1)).getD x51.1 0) (bsT p a x0.1+(x2.1:Int)) 0=preL p (bsC p a x0.1) (bsT p a x0.1+(x2.1:Int)) x51.1:=List.append_nil _
  refine ⟨by omega,intAt hx' (by omega),vI64 (by omega),rfl,⟨Nat.zero_le _,rfl⟩,⟨rfl,?_⟩,fun _=>rfl,fun x52 hx2'=>⟨fun q2 =>?_,fun q2 =>?_⟩⟩
  ·rw[e0]
   repeat' first|exact plainGL _ _|exact knB _ _|exact trivial|exact rfl|exact wk_refl _|refine wkO_cells ?_|refine wks_cons ?_ ?_|refine ⟨rfl,?_⟩|refine ⟨trivial,?_⟩|apply And.intro|(exact iEq (by omega))
  ·have hq:=of_decide_eq_true q2
   have hx3:x52.1<Int.toNat (endP p-(bsT p a x0.1+(x2.1:Int))):=by omega
   have e1:Int.tdiv (bsT p a x0.1+(x2.1:Int)+1+(x52.1:Int)-1) 6=Int.tdiv (bsT p a x0.1+(x2.1:Int)+(x52.1:Int)) 6:=by congr 1;omega
   refine ⟨vI64 (by omega),?_,fun H' hn h=>kSafe o (bs_at o hc hx') (by omega) (wkAt9 h),fun r53 _=>⟨?_,fun q3 =>?_,fun q3 =>?_⟩⟩
   ·repeat' first|exact trivial|refine ⟨rfl,?_⟩
   ·rw[low_step e1]
   ·refine ⟨vI64 (by omega),(x51.1+1,r53,x52.2.2),by show x51.1+1<=_;omega,by show _-(x51.1+1)<_;omega,rfl,?_⟩
    rw[show preL p (bsC p a x0.1) (bsT p a x0.1+(x2.1:Int)) (x51.1+1)=_ from preL_next hx' (Nat.le_of_lt hx3) (.inr (goB_low (of_decide_eq_true q3)))]
    repeat' first|exact plainGL _ _|exact knB _ _|exact trivial|exact rfl|exact wk_refl _|refine wkO_cells ?_|refine wks_cons ?_ ?_|refine ⟨rfl,?_⟩|refine ⟨trivial,?_⟩|apply And.intro
   ·have tl:RbestU p a x0 x2 x51 x52 r53:=bestU o b g hx2 hx' hx3 hx2'.2 (of_decide_eq_false q3)
    have hz:=o.size
    refine ⟨vI64 (by omega),iEq (by omega),fun q4 =>?_,fun q4 =>?_⟩
    ·have h4:=of_decide_eq_true q4
     have hdiv:0<=Int.tdiv (6*p.size-1) (((x52.1+1:Nat):Int)-1)/\Int.tdiv (6*p.size-1) (((x52.1+1:Nat):Int)-1)<=3000:=by
      rw[Int.tdiv_eq_ediv_of_nonneg (by omega)]
      exact ⟨Int.ediv_nonneg (by omega) (by omega),Int.le_trans (Int.ediv_le_self _ (by omega)) (by omega)⟩
     refine ⟨vI64 (by omega),vI64 (by omega),vI64 (by omega),by omega,vI64 (by omega),?_,tl⟩
     have h5:1<x52.1+1:=by omega
     unfold spL;rw[if_pos h5]
    ·refine ⟨?_,tl⟩
     have h5:¬ 1<x52.1+1:=by have:=of_decide_eq_false q4;omega
     unfold spL;rw[if_neg h5]
  ·have hq:=of_decide_eq_false q2
   refine ⟨vI64 (by omega),(x51.1+1,x52.2.1,x52.2.2),by show x51.1+1<=_;omega,by show _-(x51.1+1)<_;omega,rfl,?_⟩
   rw[show preL p (bsC p a x0.1) (bsT p a x0.1+(x2.1:Int)) (x51.1+1)=_ from preL_next hx' hx2'.1 (.inl (by omega))]
   repeat' first|exact plainGL _ _|exact knB _ _|exact trivial|exact rfl|exact wk_refl _|refine wkO_cells ?_|refine wks_cons ?_ ?_|refine ⟨rfl,?_⟩|refine ⟨trivial,?_⟩|apply And.intro
 ·have hq:=of_decide_eq_false q1
  have e:abls p a x0.1 x2.1++List.filter (goodL p a (bsN p a x0.1)) (preL p (bsC p a x0.1) (bsT p a x0.1+(x2.1:Int)) x51.1)=abls p a x0.1 (x2.1+1):=by
   rw[preL_all (by omega)]
   show _=ablTo p a (bsN p a x0.1) (bsC p a x0.1) (bsT p a x0.1) (x2.1+1)
   rw[ablTo_succ,if_pos hw];rfl
  rw[e]
  refine ⟨vI64 (by omega),(x2.1+1,x51.2.1,x51.2.2),by show x2.1+1<=_;omega,by show _-(x2.1+1)<_;omega,rfl,?_⟩
  repeat' first|exact plainGL _ _|exact knB _ _|exact trivial|exact wk_refl _|refine wkO_cells ?_|refine wks_cons ?_ ?_|refine ⟨rfl,?_⟩|apply And.intro|(exact iEq (by omega))
theorem kBestR(o:PlOk p)(b:BsOk p a){K:Memo (sfP p)}{H:Heap}{l c' n t' w i W m:Nat}(at_:WkAt H p K l c' n t' w i W m) :
  KCall prog 32 [pt W,nI a] H [m] (fun y H2 => ∃z:Memo (sfP p),True/\y = .slice (some ⟨H.length,0,some 1⟩) (bestP p a).length (bestP p a).length/\H2=H.set m (.map (knE z.1)) ++ [.cells true 4 ((bestP p a).flatMap lgC)]):=by
 have key:=valWE (α:=Memo (sfP p)) (I:=fun _=>True) (os:=wOs p K) (fun _ j => .slice (some ⟨j,0,some 1⟩) (bestP p a).length (bestP p a).length) (chg:=fun x=>[(8,true,.map (knE x.1))]) (new:=fun _=>[.cells true 4 ((bestP p a).flatMap lgC)]) (ks:=[8])
  (Eq.mpr (Ebest p a K) ?_) (wOs_ok p K) (fun k hk=>by obtain rfl:=List.mem_singleton.1 hk;exact ⟨_,rfl,rfl⟩) (fun _ _=>rfl) (fun x _=>⟨⟨List.mem_singleton.2 rfl,plM x.1⟩,trivial⟩) (fun _ _=>⟨⟨_,_,rfl,plainGL _ _⟩,trivial⟩) at_.1 at_.objs rfl (fun _ _ _=>rfl) rfl (ms:=[m]) rfl
 ·exact key
 have he:=end_le o
 have ha:=b.a1
 have hf:=b.fin
 have hf0:=(lfBd p (c:=p.frm) b.a0).1
 delta Rbest jlc jl19 jlr jl17 jlv jl1d jlx jl1e jl1f jl1g jl1h jls jl18 jlw jl1j jly jl1k jl1l jl1m jl1n jl1c jln jl4 jl5 jl1i jlt jlz jl10 jlp jl11 jl12 jl13 jl14 jl9 jl1a jl6 jlu jl1b jlo jld jle jl8 jlq jlm jl16 jlk jlj jli jlh jlg jl0 jl3 nI slQ pt someR fk eR wR kbq
 refine ⟨rfl,Nat.zero_le _,⟨rfl,?_⟩,fun _=>rfl,fun x0 hx0 =>?_⟩
 ·repeat' first|exact knB _ _|exact trivial|exact wk_nil _ _ _ (.inl rfl)|refine ⟨rfl,?_⟩|refine ⟨trivial,?_⟩|apply And.intro
 have g:=bsAt o b x0.1 (by omega)
 have gn:=g.n
 have gt:=g.t
 refine ⟨?_,fun H' hn h=>lLeft o ha g.c gt.1 gt.2 (lfAtB h),fun r1 _=>⟨fun q =>?_,fun q =>?_⟩⟩
 ·repeat' first|exact trivial|refine ⟨rfl,?_⟩
 ·have hz:bsN p a x0.1=0:=eq_of_beq q
  have hk:x0.1=Int.toNat (lfP p a p.frm 0):=by omega
  refine ⟨r1.1,trivial,?_⟩
  rw[hk]
  repeat' first|exact plainGL _ _|exact knB _ _|exact trivial|exact wk_refl _|refine ⟨rfl,?_⟩|apply And.intro
 ·have hz:bsN p a x0.1≠0:=beq_eq_false_iff_ne.1 q
  have hN:(x0.1:Int)<lfP p a p.frm 0:=by omega
  refine ⟨rfl,Nat.zero_le _,⟨rfl,?_⟩,fun _=>rfl,fun x2 hx2=>⟨fun q2 =>?_,fun q2 =>?_⟩⟩
  ·repeat' first|exact knB _ _|exact trivial|exact wk_refl _|refine wkO_cells ?_|refine wks_cons ?_ ?_|exact wk_nil _ _ _ (.inl rfl)|refine ⟨rfl,?_⟩|refine ⟨trivial,?_⟩|apply And.intro|(exact iEq (by omega))
  ·have h2:=of_decide_eq_true q2
   refine ⟨?_,fun H' hn h=>kWaits o g.c gt.1 (by omega) (wkAt9 h),fun r3 _=>⟨fun q3=>bestV o b g h2 q3,fun q3 =>?_⟩⟩
   ·repeat' first|exact trivial|refine ⟨rfl,?_⟩
   ·have e:abls p a x0.1 x2.1=ablK p a x0.1:=(ablTo_stop q3 hx2).symm
    rw[e]
    exact ⟨rfl,rfl,bestX o b g hN _ _⟩
  ·have h2:=of_decide_eq_false q2
   have e:abls p a x0.1 x2.1=ablK p a x0.1:=by
    show abls p a x0.1 x2.1=abls p a x0.1 _
    congr 1;omega
   rw[e]
   exact ⟨rfl,rfl,bestX o b g hN _ _⟩
end
end
end Go.Proofs.YtmecpfikljhjaaaDoor
