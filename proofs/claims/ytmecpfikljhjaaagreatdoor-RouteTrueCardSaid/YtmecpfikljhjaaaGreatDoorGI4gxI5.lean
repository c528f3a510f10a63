/- What is to be shown of functions. Printed by a program. No condition. -/
import Derived.Test.YtmecpfikljhjaaaGreatDoorGI2gxI3
import Derived.Test.YtmecpfikljhjaaaGreatDoorGK27xA0
open Go Go.K
set_option maxRecDepth 1000000
set_option maxHeartbeats 4000000
set_option linter.unusedVariables false
set_option linter.unusedSimpArgs false
namespace Go.Proofs.YtmecpfikljhjaaaGreatDoor
noncomputable section
attribute [local irreducible] vF
abbrev jkh(p:Pl)(c:Int):Prop:=eR (pt 18)/\eR (pt 16)/\eR (.func (.yield 19) #[] #[])/\wR (slQ 20 1 (bsP p c).length)/\eR (nI (((bsP p c).length:Nat):Int))/\True
abbrev jk1(c t:Int):Prop:=(True)/\((u6 prog 113 0/\eR (pt 15)/\eR (pt 14)/\eR (nI c)/\eR (nI t)/\eR (pt 9)/\eR (pt 10)/\eR (pt 11)/\eR (pt 12)/\True)/\True)
abbrev jk4(p:Pl)(a:Int)(x51:Nat×ab (sfP p)×ab (lfP p a))(c:Int)(r53:ab (sfP p))(x52:Nat×ab (sfP p)×ab (lfP p a))(t:Int):=nw (((x51.1:Nat):Int)+1) (∃cj:Nat×ab (sfP p)×ab (lfP p a),(cj.1<=List.length (bsP p c))/\(List.length (bsP p c)-cj.1)<(List.length (bsP p c)-x51.1)/\true=true/\((nI (((x51.1:Nat):Int)+1):Value)=nI ((cj.1:Nat):Int)/\jkh p c)/\((kbq 21 (.map (knE r53.1)) (.map (knE cj.2.1.1)))/\(kbq 21 (.map (knE x52.2.2.1)) (.map (knE cj.2.2.1)))/\wkO (.cells true 0 [nI (ee p a (lf0 p a c t) (aV p c t x51.1++bD p ((bsP p c).getD x51.1 0) t x52.1))]:aa) (rno (sg 21 []) 3 (.cells true 0 [nI (ee p a (lf0 p a c t) (aV p c t cj.1))]:aa))/\True)/\jk1 c t)
abbrev jk2:List Value:=[nI 4000,nI 8000,nI 14000,nI 24000,nI 40000,nI 90000]
abbrev jkg:=ac (.cells false 0 jk2)
abbrev jk0(p:Pl):List Value:=[nI p.w,nI p.h,slQ 1 2 p.land.length,slQ 2 2 p.cts.length,slQ 3 2 p.chan.length,nI p.shp.cls,nI p.shp.pow,nI p.shp.dra,nI p.shp.ton,slQ 4 2 p.shp.th.length,slQ 5 2 p.shp.wa.length,slQ 6 2 p.shp.ic.length,nI p.shp.slow,nI p.shp.aw,nI p.shp.rdg,nI p.shp.prs,nI p.size,nI p.frm,nI p.to,nI (endP p),.map (some 8)]
abbrev jkk(p:Pl):=ac (.cells true 0 (jk0 p))
abbrev jk9(p:Pl):=p.land.flatMap af
abbrev tP(p:Pl):=ac (.cells true 1 (jk9 p))
abbrev jkm(p:Pl):=ac (.cells false 0 (p.cts.flatMap chC))
abbrev jka(p:Pl):=p.chan.flatMap af
abbrev tO(p:Pl):=ac (.cells true 1 (jka p))
abbrev jkb(p:Pl):=p.shp.th.flatMap ptC
abbrev tN(p:Pl):=ac (.cells true 2 (jkb p))
abbrev jkc(p:Pl):=p.shp.wa.flatMap ptC
abbrev tM(p:Pl):=ac (.cells true 2 (jkc p))
abbrev jkd(p:Pl):=p.shp.ic.flatMap ptC
abbrev tL(p:Pl):=ac (.cells true 2 (jkd p))
abbrev jk7(p:Pl)(r53:ab (sfP p)):Prop:=(tP p)/\(jkm p)/\(tO p)/\(tN p)/\(tM p)/\(tL p)/\(ac (.map (knE r53.1)))/\True
abbrev jki:aa:=.cells false 0 jk2
abbrev jkl(p:Pl):aa:=.cells true 0 (jk0 p)
abbrev tK(p:Pl):aa:=.cells true 1 (jk9 p)
abbrev jkp(p:Pl):aa:=.cells false 0 (p.cts.flatMap chC)
abbrev tJ(p:Pl):aa:=.cells true 1 (jka p)
abbrev tI(p:Pl):aa:=.cells true 2 (jkb p)
abbrev tH(p:Pl):aa:=.cells true 2 (jkc p)
abbrev tG(p:Pl):aa:=.cells true 2 (jkd p)
abbrev jk6(H':Heap)(p:Pl)(r53:ab (sfP p)):Prop:=H'[1]?=some (tK p)/\H'[2]?=some (jkp p)/\H'[3]?=some (tJ p)/\H'[4]?=some (tI p)/\H'[5]?=some (tH p)/\H'[6]?=some (tG p)/\H'[8]?=some (.map (knE r53.1):aa)/\True
abbrev jko(p:Pl)(a:Int)(x52:Nat×ab (sfP p)×ab (lfP p a)):Int:=(x52.1:Nat)
abbrev jky:=ac (.cells true 0 [.func (.func 113) #[] #[pt 9,pt 10,pt 11,pt 12]])
abbrev Dk:aa:=.cells true 0 [.func (.func 113) #[] #[pt 9,pt 10,pt 11,pt 12]]
abbrev jkf(p:Pl)(c a:Int)(x51:Nat×ab (sfP p)×ab (lfP p a)):Prop:=eR (nI (((bsP p c).length:Nat):Int))/\wR (slQ 20 1 (bsP p c).length)/\eR (.func (.yield 19) #[] #[])/\eR (pt 16)/\eR (pt 18)/\eR (nI ((x51.1:Nat):Int))/\eR (nI ((bsP p c).getD x51.1 0))/\True
abbrev jk3(t:Int)(p:Pl)(a:Int)(x52:Nat×ab (sfP p)×ab (lfP p a))(c:Int)(x51:Nat×ab (sfP p)×ab (lfP p a))(r53:ab (sfP p)):=nw ((t+1+(jko p a x52))+1) (∃bi:Nat×ab (sfP p)×ab (lfP p a),((bi.1<=Int.toNat (endP p-t)/\okL p ((bsP p c).getD x51.1 0) t bi.1=true))/\(Int.toNat (endP p-t)-bi.1)<(Int.toNat (endP p-t)-x52.1)/\true=true/\((nI ((t+1+(jko p a x52))+1):Value)=nI (t+1+((bi.1:Nat):Int))/\(nI (bR p ((bsP p c).getD x51.1 0) t (x52.1+1)):Value)=nI (bR p ((bsP p c).getD x51.1 0) t bi.1)/\jkf p c a x51)/\((kbq 21 (.map (knE r53.1)) (.map (knE bi.2.1.1)))/\(kbq 21 (.map (knE x52.2.2.1)) (.map (knE bi.2.2.1)))/\wkO (.cells true 0 [nI (ee p a (lf0 p a c t) (aV p c t x51.1++bD p ((bsP p c).getD x51.1 0) t x52.1))]:aa) (rno (sg 21 []) 3 (.cells true 0 [nI (ee p a (lf0 p a c t) (aV p c t x51.1++bD p ((bsP p c).getD x51.1 0) t bi.1))]:aa))/\True)/\jk1 c t)
def om(p:Pl)(a c t:Int)(x51 x52:Nat×ab (sfP p)×ab (lfP p a))(r53:ab (sfP p)):Prop :=
 (fk (decide (((spL p ((bsP p c).getD x51.1 0) t (x52.1+1)):Int)<10)) (jk4 p a x51 c r53 x52 t) ((jkg/\(jkk p)/\jk7 p r53)/\(∀H':Heap,H'.length=21->(H'[0]?=some jki/\H'[7]?=some (jkl p)/\jk6 H' p r53)->ad prog 118 [pt 7,nI (spL p ((bsP p c).getD x51.1 0) t (x52.1+1))] H' [] (Is (nI (tkP p (spL p ((bsP p c).getD x51.1 0) t (x52.1+1)))) H'))/\(fk (((tkP p (spL p ((bsP p c).getD x51.1 0) t (x52.1+1))):Int) == (((x52.1+1):Nat):Int)) (fk (decide (((t+1+(jko p a x52)):Int)<=a)) ((jkg/\(ac (.cells true 0 [nI a]))/\(ac (.cells true 0 [pt 7]))/\(ac (.cells true 0 [.map (some 13)]))/\jky/\(jkk p)/\(ac (.map (knE x52.2.2.1)))/\jk7 p r53)/\(∀H':Heap,H'.length=22->(H'[0]?=some jki/\H'[9]?=some (.cells true 0 [nI a]:aa)/\H'[10]?=some (.cells true 0 [pt 7]:aa)/\H'[11]?=some (.cells true 0 [.map (some 13)]:aa)/\H'[12]?=some Dk/\H'[7]?=some (jkl p)/\H'[13]?=some (.map (knE x52.2.2.1):aa)/\jk6 H' p r53)->ad prog 113 [nI ((bsP p c).getD x51.1 0),nI (t+1+(jko p a x52)),pt 9,pt 10,pt 11,pt 12] H' [8,13] (fun y H2 => ∃z:ab (sfP p)×ab (lfP p a),True/\y=nI (lfP p a ((bsP p c).getD x51.1 0) (t+1+(jko p a x52)))/\H2=(List.set (List.set H' 8 (.map (knE z.1.1):aa)) 13 (.map (knE z.2.1):aa))))/\(∀r51:ab (sfP p)×ab (lfP p a),True->(nw (1+(lfP p a ((bsP p c).getD x51.1 0) (t+1+(jko p a x52)))) (nw ((t+1+(jko p a x52))+1) (∃bi:Nat×ab (sfP p)×ab (lfP p a),((bi.1<=Int.toNat (endP p-t)/\okL p ((bsP p c).getD x51.1 0) t bi.1=true))/\(Int.toNat (endP p-t)-bi.1)<(Int.toNat (endP p-t)-x52.1)/\true=true/\((nI ((t+1+(jko p a x52))+1):Value)=nI (t+1+((bi.1:Nat):Int))/\(nI (bR p ((bsP p c).getD x51.1 0) t (x52.1+1)):Value)=nI (bR p ((bsP p c).getD x51.1 0) t bi.1)/\jkf p c a x51)/\((kbq 21 (.map (knE r51.1.1)) (.map (knE bi.2.1.1)))/\(kbq 21 (.map (knE r51.2.1)) (.map (knE bi.2.2.1)))/\wkO (.cells true 0 [nI (if ((1+(lfP p a ((bsP p c).getD x51.1 0) (t+1+(jko p a x52)))):Int)<(ee p a (lf0 p a c t) (aV p c t x51.1++bD p ((bsP p c).getD x51.1 0) t x52.1)) then ((1+(lfP p a ((bsP p c).getD x51.1 0) (t+1+(jko p a x52)))):Int) else (ee p a (lf0 p a c t) (aV p c t x51.1++bD p ((bsP p c).getD x51.1 0) t x52.1)))]:aa) (rno (sg 21 []) 3 (.cells true 0 [nI (ee p a (lf0 p a c t) (aV p c t x51.1++bD p ((bsP p c).getD x51.1 0) t bi.1))]:aa))/\True)/\jk1 c t))))) (jk3 t p a x52 c x51 r53)) (jk3 t p a x52 c x51 r53))))
abbrev jkj(p:Pl)(Kx:ab (sfP p))(a:Int)(Lx:ab (lfP p a)):Nat×ab (sfP p)×ab (lfP p a):=(0,Kx,Lx)
abbrev jk8(p:Pl)(a:Int)(x51:Nat×ab (sfP p)×ab (lfP p a)):Nat×ab (sfP p)×ab (lfP p a):=(0,x51.2.1,x51.2.2)
abbrev qY(p:Pl)(a c t:Int)(x51:Nat×ab (sfP p)×ab (lfP p a)):=ee p a (lf0 p a c t) (aV p c t x51.1)
abbrev jkz(p:Pl)(a:Int)(x52:Nat×ab (sfP p)×ab (lfP p a)):=Int.tdiv ((6*p.size)-1) ((((x52.1+1):Nat):Int)-1)
def rI(p:Pl)(a c t:Int)(Kx:ab (sfP p))(Lx:ab (lfP p a)):Prop :=
 ((jkg/\(jkk p)/\(tP p)/\(jkm p)/\(tO p)/\(tN p)/\(tM p)/\(tL p)/\(ac (.map (knE Kx.1)))/\True)/\(∀H':Heap,H'.length=20->(H'[0]?=some jki/\H'[7]?=some (jkl p)/\H'[1]?=some (tK p)/\H'[2]?=some (jkp p)/\H'[3]?=some (tJ p)/\H'[4]?=some (tI p)/\H'[5]?=some (tH p)/\H'[6]?=some (tG p)/\H'[8]?=some (.map (knE Kx.1):aa)/\True)->ad prog 62 [pt 7,nI c] H' [] (Is (slQ 20 1 (bsP p c).length) (H' ++ [(.cells true 1 ((bsP p c).flatMap bc):aa)])))/\(true=true/\((jkj p Kx a Lx).1<=List.length (bsP p c))/\(true=true/\((nI 0:Value)=nI (((jkj p Kx a Lx).1:Nat):Int)/\jkh p c)/\((kbq 21 (.map (knE Kx.1)) (.map (knE (jkj p Kx a Lx).2.1.1)))/\(kbq 21 (.map (knE Lx.1)) (.map (knE (jkj p Kx a Lx).2.2.1)))/\wkO (.cells true 0 [nI (lf0 p a c t)]:aa) (rno (sg 21 []) 3 (.cells true 0 [nI (ee p a (lf0 p a c t) (aV p c t (jkj p Kx a Lx).1))]:aa))/\True)/\jk1 c t)/\(∀x51:Nat×ab (sfP p)×ab (lfP p a),true=true)/\∀x51:Nat×ab (sfP p)×ab (lfP p a),(x51.1<=List.length (bsP p c))->(fk (decide ((((x51.1:Nat):Int):Int)<(((bsP p c).length:Nat):Int))) ((ixq ((x51.1:Nat):Int) (bsP p c).length)/\((((bsP p c).flatMap bc)[(0+Int.toNat ((x51.1:Nat):Int)*1)]?=some (nI ((bsP p c).getD x51.1 0)))/\(nw (t+1) (true=true/\(((jk8 p a x51).1<=Int.toNat (endP p-t)/\okL p ((bsP p c).getD x51.1 0) t (jk8 p a x51).1=true))/\(true=true/\((nI (t+1):Value)=nI (t+1+(((jk8 p a x51).1:Nat):Int))/\(nI 250:Value)=nI (bR p ((bsP p c).getD x51.1 0) t (jk8 p a x51).1)/\jkf p c a x51)/\((kbq 21 (.map (knE x51.2.1.1)) (.map (knE (jk8 p a x51).2.1.1)))/\(kbq 21 (.map (knE x51.2.2.1)) (.map (knE (jk8 p a x51).2.2.1)))/\wkO (.cells true 0 [nI (qY p a c t x51)]:aa) (rno (sg 21 []) 3 (.cells true 0 [nI (ee p a (lf0 p a c t) (aV p c t x51.1++bD p ((bsP p c).getD x51.1 0) t (jk8 p a x51).1))]:aa))/\True)/\jk1 c t)/\(∀x52:Nat×ab (sfP p)×ab (lfP p a),true=true)/\∀x52:Nat×ab (sfP p)×ab (lfP p a),((x52.1<=Int.toNat (endP p-t)/\okL p ((bsP p c).getD x51.1 0) t x52.1=true))->(fk (decide (((t+1+(jko p a x52)):Int)<=(endP p))) (nw ((t+1+(jko p a x52))-1) ((jkg/\(jkk p)/\(tP p)/\(jkm p)/\(tO p)/\(tN p)/\(tM p)/\(tL p)/\(ac (.map (knE x52.2.1.1)))/\True)/\(∀H':Heap,H'.length=21->(H'[0]?=some jki/\H'[7]?=some (jkl p)/\H'[1]?=some (tK p)/\H'[2]?=some (jkp p)/\H'[3]?=some (tJ p)/\H'[4]?=some (tI p)/\H'[5]?=some (tH p)/\H'[6]?=some (tG p)/\H'[8]?=some (.map (knE x52.2.1.1):aa)/\True)->ad prog 119 [pt 7,nI ((bsP p c).getD x51.1 0),nI ((t+1+(jko p a x52))-1)] H' [8] (fun y H2 => ∃z1_:ab (sfP p),True/\y=nI (sfP p ((bsP p c).getD x51.1 0) (Int.tdiv ((t+1+(jko p a x52))-1) 6))/\H2=(List.set H' 8 (.map (knE z1_.1):aa))))/\(∀r53:ab (sfP p),True->(((nI (if ((sfP p ((bsP p c).getD x51.1 0) (Int.tdiv ((t+1+(jko p a x52))-1) 6)):Int)<(bR p ((bsP p c).getD x51.1 0) t x52.1) then ((sfP p ((bsP p c).getD x51.1 0) (Int.tdiv ((t+1+(jko p a x52))-1) 6)):Int) else (bR p ((bsP p c).getD x51.1 0) t x52.1)):Value)=nI (bR p ((bsP p c).getD x51.1 0) t (x52.1+1)))/\(fk (decide (((bR p ((bsP p c).getD x51.1 0) t (x52.1+1)):Int)<10)) (jk4 p a x51 c r53 x52 t) (nw ((t+1+(jko p a x52))-t) (((nI ((t+1+(jko p a x52))-t):Value)=nI (((x52.1+1):Nat):Int))/\(fk (decide ((1:Int)<(((x52.1+1):Nat):Int))) (nw (6*p.size) (nw ((6*p.size)-1) (nw ((((x52.1+1):Nat):Int)-1) (((((((x52.1+1):Nat):Int)-1):Int)≠0)/\(nw (jkz p a x52) (((nI (if ((jkz p a x52):Int)<(bR p ((bsP p c).getD x51.1 0) t (x52.1+1)) then ((jkz p a x52):Int) else (bR p ((bsP p c).getD x51.1 0) t (x52.1+1))):Value)=nI (spL p ((bsP p c).getD x51.1 0) t (x52.1+1)))/\(om p a c t x51 x52 r53))))))) (((nI (bR p ((bsP p c).getD x51.1 0) t (x52.1+1)):Value)=nI (spL p ((bsP p c).getD x51.1 0) t (x52.1+1)))/\(om p a c t x51 x52 r53)))))))))) (nw (((x51.1:Nat):Int)+1) (∃cj:Nat×ab (sfP p)×ab (lfP p a),(cj.1<=List.length (bsP p c))/\(List.length (bsP p c)-cj.1)<(List.length (bsP p c)-x51.1)/\true=true/\((nI (((x51.1:Nat):Int)+1):Value)=nI ((cj.1:Nat):Int)/\jkh p c)/\((kbq 21 (.map (knE x52.2.1.1)) (.map (knE cj.2.1.1)))/\(kbq 21 (.map (knE x52.2.2.1)) (.map (knE cj.2.2.1)))/\wkO (.cells true 0 [nI (ee p a (lf0 p a c t) (aV p c t x51.1++bD p ((bsP p c).getD x51.1 0) t x52.1))]:aa) (rno (sg 21 []) 3 (.cells true 0 [nI (ee p a (lf0 p a c t) (aV p c t cj.1))]:aa))/\True)/\jk1 c t))))))) ((lO prog 218 (.agg #[nI c,nI t]) (nI (qY p a c t x51)) (knE x51.2.2.1)=some (knE (gX (c,t) (qY p a c t x51) x51.2.2.1)))/\(∃x:ab (sfP p)×ab (lfP p a),True/\(true=true/\wk (nI (qY p a c t x51):Value) (rn (sg 14 []) 3 (nI (lfP p a c t):Value))/\((kbq 14 (.map (knE x51.2.1.1)) (.map (knE x.1.1)))/\(kbq 14 (.map (knE (gX (c,t) (qY p a c t x51) x51.2.2.1))) (.map (knE x.2.1)))/\True)/\(True)))))))
abbrev jkq(p:Pl)(K0:ab (sfP p))(a:Int)(x:ab (sfP p)×ab (lfP p a))(L0:ab (lfP p a)):Prop:=((kbq 14 (.map (knE K0.1)) (.map (knE x.1.1)))/\(kbq 14 (.map (knE L0.1)) (.map (knE x.2.1)))/\True)/\(True)
abbrev jkx:Hint:=.go 0 (.again [])
abbrev jkn:Nat×aa:=(0,.cells false 0 jk2)
abbrev jkr(p:Pl):Nat×aa:=(7,.cells true 0 (jk0 p))
abbrev jks(p:Pl):Nat×aa:=(1,.cells true 1 (jk9 p))
abbrev jke(p:Pl):Nat×aa:=(2,.cells false 0 (p.cts.flatMap chC))
abbrev jkt(p:Pl):Nat×aa:=(3,.cells true 1 (jka p))
abbrev jku(p:Pl):Nat×aa:=(4,.cells true 2 (jkb p))
abbrev jkv(p:Pl):Nat×aa:=(5,.cells true 2 (jkc p))
abbrev jkw(p:Pl):Nat×aa:=(6,.cells true 2 (jkd p))
abbrev Gf:Nat×aa:=(12,.cells true 0 [.func (.func 113) #[] #[pt 9,pt 10,pt 11,pt 12]])
def Fa(p:Pl)(a c t:Int)(K0:ab (sfP p))(L0:ab (lfP p a)):Prop :=
 (fk ((t:Int) == a) (fk ((c:Int) == p.to) (∃x:ab (sfP p)×ab (lfP p a),True/\(true=true/\wk (nI 0:Value) (rn (sg 14 []) 3 (nI (lfP p a c t):Value))/\jkq p K0 a x L0)) (∃x:ab (sfP p)×ab (lfP p a),True/\(true=true/\wk (nI 1048576:Value) (rn (sg 14 []) 3 (nI (lfP p a c t):Value))/\jkq p K0 a x L0))) ((hO prog 218 (nI 0) (.agg #[nI c,nI t]) true (knE L0.1)=some (.tuple #[nI (iv (c,t) 0 L0.1),.bool (fe (c,t) L0.1)]))/\(fk (fe (c,t) L0.1) (∃x:ab (sfP p)×ab (lfP p a),True/\(true=true/\wk (nI (iv (c,t) 0 L0.1):Value) (rn (sg 14 []) 3 (nI (lfP p a c t):Value))/\jkq p K0 a x L0)) (nw (t+1) ((jkg/\(jkk p)/\(tP p)/\(jkm p)/\(tO p)/\(tN p)/\(tM p)/\(tL p)/\(ac (.map (knE K0.1)))/\True)/\(∀H':Heap,H'.length=16->(H'[0]?=some jki/\H'[7]?=some (jkl p)/\H'[1]?=some (tK p)/\H'[2]?=some (jkp p)/\H'[3]?=some (tJ p)/\H'[4]?=some (tI p)/\H'[5]?=some (tH p)/\H'[6]?=some (tG p)/\H'[8]?=some (.map (knE K0.1):aa)/\True)->ad prog 70 [pt 7,nI c,nI t,nI (t+1)] H' [8] (fun y H2 => ∃z:ab (sfP p),True/\y = .bool (wtB p c t (t+1))/\H2=(List.set H' 8 (.map (knE z.1):aa))))/\(∀r0:ab (sfP p),True->(fk (wtB p c t (t+1)) (nw (t+1) ((jkg/\(ac (.cells true 0 [nI a]))/\(ac (.cells true 0 [pt 7]))/\(ac (.cells true 0 [.map (some 13)]))/\jky/\(jkk p)/\(ac (.map (knE L0.1)))/\(tP p)/\(jkm p)/\(tO p)/\(tN p)/\(tM p)/\(tL p)/\(ac (.map (knE r0.1)))/\True)/\(∀H':Heap,H'.length=16->(H'[0]?=some jki/\H'[9]?=some (.cells true 0 [nI a]:aa)/\H'[10]?=some (.cells true 0 [pt 7]:aa)/\H'[11]?=some (.cells true 0 [.map (some 13)]:aa)/\H'[12]?=some Dk/\H'[7]?=some (jkl p)/\H'[13]?=some (.map (knE L0.1):aa)/\H'[1]?=some (tK p)/\H'[2]?=some (jkp p)/\H'[3]?=some (tJ p)/\H'[4]?=some (tI p)/\H'[5]?=some (tH p)/\H'[6]?=some (tG p)/\H'[8]?=some (.map (knE r0.1):aa)/\True)->ad prog 113 [nI c,nI (t+1),pt 9,pt 10,pt 11,pt 12] H' [8,13] (fun y H2 => ∃z:ab (sfP p)×ab (lfP p a),True/\y=nI (lfP p a c (t+1))/\H2=(List.set (List.set H' 8 (.map (knE z.1.1):aa)) 13 (.map (knE z.2.1):aa))))/\(∀r1:ab (sfP p)×ab (lfP p a),True->((some (.cells true 0 [nI (lfP p a c (t+1))]:aa)=some (.cells true 0 [nI (lf0 p a c t)]:aa))/\(rI p a c t r1.1 r1.2))))) ((some (.cells true 0 [nI 1048576]:aa)=some (.cells true 0 [nI (lf0 p a c t)]:aa))/\(rI p a c t r0 L0)))))))))
def Cf(p:Pl)(a c t:Int)(x51 x52:Nat×ab (sfP p)×ab (lfP p a))(r53:ab (sfP p)):Hint :=
 .go 1 (.fork (.go 0 (.slot 73 (nI (((x51.1:Nat):Int)+1)) jkx)) (.go 1 (.ans [jkn,(jkr p),(jks p),(jke p),(jkt p),(jku p),(jkv p),(jkw p),(8,.map (knE r53.1))] (nI (tkP p (spL p ((bsP p c).getD x51.1 0) t (x52.1+1)))) [] (.go 2 (.aM (.go 5 (.into (some [8,13,15,19]) (.go 5 (.fork (.go 5 (.cg [jkn,(9,.cells true 0 [nI a]),(10,.cells true 0 [pt 7]),(11,.cells true 0 [.map (some 13)]),Gf,(jkr p),(13,.map (knE x52.2.2.1)),(jks p),(jke p),(jkt p),(jku p),(jkv p),(jkw p),(8,.map (knE r53.1))] [8,13] (ab (sfP p)×ab (lfP p a)) (fun r51=>True) (fun r51=>nI (lfP p a ((bsP p c).getD x51.1 0) (t+1+(jko p a x52)))) (fun r51=>[(8,.map (knE r51.1.1)),(13,.map (knE r51.2.1))]) (fun r51=>[]) (fun r51 => .go 0 (.slot 62 (nI (1+(lfP p a ((bsP p c).getD x51.1 0) (t+1+(jko p a x52))))) (.go 6 (.slot 28 (nI ((t+1+(jko p a x52))+1)) jkx)))))) (.go 4 (.slot 28 (nI ((t+1+(jko p a x52))+1)) jkx)))))) (.go 3 (.slot 28 (nI ((t+1+(jko p a x52))+1)) jkx)))))))
def Cg(p:Pl)(a c t:Int)(Kx:ab (sfP p))(Lx:ab (lfP p a)):Hint :=
 .go 9 (.into (some [8,13,14,15,16,17,18]) (.go 1 (.ans [jkn,(jkr p),(jks p),(jke p),(jkt p),(jku p),(jkv p),(jkw p),(8,.map (knE Kx.1))] (slQ 20 1 (bsP p c).length) [.cells true 1 ((bsP p c).flatMap bc)] (.go 1 (.inv 3 (Nat×ab (sfP p)×ab (lfP p a)) ((jkj p Kx a Lx)) [] [8,13,15,19] (fun x51=>[(15,nI ((x51.1:Nat):Int)),(3,pt 18),(1,pt 16),(0,.func (.yield 19) #[] #[]),(13,slQ 20 1 (bsP p c).length),(14,nI (((bsP p c).length:Nat):Int))]) (fun x51=>[(8,true,.map (knE x51.2.1.1)),(13,true,.map (knE x51.2.2.1)),(15,false,.cells true 0 [nI (qY p a c t x51)])]) (fun x51=>[]) (fun x51=>[(19,[(12,pt 15),(9,pt 14),(0,nI c),(1,nI t),(2,pt 9),(3,pt 10),(4,pt 11),(5,pt 12)])]) (fun x51=>(x51.1<=List.length (bsP p c))) (fun x51=>(List.length (bsP p c)-x51.1)) (fun x51 => .go 0 (.fork (.need (.val (nI ((bsP p c).getD x51.1 0)) (.go 3 (.slot 20 (nI (t+1)) (.go 0 (.inv 3 (Nat×ab (sfP p)×ab (lfP p a)) ((jk8 p a x51)) [] [8,13,15,19] (fun x52=>[(8,nI (t+1+(jko p a x52))),(7,nI (bR p ((bsP p c).getD x51.1 0) t x52.1)),(14,nI (((bsP p c).length:Nat):Int)),(13,slQ 20 1 (bsP p c).length),(0,.func (.yield 19) #[] #[]),(1,pt 16),(3,pt 18),(15,nI ((x51.1:Nat):Int)),(6,nI ((bsP p c).getD x51.1 0))]) (fun x52=>[(8,true,.map (knE x52.2.1.1)),(13,true,.map (knE x52.2.2.1)),(15,false,.cells true 0 [nI (ee p a (lf0 p a c t) (aV p c t x51.1++bD p ((bsP p c).getD x51.1 0) t x52.1))])]) (fun x52=>[]) (fun x52=>[(19,[(12,pt 15),(9,pt 14),(0,nI c),(1,nI t),(2,pt 9),(3,pt 10),(4,pt 11),(5,pt 12)])]) (fun x52=>((x52.1<=Int.toNat (endP p-t)/\okL p ((bsP p c).getD x51.1 0) t x52.1=true))) (fun x52=>(Int.toNat (endP p-t)-x52.1)) (fun x52 => .go 5 (.fork (.go 4 (.slot 33 (nI ((t+1+(jko p a x52))-1)) (.cg [jkn,(jkr p),(jks p),(jke p),(jkt p),(jku p),(jkv p),(jkw p),(8,.map (knE x52.2.1.1))] [8] (ab (sfP p)) (fun r53=>True) (fun r53=>nI (sfP p ((bsP p c).getD x51.1 0) (Int.tdiv ((t+1+(jko p a x52))-1) 6))) (fun r53=>[(8,.map (knE r53.1))]) (fun r53=>[]) (fun r53 => .go 1 (.slot 7 (nI (bR p ((bsP p c).getD x51.1 0) t (x52.1+1))) (.go 1 (.fork (.go 0 (.slot 73 (nI (((x51.1:Nat):Int)+1)) jkx)) (.go 3 (.slot 41 (nI ((t+1+(jko p a x52))-t)) (.go 1 (.slot 10 (nI (((x52.1+1):Nat):Int)) (.go 1 (.fork (.go 6 (.slot 50 (nI (6*p.size)) (.go 0 (.slot 51 (nI ((6*p.size)-1)) (.go 1 (.slot 53 (nI ((((x52.1+1):Nat):Int)-1)) (.need (.slot 54 (nI (jkz p a x52)) (.go 1 (.slot 9 (nI (spL p ((bsP p c).getD x51.1 0) t (x52.1+1))) ((Cf p a c t x51 x52 r53)))))))))))) (.slot 9 (nI (spL p ((bsP p c).getD x51.1 0) t (x52.1+1))) ((Cf p a c t x51 x52 r53)))))))))))))))) (.go 0 (.slot 73 (nI (((x51.1:Nat):Int)+1)) jkx)))))))))) (.keep (.go 2 (.An (knE (gX (c,t) (qY p a c t x51) x51.2.2.1)) (.go 1 (.keep (.again [])))))))))))))
abbrev jk5(p:Pl)(K0:ab (sfP p))(a:Int)(L0:ab (lfP p a)):=aG [.cells false 0 jk2,.cells true 1 (jk9 p),.cells false 0 (p.cts.flatMap chC),.cells true 1 (jka p),.cells true 2 (jkb p),.cells true 2 (jkc p),.cells true 2 (jkd p),.cells true 0 (jk0 p),.map (knE K0.1),.cells true 0 [nI a],.cells true 0 [pt 7],.cells true 0 [.map (some 13)],.cells true 0 [.func (.func 113) #[] #[pt 9,pt 10,pt 11,pt 12]],.map (knE L0.1)]
theorem I3(p:Pl)(a c t:Int)(K0:ab (sfP p))(L0:ab (lfP p a)):vF prog msk (dm 0) 100000 true 40 true 113 [nI c,nI t,pt 9,pt 10,pt 11,pt 12] (jk5 p K0 a L0) (some [8,13])
 (.go 3 (.fork (.go 6 (.fork (.go 0 (.keep (.again []))) (.go 0 (.keep (.again []))))) (.go 6 (.val (.tuple #[nI (iv (c,t) 0 L0.1),.bool (fe (c,t) L0.1)]) (.go 5 (.fork (.go 1 (.keep (.again []))) (.go 6 (.slot 39 (nI (t+1)) (.cg [jkn,(jkr p),(jks p),(jke p),(jkt p),(jku p),(jkv p),(jkw p),(8,.map (knE K0.1))] [8] (ab (sfP p)) (fun r0=>True) (fun r0 => .bool (wtB p c t (t+1))) (fun r0=>[(8,.map (knE r0.1))]) (fun r0=>[]) (fun r0 => .fork (.go 3 (.slot 44 (nI (t+1)) (.cg [jkn,(9,.cells true 0 [nI a]),(10,.cells true 0 [pt 7]),(11,.cells true 0 [.map (some 13)]),Gf,(jkr p),(13,.map (knE L0.1)),(jks p),(jke p),(jkt p),(jku p),(jkv p),(jkw p),(8,.map (knE r0.1))] [8,13] (ab (sfP p)×ab (lfP p a)) (fun r1=>True) (fun r1=>nI (lfP p a c (t+1))) (fun r1=>[(8,.map (knE r1.1.1)),(13,.map (knE r1.2.1))]) (fun r1=>[]) (fun r1 => .go 0 (.obj 15 (.cells true 0 [nI (lf0 p a c t)]) ((Cg p a c t r1.1 r1.2))))))) (.obj 15 (.cells true 0 [nI (lf0 p a c t)]) ((Cg p a c t r0 L0)))))))))))))
 (cK (α:=ab (sfP p)×ab (lfP p a)) ((jk5 p K0 a L0):HT).n 3 [8,13] (fun x=>True) (fun x=>nI (lfP p a c t)) (fun x=>[(8,true,.map (knE x.1.1)),(13,true,.map (knE x.2.1))]) (fun x=>[]))=Fa p a c t K0 L0:=by kernel_rfl
abbrev fnV(A B C D:Nat):Value:=.func (.func 113) #[] #[pt A,pt B,pt C,pt D]
def uH(H:Heap)(p:Pl)(a:Int)(K:ab (sfP p))(L:ab (lfP p a))(l c n t w i W m A B C D M:Nat):Prop :=
 [0,l,c,n,t,w,i,W,m,A,B,C,D,M].Nodup/\i7 H p K l c n t w i W m/\H[A]?=some (.cells true 0 [nI a])/\H[B]?=some (.cells true 0 [pt W])/\H[C]?=some (.cells true 0 [.map (some M)])/\H[D]?=some (.cells true 0 [fnV A B C D])/\H[M]?=some (.map (knE L.1))
abbrev yI(p:Pl)(a:Int)(K:ab (sfP p))(L:ab (lfP p a)):List aa:=wOs p K ++ [.cells true 0 [nI a],.cells true 0 [pt 7],.cells true 0 [.map (some 13)],.cells true 0 [fnV 9 10 11 12],.map (knE L.1)]
theorem CM(p:Pl)(a:Int)(K:ab (sfP p))(L:ab (lfP p a)):(yI p a K L).all (am 3)=true:=by
 rw[List.all_append,jE]
 show (true&&(am 3 (.cells true 0 [nI a])&&(am 3 (.cells true 0 [pt 7])&&(am 3 (.cells true 0 [.map (some 13)])&&(am 3 (.cells true 0 [fnV 9 10 11 12])&&(am 3 (.map (knE L.1))&&true))))))=true
 rw[(plM L.1).ok];rfl
theorem uH.objs{H:Heap}{p:Pl}{a:Int}{K:ab (sfP p)}{L:ab (lfP p a)}{l c n t w i W m A B C D M:Nat}(h:uH H p a K L l c n t w i W m A B C D M):cR H (sgI [0,l,c,n,t,w,i,W,m,A,B,C,D,M]) [0,l,c,n,t,w,i,W,m,A,B,C,D,M] (yI p a K L):=by
 obtain ⟨_,⟨_,a0,a1,a2,a3,a4,a5,a6,a7,a8⟩,b1,b2,b3,b4,b5⟩:=h
 exact ⟨a0,by rw[dB];exact a1,by rw[nX];exact a2,by rw[dB];exact a3,by rw[cJ];exact a4,by rw[cJ];exact a5,by rw[cJ];exact a6,a7,by rw[(plM K.1).rn];exact a8,b1,b2,b3,b4,by rw[(plM L.1).rn];exact b5,trivial⟩
theorem Au{H:Heap}{p:Pl}{a:Int}{K:ab (sfP p)}{L:ab (lfP p a)}{Q:Prop}(h:H[0]?=some bC/\H[9]?=some (.cells true 0 [nI a])/\H[10]?=some (.cells true 0 [pt 7])/\H[11]?=some (.cells true 0 [.map (some 13)])/\H[12]?=some (.cells true 0 [fnV 9 10 11 12]) /\
  H[7]?=some (.cells true 0 (wkC p 1 2 3 4 5 6 8))/\H[13]?=some (.map (knE L.1))/\H[1]?=some (.cells true 1 (p.land.flatMap af))/\H[2]?=some (.cells false 0 (p.cts.flatMap chC))/\H[3]?=some (.cells true 1 (p.chan.flatMap af)) /\
  H[4]?=some (.cells true 2 (p.shp.th.flatMap ptC))/\H[5]?=some (.cells true 2 (p.shp.wa.flatMap ptC))/\H[6]?=some (.cells true 2 (p.shp.ic.flatMap ptC))/\H[8]?=some (.map (knE K.1))/\Q):uH H p a K L 1 2 3 4 5 6 7 8 9 10 11 12 13:=by
 obtain ⟨a0,b1,b2,b3,b4,a7,b5,a1,a2,a3,a4,a5,a6,a8,_⟩:=h
 exact ⟨by decide,⟨by decide,a0,a1,a2,a3,a4,a5,a6,a7,a8⟩,b1,b2,b3,b4,b5⟩
abbrev nj(c t:Int)(A B C D:Nat):List Value:=[nI c,nI t,pt A,pt B,pt C,pt D]
abbrev rL(p:Pl)(a c t:Int)(H:Heap)(m M:Nat):Value->Heap->Prop:=fun y H2 => ∃z:ab (sfP p)×ab (lfP p a),True/\y=nI (lfP p a c t)/\H2=(H.set m (.map (knE z.1.1))).set M (.map (knE z.2.1))
theorem Ht{p:Pl}{a c t:Int}{K:ab (sfP p)}{L:ab (lfP p a)}{h:Hint}
  (hc:vF prog msk (dm 0) 100000 true 40 true 113 (nj c t 9 10 11 12) (aG (yI p a K L)) (some [8,13]) h (cK (α:=ab (sfP p)×ab (lfP p a)) (aG (yI p a K L)).n 3 [8,13] (fun _=>True) (fun _=>nI (lfP p a c t)) (fun x=>[(8,true,.map (knE x.1.1)),(13,true,.map (knE x.2.1))]) (fun _=>[])))
  {H:Heap} {l c' n t' w i W m A B C D M:Nat} (at_:uH H p a K L l c' n t' w i W m A B C D M):ad prog 113 (nj c t A B C D) H [m,M] (rL p a c t H m M):=by
 have hks:∀k ∈ [8,13],∃o,(yI p a K L)[k]?=some o/\o.owned=true:=by
  intro k hk
  rcases List.mem_cons.1 hk with rfl|hk
  ·exact ⟨_,rfl,rfl⟩
  ·obtain rfl:=List.mem_singleton.1 hk
   exact ⟨_,rfl,rfl⟩
 have key:=lI (α:=ab (sfP p)×ab (lfP p a)) (I:=fun _=>True) (os:=yI p a K L) (fun _ _=>nI (lfP p a c t)) (chg:=fun x=>[(8,true,.map (knE x.1.1)),(13,true,.map (knE x.2.1))]) (new:=fun _=>[]) (ks:=[8,13])
  hc (CM p a K L) hks (fun _ _=>rfl) (fun x _=>⟨⟨List.mem_cons_self,plM x.1.1⟩,⟨List.mem_cons_of_mem _ (List.mem_singleton.2 rfl),plM x.2.1⟩,trivial⟩) (fun _ _=>trivial) at_.1 at_.objs rfl (fun _ _ _=>rfl) rfl (ms:=[m,M]) rfl
 refine key.post ?_
 rintro y H2 ⟨x,_,rfl,rfl⟩
 exact ⟨x,trivial,rfl,List.append_nil _⟩
abbrev GQ(p:Pl)(a t:Int):Prop:=∀(c' t':Int) (K:ab (sfP p)) (L:ab (lfP p a)) (H:Heap),(0<=c'/\c'<(p.land.length:Int))->t<t'->t'<=a->uH H p a K L 1 2 3 4 5 6 7 8 9 10 11 12 13 ->
 ad prog 113 (nj c' t' 9 10 11 12) H [8,13] (rL p a c' t' H 8 13)
theorem Js(a b:Int):min a b=if b<a then b else a:=by
 by_cases h:b<a
 ·rw[if_pos h];omega
 ·rw[if_neg h];omega
theorem HL{p:Pl}(o:bG p){a c t:Int}(ih:GQ p a t)(hc:0<=c/\c<(p.land.length:Int))(ht:0<=t/\t<a)(ha:a<=endP p){x51 x52:Nat×ab (sfP p)×ab (lfP p a)}{r53:ab (sfP p)}(h1:x51.1<(bsP p c).length)(h2:x52.1<Int.toNat (endP p-t))
  (hk:okL p ((bsP p c).getD x51.1 0) t x52.1=true) (hl:¬ bR p ((bsP p c).getD x51.1 0) t (x52.1+1)<10):om p a c t x51 x52 r53:=by
 have he:=dG o
 have hb:=ft p c
 have hs:=ml p ((bsP p c).getD x51.1 0) t (x52.1+1)
 have hp:=uS p ((bsP p c).getD x51.1 0) t (x52.1+1)
 have hto:=nY o hc h1
 delta om jk4 jkg jkk jk7 jki jkl jk6 jko jky Dk jkf jk1 jk3 tK jkp tJ tI tH tG jkd jkc jkb jka jk9 jk0 jk2 tP jkm tO tN tM tL jkh nI slQ pt ac fk nw eR wR kbq
 refine ⟨fun k=>⟨ak (by omega),(x51.1+1,r53,x52.2.2),by show x51.1+1<=_;omega,by show _-(x51.1+1)<_;omega,rfl,?_⟩,fun k =>?_⟩
 ·rw[show aV p c t (x51.1+1)=_ from dy h1 (Nat.le_of_lt h2) (.inr (vY (of_decide_eq_true k)))]
  repeat' first|exact knB _ _|exact bh rfl|exact trivial|exact rfl|exact ae _|refine ⟨rfl,?_⟩|refine ⟨trivial,?_⟩|apply And.intro
 ·have hk2:okL p ((bsP p c).getD x51.1 0) t (x52.1+1)=true:=by rw[mS,hk,rc hl (of_decide_eq_false k)];rfl
  have hsp:=of_decide_eq_false k
  refine ⟨?_,fun H' hn h=>qV o (by omega) (eG h),fun q =>?_,fun q =>?_⟩
  ·repeat' first|exact trivial|refine ⟨rfl,?_⟩
  ·have yes:ee p a (lf0 p a c t) (aV p c t x51.1++bD p ((bsP p c).getD x51.1 0) t (x52.1+1))=lfS p a (ee p a (lf0 p a c t) (aV p c t x51.1++bD p ((bsP p c).getD x51.1 0) t x52.1)) ⟨(bsP p c).getD x51.1 0,t,spL p ((bsP p c).getD x51.1 0) t (x52.1+1),t+1+(x52.1:Int)⟩:=by
    have e:ek p ((bsP p c).getD x51.1 0) t x52.1=[⟨(bsP p c).getD x51.1 0,t,spL p ((bsP p c).getD x51.1 0) t (x52.1+1),t+1+(x52.1:Int)⟩]:=by
     unfold ek;rw[hk2,q];rfl
    rw[dU,<- List.append_assoc,e,yH]
   refine ⟨fun r =>?_,fun r =>?_⟩
   ·have hr:=of_decide_eq_true r
    have hbd:=As p (c:=(bsP p c).getD x51.1 0) hr
    refine ⟨?_,fun H' hn h=>ih _ _ _ _ _ hto (by omega) hr (Au h),fun r51 _=>⟨ak (by omega),ak (by omega),(x52.1+1,r51.1,r51.2),⟨by show x52.1+1<=_;omega,hk2⟩,by show _-(x52.1+1)<_;omega,rfl,?_⟩⟩
    ·repeat' first|exact trivial|refine ⟨rfl,?_⟩
    ·rw[yes]
     unfold lfS
     rw[if_pos hr,Js]
     repeat' first|exact knB _ _|exact bh rfl|exact trivial|exact rfl|exact ae _|refine ⟨rfl,?_⟩|refine ⟨trivial,?_⟩|apply And.intro|(exact iEq (by omega))
   ·have hr:=of_decide_eq_false r
    refine ⟨ak (by omega),(x52.1+1,r53,x52.2.2),⟨by show x52.1+1<=_;omega,hk2⟩,by show _-(x52.1+1)<_;omega,rfl,?_⟩
    rw[yes]
    unfold lfS
    rw[if_neg hr]
    repeat' first|exact knB _ _|exact bh rfl|exact trivial|exact rfl|exact ae _|refine ⟨rfl,?_⟩|refine ⟨trivial,?_⟩|apply And.intro|(exact iEq (by omega))
  ·have no:aV p c t x51.1++bD p ((bsP p c).getD x51.1 0) t (x52.1+1)=aV p c t x51.1++bD p ((bsP p c).getD x51.1 0) t x52.1:=by
    rw[dU];unfold ek;rw[hk2,q];simp
   refine ⟨ak (by omega),(x52.1+1,r53,x52.2.2),⟨by show x52.1+1<=_;omega,hk2⟩,by show _-(x52.1+1)<_;omega,rfl,?_⟩
   rw[no]
   repeat' first|exact knB _ _|exact bh rfl|exact trivial|exact rfl|exact ae _|refine ⟨rfl,?_⟩|refine ⟨trivial,?_⟩|apply And.intro|(exact iEq (by omega))
theorem ES(a b:Int×Int):bH prog Op.maxDepth 218 (kyV a) (kyV b)=some (decide (a=b)):=by
 have h:bH prog Op.maxDepth 218 (kyV a) (kyV b)=some ((a.1 == b.1)&&((a.2 == b.2)&&true)):=by kernel_rfl
 rw[h]
 congr 1
 rw[Bool.and_true,Bool.eq_iff_iff,Bool.and_eq_true,beq_iff_eq,beq_iff_eq,decide_eq_true_eq]
 exact ⟨fun q=>Prod.ext q.1 q.2,fun q=>by rw[q];exact ⟨rfl,rfl⟩⟩
theorem EN{p:Pl}(o:bG p){a c t:Int}(ih:GQ p a t)(hc:0<=c/\c<(p.land.length:Int))(ht:0<=t/\t<a)(ha:a<=endP p)(Kx:ab (sfP p))(Lx:ab (lfP p a)):rI p a c t Kx Lx:=by
 have he:=dG o
 have hb:=ft p c
 delta rI jkg jkk tP jkm tO tN tM tL jki jkl tK jkp tJ tI tH tG jkj jkh jk1 jk8 jkf qY jko jk4 jkz jkd jkc jkb jka jk9 jk0 jk2 nI slQ pt ac fk nw eR wR kbq ixq
 refine ⟨?_,fun H' hn h=>hn ▸ ky o hc (eG h),rfl,Nat.zero_le _,⟨rfl,?_⟩,fun _=>rfl,fun x51 hx1=>⟨fun q1 =>?_,fun q1 =>?_⟩⟩
 ·repeat' first|exact trivial|refine ⟨rfl,?_⟩
 ·repeat' first|exact knB _ _|exact bh rfl|exact trivial|exact rfl|exact ae _|refine ⟨rfl,?_⟩|refine ⟨trivial,?_⟩|apply And.intro
 ·have hx:=of_decide_eq_true q1
  have hx':x51.1<(bsP p c).length:=by omega
  have e0:aV p c t x51.1++bD p ((bsP p c).getD x51.1 0) t 0=aV p c t x51.1:=List.append_nil _
  refine ⟨by omega,pM hx' (by omega),ak (by omega),rfl,⟨Nat.zero_le _,rfl⟩,⟨rfl,?_⟩,fun _=>rfl,fun x52 hx2=>⟨fun q2 =>?_,fun q2 =>?_⟩⟩
  ·rw[e0]
   repeat' first|exact knB _ _|exact bh rfl|exact trivial|exact rfl|exact ae _|refine ⟨rfl,?_⟩|refine ⟨trivial,?_⟩|apply And.intro|(exact iEq (by omega))
  ·have hq:=of_decide_eq_true q2
   have tU:x52.1<Int.toNat (endP p-t):=by omega
   have e1:Int.tdiv (t+1+(x52.1:Int)-1) 6=Int.tdiv (t+(x52.1:Int)) 6:=by congr 1;omega
   refine ⟨ak (by omega),?_,fun H' hn h=>td o (nY o hc hx') (by omega) (eG h),fun r53 _=>⟨?_,fun q3 =>?_,fun q3 =>?_⟩⟩
   ·repeat' first|exact trivial|refine ⟨rfl,?_⟩
   ·rw[nf e1]
   ·refine ⟨ak (by omega),(x51.1+1,r53,x52.2.2),by show x51.1+1<=_;omega,by show _-(x51.1+1)<_;omega,rfl,?_⟩
    rw[show aV p c t (x51.1+1)=_ from dy hx' (Nat.le_of_lt tU) (.inr (re (of_decide_eq_true q3)))]
    repeat' first|exact knB _ _|exact bh rfl|exact trivial|exact rfl|exact ae _|refine ⟨rfl,?_⟩|refine ⟨trivial,?_⟩|apply And.intro
   ·have tl:om p a c t x51 x52 r53:=HL o ih hc ht ha hx' tU hx2.2 (of_decide_eq_false q3)
    have hz:=o.size
    refine ⟨ak (by omega),iEq (by omega),fun q4 =>?_,fun q4 =>?_⟩
    ·have h4:=of_decide_eq_true q4
     have hdiv:0<=Int.tdiv (6*p.size-1) (((x52.1+1:Nat):Int)-1)/\Int.tdiv (6*p.size-1) (((x52.1+1:Nat):Int)-1)<=3000:=by
      rw[Int.tdiv_eq_ediv_of_nonneg (by omega)]
      exact ⟨Int.ediv_nonneg (by omega) (by omega),Int.le_trans (Int.ediv_le_self _ (by omega)) (by omega)⟩
     refine ⟨ak (by omega),ak (by omega),ak (by omega),by omega,ak (by omega),?_,tl⟩
     have h5:1<x52.1+1:=by omega
     unfold spL;rw[if_pos h5]
    ·refine ⟨?_,tl⟩
     have h5:¬ 1<x52.1+1:=by have:=of_decide_eq_false q4;omega
     unfold spL;rw[if_neg h5]
  ·have hq:=of_decide_eq_false q2
   refine ⟨ak (by omega),(x51.1+1,x52.2.1,x52.2.2),by show x51.1+1<=_;omega,by show _-(x51.1+1)<_;omega,rfl,?_⟩
   rw[show aV p c t (x51.1+1)=_ from dy hx' hx2.1 (.inl (by omega))]
   repeat' first|exact knB _ _|exact bh rfl|exact trivial|exact rfl|exact ae _|refine ⟨rfl,?_⟩|refine ⟨trivial,?_⟩|apply And.intro
 ·have hq:=of_decide_eq_false q1
  rw[gu (by omega),<- lj ht.2]
  refine ⟨EB (kt:=218) (key:=kyV) (val:=fun v=>nI v) ES HM (c,t) (lfP p a c t) x51.2.2.1,(x51.2.1,x51.2.2.put c t),trivial,rfl,ae _,⟨⟨rfl,knB _ _⟩,⟨rfl,knB _ _⟩,trivial⟩,trivial⟩
theorem H6{p:Pl}(o:bG p){a:Int}(ha:a<=endP p):∀(k:Nat) (c t:Int),Int.toNat (a-t)=k->(0<=c/\c<(p.land.length:Int))->0<=t->t<=a->∀{K:ab (sfP p)} {L:ab (lfP p a)} {H:Heap} {l c' n t' w i W m A B C D M:Nat},uH H p a K L l c' n t' w i W m A B C D M ->
  ad prog 113 (nj c t A B C D) H [m,M] (rL p a c t H m M):=by
 intro k
 induction k using Nat.strongRecOn with
 |_ k ih =>
  intro c t hk hc ht hta K L H l c' n t' w i W m A B C D M at_
  have he:=dG o
  refine Ht (Eq.mpr (I3 p a c t K L) ?_) at_
  delta Fa jkq jkg jkk tP jkm tO tN tM tL jki jkl tK jkp tJ tI tH tG jky Dk jkx jkn jkr jks jke jkt jku jkv jkw Gf jko jkj qY jk8 jkz jkd jkc jkb jka jk9 jk0 jk2 nI slQ pt ac fk nw kbq
  refine ⟨fun q =>?_,fun q =>?_⟩
  ·have hq:t=a:=by simpa using q
   subst hq
   have hE:=je p t c
   refine ⟨fun r =>?_,fun r =>?_⟩
   ·have hr:c=p.to:=by simpa using r
    rw[if_pos hr]at hE
    rw[hE]
    exact ⟨(K,L),trivial,rfl,ae _,⟨⟨rfl,knB _ _⟩,⟨rfl,knB _ _⟩,trivial⟩,trivial⟩
   ·have hr:¬ c=p.to:=by simpa using r
    rw[if_neg hr]at hE
    rw[hE]
    exact ⟨(K,L),trivial,rfl,ae _,⟨⟨rfl,knB _ _⟩,⟨rfl,knB _ _⟩,trivial⟩,trivial⟩
  ·have hq:¬ t=a:=by simpa using q
   have hlt:t<a:=by omega
   have IH:GQ p a t:=fun c2 t2 K2 L2 H2 h1 h2 h3 h4=>ih (Int.toNat (a-t2)) (by omega) c2 t2 rfl h1 (by omega) h3 h4
   refine ⟨Ap (kt:=218) (key:=kyV) (val:=fun v=>nI v) ES (c,t) 0 rfl true L.1,fun e =>?_,fun e =>?_⟩
   ·refine ⟨(K,L),trivial,rfl,?_,⟨⟨rfl,knB _ _⟩,⟨rfl,knB _ _⟩,trivial⟩,trivial⟩
    rw[L.2 c t e];exact ae _
   ·refine ⟨ak (by omega),?_,fun H' hn h=>qU o hc ht (by omega) (eG h),fun r0 _=>⟨fun r =>?_,fun r =>?_⟩⟩
    ·repeat' first|exact trivial|refine ⟨rfl,?_⟩
    ·refine ⟨ak (by omega),?_,fun H' hn h=>IH _ _ _ _ _ hc (by omega) (by omega) (Au h),fun r1 _=>⟨?_,EN o IH hc ⟨ht,hlt⟩ ha _ _⟩⟩
     ·repeat' first|exact trivial|refine ⟨rfl,?_⟩
     ·unfold lf0;rw[if_pos r]
    ·refine ⟨?_,EN o IH hc ⟨ht,hlt⟩ ha _ _⟩
     unfold lf0;rw[r];rfl
theorem fU{p:Pl}{c a b:Int}:wtB p c a b=true ↔ ∀u:Int,a<=u->u<b->sfP p c (Int.tdiv u 6)≠0:=by
 unfold wtB l8
 rw[List.all_eq_true]
 constructor
 ·intro h u h1 h2
  have:=h (Int.toNat (u-a)) (List.mem_range.2 (by omega))
  rw[show a+((Int.toNat (u-a):Nat):Int)=u by omega]at this
  simpa using this
 ·intro h n hn
  have:=List.mem_range.1 hn
  simpa using h (a+(n:Int)) (by omega) (by omega)
theorem ni(p:Pl)(a:Int):∀(l:List Leg) (n:Int),ee p a n l=n∨∃x∈l,x.arr<=a/\ee p a n l=1+lfP p a x.to x.arr
 | [],n => .inl rfl
 |x :: l,n=>by
  show ee p a (lfS p a n x) l=n∨∃y∈x :: l,y.arr<=a/\ee p a (lfS p a n x) l=1+lfP p a y.to y.arr
  rcases ni p a l (lfS p a n x) with h|⟨y,h1,h2,h3⟩
  ·rw[h]
   unfold lfS
   by_cases q:x.arr<=a
   ·rw[if_pos q]
    by_cases r:n<=1+lfP p a x.to x.arr
    ·exact .inl (by omega)
    ·exact .inr ⟨x,List.mem_cons_self,q,by omega⟩
   ·rw[if_neg q];exact .inl rfl
  ·exact .inr ⟨y,List.mem_cons_of_mem _ h1,h2,h3⟩
theorem qC(p:Pl)(a:Int):∀(l:List Leg) (n:Int),ee p a n l<=n/\∀x∈l,x.arr<=a->ee p a n l<=1+lfP p a x.to x.arr
 | [],n=>⟨Int.le_refl _,fun x hx=>by cases hx⟩
 |x :: l,n=>by
  show ee p a (lfS p a n x) l<=n/\∀y∈x :: l,y.arr<=a->ee p a (lfS p a n x) l<=1+lfP p a y.to y.arr
  obtain ⟨h1,h2⟩:=qC p a l (lfS p a n x)
  have hs:lfS p a n x<=n:=by
   unfold lfS
   by_cases q:x.arr<=a
   ·rw[if_pos q];omega
   ·rw[if_neg q];omega
  refine ⟨by omega,fun y hy hya =>?_⟩
  rcases List.mem_cons.1 hy with rfl|hy
  ·have:lfS p a n y<=1+lfP p a y.to y.arr:=by unfold lfS;rw[if_pos hya];omega
   omega
  ·exact h2 y hy hya
theorem GM(p:Pl)(a:Int):∀(k:Nat) (c t:Int),t<=a->Int.toNat (a-t)=k->0<lfP p a c t->lfP p a c t<1048576 ->
  ∃(j:Nat) (x:Leg),t+(j:Int)<a/\wtB p c t (t+(j:Int))=true/\x∈lgP p c (t+(j:Int))/\x.arr<=a/\lfP p a x.to x.arr=lfP p a c t-1:=by
 intro k
 induction k using Nat.strongRecOn with
 |_ k ih =>
  intro c t h1 h2 h3 h4
  by_cases e:t=a
  ·subst e
   rw[je]at h3 h4
   by_cases q:c=p.to
   ·rw[if_pos q]at h3;omega
   ·rw[if_neg q]at h4;omega
  have hlt:t<a:=by omega
  have E:=lj (p:=p) (c:=c) hlt
  rcases ni p a (lgP p c t) (lf0 p a c t) with h|⟨x,hx,hxa,h⟩
  ·rw[h]at E
   unfold lf0 at E
   by_cases w:wtB p c t (t+1)=true
   ·rw[if_pos w]at E
    obtain ⟨j,x,g1,g2,g3,g4,g5⟩:=ih (Int.toNat (a-(t+1))) (by omega) c (t+1) (by omega) rfl (by omega) (by omega)
    have ej:t+((j+1:Nat):Int)=t+1+(j:Int):=by omega
    refine ⟨j+1,x,by omega,?_,by rw[ej];exact g3,g4,by omega⟩
    rw[ej]
    rw[fU]at g2 w ⊢
    intro u u1 u2
    by_cases q:u<t+1
    ·exact w u u1 q
    ·exact g2 u (by omega) u2
   ·rw[if_neg w]at E;omega
  ·refine ⟨0,x,by omega,?_,by rw[show t+((0:Nat):Int)=t by omega];exact hx,hxa,by omega⟩
   rw[fU]
   intro u u1 u2;omega
theorem gB{p:Pl}{a n:Int}{x:Leg}:iP p a n x=true ↔ x.arr<=a/\lfP p a x.to x.arr=n-1:=by
 unfold iP;rw[Bool.and_eq_true,decide_eq_true_eq,beq_iff_eq]
theorem qf{p:Pl}{a n c t:Int}{k:Nat}{x:Leg}:x∈io p a n c t k ↔ ∃j,j<k/\wtB p c t (t+(j:Int))=true/\x∈lgP p c (t+(j:Int))/\x.arr<=a/\lfP p a x.to x.arr=n-1:=by
 unfold io
 rw[List.mem_flatMap]
 constructor
 ·rintro ⟨j,hj,hx⟩
  by_cases w:wtB p c t (t+(j:Int))=true
  ·rw[if_pos w]at hx
   have:=List.mem_filter.1 hx
   exact ⟨j,List.mem_range.1 hj,w,this.1,gB.1 this.2⟩
  ·rw[if_neg w]at hx;cases hx
 ·rintro ⟨j,hj,w,hx,g⟩
  exact ⟨j,List.mem_range.2 hj,by rw[if_pos w];exact List.mem_filter.2 ⟨hx,gB.2 g⟩⟩
theorem j0{p:Pl}{a n c t:Int}{k:Nat}:io p a n c t (k+1)=io p a n c t k++(if wtB p c t (t+(k:Int)) then D5 p a n c (t+(k:Int)) else []):=by
 unfold io;rw[List.range_succ,List.flatMap_append];simp
theorem oe{p:Pl}{a n c t:Int}{k:Nat}(h:wtB p c t (t+(k:Int))=false):∀{m:Nat},k<=m->io p a n c t m=io p a n c t k
 |0,hm=>by rw[Nat.le_zero.1 hm]
 |m+1,hm=>by
  by_cases e:k=m+1
  ·rw[e]
  ·have w:wtB p c t (t+(m:Int))=false:=by
    rw[Bool.eq_false_iff]at h ⊢
    exact fun q=>h (fU.2 fun u h1 h2=>fU.1 q u h1 (by omega))
   rw[j0,w]
   show io p a n c t m ++ []=_
   rw[List.append_nil];exact oe h (by omega)
theorem t7:∀(l:List Leg) (b:Leg),oS b l=b∨oS b l∈l
 | [],b => .inl rfl
 |x :: l,b=>by
  show oS (if kK x b<0 then x else b) l=b∨oS (if kK x b<0 then x else b) l∈x :: l
  rcases t7 l (if kK x b<0 then x else b) with h|h
  ·by_cases q:kK x b<0
   ·rw[if_pos q]at h ⊢;exact .inr (by rw[h];exact List.mem_cons_self)
   ·rw[if_neg q]at h ⊢;exact .inl h
  ·exact .inr (List.mem_cons_of_mem _ h)
theorem ua{l:List Leg}(h:0<l.length):iR l∈l:=by
 cases l with
 |nil=>cases h
 |cons b l =>
  rcases t7 l b with e|e
  ·show oS b l∈_;rw[e];exact List.mem_cons_self
  ·exact List.mem_cons_of_mem _ e
structure wz(p:Pl)(a:Int):Prop where
 a0:0<=a
 a1:a<=endP p
 fin:lfP p a p.frm 0<1048576
structure Cp(p:Pl)(a:Int)(k:Nat):Prop where
 c:0<=bsC p a k/\bsC p a k<(p.land.length:Int)
 t:0<=bsT p a k/\bsT p a k<=a
 n:bsN p a k=lfP p a p.frm 0-(k:Int)
theorem uA{p:Pl}{a:Int}{k:Nat}{x:Leg}(h:x∈dP p a k):∃j:Nat,bsT p a k+(j:Int)<a/\wtB p (bsC p a k) (bsT p a k) (bsT p a k+(j:Int))=true/\x∈lgP p (bsC p a k) (bsT p a k+(j:Int))/\x.arr<=a/\lfP p a x.to x.arr=bsN p a k-1:=by
 obtain ⟨j,hj,h1,h2,h3,h4⟩:=qf.1 h
 exact ⟨j,by omega,h1,h2,h3,h4⟩
theorem oh{p:Pl}{a:Int}{k:Nat}(ht:bsT p a k<=a)(h0:0<bsN p a k)(h1:bsN p a k<1048576):0<(dP p a k).length:=by
 obtain ⟨j,x,g1,g2,g3,g4,g5⟩:=GM p a _ (bsC p a k) (bsT p a k) ht rfl h0 h1
 exact List.length_pos_of_mem (qf.2 ⟨j,by omega,g2,g3,g4,g5⟩)
theorem DU{p:Pl}(o:bG p){a:Int}(b:wz p a):∀k:Nat,(k:Int)<=lfP p a p.frm 0->Cp p a k
 |0,_=>⟨(gV o.frm).1,⟨Int.le_refl _,b.a0⟩,by show lfP p a p.frm 0=_;omega⟩
 |k+1,hk=>by
  have ih:=DU o b k (by omega)
  have hn:=ih.n
  have hf:=b.fin
  have hp:0<(dP p a k).length:=oh ih.t.2 (by omega) (by omega)
  obtain ⟨j,g1,g2,g3,g4,g5⟩:=uA (ua hp)
  have hm:=eU g3
  have ht:=ih.t
  refine ⟨(jX o ih.c hm.1).1,⟨?_,g4⟩,?_⟩
  ·show 0<=(nxL p a k).arr
   have:bsT p a k+(j:Int)<(nxL p a k).arr:=hm.2.2.1
   omega
  ·show lfP p a (nxL p a k).to (nxL p a k).arr=_
   have:lfP p a (nxL p a k).to (nxL p a k).arr=bsN p a k-1:=g5
   omega
theorem od{p:Pl}(o:bG p){a:Int}(b:wz p a){k:Nat}(h:Cp p a k):∀j:Nat,(bJ p a k j).length<=j*1152
 |0=>by simp[bJ,io]
 |j+1=>by
  have ih:=od o b h j
  have e:bJ p a k (j+1)=bJ p a k j++(if wtB p (bsC p a k) (bsT p a k) (bsT p a k+(j:Int)) then D5 p a (bsN p a k) (bsC p a k) (bsT p a k+(j:Int)) else []):=j0
  have ht:=h.t
  have hl:=FX o (c:=bsC p a k) (t:=bsT p a k+(j:Int)) (by omega)
  have hf:(D5 p a (bsN p a k) (bsC p a k) (bsT p a k+(j:Int))).length<=(lgP p (bsC p a k) (bsT p a k+(j:Int))).length:=List.length_filter_le ..
  rw[e,List.length_append,Nat.add_mul]
  by_cases w:wtB p (bsC p a k) (bsT p a k) (bsT p a k+(j:Int))=true
  ·rw[if_pos w];omega
  ·rw[if_neg w,List.length_nil,Nat.add_zero];exact Nat.le_trans ih (Nat.le_add_right _ _)
abbrev jl6(p:Pl)(a:Int)(x0:Nat×ab (sfP p)×ab (lfP p a)):=bsP p (bsC p a x0.1)
abbrev jl5(p:Pl)(a:Int)(x2:Nat×ab (sfP p)×ab (lfP p a)):Int:=(x2.1:Nat)
abbrev jl9(p:Pl)(a:Int)(x0:Nat×ab (sfP p)×ab (lfP p a))(x51:Nat×ab (sfP p)×ab (lfP p a))(x2:Nat×ab (sfP p)×ab (lfP p a))(x52:Nat×ab (sfP p)×ab (lfP p a)):=spL p ((jl6 p a x0).getD x51.1 0) (bsT p a x0.1+(jl5 p a x2)) (x52.1+1)
abbrev A4(p:Pl)(a:Int)(x0:Nat×ab (sfP p)×ab (lfP p a)):Prop:=eR (pt 20)/\eR (pt 18)/\eR (.func (.yield 21) #[] #[])/\wR (slQ 22 1 (jl6 p a x0).length)/\eR (nI (((jl6 p a x0).length:Nat):Int))/\True
abbrev jld(p:Pl)(a:Int)(x0:Nat×ab (sfP p)×ab (lfP p a)):=iP p a (bsN p a x0.1)
abbrev jlq(p:Pl)(a:Int)(x0:Nat×ab (sfP p)×ab (lfP p a))(x2:Nat×ab (sfP p)×ab (lfP p a))(x51:Nat×ab (sfP p)×ab (lfP p a))(x52:Nat×ab (sfP p)×ab (lfP p a)):List Value:=[slQ 24 1 (bJ p a x0.1 x2.1++List.filter (jld p a x0) (aV p (bsC p a x0.1) (bsT p a x0.1+(jl5 p a x2)) x51.1++bD p ((jl6 p a x0).getD x51.1 0) (bsT p a x0.1+(jl5 p a x2)) x52.1)).length]
abbrev jl4(p:Pl)(a:Int)(x0:Nat×ab (sfP p)×ab (lfP p a)):Prop:=eR (pt 13)/\eR (.slice none 0 0)/\eR (pt 10)/\eR (pt 9)/\wR (slQ 14 1 (bsL p a x0.1).length)/\eR (nI (bsT p a x0.1))/\eR (nI (bsC p a x0.1))/\eR (pt 15)/\eR (pt 16)/\True
abbrev jll(p:Pl)(a:Int)(x0:Nat×ab (sfP p)×ab (lfP p a))(x2:Nat×ab (sfP p)×ab (lfP p a)):Prop:=(u6 prog 55 0/\eR (nI (bsT p a x0.1+(jl5 p a x2)))/\jl4 p a x0)/\True
abbrev jl2(p:Pl)(a:Int)(x51:Nat×ab (sfP p)×ab (lfP p a))(x0:Nat×ab (sfP p)×ab (lfP p a))(r53:ab (sfP p))(x52:Nat×ab (sfP p)×ab (lfP p a))(x2:Nat×ab (sfP p)×ab (lfP p a)):=nw (((x51.1:Nat):Int)+1) (∃cj:Nat×ab (sfP p)×ab (lfP p a),(cj.1<=List.length (jl6 p a x0))/\(List.length (jl6 p a x0)-cj.1)<(List.length (jl6 p a x0)-x51.1)/\true=true/\((nI (((x51.1:Nat):Int)+1):Value)=nI ((cj.1:Nat):Int)/\A4 p a x0)/\((kbq 23 (.map (knE r53.1)) (.map (knE cj.2.1.1)))/\(kbq 23 (.map (knE x52.2.2.1)) (.map (knE cj.2.2.1)))/\wkO (.cells true 0 (jlq p a x0 x2 x51 x52):aa) (rno (sg 23 [(23,24)]) 3 (.cells true 0 [slQ 23 1 (bJ p a x0.1 x2.1++List.filter (jld p a x0) (aV p (bsC p a x0.1) (bsT p a x0.1+(jl5 p a x2)) cj.1)).length]:aa))/\True/\True)/\((kbq 23 (.cells true 4 ((bJ p a x0.1 x2.1++List.filter (jld p a x0) (aV p (bsC p a x0.1) (bsT p a x0.1+(jl5 p a x2)) x51.1++bD p ((jl6 p a x0).getD x51.1 0) (bsT p a x0.1+(jl5 p a x2)) x52.1)).flatMap lgC)) (.cells true 4 ((bJ p a x0.1 x2.1++List.filter (jld p a x0) (aV p (bsC p a x0.1) (bsT p a x0.1+(jl5 p a x2)) cj.1)).flatMap lgC)))/\True)/\(jll p a x0 x2))
abbrev jl3:List Value:=[nI 4000,nI 8000,nI 14000,nI 24000,nI 40000,nI 90000]
abbrev jlr:=ac (.cells false 0 jl3)
abbrev jl0(p:Pl):List Value:=[nI p.w,nI p.h,slQ 1 2 p.land.length,slQ 2 2 p.cts.length,slQ 3 2 p.chan.length,nI p.shp.cls,nI p.shp.pow,nI p.shp.dra,nI p.shp.ton,slQ 4 2 p.shp.th.length,slQ 5 2 p.shp.wa.length,slQ 6 2 p.shp.ic.length,nI p.shp.slow,nI p.shp.aw,nI p.shp.rdg,nI p.shp.prs,nI p.size,nI p.frm,nI p.to,nI (endP p),.map (some 8)]
abbrev jlv(p:Pl):=ac (.cells true 0 (jl0 p))
abbrev jlg(p:Pl):=p.land.flatMap af
abbrev tC(p:Pl):=ac (.cells true 1 (jlg p))
abbrev jlx(p:Pl):=ac (.cells false 0 (p.cts.flatMap chC))
abbrev jlh(p:Pl):=p.chan.flatMap af
abbrev tz(p:Pl):=ac (.cells true 1 (jlh p))
abbrev jli(p:Pl):=p.shp.th.flatMap ptC
abbrev tw(p:Pl):=ac (.cells true 2 (jli p))
abbrev jlj(p:Pl):=p.shp.wa.flatMap ptC
abbrev tu(p:Pl):=ac (.cells true 2 (jlj p))
abbrev jlk(p:Pl):=p.shp.ic.flatMap ptC
abbrev tt(p:Pl):=ac (.cells true 2 (jlk p))
abbrev jlb(p:Pl)(r53:ab (sfP p)):Prop:=(tC p)/\(jlx p)/\(tz p)/\(tw p)/\(tu p)/\(tt p)/\(ac (.map (knE r53.1)))/\True
abbrev jls:aa:=.cells false 0 jl3
abbrev jlw(p:Pl):aa:=.cells true 0 (jl0 p)
abbrev tr(p:Pl):aa:=.cells true 1 (jlg p)
abbrev jly(p:Pl):aa:=.cells false 0 (p.cts.flatMap chC)
abbrev tq(p:Pl):aa:=.cells true 1 (jlh p)
abbrev tn(p:Pl):aa:=.cells true 2 (jli p)
abbrev tj(p:Pl):aa:=.cells true 2 (jlj p)
abbrev ti(p:Pl):aa:=.cells true 2 (jlk p)
abbrev jl7(H':Heap)(p:Pl)(r53:ab (sfP p)):Prop:=H'[1]?=some (tr p)/\H'[2]?=some (jly p)/\H'[3]?=some (tq p)/\H'[4]?=some (tn p)/\H'[5]?=some (tj p)/\H'[6]?=some (ti p)/\H'[8]?=some (.map (knE r53.1):aa)/\True
abbrev jlu(p:Pl)(a:Int)(x52:Nat×ab (sfP p)×ab (lfP p a)):Int:=(x52.1:Nat)
abbrev tD(p:Pl)(a:Int)(x0:Nat×ab (sfP p)×ab (lfP p a)):=lfP p a (bsC p a x0.1) (bsT p a x0.1)
abbrev Dj:=ac (.cells true 0 [.func (.func 113) #[] #[pt 10,pt 9,pt 12,pt 13]])
abbrev Di:aa:=.cells true 0 [.func (.func 113) #[] #[pt 10,pt 9,pt 12,pt 13]]
abbrev jlm(p:Pl)(a:Int)(x0:Nat×ab (sfP p)×ab (lfP p a))(x51:Nat×ab (sfP p)×ab (lfP p a))(x2:Nat×ab (sfP p)×ab (lfP p a))(x52:Nat×ab (sfP p)×ab (lfP p a)):=bR p ((jl6 p a x0).getD x51.1 0) (bsT p a x0.1+(jl5 p a x2)) (x52.1+1)
abbrev jla(p:Pl)(a:Int)(x0:Nat×ab (sfP p)×ab (lfP p a))(x51:Nat×ab (sfP p)×ab (lfP p a)):Prop:=eR (nI (((jl6 p a x0).length:Nat):Int))/\wR (slQ 22 1 (jl6 p a x0).length)/\eR (.func (.yield 21) #[] #[])/\eR (pt 18)/\eR (pt 20)/\eR (nI ((x51.1:Nat):Int))/\eR (nI ((jl6 p a x0).getD x51.1 0))/\True
abbrev jl1(p:Pl)(a:Int)(x0:Nat×ab (sfP p)×ab (lfP p a))(x2:Nat×ab (sfP p)×ab (lfP p a))(x52:Nat×ab (sfP p)×ab (lfP p a))(x51:Nat×ab (sfP p)×ab (lfP p a))(r53:ab (sfP p)):=nw (((bsT p a x0.1+(jl5 p a x2))+1+(jlu p a x52))+1) (∃bi:Nat×ab (sfP p)×ab (lfP p a),((bi.1<=Int.toNat (endP p-(bsT p a x0.1+(jl5 p a x2)))/\okL p ((jl6 p a x0).getD x51.1 0) (bsT p a x0.1+(jl5 p a x2)) bi.1=true))/\(Int.toNat (endP p-(bsT p a x0.1+(jl5 p a x2)))-bi.1)<(Int.toNat (endP p-(bsT p a x0.1+(jl5 p a x2)))-x52.1)/\true=true/\((nI (((bsT p a x0.1+(jl5 p a x2))+1+(jlu p a x52))+1):Value)=nI ((bsT p a x0.1+(jl5 p a x2))+1+((bi.1:Nat):Int))/\(nI (jlm p a x0 x51 x2 x52):Value)=nI (bR p ((jl6 p a x0).getD x51.1 0) (bsT p a x0.1+(jl5 p a x2)) bi.1)/\jla p a x0 x51)/\((kbq 24 (.map (knE r53.1)) (.map (knE bi.2.1.1)))/\(kbq 24 (.map (knE x52.2.2.1)) (.map (knE bi.2.2.1)))/\wkO (.cells true 0 (jlq p a x0 x2 x51 x52):aa) (rno (sg 24 [(24,24)]) 3 (.cells true 0 [slQ 24 1 (bJ p a x0.1 x2.1++List.filter (jld p a x0) (aV p (bsC p a x0.1) (bsT p a x0.1+(jl5 p a x2)) x51.1++bD p ((jl6 p a x0).getD x51.1 0) (bsT p a x0.1+(jl5 p a x2)) bi.1)).length]:aa))/\True/\True)/\((kbq 24 (.cells true 4 ((bJ p a x0.1 x2.1++List.filter (jld p a x0) (aV p (bsC p a x0.1) (bsT p a x0.1+(jl5 p a x2)) x51.1++bD p ((jl6 p a x0).getD x51.1 0) (bsT p a x0.1+(jl5 p a x2)) x52.1)).flatMap lgC)) (.cells true 4 ((bJ p a x0.1 x2.1++List.filter (jld p a x0) (aV p (bsC p a x0.1) (bsT p a x0.1+(jl5 p a x2)) x51.1++bD p ((jl6 p a x0).getD x51.1 0) (bsT p a x0.1+(jl5 p a x2)) bi.1)).flatMap lgC)))/\True)/\(jll p a x0 x2))
def oo(p:Pl)(a:Int)(x0 x2 x51 x52:Nat×ab (sfP p)×ab (lfP p a))(r53:ab (sfP p)):Prop :=
 (fk (decide (((jl9 p a x0 x51 x2 x52):Int)<10)) (jl2 p a x51 x0 r53 x52 x2) ((jlr/\(jlv p)/\jlb p r53)/\(∀H':Heap,H'.length=25->(H'[0]?=some jls/\H'[7]?=some (jlw p)/\jl7 H' p r53)->ad prog 118 [pt 7,nI (jl9 p a x0 x51 x2 x52)] H' [] (Is (nI (tkP p (jl9 p a x0 x51 x2 x52))) H'))/\(fk (((tkP p (jl9 p a x0 x51 x2 x52)):Int) == (((x52.1+1):Nat):Int)) (fk (decide ((((bsT p a x0.1+(jl5 p a x2))+1+(jlu p a x52)):Int)<=a)) (nw ((tD p a x0)-1) ((jlr/\(ac (.cells true 0 [nI a]))/\(ac (.cells true 0 [pt 7]))/\(ac (.cells true 0 [.map (some 11)]))/\Dj/\(jlv p)/\(ac (.map (knE x52.2.2.1)))/\jlb p r53)/\(∀H':Heap,H'.length=26->(H'[0]?=some jls/\H'[10]?=some (.cells true 0 [nI a]:aa)/\H'[9]?=some (.cells true 0 [pt 7]:aa)/\H'[12]?=some (.cells true 0 [.map (some 11)]:aa)/\H'[13]?=some Di/\H'[7]?=some (jlw p)/\H'[11]?=some (.map (knE x52.2.2.1):aa)/\jl7 H' p r53)->ad prog 113 [nI ((jl6 p a x0).getD x51.1 0),nI ((bsT p a x0.1+(jl5 p a x2))+1+(jlu p a x52)),pt 10,pt 9,pt 12,pt 13] H' [8,11] (fun y H2 => ∃z:ab (sfP p)×ab (lfP p a),True/\y=nI (lfP p a ((jl6 p a x0).getD x51.1 0) ((bsT p a x0.1+(jl5 p a x2))+1+(jlu p a x52)))/\H2=(List.set (List.set H' 8 (.map (knE z.1.1):aa)) 11 (.map (knE z.2.1):aa))))/\(∀r51:ab (sfP p)×ab (lfP p a),True->(fk (((lfP p a ((jl6 p a x0).getD x51.1 0) ((bsT p a x0.1+(jl5 p a x2))+1+(jlu p a x52))):Int) == ((tD p a x0)-1)) (apq (bJ p a x0.1 x2.1++List.filter (jld p a x0) (aV p (bsC p a x0.1) (bsT p a x0.1+(jl5 p a x2)) x51.1++bD p ((jl6 p a x0).getD x51.1 0) (bsT p a x0.1+(jl5 p a x2)) x52.1)).length 32 4 ((bJ p a x0.1 x2.1++List.filter (jld p a x0) (aV p (bsC p a x0.1) (bsT p a x0.1+(jl5 p a x2)) x51.1++bD p ((jl6 p a x0).getD x51.1 0) (bsT p a x0.1+(jl5 p a x2)) x52.1)).flatMap lgC) [nI ((jl6 p a x0).getD x51.1 0),nI (bsT p a x0.1+(jl5 p a x2)),nI (jl9 p a x0 x51 x2 x52),nI ((bsT p a x0.1+(jl5 p a x2))+1+(jlu p a x52))] (nw (((bsT p a x0.1+(jl5 p a x2))+1+(jlu p a x52))+1) (∃bi:Nat×ab (sfP p)×ab (lfP p a),((bi.1<=Int.toNat (endP p-(bsT p a x0.1+(jl5 p a x2)))/\okL p ((jl6 p a x0).getD x51.1 0) (bsT p a x0.1+(jl5 p a x2)) bi.1=true))/\(Int.toNat (endP p-(bsT p a x0.1+(jl5 p a x2)))-bi.1)<(Int.toNat (endP p-(bsT p a x0.1+(jl5 p a x2)))-x52.1)/\true=true/\((nI (((bsT p a x0.1+(jl5 p a x2))+1+(jlu p a x52))+1):Value)=nI ((bsT p a x0.1+(jl5 p a x2))+1+((bi.1:Nat):Int))/\(nI (jlm p a x0 x51 x2 x52):Value)=nI (bR p ((jl6 p a x0).getD x51.1 0) (bsT p a x0.1+(jl5 p a x2)) bi.1)/\jla p a x0 x51)/\((kbq 24 (.map (knE r51.1.1)) (.map (knE bi.2.1.1)))/\(kbq 24 (.map (knE r51.2.1)) (.map (knE bi.2.2.1)))/\wkO (.cells true 0 [slN 27 ((bJ p a x0.1 x2.1++List.filter (jld p a x0) (aV p (bsC p a x0.1) (bsT p a x0.1+(jl5 p a x2)) x51.1++bD p ((jl6 p a x0).getD x51.1 0) (bsT p a x0.1+(jl5 p a x2)) x52.1)).length+1)]:aa) (rno (sg 24 [(24,27)]) 3 (.cells true 0 [slQ 24 1 (bJ p a x0.1 x2.1++List.filter (jld p a x0) (aV p (bsC p a x0.1) (bsT p a x0.1+(jl5 p a x2)) x51.1++bD p ((jl6 p a x0).getD x51.1 0) (bsT p a x0.1+(jl5 p a x2)) bi.1)).length]:aa))/\True/\True)/\((kbq 24 (.cells true 4 (((((bJ p a x0.1 x2.1++List.filter (jld p a x0) (aV p (bsC p a x0.1) (bsT p a x0.1+(jl5 p a x2)) x51.1++bD p ((jl6 p a x0).getD x51.1 0) (bsT p a x0.1+(jl5 p a x2)) x52.1)).flatMap lgC).drop 0).take ((bJ p a x0.1 x2.1++List.filter (jld p a x0) (aV p (bsC p a x0.1) (bsT p a x0.1+(jl5 p a x2)) x51.1++bD p ((jl6 p a x0).getD x51.1 0) (bsT p a x0.1+(jl5 p a x2)) x52.1)).length*4))++((([nI ((jl6 p a x0).getD x51.1 0),nI (bsT p a x0.1+(jl5 p a x2)),nI (jl9 p a x0 x51 x2 x52),nI ((bsT p a x0.1+(jl5 p a x2))+1+(jlu p a x52))]:List Value).drop 0).take (1*4)))) (.cells true 4 ((bJ p a x0.1 x2.1++List.filter (jld p a x0) (aV p (bsC p a x0.1) (bsT p a x0.1+(jl5 p a x2)) x51.1++bD p ((jl6 p a x0).getD x51.1 0) (bsT p a x0.1+(jl5 p a x2)) bi.1)).flatMap lgC)))/\True)/\(jll p a x0 x2)))) (nw (((bsT p a x0.1+(jl5 p a x2))+1+(jlu p a x52))+1) (∃bi:Nat×ab (sfP p)×ab (lfP p a),((bi.1<=Int.toNat (endP p-(bsT p a x0.1+(jl5 p a x2)))/\okL p ((jl6 p a x0).getD x51.1 0) (bsT p a x0.1+(jl5 p a x2)) bi.1=true))/\(Int.toNat (endP p-(bsT p a x0.1+(jl5 p a x2)))-bi.1)<(Int.toNat (endP p-(bsT p a x0.1+(jl5 p a x2)))-x52.1)/\true=true/\((nI (((bsT p a x0.1+(jl5 p a x2))+1+(jlu p a x52))+1):Value)=nI ((bsT p a x0.1+(jl5 p a x2))+1+((bi.1:Nat):Int))/\(nI (jlm p a x0 x51 x2 x52):Value)=nI (bR p ((jl6 p a x0).getD x51.1 0) (bsT p a x0.1+(jl5 p a x2)) bi.1)/\jla p a x0 x51)/\((kbq 24 (.map (knE r51.1.1)) (.map (knE bi.2.1.1)))/\(kbq 24 (.map (knE r51.2.1)) (.map (knE bi.2.2.1)))/\wkO (.cells true 0 (jlq p a x0 x2 x51 x52):aa) (rno (sg 24 [(24,24)]) 3 (.cells true 0 [slQ 24 1 (bJ p a x0.1 x2.1++List.filter (jld p a x0) (aV p (bsC p a x0.1) (bsT p a x0.1+(jl5 p a x2)) x51.1++bD p ((jl6 p a x0).getD x51.1 0) (bsT p a x0.1+(jl5 p a x2)) bi.1)).length]:aa))/\True/\True)/\((kbq 24 (.cells true 4 ((bJ p a x0.1 x2.1++List.filter (jld p a x0) (aV p (bsC p a x0.1) (bsT p a x0.1+(jl5 p a x2)) x51.1++bD p ((jl6 p a x0).getD x51.1 0) (bsT p a x0.1+(jl5 p a x2)) x52.1)).flatMap lgC)) (.cells true 4 ((bJ p a x0.1 x2.1++List.filter (jld p a x0) (aV p (bsC p a x0.1) (bsT p a x0.1+(jl5 p a x2)) x51.1++bD p ((jl6 p a x0).getD x51.1 0) (bsT p a x0.1+(jl5 p a x2)) bi.1)).flatMap lgC)))/\True)/\(jll p a x0 x2))))))) (jl1 p a x0 x2 x52 x51 r53)) (jl1 p a x0 x2 x52 x51 r53))))
abbrev Dh:Prop:=eR (pt 9)/\eR (pt 10)/\eR (.slice none 0 0)/\eR (pt 13)/\True
def rJ(p:Pl)(a:Int)(x0:Nat×ab (sfP p)×ab (lfP p a))(Kx:ab (sfP p))(Lx:ab (lfP p a)):Prop :=
 (c2q 18 0 (.cells false 0 jl3) 17 (.cells true 4 ((dP p a x0.1).flatMap lgC)) 114 [slQ 17 1 (dP p a x0.1).length,.func (.func 115) #[] #[]] (.agg #[nI (iR (dP p a x0.1)).to,nI (iR (dP p a x0.1)).dep,nI (iR (dP p a x0.1)).spd,nI (iR (dP p a x0.1)).arr]) (((.agg #[nI (iR (dP p a x0.1)).to,nI (iR (dP p a x0.1)).dep,nI (iR (dP p a x0.1)).spd,nI (iR (dP p a x0.1)).arr]:Value) = .agg #[nI (nxL p a x0.1).to,nI (nxL p a x0.1).dep,nI (nxL p a x0.1).spd,nI (nxL p a x0.1).arr])/\(apq (bsL p a x0.1).length 32 4 ((bsL p a x0.1).flatMap lgC) [nI (nxL p a x0.1).to,nI (nxL p a x0.1).dep,nI (nxL p a x0.1).spd,nI (nxL p a x0.1).arr] (∃x0':Nat×ab (sfP p)×ab (lfP p a),(x0'.1<=Int.toNat (lfP p a p.frm 0))/\(Int.toNat (lfP p a p.frm 0)-x0'.1)<(Int.toNat (lfP p a p.frm 0)-x0.1)/\true=true/\((nI (nxL p a x0.1).to:Value)=nI (bsC p a x0'.1)/\(nI (nxL p a x0.1).arr:Value)=nI (bsT p a x0'.1)/\wk (slN 20 ((bsL p a x0.1).length+1):Value) (slQ 20 1 (bsL p a x0'.1).length:Value)/\Dh)/\((kbq 14 (.map (knE Kx.1)) (.map (knE x0'.2.1.1)))/\(kbq 14 (.map (knE Lx.1)) (.map (knE x0'.2.2.1)))/\True)/\((kbq 14 (.cells true 4 (((((bsL p a x0.1).flatMap lgC).drop 0).take ((bsL p a x0.1).length*4))++((([nI (nxL p a x0.1).to,nI (nxL p a x0.1).dep,nI (nxL p a x0.1).spd,nI (nxL p a x0.1).arr]:List Value).drop 0).take (1*4)))) (.cells true 4 ((bsL p a x0'.1).flatMap lgC)))/\True)/\(True)))))
abbrev jlo(p:Pl)(Kx:ab (sfP p))(a:Int)(Lx:ab (lfP p a)):Nat×ab (sfP p)×ab (lfP p a):=(0,Kx,Lx)
abbrev jl8(p:Pl)(a:Int)(x51:Nat×ab (sfP p)×ab (lfP p a)):Nat×ab (sfP p)×ab (lfP p a):=(0,x51.2.1,x51.2.2)
abbrev yS(p:Pl)(a:Int)(x52:Nat×ab (sfP p)×ab (lfP p a)):=Int.tdiv ((6*p.size)-1) ((((x52.1+1):Nat):Int)-1)
def wu(p:Pl)(a:Int)(x0 x2:Nat×ab (sfP p)×ab (lfP p a))(Kx:ab (sfP p))(Lx:ab (lfP p a)):Prop :=
 ((jlr/\(jlv p)/\(tC p)/\(jlx p)/\(tz p)/\(tw p)/\(tu p)/\(tt p)/\(ac (.map (knE Kx.1)))/\True)/\(∀H':Heap,H'.length=22->(H'[0]?=some jls/\H'[7]?=some (jlw p)/\H'[1]?=some (tr p)/\H'[2]?=some (jly p)/\H'[3]?=some (tq p)/\H'[4]?=some (tn p)/\H'[5]?=some (tj p)/\H'[6]?=some (ti p)/\H'[8]?=some (.map (knE Kx.1):aa)/\True)->ad prog 62 [pt 7,nI (bsC p a x0.1)] H' [] (Is (slQ 22 1 (jl6 p a x0).length) (H' ++ [(.cells true 1 ((jl6 p a x0).flatMap bc):aa)])))/\(true=true/\((jlo p Kx a Lx).1<=List.length (jl6 p a x0))/\(true=true/\((nI 0:Value)=nI (((jlo p Kx a Lx).1:Nat):Int)/\A4 p a x0)/\((kbq 23 (.map (knE Kx.1)) (.map (knE (jlo p Kx a Lx).2.1.1)))/\(kbq 23 (.map (knE Lx.1)) (.map (knE (jlo p Kx a Lx).2.2.1)))/\wkO (.cells true 0 [slQ 17 1 (bJ p a x0.1 x2.1).length]:aa) (rno (sg 23 [(23,17)]) 3 (.cells true 0 [slQ 23 1 (bJ p a x0.1 x2.1++List.filter (jld p a x0) (aV p (bsC p a x0.1) (bsT p a x0.1+(jl5 p a x2)) (jlo p Kx a Lx).1)).length]:aa))/\True/\True)/\((kbq 23 (.cells true 4 ((bJ p a x0.1 x2.1).flatMap lgC)) (.cells true 4 ((bJ p a x0.1 x2.1++List.filter (jld p a x0) (aV p (bsC p a x0.1) (bsT p a x0.1+(jl5 p a x2)) (jlo p Kx a Lx).1)).flatMap lgC)))/\True)/\(jll p a x0 x2))/\(∀x51:Nat×ab (sfP p)×ab (lfP p a),true=true)/\∀x51:Nat×ab (sfP p)×ab (lfP p a),(x51.1<=List.length (jl6 p a x0))->(fk (decide ((((x51.1:Nat):Int):Int)<(((jl6 p a x0).length:Nat):Int))) ((ixq ((x51.1:Nat):Int) (jl6 p a x0).length)/\((((jl6 p a x0).flatMap bc)[(0+Int.toNat ((x51.1:Nat):Int)*1)]?=some (nI ((jl6 p a x0).getD x51.1 0)))/\(nw ((bsT p a x0.1+(jl5 p a x2))+1) (true=true/\(((jl8 p a x51).1<=Int.toNat (endP p-(bsT p a x0.1+(jl5 p a x2)))/\okL p ((jl6 p a x0).getD x51.1 0) (bsT p a x0.1+(jl5 p a x2)) (jl8 p a x51).1=true))/\(true=true/\((nI ((bsT p a x0.1+(jl5 p a x2))+1):Value)=nI ((bsT p a x0.1+(jl5 p a x2))+1+(((jl8 p a x51).1:Nat):Int))/\(nI 250:Value)=nI (bR p ((jl6 p a x0).getD x51.1 0) (bsT p a x0.1+(jl5 p a x2)) (jl8 p a x51).1)/\jla p a x0 x51)/\((kbq 24 (.map (knE x51.2.1.1)) (.map (knE (jl8 p a x51).2.1.1)))/\(kbq 24 (.map (knE x51.2.2.1)) (.map (knE (jl8 p a x51).2.2.1)))/\wkO (.cells true 0 [slQ 23 1 (bJ p a x0.1 x2.1++List.filter (jld p a x0) (aV p (bsC p a x0.1) (bsT p a x0.1+(jl5 p a x2)) x51.1)).length]:aa) (rno (sg 24 [(24,23)]) 3 (.cells true 0 [slQ 24 1 (bJ p a x0.1 x2.1++List.filter (jld p a x0) (aV p (bsC p a x0.1) (bsT p a x0.1+(jl5 p a x2)) x51.1++bD p ((jl6 p a x0).getD x51.1 0) (bsT p a x0.1+(jl5 p a x2)) (jl8 p a x51).1)).length]:aa))/\True/\True)/\((kbq 24 (.cells true 4 ((bJ p a x0.1 x2.1++List.filter (jld p a x0) (aV p (bsC p a x0.1) (bsT p a x0.1+(jl5 p a x2)) x51.1)).flatMap lgC)) (.cells true 4 ((bJ p a x0.1 x2.1++List.filter (jld p a x0) (aV p (bsC p a x0.1) (bsT p a x0.1+(jl5 p a x2)) x51.1++bD p ((jl6 p a x0).getD x51.1 0) (bsT p a x0.1+(jl5 p a x2)) (jl8 p a x51).1)).flatMap lgC)))/\True)/\(jll p a x0 x2))/\(∀x52:Nat×ab (sfP p)×ab (lfP p a),true=true)/\∀x52:Nat×ab (sfP p)×ab (lfP p a),((x52.1<=Int.toNat (endP p-(bsT p a x0.1+(jl5 p a x2)))/\okL p ((jl6 p a x0).getD x51.1 0) (bsT p a x0.1+(jl5 p a x2)) x52.1=true))->(fk (decide ((((bsT p a x0.1+(jl5 p a x2))+1+(jlu p a x52)):Int)<=(endP p))) (nw (((bsT p a x0.1+(jl5 p a x2))+1+(jlu p a x52))-1) ((jlr/\(jlv p)/\(tC p)/\(jlx p)/\(tz p)/\(tw p)/\(tu p)/\(tt p)/\(ac (.map (knE x52.2.1.1)))/\True)/\(∀H':Heap,H'.length=25->(H'[0]?=some jls/\H'[7]?=some (jlw p)/\H'[1]?=some (tr p)/\H'[2]?=some (jly p)/\H'[3]?=some (tq p)/\H'[4]?=some (tn p)/\H'[5]?=some (tj p)/\H'[6]?=some (ti p)/\H'[8]?=some (.map (knE x52.2.1.1):aa)/\True)->ad prog 119 [pt 7,nI ((jl6 p a x0).getD x51.1 0),nI (((bsT p a x0.1+(jl5 p a x2))+1+(jlu p a x52))-1)] H' [8] (fun y H2 => ∃z1_:ab (sfP p),True/\y=nI (sfP p ((jl6 p a x0).getD x51.1 0) (Int.tdiv (((bsT p a x0.1+(jl5 p a x2))+1+(jlu p a x52))-1) 6))/\H2=(List.set H' 8 (.map (knE z1_.1):aa))))/\(∀r53:ab (sfP p),True->(((nI (if ((sfP p ((jl6 p a x0).getD x51.1 0) (Int.tdiv (((bsT p a x0.1+(jl5 p a x2))+1+(jlu p a x52))-1) 6)):Int)<(bR p ((jl6 p a x0).getD x51.1 0) (bsT p a x0.1+(jl5 p a x2)) x52.1) then ((sfP p ((jl6 p a x0).getD x51.1 0) (Int.tdiv (((bsT p a x0.1+(jl5 p a x2))+1+(jlu p a x52))-1) 6)):Int) else (bR p ((jl6 p a x0).getD x51.1 0) (bsT p a x0.1+(jl5 p a x2)) x52.1)):Value)=nI (jlm p a x0 x51 x2 x52))/\(fk (decide (((jlm p a x0 x51 x2 x52):Int)<10)) (jl2 p a x51 x0 r53 x52 x2) (nw (((bsT p a x0.1+(jl5 p a x2))+1+(jlu p a x52))-(bsT p a x0.1+(jl5 p a x2))) (((nI (((bsT p a x0.1+(jl5 p a x2))+1+(jlu p a x52))-(bsT p a x0.1+(jl5 p a x2))):Value)=nI (((x52.1+1):Nat):Int))/\(fk (decide ((1:Int)<(((x52.1+1):Nat):Int))) (nw (6*p.size) (nw ((6*p.size)-1) (nw ((((x52.1+1):Nat):Int)-1) (((((((x52.1+1):Nat):Int)-1):Int)≠0)/\(nw (yS p a x52) (((nI (if ((yS p a x52):Int)<(jlm p a x0 x51 x2 x52) then ((yS p a x52):Int) else (jlm p a x0 x51 x2 x52)):Value)=nI (jl9 p a x0 x51 x2 x52))/\(oo p a x0 x2 x51 x52 r53))))))) (((nI (jlm p a x0 x51 x2 x52):Value)=nI (jl9 p a x0 x51 x2 x52))/\(oo p a x0 x2 x51 x52 r53)))))))))) (nw (((x51.1:Nat):Int)+1) (∃cj:Nat×ab (sfP p)×ab (lfP p a),(cj.1<=List.length (jl6 p a x0))/\(List.length (jl6 p a x0)-cj.1)<(List.length (jl6 p a x0)-x51.1)/\true=true/\((nI (((x51.1:Nat):Int)+1):Value)=nI ((cj.1:Nat):Int)/\A4 p a x0)/\((kbq 23 (.map (knE x52.2.1.1)) (.map (knE cj.2.1.1)))/\(kbq 23 (.map (knE x52.2.2.1)) (.map (knE cj.2.2.1)))/\wkO (.cells true 0 (jlq p a x0 x2 x51 x52):aa) (rno (sg 23 [(23,24)]) 3 (.cells true 0 [slQ 23 1 (bJ p a x0.1 x2.1++List.filter (jld p a x0) (aV p (bsC p a x0.1) (bsT p a x0.1+(jl5 p a x2)) cj.1)).length]:aa))/\True/\True)/\((kbq 23 (.cells true 4 ((bJ p a x0.1 x2.1++List.filter (jld p a x0) (aV p (bsC p a x0.1) (bsT p a x0.1+(jl5 p a x2)) x51.1++bD p ((jl6 p a x0).getD x51.1 0) (bsT p a x0.1+(jl5 p a x2)) x52.1)).flatMap lgC)) (.cells true 4 ((bJ p a x0.1 x2.1++List.filter (jld p a x0) (aV p (bsC p a x0.1) (bsT p a x0.1+(jl5 p a x2)) cj.1)).flatMap lgC)))/\True)/\(jll p a x0 x2)))))))) (nw ((bsT p a x0.1+(jl5 p a x2))+1) (∃x2':Nat×ab (sfP p)×ab (lfP p a),(x2'.1<=Int.toNat (a-bsT p a x0.1))/\(Int.toNat (a-bsT p a x0.1)-x2'.1)<(Int.toNat (a-bsT p a x0.1)-x2.1)/\true=true/\((nI ((bsT p a x0.1+(jl5 p a x2))+1):Value)=nI (bsT p a x0.1+((x2'.1:Nat):Int))/\jl4 p a x0)/\((kbq 17 (.map (knE x51.2.1.1)) (.map (knE x2'.2.1.1)))/\(kbq 17 (.map (knE x51.2.2.1)) (.map (knE x2'.2.2.1)))/\wkO (.cells true 0 [slQ 23 1 (bJ p a x0.1 x2.1++List.filter (jld p a x0) (aV p (bsC p a x0.1) (bsT p a x0.1+(jl5 p a x2)) x51.1)).length]:aa) (rno (sg 17 [(17,23)]) 3 (.cells true 0 [slQ 17 1 (bJ p a x0.1 x2'.1).length]:aa))/\True)/\((kbq 17 (.cells true 4 ((bJ p a x0.1 x2.1++List.filter (jld p a x0) (aV p (bsC p a x0.1) (bsT p a x0.1+(jl5 p a x2)) x51.1)).flatMap lgC)) (.cells true 4 ((bJ p a x0.1 x2'.1).flatMap lgC)))/\True)/\(True))))))
abbrev jlc(p:Pl)(K0:ab (sfP p))(a:Int):Nat×ab (sfP p)×ab (lfP p a):=(0,K0,ab.nil (lfP p a))
abbrev jln(p:Pl)(a:Int)(r1:ab (sfP p)×ab (lfP p a)):Nat×ab (sfP p)×ab (lfP p a):=(0,r1.1,r1.2)
abbrev Dg(p:Pl)(a:Int)(x51:Nat×ab (sfP p)×ab (lfP p a)):Hint:=.go 0 (.slot 73 (nI (((x51.1:Nat):Int)+1)) (.go 0 (.again [(23,24)])))
abbrev jlt:Nat×aa:=(0,.cells false 0 jl3)
abbrev jlz(p:Pl):Nat×aa:=(7,.cells true 0 (jl0 p))
abbrev vB(p:Pl):Nat×aa:=(1,.cells true 1 (jlg p))
abbrev jlp(p:Pl):Nat×aa:=(2,.cells false 0 (p.cts.flatMap chC))
abbrev vA(p:Pl):Nat×aa:=(3,.cells true 1 (jlh p))
abbrev vz(p:Pl):Nat×aa:=(4,.cells true 2 (jli p))
abbrev vy(p:Pl):Nat×aa:=(5,.cells true 2 (jlj p))
abbrev vw(p:Pl):Nat×aa:=(6,.cells true 2 (jlk p))
abbrev Ge:Nat×aa:=(13,.cells true 0 [.func (.func 113) #[] #[pt 10,pt 9,pt 12,pt 13]])
abbrev A3(p:Pl)(a:Int):=Nat×ab (sfP p)×ab (lfP p a)
abbrev jle(p:Pl)(a:Int)(x0:Nat×ab (sfP p)×ab (lfP p a))(x2:Nat×ab (sfP p)×ab (lfP p a)):List (Nat×Value):=[(12,nI (bsT p a x0.1+(jl5 p a x2))),(6,pt 13),(4,.slice none 0 0),(3,pt 10),(2,pt 9),(7,slQ 14 1 (bsL p a x0.1).length),(9,nI (bsT p a x0.1)),(8,nI (bsC p a x0.1)),(10,pt 15),(11,pt 16)]
def Fh(p:Pl)(a:Int)(K0:ab (sfP p)):Prop :=
 (true=true/\((jlc p K0 a).1<=Int.toNat (lfP p a p.frm 0))/\(true=true/\((nI p.frm:Value)=nI (bsC p a (jlc p K0 a).1)/\(nI 0:Value)=nI (bsT p a (jlc p K0 a).1)/\wk (.slice none 0 0:Value) (slQ 0 1 (bsL p a (jlc p K0 a).1).length:Value)/\Dh)/\((kbq 14 (.map (knE K0.1)) (.map (knE (jlc p K0 a).2.1.1)))/\(kbq 14 (.map (knE [])) (.map (knE (jlc p K0 a).2.2.1)))/\True)/\(True/\True)/\(True))/\(∀x0:Nat×ab (sfP p)×ab (lfP p a),true=true)/\∀x0:Nat×ab (sfP p)×ab (lfP p a),(x0.1<=Int.toNat (lfP p a p.frm 0))->((jlr/\(ac (.cells true 0 [nI a]))/\(ac (.cells true 0 [pt 7]))/\(ac (.cells true 0 [.map (some 11)]))/\Dj/\(jlv p)/\(ac (.map (knE x0.2.2.1)))/\(tC p)/\(jlx p)/\(tz p)/\(tw p)/\(tu p)/\(tt p)/\(ac (.map (knE x0.2.1.1)))/\True)/\(∀H':Heap,H'.length=15->(H'[0]?=some jls/\H'[10]?=some (.cells true 0 [nI a]:aa)/\H'[9]?=some (.cells true 0 [pt 7]:aa)/\H'[12]?=some (.cells true 0 [.map (some 11)]:aa)/\H'[13]?=some Di/\H'[7]?=some (jlw p)/\H'[11]?=some (.map (knE x0.2.2.1):aa)/\H'[1]?=some (tr p)/\H'[2]?=some (jly p)/\H'[3]?=some (tq p)/\H'[4]?=some (tn p)/\H'[5]?=some (tj p)/\H'[6]?=some (ti p)/\H'[8]?=some (.map (knE x0.2.1.1):aa)/\True)->ad prog 113 [nI (bsC p a x0.1),nI (bsT p a x0.1),pt 10,pt 9,pt 12,pt 13] H' [8,11] (fun y H2 => ∃z:ab (sfP p)×ab (lfP p a),True/\y=nI (tD p a x0)/\H2=(List.set (List.set H' 8 (.map (knE z.1.1):aa)) 11 (.map (knE z.2.1):aa))))/\(∀r1:ab (sfP p)×ab (lfP p a),True->(fk (((tD p a x0):Int) == 0) (∃x:ab (sfP p),True/\(true=true/\wk (slQ 14 1 (bsL p a x0.1).length:Value) (rn (sg 9 [(9,14)]) 3 (slQ 9 1 (dO p a).length:Value))/\((kbq 9 (.map (knE r1.1.1)) (.map (knE x.1)))/\True)/\((kbq 9 (.cells true 4 ((bsL p a x0.1).flatMap lgC)) (.cells true 4 ((dO p a).flatMap lgC)))/\True))) (true=true/\((jln p a r1).1<=Int.toNat (a-bsT p a x0.1))/\(true=true/\((nI (bsT p a x0.1):Value)=nI (bsT p a x0.1+(((jln p a r1).1:Nat):Int))/\jl4 p a x0)/\((kbq 17 (.map (knE r1.1.1)) (.map (knE (jln p a r1).2.1.1)))/\(kbq 17 (.map (knE r1.2.1)) (.map (knE (jln p a r1).2.2.1)))/\wkO (.cells true 0 [.slice none 0 0]:aa) (rno (sg 17 []) 3 (.cells true 0 [slQ 17 1 (bJ p a x0.1 (jln p a r1).1).length]:aa))/\True)/\(True/\True)/\(True))/\(∀x2:Nat×ab (sfP p)×ab (lfP p a),true=true)/\∀x2:Nat×ab (sfP p)×ab (lfP p a),(x2.1<=Int.toNat (a-bsT p a x0.1))->(fk (decide (((bsT p a x0.1+(jl5 p a x2)):Int)<a)) ((jlr/\(jlv p)/\(tC p)/\(jlx p)/\(tz p)/\(tw p)/\(tu p)/\(tt p)/\(ac (.map (knE x2.2.1.1)))/\True)/\(∀H':Heap,H'.length=18->(H'[0]?=some jls/\H'[7]?=some (jlw p)/\H'[1]?=some (tr p)/\H'[2]?=some (jly p)/\H'[3]?=some (tq p)/\H'[4]?=some (tn p)/\H'[5]?=some (tj p)/\H'[6]?=some (ti p)/\H'[8]?=some (.map (knE x2.2.1.1):aa)/\True)->ad prog 70 [pt 7,nI (bsC p a x0.1),nI (bsT p a x0.1),nI (bsT p a x0.1+(jl5 p a x2))] H' [8] (fun y H2 => ∃z:ab (sfP p),True/\y = .bool (wtB p (bsC p a x0.1) (bsT p a x0.1) (bsT p a x0.1+(jl5 p a x2)))/\H2=(List.set H' 8 (.map (knE z.1):aa))))/\(∀r3:ab (sfP p),True->(fk (wtB p (bsC p a x0.1) (bsT p a x0.1) (bsT p a x0.1+(jl5 p a x2))) (wu p a x0 x2 r3 x2.2.2) ((some (.cells true 0 [slQ 17 1 (bJ p a x0.1 x2.1).length]:aa)=some (.cells true 0 [slQ 17 1 (dP p a x0.1).length]:aa))/\((some (.cells true 4 ((bJ p a x0.1 x2.1).flatMap lgC):aa)=some (.cells true 4 ((dP p a x0.1).flatMap lgC):aa))/\(rJ p a x0 r3 x2.2.2)))))) ((some (.cells true 0 [slQ 17 1 (bJ p a x0.1 x2.1).length]:aa)=some (.cells true 0 [slQ 17 1 (dP p a x0.1).length]:aa))/\((some (.cells true 4 ((bJ p a x0.1 x2.1).flatMap lgC):aa)=some (.cells true 4 ((dP p a x0.1).flatMap lgC):aa))/\(rJ p a x0 x2.2.1 x2.2.2)))))))))
def Ci(p:Pl)(a:Int)(x0 x2 x51 x52:Nat×ab (sfP p)×ab (lfP p a))(r53:ab (sfP p)):Hint :=
 .go 1 (.fork (Dg p a x51) (.go 1 (.ans [jlt,(jlz p),(vB p),(jlp p),(vA p),(vz p),(vy p),(vw p),(8,.map (knE r53.1))] (nI (tkP p (jl9 p a x0 x51 x2 x52))) [] (.go 2 (.aM (.go 5 (.into (some [8,11,16,23,21,24]) (.go 6 (.aM (.go 6 (.slot 58 (nI ((tD p a x0)-1)) (.cg [jlt,(10,.cells true 0 [nI a]),(9,.cells true 0 [pt 7]),(12,.cells true 0 [.map (some 11)]),Ge,(jlz p),(11,.map (knE x52.2.2.1)),(vB p),(jlp p),(vA p),(vz p),(vy p),(vw p),(8,.map (knE r53.1))] [8,11] (ab (sfP p)×ab (lfP p a)) (fun r51=>True) (fun r51=>nI (lfP p a ((jl6 p a x0).getD x51.1 0) ((bsT p a x0.1+(jl5 p a x2))+1+(jlu p a x52)))) (fun r51=>[(8,.map (knE r51.1.1)),(11,.map (knE r51.2.1))]) (fun r51=>[]) (fun r51 => .go 1 (.fork (.go 2 (.need (.go 5 (.slot 28 (nI (((bsT p a x0.1+(jl5 p a x2))+1+(jlu p a x52))+1)) (.go 0 (.again [(24,27)])))))) (.go 4 (.slot 28 (nI (((bsT p a x0.1+(jl5 p a x2))+1+(jlu p a x52))+1)) (.go 0 (.again [(24,24)]))))))))) (.go 6 (.slot 28 (nI (((bsT p a x0.1+(jl5 p a x2))+1+(jlu p a x52))+1)) (.go 0 (.again [(24,24)])))))))) (.go 3 (.slot 28 (nI (((bsT p a x0.1+(jl5 p a x2))+1+(jlu p a x52))+1)) (.go 0 (.again [(24,24)])))))))))
def Ch(p:Pl)(a:Int)(x0:Nat×ab (sfP p)×ab (lfP p a))(Kx:ab (sfP p))(Lx:ab (lfP p a)):Hint :=
 .go 0 (.ans [jlt,(17,.cells true 4 ((dP p a x0.1).flatMap lgC))] (.agg #[nI (iR (dP p a x0.1)).to,nI (iR (dP p a x0.1)).dep,nI (iR (dP p a x0.1)).spd,nI (iR (dP p a x0.1)).arr]) [] (.slot 66 (.agg #[nI (nxL p a x0.1).to,nI (nxL p a x0.1).dep,nI (nxL p a x0.1).spd,nI (nxL p a x0.1).arr]) (.go 4 (.need (.go 6 (.again [(14,20)]))))))
def GT(p:Pl)(a:Int)(x0 x2:Nat×ab (sfP p)×ab (lfP p a))(Kx:ab (sfP p))(Lx:ab (lfP p a)):Hint :=
 .go 9 (.into (some [8,11,16,17,18,19,20]) (.go 1 (.ans [jlt,(jlz p),(vB p),(jlp p),(vA p),(vz p),(vy p),(vw p),(8,.map (knE Kx.1))] (slQ 22 1 (jl6 p a x0).length) [.cells true 1 ((jl6 p a x0).flatMap bc)] (.go 1 (.inv 3 (A3 p a) ((jlo p Kx a Lx)) [(23,17)] [8,11,16,17,21] (fun x51=>[(15,nI ((x51.1:Nat):Int)),(3,pt 20),(1,pt 18),(0,.func (.yield 21) #[] #[]),(13,slQ 22 1 (jl6 p a x0).length),(14,nI (((jl6 p a x0).length:Nat):Int))]) (fun x51=>[(8,true,.map (knE x51.2.1.1)),(11,true,.map (knE x51.2.2.1)),(16,false,.cells true 0 [slQ 23 1 (bJ p a x0.1 x2.1++List.filter (jld p a x0) (aV p (bsC p a x0.1) (bsT p a x0.1+(jl5 p a x2)) x51.1)).length]),(17,false,.dead)]) (fun x51=>[(true,.cells true 4 ((bJ p a x0.1 x2.1++List.filter (jld p a x0) (aV p (bsC p a x0.1) (bsT p a x0.1+(jl5 p a x2)) x51.1)).flatMap lgC))]) (fun x51=>[(21,(jle p a x0 x2))]) (fun x51=>(x51.1<=List.length (jl6 p a x0))) (fun x51=>(List.length (jl6 p a x0)-x51.1)) (fun x51 => .go 0 (.fork (.need (.val (nI ((jl6 p a x0).getD x51.1 0)) (.go 3 (.slot 20 (nI ((bsT p a x0.1+(jl5 p a x2))+1)) (.go 0 (.inv 3 (A3 p a) ((jl8 p a x51)) [(24,23)] [8,11,16,23,21] (fun x52=>[(8,nI ((bsT p a x0.1+(jl5 p a x2))+1+(jlu p a x52))),(7,nI (bR p ((jl6 p a x0).getD x51.1 0) (bsT p a x0.1+(jl5 p a x2)) x52.1)),(14,nI (((jl6 p a x0).length:Nat):Int)),(13,slQ 22 1 (jl6 p a x0).length),(0,.func (.yield 21) #[] #[]),(1,pt 18),(3,pt 20),(15,nI ((x51.1:Nat):Int)),(6,nI ((jl6 p a x0).getD x51.1 0))]) (fun x52=>[(8,true,.map (knE x52.2.1.1)),(11,true,.map (knE x52.2.2.1)),(16,false,.cells true 0 (jlq p a x0 x2 x51 x52)),(23,false,.dead)]) (fun x52=>[(true,.cells true 4 ((bJ p a x0.1 x2.1++List.filter (jld p a x0) (aV p (bsC p a x0.1) (bsT p a x0.1+(jl5 p a x2)) x51.1++bD p ((jl6 p a x0).getD x51.1 0) (bsT p a x0.1+(jl5 p a x2)) x52.1)).flatMap lgC))]) (fun x52=>[(21,(jle p a x0 x2))]) (fun x52=>((x52.1<=Int.toNat (endP p-(bsT p a x0.1+(jl5 p a x2)))/\okL p ((jl6 p a x0).getD x51.1 0) (bsT p a x0.1+(jl5 p a x2)) x52.1=true))) (fun x52=>(Int.toNat (endP p-(bsT p a x0.1+(jl5 p a x2)))-x52.1)) (fun x52 => .go 5 (.fork (.go 4 (.slot 33 (nI (((bsT p a x0.1+(jl5 p a x2))+1+(jlu p a x52))-1)) (.cg [jlt,(jlz p),(vB p),(jlp p),(vA p),(vz p),(vy p),(vw p),(8,.map (knE x52.2.1.1))] [8] (ab (sfP p)) (fun r53=>True) (fun r53=>nI (sfP p ((jl6 p a x0).getD x51.1 0) (Int.tdiv (((bsT p a x0.1+(jl5 p a x2))+1+(jlu p a x52))-1) 6))) (fun r53=>[(8,.map (knE r53.1))]) (fun r53=>[]) (fun r53 => .go 1 (.slot 7 (nI (jlm p a x0 x51 x2 x52)) (.go 1 (.fork (Dg p a x51) (.go 3 (.slot 41 (nI (((bsT p a x0.1+(jl5 p a x2))+1+(jlu p a x52))-(bsT p a x0.1+(jl5 p a x2)))) (.go 1 (.slot 10 (nI (((x52.1+1):Nat):Int)) (.go 1 (.fork (.go 6 (.slot 50 (nI (6*p.size)) (.go 0 (.slot 51 (nI ((6*p.size)-1)) (.go 1 (.slot 53 (nI ((((x52.1+1):Nat):Int)-1)) (.need (.slot 54 (nI (yS p a x52)) (.go 1 (.slot 9 (nI (jl9 p a x0 x51 x2 x52)) ((Ci p a x0 x2 x51 x52 r53)))))))))))) (.slot 9 (nI (jl9 p a x0 x51 x2 x52)) ((Ci p a x0 x2 x51 x52 r53)))))))))))))))) (Dg p a x51))))))))) (.keep (.go 1 (.slot 40 (nI ((bsT p a x0.1+(jl5 p a x2))+1)) (.go 0 (.again [(17,23)]))))))))))))
abbrev jlf(p:Pl)(K0:ab (sfP p)):=aG [.cells false 0 jl3,.cells true 1 (jlg p),.cells false 0 (p.cts.flatMap chC),.cells true 1 (jlh p),.cells true 2 (jli p),.cells true 2 (jlj p),.cells true 2 (jlk p),.cells true 0 (jl0 p),.map (knE K0.1)]
theorem Jb(p:Pl)(a:Int)(K0:ab (sfP p)):vF prog msk (dm 0) 100000 true 40 true 55 [pt 7,nI a] (jlf p K0) (some [8])
 (.go 16 (.inv 3 (A3 p a) ((jlc p K0 a)) [] [8,11] (fun x0=>[(8,nI (bsC p a x0.1)),(9,nI (bsT p a x0.1)),(7,slQ 14 1 (bsL p a x0.1).length),(2,pt 9),(3,pt 10),(4,.slice none 0 0),(6,pt 13)]) (fun x0=>[(8,true,.map (knE x0.2.1.1)),(11,true,.map (knE x0.2.2.1))]) (fun x0=>[(true,.cells true 4 ((bsL p a x0.1).flatMap lgC))]) (fun x0=>[]) (fun x0=>(x0.1<=Int.toNat (lfP p a p.frm 0))) (fun x0=>(Int.toNat (lfP p a p.frm 0)-x0.1)) (fun x0 => .go 2 (.cg [jlt,(10,.cells true 0 [nI a]),(9,.cells true 0 [pt 7]),(12,.cells true 0 [.map (some 11)]),Ge,(jlz p),(11,.map (knE x0.2.2.1)),(vB p),(jlp p),(vA p),(vz p),(vy p),(vw p),(8,.map (knE x0.2.1.1))] [8,11] (ab (sfP p)×ab (lfP p a)) (fun r1=>True) (fun r1=>nI (tD p a x0)) (fun r1=>[(8,.map (knE r1.1.1)),(11,.map (knE r1.2.1))]) (fun r1=>[]) (fun r1 => .go 3 (.fork (.go 1 (.keep (.again [(9,14)]))) (.go 2 (.inv 3 (A3 p a) ((jln p a r1)) [] [8,11,16] (fun x2=>(jle p a x0 x2)) (fun x2=>[(8,true,.map (knE x2.2.1.1)),(11,true,.map (knE x2.2.2.1)),(16,false,.cells true 0 [slQ 17 1 (bJ p a x0.1 x2.1).length])]) (fun x2=>[(true,.cells true 4 ((bJ p a x0.1 x2.1).flatMap lgC))]) (fun x2=>[]) (fun x2=>(x2.1<=Int.toNat (a-bsT p a x0.1))) (fun x2=>(Int.toNat (a-bsT p a x0.1)-x2.1)) (fun x2 => .go 3 (.aM (.go 3 (.cg [jlt,(jlz p),(vB p),(jlp p),(vA p),(vz p),(vy p),(vw p),(8,.map (knE x2.2.1.1))] [8] (ab (sfP p)) (fun r3=>True) (fun r3 => .bool (wtB p (bsC p a x0.1) (bsT p a x0.1) (bsT p a x0.1+(jl5 p a x2)))) (fun r3=>[(8,.map (knE r3.1))]) (fun r3=>[]) (fun r3 => .go 0 (.fork ((GT p a x0 x2 r3 x2.2.2)) (.obj 16 (.cells true 0 [slQ 17 1 (dP p a x0.1).length]) (.obj 17 (.cells true 4 ((dP p a x0.1).flatMap lgC)) ((Ch p a x0 r3 x2.2.2)))))))) (.go 1 (.obj 16 (.cells true 0 [slQ 17 1 (dP p a x0.1).length]) (.obj 17 (.cells true 4 ((dP p a x0.1).flatMap lgC)) ((Ch p a x0 x2.2.1 x2.2.2)))))))))))))))
 (cK (α:=ab (sfP p)) ((jlf p K0):HT).n 3 [8] (fun x=>True) (fun x=>slQ 9 1 (dO p a).length) (fun x=>[(8,true,.map (knE x.1))]) (fun x=>[(true,.cells true 4 ((dO p a).flatMap lgC))]))=Fh p a K0:=by kernel_rfl
end
end Go.Proofs.YtmecpfikljhjaaaGreatDoor
namespace Go.Proofs.YtmecpfikljhjaaaGreatDoor
noncomputable section
attribute [local irreducible] vF
theorem EM{H:Heap}{p:Pl}{a:Int}{K:ab (sfP p)}{L:ab (lfP p a)}{Q:Prop}(h:H[0]?=some bC/\H[10]?=some (.cells true 0 [nI a])/\H[9]?=some (.cells true 0 [pt 7])/\H[12]?=some (.cells true 0 [.map (some 11)])/\H[13]?=some (.cells true 0 [fnV 10 9 12 13]) /\
  H[7]?=some (.cells true 0 (wkC p 1 2 3 4 5 6 8))/\H[11]?=some (.map (knE L.1))/\H[1]?=some (.cells true 1 (p.land.flatMap af))/\H[2]?=some (.cells false 0 (p.cts.flatMap chC))/\H[3]?=some (.cells true 1 (p.chan.flatMap af)) /\
  H[4]?=some (.cells true 2 (p.shp.th.flatMap ptC))/\H[5]?=some (.cells true 2 (p.shp.wa.flatMap ptC))/\H[6]?=some (.cells true 2 (p.shp.ic.flatMap ptC))/\H[8]?=some (.map (knE K.1))/\Q):uH H p a K L 1 2 3 4 5 6 7 8 10 9 12 13 11:=by
 obtain ⟨a0,b1,b2,b3,b4,a7,b5,a1,a2,a3,a4,a5,a6,a8,_⟩:=h
 exact ⟨by decide,⟨by decide,a0,a1,a2,a3,a4,a5,a6,a7,a8⟩,b1,b2,b3,b4,b5⟩
theorem EQ{p:Pl}(o:bG p){a:Int}(ha:a<=endP p){c t:Int}(hc:0<=c/\c<(p.land.length:Int))(h0:0<=t)(h1:t<=a){K:ab (sfP p)}{L:ab (lfP p a)}{H:Heap}{l c' n t' w i W m A B C D M:Nat}(at_:uH H p a K L l c' n t' w i W m A B C D M) :
  ad prog 113 (nj c t A B C D) H [m,M] (rL p a c t H m M):=H6 o ha _ c t rfl hc h0 h1 at_
section
variable {p:Pl} {a:Int}
theorem II(o:bG p)(b:wz p a){x0 x2 x51 x52:Nat×ab (sfP p)×ab (lfP p a)}{r53:ab (sfP p)}(g:Cp p a x0.1)(hx2:bsT p a x0.1+(x2.1:Int)<a)(h1:x51.1<(bsP p (bsC p a x0.1)).length)(h2:x52.1<Int.toNat (endP p-(bsT p a x0.1+(x2.1:Int))))
  (hk:okL p ((bsP p (bsC p a x0.1)).getD x51.1 0) (bsT p a x0.1+(x2.1:Int)) x52.1=true) (hl:¬ bR p ((bsP p (bsC p a x0.1)).getD x51.1 0) (bsT p a x0.1+(x2.1:Int)) (x52.1+1)<10):oo p a x0 x2 x51 x52 r53:=by
 have he:=dG o
 have ha:=b.a1
 have hc:=g.c
 have ht:=g.t
 have hb:=ft p (bsC p a x0.1)
 have hal:=od o b g x2.1
 have hs:=ml p ((bsP p (bsC p a x0.1)).getD x51.1 0) (bsT p a x0.1+(x2.1:Int)) (x52.1+1)
 have hp:=uS p ((bsP p (bsC p a x0.1)).getD x51.1 0) (bsT p a x0.1+(x2.1:Int)) (x52.1+1)
 have hto:=nY o hc h1
 have hlf:0<=lfP p a (bsC p a x0.1) (bsT p a x0.1)/\lfP p a (bsC p a x0.1) (bsT p a x0.1)<=1048576:=As p ht.2
 have hpl:=Ae o (c:=bsC p a x0.1) (to:=(bsP p (bsC p a x0.1)).getD x51.1 0) (t:=bsT p a x0.1+(x2.1:Int)) (by omega) (Nat.le_of_lt h1) (Nat.le_of_lt h2)
 have hfl:(List.filter (iP p a (bsN p a x0.1)) (aV p (bsC p a x0.1) (bsT p a x0.1+(x2.1:Int)) x51.1++bD p ((bsP p (bsC p a x0.1)).getD x51.1 0) (bsT p a x0.1+(x2.1:Int)) x52.1)).length<=1440:=Nat.le_trans (List.length_filter_le ..) hpl
 have hLL:(bJ p a x0.1 x2.1++List.filter (iP p a (bsN p a x0.1)) (aV p (bsC p a x0.1) (bsT p a x0.1+(x2.1:Int)) x51.1++bD p ((bsP p (bsC p a x0.1)).getD x51.1 0) (bsT p a x0.1+(x2.1:Int)) x52.1)).length<=1000000:=by
  rw[List.length_append];have:x2.1<=288:=by omega
  omega
 delta oo jl9 jl2 jlr jlv jlb jls jlw jl7 jl5 jlu tD Dj Di jl6 jld jlm jla jll jlq jl1 jl4 tr jly tq tn tj ti jlk jlj jli jlh jlg jl0 jl3 tC jlx tz tw tu tt A4 nI slQ pt slN ac fk nw eR wR kbq apq
 refine ⟨fun k=>⟨ak (by omega),(x51.1+1,r53,x52.2.2),by show x51.1+1<=_;omega,by show _-(x51.1+1)<_;omega,rfl,?_⟩,fun k =>?_⟩
 ·rw[show aV p (bsC p a x0.1) (bsT p a x0.1+(x2.1:Int)) (x51.1+1)=_ from dy h1 (Nat.le_of_lt h2) (.inr (vY (of_decide_eq_true k)))]
  repeat' first|exact bu _ _|exact knB _ _|exact trivial|exact rfl|exact ae _|refine aN ?_|refine aS ?_ ?_|refine ⟨rfl,?_⟩|refine ⟨trivial,?_⟩|apply And.intro
 ·have hk2:okL p ((bsP p (bsC p a x0.1)).getD x51.1 0) (bsT p a x0.1+(x2.1:Int)) (x52.1+1)=true:=by rw[mS,hk,rc hl (of_decide_eq_false k)];rfl
  have hsp:=of_decide_eq_false k
  refine ⟨?_,fun H' hn h=>qV o (by omega) (eG h),fun q =>?_,fun q =>?_⟩
  ·repeat' first|exact trivial|refine ⟨rfl,?_⟩
  ·have e:ek p ((bsP p (bsC p a x0.1)).getD x51.1 0) (bsT p a x0.1+(x2.1:Int)) x52.1=[⟨(bsP p (bsC p a x0.1)).getD x51.1 0,bsT p a x0.1+(x2.1:Int),spL p ((bsP p (bsC p a x0.1)).getD x51.1 0) (bsT p a x0.1+(x2.1:Int)) (x52.1+1),bsT p a x0.1+(x2.1:Int)+1+(x52.1:Int)⟩]:=by
    unfold ek;rw[hk2,q];rfl
   have yes:∀{bb:Bool},iP p a (bsN p a x0.1) ⟨(bsP p (bsC p a x0.1)).getD x51.1 0,bsT p a x0.1+(x2.1:Int),spL p ((bsP p (bsC p a x0.1)).getD x51.1 0) (bsT p a x0.1+(x2.1:Int)) (x52.1+1),bsT p a x0.1+(x2.1:Int)+1+(x52.1:Int)⟩=bb ->
     bJ p a x0.1 x2.1++List.filter (iP p a (bsN p a x0.1)) (aV p (bsC p a x0.1) (bsT p a x0.1+(x2.1:Int)) x51.1++bD p ((bsP p (bsC p a x0.1)).getD x51.1 0) (bsT p a x0.1+(x2.1:Int)) (x52.1+1)) =
     (bJ p a x0.1 x2.1++List.filter (iP p a (bsN p a x0.1)) (aV p (bsC p a x0.1) (bsT p a x0.1+(x2.1:Int)) x51.1++bD p ((bsP p (bsC p a x0.1)).getD x51.1 0) (bsT p a x0.1+(x2.1:Int)) x52.1)) ++
      (if bb then [⟨(bsP p (bsC p a x0.1)).getD x51.1 0,bsT p a x0.1+(x2.1:Int),spL p ((bsP p (bsC p a x0.1)).getD x51.1 0) (bsT p a x0.1+(x2.1:Int)) (x52.1+1),bsT p a x0.1+(x2.1:Int)+1+(x52.1:Int)⟩] else []):=by
    rintro bb rfl
    rw[dU,e]
    simp only[List.filter_append,List.append_assoc,List.filter_cons,List.filter_nil]
   refine ⟨fun r =>?_,fun r =>?_⟩
   ·have hr:=of_decide_eq_true r
    refine ⟨ak (by omega),?_,fun H' hn h=>EQ o ha hto (by omega) hr (EM h),fun r51 _=>⟨fun s =>?_,fun s =>?_⟩⟩
    ·repeat' first|exact trivial|refine ⟨rfl,?_⟩
    ·have y2:=yes (bb:=true) (gB.2 ⟨hr,eq_of_beq s⟩)
     refine ⟨⟨by omega,by decide,⟨Nat.le_refl _,by rw[aP jd];omega⟩,⟨Nat.le_refl _,by simp⟩,rfl⟩,rfl,ak (by omega),(x52.1+1,r51.1,r51.2),⟨by show x52.1+1<=_;omega,hk2⟩,by show _-(x52.1+1)<_;omega,rfl,?_⟩
     repeat' first|exact cv y2|exact cA jd y2 rfl|exact bu _ _|exact knB _ _|exact trivial|exact rfl|exact ae _|refine aN ?_|refine aS ?_ ?_|refine ⟨rfl,?_⟩|refine ⟨trivial,?_⟩|apply And.intro|(exact iEq (by omega))
    ·have y2:=yes (bb:=false) (by rw[Bool.eq_false_iff];intro z;exact (beq_eq_false_iff_ne.1 s) (gB.1 z).2)
     rw[if_neg (by decide),List.append_nil]at y2
     refine ⟨ak (by omega),(x52.1+1,r51.1,r51.2),⟨by show x52.1+1<=_;omega,hk2⟩,by show _-(x52.1+1)<_;omega,rfl,?_⟩
     rw[y2]
     repeat' first|exact bu _ _|exact knB _ _|exact trivial|exact rfl|exact ae _|refine aN ?_|refine aS ?_ ?_|refine ⟨rfl,?_⟩|refine ⟨trivial,?_⟩|apply And.intro|(exact iEq (by omega))
   ·have hr:=of_decide_eq_false r
    have y2:=yes (bb:=false) (by rw[Bool.eq_false_iff];intro z;exact hr (gB.1 z).1)
    rw[if_neg (by decide),List.append_nil]at y2
    refine ⟨ak (by omega),(x52.1+1,r53,x52.2.2),⟨by show x52.1+1<=_;omega,hk2⟩,by show _-(x52.1+1)<_;omega,rfl,?_⟩
    rw[y2]
    repeat' first|exact bu _ _|exact knB _ _|exact trivial|exact rfl|exact ae _|refine aN ?_|refine aS ?_ ?_|refine ⟨rfl,?_⟩|refine ⟨trivial,?_⟩|apply And.intro|(exact iEq (by omega))
  ·have no:aV p (bsC p a x0.1) (bsT p a x0.1+(x2.1:Int)) x51.1++bD p ((bsP p (bsC p a x0.1)).getD x51.1 0) (bsT p a x0.1+(x2.1:Int)) (x52.1+1)=aV p (bsC p a x0.1) (bsT p a x0.1+(x2.1:Int)) x51.1++bD p ((bsP p (bsC p a x0.1)).getD x51.1 0) (bsT p a x0.1+(x2.1:Int)) x52.1:=by
    rw[dU];unfold ek;rw[hk2,q];simp
   refine ⟨ak (by omega),(x52.1+1,r53,x52.2.2),⟨by show x52.1+1<=_;omega,hk2⟩,by show _-(x52.1+1)<_;omega,rfl,?_⟩
   rw[no]
   repeat' first|exact bu _ _|exact knB _ _|exact trivial|exact rfl|exact ae _|refine aN ?_|refine aS ?_ ?_|refine ⟨rfl,?_⟩|refine ⟨trivial,?_⟩|apply And.intro|(exact iEq (by omega))
theorem EY(o:bG p)(b:wz p a){x0:Nat×ab (sfP p)×ab (lfP p a)}(g:Cp p a x0.1)(hN:(x0.1:Int)<lfP p a p.frm 0)(Kx:ab (sfP p))(Lx:ab (lfP p a)):rJ p a x0 Kx Lx:=by
 have he:=dG o
 have ha:=b.a1
 have hf:=b.fin
 have gn:=g.n
 have ht:=g.t
 have hal:=od o b g (Int.toNat (a-bsT p a x0.1))
 have hpos:0<(dP p a x0.1).length:=oh ht.2 (by omega) (by omega)
 have hle:(dP p a x0.1).length<=1000000:=by
  have:(dP p a x0.1).length<=Int.toNat (a-bsT p a x0.1)*1152:=hal
  have h2:Int.toNat (a-bsT p a x0.1)<=288:=by omega
  omega
 have hbl:=xG p a x0.1
 delta rJ jl3 Dh nI slQ pt slN eR kbq apq c2q
 refine ⟨⟨rfl,rfl,trivial⟩,fun H' hn h=>(F7 hpos hle h.1 h.2.1 (by decide)).wkA ⟨ik,ae _,trivial⟩,rfl,⟨by omega,by decide,⟨Nat.le_refl _,by rw[aP jd];omega⟩,⟨Nat.le_refl _,by simp⟩,rfl⟩,rfl,(x0.1+1,Kx,Lx),by show x0.1+1<=_;omega,by show _-(x0.1+1)<_;omega,rfl,?_⟩
 have yes:=um p a x0.1
 repeat' first|exact cv yes|exact cA jd yes rfl|exact bu _ _|exact knB _ _|exact trivial|refine ⟨rfl,?_⟩|apply And.intro
theorem IG(o:bG p)(b:wz p a){x0 x2:Nat×ab (sfP p)×ab (lfP p a)}{Kx:ab (sfP p)}{Lx:ab (lfP p a)}(g:Cp p a x0.1)(hx2:bsT p a x0.1+(x2.1:Int)<a)(hw:wtB p (bsC p a x0.1) (bsT p a x0.1) (bsT p a x0.1+(x2.1:Int))=true):wu p a x0 x2 Kx Lx:=by
 have he:=dG o
 have ha:=b.a1
 have hc:=g.c
 have ht:=g.t
 have hb:=ft p (bsC p a x0.1)
 delta wu jlr jlv tC jlx tz tw tu tt jls jlw tr jly tq tn tj ti jl6 jlo A4 jld jl5 jll jl8 jla jlu jlm jl2 yS jl9 jlq jl4 jlk jlj jli jlh jlg jl0 jl3 nI slQ pt ac fk nw eR wR kbq ixq
 refine ⟨?_,fun H' hn h=>hn ▸ ky o hc (eG h),rfl,Nat.zero_le _,⟨rfl,?_⟩,fun _=>rfl,fun x51 hx1=>⟨fun q1 =>?_,fun q1 =>?_⟩⟩
 ·repeat' first|exact trivial|refine ⟨rfl,?_⟩
 ·rw[show aV p (bsC p a x0.1) (bsT p a x0.1+(x2.1:Int)) ((0,Kx,Lx):Nat×ab (sfP p)×ab (lfP p a)).1=[] from rfl,show List.filter (iP p a (bsN p a x0.1)) []=[] from rfl,List.append_nil]
  repeat' first|exact bu _ _|exact knB _ _|exact trivial|exact rfl|exact ae _|refine aN ?_|refine aS ?_ ?_|refine ⟨rfl,?_⟩|refine ⟨trivial,?_⟩|apply And.intro
 ·have hx:=of_decide_eq_true q1
  have hx':x51.1<(bsP p (bsC p a x0.1)).length:=by omega
  have e0:aV p (bsC p a x0.1) (bsT p a x0.1+(x2.1:Int)) x51.1++bD p ((bsP p (bsC p a x0.1)).getD x51.1 0) (bsT p a x0.1+(x2.1:Int)) 0=aV p (bsC p a x0.1) (bsT p a x0.1+(x2.1:Int)) x51.1:=List.append_nil _
  refine ⟨by omega,pM hx' (by omega),ak (by omega),rfl,⟨Nat.zero_le _,rfl⟩,⟨rfl,?_⟩,fun _=>rfl,fun x52 tU=>⟨fun q2 =>?_,fun q2 =>?_⟩⟩
  ·rw[e0]
   repeat' first|exact bu _ _|exact knB _ _|exact trivial|exact rfl|exact ae _|refine aN ?_|refine aS ?_ ?_|refine ⟨rfl,?_⟩|refine ⟨trivial,?_⟩|apply And.intro|(exact iEq (by omega))
  ·have hq:=of_decide_eq_true q2
   have hx3:x52.1<Int.toNat (endP p-(bsT p a x0.1+(x2.1:Int))):=by omega
   have e1:Int.tdiv (bsT p a x0.1+(x2.1:Int)+1+(x52.1:Int)-1) 6=Int.tdiv (bsT p a x0.1+(x2.1:Int)+(x52.1:Int)) 6:=by congr 1;omega
   refine ⟨ak (by omega),?_,fun H' hn h=>td o (nY o hc hx') (by omega) (eG h),fun r53 _=>⟨?_,fun q3 =>?_,fun q3 =>?_⟩⟩
   ·repeat' first|exact trivial|refine ⟨rfl,?_⟩
   ·rw[nf e1]
   ·refine ⟨ak (by omega),(x51.1+1,r53,x52.2.2),by show x51.1+1<=_;omega,by show _-(x51.1+1)<_;omega,rfl,?_⟩
    rw[show aV p (bsC p a x0.1) (bsT p a x0.1+(x2.1:Int)) (x51.1+1)=_ from dy hx' (Nat.le_of_lt hx3) (.inr (re (of_decide_eq_true q3)))]
    repeat' first|exact bu _ _|exact knB _ _|exact trivial|exact rfl|exact ae _|refine aN ?_|refine aS ?_ ?_|refine ⟨rfl,?_⟩|refine ⟨trivial,?_⟩|apply And.intro
   ·have tl:oo p a x0 x2 x51 x52 r53:=II o b g hx2 hx' hx3 tU.2 (of_decide_eq_false q3)
    have hz:=o.size
    refine ⟨ak (by omega),iEq (by omega),fun q4 =>?_,fun q4 =>?_⟩
    ·have h4:=of_decide_eq_true q4
     have hdiv:0<=Int.tdiv (6*p.size-1) (((x52.1+1:Nat):Int)-1)/\Int.tdiv (6*p.size-1) (((x52.1+1:Nat):Int)-1)<=3000:=by
      rw[Int.tdiv_eq_ediv_of_nonneg (by omega)]
      exact ⟨Int.ediv_nonneg (by omega) (by omega),Int.le_trans (Int.ediv_le_self _ (by omega)) (by omega)⟩
     refine ⟨ak (by omega),ak (by omega),ak (by omega),by omega,ak (by omega),?_,tl⟩
     have h5:1<x52.1+1:=by omega
     unfold spL;rw[if_pos h5]
    ·refine ⟨?_,tl⟩
     have h5:¬ 1<x52.1+1:=by have:=of_decide_eq_false q4;omega
     unfold spL;rw[if_neg h5]
  ·have hq:=of_decide_eq_false q2
   refine ⟨ak (by omega),(x51.1+1,x52.2.1,x52.2.2),by show x51.1+1<=_;omega,by show _-(x51.1+1)<_;omega,rfl,?_⟩
   rw[show aV p (bsC p a x0.1) (bsT p a x0.1+(x2.1:Int)) (x51.1+1)=_ from dy hx' tU.1 (.inl (by omega))]
   repeat' first|exact bu _ _|exact knB _ _|exact trivial|exact rfl|exact ae _|refine aN ?_|refine aS ?_ ?_|refine ⟨rfl,?_⟩|refine ⟨trivial,?_⟩|apply And.intro
 ·have hq:=of_decide_eq_false q1
  have e:bJ p a x0.1 x2.1++List.filter (iP p a (bsN p a x0.1)) (aV p (bsC p a x0.1) (bsT p a x0.1+(x2.1:Int)) x51.1)=bJ p a x0.1 (x2.1+1):=by
   rw[gu (by omega)]
   show _=io p a (bsN p a x0.1) (bsC p a x0.1) (bsT p a x0.1) (x2.1+1)
   rw[j0,if_pos hw];rfl
  rw[e]
  refine ⟨ak (by omega),(x2.1+1,x51.2.1,x51.2.2),by show x2.1+1<=_;omega,by show _-(x2.1+1)<_;omega,rfl,?_⟩
  repeat' first|exact bu _ _|exact knB _ _|exact trivial|exact ae _|refine aN ?_|refine aS ?_ ?_|refine ⟨rfl,?_⟩|apply And.intro|(exact iEq (by omega))
theorem Gc(o:bG p)(b:wz p a){K:ab (sfP p)}{H:Heap}{l c' n t' w i W m:Nat}(at_:i7 H p K l c' n t' w i W m) :
  ad prog 55 [pt W,nI a] H [m] (fun y H2 => ∃z:ab (sfP p),True/\y = .slice (some ⟨H.length,0,some 1⟩) (dO p a).length (dO p a).length/\H2=H.set m (.map (knE z.1)) ++ [.cells true 4 ((dO p a).flatMap lgC)]):=by
 have key:=lI (α:=ab (sfP p)) (I:=fun _=>True) (os:=wOs p K) (fun _ j => .slice (some ⟨j,0,some 1⟩) (dO p a).length (dO p a).length) (chg:=fun x=>[(8,true,.map (knE x.1))]) (new:=fun _=>[.cells true 4 ((dO p a).flatMap lgC)]) (ks:=[8])
  (Eq.mpr (Jb p a K) ?_) (jE p K) (fun k hk=>by obtain rfl:=List.mem_singleton.1 hk;exact ⟨_,rfl,rfl⟩) (fun _ _=>rfl) (fun x _=>⟨⟨List.mem_singleton.2 rfl,plM x.1⟩,trivial⟩) (fun _ _=>⟨⟨_,_,rfl,bu _ _⟩,trivial⟩) at_.1 at_.objs rfl (fun _ _ _=>rfl) rfl (ms:=[m]) rfl
 ·exact key
 have he:=dG o
 have ha:=b.a1
 have hf:=b.fin
 have hf0:=(As p (c:=p.frm) b.a0).1
 delta Fh jlc Dh jlr Dj jlv tC jlx tz tw tu tt jls Di jlw tr jly tq tn tj ti tD jln jl4 jl5 Dg jlt jlz vB jlp vA vz vy vw jl9 Ge jl6 jlu A3 jlo jld jle jl8 jlq jlm yS jlk jlj jli jlh jlg jl0 jl3 nI slQ pt ac fk eR wR kbq
 refine ⟨rfl,Nat.zero_le _,⟨rfl,?_⟩,fun _=>rfl,fun x0 hx0 =>?_⟩
 ·repeat' first|exact knB _ _|exact trivial|exact ef _ _ _ (.inl rfl)|refine ⟨rfl,?_⟩|refine ⟨trivial,?_⟩|apply And.intro
 have g:=DU o b x0.1 (by omega)
 have gn:=g.n
 have gt:=g.t
 refine ⟨?_,fun H' hn h=>EQ o ha g.c gt.1 gt.2 (EM h),fun r1 _=>⟨fun q =>?_,fun q =>?_⟩⟩
 ·repeat' first|exact trivial|refine ⟨rfl,?_⟩
 ·have hz:bsN p a x0.1=0:=eq_of_beq q
  have hk:x0.1=Int.toNat (lfP p a p.frm 0):=by omega
  refine ⟨r1.1,trivial,?_⟩
  rw[hk]
  repeat' first|exact bu _ _|exact knB _ _|exact trivial|exact ae _|refine ⟨rfl,?_⟩|apply And.intro
 ·have hz:bsN p a x0.1≠0:=beq_eq_false_iff_ne.1 q
  have hN:(x0.1:Int)<lfP p a p.frm 0:=by omega
  refine ⟨rfl,Nat.zero_le _,⟨rfl,?_⟩,fun _=>rfl,fun x2 hx2=>⟨fun q2 =>?_,fun q2 =>?_⟩⟩
  ·repeat' first|exact knB _ _|exact trivial|exact ae _|refine aN ?_|refine aS ?_ ?_|exact ef _ _ _ (.inl rfl)|refine ⟨rfl,?_⟩|refine ⟨trivial,?_⟩|apply And.intro|(exact iEq (by omega))
  ·have h2:=of_decide_eq_true q2
   refine ⟨?_,fun H' hn h=>qU o g.c gt.1 (by omega) (eG h),fun r3 _=>⟨fun q3=>IG o b g h2 q3,fun q3 =>?_⟩⟩
   ·repeat' first|exact trivial|refine ⟨rfl,?_⟩
   ·have e:bJ p a x0.1 x2.1=dP p a x0.1:=(oe q3 hx2).symm
    rw[e]
    exact ⟨rfl,rfl,EY o b g hN _ _⟩
  ·have h2:=of_decide_eq_false q2
   have e:bJ p a x0.1 x2.1=dP p a x0.1:=by
    show bJ p a x0.1 x2.1=bJ p a x0.1 _
    congr 1;omega
   rw[e]
   exact ⟨rfl,rfl,EY o b g hN _ _⟩
end
end
end Go.Proofs.YtmecpfikljhjaaaGreatDoor
