/- What is to be shown of functions. Printed by a program. No condition. -/
import Derived.Test.YthcjliffpebjaaaGreatGM4xD5g
import Derived.Test.YthcjliffpebjaaaGreatGX0xS4a
import Derived.Test.YthcjliffpebjaaaGreatGP5xB3
open Go Go.K
set_option maxRecDepth 1000000
set_option maxHeartbeats 4000000
set_option linter.unusedVariables false
set_option linter.unusedSimpArgs false
namespace Go.Proofs.YthcjliffpebjaaaGreat
noncomputable section
attribute [local irreducible] vF
abbrev jf2(qi0 qi1:Int)(qA0:List Report)(qB0:af)(qi2:Int):Value:=.tuple #[.agg #[nI (aP qi0 qi1 qA0 qB0 qi2).1.w,nI (aP qi0 qi1 qA0 qB0 qi2).1.h,nI (aP qi0 qi1 qA0 qB0 qi2).1.hour,slQ 1 1 (List.length (aP qi0 qi1 qA0 qB0 qi2).1.cells)],slQ 2 1 (List.length (aP qi0 qi1 qA0 qB0 qi2).2.1),nI (aP qi0 qi1 qA0 qB0 qi2).2.2]
abbrev Fx:Prop:=True/\True/\True
abbrev jf7(qi0 qi1 qi2:Int)(qA0:List Report)(qB0:af)(qi3:Int):Prop:=true=true/\wk (.tuple #[.agg #[nI 0,nI 0,nI 0,.slice none 0 0],.slice none 0 0,nI qi0]:Value) (rn (sg 1 []) 3 (jf2 qi1 qi2 qA0 qB0 qi3))/\Fx
abbrev jfy(l:List Report):Int:=(l.length:Nat)
abbrev xV:Value:=nI 0
abbrev jfu:Int:=(0:Nat)
abbrev jfq(qB0:af):List Value:=[nI qB0.up.ae,nI qB0.up.ab,nI qB0.up.aa,nI qB0.up.ac,nI qB0.down.ae,nI qB0.down.ab,nI qB0.down.aa,nI qB0.down.ac]
abbrev jfn:ah:=.cells true 0 [nI 0,nI 0,nI 0,.slice none 0 0]
abbrev J0(qi0 qi1 qi2:Int):List Value:=[nI qi0,nI qi1,nI qi2,slQ 3 1 (bS (qi0*qi1).toNat).length]
abbrev jf1(qn0:Nat)(qB0:af)(qi0 qi1 qi2:Int):Prop:=(krq qn0 (.cells true 0 (jfq qB0)))/\(krq qn0 jfn)/\(krq qn0 (.cells true 0 (J0 qi0 qi1 qi2)))/\True
abbrev jfw:Prop:=(True)/\(True)
abbrev mc(qA0:List Report)(qn0:Nat):=qA0.getD qn0 ag
abbrev jf3(qA0:List Report)(qn0:Nat):Value:=.agg #[nI (mc qA0 qn0).id,nI (mc qA0 qn0).source,nI (mc qA0 qn0).at_,nI (mc qA0 qn0).x,nI (mc qA0 qn0).y,nI (mc qA0 qn0).has,nI (mc qA0 qn0).cell.ae.lo,nI (mc qA0 qn0).cell.ae.hi,nI (mc qA0 qn0).cell.ab.lo,nI (mc qA0 qn0).cell.ab.hi,nI (mc qA0 qn0).cell.aa.lo,nI (mc qA0 qn0).cell.aa.hi,nI (mc qA0 qn0).cell.ac.lo,nI (mc qA0 qn0).cell.ac.hi]
abbrev jfr(l:List Report)(J:Nat):=l.getD J ag
abbrev Ms(w h:Int)(l:List Report)(now:Int)(J:Nat):Prop:=eR (pt 4)/\eR (pt 2)/\eR (pt 1)/\eR (nI w)/\eR (nI h)/\wR (slQ 0 2 l.length)/\eR (nI now)/\eR (nI (J:Int))/\eR (nI (errReport (jfr l J)))/\True
abbrev jfj(qn0 qn1:Nat)(qA0:List Report):Prop:=qn0<=qn1/\∀Z:Nat,Z<qn0->(qA0.getD Z ag).id≠(qA0.getD qn1 ag).id
abbrev jfg(qA0:List Report)(qn0:Nat):Prop:=(qA0.flatMap ai)[((0+Int.toNat (qn0:Int)*14)+3)]?=some (nI (mc qA0 qn0).x)
abbrev jfh(qA0:List Report)(qn0:Nat):Prop:=(qA0.flatMap ai)[((0+Int.toNat (qn0:Int)*14)+4)]?=some (nI (mc qA0 qn0).y)
abbrev jfz(l:List Report)(U J:Nat):Int:=((atN l U (kxy (jfr l J))).length:Nat)
abbrev jf9(qn0 qn1:Nat)(qA0:List Report)(qi0 qi1 qi2:Int)(qB0:af):=nw ((qn0:Int)+1) (∃bH:Nat,(bH<=qn1/\∀Z:Nat,Z<bH->(qA0.getD Z ag).id≠(qA0.getD qn1 ag).id)/\(qn1-bH)<(qn1-qn0)/\true=true/\((nI ((qn0:Int)+1):Value)=nI (bH:Int)/\(nI (((atN qA0 qn0 (kxy (qA0.getD qn1 ag))).length:Nat):Int):Value)=nI (((atN qA0 bH (kxy (qA0.getD qn1 ag))).length:Nat):Int)/\eR (pt 4)/\eR (pt 2)/\eR (pt 1)/\eR (nI qi0)/\eR (nI qi1)/\wR (slQ 0 2 qA0.length)/\eR (nI qi2)/\eR (nI (qn1:Int))/\eR (nI (errReport (qA0.getD qn1 ag)))/\True)/\(jf1 5 qB0 qi0 qi1 qi2)/\jfw)
abbrev Mp(w h:Int)(l:List Report)(now:Int):Prop:=eR (pt 4)/\eR (pt 2)/\eR (pt 1)/\eR (nI w)/\eR (nI h)/\wR (slQ 0 2 l.length)/\eR (nI now)/\eR (slN 5 l.length)/\True
abbrev jf8(qn0:Nat)(qB0:af):=krq qn0 (.cells true 0 (jfq qB0))
abbrev jfe(qn0:Nat)(qi0 qi1 qi2:Int):=krq qn0 (.cells true 0 (J0 qi0 qi1 qi2))
abbrev Hq(m:af)(w h now:Int):Prop:=(jf8 6 m)/\(krq 6 jfn)/\(jfe 6 w h now)/\True
abbrev Mq(l:List Report)(now h w:Int)(U:Nat):Prop:=eR (slN 5 l.length)/\eR (nI now)/\wR (slQ 0 2 l.length)/\eR (nI h)/\eR (nI w)/\eR (pt 1)/\eR (pt 2)/\eR (pt 4)/\eR (nI (U:Int))/\True
abbrev Mr(U:Nat)(w h:Int)(l:List Report)(now:Int)(Z:Nat):Prop:=eR (nI (U:Int))/\eR (pt 4)/\eR (pt 2)/\eR (pt 1)/\eR (nI w)/\eR (nI h)/\wR (slQ 0 2 l.length)/\eR (nI now)/\eR (slN 5 l.length)/\eR (nI (Z:Int))/\True
abbrev jfx(l:List Report)(n_3 Z U:Nat):=fo l n_3 ((Z:Int),(U:Int))
abbrev jfm(l:List Report)(n_3:Nat):List Value:=[nI (l.getD n_3 ag).id,nI (l.getD n_3 ag).source,nI (l.getD n_3 ag).at_,nI (l.getD n_3 ag).x,nI (l.getD n_3 ag).y,nI (l.getD n_3 ag).has,nI (l.getD n_3 ag).cell.ae.lo,nI (l.getD n_3 ag).cell.ae.hi,nI (l.getD n_3 ag).cell.ab.lo,nI (l.getD n_3 ag).cell.ab.hi,nI (l.getD n_3 ag).cell.aa.lo,nI (l.getD n_3 ag).cell.aa.hi,nI (l.getD n_3 ag).cell.ac.lo,nI (l.getD n_3 ag).cell.ac.hi]
abbrev jft(l:List Report)(n_3 Z U:Nat):=cg l n_3 ((Z:Int),(U:Int))
abbrev jf5(qn0:Nat)(qA0:List Report)(qn1 qn2:Nat)(qi0 qi1 qi2:Int)(qB0:af):=nw ((qn0:Int)+1) (∃aQ:Nat,(aQ<=qA0.length)/\(qA0.length-aQ)<(qA0.length-qn0)/\true=true/\((nI ((qn0:Int)+1):Value)=nI (aQ:Int)/\wk (slQ 6 1 (fo qA0 qn0 ((qn1:Int),(qn2:Int))).length:Value) (slQ 6 1 (fo qA0 aQ ((qn1:Int),(qn2:Int))).length:Value)/\wk (slQ 7 1 (cg qA0 qn0 ((qn1:Int),(qn2:Int))).length:Value) (slQ 7 1 (cg qA0 aQ ((qn1:Int),(qn2:Int))).length:Value)/\eR (nI (qn2:Int))/\eR (pt 4)/\eR (pt 2)/\eR (pt 1)/\eR (nI qi0)/\eR (nI qi1)/\wR (slQ 0 2 qA0.length)/\eR (nI qi2)/\eR (slN 5 qA0.length)/\eR (nI (qn1:Int))/\True)/\(jf1 6 qB0 qi0 qi1 qi2)/\((kbq 6 (.cells true 14 ((fo qA0 qn0 ((qn1:Int),(qn2:Int))).flatMap ai)) (.cells true 14 ((fo qA0 aQ ((qn1:Int),(qn2:Int))).flatMap ai)))/\(kbq 6 (.cells true 1 ((cg qA0 qn0 ((qn1:Int),(qn2:Int))).flatMap aA)) (.cells true 1 ((cg qA0 aQ ((qn1:Int),(qn2:Int))).flatMap aA)))/\True)/\(True))
abbrev jfs(l:List Report)(Z U:Nat):=fo l l.length ((Z:Int),(U:Int))
abbrev jf4(qA0:List Report)(qB0:af)(qi0:Int)(qn0 qn1:Nat):=bh (cS qA0 qB0 qi0 ((qn0:Int),(qn1:Int))) (cS qA0 qB0 qi0 ((qn0:Int),(qn1:Int))).length
abbrev jf0(qA0:List Report)(qB0:af)(qi0:Int)(qn0 qn1:Nat):=di (cS qA0 qB0 qi0 ((qn0:Int),(qn1:Int))) (bI (cS qA0 qB0 qi0 ((qn0:Int),(qn1:Int))))
abbrev jfa(qA0:List Report)(qB0:af)(qi0:Int)(qn0 qn1:Nat):Value:=.tuple #[.iface ((jf4 qA0 qB0 qi0 qn0 qn1).length+1) (.agg ⟨((jf4 qA0 qB0 qi0 qn0 qn1).flatMap aC)⟩),.agg #[nI ((jf0 qA0 qB0 qi0 qn0 qn1).getD aj).ae.lo,nI ((jf0 qA0 qB0 qi0 qn0 qn1).getD aj).ae.hi,nI ((jf0 qA0 qB0 qi0 qn0 qn1).getD aj).ab.lo,nI ((jf0 qA0 qB0 qi0 qn0 qn1).getD aj).ab.hi,nI ((jf0 qA0 qB0 qi0 qn0 qn1).getD aj).aa.lo,nI ((jf0 qA0 qB0 qi0 qn0 qn1).getD aj).aa.hi,nI ((jf0 qA0 qB0 qi0 qn0 qn1).getD aj).ac.lo,nI ((jf0 qA0 qB0 qi0 qn0 qn1).getD aj).ac.hi]]
abbrev jfi(qA0:List Report)(qB0:af)(qi0:Int)(qn0 qn1:Nat):Value:=.iface ((jf4 qA0 qB0 qi0 qn0 qn1).length+1) (.agg ⟨((jf4 qA0 qB0 qi0 qn0 qn1).flatMap aC)⟩)
abbrev jfp(Z:Nat)(l:List Report)(now h w:Int)(U n_3:Nat)(m:af):Prop:=eR (nI (Z:Int))/\eR (slN 5 l.length)/\eR (nI now)/\wR (slQ 0 2 l.length)/\eR (nI h)/\eR (nI w)/\eR (pt 1)/\eR (pt 2)/\eR (pt 4)/\eR (nI (U:Int))/\wR (slQ 7 1 (jft l n_3 Z U).length)/\wR (slQ 6 1 (jfx l n_3 Z U).length)/\eR (nI (n_3:Int))/\eR (pt 8)/\(jfi l m now Z U)=rn (sg 9 []) 3 (jfi l m now Z U)/\True
abbrev jfd(qA0:List Report)(qB0:af)(qi0:Int)(qn0 qn1:Nat):=krq 9 (.cells true 0 [nI ((jf0 qA0 qB0 qi0 qn0 qn1).getD aj).ae.lo,nI ((jf0 qA0 qB0 qi0 qn0 qn1).getD aj).ae.hi,nI ((jf0 qA0 qB0 qi0 qn0 qn1).getD aj).ab.lo,nI ((jf0 qA0 qB0 qi0 qn0 qn1).getD aj).ab.hi,nI ((jf0 qA0 qB0 qi0 qn0 qn1).getD aj).aa.lo,nI ((jf0 qA0 qB0 qi0 qn0 qn1).getD aj).aa.hi,nI ((jf0 qA0 qB0 qi0 qn0 qn1).getD aj).ac.lo,nI ((jf0 qA0 qB0 qi0 qn0 qn1).getD aj).ac.hi])
abbrev jfk(qi0:Int)(qA0:List Report)(qB0:af)(qi1:Int)(qn0 qn1 qn2:Nat):=va qi0 qA0 qB0 qi1 ((qn0:Int)*qi0+(qn1:Int)) ((qn1:Int),(qn0:Int)) qn2
abbrev jfo(l:List Report)(m:af)(now:Int)(Z U:Nat):List Value:=[nI ((jf0 l m now Z U).getD aj).ae.lo,nI ((jf0 l m now Z U).getD aj).ae.hi,nI ((jf0 l m now Z U).getD aj).ab.lo,nI ((jf0 l m now Z U).getD aj).ab.hi,nI ((jf0 l m now Z U).getD aj).aa.lo,nI ((jf0 l m now Z U).getD aj).aa.hi,nI ((jf0 l m now Z U).getD aj).ac.lo,nI ((jf0 l m now Z U).getD aj).ac.hi]
abbrev jfv(l:List Report):Prop:=eR (slN 5 l.length)/\wR (slQ 0 2 l.length)/\eR (pt 2)/\eR (pt 4)/\True
def IE(w h:Int)(l:List Report)(m:af)(now:Int):Prop :=
 (ck (aW w h now=0) (n0q 3 63 [nI w,nI h,nI now] (.tuple #[.agg #[nI w,nI h,nI now,slQ 3 1 (bS (w*h).toNat).length],nI 0]) [(.cells true 8 ((bS (w*h).toNat).flatMap cellC):ah)] (fk ((0:Int) != 0) (jf7 0 w h l m now) (c0q 5 32 [.agg #[nI m.up.ae,nI m.up.ab,nI m.up.aa,nI m.up.ac,nI m.down.ae,nI m.down.ab,nI m.down.aa,nI m.down.ac]] (nI (aM m)) (fk (((aM m):Int) != 0) (true=true/\wk (.tuple #[.agg #[nI 0,nI 0,nI 0,.slice none 0 0],.slice none 0 0,nI (aM m)]:Value) (rn (sg 1 []) 3 (jf2 w h l m now))/\Fx) (fk (decide ((400:Int)<(jfy l))) (jf7 2 w h l m now) (lq (0<=l.length/\cj (jo w h l now) 0=0) (true=true/\(xV=nI jfu/\eR (nI now)/\wR (slQ 0 2 l.length)/\eR (nI h)/\eR (nI w)/\eR (pt 1)/\eR (pt 2)/\eR (pt 4)/\True)/\(jf1 5 m w h now)/\jfw) (∀J:Nat,(J<=l.length/\cj (jo w h l now) J=0)->(fk (decide (((J:Int):Int)<(jfy l))) ((ixq (J:Int) l.length)/\((cu 14 (l.flatMap ai) (0+Int.toNat (J:Int)*14)=some (jf3 l J))/\(c0q 5 77 [.agg #[nI (jfr l J).id,nI (jfr l J).source,nI (jfr l J).at_,nI (jfr l J).x,nI (jfr l J).y,nI (jfr l J).has,nI (jfr l J).cell.ae.lo,nI (jfr l J).cell.ae.hi,nI (jfr l J).cell.ab.lo,nI (jfr l J).cell.ab.hi,nI (jfr l J).cell.aa.lo,nI (jfr l J).cell.aa.hi,nI (jfr l J).cell.ac.lo,nI (jfr l J).cell.ac.hi]] (nI (errReport (jfr l J))) (fk (((errReport (jfr l J)):Int) != 0) (true=true/\wk (.tuple #[.agg #[nI 0,nI 0,nI 0,.slice none 0 0],.slice none 0 0,nI (errReport (jfr l J))]:Value) (rn (sg 1 []) 3 (jf2 w h l m now))/\Fx) (lq (0<=J/\∀U:Nat,U<0->(l.getD U ag).id≠(jfr l J).id) (true=true/\(xV=nI jfu/\xV=nI (((atN l 0 (kxy (jfr l J))).length:Nat):Int)/\Ms w h l now J)/\(jf1 5 m w h now)/\jfw) (∀U:Nat,(jfj U J l)->(fk (decide (((U:Int):Int)<(J:Int))) ((ixq (U:Int) l.length)/\(((l.flatMap ai)[((0+Int.toNat (U:Int)*14)+0)]?=some (nI (l.getD U ag).id))/\((ixq (J:Int) l.length)/\(((l.flatMap ai)[((0+Int.toNat (J:Int)*14)+0)]?=some (nI (jfr l J).id))/\(fk (((l.getD U ag).id:Int) == (jfr l J).id) (jf7 10 w h l m now) ((ixq (U:Int) l.length)/\((jfg l U)/\((ixq (J:Int) l.length)/\((jfg l J)/\(fk (((l.getD U ag).x:Int) == (jfr l J).x) ((ixq (U:Int) l.length)/\((jfh l U)/\((ixq (J:Int) l.length)/\((jfh l J)/\(fk (((l.getD U ag).y:Int) == (jfr l J).y) (nw ((jfz l U J)+1) (nw ((U:Int)+1) (∃bH:Nat,(jfj bH J l)/\(J-bH)<(J-U)/\true=true/\((nI ((U:Int)+1):Value)=nI (bH:Int)/\(nI ((jfz l U J)+1):Value)=nI (((atN l bH (kxy (jfr l J))).length:Nat):Int)/\Ms w h l now J)/\(jf1 5 m w h now)/\jfw))) (jf9 U J l w h now m)))))) (jf9 U J l w h now m))))))))))) ((ixq (J:Int) l.length)/\((jfg l J)/\(fk (decide ((w:Int)<=(jfr l J).x)) (jf7 1 w h l m now) ((ixq (J:Int) l.length)/\((jfh l J)/\(fk (decide ((h:Int)<=(jfr l J).y)) (jf7 1 w h l m now) ((ixq (J:Int) l.length)/\(((l.flatMap ai)[((0+Int.toNat (J:Int)*14)+2)]?=some (nI (jfr l J).at_))/\(fk (decide ((now:Int)<(jfr l J).at_)) (jf7 12 w h l m now) (fk (decide ((12:Int)<=(jfz l U J))) (jf7 2 w h l m now) (nw ((J:Int)+1) (∃bH:Nat,(bH<=l.length/\cj (jo w h l now) bH=0)/\(l.length-bH)<(l.length-J)/\true=true/\((nI ((J:Int)+1):Value)=nI (bH:Int)/\eR (nI now)/\wR (slQ 0 2 l.length)/\eR (nI h)/\eR (nI w)/\eR (pt 1)/\eR (pt 2)/\eR (pt 4)/\True)/\(jf1 5 m w h now)/\jfw))))))))))))))))))) (((0:Int)<=(jfy l)/\((jfy l):Int)<=(jfy l)/\((jfy l):Int)<2 ^ 62/\1*((jfy l):Int)<=2 ^ 48)/\(lq (jfu<=h) (true=true/\(xV=nI jfu/\Mp w h l now)/\((kbq 6 (.cells true 8 ((bS (w*h).toNat).flatMap cellC)) (.cells true 8 ((eG w h l m now (jfu*w)).flatMap cellC)))/\(kbq 6 (.cells true 1 (dX [.bool false] l.length)) (.cells true 1 ((kN w l m now (jfu*w)).flatMap aC)))/\Hq m w h now)/\jfw) (∀U:Nat,((U:Int)<=h)->(fk (decide (((U:Int):Int)<h)) (lq (jfu<=w) (true=true/\(xV=nI jfu/\Mq l now h w U)/\((kbq 6 (.cells true 8 ((eG w h l m now ((U:Int)*w)).flatMap cellC)) (.cells true 8 ((eG w h l m now ((U:Int)*w+jfu)).flatMap cellC)))/\(kbq 6 (.cells true 1 ((kN w l m now ((U:Int)*w)).flatMap aC)) (.cells true 1 ((kN w l m now ((U:Int)*w+jfu)).flatMap aC)))/\Hq m w h now)/\jfw) (∀Z:Nat,((Z:Int)<=w)->(fk (decide (((Z:Int):Int)<w)) (lq (0<=l.length) (true=true/\(xV=nI jfu/\wk (.slice none 0 0:Value) (slQ 0 1 (fo l 0 ((Z:Int),(U:Int))).length:Value)/\wk (.slice none 0 0:Value) (slQ 0 1 (cg l 0 ((Z:Int),(U:Int))).length:Value)/\Mr U w h l now Z)/\(jf1 6 m w h now)/\Fx/\(True)) (∀n_3:Nat,(n_3<=l.length)->(fk (decide (((n_3:Int):Int)<(jfy l))) ((ixq (n_3:Int) l.length)/\((jfg l n_3)/\(fk (((l.getD n_3 ag).x:Int) == (Z:Int)) ((ixq (n_3:Int) l.length)/\((jfh l n_3)/\(fk (((l.getD n_3 ag).y:Int) == (U:Int)) ((ixq (n_3:Int) l.length)/\((cu 14 (l.flatMap ai) (0+Int.toNat (n_3:Int)*14)=some (jf3 l n_3))/\(apq (jfx l n_3 Z U).length 112 14 ((jfx l n_3 Z U).flatMap ai) (jfm l n_3) (apq (jft l n_3 Z U).length 8 1 ((jft l n_3 Z U).flatMap aA) [nI (n_3:Int)] (nw ((n_3:Int)+1) (∃aQ:Nat,(aQ<=l.length)/\(l.length-aQ)<(l.length-n_3)/\true=true/\((nI ((n_3:Int)+1):Value)=nI (aQ:Int)/\wk (slN 9 ((jfx l n_3 Z U).length+1):Value) (slQ 9 1 (fo l aQ ((Z:Int),(U:Int))).length:Value)/\wk (slN 11 ((jft l n_3 Z U).length+1):Value) (slQ 11 1 (cg l aQ ((Z:Int),(U:Int))).length:Value)/\Mr U w h l now Z)/\(jf1 6 m w h now)/\((kbq 6 (.cells true 14 (((((jfx l n_3 Z U).flatMap ai).drop 0).take ((jfx l n_3 Z U).length*14))++((((jfm l n_3):List Value).drop 0).take (1*14)))) (.cells true 14 ((fo l aQ ((Z:Int),(U:Int))).flatMap ai)))/\(kbq 6 (.cells true 1 (((((jft l n_3 Z U).flatMap aA).drop 0).take ((jft l n_3 Z U).length*1))++((([nI (n_3:Int)]:List Value).drop 0).take (1*1)))) (.cells true 1 ((cg l aQ ((Z:Int),(U:Int))).flatMap aA)))/\True)/\(True))))))) (jf5 n_3 l Z U w h now m)))) (jf5 n_3 l Z U w h now m)))) (((some (.cells true 14 ((jfx l n_3 Z U).flatMap ai):ah)=some (.cells true 14 ((jfs l Z U).flatMap ai):ah))/\True)/\(∀H':Heap,H'.length=8->(H'[6]?=some (.cells true 14 ((jfs l Z U).flatMap ai):ah)/\True)->ak prog 86 [slQ 6 1 (jfx l n_3 Z U).length,.agg #[nI m.up.ae,nI m.up.ab,nI m.up.aa,nI m.up.ac,nI m.down.ae,nI m.down.ab,nI m.down.aa,nI m.down.ac],nI now] H' [] (Is (jfa l m now Z U) H'))/\(nw ((U:Int)*w) (nw (((U:Int)*w)+(Z:Int)) ((ixq (((U:Int)*w)+(Z:Int)) (bS (w*h).toNat).length)/\(((0+Int.toNat (((U:Int)*w)+(Z:Int))*8)+8<=List.length ((eG w h l m now ((U:Int)*w+(Z:Int))).flatMap cellC))/\true=true/\(lq (0<=List.length (jfs l Z U)) (true=true/\(xV=nI jfu/\jfp Z l now h w U n_3 m)/\((kbq 9 (.cells true 1 ((kN w l m now ((U:Int)*w+(Z:Int))).flatMap aC)) (.cells true 1 ((va w l m now ((U:Int)*w+(Z:Int)) ((Z:Int),(U:Int)) 0).flatMap aC)))/\(jf8 9 m)/\(krq 9 jfn)/\(jfe 9 w h now)/\(jfd l m now Z U)/\True)/\jfw) (∀n_4:Nat,(n_4<=List.length (jfs l Z U))->(fk (decide (((n_4:Int):Int)<(((jfx l n_3 Z U).length:Nat):Int))) ((ixq (n_4:Int) (jft l n_3 Z U).length)/\((((jft l n_3 Z U).flatMap aA)[(0+Int.toNat (n_4:Int)*1)]?=some (nI ((jft l n_3 Z U).getD n_4 0)))/\((ixq (n_4:Int) (jf4 l m now Z U).length)/\((((jf4 l m now Z U).flatMap aC)[(Int.toNat (n_4:Int)*1)]?=some (.bool ((jf4 l m now Z U).getD n_4 false)))/\((ixq ((jft l n_3 Z U).getD n_4 0) l.length)/\(((0+Int.toNat ((jft l n_3 Z U).getD n_4 0)*1)+1<=List.length ((jfk w l m now U Z n_4).flatMap aC))/\true=true/\(nw ((n_4:Int)+1) (∃cZ:Nat,(cZ<=List.length (jfs l Z U))/\(List.length (jfs l Z U)-cZ)<(List.length (jfs l Z U)-n_4)/\true=true/\((nI ((n_4:Int)+1):Value)=nI (cZ:Int)/\jfp Z l now h w U n_3 m)/\((kbq 9 (.cells true 1 (bQ ((jfk w l m now U Z n_4).flatMap aC) (0+Int.toNat ((jft l n_3 Z U).getD n_4 0)*1) [.bool (!((jf4 l m now Z U).getD n_4 false))])) (.cells true 1 ((jfk w l m now U Z cZ).flatMap aC)))/\(jf8 9 m)/\(krq 9 jfn)/\(jfe 9 w h now)/\(jfd l m now Z U)/\True)/\jfw)))))))) (nw ((Z:Int)+1) (∃cZ:Nat,((cZ:Int)<=w)/\(Int.toNat w-cZ)<(Int.toNat w-Z)/\true=true/\((nI ((Z:Int)+1):Value)=nI (cZ:Int)/\Mq l now h w U)/\((kbq 6 (.cells true 8 (bQ ((eG w h l m now ((U:Int)*w+(Z:Int))).flatMap cellC) (0+Int.toNat (((U:Int)*w)+(Z:Int))*8) (jfo l m now Z U))) (.cells true 8 ((eG w h l m now ((U:Int)*w+(cZ:Int))).flatMap cellC)))/\(kbq 6 (.cells true 1 ((jfk w l m now U Z n_4).flatMap aC)) (.cells true 1 ((kN w l m now ((U:Int)*w+(cZ:Int))).flatMap aC)))/\Hq m w h now)/\jfw))))))))))))) (nw ((U:Int)+1) (∃bg:Nat,((bg:Int)<=h)/\(Int.toNat h-bg)<(Int.toNat h-U)/\true=true/\((nI ((U:Int)+1):Value)=nI (bg:Int)/\Mp w h l now)/\((kbq 6 (.cells true 8 ((eG w h l m now ((U:Int)*w+(Z:Int))).flatMap cellC)) (.cells true 8 ((eG w h l m now ((bg:Int)*w)).flatMap cellC)))/\(kbq 6 (.cells true 1 ((kN w l m now ((U:Int)*w+(Z:Int))).flatMap aC)) (.cells true 1 ((kN w l m now ((bg:Int)*w)).flatMap aC)))/\Hq m w h now)/\jfw))))) (lq (0<=l.length) (true=true/\(xV=nI jfu/\wk (.slice none 0 0:Value) (slQ 0 1 (ca l m now 0).length:Value)/\jfv l)/\(jf1 6 m w h now)/\(True/\True)/\(True)) (∀Z:Nat,(Z<=l.length)->(fk (decide (((Z:Int):Int)<(jfy l))) ((ixq (Z:Int) l.length)/\((((kN w l m now ((U:Int)*w)).flatMap aC)[(0+Int.toNat (Z:Int)*1)]?=some (.bool ((kN w l m now ((U:Int)*w)).getD Z false)))/\(fk ((kN w l m now ((U:Int)*w)).getD Z false) (apq (ca l m now Z).length 8 1 ((ca l m now Z).flatMap aA) [nI (Z:Int)] (nw ((Z:Int)+1) (∃bg:Nat,(bg<=l.length)/\(l.length-bg)<(l.length-Z)/\true=true/\((nI ((Z:Int)+1):Value)=nI (bg:Int)/\wk (slN 8 ((ca l m now Z).length+1):Value) (slQ 8 1 (ca l m now bg).length:Value)/\jfv l)/\(jf1 6 m w h now)/\((kbq 6 (.cells true 1 (((((ca l m now Z).flatMap aA).drop 0).take ((ca l m now Z).length*1))++((([nI (Z:Int)]:List Value).drop 0).take (1*1)))) (.cells true 1 ((ca l m now bg).flatMap aA)))/\True)/\(True)))) (nw ((Z:Int)+1) (∃bg:Nat,(bg<=l.length)/\(l.length-bg)<(l.length-Z)/\true=true/\((nI ((Z:Int)+1):Value)=nI (bg:Int)/\wk (slQ 6 1 (ca l m now Z).length:Value) (slQ 6 1 (ca l m now bg).length:Value)/\jfv l)/\(jf1 6 m w h now)/\((kbq 6 (.cells true 1 ((ca l m now Z).flatMap aA)) (.cells true 1 ((ca l m now bg).flatMap aA)))/\True)/\(True)))))) (true=true/\wk (.tuple #[.agg #[nI w,nI h,nI now,slQ 3 1 (bS (w*h).toNat).length],slQ 6 1 (ca l m now Z).length,nI 0]:Value) (rn (sg 1 [(1,3),(2,6)]) 3 (jf2 w h l m now))/\((kbq 1 (.cells true 8 ((eG w h l m now ((U:Int)*w)).flatMap cellC)) (.cells true 8 (List.flatMap cellC (aP w h l m now).1.cells)))/\(kbq 1 (.cells true 1 ((ca l m now Z).flatMap aA)) (.cells true 1 (List.flatMap aA (aP w h l m now).2.1)))/\True))))))))))))))))) (n0q 3 63 [nI w,nI h,nI now] (.tuple #[.agg #[nI 0,nI 0,nI 0,slQ 3 1 0],nI (aW w h now)]) [(.cells true 8 []:ah)] ((.bool (((aW w h now):Int) != 0):Value) = .bool true/\(true=true/\wk (.tuple #[.agg #[nI 0,nI 0,nI 0,.slice none 0 0],.slice none 0 0,nI (aW w h now)]:Value) (rn (sg 1 []) 3 (jf2 w h l m now))/\Fx))))
abbrev Hp:Hint:=.go 3 (.again [])
abbrev Ce(l:List Report):Nat×Value:=(2,slQ 0 2 l.length)
abbrev jf6(qB0:af):Nat×Bool×ah:=(1,true,.cells true 0 (jfq qB0))
abbrev jfc:Nat×Bool×ah:=(2,true,.cells true 0 [nI 0,nI 0,nI 0,.slice none 0 0])
abbrev jfb(qi0 qi1 qi2:Int):Nat×Bool×ah:=(4,true,.cells true 0 (J0 qi0 qi1 qi2))
abbrev jff(qn0 qn1 qn2:Nat):Hint:=.go qn0 (.slot qn1 (nI ((qn2:Int)+1)) (.go 0 (.again [])))
abbrev jfl(qn0 qn1 qn2:Nat):Hint:=.slot 156 (nI ((qn0:Int)+1)) (.go 0 (.again [(6,qn1),(7,qn2)]))
theorem Nl(w h:Int)(l:List Report)(m:af)(now:Int):vE 65 [nI w,nI h,slQ 0 2 l.length,.agg #[nI m.up.ae,nI m.up.ab,nI m.up.aa,nI m.up.ac,nI m.down.ae,nI m.down.ab,nI m.down.aa,nI m.down.ac],nI now] (aH 0 [l.flatMap ai]) (some [])
 (.go 6 (.cas (aW w h now=0) (.ans [] (.tuple #[.agg #[nI w,nI h,nI now,slQ 3 1 (bS (w*h).toNat).length],nI 0]) [.cells true 8 ((bS (w*h).toNat).flatMap cellC)] (.go 7 (.fork (.go 4 (.again [])) (.go 0 (.ans [] (nI (aM m)) [] (.go 2 (.fork (.go 4 (.again [])) (.go 2 (.fork Hp (.go 0 (.inv 3 (Nat) (0) [] [1,2,4] (fun J=>[(16,nI (J:Int)),(4,nI now),(Ce l),(1,nI h),(0,nI w),(8,pt 1),(10,pt 2),(13,pt 4)]) (fun J=>[(jf6 m),jfc,(jfb w h now)]) (fun J=>[]) (fun J=>[]) (fun J=>(J<=l.length/\cj (jo w h l now) J=0)) (fun J=>(l.length-J)) (fun J => .go 3 (.fork (.go 1 (.need (.val (jf3 l J) (.ans [] (nI (errReport (jfr l J))) [] (.go 2 (.fork (.go 4 (.again [])) (.go 1 (.inv 3 (Nat) (0) [] [1,2,4] (fun U=>[(19,nI (U:Int)),(18,nI (jfz l U J)),(13,pt 4),(10,pt 2),(8,pt 1),(0,nI w),(1,nI h),(Ce l),(4,nI now),(16,nI (J:Int)),(17,nI (errReport (jfr l J)))]) (fun U=>[(jf6 m),jfc,(jfb w h now)]) (fun U=>[]) (fun U=>[]) (fun U=>(jfj U J l)) (fun U=>(J-U)) (fun U => .go 2 (.fork (.go 1 (.need (.go 0 (.val (nI (l.getD U ag).id) (.go 1 (.need (.go 0 (.val (nI (jfr l J).id) (.go 0 (.fork Hp (.go 1 (.need (.go 0 (.val (nI (l.getD U ag).x) (.go 1 (.need (.go 0 (.val (nI (jfr l J).x) (.go 1 (.am (.go 1 (.need (.go 0 (.val (nI (l.getD U ag).y) (.go 1 (.need (.go 0 (.val (nI (jfr l J).y) (.go 1 (.fork (.go 1 (.slot 109 (nI ((jfz l U J)+1)) (jff 2 71 U))) (jff 1 71 U))))))))))) (jff 3 71 U))))))))))))))))))))) (.go 1 (.need (.go 0 (.val (nI (jfr l J).x) (.go 2 (.am (.go 5 (.again [])) (.go 1 (.need (.go 0 (.val (nI (jfr l J).y) (.go 2 (.fork Hp (.go 1 (.need (.go 0 (.val (nI (jfr l J).at_) (.go 1 (.fork Hp (.go 1 (.fork Hp (jff 1 57 J))))))))))))))))))))))))))))))) (.go 1 (.need (.go 1 (.inv 3 (Nat) (0) [] [3,5,1,2,4] (fun U=>[(21,nI (U:Int)),(13,pt 4),(10,pt 2),(8,pt 1),(0,nI w),(1,nI h),(Ce l),(4,nI now),(20,slN 5 l.length)]) (fun U=>[(3,true,.cells true 8 ((eG w h l m now ((U:Int)*w)).flatMap cellC)),(5,true,.cells true 1 ((kN w l m now ((U:Int)*w)).flatMap aC)),(jf6 m),jfc,(jfb w h now)]) (fun U=>[]) (fun U=>[]) (fun U=>((U:Int)<=h)) (fun U=>(Int.toNat h-U)) (fun U => .go 2 (.fork (.go 0 (.inv 3 (Nat) (0) [] [3,5,1,2,4] (fun Z=>[(22,nI (Z:Int)),(20,slN 5 l.length),(4,nI now),(Ce l),(1,nI h),(0,nI w),(8,pt 1),(10,pt 2),(13,pt 4),(21,nI (U:Int))]) (fun Z=>[(3,true,.cells true 8 ((eG w h l m now ((U:Int)*w+(Z:Int))).flatMap cellC)),(5,true,.cells true 1 ((kN w l m now ((U:Int)*w+(Z:Int))).flatMap aC)),(jf6 m),jfc,(jfb w h now)]) (fun Z=>[]) (fun Z=>[]) (fun Z=>((Z:Int)<=w)) (fun Z=>(Int.toNat w-Z)) (fun Z => .go 2 (.fork (.go 2 (.inv 3 (Nat) (0) [] [1,2,4] (fun n_3=>[(25,nI (n_3:Int)),(23,slQ 6 1 (jfx l n_3 Z U).length),(24,slQ 7 1 (jft l n_3 Z U).length),(21,nI (U:Int)),(13,pt 4),(10,pt 2),(8,pt 1),(0,nI w),(1,nI h),(Ce l),(4,nI now),(20,slN 5 l.length),(22,nI (Z:Int))]) (fun n_3=>[(jf6 m),jfc,(jfb w h now)]) (fun n_3=>[(true,.cells true 14 ((jfx l n_3 Z U).flatMap ai)),(true,.cells true 1 ((jft l n_3 Z U).flatMap aA))]) (fun n_3=>[]) (fun n_3=>(n_3<=l.length)) (fun n_3=>(l.length-n_3)) (fun n_3 => .go 3 (.fork (.go 1 (.need (.go 0 (.val (nI (l.getD n_3 ag).x) (.go 2 (.am (.go 1 (.need (.go 0 (.val (nI (l.getD n_3 ag).y) (.go 2 (.fork (.go 2 (.need (.val (jf3 l n_3) (.go 0 (.need (.go 3 (.need (.go 2 (jfl n_3 9 11))))))))) (.go 1 (jfl n_3 6 7)))))))) (.go 3 (jfl n_3 6 7)))))))) (.go 2 (.ans [(6,.cells true 14 ((jfs l Z U).flatMap ai))] (jfa l m now Z U) [] (.go 10 (.slot 195 (nI ((U:Int)*w)) (.go 1 (.slot 197 (nI (((U:Int)*w)+(Z:Int))) (.go 0 (.need (.need (.go 0 (.inv 3 (Nat) (0) [] [5,1,2,4,8] (fun n_4=>[(28,nI (n_4:Int)),(22,nI (Z:Int)),(20,slN 5 l.length),(4,nI now),(Ce l),(1,nI h),(0,nI w),(8,pt 1),(10,pt 2),(13,pt 4),(21,nI (U:Int)),(24,slQ 7 1 (jft l n_3 Z U).length),(23,slQ 6 1 (jfx l n_3 Z U).length),(25,nI (n_3:Int)),(27,pt 8),(26,.iface ((jf4 l m now Z U).length+1) (.agg ⟨((jf4 l m now Z U).flatMap aC)⟩))]) (fun n_4=>[(5,true,.cells true 1 ((jfk w l m now U Z n_4).flatMap aC)),(jf6 m),jfc,(jfb w h now),(8,true,.cells true 0 (jfo l m now Z U))]) (fun n_4=>[]) (fun n_4=>[]) (fun n_4=>(n_4<=List.length (jfs l Z U))) (fun n_4=>(List.length (jfs l Z U)-n_4)) (fun n_4 => .go 3 (.fork (.go 2 (.need (.val (nI ((jft l n_3 Z U).getD n_4 0)) (.go 1 (.need (.val (.bool ((jf4 l m now Z U).getD n_4 false)) (.go 0 (.need (.need (jff 1 205 n_4)))))))))) (jff 1 150 Z)))))))))))))))))) (jff 1 145 U))))) (.go 1 (.inv 3 (Nat) (0) [] [1,2,4] (fun Z=>[(30,nI (Z:Int)),(29,slQ 6 1 (ca l m now Z).length),(20,slN 5 l.length),(Ce l),(10,pt 2),(13,pt 4)]) (fun Z=>[(jf6 m),jfc,(jfb w h now)]) (fun Z=>[(true,.cells true 1 ((ca l m now Z).flatMap aA))]) (fun Z=>[]) (fun Z=>(Z<=l.length)) (fun Z=>(l.length-Z)) (fun Z => .go 3 (.fork (.go 1 (.need (.val (.bool ((kN w l m now ((U:Int)*w)).getD Z false)) (.fork (.go 2 (.need (.go 2 (.slot 222 (nI ((Z:Int)+1)) (.go 0 (.again [(6,8)])))))) (.go 1 (.slot 222 (nI ((Z:Int)+1)) (.go 0 (.again [(6,6)])))))))) (.go 4 (.again [(1,3),(2,6)]))))))))))))))))))))))))) (.ans [] (.tuple #[.agg #[nI 0,nI 0,nI 0,slQ 3 1 0],nI (aW w h now)]) [.cells true 8 []] (.go 7 (.slot 39 (.bool true) (.go 5 (.again [])))))))
 (er ((aH 0 [l.flatMap ai]):HT).n 3 (.tuple #[.agg #[nI (aP w h l m now).1.w,nI (aP w h l m now).1.h,nI (aP w h l m now).1.hour,slQ 1 1 (List.length (aP w h l m now).1.cells)],slQ 2 1 (List.length (aP w h l m now).2.1),nI (aP w h l m now).2.2]) [(true,.cells true 8 (List.flatMap cellC (aP w h l m now).1.cells)),(true,.cells true 1 (List.flatMap aA (aP w h l m now).2.1))])=IE w h l m now:=by kernel_rfl
abbrev Mw(m:af):List Value:=[.agg #[nI m.up.ae,nI m.up.ab,nI m.up.aa,nI m.up.ac,nI m.down.ae,nI m.down.ab,nI m.down.aa,nI m.down.ac]]
abbrev jd2(qi0 qi1:Int)(qA0:List Report)(qB0:af)(qi2:Int):Value:=.tuple #[.agg #[nI (aP qi0 qi1 qA0 qB0 qi2).1.w,nI (aP qi0 qi1 qA0 qB0 qi2).1.h,nI (aP qi0 qi1 qA0 qB0 qi2).1.hour,slQ 1 1 (List.length (aP qi0 qi1 qA0 qB0 qi2).1.cells)],slQ 2 1 (List.length (aP qi0 qi1 qA0 qB0 qi2).2.1),nI (aP qi0 qi1 qA0 qB0 qi2).2.2]
abbrev Hs:Prop:=True/\True/\True
abbrev jd5(qi0 qi1 qi2:Int)(qA0:List Report)(qB0:af)(qi3:Int):Prop:=true=true/\wk (.tuple #[.agg #[nI 0,nI 0,nI 0,.slice none 0 0],.slice none 0 0,nI qi0]:Value) (rn (sg 1 []) 3 (jd2 qi1 qi2 qA0 qB0 qi3))/\Hs
abbrev J2(qB0:af):List Value:=[nI qB0.up.ae,nI qB0.up.ab,nI qB0.up.aa,nI qB0.up.ac,nI qB0.down.ae,nI qB0.down.ab,nI qB0.down.aa,nI qB0.down.ac]
abbrev jd4(qn0:Nat)(qB0:af):=krq qn0 (.cells true 0 (J2 qB0))
abbrev jdz:ah:=.cells true 0 [nI 0,nI 0,nI 0,.slice none 0 0]
abbrev J1(qi0 qi1 qi2:Int):List Value:=[nI qi0,nI qi1,nI qi2,slQ 3 1 (bS (qi0*qi1).toNat).length]
abbrev jdc(qn0:Nat)(qi0 qi1 qi2:Int):=krq qn0 (.cells true 0 (J1 qi0 qi1 qi2))
abbrev Fy:Prop:=(True)/\(True)
abbrev jdh(qE0:Nat×Mb (Int×Int))(qA0:List Report)(qi0 qi1 qi2:Int):Prop:=qE0.1<=qA0.length/\List.length qE0.2.A<=qE0.1/\cj (jo qi0 qi1 qA0 qi2) qE0.1=0/\MbI 7 1 aA (cg qA0 qE0.1) qE0.2
abbrev ju(x2:Nat×Mb (Int×Int)):Int:=(x2.1:Nat)
abbrev fP(qA0:List Report)(qE0:Nat×Mb (Int×Int)):=qA0.getD qE0.1 ag
abbrev jd9(qA0:List Report)(qE0:Nat×Mb (Int×Int)):Value:=.agg #[nI (fP qA0 qE0).id,nI (fP qA0 qE0).source,nI (fP qA0 qE0).at_,nI (fP qA0 qE0).x,nI (fP qA0 qE0).y,nI (fP qA0 qE0).has,nI (fP qA0 qE0).cell.ae.lo,nI (fP qA0 qE0).cell.ae.hi,nI (fP qA0 qE0).cell.ab.lo,nI (fP qA0 qE0).cell.ab.hi,nI (fP qA0 qE0).cell.aa.lo,nI (fP qA0 qE0).cell.aa.hi,nI (fP qA0 qE0).cell.ac.lo,nI (fP qA0 qE0).cell.ac.hi]
abbrev iC(l:List Report)(x2:Nat×Mb (Int×Int)):=l.getD x2.1 ag
abbrev Mu(x2:Nat×Mb (Int×Int)):Prop:=eR (.func (.func 127) #[] #[pt 8])/\wR (.slice (some ⟨0,0,some 2⟩) x2.1 x2.1)/\eR (nI (ju x2))/\True
abbrev jdq(qn0:Nat)(qE0:Nat×Mb (Int×Int))(qA0:List Report):Prop:=qn0<=qE0.1/\∀U:Nat,U<qn0->(qA0.getD U ag).id≠(fP qA0 qE0).id
abbrev jd7(qA0:List Report)(qn0:Nat):Value:=.agg #[nI (qA0.getD qn0 ag).id,nI (qA0.getD qn0 ag).source,nI (qA0.getD qn0 ag).at_,nI (qA0.getD qn0 ag).x,nI (qA0.getD qn0 ag).y,nI (qA0.getD qn0 ag).has,nI (qA0.getD qn0 ag).cell.ae.lo,nI (qA0.getD qn0 ag).cell.ae.hi,nI (qA0.getD qn0 ag).cell.ab.lo,nI (qA0.getD qn0 ag).cell.ab.hi,nI (qA0.getD qn0 ag).cell.aa.lo,nI (qA0.getD qn0 ag).cell.aa.hi,nI (qA0.getD qn0 ag).cell.ac.lo,nI (qA0.getD qn0 ag).cell.ac.hi]
abbrev jdy(l:List Report)(x2:Nat×Mb (Int×Int)):=kxy (iC l x2)
abbrev md(x2:Nat×Mb (Int×Int)):=dU kXY id x2.2.A
abbrev qR(l:List Report)(x2:Nat×Mb (Int×Int)):=fJ (jdy l x2) x2.2.A
abbrev iO(l:List Report)(x2:Nat×Mb (Int×Int)):=cg l x2.1 (jdy l x2)
abbrev Hr:=nI ((1:Nat):Int)
abbrev zT:Value:=.slice none 0 0
abbrev jdp(qA0:List Report)(qE0:Nat×Mb (Int×Int)):Value:=.agg #[nI (fP qA0 qE0).x,nI (fP qA0 qE0).y]
abbrev jdo(qE0:Nat×Mb (Int×Int))(qA0:List Report):=List.set (dU kXY id qE0.2.A) (fJ (kxy (fP qA0 qE0)) qE0.2.A) ((kXY (kxy (fP qA0 qE0))),slQ 10 1 (cg qA0 qE0.1 (kxy (fP qA0 qE0))).length)
abbrev jdk(qA0:List Report)(qE0:Nat×Mb (Int×Int)):=dU kXY id (c9 (kxy (fP qA0 qE0)) (slQ 10 1 (cg qA0 qE0.1 (kxy (fP qA0 qE0))).length) qE0.2.A)
abbrev jdv(qA0:List Report)(qE0:Nat×Mb (Int×Int)):Value:=.tuple #[slQ 10 1 (cg qA0 qE0.1 (kxy (fP qA0 qE0))).length,nI (((fJ (kxy (fP qA0 qE0)) qE0.2.A):Nat):Int)]
abbrev jdf(qA0:List Report)(qE0:Nat×Mb (Int×Int)):=dU kXY id (c9 (kxy (fP qA0 qE0)) (slN 12 ((cg qA0 qE0.1 (kxy (fP qA0 qE0))).length+1)) qE0.2.A)
abbrev jda(qA0:List Report)(qE0:Nat×Mb (Int×Int)):=a8 (cg qA0 qE0.1 (kxy (fP qA0 qE0))).length (qE0.2.ks (kxy (fP qA0 qE0))) qE0.2.ms
abbrev jdl(qE0:Nat×Mb (Int×Int))(qE1:Nat×Mb (Int×Int))(qi0:Int)(qA0:List Report)(qi1 qi2:Int):Prop:=(nI (((qE0.1:Nat):Int)+1):Value)=nI ((qE1.1:Nat):Int)/\eR (nI qi0)/\wR (slQ 0 2 qA0.length)/\eR (nI qi1)/\eR (nI qi2)/\eR (pt 1)/\eR (pt 2)/\eR (pt 4)/\eR (.map (some 6))/\wR (slQ 0 2 qA0.length)/\eR (nI ((qA0.length:Nat):Int))/\True
abbrev jdu(qA0:List Report)(qE0:Nat×Mb (Int×Int)):=dU kXY id (c9 (kxy (fP qA0 qE0)) zT qE0.2.A)
abbrev jdn(qA0:List Report)(qE0:Nat×Mb (Int×Int)):=dU kXY id (c9 (kxy (fP qA0 qE0)) (slN 11 1) qE0.2.A)
abbrev zS:List Nat:=[]
abbrev Mt(w:Int)(l:List Report)(now:Int):Prop:=eR (pt 4)/\eR (pt 2)/\eR (pt 1)/\eR (nI w)/\wR (slQ 0 2 l.length)/\eR (nI now)/\eR (pt 8)/\True
abbrev jdt(qE0:Nat×Mb (Int×Int))(qn0:Nat)(qA0:List Report):Value:=.tuple #[.agg #[nI (br qE0.2.A qn0).1,nI (br qE0.2.A qn0).2],(ff (cg qA0 qA0.length (br qE0.2.A qn0)).length 7 (qE0.2.ks (br qE0.2.A qn0)))]
abbrev cE(x2:Nat×Mb (Int×Int))(J:Nat):=br x2.2.A J
abbrev jdw(l:List Report)(x2:Nat×Mb (Int×Int))(J:Nat):=cg l l.length (cE x2 J)
abbrev gF(l:List Report)(m:af)(now:Int)(x2:Nat×Mb (Int×Int))(x3:List Nat×List Value):=et l m now x2.2.A x3.1
abbrev jde(qA0:List Report)(qE0:Nat×Mb (Int×Int))(qn0:Nat):=nI (((cg qA0 qA0.length (br qE0.2.A qn0)).length:Nat):Int)
abbrev Mx(now:Int)(l:List Report)(w:Int)(m:af)(x2:Nat×Mb (Int×Int))(x3:List Nat×List Value)(J:Nat):Prop:=eR (pt 8)/\eR (nI now)/\wR (slQ 0 2 l.length)/\eR (nI w)/\eR (pt 1)/\eR (pt 2)/\eR (pt 4)/\wR (slQ 9 1 (gF l m now x2 x3).length)/\eR (pt 10)/\wR (slQ 11 1 (jdw l x2 J).length)/\eR (pt 12)/\wR (slQ 11 1 (jdw l x2 J).length)/\eR (jde l x2 J)/\True
abbrev jd0(qA0:List Report)(qE0:Nat×Mb (Int×Int))(qn0 qn1:Nat):=qA0.getD ((cg qA0 qA0.length (br qE0.2.A qn0)).getD qn1 0).toNat ag
abbrev jdb(qA0:List Report)(qE0:Nat×Mb (Int×Int))(qn0 qn1:Nat):Value:=.agg #[nI (jd0 qA0 qE0 qn0 qn1).id,nI (jd0 qA0 qE0 qn0 qn1).source,nI (jd0 qA0 qE0 qn0 qn1).at_,nI (jd0 qA0 qE0 qn0 qn1).x,nI (jd0 qA0 qE0 qn0 qn1).y,nI (jd0 qA0 qE0 qn0 qn1).has,nI (jd0 qA0 qE0 qn0 qn1).cell.ae.lo,nI (jd0 qA0 qE0 qn0 qn1).cell.ae.hi,nI (jd0 qA0 qE0 qn0 qn1).cell.ab.lo,nI (jd0 qA0 qE0 qn0 qn1).cell.ab.hi,nI (jd0 qA0 qE0 qn0 qn1).cell.aa.lo,nI (jd0 qA0 qE0 qn0 qn1).cell.aa.hi,nI (jd0 qA0 qE0 qn0 qn1).cell.ac.lo,nI (jd0 qA0 qE0 qn0 qn1).cell.ac.hi]
abbrev jdg(qA0:List Report)(qE0:Nat×Mb (Int×Int))(qn0 qn1:Nat)(qB0:af)(qi0:Int):Value:=.agg #[nI (bW (jd0 qA0 qE0 qn0 qn1) qB0 qi0).ae.lo,nI (bW (jd0 qA0 qE0 qn0 qn1) qB0 qi0).ae.hi,nI (bW (jd0 qA0 qE0 qn0 qn1) qB0 qi0).ab.lo,nI (bW (jd0 qA0 qE0 qn0 qn1) qB0 qi0).ab.hi,nI (bW (jd0 qA0 qE0 qn0 qn1) qB0 qi0).aa.lo,nI (bW (jd0 qA0 qE0 qn0 qn1) qB0 qi0).aa.hi,nI (bW (jd0 qA0 qE0 qn0 qn1) qB0 qi0).ac.lo,nI (bW (jd0 qA0 qE0 qn0 qn1) qB0 qi0).ac.hi]
abbrev My(l:List Report)(x2:Nat×Mb (Int×Int))(J U:Nat)(m:af)(now:Int):List Value:=[nI (bW (jd0 l x2 J U) m now).ae.lo,nI (bW (jd0 l x2 J U) m now).ae.hi,nI (bW (jd0 l x2 J U) m now).ab.lo,nI (bW (jd0 l x2 J U) m now).ab.hi,nI (bW (jd0 l x2 J U) m now).aa.lo,nI (bW (jd0 l x2 J U) m now).aa.hi,nI (bW (jd0 l x2 J U) m now).ac.lo,nI (bW (jd0 l x2 J U) m now).ac.hi]
abbrev jdm(qB0:af)(qn0:Nat):ah:=.cells true 0 [nI qB0.up.ae,nI qB0.up.ab,nI qB0.up.aa,nI qB0.up.ac,nI qB0.down.ae,nI qB0.down.ab,nI qB0.down.aa,nI qB0.down.ac,slQ 13 1 qn0]
abbrev jdr(qB0:af)(qA0:List Report)(qi0:Int)(qE0:Nat×Mb (Int×Int))(qn0:Nat):ah:=.cells true 0 [nI qB0.up.ae,nI qB0.up.ab,nI qB0.up.aa,nI qB0.up.ac,nI qB0.down.ae,nI qB0.down.ab,nI qB0.down.aa,nI qB0.down.ac,slQ 13 1 (cS qA0 qB0 qi0 (br qE0.2.A qn0)).length]
abbrev jd6(qA0:List Report)(qB0:af)(qi0:Int)(qE0:Nat×Mb (Int×Int))(qn0:Nat):=bh (cS qA0 qB0 qi0 (br qE0.2.A qn0)) (cS qA0 qB0 qi0 (br qE0.2.A qn0)).length
abbrev jd1(qA0:List Report)(qB0:af)(qi0:Int)(qE0:Nat×Mb (Int×Int))(qn0:Nat):=di (cS qA0 qB0 qi0 (br qE0.2.A qn0)) (bI (cS qA0 qB0 qi0 (br qE0.2.A qn0)))
abbrev jdd(qA0:List Report)(qB0:af)(qi0:Int)(qE0:Nat×Mb (Int×Int))(qn0:Nat):Value:=.tuple #[slQ 14 1 (jd6 qA0 qB0 qi0 qE0 qn0).length,.agg #[nI ((jd1 qA0 qB0 qi0 qE0 qn0).getD aj).ae.lo,nI ((jd1 qA0 qB0 qi0 qE0 qn0).getD aj).ae.hi,nI ((jd1 qA0 qB0 qi0 qE0 qn0).getD aj).ab.lo,nI ((jd1 qA0 qB0 qi0 qE0 qn0).getD aj).ab.hi,nI ((jd1 qA0 qB0 qi0 qE0 qn0).getD aj).aa.lo,nI ((jd1 qA0 qB0 qi0 qE0 qn0).getD aj).aa.hi,nI ((jd1 qA0 qB0 qi0 qE0 qn0).getD aj).ac.lo,nI ((jd1 qA0 qB0 qi0 qE0 qn0).getD aj).ac.hi]]
abbrev jdx(l:List Report)(x2:Nat×Mb (Int×Int))(J:Nat)(w now:Int)(U:Nat)(m:af):Prop:=eR (jde l x2 J)/\wR (slQ 11 1 (jdw l x2 J).length)/\eR (pt 12)/\wR (slQ 11 1 (jdw l x2 J).length)/\eR (pt 10)/\eR (pt 4)/\eR (pt 2)/\eR (pt 1)/\eR (nI w)/\wR (slQ 0 2 l.length)/\eR (nI now)/\eR (pt 8)/\eR (nI (U:Int))/\eR (pt 15)/\wR (slQ 14 1 (jd6 l m now x2 J).length)/\wR (slQ 11 1 (jdw l x2 J).length)/\eR (jde l x2 J)/\True
abbrev jd3(qB0:af)(qi0 qi1 qi2:Int)(qE0:Nat×Mb (Int×Int))(qn0 qn1:Nat)(qA0:List Report):Prop:=True/\(krq 16 (.cells true 0 (J2 qB0)))/\(krq 16 jdz)/\(krq 16 (.cells true 0 (J1 qi0 qi1 qi2)))/\(krq 16 (.cells true 0 [nI (br qE0.2.A qn0).1,nI (br qE0.2.A qn0).2]))/\(krq 16 (.cells true 0 [nI qB0.up.ae,nI qB0.up.ab,nI qB0.up.aa,nI qB0.up.ac,nI qB0.down.ae,nI qB0.down.ab,nI qB0.down.aa,nI qB0.down.ac,slQ 13 1 qn1]))/\(krq 16 (.cells true 0 [nI ((jd1 qA0 qB0 qi2 qE0 qn0).getD aj).ae.lo,nI ((jd1 qA0 qB0 qi2 qE0 qn0).getD aj).ae.hi,nI ((jd1 qA0 qB0 qi2 qE0 qn0).getD aj).ab.lo,nI ((jd1 qA0 qB0 qi2 qE0 qn0).getD aj).ab.hi,nI ((jd1 qA0 qB0 qi2 qE0 qn0).getD aj).aa.lo,nI ((jd1 qA0 qB0 qi2 qE0 qn0).getD aj).aa.hi,nI ((jd1 qA0 qB0 qi2 qE0 qn0).getD aj).ac.lo,nI ((jd1 qA0 qB0 qi2 qE0 qn0).getD aj).ac.hi]))/\True
abbrev jds(qA0:List Report)(qB0:af)(qi0:Int)(qE0:Nat×Mb (Int×Int))(qF0:List Nat×List Value)(qn0 qn1:Nat):ah:=.cells true 1 (((et qA0 qB0 qi0 qE0.2.A qF0.1)++ep qA0 qB0 qi0 (br qE0.2.A qn0) qn1).flatMap aA)
abbrev Mz(l:List Report)(m:af)(now:Int)(x2:Nat×Mb (Int×Int))(J:Nat):List Value:=[nI ((jd1 l m now x2 J).getD aj).ae.lo,nI ((jd1 l m now x2 J).getD aj).ae.hi,nI ((jd1 l m now x2 J).getD aj).ab.lo,nI ((jd1 l m now x2 J).getD aj).ab.hi,nI ((jd1 l m now x2 J).getD aj).aa.lo,nI ((jd1 l m now x2 J).getD aj).aa.hi,nI ((jd1 l m now x2 J).getD aj).ac.lo,nI ((jd1 l m now x2 J).getD aj).ac.hi]
def Lq(w h:Int)(l:List Report)(m:af)(now:Int):Prop :=
 (ck (aW w h now=0) (n0q 3 62 [nI w,nI h,nI now] (.tuple #[.agg #[nI w,nI h,nI now,slQ 3 1 (bS (w*h).toNat).length],nI 0]) [(.cells true 8 ((bS (w*h).toNat).flatMap cellC):ah)] (c0q 5 31 (Mw m) (nI (aM m)) (fk ((0:Int) != 0) ((.bool ((0:Int) != 0):Value) = .bool true/\(jd5 0 w h l m now)) (fk (((aM m):Int) != 0) ((.bool (((aM m):Int) != 0):Value) = .bool true/\(true=true/\wk (.tuple #[.agg #[nI 0,nI 0,nI 0,.slice none 0 0],.slice none 0 0,nI (aM m)]:Value) (rn (sg 1 []) 3 (jd2 w h l m now))/\Hs)) (fk (decide ((400:Int)<((l.length:Nat):Int))) (jd5 2 w h l m now) (true=true/\((0,Mb.new (Int×Int) 1).1<=l.length/\List.length (0,Mb.new (Int×Int) 1).2.A<=(0,Mb.new (Int×Int) 1).1/\cj (jo w h l now) (0,Mb.new (Int×Int) 1).1=0/\MbI 7 1 aA (cg l (0,Mb.new (Int×Int) 1).1) (0,Mb.new (Int×Int) 1).2)/\(true=true/\((nI 0:Value)=nI (((0,Mb.new (Int×Int) 1).1:Nat):Int)/\eR (nI now)/\wR (slQ 0 2 l.length)/\eR (nI h)/\eR (nI w)/\eR (pt 1)/\eR (pt 2)/\eR (pt 4)/\eR (.map (some 6))/\wR (slQ 0 2 l.length)/\eR (nI ((l.length:Nat):Int))/\True)/\(wkO (.map (dU kXY id []):ah) (rno (sg 8 []) 3 (.map (dU kXY id (0,Mb.new (Int×Int) 1).2.A):ah))/\wkO (.fam 0 [nI ((1:Nat):Int)]:ah) (rno (sg 8 []) 3 (.fam 0 (0,Mb.new (Int×Int) 1).2.ms:ah))/\(jd4 8 m)/\(krq 8 jdz)/\(jdc 8 w h now)/\True)/\Fy)/\(∀x2:Nat×Mb (Int×Int),true=true)/\∀x2:Nat×Mb (Int×Int),(jdh x2 l w h now)->(fk (decide (((ju x2):Int)<((l.length:Nat):Int))) ((ixq (ju x2) l.length)/\((cu 14 (l.flatMap ai) (0+Int.toNat (ju x2)*14)=some (jd9 l x2))/\(c0q 10 73 [.agg #[nI (iC l x2).id,nI (iC l x2).source,nI (iC l x2).at_,nI (iC l x2).x,nI (iC l x2).y,nI (iC l x2).has,nI (iC l x2).cell.ae.lo,nI (iC l x2).cell.ae.hi,nI (iC l x2).cell.ab.lo,nI (iC l x2).cell.ab.hi,nI (iC l x2).cell.aa.lo,nI (iC l x2).cell.aa.hi,nI (iC l x2).cell.ac.lo,nI (iC l x2).cell.ac.hi]] (nI (errReport (iC l x2))) (fk (((errReport (iC l x2)):Int) != 0) (true=true/\wk (.tuple #[.agg #[nI 0,nI 0,nI 0,.slice none 0 0],.slice none 0 0,nI (errReport (iC l x2))]:Value) (rn (sg 1 []) 3 (jd2 w h l m now))/\Hs) ((((false=false∨0=0∨0=14)/\(ju x2).toNat<=l.length)/\((0:Int)<=(ju x2)/\((ju x2):Int)<=((l.length:Nat):Int))/\(0<=(ju x2).toNat))/\((slQ 0 2 ((ju x2).toNat-0):Value) = .slice (some ⟨0,0,some 2⟩) x2.1 x2.1/\(lq (0<=x2.1/\∀J:Nat,J<0->(l.getD J ag).id≠(iC l x2).id) (true=true/\((nI 0:Value)=nI ((0:Nat):Int)/\Mu x2)/\(True)/\Fy) (∀J:Nat,(jdq J x2 l)->(fk (decide (((J:Int):Int)<(ju x2))) ((ixq (J:Int) x2.1)/\((cu 14 (l.flatMap ai) (0+Int.toNat (J:Int)*14)=some (jd7 l J))/\(fk (((l.getD J ag).id:Int) == (iC l x2).id) ((.bool (decide ((0:Int)<=(J:Int))):Value) = .bool true/\(jd5 10 w h l m now)) (nw ((J:Int)+1) (∃bJ:Nat,(jdq bJ x2 l)/\(x2.1-bJ)<(x2.1-J)/\true=true/\((nI ((J:Int)+1):Value)=nI (bJ:Int)/\Mu x2)/\(True)/\Fy))))) (fk (decide ((w:Int)<=(iC l x2).x)) (jd5 1 w h l m now) (fk (decide ((h:Int)<=(iC l x2).y)) (jd5 1 w h l m now) (fk (decide ((now:Int)<(iC l x2).at_)) (jd5 12 w h l m now) (ck (dY (jdy l x2) x2.2.A=true) ((((md x2):List (Value×Value))[(qR l x2)]?=some ((kXY (jdy l x2)),(ff (iO l x2).length 7 (x2.2.ks (jdy l x2))))/\(x2.2.ms:List Value)[0]?=some Hr/\List.length (((iO l x2).flatMap aA):List Value)=(iO l x2).length*1/\(0<(iO l x2).length->(x2.2.ms:List Value)[(x2.2.ks (jdy l x2))+1]?=some (.agg ⟨((iO l x2).flatMap aA)⟩)))/\((kP prog 54 zT (jdp l x2) false (jdo x2 l)=some (slQ 10 1 (iO l x2).length))/\(fk (((((iO l x2).length:Nat):Int):Int) == 12) (jd5 2 w h l m now) ((tM prog 54 zT (jdp l x2) (jdo x2 l)=some ((jdk l x2),(jdv l x2)))/\(apq (iO l x2).length 8 1 ((iO l x2).flatMap aA) [nI (ju x2)] ((wo (nI (((qR l x2):Nat):Int)) (slN 12 ((iO l x2).length+1)) (jdk l x2)=some (jdf l x2))/\((((jdf l x2):List (Value×Value))[(qR l x2)]?=some ((kXY (jdy l x2)),slN 12 ((iO l x2).length+1))/\(false=true∨0<((iO l x2).length+1))/\((jda l x2):List Value)[0]?=some Hr/\0<1/\List.length ((((((iO l x2).flatMap aA).drop 0).take ((iO l x2).length*1))++((([nI (ju x2)]:List Value).drop 0).take (1*1))):List Value)=((iO l x2).length+1)*1/\List.length ((jda l x2):List Value)=(List.length (jda l x2)-1)+1)/\(nw ((ju x2)+1) (∃x2':Nat×Mb (Int×Int),(jdh x2' l w h now)/\(l.length-x2'.1)<(l.length-x2.1)/\true=true/\(jdl x2 x2' now l h w)/\(wkO (.map (List.set (jdf l x2) (qR l x2) ((kXY (jdy l x2)),(ff ((iO l x2).length+1) 7 (List.length (jda l x2)-1)))):ah) (rno (sg 8 []) 3 (.map (dU kXY id x2'.2.A):ah))/\wkO (.fam 0 (cI ((iO l x2).length+1) (jda l x2) (((((iO l x2).flatMap aA).drop 0).take ((iO l x2).length*1))++((([nI (ju x2)]:List Value).drop 0).take (1*1)))):ah) (rno (sg 8 []) 3 (.fam 0 x2'.2.ms:ah))/\(jd4 8 m)/\(krq 8 jdz)/\(jdc 8 w h now)/\True)/\Fy))))))))) ((kP prog 54 zT (jdp l x2) false (md x2)=some zT)/\((tM prog 54 zT (jdp l x2) (md x2)=some ((jdu l x2),(.tuple #[.slice none 0 0,nI (((qR l x2):Nat):Int)])))/\((wo (nI (((qR l x2):Nat):Int)) (slN 11 1) (jdu l x2)=some (jdn l x2))/\((((jdn l x2):List (Value×Value))[(qR l x2)]?=some ((kXY (jdy l x2)),slN 11 1)/\(false=true∨0<1)/\(x2.2.ms:List Value)[0]?=some Hr/\0<1/\List.length (([nI (ju x2)]:List Value):List Value)=1*1/\List.length (x2.2.ms:List Value)=(List.length x2.2.ms-1)+1)/\(nw ((ju x2)+1) (∃x2':Nat×Mb (Int×Int),(jdh x2' l w h now)/\(l.length-x2'.1)<(l.length-x2.1)/\true=true/\(jdl x2 x2' now l h w)/\(wkO (.map (List.set (jdn l x2) (qR l x2) ((kXY (jdy l x2)),(ff 1 7 (List.length x2.2.ms-1)))):ah) (rno (sg 8 []) 3 (.map (dU kXY id x2'.2.A):ah))/\wkO (.fam 0 (cI 1 x2.2.ms ([nI (ju x2)]:List Value)):ah) (rno (sg 8 []) 3 (.fam 0 x2'.2.ms:ah))/\(jd4 8 m)/\(krq 8 jdz)/\(jdc 8 w h now)/\True)/\Fy))))))))))))))))))) (true=true/\rK l x2.2 (zS,x2.2.ms).1 (zS,x2.2.ms).2/\(true=true/\(wk (.slice none 0 0:Value) (slQ 0 1 (et l m now x2.2.A (zS,x2.2.ms).1).length:Value)/\Mt w l now)/\((kbq 9 (.iter 6 (md x2).length []) (.iter 6 (md x2).length (zS,x2.2.ms).1))/\wkO (.fam 0 x2.2.ms:ah) (rno (sg 9 []) 3 (.fam 0 (zS,x2.2.ms).2:ah))/\(kbq 9 (.cells true 8 ((bS (w*h).toNat).flatMap cellC)) (.cells true 8 ((cellsS w h l m now x2.2.A (zS,x2.2.ms).1).flatMap cellC)))/\(jd4 9 m)/\(krq 9 jdz)/\(jdc 9 w h now)/\True)/\(True/\True)/\(True))/\(∀x3:List Nat×List Value,true=true)/\∀x3:List Nat×List Value,rK l x2.2 x3.1 x3.2->((List.length (md x2)=(md x2).length)/\(∀J:Nat,J<(md x2).length->J ∉ x3.1->((List.length (md x2)=(md x2).length)/\(oJ (md x2) (x3.1 ++ [J])=some (jdt x2 J l))/\((eR (ff (jdw l x2 J).length 7 (x2.2.ks (cE x2 J)))/\(x3.2:List Value)[0]?=some Hr/\List.length (((jdw l x2 J).flatMap aA):List Value)=(jdw l x2 J).length*1/\(0<(jdw l x2 J).length->(x3.2:List Value)[(x2.2.ks (cE x2 J))+1]?=some (.agg ⟨((jdw l x2 J).flatMap aA)⟩)))/\(lq (0<=List.length (cS l m now (cE x2 J))) (true=true/\((nI 0:Value)=nI ((0:Nat):Int)/\Mx now l w m x2 x3 J)/\(wkO (.cells true 0 [nI m.up.ae,nI m.up.ab,nI m.up.aa,nI m.up.ac,nI m.down.ae,nI m.down.ab,nI m.down.aa,nI m.down.ac,.slice none 0 0]:ah) (rno (sg 13 []) 3 (.cells true 0 [nI m.up.ae,nI m.up.ab,nI m.up.aa,nI m.up.ac,nI m.down.ae,nI m.down.ab,nI m.down.aa,nI m.down.ac,slQ 13 1 0]:ah))/\(jd4 13 m)/\(krq 13 jdz)/\(jdc 13 w h now)/\(krq 13 (.cells true 0 [nI (cE x2 J).1,nI (cE x2 J).2]))/\True)/\(True/\True)/\(True)) (∀U:Nat,(U<=List.length (cS l m now (cE x2 J)))->(fk (decide (((U:Int):Int)<(((jdw l x2 J).length:Nat):Int))) ((ixq (U:Int) (jdw l x2 J).length)/\((((jdw l x2 J).flatMap aA)[(0+Int.toNat (U:Int)*1)]?=some (nI ((jdw l x2 J).getD U 0)))/\((ixq ((jdw l x2 J).getD U 0) l.length)/\((cu 14 (l.flatMap ai) (0+Int.toNat ((jdw l x2 J).getD U 0)*14)=some (jdb l x2 J U))/\(c0q 14 74 [.agg #[nI (jd0 l x2 J U).id,nI (jd0 l x2 J U).source,nI (jd0 l x2 J U).at_,nI (jd0 l x2 J U).x,nI (jd0 l x2 J U).y,nI (jd0 l x2 J U).has,nI (jd0 l x2 J U).cell.ae.lo,nI (jd0 l x2 J U).cell.ae.hi,nI (jd0 l x2 J U).cell.ab.lo,nI (jd0 l x2 J U).cell.ab.hi,nI (jd0 l x2 J U).cell.aa.lo,nI (jd0 l x2 J U).cell.aa.hi,nI (jd0 l x2 J U).cell.ac.lo,nI (jd0 l x2 J U).cell.ac.hi],.agg #[nI m.up.ae,nI m.up.ab,nI m.up.aa,nI m.up.ac,nI m.down.ae,nI m.down.ab,nI m.down.aa,nI m.down.ac],nI now] (jdg l x2 J U m now) (apq U 64 8 (((cS l m now (cE x2 J)).take U).flatMap cellC) (My l x2 J U m now) (nw ((U:Int)+1) (∃bH:Nat,(bH<=List.length (cS l m now (cE x2 J)))/\(List.length (cS l m now (cE x2 J))-bH)<(List.length (cS l m now (cE x2 J))-U)/\true=true/\((nI ((U:Int)+1):Value)=nI (bH:Int)/\Mx now l w m x2 x3 J)/\(wkO (.cells true 0 [nI m.up.ae,nI m.up.ab,nI m.up.aa,nI m.up.ac,nI m.down.ae,nI m.down.ab,nI m.down.aa,nI m.down.ac,slN 15 (U+1)]:ah) (rno (sg 13 [(13,15)]) 3 (jdm m bH))/\(jd4 13 m)/\(krq 13 jdz)/\(jdc 13 w h now)/\(krq 13 (.cells true 0 [nI (cE x2 J).1,nI (cE x2 J).2]))/\True)/\((kbq 13 (.cells true 8 ((((((cS l m now (cE x2 J)).take U).flatMap cellC).drop 0).take (U*8))++((((My l x2 J U m now):List Value).drop 0).take (1*8)))) (.cells true 8 (((cS l m now (cE x2 J)).take bH).flatMap cellC)))/\True)/\(True))))))))) (((some (jdm m U)=some (jdr m l now x2 J))/\(some (.cells true 8 (((cS l m now (cE x2 J)).take U).flatMap cellC):ah)=some (.cells true 8 ((cS l m now (cE x2 J)).flatMap cellC):ah))/\True)/\(∀H':Heap,H'.length=14->(H'[12]?=some (jdr m l now x2 J)/\H'[13]?=some (.cells true 8 ((cS l m now (cE x2 J)).flatMap cellC):ah)/\True)->ak prog 85 [pt 12] H' [] (Is (jdd l m now x2 J) (H' ++ [(.cells true 1 ((jd6 l m now x2 J).flatMap aC):ah)])))/\(nw ((cE x2 J).2*w) (nw (((cE x2 J).2*w)+(cE x2 J).1) ((ixq (((cE x2 J).2*w)+(cE x2 J).1) (bS (w*h).toNat).length)/\(((0+Int.toNat (((cE x2 J).2*w)+(cE x2 J).1)*8)+8<=List.length ((cellsS w h l m now x2.2.A x3.1).flatMap cellC))/\true=true/\(lq (0<=List.length (jdw l x2 J)) (true=true/\((nI 0:Value)=nI ((0:Nat):Int)/\wk (slQ 9 1 (gF l m now x2 x3).length:Value) (slQ 9 1 ((gF l m now x2 x3)++ep l m now (cE x2 J) 0).length:Value)/\jdx l x2 J w now U m)/\(jd3 m w h now x2 J U l)/\((kbq 16 (.cells true 1 ((gF l m now x2 x3).flatMap aA)) (.cells true 1 (((gF l m now x2 x3)++ep l m now (cE x2 J) 0).flatMap aA)))/\True)/\(True)) (∀Z:Nat,(Z<=List.length (jdw l x2 J))->(fk (decide (((Z:Int):Int)<(((jdw l x2 J).length:Nat):Int))) ((ixq (Z:Int) (jdw l x2 J).length)/\((((jdw l x2 J).flatMap aA)[(0+Int.toNat (Z:Int)*1)]?=some (nI ((jdw l x2 J).getD Z 0)))/\((ixq (Z:Int) (jd6 l m now x2 J).length)/\((((jd6 l m now x2 J).flatMap aC)[(0+Int.toNat (Z:Int)*1)]?=some (.bool ((jd6 l m now x2 J).getD Z false)))/\(fk (!((jd6 l m now x2 J).getD Z false)) (apq ((gF l m now x2 x3)++ep l m now (cE x2 J) Z).length 8 1 (((gF l m now x2 x3)++ep l m now (cE x2 J) Z).flatMap aA) [nI ((jdw l x2 J).getD Z 0)] (nw ((Z:Int)+1) (∃bg:Nat,(bg<=List.length (jdw l x2 J))/\(List.length (jdw l x2 J)-bg)<(List.length (jdw l x2 J)-Z)/\true=true/\((nI ((Z:Int)+1):Value)=nI (bg:Int)/\wk (slN 18 (((gF l m now x2 x3)++ep l m now (cE x2 J) Z).length+1):Value) (slQ 18 1 ((gF l m now x2 x3)++ep l m now (cE x2 J) bg).length:Value)/\jdx l x2 J w now U m)/\(jd3 m w h now x2 J U l)/\((kbq 16 (.cells true 1 ((((((gF l m now x2 x3)++ep l m now (cE x2 J) Z).flatMap aA).drop 0).take (((gF l m now x2 x3)++ep l m now (cE x2 J) Z).length*1))++((([nI ((jdw l x2 J).getD Z 0)]:List Value).drop 0).take (1*1)))) (jds l m now x2 x3 J bg))/\True)/\(True)))) (nw ((Z:Int)+1) (∃bg:Nat,(bg<=List.length (jdw l x2 J))/\(List.length (jdw l x2 J)-bg)<(List.length (jdw l x2 J)-Z)/\true=true/\((nI ((Z:Int)+1):Value)=nI (bg:Int)/\wk (slQ 16 1 ((gF l m now x2 x3)++ep l m now (cE x2 J) Z).length:Value) (slQ 16 1 ((gF l m now x2 x3)++ep l m now (cE x2 J) bg).length:Value)/\jdx l x2 J w now U m)/\(jd3 m w h now x2 J U l)/\((kbq 16 (jds l m now x2 x3 J Z) (jds l m now x2 x3 J bg))/\True)/\(True)))))))) (∃x3':List Nat×List Value,rK l x2.2 x3'.1 x3'.2/\(List.length x2.2.A-List.length x3'.1)<(List.length x2.2.A-List.length x3.1)/\true=true/\(wk (slQ 16 1 ((gF l m now x2 x3)++ep l m now (cE x2 J) Z).length:Value) (slQ 16 1 (et l m now x2.2.A x3'.1).length:Value)/\Mt w l now)/\((kbq 9 (.iter 6 (md x2).length (x3.1 ++ [J])) (.iter 6 (md x2).length x3'.1))/\wkO (.fam 0 (a8 (jdw l x2 J).length (x2.2.ks (cE x2 J)) x3.2):ah) (rno (sg 9 [(9,16)]) 3 (.fam 0 x3'.2:ah))/\(kbq 9 (.cells true 8 (bQ ((cellsS w h l m now x2.2.A x3.1).flatMap cellC) (0+Int.toNat (((cE x2 J).2*w)+(cE x2 J).1)*8) (Mz l m now x2 J))) (.cells true 8 ((cellsS w h l m now x2.2.A x3'.1).flatMap cellC)))/\(jd4 9 m)/\(krq 9 jdz)/\(jdc 9 w h now)/\True)/\((kbq 9 (jds l m now x2 x3 J Z) (.cells true 1 ((et l m now x2.2.A x3'.1).flatMap aA)))/\True)/\(True))))))))))))))))/\((∀J:Nat,J<(md x2).length->J∈x3.1)->(((C0 (.cells true 1 ((gF l m now x2 x3).flatMap aA)))/\True)/\(∀H':Heap,H'.length=10->(H'[9]?=some (.cells true 1 ((gF l m now x2 x3).flatMap aA):ah)/\True)->ak prog 128 [slQ 9 1 (gF l m now x2 x3).length] H' [9] (Is (.tuple #[]) (List.set H' 9 (.cells true 1 ((yR (gF l m now x2 x3)).flatMap aA):ah))))/\(true=true/\wk (.tuple #[.agg #[nI w,nI h,nI now,slQ 3 1 (bS (w*h).toNat).length],slQ 9 1 (gF l m now x2 x3).length,nI 0]:Value) (rn (sg 1 [(1,3),(2,9)]) 3 (jd2 w h l m now))/\((kbq 1 (.cells true 8 ((cellsS w h l m now x2.2.A x3.1).flatMap cellC)) (.cells true 8 (List.flatMap cellC (aP w h l m now).1.cells)))/\(kbq 1 (.cells true 1 ((yR (gF l m now x2 x3)).flatMap aA)) (.cells true 1 (List.flatMap aA (aP w h l m now).2.1)))/\True))))))))))))) (n0q 3 62 [nI w,nI h,nI now] (.tuple #[.agg #[nI 0,nI 0,nI 0,slQ 3 1 0],nI (aW w h now)]) [(.cells true 8 []:ah)] (c0q 5 31 (Mw m) (nI (aM m)) ((.bool (((aW w h now):Int) != 0):Value) = .bool true/\((.bool (((aW w h now):Int) != 0):Value) = .bool true/\(true=true/\wk (.tuple #[.agg #[nI 0,nI 0,nI 0,.slice none 0 0],.slice none 0 0,nI (aW w h now)]:Value) (rn (sg 1 []) 3 (jd2 w h l m now))/\Hs))))))
abbrev Mv:Hint:=.slot 43 (.bool true) (.go 5 (.again []))
abbrev jd8(qB0:af):Nat×Bool×ah:=(1,true,.cells true 0 (J2 qB0))
abbrev jdj:Nat×Bool×ah:=(2,true,.cells true 0 [nI 0,nI 0,nI 0,.slice none 0 0])
abbrev jdi(qi0 qi1 qi2:Int):Nat×Bool×ah:=(4,true,.cells true 0 (J1 qi0 qi1 qi2))
abbrev Og(m:af)(U:Nat):List Value:=[nI m.up.ae,nI m.up.ab,nI m.up.aa,nI m.up.ac,nI m.down.ae,nI m.down.ab,nI m.down.aa,nI m.down.ac,slQ 13 1 U]
theorem O7(w h:Int)(l:List Report)(m:af)(now:Int):vE 64 [nI w,nI h,slQ 0 2 l.length,.agg #[nI m.up.ae,nI m.up.ab,nI m.up.aa,nI m.up.ac,nI m.down.ae,nI m.down.ab,nI m.down.aa,nI m.down.ac],nI now] (aH 0 [l.flatMap ai]) (some [])
 (.go 6 (.cas (aW w h now=0) (.ans [] (.tuple #[.agg #[nI w,nI h,nI now,slQ 3 1 (bS (w*h).toNat).length],nI 0]) [.cells true 8 ((bS (w*h).toNat).flatMap cellC)] (.go 7 (.ans [] (nI (aM m)) [] (.go 12 (.fork (.go 4 Mv) (.go 8 (.fork (.go 4 Mv) (.go 11 (.fork (.go 3 (.again [])) (.go 1 (.tab [.new 1] (.go 2 (.inv 3 (Nat×Mb (Int×Int)) ((0,Mb.new (Int×Int) 1)) [] [6,7,1,2,4] (fun x2=>[(53,nI (ju x2)),(4,nI now),(2,slQ 0 2 l.length),(1,nI h),(0,nI w),(8,pt 1),(10,pt 2),(13,pt 4),(15,.map (some 6)),(51,slQ 0 2 l.length),(52,nI ((l.length:Nat):Int))]) (fun x2=>[(6,false,.map (md x2)),(7,false,.fam 0 x2.2.ms),(jd8 m),jdj,(jdi w h now)]) (fun x2=>[]) (fun x2=>[]) (fun x2=>(jdh x2 l w h now)) (fun x2=>(l.length-x2.1)) (fun x2 => .go 0 (.fork (.go 0 (.need (.val (jd9 l x2) (.go 10 (.ans [] (nI (errReport (iC l x2))) [] (.go 3 (.fork (.go 4 (.again [])) (.go 1 (.need (.slot 73 (.slice (some ⟨0,0,some 2⟩) x2.1 x2.1) (.go 9 (.inv 3 (Nat) (0) [] [] (fun J=>[(8,nI (J:Int)),(1,.func (.func 127) #[] #[pt 8]),(0,.slice (some ⟨0,0,some 2⟩) x2.1 x2.1),(7,nI (ju x2))]) (fun J=>[]) (fun J=>[]) (fun J=>[]) (fun J=>(jdq J x2 l)) (fun J=>(x2.1-J)) (fun J => .go 0 (.fork (.go 4 (.need (.val (jd7 l J) (.go 8 (.fork (.go 4 (.slot 70 (.bool true) (.go 4 (.again [])))) (.go 0 (.slot 18 (nI ((J:Int)+1)) (.go 0 (.again []))))))))) (.go 9 (.am (.go 6 (.again [])) (.go 5 (.fork (.go 3 (.again [])) (.go 4 (.fork (.go 3 (.again [])) (.cas (dY (jdy l x2) x2.2.A=true) (.go 0 (.tab [.yQ 6 (qR l x2) 7 (x2.2.ks (jdy l x2)) (iO l x2).length 1 (kXY (jdy l x2)) ((iO l x2).flatMap aA)] (.go 0 (.val (slQ 10 1 (iO l x2).length) (.go 2 (.fork (.go 3 (.again [])) (.go 3 (.BD (jdk l x2) (.val (jdv l x2) (.go 0 (.need (.go 0 (.BD (jdf l x2) (.tab [.wz 6 (qR l x2) 7 12 (List.length (jda l x2)-1) ((iO l x2).length+1) 1 (kXY (jdy l x2)) false] (.go 0 (.slot 110 (nI ((ju x2)+1)) (.go 0 (.again [])))))))))))))))))) (.go 1 (.val zT (.go 7 (.BD (jdu l x2) (.val (.tuple #[.slice none 0 0,nI (((qR l x2):Nat):Int)]) (.go 2 (.BD (jdn l x2) (.tab [.wz 6 (qR l x2) 7 11 (List.length x2.2.ms-1) 1 1 (kXY (jdy l x2)) false] (.go 0 (.slot 110 (nI ((ju x2)+1)) (.go 0 (.again []))))))))))))))))))))))))))))))))) (.go 2 (.inv 3 (List Nat×List Value) ((zS,x2.2.ms)) [] [8,7,3,1,2,4] (fun x3=>[(20,slQ 9 1 (gF l m now x2 x3).length),(13,pt 4),(10,pt 2),(8,pt 1),(0,nI w),(2,slQ 0 2 l.length),(4,nI now),(112,pt 8)]) (fun x3=>[(8,true,.iter 6 (md x2).length x3.1),(7,false,.fam 0 x3.2),(3,true,.cells true 8 ((cellsS w h l m now x2.2.A x3.1).flatMap cellC)),(jd8 m),jdj,(jdi w h now)]) (fun x3=>[(true,.cells true 1 ((gF l m now x2 x3).flatMap aA))]) (fun x3=>[]) (fun x3=>rK l x2.2 x3.1 x3.2) (fun x3=>(List.length x2.2.A-List.length x3.1)) (fun x3 => .nxt (fun J => .go 1 (.val (jdt x2 J l) (.go 4 (.tab [.yP 22 7 (x2.2.ks (cE x2 J)) (jdw l x2 J).length 1 ((jdw l x2 J).flatMap aA)] (.go 6 (.inv 3 (Nat) (0) [] [12,1,2,4,10] (fun U=>[(123,nI (U:Int)),(112,pt 8),(4,nI now),(2,slQ 0 2 l.length),(0,nI w),(8,pt 1),(10,pt 2),(13,pt 4),(20,slQ 9 1 (gF l m now x2 x3).length),(21,pt 10),(22,slQ 11 1 (jdw l x2 J).length),(23,pt 12),(121,slQ 11 1 (jdw l x2 J).length),(122,nI (((jdw l x2 J).length:Nat):Int))]) (fun U=>[(12,false,.cells true 0 (Og m U)),(jd8 m),jdj,(jdi w h now),(10,true,.cells true 0 [nI (cE x2 J).1,nI (cE x2 J).2])]) (fun U=>[(true,.cells true 8 (((cS l m now (cE x2 J)).take U).flatMap cellC))]) (fun U=>[]) (fun U=>(U<=List.length (cS l m now (cE x2 J)))) (fun U=>(List.length (cS l m now (cE x2 J))-U)) (fun U => .go 0 (.fork (.need (.val (nI ((jdw l x2 J).getD U 0)) (.go 7 (.need (.val (jdb l x2 J U) (.go 1 (.ans [] (jdg l x2 J U m now) [] (.go 0 (.need (.go 3 (.slot 143 (nI ((U:Int)+1)) (.go 0 (.again [(13,15)]))))))))))))) (.go 0 (.ans [(12,.cells true 0 [nI m.up.ae,nI m.up.ab,nI m.up.aa,nI m.up.ac,nI m.down.ae,nI m.down.ab,nI m.down.aa,nI m.down.ac,slQ 13 1 (cS l m now (cE x2 J)).length]),(13,.cells true 8 ((cS l m now (cE x2 J)).flatMap cellC))] (jdd l m now x2 J) [.cells true 1 ((jd6 l m now x2 J).flatMap aC)] (.go 11 (.slot 154 (nI ((cE x2 J).2*w)) (.go 2 (.slot 157 (nI (((cE x2 J).2*w)+(cE x2 J).1)) (.go 13 (.need (.need (.go 2 (.inv 3 (Nat) (0) [(16,9)] [9,1,2,4,10,12,15] (fun Z=>[(163,nI (Z:Int)),(20,slQ 16 1 ((gF l m now x2 x3)++ep l m now (cE x2 J) Z).length),(122,nI (((jdw l x2 J).length:Nat):Int)),(121,slQ 11 1 (jdw l x2 J).length),(23,pt 12),(22,slQ 11 1 (jdw l x2 J).length),(21,pt 10),(13,pt 4),(10,pt 2),(8,pt 1),(0,nI w),(2,slQ 0 2 l.length),(4,nI now),(112,pt 8),(123,nI (U:Int)),(27,pt 15),(26,slQ 14 1 (jd6 l m now x2 J).length),(161,slQ 11 1 (jdw l x2 J).length),(162,nI (((jdw l x2 J).length:Nat):Int))]) (fun Z=>[(9,false,.dead),(jd8 m),jdj,(jdi w h now),(10,true,.cells true 0 [nI (cE x2 J).1,nI (cE x2 J).2]),(12,true,.cells true 0 (Og m U)),(15,true,.cells true 0 (Mz l m now x2 J))]) (fun Z=>[(true,.cells true 1 (((gF l m now x2 x3)++ep l m now (cE x2 J) Z).flatMap aA))]) (fun Z=>[]) (fun Z=>(Z<=List.length (jdw l x2 J))) (fun Z=>(List.length (jdw l x2 J)-Z)) (fun Z => .go 0 (.fork (.go 0 (.need (.val (nI ((jdw l x2 J).getD Z 0)) (.go 3 (.need (.val (.bool ((jd6 l m now x2 J).getD Z false)) (.go 0 (.fork (.go 2 (.need (.go 1 (.slot 177 (nI ((Z:Int)+1)) (.go 0 (.again [(16,18)])))))) (.go 0 (.slot 177 (nI ((Z:Int)+1)) (.go 0 (.again [(16,16)])))))))))))) (.again [(9,16)])))))))))))))))))))))) (.go 2 (.Iq [(9,.cells true 1 ((gF l m now x2 x3).flatMap aA))] (.tuple #[]) [(9,.cells true 1 ((yR (gF l m now x2 x3)).flatMap aA))] [] (.go 4 (.again [(1,3),(2,9)])))))))))))))))))))))) (.ans [] (.tuple #[.agg #[nI 0,nI 0,nI 0,slQ 3 1 0],nI (aW w h now)]) [.cells true 8 []] (.go 7 (.ans [] (nI (aM m)) [] (.go 12 (.slot 12 (.bool true) (.go 5 Mv))))))))
 (er ((aH 0 [l.flatMap ai]):HT).n 3 (.tuple #[.agg #[nI (aP w h l m now).1.w,nI (aP w h l m now).1.h,nI (aP w h l m now).1.hour,slQ 1 1 (List.length (aP w h l m now).1.cells)],slQ 2 1 (List.length (aP w h l m now).2.1),nI (aP w h l m now).2.2]) [(true,.cells true 8 (List.flatMap cellC (aP w h l m now).1.cells)),(true,.cells true 1 (List.flatMap aA (aP w h l m now).2.1))])=Lq w h l m now:=by kernel_rfl
def M9(sp:Value)  : Prop :=
 (.tuple #[]:Value)=sp
theorem Ns (sp : Value)  : vE 128 [slQ 0 1 0] (aH 0 [[]]) (some [])
  (.auto)
  (fun v _ _ => v = sp) = M9 sp  := by kernel_rfl
end
end Go.Proofs.YthcjliffpebjaaaGreat
namespace Go.Proofs.YthcjliffpebjaaaGreat
noncomputable section
attribute [local irreducible] vF
theorem Hf{L:List Int}(h1:L.length<1000){H:Heap}{id:Nat}(ho:H[id]?=some (.cells true 1 (L.flatMap aA))) :
  ak prog F.kG [slQ id 1 L.length] H [id] (Is (.tuple #[]) (H.set id (.cells true 1 ((yR L).flatMap aA)))):=by
 by_cases h0:0<L.length
 ·exact LU h0 h1 ho
 ·obtain rfl:L=[]:=List.length_eq_zero_iff.1 Om
  have hl:=(List.getElem?_eq_some_iff.1 ho).1
  have e:H.set id (.cells true 1 ((yR []).flatMap aA))=H:=by
   have:H[id] = .cells true 1 []:=by have:=ho;rw[List.getElem?_eq_getElem hl]at this;exact Option.some.inj this
   show H.set id (.cells true 1 ((List.mergeSort [] _).flatMap aA))=H
   rw[List.mergeSort_nil]
   show H.set id (.cells true 1 [])=H
   rw[<- this];exact List.set_getElem_self _
  rw[e]
  refine ak.mono (M:=[]) (NH (css:=[[]]) (v:=.tuple #[]) (Eq.mpr (Ns _) rfl) ⟨rfl,trivial⟩ rfl (ids:=[id]) ⟨⟨_,_,ho⟩,trivial⟩ rfl) (fun _ h=>by cases h) (fun _ _ h=>h)
theorem gP{r:dQ×List Int×Int}{e:Int}(h:r=(bR,[],e)):true=true/\wk (.tuple #[.agg #[nI 0,nI 0,nI 0,.slice none 0 0],.slice none 0 0,nI e]:Value) (rn (sg 1 []) 3 (.tuple #[chV 1 1 r.1,slQ 2 1 r.2.1.length,nI r.2.2]))/\(True/\True/\True):=by
 subst h
 exact ⟨rfl,dz ⟨iL ⟨ad _,ad _,ad _,bx _ _ _ (.inl rfl),trivial⟩,bx _ _ _ (.inl rfl),ad _,trivial⟩,trivial,trivial,trivial⟩
section
variable {w h now:Int} {l:List Report} {m:af}
theorem eD1(h0:¬ aW w h now=0):iR w h l m now=aW w h now:=if_neg h0
theorem eD2(h0:aW w h now=0)(h1:¬ aM m=0):iR w h l m now=aM m:=(if_pos h0).trans (if_neg h1)
theorem eD3(h0:aW w h now=0)(h1:aM m=0)(h2:400<l.length):iR w h l m now=2:=(if_pos h0).trans ((if_pos h1).trans (if_pos h2))
theorem eD4(h0:aW w h now=0)(h1:aM m=0)(h2:¬ 400<l.length):iR w h l m now=cj (jo w h l now) l.length:=(if_pos h0).trans ((if_pos h1).trans (if_neg h2))
theorem iQ{e:Int}(h0:iR w h l m now=e)(h1:¬ e=0):aP w h l m now=(bR,[],e):=by
 subst h0;exact if_neg h1
theorem yg(h0:iR w h l m now=0):aP w h l m now=(⟨w,h,now,qa w h l m now⟩,ca l m now l.length,0):=if_pos h0
end
section
variable {w h now:Int} {l:List Report} {i:Nat}
theorem dE1(h1:¬ errReport (l.getD i ag)=0):jo w h l now i=errReport (l.getD i ag):=if_neg h1
theorem dE2(h1:errReport (l.getD i ag)=0)(h2:∃k,k<i/\(l.getD k ag).id=(l.getD i ag).id):jo w h l now i=10:=(if_pos h1).trans (if_pos h2)
theorem dE3(h1:errReport (l.getD i ag)=0)(h2:¬ ∃k,k<i/\(l.getD k ag).id=(l.getD i ag).id)(h3:(l.getD i ag).x ≥ w∨(l.getD i ag).y ≥ h):jo w h l now i=1:=(if_pos h1).trans ((if_neg h2).trans (if_pos h3))
theorem dE4(h1:errReport (l.getD i ag)=0)(h2:¬ ∃k,k<i/\(l.getD k ag).id=(l.getD i ag).id)(h3:¬ ((l.getD i ag).x ≥ w∨(l.getD i ag).y ≥ h))(h4:(l.getD i ag).at_ > now):jo w h l now i=12:=(if_pos h1).trans ((if_neg h2).trans ((if_neg h3).trans (if_pos h4)))
theorem dE5(h1:errReport (l.getD i ag)=0)(h2:¬ ∃k,k<i/\(l.getD k ag).id=(l.getD i ag).id)(h3:¬ ((l.getD i ag).x ≥ w∨(l.getD i ag).y ≥ h))(h4:¬ (l.getD i ag).at_ > now)(h5:12<=(atN l i (kxy (l.getD i ag))).length):jo w h l now i=2:=(if_pos h1).trans ((if_neg h2).trans ((if_neg h3).trans ((if_neg h4).trans (if_pos h5))))
theorem dE6(h1:errReport (l.getD i ag)=0)(h2:¬ ∃k,k<i/\(l.getD k ag).id=(l.getD i ag).id)(h3:¬ ((l.getD i ag).x ≥ w∨(l.getD i ag).y ≥ h))(h4:¬ (l.getD i ag).at_ > now)(h5:¬ 12<=(atN l i (kxy (l.getD i ag))).length):jo w h l now i=0:=(if_pos h1).trans ((if_neg h2).trans ((if_neg h3).trans ((if_neg h4).trans (if_neg h5))))
theorem dOk(h0:jo w h l now i=0):eT (l.getD i ag)/\(l.getD i ag).x<w/\(l.getD i ag).y<h/\(l.getD i ag).at_<=now/\(atN l i (kxy (l.getD i ag))).length<12/\¬ ∃k,k<i/\(l.getD k ag).id=(l.getD i ag).id:=by
 by_cases h1:errReport (l.getD i ag)=0
 ·by_cases h2:∃k,k<i/\(l.getD k ag).id=(l.getD i ag).id
  ·rw[dE2 h1 h2]at h0;cases h0
  ·by_cases h3:(l.getD i ag).x ≥ w∨(l.getD i ag).y ≥ h
   ·rw[dE3 h1 h2 h3]at h0;cases h0
   ·by_cases h4:(l.getD i ag).at_ > now
    ·rw[dE4 h1 h2 h3 h4]at h0;cases h0
    ·by_cases h5:12<=(atN l i (kxy (l.getD i ag))).length
     ·rw[dE5 h1 h2 h3 h4 h5]at h0;cases h0
     ·exact ⟨dO.1 h1,Om,Om,Om,Om,h2⟩
 ·rw[dE1 h1]at h0;exact absurd h0 h1
end
theorem FT{f:Nat->Int}{n:Nat}(h:cj f (n+1)=0):cj f n=0:=by
 unfold cj at h
 split at h
 ·assumption
 ·rename_i a
  exact absurd h a
theorem A1{w h now:Int}{l:List Report}:∀{n:Nat},cj (jo w h l now) n=0->∀q,(atN l n q).length<=12
 |0,_,q=>Nat.zero_le _
 |n+1,h0,q=>by
  have hz:=hC h0
  have ih:=A1 (n:=n) (FT h0) q
  rw[iv]
  by_cases e:kxy (l.getD n ag)=q
  ·rw[if_pos e,aI]
   have:=(dOk (hz n (Nat.lt_succ_self n))).2.2.2.2.1
   rw[e]at this
   show _+1<=12
   omega
  ·rw[if_neg e];exact ih
theorem sy:∀a b:Int×Int,cN prog Op.maxDepth 54 (kXY a) (kXY b)=some (decide (a=b)):=by
 intro a b
 have h:cN prog Op.maxDepth 54 (kXY a) (kXY b)=some ((a.1 == b.1)&&((a.2 == b.2)&&true)):=by kernel_rfl
 rw[h]
 congr 1
 obtain ⟨a1,a2⟩:=a
 obtain ⟨b1,b2⟩:=b
 simp only[Bool.and_true]
 by_cases e:(a1,a2)=(b1,b2)
 ·cases e;simp
 ·rw[decide_eq_false e]
  by_cases e1:a1=b1
  ·have e2:¬ a2=b2:=fun q=>e (by rw[e1,q])
   simp[e2]
  ·simp[e1]
theorem Il{a:List Bool}{k:Nat}(h:k<a.length){off:Nat}(ho:off=k):(a.flatMap aC)[off]?=some (.bool (a.getD k false)):=jA (n:=1) (c:=0) (fun _=>rfl) h Om rfl
theorem wv{a:List Int}{k:Nat}(h:k<a.length){off:Nat}(ho:off=k):(a.flatMap aA)[off]?=some (nI (a.getD k 0)):=jA (n:=1) (c:=0) bZ h Om rfl
theorem Dr(σ:Nat->Option Nat)(x:Int):∀v∈aA x,rn σ 2 v=v:=by
 intro v hv
 rw[List.mem_singleton.1 hv];rfl
theorem vV:∀(n:Nat) (s:List Nat),s.Nodup->(∀i∈s,i<n)->s.length<=n:=by
 intro n
 induction n with
 |zero=>intro s _ h;cases s with
  |nil=>exact Nat.le_refl _
  |cons a s=>exact absurd (h a (List.mem_cons_self ..)) Om
 |succ n ih =>
  intro s hn hs
  by_cases hm:n∈s
  ·have h1:=ih (s.erase n) (hn.erase n) (fun i hi=>by
    have:=hs i (List.mem_of_mem_erase hi)
    have:i≠n:=fun e=>by rw[e]at hi;exact (List.Nodup.not_mem_erase hn) hi
    omega)
   rw[List.length_erase_of_mem hm]at h1
   omega
  ·exact Nat.le_succ_of_le (ih s hn (fun i hi=>by
    have:=hs i hi
    have:i≠n:=fun e=>hm (e ▸ hi)
    omega))
theorem Hc(a:Int×Int):pG (kXY a) (kXY a)=true:=by simp[kXY,pG,tK,tL]
theorem sY{κ β:Type}[DecidableEq κ](k:κ)(v:β):∀F:List (κ×β),(c9 k v F).length<=F.length+1
 | [] =>Nat.le_refl _
 |e :: F=>by
  show (if e.1=k then (k,v) :: F else e :: c9 k v F).length<=_
  split
  ·exact Nat.le_succ _
  ·exact Nat.succ_le_succ (sY k v F)
theorem wa(l:List Report)(m:af)(now:Int)(A:List ((Int×Int)×Value)):∀seen:List Nat,(et l m now A seen).length<=seen.length*l.length
 | [] =>Nat.zero_le _
 |e :: s=>by
  have ih:=wa l m now A s
  unfold et at ih ⊢
  rw[List.flatMap_cons,aI,List.length_cons,Nat.succ_mul]
  have:(ep l m now (br A e) l.length).length<=l.length:=by
   unfold ep
   rw[List.length_map]
   refine Nat.le_trans (List.length_filter_le _ _) ?_
   rw[List.length_take]
   exact Nat.min_le_left _ _
  omega
theorem GK(l:List Report)(m:af)(now:Int)(q:Int×Int)(y:Nat):(ep l m now q y).length<=l.length:=by
 unfold ep
 rw[List.length_map]
 refine Nat.le_trans (List.length_filter_le _ _) ?_
 rw[List.length_take]
 exact Nat.le_trans (Nat.min_le_right _ _) (iT l q _)
theorem oo(l:List Report)(m:af)(now:Int)(n:Nat):(ca l m now n).length<=n:=by
 unfold ca
 rw[List.length_map]
 exact Nat.le_trans (List.length_filter_le _ _) (by rw[List.length_range];exact Nat.le_refl _)
theorem rK.more{F:Nat}{l:List Report}{T:Mb (Int×Int)}{seen:List Nat}{ms:List Value}(I:MbI F 1 aA (cg l l.length) T)(S:rK l T seen ms){e:Nat}(he:e<T.A.length)(hn:e ∉ seen) :
  rK l T (seen ++ [e]) (a8 (cg l l.length (br T.A e)).length (T.ks (br T.A e)) ms):=by
 refine ⟨List.nodup_append.2 ⟨S.nd,(by simp),fun a ha b hb e=>hn (by rw[List.mem_singleton.1 hb]at e;exact e ▸ ha)⟩,fun j hj =>?_,(v8 _ _ _).trans S.m0,l4 S.fx,fun e' he' hne =>?_⟩
 ·rcases List.mem_append.1 hj with h1|h1
  ·exact S.lt j h1
  ·rw[List.mem_singleton.1 h1];exact he
 ·have h1:e' ∉ seen:=fun q=>hne (List.mem_append_left _ q)
  have h2:e≠e':=fun q=>hne (List.mem_append_right _ (by rw[q];exact List.mem_singleton.2 rfl))
  have hd:=I.dj (br T.A e) (br T.A e') (fun q=>h2 (wl I.nd he he' q)) (mR I he).2 (mR I he').2
  rw[<- S.rw e' he' h1]
  cases hr:(cg l l.length (br T.A e)).length with
  |zero=>rfl
  |succ r=>exact List.getElem?_set_ne Om
theorem fg(n:Nat)(l:List Int):(l.flatMap aA).all (aw n)=true:=by
 rw[List.all_flatMap,List.all_eq_true]
 intro r _;rfl
theorem LD(l:List Report)(i:Nat)(q:Int×Int):List.take ((cg l i q).length*1) (List.drop 0 ((cg l i q).flatMap aA))++List.take (1*1) (List.drop 0 [nI (i:Int)])=(cg l i q ++ [(i:Int)]).flatMap aA:=cF bZ _ _ rfl
set_option maxHeartbeats 8000000 in
theorem N5(w h:Int)(l:List Report)(m:af)(now:Int){H:Heap}{L:Nat}(hL:H.length=L){id0:Nat}{own:Bool}{z:Nat}(hid:H[id0]?=some (.cells own z (l.flatMap ai))) :
  ak prog F.HA [nI w,nI h,slQ id0 2 l.length,ao m,nI now] H []
   (Is (.tuple #[chV 1 L (aP w h l m now).1,.slice (some ⟨L+1,0,some 1⟩) (aP w h l m now).2.1.length (aP w h l m now).2.1.length,nI (aP w h l m now).2.2]) (H ++ [.cells true 8 ((aP w h l m now).1.cells.flatMap cellC),.cells true 1 ((aP w h l m now).2.1.flatMap aA)])):=by
 subst hL
 refine Gl (fun i => .tuple #[chV 1 i (aP w h l m now).1,.slice (some ⟨i+1,0,some 1⟩) (aP w h l m now).2.1.length (aP w h l m now).2.1.length,nI (aP w h l m now).2.2]) (css:=[l.flatMap ai]) (new:=[.cells true 8 ((aP w h l m now).1.cells.flatMap cellC),.cells true 1 ((aP w h l m now).2.1.flatMap aA)]) (Eq.mpr (O7 w h l m now) ?_) ⟨b9 0 l,trivial⟩ ⟨⟨_,_,rfl,aT 0 _⟩,⟨_,_,rfl,fg 0 _⟩,trivial⟩ rfl rfl (fun j=>by simp[rn,bT]) (ids:=[id0]) ⟨⟨_,_,hid⟩,trivial⟩ rfl
 delta Lq Mw jd5 jd2 Hs jd4 jdz jdc Fy jdh ju jd9 iC Mu jdq jd7 jdy md qR iO Hr zT jdp jdo jdk jdv jdf jda jdl jdu jdn zS Mt jdt jdw cE Mx jdb jd0 jdg My jdm jdr jdd jd6 gF jdx jd3 jds Mz jd1 J2 J1 jde fP nI slQ pt slN C0 fk ck nw eR wR krq kbq ixq lq apq c0q n0q
 refine ⟨fun h0 =>?_,fun h0=>⟨trivial,fun H' hl _ =>?_,trivial,fun H' _ _=>eW m H',by rw[show (aW w h now != 0)=true from bne_iff_ne.2 h0],by rw[show (aW w h now != 0)=true from bne_iff_ne.2 h0],gP (iQ (eD1 h0) h0)⟩⟩
 ·refine ⟨trivial,fun H' hl _ =>?_,trivial,fun H' _ _=>eW m H',cG rfl (aZ (fun h1=>⟨by rw[show (aM m != 0)=true from bne_iff_ne.2 h1],gP (iQ (eD2 h0 h1) h1)⟩) (fun h1=>aq (fun q=>gP (iQ (eD3 h0 h1 Om) (by decide))) (fun q =>?_)))⟩
  ·have:=B6 w h now hl
   rw[mo h0]at this
   exact this
  have OG:l.length<=400:=Om
  have e4:=eD4 (l:=l) h0 h1 Om
  have hm:=dc.1 h1
  obtain ⟨sw,sh,swh,st⟩:=d7.1 h0
  have hb:=xq sw sh
  have I0:MbI 7 1 aA (cg l 0) (Mb.new (Int×Int) 1):=MbI.new 7 1 aA
  refine ⟨rfl,⟨Nat.zero_le _,Nat.zero_le _,rfl,I0⟩,?_,fun _=>rfl,?_⟩
  ·dsimp only
   repeat' first|exact MbI.wkM I0 rfl|(exact MbI.wkA I0 (by rfl) rfl)|exact trivial|exact rfl|exact ad _|refine ⟨rfl,?_⟩|refine ⟨trivial,?_⟩|apply And.intro
  rintro ⟨i,T⟩ ⟨hi,hA,hu,I⟩
  dsimp only at hi hA hu I ⊢
  refine aq (fun k =>?_) (fun k =>?_)
  ·have hlt:i<l.length:=Om
   have stop:∀{e:Int},jo w h l now i=e->¬ e=0->aP w h l m now=(bR,[],e):=fun {e} h1 h2=>iQ (e4.trans ((jl hu (by rw[h1];exact h2) hlt).trans h1)) h2
   refine ⟨Om,da hlt,trivial,fun H' _ _=>xO _ H',aZ (fun g1=>gP (stop (dE1 g1) g1)) (fun g1 =>?_)⟩
   refine ⟨⟨⟨.inl rfl,Om⟩,Om,Nat.zero_le _⟩,rfl,rfl,⟨Nat.zero_le _,fun k hk=>absurd hk (Nat.not_lt_zero k)⟩,?_,fun _=>rfl,?_⟩
   ·repeat' first|exact trivial|exact ad _|refine ⟨rfl,?_⟩|refine ⟨trivial,?_⟩|apply And.intro
   rintro y ⟨hy,hno⟩
   refine aq (fun k2 =>?_) (fun k2 =>?_)
   ·refine ⟨Om,da Om,cO (fun hq=>⟨by rw[decide_eq_true Om],gP (stop (dE2 g1 ⟨y,Om,hq⟩) (by decide))⟩) (fun hq =>?_)⟩
    refine ⟨ay Om,y+1,⟨Om,fun k hk =>?_⟩,Om,rfl,?_⟩
    ·rcases Nat.lt_or_ge k y with h3|h3
     ·exact hno k h3
     ·obtain rfl:k=y:=Om
      exact hq
    ·repeat' first|exact trivial|exact ad _|refine ⟨rfl,?_⟩|refine ⟨trivial,?_⟩|apply And.intro
   obtain rfl:y=i:=Om
   have g2:¬ ∃k,k<y/\(l.getD k ag).id=(l.getD y ag).id:=fun ⟨k,h,e⟩=>hno k h e
   refine aq (fun g3=>gP (stop (dE3 g1 g2 (.inl g3)) (by decide))) (fun g3=>aq (fun g4=>gP (stop (dE3 g1 g2 (.inr g4)) (by decide))) (fun g4=>aq (fun g5=>gP (stop (dE4 g1 g2 Om g5) (by decide))) (fun g5 =>?_)))
   have g34:¬ ((l.getD y ag).x ≥ w∨(l.getD y ag).y ≥ h):=Om
   have hp:=I.pos
   have hal:=iT l (kxy (l.getD y ag)) y
   have hnl:=lX l y (kxy (l.getD y ag))
   have hll:=l0 (cg l y (kxy (l.getD y ag))).length (T.ks (kxy (l.getD y ag))) T.ms
   generalize hK:kxy (l.getD y ag)=K at *
   have hKv:(.agg #[nI (l.getD y ag).x,nI (l.getD y ag).y]:Value)=kXY K:=by rw[<- hK];rfl
   rw[hKv]
   refine ⟨fun hin =>?_,fun hin =>?_⟩
   ·have hlen:0<(cg l y K).length:=cc ((I.has K).symm.trans hin)
    have hset:∀v:Value,List.set (dU kXY id T.A) (fJ K T.A) (kXY K,v)=dU kXY id (c9 K v T.A):=fun v=>AG (key:=kXY) (val:=id) K v T.A hin
    have hget:(dU kXY id T.A)[fJ K T.A]?=some (kXY K,ff (cg l y K).length 7 (T.ks K)):=by
     rw[<- I.vl K (.chan none) hlen];exact AH kXY id K (.chan none) T.A hin
    rw[hset]
    refine ⟨⟨hget,I.m0,aK bZ _,fun _=>I.rw K hlen⟩,(GW sy K _ rfl false _).trans (by rw[pX,if_pos rfl];rfl),cO (fun g6=>gP (stop (dE5 g1 g2 g34 Om (by rw[hK];omega)) (by decide))) (fun g6 =>?_)⟩
    have g7:jo w h l now y=0:=dE6 g1 g2 g34 Om (by
     rw[hK]
     intro g8
     have h12:=A1 hu K
     omega)
    have hrow:=LD l y K
    have I2:=I.put K (cg l y K ++ [(y:Int)]) (by simp) Dr hrow
    have hns:=vS l y
    rw[hK]at hns
    have hl2:(cg l y K ++ [(y:Int)]).length=(cg l y K).length+1:=by rw[aI];rfl
    rw[hns,hl2]at I2
    refine ⟨(Lb sy Hc K _ rfl _).trans (by rw[pX,if_pos rfl,yZ,zW];rfl),⟨Om,by decide,⟨Nat.le_refl _,by rw[aK bZ];omega⟩,⟨Nat.le_refl _,Nat.le_refl 1⟩,rfl⟩,rfl,(H7 (gD kXY id K _ T.A) _).trans (congrArg some (gC kXY id K _ _ T.A)),⟨gD kXY id K _ T.A,.inr (Nat.succ_pos _),(v8 _ _ _).trans I.m0,by decide,by rw[hrow,aK bZ,hl2],by rw[hll];omega⟩,ay Om,(y+1,_),⟨by show y+1<=_;omega,Nat.le_trans (sY _ _ _) (Nat.succ_le_succ hA),fa hu g7,I2⟩,by show _-(y+1)<_;omega,rfl,?_⟩
    dsimp only
    repeat' first|exact MbI.wkM I2 rfl|(exact MbI.wkA I2 (by rfl) (by rw[hll];exact gC kXY id K _ _ T.A))|exact trivial|exact rfl|exact ad _|refine ⟨rfl,?_⟩|refine ⟨trivial,?_⟩|apply And.intro
   ·have Cn:dY K T.A=false:=by cases e:dY K T.A with
     |false=>rfl
     |true=>exact absurd e hin
    have hz0:(cg l y K).length=0:=by
     have:=dG ((I.has K).symm.trans Cn)
     omega
    have hnil:cg l y K=[]:=List.length_eq_zero_iff.1 hz0
    have g7:jo w h l now y=0:=dE6 g1 g2 g34 Om (by rw[hK];omega)
    have hrow:([nI (y:Int)]:List Value)=(cg l y K ++ [(y:Int)]).flatMap aA:=by rw[hnil];rfl
    have I2:=I.put K (cg l y K ++ [(y:Int)]) (by simp) Dr hrow
    have hns:=vS l y
    rw[hK]at hns
    have hl2:(cg l y K ++ [(y:Int)]).length=1:=by rw[hnil];rfl
    rw[hns,hl2,hz0]at I2
    refine ⟨(GW sy K _ rfl false T.A).trans (by rw[pY K _ _ Cn];rfl),(Lb sy Hc K _ rfl T.A).trans (by rw[pY K _ _ Cn];rfl),(H7 (gD kXY id K _ T.A) _).trans (congrArg some (gC kXY id K _ _ T.A)),⟨gD kXY id K _ T.A,.inr Nat.one_pos,I.m0,by decide,rfl,Om⟩,ay Om,(y+1,_),⟨by show y+1<=_;omega,Nat.le_trans (sY _ _ _) (Nat.succ_le_succ hA),fa hu g7,I2⟩,by show _-(y+1)<_;omega,rfl,?_⟩
    dsimp only
    repeat' first|exact MbI.wkM I2 rfl|(exact MbI.wkA I2 (by rfl) (gC kXY id K _ _ T.A))|exact trivial|exact rfl|exact ad _|refine ⟨rfl,?_⟩|refine ⟨trivial,?_⟩|apply And.intro
  obtain rfl:i=l.length:=Om
  have hr:=yg (e4.trans hu)
  have hz:=hC hu
  have h12:=A1 hu
  have S0:rK l T [] T.ms:=⟨List.nodup_nil,fun e h=>(by cases h),I.m0,I.fx,fun e he _=>I.rw _ (mR I he).2⟩
  refine ⟨rfl,S0,?_,fun _=>rfl,?_⟩
  ·repeat' first|exact HS I.fx rfl|(exact congrArg (fun q=>some (ah.cells true 8 (List.flatMap cellC q))) (Ii w h l m now T.A).symm)|exact fw _ _|exact trivial|exact rfl|exact ad _|exact bx _ _ _ (.inl rfl)|refine ⟨rfl,?_⟩|refine ⟨trivial,?_⟩|apply And.intro
  rintro ⟨seen,ms⟩ S
  dsimp only at S ⊢
  have hsn:=vV T.A.length seen S.nd S.lt
  have hls:=wa l m now T.A seen
  have hlb:(et l m now T.A seen).length<=160000:=Nat.le_trans hls (Nat.mul_le_mul (show seen.length<=400 by omega) OG)
  refine ⟨rfl,fun e he hne =>?_,fun hall =>?_⟩
  ·have he:e<T.A.length:=by rw[uH]at he;exact he
   obtain ⟨c1,c2⟩:=mR I he
   have S2:=S.more I he hne
   have hq:=fun k (hk:k<(atN l l.length (br T.A e)).length)=>lk hk
   have hnl:=lX l l.length (br T.A e)
   have htl:=lM l m now (br T.A e)
   have hrw:=S.rw e he hne
   have Oo:=BH l m now T.A seen e
   have hcs:=fun hx hy=>AS (w:=w) (h:=h) (l:=l) (m:=m) (now:=now) (A:=T.A) (seen:=seen) (e:=e) hx hy
   have hal:=GL l m now (br T.A e) (y:=(cg l l.length (br T.A e)).length) Om
   have Pr:=fun k hk=>EW (l:=l) (m:=m) (now:=now) (q:=br T.A e) (k:=k) hk
   have hol:=fun y=>GK l m now (br T.A e) y
   have Pz:=h12 (br T.A e)
   have hng:=fun k hk=>s8 (l:=l) (i:=l.length) (q:=br T.A e) (k:=k) hk
   have htg:=fun k hk=>yL (l:=l) (m:=m) (now:=now) (q:=br T.A e) (k:=k) hk
   have hent:oJ (dU kXY id T.A) (seen ++ [e])=some (.tuple #[kXY (br T.A e),ff (cg l l.length (br T.A e)).length 7 (T.ks (br T.A e))]):=by
    rw[Kn ((0,0),.chan none) he,List.getD_eq_getElem?_getD,c1];rfl
   refine ⟨rfl,hent,⟨rfl,S.m0,aK bZ _,fun _=>hrw⟩,?_⟩
   generalize hK:br T.A e=K at *
   obtain ⟨kx,ky⟩:=K
   have hpos:0<(atN l l.length (kx,ky)).length:=Om
   obtain ⟨j1,j2⟩:=hq 0 hpos
   obtain ⟨ok0,o1,o2,_⟩:=dOk (hz _ j1)
   have hxy:0<=kx/\kx<w/\0<=ky/\ky<h:=by
    have e1:(l.getD ((atN l l.length (kx,ky)).getD 0 0) ag).x=kx:=congrArg Prod.fst j2
    have e2:(l.getD ((atN l l.length (kx,ky)).getD 0 0) ag).y=ky:=congrArg Prod.snd j2
    obtain ⟨⟨_,_,_,b1,b2,_⟩,_⟩:=ok0
    omega
   have hpb:=s0 (w:=w) (h:=h) ⟨hxy.1,hxy.2.1⟩ ⟨hxy.2.2.1,hxy.2.2.2⟩
   have hyw:0<=ky*w:=Int.mul_nonneg hxy.2.2.1 Om
   have hcs:=hcs ⟨hxy.1,hxy.2.1⟩ ⟨hxy.2.2.1,hxy.2.2.2⟩
   dsimp only
   refine ⟨rfl,Nat.zero_le _,?_,fun _=>rfl,?_⟩
   ·repeat' first|exact trivial|exact rfl|exact ad _|refine bb ?_|refine aD ?_ ?_|exact bx _ _ _ (.inl rfl)|refine ⟨rfl,?_⟩|refine ⟨trivial,?_⟩|apply And.intro
   intro x hx
   refine aq (fun k3 =>?_) (fun k3 =>?_)
   ·have hlx:x<(atN l l.length (kx,ky)).length:=Om
    obtain ⟨n1,n2⟩:=hq x hlx
    obtain ⟨okx,_,_,o3,_⟩:=dOk (hz _ n1)
    refine ⟨Om,wv Om Om,?_⟩
    have Pq:=htg x hlx
    rw[hng x hlx]
    generalize (atN l l.length (kx,ky)).getD x 0=j at *
    have b1:=gd (own:=true) fc (qw (d:=aj) (show x<(cS l m now (kx,ky)).length by omega)) (congrArg cellC Pq)
    rw[List.length_take,Nat.min_eq_left Om]at b1
    have c3:(List.flatMap cellC (List.take x (cS l m now (kx,ky)))).length=x*8:=by rw[aK fc,List.length_take,Nat.min_eq_left Om]
    refine ⟨Om,da n1,trivial,fun H' _ _=>xv _ m now okx hm Om H',⟨Om,by decide,⟨Nat.le_refl _,Om⟩,⟨Nat.le_refl _,Nat.le_refl 8⟩,rfl⟩,rfl,ay Om,x+1,Om,Om,rfl,?_⟩
    repeat' first|exact b1|exact fw _ _|exact trivial|exact rfl|exact ad _|refine bb ?_|refine aD ?_ ?_|exact eJ Om|refine ⟨rfl,?_⟩|apply And.intro
   ·obtain rfl:x=(cS l m now (kx,ky)).length:=Om
    rw[List.take_length]
    have hwl:=d9 (Int.toNat (w*h))
    have hcl:=oM w h l m now T.A seen
    refine ⟨⟨rfl,rfl,trivial⟩,fun H' hl hd=>GY m Om hl hd.1 hd.2.1,ay Om,ay Om,Om,by rw[aK bX,hcl];omega,rfl,rfl,Nat.zero_le _,?_,fun _=>rfl,?_⟩
    ·rw[show et l m now T.A seen++ep l m now (kx,ky) 0=et l m now T.A seen from List.append_nil _]
     repeat' first|exact fg _ _|exact trivial|exact rfl|exact ad _|refine ⟨rfl,?_⟩|refine ⟨trivial,?_⟩|apply And.intro
    intro y hy
    have hoy:=hol y
    refine aq (fun k4 =>?_) (fun k4 =>?_)
    ·have hly:y<(atN l l.length (kx,ky)).length:=Om
     have htr:(bh (cS l m now (kx,ky)) (cS l m now (kx,ky)).length).length=(cS l m now (kx,ky)).length:=bY _ _
     have ho:=Pr y hly
     refine ⟨Om,wv Om Om,Om,Il Om Om,cy (pZ (fun hb =>?_) (fun hb =>?_))⟩
     ·rw[if_neg (by rw[hb];decide)]at ho
      refine ⟨ay Om,y+1,Om,Om,rfl,?_⟩
      rw[ho]
      repeat' first|exact fg _ _|exact trivial|exact rfl|exact ad _|refine ⟨rfl,?_⟩|refine ⟨trivial,?_⟩|apply And.intro
     ·rw[if_pos hb]at ho
      have e3:et l m now T.A seen++ep l m now (kx,ky) (y+1)=et l m now T.A seen++ep l m now (kx,ky) y ++ [(cg l l.length (kx,ky)).getD y 0]:=by rw[ho,List.append_assoc]
      have b1:=gd (own:=true) bZ e3 rfl
      have b2:(et l m now T.A seen++ep l m now (kx,ky) (y+1)).length=(et l m now T.A seen++ep l m now (kx,ky) y).length+1:=by rw[e3,aI];rfl
      have b3:(et l m now T.A seen++ep l m now (kx,ky) y).length<=170000:=by rw[aI];omega
      refine ⟨⟨Om,by decide,⟨Nat.le_refl _,by rw[aK bZ];omega⟩,⟨Nat.le_refl _,Nat.le_refl 1⟩,rfl⟩,rfl,ay Om,y+1,Om,Om,rfl,?_⟩
      repeat' first|exact CU b2 Om|exact fg _ _|exact trivial|exact rfl|exact ad _|refine ⟨rfl,?_⟩|refine ⟨trivial,?_⟩|refine And.intro Om ?_|apply And.intro
    ·obtain rfl:y=(cg l l.length (kx,ky)).length:=Om
     have es:bQ ((cellsS w h l m now T.A seen).flatMap cellC) (0+Int.toNat (ky*w+kx)*8) (cellC (cellAt l m now (kx,ky)))=(cellsS w h l m now T.A (seen ++ [e])).flatMap cellC:=by
      rw[Nat.zero_add,kl bX _ _ (by rw[hcl];omega),hcs]
     have e5:et l m now T.A seen++ep l m now (kx,ky) (cg l l.length (kx,ky)).length=et l m now T.A (seen ++ [e]):=by rw[Oo,hal]
     have hse:(seen ++ [e]).length<=T.A.length:=vV T.A.length _ S2.nd S2.lt
     rw[aI]at hse
     have hse:seen.length+1<=T.A.length:=hse
     refine ⟨(seen ++ [e],_),S2,by show _-(seen ++ [e]).length<_;rw[aI];show _-(seen.length+1)<_;omega,rfl,?_⟩
     dsimp only
     rw[e5]
     repeat' first|exact HS S2.fx rfl|(exact congrArg (fun q=>some (ah.cells true 8 q)) es)|exact fw _ _|exact fg _ _|exact trivial|exact rfl|exact ad _|refine ⟨rfl,?_⟩|apply And.intro
  ·have hall:∀e,e<T.A.length->e∈seen:=fun e he=>hall e (by rw[uH];exact he)
   have hla:=GX (m:=m) (now:=now) I S.nd S.lt hall
   have hca:=FX (w:=w) (h:=h) (m:=m) (now:=now) I hall
   have hle:(et l m now T.A seen).length=(ca l m now l.length).length:=by rw[<- hla];exact (List.length_mergeSort _).symm
   have hlt:=oo l m now l.length
   refine ⟨⟨rfl,trivial⟩,fun H' _ hd=>Hf Om hd.1,?_⟩
   rw[hr,hla,hca,hle,d9]
   dsimp only
   rw[show (qa w h l m now).length=Int.toNat (w*h) from bY _ _]
   repeat' first|exact fw _ _|exact fg _ _|exact trivial|exact ad _|refine ⟨rfl,?_⟩|apply And.intro
 ·have:=B6 w h now hl
  rw[mq h0]at this
  exact this
end
end Go.Proofs.YthcjliffpebjaaaGreat
namespace Go.Proofs.YthcjliffpebjaaaGreat
noncomputable section
theorem Bw(l:List Report)(i:Nat)(q:Int×Int):fo l (i+1) q=if kxy (l.getD i ag)=q then fo l i q ++ [l.getD i ag] else fo l i q:=by
 unfold fo
 rw[iv]
 by_cases e:kxy (l.getD i ag)=q
 ·rw[if_pos e,if_pos e,List.map_append];rfl
 ·rw[if_neg e,if_neg e]
theorem jZ(l:List Report)(i:Nat)(q:Int×Int):(fo l i q).length=(atN l i q).length:=List.length_map ..
theorem gR{l:List Report}{i:Nat}{q:Int×Int}{k:Nat}(h:k<(atN l i q).length):(fo l i q).getD k ag=l.getD ((atN l i q).getD k 0) ag:=by
 unfold fo
 rw[List.getD_eq_getElem?_getD,List.getElem?_map,List.getD_eq_getElem?_getD (l:=atN l i q),List.getElem?_eq_getElem h];rfl
theorem EC(l:List Report)(m:af)(now:Int)(q:Int×Int):told (fo l l.length q) m now=cS l m now q:=by
 refine ga (d:=aj) (by rw[lM,jZ]) fun k hk =>?_
 rw[jZ]at hk
 rw[yL hk,gR hk]
theorem wC{f:Nat->Int}:∀{n:Nat},(∀i,i<n->f i=0)->cj f n=0
 |0,_=>rfl
 |n+1,h=>fa (wC fun i hi=>h i Om) (h n Om)
theorem EU{w h now:Int}{l:List Report}{m:af}(ha:dx m now=0)(hu:cj (jo w h l now) l.length=0)(q:Int×Int):av (fo l l.length q) m now=0:=by
 have hz:=hC hu
 have h12:=A1 hu q
 rw[km ha (by rw[jZ];omega)]
 refine wC fun i hi =>?_
 rw[jZ]at hi
 obtain ⟨a1,a2⟩:=lk hi
 obtain ⟨z1,z2⟩:=lk (l:=l) (q:=q) (show 0<(atN l l.length q).length by omega)
 obtain ⟨ok,_,_,o3,_,o5⟩:=dOk (hz _ a1)
 have p1:=qi hi
 refine p7 ?_ ?_ ?_ ?_
 ·rw[gR hi];exact dO.2 ok
 ·rintro ⟨k,hk,e⟩
  have hk2:k<(atN l l.length q).length:=Om
  obtain ⟨b1,b2⟩:=lk hk2
  have p2:=qi hk2
  rw[gR hi,gR hk2]at e
  generalize (atN l l.length q).getD k 0=b at *
  generalize (atN l l.length q).getD i 0=a at *
  rcases Nat.lt_trichotomy b a with g|g|g
  ·exact o5 ⟨b,g,e⟩
  ·subst g;omega
  ·exact (dOk (hz _ b1)).2.2.2.2.2 ⟨a,g,e.symm⟩
 ·rw[gR hi,gR Om]
  have e1:=congrArg Prod.fst (a2.trans z2.symm)
  have e2:=congrArg Prod.snd (a2.trans z2.symm)
  exact fun g=>g.elim (fun g=>g e1) (fun g=>g e2)
 ·rw[gR hi];omega
section
variable {w h now:Int} {l:List Report} {m:af}
abbrev inW(w h:Int)(l:List Report):Prop:=∀j,j<l.length->(0<=(l.getD j ag).x/\(l.getD j ag).x<w)/\(0<=(l.getD j ag).y/\(l.getD j ag).y<h)
theorem ME(hu:cj (jo w h l now) l.length=0):inW w h l:=fun j hj=>by
 obtain ⟨⟨⟨_,_,_,b1,b2,_⟩,_⟩,o1,o2,_⟩:=dOk (hC hu j hj)
 omega
theorem zg(w:Int)(l:List Report)(m:af)(now p:Int):(kN w l m now p).length=l.length:=bY _ _
theorem pv(w:Int)(l:List Report)(m:af)(now p:Int)(q:Int×Int)(k:Nat):(va w l m now p q k).length=l.length:=bY _ _
theorem li(w h:Int)(l:List Report)(m:af)(now p:Int):(eG w h l m now p).length=Int.toNat (w*h):=bY _ _
theorem LF(hi:inW w h l):kN w l m now 0=List.replicate l.length false:=by
 refine ga (d:=false) List.length_replicate fun j hj =>?_
 obtain ⟨⟨a1,a2⟩,b1,b2⟩:=hi j hj
 have:=(s0 ⟨a1,a2⟩ ⟨b1,b2⟩).1
 rw[List.getD_eq_getElem?_getD,List.getElem?_replicate,if_pos hj,decide_eq_false (by unfold plR;omega)];rfl
theorem LE(p:Int)(q:Int×Int):va w l m now p q 0=kN w l m now p:=by
 unfold va kN
 congr 1
 funext j
 congr 1
 exact decide_eq_decide.2 ⟨fun g=>g.elim id (fun g=>by rw[List.take_zero]at g;cases g),.inl⟩
theorem GN{x y:Int}(hx:0<=x/\x<w)(hy:0<=y/\y<h)(hi:inW w h l){k:Nat}(hk:(atN l l.length (x,y)).length<=k):va w l m now (y*w+x) (x,y) k=kN w l m now (y*w+x+1):=by
 refine ga (d:=false) (zg ..) fun j hj =>?_
 show (aE _ _).getD j false=_
 rw[eP hj]
 congr 1
 rw[List.take_of_length_le hk]
 refine decide_eq_decide.2 ?_
 obtain ⟨a,b⟩:=hi j hj
 have hb:=s0 hx hy
 have e1:=sn hx hy (p:=Int.toNat (y*w+x))
 have e2:=sn a b (p:=Int.toNat (y*w+x))
 rw[sD]
 unfold plR
 constructor
 ·intro g
  by_cases q:(l.getD j ag).y*w+(l.getD j ag).x<y*w+x
  ·exact .inl q
  ·exact .inr ⟨hj,(e2.2 Om).symm.trans (e1.2 Om)⟩
 ·rintro (g|⟨_,g⟩)
  ·omega
  ·have g1:(l.getD j ag).x=x:=congrArg Prod.fst g
   have g2:(l.getD j ag).y=y:=congrArg Prod.snd g
   rw[g1,g2];omega
theorem EX{p:Int}{q:Int×Int}{k:Nat}(hk:k<(atN l l.length q).length):(va w l m now p q k).set ((atN l l.length q).getD k 0) (lv l m now ((atN l l.length q).getD k 0))=va w l m now p q (k+1):=by
 have ha:=(lk hk).1
 refine Eq.symm (ga (d:=false) (by rw[List.length_set,pv]) fun j hj =>?_)
 rw[uq (by rw[pv];exact ha),qw (d:=0) hk]
 by_cases e:j=(atN l l.length q).getD k 0
 ·rw[if_pos e,decide_eq_true (.inr (List.mem_append_right _ (List.mem_singleton.2 e))),e];rfl
 ·rw[if_neg e]
  show (aE _ _).getD j false=_
  rw[eP hj]
  congr 1
  refine decide_eq_decide.2 ⟨fun g=>g.imp id (List.mem_append_left _),fun g=>g.imp id fun g =>?_⟩
  rcases List.mem_append.1 g with g|g
  ·exact g
  ·exact absurd (List.mem_singleton.1 g) e
theorem GO(hi:inW w h l){p:Int}(hp:w*h<=p){j:Nat}(hj:j<l.length):(kN w l m now p).getD j false=lv l m now j:=by
 obtain ⟨a,b⟩:=hi j hj
 have:=(s0 a b).2
 show (aE _ _).getD j false=_
 rw[eP hj,decide_eq_true (by unfold plR;omega)];rfl
theorem Ij(w h:Int)(l:List Report)(m:af)(now:Int):eG w h l m now 0=bS (Int.toNat (w*h)):=by
 refine ga (d:=aj) List.length_replicate fun k hk =>?_
 rw[if_neg Om,bS,List.getD_eq_getElem?_getD,List.getElem?_replicate,if_pos hk];rfl
theorem AU{x y:Int}(hx:0<=x/\x<w)(hy:0<=y/\y<h):(eG w h l m now (y*w+x)).set (Int.toNat (y*w+x)) (cellAt l m now (x,y))=eG w h l m now (y*w+x+1):=by
 have hb:=s0 hx hy
 refine Eq.symm (ga (d:=aj) (by rw[List.length_set,li]) fun p hp =>?_)
 rw[uq (by rw[li];omega)]
 have key:=sn hx hy (p:=p)
 by_cases q:p=Int.toNat (y*w+x)
 ·rw[if_pos q,if_pos Om,key.2 Om]
 ·rw[if_neg q]
  show (aE _ _).getD p aj=_
  rw[eP hp]
  by_cases q2:(p:Int)<y*w+x
  ·rw[if_pos q2,if_pos Om]
  ·rw[if_neg q2,if_neg Om]
theorem Cv{p:Int}(hp:w*h<=p):eG w h l m now p=qa w h l m now:=by
 refine ga (d:=aj) (bY _ _) fun k hk =>?_
 show (aE _ _).getD k aj=_
 rw[eP hk,if_pos Om]
theorem zn(l:List Report)(m:af)(now:Int)(n:Nat):ca l m now (n+1)=if lv l m now n=true then ca l m now n ++ [(n:Int)] else ca l m now n:=by
 unfold ca
 rw[List.range_succ,List.filter_append,List.map_append]
 by_cases e:lv l m now n=true
 ·rw[if_pos e,List.filter_cons_of_pos e];rfl
 ·rw[if_neg e,List.filter_cons_of_neg e];simp
end
end
end Go.Proofs.YthcjliffpebjaaaGreat
