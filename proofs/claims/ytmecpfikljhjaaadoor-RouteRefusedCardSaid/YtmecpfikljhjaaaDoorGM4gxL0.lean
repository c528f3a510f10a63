/- What is to be shown of functions. Printed by a program. No condition. -/
import Derived.Test.YtmecpfikljhjaaaDoorGJ3gxM3
import Derived.Test.YtmecpfikljhjaaaDoorGK27xA0
import Derived.Test.YtmecpfikljhjaaaDoorGA7xJ5
import Derived.Test.YtmecpfikljhjaaaDoorCards
import Derived.Test.YtmecpfikljhjaaaDoorTie
import Derived.JoinedCond
import Derived.JoinedOf
import Derived.Lib.LaidTab
import Derived.ChangeVars
import Derived.SevenTiedAt
open Go Go.K
set_option maxRecDepth 1000000
set_option maxHeartbeats 4000000
set_option linter.unusedVariables false
set_option linter.unusedSimpArgs false
namespace Go.Proofs.YtmecpfikljhjaaaDoor
noncomputable section
attribute [local irreducible] vF
abbrev ju0:List Value:=[nI 4000,nI 8000,nI 14000,nI 24000,nI 40000,nI 90000]
abbrev jua:=ac (.cells false 0 ju0)
abbrev ju2(l:List Int):Prop:=(ac (.cells true 0 [slQ 1 2 l.length]))/\(ac (.cells true 1 (l.flatMap u8C)))/\True
abbrev jub:aa:=.cells false 0 ju0
abbrev ju1(H':Heap)(l:List Int):Prop:=H'[3]?=some (.cells true 0 [slQ 1 2 l.length]:aa)/\H'[1]?=some (.cells true 1 (l.flatMap u8C):aa)/\True
abbrev ju4(l:List Int):Int:=(List.length l:Nat)
abbrev juc(z:Int×Int)(l:List Int):Prop:=0<=z.2/\z.2<=(ju4 l)
abbrev ju7(H':Heap)(z:Int×Int):=List.set H' 4 (.cells true 0 [nI z.2]:aa)
abbrev juj:List Value:=[nI 256,pt 4,pt 3]
abbrev juh(z:Int×Int)(l:List Int):Prop:=(0<=z.1/\z.1<256)/\juc z l
abbrev ju3(r8 r9:Int×Int):List Pt×Int×Int×Int×Nat:=([(0,(200+(20*r8.1)))],0,(200+(20*r8.1)),r9.2,0)
abbrev jul:Value:=nI 0
abbrev jui:Value:=.func (.func 118) #[] #[pt 4,pt 3]
abbrev juf(x10:List Pt×Int×Int×Int×Nat)(r9:Int×Int)(l:List Int):Prop:=((x10.2.2.2.2:Nat):Int)<=(1+r9.1)/\eA x10.1 (-1) x10.2.2.2.2 x10.2.1 x10.2.2.1/\(x10.2.1<=49*((x10.2.2.2.2:Nat):Int)/\10*((x10.2.2.2.2:Nat):Int)<=x10.2.1/\0<=x10.2.2.1/\x10.2.2.1<=5300)/\0<=x10.2.2.2.1/\x10.2.2.2.1<=(ju4 l)
abbrev ju6(r11 r12:Int×Int):List Pt×Int×Int×Int×Nat:=([(0,r11.1)],0,r11.1,r12.2,0)
abbrev jug(x13:List Pt×Int×Int×Int×Nat)(r12:Int×Int)(l:List Int):Prop:=((x13.2.2.2.2:Nat):Int)<=(1+r12.1)/\eA x13.1 1 x13.2.2.2.2 x13.2.1 x13.2.2.1/\(x13.2.1<=80*((x13.2.2.2.2:Nat):Int)/\0<=x13.2.1/\0<=x13.2.2.1/\x13.2.2.1<=49+765*((x13.2.2.2.2:Nat):Int))/\0<=x13.2.2.2.1/\x13.2.2.2.1<=(ju4 l)
abbrev ju5(r14:Int×Int):List Pt×Int×Int×Int×Nat:=([(0,0)],0,0,r14.2,0)
abbrev jue(x15:List Pt×Int×Int×Int×Nat)(r14:Int×Int)(l:List Int):Prop:=((x15.2.2.2.2:Nat):Int)<=r14.1/\eA x15.1 1 x15.2.2.2.2 x15.2.1 x15.2.2.1/\(x15.2.1<=90*((x15.2.2.2.2:Nat):Int)/\0<=x15.2.1/\0<=x15.2.2.1/\x15.2.2.1<=765*((x15.2.2.2.2:Nat):Int)/\(x15.1.getD 0 zP).2=0)/\0<=x15.2.2.2.1/\x15.2.2.2.1<=(ju4 l)
def Ca(l:List Int):Prop :=
 ((jua/\(ac (.cells true 0 [nI 0]))/\ju2 l)/\(∀H':Heap,H'.length=5->(H'[0]?=some jub/\H'[4]?=some (.cells true 0 [nI 0]:aa)/\ju1 H' l)->ae prog 118 [nI 6,pt 4,pt 3] H' [4] (fun y H2 => ∃z:Int×Int,((0<=z.1/\z.1<6)/\juc z l)/\y=nI z.1/\H2=(ju7 H' z)))/\(∀r0:Int×Int,((0<=r0.1/\r0.1<6)/\0<=r0.2/\r0.2<=(ju4 l))->(nw (1+r0.1) ((jua/\(ac (.cells true 0 [nI r0.2]))/\ju2 l)/\(∀H':Heap,H'.length=5->(H'[0]?=some jub/\H'[4]?=some (.cells true 0 [nI r0.2]:aa)/\ju1 H' l)->ae prog 118 juj H' [4] (fun y H2 => ∃z:Int×Int,(juh z l)/\y=nI z.1/\H2=(ju7 H' z)))/\(∀r1:Int×Int,((0<=r1.1/\r1.1<256)/\0<=r1.2/\r1.2<=(ju4 l))->(nw (390*r1.1) (nw (100+(390*r1.1)) ((jua/\(ac (.cells true 0 [nI r1.2]))/\ju2 l)/\(∀H':Heap,H'.length=5->(H'[0]?=some jub/\H'[4]?=some (.cells true 0 [nI r1.2]:aa)/\ju1 H' l)->ae prog 118 juj H' [4] (fun y H2 => ∃z:Int×Int,(juh z l)/\y=nI z.1/\H2=(ju7 H' z)))/\(∀r2:Int×Int,((0<=r2.1/\r2.1<256)/\0<=r2.2/\r2.2<=(ju4 l))->(nw (7*r2.1) (nw (10+(7*r2.1)) ((jua/\(ac (.cells true 0 [nI r2.2]))/\ju2 l)/\(∀H':Heap,H'.length=5->(H'[0]?=some jub/\H'[4]?=some (.cells true 0 [nI r2.2]:aa)/\ju1 H' l)->ae prog 118 juj H' [4] (fun y H2 => ∃z:Int×Int,(juh z l)/\y=nI z.1/\H2=(ju7 H' z)))/\(∀r3:Int×Int,((0<=r3.1/\r3.1<256)/\0<=r3.2/\r3.2<=(ju4 l))->(nw (1900*r3.1) (nw (10+(1900*r3.1)) ((jua/\(ac (.cells true 0 [nI r3.2]))/\ju2 l)/\(∀H':Heap,H'.length=5->(H'[0]?=some jub/\H'[4]?=some (.cells true 0 [nI r3.2]:aa)/\ju1 H' l)->ae prog 118 [nI 21,pt 4,pt 3] H' [4] (fun y H2 => ∃z:Int×Int,((0<=z.1/\z.1<21)/\juc z l)/\y=nI z.1/\H2=(ju7 H' z)))/\(∀r4:Int×Int,((0<=r4.1/\r4.1<21)/\0<=r4.2/\r4.2<=(ju4 l))->((jua/\(ac (.cells true 0 [nI r4.2]))/\ju2 l)/\(∀H':Heap,H'.length=5->(H'[0]?=some jub/\H'[4]?=some (.cells true 0 [nI r4.2]:aa)/\ju1 H' l)->ae prog 118 [nI 101,pt 4,pt 3] H' [4] (fun y H2 => ∃z:Int×Int,((0<=z.1/\z.1<101)/\juc z l)/\y=nI z.1/\H2=(ju7 H' z)))/\(∀r5:Int×Int,((0<=r5.1/\r5.1<101)/\0<=r5.2/\r5.2<=(ju4 l))->((jua/\(ac (.cells true 0 [nI r5.2]))/\ju2 l)/\(∀H':Heap,H'.length=5->(H'[0]?=some jub/\H'[4]?=some (.cells true 0 [nI r5.2]:aa)/\ju1 H' l)->ae prog 118 [nI 240,pt 4,pt 3] H' [4] (fun y H2 => ∃z:Int×Int,((0<=z.1/\z.1<240)/\juc z l)/\y=nI z.1/\H2=(ju7 H' z)))/\(∀r6:Int×Int,((0<=r6.1/\r6.1<240)/\0<=r6.2/\r6.2<=(ju4 l))->(nw (2*r6.1) ((jua/\(ac (.cells true 0 [nI r6.2]))/\ju2 l)/\(∀H':Heap,H'.length=5->(H'[0]?=some jub/\H'[4]?=some (.cells true 0 [nI r6.2]:aa)/\ju1 H' l)->ae prog 118 juj H' [4] (fun y H2 => ∃z:Int×Int,(juh z l)/\y=nI z.1/\H2=(ju7 H' z)))/\(∀r7:Int×Int,((0<=r7.1/\r7.1<256)/\0<=r7.2/\r7.2<=(ju4 l))->(nw (4*r7.1) ((jua/\(ac (.cells true 0 [nI r7.2]))/\ju2 l)/\(∀H':Heap,H'.length=6->(H'[0]?=some jub/\H'[4]?=some (.cells true 0 [nI r7.2]:aa)/\ju1 H' l)->ae prog 118 juj H' [4] (fun y H2 => ∃z:Int×Int,(juh z l)/\y=nI z.1/\H2=(ju7 H' z)))/\(∀r8:Int×Int,((0<=r8.1/\r8.1<256)/\0<=r8.2/\r8.2<=(ju4 l))->(nw (20*r8.1) (nw (200+(20*r8.1)) ((jua/\(ac (.cells true 0 [nI r8.2]))/\ju2 l)/\(∀H':Heap,H'.length=7->(H'[0]?=some jub/\H'[4]?=some (.cells true 0 [nI r8.2]:aa)/\ju1 H' l)->ae prog 118 [nI 4,pt 4,pt 3] H' [4] (fun y H2 => ∃z:Int×Int,((0<=z.1/\z.1<4)/\juc z l)/\y=nI z.1/\H2=(ju7 H' z)))/\(∀r9:Int×Int,((0<=r9.1/\r9.1<4)/\0<=r9.2/\r9.2<=(ju4 l))->(nw (1+r9.1) (true=true/\((((ju3 r8 r9).2.2.2.2:Nat):Int)<=(1+r9.1)/\eA (ju3 r8 r9).1 (-1) (ju3 r8 r9).2.2.2.2 (ju3 r8 r9).2.1 (ju3 r8 r9).2.2.1/\((ju3 r8 r9).2.1<=49*(((ju3 r8 r9).2.2.2.2:Nat):Int)/\10*(((ju3 r8 r9).2.2.2.2:Nat):Int)<=(ju3 r8 r9).2.1/\0<=(ju3 r8 r9).2.2.1/\(ju3 r8 r9).2.2.1<=5300)/\0<=(ju3 r8 r9).2.2.2.1/\(ju3 r8 r9).2.2.2.1<=(ju4 l))/\(true=true/\(jul=nI (((ju3 r8 r9).2.2.2.2:Nat):Int)/\jul=nI (ju3 r8 r9).2.1/\(nI (200+(20*r8.1)):Value)=nI (ju3 r8 r9).2.2.1/\eR (pt 2)/\eR jui/\eR (pt 5)/\eR (nI (1+r9.1))/\True)/\(wkO (.cells true 0 [nI r9.2]:aa) (rno (sg 7 [(7,6)]) 3 (.cells true 0 [nI (ju3 r8 r9).2.2.2.1]:aa))/\wkO (.cells true 0 [nI (1+r0.1),nI (100+(390*r1.1)),nI (10+(7*r2.1)),nI (10+(1900*r3.1)),slN 6 1,.slice none 0 0,.slice none 0 0,nI r4.1,nI r5.1,nI (2*r6.1),nI (4*r7.1)]:aa) (rno (sg 7 [(7,6)]) 3 (.cells true 0 [nI (1+r0.1),nI (100+(390*r1.1)),nI (10+(7*r2.1)),nI (10+(1900*r3.1)),slQ 7 1 (List.length (ju3 r8 r9).1),.slice none 0 0,.slice none 0 0,nI r4.1,nI r5.1,nI (2*r6.1),nI (4*r7.1)]:aa))/\True/\True)/\((kbq 7 (.cells true 2 [nI 0,nI (200+(20*r8.1))]) (.cells true 2 (List.flatMap ptC (ju3 r8 r9).1)))/\True)/\(True))/\(∀x10:List Pt×Int×Int×Int×Nat,true=true)/\∀x10:List Pt×Int×Int×Int×Nat,(juf x10 r9 l)->(fk (decide ((((x10.2.2.2.2:Nat):Int):Int)<(1+r9.1))) (nw (x10.2.1+10) ((jua/\(ac (.cells true 0 [nI x10.2.2.2.1]))/\ju2 l)/\(∀H':Heap,H'.length=8->(H'[0]?=some jub/\H'[4]?=some (.cells true 0 [nI x10.2.2.2.1]:aa)/\ju1 H' l)->ae prog 118 [nI 40,pt 4,pt 3] H' [4] (fun y H2 => ∃z:Int×Int,((0<=z.1/\z.1<40)/\juc z l)/\y=nI z.1/\H2=(ju7 H' z)))/\(∀r11:Int×Int,((0<=r11.1/\r11.1<40)/\0<=r11.2/\r11.2<=(ju4 l))->(nw ((x10.2.1+10)+r11.1) ((jua/\(ac (.cells true 0 [nI r11.2]))/\ju2 l)/\(∀H':Heap,H'.length=8->(H'[0]?=some jub/\H'[4]?=some (.cells true 0 [nI r11.2]:aa)/\ju1 H' l)->ae prog 118 [nI 101,pt 4,pt 3] H' [4] (fun y H2 => ∃z:Int×Int,((0<=z.1/\z.1<101)/\juc z l)/\y=nI z.1/\H2=(ju7 H' z)))/\(∀r12:Int×Int,((0<=r12.1/\r12.1<101)/\0<=r12.2/\r12.2<=(ju4 l))->(nw (x10.2.2.1*r12.1) (nw (Int.tdiv (x10.2.2.1*r12.1) 100) (apq x10.1.length 16 2 (x10.1.flatMap ptC) [nI ((x10.2.1+10)+r11.1),nI (Int.tdiv (x10.2.2.1*r12.1) 100)] (nw (((x10.2.2.2.2:Nat):Int)+1) (∃gh:List Pt×Int×Int×Int×Nat,(((gh.2.2.2.2:Nat):Int)<=(1+r9.1)/\eA gh.1 (-1) gh.2.2.2.2 gh.2.1 gh.2.2.1/\(gh.2.1<=49*((gh.2.2.2.2:Nat):Int)/\10*((gh.2.2.2.2:Nat):Int)<=gh.2.1/\0<=gh.2.2.1/\gh.2.2.1<=5300)/\0<=gh.2.2.2.1/\gh.2.2.2.1<=(ju4 l))/\(Int.toNat (1+r9.1)-gh.2.2.2.2)<(Int.toNat (1+r9.1)-x10.2.2.2.2)/\true=true/\((nI (((x10.2.2.2.2:Nat):Int)+1):Value)=nI ((gh.2.2.2.2:Nat):Int)/\(nI ((x10.2.1+10)+r11.1):Value)=nI gh.2.1/\(nI (Int.tdiv (x10.2.2.1*r12.1) 100):Value)=nI gh.2.2.1/\eR (pt 2)/\eR jui/\eR (pt 5)/\eR (nI (1+r9.1))/\True)/\(wkO (.cells true 0 [nI r12.2]:aa) (rno (sg 7 [(7,9)]) 3 (.cells true 0 [nI gh.2.2.2.1]:aa))/\wkO (.cells true 0 [nI (1+r0.1),nI (100+(390*r1.1)),nI (10+(7*r2.1)),nI (10+(1900*r3.1)),slN 9 (x10.1.length+1),.slice none 0 0,.slice none 0 0,nI r4.1,nI r5.1,nI (2*r6.1),nI (4*r7.1)]:aa) (rno (sg 7 [(7,9)]) 3 (.cells true 0 [nI (1+r0.1),nI (100+(390*r1.1)),nI (10+(7*r2.1)),nI (10+(1900*r3.1)),slQ 7 1 gh.1.length,.slice none 0 0,.slice none 0 0,nI r4.1,nI r5.1,nI (2*r6.1),nI (4*r7.1)]:aa))/\True/\True)/\((kbq 7 (.cells true 2 ((((x10.1.flatMap ptC).drop 0).take (x10.1.length*2))++((([nI ((x10.2.1+10)+r11.1),nI (Int.tdiv (x10.2.2.1*r12.1) 100)]:List Value).drop 0).take (1*2)))) (.cells true 2 (gh.1.flatMap ptC)))/\True)/\(True)))))))))))) ((jua/\(ac (.cells true 0 [nI x10.2.2.2.1]))/\ju2 l)/\(∀H':Heap,H'.length=8->(H'[0]?=some jub/\H'[4]?=some (.cells true 0 [nI x10.2.2.2.1]:aa)/\ju1 H' l)->ae prog 118 [nI 50,pt 4,pt 3] H' [4] (fun y H2 => ∃z:Int×Int,((0<=z.1/\z.1<50)/\juc z l)/\y=nI z.1/\H2=(ju7 H' z)))/\(∀r11:Int×Int,((0<=r11.1/\r11.1<50)/\0<=r11.2/\r11.2<=(ju4 l))->((jua/\(ac (.cells true 0 [nI r11.2]))/\ju2 l)/\(∀H':Heap,H'.length=9->(H'[0]?=some jub/\H'[4]?=some (.cells true 0 [nI r11.2]:aa)/\ju1 H' l)->ae prog 118 [nI 3,pt 4,pt 3] H' [4] (fun y H2 => ∃z:Int×Int,((0<=z.1/\z.1<3)/\juc z l)/\y=nI z.1/\H2=(ju7 H' z)))/\(∀r12:Int×Int,((0<=r12.1/\r12.1<3)/\0<=r12.2/\r12.2<=(ju4 l))->(nw (1+r12.1) (true=true/\((((ju6 r11 r12).2.2.2.2:Nat):Int)<=(1+r12.1)/\eA (ju6 r11 r12).1 1 (ju6 r11 r12).2.2.2.2 (ju6 r11 r12).2.1 (ju6 r11 r12).2.2.1/\((ju6 r11 r12).2.1<=80*(((ju6 r11 r12).2.2.2.2:Nat):Int)/\0<=(ju6 r11 r12).2.1/\0<=(ju6 r11 r12).2.2.1/\(ju6 r11 r12).2.2.1<=49+765*(((ju6 r11 r12).2.2.2.2:Nat):Int))/\0<=(ju6 r11 r12).2.2.2.1/\(ju6 r11 r12).2.2.2.1<=(ju4 l))/\(true=true/\(jul=nI (((ju6 r11 r12).2.2.2.2:Nat):Int)/\jul=nI (ju6 r11 r12).2.1/\(nI r11.1:Value)=nI (ju6 r11 r12).2.2.1/\eR (pt 5)/\eR jui/\eR (pt 2)/\eR (nI (1+r12.1))/\True)/\(wkO (.cells true 0 [nI r12.2]:aa) (rno (sg 9 [(9,8)]) 3 (.cells true 0 [nI (ju6 r11 r12).2.2.2.1]:aa))/\wkO (.cells true 0 [nI (1+r0.1),nI (100+(390*r1.1)),nI (10+(7*r2.1)),nI (10+(1900*r3.1)),slQ 7 1 x10.1.length,slN 8 1,.slice none 0 0,nI r4.1,nI r5.1,nI (2*r6.1),nI (4*r7.1)]:aa) (rno (sg 9 [(9,8)]) 3 (.cells true 0 [nI (1+r0.1),nI (100+(390*r1.1)),nI (10+(7*r2.1)),nI (10+(1900*r3.1)),slQ 7 1 x10.1.length,slQ 9 1 (List.length (ju6 r11 r12).1),.slice none 0 0,nI r4.1,nI r5.1,nI (2*r6.1),nI (4*r7.1)]:aa))/\True/\True)/\((kbq 9 (.cells true 2 [nI 0,nI r11.1]) (.cells true 2 (List.flatMap ptC (ju6 r11 r12).1)))/\True)/\(True))/\(∀x13:List Pt×Int×Int×Int×Nat,true=true)/\∀x13:List Pt×Int×Int×Int×Nat,(jug x13 r12 l)->(fk (decide ((((x13.2.2.2.2:Nat):Int):Int)<(1+r12.1))) (nw (x13.2.1+1) ((jua/\(ac (.cells true 0 [nI x13.2.2.2.1]))/\ju2 l)/\(∀H':Heap,H'.length=10->(H'[0]?=some jub/\H'[4]?=some (.cells true 0 [nI x13.2.2.2.1]:aa)/\ju1 H' l)->ae prog 118 [nI 80,pt 4,pt 3] H' [4] (fun y H2 => ∃z:Int×Int,((0<=z.1/\z.1<80)/\juc z l)/\y=nI z.1/\H2=(ju7 H' z)))/\(∀r14:Int×Int,((0<=r14.1/\r14.1<80)/\0<=r14.2/\r14.2<=(ju4 l))->(nw ((x13.2.1+1)+r14.1) ((jua/\(ac (.cells true 0 [nI r14.2]))/\ju2 l)/\(∀H':Heap,H'.length=10->(H'[0]?=some jub/\H'[4]?=some (.cells true 0 [nI r14.2]:aa)/\ju1 H' l)->ae prog 118 juj H' [4] (fun y H2 => ∃z:Int×Int,(juh z l)/\y=nI z.1/\H2=(ju7 H' z)))/\(∀r15:Int×Int,((0<=r15.1/\r15.1<256)/\0<=r15.2/\r15.2<=(ju4 l))->(nw (3*r15.1) (nw (x13.2.2.1+(3*r15.1)) (apq x13.1.length 16 2 (x13.1.flatMap ptC) [nI ((x13.2.1+1)+r14.1),nI (x13.2.2.1+(3*r15.1))] (nw (((x13.2.2.2.2:Nat):Int)+1) (∃gg:List Pt×Int×Int×Int×Nat,(((gg.2.2.2.2:Nat):Int)<=(1+r12.1)/\eA gg.1 1 gg.2.2.2.2 gg.2.1 gg.2.2.1/\(gg.2.1<=80*((gg.2.2.2.2:Nat):Int)/\0<=gg.2.1/\0<=gg.2.2.1/\gg.2.2.1<=49+765*((gg.2.2.2.2:Nat):Int))/\0<=gg.2.2.2.1/\gg.2.2.2.1<=(ju4 l))/\(Int.toNat (1+r12.1)-gg.2.2.2.2)<(Int.toNat (1+r12.1)-x13.2.2.2.2)/\true=true/\((nI (((x13.2.2.2.2:Nat):Int)+1):Value)=nI ((gg.2.2.2.2:Nat):Int)/\(nI ((x13.2.1+1)+r14.1):Value)=nI gg.2.1/\(nI (x13.2.2.1+(3*r15.1)):Value)=nI gg.2.2.1/\eR (pt 5)/\eR jui/\eR (pt 2)/\eR (nI (1+r12.1))/\True)/\(wkO (.cells true 0 [nI r15.2]:aa) (rno (sg 9 [(9,11)]) 3 (.cells true 0 [nI gg.2.2.2.1]:aa))/\wkO (.cells true 0 [nI (1+r0.1),nI (100+(390*r1.1)),nI (10+(7*r2.1)),nI (10+(1900*r3.1)),slQ 7 1 x10.1.length,slN 11 (x13.1.length+1),.slice none 0 0,nI r4.1,nI r5.1,nI (2*r6.1),nI (4*r7.1)]:aa) (rno (sg 9 [(9,11)]) 3 (.cells true 0 [nI (1+r0.1),nI (100+(390*r1.1)),nI (10+(7*r2.1)),nI (10+(1900*r3.1)),slQ 7 1 x10.1.length,slQ 9 1 gg.1.length,.slice none 0 0,nI r4.1,nI r5.1,nI (2*r6.1),nI (4*r7.1)]:aa))/\True/\True)/\((kbq 9 (.cells true 2 ((((x13.1.flatMap ptC).drop 0).take (x13.1.length*2))++((([nI ((x13.2.1+1)+r14.1),nI (x13.2.2.1+(3*r15.1))]:List Value).drop 0).take (1*2)))) (.cells true 2 (gg.1.flatMap ptC)))/\True)/\(True)))))))))))) ((jua/\(ac (.cells true 0 [nI x13.2.2.2.1]))/\ju2 l)/\(∀H':Heap,H'.length=11->(H'[0]?=some jub/\H'[4]?=some (.cells true 0 [nI x13.2.2.2.1]:aa)/\ju1 H' l)->ae prog 118 [nI 4,pt 4,pt 3] H' [4] (fun y H2 => ∃z:Int×Int,((0<=z.1/\z.1<4)/\juc z l)/\y=nI z.1/\H2=(ju7 H' z)))/\(∀r14:Int×Int,((0<=r14.1/\r14.1<4)/\0<=r14.2/\r14.2<=(ju4 l))->(true=true/\((((ju5 r14).2.2.2.2:Nat):Int)<=r14.1/\eA (ju5 r14).1 1 (ju5 r14).2.2.2.2 (ju5 r14).2.1 (ju5 r14).2.2.1/\((ju5 r14).2.1<=90*(((ju5 r14).2.2.2.2:Nat):Int)/\0<=(ju5 r14).2.1/\0<=(ju5 r14).2.2.1/\(ju5 r14).2.2.1<=765*(((ju5 r14).2.2.2.2:Nat):Int)/\(List.getD (ju5 r14).1 0 zP).2=0)/\0<=(ju5 r14).2.2.2.1/\(ju5 r14).2.2.2.1<=(ju4 l))/\(true=true/\(jul=nI (((ju5 r14).2.2.2.2:Nat):Int)/\jul=nI (ju5 r14).2.1/\jul=nI (ju5 r14).2.2.1/\eR (pt 2)/\eR jui/\eR (pt 5)/\eR (nI r14.1)/\True)/\(wkO (.cells true 0 [nI r14.2]:aa) (rno (sg 11 [(11,10)]) 3 (.cells true 0 [nI (ju5 r14).2.2.2.1]:aa))/\wkO (.cells true 0 [nI (1+r0.1),nI (100+(390*r1.1)),nI (10+(7*r2.1)),nI (10+(1900*r3.1)),slQ 7 1 x10.1.length,slQ 9 1 x13.1.length,slN 10 1,nI r4.1,nI r5.1,nI (2*r6.1),nI (4*r7.1)]:aa) (rno (sg 11 [(11,10)]) 3 (.cells true 0 [nI (1+r0.1),nI (100+(390*r1.1)),nI (10+(7*r2.1)),nI (10+(1900*r3.1)),slQ 7 1 x10.1.length,slQ 9 1 x13.1.length,slQ 11 1 (List.length (ju5 r14).1),nI r4.1,nI r5.1,nI (2*r6.1),nI (4*r7.1)]:aa))/\True/\True)/\((kbq 11 (.cells true 2 [nI 0,nI 0]) (.cells true 2 (List.flatMap ptC (ju5 r14).1)))/\True)/\(True))/\(∀x15:List Pt×Int×Int×Int×Nat,true=true)/\∀x15:List Pt×Int×Int×Int×Nat,(jue x15 r14 l)->(fk (decide ((((x15.2.2.2.2:Nat):Int):Int)<r14.1)) (nw (x15.2.1+1) ((jua/\(ac (.cells true 0 [nI x15.2.2.2.1]))/\ju2 l)/\(∀H':Heap,H'.length=12->(H'[0]?=some jub/\H'[4]?=some (.cells true 0 [nI x15.2.2.2.1]:aa)/\ju1 H' l)->ae prog 118 [nI 90,pt 4,pt 3] H' [4] (fun y H2 => ∃z:Int×Int,((0<=z.1/\z.1<90)/\juc z l)/\y=nI z.1/\H2=(ju7 H' z)))/\(∀r16:Int×Int,((0<=r16.1/\r16.1<90)/\0<=r16.2/\r16.2<=(ju4 l))->(nw ((x15.2.1+1)+r16.1) ((jua/\(ac (.cells true 0 [nI r16.2]))/\ju2 l)/\(∀H':Heap,H'.length=12->(H'[0]?=some jub/\H'[4]?=some (.cells true 0 [nI r16.2]:aa)/\ju1 H' l)->ae prog 118 juj H' [4] (fun y H2 => ∃z:Int×Int,(juh z l)/\y=nI z.1/\H2=(ju7 H' z)))/\(∀r17:Int×Int,((0<=r17.1/\r17.1<256)/\0<=r17.2/\r17.2<=(ju4 l))->(nw (3*r17.1) (nw (x15.2.2.1+(3*r17.1)) (apq x15.1.length 16 2 (x15.1.flatMap ptC) [nI ((x15.2.1+1)+r16.1),nI (x15.2.2.1+(3*r17.1))] (nw (((x15.2.2.2.2:Nat):Int)+1) (∃f4:List Pt×Int×Int×Int×Nat,(((f4.2.2.2.2:Nat):Int)<=r14.1/\eA f4.1 1 f4.2.2.2.2 f4.2.1 f4.2.2.1/\(f4.2.1<=90*((f4.2.2.2.2:Nat):Int)/\0<=f4.2.1/\0<=f4.2.2.1/\f4.2.2.1<=765*((f4.2.2.2.2:Nat):Int)/\(f4.1.getD 0 zP).2=0)/\0<=f4.2.2.2.1/\f4.2.2.2.1<=(ju4 l))/\(Int.toNat r14.1-f4.2.2.2.2)<(Int.toNat r14.1-x15.2.2.2.2)/\true=true/\((nI (((x15.2.2.2.2:Nat):Int)+1):Value)=nI ((f4.2.2.2.2:Nat):Int)/\(nI ((x15.2.1+1)+r16.1):Value)=nI f4.2.1/\(nI (x15.2.2.1+(3*r17.1)):Value)=nI f4.2.2.1/\eR (pt 2)/\eR jui/\eR (pt 5)/\eR (nI r14.1)/\True)/\(wkO (.cells true 0 [nI r17.2]:aa) (rno (sg 11 [(11,13)]) 3 (.cells true 0 [nI f4.2.2.2.1]:aa))/\wkO (.cells true 0 [nI (1+r0.1),nI (100+(390*r1.1)),nI (10+(7*r2.1)),nI (10+(1900*r3.1)),slQ 7 1 x10.1.length,slQ 9 1 x13.1.length,slN 13 (x15.1.length+1),nI r4.1,nI r5.1,nI (2*r6.1),nI (4*r7.1)]:aa) (rno (sg 11 [(11,13)]) 3 (.cells true 0 [nI (1+r0.1),nI (100+(390*r1.1)),nI (10+(7*r2.1)),nI (10+(1900*r3.1)),slQ 7 1 x10.1.length,slQ 9 1 x13.1.length,slQ 11 1 f4.1.length,nI r4.1,nI r5.1,nI (2*r6.1),nI (4*r7.1)]:aa))/\True/\True)/\((kbq 11 (.cells true 2 ((((x15.1.flatMap ptC).drop 0).take (x15.1.length*2))++((([nI ((x15.2.1+1)+r16.1),nI (x15.2.2.1+(3*r17.1))]:List Value).drop 0).take (1*2)))) (.cells true 2 (f4.1.flatMap ptC)))/\True)/\(True)))))))))))) ((jua/\(ac (.cells true 0 [nI x15.2.2.2.1]))/\ju2 l)/\(∀H':Heap,H'.length=12->(H'[0]?=some jub/\H'[4]?=some (.cells true 0 [nI x15.2.2.2.1]:aa)/\ju1 H' l)->ae prog 118 juj H' [4] (fun y H2 => ∃z:Int×Int,(juh z l)/\y=nI z.1/\H2=(ju7 H' z)))/\(∀r16:Int×Int,((0<=r16.1/\r16.1<256)/\0<=r16.2/\r16.2<=(ju4 l))->(nw (4*r16.1) (nw (x15.2.2.1+(4*r16.1)) (apq x15.1.length 16 2 (x15.1.flatMap ptC) [nI 400,nI (x15.2.2.1+(4*r16.1))] (∃x:Shp,(aZ x=0)/\(true=true/\wk (.agg #[nI (1+r0.1),nI (100+(390*r1.1)),nI (10+(7*r2.1)),nI (10+(1900*r3.1)),slQ 7 1 x10.1.length,slQ 9 1 x13.1.length,slN 13 (x15.1.length+1),nI r4.1,nI r5.1,nI (2*r6.1),nI (4*r7.1)]:Value) (rn (sg 2 [(2,7),(3,9),(4,13)]) 3 (.agg #[nI x.cls,nI x.pow,nI x.dra,nI x.ton,slQ 2 1 x.th.length,slQ 3 1 x.wa.length,slQ 4 1 x.ic.length,nI x.slow,nI x.aB,nI x.rdg,nI x.prs]:Value))/\(True)/\((kbq 2 (.cells true 2 (x10.1.flatMap ptC)) (.cells true 2 (x.th.flatMap ptC)))/\(kbq 2 (.cells true 2 (x13.1.flatMap ptC)) (.cells true 2 (x.wa.flatMap ptC)))/\(kbq 2 (.cells true 2 ((((x15.1.flatMap ptC).drop 0).take (x15.1.length*2))++((([nI 400,nI (x15.2.2.1+(4*r16.1))]:List Value).drop 0).take (1*2)))) (.cells true 2 (x.ic.flatMap ptC)))/\True)))))))))))))))))))))))))))))))))))))))))))))))))))))
abbrev jud:Nat×aa:=(0,.cells false 0 ju0)
abbrev ju8(l:List Int):Nat×aa:=(3,.cells true 0 [slQ 1 2 l.length])
abbrev ju9(l:List Int):Nat×aa:=(1,.cells true 1 (l.flatMap u8C))
abbrev juk:=List Pt×Int×Int×Int×Nat
theorem GK(l:List Int):vF prog msk (dm 0) 100000 true 40 true 66 [slQ 1 2 l.length] (aI [.cells false 0 ju0,.cells true 1 (l.flatMap u8C)]) (some [])
 (.go 10 (.cx [jud,(4,.cells true 0 [nI 0]),(ju8 l),(ju9 l)] [4] (Int×Int) (fun r0=>((0<=r0.1/\r0.1<6)/\0<=r0.2/\r0.2<=(ju4 l))) (fun r0=>nI r0.1) (fun r0=>[(4,.cells true 0 [nI r0.2])]) (fun r0=>[]) (fun r0 => .go 0 (.slot 11 (nI (1+r0.1)) (.go 0 (.cx [jud,(4,.cells true 0 [nI r0.2]),(ju8 l),(ju9 l)] [4] (Int×Int) (fun r1=>((0<=r1.1/\r1.1<256)/\0<=r1.2/\r1.2<=(ju4 l))) (fun r1=>nI r1.1) (fun r1=>[(4,.cells true 0 [nI r1.2])]) (fun r1=>[]) (fun r1 => .go 0 (.slot 14 (nI (390*r1.1)) (.go 0 (.slot 15 (nI (100+(390*r1.1))) (.go 0 (.cx [jud,(4,.cells true 0 [nI r1.2]),(ju8 l),(ju9 l)] [4] (Int×Int) (fun r2=>((0<=r2.1/\r2.1<256)/\0<=r2.2/\r2.2<=(ju4 l))) (fun r2=>nI r2.1) (fun r2=>[(4,.cells true 0 [nI r2.2])]) (fun r2=>[]) (fun r2 => .go 0 (.slot 18 (nI (7*r2.1)) (.go 0 (.slot 19 (nI (10+(7*r2.1))) (.go 0 (.cx [jud,(4,.cells true 0 [nI r2.2]),(ju8 l),(ju9 l)] [4] (Int×Int) (fun r3=>((0<=r3.1/\r3.1<256)/\0<=r3.2/\r3.2<=(ju4 l))) (fun r3=>nI r3.1) (fun r3=>[(4,.cells true 0 [nI r3.2])]) (fun r3=>[]) (fun r3 => .go 0 (.slot 22 (nI (1900*r3.1)) (.go 0 (.slot 23 (nI (10+(1900*r3.1))) (.go 0 (.cx [jud,(4,.cells true 0 [nI r3.2]),(ju8 l),(ju9 l)] [4] (Int×Int) (fun r4=>((0<=r4.1/\r4.1<21)/\0<=r4.2/\r4.2<=(ju4 l))) (fun r4=>nI r4.1) (fun r4=>[(4,.cells true 0 [nI r4.2])]) (fun r4=>[]) (fun r4 => .go 0 (.cx [jud,(4,.cells true 0 [nI r4.2]),(ju8 l),(ju9 l)] [4] (Int×Int) (fun r5=>((0<=r5.1/\r5.1<101)/\0<=r5.2/\r5.2<=(ju4 l))) (fun r5=>nI r5.1) (fun r5=>[(4,.cells true 0 [nI r5.2])]) (fun r5=>[]) (fun r5 => .go 0 (.cx [jud,(4,.cells true 0 [nI r5.2]),(ju8 l),(ju9 l)] [4] (Int×Int) (fun r6=>((0<=r6.1/\r6.1<240)/\0<=r6.2/\r6.2<=(ju4 l))) (fun r6=>nI r6.1) (fun r6=>[(4,.cells true 0 [nI r6.2])]) (fun r6=>[]) (fun r6 => .go 0 (.slot 30 (nI (2*r6.1)) (.go 0 (.cx [jud,(4,.cells true 0 [nI r6.2]),(ju8 l),(ju9 l)] [4] (Int×Int) (fun r7=>((0<=r7.1/\r7.1<256)/\0<=r7.2/\r7.2<=(ju4 l))) (fun r7=>nI r7.1) (fun r7=>[(4,.cells true 0 [nI r7.2])]) (fun r7=>[]) (fun r7 => .go 0 (.slot 33 (nI (4*r7.1)) (.go 3 (.cx [jud,(4,.cells true 0 [nI r7.2]),(ju8 l),(ju9 l)] [4] (Int×Int) (fun r8=>((0<=r8.1/\r8.1<256)/\0<=r8.2/\r8.2<=(ju4 l))) (fun r8=>nI r8.1) (fun r8=>[(4,.cells true 0 [nI r8.2])]) (fun r8=>[]) (fun r8 => .go 0 (.slot 37 (nI (20*r8.1)) (.go 0 (.slot 38 (nI (200+(20*r8.1))) (.go 7 (.cx [jud,(4,.cells true 0 [nI r8.2]),(ju8 l),(ju9 l)] [4] (Int×Int) (fun r9=>((0<=r9.1/\r9.1<4)/\0<=r9.2/\r9.2<=(ju4 l))) (fun r9=>nI r9.1) (fun r9=>[(4,.cells true 0 [nI r9.2])]) (fun r9=>[]) (fun r9 => .go 0 (.slot 45 (nI (1+r9.1)) (.go 0 (.inv 3 juk ((ju3 r8 r9)) [(7,6)] [4,5,6] (fun x10=>[(46,nI ((x10.2.2.2.2:Nat):Int)),(5,nI x10.2.1),(6,nI x10.2.2.1),(2,pt 2),(3,.func (.func 118) #[] #[pt 4,pt 3]),(4,pt 5),(45,nI (1+r9.1))]) (fun x10=>[(4,false,.cells true 0 [nI x10.2.2.2.1]),(5,false,.cells true 0 [nI (1+r0.1),nI (100+(390*r1.1)),nI (10+(7*r2.1)),nI (10+(1900*r3.1)),slQ 7 1 x10.1.length,.slice none 0 0,.slice none 0 0,nI r4.1,nI r5.1,nI (2*r6.1),nI (4*r7.1)]),(6,false,.dead)]) (fun x10=>[(true,.cells true 2 (x10.1.flatMap ptC))]) (fun x10=>[]) (fun x10=>(juf x10 r9 l)) (fun x10=>(Int.toNat (1+r9.1)-x10.2.2.2.2)) (fun x10 => .go 0 (.fork (.go 1 (.slot 49 (nI (x10.2.1+10)) (.go 0 (.cx [jud,(4,.cells true 0 [nI x10.2.2.2.1]),(ju8 l),(ju9 l)] [4] (Int×Int) (fun r11=>((0<=r11.1/\r11.1<40)/\0<=r11.2/\r11.2<=(ju4 l))) (fun r11=>nI r11.1) (fun r11=>[(4,.cells true 0 [nI r11.2])]) (fun r11=>[]) (fun r11 => .go 0 (.slot 52 (nI ((x10.2.1+10)+r11.1)) (.go 1 (.cx [jud,(4,.cells true 0 [nI r11.2]),(ju8 l),(ju9 l)] [4] (Int×Int) (fun r12=>((0<=r12.1/\r12.1<101)/\0<=r12.2/\r12.2<=(ju4 l))) (fun r12=>nI r12.1) (fun r12=>[(4,.cells true 0 [nI r12.2])]) (fun r12=>[]) (fun r12 => .go 0 (.slot 56 (nI (x10.2.2.1*r12.1)) (.go 0 (.slot 57 (nI (Int.tdiv (x10.2.2.1*r12.1) 100)) (.go 7 (.need (.go 2 (.slot 66 (nI (((x10.2.2.2.2:Nat):Int)+1)) (.go 0 (.again [(7,9)])))))))))))))))))) (.go 0 (.cx [jud,(4,.cells true 0 [nI x10.2.2.2.1]),(ju8 l),(ju9 l)] [4] (Int×Int) (fun r11=>((0<=r11.1/\r11.1<50)/\0<=r11.2/\r11.2<=(ju4 l))) (fun r11=>nI r11.1) (fun r11=>[(4,.cells true 0 [nI r11.2])]) (fun r11=>[]) (fun r11 => .go 7 (.cx [jud,(4,.cells true 0 [nI r11.2]),(ju8 l),(ju9 l)] [4] (Int×Int) (fun r12=>((0<=r12.1/\r12.1<3)/\0<=r12.2/\r12.2<=(ju4 l))) (fun r12=>nI r12.1) (fun r12=>[(4,.cells true 0 [nI r12.2])]) (fun r12=>[]) (fun r12 => .go 0 (.slot 75 (nI (1+r12.1)) (.go 0 (.inv 3 juk ((ju6 r11 r12)) [(9,8)] [4,5,8] (fun x13=>[(76,nI ((x13.2.2.2.2:Nat):Int)),(5,nI x13.2.1),(6,nI x13.2.2.1),(4,pt 5),(3,.func (.func 118) #[] #[pt 4,pt 3]),(2,pt 2),(75,nI (1+r12.1))]) (fun x13=>[(4,false,.cells true 0 [nI x13.2.2.2.1]),(5,false,.cells true 0 [nI (1+r0.1),nI (100+(390*r1.1)),nI (10+(7*r2.1)),nI (10+(1900*r3.1)),slQ 7 1 x10.1.length,slQ 9 1 x13.1.length,.slice none 0 0,nI r4.1,nI r5.1,nI (2*r6.1),nI (4*r7.1)]),(8,false,.dead)]) (fun x13=>[(true,.cells true 2 (x13.1.flatMap ptC))]) (fun x13=>[]) (fun x13=>(jug x13 r12 l)) (fun x13=>(Int.toNat (1+r12.1)-x13.2.2.2.2)) (fun x13 => .go 0 (.fork (.go 1 (.slot 79 (nI (x13.2.1+1)) (.go 0 (.cx [jud,(4,.cells true 0 [nI x13.2.2.2.1]),(ju8 l),(ju9 l)] [4] (Int×Int) (fun r14=>((0<=r14.1/\r14.1<80)/\0<=r14.2/\r14.2<=(ju4 l))) (fun r14=>nI r14.1) (fun r14=>[(4,.cells true 0 [nI r14.2])]) (fun r14=>[]) (fun r14 => .go 0 (.slot 82 (nI ((x13.2.1+1)+r14.1)) (.go 1 (.cx [jud,(4,.cells true 0 [nI r14.2]),(ju8 l),(ju9 l)] [4] (Int×Int) (fun r15=>((0<=r15.1/\r15.1<256)/\0<=r15.2/\r15.2<=(ju4 l))) (fun r15=>nI r15.1) (fun r15=>[(4,.cells true 0 [nI r15.2])]) (fun r15=>[]) (fun r15 => .go 0 (.slot 86 (nI (3*r15.1)) (.go 0 (.slot 87 (nI (x13.2.2.1+(3*r15.1))) (.go 7 (.need (.go 2 (.slot 96 (nI (((x13.2.2.2.2:Nat):Int)+1)) (.go 0 (.again [(9,11)])))))))))))))))))) (.go 6 (.cx [jud,(4,.cells true 0 [nI x13.2.2.2.1]),(ju8 l),(ju9 l)] [4] (Int×Int) (fun r14=>((0<=r14.1/\r14.1<4)/\0<=r14.2/\r14.2<=(ju4 l))) (fun r14=>nI r14.1) (fun r14=>[(4,.cells true 0 [nI r14.2])]) (fun r14=>[]) (fun r14 => .go 0 (.inv 3 juk ((ju5 r14)) [(11,10)] [4,5,10] (fun x15=>[(102,nI ((x15.2.2.2.2:Nat):Int)),(5,nI x15.2.1),(6,nI x15.2.2.1),(2,pt 2),(3,.func (.func 118) #[] #[pt 4,pt 3]),(4,pt 5),(101,nI r14.1)]) (fun x15=>[(4,false,.cells true 0 [nI x15.2.2.2.1]),(5,false,.cells true 0 [nI (1+r0.1),nI (100+(390*r1.1)),nI (10+(7*r2.1)),nI (10+(1900*r3.1)),slQ 7 1 x10.1.length,slQ 9 1 x13.1.length,slQ 11 1 x15.1.length,nI r4.1,nI r5.1,nI (2*r6.1),nI (4*r7.1)]),(10,false,.dead)]) (fun x15=>[(true,.cells true 2 (x15.1.flatMap ptC))]) (fun x15=>[]) (fun x15=>(jue x15 r14 l)) (fun x15=>(Int.toNat r14.1-x15.2.2.2.2)) (fun x15 => .go 0 (.fork (.go 1 (.slot 105 (nI (x15.2.1+1)) (.go 0 (.cx [jud,(4,.cells true 0 [nI x15.2.2.2.1]),(ju8 l),(ju9 l)] [4] (Int×Int) (fun r16=>((0<=r16.1/\r16.1<90)/\0<=r16.2/\r16.2<=(ju4 l))) (fun r16=>nI r16.1) (fun r16=>[(4,.cells true 0 [nI r16.2])]) (fun r16=>[]) (fun r16 => .go 0 (.slot 108 (nI ((x15.2.1+1)+r16.1)) (.go 1 (.cx [jud,(4,.cells true 0 [nI r16.2]),(ju8 l),(ju9 l)] [4] (Int×Int) (fun r17=>((0<=r17.1/\r17.1<256)/\0<=r17.2/\r17.2<=(ju4 l))) (fun r17=>nI r17.1) (fun r17=>[(4,.cells true 0 [nI r17.2])]) (fun r17=>[]) (fun r17 => .go 0 (.slot 112 (nI (3*r17.1)) (.go 0 (.slot 113 (nI (x15.2.2.1+(3*r17.1))) (.go 7 (.need (.go 2 (.slot 122 (nI (((x15.2.2.2.2:Nat):Int)+1)) (.go 0 (.again [(11,13)])))))))))))))))))) (.go 3 (.cx [jud,(4,.cells true 0 [nI x15.2.2.2.1]),(ju8 l),(ju9 l)] [4] (Int×Int) (fun r16=>((0<=r16.1/\r16.1<256)/\0<=r16.2/\r16.2<=(ju4 l))) (fun r16=>nI r16.1) (fun r16=>[(4,.cells true 0 [nI r16.2])]) (fun r16=>[]) (fun r16 => .go 0 (.slot 128 (nI (4*r16.1)) (.go 0 (.slot 129 (nI (x15.2.2.1+(4*r16.1))) (.go 1 (.need (.go 3 (.again [(2,7),(3,9),(4,13)]))))))))))))))))))))))))))))))))))))))))))))))))))))))))))))))))))))))))))
 (dh (α:=Shp) ((aI [.cells false 0 ju0,.cells true 1 (l.flatMap u8C)]):HT).n 3 [] (fun x=>(aZ x=0)) (fun x => .agg #[nI x.cls,nI x.pow,nI x.dra,nI x.ton,slQ 2 1 x.th.length,slQ 3 1 x.wa.length,slQ 4 1 x.ic.length,nI x.slow,nI x.aB,nI x.rdg,nI x.prs]) (fun x=>[]) (fun x=>[(true,.cells true 2 (x.th.flatMap ptC)),(true,.cells true 2 (x.wa.flatMap ptC)),(true,.cells true 2 (x.ic.flatMap ptC))]))=Ca l:=by kernel_rfl
theorem lQ{s:Shp}(h1:1<=s.cls/\s.cls<=6)(h2:100<=s.pow/\s.pow<=100000)(h3:10<=s.dra/\s.dra<=2000)(h4:10<=s.ton/\s.ton<=500000)(h5:0<=s.slow/\s.slow<=20)(h6:0<=s.aB/\s.aB<=100)(h7:0<=s.rdg/\s.rdg<=500)(h8:0<=s.prs/\s.prs<=5000)
  (t1:cR s.th (-1)=true) (t2:10<=dc s.th/\dc s.th<=250) (w1:cR s.wa 1=true) (w2:dc s.wa<=250) (i1:cR s.ic 1=true) (i2:(s.ic.getD 0 zP).2=0) (i3:dc s.ic=400):aZ s=0:=by
 unfold aZ
 rw[bc.2 h1,bc.2 h2,bc.2 h3,bc.2 h4,bc.2 h5,bc.2 h6,bc.2 h7,bc.2 h8,t1,bc.2 t2,w1,decide_eq_true w2,i1,i2,i3]
 rfl
theorem cb(n:Nat)(l:List Pt):(l.flatMap ptC).all (aj n)=true:=dz (fun _=>rfl) l
theorem FE{y r:Int}(hy:0<=y)(hr:0<=r/\r<=100):0<=Int.tdiv (y*r) 100/\Int.tdiv (y*r) 100<=y:=by
 have h0:=Int.mul_nonneg hy hr.1
 have h1:y*r<=y*100:=Int.mul_le_mul_of_nonneg_left hr.2 hy
 rw[Int.tdiv_eq_ediv_of_nonneg h0]
 omega
abbrev ym(s:Shp)(i j k:Nat):Value:=.agg #[nI s.cls,nI s.pow,nI s.dra,nI s.ton,slQ i 1 s.th.length,slQ j 1 s.wa.length,slQ k 1 s.ic.length,nI s.slow,nI s.aB,nI s.rdg,nI s.prs]
set_option maxHeartbeats 1000000 in
theorem FQ{l:List Int}(hb:rh l)(hl1:l.length<=1000000){H:Heap}{Y:Nat}(hY:Y≠0)(h0:H[0]?=some bF)(h1:H[Y]?=some (.cells true 1 (l.flatMap u8C))) :
  ae prog 66 [slQ Y 2 l.length] H [] (fun y H2 => ∃s:Shp,aZ s=0/\y=ym s H.length (H.length+1) (H.length+2)/\H2=H ++ [.cells true 2 (s.th.flatMap ptC),.cells true 2 (s.wa.flatMap ptC),.cells true 2 (s.ic.flatMap ptC)]):=by
 have key:=mD (α:=Shp) (I:=fun s=>aZ s=0) (os:=[bF,.cells true 1 (l.flatMap u8C)]) (fun s j=>ym s j (j+1) (j+2)) (chg:=fun _=>[]) (new:=fun s=>[.cells true 2 (s.th.flatMap ptC),.cells true 2 (s.wa.flatMap ptC),.cells true 2 (s.ic.flatMap ptC)]) (ks:=[]) (ids:=[0,Y])
  (Eq.mpr (GK l) ?_) (by show (ap 3 bF&&(ap 3 (.cells true 1 (l.flatMap u8C))&&true))=true;rw[Ep];rfl) (fun k hk=>by cases hk) (fun _ _=>rfl) (fun _ _=>trivial) (fun s _=>⟨⟨_,_,rfl,cb _ _⟩,⟨_,_,rfl,cb _ _⟩,⟨_,_,rfl,cb _ _⟩,trivial⟩) (by simp[Ne.symm hY]) ⟨h0,by rw[Er];exact h1,trivial⟩ rfl (fun s j _=>by simp[ym,rn,bL]) (args':=[slQ Y 2 l.length]) rfl (ms:=[]) rfl
 ·exact key
 delta Ca jua ju2 jub ju1 juc ju7 ju4 juj juh ju3 jul jui juf ju6 jug ju5 jue ju0 nI slQ pt slN ac fk nw eR kbq apq
 repeat' first|(refine ⟨⟨rfl,rfl,rfl,rfl,trivial⟩,fun H' hl h=>jk hb hl1 (by omega) (by decide) (by decide) h.1 h.2.1 h.2.2.1 h.2.2.2.1,fun r hr =>?_⟩)|(refine ⟨ag (by omega),?_⟩)|fail
 rename_i r0 hr0 r1 hr1 r2 hr2 r3 hr3 r4 hr4 r5 hr5 r6 hr6 r7 hr7 r8 hr8
 refine ⟨rfl,⟨by dsimp only;omega,eA.one rfl (by omega),by dsimp only;omega,by dsimp only;omega⟩,⟨rfl,?_⟩,fun _=>rfl,fun x hx=>⟨fun q =>?_,fun q =>?_⟩⟩
 ·repeat' first|exact cb _ _|exact bp rfl|exact trivial|exact ad _|refine aN ?_|refine aQ ?_ ?_|(exact p5 (by omega))|refine ⟨rfl,?_⟩|refine ⟨trivial,?_⟩|apply And.intro
 ·have hq:=aR q
  have c:=hx.2.1
  have hcl:=c.len
  refine ⟨ag (by omega),⟨rfl,rfl,rfl,rfl,trivial⟩,fun H' hl h=>jk hb hl1 (by omega) (by decide) (by decide) h.1 h.2.1 h.2.2.1 h.2.2.2.1,fun a ha=>⟨ag (by omega),⟨rfl,rfl,rfl,rfl,trivial⟩,fun H' hl h=>jk hb hl1 (by omega) (by decide) (by decide) h.1 h.2.1 h.2.2.1 h.2.2.2.1,fun b hb' =>?_⟩⟩
  have hm:=FE (y:=x.2.2.1) (r:=b.1) (by omega) (by omega)
  have hmb:=iq (a:=x.2.2.1) (b:=b.1) (A:=5300) (B:=100) (by omega) (by omega) (by omega) (by omega)
  refine ⟨ag (by omega),ag (by omega),⟨by omega,by decide,⟨Nat.le_refl _,by rw[aC ef];omega⟩,⟨Nat.le_refl _,by simp⟩,rfl⟩,rfl,ag (by omega),(x.1 ++ [(x.2.1+10+a.1,Int.tdiv (x.2.2.1*b.1) 100)],x.2.1+10+a.1,Int.tdiv (x.2.2.1*b.1) 100,b.2,x.2.2.2.2+1),
   ⟨by dsimp only;omega,c.more (by omega) (by omega) (by omega) (by omega),by dsimp only;omega,by dsimp only;omega⟩,by show _-(x.2.2.2.2+1)<_;omega,rfl,?_⟩
  repeat' first|exact cD rfl|exact bN ef rfl rfl|exact cb _ _|exact bp rfl|exact trivial|exact ad _|refine aN ?_|refine aQ ?_ ?_|refine ⟨rfl,?_⟩|refine ⟨trivial,?_⟩|apply And.intro
 have hq:=aV q
 have cth:=hx.2.1
 have kth:x.2.2.2.2=Int.toNat (1+r.1):=by omega
 repeat' first|(refine ⟨⟨rfl,rfl,rfl,rfl,trivial⟩,fun H' hl h=>jk hb hl1 (by omega) (by decide) (by decide) h.1 h.2.1 h.2.2.1 h.2.2.2.1,fun e he =>?_⟩)|(refine ⟨ag (by omega),?_⟩)|fail
 rename_i r10 JE
 refine ⟨rfl,⟨by dsimp only;omega,eA.one rfl (by omega),by dsimp only;omega,by dsimp only;omega⟩,⟨rfl,?_⟩,fun _=>rfl,fun y hy=>⟨fun q2 =>?_,fun q2 =>?_⟩⟩
 ·repeat' first|exact cb _ _|exact bp rfl|exact trivial|exact ad _|refine aN ?_|refine aQ ?_ ?_|(exact p5 (by omega))|refine ⟨rfl,?_⟩|refine ⟨trivial,?_⟩|apply And.intro
 ·have hq2:=aR q2
  have c:=hy.2.1
  have hcl:=c.len
  refine ⟨ag (by omega),⟨rfl,rfl,rfl,rfl,trivial⟩,fun H' hl h=>jk hb hl1 (by omega) (by decide) (by decide) h.1 h.2.1 h.2.2.1 h.2.2.2.1,fun a ha=>⟨ag (by omega),⟨rfl,rfl,rfl,rfl,trivial⟩,fun H' hl h=>jk hb hl1 (by omega) (by decide) (by decide) h.1 h.2.1 h.2.2.1 h.2.2.2.1,fun b hb' =>?_⟩⟩
  refine ⟨ag (by omega),ag (by omega),⟨by omega,by decide,⟨Nat.le_refl _,by rw[aC ef];omega⟩,⟨Nat.le_refl _,by simp⟩,rfl⟩,rfl,ag (by omega),(y.1 ++ [(y.2.1+1+a.1,y.2.2.1+3*b.1)],y.2.1+1+a.1,y.2.2.1+3*b.1,b.2,y.2.2.2.2+1),
   ⟨by dsimp only;omega,c.more (by omega) (by omega) (by omega) (by omega),by dsimp only;omega,by dsimp only;omega⟩,by show _-(y.2.2.2.2+1)<_;omega,rfl,?_⟩
  repeat' first|exact cD rfl|exact bN ef rfl rfl|exact cb _ _|exact bp rfl|exact trivial|exact ad _|refine aN ?_|refine aQ ?_ ?_|refine ⟨rfl,?_⟩|refine ⟨trivial,?_⟩|apply And.intro
 have hq2:=aV q2
 have cwa:=hy.2.1
 repeat' first|(refine ⟨⟨rfl,rfl,rfl,rfl,trivial⟩,fun H' hl h=>jk hb hl1 (by omega) (by decide) (by decide) h.1 h.2.1 h.2.2.1 h.2.2.2.1,fun f hf =>?_⟩)|fail
 refine ⟨rfl,⟨by dsimp only;omega,eA.one rfl (by omega),⟨by dsimp only;omega,by dsimp only;omega,by dsimp only;omega,by dsimp only;omega,rfl⟩,by dsimp only;omega⟩,⟨rfl,?_⟩,fun _=>rfl,fun z hz=>⟨fun q3 =>?_,fun q3 =>?_⟩⟩
 ·repeat' first|exact cb _ _|exact bp rfl|exact trivial|exact ad _|refine aN ?_|refine aQ ?_ ?_|(exact p5 (by omega))|refine ⟨rfl,?_⟩|refine ⟨trivial,?_⟩|apply And.intro
 ·have hq3:=aR q3
  have c:=hz.2.1
  have hcl:=c.len
  refine ⟨ag (by omega),⟨rfl,rfl,rfl,rfl,trivial⟩,fun H' hl h=>jk hb hl1 (by omega) (by decide) (by decide) h.1 h.2.1 h.2.2.1 h.2.2.2.1,fun a ha=>⟨ag (by omega),⟨rfl,rfl,rfl,rfl,trivial⟩,fun H' hl h=>jk hb hl1 (by omega) (by decide) (by decide) h.1 h.2.1 h.2.2.1 h.2.2.2.1,fun b hb' =>?_⟩⟩
  refine ⟨ag (by omega),ag (by omega),⟨by omega,by decide,⟨Nat.le_refl _,by rw[aC ef];omega⟩,⟨Nat.le_refl _,by simp⟩,rfl⟩,rfl,ag (by omega),(z.1 ++ [(z.2.1+1+a.1,z.2.2.1+3*b.1)],z.2.1+1+a.1,z.2.2.1+3*b.1,b.2,z.2.2.2.2+1),
   ⟨by dsimp only;omega,c.more (by omega) (by omega) (by omega) (by omega),⟨by dsimp only;omega,by dsimp only;omega,by dsimp only;omega,by dsimp only;omega,(congrArg Prod.snd (nN (l:=z.1) (i:=0) (by omega))).trans hz.2.2.1.2.2.2.2⟩,by dsimp only;omega⟩,by show _-(z.2.2.2.2+1)<_;omega,rfl,?_⟩
  repeat' first|exact cD rfl|exact bN ef rfl rfl|exact cb _ _|exact bp rfl|exact trivial|exact ad _|refine aN ?_|refine aQ ?_ ?_|refine ⟨rfl,?_⟩|refine ⟨trivial,?_⟩|apply And.intro
 have hq3:=aV q3
 have cic:=hz.2.1
 have JF:=cic.len
 refine ⟨⟨rfl,rfl,rfl,rfl,trivial⟩,fun H' hl h=>jk hb hl1 (by omega) (by decide) (by decide) h.1 h.2.1 h.2.2.1 h.2.2.2.1,fun g hg=>⟨ag (by omega),ag (by omega),?_⟩⟩
 have cf:=cic.more (x':=400) (y':=z.2.2.1+4*g.1) (by omega) (by omega) (by omega) (by omega)
 have oth:=cth.ok (by omega) (by omega)
 have owa:=cwa.ok (by omega) (by omega)
 have oic:=cf.ok (by omega) (by omega)
 refine ⟨⟨by omega,by decide,⟨Nat.le_refl _,by rw[aC ef];omega⟩,⟨Nat.le_refl _,by simp⟩,rfl⟩,rfl,⟨1+r0.1,100+390*r1.1,10+7*r2.1,10+1900*r3.1,x.1,y.1,z.1 ++ [(400,z.2.2.1+4*g.1)],r4.1,r5.1,2*r6.1,4*r7.1⟩,?_,rfl,?_⟩
 ·refine lQ ?_ ?_ ?_ ?_ ?_ ?_ ?_ ?_ oth.1 ?_ owa.1 ?_ oic.1 ?_ oic.2
  all_goals first
   |(dsimp only;omega)
   |exact (congrArg Prod.snd (nN (l:=z.1) (i:=0) (by omega))).trans hz.2.2.1.2.2.2.2
 ·repeat' first|exact cD rfl|exact bN ef rfl rfl|exact cb _ _|exact trivial|exact ad _|refine aQ ?_ ?_|refine jS ?_|refine ⟨rfl,?_⟩|refine ⟨trivial,?_⟩|apply And.intro
abbrev jv0(L:List Int):Value:=.agg ⟨(L.flatMap aq)⟩
abbrev jv6(L:List Int)(n:Int):List Value:=[.iface (L.length+1) (jv0 L),nI n]
abbrev jv3(L:List Int)(n:Int):List Value:=[.iface (L.length+1) (jv0 L),nI (n+1)]
abbrev jv8(L:List Int)(n:Int):List Value:=[.iface (L.length+1) (jv0 L),nI ((n+1)+1)]
abbrev jv2(x:Shp×Int):=rn (sg 2 [(2,4),(3,5),(4,6)]) 3 (.agg #[nI x.1.cls,nI x.1.pow,nI x.1.dra,nI x.1.ton,slQ 2 1 x.1.th.length,slQ 3 1 x.1.wa.length,slQ 4 1 x.1.ic.length,nI x.1.slow,nI x.1.aB,nI x.1.rdg,nI x.1.prs]:Value)
abbrev jv4(L:List Int)(n:Int)(x1:Nat):List Value:=[.iface (L.length+1) (jv0 L),nI (n+1+(x1:Int))]
abbrev jv7(L:List Int)(n:Int)(x1:Nat):List Value:=[.iface (L.length+1) (jv0 L),nI ((n+1+(x1:Int))+1)]
abbrev jv5(L:List Int)(n:Int)(x1:Nat):List Value:=[.int .u8 (IntKind.wrap .u8 (dN L (n+1+(x1:Int)) 256))]
abbrev jv1:List Value:=[nI 4000,nI 8000,nI 14000,nI 24000,nI 40000,nI 90000]
def EV(L:List Int)(n:Int):Prop :=
 (((ac (.cells true 0 (jv6 L n)))/\True)/\(∀H':Heap,H'.length=3->(H'[1]?=some (.cells true 0 (jv6 L n):aa)/\True)->ae prog 13 [pt 1,nI 2] H' [1] (Is (nI (dN L n 2)) (List.set H' 1 (.cells true 0 (jv3 L n):aa))))/\(fk (((dN L n 2):Int) == 0) (((ac (.cells true 0 (jv3 L n)))/\True)/\(∀H':Heap,H'.length=8->(H'[1]?=some (.cells true 0 (jv3 L n):aa)/\True)->ae prog 13 [pt 1,nI 6] H' [1] (Is (nI (dN L (n+1) 6)) (List.set H' 1 (.cells true 0 (jv8 L n):aa))))/\(nw (1+(dN L (n+1) 6)) (∃x:Shp×Int,(aZ x.1=0/\n<=x.2/\x.2<=n+40)/\(true=true/\wk (.agg #[nI (1+(dN L (n+1) 6)),nI 6000,nI 800,nI 9000,slN 4 3,slN 5 2,slN 6 2,nI 0,nI 20,nI 10,nI 100]:Value) (jv2 x)/\((kbq 2 (.cells true 0 (jv8 L n)) (.cells true 0 [.iface (L.length+1) (jv0 L),nI x.2]))/\True)/\((kbq 2 (.cells true 2 [nI 0,nI 1000,nI 100,nI 800,nI 200,nI 0]) (.cells true 2 (x.1.th.flatMap ptC)))/\(kbq 2 (.cells true 2 [nI 0,nI 0,nI 200,nI 400]) (.cells true 2 (x.1.wa.flatMap ptC)))/\(kbq 2 (.cells true 2 [nI 0,nI 0,nI 400,nI 2000]) (.cells true 2 (x.1.ic.flatMap ptC)))/\True))))) (lq (0<=30) (true=true/\((nI 0:Value)=nI ((0:Nat):Int)/\wk (.slice none 0 0:Value) (slQ 0 1 (byL L n 0).length:Value)/\eR (pt 1)/\eR (pt 2)/\True)/\((kbq 3 (.cells true 0 (jv3 L n)) (.cells true 0 [.iface (L.length+1) (jv0 L),nI (n+1+((0:Nat):Int))]))/\True)/\(True/\True)/\(True)) (∀x1:Nat,(x1<=30)->(fk (decide (((x1:Int):Int)<30)) (((ac (.cells true 0 (jv4 L n x1)))/\True)/\(∀H':Heap,H'.length=4->(H'[1]?=some (.cells true 0 (jv4 L n x1):aa)/\True)->ae prog 13 [pt 1,nI 256] H' [1] (Is (nI (dN L (n+1+(x1:Int)) 256)) (List.set H' 1 (.cells true 0 (jv7 L n x1):aa))))/\((((byL L n x1).length+1)*1<=2 ^ 44/\1≠0/\((byL L n x1).length<=(byL L n x1).length/\0+(byL L n x1).length*1<=List.length ((byL L n x1).flatMap u8C))/\(1<=1/\0+1*1<=List.length (jv5 L n x1))/\((((jv5 L n x1).drop 0).take (1*1)):List Value).all (fun v=>du v)=true)/\true=true/\(nw ((x1:Int)+1) (∃x1':Nat,(x1'<=30)/\(30-x1')<(30-x1)/\true=true/\((nI ((x1:Int)+1):Value)=nI (x1':Int)/\wk (slN 5 ((byL L n x1).length+1):Value) (slQ 5 1 (byL L n x1').length:Value)/\eR (pt 1)/\eR (pt 2)/\True)/\((kbq 3 (.cells true 0 (jv7 L n x1)) (.cells true 0 [.iface (L.length+1) (jv0 L),nI (n+1+(x1':Int))]))/\True)/\((kbq 3 (.cells true 1 (((((byL L n x1).flatMap u8C).drop 0).take ((byL L n x1).length*1))++(((jv5 L n x1).drop 0).take (1*1)))) (.cells true 1 ((byL L n x1').flatMap u8C)))/\True)/\(True))))) (((ac (.cells false 0 jv1))/\(ac (.cells true 1 ((byL L n x1).flatMap u8C)))/\True)/\(∀H':Heap,H'.length=4->(H'[0]?=some (.cells false 0 jv1:aa)/\H'[3]?=some (.cells true 1 ((byL L n x1).flatMap u8C):aa)/\True)->ae prog 66 [slQ 3 1 (byL L n x1).length] H' [] (fun y H2 => ∃z:Shp,(aZ z=0)/\y = .agg #[nI z.cls,nI z.pow,nI z.dra,nI z.ton,slQ 4 1 z.th.length,slQ 5 1 z.wa.length,slQ 6 1 z.ic.length,nI z.slow,nI z.aB,nI z.rdg,nI z.prs]/\H2=(H' ++ [(.cells true 2 (z.th.flatMap ptC):aa),(.cells true 2 (z.wa.flatMap ptC):aa),(.cells true 2 (z.ic.flatMap ptC):aa)])))/\(∀r2:Shp,(aZ r2=0)->(∃x:Shp×Int,(aZ x.1=0/\n<=x.2/\x.2<=n+40)/\(true=true/\wk (.agg #[nI r2.cls,nI r2.pow,nI r2.dra,nI r2.ton,slQ 4 1 r2.th.length,slQ 5 1 r2.wa.length,slQ 6 1 r2.ic.length,nI r2.slow,nI r2.aB,nI r2.rdg,nI r2.prs]:Value) (jv2 x)/\((kbq 2 (.cells true 0 (jv4 L n x1)) (.cells true 0 [.iface (L.length+1) (jv0 L),nI x.2]))/\True)/\((kbq 2 (.cells true 2 (r2.th.flatMap ptC)) (.cells true 2 (x.1.th.flatMap ptC)))/\(kbq 2 (.cells true 2 (r2.wa.flatMap ptC)) (.cells true 2 (x.1.wa.flatMap ptC)))/\(kbq 2 (.cells true 2 (r2.ic.flatMap ptC)) (.cells true 2 (x.1.ic.flatMap ptC)))/\True))))))))))
theorem Ik(L:List Int)(n:Int):vF prog msk (dm 0) 100000 true 40 true 28 [pt 1] (aI [.cells false 0 jv1,.cells true 0 (jv6 L n)]) (some [1])
 (.go 1 (.dO [(1,.cells true 0 (jv6 L n))] (nI (dN L n 2)) [(1,.cells true 0 (jv3 L n))] [] (.go 0 (.fork (.go 16 (.dO [(1,.cells true 0 (jv3 L n))] (nI (dN L (n+1) 6)) [(1,.cells true 0 (jv8 L n))] [] (.go 0 (.slot 12 (nI (1+(dN L (n+1) 6))) (.go 3 (.keep (.again [(2,4),(3,5),(4,6)]))))))) (.go 1 (.inv 3 (Nat) (0) [] [1] (fun x1=>[(5,nI (x1:Int)),(4,slQ 3 1 (byL L n x1).length),(0,pt 1),(2,pt 2)]) (fun x1=>[(1,true,.cells true 0 (jv4 L n x1))]) (fun x1=>[(true,.cells true 1 ((byL L n x1).flatMap u8C))]) (fun x1=>[]) (fun x1=>(x1<=30)) (fun x1=>(30-x1)) (fun x1 => .go 1 (.fork (.go 1 (.dO [(1,.cells true 0 (jv4 L n x1))] (nI (dN L (n+1+(x1:Int)) 256)) [(1,.cells true 0 (jv7 L n x1))] [] (.go 1 (.need (.go 2 (.slot 18 (nI ((x1:Int)+1)) (.go 0 (.again [(3,5)])))))))) (.go 0 (.cx [(0,.cells false 0 jv1),(3,.cells true 1 ((byL L n x1).flatMap u8C))] [] (Shp) (fun r2=>(aZ r2=0)) (fun r2 => .agg #[nI r2.cls,nI r2.pow,nI r2.dra,nI r2.ton,slQ 4 1 r2.th.length,slQ 5 1 r2.wa.length,slQ 6 1 r2.ic.length,nI r2.slow,nI r2.aB,nI r2.rdg,nI r2.prs]) (fun r2=>[]) (fun r2=>[.cells true 2 (r2.th.flatMap ptC),.cells true 2 (r2.wa.flatMap ptC),.cells true 2 (r2.ic.flatMap ptC)]) (fun r2 => .go 0 (.keep (.again [(2,4),(3,5),(4,6)])))))))))))))
 (dh (α:=Shp×Int) ((aI [.cells false 0 jv1,.cells true 0 (jv6 L n)]):HT).n 3 [1] (fun x=>(aZ x.1=0/\n<=x.2/\x.2<=n+40)) (fun x => .agg #[nI x.1.cls,nI x.1.pow,nI x.1.dra,nI x.1.ton,slQ 2 1 x.1.th.length,slQ 3 1 x.1.wa.length,slQ 4 1 x.1.ic.length,nI x.1.slow,nI x.1.aB,nI x.1.rdg,nI x.1.prs]) (fun x=>[(1,true,.cells true 0 [.iface (L.length+1) (jv0 L),nI x.2])]) (fun x=>[(true,.cells true 2 (x.1.th.flatMap ptC)),(true,.cells true 2 (x.1.wa.flatMap ptC)),(true,.cells true 2 (x.1.ic.flatMap ptC))]))=EV L n:=by kernel_rfl
theorem wU8{v:Int}(h:0<=v/\v<=255):IntKind.wrap .u8 v=v:=by
 unfold IntKind.wrap
 simp only[IntKind.bits,IntKind.signed]
 first
  |(simp;omega)
theorem BD(c:Int)(hc:1<=c/\c<=6):aZ { gy with cls:=c }=0:=by
 have a1:cR gy.th (-1)=true:=by kernel_rfl
 have a2:dc gy.th=200:=by kernel_rfl
 have a3:cR gy.wa 1=true:=by kernel_rfl
 have a4:dc gy.wa=200:=by kernel_rfl
 have a5:cR gy.ic 1=true:=by kernel_rfl
 have a6:dc gy.ic=400:=by kernel_rfl
 exact lQ (s:={ gy with cls:=c }) hc (show (100:Int)<=6000/\(6000:Int)<=100000 by omega) (show (10:Int)<=800/\(800:Int)<=2000 by omega) (show (10:Int)<=9000/\(9000:Int)<=500000 by omega) (show (0:Int)<=0/\(0:Int)<=20 by omega) (show (0:Int)<=20/\(20:Int)<=100 by omega) (show (0:Int)<=10/\(10:Int)<=500 by omega) (show (0:Int)<=100/\(100:Int)<=5000 by omega)
  a1 (show 10<=dc gy.th/\dc gy.th<=250 by rw[a2];omega) a3 (show dc gy.wa<=250 by rw[a4];omega) a5 rfl a6
theorem Hu{L:List Int}{n:Int}(hn:0<=n/\n<=900000000){H:Heap}{D:Nat}(hD:D≠0)(h0:H[0]?=some bF)(h1:H[D]?=some (dgO L n)) :
  ae prog 28 [pt D] H [D] (fun y H2 => ∃x:Shp×Int,(aZ x.1=0/\n<=x.2/\x.2<=n+40)/\y=ym x.1 H.length (H.length+1) (H.length+2)/\H2=H.set D (dgO L x.2) ++ [.cells true 2 (x.1.th.flatMap ptC),.cells true 2 (x.1.wa.flatMap ptC),.cells true 2 (x.1.ic.flatMap ptC)]):=by
 refine CD (α:=Shp×Int) (I:=fun x=>aZ x.1=0/\n<=x.2/\x.2<=n+40) (fun x j=>ym x.1 j (j+1) (j+2)) (d:=fun x=>x.2) (new:=fun x=>[.cells true 2 (x.1.th.flatMap ptC),.cells true 2 (x.1.wa.flatMap ptC),.cells true 2 (x.1.ic.flatMap ptC)]) (Eq.mpr (Ik L n) ?_) (fun _ _=>rfl) (fun x _=>⟨⟨_,_,rfl,cb _ _⟩,⟨_,_,rfl,cb _ _⟩,⟨_,_,rfl,cb _ _⟩,trivial⟩) hD (fun x j _=>by simp[ym,rn,bL]) h0 h1 rfl
 delta EV jv6 jv3 jv8 jv2 jv0 jv4 jv7 jv5 jv1 nI slQ pt slN ac fk nw eR kbq lq
 have b6:=fh L (n+1) (m:=6) (by omega)
 refine ⟨⟨rfl,trivial⟩,fun H' hl h=>bJ (by omega) (by omega) (by omega) h.1,fun q =>?_,fun q =>?_⟩
 ·refine ⟨⟨rfl,trivial⟩,fun H' hl h=>bJ (by omega) (by omega) (by omega) h.1,ag (by omega),({ gy with cls:=1+dN L (n+1) 6 },n+1+1),⟨BD _ (by omega),by show n<=n+1+1;omega,by show n+1+1<=n+40;omega⟩,rfl,?_⟩
  repeat' first|exact bg _ _ _|exact cb _ _|exact trivial|exact ad _|refine aQ ?_ ?_|(exact p5 (by omega))|refine jS ?_|refine ⟨rfl,?_⟩|apply And.intro
 ·refine ⟨rfl,Nat.zero_le _,⟨rfl,?_⟩,fun _=>rfl,fun x1 hx1=>⟨fun r =>?_,fun r =>?_⟩⟩
  ·rw[show n+1+((0:Nat):Int)=n+1 by omega]
   repeat' first|exact bg _ _ _|exact trivial|exact ed _ _ _ (.inl rfl)|refine ⟨rfl,?_⟩|refine ⟨trivial,?_⟩|apply And.intro
  ·have h2:=aR r
   have hbl:=xz L n x1
   have hb:=fh L (n+1+(x1:Int)) (m:=256) (by omega)
   have yes:=BN L n x1
   rw[wU8 (by omega)]
   refine ⟨⟨rfl,trivial⟩,fun H' hl h=>bJ (by omega) (by omega) (by omega) h.1,⟨by omega,by decide,⟨Nat.le_refl _,by rw[aC qb];omega⟩,⟨Nat.le_refl _,by simp⟩,rfl⟩,rfl,ag (by omega),x1+1,by omega,by omega,rfl,?_⟩
   rw[show n+1+(x1:Int)+1=n+1+((x1+1:Nat):Int) by omega]
   repeat' first|exact bg _ _ _|exact cD yes|exact bN qb yes rfl|exact uX _ _|exact trivial|refine ⟨rfl,?_⟩|apply And.intro
  ·have h2:=aV r
   have hbl:=xz L n x1
   refine ⟨⟨rfl,rfl,trivial⟩,fun H' hl h=>by
    have k:=FQ (Gq L n x1) (by omega) (by decide) h.1 h.2.1
    rw[hl]at k
    exact k.wkA ⟨jf,trivial⟩,fun s hs=>⟨(s,n+1+(x1:Int)),⟨hs,by show n<=n+1+(x1:Int);omega,by show n+1+(x1:Int)<=n+40;omega⟩,rfl,?_⟩⟩
   repeat' first|exact bg _ _ _|exact cb _ _|exact trivial|exact ad _|refine ⟨rfl,?_⟩|apply And.intro
abbrev jw3:List Value:=[nI 4000,nI 8000,nI 14000,nI 24000,nI 40000,nI 90000]
abbrev jwz:=ac (.cells false 0 jw3)
abbrev jw1(L:List Int):Value:=.agg ⟨(L.flatMap aq)⟩
abbrev jwr(L:List Int)(n:Int):List Value:=[.iface (L.length+1) (jw1 L),nI n]
abbrev jw4(L:List Int)(n:Int):=wtL L n (wtK L n)
abbrev jwh(L:List Int)(n:Int):List Value:=[.iface (L.length+1) (jw1 L),nI (wtD n (wtK L n))]
abbrev A1(L:List Int)(r1:Shp×Int):List Value:=[.iface (L.length+1) (jw1 L),nI r1.2]
abbrev jw9(r1:Shp×Int):List Bool×Int×Nat:=([],(r1.2+1),0)
abbrev jwy(hrs:Nat):Int:=(hrs:Nat)
abbrev jwe(L:List Int)(n:Int):Int:=((jw4 L n).length:Nat)
abbrev jwi(L:List Int)(x3:List Bool×Int×Nat):List Value:=[.iface (L.length+1) (jw1 L),nI x3.2.1]
abbrev jwj(L:List Int)(x3:List Bool×Int×Nat):List Value:=[.iface (L.length+1) (jw1 L),nI (x3.2.1+1)]
abbrev jw8(x3:List Bool×Int×Nat):List Cht×Int×Nat:=([],(x3.2.1+1),0)
abbrev jwd(L:List Int)(n:Int)(x3:List Bool×Int×Nat)(r1:Shp×Int):List Value:=[nI (wtW L n),nI (wtH L n),slQ 3 1 (jw4 L n).length,.slice none 0 0,slQ 8 1 x3.1.length,nI r1.1.cls,nI r1.1.pow,nI r1.1.dra,nI r1.1.ton,slQ 4 1 r1.1.th.length,slQ 5 1 r1.1.wa.length,slQ 6 1 r1.1.ic.length,nI r1.1.slow,nI r1.1.aB,nI r1.1.rdg,nI r1.1.prs,nI (1+(dN L r1.2 120)),nI 0,nI 0]
abbrev jw5(x5:List Cht×Int×Nat):Int:=(x5.2.2:Nat)
abbrev jwx(x5:List Cht×Int×Nat)(L:List Int)(n:Int)(x3:List Bool×Int×Nat):Prop:=List.length x5.1=x5.2.2/\wu (wtW L n) (wtH L n) (dN L x3.2.1 500) (jw4 L n).length x5.1/\(x3.2.1+1)<=x5.2.1/\x5.2.1<=(x3.2.1+1)+300*(jw5 x5)
abbrev jwc(x5:List Cht×Int×Nat):List Cell×Int×Nat:=([],x5.2.1,0)
abbrev jwb(L:List Int)(x3:List Bool×Int×Nat)(hrs:Nat)(x5:List Cht×Int×Nat):Prop:=eR (nI (dN L x3.2.1 500))/\eR (nI (jwy hrs))/\eR (pt 1)/\eR (pt 2)/\eR (pt 7)/\eR (nI (jw5 x5))/\eR (pt 10)/\True
abbrev jwt(L:List Int)(x5:List Cht×Int×Nat):List Value:=[.iface (L.length+1) (jw1 L),nI x5.2.1]
abbrev jwg(x6:List Cell×Int×Nat):Int:=(x6.2.2:Nat)
abbrev jwu(L:List Int)(x6:List Cell×Int×Nat):List Value:=[.iface (L.length+1) (jw1 L),nI x6.2.1]
abbrev jws(L:List Int)(r7:Cell×Int):List Value:=[.iface (L.length+1) (jw1 L),nI r7.2]
abbrev jwv(L:List Int)(r7:Cell×Int):List Value:=[.iface (L.length+1) (jw1 L),nI (r7.2+1)]
abbrev jwo(x5:List Cht×Int×Nat):Value:=.iface ((List.length (x5.1.getD ((jw5 x5)-1).toNat zCh).cells)+1) (.agg ⟨(List.flatMap cellC (x5.1.getD ((jw5 x5)-1).toNat zCh).cells)⟩)
abbrev jw0(x5:List Cht×Int×Nat)(x6:List Cell×Int×Nat):=List.getD (x5.1.getD ((jw5 x5)-1).toNat zCh).cells x6.2.2 ak
abbrev jwl(x5:List Cht×Int×Nat)(x6:List Cell×Int×Nat):Value:=.agg #[nI (jw0 x5 x6).aW.lo,nI (jw0 x5 x6).aW.hi,nI (jw0 x5 x6).ai.lo,nI (jw0 x5 x6).ai.hi,nI (jw0 x5 x6).aw.lo,nI (jw0 x5 x6).aw.hi,nI (jw0 x5 x6).am.lo,nI (jw0 x5 x6).am.hi]
abbrev jwm(x5:List Cht×Int×Nat)(x6:List Cell×Int×Nat):List Value:=[nI (jw0 x5 x6).aW.lo,nI (jw0 x5 x6).aW.hi,nI (jw0 x5 x6).ai.lo,nI (jw0 x5 x6).ai.hi,nI (jw0 x5 x6).aw.lo,nI (jw0 x5 x6).aw.hi,nI (jw0 x5 x6).am.lo,nI (jw0 x5 x6).am.hi]
abbrev jwk(x6':List Cell×Int×Nat)(L:List Int)(n:Int)(x5:List Cht×Int×Nat):Prop:=x6'.2.2<=(jw4 L n).length/\eM x6'.2.2 x6'.1/\x5.2.1<=x6'.2.1/\x6'.2.1<=x5.2.1+10*((x6'.2.2:Nat):Int)
abbrev jwa(L:List Int)(n:Int)(x3:List Bool×Int×Nat)(x5:List Cht×Int×Nat)(x6 x6':List Cell×Int×Nat):Prop:=wkO (.cells true 0 [nI (wtW L n),nI (wtH L n),nI ((dN L x3.2.1 500)+(jw5 x5)),slN 14 (x6.1.length+1)]:aa) (rno (sg 11 [(11,14)]) 3 (.cells true 0 [nI (wtW L n),nI (wtH L n),nI ((dN L x3.2.1 500)+(jw5 x5)),slQ 11 1 x6'.1.length]:aa))/\True
abbrev jw7(r7:Cell×Int):List Value:=[nI r7.1.aW.lo,nI r7.1.aW.hi,nI r7.1.ai.lo,nI r7.1.ai.hi,nI r7.1.aw.lo,nI r7.1.aw.hi,nI r7.1.am.lo,nI r7.1.am.hi]
abbrev jwq(x6:List Cell×Int×Nat)(r7:Cell×Int)(x6':List Cell×Int×Nat):Prop:=((kbq 11 (.cells true 8 ((((x6.1.flatMap cellC).drop 0).take (x6.1.length*8))++((((jw7 r7):List Value).drop 0).take (1*8)))) (.cells true 8 (x6'.1.flatMap cellC)))/\True)/\(True)
abbrev jwn(L:List Int)(n:Int)(x3:List Bool×Int×Nat)(x5:List Cht×Int×Nat)(x6:List Cell×Int×Nat):List Value:=[nI (wtW L n),nI (wtH L n),nI ((dN L x3.2.1 500)+(jw5 x5)),.iface (x6.1.length+1) (.agg ⟨(x6.1.flatMap cellC)⟩)]
abbrev jwf(x:Pl×Int)(hrs:Nat)(n:Int):Prop:=bQ x.1=0/\List.length x.1.cts=hrs/\0<=x.2/\x.2<=n+100000/\(x.1.cts.getD 0 zCh).hr<=499
abbrev jw6(x:Pl×Int):=rn (sg 2 [(2,3),(3,9),(4,8),(5,4),(6,5),(7,6)]) 3 (.agg #[nI x.1.w,nI x.1.h,slQ 2 1 x.1.land.length,slQ 3 1 x.1.cts.length,slQ 4 1 x.1.chan.length,nI x.1.shp.cls,nI x.1.shp.pow,nI x.1.shp.dra,nI x.1.shp.ton,slQ 5 1 x.1.shp.th.length,slQ 6 1 x.1.shp.wa.length,slQ 7 1 x.1.shp.ic.length,nI x.1.shp.slow,nI x.1.shp.aB,nI x.1.shp.rdg,nI x.1.shp.prs,nI x.1.size,nI x.1.frm,nI x.1.to]:Value)
abbrev jw2(L:List Int)(x5:List Cht×Int×Nat)(x:Pl×Int)(n:Int)(x3:List Bool×Int×Nat)(r1:Shp×Int):Prop:=((kbq 2 (.cells true 0 [.iface (L.length+1) (jw1 L),nI (x5.2.1+1)]) (.cells true 0 [.iface (L.length+1) (jw1 L),nI x.2]))/\True)/\((kbq 2 (.cells true 1 ((jw4 L n).flatMap af)) (.cells true 1 (x.1.land.flatMap af)))/\(kbq 2 (.cells true 4 (x5.1.flatMap chC)) (.cells true 4 (x.1.cts.flatMap chC)))/\(kbq 2 (.cells true 1 (x3.1.flatMap af)) (.cells true 1 (x.1.chan.flatMap af)))/\(kbq 2 (.cells true 2 (r1.1.th.flatMap ptC)) (.cells true 2 (x.1.shp.th.flatMap ptC)))/\(kbq 2 (.cells true 2 (r1.1.wa.flatMap ptC)) (.cells true 2 (x.1.shp.wa.flatMap ptC)))/\(kbq 2 (.cells true 2 (r1.1.ic.flatMap ptC)) (.cells true 2 (x.1.shp.ic.flatMap ptC)))/\True)
def EY(L:List Int)(n:Int)(hrs:Nat):Prop :=
 ((jwz/\(ac (.cells true 0 (jwr L n)))/\True)/\(∀H':Heap,H'.length=3->(H'[0]?=some (.cells false 0 jw3:aa)/\H'[1]?=some (.cells true 0 (jwr L n):aa)/\True)->ae prog 27 [pt 1] H' [1] (fun y H2 => ∃z:Unit,True/\y = .agg #[nI (wtW L n),nI (wtH L n),slQ 3 1 (jw4 L n).length]/\H2=((List.set H' 1 (.cells true 0 (jwh L n):aa)) ++ [(.cells true 1 ((jw4 L n).flatMap af):aa)])))/\(∀r0:Unit,True->((jwz/\(ac (.cells true 0 (jwh L n)))/\True)/\(∀H':Heap,H'.length=4->(H'[0]?=some (.cells false 0 jw3:aa)/\H'[1]?=some (.cells true 0 (jwh L n):aa)/\True)->ae prog 28 [pt 1] H' [1] (fun y H2 => ∃z:Shp×Int,(aZ z.1=0/\(wtD n (wtK L n))<=z.2/\z.2<=(wtD n (wtK L n))+40)/\y = .agg #[nI z.1.cls,nI z.1.pow,nI z.1.dra,nI z.1.ton,slQ 4 1 z.1.th.length,slQ 5 1 z.1.wa.length,slQ 6 1 z.1.ic.length,nI z.1.slow,nI z.1.aB,nI z.1.rdg,nI z.1.prs]/\H2=((List.set H' 1 (.cells true 0 [.iface (L.length+1) (jw1 L),nI z.2]:aa)) ++ [(.cells true 2 (z.1.th.flatMap ptC):aa),(.cells true 2 (z.1.wa.flatMap ptC):aa),(.cells true 2 (z.1.ic.flatMap ptC):aa)])))/\(∀r1:Shp×Int,(aZ r1.1=0/\(wtD n (wtK L n))<=r1.2/\r1.2<=(wtD n (wtK L n))+40)->(((ac (.cells true 0 (A1 L r1)))/\True)/\(∀H':Heap,H'.length=7->(H'[1]?=some (.cells true 0 (A1 L r1):aa)/\True)->ae prog 13 [pt 1,nI 120] H' [1] (Is (nI (dN L r1.2 120)) (List.set H' 1 (.cells true 0 [.iface (L.length+1) (jw1 L),nI (r1.2+1)]:aa))))/\(nw (1+(dN L r1.2 120)) (true=true/\((jw9 r1).2.2<=(jw4 L n).length/\List.length (jw9 r1).1=(jw9 r1).2.2/\(r1.2+1)<=(jw9 r1).2.1/\(jw9 r1).2.1<=(r1.2+1)+(((jw9 r1).2.2:Nat):Int))/\(true=true/\((nI 0:Value)=nI (((jw9 r1).2.2:Nat):Int)/\eR (nI (jwy hrs))/\eR (pt 1)/\eR (pt 2)/\eR (pt 7)/\True)/\((kbq 8 (.cells true 0 [.iface (L.length+1) (jw1 L),nI (r1.2+1)]) (.cells true 0 [.iface (L.length+1) (jw1 L),nI (jw9 r1).2.1]))/\wkO (.cells true 0 [nI (wtW L n),nI (wtH L n),slQ 3 1 (jw4 L n).length,.slice none 0 0,.slice none 0 0,nI r1.1.cls,nI r1.1.pow,nI r1.1.dra,nI r1.1.ton,slQ 4 1 r1.1.th.length,slQ 5 1 r1.1.wa.length,slQ 6 1 r1.1.ic.length,nI r1.1.slow,nI r1.1.aB,nI r1.1.rdg,nI r1.1.prs,nI (1+(dN L r1.2 120)),nI 0,nI 0]:aa) (rno (sg 8 []) 3 (.cells true 0 [nI (wtW L n),nI (wtH L n),slQ 3 1 (jw4 L n).length,.slice none 0 0,slQ 8 1 (List.length (jw9 r1).1),nI r1.1.cls,nI r1.1.pow,nI r1.1.dra,nI r1.1.ton,slQ 4 1 r1.1.th.length,slQ 5 1 r1.1.wa.length,slQ 6 1 r1.1.ic.length,nI r1.1.slow,nI r1.1.aB,nI r1.1.rdg,nI r1.1.prs,nI (1+(dN L r1.2 120)),nI 0,nI 0]:aa))/\True)/\(True/\True)/\(True))/\(∀x3:List Bool×Int×Nat,true=true)/\∀x3:List Bool×Int×Nat,(x3.2.2<=(jw4 L n).length/\List.length x3.1=x3.2.2/\(r1.2+1)<=x3.2.1/\x3.2.1<=(r1.2+1)+((x3.2.2:Nat):Int))->(fk (decide ((((x3.2.2:Nat):Int):Int)<(jwe L n))) (((ac (.cells true 0 (jwi L x3)))/\True)/\(∀H':Heap,H'.length=9->(H'[1]?=some (.cells true 0 (jwi L x3):aa)/\True)->ae prog 13 [pt 1,nI 4] H' [1] (Is (nI (dN L x3.2.1 4)) (List.set H' 1 (.cells true 0 (jwj L x3):aa))))/\(((x3.1.length+1)*1<=2 ^ 44/\1≠0/\(x3.1.length<=x3.1.length/\0+x3.1.length*1<=List.length (x3.1.flatMap af))/\(1<=1/\0+1*1<=List.length ([.bool (((dN L x3.2.1 4):Int) == 0)]:List Value))/\(((([.bool (((dN L x3.2.1 4):Int) == 0)]:List Value).drop 0).take (1*1)):List Value).all (fun v=>du v)=true)/\true=true/\(nw (((x3.2.2:Nat):Int)+1) (∃x3':List Bool×Int×Nat,(x3'.2.2<=(jw4 L n).length/\List.length x3'.1=x3'.2.2/\(r1.2+1)<=x3'.2.1/\x3'.2.1<=(r1.2+1)+((x3'.2.2:Nat):Int))/\((jw4 L n).length-x3'.2.2)<((jw4 L n).length-x3.2.2)/\true=true/\((nI (((x3.2.2:Nat):Int)+1):Value)=nI ((x3'.2.2:Nat):Int)/\eR (nI (jwy hrs))/\eR (pt 1)/\eR (pt 2)/\eR (pt 7)/\True)/\((kbq 8 (.cells true 0 (jwj L x3)) (.cells true 0 [.iface (L.length+1) (jw1 L),nI x3'.2.1]))/\wkO (.cells true 0 [nI (wtW L n),nI (wtH L n),slQ 3 1 (jw4 L n).length,.slice none 0 0,slN 10 (x3.1.length+1),nI r1.1.cls,nI r1.1.pow,nI r1.1.dra,nI r1.1.ton,slQ 4 1 r1.1.th.length,slQ 5 1 r1.1.wa.length,slQ 6 1 r1.1.ic.length,nI r1.1.slow,nI r1.1.aB,nI r1.1.rdg,nI r1.1.prs,nI (1+(dN L r1.2 120)),nI 0,nI 0]:aa) (rno (sg 8 [(8,10)]) 3 (.cells true 0 [nI (wtW L n),nI (wtH L n),slQ 3 1 (jw4 L n).length,.slice none 0 0,slQ 8 1 x3'.1.length,nI r1.1.cls,nI r1.1.pow,nI r1.1.dra,nI r1.1.ton,slQ 4 1 r1.1.th.length,slQ 5 1 r1.1.wa.length,slQ 6 1 r1.1.ic.length,nI r1.1.slow,nI r1.1.aB,nI r1.1.rdg,nI r1.1.prs,nI (1+(dN L r1.2 120)),nI 0,nI 0]:aa))/\True)/\((kbq 8 (.cells true 1 ((((x3.1.flatMap af).drop 0).take (x3.1.length*1))++((([.bool (((dN L x3.2.1 4):Int) == 0)]:List Value).drop 0).take (1*1)))) (.cells true 1 (x3'.1.flatMap af)))/\True)/\(True))))) (((ac (.cells true 0 (jwi L x3)))/\True)/\(∀H':Heap,H'.length=9->(H'[1]?=some (.cells true 0 (jwi L x3):aa)/\True)->ae prog 13 [pt 1,nI 500] H' [1] (Is (nI (dN L x3.2.1 500)) (List.set H' 1 (.cells true 0 (jwj L x3):aa))))/\(true=true/\((jw8 x3).2.2<=hrs/\List.length (jw8 x3).1=(jw8 x3).2.2/\wu (wtW L n) (wtH L n) (dN L x3.2.1 500) (jw4 L n).length (jw8 x3).1/\(x3.2.1+1)<=(jw8 x3).2.1/\(jw8 x3).2.1<=(x3.2.1+1)+300*(((jw8 x3).2.2:Nat):Int))/\(true=true/\((nI 0:Value)=nI (((jw8 x3).2.2:Nat):Int)/\eR (pt 7)/\eR (pt 2)/\eR (pt 1)/\eR (nI (jwy hrs))/\eR (nI (dN L x3.2.1 500))/\True)/\((kbq 9 (.cells true 0 (jwj L x3)) (.cells true 0 [.iface (L.length+1) (jw1 L),nI (jw8 x3).2.1]))/\wkO (.cells true 0 (jwd L n x3 r1):aa) (rno (sg 9 []) 3 (.cells true 0 [nI (wtW L n),nI (wtH L n),slQ 3 1 (jw4 L n).length,slQ 9 1 (List.length (jw8 x3).1),slQ 8 1 x3.1.length,nI r1.1.cls,nI r1.1.pow,nI r1.1.dra,nI r1.1.ton,slQ 4 1 r1.1.th.length,slQ 5 1 r1.1.wa.length,slQ 6 1 r1.1.ic.length,nI r1.1.slow,nI r1.1.aB,nI r1.1.rdg,nI r1.1.prs,nI (1+(dN L r1.2 120)),nI 0,nI 0]:aa))/\True)/\(True/\True)/\(True))/\(∀x5:List Cht×Int×Nat,true=true)/\∀x5:List Cht×Int×Nat,(x5.2.2<=hrs/\jwx x5 L n x3)->(fk (decide (((jw5 x5):Int)<(jwy hrs))) (nw ((dN L x3.2.1 500)+(jw5 x5)) (true=true/\((jwc x5).2.2<=(jw4 L n).length/\eM (jwc x5).2.2 (jwc x5).1/\x5.2.1<=(jwc x5).2.1/\(jwc x5).2.1<=x5.2.1+10*(((jwc x5).2.2:Nat):Int))/\(true=true/\((nI 0:Value)=nI (((jwc x5).2.2:Nat):Int)/\jwb L x3 hrs x5)/\((kbq 11 (.cells true 0 (jwt L x5)) (.cells true 0 [.iface (L.length+1) (jw1 L),nI (jwc x5).2.1]))/\wkO (.cells true 0 [nI (wtW L n),nI (wtH L n),nI ((dN L x3.2.1 500)+(jw5 x5)),.slice none 0 0]:aa) (rno (sg 11 []) 3 (.cells true 0 [nI (wtW L n),nI (wtH L n),nI ((dN L x3.2.1 500)+(jw5 x5)),slQ 11 1 (List.length (jwc x5).1)]:aa))/\True)/\(True/\True)/\(True))/\(∀x6:List Cell×Int×Nat,true=true)/\∀x6:List Cell×Int×Nat,(x6.2.2<=(jw4 L n).length/\eM x6.2.2 x6.1/\x5.2.1<=x6.2.1/\x6.2.1<=x5.2.1+10*(jwg x6))->(fk (decide (((jwg x6):Int)<(jwe L n))) ((jwz/\(ac (.cells true 0 (jwu L x6)))/\True)/\(∀H':Heap,H'.length=12->(H'[0]?=some (.cells false 0 jw3:aa)/\H'[1]?=some (.cells true 0 (jwu L x6):aa)/\True)->ae prog 29 [pt 1] H' [1] (fun y H2 => ∃z:Cell×Int,(bv z.1/\x6.2.1<=z.2/\z.2<=x6.2.1+9)/\y = .agg #[nI z.1.aW.lo,nI z.1.aW.hi,nI z.1.ai.lo,nI z.1.ai.hi,nI z.1.aw.lo,nI z.1.aw.hi,nI z.1.am.lo,nI z.1.am.hi]/\H2=(List.set H' 1 (.cells true 0 [.iface (L.length+1) (jw1 L),nI z.2]:aa))))/\(∀r7:Cell×Int,(bv r7.1/\x6.2.1<=r7.2/\r7.2<=x6.2.1+9)->(fk (decide ((0:Int)<(jw5 x5))) (((ac (.cells true 0 (jws L r7)))/\True)/\(∀H':Heap,H'.length=13->(H'[1]?=some (.cells true 0 (jws L r7):aa)/\True)->ae prog 13 [pt 1,nI 3] H' [1] (Is (nI (dN L r7.2 3)) (List.set H' 1 (.cells true 0 (jwv L r7):aa))))/\(fk (decide ((0:Int)<(dN L r7.2 3))) (nw ((jw5 x5)-1) ((ixq ((jw5 x5)-1) x5.1.length)/\(((x5.1.flatMap chC)[((0+Int.toNat ((jw5 x5)-1)*4)+3)]?=some (jwo x5))/\((ixq (jwg x6) (List.length (x5.1.getD ((jw5 x5)-1).toNat zCh).cells))/\((d6 8 (List.flatMap cellC (x5.1.getD ((jw5 x5)-1).toNat zCh).cells) (Int.toNat (jwg x6)*8)=some (jwl x5 x6))/\(apq x6.1.length 64 8 (x6.1.flatMap cellC) (jwm x5 x6) (nw ((jwg x6)+1) (∃x6':List Cell×Int×Nat,(jwk x6' L n x5)/\((jw4 L n).length-x6'.2.2)<((jw4 L n).length-x6.2.2)/\true=true/\((nI ((jwg x6)+1):Value)=nI ((x6'.2.2:Nat):Int)/\jwb L x3 hrs x5)/\((kbq 11 (.cells true 0 (jwv L r7)) (.cells true 0 [.iface (L.length+1) (jw1 L),nI x6'.2.1]))/\jwa L n x3 x5 x6 x6')/\((kbq 11 (.cells true 8 ((((x6.1.flatMap cellC).drop 0).take (x6.1.length*8))++((((jwm x5 x6):List Value).drop 0).take (1*8)))) (.cells true 8 (x6'.1.flatMap cellC)))/\True)/\(True))))))))) (apq x6.1.length 64 8 (x6.1.flatMap cellC) (jw7 r7) (nw ((jwg x6)+1) (∃x6':List Cell×Int×Nat,(jwk x6' L n x5)/\((jw4 L n).length-x6'.2.2)<((jw4 L n).length-x6.2.2)/\true=true/\((nI ((jwg x6)+1):Value)=nI ((x6'.2.2:Nat):Int)/\jwb L x3 hrs x5)/\((kbq 11 (.cells true 0 (jwv L r7)) (.cells true 0 [.iface (L.length+1) (jw1 L),nI x6'.2.1]))/\jwa L n x3 x5 x6 x6')/\jwq x6 r7 x6'))))) (apq x6.1.length 64 8 (x6.1.flatMap cellC) (jw7 r7) (nw ((jwg x6)+1) (∃x6':List Cell×Int×Nat,(jwk x6' L n x5)/\((jw4 L n).length-x6'.2.2)<((jw4 L n).length-x6.2.2)/\true=true/\((nI ((jwg x6)+1):Value)=nI ((x6'.2.2:Nat):Int)/\jwb L x3 hrs x5)/\((kbq 11 (.cells true 0 (jws L r7)) (.cells true 0 [.iface (L.length+1) (jw1 L),nI x6'.2.1]))/\jwa L n x3 x5 x6 x6')/\jwq x6 r7 x6')))))) (((x5.1.length+1)*48<=2 ^ 44/\1≠0/\(x5.1.length<=x5.1.length/\0+x5.1.length*4<=List.length (x5.1.flatMap chC))/\(1<=1/\0+1*4<=List.length (jwn L n x3 x5 x6))/\((((jwn L n x3 x5 x6).drop 0).take (1*4)):List Value).all (fun v=>du v)=true)/\true=true/\(nw ((jw5 x5)+1) (∃x5':List Cht×Int×Nat,(x5'.2.2<=hrs/\List.length x5'.1=x5'.2.2/\wu (wtW L n) (wtH L n) (dN L x3.2.1 500) (jw4 L n).length x5'.1/\(x3.2.1+1)<=x5'.2.1/\x5'.2.1<=(x3.2.1+1)+300*((x5'.2.2:Nat):Int))/\(hrs-x5'.2.2)<(hrs-x5.2.2)/\true=true/\((nI ((jw5 x5)+1):Value)=nI ((x5'.2.2:Nat):Int)/\eR (pt 7)/\eR (pt 2)/\eR (pt 1)/\eR (nI (jwy hrs))/\eR (nI (dN L x3.2.1 500))/\True)/\((kbq 9 (.cells true 0 (jwu L x6)) (.cells true 0 [.iface (L.length+1) (jw1 L),nI x5'.2.1]))/\wkO (.cells true 0 [nI (wtW L n),nI (wtH L n),slQ 3 1 (jw4 L n).length,slN 13 (x5.1.length+1),slQ 8 1 x3.1.length,nI r1.1.cls,nI r1.1.pow,nI r1.1.dra,nI r1.1.ton,slQ 4 1 r1.1.th.length,slQ 5 1 r1.1.wa.length,slQ 6 1 r1.1.ic.length,nI r1.1.slow,nI r1.1.aB,nI r1.1.rdg,nI r1.1.prs,nI (1+(dN L r1.2 120)),nI 0,nI 0]:aa) (rno (sg 9 [(9,13)]) 3 (.cells true 0 [nI (wtW L n),nI (wtH L n),slQ 3 1 (jw4 L n).length,slQ 9 1 x5'.1.length,slQ 8 1 x3.1.length,nI r1.1.cls,nI r1.1.pow,nI r1.1.dra,nI r1.1.ton,slQ 4 1 r1.1.th.length,slQ 5 1 r1.1.wa.length,slQ 6 1 r1.1.ic.length,nI r1.1.slow,nI r1.1.aB,nI r1.1.rdg,nI r1.1.prs,nI (1+(dN L r1.2 120)),nI 0,nI 0]:aa))/\True)/\((kbq 9 (.cells true 4 ((((x5.1.flatMap chC).drop 0).take (x5.1.length*4))++(((jwn L n x3 x5 x6).drop 0).take (1*4)))) (.cells true 4 (x5'.1.flatMap chC)))/\True)/\(True))))))) (((ac (.cells true 0 (jwt L x5)))/\True)/\(∀H':Heap,H'.length=10->(H'[1]?=some (.cells true 0 (jwt L x5):aa)/\True)->ae prog 13 [pt 1,nI (jwe L n)] H' [1] (Is (nI (dN L x5.2.1 (jwe L n))) (List.set H' 1 (.cells true 0 [.iface (L.length+1) (jw1 L),nI (x5.2.1+1)]:aa))))/\((ixq (dN L x5.2.1 (jwe L n)) (jw4 L n).length)/\((((jw4 L n).flatMap af)[(0+Int.toNat (dN L x5.2.1 (jwe L n))*1)]?=some (.bool ((jw4 L n).getD (dN L x5.2.1 (jwe L n)).toNat false)))/\(fk ((jw4 L n).getD (dN L x5.2.1 (jwe L n)).toNat false) (∃x:Pl×Int,(jwf x hrs n)/\(true=true/\wk (.agg #[nI (wtW L n),nI (wtH L n),slQ 3 1 (jw4 L n).length,slQ 9 1 x5.1.length,slQ 8 1 x3.1.length,nI r1.1.cls,nI r1.1.pow,nI r1.1.dra,nI r1.1.ton,slQ 4 1 r1.1.th.length,slQ 5 1 r1.1.wa.length,slQ 6 1 r1.1.ic.length,nI r1.1.slow,nI r1.1.aB,nI r1.1.rdg,nI r1.1.prs,nI (1+(dN L r1.2 120)),nI 0,nI 0]:Value) (jw6 x)/\jw2 L x5 x n x3 r1)) (∃x:Pl×Int,(jwf x hrs n)/\(true=true/\wk (.agg #[nI (wtW L n),nI (wtH L n),slQ 3 1 (jw4 L n).length,slQ 9 1 x5.1.length,slQ 8 1 x3.1.length,nI r1.1.cls,nI r1.1.pow,nI r1.1.dra,nI r1.1.ton,slQ 4 1 r1.1.th.length,slQ 5 1 r1.1.wa.length,slQ 6 1 r1.1.ic.length,nI r1.1.slow,nI r1.1.aB,nI r1.1.rdg,nI r1.1.prs,nI (1+(dN L r1.2 120)),nI 0,nI (dN L x5.2.1 (jwe L n))]:Value) (jw6 x)/\jw2 L x5 x n x3 r1)))))))))))))))))
abbrev jwp(x6:List Cell×Int×Nat):Hint:=.need (.go 3 (.slot 60 (nI ((jwg x6)+1)) (.go 0 (.again [(11,14)]))))
abbrev jww:Hint:=.keep (.again [(2,3),(3,9),(4,8),(5,4),(6,5),(7,6)])
theorem Io(L:List Int)(n:Int)(hrs:Nat):vF prog msk (dm 0) 100000 true 40 true 7 [pt 1,nI (jwy hrs)] (aI [.cells false 0 jw3,.cells true 0 (jwr L n)]) (some [1])
 (.go 1 (.cx [(0,.cells false 0 jw3),(1,.cells true 0 (jwr L n))] [1] (Unit) (fun r0=>True) (fun r0 => .agg #[nI (wtW L n),nI (wtH L n),slQ 3 1 (jw4 L n).length]) (fun r0=>[(1,.cells true 0 (jwh L n))]) (fun r0=>[.cells true 1 ((jw4 L n).flatMap af)]) (fun r0 => .go 0 (.cx [(0,.cells false 0 jw3),(1,.cells true 0 (jwh L n))] [1] (Shp×Int) (fun r1=>(aZ r1.1=0/\(wtD n (wtK L n))<=r1.2/\r1.2<=(wtD n (wtK L n))+40)) (fun r1 => .agg #[nI r1.1.cls,nI r1.1.pow,nI r1.1.dra,nI r1.1.ton,slQ 4 1 r1.1.th.length,slQ 5 1 r1.1.wa.length,slQ 6 1 r1.1.ic.length,nI r1.1.slow,nI r1.1.aB,nI r1.1.rdg,nI r1.1.prs]) (fun r1=>[(1,.cells true 0 (A1 L r1))]) (fun r1=>[.cells true 2 (r1.1.th.flatMap ptC),.cells true 2 (r1.1.wa.flatMap ptC),.cells true 2 (r1.1.ic.flatMap ptC)]) (fun r1 => .go 0 (.dO [(1,.cells true 0 (A1 L r1))] (nI (dN L r1.2 120)) [(1,.cells true 0 [.iface (L.length+1) (jw1 L),nI (r1.2+1)])] [] (.go 0 (.slot 18 (nI (1+(dN L r1.2 120))) (.go 3 (.inv 3 (List Bool×Int×Nat) ((jw9 r1)) [] [1,7] (fun x3=>[(6,nI ((x3.2.2:Nat):Int)),(1,nI (jwy hrs)),(0,pt 1),(4,pt 2),(5,pt 7)]) (fun x3=>[(1,true,.cells true 0 (jwi L x3)),(7,false,.cells true 0 (jwd L n x3 r1))]) (fun x3=>[(true,.cells true 1 (x3.1.flatMap af))]) (fun x3=>[]) (fun x3=>(x3.2.2<=(jw4 L n).length/\List.length x3.1=x3.2.2/\(r1.2+1)<=x3.2.1/\x3.2.1<=(r1.2+1)+((x3.2.2:Nat):Int))) (fun x3=>((jw4 L n).length-x3.2.2)) (fun x3 => .go 5 (.fork (.go 2 (.dO [(1,.cells true 0 (jwi L x3))] (nI (dN L x3.2.1 4)) [(1,.cells true 0 (jwj L x3))] [] (.go 1 (.need (.go 3 (.slot 27 (nI (((x3.2.2:Nat):Int)+1)) (.go 0 (.again [(8,10)])))))))) (.go 0 (.dO [(1,.cells true 0 (jwi L x3))] (nI (dN L x3.2.1 500)) [(1,.cells true 0 (jwj L x3))] [] (.go 1 (.inv 3 (List Cht×Int×Nat) ((jw8 x3)) [] [1,7] (fun x5=>[(8,nI (jw5 x5)),(5,pt 7),(4,pt 2),(0,pt 1),(1,nI (jwy hrs)),(7,nI (dN L x3.2.1 500))]) (fun x5=>[(1,true,.cells true 0 (jwt L x5)),(7,false,.cells true 0 [nI (wtW L n),nI (wtH L n),slQ 3 1 (jw4 L n).length,slQ 9 1 x5.1.length,slQ 8 1 x3.1.length,nI r1.1.cls,nI r1.1.pow,nI r1.1.dra,nI r1.1.ton,slQ 4 1 r1.1.th.length,slQ 5 1 r1.1.wa.length,slQ 6 1 r1.1.ic.length,nI r1.1.slow,nI r1.1.aB,nI r1.1.rdg,nI r1.1.prs,nI (1+(dN L r1.2 120)),nI 0,nI 0])]) (fun x5=>[(true,.cells true 4 (x5.1.flatMap chC))]) (fun x5=>[]) (fun x5=>(x5.2.2<=hrs/\jwx x5 L n x3)) (fun x5=>(hrs-x5.2.2)) (fun x5 => .go 2 (.fork (.go 8 (.slot 51 (nI ((dN L x3.2.1 500)+(jw5 x5))) (.go 3 (.inv 3 (List Cell×Int×Nat) ((jwc x5)) [] [1,10] (fun x6=>[(10,nI (jwg x6)),(7,nI (dN L x3.2.1 500)),(1,nI (jwy hrs)),(0,pt 1),(4,pt 2),(5,pt 7),(8,nI (jw5 x5)),(9,pt 10)]) (fun x6=>[(1,true,.cells true 0 (jwu L x6)),(10,false,.cells true 0 [nI (wtW L n),nI (wtH L n),nI ((dN L x3.2.1 500)+(jw5 x5)),slQ 11 1 x6.1.length])]) (fun x6=>[(true,.cells true 8 (x6.1.flatMap cellC))]) (fun x6=>[]) (fun x6=>(x6.2.2<=(jw4 L n).length/\eM x6.2.2 x6.1/\x5.2.1<=x6.2.1/\x6.2.1<=x5.2.1+10*(jwg x6))) (fun x6=>((jw4 L n).length-x6.2.2)) (fun x6 => .go 5 (.fork (.go 0 (.cx [(0,.cells false 0 jw3),(1,.cells true 0 (jwu L x6))] [1] (Cell×Int) (fun r7=>(bv r7.1/\x6.2.1<=r7.2/\r7.2<=x6.2.1+9)) (fun r7 => .agg #[nI r7.1.aW.lo,nI r7.1.aW.hi,nI r7.1.ai.lo,nI r7.1.ai.hi,nI r7.1.aw.lo,nI r7.1.aw.hi,nI r7.1.am.lo,nI r7.1.am.hi]) (fun r7=>[(1,.cells true 0 (jws L r7))]) (fun r7=>[]) (fun r7 => .go 4 (.aH (.go 0 (.dO [(1,.cells true 0 (jws L r7))] (nI (dN L r7.2 3)) [(1,.cells true 0 (jwv L r7))] [] (.go 1 (.fork (.go 3 (.slot 73 (nI ((jw5 x5)-1)) (.need (.go 0 (.val (jwo x5) (.go 0 (.need (.val (jwl x5 x6) (.go 4 (jwp x6)))))))))) (.go 3 (jwp x6)))))) (.go 5 (jwp x6)))))) (.go 2 (.tab [.tog 88 3] (.go 0 (.need (.go 3 (.slot 42 (nI ((jw5 x5)+1)) (.go 0 (.again [(9,13)])))))))))))))) (.go 4 (.dO [(1,.cells true 0 (jwt L x5))] (nI (dN L x5.2.1 (jwe L n))) [(1,.cells true 0 [.iface (L.length+1) (jw1 L),nI (x5.2.1+1)])] [] (.go 6 (.need (.val (.bool ((jw4 L n).getD (dN L x5.2.1 (jwe L n)).toNat false)) (.fork (.go 3 jww) (.go 1 jww)))))))))))))))))))))))))
 (dh (α:=Pl×Int) ((aI [.cells false 0 jw3,.cells true 0 (jwr L n)]):HT).n 3 [1] (fun x=>(jwf x hrs n)) (fun x => .agg #[nI x.1.w,nI x.1.h,slQ 2 1 x.1.land.length,slQ 3 1 x.1.cts.length,slQ 4 1 x.1.chan.length,nI x.1.shp.cls,nI x.1.shp.pow,nI x.1.shp.dra,nI x.1.shp.ton,slQ 5 1 x.1.shp.th.length,slQ 6 1 x.1.shp.wa.length,slQ 7 1 x.1.shp.ic.length,nI x.1.shp.slow,nI x.1.shp.aB,nI x.1.shp.rdg,nI x.1.shp.prs,nI x.1.size,nI x.1.frm,nI x.1.to]) (fun x=>[(1,true,.cells true 0 [.iface (L.length+1) (jw1 L),nI x.2])]) (fun x=>[(true,.cells true 1 (x.1.land.flatMap af)),(true,.cells true 4 (x.1.cts.flatMap chC)),(true,.cells true 1 (x.1.chan.flatMap af)),(true,.cells true 2 (x.1.shp.th.flatMap ptC)),(true,.cells true 2 (x.1.shp.wa.flatMap ptC)),(true,.cells true 2 (x.1.shp.ic.flatMap ptC))]))=EY L n hrs:=by kernel_rfl
theorem v4{p:Pl}(b:fM p.w p.h p.land.length=0)(c:1<=p.cts.length/\p.cts.length<=48)(e:∀i,i<p.cts.length->cB p i=0)(n:p.chan.length=p.land.length)(s:aZ p.shp=0)(z:1<=p.size/\p.size<=500)(f:dE p.land p.frm=true)(t:dE p.land p.to=true):bQ p=0:=by
 unfold bQ
 rw[b,cj rfl,bc.2 (show (1:Int)<=((p.cts.length:Nat):Int)/\((p.cts.length:Nat):Int)<=48 by omega),if_neg (by decide),gQ e,cj rfl,if_neg (by simp[n]),s,cj rfl,bc.2 z,if_neg (by decide),f,t]
 rfl
theorem zj:eM 0 []:=⟨rfl,fun k hk=>by cases hk⟩
theorem jL{n:Nat}{l:List Cell}{c:Cell}(h:eM n l)(hc:bv c):eM (n+1) (l ++ [c]):=by
 refine ⟨by rw[aE,h.1];rfl,fun k hk =>?_⟩
 rw[List.getD_eq_getElem?_getD]
 by_cases e:k<l.length
 ·rw[List.getElem?_append_left e,<- List.getD_eq_getElem?_getD];exact h.2 k e
 ·have hk':k=l.length:=by rw[aE]at hk;simp at hk;omega
  rw[hk',List.getElem?_append_right (Nat.le_refl _),Nat.sub_self];exact hc
theorem DW(w h b:Int)(nl:Nat):wu w h b nl []:=fun i hi=>by cases hi
theorem BJ{w h b:Int}{nl:Nat}{cs:List Cht}{l:List Cell}(c:wu w h b nl cs)(hl:eM nl l):wu w h b nl (cs ++ [⟨w,h,b+(cs.length:Int),l⟩]):=by
 intro i hi
 rw[List.getD_eq_getElem?_getD]
 by_cases e:i<cs.length
 ·rw[List.getElem?_append_left e,<- List.getD_eq_getElem?_getD];exact c i e
 ·have hk':i=cs.length:=by rw[aE]at hi;simp at hi;omega
  rw[hk',List.getElem?_append_right (Nat.le_refl _),Nat.sub_self];exact ⟨rfl,rfl,rfl,hl⟩
theorem ze{l:List Cell}(h:∀k,k<l.length->bv (l.getD k ak)):errs aP l=0:=by
 induction l with
 |nil=>rfl
 |cons x l ih =>
  show (if aP x=0 then errs aP l else aP x)=0
  rw[if_pos (e8.2 (show bv x from h 0 (Nat.succ_pos _)))]
  exact ih fun k hk=>h (k+1) (Nat.succ_lt_succ hk)
theorem DX{p:Pl}{b:Int}(hb:0<=b/\b+48<=10000)(bo:fM p.w p.h p.land.length=0)(hc:p.cts.length<=48)(c:wu p.w p.h b p.land.length p.cts):∀i,i<p.cts.length->cB p i=0:=by
 intro i hi
 have B:=EU bo
 obtain ⟨c1,c2,c3,c4⟩:=c i hi
 obtain ⟨_,_,d3,_⟩:=c 0 (by omega)
 have hn:=B.n1
 have hs:eL (p.cts.getD i zCh).w (p.cts.getD i zCh).h (p.cts.getD i zCh).hr=0:=by
  rw[iE,c1,c2,c3]
  exact ⟨B.w1,B.h1,B.p1,by omega,by omega⟩
 unfold cB cL
 dsimp only
 rw[hs,cj rfl,c4.1,c1,c2,if_pos hn,ze c4.2,cj rfl,if_pos ⟨rfl,rfl⟩,if_pos (by rw[c3,d3];omega)]
abbrev plK(p:Pl)(j:Nat):Value:=.agg #[.int .i64 p.w,.int .i64 p.h,.slice (some ⟨j,0,some 1⟩) p.land.length p.land.length,.slice (some ⟨j+1,0,some 1⟩) p.cts.length p.cts.length,.slice (some ⟨j+2,0,some 1⟩) p.chan.length p.chan.length,.int .i64 p.shp.cls,.int .i64 p.shp.pow,.int .i64 p.shp.dra,.int .i64 p.shp.ton,.slice (some ⟨j+3,0,some 1⟩) p.shp.th.length p.shp.th.length,.slice (some ⟨j+4,0,some 1⟩) p.shp.wa.length p.shp.wa.length,.slice (some ⟨j+5,0,some 1⟩) p.shp.ic.length p.shp.ic.length,.int .i64 p.shp.slow,.int .i64 p.shp.aB,.int .i64 p.shp.rdg,.int .i64 p.shp.prs,.int .i64 p.size,.int .i64 p.frm,.int .i64 p.to]
abbrev plN(p:Pl):List aa:=[.cells true 1 (p.land.flatMap af),.cells true 4 (p.cts.flatMap chC),.cells true 1 (p.chan.flatMap af),.cells true 2 (p.shp.th.flatMap ptC),.cells true 2 (p.shp.wa.flatMap ptC),.cells true 2 (p.shp.ic.flatMap ptC)]
theorem CW(p:Pl):f8 (plN p):=⟨⟨_,_,rfl,bh _ _⟩,⟨_,_,rfl,eh _ _⟩,⟨_,_,rfl,bh _ _⟩,⟨_,_,rfl,cb _ _⟩,⟨_,_,rfl,cb _ _⟩,⟨_,_,rfl,cb _ _⟩,trivial⟩
set_option maxHeartbeats 1000000 in
theorem Hw{L:List Int}{n:Int}(hn:0<=n/\n<=800000000){hrs:Nat}(hh:1<=hrs/\hrs<=48){H:Heap}{D:Nat}(hD:D≠0)(h0:H[0]?=some bF)(h1:H[D]?=some (dgO L n)) :
  ae prog 7 [.pointer (some ⟨D,0,none⟩),.int .i64 (hrs:Int)] H [D] (fun y H2 => ∃x:Pl×Int,(bQ x.1=0/\x.1.cts.length=hrs/\0<=x.2/\x.2<=n+100000/\(x.1.cts.getD 0 zCh).hr<=499)/\y=plK x.1 H.length/\H2=H.set D (dgO L x.2)++plN x.1):=by
 refine CD (α:=Pl×Int) (I:=fun x=>bQ x.1=0/\x.1.cts.length=hrs/\0<=x.2/\x.2<=n+100000/\(x.1.cts.getD 0 zCh).hr<=499) (fun x j=>plK x.1 j) (d:=fun x=>x.2) (new:=fun x=>plN x.1) (Eq.mpr (Io L n hrs) ?_) (fun _ _=>rfl) (fun x _=>CW x.1) hD (fun x j _=>by simp[plK,rn,bL]) h0 h1 rfl
 have hm:=zr L n
 have hwb:=zt L n
 have hk:wtK L n=Int.toNat (wtW L n*wtH L n):=rfl
 have hl:=ww L n (wtK L n)
 obtain ⟨kk,hkk⟩:∃kk,wtK L n=kk+1:=⟨wtK L n-1,by omega⟩
 have hd:wtD n (wtK L n)=n+2+(kk:Int):=by rw[hkk];rfl
 delta EY jwz jwr jw3 jw4 jwh jw1 A1 jw9 jwy jwe jwi jwj jw8 jwd jwx jw5 jwc jwb jwt jwg jwu jws jwv jwo jwl jwm jwk jwa jw7 jwq jwn jwf jw6 jw2 jw0 nI slQ pt slN ac fk nw eR kbq ixq apq
 refine ⟨⟨rfl,rfl,trivial⟩,fun H' hl' h=>hl' ▸ C8 (by omega) (by decide) h.1 h.2.1,fun _ _=>⟨⟨rfl,rfl,trivial⟩,fun H' hl' h=>by have k:=Hu (L:=L) (n:=wtD n (wtK L n)) (by omega) (D:=1) (by decide) h.1 h.2.1;rw[hl']at k;exact k,fun r1 hr1 =>?_⟩⟩
 have JG:=fh L r1.2 (m:=120) (by omega)
 refine ⟨⟨rfl,trivial⟩,fun H' hl' h=>bJ (by omega) (by omega) (by omega) h.1,ag (by omega),rfl,⟨Nat.zero_le _,rfl,by dsimp only;omega,by dsimp only;omega⟩,⟨rfl,?_⟩,fun _=>rfl,fun x hx=>⟨fun q =>?_,fun q =>?_⟩⟩
 ·repeat' first|exact bg _ _ _|exact trivial|exact ad _|refine aN ?_|refine aQ ?_ ?_|exact ed _ _ _ (.inl rfl)|refine ⟨rfl,?_⟩|refine ⟨trivial,?_⟩|apply And.intro
 ·have hq:=aR q
  refine ⟨⟨rfl,trivial⟩,fun H' hl' h=>bJ (by omega) (by omega) (by omega) h.1,⟨by omega,by decide,⟨Nat.le_refl _,by rw[aC bt];omega⟩,⟨Nat.le_refl _,by simp⟩,rfl⟩,rfl,ag (by omega),(x.1 ++ [dN L x.2.1 4 == 0],x.2.1+1,x.2.2+1),⟨by dsimp only;omega,by dsimp only;rw[aE,hx.2.1];rfl,by dsimp only;omega,by dsimp only;omega⟩,by show _-(x.2.2+1)<_;omega,rfl,?_⟩
  repeat' first|exact bg _ _ _|exact cD rfl|exact bN bt rfl rfl|exact bh _ _|exact trivial|exact ad _|refine aN ?_|refine aQ ?_ ?_|refine ⟨rfl,?_⟩|apply And.intro
 have hq:=aV q
 have Jt:=fh L x.2.1 (m:=500) (by omega)
 refine ⟨⟨rfl,trivial⟩,fun H' hl' h=>bJ (by omega) (by omega) (by omega) h.1,rfl,⟨Nat.zero_le _,rfl,DW _ _ _ _,by dsimp only;omega,by dsimp only;omega⟩,⟨rfl,?_⟩,fun _=>rfl,fun y hy=>⟨fun q2 =>?_,fun q2 =>?_⟩⟩
 ·repeat' first|exact bg _ _ _|exact trivial|exact ad _|refine aN ?_|refine aQ ?_ ?_|exact ed _ _ _ (.inl rfl)|refine ⟨rfl,?_⟩|refine ⟨trivial,?_⟩|apply And.intro
 ·have hq2:=aR q2
  have hyl:=hy.2.1
  have cy:=hy.2.2.1
  refine ⟨ag (by omega),rfl,⟨Nat.zero_le _,zj,by dsimp only;omega,by dsimp only;omega⟩,⟨rfl,?_⟩,fun _=>rfl,fun z hz=>⟨fun q3 =>?_,fun q3 =>?_⟩⟩
  ·repeat' first|exact bg _ _ _|exact trivial|exact ad _|refine aN ?_|refine aQ ?_ ?_|exact ed _ _ _ (.inl rfl)|refine ⟨rfl,?_⟩|refine ⟨trivial,?_⟩|apply And.intro
  ·have hq3:=aR q3
   have hzl:=hz.2.1.1
   have again:∀(c:Cell) (d:Int),bv c->y.2.1<=d->d<=y.2.1+10*((z.2.2+1:Nat):Int)->True:=fun _ _ _ _ _=>trivial
   refine ⟨⟨rfl,rfl,trivial⟩,fun H' hl' h=>HB (by omega) (by decide) h.1 h.2.1,fun r hr=>⟨fun s =>?_,fun s =>?_⟩⟩
   ·have hs:=aR s
    refine ⟨⟨rfl,trivial⟩,fun H' hl' h=>bJ (by omega) (by omega) (by omega) h.1,fun u =>?_,fun u =>?_⟩
    ·have hp:Int.toNat ((y.2.2:Int)-1)<y.1.length:=by omega
     have hcl:=(cy _ hp).2.2.2
     refine ⟨ag (by omega),by omega,fZ (c:=3) (d:=zCh) fj hp (by omega) rfl,by rw[hcl.1];omega,Ag (by rw[hcl.1];omega) (by omega),⟨by omega,by decide,⟨Nat.le_refl _,by rw[aC df];omega⟩,⟨Nat.le_refl _,by simp⟩,rfl⟩,rfl,ag (by omega),(z.1 ++ [(y.1.getD (Int.toNat ((y.2.2:Int)-1)) zCh).cells.getD z.2.2 ak],r.2+1,z.2.2+1),⟨by dsimp only;omega,jL hz.2.1 (hcl.2 _ (by rw[hcl.1];omega)),by dsimp only;omega,by dsimp only;omega⟩,by show _-(z.2.2+1)<_;omega,rfl,?_⟩
     repeat' first|exact bg _ _ _|exact cD rfl|exact bN df rfl rfl|exact kX _ _|exact trivial|exact ad _|refine aN ?_|refine aQ ?_ ?_|refine ⟨rfl,?_⟩|apply And.intro
    ·refine ⟨⟨by omega,by decide,⟨Nat.le_refl _,by rw[aC df];omega⟩,⟨Nat.le_refl _,by simp⟩,rfl⟩,rfl,ag (by omega),(z.1 ++ [r.1],r.2+1,z.2.2+1),⟨by dsimp only;omega,jL hz.2.1 hr.1,by dsimp only;omega,by dsimp only;omega⟩,by show _-(z.2.2+1)<_;omega,rfl,?_⟩
     repeat' first|exact bg _ _ _|exact cD rfl|exact bN df rfl rfl|exact kX _ _|exact trivial|exact ad _|refine aN ?_|refine aQ ?_ ?_|refine ⟨rfl,?_⟩|apply And.intro
   ·refine ⟨⟨by omega,by decide,⟨Nat.le_refl _,by rw[aC df];omega⟩,⟨Nat.le_refl _,by simp⟩,rfl⟩,rfl,ag (by omega),(z.1 ++ [r.1],r.2,z.2.2+1),⟨by dsimp only;omega,jL hz.2.1 hr.1,by dsimp only;omega,by dsimp only;omega⟩,by show _-(z.2.2+1)<_;omega,rfl,?_⟩
    repeat' first|exact bg _ _ _|exact cD rfl|exact bN df rfl rfl|exact kX _ _|exact trivial|exact ad _|refine aN ?_|refine aQ ?_ ?_|refine ⟨rfl,?_⟩|apply And.intro
  ·have hq3:=aV q3
   have hz2:eM (wtL L n (wtK L n)).length z.1:=by rw[show (wtL L n (wtK L n)).length=z.2.2 by omega];exact hz.2.1
   have hc:=BJ cy hz2
   rw[hyl]at hc
   refine ⟨⟨by omega,by decide,⟨Nat.le_refl _,by rw[aC fj];omega⟩,⟨Nat.le_refl _,by simp⟩,rfl⟩,rfl,ag (by omega),(y.1 ++ [⟨wtW L n,wtH L n,dN L x.2.1 500+(y.2.2:Int),z.1⟩],z.2.1,y.2.2+1),⟨by dsimp only;omega,by dsimp only;rw[aE,hyl];rfl,hc,by dsimp only;omega,by dsimp only;omega⟩,by show _-(y.2.2+1)<_;omega,rfl,?_⟩
   repeat' first|exact bg _ _ _|exact cD rfl|exact bN fj rfl rfl|exact eh _ _|exact trivial|exact ad _|refine aN ?_|refine aQ ?_ ?_|refine ⟨rfl,?_⟩|apply And.intro
 have hq2:=aV q2
 have hyh:y.2.2=hrs:=by omega
 have hyl:=hy.2.1
 have bto:=fh L y.2.1 (m:=(((wtL L n (wtK L n)).length:Nat):Int)) (by omega)
 have hr0:(y.1.getD 0 zCh).hr<=499:=by have:=(hy.2.2.1 0 (by omega)).2.2.1;have:=Jt;omega
 have bo:fM (wtW L n) (wtH L n) (wtL L n (wtK L n)).length=0:=by
  unfold fM
  rw[if_pos ⟨⟨by omega,by omega⟩,⟨by omega,by omega⟩,by omega⟩,if_pos (by rw[hl,hk];omega)]
 have EJ:(wtL L n (wtK L n)).getD 0 false=false:=by
  rw[hkk]
  unfold wtL
  rw[List.range_succ_eq_map];rfl
 have ok:∀t:Int,(0<=t/\t<(((wtL L n (wtK L n)).length:Nat):Int))->(wtL L n (wtK L n)).getD (Int.toNat t) false=false->bQ ⟨wtW L n,wtH L n,wtL L n (wtK L n),y.1,x.1,r1.1,1+dN L r1.2 120,0,t⟩=0:=fun t ht hs=>by
  refine v4 bo ⟨by show 1<=y.1.length;omega,by show y.1.length<=48;omega⟩ (DX (b:=dN L x.2.1 500) (by omega) bo (by show y.1.length<=48;omega) hy.2.2.1) (by dsimp only;omega) hr1.1 (by dsimp only;omega) ?_ ?_
  ·exact ig.2 ⟨by dsimp only;omega,EJ⟩
  ·exact ig.2 ⟨ht,hs⟩
 refine ⟨⟨rfl,trivial⟩,fun H' hl' h=>bJ (by omega) (by omega) (by omega) h.1,by omega,dl (by omega) (by omega),fun s =>?_,fun s =>?_⟩
 ·refine ⟨(⟨wtW L n,wtH L n,wtL L n (wtK L n),y.1,x.1,r1.1,1+dN L r1.2 120,0,0⟩,y.2.1+1),⟨ok 0 (by omega) EJ,by show y.1.length=hrs;omega,by show 0<=y.2.1+1;omega,by show y.2.1+1<=n+100000;omega,hr0⟩,rfl,?_⟩
  repeat' first|exact bg _ _ _|exact bh _ _|exact eh _ _|exact cb _ _|exact trivial|exact ad _|refine ⟨rfl,?_⟩|apply And.intro
 ·refine ⟨(⟨wtW L n,wtH L n,wtL L n (wtK L n),y.1,x.1,r1.1,1+dN L r1.2 120,0,dN L y.2.1 (((wtL L n (wtK L n)).length:Nat):Int)⟩,y.2.1+1),⟨ok _ bto s,by show y.1.length=hrs;omega,by show 0<=y.2.1+1;omega,by show y.2.1+1<=n+100000;omega,hr0⟩,rfl,?_⟩
  repeat' first|exact bg _ _ _|exact bh _ _|exact eh _ _|exact cb _ _|exact trivial|exact ad _|refine ⟨rfl,?_⟩|apply And.intro
end
end Go.Proofs.YtmecpfikljhjaaaDoor
namespace Go.Proofs.YtmecpfikljhjaaaDoor
noncomputable section
attribute [local irreducible] vF
abbrev pl1(p:Pl)(l c n t w i:Nat):Value:=.agg ⟨[nI p.w,nI p.h,slQ l 1 p.land.length,slR c p.cts.length,slQ n 1 p.chan.length,nI p.shp.cls,nI p.shp.pow,nI p.shp.dra,nI p.shp.ton,slQ t 1 p.shp.th.length,slQ w 1 p.shp.wa.length,slQ i 1 p.shp.ic.length,nI p.shp.slow,nI p.shp.aB,nI p.shp.rdg,nI p.shp.prs,nI p.size,nI p.frm,nI p.to]⟩
theorem wkP(p:Pl)(l c n t w i:Nat):wk (pl1 p l c n t w i) (plV p l c n t w i) :=
 jS ⟨ad _,ad _,jf,ad _,jf,ad _,ad _,ad _,ad _,jf,jf,jf,ad _,ad _,ad _,ad _,ad _,ad _,ad _,trivial⟩
theorem sP{H:Heap}{p:Pl}{l c n t w i:Nat}{Q:Prop}(hd:[0,l,c,n,t,w,i].Nodup)(h:H[0]?=some bF/\H[l]?=some (.cells true 1 (p.land.flatMap af))/\H[c]?=some (.cells false 0 (p.cts.flatMap chC))/\H[n]?=some (.cells true 1 (p.chan.flatMap af)) /\
  H[t]?=some (.cells true 2 (p.shp.th.flatMap ptC))/\H[w]?=some (.cells true 2 (p.shp.wa.flatMap ptC))/\H[i]?=some (.cells true 2 (p.shp.ic.flatMap ptC))/\Q):gU H p l c n t w i :=
 ⟨hd,h.1,h.2.1,h.2.2.1,h.2.2.2.1,h.2.2.2.2.1,h.2.2.2.2.2.1,h.2.2.2.2.2.2.1⟩
section
variable {p:Pl} {H:Heap} {l c n t w i z:Nat}
theorem Js(e0:bQ p=0)(hn:H.length=z)(a:gU H p l c n t w i) :
  ae prog 8 [pl1 p l c n t w i] H [] (Is (.tuple #[.slice (some ⟨z,0,some 1⟩) (bi p).length (bi p).length,.int .i64 (bl p),.int .i64 (bI p)]) (H ++ [.cells true 4 ((bi p).flatMap lgC)])):=by
 subst hn;exact (FY (ip e0).lst e0 a).wkA ⟨wkP p l c n t w i,trivial⟩
end
theorem H9{L:List Int}{g:Int}(hg:1<=g/\g<=48){H:Heap}(hn:H.length=2)(h0:H[0]?=some bF)(h1:H[1]?=some (dgO L 0)) :
  ae prog 7 [.pointer (some ⟨1,0,none⟩),.int .i64 g] H [1] (fun y H2 => ∃x:Pl×Int,(bQ x.1=0/\((x.1.cts.length:Nat):Int)=g/\0<=x.2/\x.2<=0+100000)/\y=plK x.1 2/\H2=H.set 1 (dgO L x.2)++plN x.1):=by
 obtain ⟨k,rfl⟩:∃k:Nat,g=(k:Int):=⟨Int.toNat g,by omega⟩
 refine (Hw (L:=L) (n:=0) ⟨by omega,by omega⟩ (hrs:=k) ⟨by omega,by omega⟩ (by decide) h0 h1).post fun y H2 h =>?_
 obtain ⟨x,⟨a,b,c,d,_⟩,e,f⟩:=h
 exact ⟨x,⟨a,by omega,c,d⟩,by rw[e,hn],f⟩
end
end Go.Proofs.YtmecpfikljhjaaaDoor
namespace Go.K
open Go Go.ChangeShapes Go.WideShapes Go.ChangeAt Go.RowKit
variable {P:Program} {HH:Type} {enc:TypeId×Value->HH}
theorem u7{N n b0:Nat}{ts:List TypeId}{args:Array Value}{W:World}{ds:List (DataW HH)}{ps:List MemPlace}{held:Bool}(hG:P.globals.size=1)(zs:List Int){ty:TypeId}{fz:Nat×Nat}
  (h0:W.heap[0]?=some (.cells (zs.map fun z=>Value.int .i64 z).toArray ty fz)) (hplain:ts.all (CF P n)=true)
  (hok:∀(j:Nat) (t:TypeId) (v:Value),ts[j]?=some t->args.toList[j]?=some v->Value.okWide P W .any b0 t v) (h:DataW.TrodAll enc P W 0 (fun _=>true) held ts args.toList ds ps)
  (Jb:∀(H:Heap) (vs:List Value),jP P n ts vs->H[0]?=some (.cells false 0 (zs.map fun z=>Value.int .i64 z))->ae P N vs H [] (fun v _=>v = .bool true)) :
  Calls P N args W fun e W'=>e = .returned (.bool true)/\RowKit.Below W.heap.size W W':=by
 have hlt:0<W.heap.size:=by
  rcases Nat.lt_or_ge 0 W.heap.size with h|h
  ·exact h
  ·rw[Array.getElem?_eq_none h]at h0;cases h0
 have ho:∀(id:Nat) (o:aa),([aa.cells false 0 (zs.map fun z=>Value.int .i64 z)])[id]?=some o->id=0/\o = .cells false 0 (zs.map fun z=>Value.int .i64 z):=fun id o e=>by
  cases id with
  |zero=>exact ⟨rfl,(Option.some.inj e).symm⟩
  |succ id=>simp at e
 have hρ:∀(id:Nat) (r:RI),(if id=0 then some (⟨0,0,zs.length,0,false⟩:RI) else none)=some r->id=0/\r=⟨0,0,zs.length,0,false⟩:=fun id r e=>by
  split at e
  ·exact ⟨‹_›,(Option.some.inj e).symm⟩
  ·cases e
 have hr:Rel P W.heap.size ⟨fun id=>if id=0 then some ⟨0,0,zs.length,0,false⟩ else none,fun b=>match W.heap[b]? with|some (.cells m _ _)=>some m|_=>none,fun _ _=>none⟩ [aa.cells false 0 (zs.map fun z=>Value.int .i64 z)] W:=by
  refine ⟨Nat.le_refl _,fun g hg =>?_,fun id r h1 =>?_,fun id r h1 =>?_,fun id r o h1 h2 =>?_,fun id r o h1 h2 h3 =>?_,fun id id' r r' o o' h1 h1' h2 h2' h3 _ hne =>?_,fun b m hm=>⟨?_,fun id r o h1 h2 h3 =>?_⟩,gD.kb (fun _ _ _ h=>by cases h) (fun _ _ _ h=>by cases h) (fun F z cs h=>by have:=(ho F _ h).2;cases this)⟩
  ·obtain rfl:g=0:=by omega
   exact ⟨_,rfl,rfl,rfl⟩
  ·obtain ⟨rfl,_⟩:=hρ id r h1;exact Nat.zero_lt_one
  ·obtain ⟨rfl,rfl⟩:=hρ id r h1;exact hlt
  ·obtain ⟨rfl,rfl⟩:=hρ id r h1
   obtain ⟨_,rfl⟩:=ho 0 o h2
   refine ⟨rfl,rfl,_,ty,fz,h0,by simp,fun e=>(by cases e),fun i v e=>⟨v,?_,?_⟩⟩
   ·show (zs.map fun z=>Value.int .i64 z).toArray[i+0]?=some v
    simpa using e
   ·rw[List.getElem?_map,Option.map_eq_some_iff]at e
    obtain ⟨z,_,rfl⟩:=e
    exact .int _ _
  ·obtain ⟨_,rfl⟩:=ho id o h2;cases h3
  ·obtain ⟨rfl,_⟩:=hρ id r h1;obtain ⟨rfl,_⟩:=hρ id' r' h1';exact absurd rfl hne
  ·dsimp only at hm
   split at hm
   ·rename_i m' ty fz e;cases hm;exact ⟨ty,fz,e⟩
   ·cases hm
  ·obtain ⟨_,rfl⟩:=ho id o h2;cases h3
 have HI:Low W.heap.size ⟨fun id=>if id=0 then some ⟨0,0,zs.length,0,false⟩ else none,fun b=>match W.heap[b]? with|some (.cells m _ _)=>some m|_=>none,fun _ _=>none⟩ W :=
  ⟨fun b m ty fz _ hb=>by show (match W.heap[b]? with|some (.cells m _ _)=>some m|_=>none)=_;rw[hb],fun id r h1=>by obtain ⟨rfl,rfl⟩:=hρ id r h1;exact hlt⟩
 obtain ⟨ρ',H',vs',e,hv,g⟩:=wc rfl ts args.toList ds ps _ _ hplain hok h hr
 have HG:Low W.heap.size ρ' W:=⟨fun b m ty fz h1 h2=>e.le.mem b m (HI.1 b m ty fz h1 h2),fun id r h1=>e.rel.lt id r h1⟩
 obtain ⟨ws,hv2,g2⟩:=D3 e.rel HG ts vs' args.toList g hv
 obtain ⟨K,hK⟩:=e.pre
 have hh:H'[0]?=some (.cells false 0 (zs.map fun z=>Value.int .i64 z)):=by rw[hK];rfl
 refine callsIn_wide.1 (((Jb H' ws g2 hh).2 _ ρ' W args e.rel hv2).mono ?_)
 rintro en w' ⟨v,v',ρ3,H3,rfl,h1,h2,rfl⟩
 cases h1
 exact ⟨rfl,h2.below e.rel⟩
end Go.K
namespace Go.Proofs.YtmecpfikljhjaaaDoor
open Go Go.K Go.ChangeShapes Go.WideShapes Go.ChangeAt Go.RowKit
noncomputable section
theorem own:ownKnob Tryd.prog.godebug=none:=by kernel_rfl
theorem sized:ie Tryd.prog=true:=by kernel_rfl
abbrev known(t:TypeId):Prop:=t<Tryd.prog.types.size
theorem kids:Kids Tryd.prog known:=kids_rows (by kernel_rfl) (by kernel_rfl)
theorem iB{n:Nat}{t:TypeId}{ts:List TypeId}{vs:List Value}(h:jP Tryd.prog n (t :: ts) vs):∃v vs',vs=v :: vs'/\gV Tryd.prog n t v/\jP Tryd.prog n ts vs':=by
 cases vs with
 |nil=>exact h.elim
 |cons v vs=>exact ⟨v,vs,rfl,h.1,h.2⟩
theorem vW{n:Nat}{vs:List Value}(h:jP Tryd.prog n [] vs):vs=[]:=by
 cases vs with
 |nil=>rfl
 |cons v vs=>exact h.elim
theorem pJ{n:Nat}{c:List Value}(h:d8 Tryd.prog (n+1) 3 c):∃x:Int,c=[.int .i64 x]/\inI x:=by
 unfold d8 at h
 rw[show Tryd.prog.underlying 3=some (.int .i64) by kernel_rfl]at h
 obtain ⟨x,rfl,h1,h2⟩:=h
 refine ⟨x,rfl,?_⟩
 simp only[IntKind.min,IntKind.max,IntKind.signed,IntKind.bits]at h1 h2
 unfold inI
 simp at h1 h2
 omega
theorem vV{v:Value}(h:gV Tryd.prog 6 3 v):∃x:Int,v = .int .i64 x/\inI x:=by
 unfold gV at h
 rw[show Tryd.prog.underlying 3=some (.int .i64) by kernel_rfl]at h
 obtain ⟨x,h1,h2⟩:=pJ h
 exact ⟨x,by simpa using h1,h2⟩
theorem lP{v:Value}(h:gV Tryd.prog 6 22 v):∃L:List Int,v = .iface (L.length+1) (.agg ⟨L.flatMap aq⟩)/\L.length<=maxLen/\∀x∈L,inI x:=by
 unfold gV at h
 rw[show Tryd.prog.underlying 22=some (.slice 3) by kernel_rfl]at h
 unfold d8 at h
 rw[show Tryd.prog.underlying 22=some (.slice 3) by kernel_rfl]at h
 obtain ⟨len,ds,h1,h2,h3,h4⟩:=h
 obtain ⟨xs,e1,e2,e3⟩:=nL (f:=aq) (q:=inI) (fun c hc=>pJ (n:=4) hc) len ds h4
 subst e1 e2
 exact ⟨xs,by simpa using h1,h3,e3⟩
theorem Hf {W : World} (hL : laidMet Tryd.prog [("polynya/hull.strengths", Rows.laid_polynya_hull_strengths)] W) : ∃ ty fz, W.heap[0]? = some (.cells (zJ.map fun z => Value.int .i64 z).toArray ty fz) := by
 have hT:=Lib.tabIs_of_head (k:=.i64) (zs:=zJ) (g:=0) (t:=168) (e:=3) (n:=6) (by kernel_rfl) (by kernel_rfl) (by kernel_rfl) (by kernel_rfl) (by kernel_rfl) (by kernel_rfl) hL
 unfold Lib.TabIs World.var? at hT
 rw [show Tryd.prog.globalNamed "polynya/hull.strengths" = some 0 by kernel_rfl] at hT
 simp only[Option.bind_some]at hT
 split at hT
 ·rename_i cs ty fz e
  obtain rfl:=Option.some.inj hT
  exact ⟨ty,fz,e⟩
 ·cases hT
noncomputable def pz(os:Os):World :=
 let w0:=World.holding Tryd.prog os ⟨#[],#[],[]⟩
 { w0 with heap:=w0.heap.modify 0 fun
   | .cells _ t frozen => .cells (zJ.map fun z=>Value.int .i64 z).toArray t frozen
   |o=>o }
theorem oI (os : Os) (args : Array Value) : laidMet Tryd.prog [("polynya/hull.strengths", Rows.laid_polynya_hull_strengths)] ((pz os).forCall (fun _ _ => 0) ⟨#[], args, []⟩).memory :=
 laidMet_of_run' 8 (by kernel_rfl) (by kernel_rfl)
theorem dP(S:Nat->Option Nat)(n:Nat)(l:List Int):rn S 3 (.iface n (.agg ⟨l.flatMap aq⟩)) = .iface n (.agg ⟨l.flatMap aq⟩):=by
 show Value.iface _ (.agg ⟨(l.flatMap aq).map (rn S 2)⟩)=_
 rw[List.map_congr_left (g:=fun v=>v) fun v hv =>?_,List.map_id']
 obtain ⟨c,_,h⟩:=List.mem_flatMap.1 hv
 obtain rfl:=List.mem_singleton.1 h
 rfl
end
end Go.Proofs.YtmecpfikljhjaaaDoor
