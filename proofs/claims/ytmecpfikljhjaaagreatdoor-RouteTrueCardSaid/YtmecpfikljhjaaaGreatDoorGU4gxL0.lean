/- What is to be shown of functions. Printed by a program. No condition. -/
import Derived.Test.YtmecpfikljhjaaaGreatDoorGA15xA33
import Derived.Test.YtmecpfikljhjaaaGreatDoorGK27xA0
import Derived.Test.YtmecpfikljhjaaaGreatDoorGM4gxL1c
import Derived.Test.YtmecpfikljhjaaaGreatDoorCards
import Derived.Test.YtmecpfikljhjaaaGreatDoorTie
import Derived.JoinedCond
import Derived.JoinedOf
import Derived.Lib.LaidTab
import Derived.ChangeVars
import Derived.SevenTiedAt
open Go Go.K
set_option maxRecDepth 1000000
set_option maxHeartbeats 4000000
set_option linter.unusedVariables false
set_option linter.unusedSimpArgs false
namespace Go.Proofs.YtmecpfikljhjaaaGreatDoor
noncomputable section
attribute [local irreducible] vF
abbrev yr0:List Value:=[nI 4000,nI 8000,nI 14000,nI 24000,nI 40000,nI 90000]
abbrev yrg:aa:=.cells false 0 yr0
abbrev yre(N:List Int):Value:=.agg ⟨(N.flatMap bc)⟩
abbrev yro:aa:=.cells false 0 yr0
abbrev yrr(r1:Pl×Int)(hq:Int):Prop:=bO r1.1=0/\((List.length r1.1.cts:Nat):Int)=(1+(hq % 4))/\0<=r1.2/\r1.2<=0+100000
abbrev yri(r1:Pl×Int):=r1.1.land.flatMap af
abbrev yrf(r1:Pl×Int):=r1.1.cts.flatMap chC
abbrev yrj(r1:Pl×Int):=r1.1.chan.flatMap af
abbrev yrk(r1:Pl×Int):=r1.1.shp.th.flatMap ptC
abbrev yrl(r1:Pl×Int):=r1.1.shp.wa.flatMap ptC
abbrev yrm(r1:Pl×Int):=r1.1.shp.ic.flatMap ptC
abbrev yr3(r1:Pl×Int):Prop:=(ac yrg)/\(ac (.cells true 1 (yri r1)))/\(ac (.cells false 0 (yrf r1)))/\(ac (.cells true 1 (yrj r1)))/\(ac (.cells true 2 (yrk r1)))/\(ac (.cells true 2 (yrl r1)))/\(ac (.cells true 2 (yrm r1)))/\(ac (.cells true 4 ((aF r1.1).flatMap lgC)))/\True
abbrev yr2(H':Heap)(r1:Pl×Int):Prop:=H'[0]?=some yro/\H'[2]?=some (.cells true 1 (yri r1):aa)/\H'[8]?=some (.cells false 0 (yrf r1):aa)/\H'[4]?=some (.cells true 1 (yrj r1):aa)/\H'[5]?=some (.cells true 2 (yrk r1):aa)/\H'[6]?=some (.cells true 2 (yrl r1):aa)/\H'[7]?=some (.cells true 2 (yrm r1):aa)/\H'[10]?=some (.cells true 4 ((aF r1.1).flatMap lgC):aa)/\True
abbrev yr4(r1:Pl×Int):List Value:=[.agg #[nI r1.1.w,nI r1.1.h,slQ 2 1 r1.1.land.length,slQ 8 2 r1.1.cts.length,slQ 4 1 r1.1.chan.length,nI r1.1.shp.cls,nI r1.1.shp.pow,nI r1.1.shp.dra,nI r1.1.shp.ton,slQ 5 1 r1.1.shp.th.length,slQ 6 1 r1.1.shp.wa.length,slQ 7 1 r1.1.shp.ic.length,nI r1.1.shp.slow,nI r1.1.shp.aw,nI r1.1.shp.rdg,nI r1.1.shp.prs,nI r1.1.size,nI r1.1.frm,nI r1.1.to],slQ 10 1 (aF r1.1).length]
abbrev yrs(r1:Pl×Int):=cn r1.1 (aF r1.1)
abbrev yrp:Value:=.bool false
abbrev yr5:Nat×Int×List (List Ice):=(0,0,[])
abbrev yrq(r1:Pl×Int):Prop:=eR (.bool false)/\eR (pt 9)/\wR (slQ 10 1 (aF r1.1).length)/\eR (pt 11)/\True
abbrev yr7(M:List Int):Value:=.agg ⟨(M.flatMap bc)⟩
abbrev yrc(x5:Nat×Int×List (List Ice)):Int:=(x5.1:Nat)
abbrev yr9(x5:Nat×Int×List (List Ice)):Nat×Int×List Ice:=(0,x5.2.1,[])
abbrev yrh(r1:Pl×Int)(x5:Nat×Int×List (List Ice)):Prop:=eR (pt 11)/\wR (slQ 10 1 (aF r1.1).length)/\eR (pt 9)/\eR (.bool false)/\wR (slQ 12 1 x5.2.2.length)/\eR (nI (yrc x5))/\True
abbrev yrt(x6:Nat×Int×List Ice):Int:=(x6.1:Nat)
abbrev yr8(r1:Pl×Int)(x5:Nat×Int×List (List Ice)):Value:=.iface ((List.length (r1.1.cts.getD x5.1 zCh).cells)+1) (.agg ⟨(List.flatMap cellC (r1.1.cts.getD x5.1 zCh).cells)⟩)
abbrev yr1(r1:Pl×Int)(x5:Nat×Int×List (List Ice))(x6:Nat×Int×List Ice):=List.getD (r1.1.cts.getD x5.1 zCh).cells x6.1 az
abbrev yra(r1:Pl×Int)(x5:Nat×Int×List (List Ice))(x6:Nat×Int×List Ice):Value:=.agg #[nI (yr1 r1 x5 x6).ap.lo,nI (yr1 r1 x5 x6).ap.hi,nI (yr1 r1 x5 x6).ag.lo,nI (yr1 r1 x5 x6).ag.hi,nI (yr1 r1 x5 x6).ai.lo,nI (yr1 r1 x5 x6).ai.hi,nI (yr1 r1 x5 x6).ah.lo,nI (yr1 r1 x5 x6).ah.hi]
abbrev yrn(M:List Int)(x6:Nat×Int×List Ice):List Value:=[.iface (M.length+1) (yr7 M),nI x6.2.1]
abbrev yrb(x6:Nat×Int×List Ice):List Value:=[.iface (x6.2.2.length+1) (.agg ⟨(x6.2.2.flatMap ib)⟩)]
def wo(sp:Value)(N M:List Int)(hq:Int):Prop :=
 (c0q 2 26 [nI hq,nI 4] (nI (hq % 4)) (nw (1+(hq % 4)) (((ac yrg)/\(ac (.cells true 0 [.iface (N.length+1) (yre N),nI 0]))/\True)/\(∀H':Heap,H'.length=2->(H'[0]?=some yro/\H'[1]?=some (.cells true 0 [.iface (N.length+1) (yre N),nI 0]:aa)/\True)->ad prog 39 [pt 1,nI (1+(hq % 4))] H' [1] (fun y H2 => ∃z:Pl×Int,(bO z.1=0/\((List.length z.1.cts:Nat):Int)=(1+(hq % 4))/\0<=z.2/\z.2<=0+100000)/\y = .agg #[nI z.1.w,nI z.1.h,slQ 2 1 z.1.land.length,slQ 3 1 z.1.cts.length,slQ 4 1 z.1.chan.length,nI z.1.shp.cls,nI z.1.shp.pow,nI z.1.shp.dra,nI z.1.shp.ton,slQ 5 1 z.1.shp.th.length,slQ 6 1 z.1.shp.wa.length,slQ 7 1 z.1.shp.ic.length,nI z.1.shp.slow,nI z.1.shp.aw,nI z.1.shp.rdg,nI z.1.shp.prs,nI z.1.size,nI z.1.frm,nI z.1.to]/\H2=((List.set H' 1 (.cells true 0 [.iface (N.length+1) (yre N),nI z.2]:aa)) ++ [(.cells true 1 (z.1.land.flatMap af):aa),(.cells true 4 (z.1.cts.flatMap chC):aa),(.cells true 1 (z.1.chan.flatMap af):aa),(.cells true 2 (z.1.shp.th.flatMap ptC):aa),(.cells true 2 (z.1.shp.wa.flatMap ptC):aa),(.cells true 2 (z.1.shp.ic.flatMap ptC):aa)])))/\(∀r1:Pl×Int,(yrr r1 hq)->(((ac yrg)/\(ac (.cells true 1 (yri r1)))/\(ac (.cells false 0 (yrf r1)))/\(ac (.cells true 1 (yrj r1)))/\(ac (.cells true 2 (yrk r1)))/\(ac (.cells true 2 (yrl r1)))/\(ac (.cells true 2 (yrm r1)))/\True)/\(∀H':Heap,H'.length=10->(H'[0]?=some yro/\H'[2]?=some (.cells true 1 (yri r1):aa)/\H'[8]?=some (.cells false 0 (yrf r1):aa)/\H'[4]?=some (.cells true 1 (yrj r1):aa)/\H'[5]?=some (.cells true 2 (yrk r1):aa)/\H'[6]?=some (.cells true 2 (yrl r1):aa)/\H'[7]?=some (.cells true 2 (yrm r1):aa)/\True)->ad prog 13 [.agg #[nI r1.1.w,nI r1.1.h,slQ 2 1 r1.1.land.length,slQ 8 2 r1.1.cts.length,slQ 4 1 r1.1.chan.length,nI r1.1.shp.cls,nI r1.1.shp.pow,nI r1.1.shp.dra,nI r1.1.shp.ton,slQ 5 1 r1.1.shp.th.length,slQ 6 1 r1.1.shp.wa.length,slQ 7 1 r1.1.shp.ic.length,nI r1.1.shp.slow,nI r1.1.shp.aw,nI r1.1.shp.rdg,nI r1.1.shp.prs,nI r1.1.size,nI r1.1.frm,nI r1.1.to]] H' [] (Is (.tuple #[slQ 10 1 (aF r1.1).length,nI (cE r1.1),nI (b8 r1.1)]) (H' ++ [(.cells true 4 ((aF r1.1).flatMap lgC):aa)])))/\(fk (((b8 r1.1):Int) == 51) (c1q 11 0 yrg 10 [] (.bool true) ((.bool true:Value)=sp)) ((yr3 r1)/\(∀H':Heap,H'.length=11->(yr2 H' r1)->ad prog 16 (yr4 r1) H' [] (Is (.tuple #[nI (dH r1.1 (aF r1.1)),nI (yrs r1)]) H'))/\((yr3 r1)/\(∀H':Heap,H'.length=11->(yr2 H' r1)->ad prog 37 (yr4 r1) H' [] (Is (.tuple #[nI (dI r1.1 (aF r1.1)),nI (yrs r1)]) H'))/\(fk (((b8 r1.1):Int) != 0) (yrp=sp) (fk (((yrs r1):Int) != 0) (yrp=sp) ((.bool (((yrs r1):Int) != 0):Value) = .bool false/\(fk (((dH r1.1 (aF r1.1)):Int) != (cE r1.1)) (yrp=sp) (fk (decide (((dI r1.1 (aF r1.1)):Int)<0)) (yrp=sp) (fk (decide ((250:Int)<(dI r1.1 (aF r1.1)))) (yrp=sp) (true=true/\(yr5.1<=List.length r1.1.cts/\0<=yr5.2.1/\yr5.2.1<=4096*((yr5.1:Nat):Int)/\iq r1.1 yr5.2.2 yr5.1)/\(true=true/\((nI 0:Value)=nI ((yr5.1:Nat):Int)/\wk (.slice none 0 0:Value) (slQ 0 1 (List.length yr5.2.2):Value)/\yrq r1)/\((kbq 12 (.cells true 0 [.iface (M.length+1) (yr7 M),nI 0]) (.cells true 0 [.iface (M.length+1) (yr7 M),nI yr5.2.1]))/\True)/\(True/\True)/\(True))/\(∀x5:Nat×Int×List (List Ice),true=true)/\∀x5:Nat×Int×List (List Ice),(x5.1<=List.length r1.1.cts/\0<=x5.2.1/\x5.2.1<=4096*(yrc x5)/\iq r1.1 x5.2.2 x5.1)->(fk (decide (((yrc x5):Int)<((r1.1.cts.length:Nat):Int))) (true=true/\((yr9 x5).1<=List.length (r1.1.cts.getD x5.1 zCh).cells/\x5.2.1<=(yr9 x5).2.1/\(yr9 x5).2.1<=x5.2.1+4*(((yr9 x5).1:Nat):Int)/\ip r1.1 x5.1 (yr9 x5).2.2 (yr9 x5).1)/\(true=true/\((nI 0:Value)=nI (((yr9 x5).1:Nat):Int)/\wk (.slice none 0 0:Value) (slQ 0 1 (List.length (yr9 x5).2.2):Value)/\yrh r1 x5)/\((kbq 13 (.cells true 0 [.iface (M.length+1) (yr7 M),nI x5.2.1]) (.cells true 0 [.iface (M.length+1) (yr7 M),nI (yr9 x5).2.1]))/\True)/\(True/\True)/\(True))/\(∀x6:Nat×Int×List Ice,true=true)/\∀x6:Nat×Int×List Ice,(x6.1<=List.length (r1.1.cts.getD x5.1 zCh).cells/\x5.2.1<=x6.2.1/\x6.2.1<=x5.2.1+4*(yrt x6)/\ip r1.1 x5.1 x6.2.2 x6.1)->((ixq (yrc x5) r1.1.cts.length)/\(((yrf r1)[((0+Int.toNat (yrc x5)*4)+3)]?=some (yr8 r1 x5))/\(fk (decide (((yrt x6):Int)<(((List.length (r1.1.cts.getD x5.1 zCh).cells):Nat):Int))) ((ixq (yrc x5) r1.1.cts.length)/\(((yrf r1)[((0+Int.toNat (yrc x5)*4)+3)]?=some (yr8 r1 x5))/\((ixq (yrt x6) (List.length (r1.1.cts.getD x5.1 zCh).cells))/\((cN 8 (List.flatMap cellC (r1.1.cts.getD x5.1 zCh).cells) (Int.toNat (yrt x6)*8)=some (yra r1 x5 x6))/\(((ac yrg)/\(ac (.cells true 0 (yrn M x6)))/\True)/\(∀H':Heap,H'.length=14->(H'[0]?=some yro/\H'[11]?=some (.cells true 0 (yrn M x6):aa)/\True)->ad prog 40 [pt 11,.agg #[nI (yr1 r1 x5 x6).ap.lo,nI (yr1 r1 x5 x6).ap.hi,nI (yr1 r1 x5 x6).ag.lo,nI (yr1 r1 x5 x6).ag.hi,nI (yr1 r1 x5 x6).ai.lo,nI (yr1 r1 x5 x6).ai.hi,nI (yr1 r1 x5 x6).ah.lo,nI (yr1 r1 x5 x6).ah.hi]] H' [11] (fun y H2 => ∃z:Ice×Int,(InC (yr1 r1 x5 x6) z.1/\x6.2.1<=z.2/\z.2<=x6.2.1+4)/\y = .agg #[nI z.1.ap,nI z.1.ag,nI z.1.ai,nI z.1.ah]/\H2=(List.set H' 11 (.cells true 0 [.iface (M.length+1) (yr7 M),nI z.2]:aa))))/\(∀r7:Ice×Int,(InC (yr1 r1 x5 x6) r7.1/\x6.2.1<=r7.2/\r7.2<=x6.2.1+4)->(apq x6.2.2.length 32 4 (x6.2.2.flatMap ib) [nI r7.1.ap,nI r7.1.ag,nI r7.1.ai,nI r7.1.ah] (nw ((yrt x6)+1) (∃x6':Nat×Int×List Ice,(x6'.1<=List.length (r1.1.cts.getD x5.1 zCh).cells/\x5.2.1<=x6'.2.1/\x6'.2.1<=x5.2.1+4*((x6'.1:Nat):Int)/\ip r1.1 x5.1 x6'.2.2 x6'.1)/\(List.length (r1.1.cts.getD x5.1 zCh).cells-x6'.1)<(List.length (r1.1.cts.getD x5.1 zCh).cells-x6.1)/\true=true/\((nI ((yrt x6)+1):Value)=nI ((x6'.1:Nat):Int)/\wk (slN 16 (x6.2.2.length+1):Value) (slQ 16 1 x6'.2.2.length:Value)/\yrh r1 x5)/\((kbq 13 (.cells true 0 [.iface (M.length+1) (yr7 M),nI r7.2]) (.cells true 0 [.iface (M.length+1) (yr7 M),nI x6'.2.1]))/\True)/\((kbq 13 (.cells true 4 ((((x6.2.2.flatMap ib).drop 0).take (x6.2.2.length*4))++((([nI r7.1.ap,nI r7.1.ag,nI r7.1.ai,nI r7.1.ah]:List Value).drop 0).take (1*4)))) (.cells true 4 (x6'.2.2.flatMap ib)))/\True)/\(True)))))))))) (((x5.2.2.length+1)*24<=2 ^ 44/\1≠0/\(x5.2.2.length<=x5.2.2.length/\0+x5.2.2.length*1<=List.length (List.map dIc x5.2.2))/\(1<=1/\0+1*1<=List.length (yrb x6))/\((((yrb x6).drop 0).take (1*1)):List Value).all (fun v=>dz v)=true)/\true=true/\(nw ((yrc x5)+1) (∃x5':Nat×Int×List (List Ice),(x5'.1<=List.length r1.1.cts/\0<=x5'.2.1/\x5'.2.1<=4096*((x5'.1:Nat):Int)/\iq r1.1 x5'.2.2 x5'.1)/\(List.length r1.1.cts-x5'.1)<(List.length r1.1.cts-x5.1)/\true=true/\((nI ((yrc x5)+1):Value)=nI ((x5'.1:Nat):Int)/\wk (slN 15 (x5.2.2.length+1):Value) (slQ 15 1 x5'.2.2.length:Value)/\yrq r1)/\((kbq 12 (.cells true 0 (yrn M x6)) (.cells true 0 [.iface (M.length+1) (yr7 M),nI x5'.2.1]))/\True)/\((kbq 12 (.cells true 1 ((((List.map dIc x5.2.2).drop 0).take (x5.2.2.length*1))++(((yrb x6).drop 0).take (1*1)))) (.cells true 1 (List.map dIc x5'.2.2)))/\True)/\(True)))))))) (((ac yrg)/\(ac (.cells true 1 (yri r1)))/\(ac (.cells false 0 (yrf r1)))/\(ac (.cells true 1 (yrj r1)))/\(ac (.cells true 2 (yrk r1)))/\(ac (.cells true 2 (yrl r1)))/\(ac (.cells true 2 (yrm r1)))/\(ac (.cells true 4 ((aF r1.1).flatMap lgC)))/\(ac (.cells true 1 (List.map dIc x5.2.2)))/\True)/\(∀H':Heap,H'.length=13->(H'[0]?=some yro/\H'[2]?=some (.cells true 1 (yri r1):aa)/\H'[8]?=some (.cells false 0 (yrf r1):aa)/\H'[4]?=some (.cells true 1 (yrj r1):aa)/\H'[5]?=some (.cells true 2 (yrk r1):aa)/\H'[6]?=some (.cells true 2 (yrl r1):aa)/\H'[7]?=some (.cells true 2 (yrm r1):aa)/\H'[10]?=some (.cells true 4 ((aF r1.1).flatMap lgC):aa)/\H'[12]?=some (.cells true 1 (List.map dIc x5.2.2):aa)/\True)->ad prog 41 [.agg #[nI r1.1.w,nI r1.1.h,slQ 2 1 r1.1.land.length,slQ 8 2 r1.1.cts.length,slQ 4 1 r1.1.chan.length,nI r1.1.shp.cls,nI r1.1.shp.pow,nI r1.1.shp.dra,nI r1.1.shp.ton,slQ 5 1 r1.1.shp.th.length,slQ 6 1 r1.1.shp.wa.length,slQ 7 1 r1.1.shp.ic.length,nI r1.1.shp.slow,nI r1.1.shp.aw,nI r1.1.shp.rdg,nI r1.1.shp.prs,nI r1.1.size,nI r1.1.frm,nI r1.1.to],slQ 10 1 (aF r1.1).length,slQ 12 1 x5.2.2.length] H' [] (Is (.bool true) H'))/\(c1q 13 0 yrg 10 [] (.bool true) ((.bool true:Value)=sp)))))))))))))))))))
abbrev yrd:Nat×aa:=(0,.cells false 0 yr0)
abbrev yr6(r1:Pl×Int):List (Nat×aa):=[yrd,(2,.cells true 1 (yri r1)),(8,.cells false 0 (yrf r1)),(4,.cells true 1 (yrj r1)),(5,.cells true 2 (yrk r1)),(6,.cells true 2 (yrl r1)),(7,.cells true 2 (yrm r1)),(10,.cells true 4 ((aF r1.1).flatMap lgC))]
theorem GX(sp:Value)(N M:List Int)(hq:Int):vF prog msk (dm 0) 100000 true 40 true 6 [.iface (N.length+1) (yre N),.iface (M.length+1) (yr7 M),nI hq] (aG [.cells false 0 yr0]) (some [])
 (.go 4 (.ans [] (nI (hq % 4)) [] (.go 0 (.slot 26 (nI (1+(hq % 4))) (.cg [yrd,(1,.cells true 0 [.iface (N.length+1) (yre N),nI 0])] [1] (Pl×Int) (fun r1=>(yrr r1 hq)) (fun r1 => .agg #[nI r1.1.w,nI r1.1.h,slQ 2 1 r1.1.land.length,slQ 3 1 r1.1.cts.length,slQ 4 1 r1.1.chan.length,nI r1.1.shp.cls,nI r1.1.shp.pow,nI r1.1.shp.dra,nI r1.1.shp.ton,slQ 5 1 r1.1.shp.th.length,slQ 6 1 r1.1.shp.wa.length,slQ 7 1 r1.1.shp.ic.length,nI r1.1.shp.slow,nI r1.1.shp.aw,nI r1.1.shp.rdg,nI r1.1.shp.prs,nI r1.1.size,nI r1.1.frm,nI r1.1.to]) (fun r1=>[(1,.cells true 0 [.iface (N.length+1) (yre N),nI r1.2])]) (fun r1=>[.cells true 1 (yri r1),.cells true 4 (yrf r1),.cells true 1 (yrj r1),.cells true 2 (yrk r1),.cells true 2 (yrl r1),.cells true 2 (yrm r1)]) (fun r1 => .tab [.tog 27 3,.tog 27 3] (.go 2 (.ans [yrd,(2,.cells true 1 (yri r1)),(8,.cells false 0 (yrf r1)),(4,.cells true 1 (yrj r1)),(5,.cells true 2 (yrk r1)),(6,.cells true 2 (yrl r1)),(7,.cells true 2 (yrm r1))] (.tuple #[slQ 10 1 (aF r1.1).length,nI (cE r1.1),nI (b8 r1.1)]) [.cells true 4 ((aF r1.1).flatMap lgC)] (.go 8 (.fork (.ans [yrd] (.bool true) [] (.auto)) (.go 1 (.ans (yr6 r1) (.tuple #[nI (dH r1.1 (aF r1.1)),nI (yrs r1)]) [] (.go 6 (.ans (yr6 r1) (.tuple #[nI (dI r1.1 (aF r1.1)),nI (yrs r1)]) [] (.go 7 (.aM (.auto) (.go 3 (.aM (.auto) (.go 3 (.slot 59 (.bool false) (.go 4 (.aM (.auto) (.go 3 (.aM (.auto) (.go 2 (.fork (.auto) (.go 5 (.inv 3 (Nat×Int×List (List Ice)) (yr5) [] [11] (fun x5=>[(17,nI (yrc x5)),(16,slQ 12 1 x5.2.2.length),(6,.bool false),(7,pt 9),(8,slQ 10 1 (aF r1.1).length),(15,pt 11)]) (fun x5=>[(11,true,.cells true 0 [.iface (M.length+1) (yr7 M),nI x5.2.1])]) (fun x5=>[(true,.cells true 1 (List.map dIc x5.2.2))]) (fun x5=>[]) (fun x5=>(x5.1<=List.length r1.1.cts/\0<=x5.2.1/\x5.2.1<=4096*(yrc x5)/\iq r1.1 x5.2.2 x5.1)) (fun x5=>(List.length r1.1.cts-x5.1)) (fun x5 => .go 4 (.fork (.go 1 (.inv 3 (Nat×Int×List Ice) ((yr9 x5)) [] [11] (fun x6=>[(19,nI (yrt x6)),(18,slQ 13 1 x6.2.2.length),(15,pt 11),(8,slQ 10 1 (aF r1.1).length),(7,pt 9),(6,.bool false),(16,slQ 12 1 x5.2.2.length),(17,nI (yrc x5))]) (fun x6=>[(11,true,.cells true 0 (yrn M x6))]) (fun x6=>[(true,.cells true 4 (x6.2.2.flatMap ib))]) (fun x6=>[]) (fun x6=>(x6.1<=List.length (r1.1.cts.getD x5.1 zCh).cells/\x5.2.1<=x6.2.1/\x6.2.1<=x5.2.1+4*(yrt x6)/\ip r1.1 x5.1 x6.2.2 x6.1)) (fun x6=>(List.length (r1.1.cts.getD x5.1 zCh).cells-x6.1)) (fun x6 => .go 3 (.need (.go 0 (.val (yr8 r1 x5) (.go 1 (.fork (.go 3 (.need (.go 0 (.val (yr8 r1 x5) (.go 0 (.need (.val (yra r1 x5 x6) (.cg [yrd,(11,.cells true 0 (yrn M x6))] [11] (Ice×Int) (fun r7=>(InC (yr1 r1 x5 x6) r7.1/\x6.2.1<=r7.2/\r7.2<=x6.2.1+4)) (fun r7 => .agg #[nI r7.1.ap,nI r7.1.ag,nI r7.1.ai,nI r7.1.ah]) (fun r7=>[(11,.cells true 0 [.iface (M.length+1) (yr7 M),nI r7.2])]) (fun r7=>[]) (fun r7 => .go 4 (.need (.go 2 (.slot 92 (nI ((yrt x6)+1)) (.go 0 (.again [(13,16)])))))))))))))) (.go 1 (.frz [109] (.go 0 (.need (.go 2 (.slot 81 (nI ((yrc x5)+1)) (.go 0 (.again [(12,15)])))))))))))))))) (.go 2 (.ans [yrd,(2,.cells true 1 (yri r1)),(8,.cells false 0 (yrf r1)),(4,.cells true 1 (yrj r1)),(5,.cells true 2 (yrk r1)),(6,.cells true 2 (yrl r1)),(7,.cells true 2 (yrm r1)),(10,.cells true 4 ((aF r1.1).flatMap lgC)),(12,.cells true 1 (List.map dIc x5.2.2))] (.bool true) [] (.go 0 (.ans [yrd] (.bool true) [] (.auto)))))))))))))))))))))))))))))))))))
 (fun v _ _=>v=sp)=wo sp N M hq:=by kernel_rfl
end
end Go.Proofs.YtmecpfikljhjaaaGreatDoor
namespace Go.Proofs.YtmecpfikljhjaaaGreatDoor
noncomputable section
attribute [local irreducible] vF
section
variable {p:Pl} {H:Heap} {l c n t w i z:Nat}
theorem JR(e0:bO p=0){L:List Leg}(hr:∀j,j<L.length->(L.getD j zL).arr<=9223372036854775807)(hl:L.length<=1000000){b:Nat}(a:gJ H p l c n t w i)(hnd:[0,l,c,n,t,w,i,b].Nodup)(h1:H[b]?=some (.cells true 4 (L.flatMap lgC))) :
  ad prog 37 [pl1 p l c n t w i,.slice (some ⟨b,0,some 1⟩) L.length L.length] H [] (Is (.tuple #[.int .i64 (dI p L),.int .i64 (cn p L)]) H) :=
 (CU e0 hr hl a hnd h1).wkA ⟨wkP p l c n t w i,ik,trivial⟩
theorem JS(e0:bO p=0){L:List Leg}(ha:cn p L=0){F:List (List Ice)}(f:ye p F){B D:Nat}(a:gJ H p l c n t w i)(hnd:[0,l,c,n,t,w,i,B,D].Nodup)
  (h1:H[B]?=some (.cells true 4 (L.flatMap lgC))) (h2:H[D]?=some (.cells true 1 (F.map dIc))) :
  ad prog 41 [pl1 p l c n t w i,.slice (some ⟨B,0,some 1⟩) L.length L.length,.slice (some ⟨D,0,some 1⟩) F.length F.length] H [] (Is (.bool true) H) :=
 (AU e0 ha f a hnd h1 h2).wkA ⟨wkP p l c n t w i,ik,ik,trivial⟩
end
theorem yr{F:List (List Ice)}{r:List Ice}:List.take (F.length*1) (List.drop 0 (F.map dIc))++List.take (1*1) (List.drop 0 ([dIc r]:List Value))=(F ++ [r]).map dIc:=by
 show List.take (F.length*1) (F.map dIc) ++ [dIc r]=_
 rw[List.take_of_length_le (by rw[List.length_map];omega),List.map_append];rfl
theorem Hv(N M:List Int)(hq:Int):wo (.bool true) N M hq:=by
 delta wo yrg yre yro yrr yri yrf yrj yrk yrl yrm yr3 yr2 yr4 yrs yrp yr5 yrq yr7 yrc yr9 yrh yrt yr8 yra yrn yr1 yrb yr0 nI slQ pt slN ac fk nw eR wR kbq ixq apq c0q c1q
 refine ⟨trivial,fun H' hn _=>AP hq 4 (by decide) (by decide) (by omega),ak (by omega),⟨rfl,rfl,trivial⟩,fun H' hn h=>IE (by omega) hn h.1 h.2.1,fun r1 hr =>?_⟩
 obtain ⟨e0,hl,_,_⟩:=hr
 generalize r1.1=p at *
 have o:=kj e0
 have he:=xz o
 have hE6:endP p=6*((p.cts.length:Nat):Int):=rfl
 have hB:b8 p=51∨b8 p=0:=by unfold b8;split <;> simp
 have hct:=o.cts
 refine ⟨⟨rfl,rfl,rfl,rfl,rfl,rfl,rfl,trivial⟩,fun H' hn h=>JU e0 hn (wW (by decide) h),Gv (fun _=>⟨⟨rfl,trivial⟩,fun H' hn h=>AX h.1,rfl⟩) (fun hE =>?_)⟩
 have hE0:b8 p=0:=by omega
 have ha0:0<=bp p:=by unfold b8 at hE0;split at hE0 <;> omega
 have hA:=BJ o ha0
 have hM:=DZ hA.1
 have hT:dH p (aF p)=cE p:=by rw[hA.2];unfold cE;rw[if_neg (by omega)]
 have hS:∀j,j<(aF p).length->((aF p).getD j zL).arr<=9223372036854775807:=fun j hj=>by have:=(stp o hA.1 hj).ht;omega
 have hL:=(kN hA.1).1
 refine ⟨⟨rfl,rfl,rfl,rfl,rfl,rfl,rfl,rfl,trivial⟩,fun H' hn h=>JV e0 hS (by omega) (wW (by decide) h) (by decide) h.2.2.2.2.2.2.2.1,⟨rfl,rfl,rfl,rfl,rfl,rfl,rfl,rfl,trivial⟩,fun H' hn h=>JR e0 hS (by omega) (wW (by decide) h) (by decide) h.2.2.2.2.2.2.2.1,nQ (fun q=>absurd hE0 q) (fun _=>nQ (fun q=>absurd hA.1 q) (fun _=>⟨bEq (by rw[hA.1];rfl),nQ (fun q=>absurd hT q) (fun _=>eJ (fun q=>by omega) (fun _=>eJ (fun q=>by omega) (fun _ =>?_)))⟩))⟩
 refine ⟨rfl,⟨Nat.zero_le _,Int.le_refl _,Int.le_refl _,iq.start p⟩,?_,fun _=>rfl,fun x hx =>?_⟩
 ·repeat' first|exact aZ _ _ _|exact trivial|exact ae _|exact ef _ _ _ (.inl rfl)|refine ⟨rfl,?_⟩|refine ⟨trivial,?_⟩|apply And.intro
 obtain ⟨k,m,F⟩:=x
 obtain ⟨hk,hm0,hm,ok⟩:=hx
 dsimp only at hk hm0 hm ok ⊢
 have okn:=ok.n
 refine eJ (fun g =>?_) (fun g =>?_)
 ·have ch:=o.pW (i:=k) (by omega)
  have hln:=ch.len
  have hbd:=o.bas
  have hn1:=hbd.n1
  have hp1:=hbd.p1
  refine ⟨rfl,⟨Nat.zero_le _,Int.le_refl _,by show m<=m+4*(((0:Nat):Nat):Int);omega,ip.start p k⟩,?_,fun _=>rfl,fun y hy =>?_⟩
  ·repeat' first|exact aZ _ _ _|exact trivial|exact ae _|exact ef _ _ _ (.inl rfl)|refine ⟨rfl,?_⟩|refine ⟨trivial,?_⟩|apply And.intro
  obtain ⟨j,m2,r⟩:=y
  obtain ⟨hj,hm2,hm3,ro⟩:=hy
  dsimp only at hj hm2 hm3 ro ⊢
  have ron:=ro.n
  refine ⟨⟨by omega,by omega⟩,eZ (c:=3) (d:=zCh) eC (by omega) (by omega) rfl,eJ (fun g2 =>?_) (fun g2 =>?_)⟩
  ·have hc:=ch.cell j (by omega)
   refine ⟨⟨by omega,by omega⟩,eZ (c:=3) (d:=zCh) eC (by omega) (by omega) rfl,⟨by omega,by omega⟩,mQ (by omega) (by omega),⟨rfl,rfl,trivial⟩,fun H' hn h=>HS hc (by omega) (by decide) h.1 h.2.1,fun r7 hr7 =>?_⟩
   obtain ⟨ic,q1,q2⟩:=hr7
   refine ⟨⟨by omega,by decide,⟨Nat.le_refl _,by rw[aP nJ];omega⟩,⟨Nat.le_refl _,by simp⟩,rfl⟩,rfl,ak (by omega),(j+1,r7.2,r ++ [r7.1]),⟨by show j+1<=_;omega,by show m<=r7.2;omega,by show r7.2<=m+4*(((j+1:Nat):Nat):Int);omega,ro.more ic⟩,by show _-(j+1)<_-j;omega,?_⟩
   repeat' first|exact aZ _ _ _|exact Af _ _|exact cA nJ rfl rfl|(exact Ev (by rw[List.length_append];rfl) (by omega))|exact trivial|exact ae _|refine ⟨rfl,?_⟩|apply And.intro
  ·obtain rfl:j=(p.cts.getD k zCh).cells.length:=by omega
   refine ⟨⟨by omega,by decide,⟨Nat.le_refl _,by rw[List.length_map];omega⟩,⟨Nat.le_refl _,by simp⟩,rfl⟩,rfl,ak (by omega),(k+1,m2,F ++ [r]),⟨by show k+1<=_;omega,by show 0<=m2;omega,by show m2<=4096*(((k+1:Nat):Nat):Int);omega,ok.more ro⟩,by show _-(k+1)<_-k;omega,?_⟩
   repeat' first|exact aZ _ _ _|exact qy _ _|(exact congrArg (fun x=>some (aa.cells true 1 x)) yr)|(exact Ev (by rw[List.length_append];rfl) (by omega))|exact trivial|exact ae _|refine ⟨rfl,?_⟩|apply And.intro
 ·obtain rfl:k=p.cts.length:=by omega
  exact ⟨⟨rfl,rfl,rfl,rfl,rfl,rfl,rfl,rfl,rfl,trivial⟩,fun H' hn h=>JS e0 hA.1 (ok.ok o) (wW (by decide) h) (by decide) h.2.2.2.2.2.2.2.1 h.2.2.2.2.2.2.2.2.1,⟨rfl,trivial⟩,fun H' hn h=>AX h.1,rfl⟩
end
end Go.Proofs.YtmecpfikljhjaaaGreatDoor
namespace Go.K
open Go Go.ChangeShapes Go.WideShapes Go.ChangeAt Go.RowKit
variable {P:Program} {HH:Type} {enc:TypeId×Value->HH}
theorem u9{N n b0:Nat}{ts:List TypeId}{args:Array Value}{W:World}{ds:List (DataW HH)}{ps:List MemPlace}{held:Bool}(hG:P.globals.size=1)(zs:List Int){ty:TypeId}{fz:Nat×Nat}
  (h0:W.heap[0]?=some (.cells (zs.map fun z=>Value.int .i64 z).toArray ty fz)) (hplain:ts.all (Ct P n)=true)
  (hok:∀(j:Nat) (t:TypeId) (v:Value),ts[j]?=some t->args.toList[j]?=some v->Value.okWide P W .any b0 t v) (h:DataW.TrodAll enc P W 0 (fun _=>true) held ts args.toList ds ps)
  (JA:∀(H:Heap) (vs:List Value),j7 P n ts vs->H[0]?=some (.cells false 0 (zs.map fun z=>Value.int .i64 z))->ad P N vs H [] (fun v _=>v = .bool true)) :
  Calls P N args W fun e W'=>e = .returned (.bool true)/\RowKit.Below W.heap.size W W':=by
 have hlt:0<W.heap.size:=by
  rcases Nat.lt_or_ge 0 W.heap.size with h|h
  ·exact h
  ·rw[Array.getElem?_eq_none h]at h0;cases h0
 have ho:∀(id:Nat) (o:aa),([aa.cells false 0 (zs.map fun z=>Value.int .i64 z)])[id]?=some o->id=0/\o = .cells false 0 (zs.map fun z=>Value.int .i64 z):=fun id o e=>by
  cases id with
  |zero=>exact ⟨rfl,(Option.some.inj e).symm⟩
  |succ id=>simp at e
 have hρ:∀(id:Nat) (r:RI),(if id=0 then some (⟨0,0,zs.length,0,false⟩:RI) else none)=some r->id=0/\r=⟨0,0,zs.length,0,false⟩:=fun id r e=>by
  split at e
  ·exact ⟨‹_›,(Option.some.inj e).symm⟩
  ·cases e
 have hr:Rel P W.heap.size ⟨fun id=>if id=0 then some ⟨0,0,zs.length,0,false⟩ else none,fun b=>match W.heap[b]? with|some (.cells m _ _)=>some m|_=>none,fun _ _=>none⟩ [aa.cells false 0 (zs.map fun z=>Value.int .i64 z)] W:=by
  refine ⟨Nat.le_refl _,fun g hg =>?_,fun id r h1 =>?_,fun id r h1 =>?_,fun id r o h1 h2 =>?_,fun id r o h1 h2 h3 =>?_,fun id id' r r' o o' h1 h1' h2 h2' h3 _ hne =>?_,fun b m hm=>⟨?_,fun id r o h1 h2 h3 =>?_⟩,gR.km (fun _ _ _ h=>by cases h) (fun _ _ _ h=>by cases h) (fun F z cs h=>by have:=(ho F _ h).2;cases this)⟩
  ·obtain rfl:g=0:=by omega
   exact ⟨_,rfl,rfl,rfl⟩
  ·obtain ⟨rfl,_⟩:=hρ id r h1;exact Nat.zero_lt_one
  ·obtain ⟨rfl,rfl⟩:=hρ id r h1;exact hlt
  ·obtain ⟨rfl,rfl⟩:=hρ id r h1
   obtain ⟨_,rfl⟩:=ho 0 o h2
   refine ⟨rfl,rfl,_,ty,fz,h0,by simp,fun e=>(by cases e),fun i v e=>⟨v,?_,?_⟩⟩
   ·show (zs.map fun z=>Value.int .i64 z).toArray[i+0]?=some v
    simpa using e
   ·rw[List.getElem?_map,Option.map_eq_some_iff]at e
    obtain ⟨z,_,rfl⟩:=e
    exact .int _ _
  ·obtain ⟨_,rfl⟩:=ho id o h2;cases h3
  ·obtain ⟨rfl,_⟩:=hρ id r h1;obtain ⟨rfl,_⟩:=hρ id' r' h1';exact absurd rfl hne
  ·dsimp only at hm
   split at hm
   ·rename_i m' ty fz e;cases hm;exact ⟨ty,fz,e⟩
   ·cases hm
  ·obtain ⟨_,rfl⟩:=ho id o h2;cases h3
 have Ii:Low W.heap.size ⟨fun id=>if id=0 then some ⟨0,0,zs.length,0,false⟩ else none,fun b=>match W.heap[b]? with|some (.cells m _ _)=>some m|_=>none,fun _ _=>none⟩ W :=
  ⟨fun b m ty fz _ hb=>by show (match W.heap[b]? with|some (.cells m _ _)=>some m|_=>none)=_;rw[hb],fun id r h1=>by obtain ⟨rfl,rfl⟩:=hρ id r h1;exact hlt⟩
 obtain ⟨ρ',H',vs',e,hv,g⟩:=we rfl ts args.toList ds ps _ _ hplain hok h hr
 have Ih:Low W.heap.size ρ' W:=⟨fun b m ty fz h1 h2=>e.le.mem b m (Ii.1 b m ty fz h1 h2),fun id r h1=>e.rel.lt id r h1⟩
 obtain ⟨ws,hv2,g2⟩:=DW e.rel Ih ts vs' args.toList g hv
 obtain ⟨K,hK⟩:=e.pre
 have hh:H'[0]?=some (.cells false 0 (zs.map fun z=>Value.int .i64 z)):=by rw[hK];rfl
 refine callsIn_wide.1 (((JA H' ws g2 hh).2 _ ρ' W args e.rel hv2).mono ?_)
 rintro en w' ⟨v,v',ρ3,H3,rfl,h1,h2,rfl⟩
 cases h1
 exact ⟨rfl,h2.below e.rel⟩
end Go.K
namespace Go.Proofs.YtmecpfikljhjaaaGreatDoor
open Go Go.K Go.ChangeShapes Go.WideShapes Go.ChangeAt Go.RowKit
noncomputable section
theorem own:ownKnob Tryz.prog.godebug=none:=by kernel_rfl
theorem sized:iE Tryz.prog=true:=by kernel_rfl
abbrev known(t:TypeId):Prop:=t<Tryz.prog.types.size
theorem kids:Kids Tryz.prog known:=kids_rows (by kernel_rfl) (by kernel_rfl)
theorem iQ{n:Nat}{t:TypeId}{ts:List TypeId}{vs:List Value}(h:j7 Tryz.prog n (t :: ts) vs):∃v vs',vs=v :: vs'/\ij Tryz.prog n t v/\j7 Tryz.prog n ts vs':=by
 cases vs with
 |nil=>exact h.elim
 |cons v vs=>exact ⟨v,vs,rfl,h.1,h.2⟩
theorem vX{n:Nat}{vs:List Value}(h:j7 Tryz.prog n [] vs):vs=[]:=by
 cases vs with
 |nil=>rfl
 |cons v vs=>exact h.elim
theorem pO{n:Nat}{c:List Value}(h:d6 Tryz.prog (n+1) 3 c):∃x:Int,c=[.int .i64 x]/\inI x:=by
 unfold d6 at h
 rw[show Tryz.prog.underlying 3=some (.int .i64) by kernel_rfl]at h
 obtain ⟨x,rfl,h1,h2⟩:=h
 refine ⟨x,rfl,?_⟩
 simp only[IntKind.min,IntKind.max,IntKind.signed,IntKind.bits]at h1 h2
 unfold inI
 simp at h1 h2
 omega
theorem vW{v:Value}(h:ij Tryz.prog 6 3 v):∃x:Int,v = .int .i64 x/\inI x:=by
 unfold ij at h
 rw[show Tryz.prog.underlying 3=some (.int .i64) by kernel_rfl]at h
 obtain ⟨x,h1,h2⟩:=pO h
 exact ⟨x,by simpa using h1,h2⟩
theorem lU{v:Value}(h:ij Tryz.prog 6 57 v):∃L:List Int,v = .iface (L.length+1) (.agg ⟨L.flatMap bc⟩)/\L.length<=maxLen/\∀x∈L,inI x:=by
 unfold ij at h
 rw[show Tryz.prog.underlying 57=some (.slice 3) by kernel_rfl]at h
 unfold d6 at h
 rw[show Tryz.prog.underlying 57=some (.slice 3) by kernel_rfl]at h
 obtain ⟨len,ds,h1,h2,h3,h4⟩:=h
 obtain ⟨xs,e1,e2,e3⟩:=nN (f:=bc) (q:=inI) (fun c hc=>pO (n:=4) hc) len ds h4
 subst e1 e2
 exact ⟨xs,by simpa using h1,h3,e3⟩
theorem HB {W : World} (hL : laidMet Tryz.prog [("polynya/hull.strengths", Rows.laid_polynya_hull_strengths)] W) : ∃ ty fz, W.heap[0]? = some (.cells (zI.map fun z => Value.int .i64 z).toArray ty fz) := by
 have hT:=Lib.tabIs_of_head (k:=.i64) (zs:=zI) (g:=0) (t:=302) (e:=3) (n:=6) (by kernel_rfl) (by kernel_rfl) (by kernel_rfl) (by kernel_rfl) (by kernel_rfl) (by kernel_rfl) hL
 unfold Lib.TabIs World.var? at hT
 rw [show Tryz.prog.globalNamed "polynya/hull.strengths" = some 0 by kernel_rfl] at hT
 simp only[Option.bind_some]at hT
 split at hT
 ·rename_i cs ty fz e
  obtain rfl:=Option.some.inj hT
  exact ⟨ty,fz,e⟩
 ·cases hT
noncomputable def pE(os:Os):World :=
 let w0:=World.holding Tryz.prog os ⟨#[],#[],[]⟩
 { w0 with heap:=w0.heap.modify 0 fun
   | .cells _ t frozen => .cells (zI.map fun z=>Value.int .i64 z).toArray t frozen
   |o=>o }
theorem oK (os : Os) (args : Array Value) : laidMet Tryz.prog [("polynya/hull.strengths", Rows.laid_polynya_hull_strengths)] ((pE os).forCall (fun _ _ => 0) ⟨#[], args, []⟩).memory :=
 laidMet_of_run' 8 (by kernel_rfl) (by kernel_rfl)
theorem EC(σ:Nat->Option Nat)(n:Nat)(l:List Int):rn σ 3 (.iface n (.agg ⟨l.flatMap bc⟩)) = .iface n (.agg ⟨l.flatMap bc⟩):=by
 show Value.iface _ (.agg ⟨(l.flatMap bc).map (rn σ 2)⟩)=_
 rw[List.map_congr_left (g:=fun v=>v) fun v hv =>?_,List.map_id']
 obtain ⟨c,_,h⟩:=List.mem_flatMap.1 hv
 obtain rfl:=List.mem_singleton.1 h
 rfl
end
end Go.Proofs.YtmecpfikljhjaaaGreatDoor
