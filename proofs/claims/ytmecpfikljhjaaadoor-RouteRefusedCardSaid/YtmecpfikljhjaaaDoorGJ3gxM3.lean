/- What is to be shown of functions. Printed by a program. No condition. -/
import Derived.Test.YtmecpfikljhjaaaDoorGA7xJ5
import Derived.Test.YtmecpfikljhjaaaDoorGK27xA0
open Go Go.K
set_option maxRecDepth 1000000
set_option maxHeartbeats 4000000
set_option linter.unusedVariables false
set_option linter.unusedSimpArgs false
namespace Go.Proofs.YtmecpfikljhjaaaDoor
noncomputable section
attribute [local irreducible] vF
def Ci(cs:List Cht):Prop :=
 (ck (cs.length=0) False (((0+cs.length)*48<=2 ^ 44/\cs.length≠0/\(0<=0/\0+0*4<=List.length ([]:List Value))/\(cs.length<=cs.length/\0+cs.length*4<=List.length (cs.flatMap chC))/\((((cs.flatMap chC).drop 0).take (cs.length*4)):List Value).all (fun v=>du v)=true)/\true=true/\(true=true/\wk (slN 3 (0+cs.length):Value) (rn (sg 2 [(2,3)]) 3 (slQ 2 1 cs.length:Value))/\((kbq 2 (.cells true 4 (((([]:List Value).drop 0).take (0*4))++(((cs.flatMap chC).drop 0).take (cs.length*4)))) (.cells true 4 (cs.flatMap chC)))/\True))))
abbrev jo2:List Value:=[nI 4000,nI 8000,nI 14000,nI 24000,nI 40000,nI 90000]
theorem GS(cs:List Cht):vF prog msk (dm 0) 100000 true 40 true 64 [slN 1 cs.length] (aI [.cells false 0 jo2,.cells false 0 (cs.flatMap chC)]) (some [])
 (.go 5 (.cas (cs.length=0) (.again []) (.need (.go 0 (.again [(2,3)])))))
 (kd ((aI [.cells false 0 jo2,.cells false 0 (cs.flatMap chC)]):HT).n 3 (slQ 2 1 cs.length) [(true,.cells true 4 (cs.flatMap chC))])=Ci cs:=by kernel_rfl
abbrev joq:aa:=.cells false 0 jo2
abbrev jof(p:Pl):=p.land.flatMap af
abbrev joj(p:Pl):=p.cts.flatMap chC
abbrev jo8(p:Pl):Prop:=(ac (.cells true 1 (p.chan.flatMap af)))/\(ac (.cells true 2 (p.shp.th.flatMap ptC)))/\(ac (.cells true 2 (p.shp.wa.flatMap ptC)))/\(ac (.cells true 2 (p.shp.ic.flatMap ptC)))/\True
abbrev jo7(H':Heap)(p:Pl):Prop:=H'[3]?=some (.cells true 1 (p.chan.flatMap af):aa)/\H'[4]?=some (.cells true 2 (p.shp.th.flatMap ptC):aa)/\H'[5]?=some (.cells true 2 (p.shp.wa.flatMap ptC):aa)/\H'[6]?=some (.cells true 2 (p.shp.ic.flatMap ptC):aa)/\True
abbrev jo5(p:Pl):List Value:=[.agg #[nI p.w,nI p.h,slQ 1 2 p.land.length,slQ 2 2 p.cts.length,slQ 3 2 p.chan.length,nI p.shp.cls,nI p.shp.pow,nI p.shp.dra,nI p.shp.ton,slQ 4 2 p.shp.th.length,slQ 5 2 p.shp.wa.length,slQ 6 2 p.shp.ic.length,nI p.shp.slow,nI p.shp.aB,nI p.shp.rdg,nI p.shp.prs,nI p.size,nI p.frm,nI p.to]]
abbrev joi(p:Pl):Int:=(p.cts.length:Nat)
abbrev jod(p:Pl):Prop:=eR (pt 7)/\eR (nI 0)/\eR (nI 0)/\eR (.func (.func 63) #[] #[])/\wR (slQ 8 1 p.cts.length)/\eR (nI (joi p))/\True
abbrev jor(p:Pl)(x2:Nat):=dI p.cts x2
abbrev jo3(p:Pl)(x2:Nat):=List.length ((jor p x2).getD x2 zCh).cells
abbrev jo4(p:Pl)(x2:Nat):Value:=.agg ⟨(List.flatMap cellC ((jor p x2).getD x2 zCh).cells)⟩
abbrev joe(p:Pl)(x2:Nat):Value:=.agg #[nI ((jor p x2).getD x2 zCh).w,nI ((jor p x2).getD x2 zCh).h,nI ((jor p x2).getD x2 zCh).hr,.iface ((jo3 p x2)+1) (jo4 p x2)]
abbrev joh(p:Pl)(x2:Nat):Value:=.iface ((jo3 p x2)+1) (jo4 p x2)
abbrev jo1(p:Pl)(x2 x3:Nat):=List.getD ((jor p x2).getD x2 zCh).cells x3 ak
abbrev jo9(p:Pl)(x2 x3:Nat):Value:=.agg #[nI (jo1 p x2 x3).aW.lo,nI (jo1 p x2 x3).aW.hi,nI (jo1 p x2 x3).ai.lo,nI (jo1 p x2 x3).ai.hi,nI (jo1 p x2 x3).aw.lo,nI (jo1 p x2 x3).aw.hi,nI (jo1 p x2 x3).am.lo,nI (jo1 p x2 x3).am.hi]
abbrev joa(p:Pl)(x2 x3:Nat):=iw ((jor p x2).getD x2 zCh) x3
abbrev job(p:Pl)(x2 x3:Nat):List Value:=[nI (jo1 p x2 x3).aW.lo,nI (jo1 p x2 x3).aW.lo,nI (jo1 p x2 x3).ai.lo,nI (jo1 p x2 x3).ai.lo,nI (jo1 p x2 x3).aw.lo,nI (jo1 p x2 x3).aw.lo,nI (jo1 p x2 x3).am.lo,nI (jo1 p x2 x3).am.lo]
abbrev joc(p:Pl):=List.flatMap chC (bD p).cts
abbrev jo0(p:Pl):List Value:=[nI p.w,nI p.h,slQ 1 2 p.land.length,slQ 9 2 (List.length (bD p).cts),slQ 3 2 p.chan.length,nI p.shp.cls,nI p.shp.pow,nI p.shp.dra,nI p.shp.ton,slQ 4 2 p.shp.th.length,slQ 5 2 p.shp.wa.length,slQ 6 2 p.shp.ic.length,nI p.shp.slow,nI p.shp.aB,nI p.shp.rdg,nI p.shp.prs,nI p.size,nI p.frm,nI p.to,nI (endP (bD p)),.map (some 11)]
abbrev jog(p:Pl):=knE (ab.nil (sfP (bD p))).1
abbrev jok(p:Pl):=rn (sg 7 []) 3 (.tuple #[nI (bl (bD p)),nI (bI (bD p))]:Value)
def Fe(p:Pl):Prop :=
 (((ac joq)/\(ac (.cells true 1 (jof p)))/\(ac (.cells false 0 (joj p)))/\jo8 p)/\(∀H':Heap,H'.length=8->(H'[0]?=some (.cells false 0 jo2:aa)/\H'[1]?=some (.cells true 1 (jof p):aa)/\H'[2]?=some (.cells false 0 (joj p):aa)/\jo7 H' p)->ae prog 47 (jo5 p) H' [] (Is (nI 0) H'))/\(n2q 8 0 joq 2 (.cells false 0 (joj p)) 64 [slQ 2 2 p.cts.length] (slQ 8 1 p.cts.length) [(.cells true 4 (joj p):aa)] (lq (0<=List.length p.cts) (true=true/\((nI 0:Value)=nI ((0:Nat):Int)/\jod p)/\((kbq 9 (.cells true 4 (joj p)) (.cells true 4 ((dI p.cts 0).flatMap chC)))/\True)/\(True)/\(True)) (∀x2:Nat,(x2<=List.length p.cts)->(fk (decide (((x2:Int):Int)<(joi p))) ((ixq (x2:Int) p.cts.length)/\((d6 4 ((jor p x2).flatMap chC) (0+Int.toNat (x2:Int)*4)=some (joe p x2))/\(lq (0<=List.length ((jor p x2).getD x2 zCh).cells) (true=true/\((nI 0:Value)=nI ((0:Nat):Int)/\wk (.slice none 0 0:Value) (slQ 0 1 (iw ((jor p x2).getD x2 zCh) 0).length:Value)/\eR (nI (joi p))/\wR (slQ 8 1 p.cts.length)/\eR (.func (.func 63) #[] #[])/\eR (nI 0)/\eR (nI 0)/\eR (pt 7)/\eR (nI (x2:Int))/\eR (pt 9)/\eR (nI (x2:Int))/\(joh p x2)=rn (sg 10 []) 3 (joh p x2)/\eR (nI (((jo3 p x2):Nat):Int))/\True)/\(True)/\(True/\True)/\(True)) (∀x3:Nat,(x3<=List.length ((jor p x2).getD x2 zCh).cells)->(fk (decide (((x3:Int):Int)<(((jo3 p x2):Nat):Int))) ((ixq (x3:Int) (jo3 p x2))/\((d6 8 (List.flatMap cellC ((jor p x2).getD x2 zCh).cells) (Int.toNat (x3:Int)*8)=some (jo9 p x2 x3))/\(apq (joa p x2 x3).length 64 8 ((joa p x2 x3).flatMap cellC) (job p x2 x3) (nw ((x3:Int)+1) (∃x3':Nat,(x3'<=List.length ((jor p x2).getD x2 zCh).cells)/\(List.length ((jor p x2).getD x2 zCh).cells-x3')<(List.length ((jor p x2).getD x2 zCh).cells-x3)/\true=true/\((nI ((x3:Int)+1):Value)=nI (x3':Int)/\wk (slN 13 ((joa p x2 x3).length+1):Value) (slQ 13 1 (iw ((jor p x2).getD x2 zCh) x3').length:Value)/\eR (nI (joi p))/\wR (slQ 8 1 p.cts.length)/\eR (.func (.func 63) #[] #[])/\eR (nI 0)/\eR (nI 0)/\eR (pt 7)/\eR (nI (x2:Int))/\eR (pt 9)/\eR (nI (x2:Int))/\(joh p x2)=rn (sg 10 [(10,13)]) 3 (joh p x2)/\eR (nI (((jo3 p x2):Nat):Int))/\True)/\(True)/\((kbq 10 (.cells true 8 (((((joa p x2 x3).flatMap cellC).drop 0).take ((joa p x2 x3).length*8))++((((job p x2 x3):List Value).drop 0).take (1*8)))) (.cells true 8 ((iw ((jor p x2).getD x2 zCh) x3').flatMap cellC)))/\True)/\(True)))))) ((ixq (x2:Int) p.cts.length)/\((((0+Int.toNat (x2:Int)*4)+3)+1<=List.length ((jor p x2).flatMap chC))/\true=true/\(nw ((x2:Int)+1) (∃x2':Nat,(x2'<=List.length p.cts)/\(List.length p.cts-x2')<(List.length p.cts-x2)/\true=true/\((nI ((x2:Int)+1):Value)=nI (x2':Int)/\jod p)/\((kbq 9 (.cells true 4 (ba ((jor p x2).flatMap chC) ((0+Int.toNat (x2:Int)*4)+3) [.iface ((joa p x2 x3).length+1) (.agg ⟨((joa p x2 x3).flatMap cellC)⟩)])) (.cells true 4 ((dI p.cts x2').flatMap chC)))/\True)/\(True)/\(True)))))))))) ((some (.cells true 4 ((jor p x2).flatMap chC):aa)=some (.cells true 4 (joc p):aa))/\(((.agg #[nI p.w,nI p.h,slQ 1 2 p.land.length,slQ 9 2 p.cts.length,slQ 3 2 p.chan.length,nI p.shp.cls,nI p.shp.pow,nI p.shp.dra,nI p.shp.ton,slQ 4 2 p.shp.th.length,slQ 5 2 p.shp.wa.length,slQ 6 2 p.shp.ic.length,nI p.shp.slow,nI p.shp.aB,nI p.shp.rdg,nI p.shp.prs,nI p.size,nI p.frm,nI p.to]:Value) = .agg #[nI p.w,nI p.h,slQ 1 2 p.land.length,slQ 9 2 (List.length (bD p).cts),slQ 3 2 p.chan.length,nI p.shp.cls,nI p.shp.pow,nI p.shp.dra,nI p.shp.ton,slQ 4 2 p.shp.th.length,slQ 5 2 p.shp.wa.length,slQ 6 2 p.shp.ic.length,nI p.shp.slow,nI p.shp.aB,nI p.shp.rdg,nI p.shp.prs,nI p.size,nI p.frm,nI p.to])/\(((ac joq)/\(ac (.cells true 1 (jof p)))/\(ac (.cells false 0 (joc p)))/\jo8 p)/\(∀H':Heap,H'.length=10->(H'[0]?=some (.cells false 0 jo2:aa)/\H'[1]?=some (.cells true 1 (jof p):aa)/\H'[9]?=some (.cells false 0 (joc p):aa)/\jo7 H' p)->ae prog 30 [.agg #[nI p.w,nI p.h,slQ 1 2 p.land.length,slQ 9 2 (List.length (bD p).cts),slQ 3 2 p.chan.length,nI p.shp.cls,nI p.shp.pow,nI p.shp.dra,nI p.shp.ton,slQ 4 2 p.shp.th.length,slQ 5 2 p.shp.wa.length,slQ 6 2 p.shp.ic.length,nI p.shp.slow,nI p.shp.aB,nI p.shp.rdg,nI p.shp.prs,nI p.size,nI p.frm,nI p.to]] H' [] (Is (.tuple #[pt 10,nI 0]) (H' ++ [(.cells true 0 (jo0 p):aa),(.map (jog p):aa)])))/\(((ac joq)/\(ac (.cells true 0 (jo0 p)))/\(ac (.cells true 1 (jof p)))/\(ac (.cells false 0 (joc p)))/\(ac (.cells true 1 (p.chan.flatMap af)))/\(ac (.cells true 2 (p.shp.th.flatMap ptC)))/\(ac (.cells true 2 (p.shp.wa.flatMap ptC)))/\(ac (.cells true 2 (p.shp.ic.flatMap ptC)))/\(ac (.map (jog p)))/\True)/\(∀H':Heap,H'.length=12->(H'[0]?=some (.cells false 0 jo2:aa)/\H'[10]?=some (.cells true 0 (jo0 p):aa)/\H'[1]?=some (.cells true 1 (jof p):aa)/\H'[9]?=some (.cells false 0 (joc p):aa)/\H'[3]?=some (.cells true 1 (p.chan.flatMap af):aa)/\H'[4]?=some (.cells true 2 (p.shp.th.flatMap ptC):aa)/\H'[5]?=some (.cells true 2 (p.shp.wa.flatMap ptC):aa)/\H'[6]?=some (.cells true 2 (p.shp.ic.flatMap ptC):aa)/\H'[11]?=some (.map (jog p):aa)/\True)->ae prog 31 [pt 10] H' [11] (fun y H2 => ∃z:ab (sfP (bD p)),True/\y=nI (bC (bD p))/\H2=(List.set H' 11 (.map (knE z.1):aa))))/\(∀r4:ab (sfP (bD p)),True->(fk (decide (((bC (bD p)):Int)<0)) (true=true/\wk (.tuple #[nI 0,nI 51]:Value) (jok p)/\(True)) (true=true/\wk (.tuple #[nI (bC (bD p)),nI 0]:Value) (jok p)/\(True)))))))))))))
abbrev jo6(p:Pl):=aI [.cells false 0 jo2,.cells true 1 (jof p),.cells false 0 (joj p),.cells true 1 (p.chan.flatMap af),.cells true 2 (p.shp.th.flatMap ptC),.cells true 2 (p.shp.wa.flatMap ptC),.cells true 2 (p.shp.ic.flatMap ptC)]
abbrev jol:Nat×aa:=(0,.cells false 0 jo2)
abbrev jom(p:Pl):Nat×aa:=(3,.cells true 1 (p.chan.flatMap af))
abbrev jon(p:Pl):Nat×aa:=(4,.cells true 2 (p.shp.th.flatMap ptC))
abbrev joo(p:Pl):Nat×aa:=(5,.cells true 2 (p.shp.wa.flatMap ptC))
abbrev jop(p:Pl):Nat×aa:=(6,.cells true 2 (p.shp.ic.flatMap ptC))
theorem IA(p:Pl):vF prog msk (dm 0) 100000 true 40 true 25 (jo5 p) (jo6 p) (some [])
 (.go 3 (.ans [jol,(1,.cells true 1 (jof p)),(2,.cells false 0 (joj p)),(jom p),(jon p),(joo p),(jop p)] (nI 0) [] (.go 6 (.ans [jol,(2,.cells false 0 (joj p))] (slQ 8 1 p.cts.length) [.cells true 4 (joj p)] (.go 5 (.inv 3 (Nat) (0) [] [8] (fun x2=>[(26,nI (x2:Int)),(1,pt 7),(2,nI 0),(3,nI 0),(5,.func (.func 63) #[] #[]),(24,slQ 8 1 p.cts.length),(25,nI (joi p))]) (fun x2=>[(8,true,.cells true 4 ((jor p x2).flatMap chC))]) (fun x2=>[]) (fun x2=>[]) (fun x2=>(x2<=List.length p.cts)) (fun x2=>(List.length p.cts-x2)) (fun x2 => .go 0 (.fork (.go 0 (.need (.val (joe p x2) (.go 7 (.inv 3 (Nat) (0) [] [] (fun x3=>[(34,nI (x3:Int)),(8,slQ 10 1 (joa p x2 x3).length),(25,nI (joi p)),(24,slQ 8 1 p.cts.length),(5,.func (.func 63) #[] #[]),(3,nI 0),(2,nI 0),(1,pt 7),(26,nI (x2:Int)),(7,pt 9),(6,nI (x2:Int)),(32,.iface ((jo3 p x2)+1) (jo4 p x2)),(33,nI (((jo3 p x2):Nat):Int))]) (fun x3=>[]) (fun x3=>[(true,.cells true 8 ((joa p x2 x3).flatMap cellC))]) (fun x3=>[]) (fun x3=>(x3<=List.length ((jor p x2).getD x2 zCh).cells)) (fun x3=>(List.length ((jor p x2).getD x2 zCh).cells-x3)) (fun x3 => .go 0 (.fork (.need (.val (jo9 p x2 x3) (.go 52 (.need (.go 1 (.slot 58 (nI ((x3:Int)+1)) (.go 0 (.again [(10,13)])))))))) (.go 3 (.frz [62] (.need (.go 0 (.need (.go 0 (.slot 65 (nI ((x2:Int)+1)) (.go 0 (.again [])))))))))))))))) (.obj 8 (.cells true 4 (joc p)) (.go 0 (.tab [.tog 67 3,.tog 67 3] (.slot 67 (.agg #[nI p.w,nI p.h,slQ 1 2 p.land.length,slQ 9 2 (List.length (bD p).cts),slQ 3 2 p.chan.length,nI p.shp.cls,nI p.shp.pow,nI p.shp.dra,nI p.shp.ton,slQ 4 2 p.shp.th.length,slQ 5 2 p.shp.wa.length,slQ 6 2 p.shp.ic.length,nI p.shp.slow,nI p.shp.aB,nI p.shp.rdg,nI p.shp.prs,nI p.size,nI p.frm,nI p.to]) (.ans [jol,(1,.cells true 1 (jof p)),(9,.cells false 0 (joc p)),(jom p),(jon p),(joo p),(jop p)] (.tuple #[pt 10,nI 0]) [.cells true 0 (jo0 p),.map (jog p)] (.go 8 (.cx [jol,(10,.cells true 0 (jo0 p)),(1,.cells true 1 (jof p)),(9,.cells false 0 (joc p)),(jom p),(jon p),(joo p),(jop p),(11,.map (jog p))] [11] (ab (sfP (bD p))) (fun r4=>True) (fun r4=>nI (bC (bD p))) (fun r4=>[(11,.map (knE r4.1))]) (fun r4=>[]) (fun r4 => .go 2 (.fork (.go 1 (.again [])) (.go 2 (.again [])))))))))))))))))))
 (kd ((jo6 p):HT).n 3 (.tuple #[nI (bl (bD p)),nI (bI (bD p))]) [])=Fe p:=by kernel_rfl
theorem gQ{e:Nat->Int}:∀{n:Nat},(∀i,i<n->e i=0)->cU e n=0
 |0,_=>rfl
 |n+1,h=>gR (gQ fun i hi=>h i (by omega)) (h n (by omega))
theorem AA{c:Cell}(h:bv c):bv (leC c):=by
 unfold bv cG leC leS at *
 dsimp only at *
 omega
theorem DQ{l:List Cell}(h:errs aP l=0):errs aP (l.map leC)=0:=by
 induction l with
 |nil=>rfl
 |cons x l ih =>
  have h0:(if aP x=0 then errs aP l else aP x)=0:=h
  split at h0
  ·rename_i hx
   show (if aP (leC x)=0 then errs aP (l.map leC) else aP (leC x))=0
   rw[if_pos (e8.2 (AA (e8.1 hx)))];exact ih h0
  ·rename_i hx;exact absurd h0 hx
theorem AC(c:Cht):iw c c.cells.length=c.cells.map leC:=by unfold iw;rw[List.take_length]
theorem Bb{p:Pl}(e:∀i,i<p.cts.length->cB p i=0):∀i,i<p.cts.length->cB (bD p) i=0:=by
 intro i hi
 have h:=e i hi
 have g1:(bD p).cts.getD i zCh=leH (p.cts.getD i zCh):=by
  show (dI p.cts p.cts.length).getD i zCh=_
  rw[gv _ _ (Nat.le_refl _) i hi,if_pos hi]
 have g0:(bD p).cts.getD 0 zCh=leH (p.cts.getD 0 zCh):=by
  show (dI p.cts p.cts.length).getD 0 zCh=_
  rw[gv _ _ (Nat.le_refl _) 0 (by omega),if_pos (by omega)]
 unfold cB at h ⊢
 dsimp only at h ⊢
 rw[g1,g0]
 obtain ⟨h1,h2⟩:=e7 h
 have h3:cL (p.cts.getD i zCh).w (p.cts.getD i zCh).h (p.cts.getD i zCh).hr (iw (p.cts.getD i zCh) (p.cts.getD i zCh).cells.length)=0:=by
  unfold cL at h1 ⊢
  obtain ⟨k1,k2⟩:=e7 h1
  rw[AC,List.length_map,k1,cj rfl]
  split at k2
  ·rename_i q;rw[if_pos q];exact DQ k2
  ·cases k2
 show bV (cL _ _ _ (iw _ _)) _=0
 rw[show cL (leH (p.cts.getD i zCh)).w (leH (p.cts.getD i zCh)).h (leH (p.cts.getD i zCh)).hr (iw (p.cts.getD i zCh) (p.cts.getD i zCh).cells.length)=0 from h3,cj rfl]
 exact h2
theorem DC{p:Pl}(e0:bQ p=0):bQ (bD p)=0:=by
 have o:=ip e0
 have hl:(bD p).cts.length=p.cts.length:=gu _ _
 have hu:cU (cB (bD p)) p.cts.length=cU (cB p) p.cts.length:=by rw[gQ (Bb o.cht),gQ o.cht]
 unfold bQ at e0 ⊢
 rw[hl,hu]
 exact e0
theorem CY(l:List Cht)(n:Nat):((List.take n (List.drop 0 (l.flatMap chC))).all fun v=>du v)=true:=by
 rw[List.all_eq_true]
 intro v hv
 have h:=List.mem_of_mem_take hv
 rw[List.drop_zero]at h
 obtain ⟨c,_,h⟩:=List.mem_flatMap.1 h
 simp only[chC,List.mem_cons,List.not_mem_nil,or_false,List.mem_append]at h
 rcases h with h|h|h|h <;> (subst h;rfl)
theorem G4{id o l:Nat}(h:0<l):wk (.slice (some ⟨id,o,some 2⟩) l l) (.slice (some ⟨id,o,none⟩) l l):=by
 intro V x hx
 cases hx with
 |ax=>exact absurd h (Nat.lt_irrefl 0)
 |aX h hp hl hc ho=>exact .slice h hl hc ho
theorem FW{cs:List Cht}(h0:0<cs.length)(h1:cs.length<=1000000){H:Heap}{L:Nat}(hH:H[0]?=some bF)(hL:H[L]?=some (.cells false 0 (cs.flatMap chC)))(hne:L≠0) :
  ae prog 64 [slQ L 2 cs.length] H [] (Is (slQ H.length 1 cs.length) (H ++ [.cells true 4 (cs.flatMap chC)])):=by
 have fl:=aC (f:=chC) fj cs
 refine ae.wkA (args2:=[slN L cs.length]) ?_ ⟨G4 h0,trivial⟩
 refine jV (os:=[bF,.cells false 0 (cs.flatMap chC)]) (ids:=[0,L]) (fun j=>slQ j 1 cs.length) (new:=[.cells true 4 (cs.flatMap chC)]) (Eq.mpr (GS cs) ?_) (by show (ap 3 bF&&(ap 3 (.cells false 0 (cs.flatMap chC))&&true))=true;rw[BL];rfl) rfl ⟨⟨_,_,rfl,eh _ _⟩,trivial⟩ (by simp[Ne.symm hne]) ⟨hH,by rw[uk];exact hL,trivial⟩ rfl (fun j=>rfl) rfl
 delta Ci slQ slN ck kbq
 refine ⟨fun q=>absurd q (by omega),fun _=>⟨⟨by omega,by omega,⟨Nat.le_refl _,Nat.le_refl _⟩,⟨Nat.le_refl _,by omega⟩,CY _ _⟩,rfl,?_⟩⟩
 have e:List.take (0*4) (List.drop 0 ([]:List Value))++List.take (cs.length*4) (List.drop 0 (cs.flatMap chC))=cs.flatMap chC:=by
  rw[List.drop_zero,List.drop_zero,List.take_of_length_le (l:=cs.flatMap chC) (by omega)];rfl
 rw[e,Nat.zero_add]
 repeat' first|exact eh _ _|exact trivial|(exact p5 (by omega))|refine ⟨rfl,?_⟩|apply And.intro
theorem Ag{l:List Cell}{k off:Nat}(h:k<l.length)(ho:off=k*8):d6 8 (l.flatMap cellC) off=some (.agg ⟨cellC (l.getD k ak)⟩):=j8 (n:=8) (d:=ak) (c:=0) (m:=8) df h (by omega) (by omega)
theorem Ez(S:Nat->Option Nat)(n:Nat)(l:List Cell):rn S 3 (.iface n (.agg ⟨l.flatMap cellC⟩)) = .iface n (.agg ⟨l.flatMap cellC⟩):=by
 show Value.iface _ (.agg ⟨(l.flatMap cellC).map (rn S 2)⟩)=_
 rw[List.map_congr_left (g:=fun v=>v) fun v hv =>?_,List.map_id']
 obtain ⟨c,_,h⟩:=List.mem_flatMap.1 hv
 simp only[cellC,List.mem_cons,List.not_mem_nil,or_false,List.mem_append]at h
 rcases h with h|h|h|h|h|h|h|h <;> (subst h;rfl)
theorem Hm{H:Heap}{p:Pl}{Q:Prop}(h:H[0]?=some bF/\H[1]?=some (.cells true 1 (p.land.flatMap af))/\H[9]?=some (.cells false 0 (p.cts.flatMap chC))/\H[3]?=some (.cells true 1 (p.chan.flatMap af)) /\
  H[4]?=some (.cells true 2 (p.shp.th.flatMap ptC))/\H[5]?=some (.cells true 2 (p.shp.wa.flatMap ptC))/\H[6]?=some (.cells true 2 (p.shp.ic.flatMap ptC))/\Q):gU H p 1 9 3 4 5 6:=by
 obtain ⟨a0,a1,a2,a3,a4,a5,a6,_⟩:=h
 exact ⟨by decide,a0,a1,a2,a3,a4,a5,a6⟩
theorem G5{H:Heap}{p:Pl}{K:ab (sfP p)}{Q:Prop}(h:H[0]?=some bF/\H[10]?=some (.cells true 0 (wkC p 1 9 3 4 5 6 11))/\H[1]?=some (.cells true 1 (p.land.flatMap af))/\H[9]?=some (.cells false 0 (p.cts.flatMap chC))/\H[3]?=some (.cells true 1 (p.chan.flatMap af)) /\
  H[4]?=some (.cells true 2 (p.shp.th.flatMap ptC))/\H[5]?=some (.cells true 2 (p.shp.wa.flatMap ptC))/\H[6]?=some (.cells true 2 (p.shp.ic.flatMap ptC))/\H[11]?=some (.map (knE K.1))/\Q):je H p K 1 9 3 4 5 6 10 11:=by
 obtain ⟨a0,a7,a1,a2,a3,a4,a5,a6,a8,_⟩:=h
 exact ⟨by decide,a0,a1,a2,a3,a4,a5,a6,a7,a8⟩
theorem Hz{p:Pl}(e0:bQ p=0){H:Heap}{l c n t w i:Nat}(a:gU H p l c n t w i) :
  ae prog 25 [plV p l c n t w i] H [] (Is (.tuple #[nI (bl (bD p)),nI (bI (bD p))]) H):=by
 have o:=ip e0
 have e1:=DC e0
 have o1:=ip e1
 have hcl:(bD p).cts.length=p.cts.length:=gu _ _
 have key:=jV (fun _ => .tuple #[nI (bl (bD p)),nI (bI (bD p))]) (new:=[]) (Eq.mpr (IA p) ?_) (kY p) rfl trivial a.1 a.objs rfl (fun _=>rfl) (args':=[plV p l c n t w i]) rfl
 ·rwa [List.append_nil]at key
 have hct:=o.cts
 have hbd:=o.bd
 delta Fe joq jof joj jo8 jo2 jo7 jo5 jod joi jor joe joh jo3 jo9 joa job joc jo0 jog jok jo1 jo4 nI slQ pt slN ac fk nw eR wR kbq ixq lq apq n2q
 refine ⟨?_,fun H' _ h=>e0 ▸ AX p o.lst h.2.1 h.2.2.1 h.2.2.2.1 h.2.2.2.2.1 h.2.2.2.2.2.1 h.2.2.2.2.2.2.1,?_,fun H' hn h=>hn ▸ FW (by omega) (by omega) h.1 h.2.1 (by decide),rfl,Nat.zero_le _,⟨rfl,?_⟩,fun _=>rfl,fun x2 hx2=>⟨fun q =>?_,fun q =>?_⟩⟩
 ·repeat' first|exact trivial|refine ⟨rfl,?_⟩
 ·repeat' first|exact trivial|refine ⟨rfl,?_⟩
 ·repeat' first|exact eh _ _|exact trivial|exact ad _|refine ⟨rfl,?_⟩|refine ⟨trivial,?_⟩|apply And.intro
 ·have hx:=aR q
  have hx':x2<p.cts.length:=by omega
  have hll:=gu p.cts x2
  have hg:=gv p.cts x2 hx2 x2 hx'
  rw[if_neg (Nat.lt_irrefl x2)]at hg
  have ch:=o.BK hx'
  have hcc:=ch.len
  rw[<- hg]at hcc
  refine ⟨by omega,Ah (by omega) (by omega),rfl,Nat.zero_le _,⟨rfl,?_⟩,fun _=>rfl,fun x3 hx3=>⟨fun q3 =>?_,fun q3 =>?_⟩⟩
  ·repeat' first|exact (Ez _ _ _).symm|exact trivial|exact ad _|exact ed _ _ _ (.inl rfl)|refine ⟨rfl,?_⟩|refine ⟨trivial,?_⟩|apply And.intro
  ·have h3:=aR q3
   have h3':x3<((dI p.cts x2).getD x2 zCh).cells.length:=by omega
   have yes:=yL h3'
   have hl3:=AB _ x3 hx3
   refine ⟨by omega,Ag h3' (by omega),⟨by omega,by decide,⟨Nat.le_refl _,by rw[aC df];omega⟩,⟨Nat.le_refl _,by simp⟩,rfl⟩,rfl,ag (by omega),x3+1,by omega,by omega,rfl,?_⟩
   repeat' first|exact cD yes|exact bN df yes rfl|exact kX _ _|exact (Ez _ _ _).symm|exact trivial|exact ad _|refine ⟨rfl,?_⟩|refine ⟨trivial,?_⟩|apply And.intro
  ·have h3:=aV q3
   have e3:x3=((dI p.cts x2).getD x2 zCh).cells.length:=by omega
   have fl:=aC (f:=chC) fj (dI p.cts x2)
   have es:ba ((dI p.cts x2).flatMap chC) (x2*4+3) [.iface ((iw ((dI p.cts x2).getD x2 zCh) x3).length+1) (.agg ⟨(iw ((dI p.cts x2).getD x2 zCh) x3).flatMap cellC⟩)]=(dI p.cts (x2+1)).flatMap chC:=by
    rw[e3]
    exact vZ (d:=zCh) (y:=leH ((dI p.cts x2).getD x2 zCh)) fj (dI p.cts x2) x2 (by omega) (Nat.le_refl 4) rfl
   refine ⟨by omega,by omega,rfl,ag (by omega),x2+1,by omega,by omega,rfl,?_⟩
   rw[show 0+Int.toNat (x2:Int)*4+3=x2*4+3 by omega,es]
   repeat' first|exact eh _ _|exact trivial|exact ad _|refine ⟨rfl,?_⟩|refine ⟨trivial,?_⟩|apply And.intro
 ·have hx:=aV q
  have e:dI p.cts x2=(bD p).cts:=by
   show _=dI p.cts p.cts.length
   congr 1;omega
  rw[e]
  refine ⟨rfl,by rw[hcl],?_,fun H' hn h=>nD o1.lst e1 hn rfl (Hm h),?_,fun H' hn h=>tn o1 (G5 h),fun r4 _=>⟨fun s =>?_,fun s =>?_⟩⟩
  ·repeat' first|exact trivial|refine ⟨rfl,?_⟩
  ·repeat' first|exact trivial|refine ⟨rfl,?_⟩
  ·have h:=aR s
   rw[show bl (bD p)=0 from if_pos h,show bI (bD p)=51 from if_pos h]
   repeat' first|exact trivial|exact ad _|refine ⟨rfl,?_⟩|apply And.intro
  ·have h:=aV s
   rw[show bl (bD p)=bC (bD p) from if_neg h,show bI (bD p)=0 from if_neg h]
   repeat' first|exact trivial|exact ad _|refine ⟨rfl,?_⟩|apply And.intro
abbrev DO:List aa:=[.cells false 0 [nI 4000,nI 8000,nI 14000,nI 24000,nI 40000,nI 90000],.cells true 0 [nI 3,nI 1,slN 2 3,slN 14 2,slN 3 3,nI 3,nI 6000,nI 800,nI 9000,slN 6 3,slN 7 2,slN 8 2,nI 0,nI 20,nI 10,nI 100,nI 80,nI 0,nI 2],.cells true 1 [.bool false,.bool false,.bool false],.cells true 1 [.bool false,.bool false,.bool false],.cells true 0 [nI 3,nI 1,slN 2 3,slN 14 2,slN 3 3,nI 3,nI 6000,nI 800,nI 9000,slN 6 3,slN 7 2,slN 8 2,nI 0,nI 20,nI 10,nI 100,nI 80,nI 0,nI 2],.cells true 0 [nI 3,nI 6000,nI 800,nI 9000,slN 6 3,slN 7 2,slN 8 2,nI 0,nI 20,nI 10,nI 100],.cells true 2 [nI 0,nI 1000,nI 100,nI 800,nI 200,nI 0],.cells true 2 [nI 0,nI 0,nI 200,nI 400],.cells true 2 [nI 0,nI 0,nI 400,nI 2000],.cells true 8 [nI 0,nI 0,nI 0,nI 0,nI 0,nI 0,nI 0,nI 0,nI 0,nI 0,nI 0,nI 0,nI 0,nI 0,nI 0,nI 0,nI 0,nI 0,nI 0,nI 0,nI 0,nI 0,nI 0,nI 0],.cells true 4 [nI 3,nI 1,nI 0,slN 9 3],.dead,.cells true 8 [nI 0,nI 0,nI 0,nI 0,nI 0,nI 0,nI 0,nI 0,nI 0,nI 0,nI 0,nI 0,nI 0,nI 0,nI 0,nI 0,nI 0,nI 0,nI 0,nI 0,nI 0,nI 0,nI 0,nI 0],.cells true 4 [nI 3,nI 1,nI 1,slN 12 3],.cells true 4 [nI 3,nI 1,nI 0,slN 9 3,nI 3,nI 1,nI 1,slN 12 3],.cells true 0 [nI 3,nI 1,slN 2 3,slN 14 2,slN 3 3,nI 3,nI 6000,nI 800,nI 9000,slN 6 3,slN 7 2,slN 8 2,nI 0,nI 20,nI 10,nI 100,nI 80,nI 0,nI 2]]
abbrev DN:List aa:=[.cells false 0 [nI 4000,nI 8000,nI 14000,nI 24000,nI 40000,nI 90000],.cells true 0 [nI 3,nI 1,slN 2 3,slN 14 2,slN 3 3,nI 3,nI 6000,nI 800,nI 9000,slN 6 3,slN 7 2,slN 8 2,nI 0,nI 20,nI 10,nI 100,nI 80,nI 0,nI 2],.cells true 1 [.bool false,.bool false,.bool false],.cells true 1 [.bool false,.bool false,.bool false],.cells true 0 [nI 3,nI 1,slN 2 3,slN 14 2,slN 3 3,nI 3,nI 6000,nI 800,nI 9000,slN 6 3,slN 7 2,slN 8 2,nI 0,nI 20,nI 10,nI 100,nI 80,nI 0,nI 2],.cells true 0 [nI 3,nI 6000,nI 800,nI 9000,slN 6 3,slN 7 2,slN 8 2,nI 0,nI 20,nI 10,nI 100],.cells true 2 [nI 0,nI 1000,nI 100,nI 800,nI 200,nI 0],.cells true 2 [nI 0,nI 0,nI 200,nI 400],.cells true 2 [nI 0,nI 0,nI 400,nI 2000],.cells true 8 [nI 0,nI 0,nI 0,nI 0,nI 0,nI 0,nI 0,nI 0,nI 0,nI 100,nI 0,nI 150,nI 0,nI 0,nI 0,nI 3,nI 0,nI 0,nI 0,nI 0,nI 0,nI 0,nI 0,nI 0],.cells true 4 [nI 3,nI 1,nI 0,slN 9 3],.dead,.cells true 8 [nI 0,nI 0,nI 0,nI 0,nI 0,nI 0,nI 0,nI 0,nI 0,nI 0,nI 0,nI 0,nI 0,nI 0,nI 0,nI 0,nI 0,nI 0,nI 0,nI 0,nI 0,nI 0,nI 0,nI 0],.cells true 4 [nI 3,nI 1,nI 1,slN 12 3],.cells true 4 [nI 3,nI 1,nI 0,slN 9 3,nI 3,nI 1,nI 1,slN 12 3],.cells true 0 [nI 3,nI 1,slN 2 3,slN 14 2,slN 3 3,nI 3,nI 6000,nI 800,nI 9000,slN 6 3,slN 7 2,slN 8 2,nI 0,nI 20,nI 10,nI 100,nI 80,nI 0,nI 2],.cells true 4 [nI 1,nI 0,nI 160,nI 3,nI 2,nI 3,nI 160,nI 6]]
abbrev DM:List aa:=[.cells false 0 [nI 4000,nI 8000,nI 14000,nI 24000,nI 40000,nI 90000],.cells true 0 [nI 3,nI 1,slN 2 3,slN 14 2,slN 3 3,nI 3,nI 6000,nI 800,nI 9000,slN 6 3,slN 7 2,slN 8 2,nI 0,nI 20,nI 10,nI 100,nI 80,nI 0,nI 2],.cells true 1 [.bool false,.bool false,.bool false],.cells true 1 [.bool false,.bool false,.bool false],.cells true 0 [nI 3,nI 1,slN 2 3,slN 14 2,slN 3 3,nI 3,nI 6000,nI 800,nI 9000,slN 6 3,slN 7 2,slN 8 2,nI 0,nI 20,nI 10,nI 100,nI 80,nI 0,nI 2],.cells true 0 [nI 3,nI 6000,nI 800,nI 9000,slN 6 3,slN 7 2,slN 8 2,nI 0,nI 20,nI 10,nI 100],.cells true 2 [nI 0,nI 1000,nI 100,nI 800,nI 200,nI 0],.cells true 2 [nI 0,nI 0,nI 200,nI 400],.cells true 2 [nI 0,nI 0,nI 400,nI 2000],.cells true 8 [nI 0,nI 0,nI 0,nI 0,nI 0,nI 0,nI 0,nI 0,nI 0,nI 100,nI 0,nI 150,nI 0,nI 0,nI 0,nI 3,nI 0,nI 0,nI 0,nI 0,nI 0,nI 0,nI 0,nI 0],.cells true 4 [nI 3,nI 1,nI 0,slN 9 3],.dead,.cells true 8 [nI 0,nI 0,nI 0,nI 0,nI 0,nI 0,nI 0,nI 0,nI 0,nI 100,nI 0,nI 150,nI 0,nI 0,nI 0,nI 3,nI 0,nI 0,nI 0,nI 0,nI 0,nI 0,nI 0,nI 0],.cells true 4 [nI 3,nI 1,nI 1,slN 12 3],.cells true 4 [nI 3,nI 1,nI 0,slN 9 3,nI 3,nI 1,nI 1,slN 12 3],.cells true 0 [nI 3,nI 1,slN 2 3,slN 14 2,slN 3 3,nI 3,nI 6000,nI 800,nI 9000,slN 6 3,slN 7 2,slN 8 2,nI 0,nI 20,nI 10,nI 100,nI 80,nI 0,nI 2],.cells true 4 [nI 1,nI 0,nI 160,nI 3,nI 2,nI 3,nI 160,nI 6],.cells true 4 [nI 1,nI 6,nI 160,nI 9,nI 2,nI 9,nI 160,nI 12]]
abbrev BE:List aa:=[.cells false 0 [nI 4000,nI 8000,nI 14000,nI 24000,nI 40000,nI 90000],.cells true 0 [nI 3,nI 1,slN 2 3,slN 14 2,slN 3 3,nI 3,nI 6000,nI 800,nI 9000,slN 6 3,slN 7 2,slN 8 2,nI 0,nI 20,nI 10,nI 100,nI 80,nI 0,nI 2],.cells true 1 [.bool false,.bool false,.bool false],.cells true 1 [.bool false,.bool false,.bool false],.cells true 0 [nI 3,nI 1,slN 2 3,slN 14 2,slN 3 3,nI 3,nI 6000,nI 800,nI 9000,slN 6 3,slN 7 2,slN 8 2,nI 0,nI 20,nI 10,nI 100,nI 80,nI 0,nI 2],.cells true 0 [nI 3,nI 6000,nI 800,nI 9000,slN 6 3,slN 7 2,slN 8 2,nI 0,nI 20,nI 10,nI 100],.cells true 2 [nI 0,nI 1000,nI 100,nI 800,nI 200,nI 0],.cells true 2 [nI 0,nI 0,nI 200,nI 400],.cells true 2 [nI 0,nI 0,nI 400,nI 2000],.cells true 8 [nI 0,nI 0,nI 0,nI 0,nI 0,nI 0,nI 0,nI 0,nI 0,nI 100,nI 0,nI 150,nI 0,nI 0,nI 0,nI 3,nI 0,nI 0,nI 0,nI 0,nI 0,nI 0,nI 0,nI 0],.cells true 4 [nI 3,nI 1,nI 0,slN 9 3],.dead,.cells true 8 [nI 0,nI 0,nI 0,nI 0,nI 0,nI 0,nI 0,nI 0,nI 0,nI 100,nI 0,nI 150,nI 0,nI 0,nI 0,nI 3,nI 0,nI 0,nI 0,nI 0,nI 0,nI 0,nI 0,nI 0],.cells true 4 [nI 3,nI 1,nI 1,slN 12 3],.cells true 4 [nI 3,nI 1,nI 0,slN 9 3,nI 3,nI 1,nI 1,slN 12 3],.cells true 0 [nI 3,nI 1,slN 2 3,slN 14 2,slN 3 3,nI 3,nI 6000,nI 800,nI 9000,slN 6 3,slN 7 2,slN 8 2,nI 0,nI 20,nI 10,nI 100,nI 80,nI 0,nI 2],.cells true 4 [nI 1,nI 0,nI 160,nI 3,nI 2,nI 3,nI 160,nI 6],.cells true 4 [nI 1,nI 6,nI 160,nI 9,nI 2,nI 9,nI 160,nI 12],.cells true 1 [nI 1]]
abbrev cZ:List Value:=[ak,ak,ak].flatMap cellC
theorem DP(a b:Cell){H:Heap}(h0:H[0]?=some bF)(h2:H[2]?=some (.cells true 1 [.bool false,.bool false,.bool false]))(h3:H[3]?=some (.cells true 1 [.bool false,.bool false,.bool false]))(h6:H[6]?=some (.cells true 2 [nI 0,nI 1000,nI 100,nI 800,nI 200,nI 0]))(h7:H[7]?=some (.cells true 2 [nI 0,nI 0,nI 200,nI 400]))(h8:H[8]?=some (.cells true 2 [nI 0,nI 0,nI 400,nI 2000])) :
  Eo H (bn a b) 2 3 6 7 8:=⟨by decide,h0,h2,h3,h6,h7,h8⟩
theorem Jo:ae prog 8 [.agg ⟨zd⟩] DO [] (Is (.tuple #[slQ 16 1 2,nI 6,nI 0]) (DO ++ [.cells true 4 [nI 1,nI 0,nI 160,nI 3,nI 2,nI 3,nI 160,nI 6]])):=by
 have k:=xy (p:=bn ak ak) (fun j => .tuple #[.slice (some ⟨j,0,some 1⟩) (bi (bn ak ak)).length (bi (bn ak ak)).length,nI (bl (bn ak ak)),nI (bI (bn ak ak))]) (fun a=>FY (ip EQ).lst EQ a) ⟨⟨_,_,rfl,cm _ _⟩,trivial⟩ (H:=py DO cZ cZ) rfl (DP ak ak rfl rfl rfl rfl rfl rfl)
 rw[HX,Jh,Jk]at k
 exact wZ (c9:=cZ) (c12:=cZ) rfl rfl rfl rfl (fun o ho=>by rw[List.mem_singleton.1 ho];exact ⟨rfl,rfl⟩) rfl rfl (k.wkA (DL _ _ ak ak rfl rfl))
abbrev cV:List Value:=[ak,hvC,ak].flatMap cellC
theorem Jn:ae prog 8 [.agg ⟨zd⟩] DN [] (Is (.tuple #[slQ 17 1 2,nI 12,nI 0]) (DN ++ [.cells true 4 [nI 1,nI 6,nI 160,nI 9,nI 2,nI 9,nI 160,nI 12]])):=by
 have k:=xy (p:=bn hvC ak) (fun j => .tuple #[.slice (some ⟨j,0,some 1⟩) (bi (bn hvC ak)).length (bi (bn hvC ak)).length,nI (bl (bn hvC ak)),nI (bI (bn hvC ak))]) (fun a=>FY (ip EP).lst EP a) ⟨⟨_,_,rfl,cm _ _⟩,trivial⟩ (H:=py DN cV cZ) rfl (DP hvC ak rfl rfl rfl rfl rfl rfl)
 rw[HW,Jg,Jj]at k
 exact wZ (c9:=cV) (c12:=cZ) rfl rfl rfl rfl (fun o ho=>by rw[List.mem_singleton.1 ho];exact ⟨rfl,rfl⟩) rfl rfl (k.wkA (DL _ _ hvC ak rfl rfl))
theorem Jm:ae prog 17 [.agg ⟨zd⟩] DM [] (Is (.tuple #[slQ 18 1 1,nI 0]) (DM ++ [.cells true 1 [nI 1]])):=by
 have k:=xy (p:=bn hvC hvC) (fun j => .tuple #[.slice (some ⟨j,0,some 1⟩) (wlP (bn hvC hvC)).length (wlP (bn hvC hvC)).length,nI (wlE (bn hvC hvC))]) (fun a=>EM (ip BA).lst BA a) ⟨⟨_,_,rfl,bf _ _⟩,trivial⟩ (H:=py DM cV cV) rfl (DP hvC hvC rfl rfl rfl rfl rfl rfl)
 rw[HS,HR]at k
 exact wZ (c9:=cV) (c12:=cV) rfl rfl rfl rfl (fun o ho=>by rw[List.mem_singleton.1 ho];exact ⟨rfl,rfl⟩) rfl rfl (k.wkA (DL _ _ hvC hvC rfl rfl))
theorem Jl:ae prog 25 [.agg ⟨zd⟩] BE [] (Is (.tuple #[nI 6,nI 0]) BE):=by
 have k:=xy (p:=bn hvC hvC) (new:=[]) (fun _ => .tuple #[nI (bl (bD (bn hvC hvC))),nI (bI (bD (bn hvC hvC)))]) (fun {H l c n t w i} a=>by rw[List.append_nil];exact Hz BA a) trivial (H:=py BE cV cV) rfl (DP hvC hvC rfl rfl rfl rfl rfl rfl)
 rw[Jf,Ji]at k
 have z:=wZ (new:=[]) (c9:=cV) (c12:=cV) rfl rfl rfl rfl (fun o ho=>by cases ho) rfl rfl (k.wkA (DL _ _ hvC hvC rfl rfl)) (H:=BE) (vs:=zd) (f:=25) (v:=.tuple #[nI 6,nI 0])
 rw[List.append_nil]at z
 exact z
theorem A0{H:Heap}(h0:H[0]?=some bF):ae prog 9 [] H [] (Is (.bool true) H):=by
 refine jU (os:=[bF]) (ids:=[0]) (Eq.mpr (GW _) ?_) rfl rfl rfl (fun _=>rfl) (by decide) ⟨h0,trivial⟩ rfl rfl
 delta Cm jpl jpe jph jpm jpn jpo jpp jp2 jpq jpr jps jpt jpg jpi jpu jpv jpw jpx jpy jpz A3 jp9 A2 jpj jp7 jpk jpa jp1 jp6 jpd jpf jpb jpc jp8 jp3 jp4 jp0 jp5 nI slQ slN ac
 refine ⟨?_,fun H' hn h =>?_,?_,fun H' hn h =>?_,?_,fun H' hn h =>?_,?_,fun H' hn h =>?_,rfl⟩
 ·repeat' first|exact trivial|refine ⟨rfl,?_⟩
 ·obtain rfl:H'=DO:=kG h hn
  exact Jo
 ·repeat' first|exact trivial|refine ⟨rfl,?_⟩
 ·obtain rfl:H'=DN:=kG h hn
  exact Jn
 ·repeat' first|exact trivial|refine ⟨rfl,?_⟩
 ·obtain rfl:H'=DM:=kG h hn
  exact Jm
 ·repeat' first|exact trivial|refine ⟨rfl,?_⟩
 ·obtain rfl:H'=BE:=kG h hn
  exact Jl
def wtW(L:List Int)(n:Int):Int:=2+dN L n 5
def wtH(L:List Int)(n:Int):Int:=2+dN L (n+1) 4
def wtC(L:List Int)(n:Int)(i:Nat):Bool:=decide (0<i)&&(dN L (n+1+(i:Int)) 7 == 0)
def wtL(L:List Int)(n:Int)(k:Nat):List Bool:=(List.range k).map (wtC L n)
def wtK(L:List Int)(n:Int):Nat:=Int.toNat (wtW L n*wtH L n)
def wtD(n:Int):Nat->Int
 |0=>n+2
 |k+1=>n+2+(k:Int)
theorem rT(L:List Int)(n:Int)(k:Nat):wtL L n (k+1)=wtL L n k ++ [wtC L n k]:=by unfold wtL;rw[List.range_succ,List.map_append];rfl
theorem ww(L:List Int)(n:Int)(k:Nat):(wtL L n k).length=k:=by unfold wtL;simp
theorem zt(L:List Int)(n:Int):(2<=wtW L n/\wtW L n<=6)/\2<=wtH L n/\wtH L n<=5:=by
 have h1:=fh L n (m:=5) (by omega)
 have h2:=fh L (n+1) (m:=4) (by omega)
 unfold wtW wtH
 omega
theorem zr(L:List Int)(n:Int):4<=wtW L n*wtH L n/\wtW L n*wtH L n<=30:=by
 obtain ⟨h1,h2⟩:=zt L n
 have a:2*2<=wtW L n*wtH L n:=Int.mul_le_mul h1.1 h2.1 (by omega) (by omega)
 have b:wtW L n*wtH L n<=6*5:=Int.mul_le_mul h1.2 h2.2 (by omega) (by omega)
 omega
abbrev u8C(x:Int):List Value:=[.int .u8 x]
def rh(l:List Int):Prop:=∀x∈l,0<=x/\x<=255
structure eA(l:List Pt)(way:Int)(k:Nat)(x y:Int):Prop where
 len:l.length=k+1
 z:(l.getD 0 zP).1=0
 last:l.getD k zP=(x,y)
 pt:∀i,i<=k->gI l i=true
 st:∀i,i<=k->kN l way i=true
theorem nN{l:List Pt}{q:Pt}{i:Nat}(h:i<l.length):(l ++ [q]).getD i zP=l.getD i zP:=by
 rw[List.getD_eq_getElem?_getD,List.getD_eq_getElem?_getD,List.getElem?_append_left h]
theorem Bs{l:List Pt}{q:Pt}:(l ++ [q]).getD l.length zP=q:=by
 rw[List.getD_eq_getElem?_getD,List.getElem?_append_right (Nat.le_refl _),Nat.sub_self];rfl
theorem eA.one{way x y:Int}(hx:x=0)(hy:0<=y/\y<=20000):eA [(x,y)] way 0 x y:=by
 subst hx
 refine ⟨rfl,rfl,rfl,fun i hi =>?_,fun i hi =>?_⟩
 ·obtain rfl:i=0:=by omega
  show (inB 0 0 400&&inB y 0 20000 && !(decide (0<0)&&_))=true
  rw[bc.2 (show (0:Int)<=0/\(0:Int)<=400 by omega),bc.2 hy];rfl
 ·obtain rfl:i=0:=by omega
  rfl
theorem eA.more{l:List Pt}{way x y x' y':Int}{k:Nat}(c:eA l way k x y)(hx:x<x'/\x'<=400)(h0:0<=x')(hy:0<=y'/\y'<=20000)(hw:0<=(y'-y)*way):eA (l ++ [(x',y')]) way (k+1) x' y':=by
 have hl:=c.len
 have e1:(l ++ [(x',y')]).getD (k+1) zP=(x',y'):=by rw[<- hl];exact Bs
 have e0:∀i,i<=k->(l ++ [(x',y')]).getD i zP=l.getD i zP:=fun i hi=>nN (by omega)
 refine ⟨by rw[aE,hl];rfl,by rw[e0 0 (by omega)];exact c.z,e1,fun i hi =>?_,fun i hi =>?_⟩
 ·by_cases e:i=k+1
  ·subst e
   unfold gI
   rw[e1,show k+1-1=k from rfl,e0 k (Nat.le_refl _),c.last,bc.2 (show 0<=x'/\x'<=400 by omega),bc.2 hy,decide_eq_false (show ¬ x'<=x by omega),Bool.and_false];rfl
  ·have:=c.pt i (by omega)
   unfold gI at this ⊢
   rw[e0 i (by omega),e0 (i-1) (by omega)];exact this
 ·by_cases e:i=k+1
  ·subst e
   unfold kN
   rw[e1,show k+1-1=k from rfl,e0 k (Nat.le_refl _),c.last,decide_eq_false (show ¬ (y'-y)*way<0 by omega)]
   simp
  ·have:=c.st i (by omega)
   unfold kN at this ⊢
   rw[e0 i (by omega),e0 (i-1) (by omega)];exact this
theorem eA.ok{l:List Pt}{way x y:Int}{k:Nat}(c:eA l way k x y)(h1:1<=k)(h2:k<=7):cR l way=true/\dc l=x:=by
 have hl:=c.len
 refine ⟨?_,by unfold dc;rw[hl,Nat.add_sub_cancel,c.last]⟩
 unfold cR lu
 rw[bc.2 (show (2:Int)<=(l.length:Int)/\(l.length:Int)<=8 by omega),c.z]
 have a:(List.range l.length).all (gI l)=true:=by
  rw[List.all_eq_true];intro i hi;exact c.pt i (by have:=List.mem_range.1 hi;omega)
 have b:(List.range l.length).all (kN l way)=true:=by
  rw[List.all_eq_true];intro i hi;exact c.st i (by have:=List.mem_range.1 hi;omega)
 rw[a,b];rfl
def byL(L:List Int)(n:Int)(k:Nat):List Int:=(List.range k).map fun (j:Nat)=>dN L (n+1+(j:Int)) 256
theorem BN(L:List Int)(n:Int)(k:Nat):byL L n (k+1)=byL L n k ++ [dN L (n+1+(k:Int)) 256]:=by unfold byL;rw[List.range_succ,List.map_append];rfl
theorem xz(L:List Int)(n:Int)(k:Nat):(byL L n k).length=k:=by unfold byL;simp
theorem Gq(L:List Int)(n:Int)(k:Nat):rh (byL L n k):=by
 intro x hx
 unfold byL at hx
 obtain ⟨j,_,rfl⟩:=List.mem_map.1 hx
 have:=fh L (n+1+(j:Int)) (m:=256) (by omega)
 omega
def eM(nl:Nat)(l:List Cell):Prop:=l.length=nl/\∀k,k<l.length->bv (l.getD k ak)
def wu(w h b:Int)(nl:Nat)(cs:List Cht):Prop:=∀i,i<cs.length->(cs.getD i zCh).w=w/\(cs.getD i zCh).h=h/\(cs.getD i zCh).hr=b+(i:Int)/\eM nl (cs.getD i zCh).cells
abbrev jr0(L:List Int):Value:=.agg ⟨(L.flatMap aq)⟩
abbrev jr3(L:List Int)(n:Int):List Value:=[.iface (L.length+1) (jr0 L),nI (n+1)]
abbrev jr9(L:List Int)(n:Int):List Value:=[.iface (L.length+1) (jr0 L),nI ((n+1)+1)]
abbrev jr5:Prop:=eR (pt 1)/\eR (pt 2)/\eR (pt 3)/\True
abbrev jr2(L:List Int)(n:Int)(x2:Nat):List Value:=[.iface (L.length+1) (jr0 L),nI (wtD n x2)]
abbrev jr6(L:List Int)(n:Int)(x2:Nat):Prop:=(wtL L n x2).length<=(wtL L n x2).length/\0+(wtL L n x2).length*1<=List.length ((wtL L n x2).flatMap af)
abbrev jr1(L:List Int)(n:Int)(x2 x2':Nat):Prop:=wkO (.cells true 0 [nI (wtW L n),nI (wtH L n),slN 6 ((wtL L n x2).length+1)]:aa) (rno (sg 4 [(4,6)]) 3 (.cells true 0 [nI (wtW L n),nI (wtH L n),slQ 4 1 (wtL L n x2').length]:aa))/\True
abbrev jr8:List Value:=[.bool false]
def xG(L:List Int)(n:Int):Prop :=
 (((ac (.cells true 0 [.iface (L.length+1) (jr0 L),nI n]))/\True)/\(∀H':Heap,H'.length=3->(H'[1]?=some (.cells true 0 [.iface (L.length+1) (jr0 L),nI n]:aa)/\True)->ae prog 13 [pt 1,nI 5] H' [1] (Is (nI (dN L n 5)) (List.set H' 1 (.cells true 0 (jr3 L n):aa))))/\(nw (2+(dN L n 5)) (((ac (.cells true 0 (jr3 L n)))/\True)/\(∀H':Heap,H'.length=3->(H'[1]?=some (.cells true 0 (jr3 L n):aa)/\True)->ae prog 13 [pt 1,nI 4] H' [1] (Is (nI (dN L (n+1) 4)) (List.set H' 1 (.cells true 0 (jr9 L n):aa))))/\(nw (2+(dN L (n+1) 4)) (((nI (2+(dN L n 5)):Value)=nI (wtW L n))/\(((nI (2+(dN L (n+1) 4)):Value)=nI (wtH L n))/\(lq (0<=wtK L n) (true=true/\((nI 0:Value)=nI ((0:Nat):Int)/\jr5)/\((kbq 4 (.cells true 0 (jr9 L n)) (.cells true 0 [.iface (L.length+1) (jr0 L),nI (wtD n 0)]))/\wkO (.cells true 0 [nI (2+(dN L n 5)),nI (2+(dN L (n+1) 4)),.slice none 0 0]:aa) (rno (sg 4 []) 3 (.cells true 0 [nI (wtW L n),nI (wtH L n),slQ 4 1 (wtL L n 0).length]:aa))/\True)/\(True/\True)/\(True)) (∀x2:Nat,(x2<=wtK L n)->(nw ((wtW L n)*(wtH L n)) (fk (decide (((x2:Int):Int)<((wtW L n)*(wtH L n)))) (fk (decide ((0:Int)<(x2:Int))) (((ac (.cells true 0 (jr2 L n x2)))/\True)/\(∀H':Heap,H'.length=5->(H'[1]?=some (.cells true 0 (jr2 L n x2):aa)/\True)->ae prog 13 [pt 1,nI 7] H' [1] (Is (nI (dN L (wtD n x2) 7)) (List.set H' 1 (.cells true 0 [.iface (L.length+1) (jr0 L),nI ((wtD n x2)+1)]:aa))))/\((((wtL L n x2).length+1)*1<=2 ^ 44/\1≠0/\(jr6 L n x2)/\(1<=1/\0+1*1<=List.length ([.bool (((dN L (wtD n x2) 7):Int) == 0)]:List Value))/\(((([.bool (((dN L (wtD n x2) 7):Int) == 0)]:List Value).drop 0).take (1*1)):List Value).all (fun v=>du v)=true)/\true=true/\(nw ((x2:Int)+1) (∃x2':Nat,(x2'<=wtK L n)/\(wtK L n-x2')<(wtK L n-x2)/\true=true/\((nI ((x2:Int)+1):Value)=nI (x2':Int)/\jr5)/\((kbq 4 (.cells true 0 [.iface (L.length+1) (jr0 L),nI ((wtD n x2)+1)]) (.cells true 0 [.iface (L.length+1) (jr0 L),nI (wtD n x2')]))/\jr1 L n x2 x2')/\((kbq 4 (.cells true 1 (((((wtL L n x2).flatMap af).drop 0).take ((wtL L n x2).length*1))++((([.bool (((dN L (wtD n x2) 7):Int) == 0)]:List Value).drop 0).take (1*1)))) (.cells true 1 ((wtL L n x2').flatMap af)))/\True)/\(True))))) ((((wtL L n x2).length+1)*1<=2 ^ 44/\1≠0/\(jr6 L n x2)/\(1<=1/\0+1*1<=List.length jr8)/\(((jr8.drop 0).take (1*1)):List Value).all (fun v=>du v)=true)/\true=true/\(nw ((x2:Int)+1) (∃x2':Nat,(x2'<=wtK L n)/\(wtK L n-x2')<(wtK L n-x2)/\true=true/\((nI ((x2:Int)+1):Value)=nI (x2':Int)/\jr5)/\((kbq 4 (.cells true 0 (jr2 L n x2)) (.cells true 0 [.iface (L.length+1) (jr0 L),nI (wtD n x2')]))/\jr1 L n x2 x2')/\((kbq 4 (.cells true 1 (((((wtL L n x2).flatMap af).drop 0).take ((wtL L n x2).length*1))++((jr8.drop 0).take (1*1)))) (.cells true 1 ((wtL L n x2').flatMap af)))/\True)/\(True))))) (∃x:Unit,True/\(true=true/\wk (.agg #[nI (wtW L n),nI (wtH L n),slQ 4 1 (wtL L n x2).length]:Value) (rn (sg 2 [(2,4)]) 3 (.agg #[nI (wtW L n),nI (wtH L n),slQ 2 1 (wtL L n (wtK L n)).length]:Value))/\((kbq 2 (.cells true 0 (jr2 L n x2)) (.cells true 0 [.iface (L.length+1) (jr0 L),nI (wtD n (wtK L n))]))/\True)/\((kbq 2 (.cells true 1 ((wtL L n x2).flatMap af)) (.cells true 1 ((wtL L n (wtK L n)).flatMap af)))/\True)))))))))))))
abbrev jr4(L:List Int)(n:Int):=aI [.cells false 0 [nI 4000,nI 8000,nI 14000,nI 24000,nI 40000,nI 90000],.cells true 0 [.iface (L.length+1) (jr0 L),nI n]]
abbrev jr7(x2:Nat):Hint:=.need (.go 3 (.slot 20 (nI ((x2:Int)+1)) (.go 0 (.again [(4,6)]))))
theorem Ed(L:List Int)(n:Int):vF prog msk (dm 0) 100000 true 40 true 27 [pt 1] (jr4 L n) (some [1])
 (.go 1 (.dO [(1,.cells true 0 [.iface (L.length+1) (jr0 L),nI n])] (nI (dN L n 5)) [(1,.cells true 0 (jr3 L n))] [] (.go 0 (.slot 7 (nI (2+(dN L n 5))) (.go 0 (.dO [(1,.cells true 0 (jr3 L n))] (nI (dN L (n+1) 4)) [(1,.cells true 0 (jr9 L n))] [] (.go 0 (.slot 10 (nI (2+(dN L (n+1) 4))) (.go 0 (.slot 7 (nI (wtW L n)) (.slot 10 (nI (wtH L n)) (.go 2 (.inv 3 (Nat) (0) [] [1,3] (fun x2=>[(4,nI (x2:Int)),(0,pt 1),(2,pt 2),(3,pt 3)]) (fun x2=>[(1,true,.cells true 0 (jr2 L n x2)),(3,false,.cells true 0 [nI (wtW L n),nI (wtH L n),slQ 4 1 (wtL L n x2).length])]) (fun x2=>[(true,.cells true 1 ((wtL L n x2).flatMap af))]) (fun x2=>[]) (fun x2=>(x2<=wtK L n)) (fun x2=>(wtK L n-x2)) (fun x2 => .go 5 (.slot 17 (nI ((wtW L n)*(wtH L n))) (.go 0 (.fork (.go 4 (.aH (.go 0 (.dO [(1,.cells true 0 (jr2 L n x2))] (nI (dN L (wtD n x2) 7)) [(1,.cells true 0 [.iface (L.length+1) (jr0 L),nI ((wtD n x2)+1)])] [] (.go 2 (jr7 x2)))) (.go 1 (jr7 x2)))) (.go 1 (.keep (.again [(2,4)]))))))))))))))))))))
 (dh (α:=Unit) ((jr4 L n):HT).n 3 [1] (fun x=>True) (fun x => .agg #[nI (wtW L n),nI (wtH L n),slQ 2 1 (wtL L n (wtK L n)).length]) (fun x=>[(1,true,.cells true 0 [.iface (L.length+1) (jr0 L),nI (wtD n (wtK L n))])]) (fun x=>[(true,.cells true 1 ((wtL L n (wtK L n)).flatMap af))]))=xG L n:=by kernel_rfl
abbrev dgO(L:List Int)(n:Int):aa:=.cells true 0 (uf L n)
theorem v7(L:List Int)(n:Int):Eb (dgO L n):=Hl (bg 0 L n)
theorem Gm(L:List Int)(n:Int)(S:Nat->Option Nat):rno S 3 (dgO L n)=dgO L n:=(v7 L n).rn S
abbrev DU(L:List Int)(n:Int):List aa:=[bF,dgO L n]
theorem DT(L:List Int)(n:Int):(DU L n).all (ap 3)=true:=by
 show (ap 3 bF&&(ap 3 (dgO L n)&&true))=true
 rw[(v7 L n).ok];rfl
theorem CD{f:FuncId}{args:List Value}{L:List Int}{n:Int}{h:Hint}{α:Type}{I:α->Prop}(v:α->Nat->Value){d:α->Int}{new:α->List aa}
  (hc:vF prog msk (dm 0) 100000 true 40 true f args (aI (DU L n)) (some [1]) h (dh (α:=α) (aI (DU L n)).n 3 [1] I (fun x=>v x 2) (fun x=>[(1,true,dgO L (d x))]) (fun x=>(new x).map fun o=>(true,o))))
  (hv:∀x,I x->cw 3 (v x 2)=true) (hn:∀x,I x->f8 (new x)) {H:Heap} {D:Nat} (hD:D≠0) (h3:∀x j,I x->rn (bL (sgI [0,D]) 2 j) 3 (v x 2)=v x j) (h0:H[0]?=some bF) (h1:H[D]?=some (dgO L n)) {args':List Value} (ha:args.map (rn (sgI [0,D]) 3)=args') :
  ae prog f args' H [D] (fun y H2 => ∃x,I x/\y=v x H.length/\H2=H.set D (dgO L (d x))++new x) :=
 mD (os:=DU L n) (ids:=[0,D]) v (chg:=fun x=>[(1,true,dgO L (d x))]) (new:=new) (ks:=[1]) hc (DT L n) (fun k hk=>by obtain rfl:=List.mem_singleton.1 hk;exact ⟨_,rfl,rfl⟩) hv (fun x _=>⟨⟨List.mem_singleton.2 rfl,v7 L _⟩,trivial⟩) hn (by simp[Ne.symm hD]) ⟨h0,by rw[Gm];exact h1,trivial⟩ rfl h3 ha (ms:=[D]) rfl
theorem bJ{L:List Int}{n m:Int}(hn:0<=n/\n<=1000000000)(hm:1<=m/\m<=1000000000){H:Heap}(hH:1<=H.length){D:Nat}(hD:H[D]?=some (dgO L n)):ae prog 13 [pt D,nI m] H [D] (Is (nI (dN L n m)) (H.set D (dgO L (n+1)))):=Hv L n m hn hm hH hD
theorem C8{L:List Int}{n:Int}(hn:0<=n/\n<=900000000){H:Heap}{D:Nat}(hD:D≠0)(h0:H[0]?=some bF)(h1:H[D]?=some (dgO L n)) :
  ae prog 27 [pt D] H [D] (fun y H2 => ∃x:Unit,True/\y = .agg #[nI (wtW L n),nI (wtH L n),.slice (some ⟨H.length,0,some 1⟩) (wtL L n (wtK L n)).length (wtL L n (wtK L n)).length]/\H2=H.set D (dgO L (wtD n (wtK L n))) ++ [.cells true 1 ((wtL L n (wtK L n)).flatMap af)]):=by
 refine CD (α:=Unit) (I:=fun _=>True) (fun _ j => .agg #[nI (wtW L n),nI (wtH L n),.slice (some ⟨j,0,some 1⟩) (wtL L n (wtK L n)).length (wtL L n (wtK L n)).length]) (d:=fun _=>wtD n (wtK L n)) (new:=fun _=>[.cells true 1 ((wtL L n (wtK L n)).flatMap af)]) (Eq.mpr (Ed L n) ?_) (fun _ _=>rfl) (fun _ _=>⟨⟨_,_,rfl,bh _ _⟩,trivial⟩) hD (fun _ _ _=>rfl) h0 h1 rfl
 have hb:=zt L n
 have hm:=zr L n
 have hk:wtK L n=Int.toNat (wtW L n*wtH L n):=rfl
 have b1:=fh L n (m:=5) (by omega)
 have b2:=fh L (n+1) (m:=4) (by omega)
 delta xG jr0 jr3 jr9 jr5 jr2 jr6 jr1 jr8 nI slQ pt slN ac fk nw eR kbq lq
 refine ⟨⟨rfl,trivial⟩,fun H' hl h=>bJ (by omega) (by omega) (by omega) h.1,ag (by omega),⟨rfl,trivial⟩,fun H' hl h=>bJ (by omega) (by omega) (by omega) h.1,ag (by omega),rfl,rfl,rfl,Nat.zero_le _,⟨rfl,?_⟩,fun _=>rfl,fun x2 hx2=>⟨ag (by omega),fun q =>?_,fun q =>?_⟩⟩
 ·rw[show n+1+1=wtD n 0 by show _=n+2;omega]
  repeat' first|exact bg _ _ _|exact trivial|exact ad _|refine aN ?_|refine aQ ?_ ?_|exact ed _ _ _ (.inl rfl)|refine ⟨rfl,?_⟩|refine ⟨trivial,?_⟩|apply And.intro
 ·have h2:=aR q
  have hl:=ww L n x2
  refine ⟨fun r =>?_,fun r =>?_⟩
  ·have hr:=aR r
   obtain ⟨k,rfl⟩:∃k,x2=k+1:=⟨x2-1,by omega⟩
   have e0:wtD n (k+1)=n+2+(k:Int):=rfl
   have e1:wtD n (k+1)+1=wtD n (k+1+1):=by show n+2+(k:Int)+1=n+2+((k+1:Nat):Int);omega
   have ec:wtC L n (k+1)=(dN L (wtD n (k+1)) 7 == 0):=by
    unfold wtC
    rw[decide_eq_true (Nat.succ_pos k),Bool.true_and,show n+1+((k+1:Nat):Int)=wtD n (k+1) by rw[e0];omega]
   have yes:wtL L n (k+1+1)=wtL L n (k+1) ++ [dN L (wtD n (k+1)) 7 == 0]:=by rw[rT,ec]
   refine ⟨⟨rfl,trivial⟩,fun H' hl h=>bJ (by omega) (by omega) (by omega) h.1,⟨by omega,by decide,⟨Nat.le_refl _,by rw[aC bt];omega⟩,⟨Nat.le_refl _,by simp⟩,rfl⟩,rfl,ag (by omega),k+1+1,by omega,by omega,rfl,?_⟩
   rw[e1]
   repeat' first|exact bg _ _ _|exact cD yes|exact bN bt yes rfl|exact bh _ _|exact trivial|exact ad _|refine aN ?_|refine aQ ?_ ?_|refine ⟨rfl,?_⟩|apply And.intro
  ·have hr:=aV r
   obtain rfl:x2=0:=by omega
   have yes:wtL L n (0+1)=wtL L n 0 ++ [false]:=by rw[rT];rfl
   have e1:wtD n 0=wtD n (0+1):=by show n+2=n+2+((0:Nat):Int);omega
   refine ⟨⟨by omega,by decide,⟨Nat.le_refl _,by rw[aC bt];omega⟩,⟨Nat.le_refl _,by simp⟩,rfl⟩,rfl,ag (by omega),0+1,by omega,by omega,rfl,?_⟩
   rw[e1]
   repeat' first|exact bg _ _ _|exact cD yes|exact bh _ _|exact trivial|exact ad _|refine aN ?_|refine aQ ?_ ?_|refine ⟨rfl,?_⟩|apply And.intro
 ·have h2:=aV q
  rw[show x2=wtK L n by omega]
  refine ⟨(),trivial,?_⟩
  repeat' first|exact bg _ _ _|exact bh _ _|exact trivial|exact ad _|refine ⟨rfl,?_⟩|apply And.intro
abbrev js0(L:List Int):Value:=.agg ⟨(L.flatMap aq)⟩
abbrev jsc(L:List Int)(n:Int):List Value:=[.iface (L.length+1) (js0 L),nI (n+1)]
abbrev jso(x:Cell×Int)(n:Int):Prop:=bv x.1/\n<=x.2/\x.2<=n+9
abbrev js9(x:Cell×Int):=rn (sg 2 []) 3 (.agg #[nI x.1.aW.lo,nI x.1.aW.hi,nI x.1.ai.lo,nI x.1.ai.hi,nI x.1.aw.lo,nI x.1.aw.hi,nI x.1.am.lo,nI x.1.am.hi]:Value)
abbrev js8(L:List Int)(n:Int):List Value:=[.iface (L.length+1) (js0 L),nI ((n+1)+1)]
abbrev js6(L:List Int)(n:Int):List Value:=[.iface (L.length+1) (js0 L),nI (((n+1)+1)+1)]
abbrev jsj(L:List Int)(n:Int):=dN L (((n+1)+1)+1) 251
abbrev js5(L:List Int)(n:Int):List Value:=[.iface (L.length+1) (js0 L),nI ((((n+1)+1)+1)+1)]
abbrev jsl(L:List Int)(n:Int):=dN L ((((n+1)+1)+1)+1) 101
abbrev js4(L:List Int)(n:Int):List Value:=[.iface (L.length+1) (js0 L),nI (((((n+1)+1)+1)+1)+1)]
abbrev jsf(L:List Int)(n:Int):=dN L (((((n+1)+1)+1)+1)+1) 21
abbrev js3(L:List Int)(n:Int):List Value:=[.iface (L.length+1) (js0 L),nI ((((((n+1)+1)+1)+1)+1)+1)]
abbrev jsh(L:List Int)(n:Int):=dN L ((((((n+1)+1)+1)+1)+1)+1) 21
abbrev js2(L:List Int)(n:Int):List Value:=[.iface (L.length+1) (js0 L),nI (((((((n+1)+1)+1)+1)+1)+1)+1)]
abbrev jsa(L:List Int)(n:Int):=dN L (((((((n+1)+1)+1)+1)+1)+1)+1) 4
abbrev js1(L:List Int)(n:Int):List Value:=[.iface (L.length+1) (js0 L),nI ((((((((n+1)+1)+1)+1)+1)+1)+1)+1)]
abbrev jsd(L:List Int)(n:Int):=dN L ((((((((n+1)+1)+1)+1)+1)+1)+1)+1) 4
abbrev js7(L:List Int)(n:Int):List Value:=[.iface (L.length+1) (js0 L),nI (((((((((n+1)+1)+1)+1)+1)+1)+1)+1)+1)]
abbrev jsp(L:List Int)(n:Int)(x:Cell×Int):Prop:=((kbq 2 (.cells true 0 (js7 L n)) (.cells true 0 [.iface (L.length+1) (js0 L),nI x.2]))/\True)/\(True)
abbrev jsk(L:List Int)(n:Int):=dN L (((n+1)+1)+1) 61
abbrev jsn(L:List Int)(n:Int):=dN L ((((n+1)+1)+1)+1) 31
abbrev jsg(L:List Int)(n:Int):=dN L (((((n+1)+1)+1)+1)+1) 5
abbrev jsi(L:List Int)(n:Int):=dN L ((((((n+1)+1)+1)+1)+1)+1) 5
abbrev jsb(L:List Int)(n:Int):=dN L (((((((n+1)+1)+1)+1)+1)+1)+1) 2
abbrev jse(L:List Int)(n:Int):=dN L ((((((((n+1)+1)+1)+1)+1)+1)+1)+1) 2
def Fb(L:List Int)(n:Int):Prop :=
 (((ac (.cells true 0 [.iface (L.length+1) (js0 L),nI n]))/\True)/\(∀H':Heap,H'.length=4->(H'[1]?=some (.cells true 0 [.iface (L.length+1) (js0 L),nI n]:aa)/\True)->ae prog 13 [pt 1,nI 4] H' [1] (Is (nI (dN L n 4)) (List.set H' 1 (.cells true 0 (jsc L n):aa))))/\(fk (((dN L n 4):Int) == 0) (∃x:Cell×Int,(jso x n)/\(true=true/\wk (.agg #[nI 0,nI 0,nI 0,nI 0,nI 0,nI 0,nI 0,nI 0]:Value) (js9 x)/\((kbq 2 (.cells true 0 (jsc L n)) (.cells true 0 [.iface (L.length+1) (js0 L),nI x.2]))/\True)/\(True))) (fk (((dN L n 4):Int) == 1) (((ac (.cells true 0 (jsc L n)))/\True)/\(∀H':Heap,H'.length=5->(H'[1]?=some (.cells true 0 (jsc L n):aa)/\True)->ae prog 13 [pt 1,nI 101] H' [1] (Is (nI (dN L (n+1) 101)) (List.set H' 1 (.cells true 0 (js8 L n):aa))))/\(((ac (.cells true 0 (js8 L n)))/\True)/\(∀H':Heap,H'.length=5->(H'[1]?=some (.cells true 0 (js8 L n):aa)/\True)->ae prog 13 [pt 1,nI 31] H' [1] (Is (nI (dN L ((n+1)+1) 31)) (List.set H' 1 (.cells true 0 (js6 L n):aa))))/\(nw ((dN L (n+1) 101)+(dN L ((n+1)+1) 31)) (((ac (.cells true 0 (js6 L n)))/\True)/\(∀H':Heap,H'.length=6->(H'[1]?=some (.cells true 0 (js6 L n):aa)/\True)->ae prog 13 [pt 1,nI 251] H' [1] (Is (nI (jsj L n)) (List.set H' 1 (.cells true 0 (js5 L n):aa))))/\(((ac (.cells true 0 (js5 L n)))/\True)/\(∀H':Heap,H'.length=6->(H'[1]?=some (.cells true 0 (js5 L n):aa)/\True)->ae prog 13 [pt 1,nI 101] H' [1] (Is (nI (jsl L n)) (List.set H' 1 (.cells true 0 (js4 L n):aa))))/\(nw ((jsj L n)+(jsl L n)) (((ac (.cells true 0 (js4 L n)))/\True)/\(∀H':Heap,H'.length=7->(H'[1]?=some (.cells true 0 (js4 L n):aa)/\True)->ae prog 13 [pt 1,nI 21] H' [1] (Is (nI (jsf L n)) (List.set H' 1 (.cells true 0 (js3 L n):aa))))/\(((ac (.cells true 0 (js3 L n)))/\True)/\(∀H':Heap,H'.length=7->(H'[1]?=some (.cells true 0 (js3 L n):aa)/\True)->ae prog 13 [pt 1,nI 21] H' [1] (Is (nI (jsh L n)) (List.set H' 1 (.cells true 0 (js2 L n):aa))))/\(nw ((jsf L n)+(jsh L n)) (((ac (.cells true 0 (js2 L n)))/\True)/\(∀H':Heap,H'.length=8->(H'[1]?=some (.cells true 0 (js2 L n):aa)/\True)->ae prog 13 [pt 1,nI 4] H' [1] (Is (nI (jsa L n)) (List.set H' 1 (.cells true 0 (js1 L n):aa))))/\(((ac (.cells true 0 (js1 L n)))/\True)/\(∀H':Heap,H'.length=8->(H'[1]?=some (.cells true 0 (js1 L n):aa)/\True)->ae prog 13 [pt 1,nI 4] H' [1] (Is (nI (jsd L n)) (List.set H' 1 (.cells true 0 (js7 L n):aa))))/\(nw ((jsa L n)+(jsd L n)) (∃x:Cell×Int,(jso x n)/\(true=true/\wk (.agg #[nI (if (100:Int)<(dN L (n+1) 101) then (100:Int) else (dN L (n+1) 101)),nI (if (100:Int)<((dN L (n+1) 101)+(dN L ((n+1)+1) 31)) then (100:Int) else ((dN L (n+1) 101)+(dN L ((n+1)+1) 31))),nI (if (400:Int)<(jsj L n) then (400:Int) else (jsj L n)),nI (if (400:Int)<((jsj L n)+(jsl L n)) then (400:Int) else ((jsj L n)+(jsl L n))),nI (if (100:Int)<(jsf L n) then (100:Int) else (jsf L n)),nI (if (100:Int)<((jsf L n)+(jsh L n)) then (100:Int) else ((jsf L n)+(jsh L n))),nI (if (3:Int)<(jsa L n) then (3:Int) else (jsa L n)),nI (if (3:Int)<((jsa L n)+(jsd L n)) then (3:Int) else ((jsa L n)+(jsd L n)))]:Value) (js9 x)/\jsp L n x)))))))))))))) (((ac (.cells true 0 (jsc L n)))/\True)/\(∀H':Heap,H'.length=5->(H'[1]?=some (.cells true 0 (jsc L n):aa)/\True)->ae prog 13 [pt 1,nI 61] H' [1] (Is (nI (dN L (n+1) 61)) (List.set H' 1 (.cells true 0 (js8 L n):aa))))/\(((ac (.cells true 0 (js8 L n)))/\True)/\(∀H':Heap,H'.length=5->(H'[1]?=some (.cells true 0 (js8 L n):aa)/\True)->ae prog 13 [pt 1,nI 41] H' [1] (Is (nI (dN L ((n+1)+1) 41)) (List.set H' 1 (.cells true 0 (js6 L n):aa))))/\(nw ((dN L (n+1) 61)+(dN L ((n+1)+1) 41)) (((ac (.cells true 0 (js6 L n)))/\True)/\(∀H':Heap,H'.length=6->(H'[1]?=some (.cells true 0 (js6 L n):aa)/\True)->ae prog 13 [pt 1,nI 61] H' [1] (Is (nI (jsk L n)) (List.set H' 1 (.cells true 0 (js5 L n):aa))))/\(((ac (.cells true 0 (js5 L n)))/\True)/\(∀H':Heap,H'.length=6->(H'[1]?=some (.cells true 0 (js5 L n):aa)/\True)->ae prog 13 [pt 1,nI 31] H' [1] (Is (nI (jsn L n)) (List.set H' 1 (.cells true 0 (js4 L n):aa))))/\(nw ((jsk L n)+(jsn L n)) (((ac (.cells true 0 (js4 L n)))/\True)/\(∀H':Heap,H'.length=7->(H'[1]?=some (.cells true 0 (js4 L n):aa)/\True)->ae prog 13 [pt 1,nI 5] H' [1] (Is (nI (jsg L n)) (List.set H' 1 (.cells true 0 (js3 L n):aa))))/\(((ac (.cells true 0 (js3 L n)))/\True)/\(∀H':Heap,H'.length=7->(H'[1]?=some (.cells true 0 (js3 L n):aa)/\True)->ae prog 13 [pt 1,nI 5] H' [1] (Is (nI (jsi L n)) (List.set H' 1 (.cells true 0 (js2 L n):aa))))/\(nw ((jsg L n)+(jsi L n)) (((ac (.cells true 0 (js2 L n)))/\True)/\(∀H':Heap,H'.length=8->(H'[1]?=some (.cells true 0 (js2 L n):aa)/\True)->ae prog 13 [pt 1,nI 2] H' [1] (Is (nI (jsb L n)) (List.set H' 1 (.cells true 0 (js1 L n):aa))))/\(((ac (.cells true 0 (js1 L n)))/\True)/\(∀H':Heap,H'.length=8->(H'[1]?=some (.cells true 0 (js1 L n):aa)/\True)->ae prog 13 [pt 1,nI 2] H' [1] (Is (nI (jse L n)) (List.set H' 1 (.cells true 0 (js7 L n):aa))))/\(nw ((jsb L n)+(jse L n)) (∃x:Cell×Int,(jso x n)/\(true=true/\wk (.agg #[nI (if (100:Int)<(dN L (n+1) 61) then (100:Int) else (dN L (n+1) 61)),nI (if (100:Int)<((dN L (n+1) 61)+(dN L ((n+1)+1) 41)) then (100:Int) else ((dN L (n+1) 61)+(dN L ((n+1)+1) 41))),nI (if (400:Int)<(jsk L n) then (400:Int) else (jsk L n)),nI (if (400:Int)<((jsk L n)+(jsn L n)) then (400:Int) else ((jsk L n)+(jsn L n))),nI (if (100:Int)<(jsg L n) then (100:Int) else (jsg L n)),nI (if (100:Int)<((jsg L n)+(jsi L n)) then (100:Int) else ((jsg L n)+(jsi L n))),nI (if (3:Int)<(jsb L n) then (3:Int) else (jsb L n)),nI (if (3:Int)<((jsb L n)+(jse L n)) then (3:Int) else ((jsb L n)+(jse L n)))]:Value) (js9 x)/\jsp L n x)))))))))))))))))
abbrev jsm(L:List Int)(n:Int):=aI [.cells false 0 [nI 4000,nI 8000,nI 14000,nI 24000,nI 40000,nI 90000],.cells true 0 [.iface (L.length+1) (js0 L),nI n]]
theorem Ix(L:List Int)(n:Int):vF prog msk (dm 0) 100000 true 40 true 29 [pt 1] (jsm L n) (some [1])
 (.go 4 (.dO [(1,.cells true 0 [.iface (L.length+1) (js0 L),nI n])] (nI (dN L n 4)) [(1,.cells true 0 (jsc L n))] [] (.go 1 (.fork (.go 1 (.keep (.again []))) (.go 1 (.fork (.go 0 (.into (some [1,2,3]) (.go 3 (.dO [(1,.cells true 0 (jsc L n))] (nI (dN L (n+1) 101)) [(1,.cells true 0 (js8 L n))] [] (.go 7 (.dO [(1,.cells true 0 (js8 L n))] (nI (dN L ((n+1)+1) 31)) [(1,.cells true 0 (js6 L n))] [] (.go 0 (.slot 21 (nI ((dN L (n+1) 101)+(dN L ((n+1)+1) 31))) (.go 3 (.keep (.go 0 (.into (some [1,2,3,4]) (.go 3 (.dO [(1,.cells true 0 (js6 L n))] (nI (jsj L n)) [(1,.cells true 0 (js5 L n))] [] (.go 7 (.dO [(1,.cells true 0 (js5 L n))] (nI (jsl L n)) [(1,.cells true 0 (js4 L n))] [] (.go 0 (.slot 21 (nI ((jsj L n)+(jsl L n))) (.go 3 (.keep (.go 0 (.into (some [1,2,3,4,5]) (.go 3 (.dO [(1,.cells true 0 (js4 L n))] (nI (jsf L n)) [(1,.cells true 0 (js3 L n))] [] (.go 7 (.dO [(1,.cells true 0 (js3 L n))] (nI (jsh L n)) [(1,.cells true 0 (js2 L n))] [] (.go 0 (.slot 21 (nI ((jsf L n)+(jsh L n))) (.go 3 (.keep (.go 0 (.into (some [1,2,3,4,5,6]) (.go 3 (.dO [(1,.cells true 0 (js2 L n))] (nI (jsa L n)) [(1,.cells true 0 (js1 L n))] [] (.go 7 (.dO [(1,.cells true 0 (js1 L n))] (nI (jsd L n)) [(1,.cells true 0 (js7 L n))] [] (.go 0 (.slot 21 (nI ((jsa L n)+(jsd L n))) (.go 3 (.keep (.go 1 (.keep (.again []))))))))))))))))))))))))))))))))))))))))))) (.go 0 (.into (some [1,2,3]) (.go 3 (.dO [(1,.cells true 0 (jsc L n))] (nI (dN L (n+1) 61)) [(1,.cells true 0 (js8 L n))] [] (.go 7 (.dO [(1,.cells true 0 (js8 L n))] (nI (dN L ((n+1)+1) 41)) [(1,.cells true 0 (js6 L n))] [] (.go 0 (.slot 21 (nI ((dN L (n+1) 61)+(dN L ((n+1)+1) 41))) (.go 3 (.keep (.go 0 (.into (some [1,2,3,4]) (.go 3 (.dO [(1,.cells true 0 (js6 L n))] (nI (jsk L n)) [(1,.cells true 0 (js5 L n))] [] (.go 7 (.dO [(1,.cells true 0 (js5 L n))] (nI (jsn L n)) [(1,.cells true 0 (js4 L n))] [] (.go 0 (.slot 21 (nI ((jsk L n)+(jsn L n))) (.go 3 (.keep (.go 0 (.into (some [1,2,3,4,5]) (.go 3 (.dO [(1,.cells true 0 (js4 L n))] (nI (jsg L n)) [(1,.cells true 0 (js3 L n))] [] (.go 7 (.dO [(1,.cells true 0 (js3 L n))] (nI (jsi L n)) [(1,.cells true 0 (js2 L n))] [] (.go 0 (.slot 21 (nI ((jsg L n)+(jsi L n))) (.go 3 (.keep (.go 0 (.into (some [1,2,3,4,5,6]) (.go 3 (.dO [(1,.cells true 0 (js2 L n))] (nI (jsb L n)) [(1,.cells true 0 (js1 L n))] [] (.go 7 (.dO [(1,.cells true 0 (js1 L n))] (nI (jse L n)) [(1,.cells true 0 (js7 L n))] [] (.go 0 (.slot 21 (nI ((jsb L n)+(jse L n))) (.go 3 (.keep (.go 1 (.keep (.again [])))))))))))))))))))))))))))))))))))))))))))))))))
 (dh (α:=Cell×Int) ((jsm L n):HT).n 3 [1] (fun x=>(jso x n)) (fun x => .agg #[nI x.1.aW.lo,nI x.1.aW.hi,nI x.1.ai.lo,nI x.1.ai.hi,nI x.1.aw.lo,nI x.1.aw.hi,nI x.1.am.lo,nI x.1.am.hi]) (fun x=>[(1,true,.cells true 0 [.iface (L.length+1) (js0 L),nI x.2])]) (fun x=>[]))=Fb L n:=by kernel_rfl
theorem dn2{L:List Int}{a b m k:Int}(hm:1<=m/\m<=100000)(hk:1<=k/\k<=100000):(nI (IntKind.wrap .i64 (dN L a m+dN L b k)):Value)=nI (dN L a m+dN L b k):=by
 have h1:=fh L a hm.1
 have h2:=fh L b hk.1
 exact ag (by omega)
def spI(L:List Int)(a b m k c:Int):Span:=⟨if c<dN L a m then c else dN L a m,if c<dN L a m+dN L b k then c else dN L a m+dN L b k⟩
theorem hZ{L:List Int}{a b m k c:Int}(hc:0<=c)(hm:1<=m)(hk:1<=k):cG (spI L a b m k c) c:=by
 have h1:=fh L a hm
 have h2:=fh L b hk
 unfold cG spI
 dsimp only
 by_cases p:c<dN L a m
 ·rw[if_pos p,if_pos (by omega)];omega
 ·rw[if_neg p]
  by_cases q:c<dN L a m+dN L b k
  ·rw[if_pos q];omega
  ·rw[if_neg q];omega
theorem uH:bv ak:=by decide
theorem HB{L:List Int}{n:Int}(hn:0<=n/\n<=900000000){H:Heap}{D:Nat}(hD:D≠0)(h0:H[0]?=some bF)(h1:H[D]?=some (dgO L n)) :
  ae prog 29 [pt D] H [D] (fun y H2 => ∃x:Cell×Int,(bv x.1/\n<=x.2/\x.2<=n+9)/\y = .agg ⟨cellC x.1⟩/\H2=H.set D (dgO L x.2)):=by
 have key:=CD (α:=Cell×Int) (I:=fun x=>bv x.1/\n<=x.2/\x.2<=n+9) (fun x _ => .agg ⟨cellC x.1⟩) (d:=fun x=>x.2) (new:=fun _=>[]) (Eq.mpr (Ix L n) ?_) (fun _ _=>rfl) (fun _ _=>trivial) hD (fun _ _ _=>rfl) h0 h1 (args':=[pt D]) rfl
 ·refine key.post ?_
  rintro y H2 ⟨x,hx,rfl,rfl⟩
  exact ⟨x,hx,rfl,List.append_nil _⟩
 delta Fb js0 jsc jso js9 js8 js6 jsj js5 jsl js4 jsf js3 jsh js2 jsa js1 jsd js7 jsp jsk jsn jsg jsi jsb jse nI pt ac fk nw kbq
 refine ⟨⟨rfl,trivial⟩,fun H' hl h=>bJ (by omega) (by omega) (by omega) h.1,fun q =>?_,fun q=>⟨fun r =>?_,fun r =>?_⟩⟩
 ·refine ⟨(ak,n+1),⟨uH,by show n<=n+1;omega,by show n+1<=n+9;omega⟩,?_⟩
  repeat' first|exact bg _ _ _|exact trivial|exact ad _|refine ⟨rfl,?_⟩|apply And.intro
 ·refine ⟨⟨rfl,trivial⟩,fun H' hl h=>bJ (by omega) (by omega) (by omega) h.1,⟨rfl,trivial⟩,fun H' hl h=>bJ (by omega) (by omega) (by omega) h.1,dn2 (by decide) (by decide),⟨rfl,trivial⟩,fun H' hl h=>bJ (by omega) (by omega) (by omega) h.1,⟨rfl,trivial⟩,fun H' hl h=>bJ (by omega) (by omega) (by omega) h.1,dn2 (by decide) (by decide),
   ⟨rfl,trivial⟩,fun H' hl h=>bJ (by omega) (by omega) (by omega) h.1,⟨rfl,trivial⟩,fun H' hl h=>bJ (by omega) (by omega) (by omega) h.1,dn2 (by decide) (by decide),⟨rfl,trivial⟩,fun H' hl h=>bJ (by omega) (by omega) (by omega) h.1,⟨rfl,trivial⟩,fun H' hl h=>bJ (by omega) (by omega) (by omega) h.1,dn2 (by decide) (by decide),
   (⟨spI L (n+1) (n+1+1) 101 31 100,spI L (n+1+1+1) (n+1+1+1+1) 251 101 400,spI L (n+1+1+1+1+1) (n+1+1+1+1+1+1) 21 21 100,spI L (n+1+1+1+1+1+1+1) (n+1+1+1+1+1+1+1+1) 4 4 3⟩,n+1+1+1+1+1+1+1+1+1),⟨⟨hZ (by decide) (by decide) (by decide),hZ (by decide) (by decide) (by decide),hZ (by decide) (by decide) (by decide),hZ (by decide) (by decide) (by decide)⟩,by show n<=n+1+1+1+1+1+1+1+1+1;omega,by show n+1+1+1+1+1+1+1+1+1<=n+9;omega⟩,rfl,ad _,⟨⟨rfl,bg _ _ _⟩,trivial⟩,trivial⟩
 ·refine ⟨⟨rfl,trivial⟩,fun H' hl h=>bJ (by omega) (by omega) (by omega) h.1,⟨rfl,trivial⟩,fun H' hl h=>bJ (by omega) (by omega) (by omega) h.1,dn2 (by decide) (by decide),⟨rfl,trivial⟩,fun H' hl h=>bJ (by omega) (by omega) (by omega) h.1,⟨rfl,trivial⟩,fun H' hl h=>bJ (by omega) (by omega) (by omega) h.1,dn2 (by decide) (by decide),
   ⟨rfl,trivial⟩,fun H' hl h=>bJ (by omega) (by omega) (by omega) h.1,⟨rfl,trivial⟩,fun H' hl h=>bJ (by omega) (by omega) (by omega) h.1,dn2 (by decide) (by decide),⟨rfl,trivial⟩,fun H' hl h=>bJ (by omega) (by omega) (by omega) h.1,⟨rfl,trivial⟩,fun H' hl h=>bJ (by omega) (by omega) (by omega) h.1,dn2 (by decide) (by decide),
   (⟨spI L (n+1) (n+1+1) 61 41 100,spI L (n+1+1+1) (n+1+1+1+1) 61 31 400,spI L (n+1+1+1+1+1) (n+1+1+1+1+1+1) 5 5 100,spI L (n+1+1+1+1+1+1+1) (n+1+1+1+1+1+1+1+1) 2 2 3⟩,n+1+1+1+1+1+1+1+1+1),⟨⟨hZ (by decide) (by decide) (by decide),hZ (by decide) (by decide) (by decide),hZ (by decide) (by decide) (by decide),hZ (by decide) (by decide) (by decide)⟩,by show n<=n+1+1+1+1+1+1+1+1+1;omega,by show n+1+1+1+1+1+1+1+1+1<=n+9;omega⟩,rfl,ad _,⟨⟨rfl,bg _ _ _⟩,trivial⟩,trivial⟩
abbrev jt1(x:Int×Int)(m:Int)(l:List Int):Prop:=(0<=x.1/\x.1<m)/\0<=x.2/\x.2<=((List.length l:Nat):Int)
def Fa(l:List Int)(i m:Int):Prop :=
 (fk (decide ((((l.length:Nat):Int):Int)<=i)) (∃x:Int×Int,(jt1 x m l)/\(true=true/\wk (nI 0:Value) (rn (sg 4 []) 3 (nI x.1:Value))/\((kbq 4 (.cells true 0 [nI i]) (.cells true 0 [nI x.2]))/\True)/\(True))) (nw (i+1) (nw ((i+1)-1) ((ixq ((i+1)-1) l.length)/\(((l.flatMap u8C)[(0+Int.toNat ((i+1)-1)*1)]?=some (.int .u8 (l.getD ((i+1)-1).toNat 0)))/\(∃y0:Int,bw (IntKind.wrap .i64 (l.getD ((i+1)-1).toNat 0)) y0/\(((m:Int)≠0)/\(∃x:Int×Int,(jt1 x m l)/\(true=true/\wk (nI (Int.tmod y0 m):Value) (rn (sg 4 []) 3 (nI x.1:Value))/\((kbq 4 (.cells true 0 [nI (i+1)]) (.cells true 0 [nI x.2]))/\True)/\(True))))))))))
abbrev jt0(i:Int)(l:List Int):=aI [.cells false 0 [nI 4000,nI 8000,nI 14000,nI 24000,nI 40000,nI 90000],.cells true 0 [nI i],.cells true 0 [slQ 3 2 l.length],.cells true 1 (l.flatMap u8C)]
theorem Iw(l:List Int)(i m:Int):vF prog msk (dm 0) 100000 true 40 true 118 [nI m,pt 1,pt 2] (jt0 i l) (some [1])
 (.go 4 (.fork (.go 0 (.again [])) (.go 1 (.slot 10 (nI (i+1)) (.go 3 (.slot 13 (nI ((i+1)-1)) (.need (.val (.int .u8 (l.getD ((i+1)-1).toNat 0)) (.go 0 (.bind Int (fun y0 => .slot 16 (nI y0) (.go 0 (.need (.go 0 (.again [])))))))))))))))
 (dh (α:=Int×Int) ((jt0 i l):HT).n 3 [1] (fun x=>(jt1 x m l)) (fun x=>nI x.1) (fun x=>[(1,true,.cells true 0 [nI x.2])]) (fun x=>[]))=Fa l i m:=by kernel_rfl
theorem qb(x:Int):(u8C x).length=1:=rfl
theorem uX(n:Nat)(l:List Int):(l.flatMap u8C).all (aj n)=true:=dz (fun _=>rfl) l
theorem IJ{a:List Int}{k:Nat}(h:k<a.length){off:Nat}(ho:off=k):(a.flatMap u8C)[off]?=some (.int .u8 (a.getD k 0)):=fZ (c:=0) qb h (by omega) rfl
theorem Er(o:Bool)(z:Nat)(l:List Int)(S:Nat->Option Nat):rno S 3 (.cells o z (l.flatMap u8C)) = .cells o z (l.flatMap u8C):=congrArg (aa.cells o z) (eU (d:=0) (uX 0 l)).1
theorem Ep(o:Bool)(z:Nat)(l:List Int):ap 3 (.cells o z (l.flatMap u8C))=true:=(eU (S:=fun _=>none) (d:=0) (uX 0 l)).2
theorem jk{l:List Int}(hb:rh l)(hl:l.length<=1000000){i m:Int}(hi:0<=i/\i<=(l.length:Int))(hm:1<=m){H:Heap}{I B Y:Nat}(hnd:[0,I,B,Y].Nodup)(h0:H[0]?=some bF)(h1:H[I]?=some (.cells true 0 [nI i]))(h2:H[B]?=some (.cells true 0 [slQ Y 2 l.length]))(h3:H[Y]?=some (.cells true 1 (l.flatMap u8C))) :
  ae prog 118 [nI m,pt I,pt B] H [I] (fun y H2 => ∃z:Int×Int,((0<=z.1/\z.1<m)/\0<=z.2/\z.2<=(l.length:Int))/\y=nI z.1/\H2=H.set I (.cells true 0 [nI z.2])):=by
 have key:=mD (α:=Int×Int) (I:=fun z=>(0<=z.1/\z.1<m)/\0<=z.2/\z.2<=(l.length:Int)) (os:=[bF,.cells true 0 [nI i],.cells true 0 [slQ 3 2 l.length],.cells true 1 (l.flatMap u8C)]) (fun z _=>nI z.1) (chg:=fun z=>[(1,true,.cells true 0 [nI z.2])]) (new:=fun _=>[]) (ks:=[1]) (ids:=[0,I,B,Y])
  (Eq.mpr (Iw l i m) ?_) (by show (ap 3 bF&&(ap 3 (.cells true 0 [nI i])&&(ap 3 (.cells true 0 [slQ 3 2 l.length])&&(ap 3 (.cells true 1 (l.flatMap u8C))&&true))))=true;rw[Ep];rfl) (fun k hk=>by obtain rfl:=List.mem_singleton.1 hk;exact ⟨_,rfl,rfl⟩) (fun _ _=>rfl) (fun z _=>⟨⟨List.mem_singleton.2 rfl,Hl rfl⟩,trivial⟩) (fun _ _=>trivial) hnd ⟨h0,h1,h2,by rw[Er];exact h3,trivial⟩ rfl (fun _ _ _=>rfl) (args':=[nI m,pt I,pt B]) rfl (ms:=[I]) rfl
 ·refine key.post ?_
  rintro y H2 ⟨x,hx,rfl,rfl⟩
  exact ⟨x,hx,rfl,List.append_nil _⟩
 delta Fa jt1 nI fk nw bw kbq ixq
 refine ⟨fun q =>?_,fun q =>?_⟩
 ·refine ⟨(0,i),⟨⟨Int.le_refl _,by show 0<m;omega⟩,hi⟩,rfl,ad _,⟨⟨rfl,rfl⟩,trivial⟩,trivial⟩
 ·have h:=aV q
  have e:i+1-1=i:=by omega
  have hx:=hb (l.getD (Int.toNat (i+1-1)) 0) (cQ (by omega))
  refine ⟨ag (by omega),ag (by omega),by omega,IJ (by omega) (by omega),_,ag (by omega),by omega,(Int.tmod (l.getD (Int.toNat (i+1-1)) 0) m,i+1),⟨⟨Int.tmod_nonneg _ hx.1,Int.tmod_lt_of_pos _ (by omega)⟩,by show 0<=i+1;omega,by show i+1<=_;omega⟩,rfl,ad _,⟨⟨rfl,rfl⟩,trivial⟩,trivial⟩
end
end Go.Proofs.YtmecpfikljhjaaaDoor
