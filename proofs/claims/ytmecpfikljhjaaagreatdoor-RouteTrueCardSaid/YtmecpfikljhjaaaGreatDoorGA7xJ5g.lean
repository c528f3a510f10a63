/- Route: which cells can be reached; a route that is found is finite. No condition. -/
import Derived.Test.YtmecpfikljhjaaaGreatDoorGI4gxI5
import Derived.Test.YtmecpfikljhjaaaGreatDoorGK27xA0
import Derived.Test.YtmecpfikljhjaaaGreatDoorGH5gxA4
import Derived.Test.YtmecpfikljhjaaaGreatDoorGI2gxI3
open Go Go.K
set_option maxRecDepth 1000000
set_option maxHeartbeats 4000000
set_option linter.unusedVariables false
set_option linter.unusedSimpArgs false
namespace Go.Proofs.YtmecpfikljhjaaaGreatDoor
noncomputable section
attribute [local irreducible] vF
inductive Rch (p:Pl):Int->Int->Prop
 |start:Rch p 0 p.frm
 |wait {t c:Int}:Rch p t c->wtB p c t (t+1)=true->t<endP p->Rch p (t+1) c
 |leg {t c:Int} {x:Leg}:Rch p t c->t<endP p->x∈lgP p c t->Rch p x.arr x.to
def GR(p:Pl)(G:List (List Bool)):Prop:=∀t c:Nat,(G.getD t []).getD c false=true->Rch p (t:Int) (c:Int)
theorem Ac{G:List (List Bool)}{a c:Int}{t j:Nat}(h:((dc G a c).getD t []).getD j false=true):(G.getD t []).getD j false=true∨(t=Int.toNat a/\j=Int.toNat c):=by
 unfold dc at h
 by_cases ha:Int.toNat a<G.length
 ·rw[c7 ha]at h
  by_cases e:t=Int.toNat a
  ·rw[if_pos e]at h
   by_cases hc:Int.toNat c<(G.getD (Int.toNat a) []).length
   ·rw[c7 hc]at h
    by_cases f:j=Int.toNat c
    ·exact .inr ⟨e,f⟩
    ·rw[if_neg f]at h;rw[e];exact .inl h
   ·rw[List.set_eq_of_length_le (by omega)]at h;rw[e];exact .inl h
  ·rw[if_neg e]at h;exact .inl h
 ·rw[List.set_eq_of_length_le (by omega)]at h;exact .inl h
theorem GR.dc{p:Pl}{G:List (List Bool)}(g:GR p G){a c:Int}(ha:0<=a)(hc:0<=c)(r:Rch p a c):GR p (dc G a c):=fun t j h=>by
 rcases Ac h with h|⟨rfl,rfl⟩
 ·exact g t j h
 ·rw[show ((Int.toNat a:Nat):Int)=a by omega,show ((Int.toNat c:Nat):Int)=c by omega];exact r
theorem GR.bU{p:Pl}:∀{l:List Leg} {G:List (List Bool)},GR p G->(∀x∈l,0<=x.arr/\0<=x.to/\Rch p x.arr x.to)->GR p (bU G l)
 | [],_,g,_=>g
 |x :: l,G,g,h=>by
  have hx:=h x List.mem_cons_self
  exact GR.bU (l:=l) (g.dc hx.1 hx.2.1 hx.2.2) fun y hy=>h y (List.mem_cons_of_mem _ hy)
theorem GR.cSt{p:Pl}(o:bG p){G:List (List Bool)}(g:GR p G){t j:Nat}(ht:(t:Int)<endP p)(hj:j<p.land.length)(r:Rch p (t:Int) (j:Int)):GR p (cSt p t j G):=by
 unfold YtmecpfikljhjaaaGreatDoor.cSt
 have hl:∀x∈lgP p (j:Int) (t:Int),0<=x.arr/\0<=x.to/\Rch p x.arr x.to:=fun x hx=>by
  have hm:=eU hx
  exact ⟨by omega,(jX o (by omega) hm.1).1.1,.leg r ht hx⟩
 by_cases w:wtB p (j:Int) (t:Int) ((t:Int)+1)=true
 ·rw[if_pos w];exact GR.bU (g.dc (by omega) (by omega) (.wait r w ht)) hl
 ·rw[if_neg w];exact GR.bU g hl
theorem GR.cTo{p:Pl}(o:bG p){G:List (List Bool)}(g:GR p G){t:Nat}(ht:(t:Int)<endP p):∀j,j<=p.land.length->GR p (cTo p t G j)
 |0,_=>g
 |j+1,h=>by
  show GR p (if _ then _ else _)
  by_cases q:(G.getD t []).getD j false=true
  ·rw[if_pos q];exact (GR.cTo o g ht j (by omega)).cSt o ht (by omega) (g t j q)
  ·rw[if_neg q];exact GR.cTo o g ht j (by omega)
theorem zX(n N t j:Nat):((List.replicate N (List.replicate n false)).getD t []).getD j false=false:=by
 rw[List.getD_eq_getElem?_getD (l:=List.replicate N _),List.getElem?_replicate]
 by_cases h:t<N
 ·rw[if_pos h]
  show (List.replicate n false).getD j false=false
  rw[List.getD_eq_getElem?_getD,List.getElem?_replicate]
  by_cases q:j<n
  ·rw[if_pos q];rfl
  ·rw[if_neg q];rfl
 ·rw[if_neg h];rfl
theorem GR.gTo{p:Pl}(o:bG p):∀k:Nat,(k:Int)<=endP p->GR p (gTo p k)
 |0,_=>GR.dc (fun t j h=>by rw[zX]at h;cases h) (Int.le_refl _) (gV o.frm).1.1 .start
 |k+1,h=>by
  have hct:=o.cts
  have hk:k<NT p:=by show k<Int.toNat (endP p+1);omega
  refine GR.cTo o (GR.gTo o k (by omega)) (by omega) _ ?_
  rw[(GOk.gTo p k).rl k hk,o.chan];exact Nat.le_refl _
theorem Hy{p:Pl}(o:bG p){t c:Nat}(h:((tbP p).getD t []).getD c false=true):Rch p (t:Int) (c:Int):=by
 have hct:=o.cts
 exact GR.gTo o (Int.toNat (endP p)) (by unfold endP;omega) t c h
theorem EL{p:Pl}{a:Int}:∀{t c:Int},Rch p t c->t<=a->0<=t/\lfP p a p.frm 0<=lfP p a c t+t:=by
 intro t c r
 induction r with
 |start=>intro h;exact ⟨Int.le_refl _,by omega⟩
 | @wait t c r w ht ih =>
  intro h
  obtain ⟨i0,i1⟩:=ih (by omega)
  have e:=lj (p:=p) (a:=a) (c:=c) (t:=t) (by omega)
  have l:=(qC p a (lgP p c t) (lf0 p a c t)).1
  have f:lf0 p a c t=lfP p a c (t+1):=by unfold lf0;rw[if_pos w]
  exact ⟨by omega,by omega⟩
 | @leg t c x r ht hx ih =>
  intro h
  have hm:=eU hx
  obtain ⟨i0,i1⟩:=ih (by omega)
  have e:=lj (p:=p) (a:=a) (c:=c) (t:=t) (by omega)
  have l:=(qC p a (lgP p c t) (lf0 p a c t)).2 x hx h
  exact ⟨by omega,by omega⟩
theorem qd{p:Pl}(o:bG p):(bp p = -1/\∀k,k<(tbP p).length->atB p k=false)∨∃k:Nat,bp p=(k:Int)/\(k:Int)<=endP p/\atB p k=true/\∀j,j<k->atB p j=false:=by
 have hl:=(Cv p).gl
 have hN:NT p=Int.toNat (endP p+1):=rfl
 rcases v4 (atB p) (tbP p).length with h|⟨k,h1,h2,h3,h4⟩
 ·exact .inl h
 ·exact .inr ⟨k,h4,by omega,h2,h3⟩
theorem GG{p:Pl}(o:bG p)(h:0<=bp p):wz p (bp p):=by
 rcases qd o with ⟨e,_⟩|⟨k,e,h1,h2,_⟩
 ·omega
 have he:=dG o
 have hto:=gV o.to
 have r:=Hy o h2
 rw[show ((Int.toNat p.to:Nat):Int)=p.to by omega,<- e]at r
 have l:=EL r (Int.le_refl _)
 rw[je,if_pos rfl]at l
 exact ⟨h,by omega,by omega⟩
def aF(p:Pl):List Leg:=if bp p<0 then [] else dO p (bp p)
def cE(p:Pl):Int:=if bp p<0 then 0 else bp p
def b8(p:Pl):Int:=if bp p<0 then 51 else 0
def lb(m r:List Bool):Nat->List Bool
 |0=>m
 |i+1=>(lb m r i).set i ((lb m r i).getD i false ||r.getD i false)
def eI(p:Pl):Nat->List Bool
 |0=>List.replicate p.chan.length false
 |k+1=>lb (eI p k) ((tbP p).getD k []) ((tbP p).getD k []).length
def dq(p:Pl):List Bool:=eI p (tbP p).length
def anyM(m:List Bool)(l:List Int):Bool:=l.any fun k=>m.getD (Int.toNat k) false
def wlB(p:Pl)(i:Nat):Bool:=fh p.land (i:Int)&&(!(dq p).getD i false&&anyM (dq p) (bsP p (i:Int)))
def eL(p:Pl)(n:Nat):List Int:=((List.range n).filter (wlB p)).map fun (i:Nat)=>(i:Int)
def wlE(p:Pl):Int:=if (dq p).getD (Int.toNat p.to) false then 9 else 0
def wlP(p:Pl):List Int:=if (dq p).getD (Int.toNat p.to) false then [] else eL p (dq p).length
theorem mZ(m r:List Bool):∀i,(lb m r i).length=m.length
 |0=>rfl
 |i+1=>by show (List.set ..).length=_;rw[List.length_set,mZ m r i]
theorem kZ(p:Pl):∀k,(eI p k).length=p.chan.length
 |0=>List.length_replicate
 |k+1=>(mZ ..).trans (kZ p k)
abbrev jm1:List Value:=[nI 4000,nI 8000,nI 14000,nI 24000,nI 40000,nI 90000]
abbrev jmd:=ac (.cells false 0 jm1)
abbrev jm4(p:Pl):=p.land.flatMap af
abbrev jmb(p:Pl):=p.cts.flatMap chC
abbrev jm5(p:Pl):=p.chan.flatMap af
abbrev jm6(p:Pl):=p.shp.th.flatMap ptC
abbrev jm7(p:Pl):=p.shp.wa.flatMap ptC
abbrev jm8(p:Pl):=p.shp.ic.flatMap ptC
abbrev jm2(p:Pl):List Value:=[.agg #[nI p.w,nI p.h,slQ 1 2 p.land.length,slQ 2 2 p.cts.length,slQ 3 2 p.chan.length,nI p.shp.cls,nI p.shp.pow,nI p.shp.dra,nI p.shp.ton,slQ 4 2 p.shp.th.length,slQ 5 2 p.shp.wa.length,slQ 6 2 p.shp.ic.length,nI p.shp.slow,nI p.shp.aw,nI p.shp.rdg,nI p.shp.prs,nI p.size,nI p.frm,nI p.to]]
abbrev jm0(p:Pl):List Value:=[nI p.w,nI p.h,slQ 1 2 p.land.length,slQ 2 2 p.cts.length,slQ 3 2 p.chan.length,nI p.shp.cls,nI p.shp.pow,nI p.shp.dra,nI p.shp.ton,slQ 4 2 p.shp.th.length,slQ 5 2 p.shp.wa.length,slQ 6 2 p.shp.ic.length,nI p.shp.slow,nI p.shp.aw,nI p.shp.rdg,nI p.shp.prs,nI p.size,nI p.frm,nI p.to,nI (endP p),.map (some 9)]
abbrev jmc(p:Pl):=knE (ab.nil (sfP p)).1
abbrev jma(p:Pl):=rn (sg 7 [(7,10)]) 3 (.tuple #[slQ 7 1 (aF p).length,nI (cE p),nI (b8 p)]:Value)
def Fl(p:Pl):Prop :=
 ((jmd/\(ac (.cells true 1 (jm4 p)))/\(ac (.cells false 0 (jmb p)))/\(ac (.cells true 1 (jm5 p)))/\(ac (.cells true 2 (jm6 p)))/\(ac (.cells true 2 (jm7 p)))/\(ac (.cells true 2 (jm8 p)))/\True)/\(∀H':Heap,H'.length=8->(H'[0]?=some (.cells false 0 jm1:aa)/\H'[1]?=some (.cells true 1 (jm4 p):aa)/\H'[2]?=some (.cells false 0 (jmb p):aa)/\H'[3]?=some (.cells true 1 (jm5 p):aa)/\H'[4]?=some (.cells true 2 (jm6 p):aa)/\H'[5]?=some (.cells true 2 (jm7 p):aa)/\H'[6]?=some (.cells true 2 (jm8 p):aa)/\True)->ad prog 53 (jm2 p) H' [] (Is (.tuple #[pt 8,nI 0]) (H' ++ [(.cells true 0 (jm0 p):aa),(.map (jmc p):aa)])))/\((jmd/\(ac (.cells true 0 (jm0 p)))/\(ac (.cells true 1 (jm4 p)))/\(ac (.cells false 0 (jmb p)))/\(ac (.cells true 1 (jm5 p)))/\(ac (.cells true 2 (jm6 p)))/\(ac (.cells true 2 (jm7 p)))/\(ac (.cells true 2 (jm8 p)))/\(ac (.map (jmc p)))/\True)/\(∀H':Heap,H'.length=10->(H'[0]?=some (.cells false 0 jm1:aa)/\H'[8]?=some (.cells true 0 (jm0 p):aa)/\H'[1]?=some (.cells true 1 (jm4 p):aa)/\H'[2]?=some (.cells false 0 (jmb p):aa)/\H'[3]?=some (.cells true 1 (jm5 p):aa)/\H'[4]?=some (.cells true 2 (jm6 p):aa)/\H'[5]?=some (.cells true 2 (jm7 p):aa)/\H'[6]?=some (.cells true 2 (jm8 p):aa)/\H'[9]?=some (.map (jmc p):aa)/\True)->ad prog 54 [pt 8] H' [9] (fun y H2 => ∃z:ab (sfP p),True/\y=nI (bp p)/\H2=(List.set H' 9 (.map (knE z.1):aa))))/\(∀r1:ab (sfP p),True->(fk (decide (((bp p):Int)<0)) (wk (.tuple #[.slice none 0 0,nI 0,nI 51]:Value) (.tuple #[slQ 10 1 0,nI 0,nI 51]:Value)/\(true=true/\wk (.tuple #[slQ 10 1 0,nI 0,nI 51]:Value) (jma p)/\((kbq 7 (.cells true 4 []) (.cells true 4 ((aF p).flatMap lgC)))/\True))) ((jmd/\(ac (.cells true 0 (jm0 p)))/\(ac (.cells true 1 (jm4 p)))/\(ac (.cells false 0 (jmb p)))/\(ac (.cells true 1 (jm5 p)))/\(ac (.cells true 2 (jm6 p)))/\(ac (.cells true 2 (jm7 p)))/\(ac (.cells true 2 (jm8 p)))/\(ac (.map (knE r1.1)))/\True)/\(∀H':Heap,H'.length=10->(H'[0]?=some (.cells false 0 jm1:aa)/\H'[8]?=some (.cells true 0 (jm0 p):aa)/\H'[1]?=some (.cells true 1 (jm4 p):aa)/\H'[2]?=some (.cells false 0 (jmb p):aa)/\H'[3]?=some (.cells true 1 (jm5 p):aa)/\H'[4]?=some (.cells true 2 (jm6 p):aa)/\H'[5]?=some (.cells true 2 (jm7 p):aa)/\H'[6]?=some (.cells true 2 (jm8 p):aa)/\H'[9]?=some (.map (knE r1.1):aa)/\True)->ad prog 55 [pt 8,nI (bp p)] H' [9] (fun y H2 => ∃z:ab (sfP p),True/\y=slQ 10 1 (dO p (bp p)).length/\H2=((List.set H' 9 (.map (knE z.1):aa)) ++ [(.cells true 4 ((dO p (bp p)).flatMap lgC):aa)])))/\(∀r2:ab (sfP p),True->(true=true/\wk (.tuple #[slQ 10 1 (dO p (bp p)).length,nI (bp p),nI 0]:Value) (jma p)/\((kbq 7 (.cells true 4 ((dO p (bp p)).flatMap lgC)) (.cells true 4 ((aF p).flatMap lgC)))/\True))))))))
abbrev jm3(p:Pl):=aG [.cells false 0 jm1,.cells true 1 (jm4 p),.cells false 0 (jmb p),.cells true 1 (jm5 p),.cells true 2 (jm6 p),.cells true 2 (jm7 p),.cells true 2 (jm8 p)]
theorem Je(p:Pl):vF prog msk (dm 0) 100000 true 40 true 13 (jm2 p) (jm3 p) (some [])
 (.go 4 (.ans [(0,.cells false 0 jm1),(1,.cells true 1 (jm4 p)),(2,.cells false 0 (jmb p)),(3,.cells true 1 (jm5 p)),(4,.cells true 2 (jm6 p)),(5,.cells true 2 (jm7 p)),(6,.cells true 2 (jm8 p))] (.tuple #[pt 8,nI 0]) [.cells true 0 (jm0 p),.map (jmc p)] (.go 8 (.cg [(0,.cells false 0 jm1),(8,.cells true 0 (jm0 p)),(1,.cells true 1 (jm4 p)),(2,.cells false 0 (jmb p)),(3,.cells true 1 (jm5 p)),(4,.cells true 2 (jm6 p)),(5,.cells true 2 (jm7 p)),(6,.cells true 2 (jm8 p)),(9,.map (jmc p))] [9] (ab (sfP p)) (fun r1=>True) (fun r1=>nI (bp p)) (fun r1=>[(9,.map (knE r1.1))]) (fun r1=>[]) (fun r1 => .go 2 (.fork (.go 2 (.as (.tuple #[slQ 10 1 0,nI 0,nI 51]) (.ghost (.cells true 4 []) (.again [(7,10)])))) (.go 1 (.cg [(0,.cells false 0 jm1),(8,.cells true 0 (jm0 p)),(1,.cells true 1 (jm4 p)),(2,.cells false 0 (jmb p)),(3,.cells true 1 (jm5 p)),(4,.cells true 2 (jm6 p)),(5,.cells true 2 (jm7 p)),(6,.cells true 2 (jm8 p)),(9,.map (knE r1.1))] [9] (ab (sfP p)) (fun r2=>True) (fun r2=>slQ 10 1 (dO p (bp p)).length) (fun r2=>[(9,.map (knE r2.1))]) (fun r2=>[.cells true 4 ((dO p (bp p)).flatMap lgC)]) (fun r2 => .go 3 (.again [(7,10)]))))))))))
 (mW ((jm3 p):HT).n 3 (.tuple #[slQ 7 1 (aF p).length,nI (cE p),nI (b8 p)]) [(true,.cells true 4 ((aF p).flatMap lgC))])=Fl p:=by kernel_rfl
abbrev jm9(l:List Int):Prop:=eR (.func (.func 63) #[] #[pt 2])/\wR (slQ 1 2 l.length)/\eR (nI ((l.length:Nat):Int))/\True
def qh(sp:Value)(l:List Int)(m:List Bool):Prop :=
 (lq (0<=List.length l/\∀jz:Nat,jz<0->List.getD m (l.getD jz 0).toNat false=false) (true=true/\((nI 0:Value)=nI ((0:Nat):Int)/\jm9 l)/\(True)/\(True)/\(True)) (∀x0:Nat,(x0<=List.length l/\∀jz:Nat,jz<x0->List.getD m (l.getD jz 0).toNat false=false)->(fk (decide (((x0:Int):Int)<((l.length:Nat):Int))) ((ixq (x0:Int) l.length)/\(((l.flatMap bc)[(0+Int.toNat (x0:Int)*1)]?=some (nI (l.getD x0 0)))/\((ixq (l.getD x0 0) m.length)/\(((m.flatMap af)[(0+Int.toNat (l.getD x0 0)*1)]?=some (.bool (m.getD (l.getD x0 0).toNat false)))/\(fk (m.getD (l.getD x0 0).toNat false) ((.bool (decide ((0:Int)<=(x0:Int))):Value)=sp) (nw ((x0:Int)+1) (∃x0':Nat,(x0'<=List.length l/\∀jz:Nat,jz<x0'->List.getD m (l.getD jz 0).toNat false=false)/\(List.length l-x0')<(List.length l-x0)/\true=true/\((nI ((x0:Int)+1):Value)=nI (x0':Int)/\jm9 l)/\(True)/\(True)/\(True)))))))) ((.bool false:Value)=sp))))
theorem zo(sp:Value)(l:List Int)(m:List Bool):vF prog msk (dm 0) 100000 true 40 true 61 [slQ 1 2 l.length,.func (.func 63) #[] #[pt 2]] (aG [.cells false 0 jm1,.cells true 1 (l.flatMap bc),.cells true 0 [slN 3 m.length],.cells true 1 (m.flatMap af)]) (some [])
 (.go 7 (.inv 3 (Nat) (0) [] [] (fun x0=>[(8,nI (x0:Int)),(1,.func (.func 63) #[] #[pt 2]),(0,slQ 1 2 l.length),(7,nI ((l.length:Nat):Int))]) (fun x0=>[]) (fun x0=>[]) (fun x0=>[]) (fun x0=>(x0<=List.length l/\∀jz:Nat,jz<x0->List.getD m (l.getD jz 0).toNat false=false)) (fun x0=>(List.length l-x0)) (fun x0 => .go 0 (.fork (.go 4 (.need (.val (nI (l.getD x0 0)) (.go 3 (.need (.val (.bool (m.getD (l.getD x0 0).toNat false)) (.go 0 (.fork (.auto) (.go 0 (.slot 18 (nI ((x0:Int)+1)) (.go 0 (.again [])))))))))))) (.auto)))))
 (fun v _ _=>v=sp)=qh sp l m:=by kernel_rfl
theorem zv{H:Heap}{p:Pl}{K:ab (sfP p)}{W m:Nat}(hn:[0,1,2,3,4,5,6,W,m].Nodup){Q:Prop}(h:H[0]?=some bC/\H[W]?=some (.cells true 0 (wkC p 1 2 3 4 5 6 m))/\H[1]?=some (.cells true 1 (p.land.flatMap af))/\H[2]?=some (.cells false 0 (p.cts.flatMap chC))/\H[3]?=some (.cells true 1 (p.chan.flatMap af)) /\
  H[4]?=some (.cells true 2 (p.shp.th.flatMap ptC))/\H[5]?=some (.cells true 2 (p.shp.wa.flatMap ptC))/\H[6]?=some (.cells true 2 (p.shp.ic.flatMap ptC))/\H[m]?=some (.map (knE K.1))/\Q):i7 H p K 1 2 3 4 5 6 W m:=by
 obtain ⟨a0,a7,a1,a2,a3,a4,a5,a6,a8,_⟩:=h
 exact ⟨hn,a0,a1,a2,a3,a4,a5,a6,a7,a8⟩
theorem qi{H:Heap}{p:Pl}{K:ab (sfP p)}{Q:Prop}(h:H[0]?=some bC/\H[8]?=some (.cells true 0 (wkC p 1 2 3 4 5 6 9))/\H[1]?=some (.cells true 1 (p.land.flatMap af))/\H[2]?=some (.cells false 0 (p.cts.flatMap chC))/\H[3]?=some (.cells true 1 (p.chan.flatMap af)) /\
  H[4]?=some (.cells true 2 (p.shp.th.flatMap ptC))/\H[5]?=some (.cells true 2 (p.shp.wa.flatMap ptC))/\H[6]?=some (.cells true 2 (p.shp.ic.flatMap ptC))/\H[9]?=some (.map (knE K.1))/\Q):i7 H p K 1 2 3 4 5 6 8 9:=zv (by decide) h
theorem wX{H:Heap}{p:Pl}{Q:Prop}(h:H[0]?=some bC/\H[1]?=some (.cells true 1 (p.land.flatMap af))/\H[2]?=some (.cells false 0 (p.cts.flatMap chC))/\H[3]?=some (.cells true 1 (p.chan.flatMap af)) /\
  H[4]?=some (.cells true 2 (p.shp.th.flatMap ptC))/\H[5]?=some (.cells true 2 (p.shp.wa.flatMap ptC))/\H[6]?=some (.cells true 2 (p.shp.ic.flatMap ptC))/\Q):gJ H p 1 2 3 4 5 6:=by
 obtain ⟨a0,a1,a2,a3,a4,a5,a6,_⟩:=h
 exact ⟨by decide,a0,a1,a2,a3,a4,a5,a6⟩
theorem nD{p:Pl}(hp:zn p)(e0:bO p=0){H:Heap}{l c n t w i N M:Nat}(hN:H.length=N)(hM:M=N+1)(a:gJ H p l c n t w i) :
  ad prog 53 [plV p l c n t w i] H [] (Is (.tuple #[pt N,nI 0]) (H ++ [.cells true 0 (wkC p l c n t w i M),.map (knE (ab.nil (sfP p)).1)])):=by
 subst hN hM
 exact F4 hp e0 a
theorem Gb{p:Pl}(hp:zn p)(e0:bO p=0){H:Heap}{l c n t w i:Nat}(a:gJ H p l c n t w i) :
  ad prog 13 [plV p l c n t w i] H [] (Is (.tuple #[.slice (some ⟨H.length,0,some 1⟩) (aF p).length (aF p).length,nI (cE p),nI (b8 p)]) (H ++ [.cells true 4 ((aF p).flatMap lgC)])):=by
 have o:=kj e0
 refine mF (fun j => .tuple #[.slice (some ⟨j,0,some 1⟩) (aF p).length (aF p).length,nI (cE p),nI (b8 p)]) (new:=[.cells true 4 ((aF p).flatMap lgC)]) (Eq.mpr (Je p) ?_) (kY p) rfl ⟨⟨_,_,rfl,bu _ _⟩,trivial⟩ a.1 a.objs rfl (fun j=>rfl) rfl
 delta Fl jmd jm4 jmb jm5 jm6 jm7 jm8 jm1 jm2 jm0 jmc jma nI slQ pt ac fk kbq
 refine ⟨?_,fun H' hn h=>nD hp e0 hn rfl (wX h),?_,fun H' hn h=>tg o (qi h),fun r1 _=>⟨fun q =>?_,fun q =>?_⟩⟩
 ·repeat' first|exact trivial|refine ⟨rfl,?_⟩
 ·repeat' first|exact trivial|refine ⟨rfl,?_⟩
 ·have h:=of_decide_eq_true q
  rw[show aF p=[] from if_pos h,show cE p=0 from if_pos h,show b8 p=51 from if_pos h]
  repeat' first|exact trivial|exact rfl|exact ae _|refine aS ?_ ?_|exact ef _ _ _ (.inl rfl)|refine wE ?_|refine ⟨rfl,?_⟩|apply And.intro
 ·have h:=of_decide_eq_false q
  rw[show aF p=dO p (bp p) from if_neg h,show cE p=bp p from if_neg h,show b8 p=0 from if_neg h]
  refine ⟨?_,fun H' hn hh=>hn ▸ Gc o (GG o (by omega)) (qi hh),fun r2 _ =>?_⟩
  ·repeat' first|exact trivial|refine ⟨rfl,?_⟩
  ·repeat' first|exact bu _ _|exact trivial|exact ae _|refine ⟨rfl,?_⟩|apply And.intro
theorem BO{m:List Bool}{l:List Int}(h:∀j,j<l.length->m.getD (Int.toNat (l.getD j 0)) false=false):anyM m l=false:=by
 unfold anyM
 rw[List.any_eq_false]
 intro x hx
 obtain ⟨j,hj,rfl⟩:=List.getElem_of_mem hx
 have:=h j hj
 rw[List.getD_eq_getElem?_getD (l:=l),List.getElem?_eq_getElem hj]at this
 have e:m.getD (Int.toNat l[j]) false=false:=this
 rw[e];decide
theorem yR{l:List Int}{m:List Bool}(hl:l.length<=1000000)(hr:∀j,j<l.length->0<=l.getD j 0/\l.getD j 0<(m.length:Int)){H:Heap}{L B M:Nat}(hnd:[0,L,B,M].Nodup)(h0:H[0]?=some bC)(h1:H[L]?=some (.cells true 1 (l.flatMap bc)))
  (h2:H[B]?=some (.cells true 0 [slN M m.length])) (h3:H[M]?=some (.cells true 1 (m.flatMap af))) :
  ad prog 61 [slQ L 2 l.length,.func (.func 63) #[] #[pt B]] H [] (Is (.bool (anyM m l)) H):=by
 have i1:am 3 (.cells true 1 (l.flatMap bc))=true:=(ed (σ:=fun _=>none) (d:=0) (cz 0 l)).2
 have i2:∀σ,rno σ 3 (.cells true 1 (l.flatMap bc)) = .cells true 1 (l.flatMap bc):=fun σ=>congrArg (aa.cells true 1) (ed (d:=0) (cz 0 l)).1
 refine gi (os:=[bC,.cells true 1 (l.flatMap bc),.cells true 0 [slN 3 m.length],.cells true 1 (m.flatMap af)]) (ids:=[0,L,B,M]) (Eq.mpr (zo _ l m) ?_)
  (by show (am 3 bC&&(am 3 (.cells true 1 (l.flatMap bc))&&(am 3 (.cells true 0 [slN 3 m.length])&&(am 3 (.cells true 1 (m.flatMap af))&&true))))=true;rw[i1,kJ];rfl) rfl rfl (fun _=>rfl) hnd ⟨h0,by rw[i2];exact h1,h2,by rw[dB];exact h3,trivial⟩ rfl rfl
 delta qh jm9 nI slQ pt fk nw eR wR ixq lq
 refine ⟨rfl,⟨Nat.zero_le _,fun j hj=>absurd hj (Nat.not_lt_zero j)⟩,⟨rfl,?_⟩,fun _=>rfl,fun x0 hx0=>⟨fun q =>?_,fun q =>?_⟩⟩
 ·repeat' first|exact trivial|exact ae _|refine ⟨rfl,?_⟩|refine ⟨trivial,?_⟩|apply And.intro
 ·have hx:=of_decide_eq_true q
  have hx':x0<l.length:=by omega
  have hr0:=hr x0 hx'
  refine ⟨by omega,pM hx' (by omega),by omega,eQ (by omega) (by omega),fun r =>?_,fun r =>?_⟩
  ·have e:anyM m l=true:=by
    unfold anyM
    rw[List.any_eq_true]
    exact ⟨l.getD x0 0,kE hx',r⟩
   rw[e,decide_eq_true (by omega)]
  ·refine ⟨ak (by omega),x0+1,⟨by omega,fun j hj =>?_⟩,by omega,rfl,?_⟩
   ·by_cases e:j=x0
    ·rw[e];exact r
    ·exact hx0.2 j (by omega)
   ·repeat' first|exact trivial|exact ae _|refine ⟨rfl,?_⟩|refine ⟨trivial,?_⟩|apply And.intro
 ·have hx:=of_decide_eq_false q
  rw[BO fun j hj=>hx0.2 j (by omega)]
def leS(s:Span):Span:=⟨s.lo,s.lo⟩
def leC(c:Cell):Cell:=⟨leS c.ap,leS c.ag,leS c.ai,leS c.ah⟩
def iK(c:Cht)(k:Nat):List Cell:=(c.cells.take k).map leC
def leH(c:Cht):Cht:=⟨c.w,c.h,c.hr,iK c c.cells.length⟩
def dC(l:List Cht):Nat->List Cht
 |0=>l
 |i+1=>(dC l i).set i (leH ((dC l i).getD i zCh))
def bB(p:Pl):Pl:={ p with cts:=dC p.cts p.cts.length }
theorem gy(l:List Cht):∀i,(dC l i).length=l.length
 |0=>rfl
 |i+1=>by show (List.set ..).length=_;rw[List.length_set,gy l i]
theorem gz(l:List Cht):∀(i:Nat),i<=l.length->∀j,j<l.length->(dC l i).getD j zCh=if j<i then leH (l.getD j zCh) else l.getD j zCh
 |0,_,j,_=>by rw[if_neg (Nat.not_lt_zero j)];rfl
 |i+1,hi,j,hj=>by
  show ((dC l i).set i _).getD j zCh=_
  rw[c7 (by rw[gy];omega),gz l i (by omega) i (by omega),if_neg (Nat.lt_irrefl i)]
  by_cases e:j=i
  ·rw[if_pos e,e,if_pos (by omega)]
  ·rw[if_neg e,gz l i (by omega) j hj]
   by_cases f:j<i
   ·rw[if_pos f,if_pos (by omega)]
   ·rw[if_neg f,if_neg (by omega)]
theorem Aw(c:Cht)(k:Nat)(h:k<=c.cells.length):(iK c k).length=k:=by unfold iK;rw[List.length_map,List.length_take];omega
theorem yK{c:Cht}{k:Nat}(h:k<c.cells.length):iK c (k+1)=iK c k ++ [leC (c.cells.getD k az)]:=by
 unfold iK
 rw[List.take_add_one,List.map_append,List.getD_eq_getElem?_getD,List.getElem?_eq_getElem h];rfl
def ctI(l:List Int)(x:Int):Bool:=l.any fun y=>y == x
def acB(p:Pl)(c t:Int)(x:Leg):Bool:=ctI (bsP p c) x.to&&(!decide (x.dep<t)&&(inB x.spd 10 250&&(!decide (x.arr<x.dep)&&(x.arr-x.dep == tkP p x.spd))))
def acD(p:Pl)(x:Leg)(j:Nat):Int:=sfP p x.to (Int.tdiv (x.dep+(j:Int)) 6)-x.spd
def hJ(p:Pl)(x:Leg)(m:Int):Nat->Int
 |0=>m
 |j+1=>if acD p x j<hJ p x m j then acD p x j else hJ p x m j
def iJ(p:Pl)(x:Leg)(n:Nat):Bool:=(List.range n).all fun j => !decide (acD p x j<0)
def lgN(x:Leg):Nat:=Int.toNat (x.arr-x.dep)
def acE(p:Pl)(c t:Int)(x:Leg):Int:=if acB p c t x=false then 50 else if endP p<x.arr then 12 else if wtB p c t x.dep=false then 51 else if iJ p x (lgN x)=false then 51 else 0
def acC(p:Pl)(l:List Leg):Nat->Int
 |0=>p.frm
 |k+1=>(l.getD k zL).to
def acT(l:List Leg):Nat->Int
 |0=>0
 |k+1=>(l.getD k zL).arr
def acM(p:Pl)(l:List Leg):Nat->Int
 |0=>250
 |k+1=>hJ p (l.getD k zL) (acM p l k) (lgN (l.getD k zL))
def acU(p:Pl)(l:List Leg)(k:Nat):Int:=acE p (acC p l k) (acT l k) (l.getD k zL)
def cn(p:Pl)(l:List Leg):Int:=if 300<l.length then 2 else bM (cd (acU p l) l.length) (if acC p l l.length=p.to then 0 else 50)
def dH(p:Pl)(l:List Leg):Int:=if cn p l=0 then acT l l.length else 0
def dI(p:Pl)(l:List Leg):Int:=if cn p l=0 then acM p l l.length else 0
def Ff(sp:Value)(l:List Int)(x:Int):Prop :=
 (lq (0<=List.length l/\∀jz:Nat,jz<0->(List.getD l jz 0 == x)=false) (true=true/\((nI 0:Value)=nI ((0:Nat):Int)/\eR (nI x)/\wR (slQ 1 1 l.length)/\eR (nI ((l.length:Nat):Int))/\True)/\(True)/\(True)/\True) (∀x0:Nat,(x0<=List.length l/\∀jz:Nat,jz<x0->(List.getD l jz 0 == x)=false)->(fk (decide (((x0:Int):Int)<((l.length:Nat):Int))) ((ixq (x0:Int) l.length)/\((l.flatMap bc)[(0+Int.toNat (x0:Int)*1)]?=some (nI (l.getD x0 0)))/\fk ((x:Int) == (l.getD x0 0)) ((.bool (decide ((0:Int)<=(x0:Int))):Value)=sp) (nw ((x0:Int)+1) (∃x0':Nat,(x0'<=List.length l/\∀jz:Nat,jz<x0'->(List.getD l jz 0 == x)=false)/\(List.length l-x0')<(List.length l-x0)/\true=true/\((nI ((x0:Int)+1):Value)=nI (x0':Int)/\eR (nI x)/\wR (slQ 1 1 l.length)/\eR (nI ((l.length:Nat):Int))/\True)/\(True)/\(True)/\True))) ((.bool false:Value)=sp))))
theorem I8(sp:Value)(l:List Int)(x:Int):vF prog msk (dm 0) 100000 true 40 true 117 [slQ 1 1 l.length,nI x] (aG [.cells false 0 [nI 4000,nI 8000,nI 14000,nI 24000,nI 40000,nI 90000],.cells true 1 (l.flatMap bc)]) (some [])
 (.go 7 (.inv 3 (Nat) (0) [] [] (fun x0=>[(8,nI (x0:Int)),(1,nI x),(0,slQ 1 1 l.length),(7,nI ((l.length:Nat):Int))]) (fun x0=>[]) (fun x0=>[]) (fun x0=>[]) (fun x0=>(x0<=List.length l/\∀jz:Nat,jz<x0->(List.getD l jz 0 == x)=false)) (fun x0=>(List.length l-x0)) (fun x0 => .go 0 (.fork (.go 4 (.need (.val (nI (l.getD x0 0)) (.go 0 (.fork (.auto) (.go 0 (.slot 18 (nI ((x0:Int)+1)) (.go 0 (.again []))))))))) (.auto)))))
 (fun v _ _=>v=sp)=Ff sp l x:=by kernel_rfl
theorem DK{l:List Int}{x:Int}(h:∀j,j<l.length->(l.getD j 0 == x)=false):ctI l x=false:=by
 unfold ctI
 rw[List.any_eq_false]
 intro y hy
 obtain ⟨j,hj,rfl⟩:=List.getElem_of_mem hy
 have:=h j hj
 rw[List.getD_eq_getElem?_getD,List.getElem?_eq_getElem hj]at this
 have e:(l[j] == x)=false:=this
 rw[e];decide
theorem Ia{l:List Int}(x:Int)(hl:l.length<=1000000){H:Heap}{L:Nat}(hnd:[0,L].Nodup)(h0:H[0]?=some bC)(h1:H[L]?=some (.cells true 1 (l.flatMap bc))) :
  ad prog 117 [slQ L 1 l.length,nI x] H [] (Is (.bool (ctI l x)) H):=by
 have i1:am 3 (.cells true 1 (l.flatMap bc))=true:=(ed (σ:=fun _=>none) (d:=0) (cz 0 l)).2
 have i2:∀σ,rno σ 3 (.cells true 1 (l.flatMap bc)) = .cells true 1 (l.flatMap bc):=fun σ=>congrArg (aa.cells true 1) (ed (d:=0) (cz 0 l)).1
 refine gi (os:=[bC,.cells true 1 (l.flatMap bc)]) (ids:=[0,L]) (Eq.mpr (I8 _ l x) ?_)
  (by show (am 3 bC&&(am 3 (.cells true 1 (l.flatMap bc))&&true))=true;rw[i1];rfl) rfl rfl (fun _=>rfl) hnd ⟨h0,by rw[i2];exact h1,trivial⟩ rfl rfl
 delta Ff nI slQ fk nw eR wR ixq lq
 refine ⟨rfl,⟨Nat.zero_le _,fun j hj=>absurd hj (Nat.not_lt_zero j)⟩,⟨rfl,?_⟩,fun _=>rfl,fun x0 hx0=>⟨fun q =>?_,fun q =>?_⟩⟩
 ·repeat' first|exact trivial|exact ae _|refine ⟨rfl,?_⟩|refine ⟨trivial,?_⟩|apply And.intro
 ·have hx:=of_decide_eq_true q
  have hx':x0<l.length:=by omega
  refine ⟨by omega,pM hx' (by omega),fun r =>?_,fun r =>?_⟩
  ·have e:ctI l x=true:=by
    unfold ctI
    rw[List.any_eq_true]
    exact ⟨l.getD x0 0,kE hx',Bool.beq_comm.symm.trans r⟩
   rw[e,decide_eq_true (by omega)]
  ·refine ⟨ak (by omega),x0+1,⟨by omega,fun j hj =>?_⟩,by omega,rfl,?_⟩
   ·by_cases e:j=x0
    ·rw[e];exact Bool.beq_comm.symm.trans r
    ·exact hx0.2 j (by omega)
   ·repeat' first|exact trivial|exact ae _|refine ⟨rfl,?_⟩|refine ⟨trivial,?_⟩|apply And.intro
 ·have hx:=of_decide_eq_false q
  rw[DK fun j hj=>hx0.2 j (by omega)]
abbrev jze(l:List Leg):Int:=(l.length:Nat)
abbrev jz8(p:Pl)(l:List Leg):=rn (sg 10 []) 3 (.tuple #[nI (dH p l),nI (dI p l),nI (cn p l)]:Value)
abbrev jzc(p:Pl)(K0:ab (sfP p)):Nat×ab (sfP p):=(0,K0)
abbrev jza(l:List Leg)(p:Pl)(x0:Nat×ab (sfP p)):=l.getD x0.1 zL
abbrev jz6:List Value:=[nI 4000,nI 8000,nI 14000,nI 24000,nI 40000,nI 90000]
abbrev jz0(p:Pl):List Value:=[nI p.w,nI p.h,slQ 1 2 p.land.length,slQ 2 2 p.cts.length,slQ 3 2 p.chan.length,nI p.shp.cls,nI p.shp.pow,nI p.shp.dra,nI p.shp.ton,slQ 4 2 p.shp.th.length,slQ 5 2 p.shp.wa.length,slQ 6 2 p.shp.ic.length,nI p.shp.slow,nI p.shp.aw,nI p.shp.rdg,nI p.shp.prs,nI p.size,nI p.frm,nI p.to,nI (endP p),.map (some 8)]
abbrev jz3(p:Pl)(x0:Nat×ab (sfP p)):Prop:=(ac (.cells false 0 jz6))/\(ac (.cells true 0 (jz0 p)))/\(ac (.cells true 1 (p.land.flatMap af)))/\(ac (.cells false 0 (p.cts.flatMap chC)))/\(ac (.cells true 1 (p.chan.flatMap af)))/\(ac (.cells true 2 (p.shp.th.flatMap ptC)))/\(ac (.cells true 2 (p.shp.wa.flatMap ptC)))/\(ac (.cells true 2 (p.shp.ic.flatMap ptC)))/\(ac (.map (knE x0.2.1)))/\True
abbrev jz2(H':Heap)(p:Pl)(x0:Nat×ab (sfP p)):Prop:=H'[0]?=some (.cells false 0 jz6:aa)/\H'[7]?=some (.cells true 0 (jz0 p):aa)/\H'[1]?=some (.cells true 1 (p.land.flatMap af):aa)/\H'[2]?=some (.cells false 0 (p.cts.flatMap chC):aa)/\H'[3]?=some (.cells true 1 (p.chan.flatMap af):aa)/\H'[4]?=some (.cells true 2 (p.shp.th.flatMap ptC):aa)/\H'[5]?=some (.cells true 2 (p.shp.wa.flatMap ptC):aa)/\H'[6]?=some (.cells true 2 (p.shp.ic.flatMap ptC):aa)/\H'[8]?=some (.map (knE x0.2.1):aa)/\True
abbrev jz1(p:Pl)(l:List Leg)(x0:Nat×ab (sfP p)):Prop:=∃x:ab (sfP p),True/\(true=true/\wk (.tuple #[nI 0,nI 0,nI 50]:Value) (jz8 p l)/\((kbq 10 (.map (knE x0.2.1)) (.map (knE x.1)))/\True)/\(True))
abbrev jzd(p:Pl)(r5:ab (sfP p)):Nat×ab (sfP p):=(0,r5)
abbrev jzb(l:List Leg)(p:Pl)(x0:Nat×ab (sfP p)):Prop:=eR (nI (jze l))/\wR (slQ 9 2 l.length)/\eR (pt 7)/\eR (nI (acT l x0.1))/\eR (nI (acC p l x0.1))/\eR (nI ((x0.1:Nat):Int))/\eR (pt 10)/\True
abbrev jz5(p:Pl)(l:List Leg)(x0:Nat×ab (sfP p))(x6:Nat×ab (sfP p)):=sfP p (jza l p x0).to (Int.tdiv ((jza l p x0).dep+((x6.1:Nat):Int)) 6)
def yc(p:Pl)(l:List Leg)(K0:ab (sfP p)):Prop :=
 (fk (decide ((300:Int)<(jze l))) (∃x:ab (sfP p),True/\true=true/\wk (.tuple #[nI 0,nI 0,nI 2]:Value) (jz8 p l)/\((kbq 10 (.map (knE K0.1)) (.map (knE x.1)))/\True)/\True) (true=true/\((jzc p K0).1<=List.length l/\cd (acU p l) (jzc p K0).1=0)/\(true=true/\((nI 0:Value)=nI (((jzc p K0).1:Nat):Int)/\(nI p.frm:Value)=nI (acC p l (jzc p K0).1)/\(nI 0:Value)=nI (acT l (jzc p K0).1)/\(nI 250:Value)=nI (acM p l (jzc p K0).1)/\eR (pt 7)/\wR (slQ 9 2 l.length)/\eR (nI (jze l))/\True)/\((kbq 10 (.map (knE K0.1)) (.map (knE (jzc p K0).2.1)))/\True)/\(True)/\True)/\(∀x0:Nat×ab (sfP p),true=true)/\∀x0:Nat×ab (sfP p),(x0.1<=List.length l/\cd (acU p l) x0.1=0)->(fk (decide ((((x0.1:Nat):Int):Int)<(jze l))) ((ixq ((x0.1:Nat):Int) l.length)/\(cN 4 (l.flatMap lgC) (0+Int.toNat ((x0.1:Nat):Int)*4)=some (.agg #[nI (jza l p x0).to,nI (jza l p x0).dep,nI (jza l p x0).spd,nI (jza l p x0).arr]))/\(jz3 p x0)/\(∀H':Heap,H'.length=11->(jz2 H' p x0)->ad prog 62 [pt 7,nI (acC p l x0.1)] H' [] (Is (slQ 11 1 (bsP p (acC p l x0.1)).length) (H' ++ [(.cells true 1 ((bsP p (acC p l x0.1)).flatMap bc):aa)])))/\c2q 12 0 (.cells false 0 jz6) 11 (.cells true 1 ((bsP p (acC p l x0.1)).flatMap bc)) 117 [slQ 11 1 (bsP p (acC p l x0.1)).length,nI (jza l p x0).to] (.bool (ctI (bsP p (acC p l x0.1)) (jza l p x0).to)) (fk (!(ctI (bsP p (acC p l x0.1)) (jza l p x0).to)) (jz1 p l x0) (fk (decide (((jza l p x0).dep:Int)<(acT l x0.1))) (jz1 p l x0) (c0q 12 77 [nI (jza l p x0).spd,nI 10,nI 250] (.bool (inB (jza l p x0).spd 10 250)) (fk (!(inB (jza l p x0).spd 10 250)) (jz1 p l x0) (fk (decide (((jza l p x0).arr:Int)<(jza l p x0).dep)) (jz1 p l x0) (nw ((jza l p x0).arr-(jza l p x0).dep) ((jz3 p x0)/\(∀H':Heap,H'.length=12->(jz2 H' p x0)->ad prog 118 [pt 7,nI (jza l p x0).spd] H' [] (Is (nI (tkP p (jza l p x0).spd)) H'))/\fk ((((jza l p x0).arr-(jza l p x0).dep):Int) != (tkP p (jza l p x0).spd)) (jz1 p l x0) (fk (decide (((endP p):Int)<(jza l p x0).arr)) (∃x:ab (sfP p),True/\true=true/\wk (.tuple #[nI 0,nI 0,nI 12]:Value) (jz8 p l)/\((kbq 10 (.map (knE x0.2.1)) (.map (knE x.1)))/\True)/\True) ((jz3 p x0)/\(∀H':Heap,H'.length=12->(jz2 H' p x0)->ad prog 70 [pt 7,nI (acC p l x0.1),nI (acT l x0.1),nI (jza l p x0).dep] H' [8] (fun y H2 => ∃z:ab (sfP p),True/\y = .bool (wtB p (acC p l x0.1) (acT l x0.1) (jza l p x0).dep)/\H2=(List.set H' 8 (.map (knE z.1):aa))))/\∀r5:ab (sfP p),True->(fk (!(wtB p (acC p l x0.1) (acT l x0.1) (jza l p x0).dep)) (∃x:ab (sfP p),True/\true=true/\wk (.tuple #[nI 0,nI 0,nI 51]:Value) (jz8 p l)/\((kbq 10 (.map (knE r5.1)) (.map (knE x.1)))/\True)/\True) (true=true/\((jzd p r5).1<=lgN (jza l p x0)/\iJ p (jza l p x0) (jzd p r5).1=true)/\(true=true/\((nI (jza l p x0).dep:Value)=nI ((jza l p x0).dep+(((jzd p r5).1:Nat):Int))/\(nI (acM p l x0.1):Value)=nI (hJ p (jza l p x0) (acM p l x0.1) (jzd p r5).1)/\jzb l p x0)/\((kbq 12 (.map (knE r5.1)) (.map (knE (jzd p r5).2.1)))/\True)/\(True)/\True)/\(∀x6:Nat×ab (sfP p),true=true)/\∀x6:Nat×ab (sfP p),(x6.1<=lgN (jza l p x0)/\iJ p (jza l p x0) x6.1=true)->(fk (decide ((((jza l p x0).dep+((x6.1:Nat):Int)):Int)<(jza l p x0).arr)) (((ac (.cells false 0 jz6))/\(ac (.cells true 0 (jz0 p)))/\(ac (.cells true 1 (p.land.flatMap af)))/\(ac (.cells false 0 (p.cts.flatMap chC)))/\(ac (.cells true 1 (p.chan.flatMap af)))/\(ac (.cells true 2 (p.shp.th.flatMap ptC)))/\(ac (.cells true 2 (p.shp.wa.flatMap ptC)))/\(ac (.cells true 2 (p.shp.ic.flatMap ptC)))/\(ac (.map (knE x6.2.1)))/\True)/\(∀H':Heap,H'.length=12->(H'[0]?=some (.cells false 0 jz6:aa)/\H'[7]?=some (.cells true 0 (jz0 p):aa)/\H'[1]?=some (.cells true 1 (p.land.flatMap af):aa)/\H'[2]?=some (.cells false 0 (p.cts.flatMap chC):aa)/\H'[3]?=some (.cells true 1 (p.chan.flatMap af):aa)/\H'[4]?=some (.cells true 2 (p.shp.th.flatMap ptC):aa)/\H'[5]?=some (.cells true 2 (p.shp.wa.flatMap ptC):aa)/\H'[6]?=some (.cells true 2 (p.shp.ic.flatMap ptC):aa)/\H'[8]?=some (.map (knE x6.2.1):aa)/\True)->ad prog 119 [pt 7,nI (jza l p x0).to,nI ((jza l p x0).dep+((x6.1:Nat):Int))] H' [8] (fun y H2 => ∃z:ab (sfP p),True/\y=nI (jz5 p l x0 x6)/\H2=(List.set H' 8 (.map (knE z.1):aa))))/\∀r7:ab (sfP p),True->(nw ((jz5 p l x0 x6)-(jza l p x0).spd) (fk (decide ((((jz5 p l x0 x6)-(jza l p x0).spd):Int)<0)) (∃x:ab (sfP p),True/\true=true/\wk (.tuple #[nI 0,nI 0,nI 51]:Value) (jz8 p l)/\((kbq 10 (.map (knE r7.1)) (.map (knE x.1)))/\True)/\True) (nw (((jza l p x0).dep+((x6.1:Nat):Int))+1) (∃x6':Nat×ab (sfP p),(x6'.1<=lgN (jza l p x0)/\iJ p (jza l p x0) x6'.1=true)/\(lgN (jza l p x0)-x6'.1)<(lgN (jza l p x0)-x6.1)/\true=true/\((nI (((jza l p x0).dep+((x6.1:Nat):Int))+1):Value)=nI ((jza l p x0).dep+((x6'.1:Nat):Int))/\(nI (if (((jz5 p l x0 x6)-(jza l p x0).spd):Int)<(hJ p (jza l p x0) (acM p l x0.1) x6.1) then (((jz5 p l x0 x6)-(jza l p x0).spd):Int) else (hJ p (jza l p x0) (acM p l x0.1) x6.1)):Value)=nI (hJ p (jza l p x0) (acM p l x0.1) x6'.1)/\jzb l p x0)/\((kbq 12 (.map (knE r7.1)) (.map (knE x6'.2.1)))/\True)/\(True)/\True))))) (nw (((x0.1:Nat):Int)+1) (∃x0':Nat×ab (sfP p),(x0'.1<=List.length l/\cd (acU p l) x0'.1=0)/\(List.length l-x0'.1)<(List.length l-x0.1)/\true=true/\((nI (((x0.1:Nat):Int)+1):Value)=nI ((x0'.1:Nat):Int)/\(nI (jza l p x0).to:Value)=nI (acC p l x0'.1)/\(nI (jza l p x0).arr:Value)=nI (acT l x0'.1)/\(nI (hJ p (jza l p x0) (acM p l x0.1) x6.1):Value)=nI (acM p l x0'.1)/\eR (pt 7)/\wR (slQ 9 2 l.length)/\eR (nI (jze l))/\True)/\((kbq 10 (.map (knE x6.2.1)) (.map (knE x0'.2.1)))/\True)/\(True)/\True))))))))))))))) (fk (((acC p l x0.1):Int) != p.to) (jz1 p l x0) (∃x:ab (sfP p),True/\true=true/\wk (.tuple #[nI (acT l x0.1),nI (acM p l x0.1),nI 0]:Value) (jz8 p l)/\((kbq 10 (.map (knE x0.2.1)) (.map (knE x.1)))/\True)/\True)))))
abbrev jz7(p:Pl)(K0:ab (sfP p))(l:List Leg):=aG [.cells false 0 jz6,.cells true 1 (p.land.flatMap af),.cells false 0 (p.cts.flatMap chC),.cells true 1 (p.chan.flatMap af),.cells true 2 (p.shp.th.flatMap ptC),.cells true 2 (p.shp.wa.flatMap ptC),.cells true 2 (p.shp.ic.flatMap ptC),.cells true 0 (jz0 p),.map (knE K0.1),.cells true 4 (l.flatMap lgC)]
abbrev jz9:Hint:=.keep (.again [])
abbrev jz4(p:Pl)(x0:Nat×ab (sfP p)):List (Nat×aa):=[(0,.cells false 0 jz6),(7,.cells true 0 (jz0 p)),(1,.cells true 1 (p.land.flatMap af)),(2,.cells false 0 (p.cts.flatMap chC)),(3,.cells true 1 (p.chan.flatMap af)),(4,.cells true 2 (p.shp.th.flatMap ptC)),(5,.cells true 2 (p.shp.wa.flatMap ptC)),(6,.cells true 2 (p.shp.ic.flatMap ptC)),(8,.map (knE x0.2.1))]
theorem Es(p:Pl)(l:List Leg)(K0:ab (sfP p)):vF prog msk (dm 0) 100000 true 40 true 57 [pt 7,slQ 9 2 l.length] (jz7 p K0 l) (some [8])
 (.go 5 (.fork (.go 2 jz9) (.go 10 (.inv 3 (Nat×ab (sfP p)) ((jzc p K0)) [] [8] (fun x0=>[(24,nI ((x0.1:Nat):Int)),(7,nI (acC p l x0.1)),(8,nI (acT l x0.1)),(9,nI (acM p l x0.1)),(0,pt 7),(22,slQ 9 2 l.length),(23,nI (jze l))]) (fun x0=>[(8,true,.map (knE x0.2.1))]) (fun x0=>[]) (fun x0=>[]) (fun x0=>(x0.1<=List.length l/\cd (acU p l) x0.1=0)) (fun x0=>(List.length l-x0.1)) (fun x0 => .go 0 (.fork (.need (.val (.agg #[nI (jza l p x0).to,nI (jza l p x0).dep,nI (jza l p x0).spd,nI (jza l p x0).arr]) (.go 5 (.ans (jz4 p x0) (slQ 11 1 (bsP p (acC p l x0.1)).length) [.cells true 1 ((bsP p (acC p l x0.1)).flatMap bc)] (.ans [(0,.cells false 0 jz6),(11,.cells true 1 ((bsP p (acC p l x0.1)).flatMap bc))] (.bool (ctI (bsP p (acC p l x0.1)) (jza l p x0).to)) [] (.go 1 (.aM (.go 11 jz9) (.go 5 (.aM (.go 9 jz9) (.go 1 (.ans [] (.bool (inB (jza l p x0).spd 10 250)) [] (.go 2 (.aM (.go 7 jz9) (.go 6 (.aM (.go 5 jz9) (.go 4 (.slot 60 (nI ((jza l p x0).arr-(jza l p x0).dep)) (.go 2 (.ans (jz4 p x0) (nI (tkP p (jza l p x0).spd)) [] (.go 2 (.fork (.go 2 jz9) (.go 7 (.fork (.go 2 jz9) (.go 4 (.cg (jz4 p x0) [8] (ab (sfP p)) (fun r5=>True) (fun r5 => .bool (wtB p (acC p l x0.1) (acT l x0.1) (jza l p x0).dep)) (fun r5=>[(8,.map (knE r5.1))]) (fun r5=>[]) (fun r5 => .go 1 (.fork (.go 2 jz9) (.go 2 (.inv 3 (Nat×ab (sfP p)) ((jzd p r5)) [] [8] (fun x6=>[(12,nI ((jza l p x0).dep+((x6.1:Nat):Int))),(9,nI (hJ p (jza l p x0) (acM p l x0.1) x6.1)),(23,nI (jze l)),(22,slQ 9 2 l.length),(0,pt 7),(8,nI (acT l x0.1)),(7,nI (acC p l x0.1)),(24,nI ((x0.1:Nat):Int)),(11,pt 10)]) (fun x6=>[(8,true,.map (knE x6.2.1))]) (fun x6=>[]) (fun x6=>[]) (fun x6=>(x6.1<=lgN (jza l p x0)/\iJ p (jza l p x0) x6.1=true)) (fun x6=>(lgN (jza l p x0)-x6.1)) (fun x6 => .go 3 (.fork (.go 5 (.cg [(0,.cells false 0 jz6),(7,.cells true 0 (jz0 p)),(1,.cells true 1 (p.land.flatMap af)),(2,.cells false 0 (p.cts.flatMap chC)),(3,.cells true 1 (p.chan.flatMap af)),(4,.cells true 2 (p.shp.th.flatMap ptC)),(5,.cells true 2 (p.shp.wa.flatMap ptC)),(6,.cells true 2 (p.shp.ic.flatMap ptC)),(8,.map (knE x6.2.1))] [8] (ab (sfP p)) (fun r7=>True) (fun r7=>nI (jz5 p l x0 x6)) (fun r7=>[(8,.map (knE r7.1))]) (fun r7=>[]) (fun r7 => .go 0 (.slot 98 (nI ((jz5 p l x0 x6)-(jza l p x0).spd)) (.go 2 (.fork (.go 2 jz9) (.go 5 (.slot 90 (nI (((jza l p x0).dep+((x6.1:Nat):Int))+1)) (.go 0 (.again [])))))))))) (.go 6 (.slot 108 (nI (((x0.1:Nat):Int)+1)) (.go 0 (.again []))))))))))))))))))))))))))))))))))) (.go 6 (.fork (.go 2 jz9) (.go 4 jz9)))))))))
 (cK (α:=ab (sfP p)) ((jz7 p K0 l):HT).n 3 [8] (fun x=>True) (fun x => .tuple #[nI (dH p l),nI (dI p l),nI (cn p l)]) (fun x=>[(8,true,.map (knE x.1))]) (fun x=>[]))=yc p l K0:=by kernel_rfl
theorem iZ(f:Int->Bool):∀(n:Nat) (lo hi:Int),lo<=hi->lo<=bsG f n lo hi/\bsG f n lo hi<=hi
 |0,lo,hi,h=>⟨Int.le_refl _,h⟩
 |n+1,lo,hi,h=>by
  unfold bsG
  by_cases q:lo<hi
  ·rw[if_pos q]
   have hd:0<=Int.tdiv (hi-lo+1) 2/\Int.tdiv (hi-lo+1) 2<=hi-lo/\1<=Int.tdiv (hi-lo+1) 2:=by
    rw[Int.tdiv_eq_ediv_of_nonneg (by omega)];omega
   by_cases g:f (lo+Int.tdiv (hi-lo+1) 2)=true
   ·rw[if_pos g]
    have:=iZ f n (lo+Int.tdiv (hi-lo+1) 2) hi (by omega)
    omega
   ·rw[if_neg g]
    have:=iZ f n lo (lo+Int.tdiv (hi-lo+1) 2-1) (by omega)
    omega
  ·rw[if_neg q];exact ⟨Int.le_refl _,h⟩
theorem Bj(s:Shp)(x:Ice)(ch:Bool):0<=(goS s x ch).1/\(goS s x ch).1<=250:=by
 unfold goS grG
 split
 ·have:=iZ (mbB s x ch) (Int.toNat (250-10)) 10 250 (by omega)
  exact ⟨by omega,this.2⟩
 ·exact ⟨Int.le_refl _,by decide⟩
theorem zN(p:Pl)(c t:Int):0<=sfP p c t/\sfP p c t<=250:=by
 unfold sfP sfX
 split
 ·split
  ·unfold sfS
   split
   ·exact ⟨Int.le_refl _,by decide⟩
   ·split
    ·exact ⟨Int.le_refl _,by decide⟩
    ·exact Bj _ _ _
  ·exact ⟨Int.le_refl _,(by decide:(0:Int)<=250)⟩
 ·exact ⟨Int.le_refl _,(by decide:(0:Int)<=250)⟩
theorem uz{p:Pl}{c t:Int}{x:Leg}(h:acE p c t x=0):acB p c t x=true/\x.arr<=endP p/\wtB p c t x.dep=true/\iJ p x (lgN x)=true:=by
 unfold acE at h
 by_cases a:acB p c t x=false
 ·rw[if_pos a]at h;exact absurd h (by decide)
 rw[if_neg a]at h
 by_cases b:endP p<x.arr
 ·rw[if_pos b]at h;exact absurd h (by decide)
 rw[if_neg b]at h
 by_cases d:wtB p c t x.dep=false
 ·rw[if_pos d]at h;exact absurd h (by decide)
 rw[if_neg d]at h
 by_cases e:iJ p x (lgN x)=false
 ·rw[if_pos e]at h;exact absurd h (by decide)
 exact ⟨by simpa using a,Int.not_lt.1 b,by simpa using d,by simpa using e⟩
theorem rH{p:Pl}{c t:Int}{x:Leg}(h1:acB p c t x=true)(h2:x.arr<=endP p)(h3:wtB p c t x.dep=true)(h4:iJ p x (lgN x)=true):acE p c t x=0:=by
 unfold acE
 rw[if_neg (by rw[h1];decide),if_neg (by omega),if_neg (by rw[h3];decide),if_neg (by rw[h4];decide)]
theorem fu{p:Pl}{c t:Int}{x:Leg}:acB p c t x=true ↔ ctI (bsP p c) x.to=true/\t<=x.dep/\inB x.spd 10 250=true/\x.dep<=x.arr/\x.arr-x.dep=tkP p x.spd:=by
 unfold acB;simp only[Bool.and_eq_true,Bool.not_eq_true',decide_eq_false_iff_not,beq_iff_eq,Int.not_lt]
theorem GL{p:Pl}{c t:Int}{x:Leg}(h:¬ (ctI (bsP p c) x.to=true/\t<=x.dep/\inB x.spd 10 250=true/\x.dep<=x.arr/\x.arr-x.dep=tkP p x.spd)):acB p c t x=false:=by
 cases e:acB p c t x
 ·rfl
 ·exact absurd (fu.1 e) h
theorem ru{l:List Int}{x:Int}(h:ctI l x=true):x∈l:=by
 unfold ctI at h
 rw[List.any_eq_true]at h
 obtain ⟨y,hy,e⟩:=h
 rw[<- eq_of_beq e];exact hy
theorem mq{e:Nat->Int}:∀{n:Nat},(∀i,i<n->e i=0)->cd e n=0
 |0,_=>rfl
 |n+1,h=>fM (mq fun i hi=>h i (by omega)) (h n (by omega))
theorem acS{p:Pl}(o:bG p){l:List Leg}:∀{k:Nat},cd (acU p l) k=0->(0<=acC p l k/\acC p l k<(p.land.length:Int))/\0<=acT l k
 |0,_=>⟨(gV o.frm).1,Int.le_refl 0⟩
 |k+1,h=>by
  have ih:=acS o (l:=l) (k:=k) (mq fun i hi=>dX h i (by omega))
  have e:=uz (dX h k (Nat.lt_succ_self k))
  have b:=fu.1 e.1
  refine ⟨(jX o ih.1 (ru b.1)).1,?_⟩
  show 0<=(l.getD k zL).arr
  have:=b.2.1;have:=b.2.2.2.1;have:=ih.2
  omega
theorem DY{p:Pl}{l:List Leg}{k:Nat}(hl:l.length<=300)(h0:cd (acU p l) k=0)(hk:k<l.length){v:Int}(hv:v≠0)(h:acU p l k=v):dH p l=0/\dI p l=0/\cn p l=v:=by
 have e:cn p l=v:=by
  unfold cn
  rw[if_neg (by omega),ud h0 (by rw[h];exact hv) hk,h,eA hv]
 refine ⟨?_,?_,e⟩
 ·unfold dH;rw[e,if_neg hv]
 ·unfold dI;rw[e,if_neg hv]
theorem yD{p:Pl}{x:Leg}{n:Nat}:iJ p x (n+1)=(iJ p x n && !decide (acD p x n<0)):=by
 unfold iJ;rw[List.range_succ,List.all_append];simp
theorem CJ{p:Pl}{x:Leg}{n k:Nat}(h:k<n)(e:decide (acD p x k<0)=true):iJ p x n=false:=iG h (by rw[e];rfl)
abbrev GK(p:Pl)(K:ab (sfP p))(l:List Leg):List aa:=wOs p K ++ [.cells true 4 (l.flatMap lgC)]
theorem D4(p:Pl)(K:ab (sfP p))(l:List Leg):(GK p K l).all (am 3)=true:=by
 rw[List.all_append,jE]
 have i1:am 3 (.cells true 4 (l.flatMap lgC))=true:=(ed (σ:=fun _=>none) (d:=0) (bu 0 l)).2
 show (true&&(am 3 (.cells true 4 (l.flatMap lgC))&&true))=true
 rw[i1];rfl
theorem xm{p:Pl}(o:bG p){K:ab (sfP p)}{l:List Leg}(hr:∀j,j<l.length->(l.getD j zL).arr<=9223372036854775807)(hl0:l.length<=1000000){H:Heap}{l' c' n t' w i W m L:Nat}(a:i7 H p K l' c' n t' w i W m)
  (hnd:[0,l',c',n,t',w,i,W,m,L].Nodup) (h1:H[L]?=some (.cells true 4 (l.flatMap lgC))) :
  ad prog 57 [pt W,slQ L 2 l.length] H [m] (fun y H2 => ∃z:ab (sfP p),True/\y = .tuple #[nI (dH p l),nI (dI p l),nI (cn p l)]/\H2=H.set m (.map (knE z.1))):=by
 have i2:∀σ,rno σ 3 (.cells true 4 (l.flatMap lgC)) = .cells true 4 (l.flatMap lgC):=fun σ=>congrArg (aa.cells true 4) (ed (d:=0) (bu 0 l)).1
 have hi:cR H (sgI [0,l',c',n,t',w,i,W,m,L]) [0,l',c',n,t',w,i,W,m,L] (GK p K l):=by
  obtain ⟨_,a0,a1,a2,a3,a4,a5,a6,a7,a8⟩:=a
  exact ⟨a0,by rw[dB];exact a1,by rw[nX];exact a2,by rw[dB];exact a3,by rw[cJ];exact a4,by rw[cJ];exact a5,by rw[cJ];exact a6,a7,by rw[(plM K.1).rn];exact a8,by rw[i2];exact h1,trivial⟩
 have key:=lI (α:=ab (sfP p)) (I:=fun _=>True) (os:=GK p K l) (fun _ _ => .tuple #[nI (dH p l),nI (dI p l),nI (cn p l)]) (chg:=fun x=>[(8,true,.map (knE x.1))]) (new:=fun _=>[]) (ks:=[8])
  (Eq.mpr (Es p l K) ?_) (D4 p K l) (fun k hk=>by obtain rfl:=List.mem_singleton.1 hk;exact ⟨_,rfl,rfl⟩) (fun _ _=>rfl) (fun x _=>⟨⟨List.mem_singleton.2 rfl,plM x.1⟩,trivial⟩) (fun _ _=>trivial) hnd hi rfl (fun _ _ _=>rfl) rfl (ms:=[m]) rfl
 ·refine key.post ?_
  rintro y H2 ⟨x,_,rfl,rfl⟩
  exact ⟨x,trivial,rfl,List.append_nil _⟩
 have hct:=o.cts
 have he:endP p<=288:=by unfold endP;omega
 delta yc jze jz8 jzc jza jz3 jz2 jz6 jz1 jzd jzb jz0 jz5 nI slQ pt ac fk nw eR wR kbq ixq c0q c2q
 refine ⟨fun q =>?_,fun q =>?_⟩
 ·have h:=of_decide_eq_true q
  have e:cn p l=2:=if_pos (by omega)
  have e1:dH p l=0:=by unfold dH;rw[e];rfl
  have e2:dI p l=0:=by unfold dI;rw[e];rfl
  rw[e,e1,e2]
  exact ⟨K,trivial,rfl,ae _,⟨⟨rfl,knB _ _⟩,trivial⟩,trivial⟩
 have hl:l.length<=300:=by have:=of_decide_eq_false q;omega
 refine ⟨rfl,⟨Nat.zero_le _,rfl⟩,⟨rfl,⟨rfl,rfl,rfl,rfl,rfl,ae _,rfl,trivial⟩,⟨⟨rfl,knB _ _⟩,trivial⟩,trivial,trivial⟩,fun _=>rfl,fun x hx=>⟨fun k =>?_,fun k =>?_⟩⟩
 ·have hk:x.1<l.length:=by have:=of_decide_eq_true k;omega
  have hs:=acS o hx.2
  have hra:=hr x.1 hk
  have bad:∀{v:Int} (z:ab (sfP p)),v≠0->acU p l x.1=v->∃y:ab (sfP p),True/\true=true/\wk (.tuple #[nI 0,nI 0,nI v]) (rn (sg 10 []) 3 (.tuple #[nI (dH p l),nI (dI p l),nI (cn p l)]))/\((some (aa.map (knE z.1))=some (.map (knE y.1))/\cu 10 (.map (knE y.1))=true)/\True)/\True:=by
   intro v z hv e
   obtain ⟨e1,e2,e3⟩:=DY hl hx.2 hk hv e
   rw[e1,e2,e3]
   exact ⟨z,trivial,rfl,ae _,⟨⟨rfl,knB _ _⟩,trivial⟩,trivial⟩
  have BL:(¬ (ctI (bsP p (acC p l x.1)) (l.getD x.1 zL).to=true/\acT l x.1<=(l.getD x.1 zL).dep/\inB (l.getD x.1 zL).spd 10 250=true/\(l.getD x.1 zL).dep<=(l.getD x.1 zL).arr/\(l.getD x.1 zL).arr-(l.getD x.1 zL).dep=tkP p (l.getD x.1 zL).spd))->acU p l x.1=50:=fun h=>if_pos (GL h)
  refine ⟨by omega,qA hk (by omega),⟨rfl,rfl,rfl,rfl,rfl,rfl,rfl,rfl,rfl,trivial⟩,fun H' hn h=>hn ▸ ky o hs.1 (eG h),⟨rfl,rfl,trivial⟩,fun H' hn h=>Ia _ (Nat.le_trans (ft _ _) (by decide)) (by decide) h.1 h.2.1,fun q1 =>?_,fun q1=>⟨fun q2 =>?_,fun q2=>⟨trivial,fun H' hn _=>yQ _ _ _ (by omega),fun q3 =>?_,fun q3=>⟨fun q4 =>?_,fun q4 =>?_⟩⟩⟩⟩
  ·exact bad _ (by decide) (BL fun h=>absurd (kl q1) (by rw[h.1];decide))
  ·exact bad _ (by decide) (BL fun h=>by have:=of_decide_eq_true q2;have:=h.2.1;omega)
  ·exact bad _ (by decide) (BL fun h=>absurd (kl q3) (by rw[h.2.2.1];decide))
  ·exact bad _ (by decide) (BL fun h=>by have:=of_decide_eq_true q4;have:=h.2.2.2.1;omega)
  have hc:=dL q1
  have hto:=(jX o hs.1 (ru hc)).1
  have hd:=of_decide_eq_false q2
  have hsp:=aR.1 (dL q3)
  have har:=of_decide_eq_false q4
  have hT:=hs.2
  refine ⟨ak (by omega),⟨rfl,rfl,rfl,rfl,rfl,rfl,rfl,rfl,rfl,trivial⟩,fun H' hn h=>qV o (by omega) (eG h),fun q5 =>?_,fun q5=>⟨fun q6 =>?_,fun q6 =>?_⟩⟩
  ·exact bad _ (by decide) (BL fun h=>u4 q5 h.2.2.2.2)
  all_goals have hB:acB p (acC p l x.1) (acT l x.1) (l.getD x.1 zL)=true:=fu.2 ⟨hc,by omega,dL q3,by omega,by simpa using q5⟩
  ·refine bad _ (by decide) ?_
   show acE _ _ _ _=12
   unfold acE
   rw[if_neg (by rw[hB];decide),if_pos (of_decide_eq_true q6)]
  have hen:=of_decide_eq_false q6
  refine ⟨⟨rfl,rfl,rfl,rfl,rfl,rfl,rfl,rfl,rfl,trivial⟩,fun H' hn h=>qU o hs.1 hT (by omega) (eG h),fun r5 _=>⟨fun q7 =>?_,fun q7 =>?_⟩⟩
  ·refine bad _ (by decide) ?_
   show acE _ _ _ _=51
   unfold acE
   rw[if_neg (by rw[hB];decide),if_neg hen,if_pos (kl q7)]
  refine ⟨rfl,⟨Nat.zero_le _,rfl⟩,⟨rfl,⟨iEq (by show _=_+((0:Nat):Int);omega),rfl,rfl,ae _,rfl,rfl,rfl,rfl,rfl,trivial⟩,⟨⟨rfl,knB _ _⟩,trivial⟩,trivial,trivial⟩,fun _=>rfl,fun y hy=>⟨fun k2 =>?_,fun k2 =>?_⟩⟩
  ·have hk2:=of_decide_eq_true k2
   have hy1:y.1<lgN (l.getD x.1 zL):=by unfold lgN;omega
   have hb:=zN p (l.getD x.1 zL).to (Int.tdiv ((l.getD x.1 zL).dep+(y.1:Int)) 6)
   refine ⟨⟨rfl,rfl,rfl,rfl,rfl,rfl,rfl,rfl,rfl,trivial⟩,fun H' hn h=>td o hto (by omega) (eG h),fun r7 _=>⟨ak (by omega),fun q8 =>?_,fun q8 =>?_⟩⟩
   ·refine bad _ (by decide) ?_
    show acE _ _ _ _=51
    unfold acE
    rw[if_neg (by rw[hB];decide),if_neg hen,if_neg (by rw[dL q7];decide),if_pos (CJ hy1 q8)]
   ·have hyl:y.1+1<=lgN (l.getD x.1 zL):=hy1
    refine ⟨ak (by omega),(y.1+1,r7),⟨hyl,by show iJ p _ (y.1+1)=true;rw[yD,hy.2,show decide (acD p (l.getD x.1 zL) y.1<0)=false from q8];rfl⟩,by show _-(y.1+1)<_-y.1;omega,rfl,⟨iEq (by show _=_+((y.1+1:Nat):Int);omega),rfl,rfl,ae _,rfl,rfl,rfl,rfl,rfl,trivial⟩,⟨⟨rfl,knB _ _⟩,trivial⟩,trivial,trivial⟩
  ·have hk2:=of_decide_eq_false k2
   have hyl:y.1<=lgN (l.getD x.1 zL):=hy.1
   have hyn:y.1=lgN (l.getD x.1 zL):=by unfold lgN at hyl ⊢;omega
   refine ⟨ak (by omega),(x.1+1,y.2),⟨hk,fM hx.2 (rH hB (by omega) (dL q7) (hyn ▸ hy.2))⟩,by show _-(x.1+1)<_-x.1;omega,rfl,⟨rfl,rfl,rfl,by rw[hyn];rfl,rfl,ae _,rfl,trivial⟩,⟨⟨rfl,knB _ _⟩,trivial⟩,trivial,trivial⟩
 ·have hk:=of_decide_eq_false k
  have hxl:x.1<=l.length:=hx.1
  have hn:x.1=l.length:=by omega
  have hu:=hx.2
  rw[hn]at hu
  have hE:cn p l=if acC p l l.length=p.to then 0 else 50:=by unfold cn;rw[if_neg (by omega),bI hu]
  refine ⟨fun q1 =>?_,fun q1 =>?_⟩
  ·have e:cn p l=50:=hE.trans (if_neg (by rw[<- hn];exact u4 q1))
   have e1:dH p l=0:=by unfold dH;rw[e];rfl
   have e2:dI p l=0:=by unfold dI;rw[e];rfl
   rw[e,e1,e2]
   exact ⟨x.2,trivial,rfl,ae _,⟨⟨rfl,knB _ _⟩,trivial⟩,trivial⟩
  ·have e:cn p l=0:=hE.trans (if_pos (by rw[<- hn];simpa using q1))
   have e1:dH p l=acT l x.1:=by unfold dH;rw[e,hn];rfl
   have e2:dI p l=acM p l x.1:=by unfold dI;rw[e,hn];rfl
   rw[e,e1,e2]
   exact ⟨x.2,trivial,rfl,ae _,⟨⟨rfl,knB _ _⟩,trivial⟩,trivial⟩
def GLe(G G':List (List Bool)):Prop:=∀t j:Nat,(G.getD t []).getD j false=true->(G'.getD t []).getD j false=true
theorem GLe.refl(G:List (List Bool)):GLe G G:=fun _ _ h=>h
theorem GLe.trans{A B C:List (List Bool)}(h:GLe A B)(g:GLe B C):GLe A C:=fun t j q=>g t j (h t j q)
theorem wS(G:List (List Bool))(a c:Int):GLe G (dc G a c):=fun t j h=>by
 unfold dc
 by_cases ha:Int.toNat a<G.length
 ·rw[c7 ha]
  by_cases e:t=Int.toNat a
  ·rw[if_pos e]
   by_cases hc:Int.toNat c<(G.getD (Int.toNat a) []).length
   ·rw[c7 hc]
    by_cases f:j=Int.toNat c
    ·rw[if_pos f]
    ·rw[if_neg f,<- e];exact h
   ·rw[List.set_eq_of_length_le (by omega),<- e];exact h
  ·rw[if_neg e];exact h
 ·rw[List.set_eq_of_length_le (by omega)];exact h
theorem qx{G:List (List Bool)}{a c:Int}(ha:Int.toNat a<G.length)(hc:Int.toNat c<(G.getD (Int.toNat a) []).length):((dc G a c).getD (Int.toNat a) []).getD (Int.toNat c) false=true:=by
 unfold dc
 rw[c7 ha,if_pos rfl,c7 hc,if_pos rfl]
theorem iH:∀(l:List Leg) (G:List (List Bool)),GLe G (bU G l)
 | [],G=>GLe.refl G
 |x :: l,G=>(wS G x.arr x.to).trans (iH l (dc G x.arr x.to))
theorem sL{N n:Nat}:∀{l:List Leg} {G:List (List Bool)},GOk N n G->∀{x:Leg},x∈l->Int.toNat x.arr<N->Int.toNat x.to<n->((bU G l).getD (Int.toNat x.arr) []).getD (Int.toNat x.to) false=true
 | [],_,_,_,h,_,_=>absurd h (by simp)
 |y :: l,G,g,x,h,ha,hc=>by
  rcases List.mem_cons.1 h with e|h
  ·subst e
   exact iH l (dc G x.arr x.to) _ _ (qx (by rw[g.gl];exact ha) (by rw[g.rl _ ha];exact hc))
  ·exact sL (l:=l) (g.dc y.arr y.to) h ha hc
theorem GA(p:Pl)(t j:Nat)(G:List (List Bool)):GLe G (cSt p t j G):=by
 unfold cSt
 by_cases w:wtB p (j:Int) (t:Int) ((t:Int)+1)=true
 ·rw[if_pos w];exact (wS _ _ _).trans (iH _ _)
 ·rw[if_neg w];exact iH _ _
theorem BE{p:Pl}{t:Nat}{G:List (List Bool)}(j:Nat):GLe (cTo p t G j) (cTo p t G (j+1)):=by
 show GLe _ (if _ then _ else _)
 by_cases q:(G.getD t []).getD j false=true
 ·rw[if_pos q];exact GA _ _ _ _
 ·rw[if_neg q];exact GLe.refl _
theorem wc{p:Pl}{t:Nat}{G:List (List Bool)}{i:Nat}:∀{j:Nat},i<=j->GLe (cTo p t G i) (cTo p t G j)
  | 0, h => by obtain rfl : i = 0 := by omega
               exact GLe.refl _
  | j + 1, h => by
    by_cases e:i=j+1
    · subst e;exact GLe.refl _
    · exact (wc (j:=j) (by omega)).trans (BE j)
theorem vZ{p:Pl}{a:Nat}:∀{b:Nat},a<=b->GLe (gTo p a) (gTo p b)
  | 0, h => by obtain rfl : a = 0 := by omega
               exact GLe.refl _
  | b + 1, h => by
    by_cases e:a=b+1
    · subst e;exact GLe.refl _
    · exact (vZ (b:=b) (by omega)).trans (wc (i:=0) (Nat.zero_le _))
theorem DT{p:Pl}{t j u:Nat}{G:List (List Bool)}(hu:u<=t):(cSt p t j G).getD u []=G.getD u []:=by
 have one:∀(G:List (List Bool)) (a c:Int),(t:Int)<a->(dc G a c).getD u []=G.getD u []:=fun G a c ha=>by
  unfold dc
  by_cases h:Int.toNat a<G.length
  ·rw[c7 h,if_neg (by omega)]
  ·rw[List.set_eq_of_length_le (by omega)]
 have many:∀(l:List Leg) (G:List (List Bool)),(∀x∈l,(t:Int)<x.arr)->(bU G l).getD u []=G.getD u []:=fun l=>by
  induction l with
  |nil=>intro G _;rfl
  |cons x l ih =>
   intro G h
   exact (ih (dc G x.arr x.to) fun y hy=>h y (List.mem_cons_of_mem _ hy)).trans (one G x.arr x.to (h x List.mem_cons_self))
 unfold cSt
 by_cases w:wtB p (j:Int) (t:Int) ((t:Int)+1)=true
 ·rw[if_pos w,many _ _ fun x hx=>(eU hx).2.2.1,one _ _ _ (by omega)]
 ·rw[if_neg w,many _ _ fun x hx=>(eU hx).2.2.1]
theorem rz{p:Pl}{t u:Nat}{G:List (List Bool)}(hu:u<=t):∀j,(cTo p t G j).getD u []=G.getD u []
 |0=>rfl
 |j+1=>by
  show (if _ then _ else _:List (List Bool)).getD u []=_
  by_cases q:(G.getD t []).getD j false=true
  ·rw[if_pos q,DT hu];exact rz hu j
  ·rw[if_neg q];exact rz hu j
theorem xu{p:Pl}{u:Nat}:∀{k m:Nat},u<=k->k<=m->(gTo p m).getD u []=(gTo p k).getD u []
  | k, 0, _, h => by obtain rfl : k = 0 := by omega
                     rfl
  | k, m + 1, hu, h => by
    by_cases e:k=m+1
    · subst e;rfl
    · exact (rz (by omega) _).trans (xu (k:=k) (m:=m) hu (by omega))
theorem wL{p:Pl}(o:bG p){t j:Nat}(ht:(t:Int)<endP p)(hj:j<p.land.length)(h:((tbP p).getD t []).getD j false=true) :
  ∃G,GOk (NT p) p.chan.length G/\GLe (cSt p t j G) (tbP p):=by
 have hct:=o.cts
 have he:t+1<=Int.toNat (endP p):=by omega
 have h':((gTo p t).getD t []).getD j false=true:=by
  rw[<- xu (p:=p) (u:=t) (k:=t) (m:=Int.toNat (endP p)) (Nat.le_refl _) (by omega)];exact h
 refine ⟨cTo p t (gTo p t) j,(GOk.gTo p t).cTo t j,?_⟩
 have hk:t<NT p:=by show t<Int.toNat (endP p+1);omega
 have hl:j+1<=((gTo p t).getD t []).length:=by rw[(GOk.gTo p t).rl t hk,o.chan];omega
 have e:cSt p t j (cTo p t (gTo p t) j)=cTo p t (gTo p t) (j+1):=by
  show _=(if _ then _ else _:List (List Bool))
  rw[if_pos h']
 rw[e]
 exact (wc hl).trans (vZ (a:=t+1) he)
theorem Ab{p:Pl}(o:bG p){t c:Int}(r:Rch p t c):t<=endP p->0<=t/\(0<=c/\c<(p.land.length:Int))/\((tbP p).getD (Int.toNat t) []).getD (Int.toNat c) false=true:=by
 have hch:=o.chan
 have hN:NT p=Int.toNat (endP p+1):=rfl
 induction r with
 |start =>
  intro h
  have hf:=(gV o.frm).1
  refine ⟨Int.le_refl _,hf,vZ (a:=0) (Nat.zero_le _) _ _ ?_⟩
  have g:GOk (NT p) p.chan.length (gTo p 0):=GOk.gTo p 0
  have hG:(List.replicate (NT p) (List.replicate p.chan.length false)).length=NT p:=List.length_replicate
  refine qx (by rw[hG];omega) ?_
  have h0:Int.toNat 0<NT p:=by omega
  rw[List.getD_eq_getElem?_getD,List.getElem?_replicate,if_pos h0]
  show Int.toNat p.frm<(List.replicate p.chan.length false).length
  rw[List.length_replicate];omega
 | @wait t c r w ht ih =>
  intro h
  obtain ⟨h0,hc,q⟩:=ih (by omega)
  refine ⟨by omega,hc,?_⟩
  have et:((Int.toNat t:Nat):Int)=t:=by omega
  have ec:((Int.toNat c:Nat):Int)=c:=by omega
  obtain ⟨G,g,le⟩:=wL o (t:=Int.toNat t) (j:=Int.toNat c) (by omega) (by omega) q
  refine le _ _ ?_
  unfold cSt
  rw[et,ec,if_pos w]
  refine iH _ _ _ _ (qx (by rw[g.gl];omega) ?_)
  rw[g.rl _ (by omega)];omega
 | @leg t c x r ht hx ih =>
  intro h
  obtain ⟨h0,hc,q⟩:=ih (by omega)
  have hm:=eU hx
  have hto:=(jX o hc hm.1).1
  refine ⟨by omega,hto,?_⟩
  have et:((Int.toNat t:Nat):Int)=t:=by omega
  have ec:((Int.toNat c:Nat):Int)=c:=by omega
  obtain ⟨G,g,le⟩:=wL o (t:=Int.toNat t) (j:=Int.toNat c) (by omega) (by omega) q
  refine le _ _ ?_
  unfold cSt
  rw[et,ec]
  refine sL (N:=NT p) (n:=p.chan.length) ?_ hx (by omega) (by omega)
  by_cases w:wtB p c t (t+1)=true
  ·rw[if_pos w];exact g.dc _ _
  ·rw[if_neg w];exact g
theorem jn{p:Pl}(o:bG p){t:Int}(r:Rch p t p.to)(h:t<=endP p):0<=bp p/\bp p<=t:=by
 obtain ⟨h0,hc,q⟩:=Ab o r h
 have hct:=o.cts
 have q':atB p (Int.toNat t)=true:=q
 have hl:=(Cv p).gl
 have hN:NT p=Int.toNat (endP p+1):=rfl
 rcases qd o with ⟨_,f⟩|⟨k,e,h1,h2,f⟩
 ·rw[f (Int.toNat t) (by omega)]at q';cases q'
 ·by_cases l:Int.toNat t<k
  ·rw[f (Int.toNat t) l]at q';cases q'
  ·omega
theorem sS(p:Pl)(to t:Int):∀n,bR p to t n<=250
 |0=>Int.le_refl _
 |n+1=>by
  show (if _ then _ else _)<=(250:Int)
  split
  ·exact (zN _ _ _).2
  ·exact sS p to t n
theorem xa(p:Pl)(to t:Int):∀{n j:Nat},j<n->bR p to t n<=sfP p to (Int.tdiv (t+(j:Int)) 6)
 |0,_,h=>absurd h (Nat.not_lt_zero _)
 |n+1,j,h=>by
  show (if _ then _ else _)<=sfP p to (Int.tdiv (t+(j:Int)) 6)
  by_cases e:j=n
  ·subst e
   split
   ·exact Int.le_refl _
   ·omega
  ·have:=xa p to t (n:=n) (j:=j) (by omega)
   split
   ·omega
   ·exact this
theorem Cw(p:Pl)(to t:Int)(n:Nat):spL p to t n<=bR p to t n:=by
 unfold spL
 split
 ·split
  ·omega
  ·exact Int.le_refl _
 ·exact Int.le_refl _
theorem Aj{p:Pl}{to t:Int}{n k:Nat}(h:okL p to t n=true)(hk:k<n):goB p to t (k+1)=true:=by
 unfold okL at h
 exact List.all_eq_true.1 h k (List.mem_range.2 hk)
theorem FW{p:Pl}{c t:Int}{x:Leg}(h:x∈lgP p c t):acE p c t x=0:=by
 have h':=h
 unfold lgP at h'
 obtain ⟨to,h1,h2⟩:=List.mem_flatMap.1 h'
 obtain ⟨k,h3,h4⟩:=jN h2
 obtain ⟨e1,e2,e3,e4,e5,e6⟩:=li h4
 have g:=Aj e5 (Nat.lt_succ_self k)
 unfold goB at g
 rw[Bool.and_eq_true,decide_eq_true_eq,decide_eq_true_eq]at g
 have l1:=Cw p to t (k+1)
 have l2:=sS p to t (k+1)
 have hct:ctI (bsP p c) x.to=true:=by
  unfold ctI
  rw[List.any_eq_true]
  exact ⟨x.to,by rw[e1];exact h1,beq_self_eq_true _⟩
 refine rH (fu.2 ⟨hct,by omega,aR.2 ⟨by omega,by omega⟩,by omega,by omega⟩) (by omega) ?_ ?_
 ·unfold wtB;rw[e2,show Int.toNat (t-t)=0 by omega];rfl
 ·have hn:lgN x=k+1:=by unfold lgN;omega
  unfold iJ
  rw[hn,List.all_eq_true]
  intro j hj
  have hj':=List.mem_range.1 hj
  have l3:=xa p to t (n:=k+1) (j:=j) hj'
  have:¬ acD p x j<0:=by unfold acD;rw[e1,e2,e4];omega
  rw[decide_eq_false this];rfl
theorem BQ{p:Pl}{c s t:Int}{x:Leg}(hs:s<=t)(w:wtB p c s x.dep=true)(h:acE p c t x=0):acE p c s x=0:=by
 obtain ⟨a,b,d,e⟩:=uz h
 obtain ⟨b1,b2,b3,b4,b5⟩:=fu.1 a
 exact rH (fu.2 ⟨b1,by omega,b3,b4,b5⟩) b w e
theorem mw(p:Pl)(c t:Int):wtB p c t t=true:=by
 unfold wtB;rw[show Int.toNat (t-t)=0 by omega];rfl
theorem my{p:Pl}{c s t:Int}(hs:s<=t)(w:wtB p c s t=true)(q:¬ sfP p c (Int.tdiv t 6)=0):wtB p c s (t+1)=true:=by
 unfold wtB at *
 rw[show Int.toNat (t+1-s)=Int.toNat (t-s)+1 by omega,oY,w,show s+((Int.toNat (t-s):Nat):Int)=t by omega]
 simpa using q
theorem wB{p:Pl}{c t:Int}(q:¬ sfP p c (Int.tdiv t 6)=0):wtB p c t (t+1)=true:=my (Int.le_refl t) (mw p c t) q
theorem xM{p:Pl}{l:List Leg}{x:Leg}{k:Nat}(h:k<=l.length):acC p (l ++ [x]) k=acC p l k:=by
 cases k with
 |zero=>rfl
 |succ k=>show ((l ++ [x]).getD k zL).to=(l.getD k zL).to;rw[List.getD_eq_getElem?_getD,List.getD_eq_getElem?_getD,List.getElem?_append_left (by omega)]
theorem xK{l:List Leg}{x:Leg}{k:Nat}(h:k<=l.length):acT (l ++ [x]) k=acT l k:=by
 cases k with
 |zero=>rfl
 |succ k=>show ((l ++ [x]).getD k zL).arr=(l.getD k zL).arr;rw[List.getD_eq_getElem?_getD,List.getD_eq_getElem?_getD,List.getElem?_append_left (by omega)]
theorem lz{l:List Leg}{x:Leg}:(l ++ [x]).getD l.length zL=x:=by
 rw[List.getD_eq_getElem?_getD,List.getElem?_append_right (Nat.le_refl _),Nat.sub_self];rfl
theorem D3{p:Pl}{l:List Leg}{x:Leg}{k:Nat}(h:k<l.length):acU p (l ++ [x]) k=acU p l k:=by
 unfold acU
 rw[xM (by omega),xK (by omega),List.getD_eq_getElem?_getD,List.getElem?_append_left h,<- List.getD_eq_getElem?_getD]
theorem D1{p:Pl}{l:List Leg}{x:Leg}(h:cd (acU p l) l.length=0)(e:acE p (acC p l l.length) (acT l l.length) x=0):cd (acU p (l ++ [x])) (l ++ [x]).length=0:=by
 rw[List.length_append,show l.length + [x].length=l.length+1 from rfl]
 refine fM (mq fun i hi=>by rw[D3 hi];exact dX h i hi) ?_
 unfold acU
 rw[xM (Nat.le_refl _),xK (Nat.le_refl _),lz]
 exact e
theorem D2{p:Pl}{l:List Leg}{x:Leg}:acC p (l ++ [x]) (l ++ [x]).length=x.to/\acT (l ++ [x]) (l ++ [x]).length=x.arr:=by
 rw[List.length_append,show l.length + [x].length=l.length+1 from rfl]
 exact ⟨by show ((l ++ [x]).getD l.length zL).to=_;rw[lz],by show ((l ++ [x]).getD l.length zL).arr=_;rw[lz]⟩
theorem GI{p:Pl}{l:List Leg}(hl:l.length<=300)(h:cd (acU p l) l.length=0)(e:acC p l l.length=p.to):cn p l=0/\dH p l=acT l l.length/\dI p l=acM p l l.length:=by
 have e0:cn p l=0:=by unfold cn;rw[if_neg (by omega),bI h,if_pos e]
 exact ⟨e0,by unfold dH;rw[if_pos e0],by unfold dI;rw[if_pos e0]⟩
structure Walk(p:Pl)(l:List Leg)(c t:Int):Prop where
 ok:cd (acU p l) l.length=0
 at_:acC p l l.length=c
 r0:Rch p (acT l l.length) c
 r:Rch p t c
 le:acT l l.length<=t
 w:wtB p c (acT l l.length) t=true
 e:t<=endP p
theorem Walk.start{p:Pl}(o:bG p):Walk p [] p.frm 0:=by
 have hct:=o.cts
 exact ⟨rfl,rfl,.start,.start,Int.le_refl _,mw p p.frm 0,by unfold endP;omega⟩
theorem Walk.wait{p:Pl}{l:List Leg}{c t:Int}(k:Walk p l c t)(h:t<endP p)(q:10<=sfP p c (Int.tdiv t 6)):Walk p l c (t+1):=by
 have q':¬ sfP p c (Int.tdiv t 6)=0:=by omega
 have:=k.le
 exact ⟨k.ok,k.at_,k.r0,.wait k.r (wB q') h,by omega,my k.le k.w q',by omega⟩
theorem Walk.leg{p:Pl}{l:List Leg}{c t:Int}{x:Leg}(k:Walk p l c t)(h:x∈lgP p c t):Walk p (l ++ [x]) x.to x.arr:=by
 have m:=eU h
 have a:=D2 (p:=p) (l:=l) (x:=x)
 have ht:t<endP p:=by omega
 have r':Rch p x.arr x.to:=.leg k.r ht h
 refine ⟨D1 k.ok ?_,a.1,by rw[a.2];exact r',r',by rw[a.2];omega,by rw[a.2];exact mw _ _ _,m.2.2.2⟩
 rw[k.at_]
 exact BQ k.le (by rw[m.2.1];exact k.w) (FW h)
theorem Walk.home{p:Pl}(o:bG p){l:List Leg}{t:Int}(hl:l.length<=300)(k:Walk p l p.to t):cn p l=0/\dH p l=acT l l.length/\b8 p=0/\cE p<=dH p l:=by
 have a:=GI hl k.ok k.at_
 have b:=jn o k.r0 (by have:=k.le;have:=k.e;omega)
 refine ⟨a.1,a.2.1,?_,?_⟩
 ·unfold b8;rw[if_neg (by omega)]
 ·unfold cE;rw[if_neg (by omega),a.2.1];omega
theorem Walk.cell{p:Pl}(o:bG p){l:List Leg}{c t:Int}(k:Walk p l c t):0<=t/\0<=c/\c<(p.land.length:Int):=by
 have:=Ab o k.r k.e
 exact ⟨this.1,this.2.1⟩
theorem xz{p:Pl}(o:bG p):6<=endP p/\endP p<=288:=by
 have:=o.cts
 unfold endP;omega
abbrev jn3:List Value:=[nI 4000,nI 8000,nI 14000,nI 24000,nI 40000,nI 90000]
abbrev jnn:aa:=.cells false 0 jn3
abbrev jn9(p:Pl):=p.land.flatMap af
abbrev jng(p:Pl):=p.cts.flatMap chC
abbrev jna(p:Pl):=p.chan.flatMap af
abbrev jnb(p:Pl):=p.shp.th.flatMap ptC
abbrev jnc(p:Pl):=p.shp.wa.flatMap ptC
abbrev jnd(p:Pl):=p.shp.ic.flatMap ptC
abbrev jn4(p:Pl):List Value:=[.agg #[nI p.w,nI p.h,slQ 1 2 p.land.length,slQ 2 2 p.cts.length,slQ 3 2 p.chan.length,nI p.shp.cls,nI p.shp.pow,nI p.shp.dra,nI p.shp.ton,slQ 4 2 p.shp.th.length,slQ 5 2 p.shp.wa.length,slQ 6 2 p.shp.ic.length,nI p.shp.slow,nI p.shp.aw,nI p.shp.rdg,nI p.shp.prs,nI p.size,nI p.frm,nI p.to]]
abbrev jn0(p:Pl):List Value:=[nI p.w,nI p.h,slQ 1 2 p.land.length,slQ 2 2 p.cts.length,slQ 3 2 p.chan.length,nI p.shp.cls,nI p.shp.pow,nI p.shp.dra,nI p.shp.ton,slQ 4 2 p.shp.th.length,slQ 5 2 p.shp.wa.length,slQ 6 2 p.shp.ic.length,nI p.shp.slow,nI p.shp.aw,nI p.shp.rdg,nI p.shp.prs,nI p.size,nI p.frm,nI p.to,nI (endP p),.map (some 9)]
abbrev jni(p:Pl):=knE (ab.nil (sfP p)).1
abbrev jn7(p:Pl):Int:=(p.chan.length:Nat)
abbrev jn8(p:Pl):Prop:=eR (.slice none 0 0)/\eR (nI 0)/\eR (pt 8)/\eR (pt 11)/\wR (slQ 12 1 (tbP p).length)/\eR (nI (((tbP p).length:Nat):Int))/\True
abbrev jnl:Prop:=(True)/\(True)
abbrev jne(p:Pl)(x2:Nat):Value:=.agg ⟨(((tbP p).getD x2 []).flatMap af)⟩
abbrev jn1(p:Pl)(x2:Nat):Prop:=eR (nI (((tbP p).length:Nat):Int))/\wR (slQ 12 1 (tbP p).length)/\eR (pt 11)/\eR (pt 8)/\eR (nI 0)/\eR (.slice none 0 0)/\eR (nI (x2:Int))/\(.iface (((tbP p).getD x2 []).length+1) (jne p x2):Value)=rn (sg 13 []) 3 (.iface (((tbP p).getD x2 []).length+1) (jne p x2):Value)/\(.iface (((tbP p).getD x2 []).length+1) (jne p x2):Value)=rn (sg 13 []) 3 (.iface (((tbP p).getD x2 []).length+1) (jne p x2):Value)/\eR (nI ((((tbP p).getD x2 []).length:Nat):Int))/\True
abbrev jn6(p:Pl)(x2 x3:Nat):=lb (eI p x2) ((tbP p).getD x2 []) x3
abbrev jnj(p:Pl):=rn (sg 7 [(7,13)]) 3 (.tuple #[slQ 7 1 (wlP p).length,nI (wlE p)]:Value)
abbrev jnh(p:Pl):Prop:=eR (pt 11)/\eR (pt 8)/\eR (nI 0)/\eR (.slice none 0 0)/\eR (nI (jn7 p))/\True
abbrev jn2(x3:Nat)(p:Pl):=nw ((x3:Int)+1) (∃x3':Nat,(x3'<=List.length (dq p))/\(List.length (dq p)-x3')<(List.length (dq p)-x3)/\true=true/\((nI ((x3:Int)+1):Value)=nI (x3':Int)/\wk (slQ 13 1 (eL p x3).length:Value) (slQ 13 1 (eL p x3').length:Value)/\jnh p)/\(True)/\((kbq 13 (.cells true 1 ((eL p x3).flatMap bc)) (.cells true 1 ((eL p x3').flatMap bc)))/\True)/\(True))
def Fi(p:Pl):Prop :=
 (((ac jnn)/\(ac (.cells true 1 (jn9 p)))/\(ac (.cells false 0 (jng p)))/\(ac (.cells true 1 (jna p)))/\(ac (.cells true 2 (jnb p)))/\(ac (.cells true 2 (jnc p)))/\(ac (.cells true 2 (jnd p)))/\True)/\(∀H':Heap,H'.length=8->(H'[0]?=some (.cells false 0 jn3:aa)/\H'[1]?=some (.cells true 1 (jn9 p):aa)/\H'[2]?=some (.cells false 0 (jng p):aa)/\H'[3]?=some (.cells true 1 (jna p):aa)/\H'[4]?=some (.cells true 2 (jnb p):aa)/\H'[5]?=some (.cells true 2 (jnc p):aa)/\H'[6]?=some (.cells true 2 (jnd p):aa)/\True)->ad prog 53 (jn4 p) H' [] (Is (.tuple #[pt 8,nI 0]) (H' ++ [(.cells true 0 (jn0 p):aa),(.map (jni p):aa)])))/\(((0:Int)<=(jn7 p)/\((jn7 p):Int)<=(jn7 p)/\((jn7 p):Int)<2 ^ 62/\1*((jn7 p):Int)<=2 ^ 48)/\(((ac jnn)/\(ac (.cells true 0 (jn0 p)))/\(ac (.cells true 1 (jn9 p)))/\(ac (.cells false 0 (jng p)))/\(ac (.cells true 1 (jna p)))/\(ac (.cells true 2 (jnb p)))/\(ac (.cells true 2 (jnc p)))/\(ac (.cells true 2 (jnd p)))/\(ac (.map (jni p)))/\True)/\(∀H':Heap,H'.length=12->(H'[0]?=some (.cells false 0 jn3:aa)/\H'[8]?=some (.cells true 0 (jn0 p):aa)/\H'[1]?=some (.cells true 1 (jn9 p):aa)/\H'[2]?=some (.cells false 0 (jng p):aa)/\H'[3]?=some (.cells true 1 (jna p):aa)/\H'[4]?=some (.cells true 2 (jnb p):aa)/\H'[5]?=some (.cells true 2 (jnc p):aa)/\H'[6]?=some (.cells true 2 (jnd p):aa)/\H'[9]?=some (.map (jni p):aa)/\True)->ad prog 59 [pt 8] H' [9] (fun y H2 => ∃z:ab (sfP p),True/\y=slQ 12 1 (tbP p).length/\H2=((List.set H' 9 (.map (knE z.1):aa)) ++ [(.cells true 1 (List.map dV (tbP p)):aa)])))/\(∀r1:ab (sfP p),True->(lq (0<=List.length (tbP p)) (true=true/\((nI 0:Value)=nI ((0:Nat):Int)/\jn8 p)/\((kbq 13 (.cells true 1 (cM [.bool false] p.chan.length)) (.cells true 1 ((eI p 0).flatMap af)))/\True)/\jnl) (∀x2:Nat,(x2<=List.length (tbP p))->(fk (decide (((x2:Int):Int)<(((tbP p).length:Nat):Int))) ((ixq (x2:Int) (tbP p).length)/\(((List.map dV (tbP p))[(0+Int.toNat (x2:Int)*1)]?=some (.iface (((tbP p).getD x2 []).length+1) (jne p x2)))/\(lq (0<=List.length ((tbP p).getD x2 [])) (true=true/\((nI 0:Value)=nI ((0:Nat):Int)/\jn1 p x2)/\((kbq 13 (.cells true 1 ((eI p x2).flatMap af)) (.cells true 1 ((lb (eI p x2) ((tbP p).getD x2 []) 0).flatMap af)))/\True)/\jnl) (∀x3:Nat,(x3<=List.length ((tbP p).getD x2 []))->(fk (decide (((x3:Int):Int)<((((tbP p).getD x2 []).length:Nat):Int))) ((ixq (x3:Int) ((tbP p).getD x2 []).length)/\(((((tbP p).getD x2 []).flatMap af)[(Int.toNat (x3:Int)*1)]?=some (.bool (((tbP p).getD x2 []).getD x3 false)))/\((ixq (x3:Int) p.chan.length)/\((((jn6 p x2 x3).flatMap af)[(0+Int.toNat (x3:Int)*1)]?=some (.bool ((jn6 p x2 x3).getD x3 false)))/\(fk ((jn6 p x2 x3).getD x3 false) ((ixq (x3:Int) p.chan.length)/\(((0+Int.toNat (x3:Int)*1)+1<=List.length ((jn6 p x2 x3).flatMap af))/\true=true/\(nw ((x3:Int)+1) (∃x3':Nat,(x3'<=List.length ((tbP p).getD x2 []))/\(List.length ((tbP p).getD x2 [])-x3')<(List.length ((tbP p).getD x2 [])-x3)/\true=true/\((nI ((x3:Int)+1):Value)=nI (x3':Int)/\jn1 p x2)/\((kbq 13 (.cells true 1 (ba ((jn6 p x2 x3).flatMap af) (0+Int.toNat (x3:Int)*1) [.bool true])) (.cells true 1 ((lb (eI p x2) ((tbP p).getD x2 []) x3').flatMap af)))/\True)/\jnl)))) ((ixq (x3:Int) p.chan.length)/\(((0+Int.toNat (x3:Int)*1)+1<=List.length ((jn6 p x2 x3).flatMap af))/\true=true/\(nw ((x3:Int)+1) (∃x3':Nat,(x3'<=List.length ((tbP p).getD x2 []))/\(List.length ((tbP p).getD x2 [])-x3')<(List.length ((tbP p).getD x2 [])-x3)/\true=true/\((nI ((x3:Int)+1):Value)=nI (x3':Int)/\jn1 p x2)/\((kbq 13 (.cells true 1 (ba ((jn6 p x2 x3).flatMap af) (0+Int.toNat (x3:Int)*1) [.bool (((tbP p).getD x2 []).getD x3 false)])) (.cells true 1 ((lb (eI p x2) ((tbP p).getD x2 []) x3').flatMap af)))/\True)/\jnl))))))))) (nw ((x2:Int)+1) (∃x2':Nat,(x2'<=List.length (tbP p))/\(List.length (tbP p)-x2')<(List.length (tbP p)-x2)/\true=true/\((nI ((x2:Int)+1):Value)=nI (x2':Int)/\jn8 p)/\((kbq 13 (.cells true 1 ((jn6 p x2 x3).flatMap af)) (.cells true 1 ((eI p x2').flatMap af)))/\True)/\jnl))))))) ((some (.cells true 1 ((eI p x2).flatMap af):aa)=some (.cells true 1 ((dq p).flatMap af):aa))/\((ixq p.to p.chan.length)/\((((dq p).flatMap af)[(0+Int.toNat p.to*1)]?=some (.bool ((dq p).getD p.to.toNat false)))/\(fk ((dq p).getD p.to.toNat false) (wk (.tuple #[.slice none 0 0,nI 9]:Value) (.tuple #[slQ 13 1 0,nI 9]:Value)/\(true=true/\wk (.tuple #[slQ 13 1 0,nI 9]:Value) (jnj p)/\((kbq 7 (.cells true 1 []) (.cells true 1 ((wlP p).flatMap bc)))/\True))) (lq (0<=List.length (dq p)) (true=true/\((nI 0:Value)=nI ((0:Nat):Int)/\wk (.slice none 0 0:Value) (slQ 0 1 (eL p 0).length:Value)/\jnh p)/\(True)/\(True/\True)/\(True)) (∀x3:Nat,(x3<=List.length (dq p))->(fk (decide (((x3:Int):Int)<(jn7 p))) (c1q 14 1 (.cells true 1 (jn9 p)) 60 [.agg #[nI p.w,nI p.h,slQ 1 2 p.land.length],nI (x3:Int)] (.bool (fh p.land (x3:Int))) (fk (fh p.land (x3:Int)) ((ixq (x3:Int) p.chan.length)/\((((dq p).flatMap af)[(0+Int.toNat (x3:Int)*1)]?=some (.bool ((dq p).getD x3 false)))/\(fk (!((dq p).getD x3 false)) (((ac jnn)/\(ac (.cells true 0 (jn0 p)))/\(ac (.cells true 1 (jn9 p)))/\(ac (.cells false 0 (jng p)))/\(ac (.cells true 1 (jna p)))/\(ac (.cells true 2 (jnb p)))/\(ac (.cells true 2 (jnc p)))/\(ac (.cells true 2 (jnd p)))/\(ac (.map (knE r1.1)))/\True)/\(∀H':Heap,H'.length=14->(H'[0]?=some (.cells false 0 jn3:aa)/\H'[8]?=some (.cells true 0 (jn0 p):aa)/\H'[1]?=some (.cells true 1 (jn9 p):aa)/\H'[2]?=some (.cells false 0 (jng p):aa)/\H'[3]?=some (.cells true 1 (jna p):aa)/\H'[4]?=some (.cells true 2 (jnb p):aa)/\H'[5]?=some (.cells true 2 (jnc p):aa)/\H'[6]?=some (.cells true 2 (jnd p):aa)/\H'[9]?=some (.map (knE r1.1):aa)/\True)->ad prog 62 [pt 8,nI (x3:Int)] H' [] (Is (slQ 14 1 (bsP p (x3:Int)).length) (H' ++ [(.cells true 1 ((bsP p (x3:Int)).flatMap bc):aa)])))/\(c4q 15 0 jnn 14 (.cells true 1 ((bsP p (x3:Int)).flatMap bc)) 11 (.cells true 0 [slN 10 p.chan.length]) 10 (.cells true 1 ((dq p).flatMap af)) 61 [slQ 14 1 (bsP p (x3:Int)).length,.func (.func 63) #[] #[pt 11]] (.bool (anyM (dq p) (bsP p (x3:Int)))) (fk (anyM (dq p) (bsP p (x3:Int))) (apq (eL p x3).length 8 1 ((eL p x3).flatMap bc) [nI (x3:Int)] (nw ((x3:Int)+1) (∃x3':Nat,(x3'<=List.length (dq p))/\(List.length (dq p)-x3')<(List.length (dq p)-x3)/\true=true/\((nI ((x3:Int)+1):Value)=nI (x3':Int)/\wk (slN 16 ((eL p x3).length+1):Value) (slQ 16 1 (eL p x3').length:Value)/\jnh p)/\(True)/\((kbq 13 (.cells true 1 (((((eL p x3).flatMap bc).drop 0).take ((eL p x3).length*1))++((([nI (x3:Int)]:List Value).drop 0).take (1*1)))) (.cells true 1 ((eL p x3').flatMap bc)))/\True)/\(True)))) (jn2 x3 p)))) (jn2 x3 p)))) (jn2 x3 p))) (true=true/\wk (.tuple #[slQ 13 1 (eL p x3).length,nI 0]:Value) (jnj p)/\((kbq 7 (.cells true 1 ((eL p x3).flatMap bc)) (.cells true 1 ((wlP p).flatMap bc)))/\True))))))))))))))))
abbrev jn5(p:Pl):=aG [.cells false 0 jn3,.cells true 1 (jn9 p),.cells false 0 (jng p),.cells true 1 (jna p),.cells true 2 (jnb p),.cells true 2 (jnc p),.cells true 2 (jnd p)]
abbrev jnk:Nat×aa:=(0,.cells false 0 jn3)
abbrev jnm(x3:Nat):Hint:=.need (.need (.go 0 (.slot 52 (nI ((x3:Int)+1)) (.go 0 (.again [])))))
abbrev jnf(x3:Nat):Hint:=.slot 92 (nI ((x3:Int)+1)) (.go 0 (.again [(13,13)]))
theorem Jc(p:Pl):vF prog msk (dm 0) 100000 true 40 true 20 (jn4 p) (jn5 p) (some [])
 (.go 3 (.ans [jnk,(1,.cells true 1 (jn9 p)),(2,.cells false 0 (jng p)),(3,.cells true 1 (jna p)),(4,.cells true 2 (jnb p)),(5,.cells true 2 (jnc p)),(6,.cells true 2 (jnd p))] (.tuple #[pt 8,nI 0]) [.cells true 0 (jn0 p),.map (jni p)] (.go 13 (.need (.go 2 (.cg [jnk,(8,.cells true 0 (jn0 p)),(1,.cells true 1 (jn9 p)),(2,.cells false 0 (jng p)),(3,.cells true 1 (jna p)),(4,.cells true 2 (jnb p)),(5,.cells true 2 (jnc p)),(6,.cells true 2 (jnd p)),(9,.map (jni p))] [9] (ab (sfP p)) (fun r1=>True) (fun r1=>slQ 12 1 (tbP p).length) (fun r1=>[(9,.map (knE r1.1))]) (fun r1=>[.cells true 1 (List.map dV (tbP p))]) (fun r1 => .go 1 (.inv 3 (Nat) (0) [] [10] (fun x2=>[(31,nI (x2:Int)),(2,.slice none 0 0),(3,nI 0),(4,pt 8),(6,pt 11),(29,slQ 12 1 (tbP p).length),(30,nI (((tbP p).length:Nat):Int))]) (fun x2=>[(10,true,.cells true 1 ((eI p x2).flatMap af))]) (fun x2=>[]) (fun x2=>[]) (fun x2=>(x2<=List.length (tbP p))) (fun x2=>(List.length (tbP p)-x2)) (fun x2 => .go 0 (.fork (.need (.val (.iface (((tbP p).getD x2 []).length+1) (jne p x2)) (.go 3 (.inv 3 (Nat) (0) [] [10] (fun x3=>[(37,nI (x3:Int)),(30,nI (((tbP p).length:Nat):Int)),(29,slQ 12 1 (tbP p).length),(6,pt 11),(4,pt 8),(3,nI 0),(2,.slice none 0 0),(31,nI (x2:Int)),(8,.iface (((tbP p).getD x2 []).length+1) (jne p x2)),(35,.iface (((tbP p).getD x2 []).length+1) (jne p x2)),(36,nI ((((tbP p).getD x2 []).length:Nat):Int))]) (fun x3=>[(10,true,.cells true 1 ((jn6 p x2 x3).flatMap af))]) (fun x3=>[]) (fun x3=>[]) (fun x3=>(x3<=List.length ((tbP p).getD x2 []))) (fun x3=>(List.length ((tbP p).getD x2 [])-x3)) (fun x3 => .go 0 (.fork (.go 0 (.need (.val (.bool (((tbP p).getD x2 []).getD x3 false)) (.go 5 (.need (.val (.bool ((jn6 p x2 x3).getD x3 false)) (.go 0 (.aM (.go 0 (jnm x3)) (.go 1 (jnm x3)))))))))) (.go 0 (.slot 53 (nI ((x2:Int)+1)) (.go 0 (.again [])))))))))) (.obj 10 (.cells true 1 ((dq p).flatMap af)) (.go 5 (.need (.val (.bool ((dq p).getD p.to.toNat false)) (.fork (.go 1 (.as (.tuple #[slQ 13 1 0,nI 9]) (.ghost (.cells true 1 []) (.again [(7,13)])))) (.go 3 (.inv 3 (Nat) (0) [] [] (fun x3=>[(64,nI (x3:Int)),(11,slQ 13 1 (eL p x3).length),(6,pt 11),(4,pt 8),(3,nI 0),(2,.slice none 0 0),(63,nI (jn7 p))]) (fun x3=>[]) (fun x3=>[(true,.cells true 1 ((eL p x3).flatMap bc))]) (fun x3=>[]) (fun x3=>(x3<=List.length (dq p))) (fun x3=>(List.length (dq p)-x3)) (fun x3 => .go 0 (.fork (.go 7 (.ans [(1,.cells true 1 (jn9 p))] (.bool (fh p.land (x3:Int))) [] (.go 0 (.aM (.go 1 (.need (.val (.bool ((dq p).getD x3 false)) (.go 2 (.aM (.go 1 (.ans [jnk,(8,.cells true 0 (jn0 p)),(1,.cells true 1 (jn9 p)),(2,.cells false 0 (jng p)),(3,.cells true 1 (jna p)),(4,.cells true 2 (jnb p)),(5,.cells true 2 (jnc p)),(6,.cells true 2 (jnd p)),(9,.map (knE r1.1))] (slQ 14 1 (bsP p (x3:Int)).length) [.cells true 1 ((bsP p (x3:Int)).flatMap bc)] (.go 0 (.ans [jnk,(14,.cells true 1 ((bsP p (x3:Int)).flatMap bc)),(11,.cells true 0 [slN 10 p.chan.length]),(10,.cells true 1 ((dq p).flatMap af))] (.bool (anyM (dq p) (bsP p (x3:Int)))) [] (.go 0 (.fork (.go 2 (.need (.go 1 (.slot 92 (nI ((x3:Int)+1)) (.go 0 (.again [(13,16)])))))) (.go 0 (jnf x3)))))))) (.go 2 (jnf x3))))))) (.go 4 (jnf x3)))))) (.go 2 (.again [(7,13)])))))))))))))))))))))
 (mW ((jn5 p):HT).n 3 (.tuple #[slQ 7 1 (wlP p).length,nI (wlE p)]) [(true,.cells true 1 ((wlP p).flatMap bc))])=Fi p:=by kernel_rfl
theorem oZ(p:Pl)(n:Nat):eL p (n+1)=eL p n++(if wlB p n then [(n:Int)] else []):=by
 unfold eL
 rw[List.range_succ,List.filter_append,List.map_append]
 congr 1
 by_cases h:wlB p n=true
 ·rw[if_pos h,List.filter_cons,if_pos h];rfl
 ·rw[if_neg h,List.filter_cons,if_neg h];rfl
theorem zr(p:Pl)(n:Nat):(eL p n).length<=n:=by
 unfold eL
 rw[List.length_map]
 exact Nat.le_trans (List.length_filter_le ..) (by simp)
theorem wP(l:List Bool){c off:Nat}(b:Bool)(h:c<l.length)(ho:off=0+c*1):ba (l.flatMap af) off [.bool b]=(l.set c b).flatMap af:=by
 subst ho
 rw[Nat.zero_add];exact t9 bF l c h b
theorem pA(m r:List Bool)(i:Nat):lb m r (i+1)=(lb m r i).set i ((lb m r i).getD i false ||r.getD i false):=rfl
theorem HO{p:Pl}(hp:zn p)(e0:bO p=0){H:Heap}{l c n t w i:Nat}(a:gJ H p l c n t w i) :
  ad prog 20 [plV p l c n t w i] H [] (Is (.tuple #[.slice (some ⟨H.length,0,some 1⟩) (wlP p).length (wlP p).length,nI (wlE p)]) (H ++ [.cells true 1 ((wlP p).flatMap bc)])):=by
 have o:=kj e0
 refine mF (fun j => .tuple #[.slice (some ⟨j,0,some 1⟩) (wlP p).length (wlP p).length,nI (wlE p)]) (new:=[.cells true 1 ((wlP p).flatMap bc)]) (Eq.mpr (Jc p) ?_) (kY p) rfl ⟨⟨_,_,rfl,cz _ _⟩,trivial⟩ a.1 a.objs rfl (fun j=>rfl) rfl
 have he:=dG o
 have hct:=o.cts
 have hch:=o.chan
 have hbd:=o.bd
 have hto:=gV o.to
 have hT:=Cv p
 have hl:=hT.gl
 have hN:NT p=Int.toNat (endP p+1):=rfl
 have hm:=kZ p (tbP p).length
 have hm':(dq p).length=p.chan.length:=hm
 delta Fi jnn jn9 jng jna jnb jnc jnd jn3 jn4 jn0 jni jn7 jn8 jnl jne jn1 jn6 jnj jnh jn2 nI slQ pt slN ac fk nw eR wR kbq ixq lq apq c1q c4q
 refine ⟨?_,fun H' hn h=>nD hp e0 hn rfl (wX h),⟨by omega,by omega,by omega,by omega⟩,?_,fun H' hn h=>hn ▸ AM o (qi h),fun r1 _=>⟨rfl,Nat.zero_le _,⟨rfl,?_⟩,fun _=>rfl,fun x2 hx2=>⟨fun q =>?_,fun q =>?_⟩⟩⟩
 ·repeat' first|exact trivial|refine ⟨rfl,?_⟩
 ·repeat' first|exact trivial|refine ⟨rfl,?_⟩
 ·repeat' first|(exact congrArg (fun l=>some (aa.cells true 1 l)) (xj _))|exact bW _ _|exact trivial|exact ae _|refine ⟨rfl,?_⟩|refine ⟨trivial,?_⟩|apply And.intro
 ·have hx:=of_decide_eq_true q
  have hx':x2<(tbP p).length:=by omega
  have hr:=hT.rl x2 (by omega)
  have hmx:=kZ p x2
  refine ⟨by omega,EK hx' (by omega),rfl,Nat.zero_le _,⟨rfl,?_⟩,fun _=>rfl,fun x3 hx3=>⟨fun q3 =>?_,fun q3 =>?_⟩⟩
  ·repeat' first|exact bW _ _|exact (fV _ _).symm|exact trivial|exact ae _|refine ⟨rfl,?_⟩|refine ⟨trivial,?_⟩|apply And.intro
  ·have h3:=of_decide_eq_true q3
   have hm1:=mZ (eI p x2) ((tbP p).getD x2 []) x3
   refine ⟨by omega,eQ (by omega) (by omega),by omega,eQ (by omega) (by omega),fun s =>?_,fun s =>?_⟩
   ·refine ⟨by omega,by rw[aP bF];omega,rfl,ak (by omega),x3+1,by omega,by omega,rfl,?_⟩
    rw[pA,s,Bool.true_or,wP (c:=x3) _ true (by omega) (by omega)]
    repeat' first|exact bW _ _|exact (fV _ _).symm|exact trivial|exact ae _|refine ⟨rfl,?_⟩|refine ⟨trivial,?_⟩|apply And.intro
   ·refine ⟨by omega,by rw[aP bF];omega,rfl,ak (by omega),x3+1,by omega,by omega,rfl,?_⟩
    rw[pA,s,Bool.false_or,wP (c:=x3) _ _ (by omega) (by omega)]
    repeat' first|exact bW _ _|exact (fV _ _).symm|exact trivial|exact ae _|refine ⟨rfl,?_⟩|refine ⟨trivial,?_⟩|apply And.intro
  ·have h3:=of_decide_eq_false q3
   have e:lb (eI p x2) ((tbP p).getD x2 []) x3=eI p (x2+1):=by
    show _=lb (eI p x2) ((tbP p).getD x2 []) _
    congr 1;omega
   rw[e]
   refine ⟨ak (by omega),x2+1,by omega,by omega,rfl,?_⟩
   repeat' first|exact bW _ _|exact trivial|exact ae _|refine ⟨rfl,?_⟩|refine ⟨trivial,?_⟩|apply And.intro
 ·have hx:=of_decide_eq_false q
  have e:eI p x2=dq p:=by
   show _=eI p _
   congr 1;omega
  rw[e]
  refine ⟨rfl,by omega,eQ (by omega) (by omega),fun s =>?_,fun s =>?_⟩
  ·rw[show wlP p=[] from if_pos s,show wlE p=9 from if_pos s]
   repeat' first|exact trivial|exact rfl|exact ae _|refine aS ?_ ?_|exact ef _ _ _ (.inl rfl)|refine wE ?_|refine ⟨rfl,?_⟩|apply And.intro
  ·have hz:wlP p=eL p (dq p).length:=if_neg (by rw[s];decide)
   have hze:wlE p=0:=if_neg (by rw[s];decide)
   refine ⟨rfl,Nat.zero_le _,⟨rfl,?_⟩,fun _=>rfl,fun x3 hx3=>⟨fun q3 =>?_,fun q3 =>?_⟩⟩
   ·repeat' first|exact trivial|exact ef _ _ _ (.inl rfl)|refine ⟨rfl,?_⟩|refine ⟨trivial,?_⟩|apply And.intro
   ·have h3:=of_decide_eq_true q3
    have hwl:=zr p x3
    have no:wlB p x3=false->eL p (x3+1)=eL p x3:=fun z=>by rw[oZ,z];exact List.append_nil _
    refine ⟨⟨rfl,trivial⟩,fun H' hn h=>kIs _ _ _ _ (by omega) h.1,fun s1 =>?_,fun s1 =>?_⟩
    ·refine ⟨by omega,eQ (by omega) (by omega),fun s2 =>?_,fun s2 =>?_⟩
     ·refine ⟨?_,fun H' hn h=>hn ▸ ky o (by omega) (qi h),?_,fun H' hn h=>(yR (m:=dq p) (by have:=ft p (x3:Int);omega) (fun j hj=>by have:=nY o (c:=(x3:Int)) (by omega) hj;omega) (by decide) h.1 h.2.1 (by rw[hm'];exact h.2.2.1) h.2.2.2.1).wkA ⟨ik,ae _,trivial⟩,fun s3 =>?_,fun s3 =>?_⟩
      ·repeat' first|exact trivial|refine ⟨rfl,?_⟩
      ·repeat' first|exact trivial|refine ⟨rfl,?_⟩
      ·have yes:eL p (x3+1)=eL p x3 ++ [(x3:Int)]:=by rw[oZ,show wlB p x3=true from by unfold wlB;rw[s1,s2,s3];rfl];rfl
       refine ⟨⟨by omega,by decide,⟨Nat.le_refl _,by rw[aP iM];omega⟩,⟨Nat.le_refl _,by simp⟩,rfl⟩,rfl,ak (by omega),x3+1,by omega,by omega,rfl,?_⟩
       repeat' first|exact cv yes|exact cA iM yes rfl|exact cz _ _|exact trivial|refine ⟨rfl,?_⟩|refine ⟨trivial,?_⟩|apply And.intro
      ·refine ⟨ak (by omega),x3+1,by omega,by omega,rfl,?_⟩
       rw[no (by unfold wlB;rw[s3,Bool.and_false,Bool.and_false])]
       repeat' first|exact cz _ _|exact trivial|exact ae _|refine ⟨rfl,?_⟩|refine ⟨trivial,?_⟩|apply And.intro
     ·refine ⟨ak (by omega),x3+1,by omega,by omega,rfl,?_⟩
      rw[no (by unfold wlB;rw[s2,Bool.false_and,Bool.and_false])]
      repeat' first|exact cz _ _|exact trivial|exact ae _|refine ⟨rfl,?_⟩|refine ⟨trivial,?_⟩|apply And.intro
    ·refine ⟨ak (by omega),x3+1,by omega,by omega,rfl,?_⟩
     rw[no (by unfold wlB;rw[s1,Bool.false_and])]
     repeat' first|exact cz _ _|exact trivial|exact ae _|refine ⟨rfl,?_⟩|refine ⟨trivial,?_⟩|apply And.intro
   ·have h3:=of_decide_eq_false q3
    rw[hz,hze,show x3=(dq p).length by omega]
    repeat' first|exact cz _ _|exact trivial|exact ae _|refine ⟨rfl,?_⟩|apply And.intro
def gC:Shp:=⟨3,6000,800,9000,[(0,1000),(100,800),(200,0)],[(0,0),(200,400)],[(0,0),(400,2000)],0,20,10,100⟩
def hvC:Cell:=⟨⟨0,100⟩,⟨0,150⟩,⟨0,0⟩,⟨0,3⟩⟩
def bg(a b:Cell):Pl:=⟨3,1,[false,false,false],[⟨3,1,0,[az,a,az]⟩,⟨3,1,1,[az,b,az]⟩],[false,false,false],gC,80,0,2⟩
theorem EW:bO (bg az az)=0:=by kernel_rfl
theorem EV:bO (bg hvC az)=0:=by kernel_rfl
theorem Bs:bO (bg hvC hvC)=0:=by kernel_rfl
theorem Bu:bp (bg az az)=6:=by kernel_rfl
theorem Bt:bp (bg hvC az)=12:=by kernel_rfl
theorem EX:bp (bB (bg hvC hvC))=6:=by kernel_rfl
theorem Iv:dO (bg az az) 6=[⟨1,0,160,3⟩,⟨2,3,160,6⟩]:=by kernel_rfl
theorem Iu:dO (bg hvC az) 12=[⟨1,6,160,9⟩,⟨2,9,160,12⟩]:=by kernel_rfl
theorem It:wlP (bg hvC hvC)=[1]:=by kernel_rfl
theorem Ir:wlE (bg hvC hvC)=0:=by kernel_rfl
abbrev jp5:List Value:=[nI 4000,nI 8000,nI 14000,nI 24000,nI 40000,nI 90000]
abbrev jpl:=ac (.cells false 0 jp5)
abbrev jp0:List Value:=[nI 3,nI 1,slN 2 3,slN 14 2,slN 3 3,nI 3,nI 6000,nI 800,nI 9000,slN 6 3,slN 7 2,slN 8 2,nI 0,nI 20,nI 10,nI 100,nI 80,nI 0,nI 2]
abbrev jpe:=ac (.cells true 0 jp0)
abbrev jp4:List Value:=[.bool false,.bool false,.bool false]
abbrev jph:=ac (.cells true 1 jp4)
abbrev jp3:List Value:=[nI 3,nI 6000,nI 800,nI 9000,slN 6 3,slN 7 2,slN 8 2,nI 0,nI 20,nI 10,nI 100]
abbrev jpm:=ac (.cells true 0 jp3)
abbrev jp8:List Value:=[nI 0,nI 1000,nI 100,nI 800,nI 200,nI 0]
abbrev jpn:=ac (.cells true 2 jp8)
abbrev jpc:List Value:=[nI 0,nI 0,nI 200,nI 400]
abbrev jpo:=ac (.cells true 2 jpc)
abbrev jpb:List Value:=[nI 0,nI 0,nI 400,nI 2000]
abbrev jpp:=ac (.cells true 2 jpb)
abbrev jp2:List Value:=[nI 0,nI 0,nI 0,nI 0,nI 0,nI 0,nI 0,nI 0,nI 0,nI 0,nI 0,nI 0,nI 0,nI 0,nI 0,nI 0,nI 0,nI 0,nI 0,nI 0,nI 0,nI 0,nI 0,nI 0]
abbrev jpf:List Value:=[nI 3,nI 1,nI 0,slN 9 3]
abbrev jpq:=ac (.cells true 4 jpf)
abbrev jpd:List Value:=[nI 3,nI 1,nI 1,slN 12 3]
abbrev jpr:=ac (.cells true 4 jpd)
abbrev jp6:List Value:=[nI 3,nI 1,nI 0,slN 9 3,nI 3,nI 1,nI 1,slN 12 3]
abbrev jps:=ac (.cells true 4 jp6)
abbrev jpt:aa:=.cells false 0 jp5
abbrev jpg:aa:=.cells true 0 jp0
abbrev jpi:aa:=.cells true 1 jp4
abbrev jpu:aa:=.cells true 0 jp3
abbrev jpv:aa:=.cells true 2 jp8
abbrev jpw:aa:=.cells true 2 jpc
abbrev jpx:aa:=.cells true 2 jpb
abbrev jpy:aa:=.cells true 4 jpf
abbrev jpz:aa:=.cells true 4 jpd
abbrev A2:aa:=.cells true 4 jp6
abbrev jp9:List Value:=[.agg #[nI 3,nI 1,slN 2 3,slN 14 2,slN 3 3,nI 3,nI 6000,nI 800,nI 9000,slN 6 3,slN 7 2,slN 8 2,nI 0,nI 20,nI 10,nI 100,nI 80,nI 0,nI 2]]
abbrev jp7:List Value:=[nI 1,nI 0,nI 160,nI 3,nI 2,nI 3,nI 160,nI 6]
abbrev A1:aa:=.cells true 4 jp7
abbrev jp1:List Value:=[nI 0,nI 0,nI 0,nI 0,nI 0,nI 0,nI 0,nI 0,nI 0,nI 100,nI 0,nI 150,nI 0,nI 0,nI 0,nI 3,nI 0,nI 0,nI 0,nI 0,nI 0,nI 0,nI 0,nI 0]
abbrev jpj:=ac (.cells true 8 jp1)
abbrev jpk:aa:=.cells true 8 jp1
abbrev jpa:List Value:=[nI 1,nI 6,nI 160,nI 9,nI 2,nI 9,nI 160,nI 12]
def Ce(sp:Value)  : Prop :=
 ((jpl/\jpe/\jph/\jph/\jpe/\jpm/\jpn/\jpo/\jpp/\(ac (.cells true 8 jp2))/\jpq/\(ac (.dead))/\(ac (.cells true 8 jp2))/\jpr/\jps/\jpe/\True)/\(∀H':Heap,H'.length=16->(H'[0]?=some jpt/\H'[1]?=some jpg/\H'[2]?=some jpi/\H'[3]?=some jpi/\H'[4]?=some jpg/\H'[5]?=some jpu/\H'[6]?=some jpv/\H'[7]?=some jpw/\H'[8]?=some jpx/\H'[9]?=some (.cells true 8 jp2:aa)/\H'[10]?=some jpy/\H'[11]?=some (.dead:aa)/\H'[12]?=some (.cells true 8 jp2:aa)/\H'[13]?=some jpz/\H'[14]?=some A2/\H'[15]?=some jpg/\True)->ad prog 13 jp9 H' [] (Is (.tuple #[slQ 16 1 2,nI 6,nI 0]) (H' ++ [A1])))/\((jpl/\jpe/\jph/\jph/\jpe/\jpm/\jpn/\jpo/\jpp/\jpj/\jpq/\(ac (.dead))/\(ac (.cells true 8 jp2))/\jpr/\jps/\jpe/\(ac (.cells true 4 jp7))/\True)/\(∀H':Heap,H'.length=17->(H'[0]?=some jpt/\H'[1]?=some jpg/\H'[2]?=some jpi/\H'[3]?=some jpi/\H'[4]?=some jpg/\H'[5]?=some jpu/\H'[6]?=some jpv/\H'[7]?=some jpw/\H'[8]?=some jpx/\H'[9]?=some jpk/\H'[10]?=some jpy/\H'[11]?=some (.dead:aa)/\H'[12]?=some (.cells true 8 jp2:aa)/\H'[13]?=some jpz/\H'[14]?=some A2/\H'[15]?=some jpg/\H'[16]?=some A1/\True)->ad prog 13 jp9 H' [] (Is (.tuple #[slQ 17 1 2,nI 12,nI 0]) (H' ++ [(.cells true 4 jpa:aa)])))/\((jpl/\jpe/\jph/\jph/\jpe/\jpm/\jpn/\jpo/\jpp/\jpj/\jpq/\(ac (.dead))/\jpj/\jpr/\jps/\jpe/\(ac (.cells true 4 jp7))/\(ac (.cells true 4 jpa))/\True)/\(∀H':Heap,H'.length=18->(H'[0]?=some jpt/\H'[1]?=some jpg/\H'[2]?=some jpi/\H'[3]?=some jpi/\H'[4]?=some jpg/\H'[5]?=some jpu/\H'[6]?=some jpv/\H'[7]?=some jpw/\H'[8]?=some jpx/\H'[9]?=some jpk/\H'[10]?=some jpy/\H'[11]?=some (.dead:aa)/\H'[12]?=some jpk/\H'[13]?=some jpz/\H'[14]?=some A2/\H'[15]?=some jpg/\H'[16]?=some A1/\H'[17]?=some (.cells true 4 jpa:aa)/\True)->ad prog 20 jp9 H' [] (Is (.tuple #[slQ 18 1 1,nI 0]) (H' ++ [(.cells true 1 [nI 1]:aa)])))/\((jpl/\jpe/\jph/\jph/\jpe/\jpm/\jpn/\jpo/\jpp/\jpj/\jpq/\(ac (.dead))/\jpj/\jpr/\jps/\jpe/\(ac (.cells true 4 jp7))/\(ac (.cells true 4 jpa))/\(ac (.cells true 1 [nI 1]))/\True)/\(∀H':Heap,H'.length=19->(H'[0]?=some jpt/\H'[1]?=some jpg/\H'[2]?=some jpi/\H'[3]?=some jpi/\H'[4]?=some jpg/\H'[5]?=some jpu/\H'[6]?=some jpv/\H'[7]?=some jpw/\H'[8]?=some jpx/\H'[9]?=some jpk/\H'[10]?=some jpy/\H'[11]?=some (.dead:aa)/\H'[12]?=some jpk/\H'[13]?=some jpz/\H'[14]?=some A2/\H'[15]?=some jpg/\H'[16]?=some A1/\H'[17]?=some (.cells true 4 jpa:aa)/\H'[18]?=some (.cells true 1 [nI 1]:aa)/\True)->ad prog 23 jp9 H' [] (Is (.tuple #[nI 6,nI 0]) H'))/\(.bool true:Value)=sp))))
abbrev Df:Nat×aa:=(0,.cells false 0 jp5)
abbrev Da:Nat×aa:=(1,.cells true 0 jp0)
abbrev C9:Nat×aa:=(2,.cells true 1 jp4)
abbrev C7:Nat×aa:=(3,.cells true 1 jp4)
abbrev C6:Nat×aa:=(4,.cells true 0 jp0)
abbrev C5:Nat×aa:=(5,.cells true 0 jp3)
abbrev C4:Nat×aa:=(6,.cells true 2 jp8)
abbrev C3:Nat×aa:=(7,.cells true 2 jpc)
abbrev C2:Nat×aa:=(8,.cells true 2 jpb)
abbrev De:Nat×aa:=(10,.cells true 4 jpf)
abbrev Dd:Nat×aa:=(13,.cells true 4 jpd)
abbrev Dc:Nat×aa:=(14,.cells true 4 jp6)
abbrev Db:Nat×aa:=(15,.cells true 0 jp0)
theorem Hf (sp : Value)  : vF prog msk (dm 0) 100000 true 40 true 10 [] (aG [.cells false 0 jp5]) (some [])
  (.go 61 (.ans [Df,Da,C9,C7,C6,C5,C4,C3,C2,(9,.cells true 8 jp2),De,(11,.dead),(12,.cells true 8 jp2),Dd,Dc,Db] (.tuple #[slQ 16 1 2,nI 6,nI 0]) [.cells true 4 jp7] (.go 47 (.ans [Df,Da,C9,C7,C6,C5,C4,C3,C2,(9,.cells true 8 jp1),De,(11,.dead),(12,.cells true 8 jp2),Dd,Dc,Db,(16,.cells true 4 jp7)] (.tuple #[slQ 17 1 2,nI 12,nI 0]) [.cells true 4 jpa] (.go 20 (.ans [Df,Da,C9,C7,C6,C5,C4,C3,C2,(9,.cells true 8 jp1),De,(11,.dead),(12,.cells true 8 jp1),Dd,Dc,Db,(16,.cells true 4 jp7),(17,.cells true 4 jpa)] (.tuple #[slQ 18 1 1,nI 0]) [.cells true 1 [nI 1]] (.go 5 (.ans [Df,Da,C9,C7,C6,C5,C4,C3,C2,(9,.cells true 8 jp1),De,(11,.dead),(12,.cells true 8 jp1),Dd,Dc,Db,(16,.cells true 4 jp7),(17,.cells true 4 jpa),(18,.cells true 1 [nI 1])] (.tuple #[nI 6,nI 0]) [] (.auto)))))))))
  (fun v _ _ => v = sp) = Ce sp  := by kernel_rfl
end
end Go.Proofs.YtmecpfikljhjaaaGreatDoor
