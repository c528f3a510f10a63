/- Route: which cells can be reached; a route that is found is finite. No condition. -/
import Derived.Test.YtmecpfikljhjaaaDoorGI4gxI5
import Derived.Test.YtmecpfikljhjaaaDoorGK27xA0
import Derived.Test.YtmecpfikljhjaaaDoorGH5xA4
import Derived.Test.YtmecpfikljhjaaaDoorGI2gxI3
import Derived.Test.YtmecpfikljhjaaaDoorGV3xK38
import Derived.Test.YtmecpfikljhjaaaDoorGK41xV5
open Go Go.K
set_option maxRecDepth 1000000
set_option maxHeartbeats 4000000
set_option linter.unusedVariables false
set_option linter.unusedSimpArgs false
namespace Go.Proofs.YtmecpfikljhjaaaDoor
noncomputable section
attribute [local irreducible] vF
inductive Rch (p:Pl):Int->Int->Prop
 |start:Rch p 0 p.frm
 |wait {t c:Int}:Rch p t c->wtB p c t (t+1)=true->t<endP p->Rch p (t+1) c
 |leg {t c:Int} {x:Leg}:Rch p t c->t<endP p->x∈lgP p c t->Rch p x.arr x.to
def GR(p:Pl)(G:List (List Bool)):Prop:=∀t c:Nat,(G.getD t []).getD c false=true->Rch p (t:Int) (c:Int)
theorem Ab{G:List (List Bool)}{a c:Int}{t j:Nat}(h:((dg G a c).getD t []).getD j false=true):(G.getD t []).getD j false=true∨(t=Int.toNat a/\j=Int.toNat c):=by
 unfold dg at h
 by_cases ha:Int.toNat a<G.length
 ·rw[cK ha]at h
  by_cases e:t=Int.toNat a
  ·rw[if_pos e]at h
   by_cases hc:Int.toNat c<(G.getD (Int.toNat a) []).length
   ·rw[cK hc]at h
    by_cases f:j=Int.toNat c
    ·exact .inr ⟨e,f⟩
    ·rw[if_neg f]at h;rw[e];exact .inl h
   ·rw[List.set_eq_of_length_le (by omega)]at h;rw[e];exact .inl h
  ·rw[if_neg e]at h;exact .inl h
 ·rw[List.set_eq_of_length_le (by omega)]at h;exact .inl h
theorem GR.dg{p:Pl}{G:List (List Bool)}(g:GR p G){a c:Int}(ha:0<=a)(hc:0<=c)(r:Rch p a c):GR p (dg G a c):=fun t j h=>by
 rcases Ab h with h|⟨rfl,rfl⟩
 ·exact g t j h
 ·rw[show ((Int.toNat a:Nat):Int)=a by omega,show ((Int.toNat c:Nat):Int)=c by omega];exact r
theorem GR.ca{p:Pl}:∀{l:List Leg} {G:List (List Bool)},GR p G->(∀x∈l,0<=x.arr/\0<=x.to/\Rch p x.arr x.to)->GR p (ca G l)
 | [],_,g,_=>g
 |x :: l,G,g,h=>by
  have hx:=h x List.mem_cons_self
  exact GR.ca (l:=l) (g.dg hx.1 hx.2.1 hx.2.2) fun y hy=>h y (List.mem_cons_of_mem _ hy)
theorem GR.cSt{p:Pl}(o:bA p){G:List (List Bool)}(g:GR p G){t j:Nat}(ht:(t:Int)<endP p)(hj:j<p.land.length)(r:Rch p (t:Int) (j:Int)):GR p (cSt p t j G):=by
 unfold YtmecpfikljhjaaaDoor.cSt
 have hl:∀x∈lgP p (j:Int) (t:Int),0<=x.arr/\0<=x.to/\Rch p x.arr x.to:=fun x hx=>by
  have hm:=dX hx
  exact ⟨by omega,(nW o (by omega) hm.1).1.1,.leg r ht hx⟩
 by_cases w:wtB p (j:Int) (t:Int) ((t:Int)+1)=true
 ·rw[if_pos w];exact GR.ca (g.dg (by omega) (by omega) (.wait r w ht)) hl
 ·rw[if_neg w];exact GR.ca g hl
theorem GR.cTo{p:Pl}(o:bA p){G:List (List Bool)}(g:GR p G){t:Nat}(ht:(t:Int)<endP p):∀j,j<=p.land.length->GR p (cTo p t G j)
 |0,_=>g
 |j+1,h=>by
  show GR p (if _ then _ else _)
  by_cases q:(G.getD t []).getD j false=true
  ·rw[if_pos q];exact (GR.cTo o g ht j (by omega)).cSt o ht (by omega) (g t j q)
  ·rw[if_neg q];exact GR.cTo o g ht j (by omega)
theorem zX(n N t j:Nat):((List.replicate N (List.replicate n false)).getD t []).getD j false=false:=by
 rw[List.getD_eq_getElem?_getD (l:=List.replicate N _),List.getElem?_replicate]
 by_cases h:t<N
 ·rw[if_pos h]
  show (List.replicate n false).getD j false=false
  rw[List.getD_eq_getElem?_getD,List.getElem?_replicate]
  by_cases q:j<n
  ·rw[if_pos q];rfl
  ·rw[if_neg q];rfl
 ·rw[if_neg h];rfl
theorem GR.gTo{p:Pl}(o:bA p):∀k:Nat,(k:Int)<=endP p->GR p (gTo p k)
 |0,_=>GR.dg (fun t j h=>by rw[zX]at h;cases h) (Int.le_refl _) (cW o.frm).1.1 .start
 |k+1,h=>by
  have hct:=o.cts
  have hk:k<NT p:=by show k<Int.toNat (endP p+1);omega
  refine GR.cTo o (GR.gTo o k (by omega)) (by omega) _ ?_
  rw[(GOk.gTo p k).rl k hk,o.chan];exact Nat.le_refl _
theorem oZ{p:Pl}(o:bA p){t c:Nat}(h:((tbP p).getD t []).getD c false=true):Rch p (t:Int) (c:Int):=by
 have hct:=o.cts
 exact GR.gTo o (Int.toNat (endP p)) (by unfold endP;omega) t c h
theorem EG{p:Pl}{a:Int}:∀{t c:Int},Rch p t c->t<=a->0<=t/\lfP p a p.frm 0<=lfP p a c t+t:=by
 intro t c r
 induction r with
 |start=>intro h;exact ⟨Int.le_refl _,by omega⟩
 | @wait t c r w ht ih =>
  intro h
  obtain ⟨i0,i1⟩:=ih (by omega)
  have e:=lb (p:=p) (a:=a) (c:=c) (t:=t) (by omega)
  have l:=(qw p a (lgP p c t) (lf0 p a c t)).1
  have f:lf0 p a c t=lfP p a c (t+1):=by unfold lf0;rw[if_pos w]
  exact ⟨by omega,by omega⟩
 | @leg t c x r ht hx ih =>
  intro h
  have hm:=dX hx
  obtain ⟨i0,i1⟩:=ih (by omega)
  have e:=lb (p:=p) (a:=a) (c:=c) (t:=t) (by omega)
  have l:=(qw p a (lgP p c t) (lf0 p a c t)).2 x hx h
  exact ⟨by omega,by omega⟩
theorem lA{p:Pl}(o:bA p):(bC p = -1/\∀k,k<(tbP p).length->atB p k=false)∨∃k:Nat,bC p=(k:Int)/\(k:Int)<=endP p/\atB p k=true/\∀j,j<k->atB p j=false:=by
 have hl:=(mF p).gl
 have hN:NT p=Int.toNat (endP p+1):=rfl
 rcases vY (atB p) (tbP p).length with h|⟨k,h1,h2,h3,h4⟩
 ·exact .inl h
 ·exact .inr ⟨k,h4,by omega,h2,h3⟩
theorem Gs{p:Pl}(o:bA p)(h:0<=bC p):wv p (bC p):=by
 rcases lA o with ⟨e,_⟩|⟨k,e,h1,h2,_⟩
 ·omega
 have he:=cY o
 have hto:=cW o.to
 have r:=oZ o h2
 rw[show ((Int.toNat p.to:Nat):Int)=p.to by omega,<- e]at r
 have l:=EG r (Int.le_refl _)
 rw[iS,if_pos rfl]at l
 exact ⟨h,by omega,by omega⟩
def bi(p:Pl):List Leg:=if bC p<0 then [] else dT p (bC p)
def bl(p:Pl):Int:=if bC p<0 then 0 else bC p
def bI(p:Pl):Int:=if bC p<0 then 51 else 0
def ir(m r:List Bool):Nat->List Bool
 |0=>m
 |i+1=>(ir m r i).set i ((ir m r i).getD i false ||r.getD i false)
def dH(p:Pl):Nat->List Bool
 |0=>List.replicate p.chan.length false
 |k+1=>ir (dH p k) ((tbP p).getD k []) ((tbP p).getD k []).length
def cn(p:Pl):List Bool:=dH p (tbP p).length
def anyM(m:List Bool)(l:List Int):Bool:=l.any fun k=>m.getD (Int.toNat k) false
def wlB(p:Pl)(i:Nat):Bool:=dE p.land (i:Int)&&(!(cn p).getD i false&&anyM (cn p) (bsP p (i:Int)))
def dw(p:Pl)(n:Nat):List Int:=((List.range n).filter (wlB p)).map fun (i:Nat)=>(i:Int)
def wlE(p:Pl):Int:=if (cn p).getD (Int.toNat p.to) false then 9 else 0
def wlP(p:Pl):List Int:=if (cn p).getD (Int.toNat p.to) false then [] else dw p (cn p).length
theorem kf(m r:List Bool):∀i,(ir m r i).length=m.length
 |0=>rfl
 |i+1=>by show (List.set ..).length=_;rw[List.length_set,kf m r i]
theorem gk(p:Pl):∀k,(dH p k).length=p.chan.length
 |0=>List.length_replicate
 |k+1=>(kf ..).trans (gk p k)
abbrev jm1:List Value:=[nI 4000,nI 8000,nI 14000,nI 24000,nI 40000,nI 90000]
abbrev jmd:=ac (.cells false 0 jm1)
abbrev jm4(p:Pl):=p.land.flatMap af
abbrev jmb(p:Pl):=p.cts.flatMap chC
abbrev jm5(p:Pl):=p.chan.flatMap af
abbrev jm6(p:Pl):=p.shp.th.flatMap ptC
abbrev jm7(p:Pl):=p.shp.wa.flatMap ptC
abbrev jm8(p:Pl):=p.shp.ic.flatMap ptC
abbrev jm2(p:Pl):List Value:=[.agg #[nI p.w,nI p.h,slQ 1 2 p.land.length,slQ 2 2 p.cts.length,slQ 3 2 p.chan.length,nI p.shp.cls,nI p.shp.pow,nI p.shp.dra,nI p.shp.ton,slQ 4 2 p.shp.th.length,slQ 5 2 p.shp.wa.length,slQ 6 2 p.shp.ic.length,nI p.shp.slow,nI p.shp.aB,nI p.shp.rdg,nI p.shp.prs,nI p.size,nI p.frm,nI p.to]]
abbrev jm0(p:Pl):List Value:=[nI p.w,nI p.h,slQ 1 2 p.land.length,slQ 2 2 p.cts.length,slQ 3 2 p.chan.length,nI p.shp.cls,nI p.shp.pow,nI p.shp.dra,nI p.shp.ton,slQ 4 2 p.shp.th.length,slQ 5 2 p.shp.wa.length,slQ 6 2 p.shp.ic.length,nI p.shp.slow,nI p.shp.aB,nI p.shp.rdg,nI p.shp.prs,nI p.size,nI p.frm,nI p.to,nI (endP p),.map (some 9)]
abbrev jmc(p:Pl):=knE (ab.nil (sfP p)).1
abbrev jma(p:Pl):=rn (sg 7 [(7,10)]) 3 (.tuple #[slQ 7 1 (bi p).length,nI (bl p),nI (bI p)]:Value)
def Ff(p:Pl):Prop :=
 ((jmd/\(ac (.cells true 1 (jm4 p)))/\(ac (.cells false 0 (jmb p)))/\(ac (.cells true 1 (jm5 p)))/\(ac (.cells true 2 (jm6 p)))/\(ac (.cells true 2 (jm7 p)))/\(ac (.cells true 2 (jm8 p)))/\True)/\(∀H':Heap,H'.length=8->(H'[0]?=some (.cells false 0 jm1:aa)/\H'[1]?=some (.cells true 1 (jm4 p):aa)/\H'[2]?=some (.cells false 0 (jmb p):aa)/\H'[3]?=some (.cells true 1 (jm5 p):aa)/\H'[4]?=some (.cells true 2 (jm6 p):aa)/\H'[5]?=some (.cells true 2 (jm7 p):aa)/\H'[6]?=some (.cells true 2 (jm8 p):aa)/\True)->ae prog 30 (jm2 p) H' [] (Is (.tuple #[pt 8,nI 0]) (H' ++ [(.cells true 0 (jm0 p):aa),(.map (jmc p):aa)])))/\((jmd/\(ac (.cells true 0 (jm0 p)))/\(ac (.cells true 1 (jm4 p)))/\(ac (.cells false 0 (jmb p)))/\(ac (.cells true 1 (jm5 p)))/\(ac (.cells true 2 (jm6 p)))/\(ac (.cells true 2 (jm7 p)))/\(ac (.cells true 2 (jm8 p)))/\(ac (.map (jmc p)))/\True)/\(∀H':Heap,H'.length=10->(H'[0]?=some (.cells false 0 jm1:aa)/\H'[8]?=some (.cells true 0 (jm0 p):aa)/\H'[1]?=some (.cells true 1 (jm4 p):aa)/\H'[2]?=some (.cells false 0 (jmb p):aa)/\H'[3]?=some (.cells true 1 (jm5 p):aa)/\H'[4]?=some (.cells true 2 (jm6 p):aa)/\H'[5]?=some (.cells true 2 (jm7 p):aa)/\H'[6]?=some (.cells true 2 (jm8 p):aa)/\H'[9]?=some (.map (jmc p):aa)/\True)->ae prog 31 [pt 8] H' [9] (fun y H2 => ∃z:ab (sfP p),True/\y=nI (bC p)/\H2=(List.set H' 9 (.map (knE z.1):aa))))/\(∀r1:ab (sfP p),True->(fk (decide (((bC p):Int)<0)) (wk (.tuple #[.slice none 0 0,nI 0,nI 51]:Value) (.tuple #[slQ 10 1 0,nI 0,nI 51]:Value)/\(true=true/\wk (.tuple #[slQ 10 1 0,nI 0,nI 51]:Value) (jma p)/\((kbq 7 (.cells true 4 []) (.cells true 4 ((bi p).flatMap lgC)))/\True))) ((jmd/\(ac (.cells true 0 (jm0 p)))/\(ac (.cells true 1 (jm4 p)))/\(ac (.cells false 0 (jmb p)))/\(ac (.cells true 1 (jm5 p)))/\(ac (.cells true 2 (jm6 p)))/\(ac (.cells true 2 (jm7 p)))/\(ac (.cells true 2 (jm8 p)))/\(ac (.map (knE r1.1)))/\True)/\(∀H':Heap,H'.length=10->(H'[0]?=some (.cells false 0 jm1:aa)/\H'[8]?=some (.cells true 0 (jm0 p):aa)/\H'[1]?=some (.cells true 1 (jm4 p):aa)/\H'[2]?=some (.cells false 0 (jmb p):aa)/\H'[3]?=some (.cells true 1 (jm5 p):aa)/\H'[4]?=some (.cells true 2 (jm6 p):aa)/\H'[5]?=some (.cells true 2 (jm7 p):aa)/\H'[6]?=some (.cells true 2 (jm8 p):aa)/\H'[9]?=some (.map (knE r1.1):aa)/\True)->ae prog 32 [pt 8,nI (bC p)] H' [9] (fun y H2 => ∃z:ab (sfP p),True/\y=slQ 10 1 (dT p (bC p)).length/\H2=((List.set H' 9 (.map (knE z.1):aa)) ++ [(.cells true 4 ((dT p (bC p)).flatMap lgC):aa)])))/\(∀r2:ab (sfP p),True->(true=true/\wk (.tuple #[slQ 10 1 (dT p (bC p)).length,nI (bC p),nI 0]:Value) (jma p)/\((kbq 7 (.cells true 4 ((dT p (bC p)).flatMap lgC)) (.cells true 4 ((bi p).flatMap lgC)))/\True))))))))
abbrev jm3(p:Pl):=aI [.cells false 0 jm1,.cells true 1 (jm4 p),.cells false 0 (jmb p),.cells true 1 (jm5 p),.cells true 2 (jm6 p),.cells true 2 (jm7 p),.cells true 2 (jm8 p)]
theorem IB(p:Pl):vF prog msk (dm 0) 100000 true 40 true 8 (jm2 p) (jm3 p) (some [])
 (.go 4 (.ans [(0,.cells false 0 jm1),(1,.cells true 1 (jm4 p)),(2,.cells false 0 (jmb p)),(3,.cells true 1 (jm5 p)),(4,.cells true 2 (jm6 p)),(5,.cells true 2 (jm7 p)),(6,.cells true 2 (jm8 p))] (.tuple #[pt 8,nI 0]) [.cells true 0 (jm0 p),.map (jmc p)] (.go 8 (.cx [(0,.cells false 0 jm1),(8,.cells true 0 (jm0 p)),(1,.cells true 1 (jm4 p)),(2,.cells false 0 (jmb p)),(3,.cells true 1 (jm5 p)),(4,.cells true 2 (jm6 p)),(5,.cells true 2 (jm7 p)),(6,.cells true 2 (jm8 p)),(9,.map (jmc p))] [9] (ab (sfP p)) (fun r1=>True) (fun r1=>nI (bC p)) (fun r1=>[(9,.map (knE r1.1))]) (fun r1=>[]) (fun r1 => .go 2 (.fork (.go 2 (.as (.tuple #[slQ 10 1 0,nI 0,nI 51]) (.ghost (.cells true 4 []) (.again [(7,10)])))) (.go 1 (.cx [(0,.cells false 0 jm1),(8,.cells true 0 (jm0 p)),(1,.cells true 1 (jm4 p)),(2,.cells false 0 (jmb p)),(3,.cells true 1 (jm5 p)),(4,.cells true 2 (jm6 p)),(5,.cells true 2 (jm7 p)),(6,.cells true 2 (jm8 p)),(9,.map (knE r1.1))] [9] (ab (sfP p)) (fun r2=>True) (fun r2=>slQ 10 1 (dT p (bC p)).length) (fun r2=>[(9,.map (knE r2.1))]) (fun r2=>[.cells true 4 ((dT p (bC p)).flatMap lgC)]) (fun r2 => .go 3 (.again [(7,10)]))))))))))
 (kd ((jm3 p):HT).n 3 (.tuple #[slQ 7 1 (bi p).length,nI (bl p),nI (bI p)]) [(true,.cells true 4 ((bi p).flatMap lgC))])=Ff p:=by kernel_rfl
abbrev jm9(l:List Int):Prop:=eR (.func (.func 54) #[] #[pt 2])/\wR (slQ 1 2 l.length)/\eR (nI ((l.length:Nat):Int))/\True
def pX(sp:Value)(l:List Int)(m:List Bool):Prop :=
 (lq (0<=List.length l/\∀jz:Nat,jz<0->List.getD m (l.getD jz 0).toNat false=false) (true=true/\((nI 0:Value)=nI ((0:Nat):Int)/\jm9 l)/\(True)/\(True)/\(True)) (∀x0:Nat,(x0<=List.length l/\∀jz:Nat,jz<x0->List.getD m (l.getD jz 0).toNat false=false)->(fk (decide (((x0:Int):Int)<((l.length:Nat):Int))) ((ixq (x0:Int) l.length)/\(((l.flatMap aq)[(0+Int.toNat (x0:Int)*1)]?=some (nI (l.getD x0 0)))/\((ixq (l.getD x0 0) m.length)/\(((m.flatMap af)[(0+Int.toNat (l.getD x0 0)*1)]?=some (.bool (m.getD (l.getD x0 0).toNat false)))/\(fk (m.getD (l.getD x0 0).toNat false) ((.bool (decide ((0:Int)<=(x0:Int))):Value)=sp) (nw ((x0:Int)+1) (∃x0':Nat,(x0'<=List.length l/\∀jz:Nat,jz<x0'->List.getD m (l.getD jz 0).toNat false=false)/\(List.length l-x0')<(List.length l-x0)/\true=true/\((nI ((x0:Int)+1):Value)=nI (x0':Int)/\jm9 l)/\(True)/\(True)/\(True)))))))) ((.bool false:Value)=sp))))
theorem zp(sp:Value)(l:List Int)(m:List Bool):vF prog msk (dm 0) 100000 true 40 true 52 [slQ 1 2 l.length,.func (.func 54) #[] #[pt 2]] (aI [.cells false 0 jm1,.cells true 1 (l.flatMap aq),.cells true 0 [slN 3 m.length],.cells true 1 (m.flatMap af)]) (some [])
 (.go 7 (.inv 3 (Nat) (0) [] [] (fun x0=>[(8,nI (x0:Int)),(1,.func (.func 54) #[] #[pt 2]),(0,slQ 1 2 l.length),(7,nI ((l.length:Nat):Int))]) (fun x0=>[]) (fun x0=>[]) (fun x0=>[]) (fun x0=>(x0<=List.length l/\∀jz:Nat,jz<x0->List.getD m (l.getD jz 0).toNat false=false)) (fun x0=>(List.length l-x0)) (fun x0 => .go 0 (.fork (.go 4 (.need (.val (nI (l.getD x0 0)) (.go 3 (.need (.val (.bool (m.getD (l.getD x0 0).toNat false)) (.go 0 (.fork (.auto) (.go 0 (.slot 18 (nI ((x0:Int)+1)) (.go 0 (.again [])))))))))))) (.auto)))))
 (fun v _ _=>v=sp)=pX sp l m:=by kernel_rfl
theorem rX{H:Heap}{p:Pl}{K:ab (sfP p)}{W m:Nat}(hn:[0,1,2,3,4,5,6,W,m].Nodup){Q:Prop}(h:H[0]?=some bF/\H[W]?=some (.cells true 0 (wkC p 1 2 3 4 5 6 m))/\H[1]?=some (.cells true 1 (p.land.flatMap af))/\H[2]?=some (.cells false 0 (p.cts.flatMap chC))/\H[3]?=some (.cells true 1 (p.chan.flatMap af)) /\
  H[4]?=some (.cells true 2 (p.shp.th.flatMap ptC))/\H[5]?=some (.cells true 2 (p.shp.wa.flatMap ptC))/\H[6]?=some (.cells true 2 (p.shp.ic.flatMap ptC))/\H[m]?=some (.map (knE K.1))/\Q):je H p K 1 2 3 4 5 6 W m:=by
 obtain ⟨a0,a7,a1,a2,a3,a4,a5,a6,a8,_⟩:=h
 exact ⟨hn,a0,a1,a2,a3,a4,a5,a6,a7,a8⟩
theorem mw{H:Heap}{p:Pl}{K:ab (sfP p)}{Q:Prop}(h:H[0]?=some bF/\H[8]?=some (.cells true 0 (wkC p 1 2 3 4 5 6 9))/\H[1]?=some (.cells true 1 (p.land.flatMap af))/\H[2]?=some (.cells false 0 (p.cts.flatMap chC))/\H[3]?=some (.cells true 1 (p.chan.flatMap af)) /\
  H[4]?=some (.cells true 2 (p.shp.th.flatMap ptC))/\H[5]?=some (.cells true 2 (p.shp.wa.flatMap ptC))/\H[6]?=some (.cells true 2 (p.shp.ic.flatMap ptC))/\H[9]?=some (.map (knE K.1))/\Q):je H p K 1 2 3 4 5 6 8 9:=rX (by decide) h
theorem wT{H:Heap}{p:Pl}{Q:Prop}(h:H[0]?=some bF/\H[1]?=some (.cells true 1 (p.land.flatMap af))/\H[2]?=some (.cells false 0 (p.cts.flatMap chC))/\H[3]?=some (.cells true 1 (p.chan.flatMap af)) /\
  H[4]?=some (.cells true 2 (p.shp.th.flatMap ptC))/\H[5]?=some (.cells true 2 (p.shp.wa.flatMap ptC))/\H[6]?=some (.cells true 2 (p.shp.ic.flatMap ptC))/\Q):gU H p 1 2 3 4 5 6:=by
 obtain ⟨a0,a1,a2,a3,a4,a5,a6,_⟩:=h
 exact ⟨by decide,a0,a1,a2,a3,a4,a5,a6⟩
theorem nD{p:Pl}(hp:uE p)(e0:bQ p=0){H:Heap}{l c n t w i N M:Nat}(hN:H.length=N)(hM:M=N+1)(a:gU H p l c n t w i) :
  ae prog 30 [plV p l c n t w i] H [] (Is (.tuple #[pt N,nI 0]) (H ++ [.cells true 0 (wkC p l c n t w i M),.map (knE (ab.nil (sfP p)).1)])):=by
 subst hN hM
 exact FP hp e0 a
theorem FY{p:Pl}(hp:uE p)(e0:bQ p=0){H:Heap}{l c n t w i:Nat}(a:gU H p l c n t w i) :
  ae prog 8 [plV p l c n t w i] H [] (Is (.tuple #[.slice (some ⟨H.length,0,some 1⟩) (bi p).length (bi p).length,nI (bl p),nI (bI p)]) (H ++ [.cells true 4 ((bi p).flatMap lgC)])):=by
 have o:=ip e0
 refine jV (fun j => .tuple #[.slice (some ⟨j,0,some 1⟩) (bi p).length (bi p).length,nI (bl p),nI (bI p)]) (new:=[.cells true 4 ((bi p).flatMap lgC)]) (Eq.mpr (IB p) ?_) (kY p) rfl ⟨⟨_,_,rfl,cm _ _⟩,trivial⟩ a.1 a.objs rfl (fun j=>rfl) rfl
 delta Ff jmd jm4 jmb jm5 jm6 jm7 jm8 jm1 jm2 jm0 jmc jma nI slQ pt ac fk kbq
 refine ⟨?_,fun H' hn h=>nD hp e0 hn rfl (wT h),?_,fun H' hn h=>tn o (mw h),fun r1 _=>⟨fun q =>?_,fun q =>?_⟩⟩
 ·repeat' first|exact trivial|refine ⟨rfl,?_⟩
 ·repeat' first|exact trivial|refine ⟨rfl,?_⟩
 ·have h:=aR q
  rw[show bi p=[] from if_pos h,show bl p=0 from if_pos h,show bI p=51 from if_pos h]
  repeat' first|exact trivial|exact rfl|exact ad _|refine aQ ?_ ?_|exact ed _ _ _ (.inl rfl)|refine wA ?_|refine ⟨rfl,?_⟩|apply And.intro
 ·have h:=aV q
  rw[show bi p=dT p (bC p) from if_neg h,show bl p=bC p from if_neg h,show bI p=0 from if_neg h]
  refine ⟨?_,fun H' hn hh=>hn ▸ FZ o (Gs o (by omega)) (mw hh),fun r2 _ =>?_⟩
  ·repeat' first|exact trivial|refine ⟨rfl,?_⟩
  ·repeat' first|exact cm _ _|exact trivial|exact ad _|refine ⟨rfl,?_⟩|apply And.intro
theorem BV{m:List Bool}{l:List Int}(h:∀j,j<l.length->m.getD (Int.toNat (l.getD j 0)) false=false):anyM m l=false:=by
 unfold anyM
 rw[List.any_eq_false]
 intro x hx
 obtain ⟨j,hj,rfl⟩:=List.getElem_of_mem hx
 have:=h j hj
 rw[List.getD_eq_getElem?_getD (l:=l),List.getElem?_eq_getElem hj]at this
 have e:m.getD (Int.toNat l[j]) false=false:=this
 rw[e];decide
theorem yR{l:List Int}{m:List Bool}(hl:l.length<=1000000)(hr:∀j,j<l.length->0<=l.getD j 0/\l.getD j 0<(m.length:Int)){H:Heap}{L B M:Nat}(hnd:[0,L,B,M].Nodup)(h0:H[0]?=some bF)(h1:H[L]?=some (.cells true 1 (l.flatMap aq)))
  (h2:H[B]?=some (.cells true 0 [slN M m.length])) (h3:H[M]?=some (.cells true 1 (m.flatMap af))) :
  ae prog 52 [slQ L 2 l.length,.func (.func 54) #[] #[pt B]] H [] (Is (.bool (anyM m l)) H):=by
 have i1:ap 3 (.cells true 1 (l.flatMap aq))=true:=(eU (S:=fun _=>none) (d:=0) (bf 0 l)).2
 have i2:∀S,rno S 3 (.cells true 1 (l.flatMap aq)) = .cells true 1 (l.flatMap aq):=fun S=>congrArg (aa.cells true 1) (eU (d:=0) (bf 0 l)).1
 refine jU (os:=[bF,.cells true 1 (l.flatMap aq),.cells true 0 [slN 3 m.length],.cells true 1 (m.flatMap af)]) (ids:=[0,L,B,M]) (Eq.mpr (zp _ l m) ?_)
  (by show (ap 3 bF&&(ap 3 (.cells true 1 (l.flatMap aq))&&(ap 3 (.cells true 0 [slN 3 m.length])&&(ap 3 (.cells true 1 (m.flatMap af))&&true))))=true;rw[i1,kE];rfl) rfl rfl (fun _=>rfl) hnd ⟨h0,by rw[i2];exact h1,h2,by rw[fp];exact h3,trivial⟩ rfl rfl
 delta pX jm9 nI slQ pt fk nw eR wR ixq lq
 refine ⟨rfl,⟨Nat.zero_le _,fun j hj=>absurd hj (Nat.not_lt_zero j)⟩,⟨rfl,?_⟩,fun _=>rfl,fun x0 hx0=>⟨fun q =>?_,fun q =>?_⟩⟩
 ·repeat' first|exact trivial|exact ad _|refine ⟨rfl,?_⟩|refine ⟨trivial,?_⟩|apply And.intro
 ·have hx:=aR q
  have hx':x0<l.length:=by omega
  have hr0:=hr x0 hx'
  refine ⟨by omega,cJ hx' (by omega),by omega,dl (by omega) (by omega),fun r =>?_,fun r =>?_⟩
  ·have e:anyM m l=true:=by
    unfold anyM
    rw[List.any_eq_true]
    exact ⟨l.getD x0 0,cQ hx',r⟩
   rw[e,decide_eq_true (by omega)]
  ·refine ⟨ag (by omega),x0+1,⟨by omega,fun j hj =>?_⟩,by omega,rfl,?_⟩
   ·by_cases e:j=x0
    ·rw[e];exact r
    ·exact hx0.2 j (by omega)
   ·repeat' first|exact trivial|exact ad _|refine ⟨rfl,?_⟩|refine ⟨trivial,?_⟩|apply And.intro
 ·have hx:=aV q
  rw[BV fun j hj=>hx0.2 j (by omega)]
def leS(s:Span):Span:=⟨s.lo,s.lo⟩
def leC(c:Cell):Cell:=⟨leS c.aW,leS c.ai,leS c.aw,leS c.am⟩
def iw(c:Cht)(k:Nat):List Cell:=(c.cells.take k).map leC
def leH(c:Cht):Cht:=⟨c.w,c.h,c.hr,iw c c.cells.length⟩
def dI(l:List Cht):Nat->List Cht
 |0=>l
 |i+1=>(dI l i).set i (leH ((dI l i).getD i zCh))
def bD(p:Pl):Pl:={ p with cts:=dI p.cts p.cts.length }
theorem gu(l:List Cht):∀i,(dI l i).length=l.length
 |0=>rfl
 |i+1=>by show (List.set ..).length=_;rw[List.length_set,gu l i]
theorem gv(l:List Cht):∀(i:Nat),i<=l.length->∀j,j<l.length->(dI l i).getD j zCh=if j<i then leH (l.getD j zCh) else l.getD j zCh
 |0,_,j,_=>by rw[if_neg (Nat.not_lt_zero j)];rfl
 |i+1,hi,j,hj=>by
  show ((dI l i).set i _).getD j zCh=_
  rw[cK (by rw[gu];omega),gv l i (by omega) i (by omega),if_neg (Nat.lt_irrefl i)]
  by_cases e:j=i
  ·rw[if_pos e,e,if_pos (by omega)]
  ·rw[if_neg e,gv l i (by omega) j hj]
   by_cases f:j<i
   ·rw[if_pos f,if_pos (by omega)]
   ·rw[if_neg f,if_neg (by omega)]
theorem AB(c:Cht)(k:Nat)(h:k<=c.cells.length):(iw c k).length=k:=by unfold iw;rw[List.length_map,List.length_take];omega
theorem yL{c:Cht}{k:Nat}(h:k<c.cells.length):iw c (k+1)=iw c k ++ [leC (c.cells.getD k ak)]:=by
 unfold iw
 rw[List.take_add_one,List.map_append,List.getD_eq_getElem?_getD,List.getElem?_eq_getElem h];rfl
def ctI(l:List Int)(x:Int):Bool:=l.any fun y=>y == x
def acB(p:Pl)(c t:Int)(x:Leg):Bool:=ctI (bsP p c) x.to&&(!decide (x.dep<t)&&(inB x.spd 10 250&&(!decide (x.arr<x.dep)&&(x.arr-x.dep == tkP p x.spd))))
def acD(p:Pl)(x:Leg)(j:Nat):Int:=sfP p x.to (Int.tdiv (x.dep+(j:Int)) 6)-x.spd
def Ap(p:Pl)(x:Leg)(m:Int):Nat->Int
 |0=>m
 |j+1=>if acD p x j<Ap p x m j then acD p x j else Ap p x m j
def yE(p:Pl)(x:Leg)(n:Nat):Bool:=(List.range n).all fun j => !decide (acD p x j<0)
def lgN(x:Leg):Nat:=Int.toNat (x.arr-x.dep)
def acE(p:Pl)(c t:Int)(x:Leg):Int:=if acB p c t x=false then 50 else if endP p<x.arr then 12 else if wtB p c t x.dep=false then 51 else if yE p x (lgN x)=false then 51 else 0
def acC(p:Pl)(l:List Leg):Nat->Int
 |0=>p.frm
 |k+1=>(l.getD k zL).to
def acT(l:List Leg):Nat->Int
 |0=>0
 |k+1=>(l.getD k zL).arr
def acM(p:Pl)(l:List Leg):Nat->Int
 |0=>250
 |k+1=>Ap p (l.getD k zL) (acM p l k) (lgN (l.getD k zL))
def acU(p:Pl)(l:List Leg)(k:Nat):Int:=acE p (acC p l k) (acT l k) (l.getD k zL)
def ru(p:Pl)(l:List Leg):Int:=if 300<l.length then 2 else bV (cU (acU p l) l.length) (if acC p l l.length=p.to then 0 else 50)
def D6(p:Pl)(l:List Leg):Int:=if ru p l=0 then acT l l.length else 0
def BX(p:Pl)(l:List Leg):Int:=if ru p l=0 then acM p l l.length else 0
theorem lw(f:Int->Bool):∀(n:Nat) (lo hi:Int),lo<=hi->lo<=bsG f n lo hi/\bsG f n lo hi<=hi
 |0,lo,hi,h=>⟨Int.le_refl _,h⟩
 |n+1,lo,hi,h=>by
  unfold bsG
  by_cases q:lo<hi
  ·rw[if_pos q]
   have hd:0<=Int.tdiv (hi-lo+1) 2/\Int.tdiv (hi-lo+1) 2<=hi-lo/\1<=Int.tdiv (hi-lo+1) 2:=by
    rw[Int.tdiv_eq_ediv_of_nonneg (by omega)];omega
   by_cases g:f (lo+Int.tdiv (hi-lo+1) 2)=true
   ·rw[if_pos g]
    have:=lw f n (lo+Int.tdiv (hi-lo+1) 2) hi (by omega)
    omega
   ·rw[if_neg g]
    have:=lw f n lo (lo+Int.tdiv (hi-lo+1) 2-1) (by omega)
    omega
  ·rw[if_neg q];exact ⟨Int.le_refl _,h⟩
theorem Bq(s:Shp)(x:Ice)(ch:Bool):0<=(goS s x ch).1/\(goS s x ch).1<=250:=by
 unfold goS grG
 split
 ·have:=lw (mbB s x ch) (Int.toNat (250-10)) 10 250 (by omega)
  exact ⟨by omega,this.2⟩
 ·exact ⟨Int.le_refl _,by decide⟩
theorem zN(p:Pl)(c t:Int):0<=sfP p c t/\sfP p c t<=250:=by
 unfold sfP sfX
 split
 ·split
  ·unfold sfS
   split
   ·exact ⟨Int.le_refl _,by decide⟩
   ·split
    ·exact ⟨Int.le_refl _,by decide⟩
    ·exact Bq _ _ _
  ·exact ⟨Int.le_refl _,(by decide:(0:Int)<=250)⟩
 ·exact ⟨Int.le_refl _,(by decide:(0:Int)<=250)⟩
theorem B0{p:Pl}{c t:Int}{x:Leg}(h:acE p c t x=0):acB p c t x=true/\x.arr<=endP p/\wtB p c t x.dep=true/\yE p x (lgN x)=true:=by
 unfold acE at h
 by_cases a:acB p c t x=false
 ·rw[if_pos a]at h;exact absurd h (by decide)
 rw[if_neg a]at h
 by_cases b:endP p<x.arr
 ·rw[if_pos b]at h;exact absurd h (by decide)
 rw[if_neg b]at h
 by_cases d:wtB p c t x.dep=false
 ·rw[if_pos d]at h;exact absurd h (by decide)
 rw[if_neg d]at h
 by_cases e:yE p x (lgN x)=false
 ·rw[if_pos e]at h;exact absurd h (by decide)
 exact ⟨by simpa using a,Int.not_lt.1 b,by simpa using d,by simpa using e⟩
theorem wj{p:Pl}{c t:Int}{x:Leg}(h1:acB p c t x=true)(h2:x.arr<=endP p)(h3:wtB p c t x.dep=true)(h4:yE p x (lgN x)=true):acE p c t x=0:=by
 unfold acE
 rw[if_neg (by rw[h1];decide),if_neg (by omega),if_neg (by rw[h3];decide),if_neg (by rw[h4];decide)]
theorem i7{p:Pl}{c t:Int}{x:Leg}:acB p c t x=true ↔ ctI (bsP p c) x.to=true/\t<=x.dep/\inB x.spd 10 250=true/\x.dep<=x.arr/\x.arr-x.dep=tkP p x.spd:=by
 unfold acB;simp only[Bool.and_eq_true,Bool.not_eq_true',decide_eq_false_iff_not,beq_iff_eq,Int.not_lt]
theorem DV{l:List Int}{x:Int}(h:ctI l x=true):x∈l:=by
 unfold ctI at h
 rw[List.any_eq_true]at h
 obtain ⟨y,hy,e⟩:=h
 rw[<- eq_of_beq e];exact hy
theorem ra{e:Nat->Int}:∀{n:Nat},(∀i,i<n->e i=0)->cU e n=0
 |0,_=>rfl
 |n+1,h=>gR (ra fun i hi=>h i (by omega)) (h n (by omega))
def GLe(G G':List (List Bool)):Prop:=∀t j:Nat,(G.getD t []).getD j false=true->(G'.getD t []).getD j false=true
theorem GLe.refl(G:List (List Bool)):GLe G G:=fun _ _ h=>h
theorem GLe.trans{A B C:List (List Bool)}(h:GLe A B)(g:GLe B C):GLe A C:=fun t j q=>g t j (h t j q)
theorem wN(G:List (List Bool))(a c:Int):GLe G (dg G a c):=fun t j h=>by
 unfold dg
 by_cases ha:Int.toNat a<G.length
 ·rw[cK ha]
  by_cases e:t=Int.toNat a
  ·rw[if_pos e]
   by_cases hc:Int.toNat c<(G.getD (Int.toNat a) []).length
   ·rw[cK hc]
    by_cases f:j=Int.toNat c
    ·rw[if_pos f]
    ·rw[if_neg f,<- e];exact h
   ·rw[List.set_eq_of_length_le (by omega),<- e];exact h
  ·rw[if_neg e];exact h
 ·rw[List.set_eq_of_length_le (by omega)];exact h
theorem qs{G:List (List Bool)}{a c:Int}(ha:Int.toNat a<G.length)(hc:Int.toNat c<(G.getD (Int.toNat a) []).length):((dg G a c).getD (Int.toNat a) []).getD (Int.toNat c) false=true:=by
 unfold dg
 rw[cK ha,if_pos rfl,cK hc,if_pos rfl]
theorem il:∀(l:List Leg) (G:List (List Bool)),GLe G (ca G l)
 | [],G=>GLe.refl G
 |x :: l,G=>(wN G x.arr x.to).trans (il l (dg G x.arr x.to))
theorem sL{N n:Nat}:∀{l:List Leg} {G:List (List Bool)},GOk N n G->∀{x:Leg},x∈l->Int.toNat x.arr<N->Int.toNat x.to<n->((ca G l).getD (Int.toNat x.arr) []).getD (Int.toNat x.to) false=true
 | [],_,_,_,h,_,_=>absurd h (by simp)
 |y :: l,G,g,x,h,ha,hc=>by
  rcases List.mem_cons.1 h with e|h
  ·subst e
   exact il l (dg G x.arr x.to) _ _ (qs (by rw[g.gl];exact ha) (by rw[g.rl _ ha];exact hc))
  ·exact sL (l:=l) (g.dg y.arr y.to) h ha hc
theorem Gp(p:Pl)(t j:Nat)(G:List (List Bool)):GLe G (cSt p t j G):=by
 unfold cSt
 by_cases w:wtB p (j:Int) (t:Int) ((t:Int)+1)=true
 ·rw[if_pos w];exact (wN _ _ _).trans (il _ _)
 ·rw[if_neg w];exact il _ _
theorem BM{p:Pl}{t:Nat}{G:List (List Bool)}(j:Nat):GLe (cTo p t G j) (cTo p t G (j+1)):=by
 show GLe _ (if _ then _ else _)
 by_cases q:(G.getD t []).getD j false=true
 ·rw[if_pos q];exact Gp _ _ _ _
 ·rw[if_neg q];exact GLe.refl _
theorem wb{p:Pl}{t:Nat}{G:List (List Bool)}{i:Nat}:∀{j:Nat},i<=j->GLe (cTo p t G i) (cTo p t G j)
  | 0, h => by obtain rfl : i = 0 := by omega
               exact GLe.refl _
  | j + 1, h => by
    by_cases e:i=j+1
    · subst e;exact GLe.refl _
    · exact (wb (j:=j) (by omega)).trans (BM j)
theorem vX{p:Pl}{a:Nat}:∀{b:Nat},a<=b->GLe (gTo p a) (gTo p b)
  | 0, h => by obtain rfl : a = 0 := by omega
               exact GLe.refl _
  | b + 1, h => by
    by_cases e:a=b+1
    · subst e;exact GLe.refl _
    · exact (vX (b:=b) (by omega)).trans (wb (i:=0) (Nat.zero_le _))
theorem D0{p:Pl}{t j u:Nat}{G:List (List Bool)}(hu:u<=t):(cSt p t j G).getD u []=G.getD u []:=by
 have one:∀(G:List (List Bool)) (a c:Int),(t:Int)<a->(dg G a c).getD u []=G.getD u []:=fun G a c ha=>by
  unfold dg
  by_cases h:Int.toNat a<G.length
  ·rw[cK h,if_neg (by omega)]
  ·rw[List.set_eq_of_length_le (by omega)]
 have many:∀(l:List Leg) (G:List (List Bool)),(∀x∈l,(t:Int)<x.arr)->(ca G l).getD u []=G.getD u []:=fun l=>by
  induction l with
  |nil=>intro G _;rfl
  |cons x l ih =>
   intro G h
   exact (ih (dg G x.arr x.to) fun y hy=>h y (List.mem_cons_of_mem _ hy)).trans (one G x.arr x.to (h x List.mem_cons_self))
 unfold cSt
 by_cases w:wtB p (j:Int) (t:Int) ((t:Int)+1)=true
 ·rw[if_pos w,many _ _ fun x hx=>(dX hx).2.2.1,one _ _ _ (by omega)]
 ·rw[if_neg w,many _ _ fun x hx=>(dX hx).2.2.1]
theorem rg{p:Pl}{t u:Nat}{G:List (List Bool)}(hu:u<=t):∀j,(cTo p t G j).getD u []=G.getD u []
 |0=>rfl
 |j+1=>by
  show (if _ then _ else _:List (List Bool)).getD u []=_
  by_cases q:(G.getD t []).getD j false=true
  ·rw[if_pos q,D0 hu];exact rg hu j
  ·rw[if_neg q];exact rg hu j
theorem xp{p:Pl}{u:Nat}:∀{k m:Nat},u<=k->k<=m->(gTo p m).getD u []=(gTo p k).getD u []
  | k, 0, _, h => by obtain rfl : k = 0 := by omega
                     rfl
  | k, m + 1, hu, h => by
    by_cases e:k=m+1
    · subst e;rfl
    · exact (rg (by omega) _).trans (xp (k:=k) (m:=m) hu (by omega))
theorem wH{p:Pl}(o:bA p){t j:Nat}(ht:(t:Int)<endP p)(hj:j<p.land.length)(h:((tbP p).getD t []).getD j false=true) :
  ∃G,GOk (NT p) p.chan.length G/\GLe (cSt p t j G) (tbP p):=by
 have hct:=o.cts
 have he:t+1<=Int.toNat (endP p):=by omega
 have h':((gTo p t).getD t []).getD j false=true:=by
  rw[<- xp (p:=p) (u:=t) (k:=t) (m:=Int.toNat (endP p)) (Nat.le_refl _) (by omega)];exact h
 refine ⟨cTo p t (gTo p t) j,(GOk.gTo p t).cTo t j,?_⟩
 have hk:t<NT p:=by show t<Int.toNat (endP p+1);omega
 have hl:j+1<=((gTo p t).getD t []).length:=by rw[(GOk.gTo p t).rl t hk,o.chan];omega
 have e:cSt p t j (cTo p t (gTo p t) j)=cTo p t (gTo p t) (j+1):=by
  show _=(if _ then _ else _:List (List Bool))
  rw[if_pos h']
 rw[e]
 exact (wb hl).trans (vX (a:=t+1) he)
theorem mQ{p:Pl}(o:bA p){t c:Int}(r:Rch p t c):t<=endP p->0<=t/\(0<=c/\c<(p.land.length:Int))/\((tbP p).getD (Int.toNat t) []).getD (Int.toNat c) false=true:=by
 have hch:=o.chan
 have hN:NT p=Int.toNat (endP p+1):=rfl
 induction r with
 |start =>
  intro h
  have hf:=(cW o.frm).1
  refine ⟨Int.le_refl _,hf,vX (a:=0) (Nat.zero_le _) _ _ ?_⟩
  have g:GOk (NT p) p.chan.length (gTo p 0):=GOk.gTo p 0
  have hG:(List.replicate (NT p) (List.replicate p.chan.length false)).length=NT p:=List.length_replicate
  refine qs (by rw[hG];omega) ?_
  have h0:Int.toNat 0<NT p:=by omega
  rw[List.getD_eq_getElem?_getD,List.getElem?_replicate,if_pos h0]
  show Int.toNat p.frm<(List.replicate p.chan.length false).length
  rw[List.length_replicate];omega
 | @wait t c r w ht ih =>
  intro h
  obtain ⟨h0,hc,q⟩:=ih (by omega)
  refine ⟨by omega,hc,?_⟩
  have et:((Int.toNat t:Nat):Int)=t:=by omega
  have ec:((Int.toNat c:Nat):Int)=c:=by omega
  obtain ⟨G,g,le⟩:=wH o (t:=Int.toNat t) (j:=Int.toNat c) (by omega) (by omega) q
  refine le _ _ ?_
  unfold cSt
  rw[et,ec,if_pos w]
  refine il _ _ _ _ (qs (by rw[g.gl];omega) ?_)
  rw[g.rl _ (by omega)];omega
 | @leg t c x r ht hx ih =>
  intro h
  obtain ⟨h0,hc,q⟩:=ih (by omega)
  have hm:=dX hx
  have hto:=(nW o hc hm.1).1
  refine ⟨by omega,hto,?_⟩
  have et:((Int.toNat t:Nat):Int)=t:=by omega
  have ec:((Int.toNat c:Nat):Int)=c:=by omega
  obtain ⟨G,g,le⟩:=wH o (t:=Int.toNat t) (j:=Int.toNat c) (by omega) (by omega) q
  refine le _ _ ?_
  unfold cSt
  rw[et,ec]
  refine sL (N:=NT p) (n:=p.chan.length) ?_ hx (by omega) (by omega)
  by_cases w:wtB p c t (t+1)=true
  ·rw[if_pos w];exact g.dg _ _
  ·rw[if_neg w];exact g
theorem i6{p:Pl}(o:bA p){t:Int}(r:Rch p t p.to)(h:t<=endP p):0<=bC p/\bC p<=t:=by
 obtain ⟨h0,hc,q⟩:=mQ o r h
 have hct:=o.cts
 have q':atB p (Int.toNat t)=true:=q
 have hl:=(mF p).gl
 have hN:NT p=Int.toNat (endP p+1):=rfl
 rcases lA o with ⟨_,f⟩|⟨k,e,h1,h2,f⟩
 ·rw[f (Int.toNat t) (by omega)]at q';cases q'
 ·by_cases l:Int.toNat t<k
  ·rw[f (Int.toNat t) l]at q';cases q'
  ·omega
theorem sW(p:Pl)(to t:Int):∀n,br p to t n<=250
 |0=>Int.le_refl _
 |n+1=>by
  show (if _ then _ else _)<=(250:Int)
  split
  ·exact (zN _ _ _).2
  ·exact sW p to t n
theorem wX(p:Pl)(to t:Int):∀{n j:Nat},j<n->br p to t n<=sfP p to (Int.tdiv (t+(j:Int)) 6)
 |0,_,h=>absurd h (Nat.not_lt_zero _)
 |n+1,j,h=>by
  show (if _ then _ else _)<=sfP p to (Int.tdiv (t+(j:Int)) 6)
  by_cases e:j=n
  ·subst e
   split
   ·exact Int.le_refl _
   ·omega
  ·have:=wX p to t (n:=n) (j:=j) (by omega)
   split
   ·omega
   ·exact this
theorem CI(p:Pl)(to t:Int)(n:Nat):spL p to t n<=br p to t n:=by
 unfold spL
 split
 ·split
  ·omega
  ·exact Int.le_refl _
 ·exact Int.le_refl _
theorem Ai{p:Pl}{to t:Int}{n k:Nat}(h:okL p to t n=true)(hk:k<n):goB p to t (k+1)=true:=by
 unfold okL at h
 exact List.all_eq_true.1 h k (List.mem_range.2 hk)
theorem FI{p:Pl}{c t:Int}{x:Leg}(h:x∈lgP p c t):acE p c t x=0:=by
 have h':=h
 unfold lgP at h'
 obtain ⟨to,h1,h2⟩:=List.mem_flatMap.1 h'
 obtain ⟨k,h3,h4⟩:=jC h2
 obtain ⟨e1,e2,e3,e4,e5,e6⟩:=la h4
 have g:=Ai e5 (Nat.lt_succ_self k)
 unfold goB at g
 rw[Bool.and_eq_true,decide_eq_true_eq,decide_eq_true_eq]at g
 have l1:=CI p to t (k+1)
 have l2:=sW p to t (k+1)
 have hct:ctI (bsP p c) x.to=true:=by
  unfold ctI
  rw[List.any_eq_true]
  exact ⟨x.to,by rw[e1];exact h1,beq_self_eq_true _⟩
 refine wj (i7.2 ⟨hct,by omega,bc.2 ⟨by omega,by omega⟩,by omega,by omega⟩) (by omega) ?_ ?_
 ·unfold wtB;rw[e2,show Int.toNat (t-t)=0 by omega];rfl
 ·have hn:lgN x=k+1:=by unfold lgN;omega
  unfold yE
  rw[hn,List.all_eq_true]
  intro j hj
  have hj':=List.mem_range.1 hj
  have l3:=wX p to t (n:=k+1) (j:=j) hj'
  have:¬ acD p x j<0:=by unfold acD;rw[e1,e2,e4];omega
  rw[decide_eq_false this];rfl
theorem BZ{p:Pl}{c s t:Int}{x:Leg}(hs:s<=t)(w:wtB p c s x.dep=true)(h:acE p c t x=0):acE p c s x=0:=by
 obtain ⟨a,b,d,e⟩:=B0 h
 obtain ⟨b1,b2,b3,b4,b5⟩:=i7.1 a
 exact wj (i7.2 ⟨b1,by omega,b3,b4,b5⟩) b w e
theorem mu(p:Pl)(c t:Int):wtB p c t t=true:=by
 unfold wtB;rw[show Int.toNat (t-t)=0 by omega];rfl
theorem mv{p:Pl}{c s t:Int}(hs:s<=t)(w:wtB p c s t=true)(q:¬ sfP p c (Int.tdiv t 6)=0):wtB p c s (t+1)=true:=by
 unfold wtB at *
 rw[show Int.toNat (t+1-s)=Int.toNat (t-s)+1 by omega,oT,w,show s+((Int.toNat (t-s):Nat):Int)=t by omega]
 simpa using q
theorem wx{p:Pl}{c t:Int}(q:¬ sfP p c (Int.tdiv t 6)=0):wtB p c t (t+1)=true:=mv (Int.le_refl t) (mu p c t) q
theorem xE{p:Pl}{l:List Leg}{x:Leg}{k:Nat}(h:k<=l.length):acC p (l ++ [x]) k=acC p l k:=by
 cases k with
 |zero=>rfl
 |succ k=>show ((l ++ [x]).getD k zL).to=(l.getD k zL).to;rw[List.getD_eq_getElem?_getD,List.getD_eq_getElem?_getD,List.getElem?_append_left (by omega)]
theorem xD{l:List Leg}{x:Leg}{k:Nat}(h:k<=l.length):acT (l ++ [x]) k=acT l k:=by
 cases k with
 |zero=>rfl
 |succ k=>show ((l ++ [x]).getD k zL).arr=(l.getD k zL).arr;rw[List.getD_eq_getElem?_getD,List.getD_eq_getElem?_getD,List.getElem?_append_left (by omega)]
theorem ls{l:List Leg}{x:Leg}:(l ++ [x]).getD l.length zL=x:=by
 rw[List.getD_eq_getElem?_getD,List.getElem?_append_right (Nat.le_refl _),Nat.sub_self];rfl
theorem D9{p:Pl}{l:List Leg}{x:Leg}{k:Nat}(h:k<l.length):acU p (l ++ [x]) k=acU p l k:=by
 unfold acU
 rw[xE (by omega),xD (by omega),List.getD_eq_getElem?_getD,List.getElem?_append_left h,<- List.getD_eq_getElem?_getD]
theorem D7{p:Pl}{l:List Leg}{x:Leg}(h:cU (acU p l) l.length=0)(e:acE p (acC p l l.length) (acT l l.length) x=0):cU (acU p (l ++ [x])) (l ++ [x]).length=0:=by
 rw[aE,show l.length + [x].length=l.length+1 from rfl]
 refine gR (ra fun i hi=>by rw[D9 hi];exact fw h i hi) ?_
 unfold acU
 rw[xE (Nat.le_refl _),xD (Nat.le_refl _),ls]
 exact e
theorem D8{p:Pl}{l:List Leg}{x:Leg}:acC p (l ++ [x]) (l ++ [x]).length=x.to/\acT (l ++ [x]) (l ++ [x]).length=x.arr:=by
 rw[aE,show l.length + [x].length=l.length+1 from rfl]
 exact ⟨by show ((l ++ [x]).getD l.length zL).to=_;rw[ls],by show ((l ++ [x]).getD l.length zL).arr=_;rw[ls]⟩
structure Walk(p:Pl)(l:List Leg)(c t:Int):Prop where
 ok:cU (acU p l) l.length=0
 at_:acC p l l.length=c
 r0:Rch p (acT l l.length) c
 r:Rch p t c
 le:acT l l.length<=t
 w:wtB p c (acT l l.length) t=true
 e:t<=endP p
theorem Walk.start{p:Pl}(o:bA p):Walk p [] p.frm 0:=by
 have hct:=o.cts
 exact ⟨rfl,rfl,.start,.start,Int.le_refl _,mu p p.frm 0,by unfold endP;omega⟩
theorem Walk.wait{p:Pl}{l:List Leg}{c t:Int}(k:Walk p l c t)(h:t<endP p)(q:10<=sfP p c (Int.tdiv t 6)):Walk p l c (t+1):=by
 have q':¬ sfP p c (Int.tdiv t 6)=0:=by omega
 have:=k.le
 exact ⟨k.ok,k.at_,k.r0,.wait k.r (wx q') h,by omega,mv k.le k.w q',by omega⟩
theorem Walk.leg{p:Pl}{l:List Leg}{c t:Int}{x:Leg}(k:Walk p l c t)(h:x∈lgP p c t):Walk p (l ++ [x]) x.to x.arr:=by
 have m:=dX h
 have a:=D8 (p:=p) (l:=l) (x:=x)
 have ht:t<endP p:=by omega
 have r':Rch p x.arr x.to:=.leg k.r ht h
 refine ⟨D7 k.ok ?_,a.1,by rw[a.2];exact r',r',by rw[a.2];omega,by rw[a.2];exact mu _ _ _,m.2.2.2⟩
 rw[k.at_]
 exact BZ k.le (by rw[m.2.1];exact k.w) (FI h)
theorem Walk.cell{p:Pl}(o:bA p){l:List Leg}{c t:Int}(k:Walk p l c t):0<=t/\0<=c/\c<(p.land.length:Int):=by
 have:=mQ o k.r k.e
 exact ⟨this.1,this.2.1⟩
theorem wL{p:Pl}(o:bA p){t c:Int}(r:Rch p t c):dE p.land c=true:=by
 induction r with
 |start=>exact o.frm
 |wait r w h ih=>exact ih
 |leg r h m ih=>exact ig.2 (nW o (cW ih).1 (dX m).1)
theorem xu{p:Pl}(o:bA p):6<=endP p/\endP p<=288:=by
 have:=o.cts
 unfold endP;omega
abbrev jn3:List Value:=[nI 4000,nI 8000,nI 14000,nI 24000,nI 40000,nI 90000]
abbrev jnn:aa:=.cells false 0 jn3
abbrev jn9(p:Pl):=p.land.flatMap af
abbrev jng(p:Pl):=p.cts.flatMap chC
abbrev jna(p:Pl):=p.chan.flatMap af
abbrev jnb(p:Pl):=p.shp.th.flatMap ptC
abbrev jnc(p:Pl):=p.shp.wa.flatMap ptC
abbrev jnd(p:Pl):=p.shp.ic.flatMap ptC
abbrev jn4(p:Pl):List Value:=[.agg #[nI p.w,nI p.h,slQ 1 2 p.land.length,slQ 2 2 p.cts.length,slQ 3 2 p.chan.length,nI p.shp.cls,nI p.shp.pow,nI p.shp.dra,nI p.shp.ton,slQ 4 2 p.shp.th.length,slQ 5 2 p.shp.wa.length,slQ 6 2 p.shp.ic.length,nI p.shp.slow,nI p.shp.aB,nI p.shp.rdg,nI p.shp.prs,nI p.size,nI p.frm,nI p.to]]
abbrev jn0(p:Pl):List Value:=[nI p.w,nI p.h,slQ 1 2 p.land.length,slQ 2 2 p.cts.length,slQ 3 2 p.chan.length,nI p.shp.cls,nI p.shp.pow,nI p.shp.dra,nI p.shp.ton,slQ 4 2 p.shp.th.length,slQ 5 2 p.shp.wa.length,slQ 6 2 p.shp.ic.length,nI p.shp.slow,nI p.shp.aB,nI p.shp.rdg,nI p.shp.prs,nI p.size,nI p.frm,nI p.to,nI (endP p),.map (some 9)]
abbrev jni(p:Pl):=knE (ab.nil (sfP p)).1
abbrev jn7(p:Pl):Int:=(p.chan.length:Nat)
abbrev jn8(p:Pl):Prop:=eR (.slice none 0 0)/\eR (nI 0)/\eR (pt 8)/\eR (pt 11)/\wR (slQ 12 1 (tbP p).length)/\eR (nI (((tbP p).length:Nat):Int))/\True
abbrev jnl:Prop:=(True)/\(True)
abbrev jne(p:Pl)(x2:Nat):Value:=.agg ⟨(((tbP p).getD x2 []).flatMap af)⟩
abbrev jn1(p:Pl)(x2:Nat):Prop:=eR (nI (((tbP p).length:Nat):Int))/\wR (slQ 12 1 (tbP p).length)/\eR (pt 11)/\eR (pt 8)/\eR (nI 0)/\eR (.slice none 0 0)/\eR (nI (x2:Int))/\(.iface (((tbP p).getD x2 []).length+1) (jne p x2):Value)=rn (sg 13 []) 3 (.iface (((tbP p).getD x2 []).length+1) (jne p x2):Value)/\(.iface (((tbP p).getD x2 []).length+1) (jne p x2):Value)=rn (sg 13 []) 3 (.iface (((tbP p).getD x2 []).length+1) (jne p x2):Value)/\eR (nI ((((tbP p).getD x2 []).length:Nat):Int))/\True
abbrev jn6(p:Pl)(x2 x3:Nat):=ir (dH p x2) ((tbP p).getD x2 []) x3
abbrev jnj(p:Pl):=rn (sg 7 [(7,13)]) 3 (.tuple #[slQ 7 1 (wlP p).length,nI (wlE p)]:Value)
abbrev jnh(p:Pl):Prop:=eR (pt 11)/\eR (pt 8)/\eR (nI 0)/\eR (.slice none 0 0)/\eR (nI (jn7 p))/\True
abbrev jn2(x3:Nat)(p:Pl):=nw ((x3:Int)+1) (∃x3':Nat,(x3'<=List.length (cn p))/\(List.length (cn p)-x3')<(List.length (cn p)-x3)/\true=true/\((nI ((x3:Int)+1):Value)=nI (x3':Int)/\wk (slQ 13 1 (dw p x3).length:Value) (slQ 13 1 (dw p x3').length:Value)/\jnh p)/\(True)/\((kbq 13 (.cells true 1 ((dw p x3).flatMap aq)) (.cells true 1 ((dw p x3').flatMap aq)))/\True)/\(True))
def Fd(p:Pl):Prop :=
 (((ac jnn)/\(ac (.cells true 1 (jn9 p)))/\(ac (.cells false 0 (jng p)))/\(ac (.cells true 1 (jna p)))/\(ac (.cells true 2 (jnb p)))/\(ac (.cells true 2 (jnc p)))/\(ac (.cells true 2 (jnd p)))/\True)/\(∀H':Heap,H'.length=8->(H'[0]?=some (.cells false 0 jn3:aa)/\H'[1]?=some (.cells true 1 (jn9 p):aa)/\H'[2]?=some (.cells false 0 (jng p):aa)/\H'[3]?=some (.cells true 1 (jna p):aa)/\H'[4]?=some (.cells true 2 (jnb p):aa)/\H'[5]?=some (.cells true 2 (jnc p):aa)/\H'[6]?=some (.cells true 2 (jnd p):aa)/\True)->ae prog 30 (jn4 p) H' [] (Is (.tuple #[pt 8,nI 0]) (H' ++ [(.cells true 0 (jn0 p):aa),(.map (jni p):aa)])))/\(((0:Int)<=(jn7 p)/\((jn7 p):Int)<=(jn7 p)/\((jn7 p):Int)<2 ^ 62/\1*((jn7 p):Int)<=2 ^ 48)/\(((ac jnn)/\(ac (.cells true 0 (jn0 p)))/\(ac (.cells true 1 (jn9 p)))/\(ac (.cells false 0 (jng p)))/\(ac (.cells true 1 (jna p)))/\(ac (.cells true 2 (jnb p)))/\(ac (.cells true 2 (jnc p)))/\(ac (.cells true 2 (jnd p)))/\(ac (.map (jni p)))/\True)/\(∀H':Heap,H'.length=12->(H'[0]?=some (.cells false 0 jn3:aa)/\H'[8]?=some (.cells true 0 (jn0 p):aa)/\H'[1]?=some (.cells true 1 (jn9 p):aa)/\H'[2]?=some (.cells false 0 (jng p):aa)/\H'[3]?=some (.cells true 1 (jna p):aa)/\H'[4]?=some (.cells true 2 (jnb p):aa)/\H'[5]?=some (.cells true 2 (jnc p):aa)/\H'[6]?=some (.cells true 2 (jnd p):aa)/\H'[9]?=some (.map (jni p):aa)/\True)->ae prog 51 [pt 8] H' [9] (fun y H2 => ∃z:ab (sfP p),True/\y=slQ 12 1 (tbP p).length/\H2=((List.set H' 9 (.map (knE z.1):aa)) ++ [(.cells true 1 (List.map dV (tbP p)):aa)])))/\(∀r1:ab (sfP p),True->(lq (0<=List.length (tbP p)) (true=true/\((nI 0:Value)=nI ((0:Nat):Int)/\jn8 p)/\((kbq 13 (.cells true 1 (cA [.bool false] p.chan.length)) (.cells true 1 ((dH p 0).flatMap af)))/\True)/\jnl) (∀x2:Nat,(x2<=List.length (tbP p))->(fk (decide (((x2:Int):Int)<(((tbP p).length:Nat):Int))) ((ixq (x2:Int) (tbP p).length)/\(((List.map dV (tbP p))[(0+Int.toNat (x2:Int)*1)]?=some (.iface (((tbP p).getD x2 []).length+1) (jne p x2)))/\(lq (0<=List.length ((tbP p).getD x2 [])) (true=true/\((nI 0:Value)=nI ((0:Nat):Int)/\jn1 p x2)/\((kbq 13 (.cells true 1 ((dH p x2).flatMap af)) (.cells true 1 ((ir (dH p x2) ((tbP p).getD x2 []) 0).flatMap af)))/\True)/\jnl) (∀x3:Nat,(x3<=List.length ((tbP p).getD x2 []))->(fk (decide (((x3:Int):Int)<((((tbP p).getD x2 []).length:Nat):Int))) ((ixq (x3:Int) ((tbP p).getD x2 []).length)/\(((((tbP p).getD x2 []).flatMap af)[(Int.toNat (x3:Int)*1)]?=some (.bool (((tbP p).getD x2 []).getD x3 false)))/\((ixq (x3:Int) p.chan.length)/\((((jn6 p x2 x3).flatMap af)[(0+Int.toNat (x3:Int)*1)]?=some (.bool ((jn6 p x2 x3).getD x3 false)))/\(fk ((jn6 p x2 x3).getD x3 false) ((ixq (x3:Int) p.chan.length)/\(((0+Int.toNat (x3:Int)*1)+1<=List.length ((jn6 p x2 x3).flatMap af))/\true=true/\(nw ((x3:Int)+1) (∃x3':Nat,(x3'<=List.length ((tbP p).getD x2 []))/\(List.length ((tbP p).getD x2 [])-x3')<(List.length ((tbP p).getD x2 [])-x3)/\true=true/\((nI ((x3:Int)+1):Value)=nI (x3':Int)/\jn1 p x2)/\((kbq 13 (.cells true 1 (ba ((jn6 p x2 x3).flatMap af) (0+Int.toNat (x3:Int)*1) [.bool true])) (.cells true 1 ((ir (dH p x2) ((tbP p).getD x2 []) x3').flatMap af)))/\True)/\jnl)))) ((ixq (x3:Int) p.chan.length)/\(((0+Int.toNat (x3:Int)*1)+1<=List.length ((jn6 p x2 x3).flatMap af))/\true=true/\(nw ((x3:Int)+1) (∃x3':Nat,(x3'<=List.length ((tbP p).getD x2 []))/\(List.length ((tbP p).getD x2 [])-x3')<(List.length ((tbP p).getD x2 [])-x3)/\true=true/\((nI ((x3:Int)+1):Value)=nI (x3':Int)/\jn1 p x2)/\((kbq 13 (.cells true 1 (ba ((jn6 p x2 x3).flatMap af) (0+Int.toNat (x3:Int)*1) [.bool (((tbP p).getD x2 []).getD x3 false)])) (.cells true 1 ((ir (dH p x2) ((tbP p).getD x2 []) x3').flatMap af)))/\True)/\jnl))))))))) (nw ((x2:Int)+1) (∃x2':Nat,(x2'<=List.length (tbP p))/\(List.length (tbP p)-x2')<(List.length (tbP p)-x2)/\true=true/\((nI ((x2:Int)+1):Value)=nI (x2':Int)/\jn8 p)/\((kbq 13 (.cells true 1 ((jn6 p x2 x3).flatMap af)) (.cells true 1 ((dH p x2').flatMap af)))/\True)/\jnl))))))) ((some (.cells true 1 ((dH p x2).flatMap af):aa)=some (.cells true 1 ((cn p).flatMap af):aa))/\((ixq p.to p.chan.length)/\((((cn p).flatMap af)[(0+Int.toNat p.to*1)]?=some (.bool ((cn p).getD p.to.toNat false)))/\(fk ((cn p).getD p.to.toNat false) (wk (.tuple #[.slice none 0 0,nI 9]:Value) (.tuple #[slQ 13 1 0,nI 9]:Value)/\(true=true/\wk (.tuple #[slQ 13 1 0,nI 9]:Value) (jnj p)/\((kbq 7 (.cells true 1 []) (.cells true 1 ((wlP p).flatMap aq)))/\True))) (lq (0<=List.length (cn p)) (true=true/\((nI 0:Value)=nI ((0:Nat):Int)/\wk (.slice none 0 0:Value) (slQ 0 1 (dw p 0).length:Value)/\jnh p)/\(True)/\(True/\True)/\(True)) (∀x3:Nat,(x3<=List.length (cn p))->(fk (decide (((x3:Int):Int)<(jn7 p))) (c1q 14 1 (.cells true 1 (jn9 p)) 43 [.agg #[nI p.w,nI p.h,slQ 1 2 p.land.length],nI (x3:Int)] (.bool (dE p.land (x3:Int))) (fk (dE p.land (x3:Int)) ((ixq (x3:Int) p.chan.length)/\((((cn p).flatMap af)[(0+Int.toNat (x3:Int)*1)]?=some (.bool ((cn p).getD x3 false)))/\(fk (!((cn p).getD x3 false)) (((ac jnn)/\(ac (.cells true 0 (jn0 p)))/\(ac (.cells true 1 (jn9 p)))/\(ac (.cells false 0 (jng p)))/\(ac (.cells true 1 (jna p)))/\(ac (.cells true 2 (jnb p)))/\(ac (.cells true 2 (jnc p)))/\(ac (.cells true 2 (jnd p)))/\(ac (.map (knE r1.1)))/\True)/\(∀H':Heap,H'.length=14->(H'[0]?=some (.cells false 0 jn3:aa)/\H'[8]?=some (.cells true 0 (jn0 p):aa)/\H'[1]?=some (.cells true 1 (jn9 p):aa)/\H'[2]?=some (.cells false 0 (jng p):aa)/\H'[3]?=some (.cells true 1 (jna p):aa)/\H'[4]?=some (.cells true 2 (jnb p):aa)/\H'[5]?=some (.cells true 2 (jnc p):aa)/\H'[6]?=some (.cells true 2 (jnd p):aa)/\H'[9]?=some (.map (knE r1.1):aa)/\True)->ae prog 53 [pt 8,nI (x3:Int)] H' [] (Is (slQ 14 1 (bsP p (x3:Int)).length) (H' ++ [(.cells true 1 ((bsP p (x3:Int)).flatMap aq):aa)])))/\(c4q 15 0 jnn 14 (.cells true 1 ((bsP p (x3:Int)).flatMap aq)) 11 (.cells true 0 [slN 10 p.chan.length]) 10 (.cells true 1 ((cn p).flatMap af)) 52 [slQ 14 1 (bsP p (x3:Int)).length,.func (.func 54) #[] #[pt 11]] (.bool (anyM (cn p) (bsP p (x3:Int)))) (fk (anyM (cn p) (bsP p (x3:Int))) (apq (dw p x3).length 8 1 ((dw p x3).flatMap aq) [nI (x3:Int)] (nw ((x3:Int)+1) (∃x3':Nat,(x3'<=List.length (cn p))/\(List.length (cn p)-x3')<(List.length (cn p)-x3)/\true=true/\((nI ((x3:Int)+1):Value)=nI (x3':Int)/\wk (slN 16 ((dw p x3).length+1):Value) (slQ 16 1 (dw p x3').length:Value)/\jnh p)/\(True)/\((kbq 13 (.cells true 1 (((((dw p x3).flatMap aq).drop 0).take ((dw p x3).length*1))++((([nI (x3:Int)]:List Value).drop 0).take (1*1)))) (.cells true 1 ((dw p x3').flatMap aq)))/\True)/\(True)))) (jn2 x3 p)))) (jn2 x3 p)))) (jn2 x3 p))) (true=true/\wk (.tuple #[slQ 13 1 (dw p x3).length,nI 0]:Value) (jnj p)/\((kbq 7 (.cells true 1 ((dw p x3).flatMap aq)) (.cells true 1 ((wlP p).flatMap aq)))/\True))))))))))))))))
abbrev jn5(p:Pl):=aI [.cells false 0 jn3,.cells true 1 (jn9 p),.cells false 0 (jng p),.cells true 1 (jna p),.cells true 2 (jnb p),.cells true 2 (jnc p),.cells true 2 (jnd p)]
abbrev jnk:Nat×aa:=(0,.cells false 0 jn3)
abbrev jnm(x3:Nat):Hint:=.need (.need (.go 0 (.slot 52 (nI ((x3:Int)+1)) (.go 0 (.again [])))))
abbrev jnf(x3:Nat):Hint:=.slot 92 (nI ((x3:Int)+1)) (.go 0 (.again [(13,13)]))
theorem Iz(p:Pl):vF prog msk (dm 0) 100000 true 40 true 17 (jn4 p) (jn5 p) (some [])
 (.go 3 (.ans [jnk,(1,.cells true 1 (jn9 p)),(2,.cells false 0 (jng p)),(3,.cells true 1 (jna p)),(4,.cells true 2 (jnb p)),(5,.cells true 2 (jnc p)),(6,.cells true 2 (jnd p))] (.tuple #[pt 8,nI 0]) [.cells true 0 (jn0 p),.map (jni p)] (.go 13 (.need (.go 2 (.cx [jnk,(8,.cells true 0 (jn0 p)),(1,.cells true 1 (jn9 p)),(2,.cells false 0 (jng p)),(3,.cells true 1 (jna p)),(4,.cells true 2 (jnb p)),(5,.cells true 2 (jnc p)),(6,.cells true 2 (jnd p)),(9,.map (jni p))] [9] (ab (sfP p)) (fun r1=>True) (fun r1=>slQ 12 1 (tbP p).length) (fun r1=>[(9,.map (knE r1.1))]) (fun r1=>[.cells true 1 (List.map dV (tbP p))]) (fun r1 => .go 1 (.inv 3 (Nat) (0) [] [10] (fun x2=>[(31,nI (x2:Int)),(2,.slice none 0 0),(3,nI 0),(4,pt 8),(6,pt 11),(29,slQ 12 1 (tbP p).length),(30,nI (((tbP p).length:Nat):Int))]) (fun x2=>[(10,true,.cells true 1 ((dH p x2).flatMap af))]) (fun x2=>[]) (fun x2=>[]) (fun x2=>(x2<=List.length (tbP p))) (fun x2=>(List.length (tbP p)-x2)) (fun x2 => .go 0 (.fork (.need (.val (.iface (((tbP p).getD x2 []).length+1) (jne p x2)) (.go 3 (.inv 3 (Nat) (0) [] [10] (fun x3=>[(37,nI (x3:Int)),(30,nI (((tbP p).length:Nat):Int)),(29,slQ 12 1 (tbP p).length),(6,pt 11),(4,pt 8),(3,nI 0),(2,.slice none 0 0),(31,nI (x2:Int)),(8,.iface (((tbP p).getD x2 []).length+1) (jne p x2)),(35,.iface (((tbP p).getD x2 []).length+1) (jne p x2)),(36,nI ((((tbP p).getD x2 []).length:Nat):Int))]) (fun x3=>[(10,true,.cells true 1 ((jn6 p x2 x3).flatMap af))]) (fun x3=>[]) (fun x3=>[]) (fun x3=>(x3<=List.length ((tbP p).getD x2 []))) (fun x3=>(List.length ((tbP p).getD x2 [])-x3)) (fun x3 => .go 0 (.fork (.go 0 (.need (.val (.bool (((tbP p).getD x2 []).getD x3 false)) (.go 5 (.need (.val (.bool ((jn6 p x2 x3).getD x3 false)) (.go 0 (.aH (.go 0 (jnm x3)) (.go 1 (jnm x3)))))))))) (.go 0 (.slot 53 (nI ((x2:Int)+1)) (.go 0 (.again [])))))))))) (.obj 10 (.cells true 1 ((cn p).flatMap af)) (.go 5 (.need (.val (.bool ((cn p).getD p.to.toNat false)) (.fork (.go 1 (.as (.tuple #[slQ 13 1 0,nI 9]) (.ghost (.cells true 1 []) (.again [(7,13)])))) (.go 3 (.inv 3 (Nat) (0) [] [] (fun x3=>[(64,nI (x3:Int)),(11,slQ 13 1 (dw p x3).length),(6,pt 11),(4,pt 8),(3,nI 0),(2,.slice none 0 0),(63,nI (jn7 p))]) (fun x3=>[]) (fun x3=>[(true,.cells true 1 ((dw p x3).flatMap aq))]) (fun x3=>[]) (fun x3=>(x3<=List.length (cn p))) (fun x3=>(List.length (cn p)-x3)) (fun x3 => .go 0 (.fork (.go 7 (.ans [(1,.cells true 1 (jn9 p))] (.bool (dE p.land (x3:Int))) [] (.go 0 (.aH (.go 1 (.need (.val (.bool ((cn p).getD x3 false)) (.go 2 (.aH (.go 1 (.ans [jnk,(8,.cells true 0 (jn0 p)),(1,.cells true 1 (jn9 p)),(2,.cells false 0 (jng p)),(3,.cells true 1 (jna p)),(4,.cells true 2 (jnb p)),(5,.cells true 2 (jnc p)),(6,.cells true 2 (jnd p)),(9,.map (knE r1.1))] (slQ 14 1 (bsP p (x3:Int)).length) [.cells true 1 ((bsP p (x3:Int)).flatMap aq)] (.go 0 (.ans [jnk,(14,.cells true 1 ((bsP p (x3:Int)).flatMap aq)),(11,.cells true 0 [slN 10 p.chan.length]),(10,.cells true 1 ((cn p).flatMap af))] (.bool (anyM (cn p) (bsP p (x3:Int)))) [] (.go 0 (.fork (.go 2 (.need (.go 1 (.slot 92 (nI ((x3:Int)+1)) (.go 0 (.again [(13,16)])))))) (.go 0 (jnf x3)))))))) (.go 2 (jnf x3))))))) (.go 4 (jnf x3)))))) (.go 2 (.again [(7,13)])))))))))))))))))))))
 (kd ((jn5 p):HT).n 3 (.tuple #[slQ 7 1 (wlP p).length,nI (wlE p)]) [(true,.cells true 1 ((wlP p).flatMap aq))])=Fd p:=by kernel_rfl
theorem oU(p:Pl)(n:Nat):dw p (n+1)=dw p n++(if wlB p n then [(n:Int)] else []):=by
 unfold dw
 rw[List.range_succ,List.filter_append,List.map_append]
 congr 1
 by_cases h:wlB p n=true
 ·rw[if_pos h,List.filter_cons,if_pos h];rfl
 ·rw[if_neg h,List.filter_cons,if_neg h];rfl
theorem zu(p:Pl)(n:Nat):(dw p n).length<=n:=by
 unfold dw
 rw[List.length_map]
 exact Nat.le_trans (List.length_filter_le ..) (by simp)
theorem iO(l:List Bool){c off:Nat}(b:Bool)(h:c<l.length)(ho:off=0+c*1):ba (l.flatMap af) off [.bool b]=(l.set c b).flatMap af:=by
 subst ho
 rw[Nat.zero_add];exact t9 bt l c h b
theorem pv(m r:List Bool)(i:Nat):ir m r (i+1)=(ir m r i).set i ((ir m r i).getD i false ||r.getD i false):=rfl
theorem EM{p:Pl}(hp:uE p)(e0:bQ p=0){H:Heap}{l c n t w i:Nat}(a:gU H p l c n t w i) :
  ae prog 17 [plV p l c n t w i] H [] (Is (.tuple #[.slice (some ⟨H.length,0,some 1⟩) (wlP p).length (wlP p).length,nI (wlE p)]) (H ++ [.cells true 1 ((wlP p).flatMap aq)])):=by
 have o:=ip e0
 refine jV (fun j => .tuple #[.slice (some ⟨j,0,some 1⟩) (wlP p).length (wlP p).length,nI (wlE p)]) (new:=[.cells true 1 ((wlP p).flatMap aq)]) (Eq.mpr (Iz p) ?_) (kY p) rfl ⟨⟨_,_,rfl,bf _ _⟩,trivial⟩ a.1 a.objs rfl (fun j=>rfl) rfl
 have he:=cY o
 have hct:=o.cts
 have hch:=o.chan
 have hbd:=o.bd
 have hto:=cW o.to
 have hT:=mF p
 have hl:=hT.gl
 have hN:NT p=Int.toNat (endP p+1):=rfl
 have hm:=gk p (tbP p).length
 have hm':(cn p).length=p.chan.length:=hm
 delta Fd jnn jn9 jng jna jnb jnc jnd jn3 jn4 jn0 jni jn7 jn8 jnl jne jn1 jn6 jnj jnh jn2 nI slQ pt slN ac fk nw eR wR kbq ixq lq apq c1q c4q
 refine ⟨?_,fun H' hn h=>nD hp e0 hn rfl (wT h),⟨by omega,by omega,by omega,by omega⟩,?_,fun H' hn h=>hn ▸ vt o (mw h),fun r1 _=>⟨rfl,Nat.zero_le _,⟨rfl,?_⟩,fun _=>rfl,fun x2 hx2=>⟨fun q =>?_,fun q =>?_⟩⟩⟩
 ·repeat' first|exact trivial|refine ⟨rfl,?_⟩
 ·repeat' first|exact trivial|refine ⟨rfl,?_⟩
 ·repeat' first|(exact congrArg (fun l=>some (aa.cells true 1 l)) (pB _))|exact bh _ _|exact trivial|exact ad _|refine ⟨rfl,?_⟩|refine ⟨trivial,?_⟩|apply And.intro
 ·have hx:=aR q
  have hx':x2<(tbP p).length:=by omega
  have hr:=hT.rl x2 (by omega)
  have hmx:=gk p x2
  refine ⟨by omega,At hx' (by omega),rfl,Nat.zero_le _,⟨rfl,?_⟩,fun _=>rfl,fun x3 hx3=>⟨fun q3 =>?_,fun q3 =>?_⟩⟩
  ·repeat' first|exact bh _ _|exact (eS _ _).symm|exact trivial|exact ad _|refine ⟨rfl,?_⟩|refine ⟨trivial,?_⟩|apply And.intro
  ·have h3:=aR q3
   have hm1:=kf (dH p x2) ((tbP p).getD x2 []) x3
   refine ⟨by omega,dl (by omega) (by omega),by omega,dl (by omega) (by omega),fun s =>?_,fun s =>?_⟩
   ·refine ⟨by omega,by rw[aC bt];omega,rfl,ag (by omega),x3+1,by omega,by omega,rfl,?_⟩
    rw[pv,s,Bool.true_or,iO (c:=x3) _ true (by omega) (by omega)]
    repeat' first|exact bh _ _|exact (eS _ _).symm|exact trivial|exact ad _|refine ⟨rfl,?_⟩|refine ⟨trivial,?_⟩|apply And.intro
   ·refine ⟨by omega,by rw[aC bt];omega,rfl,ag (by omega),x3+1,by omega,by omega,rfl,?_⟩
    rw[pv,s,Bool.false_or,iO (c:=x3) _ _ (by omega) (by omega)]
    repeat' first|exact bh _ _|exact (eS _ _).symm|exact trivial|exact ad _|refine ⟨rfl,?_⟩|refine ⟨trivial,?_⟩|apply And.intro
  ·have h3:=aV q3
   have e:ir (dH p x2) ((tbP p).getD x2 []) x3=dH p (x2+1):=by
    show _=ir (dH p x2) ((tbP p).getD x2 []) _
    congr 1;omega
   rw[e]
   refine ⟨ag (by omega),x2+1,by omega,by omega,rfl,?_⟩
   repeat' first|exact bh _ _|exact trivial|exact ad _|refine ⟨rfl,?_⟩|refine ⟨trivial,?_⟩|apply And.intro
 ·have hx:=aV q
  have e:dH p x2=cn p:=by
   show _=dH p _
   congr 1;omega
  rw[e]
  refine ⟨rfl,by omega,dl (by omega) (by omega),fun s =>?_,fun s =>?_⟩
  ·rw[show wlP p=[] from if_pos s,show wlE p=9 from if_pos s]
   repeat' first|exact trivial|exact rfl|exact ad _|refine aQ ?_ ?_|exact ed _ _ _ (.inl rfl)|refine wA ?_|refine ⟨rfl,?_⟩|apply And.intro
  ·have hz:wlP p=dw p (cn p).length:=if_neg (by rw[s];decide)
   have hze:wlE p=0:=if_neg (by rw[s];decide)
   refine ⟨rfl,Nat.zero_le _,⟨rfl,?_⟩,fun _=>rfl,fun x3 hx3=>⟨fun q3 =>?_,fun q3 =>?_⟩⟩
   ·repeat' first|exact trivial|exact ed _ _ _ (.inl rfl)|refine ⟨rfl,?_⟩|refine ⟨trivial,?_⟩|apply And.intro
   ·have h3:=aR q3
    have hwl:=zu p x3
    have no:wlB p x3=false->dw p (x3+1)=dw p x3:=fun z=>by rw[oU,z];exact List.append_nil _
    refine ⟨⟨rfl,trivial⟩,fun H' hn h=>kIs _ _ _ _ (by omega) h.1,fun s1 =>?_,fun s1 =>?_⟩
    ·refine ⟨by omega,dl (by omega) (by omega),fun s2 =>?_,fun s2 =>?_⟩
     ·refine ⟨?_,fun H' hn h=>hn ▸ kq o (by omega) (mw h),?_,fun H' hn h=>(yR (m:=cn p) (by have:=eN p (x3:Int);omega) (fun j hj=>by have:=lT o (c:=(x3:Int)) (by omega) hj;omega) (by decide) h.1 h.2.1 (by rw[hm'];exact h.2.2.1) h.2.2.2.1).wkA ⟨jf,ad _,trivial⟩,fun s3 =>?_,fun s3 =>?_⟩
      ·repeat' first|exact trivial|refine ⟨rfl,?_⟩
      ·repeat' first|exact trivial|refine ⟨rfl,?_⟩
      ·have yes:dw p (x3+1)=dw p x3 ++ [(x3:Int)]:=by rw[oU,show wlB p x3=true from by unfold wlB;rw[s1,s2,s3];rfl];rfl
       refine ⟨⟨by omega,by decide,⟨Nat.le_refl _,by rw[aC bH];omega⟩,⟨Nat.le_refl _,by simp⟩,rfl⟩,rfl,ag (by omega),x3+1,by omega,by omega,rfl,?_⟩
       repeat' first|exact cD yes|exact bN bH yes rfl|exact bf _ _|exact trivial|refine ⟨rfl,?_⟩|refine ⟨trivial,?_⟩|apply And.intro
      ·refine ⟨ag (by omega),x3+1,by omega,by omega,rfl,?_⟩
       rw[no (by unfold wlB;rw[s3,Bool.and_false,Bool.and_false])]
       repeat' first|exact bf _ _|exact trivial|exact ad _|refine ⟨rfl,?_⟩|refine ⟨trivial,?_⟩|apply And.intro
     ·refine ⟨ag (by omega),x3+1,by omega,by omega,rfl,?_⟩
      rw[no (by unfold wlB;rw[s2,Bool.false_and,Bool.and_false])]
      repeat' first|exact bf _ _|exact trivial|exact ad _|refine ⟨rfl,?_⟩|refine ⟨trivial,?_⟩|apply And.intro
    ·refine ⟨ag (by omega),x3+1,by omega,by omega,rfl,?_⟩
     rw[no (by unfold wlB;rw[s1,Bool.false_and])]
     repeat' first|exact bf _ _|exact trivial|exact ad _|refine ⟨rfl,?_⟩|refine ⟨trivial,?_⟩|apply And.intro
   ·have h3:=aV q3
    rw[hz,hze,show x3=(cn p).length by omega]
    repeat' first|exact bf _ _|exact trivial|exact ad _|refine ⟨rfl,?_⟩|apply And.intro
def gy:Shp:=⟨3,6000,800,9000,[(0,1000),(100,800),(200,0)],[(0,0),(200,400)],[(0,0),(400,2000)],0,20,10,100⟩
def hvC:Cell:=⟨⟨0,100⟩,⟨0,150⟩,⟨0,0⟩,⟨0,3⟩⟩
def bn(a b:Cell):Pl:=⟨3,1,[false,false,false],[⟨3,1,0,[ak,a,ak]⟩,⟨3,1,1,[ak,b,ak]⟩],[false,false,false],gy,80,0,2⟩
theorem EQ:bQ (bn ak ak)=0:=by kernel_rfl
theorem EP:bQ (bn hvC ak)=0:=by kernel_rfl
theorem BA:bQ (bn hvC hvC)=0:=by kernel_rfl
theorem BC:bC (bn ak ak)=6:=by kernel_rfl
theorem BB:bC (bn hvC ak)=12:=by kernel_rfl
theorem ES:bC (bD (bn hvC hvC))=6:=by kernel_rfl
theorem HV:dT (bn ak ak) 6=[⟨1,0,160,3⟩,⟨2,3,160,6⟩]:=by kernel_rfl
theorem HU:dT (bn hvC ak) 12=[⟨1,6,160,9⟩,⟨2,9,160,12⟩]:=by kernel_rfl
theorem HS:wlP (bn hvC hvC)=[1]:=by kernel_rfl
theorem HR:wlE (bn hvC hvC)=0:=by kernel_rfl
abbrev jp5:List Value:=[nI 4000,nI 8000,nI 14000,nI 24000,nI 40000,nI 90000]
abbrev jpl:=ac (.cells false 0 jp5)
abbrev jp0:List Value:=[nI 3,nI 1,slN 2 3,slN 14 2,slN 3 3,nI 3,nI 6000,nI 800,nI 9000,slN 6 3,slN 7 2,slN 8 2,nI 0,nI 20,nI 10,nI 100,nI 80,nI 0,nI 2]
abbrev jpe:=ac (.cells true 0 jp0)
abbrev jp4:List Value:=[.bool false,.bool false,.bool false]
abbrev jph:=ac (.cells true 1 jp4)
abbrev jp3:List Value:=[nI 3,nI 6000,nI 800,nI 9000,slN 6 3,slN 7 2,slN 8 2,nI 0,nI 20,nI 10,nI 100]
abbrev jpm:=ac (.cells true 0 jp3)
abbrev jp8:List Value:=[nI 0,nI 1000,nI 100,nI 800,nI 200,nI 0]
abbrev jpn:=ac (.cells true 2 jp8)
abbrev jpc:List Value:=[nI 0,nI 0,nI 200,nI 400]
abbrev jpo:=ac (.cells true 2 jpc)
abbrev jpb:List Value:=[nI 0,nI 0,nI 400,nI 2000]
abbrev jpp:=ac (.cells true 2 jpb)
abbrev jp2:List Value:=[nI 0,nI 0,nI 0,nI 0,nI 0,nI 0,nI 0,nI 0,nI 0,nI 0,nI 0,nI 0,nI 0,nI 0,nI 0,nI 0,nI 0,nI 0,nI 0,nI 0,nI 0,nI 0,nI 0,nI 0]
abbrev jpf:List Value:=[nI 3,nI 1,nI 0,slN 9 3]
abbrev jpq:=ac (.cells true 4 jpf)
abbrev jpd:List Value:=[nI 3,nI 1,nI 1,slN 12 3]
abbrev jpr:=ac (.cells true 4 jpd)
abbrev jp6:List Value:=[nI 3,nI 1,nI 0,slN 9 3,nI 3,nI 1,nI 1,slN 12 3]
abbrev jps:=ac (.cells true 4 jp6)
abbrev jpt:aa:=.cells false 0 jp5
abbrev jpg:aa:=.cells true 0 jp0
abbrev jpi:aa:=.cells true 1 jp4
abbrev jpu:aa:=.cells true 0 jp3
abbrev jpv:aa:=.cells true 2 jp8
abbrev jpw:aa:=.cells true 2 jpc
abbrev jpx:aa:=.cells true 2 jpb
abbrev jpy:aa:=.cells true 4 jpf
abbrev jpz:aa:=.cells true 4 jpd
abbrev A3:aa:=.cells true 4 jp6
abbrev jp9:List Value:=[.agg #[nI 3,nI 1,slN 2 3,slN 14 2,slN 3 3,nI 3,nI 6000,nI 800,nI 9000,slN 6 3,slN 7 2,slN 8 2,nI 0,nI 20,nI 10,nI 100,nI 80,nI 0,nI 2]]
abbrev jp7:List Value:=[nI 1,nI 0,nI 160,nI 3,nI 2,nI 3,nI 160,nI 6]
abbrev A2:aa:=.cells true 4 jp7
abbrev jp1:List Value:=[nI 0,nI 0,nI 0,nI 0,nI 0,nI 0,nI 0,nI 0,nI 0,nI 100,nI 0,nI 150,nI 0,nI 0,nI 0,nI 3,nI 0,nI 0,nI 0,nI 0,nI 0,nI 0,nI 0,nI 0]
abbrev jpj:=ac (.cells true 8 jp1)
abbrev jpk:aa:=.cells true 8 jp1
abbrev jpa:List Value:=[nI 1,nI 6,nI 160,nI 9,nI 2,nI 9,nI 160,nI 12]
def Cm(sp:Value)  : Prop :=
 ((jpl/\jpe/\jph/\jph/\jpe/\jpm/\jpn/\jpo/\jpp/\(ac (.cells true 8 jp2))/\jpq/\(ac (.dead))/\(ac (.cells true 8 jp2))/\jpr/\jps/\jpe/\True)/\(∀H':Heap,H'.length=16->(H'[0]?=some jpt/\H'[1]?=some jpg/\H'[2]?=some jpi/\H'[3]?=some jpi/\H'[4]?=some jpg/\H'[5]?=some jpu/\H'[6]?=some jpv/\H'[7]?=some jpw/\H'[8]?=some jpx/\H'[9]?=some (.cells true 8 jp2:aa)/\H'[10]?=some jpy/\H'[11]?=some (.dead:aa)/\H'[12]?=some (.cells true 8 jp2:aa)/\H'[13]?=some jpz/\H'[14]?=some A3/\H'[15]?=some jpg/\True)->ae prog 8 jp9 H' [] (Is (.tuple #[slQ 16 1 2,nI 6,nI 0]) (H' ++ [A2])))/\((jpl/\jpe/\jph/\jph/\jpe/\jpm/\jpn/\jpo/\jpp/\jpj/\jpq/\(ac (.dead))/\(ac (.cells true 8 jp2))/\jpr/\jps/\jpe/\(ac (.cells true 4 jp7))/\True)/\(∀H':Heap,H'.length=17->(H'[0]?=some jpt/\H'[1]?=some jpg/\H'[2]?=some jpi/\H'[3]?=some jpi/\H'[4]?=some jpg/\H'[5]?=some jpu/\H'[6]?=some jpv/\H'[7]?=some jpw/\H'[8]?=some jpx/\H'[9]?=some jpk/\H'[10]?=some jpy/\H'[11]?=some (.dead:aa)/\H'[12]?=some (.cells true 8 jp2:aa)/\H'[13]?=some jpz/\H'[14]?=some A3/\H'[15]?=some jpg/\H'[16]?=some A2/\True)->ae prog 8 jp9 H' [] (Is (.tuple #[slQ 17 1 2,nI 12,nI 0]) (H' ++ [(.cells true 4 jpa:aa)])))/\((jpl/\jpe/\jph/\jph/\jpe/\jpm/\jpn/\jpo/\jpp/\jpj/\jpq/\(ac (.dead))/\jpj/\jpr/\jps/\jpe/\(ac (.cells true 4 jp7))/\(ac (.cells true 4 jpa))/\True)/\(∀H':Heap,H'.length=18->(H'[0]?=some jpt/\H'[1]?=some jpg/\H'[2]?=some jpi/\H'[3]?=some jpi/\H'[4]?=some jpg/\H'[5]?=some jpu/\H'[6]?=some jpv/\H'[7]?=some jpw/\H'[8]?=some jpx/\H'[9]?=some jpk/\H'[10]?=some jpy/\H'[11]?=some (.dead:aa)/\H'[12]?=some jpk/\H'[13]?=some jpz/\H'[14]?=some A3/\H'[15]?=some jpg/\H'[16]?=some A2/\H'[17]?=some (.cells true 4 jpa:aa)/\True)->ae prog 17 jp9 H' [] (Is (.tuple #[slQ 18 1 1,nI 0]) (H' ++ [(.cells true 1 [nI 1]:aa)])))/\((jpl/\jpe/\jph/\jph/\jpe/\jpm/\jpn/\jpo/\jpp/\jpj/\jpq/\(ac (.dead))/\jpj/\jpr/\jps/\jpe/\(ac (.cells true 4 jp7))/\(ac (.cells true 4 jpa))/\(ac (.cells true 1 [nI 1]))/\True)/\(∀H':Heap,H'.length=19->(H'[0]?=some jpt/\H'[1]?=some jpg/\H'[2]?=some jpi/\H'[3]?=some jpi/\H'[4]?=some jpg/\H'[5]?=some jpu/\H'[6]?=some jpv/\H'[7]?=some jpw/\H'[8]?=some jpx/\H'[9]?=some jpk/\H'[10]?=some jpy/\H'[11]?=some (.dead:aa)/\H'[12]?=some jpk/\H'[13]?=some jpz/\H'[14]?=some A3/\H'[15]?=some jpg/\H'[16]?=some A2/\H'[17]?=some (.cells true 4 jpa:aa)/\H'[18]?=some (.cells true 1 [nI 1]:aa)/\True)->ae prog 25 jp9 H' [] (Is (.tuple #[nI 6,nI 0]) H'))/\(.bool true:Value)=sp))))
abbrev Dp:Nat×aa:=(0,.cells false 0 jp5)
abbrev Dk:Nat×aa:=(1,.cells true 0 jp0)
abbrev Dj:Nat×aa:=(2,.cells true 1 jp4)
abbrev Di:Nat×aa:=(3,.cells true 1 jp4)
abbrev Dh:Nat×aa:=(4,.cells true 0 jp0)
abbrev Dg:Nat×aa:=(5,.cells true 0 jp3)
abbrev Df:Nat×aa:=(6,.cells true 2 jp8)
abbrev De:Nat×aa:=(7,.cells true 2 jpc)
abbrev Dd:Nat×aa:=(8,.cells true 2 jpb)
abbrev Do:Nat×aa:=(10,.cells true 4 jpf)
abbrev Dn:Nat×aa:=(13,.cells true 4 jpd)
abbrev Dm:Nat×aa:=(14,.cells true 4 jp6)
abbrev Dl:Nat×aa:=(15,.cells true 0 jp0)
theorem GW (sp : Value)  : vF prog msk (dm 0) 100000 true 40 true 9 [] (aI [.cells false 0 jp5]) (some [])
  (.go 61 (.ans [Dp,Dk,Dj,Di,Dh,Dg,Df,De,Dd,(9,.cells true 8 jp2),Do,(11,.dead),(12,.cells true 8 jp2),Dn,Dm,Dl] (.tuple #[slQ 16 1 2,nI 6,nI 0]) [.cells true 4 jp7] (.go 47 (.ans [Dp,Dk,Dj,Di,Dh,Dg,Df,De,Dd,(9,.cells true 8 jp1),Do,(11,.dead),(12,.cells true 8 jp2),Dn,Dm,Dl,(16,.cells true 4 jp7)] (.tuple #[slQ 17 1 2,nI 12,nI 0]) [.cells true 4 jpa] (.go 20 (.ans [Dp,Dk,Dj,Di,Dh,Dg,Df,De,Dd,(9,.cells true 8 jp1),Do,(11,.dead),(12,.cells true 8 jp1),Dn,Dm,Dl,(16,.cells true 4 jp7),(17,.cells true 4 jpa)] (.tuple #[slQ 18 1 1,nI 0]) [.cells true 1 [nI 1]] (.go 5 (.ans [Dp,Dk,Dj,Di,Dh,Dg,Df,De,Dd,(9,.cells true 8 jp1),Do,(11,.dead),(12,.cells true 8 jp1),Dn,Dm,Dl,(16,.cells true 4 jp7),(17,.cells true 4 jpa),(18,.cells true 1 [nI 1])] (.tuple #[nI 6,nI 0]) [] (.auto)))))))))
  (fun v _ _ => v = sp) = Cm sp  := by kernel_rfl
end
end Go.Proofs.YtmecpfikljhjaaaDoor
namespace Go.K
variable {P:Program}
theorem VRl.set1{V ρ1:Ren}{args l:List Value}{k:Nat}{u u2:Value}(h:VRl V args l)(hk:args[k]?=some u)(hle:Ren.le V ρ1)(hv:∀x,VR V u x->VR ρ1 u2 x):VRl ρ1 (args.set k u2) l:=by
 obtain ⟨h1,h2⟩:=h
 refine ⟨by simpa using h1,fun j v v' a b =>?_⟩
 rw[List.getElem?_set]at a
 split at a
 ·rename_i e;subst e
  split at a
  ·cases a;exact hv _ (h2 k u v' hk b)
  ·cases a
 ·exact (h2 j v v' a b).mono hle
theorem ae.freeze{f:FuncId}{args:List Value}{H:Heap}{k i id n c z:Nat}{tag:Option Nat}{cs vs:List Value}{Q:Value->Heap->Prop}(hk:args[k]?=some (.agg ⟨vs⟩))(hi:vs[i]?=some (.slice (some ⟨id,0,tag⟩) n c))(htag:tag=none∨tag=some 1)(ho:H[id]?=some (.cells true z cs))
  (h:ae P f (args.set k (.agg ⟨vs.set i (.iface (n+1) (.agg ⟨cs⟩))⟩)) (H.set id .dead) [] Q):ae P f args H [id] Q:=by
 refine ⟨h.1,fun B V w args' hr ha =>?_⟩
 have key:∃ρ1,Post P B H.length [id] V H w ρ1 (H.set id .dead) w/\∀x,VR V (.slice (some ⟨id,0,tag⟩) n c) x->VR ρ1 (.iface (n+1) (.agg ⟨cs⟩)) x:=by
  have hM:id<H.length->id ∈ [id]:=fun _=>List.mem_cons_self ..
  cases hid:V id with
  |none=>exact ⟨V,Post.km hr ho rfl hM,fun x hx=>VR.iX htag hid hx⟩
  |some r =>
   have hob:=hr.obj id r _ hid ho
   obtain ⟨_,_,m,ty,fz,hb,_⟩:=hob
   have p:=Post.yZ (base:=H.length) (M:=[id]) hr hid ho hb hM
   exact ⟨_,p,fun x hx=>VR.freeze (H:=H) htag hid hb (hr.obj id r _ hid ho) p.ext hx⟩
 obtain ⟨ρ1,p,hv⟩:=key
 refine (h.2 B ρ1 w args' p.rel (VRl.set1 ha hk p.ext fun x hx=>VR.rt hi p.ext hv hx)).mono ?_
 rintro e w' ⟨v,v',ρ',H',rfl,h1,h2,h3⟩
 exact ⟨v,v',ρ',H',rfl,h1,p.trans (h2.weaken (by simp) (fun _ h _=>by cases h)),h3⟩
def pK:Value->Bool
 | .bool _| .int _ _| .float _ _| .string _| .pointer none| .pointer (some ⟨_,_,none⟩)| .slice _ _ _| .map _| .nilFunc| .nilIface=>true
 |_=>false
def Bx:Value->Bool
 | .tuple vs=>vs.toList.all pK
 |v=>pK v
def kC:aa->Bool
 | .cells _ _ cs=>cs.all pK
 | .dead=>true
 |_=>false
theorem nQ{V ρ2:Ren}(hf:ρ2.f=V.f){v x:Value}(h:pK v=true)(hv:VR V v x):VR ρ2 v x:=by
 have hg:∀{id:Nat} {r:RI},V id=some r->ρ2 id=some r:=fun {id r} q=>by show ρ2.f id=_;rw[hf];exact q
 cases hv with
 |junk v'=>cases h
 |bool b=>exact .bool b
 |int k n=>exact .int k n
 |float k n=>exact .float k n
 |string s=>exact .string s
 |bT=>exact .bT
 |ptr h'=>exact .ptr (hg h')
 |d4 h'=>cases h
 |aU=>exact .aU
 |slice h' hl hc ho=>exact .slice (hg h') hl hc ho
 |aS h'=>exact .aS (hg h')
 |bE=>exact .bE
 |au=>exact .au
 |av=>exact .av
 |aF h' hp hl hc ho=>exact .aF (hg h') hp hl hc ho
 |ax=>exact .ax
 |aX h' hp hl hc ho=>exact .aX (hg h') hp hl hc ho
 |bU=>exact .bU
 |map h'=>exact .map (hg h')
 |nilFunc=>exact .nilFunc
 |nilIface=>exact .nilIface
 |func h1 h2 h3 h4=>cases h
 |yield h'=>cases h
 |agg h1 h2=>cases h
 |tuple h1 h2=>cases h
 |deep hm hp hc h1 h2=>cases h
 |bB=>cases h
 |fsl h' hp hc hs ho=>cases h
 |b7=>cases h
 |bX hm h1 h2=>cases h
theorem Bw{V ρ2:Ren}(hf:ρ2.f=V.f){v x:Value}(h:Bx v=true)(hv:VR V v x):VR ρ2 v x:=by
 cases v with
 |tuple vs =>
  cases hv with
  | @tuple _ cs' h1 h2 =>
   have h':vs.toList.all pK=true:=h
   rw[List.all_eq_true]at h'
   refine .tuple h1 fun i v v' a b=>nQ hf (h' v ?_) (h2 i v v' a b)
   exact List.mem_of_getElem? (by simpa using a)
 |_=>exact nQ hf h hv
theorem zc{V ρ2:Ren}(hf:ρ2.f=V.f){r:RI}{o:aa}{w:World}(h:kC o=true)(ho:aK V r o w):aK ρ2 r o w:=by
 cases o with
 |cells own z cs =>
  obtain ⟨h1,h2,cs',ty,fz,h3,h4,h5,h6⟩:=ho
  have h':cs.all pK=true:=h
  rw[List.all_eq_true]at h'
  exact ⟨h1,h2,cs',ty,fz,h3,h4,h5,fun i v a=>let ⟨v',b,c⟩:=h6 i v a; ⟨v',b,nQ hf (h' v (List.mem_of_getElem? a)) c⟩⟩
 |dead=>trivial
 |fam z cs=>trivial
 |map es=>cases h
 |iter m n s=>cases h
 |loop _ _ _ _ _ _ _=>cases h
def ow(P:Program)(base:Nat)(M L:List Nat)(H H1:Heap)(args iK:List Value):Prop :=
 ∀(B:Nat) (V:Ren) (w:World) (xs:List Value),Rel P B V H w->VRl V args xs->∃ρ1:Ren,Post P B base M V H w ρ1 H1 w/\ρ1.f=V.f/\ρ1.g=V.g /\
  (∀id∈L,∀r,V id=some r->∃m,ρ1.mem r.b=some m)/\VRl ρ1 iK xs
theorem ow.refl{base:Nat}{H:Heap}{args:List Value}:ow P base [] [] H H args args:=fun B V w xs hr hv=>⟨V,Post.refl hr,rfl,rfl,fun id h=>(by cases h),hv⟩
open Classical in
theorem ae.borrow{f:FuncId}{args iK:List Value}{H H1 new:Heap}{v:Value}{L:List Nat}(hl:ow P H.length L L H H1 args iK)(hlen:H1.length=H.length)
  (hL:∀id∈L,∃z cs,H[id]?=some (aa.cells true z cs)) (Bh:∀id o,id ∉ L->H[id]?=some o->kC o=true) (hnew:∀o∈new,kC o=true/\o.owned=true) (hv:Bx v=true)
  (h:ae P f iK H1 [] (Is v (H1++new))):ae P f args H [] (Is v (H++new)):=by
 refine ⟨h.1,fun B V w args' hr ha =>?_⟩
 obtain ⟨ρ1,p,hf1,hg1,hm1,ha1⟩:=hl B V w args'.toList hr ha
 refine (h.2 B ρ1 w args' p.rel ha1).mono ?_
 rintro e w' ⟨u,v',ρ',H2,rfl,h1,q,hu,hH2⟩
 rw[hu]at h1
 subst hH2
 have pq:=p.trans (q.weaken (base':=H.length) (M':=L) (by rw[hlen];exact Nat.le_refl _) (fun _ h _=>by cases h))
 have R:=q.rel
 have f1:∀{id r},ρ1 id=some r->V id=some r:=fun {id r} a=>by have:ρ1.f id=some r:=a;rw[hf1]at this;exact this
 let rem:Nat->Prop:=fun x => ∃id∈L,∃r,V id=some r/\r.b=x
 have Hi:∀{id r},id∈L->V id=some r->rem r.b:=fun {id r} a b=>⟨id,a,r,b,rfl⟩
 have Hj:∀{x m},rem x->V.mem x=some m->False:=by
  rintro x m ⟨id,hi,r,hid,rfl⟩ hm
  obtain ⟨z,cs,ho⟩:=hL id hi
  exact (hr.mem _ _ hm).2 id r _ hid ho rfl rfl
 have IM:∀{x},rem x->∃m,ρ1.mem x=some m:=by
  rintro x ⟨id,hi,r,hid,rfl⟩
  exact hm1 id hi r hid
 have IL:∀{x},rem x->w'.heap[x]?=w.heap[x]? := by
  rintro x hx
  obtain ⟨m,hm⟩:=IM hx
  obtain ⟨id,hi,r,hid,rfl⟩:=hx
  refine q.keep _ (hr.lt id r hid) ?_
  rintro (⟨id',r',o',a,b,c,d⟩|hfb)
  ·exact (p.rel.mem _ _ hm).2 id' r' o' a b c d
  ·exact p.rel.fam.ew hm hfb
 let ρ2:Ren:=⟨ρ'.f,fun x=>if rem x then none else ρ'.mem x,ρ'.g⟩
 have hle:Ren.le V ρ2:=⟨fun id r a=>pq.ext.f id r a,fun x m a=>by
  show (if rem x then none else ρ'.mem x)=_
  rw[if_neg (fun hx=>Hj hx a)];exact pq.ext.mem x m a,fun F k r a=>pq.ext.g F k r a⟩
 have old:∀{id r},ρ' id=some r->id<H.length->V id=some r:=fun {id r} a b=>by
  cases hc:V id with
  |none=>exact absurd (pq.new id r a hc) (by omega)
  |some r0 =>
   have:=pq.ext.f id r0 hc
   rw[show ρ'.f id=some r from a]at this;exact this.symm
 have qZ:∀{id o},(H++new)[id]?=some o->id<H.length->H[id]?=some o:=fun {id o} a b=>by rw[List.getElem?_append_left b]at a;exact a
 have DJ:∀{id o},(H++new)[id]?=some o->¬ id<H.length->(H1++new)[id]?=some o/\kC o=true/\o.owned=true:=fun {id o} a b=>by
  have hb:H.length<=id:=by omega
  rw[List.getElem?_append_right hb]at a
  have ho:=hnew o (List.mem_of_getElem? a)
  refine ⟨?_,ho⟩
  rw[List.getElem?_append_right (by omega),hlen];exact a
 have yX:∀{id o},(H++new)[id]?=some o->id ∉ L->(H1++new)[id]?=some o/\kC o=true:=fun {id o} a hn=>by
  by_cases b:id<H.length
  ·have a':=qZ a b
   refine ⟨?_,Bh id o hn a'⟩
   rw[List.getElem?_append_left (by omega),p.same id b hn];exact a'
  ·have:=DJ a b;exact ⟨this.1,this.2.1⟩
 have Lt:∀{id},id∈L->id<H.length:=fun {id} hi=>by obtain ⟨z,cs,ho⟩:=hL id hi;exact (List.getElem?_eq_some_iff.1 ho).1
 have kb:∀(F z:Nat) (cs:List Value),(H++new)[F]?=some (.fam z cs)->False:=fun F z cs a=>by
  by_cases hi:F∈L
  ·obtain ⟨z',cs',ho⟩:=hL F hi
   rw[qZ a (Lt hi)]at ho;cases ho
  ·have:=(yX a hi).2;cases this
 have w6:∀{id r id' r' o'},id∈L->V id=some r->ρ' id'=some r'->(H1++new)[id']?=some o'->o'.owned=true->r'.b≠r.b:=fun {id r id' r' o'} hi hid tW ho' hw'=>by
  obtain ⟨m,hm⟩:=hm1 id hi r hid
  exact (R.mem _ _ (q.ext.mem _ _ hm)).2 id' r' o' tW ho' hw'
 have IP:Rel P B ρ2 (H++new) w':=by
  refine ⟨R.bsize,R.cX,fun id r a =>?_,fun id r a=>R.lt id r a,fun id r o a b =>?_,fun id r o a b c =>?_,fun id id' r r' o o' a a' b b' c c' hne =>?_,fun x m a =>?_,gD.kb (fun F k r a =>?_) (fun F k r a=>R.fam.lt F k r a) kb⟩
  ·have:=R.dom id r a
   rw[aE]at this ⊢;omega
  ·by_cases hi:id∈L
   ·have hid:=old a (Lt hi)
    exact (hr.obj id r o hid (qZ b (Lt hi))).mono hle (IL (Hi hi hid))
   ·obtain ⟨b1,b2⟩:=yX b hi
    exact zc (V:=ρ') (ρ2:=ρ2) rfl b2 (R.obj id r o a b1)
  ·by_cases hi:id∈L
   ·exact hr.base id r o (old a (Lt hi)) (qZ b (Lt hi)) c
   ·exact R.base id r o a (yX b hi).1 c
  ·by_cases hi:id∈L
   ·have hid:=old a (Lt hi)
    by_cases hj:id'<H.length
    ·exact hr.sep id id' r r' o o' hid (old a' hj) (qZ b (Lt hi)) (qZ b' hj) c c' hne
    ·have n':=DJ b' hj
     exact fun e=>w6 hi hid a' n'.1 n'.2.2 e.symm
   ·by_cases hj:id'∈L
    ·have tW:=old a' (Lt hj)
     by_cases hk:id<H.length
     ·exact hr.sep id id' r r' o o' (old a hk) tW (qZ b hk) (qZ b' (Lt hj)) c c' hne
     ·exact w6 hj tW a (DJ b hk).1 c
    ·exact R.sep id id' r r' o o' a a' (yX b hi).1 (yX b' hj).1 c c' hne
  ·have a':(if rem x then none else ρ'.mem x)=some m:=a
   by_cases hx:rem x
   ·rw[if_pos hx]at a';cases a'
   ·rw[if_neg hx]at a'
    refine ⟨(R.mem x m a').1,fun id r o b c d e =>?_⟩
    by_cases hi:id∈L
    ·exact hx (by rw[<- e];exact Hi hi (old b (Lt hi)))
    ·exact (R.mem x m a').2 id r o b (yX c hi).1 d e
  ·have:=R.fam.dom F k r a
   rw[aE]at this ⊢;omega
 refine ⟨v,v',ρ2,H++new,rfl,Bw (V:=ρ') (ρ2:=ρ2) rfl hv h1,⟨IP,hle,pq.new,by rw[aE];omega,fun id hb _=>List.getElem?_append_left hb,pq.size,pq.keep,fun b hb ho =>?_,pq.os,pq.tape,pq.output,fun x m a =>?_,pq.drawn,fun F k r a b =>?_⟩,rfl,rfl⟩
 ·rcases ho with ⟨id,r,o,a1,a2,a3,a4⟩|hfb
  ·by_cases hk:id<H.length
   ·exact .inl ⟨id,r,o,old a1 hk,qZ a2 hk,a3,a4⟩
   ·exact pq.ob b hb (.inl ⟨id,r,o,a1,(DJ a2 hk).1,a3,a4⟩)
  ·exact absurd hfb (FB.none kb b)
 ·have a':(if rem x then none else ρ'.mem x)=some m:=a
  by_cases hx:rem x
  ·rw[if_pos hx]at a';cases a'
  ·rw[if_neg hx]at a';exact pq.frz x m a'
 ·refine (q.kc F k r a ?_).imp (fun z=>by rw[hlen]at z;exact z) (fun z=>by cases z)
  rw[hg1];exact b
theorem ow.nO{base:Nat}{M L M' L':List Nat}{H H1:Heap}{args iK:List Value}(h:ow P base M L H H1 args iK){hd t A n c zh z:Nat}{tag:Option Nat}{hs row:List Value}(ho:H1[hd]?=some (.cells true zh hs))(hA:H1[A]?=some (.cells true z row))
  (hv:hs[t]?=some (.slice (some ⟨A,0,tag⟩) n c)) (htag:tag=none∨tag=some 1) (hne:A≠hd) (hMh:hd∈M') (hMA:A∈M') (hsub:∀id∈M,id∈M') (hL:∀id∈L',id=A∨id∈L) :
  ow P base M' L' H ((H1.set A .dead).set hd (aa.cells true zh (hs.set t (.iface (n+1) (.agg ⟨row⟩))))) args iK:=by
 intro B V w xs hr hx
 obtain ⟨ρ1,p,hf,hg,hm,ha⟩:=h B V w xs hr hx
 have hr1:=p.rel
 have p':=p.weaken (base':=base) (M':=M') (Nat.le_refl _) (fun id h _=>hsub id h)
 have hget:(H1.set A .dead)[hd]?=some (.cells true zh hs):=by rw[List.getElem?_set_ne hne];exact ho
 cases hid:ρ1 A with
 |none =>
  have p1:=Post.km (base:=base) (M:=M') hr1 hA rfl (fun _=>hMA)
  have p2:=Post.eJ (M:=M') (base:=base) p1.rel (t:=t) (v:=.iface (n+1) (.agg ⟨row⟩)) hget (fun v0 e x hx=>by
   rw[hv]at e;cases e
   exact VR.iX htag hid hx) (fun _=>hMh)
  refine ⟨ρ1,p'.trans (p1.trans p2),hf,hg,fun id hi r hr' =>?_,ha⟩
  rcases hL id hi with rfl|hi
  ·have:ρ1.f id=some r:=by rw[hf];exact hr'
   rw[show ρ1.f id=none from hid]at this;cases this
  ·exact hm id hi r hr'
 |some r =>
  have hob:=hr1.obj A r _ hid hA
  obtain ⟨_,_,m,ty,fz,hbm,_⟩:=hob
  have p1:=Post.yZ (base:=base) (M:=M') hr1 hid hA hbm (fun _=>hMA)
  have p2:=Post.eJ (M:=M') (base:=base) p1.rel (t:=t) (v:=.iface (n+1) (.agg ⟨row⟩)) hget (fun v0 e x hx=>by
   rw[hv]at e;cases e
   have hx':VR ρ1 (.slice (some ⟨A,0,tag⟩) n c) x:=by
    rcases htag with rfl|rfl
    ·cases hx with
     |slice h hl hc ho=>exact .slice (V:=ρ1) h hl hc ho
     |aS h=>exact .aS (V:=ρ1) h
    ·cases hx with
     |au=>exact .au
     |av=>exact .av
     |aF h hp hl hc ho=>exact .aF (V:=ρ1) h hp hl hc ho
   exact VR.freeze (H:=H1) htag hid hbm (hr1.obj A r _ hid hA) p1.ext hx') (fun _=>hMh)
  refine ⟨_,p'.trans (p1.trans p2),hf,hg,fun id hi r' hr' =>?_,ha.mono p1.ext⟩
  rcases hL id hi with rfl|hi
  ·have e:ρ1.f id=some r':=by rw[hf];exact hr'
   rw[show ρ1.f id=some r from hid]at e;cases e
   exact ⟨m,by show (if _ then _ else _)=_;rw[if_pos rfl]⟩
  ·obtain ⟨m',hm'⟩:=hm id hi r' hr'
   exact ⟨m',p1.ext.mem _ _ hm'⟩
theorem ow.Je{base:Nat}{M L M' L':List Nat}{H H1:Heap}{args iK:List Value}(h:ow P base M L H H1 args iK){k i id n c z:Nat}{tag:Option Nat}{cs vs:List Value}(hk:iK[k]?=some (.agg ⟨vs⟩))(hi:vs[i]?=some (.slice (some ⟨id,0,tag⟩) n c))(htag:tag=none∨tag=some 1)
  (ho:H1[id]?=some (.cells true z cs)) (hMA:id∈M') (hsub:∀id∈M,id∈M') (hL:∀id'∈L',id'=id∨id'∈L) :
  ow P base M' L' H (H1.set id .dead) args (iK.set k (.agg ⟨vs.set i (.iface (n+1) (.agg ⟨cs⟩))⟩)):=by
 intro B V w xs hr hx
 obtain ⟨ρ1,p,hf,hg,hm,ha⟩:=h B V w xs hr hx
 have hr1:=p.rel
 have p':=p.weaken (base':=base) (M':=M') (Nat.le_refl _) (fun id h _=>hsub id h)
 cases hid:ρ1 id with
 |none =>
  have p1:=Post.km (base:=base) (M:=M') hr1 ho rfl (fun _=>hMA)
  refine ⟨ρ1,p'.trans p1,hf,hg,fun id' hi' r hr' =>?_,VRl.set1 ha hk (Ren.le_refl _) fun x hx=>VR.rt hi (Ren.le_refl _) (fun x hx=>VR.iX htag hid hx) hx⟩
  rcases hL id' hi' with rfl|hi'
  ·have:ρ1.f id'=some r:=by rw[hf];exact hr'
   rw[show ρ1.f id'=none from hid]at this;cases this
  ·exact hm id' hi' r hr'
 |some r =>
  have hob:=hr1.obj id r _ hid ho
  obtain ⟨_,_,m,ty,fz,hbm,_⟩:=hob
  have p1:=Post.yZ (base:=base) (M:=M') hr1 hid ho hbm (fun _=>hMA)
  refine ⟨_,p'.trans p1,hf,hg,fun id' hi' r' hr' =>?_,VRl.set1 ha hk p1.ext fun x hx=>VR.rt hi p1.ext (fun x hx=>VR.freeze (H:=H1) htag hid hbm (hr1.obj id r _ hid ho) p1.ext hx) hx⟩
  rcases hL id' hi' with rfl|hi'
  ·have e:ρ1.f id'=some r':=by rw[hf];exact hr'
   rw[show ρ1.f id'=some r from hid]at e;cases e
   exact ⟨m,by show (if _ then _ else _)=_;rw[if_pos rfl]⟩
  ·obtain ⟨m',hm'⟩:=hm id' hi' r' hr'
   exact ⟨m',p1.ext.mem _ _ hm'⟩
end Go.K

namespace Go.Proofs.YtmecpfikljhjaaaDoor
noncomputable section
attribute [local irreducible] vF
theorem na:∀{os:List aa},f8 os->∀o∈os,∃z cs,o=aa.cells true z cs
 | [],_,o,h=>by cases h
 |p :: os,⟨⟨z,cs,e,_⟩,hs⟩,o,h=>by
  rcases List.mem_cons.1 h with rfl|h
  ·exact ⟨z,cs,e⟩
  ·exact na hs o h
theorem zH{f:FuncId}{args args2:List Value}{H gs new:Heap}(v:Nat->Value)(ht:dW prog H.length H args args2 gs)(h:ae prog f args2 (H++gs) [] (Is (v (H++gs).length) ((H++gs)++new)))(hn:f8 new)
  (hv:rn (dx H.length gs.length new.length) 3 (v H.length)=v (H.length+gs.length)):ae prog f args H [] (Is (v H.length) (H++new)) :=
 ae.drop (d:=3) (ae.thaw ht h) rfl (fun _ _ _=>rfl) (fun _ _ _ h=>by cases h) (by rw[hv,aE]) (cH hn).2 (na hn)
theorem lz{H gs:Heap}{id:Nat}{o:aa}(h:H[id]?=some o):(H++gs)[id]?=some o:=by
 rw[List.getElem?_append_left (List.getElem?_eq_some_iff.1 h).1];exact h
def Eo(H:Heap)(p:Pl)(l n t w i:Nat):Prop :=
 [0,l,n,t,w,i].Nodup/\H[0]?=some bF/\H[l]?=some (.cells true 1 (p.land.flatMap af))/\H[n]?=some (.cells true 1 (p.chan.flatMap af)) /\
  H[t]?=some (.cells true 2 (p.shp.th.flatMap ptC))/\H[w]?=some (.cells true 2 (p.shp.wa.flatMap ptC))/\H[i]?=some (.cells true 2 (p.shp.ic.flatMap ptC))
abbrev dpV(p:Pl)(l n t w i:Nat):Value:=.agg ⟨(plC p l 0 n t w i).set 3 (.iface (p.cts.length+1) (.agg ⟨p.cts.flatMap chC⟩))⟩
theorem Eo.pl{H:Heap}{p:Pl}{l n t w i:Nat}(a:Eo H p l n t w i):gU (H ++ [.cells false 0 (p.cts.flatMap chC)]) p l H.length n t w i:=by
 obtain ⟨hn,a0,a1,a3,a4,a5,a6⟩:=a
 have lt:∀{id:Nat} {o:aa},H[id]?=some o->id≠H.length:=fun {id o} h=>Nat.ne_of_lt (List.getElem?_eq_some_iff.1 h).1
 refine ⟨?_,lz a0,lz a1,by simp,lz a3,lz a4,lz a5,lz a6⟩
 simp only[List.nodup_cons,List.mem_cons,List.not_mem_nil,or_false,not_or,List.nodup_nil,and_true]at hn ⊢
 obtain ⟨⟨h1,h2,h3,h4,h5⟩,⟨h6,h7,h8,h9⟩,⟨h10,h11,h12⟩,⟨h13,h14⟩,h15,_⟩:=hn
 exact ⟨⟨h1,lt a0,h2,h3,h4,h5⟩,⟨lt a1,h6,h7,h8,h9⟩,⟨Ne.symm (lt a3),Ne.symm (lt a4),Ne.symm (lt a5),Ne.symm (lt a6)⟩,⟨h10,h11,h12⟩,⟨h13,h14⟩,h15,not_false⟩
theorem xy{f:FuncId}{p:Pl}{new:Heap}(v:Nat->Value)(k:∀{H:Heap} {l c n t w i:Nat},gU H p l c n t w i->ae prog f [plV p l c n t w i] H [] (Is (v H.length) (H++new)))(hn:f8 new)
  {H:Heap} (hv:rn (dx H.length 1 new.length) 3 (v H.length)=v (H.length+1)) {l n t w i:Nat} (a:Eo H p l n t w i):ae prog f [dpV p l n t w i] H [] (Is (v H.length) (H++new)) :=
 zH v (dW.agg (i:=3) rfl dW.nil) (k a.pl) hn hv
theorem rW{id o l:Nat}:wk (.slice (some ⟨id,o,none⟩) l l) (.slice (some ⟨id,o,some 2⟩) l l):=by
 intro V x hx
 cases hx with
 |slice h hl hc ho =>
  cases l with
  |zero=>exact .ax
  |succ l=>exact .aX h (Nat.succ_pos _) hl hc ho
 |aS h=>exact .ax
def BT(H:Heap):Nat->List aa->Prop
 |_,[] =>True
 |k,o :: os=>H[k]?=some o/\BT H (k+1) os
theorem nZ{H:Heap}:∀{os:List aa} {k:Nat},BT H k os->H.length=k+os.length->H.drop k=os
 | [],k,_,hl=>List.drop_eq_nil_of_le (by simp at hl;omega)
 |o :: os,k,⟨h1,h2⟩,hl=>by
  have hk:k<H.length:=(List.getElem?_eq_some_iff.1 h1).1
  rw[List.drop_eq_getElem_cons hk,nZ h2 (by rw[hl,List.length_cons];omega)]
  congr 1
  rw[List.getElem?_eq_getElem hk]at h1
  exact Option.some.inj h1
theorem kG{H:Heap}{os:List aa}(h:BT H 0 os)(hl:H.length=os.length):H=os:=by
 have:=nZ h (by omega)
 rwa [List.drop_zero]at this
def flatAll:Nat->List Nat->List aa->Bool
 |_,_,[] =>true
 |k,L,o :: os=>(L.contains k ||kC o)&&flatAll (k+1) L os
theorem nR{L:List Nat}:∀{os:List aa} {k:Nat},flatAll k L os=true->∀(i:Nat) (o:aa),k+i ∉ L->os[i]?=some o->kC o=true
 | [],_,_,i,o,_,h=>by cases h
 |q :: os,k,hf,i,o,hn,h=>by
  have hf':((L.contains k ||kC q)&&flatAll (k+1) L os)=true:=hf
  rw[Bool.and_eq_true,Bool.or_eq_true]at hf'
  cases i with
  |zero =>
   cases h
   rcases hf'.1 with g|g
   ·exact absurd (by simpa using g) hn
   ·exact g
  |succ i=>exact nR hf'.2 i o (by rw[show k+1+i=k+(i+1) by omega];exact hn) h
abbrev uQ(a b:Value):List Value:=[nI 3,nI 1,nI 0,a,nI 3,nI 1,nI 1,b]
abbrev py(H:Heap)(c9 c12:List Value):Heap :=
 ((((H.set 9 .dead).set 14 (.cells true 4 (uQ (.iface 4 (.agg ⟨c9⟩)) (slN 12 3)))).set 12 .dead).set 14 (.cells true 4 (uQ (.iface 4 (.agg ⟨c9⟩)) (.iface 4 (.agg ⟨c12⟩))))).set 14 .dead
theorem wZ{f:FuncId}{H new:Heap}{v:Value}{c9 c12 vs:List Value}(h9:H[9]?=some (.cells true 8 c9))(h12:H[12]?=some (.cells true 8 c12))(h14:H[14]?=some (.cells true 4 (uQ (slN 9 3) (slN 12 3))))
  (Bh:flatAll 0 [14,12,9] H=true) (hnew:∀o∈new,kC o=true/\o.owned=true) (hv:Bx v=true) (hk:vs[3]?=some (slN 14 2))
  (k:ae prog f [.agg ⟨vs.set 3 (.iface 3 (.agg ⟨uQ (.iface 4 (.agg ⟨c9⟩)) (.iface 4 (.agg ⟨c12⟩))⟩))⟩] (py H c9 c12) [] (Is v (py H c9 c12++new))):ae prog f [.agg ⟨vs⟩] H [] (Is v (H++new)):=by
 have b9:9<H.length:=(List.getElem?_eq_some_iff.1 h9).1
 have b12:12<H.length:=(List.getElem?_eq_some_iff.1 h12).1
 have b14:14<H.length:=(List.getElem?_eq_some_iff.1 h14).1
 have l0:ow prog H.length [] [] H H [.agg ⟨vs⟩] [.agg ⟨vs⟩]:=ow.refl
 have l1:=l0.nO (M':=[14,12,9]) (L':=[9]) (hd:=14) (t:=3) (A:=9) (n:=3) (c:=3) (tag:=none) h14 h9 rfl (.inl rfl) (by decide) (by decide) (by decide) (fun _ h=>by cases h) (fun id h => .inl (List.mem_singleton.1 h))
 have l2:=l1.nO (M':=[14,12,9]) (L':=[12,9]) (hd:=14) (t:=7) (A:=12) (n:=3) (c:=3) (tag:=none) (zh:=4) (z:=8) (row:=c12) (hs:=uQ (.iface 4 (.agg ⟨c9⟩)) (slN 12 3)) (by rw[List.getElem?_set_self (by rw[List.length_set];exact b14)];rfl) (by rw[List.getElem?_set_ne (by decide),List.getElem?_set_ne (by decide)];exact h12) rfl (.inl rfl) (by decide) (by decide) (by decide) (fun _ h=>h) (fun id h=>by
  rcases List.mem_cons.1 h with h|h
  ·exact .inl h
  ·exact .inr h)
 have l3:=l2.Je (M':=[14,12,9]) (L':=[14,12,9]) (k:=0) (i:=3) (id:=14) (n:=2) (c:=2) (tag:=none) (z:=4) (vs:=vs) (cs:=uQ (.iface 4 (.agg ⟨c9⟩)) (.iface 4 (.agg ⟨c12⟩))) rfl hk (.inl rfl) (by rw[List.getElem?_set_self (by rw[List.length_set,List.length_set,List.length_set];exact b14)];rfl) (by decide) (fun _ h=>h) (fun id h=>by
  rcases List.mem_cons.1 h with h|h
  ·exact .inl h
  ·exact .inr h)
 refine ae.borrow l3 (by simp only[List.length_set]) (fun id hi =>?_) (fun id o hn ho=>nR Bh id o (by rw[Nat.zero_add];exact hn) ho) hnew hv k
 simp only[List.mem_cons,List.not_mem_nil,or_false]at hi
 rcases hi with rfl|rfl|rfl
 ·exact ⟨_,_,h14⟩
 ·exact ⟨_,_,h12⟩
 ·exact ⟨_,_,h9⟩
theorem HX:bi (bn ak ak)=[⟨1,0,160,3⟩,⟨2,3,160,6⟩]:=by unfold bi;rw[BC,if_neg (by decide)];exact HV
theorem Jh:bl (bn ak ak)=6:=by unfold bl;rw[BC,if_neg (by decide)]
theorem Jk:bI (bn ak ak)=0:=by unfold bI;rw[BC,if_neg (by decide)]
theorem HW:bi (bn hvC ak)=[⟨1,6,160,9⟩,⟨2,9,160,12⟩]:=by unfold bi;rw[BB,if_neg (by decide)];exact HU
theorem Jg:bl (bn hvC ak)=12:=by unfold bl;rw[BB,if_neg (by decide)]
theorem Jj:bI (bn hvC ak)=0:=by unfold bI;rw[BB,if_neg (by decide)]
theorem Jf:bl (bD (bn hvC hvC))=6:=by unfold bl;rw[ES,if_neg (by decide)]
theorem Ji:bI (bD (bn hvC hvC))=0:=by unfold bI;rw[ES,if_neg (by decide)]
abbrev zd:List Value:=[nI 3,nI 1,slN 2 3,slN 14 2,slN 3 3,nI 3,nI 6000,nI 800,nI 9000,slN 6 3,slN 7 2,slN 8 2,nI 0,nI 20,nI 10,nI 100,nI 80,nI 0,nI 2]
theorem DL(c9 c12:List Value)(a b:Cell)(h9:c9=[ak,a,ak].flatMap cellC)(h12:c12=[ak,b,ak].flatMap cellC):wks [.agg ⟨zd.set 3 (.iface 3 (.agg ⟨uQ (.iface 4 (.agg ⟨c9⟩)) (.iface 4 (.agg ⟨c12⟩))⟩))⟩] [dpV (bn a b) 2 3 6 7 8]:=by
 subst h9 h12
 exact ⟨jS ⟨ad _,ad _,rW,ad _,rW,ad _,ad _,ad _,ad _,rW,rW,rW,ad _,ad _,ad _,ad _,ad _,ad _,ad _,trivial⟩,trivial⟩
end
end Go.Proofs.YtmecpfikljhjaaaDoor
