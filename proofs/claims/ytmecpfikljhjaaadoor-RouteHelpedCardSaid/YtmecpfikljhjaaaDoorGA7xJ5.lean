/- Route: which cells can be reached; a route that is found is finite. No condition. -/
import Derived.Test.YtmecpfikljhjaaaDoorGI4gxI5
import Derived.Test.YtmecpfikljhjaaaDoorGK27xA0
import Derived.Test.YtmecpfikljhjaaaDoorGH5xA4
import Derived.Test.YtmecpfikljhjaaaDoorGI2gxI3
import Derived.Test.YtmecpfikljhjaaaDoorGV3xK38
import Derived.Test.YtmecpfikljhjaaaDoorGK41xV5
open Go Go.K
set_option maxRecDepth 1000000
set_option maxHeartbeats 4000000
set_option linter.unusedVariables false
set_option linter.unusedSimpArgs false
namespace Go.Proofs.YtmecpfikljhjaaaDoor
noncomputable section
attribute [local irreducible] vF
inductive Rch (p:Pl):Int->Int->Prop
 |start:Rch p 0 p.frm
 |wait {t c:Int}:Rch p t c->wtB p c t (t+1)=true->t<endP p->Rch p (t+1) c
 |leg {t c:Int} {x:Leg}:Rch p t c->t<endP p->x∈lgP p c t->Rch p x.arr x.to
def GR(p:Pl)(G:List (List Bool)):Prop:=∀t c:Nat,(G.getD t []).getD c false=true->Rch p (t:Int) (c:Int)
theorem put1_get{G:List (List Bool)}{a c:Int}{t j:Nat}(h:((put1 G a c).getD t []).getD j false=true):(G.getD t []).getD j false=true∨(t=Int.toNat a/\j=Int.toNat c):=by
 unfold put1 at h
 by_cases ha:Int.toNat a<G.length
 ·rw[getD_set ha]at h
  by_cases e:t=Int.toNat a
  ·rw[if_pos e]at h
   by_cases hc:Int.toNat c<(G.getD (Int.toNat a) []).length
   ·rw[getD_set hc]at h
    by_cases f:j=Int.toNat c
    ·exact .inr ⟨e,f⟩
    ·rw[if_neg f]at h;rw[e];exact .inl h
   ·rw[List.set_eq_of_length_le (by omega)]at h;rw[e];exact .inl h
  ·rw[if_neg e]at h;exact .inl h
 ·rw[List.set_eq_of_length_le (by omega)]at h;exact .inl h
theorem GR.put1{p:Pl}{G:List (List Bool)}(g:GR p G){a c:Int}(ha:0<=a)(hc:0<=c)(r:Rch p a c):GR p (put1 G a c):=fun t j h=>by
 rcases put1_get h with h|⟨rfl,rfl⟩
 ·exact g t j h
 ·rw[show ((Int.toNat a:Nat):Int)=a by omega,show ((Int.toNat c:Nat):Int)=c by omega];exact r
theorem GR.putLs{p:Pl}:∀{l:List Leg} {G:List (List Bool)},GR p G->(∀x∈l,0<=x.arr/\0<=x.to/\Rch p x.arr x.to)->GR p (putLs G l)
 | [],_,g,_=>g
 |x :: l,G,g,h=>by
  have hx:=h x List.mem_cons_self
  exact GR.putLs (l:=l) (g.put1 hx.1 hx.2.1 hx.2.2) fun y hy=>h y (List.mem_cons_of_mem _ hy)
theorem GR.cSt{p:Pl}(o:PlOk p){G:List (List Bool)}(g:GR p G){t j:Nat}(ht:(t:Int)<endP p)(hj:j<p.land.length)(r:Rch p (t:Int) (j:Int)):GR p (cSt p t j G):=by
 unfold YtmecpfikljhjaaaDoor.cSt
 have hl:∀x∈lgP p (j:Int) (t:Int),0<=x.arr/\0<=x.to/\Rch p x.arr x.to:=fun x hx=>by
  have hm:=lgP_mem hx
  exact ⟨by omega,(bs_mem o (by omega) hm.1).1.1,.leg r ht hx⟩
 by_cases w:wtB p (j:Int) (t:Int) ((t:Int)+1)=true
 ·rw[if_pos w];exact GR.putLs (g.put1 (by omega) (by omega) (.wait r w ht)) hl
 ·rw[if_neg w];exact GR.putLs g hl
theorem GR.cTo{p:Pl}(o:PlOk p){G:List (List Bool)}(g:GR p G){t:Nat}(ht:(t:Int)<endP p):∀j,j<=p.land.length->GR p (cTo p t G j)
 |0,_=>g
 |j+1,h=>by
  show GR p (if _ then _ else _)
  by_cases q:(G.getD t []).getD j false=true
  ·rw[if_pos q];exact (GR.cTo o g ht j (by omega)).cSt o ht (by omega) (g t j q)
  ·rw[if_neg q];exact GR.cTo o g ht j (by omega)
theorem repl_get(n N t j:Nat):((List.replicate N (List.replicate n false)).getD t []).getD j false=false:=by
 rw[List.getD_eq_getElem?_getD (l:=List.replicate N _),List.getElem?_replicate]
 by_cases h:t<N
 ·rw[if_pos h]
  show (List.replicate n false).getD j false=false
  rw[List.getD_eq_getElem?_getD,List.getElem?_replicate]
  by_cases q:j<n
  ·rw[if_pos q];rfl
  ·rw[if_neg q];rfl
 ·rw[if_neg h];rfl
theorem GR.gTo{p:Pl}(o:PlOk p):∀k:Nat,(k:Int)<=endP p->GR p (gTo p k)
 |0,_=>GR.put1 (fun t j h=>by rw[repl_get]at h;cases h) (Int.le_refl _) (sea_in o.frm).1.1 .start
 |k+1,h=>by
  have hct:=o.cts
  have hk:k<NT p:=by show k<Int.toNat (endP p+1);omega
  refine GR.cTo o (GR.gTo o k (by omega)) (by omega) _ ?_
  rw[(GOk.gTo p k).rl k hk,o.chan];exact Nat.le_refl _
theorem tbRch{p:Pl}(o:PlOk p){t c:Nat}(h:((tbP p).getD t []).getD c false=true):Rch p (t:Int) (c:Int):=by
 have hct:=o.cts
 exact GR.gTo o (Int.toNat (endP p)) (by unfold endP;omega) t c h
theorem lf_le{p:Pl}{a:Int}:∀{t c:Int},Rch p t c->t<=a->0<=t/\lfP p a p.frm 0<=lfP p a c t+t:=by
 intro t c r
 induction r with
 |start=>intro h;exact ⟨Int.le_refl _,by omega⟩
 | @wait t c r w ht ih =>
  intro h
  obtain ⟨i0,i1⟩:=ih (by omega)
  have e:=lfP_eq (p:=p) (a:=a) (c:=c) (t:=t) (by omega)
  have l:=(lfTo_le p a (lgP p c t) (lf0 p a c t)).1
  have f:lf0 p a c t=lfP p a c (t+1):=by unfold lf0;rw[if_pos w]
  exact ⟨by omega,by omega⟩
 | @leg t c x r ht hx ih =>
  intro h
  have hm:=lgP_mem hx
  obtain ⟨i0,i1⟩:=ih (by omega)
  have e:=lfP_eq (p:=p) (a:=a) (c:=c) (t:=t) (by omega)
  have l:=(lfTo_le p a (lgP p c t) (lf0 p a c t)).2 x hx h
  exact ⟨by omega,by omega⟩
theorem arr_cases{p:Pl}(o:PlOk p):(arrP p = -1/\∀k,k<(tbP p).length->atB p k=false)∨∃k:Nat,arrP p=(k:Int)/\(k:Int)<=endP p/\atB p k=true/\∀j,j<k->atB p j=false:=by
 have hl:=(tbOk p).gl
 have hN:NT p=Int.toNat (endP p+1):=rfl
 rcases fstN_cases (atB p) (tbP p).length with h|⟨k,h1,h2,h3,h4⟩
 ·exact .inl h
 ·exact .inr ⟨k,h4,by omega,h2,h3⟩
theorem bsOk{p:Pl}(o:PlOk p)(h:0<=arrP p):BsOk p (arrP p):=by
 rcases arr_cases o with ⟨e,_⟩|⟨k,e,h1,h2,_⟩
 ·omega
 have he:=end_le o
 have hto:=sea_in o.to
 have r:=tbRch o h2
 rw[show ((Int.toNat p.to:Nat):Int)=p.to by omega,<- e]at r
 have l:=lf_le r (Int.le_refl _)
 rw[lfP_end,if_pos rfl]at l
 exact ⟨h,by omega,by omega⟩
def bestLs(p:Pl):List Leg:=if arrP p<0 then [] else bestP p (arrP p)
def bestT(p:Pl):Int:=if arrP p<0 then 0 else arrP p
def bestE(p:Pl):Int:=if arrP p<0 then 51 else 0
def met1(m r:List Bool):Nat->List Bool
 |0=>m
 |i+1=>(met1 m r i).set i ((met1 m r i).getD i false ||r.getD i false)
def metTo(p:Pl):Nat->List Bool
 |0=>List.replicate p.chan.length false
 |k+1=>met1 (metTo p k) ((tbP p).getD k []) ((tbP p).getD k []).length
def metP(p:Pl):List Bool:=metTo p (tbP p).length
def anyM(m:List Bool)(l:List Int):Bool:=l.any fun k=>m.getD (Int.toNat k) false
def wlB(p:Pl)(i:Nat):Bool:=seaB p.land (i:Int)&&(!(metP p).getD i false&&anyM (metP p) (bsP p (i:Int)))
def wlTo(p:Pl)(n:Nat):List Int:=((List.range n).filter (wlB p)).map fun (i:Nat)=>(i:Int)
def wlE(p:Pl):Int:=if (metP p).getD (Int.toNat p.to) false then 9 else 0
def wlP(p:Pl):List Int:=if (metP p).getD (Int.toNat p.to) false then [] else wlTo p (metP p).length
theorem met1_len(m r:List Bool):∀i,(met1 m r i).length=m.length
 |0=>rfl
 |i+1=>by show (List.set ..).length=_;rw[List.length_set,met1_len m r i]
theorem metTo_len(p:Pl):∀k,(metTo p k).length=p.chan.length
 |0=>List.length_replicate
 |k+1=>(met1_len ..).trans (metTo_len p k)
abbrev jm1:List Value:=[nI 4000,nI 8000,nI 14000,nI 24000,nI 40000,nI 90000]
abbrev jmd:=someR (.cells false 0 jm1)
abbrev jm4(p:Pl):=p.land.flatMap boolC
abbrev jmb(p:Pl):=p.cts.flatMap chC
abbrev jm5(p:Pl):=p.chan.flatMap boolC
abbrev jm6(p:Pl):=p.shp.th.flatMap ptC
abbrev jm7(p:Pl):=p.shp.wa.flatMap ptC
abbrev jm8(p:Pl):=p.shp.ic.flatMap ptC
abbrev jm2(p:Pl):List Value:=[.agg #[nI p.w,nI p.h,slQ 1 2 p.land.length,slQ 2 2 p.cts.length,slQ 3 2 p.chan.length,nI p.shp.cls,nI p.shp.pow,nI p.shp.dra,nI p.shp.ton,slQ 4 2 p.shp.th.length,slQ 5 2 p.shp.wa.length,slQ 6 2 p.shp.ic.length,nI p.shp.slow,nI p.shp.brash,nI p.shp.rdg,nI p.shp.prs,nI p.size,nI p.frm,nI p.to]]
abbrev jm0(p:Pl):List Value:=[nI p.w,nI p.h,slQ 1 2 p.land.length,slQ 2 2 p.cts.length,slQ 3 2 p.chan.length,nI p.shp.cls,nI p.shp.pow,nI p.shp.dra,nI p.shp.ton,slQ 4 2 p.shp.th.length,slQ 5 2 p.shp.wa.length,slQ 6 2 p.shp.ic.length,nI p.shp.slow,nI p.shp.brash,nI p.shp.rdg,nI p.shp.prs,nI p.size,nI p.frm,nI p.to,nI (endP p),.map (some 9)]
abbrev jmc(p:Pl):=knE (Memo.nil (sfP p)).1
abbrev jma(p:Pl):=rn (sg 7 [(7,10)]) 3 (.tuple #[slQ 7 1 (bestLs p).length,nI (bestT p),nI (bestE p)]:Value)
def RBest(p:Pl):Prop :=
 ((jmd/\(someR (.cells true 1 (jm4 p)))/\(someR (.cells false 0 (jmb p)))/\(someR (.cells true 1 (jm5 p)))/\(someR (.cells true 2 (jm6 p)))/\(someR (.cells true 2 (jm7 p)))/\(someR (.cells true 2 (jm8 p)))/\True)/\(∀H':Heap,H'.length=8->(H'[0]?=some (.cells false 0 jm1:KObj)/\H'[1]?=some (.cells true 1 (jm4 p):KObj)/\H'[2]?=some (.cells false 0 (jmb p):KObj)/\H'[3]?=some (.cells true 1 (jm5 p):KObj)/\H'[4]?=some (.cells true 2 (jm6 p):KObj)/\H'[5]?=some (.cells true 2 (jm7 p):KObj)/\H'[6]?=some (.cells true 2 (jm8 p):KObj)/\True)->KCall prog 30 (jm2 p) H' [] (Is (.tuple #[pt 8,nI 0]) (H' ++ [(.cells true 0 (jm0 p):KObj),(.map (jmc p):KObj)])))/\((jmd/\(someR (.cells true 0 (jm0 p)))/\(someR (.cells true 1 (jm4 p)))/\(someR (.cells false 0 (jmb p)))/\(someR (.cells true 1 (jm5 p)))/\(someR (.cells true 2 (jm6 p)))/\(someR (.cells true 2 (jm7 p)))/\(someR (.cells true 2 (jm8 p)))/\(someR (.map (jmc p)))/\True)/\(∀H':Heap,H'.length=10->(H'[0]?=some (.cells false 0 jm1:KObj)/\H'[8]?=some (.cells true 0 (jm0 p):KObj)/\H'[1]?=some (.cells true 1 (jm4 p):KObj)/\H'[2]?=some (.cells false 0 (jmb p):KObj)/\H'[3]?=some (.cells true 1 (jm5 p):KObj)/\H'[4]?=some (.cells true 2 (jm6 p):KObj)/\H'[5]?=some (.cells true 2 (jm7 p):KObj)/\H'[6]?=some (.cells true 2 (jm8 p):KObj)/\H'[9]?=some (.map (jmc p):KObj)/\True)->KCall prog 31 [pt 8] H' [9] (fun y H2 => ∃z:Memo (sfP p),True/\y=nI (arrP p)/\H2=(List.set H' 9 (.map (knE z.1):KObj))))/\(∀r1:Memo (sfP p),True->(fk (decide (((arrP p):Int)<0)) (wk (.tuple #[.slice none 0 0,nI 0,nI 51]:Value) (.tuple #[slQ 10 1 0,nI 0,nI 51]:Value)/\(true=true/\wk (.tuple #[slQ 10 1 0,nI 0,nI 51]:Value) (jma p)/\((kbq 7 (.cells true 4 []) (.cells true 4 ((bestLs p).flatMap lgC)))/\True))) ((jmd/\(someR (.cells true 0 (jm0 p)))/\(someR (.cells true 1 (jm4 p)))/\(someR (.cells false 0 (jmb p)))/\(someR (.cells true 1 (jm5 p)))/\(someR (.cells true 2 (jm6 p)))/\(someR (.cells true 2 (jm7 p)))/\(someR (.cells true 2 (jm8 p)))/\(someR (.map (knE r1.1)))/\True)/\(∀H':Heap,H'.length=10->(H'[0]?=some (.cells false 0 jm1:KObj)/\H'[8]?=some (.cells true 0 (jm0 p):KObj)/\H'[1]?=some (.cells true 1 (jm4 p):KObj)/\H'[2]?=some (.cells false 0 (jmb p):KObj)/\H'[3]?=some (.cells true 1 (jm5 p):KObj)/\H'[4]?=some (.cells true 2 (jm6 p):KObj)/\H'[5]?=some (.cells true 2 (jm7 p):KObj)/\H'[6]?=some (.cells true 2 (jm8 p):KObj)/\H'[9]?=some (.map (knE r1.1):KObj)/\True)->KCall prog 32 [pt 8,nI (arrP p)] H' [9] (fun y H2 => ∃z:Memo (sfP p),True/\y=slQ 10 1 (bestP p (arrP p)).length/\H2=((List.set H' 9 (.map (knE z.1):KObj)) ++ [(.cells true 4 ((bestP p (arrP p)).flatMap lgC):KObj)])))/\(∀r2:Memo (sfP p),True->(true=true/\wk (.tuple #[slQ 10 1 (bestP p (arrP p)).length,nI (arrP p),nI 0]:Value) (jma p)/\((kbq 7 (.cells true 4 ((bestP p (arrP p)).flatMap lgC)) (.cells true 4 ((bestLs p).flatMap lgC)))/\True))))))))
abbrev jm3(p:Pl):=readsK [.cells false 0 jm1,.cells true 1 (jm4 p),.cells false 0 (jmb p),.cells true 1 (jm5 p),.cells true 2 (jm6 p),.cells true 2 (jm7 p),.cells true 2 (jm8 p)]
theorem EBest(p:Pl):vF prog msk (dm 0) 100000 true 40 true 8 (jm2 p) (jm3 p) (some [])
 (.go 4 (.ans [(0,.cells false 0 jm1),(1,.cells true 1 (jm4 p)),(2,.cells false 0 (jmb p)),(3,.cells true 1 (jm5 p)),(4,.cells true 2 (jm6 p)),(5,.cells true 2 (jm7 p)),(6,.cells true 2 (jm8 p))] (.tuple #[pt 8,nI 0]) [.cells true 0 (jm0 p),.map (jmc p)] (.go 8 (.anse [(0,.cells false 0 jm1),(8,.cells true 0 (jm0 p)),(1,.cells true 1 (jm4 p)),(2,.cells false 0 (jmb p)),(3,.cells true 1 (jm5 p)),(4,.cells true 2 (jm6 p)),(5,.cells true 2 (jm7 p)),(6,.cells true 2 (jm8 p)),(9,.map (jmc p))] [9] (Memo (sfP p)) (fun r1=>True) (fun r1=>nI (arrP p)) (fun r1=>[(9,.map (knE r1.1))]) (fun r1=>[]) (fun r1 => .go 2 (.fork (.go 2 (.as (.tuple #[slQ 10 1 0,nI 0,nI 51]) (.ghost (.cells true 4 []) (.again [(7,10)])))) (.go 1 (.anse [(0,.cells false 0 jm1),(8,.cells true 0 (jm0 p)),(1,.cells true 1 (jm4 p)),(2,.cells false 0 (jmb p)),(3,.cells true 1 (jm5 p)),(4,.cells true 2 (jm6 p)),(5,.cells true 2 (jm7 p)),(6,.cells true 2 (jm8 p)),(9,.map (knE r1.1))] [9] (Memo (sfP p)) (fun r2=>True) (fun r2=>slQ 10 1 (bestP p (arrP p)).length) (fun r2=>[(9,.map (knE r2.1))]) (fun r2=>[.cells true 4 ((bestP p (arrP p)).flatMap lgC)]) (fun r2 => .go 3 (.again [(7,10)]))))))))))
 (newK ((jm3 p):HT).n 3 (.tuple #[slQ 7 1 (bestLs p).length,nI (bestT p),nI (bestE p)]) [(true,.cells true 4 ((bestLs p).flatMap lgC))])=RBest p:=by kernel_rfl
abbrev jm9(l:List Int):Prop:=eR (.func (.func 54) #[] #[pt 2])/\wR (slQ 1 2 l.length)/\eR (nI ((l.length:Nat):Int))/\True
def Rcontains(sp:Value)(l:List Int)(m:List Bool):Prop :=
 (lq (0<=List.length l/\∀jz:Nat,jz<0->List.getD m (l.getD jz 0).toNat false=false) (true=true/\((nI 0:Value)=nI ((0:Nat):Int)/\jm9 l)/\(True)/\(True)/\(True)) (∀x0:Nat,(x0<=List.length l/\∀jz:Nat,jz<x0->List.getD m (l.getD jz 0).toNat false=false)->(fk (decide (((x0:Int):Int)<((l.length:Nat):Int))) ((ixq (x0:Int) l.length)/\(((l.flatMap intC)[(0+Int.toNat (x0:Int)*1)]?=some (nI (l.getD x0 0)))/\((ixq (l.getD x0 0) m.length)/\(((m.flatMap boolC)[(0+Int.toNat (l.getD x0 0)*1)]?=some (.bool (m.getD (l.getD x0 0).toNat false)))/\(fk (m.getD (l.getD x0 0).toNat false) ((.bool (decide ((0:Int)<=(x0:Int))):Value)=sp) (nw ((x0:Int)+1) (∃x0':Nat,(x0'<=List.length l/\∀jz:Nat,jz<x0'->List.getD m (l.getD jz 0).toNat false=false)/\(List.length l-x0')<(List.length l-x0)/\true=true/\((nI ((x0:Int)+1):Value)=nI (x0':Int)/\jm9 l)/\(True)/\(True)/\(True)))))))) ((.bool false:Value)=sp))))
theorem Econtains(sp:Value)(l:List Int)(m:List Bool):vF prog msk (dm 0) 100000 true 40 true 52 [slQ 1 2 l.length,.func (.func 54) #[] #[pt 2]] (readsK [.cells false 0 jm1,.cells true 1 (l.flatMap intC),.cells true 0 [slN 3 m.length],.cells true 1 (m.flatMap boolC)]) (some [])
 (.go 7 (.inv 3 (Nat) (0) [] [] (fun x0=>[(8,nI (x0:Int)),(1,.func (.func 54) #[] #[pt 2]),(0,slQ 1 2 l.length),(7,nI ((l.length:Nat):Int))]) (fun x0=>[]) (fun x0=>[]) (fun x0=>[]) (fun x0=>(x0<=List.length l/\∀jz:Nat,jz<x0->List.getD m (l.getD jz 0).toNat false=false)) (fun x0=>(List.length l-x0)) (fun x0 => .go 0 (.fork (.go 4 (.need (.val (nI (l.getD x0 0)) (.go 3 (.need (.val (.bool (m.getD (l.getD x0 0).toNat false)) (.go 0 (.fork (.auto) (.go 0 (.slot 18 (nI ((x0:Int)+1)) (.go 0 (.again [])))))))))))) (.auto)))))
 (fun v _ _=>v=sp)=Rcontains sp l m:=by kernel_rfl
theorem wkAtG{H:Heap}{p:Pl}{K:Memo (sfP p)}{W m:Nat}(hn:[0,1,2,3,4,5,6,W,m].Nodup){Q:Prop}(h:H[0]?=some strO/\H[W]?=some (.cells true 0 (wkC p 1 2 3 4 5 6 m))/\H[1]?=some (.cells true 1 (p.land.flatMap boolC))/\H[2]?=some (.cells false 0 (p.cts.flatMap chC))/\H[3]?=some (.cells true 1 (p.chan.flatMap boolC)) /\
  H[4]?=some (.cells true 2 (p.shp.th.flatMap ptC))/\H[5]?=some (.cells true 2 (p.shp.wa.flatMap ptC))/\H[6]?=some (.cells true 2 (p.shp.ic.flatMap ptC))/\H[m]?=some (.map (knE K.1))/\Q):WkAt H p K 1 2 3 4 5 6 W m:=by
 obtain ⟨a0,a7,a1,a2,a3,a4,a5,a6,a8,_⟩:=h
 exact ⟨hn,a0,a1,a2,a3,a4,a5,a6,a7,a8⟩
theorem wkAt89{H:Heap}{p:Pl}{K:Memo (sfP p)}{Q:Prop}(h:H[0]?=some strO/\H[8]?=some (.cells true 0 (wkC p 1 2 3 4 5 6 9))/\H[1]?=some (.cells true 1 (p.land.flatMap boolC))/\H[2]?=some (.cells false 0 (p.cts.flatMap chC))/\H[3]?=some (.cells true 1 (p.chan.flatMap boolC)) /\
  H[4]?=some (.cells true 2 (p.shp.th.flatMap ptC))/\H[5]?=some (.cells true 2 (p.shp.wa.flatMap ptC))/\H[6]?=some (.cells true 2 (p.shp.ic.flatMap ptC))/\H[9]?=some (.map (knE K.1))/\Q):WkAt H p K 1 2 3 4 5 6 8 9:=wkAtG (by decide) h
theorem plAt7{H:Heap}{p:Pl}{Q:Prop}(h:H[0]?=some strO/\H[1]?=some (.cells true 1 (p.land.flatMap boolC))/\H[2]?=some (.cells false 0 (p.cts.flatMap chC))/\H[3]?=some (.cells true 1 (p.chan.flatMap boolC)) /\
  H[4]?=some (.cells true 2 (p.shp.th.flatMap ptC))/\H[5]?=some (.cells true 2 (p.shp.wa.flatMap ptC))/\H[6]?=some (.cells true 2 (p.shp.ic.flatMap ptC))/\Q):PlAt H p 1 2 3 4 5 6:=by
 obtain ⟨a0,a1,a2,a3,a4,a5,a6,_⟩:=h
 exact ⟨by decide,a0,a1,a2,a3,a4,a5,a6⟩
theorem kOpenN{p:Pl}(hp:LstP p)(e0:errPl p=0){H:Heap}{l c n t w i N M:Nat}(hN:H.length=N)(hM:M=N+1)(a:PlAt H p l c n t w i) :
  KCall prog 30 [plV p l c n t w i] H [] (Is (.tuple #[pt N,nI 0]) (H ++ [.cells true 0 (wkC p l c n t w i M),.map (knE (Memo.nil (sfP p)).1)])):=by
 subst hN hM
 exact kOpen0 hp e0 a
theorem kBst{p:Pl}(hp:LstP p)(e0:errPl p=0){H:Heap}{l c n t w i:Nat}(a:PlAt H p l c n t w i) :
  KCall prog 8 [plV p l c n t w i] H [] (Is (.tuple #[.slice (some ⟨H.length,0,some 1⟩) (bestLs p).length (bestLs p).length,nI (bestT p),nI (bestE p)]) (H ++ [.cells true 4 ((bestLs p).flatMap lgC)])):=by
 have o:=plOk e0
 refine valKs (fun j => .tuple #[.slice (some ⟨j,0,some 1⟩) (bestLs p).length (bestLs p).length,nI (bestT p),nI (bestE p)]) (new:=[.cells true 4 ((bestLs p).flatMap lgC)]) (Eq.mpr (EBest p) ?_) (pOs_ok p) rfl ⟨⟨_,_,rfl,plainGL _ _⟩,trivial⟩ a.1 a.objs rfl (fun j=>rfl) rfl
 delta RBest jmd jm4 jmb jm5 jm6 jm7 jm8 jm1 jm2 jm0 jmc jma nI slQ pt someR fk kbq
 refine ⟨?_,fun H' hn h=>kOpenN hp e0 hn rfl (plAt7 h),?_,fun H' hn h=>kArrival o (wkAt89 h),fun r1 _=>⟨fun q =>?_,fun q =>?_⟩⟩
 ·repeat' first|exact trivial|refine ⟨rfl,?_⟩
 ·repeat' first|exact trivial|refine ⟨rfl,?_⟩
 ·have h:=of_decide_eq_true q
  rw[show bestLs p=[] from if_pos h,show bestT p=0 from if_pos h,show bestE p=51 from if_pos h]
  repeat' first|exact trivial|exact rfl|exact wk_refl _|refine wks_cons ?_ ?_|exact wk_nil _ _ _ (.inl rfl)|refine wk_tupL ?_|refine ⟨rfl,?_⟩|apply And.intro
 ·have h:=of_decide_eq_false q
  rw[show bestLs p=bestP p (arrP p) from if_neg h,show bestT p=arrP p from if_neg h,show bestE p=0 from if_neg h]
  refine ⟨?_,fun H' hn hh=>hn ▸ kBestR o (bsOk o (by omega)) (wkAt89 hh),fun r2 _ =>?_⟩
  ·repeat' first|exact trivial|refine ⟨rfl,?_⟩
  ·repeat' first|exact plainGL _ _|exact trivial|exact wk_refl _|refine ⟨rfl,?_⟩|apply And.intro
theorem anyM_all{m:List Bool}{l:List Int}(h:∀j,j<l.length->m.getD (Int.toNat (l.getD j 0)) false=false):anyM m l=false:=by
 unfold anyM
 rw[List.any_eq_false]
 intro x hx
 obtain ⟨j,hj,rfl⟩:=List.getElem_of_mem hx
 have:=h j hj
 rw[List.getD_eq_getElem?_getD (l:=l),List.getElem?_eq_getElem hj]at this
 have e:m.getD (Int.toNat l[j]) false=false:=this
 rw[e];decide
theorem kContains{l:List Int}{m:List Bool}(hl:l.length<=1000000)(hr:∀j,j<l.length->0<=l.getD j 0/\l.getD j 0<(m.length:Int)){H:Heap}{L B M:Nat}(hnd:[0,L,B,M].Nodup)(h0:H[0]?=some strO)(h1:H[L]?=some (.cells true 1 (l.flatMap intC)))
  (h2:H[B]?=some (.cells true 0 [slN M m.length])) (h3:H[M]?=some (.cells true 1 (m.flatMap boolC))) :
  KCall prog 52 [slQ L 2 l.length,.func (.func 54) #[] #[pt B]] H [] (Is (.bool (anyM m l)) H):=by
 have i1:rnoOk 3 (.cells true 1 (l.flatMap intC))=true:=(rnCl (σ:=fun _=>none) (d:=0) (plainIL 0 l)).2
 have i2:∀σ,rno σ 3 (.cells true 1 (l.flatMap intC)) = .cells true 1 (l.flatMap intC):=fun σ=>congrArg (KObj.cells true 1) (rnCl (d:=0) (plainIL 0 l)).1
 refine valV (os:=[strO,.cells true 1 (l.flatMap intC),.cells true 0 [slN 3 m.length],.cells true 1 (m.flatMap boolC)]) (ids:=[0,L,B,M]) (Eq.mpr (Econtains _ l m) ?_)
  (by show (rnoOk 3 strO&&(rnoOk 3 (.cells true 1 (l.flatMap intC))&&(rnoOk 3 (.cells true 0 [slN 3 m.length])&&(rnoOk 3 (.cells true 1 (m.flatMap boolC))&&true))))=true;rw[i1,boolRok];rfl) rfl rfl (fun _=>rfl) hnd ⟨h0,by rw[i2];exact h1,h2,by rw[boolRno];exact h3,trivial⟩ rfl rfl
 delta Rcontains jm9 nI slQ pt fk nw eR wR ixq lq
 refine ⟨rfl,⟨Nat.zero_le _,fun j hj=>absurd hj (Nat.not_lt_zero j)⟩,⟨rfl,?_⟩,fun _=>rfl,fun x0 hx0=>⟨fun q =>?_,fun q =>?_⟩⟩
 ·repeat' first|exact trivial|exact wk_refl _|refine ⟨rfl,?_⟩|refine ⟨trivial,?_⟩|apply And.intro
 ·have hx:=of_decide_eq_true q
  have hx':x0<l.length:=by omega
  have hr0:=hr x0 hx'
  refine ⟨by omega,intAt hx' (by omega),by omega,boolAt (by omega) (by omega),fun r =>?_,fun r =>?_⟩
  ·have e:anyM m l=true:=by
    unfold anyM
    rw[List.any_eq_true]
    exact ⟨l.getD x0 0,getD_mem hx',r⟩
   rw[e,decide_eq_true (by omega)]
  ·refine ⟨vI64 (by omega),x0+1,⟨by omega,fun j hj =>?_⟩,by omega,rfl,?_⟩
   ·by_cases e:j=x0
    ·rw[e];exact r
    ·exact hx0.2 j (by omega)
   ·repeat' first|exact trivial|exact wk_refl _|refine ⟨rfl,?_⟩|refine ⟨trivial,?_⟩|apply And.intro
 ·have hx:=of_decide_eq_false q
  rw[anyM_all fun j hj=>hx0.2 j (by omega)]
def leS(s:Span):Span:=⟨s.lo,s.lo⟩
def leC(c:Cell):Cell:=⟨leS c.conc,leS c.thick,leS c.ridge,leS c.press⟩
def leTo(c:Cht)(k:Nat):List Cell:=(c.cells.take k).map leC
def leH(c:Cht):Cht:=⟨c.w,c.h,c.hr,leTo c c.cells.length⟩
def lstTo(l:List Cht):Nat->List Cht
 |0=>l
 |i+1=>(lstTo l i).set i (leH ((lstTo l i).getD i zCh))
def hopeP(p:Pl):Pl:={ p with cts:=lstTo p.cts p.cts.length }
theorem lstTo_len(l:List Cht):∀i,(lstTo l i).length=l.length
 |0=>rfl
 |i+1=>by show (List.set ..).length=_;rw[List.length_set,lstTo_len l i]
theorem lstTo_get(l:List Cht):∀(i:Nat),i<=l.length->∀j,j<l.length->(lstTo l i).getD j zCh=if j<i then leH (l.getD j zCh) else l.getD j zCh
 |0,_,j,_=>by rw[if_neg (Nat.not_lt_zero j)];rfl
 |i+1,hi,j,hj=>by
  show ((lstTo l i).set i _).getD j zCh=_
  rw[getD_set (by rw[lstTo_len];omega),lstTo_get l i (by omega) i (by omega),if_neg (Nat.lt_irrefl i)]
  by_cases e:j=i
  ·rw[if_pos e,e,if_pos (by omega)]
  ·rw[if_neg e,lstTo_get l i (by omega) j hj]
   by_cases f:j<i
   ·rw[if_pos f,if_pos (by omega)]
   ·rw[if_neg f,if_neg (by omega)]
theorem leTo_len(c:Cht)(k:Nat)(h:k<=c.cells.length):(leTo c k).length=k:=by unfold leTo;rw[List.length_map,List.length_take];omega
theorem leTo_succ{c:Cht}{k:Nat}(h:k<c.cells.length):leTo c (k+1)=leTo c k ++ [leC (c.cells.getD k zeroC)]:=by
 unfold leTo
 rw[List.take_add_one,List.map_append,List.getD_eq_getElem?_getD,List.getElem?_eq_getElem h];rfl
def ctI(l:List Int)(x:Int):Bool:=l.any fun y=>y == x
def acB(p:Pl)(c t:Int)(x:Leg):Bool:=ctI (bsP p c) x.to&&(!decide (x.dep<t)&&(inB x.spd 10 250&&(!decide (x.arr<x.dep)&&(x.arr-x.dep == tkP p x.spd))))
def acD(p:Pl)(x:Leg)(j:Nat):Int:=sfP p x.to (Int.tdiv (x.dep+(j:Int)) 6)-x.spd
def mgTo(p:Pl)(x:Leg)(m:Int):Nat->Int
 |0=>m
 |j+1=>if acD p x j<mgTo p x m j then acD p x j else mgTo p x m j
def mgOk(p:Pl)(x:Leg)(n:Nat):Bool:=(List.range n).all fun j => !decide (acD p x j<0)
def lgN(x:Leg):Nat:=Int.toNat (x.arr-x.dep)
def acE(p:Pl)(c t:Int)(x:Leg):Int:=if acB p c t x=false then 50 else if endP p<x.arr then 12 else if wtB p c t x.dep=false then 51 else if mgOk p x (lgN x)=false then 51 else 0
def acC(p:Pl)(l:List Leg):Nat->Int
 |0=>p.frm
 |k+1=>(l.getD k zL).to
def acT(l:List Leg):Nat->Int
 |0=>0
 |k+1=>(l.getD k zL).arr
def acM(p:Pl)(l:List Leg):Nat->Int
 |0=>250
 |k+1=>mgTo p (l.getD k zL) (acM p l k) (lgN (l.getD k zL))
def acU(p:Pl)(l:List Leg)(k:Nat):Int:=acE p (acC p l k) (acT l k) (l.getD k zL)
def accE(p:Pl)(l:List Leg):Int:=if 300<l.length then 2 else first2 (errUp (acU p l) l.length) (if acC p l l.length=p.to then 0 else 50)
def accT(p:Pl)(l:List Leg):Int:=if accE p l=0 then acT l l.length else 0
def accM(p:Pl)(l:List Leg):Int:=if accE p l=0 then acM p l l.length else 0
theorem bsG_bd(f:Int->Bool):∀(n:Nat) (lo hi:Int),lo<=hi->lo<=bsG f n lo hi/\bsG f n lo hi<=hi
 |0,lo,hi,h=>⟨Int.le_refl _,h⟩
 |n+1,lo,hi,h=>by
  unfold bsG
  by_cases q:lo<hi
  ·rw[if_pos q]
   have hd:0<=Int.tdiv (hi-lo+1) 2/\Int.tdiv (hi-lo+1) 2<=hi-lo/\1<=Int.tdiv (hi-lo+1) 2:=by
    rw[Int.tdiv_eq_ediv_of_nonneg (by omega)];omega
   by_cases g:f (lo+Int.tdiv (hi-lo+1) 2)=true
   ·rw[if_pos g]
    have:=bsG_bd f n (lo+Int.tdiv (hi-lo+1) 2) hi (by omega)
    omega
   ·rw[if_neg g]
    have:=bsG_bd f n lo (lo+Int.tdiv (hi-lo+1) 2-1) (by omega)
    omega
  ·rw[if_neg q];exact ⟨Int.le_refl _,h⟩
theorem go_bd(s:Shp)(x:Ice)(ch:Bool):0<=(goS s x ch).1/\(goS s x ch).1<=250:=by
 unfold goS grG
 split
 ·have:=bsG_bd (mbB s x ch) (Int.toNat (250-10)) 10 250 (by omega)
  exact ⟨by omega,this.2⟩
 ·exact ⟨Int.le_refl _,by decide⟩
theorem sf_bd(p:Pl)(c t:Int):0<=sfP p c t/\sfP p c t<=250:=by
 unfold sfP sfX
 split
 ·split
  ·unfold sfS
   split
   ·exact ⟨Int.le_refl _,by decide⟩
   ·split
    ·exact ⟨Int.le_refl _,by decide⟩
    ·exact go_bd _ _ _
  ·exact ⟨Int.le_refl _,(by decide:(0:Int)<=250)⟩
 ·exact ⟨Int.le_refl _,(by decide:(0:Int)<=250)⟩
theorem acE_0{p:Pl}{c t:Int}{x:Leg}(h:acE p c t x=0):acB p c t x=true/\x.arr<=endP p/\wtB p c t x.dep=true/\mgOk p x (lgN x)=true:=by
 unfold acE at h
 by_cases a:acB p c t x=false
 ·rw[if_pos a]at h;exact absurd h (by decide)
 rw[if_neg a]at h
 by_cases b:endP p<x.arr
 ·rw[if_pos b]at h;exact absurd h (by decide)
 rw[if_neg b]at h
 by_cases d:wtB p c t x.dep=false
 ·rw[if_pos d]at h;exact absurd h (by decide)
 rw[if_neg d]at h
 by_cases e:mgOk p x (lgN x)=false
 ·rw[if_pos e]at h;exact absurd h (by decide)
 exact ⟨by simpa using a,Int.not_lt.1 b,by simpa using d,by simpa using e⟩
theorem acE_is{p:Pl}{c t:Int}{x:Leg}(h1:acB p c t x=true)(h2:x.arr<=endP p)(h3:wtB p c t x.dep=true)(h4:mgOk p x (lgN x)=true):acE p c t x=0:=by
 unfold acE
 rw[if_neg (by rw[h1];decide),if_neg (by omega),if_neg (by rw[h3];decide),if_neg (by rw[h4];decide)]
theorem acB_iff{p:Pl}{c t:Int}{x:Leg}:acB p c t x=true ↔ ctI (bsP p c) x.to=true/\t<=x.dep/\inB x.spd 10 250=true/\x.dep<=x.arr/\x.arr-x.dep=tkP p x.spd:=by
 unfold acB;simp only[Bool.and_eq_true,Bool.not_eq_true',decide_eq_false_iff_not,beq_iff_eq,Int.not_lt]
theorem ctI_mem{l:List Int}{x:Int}(h:ctI l x=true):x∈l:=by
 unfold ctI at h
 rw[List.any_eq_true]at h
 obtain ⟨y,hy,e⟩:=h
 rw[<- eq_of_beq e];exact hy
theorem errUp_z{e:Nat->Int}:∀{n:Nat},(∀i,i<n->e i=0)->errUp e n=0
 |0,_=>rfl
 |n+1,h=>errUp_succ (errUp_z fun i hi=>h i (by omega)) (h n (by omega))
def GLe(G G':List (List Bool)):Prop:=∀t j:Nat,(G.getD t []).getD j false=true->(G'.getD t []).getD j false=true
theorem GLe.refl(G:List (List Bool)):GLe G G:=fun _ _ h=>h
theorem GLe.trans{A B C:List (List Bool)}(h:GLe A B)(g:GLe B C):GLe A C:=fun t j q=>g t j (h t j q)
theorem put1_le(G:List (List Bool))(a c:Int):GLe G (put1 G a c):=fun t j h=>by
 unfold put1
 by_cases ha:Int.toNat a<G.length
 ·rw[getD_set ha]
  by_cases e:t=Int.toNat a
  ·rw[if_pos e]
   by_cases hc:Int.toNat c<(G.getD (Int.toNat a) []).length
   ·rw[getD_set hc]
    by_cases f:j=Int.toNat c
    ·rw[if_pos f]
    ·rw[if_neg f,<- e];exact h
   ·rw[List.set_eq_of_length_le (by omega),<- e];exact h
  ·rw[if_neg e];exact h
 ·rw[List.set_eq_of_length_le (by omega)];exact h
theorem put1_at{G:List (List Bool)}{a c:Int}(ha:Int.toNat a<G.length)(hc:Int.toNat c<(G.getD (Int.toNat a) []).length):((put1 G a c).getD (Int.toNat a) []).getD (Int.toNat c) false=true:=by
 unfold put1
 rw[getD_set ha,if_pos rfl,getD_set hc,if_pos rfl]
theorem putLs_le:∀(l:List Leg) (G:List (List Bool)),GLe G (putLs G l)
 | [],G=>GLe.refl G
 |x :: l,G=>(put1_le G x.arr x.to).trans (putLs_le l (put1 G x.arr x.to))
theorem putLs_at{N n:Nat}:∀{l:List Leg} {G:List (List Bool)},GOk N n G->∀{x:Leg},x∈l->Int.toNat x.arr<N->Int.toNat x.to<n->((putLs G l).getD (Int.toNat x.arr) []).getD (Int.toNat x.to) false=true
 | [],_,_,_,h,_,_=>absurd h (by simp)
 |y :: l,G,g,x,h,ha,hc=>by
  rcases List.mem_cons.1 h with e|h
  ·subst e
   exact putLs_le l (put1 G x.arr x.to) _ _ (put1_at (by rw[g.gl];exact ha) (by rw[g.rl _ ha];exact hc))
  ·exact putLs_at (l:=l) (g.put1 y.arr y.to) h ha hc
theorem cSt_le(p:Pl)(t j:Nat)(G:List (List Bool)):GLe G (cSt p t j G):=by
 unfold cSt
 by_cases w:wtB p (j:Int) (t:Int) ((t:Int)+1)=true
 ·rw[if_pos w];exact (put1_le _ _ _).trans (putLs_le _ _)
 ·rw[if_neg w];exact putLs_le _ _
theorem cTo_step{p:Pl}{t:Nat}{G:List (List Bool)}(j:Nat):GLe (cTo p t G j) (cTo p t G (j+1)):=by
 show GLe _ (if _ then _ else _)
 by_cases q:(G.getD t []).getD j false=true
 ·rw[if_pos q];exact cSt_le _ _ _ _
 ·rw[if_neg q];exact GLe.refl _
theorem cTo_le{p:Pl}{t:Nat}{G:List (List Bool)}{i:Nat}:∀{j:Nat},i<=j->GLe (cTo p t G i) (cTo p t G j)
  | 0, h => by obtain rfl : i = 0 := by omega
               exact GLe.refl _
  | j + 1, h => by
    by_cases e:i=j+1
    · subst e;exact GLe.refl _
    · exact (cTo_le (j:=j) (by omega)).trans (cTo_step j)
theorem gTo_le{p:Pl}{a:Nat}:∀{b:Nat},a<=b->GLe (gTo p a) (gTo p b)
  | 0, h => by obtain rfl : a = 0 := by omega
               exact GLe.refl _
  | b + 1, h => by
    by_cases e:a=b+1
    · subst e;exact GLe.refl _
    · exact (gTo_le (b:=b) (by omega)).trans (cTo_le (i:=0) (Nat.zero_le _))
theorem cSt_row{p:Pl}{t j u:Nat}{G:List (List Bool)}(hu:u<=t):(cSt p t j G).getD u []=G.getD u []:=by
 have one:∀(G:List (List Bool)) (a c:Int),(t:Int)<a->(put1 G a c).getD u []=G.getD u []:=fun G a c ha=>by
  unfold put1
  by_cases h:Int.toNat a<G.length
  ·rw[getD_set h,if_neg (by omega)]
  ·rw[List.set_eq_of_length_le (by omega)]
 have many:∀(l:List Leg) (G:List (List Bool)),(∀x∈l,(t:Int)<x.arr)->(putLs G l).getD u []=G.getD u []:=fun l=>by
  induction l with
  |nil=>intro G _;rfl
  |cons x l ih =>
   intro G h
   exact (ih (put1 G x.arr x.to) fun y hy=>h y (List.mem_cons_of_mem _ hy)).trans (one G x.arr x.to (h x List.mem_cons_self))
 unfold cSt
 by_cases w:wtB p (j:Int) (t:Int) ((t:Int)+1)=true
 ·rw[if_pos w,many _ _ fun x hx=>(lgP_mem hx).2.2.1,one _ _ _ (by omega)]
 ·rw[if_neg w,many _ _ fun x hx=>(lgP_mem hx).2.2.1]
theorem cTo_row{p:Pl}{t u:Nat}{G:List (List Bool)}(hu:u<=t):∀j,(cTo p t G j).getD u []=G.getD u []
 |0=>rfl
 |j+1=>by
  show (if _ then _ else _:List (List Bool)).getD u []=_
  by_cases q:(G.getD t []).getD j false=true
  ·rw[if_pos q,cSt_row hu];exact cTo_row hu j
  ·rw[if_neg q];exact cTo_row hu j
theorem gTo_row{p:Pl}{u:Nat}:∀{k m:Nat},u<=k->k<=m->(gTo p m).getD u []=(gTo p k).getD u []
  | k, 0, _, h => by obtain rfl : k = 0 := by omega
                     rfl
  | k, m + 1, hu, h => by
    by_cases e:k=m+1
    · subst e;rfl
    · exact (cTo_row (by omega) _).trans (gTo_row (k:=k) (m:=m) hu (by omega))
theorem tb_step{p:Pl}(o:PlOk p){t j:Nat}(ht:(t:Int)<endP p)(hj:j<p.land.length)(h:((tbP p).getD t []).getD j false=true) :
  ∃G,GOk (NT p) p.chan.length G/\GLe (cSt p t j G) (tbP p):=by
 have hct:=o.cts
 have he:t+1<=Int.toNat (endP p):=by omega
 have h':((gTo p t).getD t []).getD j false=true:=by
  rw[<- gTo_row (p:=p) (u:=t) (k:=t) (m:=Int.toNat (endP p)) (Nat.le_refl _) (by omega)];exact h
 refine ⟨cTo p t (gTo p t) j,(GOk.gTo p t).cTo t j,?_⟩
 have hk:t<NT p:=by show t<Int.toNat (endP p+1);omega
 have hl:j+1<=((gTo p t).getD t []).length:=by rw[(GOk.gTo p t).rl t hk,o.chan];omega
 have e:cSt p t j (cTo p t (gTo p t) j)=cTo p t (gTo p t) (j+1):=by
  show _=(if _ then _ else _:List (List Bool))
  rw[if_pos h']
 rw[e]
 exact (cTo_le hl).trans (gTo_le (a:=t+1) he)
theorem rch_tb{p:Pl}(o:PlOk p){t c:Int}(r:Rch p t c):t<=endP p->0<=t/\(0<=c/\c<(p.land.length:Int))/\((tbP p).getD (Int.toNat t) []).getD (Int.toNat c) false=true:=by
 have hch:=o.chan
 have hN:NT p=Int.toNat (endP p+1):=rfl
 induction r with
 |start =>
  intro h
  have hf:=(sea_in o.frm).1
  refine ⟨Int.le_refl _,hf,gTo_le (a:=0) (Nat.zero_le _) _ _ ?_⟩
  have g:GOk (NT p) p.chan.length (gTo p 0):=GOk.gTo p 0
  have hG:(List.replicate (NT p) (List.replicate p.chan.length false)).length=NT p:=List.length_replicate
  refine put1_at (by rw[hG];omega) ?_
  have h0:Int.toNat 0<NT p:=by omega
  rw[List.getD_eq_getElem?_getD,List.getElem?_replicate,if_pos h0]
  show Int.toNat p.frm<(List.replicate p.chan.length false).length
  rw[List.length_replicate];omega
 | @wait t c r w ht ih =>
  intro h
  obtain ⟨h0,hc,q⟩:=ih (by omega)
  refine ⟨by omega,hc,?_⟩
  have et:((Int.toNat t:Nat):Int)=t:=by omega
  have ec:((Int.toNat c:Nat):Int)=c:=by omega
  obtain ⟨G,g,le⟩:=tb_step o (t:=Int.toNat t) (j:=Int.toNat c) (by omega) (by omega) q
  refine le _ _ ?_
  unfold cSt
  rw[et,ec,if_pos w]
  refine putLs_le _ _ _ _ (put1_at (by rw[g.gl];omega) ?_)
  rw[g.rl _ (by omega)];omega
 | @leg t c x r ht hx ih =>
  intro h
  obtain ⟨h0,hc,q⟩:=ih (by omega)
  have hm:=lgP_mem hx
  have hto:=(bs_mem o hc hm.1).1
  refine ⟨by omega,hto,?_⟩
  have et:((Int.toNat t:Nat):Int)=t:=by omega
  have ec:((Int.toNat c:Nat):Int)=c:=by omega
  obtain ⟨G,g,le⟩:=tb_step o (t:=Int.toNat t) (j:=Int.toNat c) (by omega) (by omega) q
  refine le _ _ ?_
  unfold cSt
  rw[et,ec]
  refine putLs_at (N:=NT p) (n:=p.chan.length) ?_ hx (by omega) (by omega)
  by_cases w:wtB p c t (t+1)=true
  ·rw[if_pos w];exact g.put1 _ _
  ·rw[if_neg w];exact g
theorem arr_least{p:Pl}(o:PlOk p){t:Int}(r:Rch p t p.to)(h:t<=endP p):0<=arrP p/\arrP p<=t:=by
 obtain ⟨h0,hc,q⟩:=rch_tb o r h
 have hct:=o.cts
 have q':atB p (Int.toNat t)=true:=q
 have hl:=(tbOk p).gl
 have hN:NT p=Int.toNat (endP p+1):=rfl
 rcases arr_cases o with ⟨_,f⟩|⟨k,e,h1,h2,f⟩
 ·rw[f (Int.toNat t) (by omega)]at q';cases q'
 ·by_cases l:Int.toNat t<k
  ·rw[f (Int.toNat t) l]at q';cases q'
  ·omega
theorem lowP_top(p:Pl)(to t:Int):∀n,lowP p to t n<=250
 |0=>Int.le_refl _
 |n+1=>by
  show (if _ then _ else _)<=(250:Int)
  split
  ·exact (sf_bd _ _ _).2
  ·exact lowP_top p to t n
theorem lowP_at(p:Pl)(to t:Int):∀{n j:Nat},j<n->lowP p to t n<=sfP p to (Int.tdiv (t+(j:Int)) 6)
 |0,_,h=>absurd h (Nat.not_lt_zero _)
 |n+1,j,h=>by
  show (if _ then _ else _)<=sfP p to (Int.tdiv (t+(j:Int)) 6)
  by_cases e:j=n
  ·subst e
   split
   ·exact Int.le_refl _
   ·omega
  ·have:=lowP_at p to t (n:=n) (j:=j) (by omega)
   split
   ·omega
   ·exact this
theorem spL_low(p:Pl)(to t:Int)(n:Nat):spL p to t n<=lowP p to t n:=by
 unfold spL
 split
 ·split
  ·omega
  ·exact Int.le_refl _
 ·exact Int.le_refl _
theorem okL_at{p:Pl}{to t:Int}{n k:Nat}(h:okL p to t n=true)(hk:k<n):goB p to t (k+1)=true:=by
 unfold okL at h
 exact List.all_eq_true.1 h k (List.mem_range.2 hk)
theorem lg_acE{p:Pl}{c t:Int}{x:Leg}(h:x∈lgP p c t):acE p c t x=0:=by
 have h':=h
 unfold lgP at h'
 obtain ⟨to,h1,h2⟩:=List.mem_flatMap.1 h'
 obtain ⟨k,h3,h4⟩:=lgFull_mem h2
 obtain ⟨e1,e2,e3,e4,e5,e6⟩:=lgOne_mem h4
 have g:=okL_at e5 (Nat.lt_succ_self k)
 unfold goB at g
 rw[Bool.and_eq_true,decide_eq_true_eq,decide_eq_true_eq]at g
 have l1:=spL_low p to t (k+1)
 have l2:=lowP_top p to t (k+1)
 have hct:ctI (bsP p c) x.to=true:=by
  unfold ctI
  rw[List.any_eq_true]
  exact ⟨x.to,by rw[e1];exact h1,beq_self_eq_true _⟩
 refine acE_is (acB_iff.2 ⟨hct,by omega,inB_iff.2 ⟨by omega,by omega⟩,by omega,by omega⟩) (by omega) ?_ ?_
 ·unfold wtB;rw[e2,show Int.toNat (t-t)=0 by omega];rfl
 ·have hn:lgN x=k+1:=by unfold lgN;omega
  unfold mgOk
  rw[hn,List.all_eq_true]
  intro j hj
  have hj':=List.mem_range.1 hj
  have l3:=lowP_at p to t (n:=k+1) (j:=j) hj'
  have:¬ acD p x j<0:=by unfold acD;rw[e1,e2,e4];omega
  rw[decide_eq_false this];rfl
theorem acE_wait{p:Pl}{c s t:Int}{x:Leg}(hs:s<=t)(w:wtB p c s x.dep=true)(h:acE p c t x=0):acE p c s x=0:=by
 obtain ⟨a,b,d,e⟩:=acE_0 h
 obtain ⟨b1,b2,b3,b4,b5⟩:=acB_iff.1 a
 exact acE_is (acB_iff.2 ⟨b1,by omega,b3,b4,b5⟩) b w e
theorem wtB_self(p:Pl)(c t:Int):wtB p c t t=true:=by
 unfold wtB;rw[show Int.toNat (t-t)=0 by omega];rfl
theorem wtB_more{p:Pl}{c s t:Int}(hs:s<=t)(w:wtB p c s t=true)(q:¬ sfP p c (Int.tdiv t 6)=0):wtB p c s (t+1)=true:=by
 unfold wtB at *
 rw[show Int.toNat (t+1-s)=Int.toNat (t-s)+1 by omega,wtTo_succ,w,show s+((Int.toNat (t-s):Nat):Int)=t by omega]
 simpa using q
theorem wtB_one{p:Pl}{c t:Int}(q:¬ sfP p c (Int.tdiv t 6)=0):wtB p c t (t+1)=true:=wtB_more (Int.le_refl t) (wtB_self p c t) q
theorem acC_app{p:Pl}{l:List Leg}{x:Leg}{k:Nat}(h:k<=l.length):acC p (l ++ [x]) k=acC p l k:=by
 cases k with
 |zero=>rfl
 |succ k=>show ((l ++ [x]).getD k zL).to=(l.getD k zL).to;rw[List.getD_eq_getElem?_getD,List.getD_eq_getElem?_getD,List.getElem?_append_left (by omega)]
theorem acT_app{l:List Leg}{x:Leg}{k:Nat}(h:k<=l.length):acT (l ++ [x]) k=acT l k:=by
 cases k with
 |zero=>rfl
 |succ k=>show ((l ++ [x]).getD k zL).arr=(l.getD k zL).arr;rw[List.getD_eq_getElem?_getD,List.getD_eq_getElem?_getD,List.getElem?_append_left (by omega)]
theorem getD_appl{l:List Leg}{x:Leg}:(l ++ [x]).getD l.length zL=x:=by
 rw[List.getD_eq_getElem?_getD,List.getElem?_append_right (Nat.le_refl _),Nat.sub_self];rfl
theorem acU_app{p:Pl}{l:List Leg}{x:Leg}{k:Nat}(h:k<l.length):acU p (l ++ [x]) k=acU p l k:=by
 unfold acU
 rw[acC_app (by omega),acT_app (by omega),List.getD_eq_getElem?_getD,List.getElem?_append_left h,<- List.getD_eq_getElem?_getD]
theorem ac_more{p:Pl}{l:List Leg}{x:Leg}(h:errUp (acU p l) l.length=0)(e:acE p (acC p l l.length) (acT l l.length) x=0):errUp (acU p (l ++ [x])) (l ++ [x]).length=0:=by
 rw[List.length_append,show l.length + [x].length=l.length+1 from rfl]
 refine errUp_succ (errUp_z fun i hi=>by rw[acU_app hi];exact errUp_all h i hi) ?_
 unfold acU
 rw[acC_app (Nat.le_refl _),acT_app (Nat.le_refl _),getD_appl]
 exact e
theorem ac_last{p:Pl}{l:List Leg}{x:Leg}:acC p (l ++ [x]) (l ++ [x]).length=x.to/\acT (l ++ [x]) (l ++ [x]).length=x.arr:=by
 rw[List.length_append,show l.length + [x].length=l.length+1 from rfl]
 exact ⟨by show ((l ++ [x]).getD l.length zL).to=_;rw[getD_appl],by show ((l ++ [x]).getD l.length zL).arr=_;rw[getD_appl]⟩
structure Walk(p:Pl)(l:List Leg)(c t:Int):Prop where
 ok:errUp (acU p l) l.length=0
 at_:acC p l l.length=c
 r0:Rch p (acT l l.length) c
 r:Rch p t c
 le:acT l l.length<=t
 w:wtB p c (acT l l.length) t=true
 e:t<=endP p
theorem Walk.start{p:Pl}(o:PlOk p):Walk p [] p.frm 0:=by
 have hct:=o.cts
 exact ⟨rfl,rfl,.start,.start,Int.le_refl _,wtB_self p p.frm 0,by unfold endP;omega⟩
theorem Walk.wait{p:Pl}{l:List Leg}{c t:Int}(k:Walk p l c t)(h:t<endP p)(q:10<=sfP p c (Int.tdiv t 6)):Walk p l c (t+1):=by
 have q':¬ sfP p c (Int.tdiv t 6)=0:=by omega
 have:=k.le
 exact ⟨k.ok,k.at_,k.r0,.wait k.r (wtB_one q') h,by omega,wtB_more k.le k.w q',by omega⟩
theorem Walk.leg{p:Pl}{l:List Leg}{c t:Int}{x:Leg}(k:Walk p l c t)(h:x∈lgP p c t):Walk p (l ++ [x]) x.to x.arr:=by
 have m:=lgP_mem h
 have a:=ac_last (p:=p) (l:=l) (x:=x)
 have ht:t<endP p:=by omega
 have r':Rch p x.arr x.to:=.leg k.r ht h
 refine ⟨ac_more k.ok ?_,a.1,by rw[a.2];exact r',r',by rw[a.2];omega,by rw[a.2];exact wtB_self _ _ _,m.2.2.2⟩
 rw[k.at_]
 exact acE_wait k.le (by rw[m.2.1];exact k.w) (lg_acE h)
theorem Walk.cell{p:Pl}(o:PlOk p){l:List Leg}{c t:Int}(k:Walk p l c t):0<=t/\0<=c/\c<(p.land.length:Int):=by
 have:=rch_tb o k.r k.e
 exact ⟨this.1,this.2.1⟩
theorem rch_sea{p:Pl}(o:PlOk p){t c:Int}(r:Rch p t c):seaB p.land c=true:=by
 induction r with
 |start=>exact o.frm
 |wait r w h ih=>exact ih
 |leg r h m ih=>exact seaB_iff.2 (bs_mem o (sea_in ih).1 (lgP_mem m).1)
theorem endP_le{p:Pl}(o:PlOk p):6<=endP p/\endP p<=288:=by
 have:=o.cts
 unfold endP;omega
abbrev jn3:List Value:=[nI 4000,nI 8000,nI 14000,nI 24000,nI 40000,nI 90000]
abbrev jnn:KObj:=.cells false 0 jn3
abbrev jn9(p:Pl):=p.land.flatMap boolC
abbrev jng(p:Pl):=p.cts.flatMap chC
abbrev jna(p:Pl):=p.chan.flatMap boolC
abbrev jnb(p:Pl):=p.shp.th.flatMap ptC
abbrev jnc(p:Pl):=p.shp.wa.flatMap ptC
abbrev jnd(p:Pl):=p.shp.ic.flatMap ptC
abbrev jn4(p:Pl):List Value:=[.agg #[nI p.w,nI p.h,slQ 1 2 p.land.length,slQ 2 2 p.cts.length,slQ 3 2 p.chan.length,nI p.shp.cls,nI p.shp.pow,nI p.shp.dra,nI p.shp.ton,slQ 4 2 p.shp.th.length,slQ 5 2 p.shp.wa.length,slQ 6 2 p.shp.ic.length,nI p.shp.slow,nI p.shp.brash,nI p.shp.rdg,nI p.shp.prs,nI p.size,nI p.frm,nI p.to]]
abbrev jn0(p:Pl):List Value:=[nI p.w,nI p.h,slQ 1 2 p.land.length,slQ 2 2 p.cts.length,slQ 3 2 p.chan.length,nI p.shp.cls,nI p.shp.pow,nI p.shp.dra,nI p.shp.ton,slQ 4 2 p.shp.th.length,slQ 5 2 p.shp.wa.length,slQ 6 2 p.shp.ic.length,nI p.shp.slow,nI p.shp.brash,nI p.shp.rdg,nI p.shp.prs,nI p.size,nI p.frm,nI p.to,nI (endP p),.map (some 9)]
abbrev jni(p:Pl):=knE (Memo.nil (sfP p)).1
abbrev jn7(p:Pl):Int:=(p.chan.length:Nat)
abbrev jn8(p:Pl):Prop:=eR (.slice none 0 0)/\eR (nI 0)/\eR (pt 8)/\eR (pt 11)/\wR (slQ 12 1 (tbP p).length)/\eR (nI (((tbP p).length:Nat):Int))/\True
abbrev jnl:Prop:=(True)/\(True)
abbrev jne(p:Pl)(x2:Nat):Value:=.agg ⟨(((tbP p).getD x2 []).flatMap boolC)⟩
abbrev jn1(p:Pl)(x2:Nat):Prop:=eR (nI (((tbP p).length:Nat):Int))/\wR (slQ 12 1 (tbP p).length)/\eR (pt 11)/\eR (pt 8)/\eR (nI 0)/\eR (.slice none 0 0)/\eR (nI (x2:Int))/\(.iface (((tbP p).getD x2 []).length+1) (jne p x2):Value)=rn (sg 13 []) 3 (.iface (((tbP p).getD x2 []).length+1) (jne p x2):Value)/\(.iface (((tbP p).getD x2 []).length+1) (jne p x2):Value)=rn (sg 13 []) 3 (.iface (((tbP p).getD x2 []).length+1) (jne p x2):Value)/\eR (nI ((((tbP p).getD x2 []).length:Nat):Int))/\True
abbrev jn6(p:Pl)(x2 x3:Nat):=met1 (metTo p x2) ((tbP p).getD x2 []) x3
abbrev jnj(p:Pl):=rn (sg 7 [(7,13)]) 3 (.tuple #[slQ 7 1 (wlP p).length,nI (wlE p)]:Value)
abbrev jnh(p:Pl):Prop:=eR (pt 11)/\eR (pt 8)/\eR (nI 0)/\eR (.slice none 0 0)/\eR (nI (jn7 p))/\True
abbrev jn2(x3:Nat)(p:Pl):=nw ((x3:Int)+1) (∃x3':Nat,(x3'<=List.length (metP p))/\(List.length (metP p)-x3')<(List.length (metP p)-x3)/\true=true/\((nI ((x3:Int)+1):Value)=nI (x3':Int)/\wk (slQ 13 1 (wlTo p x3).length:Value) (slQ 13 1 (wlTo p x3').length:Value)/\jnh p)/\(True)/\((kbq 13 (.cells true 1 ((wlTo p x3).flatMap intC)) (.cells true 1 ((wlTo p x3').flatMap intC)))/\True)/\(True))
def RWall(p:Pl):Prop :=
 (((someR jnn)/\(someR (.cells true 1 (jn9 p)))/\(someR (.cells false 0 (jng p)))/\(someR (.cells true 1 (jna p)))/\(someR (.cells true 2 (jnb p)))/\(someR (.cells true 2 (jnc p)))/\(someR (.cells true 2 (jnd p)))/\True)/\(∀H':Heap,H'.length=8->(H'[0]?=some (.cells false 0 jn3:KObj)/\H'[1]?=some (.cells true 1 (jn9 p):KObj)/\H'[2]?=some (.cells false 0 (jng p):KObj)/\H'[3]?=some (.cells true 1 (jna p):KObj)/\H'[4]?=some (.cells true 2 (jnb p):KObj)/\H'[5]?=some (.cells true 2 (jnc p):KObj)/\H'[6]?=some (.cells true 2 (jnd p):KObj)/\True)->KCall prog 30 (jn4 p) H' [] (Is (.tuple #[pt 8,nI 0]) (H' ++ [(.cells true 0 (jn0 p):KObj),(.map (jni p):KObj)])))/\(((0:Int)<=(jn7 p)/\((jn7 p):Int)<=(jn7 p)/\((jn7 p):Int)<2 ^ 62/\1*((jn7 p):Int)<=2 ^ 48)/\(((someR jnn)/\(someR (.cells true 0 (jn0 p)))/\(someR (.cells true 1 (jn9 p)))/\(someR (.cells false 0 (jng p)))/\(someR (.cells true 1 (jna p)))/\(someR (.cells true 2 (jnb p)))/\(someR (.cells true 2 (jnc p)))/\(someR (.cells true 2 (jnd p)))/\(someR (.map (jni p)))/\True)/\(∀H':Heap,H'.length=12->(H'[0]?=some (.cells false 0 jn3:KObj)/\H'[8]?=some (.cells true 0 (jn0 p):KObj)/\H'[1]?=some (.cells true 1 (jn9 p):KObj)/\H'[2]?=some (.cells false 0 (jng p):KObj)/\H'[3]?=some (.cells true 1 (jna p):KObj)/\H'[4]?=some (.cells true 2 (jnb p):KObj)/\H'[5]?=some (.cells true 2 (jnc p):KObj)/\H'[6]?=some (.cells true 2 (jnd p):KObj)/\H'[9]?=some (.map (jni p):KObj)/\True)->KCall prog 51 [pt 8] H' [9] (fun y H2 => ∃z:Memo (sfP p),True/\y=slQ 12 1 (tbP p).length/\H2=((List.set H' 9 (.map (knE z.1):KObj)) ++ [(.cells true 1 (List.map dV (tbP p)):KObj)])))/\(∀r1:Memo (sfP p),True->(lq (0<=List.length (tbP p)) (true=true/\((nI 0:Value)=nI ((0:Nat):Int)/\jn8 p)/\((kbq 13 (.cells true 1 (krep [.bool false] p.chan.length)) (.cells true 1 ((metTo p 0).flatMap boolC)))/\True)/\jnl) (∀x2:Nat,(x2<=List.length (tbP p))->(fk (decide (((x2:Int):Int)<(((tbP p).length:Nat):Int))) ((ixq (x2:Int) (tbP p).length)/\(((List.map dV (tbP p))[(0+Int.toNat (x2:Int)*1)]?=some (.iface (((tbP p).getD x2 []).length+1) (jne p x2)))/\(lq (0<=List.length ((tbP p).getD x2 [])) (true=true/\((nI 0:Value)=nI ((0:Nat):Int)/\jn1 p x2)/\((kbq 13 (.cells true 1 ((metTo p x2).flatMap boolC)) (.cells true 1 ((met1 (metTo p x2) ((tbP p).getD x2 []) 0).flatMap boolC)))/\True)/\jnl) (∀x3:Nat,(x3<=List.length ((tbP p).getD x2 []))->(fk (decide (((x3:Int):Int)<((((tbP p).getD x2 []).length:Nat):Int))) ((ixq (x3:Int) ((tbP p).getD x2 []).length)/\(((((tbP p).getD x2 []).flatMap boolC)[(Int.toNat (x3:Int)*1)]?=some (.bool (((tbP p).getD x2 []).getD x3 false)))/\((ixq (x3:Int) p.chan.length)/\((((jn6 p x2 x3).flatMap boolC)[(0+Int.toNat (x3:Int)*1)]?=some (.bool ((jn6 p x2 x3).getD x3 false)))/\(fk ((jn6 p x2 x3).getD x3 false) ((ixq (x3:Int) p.chan.length)/\(((0+Int.toNat (x3:Int)*1)+1<=List.length ((jn6 p x2 x3).flatMap boolC))/\true=true/\(nw ((x3:Int)+1) (∃x3':Nat,(x3'<=List.length ((tbP p).getD x2 []))/\(List.length ((tbP p).getD x2 [])-x3')<(List.length ((tbP p).getD x2 [])-x3)/\true=true/\((nI ((x3:Int)+1):Value)=nI (x3':Int)/\jn1 p x2)/\((kbq 13 (.cells true 1 (setl ((jn6 p x2 x3).flatMap boolC) (0+Int.toNat (x3:Int)*1) [.bool true])) (.cells true 1 ((met1 (metTo p x2) ((tbP p).getD x2 []) x3').flatMap boolC)))/\True)/\jnl)))) ((ixq (x3:Int) p.chan.length)/\(((0+Int.toNat (x3:Int)*1)+1<=List.length ((jn6 p x2 x3).flatMap boolC))/\true=true/\(nw ((x3:Int)+1) (∃x3':Nat,(x3'<=List.length ((tbP p).getD x2 []))/\(List.length ((tbP p).getD x2 [])-x3')<(List.length ((tbP p).getD x2 [])-x3)/\true=true/\((nI ((x3:Int)+1):Value)=nI (x3':Int)/\jn1 p x2)/\((kbq 13 (.cells true 1 (setl ((jn6 p x2 x3).flatMap boolC) (0+Int.toNat (x3:Int)*1) [.bool (((tbP p).getD x2 []).getD x3 false)])) (.cells true 1 ((met1 (metTo p x2) ((tbP p).getD x2 []) x3').flatMap boolC)))/\True)/\jnl))))))))) (nw ((x2:Int)+1) (∃x2':Nat,(x2'<=List.length (tbP p))/\(List.length (tbP p)-x2')<(List.length (tbP p)-x2)/\true=true/\((nI ((x2:Int)+1):Value)=nI (x2':Int)/\jn8 p)/\((kbq 13 (.cells true 1 ((jn6 p x2 x3).flatMap boolC)) (.cells true 1 ((metTo p x2').flatMap boolC)))/\True)/\jnl))))))) ((some (.cells true 1 ((metTo p x2).flatMap boolC):KObj)=some (.cells true 1 ((metP p).flatMap boolC):KObj))/\((ixq p.to p.chan.length)/\((((metP p).flatMap boolC)[(0+Int.toNat p.to*1)]?=some (.bool ((metP p).getD p.to.toNat false)))/\(fk ((metP p).getD p.to.toNat false) (wk (.tuple #[.slice none 0 0,nI 9]:Value) (.tuple #[slQ 13 1 0,nI 9]:Value)/\(true=true/\wk (.tuple #[slQ 13 1 0,nI 9]:Value) (jnj p)/\((kbq 7 (.cells true 1 []) (.cells true 1 ((wlP p).flatMap intC)))/\True))) (lq (0<=List.length (metP p)) (true=true/\((nI 0:Value)=nI ((0:Nat):Int)/\wk (.slice none 0 0:Value) (slQ 0 1 (wlTo p 0).length:Value)/\jnh p)/\(True)/\(True/\True)/\(True)) (∀x3:Nat,(x3<=List.length (metP p))->(fk (decide (((x3:Int):Int)<(jn7 p))) (c1q 14 1 (.cells true 1 (jn9 p)) 43 [.agg #[nI p.w,nI p.h,slQ 1 2 p.land.length],nI (x3:Int)] (.bool (seaB p.land (x3:Int))) (fk (seaB p.land (x3:Int)) ((ixq (x3:Int) p.chan.length)/\((((metP p).flatMap boolC)[(0+Int.toNat (x3:Int)*1)]?=some (.bool ((metP p).getD x3 false)))/\(fk (!((metP p).getD x3 false)) (((someR jnn)/\(someR (.cells true 0 (jn0 p)))/\(someR (.cells true 1 (jn9 p)))/\(someR (.cells false 0 (jng p)))/\(someR (.cells true 1 (jna p)))/\(someR (.cells true 2 (jnb p)))/\(someR (.cells true 2 (jnc p)))/\(someR (.cells true 2 (jnd p)))/\(someR (.map (knE r1.1)))/\True)/\(∀H':Heap,H'.length=14->(H'[0]?=some (.cells false 0 jn3:KObj)/\H'[8]?=some (.cells true 0 (jn0 p):KObj)/\H'[1]?=some (.cells true 1 (jn9 p):KObj)/\H'[2]?=some (.cells false 0 (jng p):KObj)/\H'[3]?=some (.cells true 1 (jna p):KObj)/\H'[4]?=some (.cells true 2 (jnb p):KObj)/\H'[5]?=some (.cells true 2 (jnc p):KObj)/\H'[6]?=some (.cells true 2 (jnd p):KObj)/\H'[9]?=some (.map (knE r1.1):KObj)/\True)->KCall prog 53 [pt 8,nI (x3:Int)] H' [] (Is (slQ 14 1 (bsP p (x3:Int)).length) (H' ++ [(.cells true 1 ((bsP p (x3:Int)).flatMap intC):KObj)])))/\(c4q 15 0 jnn 14 (.cells true 1 ((bsP p (x3:Int)).flatMap intC)) 11 (.cells true 0 [slN 10 p.chan.length]) 10 (.cells true 1 ((metP p).flatMap boolC)) 52 [slQ 14 1 (bsP p (x3:Int)).length,.func (.func 54) #[] #[pt 11]] (.bool (anyM (metP p) (bsP p (x3:Int)))) (fk (anyM (metP p) (bsP p (x3:Int))) (apq (wlTo p x3).length 8 1 ((wlTo p x3).flatMap intC) [nI (x3:Int)] (nw ((x3:Int)+1) (∃x3':Nat,(x3'<=List.length (metP p))/\(List.length (metP p)-x3')<(List.length (metP p)-x3)/\true=true/\((nI ((x3:Int)+1):Value)=nI (x3':Int)/\wk (slN 16 ((wlTo p x3).length+1):Value) (slQ 16 1 (wlTo p x3').length:Value)/\jnh p)/\(True)/\((kbq 13 (.cells true 1 (((((wlTo p x3).flatMap intC).drop 0).take ((wlTo p x3).length*1))++((([nI (x3:Int)]:List Value).drop 0).take (1*1)))) (.cells true 1 ((wlTo p x3').flatMap intC)))/\True)/\(True)))) (jn2 x3 p)))) (jn2 x3 p)))) (jn2 x3 p))) (true=true/\wk (.tuple #[slQ 13 1 (wlTo p x3).length,nI 0]:Value) (jnj p)/\((kbq 7 (.cells true 1 ((wlTo p x3).flatMap intC)) (.cells true 1 ((wlP p).flatMap intC)))/\True))))))))))))))))
abbrev jn5(p:Pl):=readsK [.cells false 0 jn3,.cells true 1 (jn9 p),.cells false 0 (jng p),.cells true 1 (jna p),.cells true 2 (jnb p),.cells true 2 (jnc p),.cells true 2 (jnd p)]
abbrev jnk:Nat×KObj:=(0,.cells false 0 jn3)
abbrev jnm(x3:Nat):Hint:=.need (.need (.go 0 (.slot 52 (nI ((x3:Int)+1)) (.go 0 (.again [])))))
abbrev jnf(x3:Nat):Hint:=.slot 92 (nI ((x3:Int)+1)) (.go 0 (.again [(13,13)]))
theorem EWall(p:Pl):vF prog msk (dm 0) 100000 true 40 true 17 (jn4 p) (jn5 p) (some [])
 (.go 3 (.ans [jnk,(1,.cells true 1 (jn9 p)),(2,.cells false 0 (jng p)),(3,.cells true 1 (jna p)),(4,.cells true 2 (jnb p)),(5,.cells true 2 (jnc p)),(6,.cells true 2 (jnd p))] (.tuple #[pt 8,nI 0]) [.cells true 0 (jn0 p),.map (jni p)] (.go 13 (.need (.go 2 (.anse [jnk,(8,.cells true 0 (jn0 p)),(1,.cells true 1 (jn9 p)),(2,.cells false 0 (jng p)),(3,.cells true 1 (jna p)),(4,.cells true 2 (jnb p)),(5,.cells true 2 (jnc p)),(6,.cells true 2 (jnd p)),(9,.map (jni p))] [9] (Memo (sfP p)) (fun r1=>True) (fun r1=>slQ 12 1 (tbP p).length) (fun r1=>[(9,.map (knE r1.1))]) (fun r1=>[.cells true 1 (List.map dV (tbP p))]) (fun r1 => .go 1 (.inv 3 (Nat) (0) [] [10] (fun x2=>[(31,nI (x2:Int)),(2,.slice none 0 0),(3,nI 0),(4,pt 8),(6,pt 11),(29,slQ 12 1 (tbP p).length),(30,nI (((tbP p).length:Nat):Int))]) (fun x2=>[(10,true,.cells true 1 ((metTo p x2).flatMap boolC))]) (fun x2=>[]) (fun x2=>[]) (fun x2=>(x2<=List.length (tbP p))) (fun x2=>(List.length (tbP p)-x2)) (fun x2 => .go 0 (.fork (.need (.val (.iface (((tbP p).getD x2 []).length+1) (jne p x2)) (.go 3 (.inv 3 (Nat) (0) [] [10] (fun x3=>[(37,nI (x3:Int)),(30,nI (((tbP p).length:Nat):Int)),(29,slQ 12 1 (tbP p).length),(6,pt 11),(4,pt 8),(3,nI 0),(2,.slice none 0 0),(31,nI (x2:Int)),(8,.iface (((tbP p).getD x2 []).length+1) (jne p x2)),(35,.iface (((tbP p).getD x2 []).length+1) (jne p x2)),(36,nI ((((tbP p).getD x2 []).length:Nat):Int))]) (fun x3=>[(10,true,.cells true 1 ((jn6 p x2 x3).flatMap boolC))]) (fun x3=>[]) (fun x3=>[]) (fun x3=>(x3<=List.length ((tbP p).getD x2 []))) (fun x3=>(List.length ((tbP p).getD x2 [])-x3)) (fun x3 => .go 0 (.fork (.go 0 (.need (.val (.bool (((tbP p).getD x2 []).getD x3 false)) (.go 5 (.need (.val (.bool ((jn6 p x2 x3).getD x3 false)) (.go 0 (.gfork (.go 0 (jnm x3)) (.go 1 (jnm x3)))))))))) (.go 0 (.slot 53 (nI ((x2:Int)+1)) (.go 0 (.again [])))))))))) (.obj 10 (.cells true 1 ((metP p).flatMap boolC)) (.go 5 (.need (.val (.bool ((metP p).getD p.to.toNat false)) (.fork (.go 1 (.as (.tuple #[slQ 13 1 0,nI 9]) (.ghost (.cells true 1 []) (.again [(7,13)])))) (.go 3 (.inv 3 (Nat) (0) [] [] (fun x3=>[(64,nI (x3:Int)),(11,slQ 13 1 (wlTo p x3).length),(6,pt 11),(4,pt 8),(3,nI 0),(2,.slice none 0 0),(63,nI (jn7 p))]) (fun x3=>[]) (fun x3=>[(true,.cells true 1 ((wlTo p x3).flatMap intC))]) (fun x3=>[]) (fun x3=>(x3<=List.length (metP p))) (fun x3=>(List.length (metP p)-x3)) (fun x3 => .go 0 (.fork (.go 7 (.ans [(1,.cells true 1 (jn9 p))] (.bool (seaB p.land (x3:Int))) [] (.go 0 (.gfork (.go 1 (.need (.val (.bool ((metP p).getD x3 false)) (.go 2 (.gfork (.go 1 (.ans [jnk,(8,.cells true 0 (jn0 p)),(1,.cells true 1 (jn9 p)),(2,.cells false 0 (jng p)),(3,.cells true 1 (jna p)),(4,.cells true 2 (jnb p)),(5,.cells true 2 (jnc p)),(6,.cells true 2 (jnd p)),(9,.map (knE r1.1))] (slQ 14 1 (bsP p (x3:Int)).length) [.cells true 1 ((bsP p (x3:Int)).flatMap intC)] (.go 0 (.ans [jnk,(14,.cells true 1 ((bsP p (x3:Int)).flatMap intC)),(11,.cells true 0 [slN 10 p.chan.length]),(10,.cells true 1 ((metP p).flatMap boolC))] (.bool (anyM (metP p) (bsP p (x3:Int)))) [] (.go 0 (.fork (.go 2 (.need (.go 1 (.slot 92 (nI ((x3:Int)+1)) (.go 0 (.again [(13,16)])))))) (.go 0 (jnf x3)))))))) (.go 2 (jnf x3))))))) (.go 4 (jnf x3)))))) (.go 2 (.again [(7,13)])))))))))))))))))))))
 (newK ((jn5 p):HT).n 3 (.tuple #[slQ 7 1 (wlP p).length,nI (wlE p)]) [(true,.cells true 1 ((wlP p).flatMap intC))])=RWall p:=by kernel_rfl
theorem wlTo_succ(p:Pl)(n:Nat):wlTo p (n+1)=wlTo p n++(if wlB p n then [(n:Int)] else []):=by
 unfold wlTo
 rw[List.range_succ,List.filter_append,List.map_append]
 congr 1
 by_cases h:wlB p n=true
 ·rw[if_pos h,List.filter_cons,if_pos h];rfl
 ·rw[if_neg h,List.filter_cons,if_neg h];rfl
theorem wlTo_len(p:Pl)(n:Nat):(wlTo p n).length<=n:=by
 unfold wlTo
 rw[List.length_map]
 exact Nat.le_trans (List.length_filter_le ..) (by simp)
theorem setl_bo(l:List Bool){c off:Nat}(b:Bool)(h:c<l.length)(ho:off=0+c*1):setl (l.flatMap boolC) off [.bool b]=(l.set c b).flatMap boolC:=by
 subst ho
 rw[Nat.zero_add];exact flat_set boolC_len l c h b
theorem met1_succ(m r:List Bool)(i:Nat):met1 m r (i+1)=(met1 m r i).set i ((met1 m r i).getD i false ||r.getD i false):=rfl
theorem kWall{p:Pl}(hp:LstP p)(e0:errPl p=0){H:Heap}{l c n t w i:Nat}(a:PlAt H p l c n t w i) :
  KCall prog 17 [plV p l c n t w i] H [] (Is (.tuple #[.slice (some ⟨H.length,0,some 1⟩) (wlP p).length (wlP p).length,nI (wlE p)]) (H ++ [.cells true 1 ((wlP p).flatMap intC)])):=by
 have o:=plOk e0
 refine valKs (fun j => .tuple #[.slice (some ⟨j,0,some 1⟩) (wlP p).length (wlP p).length,nI (wlE p)]) (new:=[.cells true 1 ((wlP p).flatMap intC)]) (Eq.mpr (EWall p) ?_) (pOs_ok p) rfl ⟨⟨_,_,rfl,plainIL _ _⟩,trivial⟩ a.1 a.objs rfl (fun j=>rfl) rfl
 have he:=end_le o
 have hct:=o.cts
 have hch:=o.chan
 have hbd:=o.bd
 have hto:=sea_in o.to
 have hT:=tbOk p
 have hl:=hT.gl
 have hN:NT p=Int.toNat (endP p+1):=rfl
 have hm:=metTo_len p (tbP p).length
 have hm':(metP p).length=p.chan.length:=hm
 delta RWall jnn jn9 jng jna jnb jnc jnd jn3 jn4 jn0 jni jn7 jn8 jnl jne jn1 jn6 jnj jnh jn2 nI slQ pt slN someR fk nw eR wR kbq ixq lq apq c1q c4q
 refine ⟨?_,fun H' hn h=>kOpenN hp e0 hn rfl (plAt7 h),⟨by omega,by omega,by omega,by omega⟩,?_,fun H' hn h=>hn ▸ kTable o (wkAt89 h),fun r1 _=>⟨rfl,Nat.zero_le _,⟨rfl,?_⟩,fun _=>rfl,fun x2 hx2=>⟨fun q =>?_,fun q =>?_⟩⟩⟩
 ·repeat' first|exact trivial|refine ⟨rfl,?_⟩
 ·repeat' first|exact trivial|refine ⟨rfl,?_⟩
 ·repeat' first|(exact congrArg (fun l=>some (KObj.cells true 1 l)) (krepB _))|exact plainBL _ _|exact trivial|exact wk_refl _|refine ⟨rfl,?_⟩|refine ⟨trivial,?_⟩|apply And.intro
 ·have hx:=of_decide_eq_true q
  have hx':x2<(tbP p).length:=by omega
  have hr:=hT.rl x2 (by omega)
  have hmx:=metTo_len p x2
  refine ⟨by omega,mapAt hx' (by omega),rfl,Nat.zero_le _,⟨rfl,?_⟩,fun _=>rfl,fun x3 hx3=>⟨fun q3 =>?_,fun q3 =>?_⟩⟩
  ·repeat' first|exact plainBL _ _|exact (rn_dV _ _).symm|exact trivial|exact wk_refl _|refine ⟨rfl,?_⟩|refine ⟨trivial,?_⟩|apply And.intro
  ·have h3:=of_decide_eq_true q3
   have hm1:=met1_len (metTo p x2) ((tbP p).getD x2 []) x3
   refine ⟨by omega,boolAt (by omega) (by omega),by omega,boolAt (by omega) (by omega),fun s =>?_,fun s =>?_⟩
   ·refine ⟨by omega,by rw[flat_len boolC_len];omega,rfl,vI64 (by omega),x3+1,by omega,by omega,rfl,?_⟩
    rw[met1_succ,s,Bool.true_or,setl_bo (c:=x3) _ true (by omega) (by omega)]
    repeat' first|exact plainBL _ _|exact (rn_dV _ _).symm|exact trivial|exact wk_refl _|refine ⟨rfl,?_⟩|refine ⟨trivial,?_⟩|apply And.intro
   ·refine ⟨by omega,by rw[flat_len boolC_len];omega,rfl,vI64 (by omega),x3+1,by omega,by omega,rfl,?_⟩
    rw[met1_succ,s,Bool.false_or,setl_bo (c:=x3) _ _ (by omega) (by omega)]
    repeat' first|exact plainBL _ _|exact (rn_dV _ _).symm|exact trivial|exact wk_refl _|refine ⟨rfl,?_⟩|refine ⟨trivial,?_⟩|apply And.intro
  ·have h3:=of_decide_eq_false q3
   have e:met1 (metTo p x2) ((tbP p).getD x2 []) x3=metTo p (x2+1):=by
    show _=met1 (metTo p x2) ((tbP p).getD x2 []) _
    congr 1;omega
   rw[e]
   refine ⟨vI64 (by omega),x2+1,by omega,by omega,rfl,?_⟩
   repeat' first|exact plainBL _ _|exact trivial|exact wk_refl _|refine ⟨rfl,?_⟩|refine ⟨trivial,?_⟩|apply And.intro
 ·have hx:=of_decide_eq_false q
  have e:metTo p x2=metP p:=by
   show _=metTo p _
   congr 1;omega
  rw[e]
  refine ⟨rfl,by omega,boolAt (by omega) (by omega),fun s =>?_,fun s =>?_⟩
  ·rw[show wlP p=[] from if_pos s,show wlE p=9 from if_pos s]
   repeat' first|exact trivial|exact rfl|exact wk_refl _|refine wks_cons ?_ ?_|exact wk_nil _ _ _ (.inl rfl)|refine wk_tupL ?_|refine ⟨rfl,?_⟩|apply And.intro
  ·have hz:wlP p=wlTo p (metP p).length:=if_neg (by rw[s];decide)
   have hze:wlE p=0:=if_neg (by rw[s];decide)
   refine ⟨rfl,Nat.zero_le _,⟨rfl,?_⟩,fun _=>rfl,fun x3 hx3=>⟨fun q3 =>?_,fun q3 =>?_⟩⟩
   ·repeat' first|exact trivial|exact wk_nil _ _ _ (.inl rfl)|refine ⟨rfl,?_⟩|refine ⟨trivial,?_⟩|apply And.intro
   ·have h3:=of_decide_eq_true q3
    have hwl:=wlTo_len p x3
    have no:wlB p x3=false->wlTo p (x3+1)=wlTo p x3:=fun z=>by rw[wlTo_succ,z];exact List.append_nil _
    refine ⟨⟨rfl,trivial⟩,fun H' hn h=>kIs _ _ _ _ (by omega) h.1,fun s1 =>?_,fun s1 =>?_⟩
    ·refine ⟨by omega,boolAt (by omega) (by omega),fun s2 =>?_,fun s2 =>?_⟩
     ·refine ⟨?_,fun H' hn h=>hn ▸ kBeside o (by omega) (wkAt89 h),?_,fun H' hn h=>(kContains (m:=metP p) (by have:=bsP_len p (x3:Int);omega) (fun j hj=>by have:=bs_at o (c:=(x3:Int)) (by omega) hj;omega) (by decide) h.1 h.2.1 (by rw[hm'];exact h.2.2.1) h.2.2.2.1).wkA ⟨wk_QR,wk_refl _,trivial⟩,fun s3 =>?_,fun s3 =>?_⟩
      ·repeat' first|exact trivial|refine ⟨rfl,?_⟩
      ·repeat' first|exact trivial|refine ⟨rfl,?_⟩
      ·have yes:wlTo p (x3+1)=wlTo p x3 ++ [(x3:Int)]:=by rw[wlTo_succ,show wlB p x3=true from by unfold wlB;rw[s1,s2,s3];rfl];rfl
       refine ⟨⟨by omega,by decide,⟨Nat.le_refl _,by rw[flat_len intC_len];omega⟩,⟨Nat.le_refl _,by simp⟩,rfl⟩,rfl,vI64 (by omega),x3+1,by omega,by omega,rfl,?_⟩
       repeat' first|exact wk_snoc yes|exact ob_snoc intC_len yes rfl|exact plainIL _ _|exact trivial|refine ⟨rfl,?_⟩|refine ⟨trivial,?_⟩|apply And.intro
      ·refine ⟨vI64 (by omega),x3+1,by omega,by omega,rfl,?_⟩
       rw[no (by unfold wlB;rw[s3,Bool.and_false,Bool.and_false])]
       repeat' first|exact plainIL _ _|exact trivial|exact wk_refl _|refine ⟨rfl,?_⟩|refine ⟨trivial,?_⟩|apply And.intro
     ·refine ⟨vI64 (by omega),x3+1,by omega,by omega,rfl,?_⟩
      rw[no (by unfold wlB;rw[s2,Bool.false_and,Bool.and_false])]
      repeat' first|exact plainIL _ _|exact trivial|exact wk_refl _|refine ⟨rfl,?_⟩|refine ⟨trivial,?_⟩|apply And.intro
    ·refine ⟨vI64 (by omega),x3+1,by omega,by omega,rfl,?_⟩
     rw[no (by unfold wlB;rw[s1,Bool.false_and])]
     repeat' first|exact plainIL _ _|exact trivial|exact wk_refl _|refine ⟨rfl,?_⟩|refine ⟨trivial,?_⟩|apply And.intro
   ·have h3:=of_decide_eq_false q3
    rw[hz,hze,show x3=(metP p).length by omega]
    repeat' first|exact plainIL _ _|exact trivial|exact wk_refl _|refine ⟨rfl,?_⟩|apply And.intro
def exShp:Shp:=⟨3,6000,800,9000,[(0,1000),(100,800),(200,0)],[(0,0),(200,400)],[(0,0),(400,2000)],0,20,10,100⟩
def hvC:Cell:=⟨⟨0,100⟩,⟨0,150⟩,⟨0,0⟩,⟨0,3⟩⟩
def threeP(a b:Cell):Pl:=⟨3,1,[false,false,false],[⟨3,1,0,[zeroC,a,zeroC]⟩,⟨3,1,1,[zeroC,b,zeroC]⟩],[false,false,false],exShp,80,0,2⟩
theorem ex_e0:errPl (threeP zeroC zeroC)=0:=by kernel_rfl
theorem ex_e1:errPl (threeP hvC zeroC)=0:=by kernel_rfl
theorem ex_e2:errPl (threeP hvC hvC)=0:=by kernel_rfl
theorem ex_a0:arrP (threeP zeroC zeroC)=6:=by kernel_rfl
theorem ex_a1:arrP (threeP hvC zeroC)=12:=by kernel_rfl
theorem ex_a2:arrP (hopeP (threeP hvC hvC))=6:=by kernel_rfl
theorem ex_b0:bestP (threeP zeroC zeroC) 6=[⟨1,0,160,3⟩,⟨2,3,160,6⟩]:=by kernel_rfl
theorem ex_b1:bestP (threeP hvC zeroC) 12=[⟨1,6,160,9⟩,⟨2,9,160,12⟩]:=by kernel_rfl
theorem ex_w2:wlP (threeP hvC hvC)=[1]:=by kernel_rfl
theorem ex_w3:wlE (threeP hvC hvC)=0:=by kernel_rfl
abbrev jp5:List Value:=[nI 4000,nI 8000,nI 14000,nI 24000,nI 40000,nI 90000]
abbrev jpl:=someR (.cells false 0 jp5)
abbrev jp0:List Value:=[nI 3,nI 1,slN 2 3,slN 14 2,slN 3 3,nI 3,nI 6000,nI 800,nI 9000,slN 6 3,slN 7 2,slN 8 2,nI 0,nI 20,nI 10,nI 100,nI 80,nI 0,nI 2]
abbrev jpe:=someR (.cells true 0 jp0)
abbrev jp4:List Value:=[.bool false,.bool false,.bool false]
abbrev jph:=someR (.cells true 1 jp4)
abbrev jp3:List Value:=[nI 3,nI 6000,nI 800,nI 9000,slN 6 3,slN 7 2,slN 8 2,nI 0,nI 20,nI 10,nI 100]
abbrev jpm:=someR (.cells true 0 jp3)
abbrev jp8:List Value:=[nI 0,nI 1000,nI 100,nI 800,nI 200,nI 0]
abbrev jpn:=someR (.cells true 2 jp8)
abbrev jpc:List Value:=[nI 0,nI 0,nI 200,nI 400]
abbrev jpo:=someR (.cells true 2 jpc)
abbrev jpb:List Value:=[nI 0,nI 0,nI 400,nI 2000]
abbrev jpp:=someR (.cells true 2 jpb)
abbrev jp2:List Value:=[nI 0,nI 0,nI 0,nI 0,nI 0,nI 0,nI 0,nI 0,nI 0,nI 0,nI 0,nI 0,nI 0,nI 0,nI 0,nI 0,nI 0,nI 0,nI 0,nI 0,nI 0,nI 0,nI 0,nI 0]
abbrev jpf:List Value:=[nI 3,nI 1,nI 0,slN 9 3]
abbrev jpq:=someR (.cells true 4 jpf)
abbrev jpd:List Value:=[nI 3,nI 1,nI 1,slN 12 3]
abbrev jpr:=someR (.cells true 4 jpd)
abbrev jp6:List Value:=[nI 3,nI 1,nI 0,slN 9 3,nI 3,nI 1,nI 1,slN 12 3]
abbrev jps:=someR (.cells true 4 jp6)
abbrev jpt:KObj:=.cells false 0 jp5
abbrev jpg:KObj:=.cells true 0 jp0
abbrev jpi:KObj:=.cells true 1 jp4
abbrev jpu:KObj:=.cells true 0 jp3
abbrev jpv:KObj:=.cells true 2 jp8
abbrev jpw:KObj:=.cells true 2 jpc
abbrev jpx:KObj:=.cells true 2 jpb
abbrev jpy:KObj:=.cells true 4 jpf
abbrev jpz:KObj:=.cells true 4 jpd
abbrev jp10:KObj:=.cells true 4 jp6
abbrev jp9:List Value:=[.agg #[nI 3,nI 1,slN 2 3,slN 14 2,slN 3 3,nI 3,nI 6000,nI 800,nI 9000,slN 6 3,slN 7 2,slN 8 2,nI 0,nI 20,nI 10,nI 100,nI 80,nI 0,nI 2]]
abbrev jp7:List Value:=[nI 1,nI 0,nI 160,nI 3,nI 2,nI 3,nI 160,nI 6]
abbrev jp11:KObj:=.cells true 4 jp7
abbrev jp1:List Value:=[nI 0,nI 0,nI 0,nI 0,nI 0,nI 0,nI 0,nI 0,nI 0,nI 100,nI 0,nI 150,nI 0,nI 0,nI 0,nI 3,nI 0,nI 0,nI 0,nI 0,nI 0,nI 0,nI 0,nI 0]
abbrev jpj:=someR (.cells true 8 jp1)
abbrev jpk:KObj:=.cells true 8 jp1
abbrev jpa:List Value:=[nI 1,nI 6,nI 160,nI 9,nI 2,nI 9,nI 160,nI 12]
def Rawake(sp:Value)  : Prop :=
 ((jpl/\jpe/\jph/\jph/\jpe/\jpm/\jpn/\jpo/\jpp/\(someR (.cells true 8 jp2))/\jpq/\(someR (.dead))/\(someR (.cells true 8 jp2))/\jpr/\jps/\jpe/\True)/\(∀H':Heap,H'.length=16->(H'[0]?=some jpt/\H'[1]?=some jpg/\H'[2]?=some jpi/\H'[3]?=some jpi/\H'[4]?=some jpg/\H'[5]?=some jpu/\H'[6]?=some jpv/\H'[7]?=some jpw/\H'[8]?=some jpx/\H'[9]?=some (.cells true 8 jp2:KObj)/\H'[10]?=some jpy/\H'[11]?=some (.dead:KObj)/\H'[12]?=some (.cells true 8 jp2:KObj)/\H'[13]?=some jpz/\H'[14]?=some jp10/\H'[15]?=some jpg/\True)->KCall prog 8 jp9 H' [] (Is (.tuple #[slQ 16 1 2,nI 6,nI 0]) (H' ++ [jp11])))/\((jpl/\jpe/\jph/\jph/\jpe/\jpm/\jpn/\jpo/\jpp/\jpj/\jpq/\(someR (.dead))/\(someR (.cells true 8 jp2))/\jpr/\jps/\jpe/\(someR (.cells true 4 jp7))/\True)/\(∀H':Heap,H'.length=17->(H'[0]?=some jpt/\H'[1]?=some jpg/\H'[2]?=some jpi/\H'[3]?=some jpi/\H'[4]?=some jpg/\H'[5]?=some jpu/\H'[6]?=some jpv/\H'[7]?=some jpw/\H'[8]?=some jpx/\H'[9]?=some jpk/\H'[10]?=some jpy/\H'[11]?=some (.dead:KObj)/\H'[12]?=some (.cells true 8 jp2:KObj)/\H'[13]?=some jpz/\H'[14]?=some jp10/\H'[15]?=some jpg/\H'[16]?=some jp11/\True)->KCall prog 8 jp9 H' [] (Is (.tuple #[slQ 17 1 2,nI 12,nI 0]) (H' ++ [(.cells true 4 jpa:KObj)])))/\((jpl/\jpe/\jph/\jph/\jpe/\jpm/\jpn/\jpo/\jpp/\jpj/\jpq/\(someR (.dead))/\jpj/\jpr/\jps/\jpe/\(someR (.cells true 4 jp7))/\(someR (.cells true 4 jpa))/\True)/\(∀H':Heap,H'.length=18->(H'[0]?=some jpt/\H'[1]?=some jpg/\H'[2]?=some jpi/\H'[3]?=some jpi/\H'[4]?=some jpg/\H'[5]?=some jpu/\H'[6]?=some jpv/\H'[7]?=some jpw/\H'[8]?=some jpx/\H'[9]?=some jpk/\H'[10]?=some jpy/\H'[11]?=some (.dead:KObj)/\H'[12]?=some jpk/\H'[13]?=some jpz/\H'[14]?=some jp10/\H'[15]?=some jpg/\H'[16]?=some jp11/\H'[17]?=some (.cells true 4 jpa:KObj)/\True)->KCall prog 17 jp9 H' [] (Is (.tuple #[slQ 18 1 1,nI 0]) (H' ++ [(.cells true 1 [nI 1]:KObj)])))/\((jpl/\jpe/\jph/\jph/\jpe/\jpm/\jpn/\jpo/\jpp/\jpj/\jpq/\(someR (.dead))/\jpj/\jpr/\jps/\jpe/\(someR (.cells true 4 jp7))/\(someR (.cells true 4 jpa))/\(someR (.cells true 1 [nI 1]))/\True)/\(∀H':Heap,H'.length=19->(H'[0]?=some jpt/\H'[1]?=some jpg/\H'[2]?=some jpi/\H'[3]?=some jpi/\H'[4]?=some jpg/\H'[5]?=some jpu/\H'[6]?=some jpv/\H'[7]?=some jpw/\H'[8]?=some jpx/\H'[9]?=some jpk/\H'[10]?=some jpy/\H'[11]?=some (.dead:KObj)/\H'[12]?=some jpk/\H'[13]?=some jpz/\H'[14]?=some jp10/\H'[15]?=some jpg/\H'[16]?=some jp11/\H'[17]?=some (.cells true 4 jpa:KObj)/\H'[18]?=some (.cells true 1 [nI 1]:KObj)/\True)->KCall prog 25 jp9 H' [] (Is (.tuple #[nI 6,nI 0]) H'))/\(.bool true:Value)=sp))))
abbrev jp12:Nat×KObj:=(0,.cells false 0 jp5)
abbrev jp17:Nat×KObj:=(1,.cells true 0 jp0)
abbrev jp18:Nat×KObj:=(2,.cells true 1 jp4)
abbrev jp19:Nat×KObj:=(3,.cells true 1 jp4)
abbrev jp1a:Nat×KObj:=(4,.cells true 0 jp0)
abbrev jp1b:Nat×KObj:=(5,.cells true 0 jp3)
abbrev jp1c:Nat×KObj:=(6,.cells true 2 jp8)
abbrev jp1d:Nat×KObj:=(7,.cells true 2 jpc)
abbrev jp1e:Nat×KObj:=(8,.cells true 2 jpb)
abbrev jp13:Nat×KObj:=(10,.cells true 4 jpf)
abbrev jp14:Nat×KObj:=(13,.cells true 4 jpd)
abbrev jp15:Nat×KObj:=(14,.cells true 4 jp6)
abbrev jp16:Nat×KObj:=(15,.cells true 0 jp0)
theorem Eawake (sp : Value)  : vF prog msk (dm 0) 100000 true 40 true 9 [] (readsK [.cells false 0 jp5]) (some [])
  (.go 61 (.ans [jp12,jp17,jp18,jp19,jp1a,jp1b,jp1c,jp1d,jp1e,(9,.cells true 8 jp2),jp13,(11,.dead),(12,.cells true 8 jp2),jp14,jp15,jp16] (.tuple #[slQ 16 1 2,nI 6,nI 0]) [.cells true 4 jp7] (.go 47 (.ans [jp12,jp17,jp18,jp19,jp1a,jp1b,jp1c,jp1d,jp1e,(9,.cells true 8 jp1),jp13,(11,.dead),(12,.cells true 8 jp2),jp14,jp15,jp16,(16,.cells true 4 jp7)] (.tuple #[slQ 17 1 2,nI 12,nI 0]) [.cells true 4 jpa] (.go 20 (.ans [jp12,jp17,jp18,jp19,jp1a,jp1b,jp1c,jp1d,jp1e,(9,.cells true 8 jp1),jp13,(11,.dead),(12,.cells true 8 jp1),jp14,jp15,jp16,(16,.cells true 4 jp7),(17,.cells true 4 jpa)] (.tuple #[slQ 18 1 1,nI 0]) [.cells true 1 [nI 1]] (.go 5 (.ans [jp12,jp17,jp18,jp19,jp1a,jp1b,jp1c,jp1d,jp1e,(9,.cells true 8 jp1),jp13,(11,.dead),(12,.cells true 8 jp1),jp14,jp15,jp16,(16,.cells true 4 jp7),(17,.cells true 4 jpa),(18,.cells true 1 [nI 1])] (.tuple #[nI 6,nI 0]) [] (.auto)))))))))
  (fun v _ _ => v = sp) = Rawake sp  := by kernel_rfl
end
end Go.Proofs.YtmecpfikljhjaaaDoor
namespace Go.K
variable {P:Program}
theorem VRl.set1{ρ ρ1:Ren}{args l:List Value}{k:Nat}{u u2:Value}(h:VRl ρ args l)(hk:args[k]?=some u)(hle:Ren.le ρ ρ1)(hv:∀x,VR ρ u x->VR ρ1 u2 x):VRl ρ1 (args.set k u2) l:=by
 obtain ⟨h1,h2⟩:=h
 refine ⟨by simpa using h1,fun j v v' a b =>?_⟩
 rw[List.getElem?_set]at a
 split at a
 ·rename_i e;subst e
  split at a
  ·cases a;exact hv _ (h2 k u v' hk b)
  ·cases a
 ·exact (h2 j v v' a b).mono hle
theorem KCall.freeze{f:FuncId}{args:List Value}{H:Heap}{k i id n c z:Nat}{tag:Option Nat}{cs vs:List Value}{Q:Value->Heap->Prop}(hk:args[k]?=some (.agg ⟨vs⟩))(hi:vs[i]?=some (.slice (some ⟨id,0,tag⟩) n c))(htag:tag=none∨tag=some 1)(ho:H[id]?=some (.cells true z cs))
  (h:KCall P f (args.set k (.agg ⟨vs.set i (.iface (n+1) (.agg ⟨cs⟩))⟩)) (H.set id .dead) [] Q):KCall P f args H [id] Q:=by
 refine ⟨h.1,fun B ρ w args' hr ha =>?_⟩
 have key:∃ρ1,Post P B H.length [id] ρ H w ρ1 (H.set id .dead) w/\∀x,VR ρ (.slice (some ⟨id,0,tag⟩) n c) x->VR ρ1 (.iface (n+1) (.agg ⟨cs⟩)) x:=by
  have hM:id<H.length->id ∈ [id]:=fun _=>List.mem_cons_self ..
  cases hid:ρ id with
  |none=>exact ⟨ρ,Post.kill' hr ho rfl hM,fun x hx=>VR.freeze0 htag hid hx⟩
  |some r =>
   have hob:=hr.obj id r _ hid ho
   obtain ⟨_,_,m,ty,fz,hb,_⟩:=hob
   have p:=Post.frz1 (base:=H.length) (M:=[id]) hr hid ho hb hM
   exact ⟨_,p,fun x hx=>VR.freeze (H:=H) htag hid hb (hr.obj id r _ hid ho) p.ext hx⟩
 obtain ⟨ρ1,p,hv⟩:=key
 refine (h.2 B ρ1 w args' p.rel (VRl.set1 ha hk p.ext fun x hx=>VR.aggSet hi p.ext hv hx)).mono ?_
 rintro e w' ⟨v,v',ρ',H',rfl,h1,h2,h3⟩
 exact ⟨v,v',ρ',H',rfl,h1,p.trans (h2.weaken (by simp) (fun _ h _=>by cases h)),h3⟩
def flatC:Value->Bool
 | .bool _| .int _ _| .float _ _| .string _| .pointer none| .pointer (some ⟨_,_,none⟩)| .slice _ _ _| .map _| .nilFunc| .nilIface=>true
 |_=>false
def flatV:Value->Bool
 | .tuple vs=>vs.toList.all flatC
 |v=>flatC v
def flatO:KObj->Bool
 | .cells _ _ cs=>cs.all flatC
 | .dead=>true
 |_=>false
theorem flatC_VR{ρ ρ2:Ren}(hf:ρ2.f=ρ.f){v x:Value}(h:flatC v=true)(hv:VR ρ v x):VR ρ2 v x:=by
 have hg:∀{id:Nat} {r:RI},ρ id=some r->ρ2 id=some r:=fun {id r} q=>by show ρ2.f id=_;rw[hf];exact q
 cases hv with
 |junk v'=>cases h
 |bool b=>exact .bool b
 |int k n=>exact .int k n
 |float k n=>exact .float k n
 |string s=>exact .string s
 |ptrNil=>exact .ptrNil
 |ptr h'=>exact .ptr (hg h')
 |fptr h'=>cases h
 |sliceNil=>exact .sliceNil
 |slice h' hl hc ho=>exact .slice (hg h') hl hc ho
 |slice0 h'=>exact .slice0 (hg h')
 |sliceE=>exact .sliceE
 |sliceQn=>exact .sliceQn
 |sliceQe=>exact .sliceQe
 |sliceQ h' hp hl hc ho=>exact .sliceQ (hg h') hp hl hc ho
 |sliceRe=>exact .sliceRe
 |sliceR h' hp hl hc ho=>exact .sliceR (hg h') hp hl hc ho
 |mapNil=>exact .mapNil
 |map h'=>exact .map (hg h')
 |nilFunc=>exact .nilFunc
 |nilIface=>exact .nilIface
 |func h1 h2 h3 h4=>cases h
 |yield h'=>cases h
 |agg h1 h2=>cases h
 |tuple h1 h2=>cases h
 |deep hm hp hc h1 h2=>cases h
 |deep0=>cases h
 |fsl h' hp hc hs ho=>cases h
 |fsl0=>cases h
 |deepP hm h1 h2=>cases h
theorem flatV_VR{ρ ρ2:Ren}(hf:ρ2.f=ρ.f){v x:Value}(h:flatV v=true)(hv:VR ρ v x):VR ρ2 v x:=by
 cases v with
 |tuple vs =>
  cases hv with
  | @tuple _ cs' h1 h2 =>
   have h':vs.toList.all flatC=true:=h
   rw[List.all_eq_true]at h'
   refine .tuple h1 fun i v v' a b=>flatC_VR hf (h' v ?_) (h2 i v v' a b)
   exact List.mem_of_getElem? (by simpa using a)
 |_=>exact flatC_VR hf h hv
theorem flatO_rel{ρ ρ2:Ren}(hf:ρ2.f=ρ.f){r:RI}{o:KObj}{w:World}(h:flatO o=true)(ho:ObjRel ρ r o w):ObjRel ρ2 r o w:=by
 cases o with
 |cells own z cs =>
  obtain ⟨h1,h2,cs',ty,fz,h3,h4,h5,h6⟩:=ho
  have h':cs.all flatC=true:=h
  rw[List.all_eq_true]at h'
  exact ⟨h1,h2,cs',ty,fz,h3,h4,h5,fun i v a=>let ⟨v',b,c⟩:=h6 i v a; ⟨v',b,flatC_VR hf (h' v (List.mem_of_getElem? a)) c⟩⟩
 |dead=>trivial
 |fam z cs=>trivial
 |map es=>cases h
 |iter m n s=>cases h
 |loop _ _ _ _ _ _ _=>cases h
def Lent(P:Program)(base:Nat)(M L:List Nat)(H H1:Heap)(args args0:List Value):Prop :=
 ∀(B:Nat) (ρ:Ren) (w:World) (xs:List Value),Rel P B ρ H w->VRl ρ args xs->∃ρ1:Ren,Post P B base M ρ H w ρ1 H1 w/\ρ1.f=ρ.f/\ρ1.g=ρ.g /\
  (∀id∈L,∀r,ρ id=some r->∃m,ρ1.mem r.b=some m)/\VRl ρ1 args0 xs
theorem Lent.refl{base:Nat}{H:Heap}{args:List Value}:Lent P base [] [] H H args args:=fun B ρ w xs hr hv=>⟨ρ,Post.refl hr,rfl,rfl,fun id h=>(by cases h),hv⟩
open Classical in
theorem KCall.borrow{f:FuncId}{args args0:List Value}{H H1 new:Heap}{v:Value}{L:List Nat}(hl:Lent P H.length L L H H1 args args0)(hlen:H1.length=H.length)
  (hL:∀id∈L,∃z cs,H[id]?=some (KObj.cells true z cs)) (hflat:∀id o,id ∉ L->H[id]?=some o->flatO o=true) (hnew:∀o∈new,flatO o=true/\o.owned=true) (hv:flatV v=true)
  (h:KCall P f args0 H1 [] (Is v (H1++new))):KCall P f args H [] (Is v (H++new)):=by
 refine ⟨h.1,fun B ρ w args' hr ha =>?_⟩
 obtain ⟨ρ1,p,hf1,hg1,hm1,ha1⟩:=hl B ρ w args'.toList hr ha
 refine (h.2 B ρ1 w args' p.rel ha1).mono ?_
 rintro e w' ⟨u,v',ρ',H2,rfl,h1,q,hu,hH2⟩
 rw[hu]at h1
 subst hH2
 have pq:=p.trans (q.weaken (base':=H.length) (M':=L) (by rw[hlen];exact Nat.le_refl _) (fun _ h _=>by cases h))
 have R:=q.rel
 have f1:∀{id r},ρ1 id=some r->ρ id=some r:=fun {id r} a=>by have:ρ1.f id=some r:=a;rw[hf1]at this;exact this
 let rem:Nat->Prop:=fun x => ∃id∈L,∃r,ρ id=some r/\r.b=x
 have remO:∀{id r},id∈L->ρ id=some r->rem r.b:=fun {id r} a b=>⟨id,a,r,b,rfl⟩
 have remNo:∀{x m},rem x->ρ.mem x=some m->False:=by
  rintro x m ⟨id,hi,r,hid,rfl⟩ hm
  obtain ⟨z,cs,ho⟩:=hL id hi
  exact (hr.mem _ _ hm).2 id r _ hid ho rfl rfl
 have remM:∀{x},rem x->∃m,ρ1.mem x=some m:=by
  rintro x ⟨id,hi,r,hid,rfl⟩
  exact hm1 id hi r hid
 have remW:∀{x},rem x->w'.heap[x]?=w.heap[x]? := by
  rintro x hx
  obtain ⟨m,hm⟩:=remM hx
  obtain ⟨id,hi,r,hid,rfl⟩:=hx
  refine q.keep _ (hr.lt id r hid) ?_
  rintro (⟨id',r',o',a,b,c,d⟩|hfb)
  ·exact (p.rel.mem _ _ hm).2 id' r' o' a b c d
  ·exact p.rel.fam.freeM hm hfb
 let ρ2:Ren:=⟨ρ'.f,fun x=>if rem x then none else ρ'.mem x,ρ'.g⟩
 have hle:Ren.le ρ ρ2:=⟨fun id r a=>pq.ext.f id r a,fun x m a=>by
  show (if rem x then none else ρ'.mem x)=_
  rw[if_neg (fun hx=>remNo hx a)];exact pq.ext.mem x m a,fun F k r a=>pq.ext.g F k r a⟩
 have old:∀{id r},ρ' id=some r->id<H.length->ρ id=some r:=fun {id r} a b=>by
  cases hc:ρ id with
  |none=>exact absurd (pq.new id r a hc) (by omega)
  |some r0 =>
   have:=pq.ext.f id r0 hc
   rw[show ρ'.f id=some r from a]at this;exact this.symm
 have getL:∀{id o},(H++new)[id]?=some o->id<H.length->H[id]?=some o:=fun {id o} a b=>by rw[List.getElem?_append_left b]at a;exact a
 have getN:∀{id o},(H++new)[id]?=some o->¬ id<H.length->(H1++new)[id]?=some o/\flatO o=true/\o.owned=true:=fun {id o} a b=>by
  have hb:H.length<=id:=by omega
  rw[List.getElem?_append_right hb]at a
  have ho:=hnew o (List.mem_of_getElem? a)
  refine ⟨?_,ho⟩
  rw[List.getElem?_append_right (by omega),hlen];exact a
 have getS:∀{id o},(H++new)[id]?=some o->id ∉ L->(H1++new)[id]?=some o/\flatO o=true:=fun {id o} a hn=>by
  by_cases b:id<H.length
  ·have a':=getL a b
   refine ⟨?_,hflat id o hn a'⟩
   rw[List.getElem?_append_left (by omega),p.same id b hn];exact a'
  ·have:=getN a b;exact ⟨this.1,this.2.1⟩
 have Lt:∀{id},id∈L->id<H.length:=fun {id} hi=>by obtain ⟨z,cs,ho⟩:=hL id hi;exact (List.getElem?_eq_some_iff.1 ho).1
 have nofam:∀(F z:Nat) (cs:List Value),(H++new)[F]?=some (.fam z cs)->False:=fun F z cs a=>by
  by_cases hi:F∈L
  ·obtain ⟨z',cs',ho⟩:=hL F hi
   rw[getL a (Lt hi)]at ho;cases ho
  ·have:=(getS a hi).2;cases this
 have lentNew:∀{id r id' r' o'},id∈L->ρ id=some r->ρ' id'=some r'->(H1++new)[id']?=some o'->o'.owned=true->r'.b≠r.b:=fun {id r id' r' o'} hi hid hid' ho' hw'=>by
  obtain ⟨m,hm⟩:=hm1 id hi r hid
  exact (R.mem _ _ (q.ext.mem _ _ hm)).2 id' r' o' hid' ho' hw'
 have rel2:Rel P B ρ2 (H++new) w':=by
  refine ⟨R.bsize,R.glob,fun id r a =>?_,fun id r a=>R.lt id r a,fun id r o a b =>?_,fun id r o a b c =>?_,fun id id' r r' o o' a a' b b' c c' hne =>?_,fun x m a =>?_,FRel.nofam (fun F k r a =>?_) (fun F k r a=>R.fam.lt F k r a) nofam⟩
  ·have:=R.dom id r a
   rw[List.length_append]at this ⊢;omega
  ·by_cases hi:id∈L
   ·have hid:=old a (Lt hi)
    exact (hr.obj id r o hid (getL b (Lt hi))).mono hle (remW (remO hi hid))
   ·obtain ⟨b1,b2⟩:=getS b hi
    exact flatO_rel (ρ:=ρ') (ρ2:=ρ2) rfl b2 (R.obj id r o a b1)
  ·by_cases hi:id∈L
   ·exact hr.base id r o (old a (Lt hi)) (getL b (Lt hi)) c
   ·exact R.base id r o a (getS b hi).1 c
  ·by_cases hi:id∈L
   ·have hid:=old a (Lt hi)
    by_cases hj:id'<H.length
    ·exact hr.sep id id' r r' o o' hid (old a' hj) (getL b (Lt hi)) (getL b' hj) c c' hne
    ·have n':=getN b' hj
     exact fun e=>lentNew hi hid a' n'.1 n'.2.2 e.symm
   ·by_cases hj:id'∈L
    ·have hid':=old a' (Lt hj)
     by_cases hk:id<H.length
     ·exact hr.sep id id' r r' o o' (old a hk) hid' (getL b hk) (getL b' (Lt hj)) c c' hne
     ·exact lentNew hj hid' a (getN b hk).1 c
    ·exact R.sep id id' r r' o o' a a' (getS b hi).1 (getS b' hj).1 c c' hne
  ·have a':(if rem x then none else ρ'.mem x)=some m:=a
   by_cases hx:rem x
   ·rw[if_pos hx]at a';cases a'
   ·rw[if_neg hx]at a'
    refine ⟨(R.mem x m a').1,fun id r o b c d e =>?_⟩
    by_cases hi:id∈L
    ·exact hx (by rw[<- e];exact remO hi (old b (Lt hi)))
    ·exact (R.mem x m a').2 id r o b (getS c hi).1 d e
  ·have:=R.fam.dom F k r a
   rw[List.length_append]at this ⊢;omega
 refine ⟨v,v',ρ2,H++new,rfl,flatV_VR (ρ:=ρ') (ρ2:=ρ2) rfl hv h1,⟨rel2,hle,pq.new,by rw[List.length_append];omega,fun id hb _=>List.getElem?_append_left hb,pq.size,pq.keep,fun b hb ho =>?_,pq.os,pq.tape,pq.output,fun x m a =>?_,pq.drawn,fun F k r a b =>?_⟩,rfl,rfl⟩
 ·rcases ho with ⟨id,r,o,a1,a2,a3,a4⟩|hfb
  ·by_cases hk:id<H.length
   ·exact .inl ⟨id,r,o,old a1 hk,getL a2 hk,a3,a4⟩
   ·exact pq.ob b hb (.inl ⟨id,r,o,a1,(getN a2 hk).1,a3,a4⟩)
  ·exact absurd hfb (FB.none nofam b)
 ·have a':(if rem x then none else ρ'.mem x)=some m:=a
  by_cases hx:rem x
  ·rw[if_pos hx]at a';cases a'
  ·rw[if_neg hx]at a';exact pq.frz x m a'
 ·refine (q.newg F k r a ?_).imp (fun z=>by rw[hlen]at z;exact z) (fun z=>by cases z)
  rw[hg1];exact b
theorem Lent.frzH{base:Nat}{M L M' L':List Nat}{H H1:Heap}{args args0:List Value}(h:Lent P base M L H H1 args args0){hd t A n c zh z:Nat}{tag:Option Nat}{hs row:List Value}(ho:H1[hd]?=some (.cells true zh hs))(hA:H1[A]?=some (.cells true z row))
  (hv:hs[t]?=some (.slice (some ⟨A,0,tag⟩) n c)) (htag:tag=none∨tag=some 1) (hne:A≠hd) (hMh:hd∈M') (hMA:A∈M') (hsub:∀id∈M,id∈M') (hL:∀id∈L',id=A∨id∈L) :
  Lent P base M' L' H ((H1.set A .dead).set hd (KObj.cells true zh (hs.set t (.iface (n+1) (.agg ⟨row⟩))))) args args0:=by
 intro B ρ w xs hr hx
 obtain ⟨ρ1,p,hf,hg,hm,ha⟩:=h B ρ w xs hr hx
 have hr1:=p.rel
 have p':=p.weaken (base':=base) (M':=M') (Nat.le_refl _) (fun id h _=>hsub id h)
 have hget:(H1.set A .dead)[hd]?=some (.cells true zh hs):=by rw[List.getElem?_set_ne hne];exact ho
 cases hid:ρ1 A with
 |none =>
  have p1:=Post.kill' (base:=base) (M:=M') hr1 hA rfl (fun _=>hMA)
  have p2:=Post.resayAt (M:=M') (base:=base) p1.rel (t:=t) (v:=.iface (n+1) (.agg ⟨row⟩)) hget (fun v0 e x hx=>by
   rw[hv]at e;cases e
   exact VR.freeze0 htag hid hx) (fun _=>hMh)
  refine ⟨ρ1,p'.trans (p1.trans p2),hf,hg,fun id hi r hr' =>?_,ha⟩
  rcases hL id hi with rfl|hi
  ·have:ρ1.f id=some r:=by rw[hf];exact hr'
   rw[show ρ1.f id=none from hid]at this;cases this
  ·exact hm id hi r hr'
 |some r =>
  have hob:=hr1.obj A r _ hid hA
  obtain ⟨_,_,m,ty,fz,hbm,_⟩:=hob
  have p1:=Post.frz1 (base:=base) (M:=M') hr1 hid hA hbm (fun _=>hMA)
  have p2:=Post.resayAt (M:=M') (base:=base) p1.rel (t:=t) (v:=.iface (n+1) (.agg ⟨row⟩)) hget (fun v0 e x hx=>by
   rw[hv]at e;cases e
   have hx':VR ρ1 (.slice (some ⟨A,0,tag⟩) n c) x:=by
    rcases htag with rfl|rfl
    ·cases hx with
     |slice h hl hc ho=>exact .slice (ρ:=ρ1) h hl hc ho
     |slice0 h=>exact .slice0 (ρ:=ρ1) h
    ·cases hx with
     |sliceQn=>exact .sliceQn
     |sliceQe=>exact .sliceQe
     |sliceQ h hp hl hc ho=>exact .sliceQ (ρ:=ρ1) h hp hl hc ho
   exact VR.freeze (H:=H1) htag hid hbm (hr1.obj A r _ hid hA) p1.ext hx') (fun _=>hMh)
  refine ⟨_,p'.trans (p1.trans p2),hf,hg,fun id hi r' hr' =>?_,ha.mono p1.ext⟩
  rcases hL id hi with rfl|hi
  ·have e:ρ1.f id=some r':=by rw[hf];exact hr'
   rw[show ρ1.f id=some r from hid]at e;cases e
   exact ⟨m,by show (if _ then _ else _)=_;rw[if_pos rfl]⟩
  ·obtain ⟨m',hm'⟩:=hm id hi r' hr'
   exact ⟨m',p1.ext.mem _ _ hm'⟩
theorem Lent.frzA{base:Nat}{M L M' L':List Nat}{H H1:Heap}{args args0:List Value}(h:Lent P base M L H H1 args args0){k i id n c z:Nat}{tag:Option Nat}{cs vs:List Value}(hk:args0[k]?=some (.agg ⟨vs⟩))(hi:vs[i]?=some (.slice (some ⟨id,0,tag⟩) n c))(htag:tag=none∨tag=some 1)
  (ho:H1[id]?=some (.cells true z cs)) (hMA:id∈M') (hsub:∀id∈M,id∈M') (hL:∀id'∈L',id'=id∨id'∈L) :
  Lent P base M' L' H (H1.set id .dead) args (args0.set k (.agg ⟨vs.set i (.iface (n+1) (.agg ⟨cs⟩))⟩)):=by
 intro B ρ w xs hr hx
 obtain ⟨ρ1,p,hf,hg,hm,ha⟩:=h B ρ w xs hr hx
 have hr1:=p.rel
 have p':=p.weaken (base':=base) (M':=M') (Nat.le_refl _) (fun id h _=>hsub id h)
 cases hid:ρ1 id with
 |none =>
  have p1:=Post.kill' (base:=base) (M:=M') hr1 ho rfl (fun _=>hMA)
  refine ⟨ρ1,p'.trans p1,hf,hg,fun id' hi' r hr' =>?_,VRl.set1 ha hk (Ren.le_refl _) fun x hx=>VR.aggSet hi (Ren.le_refl _) (fun x hx=>VR.freeze0 htag hid hx) hx⟩
  rcases hL id' hi' with rfl|hi'
  ·have:ρ1.f id'=some r:=by rw[hf];exact hr'
   rw[show ρ1.f id'=none from hid]at this;cases this
  ·exact hm id' hi' r hr'
 |some r =>
  have hob:=hr1.obj id r _ hid ho
  obtain ⟨_,_,m,ty,fz,hbm,_⟩:=hob
  have p1:=Post.frz1 (base:=base) (M:=M') hr1 hid ho hbm (fun _=>hMA)
  refine ⟨_,p'.trans p1,hf,hg,fun id' hi' r' hr' =>?_,VRl.set1 ha hk p1.ext fun x hx=>VR.aggSet hi p1.ext (fun x hx=>VR.freeze (H:=H1) htag hid hbm (hr1.obj id r _ hid ho) p1.ext hx) hx⟩
  rcases hL id' hi' with rfl|hi'
  ·have e:ρ1.f id'=some r':=by rw[hf];exact hr'
   rw[show ρ1.f id'=some r from hid]at e;cases e
   exact ⟨m,by show (if _ then _ else _)=_;rw[if_pos rfl]⟩
  ·obtain ⟨m',hm'⟩:=hm id' hi' r' hr'
   exact ⟨m',p1.ext.mem _ _ hm'⟩
end Go.K

namespace Go.Proofs.YtmecpfikljhjaaaDoor
noncomputable section
attribute [local irreducible] vF
theorem newAll_mem:∀{os:List KObj},newAll os->∀o∈os,∃z cs,o=KObj.cells true z cs
 | [],_,o,h=>by cases h
 |p :: os,⟨⟨z,cs,e,_⟩,hs⟩,o,h=>by
  rcases List.mem_cons.1 h with rfl|h
  ·exact ⟨z,cs,e⟩
  ·exact newAll_mem hs o h
theorem thawN{f:FuncId}{args args2:List Value}{H gs new:Heap}(v:Nat->Value)(ht:ThawA prog H.length H args args2 gs)(h:KCall prog f args2 (H++gs) [] (Is (v (H++gs).length) ((H++gs)++new)))(hn:newAll new)
  (hv:rn (sgDrop H.length gs.length new.length) 3 (v H.length)=v (H.length+gs.length)):KCall prog f args H [] (Is (v H.length) (H++new)) :=
 KCall.drop (d:=3) (KCall.thaw ht h) rfl (fun _ _ _=>rfl) (fun _ _ _ h=>by cases h) (by rw[hv,List.length_append]) (newAll_spec hn).2 (newAll_mem hn)
theorem at_old{H gs:Heap}{id:Nat}{o:KObj}(h:H[id]?=some o):(H++gs)[id]?=some o:=by
 rw[List.getElem?_append_left (List.getElem?_eq_some_iff.1 h).1];exact h
def DpAt(H:Heap)(p:Pl)(l n t w i:Nat):Prop :=
 [0,l,n,t,w,i].Nodup/\H[0]?=some strO/\H[l]?=some (.cells true 1 (p.land.flatMap boolC))/\H[n]?=some (.cells true 1 (p.chan.flatMap boolC)) /\
  H[t]?=some (.cells true 2 (p.shp.th.flatMap ptC))/\H[w]?=some (.cells true 2 (p.shp.wa.flatMap ptC))/\H[i]?=some (.cells true 2 (p.shp.ic.flatMap ptC))
abbrev dpV(p:Pl)(l n t w i:Nat):Value:=.agg ⟨(plC p l 0 n t w i).set 3 (.iface (p.cts.length+1) (.agg ⟨p.cts.flatMap chC⟩))⟩
theorem DpAt.pl{H:Heap}{p:Pl}{l n t w i:Nat}(a:DpAt H p l n t w i):PlAt (H ++ [.cells false 0 (p.cts.flatMap chC)]) p l H.length n t w i:=by
 obtain ⟨hn,a0,a1,a3,a4,a5,a6⟩:=a
 have lt:∀{id:Nat} {o:KObj},H[id]?=some o->id≠H.length:=fun {id o} h=>Nat.ne_of_lt (List.getElem?_eq_some_iff.1 h).1
 refine ⟨?_,at_old a0,at_old a1,by simp,at_old a3,at_old a4,at_old a5,at_old a6⟩
 simp only[List.nodup_cons,List.mem_cons,List.not_mem_nil,or_false,not_or,List.nodup_nil,and_true]at hn ⊢
 obtain ⟨⟨h1,h2,h3,h4,h5⟩,⟨h6,h7,h8,h9⟩,⟨h10,h11,h12⟩,⟨h13,h14⟩,h15,_⟩:=hn
 exact ⟨⟨h1,lt a0,h2,h3,h4,h5⟩,⟨lt a1,h6,h7,h8,h9⟩,⟨Ne.symm (lt a3),Ne.symm (lt a4),Ne.symm (lt a5),Ne.symm (lt a6)⟩,⟨h10,h11,h12⟩,⟨h13,h14⟩,h15,not_false⟩
theorem deepN{f:FuncId}{p:Pl}{new:Heap}(v:Nat->Value)(k:∀{H:Heap} {l c n t w i:Nat},PlAt H p l c n t w i->KCall prog f [plV p l c n t w i] H [] (Is (v H.length) (H++new)))(hn:newAll new)
  {H:Heap} (hv:rn (sgDrop H.length 1 new.length) 3 (v H.length)=v (H.length+1)) {l n t w i:Nat} (a:DpAt H p l n t w i):KCall prog f [dpV p l n t w i] H [] (Is (v H.length) (H++new)) :=
 thawN v (ThawA.agg (i:=3) rfl ThawA.nil) (k a.pl) hn hv
theorem wk_nR{id o l:Nat}:wk (.slice (some ⟨id,o,none⟩) l l) (.slice (some ⟨id,o,some 2⟩) l l):=by
 intro ρ x hx
 cases hx with
 |slice h hl hc ho =>
  cases l with
  |zero=>exact .sliceRe
  |succ l=>exact .sliceR h (Nat.succ_pos _) hl hc ho
 |slice0 h=>exact .sliceRe
def atAll(H:Heap):Nat->List KObj->Prop
 |_,[] =>True
 |k,o :: os=>H[k]?=some o/\atAll H (k+1) os
theorem atAll_drop{H:Heap}:∀{os:List KObj} {k:Nat},atAll H k os->H.length=k+os.length->H.drop k=os
 | [],k,_,hl=>List.drop_eq_nil_of_le (by simp at hl;omega)
 |o :: os,k,⟨h1,h2⟩,hl=>by
  have hk:k<H.length:=(List.getElem?_eq_some_iff.1 h1).1
  rw[List.drop_eq_getElem_cons hk,atAll_drop h2 (by rw[hl,List.length_cons];omega)]
  congr 1
  rw[List.getElem?_eq_getElem hk]at h1
  exact Option.some.inj h1
theorem atAll_eq{H:Heap}{os:List KObj}(h:atAll H 0 os)(hl:H.length=os.length):H=os:=by
 have:=atAll_drop h (by omega)
 rwa [List.drop_zero]at this
def flatAll:Nat->List Nat->List KObj->Bool
 |_,_,[] =>true
 |k,L,o :: os=>(L.contains k ||flatO o)&&flatAll (k+1) L os
theorem flatAll_at{L:List Nat}:∀{os:List KObj} {k:Nat},flatAll k L os=true->∀(i:Nat) (o:KObj),k+i ∉ L->os[i]?=some o->flatO o=true
 | [],_,_,i,o,_,h=>by cases h
 |q :: os,k,hf,i,o,hn,h=>by
  have hf':((L.contains k ||flatO q)&&flatAll (k+1) L os)=true:=hf
  rw[Bool.and_eq_true,Bool.or_eq_true]at hf'
  cases i with
  |zero =>
   cases h
   rcases hf'.1 with g|g
   ·exact absurd (by simpa using g) hn
   ·exact g
  |succ i=>exact flatAll_at hf'.2 i o (by rw[show k+1+i=k+(i+1) by omega];exact hn) h
abbrev twoC(a b:Value):List Value:=[nI 3,nI 1,nI 0,a,nI 3,nI 1,nI 1,b]
abbrev lentH(H:Heap)(c9 c12:List Value):Heap :=
 ((((H.set 9 .dead).set 14 (.cells true 4 (twoC (.iface 4 (.agg ⟨c9⟩)) (slN 12 3)))).set 12 .dead).set 14 (.cells true 4 (twoC (.iface 4 (.agg ⟨c9⟩)) (.iface 4 (.agg ⟨c12⟩))))).set 14 .dead
theorem liveP{f:FuncId}{H new:Heap}{v:Value}{c9 c12 vs:List Value}(h9:H[9]?=some (.cells true 8 c9))(h12:H[12]?=some (.cells true 8 c12))(h14:H[14]?=some (.cells true 4 (twoC (slN 9 3) (slN 12 3))))
  (hflat:flatAll 0 [14,12,9] H=true) (hnew:∀o∈new,flatO o=true/\o.owned=true) (hv:flatV v=true) (hk:vs[3]?=some (slN 14 2))
  (k:KCall prog f [.agg ⟨vs.set 3 (.iface 3 (.agg ⟨twoC (.iface 4 (.agg ⟨c9⟩)) (.iface 4 (.agg ⟨c12⟩))⟩))⟩] (lentH H c9 c12) [] (Is v (lentH H c9 c12++new))):KCall prog f [.agg ⟨vs⟩] H [] (Is v (H++new)):=by
 have b9:9<H.length:=(List.getElem?_eq_some_iff.1 h9).1
 have b12:12<H.length:=(List.getElem?_eq_some_iff.1 h12).1
 have b14:14<H.length:=(List.getElem?_eq_some_iff.1 h14).1
 have l0:Lent prog H.length [] [] H H [.agg ⟨vs⟩] [.agg ⟨vs⟩]:=Lent.refl
 have l1:=l0.frzH (M':=[14,12,9]) (L':=[9]) (hd:=14) (t:=3) (A:=9) (n:=3) (c:=3) (tag:=none) h14 h9 rfl (.inl rfl) (by decide) (by decide) (by decide) (fun _ h=>by cases h) (fun id h => .inl (List.mem_singleton.1 h))
 have l2:=l1.frzH (M':=[14,12,9]) (L':=[12,9]) (hd:=14) (t:=7) (A:=12) (n:=3) (c:=3) (tag:=none) (zh:=4) (z:=8) (row:=c12) (hs:=twoC (.iface 4 (.agg ⟨c9⟩)) (slN 12 3)) (by rw[List.getElem?_set_self (by rw[List.length_set];exact b14)];rfl) (by rw[List.getElem?_set_ne (by decide),List.getElem?_set_ne (by decide)];exact h12) rfl (.inl rfl) (by decide) (by decide) (by decide) (fun _ h=>h) (fun id h=>by
  rcases List.mem_cons.1 h with h|h
  ·exact .inl h
  ·exact .inr h)
 have l3:=l2.frzA (M':=[14,12,9]) (L':=[14,12,9]) (k:=0) (i:=3) (id:=14) (n:=2) (c:=2) (tag:=none) (z:=4) (vs:=vs) (cs:=twoC (.iface 4 (.agg ⟨c9⟩)) (.iface 4 (.agg ⟨c12⟩))) rfl hk (.inl rfl) (by rw[List.getElem?_set_self (by rw[List.length_set,List.length_set,List.length_set];exact b14)];rfl) (by decide) (fun _ h=>h) (fun id h=>by
  rcases List.mem_cons.1 h with h|h
  ·exact .inl h
  ·exact .inr h)
 refine KCall.borrow l3 (by simp only[List.length_set]) (fun id hi =>?_) (fun id o hn ho=>flatAll_at hflat id o (by rw[Nat.zero_add];exact hn) ho) hnew hv k
 simp only[List.mem_cons,List.not_mem_nil,or_false]at hi
 rcases hi with rfl|rfl|rfl
 ·exact ⟨_,_,h14⟩
 ·exact ⟨_,_,h12⟩
 ·exact ⟨_,_,h9⟩
theorem exLs0:bestLs (threeP zeroC zeroC)=[⟨1,0,160,3⟩,⟨2,3,160,6⟩]:=by unfold bestLs;rw[ex_a0,if_neg (by decide)];exact ex_b0
theorem exT0:bestT (threeP zeroC zeroC)=6:=by unfold bestT;rw[ex_a0,if_neg (by decide)]
theorem exE0:bestE (threeP zeroC zeroC)=0:=by unfold bestE;rw[ex_a0,if_neg (by decide)]
theorem exLs1:bestLs (threeP hvC zeroC)=[⟨1,6,160,9⟩,⟨2,9,160,12⟩]:=by unfold bestLs;rw[ex_a1,if_neg (by decide)];exact ex_b1
theorem exT1:bestT (threeP hvC zeroC)=12:=by unfold bestT;rw[ex_a1,if_neg (by decide)]
theorem exE1:bestE (threeP hvC zeroC)=0:=by unfold bestE;rw[ex_a1,if_neg (by decide)]
theorem exT2:bestT (hopeP (threeP hvC hvC))=6:=by unfold bestT;rw[ex_a2,if_neg (by decide)]
theorem exE2:bestE (hopeP (threeP hvC hvC))=0:=by unfold bestE;rw[ex_a2,if_neg (by decide)]
abbrev exVs:List Value:=[nI 3,nI 1,slN 2 3,slN 14 2,slN 3 3,nI 3,nI 6000,nI 800,nI 9000,slN 6 3,slN 7 2,slN 8 2,nI 0,nI 20,nI 10,nI 100,nI 80,nI 0,nI 2]
theorem exWk(c9 c12:List Value)(a b:Cell)(h9:c9=[zeroC,a,zeroC].flatMap cellC)(h12:c12=[zeroC,b,zeroC].flatMap cellC):wks [.agg ⟨exVs.set 3 (.iface 3 (.agg ⟨twoC (.iface 4 (.agg ⟨c9⟩)) (.iface 4 (.agg ⟨c12⟩))⟩))⟩] [dpV (threeP a b) 2 3 6 7 8]:=by
 subst h9 h12
 exact ⟨wk_aggL ⟨wk_refl _,wk_refl _,wk_nR,wk_refl _,wk_nR,wk_refl _,wk_refl _,wk_refl _,wk_refl _,wk_nR,wk_nR,wk_nR,wk_refl _,wk_refl _,wk_refl _,wk_refl _,wk_refl _,wk_refl _,wk_refl _,trivial⟩,trivial⟩
end
end Go.Proofs.YtmecpfikljhjaaaDoor
