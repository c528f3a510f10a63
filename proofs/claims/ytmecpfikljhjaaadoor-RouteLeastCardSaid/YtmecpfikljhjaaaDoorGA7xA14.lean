/- Route: which cells can be reached; a route that is found is finite. No condition. -/
import Derived.Test.YtmecpfikljhjaaaDoorGI4gxI5
import Derived.Test.YtmecpfikljhjaaaDoorGK27xA0
import Derived.Test.YtmecpfikljhjaaaDoorGH5xA4
import Derived.Test.YtmecpfikljhjaaaDoorGI2gxI3
open Go Go.K
set_option maxRecDepth 1000000
set_option maxHeartbeats 4000000
set_option linter.unusedVariables false
set_option linter.unusedSimpArgs false
namespace Go.Proofs.YtmecpfikljhjaaaDoor
noncomputable section
attribute [local irreducible] vF
inductive Rch (p:Pl):Int->Int->Prop
 |start:Rch p 0 p.frm
 |wait {t c:Int}:Rch p t c->wtB p c t (t+1)=true->t<endP p->Rch p (t+1) c
 |leg {t c:Int} {x:Leg}:Rch p t c->t<endP p->x∈lgP p c t->Rch p x.arr x.to
def GR(p:Pl)(G:List (List Bool)):Prop:=∀t c:Nat,(G.getD t []).getD c false=true->Rch p (t:Int) (c:Int)
theorem put1_get{G:List (List Bool)}{a c:Int}{t j:Nat}(h:((put1 G a c).getD t []).getD j false=true):(G.getD t []).getD j false=true∨(t=Int.toNat a/\j=Int.toNat c):=by
 unfold put1 at h
 by_cases ha:Int.toNat a<G.length
 ·rw[getD_set ha]at h
  by_cases e:t=Int.toNat a
  ·rw[if_pos e]at h
   by_cases hc:Int.toNat c<(G.getD (Int.toNat a) []).length
   ·rw[getD_set hc]at h
    by_cases f:j=Int.toNat c
    ·exact .inr ⟨e,f⟩
    ·rw[if_neg f]at h;rw[e];exact .inl h
   ·rw[List.set_eq_of_length_le (by omega)]at h;rw[e];exact .inl h
  ·rw[if_neg e]at h;exact .inl h
 ·rw[List.set_eq_of_length_le (by omega)]at h;exact .inl h
theorem GR.put1{p:Pl}{G:List (List Bool)}(g:GR p G){a c:Int}(ha:0<=a)(hc:0<=c)(r:Rch p a c):GR p (put1 G a c):=fun t j h=>by
 rcases put1_get h with h|⟨rfl,rfl⟩
 ·exact g t j h
 ·rw[show ((Int.toNat a:Nat):Int)=a by omega,show ((Int.toNat c:Nat):Int)=c by omega];exact r
theorem GR.putLs{p:Pl}:∀{l:List Leg} {G:List (List Bool)},GR p G->(∀x∈l,0<=x.arr/\0<=x.to/\Rch p x.arr x.to)->GR p (putLs G l)
 | [],_,g,_=>g
 |x :: l,G,g,h=>by
  have hx:=h x List.mem_cons_self
  exact GR.putLs (l:=l) (g.put1 hx.1 hx.2.1 hx.2.2) fun y hy=>h y (List.mem_cons_of_mem _ hy)
theorem GR.cSt{p:Pl}(o:PlOk p){G:List (List Bool)}(g:GR p G){t j:Nat}(ht:(t:Int)<endP p)(hj:j<p.land.length)(r:Rch p (t:Int) (j:Int)):GR p (cSt p t j G):=by
 unfold YtmecpfikljhjaaaDoor.cSt
 have hl:∀x∈lgP p (j:Int) (t:Int),0<=x.arr/\0<=x.to/\Rch p x.arr x.to:=fun x hx=>by
  have hm:=lgP_mem hx
  exact ⟨by omega,(bs_mem o (by omega) hm.1).1.1,.leg r ht hx⟩
 by_cases w:wtB p (j:Int) (t:Int) ((t:Int)+1)=true
 ·rw[if_pos w];exact GR.putLs (g.put1 (by omega) (by omega) (.wait r w ht)) hl
 ·rw[if_neg w];exact GR.putLs g hl
theorem GR.cTo{p:Pl}(o:PlOk p){G:List (List Bool)}(g:GR p G){t:Nat}(ht:(t:Int)<endP p):∀j,j<=p.land.length->GR p (cTo p t G j)
 |0,_=>g
 |j+1,h=>by
  show GR p (if _ then _ else _)
  by_cases q:(G.getD t []).getD j false=true
  ·rw[if_pos q];exact (GR.cTo o g ht j (by omega)).cSt o ht (by omega) (g t j q)
  ·rw[if_neg q];exact GR.cTo o g ht j (by omega)
theorem repl_get(n N t j:Nat):((List.replicate N (List.replicate n false)).getD t []).getD j false=false:=by
 rw[List.getD_eq_getElem?_getD (l:=List.replicate N _),List.getElem?_replicate]
 by_cases h:t<N
 ·rw[if_pos h]
  show (List.replicate n false).getD j false=false
  rw[List.getD_eq_getElem?_getD,List.getElem?_replicate]
  by_cases q:j<n
  ·rw[if_pos q];rfl
  ·rw[if_neg q];rfl
 ·rw[if_neg h];rfl
theorem GR.gTo{p:Pl}(o:PlOk p):∀k:Nat,(k:Int)<=endP p->GR p (gTo p k)
 |0,_=>GR.put1 (fun t j h=>by rw[repl_get]at h;cases h) (Int.le_refl _) (sea_in o.frm).1.1 .start
 |k+1,h=>by
  have hct:=o.cts
  have hk:k<NT p:=by show k<Int.toNat (endP p+1);omega
  refine GR.cTo o (GR.gTo o k (by omega)) (by omega) _ ?_
  rw[(GOk.gTo p k).rl k hk,o.chan];exact Nat.le_refl _
theorem tbRch{p:Pl}(o:PlOk p){t c:Nat}(h:((tbP p).getD t []).getD c false=true):Rch p (t:Int) (c:Int):=by
 have hct:=o.cts
 exact GR.gTo o (Int.toNat (endP p)) (by unfold endP;omega) t c h
theorem lf_le{p:Pl}{a:Int}:∀{t c:Int},Rch p t c->t<=a->0<=t/\lfP p a p.frm 0<=lfP p a c t+t:=by
 intro t c r
 induction r with
 |start=>intro h;exact ⟨Int.le_refl _,by omega⟩
 | @wait t c r w ht ih =>
  intro h
  obtain ⟨i0,i1⟩:=ih (by omega)
  have e:=lfP_eq (p:=p) (a:=a) (c:=c) (t:=t) (by omega)
  have l:=(lfTo_le p a (lgP p c t) (lf0 p a c t)).1
  have f:lf0 p a c t=lfP p a c (t+1):=by unfold lf0;rw[if_pos w]
  exact ⟨by omega,by omega⟩
 | @leg t c x r ht hx ih =>
  intro h
  have hm:=lgP_mem hx
  obtain ⟨i0,i1⟩:=ih (by omega)
  have e:=lfP_eq (p:=p) (a:=a) (c:=c) (t:=t) (by omega)
  have l:=(lfTo_le p a (lgP p c t) (lf0 p a c t)).2 x hx h
  exact ⟨by omega,by omega⟩
theorem arr_cases{p:Pl}(o:PlOk p):(arrP p = -1/\∀k,k<(tbP p).length->atB p k=false)∨∃k:Nat,arrP p=(k:Int)/\(k:Int)<=endP p/\atB p k=true/\∀j,j<k->atB p j=false:=by
 have hl:=(tbOk p).gl
 have hN:NT p=Int.toNat (endP p+1):=rfl
 rcases fstN_cases (atB p) (tbP p).length with h|⟨k,h1,h2,h3,h4⟩
 ·exact .inl h
 ·exact .inr ⟨k,h4,by omega,h2,h3⟩
theorem bsOk{p:Pl}(o:PlOk p)(h:0<=arrP p):BsOk p (arrP p):=by
 rcases arr_cases o with ⟨e,_⟩|⟨k,e,h1,h2,_⟩
 ·omega
 have he:=end_le o
 have hto:=sea_in o.to
 have r:=tbRch o h2
 rw[show ((Int.toNat p.to:Nat):Int)=p.to by omega,<- e]at r
 have l:=lf_le r (Int.le_refl _)
 rw[lfP_end,if_pos rfl]at l
 exact ⟨h,by omega,by omega⟩
def bestLs(p:Pl):List Leg:=if arrP p<0 then [] else bestP p (arrP p)
def bestT(p:Pl):Int:=if arrP p<0 then 0 else arrP p
def bestE(p:Pl):Int:=if arrP p<0 then 51 else 0
def met1(m r:List Bool):Nat->List Bool
 |0=>m
 |i+1=>(met1 m r i).set i ((met1 m r i).getD i false ||r.getD i false)
def metTo(p:Pl):Nat->List Bool
 |0=>List.replicate p.chan.length false
 |k+1=>met1 (metTo p k) ((tbP p).getD k []) ((tbP p).getD k []).length
def metP(p:Pl):List Bool:=metTo p (tbP p).length
def anyM(m:List Bool)(l:List Int):Bool:=l.any fun k=>m.getD (Int.toNat k) false
def wlB(p:Pl)(i:Nat):Bool:=seaB p.land (i:Int)&&(!(metP p).getD i false&&anyM (metP p) (bsP p (i:Int)))
def wlTo(p:Pl)(n:Nat):List Int:=((List.range n).filter (wlB p)).map fun (i:Nat)=>(i:Int)
def wlE(p:Pl):Int:=if (metP p).getD (Int.toNat p.to) false then 9 else 0
def wlP(p:Pl):List Int:=if (metP p).getD (Int.toNat p.to) false then [] else wlTo p (metP p).length
theorem met1_len(m r:List Bool):∀i,(met1 m r i).length=m.length
 |0=>rfl
 |i+1=>by show (List.set ..).length=_;rw[List.length_set,met1_len m r i]
theorem metTo_len(p:Pl):∀k,(metTo p k).length=p.chan.length
 |0=>List.length_replicate
 |k+1=>(met1_len ..).trans (metTo_len p k)
abbrev jm1:List Value:=[nI 4000,nI 8000,nI 14000,nI 24000,nI 40000,nI 90000]
abbrev jmd:=someR (.cells false 0 jm1)
abbrev jm4(p:Pl):=p.land.flatMap boolC
abbrev jmb(p:Pl):=p.cts.flatMap chC
abbrev jm5(p:Pl):=p.chan.flatMap boolC
abbrev jm6(p:Pl):=p.shp.th.flatMap ptC
abbrev jm7(p:Pl):=p.shp.wa.flatMap ptC
abbrev jm8(p:Pl):=p.shp.ic.flatMap ptC
abbrev jm2(p:Pl):List Value:=[.agg #[nI p.w,nI p.h,slQ 1 2 p.land.length,slQ 2 2 p.cts.length,slQ 3 2 p.chan.length,nI p.shp.cls,nI p.shp.pow,nI p.shp.dra,nI p.shp.ton,slQ 4 2 p.shp.th.length,slQ 5 2 p.shp.wa.length,slQ 6 2 p.shp.ic.length,nI p.shp.slow,nI p.shp.brash,nI p.shp.rdg,nI p.shp.prs,nI p.size,nI p.frm,nI p.to]]
abbrev jm0(p:Pl):List Value:=[nI p.w,nI p.h,slQ 1 2 p.land.length,slQ 2 2 p.cts.length,slQ 3 2 p.chan.length,nI p.shp.cls,nI p.shp.pow,nI p.shp.dra,nI p.shp.ton,slQ 4 2 p.shp.th.length,slQ 5 2 p.shp.wa.length,slQ 6 2 p.shp.ic.length,nI p.shp.slow,nI p.shp.brash,nI p.shp.rdg,nI p.shp.prs,nI p.size,nI p.frm,nI p.to,nI (endP p),.map (some 9)]
abbrev jmc(p:Pl):=knE (Memo.nil (sfP p)).1
abbrev jma(p:Pl):=rn (sg 7 [(7,10)]) 3 (.tuple #[slQ 7 1 (bestLs p).length,nI (bestT p),nI (bestE p)]:Value)
def RBest(p:Pl):Prop :=
 ((jmd/\(someR (.cells true 1 (jm4 p)))/\(someR (.cells false 0 (jmb p)))/\(someR (.cells true 1 (jm5 p)))/\(someR (.cells true 2 (jm6 p)))/\(someR (.cells true 2 (jm7 p)))/\(someR (.cells true 2 (jm8 p)))/\True)/\(∀H':Heap,H'.length=8->(H'[0]?=some (.cells false 0 jm1:KObj)/\H'[1]?=some (.cells true 1 (jm4 p):KObj)/\H'[2]?=some (.cells false 0 (jmb p):KObj)/\H'[3]?=some (.cells true 1 (jm5 p):KObj)/\H'[4]?=some (.cells true 2 (jm6 p):KObj)/\H'[5]?=some (.cells true 2 (jm7 p):KObj)/\H'[6]?=some (.cells true 2 (jm8 p):KObj)/\True)->KCall prog 30 (jm2 p) H' [] (Is (.tuple #[pt 8,nI 0]) (H' ++ [(.cells true 0 (jm0 p):KObj),(.map (jmc p):KObj)])))/\((jmd/\(someR (.cells true 0 (jm0 p)))/\(someR (.cells true 1 (jm4 p)))/\(someR (.cells false 0 (jmb p)))/\(someR (.cells true 1 (jm5 p)))/\(someR (.cells true 2 (jm6 p)))/\(someR (.cells true 2 (jm7 p)))/\(someR (.cells true 2 (jm8 p)))/\(someR (.map (jmc p)))/\True)/\(∀H':Heap,H'.length=10->(H'[0]?=some (.cells false 0 jm1:KObj)/\H'[8]?=some (.cells true 0 (jm0 p):KObj)/\H'[1]?=some (.cells true 1 (jm4 p):KObj)/\H'[2]?=some (.cells false 0 (jmb p):KObj)/\H'[3]?=some (.cells true 1 (jm5 p):KObj)/\H'[4]?=some (.cells true 2 (jm6 p):KObj)/\H'[5]?=some (.cells true 2 (jm7 p):KObj)/\H'[6]?=some (.cells true 2 (jm8 p):KObj)/\H'[9]?=some (.map (jmc p):KObj)/\True)->KCall prog 31 [pt 8] H' [9] (fun y H2 => ∃z:Memo (sfP p),True/\y=nI (arrP p)/\H2=(List.set H' 9 (.map (knE z.1):KObj))))/\(∀r1:Memo (sfP p),True->(fk (decide (((arrP p):Int)<0)) (wk (.tuple #[.slice none 0 0,nI 0,nI 51]:Value) (.tuple #[slQ 10 1 0,nI 0,nI 51]:Value)/\(true=true/\wk (.tuple #[slQ 10 1 0,nI 0,nI 51]:Value) (jma p)/\((kbq 7 (.cells true 4 []) (.cells true 4 ((bestLs p).flatMap lgC)))/\True))) ((jmd/\(someR (.cells true 0 (jm0 p)))/\(someR (.cells true 1 (jm4 p)))/\(someR (.cells false 0 (jmb p)))/\(someR (.cells true 1 (jm5 p)))/\(someR (.cells true 2 (jm6 p)))/\(someR (.cells true 2 (jm7 p)))/\(someR (.cells true 2 (jm8 p)))/\(someR (.map (knE r1.1)))/\True)/\(∀H':Heap,H'.length=10->(H'[0]?=some (.cells false 0 jm1:KObj)/\H'[8]?=some (.cells true 0 (jm0 p):KObj)/\H'[1]?=some (.cells true 1 (jm4 p):KObj)/\H'[2]?=some (.cells false 0 (jmb p):KObj)/\H'[3]?=some (.cells true 1 (jm5 p):KObj)/\H'[4]?=some (.cells true 2 (jm6 p):KObj)/\H'[5]?=some (.cells true 2 (jm7 p):KObj)/\H'[6]?=some (.cells true 2 (jm8 p):KObj)/\H'[9]?=some (.map (knE r1.1):KObj)/\True)->KCall prog 32 [pt 8,nI (arrP p)] H' [9] (fun y H2 => ∃z:Memo (sfP p),True/\y=slQ 10 1 (bestP p (arrP p)).length/\H2=((List.set H' 9 (.map (knE z.1):KObj)) ++ [(.cells true 4 ((bestP p (arrP p)).flatMap lgC):KObj)])))/\(∀r2:Memo (sfP p),True->(true=true/\wk (.tuple #[slQ 10 1 (bestP p (arrP p)).length,nI (arrP p),nI 0]:Value) (jma p)/\((kbq 7 (.cells true 4 ((bestP p (arrP p)).flatMap lgC)) (.cells true 4 ((bestLs p).flatMap lgC)))/\True))))))))
abbrev jm3(p:Pl):=readsK [.cells false 0 jm1,.cells true 1 (jm4 p),.cells false 0 (jmb p),.cells true 1 (jm5 p),.cells true 2 (jm6 p),.cells true 2 (jm7 p),.cells true 2 (jm8 p)]
theorem EBest(p:Pl):vF prog msk (dm 0) 100000 true 40 true 8 (jm2 p) (jm3 p) (some [])
 (.go 4 (.ans [(0,.cells false 0 jm1),(1,.cells true 1 (jm4 p)),(2,.cells false 0 (jmb p)),(3,.cells true 1 (jm5 p)),(4,.cells true 2 (jm6 p)),(5,.cells true 2 (jm7 p)),(6,.cells true 2 (jm8 p))] (.tuple #[pt 8,nI 0]) [.cells true 0 (jm0 p),.map (jmc p)] (.go 8 (.anse [(0,.cells false 0 jm1),(8,.cells true 0 (jm0 p)),(1,.cells true 1 (jm4 p)),(2,.cells false 0 (jmb p)),(3,.cells true 1 (jm5 p)),(4,.cells true 2 (jm6 p)),(5,.cells true 2 (jm7 p)),(6,.cells true 2 (jm8 p)),(9,.map (jmc p))] [9] (Memo (sfP p)) (fun r1=>True) (fun r1=>nI (arrP p)) (fun r1=>[(9,.map (knE r1.1))]) (fun r1=>[]) (fun r1 => .go 2 (.fork (.go 2 (.as (.tuple #[slQ 10 1 0,nI 0,nI 51]) (.ghost (.cells true 4 []) (.again [(7,10)])))) (.go 1 (.anse [(0,.cells false 0 jm1),(8,.cells true 0 (jm0 p)),(1,.cells true 1 (jm4 p)),(2,.cells false 0 (jmb p)),(3,.cells true 1 (jm5 p)),(4,.cells true 2 (jm6 p)),(5,.cells true 2 (jm7 p)),(6,.cells true 2 (jm8 p)),(9,.map (knE r1.1))] [9] (Memo (sfP p)) (fun r2=>True) (fun r2=>slQ 10 1 (bestP p (arrP p)).length) (fun r2=>[(9,.map (knE r2.1))]) (fun r2=>[.cells true 4 ((bestP p (arrP p)).flatMap lgC)]) (fun r2 => .go 3 (.again [(7,10)]))))))))))
 (newK ((jm3 p):HT).n 3 (.tuple #[slQ 7 1 (bestLs p).length,nI (bestT p),nI (bestE p)]) [(true,.cells true 4 ((bestLs p).flatMap lgC))])=RBest p:=by kernel_rfl
abbrev jm9(l:List Int):Prop:=eR (.func (.func 54) #[] #[pt 2])/\wR (slQ 1 2 l.length)/\eR (nI ((l.length:Nat):Int))/\True
def Rcontains(sp:Value)(l:List Int)(m:List Bool):Prop :=
 (lq (0<=List.length l/\∀jz:Nat,jz<0->List.getD m (l.getD jz 0).toNat false=false) (true=true/\((nI 0:Value)=nI ((0:Nat):Int)/\jm9 l)/\(True)/\(True)/\(True)) (∀x0:Nat,(x0<=List.length l/\∀jz:Nat,jz<x0->List.getD m (l.getD jz 0).toNat false=false)->(fk (decide (((x0:Int):Int)<((l.length:Nat):Int))) ((ixq (x0:Int) l.length)/\(((l.flatMap intC)[(0+Int.toNat (x0:Int)*1)]?=some (nI (l.getD x0 0)))/\((ixq (l.getD x0 0) m.length)/\(((m.flatMap boolC)[(0+Int.toNat (l.getD x0 0)*1)]?=some (.bool (m.getD (l.getD x0 0).toNat false)))/\(fk (m.getD (l.getD x0 0).toNat false) ((.bool (decide ((0:Int)<=(x0:Int))):Value)=sp) (nw ((x0:Int)+1) (∃x0':Nat,(x0'<=List.length l/\∀jz:Nat,jz<x0'->List.getD m (l.getD jz 0).toNat false=false)/\(List.length l-x0')<(List.length l-x0)/\true=true/\((nI ((x0:Int)+1):Value)=nI (x0':Int)/\jm9 l)/\(True)/\(True)/\(True)))))))) ((.bool false:Value)=sp))))
theorem Econtains(sp:Value)(l:List Int)(m:List Bool):vF prog msk (dm 0) 100000 true 40 true 52 [slQ 1 2 l.length,.func (.func 54) #[] #[pt 2]] (readsK [.cells false 0 jm1,.cells true 1 (l.flatMap intC),.cells true 0 [slN 3 m.length],.cells true 1 (m.flatMap boolC)]) (some [])
 (.go 7 (.inv 3 (Nat) (0) [] [] (fun x0=>[(8,nI (x0:Int)),(1,.func (.func 54) #[] #[pt 2]),(0,slQ 1 2 l.length),(7,nI ((l.length:Nat):Int))]) (fun x0=>[]) (fun x0=>[]) (fun x0=>[]) (fun x0=>(x0<=List.length l/\∀jz:Nat,jz<x0->List.getD m (l.getD jz 0).toNat false=false)) (fun x0=>(List.length l-x0)) (fun x0 => .go 0 (.fork (.go 4 (.need (.val (nI (l.getD x0 0)) (.go 3 (.need (.val (.bool (m.getD (l.getD x0 0).toNat false)) (.go 0 (.fork (.auto) (.go 0 (.slot 18 (nI ((x0:Int)+1)) (.go 0 (.again [])))))))))))) (.auto)))))
 (fun v _ _=>v=sp)=Rcontains sp l m:=by kernel_rfl
theorem wkAtG{H:Heap}{p:Pl}{K:Memo (sfP p)}{W m:Nat}(hn:[0,1,2,3,4,5,6,W,m].Nodup){Q:Prop}(h:H[0]?=some strO/\H[W]?=some (.cells true 0 (wkC p 1 2 3 4 5 6 m))/\H[1]?=some (.cells true 1 (p.land.flatMap boolC))/\H[2]?=some (.cells false 0 (p.cts.flatMap chC))/\H[3]?=some (.cells true 1 (p.chan.flatMap boolC)) /\
  H[4]?=some (.cells true 2 (p.shp.th.flatMap ptC))/\H[5]?=some (.cells true 2 (p.shp.wa.flatMap ptC))/\H[6]?=some (.cells true 2 (p.shp.ic.flatMap ptC))/\H[m]?=some (.map (knE K.1))/\Q):WkAt H p K 1 2 3 4 5 6 W m:=by
 obtain ⟨a0,a7,a1,a2,a3,a4,a5,a6,a8,_⟩:=h
 exact ⟨hn,a0,a1,a2,a3,a4,a5,a6,a7,a8⟩
theorem wkAt89{H:Heap}{p:Pl}{K:Memo (sfP p)}{Q:Prop}(h:H[0]?=some strO/\H[8]?=some (.cells true 0 (wkC p 1 2 3 4 5 6 9))/\H[1]?=some (.cells true 1 (p.land.flatMap boolC))/\H[2]?=some (.cells false 0 (p.cts.flatMap chC))/\H[3]?=some (.cells true 1 (p.chan.flatMap boolC)) /\
  H[4]?=some (.cells true 2 (p.shp.th.flatMap ptC))/\H[5]?=some (.cells true 2 (p.shp.wa.flatMap ptC))/\H[6]?=some (.cells true 2 (p.shp.ic.flatMap ptC))/\H[9]?=some (.map (knE K.1))/\Q):WkAt H p K 1 2 3 4 5 6 8 9:=wkAtG (by decide) h
theorem plAt7{H:Heap}{p:Pl}{Q:Prop}(h:H[0]?=some strO/\H[1]?=some (.cells true 1 (p.land.flatMap boolC))/\H[2]?=some (.cells false 0 (p.cts.flatMap chC))/\H[3]?=some (.cells true 1 (p.chan.flatMap boolC)) /\
  H[4]?=some (.cells true 2 (p.shp.th.flatMap ptC))/\H[5]?=some (.cells true 2 (p.shp.wa.flatMap ptC))/\H[6]?=some (.cells true 2 (p.shp.ic.flatMap ptC))/\Q):PlAt H p 1 2 3 4 5 6:=by
 obtain ⟨a0,a1,a2,a3,a4,a5,a6,_⟩:=h
 exact ⟨by decide,a0,a1,a2,a3,a4,a5,a6⟩
theorem kOpenN{p:Pl}(hp:LstP p)(e0:errPl p=0){H:Heap}{l c n t w i N M:Nat}(hN:H.length=N)(hM:M=N+1)(a:PlAt H p l c n t w i) :
  KCall prog 30 [plV p l c n t w i] H [] (Is (.tuple #[pt N,nI 0]) (H ++ [.cells true 0 (wkC p l c n t w i M),.map (knE (Memo.nil (sfP p)).1)])):=by
 subst hN hM
 exact kOpen0 hp e0 a
theorem kBst{p:Pl}(hp:LstP p)(e0:errPl p=0){H:Heap}{l c n t w i:Nat}(a:PlAt H p l c n t w i) :
  KCall prog 8 [plV p l c n t w i] H [] (Is (.tuple #[.slice (some ⟨H.length,0,some 1⟩) (bestLs p).length (bestLs p).length,nI (bestT p),nI (bestE p)]) (H ++ [.cells true 4 ((bestLs p).flatMap lgC)])):=by
 have o:=plOk e0
 refine valKs (fun j => .tuple #[.slice (some ⟨j,0,some 1⟩) (bestLs p).length (bestLs p).length,nI (bestT p),nI (bestE p)]) (new:=[.cells true 4 ((bestLs p).flatMap lgC)]) (Eq.mpr (EBest p) ?_) (pOs_ok p) rfl ⟨⟨_,_,rfl,plainGL _ _⟩,trivial⟩ a.1 a.objs rfl (fun j=>rfl) rfl
 delta RBest jmd jm4 jmb jm5 jm6 jm7 jm8 jm1 jm2 jm0 jmc jma nI slQ pt someR fk kbq
 refine ⟨?_,fun H' hn h=>kOpenN hp e0 hn rfl (plAt7 h),?_,fun H' hn h=>kArrival o (wkAt89 h),fun r1 _=>⟨fun q =>?_,fun q =>?_⟩⟩
 ·repeat' first|exact trivial|refine ⟨rfl,?_⟩
 ·repeat' first|exact trivial|refine ⟨rfl,?_⟩
 ·have h:=of_decide_eq_true q
  rw[show bestLs p=[] from if_pos h,show bestT p=0 from if_pos h,show bestE p=51 from if_pos h]
  repeat' first|exact trivial|exact rfl|exact wk_refl _|refine wks_cons ?_ ?_|exact wk_nil _ _ _ (.inl rfl)|refine wk_tupL ?_|refine ⟨rfl,?_⟩|apply And.intro
 ·have h:=of_decide_eq_false q
  rw[show bestLs p=bestP p (arrP p) from if_neg h,show bestT p=arrP p from if_neg h,show bestE p=0 from if_neg h]
  refine ⟨?_,fun H' hn hh=>hn ▸ kBestR o (bsOk o (by omega)) (wkAt89 hh),fun r2 _ =>?_⟩
  ·repeat' first|exact trivial|refine ⟨rfl,?_⟩
  ·repeat' first|exact plainGL _ _|exact trivial|exact wk_refl _|refine ⟨rfl,?_⟩|apply And.intro
theorem anyM_all{m:List Bool}{l:List Int}(h:∀j,j<l.length->m.getD (Int.toNat (l.getD j 0)) false=false):anyM m l=false:=by
 unfold anyM
 rw[List.any_eq_false]
 intro x hx
 obtain ⟨j,hj,rfl⟩:=List.getElem_of_mem hx
 have:=h j hj
 rw[List.getD_eq_getElem?_getD (l:=l),List.getElem?_eq_getElem hj]at this
 have e:m.getD (Int.toNat l[j]) false=false:=this
 rw[e];decide
theorem kContains{l:List Int}{m:List Bool}(hl:l.length<=1000000)(hr:∀j,j<l.length->0<=l.getD j 0/\l.getD j 0<(m.length:Int)){H:Heap}{L B M:Nat}(hnd:[0,L,B,M].Nodup)(h0:H[0]?=some strO)(h1:H[L]?=some (.cells true 1 (l.flatMap intC)))
  (h2:H[B]?=some (.cells true 0 [slN M m.length])) (h3:H[M]?=some (.cells true 1 (m.flatMap boolC))) :
  KCall prog 52 [slQ L 2 l.length,.func (.func 54) #[] #[pt B]] H [] (Is (.bool (anyM m l)) H):=by
 have i1:rnoOk 3 (.cells true 1 (l.flatMap intC))=true:=(rnCl (σ:=fun _=>none) (d:=0) (plainIL 0 l)).2
 have i2:∀σ,rno σ 3 (.cells true 1 (l.flatMap intC)) = .cells true 1 (l.flatMap intC):=fun σ=>congrArg (KObj.cells true 1) (rnCl (d:=0) (plainIL 0 l)).1
 refine valV (os:=[strO,.cells true 1 (l.flatMap intC),.cells true 0 [slN 3 m.length],.cells true 1 (m.flatMap boolC)]) (ids:=[0,L,B,M]) (Eq.mpr (Econtains _ l m) ?_)
  (by show (rnoOk 3 strO&&(rnoOk 3 (.cells true 1 (l.flatMap intC))&&(rnoOk 3 (.cells true 0 [slN 3 m.length])&&(rnoOk 3 (.cells true 1 (m.flatMap boolC))&&true))))=true;rw[i1,boolRok];rfl) rfl rfl (fun _=>rfl) hnd ⟨h0,by rw[i2];exact h1,h2,by rw[boolRno];exact h3,trivial⟩ rfl rfl
 delta Rcontains jm9 nI slQ pt fk nw eR wR ixq lq
 refine ⟨rfl,⟨Nat.zero_le _,fun j hj=>absurd hj (Nat.not_lt_zero j)⟩,⟨rfl,?_⟩,fun _=>rfl,fun x0 hx0=>⟨fun q =>?_,fun q =>?_⟩⟩
 ·repeat' first|exact trivial|exact wk_refl _|refine ⟨rfl,?_⟩|refine ⟨trivial,?_⟩|apply And.intro
 ·have hx:=of_decide_eq_true q
  have hx':x0<l.length:=by omega
  have hr0:=hr x0 hx'
  refine ⟨by omega,intAt hx' (by omega),by omega,boolAt (by omega) (by omega),fun r =>?_,fun r =>?_⟩
  ·have e:anyM m l=true:=by
    unfold anyM
    rw[List.any_eq_true]
    exact ⟨l.getD x0 0,getD_mem hx',r⟩
   rw[e,decide_eq_true (by omega)]
  ·refine ⟨vI64 (by omega),x0+1,⟨by omega,fun j hj =>?_⟩,by omega,rfl,?_⟩
   ·by_cases e:j=x0
    ·rw[e];exact r
    ·exact hx0.2 j (by omega)
   ·repeat' first|exact trivial|exact wk_refl _|refine ⟨rfl,?_⟩|refine ⟨trivial,?_⟩|apply And.intro
 ·have hx:=of_decide_eq_false q
  rw[anyM_all fun j hj=>hx0.2 j (by omega)]
def leS(s:Span):Span:=⟨s.lo,s.lo⟩
def leC(c:Cell):Cell:=⟨leS c.conc,leS c.thick,leS c.ridge,leS c.press⟩
def leTo(c:Cht)(k:Nat):List Cell:=(c.cells.take k).map leC
def leH(c:Cht):Cht:=⟨c.w,c.h,c.hr,leTo c c.cells.length⟩
def lstTo(l:List Cht):Nat->List Cht
 |0=>l
 |i+1=>(lstTo l i).set i (leH ((lstTo l i).getD i zCh))
def hopeP(p:Pl):Pl:={ p with cts:=lstTo p.cts p.cts.length }
theorem lstTo_len(l:List Cht):∀i,(lstTo l i).length=l.length
 |0=>rfl
 |i+1=>by show (List.set ..).length=_;rw[List.length_set,lstTo_len l i]
theorem lstTo_get(l:List Cht):∀(i:Nat),i<=l.length->∀j,j<l.length->(lstTo l i).getD j zCh=if j<i then leH (l.getD j zCh) else l.getD j zCh
 |0,_,j,_=>by rw[if_neg (Nat.not_lt_zero j)];rfl
 |i+1,hi,j,hj=>by
  show ((lstTo l i).set i _).getD j zCh=_
  rw[getD_set (by rw[lstTo_len];omega),lstTo_get l i (by omega) i (by omega),if_neg (Nat.lt_irrefl i)]
  by_cases e:j=i
  ·rw[if_pos e,e,if_pos (by omega)]
  ·rw[if_neg e,lstTo_get l i (by omega) j hj]
   by_cases f:j<i
   ·rw[if_pos f,if_pos (by omega)]
   ·rw[if_neg f,if_neg (by omega)]
theorem leTo_len(c:Cht)(k:Nat)(h:k<=c.cells.length):(leTo c k).length=k:=by unfold leTo;rw[List.length_map,List.length_take];omega
theorem leTo_succ{c:Cht}{k:Nat}(h:k<c.cells.length):leTo c (k+1)=leTo c k ++ [leC (c.cells.getD k zeroC)]:=by
 unfold leTo
 rw[List.take_add_one,List.map_append,List.getD_eq_getElem?_getD,List.getElem?_eq_getElem h];rfl
def optE(p:Pl)(c t:Int):Int:=if seaB p.land c=false then 1 else if inB t 0 (endP p)=false then 6 else 0
def optL(p:Pl)(c t:Int):List Leg:=if seaB p.land c=false then [] else if inB t 0 (endP p)=false then [] else lgP p c t
def safE(p:Pl)(c h:Int):Int:=if inB h 0 (((p.cts.length:Nat):Int)-1)=false then 1 else if seaB p.land c=false then 1 else sfE p c h
def safV(p:Pl)(c h:Int):Int:=if inB h 0 (((p.cts.length:Nat):Int)-1)=false then 0 else if seaB p.land c=false then 0 else sfP p c h
def ctI(l:List Int)(x:Int):Bool:=l.any fun y=>y == x
def acB(p:Pl)(c t:Int)(x:Leg):Bool:=ctI (bsP p c) x.to&&(!decide (x.dep<t)&&(inB x.spd 10 250&&(!decide (x.arr<x.dep)&&(x.arr-x.dep == tkP p x.spd))))
def acD(p:Pl)(x:Leg)(j:Nat):Int:=sfP p x.to (Int.tdiv (x.dep+(j:Int)) 6)-x.spd
def mgTo(p:Pl)(x:Leg)(m:Int):Nat->Int
 |0=>m
 |j+1=>if acD p x j<mgTo p x m j then acD p x j else mgTo p x m j
def mgOk(p:Pl)(x:Leg)(n:Nat):Bool:=(List.range n).all fun j => !decide (acD p x j<0)
def lgN(x:Leg):Nat:=Int.toNat (x.arr-x.dep)
def acE(p:Pl)(c t:Int)(x:Leg):Int:=if acB p c t x=false then 50 else if endP p<x.arr then 12 else if wtB p c t x.dep=false then 51 else if mgOk p x (lgN x)=false then 51 else 0
def acC(p:Pl)(l:List Leg):Nat->Int
 |0=>p.frm
 |k+1=>(l.getD k zL).to
def acT(l:List Leg):Nat->Int
 |0=>0
 |k+1=>(l.getD k zL).arr
def acM(p:Pl)(l:List Leg):Nat->Int
 |0=>250
 |k+1=>mgTo p (l.getD k zL) (acM p l k) (lgN (l.getD k zL))
def acU(p:Pl)(l:List Leg)(k:Nat):Int:=acE p (acC p l k) (acT l k) (l.getD k zL)
def accE(p:Pl)(l:List Leg):Int:=if 300<l.length then 2 else first2 (errUp (acU p l) l.length) (if acC p l l.length=p.to then 0 else 50)
def accT(p:Pl)(l:List Leg):Int:=if accE p l=0 then acT l l.length else 0
def accM(p:Pl)(l:List Leg):Int:=if accE p l=0 then acM p l l.length else 0
abbrev jx3:List Value:=[nI 4000,nI 8000,nI 14000,nI 24000,nI 40000,nI 90000]
abbrev jxc(p:Pl):=p.land.flatMap boolC
abbrev jx5(p:Pl):Prop:=(someR (.cells false 0 jx3))/\(someR (.cells true 1 (jxc p)))/\(someR (.cells false 0 (p.cts.flatMap chC)))/\(someR (.cells true 1 (p.chan.flatMap boolC)))/\(someR (.cells true 2 (p.shp.th.flatMap ptC)))/\(someR (.cells true 2 (p.shp.wa.flatMap ptC)))/\(someR (.cells true 2 (p.shp.ic.flatMap ptC)))/\True
abbrev jx4(H':Heap)(p:Pl):Prop:=H'[0]?=some (.cells false 0 jx3:KObj)/\H'[1]?=some (.cells true 1 (jxc p):KObj)/\H'[2]?=some (.cells false 0 (p.cts.flatMap chC):KObj)/\H'[3]?=some (.cells true 1 (p.chan.flatMap boolC):KObj)/\H'[4]?=some (.cells true 2 (p.shp.th.flatMap ptC):KObj)/\H'[5]?=some (.cells true 2 (p.shp.wa.flatMap ptC):KObj)/\H'[6]?=some (.cells true 2 (p.shp.ic.flatMap ptC):KObj)/\True
abbrev jx6(p:Pl):List Value:=[.agg #[nI p.w,nI p.h,slQ 1 2 p.land.length,slQ 2 2 p.cts.length,slQ 3 2 p.chan.length,nI p.shp.cls,nI p.shp.pow,nI p.shp.dra,nI p.shp.ton,slQ 4 2 p.shp.th.length,slQ 5 2 p.shp.wa.length,slQ 6 2 p.shp.ic.length,nI p.shp.slow,nI p.shp.brash,nI p.shp.rdg,nI p.shp.prs,nI p.size,nI p.frm,nI p.to]]
abbrev jx0(p:Pl):List Value:=[nI p.w,nI p.h,slQ 1 2 p.land.length,slQ 2 2 p.cts.length,slQ 3 2 p.chan.length,nI p.shp.cls,nI p.shp.pow,nI p.shp.dra,nI p.shp.ton,slQ 4 2 p.shp.th.length,slQ 5 2 p.shp.wa.length,slQ 6 2 p.shp.ic.length,nI p.shp.slow,nI p.shp.brash,nI p.shp.rdg,nI p.shp.prs,nI p.size,nI p.frm,nI p.to,nI (endP p),.map (some 9)]
abbrev jxe(p:Pl):=knE (Memo.nil (sfP p)).1
abbrev jxd(p:Pl)(c t:Int):Value:=.tuple #[slQ 7 1 (optL p c t).length,nI (optE p c t)]
def Roptions(p:Pl)(c t:Int):Prop :=
 ((jx5 p)/\(∀H':Heap,H'.length=8->(jx4 H' p)->KCall prog 30 (jx6 p) H' [] (Is (.tuple #[pt 8,nI 0]) (H' ++ [(.cells true 0 (jx0 p):KObj),(.map (jxe p):KObj)])))/\c1q 10 1 (.cells true 1 (jxc p)) 43 [.agg #[nI p.w,nI p.h,slQ 1 2 p.land.length],nI c] (.bool (seaB p.land c)) (fk (!(seaB p.land c)) (wk (.tuple #[.slice none 0 0,nI 1]:Value) (.tuple #[slQ 10 1 0,nI 1]:Value)/\true=true/\wk (.tuple #[slQ 10 1 0,nI 1]:Value) (rn (sg 7 [(7,10)]) 3 (jxd p c t))/\(kbq 7 (.cells true 4 []) (.cells true 4 ((optL p c t).flatMap lgC)))/\True) (c0q 10 44 [nI t,nI 0,nI (endP p)] (.bool (inB t 0 (endP p))) (fk (!(inB t 0 (endP p))) (wk (.tuple #[.slice none 0 0,nI 6]:Value) (.tuple #[slQ 10 1 0,nI 6]:Value)/\true=true/\wk (.tuple #[slQ 10 1 0,nI 6]:Value) (rn (sg 7 [(7,10)]) 3 (jxd p c t))/\(kbq 7 (.cells true 4 []) (.cells true 4 ((optL p c t).flatMap lgC)))/\True) (((someR (.cells false 0 jx3))/\(someR (.cells true 0 [pt 8]))/\(someR (.cells true 0 [nI c]))/\(someR (.cells true 0 [nI t]))/\(someR (.cells true 0 (jx0 p)))/\(someR (.cells true 1 (jxc p)))/\(someR (.cells false 0 (p.cts.flatMap chC)))/\(someR (.cells true 1 (p.chan.flatMap boolC)))/\(someR (.cells true 2 (p.shp.th.flatMap ptC)))/\(someR (.cells true 2 (p.shp.wa.flatMap ptC)))/\(someR (.cells true 2 (p.shp.ic.flatMap ptC)))/\(someR (.map (jxe p)))/\True)/\(∀H':Heap,H'.length=13->(H'[0]?=some (.cells false 0 jx3:KObj)/\H'[10]?=some (.cells true 0 [pt 8]:KObj)/\H'[11]?=some (.cells true 0 [nI c]:KObj)/\H'[12]?=some (.cells true 0 [nI t]:KObj)/\H'[8]?=some (.cells true 0 (jx0 p):KObj)/\H'[1]?=some (.cells true 1 (jxc p):KObj)/\H'[2]?=some (.cells false 0 (p.cts.flatMap chC):KObj)/\H'[3]?=some (.cells true 1 (p.chan.flatMap boolC):KObj)/\H'[4]?=some (.cells true 2 (p.shp.th.flatMap ptC):KObj)/\H'[5]?=some (.cells true 2 (p.shp.wa.flatMap ptC):KObj)/\H'[6]?=some (.cells true 2 (p.shp.ic.flatMap ptC):KObj)/\H'[9]?=some (.map (jxe p):KObj)/\True)->KCall prog 45 [.func (.func 84) #[] #[pt 10,pt 11,pt 12]] H' [9] (fun y H2 => ∃z:Memo (sfP p),True/\y=slQ 13 1 (lgP p c t).length/\H2=((List.set H' 9 (.map (knE z.1):KObj)) ++ [(.cells true 4 ((lgP p c t).flatMap lgC):KObj)])))/\∀r3:Memo (sfP p),True->(true=true/\wk (.tuple #[slQ 13 1 (lgP p c t).length,nI 0]:Value) (rn (sg 7 [(7,13)]) 3 (jxd p c t))/\(kbq 7 (.cells true 4 ((lgP p c t).flatMap lgC)) (.cells true 4 ((optL p c t).flatMap lgC)))/\True))))))
abbrev jx2(p:Pl):=readsK [.cells false 0 jx3,.cells true 1 (jxc p),.cells false 0 (p.cts.flatMap chC),.cells true 1 (p.chan.flatMap boolC),.cells true 2 (p.shp.th.flatMap ptC),.cells true 2 (p.shp.wa.flatMap ptC),.cells true 2 (p.shp.ic.flatMap ptC)]
abbrev jx7(p:Pl):List (Nat×KObj):=[(0,.cells false 0 jx3),(1,.cells true 1 (jxc p)),(2,.cells false 0 (p.cts.flatMap chC)),(3,.cells true 1 (p.chan.flatMap boolC)),(4,.cells true 2 (p.shp.th.flatMap ptC)),(5,.cells true 2 (p.shp.wa.flatMap ptC)),(6,.cells true 2 (p.shp.ic.flatMap ptC))]
theorem Eoptions(p:Pl)(c t:Int):vF prog msk (dm 0) 100000 true 40 true 12 [.agg #[nI p.w,nI p.h,slQ 1 2 p.land.length,slQ 2 2 p.cts.length,slQ 3 2 p.chan.length,nI p.shp.cls,nI p.shp.pow,nI p.shp.dra,nI p.shp.ton,slQ 4 2 p.shp.th.length,slQ 5 2 p.shp.wa.length,slQ 6 2 p.shp.ic.length,nI p.shp.slow,nI p.shp.brash,nI p.shp.rdg,nI p.shp.prs,nI p.size,nI p.frm,nI p.to],nI c,nI t] (jx2 p) (some [])
 (.go 3 (.ans (jx7 p) (.tuple #[pt 8,nI 0]) [.cells true 0 (jx0 p),.map (jxe p)] (.go 11 (.ans [(1,.cells true 1 (jxc p))] (.bool (seaB p.land c)) [] (.go 1 (.fork (.go 1 (.as (.tuple #[slQ 10 1 0,nI 1]) (.ghost (.cells true 4 []) (.again [(7,10)])))) (.go 4 (.ans [] (.bool (inB t 0 (endP p))) [] (.go 1 (.fork (.go 1 (.as (.tuple #[slQ 10 1 0,nI 6]) (.ghost (.cells true 4 []) (.again [(7,10)])))) (.go 9 (.anse [(0,.cells false 0 jx3),(10,.cells true 0 [pt 8]),(11,.cells true 0 [nI c]),(12,.cells true 0 [nI t]),(8,.cells true 0 (jx0 p)),(1,.cells true 1 (jxc p)),(2,.cells false 0 (p.cts.flatMap chC)),(3,.cells true 1 (p.chan.flatMap boolC)),(4,.cells true 2 (p.shp.th.flatMap ptC)),(5,.cells true 2 (p.shp.wa.flatMap ptC)),(6,.cells true 2 (p.shp.ic.flatMap ptC)),(9,.map (jxe p))] [9] (Memo (sfP p)) (fun r3=>True) (fun r3=>slQ 13 1 (lgP p c t).length) (fun r3=>[(9,.map (knE r3.1))]) (fun r3=>[.cells true 4 ((lgP p c t).flatMap lgC)]) (fun r3 => .go 1 (.again [(7,13)]))))))))))))))
 (newK ((jx2 p):HT).n 3 (.tuple #[slQ 7 1 (optL p c t).length,nI (optE p c t)]) [(true,.cells true 4 ((optL p c t).flatMap lgC))])=Roptions p c t:=by kernel_rfl
abbrev jxa(p:Pl):Int:=(p.cts.length:Nat)
abbrev jxb(p:Pl)(c h:Int):Prop:=true=true/\wk (.tuple #[nI 0,nI 1]:Value) (rn (sg 7 []) 3 (.tuple #[nI (safV p c h),nI (safE p c h)]:Value))/\(True)
abbrev jx9(p:Pl)(h:Int):Value:=.iface ((List.length (p.cts.getD h.toNat zCh).cells)+1) (.agg ⟨(List.flatMap cellC (p.cts.getD h.toNat zCh).cells)⟩)
abbrev jx1(p:Pl)(h c:Int):=List.getD (p.cts.getD h.toNat zCh).cells c.toNat zeroC
abbrev jx8(p:Pl)(h c:Int):Value:=.agg #[nI (jx1 p h c).conc.lo,nI (jx1 p h c).conc.hi,nI (jx1 p h c).thick.lo,nI (jx1 p h c).thick.hi,nI (jx1 p h c).ridge.lo,nI (jx1 p h c).ridge.hi,nI (jx1 p h c).press.lo,nI (jx1 p h c).press.hi]
def Rpsafe(p:Pl)(c h:Int):Prop :=
 ((jx5 p)/\(∀H':Heap,H'.length=8->(jx4 H' p)->KCall prog 47 (jx6 p) H' [] (Is (nI 0) H'))/\nw ((jxa p)-1) (c0q 8 44 [nI h,nI 0,nI ((jxa p)-1)] (.bool (inB h 0 ((jxa p)-1))) (fk (!(inB h 0 ((jxa p)-1))) (jxb p c h) (c1q 8 1 (.cells true 1 (jxc p)) 43 [.agg #[nI p.w,nI p.h,slQ 1 2 p.land.length],nI c] (.bool (seaB p.land c)) (fk (!(seaB p.land c)) (jxb p c h) ((ixq h p.cts.length)/\((p.cts.flatMap chC)[((0+Int.toNat h*4)+3)]?=some (jx9 p h))/\(ixq c (List.length (p.cts.getD h.toNat zCh).cells))/\(partA 8 (List.flatMap cellC (p.cts.getD h.toNat zCh).cells) (Int.toNat c*8)=some (jx8 p h c))/\(ixq c p.chan.length)/\((p.chan.flatMap boolC)[(0+Int.toNat c*1)]?=some (.bool (p.chan.getD c.toNat false)))/\c4q 8 0 (.cells false 0 jx3) 4 (.cells true 2 (p.shp.th.flatMap ptC)) 5 (.cells true 2 (p.shp.wa.flatMap ptC)) 6 (.cells true 2 (p.shp.ic.flatMap ptC)) 48 [.agg #[nI p.shp.cls,nI p.shp.pow,nI p.shp.dra,nI p.shp.ton,slQ 4 2 p.shp.th.length,slQ 5 2 p.shp.wa.length,slQ 6 2 p.shp.ic.length,nI p.shp.slow,nI p.shp.brash,nI p.shp.rdg,nI p.shp.prs],.agg #[nI (jx1 p h c).conc.lo,nI (jx1 p h c).conc.hi,nI (jx1 p h c).thick.lo,nI (jx1 p h c).thick.hi,nI (jx1 p h c).ridge.lo,nI (jx1 p h c).ridge.hi,nI (jx1 p h c).press.lo,nI (jx1 p h c).press.hi],.bool (p.chan.getD c.toNat false)] (.tuple #[nI (sfP p c h),nI (sfE p c h)]) (true=true/\wk (.tuple #[nI (sfP p c h),nI (sfE p c h)]:Value) (rn (sg 7 []) 3 (.tuple #[nI (safV p c h),nI (safE p c h)]:Value))/\True)))))))
theorem Epsafe(p:Pl)(c h:Int):vF prog msk (dm 0) 100000 true 40 true 14 [.agg #[nI p.w,nI p.h,slQ 1 2 p.land.length,slQ 2 2 p.cts.length,slQ 3 2 p.chan.length,nI p.shp.cls,nI p.shp.pow,nI p.shp.dra,nI p.shp.ton,slQ 4 2 p.shp.th.length,slQ 5 2 p.shp.wa.length,slQ 6 2 p.shp.ic.length,nI p.shp.slow,nI p.shp.brash,nI p.shp.rdg,nI p.shp.prs,nI p.size,nI p.frm,nI p.to],nI c,nI h] (jx2 p) (some [])
 (.go 3 (.ans (jx7 p) (nI 0) [] (.go 8 (.slot 18 (nI ((jxa p)-1)) (.ans [] (.bool (inB h 0 ((jxa p)-1))) [] (.go 1 (.gfork (.go 3 (.again [])) (.go 2 (.ans [(1,.cells true 1 (jxc p))] (.bool (seaB p.land c)) [] (.go 1 (.fork (.go 1 (.again [])) (.go 4 (.need (.go 0 (.val (jx9 p h) (.go 0 (.need (.val (jx8 p h c) (.go 2 (.need (.val (.bool (p.chan.getD c.toNat false)) (.ans [(0,.cells false 0 jx3),(4,.cells true 2 (p.shp.th.flatMap ptC)),(5,.cells true 2 (p.shp.wa.flatMap ptC)),(6,.cells true 2 (p.shp.ic.flatMap ptC))] (.tuple #[nI (sfP p c h),nI (sfE p c h)]) [] (.go 3 (.again []))))))))))))))))))))))))
 (newK ((jx2 p):HT).n 3 (.tuple #[nI (safV p c h),nI (safE p c h)]) [])=Rpsafe p c h:=by kernel_rfl
theorem nB1{b:Bool}(h:(!b)=true):b=false:=by simpa using h
theorem nB2{b:Bool}(h:(!b)=false):b=true:=by simpa using h
theorem kOptions{p:Pl}(e0:errPl p=0)(c t:Int){H:Heap}{l c' n t' w i:Nat}(a:PlAt H p l c' n t' w i) :
  KCall prog 12 [plV p l c' n t' w i,nI c,nI t] H [] (Is (.tuple #[.slice (some ⟨H.length,0,some 1⟩) (optL p c t).length (optL p c t).length,nI (optE p c t)]) (H ++ [.cells true 4 ((optL p c t).flatMap lgC)])):=by
 have o:=plOk e0
 have hbd:=o.bd
 refine valKs (fun j => .tuple #[.slice (some ⟨j,0,some 1⟩) (optL p c t).length (optL p c t).length,nI (optE p c t)]) (new:=[.cells true 4 ((optL p c t).flatMap lgC)]) (Eq.mpr (Eoptions p c t) ?_) (pOs_ok p) rfl ⟨⟨_,_,rfl,plainGL _ _⟩,trivial⟩ a.1 a.objs rfl (fun j=>rfl) rfl
 delta Roptions jx5 jx4 jx6 jx0 jxe jxc jxd jx3 nI slQ pt someR fk kbq c0q c1q
 refine ⟨?_,fun H' hn h=>kOpenN o.lst e0 hn rfl (plAt7 h),⟨rfl,trivial⟩,fun H' hn h=>kIs _ _ _ _ (by omega) h.1,fun q =>?_,fun q=>⟨trivial,fun H' hn h=>kRin _ _ _ (by omega),fun r =>?_,fun r =>?_⟩⟩
 ·repeat' first|exact trivial|refine ⟨rfl,?_⟩
 ·have hq:=nB1 q
  rw[show optL p c t=[] from if_pos hq,show optE p c t=1 from if_pos hq]
  repeat' first|exact trivial|exact rfl|exact wk_refl _|refine wks_cons ?_ ?_|exact wk_nil _ _ _ (.inl rfl)|refine wk_tupL ?_|refine ⟨rfl,?_⟩|apply And.intro
 ·have hq:=nB2 q
  have hr:=nB1 r
  rw[show optL p c t=[] from (if_neg (by rw[hq];decide)).trans (if_pos hr),show optE p c t=6 from (if_neg (by rw[hq];decide)).trans (if_pos hr)]
  repeat' first|exact trivial|exact rfl|exact wk_refl _|refine wks_cons ?_ ?_|exact wk_nil _ _ _ (.inl rfl)|refine wk_tupL ?_|refine ⟨rfl,?_⟩|apply And.intro
 ·have hq:=nB2 q
  have hr:=nB2 r
  have hs:=sea_in hq
  have ht:=inB_iff.1 hr
  rw[show optL p c t=lgP p c t from (if_neg (by rw[hq];decide)).trans (if_neg (by rw[hr];decide)),show optE p c t=0 from (if_neg (by rw[hq];decide)).trans (if_neg (by rw[hr];decide))]
  refine ⟨?_,fun H' hn h =>?_,fun r3 _ =>?_⟩
  ·repeat' first|exact trivial|refine ⟨rfl,?_⟩
  ·have k:=kCollect o hs.1 ht (K:=Memo.nil (sfP p)) (wkAt89 ⟨h.1,h.2.2.2.2.1,h.2.2.2.2.2⟩) (by decide) h.2.1 h.2.2.1 h.2.2.2.1
   rw[hn]at k
   exact k
  ·repeat' first|exact plainGL _ _|exact trivial|exact wk_refl _|refine ⟨rfl,?_⟩|apply And.intro
theorem kPSafe{p:Pl}(e0:errPl p=0)(c h:Int){H:Heap}{l c' n t' w i:Nat}(a:PlAt H p l c' n t' w i) :
  KCall prog 14 [plV p l c' n t' w i,nI c,nI h] H [] (Is (.tuple #[nI (safV p c h),nI (safE p c h)]) H):=by
 have o:=plOk e0
 have hbd:=o.bd
 have hct:=o.cts
 have hch:=o.chan
 have key:=valKs (fun _ => .tuple #[nI (safV p c h),nI (safE p c h)]) (new:=[]) (Eq.mpr (Epsafe p c h) ?_) (pOs_ok p) rfl trivial a.1 a.objs rfl (fun _=>rfl) (args':=[plV p l c' n t' w i,nI c,nI h]) rfl
 ·rwa [List.append_nil]at key
 delta Rpsafe jx5 jx4 jx6 jxa jxb jxc jx9 jx8 jx3 jx1 nI slQ someR fk nw ixq c0q c1q c4q
 refine ⟨?_,fun H' _ k=>e0 ▸ kCheck p o.lst k.2.1 k.2.2.1 k.2.2.2.1 k.2.2.2.2.1 k.2.2.2.2.2.1 k.2.2.2.2.2.2.1,vI64 (by omega),trivial,fun H' hn _=>kRin _ _ _ (by omega),fun q =>?_,fun q=>⟨⟨rfl,trivial⟩,fun H' hn k=>kIs _ _ _ _ (by omega) k.1,fun r =>?_,fun r =>?_⟩⟩
 ·repeat' first|exact trivial|refine ⟨rfl,?_⟩
 ·have hq:=nB1 q
  rw[show safV p c h=0 from if_pos hq,show safE p c h=1 from if_pos hq]
  repeat' first|exact trivial|exact wk_refl _|refine ⟨rfl,?_⟩|apply And.intro
 ·have hq:=nB2 q
  have hr:=nB1 r
  rw[show safV p c h=0 from (if_neg (by rw[hq];decide)).trans (if_pos hr),show safE p c h=1 from (if_neg (by rw[hq];decide)).trans (if_pos hr)]
  repeat' first|exact trivial|exact wk_refl _|refine ⟨rfl,?_⟩|apply And.intro
 ·have hq:=nB2 q
  have hr:=nB2 r
  have hs:=sea_in hr
  have hh:=inB_iff.1 hq
  have ch:=o.chart (i:=Int.toNat h) (by omega)
  rw[show safV p c h=sfP p c h from (if_neg (by rw[hq];decide)).trans (if_neg (by rw[hr];decide)),show safE p c h=sfE p c h from (if_neg (by rw[hq];decide)).trans (if_neg (by rw[hr];decide))]
  refine ⟨by omega,cell_at (c:=3) (d:=zCh) chC_len (by omega) (by omega) rfl,by rw[ch.len];omega,partCell (by rw[ch.len];omega) rfl,by omega,boolAt (by omega) (by omega),⟨rfl,rfl,rfl,rfl,trivial⟩,fun H' _ k =>?_,?_⟩
  ·exact kHSafe p.shp o.lst.shp _ _ ⟨by decide,k.1,k.2.1,k.2.2.1,k.2.2.2.1⟩
  ·repeat' first|exact trivial|exact wk_refl _|refine ⟨rfl,?_⟩|apply And.intro
def Rcont(sp:Value)(l:List Int)(x:Int):Prop :=
 (lq (0<=List.length l/\∀jz:Nat,jz<0->(List.getD l jz 0 == x)=false) (true=true/\((nI 0:Value)=nI ((0:Nat):Int)/\eR (nI x)/\wR (slQ 1 1 l.length)/\eR (nI ((l.length:Nat):Int))/\True)/\(True)/\(True)/\True) (∀x0:Nat,(x0<=List.length l/\∀jz:Nat,jz<x0->(List.getD l jz 0 == x)=false)->(fk (decide (((x0:Int):Int)<((l.length:Nat):Int))) ((ixq (x0:Int) l.length)/\((l.flatMap intC)[(0+Int.toNat (x0:Int)*1)]?=some (nI (l.getD x0 0)))/\fk ((x:Int) == (l.getD x0 0)) ((.bool (decide ((0:Int)<=(x0:Int))):Value)=sp) (nw ((x0:Int)+1) (∃x0':Nat,(x0'<=List.length l/\∀jz:Nat,jz<x0'->(List.getD l jz 0 == x)=false)/\(List.length l-x0')<(List.length l-x0)/\true=true/\((nI ((x0:Int)+1):Value)=nI (x0':Int)/\eR (nI x)/\wR (slQ 1 1 l.length)/\eR (nI ((l.length:Nat):Int))/\True)/\(True)/\(True)/\True))) ((.bool false:Value)=sp))))
theorem Econt(sp:Value)(l:List Int)(x:Int):vF prog msk (dm 0) 100000 true 40 true 90 [slQ 1 1 l.length,nI x] (readsK [.cells false 0 [nI 4000,nI 8000,nI 14000,nI 24000,nI 40000,nI 90000],.cells true 1 (l.flatMap intC)]) (some [])
 (.go 7 (.inv 3 (Nat) (0) [] [] (fun x0=>[(8,nI (x0:Int)),(1,nI x),(0,slQ 1 1 l.length),(7,nI ((l.length:Nat):Int))]) (fun x0=>[]) (fun x0=>[]) (fun x0=>[]) (fun x0=>(x0<=List.length l/\∀jz:Nat,jz<x0->(List.getD l jz 0 == x)=false)) (fun x0=>(List.length l-x0)) (fun x0 => .go 0 (.fork (.go 4 (.need (.val (nI (l.getD x0 0)) (.go 0 (.fork (.auto) (.go 0 (.slot 18 (nI ((x0:Int)+1)) (.go 0 (.again []))))))))) (.auto)))))
 (fun v _ _=>v=sp)=Rcont sp l x:=by kernel_rfl
theorem ctI_all{l:List Int}{x:Int}(h:∀j,j<l.length->(l.getD j 0 == x)=false):ctI l x=false:=by
 unfold ctI
 rw[List.any_eq_false]
 intro y hy
 obtain ⟨j,hj,rfl⟩:=List.getElem_of_mem hy
 have:=h j hj
 rw[List.getD_eq_getElem?_getD,List.getElem?_eq_getElem hj]at this
 have e:(l[j] == x)=false:=this
 rw[e];decide
theorem kCont{l:List Int}(x:Int)(hl:l.length<=1000000){H:Heap}{L:Nat}(hnd:[0,L].Nodup)(h0:H[0]?=some strO)(h1:H[L]?=some (.cells true 1 (l.flatMap intC))) :
  KCall prog 90 [slQ L 1 l.length,nI x] H [] (Is (.bool (ctI l x)) H):=by
 have i1:rnoOk 3 (.cells true 1 (l.flatMap intC))=true:=(rnCl (σ:=fun _=>none) (d:=0) (plainIL 0 l)).2
 have i2:∀σ,rno σ 3 (.cells true 1 (l.flatMap intC)) = .cells true 1 (l.flatMap intC):=fun σ=>congrArg (KObj.cells true 1) (rnCl (d:=0) (plainIL 0 l)).1
 refine valV (os:=[strO,.cells true 1 (l.flatMap intC)]) (ids:=[0,L]) (Eq.mpr (Econt _ l x) ?_)
  (by show (rnoOk 3 strO&&(rnoOk 3 (.cells true 1 (l.flatMap intC))&&true))=true;rw[i1];rfl) rfl rfl (fun _=>rfl) hnd ⟨h0,by rw[i2];exact h1,trivial⟩ rfl rfl
 delta Rcont nI slQ fk nw eR wR ixq lq
 refine ⟨rfl,⟨Nat.zero_le _,fun j hj=>absurd hj (Nat.not_lt_zero j)⟩,⟨rfl,?_⟩,fun _=>rfl,fun x0 hx0=>⟨fun q =>?_,fun q =>?_⟩⟩
 ·repeat' first|exact trivial|exact wk_refl _|refine ⟨rfl,?_⟩|refine ⟨trivial,?_⟩|apply And.intro
 ·have hx:=of_decide_eq_true q
  have hx':x0<l.length:=by omega
  refine ⟨by omega,intAt hx' (by omega),fun r =>?_,fun r =>?_⟩
  ·have e:ctI l x=true:=by
    unfold ctI
    rw[List.any_eq_true]
    exact ⟨l.getD x0 0,getD_mem hx',Bool.beq_comm.symm.trans r⟩
   rw[e,decide_eq_true (by omega)]
  ·refine ⟨vI64 (by omega),x0+1,⟨by omega,fun j hj =>?_⟩,by omega,rfl,?_⟩
   ·by_cases e:j=x0
    ·rw[e];exact Bool.beq_comm.symm.trans r
    ·exact hx0.2 j (by omega)
   ·repeat' first|exact trivial|exact wk_refl _|refine ⟨rfl,?_⟩|refine ⟨trivial,?_⟩|apply And.intro
 ·have hx:=of_decide_eq_false q
  rw[ctI_all fun j hj=>hx0.2 j (by omega)]
abbrev jze(l:List Leg):Int:=(l.length:Nat)
abbrev jz8(p:Pl)(l:List Leg):=rn (sg 10 []) 3 (.tuple #[nI (accT p l),nI (accM p l),nI (accE p l)]:Value)
abbrev jzc(p:Pl)(K0:Memo (sfP p)):Nat×Memo (sfP p):=(0,K0)
abbrev jza(l:List Leg)(p:Pl)(x0:Nat×Memo (sfP p)):=l.getD x0.1 zL
abbrev jz6:List Value:=[nI 4000,nI 8000,nI 14000,nI 24000,nI 40000,nI 90000]
abbrev jz0(p:Pl):List Value:=[nI p.w,nI p.h,slQ 1 2 p.land.length,slQ 2 2 p.cts.length,slQ 3 2 p.chan.length,nI p.shp.cls,nI p.shp.pow,nI p.shp.dra,nI p.shp.ton,slQ 4 2 p.shp.th.length,slQ 5 2 p.shp.wa.length,slQ 6 2 p.shp.ic.length,nI p.shp.slow,nI p.shp.brash,nI p.shp.rdg,nI p.shp.prs,nI p.size,nI p.frm,nI p.to,nI (endP p),.map (some 8)]
abbrev jz3(p:Pl)(x0:Nat×Memo (sfP p)):Prop:=(someR (.cells false 0 jz6))/\(someR (.cells true 0 (jz0 p)))/\(someR (.cells true 1 (p.land.flatMap boolC)))/\(someR (.cells false 0 (p.cts.flatMap chC)))/\(someR (.cells true 1 (p.chan.flatMap boolC)))/\(someR (.cells true 2 (p.shp.th.flatMap ptC)))/\(someR (.cells true 2 (p.shp.wa.flatMap ptC)))/\(someR (.cells true 2 (p.shp.ic.flatMap ptC)))/\(someR (.map (knE x0.2.1)))/\True
abbrev jz2(H':Heap)(p:Pl)(x0:Nat×Memo (sfP p)):Prop:=H'[0]?=some (.cells false 0 jz6:KObj)/\H'[7]?=some (.cells true 0 (jz0 p):KObj)/\H'[1]?=some (.cells true 1 (p.land.flatMap boolC):KObj)/\H'[2]?=some (.cells false 0 (p.cts.flatMap chC):KObj)/\H'[3]?=some (.cells true 1 (p.chan.flatMap boolC):KObj)/\H'[4]?=some (.cells true 2 (p.shp.th.flatMap ptC):KObj)/\H'[5]?=some (.cells true 2 (p.shp.wa.flatMap ptC):KObj)/\H'[6]?=some (.cells true 2 (p.shp.ic.flatMap ptC):KObj)/\H'[8]?=some (.map (knE x0.2.1):KObj)/\True
abbrev jz1(p:Pl)(l:List Leg)(x0:Nat×Memo (sfP p)):Prop:=∃x:Memo (sfP p),True/\(true=true/\wk (.tuple #[nI 0,nI 0,nI 50]:Value) (jz8 p l)/\((kbq 10 (.map (knE x0.2.1)) (.map (knE x.1)))/\True)/\(True))
abbrev jzd(p:Pl)(r5:Memo (sfP p)):Nat×Memo (sfP p):=(0,r5)
abbrev jzb(l:List Leg)(p:Pl)(x0:Nat×Memo (sfP p)):Prop:=eR (nI (jze l))/\wR (slQ 9 2 l.length)/\eR (pt 7)/\eR (nI (acT l x0.1))/\eR (nI (acC p l x0.1))/\eR (nI ((x0.1:Nat):Int))/\eR (pt 10)/\True
abbrev jz5(p:Pl)(l:List Leg)(x0:Nat×Memo (sfP p))(x6:Nat×Memo (sfP p)):=sfP p (jza l p x0).to (Int.tdiv ((jza l p x0).dep+((x6.1:Nat):Int)) 6)
def Raccept(p:Pl)(l:List Leg)(K0:Memo (sfP p)):Prop :=
 (fk (decide ((300:Int)<(jze l))) (∃x:Memo (sfP p),True/\true=true/\wk (.tuple #[nI 0,nI 0,nI 2]:Value) (jz8 p l)/\((kbq 10 (.map (knE K0.1)) (.map (knE x.1)))/\True)/\True) (true=true/\((jzc p K0).1<=List.length l/\errUp (acU p l) (jzc p K0).1=0)/\(true=true/\((nI 0:Value)=nI (((jzc p K0).1:Nat):Int)/\(nI p.frm:Value)=nI (acC p l (jzc p K0).1)/\(nI 0:Value)=nI (acT l (jzc p K0).1)/\(nI 250:Value)=nI (acM p l (jzc p K0).1)/\eR (pt 7)/\wR (slQ 9 2 l.length)/\eR (nI (jze l))/\True)/\((kbq 10 (.map (knE K0.1)) (.map (knE (jzc p K0).2.1)))/\True)/\(True)/\True)/\(∀x0:Nat×Memo (sfP p),true=true)/\∀x0:Nat×Memo (sfP p),(x0.1<=List.length l/\errUp (acU p l) x0.1=0)->(fk (decide ((((x0.1:Nat):Int):Int)<(jze l))) ((ixq ((x0.1:Nat):Int) l.length)/\(partA 4 (l.flatMap lgC) (0+Int.toNat ((x0.1:Nat):Int)*4)=some (.agg #[nI (jza l p x0).to,nI (jza l p x0).dep,nI (jza l p x0).spd,nI (jza l p x0).arr]))/\(jz3 p x0)/\(∀H':Heap,H'.length=11->(jz2 H' p x0)->KCall prog 53 [pt 7,nI (acC p l x0.1)] H' [] (Is (slQ 11 1 (bsP p (acC p l x0.1)).length) (H' ++ [(.cells true 1 ((bsP p (acC p l x0.1)).flatMap intC):KObj)])))/\c2q 12 0 (.cells false 0 jz6) 11 (.cells true 1 ((bsP p (acC p l x0.1)).flatMap intC)) 90 [slQ 11 1 (bsP p (acC p l x0.1)).length,nI (jza l p x0).to] (.bool (ctI (bsP p (acC p l x0.1)) (jza l p x0).to)) (fk (!(ctI (bsP p (acC p l x0.1)) (jza l p x0).to)) (jz1 p l x0) (fk (decide (((jza l p x0).dep:Int)<(acT l x0.1))) (jz1 p l x0) (c0q 12 44 [nI (jza l p x0).spd,nI 10,nI 250] (.bool (inB (jza l p x0).spd 10 250)) (fk (!(inB (jza l p x0).spd 10 250)) (jz1 p l x0) (fk (decide (((jza l p x0).arr:Int)<(jza l p x0).dep)) (jz1 p l x0) (nw ((jza l p x0).arr-(jza l p x0).dep) ((jz3 p x0)/\(∀H':Heap,H'.length=12->(jz2 H' p x0)->KCall prog 86 [pt 7,nI (jza l p x0).spd] H' [] (Is (nI (tkP p (jza l p x0).spd)) H'))/\fk ((((jza l p x0).arr-(jza l p x0).dep):Int) != (tkP p (jza l p x0).spd)) (jz1 p l x0) (fk (decide (((endP p):Int)<(jza l p x0).arr)) (∃x:Memo (sfP p),True/\true=true/\wk (.tuple #[nI 0,nI 0,nI 12]:Value) (jz8 p l)/\((kbq 10 (.map (knE x0.2.1)) (.map (knE x.1)))/\True)/\True) ((jz3 p x0)/\(∀H':Heap,H'.length=12->(jz2 H' p x0)->KCall prog 57 [pt 7,nI (acC p l x0.1),nI (acT l x0.1),nI (jza l p x0).dep] H' [8] (fun y H2 => ∃z:Memo (sfP p),True/\y = .bool (wtB p (acC p l x0.1) (acT l x0.1) (jza l p x0).dep)/\H2=(List.set H' 8 (.map (knE z.1):KObj))))/\∀r5:Memo (sfP p),True->(fk (!(wtB p (acC p l x0.1) (acT l x0.1) (jza l p x0).dep)) (∃x:Memo (sfP p),True/\true=true/\wk (.tuple #[nI 0,nI 0,nI 51]:Value) (jz8 p l)/\((kbq 10 (.map (knE r5.1)) (.map (knE x.1)))/\True)/\True) (true=true/\((jzd p r5).1<=lgN (jza l p x0)/\mgOk p (jza l p x0) (jzd p r5).1=true)/\(true=true/\((nI (jza l p x0).dep:Value)=nI ((jza l p x0).dep+(((jzd p r5).1:Nat):Int))/\(nI (acM p l x0.1):Value)=nI (mgTo p (jza l p x0) (acM p l x0.1) (jzd p r5).1)/\jzb l p x0)/\((kbq 12 (.map (knE r5.1)) (.map (knE (jzd p r5).2.1)))/\True)/\(True)/\True)/\(∀x6:Nat×Memo (sfP p),true=true)/\∀x6:Nat×Memo (sfP p),(x6.1<=lgN (jza l p x0)/\mgOk p (jza l p x0) x6.1=true)->(fk (decide ((((jza l p x0).dep+((x6.1:Nat):Int)):Int)<(jza l p x0).arr)) (((someR (.cells false 0 jz6))/\(someR (.cells true 0 (jz0 p)))/\(someR (.cells true 1 (p.land.flatMap boolC)))/\(someR (.cells false 0 (p.cts.flatMap chC)))/\(someR (.cells true 1 (p.chan.flatMap boolC)))/\(someR (.cells true 2 (p.shp.th.flatMap ptC)))/\(someR (.cells true 2 (p.shp.wa.flatMap ptC)))/\(someR (.cells true 2 (p.shp.ic.flatMap ptC)))/\(someR (.map (knE x6.2.1)))/\True)/\(∀H':Heap,H'.length=12->(H'[0]?=some (.cells false 0 jz6:KObj)/\H'[7]?=some (.cells true 0 (jz0 p):KObj)/\H'[1]?=some (.cells true 1 (p.land.flatMap boolC):KObj)/\H'[2]?=some (.cells false 0 (p.cts.flatMap chC):KObj)/\H'[3]?=some (.cells true 1 (p.chan.flatMap boolC):KObj)/\H'[4]?=some (.cells true 2 (p.shp.th.flatMap ptC):KObj)/\H'[5]?=some (.cells true 2 (p.shp.wa.flatMap ptC):KObj)/\H'[6]?=some (.cells true 2 (p.shp.ic.flatMap ptC):KObj)/\H'[8]?=some (.map (knE x6.2.1):KObj)/\True)->KCall prog 85 [pt 7,nI (jza l p x0).to,nI ((jza l p x0).dep+((x6.1:Nat):Int))] H' [8] (fun y H2 => ∃z:Memo (sfP p),True/\y=nI (jz5 p l x0 x6)/\H2=(List.set H' 8 (.map (knE z.1):KObj))))/\∀r7:Memo (sfP p),True->(nw ((jz5 p l x0 x6)-(jza l p x0).spd) (fk (decide ((((jz5 p l x0 x6)-(jza l p x0).spd):Int)<0)) (∃x:Memo (sfP p),True/\true=true/\wk (.tuple #[nI 0,nI 0,nI 51]:Value) (jz8 p l)/\((kbq 10 (.map (knE r7.1)) (.map (knE x.1)))/\True)/\True) (nw (((jza l p x0).dep+((x6.1:Nat):Int))+1) (∃x6':Nat×Memo (sfP p),(x6'.1<=lgN (jza l p x0)/\mgOk p (jza l p x0) x6'.1=true)/\(lgN (jza l p x0)-x6'.1)<(lgN (jza l p x0)-x6.1)/\true=true/\((nI (((jza l p x0).dep+((x6.1:Nat):Int))+1):Value)=nI ((jza l p x0).dep+((x6'.1:Nat):Int))/\(nI (if (((jz5 p l x0 x6)-(jza l p x0).spd):Int)<(mgTo p (jza l p x0) (acM p l x0.1) x6.1) then (((jz5 p l x0 x6)-(jza l p x0).spd):Int) else (mgTo p (jza l p x0) (acM p l x0.1) x6.1)):Value)=nI (mgTo p (jza l p x0) (acM p l x0.1) x6'.1)/\jzb l p x0)/\((kbq 12 (.map (knE r7.1)) (.map (knE x6'.2.1)))/\True)/\(True)/\True))))) (nw (((x0.1:Nat):Int)+1) (∃x0':Nat×Memo (sfP p),(x0'.1<=List.length l/\errUp (acU p l) x0'.1=0)/\(List.length l-x0'.1)<(List.length l-x0.1)/\true=true/\((nI (((x0.1:Nat):Int)+1):Value)=nI ((x0'.1:Nat):Int)/\(nI (jza l p x0).to:Value)=nI (acC p l x0'.1)/\(nI (jza l p x0).arr:Value)=nI (acT l x0'.1)/\(nI (mgTo p (jza l p x0) (acM p l x0.1) x6.1):Value)=nI (acM p l x0'.1)/\eR (pt 7)/\wR (slQ 9 2 l.length)/\eR (nI (jze l))/\True)/\((kbq 10 (.map (knE x6.2.1)) (.map (knE x0'.2.1)))/\True)/\(True)/\True))))))))))))))) (fk (((acC p l x0.1):Int) != p.to) (jz1 p l x0) (∃x:Memo (sfP p),True/\true=true/\wk (.tuple #[nI (acT l x0.1),nI (acM p l x0.1),nI 0]:Value) (jz8 p l)/\((kbq 10 (.map (knE x0.2.1)) (.map (knE x.1)))/\True)/\True)))))
abbrev jz7(p:Pl)(K0:Memo (sfP p))(l:List Leg):=readsK [.cells false 0 jz6,.cells true 1 (p.land.flatMap boolC),.cells false 0 (p.cts.flatMap chC),.cells true 1 (p.chan.flatMap boolC),.cells true 2 (p.shp.th.flatMap ptC),.cells true 2 (p.shp.wa.flatMap ptC),.cells true 2 (p.shp.ic.flatMap ptC),.cells true 0 (jz0 p),.map (knE K0.1),.cells true 4 (l.flatMap lgC)]
abbrev jz9:Hint:=.keep (.again [])
abbrev jz4(p:Pl)(x0:Nat×Memo (sfP p)):List (Nat×KObj):=[(0,.cells false 0 jz6),(7,.cells true 0 (jz0 p)),(1,.cells true 1 (p.land.flatMap boolC)),(2,.cells false 0 (p.cts.flatMap chC)),(3,.cells true 1 (p.chan.flatMap boolC)),(4,.cells true 2 (p.shp.th.flatMap ptC)),(5,.cells true 2 (p.shp.wa.flatMap ptC)),(6,.cells true 2 (p.shp.ic.flatMap ptC)),(8,.map (knE x0.2.1))]
theorem Eaccept(p:Pl)(l:List Leg)(K0:Memo (sfP p)):vF prog msk (dm 0) 100000 true 40 true 49 [pt 7,slQ 9 2 l.length] (jz7 p K0 l) (some [8])
 (.go 5 (.fork (.go 2 jz9) (.go 10 (.inv 3 (Nat×Memo (sfP p)) ((jzc p K0)) [] [8] (fun x0=>[(24,nI ((x0.1:Nat):Int)),(7,nI (acC p l x0.1)),(8,nI (acT l x0.1)),(9,nI (acM p l x0.1)),(0,pt 7),(22,slQ 9 2 l.length),(23,nI (jze l))]) (fun x0=>[(8,true,.map (knE x0.2.1))]) (fun x0=>[]) (fun x0=>[]) (fun x0=>(x0.1<=List.length l/\errUp (acU p l) x0.1=0)) (fun x0=>(List.length l-x0.1)) (fun x0 => .go 0 (.fork (.need (.val (.agg #[nI (jza l p x0).to,nI (jza l p x0).dep,nI (jza l p x0).spd,nI (jza l p x0).arr]) (.go 5 (.ans (jz4 p x0) (slQ 11 1 (bsP p (acC p l x0.1)).length) [.cells true 1 ((bsP p (acC p l x0.1)).flatMap intC)] (.ans [(0,.cells false 0 jz6),(11,.cells true 1 ((bsP p (acC p l x0.1)).flatMap intC))] (.bool (ctI (bsP p (acC p l x0.1)) (jza l p x0).to)) [] (.go 1 (.gfork (.go 11 jz9) (.go 5 (.gfork (.go 9 jz9) (.go 1 (.ans [] (.bool (inB (jza l p x0).spd 10 250)) [] (.go 2 (.gfork (.go 7 jz9) (.go 6 (.gfork (.go 5 jz9) (.go 4 (.slot 60 (nI ((jza l p x0).arr-(jza l p x0).dep)) (.go 2 (.ans (jz4 p x0) (nI (tkP p (jza l p x0).spd)) [] (.go 2 (.fork (.go 2 jz9) (.go 7 (.fork (.go 2 jz9) (.go 4 (.anse (jz4 p x0) [8] (Memo (sfP p)) (fun r5=>True) (fun r5 => .bool (wtB p (acC p l x0.1) (acT l x0.1) (jza l p x0).dep)) (fun r5=>[(8,.map (knE r5.1))]) (fun r5=>[]) (fun r5 => .go 1 (.fork (.go 2 jz9) (.go 2 (.inv 3 (Nat×Memo (sfP p)) ((jzd p r5)) [] [8] (fun x6=>[(12,nI ((jza l p x0).dep+((x6.1:Nat):Int))),(9,nI (mgTo p (jza l p x0) (acM p l x0.1) x6.1)),(23,nI (jze l)),(22,slQ 9 2 l.length),(0,pt 7),(8,nI (acT l x0.1)),(7,nI (acC p l x0.1)),(24,nI ((x0.1:Nat):Int)),(11,pt 10)]) (fun x6=>[(8,true,.map (knE x6.2.1))]) (fun x6=>[]) (fun x6=>[]) (fun x6=>(x6.1<=lgN (jza l p x0)/\mgOk p (jza l p x0) x6.1=true)) (fun x6=>(lgN (jza l p x0)-x6.1)) (fun x6 => .go 3 (.fork (.go 5 (.anse [(0,.cells false 0 jz6),(7,.cells true 0 (jz0 p)),(1,.cells true 1 (p.land.flatMap boolC)),(2,.cells false 0 (p.cts.flatMap chC)),(3,.cells true 1 (p.chan.flatMap boolC)),(4,.cells true 2 (p.shp.th.flatMap ptC)),(5,.cells true 2 (p.shp.wa.flatMap ptC)),(6,.cells true 2 (p.shp.ic.flatMap ptC)),(8,.map (knE x6.2.1))] [8] (Memo (sfP p)) (fun r7=>True) (fun r7=>nI (jz5 p l x0 x6)) (fun r7=>[(8,.map (knE r7.1))]) (fun r7=>[]) (fun r7 => .go 0 (.slot 98 (nI ((jz5 p l x0 x6)-(jza l p x0).spd)) (.go 2 (.fork (.go 2 jz9) (.go 5 (.slot 90 (nI (((jza l p x0).dep+((x6.1:Nat):Int))+1)) (.go 0 (.again [])))))))))) (.go 6 (.slot 108 (nI (((x0.1:Nat):Int)+1)) (.go 0 (.again []))))))))))))))))))))))))))))))))))) (.go 6 (.fork (.go 2 jz9) (.go 4 jz9)))))))))
 (newKWE (α:=Memo (sfP p)) ((jz7 p K0 l):HT).n 3 [8] (fun x=>True) (fun x => .tuple #[nI (accT p l),nI (accM p l),nI (accE p l)]) (fun x=>[(8,true,.map (knE x.1))]) (fun x=>[]))=Raccept p l K0:=by kernel_rfl
theorem bsG_bd(f:Int->Bool):∀(n:Nat) (lo hi:Int),lo<=hi->lo<=bsG f n lo hi/\bsG f n lo hi<=hi
 |0,lo,hi,h=>⟨Int.le_refl _,h⟩
 |n+1,lo,hi,h=>by
  unfold bsG
  by_cases q:lo<hi
  ·rw[if_pos q]
   have hd:0<=Int.tdiv (hi-lo+1) 2/\Int.tdiv (hi-lo+1) 2<=hi-lo/\1<=Int.tdiv (hi-lo+1) 2:=by
    rw[Int.tdiv_eq_ediv_of_nonneg (by omega)];omega
   by_cases g:f (lo+Int.tdiv (hi-lo+1) 2)=true
   ·rw[if_pos g]
    have:=bsG_bd f n (lo+Int.tdiv (hi-lo+1) 2) hi (by omega)
    omega
   ·rw[if_neg g]
    have:=bsG_bd f n lo (lo+Int.tdiv (hi-lo+1) 2-1) (by omega)
    omega
  ·rw[if_neg q];exact ⟨Int.le_refl _,h⟩
theorem go_bd(s:Shp)(x:Ice)(ch:Bool):0<=(goS s x ch).1/\(goS s x ch).1<=250:=by
 unfold goS grG
 split
 ·have:=bsG_bd (mbB s x ch) (Int.toNat (250-10)) 10 250 (by omega)
  exact ⟨by omega,this.2⟩
 ·exact ⟨Int.le_refl _,by decide⟩
theorem sf_bd(p:Pl)(c t:Int):0<=sfP p c t/\sfP p c t<=250:=by
 unfold sfP sfX
 split
 ·split
  ·unfold sfS
   split
   ·exact ⟨Int.le_refl _,by decide⟩
   ·split
    ·exact ⟨Int.le_refl _,by decide⟩
    ·exact go_bd _ _ _
  ·exact ⟨Int.le_refl _,(by decide:(0:Int)<=250)⟩
 ·exact ⟨Int.le_refl _,(by decide:(0:Int)<=250)⟩
theorem acE_0{p:Pl}{c t:Int}{x:Leg}(h:acE p c t x=0):acB p c t x=true/\x.arr<=endP p/\wtB p c t x.dep=true/\mgOk p x (lgN x)=true:=by
 unfold acE at h
 by_cases a:acB p c t x=false
 ·rw[if_pos a]at h;exact absurd h (by decide)
 rw[if_neg a]at h
 by_cases b:endP p<x.arr
 ·rw[if_pos b]at h;exact absurd h (by decide)
 rw[if_neg b]at h
 by_cases d:wtB p c t x.dep=false
 ·rw[if_pos d]at h;exact absurd h (by decide)
 rw[if_neg d]at h
 by_cases e:mgOk p x (lgN x)=false
 ·rw[if_pos e]at h;exact absurd h (by decide)
 exact ⟨by simpa using a,Int.not_lt.1 b,by simpa using d,by simpa using e⟩
theorem acE_is{p:Pl}{c t:Int}{x:Leg}(h1:acB p c t x=true)(h2:x.arr<=endP p)(h3:wtB p c t x.dep=true)(h4:mgOk p x (lgN x)=true):acE p c t x=0:=by
 unfold acE
 rw[if_neg (by rw[h1];decide),if_neg (by omega),if_neg (by rw[h3];decide),if_neg (by rw[h4];decide)]
theorem acB_iff{p:Pl}{c t:Int}{x:Leg}:acB p c t x=true ↔ ctI (bsP p c) x.to=true/\t<=x.dep/\inB x.spd 10 250=true/\x.dep<=x.arr/\x.arr-x.dep=tkP p x.spd:=by
 unfold acB;simp only[Bool.and_eq_true,Bool.not_eq_true',decide_eq_false_iff_not,beq_iff_eq,Int.not_lt]
theorem acB_no{p:Pl}{c t:Int}{x:Leg}(h:¬ (ctI (bsP p c) x.to=true/\t<=x.dep/\inB x.spd 10 250=true/\x.dep<=x.arr/\x.arr-x.dep=tkP p x.spd)):acB p c t x=false:=by
 cases e:acB p c t x
 ·rfl
 ·exact absurd (acB_iff.1 e) h
theorem ctI_mem{l:List Int}{x:Int}(h:ctI l x=true):x∈l:=by
 unfold ctI at h
 rw[List.any_eq_true]at h
 obtain ⟨y,hy,e⟩:=h
 rw[<- eq_of_beq e];exact hy
theorem errUp_z{e:Nat->Int}:∀{n:Nat},(∀i,i<n->e i=0)->errUp e n=0
 |0,_=>rfl
 |n+1,h=>errUp_succ (errUp_z fun i hi=>h i (by omega)) (h n (by omega))
theorem acS{p:Pl}(o:PlOk p){l:List Leg}:∀{k:Nat},errUp (acU p l) k=0->(0<=acC p l k/\acC p l k<(p.land.length:Int))/\0<=acT l k
 |0,_=>⟨(sea_in o.frm).1,Int.le_refl 0⟩
 |k+1,h=>by
  have ih:=acS o (l:=l) (k:=k) (errUp_z fun i hi=>errUp_all h i (by omega))
  have e:=acE_0 (errUp_all h k (Nat.lt_succ_self k))
  have b:=acB_iff.1 e.1
  refine ⟨(bs_mem o ih.1 (ctI_mem b.1)).1,?_⟩
  show 0<=(l.getD k zL).arr
  have:=b.2.1;have:=b.2.2.2.1;have:=ih.2
  omega
theorem acc_bad{p:Pl}{l:List Leg}{k:Nat}(hl:l.length<=300)(h0:errUp (acU p l) k=0)(hk:k<l.length){v:Int}(hv:v≠0)(h:acU p l k=v):accT p l=0/\accM p l=0/\accE p l=v:=by
 have e:accE p l=v:=by
  unfold accE
  rw[if_neg (by omega),errUp_ne h0 (by rw[h];exact hv) hk,h,first2_1 hv]
 refine ⟨?_,?_,e⟩
 ·unfold accT;rw[e,if_neg hv]
 ·unfold accM;rw[e,if_neg hv]
theorem mgOk_succ{p:Pl}{x:Leg}{n:Nat}:mgOk p x (n+1)=(mgOk p x n && !decide (acD p x n<0)):=by
 unfold mgOk;rw[List.range_succ,List.all_append];simp
theorem mgOk_no{p:Pl}{x:Leg}{n k:Nat}(h:k<n)(e:decide (acD p x k<0)=true):mgOk p x n=false:=range_no h (by rw[e];rfl)
abbrev acOs(p:Pl)(K:Memo (sfP p))(l:List Leg):List KObj:=wOs p K ++ [.cells true 4 (l.flatMap lgC)]
theorem acOs_ok(p:Pl)(K:Memo (sfP p))(l:List Leg):(acOs p K l).all (rnoOk 3)=true:=by
 rw[List.all_append,wOs_ok]
 have i1:rnoOk 3 (.cells true 4 (l.flatMap lgC))=true:=(rnCl (σ:=fun _=>none) (d:=0) (plainGL 0 l)).2
 show (true&&(rnoOk 3 (.cells true 4 (l.flatMap lgC))&&true))=true
 rw[i1];rfl
theorem kAccept{p:Pl}(o:PlOk p){K:Memo (sfP p)}{l:List Leg}(hr:∀j,j<l.length->(l.getD j zL).arr<=9223372036854775807)(hl0:l.length<=1000000){H:Heap}{l' c' n t' w i W m L:Nat}(a:WkAt H p K l' c' n t' w i W m)
  (hnd:[0,l',c',n,t',w,i,W,m,L].Nodup) (h1:H[L]?=some (.cells true 4 (l.flatMap lgC))) :
  KCall prog 49 [pt W,slQ L 2 l.length] H [m] (fun y H2 => ∃z:Memo (sfP p),True/\y = .tuple #[nI (accT p l),nI (accM p l),nI (accE p l)]/\H2=H.set m (.map (knE z.1))):=by
 have i2:∀σ,rno σ 3 (.cells true 4 (l.flatMap lgC)) = .cells true 4 (l.flatMap lgC):=fun σ=>congrArg (KObj.cells true 4) (rnCl (d:=0) (plainGL 0 l)).1
 have hi:objsAt H (sgI [0,l',c',n,t',w,i,W,m,L]) [0,l',c',n,t',w,i,W,m,L] (acOs p K l):=by
  obtain ⟨_,a0,a1,a2,a3,a4,a5,a6,a7,a8⟩:=a
  exact ⟨a0,by rw[boolRno];exact a1,by rw[chRno];exact a2,by rw[boolRno];exact a3,by rw[ptRno];exact a4,by rw[ptRno];exact a5,by rw[ptRno];exact a6,a7,by rw[(plM K.1).rn];exact a8,by rw[i2];exact h1,trivial⟩
 have key:=valWE (α:=Memo (sfP p)) (I:=fun _=>True) (os:=acOs p K l) (fun _ _ => .tuple #[nI (accT p l),nI (accM p l),nI (accE p l)]) (chg:=fun x=>[(8,true,.map (knE x.1))]) (new:=fun _=>[]) (ks:=[8])
  (Eq.mpr (Eaccept p l K) ?_) (acOs_ok p K l) (fun k hk=>by obtain rfl:=List.mem_singleton.1 hk;exact ⟨_,rfl,rfl⟩) (fun _ _=>rfl) (fun x _=>⟨⟨List.mem_singleton.2 rfl,plM x.1⟩,trivial⟩) (fun _ _=>trivial) hnd hi rfl (fun _ _ _=>rfl) rfl (ms:=[m]) rfl
 ·refine key.post ?_
  rintro y H2 ⟨x,_,rfl,rfl⟩
  exact ⟨x,trivial,rfl,List.append_nil _⟩
 have hct:=o.cts
 have he:endP p<=288:=by unfold endP;omega
 delta Raccept jze jz8 jzc jza jz3 jz2 jz6 jz1 jzd jzb jz0 jz5 nI slQ pt someR fk nw eR wR kbq ixq c0q c2q
 refine ⟨fun q =>?_,fun q =>?_⟩
 ·have h:=of_decide_eq_true q
  have e:accE p l=2:=if_pos (by omega)
  have e1:accT p l=0:=by unfold accT;rw[e];rfl
  have e2:accM p l=0:=by unfold accM;rw[e];rfl
  rw[e,e1,e2]
  exact ⟨K,trivial,rfl,wk_refl _,⟨⟨rfl,knB _ _⟩,trivial⟩,trivial⟩
 have hl:l.length<=300:=by have:=of_decide_eq_false q;omega
 refine ⟨rfl,⟨Nat.zero_le _,rfl⟩,⟨rfl,⟨rfl,rfl,rfl,rfl,rfl,wk_refl _,rfl,trivial⟩,⟨⟨rfl,knB _ _⟩,trivial⟩,trivial,trivial⟩,fun _=>rfl,fun x hx=>⟨fun k =>?_,fun k =>?_⟩⟩
 ·have hk:x.1<l.length:=by have:=of_decide_eq_true k;omega
  have hs:=acS o hx.2
  have hra:=hr x.1 hk
  have bad:∀{v:Int} (z:Memo (sfP p)),v≠0->acU p l x.1=v->∃y:Memo (sfP p),True/\true=true/\wk (.tuple #[nI 0,nI 0,nI v]) (rn (sg 10 []) 3 (.tuple #[nI (accT p l),nI (accM p l),nI (accE p l)]))/\((some (KObj.map (knE z.1))=some (.map (knE y.1))/\belowO 10 (.map (knE y.1))=true)/\True)/\True:=by
   intro v z hv e
   obtain ⟨e1,e2,e3⟩:=acc_bad hl hx.2 hk hv e
   rw[e1,e2,e3]
   exact ⟨z,trivial,rfl,wk_refl _,⟨⟨rfl,knB _ _⟩,trivial⟩,trivial⟩
  have badB:(¬ (ctI (bsP p (acC p l x.1)) (l.getD x.1 zL).to=true/\acT l x.1<=(l.getD x.1 zL).dep/\inB (l.getD x.1 zL).spd 10 250=true/\(l.getD x.1 zL).dep<=(l.getD x.1 zL).arr/\(l.getD x.1 zL).arr-(l.getD x.1 zL).dep=tkP p (l.getD x.1 zL).spd))->acU p l x.1=50:=fun h=>if_pos (acB_no h)
  refine ⟨by omega,partLg hk (by omega),⟨rfl,rfl,rfl,rfl,rfl,rfl,rfl,rfl,rfl,trivial⟩,fun H' hn h=>hn ▸ kBeside o hs.1 (wkAt9 h),⟨rfl,rfl,trivial⟩,fun H' hn h=>kCont _ (Nat.le_trans (bsP_len _ _) (by decide)) (by decide) h.1 h.2.1,fun q1 =>?_,fun q1=>⟨fun q2 =>?_,fun q2=>⟨trivial,fun H' hn _=>kRin _ _ _ (by omega),fun q3 =>?_,fun q3=>⟨fun q4 =>?_,fun q4 =>?_⟩⟩⟩⟩
  ·exact bad _ (by decide) (badB fun h=>absurd (notB q1) (by rw[h.1];decide))
  ·exact bad _ (by decide) (badB fun h=>by have:=of_decide_eq_true q2;have:=h.2.1;omega)
  ·exact bad _ (by decide) (badB fun h=>absurd (notB q3) (by rw[h.2.2.1];decide))
  ·exact bad _ (by decide) (badB fun h=>by have:=of_decide_eq_true q4;have:=h.2.2.2.1;omega)
  have hc:=notB2 q1
  have hto:=(bs_mem o hs.1 (ctI_mem hc)).1
  have hd:=of_decide_eq_false q2
  have hsp:=inB_iff.1 (notB2 q3)
  have har:=of_decide_eq_false q4
  have hT:=hs.2
  refine ⟨vI64 (by omega),⟨rfl,rfl,rfl,rfl,rfl,rfl,rfl,rfl,rfl,trivial⟩,fun H' hn h=>kTakes o (by omega) (wkAt9 h),fun q5 =>?_,fun q5=>⟨fun q6 =>?_,fun q6 =>?_⟩⟩
  ·exact bad _ (by decide) (badB fun h=>neB2 q5 h.2.2.2.2)
  all_goals have hB:acB p (acC p l x.1) (acT l x.1) (l.getD x.1 zL)=true:=acB_iff.2 ⟨hc,by omega,notB2 q3,by omega,by simpa using q5⟩
  ·refine bad _ (by decide) ?_
   show acE _ _ _ _=12
   unfold acE
   rw[if_neg (by rw[hB];decide),if_pos (of_decide_eq_true q6)]
  have hen:=of_decide_eq_false q6
  refine ⟨⟨rfl,rfl,rfl,rfl,rfl,rfl,rfl,rfl,rfl,trivial⟩,fun H' hn h=>kWaits o hs.1 hT (by omega) (wkAt9 h),fun r5 _=>⟨fun q7 =>?_,fun q7 =>?_⟩⟩
  ·refine bad _ (by decide) ?_
   show acE _ _ _ _=51
   unfold acE
   rw[if_neg (by rw[hB];decide),if_neg hen,if_pos (notB q7)]
  refine ⟨rfl,⟨Nat.zero_le _,rfl⟩,⟨rfl,⟨iEq (by show _=_+((0:Nat):Int);omega),rfl,rfl,wk_refl _,rfl,rfl,rfl,rfl,rfl,trivial⟩,⟨⟨rfl,knB _ _⟩,trivial⟩,trivial,trivial⟩,fun _=>rfl,fun y hy=>⟨fun k2 =>?_,fun k2 =>?_⟩⟩
  ·have hk2:=of_decide_eq_true k2
   have hy1:y.1<lgN (l.getD x.1 zL):=by unfold lgN;omega
   have hb:=sf_bd p (l.getD x.1 zL).to (Int.tdiv ((l.getD x.1 zL).dep+(y.1:Int)) 6)
   refine ⟨⟨rfl,rfl,rfl,rfl,rfl,rfl,rfl,rfl,rfl,trivial⟩,fun H' hn h=>kSafe o hto (by omega) (wkAt9 h),fun r7 _=>⟨vI64 (by omega),fun q8 =>?_,fun q8 =>?_⟩⟩
   ·refine bad _ (by decide) ?_
    show acE _ _ _ _=51
    unfold acE
    rw[if_neg (by rw[hB];decide),if_neg hen,if_neg (by rw[notB2 q7];decide),if_pos (mgOk_no hy1 q8)]
   ·have hyl:y.1+1<=lgN (l.getD x.1 zL):=hy1
    refine ⟨vI64 (by omega),(y.1+1,r7),⟨hyl,by show mgOk p _ (y.1+1)=true;rw[mgOk_succ,hy.2,show decide (acD p (l.getD x.1 zL) y.1<0)=false from q8];rfl⟩,by show _-(y.1+1)<_-y.1;omega,rfl,⟨iEq (by show _=_+((y.1+1:Nat):Int);omega),rfl,rfl,wk_refl _,rfl,rfl,rfl,rfl,rfl,trivial⟩,⟨⟨rfl,knB _ _⟩,trivial⟩,trivial,trivial⟩
  ·have hk2:=of_decide_eq_false k2
   have hyl:y.1<=lgN (l.getD x.1 zL):=hy.1
   have hyn:y.1=lgN (l.getD x.1 zL):=by unfold lgN at hyl ⊢;omega
   refine ⟨vI64 (by omega),(x.1+1,y.2),⟨hk,errUp_succ hx.2 (acE_is hB (by omega) (notB2 q7) (hyn ▸ hy.2))⟩,by show _-(x.1+1)<_-x.1;omega,rfl,⟨rfl,rfl,rfl,by rw[hyn];rfl,rfl,wk_refl _,rfl,trivial⟩,⟨⟨rfl,knB _ _⟩,trivial⟩,trivial,trivial⟩
 ·have hk:=of_decide_eq_false k
  have hxl:x.1<=l.length:=hx.1
  have hn:x.1=l.length:=by omega
  have hu:=hx.2
  rw[hn]at hu
  have hE:accE p l=if acC p l l.length=p.to then 0 else 50:=by unfold accE;rw[if_neg (by omega),first2_2 hu]
  refine ⟨fun q1 =>?_,fun q1 =>?_⟩
  ·have e:accE p l=50:=hE.trans (if_neg (by rw[<- hn];exact neB2 q1))
   have e1:accT p l=0:=by unfold accT;rw[e];rfl
   have e2:accM p l=0:=by unfold accM;rw[e];rfl
   rw[e,e1,e2]
   exact ⟨x.2,trivial,rfl,wk_refl _,⟨⟨rfl,knB _ _⟩,trivial⟩,trivial⟩
  ·have e:accE p l=0:=hE.trans (if_pos (by rw[<- hn];simpa using q1))
   have e1:accT p l=acT l x.1:=by unfold accT;rw[e,hn];rfl
   have e2:accM p l=acM p l x.1:=by unfold accM;rw[e,hn];rfl
   rw[e,e1,e2]
   exact ⟨x.2,trivial,rfl,wk_refl _,⟨⟨rfl,knB _ _⟩,trivial⟩,trivial⟩
def GLe(G G':List (List Bool)):Prop:=∀t j:Nat,(G.getD t []).getD j false=true->(G'.getD t []).getD j false=true
theorem GLe.refl(G:List (List Bool)):GLe G G:=fun _ _ h=>h
theorem GLe.trans{A B C:List (List Bool)}(h:GLe A B)(g:GLe B C):GLe A C:=fun t j q=>g t j (h t j q)
theorem put1_le(G:List (List Bool))(a c:Int):GLe G (put1 G a c):=fun t j h=>by
 unfold put1
 by_cases ha:Int.toNat a<G.length
 ·rw[getD_set ha]
  by_cases e:t=Int.toNat a
  ·rw[if_pos e]
   by_cases hc:Int.toNat c<(G.getD (Int.toNat a) []).length
   ·rw[getD_set hc]
    by_cases f:j=Int.toNat c
    ·rw[if_pos f]
    ·rw[if_neg f,<- e];exact h
   ·rw[List.set_eq_of_length_le (by omega),<- e];exact h
  ·rw[if_neg e];exact h
 ·rw[List.set_eq_of_length_le (by omega)];exact h
theorem put1_at{G:List (List Bool)}{a c:Int}(ha:Int.toNat a<G.length)(hc:Int.toNat c<(G.getD (Int.toNat a) []).length):((put1 G a c).getD (Int.toNat a) []).getD (Int.toNat c) false=true:=by
 unfold put1
 rw[getD_set ha,if_pos rfl,getD_set hc,if_pos rfl]
theorem putLs_le:∀(l:List Leg) (G:List (List Bool)),GLe G (putLs G l)
 | [],G=>GLe.refl G
 |x :: l,G=>(put1_le G x.arr x.to).trans (putLs_le l (put1 G x.arr x.to))
theorem putLs_at{N n:Nat}:∀{l:List Leg} {G:List (List Bool)},GOk N n G->∀{x:Leg},x∈l->Int.toNat x.arr<N->Int.toNat x.to<n->((putLs G l).getD (Int.toNat x.arr) []).getD (Int.toNat x.to) false=true
 | [],_,_,_,h,_,_=>absurd h (by simp)
 |y :: l,G,g,x,h,ha,hc=>by
  rcases List.mem_cons.1 h with e|h
  ·subst e
   exact putLs_le l (put1 G x.arr x.to) _ _ (put1_at (by rw[g.gl];exact ha) (by rw[g.rl _ ha];exact hc))
  ·exact putLs_at (l:=l) (g.put1 y.arr y.to) h ha hc
theorem cSt_le(p:Pl)(t j:Nat)(G:List (List Bool)):GLe G (cSt p t j G):=by
 unfold cSt
 by_cases w:wtB p (j:Int) (t:Int) ((t:Int)+1)=true
 ·rw[if_pos w];exact (put1_le _ _ _).trans (putLs_le _ _)
 ·rw[if_neg w];exact putLs_le _ _
theorem cTo_step{p:Pl}{t:Nat}{G:List (List Bool)}(j:Nat):GLe (cTo p t G j) (cTo p t G (j+1)):=by
 show GLe _ (if _ then _ else _)
 by_cases q:(G.getD t []).getD j false=true
 ·rw[if_pos q];exact cSt_le _ _ _ _
 ·rw[if_neg q];exact GLe.refl _
theorem cTo_le{p:Pl}{t:Nat}{G:List (List Bool)}{i:Nat}:∀{j:Nat},i<=j->GLe (cTo p t G i) (cTo p t G j)
  | 0, h => by obtain rfl : i = 0 := by omega
               exact GLe.refl _
  | j + 1, h => by
    by_cases e:i=j+1
    · subst e;exact GLe.refl _
    · exact (cTo_le (j:=j) (by omega)).trans (cTo_step j)
theorem gTo_le{p:Pl}{a:Nat}:∀{b:Nat},a<=b->GLe (gTo p a) (gTo p b)
  | 0, h => by obtain rfl : a = 0 := by omega
               exact GLe.refl _
  | b + 1, h => by
    by_cases e:a=b+1
    · subst e;exact GLe.refl _
    · exact (gTo_le (b:=b) (by omega)).trans (cTo_le (i:=0) (Nat.zero_le _))
theorem cSt_row{p:Pl}{t j u:Nat}{G:List (List Bool)}(hu:u<=t):(cSt p t j G).getD u []=G.getD u []:=by
 have one:∀(G:List (List Bool)) (a c:Int),(t:Int)<a->(put1 G a c).getD u []=G.getD u []:=fun G a c ha=>by
  unfold put1
  by_cases h:Int.toNat a<G.length
  ·rw[getD_set h,if_neg (by omega)]
  ·rw[List.set_eq_of_length_le (by omega)]
 have many:∀(l:List Leg) (G:List (List Bool)),(∀x∈l,(t:Int)<x.arr)->(putLs G l).getD u []=G.getD u []:=fun l=>by
  induction l with
  |nil=>intro G _;rfl
  |cons x l ih =>
   intro G h
   exact (ih (put1 G x.arr x.to) fun y hy=>h y (List.mem_cons_of_mem _ hy)).trans (one G x.arr x.to (h x List.mem_cons_self))
 unfold cSt
 by_cases w:wtB p (j:Int) (t:Int) ((t:Int)+1)=true
 ·rw[if_pos w,many _ _ fun x hx=>(lgP_mem hx).2.2.1,one _ _ _ (by omega)]
 ·rw[if_neg w,many _ _ fun x hx=>(lgP_mem hx).2.2.1]
theorem cTo_row{p:Pl}{t u:Nat}{G:List (List Bool)}(hu:u<=t):∀j,(cTo p t G j).getD u []=G.getD u []
 |0=>rfl
 |j+1=>by
  show (if _ then _ else _:List (List Bool)).getD u []=_
  by_cases q:(G.getD t []).getD j false=true
  ·rw[if_pos q,cSt_row hu];exact cTo_row hu j
  ·rw[if_neg q];exact cTo_row hu j
theorem gTo_row{p:Pl}{u:Nat}:∀{k m:Nat},u<=k->k<=m->(gTo p m).getD u []=(gTo p k).getD u []
  | k, 0, _, h => by obtain rfl : k = 0 := by omega
                     rfl
  | k, m + 1, hu, h => by
    by_cases e:k=m+1
    · subst e;rfl
    · exact (cTo_row (by omega) _).trans (gTo_row (k:=k) (m:=m) hu (by omega))
theorem tb_step{p:Pl}(o:PlOk p){t j:Nat}(ht:(t:Int)<endP p)(hj:j<p.land.length)(h:((tbP p).getD t []).getD j false=true) :
  ∃G,GOk (NT p) p.chan.length G/\GLe (cSt p t j G) (tbP p):=by
 have hct:=o.cts
 have he:t+1<=Int.toNat (endP p):=by omega
 have h':((gTo p t).getD t []).getD j false=true:=by
  rw[<- gTo_row (p:=p) (u:=t) (k:=t) (m:=Int.toNat (endP p)) (Nat.le_refl _) (by omega)];exact h
 refine ⟨cTo p t (gTo p t) j,(GOk.gTo p t).cTo t j,?_⟩
 have hk:t<NT p:=by show t<Int.toNat (endP p+1);omega
 have hl:j+1<=((gTo p t).getD t []).length:=by rw[(GOk.gTo p t).rl t hk,o.chan];omega
 have e:cSt p t j (cTo p t (gTo p t) j)=cTo p t (gTo p t) (j+1):=by
  show _=(if _ then _ else _:List (List Bool))
  rw[if_pos h']
 rw[e]
 exact (cTo_le hl).trans (gTo_le (a:=t+1) he)
theorem rch_tb{p:Pl}(o:PlOk p){t c:Int}(r:Rch p t c):t<=endP p->0<=t/\(0<=c/\c<(p.land.length:Int))/\((tbP p).getD (Int.toNat t) []).getD (Int.toNat c) false=true:=by
 have hch:=o.chan
 have hN:NT p=Int.toNat (endP p+1):=rfl
 induction r with
 |start =>
  intro h
  have hf:=(sea_in o.frm).1
  refine ⟨Int.le_refl _,hf,gTo_le (a:=0) (Nat.zero_le _) _ _ ?_⟩
  have g:GOk (NT p) p.chan.length (gTo p 0):=GOk.gTo p 0
  have hG:(List.replicate (NT p) (List.replicate p.chan.length false)).length=NT p:=List.length_replicate
  refine put1_at (by rw[hG];omega) ?_
  have h0:Int.toNat 0<NT p:=by omega
  rw[List.getD_eq_getElem?_getD,List.getElem?_replicate,if_pos h0]
  show Int.toNat p.frm<(List.replicate p.chan.length false).length
  rw[List.length_replicate];omega
 | @wait t c r w ht ih =>
  intro h
  obtain ⟨h0,hc,q⟩:=ih (by omega)
  refine ⟨by omega,hc,?_⟩
  have et:((Int.toNat t:Nat):Int)=t:=by omega
  have ec:((Int.toNat c:Nat):Int)=c:=by omega
  obtain ⟨G,g,le⟩:=tb_step o (t:=Int.toNat t) (j:=Int.toNat c) (by omega) (by omega) q
  refine le _ _ ?_
  unfold cSt
  rw[et,ec,if_pos w]
  refine putLs_le _ _ _ _ (put1_at (by rw[g.gl];omega) ?_)
  rw[g.rl _ (by omega)];omega
 | @leg t c x r ht hx ih =>
  intro h
  obtain ⟨h0,hc,q⟩:=ih (by omega)
  have hm:=lgP_mem hx
  have hto:=(bs_mem o hc hm.1).1
  refine ⟨by omega,hto,?_⟩
  have et:((Int.toNat t:Nat):Int)=t:=by omega
  have ec:((Int.toNat c:Nat):Int)=c:=by omega
  obtain ⟨G,g,le⟩:=tb_step o (t:=Int.toNat t) (j:=Int.toNat c) (by omega) (by omega) q
  refine le _ _ ?_
  unfold cSt
  rw[et,ec]
  refine putLs_at (N:=NT p) (n:=p.chan.length) ?_ hx (by omega) (by omega)
  by_cases w:wtB p c t (t+1)=true
  ·rw[if_pos w];exact g.put1 _ _
  ·rw[if_neg w];exact g
theorem arr_least{p:Pl}(o:PlOk p){t:Int}(r:Rch p t p.to)(h:t<=endP p):0<=arrP p/\arrP p<=t:=by
 obtain ⟨h0,hc,q⟩:=rch_tb o r h
 have hct:=o.cts
 have q':atB p (Int.toNat t)=true:=q
 have hl:=(tbOk p).gl
 have hN:NT p=Int.toNat (endP p+1):=rfl
 rcases arr_cases o with ⟨_,f⟩|⟨k,e,h1,h2,f⟩
 ·rw[f (Int.toNat t) (by omega)]at q';cases q'
 ·by_cases l:Int.toNat t<k
  ·rw[f (Int.toNat t) l]at q';cases q'
  ·omega
theorem lowP_top(p:Pl)(to t:Int):∀n,lowP p to t n<=250
 |0=>Int.le_refl _
 |n+1=>by
  show (if _ then _ else _)<=(250:Int)
  split
  ·exact (sf_bd _ _ _).2
  ·exact lowP_top p to t n
theorem lowP_at(p:Pl)(to t:Int):∀{n j:Nat},j<n->lowP p to t n<=sfP p to (Int.tdiv (t+(j:Int)) 6)
 |0,_,h=>absurd h (Nat.not_lt_zero _)
 |n+1,j,h=>by
  show (if _ then _ else _)<=sfP p to (Int.tdiv (t+(j:Int)) 6)
  by_cases e:j=n
  ·subst e
   split
   ·exact Int.le_refl _
   ·omega
  ·have:=lowP_at p to t (n:=n) (j:=j) (by omega)
   split
   ·omega
   ·exact this
theorem spL_low(p:Pl)(to t:Int)(n:Nat):spL p to t n<=lowP p to t n:=by
 unfold spL
 split
 ·split
  ·omega
  ·exact Int.le_refl _
 ·exact Int.le_refl _
theorem okL_at{p:Pl}{to t:Int}{n k:Nat}(h:okL p to t n=true)(hk:k<n):goB p to t (k+1)=true:=by
 unfold okL at h
 exact List.all_eq_true.1 h k (List.mem_range.2 hk)
theorem lg_acE{p:Pl}{c t:Int}{x:Leg}(h:x∈lgP p c t):acE p c t x=0:=by
 have h':=h
 unfold lgP at h'
 obtain ⟨to,h1,h2⟩:=List.mem_flatMap.1 h'
 obtain ⟨k,h3,h4⟩:=lgFull_mem h2
 obtain ⟨e1,e2,e3,e4,e5,e6⟩:=lgOne_mem h4
 have g:=okL_at e5 (Nat.lt_succ_self k)
 unfold goB at g
 rw[Bool.and_eq_true,decide_eq_true_eq,decide_eq_true_eq]at g
 have l1:=spL_low p to t (k+1)
 have l2:=lowP_top p to t (k+1)
 have hct:ctI (bsP p c) x.to=true:=by
  unfold ctI
  rw[List.any_eq_true]
  exact ⟨x.to,by rw[e1];exact h1,beq_self_eq_true _⟩
 refine acE_is (acB_iff.2 ⟨hct,by omega,inB_iff.2 ⟨by omega,by omega⟩,by omega,by omega⟩) (by omega) ?_ ?_
 ·unfold wtB;rw[e2,show Int.toNat (t-t)=0 by omega];rfl
 ·have hn:lgN x=k+1:=by unfold lgN;omega
  unfold mgOk
  rw[hn,List.all_eq_true]
  intro j hj
  have hj':=List.mem_range.1 hj
  have l3:=lowP_at p to t (n:=k+1) (j:=j) hj'
  have:¬ acD p x j<0:=by unfold acD;rw[e1,e2,e4];omega
  rw[decide_eq_false this];rfl
theorem acE_wait{p:Pl}{c s t:Int}{x:Leg}(hs:s<=t)(w:wtB p c s x.dep=true)(h:acE p c t x=0):acE p c s x=0:=by
 obtain ⟨a,b,d,e⟩:=acE_0 h
 obtain ⟨b1,b2,b3,b4,b5⟩:=acB_iff.1 a
 exact acE_is (acB_iff.2 ⟨b1,by omega,b3,b4,b5⟩) b w e
theorem wtB_self(p:Pl)(c t:Int):wtB p c t t=true:=by
 unfold wtB;rw[show Int.toNat (t-t)=0 by omega];rfl
theorem wtB_more{p:Pl}{c s t:Int}(hs:s<=t)(w:wtB p c s t=true)(q:¬ sfP p c (Int.tdiv t 6)=0):wtB p c s (t+1)=true:=by
 unfold wtB at *
 rw[show Int.toNat (t+1-s)=Int.toNat (t-s)+1 by omega,wtTo_succ,w,show s+((Int.toNat (t-s):Nat):Int)=t by omega]
 simpa using q
theorem wtB_one{p:Pl}{c t:Int}(q:¬ sfP p c (Int.tdiv t 6)=0):wtB p c t (t+1)=true:=wtB_more (Int.le_refl t) (wtB_self p c t) q
theorem acC_app{p:Pl}{l:List Leg}{x:Leg}{k:Nat}(h:k<=l.length):acC p (l ++ [x]) k=acC p l k:=by
 cases k with
 |zero=>rfl
 |succ k=>show ((l ++ [x]).getD k zL).to=(l.getD k zL).to;rw[List.getD_eq_getElem?_getD,List.getD_eq_getElem?_getD,List.getElem?_append_left (by omega)]
theorem acT_app{l:List Leg}{x:Leg}{k:Nat}(h:k<=l.length):acT (l ++ [x]) k=acT l k:=by
 cases k with
 |zero=>rfl
 |succ k=>show ((l ++ [x]).getD k zL).arr=(l.getD k zL).arr;rw[List.getD_eq_getElem?_getD,List.getD_eq_getElem?_getD,List.getElem?_append_left (by omega)]
theorem getD_appl{l:List Leg}{x:Leg}:(l ++ [x]).getD l.length zL=x:=by
 rw[List.getD_eq_getElem?_getD,List.getElem?_append_right (Nat.le_refl _),Nat.sub_self];rfl
theorem acU_app{p:Pl}{l:List Leg}{x:Leg}{k:Nat}(h:k<l.length):acU p (l ++ [x]) k=acU p l k:=by
 unfold acU
 rw[acC_app (by omega),acT_app (by omega),List.getD_eq_getElem?_getD,List.getElem?_append_left h,<- List.getD_eq_getElem?_getD]
theorem ac_more{p:Pl}{l:List Leg}{x:Leg}(h:errUp (acU p l) l.length=0)(e:acE p (acC p l l.length) (acT l l.length) x=0):errUp (acU p (l ++ [x])) (l ++ [x]).length=0:=by
 rw[List.length_append,show l.length + [x].length=l.length+1 from rfl]
 refine errUp_succ (errUp_z fun i hi=>by rw[acU_app hi];exact errUp_all h i hi) ?_
 unfold acU
 rw[acC_app (Nat.le_refl _),acT_app (Nat.le_refl _),getD_appl]
 exact e
theorem ac_last{p:Pl}{l:List Leg}{x:Leg}:acC p (l ++ [x]) (l ++ [x]).length=x.to/\acT (l ++ [x]) (l ++ [x]).length=x.arr:=by
 rw[List.length_append,show l.length + [x].length=l.length+1 from rfl]
 exact ⟨by show ((l ++ [x]).getD l.length zL).to=_;rw[getD_appl],by show ((l ++ [x]).getD l.length zL).arr=_;rw[getD_appl]⟩
theorem acc_ok{p:Pl}{l:List Leg}(hl:l.length<=300)(h:errUp (acU p l) l.length=0)(e:acC p l l.length=p.to):accE p l=0/\accT p l=acT l l.length/\accM p l=acM p l l.length:=by
 have e0:accE p l=0:=by unfold accE;rw[if_neg (by omega),first2_2 h,if_pos e]
 exact ⟨e0,by unfold accT;rw[if_pos e0],by unfold accM;rw[if_pos e0]⟩
theorem acc_no{p:Pl}{l:List Leg}(hl:l.length<=300)(h:errUp (acU p l) l.length=0)(e:¬ acC p l l.length=p.to):accE p l=50:=by
 unfold accE;rw[if_neg (by omega),first2_2 h,if_neg e]
structure Walk(p:Pl)(l:List Leg)(c t:Int):Prop where
 ok:errUp (acU p l) l.length=0
 at_:acC p l l.length=c
 r0:Rch p (acT l l.length) c
 r:Rch p t c
 le:acT l l.length<=t
 w:wtB p c (acT l l.length) t=true
 e:t<=endP p
theorem Walk.start{p:Pl}(o:PlOk p):Walk p [] p.frm 0:=by
 have hct:=o.cts
 exact ⟨rfl,rfl,.start,.start,Int.le_refl _,wtB_self p p.frm 0,by unfold endP;omega⟩
theorem Walk.wait{p:Pl}{l:List Leg}{c t:Int}(k:Walk p l c t)(h:t<endP p)(q:10<=sfP p c (Int.tdiv t 6)):Walk p l c (t+1):=by
 have q':¬ sfP p c (Int.tdiv t 6)=0:=by omega
 have:=k.le
 exact ⟨k.ok,k.at_,k.r0,.wait k.r (wtB_one q') h,by omega,wtB_more k.le k.w q',by omega⟩
theorem Walk.leg{p:Pl}{l:List Leg}{c t:Int}{x:Leg}(k:Walk p l c t)(h:x∈lgP p c t):Walk p (l ++ [x]) x.to x.arr:=by
 have m:=lgP_mem h
 have a:=ac_last (p:=p) (l:=l) (x:=x)
 have ht:t<endP p:=by omega
 have r':Rch p x.arr x.to:=.leg k.r ht h
 refine ⟨ac_more k.ok ?_,a.1,by rw[a.2];exact r',r',by rw[a.2];omega,by rw[a.2];exact wtB_self _ _ _,m.2.2.2⟩
 rw[k.at_]
 exact acE_wait k.le (by rw[m.2.1];exact k.w) (lg_acE h)
theorem Walk.home{p:Pl}(o:PlOk p){l:List Leg}{t:Int}(hl:l.length<=300)(k:Walk p l p.to t):accE p l=0/\accT p l=acT l l.length/\bestE p=0/\bestT p<=accT p l:=by
 have a:=acc_ok hl k.ok k.at_
 have b:=arr_least o k.r0 (by have:=k.le;have:=k.e;omega)
 refine ⟨a.1,a.2.1,?_,?_⟩
 ·unfold bestE;rw[if_neg (by omega)]
 ·unfold bestT;rw[if_neg (by omega),a.2.1];omega
theorem Walk.away{p:Pl}{l:List Leg}{c t:Int}(hl:l.length<=300)(k:Walk p l c t)(h:c≠p.to):accE p l=50:=acc_no hl k.ok (by rw[k.at_];exact h)
theorem Walk.cell{p:Pl}(o:PlOk p){l:List Leg}{c t:Int}(k:Walk p l c t):0<=t/\0<=c/\c<(p.land.length:Int):=by
 have:=rch_tb o k.r k.e
 exact ⟨this.1,this.2.1⟩
theorem early{p:Pl}{l:List Leg}{x y:Leg}(hl:(l ++ [x]).length<=300)(h:errUp (acU p (l ++ [x])) (l ++ [x]).length=0)(h1:y.to=x.to/\y.dep=x.dep/\y.spd=x.spd)(h2:y.arr=x.arr-1):accE p (l ++ [y])=50:=by
 have hn:(l ++ [x]).length=l.length+1:=List.length_append
 have hn':(l ++ [y]).length=l.length+1:=List.length_append
 have ha:=errUp_all h l.length (by omega)
 have b:=(acB_iff.1 (acE_0 ha).1).2.2.2.2
 rw[getD_appl]at b
 have h0:errUp (acU p (l ++ [y])) l.length=0:=errUp_z fun i hi=>by
  rw[acU_app hi,<- acU_app (x:=x) hi];exact errUp_all h i (by omega)
 refine (acc_bad (by omega) h0 (by omega) (by decide) (?_:acU p (l ++ [y]) l.length=50)).2.2
 unfold acU
 rw[getD_appl]
 refine if_pos (acB_no fun q =>?_)
 have:=q.2.2.2.2
 rw[h1.2.2]at this
 omega
def erX(x:Leg):Leg:=⟨x.to,x.dep,x.spd,x.arr-1⟩
def erL(l:List Leg):List Leg:=l.set (l.length-1) (erX (l.getD (l.length-1) zL))
theorem erL_app(l:List Leg)(x:Leg):erL (l ++ [x])=l ++ [erX x]:=by
 unfold erL
 rw[List.length_append,show l.length + [x].length-1=l.length from rfl,getD_appl,List.set_append_right _ _ (Nat.le_refl _),Nat.sub_self];rfl
theorem rch_sea{p:Pl}(o:PlOk p){t c:Int}(r:Rch p t c):seaB p.land c=true:=by
 induction r with
 |start=>exact o.frm
 |wait r w h ih=>exact ih
 |leg r h m ih=>exact seaB_iff.2 (bs_mem o (sea_in ih).1 (lgP_mem m).1)
theorem Walk.opt{p:Pl}(o:PlOk p){l:List Leg}{c t:Int}(k:Walk p l c t):optE p c t=0/\optL p c t=lgP p c t:=by
 have s:=rch_sea o k.r
 have b:=(k.cell o).1
 have i:inB t 0 (endP p)=true:=inB_iff.2 ⟨b,k.e⟩
 unfold optE optL
 rw[s,i];exact ⟨rfl,rfl⟩
theorem Walk.saf{p:Pl}(o:PlOk p){l:List Leg}{c t:Int}(k:Walk p l c t)(h:t<endP p):safV p c (Int.tdiv t 6)=sfP p c (Int.tdiv t 6):=by
 have s:=rch_sea o k.r
 have b:=(k.cell o).1
 have d:=tdiv6 (e:=((p.cts.length:Nat):Int)) b h
 have i:inB (Int.tdiv t 6) 0 (((p.cts.length:Nat):Int)-1)=true:=inB_iff.2 ⟨by omega,by omega⟩
 unfold safV
 rw[s,i];rfl
theorem Walk.legs{p:Pl}{l:List Leg}{c t:Int}(k:Walk p l c t):∀j,j<l.length->0<=(l.getD j zL).arr/\(l.getD j zL).arr<=endP p:=by
 have u:∀j,j<l.length->acE p (acC p l j) (acT l j) (l.getD j zL)=0:=errUp_all k.ok
 have up:∀j,j<l.length->acT l j<=(l.getD j zL).arr/\(l.getD j zL).arr<=endP p:=fun j hj=>by
  have e:=acE_0 (u j hj)
  have b:=acB_iff.1 e.1
  exact ⟨by omega,by have:=e.2.1;omega⟩
 have z:∀j,j<=l.length->0<=acT l j:=fun j=>by
  induction j with
  |zero=>intro _;exact Int.le_refl 0
  |succ j ih=>intro h;have a:=ih (by omega);have b:=(up j (by omega)).1;show 0<=(l.getD j zL).arr;omega
 exact fun j hj=>⟨by have:=z j (by omega);have:=(up j hj).1;omega,(up j hj).2⟩
theorem endP_le{p:Pl}(o:PlOk p):6<=endP p/\endP p<=288:=by
 have:=o.cts
 unfold endP;omega
theorem lst_app{l:List Leg}(h:0<l.length):∃l' x,l=l' ++ [x]:=⟨l.dropLast,l.getLast (List.ne_nil_of_length_pos h),(List.dropLast_concat_getLast _).symm⟩
theorem erL_len(l:List Leg):(erL l).length=l.length:=by unfold erL;rw[List.length_set]
theorem Walk.sooner{p:Pl}{l:List Leg}{c t:Int}(k:Walk p l c t)(hl:l.length<=300)(h:0<l.length):accE p (erL l)=50:=by
 obtain ⟨l',x,rfl⟩:=lst_app h
 rw[erL_app]
 exact early hl k.ok ⟨rfl,rfl,rfl⟩ rfl
theorem erL_arr{p:Pl}{l:List Leg}{c t:Int}(k:Walk p l c t)(o:PlOk p):∀j,j<(erL l).length->((erL l).getD j zL).arr<=9223372036854775807:=by
 have:=endP_le o
 intro j hj
 rw[erL_len]at hj
 have a:=k.legs j hj
 unfold erL
 by_cases e:j=l.length-1
 ·rw[getD_set (by omega),if_pos e];have b:=k.legs (l.length-1) (by omega);show (l.getD (l.length-1) zL).arr-1<=_;omega
 ·rw[getD_set (by omega),if_neg e];omega
end
end Go.Proofs.YtmecpfikljhjaaaDoor
