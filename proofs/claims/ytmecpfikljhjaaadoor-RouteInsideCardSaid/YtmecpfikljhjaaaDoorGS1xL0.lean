/- Route: RouteInside's walk. No condition. -/
import Derived.Test.YtmecpfikljhjaaaDoorGA15xS1c
import Derived.Test.YtmecpfikljhjaaaDoorS1g
import Derived.Test.YtmecpfikljhjaaaDoorGK27xA0
import Derived.Test.YtmecpfikljhjaaaDoorCards
import Derived.Test.YtmecpfikljhjaaaDoorTie
import Derived.JoinedCond
import Derived.JoinedOf
import Derived.Lib.LaidTab
import Derived.ChangeVars
import Derived.SevenTiedAt
open Go Go.K
set_option maxRecDepth 1000000
set_option maxHeartbeats 4000000
set_option linter.unusedVariables false
set_option linter.unusedSimpArgs false
namespace Go.Proofs.YtmecpfikljhjaaaDoor
noncomputable section
attribute [local irreducible] vF
theorem Walk.lb{p:Pl}(o:bV p){l:List Leg}{c t:Int}(w:Walk p l c t):∀j,j<l.length->(l.getD j zL).arr<=9223372036854775807:=fun j hj=>by
 have:=yj o
 have:=(w.JT j hj).2
 omega
theorem IL{N M:List Int}{hq:Int}{r1:Pl×Int}(e0:bF r1.1=0)(hn:r1.1.cts.length=1):CX (.bool true) N M hq r1:=by
 delta CX yed yet zi zg ye6 iI qI iH qH iG qG qN dQ ye7 ze zd yef cn At yee yez yej yU qW zc ye3 zf yem yT yew qV ye1 iC yZ jQ yea yeh yeu qC yW yev oU yY Dq gP yen yei dM Gq Gt yes ye9 yS zb qK my sS sR sQ sW sY sP sV sU sT vq ko ye8 AB sX gO jO yX au qF Ay gA qD AC qP qJ Az gB qL AD qQ qR Av gC qS Aw qT oV Au gD oW AA qU As vr fI AE qE mz yeb qM hX yV mP qO iF ye4 nI slQ pt slN ab fk ck nw eR kbq ixq c1q n2q
 generalize r1.1=p at *
 have o:=fZ e0
 have hb:=o.bd
 have hch:=o.chan
 have so:=ya o.shp
 have t1:=(bk so.th).len
 have t2:=(bk so.wa).len
 have t3:=(bk so.ic).len
 have oc0:=o.dE (i:=0) (by omega)
 have ol0:=oc0.len
 refine ⟨by rw[hn],rfl,fun q=>absurd q (by omega),fun _=>⟨⟨by omega,by omega,rfl,⟨Nat.le_refl _,dZ aW _⟩,fQ _ _⟩,rfl,fun q=>absurd q (by omega),fun _=>⟨⟨by omega,by omega,rfl,⟨Nat.le_refl _,dZ aW _⟩,fQ _ _⟩,rfl,⟨rfl,rfl,trivial⟩,fun H' hn h=>fK (by omega) (by omega) hn h.1 h.2.1 (by decide),⟨rfl,rfl,trivial⟩,fun H' hn h=>fK (by omega) (by omega) hn h.1 h.2.1 (by decide),⟨rfl,rfl,trivial⟩,fun H' hn h=>fK (by omega) (by omega) hn h.1 h.2.1 (by decide),eB (by omega) rfl,fun q=>absurd q (by omega),fun _=>⟨⟨by omega,by omega,⟨Nat.le_refl _,Nat.le_refl _⟩,⟨Nat.le_refl _,dZ bp _⟩,fP _ _⟩,rfl,lC _,lC _,lB _,by simp only[Nat.zero_add],by simp only[Nat.zero_add],?_⟩⟩⟩⟩
 refine ⟨rfl,⟨Nat.zero_le _,Wid.refl _,Int.le_refl _,Int.le_refl _⟩,?_,fun _=>rfl,fun x hx =>?_⟩
 ·repeat' first|exact aG _ _ _|exact bx _ _|exact trivial|refine ⟨rfl,?_⟩|refine ⟨trivial,?_⟩|apply And.intro
 obtain ⟨c,mc,kc⟩:=x
 obtain ⟨hkc,wc,B4,B3⟩:=hx
 dsimp only at hkc wc B4 B3 ⊢
 have hcl:=wc.1
 refine cp (fun q1 =>?_) (fun q1 =>?_)
 ·refine ⟨⟨by omega,by omega⟩,eJ (by omega) (by omega),fun hb1 =>?_,fun hb1 =>?_⟩
  ·refine ⟨⟨by omega,by omega⟩,by rw[aD aW];omega,rfl,ag (by omega),(c.set kc true,mc,kc+1),⟨by show kc+1<=_;omega,wc.set (by omega) (fun _=>rfl),by show 0<=mc;omega,by show mc<=(((kc+1:Nat):Nat):Int);omega⟩,by show _-(kc+1)<_-kc;omega,?_⟩
   repeat' first|exact aG _ _ _|exact bx _ _|(exact pQ (by omega) (by omega) _)|exact trivial|refine ⟨rfl,?_⟩|refine ⟨trivial,?_⟩|apply And.intro
  ·refine ⟨⟨rfl,trivial⟩,fun H' hn h=>az (by omega) (by decide) (by omega) h.1,⟨by omega,by omega⟩,by rw[aD aW];omega,rfl,ag (by omega),(c.set kc (dN M mc 3 == 0),mc+1,kc+1),⟨by show kc+1<=_;omega,wc.set (by omega) (fun e=>by rw[hb1]at e;cases e),by show 0<=mc+1;omega,by show mc+1<=(((kc+1:Nat):Nat):Int);omega⟩,by show _-(kc+1)<_-kc;omega,?_⟩
   repeat' first|exact aG _ _ _|exact bx _ _|(exact pQ (by omega) (by omega) _)|exact trivial|refine ⟨rfl,?_⟩|refine ⟨trivial,?_⟩|apply And.intro
 refine ⟨rfl,⟨Nat.zero_le _,Nar.start _,by show 0<=mc;omega,by show mc<=mc+8*((0:Nat):Int);omega⟩,?_,fun _=>rfl,fun x hx =>?_⟩
 ·repeat' first|exact aG _ _ _|exact cQ _ _|exact trivial|refine ⟨rfl,?_⟩|refine ⟨trivial,?_⟩|apply And.intro
 obtain ⟨l0,m0,k0⟩:=x
 obtain ⟨hk0,na0,B6,B5⟩:=hx
 dsimp only at hk0 na0 B6 B5 ⊢
 refine cp (fun q1 =>?_) (fun q1 =>?_)
 ·generalize m0=m at *
  generalize k0=k at *
  have nh:=na0.at_ (i:=k) (by omega)
  have rX:=(o.dE (i:=0) (by omega)).cell k (by omega)
  have hll:=na0.1
  have cin:=lD M m rX
  rw[<- nh]at rX cin
  obtain ⟨r1,r2,r3,r4⟩:=rX
  unfold bO at r1 r2 r3 r4
  have pX:b7 8 (l0.flatMap cellC) (0+Int.toNat ((k:Nat):Int)*8)=some (.agg ⟨cellC (l0.getD k am)⟩):=gG (by omega) (by omega)
  have nst:=na0.step (i:=k) (by omega) (by rw[<- nh];exact cin)
  generalize l0.getD k am=X at *
  have d0:=bf M (m) (m:=X.ar.hi-X.ar.lo+1) (by omega)
  have d1:=bf M (m+1) (m:=X.ar.hi-(X.ar.lo+dN M (m) (X.ar.hi-X.ar.lo+1))+1) (by omega)
  have d2:=bf M (m+1+1) (m:=X.ai.hi-X.ai.lo+1) (by omega)
  have d3:=bf M (m+1+1+1) (m:=X.ai.hi-(X.ai.lo+dN M (m+1+1) (X.ai.hi-X.ai.lo+1))+1) (by omega)
  have d4:=bf M (m+1+1+1+1) (m:=X.ak.hi-X.ak.lo+1) (by omega)
  have d5:=bf M (m+1+1+1+1+1) (m:=X.ak.hi-(X.ak.lo+dN M (m+1+1+1+1) (X.ak.hi-X.ak.lo+1))+1) (by omega)
  have d6:=bf M (m+1+1+1+1+1+1) (m:=X.aj.hi-X.aj.lo+1) (by omega)
  have d7:=bf M (m+1+1+1+1+1+1+1) (m:=X.aj.hi-(X.aj.lo+dN M (m+1+1+1+1+1+1) (X.aj.hi-X.aj.lo+1))+1) (by omega)
  refine ⟨⟨by omega,by omega⟩,pX,ag (by omega),ag (by omega),⟨rfl,trivial⟩,fun H' hn h=>az (by omega) (by omega) (by omega) h.1,ag (by omega),ag (by omega),ag (by omega),⟨rfl,trivial⟩,fun H' hn h=>az (by omega) (by omega) (by omega) h.1,ag (by omega),ag (by omega),ag (by omega),⟨rfl,trivial⟩,fun H' hn h=>az (by omega) (by omega) (by omega) h.1,ag (by omega),ag (by omega),ag (by omega),⟨rfl,trivial⟩,fun H' hn h=>az (by omega) (by omega) (by omega) h.1,ag (by omega),ag (by omega),ag (by omega),⟨rfl,trivial⟩,fun H' hn h=>az (by omega) (by omega) (by omega) h.1,ag (by omega),ag (by omega),ag (by omega),⟨rfl,trivial⟩,fun H' hn h=>az (by omega) (by omega) (by omega) h.1,ag (by omega),ag (by omega),ag (by omega),⟨rfl,trivial⟩,fun H' hn h=>az (by omega) (by omega) (by omega) h.1,ag (by omega),ag (by omega),ag (by omega),⟨rfl,trivial⟩,fun H' hn h=>az (by omega) (by omega) (by omega) h.1,ag (by omega),⟨by omega,by omega⟩,by rw[aD bp];omega,rfl,ag (by omega),(l0.set k (nC8 M m X),m+1+1+1+1+1+1+1+1,k+1),⟨by show k+1<=_;omega,nst,by show 0<=m+1+1+1+1+1+1+1+1;omega,by show m+1+1+1+1+1+1+1+1<=_+8*(((k+1:Nat):Nat):Int);omega⟩,by show _-(k+1)<_-k;omega,?_⟩
  repeat' first|exact aG _ _ _|exact cQ _ _|(exact jk (by omega) (by omega) _ rfl)|exact trivial|refine ⟨rfl,?_⟩|refine ⟨trivial,?_⟩|apply And.intro
 obtain rfl:k0=(p.cts.getD 0 zCh).cells.length:=by omega
 have hc0:=(o.dE (i:=0) (by omega)).len
 refine ⟨eB (by omega) rfl,⟨rfl,trivial⟩,fun H' hn h=>lO (vJ o (by omega) na0) (zF o (by omega)) na0.1 (by rw[na0.1];omega) (fun j hj=>(na0.2 j (by rw[na0.1]at hj;exact hj)).1 (by rw[na0.1]at hj;exact hj)) h.1,?_⟩
 have hQ:QOk p [qCt p 0 l0]:=⟨by rw[hn];rfl,fun i hi=>by
  rw[hn]at hi
  match i,hi with
  |0,_=>exact ⟨l0,rfl,na0⟩⟩
 have eq:=xY e0 hQ wc
 have inn:=BX e0 hQ wc
 refine ⟨⟨rfl,rfl,rfl,rfl,rfl,rfl,rfl,trivial⟩,fun H' hn1 h=>qg e0 hn1 (eP (by decide) h) (qY p hn _ _ _ _ _ _),rfl,by rw[<- na0.1];rfl,rfl,⟨rfl,rfl,rfl,rfl,rfl,rfl,rfl,trivial⟩,fun H' hn1 h=>qg eq hn1 (eP (by decide) h) (qX p (L:=[qCt p 0 l0]) (k:=1) rfl wc.1 _ _ _ _ _ _),⟨rfl,rfl,rfl,rfl,rfl,rfl,rfl,trivial⟩,fun H' hn1 h=>wl e0 (eP (by decide) h) (qY p hn _ _ _ _ _ _),gM (fun hb=>bA (fun _=>bA (fun _=>bA (fun _=>⟨⟨rfl,trivial⟩,fun H' hn h=>d9 h.1,rfl⟩) (fun _=>bA (fun _=>⟨⟨rfl,trivial⟩,fun H' hn h=>d9 h.1,rfl⟩) (fun q=>by have:=dh (bh p);omega))) (fun _=>bA (fun _=>bA (fun _=>⟨⟨rfl,trivial⟩,fun H' hn h=>d9 h.1,rfl⟩) (fun _=>bA (fun _=>⟨⟨rfl,trivial⟩,fun H' hn h=>d9 h.1,rfl⟩) (fun q=>by have:=dh (bh p);omega))) (fun q=>by have:=dh (inP p [qCt p 0 l0] c);omega))) (fun q=>by have:=dh p;omega)) (fun hb =>?_)⟩
 have K:=BW e0 eq inn hb
 have B:=kY o ((fT p).1 hb)
 have bn:=B.n
 refine ⟨⟨rfl,rfl,rfl,rfl,rfl,rfl,rfl,rfl,trivial⟩,fun H' hn1 h=>BO eq (B.w.lb o) (by omega) (eP (by decide) h) (by decide) h.2.2.2.2.2.2.2.1 (qX p (L:=[qCt p 0 l0]) (k:=1) rfl wc.1 _ _ _ _ _ _),⟨rfl,rfl,rfl,rfl,rfl,rfl,rfl,rfl,trivial⟩,fun H' hn1 h=>qf e0 (B.w.lb o) (by omega) (eP (by decide) h) (by decide) h.2.2.2.2.2.2.2.1 (qY p hn _ _ _ _ _ _),⟨rfl,rfl,rfl,rfl,rfl,rfl,rfl,rfl,trivial⟩,fun H' hn1 h=>qf eq (B.w.lb o) (by omega) (eP (by decide) h) (by decide) h.2.2.2.2.2.2.2.1 (qX p (L:=[qCt p 0 l0]) (k:=1) rfl wc.1 _ _ _ _ _ _),bA (fun _=>cp (fun _=>bA (fun _=>cp (fun _=>bA (fun _=>bA (fun _=>bA (fun _=>⟨bEq (by rw[K.h];rfl),cp (fun _=>⟨⟨rfl,trivial⟩,fun H' hn h=>d9 h.1,rfl⟩) (fun q=>absurd K.m q)⟩) (fun q=>absurd K.i q)) (fun q=>absurd K.n q)) (fun q=>absurd K.h q)) (fun q=>absurd K.hope q)) (fun q=>absurd K.g q)) (fun q=>absurd K.u q)) (fun q=>absurd K.f q)⟩
theorem IK{N M:List Int}{hq:Int}{r1:Pl×Int}(e0:bF r1.1=0)(hn:r1.1.cts.length=2):CW (.bool true) N M hq r1:=by
 delta CW yed yet zi zg ye6 iI qI iH qH iG qG qN dQ ye7 yR fU ze zd yef cn c7 Ax yee yez yej yU qW zc ye3 zf yem yT yew qV ye1 iC yZ jQ AF Dx yeq ye2 mO Do yea yeh yeu qC yW yev oU yY Dt kp yen yei dM Gp Gs sZ yes ye9 yS zb qK my sS sR sQ sW sY sP sV sU sT vq ko ye8 AB sX gO yX au qF Ay gA qD AC qP qJ Az gB qL AD qQ qR Av gC qS Aw qT oV Au gD oW AA qU Df vr fI AE qE yec DD jO As mz yeb qM hX yV mP qO iF ye4 nI slQ pt slN ab fk ck nw eR kbq ixq c1q n2q
 generalize r1.1=p at *
 have o:=fZ e0
 have hb:=o.bd
 have hch:=o.chan
 have so:=ya o.shp
 have t1:=(bk so.th).len
 have t2:=(bk so.wa).len
 have t3:=(bk so.ic).len
 have oc0:=o.dE (i:=0) (by omega)
 have ol0:=oc0.len
 have oc1:=o.dE (i:=1) (by omega)
 have ol1:=oc1.len
 refine ⟨by rw[hn],rfl,fun q=>absurd q (by omega),fun _=>⟨⟨by omega,by omega,rfl,⟨Nat.le_refl _,dZ aW _⟩,fQ _ _⟩,rfl,fun q=>absurd q (by omega),fun _=>⟨⟨by omega,by omega,rfl,⟨Nat.le_refl _,dZ aW _⟩,fQ _ _⟩,rfl,⟨rfl,rfl,trivial⟩,fun H' hn h=>fK (by omega) (by omega) hn h.1 h.2.1 (by decide),⟨rfl,rfl,trivial⟩,fun H' hn h=>fK (by omega) (by omega) hn h.1 h.2.1 (by decide),⟨rfl,rfl,trivial⟩,fun H' hn h=>fK (by omega) (by omega) hn h.1 h.2.1 (by decide),eB (by omega) rfl,fun q=>absurd q (by omega),fun _=>⟨⟨by omega,by omega,⟨Nat.le_refl _,Nat.le_refl _⟩,⟨Nat.le_refl _,dZ bp _⟩,fP _ _⟩,rfl,eB (by omega) rfl,fun q=>absurd q (by omega),fun _=>⟨⟨by omega,by omega,⟨Nat.le_refl _,Nat.le_refl _⟩,⟨Nat.le_refl _,dZ bp _⟩,fP _ _⟩,rfl,lC _,lC _,lB _,lB _,by simp only[Nat.zero_add],by simp only[Nat.zero_add],?_⟩⟩⟩⟩⟩
 refine ⟨rfl,⟨Nat.zero_le _,Wid.refl _,Int.le_refl _,Int.le_refl _⟩,?_,fun _=>rfl,fun x hx =>?_⟩
 ·repeat' first|exact aG _ _ _|exact bx _ _|exact trivial|refine ⟨rfl,?_⟩|refine ⟨trivial,?_⟩|apply And.intro
 obtain ⟨c,mc,kc⟩:=x
 obtain ⟨hkc,wc,B4,B3⟩:=hx
 dsimp only at hkc wc B4 B3 ⊢
 have hcl:=wc.1
 refine cp (fun q1 =>?_) (fun q1 =>?_)
 ·refine ⟨⟨by omega,by omega⟩,eJ (by omega) (by omega),fun hb1 =>?_,fun hb1 =>?_⟩
  ·refine ⟨⟨by omega,by omega⟩,by rw[aD aW];omega,rfl,ag (by omega),(c.set kc true,mc,kc+1),⟨by show kc+1<=_;omega,wc.set (by omega) (fun _=>rfl),by show 0<=mc;omega,by show mc<=(((kc+1:Nat):Nat):Int);omega⟩,by show _-(kc+1)<_-kc;omega,?_⟩
   repeat' first|exact aG _ _ _|exact bx _ _|(exact pQ (by omega) (by omega) _)|exact trivial|refine ⟨rfl,?_⟩|refine ⟨trivial,?_⟩|apply And.intro
  ·refine ⟨⟨rfl,trivial⟩,fun H' hn h=>az (by omega) (by decide) (by omega) h.1,⟨by omega,by omega⟩,by rw[aD aW];omega,rfl,ag (by omega),(c.set kc (dN M mc 3 == 0),mc+1,kc+1),⟨by show kc+1<=_;omega,wc.set (by omega) (fun e=>by rw[hb1]at e;cases e),by show 0<=mc+1;omega,by show mc+1<=(((kc+1:Nat):Nat):Int);omega⟩,by show _-(kc+1)<_-kc;omega,?_⟩
   repeat' first|exact aG _ _ _|exact bx _ _|(exact pQ (by omega) (by omega) _)|exact trivial|refine ⟨rfl,?_⟩|refine ⟨trivial,?_⟩|apply And.intro
 refine ⟨rfl,⟨Nat.zero_le _,Nar.start _,by show 0<=mc;omega,by show mc<=mc+8*((0:Nat):Int);omega⟩,?_,fun _=>rfl,fun x hx =>?_⟩
 ·repeat' first|exact aG _ _ _|exact cQ _ _|exact trivial|refine ⟨rfl,?_⟩|refine ⟨trivial,?_⟩|apply And.intro
 obtain ⟨l0,m0,k0⟩:=x
 obtain ⟨hk0,na0,B6,B5⟩:=hx
 dsimp only at hk0 na0 B6 B5 ⊢
 refine cp (fun q1 =>?_) (fun q1 =>?_)
 ·generalize m0=m at *
  generalize k0=k at *
  have nh:=na0.at_ (i:=k) (by omega)
  have rX:=(o.dE (i:=0) (by omega)).cell k (by omega)
  have hll:=na0.1
  have cin:=lD M m rX
  rw[<- nh]at rX cin
  obtain ⟨r1,r2,r3,r4⟩:=rX
  unfold bO at r1 r2 r3 r4
  have pX:b7 8 (l0.flatMap cellC) (0+Int.toNat ((k:Nat):Int)*8)=some (.agg ⟨cellC (l0.getD k am)⟩):=gG (by omega) (by omega)
  have nst:=na0.step (i:=k) (by omega) (by rw[<- nh];exact cin)
  generalize l0.getD k am=X at *
  have d0:=bf M (m) (m:=X.ar.hi-X.ar.lo+1) (by omega)
  have d1:=bf M (m+1) (m:=X.ar.hi-(X.ar.lo+dN M (m) (X.ar.hi-X.ar.lo+1))+1) (by omega)
  have d2:=bf M (m+1+1) (m:=X.ai.hi-X.ai.lo+1) (by omega)
  have d3:=bf M (m+1+1+1) (m:=X.ai.hi-(X.ai.lo+dN M (m+1+1) (X.ai.hi-X.ai.lo+1))+1) (by omega)
  have d4:=bf M (m+1+1+1+1) (m:=X.ak.hi-X.ak.lo+1) (by omega)
  have d5:=bf M (m+1+1+1+1+1) (m:=X.ak.hi-(X.ak.lo+dN M (m+1+1+1+1) (X.ak.hi-X.ak.lo+1))+1) (by omega)
  have d6:=bf M (m+1+1+1+1+1+1) (m:=X.aj.hi-X.aj.lo+1) (by omega)
  have d7:=bf M (m+1+1+1+1+1+1+1) (m:=X.aj.hi-(X.aj.lo+dN M (m+1+1+1+1+1+1) (X.aj.hi-X.aj.lo+1))+1) (by omega)
  refine ⟨⟨by omega,by omega⟩,pX,ag (by omega),ag (by omega),⟨rfl,trivial⟩,fun H' hn h=>az (by omega) (by omega) (by omega) h.1,ag (by omega),ag (by omega),ag (by omega),⟨rfl,trivial⟩,fun H' hn h=>az (by omega) (by omega) (by omega) h.1,ag (by omega),ag (by omega),ag (by omega),⟨rfl,trivial⟩,fun H' hn h=>az (by omega) (by omega) (by omega) h.1,ag (by omega),ag (by omega),ag (by omega),⟨rfl,trivial⟩,fun H' hn h=>az (by omega) (by omega) (by omega) h.1,ag (by omega),ag (by omega),ag (by omega),⟨rfl,trivial⟩,fun H' hn h=>az (by omega) (by omega) (by omega) h.1,ag (by omega),ag (by omega),ag (by omega),⟨rfl,trivial⟩,fun H' hn h=>az (by omega) (by omega) (by omega) h.1,ag (by omega),ag (by omega),ag (by omega),⟨rfl,trivial⟩,fun H' hn h=>az (by omega) (by omega) (by omega) h.1,ag (by omega),ag (by omega),ag (by omega),⟨rfl,trivial⟩,fun H' hn h=>az (by omega) (by omega) (by omega) h.1,ag (by omega),⟨by omega,by omega⟩,by rw[aD bp];omega,rfl,ag (by omega),(l0.set k (nC8 M m X),m+1+1+1+1+1+1+1+1,k+1),⟨by show k+1<=_;omega,nst,by show 0<=m+1+1+1+1+1+1+1+1;omega,by show m+1+1+1+1+1+1+1+1<=_+8*(((k+1:Nat):Nat):Int);omega⟩,by show _-(k+1)<_-k;omega,?_⟩
  repeat' first|exact aG _ _ _|exact cQ _ _|(exact jk (by omega) (by omega) _ rfl)|exact trivial|refine ⟨rfl,?_⟩|refine ⟨trivial,?_⟩|apply And.intro
 obtain rfl:k0=(p.cts.getD 0 zCh).cells.length:=by omega
 have hc0:=(o.dE (i:=0) (by omega)).len
 refine ⟨eB (by omega) rfl,⟨rfl,trivial⟩,fun H' hn h=>lO (vJ o (by omega) na0) (zF o (by omega)) na0.1 (by rw[na0.1];omega) (fun j hj=>(na0.2 j (by rw[na0.1]at hj;exact hj)).1 (by rw[na0.1]at hj;exact hj)) h.1,?_⟩
 refine ⟨rfl,⟨Nat.zero_le _,Nar.start _,by show 0<=m0;omega,by show m0<=m0+8*((0:Nat):Int);omega⟩,?_,fun _=>rfl,fun x hx =>?_⟩
 ·repeat' first|exact aG _ _ _|exact cQ _ _|exact trivial|refine ⟨rfl,?_⟩|refine ⟨trivial,?_⟩|apply And.intro
 obtain ⟨l1,m1,k1⟩:=x
 obtain ⟨hk1,na1,Hf,He⟩:=hx
 dsimp only at hk1 na1 Hf He ⊢
 refine cp (fun q1 =>?_) (fun q1 =>?_)
 ·generalize m1=m at *
  generalize k1=k at *
  have nh:=na1.at_ (i:=k) (by omega)
  have rX:=(o.dE (i:=1) (by omega)).cell k (by omega)
  have hll:=na1.1
  have cin:=lD M m rX
  rw[<- nh]at rX cin
  obtain ⟨r1,r2,r3,r4⟩:=rX
  unfold bO at r1 r2 r3 r4
  have pX:b7 8 (l1.flatMap cellC) (0+Int.toNat ((k:Nat):Int)*8)=some (.agg ⟨cellC (l1.getD k am)⟩):=gG (by omega) (by omega)
  have nst:=na1.step (i:=k) (by omega) (by rw[<- nh];exact cin)
  generalize l1.getD k am=X at *
  have d0:=bf M (m) (m:=X.ar.hi-X.ar.lo+1) (by omega)
  have d1:=bf M (m+1) (m:=X.ar.hi-(X.ar.lo+dN M (m) (X.ar.hi-X.ar.lo+1))+1) (by omega)
  have d2:=bf M (m+1+1) (m:=X.ai.hi-X.ai.lo+1) (by omega)
  have d3:=bf M (m+1+1+1) (m:=X.ai.hi-(X.ai.lo+dN M (m+1+1) (X.ai.hi-X.ai.lo+1))+1) (by omega)
  have d4:=bf M (m+1+1+1+1) (m:=X.ak.hi-X.ak.lo+1) (by omega)
  have d5:=bf M (m+1+1+1+1+1) (m:=X.ak.hi-(X.ak.lo+dN M (m+1+1+1+1) (X.ak.hi-X.ak.lo+1))+1) (by omega)
  have d6:=bf M (m+1+1+1+1+1+1) (m:=X.aj.hi-X.aj.lo+1) (by omega)
  have d7:=bf M (m+1+1+1+1+1+1+1) (m:=X.aj.hi-(X.aj.lo+dN M (m+1+1+1+1+1+1) (X.aj.hi-X.aj.lo+1))+1) (by omega)
  refine ⟨⟨by omega,by omega⟩,pX,ag (by omega),ag (by omega),⟨rfl,trivial⟩,fun H' hn h=>az (by omega) (by omega) (by omega) h.1,ag (by omega),ag (by omega),ag (by omega),⟨rfl,trivial⟩,fun H' hn h=>az (by omega) (by omega) (by omega) h.1,ag (by omega),ag (by omega),ag (by omega),⟨rfl,trivial⟩,fun H' hn h=>az (by omega) (by omega) (by omega) h.1,ag (by omega),ag (by omega),ag (by omega),⟨rfl,trivial⟩,fun H' hn h=>az (by omega) (by omega) (by omega) h.1,ag (by omega),ag (by omega),ag (by omega),⟨rfl,trivial⟩,fun H' hn h=>az (by omega) (by omega) (by omega) h.1,ag (by omega),ag (by omega),ag (by omega),⟨rfl,trivial⟩,fun H' hn h=>az (by omega) (by omega) (by omega) h.1,ag (by omega),ag (by omega),ag (by omega),⟨rfl,trivial⟩,fun H' hn h=>az (by omega) (by omega) (by omega) h.1,ag (by omega),ag (by omega),ag (by omega),⟨rfl,trivial⟩,fun H' hn h=>az (by omega) (by omega) (by omega) h.1,ag (by omega),⟨by omega,by omega⟩,by rw[aD bp];omega,rfl,ag (by omega),(l1.set k (nC8 M m X),m+1+1+1+1+1+1+1+1,k+1),⟨by show k+1<=_;omega,nst,by show 0<=m+1+1+1+1+1+1+1+1;omega,by show m+1+1+1+1+1+1+1+1<=_+8*(((k+1:Nat):Nat):Int);omega⟩,by show _-(k+1)<_-k;omega,?_⟩
  repeat' first|exact aG _ _ _|exact cQ _ _|(exact jk (by omega) (by omega) _ rfl)|exact trivial|refine ⟨rfl,?_⟩|refine ⟨trivial,?_⟩|apply And.intro
 obtain rfl:k1=(p.cts.getD 1 zCh).cells.length:=by omega
 have hc1:=(o.dE (i:=1) (by omega)).len
 refine ⟨eB (by omega) rfl,⟨rfl,trivial⟩,fun H' hn h=>lO (vJ o (by omega) na1) (zF o (by omega)) na1.1 (by rw[na1.1];omega) (fun j hj=>(na1.2 j (by rw[na1.1]at hj;exact hj)).1 (by rw[na1.1]at hj;exact hj)) h.1,?_⟩
 have hQ:QOk p [qCt p 0 l0,qCt p 1 l1]:=⟨by rw[hn];rfl,fun i hi=>by
  rw[hn]at hi
  match i,hi with
  |0,_=>exact ⟨l0,rfl,na0⟩|1,_=>exact ⟨l1,rfl,na1⟩⟩
 have eq:=xY e0 hQ wc
 have inn:=BX e0 hQ wc
 refine ⟨⟨rfl,rfl,rfl,rfl,rfl,rfl,rfl,trivial⟩,fun H' hn1 h=>qg e0 hn1 (eP (by decide) h) (qY p hn _ _ _ _ _ _),rfl,rfl,by rw[<- na0.1,<- na1.1];rfl,rfl,⟨rfl,rfl,rfl,rfl,rfl,rfl,rfl,trivial⟩,fun H' hn1 h=>qg eq hn1 (eP (by decide) h) (qX p (L:=[qCt p 0 l0,qCt p 1 l1]) (k:=2) rfl wc.1 _ _ _ _ _ _),⟨rfl,rfl,rfl,rfl,rfl,rfl,rfl,trivial⟩,fun H' hn1 h=>wl e0 (eP (by decide) h) (qY p hn _ _ _ _ _ _),gM (fun hb=>bA (fun _=>bA (fun _=>bA (fun _=>⟨⟨rfl,trivial⟩,fun H' hn h=>d9 h.1,rfl⟩) (fun _=>bA (fun _=>⟨⟨rfl,trivial⟩,fun H' hn h=>d9 h.1,rfl⟩) (fun q=>by have:=dh (bh p);omega))) (fun _=>bA (fun _=>bA (fun _=>⟨⟨rfl,trivial⟩,fun H' hn h=>d9 h.1,rfl⟩) (fun _=>bA (fun _=>⟨⟨rfl,trivial⟩,fun H' hn h=>d9 h.1,rfl⟩) (fun q=>by have:=dh (bh p);omega))) (fun q=>by have:=dh (inP p [qCt p 0 l0,qCt p 1 l1] c);omega))) (fun q=>by have:=dh p;omega)) (fun hb =>?_)⟩
 have K:=BW e0 eq inn hb
 have B:=kY o ((fT p).1 hb)
 have bn:=B.n
 refine ⟨⟨rfl,rfl,rfl,rfl,rfl,rfl,rfl,rfl,trivial⟩,fun H' hn1 h=>BO eq (B.w.lb o) (by omega) (eP (by decide) h) (by decide) h.2.2.2.2.2.2.2.1 (qX p (L:=[qCt p 0 l0,qCt p 1 l1]) (k:=2) rfl wc.1 _ _ _ _ _ _),⟨rfl,rfl,rfl,rfl,rfl,rfl,rfl,rfl,trivial⟩,fun H' hn1 h=>qf e0 (B.w.lb o) (by omega) (eP (by decide) h) (by decide) h.2.2.2.2.2.2.2.1 (qY p hn _ _ _ _ _ _),⟨rfl,rfl,rfl,rfl,rfl,rfl,rfl,rfl,trivial⟩,fun H' hn1 h=>qf eq (B.w.lb o) (by omega) (eP (by decide) h) (by decide) h.2.2.2.2.2.2.2.1 (qX p (L:=[qCt p 0 l0,qCt p 1 l1]) (k:=2) rfl wc.1 _ _ _ _ _ _),bA (fun _=>cp (fun _=>bA (fun _=>cp (fun _=>bA (fun _=>bA (fun _=>bA (fun _=>⟨bEq (by rw[K.h];rfl),cp (fun _=>⟨⟨rfl,trivial⟩,fun H' hn h=>d9 h.1,rfl⟩) (fun q=>absurd K.m q)⟩) (fun q=>absurd K.i q)) (fun q=>absurd K.n q)) (fun q=>absurd K.h q)) (fun q=>absurd K.hope q)) (fun q=>absurd K.g q)) (fun q=>absurd K.u q)) (fun q=>absurd K.f q)⟩
theorem IJ{N M:List Int}{hq:Int}{r1:Pl×Int}(e0:bF r1.1=0)(hn:r1.1.cts.length=3):CV (.bool true) N M hq r1:=by
 delta CV yed yet zi zg ye6 iI qI iH qH iG qG qN dQ ye7 yR fU iF ye4 jP ze zd yef cn c7 eT Dp yee yez yej yU qW zc ye3 zf yem yT yew qV ye1 iC yZ jQ AF Dx yeq ye2 mO Do yec Gk DD qE qB bz gQ yer Dy yeo DA Dl yek Dm DB Gl yeg Gm DC yea yeh yeu qC yW yev oU yY yel yen yei dM Gn Gr yes ye9 yS zb yex ye5 lk lj li vu At yey Dh oM Dw yep vt yeb vv ye0 oN oT Du oR oS oQ oP oO Dq gP Dr DF Dk Dv DE Ax Dt kp Dj sZ Di Dg Dn yX au qF gA qD qP qJ gB qL qQ qR gC qS qT oV gD oW qU vr gO fI jO hX qM qO sX qK my sS sR sQ sW sY sP sV sU sT vq ko ye8 AB Ay AC Az AD Av Aw Au AA Df AE As mz yV mP nI slQ pt slN ab fk ck nw eR kbq ixq c1q n2q
 generalize r1.1=p at *
 have o:=fZ e0
 have hb:=o.bd
 have hch:=o.chan
 have so:=ya o.shp
 have t1:=(bk so.th).len
 have t2:=(bk so.wa).len
 have t3:=(bk so.ic).len
 have oc0:=o.dE (i:=0) (by omega)
 have ol0:=oc0.len
 have oc1:=o.dE (i:=1) (by omega)
 have ol1:=oc1.len
 have oc2:=o.dE (i:=2) (by omega)
 have ol2:=oc2.len
 refine ⟨by rw[hn],rfl,fun q=>absurd q (by omega),fun _=>⟨⟨by omega,by omega,rfl,⟨Nat.le_refl _,dZ aW _⟩,fQ _ _⟩,rfl,fun q=>absurd q (by omega),fun _=>⟨⟨by omega,by omega,rfl,⟨Nat.le_refl _,dZ aW _⟩,fQ _ _⟩,rfl,⟨rfl,rfl,trivial⟩,fun H' hn h=>fK (by omega) (by omega) hn h.1 h.2.1 (by decide),⟨rfl,rfl,trivial⟩,fun H' hn h=>fK (by omega) (by omega) hn h.1 h.2.1 (by decide),⟨rfl,rfl,trivial⟩,fun H' hn h=>fK (by omega) (by omega) hn h.1 h.2.1 (by decide),eB (by omega) rfl,fun q=>absurd q (by omega),fun _=>⟨⟨by omega,by omega,⟨Nat.le_refl _,Nat.le_refl _⟩,⟨Nat.le_refl _,dZ bp _⟩,fP _ _⟩,rfl,eB (by omega) rfl,fun q=>absurd q (by omega),fun _=>⟨⟨by omega,by omega,⟨Nat.le_refl _,Nat.le_refl _⟩,⟨Nat.le_refl _,dZ bp _⟩,fP _ _⟩,rfl,eB (by omega) rfl,fun q=>absurd q (by omega),fun _=>⟨⟨by omega,by omega,⟨Nat.le_refl _,Nat.le_refl _⟩,⟨Nat.le_refl _,dZ bp _⟩,fP _ _⟩,rfl,lC _,lC _,lB _,lB _,lB _,by simp only[Nat.zero_add],by simp only[Nat.zero_add],?_⟩⟩⟩⟩⟩⟩
 refine ⟨rfl,⟨Nat.zero_le _,Wid.refl _,Int.le_refl _,Int.le_refl _⟩,?_,fun _=>rfl,fun x hx =>?_⟩
 ·repeat' first|exact aG _ _ _|exact bx _ _|exact trivial|refine ⟨rfl,?_⟩|refine ⟨trivial,?_⟩|apply And.intro
 obtain ⟨c,mc,kc⟩:=x
 obtain ⟨hkc,wc,B4,B3⟩:=hx
 dsimp only at hkc wc B4 B3 ⊢
 have hcl:=wc.1
 refine cp (fun q1 =>?_) (fun q1 =>?_)
 ·refine ⟨⟨by omega,by omega⟩,eJ (by omega) (by omega),fun hb1 =>?_,fun hb1 =>?_⟩
  ·refine ⟨⟨by omega,by omega⟩,by rw[aD aW];omega,rfl,ag (by omega),(c.set kc true,mc,kc+1),⟨by show kc+1<=_;omega,wc.set (by omega) (fun _=>rfl),by show 0<=mc;omega,by show mc<=(((kc+1:Nat):Nat):Int);omega⟩,by show _-(kc+1)<_-kc;omega,?_⟩
   repeat' first|exact aG _ _ _|exact bx _ _|(exact pQ (by omega) (by omega) _)|exact trivial|refine ⟨rfl,?_⟩|refine ⟨trivial,?_⟩|apply And.intro
  ·refine ⟨⟨rfl,trivial⟩,fun H' hn h=>az (by omega) (by decide) (by omega) h.1,⟨by omega,by omega⟩,by rw[aD aW];omega,rfl,ag (by omega),(c.set kc (dN M mc 3 == 0),mc+1,kc+1),⟨by show kc+1<=_;omega,wc.set (by omega) (fun e=>by rw[hb1]at e;cases e),by show 0<=mc+1;omega,by show mc+1<=(((kc+1:Nat):Nat):Int);omega⟩,by show _-(kc+1)<_-kc;omega,?_⟩
   repeat' first|exact aG _ _ _|exact bx _ _|(exact pQ (by omega) (by omega) _)|exact trivial|refine ⟨rfl,?_⟩|refine ⟨trivial,?_⟩|apply And.intro
 refine ⟨rfl,⟨Nat.zero_le _,Nar.start _,by show 0<=mc;omega,by show mc<=mc+8*((0:Nat):Int);omega⟩,?_,fun _=>rfl,fun x hx =>?_⟩
 ·repeat' first|exact aG _ _ _|exact cQ _ _|exact trivial|refine ⟨rfl,?_⟩|refine ⟨trivial,?_⟩|apply And.intro
 obtain ⟨l0,m0,k0⟩:=x
 obtain ⟨hk0,na0,B6,B5⟩:=hx
 dsimp only at hk0 na0 B6 B5 ⊢
 refine cp (fun q1 =>?_) (fun q1 =>?_)
 ·generalize m0=m at *
  generalize k0=k at *
  have nh:=na0.at_ (i:=k) (by omega)
  have rX:=(o.dE (i:=0) (by omega)).cell k (by omega)
  have hll:=na0.1
  have cin:=lD M m rX
  rw[<- nh]at rX cin
  obtain ⟨r1,r2,r3,r4⟩:=rX
  unfold bO at r1 r2 r3 r4
  have pX:b7 8 (l0.flatMap cellC) (0+Int.toNat ((k:Nat):Int)*8)=some (.agg ⟨cellC (l0.getD k am)⟩):=gG (by omega) (by omega)
  have nst:=na0.step (i:=k) (by omega) (by rw[<- nh];exact cin)
  generalize l0.getD k am=X at *
  have d0:=bf M (m) (m:=X.ar.hi-X.ar.lo+1) (by omega)
  have d1:=bf M (m+1) (m:=X.ar.hi-(X.ar.lo+dN M (m) (X.ar.hi-X.ar.lo+1))+1) (by omega)
  have d2:=bf M (m+1+1) (m:=X.ai.hi-X.ai.lo+1) (by omega)
  have d3:=bf M (m+1+1+1) (m:=X.ai.hi-(X.ai.lo+dN M (m+1+1) (X.ai.hi-X.ai.lo+1))+1) (by omega)
  have d4:=bf M (m+1+1+1+1) (m:=X.ak.hi-X.ak.lo+1) (by omega)
  have d5:=bf M (m+1+1+1+1+1) (m:=X.ak.hi-(X.ak.lo+dN M (m+1+1+1+1) (X.ak.hi-X.ak.lo+1))+1) (by omega)
  have d6:=bf M (m+1+1+1+1+1+1) (m:=X.aj.hi-X.aj.lo+1) (by omega)
  have d7:=bf M (m+1+1+1+1+1+1+1) (m:=X.aj.hi-(X.aj.lo+dN M (m+1+1+1+1+1+1) (X.aj.hi-X.aj.lo+1))+1) (by omega)
  refine ⟨⟨by omega,by omega⟩,pX,ag (by omega),ag (by omega),⟨rfl,trivial⟩,fun H' hn h=>az (by omega) (by omega) (by omega) h.1,ag (by omega),ag (by omega),ag (by omega),⟨rfl,trivial⟩,fun H' hn h=>az (by omega) (by omega) (by omega) h.1,ag (by omega),ag (by omega),ag (by omega),⟨rfl,trivial⟩,fun H' hn h=>az (by omega) (by omega) (by omega) h.1,ag (by omega),ag (by omega),ag (by omega),⟨rfl,trivial⟩,fun H' hn h=>az (by omega) (by omega) (by omega) h.1,ag (by omega),ag (by omega),ag (by omega),⟨rfl,trivial⟩,fun H' hn h=>az (by omega) (by omega) (by omega) h.1,ag (by omega),ag (by omega),ag (by omega),⟨rfl,trivial⟩,fun H' hn h=>az (by omega) (by omega) (by omega) h.1,ag (by omega),ag (by omega),ag (by omega),⟨rfl,trivial⟩,fun H' hn h=>az (by omega) (by omega) (by omega) h.1,ag (by omega),ag (by omega),ag (by omega),⟨rfl,trivial⟩,fun H' hn h=>az (by omega) (by omega) (by omega) h.1,ag (by omega),⟨by omega,by omega⟩,by rw[aD bp];omega,rfl,ag (by omega),(l0.set k (nC8 M m X),m+1+1+1+1+1+1+1+1,k+1),⟨by show k+1<=_;omega,nst,by show 0<=m+1+1+1+1+1+1+1+1;omega,by show m+1+1+1+1+1+1+1+1<=_+8*(((k+1:Nat):Nat):Int);omega⟩,by show _-(k+1)<_-k;omega,?_⟩
  repeat' first|exact aG _ _ _|exact cQ _ _|(exact jk (by omega) (by omega) _ rfl)|exact trivial|refine ⟨rfl,?_⟩|refine ⟨trivial,?_⟩|apply And.intro
 obtain rfl:k0=(p.cts.getD 0 zCh).cells.length:=by omega
 have hc0:=(o.dE (i:=0) (by omega)).len
 refine ⟨eB (by omega) rfl,⟨rfl,trivial⟩,fun H' hn h=>lO (vJ o (by omega) na0) (zF o (by omega)) na0.1 (by rw[na0.1];omega) (fun j hj=>(na0.2 j (by rw[na0.1]at hj;exact hj)).1 (by rw[na0.1]at hj;exact hj)) h.1,?_⟩
 refine ⟨rfl,⟨Nat.zero_le _,Nar.start _,by show 0<=m0;omega,by show m0<=m0+8*((0:Nat):Int);omega⟩,?_,fun _=>rfl,fun x hx =>?_⟩
 ·repeat' first|exact aG _ _ _|exact cQ _ _|exact trivial|refine ⟨rfl,?_⟩|refine ⟨trivial,?_⟩|apply And.intro
 obtain ⟨l1,m1,k1⟩:=x
 obtain ⟨hk1,na1,Hf,He⟩:=hx
 dsimp only at hk1 na1 Hf He ⊢
 refine cp (fun q1 =>?_) (fun q1 =>?_)
 ·generalize m1=m at *
  generalize k1=k at *
  have nh:=na1.at_ (i:=k) (by omega)
  have rX:=(o.dE (i:=1) (by omega)).cell k (by omega)
  have hll:=na1.1
  have cin:=lD M m rX
  rw[<- nh]at rX cin
  obtain ⟨r1,r2,r3,r4⟩:=rX
  unfold bO at r1 r2 r3 r4
  have pX:b7 8 (l1.flatMap cellC) (0+Int.toNat ((k:Nat):Int)*8)=some (.agg ⟨cellC (l1.getD k am)⟩):=gG (by omega) (by omega)
  have nst:=na1.step (i:=k) (by omega) (by rw[<- nh];exact cin)
  generalize l1.getD k am=X at *
  have d0:=bf M (m) (m:=X.ar.hi-X.ar.lo+1) (by omega)
  have d1:=bf M (m+1) (m:=X.ar.hi-(X.ar.lo+dN M (m) (X.ar.hi-X.ar.lo+1))+1) (by omega)
  have d2:=bf M (m+1+1) (m:=X.ai.hi-X.ai.lo+1) (by omega)
  have d3:=bf M (m+1+1+1) (m:=X.ai.hi-(X.ai.lo+dN M (m+1+1) (X.ai.hi-X.ai.lo+1))+1) (by omega)
  have d4:=bf M (m+1+1+1+1) (m:=X.ak.hi-X.ak.lo+1) (by omega)
  have d5:=bf M (m+1+1+1+1+1) (m:=X.ak.hi-(X.ak.lo+dN M (m+1+1+1+1) (X.ak.hi-X.ak.lo+1))+1) (by omega)
  have d6:=bf M (m+1+1+1+1+1+1) (m:=X.aj.hi-X.aj.lo+1) (by omega)
  have d7:=bf M (m+1+1+1+1+1+1+1) (m:=X.aj.hi-(X.aj.lo+dN M (m+1+1+1+1+1+1) (X.aj.hi-X.aj.lo+1))+1) (by omega)
  refine ⟨⟨by omega,by omega⟩,pX,ag (by omega),ag (by omega),⟨rfl,trivial⟩,fun H' hn h=>az (by omega) (by omega) (by omega) h.1,ag (by omega),ag (by omega),ag (by omega),⟨rfl,trivial⟩,fun H' hn h=>az (by omega) (by omega) (by omega) h.1,ag (by omega),ag (by omega),ag (by omega),⟨rfl,trivial⟩,fun H' hn h=>az (by omega) (by omega) (by omega) h.1,ag (by omega),ag (by omega),ag (by omega),⟨rfl,trivial⟩,fun H' hn h=>az (by omega) (by omega) (by omega) h.1,ag (by omega),ag (by omega),ag (by omega),⟨rfl,trivial⟩,fun H' hn h=>az (by omega) (by omega) (by omega) h.1,ag (by omega),ag (by omega),ag (by omega),⟨rfl,trivial⟩,fun H' hn h=>az (by omega) (by omega) (by omega) h.1,ag (by omega),ag (by omega),ag (by omega),⟨rfl,trivial⟩,fun H' hn h=>az (by omega) (by omega) (by omega) h.1,ag (by omega),ag (by omega),ag (by omega),⟨rfl,trivial⟩,fun H' hn h=>az (by omega) (by omega) (by omega) h.1,ag (by omega),⟨by omega,by omega⟩,by rw[aD bp];omega,rfl,ag (by omega),(l1.set k (nC8 M m X),m+1+1+1+1+1+1+1+1,k+1),⟨by show k+1<=_;omega,nst,by show 0<=m+1+1+1+1+1+1+1+1;omega,by show m+1+1+1+1+1+1+1+1<=_+8*(((k+1:Nat):Nat):Int);omega⟩,by show _-(k+1)<_-k;omega,?_⟩
  repeat' first|exact aG _ _ _|exact cQ _ _|(exact jk (by omega) (by omega) _ rfl)|exact trivial|refine ⟨rfl,?_⟩|refine ⟨trivial,?_⟩|apply And.intro
 obtain rfl:k1=(p.cts.getD 1 zCh).cells.length:=by omega
 have hc1:=(o.dE (i:=1) (by omega)).len
 refine ⟨eB (by omega) rfl,⟨rfl,trivial⟩,fun H' hn h=>lO (vJ o (by omega) na1) (zF o (by omega)) na1.1 (by rw[na1.1];omega) (fun j hj=>(na1.2 j (by rw[na1.1]at hj;exact hj)).1 (by rw[na1.1]at hj;exact hj)) h.1,?_⟩
 refine ⟨rfl,⟨Nat.zero_le _,Nar.start _,by show 0<=m1;omega,by show m1<=m1+8*((0:Nat):Int);omega⟩,?_,fun _=>rfl,fun x hx =>?_⟩
 ·repeat' first|exact aG _ _ _|exact cQ _ _|exact trivial|refine ⟨rfl,?_⟩|refine ⟨trivial,?_⟩|apply And.intro
 obtain ⟨l2,m2,k2⟩:=x
 obtain ⟨hk2,na2,J7,J6⟩:=hx
 dsimp only at hk2 na2 J7 J6 ⊢
 refine cp (fun q1 =>?_) (fun q1 =>?_)
 ·generalize m2=m at *
  generalize k2=k at *
  have nh:=na2.at_ (i:=k) (by omega)
  have rX:=(o.dE (i:=2) (by omega)).cell k (by omega)
  have hll:=na2.1
  have cin:=lD M m rX
  rw[<- nh]at rX cin
  obtain ⟨r1,r2,r3,r4⟩:=rX
  unfold bO at r1 r2 r3 r4
  have pX:b7 8 (l2.flatMap cellC) (0+Int.toNat ((k:Nat):Int)*8)=some (.agg ⟨cellC (l2.getD k am)⟩):=gG (by omega) (by omega)
  have nst:=na2.step (i:=k) (by omega) (by rw[<- nh];exact cin)
  generalize l2.getD k am=X at *
  have d0:=bf M (m) (m:=X.ar.hi-X.ar.lo+1) (by omega)
  have d1:=bf M (m+1) (m:=X.ar.hi-(X.ar.lo+dN M (m) (X.ar.hi-X.ar.lo+1))+1) (by omega)
  have d2:=bf M (m+1+1) (m:=X.ai.hi-X.ai.lo+1) (by omega)
  have d3:=bf M (m+1+1+1) (m:=X.ai.hi-(X.ai.lo+dN M (m+1+1) (X.ai.hi-X.ai.lo+1))+1) (by omega)
  have d4:=bf M (m+1+1+1+1) (m:=X.ak.hi-X.ak.lo+1) (by omega)
  have d5:=bf M (m+1+1+1+1+1) (m:=X.ak.hi-(X.ak.lo+dN M (m+1+1+1+1) (X.ak.hi-X.ak.lo+1))+1) (by omega)
  have d6:=bf M (m+1+1+1+1+1+1) (m:=X.aj.hi-X.aj.lo+1) (by omega)
  have d7:=bf M (m+1+1+1+1+1+1+1) (m:=X.aj.hi-(X.aj.lo+dN M (m+1+1+1+1+1+1) (X.aj.hi-X.aj.lo+1))+1) (by omega)
  refine ⟨⟨by omega,by omega⟩,pX,ag (by omega),ag (by omega),⟨rfl,trivial⟩,fun H' hn h=>az (by omega) (by omega) (by omega) h.1,ag (by omega),ag (by omega),ag (by omega),⟨rfl,trivial⟩,fun H' hn h=>az (by omega) (by omega) (by omega) h.1,ag (by omega),ag (by omega),ag (by omega),⟨rfl,trivial⟩,fun H' hn h=>az (by omega) (by omega) (by omega) h.1,ag (by omega),ag (by omega),ag (by omega),⟨rfl,trivial⟩,fun H' hn h=>az (by omega) (by omega) (by omega) h.1,ag (by omega),ag (by omega),ag (by omega),⟨rfl,trivial⟩,fun H' hn h=>az (by omega) (by omega) (by omega) h.1,ag (by omega),ag (by omega),ag (by omega),⟨rfl,trivial⟩,fun H' hn h=>az (by omega) (by omega) (by omega) h.1,ag (by omega),ag (by omega),ag (by omega),⟨rfl,trivial⟩,fun H' hn h=>az (by omega) (by omega) (by omega) h.1,ag (by omega),ag (by omega),ag (by omega),⟨rfl,trivial⟩,fun H' hn h=>az (by omega) (by omega) (by omega) h.1,ag (by omega),⟨by omega,by omega⟩,by rw[aD bp];omega,rfl,ag (by omega),(l2.set k (nC8 M m X),m+1+1+1+1+1+1+1+1,k+1),⟨by show k+1<=_;omega,nst,by show 0<=m+1+1+1+1+1+1+1+1;omega,by show m+1+1+1+1+1+1+1+1<=_+8*(((k+1:Nat):Nat):Int);omega⟩,by show _-(k+1)<_-k;omega,?_⟩
  repeat' first|exact aG _ _ _|exact cQ _ _|(exact jk (by omega) (by omega) _ rfl)|exact trivial|refine ⟨rfl,?_⟩|refine ⟨trivial,?_⟩|apply And.intro
 obtain rfl:k2=(p.cts.getD 2 zCh).cells.length:=by omega
 have hc2:=(o.dE (i:=2) (by omega)).len
 refine ⟨eB (by omega) rfl,⟨rfl,trivial⟩,fun H' hn h=>lO (vJ o (by omega) na2) (zF o (by omega)) na2.1 (by rw[na2.1];omega) (fun j hj=>(na2.2 j (by rw[na2.1]at hj;exact hj)).1 (by rw[na2.1]at hj;exact hj)) h.1,?_⟩
 have hQ:QOk p [qCt p 0 l0,qCt p 1 l1,qCt p 2 l2]:=⟨by rw[hn];rfl,fun i hi=>by
  rw[hn]at hi
  match i,hi with
  |0,_=>exact ⟨l0,rfl,na0⟩|1,_=>exact ⟨l1,rfl,na1⟩|2,_=>exact ⟨l2,rfl,na2⟩⟩
 have eq:=xY e0 hQ wc
 have inn:=BX e0 hQ wc
 refine ⟨⟨rfl,rfl,rfl,rfl,rfl,rfl,rfl,trivial⟩,fun H' hn1 h=>qg e0 hn1 (eP (by decide) h) (qY p hn _ _ _ _ _ _),rfl,rfl,rfl,by rw[<- na0.1,<- na1.1,<- na2.1];rfl,rfl,⟨rfl,rfl,rfl,rfl,rfl,rfl,rfl,trivial⟩,fun H' hn1 h=>qg eq hn1 (eP (by decide) h) (qX p (L:=[qCt p 0 l0,qCt p 1 l1,qCt p 2 l2]) (k:=3) rfl wc.1 _ _ _ _ _ _),⟨rfl,rfl,rfl,rfl,rfl,rfl,rfl,trivial⟩,fun H' hn1 h=>wl e0 (eP (by decide) h) (qY p hn _ _ _ _ _ _),gM (fun hb=>bA (fun _=>bA (fun _=>bA (fun _=>⟨⟨rfl,trivial⟩,fun H' hn h=>d9 h.1,rfl⟩) (fun _=>bA (fun _=>⟨⟨rfl,trivial⟩,fun H' hn h=>d9 h.1,rfl⟩) (fun q=>by have:=dh (bh p);omega))) (fun _=>bA (fun _=>bA (fun _=>⟨⟨rfl,trivial⟩,fun H' hn h=>d9 h.1,rfl⟩) (fun _=>bA (fun _=>⟨⟨rfl,trivial⟩,fun H' hn h=>d9 h.1,rfl⟩) (fun q=>by have:=dh (bh p);omega))) (fun q=>by have:=dh (inP p [qCt p 0 l0,qCt p 1 l1,qCt p 2 l2] c);omega))) (fun q=>by have:=dh p;omega)) (fun hb =>?_)⟩
 have K:=BW e0 eq inn hb
 have B:=kY o ((fT p).1 hb)
 have bn:=B.n
 refine ⟨⟨rfl,rfl,rfl,rfl,rfl,rfl,rfl,rfl,trivial⟩,fun H' hn1 h=>BO eq (B.w.lb o) (by omega) (eP (by decide) h) (by decide) h.2.2.2.2.2.2.2.1 (qX p (L:=[qCt p 0 l0,qCt p 1 l1,qCt p 2 l2]) (k:=3) rfl wc.1 _ _ _ _ _ _),⟨rfl,rfl,rfl,rfl,rfl,rfl,rfl,rfl,trivial⟩,fun H' hn1 h=>qf e0 (B.w.lb o) (by omega) (eP (by decide) h) (by decide) h.2.2.2.2.2.2.2.1 (qY p hn _ _ _ _ _ _),⟨rfl,rfl,rfl,rfl,rfl,rfl,rfl,rfl,trivial⟩,fun H' hn1 h=>qf eq (B.w.lb o) (by omega) (eP (by decide) h) (by decide) h.2.2.2.2.2.2.2.1 (qX p (L:=[qCt p 0 l0,qCt p 1 l1,qCt p 2 l2]) (k:=3) rfl wc.1 _ _ _ _ _ _),bA (fun _=>cp (fun _=>bA (fun _=>cp (fun _=>bA (fun _=>bA (fun _=>bA (fun _=>⟨bEq (by rw[K.h];rfl),cp (fun _=>⟨⟨rfl,trivial⟩,fun H' hn h=>d9 h.1,rfl⟩) (fun q=>absurd K.m q)⟩) (fun q=>absurd K.i q)) (fun q=>absurd K.n q)) (fun q=>absurd K.h q)) (fun q=>absurd K.hope q)) (fun q=>absurd K.g q)) (fun q=>absurd K.u q)) (fun q=>absurd K.f q)⟩
end
end Go.Proofs.YtmecpfikljhjaaaDoor
namespace Go.K
open Go Go.ChangeShapes Go.WideShapes Go.ChangeAt Go.RowKit
variable {P:Program} {HH:Type} {enc:TypeId×Value->HH}
theorem vT{N n b0:Nat}{ts:List TypeId}{args:Array Value}{W:World}{ds:List (DataW HH)}{ps:List MemPlace}{held:Bool}(hG:P.globals.size=1)(zs:List Int){ty:TypeId}{fz:Nat×Nat}
  (h0:W.heap[0]?=some (.cells (zs.map fun z=>Value.int .i64 z).toArray ty fz)) (hplain:ts.all (DK P n)=true)
  (hok:∀(j:Nat) (t:TypeId) (v:Value),ts[j]?=some t->args.toList[j]?=some v->Value.okWide P W .any b0 t v) (h:DataW.TrodAll enc P W 0 (fun _=>true) held ts args.toList ds ps)
  (J9:∀(H:Heap) (vs:List Value),km P n ts vs->H[0]?=some (.cells false 0 (zs.map fun z=>Value.int .i64 z))->ad P N vs H [] (fun v _=>v = .bool true)) :
  Calls P N args W fun e W'=>e = .returned (.bool true)/\RowKit.Below W.heap.size W W':=by
 have hlt:0<W.heap.size:=by
  rcases Nat.lt_or_ge 0 W.heap.size with h|h
  ·exact h
  ·rw[Array.getElem?_eq_none h]at h0;cases h0
 have ho:∀(id:Nat) (o:aa),([aa.cells false 0 (zs.map fun z=>Value.int .i64 z)])[id]?=some o->id=0/\o = .cells false 0 (zs.map fun z=>Value.int .i64 z):=fun id o e=>by
  cases id with
  |zero=>exact ⟨rfl,(Option.some.inj e).symm⟩
  |succ id=>simp at e
 have hρ:∀(id:Nat) (r:RI),(if id=0 then some (⟨0,0,zs.length,0,false⟩:RI) else none)=some r->id=0/\r=⟨0,0,zs.length,0,false⟩:=fun id r e=>by
  split at e
  ·exact ⟨‹_›,(Option.some.inj e).symm⟩
  ·cases e
 have hr:Rel P W.heap.size ⟨fun id=>if id=0 then some ⟨0,0,zs.length,0,false⟩ else none,fun b=>match W.heap[b]? with|some (.cells m _ _)=>some m|_=>none,fun _ _=>none⟩ [aa.cells false 0 (zs.map fun z=>Value.int .i64 z)] W:=by
  refine ⟨Nat.le_refl _,fun g hg =>?_,fun id r h1 =>?_,fun id r h1 =>?_,fun id r o h1 h2 =>?_,fun id r o h1 h2 h3 =>?_,fun id id' r r' o o' h1 h1' h2 h2' h3 _ hne =>?_,fun b m hm=>⟨?_,fun id r o h1 h2 h3 =>?_⟩,hU.kE (fun _ _ _ h=>by cases h) (fun _ _ _ h=>by cases h) (fun F z cs h=>by have:=(ho F _ h).2;cases this)⟩
  ·obtain rfl:g=0:=by omega
   exact ⟨_,rfl,rfl,rfl⟩
  ·obtain ⟨rfl,_⟩:=hρ id r h1;exact Nat.zero_lt_one
  ·obtain ⟨rfl,rfl⟩:=hρ id r h1;exact hlt
  ·obtain ⟨rfl,rfl⟩:=hρ id r h1
   obtain ⟨_,rfl⟩:=ho 0 o h2
   refine ⟨rfl,rfl,_,ty,fz,h0,by simp,fun e=>(by cases e),fun i v e=>⟨v,?_,?_⟩⟩
   ·show (zs.map fun z=>Value.int .i64 z).toArray[i+0]?=some v
    simpa using e
   ·rw[List.getElem?_map,Option.map_eq_some_iff]at e
    obtain ⟨z,_,rfl⟩:=e
    exact .int _ _
  ·obtain ⟨_,rfl⟩:=ho id o h2;cases h3
  ·obtain ⟨rfl,_⟩:=hρ id r h1;obtain ⟨rfl,_⟩:=hρ id' r' h1';exact absurd rfl hne
  ·dsimp only at hm
   split at hm
   ·rename_i m' ty fz e;cases hm;exact ⟨ty,fz,e⟩
   ·cases hm
  ·obtain ⟨_,rfl⟩:=ho id o h2;cases h3
 have IR:Low W.heap.size ⟨fun id=>if id=0 then some ⟨0,0,zs.length,0,false⟩ else none,fun b=>match W.heap[b]? with|some (.cells m _ _)=>some m|_=>none,fun _ _=>none⟩ W :=
  ⟨fun b m ty fz _ hb=>by show (match W.heap[b]? with|some (.cells m _ _)=>some m|_=>none)=_;rw[hb],fun id r h1=>by obtain ⟨rfl,rfl⟩:=hρ id r h1;exact hlt⟩
 obtain ⟨ρ',H',vs',e,hv,g⟩:=w7 rfl ts args.toList ds ps _ _ hplain hok h hr
 have IQ:Low W.heap.size ρ' W:=⟨fun b m ty fz h1 h2=>e.le.mem b m (IR.1 b m ty fz h1 h2),fun id r h1=>e.rel.lt id r h1⟩
 obtain ⟨ws,hv2,g2⟩:=EV e.rel IQ ts vs' args.toList g hv
 obtain ⟨K,hK⟩:=e.pre
 have hh:H'[0]?=some (.cells false 0 (zs.map fun z=>Value.int .i64 z)):=by rw[hK];rfl
 refine callsIn_wide.1 (((J9 H' ws g2 hh).2 _ ρ' W args e.rel hv2).mono ?_)
 rintro en w' ⟨v,v',ρ3,H3,rfl,h1,h2,rfl⟩
 cases h1
 exact ⟨rfl,h2.below e.rel⟩
end Go.K
namespace Go.Proofs.YtmecpfikljhjaaaDoor
open Go Go.K Go.ChangeShapes Go.WideShapes Go.ChangeAt Go.RowKit
noncomputable section
theorem own:ownKnob Tryd.prog.godebug=none:=by kernel_rfl
theorem sized:iO Tryd.prog=true:=by kernel_rfl
abbrev known(t:TypeId):Prop:=t<Tryd.prog.types.size
theorem kids:Kids Tryd.prog known:=kids_rows (by kernel_rfl) (by kernel_rfl)
theorem i5{n:Nat}{t:TypeId}{ts:List TypeId}{vs:List Value}(h:km Tryd.prog n (t :: ts) vs):∃v vs',vs=v :: vs'/\iw Tryd.prog n t v/\km Tryd.prog n ts vs':=by
 cases vs with
 |nil=>exact h.elim
 |cons v vs=>exact ⟨v,vs,rfl,h.1,h.2⟩
theorem wQ{n:Nat}{vs:List Value}(h:km Tryd.prog n [] vs):vs=[]:=by
 cases vs with
 |nil=>rfl
 |cons v vs=>exact h.elim
theorem qj{n:Nat}{c:List Value}(h:ew Tryd.prog (n+1) 3 c):∃x:Int,c=[.int .i64 x]/\inI x:=by
 unfold ew at h
 rw[show Tryd.prog.underlying 3=some (.int .i64) by kernel_rfl]at h
 obtain ⟨x,rfl,h1,h2⟩:=h
 refine ⟨x,rfl,?_⟩
 simp only[IntKind.min,IntKind.max,IntKind.signed,IntKind.bits]at h1 h2
 unfold inI
 simp at h1 h2
 omega
theorem wP{v:Value}(h:iw Tryd.prog 6 3 v):∃x:Int,v = .int .i64 x/\inI x:=by
 unfold iw at h
 rw[show Tryd.prog.underlying 3=some (.int .i64) by kernel_rfl]at h
 obtain ⟨x,h1,h2⟩:=qj h
 exact ⟨x,by simpa using h1,h2⟩
theorem mn{v:Value}(h:iw Tryd.prog 6 22 v):∃L:List Int,v = .iface (L.length+1) (.agg ⟨L.flatMap br⟩)/\L.length<=maxLen/\∀x∈L,inI x:=by
 unfold iw at h
 rw[show Tryd.prog.underlying 22=some (.slice 3) by kernel_rfl]at h
 unfold ew at h
 rw[show Tryd.prog.underlying 22=some (.slice 3) by kernel_rfl]at h
 obtain ⟨len,ds,h1,h2,h3,h4⟩:=h
 obtain ⟨xs,e1,e2,e3⟩:=oc (f:=br) (q:=inI) (fun c hc=>qj (n:=4) hc) len ds h4
 subst e1 e2
 exact ⟨xs,by simpa using h1,h3,e3⟩
theorem Ij {W : World} (hL : laidMet Tryd.prog [("polynya/hull.strengths", Rows.laid_polynya_hull_strengths)] W) : ∃ ty fz, W.heap[0]? = some (.cells (AZ.map fun z => Value.int .i64 z).toArray ty fz) := by
 have hT:=Lib.tabIs_of_head (k:=.i64) (zs:=AZ) (g:=0) (t:=168) (e:=3) (n:=6) (by kernel_rfl) (by kernel_rfl) (by kernel_rfl) (by kernel_rfl) (by kernel_rfl) (by kernel_rfl) hL
 unfold Lib.TabIs World.var? at hT
 rw [show Tryd.prog.globalNamed "polynya/hull.strengths" = some 0 by kernel_rfl] at hT
 simp only[Option.bind_some]at hT
 split at hT
 ·rename_i cs ty fz e
  obtain rfl:=Option.some.inj hT
  exact ⟨ty,fz,e⟩
 ·cases hT
noncomputable def pZ(os:Os):World :=
 let w0:=World.holding Tryd.prog os ⟨#[],#[],[]⟩
 { w0 with heap:=w0.heap.modify 0 fun
   | .cells _ t frozen => .cells (AZ.map fun z=>Value.int .i64 z).toArray t frozen
   |o=>o }
theorem pn (os : Os) (args : Array Value) : laidMet Tryd.prog [("polynya/hull.strengths", Rows.laid_polynya_hull_strengths)] ((pZ os).forCall (fun _ _ => 0) ⟨#[], args, []⟩).memory :=
 laidMet_of_run' 8 (by kernel_rfl) (by kernel_rfl)
theorem FA(σ:Nat->Option Nat)(n:Nat)(l:List Int):rn σ 3 (.iface n (.agg ⟨l.flatMap br⟩)) = .iface n (.agg ⟨l.flatMap br⟩):=by
 show Value.iface _ (.agg ⟨(l.flatMap br).map (rn σ 2)⟩)=_
 rw[List.map_congr_left (g:=fun v=>v) fun v hv =>?_,List.map_id']
 obtain ⟨c,_,h⟩:=List.mem_flatMap.1 hv
 obtain rfl:=List.mem_singleton.1 h
 rfl
end
end Go.Proofs.YtmecpfikljhjaaaDoor
