/- Route: what a table proves is so. No condition. -/
import Derived.Test.YtmecpfikljhjaaaDoorGA7xJ5
import Derived.Test.YtmecpfikljhjaaaDoorGA22xT8
import Derived.Test.YtmecpfikljhjaaaDoorGK27xA0
import Derived.Test.YtmecpfikljhjaaaDoorGH1gxH5g
import Derived.Test.YtmecpfikljhjaaaDoorGM4gxL0
import Derived.Test.YtmecpfikljhjaaaDoorGJ3gxM3
open Go Go.K
set_option maxRecDepth 1000000
set_option maxHeartbeats 4000000
set_option linter.unusedVariables false
set_option linter.unusedSimpArgs false
namespace Go.Proofs.YtmecpfikljhjaaaDoor
noncomputable section
attribute [local irreducible] vF
theorem iJ{l:List Int}{x:Int}(a:Asc l)(h:∀y∈l,y<x):Asc (l ++ [x]):=by
 intro i j hij hj
 rw[aE,w7]at hj
 have e1:(l ++ [x]).getD i 0=l.getD i 0:=by
  rw[List.getD_eq_getElem?_getD,List.getElem?_append_left (by omega),<- List.getD_eq_getElem?_getD]
 rw[e1]
 by_cases g:j<l.length
 ·rw[show (l ++ [x]).getD j 0=l.getD j 0 by rw[List.getD_eq_getElem?_getD,List.getElem?_append_left g,<- List.getD_eq_getElem?_getD]]
  exact a i j hij g
 ·rw[show (l ++ [x]).getD j 0=x by rw[List.getD_eq_getElem?_getD,List.getElem?_append_right (by omega),show j-l.length=0 by omega];rfl]
  exact h _ (cQ (by omega))
theorem iu{r:List Bool}{x:Int}:∀{k:Nat},x∈eW r k ↔ ∃j:Nat,j<k/\r.getD j false=true/\x=(j:Int)
 |0=>Iff.intro (fun h=>nomatch h) (fun h=>by obtain ⟨j,hj,_⟩:=h;exact absurd hj (Nat.not_lt_zero j))
 |k+1=>by
  have ih:=iu (r:=r) (x:=x) (k:=k)
  cases h:r.getD k false
  ·rw[kg h,ih]
   constructor
   ·rintro ⟨j,hj,e⟩;exact ⟨j,by omega,e⟩
   ·rintro ⟨j,hj,e1,e2⟩
    by_cases g:j=k
    ·rw[g,h]at e1;cases e1
    ·exact ⟨j,by omega,e1,e2⟩
  ·rw[l9 h,List.mem_append,ih,List.mem_singleton]
   constructor
   ·rintro (⟨j,hj,e⟩|e)
    ·exact ⟨j,by omega,e⟩
    ·exact ⟨k,by omega,h,e⟩
   ·rintro ⟨j,hj,e1,e2⟩
    by_cases g:j=k
    ·exact .inr (by rw[e2,g])
    ·exact .inl ⟨j,by omega,e1,e2⟩
theorem oc(r:List Bool):∀k,Asc (eW r k)
 |0=>fun i j _ hj=>absurd hj (Nat.not_lt_zero j)
 |k+1=>by
  cases h:r.getD k false
  ·rw[kg h];exact oc r k
  ·rw[l9 h]
   exact iJ (oc r k) fun y hy=>by obtain ⟨j,hj,_,e⟩:=iu.1 hy;omega
theorem me{r:List Bool}{x:Int}:bP (lsT r) x=true ↔ 0<=x/\r.getD (Int.toNat x) false=true:=by
 rw[ky]
 unfold lsT
 rw[iu]
 constructor
 ·rintro ⟨j,hj,e1,e2⟩;exact ⟨by omega,by rw[show Int.toNat x=j by omega];exact e1⟩
 ·rintro ⟨h0,e⟩
  refine ⟨Int.toNat x,?_,e,by omega⟩
  rcases Nat.lt_or_ge (Int.toNat x) r.length with g|g
  ·exact g
  ·rw[List.getD_eq_getElem?_getD,List.getElem?_eq_none g]at e;cases e
theorem fX(T:List (List Bool))(k:Nat):(lsD T).getD k []=lsT (T.getD k []):=by
 unfold lsD
 rw[List.getD_eq_getElem?_getD,List.getElem?_map,List.getD_eq_getElem?_getD]
 cases T[k]? <;> rfl
theorem Fs{p:Pl}(o:bA p):ez p (lsD (tbP p)):=by
 have hT:=mF p
 have hbd:=o.bd
 have hch:=o.chan
 refine ⟨by unfold lsD;rw[List.length_map];exact hT.gl,fun k _=>by rw[fX];exact oc _ _,fun k _ c hc =>?_,fun k hk =>?_⟩
 ·rw[fX]at hc
  obtain ⟨j,_,e1,e2⟩:=iu.1 hc
  rw[e2];exact wL o (oZ o e1)
 ·rw[fX]
  have h1:=u5 ((tbP p).getD k []) ((tbP p).getD k []).length
  have h2:k<NT p:=by have:k<(lsD (tbP p)).length:=hk;unfold lsD at this;rw[List.length_map,hT.gl]at this;exact this
  rw[hT.rl k h2]at h1
  unfold lsT
  rw[hT.rl k h2];omega
theorem CR{p:Pl}(o:bA p){R:List (List Int)}(hn:R.length=NT p)(h:bZ p R=true){t c:Int}(r:Rch p t c):t<=endP p->0<=t/\bP (R.getD (Int.toNat t) []) c=true:=by
 have hN:NT p=Int.toNat (endP p+1):=rfl
 unfold bZ at h
 rw[Bool.and_eq_true]at h
 have pr:∀t:Nat,t<R.length->lZ p R t=true:=fun t ht=>List.all_eq_true.1 h.2 t (List.mem_range.2 ht)
 have c1:∀{t c:Int},0<=t->t<endP p->bP (R.getD (Int.toNat t) []) c=true->io p R t c=true:=fun {t c} h0 h1 hc=>by
  have q:=pr (Int.toNat t) (by omega)
  unfold lZ at q
  rw[Bool.and_eq_true,beq_false_of_ne (show ((Int.toNat t:Nat):Int)≠endP p by omega),Bool.false_or]at q
  have q2:=q.2
  unfold jx at q2
  rw[List.take_length]at q2
  have q3:=List.all_eq_true.1 q2 c (ky.1 hc)
  rwa [show ((Int.toNat t:Nat):Int)=t by omega]at q3
 induction r with
 |start=>intro _;exact ⟨Int.le_refl 0,h.1⟩
 | @wait t c r w lt ih =>
  intro ht
  have a:=ih (by omega)
  have q:=c1 a.1 lt a.2
  unfold io at q
  rw[Bool.and_eq_true,w]at q
  exact ⟨by omega,by simpa using q.1⟩
 | @leg t c x r lt m ih =>
  intro ht
  have a:=ih (by omega)
  have q:=c1 a.1 lt a.2
  unfold io at q
  rw[Bool.and_eq_true]at q
  have q2:=q.2
  unfold i9 at q2
  have b:=mQ o (.leg r lt m) ht
  exact ⟨b.1,List.all_eq_true.1 q2 x m⟩
theorem Ad{p:Pl}(o:bA p){R:List (List Int)}(hn:R.length=NT p){t:Int}(r:Rch p t p.to)(ht:t<=endP p):bZ p R=false:=by
 have hN:NT p=Int.toNat (endP p+1):=rfl
 cases h:bZ p R
 ·rfl
 ·have a:=CR o hn h r ht
  unfold bZ at h
  rw[Bool.and_eq_true]at h
  have q:=List.all_eq_true.1 h.2 (Int.toNat t) (List.mem_range.2 (by omega))
  unfold lZ at q
  rw[a.2]at q;cases q
theorem Fx{p:Pl}(o:bA p)(h:∀t:Int,t<=endP p->¬ Rch p t p.to):bZ p (lsD (tbP p))=true:=by
 have hN:NT p=Int.toNat (endP p+1):=rfl
 have hT:=mF p
 have he0:0<=endP p:=by unfold endP;have:=o.cts;omega
 have hl:(lsD (tbP p)).length=NT p:=by unfold lsD;rw[List.length_map];exact hT.gl
 have has:∀{t c:Int},Rch p t c->t<=endP p->bP ((lsD (tbP p)).getD (Int.toNat t) []) c=true:=fun {t c} r ht=>by
  have a:=mQ o r ht
  rw[fX,me];exact ⟨a.2.1.1,a.2.2⟩
 have rch:∀{t:Nat} {c:Int},c∈(lsD (tbP p)).getD t []->Rch p (t:Int) c:=fun {t c} hc=>by
  rw[fX]at hc
  obtain ⟨j,_,e1,e2⟩:=iu.1 hc
  rw[e2];exact oZ o e1
 unfold bZ
 rw[Bool.and_eq_true]
 refine ⟨has (t:=0) .start he0,List.all_eq_true.2 fun t ht =>?_⟩
 have ht:=List.mem_range.1 ht
 rw[hl]at ht
 unfold lZ
 rw[Bool.and_eq_true]
 refine ⟨?_,?_⟩
 ·cases q:bP ((lsD (tbP p)).getD t []) p.to
  ·rfl
  ·exact absurd (rch (ky.1 q)) (h t (by omega))
 ·by_cases e:(t:Int)=endP p
  ·rw[e,beq_self_eq_true];rfl
  ·rw[beq_false_of_ne e,Bool.false_or]
   unfold jx
   rw[List.take_length]
   refine List.all_eq_true.2 fun c hc =>?_
   have r:=rch hc
   unfold io
   rw[Bool.and_eq_true]
   refine ⟨?_,?_⟩
   ·cases w:wtB p c (t:Int) ((t:Int)+1)
    ·rfl
    ·rw[has (.wait r w (by omega)) (by omega)];rfl
   ·unfold i9
    exact List.all_eq_true.2 fun x hx=>has (.leg r (by omega) hx) (dX hx).2.2.2
structure Co(l:List Int)(n:Int)(k:Nat)(out:List Int)(b:Bool):Prop where
 a:Asc out
 lt:∀y∈out,∀j,k<=j->j<l.length->y<l.getD j 0
 lo:b=false->∀y∈out,y<n
 mem:∀y∈out,y∈l∨y=n
theorem Co.snoc{l:List Int}{n:Int}{k:Nat}{out:List Int}{b b2:Bool}(as_:Asc l)(I:Co l n k out b)(hk:k<l.length)(hb:b2=false->b=false/\l.getD k 0<n):Co l n (k+1) (out ++ [l.getD k 0]) b2:=by
 refine ⟨iJ I.a fun y hy=>I.lt y hy k (Nat.le_refl k) hk,fun y hy j h1 h2 =>?_,fun h y hy =>?_,fun y hy =>?_⟩
 ·rcases List.mem_append.1 hy with g|g
  ·exact I.lt y g j (by omega) h2
  ·rw[List.mem_singleton.1 g];exact as_ k j (by omega) h2
 ·rcases List.mem_append.1 hy with g|g
  ·exact I.lo (hb h).1 y g
  ·rw[List.mem_singleton.1 g];exact (hb h).2
 ·rcases List.mem_append.1 hy with g|g
  ·exact I.mem y g
  ·rw[List.mem_singleton.1 g];exact .inl (cQ hk)
theorem Hk{l:List Int}(n:Int)(as_:Asc l):∀k,k<=l.length->Co l n k (bq l n k).1 (bq l n k).2
 |0,_=>⟨fun i j _ hj=>absurd hj (Nat.not_lt_zero j),fun y hy=>(by cases hy),fun _ y hy=>(by cases hy),fun y hy=>(by cases hy)⟩
 |k+1,hk=>by
  have I:=Hk n as_ k (by omega)
  by_cases h:(bq l n k).2=false/\n<=l.getD k 0
  ·by_cases g:n<l.getD k 0
   ·rw[uV h.1 g]
    have J:Co l n k ((bq l n k).1 ++ [n]) true:=by
     refine ⟨iJ I.a fun y hy=>I.lo h.1 y hy,fun y hy j h1 h2 =>?_,fun e=>(by cases e),fun y hy =>?_⟩
     ·rcases List.mem_append.1 hy with q|q
      ·exact I.lt y q j h1 h2
      ·rw[List.mem_singleton.1 q]
       by_cases e:k=j
       ·rw[<- e];exact g
       ·have:=as_ k j (by omega) h2;omega
     ·rcases List.mem_append.1 hy with q|q
      ·exact I.mem y q
      ·exact .inr (List.mem_singleton.1 q)
    exact J.snoc as_ (by omega) fun e=>by cases e
   ·rw[put_eq h.1 h.2 g];exact I.snoc as_ (by omega) fun e=>by cases e
  ·rw[qr h]
   exact I.snoc as_ (by omega) fun e=>⟨e,by
    rcases Int.lt_or_le (l.getD k 0) n with q|q
    ·exact q
    ·exact absurd ⟨e,q⟩ h⟩
theorem CP{l:List Int}(n:Int)(as_:Asc l):Asc (cS l n)/\∀y∈cS l n,y∈l∨y=n:=by
 have I:=Hk n as_ l.length (Nat.le_refl _)
 unfold cS
 cases h:(bq l n l.length).2
 ·refine ⟨iJ I.a (I.lo h),fun y hy =>?_⟩
  rcases List.mem_append.1 hy with q|q
  ·exact I.mem y q
  ·exact .inr (List.mem_singleton.1 q)
 ·exact ⟨I.a,I.mem⟩
theorem BU{l:List Int}(as_:Asc l)(h:∀c∈l,0<=c):∀j,j<l.length->(j:Int)<=l.getD j 0
 |0,hj=>h _ (cQ hj)
 |j+1,hj=>by
  have:=BU as_ h j (by omega)
  have:=as_ j (j+1) (by omega) hj
  omega
theorem xB{l:List Int}{N:Nat}(as_:Asc l)(h:∀c∈l,0<=c/\c<(N:Int)):l.length<=N:=by
 rcases Nat.eq_zero_or_pos l.length with e|e
 ·omega
 ·have h1:=BU as_ (fun c hc=>(h c hc).1) (l.length-1) (by omega)
  have h2:=(h _ (cQ (d:=0) (show l.length-1<l.length by omega))).2
  omega
theorem ez.put{p:Pl}(o:bA p){R:List (List Int)}(ok:ez p R){k:Nat}(hk:k<R.length){c:Int}(hc:dE p.land c=true):ez p (R.set k (cS (R.getD k []) c)):=by
 have hbd:=o.bd
 have at_:∀j,j<R.length->(R.set k (cS (R.getD k []) c)).getD j []=if j=k then cS (R.getD k []) c else R.getD j []:=fun j hj=>by
  rw[List.getD_eq_getElem?_getD,List.getElem?_set]
  by_cases e:k=j
  ·rw[if_pos e,if_pos hk,if_pos e.symm];rfl
  ·rw[if_neg e,if_neg (Ne.symm e),<- List.getD_eq_getElem?_getD]
 have P:=CP c (ok.asc k hk)
 have asc:∀j,j<R.length->Asc ((R.set k (cS (R.getD k []) c)).getD j []):=fun j hj=>by
  rw[at_ j hj]
  by_cases e:j=k
  ·rw[if_pos e];exact P.1
  ·rw[if_neg e];exact ok.asc j hj
 have sea:∀j,j<R.length->∀x∈(R.set k (cS (R.getD k []) c)).getD j [],dE p.land x=true:=fun j hj x hx=>by
  rw[at_ j hj]at hx
  by_cases e:j=k
  ·rw[if_pos e]at hx
   rcases P.2 x hx with q|q
   ·exact ok.sea k hk x q
   ·rw[q];exact hc
  ·rw[if_neg e]at hx;exact ok.sea j hj x hx
 have hl:(R.set k (cS (R.getD k []) c)).length=R.length:=List.length_set
 exact ⟨by rw[hl];exact ok.n,fun j hj=>asc j (by omega),fun j hj=>sea j (by omega),fun j hj=>by
  have:=xB (asc j (by omega)) fun x hx=>(cW (sea j (by omega) x hx)).1
  omega⟩
def uB(sp:Value)(W h i k:Int)(l:List Bool):Prop :=
 (((W:Int)≠0)/\(((W:Int)≠0)/\(nw ((Int.tmod i W)-(Int.tmod k W)) (((W:Int)≠0)/\(nw (Int.tdiv i W) (((W:Int)≠0)/\(nw (Int.tdiv k W) (nw ((Int.tdiv i W)-(Int.tdiv k W)) (nw (((Int.tmod i W)-(Int.tmod k W))*((Int.tmod i W)-(Int.tmod k W))) (∃y0:Int,bw (((Int.tmod i W)-(Int.tmod k W))*((Int.tmod i W)-(Int.tmod k W))) y0/\(nw (((Int.tdiv i W)-(Int.tdiv k W))*((Int.tdiv i W)-(Int.tdiv k W))) (∃y1:Int,bw (((Int.tdiv i W)-(Int.tdiv k W))*((Int.tdiv i W)-(Int.tdiv k W))) y1/\(nw (y0+y1) ((.bool (((y0+y1):Int) == 1):Value)=sp))))))))))))))
theorem Cv(sp:Value)(W h i k:Int)(l:List Bool):vF prog msk (dm 0) 100000 true 40 true 21 [.agg #[nI W,nI h,slQ 1 2 l.length],nI i,nI k] (ce 1 [l.flatMap af]) (some [])
 (.go 4 (.need (.go 2 (.need (.go 0 (.slot 17 (nI ((Int.tmod i W)-(Int.tmod k W))) (.go 2 (.need (.slot 21 (nI (Int.tdiv i W)) (.go 2 (.need (.slot 25 (nI (Int.tdiv k W)) (.go 0 (.slot 26 (nI ((Int.tdiv i W)-(Int.tdiv k W))) (.go 4 (.slot 29 (nI (((Int.tmod i W)-(Int.tmod k W))*((Int.tmod i W)-(Int.tmod k W)))) (.bind Int (fun y0 => .slot 29 (nI y0) (.go 2 (.slot 32 (nI (((Int.tdiv i W)-(Int.tdiv k W))*((Int.tdiv i W)-(Int.tdiv k W)))) (.bind Int (fun y1 => .slot 32 (nI y1) (.go 0 (.slot 33 (nI (y0+y1)) (.auto)))))))))))))))))))))))))
 (fun v _ _=>v=sp)=uB sp W h i k l:=by kernel_rfl
def uw(W i k:Int):Bool:=((Int.tmod i W-Int.tmod k W)*(Int.tmod i W-Int.tmod k W)+(Int.tdiv i W-Int.tdiv k W)*(Int.tdiv i W-Int.tdiv k W)) == 1
theorem Ev{a:Int}(h0:0<=a)(h:a<=1100):0<=a*a/\a*a<=1210000:=by
 have h1:a*a<=1100*1100:=Int.mul_le_mul h h h0 (by decide)
 exact ⟨Int.mul_nonneg h0 h0,by omega⟩
theorem Ew{a:Int}(h : -1100<=a/\a<=1100):0<=a*a/\a*a<=1210000:=by
 rcases Int.le_total 0 a with c|c
 ·exact Ev c h.2
 ·rw[<- Int.neg_mul_neg a a];exact Ev (by omega) (by omega)
theorem I2{W h i k:Int}{l:List Bool}(hW:1<=W)(hi:0<=i/\i<1024)(hk:0<=k/\k<1024){H:Heap}{id:Nat}{own:Bool}{z:Nat}(hid:H[id]?=some (.cells own z (l.flatMap af))) :
  ae prog 21 [.agg #[nI W,nI h,slR id l.length],nI i,nI k] H [] (Is (.bool (uw W i k)) H):=by
 refine fT (css:=[l.flatMap af]) (v:=.bool (uw W i k)) (ids:=[id]) (Eq.mpr (Cv _ W h i k l) ?_) ⟨bh _ _,trivial⟩ rfl ⟨⟨_,_,hid⟩,trivial⟩ rfl
 have md:∀{x:Int},0<=x/\x<1024->(0<=Int.tmod x W/\Int.tmod x W<=1024)/\0<=Int.tdiv x W/\Int.tdiv x W<=1024:=fun {x} hx=>by
  rw[Int.tmod_eq_emod_of_nonneg hx.1,Int.tdiv_eq_ediv_of_nonneg hx.1]
  have h1:=Int.emod_nonneg x (show W≠0 by omega)
  have h5:=Int.emod_add_mul_ediv x W
  have h6:=Int.mul_nonneg (show 0<=W by omega) (Int.ediv_nonneg hx.1 (show 0<=W by omega))
  have h2:x % W<=x:=by omega
  have h3:=Int.ediv_nonneg hx.1 (show 0<=W by omega)
  have h4:=Int.ediv_le_self W hx.1
  omega
 have a:=md hi
 have b:=md hk
 have c1:=Ew (a:=Int.tmod i W-Int.tmod k W) (by omega)
 have c2:=Ew (a:=Int.tdiv i W-Int.tdiv k W) (by omega)
 delta uB nw bw
 refine ⟨by omega,by omega,ag (by omega),by omega,ag (by omega),by omega,ag (by omega),ag (by omega),ag (by omega),_,rfl,ag (by omega),_,rfl,ag (by omega),rfl⟩
theorem zK{a:Int}(h:a*a<=1):a=0∨a=1∨a = -1:=by
 have f:∀{b:Int},2<=b->4<=b*b:=fun {b} hb=>by
  have:=Int.mul_le_mul hb hb (by decide) (by omega)
  omega
 rcases Int.lt_or_le a 2 with c|c
 ·rcases Int.lt_or_le (-2) a with d|d
  ·omega
  ·have:=f (b:=-a) (by omega)
   rw[Int.neg_mul_neg]at this;omega
 ·have:=f c;omega
theorem Gu{p:Pl}(o:bA p){i k:Int}(hi:0<=i/\i<(p.land.length:Int))(hl:p.land.getD (Int.toNat i) false=false)(hk:0<=k)(h:uw p.w i k=true):i∈bsP p k:=by
 have b:=o.bas
 have hw:=b.w1
 have hn:=b.n1
 have e1:Int.tmod i p.w=i % p.w:=Int.tmod_eq_emod_of_nonneg hi.1
 have e2:Int.tdiv i p.w=i / p.w:=Int.tdiv_eq_ediv_of_nonneg hi.1
 have m1:=Int.emod_nonneg i (show p.w≠0 by omega)
 have m2:=Int.emod_lt_of_pos i (show 0<p.w by omega)
 have m3:=Int.ediv_nonneg hi.1 (show 0<=p.w by omega)
 have m4:i / p.w<p.h:=Int.ediv_lt_of_lt_mul (by omega) (by rw[Int.mul_comm];omega)
 have m5:i / p.w*p.w+i % p.w=i:=Int.ediv_mul_add_emod i p.w
 have key:∀j:Nat,j<4->Int.tmod i p.w-Int.tmod k p.w=bdx j->Int.tdiv i p.w-Int.tdiv k p.w=bdy j->i∈bsP p k:=fun j hj hx hy=>by
  have u:nbU p k j=i % p.w:=by unfold nbU;omega
  have v:nbV p k j=i / p.w:=by unfold nbV;omega
  have t:nbT p k j=i:=by unfold nbT;rw[u,v];exact m5
  unfold bsP ey
  refine List.mem_map.2 ⟨j,List.mem_filter.2 ⟨List.mem_range.2 hj,?_⟩,t⟩
  unfold nbB
  rw[t,u,v,hl,bc.2 ⟨m1,by omega⟩,bc.2 ⟨m3,by omega⟩];rfl
 unfold uw at h
 have h':=beq_iff_eq.1 h
 have s1:0<=(Int.tmod i p.w-Int.tmod k p.w)*(Int.tmod i p.w-Int.tmod k p.w):=by
  rcases Int.le_total 0 (Int.tmod i p.w-Int.tmod k p.w) with c|c
  ·exact Int.mul_nonneg c c
  ·rw[<- Int.neg_mul_neg];exact Int.mul_nonneg (by omega) (by omega)
 have s2:0<=(Int.tdiv i p.w-Int.tdiv k p.w)*(Int.tdiv i p.w-Int.tdiv k p.w):=by
  rcases Int.le_total 0 (Int.tdiv i p.w-Int.tdiv k p.w) with c|c
  ·exact Int.mul_nonneg c c
  ·rw[<- Int.neg_mul_neg];exact Int.mul_nonneg (by omega) (by omega)
 rcases zK (a:=Int.tmod i p.w-Int.tmod k p.w) (by omega) with x|x|x <;> rcases zK (a:=Int.tdiv i p.w-Int.tdiv k p.w) (by omega) with y|y|y <;> rw[x,y]at h'
 ·omega
 ·exact key 3 (by decide) x y
 ·exact key 0 (by decide) x y
 ·exact key 2 (by decide) x y
 ·omega
 ·omega
 ·exact key 1 (by decide) x y
 ·omega
 ·omega
theorem sV{m r:List Bool}{c:Nat}(hc:c<m.length):∀k,(ir m r k).getD c false=(m.getD c false ||(decide (c<k)&&r.getD c false))
 |0=>by rw[decide_eq_false (Nat.not_lt_zero c),Bool.false_and,Bool.or_false];rfl
 |k+1=>by
  have ih:=sV (m:=m) (r:=r) hc k
  show ((ir m r k).set k ((ir m r k).getD k false ||r.getD k false)).getD c false=_
  rw[List.getD_eq_getElem?_getD,List.getElem?_set]
  by_cases e:k=c
  ·subst e
   rw[if_pos rfl,if_pos (by rw[kf];exact hc),decide_eq_true (Nat.lt_succ_self k),Bool.true_and]
   rw[ih,decide_eq_false (Nat.lt_irrefl k),Bool.false_and,Bool.or_false];rfl
  ·rw[if_neg e,<- List.getD_eq_getElem?_getD,ih]
   by_cases g:c<k
   ·rw[decide_eq_true g,decide_eq_true (by omega:c<k+1)]
   ·rw[decide_eq_false g,decide_eq_false (by omega:¬ c<k+1)]
theorem ft{p:Pl}{c:Nat}(hc:c<p.chan.length):∀k,(dH p k).getD c false=true ↔ ∃t,t<k/\((tbP p).getD t []).getD c false=true
 |0=>Iff.intro (fun h=>by
   have h:(List.replicate p.chan.length false).getD c false=true:=h
   rw[List.getD_eq_getElem?_getD,List.getElem?_replicate,if_pos hc]at h;cases h) (fun h=>by obtain ⟨t,ht,_⟩:=h;exact absurd ht (Nat.not_lt_zero t))
 |k+1=>by
  have ih:=ft (p:=p) hc k
  show (ir (dH p k) ((tbP p).getD k []) ((tbP p).getD k []).length).getD c false=true ↔ _
  rw[sV (by rw[gk];exact hc),Bool.or_eq_true,ih,Bool.and_eq_true,decide_eq_true_iff]
  constructor
  ·rintro (⟨t,ht,e⟩|⟨_,e⟩)
   ·exact ⟨t,by omega,e⟩
   ·exact ⟨k,by omega,e⟩
  ·rintro ⟨t,ht,e⟩
   by_cases g:t=k
   ·subst g
    refine .inr ⟨?_,e⟩
    rcases Nat.lt_or_ge c ((tbP p).getD t []).length with q|q
    ·exact q
    ·rw[List.getD_eq_getElem?_getD,List.getElem?_eq_none q]at e;cases e
   ·exact .inl ⟨t,by omega,e⟩
def UpL:List Pt->Prop
 |a :: b :: r=>a.1<b.1/\a.2<=b.2/\UpL (b :: r)
 |_=>True
theorem zF:∀{l:List Pt},(∀i,0<i->i<l.length->(l.getD (i-1) zP).1<(l.getD i zP).1/\(l.getD (i-1) zP).2<=(l.getD i zP).2)->UpL l
 | [],_=>trivial
 | [_],_=>trivial
 |a :: b :: r,h=>by
  have h1:=h 1 (by decide) (by simp)
  refine ⟨h1.1,h1.2,zF fun i hi hl =>?_⟩
  have h2:=h (i+1) (by omega) (by simpa using hl)
  obtain ⟨j,rfl⟩:∃j,i=j+1:=⟨i-1,by omega⟩
  exact h2
theorem Hg{l:List Pt}(h:cR l 1=true):UpL l:=by
 have c:=bG h
 unfold cR at h
 rw[Bool.and_eq_true,List.all_eq_true]at h
 refine zF fun i hi hl=>⟨c.up i hi hl,?_⟩
 have:=h.2 i (List.mem_range.2 hl)
 unfold kN at this
 rw[Bool.or_eq_true,decide_eq_true_eq,Bool.not_eq_true',decide_eq_false_iff_not,Int.mul_one]at this
 omega
theorem EE{a b c d:Int}(h1:a<=b)(h2:c<=d)(hc:0<=c)(hb:0<=b):a*c<=b*d :=
 Int.le_trans (Int.mul_le_mul_of_nonneg_right h1 hc) (Int.mul_le_mul_of_nonneg_left h2 hb)
theorem wE:∀{r:List Pt} {a:Pt} {x:Int},UpL (a :: r)->a.1<=x->0<(aA (a :: r) x).2/\a.2*(aA (a :: r) x).2<=(aA (a :: r) x).1
 | [],a,x,_,_=>⟨by show (0:Int)<1;decide,by show a.2*1<=a.2;omega⟩
 |b :: r,a,x,u,hx=>by
  obtain ⟨u1,u2,u3⟩:=u
  by_cases h:x<=b.1
  ·have e:aA (a :: b :: r) x=(a.2*(b.1-a.1)+(b.2-a.2)*(x-a.1),b.1-a.1):=if_pos h
   rw[e]
   have:=Int.mul_nonneg (show 0<=b.2-a.2 by omega) (show 0<=x-a.1 by omega)
   exact ⟨by show 0<b.1-a.1;omega,by show a.2*(b.1-a.1)<=a.2*(b.1-a.1)+(b.2-a.2)*(x-a.1);omega⟩
  ·have e:aA (a :: b :: r) x=aA (b :: r) x:=if_neg h
   rw[e]
   obtain ⟨k1,k2⟩:=wE (a:=b) u3 (show b.1<=x by omega)
   exact ⟨k1,Int.le_trans (Int.mul_le_mul_of_nonneg_right u2 (by omega)) k2⟩
theorem sj:∀{r:List Pt} {a:Pt} {x y:Int},UpL (a :: r)->a.1<=x->x<=y->(aA (a :: r) x).1*(aA (a :: r) y).2<=(aA (a :: r) y).1*(aA (a :: r) x).2
 | [],a,x,y,_,_,_=>Int.le_refl _
 |b :: r,a,x,y,u,hx,hy=>by
  obtain ⟨u1,u2,u3⟩:=u
  by_cases h:x<=b.1
  ·have e:aA (a :: b :: r) x=(a.2*(b.1-a.1)+(b.2-a.2)*(x-a.1),b.1-a.1):=if_pos h
   by_cases g:y<=b.1
   ·have e':aA (a :: b :: r) y=(a.2*(b.1-a.1)+(b.2-a.2)*(y-a.1),b.1-a.1):=if_pos g
    rw[e,e']
    have:=Int.mul_le_mul_of_nonneg_left (show x-a.1<=y-a.1 by omega) (show 0<=b.2-a.2 by omega)
    exact Int.mul_le_mul_of_nonneg_right (show a.2*(b.1-a.1)+(b.2-a.2)*(x-a.1)<=a.2*(b.1-a.1)+(b.2-a.2)*(y-a.1) by omega) (show 0<=b.1-a.1 by omega)
   ·have e':aA (a :: b :: r) y=aA (b :: r) y:=if_neg g
    rw[e,e']
    obtain ⟨k1,k2⟩:=wE (a:=b) u3 (show b.1<=y by omega)
    have h1:=Int.mul_le_mul_of_nonneg_left (show x-a.1<=b.1-a.1 by omega) (show 0<=b.2-a.2 by omega)
    have h2:a.2*(b.1-a.1)+(b.2-a.2)*(b.1-a.1)=b.2*(b.1-a.1):=by rw[<- Int.add_mul];congr 1;omega
    have h3:(a.2*(b.1-a.1)+(b.2-a.2)*(x-a.1))*(aA (b :: r) y).2<=b.2*(b.1-a.1)*(aA (b :: r) y).2:=Int.mul_le_mul_of_nonneg_right (by omega) (by omega)
    have h4:b.2*(aA (b :: r) y).2*(b.1-a.1)<=(aA (b :: r) y).1*(b.1-a.1):=Int.mul_le_mul_of_nonneg_right k2 (by omega)
    have h5:b.2*(b.1-a.1)*(aA (b :: r) y).2=b.2*(aA (b :: r) y).2*(b.1-a.1):=by ac_rfl
    exact Int.le_trans h3 (h5 ▸ h4)
  ·have e:aA (a :: b :: r) x=aA (b :: r) x:=if_neg h
   have e':aA (a :: b :: r) y=aA (b :: r) y:=if_neg (by omega)
   rw[e,e']
   exact sj (a:=b) u3 (by omega) hy
structure pY(x y:Ice):Prop where
 c:0<=x.aW/\x.aW<=y.aW
 t:0<=x.ai/\x.ai<=y.ai
 r:0<=x.aw/\x.aw<=y.aw
 p:0<=x.am/\x.am<=y.am
structure xV(s:Shp):Prop where
 th:cR s.th (-1)=true
 wa:cR s.wa 1=true
 ic:cR s.ic 1=true
 n:0<=s.slow/\(0<=s.aB/\s.aB<=100)/\0<=s.rdg/\0<=s.prs
theorem HD{s:Shp}(e:aZ s=0):xV s:=by
 unfold aZ at e
 split at e
 ·cases e
 split at e
 ·cases e
 split at e
 ·cases e
 rename_i h3
 split at e
 ·cases e
 rename_i h4
 split at e
 ·cases e
 rename_i h5
 split at e
 ·cases e
 rename_i h6
 simp only[Bool.not_eq_false,Bool.and_eq_true,bc]at h3 h4 h5 h6
 exact ⟨h4.1,h5.1,h6.1.1,by omega,by omega,by omega,by omega⟩
theorem DY{a D k:Int}(hD:0<D)(ha:0<=a)(h:a<=k*D):Int.tdiv (a+D-1) D<=k:=by
 rw[Int.tdiv_eq_ediv_of_nonneg (by omega)]
 have:=Int.ediv_lt_of_lt_mul (a:=a+D-1) (b:=k+1) hD (by rw[Int.add_mul,Int.one_mul];omega)
 omega
theorem le_ceil{a D:Int}(hD:0<D)(ha:0<=a):a<=Int.tdiv (a+D-1) D*D:=by
 rw[Int.tdiv_eq_ediv_of_nonneg (by omega)]
 have h1:=Int.mul_ediv_add_emod (a+D-1) D
 have h2:=Int.emod_lt_of_pos (a+D-1) hD
 rw[Int.mul_comm]at h1
 omega
theorem zk{a' D' a D:Int}(h':0<D')(h:0<D)(ha':0<=a')(ha:0<=a)(hx:a'*D<=a*D'):Int.tdiv (a'+D'-1) D'<=Int.tdiv (a+D-1) D:=by
 refine DY h' ha' ?_
 have h1:=Int.mul_le_mul_of_nonneg_right (le_ceil h ha) (show 0<=D' by omega)
 have h2:a'*D<=Int.tdiv (a+D-1) D*D'*D:=by
  refine Int.le_trans hx (Int.le_trans h1 ?_)
  rw[Int.mul_right_comm];exact Int.le_refl _
 exact Int.le_of_mul_le_mul_right h2 h
theorem yu{s:Shp}(o:xV s){x x':Ice}(i:pY x' x){ch ch':Bool}(hc:ch=true->ch'=true){v:Int}(hv:0<=v) :
  (0<=qn s x' ch' v/\0<=qn s x ch v)/\qn s x' ch' v*((aA s.ic x.ai).2*10000000)<=qn s x ch v*((aA s.ic x'.ai).2*10000000):=by
 have co:=bG o.ic
 have hx':=i.t.1
 obtain ⟨b1,b2,_⟩:=fi co hx'
 obtain ⟨b3,b4,_⟩:=fi co (show 0<=x.ai by have:=i.t;omega)
 have cr:(aA s.ic x'.ai).1*(aA s.ic x.ai).2<=(aA s.ic x.ai).1*(aA s.ic x'.ai).2:=by
  have u:=Hg o.ic
  have hl:=co.len
  have h0:=co.x0
  cases hs:s.ic with
  |nil=>rw[hs]at hl;simp at hl
  |cons a r=>rw[hs]at u h0;exact sj u (by show a.1<=_;have:a.1=0:=h0;omega) i.t.2
 have hsh:0<=(if ch' then s.aB else 100)/\(if ch' then s.aB else 100)<=(if ch then s.aB else 100):=by
  have:=o.n
  cases ch <;> cases ch' <;> simp_all
 have hri:0<=(if ch' then 0 else x'.aw)/\(if ch' then 0 else x'.aw)<=(if ch then 0 else x.aw):=by
  have:=i.r
  cases ch <;> cases ch' <;> simp_all <;> omega
 unfold qn
 generalize (if ch' then s.aB else 100)=sh' at *
 generalize (if ch then s.aB else 100)=sh at *
 generalize (if ch' then 0 else x'.aw)=ri' at *
 generalize (if ch then 0 else x.aw)=ri at *
 generalize (aA s.ic x'.ai).1=a' at *
 generalize (aA s.ic x'.ai).2=d' at *
 generalize (aA s.ic x.ai).1=a at *
 generalize (aA s.ic x.ai).2=d at *
 have hA:0<=1000+s.slow*v:=by have:=Int.mul_nonneg o.n.1 hv;omega
 generalize 1000+s.slow*v=A at *
 have hg:=o.n.2.2.1
 generalize s.rdg=g at *
 have t1':0<=a'*A*sh':=Int.mul_nonneg (Int.mul_nonneg b2 hA) hsh.1
 have t2':0<=g*ri'*d'*100000:=Int.mul_nonneg (Int.mul_nonneg (Int.mul_nonneg hg hri.1) (by omega)) (by decide)
 have t1:0<=a*A*sh:=Int.mul_nonneg (Int.mul_nonneg b4 hA) (by omega)
 have t2:0<=g*ri*d*100000:=Int.mul_nonneg (Int.mul_nonneg (Int.mul_nonneg hg (by omega)) (by omega)) (by decide)
 have c1:a'*A*sh'*d<=a*A*sh*d':=by
  have e1:a'*A*sh'*d=a'*d*(A*sh'):=by ac_rfl
  have e2:a*A*sh*d'=a*d'*(A*sh):=by ac_rfl
  rw[e1,e2]
  exact EE cr (Int.mul_le_mul_of_nonneg_left hsh.2 hA) (Int.mul_nonneg hA hsh.1) (Int.mul_nonneg b4 (by omega))
 have c2:g*ri'*d'*100000*d<=g*ri*d*100000*d':=by
  have e1:g*ri'*d'*100000*d=ri'*(g*d'*100000*d):=by ac_rfl
  have e2:g*ri*d*100000*d'=ri*(g*d'*100000*d):=by ac_rfl
  rw[e1,e2]
  exact Int.mul_le_mul_of_nonneg_right hri.2 (Int.mul_nonneg (Int.mul_nonneg (Int.mul_nonneg hg (by omega)) (by decide)) (by omega))
 refine ⟨⟨Int.mul_nonneg i.c.1 (by omega),Int.mul_nonneg (by have:=i.c;omega) (by omega)⟩,?_⟩
 have c3:(a'*A*sh'+g*ri'*d'*100000)*d<=(a*A*sh+g*ri*d*100000)*d':=by rw[Int.add_mul,Int.add_mul];omega
 have c4:=EE i.c.2 c3 (Int.mul_nonneg (by omega) (by omega)) (by have:=i.c;omega)
 have c5:=Int.mul_le_mul_of_nonneg_right c4 (show (0:Int)<=10000000 by decide)
 have e1:x'.aW*(a'*A*sh'+g*ri'*d'*100000)*(d*10000000)=x'.aW*((a'*A*sh'+g*ri'*d'*100000)*d)*10000000:=by ac_rfl
 have e2:x.aW*(a*A*sh+g*ri*d*100000)*(d'*10000000)=x.aW*((a*A*sh+g*ri*d*100000)*d')*10000000:=by ac_rfl
 rw[e1,e2];exact c5
theorem yv{s:Shp}(o:xV s){x x':Ice}(i:pY x' x){ch ch':Bool}(hc:ch=true->ch'=true){v:Int}(hv:0<=v):qo s x' ch' v<=qo s x ch v:=by
 have co:=bG o.ic
 obtain ⟨b1,_,_⟩:=fi co i.t.1
 obtain ⟨b3,_,_⟩:=fi co (show 0<=x.ai by have:=i.t;omega)
 obtain ⟨w1,w2,_⟩:=fi (bG o.wa) hv
 obtain ⟨⟨n1,n2⟩,n3⟩:=yu o i hc hv
 unfold qo
 dsimp only
 have hp:=o.n.2.2.2
 have hpr:=i.p
 generalize qn s x' ch' v=n' at *
 generalize qn s x ch v=n at *
 generalize (aA s.wa v).1=w at *
 generalize (aA s.wa v).2=wd at *
 have d1:0<(aA s.ic x'.ai).2*10000000:=by omega
 have d2:0<(aA s.ic x.ai).2*10000000:=by omega
 generalize (aA s.ic x'.ai).2*10000000=d' at *
 generalize (aA s.ic x.ai).2*10000000=d at *
 have p1:0<=s.prs*x'.am:=Int.mul_nonneg hp hpr.1
 have p2:s.prs*x'.am<=s.prs*x.am:=Int.mul_le_mul_of_nonneg_left hpr.2 hp
 generalize s.prs*x'.am=P' at *
 generalize s.prs*x.am=P at *
 have hw:0<wd:=by omega
 refine zk (Int.mul_pos hw d1) (Int.mul_pos hw d2) ?_ ?_ ?_
 ·have:=Int.mul_nonneg w2 (show 0<=d' by omega)
  have:=Int.mul_nonneg n1 (show 0<=wd by omega)
  have:=Int.mul_nonneg (Int.mul_nonneg p1 (show 0<=wd by omega)) (show 0<=d' by omega)
  omega
 ·have:=Int.mul_nonneg w2 (show 0<=d by omega)
  have:=Int.mul_nonneg n2 (show 0<=wd by omega)
  have:=Int.mul_nonneg (Int.mul_nonneg (show 0<=P by omega) (show 0<=wd by omega)) (show 0<=d by omega)
  omega
 ·rw[Int.add_mul,Int.add_mul,Int.add_mul,Int.add_mul]
  have e1:w*d'*(wd*d)=w*d*(wd*d'):=by ac_rfl
  have e2:n'*wd*(wd*d)=n'*d*(wd*wd):=by ac_rfl
  have e3:n*wd*(wd*d')=n*d'*(wd*wd):=by ac_rfl
  have e4:P'*wd*d'*(wd*d)=P'*(wd*d'*(wd*d)):=by ac_rfl
  have e5:P*wd*d*(wd*d')=P*(wd*d'*(wd*d)):=by ac_rfl
  rw[e1,e2,e3,e4,e5]
  have f1:=Int.mul_le_mul_of_nonneg_right n3 (Int.mul_nonneg (show 0<=wd by omega) (show 0<=wd by omega))
  have f2:=Int.mul_le_mul_of_nonneg_right p2 (Int.mul_nonneg (Int.mul_nonneg (show 0<=wd by omega) (show 0<=d' by omega)) (Int.mul_nonneg (show 0<=wd by omega) (show 0<=d by omega)))
  omega
theorem uR{a b:Int}(ha:0<=a)(h:a<=b):0<=Int.tdiv (a+1) 2/\Int.tdiv (a+1) 2<=Int.tdiv (b+1) 2/\Int.tdiv (a+1) 2<=a:=by
 rw[Int.tdiv_eq_ediv_of_nonneg (by omega),Int.tdiv_eq_ediv_of_nonneg (by omega)];omega
theorem u6{x x':Ice}(i:pY x' x){ch ch':Bool}(hc:ch=true->ch'=true){v:Int}(hv:0<=v):gY x' v ch'<=gY x v ch:=by
 have hc1:=i.c;have ht:=i.t;have hr:=i.r;have hp:=i.p
 have t0:0<=x'.ai*(100+v):=Int.mul_nonneg ht.1 (by omega)
 have t1:x'.ai*(100+v)<=x.ai*(100+v):=Int.mul_le_mul_of_nonneg_right ht.2 (by omega)
 have q:=uR t0 t1
 unfold gY
 generalize x'.ai*(100+v)=a at *
 generalize x.ai*(100+v)=b at *
 by_cases h:x'.aW=0
 ·rw[if_pos h]
  split
  ·omega
  ·cases ch <;> simp <;> omega
 ·rw[if_neg h,if_neg (show ¬ x.aW=0 by omega)]
  cases ch <;> cases ch' <;> simp_all <;> omega
theorem kD{f g:Int->Bool}:∀(n:Nat) {lo hi:Int},lo<=hi->(∀v,lo<=v->v<=hi->f v=true->g v=true)->bsG f n lo hi<=bsG g n lo hi
 |0,_,_,_,_=>Int.le_refl _
 |n+1,lo,hi,hl,h=>by
  show (if lo<hi then _ else _)<=(if lo<hi then _ else _)
  by_cases q:lo<hi
  ·rw[if_pos q,if_pos q]
   have m:lo<lo+Int.tdiv (hi-lo+1) 2/\lo+Int.tdiv (hi-lo+1) 2<=hi:=by rw[Int.tdiv_eq_ediv_of_nonneg (by omega)];omega
   by_cases hf:f (lo+Int.tdiv (hi-lo+1) 2)=true
   ·rw[if_pos hf,if_pos (h _ (by omega) m.2 hf)]
    exact kD n m.2 fun v a b=>h v (by omega) b
   ·rw[if_neg hf]
    by_cases hg:g (lo+Int.tdiv (hi-lo+1) 2)=true
    ·rw[if_pos hg]
     have a:=(lw f n lo (lo+Int.tdiv (hi-lo+1) 2-1) (by omega)).2
     have b:=(lw g n (lo+Int.tdiv (hi-lo+1) 2) hi m.2).1
     omega
    ·rw[if_neg hg]
     exact kD n (by omega) fun v a b=>h v a (by omega)
  ·rw[if_neg q,if_neg q];exact Int.le_refl _
theorem nc{s:Shp}(o:xV s){x x':Ice}(i:pY x' x){ch ch':Bool}(hc:ch=true->ch'=true){v:Int}(hv:0<=v)(h:mkB s x ch v=true):mkB s x' ch' v=true:=by
 unfold mkB at *
 rw[Bool.and_eq_true,decide_eq_true_eq,decide_eq_true_eq]at *
 have:=yv o i hc hv
 exact ⟨h.1,by omega⟩
theorem BR{s:Shp}{x x':Ice}(i:pY x' x){ch ch':Bool}(hc:ch=true->ch'=true){v:Int}(hv:0<=v)(h:brB s x ch v=true):brB s x' ch' v=true:=by
 unfold brB at *
 rw[decide_eq_true_eq]at *
 have:=u6 i hc hv
 omega
structure oz(a b:Cell):Prop where
 c:a.aW.hi<=b.aW.hi
 t:a.ai.hi<=b.ai.hi
 r:a.aw.hi<=b.aw.hi
 p:a.am.hi<=b.am.hi
theorem oz.refl(a:Cell):oz a a:=⟨Int.le_refl _,Int.le_refl _,Int.le_refl _,Int.le_refl _⟩
theorem zO{s:Shp}{a b:Cell}(ha:bv a)(hb:bv b)(l:oz a b){ch ch':Bool}(hc:ch=true->ch'=true):(sfX s b ch).1<=(sfX s a ch').1:=by
 unfold sfX
 by_cases e:aZ s=0
 ·have o:=HD e
  rw[if_pos e,if_pos e,if_pos (show aP b=0 from if_pos hb),if_pos (show aP a=0 from if_pos ha)]
  have i:pY (da a) (da b):=by
   obtain ⟨h1,h2,h3,h4⟩:=ha
   unfold cG at h1 h2 h3 h4
   exact ⟨⟨by show 0<=a.aW.hi;omega,l.c⟩,⟨by show 0<=a.ai.hi;omega,l.t⟩,⟨by show 0<=a.aw.hi;omega,l.r⟩,⟨by show 0<=a.am.hi;omega,l.p⟩⟩
  have g0:0<=(sfS s a ch').1:=by
   unfold sfS
   split
   ·exact Int.le_refl _
   ·split
    ·exact Int.le_refl _
    ·exact (Bq s _ _).1
  have s0:kO s (da b) ch<=kO s (da a) ch':=by
   unfold kO grG
   by_cases q:mkB s (da b) ch 0=true
   ·rw[if_pos q,if_pos (nc o i hc (Int.le_refl _) q)]
    exact kD _ (by decide) fun v h1 h2 h3=>nc o i hc h1 h3
   ·rw[if_neg q]
    split
    ·exact (lw _ _ _ _ (by decide)).1
    ·exact Int.le_refl _
  unfold sfS at *
  by_cases q:kO s (da b) ch<10
  ·rw[if_pos q];exact g0
  ·rw[if_neg q]
   rw[if_neg (show ¬ kO s (da a) ch'<10 by omega)]at g0 ⊢
   by_cases r:(goS s (da b) ch).2=false
   ·rw[if_pos r];exact g0
   ·rw[if_neg r]
    have mm:∀v:Int,0<=v->mbB s (da b) ch v=true->mbB s (da a) ch' v=true:=fun v hv h=>by
     unfold mbB at *
     rw[Bool.and_eq_true]at *
     exact ⟨nc o i hc hv h.1,BR i hc hv h.2⟩
    unfold goS grG at r ⊢
    by_cases f:mbB s (da b) ch 10=true
    ·rw[if_pos f]
     have f':=mm 10 (by decide) f
     rw[if_pos f',if_neg (fun e=>by cases e)]
     exact kD _ (by decide) fun v h1 h2 h3=>mm v (by omega) h3
    ·rw[if_neg f]at r;exact absurd rfl r
 ·rw[if_neg e]
  show 0<=_
  split
  ·split
   ·unfold sfS
    split
    ·exact Int.le_refl _
    ·split
     ·exact Int.le_refl _
     ·exact (Bq s _ _).1
   ·exact Int.le_refl _
  ·exact Int.le_refl _
theorem Walk.waits{p:Pl}{l:List Leg}{c t:Int}(k:Walk p l c t):∀n:Nat,t+(n:Int)<=endP p->wtB p c t (t+(n:Int))=true->Walk p l c (t+(n:Int))
 |0,_,_=>by rw[show t+((0:Nat):Int)=t by omega];exact k
 |n+1,h,w=>by
  have w':=fR.1 w
  have k1:=Walk.waits k n (by omega) (fR.2 fun u h1 h2=>w' u h1 (by omega))
  have q:=w' (t+(n:Int)) (by omega) (by omega)
  have:=k1.le
  rw[show t+((n+1:Nat):Int)=t+(n:Int)+1 by omega]
  exact ⟨k1.ok,k1.at_,k1.r0,.wait k1.r (wx q) (by omega),by omega,mv k1.le k1.w q,by omega⟩
theorem w5{p:Pl}{a:Int}:∀(n:Nat) {c t:Int},t<=a->Int.toNat (a-t)=n->lfP p a c t=0->c=p.to
 |0,c,t,h1,h2,h3=>by
  obtain rfl:t=a:=by omega
  rw[iS]at h3
  by_cases e:c=p.to
  ·exact e
  ·rw[if_neg e]at h3;omega
 |n+1,c,t,h1,h2,h3=>by
  have hlt:t<a:=by omega
  rw[lb hlt]at h3
  rcases nj p a (lgP p c t) (lf0 p a c t) with e|⟨x,hx,hxa,e⟩
  ·rw[e]at h3
   unfold lf0 at h3
   by_cases w:wtB p c t (t+1)=true
   ·rw[if_pos w]at h3
    exact w5 n (by omega) (by omega) h3
   ·rw[if_neg w]at h3;omega
  ·have:=(Ay p (c:=x.to) hxa).1;omega
theorem pQ{p:Pl}(o:bA p)(h:0<=bC p):∀k:Nat,(k:Int)<=lfP p (bC p) p.frm 0->Walk p (bsL p (bC p) k) (bsC p (bC p) k) (bsT p (bC p) k)
 |0,_=>Walk.start o
 |k+1,hk=>by
  have b:=Gs o h
  have ih:=pQ o h k (by omega)
  have A:=D1 o b k (by omega)
  have hp:=oh A.t.2 (by have:=A.n;omega) (by have:=A.n;have:=b.fin;omega)
  obtain ⟨j,j1,j2,j3,j4,_⟩:=uy (x:=nxL p (bC p) k) (ua hp)
  have w:=ih.waits j (by have:=b.a1;omega) j2
  have:=w.leg j3
  rw[um,BQ,BO];exact this
structure GY(p:Pl):Prop where
 w:Walk p (bi p) p.to (bC p)
 t:acT (bi p) (bi p).length=bC p
 n:(bi p).length<=300
theorem D4{p:Pl}(o:bA p)(h:0<=bC p):GY p:=by
 have b:=Gs o h
 have he:=xu o
 have n0:=(Ay p (c:=p.frm) b.a0).1
 have e:bi p=bsL p (bC p) (Int.toNat (lfP p (bC p) p.frm 0)):=by unfold bi dT;rw[if_neg (by omega)]
 have k:=pQ o h (Int.toNat (lfP p (bC p) p.frm 0)) (by omega)
 have A:=D1 o b (Int.toNat (lfP p (bC p) p.frm 0)) (by omega)
 have z:lfP p (bC p) (bsC p (bC p) (Int.toNat (lfP p (bC p) p.frm 0))) (bsT p (bC p) (Int.toNat (lfP p (bC p) p.frm 0)))=0:=by have:=A.n;unfold bsN at this;omega
 have hc:=w5 _ A.t.2 rfl z
 rw[hc]at k
 have l:=(i6 o k.r k.e).2
 have ht:bsT p (bC p) (Int.toNat (lfP p (bC p) p.frm 0))=bC p:=by have:=A.t.2;omega
 rw[ht]at k
 have l0:=(i6 o k.r0 (by have:=k.le;have:=k.e;omega)).2
 rw[<- e]at k l0
 refine ⟨k,by have:=k.le;omega,?_⟩
 have l1:=(EG k.r (Int.le_refl _)).2
 rw[iS,if_pos rfl]at l1
 rw[e,xA]
 have:=b.a1
 omega
structure Inn(q p:Pl):Prop where
 w:q.w=p.w
 h:q.h=p.h
 land:q.land=p.land
 shp:q.shp=p.shp
 size:q.size=p.size
 frm:q.frm=p.frm
 to:q.to=p.to
 cts:q.cts.length=p.cts.length
 chan:∀j:Nat,p.chan.getD j false=true->q.chan.getD j false=true
 rp:∀i j:Nat,bv ((p.cts.getD i zCh).cells.getD j ak)
 rq:∀i j:Nat,bv ((q.cts.getD i zCh).cells.getD j ak)
 le:∀i j:Nat,oz ((q.cts.getD i zCh).cells.getD j ak) ((p.cts.getD i zCh).cells.getD j ak)
theorem zV:bv ak:=by unfold bv cG ak;decide
theorem bA.right{p:Pl}(o:bA p)(i j:Nat):bv ((p.cts.getD i zCh).cells.getD j ak):=by
 by_cases hi:i<p.cts.length
 ·by_cases hj:j<(p.cts.getD i zCh).cells.length
  ·exact (o.BK hi).cell j hj
  ·rw[List.getD_eq_getElem?_getD (l:=(p.cts.getD i zCh).cells),List.getElem?_eq_none (by omega)];exact zV
 ·rw[List.getD_eq_getElem?_getD (l:=p.cts),List.getElem?_eq_none (by omega)];exact zV
theorem Inn.sf{q p:Pl}(n:Inn q p)(c t:Int):sfP p c t<=sfP q c t:=by
 unfold sfP
 rw[n.shp]
 exact zO (n.rq _ _) (n.rp _ _) (n.le _ _) (n.chan _)
theorem Inn.BG{q p:Pl}(n:Inn q p):endP q=endP p:=by unfold endP;rw[n.cts]
theorem Inn.bs{q p:Pl}(n:Inn q p)(c:Int):bsP q c=bsP p c:=by
 unfold bsP ey nbB nbT nbU nbV
 rw[n.w,n.h,n.land]
theorem Inn.tk{q p:Pl}(n:Inn q p)(v:Int):tkP q v=tkP p v:=by unfold tkP;rw[n.size]
theorem Inn.wt{q p:Pl}(n:Inn q p){c a b:Int}(h:wtB p c a b=true):wtB q c a b=true:=fR.2 fun u h1 h2=>by
 have:=fR.1 h u h1 h2
 have:=zN p c (Int.tdiv u 6)
 have:=n.sf c (Int.tdiv u 6)
 omega
theorem Inn.low{q p:Pl}(n:Inn q p)(to t:Int):∀k,br p to t k<=br q to t k
 |0=>Int.le_refl _
 |k+1=>by
  have i:=n.low to t k
  have s:=n.sf to (Int.tdiv (t+(k:Int)) 6)
  show (if _ then _ else _)<=(if _ then _ else _)
  split <;> split <;> omega
theorem Inn.sp{q p:Pl}(n:Inn q p)(to t:Int)(k:Nat):spL p to t k<=spL q to t k:=by
 have l:=n.low to t k
 unfold spL
 rw[n.size]
 split
 ·split <;> split <;> omega
 ·exact l
theorem kM{s v m:Int}(hs:0<=s)(hv:1<=v):Int.tdiv (s+v-1) v=m ↔ v*(m-1)<s/\s<=v*m:=by
 rw[Int.tdiv_eq_ediv_of_nonneg (by omega)]
 have h1:=Int.mul_ediv_add_emod (s+v-1) v
 have h2:=Int.emod_nonneg (s+v-1) (show v≠0 by omega)
 have h3:=Int.emod_lt_of_pos (s+v-1) (show 0<v by omega)
 have e1:∀m:Int,v*(m-1)=v*m-v:=fun m=>by rw[Int.mul_sub,Int.mul_one]
 constructor
 ·rintro rfl
  rw[e1]
  exact ⟨by omega,by omega⟩
 ·rintro ⟨g1,g2⟩
  rw[e1]at g1
  have a:(s+v-1) / v<m+1:=Int.ediv_lt_of_lt_mul (by omega) (by rw[Int.mul_comm,Int.mul_add,Int.mul_one];omega)
  have b:m<=(s+v-1) / v:=Int.le_ediv_of_mul_le (by omega) (by rw[Int.mul_comm];omega)
  omega
theorem DZ{s k v:Int}(hs:0<=s)(hk:1<=k):v<=Int.tdiv (s-1) k->1<=s->v*k<s:=fun h h1=>by
 rw[Int.tdiv_eq_ediv_of_nonneg (by omega)]at h
 have:=(Int.le_ediv_iff_mul_le (by omega)).1 h
 omega
theorem CJ(p:Pl)(to t:Int){n:Nat}(h:1<n):spL p to t n<=Int.tdiv (6*p.size-1) ((n:Int)-1):=by
 unfold spL
 rw[if_pos h]
 split <;> omega
theorem Inn.leg{q p:Pl}(n:Inn q p)(hz:1<=p.size){c t:Int}{x:Leg}(h:x∈lgP p c t):∃y∈lgP q c t,y.to=x.to/\y.arr=x.arr:=by
 unfold lgP at h ⊢
 obtain ⟨to,h1,h2⟩:=List.mem_flatMap.1 h
 obtain ⟨k,h3,h4⟩:=jC h2
 obtain ⟨e1,e2,e3,e4,e5,e6⟩:=la h4
 refine ⟨⟨to,t,spL q to t (k+1),t+1+(k:Int)⟩,List.mem_flatMap.2 ⟨to,by rw[n.bs];exact h1,?_⟩,e1.symm,e3.symm⟩
 have ok:okL q to t (k+1)=true:=by
  unfold okL at e5 ⊢
  rw[List.all_eq_true]at e5 ⊢
  intro j hj
  have g:=e5 j hj
  unfold goB at g ⊢
  rw[Bool.and_eq_true,decide_eq_true_eq,decide_eq_true_eq]at g ⊢
  have:=n.low to t (j+1);have:=n.sp to t (j+1)
  omega
 have g:=Ai e5 (Nat.lt_succ_self k)
 unfold goB at g
 rw[Bool.and_eq_true,decide_eq_true_eq,decide_eq_true_eq]at g
 have sp:=n.sp to t (k+1)
 rw[e4]at e6
 unfold tkP at e6
 have u:=(kM (by omega) (by omega)).1 e6
 have tk:tkP q (spL q to t (k+1))=((k+1:Nat):Int):=by
  unfold tkP
  rw[n.size]
  refine (kM (by omega) (by omega)).2 ⟨?_,Int.le_trans u.2 (Int.mul_le_mul_of_nonneg_right sp (by omega))⟩
  by_cases q1:1<k+1
  ·have c:=CJ q to t q1
   rw[n.size]at c
   exact DZ (by omega) (by omega) c (by omega)
  ·rw[show (((k+1:Nat):Int)-1)=0 by omega,Int.mul_zero];omega
 unfold iv bz
 refine List.mem_flatMap.2 ⟨k,List.mem_range.2 (by rw[n.BG];omega),?_⟩
 unfold dp
 rw[ok,show (tkP q (spL q to t (k+1)) == ((k+1:Nat):Int))=true from beq_iff_eq.2 tk]
 exact List.mem_singleton.2 rfl
theorem Inn.rch{q p:Pl}(n:Inn q p)(hz:1<=p.size){t c:Int}(r:Rch p t c):Rch q t c:=by
 induction r with
 |start=>rw[<- n.frm];exact .start
 |wait r w h ih=>exact .wait ih (n.wt w) (by rw[n.BG];exact h)
 |leg r h m ih =>
  obtain ⟨y,hy,e1,e2⟩:=n.leg hz m
  rw[<- e1,<- e2];exact .leg ih (by rw[n.BG];exact h) hy
theorem Inn.arr{q p:Pl}(n:Inn q p)(oq:bA q)(op:bA p)(h:0<=bC p):0<=bC q/\bC q<=bC p:=by
 have b:=D4 op h
 have r:=n.rch op.size.1 b.w.r
 rw[<- n.to]at r
 exact i6 oq r (by rw[n.BG];exact b.w.e)
theorem Inn.acE{q p:Pl}(n:Inn q p){c t:Int}{x:Leg}(h:acE p c t x=0):acE q c t x=0:=by
 obtain ⟨a,b,d,e⟩:=B0 h
 refine wj (i7.2 ?_) (by rw[n.BG];exact b) (n.wt d) ?_
 ·have:=i7.1 a
  rw[n.bs,n.tk];exact this
 ·unfold yE at e ⊢
  rw[List.all_eq_true]at e ⊢
  intro j hj
  have:=e j hj
  rw[Bool.not_eq_true',decide_eq_false_iff_not]at this ⊢
  unfold acD at this ⊢
  have:=n.sf x.to (Int.tdiv (x.dep+(j:Int)) 6)
  omega
theorem Inn.acC{q p:Pl}(n:Inn q p)(l:List Leg):∀k,acC q l k=acC p l k
 |0=>n.frm
 |k+1=>rfl
theorem pu{q p:Pl}(n:Inn q p){x:Leg}{a b:Int}(h:a<=b):∀k,Ap p x a k<=Ap q x b k
 |0=>h
 |k+1=>by
  have i:=pu n (x:=x) h k
  have s:acD p x k<=acD q x k:=by unfold acD;have:=n.sf x.to (Int.tdiv (x.dep+(k:Int)) 6);omega
  show (if _ then _ else _)<=(if _ then _ else _)
  split <;> split <;> omega
theorem ux{q p:Pl}(n:Inn q p)(l:List Leg):∀k,acM p l k<=acM q l k
 |0=>Int.le_refl _
 |k+1=>pu n (ux n l k) _
theorem Inn.acc{q p:Pl}(n:Inn q p){l:List Leg}(h:ru p l=0):ru q l=0/\D6 q l=D6 p l/\BX p l<=BX q l:=by
 have h':=h
 unfold ru at h'
 by_cases hl:300<l.length
 ·rw[if_pos hl]at h';cases h'
 rw[if_neg hl]at h'
 obtain ⟨h1,h2⟩:=e7 h'
 have e:ru q l=0:=by
  unfold ru
  rw[if_neg hl,cj (ra fun i hi =>?_),n.acC,n.to]
  ·exact h2
  ·unfold acU
   rw[n.acC]
   exact n.acE (fw h1 i hi)
 refine ⟨e,?_,?_⟩
 ·unfold D6;rw[if_pos e,if_pos h]
 ·unfold BX;rw[if_pos e,if_pos h];exact ux n l _
def Still(p:Pl):Prop:=∀i,i<p.cts.length->(p.cts.getD i zCh).cells=(p.cts.getD 0 zCh).cells
theorem Still.sf{p:Pl}(s:Still p){c t:Int}(h0:0<=t)(h1:t<endP p):sfP p c (Int.tdiv t 6)=sfP p c 0:=by
 have d:=Eu (e:=((p.cts.length:Nat):Int)) h0 h1
 unfold sfP
 rw[s (Int.toNat (Int.tdiv t 6)) (by omega)];rfl
theorem Still.low{p:Pl}(s:Still p){to t:Int}(h0:0<=t):∀n:Nat,t+(n:Int)+1<=endP p->br p to t (n+1)=sfP p to 0
 |0,h=>by
  show (if sfP p to (Int.tdiv (t+((0:Nat):Int)) 6)<br p to t 0 then sfP p to (Int.tdiv (t+((0:Nat):Int)) 6) else br p to t 0)=_
  have e:br p to t 0=250:=rfl
  have b:=(zN p to 0).2
  rw[e,s.sf (by omega) (by omega)]
  split <;> omega
 |n+1,h=>by
  show (if sfP p to (Int.tdiv (t+((n+1:Nat):Int)) 6)<br p to t (n+1) then sfP p to (Int.tdiv (t+((n+1:Nat):Int)) 6) else br p to t (n+1))=_
  rw[s.low h0 n (by omega),s.sf (by omega) (by omega),if_neg (Int.lt_irrefl _)]
def tkS(p:Pl)(c:Int):Int:=tkP p (sfP p c 0)
theorem qd{p:Pl}(hz:1<=p.size){v:Int}(hv:1<=v):1<=tkP p v:=by
 have h:=(kM (s:=6*p.size) (m:=tkP p v) (by omega) hv).1 rfl
 rcases Int.lt_or_le (tkP p v) 1 with g|g
 ·have:=Int.mul_le_mul_of_nonneg_left (show tkP p v<=0 by omega) (show 0<=v by omega)
  omega
 ·exact g
theorem CG{p:Pl}(hz:1<=p.size){v w:Int}(hv:1<=v)(h:v<=w):tkP p w<=tkP p v:=by
 have a:=(kM (s:=6*p.size) (m:=tkP p v) (by omega) hv).1 rfl
 have b:=(kM (s:=6*p.size) (m:=tkP p w) (by omega) (show 1<=w by omega)).1 rfl
 have c:=qd hz hv
 rcases Int.lt_or_le (tkP p v) (tkP p w) with g|g
 ·have d:=Int.mul_le_mul_of_nonneg_left (show tkP p v<=tkP p w-1 by omega) (show 0<=w by omega)
  have e:=Int.mul_le_mul_of_nonneg_right h (show 0<=tkP p v by omega)
  omega
 ·exact g
theorem Still.leg{p:Pl}(s:Still p)(hz:1<=p.size){c t to:Int}(hto:to∈bsP p c)(h0:0<=t)(hv:10<=sfP p to 0)(he:t+tkS p to<=endP p):∃x∈lgP p c t,x.to=to/\x.arr=t+tkS p to:=by
 have k1:=qd hz (show 1<=sfP p to 0 by omega)
 obtain ⟨k,hk⟩:∃k:Nat,tkP p (sfP p to 0)=((k+1:Nat):Int):=⟨Int.toNat (tkP p (sfP p to 0)-1),by omega⟩
 have u:=(kM (s:=6*p.size) (by omega) (show 1<=sfP p to 0 by omega)).1 hk
 unfold tkS at he ⊢
 rw[hk]at he ⊢
 have sp:∀j:Nat,j<=k->spL p to t (j+1)=sfP p to 0:=fun j hj=>by
  have l:=s.low (to:=to) h0 j (by omega)
  unfold spL
  rw[l]
  by_cases q:1<j+1
  ·rw[if_pos q]
   have m:=Int.mul_le_mul_of_nonneg_left (show ((j:Nat):Int)<=(((k+1:Nat):Int)-1) by omega) (show 0<=sfP p to 0 by omega)
   have d:sfP p to 0<=Int.tdiv (6*p.size-1) (((j+1:Nat):Int)-1):=by
    rw[Int.tdiv_eq_ediv_of_nonneg (by omega)]
    refine Int.le_ediv_of_mul_le (by omega) ?_
    rw[show (((j+1:Nat):Int)-1)=(j:Int) by omega]
    omega
   rw[if_neg (by omega)]
  ·rw[if_neg q]
 refine ⟨⟨to,t,spL p to t (k+1),t+1+(k:Int)⟩,List.mem_flatMap.2 ⟨to,hto,?_⟩,rfl,by show t+1+(k:Int)=_;omega⟩
 have ok:okL p to t (k+1)=true:=by
  unfold okL
  rw[List.all_eq_true]
  intro j hj
  have:=List.mem_range.1 hj
  unfold goB
  rw[sp j (by omega),s.low h0 j (by omega),Bool.and_eq_true,decide_eq_true_eq]
  exact ⟨hv,hv⟩
 unfold iv bz
 refine List.mem_flatMap.2 ⟨k,List.mem_range.2 (by omega),?_⟩
 unfold dp
 rw[ok,show (tkP p (spL p to t (k+1)) == ((k+1:Nat):Int))=true from beq_iff_eq.2 (by rw[sp k (Nat.le_refl k)];exact hk)]
 exact List.mem_singleton.2 rfl
def smS(p:Pl)(l:List Leg):Nat->Int
 |0=>0
 |k+1=>smS p l k+tkS p (l.getD k zL).to
theorem Still.go{p:Pl}(s:Still p)(hz:1<=p.size){l:List Leg}(h:cU (acU p l) l.length=0):∀k,k<=l.length->(0<=smS p l k/\smS p l k<=acT l k)/\Rch p (smS p l k) (acC p l k)/\∀j,j<k->10<=sfP p (l.getD j zL).to 0
 |0,_=>⟨⟨Int.le_refl _,Int.le_refl _⟩,.start,fun j hj=>absurd hj (Nat.not_lt_zero j)⟩
 |k+1,hk=>by
  obtain ⟨⟨i0,i1⟩,i2,i3⟩:=s.go hz h k (by omega)
  have e:acE p (acC p l k) (acT l k) (l.getD k zL)=0:=fw h k (by omega)
  obtain ⟨a,b,_,d⟩:=B0 e
  obtain ⟨b1,b2,b3,b4,b5⟩:=i7.1 a
  have b3:=bc.1 b3
  have tp:=qd hz (show 1<=(l.getD k zL).spd by omega)
  have hN:0<lgN (l.getD k zL):=by unfold lgN;omega
  have g:=List.all_eq_true.1 d 0 (List.mem_range.2 hN)
  rw[Bool.not_eq_true',decide_eq_false_iff_not]at g
  unfold acD at g
  rw[s.sf (by omega) (by omega)]at g
  have hv:10<=sfP p (l.getD k zL).to 0:=by omega
  have tm:=CG (w:=sfP p (l.getD k zL).to 0) hz (show 1<=(l.getD k zL).spd by omega) (by omega)
  have tq:=qd hz (show 1<=sfP p (l.getD k zL).to 0 by omega)
  obtain ⟨x,hx,e1,e2⟩:=s.leg hz (c:=acC p l k) (t:=smS p l k) (DV b1) i0 hv (by unfold tkS;omega)
  refine ⟨⟨?_,?_⟩,?_,fun j hj =>?_⟩
  ·show 0<=smS p l k+tkP p (sfP p (l.getD k zL).to 0);omega
  ·show smS p l k+tkP p (sfP p (l.getD k zL).to 0)<=(l.getD k zL).arr;omega
  ·show Rch p (smS p l k+tkS p (l.getD k zL).to) (l.getD k zL).to
   have r:=Rch.leg i2 (by omega) hx
   rw[e1,e2]at r;exact r
  ·by_cases q:j=k
   ·rw[q];exact hv
   ·exact i3 j (by omega)
structure Prt where
 cell:Cell
 ch:Bool
 len:Int
def zPr:Prt:=⟨ak,false,0⟩
def spS(s:Shp)(x:Prt):Int:=(sfS s x.cell x.ch).1
def tkM(x:Prt)(v:Int):Int:=Int.tdiv (60*x.len+v-1) v
def hiM(s:Shp)(P:List Prt):Nat->Int
 |0=>0
 |k+1=>hiM s P k+tkM (P.getD k zPr) (spS s (P.getD k zPr))
structure JC(s:Shp)(P:List Prt):Prop where
 n:1<=P.length/\P.length<=100
 len:∀k,k<P.length->1<=(P.getD k zPr).len/\(P.getD k zPr).len<=10000
 cell:∀k,k<P.length->aP (P.getD k zPr).cell=0
 safe:∀k,k<P.length->(sfS s (P.getD k zPr).cell (P.getD k zPr).ch).2=0
def stC(p:Pl)(k:Nat):List Cht:=(List.range (k+1)).map fun (j:Nat)=>⟨(p.cts.getD 0 zCh).w,(p.cts.getD 0 zCh).h,(p.cts.getD 0 zCh).hr+(j:Int),(p.cts.getD 0 zCh).cells⟩
def stP(p:Pl):Pl:={ p with cts:=stC p 5 }
def sN(p:Pl)(l:List Leg)(k:Nat):List Prt:=(List.range k).map fun j=>⟨(p.cts.getD 0 zCh).cells.getD (Int.toNat (l.getD j zL).to) ak,p.chan.getD (Int.toNat (l.getD j zL).to) false,p.size⟩
def smL(p:Pl)(l:List Leg):Nat->Int
 |0=>0
 |k+1=>smL p l k+Int.tdiv (Int.tdiv (60*p.size+spS p.shp ((sN p l l.length).getD k zPr)-1) (if spS p.shp ((sN p l l.length).getD k zPr)<1 then 1 else spS p.shp ((sN p l l.length).getD k zPr))+9) 10
structure Jv(p:Pl)(l:List Leg):Prop where
 n:l.length<=36
 to:∀k,k<l.length->(0<=(l.getD k zL).to/\(l.getD k zL).to<(p.land.length:Int))
 sp:∀k,k<l.length->spS p.shp ((sN p l l.length).getD k zPr)=sfP (stP p) (l.getD k zL).to 0/\10<=sfP (stP p) (l.getD k zL).to 0
 sm:smL p l l.length=bl (stP p)
 bd:∀k,k<=l.length->0<=smL p l k/\smL p l k<=36
 hi:hiM p.shp (sN p l l.length) l.length<=10*bl (stP p)
 t:0<=bl (stP p)/\bl (stP p)<=36
structure zo(a b:Span):Prop where
 l:b.lo<=a.lo
 o:a.lo<=a.hi
 h:a.hi<=b.hi
structure iM(a b:Cell):Prop where
 c:zo a.aW b.aW
 t:zo a.ai b.ai
 r:zo a.aw b.aw
 p:zo a.am b.am
def Nar(cs l:List Cell)(i:Nat):Prop:=l.length=cs.length/\∀j,j<cs.length->(j<i->iM (l.getD j ak) (cs.getD j ak))/\(i<=j->l.getD j ak=cs.getD j ak)
def Wid(a b:List Bool):Prop:=b.length=a.length/\∀j,a.getD j false=true->b.getD j false=true
def qCt(p:Pl)(i:Nat)(l:List Cell):Cht:=⟨(p.cts.getD i zCh).w,(p.cts.getD i zCh).h,(p.cts.getD i zCh).hr,l⟩
theorem zo.right{a b:Span}{m:Int}(i:zo a b)(h:cG b m):cG a m:=by
 have l:=i.l;have o:=i.o;have g:=i.h
 unfold cG at *;omega
theorem iM.right{a b:Cell}(i:iM a b)(h:bv b):bv a:=⟨i.c.right h.1,i.t.right h.2.1,i.r.right h.2.2.1,i.p.right h.2.2.2⟩
theorem iM.le{a b:Cell}(i:iM a b):oz a b:=⟨i.c.h,i.t.h,i.r.h,i.p.h⟩
theorem Nar.start(cs:List Cell):Nar cs cs 0:=⟨rfl,fun j hj=>⟨fun h=>absurd h (Nat.not_lt_zero j),fun _=>rfl⟩⟩
theorem Nar.step{cs l:List Cell}{i:Nat}(n:Nar cs l i)(hi:i<cs.length){c:Cell}(hc:iM c (cs.getD i ak)):Nar cs (l.set i c) (i+1):=by
 refine ⟨by rw[List.length_set];exact n.1,fun j hj =>?_⟩
 rw[cK (by rw[n.1];exact hi)]
 by_cases e:j=i
 ·subst e;rw[if_pos rfl];exact ⟨fun _=>hc,fun h=>absurd h (by omega)⟩
 ·rw[if_neg e];exact ⟨fun h=>(n.2 j hj).1 (by omega),fun h=>(n.2 j hj).2 (by omega)⟩
theorem Nar.at_{cs l:List Cell}{i:Nat}(n:Nar cs l i)(hi:i<cs.length):l.getD i ak=cs.getD i ak:=(n.2 i hi).2 (Nat.le_refl _)
theorem Wid.refl(a:List Bool):Wid a a:=⟨rfl,fun _ h=>h⟩
theorem Wid.set{a b:List Bool}{k:Nat}(w:Wid a b)(hk:k<a.length){v:Bool}(h:b.getD k false=true->v=true):Wid a (b.set k v):=by
 refine ⟨by rw[List.length_set];exact w.1,fun j hj =>?_⟩
 rw[cK (by rw[w.1];exact hk)]
 by_cases e:j=k
 ·subst e;rw[if_pos rfl];exact h (w.2 j hj)
 ·rw[if_neg e];exact w.2 j hj
structure QOk(p:Pl)(L:List Cht):Prop where
 len:L.length=p.cts.length
 at_:∀i,i<p.cts.length->∃l,L.getD i zCh=qCt p i l/\Nar (p.cts.getD i zCh).cells l (p.cts.getD i zCh).cells.length
theorem QOk.cell{p:Pl}{L:List Cht}(k:QOk p L)(i j:Nat):((L.getD i zCh).cells.getD j ak=(p.cts.getD i zCh).cells.getD j ak)∨iM ((L.getD i zCh).cells.getD j ak) ((p.cts.getD i zCh).cells.getD j ak):=by
 by_cases hi:i<p.cts.length
 ·obtain ⟨l,e,n⟩:=k.at_ i hi
  rw[e]
  show l.getD j ak=_∨iM (l.getD j ak) _
  by_cases hj:j<(p.cts.getD i zCh).cells.length
  ·exact .inr ((n.2 j hj).1 hj)
  ·left
   rw[List.getD_eq_getElem?_getD,List.getD_eq_getElem?_getD,List.getElem?_eq_none (by rw[n.1];omega),List.getElem?_eq_none (by omega)]
 ·left
  rw[List.getD_eq_getElem?_getD (l:=L),List.getD_eq_getElem?_getD (l:=p.cts),List.getElem?_eq_none (by rw[k.len];omega),List.getElem?_eq_none (by omega)]
theorem pR(p:Pl):bI p=0 ↔ 0<=bC p:=by unfold bI;split <;> omega
structure JD(p q:Pl):Prop where
 f:bI q=0
 u:bl q<=bl p
 g:bI (bD p)=0
 hope:bl (bD p)<=bl p
 h:ru q (bi p)=0
 n:D6 q (bi p)=bl p
 i:ru p (bi p)=0
 m:BX p (bi p)<=BX q (bi p)
theorem su{p:Pl}(o:bA p)(h:bI p=51):∀t:Int,t<=endP p->¬ Rch p t p.to:=by
 intro t ht r
 have a:=i6 o r ht
 have b:=(pR p).2 a.1
 omega
theorem Aq{p:Pl}(o:bA p)(h:bI p=51):(cn p).getD (Int.toNat p.to) false=false:=by
 have ht:=(cW o.to).1
 have hch:=o.chan
 have hT:=mF p
 have hN:NT p=Int.toNat (endP p+1):=rfl
 cases q:(cn p).getD (Int.toNat p.to) false
 ·rfl
 ·obtain ⟨t,hl,e⟩:=(ft (p:=p) (by omega) _).1 q
  have r:=oZ o e
  rw[show ((Int.toNat p.to:Nat):Int)=p.to by omega]at r
  rw[hT.gl]at hl
  exact absurd r (su o h (t:Int) (by omega))
theorem As{p:Pl}(o:bA p):(cn p).getD (Int.toNat p.frm) false=true:=by
 have ht:=(cW o.frm).1
 have hch:=o.chan
 have hT:=mF p
 have hN:NT p=Int.toNat (endP p+1):=rfl
 have he0:0<=endP p:=by unfold endP;have:=o.cts;omega
 exact (ft (p:=p) (by omega) _).2 ⟨0,by rw[hT.gl];omega,(mQ o .start he0).2.2⟩
theorem Ar{p:Pl}(o:bA p){i k:Nat}(hi:i<p.land.length)(hk:k<p.land.length)(mi:(cn p).getD i false=true)(lk:p.land.getD k false=false)(wk_:wlB p k=false)(h:uw p.w (i:Int) (k:Int)=true):(cn p).getD k false=true:=by
 have hch:=o.chan
 have li:p.land.getD i false=false:=by
  obtain ⟨t,_,e⟩:=(ft (p:=p) (by omega) _).1 mi
  have:=(cW (wL o (oZ o e))).2
  exact this
 cases q:(cn p).getD k false
 ·have m:=Gu o (i:=(i:Int)) (k:=(k:Int)) ⟨by omega,by omega⟩ li (by omega) h
  unfold wlB at wk_
  rw[show dE p.land (k:Int)=true from ig.2 ⟨⟨by omega,by omega⟩,lk⟩,q,show anyM (cn p) (bsP p (k:Int))=true from List.any_eq_true.2 ⟨_,m,mi⟩]at wk_
  cases wk_
 ·rfl
theorem xm{p:Pl}(o:bA p)(h:bI p=0):(0<=bl p/\bl p<=endP p)/\Rch p (bl p) p.to/\bP ((lsD (tbP p)).getD (Int.toNat (bl p)) []) p.to=true:=by
 have ht:=(cW o.to).1
 have h0:=(pR p).1 h
 have eT:bl p=bC p:=by unfold bl;rw[if_neg (by omega)]
 rw[eT]
 rcases lA o with ⟨e,_⟩|⟨k,e,h1,h2,_⟩
 ·omega
 ·unfold atB at h2
  have r:=oZ o h2
  rw[show ((Int.toNat p.to:Nat):Int)=p.to by omega]at r
  rw[e]
  refine ⟨⟨by omega,h1⟩,r,?_⟩
  rw[show Int.toNat (k:Int)=k by omega,fX,me]
  exact ⟨ht.1,h2⟩
theorem yh(p:Pl)(n:Nat):dw p (n+1)=if wlB p n then dw p n ++ [(n:Int)] else dw p n:=by
 unfold dw
 rw[List.range_succ,List.filter_append,List.map_append]
 cases h:wlB p n
 ·rw[List.filter_cons_of_neg (by rw[h];decide)];simp
 ·rw[List.filter_cons_of_pos h];simp
theorem jR{p:Pl}{n:Nat}{x:Int}:x∈dw p n ↔ ∃i:Nat,i<n/\wlB p i=true/\x=(i:Int):=by
 unfold dw
 rw[List.mem_map]
 constructor
 ·rintro ⟨i,h,rfl⟩
  have:=List.mem_filter.1 h
  exact ⟨i,List.mem_range.1 this.1,this.2,rfl⟩
 ·rintro ⟨i,h1,h2,rfl⟩
  exact ⟨i,List.mem_filter.2 ⟨List.mem_range.2 h1,h2⟩,rfl⟩
theorem oa(p:Pl):∀n,Asc (dw p n)
 |0=>fun i j _ hj=>absurd hj (Nat.not_lt_zero j)
 |n+1=>by
  rw[yh]
  split
  ·exact iJ (oa p n) fun y hy=>by obtain ⟨i,h,_,e⟩:=jR.1 hy;omega
  ·exact oa p n
structure B1(p:Pl)(l:List Int):Prop where
 asc:Asc l
 sea:∀x∈l,(0<=x/\x<(p.land.length:Int))/\p.land.getD (Int.toNat x) false=false
 no:∀x∈l,∀t,t<(tbP p).length->bP ((lsD (tbP p)).getD t []) x=false
 all:∀k:Nat,k<p.land.length->wlB p k=true->(k:Int)∈l
theorem Fm{p:Pl}(o:bA p)(h:bI p=51):wlE p=0/\B1 p (wlP p):=by
 have m:=Aq o h
 have hch:=o.chan
 have ml:(cn p).length=p.chan.length:=gk p _
 have e:wlP p=dw p (cn p).length:=by unfold wlP;rw[m];rfl
 refine ⟨by unfold wlE;rw[m];rfl,?_⟩
 rw[e]
 refine ⟨oa p _,fun x hx =>?_,fun x hx t ht =>?_,fun k hk hw=>jR.2 ⟨k,by omega,hw,rfl⟩⟩
 ·obtain ⟨i,_,hw,rfl⟩:=jR.1 hx
  unfold wlB at hw
  rw[Bool.and_eq_true]at hw
  exact cW hw.1
 ·obtain ⟨i,hi,hw,rfl⟩:=jR.1 hx
  unfold wlB at hw
  rw[Bool.and_eq_true,Bool.and_eq_true,Bool.not_eq_true']at hw
  cases q:bP ((lsD (tbP p)).getD t []) (i:Int)
  ·rfl
  ·rw[fX,me]at q
   have:=(ft (p:=p) (c:=i) (by omega) (tbP p).length).2 ⟨t,ht,q.2⟩
   rw[show dH p (tbP p).length=cn p from rfl,hw.2.1]at this
   cases this
def qg(n:Nat)(l:List Int):Nat->List Bool
 |0=>List.replicate n false
 |k+1=>(qg n l k).set (Int.toNat (l.getD k 0)) true
theorem fA(n:Nat)(l:List Int):∀k,(qg n l k).length=n
 |0=>List.length_replicate
 |k+1=>by show ((qg n l k).set _ true).length=n;rw[List.length_set];exact fA n l k
theorem sx{n:Nat}{l:List Int}{c:Nat}(hc:c<n):∀k,k<=l.length->((qg n l k).getD c false=true ↔ ∃j,j<k/\Int.toNat (l.getD j 0)=c)
 |0,_=>Iff.intro (fun h=>by
   have h:(List.replicate n false).getD c false=true:=h
   rw[List.getD_eq_getElem?_getD,List.getElem?_replicate,if_pos hc]at h;cases h) (fun h=>by obtain ⟨j,hj,_⟩:=h;exact absurd hj (Nat.not_lt_zero j))
 |k+1,hk=>by
  have ih:=sx (l:=l) hc k (by omega)
  show ((qg n l k).set (Int.toNat (l.getD k 0)) true).getD c false=true ↔ _
  rw[List.getD_eq_getElem?_getD,List.getElem?_set]
  by_cases e:Int.toNat (l.getD k 0)=c
  ·rw[if_pos e,if_pos (by rw[fA,e];exact hc)]
   exact ⟨fun _=>⟨k,by omega,e⟩,fun _=>rfl⟩
  ·rw[if_neg e,<- List.getD_eq_getElem?_getD,ih]
   constructor
   ·rintro ⟨j,hj,q⟩;exact ⟨j,by omega,q⟩
   ·rintro ⟨j,hj,q⟩
    by_cases g:j=k
    ·subst g;exact absurd q e
    ·exact ⟨j,by omega,q⟩
theorem CL{p:Pl}(w:B1 p (wlP p)){k:Nat}(hk:k<p.land.length)(h:(qg p.land.length (wlP p) (wlP p).length).getD k false=false):wlB p k=false:=by
 cases q:wlB p k
 ·rfl
 ·have m:=w.all k hk q
  obtain ⟨j,hj,e⟩:=List.getElem_of_mem m
  have:=(sx (l:=wlP p) hk (wlP p).length (Nat.le_refl _)).2 ⟨j,hj,by rw[List.getD_eq_getElem?_getD,List.getElem?_eq_getElem hj,e];exact Int.toNat_natCast k⟩
  rw[h]at this;cases this
def unm(m:List Bool):Nat:=(m.filter (fun b => !b)).length
theorem Fo(m:List Bool):unm m<=m.length:=List.length_filter_le _ _
theorem l5:∀{m:List Bool} {k:Nat},k<m.length->m.getD k false=false->unm (m.set k true)+1=unm m
 | [],k,h,_=>absurd h (Nat.not_lt_zero k)
 |b :: m,0,_,e=>by
  have e:b=false:=e
  subst e
  show ((true :: m).filter _).length+1=((false :: m).filter _).length
  rw[List.filter_cons_of_neg (by decide),List.filter_cons_of_pos (by decide),List.length_cons]
 |b :: m,k+1,h,e=>by
  have ih:=l5 (m:=m) (k:=k) (Nat.lt_of_succ_lt_succ h) e
  unfold unm at ih ⊢
  rw[List.set_cons_succ]
  cases b
  ·rw[List.filter_cons_of_pos (by decide),List.filter_cons_of_pos (by decide),List.length_cons,List.length_cons];omega
  ·rw[List.filter_cons_of_neg (by decide),List.filter_cons_of_neg (by decide)];exact ih
structure gd(p:Pl)(m:List Bool)(l:List Int)(o:Nat):Prop where
 len:m.length=p.land.length
 ol:o<=l.length
 mem:∀j,o<=j->j<l.length->(0<=l.getD j 0/\l.getD j 0<(m.length:Int))/\m.getD (Int.toNat (l.getD j 0)) false=true
 sub:∀j,m.getD j false=true->(cn p).getD j false=true
 cnt:unm m+(l.length-o)<=m.length
theorem gd.start{p:Pl}(o:bA p):gd p ((List.replicate p.land.length false).set (Int.toNat p.frm) true) [p.frm] 0:=by
 have hf:=(cW o.frm).1
 have hl:((List.replicate p.land.length false).set (Int.toNat p.frm) true).length=p.land.length:=by rw[List.length_set,List.length_replicate]
 have hg:∀j,((List.replicate p.land.length false).set (Int.toNat p.frm) true).getD j false=true->j=Int.toNat p.frm:=fun j h=>by
  rw[List.getD_eq_getElem?_getD,List.getElem?_set]at h
  by_cases e:Int.toNat p.frm=j
  ·exact e.symm
  ·rw[if_neg e,List.getElem?_replicate]at h
   split at h <;> cases h
 have ht:((List.replicate p.land.length false).set (Int.toNat p.frm) true).getD (Int.toNat p.frm) false=true:=by
  rw[List.getD_eq_getElem?_getD,List.getElem?_set,if_pos rfl,if_pos (by rw[List.length_replicate];omega)];rfl
 refine ⟨hl,Nat.zero_le _,fun j _ hj =>?_,fun j h =>?_,?_⟩
 ·obtain rfl:j=0:=by have:j<1:=hj;omega
  rw[hl]
  exact ⟨⟨hf.1,hf.2⟩,ht⟩
 ·rw[hg j h];exact As o
 ·have h1:=l5 (m:=List.replicate p.land.length false) (k:=Int.toNat p.frm) (by rw[List.length_replicate];omega) (by rw[List.getD_eq_getElem?_getD,List.getElem?_replicate];split <;> rfl)
  have h2:=Fo (List.replicate p.land.length false)
  rw[List.length_replicate]at h2
  rw[hl]
  show _+(1-0)<=_
  omega
theorem gd.pop{p:Pl}{m:List Bool}{l:List Int}{o:Nat}(s:gd p m l o)(h:o<l.length):gd p m l (o+1) :=
 ⟨s.len,h,fun j h1 h2=>s.mem j (by omega) h2,s.sub,by have:=s.cnt;omega⟩
theorem gd.add{p:Pl}{m:List Bool}{l:List Int}{o k:Nat}(s:gd p m l o)(hk:k<m.length)(h0:m.getD k false=false)(hm:(cn p).getD k false=true):gd p (m.set k true) (l.drop o ++ [(k:Int)]) 0:=by
 have hl:(l.drop o ++ [(k:Int)]).length=l.length-o+1:=by rw[aE,List.length_drop];rfl
 have hs:∀j,(m.set k true).getD j false=true ↔ m.getD j false=true∨j=k:=fun j=>by
  rw[List.getD_eq_getElem?_getD,List.getElem?_set]
  by_cases e:k=j
  ·subst e;rw[if_pos rfl,if_pos hk];exact ⟨fun _ => .inr rfl,fun _=>rfl⟩
  ·rw[if_neg e,<- List.getD_eq_getElem?_getD];exact ⟨.inl,fun h=>h.elim id (fun h=>absurd h.symm e)⟩
 refine ⟨by rw[List.length_set];exact s.len,Nat.zero_le _,fun j _ hj =>?_,fun j h =>?_,?_⟩
 ·rw[hl]at hj
  rw[List.length_set]
  by_cases e:j<l.length-o
  ·have g:(l.drop o ++ [(k:Int)]).getD j 0=l.getD (o+j) 0:=by
    rw[List.getD_eq_getElem?_getD,List.getD_eq_getElem?_getD,List.getElem?_append_left (by rw[List.length_drop];exact e),List.getElem?_drop]
   rw[g]
   have:=s.mem (o+j) (by omega) (by omega)
   exact ⟨this.1,(hs _).2 (.inl this.2)⟩
  ·have e2:j=l.length-o:=by omega
   have g:(l.drop o ++ [(k:Int)]).getD j 0=(k:Int):=by
    rw[List.getD_eq_getElem?_getD,List.getElem?_append_right (by rw[List.length_drop];omega),List.length_drop,e2,Nat.sub_self];rfl
   rw[g,Int.toNat_natCast]
   exact ⟨⟨by omega,by omega⟩,(hs _).2 (.inr rfl)⟩
 ·rcases (hs j).1 h with q|rfl
  ·exact s.sub j q
  ·exact hm
 ·have:=l5 hk h0
  have:=s.cnt
  have:=s.ol
  rw[hl,List.length_set]
  omega
end
end Go.Proofs.YtmecpfikljhjaaaDoor
