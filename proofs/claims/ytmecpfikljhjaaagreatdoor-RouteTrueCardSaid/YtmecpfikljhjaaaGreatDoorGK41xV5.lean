/- Tables: lists whose rows grow. A row is taken out and is a block of its own; a block is given back and is a row. No condition. -/
import Derived.Test.YtmecpfikljhjaaaGreatDoorGV3xK38
open Go Go.K
set_option linter.unusedVariables false
set_option linter.unusedSimpArgs false
namespace Go.K
variable {P:Program}
def Ho(ρ:Ren)(a b:Value):Prop:=∀x,VR ρ a x->VR ρ b x
theorem Post.mN{B base:Nat}{M:List Nat}{ρ:Ren}{H:Heap}{w:World}(hr:Rel P B ρ H w)(hob:base<=H.length)(o0:aa):Post P B base M ρ H w ρ (H ++ [o0]) w:=by
 have hlt:∀id r o,ρ id=some r->(H ++ [o0])[id]?=some o->H[id]?=some o:=fun id r o h1 h2=>by
  rw[List.getElem?_append_left (hr.dom _ _ h1)]at h2;exact h2
 refine ⟨⟨hr.bsize,hr.cS,fun id r h=>by have:=hr.dom _ _ h;rw[List.length_append];omega,hr.lt,fun id r o h1 h2=>hr.obj id r o h1 (hlt id r o h1 h2),fun id r o h1 h2=>hr.base id r o h1 (hlt id r o h1 h2),fun id id' r r' o o' h1 h1' h2 h2'=>hr.sep id id' r r' o o' h1 h1' (hlt _ _ _ h1 h2) (hlt _ _ _ h1' h2'),fun b m h=>⟨(hr.mem b m h).1,fun id r o h1 h2=>(hr.mem b m h).2 id r o h1 (hlt _ _ _ h1 h2)⟩,
   hr.fam.keep (Ren.le_refl _) (fun _ _ _ h=>h) (fun F z cs hF h=>by rw[List.getElem?_append_left hF]at h;exact h) (by simp) (Nat.le_refl _) (fun _ _=>rfl) (fun id r o a b c=>hr.fam.free a (hlt _ _ _ a b) c) (fun b m h=>hr.fam.ez h)⟩,
  Ren.le_refl _,fun id r a b=>(by rw[b]at a;cases a),by rw[List.length_append];omega,fun id h1 _=>List.getElem?_append_left (by omega),Nat.le_refl _,fun _ _ _=>rfl,fun b _ ho =>?_,rfl,rfl,rfl,fun _ _ h => .inl h,Nat.le_refl _,fun F k r a b=>(by rw[b]at a;cases a)⟩
 rcases ho with ⟨id,r,o,h1,h2,h3,h4⟩|⟨F,k,r,z,c,m,e⟩
 ·exact .inl ⟨id,r,o,h1,hlt _ _ _ h1 h2,h3,h4⟩
 ·exact .inr ⟨F,k,r,z,c,⟨m.g,by have:=m.h;rw[List.getElem?_append_left (hr.fam.dom F k r m.g)]at this;exact this,m.a⟩,e⟩
theorem Post.eT{B base:Nat}{M:List Nat}{ρ:Ren}{H:Heap}{w:World}(hr:Rel P B ρ H w){b zh t:Nat}{hs:List Value}{v:Value}(ho:H[b]?=some (.cells true zh hs))(hv:∀v0,hs[t]?=some v0->Ho ρ v0 v)(hM:b<base->b∈M) :
  Post P B base M ρ H w ρ (H.set b (.cells true zh (hs.set t v))) w:=by
 refine Post.zW hr ho rfl rfl (fun _ _ h=>by cases h) (fun _ _ h=>by cases h) (fun r h0 h =>?_) hM
 obtain ⟨h1,h2,cs',ty,fz,h3,h4,h5,h6⟩:=h
 refine ⟨h1,h2,cs',ty,fz,h3,h4,h5,fun i x hx =>?_⟩
 by_cases e:t=i
 ·subst e
  have hl:t<hs.length:=by have:=(List.getElem?_eq_some_iff.1 hx).1;simpa using this
  rw[List.getElem?_set_self hl]at hx
  cases hx
  obtain ⟨v',a,c⟩:=h6 t _ (List.getElem?_eq_getElem hl)
  exact ⟨v',a,hv _ (List.getElem?_eq_getElem hl) v' c⟩
 ·rw[List.getElem?_set_ne e]at hx
  exact h6 i x hx
abbrev cX(n F k:Nat):Value:=.iface (n+1) (.pointer (some ⟨F,0,some (k+3)⟩))
theorem Post.mG{B base:Nat}{M:List Nat}{ρ:Ren}{H:Heap}{w:World}(hr:Rel P B ρ H w)(hob:base<=H.length){F k z:Nat}{r:RI}{ms row:List Value}(hg:ρ.g F k=some r)(hF:H[F]?=some (.fam 0 ms))
  (hz:ms[0]?=some (.int .i64 (z:Int))) (hrow:ms[k+1]?=some (.agg ⟨row⟩)) (hMF:F<base->F∈M) :
  Post P B base M ρ H w (ρ.set H.length r) (H.set F (.fam 0 (ms.set (k+1) junk)) ++ [.cells true z row]) w:=by
 have hFl:F<H.length:=(List.getElem?_eq_some_iff.1 hF).1
 have hnone:ρ H.length=none:=by
  cases h:ρ H.length with
  |none=>rfl
  |some r=>exact absurd (hr.dom _ _ h) (Nat.lt_irrefl _)
 have hle:=Ren.dr (r:=r) hnone
 have hm:FM ρ H F k r 0 ms:=⟨hg,hF,fun _=>⟨_,hrow,by simp⟩⟩
 obtain ⟨cs',ty,hb,_,hR,_,_⟩:=hr.fam.obj F k r 0 ms hm
 obtain ⟨⟨q1,q2,q3,q4⟩,_,q5⟩:=hR rfl
 obtain ⟨q6,q7⟩:=q5 _ hrow
 have hrz:z=r.z:=by
  rw[hz]at q4
  have:=Option.some.inj q4
  have:=Value.int.inj this
  omega
 have hk1:k+1<ms.length:=(List.getElem?_eq_some_iff.1 hrow).1
 have hgF:(H.set F (.fam 0 (ms.set (k+1) junk)) ++ [aa.cells true z row])[F]?=some (.fam 0 (ms.set (k+1) junk)):=by
  rw[List.getElem?_append_left (by simpa using hFl),List.getElem?_set_self hFl]
 have hgN:(H.set F (.fam 0 (ms.set (k+1) junk)) ++ [aa.cells true z row])[H.length]?=some (.cells true z row):=by
  rw[List.getElem?_append_right (by simp)];simp
 have hgo:∀i,i≠F->i<H.length->(H.set F (.fam 0 (ms.set (k+1) junk)) ++ [aa.cells true z row])[i]?=H[i]? := fun i a b=>by
  rw[List.getElem?_append_left (by simpa using b),List.getElem?_set_ne (Ne.symm a)]
 have hdm:∀i x,ρ.set H.length r i=some x->(i=H.length/\x=r)∨(i<H.length/\i≠H.length/\ρ i=some x):=fun i x h=>by
  by_cases e:i=H.length
  ·subst e;rw[Ren.av]at h;cases h;exact .inl ⟨rfl,rfl⟩
  ·rw[Ren.au e]at h;exact .inr ⟨hr.dom _ _ h,e,h⟩
 have back:∀i p,i<H.length->(H.set F (.fam 0 (ms.set (k+1) junk)) ++ [aa.cells true z row])[i]?=some p->p.alive=true->H[i]?=some p:=fun i p hi h ha=>by
  by_cases e:i=F
  ·subst e;rw[hgF]at h;cases h;cases ha
  ·rw[hgo i e hi]at h;exact h
 have fm:∀{F' k' r' z' c},FM (ρ.set H.length r) (H.set F (.fam 0 (ms.set (k+1) junk)) ++ [aa.cells true z row]) F' k' r' z' c ->
   ∃c',FM ρ H F' k' r' z' c'/\¬ (F'=F/\k'=k)/\(c=c'∨(F'=F/\z'=0/\c'=ms/\c=ms.set (k+1) junk)):=fun {F' k' r' z' c} m=>by
  have g:ρ.g F' k'=some r':=m.g
  have hh:=m.h
  by_cases e:F'=F
  ·subst e
   rw[hgF]at hh;cases hh
   obtain ⟨rw1,h1,h1'⟩:=m.a rfl
   have hne:k'≠k:=fun e=>by
    subst e
    rw[List.getElem?_set_self hk1]at h1;cases h1;exact h1' rfl
   rw[List.getElem?_set_ne (by omega)]at h1
   exact ⟨ms,⟨g,hF,fun _=>⟨rw1,h1,h1'⟩⟩,fun q=>hne q.2,.inr ⟨rfl,rfl,rfl,rfl⟩⟩
  ·rw[hgo F' e (hr.fam.dom _ _ _ g)]at hh
   exact ⟨c,⟨g,hh,m.a⟩,fun q=>e q.1,.inl rfl⟩
 have hcells:∀i v,row[i]?=some v->∃v',cs'[i+r.s]?=some v'/\VR ρ v v':=fun i v h=>q7 i v (by simpa using h)
 refine ⟨⟨hr.bsize,fun g hg =>?_,fun i x h =>?_,fun i x h =>?_,fun i x o h1 h2 =>?_,fun i x o h1 h2 h3 =>?_,fun i j x y o o' h1 h2 h3 h4 h5 h6 hn =>?_,fun b m hb=>⟨(hr.mem b m hb).1,fun i x o h1 h2 h3 =>?_⟩,?_⟩,
  hle,fun i x a b =>?_,by simp,fun i h1 h2 =>?_,Nat.le_refl _,fun _ _ _=>rfl,fun b _ hob =>?_,rfl,rfl,rfl,fun _ _ h => .inl h,Nat.le_refl _,fun F' k' x a b=>(by rw[show (ρ.set H.length r).g=ρ.g from rfl,b]at a;cases a)⟩
 ·obtain ⟨x,a1,a2,a3⟩:=hr.cS g hg;exact ⟨x,hle _ _ a1,a2,a3⟩
 ·rw[List.length_append,List.length_set]
  rcases hdm i x h with ⟨rfl,_⟩|⟨h1,_,_⟩
  ·simp
  ·omega
 ·rcases hdm i x h with ⟨rfl,rfl⟩|⟨_,_,h1⟩
  ·exact hr.fam.lt _ _ _ hg
  ·exact hr.lt _ _ h1
 ·rcases hdm i x h1 with ⟨rfl,rfl⟩|⟨hi,_,h1⟩
  ·rw[hgN]at h2;cases h2
   exact ⟨q2.symm,hrz,cs',ty,(0,0),hb,q1.symm,fun _=>rfl,fun i v hv=>let ⟨v',a,c⟩:=hcells i v hv; ⟨v',a,c.mono hle⟩⟩
  ·cases ha:o.alive with
   |true=>exact (hr.obj i x o h1 (back i o hi h2 ha)).mono hle rfl
   |false=>cases o <;> first|trivial|simp[aa.alive]at ha
 ·rcases hdm i x h1 with ⟨rfl,rfl⟩|⟨hi,_,h1⟩
  ·exact hr.fam.base _ _ _ _ _ hm
  ·exact hr.base i x o h1 (back i o hi h2 (aJ h3)) h3
 ·rcases hdm i x h1 with ⟨q8,q9⟩|⟨hi,_,h1'⟩
  ·rcases hdm j y h2 with ⟨p8,_⟩|⟨hj,_,h2'⟩
   ·exact absurd (q8.trans p8.symm) hn
   ·rw[q9];exact (hr.fam.sep2 _ _ _ _ _ j y o' hm h2' (back j o' hj h4 h6) h6).symm
  ·rcases hdm j y h2 with ⟨_,p9⟩|⟨hj,_,h2'⟩
   ·rw[p9];exact hr.fam.sep2 _ _ _ _ _ i x o hm h1' (back i o hi h3 (aJ h5)) (aJ h5)
   ·exact hr.sep i j x y o o' h1' h2' (back i o hi h3 (aJ h5)) (back j o' hj h4 h6) h5 h6 hn
 ·rcases hdm i x h1 with ⟨rfl,rfl⟩|⟨hi,_,h1⟩
  ·exact hr.fam.mem _ _ _ _ _ b m hm hb
  ·exact (hr.mem b m hb).2 i x o h1 (back i o hi h2 (aJ h3)) h3
 ·refine ⟨fun F' k' x h =>?_,fun F' k' x h=>hr.fam.lt F' k' x h,fun F' k' x z' c m =>?_,fun F' k' x z' c m =>?_,fun F1 k1 r1 z1 c1 F2 k2 r2 z2 c2 m1 m2 e =>?_,fun F' k' x z' c id r2 o m h1 h2 h3 =>?_,fun F' k' x z' c b m2 m hb =>?_,fun F' k' x c g h =>?_⟩
  ·have:=hr.fam.dom F' k' x h;rw[List.length_append,List.length_set];omega
  ·obtain ⟨c',m',_⟩:=fm m;exact hr.fam.base _ _ _ _ _ m'
  ·obtain ⟨c',m',hne,hc⟩:=fm m
   have ob:=(hr.fam.obj _ _ _ _ _ m').mono hle rfl
   rcases hc with rfl|⟨rfl,rfl,rfl,rfl⟩
   ·exact ob
   ·obtain ⟨c2,ty2,a1,a2,a3,a4,a5⟩:=ob
    have hkk:k'≠k:=fun e=>hne ⟨rfl,e⟩
    refine ⟨c2,ty2,a1,by simp,fun _=>⟨⟨(a3 rfl).1.1,(a3 rfl).1.2.1,(a3 rfl).1.2.2.1,by rw[List.getElem?_set_ne (by omega)];exact (a3 rfl).1.2.2.2⟩,fun v h1=>(a3 rfl).2.1 v (by rw[List.getElem?_set_ne (by omega)]at h1;exact h1),fun rw1 h1=>(a3 rfl).2.2 rw1 (by rw[List.getElem?_set_ne (by omega)]at h1;exact h1)⟩,a4,fun i v hi _=>absurd hi (Nat.not_lt_zero _)⟩
  ·obtain ⟨c1',m1',_⟩:=fm m1
   obtain ⟨c2',m2',_⟩:=fm m2
   exact hr.fam.sep _ _ _ _ _ _ _ _ _ _ m1' m2' e
  ·obtain ⟨c',m',hne,_⟩:=fm m
   rcases hdm id r2 h1 with ⟨rfl,rfl⟩|⟨hi,_,h1⟩
   ·exact fun e=>hne (hr.fam.sep _ _ _ _ _ _ _ _ _ _ m' hm e.symm)
   ·exact hr.fam.sep2 _ _ _ _ _ id r2 o m' h1 (back id o hi h2 h3) h3
  ·obtain ⟨c',m',_⟩:=fm m
   exact hr.fam.mem _ _ _ _ _ b m2 m' hb
  ·by_cases e:F'=F
   ·subst e;rw[hgF]at h;cases h
    rw[List.length_set];exact hr.fam.cnt F' k' x ms g hF
   ·rw[hgo F' e (hr.fam.dom _ _ _ g)]at h;exact hr.fam.cnt F' k' x c g h
 ·rcases hdm i x a with ⟨rfl,_⟩|⟨_,_,h1⟩
  ·exact Nat.le_refl _
  ·rw[b]at h1;cases h1
 ·exact hgo i (fun e=>h2 (e ▸ hMF (e ▸ h1))) (by omega)
 ·rcases hob with ⟨i,x,o,k1,k2,k3,k4⟩|⟨F',k',x,z',c,m,e⟩
  ·rcases hdm i x k1 with ⟨rfl,rfl⟩|⟨hi,_,h1⟩
   ·exact .inr ⟨F,k,x,0,ms,hm,k4⟩
   ·exact .inl ⟨i,x,o,h1,back i o hi k2 (aJ k3),k3,k4⟩
  ·obtain ⟨c',m',_⟩:=fm m
   exact .inr ⟨F',k',x,z',c',m',e⟩
theorem Post.jF{B base:Nat}{M:List Nat}{ρ:Ren}{H:Heap}{w:World}(hr:Rel P B ρ H w){F:Nat}{ms ms':List Value}(hF:H[F]?=some (.fam 0 ms))(hl:ms.length<=ms'.length)(h0:ms'[0]?=ms[0]?)
  (hk:∀k r,ρ.g F k=some r->ms'[k+1]?=ms[k+1]?) (hMF:F<base->F∈M):Post P B base M ρ H w ρ (H.set F (.fam 0 ms')) w:=by
 have hFl:F<H.length:=(List.getElem?_eq_some_iff.1 hF).1
 have hgF:(H.set F (.fam 0 ms'))[F]?=some (.fam 0 ms'):=List.getElem?_set_self hFl
 have hgo:∀i,i≠F->(H.set F (.fam 0 ms'))[i]?=H[i]? := fun i a=>List.getElem?_set_ne (Ne.symm a)
 have back:∀(i:Nat) (p:aa),(H.set F (.fam 0 ms'))[i]?=some p->p.alive=true->H[i]?=some p:=fun i p h ha=>by
  by_cases e:i=F
  ·subst e;rw[hgF]at h;cases h;cases ha
  ·rw[hgo i e]at h;exact h
 have fm:∀{F' k' r' z' c},FM ρ (H.set F (.fam 0 ms')) F' k' r' z' c->∃c',FM ρ H F' k' r' z' c'/\(c=c'∨(F'=F/\z'=0/\c'=ms/\c=ms')):=fun {F' k' r' z' c} m=>by
  have hh:=m.h
  by_cases e:F'=F
  ·subst e
   rw[hgF]at hh;cases hh
   obtain ⟨rw1,h1,h1'⟩:=m.a rfl
   exact ⟨ms,⟨m.g,hF,fun _=>⟨rw1,by rw[<- hk _ _ m.g];exact h1,h1'⟩⟩,.inr ⟨rfl,rfl,rfl,rfl⟩⟩
  ·rw[hgo F' e]at hh
   exact ⟨c,⟨m.g,hh,m.a⟩,.inl rfl⟩
 refine ⟨⟨hr.bsize,hr.cS,fun i x h=>by simpa using hr.dom i x h,hr.lt,fun i x o h1 h2 =>?_,fun i x o h1 h2 h3=>hr.base i x o h1 (back i o h2 (aJ h3)) h3,
   fun i j x y o o' h1 h2 h3 h4 h5 h6 hn=>hr.sep i j x y o o' h1 h2 (back i o h3 (aJ h5)) (back j o' h4 h6) h5 h6 hn,fun b m hm=>⟨(hr.mem b m hm).1,fun i x o h1 h2 h3=>(hr.mem b m hm).2 i x o h1 (back i o h2 (aJ h3)) h3⟩,?_⟩,
  Ren.le_refl _,fun i x a b=>(by rw[b]at a;cases a),by simp,fun i h1 h2=>hgo i (fun e=>h2 (e ▸ hMF (e ▸ h1))),Nat.le_refl _,fun _ _ _=>rfl,fun b _ hob =>?_,rfl,rfl,rfl,fun _ _ h => .inl h,Nat.le_refl _,fun F' k' r a b=>(by rw[b]at a;cases a)⟩
 ·cases ha:o.alive with
  |true=>exact hr.obj i x o h1 (back i o h2 ha)
  |false=>cases o <;> first|trivial|simp[aa.alive]at ha
 ·refine ⟨fun F' k' x h=>by simpa using hr.fam.dom F' k' x h,hr.fam.lt,fun F' k' x z' c m =>?_,fun F' k' x z' c m =>?_,fun F1 k1 r1 z1 c1 F2 k2 r2 z2 c2 m1 m2 e =>?_,fun F' k' x z' c id r2 o m h1 h2 h3 =>?_,fun F' k' x z' c b m2 m hb =>?_,fun F' k' x c g h =>?_⟩
  ·obtain ⟨c',m',_⟩:=fm m;exact hr.fam.base _ _ _ _ _ m'
  ·obtain ⟨c',m',hc⟩:=fm m
   have ob:=hr.fam.obj _ _ _ _ _ m'
   rcases hc with rfl|⟨rfl,rfl,rfl,rfl⟩
   ·exact ob
   ·obtain ⟨c2,ty2,a1,a2,a3,a4,a5⟩:=ob
    have hkk:=hk _ _ m'.g
    exact ⟨c2,ty2,a1,by simp,fun _=>⟨⟨(a3 rfl).1.1,(a3 rfl).1.2.1,(a3 rfl).1.2.2.1,by rw[h0];exact (a3 rfl).1.2.2.2⟩,fun v h1=>(a3 rfl).2.1 v (by rw[<- hkk];exact h1),fun rw1 h1=>(a3 rfl).2.2 rw1 (by rw[<- hkk];exact h1)⟩,a4,fun i v hi _=>absurd hi (Nat.not_lt_zero _)⟩
  ·obtain ⟨c1',m1',_⟩:=fm m1
   obtain ⟨c2',m2',_⟩:=fm m2
   exact hr.fam.sep _ _ _ _ _ _ _ _ _ _ m1' m2' e
  ·obtain ⟨c',m',_⟩:=fm m
   exact hr.fam.sep2 _ _ _ _ _ id r2 o m' h1 (back id o h2 h3) h3
  ·obtain ⟨c',m',_⟩:=fm m
   exact hr.fam.mem _ _ _ _ _ b m2 m' hb
  ·by_cases e:F'=F
   ·subst e;rw[hgF]at h;cases h
    exact Nat.lt_of_lt_of_le (hr.fam.cnt F' k' x ms g hF) hl
   ·rw[hgo F' e]at h;exact hr.fam.cnt F' k' x c g h
 ·rcases hob with ⟨i,x,o,k1,k2,k3,k4⟩|⟨F',k',x,z',c,m,e⟩
  ·exact .inl ⟨i,x,o,k1,back i o k2 (aJ k3),k3,k4⟩
  ·obtain ⟨c',m',_⟩:=fm m
   exact .inr ⟨F',k',x,z',c',m',e⟩
def aE(n k:Nat)(ms:List Value):List Value:=match n with|0=>ms|_+1=>ms.set (k+1) junk
theorem aL.take{base:Nat}{M:List Nat}{T:Tm}{H:Heap}{hd zh t F k n z:Nat}{hs ms row:List Value}(ho:H[hd]?=some (.cells true zh hs))(hF:H[F]?=some (.fam 0 ms))(hv:hs[t]?=some (cX n F k))
    (hz:ms[0]?=some (.int .i64 (z:Int))) (hn:row.length=n*z) (hrow:0<n->ms[k+1]?=some (.agg ⟨row⟩)) (hMh:hd<base->hd∈M) (hMF:F<base->F∈M) :
    aL P base M T H T ((H.set F (aa.fam 0 (aE n k ms)) ++ [aa.cells true z row]).set hd (aa.cells true zh (hs.set t (.slice (some ⟨H.length,0,some 1⟩) n n)))):=by
  intro B ρ w N tmps h1 h2 h3
  have hhl:hd<H.length:=(List.getElem?_eq_some_iff.1 ho).1
  have hne:hd≠F:=fun e=>by subst e;rw[ho]at hF;cases hF
  have hget:∀X:List Value,(H.set F (.fam 0 X) ++ [aa.cells true z row])[hd]?=some (.cells true zh hs):=fun X=>by
    rw[List.getElem?_append_left (by simpa using hhl),List.getElem?_set_ne (Ne.symm hne)];exact ho
  have htl:=(List.getElem?_eq_some_iff.1 hv).1
  cases n with
  | zero =>
    have e0:H.set F (.fam 0 (aE 0 k ms))=H:=by
      show H.set F (.fam 0 ms)=H
      have hFl:F<H.length:=(List.getElem?_eq_some_iff.1 hF).1
      have:H[F] = .fam 0 ms:=by have:=hF;rw[List.getElem?_eq_getElem hFl]at this;exact Option.some.inj this
      rw[<- this];exact List.set_getElem_self _
    have hge:=hget (aE 0 k ms)
    rw[e0]at hge ⊢
    have p1:=Post.mN (M:=M) h1 h2 (.cells true z row)
    have p2:=Post.eT (M:=M) (base:=base) p1.rel (t:=t) (v:=.slice (some ⟨H.length,0,some 1⟩) 0 0) hge (fun v0 e v' hh=>by
      rw[hv]at e;cases e
      cases hh with
      |fsl _ hp=>exact absurd hp (Nat.lt_irrefl 0)
      | @bS a _ =>
        cases a with
        |none=>exact .ax
        |some a=>exact .ay) hMh
    exact ⟨ρ,p1.trans p2,h3⟩
  | succ n =>
    cases hg:ρ.g F k with
    | some r =>
      have p1:=Post.mG (M:=M) h1 h2 hg hF hz (hrow (Nat.succ_pos _)) hMF
      have hge:=hget (aE (n+1) k ms)
      have p2:=Post.eT (M:=M) (base:=base) p1.rel (t:=t) (v:=.slice (some ⟨H.length,0,some 1⟩) (n+1) (n+1)) hge (fun v0 e v' hh=>by
        rw[hv]at e;cases e
        cases hh with
        | fsl h hp hc hs ho =>
          have h:ρ.g F k=some _:=h
          rw[hg]at h;cases h
          subst hs
          have:=VR.aD (ρ:=ρ.set H.length r) (id:=H.length) (o:=0) (r:=r) (len:=n+1) (cap:=n+1) (Ren.av _ _ _) hp (Nat.le_refl _) hc (fun _ _=>by omega)
          rw[Nat.zero_add]at this
          exact this) hMh
      exact ⟨_,p1.trans p2,h3.mono (Ren.le_trans p1.ext p2.ext)⟩
    | none =>
      have p1:Post P B base M ρ H w ρ (H.set F (aa.fam 0 (aE (n+1) k ms)) ++ [aa.cells true z row]) w:=by
        have p0:=Post.jF (base:=base) (M:=M) (ms':=aE (n+1) k ms) h1 hF (by simp[aE]) (by show (ms.set (k+1) junk)[0]?=_;rw[List.getElem?_set_ne (by omega)]) (fun k' r' hk'=>by
          show (ms.set (k+1) junk)[k'+1]?=_
          rw [List.getElem?_set_ne (fun e => by have : k = k' := by omega
                                                subst this;rw[hg]at hk';cases hk')]) hMF
        exact p0.trans (Post.mN p0.rel (by simpa using h2) _)
      have hge:=hget (aE (n+1) k ms)
      have p2:=Post.eT (M:=M) (base:=base) p1.rel (t:=t) (v:=.slice (some ⟨H.length,0,some 1⟩) (n+1) (n+1)) hge (fun v0 e v' hh=>by
        rw[hv]at e;cases e
        cases hh with
        |fsl h hp hc hs ho=>have h:ρ.g F k=some _:=h;rw[hg]at h;cases h) hMh
      exact ⟨_,p1.trans p2,h3.mono (Ren.le_trans p1.ext p2.ext)⟩
theorem Post.give{B base:Nat}{M:List Nat}{ρ:Ren}{H:Heap}{w:World}(hr:Rel P B ρ H w){A F k z:Nat}{rA:RI}{cs ms:List Value}(hρ:ρ A=some rA)(hA:H[A]?=some (.cells true z cs))(hF:H[F]?=some (.fam 0 ms))
  (hz:ms[0]?=some (.int .i64 (z:Int))) (h0:0<z) (hc:0<cs.length) (hk:ms.length=k+1) (hMA:A<base->A∈M) (hMF:F<base->F∈M) :
  Post P B base M ρ H w (ρ.mem1 A F k) ((H.set A .dead).set F (.fam 0 (ms ++ [.agg ⟨cs⟩]))) w:=by
 have hAl:A<H.length:=(List.getElem?_eq_some_iff.1 hA).1
 have hFl:F<H.length:=(List.getElem?_eq_some_iff.1 hF).1
 have hne:A≠F:=fun e=>by subst e;rw[hA]at hF;cases hF
 have hgn:ρ.g F k=none:=by
  cases hq:ρ.g F k with
  |none=>rfl
  |some r=>have:=hr.fam.cnt F k r ms hq hF;omega
 have hle:Ren.le ρ (ρ.mem1 A F k):=⟨fun _ _ h=>h,fun _ _ h=>h,fun F' k' r h=>by
  show (if _ then _ else _)=_
  rw[if_neg]
  ·exact h
  ·rintro ⟨rfl,rfl⟩;rw[hgn]at h;cases h⟩
 have hgA:((H.set A .dead).set F (.fam 0 (ms ++ [.agg ⟨cs⟩])))[A]?=some .dead:=by
  rw[List.getElem?_set_ne (Ne.symm hne),List.getElem?_set_self hAl]
 have hgF:((H.set A .dead).set F (.fam 0 (ms ++ [.agg ⟨cs⟩])))[F]?=some (.fam 0 (ms ++ [.agg ⟨cs⟩])):=List.getElem?_set_self (by simpa using hFl)
 have hgo:∀i,i≠A->i≠F->((H.set A .dead).set F (.fam 0 (ms ++ [.agg ⟨cs⟩])))[i]?=H[i]? := fun i a b=>by
  rw[List.getElem?_set_ne (Ne.symm b),List.getElem?_set_ne (Ne.symm a)]
 have back:∀i p,((H.set A .dead).set F (.fam 0 (ms ++ [.agg ⟨cs⟩])))[i]?=some p->p.alive=true->i≠A/\H[i]?=some p:=fun i p h ha=>by
  by_cases e:i=A
  ·subst e;rw[hgA]at h;cases h;cases ha
  ·by_cases e2:i=F
   ·subst e2;rw[hgF]at h;cases h;cases ha
   ·rw[hgo i e e2]at h;exact ⟨e,h⟩
 have gof:∀{F' k' r},(ρ.mem1 A F k).g F' k'=some r->(F'=F/\k'=k/\ρ A=some r)∨(¬ (F'=F/\k'=k)/\ρ.g F' k'=some r):=fun {F' k' r} h=>by
  have h:(if F'=F/\k'=k then ρ.f A else ρ.g F' k')=some r:=h
  by_cases e:F'=F/\k'=k
  ·rw[if_pos e]at h;exact .inl ⟨e.1,e.2,h⟩
  ·rw[if_neg e]at h;exact .inr ⟨e,h⟩
 have hold:∀{k' r},ρ.g F k'=some r->(ms ++ [Value.agg ⟨cs⟩])[k'+1]?=ms[k'+1]? := fun h=>List.getElem?_append_left (hr.fam.cnt F _ _ ms h hF)
 have h0':(ms ++ [Value.agg ⟨cs⟩])[0]?=ms[0]? := List.getElem?_append_left (by omega)
 have hnew:(ms ++ [Value.agg ⟨cs⟩])[k+1]?=some (.agg ⟨cs⟩):=by rw[List.getElem?_append_right (by omega),hk];simp
 have fm:∀{F' k' r z' c},FM (ρ.mem1 A F k) ((H.set A .dead).set F (.fam 0 (ms ++ [.agg ⟨cs⟩]))) F' k' r z' c ->
   (F'=F/\k'=k/\ρ A=some r/\z'=0/\c=ms ++ [.agg ⟨cs⟩])∨(∃c',FM ρ H F' k' r z' c'/\¬ (F'=F/\k'=k)/\(c=c'∨(F'=F/\c'=ms/\c=ms ++ [.agg ⟨cs⟩]/\z'=0))):=fun {F' k' r z' c} m=>by
  have hh:=m.h
  rcases gof m.g with ⟨rfl,rfl,h⟩|⟨e,h⟩
  ·rw[hgF]at hh;cases hh
   exact .inl ⟨rfl,rfl,h,rfl,rfl⟩
  ·right
   by_cases e2:F'=F
   ·subst e2
    rw[hgF]at hh;cases hh
    obtain ⟨rw1,h1,h1'⟩:=m.a rfl
    exact ⟨ms,⟨h,hF,fun _=>⟨rw1,by rw[<- hold h];exact h1,h1'⟩⟩,e,.inr ⟨rfl,rfl,rfl,rfl⟩⟩
   ·by_cases e3:F'=A
    ·subst e3;rw[hgA]at hh;cases hh
    ·rw[hgo F' e3 e2]at hh
     exact ⟨c,⟨h,hh,m.a⟩,e,.inl rfl⟩
 have hown:(aa.cells true z cs).owned=true:=rfl
 refine ⟨⟨hr.bsize,hr.cS,fun i x h=>by simpa using hr.dom i x h,hr.lt,fun i x o h1 h2 =>?_,fun i x o h1 h2 h3=>hr.base i x o h1 (back i o h2 (aJ h3)).2 h3,
   fun i j x y o o' h1 h2 h3 h4 h5 h6 hn=>hr.sep i j x y o o' h1 h2 (back i o h3 (aJ h5)).2 (back j o' h4 h6).2 h5 h6 hn,fun b m hm=>⟨(hr.mem b m hm).1,fun i x o h1 h2 h3=>(hr.mem b m hm).2 i x o h1 (back i o h2 (aJ h3)).2 h3⟩,?_⟩,
  hle,fun i x a b=>(by have a:ρ i=some x:=a;rw[b]at a;cases a),by simp,fun i h1 h2 =>?_,Nat.le_refl _,fun _ _ _=>rfl,fun b _ hob =>?_,rfl,rfl,rfl,fun _ _ h => .inl h,Nat.le_refl _,fun F' k' r a b =>?_⟩
 ·cases ha:o.alive with
  |true=>exact (hr.obj i x o h1 (back i o h2 ha).2).mono hle rfl
  |false=>cases o <;> first|trivial|simp[aa.alive]at ha
 ·refine ⟨fun F' k' r h =>?_,fun F' k' r h =>?_,fun F' k' r z' c m =>?_,fun F' k' r z' c m =>?_,fun F1 k1 r1 z1 c1 F2 k2 r2 z2 c2 m1 m2 e =>?_,fun F' k' r z' c id r2 o m h1 h2 h3 =>?_,fun F' k' r z' c b m2 m hb =>?_,fun F' k' r c g h =>?_⟩
  ·rcases gof h with ⟨rfl,_,_⟩|⟨_,h⟩
   ·simpa using hFl
   ·simpa using hr.fam.dom _ _ _ h
  ·rcases gof h with ⟨_,_,h⟩|⟨_,h⟩
   ·exact hr.lt _ _ h
   ·exact hr.fam.lt _ _ _ h
  ·rcases fm m with ⟨_,_,h,_⟩|⟨c',m',_⟩
   ·exact hr.base A r _ h hA hown
   ·exact hr.fam.base _ _ _ _ _ m'
  ·rcases fm m with ⟨rfl,rfl,h,rfl,rfl⟩|⟨c',m',e,hc'⟩
   ·obtain ⟨e1,e2,cs',ty,fz,hb,hn,hfz,hcs⟩:=hr.obj A r _ h hA
    obtain rfl:fz=(0,0):=hfz rfl
    have hlast:=hcs (cs.length-1) _ (List.getElem?_eq_getElem (by omega))
    obtain ⟨v',g1,_⟩:=hlast
    have hlt:=(Array.getElem?_eq_some_iff.1 g1).1
    refine ⟨cs',ty,hb,by simp,fun _=>⟨⟨hn.symm,e1.symm,by omega,by rw[h0',hz,e2]⟩,fun v hv => .inr ⟨_,by rw[hnew]at hv;exact (Option.some.inj hv).symm⟩,fun row hrow =>?_⟩,by omega,fun i v hi hv=>absurd hi (Nat.not_lt_zero _)⟩
    rw[hnew]at hrow;cases hrow
    refine ⟨by show r.s+cs.length<=_;omega,fun i v hv =>?_⟩
    obtain ⟨v',a1,a2⟩:=hcs i v (by simpa using hv)
    exact ⟨v',a1,a2.mono hle⟩
   ·have ob:=hr.fam.obj _ _ _ _ _ m'
    rcases hc' with rfl|⟨rfl,hc1,rfl,rfl⟩
    ·exact ob.mono hle rfl
    ·obtain ⟨cs',ty,a1,a2,a3,a4,a5⟩:=ob.mono hle rfl
     subst hc1
     have hkk:=hold m'.g
     exact ⟨cs',ty,a1,by simp,fun _=>⟨⟨(a3 rfl).1.1,(a3 rfl).1.2.1,(a3 rfl).1.2.2.1,by rw[h0'];exact (a3 rfl).1.2.2.2⟩,fun v h1=>(a3 rfl).2.1 v (by rw[<- hkk];exact h1),fun rw1 h1=>(a3 rfl).2.2 rw1 (by rw[<- hkk];exact h1)⟩,a4,fun i v hi _=>absurd hi (Nat.not_lt_zero _)⟩
  ·rcases fm m1 with ⟨rfl,rfl,g1,_⟩|⟨c1',m1',e1,_⟩
   ·rcases fm m2 with ⟨rfl,rfl,g2,_⟩|⟨c2',m2',e2,_⟩
    ·exact ⟨rfl,rfl⟩
    ·exact absurd e (hr.fam.sep2 _ _ _ _ _ A r1 _ m2' g1 hA rfl)
   ·rcases fm m2 with ⟨rfl,rfl,g2,_⟩|⟨c2',m2',e2,_⟩
    ·exact absurd e.symm (hr.fam.sep2 _ _ _ _ _ A r2 _ m1' g2 hA rfl)
    ·exact hr.fam.sep _ _ _ _ _ _ _ _ _ _ m1' m2' e
  ·obtain ⟨hid,ho⟩:=back id o h2 h3
   rcases fm m with ⟨_,_,g1,_⟩|⟨c',m',_⟩
   ·exact (hr.sep A id r r2 _ o g1 h1 hA ho hown h3 (Ne.symm hid)).symm
   ·exact hr.fam.sep2 _ _ _ _ _ id r2 o m' h1 ho h3
  ·rcases fm m with ⟨_,_,g1,_⟩|⟨c',m',_⟩
   ·exact (hr.mem b m2 hb).2 A r _ g1 hA hown
   ·exact hr.fam.mem _ _ _ _ _ b m2 m' hb
  ·by_cases e:F'=F
   ·subst e;rw[hgF]at h;cases h
    rcases gof g with ⟨_,rfl,_⟩|⟨_,q⟩
    ·simp;omega
    ·have:=hr.fam.cnt F' k' r ms q hF;simp;omega
   ·by_cases e2:F'=A
    ·subst e2;rw[hgA]at h;cases h
    ·rw[hgo F' e2 e]at h
     rcases gof g with ⟨q,_,_⟩|⟨_,q⟩
     ·exact absurd q e
     ·exact hr.fam.cnt F' k' r c q h
 ·by_cases e:i=A
  ·exact absurd (e ▸ hMA (e ▸ h1)) h2
  ·by_cases e2:i=F
   ·exact absurd (e2 ▸ hMF (e2 ▸ h1)) h2
   ·exact hgo i e e2
 ·rcases hob with ⟨i,x,o,k1,k2,k3,k4⟩|⟨F',k',x,z',c,m,e⟩
  ·exact .inl ⟨i,x,o,k1,(back i o k2 (aJ k3)).2,k3,k4⟩
  ·rcases fm m with ⟨_,_,g1,_⟩|⟨c',m',_⟩
   ·exact .inl ⟨A,x,_,g1,hA,hown,e⟩
   ·exact .inr ⟨F',k',x,z',c',m',e⟩
 ·rcases gof a with ⟨rfl,_,_⟩|⟨_,h⟩
  ·rcases Nat.lt_or_ge F' base with hl|hl
   ·exact .inr (hMF hl)
   ·exact .inl hl
  ·rw[b]at h;cases h
def cp(n:Nat)(ms row:List Value):List Value:=match n with|0=>ms|_+1=>ms ++ [.agg ⟨row⟩]
theorem aL.give{base:Nat}{M:List Nat}{T:Tm}{H:Heap}{hd zh t F A k n z:Nat}{tag:Option Nat}{hs ms row:List Value}(ho:H[hd]?=some (.cells true zh hs))(hF:H[F]?=some (.fam 0 ms))(hA:H[A]?=some (.cells true z row))
    (hv:hs[t]?=some (.slice (some ⟨A,0,tag⟩) n n)) (htag:tag=some 1∨(tag=none/\0<n)) (hz:ms[0]?=some (.int .i64 (z:Int))) (h0:0<z) (hn:row.length=n*z) (hk:ms.length=k+1) (hMh:hd<base->hd∈M) (hMF:F<base->F∈M) (hMA:A<base->A∈M) (hAh:A≠hd) :
    aL P base M T H T (((H.set A aa.dead).set F (aa.fam 0 (cp n ms row))).set hd (aa.cells true zh (hs.set t (cX n F k)))):=by
  intro B ρ w N tmps h1 h2 h3
  have hhl:hd<H.length:=(List.getElem?_eq_some_iff.1 ho).1
  have hne:hd≠F:=fun e=>by subst e;rw[ho]at hF;cases hF
  have hAF:A≠F:=fun e=>by subst e;rw[hA]at hF;cases hF
  have hget:∀X:List Value,((H.set A .dead).set F (.fam 0 X))[hd]?=some (.cells true zh hs):=fun X=>by
    rw[List.getElem?_set_ne (Ne.symm hne),List.getElem?_set_ne hAh];exact ho
  have pd:=Post.kr (base:=base) (M:=M) h1 hA rfl hMA
  cases n with
  | zero =>
    obtain rfl : tag = some 1 := by rcases htag with h | ⟨_, h⟩; · exact h
                                    · exact absurd h (Nat.lt_irrefl 0)
    have hF':(H.set A .dead)[F]?=some (.fam 0 ms):=by rw[List.getElem?_set_ne hAF];exact hF
    have p1:=Post.jF (base:=base) (M:=M) (ms':=cp 0 ms row) pd.rel hF' (Nat.le_refl _) rfl (fun _ _ _=>rfl) hMF
    have p2:=Post.eT (M:=M) (base:=base) p1.rel (t:=t) (v:=cX 0 F k) (hget _) (fun v0 e v' hh=>by
      rw[hv]at e;cases e
      cases hh with
      |ax=>exact .bS
      |ay=>exact .bS
      |aD _ hp=>exact absurd hp (Nat.lt_irrefl 0)) hMh
    exact ⟨_,pd.trans (p1.trans p2),h3⟩
  | succ n =>
    cases hq:ρ A with
    | none =>
      have hF':(H.set A .dead)[F]?=some (.fam 0 ms):=by rw[List.getElem?_set_ne hAF];exact hF
      have p1:=Post.jF (base:=base) (M:=M) (ms':=cp (n+1) ms row) pd.rel hF' (by simp[cp]) (by show (ms ++ [_])[0]?=_;exact List.getElem?_append_left (by omega)) (fun k' r' hk'=>by
        show (ms ++ [_])[k'+1]?=_
        exact List.getElem?_append_left (h1.fam.cnt F k' r' ms hk' hF)) hMF
      have p2:=Post.eT (M:=M) (base:=base) p1.rel (t:=t) (v:=cX (n+1) F k) (hget _) (fun v0 e v' hh=>by
        rw[hv]at e;cases e
        rcases htag with rfl|⟨rfl,_⟩
        · cases hh with|aD h=>rw[hq]at h;cases h
        · cases hh with|slice h=>rw[hq]at h;cases h) hMh
      exact ⟨_,pd.trans (p1.trans p2),h3⟩
    | some rA =>
      have hrl:0<row.length:=by rw[hn];exact Nat.mul_pos (Nat.succ_pos _) h0
      have p1:=Post.give (base:=base) (M:=M) h1 hq hA hF hz h0 hrl hk hMA hMF
      obtain ⟨e1,e2,_⟩:=h1.obj A rA _ hq hA
      have hgg:(ρ.mem1 A F k).g F k=some rA:=by
        show (if _ then _ else _)=_
        rw[if_pos ⟨rfl,rfl⟩];exact hq
      have p2:=Post.eT (M:=M) (base:=base) p1.rel (t:=t) (v:=cX (n+1) F k) (hget _) (fun v0 e v' hh=>by
        rw[hv]at e;cases e
        rcases htag with rfl|⟨rfl,_⟩
        · cases hh with
          | aD h hp hl hc ho2 =>
            have h:ρ A=some _:=h
            rw[hq]at h;cases h
            rw[Nat.zero_add]
            exact .fsl hgg (Nat.succ_pos _) hc rfl (by have:=ho2 e1.symm (by omega);omega)
        · cases hh with
          | slice h hl hc ho2 =>
            have h:ρ A=some _:=h
            rw[hq]at h;cases h
            rw[Nat.zero_add]
            exact .fsl hgg (Nat.succ_pos _) hc rfl (by have:=ho2 e1.symm (by omega);omega)) hMh
      exact ⟨_,p1.trans p2,h3.mono (Ren.le_trans p1.ext p2.ext)⟩
theorem Post.kV{B base:Nat}{M:List Nat}{ρ:Ren}{H:Heap}{w:World}(hr:Rel P B ρ H w){b t:Nat}{es:List (Value×Value)}{key v:Value}(ho:H[b]?=some (.map es))(hv:∀v0,es[t]?=some (key,v0)->Ho ρ v0 v)(hk:∃v0,es[t]?=some (key,v0))(hM:b<base->b∈M) :
  Post P B base M ρ H w ρ (H.set b (.map (es.set t (key,v)))) w:=by
 refine Post.zW hr ho rfl rfl (fun _ _ h=>by cases h) (fun _ _ h=>by cases h) (fun r h0 h =>?_) hM
 obtain ⟨h1,es',h2,⟨h3,h4⟩,h5⟩:=h
 refine ⟨h1,es',h2,⟨by rw[List.length_set];exact h3,h4⟩,fun i k x hx =>?_⟩
 by_cases e:t=i
 ·subst e
  obtain ⟨v0,e0⟩:=hk
  rw[List.getElem?_set_self (List.getElem?_eq_some_iff.1 e0).1]at hx
  cases hx
  obtain ⟨e',a,c1,c2⟩:=h5 t key v0 e0
  exact ⟨e',a,c1,hv v0 e0 _ c2⟩
 ·rw[List.getElem?_set_ne e]at hx
  exact h5 i k x hx
theorem aL.wN{base:Nat}{M:List Nat}{T:Tm}{H:Heap}{hd t F k n z:Nat}{es:List (Value×Value)}{key:Value}{ms row:List Value}(ho:H[hd]?=some (.map es))(hF:H[F]?=some (.fam 0 ms))(hv:es[t]?=some (key,cX n F k))
    (hz:ms[0]?=some (.int .i64 (z:Int))) (hn:row.length=n*z) (hrow:0<n->ms[k+1]?=some (.agg ⟨row⟩)) (hMh:hd<base->hd∈M) (hMF:F<base->F∈M) :
    aL P base M T H T ((H.set F (aa.fam 0 (aE n k ms)) ++ [aa.cells true z row]).set hd (aa.map (es.set t (key,.slice (some ⟨H.length,0,some 1⟩) n n)))):=by
  intro B ρ w N tmps h1 h2 h3
  have hhl:hd<H.length:=(List.getElem?_eq_some_iff.1 ho).1
  have hne:hd≠F:=fun e=>by subst e;rw[ho]at hF;cases hF
  have hget:∀X:List Value,(H.set F (.fam 0 X) ++ [aa.cells true z row])[hd]?=some (.map es):=fun X=>by
    rw[List.getElem?_append_left (by simpa using hhl),List.getElem?_set_ne (Ne.symm hne)];exact ho
  have htl:=(List.getElem?_eq_some_iff.1 hv).1
  cases n with
  | zero =>
    have e0:H.set F (.fam 0 (aE 0 k ms))=H:=by
      show H.set F (.fam 0 ms)=H
      have hFl:F<H.length:=(List.getElem?_eq_some_iff.1 hF).1
      have:H[F] = .fam 0 ms:=by have:=hF;rw[List.getElem?_eq_getElem hFl]at this;exact Option.some.inj this
      rw[<- this];exact List.set_getElem_self _
    have hge:=hget (aE 0 k ms)
    rw[e0]at hge ⊢
    have p1:=Post.mN (M:=M) h1 h2 (.cells true z row)
    have p2:=Post.kV (M:=M) (base:=base) p1.rel (t:=t) (v:=.slice (some ⟨H.length,0,some 1⟩) 0 0) hge (fun v0 e v' hh=>by
      rw[hv]at e;cases e
      cases hh with
      |fsl _ hp=>exact absurd hp (Nat.lt_irrefl 0)
      | @bS a _ =>
        cases a with
        |none=>exact .ax
        |some a=>exact .ay ) ⟨_,hv⟩ hMh
    exact ⟨ρ,p1.trans p2,h3⟩
  | succ n =>
    cases hg:ρ.g F k with
    | some r =>
      have p1:=Post.mG (M:=M) h1 h2 hg hF hz (hrow (Nat.succ_pos _)) hMF
      have hge:=hget (aE (n+1) k ms)
      have p2:=Post.kV (M:=M) (base:=base) p1.rel (t:=t) (v:=.slice (some ⟨H.length,0,some 1⟩) (n+1) (n+1)) hge (fun v0 e v' hh=>by
        rw[hv]at e;cases e
        cases hh with
        | fsl h hp hc hs ho =>
          have h:ρ.g F k=some _:=h
          rw[hg]at h;cases h
          subst hs
          have:=VR.aD (ρ:=ρ.set H.length r) (id:=H.length) (o:=0) (r:=r) (len:=n+1) (cap:=n+1) (Ren.av _ _ _) hp (Nat.le_refl _) hc (fun _ _=>by omega)
          rw[Nat.zero_add]at this
          exact this ) ⟨_,hv⟩ hMh
      exact ⟨_,p1.trans p2,h3.mono (Ren.le_trans p1.ext p2.ext)⟩
    | none =>
      have p1:Post P B base M ρ H w ρ (H.set F (aa.fam 0 (aE (n+1) k ms)) ++ [aa.cells true z row]) w:=by
        have p0:=Post.jF (base:=base) (M:=M) (ms':=aE (n+1) k ms) h1 hF (by simp[aE]) (by show (ms.set (k+1) junk)[0]?=_;rw[List.getElem?_set_ne (by omega)]) (fun k' r' hk'=>by
          show (ms.set (k+1) junk)[k'+1]?=_
          rw [List.getElem?_set_ne (fun e => by have : k = k' := by omega
                                                subst this;rw[hg]at hk';cases hk')]) hMF
        exact p0.trans (Post.mN p0.rel (by simpa using h2) _)
      have hge:=hget (aE (n+1) k ms)
      have p2:=Post.kV (M:=M) (base:=base) p1.rel (t:=t) (v:=.slice (some ⟨H.length,0,some 1⟩) (n+1) (n+1)) hge (fun v0 e v' hh=>by
        rw[hv]at e;cases e
        cases hh with
        |fsl h hp hc hs ho=>have h:ρ.g F k=some _:=h;rw[hg]at h;cases h ) ⟨_,hv⟩ hMh
      exact ⟨_,p1.trans p2,h3.mono (Ren.le_trans p1.ext p2.ext)⟩
theorem aL.xr{base:Nat}{M:List Nat}{T:Tm}{H:Heap}{hd t F A k n z:Nat}{tag:Option Nat}{es:List (Value×Value)}{key:Value}{ms row:List Value}(ho:H[hd]?=some (.map es))(hF:H[F]?=some (.fam 0 ms))(hA:H[A]?=some (.cells true z row))
    (hv:es[t]?=some (key,.slice (some ⟨A,0,tag⟩) n n)) (htag:tag=some 1∨(tag=none/\0<n)) (hz:ms[0]?=some (.int .i64 (z:Int))) (h0:0<z) (hn:row.length=n*z) (hk:ms.length=k+1) (hMh:hd<base->hd∈M) (hMF:F<base->F∈M) (hMA:A<base->A∈M) (hAh:A≠hd) :
    aL P base M T H T (((H.set A aa.dead).set F (aa.fam 0 (cp n ms row))).set hd (aa.map (es.set t (key,cX n F k)))):=by
  intro B ρ w N tmps h1 h2 h3
  have hhl:hd<H.length:=(List.getElem?_eq_some_iff.1 ho).1
  have hne:hd≠F:=fun e=>by subst e;rw[ho]at hF;cases hF
  have hAF:A≠F:=fun e=>by subst e;rw[hA]at hF;cases hF
  have hget:∀X:List Value,((H.set A .dead).set F (.fam 0 X))[hd]?=some (.map es):=fun X=>by
    rw[List.getElem?_set_ne (Ne.symm hne),List.getElem?_set_ne hAh];exact ho
  have pd:=Post.kr (base:=base) (M:=M) h1 hA rfl hMA
  cases n with
  | zero =>
    obtain rfl : tag = some 1 := by rcases htag with h | ⟨_, h⟩; · exact h
                                    · exact absurd h (Nat.lt_irrefl 0)
    have hF':(H.set A .dead)[F]?=some (.fam 0 ms):=by rw[List.getElem?_set_ne hAF];exact hF
    have p1:=Post.jF (base:=base) (M:=M) (ms':=cp 0 ms row) pd.rel hF' (Nat.le_refl _) rfl (fun _ _ _=>rfl) hMF
    have p2:=Post.kV (M:=M) (base:=base) p1.rel (t:=t) (v:=cX 0 F k) (hget _) (fun v0 e v' hh=>by
      rw[hv]at e;cases e
      cases hh with
      |ax=>exact .bS
      |ay=>exact .bS
      |aD _ hp=>exact absurd hp (Nat.lt_irrefl 0) ) ⟨_,hv⟩ hMh
    exact ⟨_,pd.trans (p1.trans p2),h3⟩
  | succ n =>
    cases hq:ρ A with
    | none =>
      have hF':(H.set A .dead)[F]?=some (.fam 0 ms):=by rw[List.getElem?_set_ne hAF];exact hF
      have p1:=Post.jF (base:=base) (M:=M) (ms':=cp (n+1) ms row) pd.rel hF' (by simp[cp]) (by show (ms ++ [_])[0]?=_;exact List.getElem?_append_left (by omega)) (fun k' r' hk'=>by
        show (ms ++ [_])[k'+1]?=_
        exact List.getElem?_append_left (h1.fam.cnt F k' r' ms hk' hF)) hMF
      have p2:=Post.kV (M:=M) (base:=base) p1.rel (t:=t) (v:=cX (n+1) F k) (hget _) (fun v0 e v' hh=>by
        rw[hv]at e;cases e
        rcases htag with rfl|⟨rfl,_⟩
        · cases hh with|aD h=>rw[hq]at h;cases h
        · cases hh with|slice h=>rw[hq]at h;cases h ) ⟨_,hv⟩ hMh
      exact ⟨_,pd.trans (p1.trans p2),h3⟩
    | some rA =>
      have hrl:0<row.length:=by rw[hn];exact Nat.mul_pos (Nat.succ_pos _) h0
      have p1:=Post.give (base:=base) (M:=M) h1 hq hA hF hz h0 hrl hk hMA hMF
      obtain ⟨e1,e2,_⟩:=h1.obj A rA _ hq hA
      have hgg:(ρ.mem1 A F k).g F k=some rA:=by
        show (if _ then _ else _)=_
        rw[if_pos ⟨rfl,rfl⟩];exact hq
      have p2:=Post.kV (M:=M) (base:=base) p1.rel (t:=t) (v:=cX (n+1) F k) (hget _) (fun v0 e v' hh=>by
        rw[hv]at e;cases e
        rcases htag with rfl|⟨rfl,_⟩
        · cases hh with
          | aD h hp hl hc ho2 =>
            have h:ρ A=some _:=h
            rw[hq]at h;cases h
            rw[Nat.zero_add]
            exact .fsl hgg (Nat.succ_pos _) hc rfl (by have:=ho2 e1.symm (by omega);omega)
        · cases hh with
          | slice h hl hc ho2 =>
            have h:ρ A=some _:=h
            rw[hq]at h;cases h
            rw[Nat.zero_add]
            exact .fsl hgg (Nat.succ_pos _) hc rfl (by have:=ho2 e1.symm (by omega);omega) ) ⟨_,hv⟩ hMh
      exact ⟨_,p1.trans p2,h3.mono (Ren.le_trans p1.ext p2.ext)⟩
theorem aL.wM{base:Nat}{M:List Nat}{T:Tm}{H:Heap}{s F k n z:Nat}{ms row:List Value}(hF:H[F]?=some (.fam 0 ms))(hv:T s=cX n F k)
    (hz:ms[0]?=some (.int .i64 (z:Int))) (hn:row.length=n*z) (hrow:0<n->ms[k+1]?=some (.agg ⟨row⟩)) (hMF:F<base->F∈M) :
    aL P base M T H (put T (some s) (.slice (some ⟨H.length,0,some 1⟩) n n)) (H.set F (aa.fam 0 (aE n k ms)) ++ [aa.cells true z row]):=by
  intro B ρ w N tmps h1 h2 h3
  have fin:∀ρ1,Post P B base M ρ H w ρ1 (H.set F (aa.fam 0 (aE n k ms)) ++ [aa.cells true z row]) w->(∀x,VR ρ (cX n F k) x->VR ρ1 (.slice (some ⟨H.length,0,some 1⟩) n n) x) ->
      ∃ρ',Post P B base M ρ H w ρ' (H.set F (aa.fam 0 (aE n k ms)) ++ [aa.cells true z row]) w/\TR ρ' N (put T (some s) (.slice (some ⟨H.length,0,some 1⟩) n n)) tmps:=by
    intro ρ1 p hw
    refine ⟨ρ1,p,h3.1,fun u hu =>?_⟩
    have:=h3.2 u hu
    show VR ρ1 (upd T s _ u) _
    unfold upd
    by_cases e:u=s
    · subst e
      rw[if_pos rfl]
      rw[hv]at this
      exact hw _ this
    · rw [if_neg e]
      exact this.mono p.ext
  cases n with
  | zero =>
    have e0:H.set F (.fam 0 (aE 0 k ms))=H:=by
      show H.set F (.fam 0 ms)=H
      have hFl:F<H.length:=(List.getElem?_eq_some_iff.1 hF).1
      have:H[F] = .fam 0 ms:=by have:=hF;rw[List.getElem?_eq_getElem hFl]at this;exact Option.some.inj this
      rw[<- this];exact List.set_getElem_self _
    refine fin ρ (by rw[e0];exact Post.mN (M:=M) h1 h2 (.cells true z row)) (fun x hh =>?_)
    cases hh with
    |fsl _ hp=>exact absurd hp (Nat.lt_irrefl 0)
    | @bS a _ =>
      cases a with
      |none=>exact .ax
      |some a=>exact .ay
  | succ n =>
    cases hg:ρ.g F k with
    | some r =>
      refine fin _ (Post.mG (M:=M) h1 h2 hg hF hz (hrow (Nat.succ_pos _)) hMF) (fun x hh =>?_)
      cases hh with
      | fsl h hp hc hs ho =>
        have h:ρ.g F k=some _:=h
        rw[hg]at h;cases h
        subst hs
        have:=VR.aD (ρ:=ρ.set H.length r) (id:=H.length) (o:=0) (r:=r) (len:=n+1) (cap:=n+1) (Ren.av _ _ _) hp (Nat.le_refl _) hc (fun _ _=>by omega)
        rw[Nat.zero_add]at this
        exact this
    | none =>
      have p0:=Post.jF (base:=base) (M:=M) (ms':=aE (n+1) k ms) h1 hF (by simp[aE]) (by show (ms.set (k+1) junk)[0]?=_;rw[List.getElem?_set_ne (by omega)]) (fun k' r' hk'=>by
        show (ms.set (k+1) junk)[k'+1]?=_
        rw [List.getElem?_set_ne (fun e => by have : k = k' := by omega
                                              subst this;rw[hg]at hk';cases hk')]) hMF
      refine fin ρ (p0.trans (Post.mN p0.rel (by simpa using h2) _)) (fun x hh =>?_)
      cases hh with
      |fsl h hp hc hs ho=>have h:ρ.g F k=some _:=h;rw[hg]at h;cases h
theorem aL.rh{base:Nat}{M:List Nat}{T:Tm}{H:Heap}{hd t A n c zh z:Nat}{tag:Option Nat}{hs row:List Value}(ho:H[hd]?=some (.cells true zh hs))(hA:H[A]?=some (.cells true z row))
  (hv:hs[t]?=some (.slice (some ⟨A,0,tag⟩) n c)) (htag:tag=none∨tag=some 1) (hMh:hd<base->hd∈M) (hMA:A<base->A∈M) (hne:A≠hd) :
  aL P base M T H T ((H.set A .dead).set hd (aa.cells true zh (hs.set t (.iface (n+1) (.agg ⟨row⟩))))):=by
 intro B ρ w N tmps hr hb hT
 have hget:(H.set A .dead)[hd]?=some (.cells true zh hs):=by rw[List.getElem?_set_ne hne];exact ho
 cases hid:ρ A with
 |none =>
  have p1:=Post.kr (base:=base) (M:=M) hr hA rfl hMA
  have p2:=Post.eT (M:=M) (base:=base) p1.rel (t:=t) (v:=.iface (n+1) (.agg ⟨row⟩)) hget (fun v0 e x hx=>by
   rw[hv]at e;cases e
   exact VR.jk htag hid hx) hMh
  exact ⟨ρ,p1.trans p2,hT⟩
 |some r =>
  have hob:=hr.obj A r _ hid hA
  obtain ⟨_,_,m,ty,fz,hbm,_⟩:=hob
  have p1:=Post.yZ (base:=base) (M:=M) hr hid hA hbm hMA
  have p2:=Post.eT (M:=M) (base:=base) p1.rel (t:=t) (v:=.iface (n+1) (.agg ⟨row⟩)) hget (fun v0 e x hx=>by
   rw[hv]at e;cases e
   have hx':VR ρ (.slice (some ⟨A,0,tag⟩) n c) x:=by
    rcases htag with rfl|rfl
    ·cases hx with
     |slice h hl hc ho=>exact .slice (ρ:=ρ) h hl hc ho
     |aQ h=>exact .aQ (ρ:=ρ) h
    ·cases hx with
     |ax=>exact .ax
     |ay=>exact .ay
     |aD h hp hl hc ho=>exact .aD (ρ:=ρ) h hp hl hc ho
   exact VR.freeze (H:=H) htag hid hbm (hr.obj A r _ hid hA) p1.ext hx') hMh
  exact ⟨_,p1.trans p2,hT.mono (Ren.le_trans p1.ext p2.ext)⟩
end Go.K
namespace Go.K
noncomputable section
variable {P:Program}
def Is(v:Value)(H:Heap):Value->Heap->Prop:=fun v' H'=>v'=v/\H'=H
def sN(bs:List Nat)(ops:Array Oper)(done:Nat):List Nat->Option Nat
 | [] =>none
 |i :: is=>if (match ops[i]? with|some o => !df o|none=>false)&&(bs.getD i 0 &&& done == bs.getD i 0) then some i else sN bs ops done is
def wY(bs:List Nat)(done:Nat):List Nat->Option Nat
 | [] =>none
 |i :: is=>if bs.getD i 0 &&& done == bs.getD i 0 then some i else wY bs done is
def EJ(bs:List Nat)(ops:Array Oper):Nat->Nat->List Nat->List Nat
 |0,_,_=>[]
 |n+1,done,todo =>
  match (match sN bs ops done todo with|some i=>some i|none=>wY bs done todo) with
  |some i=>i :: EJ bs ops n (done |||2 ^ i) (todo.filter (fun j => !(Nat.beq j i)))
  |none=>[]
def EG(l:List Oper):List Nat:=EJ (dk l []) l.toArray l.length 0 (List.range l.length)
def codeOk(N G:Nat)(mixed:Bool):Code->Bool
 | .region _ ops draw=>ops.toList.all (jp N G)&&(!draw ||(mixed&&w8 ops.toList (EG ops.toList)))
 | .seq a b=>codeOk N G mixed a&&codeOk N G mixed b
 | .cond c a b=>(match c with| .tmp t=>decide (t<N)| .const (.bool _)=>true|_=>false)&&codeOk N G mixed a&&codeOk N G mixed b
 | .block _ b=>codeOk N G mixed b
 | .scope b=>codeOk N G mixed b
 | .loop b=>codeOk N G mixed b
 | .rangeFunc g ps a b=>(match g with| .tmp t=>decide (t<N)|_=>false)&&ps.toList.all (fun p=>decide (p<N))&&codeOk N G mixed a&&codeOk N G mixed b
 | .skip| .ret| .exit _| .label _=>true
 |_=>false
def Gw(P:Program)(mixed:Bool)(f:Nat):Bool :=
 match P.funcs[f]? with
 |some fn =>
  match fn.body with
  | some c => !(fn.name == "runtime.NumGoroutine") && (mM fn.ntmps fn.results.toList && codeOk fn.ntmps P.globals.size mixed c)
  |none=>false
 |none=>false
abbrev MS:=Option (List Nat)
inductive GN where
 |new (z:Nat)
 |take (hd t F k n z:Nat) (row:List Value)
 |give (hd t F A k n z:Nat) (q:Bool)
 |wN (hd t F k n z:Nat) (key:Value) (row:List Value)
 |xr (hd t F A k n z:Nat) (key:Value) (q:Bool)
 |wM (s F k n z:Nat) (row:List Value)
 |rh (hd t A n c:Nat) (q:Bool)
 |tog (s i:Nat)
inductive Hint:Type 1 where
 |auto
 |go (n:Nat) (h:Hint)
 |fork (a b:Hint)
 |aM (a b:Hint)
 |need (h:Hint)
 |val (v:Value) (h:Hint)
 |ans (deps:List (Nat×aa)) (v:Value) (new:List aa) (h:Hint)
 |into (Mc:MS) (h:Hint)
 |keep (h:Hint)
 |obj (id:Nat) (o:aa) (h:Hint)
 |slot (t:Nat) (v:Value) (h:Hint)
 |bind (α:Type) (f:α->Hint)
 |inv (d:Nat) (α:Type) (x0:α) (σ0:List (Nat×Nat)) (ML:List Nat) (slots:α->List (Nat×Value)) (chg:α->List (Nat×Bool×aa)) (new:α->List (Bool×aa)) (lp:α->List (Nat×List (Nat×Value))) (I:α->Prop) (μ:α->Nat) (body:α->Hint)
 |again (σ:List (Nat×Nat))
 |cas (p:Prop) (a b:Hint)
 |join (d:Nat) (α:Type) (ML:List Nat) (slots:α->List (Nat×Value)) (chg:α->List (Nat×Bool×aa)) (new:α->List (Bool×aa)) (lp:α->List (Nat×List (Nat×Value))) (I:α->Prop) (a b:Hint) (next:α->Hint)
 |as (v:Value) (h:Hint)
 |ghost (o:aa) (h:Hint)
 |frz (ts:List Nat) (h:Hint)
 |dw (deps:List (Nat×aa)) (v:Value) (chg:List (Nat×aa)) (new:List aa) (h:Hint)
 |fam (l:List (Nat×Nat)) (k d:Nat) (ts bs:List Nat) (h:Hint)
 |tab (l:List GN) (h:Hint)
 |An (es:List (Value×Value)) (h:Hint)
 |nxt (h1:Nat->Hint) (h2:Hint)
 |cg (deps:List (Nat×aa)) (ids:List Nat) (α:Type) (I:α->Prop) (v:α->Value) (chg:α->List (Nat×aa)) (new:α->List aa) (h:α->Hint)
def Hint.dflt:Hint->Option Hint
 | .auto=>some .auto
 | .go n h=>some (match n with|0=>h|n+1 => .go n h)
 |_=>none
def il(h:Hint):Env->HT->(Env->HT->Hint->Prop)->Prop :=
 Hint.rec (motive:=fun _=>Env->HT->(Env->HT->Hint->Prop)->Prop)
  (fun E H K=>K E H .auto)
  (fun n h _ E H K=>K E H (.go n h))
  (fun a b _ _ E H K=>K E H (.fork a b))
  (fun a b _ _ E H K=>K E H (.aM a b))
  (fun h _ E H K=>K E H (.need h))
  (fun v h _ E H K=>K E H (.val v h))
  (fun deps v new h _ E H K=>K E H (.ans deps v new h))
  (fun Mc h _ E H K=>K E H (.into Mc h))
  (fun h _ E H K=>K E H (.keep h))
  (fun id o _ ih E H K=>H.get id=some o/\ih E (H.set id o) K)
  (fun t v _ ih E H K=>E.get t=v/\ih (E.put (some t) v) H K)
  (fun α f ih E H K => ∃x:α,ih x E H K)
  (fun d α x0 σ0 ML slots chg new lp I μ body _ E H K=>K E H (.inv d α x0 σ0 ML slots chg new lp I μ body))
  (fun σ E H K=>K E H (.again σ))
  (fun p a b iha ihb E H K=>(p->iha E H K)/\(¬ p->ihb E H K))
  (fun d α ML slots chg new lp I a b next _ _ _ E H K=>K E H (.join d α ML slots chg new lp I a b next))
  (fun v h _ E H K=>K E H (.as v h))
  (fun o h _ E H K=>K E H (.ghost o h))
  (fun ts h _ E H K=>K E H (.frz ts h))
  (fun deps v chg new h _ E H K=>K E H (.dw deps v chg new h))
  (fun l k d ts bs h _ E H K=>K E H (.fam l k d ts bs h))
  (fun l h _ E H K=>K E H (.tab l h))
  (fun es h _ E H K=>K E H (.An es h))
  (fun h1 h2 _ _ E H K=>K E H (.nxt h1 h2))
  (fun deps ids α I v chg new h _ E H K=>K E H (.cg deps ids α I v chg new h)) h
def vas(h:Hint):Value->HT->(Value->HT->Hint->Prop)->Prop :=
 Hint.rec (motive:=fun _=>Value->HT->(Value->HT->Hint->Prop)->Prop)
  (fun v H K=>K v H .auto)
  (fun n h _ v H K=>K v H (.go n h))
  (fun a b _ _ v H K=>K v H (.fork a b))
  (fun a b _ _ v H K=>K v H (.aM a b))
  (fun h _ v H K=>K v H (.need h))
  (fun x h _ v H K=>K v H (.val x h))
  (fun deps x new h _ v H K=>K v H (.ans deps x new h))
  (fun Mc h _ v H K=>K v H (.into Mc h))
  (fun h _ v H K=>K v H (.keep h))
  (fun id o h _ v H K=>K v H (.obj id o h))
  (fun t x h _ v H K=>K v H (.slot t x h))
  (fun α f _ v H K=>K v H (.bind α f))
  (fun d α x0 σ0 ML slots chg new lp I μ body _ v H K=>K v H (.inv d α x0 σ0 ML slots chg new lp I μ body))
  (fun σ v H K=>K v H (.again σ))
  (fun p a b _ _ v H K=>K v H (.cas p a b))
  (fun d α ML slots chg new lp I a b next _ _ _ v H K=>K v H (.join d α ML slots chg new lp I a b next))
  (fun x h ih v H K=>wk v x/\ih x H K)
  (fun o h ih v H K=>ih v (H.push o) K)
  (fun ts h _ v H K=>K v H (.frz ts h))
  (fun deps x chg new h _ v H K=>K v H (.dw deps x chg new h))
  (fun l k d ts bs h _ v H K=>K v H (.fam l k d ts bs h))
  (fun l h _ v H K=>K v H (.tab l h))
  (fun es h _ v H K=>K v H (.An es h))
  (fun h1 h2 _ _ v H K=>K v H (.nxt h1 h2))
  (fun deps ids α I x chg new h _ v H K=>K v H (.cg deps ids α I x chg new h)) h
def jq(id:Nat):List Nat->Bool
 | [] =>false
 |x :: xs=>cond (Nat.beq id x) true (jq id xs)
theorem gx{id:Nat}:∀{l:List Nat},jq id l=true->id∈l
 | [],h=>by cases h
 |x :: xs,h=>by
  unfold jq at h
  cases hb:Nat.beq id x with
  |true=>exact List.mem_cons.2 (.inl (Nat.eq_of_beq_eq_true hb))
  |false=>rw[hb]at h;exact List.mem_cons_of_mem _ (gx h)
def MS.list(M:MS)(n:Nat):List Nat:=match M with|none=>List.range n|some l=>l
def iw(base:Nat)(M:MS)(ms:List Nat):Bool :=
 match M with
 |none=>true
 |some l=>ms.all fun id=>cond (Nat.ble base id) true (jq id l)
theorem bT{base:Nat}{M:MS}{ms:List Nat}(h:iw base M ms=true):∀id∈ms,id<base->id∈M.list base:=by
 intro id hid hb
 cases M with
 |none=>exact List.mem_range.2 hb
 |some l =>
  simp only[iw,List.all_eq_true]at h
  have:=h id hid
  cases hq:Nat.ble base id with
  |true=>have:=Nat.le_of_ble_eq_true hq;omega
  |false=>rw[hq]at this;exact gx this
def rR(base n:Nat)(M Mc:MS):Bool :=
 match Mc with
 |none=>M.isNone
 |some l=>iw base M l
theorem fw{base n:Nat}{M Mc:MS}(h:rR base n M Mc=true):∀id∈Mc.list n,id<base->id∈M.list base:=by
 intro id hid hb
 cases Mc with
 |none =>
  cases M with
  |none=>exact List.mem_range.2 hb
  |some l=>cases h
 |some l=>exact bT (M:=M) h id hid hb
def ng(bs:List Nat)(j:Nat)(log:List (Nat×Option Nat))(ms:List Nat):Bool :=
 log.all fun p=>fP bs j p.1 ||(match p.2 with|none=>true|some x => !(jq x ms))
theorem w9{id:Nat}:∀{l:List Nat},id∈l->jq id l=true
 | [],h=>by cases h
 |x :: xs,h=>by
  unfold jq
  rcases List.mem_cons.1 h with rfl|h
  ·rw[Nat.beq_refl];rfl
  ·cases Nat.beq id x with
   |true=>rfl
   |false=>exact w9 h
theorem lM{bs:List Nat}{j:Nat}{log:List (Nat×Option Nat)}{ms:List Nat}(h:ng bs j log ms=true):Loose bs j log ms:=by
 intro p hp hd x hx hm
 unfold ng at h
 rw[List.all_eq_true]at h
 have:=h p hp
 rw[hd,hx]at this
 simp[w9 hm]at this
abbrev KV:=Value->HT->Hint->Prop
abbrev l7:=FuncId->List Value->HT->MS->Hint->KV->Prop
abbrev ov:=Value->List Value->HT->MS->Hint->KV->Prop
def yh(P:Program)(fv:Value)(args:List Value)(H:Heap)(Mc:List Nat)(v:Value)(H':Heap):Prop :=
 match fv with
 | .func (.func f) first cap=>ad P f (first.toList++args++cap.toList) H Mc (Is v H')
 |fv=>gP P fv args H Mc (Is v H')
def Hi(P:Program)(fv:Value)(args:List Value)(H:Heap)(Mc:List Nat)(Q:Value->Heap->Prop):Prop :=
 match fv with
 | .func (.func f) first cap=>ad P f (first.toList++args++cap.toList) H Mc Q
 |fv=>gP P fv args H Mc Q
def uh(H:HT):List (Nat×aa)->Prop
 | [] =>True
 |(id,o) :: r=>H.get id=some o/\uh H r
def ui(H:Heap):List (Nat×aa)->Prop
 | [] =>True
 |(id,o) :: r=>H[id]?=some o/\ui H r
def vV(H:Heap):List aa->Heap
 | [] =>H
 |o :: r=>H++(o :: r)
def eg(H:Heap):List (Nat×aa)->Heap
 | [] =>H
 |(id,o) :: r=>eg (H.set id o) r
def wO(H:HT):List (Nat×aa)->HT
 | [] =>H
 |(id,o) :: r=>wO (H.set id o) r
def xo:List (Nat×aa)->List Nat
 | [] => []
 |(id,_) :: r=>id :: xo r
def fY(H:HT):List aa->HT
 | [] =>H
 |o :: r=>fY (H.push o) r
def mz(P:Program)(app:ov)(wok:MS->Bool)(dm:Value->MS)(o:Oper)(E:Env)(H:HT)(h:Hint)(K:Env->HT->Option Nat->Hint->Prop):Prop :=
 match dE o.op with
 | .pure =>
  match h with
  | .fork h1 h2 =>
   match o.op with
   | .pick (.tmp t) x y =>
    match E.get t with
    | .bool b=>(b=true->K ((E.put (some t) (.bool true)).put o.dst (ev E.get x)) H none h1)/\(b=false->K ((E.put (some t) (.bool false)).put o.dst (ev E.get y)) H none h2)
    |_=>False
   |_=>False
  | .need h' =>
   match AA P o.op (ev E.get) H with
   |some (c,v,rd)=>c/\K (E.put o.dst v) H rd h'
   |none=>False
  | .val v h' =>
   match o.op with
   | .load t a =>
    match ev E.get a with
    | .pointer (some ⟨id,off,none⟩) =>
     match H.get id with
     |some (.cells _ _ cs)=>cb P t cs off=some v/\K (E.put o.dst v) H (some id) h'
     |_=>False
    | .pointer (some ⟨id,off,some (k+3)⟩) =>
     match H.get id with
     |some (.fam (z+1) cs) =>
      match s8 P t off (z+1) with
      |true=>cb P t cs (k*(z+1)+off)=some v/\K (E.put o.dst v) H (some id) h'
      |false=>False
     |_=>False
    | .iface off (.tuple cs)=>cb P t cs.toList off=some v/\K (E.put o.dst v) H none h'
    |_=>False
   | .index t x i=>ll P t (ev E.get x) (ev E.get i)=some v/\K (E.put o.dst v) H none h'
   | .lookup t x i ok =>
    match P.underlying t,ev E.get x with
    |some (.map kt el),.map (some id) =>
     match H.get id,dD P el,dF P kt (ev E.get i) with
     |some (.map es),some z,true=>hO P kt z (ev E.get i) ok es=some v/\K (E.put o.dst v) H (some id) h'
     |_,_,_=>False
    |_,_=>False
   |_=>False
  |h =>
   match h.dflt with
   |some h' =>
    match ve P o.op (ev E.get) H with
    |some (v,rd)=>K (E.put o.dst v) H rd h'
    |none=>False
   |none=>False
 | .alloc =>
  match h with
  | .need h' =>
   match vi P o.op (ev E.get) H.n with
   |some (c,v,ob)=>c/\K (E.put o.dst v) (H.push ob) (some H.n) h'
   |none=>False
  |h =>
   match h.dflt with
   |some h' =>
    match ia P o.op (ev E.get) H.n with
    |some (v,ob)=>K (E.put o.dst v) (H.push ob) (some H.n) h'
    |none=>False
   |none=>False
 | .write =>
  match h with
  | .need h' =>
   match vh P o.op (ev E.get) H with
   |some (c,v,H',ms)=>c/\wok (some ms)=true/\K (E.put o.dst v) H' none h'
   |none=>False
  | .val _ h' =>
   match qK P o.op (ev E.get) with
   |some (c,v)=>c/\K (E.put o.dst v) H none h'
   |none=>False
  | .An es' h' =>
   match o.op with
   | .mapUpdate t m k v =>
    match P.underlying t,ev E.get m with
    |some (.map kt el),.map (some id) =>
     match H.get id,dF P kt (ev E.get k),wok (some [id]) with
     |some (.map es),true,true=>lO P kt (ev E.get k) (ev E.get v) es=some es'/\K (E.put o.dst undef) (H.set id (.map es')) none h'
     |_,_,_=>False
    |_,_=>False
   | .mapEntry t m k =>
    match h' with
    | .val tv h'' =>
     match P.underlying t,ev E.get m with
     |some (.map kt el),.map (some id) =>
      match H.get id,dD P el,dF P kt (ev E.get k),wok (some [id]) with
      |some (.map es),some z,true,true=>AK P kt z (ev E.get k) es=some (es',tv)/\K (E.put o.dst tv) (H.set id (.map es')) none h''
      |_,_,_,_=>False
     |_,_=>False
    |_=>False
   | .entryStore _ m s v =>
    match ev E.get m with
    | .map (some id) =>
     match H.get id,wok (some [id]) with
     |some (.map es),true=>AH (ev E.get s) (ev E.get v) es=some es'/\K (E.put o.dst undef) (H.set id (.map es')) none h'
     |_,_=>False
    |_=>False
   |_=>False
  |h =>
   match h.dflt with
   |some h' =>
    match qE P o.op (ev E.get) H with
    |some (v,H',ms)=>match wok (some ms) with|true=>K (E.put o.dst v) H' none h'|false=>False
    |none=>False
   |none=>False
 | .call =>
  match o.op with
  | .call ⟨.value f,args,_⟩ =>
   match h with
   | .ans deps v new h'=>uh H deps/\(∀H':Heap,H'.length=H.n->ui H' deps->yh P (ev E.get f) (args.toList.map (ev E.get)) H' [] v (vV H' new))/\K (E.put o.dst v) (fY H new) none h'
   | .dw deps v chg new h' =>
    match wok (some (xo chg)) with
    |true=>uh H deps/\(∀H':Heap,H'.length=H.n->ui H' deps->yh P (ev E.get f) (args.toList.map (ev E.get)) H' (xo chg) v (vV (eg H' chg) new))/\K (E.put o.dst v) (fY (wO H chg) new) none h'
    |false=>False
   | .cg deps ids α I v chg new h' =>
    match wok (some ids) with
    |true=>uh H deps/\(∀H':Heap,H'.length=H.n->ui H' deps->Hi P (ev E.get f) (args.toList.map (ev E.get)) H' ids (fun y H2 => ∃x,I x/\y=v x/\H2=vV (eg H' (chg x)) (new x)))/\∀x,I x->K (E.put o.dst (v x)) (fY (wO H (chg x)) (new x)) none (h' x)
    |false=>False
   | .into Mc h'=>match wok Mc with|true=>app (ev E.get f) (args.toList.map (ev E.get)) H Mc h' (fun v H' h''=>K (E.put o.dst v) H' none h'')|false=>False
   |h =>
    match h.dflt with
    |some h'=>match wok (dm (ev E.get f)) with|true=>app (ev E.get f) (args.toList.map (ev E.get)) H (dm (ev E.get f)) h' (fun v H' h''=>K (E.put o.dst v) H' none h'')|false=>False
    |none=>False
  |_=>False
 | .iter =>
  match o.op with
  | .range t x =>
   match P.underlying t,ev E.get x with
   |some (.map _ _),.map (some id) =>
    match H.get id,h.dflt with
    |some (.map es),some h'=>K (E.put o.dst (.pointer (some ⟨H.n,0,none⟩))) (H.push (.iter id es.length [])) none h'
    |_,_=>False
   |_,_=>False
  | .next it false =>
   match ev E.get it with
   | .pointer (some ⟨id,0,none⟩) =>
    match H.get id with
    |some (.iter m n seen) =>
     match H.get m,wok (some [id]),h with
     |some (.map es),true,.nxt h1 h2=>es.length=n/\(∀i,i<n->i ∉ seen->K (E.put o.dst (.tuple #[.bool true,.chan none,.chan none])) (H.set id (.iter m n (seen ++ [i]))) none (h1 i)) /\
       ((∀i,i<n->i∈seen)->K (E.put o.dst (.tuple #[.bool false])) H none h2)
     |_,_,_=>False
    |_=>False
   |_=>False
  | .entry it =>
   match ev E.get it with
   | .pointer (some ⟨id,0,none⟩) =>
    match H.get id with
    |some (.iter m n seen) =>
     match H.get m,h with
     |some (.map es),.val v h'=>es.length=n/\v7 es seen=some v/\K (E.put o.dst v) H none h'
     |_,_=>False
    |_=>False
   |_=>False
  |_=>False
 | .bad=>False
def qk(P:Program)(app:ov)(wok:MS->Bool)(dm:Value->MS)(ops:Array Oper)(o:Oper)(E:Env)(H:HT)(h:Hint)(K:Env->HT->Option Nat->Hint->Prop)(oW:Env->HT->Hint->Prop):Prop :=
 fE E fun E=>fH H fun H=>il h E H fun E H h =>
 match o.guard with
 |none=>mz P app wok dm o E H h K
 |some (g,want) =>
  match (ops[g]?).bind (·.dst) with
  |none=>oW (E.put o.dst undef) H h
  |some d =>
   match E.get d with
   | .bool b =>
    match h with
    | .aM h1 h2 =>
     (b=true->cond want (il h1 (E.put (some d) (.bool true)) H fun E H h=>mz P app wok dm o E H h K) (oW ((E.put (some d) (.bool true)).put o.dst undef) H h1)) /\
     (b=false->cond want (oW ((E.put (some d) (.bool false)).put o.dst undef) H h2) (il h2 (E.put (some d) (.bool false)) H fun E H h=>mz P app wok dm o E H h K))
    |h=>cond (cond b want (!want)) (mz P app wok dm o E H h K) (oW (E.put o.dst undef) H h)
   | .chan _=>False
   |_=>oW (E.put o.dst undef) H h
def mC(base:Nat)(M:MS):List Nat->Env->HT->(Env->HT->Prop)->Prop
 | [],E,H,K=>K E H
 |t :: ts,E,H,K =>
  match E.get t with
  | .slice (some ⟨id,0,tag⟩) n _ =>
   match (match tag with|none=>true|some k=>Nat.beq k 1)&&iw base M [id] with
   |true =>
    match H.get id with
    |some (.cells true _ cs)=>mC base M ts (E.put (some t) (.iface (Nat.succ n) (.agg ⟨cs⟩))) (H.set id .dead) K
    |_=>False
   |false=>False
  | .iface (n+1) (.agg cs)=>mC base M ts (E.put (some t) (.slice (some ⟨H.n,0,some 2⟩) n n)) (H.push (.cells false 0 cs.toList)) K
  | .agg ⟨vs⟩ =>
   match ux 0 vs with
   |some (i,.slice (some ⟨id,0,tag⟩) n _) =>
    match (match tag with|none=>true|some k=>Nat.beq k 1)&&iw base M [id] with
    |true =>
     match H.get id with
     |some (.cells true _ cs)=>mC base M ts (E.put (some t) (.agg ⟨vs.set i (.iface (Nat.succ n) (.agg ⟨cs⟩))⟩)) (H.set id .dead) K
     |_=>False
    |false=>False
   |some (i,.iface (n+1) (.agg cs))=>mC base M ts (E.put (some t) (.agg ⟨vs.set i (.slice (some ⟨H.n,0,some 2⟩) n n)⟩)) (H.push (.cells false 0 cs.toList)) K
   |_=>False
  |_=>False
def tfE(A F k d:Nat):List Nat->Env->Env
 | [],E=>E
 |t :: ts,E=>tfE A F k d ts (E.put (some t) (tf A F k d (E.get t)))
def Cu(A F k d:Nat):List Nat->HT->HT
 | [],H=>H
 |b :: bs,H=>Cu A F k d bs (match H.get b with|some (.cells own z cs)=>H.set b (.cells own z (cs.map (tf A F k d)))|_=>H)
def wH(base:Nat)(M:MS)(k d:Nat)(ts bs:List Nat):List (Nat×Nat)->Env->HT->(Env->HT->Prop)->Prop
 | [],E,H,K=>K E H
 |(A,F) :: l,E,H,K =>
  match iw base M (A :: F :: bs) with
  |true =>
   match H.get A with
   |some (.cells true _ cs) =>
    match H.get F with
    |some (.fam z ms)=>(cs.length=z/\0<z/\ms.length=k*z)/\wH base M k d ts bs l (tfE A F k d ts E) (Cu A F k d bs ((H.set A .dead).set F (.fam z (ms++cs)))) K
    |_=>False
   |_=>False
  |false=>False
def Ft:List Nat->HT->HT
 | [],H=>H
 |z :: zs,H=>Ft zs (H.push (.fam z []))
def eH(base:Nat)(M:MS):List GN->Env->HT->(Env->HT->Prop)->Prop
 | [],E,H,K=>K E H
 | .new z :: l,E,H,K=>eH base M l E (H.push (.fam 0 [.int .i64 (z:Int)])) K
 | .take hd t F k n z row :: l,E,H,K =>
  match iw base M [hd,F] with
  |true =>
   match H.get hd with
   |some (.cells true zh hs) =>
    match H.get F with
    |some (.fam 0 ms)=>(hs[t]?=some (cX n F k)/\ms[0]?=some (.int .i64 (z:Int))/\row.length=n*z/\(0<n->ms[k+1]?=some (.agg ⟨row⟩))) /\
      eH base M l E (((H.set F (.fam 0 (aE n k ms))).push (.cells true z row)).set hd (.cells true zh (hs.set t (.slice (some ⟨H.n,0,some 1⟩) n n)))) K
    |_=>False
   |_=>False
  |false=>False
 | .give hd t F A k n z q :: l,E,H,K =>
  match iw base M [hd,F,A] && !(Nat.beq A hd) with
  |true =>
   match H.get hd with
   |some (.cells true zh hs) =>
    match H.get F with
    |some (.fam 0 ms) =>
     match H.get A with
     |some (.cells true z' row) =>
      match Nat.beq z' z with
      |true=>(hs[t]?=some (.slice (some ⟨A,0,match q with|true=>some 1|false=>none⟩) n n)/\(q=true∨0<n)/\ms[0]?=some (.int .i64 (z:Int))/\0<z/\row.length=n*z/\ms.length=k+1) /\
        eH base M l E (((H.set A .dead).set F (.fam 0 (cp n ms row))).set hd (.cells true zh (hs.set t (cX n F k)))) K
      |false=>False
     |_=>False
    |_=>False
   |_=>False
  |false=>False
 | .wN hd t F k n z key row :: l,E,H,K =>
  match iw base M [hd,F] with
  |true =>
   match H.get hd with
   |some (.map es) =>
    match H.get F with
    |some (.fam 0 ms)=>(es[t]?=some (key,cX n F k)/\ms[0]?=some (.int .i64 (z:Int))/\row.length=n*z/\(0<n->ms[k+1]?=some (.agg ⟨row⟩))) /\
      eH base M l E (((H.set F (.fam 0 (aE n k ms))).push (.cells true z row)).set hd (.map (es.set t (key,.slice (some ⟨H.n,0,some 1⟩) n n)))) K
    |_=>False
   |_=>False
  |false=>False
 | .xr hd t F A k n z key q :: l,E,H,K =>
  match iw base M [hd,F,A] && !(Nat.beq A hd) with
  |true =>
   match H.get hd with
   |some (.map es) =>
    match H.get F with
    |some (.fam 0 ms) =>
     match H.get A with
     |some (.cells true z' row) =>
      match Nat.beq z' z with
      |true=>(es[t]?=some (key,.slice (some ⟨A,0,match q with|true=>some 1|false=>none⟩) n n)/\(q=true∨0<n)/\ms[0]?=some (.int .i64 (z:Int))/\0<z/\row.length=n*z/\ms.length=k+1) /\
        eH base M l E (((H.set A .dead).set F (.fam 0 (cp n ms row))).set hd (.map (es.set t (key,cX n F k)))) K
      |false=>False
     |_=>False
    |_=>False
   |_=>False
  |false=>False
 | .wM s F k n z row :: l,E,H,K =>
  match iw base M [F] with
  |true =>
   match H.get F with
   |some (.fam 0 ms)=>(E.get s=cX n F k/\ms[0]?=some (.int .i64 (z:Int))/\row.length=n*z/\(0<n->ms[k+1]?=some (.agg ⟨row⟩))) /\
     eH base M l (E.put (some s) (.slice (some ⟨H.n,0,some 1⟩) n n)) ((H.set F (.fam 0 (aE n k ms))).push (.cells true z row)) K
   |_=>False
  |false=>False
 | .rh hd t A n c q :: l,E,H,K =>
  match iw base M [hd,A] && !(Nat.beq A hd) with
  |true =>
   match H.get hd with
   |some (.cells true zh hs) =>
    match H.get A with
    |some (.cells true z row)=>hs[t]?=some (.slice (some ⟨A,0,match q with|true=>some 1|false=>none⟩) n c) /\
      eH base M l E ((H.set A .dead).set hd (.cells true zh (hs.set t (.iface (Nat.succ n) (.agg ⟨row⟩))))) K
    |_=>False
   |_=>False
  |false=>False
 | .tog s i :: l,E,H,K =>
  match E.get s with
  | .agg ⟨vs⟩ =>
   match vs[i]? with
   |some (.slice (some ⟨id,0,tag⟩) n _) =>
    match (match tag with|none=>true|some k=>Nat.beq k 1)&&iw base M [id] with
    |true =>
     match H.get id with
     |some (.cells true _ cs)=>eH base M l (E.put (some s) (.agg ⟨vs.set i (.iface (Nat.succ n) (.agg ⟨cs⟩))⟩)) (H.set id .dead) K
     |_=>False
    |false=>False
   |some (.iface (n+1) (.agg cs))=>eH base M l (E.put (some s) (.agg ⟨vs.set i (.slice (some ⟨H.n,0,some 2⟩) n n)⟩)) (H.push (.cells false 0 cs.toList)) K
   |_=>False
  |_=>False
def zy(base:Nat)(M:MS)(h:Hint)(E:Env)(H:HT)(K:Env->HT->Hint->Prop):Prop :=
 match h with
 | .frz ts h'=>mC base M ts E H (fun E H=>K E H h')
 | .fam [] k d zs bs h'=>K E (Ft zs H) h'
 | .fam (p :: l) k d ts bs h'=>wH base M k d ts bs (p :: l) E H (fun E H=>K E H h')
 | .tab l h'=>eH base M l E H (fun E H=>K E H h')
 |h=>K E H h
def zx(P:Program)(app:ov)(base n:Nat)(M:MS)(dm:Value->MS)(ops:Array Oper):List Oper->Env->HT->Hint->(Env->HT->Hint->Prop)->Prop
 | [],E,H,h,K=>K E H h
 |o :: os,E,H,h,K=>zy base M h E H fun E H h=>qk P app (fun Mc=>rR base H.n M Mc) dm ops o E H h (fun E' H' _ h'=>zx P app base n M dm ops os E' H' h' K) (fun E' H' h'=>zx P app base n M dm ops os E' H' h' K)
def rW(P:Program)(app:ov)(base:Nat)(M:MS)(dm:Value->MS)(bs:List Nat)(ops:Array Oper):List Nat->Env->HT->List (Nat×Option Nat)->Hint->(Env->HT->Hint->Prop)->Prop
 | [],E,H,_,h,K=>K E H h
 |i :: is,E,H,log,h,K =>
  match ops[i]? with
  |none=>False
  |some o =>
   match dE o.op with
   | .iter=>False
   |_=>qk P app (fun Mc=>rR base H.n M Mc&&ng bs i log (Mc.list H.n)) dm ops o E H h
     (fun E' H' rd h'=>rW P app base M dm bs ops is E' H' (match dE o.op with| .pure| .alloc=>(i,rd) :: log|_=>log) h' K)
     (fun E' H' h'=>rW P app base M dm bs ops is E' H' log h' K)
def xd(id:Nat):List (Nat×Nat)->Option Nat
 | [] =>none
 |(a,b) :: r=>cond (Nat.beq id a) (some b) (xd id r)
def sg(n0:Nat)(σ:List (Nat×Nat))(id:Nat):Option Nat:=cond (Nat.blt id n0) (some id) (xd id σ)
def sP(k:Nat×Nat):List (Nat×Nat)->Bool
 | [] =>true
 |q :: r=>cond (Nat.beq k.1 q.1) false (cond (Nat.beq k.2 q.2) false (sP k r))
def jM(id:Nat)(chg:List (Nat×Bool×aa)):Bool :=
 cond (chg.any fun p=>Nat.beq p.1 id) (chg.all fun p=>cond (Nat.beq p.1 id) (match p.2.2 with| .dead=>true|_=>false) true) false
def qp(n0 n:Nat)(chg:List (Nat×Bool×aa)):List (Nat×Nat)->Bool
 | [] =>true
 |p :: r=>cond (Nat.ble n0 p.1) (cond (Nat.blt p.1 n) (cond (cond (Nat.ble n0 p.2) true (jM p.2 chg)) (cond (sP p r) (qp n0 n chg r) false) false) false) false
def iD(T:Tm)(σ:Nat->Option Nat)(d:Nat):List (Nat×Value)->Prop
 | [] =>True
 |(t,v) :: r=>(match v with| .slice (some ⟨_,_,some _⟩) _ _=>wk (T t) (rn σ d v)|v=>T t=rn σ d v)/\iD T σ d r
def pw(H:HT)(n0:Nat)(σ:Nat->Option Nat)(d:Nat)(id:Nat)(plain:Bool)(o:aa):Prop :=
 match o with
 | .dead=>True
 | .loop .. =>False
 | .iter m n s=>match σ id with
  |some id'=>H.get id'=some (.iter m n s)/\cu n0 (.iter m n s)=true
  |none=>True
 |o=>match σ id with
  |some id'=>cond plain (H.get id'=some o/\cu n0 o=true) (match H.get id' with|some o'=>wkO o' (rno σ d o)|none=>False)
  |none=>True
def pT(H:HT)(n0:Nat)(σ:Nat->Option Nat)(d:Nat):List (Nat×Bool×aa)->Prop
 | [] =>True
 |(id,plain,o) :: r=>pw H n0 σ d id plain o/\pT H n0 σ d r
def lL(H:HT)(n0:Nat)(σ:Nat->Option Nat)(d:Nat):Nat->List (Bool×aa)->Prop
 |_,[] =>True
 |id,(plain,o) :: r=>pw H n0 σ d id plain o/\lL H n0 σ d (Nat.succ id) r
def FT(H H0:HT)(σ:Nat->Option Nat)(d:Nat):List (Nat×List (Nat×Value))->Prop
 | [] =>True
 |(L,sl) :: r =>
  (match H0.get L,H.get L with
  |some (.loop .ready none _ N ps as bd),some (.loop .ready none tm' N' ps' as' bd')=>(N=N'/\ps=ps'/\as=as'/\bd=bd')/\iD tm' σ d sl
  |_,_=>False)/\FT H H0 σ d r
def iO(slots:List (Nat×Value)):Env:=slots.foldl (fun E p=>E.put (some p.1) p.2) ⟨fun _=>junk,.leaf⟩
def cx(H:HT)(p:Nat×List (Nat×Value)):HT :=
 match H.get p.1 with
 |some (.loop st pe _ N ps as bd)=>H.set p.1 (.loop st pe (iO p.2).get N ps as bd)
 |_=>H
def fK(H:HT)(chg:List (Nat×Bool×aa))(new:List (Bool×aa))(lp:List (Nat×List (Nat×Value))):HT :=
 new.foldl (fun H p=>H.push p.2) (chg.foldl (fun H p=>H.set p.1 p.2.2) (lp.foldl cx H))
def pU(n0:Nat)(ML:List Nat):List (Nat×Bool×aa)->Bool
 | [] =>true
 |p :: r=>cond (jq p.1 ML) (cond (Nat.blt p.1 n0) (pU n0 ML r) false) false
def Ao(n0:Nat)(ML:List Nat)(chg:List (Nat×Bool×aa)):List (Nat×List (Nat×Value))->Bool
 | [] =>true
 |p :: r=>cond (jq p.1 ML) (cond (Nat.blt p.1 n0) (cond (chg.any fun q=>Nat.beq q.1 p.1) false (cond (r.any fun q=>Nat.beq q.1 p.1) false (Ao n0 ML chg r))) false) false
def allIn(chg:List (Nat×Bool×aa))(lp:List (Nat×List (Nat×Value))):List Nat->Bool
 | [] =>true
 |id :: r=>cond (cond (chg.any fun p=>Nat.beq p.1 id) true (lp.any fun p=>Nat.beq p.1 id)) (allIn chg lp r) false
def jU(N:Nat)(E:Env)(H:HT)(H0:HT)(d:Nat)(ML:List Nat)(σ:List (Nat×Nat))(slots:List (Nat×Value))(chg:List (Nat×Bool×aa))(new:List (Bool×aa))(lp:List (Nat×List (Nat×Value))):Prop :=
 (qp H0.n (Nat.add H0.n new.length) chg σ&&(pU H0.n ML chg&&(Ao H0.n ML chg lp&&allIn chg lp ML)))=true/\iD E.get (sg H0.n σ) d slots/\pT H H0.n (sg H0.n σ) d chg/\lL H H0.n (sg H0.n σ) d H0.n new/\FT H H0 (sg H0.n σ) d lp
def wF(body:Env->HT->Hint->(Exit->Env->HT->Hint->Prop)->Prop)(K:Exit->Env->HT->Hint->Prop):Nat->Env->HT->Hint->Prop
 |0,_,_,_=>False
 |n+1,E,H,h=>body E H h fun e E' H' h'=>match e with| .normal=>wF body K n E' H' h'|e=>K e E' H' h'
def wG{α:Type}(N:Nat)(H:HT)(d:Nat)(ML:List Nat)(slots:α->List (Nat×Value))(chg:α->List (Nat×Bool×aa))(new:α->List (Bool×aa))(lp:α->List (Nat×List (Nat×Value)))(I:α->Prop)
  (K:Exit->Env->HT->Hint->Prop) (e:Exit) (E':Env) (H':HT) (h':Hint):Prop :=
 match e with
 | .normal=>il h' E' H' fun E' H' h'=>match h' with| .again σ => ∃x,I x/\jU N E' H' H d ML σ (slots x) (chg x) (new x) (lp x)|_=>False
 |e=>K e E' H' h'
def Br:Code->Option Exit
 | .ret=>some .ret
 | .exit id=>some (.exit id)
 |_=>none
def MS.also(id:Nat)(M:MS):MS:=match M with|none=>none|some l=>some (id :: l)
def qm(K:Exit->Env->HT->Hint->Prop)(E:Env)(H:HT)(h:Hint):Option Code->Prop
 |none=>K .normal E H h
 |some c=>match Br c with|some e=>K e E H h|none=>False
def zE(K:Exit->Env->HT->Hint->Prop)(E:Env)(H:HT)(h:Hint)(pe:Option Code):LoopState->Prop
 | .busy=>False
 |_=>qm K E H h pe
def cI(P:Program)(call:l7)(app:ov)(dm:Value->MS)(N rounds:Nat)(inr:Bool):Code->Nat->MS->Env->HT->Hint->(Exit->Env->HT->Hint->Prop)->Prop
 | .region _ ops draw,base,M,E,H,h,K =>
  zy base M h E H fun E H h =>
  cond draw (rW P app base M dm (dk ops.toList []) ops (EG ops.toList) E H [] h (fun E' H' h'=>K .normal E' H' h'))
   (zx P app base 0 M dm ops ops.toList E H h (fun E' H' h'=>K .normal E' H' h'))
 | .skip,_,_,E,H,h,K=>K .normal E H h
 | .label _,_,_,E,H,h,K=>K .normal E H h
 | .ret,_,_,E,H,h,K=>K .ret E H h
 | .exit id,_,_,E,H,h,K=>K (.exit id) E H h
 | .seq a b,base,M,E,H,h,K=>cI P call app dm N rounds inr a base M E H h fun e E' H' h'=>match e with| .normal=>cI P call app dm N rounds inr b base M E' H' h' K|e=>K e E' H' h'
 | .scope b,base,M,E,H,h,K=>cI P call app dm N rounds inr b base M E H h fun e E' H' h'=>match e with| .goto _=>False|e=>K e E' H' h'
 | .block id b,base,M,E,H,h,K=>cI P call app dm N rounds inr b base M E H h fun e E' H' h'=>match e with| .exit id'=>cond (Nat.beq id' id) (K .normal E' H' h') (K (.exit id') E' H' h')|e=>K e E' H' h'
 | .cond (.tmp t) a b,base,M,E,H,h,K =>
  il h E H fun E H h =>
  match E.get t with
  | .bool c =>
   match h with
   | .fork h1 h2=>(c=true->cI P call app dm N rounds inr a base M (E.put (some t) (.bool true)) H h1 K)/\(c=false->cI P call app dm N rounds inr b base M (E.put (some t) (.bool false)) H h2 K)
   | .join d α ML slots chg new lp I h1 h2 next =>
    iw base M ML=true/\(c=true->cI P call app dm N rounds inr a H.n (some ML) (E.put (some t) (.bool true)) H h1 (fun e E' H' h'=>wG N H d ML slots chg new lp I (fun e'=>K e') e E' H' h')) /\
    (c=false->cI P call app dm N rounds inr b H.n (some ML) (E.put (some t) (.bool false)) H h2 (fun e E' H' h'=>wG N H d ML slots chg new lp I (fun e'=>K e') e E' H' h')) /\
    ∀x,I x->K .normal (iO (slots x)) (fK H (chg x) (new x) (lp x)) (next x)
   |h=>match h.dflt with|some h'=>(match c with|true=>cI P call app dm N rounds inr a base M E H h' K|false=>cI P call app dm N rounds inr b base M E H h' K)|none=>False
  |_=>False
 | .cond (.const (.bool c)) x y,base,M,E,H,h,K =>
  match c with
  |true=>cI P call app dm N rounds inr x base M E H h K
  |false=>cI P call app dm N rounds inr y base M E H h K
 | .loop b,base,M,E,H,h,K =>
  il h E H fun E H h =>
  match h with
  | .inv d α x0 σ0 ML slots chg new lp I μ hb =>
   iw base M ML=true/\I x0/\jU N E H H d ML σ0 (slots x0) (chg x0) (new x0) (lp x0)/\(∀x,(pU H.n ML (chg x)&&Ao H.n ML (chg x) (lp x))=true) /\
   ∀x,I x->cI P call app dm N rounds inr b H.n (some ML) (iO (slots x)) (fK H (chg x) (new x) (lp x)) (hb x) fun e E' H' h'=>match e with
    | .normal=>il h' E' H' fun E' H' h'=>match h' with| .again σ => ∃x',I x'/\μ x'<μ x/\jU N E' H' H d ML σ (slots x') (chg x') (new x') (lp x')|_=>False
    |e=>K e E' H' h'
  |h=>wF (fun E H h K=>cI P call app dm N rounds inr b base M E H h K) K rounds E H h
 | .rangeFunc (.tmp t) ps as bd,base,M,E,H,h,K =>
  il h E H fun E H h =>
  cond inr False
   (match E.get t with
   | .func (.func gf) first cap =>
    match (match h with| .into Mc h'=>some (Mc,h')|h=>match h.dflt with|some h'=>some (none,h')|none=>none) with
    |some (Mc,h') =>
     match rR base H.n M Mc&&Nat.ble base H.n with
     |true=>call gf (first.toList ++ [.func (.yield H.n) #[] #[]]++cap.toList) (H.push (.loop .ready none E.get N ps as bd)) (MS.also H.n Mc) h' (fun _ H' h'' =>
       match H'.get H.n with
       |some (.loop st pe _ _ _ _ _)=>zE K E (H'.set H.n .dead) h'' pe st
       |_=>False)
     |false=>False
    |none=>False
   |_=>False)
 |_,_,_,_,_,_,_=>False
def uN(P:Program)(call:l7)(app:ov)(dm:Value->MS)(rounds:Nat)(mixed:Bool)(L:Nat)(args:List Value)(H:HT)(M:MS)(h:Hint)(K:KV):Prop :=
 match H.get L with
 |some (.loop .ready _ tm N ps as bd) =>
  match Nat.beq args.length ps.size&&(ps.toList.all (fun p=>decide (p<N))&&(codeOk N P.globals.size mixed as&&(codeOk N P.globals.size mixed bd&&(match M with|none=>Nat.blt L H.n|some l=>jq L l)))) with
  |true=>cI P call app dm N rounds true as H.n M ⟨mK ps.toList args tm,.leaf⟩ H h fun e E1 H1 h1 =>
   match e with
   | .normal =>
    match H1.get L with
    |some (.loop .ready pe1 tm1 N1 ps1 as1 bd1)=>cI P call app dm N rounds true bd H.n M E1 (H1.set L (.loop .busy pe1 tm1 N1 ps1 as1 bd1)) h1 fun e E2 H2 h2 =>
     il h2 E2 H2 fun E2 H2 h2 =>
     match vv e with
     |some j =>
      match H2.get L with
      |some (.loop _ _ tm2 N2 ps2 as2 bd2)=>K (.bool j.isNone) (H2.set L (.loop (match j.isNone with|true => .ready|false => .done) j tm2 N2 ps2 as2 bd2)) h2
      |_=>False
     |none=>False
    |_=>False
   |_=>False
  |false=>False
 |_=>False
def iL(P:Program)(T:Tm)(H:HT):ResultVar->Option Value
 | .tmp t=>some (T t)
 | .cell a ty=>(ns P ty (T a) H).map (·.1)
def xi(P:Program)(rs:List ResultVar)(T:Tm)(H:HT):Option Value :=
 match rs with
 | [r] =>iL P T H r
 | [r,r2] =>match iL P T H r,iL P T H r2 with|some v,some v2=>some (.tuple ⟨[v,v2]⟩)|_,_=>none
 | [r,r2,r3] =>match iL P T H r,iL P T H r2,iL P T H r3 with|some v,some v2,some v3=>some (.tuple ⟨[v,v2,v3]⟩)|_,_,_=>none
 | [] =>some (.tuple ⟨[]⟩)
 |_=>none
def pa(n:Nat)(M:MS)(v:Value)(H':HT)(h:Hint)(K:KV):Prop :=
 match h with
 | .keep h'=>K v H' h'
 |h =>
  match M with
  |none=>K v H' h
  |some l =>
   match bn n v&&l.all (fun id=>match H'.get id with|some o=>cu n o|none=>true) with
   |true=>K v (H'.take n) h
   |false=>K v H' h
def zB(P:Program)(mask:Nat)(call:l7)(app:ov)(dm:Value->MS)(rounds:Nat)(f:FuncId)(args:List Value)(H:HT)(M:MS)(h:Hint)(K:KV):Prop :=
 match Nat.testBit mask f with
 |true =>
  match P.funcs[f]? with
  |some fn =>
   match fn.body with
   |some c =>
    match Nat.ble args.length fn.ntmps with
    |true=>cI P call app dm fn.ntmps rounds false c H.n M ⟨xn args,.leaf⟩ H h fun e E' H' h' =>
     match e with
     | .normal=>il h' E' H' fun E' H' h'=>match xi P fn.results.toList E'.get H' with|some v=>vas h' v H' (fun v H' h'=>pa H.n M v H' h' K)|none=>False
     | .ret=>il h' E' H' fun E' H' h'=>match xi P fn.results.toList E'.get H' with|some v=>vas h' v H' (fun v H' h'=>pa H.n M v H' h' K)|none=>False
     |_=>False
    |false=>False
   |none=>False
  |none=>False
 |false=>False
def Cr(call:l7)(yld:Nat->List Value->HT->MS->Hint->KV->Prop)(fv:Value)(args:List Value)(H:HT)(M:MS)(h:Hint)(K:KV):Prop :=
 match fv with
 | .func (.func f) first cap=>call f (first.toList++args++cap.toList) H M h K
 | .func (.yield L) ⟨[]⟩ ⟨[]⟩=>yld L args H M h K
 |_=>False
def vF(P:Program)(mask:Nat)(dm:Value->MS)(rounds:Nat)(mixed:Bool):Nat->Bool->Nat->List Value->HT->MS->Hint->KV->Prop
 |0,_,_,_,_,_,_,_=>False
 |n+1,b,f,args,H,M,h,K =>
  match b with
  |true=>zB P mask (vF P mask dm rounds mixed n true) (Cr (vF P mask dm rounds mixed n true) (vF P mask dm rounds mixed n false)) dm rounds f args H M h K
  |false=>uN P (vF P mask dm rounds mixed n true) (Cr (vF P mask dm rounds mixed n true) (vF P mask dm rounds mixed n false)) dm rounds mixed f args H M h K
end
end Go.K
