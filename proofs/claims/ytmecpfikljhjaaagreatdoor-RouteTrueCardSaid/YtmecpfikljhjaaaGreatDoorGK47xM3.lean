/- A call to which a list of one's own is given for good. No condition. -/
import Derived.Test.YtmecpfikljhjaaaGreatDoorGV3xK38
import Derived.Test.YtmecpfikljhjaaaGreatDoorGK27xA0
import Derived.Test.YtmecpfikljhjaaaGreatDoorGK41xV5
import Derived.Test.YtmecpfikljhjaaaGreatDoorGA7xJ5g
open Go Go.K
set_option maxRecDepth 1000000
set_option maxHeartbeats 4000000
set_option linter.unusedVariables false
set_option linter.unusedSimpArgs false
namespace Go.K
variable {P:Program}
theorem VRl.set1{ρ ρ1:Ren}{args l:List Value}{k:Nat}{u u2:Value}(h:VRl ρ args l)(hk:args[k]?=some u)(hle:Ren.le ρ ρ1)(hv:∀x,VR ρ u x->VR ρ1 u2 x):VRl ρ1 (args.set k u2) l:=by
 obtain ⟨h1,h2⟩:=h
 refine ⟨by simpa using h1,fun j v v' a b =>?_⟩
 rw[List.getElem?_set]at a
 split at a
 ·rename_i e;subst e
  split at a
  ·cases a;exact hv _ (h2 k u v' hk b)
  ·cases a
 ·exact (h2 j v v' a b).mono hle
theorem ad.freeze{f:FuncId}{args:List Value}{H:Heap}{k i id n c z:Nat}{tag:Option Nat}{cs vs:List Value}{Q:Value->Heap->Prop}(hk:args[k]?=some (.agg ⟨vs⟩))(hi:vs[i]?=some (.slice (some ⟨id,0,tag⟩) n c))(htag:tag=none∨tag=some 1)(ho:H[id]?=some (.cells true z cs))
  (h:ad P f (args.set k (.agg ⟨vs.set i (.iface (n+1) (.agg ⟨cs⟩))⟩)) (H.set id .dead) [] Q):ad P f args H [id] Q:=by
 refine ⟨h.1,fun B ρ w args' hr ha =>?_⟩
 have key:∃ρ1,Post P B H.length [id] ρ H w ρ1 (H.set id .dead) w/\∀x,VR ρ (.slice (some ⟨id,0,tag⟩) n c) x->VR ρ1 (.iface (n+1) (.agg ⟨cs⟩)) x:=by
  have hM:id<H.length->id ∈ [id]:=fun _=>List.mem_cons_self ..
  cases hid:ρ id with
  |none=>exact ⟨ρ,Post.kr hr ho rfl hM,fun x hx=>VR.jk htag hid hx⟩
  |some r =>
   have hob:=hr.obj id r _ hid ho
   obtain ⟨_,_,m,ty,fz,hb,_⟩:=hob
   have p:=Post.yZ (base:=H.length) (M:=[id]) hr hid ho hb hM
   exact ⟨_,p,fun x hx=>VR.freeze (H:=H) htag hid hb (hr.obj id r _ hid ho) p.ext hx⟩
 obtain ⟨ρ1,p,hv⟩:=key
 refine (h.2 B ρ1 w args' p.rel (VRl.set1 ha hk p.ext fun x hx=>VR.rG hi p.ext hv hx)).mono ?_
 rintro e w' ⟨v,v',ρ',H',rfl,h1,h2,h3⟩
 exact ⟨v,v',ρ',H',rfl,h1,p.trans (h2.weaken (by simp) (fun _ h _=>by cases h)),h3⟩
def pR:Value->Bool
 | .bool _| .int _ _| .float _ _| .string _| .pointer none| .pointer (some ⟨_,_,none⟩)| .slice _ _ _| .map _| .nilFunc| .nilIface=>true
 |_=>false
def Bq:Value->Bool
 | .tuple vs=>vs.toList.all pR
 |v=>pR v
def kG:aa->Bool
 | .cells _ _ cs=>cs.all pR
 | .dead=>true
 |_=>false
theorem nR{ρ ρ2:Ren}(hf:ρ2.f=ρ.f){v x:Value}(h:pR v=true)(hv:VR ρ v x):VR ρ2 v x:=by
 have hg:∀{id:Nat} {r:RI},ρ id=some r->ρ2 id=some r:=fun {id r} q=>by show ρ2.f id=_;rw[hf];exact q
 cases hv with
 |junk v'=>cases h
 |bool b=>exact .bool b
 |int k n=>exact .int k n
 |float k n=>exact .float k n
 |string s=>exact .string s
 |bK=>exact .bK
 |ptr h'=>exact .ptr (hg h')
 |dS h'=>cases h
 |aT=>exact .aT
 |slice h' hl hc ho=>exact .slice (hg h') hl hc ho
 |aQ h'=>exact .aQ (hg h')
 |bv=>exact .bv
 |ax=>exact .ax
 |ay=>exact .ay
 |aD h' hp hl hc ho=>exact .aD (hg h') hp hl hc ho
 |aB=>exact .aB
 |aX h' hp hl hc ho=>exact .aX (hg h') hp hl hc ho
 |bL=>exact .bL
 |map h'=>exact .map (hg h')
 |nilFunc=>exact .nilFunc
 |nilIface=>exact .nilIface
 |func h1 h2 h3 h4=>cases h
 |yield h'=>cases h
 |agg h1 h2=>cases h
 |tuple h1 h2=>cases h
 |deep hm hp hc h1 h2=>cases h
 |br=>cases h
 |fsl h' hp hc hs ho=>cases h
 |bS=>cases h
 |bP hm h1 h2=>cases h
theorem Bp{ρ ρ2:Ren}(hf:ρ2.f=ρ.f){v x:Value}(h:Bq v=true)(hv:VR ρ v x):VR ρ2 v x:=by
 cases v with
 |tuple vs =>
  cases hv with
  | @tuple _ cs' h1 h2 =>
   have h':vs.toList.all pR=true:=h
   rw[List.all_eq_true]at h'
   refine .tuple h1 fun i v v' a b=>nR hf (h' v ?_) (h2 i v v' a b)
   exact List.mem_of_getElem? (by simpa using a)
 |_=>exact nR hf h hv
theorem zc{ρ ρ2:Ren}(hf:ρ2.f=ρ.f){r:RI}{o:aa}{w:World}(h:kG o=true)(ho:aI ρ r o w):aI ρ2 r o w:=by
 cases o with
 |cells own z cs =>
  obtain ⟨h1,h2,cs',ty,fz,h3,h4,h5,h6⟩:=ho
  have h':cs.all pR=true:=h
  rw[List.all_eq_true]at h'
  exact ⟨h1,h2,cs',ty,fz,h3,h4,h5,fun i v a=>let ⟨v',b,c⟩:=h6 i v a; ⟨v',b,nR hf (h' v (List.mem_of_getElem? a)) c⟩⟩
 |dead=>trivial
 |fam z cs=>trivial
 |map es=>cases h
 |iter m n s=>cases h
 |loop _ _ _ _ _ _ _=>cases h
def ou(P:Program)(base:Nat)(M L:List Nat)(H H1:Heap)(args i6:List Value):Prop :=
 ∀(B:Nat) (ρ:Ren) (w:World) (xs:List Value),Rel P B ρ H w->VRl ρ args xs->∃ρ1:Ren,Post P B base M ρ H w ρ1 H1 w/\ρ1.f=ρ.f/\ρ1.g=ρ.g /\
  (∀id∈L,∀r,ρ id=some r->∃m,ρ1.mem r.b=some m)/\VRl ρ1 i6 xs
theorem ou.refl{base:Nat}{H:Heap}{args:List Value}:ou P base [] [] H H args args:=fun B ρ w xs hr hv=>⟨ρ,Post.refl hr,rfl,rfl,fun id h=>(by cases h),hv⟩
open Classical in
theorem ad.borrow{f:FuncId}{args i6:List Value}{H H1 new:Heap}{v:Value}{L:List Nat}(hl:ou P H.length L L H H1 args i6)(hlen:H1.length=H.length)
  (hL:∀id∈L,∃z cs,H[id]?=some (aa.cells true z cs)) (Bd:∀id o,id ∉ L->H[id]?=some o->kG o=true) (hnew:∀o∈new,kG o=true/\o.owned=true) (hv:Bq v=true)
  (h:ad P f i6 H1 [] (Is v (H1++new))):ad P f args H [] (Is v (H++new)):=by
 refine ⟨h.1,fun B ρ w args' hr ha =>?_⟩
 obtain ⟨ρ1,p,hf1,hg1,hm1,ha1⟩:=hl B ρ w args'.toList hr ha
 refine (h.2 B ρ1 w args' p.rel ha1).mono ?_
 rintro e w' ⟨u,v',ρ',H2,rfl,h1,q,hu,hH2⟩
 rw[hu]at h1
 subst hH2
 have pq:=p.trans (q.weaken (base':=H.length) (M':=L) (by rw[hlen];exact Nat.le_refl _) (fun _ h _=>by cases h))
 have R:=q.rel
 have f1:∀{id r},ρ1 id=some r->ρ id=some r:=fun {id r} a=>by have:ρ1.f id=some r:=a;rw[hf1]at this;exact this
 let rem:Nat->Prop:=fun x => ∃id∈L,∃r,ρ id=some r/\r.b=x
 have HD:∀{id r},id∈L->ρ id=some r->rem r.b:=fun {id r} a b=>⟨id,a,r,b,rfl⟩
 have HE:∀{x m},rem x->ρ.mem x=some m->False:=by
  rintro x m ⟨id,hi,r,hid,rfl⟩ hm
  obtain ⟨z,cs,ho⟩:=hL id hi
  exact (hr.mem _ _ hm).2 id r _ hid ho rfl rfl
 have Jp:∀{x},rem x->∃m,ρ1.mem x=some m:=by
  rintro x ⟨id,hi,r,hid,rfl⟩
  exact hm1 id hi r hid
 have Jo:∀{x},rem x->w'.heap[x]?=w.heap[x]? := by
  rintro x hx
  obtain ⟨m,hm⟩:=Jp hx
  obtain ⟨id,hi,r,hid,rfl⟩:=hx
  refine q.keep _ (hr.lt id r hid) ?_
  rintro (⟨id',r',o',a,b,c,d⟩|hfb)
  ·exact (p.rel.mem _ _ hm).2 id' r' o' a b c d
  ·exact p.rel.fam.ez hm hfb
 let ρ2:Ren:=⟨ρ'.f,fun x=>if rem x then none else ρ'.mem x,ρ'.g⟩
 have hle:Ren.le ρ ρ2:=⟨fun id r a=>pq.ext.f id r a,fun x m a=>by
  show (if rem x then none else ρ'.mem x)=_
  rw[if_neg (fun hx=>HE hx a)];exact pq.ext.mem x m a,fun F k r a=>pq.ext.g F k r a⟩
 have old:∀{id r},ρ' id=some r->id<H.length->ρ id=some r:=fun {id r} a b=>by
  cases hc:ρ id with
  |none=>exact absurd (pq.new id r a hc) (by omega)
  |some r0 =>
   have:=pq.ext.f id r0 hc
   rw[show ρ'.f id=some r from a]at this;exact this.symm
 have rf:∀{id o},(H++new)[id]?=some o->id<H.length->H[id]?=some o:=fun {id o} a b=>by rw[List.getElem?_append_left b]at a;exact a
 have Dv:∀{id o},(H++new)[id]?=some o->¬ id<H.length->(H1++new)[id]?=some o/\kG o=true/\o.owned=true:=fun {id o} a b=>by
  have hb:H.length<=id:=by omega
  rw[List.getElem?_append_right hb]at a
  have ho:=hnew o (List.mem_of_getElem? a)
  refine ⟨?_,ho⟩
  rw[List.getElem?_append_right (by omega),hlen];exact a
 have yX:∀{id o},(H++new)[id]?=some o->id ∉ L->(H1++new)[id]?=some o/\kG o=true:=fun {id o} a hn=>by
  by_cases b:id<H.length
  ·have a':=rf a b
   refine ⟨?_,Bd id o hn a'⟩
   rw[List.getElem?_append_left (by omega),p.same id b hn];exact a'
  ·have:=Dv a b;exact ⟨this.1,this.2.1⟩
 have Lt:∀{id},id∈L->id<H.length:=fun {id} hi=>by obtain ⟨z,cs,ho⟩:=hL id hi;exact (List.getElem?_eq_some_iff.1 ho).1
 have km:∀(F z:Nat) (cs:List Value),(H++new)[F]?=some (.fam z cs)->False:=fun F z cs a=>by
  by_cases hi:F∈L
  ·obtain ⟨z',cs',ho⟩:=hL F hi
   rw[rf a (Lt hi)]at ho;cases ho
  ·have:=(yX a hi).2;cases this
 have xg:∀{id r id' r' o'},id∈L->ρ id=some r->ρ' id'=some r'->(H1++new)[id']?=some o'->o'.owned=true->r'.b≠r.b:=fun {id r id' r' o'} hi hid tX ho' hw'=>by
  obtain ⟨m,hm⟩:=hm1 id hi r hid
  exact (R.mem _ _ (q.ext.mem _ _ hm)).2 id' r' o' tX ho' hw'
 have Jq:Rel P B ρ2 (H++new) w':=by
  refine ⟨R.bsize,R.cS,fun id r a =>?_,fun id r a=>R.lt id r a,fun id r o a b =>?_,fun id r o a b c =>?_,fun id id' r r' o o' a a' b b' c c' hne =>?_,fun x m a =>?_,gR.km (fun F k r a =>?_) (fun F k r a=>R.fam.lt F k r a) km⟩
  ·have:=R.dom id r a
   rw[List.length_append]at this ⊢;omega
  ·by_cases hi:id∈L
   ·have hid:=old a (Lt hi)
    exact (hr.obj id r o hid (rf b (Lt hi))).mono hle (Jo (HD hi hid))
   ·obtain ⟨b1,b2⟩:=yX b hi
    exact zc (ρ:=ρ') (ρ2:=ρ2) rfl b2 (R.obj id r o a b1)
  ·by_cases hi:id∈L
   ·exact hr.base id r o (old a (Lt hi)) (rf b (Lt hi)) c
   ·exact R.base id r o a (yX b hi).1 c
  ·by_cases hi:id∈L
   ·have hid:=old a (Lt hi)
    by_cases hj:id'<H.length
    ·exact hr.sep id id' r r' o o' hid (old a' hj) (rf b (Lt hi)) (rf b' hj) c c' hne
    ·have n':=Dv b' hj
     exact fun e=>xg hi hid a' n'.1 n'.2.2 e.symm
   ·by_cases hj:id'∈L
    ·have tX:=old a' (Lt hj)
     by_cases hk:id<H.length
     ·exact hr.sep id id' r r' o o' (old a hk) tX (rf b hk) (rf b' (Lt hj)) c c' hne
     ·exact xg hj tX a (Dv b hk).1 c
    ·exact R.sep id id' r r' o o' a a' (yX b hi).1 (yX b' hj).1 c c' hne
  ·have a':(if rem x then none else ρ'.mem x)=some m:=a
   by_cases hx:rem x
   ·rw[if_pos hx]at a';cases a'
   ·rw[if_neg hx]at a'
    refine ⟨(R.mem x m a').1,fun id r o b c d e =>?_⟩
    by_cases hi:id∈L
    ·exact hx (by rw[<- e];exact HD hi (old b (Lt hi)))
    ·exact (R.mem x m a').2 id r o b (yX c hi).1 d e
  ·have:=R.fam.dom F k r a
   rw[List.length_append]at this ⊢;omega
 refine ⟨v,v',ρ2,H++new,rfl,Bp (ρ:=ρ') (ρ2:=ρ2) rfl hv h1,⟨Jq,hle,pq.new,by rw[List.length_append];omega,fun id hb _=>List.getElem?_append_left hb,pq.size,pq.keep,fun b hb ho =>?_,pq.os,pq.tape,pq.output,fun x m a =>?_,pq.drawn,fun F k r a b =>?_⟩,rfl,rfl⟩
 ·rcases ho with ⟨id,r,o,a1,a2,a3,a4⟩|hfb
  ·by_cases hk:id<H.length
   ·exact .inl ⟨id,r,o,old a1 hk,rf a2 hk,a3,a4⟩
   ·exact pq.ob b hb (.inl ⟨id,r,o,a1,(Dv a2 hk).1,a3,a4⟩)
  ·exact absurd hfb (FB.none km b)
 ·have a':(if rem x then none else ρ'.mem x)=some m:=a
  by_cases hx:rem x
  ·rw[if_pos hx]at a';cases a'
  ·rw[if_neg hx]at a';exact pq.frz x m a'
 ·refine (q.kn F k r a ?_).imp (fun z=>by rw[hlen]at z;exact z) (fun z=>by cases z)
  rw[hg1];exact b
theorem ou.rh{base:Nat}{M L M' L':List Nat}{H H1:Heap}{args i6:List Value}(h:ou P base M L H H1 args i6){hd t A n c zh z:Nat}{tag:Option Nat}{hs row:List Value}(ho:H1[hd]?=some (.cells true zh hs))(hA:H1[A]?=some (.cells true z row))
  (hv:hs[t]?=some (.slice (some ⟨A,0,tag⟩) n c)) (htag:tag=none∨tag=some 1) (hne:A≠hd) (hMh:hd∈M') (hMA:A∈M') (hsub:∀id∈M,id∈M') (hL:∀id∈L',id=A∨id∈L) :
  ou P base M' L' H ((H1.set A .dead).set hd (aa.cells true zh (hs.set t (.iface (n+1) (.agg ⟨row⟩))))) args i6:=by
 intro B ρ w xs hr hx
 obtain ⟨ρ1,p,hf,hg,hm,ha⟩:=h B ρ w xs hr hx
 have hr1:=p.rel
 have p':=p.weaken (base':=base) (M':=M') (Nat.le_refl _) (fun id h _=>hsub id h)
 have hget:(H1.set A .dead)[hd]?=some (.cells true zh hs):=by rw[List.getElem?_set_ne hne];exact ho
 cases hid:ρ1 A with
 |none =>
  have p1:=Post.kr (base:=base) (M:=M') hr1 hA rfl (fun _=>hMA)
  have p2:=Post.eT (M:=M') (base:=base) p1.rel (t:=t) (v:=.iface (n+1) (.agg ⟨row⟩)) hget (fun v0 e x hx=>by
   rw[hv]at e;cases e
   exact VR.jk htag hid hx) (fun _=>hMh)
  refine ⟨ρ1,p'.trans (p1.trans p2),hf,hg,fun id hi r hr' =>?_,ha⟩
  rcases hL id hi with rfl|hi
  ·have:ρ1.f id=some r:=by rw[hf];exact hr'
   rw[show ρ1.f id=none from hid]at this;cases this
  ·exact hm id hi r hr'
 |some r =>
  have hob:=hr1.obj A r _ hid hA
  obtain ⟨_,_,m,ty,fz,hbm,_⟩:=hob
  have p1:=Post.yZ (base:=base) (M:=M') hr1 hid hA hbm (fun _=>hMA)
  have p2:=Post.eT (M:=M') (base:=base) p1.rel (t:=t) (v:=.iface (n+1) (.agg ⟨row⟩)) hget (fun v0 e x hx=>by
   rw[hv]at e;cases e
   have hx':VR ρ1 (.slice (some ⟨A,0,tag⟩) n c) x:=by
    rcases htag with rfl|rfl
    ·cases hx with
     |slice h hl hc ho=>exact .slice (ρ:=ρ1) h hl hc ho
     |aQ h=>exact .aQ (ρ:=ρ1) h
    ·cases hx with
     |ax=>exact .ax
     |ay=>exact .ay
     |aD h hp hl hc ho=>exact .aD (ρ:=ρ1) h hp hl hc ho
   exact VR.freeze (H:=H1) htag hid hbm (hr1.obj A r _ hid hA) p1.ext hx') (fun _=>hMh)
  refine ⟨_,p'.trans (p1.trans p2),hf,hg,fun id hi r' hr' =>?_,ha.mono p1.ext⟩
  rcases hL id hi with rfl|hi
  ·have e:ρ1.f id=some r':=by rw[hf];exact hr'
   rw[show ρ1.f id=some r from hid]at e;cases e
   exact ⟨m,by show (if _ then _ else _)=_;rw[if_pos rfl]⟩
  ·obtain ⟨m',hm'⟩:=hm id hi r' hr'
   exact ⟨m',p1.ext.mem _ _ hm'⟩
theorem ou.JE{base:Nat}{M L M' L':List Nat}{H H1:Heap}{args i6:List Value}(h:ou P base M L H H1 args i6){k i id n c z:Nat}{tag:Option Nat}{cs vs:List Value}(hk:i6[k]?=some (.agg ⟨vs⟩))(hi:vs[i]?=some (.slice (some ⟨id,0,tag⟩) n c))(htag:tag=none∨tag=some 1)
  (ho:H1[id]?=some (.cells true z cs)) (hMA:id∈M') (hsub:∀id∈M,id∈M') (hL:∀id'∈L',id'=id∨id'∈L) :
  ou P base M' L' H (H1.set id .dead) args (i6.set k (.agg ⟨vs.set i (.iface (n+1) (.agg ⟨cs⟩))⟩)):=by
 intro B ρ w xs hr hx
 obtain ⟨ρ1,p,hf,hg,hm,ha⟩:=h B ρ w xs hr hx
 have hr1:=p.rel
 have p':=p.weaken (base':=base) (M':=M') (Nat.le_refl _) (fun id h _=>hsub id h)
 cases hid:ρ1 id with
 |none =>
  have p1:=Post.kr (base:=base) (M:=M') hr1 ho rfl (fun _=>hMA)
  refine ⟨ρ1,p'.trans p1,hf,hg,fun id' hi' r hr' =>?_,VRl.set1 ha hk (Ren.le_refl _) fun x hx=>VR.rG hi (Ren.le_refl _) (fun x hx=>VR.jk htag hid hx) hx⟩
  rcases hL id' hi' with rfl|hi'
  ·have:ρ1.f id'=some r:=by rw[hf];exact hr'
   rw[show ρ1.f id'=none from hid]at this;cases this
  ·exact hm id' hi' r hr'
 |some r =>
  have hob:=hr1.obj id r _ hid ho
  obtain ⟨_,_,m,ty,fz,hbm,_⟩:=hob
  have p1:=Post.yZ (base:=base) (M:=M') hr1 hid ho hbm (fun _=>hMA)
  refine ⟨_,p'.trans p1,hf,hg,fun id' hi' r' hr' =>?_,VRl.set1 ha hk p1.ext fun x hx=>VR.rG hi p1.ext (fun x hx=>VR.freeze (H:=H1) htag hid hbm (hr1.obj id r _ hid ho) p1.ext hx) hx⟩
  rcases hL id' hi' with rfl|hi'
  ·have e:ρ1.f id'=some r':=by rw[hf];exact hr'
   rw[show ρ1.f id'=some r from hid]at e;cases e
   exact ⟨m,by show (if _ then _ else _)=_;rw[if_pos rfl]⟩
  ·obtain ⟨m',hm'⟩:=hm id' hi' r' hr'
   exact ⟨m',p1.ext.mem _ _ hm'⟩
end Go.K

namespace Go.Proofs.YtmecpfikljhjaaaGreatDoor
noncomputable section
attribute [local irreducible] vF
theorem mX:∀{os:List aa},f9 os->∀o∈os,∃z cs,o=aa.cells true z cs
 | [],_,o,h=>by cases h
 |p :: os,⟨⟨z,cs,e,_⟩,hs⟩,o,h=>by
  rcases List.mem_cons.1 h with rfl|h
  ·exact ⟨z,cs,e⟩
  ·exact mX hs o h
theorem Hw{f:FuncId}{args args2:List Value}{H gs new:Heap}(v:Nat->Value)(ht:fR prog H.length H args args2 gs)(h:ad prog f args2 (H++gs) [] (Is (v (H++gs).length) ((H++gs)++new)))(hn:f9 new)
  (hv:rn (dl H.length gs.length new.length) 3 (v H.length)=v (H.length+gs.length)):ad prog f args H [] (Is (v H.length) (H++new)) :=
 ad.drop (d:=3) (ad.thaw ht h) rfl (fun _ _ _=>rfl) (fun _ _ _ h=>by cases h) (by rw[hv,List.length_append]) (cB hn).2 (mX hn)
theorem lD{H gs:Heap}{id:Nat}{o:aa}(h:H[id]?=some o):(H++gs)[id]?=some o:=by
 rw[List.getElem?_append_left (List.getElem?_eq_some_iff.1 h).1];exact h
def Et(H:Heap)(p:Pl)(l n t w i:Nat):Prop :=
 [0,l,n,t,w,i].Nodup/\H[0]?=some bC/\H[l]?=some (.cells true 1 (p.land.flatMap af))/\H[n]?=some (.cells true 1 (p.chan.flatMap af)) /\
  H[t]?=some (.cells true 2 (p.shp.th.flatMap ptC))/\H[w]?=some (.cells true 2 (p.shp.wa.flatMap ptC))/\H[i]?=some (.cells true 2 (p.shp.ic.flatMap ptC))
abbrev dpV(p:Pl)(l n t w i:Nat):Value:=.agg ⟨(plC p l 0 n t w i).set 3 (.iface (p.cts.length+1) (.agg ⟨p.cts.flatMap chC⟩))⟩
theorem Et.pl{H:Heap}{p:Pl}{l n t w i:Nat}(a:Et H p l n t w i):gJ (H ++ [.cells false 0 (p.cts.flatMap chC)]) p l H.length n t w i:=by
 obtain ⟨hn,a0,a1,a3,a4,a5,a6⟩:=a
 have lt:∀{id:Nat} {o:aa},H[id]?=some o->id≠H.length:=fun {id o} h=>Nat.ne_of_lt (List.getElem?_eq_some_iff.1 h).1
 refine ⟨?_,lD a0,lD a1,by simp,lD a3,lD a4,lD a5,lD a6⟩
 simp only[List.nodup_cons,List.mem_cons,List.not_mem_nil,or_false,not_or,List.nodup_nil,and_true]at hn ⊢
 obtain ⟨⟨h1,h2,h3,h4,h5⟩,⟨h6,h7,h8,h9⟩,⟨h10,h11,h12⟩,⟨h13,h14⟩,h15,_⟩:=hn
 exact ⟨⟨h1,lt a0,h2,h3,h4,h5⟩,⟨lt a1,h6,h7,h8,h9⟩,⟨Ne.symm (lt a3),Ne.symm (lt a4),Ne.symm (lt a5),Ne.symm (lt a6)⟩,⟨h10,h11,h12⟩,⟨h13,h14⟩,h15,not_false⟩
theorem xE{f:FuncId}{p:Pl}{new:Heap}(v:Nat->Value)(k:∀{H:Heap} {l c n t w i:Nat},gJ H p l c n t w i->ad prog f [plV p l c n t w i] H [] (Is (v H.length) (H++new)))(hn:f9 new)
  {H:Heap} (hv:rn (dl H.length 1 new.length) 3 (v H.length)=v (H.length+1)) {l n t w i:Nat} (a:Et H p l n t w i):ad prog f [dpV p l n t w i] H [] (Is (v H.length) (H++new)) :=
 Hw v (fR.agg (i:=3) rfl fR.nil) (k a.pl) hn hv
theorem rS{id o l:Nat}:wk (.slice (some ⟨id,o,none⟩) l l) (.slice (some ⟨id,o,some 2⟩) l l):=by
 intro ρ x hx
 cases hx with
 |slice h hl hc ho =>
  cases l with
  |zero=>exact .aB
  |succ l=>exact .aX h (Nat.succ_pos _) hl hc ho
 |aQ h=>exact .aB
def BM(H:Heap):Nat->List aa->Prop
 |_,[] =>True
 |k,o :: os=>H[k]?=some o/\BM H (k+1) os
theorem oc{H:Heap}:∀{os:List aa} {k:Nat},BM H k os->H.length=k+os.length->H.drop k=os
 | [],k,_,hl=>List.drop_eq_nil_of_le (by simp at hl;omega)
 |o :: os,k,⟨h1,h2⟩,hl=>by
  have hk:k<H.length:=(List.getElem?_eq_some_iff.1 h1).1
  rw[List.drop_eq_getElem_cons hk,oc h2 (by rw[hl,List.length_cons];omega)]
  congr 1
  rw[List.getElem?_eq_getElem hk]at h1
  exact Option.some.inj h1
theorem kL{H:Heap}{os:List aa}(h:BM H 0 os)(hl:H.length=os.length):H=os:=by
 have:=oc h (by omega)
 rwa [List.drop_zero]at this
def flatAll:Nat->List Nat->List aa->Bool
 |_,_,[] =>true
 |k,L,o :: os=>(L.contains k ||kG o)&&flatAll (k+1) L os
theorem nS{L:List Nat}:∀{os:List aa} {k:Nat},flatAll k L os=true->∀(i:Nat) (o:aa),k+i ∉ L->os[i]?=some o->kG o=true
 | [],_,_,i,o,_,h=>by cases h
 |q :: os,k,hf,i,o,hn,h=>by
  have hf':((L.contains k ||kG q)&&flatAll (k+1) L os)=true:=hf
  rw[Bool.and_eq_true,Bool.or_eq_true]at hf'
  cases i with
  |zero =>
   cases h
   rcases hf'.1 with g|g
   ·exact absurd (by simpa using g) hn
   ·exact g
  |succ i=>exact nS hf'.2 i o (by rw[show k+1+i=k+(i+1) by omega];exact hn) h
abbrev uR(a b:Value):List Value:=[nI 3,nI 1,nI 0,a,nI 3,nI 1,nI 1,b]
abbrev pD(H:Heap)(c9 c12:List Value):Heap :=
 ((((H.set 9 .dead).set 14 (.cells true 4 (uR (.iface 4 (.agg ⟨c9⟩)) (slN 12 3)))).set 12 .dead).set 14 (.cells true 4 (uR (.iface 4 (.agg ⟨c9⟩)) (.iface 4 (.agg ⟨c12⟩))))).set 14 .dead
theorem xe{f:FuncId}{H new:Heap}{v:Value}{c9 c12 vs:List Value}(h9:H[9]?=some (.cells true 8 c9))(h12:H[12]?=some (.cells true 8 c12))(h14:H[14]?=some (.cells true 4 (uR (slN 9 3) (slN 12 3))))
  (Bd:flatAll 0 [14,12,9] H=true) (hnew:∀o∈new,kG o=true/\o.owned=true) (hv:Bq v=true) (hk:vs[3]?=some (slN 14 2))
  (k:ad prog f [.agg ⟨vs.set 3 (.iface 3 (.agg ⟨uR (.iface 4 (.agg ⟨c9⟩)) (.iface 4 (.agg ⟨c12⟩))⟩))⟩] (pD H c9 c12) [] (Is v (pD H c9 c12++new))):ad prog f [.agg ⟨vs⟩] H [] (Is v (H++new)):=by
 have b9:9<H.length:=(List.getElem?_eq_some_iff.1 h9).1
 have b12:12<H.length:=(List.getElem?_eq_some_iff.1 h12).1
 have b14:14<H.length:=(List.getElem?_eq_some_iff.1 h14).1
 have l0:ou prog H.length [] [] H H [.agg ⟨vs⟩] [.agg ⟨vs⟩]:=ou.refl
 have l1:=l0.rh (M':=[14,12,9]) (L':=[9]) (hd:=14) (t:=3) (A:=9) (n:=3) (c:=3) (tag:=none) h14 h9 rfl (.inl rfl) (by decide) (by decide) (by decide) (fun _ h=>by cases h) (fun id h => .inl (List.mem_singleton.1 h))
 have l2:=l1.rh (M':=[14,12,9]) (L':=[12,9]) (hd:=14) (t:=7) (A:=12) (n:=3) (c:=3) (tag:=none) (zh:=4) (z:=8) (row:=c12) (hs:=uR (.iface 4 (.agg ⟨c9⟩)) (slN 12 3)) (by rw[List.getElem?_set_self (by rw[List.length_set];exact b14)];rfl) (by rw[List.getElem?_set_ne (by decide),List.getElem?_set_ne (by decide)];exact h12) rfl (.inl rfl) (by decide) (by decide) (by decide) (fun _ h=>h) (fun id h=>by
  rcases List.mem_cons.1 h with h|h
  ·exact .inl h
  ·exact .inr h)
 have l3:=l2.JE (M':=[14,12,9]) (L':=[14,12,9]) (k:=0) (i:=3) (id:=14) (n:=2) (c:=2) (tag:=none) (z:=4) (vs:=vs) (cs:=uR (.iface 4 (.agg ⟨c9⟩)) (.iface 4 (.agg ⟨c12⟩))) rfl hk (.inl rfl) (by rw[List.getElem?_set_self (by rw[List.length_set,List.length_set,List.length_set];exact b14)];rfl) (by decide) (fun _ h=>h) (fun id h=>by
  rcases List.mem_cons.1 h with h|h
  ·exact .inl h
  ·exact .inr h)
 refine ad.borrow l3 (by simp only[List.length_set]) (fun id hi =>?_) (fun id o hn ho=>nS Bd id o (by rw[Nat.zero_add];exact hn) ho) hnew hv k
 simp only[List.mem_cons,List.not_mem_nil,or_false]at hi
 rcases hi with rfl|rfl|rfl
 ·exact ⟨_,_,h14⟩
 ·exact ⟨_,_,h12⟩
 ·exact ⟨_,_,h9⟩
theorem Ix:aF (bg az az)=[⟨1,0,160,3⟩,⟨2,3,160,6⟩]:=by unfold aF;rw[Bu,if_neg (by decide)];exact Iv
theorem JH:cE (bg az az)=6:=by unfold cE;rw[Bu,if_neg (by decide)]
theorem JK:b8 (bg az az)=0:=by unfold b8;rw[Bu,if_neg (by decide)]
theorem Iw:aF (bg hvC az)=[⟨1,6,160,9⟩,⟨2,9,160,12⟩]:=by unfold aF;rw[Bt,if_neg (by decide)];exact Iu
theorem JG:cE (bg hvC az)=12:=by unfold cE;rw[Bt,if_neg (by decide)]
theorem JJ:b8 (bg hvC az)=0:=by unfold b8;rw[Bt,if_neg (by decide)]
theorem JF:cE (bB (bg hvC hvC))=6:=by unfold cE;rw[EX,if_neg (by decide)]
theorem JI:b8 (bB (bg hvC hvC))=0:=by unfold b8;rw[EX,if_neg (by decide)]
abbrev zd:List Value:=[nI 3,nI 1,slN 2 3,slN 14 2,slN 3 3,nI 3,nI 6000,nI 800,nI 9000,slN 6 3,slN 7 2,slN 8 2,nI 0,nI 20,nI 10,nI 100,nI 80,nI 0,nI 2]
theorem Dx(c9 c12:List Value)(a b:Cell)(h9:c9=[az,a,az].flatMap cellC)(h12:c12=[az,b,az].flatMap cellC):wks [.agg ⟨zd.set 3 (.iface 3 (.agg ⟨uR (.iface 4 (.agg ⟨c9⟩)) (.iface 4 (.agg ⟨c12⟩))⟩))⟩] [dpV (bg a b) 2 3 6 7 8]:=by
 subst h9 h12
 exact ⟨mf ⟨ae _,ae _,rS,ae _,rS,ae _,ae _,ae _,ae _,rS,rS,rS,ae _,ae _,ae _,ae _,ae _,ae _,ae _,trivial⟩,trivial⟩
def Cb(cs:List Cht):Prop :=
 (ck (cs.length=0) False (((0+cs.length)*48<=2 ^ 44/\cs.length≠0/\(0<=0/\0+0*4<=List.length ([]:List Value))/\(cs.length<=cs.length/\0+cs.length*4<=List.length (cs.flatMap chC))/\((((cs.flatMap chC).drop 0).take (cs.length*4)):List Value).all (fun v=>dz v)=true)/\true=true/\(true=true/\wk (slN 3 (0+cs.length):Value) (rn (sg 2 [(2,3)]) 3 (slQ 2 1 cs.length:Value))/\((kbq 2 (.cells true 4 (((([]:List Value).drop 0).take (0*4))++(((cs.flatMap chC).drop 0).take (cs.length*4)))) (.cells true 4 (cs.flatMap chC)))/\True))))
abbrev jo2:List Value:=[nI 4000,nI 8000,nI 14000,nI 24000,nI 40000,nI 90000]
theorem Hb(cs:List Cht):vF prog msk (dm 0) 100000 true 40 true 66 [slN 1 cs.length] (aG [.cells false 0 jo2,.cells false 0 (cs.flatMap chC)]) (some [])
 (.go 5 (.cas (cs.length=0) (.again []) (.need (.go 0 (.again [(2,3)])))))
 (mW ((aG [.cells false 0 jo2,.cells false 0 (cs.flatMap chC)]):HT).n 3 (slQ 2 1 cs.length) [(true,.cells true 4 (cs.flatMap chC))])=Cb cs:=by kernel_rfl
abbrev joq:aa:=.cells false 0 jo2
abbrev jof(p:Pl):=p.land.flatMap af
abbrev joj(p:Pl):=p.cts.flatMap chC
abbrev jo8(p:Pl):Prop:=(ac (.cells true 1 (p.chan.flatMap af)))/\(ac (.cells true 2 (p.shp.th.flatMap ptC)))/\(ac (.cells true 2 (p.shp.wa.flatMap ptC)))/\(ac (.cells true 2 (p.shp.ic.flatMap ptC)))/\True
abbrev jo7(H':Heap)(p:Pl):Prop:=H'[3]?=some (.cells true 1 (p.chan.flatMap af):aa)/\H'[4]?=some (.cells true 2 (p.shp.th.flatMap ptC):aa)/\H'[5]?=some (.cells true 2 (p.shp.wa.flatMap ptC):aa)/\H'[6]?=some (.cells true 2 (p.shp.ic.flatMap ptC):aa)/\True
abbrev jo5(p:Pl):List Value:=[.agg #[nI p.w,nI p.h,slQ 1 2 p.land.length,slQ 2 2 p.cts.length,slQ 3 2 p.chan.length,nI p.shp.cls,nI p.shp.pow,nI p.shp.dra,nI p.shp.ton,slQ 4 2 p.shp.th.length,slQ 5 2 p.shp.wa.length,slQ 6 2 p.shp.ic.length,nI p.shp.slow,nI p.shp.aw,nI p.shp.rdg,nI p.shp.prs,nI p.size,nI p.frm,nI p.to]]
abbrev joi(p:Pl):Int:=(p.cts.length:Nat)
abbrev jod(p:Pl):Prop:=eR (pt 7)/\eR (nI 0)/\eR (nI 0)/\eR (.func (.func 65) #[] #[])/\wR (slQ 8 1 p.cts.length)/\eR (nI (joi p))/\True
abbrev jor(p:Pl)(x2:Nat):=dC p.cts x2
abbrev jo3(p:Pl)(x2:Nat):=List.length ((jor p x2).getD x2 zCh).cells
abbrev jo4(p:Pl)(x2:Nat):Value:=.agg ⟨(List.flatMap cellC ((jor p x2).getD x2 zCh).cells)⟩
abbrev joe(p:Pl)(x2:Nat):Value:=.agg #[nI ((jor p x2).getD x2 zCh).w,nI ((jor p x2).getD x2 zCh).h,nI ((jor p x2).getD x2 zCh).hr,.iface ((jo3 p x2)+1) (jo4 p x2)]
abbrev joh(p:Pl)(x2:Nat):Value:=.iface ((jo3 p x2)+1) (jo4 p x2)
abbrev jo1(p:Pl)(x2 x3:Nat):=List.getD ((jor p x2).getD x2 zCh).cells x3 az
abbrev jo9(p:Pl)(x2 x3:Nat):Value:=.agg #[nI (jo1 p x2 x3).ap.lo,nI (jo1 p x2 x3).ap.hi,nI (jo1 p x2 x3).ag.lo,nI (jo1 p x2 x3).ag.hi,nI (jo1 p x2 x3).ai.lo,nI (jo1 p x2 x3).ai.hi,nI (jo1 p x2 x3).ah.lo,nI (jo1 p x2 x3).ah.hi]
abbrev joa(p:Pl)(x2 x3:Nat):=iK ((jor p x2).getD x2 zCh) x3
abbrev job(p:Pl)(x2 x3:Nat):List Value:=[nI (jo1 p x2 x3).ap.lo,nI (jo1 p x2 x3).ap.lo,nI (jo1 p x2 x3).ag.lo,nI (jo1 p x2 x3).ag.lo,nI (jo1 p x2 x3).ai.lo,nI (jo1 p x2 x3).ai.lo,nI (jo1 p x2 x3).ah.lo,nI (jo1 p x2 x3).ah.lo]
abbrev joc(p:Pl):=List.flatMap chC (bB p).cts
abbrev jo0(p:Pl):List Value:=[nI p.w,nI p.h,slQ 1 2 p.land.length,slQ 9 2 (List.length (bB p).cts),slQ 3 2 p.chan.length,nI p.shp.cls,nI p.shp.pow,nI p.shp.dra,nI p.shp.ton,slQ 4 2 p.shp.th.length,slQ 5 2 p.shp.wa.length,slQ 6 2 p.shp.ic.length,nI p.shp.slow,nI p.shp.aw,nI p.shp.rdg,nI p.shp.prs,nI p.size,nI p.frm,nI p.to,nI (endP (bB p)),.map (some 11)]
abbrev jog(p:Pl):=knE (ab.nil (sfP (bB p))).1
abbrev jok(p:Pl):=rn (sg 7 []) 3 (.tuple #[nI (cE (bB p)),nI (b8 (bB p))]:Value)
def Fj(p:Pl):Prop :=
 (((ac joq)/\(ac (.cells true 1 (jof p)))/\(ac (.cells false 0 (joj p)))/\jo8 p)/\(∀H':Heap,H'.length=8->(H'[0]?=some (.cells false 0 jo2:aa)/\H'[1]?=some (.cells true 1 (jof p):aa)/\H'[2]?=some (.cells false 0 (joj p):aa)/\jo7 H' p)->ad prog 29 (jo5 p) H' [] (Is (nI 0) H'))/\(n2q 8 0 joq 2 (.cells false 0 (joj p)) 66 [slQ 2 2 p.cts.length] (slQ 8 1 p.cts.length) [(.cells true 4 (joj p):aa)] (lq (0<=List.length p.cts) (true=true/\((nI 0:Value)=nI ((0:Nat):Int)/\jod p)/\((kbq 9 (.cells true 4 (joj p)) (.cells true 4 ((dC p.cts 0).flatMap chC)))/\True)/\(True)/\(True)) (∀x2:Nat,(x2<=List.length p.cts)->(fk (decide (((x2:Int):Int)<(joi p))) ((ixq (x2:Int) p.cts.length)/\((cN 4 ((jor p x2).flatMap chC) (0+Int.toNat (x2:Int)*4)=some (joe p x2))/\(lq (0<=List.length ((jor p x2).getD x2 zCh).cells) (true=true/\((nI 0:Value)=nI ((0:Nat):Int)/\wk (.slice none 0 0:Value) (slQ 0 1 (iK ((jor p x2).getD x2 zCh) 0).length:Value)/\eR (nI (joi p))/\wR (slQ 8 1 p.cts.length)/\eR (.func (.func 65) #[] #[])/\eR (nI 0)/\eR (nI 0)/\eR (pt 7)/\eR (nI (x2:Int))/\eR (pt 9)/\eR (nI (x2:Int))/\(joh p x2)=rn (sg 10 []) 3 (joh p x2)/\eR (nI (((jo3 p x2):Nat):Int))/\True)/\(True)/\(True/\True)/\(True)) (∀x3:Nat,(x3<=List.length ((jor p x2).getD x2 zCh).cells)->(fk (decide (((x3:Int):Int)<(((jo3 p x2):Nat):Int))) ((ixq (x3:Int) (jo3 p x2))/\((cN 8 (List.flatMap cellC ((jor p x2).getD x2 zCh).cells) (Int.toNat (x3:Int)*8)=some (jo9 p x2 x3))/\(apq (joa p x2 x3).length 64 8 ((joa p x2 x3).flatMap cellC) (job p x2 x3) (nw ((x3:Int)+1) (∃x3':Nat,(x3'<=List.length ((jor p x2).getD x2 zCh).cells)/\(List.length ((jor p x2).getD x2 zCh).cells-x3')<(List.length ((jor p x2).getD x2 zCh).cells-x3)/\true=true/\((nI ((x3:Int)+1):Value)=nI (x3':Int)/\wk (slN 13 ((joa p x2 x3).length+1):Value) (slQ 13 1 (iK ((jor p x2).getD x2 zCh) x3').length:Value)/\eR (nI (joi p))/\wR (slQ 8 1 p.cts.length)/\eR (.func (.func 65) #[] #[])/\eR (nI 0)/\eR (nI 0)/\eR (pt 7)/\eR (nI (x2:Int))/\eR (pt 9)/\eR (nI (x2:Int))/\(joh p x2)=rn (sg 10 [(10,13)]) 3 (joh p x2)/\eR (nI (((jo3 p x2):Nat):Int))/\True)/\(True)/\((kbq 10 (.cells true 8 (((((joa p x2 x3).flatMap cellC).drop 0).take ((joa p x2 x3).length*8))++((((job p x2 x3):List Value).drop 0).take (1*8)))) (.cells true 8 ((iK ((jor p x2).getD x2 zCh) x3').flatMap cellC)))/\True)/\(True)))))) ((ixq (x2:Int) p.cts.length)/\((((0+Int.toNat (x2:Int)*4)+3)+1<=List.length ((jor p x2).flatMap chC))/\true=true/\(nw ((x2:Int)+1) (∃x2':Nat,(x2'<=List.length p.cts)/\(List.length p.cts-x2')<(List.length p.cts-x2)/\true=true/\((nI ((x2:Int)+1):Value)=nI (x2':Int)/\jod p)/\((kbq 9 (.cells true 4 (ba ((jor p x2).flatMap chC) ((0+Int.toNat (x2:Int)*4)+3) [.iface ((joa p x2 x3).length+1) (.agg ⟨((joa p x2 x3).flatMap cellC)⟩)])) (.cells true 4 ((dC p.cts x2').flatMap chC)))/\True)/\(True)/\(True)))))))))) ((some (.cells true 4 ((jor p x2).flatMap chC):aa)=some (.cells true 4 (joc p):aa))/\(((.agg #[nI p.w,nI p.h,slQ 1 2 p.land.length,slQ 9 2 p.cts.length,slQ 3 2 p.chan.length,nI p.shp.cls,nI p.shp.pow,nI p.shp.dra,nI p.shp.ton,slQ 4 2 p.shp.th.length,slQ 5 2 p.shp.wa.length,slQ 6 2 p.shp.ic.length,nI p.shp.slow,nI p.shp.aw,nI p.shp.rdg,nI p.shp.prs,nI p.size,nI p.frm,nI p.to]:Value) = .agg #[nI p.w,nI p.h,slQ 1 2 p.land.length,slQ 9 2 (List.length (bB p).cts),slQ 3 2 p.chan.length,nI p.shp.cls,nI p.shp.pow,nI p.shp.dra,nI p.shp.ton,slQ 4 2 p.shp.th.length,slQ 5 2 p.shp.wa.length,slQ 6 2 p.shp.ic.length,nI p.shp.slow,nI p.shp.aw,nI p.shp.rdg,nI p.shp.prs,nI p.size,nI p.frm,nI p.to])/\(((ac joq)/\(ac (.cells true 1 (jof p)))/\(ac (.cells false 0 (joc p)))/\jo8 p)/\(∀H':Heap,H'.length=10->(H'[0]?=some (.cells false 0 jo2:aa)/\H'[1]?=some (.cells true 1 (jof p):aa)/\H'[9]?=some (.cells false 0 (joc p):aa)/\jo7 H' p)->ad prog 53 [.agg #[nI p.w,nI p.h,slQ 1 2 p.land.length,slQ 9 2 (List.length (bB p).cts),slQ 3 2 p.chan.length,nI p.shp.cls,nI p.shp.pow,nI p.shp.dra,nI p.shp.ton,slQ 4 2 p.shp.th.length,slQ 5 2 p.shp.wa.length,slQ 6 2 p.shp.ic.length,nI p.shp.slow,nI p.shp.aw,nI p.shp.rdg,nI p.shp.prs,nI p.size,nI p.frm,nI p.to]] H' [] (Is (.tuple #[pt 10,nI 0]) (H' ++ [(.cells true 0 (jo0 p):aa),(.map (jog p):aa)])))/\(((ac joq)/\(ac (.cells true 0 (jo0 p)))/\(ac (.cells true 1 (jof p)))/\(ac (.cells false 0 (joc p)))/\(ac (.cells true 1 (p.chan.flatMap af)))/\(ac (.cells true 2 (p.shp.th.flatMap ptC)))/\(ac (.cells true 2 (p.shp.wa.flatMap ptC)))/\(ac (.cells true 2 (p.shp.ic.flatMap ptC)))/\(ac (.map (jog p)))/\True)/\(∀H':Heap,H'.length=12->(H'[0]?=some (.cells false 0 jo2:aa)/\H'[10]?=some (.cells true 0 (jo0 p):aa)/\H'[1]?=some (.cells true 1 (jof p):aa)/\H'[9]?=some (.cells false 0 (joc p):aa)/\H'[3]?=some (.cells true 1 (p.chan.flatMap af):aa)/\H'[4]?=some (.cells true 2 (p.shp.th.flatMap ptC):aa)/\H'[5]?=some (.cells true 2 (p.shp.wa.flatMap ptC):aa)/\H'[6]?=some (.cells true 2 (p.shp.ic.flatMap ptC):aa)/\H'[11]?=some (.map (jog p):aa)/\True)->ad prog 54 [pt 10] H' [11] (fun y H2 => ∃z:ab (sfP (bB p)),True/\y=nI (bp (bB p))/\H2=(List.set H' 11 (.map (knE z.1):aa))))/\(∀r4:ab (sfP (bB p)),True->(fk (decide (((bp (bB p)):Int)<0)) (true=true/\wk (.tuple #[nI 0,nI 51]:Value) (jok p)/\(True)) (true=true/\wk (.tuple #[nI (bp (bB p)),nI 0]:Value) (jok p)/\(True)))))))))))))
abbrev jo6(p:Pl):=aG [.cells false 0 jo2,.cells true 1 (jof p),.cells false 0 (joj p),.cells true 1 (p.chan.flatMap af),.cells true 2 (p.shp.th.flatMap ptC),.cells true 2 (p.shp.wa.flatMap ptC),.cells true 2 (p.shp.ic.flatMap ptC)]
abbrev jol:Nat×aa:=(0,.cells false 0 jo2)
abbrev jom(p:Pl):Nat×aa:=(3,.cells true 1 (p.chan.flatMap af))
abbrev jon(p:Pl):Nat×aa:=(4,.cells true 2 (p.shp.th.flatMap ptC))
abbrev joo(p:Pl):Nat×aa:=(5,.cells true 2 (p.shp.wa.flatMap ptC))
abbrev jop(p:Pl):Nat×aa:=(6,.cells true 2 (p.shp.ic.flatMap ptC))
theorem Jd(p:Pl):vF prog msk (dm 0) 100000 true 40 true 23 (jo5 p) (jo6 p) (some [])
 (.go 3 (.ans [jol,(1,.cells true 1 (jof p)),(2,.cells false 0 (joj p)),(jom p),(jon p),(joo p),(jop p)] (nI 0) [] (.go 6 (.ans [jol,(2,.cells false 0 (joj p))] (slQ 8 1 p.cts.length) [.cells true 4 (joj p)] (.go 5 (.inv 3 (Nat) (0) [] [8] (fun x2=>[(26,nI (x2:Int)),(1,pt 7),(2,nI 0),(3,nI 0),(5,.func (.func 65) #[] #[]),(24,slQ 8 1 p.cts.length),(25,nI (joi p))]) (fun x2=>[(8,true,.cells true 4 ((jor p x2).flatMap chC))]) (fun x2=>[]) (fun x2=>[]) (fun x2=>(x2<=List.length p.cts)) (fun x2=>(List.length p.cts-x2)) (fun x2 => .go 0 (.fork (.go 0 (.need (.val (joe p x2) (.go 7 (.inv 3 (Nat) (0) [] [] (fun x3=>[(34,nI (x3:Int)),(8,slQ 10 1 (joa p x2 x3).length),(25,nI (joi p)),(24,slQ 8 1 p.cts.length),(5,.func (.func 65) #[] #[]),(3,nI 0),(2,nI 0),(1,pt 7),(26,nI (x2:Int)),(7,pt 9),(6,nI (x2:Int)),(32,.iface ((jo3 p x2)+1) (jo4 p x2)),(33,nI (((jo3 p x2):Nat):Int))]) (fun x3=>[]) (fun x3=>[(true,.cells true 8 ((joa p x2 x3).flatMap cellC))]) (fun x3=>[]) (fun x3=>(x3<=List.length ((jor p x2).getD x2 zCh).cells)) (fun x3=>(List.length ((jor p x2).getD x2 zCh).cells-x3)) (fun x3 => .go 0 (.fork (.need (.val (jo9 p x2 x3) (.go 52 (.need (.go 1 (.slot 58 (nI ((x3:Int)+1)) (.go 0 (.again [(10,13)])))))))) (.go 3 (.frz [62] (.need (.go 0 (.need (.go 0 (.slot 65 (nI ((x2:Int)+1)) (.go 0 (.again [])))))))))))))))) (.obj 8 (.cells true 4 (joc p)) (.go 0 (.tab [.tog 67 3,.tog 67 3] (.slot 67 (.agg #[nI p.w,nI p.h,slQ 1 2 p.land.length,slQ 9 2 (List.length (bB p).cts),slQ 3 2 p.chan.length,nI p.shp.cls,nI p.shp.pow,nI p.shp.dra,nI p.shp.ton,slQ 4 2 p.shp.th.length,slQ 5 2 p.shp.wa.length,slQ 6 2 p.shp.ic.length,nI p.shp.slow,nI p.shp.aw,nI p.shp.rdg,nI p.shp.prs,nI p.size,nI p.frm,nI p.to]) (.ans [jol,(1,.cells true 1 (jof p)),(9,.cells false 0 (joc p)),(jom p),(jon p),(joo p),(jop p)] (.tuple #[pt 10,nI 0]) [.cells true 0 (jo0 p),.map (jog p)] (.go 8 (.cg [jol,(10,.cells true 0 (jo0 p)),(1,.cells true 1 (jof p)),(9,.cells false 0 (joc p)),(jom p),(jon p),(joo p),(jop p),(11,.map (jog p))] [11] (ab (sfP (bB p))) (fun r4=>True) (fun r4=>nI (bp (bB p))) (fun r4=>[(11,.map (knE r4.1))]) (fun r4=>[]) (fun r4 => .go 2 (.fork (.go 1 (.again [])) (.go 2 (.again [])))))))))))))))))))
 (mW ((jo6 p):HT).n 3 (.tuple #[nI (cE (bB p)),nI (b8 (bB p))]) [])=Fj p:=by kernel_rfl
theorem ie{e:Nat->Int}:∀{n:Nat},(∀i,i<n->e i=0)->cd e n=0
 |0,_=>rfl
 |n+1,h=>fM (ie fun i hi=>h i (by omega)) (h n (by omega))
theorem Av{c:Cell}(h:bk c):bk (leC c):=by
 unfold bk cH leC leS at *
 dsimp only at *
 omega
theorem DF{l:List Cell}(h:errs aK l=0):errs aK (l.map leC)=0:=by
 induction l with
 |nil=>rfl
 |cons x l ih =>
  have h0:(if aK x=0 then errs aK l else aK x)=0:=h
  split at h0
  ·rename_i hx
   show (if aK (leC x)=0 then errs aK (l.map leC) else aK (leC x))=0
   rw[if_pos (dY.2 (Av (dY.1 hx)))];exact ih h0
  ·rename_i hx;exact absurd h0 hx
theorem Ax(c:Cht):iK c c.cells.length=c.cells.map leC:=by unfold iK;rw[List.take_length]
theorem A7{p:Pl}(e:∀i,i<p.cts.length->ct p i=0):∀i,i<p.cts.length->ct (bB p) i=0:=by
 intro i hi
 have h:=e i hi
 have g1:(bB p).cts.getD i zCh=leH (p.cts.getD i zCh):=by
  show (dC p.cts p.cts.length).getD i zCh=_
  rw[gz _ _ (Nat.le_refl _) i hi,if_pos hi]
 have g0:(bB p).cts.getD 0 zCh=leH (p.cts.getD 0 zCh):=by
  show (dC p.cts p.cts.length).getD 0 zCh=_
  rw[gz _ _ (Nat.le_refl _) 0 (by omega),if_pos (by omega)]
 unfold ct at h ⊢
 dsimp only at h ⊢
 rw[g1,g0]
 obtain ⟨h1,h2⟩:=eB h
 have h3:cD (p.cts.getD i zCh).w (p.cts.getD i zCh).h (p.cts.getD i zCh).hr (iK (p.cts.getD i zCh) (p.cts.getD i zCh).cells.length)=0:=by
  unfold cD at h1 ⊢
  obtain ⟨k1,k2⟩:=eB h1
  rw[Ax,List.length_map,k1,bI rfl]
  split at k2
  ·rename_i q;rw[if_pos q];exact DF k2
  ·cases k2
 show bM (cD _ _ _ (iK _ _)) _=0
 rw[show cD (leH (p.cts.getD i zCh)).w (leH (p.cts.getD i zCh)).h (leH (p.cts.getD i zCh)).hr (iK (p.cts.getD i zCh) (p.cts.getD i zCh).cells.length)=0 from h3,bI rfl]
 exact h2
theorem Dq{p:Pl}(e0:bO p=0):bO (bB p)=0:=by
 have o:=kj e0
 have hl:(bB p).cts.length=p.cts.length:=gy _ _
 have hu:cd (ct (bB p)) p.cts.length=cd (ct p) p.cts.length:=by rw[ie (A7 o.cht),ie o.cht]
 unfold bO at e0 ⊢
 rw[hl,hu]
 exact e0
theorem CC(l:List Cht)(n:Nat):((List.take n (List.drop 0 (l.flatMap chC))).all fun v=>dz v)=true:=by
 rw[List.all_eq_true]
 intro v hv
 have h:=List.mem_of_mem_take hv
 rw[List.drop_zero]at h
 obtain ⟨c,_,h⟩:=List.mem_flatMap.1 h
 simp only[chC,List.mem_cons,List.not_mem_nil,or_false,List.mem_append]at h
 rcases h with h|h|h|h <;> (subst h;rfl)
theorem Hl{id o l:Nat}(h:0<l):wk (.slice (some ⟨id,o,some 2⟩) l l) (.slice (some ⟨id,o,none⟩) l l):=by
 intro ρ x hx
 cases hx with
 |aB=>exact absurd h (Nat.lt_irrefl 0)
 |aX h hp hl hc ho=>exact .slice h hl hc ho
theorem F9{cs:List Cht}(h0:0<cs.length)(h1:cs.length<=1000000){H:Heap}{L:Nat}(hH:H[0]?=some bC)(hL:H[L]?=some (.cells false 0 (cs.flatMap chC)))(hne:L≠0) :
  ad prog 66 [slQ L 2 cs.length] H [] (Is (slQ H.length 1 cs.length) (H ++ [.cells true 4 (cs.flatMap chC)])):=by
 have fl:=aP (f:=chC) eC cs
 refine ad.wkA (args2:=[slN L cs.length]) ?_ ⟨Hl h0,trivial⟩
 refine mF (os:=[bC,.cells false 0 (cs.flatMap chC)]) (ids:=[0,L]) (fun j=>slQ j 1 cs.length) (new:=[.cells true 4 (cs.flatMap chC)]) (Eq.mpr (Hb cs) ?_) (by show (am 3 bC&&(am 3 (.cells false 0 (cs.flatMap chC))&&true))=true;rw[BD];rfl) rfl ⟨⟨_,_,rfl,ei _ _⟩,trivial⟩ (by simp[Ne.symm hne]) ⟨hH,by rw[nX];exact hL,trivial⟩ rfl (fun j=>rfl) rfl
 delta Cb slQ slN ck kbq
 refine ⟨fun q=>absurd q (by omega),fun _=>⟨⟨by omega,by omega,⟨Nat.le_refl _,Nat.le_refl _⟩,⟨Nat.le_refl _,by omega⟩,CC _ _⟩,rfl,?_⟩⟩
 have e:List.take (0*4) (List.drop 0 ([]:List Value))++List.take (cs.length*4) (List.drop 0 (cs.flatMap chC))=cs.flatMap chC:=by
  rw[List.drop_zero,List.drop_zero,List.take_of_length_le (l:=cs.flatMap chC) (by omega)];rfl
 rw[e,Nat.zero_add]
 repeat' first|exact ei _ _|exact trivial|(exact rT (by omega))|refine ⟨rfl,?_⟩|apply And.intro
theorem Ah{l:List Cell}{k off:Nat}(h:k<l.length)(ho:off=k*8):cN 8 (l.flatMap cellC) off=some (.agg ⟨cellC (l.getD k az)⟩):=jc (n:=8) (d:=az) (c:=0) (m:=8) db h (by omega) (by omega)
theorem ED(σ:Nat->Option Nat)(n:Nat)(l:List Cell):rn σ 3 (.iface n (.agg ⟨l.flatMap cellC⟩)) = .iface n (.agg ⟨l.flatMap cellC⟩):=by
 show Value.iface _ (.agg ⟨(l.flatMap cellC).map (rn σ 2)⟩)=_
 rw[List.map_congr_left (g:=fun v=>v) fun v hv =>?_,List.map_id']
 obtain ⟨c,_,h⟩:=List.mem_flatMap.1 hv
 simp only[cellC,List.mem_cons,List.not_mem_nil,or_false,List.mem_append]at h
 rcases h with h|h|h|h|h|h|h|h <;> (subst h;rfl)
theorem HG{H:Heap}{p:Pl}{Q:Prop}(h:H[0]?=some bC/\H[1]?=some (.cells true 1 (p.land.flatMap af))/\H[9]?=some (.cells false 0 (p.cts.flatMap chC))/\H[3]?=some (.cells true 1 (p.chan.flatMap af)) /\
  H[4]?=some (.cells true 2 (p.shp.th.flatMap ptC))/\H[5]?=some (.cells true 2 (p.shp.wa.flatMap ptC))/\H[6]?=some (.cells true 2 (p.shp.ic.flatMap ptC))/\Q):gJ H p 1 9 3 4 5 6:=by
 obtain ⟨a0,a1,a2,a3,a4,a5,a6,_⟩:=h
 exact ⟨by decide,a0,a1,a2,a3,a4,a5,a6⟩
theorem Hm{H:Heap}{p:Pl}{K:ab (sfP p)}{Q:Prop}(h:H[0]?=some bC/\H[10]?=some (.cells true 0 (wkC p 1 9 3 4 5 6 11))/\H[1]?=some (.cells true 1 (p.land.flatMap af))/\H[9]?=some (.cells false 0 (p.cts.flatMap chC))/\H[3]?=some (.cells true 1 (p.chan.flatMap af)) /\
  H[4]?=some (.cells true 2 (p.shp.th.flatMap ptC))/\H[5]?=some (.cells true 2 (p.shp.wa.flatMap ptC))/\H[6]?=some (.cells true 2 (p.shp.ic.flatMap ptC))/\H[11]?=some (.map (knE K.1))/\Q):i7 H p K 1 9 3 4 5 6 10 11:=by
 obtain ⟨a0,a7,a1,a2,a3,a4,a5,a6,a8,_⟩:=h
 exact ⟨by decide,a0,a1,a2,a3,a4,a5,a6,a7,a8⟩
theorem H8{p:Pl}(e0:bO p=0){H:Heap}{l c n t w i:Nat}(a:gJ H p l c n t w i) :
  ad prog 23 [plV p l c n t w i] H [] (Is (.tuple #[nI (cE (bB p)),nI (b8 (bB p))]) H):=by
 have o:=kj e0
 have e1:=Dq e0
 have o1:=kj e1
 have hcl:(bB p).cts.length=p.cts.length:=gy _ _
 have key:=mF (fun _ => .tuple #[nI (cE (bB p)),nI (b8 (bB p))]) (new:=[]) (Eq.mpr (Jd p) ?_) (kY p) rfl trivial a.1 a.objs rfl (fun _=>rfl) (args':=[plV p l c n t w i]) rfl
 ·rwa [List.append_nil]at key
 have hct:=o.cts
 have hbd:=o.bd
 delta Fj joq jof joj jo8 jo2 jo7 jo5 jod joi jor joe joh jo3 jo9 joa job joc jo0 jog jok jo1 jo4 nI slQ pt slN ac fk nw eR wR kbq ixq lq apq n2q
 refine ⟨?_,fun H' _ h=>e0 ▸ AV p o.lst h.2.1 h.2.2.1 h.2.2.2.1 h.2.2.2.2.1 h.2.2.2.2.2.1 h.2.2.2.2.2.2.1,?_,fun H' hn h=>hn ▸ F9 (by omega) (by omega) h.1 h.2.1 (by decide),rfl,Nat.zero_le _,⟨rfl,?_⟩,fun _=>rfl,fun x2 hx2=>⟨fun q =>?_,fun q =>?_⟩⟩
 ·repeat' first|exact trivial|refine ⟨rfl,?_⟩
 ·repeat' first|exact trivial|refine ⟨rfl,?_⟩
 ·repeat' first|exact ei _ _|exact trivial|exact ae _|refine ⟨rfl,?_⟩|refine ⟨trivial,?_⟩|apply And.intro
 ·have hx:=of_decide_eq_true q
  have hx':x2<p.cts.length:=by omega
  have hll:=gy p.cts x2
  have hg:=gz p.cts x2 hx2 x2 hx'
  rw[if_neg (Nat.lt_irrefl x2)]at hg
  have ch:=o.pW hx'
  have hcc:=ch.len
  rw[<- hg]at hcc
  refine ⟨by omega,Ai (by omega) (by omega),rfl,Nat.zero_le _,⟨rfl,?_⟩,fun _=>rfl,fun x3 hx3=>⟨fun q3 =>?_,fun q3 =>?_⟩⟩
  ·repeat' first|exact (ED _ _ _).symm|exact trivial|exact ae _|exact ef _ _ _ (.inl rfl)|refine ⟨rfl,?_⟩|refine ⟨trivial,?_⟩|apply And.intro
  ·have h3:=of_decide_eq_true q3
   have h3':x3<((dC p.cts x2).getD x2 zCh).cells.length:=by omega
   have yes:=yK h3'
   have hl3:=Aw _ x3 hx3
   refine ⟨by omega,Ah h3' (by omega),⟨by omega,by decide,⟨Nat.le_refl _,by rw[aP db];omega⟩,⟨Nat.le_refl _,by simp⟩,rfl⟩,rfl,ak (by omega),x3+1,by omega,by omega,rfl,?_⟩
   repeat' first|exact cv yes|exact cA db yes rfl|exact kX _ _|exact (ED _ _ _).symm|exact trivial|exact ae _|refine ⟨rfl,?_⟩|refine ⟨trivial,?_⟩|apply And.intro
  ·have h3:=of_decide_eq_false q3
   have e3:x3=((dC p.cts x2).getD x2 zCh).cells.length:=by omega
   have fl:=aP (f:=chC) eC (dC p.cts x2)
   have es:ba ((dC p.cts x2).flatMap chC) (x2*4+3) [.iface ((iK ((dC p.cts x2).getD x2 zCh) x3).length+1) (.agg ⟨(iK ((dC p.cts x2).getD x2 zCh) x3).flatMap cellC⟩)]=(dC p.cts (x2+1)).flatMap chC:=by
    rw[e3]
    exact v5 (d:=zCh) (y:=leH ((dC p.cts x2).getD x2 zCh)) eC (dC p.cts x2) x2 (by omega) (Nat.le_refl 4) rfl
   refine ⟨by omega,by omega,rfl,ak (by omega),x2+1,by omega,by omega,rfl,?_⟩
   rw[show 0+Int.toNat (x2:Int)*4+3=x2*4+3 by omega,es]
   repeat' first|exact ei _ _|exact trivial|exact ae _|refine ⟨rfl,?_⟩|refine ⟨trivial,?_⟩|apply And.intro
 ·have hx:=of_decide_eq_false q
  have e:dC p.cts x2=(bB p).cts:=by
   show _=dC p.cts p.cts.length
   congr 1;omega
  rw[e]
  refine ⟨rfl,by rw[hcl],?_,fun H' hn h=>nD o1.lst e1 hn rfl (HG h),?_,fun H' hn h=>tg o1 (Hm h),fun r4 _=>⟨fun s =>?_,fun s =>?_⟩⟩
  ·repeat' first|exact trivial|refine ⟨rfl,?_⟩
  ·repeat' first|exact trivial|refine ⟨rfl,?_⟩
  ·have h:=of_decide_eq_true s
   rw[show cE (bB p)=0 from if_pos h,show b8 (bB p)=51 from if_pos h]
   repeat' first|exact trivial|exact ae _|refine ⟨rfl,?_⟩|apply And.intro
  ·have h:=of_decide_eq_false s
   rw[show cE (bB p)=bp (bB p) from if_neg h,show b8 (bB p)=0 from if_neg h]
   repeat' first|exact trivial|exact ae _|refine ⟨rfl,?_⟩|apply And.intro
abbrev DC:List aa:=[.cells false 0 [nI 4000,nI 8000,nI 14000,nI 24000,nI 40000,nI 90000],.cells true 0 [nI 3,nI 1,slN 2 3,slN 14 2,slN 3 3,nI 3,nI 6000,nI 800,nI 9000,slN 6 3,slN 7 2,slN 8 2,nI 0,nI 20,nI 10,nI 100,nI 80,nI 0,nI 2],.cells true 1 [.bool false,.bool false,.bool false],.cells true 1 [.bool false,.bool false,.bool false],.cells true 0 [nI 3,nI 1,slN 2 3,slN 14 2,slN 3 3,nI 3,nI 6000,nI 800,nI 9000,slN 6 3,slN 7 2,slN 8 2,nI 0,nI 20,nI 10,nI 100,nI 80,nI 0,nI 2],.cells true 0 [nI 3,nI 6000,nI 800,nI 9000,slN 6 3,slN 7 2,slN 8 2,nI 0,nI 20,nI 10,nI 100],.cells true 2 [nI 0,nI 1000,nI 100,nI 800,nI 200,nI 0],.cells true 2 [nI 0,nI 0,nI 200,nI 400],.cells true 2 [nI 0,nI 0,nI 400,nI 2000],.cells true 8 [nI 0,nI 0,nI 0,nI 0,nI 0,nI 0,nI 0,nI 0,nI 0,nI 0,nI 0,nI 0,nI 0,nI 0,nI 0,nI 0,nI 0,nI 0,nI 0,nI 0,nI 0,nI 0,nI 0,nI 0],.cells true 4 [nI 3,nI 1,nI 0,slN 9 3],.dead,.cells true 8 [nI 0,nI 0,nI 0,nI 0,nI 0,nI 0,nI 0,nI 0,nI 0,nI 0,nI 0,nI 0,nI 0,nI 0,nI 0,nI 0,nI 0,nI 0,nI 0,nI 0,nI 0,nI 0,nI 0,nI 0],.cells true 4 [nI 3,nI 1,nI 1,slN 12 3],.cells true 4 [nI 3,nI 1,nI 0,slN 9 3,nI 3,nI 1,nI 1,slN 12 3],.cells true 0 [nI 3,nI 1,slN 2 3,slN 14 2,slN 3 3,nI 3,nI 6000,nI 800,nI 9000,slN 6 3,slN 7 2,slN 8 2,nI 0,nI 20,nI 10,nI 100,nI 80,nI 0,nI 2]]
abbrev Dz:List aa:=[.cells false 0 [nI 4000,nI 8000,nI 14000,nI 24000,nI 40000,nI 90000],.cells true 0 [nI 3,nI 1,slN 2 3,slN 14 2,slN 3 3,nI 3,nI 6000,nI 800,nI 9000,slN 6 3,slN 7 2,slN 8 2,nI 0,nI 20,nI 10,nI 100,nI 80,nI 0,nI 2],.cells true 1 [.bool false,.bool false,.bool false],.cells true 1 [.bool false,.bool false,.bool false],.cells true 0 [nI 3,nI 1,slN 2 3,slN 14 2,slN 3 3,nI 3,nI 6000,nI 800,nI 9000,slN 6 3,slN 7 2,slN 8 2,nI 0,nI 20,nI 10,nI 100,nI 80,nI 0,nI 2],.cells true 0 [nI 3,nI 6000,nI 800,nI 9000,slN 6 3,slN 7 2,slN 8 2,nI 0,nI 20,nI 10,nI 100],.cells true 2 [nI 0,nI 1000,nI 100,nI 800,nI 200,nI 0],.cells true 2 [nI 0,nI 0,nI 200,nI 400],.cells true 2 [nI 0,nI 0,nI 400,nI 2000],.cells true 8 [nI 0,nI 0,nI 0,nI 0,nI 0,nI 0,nI 0,nI 0,nI 0,nI 100,nI 0,nI 150,nI 0,nI 0,nI 0,nI 3,nI 0,nI 0,nI 0,nI 0,nI 0,nI 0,nI 0,nI 0],.cells true 4 [nI 3,nI 1,nI 0,slN 9 3],.dead,.cells true 8 [nI 0,nI 0,nI 0,nI 0,nI 0,nI 0,nI 0,nI 0,nI 0,nI 0,nI 0,nI 0,nI 0,nI 0,nI 0,nI 0,nI 0,nI 0,nI 0,nI 0,nI 0,nI 0,nI 0,nI 0],.cells true 4 [nI 3,nI 1,nI 1,slN 12 3],.cells true 4 [nI 3,nI 1,nI 0,slN 9 3,nI 3,nI 1,nI 1,slN 12 3],.cells true 0 [nI 3,nI 1,slN 2 3,slN 14 2,slN 3 3,nI 3,nI 6000,nI 800,nI 9000,slN 6 3,slN 7 2,slN 8 2,nI 0,nI 20,nI 10,nI 100,nI 80,nI 0,nI 2],.cells true 4 [nI 1,nI 0,nI 160,nI 3,nI 2,nI 3,nI 160,nI 6]]
abbrev Dy:List aa:=[.cells false 0 [nI 4000,nI 8000,nI 14000,nI 24000,nI 40000,nI 90000],.cells true 0 [nI 3,nI 1,slN 2 3,slN 14 2,slN 3 3,nI 3,nI 6000,nI 800,nI 9000,slN 6 3,slN 7 2,slN 8 2,nI 0,nI 20,nI 10,nI 100,nI 80,nI 0,nI 2],.cells true 1 [.bool false,.bool false,.bool false],.cells true 1 [.bool false,.bool false,.bool false],.cells true 0 [nI 3,nI 1,slN 2 3,slN 14 2,slN 3 3,nI 3,nI 6000,nI 800,nI 9000,slN 6 3,slN 7 2,slN 8 2,nI 0,nI 20,nI 10,nI 100,nI 80,nI 0,nI 2],.cells true 0 [nI 3,nI 6000,nI 800,nI 9000,slN 6 3,slN 7 2,slN 8 2,nI 0,nI 20,nI 10,nI 100],.cells true 2 [nI 0,nI 1000,nI 100,nI 800,nI 200,nI 0],.cells true 2 [nI 0,nI 0,nI 200,nI 400],.cells true 2 [nI 0,nI 0,nI 400,nI 2000],.cells true 8 [nI 0,nI 0,nI 0,nI 0,nI 0,nI 0,nI 0,nI 0,nI 0,nI 100,nI 0,nI 150,nI 0,nI 0,nI 0,nI 3,nI 0,nI 0,nI 0,nI 0,nI 0,nI 0,nI 0,nI 0],.cells true 4 [nI 3,nI 1,nI 0,slN 9 3],.dead,.cells true 8 [nI 0,nI 0,nI 0,nI 0,nI 0,nI 0,nI 0,nI 0,nI 0,nI 100,nI 0,nI 150,nI 0,nI 0,nI 0,nI 3,nI 0,nI 0,nI 0,nI 0,nI 0,nI 0,nI 0,nI 0],.cells true 4 [nI 3,nI 1,nI 1,slN 12 3],.cells true 4 [nI 3,nI 1,nI 0,slN 9 3,nI 3,nI 1,nI 1,slN 12 3],.cells true 0 [nI 3,nI 1,slN 2 3,slN 14 2,slN 3 3,nI 3,nI 6000,nI 800,nI 9000,slN 6 3,slN 7 2,slN 8 2,nI 0,nI 20,nI 10,nI 100,nI 80,nI 0,nI 2],.cells true 4 [nI 1,nI 0,nI 160,nI 3,nI 2,nI 3,nI 160,nI 6],.cells true 4 [nI 1,nI 6,nI 160,nI 9,nI 2,nI 9,nI 160,nI 12]]
abbrev Bw:List aa:=[.cells false 0 [nI 4000,nI 8000,nI 14000,nI 24000,nI 40000,nI 90000],.cells true 0 [nI 3,nI 1,slN 2 3,slN 14 2,slN 3 3,nI 3,nI 6000,nI 800,nI 9000,slN 6 3,slN 7 2,slN 8 2,nI 0,nI 20,nI 10,nI 100,nI 80,nI 0,nI 2],.cells true 1 [.bool false,.bool false,.bool false],.cells true 1 [.bool false,.bool false,.bool false],.cells true 0 [nI 3,nI 1,slN 2 3,slN 14 2,slN 3 3,nI 3,nI 6000,nI 800,nI 9000,slN 6 3,slN 7 2,slN 8 2,nI 0,nI 20,nI 10,nI 100,nI 80,nI 0,nI 2],.cells true 0 [nI 3,nI 6000,nI 800,nI 9000,slN 6 3,slN 7 2,slN 8 2,nI 0,nI 20,nI 10,nI 100],.cells true 2 [nI 0,nI 1000,nI 100,nI 800,nI 200,nI 0],.cells true 2 [nI 0,nI 0,nI 200,nI 400],.cells true 2 [nI 0,nI 0,nI 400,nI 2000],.cells true 8 [nI 0,nI 0,nI 0,nI 0,nI 0,nI 0,nI 0,nI 0,nI 0,nI 100,nI 0,nI 150,nI 0,nI 0,nI 0,nI 3,nI 0,nI 0,nI 0,nI 0,nI 0,nI 0,nI 0,nI 0],.cells true 4 [nI 3,nI 1,nI 0,slN 9 3],.dead,.cells true 8 [nI 0,nI 0,nI 0,nI 0,nI 0,nI 0,nI 0,nI 0,nI 0,nI 100,nI 0,nI 150,nI 0,nI 0,nI 0,nI 3,nI 0,nI 0,nI 0,nI 0,nI 0,nI 0,nI 0,nI 0],.cells true 4 [nI 3,nI 1,nI 1,slN 12 3],.cells true 4 [nI 3,nI 1,nI 0,slN 9 3,nI 3,nI 1,nI 1,slN 12 3],.cells true 0 [nI 3,nI 1,slN 2 3,slN 14 2,slN 3 3,nI 3,nI 6000,nI 800,nI 9000,slN 6 3,slN 7 2,slN 8 2,nI 0,nI 20,nI 10,nI 100,nI 80,nI 0,nI 2],.cells true 4 [nI 1,nI 0,nI 160,nI 3,nI 2,nI 3,nI 160,nI 6],.cells true 4 [nI 1,nI 6,nI 160,nI 9,nI 2,nI 9,nI 160,nI 12],.cells true 1 [nI 1]]
abbrev cZ:List Value:=[az,az,az].flatMap cellC
theorem DD(a b:Cell){H:Heap}(h0:H[0]?=some bC)(h2:H[2]?=some (.cells true 1 [.bool false,.bool false,.bool false]))(h3:H[3]?=some (.cells true 1 [.bool false,.bool false,.bool false]))(h6:H[6]?=some (.cells true 2 [nI 0,nI 1000,nI 100,nI 800,nI 200,nI 0]))(h7:H[7]?=some (.cells true 2 [nI 0,nI 0,nI 200,nI 400]))(h8:H[8]?=some (.cells true 2 [nI 0,nI 0,nI 400,nI 2000])) :
  Et H (bg a b) 2 3 6 7 8:=⟨by decide,h0,h2,h3,h6,h7,h8⟩
theorem JP:ad prog 13 [.agg ⟨zd⟩] DC [] (Is (.tuple #[slQ 16 1 2,nI 6,nI 0]) (DC ++ [.cells true 4 [nI 1,nI 0,nI 160,nI 3,nI 2,nI 3,nI 160,nI 6]])):=by
 have k:=xE (p:=bg az az) (fun j => .tuple #[.slice (some ⟨j,0,some 1⟩) (aF (bg az az)).length (aF (bg az az)).length,nI (cE (bg az az)),nI (b8 (bg az az))]) (fun a=>Gb (kj EW).lst EW a) ⟨⟨_,_,rfl,bu _ _⟩,trivial⟩ (H:=pD DC cZ cZ) rfl (DD az az rfl rfl rfl rfl rfl rfl)
 rw[Ix,JH,JK]at k
 exact xe (c9:=cZ) (c12:=cZ) rfl rfl rfl rfl (fun o ho=>by rw[List.mem_singleton.1 ho];exact ⟨rfl,rfl⟩) rfl rfl (k.wkA (Dx _ _ az az rfl rfl))
abbrev cV:List Value:=[az,hvC,az].flatMap cellC
theorem JO:ad prog 13 [.agg ⟨zd⟩] Dz [] (Is (.tuple #[slQ 17 1 2,nI 12,nI 0]) (Dz ++ [.cells true 4 [nI 1,nI 6,nI 160,nI 9,nI 2,nI 9,nI 160,nI 12]])):=by
 have k:=xE (p:=bg hvC az) (fun j => .tuple #[.slice (some ⟨j,0,some 1⟩) (aF (bg hvC az)).length (aF (bg hvC az)).length,nI (cE (bg hvC az)),nI (b8 (bg hvC az))]) (fun a=>Gb (kj EV).lst EV a) ⟨⟨_,_,rfl,bu _ _⟩,trivial⟩ (H:=pD Dz cV cZ) rfl (DD hvC az rfl rfl rfl rfl rfl rfl)
 rw[Iw,JG,JJ]at k
 exact xe (c9:=cV) (c12:=cZ) rfl rfl rfl rfl (fun o ho=>by rw[List.mem_singleton.1 ho];exact ⟨rfl,rfl⟩) rfl rfl (k.wkA (Dx _ _ hvC az rfl rfl))
theorem JM:ad prog 20 [.agg ⟨zd⟩] Dy [] (Is (.tuple #[slQ 18 1 1,nI 0]) (Dy ++ [.cells true 1 [nI 1]])):=by
 have k:=xE (p:=bg hvC hvC) (fun j => .tuple #[.slice (some ⟨j,0,some 1⟩) (wlP (bg hvC hvC)).length (wlP (bg hvC hvC)).length,nI (wlE (bg hvC hvC))]) (fun a=>HO (kj Bs).lst Bs a) ⟨⟨_,_,rfl,cz _ _⟩,trivial⟩ (H:=pD Dy cV cV) rfl (DD hvC hvC rfl rfl rfl rfl rfl rfl)
 rw[It,Ir]at k
 exact xe (c9:=cV) (c12:=cV) rfl rfl rfl rfl (fun o ho=>by rw[List.mem_singleton.1 ho];exact ⟨rfl,rfl⟩) rfl rfl (k.wkA (Dx _ _ hvC hvC rfl rfl))
theorem JL:ad prog 23 [.agg ⟨zd⟩] Bw [] (Is (.tuple #[nI 6,nI 0]) Bw):=by
 have k:=xE (p:=bg hvC hvC) (new:=[]) (fun _ => .tuple #[nI (cE (bB (bg hvC hvC))),nI (b8 (bB (bg hvC hvC)))]) (fun {H l c n t w i} a=>by rw[List.append_nil];exact H8 Bs a) trivial (H:=pD Bw cV cV) rfl (DD hvC hvC rfl rfl rfl rfl rfl rfl)
 rw[JF,JI]at k
 have z:=xe (new:=[]) (c9:=cV) (c12:=cV) rfl rfl rfl rfl (fun o ho=>by cases ho) rfl rfl (k.wkA (Dx _ _ hvC hvC rfl rfl)) (H:=Bw) (vs:=zd) (f:=23) (v:=.tuple #[nI 6,nI 0])
 rw[List.append_nil]at z
 exact z
theorem AX{H:Heap}(h0:H[0]?=some bC):ad prog 10 [] H [] (Is (.bool true) H):=by
 refine gi (os:=[bC]) (ids:=[0]) (Eq.mpr (Hf _) ?_) rfl rfl rfl (fun _=>rfl) (by decide) ⟨h0,trivial⟩ rfl rfl
 delta Ce jpl jpe jph jpm jpn jpo jpp jp2 jpq jpr jps jpt jpg jpi jpu jpv jpw jpx jpy jpz A2 jp9 A1 jpj jp7 jpk jpa jp1 jp6 jpd jpf jpb jpc jp8 jp3 jp4 jp0 jp5 nI slQ slN ac
 refine ⟨?_,fun H' hn h =>?_,?_,fun H' hn h =>?_,?_,fun H' hn h =>?_,?_,fun H' hn h =>?_,rfl⟩
 ·repeat' first|exact trivial|refine ⟨rfl,?_⟩
 ·obtain rfl:H'=DC:=kL h hn
  exact JP
 ·repeat' first|exact trivial|refine ⟨rfl,?_⟩
 ·obtain rfl:H'=Dz:=kL h hn
  exact JO
 ·repeat' first|exact trivial|refine ⟨rfl,?_⟩
 ·obtain rfl:H'=Dy:=kL h hn
  exact JM
 ·repeat' first|exact trivial|refine ⟨rfl,?_⟩
 ·obtain rfl:H'=Bw:=kL h hn
  exact JL
def wtW(L:List Int)(n:Int):Int:=2+dN L n 5
def wtH(L:List Int)(n:Int):Int:=2+dN L (n+1) 4
def wtC(L:List Int)(n:Int)(i:Nat):Bool:=decide (0<i)&&(dN L (n+1+(i:Int)) 7 == 0)
def wtL(L:List Int)(n:Int)(k:Nat):List Bool:=(List.range k).map (wtC L n)
def wtK(L:List Int)(n:Int):Nat:=Int.toNat (wtW L n*wtH L n)
def wtD(n:Int):Nat->Int
 |0=>n+2
 |k+1=>n+2+(k:Int)
theorem rQ(L:List Int)(n:Int)(k:Nat):wtL L n (k+1)=wtL L n k ++ [wtC L n k]:=by unfold wtL;rw[List.range_succ,List.map_append];rfl
theorem wA(L:List Int)(n:Int)(k:Nat):(wtL L n k).length=k:=by unfold wtL;simp
theorem zq(L:List Int)(n:Int):(2<=wtW L n/\wtW L n<=6)/\2<=wtH L n/\wtH L n<=5:=by
 have h1:=eK L n (m:=5) (by omega)
 have h2:=eK L (n+1) (m:=4) (by omega)
 unfold wtW wtH
 omega
theorem zp(L:List Int)(n:Int):4<=wtW L n*wtH L n/\wtW L n*wtH L n<=30:=by
 obtain ⟨h1,h2⟩:=zq L n
 have a:2*2<=wtW L n*wtH L n:=Int.mul_le_mul h1.1 h2.1 (by omega) (by omega)
 have b:wtW L n*wtH L n<=6*5:=Int.mul_le_mul h1.2 h2.2 (by omega) (by omega)
 omega
abbrev u8C(x:Int):List Value:=[.int .u8 x]
def rB(l:List Int):Prop:=∀x∈l,0<=x/\x<=255
structure eD(l:List Pt)(way:Int)(k:Nat)(x y:Int):Prop where
 len:l.length=k+1
 z:(l.getD 0 zP).1=0
 last:l.getD k zP=(x,y)
 pt:∀i,i<=k->gZ l i=true
 st:∀i,i<=k->kf l way i=true
theorem nP{l:List Pt}{q:Pt}{i:Nat}(h:i<l.length):(l ++ [q]).getD i zP=l.getD i zP:=by
 rw[List.getD_eq_getElem?_getD,List.getD_eq_getElem?_getD,List.getElem?_append_left h]
theorem Bm{l:List Pt}{q:Pt}:(l ++ [q]).getD l.length zP=q:=by
 rw[List.getD_eq_getElem?_getD,List.getElem?_append_right (Nat.le_refl _),Nat.sub_self];rfl
theorem eD.one{way x y:Int}(hx:x=0)(hy:0<=y/\y<=20000):eD [(x,y)] way 0 x y:=by
 subst hx
 refine ⟨rfl,rfl,rfl,fun i hi =>?_,fun i hi =>?_⟩
 ·obtain rfl:i=0:=by omega
  show (inB 0 0 400&&inB y 0 20000 && !(decide (0<0)&&_))=true
  rw[aR.2 (show (0:Int)<=0/\(0:Int)<=400 by omega),aR.2 hy];rfl
 ·obtain rfl:i=0:=by omega
  rfl
theorem eD.more{l:List Pt}{way x y x' y':Int}{k:Nat}(c:eD l way k x y)(hx:x<x'/\x'<=400)(h0:0<=x')(hy:0<=y'/\y'<=20000)(hw:0<=(y'-y)*way):eD (l ++ [(x',y')]) way (k+1) x' y':=by
 have hl:=c.len
 have e1:(l ++ [(x',y')]).getD (k+1) zP=(x',y'):=by rw[<- hl];exact Bm
 have e0:∀i,i<=k->(l ++ [(x',y')]).getD i zP=l.getD i zP:=fun i hi=>nP (by omega)
 refine ⟨by rw[List.length_append,hl];rfl,by rw[e0 0 (by omega)];exact c.z,e1,fun i hi =>?_,fun i hi =>?_⟩
 ·by_cases e:i=k+1
  ·subst e
   unfold gZ
   rw[e1,show k+1-1=k from rfl,e0 k (Nat.le_refl _),c.last,aR.2 (show 0<=x'/\x'<=400 by omega),aR.2 hy,decide_eq_false (show ¬ x'<=x by omega),Bool.and_false];rfl
  ·have:=c.pt i (by omega)
   unfold gZ at this ⊢
   rw[e0 i (by omega),e0 (i-1) (by omega)];exact this
 ·by_cases e:i=k+1
  ·subst e
   unfold kf
   rw[e1,show k+1-1=k from rfl,e0 k (Nat.le_refl _),c.last,decide_eq_false (show ¬ (y'-y)*way<0 by omega)]
   simp
  ·have:=c.st i (by omega)
   unfold kf at this ⊢
   rw[e0 i (by omega),e0 (i-1) (by omega)];exact this
theorem eD.ok{l:List Pt}{way x y:Int}{k:Nat}(c:eD l way k x y)(h1:1<=k)(h2:k<=7):cF l way=true/\c8 l=x:=by
 have hl:=c.len
 refine ⟨?_,by unfold c8;rw[hl,Nat.add_sub_cancel,c.last]⟩
 unfold cF lA
 rw[aR.2 (show (2:Int)<=(l.length:Int)/\(l.length:Int)<=8 by omega),c.z]
 have a:(List.range l.length).all (gZ l)=true:=by
  rw[List.all_eq_true];intro i hi;exact c.pt i (by have:=List.mem_range.1 hi;omega)
 have b:(List.range l.length).all (kf l way)=true:=by
  rw[List.all_eq_true];intro i hi;exact c.st i (by have:=List.mem_range.1 hi;omega)
 rw[a,b];rfl
def byL(L:List Int)(n:Int)(k:Nat):List Int:=(List.range k).map fun (j:Nat)=>dN L (n+1+(j:Int)) 256
theorem BF(L:List Int)(n:Int)(k:Nat):byL L n (k+1)=byL L n k ++ [dN L (n+1+(k:Int)) 256]:=by unfold byL;rw[List.range_succ,List.map_append];rfl
theorem xF(L:List Int)(n:Int)(k:Nat):(byL L n k).length=k:=by unfold byL;simp
theorem GE(L:List Int)(n:Int)(k:Nat):rB (byL L n k):=by
 intro x hx
 unfold byL at hx
 obtain ⟨j,_,rfl⟩:=List.mem_map.1 hx
 have:=eK L (n+1+(j:Int)) (m:=256) (by omega)
 omega
def eY(nl:Nat)(l:List Cell):Prop:=l.length=nl/\∀k,k<l.length->bk (l.getD k az)
def wy(w h b:Int)(nl:Nat)(cs:List Cht):Prop:=∀i,i<cs.length->(cs.getD i zCh).w=w/\(cs.getD i zCh).h=h/\(cs.getD i zCh).hr=b+(i:Int)/\eY nl (cs.getD i zCh).cells
abbrev jr0(L:List Int):Value:=.agg ⟨(L.flatMap bc)⟩
abbrev jr3(L:List Int)(n:Int):List Value:=[.iface (L.length+1) (jr0 L),nI (n+1)]
abbrev jr9(L:List Int)(n:Int):List Value:=[.iface (L.length+1) (jr0 L),nI ((n+1)+1)]
abbrev jr5:Prop:=eR (pt 1)/\eR (pt 2)/\eR (pt 3)/\True
abbrev jr2(L:List Int)(n:Int)(x2:Nat):List Value:=[.iface (L.length+1) (jr0 L),nI (wtD n x2)]
abbrev jr6(L:List Int)(n:Int)(x2:Nat):Prop:=(wtL L n x2).length<=(wtL L n x2).length/\0+(wtL L n x2).length*1<=List.length ((wtL L n x2).flatMap af)
abbrev jr1(L:List Int)(n:Int)(x2 x2':Nat):Prop:=wkO (.cells true 0 [nI (wtW L n),nI (wtH L n),slN 6 ((wtL L n x2).length+1)]:aa) (rno (sg 4 [(4,6)]) 3 (.cells true 0 [nI (wtW L n),nI (wtH L n),slQ 4 1 (wtL L n x2').length]:aa))/\True
abbrev jr8:List Value:=[.bool false]
def xO(L:List Int)(n:Int):Prop :=
 (((ac (.cells true 0 [.iface (L.length+1) (jr0 L),nI n]))/\True)/\(∀H':Heap,H'.length=3->(H'[1]?=some (.cells true 0 [.iface (L.length+1) (jr0 L),nI n]:aa)/\True)->ad prog 89 [pt 1,nI 5] H' [1] (Is (nI (dN L n 5)) (List.set H' 1 (.cells true 0 (jr3 L n):aa))))/\(nw (2+(dN L n 5)) (((ac (.cells true 0 (jr3 L n)))/\True)/\(∀H':Heap,H'.length=3->(H'[1]?=some (.cells true 0 (jr3 L n):aa)/\True)->ad prog 89 [pt 1,nI 4] H' [1] (Is (nI (dN L (n+1) 4)) (List.set H' 1 (.cells true 0 (jr9 L n):aa))))/\(nw (2+(dN L (n+1) 4)) (((nI (2+(dN L n 5)):Value)=nI (wtW L n))/\(((nI (2+(dN L (n+1) 4)):Value)=nI (wtH L n))/\(lq (0<=wtK L n) (true=true/\((nI 0:Value)=nI ((0:Nat):Int)/\jr5)/\((kbq 4 (.cells true 0 (jr9 L n)) (.cells true 0 [.iface (L.length+1) (jr0 L),nI (wtD n 0)]))/\wkO (.cells true 0 [nI (2+(dN L n 5)),nI (2+(dN L (n+1) 4)),.slice none 0 0]:aa) (rno (sg 4 []) 3 (.cells true 0 [nI (wtW L n),nI (wtH L n),slQ 4 1 (wtL L n 0).length]:aa))/\True)/\(True/\True)/\(True)) (∀x2:Nat,(x2<=wtK L n)->(nw ((wtW L n)*(wtH L n)) (fk (decide (((x2:Int):Int)<((wtW L n)*(wtH L n)))) (fk (decide ((0:Int)<(x2:Int))) (((ac (.cells true 0 (jr2 L n x2)))/\True)/\(∀H':Heap,H'.length=5->(H'[1]?=some (.cells true 0 (jr2 L n x2):aa)/\True)->ad prog 89 [pt 1,nI 7] H' [1] (Is (nI (dN L (wtD n x2) 7)) (List.set H' 1 (.cells true 0 [.iface (L.length+1) (jr0 L),nI ((wtD n x2)+1)]:aa))))/\((((wtL L n x2).length+1)*1<=2 ^ 44/\1≠0/\(jr6 L n x2)/\(1<=1/\0+1*1<=List.length ([.bool (((dN L (wtD n x2) 7):Int) == 0)]:List Value))/\(((([.bool (((dN L (wtD n x2) 7):Int) == 0)]:List Value).drop 0).take (1*1)):List Value).all (fun v=>dz v)=true)/\true=true/\(nw ((x2:Int)+1) (∃x2':Nat,(x2'<=wtK L n)/\(wtK L n-x2')<(wtK L n-x2)/\true=true/\((nI ((x2:Int)+1):Value)=nI (x2':Int)/\jr5)/\((kbq 4 (.cells true 0 [.iface (L.length+1) (jr0 L),nI ((wtD n x2)+1)]) (.cells true 0 [.iface (L.length+1) (jr0 L),nI (wtD n x2')]))/\jr1 L n x2 x2')/\((kbq 4 (.cells true 1 (((((wtL L n x2).flatMap af).drop 0).take ((wtL L n x2).length*1))++((([.bool (((dN L (wtD n x2) 7):Int) == 0)]:List Value).drop 0).take (1*1)))) (.cells true 1 ((wtL L n x2').flatMap af)))/\True)/\(True))))) ((((wtL L n x2).length+1)*1<=2 ^ 44/\1≠0/\(jr6 L n x2)/\(1<=1/\0+1*1<=List.length jr8)/\(((jr8.drop 0).take (1*1)):List Value).all (fun v=>dz v)=true)/\true=true/\(nw ((x2:Int)+1) (∃x2':Nat,(x2'<=wtK L n)/\(wtK L n-x2')<(wtK L n-x2)/\true=true/\((nI ((x2:Int)+1):Value)=nI (x2':Int)/\jr5)/\((kbq 4 (.cells true 0 (jr2 L n x2)) (.cells true 0 [.iface (L.length+1) (jr0 L),nI (wtD n x2')]))/\jr1 L n x2 x2')/\((kbq 4 (.cells true 1 (((((wtL L n x2).flatMap af).drop 0).take ((wtL L n x2).length*1))++((jr8.drop 0).take (1*1)))) (.cells true 1 ((wtL L n x2').flatMap af)))/\True)/\(True))))) (∃x:Unit,True/\(true=true/\wk (.agg #[nI (wtW L n),nI (wtH L n),slQ 4 1 (wtL L n x2).length]:Value) (rn (sg 2 [(2,4)]) 3 (.agg #[nI (wtW L n),nI (wtH L n),slQ 2 1 (wtL L n (wtK L n)).length]:Value))/\((kbq 2 (.cells true 0 (jr2 L n x2)) (.cells true 0 [.iface (L.length+1) (jr0 L),nI (wtD n (wtK L n))]))/\True)/\((kbq 2 (.cells true 1 ((wtL L n x2).flatMap af)) (.cells true 1 ((wtL L n (wtK L n)).flatMap af)))/\True)))))))))))))
abbrev jr4(L:List Int)(n:Int):=aG [.cells false 0 [nI 4000,nI 8000,nI 14000,nI 24000,nI 40000,nI 90000],.cells true 0 [.iface (L.length+1) (jr0 L),nI n]]
abbrev jr7(x2:Nat):Hint:=.need (.go 3 (.slot 20 (nI ((x2:Int)+1)) (.go 0 (.again [(4,6)]))))
theorem Ec(L:List Int)(n:Int):vF prog msk (dm 0) 100000 true 40 true 87 [pt 1] (jr4 L n) (some [1])
 (.go 1 (.dw [(1,.cells true 0 [.iface (L.length+1) (jr0 L),nI n])] (nI (dN L n 5)) [(1,.cells true 0 (jr3 L n))] [] (.go 0 (.slot 7 (nI (2+(dN L n 5))) (.go 0 (.dw [(1,.cells true 0 (jr3 L n))] (nI (dN L (n+1) 4)) [(1,.cells true 0 (jr9 L n))] [] (.go 0 (.slot 10 (nI (2+(dN L (n+1) 4))) (.go 0 (.slot 7 (nI (wtW L n)) (.slot 10 (nI (wtH L n)) (.go 2 (.inv 3 (Nat) (0) [] [1,3] (fun x2=>[(4,nI (x2:Int)),(0,pt 1),(2,pt 2),(3,pt 3)]) (fun x2=>[(1,true,.cells true 0 (jr2 L n x2)),(3,false,.cells true 0 [nI (wtW L n),nI (wtH L n),slQ 4 1 (wtL L n x2).length])]) (fun x2=>[(true,.cells true 1 ((wtL L n x2).flatMap af))]) (fun x2=>[]) (fun x2=>(x2<=wtK L n)) (fun x2=>(wtK L n-x2)) (fun x2 => .go 5 (.slot 17 (nI ((wtW L n)*(wtH L n))) (.go 0 (.fork (.go 4 (.aM (.go 0 (.dw [(1,.cells true 0 (jr2 L n x2))] (nI (dN L (wtD n x2) 7)) [(1,.cells true 0 [.iface (L.length+1) (jr0 L),nI ((wtD n x2)+1)])] [] (.go 2 (jr7 x2)))) (.go 1 (jr7 x2)))) (.go 1 (.keep (.again [(2,4)]))))))))))))))))))))
 (cK (α:=Unit) ((jr4 L n):HT).n 3 [1] (fun x=>True) (fun x => .agg #[nI (wtW L n),nI (wtH L n),slQ 2 1 (wtL L n (wtK L n)).length]) (fun x=>[(1,true,.cells true 0 [.iface (L.length+1) (jr0 L),nI (wtD n (wtK L n))])]) (fun x=>[(true,.cells true 1 ((wtL L n (wtK L n)).flatMap af))]))=xO L n:=by kernel_rfl
abbrev dgO(L:List Int)(n:Int):aa:=.cells true 0 (ug L n)
theorem v8(L:List Int)(n:Int):Ea (dgO L n):=HF (aZ 0 L n)
theorem Gy(L:List Int)(n:Int)(σ:Nat->Option Nat):rno σ 3 (dgO L n)=dgO L n:=(v8 L n).rn σ
abbrev DJ(L:List Int)(n:Int):List aa:=[bC,dgO L n]
theorem DI(L:List Int)(n:Int):(DJ L n).all (am 3)=true:=by
 show (am 3 bC&&(am 3 (dgO L n)&&true))=true
 rw[(v8 L n).ok];rfl
theorem zD{f:FuncId}{args:List Value}{L:List Int}{n:Int}{h:Hint}{α:Type}{I:α->Prop}(v:α->Nat->Value){d:α->Int}{new:α->List aa}
  (hc:vF prog msk (dm 0) 100000 true 40 true f args (aG (DJ L n)) (some [1]) h (cK (α:=α) (aG (DJ L n)).n 3 [1] I (fun x=>v x 2) (fun x=>[(1,true,dgO L (d x))]) (fun x=>(new x).map fun o=>(true,o))))
  (hv:∀x,I x->cm 3 (v x 2)=true) (hn:∀x,I x->f9 (new x)) {H:Heap} {D:Nat} (hD:D≠0) (h3:∀x j,I x->rn (bA (sgI [0,D]) 2 j) 3 (v x 2)=v x j) (h0:H[0]?=some bC) (h1:H[D]?=some (dgO L n)) {args':List Value} (ha:args.map (rn (sgI [0,D]) 3)=args') :
  ad prog f args' H [D] (fun y H2 => ∃x,I x/\y=v x H.length/\H2=H.set D (dgO L (d x))++new x) :=
 lI (os:=DJ L n) (ids:=[0,D]) v (chg:=fun x=>[(1,true,dgO L (d x))]) (new:=new) (ks:=[1]) hc (DI L n) (fun k hk=>by obtain rfl:=List.mem_singleton.1 hk;exact ⟨_,rfl,rfl⟩) hv (fun x _=>⟨⟨List.mem_singleton.2 rfl,v8 L _⟩,trivial⟩) hn (by simp[Ne.symm hD]) ⟨h0,by rw[Gy];exact h1,trivial⟩ rfl h3 ha (ms:=[D]) rfl
theorem bq{L:List Int}{n m:Int}(hn:0<=n/\n<=1000000000)(hm:1<=m/\m<=1000000000){H:Heap}(hH:1<=H.length){D:Nat}(hD:H[D]?=some (dgO L n)):ad prog 89 [pt D,nI m] H [D] (Is (nI (dN L n m)) (H.set D (dgO L (n+1)))):=HW L n m hn hm hH hD
theorem CP{L:List Int}{n:Int}(hn:0<=n/\n<=900000000){H:Heap}{D:Nat}(hD:D≠0)(h0:H[0]?=some bC)(h1:H[D]?=some (dgO L n)) :
  ad prog 87 [pt D] H [D] (fun y H2 => ∃x:Unit,True/\y = .agg #[nI (wtW L n),nI (wtH L n),.slice (some ⟨H.length,0,some 1⟩) (wtL L n (wtK L n)).length (wtL L n (wtK L n)).length]/\H2=H.set D (dgO L (wtD n (wtK L n))) ++ [.cells true 1 ((wtL L n (wtK L n)).flatMap af)]):=by
 refine zD (α:=Unit) (I:=fun _=>True) (fun _ j => .agg #[nI (wtW L n),nI (wtH L n),.slice (some ⟨j,0,some 1⟩) (wtL L n (wtK L n)).length (wtL L n (wtK L n)).length]) (d:=fun _=>wtD n (wtK L n)) (new:=fun _=>[.cells true 1 ((wtL L n (wtK L n)).flatMap af)]) (Eq.mpr (Ec L n) ?_) (fun _ _=>rfl) (fun _ _=>⟨⟨_,_,rfl,bW _ _⟩,trivial⟩) hD (fun _ _ _=>rfl) h0 h1 rfl
 have hb:=zq L n
 have hm:=zp L n
 have hk:wtK L n=Int.toNat (wtW L n*wtH L n):=rfl
 have b1:=eK L n (m:=5) (by omega)
 have b2:=eK L (n+1) (m:=4) (by omega)
 delta xO jr0 jr3 jr9 jr5 jr2 jr6 jr1 jr8 nI slQ pt slN ac fk nw eR kbq lq
 refine ⟨⟨rfl,trivial⟩,fun H' hl h=>bq (by omega) (by omega) (by omega) h.1,ak (by omega),⟨rfl,trivial⟩,fun H' hl h=>bq (by omega) (by omega) (by omega) h.1,ak (by omega),rfl,rfl,rfl,Nat.zero_le _,⟨rfl,?_⟩,fun _=>rfl,fun x2 hx2=>⟨ak (by omega),fun q =>?_,fun q =>?_⟩⟩
 ·rw[show n+1+1=wtD n 0 by show _=n+2;omega]
  repeat' first|exact aZ _ _ _|exact trivial|exact ae _|refine aN ?_|refine aS ?_ ?_|exact ef _ _ _ (.inl rfl)|refine ⟨rfl,?_⟩|refine ⟨trivial,?_⟩|apply And.intro
 ·have h2:=of_decide_eq_true q
  have hl:=wA L n x2
  refine ⟨fun r =>?_,fun r =>?_⟩
  ·have hr:=of_decide_eq_true r
   obtain ⟨k,rfl⟩:∃k,x2=k+1:=⟨x2-1,by omega⟩
   have e0:wtD n (k+1)=n+2+(k:Int):=rfl
   have e1:wtD n (k+1)+1=wtD n (k+1+1):=by show n+2+(k:Int)+1=n+2+((k+1:Nat):Int);omega
   have ec:wtC L n (k+1)=(dN L (wtD n (k+1)) 7 == 0):=by
    unfold wtC
    rw[decide_eq_true (Nat.succ_pos k),Bool.true_and,show n+1+((k+1:Nat):Int)=wtD n (k+1) by rw[e0];omega]
   have yes:wtL L n (k+1+1)=wtL L n (k+1) ++ [dN L (wtD n (k+1)) 7 == 0]:=by rw[rQ,ec]
   refine ⟨⟨rfl,trivial⟩,fun H' hl h=>bq (by omega) (by omega) (by omega) h.1,⟨by omega,by decide,⟨Nat.le_refl _,by rw[aP bF];omega⟩,⟨Nat.le_refl _,by simp⟩,rfl⟩,rfl,ak (by omega),k+1+1,by omega,by omega,rfl,?_⟩
   rw[e1]
   repeat' first|exact aZ _ _ _|exact cv yes|exact cA bF yes rfl|exact bW _ _|exact trivial|exact ae _|refine aN ?_|refine aS ?_ ?_|refine ⟨rfl,?_⟩|apply And.intro
  ·have hr:=of_decide_eq_false r
   obtain rfl:x2=0:=by omega
   have yes:wtL L n (0+1)=wtL L n 0 ++ [false]:=by rw[rQ];rfl
   have e1:wtD n 0=wtD n (0+1):=by show n+2=n+2+((0:Nat):Int);omega
   refine ⟨⟨by omega,by decide,⟨Nat.le_refl _,by rw[aP bF];omega⟩,⟨Nat.le_refl _,by simp⟩,rfl⟩,rfl,ak (by omega),0+1,by omega,by omega,rfl,?_⟩
   rw[e1]
   repeat' first|exact aZ _ _ _|exact cv yes|exact bW _ _|exact trivial|exact ae _|refine aN ?_|refine aS ?_ ?_|refine ⟨rfl,?_⟩|apply And.intro
 ·have h2:=of_decide_eq_false q
  rw[show x2=wtK L n by omega]
  refine ⟨(),trivial,?_⟩
  repeat' first|exact aZ _ _ _|exact bW _ _|exact trivial|exact ae _|refine ⟨rfl,?_⟩|apply And.intro
abbrev js0(L:List Int):Value:=.agg ⟨(L.flatMap bc)⟩
abbrev jsc(L:List Int)(n:Int):List Value:=[.iface (L.length+1) (js0 L),nI (n+1)]
abbrev jso(x:Cell×Int)(n:Int):Prop:=bk x.1/\n<=x.2/\x.2<=n+9
abbrev js9(x:Cell×Int):=rn (sg 2 []) 3 (.agg #[nI x.1.ap.lo,nI x.1.ap.hi,nI x.1.ag.lo,nI x.1.ag.hi,nI x.1.ai.lo,nI x.1.ai.hi,nI x.1.ah.lo,nI x.1.ah.hi]:Value)
abbrev js8(L:List Int)(n:Int):List Value:=[.iface (L.length+1) (js0 L),nI ((n+1)+1)]
abbrev js6(L:List Int)(n:Int):List Value:=[.iface (L.length+1) (js0 L),nI (((n+1)+1)+1)]
abbrev jsj(L:List Int)(n:Int):=dN L (((n+1)+1)+1) 251
abbrev js5(L:List Int)(n:Int):List Value:=[.iface (L.length+1) (js0 L),nI ((((n+1)+1)+1)+1)]
abbrev jsl(L:List Int)(n:Int):=dN L ((((n+1)+1)+1)+1) 101
abbrev js4(L:List Int)(n:Int):List Value:=[.iface (L.length+1) (js0 L),nI (((((n+1)+1)+1)+1)+1)]
abbrev jsf(L:List Int)(n:Int):=dN L (((((n+1)+1)+1)+1)+1) 21
abbrev js3(L:List Int)(n:Int):List Value:=[.iface (L.length+1) (js0 L),nI ((((((n+1)+1)+1)+1)+1)+1)]
abbrev jsh(L:List Int)(n:Int):=dN L ((((((n+1)+1)+1)+1)+1)+1) 21
abbrev js2(L:List Int)(n:Int):List Value:=[.iface (L.length+1) (js0 L),nI (((((((n+1)+1)+1)+1)+1)+1)+1)]
abbrev jsa(L:List Int)(n:Int):=dN L (((((((n+1)+1)+1)+1)+1)+1)+1) 4
abbrev js1(L:List Int)(n:Int):List Value:=[.iface (L.length+1) (js0 L),nI ((((((((n+1)+1)+1)+1)+1)+1)+1)+1)]
abbrev jsd(L:List Int)(n:Int):=dN L ((((((((n+1)+1)+1)+1)+1)+1)+1)+1) 4
abbrev js7(L:List Int)(n:Int):List Value:=[.iface (L.length+1) (js0 L),nI (((((((((n+1)+1)+1)+1)+1)+1)+1)+1)+1)]
abbrev jsp(L:List Int)(n:Int)(x:Cell×Int):Prop:=((kbq 2 (.cells true 0 (js7 L n)) (.cells true 0 [.iface (L.length+1) (js0 L),nI x.2]))/\True)/\(True)
abbrev jsk(L:List Int)(n:Int):=dN L (((n+1)+1)+1) 61
abbrev jsn(L:List Int)(n:Int):=dN L ((((n+1)+1)+1)+1) 31
abbrev jsg(L:List Int)(n:Int):=dN L (((((n+1)+1)+1)+1)+1) 5
abbrev jsi(L:List Int)(n:Int):=dN L ((((((n+1)+1)+1)+1)+1)+1) 5
abbrev jsb(L:List Int)(n:Int):=dN L (((((((n+1)+1)+1)+1)+1)+1)+1) 2
abbrev jse(L:List Int)(n:Int):=dN L ((((((((n+1)+1)+1)+1)+1)+1)+1)+1) 2
def Fg(L:List Int)(n:Int):Prop :=
 (((ac (.cells true 0 [.iface (L.length+1) (js0 L),nI n]))/\True)/\(∀H':Heap,H'.length=4->(H'[1]?=some (.cells true 0 [.iface (L.length+1) (js0 L),nI n]:aa)/\True)->ad prog 89 [pt 1,nI 4] H' [1] (Is (nI (dN L n 4)) (List.set H' 1 (.cells true 0 (jsc L n):aa))))/\(fk (((dN L n 4):Int) == 0) (∃x:Cell×Int,(jso x n)/\(true=true/\wk (.agg #[nI 0,nI 0,nI 0,nI 0,nI 0,nI 0,nI 0,nI 0]:Value) (js9 x)/\((kbq 2 (.cells true 0 (jsc L n)) (.cells true 0 [.iface (L.length+1) (js0 L),nI x.2]))/\True)/\(True))) (fk (((dN L n 4):Int) == 1) (((ac (.cells true 0 (jsc L n)))/\True)/\(∀H':Heap,H'.length=5->(H'[1]?=some (.cells true 0 (jsc L n):aa)/\True)->ad prog 89 [pt 1,nI 101] H' [1] (Is (nI (dN L (n+1) 101)) (List.set H' 1 (.cells true 0 (js8 L n):aa))))/\(((ac (.cells true 0 (js8 L n)))/\True)/\(∀H':Heap,H'.length=5->(H'[1]?=some (.cells true 0 (js8 L n):aa)/\True)->ad prog 89 [pt 1,nI 31] H' [1] (Is (nI (dN L ((n+1)+1) 31)) (List.set H' 1 (.cells true 0 (js6 L n):aa))))/\(nw ((dN L (n+1) 101)+(dN L ((n+1)+1) 31)) (((ac (.cells true 0 (js6 L n)))/\True)/\(∀H':Heap,H'.length=6->(H'[1]?=some (.cells true 0 (js6 L n):aa)/\True)->ad prog 89 [pt 1,nI 251] H' [1] (Is (nI (jsj L n)) (List.set H' 1 (.cells true 0 (js5 L n):aa))))/\(((ac (.cells true 0 (js5 L n)))/\True)/\(∀H':Heap,H'.length=6->(H'[1]?=some (.cells true 0 (js5 L n):aa)/\True)->ad prog 89 [pt 1,nI 101] H' [1] (Is (nI (jsl L n)) (List.set H' 1 (.cells true 0 (js4 L n):aa))))/\(nw ((jsj L n)+(jsl L n)) (((ac (.cells true 0 (js4 L n)))/\True)/\(∀H':Heap,H'.length=7->(H'[1]?=some (.cells true 0 (js4 L n):aa)/\True)->ad prog 89 [pt 1,nI 21] H' [1] (Is (nI (jsf L n)) (List.set H' 1 (.cells true 0 (js3 L n):aa))))/\(((ac (.cells true 0 (js3 L n)))/\True)/\(∀H':Heap,H'.length=7->(H'[1]?=some (.cells true 0 (js3 L n):aa)/\True)->ad prog 89 [pt 1,nI 21] H' [1] (Is (nI (jsh L n)) (List.set H' 1 (.cells true 0 (js2 L n):aa))))/\(nw ((jsf L n)+(jsh L n)) (((ac (.cells true 0 (js2 L n)))/\True)/\(∀H':Heap,H'.length=8->(H'[1]?=some (.cells true 0 (js2 L n):aa)/\True)->ad prog 89 [pt 1,nI 4] H' [1] (Is (nI (jsa L n)) (List.set H' 1 (.cells true 0 (js1 L n):aa))))/\(((ac (.cells true 0 (js1 L n)))/\True)/\(∀H':Heap,H'.length=8->(H'[1]?=some (.cells true 0 (js1 L n):aa)/\True)->ad prog 89 [pt 1,nI 4] H' [1] (Is (nI (jsd L n)) (List.set H' 1 (.cells true 0 (js7 L n):aa))))/\(nw ((jsa L n)+(jsd L n)) (∃x:Cell×Int,(jso x n)/\(true=true/\wk (.agg #[nI (if (100:Int)<(dN L (n+1) 101) then (100:Int) else (dN L (n+1) 101)),nI (if (100:Int)<((dN L (n+1) 101)+(dN L ((n+1)+1) 31)) then (100:Int) else ((dN L (n+1) 101)+(dN L ((n+1)+1) 31))),nI (if (400:Int)<(jsj L n) then (400:Int) else (jsj L n)),nI (if (400:Int)<((jsj L n)+(jsl L n)) then (400:Int) else ((jsj L n)+(jsl L n))),nI (if (100:Int)<(jsf L n) then (100:Int) else (jsf L n)),nI (if (100:Int)<((jsf L n)+(jsh L n)) then (100:Int) else ((jsf L n)+(jsh L n))),nI (if (3:Int)<(jsa L n) then (3:Int) else (jsa L n)),nI (if (3:Int)<((jsa L n)+(jsd L n)) then (3:Int) else ((jsa L n)+(jsd L n)))]:Value) (js9 x)/\jsp L n x)))))))))))))) (((ac (.cells true 0 (jsc L n)))/\True)/\(∀H':Heap,H'.length=5->(H'[1]?=some (.cells true 0 (jsc L n):aa)/\True)->ad prog 89 [pt 1,nI 61] H' [1] (Is (nI (dN L (n+1) 61)) (List.set H' 1 (.cells true 0 (js8 L n):aa))))/\(((ac (.cells true 0 (js8 L n)))/\True)/\(∀H':Heap,H'.length=5->(H'[1]?=some (.cells true 0 (js8 L n):aa)/\True)->ad prog 89 [pt 1,nI 41] H' [1] (Is (nI (dN L ((n+1)+1) 41)) (List.set H' 1 (.cells true 0 (js6 L n):aa))))/\(nw ((dN L (n+1) 61)+(dN L ((n+1)+1) 41)) (((ac (.cells true 0 (js6 L n)))/\True)/\(∀H':Heap,H'.length=6->(H'[1]?=some (.cells true 0 (js6 L n):aa)/\True)->ad prog 89 [pt 1,nI 61] H' [1] (Is (nI (jsk L n)) (List.set H' 1 (.cells true 0 (js5 L n):aa))))/\(((ac (.cells true 0 (js5 L n)))/\True)/\(∀H':Heap,H'.length=6->(H'[1]?=some (.cells true 0 (js5 L n):aa)/\True)->ad prog 89 [pt 1,nI 31] H' [1] (Is (nI (jsn L n)) (List.set H' 1 (.cells true 0 (js4 L n):aa))))/\(nw ((jsk L n)+(jsn L n)) (((ac (.cells true 0 (js4 L n)))/\True)/\(∀H':Heap,H'.length=7->(H'[1]?=some (.cells true 0 (js4 L n):aa)/\True)->ad prog 89 [pt 1,nI 5] H' [1] (Is (nI (jsg L n)) (List.set H' 1 (.cells true 0 (js3 L n):aa))))/\(((ac (.cells true 0 (js3 L n)))/\True)/\(∀H':Heap,H'.length=7->(H'[1]?=some (.cells true 0 (js3 L n):aa)/\True)->ad prog 89 [pt 1,nI 5] H' [1] (Is (nI (jsi L n)) (List.set H' 1 (.cells true 0 (js2 L n):aa))))/\(nw ((jsg L n)+(jsi L n)) (((ac (.cells true 0 (js2 L n)))/\True)/\(∀H':Heap,H'.length=8->(H'[1]?=some (.cells true 0 (js2 L n):aa)/\True)->ad prog 89 [pt 1,nI 2] H' [1] (Is (nI (jsb L n)) (List.set H' 1 (.cells true 0 (js1 L n):aa))))/\(((ac (.cells true 0 (js1 L n)))/\True)/\(∀H':Heap,H'.length=8->(H'[1]?=some (.cells true 0 (js1 L n):aa)/\True)->ad prog 89 [pt 1,nI 2] H' [1] (Is (nI (jse L n)) (List.set H' 1 (.cells true 0 (js7 L n):aa))))/\(nw ((jsb L n)+(jse L n)) (∃x:Cell×Int,(jso x n)/\(true=true/\wk (.agg #[nI (if (100:Int)<(dN L (n+1) 61) then (100:Int) else (dN L (n+1) 61)),nI (if (100:Int)<((dN L (n+1) 61)+(dN L ((n+1)+1) 41)) then (100:Int) else ((dN L (n+1) 61)+(dN L ((n+1)+1) 41))),nI (if (400:Int)<(jsk L n) then (400:Int) else (jsk L n)),nI (if (400:Int)<((jsk L n)+(jsn L n)) then (400:Int) else ((jsk L n)+(jsn L n))),nI (if (100:Int)<(jsg L n) then (100:Int) else (jsg L n)),nI (if (100:Int)<((jsg L n)+(jsi L n)) then (100:Int) else ((jsg L n)+(jsi L n))),nI (if (3:Int)<(jsb L n) then (3:Int) else (jsb L n)),nI (if (3:Int)<((jsb L n)+(jse L n)) then (3:Int) else ((jsb L n)+(jse L n)))]:Value) (js9 x)/\jsp L n x)))))))))))))))))
abbrev jsm(L:List Int)(n:Int):=aG [.cells false 0 [nI 4000,nI 8000,nI 14000,nI 24000,nI 40000,nI 90000],.cells true 0 [.iface (L.length+1) (js0 L),nI n]]
theorem Ja(L:List Int)(n:Int):vF prog msk (dm 0) 100000 true 40 true 90 [pt 1] (jsm L n) (some [1])
 (.go 4 (.dw [(1,.cells true 0 [.iface (L.length+1) (js0 L),nI n])] (nI (dN L n 4)) [(1,.cells true 0 (jsc L n))] [] (.go 1 (.fork (.go 1 (.keep (.again []))) (.go 1 (.fork (.go 0 (.into (some [1,2,3]) (.go 3 (.dw [(1,.cells true 0 (jsc L n))] (nI (dN L (n+1) 101)) [(1,.cells true 0 (js8 L n))] [] (.go 7 (.dw [(1,.cells true 0 (js8 L n))] (nI (dN L ((n+1)+1) 31)) [(1,.cells true 0 (js6 L n))] [] (.go 0 (.slot 21 (nI ((dN L (n+1) 101)+(dN L ((n+1)+1) 31))) (.go 3 (.keep (.go 0 (.into (some [1,2,3,4]) (.go 3 (.dw [(1,.cells true 0 (js6 L n))] (nI (jsj L n)) [(1,.cells true 0 (js5 L n))] [] (.go 7 (.dw [(1,.cells true 0 (js5 L n))] (nI (jsl L n)) [(1,.cells true 0 (js4 L n))] [] (.go 0 (.slot 21 (nI ((jsj L n)+(jsl L n))) (.go 3 (.keep (.go 0 (.into (some [1,2,3,4,5]) (.go 3 (.dw [(1,.cells true 0 (js4 L n))] (nI (jsf L n)) [(1,.cells true 0 (js3 L n))] [] (.go 7 (.dw [(1,.cells true 0 (js3 L n))] (nI (jsh L n)) [(1,.cells true 0 (js2 L n))] [] (.go 0 (.slot 21 (nI ((jsf L n)+(jsh L n))) (.go 3 (.keep (.go 0 (.into (some [1,2,3,4,5,6]) (.go 3 (.dw [(1,.cells true 0 (js2 L n))] (nI (jsa L n)) [(1,.cells true 0 (js1 L n))] [] (.go 7 (.dw [(1,.cells true 0 (js1 L n))] (nI (jsd L n)) [(1,.cells true 0 (js7 L n))] [] (.go 0 (.slot 21 (nI ((jsa L n)+(jsd L n))) (.go 3 (.keep (.go 1 (.keep (.again []))))))))))))))))))))))))))))))))))))))))))) (.go 0 (.into (some [1,2,3]) (.go 3 (.dw [(1,.cells true 0 (jsc L n))] (nI (dN L (n+1) 61)) [(1,.cells true 0 (js8 L n))] [] (.go 7 (.dw [(1,.cells true 0 (js8 L n))] (nI (dN L ((n+1)+1) 41)) [(1,.cells true 0 (js6 L n))] [] (.go 0 (.slot 21 (nI ((dN L (n+1) 61)+(dN L ((n+1)+1) 41))) (.go 3 (.keep (.go 0 (.into (some [1,2,3,4]) (.go 3 (.dw [(1,.cells true 0 (js6 L n))] (nI (jsk L n)) [(1,.cells true 0 (js5 L n))] [] (.go 7 (.dw [(1,.cells true 0 (js5 L n))] (nI (jsn L n)) [(1,.cells true 0 (js4 L n))] [] (.go 0 (.slot 21 (nI ((jsk L n)+(jsn L n))) (.go 3 (.keep (.go 0 (.into (some [1,2,3,4,5]) (.go 3 (.dw [(1,.cells true 0 (js4 L n))] (nI (jsg L n)) [(1,.cells true 0 (js3 L n))] [] (.go 7 (.dw [(1,.cells true 0 (js3 L n))] (nI (jsi L n)) [(1,.cells true 0 (js2 L n))] [] (.go 0 (.slot 21 (nI ((jsg L n)+(jsi L n))) (.go 3 (.keep (.go 0 (.into (some [1,2,3,4,5,6]) (.go 3 (.dw [(1,.cells true 0 (js2 L n))] (nI (jsb L n)) [(1,.cells true 0 (js1 L n))] [] (.go 7 (.dw [(1,.cells true 0 (js1 L n))] (nI (jse L n)) [(1,.cells true 0 (js7 L n))] [] (.go 0 (.slot 21 (nI ((jsb L n)+(jse L n))) (.go 3 (.keep (.go 1 (.keep (.again [])))))))))))))))))))))))))))))))))))))))))))))))))
 (cK (α:=Cell×Int) ((jsm L n):HT).n 3 [1] (fun x=>(jso x n)) (fun x => .agg #[nI x.1.ap.lo,nI x.1.ap.hi,nI x.1.ag.lo,nI x.1.ag.hi,nI x.1.ai.lo,nI x.1.ai.hi,nI x.1.ah.lo,nI x.1.ah.hi]) (fun x=>[(1,true,.cells true 0 [.iface (L.length+1) (js0 L),nI x.2])]) (fun x=>[]))=Fg L n:=by kernel_rfl
theorem dn2{L:List Int}{a b m k:Int}(hm:1<=m/\m<=100000)(hk:1<=k/\k<=100000):(nI (IntKind.wrap .i64 (dN L a m+dN L b k)):Value)=nI (dN L a m+dN L b k):=by
 have h1:=eK L a hm.1
 have h2:=eK L b hk.1
 exact ak (by omega)
def spI(L:List Int)(a b m k c:Int):Span:=⟨if c<dN L a m then c else dN L a m,if c<dN L a m+dN L b k then c else dN L a m+dN L b k⟩
theorem iz{L:List Int}{a b m k c:Int}(hc:0<=c)(hm:1<=m)(hk:1<=k):cH (spI L a b m k c) c:=by
 have h1:=eK L a hm
 have h2:=eK L b hk
 unfold cH spI
 dsimp only
 by_cases p:c<dN L a m
 ·rw[if_pos p,if_pos (by omega)];omega
 ·rw[if_neg p]
  by_cases q:c<dN L a m+dN L b k
  ·rw[if_pos q];omega
  ·rw[if_neg q];omega
theorem uK:bk az:=by decide
theorem Ib{L:List Int}{n:Int}(hn:0<=n/\n<=900000000){H:Heap}{D:Nat}(hD:D≠0)(h0:H[0]?=some bC)(h1:H[D]?=some (dgO L n)) :
  ad prog 90 [pt D] H [D] (fun y H2 => ∃x:Cell×Int,(bk x.1/\n<=x.2/\x.2<=n+9)/\y = .agg ⟨cellC x.1⟩/\H2=H.set D (dgO L x.2)):=by
 have key:=zD (α:=Cell×Int) (I:=fun x=>bk x.1/\n<=x.2/\x.2<=n+9) (fun x _ => .agg ⟨cellC x.1⟩) (d:=fun x=>x.2) (new:=fun _=>[]) (Eq.mpr (Ja L n) ?_) (fun _ _=>rfl) (fun _ _=>trivial) hD (fun _ _ _=>rfl) h0 h1 (args':=[pt D]) rfl
 ·refine key.post ?_
  rintro y H2 ⟨x,hx,rfl,rfl⟩
  exact ⟨x,hx,rfl,List.append_nil _⟩
 delta Fg js0 jsc jso js9 js8 js6 jsj js5 jsl js4 jsf js3 jsh js2 jsa js1 jsd js7 jsp jsk jsn jsg jsi jsb jse nI pt ac fk nw kbq
 refine ⟨⟨rfl,trivial⟩,fun H' hl h=>bq (by omega) (by omega) (by omega) h.1,fun q =>?_,fun q=>⟨fun r =>?_,fun r =>?_⟩⟩
 ·refine ⟨(az,n+1),⟨uK,by show n<=n+1;omega,by show n+1<=n+9;omega⟩,?_⟩
  repeat' first|exact aZ _ _ _|exact trivial|exact ae _|refine ⟨rfl,?_⟩|apply And.intro
 ·refine ⟨⟨rfl,trivial⟩,fun H' hl h=>bq (by omega) (by omega) (by omega) h.1,⟨rfl,trivial⟩,fun H' hl h=>bq (by omega) (by omega) (by omega) h.1,dn2 (by decide) (by decide),⟨rfl,trivial⟩,fun H' hl h=>bq (by omega) (by omega) (by omega) h.1,⟨rfl,trivial⟩,fun H' hl h=>bq (by omega) (by omega) (by omega) h.1,dn2 (by decide) (by decide),
   ⟨rfl,trivial⟩,fun H' hl h=>bq (by omega) (by omega) (by omega) h.1,⟨rfl,trivial⟩,fun H' hl h=>bq (by omega) (by omega) (by omega) h.1,dn2 (by decide) (by decide),⟨rfl,trivial⟩,fun H' hl h=>bq (by omega) (by omega) (by omega) h.1,⟨rfl,trivial⟩,fun H' hl h=>bq (by omega) (by omega) (by omega) h.1,dn2 (by decide) (by decide),
   (⟨spI L (n+1) (n+1+1) 101 31 100,spI L (n+1+1+1) (n+1+1+1+1) 251 101 400,spI L (n+1+1+1+1+1) (n+1+1+1+1+1+1) 21 21 100,spI L (n+1+1+1+1+1+1+1) (n+1+1+1+1+1+1+1+1) 4 4 3⟩,n+1+1+1+1+1+1+1+1+1),⟨⟨iz (by decide) (by decide) (by decide),iz (by decide) (by decide) (by decide),iz (by decide) (by decide) (by decide),iz (by decide) (by decide) (by decide)⟩,by show n<=n+1+1+1+1+1+1+1+1+1;omega,by show n+1+1+1+1+1+1+1+1+1<=n+9;omega⟩,rfl,ae _,⟨⟨rfl,aZ _ _ _⟩,trivial⟩,trivial⟩
 ·refine ⟨⟨rfl,trivial⟩,fun H' hl h=>bq (by omega) (by omega) (by omega) h.1,⟨rfl,trivial⟩,fun H' hl h=>bq (by omega) (by omega) (by omega) h.1,dn2 (by decide) (by decide),⟨rfl,trivial⟩,fun H' hl h=>bq (by omega) (by omega) (by omega) h.1,⟨rfl,trivial⟩,fun H' hl h=>bq (by omega) (by omega) (by omega) h.1,dn2 (by decide) (by decide),
   ⟨rfl,trivial⟩,fun H' hl h=>bq (by omega) (by omega) (by omega) h.1,⟨rfl,trivial⟩,fun H' hl h=>bq (by omega) (by omega) (by omega) h.1,dn2 (by decide) (by decide),⟨rfl,trivial⟩,fun H' hl h=>bq (by omega) (by omega) (by omega) h.1,⟨rfl,trivial⟩,fun H' hl h=>bq (by omega) (by omega) (by omega) h.1,dn2 (by decide) (by decide),
   (⟨spI L (n+1) (n+1+1) 61 41 100,spI L (n+1+1+1) (n+1+1+1+1) 61 31 400,spI L (n+1+1+1+1+1) (n+1+1+1+1+1+1) 5 5 100,spI L (n+1+1+1+1+1+1+1) (n+1+1+1+1+1+1+1+1) 2 2 3⟩,n+1+1+1+1+1+1+1+1+1),⟨⟨iz (by decide) (by decide) (by decide),iz (by decide) (by decide) (by decide),iz (by decide) (by decide) (by decide),iz (by decide) (by decide) (by decide)⟩,by show n<=n+1+1+1+1+1+1+1+1+1;omega,by show n+1+1+1+1+1+1+1+1+1<=n+9;omega⟩,rfl,ae _,⟨⟨rfl,aZ _ _ _⟩,trivial⟩,trivial⟩
abbrev jt1(x:Int×Int)(m:Int)(l:List Int):Prop:=(0<=x.1/\x.1<m)/\0<=x.2/\x.2<=((List.length l:Nat):Int)
def Fe(l:List Int)(i m:Int):Prop :=
 (fk (decide ((((l.length:Nat):Int):Int)<=i)) (∃x:Int×Int,(jt1 x m l)/\(true=true/\wk (nI 0:Value) (rn (sg 4 []) 3 (nI x.1:Value))/\((kbq 4 (.cells true 0 [nI i]) (.cells true 0 [nI x.2]))/\True)/\(True))) (nw (i+1) (nw ((i+1)-1) ((ixq ((i+1)-1) l.length)/\(((l.flatMap u8C)[(0+Int.toNat ((i+1)-1)*1)]?=some (.int .u8 (l.getD ((i+1)-1).toNat 0)))/\(∃y0:Int,bw (IntKind.wrap .i64 (l.getD ((i+1)-1).toNat 0)) y0/\(((m:Int)≠0)/\(∃x:Int×Int,(jt1 x m l)/\(true=true/\wk (nI (Int.tmod y0 m):Value) (rn (sg 4 []) 3 (nI x.1:Value))/\((kbq 4 (.cells true 0 [nI (i+1)]) (.cells true 0 [nI x.2]))/\True)/\(True))))))))))
abbrev jt0(i:Int)(l:List Int):=aG [.cells false 0 [nI 4000,nI 8000,nI 14000,nI 24000,nI 40000,nI 90000],.cells true 0 [nI i],.cells true 0 [slQ 3 2 l.length],.cells true 1 (l.flatMap u8C)]
theorem I7(l:List Int)(i m:Int):vF prog msk (dm 0) 100000 true 40 true 209 [nI m,pt 1,pt 2] (jt0 i l) (some [1])
 (.go 4 (.fork (.go 0 (.again [])) (.go 1 (.slot 10 (nI (i+1)) (.go 3 (.slot 13 (nI ((i+1)-1)) (.need (.val (.int .u8 (l.getD ((i+1)-1).toNat 0)) (.go 0 (.bind Int (fun y0 => .slot 16 (nI y0) (.go 0 (.need (.go 0 (.again [])))))))))))))))
 (cK (α:=Int×Int) ((jt0 i l):HT).n 3 [1] (fun x=>(jt1 x m l)) (fun x=>nI x.1) (fun x=>[(1,true,.cells true 0 [nI x.2])]) (fun x=>[]))=Fe l i m:=by kernel_rfl
theorem qn(x:Int):(u8C x).length=1:=rfl
theorem uX(n:Nat)(l:List Int):(l.flatMap u8C).all (ao n)=true:=cQ (fun _=>rfl) l
theorem Jl{a:List Int}{k:Nat}(h:k<a.length){off:Nat}(ho:off=k):(a.flatMap u8C)[off]?=some (.int .u8 (a.getD k 0)):=eZ (c:=0) qn h (by omega) rfl
theorem Ex(o:Bool)(z:Nat)(l:List Int)(σ:Nat->Option Nat):rno σ 3 (.cells o z (l.flatMap u8C)) = .cells o z (l.flatMap u8C):=congrArg (aa.cells o z) (ed (d:=0) (uX 0 l)).1
theorem Ew(o:Bool)(z:Nat)(l:List Int):am 3 (.cells o z (l.flatMap u8C))=true:=(ed (σ:=fun _=>none) (d:=0) (uX 0 l)).2
theorem jB{l:List Int}(hb:rB l)(hl:l.length<=1000000){i m:Int}(hi:0<=i/\i<=(l.length:Int))(hm:1<=m){H:Heap}{I B Y:Nat}(hnd:[0,I,B,Y].Nodup)(h0:H[0]?=some bC)(h1:H[I]?=some (.cells true 0 [nI i]))(h2:H[B]?=some (.cells true 0 [slQ Y 2 l.length]))(h3:H[Y]?=some (.cells true 1 (l.flatMap u8C))) :
  ad prog 209 [nI m,pt I,pt B] H [I] (fun y H2 => ∃z:Int×Int,((0<=z.1/\z.1<m)/\0<=z.2/\z.2<=(l.length:Int))/\y=nI z.1/\H2=H.set I (.cells true 0 [nI z.2])):=by
 have key:=lI (α:=Int×Int) (I:=fun z=>(0<=z.1/\z.1<m)/\0<=z.2/\z.2<=(l.length:Int)) (os:=[bC,.cells true 0 [nI i],.cells true 0 [slQ 3 2 l.length],.cells true 1 (l.flatMap u8C)]) (fun z _=>nI z.1) (chg:=fun z=>[(1,true,.cells true 0 [nI z.2])]) (new:=fun _=>[]) (ks:=[1]) (ids:=[0,I,B,Y])
  (Eq.mpr (I7 l i m) ?_) (by show (am 3 bC&&(am 3 (.cells true 0 [nI i])&&(am 3 (.cells true 0 [slQ 3 2 l.length])&&(am 3 (.cells true 1 (l.flatMap u8C))&&true))))=true;rw[Ew];rfl) (fun k hk=>by obtain rfl:=List.mem_singleton.1 hk;exact ⟨_,rfl,rfl⟩) (fun _ _=>rfl) (fun z _=>⟨⟨List.mem_singleton.2 rfl,HF rfl⟩,trivial⟩) (fun _ _=>trivial) hnd ⟨h0,h1,h2,by rw[Ex];exact h3,trivial⟩ rfl (fun _ _ _=>rfl) (args':=[nI m,pt I,pt B]) rfl (ms:=[I]) rfl
 ·refine key.post ?_
  rintro y H2 ⟨x,hx,rfl,rfl⟩
  exact ⟨x,hx,rfl,List.append_nil _⟩
 delta Fe jt1 nI fk nw bw kbq ixq
 refine ⟨fun q =>?_,fun q =>?_⟩
 ·refine ⟨(0,i),⟨⟨Int.le_refl _,by show 0<m;omega⟩,hi⟩,rfl,ae _,⟨⟨rfl,rfl⟩,trivial⟩,trivial⟩
 ·have h:=of_decide_eq_false q
  have e:i+1-1=i:=by omega
  have hx:=hb (l.getD (Int.toNat (i+1-1)) 0) (kE (by omega))
  refine ⟨ak (by omega),ak (by omega),by omega,Jl (by omega) (by omega),_,ak (by omega),by omega,(Int.tmod (l.getD (Int.toNat (i+1-1)) 0) m,i+1),⟨⟨Int.tmod_nonneg _ hx.1,Int.tmod_lt_of_pos _ (by omega)⟩,by show 0<=i+1;omega,by show i+1<=_;omega⟩,rfl,ae _,⟨⟨rfl,rfl⟩,trivial⟩,trivial⟩
end
end Go.Proofs.YtmecpfikljhjaaaGreatDoor
