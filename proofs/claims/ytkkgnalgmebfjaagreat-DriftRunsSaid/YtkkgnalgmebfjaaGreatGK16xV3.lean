/- A statement whose order is open, continued. No condition. -/
import Derived.Test.YtkkgnalgmebfjaaGreatGK12xK15
open Go Go.K
set_option linter.unusedVariables false
set_option linter.unusedSimpArgs false
namespace Go.K
variable {P:Program}
theorem Post.app{B base:Nat}{M:List Nat}{ρ0 Z:Ren}{H0 H:Heap}{w0 w:World}(p:Post P B base M ρ0 H0 w0 Z H w)(hbase:base<=H.length)(l:Heap):Post P B base M ρ0 H0 w0 Z (H++l) w:=by
 have hr:=p.rel
 have hget:∀id r,Z id=some r->(H++l)[id]?=H[id]? := fun id r h=>List.getElem?_append_left (hr.dom id r h)
 refine ⟨⟨hr.bsize,hr.dR,fun id r h=>by have:=hr.dom id r h;simp;omega,hr.lt,fun id r o h1 h2=>hr.obj id r o h1 (by rw[<- hget id r h1];exact h2),fun id r o h1 h2 h3=>hr.base id r o h1 (by rw[<- hget id r h1];exact h2) h3,?_,fun b m hb=>⟨(hr.mem b m hb).1,fun id r o h1 h2 h3=>(hr.mem b m hb).2 id r o h1 (by rw[<- hget id r h1];exact h2) h3⟩,
   hr.fam.keep (Ren.le_refl _) (fun _ _ _ h=>h) (fun F z cs hF h=>by rw[List.getElem?_append_left hF]at h;exact h) (by simp) (Nat.le_refl _) (fun _ _=>rfl) (fun id r o h1 h2 h3=>hr.fam.free h1 (by rw[<- hget id r h1];exact h2) h3) (fun b m h=>hr.fam.eI h)⟩,
  p.ext,p.new,by have:=p.len;simp;omega,fun id h1 h2 =>?_,p.size,p.keep,fun b h1 h2 =>?_,p.os,p.tape,p.output,p.frz,p.drawn,p.kl⟩
 ·intro id id' r r' o o' h1 h1' h2 h2' h3 h3' hne
  exact hr.sep id id' r r' o o' h1 h1' (by rw[<- hget id r h1];exact h2) (by rw[<- hget id' r' h1'];exact h2') h3 h3' hne
 ·rw[List.getElem?_append_left (by omega)];exact p.same id h1 h2
 ·rcases h2 with ⟨id,r,o,g1,g2,g3,g4⟩|⟨F,k,r,z,cs,m,e⟩
  ·exact p.ob b h1 (.inl ⟨id,r,o,g1,by rw[<- hget id r g1];exact g2,g3,g4⟩)
  ·exact p.ob b h1 (.inr ⟨F,k,r,z,cs,⟨m.g,by have:=m.h;rw[List.getElem?_append_left (hr.fam.dom F k r m.g)]at this;exact this,m.a⟩,e⟩)
theorem Post.late{B base:Nat}{M:List Nat}{ρ0 Z:Ren}{H0 H:Heap}{w0 w:World}(p:Post P B base M ρ0 H0 w0 Z H w){id:Nat}{ob:ab}{obj:Obj}{ri:RI}(hid:id<H.length)(h0:H0.length<=id)(hob:H[id]?=some ob)(hno:Z id=none)
  (hb:ri.b=w.heap.size) (ho:bt (Z.set id ri) ri ob (w.alloc obj)):Post P B base M ρ0 H0 w0 (Z.set id ri) H (w.alloc obj):=by
 have hr:=p.rel
 have hle:=Ren.dO (r:=ri) hno
 have hold:∀k,k<w.heap.size->(w.alloc obj).heap[k]?=w.heap[k]? := fun k hk=>RowKit.Below.heap_alloc w obj k hk
 refine ⟨⟨by simp;have:=hr.bsize;omega,fun g hg =>?_,fun i x h =>?_,fun i x h =>?_,fun i x o h1 h2 =>?_,fun i x o h1 h2 h3 =>?_,?_,fun b m hm =>?_,?_⟩,
  Ren.le_trans p.ext hle,fun i x h1 h2 =>?_,p.len,p.same,by have:=p.size;simp;omega,fun b h1 h2 =>?_,fun b h1 h2 =>?_,p.os,p.tape,p.output,p.frz,p.drawn,p.kl⟩
 ·obtain ⟨x,g1,g2,g3⟩:=hr.dR g hg
  exact ⟨x,hle _ _ g1,g2,g3⟩
 ·by_cases e:i=id
  ·subst e;exact hid
  ·rw[Ren.aP e]at h;exact hr.dom i x h
 ·by_cases e:i=id
  ·subst e;rw[Ren.aQ]at h;cases h;rw[hb];simp
  ·rw[Ren.aP e]at h;have:=hr.lt i x h;simp;omega
 ·by_cases e:i=id
  ·subst e;rw[Ren.aQ]at h1;cases h1;rw[hob]at h2;cases h2;exact ho
  ·rw[Ren.aP e]at h1;exact (hr.obj i x o h1 h2).mono hle (hold _ (hr.lt i x h1))
 ·by_cases e:i=id
  ·subst e;rw[Ren.aQ]at h1;cases h1;rw[hb];exact hr.bsize
  ·rw[Ren.aP e]at h1;exact hr.base i x o h1 h2 h3
 ·intro i i' x x' o o' h1 h1' h2 h2' h3 h3' hne
  by_cases e:i=id
  ·subst e
   rw[Ren.aQ]at h1;cases h1
   rw[Ren.aP (Ne.symm hne)]at h1'
   have:=hr.lt _ _ h1'
   omega
  ·rw[Ren.aP e]at h1
   by_cases e':i'=id
   ·subst e'
    rw[Ren.aQ]at h1';cases h1'
    have:=hr.lt _ _ h1
    omega
   ·rw[Ren.aP e']at h1'
    exact hr.sep i i' x x' o o' h1 h1' h2 h2' h3 h3' hne
 ·obtain ⟨⟨ty,fz,e⟩,k⟩:=hr.mem b m hm
  have hbl:b<w.heap.size:=(Array.getElem?_eq_some_iff.1 e).1
  refine ⟨⟨ty,fz,(hold b hbl).trans e⟩,fun i x o h1 h2 h3 =>?_⟩
  by_cases e2:i=id
  ·subst e2;rw[Ren.aQ]at h1;cases h1;omega
  ·rw[Ren.aP e2]at h1;exact k i x o h1 h2 h3
 ·refine hr.fam.keep hle (fun _ _ _ h=>h) (fun F z cs _ h=>h) (Nat.le_refl _) (by simp) (fun b hb =>?_) (fun i x o h1 h2 h3 =>?_) (fun b m h=>hr.fam.eI h)
  ·rcases Nat.lt_or_ge b w.heap.size with hl|hl
   ·exact hold b hl
   ·exact absurd hb (hr.fam.nJ hl)
  ·by_cases e:i=id
   ·subst e;rw[Ren.aQ]at h1;cases h1;exact hr.fam.nJ (by omega)
   ·rw[Ren.aP e]at h1;exact hr.fam.free h1 h2 h3
 ·by_cases e:i=id
  ·omega
  ·rw[Ren.aP e]at h1;exact p.new i x h1 h2
 ·rw[hold b (by have:=p.size;omega)];exact p.keep b h1 h2
 ·rcases h2 with ⟨i,x,o,g1,g2,g3,g4⟩|⟨F,k,r,z,cs,m,e⟩
  ·by_cases e:i=id
   ·subst e;rw[Ren.aQ]at g1;cases g1;have:=p.size;omega
   ·rw[Ren.aP e]at g1;exact p.ob b h1 (.inl ⟨i,x,o,g1,g2,g3,g4⟩)
  ·exact p.ob b h1 (.inr ⟨F,k,r,z,cs,⟨m.g,m.h,m.a⟩,e⟩)
theorem uS{B N:Nat}{Z:Ren}{H:Heap}{w:World}{T:Tm}{a:Act}{ops:Array Oper}(hr:Rel P B Z H w){o:Oper}(hT:∀t,t<N->t∈o.looksAt ops->VR Z (T t) (a.tmps.getD t undef))(ho:jo N P.globals.size o=true) :
  ∀x∈o.op.operands,VR Z (ev T x) (a.eval x):=by
 intro x hx
 simp only[jo,Bool.and_eq_true,List.all_eq_true]at ho
 have:=ho.1.1.2 x (by simpa using hx)
 cases x with
 |tmp t=>exact hT t (by simpa using this) (List.mem_append_left _ (List.mem_filterMap.2 ⟨.tmp t,by simpa using hx,rfl⟩))
 |const v=>exact (fS (by simpa using this):VR Z v v)
 |global g =>
  obtain ⟨r,h1,h2,h3⟩:=hr.dR g (by simpa using this)
  have:=VR.ptr (o:=0) h1
  rw[h2,h3]at this
  exact this
 |func f=>exact .func rfl (by intro i v v' h;simp at h) rfl (by intro i v v' h;simp at h)
theorem lA{N:Nat}{Z:Ren}{T:Tm}{a:Act}{ops:Array Oper}(hsz:a.tmps.size=N)(hops:∀o∈ops,∀d,o.dst=some d->d<N){o:Oper}(hT:∀t,t<N->t∈o.looksAt ops->VR Z (T t) (a.tmps.getD t undef)) :
  gv o ops T=true->Region.wanted o (yielded ops a.tmps)=cB o ops T:=by
 intro hkn
 unfold gv at hkn
 unfold Region.wanted cB yielded
 cases hg:o.guard with
 |none=>rfl
 |some gw =>
  obtain ⟨g,want⟩:=gw
  simp only
  cases hd:(ops[g]?).bind (·.dst) with
  |none=>rfl
  |some d =>
   obtain ⟨og,h1,h2⟩:=Option.bind_eq_some_iff.1 hd
   have hlt:d<N:=hops og (Array.mem_of_getElem? h1) d h2
   have hlt':d<a.tmps.size:=by rw[hsz];exact hlt
   have hv:=hT d hlt (List.mem_append_right _ (by simp[hg,hd]))
   have hge:a.tmps.getD d undef=a.tmps[d]:=by simp[Array.getD,hlt']
   rw[hge]at hv
   simp only[Option.bind_some,Array.getElem?_eq_getElem hlt']
   generalize a.tmps[d]=q at hv
   simp only[hg,hd]at hkn
   generalize T d=p at hv hkn
   cases hv <;> first
    |rfl
    |(rename_i b;cases b <;> cases want <;> rfl)
    |(cases hkn)
theorem eH{a:Act}{dst:Option Tmp}{v:Value}{t:Nat}(h:dst≠some t):(a.put dst v).tmps.getD t undef=a.tmps.getD t undef:=by
 cases dst with
 |none=>rfl
 |some d =>
  have:d≠t:=fun e=>h (by rw[e])
  simp[Act.put,Array.getElem?_setIfInBounds_ne this]
theorem gz{a:Act}{t:Nat}{v:Value}(h:t<a.tmps.size):(a.put (some t) v).tmps.getD t undef=v:=by simp[Act.put,h]
theorem re(a:Act)(dst:Option Tmp)(v:Value):(a.put dst v).tmps.size=a.tmps.size:=by cases dst <;> simp[Act.put]
theorem put_defers(a:Act)(dst:Option Tmp)(v:Value):(a.put dst v).defers=a.defers:=by cases dst <;> rfl
structure Inv(P:Program)(B base N:Nat)(M:List Nat)(l:List Oper)(ord:List Nat)(T0:Tm)(ρ0:Ren)(H0:Heap)(w0:World)(ds:List Deferred)(Q:Tm->Heap->Prop)
  (es:List Ent) (rest:List Nat) (H:Heap) (log:List (Nat×Option Nat)) (Z:Ren) (a:Act) (w:World) (listed:Array Bool):Prop where
 ch:Chain P l.toArray T0 H0 es H
 ord:es.map (·.i)++rest=ord
 hot:∀e∈es,dF e.o=true->listed.getD e.i false=true
 un:∀i∈rest,listed.getD i false=false
 post:Post P B base M ρ0 H0 w0 Z H w
 size:a.tmps.size=N
 tA:∀e∈es,listed.getD e.i false=true->∀t,e.o.dst=some t->VR Z e.v (a.tmps.getD t undef)
 tB:∀t,t<N->(∀e∈es,listed.getD e.i false=true->e.o.dst≠some t)->VR Z (T0 t) (a.tmps.getD t undef)
 al:∀e∈es,listed.getD e.i false=false->d6 e.o.op = .alloc->cB e.o l.toArray e.T=true->Z e.H.length=none
 loose:∀pre e post,es=pre++e :: post->∀h∈post,dF h.o=true->fR (dH l []) h.i e.i=false->∀x,e.rd=some x->x ∉ h.ms
 lg:∀e∈es,∀x,e.rd=some x->(e.i,some x)∈log
 cl:∀j,listed.getD j false=true->∀i,fR (dH l []) j i=true->listed.getD i false=true
 lsz:listed.size=l.length
 dn:a.defers=ds
 k:gR P base M (dH l []) l.toArray rest (cf T0 es) H log Q
section
variable {B base N:Nat} {M:List Nat} {l:List Oper} {ord:List Nat} {T0:Tm} {ρ0:Ren} {H0:Heap} {w0:World} {ds:List Deferred} {Q:Tm->Heap->Prop}
theorem Inv.len{es:List Ent}{rest:List Nat}{H:Heap}{log:List (Nat×Option Nat)}{Z:Ren}{a:Act}{w:World}{listed:Array Bool}(h:Inv P B base N M l ord T0 ρ0 H0 w0 ds Q es rest H log Z a w listed):H0.length<=H.length:=h.ch.len
theorem Inv.yC{es:List Ent}{i:Nat}{is:List Nat}{H:Heap}{log:List (Nat×Option Nat)}{Z:Ren}{a:Act}{w:World}{listed:Array Bool}(hbase:base<=H0.length)
  (h:Inv P B base N M l ord T0 ρ0 H0 w0 ds Q es (i :: is) H log Z a w listed) {o:Oper} (ho:l.toArray[i]?=some o) (hh:dF o=false) :
  ∃e H' ix,Inv P B base N M l ord T0 ρ0 H0 w0 ds Q (es ++ [e]) is H' ix Z a w listed:=by
 have hk:=h.k
 simp only[gR,ho]at hk
 obtain ⟨hkn,hk⟩:=hk
 have hlen:=h.len
 have hui:=h.un i (List.mem_cons_self ..)
 have step:∀(e:Ent) (ix:List (Nat×Option Nat)),e.i=i->e.o=o->e.T=cf T0 es->e.H=H->vl P l.toArray e->Post P B base M ρ0 H0 w0 Z e.H' w->(∀x,e.rd=some x->(i,some x)∈ix)->(∀p∈log,p∈ix) ->
   gR P base M (dH l []) l.toArray is (put (cf T0 es) o.dst e.v) e.H' ix Q->∃e H' ix,Inv P B base N M l ord T0 ρ0 H0 w0 ds Q (es ++ [e]) is H' ix Z a w listed:=by
  intro e ix e1 e2 e3 e4 ok hp hlg hsub hk'
  refine ⟨e,e.H',ix,?_⟩
  have mem:∀x,x∈es ++ [e]->x∈es∨x=e:=by intro x hx;simpa using hx
  refine ⟨Chain.snoc h.ch e3 e4 ok,by rw[<- h.ord];simp[e1],?_,fun j hj=>h.un j (List.mem_cons_of_mem _ hj),hp,h.size,?_,?_,?_,?_,?_,h.cl,h.lsz,h.dn,by rw[fe,e2];exact hk'⟩
  ·intro x hx hx2
   rcases mem x hx with hx|rfl
   ·exact h.hot x hx hx2
   ·rw[e2,hh]at hx2;cases hx2
  ·intro x hx hl2 t ht
   rcases mem x hx with hx|rfl
   ·exact h.tA x hx hl2 t ht
   ·rw[e1,hui]at hl2;cases hl2
  ·intro t ht hn
   exact h.tB t ht (fun x hx=>hn x (by simp[hx]))
  ·intro x hx hl2 hc hw
   rcases mem x hx with hx|rfl
   ·exact h.al x hx hl2 hc hw
   ·rw[e4]
    cases hq:Z H.length with
    |none=>rfl
    |some r=>exact absurd (h.post.rel.dom _ _ hq) (Nat.lt_irrefl _)
  ·intro pre y post hsp hx hxm rV jq x hrd
   rcases List.eq_nil_or_concat post with rfl|⟨post',z,rfl⟩
   ·cases hxm
   ·have he2:es ++ [e]=(pre++y :: post') ++ [z]:=by rw[hsp];simp
    obtain ⟨h1,h2⟩:=List.append_inj' he2 (by simp)
    simp at h2;subst h2
    simp only[List.concat_eq_append,List.mem_append,List.mem_singleton]at hxm
    rcases hxm with hxm|rfl
    ·exact h.loose pre y post' h1 hx hxm rV jq x hrd
    ·rw[e2,hh]at rV;cases rV
  ·intro y hy x hrd
   rcases mem y hy with hy|rfl
   ·exact hsub _ (h.lg y hy x hrd)
   ·rw[e1];exact hlg x hrd
 cases hw:cB o l.toArray (cf T0 es) with
 |false =>
  rw[hw]at hk
  simp only[Bool.false_eq_true,if_false]at hk
  refine step ⟨i,o,cf T0 es,H,undef,H,none,[]⟩ log rfl rfl rfl rfl ⟨⟨ho,hkn⟩,fun _ h2 =>?_,fun _=>rfl,fun _=>rfl,Nat.le_refl _,fun _ _ _=>rfl⟩ h.post (fun x hx=>by cases hx) (fun p hp=>hp) hk
  have h2':cB o l.toArray (cf T0 es)=true:=h2
  rw[hw]at h2';cases h2'
 |true =>
  rw[hw]at hk
  simp only[if_true]at hk
  unfold qx at hk
  unfold dF at hh
  split at hk
  ·rename_i hc
   obtain ⟨v,rd,h1,h2⟩:=hk
   refine step ⟨i,o,cf T0 es,H,v,H,rd,[]⟩ ((i,rd) :: log) rfl rfl rfl rfl ⟨⟨ho,hkn⟩,fun _ _ => .inl ⟨rd,h1,rfl,rfl,hc⟩,fun h3 =>?_,fun _=>rfl,Nat.le_refl _,fun _ _ _=>rfl⟩ h.post (fun x hx=>by cases hx;exact List.mem_cons_self ..) (fun p hp=>List.mem_cons_of_mem _ hp) h2
   have h3':cB o l.toArray (cf T0 es)=false:=h3
   rw[hw]at h3';cases h3'
  ·rename_i hc
   obtain ⟨v,ob,h1,h2⟩:=hk
   refine step ⟨i,o,cf T0 es,H,v,H ++ [ob],some H.length,[]⟩ ((i,some H.length) :: log) rfl rfl rfl rfl ⟨⟨ho,hkn⟩,fun _ _ => .inr ⟨ob,h1,rfl,rfl,hc⟩,fun h3 =>?_,fun _=>rfl,by simp,fun id hid _=>List.getElem?_append_left hid⟩
    (h.post.app (by omega) _) (fun x hx=>by cases hx;exact List.mem_cons_self ..) (fun p hp=>List.mem_cons_of_mem _ hp) h2
   have h3':cB o l.toArray (cf T0 es)=false:=h3
   rw[hw]at h3';cases h3'
  ·rename_i hc;rw[hc]at hh;cases hh
  ·rename_i hc;rw[hc]at hh;cases hh
  ·rename_i hc;rw[hc]at hh;cases hh
  ·exact hk.elim
theorem Inv.advance(hbase:base<=H0.length):∀(rest:List Nat) {es:List Ent} {H:Heap} {log:List (Nat×Option Nat)} {Z:Ren} {a:Act} {w:World} {listed:Array Bool},
  Inv P B base N M l ord T0 ρ0 H0 w0 ds Q es rest H log Z a w listed ->
  ∃es' rest' H' ix,Inv P B base N M l ord T0 ρ0 H0 w0 ds Q es' rest' H' ix Z a w listed/\∀i is,rest'=i :: is->∃o,l.toArray[i]?=some o/\dF o=true:=by
 intro rest
 induction rest with
 |nil=>intro es H log Z a w listed h;exact ⟨es,[],H,log,h,fun i is h=>by cases h⟩
 |cons i is ih =>
  intro es H log Z a w listed h
  cases ho:l.toArray[i]? with
  |none=>have:=h.k;simp only[gR,ho]at this
  |some o =>
   cases hh:dF o with
   |true=>exact ⟨es,i :: is,H,log,h,fun j js hj=>by cases hj;exact ⟨o,ho,hh⟩⟩
   |false =>
    obtain ⟨e,H',ix,h'⟩:=h.yC hbase ho hh
    exact ih h'
end
end Go.K
namespace Go.K
variable {P:Program}
structure jA(l:List Oper)(ord:List Nat):Prop where
 edges:∀(i:Nat) (o:Oper),l[i]?=some o->∀e∈o.after,Region.binds .any e=true->e.on<l.length
 irr:∀i,i<l.length->fR (dH l []) i i=false
 all:∀i,i<l.length->i∈ord
 pair:∀pre i mid j post,ord=pre++i :: (mid++j :: post)->qw (dH l []) l.toArray i j
 lt:∀i∈ord,i<l.length
theorem ta{l:List Oper}{ord:List Nat}(h:uq l ord=true):jA l ord:=by
 unfold uq at h
 simp only[Bool.and_eq_true,decide_eq_true_eq,List.all_eq_true,List.mem_range,List.contains_iff_mem,Bool.not_eq_true']at h
 obtain ⟨⟨⟨⟨⟨h1,h2⟩,h3⟩,h4⟩,h5⟩,h6⟩:=h
 refine ⟨fun i o ho e he hb =>?_,h2,h4,fun pre i mid j post hl=>rk (oA h5 pre i mid j post hl),h6⟩
 simp only[uU,List.all_eq_true]at h1
 have:=h1 o (List.mem_of_getElem? ho) e (Array.mem_toList_iff.2 he)
 simp only[Bool.or_eq_true,Bool.not_eq_true',decide_eq_true_eq]at this
 rcases this with h7|h7
 ·rw[hb]at h7;cases h7
 ·exact h7
section
variable {B base N:Nat} {M:List Nat} {l:List Oper} {ord:List Nat} {T0:Tm} {ρ0:Ren} {H0:Heap} {w0:World} {ds:List Deferred} {Q:Tm->Heap->Prop}
 {es:List Ent} {rest:List Nat} {H:Heap} {log:List (Nat×Option Nat)} {Z:Ren} {a:Act} {w:World} {listed:Array Bool}
theorem fQ(h:Inv P B base N M l ord T0 ρ0 H0 w0 ds Q es rest H log Z a w listed){i:Nat}(hi:i∈Region.ready .any l.toArray listed):∀k,fR (dH l []) i k=true->listed.getD k false=true:=by
 intro k hk
 obtain ⟨o,ho,e,he,hb,hor⟩:=yA hk
 obtain ⟨_,o',ho',hall⟩:=mem_ready.1 hi
 have:o'=o:=by simp at ho';rw[ho]at ho';exact (Option.some.inj ho').symm
 subst this
 have hl:=hall e he hb
 rcases hor with rfl|hd
 ·exact hl
 ·exact h.cl _ hl _ hd
theorem qL{i:Nat}(hl:i<listed.size)(h:listed.getD i true=false):listed.getD i false=false:=by
 simpa[Array.getD,hl] using h
theorem Inv.mQ(db:jA l ord)(h:Inv P B base N M l ord T0 ρ0 H0 w0 ds Q es rest H log Z a w listed){pre mid post:List Ent}{x y:Ent}(hs:es=pre++x :: (mid++y :: post)):qw (dH l []) l.toArray x.i y.i :=
 db.pair (pre.map (·.i)) x.i (mid.map (·.i)) y.i (post.map (·.i)++rest) (by rw[<- h.ord,hs];simp)
theorem Inv.Ar(db:jA l ord)(h:Inv P B base N M l ord T0 ρ0 H0 w0 ds Q es rest H log Z a w listed){pre post:List Ent}{x:Ent}{j:Nat}{is:List Nat}(hs:es=pre++x :: post)(hr:rest=j :: is):qw (dH l []) l.toArray x.i j :=
 db.pair (pre.map (·.i)) x.i (post.map (·.i)) j is (by rw[<- h.ord,hs,hr];simp)
theorem Inv.ent(h:Inv P B base N M l ord T0 ρ0 H0 w0 ds Q es rest H log Z a w listed){e:Ent}(he:e∈es):l.toArray[e.i]?=some e.o:=by
 obtain ⟨pre,post,rfl⟩:=List.append_of_mem he
 exact (h.ch.split pre e post rfl).1.1.1
theorem Inv.Ba(db:jA l ord)(h:Inv P B base N M l ord T0 ρ0 H0 w0 ds Q es rest H log Z a w listed){pre post:List Ent}{e:Ent}(hs:es=pre++e :: post)(hi:e.i∈Region.ready .any l.toArray listed)(hun:listed.getD e.i false=false) :
  ∀t,t<N->t∈e.o.looksAt l.toArray->VR Z (e.T t) (a.tmps.getD t undef):=by
 intro t ht hl
 have hsp:=h.ch.split pre e post hs
 rw[hsp.2.1]
 have hme:∀x,x∈es->l.toArray[x.i]?=some x.o:=fun x hx=>h.ent hx
 by_cases hw:∃y∈pre,y.o.dst=some t
 ·obtain ⟨y,hy,hd⟩:=hw
  obtain ⟨p1,p2,rfl⟩:=List.append_of_mem hy
  have hs2:es=p1++y :: (p2++e :: post):=by rw[hs];simp
  have hyes:y∈es:=by rw[hs2];simp
  have Df:e∈es:=by rw[hs2];simp
  have pk:=h.mQ db hs2
  have jq:=pk.wr y.o e.o t (hme y hyes) (hme e Df) hd hl
  have hly:=fQ h hi _ jq
  rw[iP hd (fun x hx =>?_)]
  ·exact h.tA y hyes hly t hd
  ·obtain ⟨q1,q2,rfl⟩:=List.append_of_mem hx
   have hs3:es=p1++y :: (q1++x :: (q2++e :: post)):=by rw[hs2];simp
   exact (h.mQ db hs3).ssa y.o x.o t (hme y hyes) (hme x (by rw[hs3];simp)) hd
 ·rw[iQ (fun x hx hd=>hw ⟨x,hx,hd⟩)]
  refine h.tB t ht (fun x hx hlx hd =>?_)
  rw[hs]at hx
  simp only[List.mem_append,List.mem_cons]at hx
  rcases hx with hx|rfl|hx
  ·exact hw ⟨x,hx,hd⟩
  ·rw[hun]at hlx;cases hlx
  ·obtain ⟨q1,q2,rfl⟩:=List.append_of_mem hx
   have pk:=h.mQ db hs
   have jq:=pk.rw' e.o x.o t (hme e (by rw[hs];simp)) (hme x (by rw[hs];simp)) hd hl
   rw[h.cl _ hlx _ jq]at hun;cases hun
theorem Inv.A9(db:jA l ord)(h:Inv P B base N M l ord T0 ρ0 H0 w0 ds Q es rest H log Z a w listed){j:Nat}{is:List Nat}(hr:rest=j :: is){o:Oper}(ho:l.toArray[j]?=some o)(hi:j∈Region.ready .any l.toArray listed) :
  ∀t,t<N->t∈o.looksAt l.toArray->VR Z (cf T0 es t) (a.tmps.getD t undef):=by
 intro t ht hl
 have hme:∀x,x∈es->l.toArray[x.i]?=some x.o:=fun x hx=>h.ent hx
 by_cases hw:∃y∈es,y.o.dst=some t
 ·obtain ⟨y,hy,hd⟩:=hw
  obtain ⟨p1,p2,hs2⟩:=List.append_of_mem hy
  have pk:=h.Ar db hs2 hr
  have jq:=pk.wr y.o o t (hme y hy) ho hd hl
  have hly:=fQ h hi _ jq
  have:cf T0 es t=y.v:=by
   rw[hs2]
   refine iP hd (fun x hx =>?_)
   obtain ⟨q1,q2,rfl⟩:=List.append_of_mem hx
   exact (h.mQ db hs2).ssa y.o x.o t (hme y hy) (hme x (by rw[hs2];simp)) hd
  rw[this]
  exact h.tA y hy hly t hd
 ·rw[iQ (fun x hx hd=>hw ⟨x,hx,hd⟩)]
  exact h.tB t ht (fun x hx _ hd=>hw ⟨x,hx,hd⟩)
theorem fj{listed:Array Bool}{i:Nat}(hi:i<listed.size)(j:Nat):(listed.setIfInBounds i true).getD j false=if j=i then true else listed.getD j false:=by
 by_cases e:j=i
 ·subst e;simp[hi]
 ·rw[if_neg e];exact getD_set_ne false (Ne.symm e)
theorem Inv.yt(db:jA l ord)(h:Inv P B base N M l ord T0 ρ0 H0 w0 ds Q es rest H log Z a w listed){e:Ent}(he:e∈es)(hi:e.i∈Region.ready .any l.toArray listed)(hun:listed.getD e.i false=false){ρ':Ren}{w':World}{v':Value}
  (hle:Ren.le Z ρ') (hp:Post P B base M ρ0 H0 w0 ρ' H w') (hv:VR ρ' e.v v') (hal:∀x∈es,x.i≠e.i->listed.getD x.i false=false->d6 x.o.op = .alloc->cB x.o l.toArray x.T=true->ρ' x.H.length=none) (hdst:∀d,e.o.dst=some d->d<N) :
  Inv P B base N M l ord T0 ρ0 H0 w0 ds Q es rest H log ρ' (a.put e.o.dst v') w' (listed.setIfInBounds e.i true):=by
 have hme:∀x,x∈es->l.toArray[x.i]?=some x.o:=fun x hx=>h.ent hx
 have hlt:e.i<listed.size:=by
  rw[h.lsz]
  have:=(Array.getElem?_eq_some_iff.1 (hme e he)).1
  simpa using this
 have hset:=fj hlt
 have hne:∀x∈es,x≠e->x.i≠e.i/\(∀d,x.o.dst=some d->e.o.dst≠some d):=by
  intro x hx hxe
  obtain ⟨p1,p2,hs⟩:=List.append_of_mem hx
  have he':=he
  rw[hs]at he'
  simp only[List.mem_append,List.mem_cons]at he'
  rcases he' with he'|rfl|he'
  ·obtain ⟨q1,q2,rfl⟩:=List.append_of_mem he'
   have pk:=h.mQ db (show es=q1++e :: (q2++x :: p2) by rw[hs];simp)
   exact ⟨Ne.symm pk.ne,fun d h1 h2=>pk.ssa e.o x.o d (hme e he) (hme x hx) h2 h1⟩
  ·exact absurd rfl hxe
  ·obtain ⟨q1,q2,rfl⟩:=List.append_of_mem he'
   have pk:=h.mQ db hs
   exact ⟨pk.ne,fun d h1=>pk.ssa x.o e.o d (hme x hx) (hme e he) h1⟩
 have hup:∀j,listed.getD j false=true->(listed.setIfInBounds e.i true).getD j false=true:=by
  intro j hj;rw[hset];split <;> first|rfl|exact hj
 have uM:∀x∈es,(listed.setIfInBounds e.i true).getD x.i false=true->x=e∨listed.getD x.i false=true:=by
  intro x hx hl
  by_cases hxe:x=e
  ·exact .inl hxe
  ·rw[hset,if_neg (hne x hx hxe).1]at hl;exact .inr hl
 refine ⟨h.ch,h.ord,fun x hx hh=>hup _ (h.hot x hx hh),fun i hi2 =>?_,hp,by rw[re];exact h.size,fun x hx hl t ht =>?_,fun t ht hn =>?_,fun x hx hl hc hw =>?_,h.loose,h.lg,fun j hj i hd =>?_,by simp[h.lsz],by rw[put_defers];exact h.dn,h.k⟩
 ·rw[hset,if_neg]
  ·exact h.un i hi2
  ·intro hie
   obtain ⟨p1,p2,hs⟩:=List.append_of_mem he
   obtain ⟨r1,r2,hr⟩:=List.append_of_mem hi2
   have:=db.pair (p1.map (·.i)) e.i (p2.map (·.i)++r1) i r2 (by rw[<- h.ord,hs,hr];simp)
   exact this.ne hie.symm
 ·rcases uM x hx hl with rfl|hl2
  ·rw[ht,gz (by rw[h.size];exact hdst t ht)];exact hv
  ·by_cases hxe:x=e
   ·subst hxe;rw[ht,gz (by rw[h.size];exact hdst t ht)];exact hv
   ·rw[eH ((hne x hx hxe).2 t ht)];exact (h.tA x hx hl2 t ht).mono hle
 ·rw[eH (hn e he (by rw[hset,if_pos rfl]))]
  exact (h.tB t ht (fun x hx hl=>hn x hx (hup _ hl))).mono hle
 ·have hxe:x.i≠e.i:=by
   intro hxe;rw[hset,if_pos hxe]at hl;cases hl
  rw[hset,if_neg hxe]at hl
  exact hal x hx hxe hl hc hw
 ·rw[hset]at hj
  split at hj
  ·rename_i hje;subst hje;exact hup _ (fQ h hi i hd)
  ·exact hup _ (h.cl j hj i hd)
theorem Inv.content(h:Inv P B base N M l ord T0 ρ0 H0 w0 ds Q es rest H log Z a w listed){pre post:List Ent}{e:Ent}(hs:es=pre++e :: post)(hun:listed.getD e.i false=false){x:Nat}(hrd:e.rd=some x)(hx:x<e.H'.length):H[x]?=e.H'[x]? := by
 have hsp:=h.ch.split pre e post hs
 refine hsp.2.2.2.2 x hx (fun y hy =>?_)
 have hye:vl P l.toArray y:=by
  obtain ⟨q1,q2,rfl⟩:=List.append_of_mem hy
  exact (h.ch.split (pre++e :: q1) y q2 (by rw[hs];simp)).1
 cases hh:dF y.o with
 |false=>rw[hye.2.2.2.1 hh];simp
 |true =>
  have hly:=h.hot y (by rw[hs];simp[hy]) hh
  refine h.loose pre e post hs y hy hh ?_ x hrd
  cases hd:fR (dH l []) y.i e.i with
  |false=>rfl
  |true=>rw[h.cl _ hly _ hd]at hun;cases hun
theorem Inv.late(hok:∀o∈l,jo N P.globals.size o=true)(db:jA l ord)(hbase:base<=H0.length)(h:Inv P B base N M l ord T0 ρ0 H0 w0 ds Q es rest H log Z a w listed){ro:Option Nat}{Qr:Exit->Act->World->Prop}{e:Ent}(he:e∈es)(hi:e.i∈Region.ready .any l.toArray listed)(hun:listed.getD e.i false=false){K:Act->World->Prop}
  (hK:∀ρ' a' w',Inv P B base N M l ord T0 ρ0 H0 w0 ds Q es rest H log ρ' a' w' (listed.setIfInBounds e.i true)->K a' w'):wpOpIn (Fw ro) 0 P l.toArray Qr e.i K a w:=by
 obtain ⟨pre,post,hs⟩:=List.append_of_mem he
 have hsp:=h.ch.split pre e post hs
 obtain ⟨ok,hT,hc,hlen,_⟩:=hsp
 have hmem:e.o∈l:=by have:=ok.1.1;simp at this;exact List.mem_of_getElem? this
 have hlk:=h.Ba db hs hi hun
 have hdst:∀o∈l.toArray,∀d,o.dst=some d->d<N:=fun o ho d hd=>ed (hok o (by simpa using ho)) d hd
 have hw:=lA (Z:=Z) (T:=e.T) (ops:=l.toArray) h.size hdst (o:=e.o) hlk ok.1.2
 have xX:dF e.o=false:=by
  cases hh:dF e.o with
  |false=>rfl
  |true=>rw[h.hot e he hh]at hun;cases hun
 unfold wpOpIn
 rw[ok.1.1]
 simp only[hw]
 cases hwt:cB e.o l.toArray e.T with
 |false =>
  simp only[Bool.false_eq_true,if_false]
  refine ⟨fun _ _=>trivial,hK Z _ w (h.yt db he hi hun (Ren.le_refl _) h.post ?_ (fun x hx _ hl hc hw=>h.al x hx hl hc hw) (fun d hd=>ed (hok _ hmem) d hd))⟩
  rw[ok.2.2.1 hwt];exact VR.undef Z
 |true =>
  simp only[if_true]
  have hev:=uS (ops:=l.toArray) h.post.rel hlk (hok _ hmem)
  refine ⟨fun _ _=>trivial,?_⟩
  show e.o.uponIn (Fw ro) 0 P a K Qr ((e.o.semAt ro a.eval).run P w)
  rw[jC (hok _ hmem)]
  rcases ok.2.1 xX hwt with ⟨rd,h1,h2,h3,h4⟩|⟨ob,h1,h2,h3,h4⟩
  ·have hoa:∀id,rd=some id->kL Z e.H w id:=by
    intro id hid
    have hcn:∀o,e.H[id]?=some o->H[id]?=some o:=fun o g2=>by
     have hx:id<e.H.length:=(List.getElem?_eq_some_iff.1 g2).1
     have:=h.content hs hun (by rw[h3];exact hid) (by rw[h2];exact hx)
     rw[h2]at this
     rw[this];exact g2
    exact ⟨fun r o g1 g2=>h.post.rel.obj id r o g1 (hcn o g2),fun k r z cs m=>h.post.rel.fam.obj id k r z cs ⟨m.g,hcn _ m.h,m.a⟩⟩
   obtain ⟨v',g1,g2⟩:=oY (w:=w) h1 hev hoa (fun b m hb=>(h.post.rel.mem b m hb).1)
   rw[g1]
   exact hK Z _ w (h.yt db he hi hun (Ren.le_refl _) h.post g2 (fun x hx _ hl hc hw=>h.al x hx hl hc hw) (fun d hd=>ed (hok _ hmem) d hd))
  ·have hno:=h.al e he hun h4 hwt
   obtain ⟨v',obj,ri,g1,g2,g3,g4⟩:=ny h1 hev hno w
   rw[g1]
   have hob:H[e.H.length]?=some ob:=by
    rw[h.content hs hun h3 (by rw[h2];simp),h2]
    simp
   have hlt:e.H.length<H.length:=(List.getElem?_eq_some_iff.1 hob).1
   refine hK _ _ _ (h.yt db he hi hun (Ren.dO hno) (h.post.late hlt hc.len hob hno g2 g4) g3 (fun x hx hxe hl hc2 hw2 =>?_) (fun d hd=>ed (hok _ hmem) d hd))
   have hx0:=h.al x hx hl hc2 hw2
   rw[Ren.aP]
   ·exact hx0
   ·-- two operations that make a block make two blocks
    intro heq
    obtain ⟨p1,p2,hs2⟩:=List.append_of_mem hx
    have he':=he
    rw[hs2]at he'
    simp only[List.mem_append,List.mem_cons]at he'
    have C9:=(h.ch.split p1 x p2 hs2).1
    have Bo:dF x.o=false:=by
     cases hh:dF x.o with
     |false=>rfl
     |true=>rw[h.hot x hx hh]at hl;cases hl
    rcases he' with he'|rfl|he'
    ·obtain ⟨q1,q2,rfl⟩:=List.append_of_mem he'
     have h5:=(h.ch.split (q1++e :: q2) x p2 hs2).2.2.1
     have h6:=(h5.split q1 e q2 rfl).2.2.2.1
     rw[h2]at h6
     simp at h6
     omega
    ·exact hxe rfl
    ·obtain ⟨q1,q2,rfl⟩:=List.append_of_mem he'
     have h5:=(h.ch.split (p1++x :: q1) e q2 (by rw[hs2];simp)).2.2.1
     have h6:=(h5.split p1 x q1 rfl).2.2.2.1
     rcases C9.2.1 Bo hw2 with ⟨_,_,_,_,k4⟩|⟨ob2,_,k2,_,_⟩
     ·rw[k4]at hc2;cases hc2
     ·rw[k2]at h6;simp at h6;omega
end
end Go.K
namespace Go.K
variable {P:Program}
section
variable {B base N:Nat} {M:List Nat} {l:List Oper} {ord:List Nat} {T0:Tm} {ρ0:Ren} {H0:Heap} {w0:World} {ds:List Deferred} {Q:Tm->Heap->Prop}
 {es:List Ent} {rest:List Nat} {H:Heap} {log:List (Nat×Option Nat)} {Z:Ren} {a:Act} {w:World} {listed:Array Bool}
theorem Inv.uW(db:jA l ord)(hbase:base<=H0.length){j:Nat}{is:List Nat}(h:Inv P B base N M l ord T0 ρ0 H0 w0 ds Q es (j :: is) H log Z a w listed){o:Oper}(ho:l.toArray[j]?=some o)(hh:dF o=true)
  (hi:j∈Region.ready .any l.toArray listed) {ρ':Ren} {w':World} {v v':Value} {H':Heap} {ms:List Nat} (hp:Post P B H.length ms Z H w ρ' H' w') (hms:∀id∈ms,id<base->id∈M) (hv:VR ρ' v v') (hlo:Loose (dH l []) j log ms)
  (hun:cB o l.toArray (cf T0 es)=false->v=undef) (hkn:gv o l.toArray (cf T0 es)=true) (hdst:∀d,o.dst=some d->d<N) (hk:gR P base M (dH l []) l.toArray is (put (cf T0 es) o.dst v) H' log Q) :
  ∃es',Inv P B base N M l ord T0 ρ0 H0 w0 ds Q es' is H' log ρ' (a.put o.dst v') w' (listed.setIfInBounds j true):=by
 have hme:∀x,x∈es->l.toArray[x.i]?=some x.o:=fun x hx=>h.ent hx
 have hlt:j<listed.size:=by
  rw[h.lsz]
  have:=(Array.getElem?_eq_some_iff.1 ho).1
  simpa using this
 have hset:=fj hlt
 have hne:∀x∈es,x.i≠j/\(∀d,x.o.dst=some d->o.dst≠some d):=by
  intro x hx
  obtain ⟨p1,p2,hs⟩:=List.append_of_mem hx
  have pk:=h.Ar db hs rfl
  exact ⟨pk.ne,fun d h1=>pk.ssa x.o o d (hme x hx) ho h1⟩
 have hup:∀k,listed.getD k false=true->(listed.setIfInBounds j true).getD k false=true:=by
  intro k hk;rw[hset];split <;> first|rfl|exact hk
 have uM:∀x∈es,(listed.setIfInBounds j true).getD x.i false=listed.getD x.i false:=by
  intro x hx;rw[hset,if_neg (hne x hx).1]
 have hlen:=h.ch.len
 refine ⟨es ++ [⟨j,o,cf T0 es,H,v,H',none,ms⟩],Chain.snoc h.ch rfl rfl ⟨⟨ho,hkn⟩,fun h1 =>?_,hun,fun h1 =>?_,hp.len,fun id h1 h2=>hp.same id h1 h2⟩,by rw[<- h.ord];simp,fun x hx hx2 =>?_,fun i hi2 =>?_,h.post.trans (hp.weaken (by omega) (fun id h1 h2=>hms id h1 h2)),
  by rw[re];exact h.size,fun x hx hl t ht =>?_,fun t ht hn =>?_,fun x hx hl hc hw =>?_,?_,fun y hy x hrd =>?_,fun k hk i hd =>?_,by simp[h.lsz],by rw[put_defers];exact h.dn,by rw[fe];exact hk⟩
 ·rw[show dF o=true from hh]at h1;cases h1
 ·rw[show dF o=true from hh]at h1;cases h1
 ·simp only[List.mem_append,List.mem_singleton]at hx
  rcases hx with hx|rfl
  ·exact hup _ (h.hot x hx hx2)
  ·rw[hset,if_pos rfl]
 ·rw[hset,if_neg]
  ·exact h.un i (List.mem_cons_of_mem _ hi2)
  ·intro e
   obtain ⟨r1,r2,hr⟩:=List.append_of_mem hi2
   exact (db.pair (es.map (·.i)) j r1 i r2 (by rw[<- h.ord,hr])).ne e.symm
 ·simp only[List.mem_append,List.mem_singleton]at hx
  rcases hx with hx|rfl
  ·rw[uM x hx]at hl
   rw[eH ((hne x hx).2 t ht)]
   exact (h.tA x hx hl t ht).mono hp.ext
  ·have ht':o.dst=some t:=ht
   rw[ht',gz (by rw[h.size];exact hdst t ht')]
   exact hv
 ·rw[eH (hn ⟨j,o,cf T0 es,H,v,H',none,ms⟩ (by simp) (by rw[hset,if_pos rfl]))]
  exact (h.tB t ht (fun x hx hl=>hn x (by simp[hx]) (hup _ hl))).mono hp.ext
 ·simp only[List.mem_append,List.mem_singleton]at hx
  rcases hx with hx|rfl
  ·rw[uM x hx]at hl
   have hno:=h.al x hx hl hc hw
   cases hq:ρ' x.H.length with
   |none=>rfl
   |some r =>
    have h1:=hp.new _ r hq hno
    obtain ⟨p1,p2,hs⟩:=List.append_of_mem hx
    obtain ⟨ok,_,_,h3,_⟩:=h.ch.split p1 x p2 hs
    have xX:dF x.o=false:=by unfold dF;rw[hc]
    rcases ok.2.1 xX hw with ⟨_,_,_,_,k4⟩|⟨ob2,_,k2,_,_⟩
    ·rw[k4]at hc;cases hc
    ·rw[k2]at h3;simp at h3;omega
  ·have hc':d6 o.op = .alloc:=hc
   unfold dF at hh
   rw[hc']at hh;cases hh
 ·intro pre y post hsp z hz rV jq x hrd
  rcases List.eq_nil_or_concat post with rfl|⟨post',q,rfl⟩
  ·cases hz
  ·have he2:es ++ [⟨j,o,cf T0 es,H,v,H',none,ms⟩]=(pre++y :: post') ++ [q]:=by rw[hsp];simp
   obtain ⟨h1,h2⟩:=List.append_inj' he2 (by simp)
   simp at h2;subst h2
   simp only[List.concat_eq_append,List.mem_append,List.mem_singleton]at hz
   rcases hz with hz|rfl
   ·exact h.loose pre y post' h1 z hz rV jq x hrd
   ·exact hlo _ (h.lg y (by rw[h1];simp) x hrd) jq x rfl
 ·simp only[List.mem_append,List.mem_singleton]at hy
  rcases hy with hy|rfl
  ·exact h.lg y hy x hrd
  ·cases hrd
 ·rw[hset]at hk
  split at hk
  ·rename_i hkj;subst hkj;exact hup _ (fQ h hi i hd)
  ·exact hup _ (h.cl k hk i hd)
theorem Inv.zL(hok:∀o∈l,jo N P.globals.size o=true)(db:jA l ord)(hbase:base<=H0.length){j:Nat}{is:List Nat}(h:Inv P B base N M l ord T0 ρ0 H0 w0 ds Q es (j :: is) H log Z a w listed){o:Oper}(ho:l.toArray[j]?=some o)(hh:dF o=true)
  (hi:j∈Region.ready .any l.toArray listed) {ro:Option Nat} {Qr:Exit->Act->World->Prop} {K:Act->World->Prop}
  (hK:∀es' H' ix ρ' a' w',Inv P B base N M l ord T0 ρ0 H0 w0 ds Q es' is H' ix ρ' a' w' (listed.setIfInBounds j true)->K a' w'):wpOpIn (Fw ro) 0 P l.toArray Qr j K a w:=by
 have hmem:o∈l:=by simp at ho;exact List.mem_of_getElem? ho
 have hlk:=h.A9 db rfl ho hi
 have hdst:∀o∈l.toArray,∀d,o.dst=some d->d<N:=fun o ho d hd=>ed (hok o (by simpa using ho)) d hd
 have hk:=h.k
 simp only[gR,ho]at hk
 obtain ⟨hkn,hk⟩:=hk
 have hw:=lA (Z:=Z) (T:=cf T0 es) (ops:=l.toArray) h.size hdst (o:=o) hlk hkn
 have hlen:=h.ch.len
 unfold wpOpIn
 rw[ho]
 simp only[hw]
 cases hwt:cB o l.toArray (cf T0 es) with
 |false =>
  rw[hwt]at hk
  simp only[Bool.false_eq_true,if_false]at hk ⊢
  refine ⟨fun _ _=>trivial,?_⟩
  obtain ⟨es',h'⟩:=h.uW db hbase ho hh hi (v:=undef) (v':=undef) (ms:=[]) (Post.refl h.post.rel) (fun _ h=>by cases h) (VR.undef Z) (Loose.nil _ _ _) (fun _=>rfl) hkn (fun d hd=>ed (hok _ hmem) d hd) hk
  exact hK _ _ _ _ _ _ h'
 |true =>
  rw[hwt]at hk
  simp only[if_true]at hk ⊢
  have hev:=uS (ops:=l.toArray) h.post.rel hlk (hok _ hmem)
  have fin:∀(v v':Value) (ρ':Ren) (H':Heap) (w':World) (ms:List Nat),Post P B H.length ms Z H w ρ' H' w'->(∀id∈ms,id<base->id∈M)->VR ρ' v v'->Loose (dH l []) j log ms->gR P base M (dH l []) l.toArray is (put (cf T0 es) o.dst v) H' log Q->K (a.put o.dst v') w':=by
   intro v v' ρ' H' w' ms h1 h2 h3 h4 h5
   obtain ⟨es',h'⟩:=h.uW db hbase ho hh hi h1 h2 h3 h4 (fun hf=>by rw[hwt]at hf;cases hf) hkn (fun d hd=>ed (hok _ hmem) d hd) h5
   exact hK _ _ _ _ _ _ h'
  refine ⟨fun _ _=>trivial,?_⟩
  show o.uponIn (Fw ro) 0 P a K Qr ((o.semAt ro a.eval).run P w)
  rw[jC (hok _ hmem)]
  unfold qx at hk
  unfold dF at hh
  split at hk
  ·rename_i hc;rw[hc]at hh;cases hh
  ·rename_i hc;rw[hc]at hh;cases hh
  ·obtain ⟨v,H',wr,h1,h2,h3,h4⟩:=hk
   obtain ⟨v',w',ρ',g1,g2,g3⟩:=nb (base:=H.length) (M:=wr) h1 hev h.post.rel (fun id hid _=>hid) (Nat.le_refl _)
   rcases g1 with g1|⟨g1,g4⟩
   ·rw[g1];exact fin v v' ρ' H' w' wr g3 h2 g2 h3 h4
   ·rw[g1];rw[g4]at g2;exact fin v undef ρ' H' w' wr g3 h2 g2 h3 h4
  ·split at hk
   ·rename_i f args tys hop
    obtain ⟨Mc,h1,h2,h3⟩:=hk
    have hrun:execOp a.eval o=(do let d<-Deferred.ofValue (a.eval f) (args.map a.eval);invoke d.target d.args:Sem Next):=by
     obtain ⟨dst,op,ty,pos,after,guard⟩:=o
     simp only at hop
     subst hop
     rfl
    have hop2:∀x,x∈(#[f]++args)->x∈o.op.operands:=by
     intro x hx
     obtain ⟨dst,op,ty,pos,after,guard⟩:=o
     simp only at hop
     subst hop
     simpa[Op.operands,Call.operands] using hx
    have:=h1 B Z w (a.eval f) (args.map a.eval) h.post.rel (hev f (hop2 f (by simp))) (by
     rw[Array.toList_map]
     exact mi (fun x hx=>hev x (hop2 x (by simp[Array.mem_toList_iff.1 hx]))))
    rw[hrun]
    generalize ((do let d<-Deferred.ofValue (a.eval f) (args.map a.eval);invoke d.target d.args:Sem Next)).run P w=r at this
    unfold Hands at this
    split at this
    ·rename_i g xs w1
     refine ⟨fun h=>by simp[Fw,Fence.wide]at h,?_⟩
     show CallsIn (Fw ro) 0 P g xs w1 _
     refine CallsIn.mono (F:=Fw ro) this ?_
     rintro e w' ⟨v,v',ρ',H',rfl,g2,g3,g4⟩
     exact fin v v' ρ' H' w' Mc g3 h2 g2 h3 g4
    ·rename_i q g tm asg bd w1
     refine ⟨fun h=>by simp[Fw,Fence.wide]at h,?_⟩
     show RoundIn (Fw ro) 0 P q g tm asg bd w1 _
     refine RoundIn.mono (F:=Fw ro) this ?_
     rintro e w' ⟨v,v',ρ',H',rfl,g2,g3,g4⟩
     exact fin v v' ρ' H' w' Mc g3 h2 g2 h3 g4
    ·exact this.elim
   ·exact hk.elim
  ·exact hk.elim
  ·exact hk.elim
theorem wi(hok:∀o∈l,jo N P.globals.size o=true)(db:jA l ord)(hbase:base<=H0.length){ro:Option Nat}{Qr:Exit->Act->World->Prop}
  (hQ:∀ρ' T' H' w' a',Post P B base M ρ0 H0 w0 ρ' H' w'->TR ρ' N T' a'.tmps->a'.defers=ds->Q T' H'->Qr .normal a' w') :
  ∀(fuel:Nat) (u:List Nat) {es:List Ent} {rest:List Nat} {H:Heap} {log:List (Nat×Option Nat)} {Z:Ren} {a:Act} {w:World} {listed:Array Bool},u.length<=fuel->(∀i,i<l.length->listed.getD i false=false->i∈u) ->
   Inv P B base N M l ord T0 ρ0 H0 w0 ds Q es rest H log Z a w listed->wpAnyIn (Fw ro) 0 P .any l.toArray Qr fuel listed a w:=by
 intro fuel
 induction fuel with
 |zero =>
  intro u es rest H log Z a w listed hu zO h
  obtain rfl:u=[]:=List.length_eq_zero_iff.1 (by omega)
  obtain ⟨es',rest',H',ix,h',hhead⟩:=h.advance hbase
  have hall:∀i,i<l.length->listed.getD i false=true:=by
   intro i hi
   cases hl:listed.getD i false with
   |true=>rfl
   |false=>have:=zO i hi hl;cases this
  have hrest:rest'=[]:=by
   cases rest' with
   |nil=>rfl
   |cons i is =>
    have h1:=h'.un i (List.mem_cons_self ..)
    have h2:=hall i (db.lt i (by rw[<- h'.ord];simp))
    rw[h1]at h2;cases h2
  subst hrest
  refine ⟨?_,?_⟩
  ·cases hr:Region.ready .any l.toArray listed with
   |nil=>rfl
   |cons i is =>
    have hi:i∈Region.ready .any l.toArray listed:=by rw[hr];simp
    obtain ⟨h1,o,ho,_⟩:=mem_ready.1 hi
    have hlt:i<l.length:=by have:=(Array.getElem?_eq_some_iff.1 ho).1;simpa using this
    have h2:=hall i hlt
    rw[qL (by rw[h.lsz];exact hlt) h1]at h2;cases h2
  ·have hk:=h'.k
   simp only[gR]at hk
   refine hQ Z (cf T0 es') H' w a h'.post ⟨h'.size,fun t ht =>?_⟩ h'.dn hk
   have hld:∀e∈es',listed.getD e.i false=true:=fun e he=>hall e.i (db.lt e.i (by rw[<- h'.ord];simp only[List.append_nil,List.mem_map];exact ⟨e,he,rfl⟩))
   by_cases hw:∃y∈es',y.o.dst=some t
   ·obtain ⟨y,hy,hd⟩:=hw
    obtain ⟨p1,p2,hs⟩:=List.append_of_mem hy
    have:cf T0 es' t=y.v:=by
     rw[hs]
     refine iP hd (fun x hx =>?_)
     obtain ⟨q1,q2,rfl⟩:=List.append_of_mem hx
     exact (h'.mQ db hs).ssa y.o x.o t (h'.ent hy) (h'.ent (by rw[hs];simp)) hd
    rw[this]
    exact h'.tA y hy (hld y hy) t hd
   ·rw[iQ (fun x hx hd=>hw ⟨x,hx,hd⟩)]
    exact h'.tB t ht (fun x hx _ hd=>hw ⟨x,hx,hd⟩)
 |succ fuel ih =>
  intro u es rest H log Z a w listed hu zO h
  obtain ⟨es',rest',H',ix,h',hhead⟩:=h.advance hbase
  have Bq:Region.ready .any l.toArray listed=[]->∀i,i<l.length->listed.getD i false=true:=by
   intro hnil
   have key:∀(pre post:List Nat),ord=pre++post->∀i∈pre,listed.getD i false=true:=by
    intro pre
    induction pre using mE with
    |h0=>intro post _ i hi;cases hi
    |h1 pre j ihp =>
     intro post he i hi
     have hpre:=ihp (j :: post) (by rw[he];simp)
     simp only[List.mem_append,List.mem_singleton]at hi
     rcases hi with hi|rfl
     ·exact hpre i hi
     ·cases hl:listed.getD i false with
      |true=>rfl
      |false =>
       exfalso
       have hlt:i<l.length:=db.lt i (by rw[he];simp)
       have:i∈Region.ready .any l.toArray listed:=by
        refine mem_ready.2 ⟨?_,l[i],by simp[hlt],fun e hee hb =>?_⟩
        ·have hls:i<listed.size:=by rw[h.lsz];exact hlt
         simpa[Array.getD,hls] using hl
        ·have hol:l[i]?=some l[i]:=List.getElem?_eq_getElem hlt
         have hon:=db.edges i _ hol e hee hb
         have jq:=zZ hol hee hb
         have hin:=db.all e.on hon
         rw[he]at hin
         simp only[List.append_assoc,List.mem_append,List.mem_singleton]at hin
         rcases hin with hin|hin|hin
         ·exact hpre _ hin
         ·rw[hin]at jq;rw[db.irr i hlt]at jq;cases jq
         ·obtain ⟨r1,r2,rfl⟩:=List.append_of_mem hin
          have:=(db.pair pre i r1 e.on r2 (by rw[he];simp)).order
          rw[this]at jq;cases jq
       rw[hnil]at this;cases this
   intro i hi
   exact key ord [] (by simp) i (db.all i hi)
  refine ⟨fun hnil =>?_,fun i hi =>?_⟩
  ·have hall:=Bq hnil
   have:=ih [] (by simp) (fun i hi hl=>by rw[hall i hi]at hl;cases hl) h
   cases fuel with
   |zero=>exact this.2
   |succ f=>exact this.1 hnil
  ·obtain ⟨h1,o,ho,_⟩:=mem_ready.1 hi
   have hlt:i<l.length:=by have:=(Array.getElem?_eq_some_iff.1 ho).1;simpa using this
   have hun:=qL (by rw[h.lsz];exact hlt) h1
   have hset:=fj (show i<listed.size by rw[h.lsz];exact hlt)
   have hnext:(u.erase i).length<=fuel:=by
    have hm:=zO i hlt hun
    rw[List.length_erase_of_mem hm];omega
   have Az:∀k,k<l.length->(listed.setIfInBounds i true).getD k false=false->k∈u.erase i:=by
    intro k hk hl
    rw[hset]at hl
    split at hl
    ·cases hl
    ·rename_i hne
     exact (List.mem_erase_of_ne hne).2 (zO k hk hl)
   have hin:i∈es'.map (·.i)++rest':=by rw[h'.ord];exact db.all i hlt
   simp only[List.mem_append,List.mem_map]at hin
   rcases hin with ⟨e,he,rfl⟩|hin
   ·exact h'.late hok db hbase he hi hun (fun ρ' a' w' hI=>ih _ hnext Az hI)
   ·cases rest' with
    |nil=>cases hin
    |cons j is =>
     obtain ⟨oj,hoj,rV⟩:=hhead j is rfl
     have hij:i=j:=by
      rcases List.mem_cons.1 hin with rfl|hin
      ·rfl
      ·exfalso
       obtain ⟨r1,r2,rfl⟩:=List.append_of_mem hin
       have pk:=db.pair (es'.map (·.i)) j r1 i r2 h'.ord.symm
       have hd:=pk.hot oj hoj rV
       have:=fQ h' hi j hd
       rw[h'.un j (List.mem_cons_self ..)]at this;cases this
     subst hij
     exact h'.zL hok db hbase hoj rV hi (fun es2 H2 log2 ρ2 a2 w2 hI=>ih _ hnext Az hI)
end
theorem KW.draw{ro:Option Nat}{N base:Nat}{M:List Nat}{T:Tm}{H:Heap}{Q:Exit->Tm->Heap->Prop}{id:Nat}{l:List Oper}(hm:P.follows .mixedOrders=true)(hok:l.all (jo N P.globals.size)=true)(ord:List Nat)(db:uq l ord=true)
  (h:gR P base M (dH l []) l.toArray ord T H [] (fun T' H'=>Q .normal T' H')):KW P ro N base M (.region id l.toArray true) T H Q:=by
 intro B Z w a n0 h1 h2 h3 h4 h5
 refine wpIn_region_any hm ?_
 rw[List.all_eq_true]at hok
 have hos:=ta db
 have hfalse:∀j,(Array.replicate l.toArray.size false).getD j false=false:=by intro j;simp[Array.getD]
 refine wi (B:=B) (base:=base) (N:=N) (M:=M) (T0:=T) (ρ0:=Z) (H0:=H) (w0:=w) (ds:=a.defers) (Q:=fun T' H'=>Q .normal T' H') (fun o ho=>hok o ho) hos h2 ?_ l.toArray.size (List.range l.length) (es:=[]) (rest:=ord) (H:=H) (log:=[]) (Z:=Z) (by simp) (fun i hi _=>by simpa using hi) ?_
 ·intro ρ' T' H' w' a' hp hT hd hq
  exact ⟨ρ',T',H',hp,hT,by rw[hd];exact DOK.post h1 h5 hp,hq⟩
 ·refine ⟨Chain.nil,by simp,fun e he=>(by cases he),fun i _=>hfalse i,Post.drew h1,h3.1,fun e he=>(by cases he),fun t ht _=>h3.2 t ht,fun e he=>(by cases he),fun pre e post he=>(by simp at he),fun e he=>(by cases he),fun j hj =>?_,by simp,rfl,h⟩
  rw[hfalse j]at hj;cases hj
end Go.K
namespace Go.K
variable {P:Program}
theorem Post.besides{B base:Nat}{M:List Nat}{Z:Ren}{H:Heap}{w:World}(hr:Rel P B Z H w)(o:Obj):Post P B base M Z H w Z H (w.alloc o):=by
 have hold:∀k,k<w.heap.size->(w.alloc o).heap[k]?=w.heap[k]? := fun k hk=>RowKit.Below.heap_alloc w o k hk
 refine ⟨⟨by simp;have:=hr.bsize;omega,hr.dR,hr.dom,fun id r h=>by have:=hr.lt _ _ h;simp;omega,fun id r ob h1 h2 =>?_,hr.base,hr.sep,fun b m hm=>⟨let ⟨ty,fz,e⟩:=(hr.mem b m hm).1; ⟨ty,fz,(hold b (Array.getElem?_eq_some_iff.1 e).1).trans e⟩,(hr.mem b m hm).2⟩,hr.fam.keep (Ren.le_refl _) (fun _ _ _ h=>h) (fun _ _ _ _ h=>h) (Nat.le_refl _) (by simp) (fun b hb=>by
   rcases Nat.lt_or_ge b w.heap.size with hl|hl
   ·exact hold b hl
   ·exact absurd hb (hr.fam.nJ hl)) (fun id r o a b c=>hr.fam.free a b c) (fun b m a=>hr.fam.eI a)⟩,Ren.le_refl _,fun id r a b=>(by rw[b]at a;cases a),Nat.le_refl _,fun _ _ _=>rfl,by simp,fun b h1 _=>hold b h1,fun _ _ h=>h,rfl,rfl,rfl,fun _ _ h => .inl h,by first|exact Nat.le_refl _|exact Nat.le_succ _,fun F k r a b=>(by rw[b]at a;cases a)⟩
 exact (hr.obj id r ob h1 h2).mono (Ren.le_refl _) (hold _ (hr.lt _ _ h1))
theorem KW.rangeFunc{N base:Nat}{M Mc:List Nat}{T:Tm}{H:Heap}{Q:Exit->Tm->Heap->Prop}{t:Nat}{ps:Array Tmp}{assign body:Code}{gf:FuncId}{first cap:Array Value}
  (ht:t<N) (hg:T t = .func (.func gf) first cap)
  (h:am P gf (first.toList ++ [.func (.yield H.length) #[] #[]]++cap.toList) (H ++ [.loop .ready none T N ps assign body]) Mc
   (fun _ H' => ∃st pe tm' N' ps' as' bd',H'[H.length]?=some (.loop st pe tm' N' ps' as' bd')/\st ≠ .busy /\
    (match pe with|none=>Q .normal T (H'.set H.length .dead)|some c=>KW P none N base M c T (H'.set H.length .dead) Q)))
  (hM:∀id∈Mc,id<base->id∈M):KW P none N base M (.rangeFunc (.tmp t) ps assign body) T H Q:=by
 intro B Z w a n0 h1 h2 h3 h4 h5
 refine wpIn_rangeFunc (fun fn hfn =>?_)
 obtain ⟨rec,hrec⟩:∃rec:Loop,rec = { state:=.ready,pending:=none,fn,tmps:=a.tmps,params:=ps,assign,body,defers:=w.heap.size }:=⟨_,rfl⟩
 have p0:Post P B base M Z H w Z H (w.alloc (.deferred (some []))):=Post.besides h1 _
 have hnone:Z H.length=none:=by
  cases hq:Z H.length with
  |none=>rfl
  |some r=>exact absurd (h1.dom _ _ hq) (Nat.lt_irrefl _)
 have hl:((w.alloc (.deferred (some []))).alloc (.loop rec)).heap[w.heap.size+1]?=some (.loop rec):=by
  have:=World.alloc_heap_new (w.alloc (.deferred (some []))) (.loop rec);rwa [World.size_alloc]at this
 have hle:Ren.le Z (Z.set H.length ⟨w.heap.size+1,0,0,0,true⟩):=Ren.dO hnone
 have p1:Post P B base M Z H (w.alloc (.deferred (some []))) (Z.set H.length ⟨w.heap.size+1,0,0,0,true⟩) (H ++ [.loop .ready none T N ps assign body]) ((w.alloc (.deferred (some []))).alloc (.loop rec)):=by
  refine Post.alloc p0.rel (by simp) h2 ⟨rfl,rec,hl,?_⟩
  subst hrec
  exact ⟨rfl,rfl,rfl,rfl,rfl,h3.1,fun t ht=>(h3.2 t ht).mono hle⟩
 have pp:=p0.trans p1
 have hv:=(h3.2 t ht).mono hle
 rw[hg]at hv
 obtain ⟨W1,hW1⟩:∃W1,(w.alloc (.deferred (some []))).alloc (.loop rec)=W1:=⟨_,rfl⟩
 rw[hW1]at pp hl
 have hD:W1.heap[w.heap.size]?=some (.deferred (some [])):=by
  rw[<- hW1]
  exact (RowKit.Below.heap_alloc _ _ _ (by simp)).trans (World.alloc_heap_new w _)
 have Dg:DOK n0 ({ target:=.collected w.heap.size,args:=#[] } :: a.defers) W1:=by
  obtain ⟨Ds,k1,k2,k3⟩:=DOK.post h1 h5 pp
  obtain ⟨Ds0,j1,j2,j3⟩:=h5
  have hDs:∀D∈Ds,D≠w.heap.size:=by
   intro D hmem e
   subst e
   have:Ds=Ds0:=(List.map_inj_right (fun x y hxy=>by cases hxy;rfl)).1 (k1.symm.trans j1)
   subst this
   have:=(Array.getElem?_eq_some_iff.1 (j3 _ hmem).2).1
   omega
  refine ⟨w.heap.size :: Ds,by rw[k1];rfl,List.pairwise_cons.2 ⟨fun D hm=>(hDs D hm).symm,k2⟩,fun D hm =>?_⟩
  rcases List.mem_cons.1 hm with rfl|hm
  ·exact ⟨h4,hD⟩
  ·exact k3 D hm
 have hev:a.eval (.tmp t)=a.tmps.getD t undef:=rfl
 cases hx:a.tmps.getD t undef with
 |func f' first' cap' =>
  rw[hx]at hv
  cases hv with
  |func g1 g2 g3 g4 =>
  refine ⟨w.heap.size+1,[{ target:=.collected w.heap.size,args:=#[] }],W1,{ target:=.fn (.func gf) cap',args:=first' ++ #[.func (.yield (w.heap.size+1)) #[] #[]] },W1,gf,
   first' ++ #[.func (.yield (w.heap.size+1)) #[] #[]]++cap',W1,?_,?_,?_,?_,fun h=>by simp[Fw,Fence.wide]at h,?_⟩
  ·rw[<- hW1,hrec];exact run_enterLoop_outer _ _ _ _ _
  ·simp only[resolve,hev,hx]
   simp[go_sem]
  ·intro f' _;trivial
  ·simp only[invoke];exact h.1 _ _
  ·show CallsIn (Fw none) 0 P gf _ W1 _
   have l1:VRl (Z.set H.length ⟨w.heap.size+1,0,0,0,true⟩) first.toList first'.toList:=⟨by simpa using g1,fun i a b x y=>g2 i a b (by simpa using x) (by simpa using y)⟩
   have l2:VRl (Z.set H.length ⟨w.heap.size+1,0,0,0,true⟩) cap.toList cap'.toList:=⟨by simpa using g3,fun i a b x y=>g4 i a b (by simpa using x) (by simpa using y)⟩
   have ly:VR (Z.set H.length ⟨w.heap.size+1,0,0,0,true⟩) (.func (.yield H.length) #[] #[]) (.func (.yield (w.heap.size+1)) #[] #[]) :=
    VR.yield (r:=⟨w.heap.size+1,0,0,0,true⟩) (Ren.aQ ..)
   refine CallsIn.mono (F:=Fw none) (h.2 B _ W1 _ pp.rel (by
    rw[Array.toList_append,Array.toList_append]
    exact VRl.append (VRl.append l1 (.cons ly (.nil _))) l2)) ?_
   rintro e w' ⟨v,v',ρ',H',rfl,q2,q3,st,pe,tm',N',ps',as',bd',q5,q6,q7⟩
   have hid:ρ' H.length=some ⟨w.heap.size+1,0,0,0,true⟩:=q3.ext _ _ (Ren.aQ ..)
   obtain ⟨o1,lr,o2,o3,o4,_⟩:=q3.rel.obj _ _ _ hid q5
   have pe1:Post P B base M Z H w ρ' H' w':=pp.trans (q3.weaken (by simp;omega) hM)
   have pe2:Post P B base M ρ' H' w' ρ' (H'.set H.length .dead) (w'.putObj (w.heap.size+1) (.loop { lr with state:=.exhausted })) :=
    Post.put q3.rel hid q5 rfl (by rw[o2];rfl) trivial (fun hlt=>absurd hlt (by omega))
   refine ⟨pe,w'.putObj (w.heap.size+1) (.loop { lr with state:=.exhausted }),?_,?_⟩
   ·rw[<- o4];exact run_endLoop o2 (by rw[o3];exact q6)
   ·have zl:=pe1.trans pe2
    have hT:=h3.mono (pe1.ext)
    have hd2:DOK n0 ([{ target:=.collected w.heap.size,args:=#[] }]++a.defers) (w'.putObj (w.heap.size+1) (.loop { lr with state:=.exhausted })):=DOK.post q3.rel (DOK.post pp.rel Dg q3) pe2
    cases pe with
    |none=>exact ⟨ρ',T,_,zl,hT,hd2,q7⟩
    |some c =>
     refine wpIn_mono (q7 B ρ' _ { a with defers:=[{ target:=.collected w.heap.size,args:=#[] }]++a.defers } n0 pe2.rel (Nat.le_trans h2 zl.len) hT (Nat.le_trans h4 zl.size) hd2) ?_
     rintro e a2 w2 ⟨ρ2,T2,H2,r1,r2,r3,r4⟩
     exact ⟨ρ2,T2,H2,zl.trans r1,r2,r3,r4⟩
 |_=>rw[hx]at hv;cases hv
def tD:Exit->Option (Option Code)
 | .normal=>some none
 | .ret=>some (some .ret)
 | .exit id=>some (some (.exit id))
 | .goto t=>some (some (.goto t))
 |_=>none
def AZ(L:Nat)(Q:Value->Heap->Prop)(e:Exit)(T:Tm)(H:Heap):Prop :=
 ∃j,tD e=some j/\∃st pe tm N ps as bd,H[L]?=some (.loop st pe tm N ps as bd)/\Q (.bool j.isNone) (H.set L (.loop (if j.isNone then .ready else .done) j tm N ps as bd))
def mH(ps:List Nat)(args:List Value)(T:Tm):Tm:=(ps.zip args).foldl (fun T p=>upd T p.1 p.2) T
theorem TR.mH{Z:Ren}{N:Nat}:∀(ps:List Nat) (args args':List Value) (T:Tm) (tmps:Array Value),TR Z N T tmps->(∀p∈ps,p<N)->VRl Z args args'->TR Z N (mH ps args T) ((ps.zip args').foldl (fun tmps p=>tmps.setIfInBounds p.1 p.2) tmps):=by
 intro ps
 induction ps with
 |nil=>intro args args' T tmps h _ _;exact h
 |cons p ps ih =>
  intro args args' T tmps h hp hv
  cases args with
  |nil =>
   cases args' with
   |nil=>exact h
   |cons _ _=>have:=hv.1;simp at this
  |cons x xs =>
   cases args' with
   |nil=>have:=hv.1;simp at this
   |cons x' xs' =>
    simp only[K.mH,List.zip_cons_cons,List.foldl_cons]
    refine ih xs xs' _ _ ?_ (fun q hq=>hp q (List.mem_cons_of_mem _ hq)) ⟨by have:=hv.1;simpa using this,fun i a b ha hb=>hv.2 (i+1) a b (by simpa using ha) (by simpa using hb)⟩
    exact TR.put (a:={ tmps:=tmps,defers:=[] }) (dst:=some p) h (fun d hd=>by cases hd;exact hp _ (List.mem_cons_self ..)) (hv.2 0 x x' rfl rfl)
theorem gS.yield{L N:Nat}{args:List Value}{H:Heap}{M:List Nat}{Q:Value->Heap->Prop}{tm:Tm}{ps:Array Tmp}{assign body:Code}{pe:Option Code}
  (hL:H[L]?=some (.loop .ready pe tm N ps assign body)) (hps:args.length=ps.size) (hlt:∀p∈ps.toList,p<N) (hM:L∈M)
  (h:∀ro,KW P (some ro) N H.length M assign (mH ps.toList args tm) H (j0 (fun T1 H1 => ∃pe1 tm1 N1 ps1 as1 bd1,H1[L]?=some (.loop .ready pe1 tm1 N1 ps1 as1 bd1) /\
   KW P (some ro) N H.length M body T1 (H1.set L (.loop .busy pe1 tm1 N1 ps1 as1 bd1)) (AZ L Q)) (fun _ _ _=>False))):gS P (.func (.yield L) #[] #[]) args H M Q:=by
 intro B Z w fv' args' hr hf ha
 cases hf with
 | @yield _ r hr' =>
 obtain ⟨o1,lr,o2,o3,o4,o5,o6,o7,o8,o9⟩:=hr.obj _ _ _ hr' hL
 have hrun:((do let d<-Deferred.ofValue (.func (.yield r.b) #[] #[]) args';invoke d.target d.args:Sem Next)).run P w = .ok (.round r.b lr.fn ((lr.params.zip args').foldl (fun tmps (t,a)=>tmps.setIfInBounds t a) lr.tmps) lr.assign lr.body) w:=by
  have:=run_yield (P:=P) (args:=args') o2 (by rw[o5,<- hps];simpa using ha.1.symm)
  simp[Deferred.ofValue,invoke,this]
 rw[hrun]
 show RoundIn Fence.wide 0 P r.b lr.fn _ lr.assign lr.body w _
 refine roundIn_of_wpIn trivial ?_
 have hT:TR Z N (mH ps.toList args tm) ((lr.params.zip args').foldl (fun tmps (t,a)=>tmps.setIfInBounds t a) lr.tmps):=by
  rw[o5]
  have:=TR.mH ps.toList args args'.toList tm lr.tmps ⟨o8,o9⟩ hlt ha
  rw[<- Array.foldl_toList,Array.toList_zip]
  exact this
 rw[o6,o7]
 refine wpIn_mono (h r.b B Z w { tmps:=_,defers:=[] } w.heap.size hr (Nat.le_refl _) hT (Nat.le_refl _) (DOK.nil _ _)) ?_
 rintro e a1 w1 ⟨ρ1,T1,H1,p1,t1,d1,q1⟩
 cases e with
 |normal =>
  obtain ⟨pe1,tm1,N1,ps1,as1,bd1,hL1,hbody⟩:=q1
  have hr1:=p1.ext _ _ hr'
  obtain ⟨x1,lr1,x2,x3,x4,x5,x6,x7,x8,x9⟩:=p1.rel.obj _ _ _ hr1 hL1
  refine ⟨_,run_beginRound x2 x3,?_⟩
  have hlt1:=p1.rel.lt _ _ hr1
  have p2:Post P B H.length M ρ1 H1 w1 ρ1 (H1.set L (.loop .busy pe1 tm1 N1 ps1 as1 bd1)) (w1.putObj r.b (.loop { lr1 with state:=.busy })) :=
   Post.put p1.rel hr1 hL1 rfl (by rw[x2];rfl) ⟨x1,_,World.putObj_heap_same hlt1,rfl,x4,x5,x6,x7,x8,x9⟩ (fun _=>hM)
  refine wpIn_mono (hbody B ρ1 _ a1 w.heap.size p2.rel (Nat.le_trans p1.len p2.len) t1 (Nat.le_trans p1.size p2.size) (DOK.post p1.rel d1 p2)) ?_
  rintro e a3 w3 ⟨ρ3,T3,H3,p3,t3,d3,j,hj,st,pe,tm3,N3,ps3,as3,bd3,hL3,hQ⟩
  have hr3:=p3.ext _ _ hr1
  obtain ⟨y1,lr3,y2,y3,y4,y5,y6,y7,y8,y9⟩:=p3.rel.obj _ _ _ hr3 hL3
  have hlt3:=p3.rel.lt _ _ hr3
  have p4:Post P B H.length M ρ3 H3 w3 ρ3 (H3.set L (.loop (if j.isNone then .ready else .done) j tm3 N3 ps3 as3 bd3)) (w3.putObj r.b (.loop { lr3 with state:=if j.isNone then .ready else .done,pending:=j })) :=
   Post.put p3.rel hr3 hL3 rfl (by rw[y2];rfl) ⟨y1,_,World.putObj_heap_same hlt3,rfl,rfl,y5,y6,y7,y8,y9⟩ (fun _=>hM)
  have hend:=run_endRound (P:=P) j y2
  have hq:CQ P B H.length M Z H w Q (.returned (.bool j.isNone)) (w3.putObj r.b (.loop { lr3 with state:=if j.isNone then .ready else .done,pending:=j })) :=
   ⟨_,_,ρ3,_,rfl,.bool _,((p1.trans p2).trans p3).trans p4,hQ⟩
  cases e <;> simp only[tD,Option.some.injEq,reduceCtorEq]at hj <;> subst hj <;> exact ⟨_,_,hend,hq⟩
 |_=>exact q1.elim
end Go.K
namespace Go.K
noncomputable section
inductive Tr (α:Type) where
 |leaf
 |node (l:Tr α) (v:Option α) (r:Tr α)
section
variable {α:Type}
def Tr.get(t:Tr α):Nat->Option α :=
 Tr.rec (motive:=fun _=>Nat->Option α) (fun _=>none) (fun _ v _ gl gr k=>Bool.rec (motive:=fun _=>Option α) (Bool.rec (motive:=fun _=>Option α) (gr (Nat.div (Nat.sub k 2) 2)) (gl (Nat.div (Nat.sub k 1) 2)) (Nat.beq (Nat.mod k 2) 1)) v (Nat.beq k 0)) t
theorem wh{α:Type}(b:Bool)(x y:α):Bool.rec (motive:=fun _=>α) y x b=bif b then x else y:=by cases b <;> rfl
theorem Tr.nH(k:Nat):(Tr.leaf:Tr α).get k=none:=rfl
theorem Tr.fO(l r:Tr α)(v:Option α)(k:Nat):(Tr.node l v r).get k=bif Nat.beq k 0 then v else bif Nat.beq (k % 2) 1 then l.get ((k-1) / 2) else r.get ((k-2) / 2):=by
 rw[<- wh,<- wh];rfl
def Tr.parts:Tr α->Tr α×Option α×Tr α
 | .leaf=>(.leaf,none,.leaf)
 | .node l v r=>(l,v,r)
def Tr.oe(n:Nat):Tr α->Nat->α->Tr α :=
 Nat.rec (motive:=fun _=>Tr α->Nat->α->Tr α) (fun t _ _=>t)
  (fun _ ih t k x=>Tr.rec (motive:=fun _=>Tr α)
   (Bool.rec (motive:=fun _=>Tr α) (Bool.rec (motive:=fun _=>Tr α) (.node .leaf none (ih .leaf (Nat.div (Nat.sub k 2) 2) x)) (.node (ih .leaf (Nat.div (Nat.sub k 1) 2) x) none .leaf) (Nat.beq (Nat.mod k 2) 1)) (.node .leaf (some x) .leaf) (Nat.beq k 0))
   (fun l v r _ _=>Bool.rec (motive:=fun _=>Tr α) (Bool.rec (motive:=fun _=>Tr α) (.node l v (ih r (Nat.div (Nat.sub k 2) 2) x)) (.node (ih l (Nat.div (Nat.sub k 1) 2) x) v r) (Nat.beq (Nat.mod k 2) 1)) (.node l (some x) r) (Nat.beq k 0)) t) n
theorem Tr.vG(n:Nat)(k:Nat)(x:α):Tr.oe (n+1) .leaf k x=bif Nat.beq k 0 then .node .leaf (some x) .leaf else bif Nat.beq (k % 2) 1 then .node (Tr.oe n .leaf ((k-1) / 2) x) none .leaf else .node .leaf none (Tr.oe n .leaf ((k-2) / 2) x):=by
 rw[<- wh,<- wh];rfl
theorem Tr.vE(n:Nat)(l r:Tr α)(v:Option α)(k:Nat)(x:α):Tr.oe (n+1) (.node l v r) k x=bif Nat.beq k 0 then .node l (some x) r else bif Nat.beq (k % 2) 1 then .node (Tr.oe n l ((k-1) / 2) x) v r else .node l v (Tr.oe n r ((k-2) / 2) x):=by
 rw[<- wh,<- wh];rfl
theorem dv{a b:Nat}(h:a≠b):Nat.beq a b=false:=by
 cases hb:Nat.beq a b with
 |false=>rfl
 |true=>exact absurd (Nat.eq_of_beq_eq_true hb) h
theorem ez{a b:Nat}(h:a=b):Nat.beq a b=true:=by subst h;exact Nat.beq_refl a
theorem Tr.yd:∀(n:Nat) (t:Tr α) (k:Nat) (x:α),k<n->∀i,(Tr.oe n t k x).get i=if i=k then some x else t.get i:=by
 intro n
 induction n with
 |zero=>intro t k x h;omega
 |succ n ih =>
  intro t k x h i
  have hd:∀(l r:Tr α) (v:Option α),(bif Nat.beq k 0 then Tr.node l (some x) r else bif Nat.beq (k % 2) 1 then .node (Tr.oe n l ((k-1) / 2) x) v r else .node l v (Tr.oe n r ((k-2) / 2) x)).get i=if i=k then some x else (Tr.node l v r).get i:=by
   intro l r v
   rcases Nat.eq_zero_or_pos k with rfl|hk
   ·rw[ez rfl,cond_true,Tr.fO,Tr.fO]
    by_cases hi:i=0
    ·subst hi;rfl
    ·rw[dv hi,cond_false,cond_false,if_neg hi]
   ·rw[dv (show k≠0 by omega),cond_false]
    by_cases hm:k % 2=1
    ·rw[ez hm,cond_true,Tr.fO,Tr.fO]
     by_cases hi:i=0
     ·subst hi;rw[ez rfl,cond_true,cond_true,if_neg (by omega)]
     ·rw[dv hi,cond_false,cond_false]
      by_cases hmi:i % 2=1
      ·rw[ez hmi,cond_true,cond_true,ih _ _ _ (by omega)]
       by_cases e:i=k
       ·subst e;simp
       ·rw[if_neg e,if_neg (by omega)]
      ·rw[dv hmi,cond_false,cond_false,if_neg (by intro e;subst e;exact hmi hm)]
    ·rw[dv hm,cond_false,Tr.fO,Tr.fO]
     by_cases hi:i=0
     ·subst hi;rw[ez rfl,cond_true,cond_true,if_neg (by omega)]
     ·rw[dv hi,cond_false,cond_false]
      by_cases hmi:i % 2=1
      ·rw[ez hmi,cond_true,cond_true,if_neg (by intro e;subst e;exact hm hmi)]
      ·rw[dv hmi,cond_false,cond_false,ih _ _ _ (by omega)]
       by_cases e:i=k
       ·subst e;simp
       ·rw[if_neg e,if_neg (by omega)]
  cases t with
  |leaf =>
   rw[Tr.vG]
   have:=hd .leaf .leaf none
   rw[this]
   congr 1
   rw[Tr.fO,Tr.nH,Tr.nH,Tr.nH]
   cases Nat.beq i 0 <;> cases Nat.beq (i % 2) 1 <;> rfl
  |node l v r=>rw[Tr.vE];exact hd l r v
def Tr.set(t:Tr α)(k:Nat)(x:α):Tr α:=Tr.oe (Nat.succ k) t k x
theorem Tr.ml(t:Tr α)(k:Nat)(x:α)(i:Nat):(t.set k x).get i=if i=k then some x else t.get i:=Tr.yd _ _ _ _ (Nat.lt_succ_self k) i
end
structure Env where
 base:Tm
 tree:Tr Value
def Env.get(E:Env):Tm:=fun t=>match E.tree.get t with|some v=>v|none=>E.base t
def Env.put:Env->Option Nat->Value->Env
 |⟨b,t⟩,some d,v=>⟨b,t.set d v⟩
 |⟨b,t⟩,none,_=>⟨b,t⟩
theorem Env.get_put(E:Env)(dst:Option Nat)(v:Value):(E.put dst v).get=K.put E.get dst v:=by
 cases dst with
 |none=>rfl
 |some d =>
  funext t
  simp only[Env.get,Env.put,K.put,upd]
  rw[Tr.ml]
  by_cases e:t=d
  ·simp[e]
  ·simp[e]
theorem Env.d9(E:Env)(t:Nat)(v:Value)(h:E.get t=v):(E.put (some t) v).get=E.get:=by
 rw[Env.get_put]
 funext i
 simp only[K.put,upd]
 split
 ·rename_i e;subst e;exact h.symm
 ·rfl
structure HT where
 n:Nat
 t:Tr ab
def HT.get(h:HT)(id:Nat):Option ab:=cond (Nat.blt id h.n) (match h.t.get id with|some o=>some o|none=>some .dead) none
def HT.list(h:HT):Heap:=(List.range h.n).map fun i=>(h.t.get i).getD .dead
def HT.push:HT->ab->HT
 |⟨n,t⟩,o=>⟨Nat.succ n,t.set n o⟩
def HT.set:HT->Nat->ab->HT
 |⟨n,t⟩,id,o=>⟨n,t.set id o⟩
def HT.take:HT->Nat->HT
 |⟨_,t⟩,m=>⟨m,t⟩
theorem HT.length(h:HT):h.list.length=h.n:=by simp[HT.list]
theorem HT.aK(h:HT)(id:Nat):h.list[id]?=h.get id:=by
 unfold HT.list HT.get
 rw[List.getElem?_map]
 by_cases hi:id<h.n
 ·rw[List.getElem?_range hi]
  have:Nat.blt id h.n=true:=by rw[Nat.blt_eq];exact hi
  rw[this,cond_true]
  simp only[Option.map_some]
  cases h.t.get id <;> rfl
 ·rw[List.getElem?_eq_none (by simp;omega)]
  have:Nat.blt id h.n=false:=by
   cases hb:Nat.blt id h.n with
   |false=>rfl
   |true=>rw[Nat.blt_eq]at hb;exact absurd hb hi
  rw[this];rfl
theorem HT.bT(h:HT)(o:ab):(h.push o).list=h.list ++ [o]:=by
 unfold HT.list HT.push
 simp only[Nat.succ_eq_add_one,List.range_succ,List.map_append,List.map_cons,List.map_nil]
 rw[Tr.ml,if_pos rfl]
 congr 1
 refine List.map_congr_left fun i hi =>?_
 rw[Tr.ml,if_neg (by have:=List.mem_range.1 hi;omega)]
theorem HT.bw(h:HT)(id:Nat)(o:ab):(h.set id o).list=h.list.set id o:=by
 refine List.ext_getElem? fun i =>?_
 rw[List.getElem?_set,HT.aK,HT.aK,HT.length]
 unfold HT.get HT.set
 simp only[]
 rw[Tr.ml]
 by_cases hi:i=id
 ·subst hi
  rw[if_pos rfl,if_pos rfl]
  by_cases hlt:i<h.n
  ·rw[if_pos hlt,show Nat.blt i h.n=true by rw[Nat.blt_eq];exact hlt];rfl
  ·rw[if_neg hlt,show Nat.blt i h.n=false by cases hb:Nat.blt i h.n with|false=>rfl|true=>rw[Nat.blt_eq]at hb;exact absurd hb hlt];rfl
 ·rw[if_neg hi,if_neg (Ne.symm hi)]
theorem HT.vU(h:HT)(m:Nat)(hm:m<=h.n):(h.take m).list=h.list.take m:=by
 unfold HT.list HT.take
 rw[<- List.map_take,List.take_range,Nat.min_eq_left hm]
def fE(E:Env)(k:Env->Prop):Prop:=Env.rec (motive:=fun _=>Prop) (fun b t=>k ⟨b,t⟩) E
def fH(H:HT)(k:HT->Prop):Prop:=HT.rec (motive:=fun _=>Prop) (fun n t=>k ⟨n,t⟩) H
theorem CJ(E:Env)(k:Env->Prop):fE E k=k E:=by cases E;rfl
theorem CI(H:HT)(k:HT->Prop):fH H k=k H:=by cases H;rfl
def nk(P:Program)(t:TypeId)(a:Value)(h:HT):Option (Value×Nat) :=
 match a with
 | .pointer (some ⟨id,off,none⟩) =>
  match h.get id with
  |some (.cells _ _ cs)=>match cI P t cs off with|some v=>some (v,id)|none=>none
  |_=>none
 | .pointer (some ⟨id,off,some (k+3)⟩) =>
  match h.get id with
  |some (.fam (z+1) cs)=>if lM P t off (z+1)=true then (cI P t cs (k*(z+1)+off)).map fun v=>(v,id) else none
  |_=>none
 |_=>none
theorem pa(P:Program)(t:TypeId)(a:Value)(h:HT):nk P t a h=ju P t a h.list:=by
 cases a <;> try rfl
 rename_i a
 rcases a with _|⟨id,off,_|k⟩ <;> try rfl
 rotate_left
 ·rcases k with _|_|_|k <;> try rfl
  simp only[nk,ju,HT.aK]
  rfl
 simp only[nk,ju,HT.aK]
 rcases h.get id with _|o
 ·rfl
 ·cases o <;> try rfl
  simp only[]
  cases cI P t _ off <;> rfl
def pW(P:Program)(t:TypeId)(x:Value)(lo hi:Option Value)(h:HT):Option (Value×Option Nat) :=
 match P.underlying t,x with
 |some (.slice e),.slice a len cap =>
  match bq P e,gx hi len cap with
  |some n,some h' =>
   match gx lo 0 h' with
   |some l =>
    match a with
    |none=>some (.slice none 0 0,none)
    |some ⟨id,off,none⟩ =>
     match h.get id with
     |some (.cells own z _)=>if own=false∨z=0∨z=n then some (.slice (some ⟨id,off+l*n,none⟩) (h'-l) (cap-l),some id) else none
     |_=>none
    |some ⟨id,off,some (_+1)⟩ =>
     match h.get id with
     |some (.cells own z _)=>if (own=false∨z=0∨z=n)/\h'<=len then some (.slice (some ⟨id,off+l*n,some 2⟩) (h'-l) (h'-l),some id) else none
     |_=>none
    |some _=>none
   |none=>none
  |_,_=>none
 |some (.array (m+1) e),.pointer (some ⟨id,off,none⟩) =>
  match lo,hi,bq P e,h.get id with
  |none,none,some _,some (.cells own z _)=>if own=false∨z=0 then some (.slice (some ⟨id,off,none⟩) (m+1) (m+1),some id) else none
  |_,_,_,_=>none
 |_,_=>none
theorem ti(P:Program)(t:TypeId)(x:Value)(lo hi:Option Value)(h:HT):pW P t x lo hi h=jN P t x lo hi h.list:=by
 unfold pW jN
 simp only[HT.aK]
 rfl
def xv(P:Program)(t:TypeId)(x:Value)(h:HT):Option (Value×Option Nat) :=
 match P.underlying t,x with
 |some (.slice _),.slice _ n _=>some (.int .i64 n,none)
 |some (.slice _),.iface (n+1) (.agg _)=>some (.int .i64 n,none)
 |some (.slice _),.iface (n+1) (.pointer _)=>some (.int .i64 n,none)
 |some .string,.string s=>some (.int .i64 s.size,none)
 |some (.array n _),_=>some (.int .i64 n,none)
 |some (.map _ _),.map none=>some (.int .i64 0,none)
 |some (.map _ _),.map (some id)=>match h.get id with|some (.map es)=>some (.int .i64 es.length,some id)|_=>none
 |_,_=>none
def nh(P:Program)(t:TypeId)(m key:Value)(ok:Bool)(h:HT):Option (Value×Option Nat) :=
 match P.underlying t with
 |some (.map kt el) =>
  match et P el,fi P kt key,m with
  |some z,true,.map none=>some (xg ok z false,none)
  |some z,true,.map (some id)=>match h.get id with
   |some (.map es)=>(nj P kt z key ok es).map fun v=>(v,some id)
   |_=>none
  |_,_,_=>none
 |_=>none
theorem rL(P:Program)(t:TypeId)(m key:Value)(ok:Bool)(h:HT):nh P t m key ok h=i9 P t m key ok h.list:=by
 unfold nh i9
 simp only[HT.aK]
 rfl
theorem xu(P:Program)(t:TypeId)(x:Value)(h:HT):xv P t x h=xw P t x h.list:=by
 unfold xv xw
 simp only[HT.aK]
 rfl
def tj(P:Program)(o:Op)(e:Operand->Value)(h:HT):Option (Value×Option Nat) :=
 match o with
 | .move x=>some (e x,none)
 | .assign x=>some (e x,none)
 | .pick c a b=>match e c with| .bool t=>some (match t with|true=>e a|false=>e b,none)|_=>none
 | .build t parts=>(qm P t (parts.toList.map fun p=>(p.1,e p.2))).map (·,none)
 | .load t a=>match jO P t (e a) with|some v=>some (v,none)|none=>(nk P t (e a) h).map fun r=>(r.1,some r.2)
 | .nilCheck x=>match e x with
  | .pointer (some a)=>some (.pointer (some a),none)
  | .iface o (.tuple cs)=>some (.iface o (.tuple cs),none)
  | .func (.func f) x y=>some (.func (.func f) x y,none)
  | .func (.yield f) x y=>some (.func (.yield f) x y,none)
  |_=>none
 | .binOp op t x y _=>(rN P op t (e x) (e y)).map (·,none)
 | .unOp op _ x=>(kun op (e x)).map (·,none)
 | .convert s d x=>(uG P s d (e x)).map (·,none)
 | .makeFunc (.func f) first cap=>some (.func (.func f) ⟨first.toList.map e⟩ ⟨cap.toList.map e⟩,none)
 | .slice t x lo hi none=>pW P t (e x) (lo.map e) (hi.map e) h
 | .fieldAddr s x f=>(hB P s (e x) f).map (·,none)
 | .field t x f=>(qg P t (e x) f).map (·,none)
 | .indexAddr t x i=>(dP P t (e x) (e i)).map (·,none)
 | .index t x i=>(nn P t (e x) (e i)).map (·,none)
 | .extract x i=>match e x with| .tuple vs=>(vs.toList[i]?).map (·,none)|_=>none
 | .call ⟨.builtin .len,⟨[x]⟩,⟨t :: _⟩⟩=>xv P t (e x) h
 | .call ⟨.builtin .min,xs,_⟩=>(i7 false (xs.toList.map e)).map (·,none)
 | .call ⟨.builtin .max,xs,_⟩=>(i7 true (xs.toList.map e)).map (·,none)
 | .lookup t x i ok=>nh P t (e x) (e i) ok h
 |_=>none
theorem CL{α β:Type}(f:α->β)(a:Array α):(⟨a.toList.map f⟩:Array β)=a.map f:=Array.toList_inj.1 (by simp)
theorem p7{P:Program}{o:Op}{e:Operand->Value}{h:HT}{r:Value×Option Nat}(hk:tj P o e h=some r):dq P o e h.list=some r:=by
 unfold tj at hk
 split at hk
 all_goals simp only[dq]
 case h_3 =>
  generalize e _=c at hk ⊢
  cases c <;> try (cases hk;done)
  rename_i t
  cases t <;> exact hk
 case h_5=>rw[<- pa];exact hk
 case h_10=>rw[CL,CL]at hk;exact hk
 case h_16 =>
  generalize e _=c at hk ⊢
  cases c <;> try (cases hk;done)
  simp only[Array.getElem?_toList]at hk ⊢
  exact hk
 all_goals first
  |exact hk
  |(rw[<- ti];exact hk)
  |(rw[<- xu];exact hk)
  |(rw[<- rL];exact hk)
  |(cases hk;done)
def kq(P:Program)(n:Nat)(len:Nat)(x:Value)(h:HT):Option (List Value) :=
 match deq x with
 | .slice none _ _=>if len=0 then some [] else none
 | .slice (some ⟨id,off,none⟩) l _ =>
  match h.get id with
  |some (.cells _ _ cs)=>if len<=l/\off+len*n<=cs.length then some ((cs.drop off).take (len*n)) else none
  |_=>none
 |_=>none
theorem nu(P:Program)(n len:Nat)(x:Value)(h:HT):kq P n len x h=dk P n len x h.list:=by
 unfold kq dk
 simp only[HT.aK]
 rfl
def nw(P:Program)(t:TypeId)(s x:Value)(h:HT):Option (Value×HT×List Nat) :=
 match P.underlying t,s,x with
 |some (.slice el),.slice base len cap,.slice xb m xc =>
  match bq P el,hJ P el with
  |some (n+1),some by_ =>
   if (len+m)*by_<=2 ^ 44/\1<=by_/\by_<=2 ^ 16 then
    if m=0 then some (s,h,[]) else
    match kq P (n+1) len s h,kq P (n+1) m x h,(et P el) with
    |some old,some new,some z =>
     if z.cells.toList.length=n+1/\new.all (fun v=>di v) then
     match base with
     |none=>some (.slice (some ⟨h.n,0,none⟩) (len+m) (len+m),h.push (.cells true (n+1) (old++new)),[])
     |some ⟨id,off,none⟩ =>
      match h.get id with
      |some (.cells true zz _)=>if zz=n+1 then
        some (.slice (some ⟨h.n,0,none⟩) (len+m) (len+m),(h.set id .dead).push (.cells true (n+1) (old++new)),[id]) else none
      |_=>none
     |some ⟨id,off,some 1⟩ =>
      match h.get id with
      |some (.cells true zz _)=>if zz=n+1 then
        some (.slice (some ⟨h.n,0,none⟩) (len+m) (len+m),(h.set id .dead).push (.cells true (n+1) (old++new)),[id]) else none
      |_=>none
     |_=>none
     else none
    |_,_,_=>none
   else none
  |_,_=>none
 |_,_,_=>none
abbrev fb(r:Value×HT×List Nat):Value×Heap×List Nat:=(r.1,r.2.1.list,r.2.2)
theorem nv{P:Program}{t:TypeId}{s x:Value}{h:HT}{r:Value×HT×List Nat}(hk:nw P t s x h=some r):hU P t s x h.list=some (fb r):=by
 unfold nw at hk
 unfold hU
 split at hk <;> try (cases hk;done)
 rename_i el base len cap xb m xc h1
 simp only[h1]
 split at hk <;> try (cases hk;done)
 rename_i n by_ h2 h3
 simp only[h2,h3]
 split at hk <;> try (cases hk;done)
 rename_i hc
 rw[if_pos hc]
 split at hk
 ·rename_i hm;rw[if_pos hm];cases hk;rfl
 ·rename_i hm
  rw[if_neg hm]
  simp only[<- nu]
  split at hk <;> try (cases hk;done)
  rename_i old new z g1 g2 g3
  simp only[g1,g2,g3]
  split at hk <;> try (cases hk;done)
  rename_i hd
  rw[if_pos hd]
  split at hk
  ·cases hk;simp only[HT.bT,HT.length,fb]
  ·rename_i id off
   simp only[HT.aK]
   split at hk <;> try (cases hk;done)
   rename_i zz cs g4
   simp only[g4]
   split at hk <;> try (cases hk;done)
   rename_i hz
   rw[if_pos hz]
   cases hk
   simp only[HT.bT,HT.bw,HT.length,fb]
  ·rename_i id off
   simp only[HT.aK]
   split at hk <;> try (cases hk;done)
   rename_i zz cs g4
   simp only[g4]
   split at hk <;> try (cases hk;done)
   rename_i hz
   rw[if_pos hz]
   cases hk
   simp only[HT.bT,HT.bw,HT.length,fb]
  ·cases hk
def pV(P:Program)(t:TypeId)(a v:Value)(h:HT):Option (HT×List Nat) :=
 match a with
 | .pointer (some ⟨id,off,none⟩) =>
  match h.get id with
  |some (.cells true z cs) =>
   match bq P t with
   |some n=>if v.cells.toList.length=n/\off+n<=cs.length/\v.cells.toList.all (fun v=>di v) then
     some (h.set id (.cells true z (bp cs off v.cells.toList)),[id]) else none
   |none=>none
  |_=>none
 |_=>none
theorem oq{P:Program}{t:TypeId}{a v:Value}{h:HT}{r:HT×List Nat}(hk:pV P t a v h=some r):jM P t a v h.list=some (r.1.list,r.2):=by
 unfold pV at hk
 unfold jM
 split at hk <;> try (cases hk;done)
 rename_i id off
 simp only[HT.aK]
 split at hk <;> try (cases hk;done)
 rename_i z cs g1
 simp only[g1]
 split at hk <;> try (cases hk;done)
 rename_i n g2
 simp only[g2]
 split at hk <;> try (cases hk;done)
 rename_i hc
 rw[if_pos hc]
 cases hk
 simp only[HT.bw]
def tv(P:Program)(t:TypeId)(d s:Value)(h:HT):Option (Value×HT×List Nat) :=
 match P.underlying t,d,s with
 |some (.slice el),.slice base len cap,.slice sb m sc =>
  match bq P el with
  |some n =>
   match kq P n (min m len) s h with
   |some new =>
    match base with
    |none=>some (.int .i64 (min m len:Nat),h,[])
    |some ⟨id,off,none⟩ =>
     match h.get id with
     |some (.cells true z cs)=>if off+(min m len)*n<=cs.length/\new.all (fun v=>di v) then
       some (.int .i64 (min m len:Nat),h.set id (.cells true z (bp cs off new)),[id]) else none
     |_=>none
    |_=>none
   |none=>none
  |none=>none
 |_,_,_=>none
theorem qj{P:Program}{t:TypeId}{d s:Value}{h:HT}{r:Value×HT×List Nat}(hk:tv P t d s h=some r):pf P t d s h.list=some (fb r):=by
 unfold tv at hk
 unfold pf
 split at hk <;> try (cases hk;done)
 rename_i el base len cap sb m sc h1
 simp only[h1]
 split at hk <;> try (cases hk;done)
 rename_i n h2
 simp only[h2,<- nu]
 split at hk <;> try (cases hk;done)
 rename_i new h3
 simp only[h3]
 split at hk
 ·cases hk;rfl
 ·rename_i id off
  simp only[HT.aK]
  split at hk <;> try (cases hk;done)
  rename_i z cs g1
  simp only[g1]
  split at hk <;> try (cases hk;done)
  rename_i hc
  rw[if_pos hc]
  cases hk
  simp only[HT.bw,fb]
 ·cases hk
def qk(P:Program)(t:TypeId)(x:Value)(h:HT):Option (Value×HT×List Nat) :=
 match P.underlying t,x with
 |some (.slice el),.slice base len cap =>
  match bq P el,et P el with
  |some n,some z =>
   match base with
   |none=>some (undef,h,[])
   |some ⟨id,off,_⟩ =>
    match h.get id with
    |some (.cells true zz cs)=>if off+len*n<=cs.length/\z.cells.toList.length=n/\z.cells.toList.all (fun v=>di v) then some (undef,h.set id (.cells true zz (bp cs off (cC z.cells.toList len))),[id]) else none
    |_=>none
  |_,_=>none
 |_,_=>none
theorem ov{P:Program}{t:TypeId}{x:Value}{h:HT}{r:Value×HT×List Nat}(hk:qk P t x h=some r):lf P t x h.list=some (fb r):=by
 unfold qk at hk
 unfold lf
 split at hk <;> try (cases hk;done)
 rename_i el base len cap g1
 simp only[g1]
 split at hk <;> try (cases hk;done)
 rename_i n z g2 g3
 simp only[g2,g3]
 split at hk
 ·cases hk;rfl
 ·rename_i id off tag
  simp only[HT.aK]
  split at hk <;> try (cases hk;done)
  rename_i zz cs g4
  simp only[g4]
  split at hk <;> try (cases hk;done)
  rename_i hc
  rw[if_pos hc]
  cases hk
  simp only[HT.bw,fb]
def ng(P:Program)(t:TypeId)(m key v:Value)(h:HT):Option (HT×List Nat) :=
 match P.underlying t with
 |some (.map kt _) =>
  match fi P kt key,m with
  |true,.map (some id)=>match h.get id with
   |some (.map es)=>match uC P kt key v es with
    |some es'=>some (h.set id (.map es'),[id])
    |none=>none
   |_=>none
  |_,_=>none
 |_=>none
theorem nf{P:Program}{t:TypeId}{m key v:Value}{h:HT}{r:HT×List Nat}(hk:ng P t m key v h=some r):i8 P t m key v h.list=some (r.1.list,r.2):=by
 unfold ng at hk
 unfold i8
 split at hk <;> try (cases hk;done)
 rename_i kt el g1
 simp only[g1]
 split at hk <;> try (cases hk;done)
 rename_i id g2
 simp only[g2,HT.aK]
 split at hk <;> try (cases hk;done)
 rename_i es g3
 simp only[g3]
 split at hk <;> try (cases hk;done)
 rename_i es' g4
 cases hk
 simp only[g4,Option.map_some,HT.bw]
def pU(P:Program)(o:Op)(e:Operand->Value)(h:HT):Option (Value×HT×List Nat) :=
 match o with
 | .store t a v=>(pV P t (e a) (e v) h).map fun r=>(undef,r.1,r.2)
 | .call ⟨.builtin .append,⟨[s,x]⟩,⟨[t,u]⟩⟩=>match P.underlying u with
  |some (.slice _)=>nw P t (e s) (e x) h
  |_=>none
 | .call ⟨.builtin .copy,⟨[d,s]⟩,⟨t :: _⟩⟩=>tv P t (e d) (e s) h
 | .call ⟨.builtin .clear,⟨[x]⟩,⟨t :: _⟩⟩=>qk P t (e x) h
 | .mapUpdate t m k v=>(ng P t (e m) (e k) (e v) h).map fun r=>(undef,r.1,r.2)
 |_=>none
theorem oo{P:Program}{o:Op}{e:Operand->Value}{h:HT}{r:Value×HT×List Nat}(hk:pU P o e h=some r):d7 P o e h.list=some (fb r):=by
 unfold pU at hk
 split at hk
 all_goals simp only[d7]
 ·obtain ⟨r',h1,rfl⟩:=bo hk
  rw[oq h1];rfl
 ·split at hk <;> try (cases hk;done)
  rename_i g
  simp only[g]
  exact nv hk
 ·exact qj hk
 ·exact ov hk
 ·obtain ⟨r',h1,rfl⟩:=bo hk
  rw[nf h1];rfl
 ·cases hk
def ja(v:Option Value)(d m:Nat):Option (Prop×Nat) :=
 match v with
 |none=>some (d<=m,d)
 |some (.int _ i)=>some (0<=i/\i<=m,i.toNat)
 |_=>none
theorem eV{v:Option Value}{d m n:Nat}{c:Prop}(h:ja v d m=some (c,n))(hc:c):gx v d m=some n:=by
 unfold ja at h
 unfold gx
 split at h
 ·cases h;rfl
 ·cases h;simp only[];rw[if_pos hc]
 ·cases h
def xr(P:Program)(o:Op)(e:Operand->Value)(h:HT):Option (Prop×Value×Option Nat) :=
 match o with
 | .indexAddr t x i =>
  match P.underlying t,deq (e x),e i with
  |some (.slice el),.slice (some ⟨id,off,none⟩) len _,.int _ i =>
   match bq P el with
   |some n=>some (0<=i/\i<len,.pointer (some ⟨id,off+i.toNat*n,none⟩),none)
   |none=>none
  |some (.array len el),.pointer (some ⟨id,off,none⟩),.int _ i =>
   match bq P el with
   |some n=>some (0<=i/\i<len,.pointer (some ⟨id,off+i.toNat*n,none⟩),none)
   |none=>none
  |some (.slice el),.iface (len+1) (.agg cs),.int _ i =>
   match bq P el with
   |some n=>some (0<=i/\i<len,.iface (i.toNat*n) (.tuple cs),none)
   |none=>none
  |some (.array len el),.iface off (.tuple cs),.int _ i =>
   match bq P el with
   |some n=>some (0<=i/\i<len,.iface (off+i.toNat*n) (.tuple cs),none)
   |none=>none
  |_,_,_=>none
 | .slice t x lo hi none =>
  match P.underlying t,e x with
  |some (.slice el),.slice (some ⟨id,off,none⟩) len cap =>
   match bq P el,ja (hi.map e) len cap with
   |some n,some (c1,h') =>
    match ja (lo.map e) 0 h' with
    |some (c2,l) =>
     match h.get id with
     |some (.cells own z _)=>some ((own=false∨z=0∨z=n)/\c1/\c2,.slice (some ⟨id,off+l*n,none⟩) (h'-l) (cap-l),some id)
     |_=>none
    |none=>none
   |_,_=>none
  |some (.slice el),.slice (some ⟨id,off,some (_+1)⟩) len cap =>
   match bq P el,ja (hi.map e) len cap with
   |some n,some (c1,h') =>
    match ja (lo.map e) 0 h' with
    |some (c2,l) =>
     match h.get id with
     |some (.cells own z _)=>some (((own=false∨z=0∨z=n)/\h'<=len)/\c1/\c2,.slice (some ⟨id,off+l*n,some 2⟩) (h'-l) (h'-l),some id)
     |_=>none
    |none=>none
   |_,_=>none
  |_,_=>none
 | .binOp op t x y _ =>
  match op,e x,e y with
  | .quo,.int k a,.int k' b=>match decide (k=k') with|true=>some (b≠0,.int k (k.wrap (a.tdiv b)),none)|false=>none
  | .rem,.int k a,.int k' b=>match decide (k=k') with|true=>some (b≠0,.int k (a.tmod b),none)|false=>none
  | .shl,.int k a,.int k' b=>some (0<=b,.int k (k.wrap (a*2 ^ min b.toNat k.bits)),none)
  | .shr,.int k a,.int k' b=>some (0<=b,.int k (a.fdiv (2 ^ min b.toNat k.bits)),none)
  |_,_,_=>none
 |_=>none
theorem rI{P:Program}{o:Op}{e:Operand->Value}{h:HT}{c:Prop}{v:Value}{rd:Option Nat}(hk:xr P o e h=some (c,v,rd))(hc:c):dq P o e h.list=some (v,rd):=by
 unfold xr at hk
 split at hk
 ·split at hk <;> try (cases hk;done)
  ·rename_i g1 g2 g3
   split at hk <;> try (cases hk;done)
   rename_i n g4
   cases hk
   exact (by simp only[dq,dP,cX,g1,g2,g3,g4];rw[if_pos hc];rfl)
  ·rename_i g1 g2 g3
   split at hk <;> try (cases hk;done)
   rename_i n g4
   cases hk
   exact (by simp only[dq,dP,cX,g1,g2,g3,g4];rw[if_pos hc];rfl)
  ·rename_i g1 g2 g3
   split at hk <;> try (cases hk;done)
   rename_i n g4
   cases hk
   exact (by simp only[dq,dP,cX,g1,g2,g3,g4];rw[if_pos hc];rfl)
  ·rename_i g1 g2 g3
   split at hk <;> try (cases hk;done)
   rename_i n g4
   cases hk
   exact (by simp only[dq,dP,cX,g1,g2,g3,g4];rw[if_pos hc];rfl)
 ·split at hk <;> try (cases hk;done)
  ·rename_i el id off len cap g1 g2
   split at hk <;> try (cases hk;done)
   rename_i n c1 h' g3 g4
   split at hk <;> try (cases hk;done)
   rename_i c2 l g5
   split at hk <;> try (cases hk;done)
   rename_i own z cs g6
   cases hk
   exact (by simp only[dq,jN,g1,g2,g3,eV g4 hc.2.1,eV g5 hc.2.2,HT.aK,g6];rw[if_pos hc.1])
  ·rename_i el id off q len cap g1 g2
   split at hk <;> try (cases hk;done)
   rename_i n c1 h' g3 g4
   split at hk <;> try (cases hk;done)
   rename_i c2 l g5
   split at hk <;> try (cases hk;done)
   rename_i own z cs g6
   cases hk
   exact (by simp only[dq,jN,g1,g2,g3,eV g4 hc.2.1,eV g5 hc.2.2,HT.aK,g6];rw[if_pos hc.1])
 ·split at hk <;> try (cases hk;done)
  ·rename_i g1 g2
   split at hk <;> try (cases hk;done)
   rename_i g3
   cases hk
   exact (by simp only[dq,g1,g2,rN,tr];rw[if_pos (ip g3),if_neg hc];rfl)
  ·rename_i g1 g2
   split at hk <;> try (cases hk;done)
   rename_i g3
   cases hk
   exact (by simp only[dq,g1,g2,rN,tr];rw[if_pos (ip g3),if_neg hc];rfl)
  ·rename_i g1 g2
   cases hk
   exact (by simp only[dq,g1,g2,rN,tr];rw[if_neg (by have:(0:Int)<=_:=hc;omega)];rfl)
  ·rename_i g1 g2
   cases hk
   exact (by simp only[dq,g1,g2,rN,tr];rw[if_neg (by have:(0:Int)<=_:=hc;omega)];rfl)
 ·cases hk
def tp(P:Program)(o:Op)(e:Operand->Value)(id:Nat):Option (Prop×Value×ab) :=
 match o with
 | .makeSlice t l c =>
  match P.underlying t,e l,e c with
  |some (.slice el),.int .i64 l,.int .i64 c =>
   match bq P el,hJ P el,et P el with
   |some n,some by_,some z=>cond (Nat.beq z.cells.toList.length n) (some (0<=l/\l<=c/\c<2 ^ 62/\by_*c<=2 ^ 48,.slice (some ⟨id,0,none⟩) l.toNat c.toNat,.cells true n (cC z.cells.toList c.toNat))) none
   |_,_,_=>none
  |_,_,_=>none
 |_=>none
theorem qe{P:Program}{o:Op}{e:Operand->Value}{id:Nat}{c:Prop}{v:Value}{ob:ab}(hk:tp P o e id=some (c,v,ob))(hc:c):hX P o e id=some (v,ob):=by
 unfold tp at hk
 split at hk <;> try (cases hk;done)
 split at hk <;> try (cases hk;done)
 rename_i g1 g2 g3
 split at hk <;> try (cases hk;done)
 rename_i n by_ z g4 g5 g6
 cases hb:Nat.beq z.cells.toList.length n with
 |false=>rw[hb]at hk;cases hk
 |true =>
  rw[hb,cond_true]at hk
  cases hk
  simp only[hX,g1,g2,g3,g4,g5,g6]
  rw[if_pos ⟨Nat.eq_of_beq_eq_true hb,hc⟩]
def kr(P:Program)(n:Nat)(len:Nat)(x:Value)(h:HT):Option (Prop×List Value) :=
 match deq x with
 | .slice none _ _=>some (len=0,[])
 | .slice (some ⟨id,off,none⟩) l _ =>
  match h.get id with
  |some (.cells _ _ cs)=>some (len<=l/\off+len*n<=cs.length,(cs.drop off).take (len*n))
  |_=>none
 |_=>none
theorem cJ{P:Program}{n len:Nat}{x:Value}{h:HT}{c:Prop}{l:List Value}(hk:kr P n len x h=some (c,l))(hc:c):dk P n len x h.list=some l:=by
 unfold kr at hk
 unfold dk
 split at hk
 ·rename_i g0;cases hk;simp only[g0];rw[if_pos hc]
 ·rename_i id off l' cap' g0
  split at hk <;> try (cases hk;done)
  rename_i g
  cases hk
  simp only[g0,HT.aK,g]
  rw[if_pos hc]
 ·cases hk
def tn(P:Program)(o:Op)(e:Operand->Value)(h:HT):Option (Prop×Value×HT×List Nat) :=
 match o with
 | .store t a v =>
  match e a with
  | .pointer (some ⟨id,off,none⟩) =>
   match h.get id with
   |some (.cells true z cs) =>
    match bq P t with
    |some n=>cond (Nat.beq (e v).cells.toList.length n&&(e v).cells.toList.all (fun v=>di v)) (some (off+n<=cs.length,undef,h.set id (.cells true z (bp cs off (e v).cells.toList)),[id])) none
    |none=>none
   |_=>none
  | .pointer (some ⟨id,off,some (k+3)⟩) =>
   match h.get id with
   |some (.fam (z+1) cs) =>
    match bq P t with
    |some n=>cond (Nat.beq (e v).cells.toList.length n&&(Nat.ble (off+n) (z+1)&&(e v).cells.toList.all (fun v=>di v))) (some (k*(z+1)+(z+1)<=cs.length,undef,h.set id (.fam (z+1) (bp cs (k*(z+1)+off) (e v).cells.toList)),[id])) none
    |none=>none
   |_=>none
  |_=>none
 | .call ⟨.builtin .append,⟨[s,x]⟩,⟨[t,u]⟩⟩ =>
  match P.underlying u with
  |some (.slice _) =>
   match P.underlying t,e s,e x with
   |some (.slice el),.slice base len cap,.slice xb m xc =>
    match bq P el,hJ P el,et P el with
    |some (n+1),some by_,some z =>
     match kr P (n+1) len (e s) h,kr P (n+1) m (e x) h with
     |some (c1,old),some (c2,new) =>
      cond (Nat.beq z.cells.toList.length (n+1)&&Nat.ble 1 by_&&Nat.ble by_ (2 ^ 16))
       (match base with
       |none=>some ((len+m)*by_<=2 ^ 44/\m≠0/\c1/\c2/\new.all (fun v=>di v)=true,.slice (some ⟨h.n,0,none⟩) (len+m) (len+m),h.push (.cells true (n+1) (old++new)),[])
       |some ⟨id,off,none⟩ =>
        match h.get id with
        |some (.cells true zz _)=>cond (Nat.beq zz (n+1)) (some ((len+m)*by_<=2 ^ 44/\m≠0/\c1/\c2/\new.all (fun v=>di v)=true,.slice (some ⟨h.n,0,none⟩) (len+m) (len+m),(h.set id .dead).push (.cells true (n+1) (old++new)),[id])) none
        |_=>none
       |some ⟨id,off,some 1⟩ =>
        match h.get id with
        |some (.cells true zz _)=>cond (Nat.beq zz (n+1)) (some ((len+m)*by_<=2 ^ 44/\m≠0/\c1/\c2/\new.all (fun v=>di v)=true,.slice (some ⟨h.n,0,none⟩) (len+m) (len+m),(h.set id .dead).push (.cells true (n+1) (old++new)),[id])) none
        |_=>none
       |_=>none) none
     |_,_=>none
    |_,_,_=>none
   |_,_,_=>none
  |_=>none
 | .call ⟨.builtin .copy,⟨[d,s]⟩,⟨t :: _⟩⟩ =>
  match P.underlying t,e d,e s with
  |some (.slice el),.slice base len cap,.slice sb m sc =>
   match bq P el with
   |some n =>
    match kr P n (min m len) (e s) h with
    |some (c1,new) =>
     match base with
     |none=>some (c1,.int .i64 (min m len:Nat),h,[])
     |some ⟨id,off,none⟩ =>
      match h.get id with
      |some (.cells true z cs)=>some (c1/\off+(min m len)*n<=cs.length/\new.all (fun v=>di v)=true,.int .i64 (min m len:Nat),h.set id (.cells true z (bp cs off new)),[id])
      |_=>none
     |_=>none
    |none=>none
   |none=>none
  |_,_,_=>none
 | .call ⟨.builtin .clear,⟨[x]⟩,⟨t :: _⟩⟩ =>
  match P.underlying t,e x with
  |some (.slice el),.slice (some ⟨id,off,_⟩) len cap =>
   match bq P el,et P el with
   |some n,some z =>
    match h.get id with
    |some (.cells true zz cs)=>cond (Nat.beq z.cells.toList.length n&&z.cells.toList.all (fun v=>di v)) (some (off+len*n<=cs.length,undef,h.set id (.cells true zz (bp cs off (cC z.cells.toList len))),[id])) none
    |_=>none
   |_,_=>none
  |_,_=>none
 |_=>none
def qd(P:Program)(o:Op)(e:Operand->Value):Option (Prop×Value) :=
 match o with
 | .call ⟨.builtin .append,⟨[s,x]⟩,⟨[t,u]⟩⟩ =>
  match P.underlying u with
  |some (.slice _) =>
   match P.underlying t,e s,e x with
   |some (.slice el),.slice base len cap,.slice xb m xc =>
    match bq P el,hJ P el with
    |some (n+1),some by_=>cond (Nat.ble 1 by_&&Nat.ble by_ (2 ^ 16)) (some ((len+m)*by_<=2 ^ 44/\m=0,.slice base len cap)) none
    |_,_=>none
   |_,_,_=>none
  |_=>none
 |_=>none
theorem ou{P:Program}{o:Op}{e:Operand->Value}{c:Prop}{v:Value}(hk:qd P o e=some (c,v))(hc:c)(H:Heap):d7 P o e H=some (v,H,[]):=by
 unfold qd at hk
 split at hk <;> try (cases hk;done)
 rename_i s x t u
 split at hk <;> try (cases hk;done)
 rename_i eu g0
 split at hk <;> try (cases hk;done)
 rename_i el base len cap xb m xc g1 g2 g3
 split at hk <;> try (cases hk;done)
 rename_i n by_ g4 g5
 cases hb:(Nat.ble 1 by_&&Nat.ble by_ (2 ^ 16)) with
 |false=>rw[hb]at hk;cases hk
 |true =>
  rw[hb]at hk
  cases hk
  rw[Bool.and_eq_true]at hb
  obtain ⟨h1,h2⟩:=hc
  simp only[d7,g0,hU,g1,g2,g3,g4,g5]
  rw[if_pos ⟨h1,Nat.le_of_ble_eq_true hb.1,Nat.le_of_ble_eq_true hb.2⟩,if_pos h2]
theorem qb{P:Program}{o:Op}{e:Operand->Value}{h:HT}{c:Prop}{r:Value×HT×List Nat}(hk:tn P o e h=some (c,r))(hc:c):d7 P o e h.list=some (fb r):=by
 unfold tn at hk
 split at hk
 ·rename_i t a v
  split at hk <;> try (cases hk;done)
  rotate_left
  rename_i id off k g1
  split at hk <;> try (cases hk;done)
  rename_i z cs g2
  split at hk <;> try (cases hk;done)
  rename_i n g3
  cases hb:(Nat.beq (e v).cells.toList.length n&&(Nat.ble (off+n) (z+1)&&(e v).cells.toList.all (fun v=>di v))) with
  |false=>rw[hb]at hk;cases hk
  |true =>
   rw[hb,cond_true]at hk
   cases hk
   simp only[Bool.and_eq_true]at hb
   simp only[d7,jM,g1,HT.aK,g2,g3]
   rw[if_pos ⟨Nat.eq_of_beq_eq_true hb.1,Nat.le_of_ble_eq_true hb.2.1,hc,hb.2.2⟩]
   simp only[HT.bw,Option.map_some,fb]
  rename_i id off g1
  split at hk <;> try (cases hk;done)
  rename_i z cs g2
  split at hk <;> try (cases hk;done)
  rename_i n g3
  cases hb:(Nat.beq (e v).cells.toList.length n&&(e v).cells.toList.all (fun v=>di v)) with
  |false=>rw[hb]at hk;cases hk
  |true =>
   rw[hb,cond_true]at hk
   cases hk
   simp only[Bool.and_eq_true]at hb
   simp only[d7,jM,g1,HT.aK,g2,g3]
   rw[if_pos ⟨Nat.eq_of_beq_eq_true hb.1,hc,hb.2⟩]
   simp only[HT.bw,Option.map_some,fb]
 ·rename_i s x t u
  split at hk <;> try (cases hk;done)
  rename_i el' g0
  split at hk <;> try (cases hk;done)
  rename_i el base len cap xb m xc g1 g2 g3
  split at hk <;> try (cases hk;done)
  rename_i n by_ z g4 g5 g6
  split at hk <;> try (cases hk;done)
  rename_i c1 old c2 new g7 g8
  cases hb:(Nat.beq z.cells.toList.length (n+1)&&Nat.ble 1 by_&&Nat.ble by_ (2 ^ 16)) with
  |false=>rw[hb]at hk;cases hk
  |true =>
   rw[hb,cond_true]at hk
   simp only[Bool.and_eq_true]at hb
   have b1:=Nat.eq_of_beq_eq_true hb.1.1
   have b2:=Nat.le_of_ble_eq_true hb.1.2
   have b3:=Nat.le_of_ble_eq_true hb.2
   rw[g2]at g7
   rw[g3]at g8
   simp only[d7,g0,hU,g1,g2,g3,g4,g5]
   split at hk
   ·cases hk
    obtain ⟨k1,k2,k3,k4,k5⟩:=hc
    rw[if_pos ⟨k1,b2,b3⟩,if_neg k2]
    simp only[cJ g7 k3,cJ g8 k4,g6]
    rw[if_pos ⟨b1,k5⟩]
    simp only[HT.bT,HT.length,fb]
   ·rename_i id off
    split at hk <;> try (cases hk;done)
    rename_i zz cs g9
    cases hz:Nat.beq zz (n+1) with
    |false=>rw[hz]at hk;cases hk
    |true =>
     rw[hz,cond_true]at hk
     cases hk
     obtain ⟨k1,k2,k3,k4,k5⟩:=hc
     rw[if_pos ⟨k1,b2,b3⟩,if_neg k2]
     simp only[cJ g7 k3,cJ g8 k4,g6]
     rw[if_pos ⟨b1,k5⟩]
     simp only[HT.aK,g9]
     rw[if_pos (Nat.eq_of_beq_eq_true hz)]
     simp only[HT.bT,HT.bw,HT.length,fb]
   ·rename_i id off
    split at hk <;> try (cases hk;done)
    rename_i zz cs g9
    cases hz:Nat.beq zz (n+1) with
    |false=>rw[hz]at hk;cases hk
    |true =>
     rw[hz,cond_true]at hk
     cases hk
     obtain ⟨k1,k2,k3,k4,k5⟩:=hc
     rw[if_pos ⟨k1,b2,b3⟩,if_neg k2]
     simp only[cJ g7 k3,cJ g8 k4,g6]
     rw[if_pos ⟨b1,k5⟩]
     simp only[HT.aK,g9]
     rw[if_pos (Nat.eq_of_beq_eq_true hz)]
     simp only[HT.bT,HT.bw,HT.length,fb]
   ·cases hk
 ·rename_i d s t ts
  split at hk <;> try (cases hk;done)
  rename_i el base len cap sb m sc g1 g2 g3
  split at hk <;> try (cases hk;done)
  rename_i n g4
  split at hk <;> try (cases hk;done)
  rename_i c1 new g5
  rw[g3]at g5
  simp only[d7,pf,g1,g2,g3,g4]
  split at hk
  ·cases hk;simp only[cJ g5 hc]
  ·rename_i id off
   split at hk <;> try (cases hk;done)
   rename_i z cs g6
   cases hk
   obtain ⟨k1,k2,k3⟩:=hc
   simp only[cJ g5 k1,HT.aK,g6]
   rw[if_pos ⟨k2,k3⟩]
   simp only[HT.bw,fb]
  ·cases hk
 ·rename_i x t ts
  split at hk <;> try (cases hk;done)
  rename_i el id off tag len cap g1 g2
  split at hk <;> try (cases hk;done)
  rename_i n z g3 g4
  split at hk <;> try (cases hk;done)
  rename_i zz cs g5
  cases hb:(Nat.beq z.cells.toList.length n&&z.cells.toList.all (fun v=>di v)) with
  |false=>rw[hb]at hk;cases hk
  |true =>
   rw[hb,cond_true]at hk
   cases hk
   rw[Bool.and_eq_true]at hb
   simp only[d7,lf,g1,g2,g3,g4,HT.aK,g5]
   rw[if_pos ⟨hc,Nat.eq_of_beq_eq_true hb.1,hb.2⟩]
   simp only[HT.bw,fb]
 ·cases hk
end
end Go.K
