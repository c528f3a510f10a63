/- A statement whose order is open: what one order gives, every order gives. No condition. -/
import Derived.Test.YtmecpfikljhjaaaGreatDoorGK12xK14
open Go Go.K
set_option linter.unusedVariables false
set_option linter.unusedSimpArgs false
namespace Go.K
variable {P:Program}
def e7(acc:List Nat)(o:Oper):Nat:=o.after.toList.foldl (fun s e=>if Region.binds .any e then s |||2 ^ e.on |||acc.getD e.on 0 else s) 0
def dk:List Oper->List Nat->List Nat
 | [],acc=>acc
 |o :: os,acc=>dk os (acc ++ [e7 acc o])
def fP(bs:List Nat)(j i:Nat):Bool:=(bs.getD j 0).testBit i
theorem uu:∀(l:List Oper) (acc:List Nat),(dk l acc).length=acc.length+l.length:=by
 intro l
 induction l with
 |nil=>intro acc;simp[dk]
 |cons o os ih=>intro acc;simp[dk,ih];omega
theorem lC:∀(l:List Oper) (acc:List Nat) (j:Nat),j<acc.length->(dk l acc)[j]?=acc[j]? := by
 intro l
 induction l with
 |nil=>intro acc j _;rfl
 |cons o os ih=>intro acc j h;simp only[dk];rw[ih _ _ (by simp;omega),List.getElem?_append_left h]
theorem uv{acc:List Nat}{o:Oper}{i:Nat}(h:(e7 acc o).testBit i=true):∃e∈o.after,Region.binds .any e=true/\(e.on=i∨(acc.getD e.on 0).testBit i=true):=by
 unfold e7 at h
 have key:∀(l:List Edge) (s:Nat),(l.foldl (fun s e=>if Region.binds .any e then s |||2 ^ e.on |||acc.getD e.on 0 else s) s).testBit i=true->s.testBit i=true∨∃e∈l,Region.binds .any e=true/\(e.on=i∨(acc.getD e.on 0).testBit i=true):=by
  intro l
  induction l with
  |nil=>intro s h;exact .inl h
  |cons e es ih =>
   intro s h
   simp only[List.foldl_cons]at h
   rcases ih _ h with h1|⟨e',he',h2⟩
   ·split at h1
    ·rename_i hb
     rw[Nat.testBit_or,Nat.testBit_or,Nat.testBit_two_pow]at h1
     simp only[Bool.or_eq_true,decide_eq_true_eq]at h1
     rcases h1 with (h1|h1)|h1
     ·exact .inl h1
     ·exact .inr ⟨e,List.mem_cons_self ..,hb,.inl h1⟩
     ·exact .inr ⟨e,List.mem_cons_self ..,hb,.inr h1⟩
    ·exact .inl h1
   ·exact .inr ⟨e',List.mem_cons_of_mem _ he',h2⟩
 rcases key _ _ h with h1|⟨e,he,h2⟩
 ·simp at h1
 ·exact ⟨e,Array.mem_toList_iff.1 he,h2⟩
theorem wi{acc:List Nat}{o:Oper}{e:Edge}(he:e∈o.after)(hb:Region.binds .any e=true):(e7 acc o).testBit e.on=true:=by
 unfold e7
 have mono:∀(l:List Edge) (s i:Nat),s.testBit i=true->(l.foldl (fun s e=>if Region.binds .any e then s |||2 ^ e.on |||acc.getD e.on 0 else s) s).testBit i=true:=by
  intro l
  induction l with
  |nil=>intro s i h;exact h
  |cons x xs ih =>
   intro s i h
   simp only[List.foldl_cons]
   refine ih _ _ ?_
   split
   ·rw[Nat.testBit_or,Nat.testBit_or,h];rfl
   ·exact h
 have key:∀(l:List Edge) (s:Nat),e∈l->(l.foldl (fun s e=>if Region.binds .any e then s |||2 ^ e.on |||acc.getD e.on 0 else s) s).testBit e.on=true:=by
  intro l
  induction l with
  |nil=>intro s h;cases h
  |cons x xs ih =>
   intro s h
   simp only[List.foldl_cons]
   rcases List.mem_cons.1 h with rfl|h
   ·refine mono _ _ _ ?_
    rw[if_pos hb,Nat.testBit_or,Nat.testBit_or,Nat.testBit_two_pow]
    simp
   ·exact ih _ h
 exact key _ _ (Array.mem_toList_iff.2 he)
theorem DX{l:List Oper}{j:Nat}{o:Oper}(hj:l[j]?=some o){e:Edge}(he:e∈o.after)(hb:Region.binds .any e=true):fP (dk l []) j e.on=true:=by
 have key:∀(l:List Oper) (acc:List Nat) (k:Nat) (o:Oper),l[k]?=some o->∃acc',(dk l acc)[acc.length+k]?=some (e7 acc' o):=by
  intro l
  induction l with
  |nil=>intro acc k o h;simp at h
  |cons x xs ih =>
   intro acc k o h
   cases k with
   |zero =>
    simp at h;subst h
    refine ⟨acc,?_⟩
    simp only[dk]
    rw[lC _ _ _ (by simp)]
    simp
   |succ k =>
    obtain ⟨acc',h2⟩:=ih (acc ++ [e7 acc x]) k o (by simpa using h)
    refine ⟨acc',?_⟩
    simp only[dk]
    rw[<- h2]
    congr 1
    simp;omega
 obtain ⟨acc',h2⟩:=key l [] j o hj
 simp only[List.length_nil,Nat.zero_add]at h2
 simp[fP,h2,wi he hb]
theorem BK{l:List Oper}{j i:Nat}(h:fP (dk l []) j i=true):∃o,l[j]?=some o/\∃e∈o.after,Region.binds .any e=true/\(e.on=i∨fP (dk l []) e.on i=true):=by
 have key:∀(l:List Oper) (acc:List Nat) (k:Nat),k<l.length->∃acc' o,l[k]?=some o/\(dk l acc)[acc.length+k]?=some (e7 acc' o)/\(∀q,q<acc'.length->(dk l acc)[q]?=acc'[q]?):=by
  intro l
  induction l with
  |nil=>intro acc k hk;simp at hk
  |cons o os ih =>
   intro acc k hk
   cases k with
   |zero =>
    refine ⟨acc,o,rfl,?_,fun q hq=>lC _ _ _ hq⟩
    simp only[dk]
    rw[lC _ _ _ (by simp)]
    simp
   |succ k =>
    obtain ⟨acc',o',h1,h2,h3⟩:=ih (acc ++ [e7 acc o]) k (by simpa using hk)
    refine ⟨acc',o',by simpa using h1,?_,h3⟩
    simp only[dk]
    rw[<- h2]
    congr 1
    simp;omega
 have hj:j<l.length:=by
  rcases Nat.lt_or_ge j l.length with h1|h1
  ·exact h1
  ·have:(dk l [])[j]?=none:=List.getElem?_eq_none (by rw[uu];simpa using h1)
   simp[fP,this]at h
 obtain ⟨acc',o,h1,h2,h3⟩:=key l [] j hj
 simp only[List.length_nil,Nat.zero_add]at h2
 have hb:(e7 acc' o).testBit i=true:=by simpa[fP,h2] using h
 obtain ⟨e,he,hbi,hor⟩:=uv hb
 refine ⟨o,h1,e,he,hbi,?_⟩
 rcases hor with h4|h4
 ·exact .inl h4
 ·right
  rcases Nat.lt_or_ge e.on acc'.length with h5|h5
  ·have:=h3 _ h5
   simpa[fP,this] using h4
  ·simp[List.getElem?_eq_none h5]at h4
def df(o:Oper):Bool:=match dE o.op with| .pure| .alloc=>false|_=>true
def qB(ops:Array Oper)(o:Oper)(dst:Option Tmp):Bool:=match dst with|some d=>(o.looksAt ops).contains d|none=>false
def uZ(bs:List Nat)(ops:Array Oper)(i j:Nat):Bool :=
 match ops[i]?,ops[j]? with
 |some oi,some oj =>
  i != j && !fP bs i j&&(oi.dst.isNone ||oi.dst != oj.dst)&&(!qB ops oj oi.dst ||fP bs j i)&&(!qB ops oi oj.dst ||fP bs j i)&&(!df oi ||fP bs j i)
 |_,_=>false
def kM(f:Nat->Nat->Bool):List Nat->Bool
 | [] =>true
 |i :: is=>is.all (f i)&&kM f is
def xB(l:List Oper):Bool:=l.all fun o=>o.after.toList.all fun e => !Region.binds .any e ||decide (e.on<l.length)
def w8(l:List Oper)(ord:List Nat):Bool :=
 xB l&&(List.range l.length).all (fun i => !fP (dk l []) i i) &&
 decide (ord.length=l.length)&&(List.range l.length).all (fun i=>ord.contains i)&&kM (uZ (dk l []) l.toArray) ord&&ord.all (fun i=>decide (i<l.length))
structure rK(bs:List Nat)(ops:Array Oper)(i j:Nat):Prop where
 ex:∃oi oj,ops[i]?=some oi/\ops[j]?=some oj
 ne:i≠j
 order:fP bs i j=false
 ssa:∀oi oj d,ops[i]?=some oi->ops[j]?=some oj->oi.dst=some d->oj.dst≠some d
 wr:∀oi oj d,ops[i]?=some oi->ops[j]?=some oj->oi.dst=some d->d∈oj.looksAt ops->fP bs j i=true
 rw':∀oi oj d,ops[i]?=some oi->ops[j]?=some oj->oj.dst=some d->d∈oi.looksAt ops->fP bs j i=true
 hot:∀oi,ops[i]?=some oi->df oi=true->fP bs j i=true
theorem sO{bs:List Nat}{ops:Array Oper}{i j:Nat}(h:uZ bs ops i j=true):rK bs ops i j:=by
 unfold uZ at h
 split at h
 ·rename_i oi oj hi hj
  simp only[Bool.and_eq_true,Bool.or_eq_true,Bool.not_eq_true',bne_iff_ne]at h
  obtain ⟨⟨⟨⟨⟨h0,h1⟩,h2⟩,h3⟩,h4⟩,h5⟩:=h
  refine ⟨⟨oi,oj,hi,hj⟩,h0,h1,fun a b d ha hb hd =>?_,fun a b d ha hb hd hl =>?_,fun a b d ha hb hd hl =>?_,fun a ha hh =>?_⟩
  ·rw[hi]at ha;cases ha;rw[hj]at hb;cases hb
   rcases h2 with h2|h2
   ·rw[hd]at h2;simp at h2
   ·intro e;exact h2 (by rw[hd,e])
  ·rw[hi]at ha;cases ha;rw[hj]at hb;cases hb
   rcases h3 with h3|h3
   ·simp[qB,hd]at h3;exact absurd hl h3
   ·exact h3
  ·rw[hi]at ha;cases ha;rw[hj]at hb;cases hb
   rcases h4 with h4|h4
   ·simp[qB,hd]at h4;exact absurd hl h4
   ·exact h4
  ·rw[hi]at ha;cases ha
   rcases h5 with h5|h5
   ·rw[hh]at h5;cases h5
   ·exact h5
 ·simp at h
theorem oV{f:Nat->Nat->Bool}:∀{l:List Nat},kM f l=true->∀pre i mid j post,l=pre++i :: (mid++j :: post)->f i j=true:=by
 intro l
 induction l with
 |nil=>intro _ pre i mid j post h;simp at h
 |cons x xs ih =>
  intro h pre i mid j post hl
  simp only[kM,Bool.and_eq_true,List.all_eq_true]at h
  cases pre with
  |nil =>
   simp at hl
   obtain ⟨rfl,rfl⟩:=hl
   exact h.1 j (by simp)
  |cons p ps =>
   simp at hl
   exact ih h.2 ps i mid j post hl.2
def Loose(bs:List Nat)(j:Nat)(log:List (Nat×Option Nat))(ms:List Nat):Prop:=∀p∈log,fP bs j p.1=false->∀x,p.2=some x->x ∉ ms
theorem Loose.nil(bs:List Nat)(j:Nat)(log:List (Nat×Option Nat)):Loose bs j log []:=fun _ _ _ _ _ h=>by cases h
def rM(P:Program)(base:Nat)(M:List Nat)(bs:List Nat)(i:Nat)(log:List (Nat×Option Nat))(o:Oper)(e:Operand->Value)(H:Heap)(K:Value->Heap->List (Nat×Option Nat)->Prop):Prop :=
 match dE o.op with
 | .pure => ∃v rd,cO P o.op e H=some (v,rd)/\K v H ((i,rd) :: log)
 | .alloc => ∃v ob,ia P o.op e H.length=some (v,ob)/\K v (H ++ [ob]) ((i,some H.length) :: log)
 | .write => ∃v H' wr,dd P o.op e H=some (v,H',wr)/\(∀id∈wr,id<base->id∈M)/\Loose bs i log wr/\K v H' log
 | .call=>match o.op with
  | .call ⟨.value f,args,_⟩ => ∃Mc,gP P (e f) (args.toList.map e) H Mc (fun v H'=>K v H' log)/\(∀id∈Mc,id<base->id∈M)/\Loose bs i log Mc
  |_=>False
 | .iter=>False
 | .bad=>False
def gK(P:Program)(base:Nat)(M:List Nat)(bs:List Nat)(ops:Array Oper):List Nat->Tm->Heap->List (Nat×Option Nat)->(Tm->Heap->Prop)->Prop
 | [],T,H,_,Q=>Q T H
 |i :: is,T,H,log,Q =>
  match ops[i]? with
  |none=>False
  |some o =>
   ga o ops T=true/\if bY o ops T then rM P base M bs i log o (ev T) H (fun v H' iu=>gK P base M bs ops is (put T o.dst v) H' iu Q)
   else gK P base M bs ops is (put T o.dst undef) H log Q
structure Ent where
 i:Nat
 o:Oper
 T:Tm
 H:Heap
 v:Value
 H':Heap
 rd:Option Nat
 ms:List Nat
def yf(P:Program)(ops:Array Oper)(e:Ent):Prop :=
 (ops[e.i]?=some e.o/\ga e.o ops e.T=true) /\
 (df e.o=false->bY e.o ops e.T=true->(∃rd,cO P e.o.op (ev e.T) e.H=some (e.v,rd)/\e.H'=e.H/\e.rd=rd/\dE e.o.op = .pure) ∨
  (∃ob,ia P e.o.op (ev e.T) e.H.length=some (e.v,ob)/\e.H'=e.H ++ [ob]/\e.rd=some e.H.length/\dE e.o.op = .alloc)) /\
 (bY e.o ops e.T=false->e.v=undef)/\(df e.o=false->e.ms=[]) /\
 e.H.length<=e.H'.length/\(∀id,id<e.H.length->id ∉ e.ms->e.H'[id]?=e.H[id]?)
def bz(T0:Tm)(es:List Ent):Tm:=es.foldl (fun T e=>put T e.o.dst e.v) T0
inductive Chain (P:Program) (ops:Array Oper) (T0:Tm) (H0:Heap):List Ent->Heap->Prop
 |nil:Chain P ops T0 H0 [] H0
 |snoc {es H e} (h:Chain P ops T0 H0 es H) (hT:e.T=bz T0 es) (hH:e.H=H) (ok:yf P ops e):Chain P ops T0 H0 (es ++ [e]) e.H'
theorem ff(T0:Tm)(es:List Ent)(e:Ent):bz T0 (es ++ [e])=put (bz T0 es) e.o.dst e.v:=by simp[bz]
theorem po{T:Tm}{dst:Option Nat}{v:Value}{t:Nat}(h:dst≠some t):put T dst v t=T t:=by
 cases dst with
 |none=>rfl
 |some d=>have:t≠d:=fun e=>h (by rw[e]);simp[put,upd,this]
theorem dJ(T:Tm)(d:Nat)(v:Value):put T (some d) v d=v:=by simp[put,upd]
theorem mJ{α:Type}{p:List α->Prop}(h0:p [])(h1:∀l a,p l->p (l ++ [a])):∀l,p l:=by
 intro l
 have:∀n (l:List α),l.length=n->p l:=by
  intro n
  induction n with
  |zero=>intro l h;rw[List.length_eq_zero_iff.1 h];exact h0
  |succ n ih =>
   intro l h
   have hne:l≠[]:=by intro e;rw[e]at h;simp at h
   rw[<- List.dropLast_concat_getLast hne]
   exact h1 _ _ (ih _ (by simp[h]))
 exact this _ l rfl
theorem iW{T0:Tm}{t:Nat}:∀{es:List Ent},(∀e∈es,e.o.dst≠some t)->bz T0 es t=T0 t:=by
 intro es
 induction es using mJ with
 |h0=>intro _;rfl
 |h1 l a ih =>
  intro h
  rw[ff,po (h a (by simp))]
  exact ih (fun e he=>h e (by simp[he]))
theorem iV{T0:Tm}{t:Nat}{pre post:List Ent}{e:Ent}(hd:e.o.dst=some t)(hp:∀x∈post,x.o.dst≠some t):bz T0 (pre++e :: post) t=e.v:=by
 induction post using mJ with
 |h0=>rw[show pre ++ [e]=pre ++ [e] from rfl,ff,hd,dJ]
 |h1 l a ih =>
  rw[show pre++e :: (l ++ [a])=(pre++e :: l) ++ [a] by simp,ff,po (hp a (by simp))]
  exact ih (fun x hx=>hp x (by simp[hx]))
theorem Chain.split{ops:Array Oper}{T0:Tm}{H0:Heap}:∀{es:List Ent} {H:Heap},Chain P ops T0 H0 es H->∀pre e post,es=pre++e :: post ->
  yf P ops e/\e.T=bz T0 pre/\Chain P ops T0 H0 pre e.H/\e.H'.length<=H.length/\(∀id,id<e.H'.length->(∀x∈post,id ∉ x.ms)->H[id]?=e.H'[id]?):=by
 intro es H h
 induction h with
 |nil=>intro pre e post he;simp at he
 | @snoc es H x hc hT hH ok ih =>
  intro pre e post he
  rcases List.eq_nil_or_concat post with rfl|⟨post',y,rfl⟩
  ·obtain ⟨rfl,h2⟩:=List.append_inj' he (by simp)
   simp at h2;subst h2
   refine ⟨ok,hT,by rw[hH];exact hc,Nat.le_refl _,fun id _ _=>rfl⟩
  ·have he2:es ++ [x]=(pre++e :: post') ++ [y]:=by rw[he];simp
   obtain ⟨rfl,h2⟩:=List.append_inj' he2 (by simp)
   simp at h2;subst h2
   obtain ⟨g1,g2,g3,g4,g5⟩:=ih pre e post' rfl
   refine ⟨g1,g2,g3,?_,fun id h1 h2 =>?_⟩
   ·rw[<- hH]at g4;exact Nat.le_trans g4 ok.2.2.2.2.1
   ·have hl:id<x.H.length:=by rw[hH];omega
    rw[ok.2.2.2.2.2 id hl (h2 x (by simp)),hH]
    exact g5 id h1 (fun z hz=>h2 z (by simp[hz]))
theorem Chain.len{ops:Array Oper}{T0:Tm}{H0:Heap}{es:List Ent}{H:Heap}(h:Chain P ops T0 H0 es H):H0.length<=H.length:=by
 induction h with
 |nil=>exact Nat.le_refl _
 |snoc _ _ hH ok ih=>rw[<- hH]at ih;exact Nat.le_trans ih ok.2.2.2.2.1
theorem Post.app{B base:Nat}{M:List Nat}{ρ0 ρ:Ren}{H0 H:Heap}{w0 w:World}(p:Post P B base M ρ0 H0 w0 ρ H w)(hbase:base<=H.length)(l:Heap):Post P B base M ρ0 H0 w0 ρ (H++l) w:=by
 have hr:=p.rel
 have hget:∀id r,ρ id=some r->(H++l)[id]?=H[id]? := fun id r h=>List.getElem?_append_left (hr.dom id r h)
 refine ⟨⟨hr.bsize,hr.cS,fun id r h=>by have:=hr.dom id r h;simp;omega,hr.lt,fun id r o h1 h2=>hr.obj id r o h1 (by rw[<- hget id r h1];exact h2),fun id r o h1 h2 h3=>hr.base id r o h1 (by rw[<- hget id r h1];exact h2) h3,?_,fun b m hb=>⟨(hr.mem b m hb).1,fun id r o h1 h2 h3=>(hr.mem b m hb).2 id r o h1 (by rw[<- hget id r h1];exact h2) h3⟩,
   hr.fam.keep (Ren.le_refl _) (fun _ _ _ h=>h) (fun F z cs hF h=>by rw[List.getElem?_append_left hF]at h;exact h) (by simp) (Nat.le_refl _) (fun _ _=>rfl) (fun id r o h1 h2 h3=>hr.fam.free h1 (by rw[<- hget id r h1];exact h2) h3) (fun b m h=>hr.fam.ez h)⟩,
  p.ext,p.new,by have:=p.len;simp;omega,fun id h1 h2 =>?_,p.size,p.keep,fun b h1 h2 =>?_,p.os,p.tape,p.output,p.frz,p.drawn,p.kn⟩
 ·intro id id' r r' o o' h1 h1' h2 h2' h3 h3' hne
  exact hr.sep id id' r r' o o' h1 h1' (by rw[<- hget id r h1];exact h2) (by rw[<- hget id' r' h1'];exact h2') h3 h3' hne
 ·rw[List.getElem?_append_left (by omega)];exact p.same id h1 h2
 ·rcases h2 with ⟨id,r,o,g1,g2,g3,g4⟩|⟨F,k,r,z,cs,m,e⟩
  ·exact p.ob b h1 (.inl ⟨id,r,o,g1,by rw[<- hget id r g1];exact g2,g3,g4⟩)
  ·exact p.ob b h1 (.inr ⟨F,k,r,z,cs,⟨m.g,by have:=m.h;rw[List.getElem?_append_left (hr.fam.dom F k r m.g)]at this;exact this,m.a⟩,e⟩)
theorem Post.late{B base:Nat}{M:List Nat}{ρ0 ρ:Ren}{H0 H:Heap}{w0 w:World}(p:Post P B base M ρ0 H0 w0 ρ H w){id:Nat}{ob:aa}{obj:Obj}{ri:RI}(hid:id<H.length)(h0:H0.length<=id)(hob:H[id]?=some ob)(hno:ρ id=none)
  (hb:ri.b=w.heap.size) (ho:aI (ρ.set id ri) ri ob (w.alloc obj)):Post P B base M ρ0 H0 w0 (ρ.set id ri) H (w.alloc obj):=by
 have hr:=p.rel
 have hle:=Ren.dr (r:=ri) hno
 have hold:∀k,k<w.heap.size->(w.alloc obj).heap[k]?=w.heap[k]? := fun k hk=>RowKit.Below.heap_alloc w obj k hk
 refine ⟨⟨by simp;have:=hr.bsize;omega,fun g hg =>?_,fun i x h =>?_,fun i x h =>?_,fun i x o h1 h2 =>?_,fun i x o h1 h2 h3 =>?_,?_,fun b m hm =>?_,?_⟩,
  Ren.le_trans p.ext hle,fun i x h1 h2 =>?_,p.len,p.same,by have:=p.size;simp;omega,fun b h1 h2 =>?_,fun b h1 h2 =>?_,p.os,p.tape,p.output,p.frz,p.drawn,p.kn⟩
 ·obtain ⟨x,g1,g2,g3⟩:=hr.cS g hg
  exact ⟨x,hle _ _ g1,g2,g3⟩
 ·by_cases e:i=id
  ·subst e;exact hid
  ·rw[Ren.au e]at h;exact hr.dom i x h
 ·by_cases e:i=id
  ·subst e;rw[Ren.av]at h;cases h;rw[hb];simp
  ·rw[Ren.au e]at h;have:=hr.lt i x h;simp;omega
 ·by_cases e:i=id
  ·subst e;rw[Ren.av]at h1;cases h1;rw[hob]at h2;cases h2;exact ho
  ·rw[Ren.au e]at h1;exact (hr.obj i x o h1 h2).mono hle (hold _ (hr.lt i x h1))
 ·by_cases e:i=id
  ·subst e;rw[Ren.av]at h1;cases h1;rw[hb];exact hr.bsize
  ·rw[Ren.au e]at h1;exact hr.base i x o h1 h2 h3
 ·intro i i' x x' o o' h1 h1' h2 h2' h3 h3' hne
  by_cases e:i=id
  ·subst e
   rw[Ren.av]at h1;cases h1
   rw[Ren.au (Ne.symm hne)]at h1'
   have:=hr.lt _ _ h1'
   omega
  ·rw[Ren.au e]at h1
   by_cases e':i'=id
   ·subst e'
    rw[Ren.av]at h1';cases h1'
    have:=hr.lt _ _ h1
    omega
   ·rw[Ren.au e']at h1'
    exact hr.sep i i' x x' o o' h1 h1' h2 h2' h3 h3' hne
 ·obtain ⟨⟨ty,fz,e⟩,k⟩:=hr.mem b m hm
  have hbl:b<w.heap.size:=(Array.getElem?_eq_some_iff.1 e).1
  refine ⟨⟨ty,fz,(hold b hbl).trans e⟩,fun i x o h1 h2 h3 =>?_⟩
  by_cases e2:i=id
  ·subst e2;rw[Ren.av]at h1;cases h1;omega
  ·rw[Ren.au e2]at h1;exact k i x o h1 h2 h3
 ·refine hr.fam.keep hle (fun _ _ _ h=>h) (fun F z cs _ h=>h) (Nat.le_refl _) (by simp) (fun b hb =>?_) (fun i x o h1 h2 h3 =>?_) (fun b m h=>hr.fam.ez h)
  ·rcases Nat.lt_or_ge b w.heap.size with hl|hl
   ·exact hold b hl
   ·exact absurd hb (hr.fam.t8 hl)
  ·by_cases e:i=id
   ·subst e;rw[Ren.av]at h1;cases h1;exact hr.fam.t8 (by omega)
   ·rw[Ren.au e]at h1;exact hr.fam.free h1 h2 h3
 ·by_cases e:i=id
  ·omega
  ·rw[Ren.au e]at h1;exact p.new i x h1 h2
 ·rw[hold b (by have:=p.size;omega)];exact p.keep b h1 h2
 ·rcases h2 with ⟨i,x,o,g1,g2,g3,g4⟩|⟨F,k,r,z,cs,m,e⟩
  ·by_cases e:i=id
   ·subst e;rw[Ren.av]at g1;cases g1;have:=p.size;omega
   ·rw[Ren.au e]at g1;exact p.ob b h1 (.inl ⟨i,x,o,g1,g2,g3,g4⟩)
  ·exact p.ob b h1 (.inr ⟨F,k,r,z,cs,⟨m.g,m.h,m.a⟩,e⟩)
theorem xy{B N:Nat}{ρ:Ren}{H:Heap}{w:World}{T:Tm}{a:Act}{ops:Array Oper}(hr:Rel P B ρ H w){o:Oper}(hT:∀t,t<N->t∈o.looksAt ops->VR ρ (T t) (a.tmps.getD t undef))(ho:jp N P.globals.size o=true) :
  ∀x∈o.op.operands,VR ρ (ev T x) (a.eval x):=by
 intro x hx
 simp only[jp,Bool.and_eq_true,List.all_eq_true]at ho
 have:=ho.1.1.2 x (by simpa using hx)
 cases x with
 |tmp t=>exact hT t (by simpa using this) (List.mem_append_left _ (List.mem_filterMap.2 ⟨.tmp t,by simpa using hx,rfl⟩))
 |const v=>exact (fQ (by simpa using this):VR ρ v v)
 |global g =>
  obtain ⟨r,h1,h2,h3⟩:=hr.cS g (by simpa using this)
  have:=VR.ptr (o:=0) h1
  rw[h2,h3]at this
  exact this
 |func f=>exact .func rfl (by intro i v v' h;simp at h) rfl (by intro i v v' h;simp at h)
theorem lF{N:Nat}{ρ:Ren}{T:Tm}{a:Act}{ops:Array Oper}(hsz:a.tmps.size=N)(hops:∀o∈ops,∀d,o.dst=some d->d<N){o:Oper}(hT:∀t,t<N->t∈o.looksAt ops->VR ρ (T t) (a.tmps.getD t undef)) :
  ga o ops T=true->Region.wanted o (yielded ops a.tmps)=bY o ops T:=by
 intro hkn
 unfold ga at hkn
 unfold Region.wanted bY yielded
 cases hg:o.guard with
 |none=>rfl
 |some gw =>
  obtain ⟨g,want⟩:=gw
  simp only
  cases hd:(ops[g]?).bind (·.dst) with
  |none=>rfl
  |some d =>
   obtain ⟨og,h1,h2⟩:=Option.bind_eq_some_iff.1 hd
   have hlt:d<N:=hops og (Array.mem_of_getElem? h1) d h2
   have hlt':d<a.tmps.size:=by rw[hsz];exact hlt
   have hv:=hT d hlt (List.mem_append_right _ (by simp[hg,hd]))
   have hge:a.tmps.getD d undef=a.tmps[d]:=by simp[Array.getD,hlt']
   rw[hge]at hv
   simp only[Option.bind_some,Array.getElem?_eq_getElem hlt']
   generalize a.tmps[d]=q at hv
   simp only[hg,hd]at hkn
   generalize T d=p at hv hkn
   cases hv <;> first
    |rfl
    |(rename_i b;cases b <;> cases want <;> rfl)
    |(cases hkn)
theorem ey{a:Act}{dst:Option Tmp}{v:Value}{t:Nat}(h:dst≠some t):(a.put dst v).tmps.getD t undef=a.tmps.getD t undef:=by
 cases dst with
 |none=>rfl
 |some d =>
  have:d≠t:=fun e=>h (by rw[e])
  simp[Act.put,Array.getElem?_setIfInBounds_ne this]
theorem gb{a:Act}{t:Nat}{v:Value}(h:t<a.tmps.size):(a.put (some t) v).tmps.getD t undef=v:=by simp[Act.put,h]
theorem sK(a:Act)(dst:Option Tmp)(v:Value):(a.put dst v).tmps.size=a.tmps.size:=by cases dst <;> simp[Act.put]
theorem put_defers(a:Act)(dst:Option Tmp)(v:Value):(a.put dst v).defers=a.defers:=by cases dst <;> rfl
structure Inv(P:Program)(B base N:Nat)(M:List Nat)(l:List Oper)(ord:List Nat)(T0:Tm)(ρ0:Ren)(H0:Heap)(w0:World)(ds:List Deferred)(Q:Tm->Heap->Prop)
  (es:List Ent) (rest:List Nat) (H:Heap) (log:List (Nat×Option Nat)) (ρ:Ren) (a:Act) (w:World) (listed:Array Bool):Prop where
 ch:Chain P l.toArray T0 H0 es H
 ord:es.map (·.i)++rest=ord
 hot:∀e∈es,df e.o=true->listed.getD e.i false=true
 un:∀i∈rest,listed.getD i false=false
 post:Post P B base M ρ0 H0 w0 ρ H w
 size:a.tmps.size=N
 tA:∀e∈es,listed.getD e.i false=true->∀t,e.o.dst=some t->VR ρ e.v (a.tmps.getD t undef)
 tB:∀t,t<N->(∀e∈es,listed.getD e.i false=true->e.o.dst≠some t)->VR ρ (T0 t) (a.tmps.getD t undef)
 al:∀e∈es,listed.getD e.i false=false->dE e.o.op = .alloc->bY e.o l.toArray e.T=true->ρ e.H.length=none
 loose:∀pre e post,es=pre++e :: post->∀h∈post,df h.o=true->fP (dk l []) h.i e.i=false->∀x,e.rd=some x->x ∉ h.ms
 lg:∀e∈es,∀x,e.rd=some x->(e.i,some x)∈log
 cl:∀j,listed.getD j false=true->∀i,fP (dk l []) j i=true->listed.getD i false=true
 lsz:listed.size=l.length
 dn:a.defers=ds
 k:gK P base M (dk l []) l.toArray rest (bz T0 es) H log Q
section
variable {B base N:Nat} {M:List Nat} {l:List Oper} {ord:List Nat} {T0:Tm} {ρ0:Ren} {H0:Heap} {w0:World} {ds:List Deferred} {Q:Tm->Heap->Prop}
theorem Inv.len{es:List Ent}{rest:List Nat}{H:Heap}{log:List (Nat×Option Nat)}{ρ:Ren}{a:Act}{w:World}{listed:Array Bool}(h:Inv P B base N M l ord T0 ρ0 H0 w0 ds Q es rest H log ρ a w listed):H0.length<=H.length:=h.ch.len
theorem Inv.BP{es:List Ent}{i:Nat}{is:List Nat}{H:Heap}{log:List (Nat×Option Nat)}{ρ:Ren}{a:Act}{w:World}{listed:Array Bool}(hbase:base<=H0.length)
  (h:Inv P B base N M l ord T0 ρ0 H0 w0 ds Q es (i :: is) H log ρ a w listed) {o:Oper} (ho:l.toArray[i]?=some o) (hh:df o=false) :
  ∃e H' iu,Inv P B base N M l ord T0 ρ0 H0 w0 ds Q (es ++ [e]) is H' iu ρ a w listed:=by
 have hk:=h.k
 simp only[gK,ho]at hk
 obtain ⟨hkn,hk⟩:=hk
 have hlen:=h.len
 have hui:=h.un i (List.mem_cons_self ..)
 have step:∀(e:Ent) (iu:List (Nat×Option Nat)),e.i=i->e.o=o->e.T=bz T0 es->e.H=H->yf P l.toArray e->Post P B base M ρ0 H0 w0 ρ e.H' w->(∀x,e.rd=some x->(i,some x)∈iu)->(∀p∈log,p∈iu) ->
   gK P base M (dk l []) l.toArray is (put (bz T0 es) o.dst e.v) e.H' iu Q->∃e H' iu,Inv P B base N M l ord T0 ρ0 H0 w0 ds Q (es ++ [e]) is H' iu ρ a w listed:=by
  intro e iu e1 e2 e3 e4 ok hp hlg hsub hk'
  refine ⟨e,e.H',iu,?_⟩
  have mem:∀x,x∈es ++ [e]->x∈es∨x=e:=by intro x hx;simpa using hx
  refine ⟨Chain.snoc h.ch e3 e4 ok,by rw[<- h.ord];simp[e1],?_,fun j hj=>h.un j (List.mem_cons_of_mem _ hj),hp,h.size,?_,?_,?_,?_,?_,h.cl,h.lsz,h.dn,by rw[ff,e2];exact hk'⟩
  ·intro x hx hx2
   rcases mem x hx with hx|rfl
   ·exact h.hot x hx hx2
   ·rw[e2,hh]at hx2;cases hx2
  ·intro x hx hl2 t ht
   rcases mem x hx with hx|rfl
   ·exact h.tA x hx hl2 t ht
   ·rw[e1,hui]at hl2;cases hl2
  ·intro t ht hn
   exact h.tB t ht (fun x hx=>hn x (by simp[hx]))
  ·intro x hx hl2 hc hw
   rcases mem x hx with hx|rfl
   ·exact h.al x hx hl2 hc hw
   ·rw[e4]
    cases hq:ρ H.length with
    |none=>rfl
    |some r=>exact absurd (h.post.rel.dom _ _ hq) (Nat.lt_irrefl _)
  ·intro pre y post hsp hx hxm tY jv x hrd
   rcases List.eq_nil_or_concat post with rfl|⟨post',z,rfl⟩
   ·cases hxm
   ·have he2:es ++ [e]=(pre++y :: post') ++ [z]:=by rw[hsp];simp
    obtain ⟨h1,h2⟩:=List.append_inj' he2 (by simp)
    simp at h2;subst h2
    simp only[List.concat_eq_append,List.mem_append,List.mem_singleton]at hxm
    rcases hxm with hxm|rfl
    ·exact h.loose pre y post' h1 hx hxm tY jv x hrd
    ·rw[e2,hh]at tY;cases tY
  ·intro y hy x hrd
   rcases mem y hy with hy|rfl
   ·exact hsub _ (h.lg y hy x hrd)
   ·rw[e1];exact hlg x hrd
 cases hw:bY o l.toArray (bz T0 es) with
 |false =>
  rw[hw]at hk
  simp only[Bool.false_eq_true,if_false]at hk
  refine step ⟨i,o,bz T0 es,H,undef,H,none,[]⟩ log rfl rfl rfl rfl ⟨⟨ho,hkn⟩,fun _ h2 =>?_,fun _=>rfl,fun _=>rfl,Nat.le_refl _,fun _ _ _=>rfl⟩ h.post (fun x hx=>by cases hx) (fun p hp=>hp) hk
  have h2':bY o l.toArray (bz T0 es)=true:=h2
  rw[hw]at h2';cases h2'
 |true =>
  rw[hw]at hk
  simp only[if_true]at hk
  unfold rM at hk
  unfold df at hh
  split at hk
  ·rename_i hc
   obtain ⟨v,rd,h1,h2⟩:=hk
   refine step ⟨i,o,bz T0 es,H,v,H,rd,[]⟩ ((i,rd) :: log) rfl rfl rfl rfl ⟨⟨ho,hkn⟩,fun _ _ => .inl ⟨rd,h1,rfl,rfl,hc⟩,fun h3 =>?_,fun _=>rfl,Nat.le_refl _,fun _ _ _=>rfl⟩ h.post (fun x hx=>by cases hx;exact List.mem_cons_self ..) (fun p hp=>List.mem_cons_of_mem _ hp) h2
   have h3':bY o l.toArray (bz T0 es)=false:=h3
   rw[hw]at h3';cases h3'
  ·rename_i hc
   obtain ⟨v,ob,h1,h2⟩:=hk
   refine step ⟨i,o,bz T0 es,H,v,H ++ [ob],some H.length,[]⟩ ((i,some H.length) :: log) rfl rfl rfl rfl ⟨⟨ho,hkn⟩,fun _ _ => .inr ⟨ob,h1,rfl,rfl,hc⟩,fun h3 =>?_,fun _=>rfl,by simp,fun id hid _=>List.getElem?_append_left hid⟩
    (h.post.app (by omega) _) (fun x hx=>by cases hx;exact List.mem_cons_self ..) (fun p hp=>List.mem_cons_of_mem _ hp) h2
   have h3':bY o l.toArray (bz T0 es)=false:=h3
   rw[hw]at h3';cases h3'
  ·rename_i hc;rw[hc]at hh;cases hh
  ·rename_i hc;rw[hc]at hh;cases hh
  ·rename_i hc;rw[hc]at hh;cases hh
  ·exact hk.elim
theorem Inv.advance(hbase:base<=H0.length):∀(rest:List Nat) {es:List Ent} {H:Heap} {log:List (Nat×Option Nat)} {ρ:Ren} {a:Act} {w:World} {listed:Array Bool},
  Inv P B base N M l ord T0 ρ0 H0 w0 ds Q es rest H log ρ a w listed ->
  ∃es' rest' H' iu,Inv P B base N M l ord T0 ρ0 H0 w0 ds Q es' rest' H' iu ρ a w listed/\∀i is,rest'=i :: is->∃o,l.toArray[i]?=some o/\df o=true:=by
 intro rest
 induction rest with
 |nil=>intro es H log ρ a w listed h;exact ⟨es,[],H,log,h,fun i is h=>by cases h⟩
 |cons i is ih =>
  intro es H log ρ a w listed h
  cases ho:l.toArray[i]? with
  |none=>have:=h.k;simp only[gK,ho]at this
  |some o =>
   cases hh:df o with
   |true=>exact ⟨es,i :: is,H,log,h,fun j js hj=>by cases hj;exact ⟨o,ho,hh⟩⟩
   |false =>
    obtain ⟨e,H',iu,h'⟩:=h.BP hbase ho hh
    exact ih h'
end
end Go.K
namespace Go.K
variable {P:Program}
structure jD(l:List Oper)(ord:List Nat):Prop where
 edges:∀(i:Nat) (o:Oper),l[i]?=some o->∀e∈o.after,Region.binds .any e=true->e.on<l.length
 irr:∀i,i<l.length->fP (dk l []) i i=false
 all:∀i,i<l.length->i∈ord
 pair:∀pre i mid j post,ord=pre++i :: (mid++j :: post)->rK (dk l []) l.toArray i j
 lt:∀i∈ord,i<l.length
theorem u0{l:List Oper}{ord:List Nat}(h:w8 l ord=true):jD l ord:=by
 unfold w8 at h
 simp only[Bool.and_eq_true,decide_eq_true_eq,List.all_eq_true,List.mem_range,List.contains_iff_mem,Bool.not_eq_true']at h
 obtain ⟨⟨⟨⟨⟨h1,h2⟩,h3⟩,h4⟩,h5⟩,h6⟩:=h
 refine ⟨fun i o ho e he hb =>?_,h2,h4,fun pre i mid j post hl=>sO (oV h5 pre i mid j post hl),h6⟩
 simp only[xB,List.all_eq_true]at h1
 have:=h1 o (List.mem_of_getElem? ho) e (Array.mem_toList_iff.2 he)
 simp only[Bool.or_eq_true,Bool.not_eq_true',decide_eq_true_eq]at this
 rcases this with h7|h7
 ·rw[hb]at h7;cases h7
 ·exact h7
section
variable {B base N:Nat} {M:List Nat} {l:List Oper} {ord:List Nat} {T0:Tm} {ρ0:Ren} {H0:Heap} {w0:World} {ds:List Deferred} {Q:Tm->Heap->Prop}
 {es:List Ent} {rest:List Nat} {H:Heap} {log:List (Nat×Option Nat)} {ρ:Ren} {a:Act} {w:World} {listed:Array Bool}
theorem fO(h:Inv P B base N M l ord T0 ρ0 H0 w0 ds Q es rest H log ρ a w listed){i:Nat}(hi:i∈Region.ready .any l.toArray listed):∀k,fP (dk l []) i k=true->listed.getD k false=true:=by
 intro k hk
 obtain ⟨o,ho,e,he,hb,hor⟩:=BK hk
 obtain ⟨_,o',ho',hall⟩:=mem_ready.1 hi
 have:o'=o:=by simp at ho';rw[ho]at ho';exact (Option.some.inj ho').symm
 subst this
 have hl:=hall e he hb
 rcases hor with rfl|hd
 ·exact hl
 ·exact h.cl _ hl _ hd
theorem sd{i:Nat}(hl:i<listed.size)(h:listed.getD i true=false):listed.getD i false=false:=by
 simpa[Array.getD,hl] using h
theorem Inv.mR(cG:jD l ord)(h:Inv P B base N M l ord T0 ρ0 H0 w0 ds Q es rest H log ρ a w listed){pre mid post:List Ent}{x y:Ent}(hs:es=pre++x :: (mid++y :: post)):rK (dk l []) l.toArray x.i y.i :=
 cG.pair (pre.map (·.i)) x.i (mid.map (·.i)) y.i (post.map (·.i)++rest) (by rw[<- h.ord,hs];simp)
theorem Inv.EF(cG:jD l ord)(h:Inv P B base N M l ord T0 ρ0 H0 w0 ds Q es rest H log ρ a w listed){pre post:List Ent}{x:Ent}{j:Nat}{is:List Nat}(hs:es=pre++x :: post)(hr:rest=j :: is):rK (dk l []) l.toArray x.i j :=
 cG.pair (pre.map (·.i)) x.i (post.map (·.i)) j is (by rw[<- h.ord,hs,hr];simp)
theorem Inv.ent(h:Inv P B base N M l ord T0 ρ0 H0 w0 ds Q es rest H log ρ a w listed){e:Ent}(he:e∈es):l.toArray[e.i]?=some e.o:=by
 obtain ⟨pre,post,rfl⟩:=List.append_of_mem he
 exact (h.ch.split pre e post rfl).1.1.1
theorem Inv.FV(cG:jD l ord)(h:Inv P B base N M l ord T0 ρ0 H0 w0 ds Q es rest H log ρ a w listed){pre post:List Ent}{e:Ent}(hs:es=pre++e :: post)(hi:e.i∈Region.ready .any l.toArray listed)(hun:listed.getD e.i false=false) :
  ∀t,t<N->t∈e.o.looksAt l.toArray->VR ρ (e.T t) (a.tmps.getD t undef):=by
 intro t ht hl
 have hsp:=h.ch.split pre e post hs
 rw[hsp.2.1]
 have hme:∀x,x∈es->l.toArray[x.i]?=some x.o:=fun x hx=>h.ent hx
 by_cases hw:∃y∈pre,y.o.dst=some t
 ·obtain ⟨y,hy,hd⟩:=hw
  obtain ⟨p1,p2,rfl⟩:=List.append_of_mem hy
  have hs2:es=p1++y :: (p2++e :: post):=by rw[hs];simp
  have hyes:y∈es:=by rw[hs2];simp
  have JB:e∈es:=by rw[hs2];simp
  have pk:=h.mR cG hs2
  have jv:=pk.wr y.o e.o t (hme y hyes) (hme e JB) hd hl
  have hly:=fO h hi _ jv
  rw[iV hd (fun x hx =>?_)]
  ·exact h.tA y hyes hly t hd
  ·obtain ⟨q1,q2,rfl⟩:=List.append_of_mem hx
   have hs3:es=p1++y :: (q1++x :: (q2++e :: post)):=by rw[hs2];simp
   exact (h.mR cG hs3).ssa y.o x.o t (hme y hyes) (hme x (by rw[hs3];simp)) hd
 ·rw[iW (fun x hx hd=>hw ⟨x,hx,hd⟩)]
  refine h.tB t ht (fun x hx hlx hd =>?_)
  rw[hs]at hx
  simp only[List.mem_append,List.mem_cons]at hx
  rcases hx with hx|rfl|hx
  ·exact hw ⟨x,hx,hd⟩
  ·rw[hun]at hlx;cases hlx
  ·obtain ⟨q1,q2,rfl⟩:=List.append_of_mem hx
   have pk:=h.mR cG hs
   have jv:=pk.rw' e.o x.o t (hme e (by rw[hs];simp)) (hme x (by rw[hs];simp)) hd hl
   rw[h.cl _ hlx _ jv]at hun;cases hun
theorem Inv.FU(cG:jD l ord)(h:Inv P B base N M l ord T0 ρ0 H0 w0 ds Q es rest H log ρ a w listed){j:Nat}{is:List Nat}(hr:rest=j :: is){o:Oper}(ho:l.toArray[j]?=some o)(hi:j∈Region.ready .any l.toArray listed) :
  ∀t,t<N->t∈o.looksAt l.toArray->VR ρ (bz T0 es t) (a.tmps.getD t undef):=by
 intro t ht hl
 have hme:∀x,x∈es->l.toArray[x.i]?=some x.o:=fun x hx=>h.ent hx
 by_cases hw:∃y∈es,y.o.dst=some t
 ·obtain ⟨y,hy,hd⟩:=hw
  obtain ⟨p1,p2,hs2⟩:=List.append_of_mem hy
  have pk:=h.EF cG hs2 hr
  have jv:=pk.wr y.o o t (hme y hy) ho hd hl
  have hly:=fO h hi _ jv
  have:bz T0 es t=y.v:=by
   rw[hs2]
   refine iV hd (fun x hx =>?_)
   obtain ⟨q1,q2,rfl⟩:=List.append_of_mem hx
   exact (h.mR cG hs2).ssa y.o x.o t (hme y hy) (hme x (by rw[hs2];simp)) hd
  rw[this]
  exact h.tA y hy hly t hd
 ·rw[iW (fun x hx hd=>hw ⟨x,hx,hd⟩)]
  exact h.tB t ht (fun x hx _ hd=>hw ⟨x,hx,hd⟩)
theorem fo{listed:Array Bool}{i:Nat}(hi:i<listed.size)(j:Nat):(listed.setIfInBounds i true).getD j false=if j=i then true else listed.getD j false:=by
 by_cases e:j=i
 ·subst e;simp[hi]
 ·rw[if_neg e];exact getD_set_ne false (Ne.symm e)
theorem Inv.BA(cG:jD l ord)(h:Inv P B base N M l ord T0 ρ0 H0 w0 ds Q es rest H log ρ a w listed){e:Ent}(he:e∈es)(hi:e.i∈Region.ready .any l.toArray listed)(hun:listed.getD e.i false=false){ρ':Ren}{w':World}{v':Value}
  (hle:Ren.le ρ ρ') (hp:Post P B base M ρ0 H0 w0 ρ' H w') (hv:VR ρ' e.v v') (hal:∀x∈es,x.i≠e.i->listed.getD x.i false=false->dE x.o.op = .alloc->bY x.o l.toArray x.T=true->ρ' x.H.length=none) (hdst:∀d,e.o.dst=some d->d<N) :
  Inv P B base N M l ord T0 ρ0 H0 w0 ds Q es rest H log ρ' (a.put e.o.dst v') w' (listed.setIfInBounds e.i true):=by
 have hme:∀x,x∈es->l.toArray[x.i]?=some x.o:=fun x hx=>h.ent hx
 have hlt:e.i<listed.size:=by
  rw[h.lsz]
  have:=(Array.getElem?_eq_some_iff.1 (hme e he)).1
  simpa using this
 have hset:=fo hlt
 have hne:∀x∈es,x≠e->x.i≠e.i/\(∀d,x.o.dst=some d->e.o.dst≠some d):=by
  intro x hx hxe
  obtain ⟨p1,p2,hs⟩:=List.append_of_mem hx
  have he':=he
  rw[hs]at he'
  simp only[List.mem_append,List.mem_cons]at he'
  rcases he' with he'|rfl|he'
  ·obtain ⟨q1,q2,rfl⟩:=List.append_of_mem he'
   have pk:=h.mR cG (show es=q1++e :: (q2++x :: p2) by rw[hs];simp)
   exact ⟨Ne.symm pk.ne,fun d h1 h2=>pk.ssa e.o x.o d (hme e he) (hme x hx) h2 h1⟩
  ·exact absurd rfl hxe
  ·obtain ⟨q1,q2,rfl⟩:=List.append_of_mem he'
   have pk:=h.mR cG hs
   exact ⟨pk.ne,fun d h1=>pk.ssa x.o e.o d (hme x hx) (hme e he) h1⟩
 have hup:∀j,listed.getD j false=true->(listed.setIfInBounds e.i true).getD j false=true:=by
  intro j hj;rw[hset];split <;> first|rfl|exact hj
 have xq:∀x∈es,(listed.setIfInBounds e.i true).getD x.i false=true->x=e∨listed.getD x.i false=true:=by
  intro x hx hl
  by_cases hxe:x=e
  ·exact .inl hxe
  ·rw[hset,if_neg (hne x hx hxe).1]at hl;exact .inr hl
 refine ⟨h.ch,h.ord,fun x hx hh=>hup _ (h.hot x hx hh),fun i hi2 =>?_,hp,by rw[sK];exact h.size,fun x hx hl t ht =>?_,fun t ht hn =>?_,fun x hx hl hc hw =>?_,h.loose,h.lg,fun j hj i hd =>?_,by simp[h.lsz],by rw[put_defers];exact h.dn,h.k⟩
 ·rw[hset,if_neg]
  ·exact h.un i hi2
  ·intro hie
   obtain ⟨p1,p2,hs⟩:=List.append_of_mem he
   obtain ⟨r1,r2,hr⟩:=List.append_of_mem hi2
   have:=cG.pair (p1.map (·.i)) e.i (p2.map (·.i)++r1) i r2 (by rw[<- h.ord,hs,hr];simp)
   exact this.ne hie.symm
 ·rcases xq x hx hl with rfl|hl2
  ·rw[ht,gb (by rw[h.size];exact hdst t ht)];exact hv
  ·by_cases hxe:x=e
   ·subst hxe;rw[ht,gb (by rw[h.size];exact hdst t ht)];exact hv
   ·rw[ey ((hne x hx hxe).2 t ht)];exact (h.tA x hx hl2 t ht).mono hle
 ·rw[ey (hn e he (by rw[hset,if_pos rfl]))]
  exact (h.tB t ht (fun x hx hl=>hn x hx (hup _ hl))).mono hle
 ·have hxe:x.i≠e.i:=by
   intro hxe;rw[hset,if_pos hxe]at hl;cases hl
  rw[hset,if_neg hxe]at hl
  exact hal x hx hxe hl hc hw
 ·rw[hset]at hj
  split at hj
  ·rename_i hje;subst hje;exact hup _ (fO h hi i hd)
  ·exact hup _ (h.cl j hj i hd)
theorem Inv.content(h:Inv P B base N M l ord T0 ρ0 H0 w0 ds Q es rest H log ρ a w listed){pre post:List Ent}{e:Ent}(hs:es=pre++e :: post)(hun:listed.getD e.i false=false){x:Nat}(hrd:e.rd=some x)(hx:x<e.H'.length):H[x]?=e.H'[x]? := by
 have hsp:=h.ch.split pre e post hs
 refine hsp.2.2.2.2 x hx (fun y hy =>?_)
 have hye:yf P l.toArray y:=by
  obtain ⟨q1,q2,rfl⟩:=List.append_of_mem hy
  exact (h.ch.split (pre++e :: q1) y q2 (by rw[hs];simp)).1
 cases hh:df y.o with
 |false=>rw[hye.2.2.2.1 hh];simp
 |true =>
  have hly:=h.hot y (by rw[hs];simp[hy]) hh
  refine h.loose pre e post hs y hy hh ?_ x hrd
  cases hd:fP (dk l []) y.i e.i with
  |false=>rfl
  |true=>rw[h.cl _ hly _ hd]at hun;cases hun
theorem Inv.late(hok:∀o∈l,jp N P.globals.size o=true)(cG:jD l ord)(hbase:base<=H0.length)(h:Inv P B base N M l ord T0 ρ0 H0 w0 ds Q es rest H log ρ a w listed){ro:Option Nat}{Qr:Exit->Act->World->Prop}{e:Ent}(he:e∈es)(hi:e.i∈Region.ready .any l.toArray listed)(hun:listed.getD e.i false=false){K:Act->World->Prop}
  (hK:∀ρ' a' w',Inv P B base N M l ord T0 ρ0 H0 w0 ds Q es rest H log ρ' a' w' (listed.setIfInBounds e.i true)->K a' w'):wpOpIn (Fw ro) 0 P l.toArray Qr e.i K a w:=by
 obtain ⟨pre,post,hs⟩:=List.append_of_mem he
 have hsp:=h.ch.split pre e post hs
 obtain ⟨ok,hT,hc,hlen,_⟩:=hsp
 have hmem:e.o∈l:=by have:=ok.1.1;simp at this;exact List.mem_of_getElem? this
 have hlk:=h.FV cG hs hi hun
 have hdst:∀o∈l.toArray,∀d,o.dst=some d->d<N:=fun o ho d hd=>dK (hok o (by simpa using ho)) d hd
 have hw:=lF (ρ:=ρ) (T:=e.T) (ops:=l.toArray) h.size hdst (o:=e.o) hlk ok.1.2
 have Bf:df e.o=false:=by
  cases hh:df e.o with
  |false=>rfl
  |true=>rw[h.hot e he hh]at hun;cases hun
 unfold wpOpIn
 rw[ok.1.1]
 simp only[hw]
 cases hwt:bY e.o l.toArray e.T with
 |false =>
  simp only[Bool.false_eq_true,if_false]
  refine ⟨fun _ _=>trivial,hK ρ _ w (h.BA cG he hi hun (Ren.le_refl _) h.post ?_ (fun x hx _ hl hc hw=>h.al x hx hl hc hw) (fun d hd=>dK (hok _ hmem) d hd))⟩
  rw[ok.2.2.1 hwt];exact VR.undef ρ
 |true =>
  simp only[if_true]
  have hev:=xy (ops:=l.toArray) h.post.rel hlk (hok _ hmem)
  refine ⟨fun _ _=>trivial,?_⟩
  show e.o.uponIn (Fw ro) 0 P a K Qr ((e.o.semAt ro a.eval).run P w)
  rw[jI (hok _ hmem)]
  rcases ok.2.1 Bf hwt with ⟨rd,h1,h2,h3,h4⟩|⟨ob,h1,h2,h3,h4⟩
  ·have hoa:∀id,rd=some id->kP ρ e.H w id:=by
    intro id hid
    have hcn:∀o,e.H[id]?=some o->H[id]?=some o:=fun o g2=>by
     have hx:id<e.H.length:=(List.getElem?_eq_some_iff.1 g2).1
     have:=h.content hs hun (by rw[h3];exact hid) (by rw[h2];exact hx)
     rw[h2]at this
     rw[this];exact g2
    exact ⟨fun r o g1 g2=>h.post.rel.obj id r o g1 (hcn o g2),fun k r z cs m=>h.post.rel.fam.obj id k r z cs ⟨m.g,hcn _ m.h,m.a⟩⟩
   obtain ⟨v',g1,g2⟩:=pG (w:=w) h1 hev hoa (fun b m hb=>(h.post.rel.mem b m hb).1)
   rw[g1]
   exact hK ρ _ w (h.BA cG he hi hun (Ren.le_refl _) h.post g2 (fun x hx _ hl hc hw=>h.al x hx hl hc hw) (fun d hd=>dK (hok _ hmem) d hd))
  ·have hno:=h.al e he hun h4 hwt
   obtain ⟨v',obj,ri,g1,g2,g3,g4⟩:=nC h1 hev hno w
   rw[g1]
   have hob:H[e.H.length]?=some ob:=by
    rw[h.content hs hun h3 (by rw[h2];simp),h2]
    simp
   have hlt:e.H.length<H.length:=(List.getElem?_eq_some_iff.1 hob).1
   refine hK _ _ _ (h.BA cG he hi hun (Ren.dr hno) (h.post.late hlt hc.len hob hno g2 g4) g3 (fun x hx hxe hl hc2 hw2 =>?_) (fun d hd=>dK (hok _ hmem) d hd))
   have hx0:=h.al x hx hl hc2 hw2
   rw[Ren.au]
   ·exact hx0
   ·-- two operations that make a block make two blocks
    intro heq
    obtain ⟨p1,p2,hs2⟩:=List.append_of_mem hx
    have he':=he
    rw[hs2]at he'
    simp only[List.mem_append,List.mem_cons]at he'
    have Jw:=(h.ch.split p1 x p2 hs2).1
    have Gk:df x.o=false:=by
     cases hh:df x.o with
     |false=>rfl
     |true=>rw[h.hot x hx hh]at hl;cases hl
    rcases he' with he'|rfl|he'
    ·obtain ⟨q1,q2,rfl⟩:=List.append_of_mem he'
     have h5:=(h.ch.split (q1++e :: q2) x p2 hs2).2.2.1
     have h6:=(h5.split q1 e q2 rfl).2.2.2.1
     rw[h2]at h6
     simp at h6
     omega
    ·exact hxe rfl
    ·obtain ⟨q1,q2,rfl⟩:=List.append_of_mem he'
     have h5:=(h.ch.split (p1++x :: q1) e q2 (by rw[hs2];simp)).2.2.1
     have h6:=(h5.split p1 x q1 rfl).2.2.2.1
     rcases Jw.2.1 Gk hw2 with ⟨_,_,_,_,k4⟩|⟨ob2,_,k2,_,_⟩
     ·rw[k4]at hc2;cases hc2
     ·rw[k2]at h6;simp at h6;omega
end
end Go.K
namespace Go.K
variable {P:Program}
section
variable {B base N:Nat} {M:List Nat} {l:List Oper} {ord:List Nat} {T0:Tm} {ρ0:Ren} {H0:Heap} {w0:World} {ds:List Deferred} {Q:Tm->Heap->Prop}
 {es:List Ent} {rest:List Nat} {H:Heap} {log:List (Nat×Option Nat)} {ρ:Ren} {a:Act} {w:World} {listed:Array Bool}
theorem Inv.xC(cG:jD l ord)(hbase:base<=H0.length){j:Nat}{is:List Nat}(h:Inv P B base N M l ord T0 ρ0 H0 w0 ds Q es (j :: is) H log ρ a w listed){o:Oper}(ho:l.toArray[j]?=some o)(hh:df o=true)
  (hi:j∈Region.ready .any l.toArray listed) {ρ':Ren} {w':World} {v v':Value} {H':Heap} {ms:List Nat} (hp:Post P B H.length ms ρ H w ρ' H' w') (hms:∀id∈ms,id<base->id∈M) (hv:VR ρ' v v') (hlo:Loose (dk l []) j log ms)
  (hun:bY o l.toArray (bz T0 es)=false->v=undef) (hkn:ga o l.toArray (bz T0 es)=true) (hdst:∀d,o.dst=some d->d<N) (hk:gK P base M (dk l []) l.toArray is (put (bz T0 es) o.dst v) H' log Q) :
  ∃es',Inv P B base N M l ord T0 ρ0 H0 w0 ds Q es' is H' log ρ' (a.put o.dst v') w' (listed.setIfInBounds j true):=by
 have hme:∀x,x∈es->l.toArray[x.i]?=some x.o:=fun x hx=>h.ent hx
 have hlt:j<listed.size:=by
  rw[h.lsz]
  have:=(Array.getElem?_eq_some_iff.1 ho).1
  simpa using this
 have hset:=fo hlt
 have hne:∀x∈es,x.i≠j/\(∀d,x.o.dst=some d->o.dst≠some d):=by
  intro x hx
  obtain ⟨p1,p2,hs⟩:=List.append_of_mem hx
  have pk:=h.EF cG hs rfl
  exact ⟨pk.ne,fun d h1=>pk.ssa x.o o d (hme x hx) ho h1⟩
 have hup:∀k,listed.getD k false=true->(listed.setIfInBounds j true).getD k false=true:=by
  intro k hk;rw[hset];split <;> first|rfl|exact hk
 have xq:∀x∈es,(listed.setIfInBounds j true).getD x.i false=listed.getD x.i false:=by
  intro x hx;rw[hset,if_neg (hne x hx).1]
 have hlen:=h.ch.len
 refine ⟨es ++ [⟨j,o,bz T0 es,H,v,H',none,ms⟩],Chain.snoc h.ch rfl rfl ⟨⟨ho,hkn⟩,fun h1 =>?_,hun,fun h1 =>?_,hp.len,fun id h1 h2=>hp.same id h1 h2⟩,by rw[<- h.ord];simp,fun x hx hx2 =>?_,fun i hi2 =>?_,h.post.trans (hp.weaken (by omega) (fun id h1 h2=>hms id h1 h2)),
  by rw[sK];exact h.size,fun x hx hl t ht =>?_,fun t ht hn =>?_,fun x hx hl hc hw =>?_,?_,fun y hy x hrd =>?_,fun k hk i hd =>?_,by simp[h.lsz],by rw[put_defers];exact h.dn,by rw[ff];exact hk⟩
 ·rw[show df o=true from hh]at h1;cases h1
 ·rw[show df o=true from hh]at h1;cases h1
 ·simp only[List.mem_append,List.mem_singleton]at hx
  rcases hx with hx|rfl
  ·exact hup _ (h.hot x hx hx2)
  ·rw[hset,if_pos rfl]
 ·rw[hset,if_neg]
  ·exact h.un i (List.mem_cons_of_mem _ hi2)
  ·intro e
   obtain ⟨r1,r2,hr⟩:=List.append_of_mem hi2
   exact (cG.pair (es.map (·.i)) j r1 i r2 (by rw[<- h.ord,hr])).ne e.symm
 ·simp only[List.mem_append,List.mem_singleton]at hx
  rcases hx with hx|rfl
  ·rw[xq x hx]at hl
   rw[ey ((hne x hx).2 t ht)]
   exact (h.tA x hx hl t ht).mono hp.ext
  ·have ht':o.dst=some t:=ht
   rw[ht',gb (by rw[h.size];exact hdst t ht')]
   exact hv
 ·rw[ey (hn ⟨j,o,bz T0 es,H,v,H',none,ms⟩ (by simp) (by rw[hset,if_pos rfl]))]
  exact (h.tB t ht (fun x hx hl=>hn x (by simp[hx]) (hup _ hl))).mono hp.ext
 ·simp only[List.mem_append,List.mem_singleton]at hx
  rcases hx with hx|rfl
  ·rw[xq x hx]at hl
   have hno:=h.al x hx hl hc hw
   cases hq:ρ' x.H.length with
   |none=>rfl
   |some r =>
    have h1:=hp.new _ r hq hno
    obtain ⟨p1,p2,hs⟩:=List.append_of_mem hx
    obtain ⟨ok,_,_,h3,_⟩:=h.ch.split p1 x p2 hs
    have Bf:df x.o=false:=by unfold df;rw[hc]
    rcases ok.2.1 Bf hw with ⟨_,_,_,_,k4⟩|⟨ob2,_,k2,_,_⟩
    ·rw[k4]at hc;cases hc
    ·rw[k2]at h3;simp at h3;omega
  ·have hc':dE o.op = .alloc:=hc
   unfold df at hh
   rw[hc']at hh;cases hh
 ·intro pre y post hsp z hz tY jv x hrd
  rcases List.eq_nil_or_concat post with rfl|⟨post',q,rfl⟩
  ·cases hz
  ·have he2:es ++ [⟨j,o,bz T0 es,H,v,H',none,ms⟩]=(pre++y :: post') ++ [q]:=by rw[hsp];simp
   obtain ⟨h1,h2⟩:=List.append_inj' he2 (by simp)
   simp at h2;subst h2
   simp only[List.concat_eq_append,List.mem_append,List.mem_singleton]at hz
   rcases hz with hz|rfl
   ·exact h.loose pre y post' h1 z hz tY jv x hrd
   ·exact hlo _ (h.lg y (by rw[h1];simp) x hrd) jv x rfl
 ·simp only[List.mem_append,List.mem_singleton]at hy
  rcases hy with hy|rfl
  ·exact h.lg y hy x hrd
  ·cases hrd
 ·rw[hset]at hk
  split at hk
  ·rename_i hkj;subst hkj;exact hup _ (fO h hi i hd)
  ·exact hup _ (h.cl k hk i hd)
theorem Inv.Dp(hok:∀o∈l,jp N P.globals.size o=true)(cG:jD l ord)(hbase:base<=H0.length){j:Nat}{is:List Nat}(h:Inv P B base N M l ord T0 ρ0 H0 w0 ds Q es (j :: is) H log ρ a w listed){o:Oper}(ho:l.toArray[j]?=some o)(hh:df o=true)
  (hi:j∈Region.ready .any l.toArray listed) {ro:Option Nat} {Qr:Exit->Act->World->Prop} {K:Act->World->Prop}
  (hK:∀es' H' iu ρ' a' w',Inv P B base N M l ord T0 ρ0 H0 w0 ds Q es' is H' iu ρ' a' w' (listed.setIfInBounds j true)->K a' w'):wpOpIn (Fw ro) 0 P l.toArray Qr j K a w:=by
 have hmem:o∈l:=by simp at ho;exact List.mem_of_getElem? ho
 have hlk:=h.FU cG rfl ho hi
 have hdst:∀o∈l.toArray,∀d,o.dst=some d->d<N:=fun o ho d hd=>dK (hok o (by simpa using ho)) d hd
 have hk:=h.k
 simp only[gK,ho]at hk
 obtain ⟨hkn,hk⟩:=hk
 have hw:=lF (ρ:=ρ) (T:=bz T0 es) (ops:=l.toArray) h.size hdst (o:=o) hlk hkn
 have hlen:=h.ch.len
 unfold wpOpIn
 rw[ho]
 simp only[hw]
 cases hwt:bY o l.toArray (bz T0 es) with
 |false =>
  rw[hwt]at hk
  simp only[Bool.false_eq_true,if_false]at hk ⊢
  refine ⟨fun _ _=>trivial,?_⟩
  obtain ⟨es',h'⟩:=h.xC cG hbase ho hh hi (v:=undef) (v':=undef) (ms:=[]) (Post.refl h.post.rel) (fun _ h=>by cases h) (VR.undef ρ) (Loose.nil _ _ _) (fun _=>rfl) hkn (fun d hd=>dK (hok _ hmem) d hd) hk
  exact hK _ _ _ _ _ _ h'
 |true =>
  rw[hwt]at hk
  simp only[if_true]at hk ⊢
  have hev:=xy (ops:=l.toArray) h.post.rel hlk (hok _ hmem)
  have fin:∀(v v':Value) (ρ':Ren) (H':Heap) (w':World) (ms:List Nat),Post P B H.length ms ρ H w ρ' H' w'->(∀id∈ms,id<base->id∈M)->VR ρ' v v'->Loose (dk l []) j log ms->gK P base M (dk l []) l.toArray is (put (bz T0 es) o.dst v) H' log Q->K (a.put o.dst v') w':=by
   intro v v' ρ' H' w' ms h1 h2 h3 h4 h5
   obtain ⟨es',h'⟩:=h.xC cG hbase ho hh hi h1 h2 h3 h4 (fun hf=>by rw[hwt]at hf;cases hf) hkn (fun d hd=>dK (hok _ hmem) d hd) h5
   exact hK _ _ _ _ _ _ h'
  refine ⟨fun _ _=>trivial,?_⟩
  show o.uponIn (Fw ro) 0 P a K Qr ((o.semAt ro a.eval).run P w)
  rw[jI (hok _ hmem)]
  unfold rM at hk
  unfold df at hh
  split at hk
  ·rename_i hc;rw[hc]at hh;cases hh
  ·rename_i hc;rw[hc]at hh;cases hh
  ·obtain ⟨v,H',wr,h1,h2,h3,h4⟩:=hk
   obtain ⟨v',w',ρ',g1,g2,g3⟩:=nk (base:=H.length) (M:=wr) h1 hev h.post.rel (fun id hid _=>hid) (Nat.le_refl _)
   rcases g1 with g1|⟨g1,g4⟩
   ·rw[g1];exact fin v v' ρ' H' w' wr g3 h2 g2 h3 h4
   ·rw[g1];rw[g4]at g2;exact fin v undef ρ' H' w' wr g3 h2 g2 h3 h4
  ·split at hk
   ·rename_i f args tys hop
    obtain ⟨Mc,h1,h2,h3⟩:=hk
    have hrun:execOp a.eval o=(do let d<-Deferred.ofValue (a.eval f) (args.map a.eval);invoke d.target d.args:Sem Next):=by
     obtain ⟨dst,op,ty,pos,after,guard⟩:=o
     simp only at hop
     subst hop
     rfl
    have hop2:∀x,x∈(#[f]++args)->x∈o.op.operands:=by
     intro x hx
     obtain ⟨dst,op,ty,pos,after,guard⟩:=o
     simp only at hop
     subst hop
     simpa[Op.operands,Call.operands] using hx
    have:=h1 B ρ w (a.eval f) (args.map a.eval) h.post.rel (hev f (hop2 f (by simp))) (by
     rw[Array.toList_map]
     exact mj (fun x hx=>hev x (hop2 x (by simp[Array.mem_toList_iff.1 hx]))))
    rw[hrun]
    generalize ((do let d<-Deferred.ofValue (a.eval f) (args.map a.eval);invoke d.target d.args:Sem Next)).run P w=r at this
    unfold Hands at this
    split at this
    ·rename_i g xs w1
     refine ⟨fun h=>by simp[Fw,Fence.wide]at h,?_⟩
     show CallsIn (Fw ro) 0 P g xs w1 _
     refine CallsIn.mono (F:=Fw ro) this ?_
     rintro e w' ⟨v,v',ρ',H',rfl,g2,g3,g4⟩
     exact fin v v' ρ' H' w' Mc g3 h2 g2 h3 g4
    ·rename_i q g tm asg bd w1
     refine ⟨fun h=>by simp[Fw,Fence.wide]at h,?_⟩
     show RoundIn (Fw ro) 0 P q g tm asg bd w1 _
     refine RoundIn.mono (F:=Fw ro) this ?_
     rintro e w' ⟨v,v',ρ',H',rfl,g2,g3,g4⟩
     exact fin v v' ρ' H' w' Mc g3 h2 g2 h3 g4
    ·exact this.elim
   ·exact hk.elim
  ·exact hk.elim
  ·exact hk.elim
theorem zm(hok:∀o∈l,jp N P.globals.size o=true)(cG:jD l ord)(hbase:base<=H0.length){ro:Option Nat}{Qr:Exit->Act->World->Prop}
  (hQ:∀ρ' T' H' w' a',Post P B base M ρ0 H0 w0 ρ' H' w'->TR ρ' N T' a'.tmps->a'.defers=ds->Q T' H'->Qr .normal a' w') :
  ∀(fuel:Nat) (u:List Nat) {es:List Ent} {rest:List Nat} {H:Heap} {log:List (Nat×Option Nat)} {ρ:Ren} {a:Act} {w:World} {listed:Array Bool},u.length<=fuel->(∀i,i<l.length->listed.getD i false=false->i∈u) ->
   Inv P B base N M l ord T0 ρ0 H0 w0 ds Q es rest H log ρ a w listed->wpAnyIn (Fw ro) 0 P .any l.toArray Qr fuel listed a w:=by
 intro fuel
 induction fuel with
 |zero =>
  intro u es rest H log ρ a w listed hu Du h
  obtain rfl:u=[]:=List.length_eq_zero_iff.1 (by omega)
  obtain ⟨es',rest',H',iu,h',hhead⟩:=h.advance hbase
  have hall:∀i,i<l.length->listed.getD i false=true:=by
   intro i hi
   cases hl:listed.getD i false with
   |true=>rfl
   |false=>have:=Du i hi hl;cases this
  have hrest:rest'=[]:=by
   cases rest' with
   |nil=>rfl
   |cons i is =>
    have h1:=h'.un i (List.mem_cons_self ..)
    have h2:=hall i (cG.lt i (by rw[<- h'.ord];simp))
    rw[h1]at h2;cases h2
  subst hrest
  refine ⟨?_,?_⟩
  ·cases hr:Region.ready .any l.toArray listed with
   |nil=>rfl
   |cons i is =>
    have hi:i∈Region.ready .any l.toArray listed:=by rw[hr];simp
    obtain ⟨h1,o,ho,_⟩:=mem_ready.1 hi
    have hlt:i<l.length:=by have:=(Array.getElem?_eq_some_iff.1 ho).1;simpa using this
    have h2:=hall i hlt
    rw[sd (by rw[h.lsz];exact hlt) h1]at h2;cases h2
  ·have hk:=h'.k
   simp only[gK]at hk
   refine hQ ρ (bz T0 es') H' w a h'.post ⟨h'.size,fun t ht =>?_⟩ h'.dn hk
   have hld:∀e∈es',listed.getD e.i false=true:=fun e he=>hall e.i (cG.lt e.i (by rw[<- h'.ord];simp only[List.append_nil,List.mem_map];exact ⟨e,he,rfl⟩))
   by_cases hw:∃y∈es',y.o.dst=some t
   ·obtain ⟨y,hy,hd⟩:=hw
    obtain ⟨p1,p2,hs⟩:=List.append_of_mem hy
    have:bz T0 es' t=y.v:=by
     rw[hs]
     refine iV hd (fun x hx =>?_)
     obtain ⟨q1,q2,rfl⟩:=List.append_of_mem hx
     exact (h'.mR cG hs).ssa y.o x.o t (h'.ent hy) (h'.ent (by rw[hs];simp)) hd
    rw[this]
    exact h'.tA y hy (hld y hy) t hd
   ·rw[iW (fun x hx hd=>hw ⟨x,hx,hd⟩)]
    exact h'.tB t ht (fun x hx _ hd=>hw ⟨x,hx,hd⟩)
 |succ fuel ih =>
  intro u es rest H log ρ a w listed hu Du h
  obtain ⟨es',rest',H',iu,h',hhead⟩:=h.advance hbase
  have Gn:Region.ready .any l.toArray listed=[]->∀i,i<l.length->listed.getD i false=true:=by
   intro hnil
   have key:∀(pre post:List Nat),ord=pre++post->∀i∈pre,listed.getD i false=true:=by
    intro pre
    induction pre using mJ with
    |h0=>intro post _ i hi;cases hi
    |h1 pre j ihp =>
     intro post he i hi
     have hpre:=ihp (j :: post) (by rw[he];simp)
     simp only[List.mem_append,List.mem_singleton]at hi
     rcases hi with hi|rfl
     ·exact hpre i hi
     ·cases hl:listed.getD i false with
      |true=>rfl
      |false =>
       exfalso
       have hlt:i<l.length:=cG.lt i (by rw[he];simp)
       have:i∈Region.ready .any l.toArray listed:=by
        refine mem_ready.2 ⟨?_,l[i],by simp[hlt],fun e hee hb =>?_⟩
        ·have hls:i<listed.size:=by rw[h.lsz];exact hlt
         simpa[Array.getD,hls] using hl
        ·have hol:l[i]?=some l[i]:=List.getElem?_eq_getElem hlt
         have hon:=cG.edges i _ hol e hee hb
         have jv:=DX hol hee hb
         have hin:=cG.all e.on hon
         rw[he]at hin
         simp only[List.append_assoc,List.mem_append,List.mem_singleton]at hin
         rcases hin with hin|hin|hin
         ·exact hpre _ hin
         ·rw[hin]at jv;rw[cG.irr i hlt]at jv;cases jv
         ·obtain ⟨r1,r2,rfl⟩:=List.append_of_mem hin
          have:=(cG.pair pre i r1 e.on r2 (by rw[he];simp)).order
          rw[this]at jv;cases jv
       rw[hnil]at this;cases this
   intro i hi
   exact key ord [] (by simp) i (cG.all i hi)
  refine ⟨fun hnil =>?_,fun i hi =>?_⟩
  ·have hall:=Gn hnil
   have:=ih [] (by simp) (fun i hi hl=>by rw[hall i hi]at hl;cases hl) h
   cases fuel with
   |zero=>exact this.2
   |succ f=>exact this.1 hnil
  ·obtain ⟨h1,o,ho,_⟩:=mem_ready.1 hi
   have hlt:i<l.length:=by have:=(Array.getElem?_eq_some_iff.1 ho).1;simpa using this
   have hun:=sd (by rw[h.lsz];exact hlt) h1
   have hset:=fo (show i<listed.size by rw[h.lsz];exact hlt)
   have hnext:(u.erase i).length<=fuel:=by
    have hm:=Du i hlt hun
    rw[List.length_erase_of_mem hm];omega
   have EU:∀k,k<l.length->(listed.setIfInBounds i true).getD k false=false->k∈u.erase i:=by
    intro k hk hl
    rw[hset]at hl
    split at hl
    ·cases hl
    ·rename_i hne
     exact (List.mem_erase_of_ne hne).2 (Du k hk hl)
   have hin:i∈es'.map (·.i)++rest':=by rw[h'.ord];exact cG.all i hlt
   simp only[List.mem_append,List.mem_map]at hin
   rcases hin with ⟨e,he,rfl⟩|hin
   ·exact h'.late hok cG hbase he hi hun (fun ρ' a' w' hI=>ih _ hnext EU hI)
   ·cases rest' with
    |nil=>cases hin
    |cons j is =>
     obtain ⟨oj,hoj,tY⟩:=hhead j is rfl
     have hij:i=j:=by
      rcases List.mem_cons.1 hin with rfl|hin
      ·rfl
      ·exfalso
       obtain ⟨r1,r2,rfl⟩:=List.append_of_mem hin
       have pk:=cG.pair (es'.map (·.i)) j r1 i r2 h'.ord.symm
       have hd:=pk.hot oj hoj tY
       have:=fO h' hi j hd
       rw[h'.un j (List.mem_cons_self ..)]at this;cases this
     subst hij
     exact h'.Dp hok cG hbase hoj tY hi (fun es2 H2 log2 ρ2 a2 w2 hI=>ih _ hnext EU hI)
end
theorem KW.draw{ro:Option Nat}{N base:Nat}{M:List Nat}{T:Tm}{H:Heap}{Q:Exit->Tm->Heap->Prop}{id:Nat}{l:List Oper}(hm:P.follows .mixedOrders=true)(hok:l.all (jp N P.globals.size)=true)(ord:List Nat)(cG:w8 l ord=true)
  (h:gK P base M (dk l []) l.toArray ord T H [] (fun T' H'=>Q .normal T' H')):KW P ro N base M (.region id l.toArray true) T H Q:=by
 intro B ρ w a n0 h1 h2 h3 h4 h5
 refine wpIn_region_any hm ?_
 rw[List.all_eq_true]at hok
 have hos:=u0 cG
 have hfalse:∀j,(Array.replicate l.toArray.size false).getD j false=false:=by intro j;simp[Array.getD]
 refine zm (B:=B) (base:=base) (N:=N) (M:=M) (T0:=T) (ρ0:=ρ) (H0:=H) (w0:=w) (ds:=a.defers) (Q:=fun T' H'=>Q .normal T' H') (fun o ho=>hok o ho) hos h2 ?_ l.toArray.size (List.range l.length) (es:=[]) (rest:=ord) (H:=H) (log:=[]) (ρ:=ρ) (by simp) (fun i hi _=>by simpa using hi) ?_
 ·intro ρ' T' H' w' a' hp hT hd hq
  exact ⟨ρ',T',H',hp,hT,by rw[hd];exact DOK.post h1 h5 hp,hq⟩
 ·refine ⟨Chain.nil,by simp,fun e he=>(by cases he),fun i _=>hfalse i,Post.drew h1,h3.1,fun e he=>(by cases he),fun t ht _=>h3.2 t ht,fun e he=>(by cases he),fun pre e post he=>(by simp at he),fun e he=>(by cases he),fun j hj =>?_,by simp,rfl,h⟩
  rw[hfalse j]at hj;cases hj
end Go.K
namespace Go.K
variable {P:Program}
theorem Post.besides{B base:Nat}{M:List Nat}{ρ:Ren}{H:Heap}{w:World}(hr:Rel P B ρ H w)(o:Obj):Post P B base M ρ H w ρ H (w.alloc o):=by
 have hold:∀k,k<w.heap.size->(w.alloc o).heap[k]?=w.heap[k]? := fun k hk=>RowKit.Below.heap_alloc w o k hk
 refine ⟨⟨by simp;have:=hr.bsize;omega,hr.cS,hr.dom,fun id r h=>by have:=hr.lt _ _ h;simp;omega,fun id r ob h1 h2 =>?_,hr.base,hr.sep,fun b m hm=>⟨let ⟨ty,fz,e⟩:=(hr.mem b m hm).1; ⟨ty,fz,(hold b (Array.getElem?_eq_some_iff.1 e).1).trans e⟩,(hr.mem b m hm).2⟩,hr.fam.keep (Ren.le_refl _) (fun _ _ _ h=>h) (fun _ _ _ _ h=>h) (Nat.le_refl _) (by simp) (fun b hb=>by
   rcases Nat.lt_or_ge b w.heap.size with hl|hl
   ·exact hold b hl
   ·exact absurd hb (hr.fam.t8 hl)) (fun id r o a b c=>hr.fam.free a b c) (fun b m a=>hr.fam.ez a)⟩,Ren.le_refl _,fun id r a b=>(by rw[b]at a;cases a),Nat.le_refl _,fun _ _ _=>rfl,by simp,fun b h1 _=>hold b h1,fun _ _ h=>h,rfl,rfl,rfl,fun _ _ h => .inl h,by first|exact Nat.le_refl _|exact Nat.le_succ _,fun F k r a b=>(by rw[b]at a;cases a)⟩
 exact (hr.obj id r ob h1 h2).mono (Ren.le_refl _) (hold _ (hr.lt _ _ h1))
theorem KW.rangeFunc{N base:Nat}{M Mc:List Nat}{T:Tm}{H:Heap}{Q:Exit->Tm->Heap->Prop}{t:Nat}{ps:Array Tmp}{assign body:Code}{gf:FuncId}{first cap:Array Value}
  (ht:t<N) (hg:T t = .func (.func gf) first cap)
  (h:ad P gf (first.toList ++ [.func (.yield H.length) #[] #[]]++cap.toList) (H ++ [.loop .ready none T N ps assign body]) Mc
   (fun _ H' => ∃st pe tm' N' ps' as' bd',H'[H.length]?=some (.loop st pe tm' N' ps' as' bd')/\st ≠ .busy /\
    (match pe with|none=>Q .normal T (H'.set H.length .dead)|some c=>KW P none N base M c T (H'.set H.length .dead) Q)))
  (hM:∀id∈Mc,id<base->id∈M):KW P none N base M (.rangeFunc (.tmp t) ps assign body) T H Q:=by
 intro B ρ w a n0 h1 h2 h3 h4 h5
 refine wpIn_rangeFunc (fun fn hfn =>?_)
 obtain ⟨rec,hrec⟩:∃rec:Loop,rec = { state:=.ready,pending:=none,fn,tmps:=a.tmps,params:=ps,assign,body,defers:=w.heap.size }:=⟨_,rfl⟩
 have p0:Post P B base M ρ H w ρ H (w.alloc (.deferred (some []))):=Post.besides h1 _
 have hnone:ρ H.length=none:=by
  cases hq:ρ H.length with
  |none=>rfl
  |some r=>exact absurd (h1.dom _ _ hq) (Nat.lt_irrefl _)
 have hl:((w.alloc (.deferred (some []))).alloc (.loop rec)).heap[w.heap.size+1]?=some (.loop rec):=by
  have:=World.alloc_heap_new (w.alloc (.deferred (some []))) (.loop rec);rwa [World.size_alloc]at this
 have hle:Ren.le ρ (ρ.set H.length ⟨w.heap.size+1,0,0,0,true⟩):=Ren.dr hnone
 have p1:Post P B base M ρ H (w.alloc (.deferred (some []))) (ρ.set H.length ⟨w.heap.size+1,0,0,0,true⟩) (H ++ [.loop .ready none T N ps assign body]) ((w.alloc (.deferred (some []))).alloc (.loop rec)):=by
  refine Post.alloc p0.rel (by simp) h2 ⟨rfl,rec,hl,?_⟩
  subst hrec
  exact ⟨rfl,rfl,rfl,rfl,rfl,h3.1,fun t ht=>(h3.2 t ht).mono hle⟩
 have pp:=p0.trans p1
 have hv:=(h3.2 t ht).mono hle
 rw[hg]at hv
 obtain ⟨W1,hW1⟩:∃W1,(w.alloc (.deferred (some []))).alloc (.loop rec)=W1:=⟨_,rfl⟩
 rw[hW1]at pp hl
 have hD:W1.heap[w.heap.size]?=some (.deferred (some [])):=by
  rw[<- hW1]
  exact (RowKit.Below.heap_alloc _ _ _ (by simp)).trans (World.alloc_heap_new w _)
 have JC:DOK n0 ({ target:=.collected w.heap.size,args:=#[] } :: a.defers) W1:=by
  obtain ⟨Ds,k1,k2,k3⟩:=DOK.post h1 h5 pp
  obtain ⟨Ds0,j1,j2,j3⟩:=h5
  have hDs:∀D∈Ds,D≠w.heap.size:=by
   intro D hmem e
   subst e
   have:Ds=Ds0:=(List.map_inj_right (fun x y hxy=>by cases hxy;rfl)).1 (k1.symm.trans j1)
   subst this
   have:=(Array.getElem?_eq_some_iff.1 (j3 _ hmem).2).1
   omega
  refine ⟨w.heap.size :: Ds,by rw[k1];rfl,List.pairwise_cons.2 ⟨fun D hm=>(hDs D hm).symm,k2⟩,fun D hm =>?_⟩
  rcases List.mem_cons.1 hm with rfl|hm
  ·exact ⟨h4,hD⟩
  ·exact k3 D hm
 have hev:a.eval (.tmp t)=a.tmps.getD t undef:=rfl
 cases hx:a.tmps.getD t undef with
 |func f' first' cap' =>
  rw[hx]at hv
  cases hv with
  |func g1 g2 g3 g4 =>
  refine ⟨w.heap.size+1,[{ target:=.collected w.heap.size,args:=#[] }],W1,{ target:=.fn (.func gf) cap',args:=first' ++ #[.func (.yield (w.heap.size+1)) #[] #[]] },W1,gf,
   first' ++ #[.func (.yield (w.heap.size+1)) #[] #[]]++cap',W1,?_,?_,?_,?_,fun h=>by simp[Fw,Fence.wide]at h,?_⟩
  ·rw[<- hW1,hrec];exact run_enterLoop_outer _ _ _ _ _
  ·simp only[resolve,hev,hx]
   simp[go_sem]
  ·intro f' _;trivial
  ·simp only[invoke];exact h.1 _ _
  ·show CallsIn (Fw none) 0 P gf _ W1 _
   have l1:VRl (ρ.set H.length ⟨w.heap.size+1,0,0,0,true⟩) first.toList first'.toList:=⟨by simpa using g1,fun i a b x y=>g2 i a b (by simpa using x) (by simpa using y)⟩
   have l2:VRl (ρ.set H.length ⟨w.heap.size+1,0,0,0,true⟩) cap.toList cap'.toList:=⟨by simpa using g3,fun i a b x y=>g4 i a b (by simpa using x) (by simpa using y)⟩
   have ly:VR (ρ.set H.length ⟨w.heap.size+1,0,0,0,true⟩) (.func (.yield H.length) #[] #[]) (.func (.yield (w.heap.size+1)) #[] #[]) :=
    VR.yield (r:=⟨w.heap.size+1,0,0,0,true⟩) (Ren.av ..)
   refine CallsIn.mono (F:=Fw none) (h.2 B _ W1 _ pp.rel (by
    rw[Array.toList_append,Array.toList_append]
    exact VRl.append (VRl.append l1 (.cons ly (.nil _))) l2)) ?_
   rintro e w' ⟨v,v',ρ',H',rfl,q2,q3,st,pe,tm',N',ps',as',bd',q5,q6,q7⟩
   have hid:ρ' H.length=some ⟨w.heap.size+1,0,0,0,true⟩:=q3.ext _ _ (Ren.av ..)
   obtain ⟨o1,lr,o2,o3,o4,_⟩:=q3.rel.obj _ _ _ hid q5
   have pe1:Post P B base M ρ H w ρ' H' w':=pp.trans (q3.weaken (by simp;omega) hM)
   have pe2:Post P B base M ρ' H' w' ρ' (H'.set H.length .dead) (w'.putObj (w.heap.size+1) (.loop { lr with state:=.exhausted })) :=
    Post.put q3.rel hid q5 rfl (by rw[o2];rfl) trivial (fun hlt=>absurd hlt (by omega))
   refine ⟨pe,w'.putObj (w.heap.size+1) (.loop { lr with state:=.exhausted }),?_,?_⟩
   ·rw[<- o4];exact run_endLoop o2 (by rw[o3];exact q6)
   ·have CB:=pe1.trans pe2
    have hT:=h3.mono (pe1.ext)
    have hd2:DOK n0 ([{ target:=.collected w.heap.size,args:=#[] }]++a.defers) (w'.putObj (w.heap.size+1) (.loop { lr with state:=.exhausted })):=DOK.post q3.rel (DOK.post pp.rel JC q3) pe2
    cases pe with
    |none=>exact ⟨ρ',T,_,CB,hT,hd2,q7⟩
    |some c =>
     refine wpIn_mono (q7 B ρ' _ { a with defers:=[{ target:=.collected w.heap.size,args:=#[] }]++a.defers } n0 pe2.rel (Nat.le_trans h2 CB.len) hT (Nat.le_trans h4 CB.size) hd2) ?_
     rintro e a2 w2 ⟨ρ2,T2,H2,r1,r2,r3,r4⟩
     exact ⟨ρ2,T2,H2,CB.trans r1,r2,r3,r4⟩
 |_=>rw[hx]at hv;cases hv
def vv:Exit->Option (Option Code)
 | .normal=>some none
 | .ret=>some (some .ret)
 | .exit id=>some (some (.exit id))
 | .goto t=>some (some (.goto t))
 |_=>none
def FC(L:Nat)(Q:Value->Heap->Prop)(e:Exit)(T:Tm)(H:Heap):Prop :=
 ∃j,vv e=some j/\∃st pe tm N ps as bd,H[L]?=some (.loop st pe tm N ps as bd)/\Q (.bool j.isNone) (H.set L (.loop (if j.isNone then .ready else .done) j tm N ps as bd))
def mK(ps:List Nat)(args:List Value)(T:Tm):Tm:=(ps.zip args).foldl (fun T p=>upd T p.1 p.2) T
theorem TR.mK{ρ:Ren}{N:Nat}:∀(ps:List Nat) (args args':List Value) (T:Tm) (tmps:Array Value),TR ρ N T tmps->(∀p∈ps,p<N)->VRl ρ args args'->TR ρ N (mK ps args T) ((ps.zip args').foldl (fun tmps p=>tmps.setIfInBounds p.1 p.2) tmps):=by
 intro ps
 induction ps with
 |nil=>intro args args' T tmps h _ _;exact h
 |cons p ps ih =>
  intro args args' T tmps h hp hv
  cases args with
  |nil =>
   cases args' with
   |nil=>exact h
   |cons _ _=>have:=hv.1;simp at this
  |cons x xs =>
   cases args' with
   |nil=>have:=hv.1;simp at this
   |cons x' xs' =>
    simp only[K.mK,List.zip_cons_cons,List.foldl_cons]
    refine ih xs xs' _ _ ?_ (fun q hq=>hp q (List.mem_cons_of_mem _ hq)) ⟨by have:=hv.1;simpa using this,fun i a b ha hb=>hv.2 (i+1) a b (by simpa using ha) (by simpa using hb)⟩
    exact TR.put (a:={ tmps:=tmps,defers:=[] }) (dst:=some p) h (fun d hd=>by cases hd;exact hp _ (List.mem_cons_self ..)) (hv.2 0 x x' rfl rfl)
theorem gP.yield{L N:Nat}{args:List Value}{H:Heap}{M:List Nat}{Q:Value->Heap->Prop}{tm:Tm}{ps:Array Tmp}{assign body:Code}{pe:Option Code}
  (hL:H[L]?=some (.loop .ready pe tm N ps assign body)) (hps:args.length=ps.size) (hlt:∀p∈ps.toList,p<N) (hM:L∈M)
  (h:∀ro,KW P (some ro) N H.length M assign (mK ps.toList args tm) H (kd (fun T1 H1 => ∃pe1 tm1 N1 ps1 as1 bd1,H1[L]?=some (.loop .ready pe1 tm1 N1 ps1 as1 bd1) /\
   KW P (some ro) N H.length M body T1 (H1.set L (.loop .busy pe1 tm1 N1 ps1 as1 bd1)) (FC L Q)) (fun _ _ _=>False))):gP P (.func (.yield L) #[] #[]) args H M Q:=by
 intro B ρ w fv' args' hr hf ha
 cases hf with
 | @yield _ r hr' =>
 obtain ⟨o1,lr,o2,o3,o4,o5,o6,o7,o8,o9⟩:=hr.obj _ _ _ hr' hL
 have hrun:((do let d<-Deferred.ofValue (.func (.yield r.b) #[] #[]) args';invoke d.target d.args:Sem Next)).run P w = .ok (.round r.b lr.fn ((lr.params.zip args').foldl (fun tmps (t,a)=>tmps.setIfInBounds t a) lr.tmps) lr.assign lr.body) w:=by
  have:=run_yield (P:=P) (args:=args') o2 (by rw[o5,<- hps];simpa using ha.1.symm)
  simp[Deferred.ofValue,invoke,this]
 rw[hrun]
 show RoundIn Fence.wide 0 P r.b lr.fn _ lr.assign lr.body w _
 refine roundIn_of_wpIn trivial ?_
 have hT:TR ρ N (mK ps.toList args tm) ((lr.params.zip args').foldl (fun tmps (t,a)=>tmps.setIfInBounds t a) lr.tmps):=by
  rw[o5]
  have:=TR.mK ps.toList args args'.toList tm lr.tmps ⟨o8,o9⟩ hlt ha
  rw[<- Array.foldl_toList,Array.toList_zip]
  exact this
 rw[o6,o7]
 refine wpIn_mono (h r.b B ρ w { tmps:=_,defers:=[] } w.heap.size hr (Nat.le_refl _) hT (Nat.le_refl _) (DOK.nil _ _)) ?_
 rintro e a1 w1 ⟨ρ1,T1,H1,p1,t1,d1,q1⟩
 cases e with
 |normal =>
  obtain ⟨pe1,tm1,N1,ps1,as1,bd1,hL1,hbody⟩:=q1
  have hr1:=p1.ext _ _ hr'
  obtain ⟨x1,lr1,x2,x3,x4,x5,x6,x7,x8,x9⟩:=p1.rel.obj _ _ _ hr1 hL1
  refine ⟨_,run_beginRound x2 x3,?_⟩
  have hlt1:=p1.rel.lt _ _ hr1
  have p2:Post P B H.length M ρ1 H1 w1 ρ1 (H1.set L (.loop .busy pe1 tm1 N1 ps1 as1 bd1)) (w1.putObj r.b (.loop { lr1 with state:=.busy })) :=
   Post.put p1.rel hr1 hL1 rfl (by rw[x2];rfl) ⟨x1,_,World.putObj_heap_same hlt1,rfl,x4,x5,x6,x7,x8,x9⟩ (fun _=>hM)
  refine wpIn_mono (hbody B ρ1 _ a1 w.heap.size p2.rel (Nat.le_trans p1.len p2.len) t1 (Nat.le_trans p1.size p2.size) (DOK.post p1.rel d1 p2)) ?_
  rintro e a3 w3 ⟨ρ3,T3,H3,p3,t3,d3,j,hj,st,pe,tm3,N3,ps3,as3,bd3,hL3,hQ⟩
  have hr3:=p3.ext _ _ hr1
  obtain ⟨y1,lr3,y2,y3,y4,y5,y6,y7,y8,y9⟩:=p3.rel.obj _ _ _ hr3 hL3
  have hlt3:=p3.rel.lt _ _ hr3
  have p4:Post P B H.length M ρ3 H3 w3 ρ3 (H3.set L (.loop (if j.isNone then .ready else .done) j tm3 N3 ps3 as3 bd3)) (w3.putObj r.b (.loop { lr3 with state:=if j.isNone then .ready else .done,pending:=j })) :=
   Post.put p3.rel hr3 hL3 rfl (by rw[y2];rfl) ⟨y1,_,World.putObj_heap_same hlt3,rfl,rfl,y5,y6,y7,y8,y9⟩ (fun _=>hM)
  have hend:=run_endRound (P:=P) j y2
  have hq:CQ P B H.length M ρ H w Q (.returned (.bool j.isNone)) (w3.putObj r.b (.loop { lr3 with state:=if j.isNone then .ready else .done,pending:=j })) :=
   ⟨_,_,ρ3,_,rfl,.bool _,((p1.trans p2).trans p3).trans p4,hQ⟩
  cases e <;> simp only[vv,Option.some.injEq,reduceCtorEq]at hj <;> subst hj <;> exact ⟨_,_,hend,hq⟩
 |_=>exact q1.elim
end Go.K
namespace Go.K
noncomputable section
inductive Tr (α:Type) where
 |leaf
 |node (l:Tr α) (v:Option α) (r:Tr α)
section
variable {α:Type}
def Tr.get(t:Tr α):Nat->Option α :=
 Tr.rec (motive:=fun _=>Nat->Option α) (fun _=>none) (fun _ v _ gl gr k=>Bool.rec (motive:=fun _=>Option α) (Bool.rec (motive:=fun _=>Option α) (gr (Nat.div (Nat.sub k 2) 2)) (gl (Nat.div (Nat.sub k 1) 2)) (Nat.beq (Nat.mod k 2) 1)) v (Nat.beq k 0)) t
theorem zk{α:Type}(b:Bool)(x y:α):Bool.rec (motive:=fun _=>α) y x b=bif b then x else y:=by cases b <;> rfl
theorem Tr.nO(k:Nat):(Tr.leaf:Tr α).get k=none:=rfl
theorem Tr.fL(l r:Tr α)(v:Option α)(k:Nat):(Tr.node l v r).get k=bif Nat.beq k 0 then v else bif Nat.beq (k % 2) 1 then l.get ((k-1) / 2) else r.get ((k-2) / 2):=by
 rw[<- zk,<- zk];rfl
def Tr.parts:Tr α->Tr α×Option α×Tr α
 | .leaf=>(.leaf,none,.leaf)
 | .node l v r=>(l,v,r)
def Tr.oC(n:Nat):Tr α->Nat->α->Tr α :=
 Nat.rec (motive:=fun _=>Tr α->Nat->α->Tr α) (fun t _ _=>t)
  (fun _ ih t k x=>Tr.rec (motive:=fun _=>Tr α)
   (Bool.rec (motive:=fun _=>Tr α) (Bool.rec (motive:=fun _=>Tr α) (.node .leaf none (ih .leaf (Nat.div (Nat.sub k 2) 2) x)) (.node (ih .leaf (Nat.div (Nat.sub k 1) 2) x) none .leaf) (Nat.beq (Nat.mod k 2) 1)) (.node .leaf (some x) .leaf) (Nat.beq k 0))
   (fun l v r _ _=>Bool.rec (motive:=fun _=>Tr α) (Bool.rec (motive:=fun _=>Tr α) (.node l v (ih r (Nat.div (Nat.sub k 2) 2) x)) (.node (ih l (Nat.div (Nat.sub k 1) 2) x) v r) (Nat.beq (Nat.mod k 2) 1)) (.node l (some x) r) (Nat.beq k 0)) t) n
theorem Tr.yp(n:Nat)(k:Nat)(x:α):Tr.oC (n+1) .leaf k x=bif Nat.beq k 0 then .node .leaf (some x) .leaf else bif Nat.beq (k % 2) 1 then .node (Tr.oC n .leaf ((k-1) / 2) x) none .leaf else .node .leaf none (Tr.oC n .leaf ((k-2) / 2) x):=by
 rw[<- zk,<- zk];rfl
theorem Tr.yo(n:Nat)(l r:Tr α)(v:Option α)(k:Nat)(x:α):Tr.oC (n+1) (.node l v r) k x=bif Nat.beq k 0 then .node l (some x) r else bif Nat.beq (k % 2) 1 then .node (Tr.oC n l ((k-1) / 2) x) v r else .node l v (Tr.oC n r ((k-2) / 2) x):=by
 rw[<- zk,<- zk];rfl
theorem cT{a b:Nat}(h:a≠b):Nat.beq a b=false:=by
 cases hb:Nat.beq a b with
 |false=>rfl
 |true=>exact absurd (Nat.eq_of_beq_eq_true hb) h
theorem dZ{a b:Nat}(h:a=b):Nat.beq a b=true:=by subst h;exact Nat.beq_refl a
theorem Tr.Bl:∀(n:Nat) (t:Tr α) (k:Nat) (x:α),k<n->∀i,(Tr.oC n t k x).get i=if i=k then some x else t.get i:=by
 intro n
 induction n with
 |zero=>intro t k x h;omega
 |succ n ih =>
  intro t k x h i
  have hd:∀(l r:Tr α) (v:Option α),(bif Nat.beq k 0 then Tr.node l (some x) r else bif Nat.beq (k % 2) 1 then .node (Tr.oC n l ((k-1) / 2) x) v r else .node l v (Tr.oC n r ((k-2) / 2) x)).get i=if i=k then some x else (Tr.node l v r).get i:=by
   intro l r v
   rcases Nat.eq_zero_or_pos k with rfl|hk
   ·rw[dZ rfl,cond_true,Tr.fL,Tr.fL]
    by_cases hi:i=0
    ·subst hi;rfl
    ·rw[cT hi,cond_false,cond_false,if_neg hi]
   ·rw[cT (show k≠0 by omega),cond_false]
    by_cases hm:k % 2=1
    ·rw[dZ hm,cond_true,Tr.fL,Tr.fL]
     by_cases hi:i=0
     ·subst hi;rw[dZ rfl,cond_true,cond_true,if_neg (by omega)]
     ·rw[cT hi,cond_false,cond_false]
      by_cases hmi:i % 2=1
      ·rw[dZ hmi,cond_true,cond_true,ih _ _ _ (by omega)]
       by_cases e:i=k
       ·subst e;simp
       ·rw[if_neg e,if_neg (by omega)]
      ·rw[cT hmi,cond_false,cond_false,if_neg (by intro e;subst e;exact hmi hm)]
    ·rw[cT hm,cond_false,Tr.fL,Tr.fL]
     by_cases hi:i=0
     ·subst hi;rw[dZ rfl,cond_true,cond_true,if_neg (by omega)]
     ·rw[cT hi,cond_false,cond_false]
      by_cases hmi:i % 2=1
      ·rw[dZ hmi,cond_true,cond_true,if_neg (by intro e;subst e;exact hm hmi)]
      ·rw[cT hmi,cond_false,cond_false,ih _ _ _ (by omega)]
       by_cases e:i=k
       ·subst e;simp
       ·rw[if_neg e,if_neg (by omega)]
  cases t with
  |leaf =>
   rw[Tr.yp]
   have:=hd .leaf .leaf none
   rw[this]
   congr 1
   rw[Tr.fL,Tr.nO,Tr.nO,Tr.nO]
   cases Nat.beq i 0 <;> cases Nat.beq (i % 2) 1 <;> rfl
  |node l v r=>rw[Tr.yo];exact hd l r v
def Tr.set(t:Tr α)(k:Nat)(x:α):Tr α:=Tr.oC (Nat.succ k) t k x
theorem Tr.mo(t:Tr α)(k:Nat)(x:α)(i:Nat):(t.set k x).get i=if i=k then some x else t.get i:=Tr.Bl _ _ _ _ (Nat.lt_succ_self k) i
end
structure Env where
 base:Tm
 tree:Tr Value
def Env.get(E:Env):Tm:=fun t=>match E.tree.get t with|some v=>v|none=>E.base t
def Env.put:Env->Option Nat->Value->Env
 |⟨b,t⟩,some d,v=>⟨b,t.set d v⟩
 |⟨b,t⟩,none,_=>⟨b,t⟩
theorem Env.get_put(E:Env)(dst:Option Nat)(v:Value):(E.put dst v).get=K.put E.get dst v:=by
 cases dst with
 |none=>rfl
 |some d =>
  funext t
  simp only[Env.get,Env.put,K.put,upd]
  rw[Tr.mo]
  by_cases e:t=d
  ·simp[e]
  ·simp[e]
theorem Env.dJ(E:Env)(t:Nat)(v:Value)(h:E.get t=v):(E.put (some t) v).get=E.get:=by
 rw[Env.get_put]
 funext i
 simp only[K.put,upd]
 split
 ·rename_i e;subst e;exact h.symm
 ·rfl
structure HT where
 n:Nat
 t:Tr aa
def HT.get(h:HT)(id:Nat):Option aa:=cond (Nat.blt id h.n) (match h.t.get id with|some o=>some o|none=>some .dead) none
def HT.list(h:HT):Heap:=(List.range h.n).map fun i=>(h.t.get i).getD .dead
def HT.push:HT->aa->HT
 |⟨n,t⟩,o=>⟨Nat.succ n,t.set n o⟩
def HT.set:HT->Nat->aa->HT
 |⟨n,t⟩,id,o=>⟨n,t.set id o⟩
def HT.take:HT->Nat->HT
 |⟨_,t⟩,m=>⟨m,t⟩
theorem HT.length(h:HT):h.list.length=h.n:=by simp[HT.list]
theorem HT.aj(h:HT)(id:Nat):h.list[id]?=h.get id:=by
 unfold HT.list HT.get
 rw[List.getElem?_map]
 by_cases hi:id<h.n
 ·rw[List.getElem?_range hi]
  have:Nat.blt id h.n=true:=by rw[Nat.blt_eq];exact hi
  rw[this,cond_true]
  simp only[Option.map_some]
  cases h.t.get id <;> rfl
 ·rw[List.getElem?_eq_none (by simp;omega)]
  have:Nat.blt id h.n=false:=by
   cases hb:Nat.blt id h.n with
   |false=>rfl
   |true=>rw[Nat.blt_eq]at hb;exact absurd hb hi
  rw[this];rfl
theorem HT.aW(h:HT)(o:aa):(h.push o).list=h.list ++ [o]:=by
 unfold HT.list HT.push
 simp only[Nat.succ_eq_add_one,List.range_succ,List.map_append,List.map_cons,List.map_nil]
 rw[Tr.mo,if_pos rfl]
 congr 1
 refine List.map_congr_left fun i hi =>?_
 rw[Tr.mo,if_neg (by have:=List.mem_range.1 hi;omega)]
theorem HT.aC(h:HT)(id:Nat)(o:aa):(h.set id o).list=h.list.set id o:=by
 refine List.ext_getElem? fun i =>?_
 rw[List.getElem?_set,HT.aj,HT.aj,HT.length]
 unfold HT.get HT.set
 simp only[]
 rw[Tr.mo]
 by_cases hi:i=id
 ·subst hi
  rw[if_pos rfl,if_pos rfl]
  by_cases hlt:i<h.n
  ·rw[if_pos hlt,show Nat.blt i h.n=true by rw[Nat.blt_eq];exact hlt];rfl
  ·rw[if_neg hlt,show Nat.blt i h.n=false by cases hb:Nat.blt i h.n with|false=>rfl|true=>rw[Nat.blt_eq]at hb;exact absurd hb hlt];rfl
 ·rw[if_neg hi,if_neg (Ne.symm hi)]
theorem HT.yF(h:HT)(m:Nat)(hm:m<=h.n):(h.take m).list=h.list.take m:=by
 unfold HT.list HT.take
 rw[<- List.map_take,List.take_range,Nat.min_eq_left hm]
def fE(E:Env)(k:Env->Prop):Prop:=Env.rec (motive:=fun _=>Prop) (fun b t=>k ⟨b,t⟩) E
def fH(H:HT)(k:HT->Prop):Prop:=HT.rec (motive:=fun _=>Prop) (fun n t=>k ⟨n,t⟩) H
theorem Iq(E:Env)(k:Env->Prop):fE E k=k E:=by cases E;rfl
theorem Ip(H:HT)(k:HT->Prop):fH H k=k H:=by cases H;rfl
def ns(P:Program)(t:TypeId)(a:Value)(h:HT):Option (Value×Nat) :=
 match a with
 | .pointer (some ⟨id,off,none⟩) =>
  match h.get id with
  |some (.cells _ _ cs)=>match cb P t cs off with|some v=>some (v,id)|none=>none
  |_=>none
 | .pointer (some ⟨id,off,some (k+3)⟩) =>
  match h.get id with
  |some (.fam (z+1) cs)=>if s8 P t off (z+1)=true then (cb P t cs (k*(z+1)+off)).map fun v=>(v,id) else none
  |_=>none
 |_=>none
theorem pI(P:Program)(t:TypeId)(a:Value)(h:HT):ns P t a h=jx P t a h.list:=by
 cases a <;> try rfl
 rename_i a
 rcases a with _|⟨id,off,_|k⟩ <;> try rfl
 rotate_left
 ·rcases k with _|_|_|k <;> try rfl
  simp only[ns,jx,HT.aj]
  rfl
 simp only[ns,jx,HT.aj]
 rcases h.get id with _|o
 ·rfl
 ·cases o <;> try rfl
  simp only[]
  cases cb P t _ off <;> rfl
def qG(P:Program)(t:TypeId)(x:Value)(lo hi:Option Value)(h:HT):Option (Value×Option Nat) :=
 match P.underlying t,x with
 |some (.slice e),.slice a len cap =>
  match aO P e,fi hi len cap with
  |some n,some h' =>
   match fi lo 0 h' with
   |some l =>
    match a with
    |none=>some (.slice none 0 0,none)
    |some ⟨id,off,none⟩ =>
     match h.get id with
     |some (.cells own z _)=>if own=false∨z=0∨z=n then some (.slice (some ⟨id,off+l*n,none⟩) (h'-l) (cap-l),some id) else none
     |_=>none
    |some ⟨id,off,some (_+1)⟩ =>
     match h.get id with
     |some (.cells own z _)=>if (own=false∨z=0∨z=n)/\h'<=len then some (.slice (some ⟨id,off+l*n,some 2⟩) (h'-l) (h'-l),some id) else none
     |_=>none
    |some _=>none
   |none=>none
  |_,_=>none
 |some (.array (m+1) e),.pointer (some ⟨id,off,none⟩) =>
  match lo,hi,aO P e,h.get id with
  |none,none,some _,some (.cells own z _)=>if own=false∨z=0 then some (.slice (some ⟨id,off,none⟩) (m+1) (m+1),some id) else none
  |_,_,_,_=>none
 |some (.slice e),.iface (n+1) (.agg cs) =>
  match lo,aO P e,fi hi n n with
  |none,some z,some h=>some (.iface (h+1) (.agg ⟨cs.toList.take (h*z)⟩),none)
  |_,_,_=>none
 |_,_=>none
theorem vd(P:Program)(t:TypeId)(x:Value)(lo hi:Option Value)(h:HT):qG P t x lo hi h=jQ P t x lo hi h.list:=by
 unfold qG jQ
 simp only[HT.aj]
 rfl
def AD(P:Program)(t:TypeId)(x:Value)(h:HT):Option (Value×Option Nat) :=
 match P.underlying t,x with
 |some (.slice _),.slice _ n _=>some (.int .i64 n,none)
 |some (.slice _),.iface (n+1) (.agg _)=>some (.int .i64 n,none)
 |some (.slice _),.iface (n+1) (.pointer _)=>some (.int .i64 n,none)
 |some .string,.string s=>some (.int .i64 s.size,none)
 |some (.array n _),_=>some (.int .i64 n,none)
 |some (.map _ _),.map none=>some (.int .i64 0,none)
 |some (.map _ _),.map (some id)=>match h.get id with|some (.map es)=>some (.int .i64 es.length,some id)|_=>none
 |_,_=>none
def nq(P:Program)(t:TypeId)(m key:Value)(ok:Bool)(h:HT):Option (Value×Option Nat) :=
 match P.underlying t with
 |some (.map kt el) =>
  match dD P el,dF P kt key,m with
  |some z,true,.map none=>some (yL ok z false,none)
  |some z,true,.map (some id)=>match h.get id with
   |some (.map es)=>(hO P kt z key ok es).map fun v=>(v,some id)
   |_=>none
  |_,_,_=>none
 |_=>none
theorem s7(P:Program)(t:TypeId)(m key:Value)(ok:Bool)(h:HT):nq P t m key ok h=jh P t m key ok h.list:=by
 unfold nq jh
 simp only[HT.aj]
 rfl
theorem AC(P:Program)(t:TypeId)(x:Value)(h:HT):AD P t x h=AE P t x h.list:=by
 unfold AD AE
 simp only[HT.aj]
 rfl
def ve(P:Program)(o:Op)(e:Operand->Value)(h:HT):Option (Value×Option Nat) :=
 match o with
 | .move x=>some (e x,none)
 | .assign x=>some (e x,none)
 | .pick c a b=>match e c with| .bool t=>some (match t with|true=>e a|false=>e b,none)|_=>none
 | .build t parts=>(qT P t (parts.toList.map fun p=>(p.1,e p.2))).map (·,none)
 | .load t a=>match jR P t (e a) with|some v=>some (v,none)|none=>(ns P t (e a) h).map fun r=>(r.1,some r.2)
 | .nilCheck x=>match e x with
  | .pointer (some a)=>some (.pointer (some a),none)
  | .iface o (.tuple cs)=>some (.iface o (.tuple cs),none)
  | .func (.func f) x y=>some (.func (.func f) x y,none)
  | .func (.yield f) x y=>some (.func (.yield f) x y,none)
  |_=>none
 | .binOp op t x y _=>(ta P op t (e x) (e y)).map (·,none)
 | .unOp op _ x=>(kun op (e x)).map (·,none)
 | .convert s d x=>(xk P s d (e x)).map (·,none)
 | .makeFunc (.func f) first cap=>some (.func (.func f) ⟨first.toList.map e⟩ ⟨cap.toList.map e⟩,none)
 | .slice t x lo hi none=>qG P t (e x) (lo.map e) (hi.map e) h
 | .fieldAddr s x f=>(hP P s (e x) f).map (·,none)
 | .field t x f=>(qN P t (e x) f).map (·,none)
 | .indexAddr t x i=>(dt P t (e x) (e i)).map (·,none)
 | .index t x i=>(ll P t (e x) (e i)).map (·,none)
 | .extract x i=>match e x with| .tuple vs=>(vs.toList[i]?).map (·,none)|_=>none
 | .call ⟨.builtin .len,⟨[x]⟩,⟨t :: _⟩⟩=>AD P t (e x) h
 | .call ⟨.builtin .min,xs,_⟩=>(jf false (xs.toList.map e)).map (·,none)
 | .call ⟨.builtin .max,xs,_⟩=>(jf true (xs.toList.map e)).map (·,none)
 | .lookup t x i ok=>nq P t (e x) (e i) ok h
 |_=>none
theorem IM{α β:Type}(f:α->β)(a:Array α):(⟨a.toList.map f⟩:Array β)=a.map f:=Array.toList_inj.1 (by simp)
theorem qH{P:Program}{o:Op}{e:Operand->Value}{h:HT}{r:Value×Option Nat}(hk:ve P o e h=some r):cO P o e h.list=some r:=by
 unfold ve at hk
 split at hk
 all_goals simp only[cO]
 case h_3 =>
  generalize e _=c at hk ⊢
  cases c <;> try (cases hk;done)
  rename_i t
  cases t <;> exact hk
 case h_5=>rw[<- pI];exact hk
 case h_10=>rw[IM,IM]at hk;exact hk
 case h_16 =>
  generalize e _=c at hk ⊢
  cases c <;> try (cases hk;done)
  simp only[Array.getElem?_toList]at hk ⊢
  exact hk
 all_goals first
  |exact hk
  |(rw[<- vd];exact hk)
  |(rw[<- AC];exact hk)
  |(rw[<- s7];exact hk)
  |(cases hk;done)
end
end Go.K
