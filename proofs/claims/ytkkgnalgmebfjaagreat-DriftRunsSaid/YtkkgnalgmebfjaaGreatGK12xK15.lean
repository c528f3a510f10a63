/- All operations that write. No condition. -/
import Derived.Test.YtkkgnalgmebfjaaGreatGM1xK11
import Derived.LoopNIn
import Derived.RangeFuncLeaves
open Go Go.K
set_option linter.unusedVariables false
set_option linter.unusedSimpArgs false
namespace Go.K
variable {P:Program} {w:World} {Z:Ren} {H:Heap}
theorem jx{n k:Nat}{y:Value}{c:List Value}(hc:dk P n k y H=some c):c.length=k*n:=by
 unfold dk at hc
 split at hc
 ·split at hc
  ·rename_i h0;cases hc;simp[h0]
  ·simp at hc
 ·split at hc
  ·split at hc
   ·rename_i hle;cases hc;simp;omega
   ·simp at hc
  ·simp at hc
 ·simp at hc
theorem vY{B base:Nat}{M:List Nat}{t:TypeId}{d d' x x' v:Value}{H':Heap}{wr:List Nat}(h:pf P t d x H=some (v,H',wr))(hr:Rel P B Z H w)
  (hd:VR Z d d') (hx:VR Z x x') (hM:∀id∈wr,id<base->id∈M) (ts:List TypeId) (ty:TypeId) :
  ∃v' w',(Builtin.copy_ ⟨t :: ts⟩ ty #[d',x']).run P w = .ok v' w'/\VR Z v v'/\Post P B base M Z H w Z H' w':=by
 unfold pf at h
 split at h
 ·rename_i el sb len cap xb m xc hut
  cases hn:bq P el with
  |none=>simp[hn]at h
  |some n =>
   simp only[hn]at h
   cases hc:dk P n (min m len) (.slice xb m xc) H with
   |none=>simp[hc]at h
   |some new =>
    simp only[hc]at h
    obtain ⟨new',hn1,hn2⟩:=hC (w:=w) hc hx (kS hr)
    obtain ⟨x'l,x'c,hx'⟩:∃a c,x' = .slice a m c:=by cases hx <;> exact ⟨_,_,rfl⟩
    have hlen:∀w:World,(Builtin.lenOf x').run P w = .ok m w:=by intro w;rw[hx'];rfl
    have start:∀(b':Option Addr) (c':Nat),(Builtin.copy_ ⟨t :: ts⟩ ty #[.slice b' len c',x']).run P w =
      ((match b' with|some a=>storeCells a new'.toList|none=>pure ():Sem Unit).run P w).andThen fun _ w' => .ok (goInt (min m len:Nat)) w':=by
     intro b' c'
     have hm:Nat.min m len=min m len:=rfl
     simp only[Builtin.copy_,List.getElem?_toArray,List.getElem?_cons_zero,List.getElem?_cons_succ,Sem.run_bind,aV hut,Result.andThen_ok,hlen,b6 hn,hm,hn1]
     cases b' <;> simp
    cases hd with
    |cq=>simp at h
    |ba=>simp at h
    |bb=>simp at h
    |bF=>simp at h
    |bf=>simp at h
    |bQ=>simp at h
    |bG =>
     simp only at h
     cases h
     exact ⟨_,w,start none 0,.int _ _,Post.refl hr⟩
    | @slice id off r _ _ c' hρ hl hcc hroom =>
     simp only at h
     split at h
     ·rename_i z cs hid
      split at h
      ·rename_i hcond
       obtain ⟨h1,h2⟩:=hcond
       cases h
       obtain ⟨e1,e2,cs',ety,fz,hb,hnz,hfz,hcs⟩:=hr.obj id r _ hρ hid
       obtain rfl:fz=(0,0):=hfz rfl
       have hnl:=jx hc
       have hl1:=hn2.1
       rcases Nat.eq_zero_or_pos (min m len*n) with h0|h0
       ·have uL:new=[]:=List.length_eq_zero_iff.1 (by omega)
        have tF:new'.toList=[]:=List.length_eq_zero_iff.1 (by omega)
        refine ⟨_,w.putObj r.b (.cells cs' ety (0,0)),?_,.int _ _,?_⟩
        ·rw[start];simp[tF,storeCells,e7 hb,goInt]
        ·rw[uL]
         exact Post.put hr hρ hid rfl (by rw[hb];rfl) ⟨e1,e2,cs',ety,(0,0),cM hb,hnz,fun _=>rfl,hcs⟩ (fun hlt=>hM id (by simp) hlt)
       ·have hle2:off+r.s+min m len*n<=cs'.size:=by
         rcases dX hcs h1 with h|h
         ·exact h
         ·omega
        have hrun:=dL (P:=P) (b:=r.b) (off:=off+r.s) new'.toList 0 cs' w hb (VRl.oneCell hn2 h2) (by rw[<- hl1,hnl];omega)
        refine ⟨_,w.putObj r.b (.cells ⟨bp cs'.toList (off+r.s) new'.toList⟩ ety (0,0)),?_,.int _ _,Post.put hr hρ hid rfl (by rw[hb];rfl) ?_ (fun hlt=>hM id (by simp) hlt)⟩
        ·rw[start]
         simp only[hrun,Result.andThen_ok]
         simp[goInt]
        ·refine ⟨e1,e2,_,ety,(0,0),cM hb,by rw[<- hnz];simp[cx],fun _=>rfl,?_⟩
         exact kP hcs hn2 (by omega) (by rw[<- hl1,hnl];omega)
      ·simp at h
     ·simp at h
    | @bK id off r o' hρ =>
     simp only at h
     split at h
     ·rename_i z cs hid
      split at h
      ·rename_i hcond
       cases h
       obtain ⟨e1,e2,cs',ety,fz,hb,hnz,hfz,hcs⟩:=hr.obj id r _ hρ hid
       obtain rfl:fz=(0,0):=hfz rfl
       have hnl:=jx hc
       have hl1:=hn2.1
       have uL:new=[]:=List.length_eq_zero_iff.1 (by simp at hnl;simpa using hnl)
       have tF:new'.toList=[]:=List.length_eq_zero_iff.1 (by rw[<- hl1,uL];rfl)
       refine ⟨_,w.putObj r.b (.cells cs' ety (0,0)),?_,.int _ _,?_⟩
       ·rw[start];simp[tF,storeCells,e7 hb,goInt]
       ·rw[uL]
        exact Post.put hr hρ hid rfl (by rw[hb];rfl) ⟨e1,e2,cs',ety,(0,0),cM hb,hnz,fun _=>rfl,hcs⟩ (fun hlt=>hM id (by simp) hlt)
      ·simp at h
     ·simp at h
 ·simp at h
theorem set_self{H:Heap}{id:Nat}{o:ab}(h:H[id]?=some o):H.set id o=H:=by
 refine List.ext_getElem? fun i =>?_
 by_cases e:id=i
 ·subst e;rw[List.getElem?_set_self (List.getElem?_eq_some_iff.1 h).1,h]
 ·rw[List.getElem?_set_ne e]
theorem tw{B base:Nat}{M:List Nat}{t:TypeId}{x x' v:Value}{H':Heap}{wr:List Nat}(h:lf P t x H=some (v,H',wr))(hr:Rel P B Z H w)
  (hx:VR Z x x') (hM:∀id∈wr,id<base->id∈M) (ts:List TypeId) (ty:TypeId) :
  ∃v' w',(Builtin.clear_ ⟨t :: ts⟩ ty #[x']).run P w = .ok v' w'/\VR Z v v'/\Post P B base M Z H w Z H' w':=by
 unfold lf at h
 split at h
 ·rename_i el base' len cap hut
  cases hn:bq P el with
  |none=>simp[hn]at h
  |some n =>
   cases hz:et P el with
   |none=>simp[hn,hz]at h
   |some z =>
    simp only[hn,hz]at h
    have zero:∀(a:Option Addr) (c:Nat),(Builtin.clear_ ⟨t :: ts⟩ ty #[.slice a 0 c]).run P w = .ok (.tuple #[]) w:=by
     intro a c
     simp only[Builtin.clear_,List.getElem?_toArray,List.getElem?_cons_zero,Sem.run_bind,aV hut,Result.andThen_ok]
     cases a <;> simp
    split at h
    ·cases h
     cases hx
     exact ⟨_,w,zero none 0,.undef Z,Post.refl hr⟩
    ·rename_i id off tag
     split at h
     ·rename_i zz cs hid
      split at h
      ·rename_i hcond
       obtain ⟨h1,h2,h3⟩:=hcond
       cases h
       rcases Nat.eq_zero_or_pos len with h0|h0
       ·subst h0
        have e:H.set id (.cells true zz (bp cs off (cC z.cells.toList 0)))=H:=set_self hid
        rw[e]
        obtain ⟨a,c,rfl⟩:∃a c,x' = .slice a 0 c:=by
         generalize hq:(Value.slice (some ⟨id,off,tag⟩) 0 cap)=q at hx
         cases hx <;> cases hq <;> exact ⟨_,_,rfl⟩
        exact ⟨_,w,zero a c,.undef Z,Post.refl hr⟩
       ·obtain ⟨r,c',hρ,rfl⟩:∃r c',Z id=some r/\x' = .slice (some ⟨r.b,off+r.s,none⟩) len c':=by
         generalize hq:(Value.slice (some ⟨id,off,tag⟩) len cap)=q at hx
         cases hx <;> cases hq <;> first|exact ⟨_,_,‹_›,rfl⟩|exact absurd h0 (Nat.lt_irrefl 0)
        obtain ⟨hzr,hzc⟩:=dW hz w
        obtain ⟨e1,e2,cs',ety,fz,hb,hnz,hfz,hcs⟩:=hr.obj id r _ hρ hid
        obtain rfl:fz=(0,0):=hfz rfl
        have hkl:(cC z.cells.toList len).length=len*n:=by rw[ew,h2]
        have hle2:off+r.s+len*n<=cs'.size∨len*n=0:=by
         rcases dX hcs h1 with h|h
         ·exact .inl h
         ·exact .inr h
        have hone:∀(l:List Value),(∀v∈l,di v=true)->∀k,∀v∈cC l k,di v=true:=by
         intro l hl k
         induction k with
         |zero=>intro v hv;cases hv
         |succ k ih=>intro v hv;rcases List.mem_append.1 hv with hv|hv;exact hl v hv;exact ih v hv
        have hvr:=nc (Z:=Z) hzc len
        have xQ:(Builtin.zeroCells z.cells len).toList=cC z.cells.toList len:=lb z.cells len
        have hstart:(Builtin.clear_ ⟨t :: ts⟩ ty #[.slice (some ⟨r.b,off+r.s,none⟩) len c']).run P w=((storeCells ⟨r.b,off+r.s,none⟩ (cC z.cells.toList len)).run P w).andThen fun _ w' => .ok (.tuple #[]) w':=by
         obtain ⟨k,rfl⟩:∃k,len=k+1:=⟨len-1,by omega⟩
         simp only[Builtin.clear_,List.getElem?_toArray,List.getElem?_cons_zero,Sem.run_bind,aV hut,Result.andThen_ok,hzr,xQ]
         rfl
        rcases hle2 with hle2|h00
        ·have hrun:=dL (P:=P) (b:=r.b) (off:=off+r.s) (cC z.cells.toList len) 0 cs' w hb (VRl.oneCell hvr (by rw[List.all_eq_true];exact hone _ (by rw[List.all_eq_true]at h3;exact h3) len)) (by rw[hkl];omega)
         refine ⟨_,w.putObj r.b (.cells ⟨bp cs'.toList (off+r.s) (cC z.cells.toList len)⟩ ety (0,0)),?_,.undef Z,Post.put hr hρ hid rfl (by rw[hb];rfl) ?_ (fun hlt=>hM id (by simp) hlt)⟩
         ·rw[hstart];simp only[hrun,Result.andThen_ok];rfl
         ·refine ⟨e1,e2,_,ety,(0,0),cM hb,by rw[<- hnz];simp[cx],fun _=>rfl,?_⟩
          exact kP hcs hvr (by omega) (by rw[hkl];omega)
        ·have hk0:cC z.cells.toList len=[]:=List.length_eq_zero_iff.1 (by omega)
         have e:H.set id (.cells true zz (bp cs off (cC z.cells.toList len)))=H:=by rw[hk0];exact set_self hid
         rw[e]
         refine ⟨.tuple #[],w,?_,.undef Z,Post.refl hr⟩
         rw[hstart,hk0]
         rfl
      ·simp at h
     ·simp at h
 ·simp at h
def BR(r:Result Next)(v':Value)(w':World):Prop:=r = .ok (.value v') w'∨(r = .ok .skip w'/\v'=undef)
theorem rJ{B base:Nat}{M:List Nat}{t:TypeId}{m m' k k' x x':Value}{H':Heap}{wr:List Nat}(h:i8 P t m k x H=some (H',wr))(hr:Rel P B Z H w)(hm:VR Z m m')(hk:VR Z k k')(hx:VR Z x x')
  (hM:∀id∈wr,id<base->id∈M):∃w',(Instr.mapUpdate t m' k' x').run P w = .ok () w'/\Post P B base M Z H w Z H' w':=by
 unfold i8 at h
 split at h
 ·rename_i kt el hu
  split at h
  ·rename_i id hfit
   split at h
   ·rename_i es hid
    obtain ⟨es2,hs,hh⟩:=bo h
    cases hh
    obtain ⟨d,hd⟩:=nq hfit
    have hok:fZ k=true:=by unfold fi at hfit;rw[Bool.and_eq_true]at hfit;exact hfit.1
    have hck:(Instr.checkKey false 10000 kt k').run P w = .ok () w:=by
     unfold fi at hfit
     rw[Bool.and_eq_true]at hfit
     obtain ⟨c,hc⟩:=Option.isSome_iff_exists.1 hfit.2
     exact kE false Op.maxDepth 10000 hc hfit.1 hk (Nat.le_refl _) w
    cases hm with
    | @map _ r hρ =>
     obtain ⟨hown,es',hb,⟨hlen,hborn⟩,hes⟩:=hr.obj id r _ hρ hid
     have hg:(getObj r.b).run P w = .ok (.map es' es'.size) w:=by simp only[getObj,Sem.run,hb]
     have hER:ER Z es es'.toList:=⟨by simpa using hlen,fun i k v hi=>by simpa using hes i k v hi⟩
     unfold uC at hs
     cases hf:jv P kt k es 0 with
     |none=>simp[hf]at hs
     |some q =>
      obtain ⟨q',g1,g2⟩:=lP hd hk hf hER w
      rw[hf]at hs
      cases q with
      |none =>
       cases hs
       cases q' with
       |some _=>exact g2.elim
       |none =>
        refine ⟨w.putObj r.b (.map (es'.push { key:=k',val:=x',born:=es'.size }) (es'.size+1)),?_,Post.put hr hρ hid rfl (by rw[hb];rfl) ?_ (fun hlt=>hM id (by simp) hlt)⟩
        ·simp[Instr.mapUpdate,aV hu,hg,hck,g1,setObj,Sem.run,hb,World.putObj]
        ·refine ⟨hown,es'.push { key:=k',val:=x',born:=es'.size },by rw[Array.size_push];exact cM hb,⟨by simp[hlen],fun i e hi =>?_⟩,fun i u v hi =>?_⟩
         ·rw[Array.getElem?_push]at hi
          split at hi
          ·rename_i e0;cases hi;exact e0.symm
          ·exact hborn i e hi
         ·rw[List.getElem?_append]at hi
          split at hi
          ·rename_i hlt
           obtain ⟨e,a,b,c⟩:=hes i u v hi
           exact ⟨e,by rw[Array.getElem?_push,if_neg (by omega)];exact a,b,c⟩
          ·rename_i hge
           have hi0:i=es.length:=by
            have:=(List.getElem?_eq_some_iff.1 hi).1
            simp at this;omega
           subst hi0
           rw[Nat.sub_self]at hi
           cases hi
           exact ⟨_,by rw[Array.getElem?_push,if_pos hlen],hk,hx⟩
      |some p =>
       obtain ⟨i,u⟩:=p
       simp only at hs
       cases q' with
       |none=>exact g2.elim
       |some p' =>
        obtain ⟨j,u'⟩:=p'
        obtain ⟨rfl,_⟩:=g2
        cases hi:es[i]? with
        |none=>simp[hi]at hs
        |some kv =>
         obtain ⟨k0,v0⟩:=kv
         rw[hi]at hs
         cases hke:uF k0 k with
         |false=>simp[hke]at hs
         |true =>
          simp only[hke]at hs
          cases hs
          have e0:=xy hke
          subst e0
          obtain ⟨e,a,b,c⟩:=hes i _ v0 hi
          have hk1:=rM hok hk
          have hk2:=rM hok b
          subst hk1
          refine ⟨w.putObj r.b (.map (es'.modify i fun e => { e with key:=k',val:=x' }) es'.size),?_,Post.put hr hρ hid rfl (by rw[hb];rfl) ?_ (fun hlt=>hM id (by simp) hlt)⟩
          ·have hst:=pJ (P:=P) hok w
           simp[Instr.mapUpdate,aV hu,hg,hck,g1,a,hk2,hst,setObj,Sem.run,hb,World.putObj]
          ·refine ⟨hown,es'.modify i fun e => { e with key:=k',val:=x' },by rw[Array.size_modify];exact cM hb,⟨by simp[hlen],fun j e' hj =>?_⟩,fun j u v hj =>?_⟩
           ·rw[Array.getElem?_modify]at hj
            split at hj
            ·obtain ⟨e2,h2,rfl⟩:=bo hj
             exact hborn j e2 h2
            ·exact hborn j e' hj
           ·by_cases hij:i=j
            ·subst hij
             have hlt:=(List.getElem?_eq_some_iff.1 hi).1
             rw[List.getElem?_set_self hlt]at hj
             cases hj
             exact ⟨_,by rw[Array.getElem?_modify,if_pos rfl,a];rfl,hk,hx⟩
            ·rw[List.getElem?_set_ne hij]at hj
             obtain ⟨e2,a2,b2,c2⟩:=hes j u v hj
             exact ⟨e2,by rw[Array.getElem?_modify,if_neg hij];exact a2,b2,c2⟩
   ·simp at h
  ·simp at h
 ·simp at h
theorem nb{B base:Nat}{M:List Nat}{o:Oper}{e e':Operand->Value}{v:Value}{H':Heap}{wr:List Nat}(h:d7 P o.op e H=some (v,H',wr))(he:∀x∈o.op.operands,VR Z (e x) (e' x))
  (hr:Rel P B Z H w) (hM:∀id∈wr,id<base->id∈M) (hob:base<=H.length) :
  ∃v' w' ρ',BR ((execOp e' o).run P w) v' w'/\VR ρ' v v'/\Post P B base M Z H w ρ' H' w':=by
 obtain ⟨dst,op,ty,pos,after,guard⟩:=o
 simp only at h he ⊢
 unfold d7 at h
 split at h
 ·rename_i t a x
  obtain ⟨⟨H1,wr1⟩,hs,hh⟩:=bo h
  cases hh
  obtain ⟨w',h1,h2⟩:=tg hs hr (he a (by simp[Op.operands])) (he x (by simp[Op.operands])) hM
  exact ⟨undef,w',Z,.inr ⟨by simp[execOp,h1],rfl⟩,VR.undef Z,h2⟩
 ·rename_i s x t u
  split at h
  ·rename_i el hu
   obtain ⟨v',w',ρ',h1,h2,h3⟩:=rO h ⟨el,hu⟩ hr (he s (by simp[Op.operands,Call.operands])) (he x (by simp[Op.operands,Call.operands])) hM hob ty
   exact ⟨v',w',ρ',.inl (by simp[execOp,resolve,invoke,builtin,h1]),h2,h3⟩
  ·simp at h
 ·rename_i d s t ts
  obtain ⟨v',w',h1,h2,h3⟩:=vY h hr (he d (by simp[Op.operands,Call.operands])) (he s (by simp[Op.operands,Call.operands])) hM ts ty
  exact ⟨v',w',Z,.inl (by simp[execOp,resolve,invoke,builtin,h1]),h2,h3⟩
 ·rename_i x t ts
  obtain ⟨v',w',h1,h2,h3⟩:=tw h hr (he x (by simp[Op.operands,Call.operands])) hM ts ty
  exact ⟨v',w',Z,.inl (by simp[execOp,resolve,invoke,builtin,h1]),h2,h3⟩
 ·rename_i t m k x
  obtain ⟨⟨H1,wr1⟩,hs,hh⟩:=bo h
  cases hh
  obtain ⟨w',h1,h2⟩:=rJ hs hr (he m (by simp[Op.operands])) (he k (by simp[Op.operands])) (he x (by simp[Op.operands])) hM
  exact ⟨undef,w',Z,.inr ⟨by simp[execOp,h1],rfl⟩,VR.undef Z,h2⟩
 ·simp at h
theorem fB{w:World}{r:Nat}{o:Obj}(h:w.heap[r]?=some o)(hc:∀cs ty fz,o ≠ .cells cs ty fz):(getObj r).run P w = .ok o w:=by
 simp only[getObj,Sem.run,h]
theorem pI{t kt el:TypeId}{bm:Nat}{es:Array MapEntry}{clock:Nat}(hu:P.underlying t=some (.map kt el))(hb:w.heap[bm]?=some (.map es clock)) :
  (Instr.range t (.map (some bm))).run P w = .ok (.pointer (some ⟨w.heap.size,0,none⟩)) (w.alloc (.mapIter (some bm) clock #[] clock)):=by
 have hg:=fB (P:=P) hb (by intro _ _ _ h;cases h)
 simp[Instr.range,aV hu,hg]
theorem qV{ty:TypeId}{b bm:Nat}{es:Array MapEntry}{seen:Array Nat}(hb:w.heap[bm]?=some (.map es es.size))(hi:w.heap[b]?=some (.mapIter (some bm) es.size seen es.size))(hborn:∀(i:Nat) (e:MapEntry),es[i]?=some e->e.born=i) :
  ((∀i,i<es.size->i∈seen)/\(Instr.next (.pointer (some ⟨b,0,none⟩)) false ty).run P w = .ok (.tuple #[.bool false]) w) ∨
  ∃(i:Nat) (e:MapEntry) (w1:World),(w1=w∨w1=w.drew)/\i<es.size/\i ∉ seen/\es[i]?=some e/\(Instr.next (.pointer (some ⟨b,0,none⟩)) false ty).run P w = .ok (.tuple #[.bool true,e.key,e.val]) (w1.putObj b (.mapIter (some bm) es.size (seen.push i) es.size)):=by
 have hg:=fB (P:=P) hi (by intro _ _ _ h;cases h)
 have hgm:=fB (P:=P) hb (by intro _ _ _ h;cases h)
 have hall:∀e∈es.toList,e.born<es.size:=fun e he=>by
  obtain ⟨i,h⟩:=List.mem_iff_getElem?.1 he
  rw[Array.getElem?_toList]at h
  have:=hborn i e h
  have:=(Array.getElem?_eq_some_iff.1 h).1
  omega
 have Cv:(!seen.isEmpty && !es.isEmpty&&es.all (fun x=>decide (x.born ≥ es.size)))=false:=by
  cases he:es.isEmpty with
  |true=>simp
  |false =>
   have h0:0<es.size:=by
    rcases Nat.eq_zero_or_pos es.size with h|h
    ·simp[Array.isEmpty,h]at he
    ·exact h
   have:es.all (fun x=>decide (x.born ≥ es.size))=false:=by
    rw[Bool.eq_false_iff]
    intro h
    rw[Array.all_eq_true_iff_forall_mem]at h
    have h1:=h es[0] (Array.getElem_mem h0)
    have h2:=hall es[0] (by simp)
    simp at h1
    omega
   simp[this]
 have old:∀L:Array MapEntry,(∀x∈L.toList,x.born<es.size)->L.filter (fun x=>decide (x.born<es.size))=L/\L.filter (fun x=>decide (x.born ≥ es.size)) = #[]:=fun L hL=>by
  refine ⟨Array.filter_eq_self.2 (fun x hx=>by simpa using hL x (by simpa using hx)),?_⟩
  rw[Array.filter_eq_empty_iff]
  intro x hx
  have:=hL x (by simpa using hx)
  simp
  omega
 have hmem:∀x∈(Array.filter (fun e => !seen.contains e.born) es).toList,x.born<es.size:=fun x hx=>hall x (by simp at hx ⊢;exact hx.1)
 obtain ⟨o1,o2⟩:=old _ hmem
 have hset:∀(w1:World) (o':Obj),(w1=w∨w1=w.drew)->(setObj b o').run P w1 = .ok () (w1.putObj b o'):=fun w1 o' hw=>by
  have:w1.heap[b]?=some (.mapIter (some bm) es.size seen es.size):=by rcases hw with rfl|rfl <;> exact hi
  simp only[setObj,Sem.run,this]
  rfl
 unfold Instr.next
 simp only[Sem.run_bind,hg,hgm,Result.andThen_ok,Cv,Bool.false_eq_true,if_false,o1,o2,Array.append_empty]
 generalize hL:Array.filter (fun e => !seen.contains e.born) es=L at hmem
 by_cases h0:L.size=0
 ·left
  have hE:L = #[]:=Array.eq_empty_of_size_eq_zero h0
  refine ⟨fun i hi =>?_,?_⟩
  ·refine Classical.byContradiction fun hn =>?_
   have hm:es[i]∈Array.filter (fun e => !seen.contains e.born) es:=by
    rw[Array.mem_filter]
    refine ⟨Array.getElem_mem hi,?_⟩
    rw[hborn i _ (Array.getElem?_eq_getElem hi)]
    simpa using hn
   rw[hL,hE]at hm
   simp at hm
  ·subst hE
   simp[choose,Sem.run,Question.forced]
 ·right
  have hne:L.isEmpty=false:=by simp[Array.isEmpty,h0]
  have hch:∃(j:Nat) (w1:World),j<L.size/\(w1=w∨w1=w.drew)/\(choose (Question.mapNext L.size)).run P w = .ok j w1:=by
   by_cases hf:L.size<=1
   ·exact ⟨0,w,by omega,.inl rfl,by simp[choose,Sem.run,Question.forced,hf]⟩
   ·exact ⟨_,w.drew,Nat.mod_lt _ (by omega),.inr rfl,by
     simp only[choose,Sem.run,Question.forced,decide_eq_true_eq,hf,if_false,Question.cut]
     rfl⟩
  obtain ⟨j,w1,hj,hal,hrun⟩:=hch
  have hm:L[j]∈Array.filter (fun e => !seen.contains e.born) es:=by rw[hL];exact Array.getElem_mem hj
  rw[Array.mem_filter]at hm
  obtain ⟨m1,m2⟩:=hm
  obtain ⟨i,hi',hie⟩:=Array.mem_iff_getElem.1 m1
  have hbi:=hborn i L[j] (by rw[<- hie];exact Array.getElem?_eq_getElem hi')
  refine ⟨i,L[j],w1,hal,hi',?_,by rw[<- hie];exact Array.getElem?_eq_getElem hi',?_⟩
  ·rw[hbi]at m2;simpa using m2
  ·simp only[hne,Bool.false_eq_true,if_false,Array.empty_append,Array.size_map,hrun,Result.andThen_ok,Array.getElem?_map,Array.getElem?_eq_getElem hj,Option.map_some,Sem.run_bind,hset _ _ hal,Sem.run_pure,hbi]
theorem pK{b bm:Nat}{es:Array MapEntry}{seen:Array Nat}{i:Nat}{e:MapEntry}(hb:w.heap[bm]?=some (.map es es.size))(hi:w.heap[b]?=some (.mapIter (some bm) es.size seen es.size))(hborn:∀(i:Nat) (e:MapEntry),es[i]?=some e->e.born=i)(hl:seen.back?=some i)(he:es[i]?=some e) :
  (Instr.entry (.pointer (some ⟨b,0,none⟩))).run P w = .ok (.tuple #[e.key,e.val]) w:=by
 have hg:=fB (P:=P) hi (by intro _ _ _ h;cases h)
 have hgm:=fB (P:=P) hb (by intro _ _ _ h;cases h)
 have hf:es.find? (fun x=>x.born == i)=some e:=by
  have key:∀(l:List MapEntry) (k:Nat),(∀(j:Nat) (x:MapEntry),l[j]?=some x->x.born=j+k)->∀j x,l[j]?=some x->l.find? (fun x=>x.born == j+k)=some x:=by
   intro l
   induction l with
   |nil=>intro k _ j x h;simp at h
   |cons y l ih =>
    intro k hk j x h
    cases j with
    |zero =>
     simp at h;subst h
     have:=hk 0 y rfl
     rw[List.find?_cons,show (y.born == 0+k)=true by rw[this];exact beq_self_eq_true _]
    |succ j =>
     have h0:=hk 0 y rfl
     rw[List.find?_cons,show (y.born == j+1+k)=false by rw[h0];exact beq_false_of_ne (by omega)]
     have:=ih (k+1) (fun j x h=>by have:=hk (j+1) x (by simpa using h);omega) j x (by simpa using h)
     rw[show j+1+k=j+(k+1) by omega]
     exact this
  have:=key es.toList 0 (fun j x h=>by have:=hborn j x (by simpa using h);omega) i e (by simpa using he)
  rw[<- Array.find?_toList]
  exact this
 unfold Instr.entry
 simp only[Sem.run_bind,hg,hgm,Result.andThen_ok,hl,bne_self_eq_false,Bool.false_eq_true,if_false,hf,Sem.run_pure]
end Go.K
namespace Go.K
variable {P:Program}
def TR(Z:Ren)(N:Nat)(T:Tm)(tmps:Array Value):Prop:=tmps.size=N/\∀t,t<N->VR Z (T t) (tmps.getD t undef)
theorem TR.mono{Z ρ':Ren}(hle:Ren.le Z ρ'){N:Nat}{T:Tm}{tmps:Array Value}(h:TR Z N T tmps):TR ρ' N T tmps:=⟨h.1,fun t ht=>(h.2 t ht).mono hle⟩
theorem TR.put{Z:Ren}{N:Nat}{T:Tm}{a:Act}(h:TR Z N T a.tmps){dst:Option Nat}{v v':Value}(hd:∀d,dst=some d->d<N)(hv:VR Z v v'):TR Z N (put T dst v) (a.put dst v').tmps:=by
 cases dst with
 |none=>exact h
 |some d =>
  refine ⟨by simp[Act.put,h.1],fun t ht =>?_⟩
  by_cases e:t=d
  ·subst e
   have:t<a.tmps.size:=by rw[h.1];exact ht
   simpa[K.put,upd,Act.put,this] using hv
  ·have e':d≠t:=Ne.symm e
   have:=h.2 t ht
   simpa[K.put,upd,e,Act.put,Array.getElem?_setIfInBounds_ne e'] using this
def DOK(n0:Nat)(ds:List Deferred)(w:World):Prop :=
 ∃Ds:List Nat,ds=Ds.map (fun D=>({ target:=.collected D,args:=#[] }:Deferred))/\Ds.Pairwise (· ≠ ·)/\∀D∈Ds,n0<=D/\w.heap[D]?=some (.deferred (some []))
theorem DOK.nil(n0:Nat)(w:World):DOK n0 [] w:=⟨[],rfl,.nil,fun _ h=>by cases h⟩
theorem jI{B:Nat}{Z:Ren}{H:Heap}{w:World}(hr:Rel P B Z H w){D:Nat}{x:Option (List Deferred)}(h:w.heap[D]?=some (.deferred x)):¬ OB Z H D:=by
 rintro (⟨id,r,o,h1,h2,h3,rfl⟩|⟨F,k,r,z,cs,g,rfl⟩)
 rotate_left
 ·obtain ⟨cs',ty,hb,_⟩:=hr.fam.obj F k r z cs g;rw[h]at hb;cases hb
 have:=hr.obj id r o h1 h2
 cases o with
 |fam z cs=>simp[ab.owned]at h3
 |cells own z cs=>obtain ⟨_,_,cs',ty,fz,hb,_⟩:=this;rw[h]at hb;cases hb
 |map es=>obtain ⟨_,es',hb,_⟩:=this;rw[h]at hb;cases hb
 |iter m n s=>obtain ⟨_,_,rm,_,hb⟩:=this;rw[h]at hb;cases hb
 |loop _ _ _ _ _ _ _=>obtain ⟨_,l,hb,_⟩:=this;rw[h]at hb;cases hb
 |dead=>simp[ab.owned]at h3
theorem DOK.post{B base:Nat}{M:List Nat}{Z ρ':Ren}{H H':Heap}{w w':World}{n0:Nat}{ds:List Deferred}(hr:Rel P B Z H w)(h:DOK n0 ds w)(p:Post P B base M Z H w ρ' H' w'):DOK n0 ds w':=by
 obtain ⟨Ds,h1,h2,h3⟩:=h
 refine ⟨Ds,h1,h2,fun D hD=>⟨(h3 D hD).1,?_⟩⟩
 have hd:=(h3 D hD).2
 rw[p.keep D (Array.getElem?_eq_some_iff.1 hd).1 (jI hr hd)]
 exact hd
def Enters(P:Program)(f:FuncId):Prop:=∀(args:Array Value) (w:World),(callFunc f args).run P w = .ok (.enter f args) w
theorem enters_of {f : FuncId} {fn : Func} {c : Code} (hf : P.funcs[f]? = some fn) (hname : (fn.name == "runtime.NumGoroutine") = false) (hb : fn.body = some c) : Enters P f := by
 intro args w
 have h1 : fn.name ≠ "runtime.NumGoroutine" := by simpa using hname
 simp[callFunc,hf,h1,hb]
def CQ(P:Program)(B:Nat)(base:Nat)(M:List Nat)(Z:Ren)(H:Heap)(w:World)(Q:Value->Heap->Prop)(e:Ending)(w':World):Prop :=
 ∃v v' ρ' H',e = .returned v'/\VR ρ' v v'/\Post P B base M Z H w ρ' H' w'/\Q v H'
def am(P:Program)(f:FuncId)(args:List Value)(H:Heap)(M:List Nat)(Q:Value->Heap->Prop):Prop :=
 Enters P f/\∀(B:Nat) (Z:Ren) (w:World) (args':Array Value),Rel P B Z H w->VRl Z args args'.toList->CallsIn Fence.wide 0 P f args' w (CQ P B H.length M Z H w Q)
theorem am.mono{f:FuncId}{args:List Value}{H:Heap}{M M':List Nat}{Q Q':Value->Heap->Prop}(h:am P f args H M Q)(hM:∀id∈M,id<H.length->id∈M')(hQ:∀v H',Q v H'->Q' v H'):am P f args H M' Q' :=
 ⟨h.1,fun B Z w args' hr ha=>(h.2 B Z w args' hr ha).mono fun e w' ⟨v,v',ρ',H',h1,h2,h3,h4⟩=>⟨v,v',ρ',H',h1,h2,h3.weaken (Nat.le_refl _) hM,hQ _ _ h4⟩⟩
theorem am.post{f:FuncId}{args:List Value}{H:Heap}{M:List Nat}{Q Q':Value->Heap->Prop}(h:am P f args H M Q)(hQ:∀v H',Q v H'->Q' v H'):am P f args H M Q':=h.mono (fun _ h _=>h) hQ
def Hands(P:Program)(r:Result Next)(R:Ending->World->Prop):Prop :=
 match r with
 | .ok (.enter f args) w'=>CallsIn Fence.wide 0 P f args w' R
 | .ok (.round l f tmps assign body) w'=>RoundIn Fence.wide 0 P l f tmps assign body w' R
 |_=>False
def gS(P:Program)(fv:Value)(args:List Value)(H:Heap)(M:List Nat)(Q:Value->Heap->Prop):Prop :=
 ∀(B:Nat) (Z:Ren) (w:World) (fv':Value) (args':Array Value),Rel P B Z H w->VR Z fv fv'->VRl Z args args'.toList ->
  Hands P ((do let d<-Deferred.ofValue fv' args';invoke d.target d.args:Sem Next).run P w) (CQ P B H.length M Z H w Q)
theorem gS.func{f:FuncId}{first cap:Array Value}{args:List Value}{H:Heap}{M:List Nat}{Q:Value->Heap->Prop}(h:am P f (first.toList++args++cap.toList) H M Q) :
  gS P (.func (.func f) first cap) args H M Q:=by
 intro B Z w fv' args' hr hf ha
 cases hf with
 | @func _ _ first' _ cap' g1 g2 g3 g4 =>
  have hrun:((do let d<-Deferred.ofValue (.func (.func f) first' cap') args';invoke d.target d.args:Sem Next)).run P w = .ok (.enter f (first'++args'++cap')) w:=by
   simp only[Deferred.ofValue,invoke]
   exact h.1 _ w
  rw[hrun]
  refine h.2 B Z w _ hr ?_
  rw[Array.toList_append,Array.toList_append]
  have l1:VRl Z first.toList first'.toList:=⟨by simpa using g1,fun i a b x y=>g2 i a b (by simpa using x) (by simpa using y)⟩
  have l2:VRl Z cap.toList cap'.toList:=⟨by simpa using g3,fun i a b x y=>g4 i a b (by simpa using x) (by simpa using y)⟩
  exact VRl.append (VRl.append l1 ha) l2
theorem gS.mono{fv:Value}{args:List Value}{H:Heap}{M M':List Nat}{Q Q':Value->Heap->Prop}(h:gS P fv args H M Q)(hM:∀id∈M,id<H.length->id∈M')(hQ:∀v H',Q v H'->Q' v H'):gS P fv args H M' Q':=by
 intro B Z w fv' args' hr hf ha
 have:=h B Z w fv' args' hr hf ha
 unfold Hands at *
 have key:∀e w',CQ P B H.length M Z H w Q e w'->CQ P B H.length M' Z H w Q' e w':=fun e w' ⟨v,v',ρ',H',h1,h2,h3,h4⟩=>⟨v,v',ρ',H',h1,h2,h3.weaken (Nat.le_refl _) hM,hQ _ _ h4⟩
 split at this
 ·exact CallsIn.mono this key
 ·exact RoundIn.mono this key
 ·exact this.elim
def cB(o:Oper)(ops:Array Oper)(T:Tm):Bool :=
 match o.guard with
 |none=>true
 |some (g,want) =>
  match (ops[g]?).bind (·.dst) with
  |some d=>(match T d with| .bool b=>b == want|_=>false)
  |none=>false
def gv(o:Oper)(ops:Array Oper)(T:Tm):Bool :=
 match o.guard with
 |none=>true
 |some (g,_) =>
  match (ops[g]?).bind (·.dst) with
  |some d=>(match T d with| .chan _=>false|_=>true)
  |none=>true
def kM(P:Program)(base:Nat)(M:List Nat)(o:Op)(e:Operand->Value)(H:Heap)(K:Value->Heap->Prop):Prop :=
 match o with
 | .range t x => ∃m es kt el,P.underlying t=some (.map kt el)/\e x = .map (some m)/\H[m]?=some (.map es)/\K (.pointer (some ⟨H.length,0,none⟩)) (H ++ [.iter m es.length []])
 | .next it s=>s=false/\∃id m n seen es,e it = .pointer (some ⟨id,0,none⟩)/\H[id]?=some (.iter m n seen)/\H[m]?=some (.map es)/\es.length=n/\(id<base->id∈M) /\
   (∀i,i<n->i ∉ seen->K (.tuple #[.bool true,.chan none,.chan none]) (H.set id (.iter m n (seen ++ [i]))))/\((∀i,i<n->i∈seen)->K (.tuple #[.bool false]) H)
 | .entry it => ∃id m n seen es v,e it = .pointer (some ⟨id,0,none⟩)/\H[id]?=some (.iter m n seen)/\H[m]?=some (.map es)/\es.length=n/\tK es seen=some v/\K v H
 |_=>False
def vk(P:Program)(base:Nat)(M:List Nat)(o:Oper)(e:Operand->Value)(H:Heap)(K:Value->Heap->Prop):Prop :=
 match d6 o.op with
 | .pure => ∃v rd,dq P o.op e H=some (v,rd)/\K v H
 | .alloc => ∃v ob,hX P o.op e H.length=some (v,ob)/\K v (H ++ [ob])
 | .write => ∃v H' wr,d7 P o.op e H=some (v,H',wr)/\(∀id∈wr,id<base->id∈M)/\K v H'
 | .call=>match o.op with
  | .call ⟨.value f,args,_⟩ => ∃Mc,gS P (e f) (args.toList.map e) H Mc K/\(∀id∈Mc,id<base->id∈M)
  |_=>False
 | .iter=>kM P base M o.op e H K
 | .bad=>False
def bO(P:Program)(base:Nat)(M:List Nat)(T:Tm)(H:Heap)(T2:Tm)(H2:Heap):Prop :=
 ∀(B:Nat) (Z:Ren) (w:World) (N:Nat) (tmps:Array Value),Rel P B Z H w->base<=H.length->TR Z N T tmps->∃ρ',Post P B base M Z H w ρ' H2 w/\TR ρ' N T2 tmps
theorem bO.refl{base:Nat}{M:List Nat}{T:Tm}{H:Heap}:bO P base M T H T H:=fun B Z w N tmps hr _ hT=>⟨Z,Post.refl hr,hT⟩
theorem bO.trans{base:Nat}{M:List Nat}{T T1 T2:Tm}{H H1 H2:Heap}(h:bO P base M T H T1 H1)(k:bO P base M T1 H1 T2 H2):bO P base M T H T2 H2:=by
 intro B Z w N tmps hr hb hT
 obtain ⟨ρ1,p1,t1⟩:=h B Z w N tmps hr hb hT
 obtain ⟨ρ2,p2,t2⟩:=k B ρ1 w N tmps p1.rel (Nat.le_trans hb p1.len) t1
 exact ⟨ρ2,p1.trans p2,t2⟩
def tY(P:Program)(base:Nat)(M:List Nat)(ops:Array Oper):List Oper->Tm->Heap->(Tm->Heap->Prop)->Prop
 | [],T,H,Q=>Q T H
 |o :: os,T,H,Q => ∃T2 H2,bO P base M T H T2 H2 /\
  gv o ops T2=true/\if cB o ops T2 then vk P base M o (ev T2) H2 (fun v H'=>tY P base M ops os (put T2 o.dst v) H' Q)
  else tY P base M ops os (put T2 o.dst undef) H2 Q
def jo(N G:Nat)(o:Oper):Bool :=
 (match o.dst with|some d=>decide (d<N)|none=>true) &&
 o.op.operands.toList.all (fun x=>match x with| .tmp t=>decide (t<N)| .const v=>gd v| .global g=>decide (g<G)| .func _=>true) &&
 (match o.op with| .defer _=>false|_=>true)&&(match o.guard with|none=>true|some _=>true)
theorem BH{B N:Nat}{Z:Ren}{H:Heap}{w:World}{T:Tm}{a:Act}(hr:Rel P B Z H w)(hT:TR Z N T a.tmps){o:Oper}(ho:jo N P.globals.size o=true) :
  ∀x∈o.op.operands,VR Z (ev T x) (a.eval x):=by
 intro x hx
 simp only[jo,Bool.and_eq_true,List.all_eq_true]at ho
 have:=ho.1.1.2 x (by simpa using hx)
 cases x with
 |tmp t=>exact hT.2 t (by simpa using this)
 |const v=>exact (fS (by simpa using this):VR Z v v)
 |global g =>
  obtain ⟨r,h1,h2,h3⟩:=hr.dR g (by simpa using this)
  have:=VR.ptr (o:=0) h1
  rw[h2,h3]at this
  exact this
 |func f=>exact .func rfl (by intro i v v' h;simp at h) rfl (by intro i v v' h;simp at h)
theorem sU{N:Nat}{Z:Ren}{T:Tm}{a:Act}(hT:TR Z N T a.tmps){ops:Array Oper}(hops:∀o∈ops,∀d,o.dst=some d->d<N)(o:Oper)(hkn:gv o ops T=true):Region.wanted o (yielded ops a.tmps)=cB o ops T:=by
 unfold gv at hkn
 unfold Region.wanted cB yielded
 cases hg:o.guard with
 |none=>rfl
 |some gw =>
  obtain ⟨g,want⟩:=gw
  simp only
  cases hd:(ops[g]?).bind (·.dst) with
  |none=>rfl
  |some d =>
   obtain ⟨og,h1,h2⟩:=Option.bind_eq_some_iff.1 hd
   have hlt:d<N:=hops og (Array.mem_of_getElem? h1) d h2
   have hlt':d<a.tmps.size:=by rw[hT.1];exact hlt
   have hv:=hT.2 d hlt
   have hge:a.tmps.getD d undef=a.tmps[d]:=by simp[Array.getD,hlt']
   rw[hge]at hv
   simp only[Option.bind_some,Array.getElem?_eq_getElem hlt']
   generalize a.tmps[d]=q at hv
   simp only[hg,hd]at hkn
   generalize T d=p at hv hkn
   cases hv <;> first
    |rfl
    |(rename_i b;cases b <;> cases want <;> rfl)
    |(cases hkn)
def Fw(ro:Option Nat):Fence:={ Fence.wide with round:=ro }
theorem jC{ro:Option Nat}{e:Operand->Value}{o:Oper}{N G:Nat}(ho:jo N G o=true):o.semAt ro e=execOp e o:=by
 refine Oper.semAt_eq ro e o (fun c hc =>?_)
 simp only[jo,Bool.and_eq_true]at ho
 rw[hc]at ho
 simp at ho
theorem ed{N G:Nat}{o:Oper}(ho:jo N G o=true):∀d,o.dst=some d->d<N:=by
 intro d hd
 simp only[jo,Bool.and_eq_true]at ho
 have:=ho.1.1.1
 rw[hd]at this
 simpa using this
theorem kM.mono{base:Nat}{M:List Nat}{o:Op}{e:Operand->Value}{H:Heap}{K K':Value->Heap->Prop}(h:kM P base M o e H K)(hq:∀v H',K v H'->K' v H'):kM P base M o e H K':=by
 unfold kM at h ⊢
 split at h
 ·obtain ⟨m,es,kt,el,h1,h2,h3,h4⟩:=h;exact ⟨m,es,kt,el,h1,h2,h3,hq _ _ h4⟩
 ·obtain ⟨h0,id,m,n,seen,es,h1,h2,h3,h4,h5,h6,h7⟩:=h;exact ⟨h0,id,m,n,seen,es,h1,h2,h3,h4,h5,fun i a b=>hq _ _ (h6 i a b),fun a=>hq _ _ (h7 a)⟩
 ·obtain ⟨id,m,n,seen,es,v,h1,h2,h3,h4,h5,h6⟩:=h;exact ⟨id,m,n,seen,es,v,h1,h2,h3,h4,h5,hq _ _ h6⟩
 ·exact h.elim
theorem vV{B base:Nat}{M:List Nat}{o:Oper}{e e':Operand->Value}{H:Heap}{K:Value->Heap->Prop}{Z:Ren}{w:World}(hk:kM P base M o.op e H K)(he:∀x∈o.op.operands,VR Z (e x) (e' x))(hr:Rel P B Z H w)(hb:base<=H.length) :
  ∃v v' w' ρ' H',(execOp e' o).run P w = .ok (.value v') w'/\VR ρ' v v'/\Post P B base M Z H w ρ' H' w'/\K v H':=by
 obtain ⟨dst,op,ty,pos,after,guard⟩:=o
 simp only at hk he ⊢
 unfold kM at hk
 split at hk
 ·rename_i t x
  obtain ⟨m,es,kt,el,h1,h2,h3,h4⟩:=hk
  have hx:=he x (by simp[Op.operands])
  rw[h2]at hx
  generalize hq:e' x=q at hx
  cases hx with
  | @map _ r hm =>
   obtain ⟨_,es',hbm,⟨hlen,_⟩,_⟩:=hr.obj m r _ hm h3
   have hno:Z H.length=none:=by
    cases hq:Z H.length with
    |none=>rfl
    |some r=>exact absurd (hr.dom _ _ hq) (Nat.lt_irrefl _)
   have hml:m≠H.length:=fun c=>by subst c;rw[hno]at hm;cases hm
   refine ⟨_,_,_,_,_,by simp only[execOp,hq,Sem.run_bind,pI h1 hbm,Result.andThen_ok,Sem.run_pure];rfl,?_,Post.alloc (ri:=⟨w.heap.size,0,0,0,true⟩) hr rfl hb ?_,h4⟩
   ·exact .ptr (Z:=Z.set H.length ⟨w.heap.size,0,0,0,true⟩) (o:=0) (Ren.aQ _ _ _)
   ·refine ⟨rfl,rfl,r,by rw[Ren.aP hml];exact hm,?_⟩
    rw[hlen]
    exact World.alloc_heap_new w _
 ·rename_i it s
  obtain ⟨rfl,id,m,n,seen,es,h1,h2,h3,h4,h5,h6,h7⟩:=hk
  have hx:=he it (by simp[Op.operands])
  rw[h1]at hx
  generalize hq:e' it=q at hx
  cases hx with
  | @ptr _ _ r hρ =>
   obtain ⟨hown,hs,rm,hm,hbi⟩:=hr.obj id r _ hρ h2
   obtain ⟨_,es',hbm,⟨hlen,hborn⟩,_⟩:=hr.obj m rm _ hm h3
   have hn:n=es'.size:=by omega
   subst hn
   rw[hs]at hq
   rcases qV (P:=P) (ty:=ty) hbm hbi hborn with ⟨g1,g2⟩|⟨i,e1,w1,g1,g2,g3,g4,g5⟩
   ·exact ⟨_,_,_,Z,_,by simp only[execOp,hq,Nat.zero_add,Sem.run_bind,g2,Result.andThen_ok,Sem.run_pure],.tuple rfl (fun i v v' a b=>by rw[a]at b;cases b;cases i with|zero=>cases a;exact .bool _|succ i=>simp at a),Post.refl hr,h7 (fun i hi=>by have:=g1 i hi;simpa using this)⟩
   ·have hnx:=h6 i g2 (by simpa using g3)
    have hp1:Post P B base M Z H w Z H w1:=by
     rcases g1 with e|e
     ·rw[e];exact Post.refl hr
     ·rw[e];exact Post.drew hr
    have hb1:w1.heap[r.b]?=some (.mapIter (some rm.b) es'.size ⟨seen⟩ es'.size):=by rcases g1 with e|e <;> (rw[e];exact hbi)
    have hp2:Post P B base M Z H w1 Z (H.set id (.iter m es'.size (seen ++ [i]))) (w1.putObj r.b (.mapIter (some rm.b) es'.size ((⟨seen⟩:Array Nat).push i) es'.size)) :=
     Post.put hp1.rel hρ h2 rfl (by rw[hb1];rfl) ⟨hown,hs,rm,hm,by rw[show (⟨seen ++ [i]⟩:Array Nat)=(⟨seen⟩:Array Nat).push i from Array.toList_inj.1 (by simp)];exact cM hb1⟩ (fun hlt=>h5 hlt)
    refine ⟨_,_,_,Z,_,by simp only[execOp,hq,Nat.zero_add,Sem.run_bind,g5,Result.andThen_ok,Sem.run_pure];rfl,?_,hp1.trans hp2,hnx⟩
    refine .tuple rfl (fun i v v' a b =>?_)
    match i with
    |0=>cases a;cases b;exact .bool _
    |1=>cases a;exact .junk _
    |2=>cases a;exact .junk _
    |i+3=>simp at a
 ·rename_i it
  obtain ⟨id,m,n,seen,es,v,h1,h2,h3,h4,h5,h6⟩:=hk
  have hx:=he it (by simp[Op.operands])
  rw[h1]at hx
  generalize hq:e' it=q at hx
  cases hx with
  | @ptr _ _ r hρ =>
   obtain ⟨hown,hs,rm,hm,hbi⟩:=hr.obj id r _ hρ h2
   obtain ⟨_,es',hbm,⟨hlen,hborn⟩,hes⟩:=hr.obj m rm _ hm h3
   have hn:n=es'.size:=by omega
   subst hn
   rw[hs]at hq
   unfold tK at h5
   obtain ⟨i,hi,h5⟩:=Option.bind_eq_some_iff.1 h5
   obtain ⟨⟨k,x⟩,hkx,rfl⟩:=bo h5
   obtain ⟨e1,a1,a2,a3⟩:=hes i k x hkx
   have hrun:=pK (P:=P) hbm hbi hborn (i:=i) (e:=e1) (by rw[<- Array.getLast?_toList];exact hi) a1
   refine ⟨_,_,_,Z,_,by simp only[execOp,hq,Nat.zero_add,Sem.run_bind,hrun,Result.andThen_ok,Sem.run_pure];rfl,?_,Post.refl hr,h6⟩
   exact (let q:VRl Z [k,x] [e1.key,e1.val]:=VRl.cons a2 (VRl.cons a3 (VRl.nil Z)); .tuple q.1 (fun i a b x y=>q.2 i a b (by simpa using x) (by simpa using y)))
 ·exact hk.elim
theorem rD{B base N:Nat}{M:List Nat}{ro:Option Nat}{o:Oper}{T:Tm}{H:Heap}{K:Value->Heap->Prop}(hk:vk P base M o (ev T) H K){Z:Ren}{w:World}{a:Act}(hr:Rel P B Z H w)(hb:base<=H.length)
  (hT:TR Z N T a.tmps) (ho:jo N P.globals.size o=true) {next:Act->World->Prop} {Q:Exit->Act->World->Prop}
  (hnext:∀v v' ρ' H' w',VR ρ' v v'->Post P B base M Z H w ρ' H' w'->K v H'->next (a.put o.dst v') w'):o.wpIn (Fw ro) 0 P a w next Q:=by
 have he:=BH hr hT ho
 refine ⟨fun _ _=>trivial,?_⟩
 show o.uponIn (Fw ro) 0 P a next Q ((o.semAt ro a.eval).run P w)
 rw[jC ho]
 unfold vk at hk
 split at hk
 ·obtain ⟨v,rd,h1,h2⟩:=hk
  obtain ⟨v',h3,h4⟩:=oY (w:=w) h1 he (fun id _=>kS hr id) (fun b m hb=>(hr.mem b m hb).1)
  rw[h3]
  exact hnext v v' Z H w h4 (Post.refl hr) h2
 ·obtain ⟨v,ob,h1,h2⟩:=hk
  have hno:Z H.length=none:=by
   cases hq:Z H.length with
   |none=>rfl
   |some r=>exact absurd (hr.dom _ _ hq) (Nat.lt_irrefl _)
  obtain ⟨v',obj,ri,h3,h4,h5,h6⟩:=ny h1 he hno w
  rw[h3]
  exact hnext v v' _ _ _ h5 (Post.alloc hr h4 hb h6) h2
 ·obtain ⟨v,H',wr,h1,h2,h3⟩:=hk
  obtain ⟨v',w',ρ',h4,h5,h6⟩:=nb h1 he hr h2 hb
  rcases h4 with h4|⟨h4,h7⟩
  ·rw[h4];exact hnext v v' ρ' H' w' h5 h6 h3
  ·rw[h4];rw[h7]at h5;exact hnext v undef ρ' H' w' h5 h6 h3
 ·split at hk
  ·rename_i f args tys hop
   obtain ⟨Mc,h1,h2⟩:=hk
   have hrun:execOp a.eval o=(do let d<-Deferred.ofValue (a.eval f) (args.map a.eval);invoke d.target d.args:Sem Next):=by
    obtain ⟨dst,op,ty,pos,after,guard⟩:=o
    simp only at hop
    subst hop
    rfl
   have hop2:∀x,x∈(#[f]++args)->x∈o.op.operands:=by
    intro x hx
    obtain ⟨dst,op,ty,pos,after,guard⟩:=o
    simp only at hop
    subst hop
    simpa[Op.operands,Call.operands] using hx
   have:=h1 B Z w (a.eval f) (args.map a.eval) hr (he f (hop2 f (by simp))) (by
    rw[Array.toList_map]
    exact mi (fun x hx=>he x (hop2 x (by simp[Array.mem_toList_iff.1 hx]))))
   rw[hrun]
   generalize ((do let d<-Deferred.ofValue (a.eval f) (args.map a.eval);invoke d.target d.args:Sem Next)).run P w=r at this
   unfold Hands at this
   split at this
   ·rename_i g xs w1
    refine ⟨fun h=>by simp[Fw,Fence.wide]at h,?_⟩
    show CallsIn (Fw ro) 0 P g xs w1 _
    refine CallsIn.mono (F:=Fw ro) this ?_
    rintro e w' ⟨v,v',ρ',H',rfl,g2,g3,g4⟩
    exact hnext v v' ρ' H' w' g2 (g3.weaken hb (fun id hid hlt=>h2 id hid hlt)) g4
   ·rename_i l g tm asg bd w1
    refine ⟨fun h=>by simp[Fw,Fence.wide]at h,?_⟩
    show RoundIn (Fw ro) 0 P l g tm asg bd w1 _
    refine RoundIn.mono (F:=Fw ro) this ?_
    rintro e w' ⟨v,v',ρ',H',rfl,g2,g3,g4⟩
    exact hnext v v' ρ' H' w' g2 (g3.weaken hb (fun id hid hlt=>h2 id hid hlt)) g4
   ·exact this.elim
  ·exact hk.elim
 ·obtain ⟨v,v',w',ρ',H',h1,h2,h3,h4⟩:=vV hk he hr hb
  rw[h1]
  exact hnext v v' ρ' H' w' h2 h3 h4
 ·exact hk.elim
theorem tl{B base N:Nat}{M:List Nat}{ro:Option Nat}{ops:Array Oper}(hops:∀o∈ops,jo N P.globals.size o=true){Q:Tm->Heap->Prop}{Qr:Exit->Act->World->Prop}{ρ0:Ren}{H0:Heap}{w0:World}{ds:List Deferred}
  (hQ:∀ρ' T' H' w' a',Post P B base M ρ0 H0 w0 ρ' H' w'->TR ρ' N T' a'.tmps->a'.defers=ds->Q T' H'->Qr .normal a' w') :
  ∀(rest:List Oper) (T:Tm) (H:Heap) (Z:Ren) (w:World) (a:Act),(∀o∈rest,o∈ops)->Post P B base M ρ0 H0 w0 Z H w->base<=H.length->TR Z N T a.tmps->a.defers=ds->tY P base M ops rest T H Q ->
   wpListIn (Fw ro) 0 P ops Qr rest a w:=by
 intro rest
 induction rest with
 |nil=>intro T H Z w a _ hp hb hT hd hk;exact hQ Z T H w a hp hT hd hk
 |cons o os ih =>
  intro T H Z w a hin hp hb hT hd hk
  have ho:=hops o (hin o (List.mem_cons_self ..))
  simp only[tY]at hk
  obtain ⟨T2,H2,hg,hkn,hk⟩:=hk
  obtain ⟨ρ2,p2,hT2⟩:=hg _ Z w N a.tmps hp.rel hb hT
  replace hp:=hp.trans p2
  replace hb:=Nat.le_trans hb p2.len
  clear hT hg p2
  have hT:=hT2
  have hw:=sU hT (fun o h d hd=>ed (hops o h) d hd) o hkn
  unfold wpListIn
  rw[hw]
  split at hk
  ·rename_i hwt
   rw[if_pos hwt]
   refine rD hk hp.rel hb hT ho ?_
   intro v v' ρ' H' w' hv hpost hK
   refine ih _ H' ρ' w' _ (fun o h=>hin o (List.mem_cons_of_mem _ h)) (hp.trans hpost) (Nat.le_trans hb hpost.len) (TR.put (hT.mono hpost.ext) (ed ho) hv) ?_ hK
   cases o.dst <;> exact hd
  ·rename_i hwt
   rw[if_neg hwt]
   refine ⟨fun _ _=>trivial,ih _ H2 ρ2 w _ (fun o h=>hin o (List.mem_cons_of_mem _ h)) hp hb (TR.put hT (ed ho) (VR.undef ρ2)) ?_ hk⟩
   cases o.dst <;> exact hd
def KW(P:Program)(ro:Option Nat)(N base:Nat)(M:List Nat)(c:Code)(T:Tm)(H:Heap)(Q:Exit->Tm->Heap->Prop):Prop :=
 ∀(B:Nat) (Z:Ren) (w:World) (a:Act) (n0:Nat),Rel P B Z H w->base<=H.length->TR Z N T a.tmps->n0<=w.heap.size->DOK n0 a.defers w ->
  c.wpIn (Fw ro) 0 P (fun e a' w' => ∃ρ' T' H',Post P B base M Z H w ρ' H' w'/\TR ρ' N T' a'.tmps/\DOK n0 a'.defers w'/\Q e T' H') a w
def j0(K:Tm->Heap->Prop)(Q:Exit->Tm->Heap->Prop):Exit->Tm->Heap->Prop
 | .normal,T,H=>K T H
 |e,T,H=>Q e T H
def nA(id:Nat)(Q:Exit->Tm->Heap->Prop):Exit->Tm->Heap->Prop
 | .exit id',T,H=>if id'=id then Q .normal T H else Q (.exit id') T H
 |e,T,H=>Q e T H
section rules
variable {ro:Option Nat} {N base:Nat} {M:List Nat} {T:Tm} {H:Heap} {Q:Exit->Tm->Heap->Prop}
theorem KW.mono{c:Code}{Q':Exit->Tm->Heap->Prop}(h:KW P ro N base M c T H Q)(hq:∀e T' H',Q e T' H'->Q' e T' H'):KW P ro N base M c T H Q' :=
 fun B Z w a n0 h1 h2 h3 h4 h5=>wpIn_mono (h B Z w a n0 h1 h2 h3 h4 h5) fun e a' w' ⟨ρ',T',H',g1,g2,g3,g4⟩=>⟨ρ',T',H',g1,g2,g3,hq _ _ _ g4⟩
theorem KW.ghost{c:Code}{T2:Tm}{H2:Heap}(hg:bO P base M T H T2 H2)(h:KW P ro N base M c T2 H2 Q):KW P ro N base M c T H Q:=by
 intro B Z w a n0 h1 h2 h3 h4 h5
 obtain ⟨ρ1,p,t⟩:=hg B Z w N a.tmps h1 h2 h3
 refine wpIn_mono (h B ρ1 w a n0 p.rel (Nat.le_trans h2 p.len) t h4 h5) ?_
 rintro e a' w' ⟨ρ',T',H',g1,g2,g3,g4⟩
 exact ⟨ρ',T',H',p.trans g1,g2,g3,g4⟩
theorem KW.skip(h:Q .normal T H):KW P ro N base M .skip T H Q:=fun B Z w a n0 h1 h2 h3 h4 h5=>wpIn_skip ⟨Z,T,H,Post.refl h1,h3,h5,h⟩
theorem KW.label{l:Nat}(h:Q .normal T H):KW P ro N base M (.label l) T H Q:=fun B Z w a n0 h1 h2 h3 h4 h5=>wpIn_label ⟨Z,T,H,Post.refl h1,h3,h5,h⟩
theorem KW.ret(h:Q .ret T H):KW P ro N base M .ret T H Q:=fun B Z w a n0 h1 h2 h3 h4 h5=>wpIn_ret ⟨Z,T,H,Post.refl h1,h3,h5,h⟩
theorem KW.exit{id:Nat}(h:Q (.exit id) T H):KW P ro N base M (.exit id) T H Q:=fun B Z w a n0 h1 h2 h3 h4 h5=>wpIn_exit ⟨Z,T,H,Post.refl h1,h3,h5,h⟩
theorem KW.seq{x y:Code}(h:KW P ro N base M x T H (j0 (fun T' H'=>KW P ro N base M y T' H' Q) Q)):KW P ro N base M (.seq x y) T H Q:=by
 intro B Z w a n0 h1 h2 h3 h4 h5
 refine wpIn_seq (wpIn_mono (h B Z w a n0 h1 h2 h3 h4 h5) ?_)
 rintro e a' w' ⟨ρ',T',H',g1,g2,g3,g4⟩
 cases e with
 |normal =>
  refine wpIn_mono (g4 B ρ' w' a' n0 g1.rel (Nat.le_trans h2 g1.len) g2 (Nat.le_trans h4 g1.size) g3) ?_
  rintro e a2 w2 ⟨ρ2,T2,H2,k1,k2,k3,k4⟩
  exact ⟨ρ2,T2,H2,g1.trans k1,k2,k3,k4⟩
 |_=>exact ⟨ρ',T',H',g1,g2,g3,g4⟩
theorem KW.block{id:Nat}{c:Code}(h:KW P ro N base M c T H (nA id Q)):KW P ro N base M (.block id c) T H Q:=by
 intro B Z w a n0 h1 h2 h3 h4 h5
 refine wpIn_block (wpIn_mono (h B Z w a n0 h1 h2 h3 h4 h5) ?_)
 rintro e a' w' ⟨ρ',T',H',g1,g2,g3,g4⟩
 cases e with
 |exit id' =>
  simp only[nA]at g4
  simp only[Exit.inBlock]
  split at g4
  ·rename_i hid;rw[if_pos hid];exact ⟨ρ',T',H',g1,g2,g3,g4⟩
  ·rename_i hid;rw[if_neg hid];exact ⟨ρ',T',H',g1,g2,g3,g4⟩
 |_=>exact ⟨ρ',T',H',g1,g2,g3,g4⟩
theorem eo{b:Frame}{a:Act}{k:List Item}{cs:List Frame}{w:World}{c:Code}:step P (lone (b.atR a (.code (.scope c) :: k)) cs w) = .next (lone (b.atR a (.code c :: .inScope c :: k)) cs w) :=
 step_lone_go (by simp[stepG,stepG.exec,Frame.atR])
theorem od{b:Frame}{a:Act}{k:List Item}{cs:List Frame}{w:World}{c:Code}:step P (lone (b.atR a (.inScope c :: k)) cs w) = .next (lone (b.atR a k) cs w) :=
 step_lone_go (by simp[stepG,stepG.exec,Frame.atR])
def zn(Q:Exit->Act->World->Prop):Exit->Act->World->Prop
 | .goto _,_,_=>False
 |e,a,w=>Q e a w
theorem sT{F:Fence}{n:Nat}{Q:Exit->Act->World->Prop}{a:Act}{w:World}{c:Code}(h:c.wpIn F n P (zn Q) a w):(Code.scope c).wpIn F n P Q a w:=by
 intro b k cs hro hb hr
 have h0:(lone (b.atR a (.code (.scope c) :: k)) cs w).fenced P F:=fenced_calm hb hr rfl
 obtain ⟨e,a₁,w₁,hq,harr⟩:=h b (.inScope c :: k) cs hro hb hr
 cases e with
 |normal=>exact ⟨.normal,a₁,w₁,hq,.head h0 eo (StepsIn.trans harr (.one (fenced_calm hb hr rfl) od))⟩
 |exit id' =>
  have hx:exitTo id' (.inScope c :: k)=exitTo id' k:=by simp[exitTo]
  exact ⟨.exit id',a₁,w₁,hq,fun k' hk => .head h0 eo (harr.1 k' (by rw[hx];exact hk)),
   fun hr' hk=>let ⟨k₁,h1,h2⟩:=harr.2 hr' (by rw[hx];exact hk); ⟨k₁,h1,.head h0 eo h2⟩⟩
 |goto l=>exact hq.elim
 |ret=>exact ⟨_,a₁,w₁,hq,.of_steps (.one h0 eo) harr⟩
 |panic ch=>exact ⟨_,a₁,w₁,hq,.of_steps (.one h0 eo) harr⟩
 |outgrown=>exact ⟨_,a₁,w₁,hq,.of_steps (.one h0 eo) harr⟩
def zo(Q:Exit->Tm->Heap->Prop):Exit->Tm->Heap->Prop
 | .goto _,_,_=>False
 |e,T,H=>Q e T H
theorem KW.scope{c:Code}(h:KW P ro N base M c T H (zo Q)):KW P ro N base M (.scope c) T H Q:=by
 intro B Z w a n0 h1 h2 h3 h4 h5
 refine sT (wpIn_mono (h B Z w a n0 h1 h2 h3 h4 h5) ?_)
 rintro e a' w' ⟨ρ',T',H',g1,g2,g3,g4⟩
 cases e with
 |goto l=>exact g4.elim
 |_=>exact ⟨ρ',T',H',g1,g2,g3,g4⟩
theorem KW.cond{t:Nat}{x y:Code}{b:Bool}(ht:t<N)(hc:T t = .bool b)(h:KW P ro N base M (if b then x else y) T H Q):KW P ro N base M (.cond (.tmp t) x y) T H Q:=by
 intro B Z w a n0 h1 h2 h3 h4 h5
 refine wpIn_cond (t:=b) ?_ (h B Z w a n0 h1 h2 h3 h4 h5)
 have:=h3.2 t ht
 rw[hc]at this
 show a.tmps.getD t undef=_
 generalize a.tmps.getD t undef=q at this
 cases this;rfl
theorem KW.tM{t:Nat}{x y:Code}{b:Bool}(ht:t<N)(hc:T t = .bool b)(h1:b=true->KW P ro N base M x T H Q)(h2:b=false->KW P ro N base M y T H Q):KW P ro N base M (.cond (.tmp t) x y) T H Q:=by
 refine KW.cond ht hc ?_
 cases b
 ·exact h2 rfl
 ·exact h1 rfl
theorem KW.loop{c:Code}(I:Nat->Tm->Heap->Prop)(n:Nat)(h0:I n T H)
  (round:∀n T' H',H.length<=H'.length->I n T' H'->KW P ro N base M c T' H' (j0 (fun T2 H2 => ∃k,k<n/\I k T2 H2) Q)):KW P ro N base M (.loop c) T H Q:=by
 intro B Z w a n0 h1 h2 h3 h4 h5
 have key:∀(m:Nat) (n:Nat) (ρ':Ren) (T':Tm) (H':Heap) (w':World) (a':Act),n<m->Post P B base M Z H w ρ' H' w'->TR ρ' N T' a'.tmps->DOK n0 a'.defers w'->I n T' H' ->
   Code.roundsIn (Fw ro) 0 P c (fun e a' w' => ∃ρ' T' H',Post P B base M Z H w ρ' H' w'/\TR ρ' N T' a'.tmps/\DOK n0 a'.defers w'/\Q e T' H') m a' w':=by
  intro m
  induction m with
  |zero=>intro n _ _ _ _ _ hlt;omega
  |succ m ih =>
   intro n ρ' T' H' w' a' hlt hp hT hD hI
   rw[roundsIn_succ]
   refine wpIn_mono (round n T' H' hp.len hI B ρ' w' a' n0 hp.rel (Nat.le_trans h2 hp.len) hT (Nat.le_trans h4 hp.size) hD) ?_
   rintro e a2 w2 ⟨ρ2,T2,H2,k1,k2,k3,k4⟩
   cases e with
   |normal =>
    obtain ⟨k,hk,hI2⟩:=k4
    exact ih k ρ2 T2 H2 w2 a2 (by omega) (hp.trans k1) k2 k3 hI2
   |_=>exact ⟨ρ2,T2,H2,hp.trans k1,k2,k3,k4⟩
 exact wpIn_loop_rounds (n+1) (key (n+1) n Z T H w a (by omega) (Post.refl h1) h3 h5 h0)
theorem KW.region{id:Nat}{l:List Oper}(hok:l.all (jo N P.globals.size)=true)(h:tY P base M l.toArray l T H (fun T' H'=>Q .normal T' H')):KW P ro N base M (.region id l.toArray false) T H Q:=by
 intro B Z w a n0 h1 h2 h3 h4 h5
 refine wpIn_region_lit ?_
 rw[List.all_eq_true]at hok
 refine tl (ds:=a.defers) (fun o ho=>hok o (by simpa using ho)) ?_ l T H Z w a (fun o ho=>by simpa using ho) (Post.refl h1) h2 h3 rfl h
 intro ρ' T' H' w' a' hp hT hd hq
 exact ⟨ρ',T',H',hp,hT,by rw[hd];exact DOK.post h1 h5 hp,hq⟩
end rules
def uJ(args:List Value):Tm:=fun t=>(args[t]?).getD undef
def ko(P:Program)(T:Tm)(H:Heap):ResultVar->Option Value
 | .tmp t=>some (T t)
 | .cell a ty=>(ju P ty (T a) H).map (·.1)
def rE(P:Program)(rs:List ResultVar)(T:Tm)(H:Heap):Option Value :=
 match rs with
 | [r] =>ko P T H r
 |rs=>(rs.mapM (ko P T H)).map fun vs => .tuple ⟨vs⟩
def mN(N:Nat)(rs:List ResultVar):Bool:=rs.all fun r=>match r with| .tmp t=>decide (t<N)| .cell a _=>decide (a<N)
def rv(tmps:Array Value)(r:ResultVar):Sem Value :=
 match r with
 | .tmp t=>pure (tmps.getD t undef)
 | .cell a t=>do loadVar t (<- asAddr (tmps.getD a undef))
theorem s8(fn:Func)(tmps:Array Value):results fn tmps=(do let vs<-List.toArray <$> fn.results.toList.mapM (rv tmps);pure (if h:vs.size=1 then vs[0] else .tuple vs)):=by
 rw[<- Array.mapM_eq_mapM_toList]
 rfl
theorem oX{B N:Nat}{Z:Ren}{H:Heap}{w:World}{T:Tm}{tmps:Array Value}(hr:Rel P B Z H w)(hT:TR Z N T tmps){r:ResultVar}(hk:(match r with| .tmp t=>decide (t<N)| .cell a _=>decide (a<N))=true){v:Value}(h:ko P T H r=some v) :
  ∃v',(rv tmps r).run P w = .ok v' w/\VR Z v v':=by
 cases r with
 |tmp t=>simp only[ko]at h;cases h;exact ⟨_,rfl,hT.2 t (by simpa using hk)⟩
 |cell a ty =>
  simp only[ko]at h
  obtain ⟨⟨x,id⟩,hl,hh⟩:=bo h
  cases hh
  have ha:=hT.2 a (by simpa using hk)
  obtain ⟨v',h1,h2⟩:=oZ hl ha (kS hr _)
  refine ⟨v',?_,h2⟩
  generalize T a=p at ha hl
  show ((do loadVar ty (<- asAddr (tmps.getD a undef))):Sem Value).run P w=_
  generalize tmps.getD a undef=q at ha h1 ⊢
  unfold ju at hl
  split at hl
  ·cases ha
   simpa[Instr.loadAt,Instr.sureAddr,asAddr] using h1
  ·cases ha
   simpa[Instr.loadAt,Instr.sureAddr,asAddr] using h1
  ·simp at hl
theorem xj{B N:Nat}{Z:Ren}{H:Heap}{w:World}{T:Tm}{tmps:Array Value}(hr:Rel P B Z H w)(hT:TR Z N T tmps){fn:Func}(hk:mN N fn.results.toList=true){v:Value}(h:rE P fn.results.toList T H=some v) :
  ∃v',(results fn tmps).run P w = .ok v' w/\VR Z v v':=by
 have many:∀(rs:List ResultVar) (vs:List Value),mN N rs=true->rs.mapM (ko P T H)=some vs ->
   ∃vs',(rs.mapM (rv tmps)).run P w = .ok vs' w/\VRl Z vs vs':=by
  intro rs
  induction rs with
  |nil=>intro vs _ h;simp at h;subst h;exact ⟨[],rfl,.nil Z⟩
  |cons r rs ih =>
   intro vs hk h
   simp only[mN,List.all_cons,Bool.and_eq_true]at hk
   rw[List.mapM_cons]at h
   simp only[Option.bind_eq_bind,Option.bind_eq_some_iff,Option.pure_def,Option.some.injEq]at h
   obtain ⟨v,h1,vs0,h2,rfl⟩:=h
   obtain ⟨v',h3,h4⟩:=oX hr hT hk.1 h1
   obtain ⟨vs',h5,h6⟩:=ih vs0 hk.2 h2
   refine ⟨v' :: vs',?_,.cons h4 h6⟩
   rw[List.mapM_cons]
   simp only[Sem.run_bind,h3,Result.andThen_ok,h5,Sem.run_pure]
 rw[s8]
 unfold rE at h
 split at h
 ·rename_i r hrs
  rw[hrs]at hk ⊢
  obtain ⟨v',h3,h4⟩:=oX hr hT (by simpa[mN] using hk) h
  refine ⟨v',?_,h4⟩
  have:(List.mapM (rv tmps) [r]).run P w = .ok [v'] w:=by
   rw[List.mapM_cons]
   simp only[Sem.run_bind,h3,Result.andThen_ok,List.mapM_nil,Sem.run_pure]
  simp only[Sem.run_bind,Sem.run_map,this,Result.andThen_ok,Sem.run_pure]
  rfl
 ·rename_i hno
  obtain ⟨vs,hvs,rfl⟩:=bo h
  obtain ⟨vs',h1,h2⟩:=many _ vs hk hvs
  refine ⟨.tuple ⟨vs'⟩,?_,.tuple (by simpa using h2.1) (fun i a b x y=>h2.2 i a b (by simpa using x) (by simpa using y))⟩
  simp only[Sem.run_bind,Sem.run_map,h1,Result.andThen_ok,Sem.run_pure]
  have hl:vs.length=fn.results.toList.length:=by
   have:∀(rs:List ResultVar) (vs:List Value),rs.mapM (ko P T H)=some vs->vs.length=rs.length:=by
    intro rs
    induction rs with
    |nil=>intro vs h;simp at h;subst h;rfl
    |cons r rs ih =>
     intro vs h
     rw[List.mapM_cons]at h
     simp only[Option.bind_eq_bind,Option.bind_eq_some_iff,Option.pure_def,Option.some.injEq]at h
     obtain ⟨v,h1,vs0,h2,rfl⟩:=h
     simp[ih vs0 h2]
   exact this _ _ hvs
  have hl2:vs'.length≠1:=by
   rw[<- h2.1,hl]
   intro h1
   obtain ⟨r,hr⟩:=List.length_eq_one_iff.1 h1
   exact hno r hr
  rw[dif_neg (by simpa using hl2)]
theorem Rel.mark{B:Nat}{Z:Ren}{H:Heap}{w:World}(hr:Rel P B Z H w){D:Nat}{x:Option (List Deferred)}(h:w.heap[D]?=some (.deferred x))(y:Obj):Rel P B Z H (w.putObj D y):=by
 refine ⟨by rw[World.putObj];simp;exact hr.bsize,hr.dR,hr.dom,fun id r h1=>by rw[World.putObj];simp;exact hr.lt id r h1,fun id r o h1 h2 =>?_,hr.base,hr.sep,fun b m hm =>?_,?_⟩
 rotate_left 2
 ·refine hr.fam.keep (Ren.le_refl _) (fun _ _ _ h=>h) (fun _ _ _ _ h=>h) (Nat.le_refl _) (by rw[World.putObj];simp) (fun b hb=>World.putObj_heap_other ?_) (fun i x o h1 h2 h3=>hr.fam.free h1 h2 h3) (fun b m h=>hr.fam.eI h)
  rintro rfl
  obtain ⟨F,k,r,z,cs,g,rfl⟩:=hb
  obtain ⟨cs',ty,hb,_⟩:=hr.fam.obj F k r z cs g
  rw[h]at hb;cases hb
 rotate_left
 ·obtain ⟨⟨ty,fz,e⟩,k⟩:=hr.mem b m hm
  have hne:b≠D:=by rintro rfl;rw[h]at e;cases e
  exact ⟨⟨ty,fz,(World.putObj_heap_other hne).trans e⟩,k⟩
 have ho:=hr.obj id r o h1 h2
 by_cases e:r.b=D
 ·subst e
  cases o with
  |cells own z cs=>obtain ⟨_,_,cs',ty,fz,hb,_⟩:=ho;rw[h]at hb;cases hb
  |map es=>obtain ⟨_,es',hb,_⟩:=ho;rw[h]at hb;cases hb
  |iter m n s=>obtain ⟨_,_,rm,_,hb⟩:=ho;rw[h]at hb;cases hb
  |loop _ _ _ _ _ _ _=>obtain ⟨_,l,hb,_⟩:=ho;rw[h]at hb;cases hb
  |fam _ _=>trivial
  |dead=>trivial
 ·exact ho.mono (Ren.le_refl _) (World.putObj_heap_other e)
theorem Post.mark{B base:Nat}{M:List Nat}{Z ρ':Ren}{H H':Heap}{w w':World}(p:Post P B base M Z H w ρ' H' w'){D:Nat}{x:Option (List Deferred)}(h:w'.heap[D]?=some (.deferred x))(hD:w.heap.size<=D)(y:Obj):Post P B base M Z H w ρ' H' (w'.putObj D y) :=
 { p with
  rel:=p.rel.mark h y
  size:=by rw[World.putObj];simp;exact p.size
  keep:=fun b h1 h2=>by rw[World.putObj_heap_other (by omega)];exact p.keep b h1 h2 }
theorem pS{B base N:Nat}{M:List Nat}{ρ0 Z:Ren}{H0 H:Heap}{w0:World}{fn:Func}{T:Tm}{tmps:Array Value}{Q:Value->Heap->Prop}(hT:TR Z N T tmps)(hk:mN N fn.results.toList=true){v:Value}(h:rE P fn.results.toList T H=some v)(hq:Q v H) :
  ∀(Ds:List Nat) (w:World),Post P B base M ρ0 H0 w0 Z H w->Ds.Pairwise (· ≠ ·)->(∀D∈Ds,w0.heap.size<=D/\w.heap[D]?=some (.deferred (some []))) ->
   LeavesInM Fence.wide 0 P fn tmps (CQ P B base M ρ0 H0 w0 Q) (Ds.map (fun D=>({ target:=.collected D,args:=#[] }:Deferred))) .returning w:=by
 intro Ds
 induction Ds with
 |nil =>
  intro w hp _ _
  obtain ⟨v',h1,h2⟩:=xj hp.rel hT hk h
  exact ⟨v',h1,v,v',Z,H,rfl,h2,hp,hq⟩
 |cons D Ds ih =>
  intro w hp hd hD
  obtain ⟨hD1,hD2⟩:=hD D (List.mem_cons_self ..)
  rw[List.pairwise_cons]at hd
  refine ⟨by simp,.inl ⟨D,w.putObj D (.deferred none),rfl,run_takeDeferred hD2,ih _ (hp.mark hD2 hD1 _) hd.2 (fun E hE =>?_)⟩⟩
  obtain ⟨g1,g2⟩:=hD E (List.mem_cons_of_mem _ hE)
  exact ⟨g1,by rw[World.putObj_heap_other (Ne.symm (hd.1 E hE))];exact g2⟩
theorem am.enter {f : FuncId} {fn : Func} {c : Code} {args : List Value} {H : Heap} {M : List Nat} {Q : Value -> Heap -> Prop} (hf : P.funcs[f]? = some fn) (hname : (fn.name == "runtime.NumGoroutine") = false) (hb : fn.body = some c)
  (N:Nat) (hN:fn.ntmps=N) (hargs:args.length<=N) (rs:List ResultVar) (hrs:fn.results.toList=rs) (hk:mN N rs=true)
  (h:KW P none N H.length M c (uJ args) H (fun e T' H'=>(e = .normal∨e = .ret)/\∃v,rE P rs T' H'=some v/\Q v H')):am P f args H M Q:=by
 subst hN
 subst hrs
 refine ⟨enters_of hf hname hb,fun B Z w args' hr ha =>?_⟩
 refine callsIn_of_wp_marks hf hb trivial ?_
 have hT:TR Z fn.ntmps (uJ args) (args'++Array.replicate (fn.ntmps-args'.size) undef):=by
  have hl:args'.size=args.length:=by have:=ha.1;simpa using this.symm
  refine ⟨by simp;omega,fun t ht =>?_⟩
  unfold uJ
  rcases Nat.lt_or_ge t args.length with h1|h1
  ·have h2:t<args'.size:=by omega
   have hv:=ha.2 t _ _ (List.getElem?_eq_getElem h1) (List.getElem?_eq_getElem (by simpa using h2))
   have e2:(args'++Array.replicate (fn.ntmps-args'.size) undef).getD t undef=args'[t]:=by
    simp[Array.getElem?_append_left h2,h2]
   rw[e2]
   simpa[List.getElem?_eq_getElem h1] using hv
  ·rw[List.getElem?_eq_none h1]
   have:(args'++Array.replicate (fn.ntmps-args'.size) undef).getD t undef=undef:=by
    have h3:t<(args'++Array.replicate (fn.ntmps-args'.size) undef).size:=by simp;omega
    simp only[Array.getD,h3,dif_pos]
    rw[Array.getInternal_eq_getElem,Array.getElem_append_right (by omega)]
    simp
   rw[this]
   exact VR.undef Z
 refine wpIn_mono (h B Z w { tmps:=args'++Array.replicate (fn.ntmps-args'.size) undef,defers:=[] } w.heap.size hr (Nat.le_refl _) hT (Nat.le_refl _) (DOK.nil _ _)) ?_
 rintro e a' w' ⟨ρ',T',H',hp,hT',⟨Ds,hD1,hD2,hD3⟩,he,v,hv,hq⟩
 have:=pS hT' hk hv hq Ds w' hp hD2 hD3
 rcases he with rfl|rfl
 ·show LeavesInM _ _ _ _ _ _ a'.defers _ _
  rw[hD1];exact this
 ·show LeavesInM _ _ _ _ _ _ a'.defers _ _
  rw[hD1];exact this
def bB(n:Nat):Value->Bool
 | .bool _| .int _ _| .float _ _| .string _| .pointer none| .slice none _ _| .map none| .nilFunc| .nilIface=>true
 | .pointer (some ⟨b,_,none⟩)=>decide (b<n)
 | .slice (some a) _ _=>decide (a.block<n)
 | .map (some r)=>decide (r<n)
 |_=>false
def cV(n:Nat):Value->Bool
 | .iface _ (.agg cs)=>cs.toList.all (bB n)
 | .iface _ (.tuple cs)=>cs.toList.all (bB n)
 |v=>bB n v
def aN(n:Nat):Value->Bool
 | .bool _| .int _ _| .float _ _| .string _| .pointer none| .slice none _ _| .map none| .nilFunc| .nilIface=>true
 | .pointer (some ⟨b,_,none⟩)=>decide (b<n)
 | .slice (some a) _ _=>decide (a.block<n)
 | .map (some r)=>decide (r<n)
 | .iface _ (.agg cs)=>cs.toList.all (cV n)
 | .iface _ (.tuple cs)=>cs.toList.all (cV n)
 |_=>false
def cH(n:Nat):Value->Bool
 | .agg cs=>cs.toList.all (aN n)
 | .tuple vs=>vs.toList.all fun v=>match v with| .agg cs=>cs.toList.all (aN n)|v=>aN n v
 |v=>aN n v
def ar(n:Nat):ab->Bool
 | .cells _ _ cs=>cs.all (aN n)
 | .fam _ cs=>cs.all (aN n)
 | .map es=>es.all fun e=>cH n e.1&&cH n e.2
 | .iter m _ _=>decide (m<n)
 | .dead=>true
 |_=>false
theorem pq{Z ρ':Ren}{n:Nat}(hle:∀id r,id<n->ρ' id=some r->Z id=some r)(hm:∀b m,ρ'.mem b=some m->Z.mem b=some m){v v':Value}(h:bB n v=true)(hv:VR ρ' v v'):VR Z v v':=by
 cases hv with
 |junk=>exact .junk _
 |bool b=>exact .bool b
 |int k n=>exact .int k n
 |float k n=>exact .float k n
 |string s=>exact .string s
 |cO=>exact .cO
 |ptr hr=>exact .ptr (hle _ _ (by simpa[bB] using h) hr)
 |eR hr=>simp[bB]at h
 |bG=>exact .bG
 |slice hr hl hc ho=>exact .slice (hle _ _ (by simpa[bB] using h) hr) hl hc ho
 |bK hr=>exact .bK (hle _ _ (by simpa[bB] using h) hr)
 |cq=>exact .cq
 |ba=>exact .ba
 |bb=>exact .bb
 |bF hr hp hl hc ho=>exact .bF (hle _ _ (by simpa[bB] using h) hr) hp hl hc ho
 |bf=>exact .bf
 |bQ hr hp hl hc ho=>exact .bQ (hle _ _ (by simpa[bB] using h) hr) hp hl hc ho
 |cP=>exact .cP
 |map hr=>exact .map (hle _ _ (by simpa[bB] using h) hr)
 |nilFunc=>exact .nilFunc
 |nilIface=>exact .nilIface
 |func h1 h2 h3 h4=>simp[bB]at h
 |yield hr=>simp[bB]at h
 |agg h1 h2=>simp[bB]at h
 |tuple h1 h2=>simp[bB]at h
 |deep g1 g2 g3 g4 g5=>simp[bB]at h
 |cu=>exact .cu
 |fsl hr=>simp[bB]at h
 |dc=>exact .dc
 |cL g1 g2 g3=>simp[bB]at h
theorem pr{Z ρ':Ren}{n:Nat}(hle:∀id r,id<n->ρ' id=some r->Z id=some r)(hm:∀b m,ρ'.mem b=some m->Z.mem b=some m){v v':Value}(h:cV n v=true)(hv:VR ρ' v v'):VR Z v v':=by
 cases hv with
 |junk=>exact .junk _
 |bool b=>exact .bool b
 |int k n=>exact .int k n
 |float k n=>exact .float k n
 |string s=>exact .string s
 |cO=>exact .cO
 |ptr hr=>exact .ptr (hle _ _ (by simpa[cV,bB] using h) hr)
 |eR hr=>simp[cV,bB]at h
 |bG=>exact .bG
 |slice hr hl hc ho=>exact .slice (hle _ _ (by simpa[cV,bB] using h) hr) hl hc ho
 |bK hr=>exact .bK (hle _ _ (by simpa[cV,bB] using h) hr)
 |cq=>exact .cq
 |ba=>exact .ba
 |bb=>exact .bb
 |bF hr hp hl hc ho=>exact .bF (hle _ _ (by simpa[cV,bB] using h) hr) hp hl hc ho
 |bf=>exact .bf
 |bQ hr hp hl hc ho=>exact .bQ (hle _ _ (by simpa[cV,bB] using h) hr) hp hl hc ho
 |cP=>exact .cP
 |map hr=>exact .map (hle _ _ (by simpa[cV,bB] using h) hr)
 |nilFunc=>exact .nilFunc
 |nilIface=>exact .nilIface
 |func h1 h2 h3 h4=>simp[cV,bB]at h
 |yield hr=>simp[cV,bB]at h
 |agg h1 h2=>simp[cV,bB]at h
 |tuple h1 h2=>simp[cV,bB]at h
 |deep g1 g2 g3 g4 g5 =>
  simp only[cV,List.all_eq_true]at h
  exact .deep (hm _ _ g1) g2 g3 g4 (fun i a b x y=>pq hle hm (h a (by rw[Array.mem_toList_iff];exact Array.mem_of_getElem? x)) (g5 i a b x y))
 |cu=>exact .cu
 |fsl hr=>simp[cV,bB]at h
 |dc=>exact .dc
 |cL g1 g2 g3 =>
  simp only[cV,List.all_eq_true]at h
  exact .cL (hm _ _ g1) g2 (fun i a b x y=>pq hle hm (h a (by rw[Array.mem_toList_iff];exact Array.mem_of_getElem? x)) (g3 i a b x y))
theorem bj{Z ρ':Ren}{n:Nat}(hle:∀id r,id<n->ρ' id=some r->Z id=some r)(hm:∀b m,ρ'.mem b=some m->Z.mem b=some m){v v':Value}(h:aN n v=true)(hv:VR ρ' v v'):VR Z v v':=by
 cases hv with
 |junk=>exact .junk _
 |bool b=>exact .bool b
 |int k n=>exact .int k n
 |float k n=>exact .float k n
 |string s=>exact .string s
 |cO=>exact .cO
 |ptr hr=>exact .ptr (hle _ _ (by simpa[aN] using h) hr)
 |eR hr=>simp[aN]at h
 |bG=>exact .bG
 |slice hr hl hc ho=>exact .slice (hle _ _ (by simpa[aN] using h) hr) hl hc ho
 |bK hr=>exact .bK (hle _ _ (by simpa[aN] using h) hr)
 |cq=>exact .cq
 |ba=>exact .ba
 |bb=>exact .bb
 |bF hr hp hl hc ho=>exact .bF (hle _ _ (by simpa[aN] using h) hr) hp hl hc ho
 |bf=>exact .bf
 |bQ hr hp hl hc ho=>exact .bQ (hle _ _ (by simpa[aN] using h) hr) hp hl hc ho
 |cP=>exact .cP
 |map hr=>exact .map (hle _ _ (by simpa[aN] using h) hr)
 |nilFunc=>exact .nilFunc
 |nilIface=>exact .nilIface
 |func h1 h2 h3 h4=>simp[aN]at h
 |yield hr=>simp[aN]at h
 |agg h1 h2=>simp[aN]at h
 |tuple h1 h2=>simp[aN]at h
 |deep g1 g2 g3 g4 g5 =>
  simp only[aN,List.all_eq_true]at h
  exact .deep (hm _ _ g1) g2 g3 g4 (fun i a b x y=>pr hle hm (h a (by rw[Array.mem_toList_iff];exact Array.mem_of_getElem? x)) (g5 i a b x y))
 |cu=>exact .cu
 |fsl hr=>simp[aN]at h
 |dc=>exact .dc
 |cL g1 g2 g3 =>
  simp only[aN,List.all_eq_true]at h
  exact .cL (hm _ _ g1) g2 (fun i a b x y=>pr hle hm (h a (by rw[Array.mem_toList_iff];exact Array.mem_of_getElem? x)) (g3 i a b x y))
theorem gQ{Z ρ':Ren}{n:Nat}(hle:∀id r,id<n->ρ' id=some r->Z id=some r)(hm:∀b m,ρ'.mem b=some m->Z.mem b=some m){v v':Value}(h:cH n v=true)(hv:VR ρ' v v'):VR Z v v':=by
 cases hv with
 |junk=>exact .junk _
 |agg h1 h2 =>
  simp only[cH,List.all_eq_true]at h
  exact .agg h1 (fun i a b x y=>bj hle hm (h a (by rw[Array.mem_toList_iff];exact Array.mem_of_getElem? x)) (h2 i a b x y))
 |tuple h1 h2 =>
  simp only[cH,List.all_eq_true]at h
  refine .tuple h1 (fun i a b x y =>?_)
  have ha:=h a (by rw[Array.mem_toList_iff];exact Array.mem_of_getElem? x)
  have hab:=h2 i a b x y
  cases hab with
  |junk=>exact .junk _
  |agg g1 g2 =>
   simp only[List.all_eq_true]at ha
   exact .agg g1 (fun i a b x y=>bj hle hm (ha a (by rw[Array.mem_toList_iff];exact Array.mem_of_getElem? x)) (g2 i a b x y))
  |bool b=>exact bj hle hm ha (.bool b)
  |int k n=>exact bj hle hm ha (.int k n)
  |float k n=>exact bj hle hm ha (.float k n)
  |string s=>exact bj hle hm ha (.string s)
  |cO=>exact bj hle hm ha .cO
  |ptr hr=>exact bj hle hm ha (.ptr hr)
  |eR hr=>simp[aN]at ha
  |bG=>exact bj hle hm ha .bG
  |slice hr hl hc ho=>exact bj hle hm ha (.slice hr hl hc ho)
  |bK hr=>exact bj hle hm ha (.bK hr)
  |cq=>exact .cq
  |ba=>exact .ba
  |bb=>exact .bb
  |bF hr hp hl hc ho=>exact bj hle hm ha (.bF hr hp hl hc ho)
  |bf=>exact .bf
  |bQ hr hp hl hc ho=>exact bj hle hm ha (.bQ hr hp hl hc ho)
  |cP=>exact bj hle hm ha .cP
  |map hr=>exact bj hle hm ha (.map hr)
  |nilFunc=>exact bj hle hm ha .nilFunc
  |nilIface=>exact bj hle hm ha .nilIface
  |func g1 g2 g3 g4=>simp[aN]at ha
  |yield hr=>simp[aN]at ha
  |tuple g1 g2=>simp[aN]at ha
  |deep g1 g2 g3 g4 g5=>exact bj hle hm ha (.deep g1 g2 g3 g4 g5)
  |cu=>exact .cu
  |fsl hr=>simp[aN]at ha
  |dc=>exact .dc
  |cL g1 g2 g3=>exact bj hle hm ha (.cL g1 g2 g3)
 |bool b=>exact .bool b
 |int k n=>exact .int k n
 |float k n=>exact .float k n
 |string s=>exact .string s
 |cO=>exact .cO
 |ptr hr=>exact bj hle hm h (.ptr hr)
 |eR hr=>simp[cH,aN]at h
 |bG=>exact .bG
 |slice hr hl hc ho=>exact bj hle hm h (.slice hr hl hc ho)
 |bK hr=>exact bj hle hm h (.bK hr)
 |cq=>exact .cq
 |ba=>exact .ba
 |bb=>exact .bb
 |bF hr hp hl hc ho=>exact bj hle hm h (.bF hr hp hl hc ho)
 |bf=>exact .bf
 |bQ hr hp hl hc ho=>exact bj hle hm h (.bQ hr hp hl hc ho)
 |cP=>exact .cP
 |map hr=>exact bj hle hm h (.map hr)
 |nilFunc=>exact .nilFunc
 |nilIface=>exact .nilIface
 |func h1 h2 h3 h4=>simp[cH,aN]at h
 |yield hr=>simp[cH,aN]at h
 |deep g1 g2 g3 g4 g5=>exact bj hle hm h (.deep g1 g2 g3 g4 g5)
 |cu=>exact .cu
 |fsl hr=>simp[cH,aN]at h
 |dc=>exact .dc
 |cL g1 g2 g3=>exact bj hle hm h (.cL g1 g2 g3)
theorem am.Am{f:FuncId}{args:List Value}{H:Heap}{M:List Nat}{Q Q':Value->Heap->Prop}(h:am P f args H M Q)
  (hq:∀v H',H.length<=H'.length->(∀id,id<H.length->id ∉ M->H'[id]?=H[id]?)->Q v H'->Q' v H'∨(cH H.length v=true/\(∀id∈M,∀o,id<H.length->H'[id]?=some o->ar H.length o=true)/\Q' v (H'.take H.length))):am P f args H M Q':=by
 refine ⟨h.1,fun B Z w args' hr ha=>(h.2 B Z w args' hr ha).mono ?_⟩
 rintro e w' ⟨v,v',ρ',H',rfl,hv,hp,hQ⟩
 rcases hq v H' hp.len hp.same hQ with g0|⟨g1,g2,g3⟩
 ·exact ⟨v,v',ρ',H',rfl,hv,hp,g0⟩
 have hle:∀id r,id<H.length->ρ' id=some r->Z id=some r:=by
  intro id r hlt hr'
  cases hc:Z id with
  |none=>have:=hp.new id r hr' hc;omega
  |some r0=>rw[hp.ext id r0 hc]at hr';cases hr';rfl
 have htk:∀id,id<H.length->(H'.take H.length)[id]?=H'[id]? := fun id hlt=>by rw[List.getElem?_take,if_pos hlt]
 have hm:∀b m,ρ'.mem b=some m->(Ren.mk Z.f ρ'.mem Z.g).mem b=some m:=fun _ _ h=>h
 have Bt:∀id r o,Z id=some r->(H'.take H.length)[id]?=some o->bt ⟨Z.f,ρ'.mem,Z.g⟩ r o w':=by
  intro id r o h1 h2
  have hlt:=hr.dom id r h1
  rw[htk id hlt]at h2
  have h3:=hp.rel.obj id r o (hp.ext _ _ h1) h2
  by_cases hM:id∈M
  ·have hb:=g2 id hM o hlt h2
   cases o with
   |cells own z cs =>
    obtain ⟨k1,k2,cs',ty,fz,k3,k4,k5,k6⟩:=h3
    simp only[ar,List.all_eq_true]at hb
    exact ⟨k1,k2,cs',ty,fz,k3,k4,k5,fun i x hx=>let ⟨x',y1,y2⟩:=k6 i x hx; ⟨x',y1,bj (Z:=⟨Z.f,ρ'.mem,Z.g⟩) hle hm (hb x (List.mem_of_getElem? hx)) y2⟩⟩
   |fam _ _=>trivial
   |dead=>trivial
   |map es =>
    obtain ⟨k1,es',k2,k3,k4⟩:=h3
    simp only[ar,List.all_eq_true,Bool.and_eq_true]at hb
    exact ⟨k1,es',k2,k3,fun i k x hx=>let ⟨e',y1,y2,y3⟩:=k4 i k x hx;let q:=hb _ (List.mem_of_getElem? hx); ⟨e',y1,gQ (Z:=⟨Z.f,ρ'.mem,Z.g⟩) hle hm q.1 y2,gQ (Z:=⟨Z.f,ρ'.mem,Z.g⟩) hle hm q.2 y3⟩⟩
   |iter m n s =>
    obtain ⟨k1,k0,rm,k2,k3⟩:=h3
    exact ⟨k1,k0,rm,hle _ _ (ip hb) k2,k3⟩
   |loop _ _ _ _ _ _ _=>simp[ar]at hb
  ·have hs:=hp.same id hlt hM
   rw[hs]at h2
   have h4:=hr.obj id r o h1 h2
   cases o with
   |cells own z cs =>
    obtain ⟨k1,k2,cs',ty,fz,k3,k4,k5,k6⟩:=h3
    obtain ⟨_,_,cs2,_,_,_,_,_,j6⟩:=h4
    exact ⟨k1,k2,cs',ty,fz,k3,k4,k5,fun i x hx=>let ⟨x',y1,y2⟩:=k6 i x hx;let ⟨x2,_,z2⟩:=j6 i x hx; ⟨x',y1,z2.down (ρ2:=⟨Z.f,ρ'.mem,Z.g⟩) hp.ext (fun _ _ h=>h) hm (fun _ _ _ h=>h) y2⟩⟩
   |fam _ _=>trivial
   |dead=>trivial
   |map es =>
    obtain ⟨k1,es',k2,k3,k4⟩:=h3
    obtain ⟨_,es2,_,_,j4⟩:=h4
    exact ⟨k1,es',k2,k3,fun i k x hx=>let ⟨e',y1,y2,y3⟩:=k4 i k x hx;let ⟨_,_,z2,z3⟩:=j4 i k x hx; ⟨e',y1,z2.down (ρ2:=⟨Z.f,ρ'.mem,Z.g⟩) hp.ext (fun _ _ h=>h) hm (fun _ _ _ h=>h) y2,z3.down (ρ2:=⟨Z.f,ρ'.mem,Z.g⟩) hp.ext (fun _ _ h=>h) hm (fun _ _ _ h=>h) y3⟩⟩
   |iter m n s =>
    obtain ⟨k1,k0,rm,k2,k3⟩:=h3
    obtain ⟨_,_,rm2,j2,_⟩:=h4
    have:=hp.ext _ _ j2
    rw[k2]at this
    cases this
    exact ⟨k1,k0,rm,j2,k3⟩
   |loop st pe tm N ps asg bd =>
    obtain ⟨k1,l,k2,k3,k4,k5,k6,k7,k8,k9⟩:=h3
    obtain ⟨_,l2,_,_,_,_,_,_,_,j9⟩:=h4
    exact ⟨k1,l,k2,k3,k4,k5,k6,k7,k8,fun t ht=>(j9 t ht).down (ρ2:=⟨Z.f,ρ'.mem,Z.g⟩) hp.ext (fun _ _ h=>h) hm (fun _ _ _ h=>h) (k9 t ht)⟩
 have hfm:∀{F k r z cs},FM ⟨Z.f,ρ'.mem,Z.g⟩ (H'.take H.length) F k r z cs->FM ρ' H' F k r z cs:=fun {F k r z cs} m =>
  ⟨hp.ext.g _ _ _ m.g,by have:=m.h;rw[htk F (hr.fam.dom F k r m.g)]at this;exact this,m.a⟩
 have kw:iy B ⟨Z.f,ρ'.mem,Z.g⟩ (H'.take H.length) w':=by
  refine ⟨fun F k r a =>?_,fun F k r a=>hp.rel.fam.lt F k r (hp.ext.g _ _ _ a),fun F k r z cs m=>hp.rel.fam.base _ _ _ _ _ (hfm m),fun F k r z cs m =>?_,fun F k r z cs F' k' r' z' cs' m m'=>hp.rel.fam.sep _ _ _ _ _ _ _ _ _ _ (hfm m) (hfm m'),
   fun F k r z cs id r' o m h1 h2 h3=>hp.rel.fam.sep2 _ _ _ _ _ id r' o (hfm m) (hp.ext _ _ h1) (by rw[<- htk id (hr.dom id r' h1)];exact h2) h3,fun F k r z cs b m' m hb=>hp.rel.fam.mem _ _ _ _ _ b m' (hfm m) hb,fun F k r cs a h=>hp.rel.fam.cnt F k r cs (hp.ext.g _ _ _ a) (by rw[<- htk F (hr.fam.dom F k r a)];exact h)⟩
  ·have:=hr.fam.dom F k r a;have:=hp.len;simp;omega
  ·have hlt:=hr.fam.dom F k r m.g
   have m':=hfm m
   obtain ⟨cs',ty,a1,a2,a3,a4,a5⟩:=hp.rel.fam.obj _ _ _ _ _ m'
   refine ⟨cs',ty,a1,a2,fun e0=>⟨(a3 e0).1,(a3 e0).2.1,fun row hrow=>⟨((a3 e0).2.2 row hrow).1,fun i v hv =>?_⟩⟩,a4,fun i v hi hv =>?_⟩
   ·obtain ⟨v',b1,b2⟩:=((a3 e0).2.2 row hrow).2 i v hv
    refine ⟨v',b1,?_⟩
    by_cases hM:F∈M
    ·have hb:=g2 F hM _ hlt m'.h
     simp only[ar,List.all_eq_true]at hb
     have:=hb _ (List.mem_of_getElem? hrow)
     simp[aN]at this
    ·have hs:=hp.same F hlt hM
     rw[m'.h]at hs
     obtain ⟨_,_,_,_,j3,_,_⟩:=hr.fam.obj F k r z cs ⟨m.g,hs.symm,m.a⟩
     obtain ⟨x2,_,z2⟩:=((j3 e0).2.2 row hrow).2 i v hv
     exact z2.down (ρ2:=⟨Z.f,ρ'.mem,Z.g⟩) hp.ext (fun _ _ h=>h) hm (fun _ _ _ h=>h) b2
   obtain ⟨v',b1,b2⟩:=a5 i v hi hv
   refine ⟨v',b1,?_⟩
   by_cases hM:F∈M
   ·have hb:=g2 F hM _ hlt m'.h
    simp only[ar,List.all_eq_true]at hb
    exact bj (Z:=⟨Z.f,ρ'.mem,Z.g⟩) hle hm (hb v (List.mem_of_getElem? hv)) b2
   ·have hs:=hp.same F hlt hM
    rw[m'.h]at hs
    obtain ⟨_,_,_,_,_,_,j5⟩:=hr.fam.obj F k r z cs ⟨m.g,hs.symm,m.a⟩
    obtain ⟨x2,_,z2⟩:=j5 i v hi hv
    exact z2.down (ρ2:=⟨Z.f,ρ'.mem,Z.g⟩) hp.ext (fun _ _ h=>h) hm (fun _ _ _ h=>h) b2
 refine ⟨v,v',⟨Z.f,ρ'.mem,Z.g⟩,H'.take H.length,rfl,gQ (Z:=⟨Z.f,ρ'.mem,Z.g⟩) hle hm g1 hv,⟨⟨Nat.le_trans hr.bsize hp.size,hr.dR,fun id r h1 =>?_,fun id r h1=>hp.rel.lt id r (hp.ext _ _ h1),Bt,fun id r o h1 h2 h3 =>?_,?_,fun b m hb =>?_,kw⟩,⟨fun _ _ h=>h,hp.ext.mem,fun _ _ _ h=>h⟩,fun id r h1 h2=>(by rw[h2]at h1;cases h1),?_,fun id h1 h2 =>?_,hp.size,hp.keep,fun b h1 h2 =>?_,hp.os,hp.tape,hp.output,hp.frz,hp.drawn,fun F k x a b=>(by rw[show (Ren.mk Z.f ρ'.mem Z.g).g F k=Z.g F k from rfl,b]at a;cases a)⟩,g3⟩
 ·have:=hr.dom id r h1;have:=hp.len;simp;omega
 ·rw[htk id (hr.dom id r h1)]at h2;exact hp.rel.base id r o (hp.ext _ _ h1) h2 h3
 ·intro id id' r r' o o' h1 h1' h2 h2' h3 h3' hne
  rw[htk id (hr.dom id r h1)]at h2
  rw[htk id' (hr.dom id' r' h1')]at h2'
  exact hp.rel.sep id id' r r' o o' (hp.ext _ _ h1) (hp.ext _ _ h1') h2 h2' h3 h3' hne
 ·obtain ⟨e,k⟩:=hp.rel.mem b m hb
  exact ⟨e,fun id r o h1 h2 h3=>k id r o (hp.ext _ _ h1) (by rw[<- htk id (hr.dom id r h1)];exact h2) h3⟩
 ·have:=hp.len;simp;omega
 ·rw[htk id h1];exact hp.same id h1 h2
 ·rcases h2 with ⟨id,r,o,k1,k2,k3,k4⟩|⟨F,k,x,z,cs,m,e⟩
  ·rw[htk id (hr.dom id r k1)]at k2
   exact hp.ob b h1 (.inl ⟨id,r,o,hp.ext _ _ k1,k2,k3,k4⟩)
  ·exact hp.ob b h1 (.inr ⟨F,k,x,z,cs,hfm m,e⟩)
theorem am.trim{f:FuncId}{args:List Value}{H:Heap}{M:List Nat}{Q Q':Value->Heap->Prop}(h:am P f args H M Q)
  (hq:∀v H',H.length<=H'.length->(∀id,id<H.length->id ∉ M->H'[id]?=H[id]?)->Q v H'->cH H.length v=true/\(∀id∈M,∀o,id<H.length->H'[id]?=some o->ar H.length o=true)/\Q' v (H'.take H.length)):am P f args H M Q' :=
 h.Am fun v H' a b c => .inr (hq v H' a b c)
def eW(acc:List Nat)(o:Oper):Nat:=o.after.toList.foldl (fun s e=>if Region.binds .any e then s |||2 ^ e.on |||acc.getD e.on 0 else s) 0
def dH:List Oper->List Nat->List Nat
 | [],acc=>acc
 |o :: os,acc=>dH os (acc ++ [eW acc o])
def fR(bs:List Nat)(j i:Nat):Bool:=(bs.getD j 0).testBit i
theorem sB:∀(l:List Oper) (acc:List Nat),(dH l acc).length=acc.length+l.length:=by
 intro l
 induction l with
 |nil=>intro acc;simp[dH]
 |cons o os ih=>intro acc;simp[dH,ih];omega
theorem lu:∀(l:List Oper) (acc:List Nat) (j:Nat),j<acc.length->(dH l acc)[j]?=acc[j]? := by
 intro l
 induction l with
 |nil=>intro acc j _;rfl
 |cons o os ih=>intro acc j h;simp only[dH];rw[ih _ _ (by simp;omega),List.getElem?_append_left h]
theorem sC{acc:List Nat}{o:Oper}{i:Nat}(h:(eW acc o).testBit i=true):∃e∈o.after,Region.binds .any e=true/\(e.on=i∨(acc.getD e.on 0).testBit i=true):=by
 unfold eW at h
 have key:∀(l:List Edge) (s:Nat),(l.foldl (fun s e=>if Region.binds .any e then s |||2 ^ e.on |||acc.getD e.on 0 else s) s).testBit i=true->s.testBit i=true∨∃e∈l,Region.binds .any e=true/\(e.on=i∨(acc.getD e.on 0).testBit i=true):=by
  intro l
  induction l with
  |nil=>intro s h;exact .inl h
  |cons e es ih =>
   intro s h
   simp only[List.foldl_cons]at h
   rcases ih _ h with h1|⟨e',he',h2⟩
   ·split at h1
    ·rename_i hb
     rw[Nat.testBit_or,Nat.testBit_or,Nat.testBit_two_pow]at h1
     simp only[Bool.or_eq_true,decide_eq_true_eq]at h1
     rcases h1 with (h1|h1)|h1
     ·exact .inl h1
     ·exact .inr ⟨e,List.mem_cons_self ..,hb,.inl h1⟩
     ·exact .inr ⟨e,List.mem_cons_self ..,hb,.inr h1⟩
    ·exact .inl h1
   ·exact .inr ⟨e',List.mem_cons_of_mem _ he',h2⟩
 rcases key _ _ h with h1|⟨e,he,h2⟩
 ·simp at h1
 ·exact ⟨e,Array.mem_toList_iff.1 he,h2⟩
theorem tS{acc:List Nat}{o:Oper}{e:Edge}(he:e∈o.after)(hb:Region.binds .any e=true):(eW acc o).testBit e.on=true:=by
 unfold eW
 have mono:∀(l:List Edge) (s i:Nat),s.testBit i=true->(l.foldl (fun s e=>if Region.binds .any e then s |||2 ^ e.on |||acc.getD e.on 0 else s) s).testBit i=true:=by
  intro l
  induction l with
  |nil=>intro s i h;exact h
  |cons x xs ih =>
   intro s i h
   simp only[List.foldl_cons]
   refine ih _ _ ?_
   split
   ·rw[Nat.testBit_or,Nat.testBit_or,h];rfl
   ·exact h
 have key:∀(l:List Edge) (s:Nat),e∈l->(l.foldl (fun s e=>if Region.binds .any e then s |||2 ^ e.on |||acc.getD e.on 0 else s) s).testBit e.on=true:=by
  intro l
  induction l with
  |nil=>intro s h;cases h
  |cons x xs ih =>
   intro s h
   simp only[List.foldl_cons]
   rcases List.mem_cons.1 h with rfl|h
   ·refine mono _ _ _ ?_
    rw[if_pos hb,Nat.testBit_or,Nat.testBit_or,Nat.testBit_two_pow]
    simp
   ·exact ih _ h
 exact key _ _ (Array.mem_toList_iff.2 he)
theorem zZ{l:List Oper}{j:Nat}{o:Oper}(hj:l[j]?=some o){e:Edge}(he:e∈o.after)(hb:Region.binds .any e=true):fR (dH l []) j e.on=true:=by
 have key:∀(l:List Oper) (acc:List Nat) (k:Nat) (o:Oper),l[k]?=some o->∃acc',(dH l acc)[acc.length+k]?=some (eW acc' o):=by
  intro l
  induction l with
  |nil=>intro acc k o h;simp at h
  |cons x xs ih =>
   intro acc k o h
   cases k with
   |zero =>
    simp at h;subst h
    refine ⟨acc,?_⟩
    simp only[dH]
    rw[lu _ _ _ (by simp)]
    simp
   |succ k =>
    obtain ⟨acc',h2⟩:=ih (acc ++ [eW acc x]) k o (by simpa using h)
    refine ⟨acc',?_⟩
    simp only[dH]
    rw[<- h2]
    congr 1
    simp;omega
 obtain ⟨acc',h2⟩:=key l [] j o hj
 simp only[List.length_nil,Nat.zero_add]at h2
 simp[fR,h2,tS he hb]
theorem yA{l:List Oper}{j i:Nat}(h:fR (dH l []) j i=true):∃o,l[j]?=some o/\∃e∈o.after,Region.binds .any e=true/\(e.on=i∨fR (dH l []) e.on i=true):=by
 have key:∀(l:List Oper) (acc:List Nat) (k:Nat),k<l.length->∃acc' o,l[k]?=some o/\(dH l acc)[acc.length+k]?=some (eW acc' o)/\(∀q,q<acc'.length->(dH l acc)[q]?=acc'[q]?):=by
  intro l
  induction l with
  |nil=>intro acc k hk;simp at hk
  |cons o os ih =>
   intro acc k hk
   cases k with
   |zero =>
    refine ⟨acc,o,rfl,?_,fun q hq=>lu _ _ _ hq⟩
    simp only[dH]
    rw[lu _ _ _ (by simp)]
    simp
   |succ k =>
    obtain ⟨acc',o',h1,h2,h3⟩:=ih (acc ++ [eW acc o]) k (by simpa using hk)
    refine ⟨acc',o',by simpa using h1,?_,h3⟩
    simp only[dH]
    rw[<- h2]
    congr 1
    simp;omega
 have hj:j<l.length:=by
  rcases Nat.lt_or_ge j l.length with h1|h1
  ·exact h1
  ·have:(dH l [])[j]?=none:=List.getElem?_eq_none (by rw[sB];simpa using h1)
   simp[fR,this]at h
 obtain ⟨acc',o,h1,h2,h3⟩:=key l [] j hj
 simp only[List.length_nil,Nat.zero_add]at h2
 have hb:(eW acc' o).testBit i=true:=by simpa[fR,h2] using h
 obtain ⟨e,he,hbi,hor⟩:=sC hb
 refine ⟨o,h1,e,he,hbi,?_⟩
 rcases hor with h4|h4
 ·exact .inl h4
 ·right
  rcases Nat.lt_or_ge e.on acc'.length with h5|h5
  ·have:=h3 _ h5
   simpa[fR,this] using h4
  ·simp[List.getElem?_eq_none h5]at h4
def dF(o:Oper):Bool:=match d6 o.op with| .pure| .alloc=>false|_=>true
def pR(ops:Array Oper)(o:Oper)(dst:Option Tmp):Bool:=match dst with|some d=>(o.looksAt ops).contains d|none=>false
def s9(bs:List Nat)(ops:Array Oper)(i j:Nat):Bool :=
 match ops[i]?,ops[j]? with
 |some oi,some oj =>
  i != j && !fR bs i j&&(oi.dst.isNone ||oi.dst != oj.dst)&&(!pR ops oj oi.dst ||fR bs j i)&&(!pR ops oi oj.dst ||fR bs j i)&&(!dF oi ||fR bs j i)
 |_,_=>false
def kG(f:Nat->Nat->Bool):List Nat->Bool
 | [] =>true
 |i :: is=>is.all (f i)&&kG f is
def uU(l:List Oper):Bool:=l.all fun o=>o.after.toList.all fun e => !Region.binds .any e ||decide (e.on<l.length)
def uq(l:List Oper)(ord:List Nat):Bool :=
 uU l&&(List.range l.length).all (fun i => !fR (dH l []) i i) &&
 decide (ord.length=l.length)&&(List.range l.length).all (fun i=>ord.contains i)&&kG (s9 (dH l []) l.toArray) ord&&ord.all (fun i=>decide (i<l.length))
structure qw(bs:List Nat)(ops:Array Oper)(i j:Nat):Prop where
 ex:∃oi oj,ops[i]?=some oi/\ops[j]?=some oj
 ne:i≠j
 order:fR bs i j=false
 ssa:∀oi oj d,ops[i]?=some oi->ops[j]?=some oj->oi.dst=some d->oj.dst≠some d
 wr:∀oi oj d,ops[i]?=some oi->ops[j]?=some oj->oi.dst=some d->d∈oj.looksAt ops->fR bs j i=true
 rw':∀oi oj d,ops[i]?=some oi->ops[j]?=some oj->oj.dst=some d->d∈oi.looksAt ops->fR bs j i=true
 hot:∀oi,ops[i]?=some oi->dF oi=true->fR bs j i=true
theorem rk{bs:List Nat}{ops:Array Oper}{i j:Nat}(h:s9 bs ops i j=true):qw bs ops i j:=by
 unfold s9 at h
 split at h
 ·rename_i oi oj hi hj
  simp only[Bool.and_eq_true,Bool.or_eq_true,Bool.not_eq_true',bne_iff_ne]at h
  obtain ⟨⟨⟨⟨⟨h0,h1⟩,h2⟩,h3⟩,h4⟩,h5⟩:=h
  refine ⟨⟨oi,oj,hi,hj⟩,h0,h1,fun a b d ha hb hd =>?_,fun a b d ha hb hd hl =>?_,fun a b d ha hb hd hl =>?_,fun a ha hh =>?_⟩
  ·rw[hi]at ha;cases ha;rw[hj]at hb;cases hb
   rcases h2 with h2|h2
   ·rw[hd]at h2;simp at h2
   ·intro e;exact h2 (by rw[hd,e])
  ·rw[hi]at ha;cases ha;rw[hj]at hb;cases hb
   rcases h3 with h3|h3
   ·simp[pR,hd]at h3;exact absurd hl h3
   ·exact h3
  ·rw[hi]at ha;cases ha;rw[hj]at hb;cases hb
   rcases h4 with h4|h4
   ·simp[pR,hd]at h4;exact absurd hl h4
   ·exact h4
  ·rw[hi]at ha;cases ha
   rcases h5 with h5|h5
   ·rw[hh]at h5;cases h5
   ·exact h5
 ·simp at h
theorem oA{f:Nat->Nat->Bool}:∀{l:List Nat},kG f l=true->∀pre i mid j post,l=pre++i :: (mid++j :: post)->f i j=true:=by
 intro l
 induction l with
 |nil=>intro _ pre i mid j post h;simp at h
 |cons x xs ih =>
  intro h pre i mid j post hl
  simp only[kG,Bool.and_eq_true,List.all_eq_true]at h
  cases pre with
  |nil =>
   simp at hl
   obtain ⟨rfl,rfl⟩:=hl
   exact h.1 j (by simp)
  |cons p ps =>
   simp at hl
   exact ih h.2 ps i mid j post hl.2
def Loose(bs:List Nat)(j:Nat)(log:List (Nat×Option Nat))(ms:List Nat):Prop:=∀p∈log,fR bs j p.1=false->∀x,p.2=some x->x ∉ ms
theorem Loose.nil(bs:List Nat)(j:Nat)(log:List (Nat×Option Nat)):Loose bs j log []:=fun _ _ _ _ _ h=>by cases h
def qx(P:Program)(base:Nat)(M:List Nat)(bs:List Nat)(i:Nat)(log:List (Nat×Option Nat))(o:Oper)(e:Operand->Value)(H:Heap)(K:Value->Heap->List (Nat×Option Nat)->Prop):Prop :=
 match d6 o.op with
 | .pure => ∃v rd,dq P o.op e H=some (v,rd)/\K v H ((i,rd) :: log)
 | .alloc => ∃v ob,hX P o.op e H.length=some (v,ob)/\K v (H ++ [ob]) ((i,some H.length) :: log)
 | .write => ∃v H' wr,d7 P o.op e H=some (v,H',wr)/\(∀id∈wr,id<base->id∈M)/\Loose bs i log wr/\K v H' log
 | .call=>match o.op with
  | .call ⟨.value f,args,_⟩ => ∃Mc,gS P (e f) (args.toList.map e) H Mc (fun v H'=>K v H' log)/\(∀id∈Mc,id<base->id∈M)/\Loose bs i log Mc
  |_=>False
 | .iter=>False
 | .bad=>False
def gR(P:Program)(base:Nat)(M:List Nat)(bs:List Nat)(ops:Array Oper):List Nat->Tm->Heap->List (Nat×Option Nat)->(Tm->Heap->Prop)->Prop
 | [],T,H,_,Q=>Q T H
 |i :: is,T,H,log,Q =>
  match ops[i]? with
  |none=>False
  |some o =>
   gv o ops T=true/\if cB o ops T then qx P base M bs i log o (ev T) H (fun v H' ix=>gR P base M bs ops is (put T o.dst v) H' ix Q)
   else gR P base M bs ops is (put T o.dst undef) H log Q
structure Ent where
 i:Nat
 o:Oper
 T:Tm
 H:Heap
 v:Value
 H':Heap
 rd:Option Nat
 ms:List Nat
def vl(P:Program)(ops:Array Oper)(e:Ent):Prop :=
 (ops[e.i]?=some e.o/\gv e.o ops e.T=true) /\
 (dF e.o=false->cB e.o ops e.T=true->(∃rd,dq P e.o.op (ev e.T) e.H=some (e.v,rd)/\e.H'=e.H/\e.rd=rd/\d6 e.o.op = .pure) ∨
  (∃ob,hX P e.o.op (ev e.T) e.H.length=some (e.v,ob)/\e.H'=e.H ++ [ob]/\e.rd=some e.H.length/\d6 e.o.op = .alloc)) /\
 (cB e.o ops e.T=false->e.v=undef)/\(dF e.o=false->e.ms=[]) /\
 e.H.length<=e.H'.length/\(∀id,id<e.H.length->id ∉ e.ms->e.H'[id]?=e.H[id]?)
def cf(T0:Tm)(es:List Ent):Tm:=es.foldl (fun T e=>put T e.o.dst e.v) T0
inductive Chain (P:Program) (ops:Array Oper) (T0:Tm) (H0:Heap):List Ent->Heap->Prop
 |nil:Chain P ops T0 H0 [] H0
 |snoc {es H e} (h:Chain P ops T0 H0 es H) (hT:e.T=cf T0 es) (hH:e.H=H) (ok:vl P ops e):Chain P ops T0 H0 (es ++ [e]) e.H'
theorem fe(T0:Tm)(es:List Ent)(e:Ent):cf T0 (es ++ [e])=put (cf T0 es) e.o.dst e.v:=by simp[cf]
theorem oO{T:Tm}{dst:Option Nat}{v:Value}{t:Nat}(h:dst≠some t):put T dst v t=T t:=by
 cases dst with
 |none=>rfl
 |some d=>have:t≠d:=fun e=>h (by rw[e]);simp[put,upd,this]
theorem d9(T:Tm)(d:Nat)(v:Value):put T (some d) v d=v:=by simp[put,upd]
theorem mE{α:Type}{p:List α->Prop}(h0:p [])(h1:∀l a,p l->p (l ++ [a])):∀l,p l:=by
 intro l
 have:∀n (l:List α),l.length=n->p l:=by
  intro n
  induction n with
  |zero=>intro l h;rw[List.length_eq_zero_iff.1 h];exact h0
  |succ n ih =>
   intro l h
   have hne:l≠[]:=by intro e;rw[e]at h;simp at h
   rw[<- List.dropLast_concat_getLast hne]
   exact h1 _ _ (ih _ (by simp[h]))
 exact this _ l rfl
theorem iQ{T0:Tm}{t:Nat}:∀{es:List Ent},(∀e∈es,e.o.dst≠some t)->cf T0 es t=T0 t:=by
 intro es
 induction es using mE with
 |h0=>intro _;rfl
 |h1 l a ih =>
  intro h
  rw[fe,oO (h a (by simp))]
  exact ih (fun e he=>h e (by simp[he]))
theorem iP{T0:Tm}{t:Nat}{pre post:List Ent}{e:Ent}(hd:e.o.dst=some t)(hp:∀x∈post,x.o.dst≠some t):cf T0 (pre++e :: post) t=e.v:=by
 induction post using mE with
 |h0=>rw[show pre ++ [e]=pre ++ [e] from rfl,fe,hd,d9]
 |h1 l a ih =>
  rw[show pre++e :: (l ++ [a])=(pre++e :: l) ++ [a] by simp,fe,oO (hp a (by simp))]
  exact ih (fun x hx=>hp x (by simp[hx]))
theorem Chain.split{ops:Array Oper}{T0:Tm}{H0:Heap}:∀{es:List Ent} {H:Heap},Chain P ops T0 H0 es H->∀pre e post,es=pre++e :: post ->
  vl P ops e/\e.T=cf T0 pre/\Chain P ops T0 H0 pre e.H/\e.H'.length<=H.length/\(∀id,id<e.H'.length->(∀x∈post,id ∉ x.ms)->H[id]?=e.H'[id]?):=by
 intro es H h
 induction h with
 |nil=>intro pre e post he;simp at he
 | @snoc es H x hc hT hH ok ih =>
  intro pre e post he
  rcases List.eq_nil_or_concat post with rfl|⟨post',y,rfl⟩
  ·obtain ⟨rfl,h2⟩:=List.append_inj' he (by simp)
   simp at h2;subst h2
   refine ⟨ok,hT,by rw[hH];exact hc,Nat.le_refl _,fun id _ _=>rfl⟩
  ·have he2:es ++ [x]=(pre++e :: post') ++ [y]:=by rw[he];simp
   obtain ⟨rfl,h2⟩:=List.append_inj' he2 (by simp)
   simp at h2;subst h2
   obtain ⟨g1,g2,g3,g4,g5⟩:=ih pre e post' rfl
   refine ⟨g1,g2,g3,?_,fun id h1 h2 =>?_⟩
   ·rw[<- hH]at g4;exact Nat.le_trans g4 ok.2.2.2.2.1
   ·have hl:id<x.H.length:=by rw[hH];omega
    rw[ok.2.2.2.2.2 id hl (h2 x (by simp)),hH]
    exact g5 id h1 (fun z hz=>h2 z (by simp[hz]))
theorem Chain.len{ops:Array Oper}{T0:Tm}{H0:Heap}{es:List Ent}{H:Heap}(h:Chain P ops T0 H0 es H):H0.length<=H.length:=by
 induction h with
 |nil=>exact Nat.le_refl _
 |snoc _ _ hH ok ih=>rw[<- hH]at ih;exact Nat.le_trans ih ok.2.2.2.2.1
end Go.K
