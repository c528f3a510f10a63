/- All operations that write. No condition. -/
import Derived.Test.YtmecpfikljhjaaaGreatDoorGM1xK11
import Derived.LoopNIn
import Derived.RangeFuncLeaves
open Go Go.K
set_option linter.unusedVariables false
set_option linter.unusedSimpArgs false
namespace Go.K
variable {P:Program} {w:World} {ρ:Ren} {H:Heap}
theorem jA{n k:Nat}{y:Value}{c:List Value}(hc:cL P n k y H=some c):c.length=k*n:=by
 unfold cL at hc
 split at hc
 ·split at hc
  ·rename_i h0;cases hc;simp[h0]
  ·simp at hc
 ·split at hc
  ·split at hc
   ·rename_i hle;cases hc;simp;omega
   ·simp at hc
  ·simp at hc
 ·simp at hc
theorem yO{B base:Nat}{M:List Nat}{t:TypeId}{d d' x x' v:Value}{H':Heap}{wr:List Nat}(h:pL P t d x H=some (v,H',wr))(hr:Rel P B ρ H w)
  (hd:VR ρ d d') (hx:VR ρ x x') (hM:∀id∈wr,id<base->id∈M) (ts:List TypeId) (ty:TypeId) :
  ∃v' w',(Builtin.copy_ ⟨t :: ts⟩ ty #[d',x']).run P w = .ok v' w'/\VR ρ v v'/\Post P B base M ρ H w ρ H' w':=by
 unfold pL at h
 split at h
 ·rename_i el sb len cap xb m xc hut
  cases hn:aO P el with
  |none=>simp[hn]at h
  |some n =>
   simp only[hn]at h
   cases hc:cL P n (min m len) (.slice xb m xc) H with
   |none=>simp[hc]at h
   |some new =>
    simp only[hc]at h
    obtain ⟨new',hn1,hn2⟩:=hU (w:=w) hc hx (kW hr)
    obtain ⟨x'l,x'c,hx'⟩:∃a c,x' = .slice a m c:=by cases hx <;> exact ⟨_,_,rfl⟩
    have hlen:∀w:World,(Builtin.lenOf x').run P w = .ok m w:=by intro w;rw[hx'];rfl
    have start:∀(b':Option Addr) (c':Nat),(Builtin.copy_ ⟨t :: ts⟩ ty #[.slice b' len c',x']).run P w =
      ((match b' with|some a=>storeCells a new'.toList|none=>pure ():Sem Unit).run P w).andThen fun _ w' => .ok (goInt (min m len:Nat)) w':=by
     intro b' c'
     have hm:Nat.min m len=min m len:=rfl
     simp only[Builtin.copy_,List.getElem?_toArray,List.getElem?_cons_zero,List.getElem?_cons_succ,Sem.run_bind,aA hut,Result.andThen_ok,hlen,bj hn,hm,hn1]
     cases b' <;> simp
    cases hd with
    |bv=>simp at h
    |ax=>simp at h
    |ay=>simp at h
    |aD=>simp at h
    |aB=>simp at h
    |aX=>simp at h
    |aT =>
     simp only at h
     cases h
     exact ⟨_,w,start none 0,.int _ _,Post.refl hr⟩
    | @slice id off r _ _ c' hρ hl hcc hroom =>
     simp only at h
     split at h
     ·rename_i z cs hid
      split at h
      ·rename_i hcond
       obtain ⟨h1,h2⟩:=hcond
       cases h
       obtain ⟨e1,e2,cs',ety,fz,hb,hnz,hfz,hcs⟩:=hr.obj id r _ hρ hid
       obtain rfl:fz=(0,0):=hfz rfl
       have hnl:=jA hc
       have hl1:=hn2.1
       rcases Nat.eq_zero_or_pos (min m len*n) with h0|h0
       ·have xp:new=[]:=List.length_eq_zero_iff.1 (by omega)
        have vU:new'.toList=[]:=List.length_eq_zero_iff.1 (by omega)
        refine ⟨_,w.putObj r.b (.cells cs' ety (0,0)),?_,.int _ _,?_⟩
        ·rw[start];simp[vU,storeCells,fb hb,goInt]
        ·rw[xp]
         exact Post.put hr hρ hid rfl (by rw[hb];rfl) ⟨e1,e2,cs',ety,(0,0),bE hb,hnz,fun _=>rfl,hcs⟩ (fun hlt=>hM id (by simp) hlt)
       ·have hle2:off+r.s+min m len*n<=cs'.size:=by
         rcases dx hcs h1 with h|h
         ·exact h
         ·omega
        have hrun:=dp (P:=P) (b:=r.b) (off:=off+r.s) new'.toList 0 cs' w hb (VRl.oneCell hn2 h2) (by rw[<- hl1,hnl];omega)
        refine ⟨_,w.putObj r.b (.cells ⟨ba cs'.toList (off+r.s) new'.toList⟩ ety (0,0)),?_,.int _ _,Post.put hr hρ hid rfl (by rw[hb];rfl) ?_ (fun hlt=>hM id (by simp) hlt)⟩
        ·rw[start]
         simp only[hrun,Result.andThen_ok]
         simp[goInt]
        ·refine ⟨e1,e2,_,ety,(0,0),bE hb,by rw[<- hnz];simp[cw],fun _=>rfl,?_⟩
         exact kT hcs hn2 (by omega) (by rw[<- hl1,hnl];omega)
      ·simp at h
     ·simp at h
    | @aQ id off r o' hρ =>
     simp only at h
     split at h
     ·rename_i z cs hid
      split at h
      ·rename_i hcond
       cases h
       obtain ⟨e1,e2,cs',ety,fz,hb,hnz,hfz,hcs⟩:=hr.obj id r _ hρ hid
       obtain rfl:fz=(0,0):=hfz rfl
       have hnl:=jA hc
       have hl1:=hn2.1
       have xp:new=[]:=List.length_eq_zero_iff.1 (by simp at hnl;simpa using hnl)
       have vU:new'.toList=[]:=List.length_eq_zero_iff.1 (by rw[<- hl1,xp];rfl)
       refine ⟨_,w.putObj r.b (.cells cs' ety (0,0)),?_,.int _ _,?_⟩
       ·rw[start];simp[vU,storeCells,fb hb,goInt]
       ·rw[xp]
        exact Post.put hr hρ hid rfl (by rw[hb];rfl) ⟨e1,e2,cs',ety,(0,0),bE hb,hnz,fun _=>rfl,hcs⟩ (fun hlt=>hM id (by simp) hlt)
      ·simp at h
     ·simp at h
 ·simp at h
theorem set_self{H:Heap}{id:Nat}{o:aa}(h:H[id]?=some o):H.set id o=H:=by
 refine List.ext_getElem? fun i =>?_
 by_cases e:id=i
 ·subst e;rw[List.getElem?_set_self (List.getElem?_eq_some_iff.1 h).1,h]
 ·rw[List.getElem?_set_ne e]
theorem vp{B base:Nat}{M:List Nat}{t:TypeId}{x x' v:Value}{H':Heap}{wr:List Nat}(h:lv P t x H=some (v,H',wr))(hr:Rel P B ρ H w)
  (hx:VR ρ x x') (hM:∀id∈wr,id<base->id∈M) (ts:List TypeId) (ty:TypeId) :
  ∃v' w',(Builtin.clear_ ⟨t :: ts⟩ ty #[x']).run P w = .ok v' w'/\VR ρ v v'/\Post P B base M ρ H w ρ H' w':=by
 unfold lv at h
 split at h
 ·rename_i el base' len cap hut
  cases hn:aO P el with
  |none=>simp[hn]at h
  |some n =>
   cases hz:dD P el with
   |none=>simp[hn,hz]at h
   |some z =>
    simp only[hn,hz]at h
    have zero:∀(a:Option Addr) (c:Nat),(Builtin.clear_ ⟨t :: ts⟩ ty #[.slice a 0 c]).run P w = .ok (.tuple #[]) w:=by
     intro a c
     simp only[Builtin.clear_,List.getElem?_toArray,List.getElem?_cons_zero,Sem.run_bind,aA hut,Result.andThen_ok]
     cases a <;> simp
    split at h
    ·cases h
     cases hx
     exact ⟨_,w,zero none 0,.undef ρ,Post.refl hr⟩
    ·rename_i id off tag
     split at h
     ·rename_i zz cs hid
      split at h
      ·rename_i hcond
       obtain ⟨h1,h2,h3⟩:=hcond
       cases h
       rcases Nat.eq_zero_or_pos len with h0|h0
       ·subst h0
        have e:H.set id (.cells true zz (ba cs off (cM z.cells.toList 0)))=H:=set_self hid
        rw[e]
        obtain ⟨a,c,rfl⟩:∃a c,x' = .slice a 0 c:=by
         generalize hq:(Value.slice (some ⟨id,off,tag⟩) 0 cap)=q at hx
         cases hx <;> cases hq <;> exact ⟨_,_,rfl⟩
        exact ⟨_,w,zero a c,.undef ρ,Post.refl hr⟩
       ·obtain ⟨r,c',hρ,rfl⟩:∃r c',ρ id=some r/\x' = .slice (some ⟨r.b,off+r.s,none⟩) len c':=by
         generalize hq:(Value.slice (some ⟨id,off,tag⟩) len cap)=q at hx
         cases hx <;> cases hq <;> first|exact ⟨_,_,‹_›,rfl⟩|exact absurd h0 (Nat.lt_irrefl 0)
        obtain ⟨hzr,hzc⟩:=da hz w
        obtain ⟨e1,e2,cs',ety,fz,hb,hnz,hfz,hcs⟩:=hr.obj id r _ hρ hid
        obtain rfl:fz=(0,0):=hfz rfl
        have hkl:(cM z.cells.toList len).length=len*n:=by rw[dW,h2]
        have hle2:off+r.s+len*n<=cs'.size∨len*n=0:=by
         rcases dx hcs h1 with h|h
         ·exact .inl h
         ·exact .inr h
        have hone:∀(l:List Value),(∀v∈l,dz v=true)->∀k,∀v∈cM l k,dz v=true:=by
         intro l hl k
         induction k with
         |zero=>intro v hv;cases hv
         |succ k ih=>intro v hv;rcases List.mem_append.1 hv with hv|hv;exact hl v hv;exact ih v hv
        have hvr:=nm (ρ:=ρ) hzc len
        have Be:(Builtin.zeroCells z.cells len).toList=cM z.cells.toList len:=lk z.cells len
        have hstart:(Builtin.clear_ ⟨t :: ts⟩ ty #[.slice (some ⟨r.b,off+r.s,none⟩) len c']).run P w=((storeCells ⟨r.b,off+r.s,none⟩ (cM z.cells.toList len)).run P w).andThen fun _ w' => .ok (.tuple #[]) w':=by
         obtain ⟨k,rfl⟩:∃k,len=k+1:=⟨len-1,by omega⟩
         simp only[Builtin.clear_,List.getElem?_toArray,List.getElem?_cons_zero,Sem.run_bind,aA hut,Result.andThen_ok,hzr,Be]
         rfl
        rcases hle2 with hle2|h00
        ·have hrun:=dp (P:=P) (b:=r.b) (off:=off+r.s) (cM z.cells.toList len) 0 cs' w hb (VRl.oneCell hvr (by rw[List.all_eq_true];exact hone _ (by rw[List.all_eq_true]at h3;exact h3) len)) (by rw[hkl];omega)
         refine ⟨_,w.putObj r.b (.cells ⟨ba cs'.toList (off+r.s) (cM z.cells.toList len)⟩ ety (0,0)),?_,.undef ρ,Post.put hr hρ hid rfl (by rw[hb];rfl) ?_ (fun hlt=>hM id (by simp) hlt)⟩
         ·rw[hstart];simp only[hrun,Result.andThen_ok];rfl
         ·refine ⟨e1,e2,_,ety,(0,0),bE hb,by rw[<- hnz];simp[cw],fun _=>rfl,?_⟩
          exact kT hcs hvr (by omega) (by rw[hkl];omega)
        ·have hk0:cM z.cells.toList len=[]:=List.length_eq_zero_iff.1 (by omega)
         have e:H.set id (.cells true zz (ba cs off (cM z.cells.toList len)))=H:=by rw[hk0];exact set_self hid
         rw[e]
         refine ⟨.tuple #[],w,?_,.undef ρ,Post.refl hr⟩
         rw[hstart,hk0]
         rfl
      ·simp at h
     ·simp at h
 ·simp at h
def GP(r:Result Next)(v':Value)(w':World):Prop:=r = .ok (.value v') w'∨(r = .ok .skip w'/\v'=undef)
theorem sZ{B base:Nat}{M:List Nat}{t:TypeId}{m m' k k' x x':Value}{H':Heap}{wr:List Nat}(h:jg P t m k x H=some (H',wr))(hr:Rel P B ρ H w)(hm:VR ρ m m')(hk:VR ρ k k')(hx:VR ρ x x')
  (hM:∀id∈wr,id<base->id∈M):∃w',(Instr.mapUpdate t m' k' x').run P w = .ok () w'/\Post P B base M ρ H w ρ H' w':=by
 unfold jg at h
 split at h
 ·rename_i kt el hu
  split at h
  ·rename_i id hfit
   split at h
   ·rename_i es hid
    obtain ⟨es2,hs,hh⟩:=Option.map_eq_some_iff.1 h
    cases hh
    obtain ⟨d,hd⟩:=jS hfit
    have hok:fJ k=true:=by unfold dF at hfit;rw[Bool.and_eq_true]at hfit;exact hfit.1
    have hck:(Instr.checkKey false 10000 kt k').run P w = .ok () w:=by
     unfold dF at hfit
     rw[Bool.and_eq_true]at hfit
     obtain ⟨c,hc⟩:=Option.isSome_iff_exists.1 hfit.2
     exact ii false Op.maxDepth 10000 hc hfit.1 hk (Nat.le_refl _) w
    cases hm with
    | @map _ r hρ =>
     obtain ⟨hown,es',hb,⟨hlen,hborn⟩,hes⟩:=hr.obj id r _ hρ hid
     have hg:(getObj r.b).run P w = .ok (.map es' es'.size) w:=by simp only[getObj,Sem.run,hb]
     have hER:ER ρ es es'.toList:=⟨by simpa using hlen,fun i k v hi=>by simpa using hes i k v hi⟩
     unfold lO at hs
     cases hf:fG P kt k es 0 with
     |none=>simp[hf]at hs
     |some q =>
      obtain ⟨q',g1,g2⟩:=iS hd hk hf hER w
      rw[hf]at hs
      cases q with
      |none =>
       cases hs
       cases q' with
       |some _=>exact g2.elim
       |none =>
        refine ⟨w.putObj r.b (.map (es'.push { key:=k',val:=x',born:=es'.size }) (es'.size+1)),?_,Post.put hr hρ hid rfl (by rw[hb];rfl) ?_ (fun hlt=>hM id (by simp) hlt)⟩
        ·simp[Instr.mapUpdate,aA hu,hg,hck,g1,setObj,Sem.run,hb,World.putObj]
        ·refine ⟨hown,es'.push { key:=k',val:=x',born:=es'.size },by rw[Array.size_push];exact bE hb,⟨by simp[hlen],fun i e hi =>?_⟩,fun i u v hi =>?_⟩
         ·rw[Array.getElem?_push]at hi
          split at hi
          ·rename_i e0;cases hi;exact e0.symm
          ·exact hborn i e hi
         ·rw[List.getElem?_append]at hi
          split at hi
          ·rename_i hlt
           obtain ⟨e,a,b,c⟩:=hes i u v hi
           exact ⟨e,by rw[Array.getElem?_push,if_neg (by omega)];exact a,b,c⟩
          ·rename_i hge
           have hi0:i=es.length:=by
            have:=(List.getElem?_eq_some_iff.1 hi).1
            simp at this;omega
           subst hi0
           rw[Nat.sub_self]at hi
           cases hi
           exact ⟨_,by rw[Array.getElem?_push,if_pos hlen],hk,hx⟩
      |some p =>
       obtain ⟨i,u⟩:=p
       simp only at hs
       cases q' with
       |none=>exact g2.elim
       |some p' =>
        obtain ⟨j,u'⟩:=p'
        obtain ⟨rfl,_⟩:=g2
        cases hi:es[i]? with
        |none=>simp[hi]at hs
        |some kv =>
         obtain ⟨k0,v0⟩:=kv
         rw[hi]at hs
         cases hke:lS k0 k with
         |false=>simp[hke]at hs
         |true =>
          simp only[hke]at hs
          cases hs
          have e0:=s9 hke
          subst e0
          obtain ⟨e,a,b,c⟩:=hes i _ v0 hi
          have hk1:=ku hok hk
          have hk2:=ku hok b
          subst hk1
          refine ⟨w.putObj r.b (.map (es'.modify i fun e => { e with key:=k',val:=x' }) es'.size),?_,Post.put hr hρ hid rfl (by rw[hb];rfl) ?_ (fun hlt=>hM id (by simp) hlt)⟩
          ·have hst:=kg (P:=P) hok w
           simp[Instr.mapUpdate,aA hu,hg,hck,g1,a,hk2,hst,setObj,Sem.run,hb,World.putObj]
          ·refine ⟨hown,es'.modify i fun e => { e with key:=k',val:=x' },by rw[Array.size_modify];exact bE hb,⟨by simp[hlen],fun j e' hj =>?_⟩,fun j u v hj =>?_⟩
           ·rw[Array.getElem?_modify]at hj
            split at hj
            ·obtain ⟨e2,h2,rfl⟩:=Option.map_eq_some_iff.1 hj
             exact hborn j e2 h2
            ·exact hborn j e' hj
           ·by_cases hij:i=j
            ·subst hij
             have hlt:=(List.getElem?_eq_some_iff.1 hi).1
             rw[List.getElem?_set_self hlt]at hj
             cases hj
             exact ⟨_,by rw[Array.getElem?_modify,if_pos rfl,a];rfl,hk,hx⟩
            ·rw[List.getElem?_set_ne hij]at hj
             obtain ⟨e2,a2,b2,c2⟩:=hes j u v hj
             exact ⟨e2,by rw[Array.getElem?_modify,if_neg hij];exact a2,b2,c2⟩
   ·simp at h
  ·simp at h
 ·simp at h
theorem VR.Hu{ρ:Ren}{a b a' b':Value}(h1:VR ρ a a')(h2:VR ρ b b'):VR ρ (.tuple #[a,b]) (.tuple #[a',b']):=by
 refine .tuple rfl (fun i v v' x y =>?_)
 match i with
 |0=>cases x;cases y;exact h1
 |1=>cases x;cases y;exact h2
 |i+2=>simp at x
theorem s5{B base:Nat}{M:List Nat}{t:TypeId}{m m' k k' u:Value}{H':Heap}{wr:List Nat}(h:mn P t m k H=some (u,H',wr))(hr:Rel P B ρ H w)(hm:VR ρ m m')(hk:VR ρ k k')
  (hM:∀id∈wr,id<base->id∈M):∃u' w',(Instr.mapEntry t m' k').run P w = .ok u' w'/\VR ρ u u'/\Post P B base M ρ H w ρ H' w':=by
 unfold mn at h
 split at h
 ·rename_i kt el hu
  split at h
  ·rename_i z id hz hfit
   split at h
   ·rename_i es hid
    obtain ⟨⟨es2,u2⟩,hs,hh⟩:=Option.map_eq_some_iff.1 h
    cases hh
    obtain ⟨d,hd⟩:=jS hfit
    have hok:fJ k=true:=by unfold dF at hfit;rw[Bool.and_eq_true]at hfit;exact hfit.1
    have hck:(Instr.checkKey false 10000 kt k').run P w = .ok () w:=by
     unfold dF at hfit
     rw[Bool.and_eq_true]at hfit
     obtain ⟨c,hc⟩:=Option.isSome_iff_exists.1 hfit.2
     exact ii false Op.maxDepth 10000 hc hfit.1 hk (Nat.le_refl _) w
    have hzr:=(da hz w).1
    cases hm with
    | @map _ r hρ =>
     obtain ⟨hown,es',hb,⟨hlen,hborn⟩,hes⟩:=hr.obj id r _ hρ hid
     have hg:(getObj r.b).run P w = .ok (.map es' es'.size) w:=by simp only[getObj,Sem.run,hb]
     have hER:ER ρ es es'.toList:=⟨by simpa using hlen,fun i k v hi=>by simpa using hes i k v hi⟩
     unfold AK at hs
     cases hf:fG P kt k es 0 with
     |none=>simp[hf]at hs
     |some q =>
      obtain ⟨q',g1,g2⟩:=iS hd hk hf hER w
      rw[hf]at hs
      cases q with
      |none =>
       cases hs
       cases q' with
       |some _=>exact g2.elim
       |none =>
        refine ⟨.tuple #[z,goInt es'.size],w.putObj r.b (.map (es'.push { key:=k',val:=z,born:=es'.size }) (es'.size+1)),?_,?_,Post.put hr hρ hid rfl (by rw[hb];rfl) ?_ (fun hlt=>hM id (by simp) hlt)⟩
        ·simp[Instr.mapEntry,aA hu,hg,hck,g1,hzr,setObj,Sem.run,hb,World.putObj]
        ·refine VR.Hu (kp hz) ?_
         rw[hlen]
         exact .int _ _
        ·refine ⟨hown,es'.push { key:=k',val:=z,born:=es'.size },by rw[Array.size_push];exact bE hb,⟨by simp[hlen],fun i e hi =>?_⟩,fun i u v hi =>?_⟩
         ·rw[Array.getElem?_push]at hi
          split at hi
          ·rename_i e0;cases hi;exact e0.symm
          ·exact hborn i e hi
         ·rw[List.getElem?_append]at hi
          split at hi
          ·rename_i hlt
           obtain ⟨e,a,b,c⟩:=hes i u v hi
           exact ⟨e,by rw[Array.getElem?_push,if_neg (by omega)];exact a,b,c⟩
          ·rename_i hge
           have hi0:i=es.length:=by
            have:=(List.getElem?_eq_some_iff.1 hi).1
            simp at this;omega
           subst hi0
           rw[Nat.sub_self]at hi
           cases hi
           exact ⟨_,by rw[Array.getElem?_push,if_pos hlen],hk,kp hz⟩
      |some p =>
       obtain ⟨i,u⟩:=p
       simp only at hs
       cases q' with
       |none=>exact g2.elim
       |some p' =>
        obtain ⟨j,u'⟩:=p'
        obtain ⟨rfl,g3⟩:=g2
        cases hi:es[i]? with
        |none=>simp[hi]at hs
        |some kv =>
         obtain ⟨k0,v0⟩:=kv
         rw[hi]at hs
         cases hke:lS k0 k with
         |false=>simp[hke]at hs
         |true =>
          simp only[hke]at hs
          cases hs
          have e0:=s9 hke
          subst e0
          obtain ⟨e,a,b,c⟩:=hes i _ v0 hi
          have hk1:=ku hok hk
          have hk2:=ku hok b
          subst hk1
          have hbo:=hborn i e a
          refine ⟨.tuple #[u',goInt i],w.putObj r.b (.map (es'.modify i fun e => { e with key:=k' }) es'.size),?_,?_,Post.put hr hρ hid rfl (by rw[hb];rfl) ?_ (fun hlt=>hM id (by simp) hlt)⟩
          ·have hst:=kg (P:=P) hok w
           simp[Instr.mapEntry,aA hu,hg,hck,g1,a,hk2,hst,hbo,setObj,Sem.run,hb,World.putObj]
          ·exact VR.Hu g3 (.int _ _)
          ·refine ⟨hown,es'.modify i fun e => { e with key:=k' },by rw[Array.size_modify];exact bE hb,⟨by simp[hlen],fun j e' hj =>?_⟩,fun j u v hj =>?_⟩
           ·rw[Array.getElem?_modify]at hj
            split at hj
            ·obtain ⟨e2,h2,rfl⟩:=Option.map_eq_some_iff.1 hj
             exact hborn j e2 h2
            ·exact hborn j e' hj
           ·obtain ⟨e2,a2,b2,c2⟩:=hes j u v hj
            by_cases hij:i=j
            ·subst hij
             rw[a]at a2;cases a2
             rw[hi]at hj;cases hj
             exact ⟨{ e with key:=k' },by rw[Array.getElem?_modify,if_pos rfl,a];rfl,hk,c2⟩
            ·exact ⟨e2,by rw[Array.getElem?_modify,if_neg hij];exact a2,b2,c2⟩
   ·simp at h
  ·simp at h
 ·simp at h
theorem vn{B base:Nat}{M:List Nat}{t:TypeId}{m m' s s' x x':Value}{H':Heap}{wr:List Nat}(h:qQ m s x H=some (H',wr))(hr:Rel P B ρ H w)(hm:VR ρ m m')(hs:VR ρ s s')(hx:VR ρ x x')
  (hM:∀id∈wr,id<base->id∈M):∃w',(Instr.entryStore t m' s' x').run P w = .ok () w'/\Post P B base M ρ H w ρ H' w':=by
 unfold qQ at h
 split at h
 ·rename_i id
  split at h
  ·rename_i es hid
   obtain ⟨es2,he,hh⟩:=Option.map_eq_some_iff.1 h
   cases hh
   unfold AH at he
   split at he
   ·rename_i i
    split at he
    ·rename_i k v0 hi
     split at he
     ·rename_i h0
      cases he
      cases hs
      cases hm with
      | @map _ r hρ =>
       obtain ⟨hown,es',hb,⟨hlen,hborn⟩,hes⟩:=hr.obj id r _ hρ hid
       have hg:(getObj r.b).run P w = .ok (.map es' es'.size) w:=by simp only[getObj,Sem.run,hb]
       obtain ⟨e,a,b,c⟩:=hes i.toNat k v0 hi
       have hlt:i.toNat<es'.size:=(Array.getElem?_eq_some_iff.1 a).1
       have hfi:es'.findIdx? (fun e=>(e.born:Int) == i)=some i.toNat:=by
        rw[Array.findIdx?_eq_some_iff_getElem]
        refine ⟨hlt,?_,fun j hj =>?_⟩
        ·have:=hborn i.toNat _ (Array.getElem?_eq_getElem hlt)
         rw[this,beq_iff_eq];omega
        ·have:=hborn j _ (Array.getElem?_eq_getElem (Nat.lt_trans hj hlt))
         rw[this];simp;omega
       refine ⟨w.putObj r.b (.map (es'.modify i.toNat fun e => { e with val:=x' }) es'.size),?_,Post.put hr hρ hid rfl (by rw[hb];rfl) ?_ (fun hlt=>hM id (by simp) hlt)⟩
       ·simp[Instr.entryStore,hg,asInt,asIntOf,hfi,setObj,Sem.run,hb,World.putObj]
       ·refine ⟨hown,es'.modify i.toNat fun e => { e with val:=x' },by rw[Array.size_modify];exact bE hb,⟨by simp[hlen],fun j e' hj =>?_⟩,fun j u v hj =>?_⟩
        ·rw[Array.getElem?_modify]at hj
         split at hj
         ·obtain ⟨e2,h2,rfl⟩:=Option.map_eq_some_iff.1 hj
          exact hborn j e2 h2
         ·exact hborn j e' hj
        ·by_cases hij:i.toNat=j
         ·subst hij
          have hlt2:=(List.getElem?_eq_some_iff.1 hi).1
          rw[List.getElem?_set_self hlt2]at hj
          cases hj
          exact ⟨{ e with val:=x' },by rw[Array.getElem?_modify,if_pos rfl,a];rfl,b,hx⟩
         ·rw[List.getElem?_set_ne hij]at hj
          obtain ⟨e2,a2,b2,c2⟩:=hes j u v hj
          exact ⟨e2,by rw[Array.getElem?_modify,if_neg hij];exact a2,b2,c2⟩
     ·simp at he
    ·simp at he
   ·simp at he
  ·simp at h
 ·simp at h
theorem nk{B base:Nat}{M:List Nat}{o:Oper}{e e':Operand->Value}{v:Value}{H':Heap}{wr:List Nat}(h:dd P o.op e H=some (v,H',wr))(he:∀x∈o.op.operands,VR ρ (e x) (e' x))
  (hr:Rel P B ρ H w) (hM:∀id∈wr,id<base->id∈M) (hob:base<=H.length) :
  ∃v' w' ρ',GP ((execOp e' o).run P w) v' w'/\VR ρ' v v'/\Post P B base M ρ H w ρ' H' w':=by
 obtain ⟨dst,op,ty,pos,after,guard⟩:=o
 simp only at h he ⊢
 unfold dd at h
 split at h
 ·rename_i t a x
  obtain ⟨⟨H1,wr1⟩,hs,hh⟩:=Option.map_eq_some_iff.1 h
  cases hh
  obtain ⟨w',h1,h2⟩:=va hs hr (he a (by simp[Op.operands])) (he x (by simp[Op.operands])) hM
  exact ⟨undef,w',ρ,.inr ⟨by simp[execOp,h1],rfl⟩,VR.undef ρ,h2⟩
 ·rename_i s x t u
  split at h
  ·rename_i el hu
   obtain ⟨v',w',ρ',h1,h2,h3⟩:=tc h ⟨el,hu⟩ hr (he s (by simp[Op.operands,Call.operands])) (he x (by simp[Op.operands,Call.operands])) hM hob ty
   exact ⟨v',w',ρ',.inl (by simp[execOp,resolve,invoke,builtin,h1]),h2,h3⟩
  ·simp at h
 ·rename_i d s t ts
  obtain ⟨v',w',h1,h2,h3⟩:=yO h hr (he d (by simp[Op.operands,Call.operands])) (he s (by simp[Op.operands,Call.operands])) hM ts ty
  exact ⟨v',w',ρ,.inl (by simp[execOp,resolve,invoke,builtin,h1]),h2,h3⟩
 ·rename_i x t ts
  obtain ⟨v',w',h1,h2,h3⟩:=vp h hr (he x (by simp[Op.operands,Call.operands])) hM ts ty
  exact ⟨v',w',ρ,.inl (by simp[execOp,resolve,invoke,builtin,h1]),h2,h3⟩
 ·rename_i t m k x
  obtain ⟨⟨H1,wr1⟩,hs,hh⟩:=Option.map_eq_some_iff.1 h
  cases hh
  obtain ⟨w',h1,h2⟩:=sZ hs hr (he m (by simp[Op.operands])) (he k (by simp[Op.operands])) (he x (by simp[Op.operands])) hM
  exact ⟨undef,w',ρ,.inr ⟨by simp[execOp,h1],rfl⟩,VR.undef ρ,h2⟩
 ·rename_i t m k
  obtain ⟨u',w',h1,h2,h3⟩:=s5 h hr (he m (by simp[Op.operands])) (he k (by simp[Op.operands])) hM
  exact ⟨u',w',ρ,.inl (by simp[execOp,h1]),h2,h3⟩
 ·rename_i t m s x
  obtain ⟨⟨H1,wr1⟩,hs,hh⟩:=Option.map_eq_some_iff.1 h
  cases hh
  obtain ⟨w',h1,h2⟩:=vn (t:=t) hs hr (he m (by simp[Op.operands])) (he s (by simp[Op.operands])) (he x (by simp[Op.operands])) hM
  exact ⟨undef,w',ρ,.inr ⟨by simp[execOp,h1],rfl⟩,VR.undef ρ,h2⟩
 ·simp at h
theorem fB{w:World}{r:Nat}{o:Obj}(h:w.heap[r]?=some o)(hc:∀cs ty fz,o ≠ .cells cs ty fz):(getObj r).run P w = .ok o w:=by
 simp only[getObj,Sem.run,h]
theorem qt{t kt el:TypeId}{bm:Nat}{es:Array MapEntry}{clock:Nat}(hu:P.underlying t=some (.map kt el))(hb:w.heap[bm]?=some (.map es clock)) :
  (Instr.range t (.map (some bm))).run P w = .ok (.pointer (some ⟨w.heap.size,0,none⟩)) (w.alloc (.mapIter (some bm) clock #[] clock)):=by
 have hg:=fB (P:=P) hb (by intro _ _ _ h;cases h)
 simp[Instr.range,aA hu,hg]
theorem sx{ty:TypeId}{b bm:Nat}{es:Array MapEntry}{seen:Array Nat}(hb:w.heap[bm]?=some (.map es es.size))(hi:w.heap[b]?=some (.mapIter (some bm) es.size seen es.size))(hborn:∀(i:Nat) (e:MapEntry),es[i]?=some e->e.born=i) :
  ((∀i,i<es.size->i∈seen)/\(Instr.next (.pointer (some ⟨b,0,none⟩)) false ty).run P w = .ok (.tuple #[.bool false]) w) ∨
  ∃(i:Nat) (e:MapEntry) (w1:World),(w1=w∨w1=w.drew)/\i<es.size/\i ∉ seen/\es[i]?=some e/\(Instr.next (.pointer (some ⟨b,0,none⟩)) false ty).run P w = .ok (.tuple #[.bool true,e.key,e.val]) (w1.putObj b (.mapIter (some bm) es.size (seen.push i) es.size)):=by
 have hg:=fB (P:=P) hi (by intro _ _ _ h;cases h)
 have hgm:=fB (P:=P) hb (by intro _ _ _ h;cases h)
 have hall:∀e∈es.toList,e.born<es.size:=fun e he=>by
  obtain ⟨i,h⟩:=List.mem_iff_getElem?.1 he
  rw[Array.getElem?_toList]at h
  have:=hborn i e h
  have:=(Array.getElem?_eq_some_iff.1 h).1
  omega
 have Ie:(!seen.isEmpty && !es.isEmpty&&es.all (fun x=>decide (x.born ≥ es.size)))=false:=by
  cases he:es.isEmpty with
  |true=>simp
  |false =>
   have h0:0<es.size:=by
    rcases Nat.eq_zero_or_pos es.size with h|h
    ·simp[Array.isEmpty,h]at he
    ·exact h
   have:es.all (fun x=>decide (x.born ≥ es.size))=false:=by
    rw[Bool.eq_false_iff]
    intro h
    rw[Array.all_eq_true_iff_forall_mem]at h
    have h1:=h es[0] (Array.getElem_mem h0)
    have h2:=hall es[0] (by simp)
    simp at h1
    omega
   simp[this]
 have old:∀L:Array MapEntry,(∀x∈L.toList,x.born<es.size)->L.filter (fun x=>decide (x.born<es.size))=L/\L.filter (fun x=>decide (x.born ≥ es.size)) = #[]:=fun L hL=>by
  refine ⟨Array.filter_eq_self.2 (fun x hx=>by simpa using hL x (by simpa using hx)),?_⟩
  rw[Array.filter_eq_empty_iff]
  intro x hx
  have:=hL x (by simpa using hx)
  simp
  omega
 have hmem:∀x∈(Array.filter (fun e => !seen.contains e.born) es).toList,x.born<es.size:=fun x hx=>hall x (by simp at hx ⊢;exact hx.1)
 obtain ⟨o1,o2⟩:=old _ hmem
 have hset:∀(w1:World) (o':Obj),(w1=w∨w1=w.drew)->(setObj b o').run P w1 = .ok () (w1.putObj b o'):=fun w1 o' hw=>by
  have:w1.heap[b]?=some (.mapIter (some bm) es.size seen es.size):=by rcases hw with rfl|rfl <;> exact hi
  simp only[setObj,Sem.run,this]
  rfl
 unfold Instr.next
 simp only[Sem.run_bind,hg,hgm,Result.andThen_ok,Ie,Bool.false_eq_true,if_false,o1,o2,Array.append_empty]
 generalize hL:Array.filter (fun e => !seen.contains e.born) es=L at hmem
 by_cases h0:L.size=0
 ·left
  have hE:L = #[]:=Array.eq_empty_of_size_eq_zero h0
  refine ⟨fun i hi =>?_,?_⟩
  ·refine Classical.byContradiction fun hn =>?_
   have hm:es[i]∈Array.filter (fun e => !seen.contains e.born) es:=by
    rw[Array.mem_filter]
    refine ⟨Array.getElem_mem hi,?_⟩
    rw[hborn i _ (Array.getElem?_eq_getElem hi)]
    simpa using hn
   rw[hL,hE]at hm
   simp at hm
  ·subst hE
   simp[choose,Sem.run,Question.forced]
 ·right
  have hne:L.isEmpty=false:=by simp[Array.isEmpty,h0]
  have hch:∃(j:Nat) (w1:World),j<L.size/\(w1=w∨w1=w.drew)/\(choose (Question.mapNext L.size)).run P w = .ok j w1:=by
   by_cases hf:L.size<=1
   ·exact ⟨0,w,by omega,.inl rfl,by simp[choose,Sem.run,Question.forced,hf]⟩
   ·exact ⟨_,w.drew,Nat.mod_lt _ (by omega),.inr rfl,by
     simp only[choose,Sem.run,Question.forced,decide_eq_true_eq,hf,if_false,Question.cut]
     rfl⟩
  obtain ⟨j,w1,hj,hal,hrun⟩:=hch
  have hm:L[j]∈Array.filter (fun e => !seen.contains e.born) es:=by rw[hL];exact Array.getElem_mem hj
  rw[Array.mem_filter]at hm
  obtain ⟨m1,m2⟩:=hm
  obtain ⟨i,hi',hie⟩:=Array.mem_iff_getElem.1 m1
  have hbi:=hborn i L[j] (by rw[<- hie];exact Array.getElem?_eq_getElem hi')
  refine ⟨i,L[j],w1,hal,hi',?_,by rw[<- hie];exact Array.getElem?_eq_getElem hi',?_⟩
  ·rw[hbi]at m2;simpa using m2
  ·simp only[hne,Bool.false_eq_true,if_false,Array.empty_append,Array.size_map,hrun,Result.andThen_ok,Array.getElem?_map,Array.getElem?_eq_getElem hj,Option.map_some,Sem.run_bind,hset _ _ hal,Sem.run_pure,hbi]
theorem qu{b bm:Nat}{es:Array MapEntry}{seen:Array Nat}{i:Nat}{e:MapEntry}(hb:w.heap[bm]?=some (.map es es.size))(hi:w.heap[b]?=some (.mapIter (some bm) es.size seen es.size))(hborn:∀(i:Nat) (e:MapEntry),es[i]?=some e->e.born=i)(hl:seen.back?=some i)(he:es[i]?=some e) :
  (Instr.entry (.pointer (some ⟨b,0,none⟩))).run P w = .ok (.tuple #[e.key,e.val]) w:=by
 have hg:=fB (P:=P) hi (by intro _ _ _ h;cases h)
 have hgm:=fB (P:=P) hb (by intro _ _ _ h;cases h)
 have hf:es.find? (fun x=>x.born == i)=some e:=by
  have key:∀(l:List MapEntry) (k:Nat),(∀(j:Nat) (x:MapEntry),l[j]?=some x->x.born=j+k)->∀j x,l[j]?=some x->l.find? (fun x=>x.born == j+k)=some x:=by
   intro l
   induction l with
   |nil=>intro k _ j x h;simp at h
   |cons y l ih =>
    intro k hk j x h
    cases j with
    |zero =>
     simp at h;subst h
     have:=hk 0 y rfl
     rw[List.find?_cons,show (y.born == 0+k)=true by rw[this];exact beq_self_eq_true _]
    |succ j =>
     have h0:=hk 0 y rfl
     rw[List.find?_cons,show (y.born == j+1+k)=false by rw[h0];exact beq_false_of_ne (by omega)]
     have:=ih (k+1) (fun j x h=>by have:=hk (j+1) x (by simpa using h);omega) j x (by simpa using h)
     rw[show j+1+k=j+(k+1) by omega]
     exact this
  have:=key es.toList 0 (fun j x h=>by have:=hborn j x (by simpa using h);omega) i e (by simpa using he)
  rw[<- Array.find?_toList]
  exact this
 unfold Instr.entry
 simp only[Sem.run_bind,hg,hgm,Result.andThen_ok,hl,bne_self_eq_false,Bool.false_eq_true,if_false,hf,Sem.run_pure]
end Go.K
namespace Go.K
variable {P:Program}
def TR(ρ:Ren)(N:Nat)(T:Tm)(tmps:Array Value):Prop:=tmps.size=N/\∀t,t<N->VR ρ (T t) (tmps.getD t undef)
theorem TR.mono{ρ ρ':Ren}(hle:Ren.le ρ ρ'){N:Nat}{T:Tm}{tmps:Array Value}(h:TR ρ N T tmps):TR ρ' N T tmps:=⟨h.1,fun t ht=>(h.2 t ht).mono hle⟩
theorem TR.put{ρ:Ren}{N:Nat}{T:Tm}{a:Act}(h:TR ρ N T a.tmps){dst:Option Nat}{v v':Value}(hd:∀d,dst=some d->d<N)(hv:VR ρ v v'):TR ρ N (put T dst v) (a.put dst v').tmps:=by
 cases dst with
 |none=>exact h
 |some d =>
  refine ⟨by simp[Act.put,h.1],fun t ht =>?_⟩
  by_cases e:t=d
  ·subst e
   have:t<a.tmps.size:=by rw[h.1];exact ht
   simpa[K.put,upd,Act.put,this] using hv
  ·have e':d≠t:=Ne.symm e
   have:=h.2 t ht
   simpa[K.put,upd,e,Act.put,Array.getElem?_setIfInBounds_ne e'] using this
def DOK(n0:Nat)(ds:List Deferred)(w:World):Prop :=
 ∃Ds:List Nat,ds=Ds.map (fun D=>({ target:=.collected D,args:=#[] }:Deferred))/\Ds.Pairwise (· ≠ ·)/\∀D∈Ds,n0<=D/\w.heap[D]?=some (.deferred (some []))
theorem DOK.nil(n0:Nat)(w:World):DOK n0 [] w:=⟨[],rfl,.nil,fun _ h=>by cases h⟩
theorem jL{B:Nat}{ρ:Ren}{H:Heap}{w:World}(hr:Rel P B ρ H w){D:Nat}{x:Option (List Deferred)}(h:w.heap[D]?=some (.deferred x)):¬ OB ρ H D:=by
 rintro (⟨id,r,o,h1,h2,h3,rfl⟩|⟨F,k,r,z,cs,g,rfl⟩)
 rotate_left
 ·obtain ⟨cs',ty,hb,_⟩:=hr.fam.obj F k r z cs g;rw[h]at hb;cases hb
 have:=hr.obj id r o h1 h2
 cases o with
 |fam z cs=>simp[aa.owned]at h3
 |cells own z cs=>obtain ⟨_,_,cs',ty,fz,hb,_⟩:=this;rw[h]at hb;cases hb
 |map es=>obtain ⟨_,es',hb,_⟩:=this;rw[h]at hb;cases hb
 |iter m n s=>obtain ⟨_,_,rm,_,hb⟩:=this;rw[h]at hb;cases hb
 |loop _ _ _ _ _ _ _=>obtain ⟨_,l,hb,_⟩:=this;rw[h]at hb;cases hb
 |dead=>simp[aa.owned]at h3
theorem DOK.post{B base:Nat}{M:List Nat}{ρ ρ':Ren}{H H':Heap}{w w':World}{n0:Nat}{ds:List Deferred}(hr:Rel P B ρ H w)(h:DOK n0 ds w)(p:Post P B base M ρ H w ρ' H' w'):DOK n0 ds w':=by
 obtain ⟨Ds,h1,h2,h3⟩:=h
 refine ⟨Ds,h1,h2,fun D hD=>⟨(h3 D hD).1,?_⟩⟩
 have hd:=(h3 D hD).2
 rw[p.keep D (Array.getElem?_eq_some_iff.1 hd).1 (jL hr hd)]
 exact hd
def Enters(P:Program)(f:FuncId):Prop:=∀(args:Array Value) (w:World),(callFunc f args).run P w = .ok (.enter f args) w
theorem enters_of {f : FuncId} {fn : Func} {c : Code} (hf : P.funcs[f]? = some fn) (hname : (fn.name == "runtime.NumGoroutine") = false) (hb : fn.body = some c) : Enters P f := by
 intro args w
 have h1 : fn.name ≠ "runtime.NumGoroutine" := by simpa using hname
 simp[callFunc,hf,h1,hb]
def CQ(P:Program)(B:Nat)(base:Nat)(M:List Nat)(ρ:Ren)(H:Heap)(w:World)(Q:Value->Heap->Prop)(e:Ending)(w':World):Prop :=
 ∃v v' ρ' H',e = .returned v'/\VR ρ' v v'/\Post P B base M ρ H w ρ' H' w'/\Q v H'
def ad(P:Program)(f:FuncId)(args:List Value)(H:Heap)(M:List Nat)(Q:Value->Heap->Prop):Prop :=
 Enters P f/\∀(B:Nat) (ρ:Ren) (w:World) (args':Array Value),Rel P B ρ H w->VRl ρ args args'.toList->CallsIn Fence.wide 0 P f args' w (CQ P B H.length M ρ H w Q)
theorem ad.mono{f:FuncId}{args:List Value}{H:Heap}{M M':List Nat}{Q Q':Value->Heap->Prop}(h:ad P f args H M Q)(hM:∀id∈M,id<H.length->id∈M')(hQ:∀v H',Q v H'->Q' v H'):ad P f args H M' Q' :=
 ⟨h.1,fun B ρ w args' hr ha=>(h.2 B ρ w args' hr ha).mono fun e w' ⟨v,v',ρ',H',h1,h2,h3,h4⟩=>⟨v,v',ρ',H',h1,h2,h3.weaken (Nat.le_refl _) hM,hQ _ _ h4⟩⟩
theorem ad.post{f:FuncId}{args:List Value}{H:Heap}{M:List Nat}{Q Q':Value->Heap->Prop}(h:ad P f args H M Q)(hQ:∀v H',Q v H'->Q' v H'):ad P f args H M Q':=h.mono (fun _ h _=>h) hQ
def Hands(P:Program)(r:Result Next)(R:Ending->World->Prop):Prop :=
 match r with
 | .ok (.enter f args) w'=>CallsIn Fence.wide 0 P f args w' R
 | .ok (.round l f tmps assign body) w'=>RoundIn Fence.wide 0 P l f tmps assign body w' R
 |_=>False
def gP(P:Program)(fv:Value)(args:List Value)(H:Heap)(M:List Nat)(Q:Value->Heap->Prop):Prop :=
 ∀(B:Nat) (ρ:Ren) (w:World) (fv':Value) (args':Array Value),Rel P B ρ H w->VR ρ fv fv'->VRl ρ args args'.toList ->
  Hands P ((do let d<-Deferred.ofValue fv' args';invoke d.target d.args:Sem Next).run P w) (CQ P B H.length M ρ H w Q)
theorem gP.func{f:FuncId}{first cap:Array Value}{args:List Value}{H:Heap}{M:List Nat}{Q:Value->Heap->Prop}(h:ad P f (first.toList++args++cap.toList) H M Q) :
  gP P (.func (.func f) first cap) args H M Q:=by
 intro B ρ w fv' args' hr hf ha
 cases hf with
 | @func _ _ first' _ cap' g1 g2 g3 g4 =>
  have hrun:((do let d<-Deferred.ofValue (.func (.func f) first' cap') args';invoke d.target d.args:Sem Next)).run P w = .ok (.enter f (first'++args'++cap')) w:=by
   simp only[Deferred.ofValue,invoke]
   exact h.1 _ w
  rw[hrun]
  refine h.2 B ρ w _ hr ?_
  rw[Array.toList_append,Array.toList_append]
  have l1:VRl ρ first.toList first'.toList:=⟨by simpa using g1,fun i a b x y=>g2 i a b (by simpa using x) (by simpa using y)⟩
  have l2:VRl ρ cap.toList cap'.toList:=⟨by simpa using g3,fun i a b x y=>g4 i a b (by simpa using x) (by simpa using y)⟩
  exact VRl.append (VRl.append l1 ha) l2
theorem gP.mono{fv:Value}{args:List Value}{H:Heap}{M M':List Nat}{Q Q':Value->Heap->Prop}(h:gP P fv args H M Q)(hM:∀id∈M,id<H.length->id∈M')(hQ:∀v H',Q v H'->Q' v H'):gP P fv args H M' Q':=by
 intro B ρ w fv' args' hr hf ha
 have:=h B ρ w fv' args' hr hf ha
 unfold Hands at *
 have key:∀e w',CQ P B H.length M ρ H w Q e w'->CQ P B H.length M' ρ H w Q' e w':=fun e w' ⟨v,v',ρ',H',h1,h2,h3,h4⟩=>⟨v,v',ρ',H',h1,h2,h3.weaken (Nat.le_refl _) hM,hQ _ _ h4⟩
 split at this
 ·exact CallsIn.mono this key
 ·exact RoundIn.mono this key
 ·exact this.elim
def bY(o:Oper)(ops:Array Oper)(T:Tm):Bool :=
 match o.guard with
 |none=>true
 |some (g,want) =>
  match (ops[g]?).bind (·.dst) with
  |some d=>(match T d with| .bool b=>b == want|_=>false)
  |none=>false
def ga(o:Oper)(ops:Array Oper)(T:Tm):Bool :=
 match o.guard with
 |none=>true
 |some (g,_) =>
  match (ops[g]?).bind (·.dst) with
  |some d=>(match T d with| .chan _=>false|_=>true)
  |none=>true
def kQ(P:Program)(base:Nat)(M:List Nat)(o:Op)(e:Operand->Value)(H:Heap)(K:Value->Heap->Prop):Prop :=
 match o with
 | .range t x => ∃m es kt el,P.underlying t=some (.map kt el)/\e x = .map (some m)/\H[m]?=some (.map es)/\K (.pointer (some ⟨H.length,0,none⟩)) (H ++ [.iter m es.length []])
 | .next it s=>s=false/\∃id m n seen es,e it = .pointer (some ⟨id,0,none⟩)/\H[id]?=some (.iter m n seen)/\H[m]?=some (.map es)/\es.length=n/\(id<base->id∈M) /\
   (∀i,i<n->i ∉ seen->K (.tuple #[.bool true,.chan none,.chan none]) (H.set id (.iter m n (seen ++ [i]))))/\((∀i,i<n->i∈seen)->K (.tuple #[.bool false]) H)
 | .entry it => ∃id m n seen es v,e it = .pointer (some ⟨id,0,none⟩)/\H[id]?=some (.iter m n seen)/\H[m]?=some (.map es)/\es.length=n/\v7 es seen=some v/\K v H
 |_=>False
def yd(P:Program)(base:Nat)(M:List Nat)(o:Oper)(e:Operand->Value)(H:Heap)(K:Value->Heap->Prop):Prop :=
 match dE o.op with
 | .pure => ∃v rd,cO P o.op e H=some (v,rd)/\K v H
 | .alloc => ∃v ob,ia P o.op e H.length=some (v,ob)/\K v (H ++ [ob])
 | .write => ∃v H' wr,dd P o.op e H=some (v,H',wr)/\(∀id∈wr,id<base->id∈M)/\K v H'
 | .call=>match o.op with
  | .call ⟨.value f,args,_⟩ => ∃Mc,gP P (e f) (args.toList.map e) H Mc K/\(∀id∈Mc,id<base->id∈M)
  |_=>False
 | .iter=>kQ P base M o.op e H K
 | .bad=>False
def aL(P:Program)(base:Nat)(M:List Nat)(T:Tm)(H:Heap)(T2:Tm)(H2:Heap):Prop :=
 ∀(B:Nat) (ρ:Ren) (w:World) (N:Nat) (tmps:Array Value),Rel P B ρ H w->base<=H.length->TR ρ N T tmps->∃ρ',Post P B base M ρ H w ρ' H2 w/\TR ρ' N T2 tmps
theorem aL.refl{base:Nat}{M:List Nat}{T:Tm}{H:Heap}:aL P base M T H T H:=fun B ρ w N tmps hr _ hT=>⟨ρ,Post.refl hr,hT⟩
theorem aL.trans{base:Nat}{M:List Nat}{T T1 T2:Tm}{H H1 H2:Heap}(h:aL P base M T H T1 H1)(k:aL P base M T1 H1 T2 H2):aL P base M T H T2 H2:=by
 intro B ρ w N tmps hr hb hT
 obtain ⟨ρ1,p1,t1⟩:=h B ρ w N tmps hr hb hT
 obtain ⟨ρ2,p2,t2⟩:=k B ρ1 w N tmps p1.rel (Nat.le_trans hb p1.len) t1
 exact ⟨ρ2,p1.trans p2,t2⟩
def wv(P:Program)(base:Nat)(M:List Nat)(ops:Array Oper):List Oper->Tm->Heap->(Tm->Heap->Prop)->Prop
 | [],T,H,Q=>Q T H
 |o :: os,T,H,Q => ∃T2 H2,aL P base M T H T2 H2 /\
  ga o ops T2=true/\if bY o ops T2 then yd P base M o (ev T2) H2 (fun v H'=>wv P base M ops os (put T2 o.dst v) H' Q)
  else wv P base M ops os (put T2 o.dst undef) H2 Q
def jp(N G:Nat)(o:Oper):Bool :=
 (match o.dst with|some d=>decide (d<N)|none=>true) &&
 o.op.operands.toList.all (fun x=>match x with| .tmp t=>decide (t<N)| .const v=>fZ v| .global g=>decide (g<G)| .func _=>true) &&
 (match o.op with| .defer _=>false|_=>true)&&(match o.guard with|none=>true|some _=>true)
theorem Gx{B N:Nat}{ρ:Ren}{H:Heap}{w:World}{T:Tm}{a:Act}(hr:Rel P B ρ H w)(hT:TR ρ N T a.tmps){o:Oper}(ho:jp N P.globals.size o=true) :
  ∀x∈o.op.operands,VR ρ (ev T x) (a.eval x):=by
 intro x hx
 simp only[jp,Bool.and_eq_true,List.all_eq_true]at ho
 have:=ho.1.1.2 x (by simpa using hx)
 cases x with
 |tmp t=>exact hT.2 t (by simpa using this)
 |const v=>exact (fQ (by simpa using this):VR ρ v v)
 |global g =>
  obtain ⟨r,h1,h2,h3⟩:=hr.cS g (by simpa using this)
  have:=VR.ptr (o:=0) h1
  rw[h2,h3]at this
  exact this
 |func f=>exact .func rfl (by intro i v v' h;simp at h) rfl (by intro i v v' h;simp at h)
theorem uM{N:Nat}{ρ:Ren}{T:Tm}{a:Act}(hT:TR ρ N T a.tmps){ops:Array Oper}(hops:∀o∈ops,∀d,o.dst=some d->d<N)(o:Oper)(hkn:ga o ops T=true):Region.wanted o (yielded ops a.tmps)=bY o ops T:=by
 unfold ga at hkn
 unfold Region.wanted bY yielded
 cases hg:o.guard with
 |none=>rfl
 |some gw =>
  obtain ⟨g,want⟩:=gw
  simp only
  cases hd:(ops[g]?).bind (·.dst) with
  |none=>rfl
  |some d =>
   obtain ⟨og,h1,h2⟩:=Option.bind_eq_some_iff.1 hd
   have hlt:d<N:=hops og (Array.mem_of_getElem? h1) d h2
   have hlt':d<a.tmps.size:=by rw[hT.1];exact hlt
   have hv:=hT.2 d hlt
   have hge:a.tmps.getD d undef=a.tmps[d]:=by simp[Array.getD,hlt']
   rw[hge]at hv
   simp only[Option.bind_some,Array.getElem?_eq_getElem hlt']
   generalize a.tmps[d]=q at hv
   simp only[hg,hd]at hkn
   generalize T d=p at hv hkn
   cases hv <;> first
    |rfl
    |(rename_i b;cases b <;> cases want <;> rfl)
    |(cases hkn)
def Fw(ro:Option Nat):Fence:={ Fence.wide with round:=ro }
theorem jI{ro:Option Nat}{e:Operand->Value}{o:Oper}{N G:Nat}(ho:jp N G o=true):o.semAt ro e=execOp e o:=by
 refine Oper.semAt_eq ro e o (fun c hc =>?_)
 simp only[jp,Bool.and_eq_true]at ho
 rw[hc]at ho
 simp at ho
theorem dK{N G:Nat}{o:Oper}(ho:jp N G o=true):∀d,o.dst=some d->d<N:=by
 intro d hd
 simp only[jp,Bool.and_eq_true]at ho
 have:=ho.1.1.1
 rw[hd]at this
 simpa using this
theorem kQ.mono{base:Nat}{M:List Nat}{o:Op}{e:Operand->Value}{H:Heap}{K K':Value->Heap->Prop}(h:kQ P base M o e H K)(hq:∀v H',K v H'->K' v H'):kQ P base M o e H K':=by
 unfold kQ at h ⊢
 split at h
 ·obtain ⟨m,es,kt,el,h1,h2,h3,h4⟩:=h;exact ⟨m,es,kt,el,h1,h2,h3,hq _ _ h4⟩
 ·obtain ⟨h0,id,m,n,seen,es,h1,h2,h3,h4,h5,h6,h7⟩:=h;exact ⟨h0,id,m,n,seen,es,h1,h2,h3,h4,h5,fun i a b=>hq _ _ (h6 i a b),fun a=>hq _ _ (h7 a)⟩
 ·obtain ⟨id,m,n,seen,es,v,h1,h2,h3,h4,h5,h6⟩:=h;exact ⟨id,m,n,seen,es,v,h1,h2,h3,h4,h5,hq _ _ h6⟩
 ·exact h.elim
theorem yM{B base:Nat}{M:List Nat}{o:Oper}{e e':Operand->Value}{H:Heap}{K:Value->Heap->Prop}{ρ:Ren}{w:World}(hk:kQ P base M o.op e H K)(he:∀x∈o.op.operands,VR ρ (e x) (e' x))(hr:Rel P B ρ H w)(hb:base<=H.length) :
  ∃v v' w' ρ' H',(execOp e' o).run P w = .ok (.value v') w'/\VR ρ' v v'/\Post P B base M ρ H w ρ' H' w'/\K v H':=by
 obtain ⟨dst,op,ty,pos,after,guard⟩:=o
 simp only at hk he ⊢
 unfold kQ at hk
 split at hk
 ·rename_i t x
  obtain ⟨m,es,kt,el,h1,h2,h3,h4⟩:=hk
  have hx:=he x (by simp[Op.operands])
  rw[h2]at hx
  generalize hq:e' x=q at hx
  cases hx with
  | @map _ r hm =>
   obtain ⟨_,es',hbm,⟨hlen,_⟩,_⟩:=hr.obj m r _ hm h3
   have hno:ρ H.length=none:=by
    cases hq:ρ H.length with
    |none=>rfl
    |some r=>exact absurd (hr.dom _ _ hq) (Nat.lt_irrefl _)
   have hml:m≠H.length:=fun c=>by subst c;rw[hno]at hm;cases hm
   refine ⟨_,_,_,_,_,by simp only[execOp,hq,Sem.run_bind,qt h1 hbm,Result.andThen_ok,Sem.run_pure];rfl,?_,Post.alloc (ri:=⟨w.heap.size,0,0,0,true⟩) hr rfl hb ?_,h4⟩
   ·exact .ptr (ρ:=ρ.set H.length ⟨w.heap.size,0,0,0,true⟩) (o:=0) (Ren.av _ _ _)
   ·refine ⟨rfl,rfl,r,by rw[Ren.au hml];exact hm,?_⟩
    rw[hlen]
    exact World.alloc_heap_new w _
 ·rename_i it s
  obtain ⟨rfl,id,m,n,seen,es,h1,h2,h3,h4,h5,h6,h7⟩:=hk
  have hx:=he it (by simp[Op.operands])
  rw[h1]at hx
  generalize hq:e' it=q at hx
  cases hx with
  | @ptr _ _ r hρ =>
   obtain ⟨hown,hs,rm,hm,hbi⟩:=hr.obj id r _ hρ h2
   obtain ⟨_,es',hbm,⟨hlen,hborn⟩,_⟩:=hr.obj m rm _ hm h3
   have hn:n=es'.size:=by omega
   subst hn
   rw[hs]at hq
   rcases sx (P:=P) (ty:=ty) hbm hbi hborn with ⟨g1,g2⟩|⟨i,e1,w1,g1,g2,g3,g4,g5⟩
   ·exact ⟨_,_,_,ρ,_,by simp only[execOp,hq,Nat.zero_add,Sem.run_bind,g2,Result.andThen_ok,Sem.run_pure],.tuple rfl (fun i v v' a b=>by rw[a]at b;cases b;cases i with|zero=>cases a;exact .bool _|succ i=>simp at a),Post.refl hr,h7 (fun i hi=>by have:=g1 i hi;simpa using this)⟩
   ·have hnx:=h6 i g2 (by simpa using g3)
    have hp1:Post P B base M ρ H w ρ H w1:=by
     rcases g1 with e|e
     ·rw[e];exact Post.refl hr
     ·rw[e];exact Post.drew hr
    have hb1:w1.heap[r.b]?=some (.mapIter (some rm.b) es'.size ⟨seen⟩ es'.size):=by rcases g1 with e|e <;> (rw[e];exact hbi)
    have hp2:Post P B base M ρ H w1 ρ (H.set id (.iter m es'.size (seen ++ [i]))) (w1.putObj r.b (.mapIter (some rm.b) es'.size ((⟨seen⟩:Array Nat).push i) es'.size)) :=
     Post.put hp1.rel hρ h2 rfl (by rw[hb1];rfl) ⟨hown,hs,rm,hm,by rw[show (⟨seen ++ [i]⟩:Array Nat)=(⟨seen⟩:Array Nat).push i from Array.toList_inj.1 (by simp)];exact bE hb1⟩ (fun hlt=>h5 hlt)
    refine ⟨_,_,_,ρ,_,by simp only[execOp,hq,Nat.zero_add,Sem.run_bind,g5,Result.andThen_ok,Sem.run_pure];rfl,?_,hp1.trans hp2,hnx⟩
    refine .tuple rfl (fun i v v' a b =>?_)
    match i with
    |0=>cases a;cases b;exact .bool _
    |1=>cases a;exact .junk _
    |2=>cases a;exact .junk _
    |i+3=>simp at a
 ·rename_i it
  obtain ⟨id,m,n,seen,es,v,h1,h2,h3,h4,h5,h6⟩:=hk
  have hx:=he it (by simp[Op.operands])
  rw[h1]at hx
  generalize hq:e' it=q at hx
  cases hx with
  | @ptr _ _ r hρ =>
   obtain ⟨hown,hs,rm,hm,hbi⟩:=hr.obj id r _ hρ h2
   obtain ⟨_,es',hbm,⟨hlen,hborn⟩,hes⟩:=hr.obj m rm _ hm h3
   have hn:n=es'.size:=by omega
   subst hn
   rw[hs]at hq
   unfold v7 at h5
   obtain ⟨i,hi,h5⟩:=Option.bind_eq_some_iff.1 h5
   obtain ⟨⟨k,x⟩,hkx,rfl⟩:=Option.map_eq_some_iff.1 h5
   obtain ⟨e1,a1,a2,a3⟩:=hes i k x hkx
   have hrun:=qu (P:=P) hbm hbi hborn (i:=i) (e:=e1) (by rw[<- Array.getLast?_toList];exact hi) a1
   refine ⟨_,_,_,ρ,_,by simp only[execOp,hq,Nat.zero_add,Sem.run_bind,hrun,Result.andThen_ok,Sem.run_pure];rfl,?_,Post.refl hr,h6⟩
   exact (let q:VRl ρ [k,x] [e1.key,e1.val]:=VRl.cons a2 (VRl.cons a3 (VRl.nil ρ)); .tuple q.1 (fun i a b x y=>q.2 i a b (by simpa using x) (by simpa using y)))
 ·exact hk.elim
theorem sU{B base N:Nat}{M:List Nat}{ro:Option Nat}{o:Oper}{T:Tm}{H:Heap}{K:Value->Heap->Prop}(hk:yd P base M o (ev T) H K){ρ:Ren}{w:World}{a:Act}(hr:Rel P B ρ H w)(hb:base<=H.length)
  (hT:TR ρ N T a.tmps) (ho:jp N P.globals.size o=true) {next:Act->World->Prop} {Q:Exit->Act->World->Prop}
  (hnext:∀v v' ρ' H' w',VR ρ' v v'->Post P B base M ρ H w ρ' H' w'->K v H'->next (a.put o.dst v') w'):o.wpIn (Fw ro) 0 P a w next Q:=by
 have he:=Gx hr hT ho
 refine ⟨fun _ _=>trivial,?_⟩
 show o.uponIn (Fw ro) 0 P a next Q ((o.semAt ro a.eval).run P w)
 rw[jI ho]
 unfold yd at hk
 split at hk
 ·obtain ⟨v,rd,h1,h2⟩:=hk
  obtain ⟨v',h3,h4⟩:=pG (w:=w) h1 he (fun id _=>kW hr id) (fun b m hb=>(hr.mem b m hb).1)
  rw[h3]
  exact hnext v v' ρ H w h4 (Post.refl hr) h2
 ·obtain ⟨v,ob,h1,h2⟩:=hk
  have hno:ρ H.length=none:=by
   cases hq:ρ H.length with
   |none=>rfl
   |some r=>exact absurd (hr.dom _ _ hq) (Nat.lt_irrefl _)
  obtain ⟨v',obj,ri,h3,h4,h5,h6⟩:=nC h1 he hno w
  rw[h3]
  exact hnext v v' _ _ _ h5 (Post.alloc hr h4 hb h6) h2
 ·obtain ⟨v,H',wr,h1,h2,h3⟩:=hk
  obtain ⟨v',w',ρ',h4,h5,h6⟩:=nk h1 he hr h2 hb
  rcases h4 with h4|⟨h4,h7⟩
  ·rw[h4];exact hnext v v' ρ' H' w' h5 h6 h3
  ·rw[h4];rw[h7]at h5;exact hnext v undef ρ' H' w' h5 h6 h3
 ·split at hk
  ·rename_i f args tys hop
   obtain ⟨Mc,h1,h2⟩:=hk
   have hrun:execOp a.eval o=(do let d<-Deferred.ofValue (a.eval f) (args.map a.eval);invoke d.target d.args:Sem Next):=by
    obtain ⟨dst,op,ty,pos,after,guard⟩:=o
    simp only at hop
    subst hop
    rfl
   have hop2:∀x,x∈(#[f]++args)->x∈o.op.operands:=by
    intro x hx
    obtain ⟨dst,op,ty,pos,after,guard⟩:=o
    simp only at hop
    subst hop
    simpa[Op.operands,Call.operands] using hx
   have:=h1 B ρ w (a.eval f) (args.map a.eval) hr (he f (hop2 f (by simp))) (by
    rw[Array.toList_map]
    exact mj (fun x hx=>he x (hop2 x (by simp[Array.mem_toList_iff.1 hx]))))
   rw[hrun]
   generalize ((do let d<-Deferred.ofValue (a.eval f) (args.map a.eval);invoke d.target d.args:Sem Next)).run P w=r at this
   unfold Hands at this
   split at this
   ·rename_i g xs w1
    refine ⟨fun h=>by simp[Fw,Fence.wide]at h,?_⟩
    show CallsIn (Fw ro) 0 P g xs w1 _
    refine CallsIn.mono (F:=Fw ro) this ?_
    rintro e w' ⟨v,v',ρ',H',rfl,g2,g3,g4⟩
    exact hnext v v' ρ' H' w' g2 (g3.weaken hb (fun id hid hlt=>h2 id hid hlt)) g4
   ·rename_i l g tm asg bd w1
    refine ⟨fun h=>by simp[Fw,Fence.wide]at h,?_⟩
    show RoundIn (Fw ro) 0 P l g tm asg bd w1 _
    refine RoundIn.mono (F:=Fw ro) this ?_
    rintro e w' ⟨v,v',ρ',H',rfl,g2,g3,g4⟩
    exact hnext v v' ρ' H' w' g2 (g3.weaken hb (fun id hid hlt=>h2 id hid hlt)) g4
   ·exact this.elim
  ·exact hk.elim
 ·obtain ⟨v,v',w',ρ',H',h1,h2,h3,h4⟩:=yM hk he hr hb
  rw[h1]
  exact hnext v v' ρ' H' w' h2 h3 h4
 ·exact hk.elim
theorem vg{B base N:Nat}{M:List Nat}{ro:Option Nat}{ops:Array Oper}(hops:∀o∈ops,jp N P.globals.size o=true){Q:Tm->Heap->Prop}{Qr:Exit->Act->World->Prop}{ρ0:Ren}{H0:Heap}{w0:World}{ds:List Deferred}
  (hQ:∀ρ' T' H' w' a',Post P B base M ρ0 H0 w0 ρ' H' w'->TR ρ' N T' a'.tmps->a'.defers=ds->Q T' H'->Qr .normal a' w') :
  ∀(rest:List Oper) (T:Tm) (H:Heap) (ρ:Ren) (w:World) (a:Act),(∀o∈rest,o∈ops)->Post P B base M ρ0 H0 w0 ρ H w->base<=H.length->TR ρ N T a.tmps->a.defers=ds->wv P base M ops rest T H Q ->
   wpListIn (Fw ro) 0 P ops Qr rest a w:=by
 intro rest
 induction rest with
 |nil=>intro T H ρ w a _ hp hb hT hd hk;exact hQ ρ T H w a hp hT hd hk
 |cons o os ih =>
  intro T H ρ w a hin hp hb hT hd hk
  have ho:=hops o (hin o (List.mem_cons_self ..))
  simp only[wv]at hk
  obtain ⟨T2,H2,hg,hkn,hk⟩:=hk
  obtain ⟨ρ2,p2,hT2⟩:=hg _ ρ w N a.tmps hp.rel hb hT
  replace hp:=hp.trans p2
  replace hb:=Nat.le_trans hb p2.len
  clear hT hg p2
  have hT:=hT2
  have hw:=uM hT (fun o h d hd=>dK (hops o h) d hd) o hkn
  unfold wpListIn
  rw[hw]
  split at hk
  ·rename_i hwt
   rw[if_pos hwt]
   refine sU hk hp.rel hb hT ho ?_
   intro v v' ρ' H' w' hv hpost hK
   refine ih _ H' ρ' w' _ (fun o h=>hin o (List.mem_cons_of_mem _ h)) (hp.trans hpost) (Nat.le_trans hb hpost.len) (TR.put (hT.mono hpost.ext) (dK ho) hv) ?_ hK
   cases o.dst <;> exact hd
  ·rename_i hwt
   rw[if_neg hwt]
   refine ⟨fun _ _=>trivial,ih _ H2 ρ2 w _ (fun o h=>hin o (List.mem_cons_of_mem _ h)) hp hb (TR.put hT (dK ho) (VR.undef ρ2)) ?_ hk⟩
   cases o.dst <;> exact hd
def KW(P:Program)(ro:Option Nat)(N base:Nat)(M:List Nat)(c:Code)(T:Tm)(H:Heap)(Q:Exit->Tm->Heap->Prop):Prop :=
 ∀(B:Nat) (ρ:Ren) (w:World) (a:Act) (n0:Nat),Rel P B ρ H w->base<=H.length->TR ρ N T a.tmps->n0<=w.heap.size->DOK n0 a.defers w ->
  c.wpIn (Fw ro) 0 P (fun e a' w' => ∃ρ' T' H',Post P B base M ρ H w ρ' H' w'/\TR ρ' N T' a'.tmps/\DOK n0 a'.defers w'/\Q e T' H') a w
def kd(K:Tm->Heap->Prop)(Q:Exit->Tm->Heap->Prop):Exit->Tm->Heap->Prop
 | .normal,T,H=>K T H
 |e,T,H=>Q e T H
def nH(id:Nat)(Q:Exit->Tm->Heap->Prop):Exit->Tm->Heap->Prop
 | .exit id',T,H=>if id'=id then Q .normal T H else Q (.exit id') T H
 |e,T,H=>Q e T H
section rules
variable {ro:Option Nat} {N base:Nat} {M:List Nat} {T:Tm} {H:Heap} {Q:Exit->Tm->Heap->Prop}
theorem KW.mono{c:Code}{Q':Exit->Tm->Heap->Prop}(h:KW P ro N base M c T H Q)(hq:∀e T' H',Q e T' H'->Q' e T' H'):KW P ro N base M c T H Q' :=
 fun B ρ w a n0 h1 h2 h3 h4 h5=>wpIn_mono (h B ρ w a n0 h1 h2 h3 h4 h5) fun e a' w' ⟨ρ',T',H',g1,g2,g3,g4⟩=>⟨ρ',T',H',g1,g2,g3,hq _ _ _ g4⟩
theorem KW.ghost{c:Code}{T2:Tm}{H2:Heap}(hg:aL P base M T H T2 H2)(h:KW P ro N base M c T2 H2 Q):KW P ro N base M c T H Q:=by
 intro B ρ w a n0 h1 h2 h3 h4 h5
 obtain ⟨ρ1,p,t⟩:=hg B ρ w N a.tmps h1 h2 h3
 refine wpIn_mono (h B ρ1 w a n0 p.rel (Nat.le_trans h2 p.len) t h4 h5) ?_
 rintro e a' w' ⟨ρ',T',H',g1,g2,g3,g4⟩
 exact ⟨ρ',T',H',p.trans g1,g2,g3,g4⟩
theorem KW.skip(h:Q .normal T H):KW P ro N base M .skip T H Q:=fun B ρ w a n0 h1 h2 h3 h4 h5=>wpIn_skip ⟨ρ,T,H,Post.refl h1,h3,h5,h⟩
theorem KW.label{l:Nat}(h:Q .normal T H):KW P ro N base M (.label l) T H Q:=fun B ρ w a n0 h1 h2 h3 h4 h5=>wpIn_label ⟨ρ,T,H,Post.refl h1,h3,h5,h⟩
theorem KW.ret(h:Q .ret T H):KW P ro N base M .ret T H Q:=fun B ρ w a n0 h1 h2 h3 h4 h5=>wpIn_ret ⟨ρ,T,H,Post.refl h1,h3,h5,h⟩
theorem KW.exit{id:Nat}(h:Q (.exit id) T H):KW P ro N base M (.exit id) T H Q:=fun B ρ w a n0 h1 h2 h3 h4 h5=>wpIn_exit ⟨ρ,T,H,Post.refl h1,h3,h5,h⟩
theorem KW.seq{x y:Code}(h:KW P ro N base M x T H (kd (fun T' H'=>KW P ro N base M y T' H' Q) Q)):KW P ro N base M (.seq x y) T H Q:=by
 intro B ρ w a n0 h1 h2 h3 h4 h5
 refine wpIn_seq (wpIn_mono (h B ρ w a n0 h1 h2 h3 h4 h5) ?_)
 rintro e a' w' ⟨ρ',T',H',g1,g2,g3,g4⟩
 cases e with
 |normal =>
  refine wpIn_mono (g4 B ρ' w' a' n0 g1.rel (Nat.le_trans h2 g1.len) g2 (Nat.le_trans h4 g1.size) g3) ?_
  rintro e a2 w2 ⟨ρ2,T2,H2,k1,k2,k3,k4⟩
  exact ⟨ρ2,T2,H2,g1.trans k1,k2,k3,k4⟩
 |_=>exact ⟨ρ',T',H',g1,g2,g3,g4⟩
theorem KW.block{id:Nat}{c:Code}(h:KW P ro N base M c T H (nH id Q)):KW P ro N base M (.block id c) T H Q:=by
 intro B ρ w a n0 h1 h2 h3 h4 h5
 refine wpIn_block (wpIn_mono (h B ρ w a n0 h1 h2 h3 h4 h5) ?_)
 rintro e a' w' ⟨ρ',T',H',g1,g2,g3,g4⟩
 cases e with
 |exit id' =>
  simp only[nH]at g4
  simp only[Exit.inBlock]
  split at g4
  ·rename_i hid;rw[if_pos hid];exact ⟨ρ',T',H',g1,g2,g3,g4⟩
  ·rename_i hid;rw[if_neg hid];exact ⟨ρ',T',H',g1,g2,g3,g4⟩
 |_=>exact ⟨ρ',T',H',g1,g2,g3,g4⟩
theorem dT{b:Frame}{a:Act}{k:List Item}{cs:List Frame}{w:World}{c:Code}:step P (lone (b.atR a (.code (.scope c) :: k)) cs w) = .next (lone (b.atR a (.code c :: .inScope c :: k)) cs w) :=
 step_lone_go (by simp[stepG,stepG.exec,Frame.atR])
theorem oz{b:Frame}{a:Act}{k:List Item}{cs:List Frame}{w:World}{c:Code}:step P (lone (b.atR a (.inScope c :: k)) cs w) = .next (lone (b.atR a k) cs w) :=
 step_lone_go (by simp[stepG,stepG.exec,Frame.atR])
def CE(Q:Exit->Act->World->Prop):Exit->Act->World->Prop
 | .goto _,_,_=>False
 |e,a,w=>Q e a w
theorem uL{F:Fence}{n:Nat}{Q:Exit->Act->World->Prop}{a:Act}{w:World}{c:Code}(h:c.wpIn F n P (CE Q) a w):(Code.scope c).wpIn F n P Q a w:=by
 intro b k cs hro hb hr
 have h0:(lone (b.atR a (.code (.scope c) :: k)) cs w).fenced P F:=fenced_calm hb hr rfl
 obtain ⟨e,a₁,w₁,hq,harr⟩:=h b (.inScope c :: k) cs hro hb hr
 cases e with
 |normal=>exact ⟨.normal,a₁,w₁,hq,.head h0 dT (StepsIn.trans harr (.one (fenced_calm hb hr rfl) oz))⟩
 |exit id' =>
  have hx:exitTo id' (.inScope c :: k)=exitTo id' k:=by simp[exitTo]
  exact ⟨.exit id',a₁,w₁,hq,fun k' hk => .head h0 dT (harr.1 k' (by rw[hx];exact hk)),
   fun hr' hk=>let ⟨k₁,h1,h2⟩:=harr.2 hr' (by rw[hx];exact hk); ⟨k₁,h1,.head h0 dT h2⟩⟩
 |goto l=>exact hq.elim
 |ret=>exact ⟨_,a₁,w₁,hq,.of_steps (.one h0 dT) harr⟩
 |panic ch=>exact ⟨_,a₁,w₁,hq,.of_steps (.one h0 dT) harr⟩
 |outgrown=>exact ⟨_,a₁,w₁,hq,.of_steps (.one h0 dT) harr⟩
def CG(Q:Exit->Tm->Heap->Prop):Exit->Tm->Heap->Prop
 | .goto _,_,_=>False
 |e,T,H=>Q e T H
theorem KW.scope{c:Code}(h:KW P ro N base M c T H (CG Q)):KW P ro N base M (.scope c) T H Q:=by
 intro B ρ w a n0 h1 h2 h3 h4 h5
 refine uL (wpIn_mono (h B ρ w a n0 h1 h2 h3 h4 h5) ?_)
 rintro e a' w' ⟨ρ',T',H',g1,g2,g3,g4⟩
 cases e with
 |goto l=>exact g4.elim
 |_=>exact ⟨ρ',T',H',g1,g2,g3,g4⟩
theorem KW.cond{t:Nat}{x y:Code}{b:Bool}(ht:t<N)(hc:T t = .bool b)(h:KW P ro N base M (if b then x else y) T H Q):KW P ro N base M (.cond (.tmp t) x y) T H Q:=by
 intro B ρ w a n0 h1 h2 h3 h4 h5
 refine wpIn_cond (t:=b) ?_ (h B ρ w a n0 h1 h2 h3 h4 h5)
 have:=h3.2 t ht
 rw[hc]at this
 show a.tmps.getD t undef=_
 generalize a.tmps.getD t undef=q at this
 cases this;rfl
theorem KW.v9{t:Nat}{x y:Code}{b:Bool}(ht:t<N)(hc:T t = .bool b)(h1:b=true->KW P ro N base M x T H Q)(h2:b=false->KW P ro N base M y T H Q):KW P ro N base M (.cond (.tmp t) x y) T H Q:=by
 refine KW.cond ht hc ?_
 cases b
 ·exact h2 rfl
 ·exact h1 rfl
theorem KW.loop{c:Code}(I:Nat->Tm->Heap->Prop)(n:Nat)(h0:I n T H)
  (round:∀n T' H',H.length<=H'.length->I n T' H'->KW P ro N base M c T' H' (kd (fun T2 H2 => ∃k,k<n/\I k T2 H2) Q)):KW P ro N base M (.loop c) T H Q:=by
 intro B ρ w a n0 h1 h2 h3 h4 h5
 have key:∀(m:Nat) (n:Nat) (ρ':Ren) (T':Tm) (H':Heap) (w':World) (a':Act),n<m->Post P B base M ρ H w ρ' H' w'->TR ρ' N T' a'.tmps->DOK n0 a'.defers w'->I n T' H' ->
   Code.roundsIn (Fw ro) 0 P c (fun e a' w' => ∃ρ' T' H',Post P B base M ρ H w ρ' H' w'/\TR ρ' N T' a'.tmps/\DOK n0 a'.defers w'/\Q e T' H') m a' w':=by
  intro m
  induction m with
  |zero=>intro n _ _ _ _ _ hlt;omega
  |succ m ih =>
   intro n ρ' T' H' w' a' hlt hp hT hD hI
   rw[roundsIn_succ]
   refine wpIn_mono (round n T' H' hp.len hI B ρ' w' a' n0 hp.rel (Nat.le_trans h2 hp.len) hT (Nat.le_trans h4 hp.size) hD) ?_
   rintro e a2 w2 ⟨ρ2,T2,H2,k1,k2,k3,k4⟩
   cases e with
   |normal =>
    obtain ⟨k,hk,hI2⟩:=k4
    exact ih k ρ2 T2 H2 w2 a2 (by omega) (hp.trans k1) k2 k3 hI2
   |_=>exact ⟨ρ2,T2,H2,hp.trans k1,k2,k3,k4⟩
 exact wpIn_loop_rounds (n+1) (key (n+1) n ρ T H w a (by omega) (Post.refl h1) h3 h5 h0)
theorem KW.region{id:Nat}{l:List Oper}(hok:l.all (jp N P.globals.size)=true)(h:wv P base M l.toArray l T H (fun T' H'=>Q .normal T' H')):KW P ro N base M (.region id l.toArray false) T H Q:=by
 intro B ρ w a n0 h1 h2 h3 h4 h5
 refine wpIn_region_lit ?_
 rw[List.all_eq_true]at hok
 refine vg (ds:=a.defers) (fun o ho=>hok o (by simpa using ho)) ?_ l T H ρ w a (fun o ho=>by simpa using ho) (Post.refl h1) h2 h3 rfl h
 intro ρ' T' H' w' a' hp hT hd hq
 exact ⟨ρ',T',H',hp,hT,by rw[hd];exact DOK.post h1 h5 hp,hq⟩
end rules
def xn(args:List Value):Tm:=fun t=>(args[t]?).getD undef
def kq(P:Program)(T:Tm)(H:Heap):ResultVar->Option Value
 | .tmp t=>some (T t)
 | .cell a ty=>(jx P ty (T a) H).map (·.1)
def sV(P:Program)(rs:List ResultVar)(T:Tm)(H:Heap):Option Value :=
 match rs with
 | [r] =>kq P T H r
 |rs=>(rs.mapM (kq P T H)).map fun vs => .tuple ⟨vs⟩
def mM(N:Nat)(rs:List ResultVar):Bool:=rs.all fun r=>match r with| .tmp t=>decide (t<N)| .cell a _=>decide (a<N)
def rv(tmps:Array Value)(r:ResultVar):Sem Value :=
 match r with
 | .tmp t=>pure (tmps.getD t undef)
 | .cell a t=>do loadVar t (<- asAddr (tmps.getD a undef))
theorem uV(fn:Func)(tmps:Array Value):results fn tmps=(do let vs<-List.toArray <$> fn.results.toList.mapM (rv tmps);pure (if h:vs.size=1 then vs[0] else .tuple vs)):=by
 rw[<- Array.mapM_eq_mapM_toList]
 rfl
theorem pF{B N:Nat}{ρ:Ren}{H:Heap}{w:World}{T:Tm}{tmps:Array Value}(hr:Rel P B ρ H w)(hT:TR ρ N T tmps){r:ResultVar}(hk:(match r with| .tmp t=>decide (t<N)| .cell a _=>decide (a<N))=true){v:Value}(h:kq P T H r=some v) :
  ∃v',(rv tmps r).run P w = .ok v' w/\VR ρ v v':=by
 cases r with
 |tmp t=>simp only[kq]at h;cases h;exact ⟨_,rfl,hT.2 t (by simpa using hk)⟩
 |cell a ty =>
  simp only[kq]at h
  obtain ⟨⟨x,id⟩,hl,hh⟩:=Option.map_eq_some_iff.1 h
  cases hh
  have ha:=hT.2 a (by simpa using hk)
  obtain ⟨v',h1,h2⟩:=pH hl ha (kW hr _)
  refine ⟨v',?_,h2⟩
  generalize T a=p at ha hl
  show ((do loadVar ty (<- asAddr (tmps.getD a undef))):Sem Value).run P w=_
  generalize tmps.getD a undef=q at ha h1 ⊢
  unfold jx at hl
  split at hl
  ·cases ha
   simpa[Instr.loadAt,Instr.sureAddr,asAddr] using h1
  ·cases ha
   simpa[Instr.loadAt,Instr.sureAddr,asAddr] using h1
  ·simp at hl
theorem Az{B N:Nat}{ρ:Ren}{H:Heap}{w:World}{T:Tm}{tmps:Array Value}(hr:Rel P B ρ H w)(hT:TR ρ N T tmps){fn:Func}(hk:mM N fn.results.toList=true){v:Value}(h:sV P fn.results.toList T H=some v) :
  ∃v',(results fn tmps).run P w = .ok v' w/\VR ρ v v':=by
 have many:∀(rs:List ResultVar) (vs:List Value),mM N rs=true->rs.mapM (kq P T H)=some vs ->
   ∃vs',(rs.mapM (rv tmps)).run P w = .ok vs' w/\VRl ρ vs vs':=by
  intro rs
  induction rs with
  |nil=>intro vs _ h;simp at h;subst h;exact ⟨[],rfl,.nil ρ⟩
  |cons r rs ih =>
   intro vs hk h
   simp only[mM,List.all_cons,Bool.and_eq_true]at hk
   rw[List.mapM_cons]at h
   simp only[Option.bind_eq_bind,Option.bind_eq_some_iff,Option.pure_def,Option.some.injEq]at h
   obtain ⟨v,h1,vs0,h2,rfl⟩:=h
   obtain ⟨v',h3,h4⟩:=pF hr hT hk.1 h1
   obtain ⟨vs',h5,h6⟩:=ih vs0 hk.2 h2
   refine ⟨v' :: vs',?_,.cons h4 h6⟩
   rw[List.mapM_cons]
   simp only[Sem.run_bind,h3,Result.andThen_ok,h5,Sem.run_pure]
 rw[uV]
 unfold sV at h
 split at h
 ·rename_i r hrs
  rw[hrs]at hk ⊢
  obtain ⟨v',h3,h4⟩:=pF hr hT (by simpa[mM] using hk) h
  refine ⟨v',?_,h4⟩
  have:(List.mapM (rv tmps) [r]).run P w = .ok [v'] w:=by
   rw[List.mapM_cons]
   simp only[Sem.run_bind,h3,Result.andThen_ok,List.mapM_nil,Sem.run_pure]
  simp only[Sem.run_bind,Sem.run_map,this,Result.andThen_ok,Sem.run_pure]
  rfl
 ·rename_i hno
  obtain ⟨vs,hvs,rfl⟩:=Option.map_eq_some_iff.1 h
  obtain ⟨vs',h1,h2⟩:=many _ vs hk hvs
  refine ⟨.tuple ⟨vs'⟩,?_,.tuple (by simpa using h2.1) (fun i a b x y=>h2.2 i a b (by simpa using x) (by simpa using y))⟩
  simp only[Sem.run_bind,Sem.run_map,h1,Result.andThen_ok,Sem.run_pure]
  have hl:vs.length=fn.results.toList.length:=by
   have:∀(rs:List ResultVar) (vs:List Value),rs.mapM (kq P T H)=some vs->vs.length=rs.length:=by
    intro rs
    induction rs with
    |nil=>intro vs h;simp at h;subst h;rfl
    |cons r rs ih =>
     intro vs h
     rw[List.mapM_cons]at h
     simp only[Option.bind_eq_bind,Option.bind_eq_some_iff,Option.pure_def,Option.some.injEq]at h
     obtain ⟨v,h1,vs0,h2,rfl⟩:=h
     simp[ih vs0 h2]
   exact this _ _ hvs
  have hl2:vs'.length≠1:=by
   rw[<- h2.1,hl]
   intro h1
   obtain ⟨r,hr⟩:=List.length_eq_one_iff.1 h1
   exact hno r hr
  rw[dif_neg (by simpa using hl2)]
theorem Rel.mark{B:Nat}{ρ:Ren}{H:Heap}{w:World}(hr:Rel P B ρ H w){D:Nat}{x:Option (List Deferred)}(h:w.heap[D]?=some (.deferred x))(y:Obj):Rel P B ρ H (w.putObj D y):=by
 refine ⟨by rw[World.putObj];simp;exact hr.bsize,hr.cS,hr.dom,fun id r h1=>by rw[World.putObj];simp;exact hr.lt id r h1,fun id r o h1 h2 =>?_,hr.base,hr.sep,fun b m hm =>?_,?_⟩
 rotate_left 2
 ·refine hr.fam.keep (Ren.le_refl _) (fun _ _ _ h=>h) (fun _ _ _ _ h=>h) (Nat.le_refl _) (by rw[World.putObj];simp) (fun b hb=>World.putObj_heap_other ?_) (fun i x o h1 h2 h3=>hr.fam.free h1 h2 h3) (fun b m h=>hr.fam.ez h)
  rintro rfl
  obtain ⟨F,k,r,z,cs,g,rfl⟩:=hb
  obtain ⟨cs',ty,hb,_⟩:=hr.fam.obj F k r z cs g
  rw[h]at hb;cases hb
 rotate_left
 ·obtain ⟨⟨ty,fz,e⟩,k⟩:=hr.mem b m hm
  have hne:b≠D:=by rintro rfl;rw[h]at e;cases e
  exact ⟨⟨ty,fz,(World.putObj_heap_other hne).trans e⟩,k⟩
 have ho:=hr.obj id r o h1 h2
 by_cases e:r.b=D
 ·subst e
  cases o with
  |cells own z cs=>obtain ⟨_,_,cs',ty,fz,hb,_⟩:=ho;rw[h]at hb;cases hb
  |map es=>obtain ⟨_,es',hb,_⟩:=ho;rw[h]at hb;cases hb
  |iter m n s=>obtain ⟨_,_,rm,_,hb⟩:=ho;rw[h]at hb;cases hb
  |loop _ _ _ _ _ _ _=>obtain ⟨_,l,hb,_⟩:=ho;rw[h]at hb;cases hb
  |fam _ _=>trivial
  |dead=>trivial
 ·exact ho.mono (Ren.le_refl _) (World.putObj_heap_other e)
theorem Post.mark{B base:Nat}{M:List Nat}{ρ ρ':Ren}{H H':Heap}{w w':World}(p:Post P B base M ρ H w ρ' H' w'){D:Nat}{x:Option (List Deferred)}(h:w'.heap[D]?=some (.deferred x))(hD:w.heap.size<=D)(y:Obj):Post P B base M ρ H w ρ' H' (w'.putObj D y) :=
 { p with
  rel:=p.rel.mark h y
  size:=by rw[World.putObj];simp;exact p.size
  keep:=fun b h1 h2=>by rw[World.putObj_heap_other (by omega)];exact p.keep b h1 h2 }
theorem qD{B base N:Nat}{M:List Nat}{ρ0 ρ:Ren}{H0 H:Heap}{w0:World}{fn:Func}{T:Tm}{tmps:Array Value}{Q:Value->Heap->Prop}(hT:TR ρ N T tmps)(hk:mM N fn.results.toList=true){v:Value}(h:sV P fn.results.toList T H=some v)(hq:Q v H) :
  ∀(Ds:List Nat) (w:World),Post P B base M ρ0 H0 w0 ρ H w->Ds.Pairwise (· ≠ ·)->(∀D∈Ds,w0.heap.size<=D/\w.heap[D]?=some (.deferred (some []))) ->
   LeavesInM Fence.wide 0 P fn tmps (CQ P B base M ρ0 H0 w0 Q) (Ds.map (fun D=>({ target:=.collected D,args:=#[] }:Deferred))) .returning w:=by
 intro Ds
 induction Ds with
 |nil =>
  intro w hp _ _
  obtain ⟨v',h1,h2⟩:=Az hp.rel hT hk h
  exact ⟨v',h1,v,v',ρ,H,rfl,h2,hp,hq⟩
 |cons D Ds ih =>
  intro w hp hd hD
  obtain ⟨hD1,hD2⟩:=hD D (List.mem_cons_self ..)
  rw[List.pairwise_cons]at hd
  refine ⟨by simp,.inl ⟨D,w.putObj D (.deferred none),rfl,run_takeDeferred hD2,ih _ (hp.mark hD2 hD1 _) hd.2 (fun E hE =>?_)⟩⟩
  obtain ⟨g1,g2⟩:=hD E (List.mem_cons_of_mem _ hE)
  exact ⟨g1,by rw[World.putObj_heap_other (Ne.symm (hd.1 E hE))];exact g2⟩
theorem ad.enter {f : FuncId} {fn : Func} {c : Code} {args : List Value} {H : Heap} {M : List Nat} {Q : Value -> Heap -> Prop} (hf : P.funcs[f]? = some fn) (hname : (fn.name == "runtime.NumGoroutine") = false) (hb : fn.body = some c)
  (N:Nat) (hN:fn.ntmps=N) (hargs:args.length<=N) (rs:List ResultVar) (hrs:fn.results.toList=rs) (hk:mM N rs=true)
  (h:KW P none N H.length M c (xn args) H (fun e T' H'=>(e = .normal∨e = .ret)/\∃v,sV P rs T' H'=some v/\Q v H')):ad P f args H M Q:=by
 subst hN
 subst hrs
 refine ⟨enters_of hf hname hb,fun B ρ w args' hr ha =>?_⟩
 refine callsIn_of_wp_marks hf hb trivial ?_
 have hT:TR ρ fn.ntmps (xn args) (args'++Array.replicate (fn.ntmps-args'.size) undef):=by
  have hl:args'.size=args.length:=by have:=ha.1;simpa using this.symm
  refine ⟨by simp;omega,fun t ht =>?_⟩
  unfold xn
  rcases Nat.lt_or_ge t args.length with h1|h1
  ·have h2:t<args'.size:=by omega
   have hv:=ha.2 t _ _ (List.getElem?_eq_getElem h1) (List.getElem?_eq_getElem (by simpa using h2))
   have e2:(args'++Array.replicate (fn.ntmps-args'.size) undef).getD t undef=args'[t]:=by
    simp[Array.getElem?_append_left h2,h2]
   rw[e2]
   simpa[List.getElem?_eq_getElem h1] using hv
  ·rw[List.getElem?_eq_none h1]
   have:(args'++Array.replicate (fn.ntmps-args'.size) undef).getD t undef=undef:=by
    have h3:t<(args'++Array.replicate (fn.ntmps-args'.size) undef).size:=by simp;omega
    simp only[Array.getD,h3,dif_pos]
    rw[Array.getInternal_eq_getElem,Array.getElem_append_right (by omega)]
    simp
   rw[this]
   exact VR.undef ρ
 refine wpIn_mono (h B ρ w { tmps:=args'++Array.replicate (fn.ntmps-args'.size) undef,defers:=[] } w.heap.size hr (Nat.le_refl _) hT (Nat.le_refl _) (DOK.nil _ _)) ?_
 rintro e a' w' ⟨ρ',T',H',hp,hT',⟨Ds,hD1,hD2,hD3⟩,he,v,hv,hq⟩
 have:=qD hT' hk hv hq Ds w' hp hD2 hD3
 rcases he with rfl|rfl
 ·show LeavesInM _ _ _ _ _ _ a'.defers _ _
  rw[hD1];exact this
 ·show LeavesInM _ _ _ _ _ _ a'.defers _ _
  rw[hD1];exact this
def aY(n:Nat):Value->Bool
 | .bool _| .int _ _| .float _ _| .string _| .pointer none| .slice none _ _| .map none| .nilFunc| .nilIface=>true
 | .pointer (some ⟨b,_,none⟩)=>decide (b<n)
 | .slice (some a) _ _=>decide (a.block<n)
 | .map (some r)=>decide (r<n)
 |_=>false
def b7(n:Nat):Value->Bool
 | .iface _ (.agg cs)=>cs.toList.all (aY n)
 | .iface _ (.tuple cs)=>cs.toList.all (aY n)
 |v=>aY n v
def ao(n:Nat):Value->Bool
 | .bool _| .int _ _| .float _ _| .string _| .pointer none| .slice none _ _| .map none| .nilFunc| .nilIface=>true
 | .pointer (some ⟨b,_,none⟩)=>decide (b<n)
 | .slice (some a) _ _=>decide (a.block<n)
 | .map (some r)=>decide (r<n)
 | .iface _ (.agg cs)=>cs.toList.all (b7 n)
 | .iface _ (.tuple cs)=>cs.toList.all (b7 n)
 |_=>false
def bn(n:Nat):Value->Bool
 | .agg cs=>cs.toList.all (ao n)
 | .tuple vs=>vs.toList.all fun v=>match v with| .agg cs=>cs.toList.all (ao n)|v=>ao n v
 |v=>ao n v
def cu(n:Nat):aa->Bool
 | .cells _ _ cs=>cs.all (ao n)
 | .fam _ cs=>cs.all (ao n)
 | .map es=>es.all fun e=>bn n e.1&&bn n e.2
 | .iter m _ _=>decide (m<n)
 | .dead=>true
 |_=>false
theorem qa{ρ ρ':Ren}{n:Nat}(hle:∀id r,id<n->ρ' id=some r->ρ id=some r)(hm:∀b m,ρ'.mem b=some m->ρ.mem b=some m){v v':Value}(h:aY n v=true)(hv:VR ρ' v v'):VR ρ v v':=by
 cases hv with
 |junk=>exact .junk _
 |bool b=>exact .bool b
 |int k n=>exact .int k n
 |float k n=>exact .float k n
 |string s=>exact .string s
 |bK=>exact .bK
 |ptr hr=>exact .ptr (hle _ _ (by simpa[aY] using h) hr)
 |dS hr=>simp[aY]at h
 |aT=>exact .aT
 |slice hr hl hc ho=>exact .slice (hle _ _ (by simpa[aY] using h) hr) hl hc ho
 |aQ hr=>exact .aQ (hle _ _ (by simpa[aY] using h) hr)
 |bv=>exact .bv
 |ax=>exact .ax
 |ay=>exact .ay
 |aD hr hp hl hc ho=>exact .aD (hle _ _ (by simpa[aY] using h) hr) hp hl hc ho
 |aB=>exact .aB
 |aX hr hp hl hc ho=>exact .aX (hle _ _ (by simpa[aY] using h) hr) hp hl hc ho
 |bL=>exact .bL
 |map hr=>exact .map (hle _ _ (by simpa[aY] using h) hr)
 |nilFunc=>exact .nilFunc
 |nilIface=>exact .nilIface
 |func h1 h2 h3 h4=>simp[aY]at h
 |yield hr=>simp[aY]at h
 |agg h1 h2=>simp[aY]at h
 |tuple h1 h2=>simp[aY]at h
 |deep g1 g2 g3 g4 g5=>simp[aY]at h
 |br=>exact .br
 |fsl hr=>simp[aY]at h
 |bS=>exact .bS
 |bP g1 g2 g3=>simp[aY]at h
theorem qb{ρ ρ':Ren}{n:Nat}(hle:∀id r,id<n->ρ' id=some r->ρ id=some r)(hm:∀b m,ρ'.mem b=some m->ρ.mem b=some m){v v':Value}(h:b7 n v=true)(hv:VR ρ' v v'):VR ρ v v':=by
 cases hv with
 |junk=>exact .junk _
 |bool b=>exact .bool b
 |int k n=>exact .int k n
 |float k n=>exact .float k n
 |string s=>exact .string s
 |bK=>exact .bK
 |ptr hr=>exact .ptr (hle _ _ (by simpa[b7,aY] using h) hr)
 |dS hr=>simp[b7,aY]at h
 |aT=>exact .aT
 |slice hr hl hc ho=>exact .slice (hle _ _ (by simpa[b7,aY] using h) hr) hl hc ho
 |aQ hr=>exact .aQ (hle _ _ (by simpa[b7,aY] using h) hr)
 |bv=>exact .bv
 |ax=>exact .ax
 |ay=>exact .ay
 |aD hr hp hl hc ho=>exact .aD (hle _ _ (by simpa[b7,aY] using h) hr) hp hl hc ho
 |aB=>exact .aB
 |aX hr hp hl hc ho=>exact .aX (hle _ _ (by simpa[b7,aY] using h) hr) hp hl hc ho
 |bL=>exact .bL
 |map hr=>exact .map (hle _ _ (by simpa[b7,aY] using h) hr)
 |nilFunc=>exact .nilFunc
 |nilIface=>exact .nilIface
 |func h1 h2 h3 h4=>simp[b7,aY]at h
 |yield hr=>simp[b7,aY]at h
 |agg h1 h2=>simp[b7,aY]at h
 |tuple h1 h2=>simp[b7,aY]at h
 |deep g1 g2 g3 g4 g5 =>
  simp only[b7,List.all_eq_true]at h
  exact .deep (hm _ _ g1) g2 g3 g4 (fun i a b x y=>qa hle hm (h a (by rw[Array.mem_toList_iff];exact Array.mem_of_getElem? x)) (g5 i a b x y))
 |br=>exact .br
 |fsl hr=>simp[b7,aY]at h
 |bS=>exact .bS
 |bP g1 g2 g3 =>
  simp only[b7,List.all_eq_true]at h
  exact .bP (hm _ _ g1) g2 (fun i a b x y=>qa hle hm (h a (by rw[Array.mem_toList_iff];exact Array.mem_of_getElem? x)) (g3 i a b x y))
theorem aH{ρ ρ':Ren}{n:Nat}(hle:∀id r,id<n->ρ' id=some r->ρ id=some r)(hm:∀b m,ρ'.mem b=some m->ρ.mem b=some m){v v':Value}(h:ao n v=true)(hv:VR ρ' v v'):VR ρ v v':=by
 cases hv with
 |junk=>exact .junk _
 |bool b=>exact .bool b
 |int k n=>exact .int k n
 |float k n=>exact .float k n
 |string s=>exact .string s
 |bK=>exact .bK
 |ptr hr=>exact .ptr (hle _ _ (by simpa[ao] using h) hr)
 |dS hr=>simp[ao]at h
 |aT=>exact .aT
 |slice hr hl hc ho=>exact .slice (hle _ _ (by simpa[ao] using h) hr) hl hc ho
 |aQ hr=>exact .aQ (hle _ _ (by simpa[ao] using h) hr)
 |bv=>exact .bv
 |ax=>exact .ax
 |ay=>exact .ay
 |aD hr hp hl hc ho=>exact .aD (hle _ _ (by simpa[ao] using h) hr) hp hl hc ho
 |aB=>exact .aB
 |aX hr hp hl hc ho=>exact .aX (hle _ _ (by simpa[ao] using h) hr) hp hl hc ho
 |bL=>exact .bL
 |map hr=>exact .map (hle _ _ (by simpa[ao] using h) hr)
 |nilFunc=>exact .nilFunc
 |nilIface=>exact .nilIface
 |func h1 h2 h3 h4=>simp[ao]at h
 |yield hr=>simp[ao]at h
 |agg h1 h2=>simp[ao]at h
 |tuple h1 h2=>simp[ao]at h
 |deep g1 g2 g3 g4 g5 =>
  simp only[ao,List.all_eq_true]at h
  exact .deep (hm _ _ g1) g2 g3 g4 (fun i a b x y=>qb hle hm (h a (by rw[Array.mem_toList_iff];exact Array.mem_of_getElem? x)) (g5 i a b x y))
 |br=>exact .br
 |fsl hr=>simp[ao]at h
 |bS=>exact .bS
 |bP g1 g2 g3 =>
  simp only[ao,List.all_eq_true]at h
  exact .bP (hm _ _ g1) g2 (fun i a b x y=>qb hle hm (h a (by rw[Array.mem_toList_iff];exact Array.mem_of_getElem? x)) (g3 i a b x y))
theorem eS{ρ ρ':Ren}{n:Nat}(hle:∀id r,id<n->ρ' id=some r->ρ id=some r)(hm:∀b m,ρ'.mem b=some m->ρ.mem b=some m){v v':Value}(h:bn n v=true)(hv:VR ρ' v v'):VR ρ v v':=by
 cases hv with
 |junk=>exact .junk _
 |agg h1 h2 =>
  simp only[bn,List.all_eq_true]at h
  exact .agg h1 (fun i a b x y=>aH hle hm (h a (by rw[Array.mem_toList_iff];exact Array.mem_of_getElem? x)) (h2 i a b x y))
 |tuple h1 h2 =>
  simp only[bn,List.all_eq_true]at h
  refine .tuple h1 (fun i a b x y =>?_)
  have ha:=h a (by rw[Array.mem_toList_iff];exact Array.mem_of_getElem? x)
  have hab:=h2 i a b x y
  cases hab with
  |junk=>exact .junk _
  |agg g1 g2 =>
   simp only[List.all_eq_true]at ha
   exact .agg g1 (fun i a b x y=>aH hle hm (ha a (by rw[Array.mem_toList_iff];exact Array.mem_of_getElem? x)) (g2 i a b x y))
  |bool b=>exact aH hle hm ha (.bool b)
  |int k n=>exact aH hle hm ha (.int k n)
  |float k n=>exact aH hle hm ha (.float k n)
  |string s=>exact aH hle hm ha (.string s)
  |bK=>exact aH hle hm ha .bK
  |ptr hr=>exact aH hle hm ha (.ptr hr)
  |dS hr=>simp[ao]at ha
  |aT=>exact aH hle hm ha .aT
  |slice hr hl hc ho=>exact aH hle hm ha (.slice hr hl hc ho)
  |aQ hr=>exact aH hle hm ha (.aQ hr)
  |bv=>exact .bv
  |ax=>exact .ax
  |ay=>exact .ay
  |aD hr hp hl hc ho=>exact aH hle hm ha (.aD hr hp hl hc ho)
  |aB=>exact .aB
  |aX hr hp hl hc ho=>exact aH hle hm ha (.aX hr hp hl hc ho)
  |bL=>exact aH hle hm ha .bL
  |map hr=>exact aH hle hm ha (.map hr)
  |nilFunc=>exact aH hle hm ha .nilFunc
  |nilIface=>exact aH hle hm ha .nilIface
  |func g1 g2 g3 g4=>simp[ao]at ha
  |yield hr=>simp[ao]at ha
  |tuple g1 g2=>simp[ao]at ha
  |deep g1 g2 g3 g4 g5=>exact aH hle hm ha (.deep g1 g2 g3 g4 g5)
  |br=>exact .br
  |fsl hr=>simp[ao]at ha
  |bS=>exact .bS
  |bP g1 g2 g3=>exact aH hle hm ha (.bP g1 g2 g3)
 |bool b=>exact .bool b
 |int k n=>exact .int k n
 |float k n=>exact .float k n
 |string s=>exact .string s
 |bK=>exact .bK
 |ptr hr=>exact aH hle hm h (.ptr hr)
 |dS hr=>simp[bn,ao]at h
 |aT=>exact .aT
 |slice hr hl hc ho=>exact aH hle hm h (.slice hr hl hc ho)
 |aQ hr=>exact aH hle hm h (.aQ hr)
 |bv=>exact .bv
 |ax=>exact .ax
 |ay=>exact .ay
 |aD hr hp hl hc ho=>exact aH hle hm h (.aD hr hp hl hc ho)
 |aB=>exact .aB
 |aX hr hp hl hc ho=>exact aH hle hm h (.aX hr hp hl hc ho)
 |bL=>exact .bL
 |map hr=>exact aH hle hm h (.map hr)
 |nilFunc=>exact .nilFunc
 |nilIface=>exact .nilIface
 |func h1 h2 h3 h4=>simp[bn,ao]at h
 |yield hr=>simp[bn,ao]at h
 |deep g1 g2 g3 g4 g5=>exact aH hle hm h (.deep g1 g2 g3 g4 g5)
 |br=>exact .br
 |fsl hr=>simp[bn,ao]at h
 |bS=>exact .bS
 |bP g1 g2 g3=>exact aH hle hm h (.bP g1 g2 g3)
theorem ad.Ey{f:FuncId}{args:List Value}{H:Heap}{M:List Nat}{Q Q':Value->Heap->Prop}(h:ad P f args H M Q)
  (hq:∀v H',H.length<=H'.length->(∀id,id<H.length->id ∉ M->H'[id]?=H[id]?)->Q v H'->Q' v H'∨(bn H.length v=true/\(∀id∈M,∀o,id<H.length->H'[id]?=some o->cu H.length o=true)/\Q' v (H'.take H.length))):ad P f args H M Q':=by
 refine ⟨h.1,fun B ρ w args' hr ha=>(h.2 B ρ w args' hr ha).mono ?_⟩
 rintro e w' ⟨v,v',ρ',H',rfl,hv,hp,hQ⟩
 rcases hq v H' hp.len hp.same hQ with g0|⟨g1,g2,g3⟩
 ·exact ⟨v,v',ρ',H',rfl,hv,hp,g0⟩
 have hle:∀id r,id<H.length->ρ' id=some r->ρ id=some r:=by
  intro id r hlt hr'
  cases hc:ρ id with
  |none=>have:=hp.new id r hr' hc;omega
  |some r0=>rw[hp.ext id r0 hc]at hr';cases hr';rfl
 have htk:∀id,id<H.length->(H'.take H.length)[id]?=H'[id]? := fun id hlt=>by rw[List.getElem?_take,if_pos hlt]
 have hm:∀b m,ρ'.mem b=some m->(Ren.mk ρ.f ρ'.mem ρ.g).mem b=some m:=fun _ _ h=>h
 have Jx:∀id r o,ρ id=some r->(H'.take H.length)[id]?=some o->aI ⟨ρ.f,ρ'.mem,ρ.g⟩ r o w':=by
  intro id r o h1 h2
  have hlt:=hr.dom id r h1
  rw[htk id hlt]at h2
  have h3:=hp.rel.obj id r o (hp.ext _ _ h1) h2
  by_cases hM:id∈M
  ·have hb:=g2 id hM o hlt h2
   cases o with
   |cells own z cs =>
    obtain ⟨k1,k2,cs',ty,fz,k3,k4,k5,k6⟩:=h3
    simp only[cu,List.all_eq_true]at hb
    exact ⟨k1,k2,cs',ty,fz,k3,k4,k5,fun i x hx=>let ⟨x',y1,y2⟩:=k6 i x hx; ⟨x',y1,aH (ρ:=⟨ρ.f,ρ'.mem,ρ.g⟩) hle hm (hb x (List.mem_of_getElem? hx)) y2⟩⟩
   |fam _ _=>trivial
   |dead=>trivial
   |map es =>
    obtain ⟨k1,es',k2,k3,k4⟩:=h3
    simp only[cu,List.all_eq_true,Bool.and_eq_true]at hb
    exact ⟨k1,es',k2,k3,fun i k x hx=>let ⟨e',y1,y2,y3⟩:=k4 i k x hx;let q:=hb _ (List.mem_of_getElem? hx); ⟨e',y1,eS (ρ:=⟨ρ.f,ρ'.mem,ρ.g⟩) hle hm q.1 y2,eS (ρ:=⟨ρ.f,ρ'.mem,ρ.g⟩) hle hm q.2 y3⟩⟩
   |iter m n s =>
    obtain ⟨k1,k0,rm,k2,k3⟩:=h3
    exact ⟨k1,k0,rm,hle _ _ (of_decide_eq_true hb) k2,k3⟩
   |loop _ _ _ _ _ _ _=>simp[cu]at hb
  ·have hs:=hp.same id hlt hM
   rw[hs]at h2
   have h4:=hr.obj id r o h1 h2
   cases o with
   |cells own z cs =>
    obtain ⟨k1,k2,cs',ty,fz,k3,k4,k5,k6⟩:=h3
    obtain ⟨_,_,cs2,_,_,_,_,_,j6⟩:=h4
    exact ⟨k1,k2,cs',ty,fz,k3,k4,k5,fun i x hx=>let ⟨x',y1,y2⟩:=k6 i x hx;let ⟨x2,_,z2⟩:=j6 i x hx; ⟨x',y1,z2.down (ρ2:=⟨ρ.f,ρ'.mem,ρ.g⟩) hp.ext (fun _ _ h=>h) hm (fun _ _ _ h=>h) y2⟩⟩
   |fam _ _=>trivial
   |dead=>trivial
   |map es =>
    obtain ⟨k1,es',k2,k3,k4⟩:=h3
    obtain ⟨_,es2,_,_,j4⟩:=h4
    exact ⟨k1,es',k2,k3,fun i k x hx=>let ⟨e',y1,y2,y3⟩:=k4 i k x hx;let ⟨_,_,z2,z3⟩:=j4 i k x hx; ⟨e',y1,z2.down (ρ2:=⟨ρ.f,ρ'.mem,ρ.g⟩) hp.ext (fun _ _ h=>h) hm (fun _ _ _ h=>h) y2,z3.down (ρ2:=⟨ρ.f,ρ'.mem,ρ.g⟩) hp.ext (fun _ _ h=>h) hm (fun _ _ _ h=>h) y3⟩⟩
   |iter m n s =>
    obtain ⟨k1,k0,rm,k2,k3⟩:=h3
    obtain ⟨_,_,rm2,j2,_⟩:=h4
    have:=hp.ext _ _ j2
    rw[k2]at this
    cases this
    exact ⟨k1,k0,rm,j2,k3⟩
   |loop st pe tm N ps asg bd =>
    obtain ⟨k1,l,k2,k3,k4,k5,k6,k7,k8,k9⟩:=h3
    obtain ⟨_,l2,_,_,_,_,_,_,_,j9⟩:=h4
    exact ⟨k1,l,k2,k3,k4,k5,k6,k7,k8,fun t ht=>(j9 t ht).down (ρ2:=⟨ρ.f,ρ'.mem,ρ.g⟩) hp.ext (fun _ _ h=>h) hm (fun _ _ _ h=>h) (k9 t ht)⟩
 have hfm:∀{F k r z cs},FM ⟨ρ.f,ρ'.mem,ρ.g⟩ (H'.take H.length) F k r z cs->FM ρ' H' F k r z cs:=fun {F k r z cs} m =>
  ⟨hp.ext.g _ _ _ m.g,by have:=m.h;rw[htk F (hr.fam.dom F k r m.g)]at this;exact this,m.a⟩
 have ju:gR B ⟨ρ.f,ρ'.mem,ρ.g⟩ (H'.take H.length) w':=by
  refine ⟨fun F k r a =>?_,fun F k r a=>hp.rel.fam.lt F k r (hp.ext.g _ _ _ a),fun F k r z cs m=>hp.rel.fam.base _ _ _ _ _ (hfm m),fun F k r z cs m =>?_,fun F k r z cs F' k' r' z' cs' m m'=>hp.rel.fam.sep _ _ _ _ _ _ _ _ _ _ (hfm m) (hfm m'),
   fun F k r z cs id r' o m h1 h2 h3=>hp.rel.fam.sep2 _ _ _ _ _ id r' o (hfm m) (hp.ext _ _ h1) (by rw[<- htk id (hr.dom id r' h1)];exact h2) h3,fun F k r z cs b m' m hb=>hp.rel.fam.mem _ _ _ _ _ b m' (hfm m) hb,fun F k r cs a h=>hp.rel.fam.cnt F k r cs (hp.ext.g _ _ _ a) (by rw[<- htk F (hr.fam.dom F k r a)];exact h)⟩
  ·have:=hr.fam.dom F k r a;have:=hp.len;simp;omega
  ·have hlt:=hr.fam.dom F k r m.g
   have m':=hfm m
   obtain ⟨cs',ty,a1,a2,a3,a4,a5⟩:=hp.rel.fam.obj _ _ _ _ _ m'
   refine ⟨cs',ty,a1,a2,fun e0=>⟨(a3 e0).1,(a3 e0).2.1,fun row hrow=>⟨((a3 e0).2.2 row hrow).1,fun i v hv =>?_⟩⟩,a4,fun i v hi hv =>?_⟩
   ·obtain ⟨v',b1,b2⟩:=((a3 e0).2.2 row hrow).2 i v hv
    refine ⟨v',b1,?_⟩
    by_cases hM:F∈M
    ·have hb:=g2 F hM _ hlt m'.h
     simp only[cu,List.all_eq_true]at hb
     have:=hb _ (List.mem_of_getElem? hrow)
     simp[ao]at this
    ·have hs:=hp.same F hlt hM
     rw[m'.h]at hs
     obtain ⟨_,_,_,_,j3,_,_⟩:=hr.fam.obj F k r z cs ⟨m.g,hs.symm,m.a⟩
     obtain ⟨x2,_,z2⟩:=((j3 e0).2.2 row hrow).2 i v hv
     exact z2.down (ρ2:=⟨ρ.f,ρ'.mem,ρ.g⟩) hp.ext (fun _ _ h=>h) hm (fun _ _ _ h=>h) b2
   obtain ⟨v',b1,b2⟩:=a5 i v hi hv
   refine ⟨v',b1,?_⟩
   by_cases hM:F∈M
   ·have hb:=g2 F hM _ hlt m'.h
    simp only[cu,List.all_eq_true]at hb
    exact aH (ρ:=⟨ρ.f,ρ'.mem,ρ.g⟩) hle hm (hb v (List.mem_of_getElem? hv)) b2
   ·have hs:=hp.same F hlt hM
    rw[m'.h]at hs
    obtain ⟨_,_,_,_,_,_,j5⟩:=hr.fam.obj F k r z cs ⟨m.g,hs.symm,m.a⟩
    obtain ⟨x2,_,z2⟩:=j5 i v hi hv
    exact z2.down (ρ2:=⟨ρ.f,ρ'.mem,ρ.g⟩) hp.ext (fun _ _ h=>h) hm (fun _ _ _ h=>h) b2
 refine ⟨v,v',⟨ρ.f,ρ'.mem,ρ.g⟩,H'.take H.length,rfl,eS (ρ:=⟨ρ.f,ρ'.mem,ρ.g⟩) hle hm g1 hv,⟨⟨Nat.le_trans hr.bsize hp.size,hr.cS,fun id r h1 =>?_,fun id r h1=>hp.rel.lt id r (hp.ext _ _ h1),Jx,fun id r o h1 h2 h3 =>?_,?_,fun b m hb =>?_,ju⟩,⟨fun _ _ h=>h,hp.ext.mem,fun _ _ _ h=>h⟩,fun id r h1 h2=>(by rw[h2]at h1;cases h1),?_,fun id h1 h2 =>?_,hp.size,hp.keep,fun b h1 h2 =>?_,hp.os,hp.tape,hp.output,hp.frz,hp.drawn,fun F k x a b=>(by rw[show (Ren.mk ρ.f ρ'.mem ρ.g).g F k=ρ.g F k from rfl,b]at a;cases a)⟩,g3⟩
 ·have:=hr.dom id r h1;have:=hp.len;simp;omega
 ·rw[htk id (hr.dom id r h1)]at h2;exact hp.rel.base id r o (hp.ext _ _ h1) h2 h3
 ·intro id id' r r' o o' h1 h1' h2 h2' h3 h3' hne
  rw[htk id (hr.dom id r h1)]at h2
  rw[htk id' (hr.dom id' r' h1')]at h2'
  exact hp.rel.sep id id' r r' o o' (hp.ext _ _ h1) (hp.ext _ _ h1') h2 h2' h3 h3' hne
 ·obtain ⟨e,k⟩:=hp.rel.mem b m hb
  exact ⟨e,fun id r o h1 h2 h3=>k id r o (hp.ext _ _ h1) (by rw[<- htk id (hr.dom id r h1)];exact h2) h3⟩
 ·have:=hp.len;simp;omega
 ·rw[htk id h1];exact hp.same id h1 h2
 ·rcases h2 with ⟨id,r,o,k1,k2,k3,k4⟩|⟨F,k,x,z,cs,m,e⟩
  ·rw[htk id (hr.dom id r k1)]at k2
   exact hp.ob b h1 (.inl ⟨id,r,o,hp.ext _ _ k1,k2,k3,k4⟩)
  ·exact hp.ob b h1 (.inr ⟨F,k,x,z,cs,hfm m,e⟩)
theorem ad.trim{f:FuncId}{args:List Value}{H:Heap}{M:List Nat}{Q Q':Value->Heap->Prop}(h:ad P f args H M Q)
  (hq:∀v H',H.length<=H'.length->(∀id,id<H.length->id ∉ M->H'[id]?=H[id]?)->Q v H'->bn H.length v=true/\(∀id∈M,∀o,id<H.length->H'[id]?=some o->cu H.length o=true)/\Q' v (H'.take H.length)):ad P f args H M Q' :=
 h.Ey fun v H' a b c => .inr (hq v H' a b c)
end Go.K
