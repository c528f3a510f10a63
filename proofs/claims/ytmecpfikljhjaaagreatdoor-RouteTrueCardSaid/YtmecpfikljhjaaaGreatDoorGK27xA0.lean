/- Small steps that texts about functions share. No condition. -/
import Derived.Test.YtmecpfikljhjaaaGreatDoorV14
import Derived.Test.YtmecpfikljhjaaaGreatDoorGV10xV13
import Derived.Test.YtmecpfikljhjaaaGreatDoorGV3xK38
import Derived.Test.YtmecpfikljhjaaaGreatDoorGK1xK7
import Derived.Test.YtmecpfikljhjaaaGreatDoorN
open Go Go.K
set_option maxRecDepth 1000000
set_option maxHeartbeats 4000000
set_option linter.unusedVariables false
set_option linter.unusedSimpArgs false
namespace Go.K
noncomputable section
theorem eJ{p A B:Prop}[Decidable p](h1:p->A)(h2:¬ p->B):(decide p=true->A)/\(decide p=false->B) :=
 ⟨fun h=>h1 (of_decide_eq_true h),fun h=>h2 (of_decide_eq_false h)⟩
theorem nQ{a b:Int}{A B:Prop}(h1:a≠b->A)(h2:a=b->B):((a != b)=true->A)/\((a != b)=false->B) :=
 ⟨fun h=>h1 (by simpa using h),fun h=>h2 (by simpa using h)⟩
theorem Gv{a b:Int}{A B:Prop}(h1:a=b->A)(h2:a≠b->B):((a == b)=true->A)/\((a == b)=false->B) :=
 ⟨fun h=>h1 (by simpa using h),fun h=>h2 (by simpa using h)⟩
theorem eW{b:Bool}{A B:Prop}(h:(b=true->B)/\(b=false->A)):((!b)=true->A)/\((!b)=false->B):=by
 cases b
 ·exact ⟨fun _=>h.2 rfl,fun h=>by cases h⟩
 ·exact ⟨fun h=>(by cases h),fun _=>h.1 rfl⟩
theorem lV{b:Bool}{A B:Prop}(hb:b=true)(h1:A):(b=true->A)/\(b=false->B):=⟨fun _=>h1,fun h=>by rw[hb]at h;cases h⟩
theorem iEq{k:IntKind}{a b:Int}(h:a=b):(Value.int k a) = .int k b:=by rw[h]
theorem bEq{a b:Bool}(h:a=b):(Value.bool a) = .bool b:=by rw[h]
theorem Jg{n:Int}(h : -9223372036854775808<=n/\n<=9223372036854775807):IntKind.wrap .i64 n=n:=IntWalk.i64_in n h
theorem ak{n:Int}(h : -9223372036854775808<=n/\n<=9223372036854775807):(Value.int .i64 (IntKind.wrap .i64 n)) = .int .i64 n:=by rw[Jg h]
theorem aS{a b:Value}{r s:List Value}(h:wk a b)(hr:wks r s):wks (a :: r) (b :: s):=⟨h,hr⟩
theorem ad.wkA{P:Program}{f:FuncId}{args args2:List Value}{H:Heap}{M:List Nat}{Q:Value->Heap->Prop}(h:ad P f args2 H M Q)(ha:wks args args2):ad P f args H M Q :=
 ad.zw [] (by rw[List.append_nil];exact h) (fA ha).1 (fA ha).2
end
end Go.K
namespace Go.K
open Go Go.RowKit Go.ChangeAt Go.WideShapes
variable {P:Program} {HH:Type} {enc:TypeId×Value->HH}
def d6(P:Program):Nat->TypeId->List Value->Prop
 |0,_,_=>False
 |n+1,t,cs=>match P.underlying t with
  |some .bool => ∃b,cs=[.bool b]
  |some (.int k) => ∃x,cs=[.int k x]/\k.min<=x/\x<=k.max
  |some .string => ∃s,cs=[.string s]
  |some (.struct fs)=>di (d6 P n) (fs.toList.map (·.type)) cs
  |some (.slice e) => ∃len ds,cs=[.iface (len+1) (.agg ⟨ds⟩)]/\ds.length=len*P.cellsOf e/\len<=maxLen/\di (d6 P n) (List.replicate len e) ds
  |some (.array k e)=>di (d6 P n) (List.replicate k e) cs
  |_=>False
def l6(P:Program)(H:Heap):Nat->TypeId->List Value->Prop
 |0,_,_=>False
 |n+1,t,cs=>match P.underlying t with
  |some .bool => ∃b,cs=[.bool b]
  |some (.int k) => ∃x,cs=[.int k x]/\k.min<=x/\x<=k.max
  |some .string => ∃s,cs=[.string s]
  |some (.struct fs)=>di (l6 P H n) (fs.toList.map (·.type)) cs
  |some (.slice e)=>cs=[.slice none 0 0]∨cs=[.slice (some ⟨0,0,some 0⟩) 0 0] ∨
    ∃id len ds,cs=[.slice (some ⟨id,0,none⟩) len len]/\H[id]?=some (.cells false 0 ds)/\ds.length=len*P.cellsOf e/\len<=maxLen/\di (d6 P n) (List.replicate len e) ds
  |some (.array k e)=>di (l6 P H n) (List.replicate k e) cs
  |_=>False
theorem l6.mono{H K:Heap}:∀{n:Nat} {t:TypeId} {cs:List Value},l6 P H n t cs->l6 P (H++K) n t cs:=by
 intro n
 induction n with
 |zero=>intro t cs h;exact h
 |succ n ih =>
  intro t cs h
  unfold l6 at h ⊢
  split at h
  ·exact h
  ·exact h
  ·exact h
  ·exact di.mono (fun _ _=>ih) h
  ·rcases h with h|h|⟨id,len,cs',h1,h2,h3,h4,h5⟩
   ·exact .inl h
   ·exact .inr (.inl h)
   ·exact .inr (.inr ⟨id,len,cs',h1,by rw[List.getElem?_append_left (List.getElem?_eq_some_iff.1 h2).1];exact h2,h3,h4,h5⟩)
  ·exact di.mono (fun _ _=>ih) h
  ·exact h
def Low(B:Nat)(ρ:Ren)(W:World):Prop:=(∀b m ty fz,b<B->W.heap[b]?=some (.cells m ty fz)->ρ.mem b=some m)/\∀id r,ρ id=some r->r.b<B
theorem rr{B:Nat}{ρ:Ren}{H:Heap}{W:World}{n:Nat}(IH:∀(t:TypeId) (cs cs':List Value),Good P H n t cs->VRl ρ cs cs'->∃ds,VRl ρ ds cs'/\d6 P n t ds) :
  ∀(ts:List TypeId) (cs cs':List Value),di (Good P H n) ts cs->VRl ρ cs cs'->∃ds,VRl ρ ds cs'/\di (d6 P n) ts ds:=by
 intro ts
 induction ts with
 |nil=>intro cs cs' h hv;rw[show cs=[] from h]at hv;exact ⟨[],hv,rfl⟩
 |cons t ts ih =>
  rintro cs cs' ⟨c,rest,rfl,h1,h2⟩ hv
  have hl:(c++rest).length=cs'.length:=hv.1
  rw[List.length_append]at hl
  have v1:VRl ρ c (cs'.take c.length):=⟨by rw[List.length_take];omega,fun i v v' a b=>by
   have hi:=(List.getElem?_eq_some_iff.1 a).1
   rw[List.getElem?_take,if_pos hi]at b
   exact hv.2 i v v' (by rw[List.getElem?_append_left hi];exact a) b⟩
  have v2:VRl ρ rest (cs'.drop c.length):=⟨by rw[List.length_drop];omega,fun i v v' a b=>by
   rw[List.getElem?_drop]at b
   exact hv.2 (c.length+i) v v' (by rw[List.getElem?_append_right (by omega),Nat.add_sub_cancel_left];exact a) b⟩
  obtain ⟨d1,w1,g1⟩:=IH t c _ h1 v1
  obtain ⟨d2,w2,g2⟩:=ih rest _ h2 v2
  refine ⟨d1++d2,?_,d1,d2,rfl,g1,g2⟩
  have:=VRl.append w1 w2
  rw[List.take_append_drop]at this
  exact this
theorem yt{ρ:Ren}{r:RI}{cs:List Value}{W:World}(h:aI ρ r (.cells false 0 cs) W):∃m ty fz,W.heap[r.b]?=some (.cells m ty fz)/\(cs.length=0∨cs.length+r.s<=m.size)/\VRl ρ cs ((m.toList.drop r.s).take cs.length)/\m.size=r.n:=by
 obtain ⟨_,_,m,ty,fz,hb,hsz,_,hcs⟩:=h
 have hle:cs.length=0∨cs.length+r.s<=m.size:=by
  rcases Nat.eq_zero_or_pos cs.length with h0|h0
  ·exact .inl h0
  ·right
   obtain ⟨v',g1,_⟩:=hcs (cs.length-1) _ (List.getElem?_eq_getElem (by omega))
   have:=(Array.getElem?_eq_some_iff.1 g1).1
   omega
 refine ⟨m,ty,fz,hb,hle,⟨?_,fun i v v' a b =>?_⟩,hsz⟩
 ·have e:m.toList.length=m.size:=Array.length_toList
  rw[List.length_take,List.length_drop,e]
  rcases hle with h|h <;> omega
 ·obtain ⟨v2,g1,g2⟩:=hcs i v a
  have hi:=(List.getElem?_eq_some_iff.1 a).1
  rw[List.getElem?_take,if_pos hi,List.getElem?_drop,Array.getElem?_toList,Nat.add_comm,g1]at b
  cases b;exact g2
theorem BB{B:Nat}{ρ:Ren}{H:Heap}{W:World}(hr:Rel P B ρ H W)(hlow:Low B ρ W):∀(n:Nat) (t:TypeId) (cs cs':List Value),Good P H n t cs->VRl ρ cs cs'->∃ds,VRl ρ ds cs'/\d6 P n t ds:=by
 intro n
 induction n with
 |zero=>intro t cs cs' h;exact h.elim
 |succ n ih =>
  intro t cs cs' h hv
  have single:∀v,cs=[v]->∃x,cs'=[x]/\VR ρ v x:=by
   rintro v rfl
   have hl:cs'.length=1:=hv.1.symm
   obtain ⟨x,rfl⟩:=List.length_eq_one_iff.1 hl
   exact ⟨x,rfl,hv.2 0 v x rfl rfl⟩
  unfold Good at h
  split at h
  ·rename_i hu;exact ⟨cs,hv,by unfold d6;rw[hu];exact h⟩
  ·rename_i k hu;exact ⟨cs,hv,by unfold d6;rw[hu];exact h⟩
  ·rename_i hu;exact ⟨cs,hv,by unfold d6;rw[hu];exact h⟩
  ·rename_i fs hu
   obtain ⟨ds,w,g⟩:=rr (B:=B) (W:=W) ih _ cs cs' h hv
   exact ⟨ds,w,by unfold d6;rw[hu];exact g⟩
  ·rename_i e hu
   have FQ:∀x,(∃a c,x = .slice a 0 c)->∃ds,VRl ρ ds [x]/\d6 P (n+1) t ds:=by
    rintro x ⟨a,c,rfl⟩
    refine ⟨[.iface 1 (.agg ⟨[]⟩)],.cons .br (.nil ρ),?_⟩
    unfold d6
    rw[hu]
    exact ⟨0,[],rfl,by simp,by simp[maxLen],rfl⟩
   rcases h with h|h|⟨id,len,csi,h1,h2,h3,h4,h5⟩
   ·obtain ⟨x,rfl,hx⟩:=single _ h
    cases hx;exact FQ _ ⟨_,_,rfl⟩
   ·obtain ⟨x,rfl,hx⟩:=single _ h
    refine FQ _ ?_
    generalize hz:(Value.slice (some ⟨0,0,some 0⟩) 0 0)=z at hx
    cases hx <;> cases hz
    exact ⟨_,_,rfl⟩
   ·obtain ⟨x,rfl,hx⟩:=single _ h1
    rcases Nat.eq_zero_or_pos len with h0|h0
    ·subst h0
     refine FQ _ ?_
     cases hx with
     |slice h hl hc _=>exact ⟨_,_,rfl⟩
     |aQ h=>exact ⟨_,_,rfl⟩
    ·obtain ⟨r,cap',hid,hc,rfl⟩:∃r cap',ρ id=some r/\len<=cap'/\x = .slice (some ⟨r.b,0+r.s,none⟩) len cap':=by
      generalize hz:(Value.slice (some ⟨id,0,none⟩) len len)=z at hx
      cases hx <;> cases hz
      ·exact ⟨_,_,‹_›,by omega,rfl⟩
      ·exact absurd h0 (Nat.lt_irrefl 0)
     obtain ⟨m,ty,fz,hb,hle,hvr,_⟩:=yt (hr.obj id r _ hid h2)
     have hm:=hlow.1 r.b m ty fz (hlow.2 id r hid) hb
     obtain ⟨ds,w,g⟩:=rr (B:=B) (W:=W) ih _ csi _ h5 hvr
     have hdl:ds.length=csi.length:=by
      have e1:=w.1
      have e2:=hvr.1
      omega
     refine ⟨[.iface (len+1) (.agg ⟨ds⟩)],.cons ?_ (.nil ρ),?_⟩
     ·rw[Nat.zero_add]
      refine .deep hm h0 hc (by show ds.length=0∨ds.length+r.s<=m.size;rw[hdl];exact hle) (fun i v v' a b =>?_)
      have hi:i<ds.length:=by have:=(Array.getElem?_eq_some_iff.1 a).1;simpa using this
      refine w.2 i v v' (by simpa using a) ?_
      rw[List.getElem?_take,if_pos (by omega),List.getElem?_drop,Array.getElem?_toList,Nat.add_comm];exact b
     ·unfold d6
      rw[hu]
      exact ⟨len,ds,rfl,by rw[hdl];exact h3,h4,g⟩
  ·rename_i k e hu
   obtain ⟨ds,w,g⟩:=rr (B:=B) (W:=W) ih _ cs cs' h hv
   exact ⟨ds,w,by unfold d6;rw[hu];exact g⟩
  ·exact h.elim
theorem Low.set{B:Nat}{ρ:Ren}{W:World}(h:Low B ρ W){id:Nat}{ri:RI}(hb:ri.b<B):Low B (ρ.set id ri) W:=by
 refine ⟨h.1,fun i r hi =>?_⟩
 by_cases e:i=id
 ·subst e;rw[Ren.av]at hi;cases hi;exact hb
 ·rw[Ren.au e]at hi;exact h.2 i r hi
def rN(P:Program)(H:Heap)(n:Nat)(t:TypeId)(v:Value):Prop :=
 match P.underlying t with
 |some (.struct _) => ∃cs:List Value,v = .agg ⟨cs⟩/\l6 P H n t cs
 |_=>l6 P H n t [v]
theorem rN.mono{H K:Heap}{n:Nat}{t:TypeId}{v:Value}(h:rN P H n t v):rN P (H++K) n t v:=by
 unfold rN at h ⊢
 split at h
 ·obtain ⟨cs,h1,h2⟩:=h;exact ⟨cs,h1,h2.mono⟩
 ·exact h.mono
end Go.K
namespace Go.K
open Go Go.ChangeShapes Go.WideShapes Go.ChangeAt Go.RowKit
variable {P:Program} {HH:Type} {enc:TypeId×Value->HH}
def ij(P:Program)(n:Nat)(t:TypeId)(v:Value):Prop :=
 match P.underlying t with
 |some (.struct _) => ∃cs:List Value,v = .agg ⟨cs⟩/\d6 P n t cs
 |_=>d6 P n t [v]
def j7(P:Program)(n:Nat):List TypeId->List Value->Prop
 | [],[] =>True
 |t :: ts,v :: vs=>ij P n t v/\j7 P n ts vs
 |_,_=>False
theorem DV{B:Nat}{W:World}{n:Nat}{t:TypeId}{v v':Value}{ρ:Ren}{H:Heap}(h:i8 P H n t v)(hv:VR ρ v v')(hr:Rel P B ρ H W)(hlow:Low B ρ W):∃v2,VR ρ v2 v'/\ij P n t v2:=by
 unfold i8 at h
 split at h
 ·rename_i fs hu
  obtain ⟨cs,rfl,h⟩:=h
  cases hv with
  | @agg _ cs' h1 h2 =>
   obtain ⟨ds,w,g⟩:=BB hr hlow n t cs cs'.toList h ⟨by simpa using h1,fun i a b c d=>h2 i a b (by simpa using c) (by simpa using d)⟩
   refine ⟨.agg ⟨ds⟩,.agg (by have:=w.1;simpa using this) (fun i a b c d=>w.2 i a b (by simpa using c) (by simpa using d)),?_⟩
   unfold ij;rw[hu];exact ⟨ds,rfl,g⟩
 ·rename_i hns
  obtain ⟨ds,w,g⟩:=BB hr hlow n t [v] [v'] h (.cons hv (.nil ρ))
  have hl:ds.length=1:=w.1
  obtain ⟨v2,rfl⟩:=List.length_eq_one_iff.1 hl
  refine ⟨v2,w.2 0 v2 v' rfl rfl,?_⟩
  unfold ij
  split
  ·rename_i fs hu;exact absurd hu (hns fs)
  ·exact g
theorem DW{B:Nat}{W:World}{n:Nat}{ρ:Ren}{H:Heap}(hr:Rel P B ρ H W)(hlow:Low B ρ W):∀(ts:List TypeId) (vs vs':List Value),Cj P H n ts vs->VRl ρ vs vs'->∃ws,VRl ρ ws vs'/\j7 P n ts ws:=by
 intro ts
 induction ts with
 |nil =>
  intro vs vs' h hv
  match vs,h with
  | [],_=>exact ⟨[],hv,trivial⟩
 |cons t ts ih =>
  intro vs vs' h hv
  match vs,h with
  |v :: vs,⟨h1,h2⟩ =>
   match vs',hv with
   | [],hv=>exact absurd hv.1 (by simp)
   |v' :: vs',hv =>
    obtain ⟨w1,r1,g1⟩:=DV h1 (hv.2 0 v v' rfl rfl) hr hlow
    obtain ⟨ws,r2,g2⟩:=ih vs vs' h2 (show VRl ρ vs vs' from ⟨by have:=hv.1;simpa using this,fun i a b c d=>hv.2 (i+1) a b (by simpa using c) (by simpa using d)⟩)
    exact ⟨w1 :: ws,.cons r1 r2,g1,g2⟩
end Go.K
namespace Go.K
noncomputable section
variable {P:Program}
theorem VRl.inv{ρ:Ren}{v:Value}{l:List Value}{m:List Value}(h:VRl ρ (v :: l) m):∃x l',m=x :: l'/\VR ρ v x/\VRl ρ l l':=by
 cases m with
 |nil=>exact absurd h.1 (by simp)
 |cons x l'=>exact ⟨x,l',rfl,h.2 0 v x rfl rfl,by have:=h.1;simpa using this,fun i a b c d=>h.2 (i+1) a b (by simpa using c) (by simpa using d)⟩
def fR(P:Program)(base:Nat)(H:Heap)(args args2:List Value)(gs:Heap):Prop :=
 ∀(B:Nat) (ρ:Ren) (w:World) (xs:List Value),Rel P B ρ H w->base<=H.length->VRl ρ args xs->∃ρ1,Post P B base [] ρ H w ρ1 (H++gs) w/\VRl ρ1 args2 xs
theorem fR.nil{base:Nat}{H:Heap}:fR P base H [] [] []:=fun B ρ w xs hr hb hv=>⟨ρ,by rw[List.append_nil];exact Post.refl hr,hv⟩
theorem fR.keep{base:Nat}{H:Heap}{a:Value}{as1 bs:List Value}{gs:Heap}(h:fR P base H as1 bs gs):fR P base H (a :: as1) (a :: bs) gs:=by
 intro B ρ w xs hr hb hv
 obtain ⟨x,l,rfl,h1,h2⟩:=hv.inv
 obtain ⟨ρ1,p,h3⟩:=h B ρ w l hr hb h2
 exact ⟨ρ1,p,.cons (h1.mono p.ext) h3⟩
theorem fR.deep{base n:Nat}{H:Heap}{cs:List Value}{as1 bs:List Value}{gs:Heap}(h:fR P base (H ++ [.cells false 0 cs]) as1 bs gs) :
  fR P base H (.iface (n+1) (.agg ⟨cs⟩) :: as1) (.slice (some ⟨H.length,0,some 2⟩) n n :: bs) (.cells false 0 cs :: gs):=by
 intro B ρ w xs hr hb hv
 obtain ⟨x,l,rfl,h1,h2⟩:=hv.inv
 obtain ⟨ρ1,p,h3⟩:=VR.thaw (base:=base) (M:=[]) hr hb h1
 obtain ⟨ρ2,q,h4⟩:=h B ρ1 w l p.rel (Nat.le_trans hb p.len) (h2.mono p.ext)
 refine ⟨ρ2,?_,.cons (h3.mono q.ext) h4⟩
 have:=p.trans q
 rw[List.append_assoc]at this
 exact this
theorem fR.agg{base n i:Nat}{H:Heap}{cs vs:List Value}{as1 bs:List Value}{gs:Heap}(hi:vs[i]?=some (.iface (n+1) (.agg ⟨cs⟩)))(h:fR P base (H ++ [.cells false 0 cs]) as1 bs gs) :
  fR P base H (.agg ⟨vs⟩ :: as1) (.agg ⟨vs.set i (.slice (some ⟨H.length,0,some 2⟩) n n)⟩ :: bs) (.cells false 0 cs :: gs):=by
 intro B ρ w xs hr hb hv
 obtain ⟨x,l,rfl,h1,h2⟩:=hv.inv
 have hl:=(List.getElem?_eq_some_iff.1 hi).1
 cases h1 with
 | @agg _ cs' g1 g2 =>
  have hlt:i<cs'.size:=by rw[<- g1];simpa using hl
  obtain ⟨ρ1,p,h3⟩:=VR.thaw (base:=base) (M:=[]) hr hb (g2 i _ _ (by simpa using hi) (Array.getElem?_eq_getElem hlt))
  obtain ⟨ρ2,q,h4⟩:=h B ρ1 w l p.rel (Nat.le_trans hb p.len) (h2.mono p.ext)
  have hpq:=p.trans q
  refine ⟨ρ2,?_,.cons (.agg (by simpa using g1) fun j v v' a b =>?_) h4⟩
  ·rw[List.append_assoc]at hpq;exact hpq
  have a':(vs.set i (.slice (some ⟨H.length,0,some 2⟩) n n))[j]?=some v:=by simpa using a
  rw[List.getElem?_set]at a'
  split at a'
  ·rename_i e;subst e
   cases a'
   rw[Array.getElem?_eq_getElem hlt]at b;cases b
   exact h3.mono q.ext
  ·exact (g2 j v v' (by simpa using a') b).mono hpq.ext
theorem ad.thaw{f:FuncId}{args args2:List Value}{H gs:Heap}{M:List Nat}{Q:Value->Heap->Prop}(ht:fR P H.length H args args2 gs)(h:ad P f args2 (H++gs) M Q):ad P f args H M Q:=by
 refine ⟨h.1,fun B ρ w args' hr ha =>?_⟩
 obtain ⟨ρ1,p,hv⟩:=ht B ρ w args'.toList hr (Nat.le_refl _) ha
 refine (h.2 B ρ1 w args' p.rel hv).mono ?_
 rintro e w' ⟨v,v',ρ',H',rfl,h1,h2,h3⟩
 exact ⟨v,v',ρ',H',rfl,h1,(p.weaken (Nat.le_refl _) (fun _ h=>by cases h)).trans (h2.weaken (by rw[List.length_append];omega) (fun _ h _=>h)),h3⟩
def dl(L k n:Nat)(id:Nat):Option Nat:=if id<L then some id else if id<L+n then some (id+k) else none
theorem ad.drop{f:FuncId}{args:List Value}{H K gs new:Heap}{M:List Nat}{v v2:Value}{d:Nat}(h:ad P f args H M (Is v2 (K++gs++new)))(hK:K.length=H.length)(hs:∀id,id<H.length->id ∉ M->K[id]?=H[id]?)
  (hM:∀id o,id<H.length->id∈M->K[id]?=some o->(∃z cs,o = .cells true z cs)/\rno (dl H.length gs.length new.length) d o=o) (hv:rn (dl H.length gs.length new.length) d v=v2)
  (hn:new.map (rno (dl H.length gs.length new.length) d)=new) (hc:∀o∈new,∃z cs,o = .cells true z cs):ad P f args H M (Is v (K++new)):=by
 refine ⟨h.1,fun B ρ w args' hr ha=>(h.2 B ρ w args' hr ha).mono ?_⟩
 rintro e w' ⟨v',r,ρ',H',rfl,hv',hp,rfl,rfl⟩
 have he:Emb H M 0 (dl H.length gs.length new.length) d (fun _=>junk) (K++new) (fun _=>junk) (K++gs++new):=by
  refine ⟨by rw[List.length_append];omega,fun id h=>if_pos h,fun id id' h =>?_,fun id1 id2 id' o1 o2 h1 h2 _ _ _ _ =>?_,fun t h=>by omega,fun id h h2=>by rw[List.getElem?_append_left (by omega)];exact hs id h h2,fun id id' o h1 h2 h3 =>?_⟩
  ·unfold dl at h
   rw[List.length_append,hK]
   split at h
   ·omega
   ·split at h
    ·assumption
    ·cases h
  ·unfold dl at h1 h2
   split at h1 <;> split at h2 <;> (try split at h1) <;> (try split at h2) <;> first|(cases h1;done)|(cases h2;done)|(cases h1;cases h2;omega)|(simp only[Option.some.injEq]at h1 h2;omega)
  ·by_cases hlt:id<H.length
   ·rcases h2 with h2|h2
    ·omega
    ·have e1:dl H.length gs.length new.length id=some id:=if_pos hlt
     rw[e1]at h1;cases h1
     rw[List.getElem?_append_left (by omega)]at h3
     obtain ⟨⟨z,cs,rfl⟩,h5⟩:=hM id o hlt h2 h3
     refine .inr ⟨.cells true z cs,?_,rfl,rfl,fun ρ1 ρ2 r1 w1 hle hob =>?_,fun z2 cs2 e=>by cases e⟩
     ·rw[List.append_assoc,List.getElem?_append_left (by omega)];exact h3
     ·refine ja (d:=d) hle.1 hle.2 hle.3 (o:=.cells true z cs) ?_ (fun q=>by rw[h5]at q;cases q)
      rw[h5];exact hob
   ·unfold dl at h1
    rw[if_neg hlt]at h1
    split at h1
    ·rename_i hl2
     cases h1
     rw[List.getElem?_append_right (by omega),hK]at h3
     have ho:=List.mem_of_getElem? h3
     obtain ⟨z,cs,rfl⟩:=hc o ho
     have h4:(new.map (rno (dl H.length gs.length new.length) d))[id-H.length]?=some (rno (dl H.length gs.length new.length) d (.cells true z cs)):=by rw[List.getElem?_map,h3];rfl
     rw[hn,h3]at h4
     have h5:rno (dl H.length gs.length new.length) d (.cells true z cs) = .cells true z cs:=(Option.some.inj h4).symm
     refine .inr ⟨.cells true z cs,?_,rfl,rfl,fun ρ1 ρ2 r1 w1 hle hob =>?_,fun z2 cs2 e=>by cases e⟩
     ·rw[List.getElem?_append_right (by rw[List.length_append];omega),List.length_append,hK,show id+gs.length-(H.length+gs.length)=id-H.length by omega];exact h3
     ·refine ja (d:=d) hle.1 hle.2 hle.3 (o:=.cells true z cs) ?_ (fun q=>by rw[h5]at q;cases q)
      rw[h5];exact hob
    ·cases h1
 obtain ⟨q1,_⟩:=he.post hr hp
 refine ⟨v,r,bf ρ' (dl H.length gs.length new.length),_,rfl,?_,q1,rfl,rfl⟩
 have hσ:∀id id' r,dl H.length gs.length new.length id=some id'->ρ' id'=some r->(bf ρ' (dl H.length gs.length new.length)) id=some r:=fun id id' r h1 h2=>by show Option.bind _ _=_;rw[h1];exact h2
 refine gq (ρ':=ρ') (ρ:=bf ρ' (dl H.length gs.length new.length)) hσ (fun _ _ h=>h) (fun F F' k r h1 h2=>by show Option.bind _ _=_;rw[h1];exact h2) d ?_
 rw[hv];exact hv'
theorem zT{ρ ρ':Ren}{σ:Nat->Option Nat}(hσ:∀id id' r,σ id=some id'->ρ' id'=some r->∃r',ρ id=some r'/\r'.b=r.b/\r'.s=r.s/\(r'.own=false∨r'=r))(hm:∀b m,ρ'.mem b=some m->ρ.mem b=some m)(hg:∀F F' k r,σ F=some F'->ρ'.g F' k=some r->ρ.g F k=some r):∀(d:Nat) {v r:Value},VR ρ' (rn σ d v) r->VR ρ v r:=by
 intro d
 induction d with
 |zero=>intro v r h;exact (VR.bad h).elim
 |succ d ih =>
  have ptr:∀{id id' off:Nat} {r:RI},σ id=some id'->ρ' id'=some r->VR ρ (.pointer (some ⟨id,off,none⟩)) (.pointer (some ⟨r.b,off+r.s,none⟩)):=by
   intro id id' off r g k
   obtain ⟨r',a1,a2,a3,_⟩:=hσ _ _ _ g k
   rw[<- a2,<- a3];exact .ptr a1
  have slc:∀{id id' off len cap cap':Nat} {r:RI},σ id=some id'->ρ' id'=some r->len<=cap->cap<=cap'->(r.own=true->r.z≠0->off+r.s+cap'*r.z<=r.n)->VR ρ (.slice (some ⟨id,off,none⟩) len cap) (.slice (some ⟨r.b,off+r.s,none⟩) len cap'):=by
   intro id id' off len cap cap' r g k hl hc ho
   obtain ⟨r',a1,a2,a3,a4⟩:=hσ _ _ _ g k
   rcases a4 with a4|rfl
   ·rw[<- a2,<- a3];exact .slice a1 hl hc (fun h=>by rw[a4]at h;cases h)
   ·exact .slice a1 hl hc ho
  have slQ:∀{id id' off len cap cap':Nat} {r:RI},σ id=some id'->ρ' id'=some r->0<len->len<=cap->cap<=cap'->(r.own=true->r.z≠0->off+r.s+cap'*r.z<=r.n)->VR ρ (.slice (some ⟨id,off,some 1⟩) len cap) (.slice (some ⟨r.b,off+r.s,none⟩) len cap'):=by
   intro id id' off len cap cap' r g k hp hl hc ho
   obtain ⟨r',a1,a2,a3,a4⟩:=hσ _ _ _ g k
   rcases a4 with a4|rfl
   ·rw[<- a2,<- a3];exact .aD a1 hp hl hc (fun h=>by rw[a4]at h;cases h)
   ·exact .aD a1 hp hl hc ho
  have slR:∀{id id' off len cap cap':Nat} {r:RI},σ id=some id'->ρ' id'=some r->0<len->len<=cap->cap<=cap'->(r.own=true->r.z≠0->off+r.s+cap'*r.z<=r.n)->VR ρ (.slice (some ⟨id,off,some 2⟩) len cap) (.slice (some ⟨r.b,off+r.s,none⟩) len cap'):=by
   intro id id' off len cap cap' r g k hp hl hc ho
   obtain ⟨r',a1,a2,a3,a4⟩:=hσ _ _ _ g k
   rcases a4 with a4|rfl
   ·rw[<- a2,<- a3];exact .aX a1 hp hl hc (fun h=>by rw[a4]at h;cases h)
   ·exact .aX a1 hp hl hc ho
  intro v r h
  unfold rn at h
  split at h
  ·split at h
   ·rename_i g;cases h with|ptr k=>exact ptr g k
   ·exact (VR.bad h).elim
  ·split at h
   ·rename_i g;cases h with|dS k=>exact .dS (hg _ _ _ _ g k)
   ·exact (VR.bad h).elim
  ·split at h
   ·rename_i g
    cases h with
    |slice k hl hc ho=>exact slc g k hl hc ho
    |aQ k=>obtain ⟨r',a1,a2,a3,_⟩:=hσ _ _ _ g k;rw[<- a2];exact .aQ a1
   ·exact (VR.bad h).elim
  ·split at h
   ·rename_i g
    cases h with
    |ax=>exact .ax
    |ay=>exact .ay
    |aD k hp hl hc ho=>exact slQ g k hp hl hc ho
    |aB=>exact .aB
    |aX k hp hl hc ho=>exact slR g k hp hl hc ho
   ·split at h
    ·cases h with
     |ax=>exact .ax
     |ay=>exact .ay
     |aD k hp hl hc ho=>exact absurd hp (Nat.lt_irrefl 0)
     |aB=>exact .aB
     |aX k hp hl hc ho=>exact absurd hp (Nat.lt_irrefl 0)
    ·exact (VR.bad h).elim
  ·split at h
   ·rename_i g;cases h with|map k=>obtain ⟨r',a1,a2,_⟩:=hσ _ _ _ g k;rw[<- a2];exact .map a1
   ·exact (VR.bad h).elim
  ·split at h
   ·rename_i g;cases h with|yield k=>obtain ⟨r',a1,a2,_⟩:=hσ _ _ _ g k;rw[<- a2];exact .yield a1
   ·exact (VR.bad h).elim
  ·cases h with
   |func h1 h2 h3 h4 =>
    obtain ⟨a1,a2⟩:=dQ ih h1 h2
    obtain ⟨b1,b2⟩:=dQ ih h3 h4
    exact .func a1 a2 b1 b2
  ·exact (VR.bad h).elim
  ·cases h with|agg h1 h2=>obtain ⟨a1,a2⟩:=dQ ih h1 h2;exact .agg a1 a2
  ·cases h with|tuple h1 h2=>obtain ⟨a1,a2⟩:=dQ ih h1 h2;exact .tuple a1 a2
  ·cases h with
   |deep g1 g2 g3 g4 g5=>obtain ⟨a1,a2⟩:=gI ih g4 g5;exact .deep (hm _ _ g1) g2 g3 a1 a2
   |br=>exact .br
  ·cases h with|bP g1 g2 g3=>obtain ⟨a1,a2⟩:=gI ih g2 g3;exact .bP (hm _ _ g1) a1 a2
  ·split at h
   ·rename_i g
    cases h with
    |fsl k hp hc hs ho=>exact .fsl (hg _ _ _ _ g k) hp hc hs ho
    |bS=>exact .bS
   ·split at h
    ·cases h with|bS=>exact .bS
    ·exact (VR.bad h).elim
  ·rename_i n1 n1f n2 n2q n3 n4 n5 n6 n7 n8 n9 n10 n11
   cases h with
   |junk=>exact .junk _
   |bool b=>exact .bool b
   |int k n=>exact .int k n
   |float k n=>exact .float k n
   |string s=>exact .string s
   |bK=>exact .bK
   |ptr k=>exact absurd rfl (n1 _ _)
   |dS k=>exact absurd rfl (n1f _ _ _)
   |aT=>exact .aT
   |slice k hl hc ho=>exact absurd rfl (n2 _ _ _ _)
   |aQ k=>exact absurd rfl (n2 _ _ _ _)
   |bv=>exact .bv
   |ax=>exact .ax
   |ay=>exact .ay
   |aD=>exact absurd rfl (n2q _ _ _ _ _)
   |aB=>exact .aB
   |aX=>exact absurd rfl (n2q _ _ _ _ _)
   |bL=>exact .bL
   |map k=>exact absurd rfl (n3 _)
   |nilFunc=>exact .nilFunc
   |nilIface=>exact .nilIface
   |func h1 h2 h3 h4=>exact absurd rfl (n5 _ _ _)
   |yield k=>exact absurd rfl (n4 _)
   |agg h1 h2=>exact absurd rfl (n7 _)
   |tuple h1 h2=>exact absurd rfl (n8 _)
   |deep=>exact absurd rfl (n9 _ _)
   |br=>exact absurd rfl (n9 _ _)
   |fsl=>exact absurd rfl (n11 _ _ _ _)
   |bS=>exact .bS
   |bP=>exact absurd rfl (n10 _ _)
def plO:aa->Bool
 | .cells true _ cs=>cs.all (ao 0)
 | .map es=>es.all fun e=>bn 0 e.1&&bn 0 e.2
 |_=>false
theorem hC{o:aa}(h:plO o=true):o.owned=true/\o.alive=true/\(∀z cs,o ≠ .fam z cs)/\(∀z cs,o ≠ .cells false z cs):=by
 cases o with
 |cells own z cs=>cases own with
  |true=>exact ⟨rfl,rfl,fun _ _ h=>(by cases h),fun _ _ h=>(by cases h)⟩
  |false=>cases h
 |map es=>exact ⟨rfl,rfl,fun _ _ h=>(by cases h),fun _ _ h=>(by cases h)⟩
 |_=>cases h
structure B9(P:Program)(H0 H:Heap)(σ:Nat->Option Nat)(d k D:Nat)(o0:aa):Prop where
 cS:∀g,g<P.globals.size->σ g=some g
 dom:∀id id',σ id=some id'->id<H0.length
 len:P.globals.size<=H0.length
 k0:H0[k]?=some o0
 hk:σ k=some D
 hD:H[D]?=some o0
 pl:plO o0=true
 obj:∀(id:Nat) (o:aa),id≠k->H0[id]?=some o->o = .dead∨∃cs,o = .cells false 0 cs
 ne:∀(id:Nat) (cs:List Value),H0[id]?=some (.cells false 0 cs)->σ id≠some D
 rd:∀(id id':Nat) (cs:List Value),σ id=some id'->H0[id]?=some (.cells false 0 cs)->∃own z,H[id']?=some (.cells own z (cs.map (rn σ d)))
theorem pv{ρ ρ':Ren}{r:RI}{o:aa}{w:World}(hm:∀b m,ρ.mem b=some m->ρ'.mem b=some m)(hp:plO o=true)(h:aI ρ r o w):aI ρ' r o w:=by
 cases o with
 |cells own z cs =>
  cases own with
  |false=>cases hp
  |true =>
   obtain ⟨h1,h2,cs',ty,fz,h3,h4,h5,h6⟩:=h
   refine ⟨h1,h2,cs',ty,fz,h3,h4,h5,fun i v hv =>?_⟩
   obtain ⟨v',g1,g2⟩:=h6 i v hv
   have hp:cs.all (ao 0)=true:=hp
   rw[List.all_eq_true]at hp
   exact ⟨v',g1,aH (ρ:=ρ') (ρ':=ρ) (fun i r hi=>absurd hi (Nat.not_lt_zero _)) hm (hp v (List.mem_of_getElem? hv)) g2⟩
 |map es =>
  obtain ⟨h1,es',h2,h3,h4⟩:=h
  refine ⟨h1,es',h2,h3,fun i k v hv =>?_⟩
  obtain ⟨e',g1,g2,g3⟩:=h4 i k v hv
  have hp:(es.all fun e=>bn 0 e.1&&bn 0 e.2)=true:=hp
  rw[List.all_eq_true]at hp
  have q:=hp _ (List.mem_of_getElem? hv)
  rw[Bool.and_eq_true]at q
  exact ⟨e',g1,eS (ρ:=ρ') (ρ':=ρ) (fun i r hi=>absurd hi (Nat.not_lt_zero _)) hm q.1 g2,eS (ρ:=ρ') (ρ':=ρ) (fun i r hi=>absurd hi (Nat.not_lt_zero _)) hm q.2 g3⟩
 |_=>cases hp
theorem ad.writes{f:FuncId}{args:List Value}{H0 H new:Heap}{v:Value}{σ:Nat->Option Nat}{d k D:Nat}{o0 o1:aa}(hp:B9 P H0 H σ d k D o0)(h:ad P f args H0 [k] (Is v (H0.set k o1++new)))
  (h1p:plO o1=true) (hv:cm d v=true) (hv2:rn (bZ H0.length) d v=v) (hn:new.all (fun o=>am d o&&o.owned)=true) (hn2:new.map (rno (bZ H0.length) d)=new) :
  ad P f (args.map (rn σ d)) H [D] (Is (rn (eM H0.length H.length) d v) (H.set D o1++new.map (rno (eM H0.length H.length) d))):=by
 refine ⟨h.1,fun B ρ w args' hr ha =>?_⟩
 let ρs:Ren:=⟨fun id=>(σ id).bind fun id'=>(ρ id').map fun r=>if id=k then r else ⟨r.b,r.s,r.n,0,false⟩,ρ.mem,fun F k=>(σ F).bind fun F'=>ρ.g F' k⟩
 have hσ:∀id id' r,σ id=some id'->ρ id'=some r->ρs id=some (if id=k then r else ⟨r.b,r.s,r.n,0,false⟩):=by
  intro id id' r h1 h2;show Option.bind _ _=_;rw[h1];show Option.map _ _=_;rw[h2];rfl
 have hσd:∀id id' r,σ id=some id'->ρ id'=some r->∃r',ρs id=some r'/\r'.b=r.b/\r'.s=r.s/\(r'.own=false∨r'=r):=fun id id' r h1 h2=>by
  refine ⟨_,hσ _ _ _ h1 h2,?_⟩
  split
  ·exact ⟨rfl,rfl,.inr rfl⟩
  ·exact ⟨rfl,rfl,.inl rfl⟩
 have hσg:∀F F' k r,σ F=some F'->ρ.g F' k=some r->ρs.g F k=some r:=by intro F F' k r h1 h2;show Option.bind _ _=_;rw[h1];exact h2
 have de:∀{F k r},ρs.g F k=some r->∃F',σ F=some F'/\ρ.g F' k=some r:=fun h=>Option.bind_eq_some_iff.1 h
 have tV:∀{F:Nat} {z:Nat} {cs:List Value},H0[F]?=some (.fam z cs)->False:=fun {F z' cs} mh=>by
  by_cases e:F=k
  ·have:=mh;rw[e,hp.k0]at this;exact absurd (Option.some.inj this) ((hC hp.pl).2.2.1 _ _)
  ·rcases hp.obj F _ e mh with h|⟨_,h⟩ <;> cases h
 have hnf:∀{F k r z cs},FM ρs H0 F k r z cs->False:=fun m=>tV m.h
 have hsome:∀{id r},ρs id=some r->∃id' r0,σ id=some id'/\ρ id'=some r0/\r=if id=k then r0 else ⟨r0.b,r0.s,r0.n,0,false⟩:=by
  intro id r h
  obtain ⟨id',h1,h2⟩:=Option.bind_eq_some_iff.1 h
  obtain ⟨r0,h3,h4⟩:=Option.map_eq_some_iff.1 h2
  exact ⟨id',r0,h1,h3,h4.symm⟩
 have hsk:∀{r},ρs k=some r->ρ D=some r:=fun {r} h=>by
  obtain ⟨id',r0,h1,h2,h3⟩:=hsome h
  rw[if_pos rfl]at h3
  subst h3
  rw[hp.hk]at h1;cases h1;exact h2
 have hown:∀(id:Nat) (o:aa),H0[id]?=some o->o.owned=true->id=k:=by
  intro id o h1 h2
  by_cases e:id=k
  ·exact e
  ·rcases hp.obj id o e h1 with rfl|⟨cs,rfl⟩ <;> cases h2
 have hDo:o0.owned=true:=(hC hp.pl).1
 have hDa:o0.alive=true:=(hC hp.pl).2.1
 have hDf:=(hC hp.pl).2.2.1
 have Gt:o1.owned=true:=(hC h1p).1
 have h1a:o1.alive=true:=(hC h1p).2.1
 have h1f:=(hC h1p).2.2.1
 have hoth:∀{id r o rD},id≠k->ρs id=some r->H0[id]?=some o->o.alive=true->ρ D=some rD->rD.b≠r.b:=fun {id r o rD} e h1 h2 h3 h4=>by
  rcases hp.obj id o e h2 with rfl|⟨cs,rfl⟩
  ·cases h3
  ·obtain ⟨id',r0,k1,k2,rfl⟩:=hsome h1
   obtain ⟨own,z',g⟩:=hp.rd id id' cs k1 h2
   rw[if_neg e]
   exact hr.sep D id' rD r0 _ _ h4 k2 hp.hD g hDo rfl (fun q=>hp.ne id cs h2 (by rw[k1,q]))
 have hr0:Rel P B ρs H0 w:=by
  refine ⟨hr.bsize,fun g hg =>?_,fun id r h =>?_,fun id r h =>?_,fun id r o h1 h2 =>?_,fun id r o h1 h2 h3 =>?_,fun id1 id2 r1 r2 o1 o2 h1 h2 g1 g2 k1 k2 hne =>?_,fun b m hb=>⟨(hr.mem b m hb).1,fun id r o h1 h2 h3 =>?_⟩,
   ⟨fun F k r h=>by obtain ⟨F',k1,_⟩:=de h;exact hp.dom _ _ k1,fun F k r h=>by obtain ⟨F',_,k2⟩:=de h;exact hr.fam.lt _ _ _ k2,fun _ _ _ _ _ m=>(hnf m).elim,fun _ _ _ _ _ m=>(hnf m).elim,fun _ _ _ _ _ _ _ _ _ _ m=>(hnf m).elim,fun _ _ _ _ _ _ _ _ m=>(hnf m).elim,fun _ _ _ _ _ _ _ m=>(hnf m).elim,fun _ _ _ _ _ h=>(tV h).elim⟩⟩
  ·obtain ⟨r,k1,k2,k3⟩:=hr.cS g hg
   refine ⟨_,hσ g g r (hp.cS g hg) k1,?_⟩
   split
   ·exact ⟨k2,k3⟩
   ·exact ⟨k2,k3⟩
  ·obtain ⟨id',r0,h1,_,_⟩:=hsome h;exact hp.dom _ _ h1
  ·obtain ⟨id',r0,_,h2,rfl⟩:=hsome h
   have:=hr.lt id' r0 h2
   split <;> exact this
  ·by_cases e:id=k
   ·subst e
    rw[hp.k0]at h2;cases h2
    exact pv (ρ:=ρ) (ρ':=ρs) (fun _ _ h=>h) hp.pl (hr.obj D r _ (hsk h1) hp.hD)
   ·obtain ⟨id',r0,k1,k2,rfl⟩:=hsome h1
    rw[if_neg e]
    rcases hp.obj id o e h2 with rfl|⟨cs,rfl⟩
    ·trivial
    ·obtain ⟨own,z,g⟩:=hp.rd id id' cs k1 h2
     obtain ⟨e1,e2,cs',ty,fz,hb,hnz,hfz,hcs⟩:=hr.obj _ _ _ k2 g
     refine ⟨rfl,rfl,cs',ty,fz,hb,hnz,fun h=>(by cases h),fun i x hx =>?_⟩
     obtain ⟨x',y1,y2⟩:=hcs i (rn σ d x) (by rw[List.getElem?_map,hx];rfl)
     exact ⟨x',y1,zT hσd (fun _ _ h=>h) hσg d y2⟩
  ·obtain rfl:=hown id o h2 h3
   exact hr.base D r _ (hsk h1) hp.hD hDo
  ·obtain rfl:=hown id1 o1 g1 k1
   exact hoth (Ne.symm hne) h2 g2 k2 (hsk h1)
  ·obtain rfl:=hown id o h2 h3
   exact (hr.mem b m hb).2 D r _ (hsk h1) hp.hD hDo
 have ha0:VRl ρs args args'.toList:=⟨by have:=ha.1;simpa using this,fun i x x' a b=>zT hσd (fun _ _ h=>h) hσg d (ha.2 i (rn σ d x) x' (by rw[List.getElem?_map,a];rfl) b)⟩
 refine (h.2 B ρs w args' hr0 ha0).mono ?_
 rintro e w' ⟨v1,v',ρ1,H1,rfl,hv',hpost,rfl,rfl⟩
 have hkl:k<H0.length:=(List.getElem?_eq_some_iff.1 hp.k0).1
 have hDl:D<H.length:=(List.getElem?_eq_some_iff.1 hp.hD).1
 have h1k:(H0.set k o1++new)[k]?=some o1:=by
  rw[List.getElem?_append_left (by simpa using hkl),List.getElem?_set_self hkl]
 have h1o:∀i,i<H0.length->i≠k->(H0.set k o1++new)[i]?=H0[i]? := fun i hi e=>by
  rw[List.getElem?_append_left (by simpa using hi),List.getElem?_set_ne (Ne.symm e)]
 have h1n:∀i,H0.length<=i->(H0.set k o1++new)[i]?=new[i-H0.length]? := fun i hi=>by
  rw[List.getElem?_append_right (by simpa using hi)];simp
 have yW:∀b,OB ρs H0 b->∃rD,ρ D=some rD/\ρs k=some rD/\rD.b=b:=fun b h=>h.elim (fun ⟨id,r,o,h1,h2,h3,h4⟩=>by
   obtain rfl:=hown id o h2 h3
   exact ⟨r,hsk h1,h1,h4⟩) (fun ⟨_,_,_,_,_,m,_⟩=>(hnf m).elim)
 have hOB:∀b,OB ρs H0 b->OB ρ H b:=fun b h=>by
  obtain ⟨rD,h1,_,h2⟩:=yW b h
  exact .inl ⟨D,rD,_,h1,hp.hD,hDo,h2⟩
 let ρ2:Ren:=⟨fun id=>if id<H.length then ρ id else ρ1 (H0.length+(id-H.length)),ρ1.mem,fun F k=>if F<H.length then ρ.g F k else ρ1.g (H0.length+(F-H.length)) k⟩
 let ρn:Ren:=⟨fun id=>if id<H0.length then none else ρ1 id,ρ1.mem,fun F k=>if F<H0.length then none else ρ1.g F k⟩
 have hn1:∀id id' r,bZ H0.length id=some id'->ρ1 id'=some r->ρn id=some r:=by
  intro id id' r h1 h2
  unfold bZ at h1
  split at h1
  ·cases h1
  ·rename_i hlt;cases h1;show (if _ then _ else _)=_;rw[if_neg hlt];exact h2
 have A9:∀F F' k r,bZ H0.length F=some F'->ρ1.g F' k=some r->ρn.g F k=some r:=by
  intro F F' k r h1 h2
  unfold bZ at h1
  split at h1
  ·cases h1
  ·rename_i hlt;cases h1;show (if _ then _ else _)=_;rw[if_neg hlt];exact h2
 have kA:∀F k r,ρn.g F k=some r->∃F',eM H0.length H.length F=some F'/\ρ2.g F' k=some r:=by
  intro F k r h1
  have h1':(if F<H0.length then none else ρ1.g F k)=some r:=h1
  split at h1'
  ·cases h1'
  ·rename_i hlt
   refine ⟨_,if_neg hlt,?_⟩
   show (if _ then _ else _)=_
   rw[if_neg (by omega),show H0.length+(H.length+(F-H0.length)-H.length)=F by omega];exact h1'
 have rb:∀id r,ρn id=some r->∃id',eM H0.length H.length id=some id'/\ρ2 id'=some r:=by
  intro id r h1
  have h1':(if id<H0.length then none else ρ1 id)=some r:=h1
  split at h1'
  ·cases h1'
  ·rename_i hlt
   refine ⟨_,if_neg hlt,?_⟩
   show (if _ then _ else _)=_
   rw[if_neg (by omega),show H0.length+(H.length+(id-H0.length)-H.length)=id by omega];exact h1'
 have hext:Ren.le ρ ρ2:=⟨fun id r h1=>by
  show (if _ then _ else _)=_
  rw[if_pos (hr.dom _ _ h1)];exact h1,hpost.ext.mem,fun F k r h1=>by
  show (if _ then _ else _)=_
  rw[if_pos (hr.fam.dom _ _ _ h1)];exact h1⟩
 have hnew:∀(k:Nat) (o:aa),new[k]?=some o->am d o=true/\o.owned=true/\rno (bZ H0.length) d o=o:=by
  intro k o hk
  rw[List.all_eq_true]at hn
  have:=hn o (List.mem_of_getElem? hk)
  simp only[Bool.and_eq_true]at this
  refine ⟨this.1,this.2,?_⟩
  have h3:(new.map (rno (bZ H0.length) d))[k]?=some o:=by rw[hn2];exact hk
  rw[List.getElem?_map,hk]at h3
  exact Option.some.inj h3
 have hoa:∀o:aa,o.owned=true->o.alive=true:=by intro o ho;cases o <;> first|rfl|cases ho
 have hfresh:∀id r o,H0.length<=id->ρ1 id=some r->new[id-H0.length]?=some o->w.heap.size<=r.b:=by
  intro id r o hid h1 h2
  have ho:o.owned=true:=(hnew _ _ h2).2.1
  rcases Nat.lt_or_ge r.b w.heap.size with hlt|hge
  ·obtain ⟨rD,k1,k2,k3⟩:=yW _ (hpost.ob r.b hlt (.inl ⟨id,r,o,h1,by rw[h1n id hid];exact h2,ho,rfl⟩))
   exact absurd k3 (hpost.rel.sep k id rD r _ o (hpost.ext _ _ k2) h1 h1k (by rw[h1n id hid];exact h2) Gt (hoa _ ho) (by omega))
  ·exact hge
 have Bc:(H.set D o1++new.map (rno (eM H0.length H.length) d))[D]?=some o1:=by
  rw[List.getElem?_append_left (by simpa using hDl),List.getElem?_set_self hDl]
 have dh:∀id,id<H.length->id≠D->(H.set D o1++new.map (rno (eM H0.length H.length) d))[id]?=H[id]? := fun id hid e=>by
  rw[List.getElem?_append_left (by simpa using hid),List.getElem?_set_ne (Ne.symm e)]
 have hback:∀id o,id<H.length->(H.set D o1++new.map (rno (eM H0.length H.length) d))[id]?=some o->∃o',H[id]?=some o'/\o'.owned=o.owned/\o'.alive=o.alive:=fun id o hid h2=>by
  by_cases e:id=D
  ·subst e
   rw[Bc]at h2;cases h2
   exact ⟨_,hp.hD,hDo.trans Gt.symm,hDa.trans h1a.symm⟩
  ·rw[dh id hid e]at h2;exact ⟨o,h2,rfl,rfl⟩
 have cY:∀id o',H.length<=id->(H.set D o1++new.map (rno (eM H0.length H.length) d))[id]?=some o'->∃o,new[id-H.length]?=some o/\o'=rno (eM H0.length H.length) d o/\am d o=true/\o.owned=true/\rno (bZ H0.length) d o=o:=by
  intro id o' hid h2
  rw[List.getElem?_append_right (by simpa using hid),List.getElem?_map,List.length_set]at h2
  obtain ⟨o,a1,rfl⟩:=Option.map_eq_some_iff.1 h2
  obtain ⟨x1,x2,x3⟩:=hnew _ _ a1
  exact ⟨o,a1,rfl,x1,x2,x3⟩
 have hvn:VR ρn v1 v':=by
  have:VR ρ1 (rn (bZ H0.length) d v1) v':=by rw[hv2];exact hv'
  exact gq hn1 (fun _ _ h=>h) A9 d this
 refine ⟨_,v',ρ2,_,rfl,qg rb (fun _ _ h=>h) kA d hv hvn,?_,rfl,rfl⟩
 have fr:∀id r o,¬ id<H.length->ρ1 (H0.length+(id-H.length))=some r->(H.set D o1++new.map (rno (eM H0.length H.length) d))[id]?=some o->w.heap.size<=r.b:=by
  intro id r o hid a b
  obtain ⟨o0,a1,_,_,_,_⟩:=cY id o (by omega) b
  exact hfresh _ r o0 (by omega) a (by rw[show H0.length+(id-H.length)-H0.length=id-H.length by omega];exact a1)
 have u:∀id,ρ2 id=if id<H.length then ρ id else ρ1 (H0.length+(id-H.length)):=fun _=>rfl
 have Jy:∀id r o,ρ id=some r->H[id]?=some o->o.alive=true->id≠D->¬ OB ρs H0 r.b:=fun id r o a b c e q=>by
  obtain ⟨rD,k1,_,k3⟩:=yW _ q
  exact hr.sep D id rD r _ o k1 a hp.hD b hDo c (Ne.symm e) k3
 have kB:∀{F k r z' cs},ρ2.g F k=some r->(H.set D o1++new.map (rno (eM H0.length H.length) d))[F]?=some (.fam z' cs)->ρ.g F k=some r/\H[F]?=some (.fam z' cs):=fun {F k r z' cs} mg mh=>by
  have h1:(if F<H.length then ρ.g F k else ρ1.g (H0.length+(F-H.length)) k)=some r:=mg
  rcases Nat.lt_or_ge F H.length with h|h
  ·rw[if_pos h]at h1
   refine ⟨h1,?_⟩
   by_cases e:F=D
   ·have:=mh;rw[e,Bc]at this;exact absurd (Option.some.inj this) (h1f _ _)
   ·rw[<- dh F h e];exact mh
  ·obtain ⟨o,_,e,g1,g2,_⟩:=cY F _ h mh
   cases o <;> first|(cases g1;done)|(cases g2;done)|(cases e;done)
 have hfm:∀{F k r z' cs},FM ρ2 (H.set D o1++new.map (rno (eM H0.length H.length) d)) F k r z' cs->FM ρ H F k r z' cs:=fun m=>⟨(kB m.g m.h).1,(kB m.g m.h).2,m.a⟩
 have ju:gR B ρ2 (H.set D o1++new.map (rno (eM H0.length H.length) d)) w':=by
  refine ⟨fun F k r h1 =>?_,fun F k r h1 =>?_,fun F k r z cs m=>hr.fam.base _ _ _ _ _ (hfm m),fun F k r z cs m=>(hr.fam.obj _ _ _ _ _ (hfm m)).mono hext (hpost.keep _ (hr.fam.lt _ _ _ (hfm m).g) (fun q =>?_)),
   fun F k r z cs F' k' r' z' cs' m m'=>hr.fam.sep _ _ _ _ _ _ _ _ _ _ (hfm m) (hfm m'),fun F k r z cs id r' o m h1 h2 h3 =>?_,fun F k r z cs b m' m hb =>?_,fun F k r cs h1 h2=>hr.fam.cnt F k r cs (kB h1 h2).1 (kB h1 h2).2⟩
  ·have h1:(if F<H.length then ρ.g F k else ρ1.g (H0.length+(F-H.length)) k)=some r:=h1
   rcases Nat.lt_or_ge F H.length with h|h
   ·simp;omega
   ·rw[if_neg (by omega)]at h1
    have:=hpost.rel.fam.dom _ _ _ h1
    simp at this ⊢;omega
  ·have h1:(if F<H.length then ρ.g F k else ρ1.g (H0.length+(F-H.length)) k)=some r:=h1
   rcases Nat.lt_or_ge F H.length with h|h
   ·rw[if_pos h]at h1
    exact Nat.lt_of_lt_of_le (hr.fam.lt _ _ _ h1) hpost.size
   ·rw[if_neg (by omega)]at h1
    exact hpost.rel.fam.lt _ _ _ h1
  ·obtain ⟨rD,k1,_,k3⟩:=yW _ q
   exact hr.fam.sep2 _ _ _ _ _ D rD _ (hfm m) k1 hp.hD hDa k3
  ·rw[u]at h1
   rcases Nat.lt_or_ge id H.length with h|h
   ·rw[if_pos h]at h1
    obtain ⟨o',b1,_,b3⟩:=hback id o h h2
    exact hr.fam.sep2 _ _ _ _ _ id r' o' (hfm m) h1 b1 (by rw[b3];exact h3)
   ·rw[if_neg (by omega)]at h1
    have:=fr id r' o (by omega) h1 h2
    have:=hr.fam.lt _ _ _ (hfm m).g
    omega
  ·have hb:ρ1.mem b=some m':=hb
   rcases hpost.frz b m' hb with g|g|g
   ·exact hr.fam.mem _ _ _ _ _ b m' (hfm m) g
   ·have:=hr.fam.lt _ _ _ (hfm m).g;omega
   ·obtain ⟨rD,k1,_,k3⟩:=yW _ g
    exact fun q=>hr.fam.sep2 _ _ _ _ _ D rD _ (hfm m) k1 hp.hD hDa (k3.trans q.symm)
 refine ⟨⟨Nat.le_trans hr.bsize hpost.size,fun g hg =>?_,fun id r h1 =>?_,fun id r h1 =>?_,fun id r o h1 h2 =>?_,fun id r o h1 h2 h3 =>?_,fun id1 id2 r1 r2 o1 o2 h1 h2 g1 g2 k1 k2 hne =>?_,fun b m hb=>⟨(hpost.rel.mem b m hb).1,fun id r o h1 h2 h3 =>?_⟩,ju⟩,hext,fun id r h1 h2 =>?_,by simp,fun id h1 h2=>dh id h1 (fun e=>h2 (by rw[e];exact List.mem_singleton.2 rfl)),hpost.size,fun b h1 h2=>hpost.keep b h1 (fun q=>h2 (hOB b q)),fun b h1 h2 =>?_,hpost.os,hpost.tape,hpost.output,fun b m hb=>(hpost.frz b m hb).imp id fun h=>h.imp id (hOB b),hpost.drawn,fun F k r h1 h2 => .inl (by
  have h1:(if F<H.length then ρ.g F k else ρ1.g (H0.length+(F-H.length)) k)=some r:=h1
  rcases Nat.lt_or_ge F H.length with h|h
  ·rw[if_pos h,h2]at h1;cases h1
  ·exact h)⟩
 ·obtain ⟨r,k1,k2,k3⟩:=hr.cS g hg;exact ⟨r,hext _ _ k1,k2,k3⟩
 ·rw[u]at h1
  split at h1
  ·rw[List.length_append,List.length_set];omega
  ·rename_i hid
   have:=hpost.rel.dom _ _ h1
   rw[List.length_append,List.length_set]at this
   rw[List.length_append,List.length_map,List.length_set];omega
 ·rw[u]at h1
  split at h1
  ·exact Nat.lt_of_lt_of_le (hr.lt _ _ h1) hpost.size
  ·exact hpost.rel.lt _ _ h1
 ·rw[u]at h1
  split at h1
  ·rename_i hid
   by_cases e:id=D
   ·subst e
    rw[Bc]at h2;cases h2
    have hk1:ρs k=some r:=by have:=hσ _ _ _ hp.hk h1;rw[if_pos rfl]at this;exact this
    exact pv (ρ:=ρ1) (ρ':=ρ2) (fun _ _ h=>h) h1p (hpost.rel.obj k r _ (hpost.ext _ _ hk1) h1k)
   ·rw[dh id hid e]at h2
    cases hal:o.alive with
    |true=>exact (hr.obj _ _ _ h1 h2).mono hext (hpost.keep _ (hr.lt _ _ h1) (Jy id r o h1 h2 hal e))
    |false=>cases o <;> first|trivial|cases hal
  ·rename_i hid
   obtain ⟨o0,a1,rfl,a3,a4,a5⟩:=cY id o (by omega) h2
   have h6:=hpost.rel.obj _ _ _ h1 (show _=some o0 by rw[h1n _ (by omega),show H0.length+(id-H.length)-H0.length=id-H.length by omega];exact a1)
   rw[<- a5]at h6
   have hd:rno (bZ H0.length) d o0 = .dead->o0 = .dead:=fun he=>by rw[a5]at he;exact he
   exact jb rb (fun _ _ h=>h) kA a3 (ja hn1 (fun _ _ h=>h) A9 h6 hd)
 ·rw[u]at h1
  split at h1
  ·rename_i hid
   obtain ⟨o',b1,b2,_⟩:=hback id o hid h2
   exact hr.base _ _ _ h1 b1 (by rw[b2];exact h3)
  ·rename_i hid
   obtain ⟨o0,a1,_,a3,a4,_⟩:=cY id o (by omega) h2
   exact hpost.rel.base _ _ _ h1 (show _=some o0 by rw[h1n _ (by omega),show H0.length+(id-H.length)-H0.length=id-H.length by omega];exact a1) a4
 ·rw[u]at h1 h2
  by_cases c1':id1<H.length
  ·rw[if_pos c1']at h1
   obtain ⟨p1,b1,b2,_⟩:=hback id1 o1 c1' g1
   by_cases c2:id2<H.length
   ·rw[if_pos c2]at h2
    obtain ⟨p2,d1,_,d3⟩:=hback id2 o2 c2 g2
    exact hr.sep id1 id2 r1 r2 p1 p2 h1 h2 b1 d1 (by rw[b2];exact k1) (by rw[d3];exact k2) hne
   ·rw[if_neg c2]at h2
    have:=hr.lt _ _ h1
    have:=fr id2 r2 o2 c2 h2 g2
    omega
  ·rw[if_neg c1']at h1
   have f1:=fr id1 r1 o1 c1' h1 g1
   by_cases c2:id2<H.length
   ·rw[if_pos c2]at h2
    have:=hr.lt _ _ h2
    omega
   ·rw[if_neg c2]at h2
    obtain ⟨p1,a1,_,_,a4,_⟩:=cY id1 o1 (by omega) g1
    obtain ⟨p2,b1,_,_,b4,_⟩:=cY id2 o2 (by omega) g2
    exact hpost.rel.sep _ _ r1 r2 p1 p2 h1 h2 (by rw[h1n _ (by omega),show H0.length+(id1-H.length)-H0.length=id1-H.length by omega];exact a1) (by rw[h1n _ (by omega),show H0.length+(id2-H.length)-H0.length=id2-H.length by omega];exact b1) a4 (hoa _ b4) (by omega)
 ·rw[u]at h1
  split at h1
  ·rename_i hid
   obtain ⟨o',b1,b2,_⟩:=hback id o hid h2
   intro he
   rcases hpost.frz b m hb with g|g|g
   ·exact (hr.mem b m g).2 id r o' h1 b1 (by rw[b2];exact h3) he
   ·have:=hr.lt _ _ h1;omega
   ·obtain ⟨rD,k1,k2,k3⟩:=yW _ g
    exact (hpost.rel.mem b m hb).2 k rD _ (hpost.ext _ _ k2) h1k Gt k3
  ·rename_i hid
   obtain ⟨o0,a1,_,a3,a4,_⟩:=cY id o (by omega) h2
   exact (hpost.rel.mem b m hb).2 _ r o0 h1 (by rw[h1n _ (by omega),show H0.length+(id-H.length)-H0.length=id-H.length by omega];exact a1) a4
 ·rw[u]at h1
  split at h1
  ·rw[h2]at h1;cases h1
  ·omega
 ·rcases h2 with ⟨id,r,o,k1,k2,k3,k4⟩|⟨F,k,r,z,cs,m,e⟩
  ·rw[u]at k1
   split at k1
   ·rename_i hid
    obtain ⟨o',b1,b2,_⟩:=hback id o hid k2
    exact .inl ⟨id,r,o',k1,b1,by rw[b2];exact k3,k4⟩
   ·rename_i hid
    have:=fr id r o hid k1 k2
    omega
  ·exact .inr ⟨F,k,r,z,cs,hfm m,e⟩
end
end Go.K
namespace Go.K
noncomputable section
attribute [local irreducible] vF
variable {P:Program}
def Ak(n0 d k:Nat)(o:aa)(v:Value)(new:List (Bool×aa)):KV:=fun v' H' h' =>
 match h' with
 | .again σ=>qp n0 (n0+new.length) [(k,true,o)] σ=true/\wk v' (rn (sg n0 σ) d v)/\pT H' n0 (sg n0 σ) d [(k,true,o)]/\lL H' n0 (sg n0 σ) d n0 new
 |_=>False
theorem ad.HI{f:FuncId}{args:List Value}{H0:HT}{v:Value}{new:List (Bool×aa)}{d k:Nat}{o:aa}(hk:k<H0.n)
  (h:ad P f args H0.list [k] (fun v' H' => ∃(H2:HT) (σ:List (Nat×Nat)),H'=H2.list/\qp H0.n (H0.n+new.length) [(k,true,o)] σ=true/\wk v' (rn (sg H0.n σ) d v)/\pT H2 H0.n (sg H0.n σ) d [(k,true,o)]/\lL H2 H0.n (sg H0.n σ) d H0.n new)) :
  ad P f args H0.list [k] (Is v (H0.list.set k o++new.map (·.2))):=by
 refine ⟨h.1,fun B ρ w args' hr ha=>(h.2 B ρ w args' hr ha).mono ?_⟩
 rintro e w' ⟨v',r,ρ',H',rfl,hv,hp,H2,σ,rfl,hs,hw,hc,hn⟩
 have hm:jq k [k]=true:=by unfold jq;rw[Nat.beq_refl];rfl
 have hb:Nat.blt k H0.n=true:=Nat.ble_eq_true_of_le hk
 have hh:jU 0 ⟨fun _=>junk,.leaf⟩ H2 H0 d [k] σ [] [(k,true,o)] new []:=by
  refine ⟨?_,trivial,hc,hn,trivial⟩
  simp only[Bool.and_eq_true]
  refine ⟨hs,?_,rfl,?_⟩
  ·show cond (jq k [k]) (cond (Nat.blt k H0.n) true false) false=true
   rw[hm,hb];rfl
  ·show cond (cond (Nat.beq k k ||false) true (List.any [] _)) true false=true
   rw[Nat.beq_refl];rfl
 have he:=eP hh
 have hlist:(fK H0 [(k,true,o)] new []).list=H0.list.set k o++new.map (·.2):=by
  have key:∀(l:List (Bool×aa)) (H:HT),(l.foldl (fun H p=>H.push p.2) H).list=H.list++l.map (·.2):=by
   intro l
   induction l with
   |nil=>intro H;simp
   |cons p l ih=>intro H;rw[List.foldl_cons,ih,HT.aW];simp
  have:=key new (H0.set k o)
  rw[HT.aC]at this
  exact this
 rw[hlist]at he
 obtain ⟨q1,_⟩:=he.post hr hp
 refine ⟨v,r,bf ρ' (sg H0.n σ),_,rfl,?_,q1,rfl,rfl⟩
 have hσ:∀id id' r,sg H0.n σ id=some id'->ρ' id'=some r->(bf ρ' (sg H0.n σ)) id=some r:=fun id id' r h1 h2=>by show Option.bind _ _=_;rw[h1];exact h2
 exact gq (ρ':=ρ') (ρ:=bf ρ' (sg H0.n σ)) hσ (fun _ _ h=>h) (fun F F' k r h1 h2=>by show Option.bind _ _=_;rw[h1];exact h2) d (hw _ _ hv)
def qw(G:Nat)(o0:aa)(css:List (List Value)):HT:=css.foldl (fun H cs=>H.push (.cells false 0 cs)) (HT.push ⟨G,.leaf⟩ o0)
abbrev eN(G z:Nat)(c0:List Value)(css:List (List Value)):HT:=qw G (.cells true z c0) css
def yn(G D:Nat)(ids:List Nat)(i:Nat):Option Nat:=if i<G then some i else if i=G then some D else ids[i-G-1]?
theorem Aa(G:Nat)(o0:aa)(css:List (List Value)):(qw G o0 css).n=G+1+css.length:=(gW G css (HT.push ⟨G,.leaf⟩ o0) 0).1
theorem sJ(G:Nat)(o0:aa)(css:List (List Value))(id:Nat):(qw G o0 css).list[id]?=if id<G then some .dead else if id=G then some o0 else (css[id-G-1]?).map (fun cs=>aa.cells false 0 cs):=by
 rw[show (qw G o0 css).list[id]?=_ from (gW G css (HT.push ⟨G,.leaf⟩ o0) id).2]
 show (if id<G+1 then _ else _)=_
 have hl:(HT.list ⟨G,.leaf⟩).length=G:=HT.length _
 have h0:∀i,i<G->(HT.list ⟨G,.leaf⟩)[i]?=some .dead:=fun i hi=>by
  have:=iF G [] i
  rw[if_pos hi]at this
  exact this
 rw[HT.aW]
 by_cases h:id<G
 ·rw[if_pos (by omega),if_pos h,List.getElem?_append_left (by omega)]
  exact h0 id h
 ·rw[if_neg h]
  by_cases e:id=G
  ·subst e
   rw[if_pos (by omega),if_pos rfl,List.getElem?_append_right (by omega),hl,Nat.sub_self];rfl
  ·rw[if_neg (by omega),if_neg e]
   show Option.map _ css[id-(G+1)]?=_
   rw[show id-(G+1)=id-G-1 by omega]
theorem sH(G z:Nat)(c0:List Value)(css:List (List Value)):(eN G z c0 css).n=G+1+css.length:=Aa G _ css
theorem fW(G z:Nat)(c0:List Value)(css:List (List Value))(id:Nat):(eN G z c0 css).list[id]?=if id<G then some .dead else if id=G then some (.cells true z c0) else (css[id-G-1]?).map (fun cs=>aa.cells false 0 cs):=sJ G _ css id
theorem vcW{mixed:Bool}{mask:Nat}{dm:Value->MS}{rounds:Nat}(ew:fp P mixed mask)(fj:mixed=true->P.follows .mixedOrders=true)(n:Nat){f:FuncId}{args:List Value}{css:List (List Value)}{h:Hint}{v:Value}{new:List (Bool×aa)}{z:Nat}{c0 c1:List Value}
  (hc:vF P mask dm rounds mixed n true f args (eN P.globals.size z c0 css) (some [P.globals.size]) h (Ak (eN P.globals.size z c0 css).n 3 P.globals.size (.cells true z c1) v new))
  (hp0:c0.all (ao 0)=true) (hp1:c1.all (ao 0)=true) (lx:∀cs∈css,cs.all (ao 0)=true)
  (hv:cm 3 v=true) (hv2:rn (bZ (P.globals.size+1+css.length)) 3 v=v) (hn:(new.map (·.2)).all (fun o=>am 3 o&&o.owned)=true) (hn2:(new.map (·.2)).map (rno (bZ (P.globals.size+1+css.length)) 3)=new.map (·.2))
  {H:Heap} {D:Nat} (hD:H[D]?=some (.cells true z c0)) (ids:List Nat) (hl:ids.length=css.length) (nL:∀(k:Nat) (cs:List Value),css[k]?=some cs->∃id own z,ids[k]?=some id/\H[id]?=some (aa.cells own z cs)) (hne:D ∉ ids) :
  ad P f (args.map (rn (yn P.globals.size D ids) 3)) H [D] (Is (rn (eM (P.globals.size+1+css.length) H.length) 3 v) (H.set D (.cells true z c1)++(new.map (·.2)).map (rno (eM (P.globals.size+1+css.length) H.length) 3))):=by
 have e:(eN P.globals.size z c0 css).list.length=P.globals.size+1+css.length:=by rw[HT.length,sH]
 have hkn:P.globals.size<(eN P.globals.size z c0 css).n:=by rw[sH];omega
 have h1:ad P f args (eN P.globals.size z c0 css).list [P.globals.size] (Is v ((eN P.globals.size z c0 css).list.set P.globals.size (.cells true z c1)++new.map (·.2))):=by
  refine ad.HI (d:=3) hkn (((kc ew fj n).1 f args _ (some [P.globals.size]) h _ hc).post ?_)
  rintro v' H' ⟨H2,h2,e,hk⟩
  cases h2 with
  |again σ=>exact ⟨H2,σ,e,hk⟩
  |_=>exact hk.elim
 have hp:B9 P (eN P.globals.size z c0 css).list H (yn P.globals.size D ids) 3 P.globals.size D (.cells true z c0):=by
  refine ⟨fun g hg=>if_pos hg,fun id id' h =>?_,by rw[e];omega,?_,?_,hD,hp0,fun id o hne h =>?_,fun id cs h =>?_,fun id id' cs h1 h2 =>?_⟩
  ·rw[e]
   unfold yn at h
   split at h
   ·omega
   ·split at h
    ·omega
    ·have:=(List.getElem?_eq_some_iff.1 h).1;omega
  ·rw[fW,if_neg (Nat.lt_irrefl _),if_pos rfl]
  ·show (if _ then _ else _)=_
   rw[if_neg (Nat.lt_irrefl _),if_pos rfl]
  ·rw[fW]at h
   split at h
   ·cases h;exact .inl rfl
   ·try rw[if_neg hne]at h
    obtain ⟨cs,_,rfl⟩:=Option.map_eq_some_iff.1 h;exact .inr ⟨cs,rfl⟩
  ·rw[fW]at h
   split at h
   ·cases h
   ·rename_i h5
    split at h
    ·cases h
    ·rename_i h6
     unfold yn
     rw[if_neg h5,if_neg h6]
     exact fun q=>hne (List.mem_of_getElem? q)
  ·rw[fW]at h2
   split at h2
   ·cases h2
   ·rename_i h5
    split at h2
    ·cases h2
    ·rename_i h6
     obtain ⟨cs',a1,a2⟩:=Option.map_eq_some_iff.1 h2
     cases a2
     unfold yn at h1
     rw[if_neg h5,if_neg h6]at h1
     obtain ⟨id2,own,z2,b1,b2⟩:=nL _ _ a1
     rw[h1]at b1;cases b1
     exact ⟨own,z2,by rw[(ed (d:=0) (lx _ (List.mem_of_getElem? a1))).1];exact b2⟩
 have:=ad.writes hp h1 hp1 hv (by rw[e];exact hv2) hn (by rw[e];exact hn2)
 rw[e]at this
 exact this
end
end Go.K
namespace Go.K
variable {P:Program} {mixed:Bool} {mask:Nat} {dm:Value->MS} {rounds:Nat}
noncomputable def aG(os:List aa):HT:=os.foldl HT.push ⟨0,.leaf⟩
theorem fX(os:List aa):(aG os).list=os:=by
 have key:∀(l:List aa) (H:HT),(l.foldl HT.push H).list=H.list++l:=by
  intro l
  induction l with
  |nil=>intro H;simp
  |cons p l ih=>intro H;rw[List.foldl_cons,ih,HT.aW];simp
 rw[show (aG os).list=_ from key os ⟨0,.leaf⟩];rfl
def cR(H:Heap)(σ:Nat->Option Nat):List Nat->List aa->Prop
 | [],[] =>True
 |id :: ids,o :: os=>H[id]?=some (rno σ 3 o)/\cR H σ ids os
 |_,_=>False
theorem mT{H:Heap}{σ:Nat->Option Nat}:∀{ids:List Nat} {os:List aa},cR H σ ids os->ids.length=os.length
 | [],[],_=>rfl
 |_ :: ids,_ :: os,h=>by rw[List.length_cons,List.length_cons,mT h.2]
 | [],_ :: _,h=>h.elim
 |_ :: _,[],h=>h.elim
theorem jK{H:Heap}{σ:Nat->Option Nat}:∀{ids:List Nat} {os:List aa},cR H σ ids os->∀(k id:Nat) (o:aa),ids[k]?=some id->os[k]?=some o->H[id]?=some (rno σ 3 o)
 | [],[],_,k,id,o,h1,h2=>by simp at h1
 |i :: ids,d :: os,h,0,id,o,h1,h2=>by cases h1;cases h2;exact h.1
 |i :: ids,d :: os,h,k+1,id,o,h1,h2=>jK h.2 k id o (by simpa using h1) (by simpa using h2)
 | [],_ :: _,h,_,_,_,_,_=>h.elim
 |_ :: _,[],h,_,_,_,_,_=>h.elim
abbrev sgI(ids:List Nat)(i:Nat):Option Nat:=ids[i]?
theorem qz{os:List aa}{ids:List Nat}{H:Heap}(hk:os.all (am 3)=true)(hnd:ids.Nodup)(hi:cR H (sgI ids) ids os)(hg:∀g,g<P.globals.size->ids[g]?=some g):Part P (aG os).list H (sgI ids) 3:=by
 rw[fX]
 have hl:=mT hi
 have hH:∀id id',ids[id]?=some id'->∃o,os[id]?=some o/\H[id']?=some (rno (sgI ids) 3 o):=fun id id' h=>by
  have h1:=(List.getElem?_eq_some_iff.1 h).1
  exact ⟨os[id]'(by omega),List.getElem?_eq_getElem (by omega),jK hi id id' _ h (List.getElem?_eq_getElem (by omega))⟩
 refine ⟨hg,fun id id' h =>?_,fun id h=>⟨_,List.getElem?_eq_getElem (by omega)⟩,fun a b c h1 h2 =>?_,fun id id' o h1 h2 => .inr ?_⟩
 ·obtain ⟨o,e1,e2⟩:=hH id id' h
  exact ⟨(List.getElem?_eq_some_iff.1 e1).1,(List.getElem?_eq_some_iff.1 e2).1⟩
 ·have e1:=List.getElem?_eq_some_iff.1 h1
  have e2:=List.getElem?_eq_some_iff.1 h2
  obtain ⟨l1,q1⟩:=e1
  obtain ⟨l2,q2⟩:=e2
  exact (List.getElem_inj hnd).1 (q1.trans q2.symm)
 ·rw[List.all_eq_true]at hk
  exact ⟨hk o (List.mem_of_getElem? h2),jK hi id id' o h1 h2⟩
theorem Hq(ew:fp P mixed mask)(fj:mixed=true->P.follows .mixedOrders=true)(n:Nat){f:FuncId}{args:List Value}{os:List aa}{h:Hint}{v:Value}{new:List (Bool×aa)}
  (hc:vF P mask dm rounds mixed n true f args (aG os) (some []) h (mW (aG os).n 3 v new)) (hk:os.all (am 3)=true) (hv:cm 3 v=true) (hn:(new.map (·.2)).all (fun o=>am 3 o&&o.owned)=true)
  {H:Heap} {ids:List Nat} (hnd:ids.Nodup) (hi:cR H (sgI ids) ids os) (hg:∀g,g<P.globals.size->ids[g]?=some g) :
  ad P f (args.map (rn (sgI ids) 3)) H [] (Is (rn (bA (sgI ids) os.length H.length) 3 v) (H++(new.map (·.2)).map (rno (bA (sgI ids) os.length H.length) 3))):=by
 have h1:=ad.frame (qz hk hnd hi hg) (vcN ew fj n hc) hv hn
 rw[fX]at h1
 exact h1
end Go.K
namespace Go.K
noncomputable section
attribute [local irreducible] vF
variable {P:Program} {mixed:Bool} {mask:Nat} {dm:Value->MS} {rounds:Nat}
def cK{α:Type}(n0 d:Nat)(ks:List Nat)(I:α->Prop)(v:α->Value)(chg:α->List (Nat×Bool×aa))(new:α->List (Bool×aa)):KV:=fun v' H' h' =>
 match h' with
 | .again σ => ∃x,I x/\(qp n0 (Nat.add n0 (new x).length) (chg x) σ&&(pU n0 ks (chg x)&&allIn (chg x) [] ks))=true/\wk v' (rn (sg n0 σ) d (v x))/\pT H' n0 (sg n0 σ) d (chg x)/\lL H' n0 (sg n0 σ) d n0 (new x)
 |_=>False
def oU(l:List (Nat×Bool×aa)):List (Nat×aa):=l.map fun p=>(p.1,p.2.2)
theorem nM(new:List (Bool×aa)):∀(chg:List (Nat×Bool×aa)) (H0:HT),(fK H0 chg new []).list=eg H0.list (oU chg)++new.map (·.2)
 | [],H0=>by
  have key:∀(l:List (Bool×aa)) (H:HT),(l.foldl (fun H p=>H.push p.2) H).list=H.list++l.map (·.2):=by
   intro l
   induction l with
   |nil=>intro H;simp
   |cons p l ih=>intro H;rw[List.foldl_cons,ih,HT.aW];simp
  exact key new H0
 |p :: chg,H0=>by
  have:=nM new chg (H0.set p.1 p.2.2)
  rw[HT.aC]at this
  exact this
theorem ad.FN{f:FuncId}{args:List Value}{H0:HT}{α:Type}{I:α->Prop}{v:α->Value}{chg:α->List (Nat×Bool×aa)}{new:α->List (Bool×aa)}{d:Nat}{ks:List Nat}
  (h:ad P f args H0.list ks (fun v' H' => ∃(H2:HT) (σ:List (Nat×Nat)),H'=H2.list/\cK H0.n d ks I v chg new v' H2 (.again σ))) :
  ad P f args H0.list ks (fun v' H' => ∃x,I x/\v'=v x/\H'=eg H0.list (oU (chg x))++(new x).map (·.2)):=by
 refine ⟨h.1,fun B ρ w args' hr ha=>(h.2 B ρ w args' hr ha).mono ?_⟩
 rintro e w' ⟨v',r,ρ',H',rfl,hv,hp,H2,σ,rfl,x,hx,hs,hw,hc,hn⟩
 have hh:jU 0 ⟨fun _=>junk,.leaf⟩ H2 H0 d ks σ [] (chg x) (new x) []:=by
  refine ⟨?_,trivial,hc,hn,trivial⟩
  simp only[Bool.and_eq_true]at hs ⊢
  exact ⟨hs.1,hs.2.1,rfl,hs.2.2⟩
 have he:=eP hh
 rw[nM]at he
 obtain ⟨q1,_⟩:=he.post hr hp
 refine ⟨v x,r,bf ρ' (sg H0.n σ),_,rfl,?_,q1,x,hx,rfl,rfl⟩
 have hσ:∀id id' r,sg H0.n σ id=some id'->ρ' id'=some r->(bf ρ' (sg H0.n σ)) id=some r:=fun id id' r h1 h2=>by show Option.bind _ _=_;rw[h1];exact h2
 exact gq (ρ':=ρ') (ρ:=bf ρ' (sg H0.n σ)) hσ (fun _ _ h=>h) (fun F F' k r h1 h2=>by show Option.bind _ _=_;rw[h1];exact h2) d (hw _ _ hv)
theorem Ji(ew:fp P mixed mask)(fj:mixed=true->P.follows .mixedOrders=true)(n:Nat){f:FuncId}{args:List Value}{os:List aa}{h:Hint}{v:Value}
  (hc:vF P mask dm rounds mixed n true f args (aG os) (some []) h (fun v' _ _=>v'=v)) (hk:os.all (am 3)=true) (hv:bn 0 v=true) (h3:cm 3 v=true) (h4:∀σ,rn σ 3 v=v)
  {H:Heap} {ids:List Nat} (hnd:ids.Nodup) (hi:cR H (sgI ids) ids os) (hg:∀g,g<P.globals.size->ids[g]?=some g):ad P f (args.map (rn (sgI ids) 3)) H [] (Is v H):=by
 have h1:ad P f args (aG os).list [] (Is v ((aG os).list ++ [])):=by
  have:=ad.clean (vc ew fj n (Q:=fun v' _=>v'=v) hc) hv
  simpa using this
 have:=ad.frame (qz hk hnd hi hg) h1 h3 rfl
 rw[h4]at this
 simpa using this
theorem Hp(ew:fp P mixed mask)(fj:mixed=true->P.follows .mixedOrders=true)(n:Nat){f:FuncId}{args:List Value}{os:List aa}{h:Hint}{α:Type}{I:α->Prop}{v:α->Value}{chg:α->List (Nat×Bool×aa)}{new:α->List (Bool×aa)}{ks:List Nat}
  (hc:vF P mask dm rounds mixed n true f args (aG os) (some ks) h (cK (aG os).n 3 ks I v chg new)) (hk:os.all (am 3)=true) (hks:∀k∈ks,∃o,os[k]?=some o/\o.owned=true)
  (hv:∀x,I x->cm 3 (v x)=true) (hcx:∀x,I x->∀p∈oU (chg x),p.1∈ks/\am 3 p.2=true/\p.2.owned=true) (hn:∀x,I x->((new x).map (·.2)).all (fun o=>am 3 o&&o.owned)=true)
  {H:Heap} {ids:List Nat} (hnd:ids.Nodup) (hi:cR H (sgI ids) ids os) (hg:∀g,g<P.globals.size->ids[g]?=some g) :
  ad P f (args.map (rn (sgI ids) 3)) H (ks.filterMap (sgI ids)) (fun v' H' => ∃x,I x/\v'=rn (bA (sgI ids) os.length H.length) 3 (v x) /\
   H'=eg H (lX (sgI ids) (bA (sgI ids) os.length H.length) 3 (oU (chg x)))++((new x).map (·.2)).map (rno (bA (sgI ids) os.length H.length) 3)):=by
 have h0:ad P f args (aG os).list ks (fun v' H' => ∃x,I x/\v'=v x/\H'=eg (aG os).list (oU (chg x))++(new x).map (·.2)):=by
  refine ad.FN (d:=3) (((kc ew fj n).1 f args (aG os) (some ks) h _ hc).post ?_)
  rintro v' H' ⟨H2,h2,e,hk⟩
  cases h2 with
  |again σ=>exact ⟨H2,σ,e,hk⟩
  |_=>exact hk.elim
 have h1:=ad.Bn (qz hk hnd hi hg) (fun k hk=>by rw[fX];exact hks k hk) h0 hv hcx hn
 rw[fX]at h1
 exact h1
end
end Go.K
namespace Go.K
section
variable {κ β:Type} [DecidableEq κ]
def gX(k:κ)(v:β):List (κ×β)->List (κ×β)
 | [] => [(k,v)]
 |e :: F=>if e.1=k then (k,v) :: F else e :: gX k v F
def iv(k:κ)(d:β):List (κ×β)->β
 | [] =>d
 |e :: F=>if e.1=k then e.2 else iv k d F
def fe(k:κ):List (κ×β)->Bool
 | [] =>false
 |e :: F=>if e.1=k then true else fe k F
def oQ(k:κ):List (κ×β)->Nat
 | [] =>0
 |e :: F=>if e.1=k then 0 else oQ k F+1
def gG(key:κ->Value)(val:β->Value)(F:List (κ×β)):List (Value×Value):=F.map fun e=>(key e.1,val e.2)
theorem xt(k:κ)(d:β):∀(F:List (κ×β)),fe k F=false->iv k d F=d
 | [],_=>rfl
 |e :: F,h=>by
  unfold fe at h;unfold iv
  by_cases q:e.1=k
  ·rw[if_pos q]at h;cases h
  ·rw[if_neg q]at h ⊢;exact xt k d F h
theorem wQ(k:κ)(v:β):∀(F:List (κ×β)),fe k F=false->gX k v F=F ++ [(k,v)]
 | [],_=>rfl
 |e :: F,h=>by
  unfold fe at h;unfold gX
  by_cases q:e.1=k
  ·rw[if_pos q]at h;cases h
  ·rw[if_neg q]at h ⊢;rw[wQ k v F h];rfl
theorem t5(k k':κ)(v d:β):∀(F:List (κ×β)),iv k' d (gX k v F)=if k'=k then v else iv k' d F
 | [] =>by
  unfold gX iv
  by_cases h:k=k'
  ·rw[if_pos h,if_pos h.symm]
  ·rw[if_neg h,if_neg fun q=>h q.symm];rfl
 |e :: F=>by
  unfold gX
  by_cases q:e.1=k
  ·rw[if_pos q]
   unfold iv
   by_cases h:k=k'
   ·rw[if_pos h,if_pos h.symm]
   ·rw[if_neg h,if_neg fun q=>h q.symm,q,if_neg h]
  ·rw[if_neg q]
   unfold iv
   by_cases h:e.1=k'
   ·rw[if_pos h,if_pos h,if_neg (fun x=>q (h.trans x))]
   ·rw[if_neg h,if_neg h,t5 k k' v d F]
theorem tZ(k k':κ)(v:β):∀(F:List (κ×β)),fe k' (gX k v F)=(decide (k'=k) ||fe k' F)
 | [] =>by
  unfold gX fe
  by_cases h:k=k'
  ·rw[if_pos h,decide_eq_true h.symm];rfl
  ·rw[if_neg h,decide_eq_false fun q=>h q.symm];rfl
 |e :: F=>by
  unfold gX
  by_cases q:e.1=k
  ·rw[if_pos q]
   unfold fe
   by_cases h:k=k'
   ·rw[if_pos h,decide_eq_true h.symm];rfl
   ·rw[if_neg h,decide_eq_false (fun q=>h q.symm),q,if_neg h];rfl
  ·rw[if_neg q]
   unfold fe
   by_cases h:e.1=k'
   ·rw[if_pos h,if_pos h,Bool.or_true]
   ·rw[if_neg h,if_neg h,tZ k k' v F]
variable {P:Program} {kt:TypeId} {key:κ->Value} {val:β->Value}
theorem qM(hk:∀a b,bH P Op.maxDepth kt (key a) (key b)=some (decide (a=b)))(k:κ)(d:β):∀(F:List (κ×β)) (i:Nat),
  fG P kt (key k) (gG key val F) i=some (if fe k F=true then some (i+oQ k F,val (iv k d F)) else none)
 | [],i=>rfl
 |e :: F,i=>by
  show (match bH P Op.maxDepth kt (key k) (key e.1) with|some true=>_|some false=>fG P kt (key k) (gG key val F) (i+1)|none=>none)=_
  rw[hk]
  unfold fe iv oQ
  by_cases h:e.1=k
  ·rw[decide_eq_true h.symm,if_pos h,if_pos h,if_pos h,if_pos rfl];rfl
  ·rw[decide_eq_false fun q=>h q.symm,if_neg h,if_neg h,if_neg h]
   show fG P kt (key k) (gG key val F) (i+1)=_
   rw[qM hk k d F (i+1),show i+1+oQ k F=i+(oQ k F+1) by omega]
theorem Ap(hk:∀a b,bH P Op.maxDepth kt (key a) (key b)=some (decide (a=b)))(k:κ)(d:β){z:Value}(hz:val d=z)(ok:Bool)(F:List (κ×β)) :
  hO P kt z (key k) ok (gG key val F)=some (yL ok (val (iv k d F)) (fe k F)):=by
 unfold hO
 rw[qM hk k d F 0]
 cases h:fe k F with
 |true=>rw[if_pos rfl]
 |false=>rw[if_neg (by simp),xt k d F h,hz]
theorem xA(k:κ):∀(F:List (κ×β)),fe k F=true->∃v,(gG key val F)[oQ k F]?=some (key k,v)
 | [],h=>by cases h
 |e :: F,h=>by
  unfold fe at h;unfold oQ
  by_cases q:e.1=k
  ·rw[if_pos q];exact ⟨val e.2,by rw[<- q];rfl⟩
  ·rw[if_neg q]at h ⊢
   obtain ⟨v,hv⟩:=xA k F h
   exact ⟨v,by rw[<- hv];rfl⟩
theorem uf(k:κ)(v:β):∀(F:List (κ×β)),fe k F=true->(gG key val F).set (oQ k F) (key k,val v)=gG key val (gX k v F)
 | [],h=>by cases h
 |e :: F,h=>by
  unfold fe at h;unfold oQ gX
  by_cases q:e.1=k
  ·rw[if_pos q,if_pos q];rfl
  ·rw[if_neg q]at h ⊢
   rw[if_neg q]
   show (key e.1,val e.2) :: (gG key val F).set (oQ k F) (key k,val v)=_
   rw[uf k v F h];rfl
theorem EB(hk:∀a b,bH P Op.maxDepth kt (key a) (key b)=some (decide (a=b)))(hq:∀a,lS (key a) (key a)=true)(k:κ)(v:β)(F:List (κ×β)) :
  lO P kt (key k) (val v) (gG key val F)=some (gG key val (gX k v F)):=by
 unfold lO
 rw[qM hk k v F 0]
 cases h:fe k F with
 |true =>
  rw[if_pos rfl]
  obtain ⟨x,hx⟩:=xA (key:=key) (val:=val) k F h
  simp only[Nat.zero_add]
  rw[hx]
  simp only[hq]
  rw[uf k v F h]
 |false =>
  rw[if_neg (by simp),wQ k v F h]
  show some (gG key val F ++ [(key k,val v)])=some (gG key val (F ++ [(k,v)]))
  simp[gG]
end
end Go.K
namespace Go.Proofs.YtmecpfikljhjaaaGreatDoor
noncomputable section
attribute [local irreducible] vF
abbrev nI(x:Int):Value:=.int .i64 x
abbrev slQ(i k n:Nat):Value:=.slice (some ⟨i,0,some k⟩) n n
abbrev pt(i:Nat):Value:=.pointer (some ⟨i,0,none⟩)
abbrev slN(i n:Nat):Value:=.slice (some ⟨i,0,none⟩) n n
abbrev ac(o:aa):Prop:=(some o:Option aa)=some o
abbrev fk(b:Bool)(A B:Prop):Prop:=(b=true->A)/\(b=false->B)
abbrev ck(p A B:Prop):Prop:=(p->A)/\(¬ p->B)
abbrev nw(e:Int)(K:Prop):Prop:=(Value.int .i64 (IntKind.wrap .i64 e)) = .int .i64 e/\K
abbrev bw(e y:Int):Prop:=(Value.int .i64 e) = .int .i64 y
abbrev eR(v:Value):Prop:=v=v
abbrev wR(v:Value):Prop:=wk v v
abbrev krq(n:Nat)(o:aa):Prop:=(some o:Option aa)=some o/\cu n o=true
abbrev kbq(n:Nat)(o p:aa):Prop:=(some o:Option aa)=some p/\cu n p=true
abbrev ixq(e:Int)(n:Nat):Prop:=0<=e/\e<(n:Int)
abbrev lq(I0 H0 K:Prop):Prop:=true=true/\I0/\H0/\(∀_x:Nat,true=true)/\K
abbrev apq(n z k:Nat)(X Y:List Value)(K:Prop):Prop:=((n+1)*z<=2 ^ 44/\1≠0/\(n<=n/\0+n*k<=X.length)/\(1<=1/\0+1*k<=Y.length)/\(List.take (1*k) (List.drop 0 Y)).all (fun v=>dz v)=true)/\true=true/\K
abbrev c0q(L f:Nat)(a:List Value)(v:Value)(K:Prop):Prop:=True/\(∀H':Heap,H'.length=L->True->ad prog f a H' [] (Is v H'))/\K
abbrev c1q(L i:Nat)(o:aa)(f:Nat)(a:List Value)(v:Value)(K:Prop):Prop:=(((some o:Option aa)=some o)/\True)/\(∀H':Heap,H'.length=L->(H'[i]?=some o/\True)->ad prog f a H' [] (Is v H'))/\K
abbrev c2q(L i:Nat)(o:aa)(i2:Nat)(o2:aa)(f:Nat)(a:List Value)(v:Value)(K:Prop):Prop:=(((some o:Option aa)=some o)/\((some o2:Option aa)=some o2)/\True)/\(∀H':Heap,H'.length=L->(H'[i]?=some o/\H'[i2]?=some o2/\True)->ad prog f a H' [] (Is v H'))/\K
abbrev c3q(L i:Nat)(o:aa)(i2:Nat)(o2:aa)(i3:Nat)(o3:aa)(f:Nat)(a:List Value)(v:Value)(K:Prop):Prop:=(((some o:Option aa)=some o)/\((some o2:Option aa)=some o2)/\((some o3:Option aa)=some o3)/\True)/\(∀H':Heap,H'.length=L->(H'[i]?=some o/\H'[i2]?=some o2/\H'[i3]?=some o3/\True)->ad prog f a H' [] (Is v H'))/\K
abbrev n2q(L i:Nat)(o:aa)(i2:Nat)(o2:aa)(f:Nat)(a:List Value)(v:Value)(w:List aa)(K:Prop):Prop:=(((some o:Option aa)=some o)/\((some o2:Option aa)=some o2)/\True)/\(∀H':Heap,H'.length=L->(H'[i]?=some o/\H'[i2]?=some o2/\True)->ad prog f a H' [] (Is v (H'++w)))/\K
abbrev c4q(L:Nat)(i1:Nat)(o1:aa)(i2:Nat)(o2:aa)(i3:Nat)(o3:aa)(i4:Nat)(o4:aa)(f:Nat)(a:List Value)(v:Value)(K:Prop):Prop:=(((some o1:Option aa)=some o1)/\((some o2:Option aa)=some o2)/\((some o3:Option aa)=some o3)/\((some o4:Option aa)=some o4)/\True)/\(∀H':Heap,H'.length=L->(H'[i1]?=some o1/\H'[i2]?=some o2/\H'[i3]?=some o3/\H'[i4]?=some o4/\True)->ad prog f a H' [] (Is v H'))/\K
def dm(imp:Nat):Value->MS
 | .func (.func f) _ _=>cond (Nat.testBit imp f) none (some [])
 | .func (.yield _) _ _=>none
 |_=>some []
abbrev af(b:Bool):List Value:=[.bool b]
abbrev bc(x:Int):List Value:=[nI x]
def bM(e f:Int):Int:=if e=0 then f else e
theorem eA{e f:Int}(h:¬ e=0):bM e f=e:=if_neg h
theorem bI{e f:Int}(h:e=0):bM e f=f:=if_pos h
theorem l9{f:FuncId}{args:List Value}{h:Hint}{v:Value}(n:Nat)(hargs:∀σ,args.map (rn σ 5)=args)(hv:bn 0 v=true)
  (hc:vF prog msk (dm 0) 100000 true n true f args ⟨1,.leaf⟩ (some []) h (fun v' _ _=>v'=v)) {H:Heap} (hH:1<=H.length):ad prog f args H [] (Is v H) :=
 vcP mY mixed n hargs hv (by rw[kD];exact hc) H (by rw[kD];exact hH)
theorem Jk{f:FuncId}{args:List Value}{css:List (List Value)}{h:Hint}{v:Value}(hc:vF prog msk (dm 0) 100000 true 40 true f args (cq 1 css) (some []) h (fun v' _ _=>v'=v))(lx:∀cs∈css,cs.all (ao 0)=true)(hv:bn 0 v=true)
  {H:Heap} (ids:List Nat) (hl:ids.length=css.length) (nL:∀(k:Nat) (cs:List Value),css[k]?=some cs->∃id own z,ids[k]?=some id/\H[id]?=some (aa.cells own z cs)) :
  ad prog f (args.map (rn (sgR 1 ids) 5)) H [] (Is v H):=by
 have:=Jh (H:=H) mY mixed 40 (v:=v) lx (by rw[kD];exact hc) hv ids hl nL
 rw[kD]at this;exact this
theorem bW(n:Nat)(l:List Bool):(l.flatMap af).all (ao n)=true:=cQ (fun _=>rfl) l
theorem cv{α:Type}{L M:List α}{x:α}{id:Nat}(hM:M=L ++ [x]):wk (slN id (L.length+1)) (slQ id 1 M.length):=by
 have:M.length=L.length+1:=by rw[hM,List.length_append];rfl
 rw[this];exact rT (by omega)
theorem cA{α:Type}{f:α->List Value}{n:Nat}(hf:∀x,(f x).length=n){L M:List α}{x:α}{c:List Value}{own:Bool}(hM:M=L ++ [x])(hc:f x=c) :
  (some (aa.cells own n (List.take (L.length*n) (List.drop 0 (L.flatMap f))++List.take (1*n) (List.drop 0 c))):Option aa)=some (.cells own n (M.flatMap f)):=by
 subst hc
 rw[hM,<- zb hf L x rfl,List.drop_zero,List.drop_zero,List.take_of_length_le (l:=f x) (by rw[hf];omega),List.take_of_length_le (by rw[aP hf];omega)]
theorem bF(b:Bool):(af b).length=1:=rfl
theorem iM(x:Int):(bc x).length=1:=rfl
theorem cz(n:Nat)(l:List Int):(l.flatMap bc).all (ao n)=true:=cQ (fun _=>rfl) l
theorem eQ{a:List Bool}{k:Nat}(h:k<a.length){off:Nat}(ho:off=k):(a.flatMap af)[off]?=some (.bool (a.getD k false)):=eZ (c:=0) bF h (by omega) rfl
theorem pM{a:List Int}{k:Nat}(h:k<a.length){off:Nat}(ho:off=k):(a.flatMap bc)[off]?=some (nI (a.getD k 0)):=eZ (c:=0) iM h (by omega) rfl
theorem sn:∀(n o A B:List Value),o.length=n.length->ba (A++(o++B)) A.length n=A++(n++B)
 | [],[],A,B,_=>rfl
 |v :: n,w :: o,A,B,h=>by
  have e:(A++(w :: o++B)).set A.length v=(A ++ [v])++(o++B):=by simp
  have:=sn n o (A ++ [v]) B (by simpa using h)
  simp only[ba]
  rw[e]
  simpa using this
theorem t9{α:Type}{f:α->List Value}{m:Nat}(hf:∀x,(f x).length=m)(xs:List α)(k:Nat)(hk:k<xs.length)(y:α):ba (xs.flatMap f) (k*m) (f y)=(xs.set k y).flatMap f:=by
 have e1:xs=xs.take k++xs[k] :: xs.drop (k+1):=by rw[<- List.drop_eq_getElem_cons hk,List.take_append_drop]
 have e2:xs.set k y=xs.take k++y :: xs.drop (k+1):=by rw[List.set_eq_take_append_cons_drop,if_pos hk]
 have hl:((xs.take k).flatMap f).length=k*m:=by rw[aP hf,List.length_take,Nat.min_eq_left (Nat.le_of_lt hk)]
 rw[e2]
 conv=>lhs;rw[e1]
 rw[List.flatMap_append,List.flatMap_cons,List.flatMap_append,List.flatMap_cons,<- hl]
 exact sn _ _ _ _ (by rw[hf,hf])
theorem kE{α:Type}{l:List α}{d:α}{x:Nat}(h:x<l.length):l.getD x d∈l:=by
 rw[List.getD_eq_getElem?_getD,List.getElem?_eq_getElem h];exact List.getElem_mem h
theorem kl{b:Bool}(h:(!b)=true):b=false:=by cases b <;> first|rfl|cases h
theorem dL{b:Bool}(h:(!b)=false):b=true:=by cases b <;> first|rfl|cases h
def cd(e:Nat->Int):Nat->Int
 |0=>0
 |k+1=>bM (cd e k) (e k)
def ki:List (List Value)->Prop
 | [] =>True
 |c :: css=>c.all (ao 0)=true/\ki css
theorem f7:∀{css:List (List Value)},ki css->∀c∈css,c.all (ao 0)=true
 | [],_,c,h=>by cases h
 |d :: css,hp,c,h=>by
  rcases List.mem_cons.1 h with rfl|h
  ·exact hp.1
  ·exact f7 hp.2 c h
def tR(H:Heap):List Nat->List (List Value)->Prop
 | [],[] =>True
 |id :: ids,c :: css=>(∃own z,H[id]?=some (.cells own z c))/\tR H ids css
 |_,_=>False
theorem lw{H:Heap}:∀{ids:List Nat} {css:List (List Value)},tR H ids css->ids.length=css.length
 | [],[],_=>rfl
 |_ :: ids,_ :: css,h=>by rw[List.length_cons,List.length_cons,lw h.2]
 | [],_ :: _,h=>h.elim
 |_ :: _,[],h=>h.elim
theorem jT{H:Heap}:∀{ids:List Nat} {css:List (List Value)},tR H ids css->∀(k:Nat) (c:List Value),css[k]?=some c->∃id own z,ids[k]?=some id/\H[id]?=some (aa.cells own z c)
 | [],[],_,k,c,hk=>by simp at hk
 |i :: ids,d :: css,h,0,c,hk=>by
  obtain ⟨⟨own,z,e⟩,_⟩:=h
  cases hk
  exact ⟨i,own,z,rfl,e⟩
 |i :: ids,d :: css,h,k+1,c,hk=>by
  obtain ⟨id,own,z,a,b⟩:=jT h.2 k c (by simpa using hk)
  exact ⟨id,own,z,by simpa using a,b⟩
 | [],_ :: _,h,_,_,_=>h.elim
 |_ :: _,[],h,_,_,_=>h.elim
def f9:List aa->Prop
 | [] =>True
 |o :: os=>(∃z cs,o = .cells true z cs/\cs.all (ao 0)=true)/\f9 os
theorem cB{σ:Nat->Option Nat}:∀{os:List aa},f9 os->(os.all fun o=>am 3 o&&o.owned)=true/\os.map (rno σ 3)=os
 | [],_=>⟨rfl,rfl⟩
 |o :: os,⟨⟨z,cs,e,h⟩,hs⟩=>by
  subst e
  obtain ⟨a,b⟩:=cB (σ:=σ) hs
  obtain ⟨c,d⟩:=ed (σ:=σ) (d:=0) h
  refine ⟨?_,?_⟩
  ·rw[List.all_cons,a,Bool.and_true]
   show (am 3 (.cells true z cs)&&true)=true
   rw[Bool.and_true];exact d
  ·rw[List.map_cons,b]
   show aa.cells true z (cs.map (rn σ 3)) :: os=_
   rw[c]
theorem sq:∀(n A B:List Value) (k:Nat),ba (A++B) (A.length+k) n=A++ba B k n
 | [],A,B,k=>rfl
 |v :: n,A,B,k=>by
  simp only[ba]
  rw[List.set_append_right _ _ (by omega),show A.length+k-A.length=k by omega,Nat.add_assoc,sq n A _ (k+1)]
theorem pm:∀(n A B:List Value) (k:Nat),k+n.length<=A.length->ba (A++B) k n=ba A k n++B
 | [],A,B,k,_=>rfl
 |v :: n,A,B,k,h=>by
  simp only[List.length_cons]at h
  simp only[ba]
  rw[List.set_append_left _ _ (by omega),pm n (A.set k v) B (k+1) (by rw[List.length_set];omega)]
theorem v5{α:Type}{f:α->List Value}{m c:Nat}{d y:α}{vs:List Value}(hf:∀x,(f x).length=m)(xs:List α)(k:Nat)(hk:k<xs.length)(hc:c+vs.length<=m)(hy:f y=ba (f (xs.getD k d)) c vs) :
  ba (xs.flatMap f) (k*m+c) vs=(xs.set k y).flatMap f:=by
 have e1:xs=xs.take k++xs.getD k d :: xs.drop (k+1):=by
  rw[show xs.getD k d=xs[k] from by rw[List.getD_eq_getElem?_getD,List.getElem?_eq_getElem hk];rfl,<- List.drop_eq_getElem_cons hk,List.take_append_drop]
 have e2:xs.set k y=xs.take k++y :: xs.drop (k+1):=by rw[List.set_eq_take_append_cons_drop,if_pos hk]
 have hl:((xs.take k).flatMap f).length=k*m:=by rw[aP hf,List.length_take,Nat.min_eq_left (Nat.le_of_lt hk)]
 rw[e2]
 conv=>lhs;rw[e1]
 rw[List.flatMap_append,List.flatMap_cons,List.flatMap_append,List.flatMap_cons,<- hl,sq,pm _ _ _ _ (by rw[hf];exact hc),<- hy]
theorem dX{e:Nat->Int}:∀{n:Nat},cd e n=0->∀k,k<n->e k=0
 |0,_,k,h=>by omega
 |n+1,h0,k,h=>by
  have h0:bM (cd e n) (e n)=0:=h0
  unfold bM at h0
  split at h0
  ·rename_i h1
   rcases Nat.lt_or_ge k n with h2|h2
   ·exact dX h1 k h2
   ·obtain rfl:k=n:=by omega
    exact h0
  ·rename_i h1;exact absurd h0 h1
theorem ue{e:Nat->Int}{k:Nat}(h0:cd e k=0)(hk:e k≠0):∀{n:Nat},k<n->cd e n=e k
 |0,h=>by omega
 |n+1,h=>by
  show bM (cd e n) (e n)=e k
  rcases Nat.lt_or_ge k n with h2|h2
  ·rw[ue h0 hk h2,eA hk]
  ·obtain rfl:k=n:=by omega
   rw[h0,bI rfl]
theorem fM{e:Nat->Int}{k:Nat}(h0:cd e k=0)(h1:e k=0):cd e (k+1)=0:=by
 show bM (cd e k) (e k)=0
 rw[h0,bI rfl,h1]
theorem c7{α:Type}{l:List α}{d y:α}{i j:Nat}(hi:i<l.length):(l.set i y).getD j d=if j=i then y else l.getD j d:=by
 rw[List.getD_eq_getElem?_getD,List.getElem?_set,List.getD_eq_getElem?_getD]
 by_cases h:i=j
 ·rw[if_pos h,if_pos (h ▸ hi),if_pos h.symm];rfl
 ·rw[if_neg h,if_neg (fun e=>h e.symm)]
theorem Jj{f:FuncId}{args:List Value}{css:List (List Value)}{h:Hint}(v:Nat->Value){c0 c1:List Value}{new:List aa}
  (hc:vF prog msk (dm 0) 100000 true 40 true f args (eN 1 0 c0 css) (some [1]) h (Ak (eN 1 0 c0 css).n 3 1 (.cells true 0 c1) (v (1+1+css.length)) (new.map fun o=>(true,o))))
  (hp0:c0.all (ao 0)=true) (hp1:c1.all (ao 0)=true) (hp:ki css) (hn:f9 new) (h1:cm 3 (v (1+1+css.length))=true) (h2:rn (bZ (1+1+css.length)) 3 (v (1+1+css.length))=v (1+1+css.length)) (h3:∀j,rn (eM (1+1+css.length) j) 3 (v (1+1+css.length))=v j)
  {H:Heap} {D:Nat} (hD:H[D]?=some (.cells true 0 c0)) {ids:List Nat} (hi:tR H ids css) (hne:D ∉ ids) {args':List Value} (ha:args.map (rn (yn 1 D ids) 3)=args') :
  ad prog f args' H [D] (Is (v H.length) (H.set D (.cells true 0 c1)++new)):=by
 subst ha
 have e0:(new.map fun o=>(true,o)).map (·.2)=new:=by rw[List.map_map];exact List.map_id _
 have key:=vcW (H:=H) (D:=D) (z:=0) (c0:=c0) (c1:=c1) mY mixed 40 (v:=v (1+1+css.length)) (new:=new.map fun o=>(true,o)) (by rw[kD];exact hc) hp0 hp1 (f7 hp) h1 (by rw[kD];exact h2) (by rw[e0];exact (cB (σ:=fun _=>none) hn).1) (by rw[e0];exact (cB hn).2) hD ids (lw hi) (jT hi) hne
 rw[kD,e0,(cB hn).2,h3]at key
 exact key
theorem wl(n:Nat)(L:List Int):(L.flatMap bc).all (b7 n)=true:=by
 rw[List.all_flatMap,List.all_eq_true]
 intro r _;rfl
theorem iy{f:FuncId}{args:List Value}{css:List (List Value)}{h:Hint}{v:Value}(hc:vF prog msk (dm 0) 100000 true 40 true f args (cq 1 css) (some []) h (fun v' _ _=>v'=v))(hp:ki css)(hv:bn 0 v=true)
  {H:Heap} {ids:List Nat} (hi:tR H ids css) {args':List Value} (ha:args.map (rn (sgR 1 ids) 5)=args'):ad prog f args' H [] (Is v H):=by
 subst ha
 exact Jk hc (f7 hp) hv ids (lw hi) (jT hi)
theorem Ev{id n m:Nat}(h:m=n)(h0:0<n):wk (slN id n) (slQ id 1 m):=by subst h;exact rT h0
theorem Do{ids:List Nat}(h:ids[0]?=some 0):∀g,g<prog.globals.size->ids[g]?=some g:=fun g hg=>by
 rw[kD]at hg
 obtain rfl:g=0:=by omega
 exact h
def zI:List Int:=[4000,8000,14000,24000,40000,90000]
abbrev bC:aa:=.cells false 0 [nI 4000,nI 8000,nI 14000,nI 24000,nI 40000,nI 90000]
theorem gi{f:FuncId}{args:List Value}{os:List aa}{h:Hint}{v:Value}
  (hc:vF prog msk (dm 0) 100000 true 40 true f args (aG os) (some []) h (fun v' _ _=>v'=v)) (hk:os.all (am 3)=true) (hv:bn 0 v=true) (h3:cm 3 v=true) (h4:∀σ,rn σ 3 v=v)
  {H:Heap} {ids:List Nat} (hnd:ids.Nodup) (hi:cR H (sgI ids) ids os) (h0:ids[0]?=some 0) {args':List Value} (ha:args.map (rn (sgI ids) 3)=args'):ad prog f args' H [] (Is v H):=by
 subst ha
 exact Ji mY mixed 40 hc hk hv h3 h4 hnd hi (Do h0)
theorem mF{f:FuncId}{args:List Value}{os:List aa}{h:Hint}(v:Nat->Value){new:List aa}
  (hc:vF prog msk (dm 0) 100000 true 40 true f args (aG os) (some []) h (mW (aG os).n 3 (v os.length) (new.map fun o=>(true,o))))
  (hk:os.all (am 3)=true) (hv:cm 3 (v os.length)=true) (hn:f9 new) {H:Heap} {ids:List Nat} (hnd:ids.Nodup) (hi:cR H (sgI ids) ids os) (h0:ids[0]?=some 0) (h3:∀j,rn (bA (sgI ids) os.length j) 3 (v os.length)=v j)
  {args':List Value} (ha:args.map (rn (sgI ids) 3)=args'):ad prog f args' H [] (Is (v H.length) (H++new)):=by
 subst ha
 have e0:(new.map fun o=>(true,o)).map (·.2)=new:=by rw[List.map_map];exact List.map_id _
 have key:=Hq mY mixed 40 (v:=v os.length) (new:=new.map fun o=>(true,o)) hc hk hv (by rw[e0];exact (cB (σ:=fun _=>none) hn).1) hnd hi (Do h0)
 rw[e0,(cB hn).2,h3]at key
 exact key
structure Ea(o:aa):Prop where
 ok:am 3 o=true
 own:o.owned=true
 rn:∀σ,rno σ 3 o=o
theorem HF{z:Nat}{cs:List Value}(h:cs.all (ao 0)=true):Ea (.cells true z cs) :=
 ⟨(ed (σ:=fun _=>none) (d:=0) h).2,rfl,fun σ=>congrArg (aa.cells true z) (ed (σ:=σ) (d:=0) h).1⟩
def ry(ks:List Nat):List (Nat×Bool×aa)->Prop
 | [] =>True
 |p :: l=>(p.1∈ks/\Ea p.2.2)/\ry ks l
theorem lY{ks:List Nat}:∀{l:List (Nat×Bool×aa)},ry ks l->∀p∈oU l,p.1∈ks/\am 3 p.2=true/\p.2.owned=true
 | [],_,p,h=>by cases h
 |q :: l,hl,p,h=>by
  rcases List.mem_cons.1 h with rfl|h
  ·exact ⟨hl.1.1,hl.1.2.ok,hl.1.2.own⟩
  ·exact lY hl.2 p h
theorem pV{ks:List Nat}{σ σ':Nat->Option Nat}:∀{l:List (Nat×Bool×aa)},ry ks l->lX σ σ' 3 (oU l)=(oU l).map fun p=>((σ p.1).getD 0,p.2)
 | [],_=>rfl
 |q :: l,hl=>by
  show ((σ q.1).getD 0,rno σ' 3 q.2.2) :: lX σ σ' 3 (oU l)=((σ q.1).getD 0,q.2.2) :: _
  rw[hl.1.2.rn,pV hl.2];rfl
theorem lI{f:FuncId}{args:List Value}{os:List aa}{h:Hint}{α:Type}{I:α->Prop}(v:α->Nat->Value){chg:α->List (Nat×Bool×aa)}{new:α->List aa}{ks:List Nat}
  (hc:vF prog msk (dm 0) 100000 true 40 true f args (aG os) (some ks) h (cK (aG os).n 3 ks I (fun x=>v x os.length) chg (fun x=>(new x).map fun o=>(true,o))))
  (hk:os.all (am 3)=true) (hks:∀k∈ks,∃o,os[k]?=some o/\o.owned=true) (hv:∀x,I x->cm 3 (v x os.length)=true) (hch:∀x,I x->ry ks (chg x)) (hn:∀x,I x->f9 (new x))
  {H:Heap} {ids:List Nat} (hnd:ids.Nodup) (hi:cR H (sgI ids) ids os) (h0:ids[0]?=some 0) (h3:∀x j,I x->rn (bA (sgI ids) os.length j) 3 (v x os.length)=v x j)
  {args':List Value} (ha:args.map (rn (sgI ids) 3)=args') {ms:List Nat} (hms:ks.filterMap (sgI ids)=ms) :
  ad prog f args' H ms (fun y H2 => ∃x,I x/\y=v x H.length/\H2=eg H ((oU (chg x)).map fun p=>((sgI ids p.1).getD 0,p.2))++new x):=by
 subst ha hms
 have e0:∀x,((new x).map fun o=>(true,o)).map (·.2)=new x:=fun x=>by rw[List.map_map];exact List.map_id _
 have key:=Hp mY mixed 40 (v:=fun x=>v x os.length) (chg:=chg) (new:=fun x=>(new x).map fun o=>(true,o)) hc hk hks hv (fun x hx=>lY (hch x hx)) (fun x hx=>by rw[e0];exact (cB (σ:=fun _=>none) (hn x hx)).1) hnd hi (Do h0)
 refine key.post ?_
 rintro y H2 ⟨x,hx,rfl,rfl⟩
 exact ⟨x,hx,h3 x _ hx,by rw[e0,(cB (hn x hx)).2,pV (hch x hx)]⟩
abbrev kyV(k:Int×Int):Value:=.agg #[nI k.1,nI k.2]
def knE(K:List ((Int×Int)×Int)):List (Value×Value):=gG kyV (fun v=>nI v) K
def ab(f:Int->Int->Int):={ K:List ((Int×Int)×Int) // ∀c h,fe (c,h) K=true->iv (c,h) 0 K=f c h }
def ab.nil(f:Int->Int->Int):ab f:=⟨[],fun _ _ h=>by cases h⟩
def ab.put{f:Int->Int->Int}(K:ab f)(c h:Int):ab f:=⟨gX (c,h) (f c h) K.1,fun c' h' e=>by
 rw[t5]
 rw[tZ]at e
 by_cases q:(c',h')=(c,h)
 ·rw[if_pos q];cases q;rfl
 ·rw[if_neg q]
  rw[decide_eq_false q,Bool.false_or]at e
  exact K.2 c' h' e⟩
theorem plM(K:List ((Int×Int)×Int)):Ea (.map (knE K)):=by
 refine ⟨?_,rfl,fun σ =>?_⟩
 ·show ((gG kyV (fun v=>nI v) K).all fun e=>cm 3 e.1&&cm 3 e.2)=true
  unfold gG
  rw[List.all_map,List.all_eq_true]
  intro e _;rfl
 ·show aa.map ((gG kyV (fun v=>nI v) K).map fun e=>(rn σ 3 e.1,rn σ 3 e.2))=_
  unfold knE gG
  rw[List.map_map]
  congr 1
structure Span where
 lo:Int
 hi:Int
structure Cell where
 ap:Span
 ag:Span
 ai:Span
 ah:Span
structure Ice where
 ap:Int
 ag:Int
 ai:Int
 ah:Int
abbrev ib(x:Ice):List Value:=[nI x.ap,nI x.ag,nI x.ai,nI x.ah]
abbrev cellC(c:Cell):List Value:=[nI c.ap.lo,nI c.ap.hi,nI c.ag.lo,nI c.ag.hi,nI c.ai.lo,nI c.ai.hi,nI c.ah.lo,nI c.ah.hi]
abbrev oR(x:Ice):Value:=.agg ⟨ib x⟩
abbrev cellV(c:Cell):Value:=.agg ⟨cellC c⟩
def az:Cell:=⟨⟨0,0⟩,⟨0,0⟩,⟨0,0⟩,⟨0,0⟩⟩
def cU:Ice:=⟨0,0,0,0⟩
abbrev Pt:=Int×Int
abbrev ptC(p:Pt):List Value:=[.int .i64 p.1,.int .i64 p.2]
def zP:Pt:=(0,0)
structure Shp where
 cls:Int
 pow:Int
 dra:Int
 ton:Int
 th:List Pt
 wa:List Pt
 ic:List Pt
 slow:Int
 aw:Int
 rdg:Int
 prs:Int
abbrev slR(i n:Nat):Value:=slQ i 2 n
abbrev uT(s:Shp)(i j k:Nat):List Value:=[nI s.cls,nI s.pow,nI s.dra,nI s.ton,slR i s.th.length,slR j s.wa.length,slR k s.ic.length,nI s.slow,nI s.aw,nI s.rdg,nI s.prs]
abbrev sj(s:Shp)(i j k:Nat):Value:=.agg ⟨uT s i j k⟩
def inB(n a b:Int):Bool:=decide (a<=n)&&decide (n<=b)
theorem aR{n a b:Int}:inB n a b=true ↔ a<=n/\n<=b:=by unfold inB;simp
def gZ(l:List Pt)(i:Nat):Bool:=inB (l.getD i zP).1 0 400&&inB (l.getD i zP).2 0 20000 && !(decide (0<i)&&decide ((l.getD i zP).1<=(l.getD (i-1) zP).1))
def lA(l:List Pt):Bool:=inB (l.length:Int) 2 8&&((l.getD 0 zP).1 == 0)&&(List.range l.length).all (gZ l)
def kf(l:List Pt)(way:Int)(i:Nat):Bool:=decide (i=0) || !decide (((l.getD i zP).2-(l.getD (i-1) zP).2)*way<0)
def cF(l:List Pt)(way:Int):Bool:=lA l&&(List.range l.length).all (kf l way)
def c8(l:List Pt):Int:=(l.getD (l.length-1) zP).1
def aU(s:Shp):Int :=
 if inB s.cls 1 6=false then 41
 else if (inB s.pow 100 100000&&inB s.dra 10 2000&&inB s.ton 10 500000)=false then 40
 else if (inB s.slow 0 20&&inB s.aw 0 100&&inB s.rdg 0 500&&inB s.prs 0 5000)=false then 40
 else if (cF s.th (-1)&&inB (c8 s.th) 10 250)=false then 40
 else if (cF s.wa 1&&decide (c8 s.wa<=250))=false then 40
 else if (cF s.ic 1&&((s.ic.getD 0 zP).2 == 0)&&(c8 s.ic == 400))=false then 40
 else 0
def ar:List Pt->Int->Int×Int
 |a :: b :: r,x=>if x<=b.1 then (a.2*(b.1-a.1)+(b.2-a.2)*(x-a.1),b.1-a.1) else ar (b :: r) x
 | [a],_=>(a.2,1)
 | [],_=>(0,1)
def mH(s:Shp)(v:Int):Int:=Int.tdiv (ar s.th v).1 (ar s.th v).2
def jJ(s:Shp)(x:Ice)(ch:Bool)(v:Int):Int :=
 let share:=if ch then s.aw else 100
 let FG:=if ch then 0 else x.ai
 x.ap*((ar s.ic x.ag).1*(1000+s.slow*v)*share+s.rdg*FG*(ar s.ic x.ag).2*100000)
def md(s:Shp)(x:Ice)(ch:Bool)(v:Int):Int :=
 let w:=(ar s.wa v).1
 let wd:=(ar s.wa v).2
 let n:=jJ s x ch v
 let d:=(ar s.ic x.ag).2*10000000
 let all:=w*d+n*wd+s.prs*x.ah*wd*d
 Int.tdiv (all+wd*d-1) (wd*d)
def mkB(s:Shp)(x:Ice)(ch:Bool)(v:Int):Bool:=decide (v<=c8 s.th)&&decide (md s x ch v<=mH s v)
def gA(x:Ice)(v:Int)(ch:Bool):Int :=
 if x.ap=0 then 0 else (if ch then Int.tdiv (x.ag*(100+v)+1) 2 else x.ag*(100+v))+300*(if ch then 0 else x.ai)+2000*x.ah
def brB(s:Shp)(x:Ice)(ch:Bool)(v:Int):Bool:=decide (gA x v ch<=zI.getD (Int.toNat (s.cls-1)) 0)
def bsG(f:Int->Bool):Nat->Int->Int->Int
 |0,lo,_=>lo
 |n+1,lo,hi=>if lo<hi then (if f (lo+Int.tdiv (hi-lo+1) 2) then bsG f n (lo+Int.tdiv (hi-lo+1) 2) hi else bsG f n lo (lo+Int.tdiv (hi-lo+1) 2-1)) else lo
def grG(f:Int->Bool)(lo hi:Int):Int×Bool:=if f lo then (bsG f (Int.toNat (hi-lo)) lo hi,true) else (0,false)
def e9(s:Shp)(x:Ice)(ch:Bool):Int:=(grG (mkB s x ch) 0 250).1
def mbB(s:Shp)(x:Ice)(ch:Bool)(v:Int):Bool:=mkB s x ch v&&brB s x ch v
def goS(s:Shp)(x:Ice)(ch:Bool):Int×Bool:=grG (mbB s x ch) 10 250
def bX(c:Cell):Ice:=⟨c.ap.hi,c.ag.hi,c.ai.hi,c.ah.hi⟩
def sfS(s:Shp)(c:Cell)(ch:Bool):Int×Int :=
 if e9 s (bX c) ch<10 then (0,4) else if (goS s (bX c) ch).2=false then (0,41) else ((goS s (bX c) ch).1,0)
def cH(s:Span)(m:Int):Prop:=0<=s.lo/\s.lo<=m/\s.lo<=s.hi/\s.hi<=m
def bk(c:Cell):Prop:=cH c.ap 100/\cH c.ag 400/\cH c.ai 100/\cH c.ah 3
instance (s:Span) (m:Int):Decidable (cH s m):=by unfold cH;infer_instance
instance (c:Cell):Decidable (bk c):=by unfold bk;infer_instance
def aK(c:Cell):Int:=if bk c then 0 else 20
def sfX(s:Shp)(c:Cell)(ch:Bool):Int×Int:=if aU s=0 then (if aK c=0 then sfS s c ch else (0,aK c)) else (0,aU s)
end
end Go.Proofs.YtmecpfikljhjaaaGreatDoor
