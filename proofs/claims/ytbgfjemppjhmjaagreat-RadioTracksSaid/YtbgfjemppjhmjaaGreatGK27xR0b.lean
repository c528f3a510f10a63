/- Small steps that texts about functions share. No condition. -/
import Derived.Test.YtbgfjemppjhmjaaGreatGK24xV14
import Derived.Test.YtbgfjemppjhmjaaGreatGV6xV11
import Derived.Test.YtbgfjemppjhmjaaGreatGV4xV5
import Derived.Test.YtbgfjemppjhmjaaGreatN
import Derived.Test.YtbgfjemppjhmjaaGreatGK1xK7
open Go Go.K
set_option maxRecDepth 1000000
set_option maxHeartbeats 4000000
set_option linter.unusedVariables false
set_option linter.unusedSimpArgs false
namespace Go.K
noncomputable section
theorem mi{p A B:Prop}[Decidable p](h1:p->A)(h2:¬ p->B):(decide p=true->A)/\(decide p=false->B) :=
 ⟨fun h=>h1 (av h),fun h=>h2 (aA h)⟩
theorem JA{a b:Int}{A B:Prop}(h1:a≠b->A)(h2:a=b->B):((a != b)=true->A)/\((a != b)=false->B) :=
 ⟨fun h=>h1 (by simpa using h),fun h=>h2 (by simpa using h)⟩
theorem JB{a b:Int}{A B:Prop}(h1:a=b->A)(h2:a≠b->B):((a == b)=true->A)/\((a == b)=false->B) :=
 ⟨fun h=>h1 (by simpa using h),fun h=>h2 (by simpa using h)⟩
theorem cU{b:Bool}{A B:Prop}(h:(b=true->B)/\(b=false->A)):((!b)=true->A)/\((!b)=false->B):=by
 cases b
 ·exact ⟨fun _=>h.2 rfl,fun h=>by cases h⟩
 ·exact ⟨fun h=>(by cases h),fun _=>h.1 rfl⟩
theorem iEq{k:IntKind}{a b:Int}(h:a=b):(Value.int k a) = .int k b:=by rw[h]
theorem Mb{n:Int}(h : -9223372036854775808<=n/\n<=9223372036854775807):IntKind.wrap .i64 n=n:=IntWalk.i64_in n h
theorem aG{n:Int}(h : -9223372036854775808<=n/\n<=9223372036854775807):(Value.int .i64 (IntKind.wrap .i64 n)) = .int .i64 n:=by rw[Mb h]
theorem FQ(a b:Int):(if b > a then b else a)=max a b:=by split <;> omega
theorem FP(a b:Int):(if b<a then b else a)=min a b:=by split <;> omega
theorem toMax{k:IntKind}{a b:Int}{Q:Int->Prop}(h:Q (max a b)):∃y:Int,(Value.int k (if b > a then b else a)) = .int k y/\Q y:=⟨max a b,by rw[FQ],h⟩
theorem toMin{k:IntKind}{a b:Int}{Q:Int->Prop}(h:Q (min a b)):∃y:Int,(Value.int k (if b<a then b else a)) = .int k y/\Q y:=⟨min a b,by rw[FP],h⟩
theorem Hm{c:Bool}{v1 v2:Int}{S1 S2 R:Int->Prop}(h1:c=true->S1 v1)(h2:c=false->S2 v2)(hr:∀x,x=(if c=true then v1 else v2)->R x) :
  (true=true/\(c=true->∃x':Int,((c=true/\x'=v1/\True)∨(c=false/\x'=v2/\True))/\S1 x')/\(c=false->∃x':Int,((c=true/\x'=v1/\True)∨(c=false/\x'=v2/\True))/\S2 x') /\
   ∀x:Int,((c=true/\x=v1/\True)∨(c=false/\x=v2/\True))->R x):=by
 refine ⟨rfl,fun h=>⟨v1,.inl ⟨h,rfl,trivial⟩,h1 h⟩,fun h=>⟨v2,.inr ⟨h,rfl,trivial⟩,h2 h⟩,fun x hx=>hr x ?_⟩
 rcases hx with ⟨h,rfl,_⟩|⟨h,rfl,_⟩
 ·rw[if_pos h]
 ·rw[if_neg (by rw[h];decide)]
theorem tT{a b:Int}{S1 S2 R:Int->Prop}(h1:S1 b)(h2:S2 a)(hr:R (max a b)) :
  (true=true/\(decide (a<b)=true->∃x':Int,((decide (a<b)=true/\x'=b/\True)∨(decide (a<b)=false/\x'=a/\True))/\S1 x')/\(decide (a<b)=false->∃x':Int,((decide (a<b)=true/\x'=b/\True)∨(decide (a<b)=false/\x'=a/\True))/\S2 x') /\
   ∀x:Int,((decide (a<b)=true/\x=b/\True)∨(decide (a<b)=false/\x=a/\True))->R x) :=
 Hm (fun _=>h1) (fun _=>h2) fun x hx=>by
  have:x=max a b:=by rw[hx];simp only[decide_eq_true_eq];split <;> omega
  rw[this];exact hr
theorem tS{a b:Int}{S1 S2 R:Int->Prop}(h1:S1 b)(h2:S2 a)(hr:R (min a b)) :
  (true=true/\(decide (b<a)=true->∃x':Int,((decide (b<a)=true/\x'=b/\True)∨(decide (b<a)=false/\x'=a/\True))/\S1 x')/\(decide (b<a)=false->∃x':Int,((decide (b<a)=true/\x'=b/\True)∨(decide (b<a)=false/\x'=a/\True))/\S2 x') /\
   ∀x:Int,((decide (b<a)=true/\x=b/\True)∨(decide (b<a)=false/\x=a/\True))->R x) :=
 Hm (fun _=>h1) (fun _=>h2) fun x hx=>by
  have:x=min a b:=by rw[hx];simp only[decide_eq_true_eq];split <;> omega
  rw[this];exact hr
theorem ak{a b:Value}{r s:List Value}(h:wk a b)(hr:wks r s):wks (a :: r) (b :: s):=⟨h,hr⟩
theorem ac:wks [] []:=trivial
theorem ad.wkA{P:Program}{f:FuncId}{args args2:List Value}{H:Heap}{M:List Nat}{Q:Value->Heap->Prop}(h:ad P f args2 H M Q)(ha:wks args args2):ad P f args H M Q :=
 ad.uJ [] (by rw[List.append_nil];exact h) (fX ha).1 (fX ha).2
theorem AP{P:Program}{css:List (List Value)}{ids:List Nat}{H:Heap}(gu:∀(k:Nat) (cs:List Value),css[k]?=some cs->∃id own z,ids[k]?=some id/\H[id]?=some (ab.cells own z (cs.map (rn (sgR P.globals.size ids) 3))))(hl:ids.length=css.length) :
  Reads P (bA P.globals.size css).list H (sgR P.globals.size ids) 3:=by
 have hn:(bA P.globals.size css).list.length=P.globals.size+css.length:=by rw[HT.length,oL]
 refine ⟨fun g hg=>if_pos hg,fun id id' h =>?_,by rw[hn];omega,fun id o h =>?_,fun id id' cs h1 h2 =>?_⟩
 ·rw[hn]
  unfold sgR at h
  split at h
  ·omega
  ·have:=(List.getElem?_eq_some_iff.1 h).1;omega
 ·rw[fZ]at h
  split at h
  ·cases h;exact .inl rfl
  ·obtain ⟨cs,_,rfl⟩:=ba h;exact .inr ⟨cs,rfl⟩
 ·rw[fZ]at h2
  split at h2
  ·cases h2
  ·rename_i hlt
   obtain ⟨cs',a1,a2⟩:=ba h2
   cases a2
   unfold sgR at h1
   rw[if_neg hlt]at h1
   obtain ⟨id2,own,z,b1,b2⟩:=gu _ _ a1
   rw[h1]at b1;cases b1
   exact ⟨own,z,[],by rw[List.append_nil];exact b2⟩
theorem KB{P:Program}{mixed:Bool}{mask:Nat}{dm:Value->MS}{rounds:Nat}(ft:gy P mixed mask)(gq:mixed=true->P.follows .mixedOrders=true)(n:Nat){f:FuncId}{args:List Value}{css:List (List Value)}{h:Hint}{v:Value}
  (hc:vF P mask dm rounds mixed n true f args (bA P.globals.size css) (some []) h (fun v' _ _=>v'=v)) (hv:cn 0 v=true)
  {H:Heap} (ids:List Nat) (hl:ids.length=css.length) (gu:∀(k:Nat) (cs:List Value),css[k]?=some cs->∃id own z,ids[k]?=some id/\H[id]?=some (ab.cells own z (cs.map (rn (sgR P.globals.size ids) 3)))) (h3:dj 3 v=true:=by rfl) (h4:∀σ,rn σ 3 v=v:=by intro σ;rfl) :
  ad P f (args.map (rn (sgR P.globals.size ids) 3)) H [] (Is v H):=by
 have h1:ad P f args (bA P.globals.size css).list [] (Is v ((bA P.globals.size css).list ++ [])):=by
  have:=ad.clean (vc ft gq n (Q:=fun v' _=>v'=v) hc) hv
  simpa using this
 have:=ad.reads (AP gu hl) h1 h3 (h4 _) rfl rfl
 rw[h4]at this
 simpa using this
end
end Go.K
namespace Go.K
open Go Go.RowKit Go.ChangeAt Go.WideShapes
variable {P:Program} {HH:Type} {enc:TypeId×Value->HH}
def eG(P:Program):Nat->TypeId->List Value->Prop
 |0,_,_=>False
 |n+1,t,cs=>match P.underlying t with
  |some .bool => ∃b,cs=[.bool b]
  |some (.int k) => ∃x,cs=[.int k x]/\k.min<=x/\x<=k.max
  |some .string => ∃s,cs=[.string s]
  |some (.struct fs)=>dy (eG P n) (fs.toList.map (·.type)) cs
  |some (.slice e) => ∃len ds,cs=[.iface (len+1) (.agg ⟨ds⟩)]/\ds.length=len*P.cellsOf e/\len<=maxLen/\dy (eG P n) (List.replicate len e) ds
  |some (.array k e)=>dy (eG P n) (List.replicate k e) cs
  |_=>False
def nP(P:Program)(H:Heap):Nat->TypeId->List Value->Prop
 |0,_,_=>False
 |n+1,t,cs=>match P.underlying t with
  |some .bool => ∃b,cs=[.bool b]
  |some (.int k) => ∃x,cs=[.int k x]/\k.min<=x/\x<=k.max
  |some .string => ∃s,cs=[.string s]
  |some (.struct fs)=>dy (nP P H n) (fs.toList.map (·.type)) cs
  |some (.slice e)=>cs=[.slice none 0 0]∨cs=[.slice (some ⟨0,0,some 0⟩) 0 0] ∨
    ∃id len ds,cs=[.slice (some ⟨id,0,none⟩) len len]/\H[id]?=some (.cells false 0 ds)/\ds.length=len*P.cellsOf e/\len<=maxLen/\dy (eG P n) (List.replicate len e) ds
  |some (.array k e)=>dy (nP P H n) (List.replicate k e) cs
  |_=>False
theorem nP.mono{H K:Heap}:∀{n:Nat} {t:TypeId} {cs:List Value},nP P H n t cs->nP P (H++K) n t cs:=by
 intro n
 induction n with
 |zero=>intro t cs h;exact h
 |succ n ih =>
  intro t cs h
  unfold nP at h ⊢
  split at h
  ·exact h
  ·exact h
  ·exact h
  ·exact dy.mono (fun _ _=>ih) h
  ·rcases h with h|h|⟨id,len,cs',h1,h2,h3,h4,h5⟩
   ·exact .inl h
   ·exact .inr (.inl h)
   ·exact .inr (.inr ⟨id,len,cs',h1,by rw[List.getElem?_append_left (List.getElem?_eq_some_iff.1 h2).1];exact h2,h3,h4,h5⟩)
  ·exact dy.mono (fun _ _=>ih) h
  ·exact h
def Low(B:Nat)(Y:Ren)(W:World):Prop:=(∀b m ty fz,b<B->W.heap[b]?=some (.cells m ty fz)->Y.mem b=some m)/\∀id r,Y id=some r->r.b<B
theorem om{B:Nat}{Y:Ren}{H:Heap}{W:World}{n:Nat}(IH:∀(t:TypeId) (cs cs':List Value),Good P H n t cs->VRl Y cs cs'->∃ds,VRl Y ds cs'/\eG P n t ds) :
  ∀(ts:List TypeId) (cs cs':List Value),dy (Good P H n) ts cs->VRl Y cs cs'->∃ds,VRl Y ds cs'/\dy (eG P n) ts ds:=by
 intro ts
 induction ts with
 |nil=>intro cs cs' h hv;rw[show cs=[] from h]at hv;exact ⟨[],hv,rfl⟩
 |cons t ts ih =>
  rintro cs cs' ⟨c,rest,rfl,h1,h2⟩ hv
  have hl:(c++rest).length=cs'.length:=hv.1
  rw[ao]at hl
  have v1:VRl Y c (cs'.take c.length):=⟨by rw[List.length_take];omega,fun i v v' a b=>by
   have hi:=(List.getElem?_eq_some_iff.1 a).1
   rw[List.getElem?_take,if_pos hi]at b
   exact hv.2 i v v' (by rw[List.getElem?_append_left hi];exact a) b⟩
  have v2:VRl Y rest (cs'.drop c.length):=⟨by rw[List.length_drop];omega,fun i v v' a b=>by
   rw[List.getElem?_drop]at b
   exact hv.2 (c.length+i) v v' (by rw[List.getElem?_append_right (by omega),Nat.add_sub_cancel_left];exact a) b⟩
  obtain ⟨d1,w1,g1⟩:=IH t c _ h1 v1
  obtain ⟨d2,w2,g2⟩:=ih rest _ h2 v2
  refine ⟨d1++d2,?_,d1,d2,rfl,g1,g2⟩
  have:=VRl.append w1 w2
  rw[List.take_append_drop]at this
  exact this
theorem rL{Y:Ren}{r:RI}{cs:List Value}{W:World}(h:bh Y r (.cells false 0 cs) W):∃m ty fz,W.heap[r.b]?=some (.cells m ty fz)/\(cs.length=0∨cs.length+r.s<=m.size)/\VRl Y cs ((m.toList.drop r.s).take cs.length)/\m.size=r.n:=by
 obtain ⟨_,_,m,ty,fz,hb,hsz,_,hcs⟩:=h
 have hle:cs.length=0∨cs.length+r.s<=m.size:=by
  rcases Nat.eq_zero_or_pos cs.length with h0|h0
  ·exact .inl h0
  ·right
   obtain ⟨v',g1,_⟩:=hcs (cs.length-1) _ (List.getElem?_eq_getElem (by omega))
   have:=(Array.getElem?_eq_some_iff.1 g1).1
   omega
 refine ⟨m,ty,fz,hb,hle,⟨?_,fun i v v' a b =>?_⟩,hsz⟩
 ·have e:m.toList.length=m.size:=Array.length_toList
  rw[List.length_take,List.length_drop,e]
  rcases hle with h|h <;> omega
 ·obtain ⟨v2,g1,g2⟩:=hcs i v a
  have hi:=(List.getElem?_eq_some_iff.1 a).1
  rw[List.getElem?_take,if_pos hi,List.getElem?_drop,Array.getElem?_toList,Nat.add_comm,g1]at b
  cases b;exact g2
theorem JG{B:Nat}{Y:Ren}{H:Heap}{W:World}(hr:Rel P B Y H W)(hlow:Low B Y W):∀(n:Nat) (t:TypeId) (cs cs':List Value),Good P H n t cs->VRl Y cs cs'->∃ds,VRl Y ds cs'/\eG P n t ds:=by
 intro n
 induction n with
 |zero=>intro t cs cs' h;exact h.elim
 |succ n ih =>
  intro t cs cs' h hv
  have single:∀v,cs=[v]->∃x,cs'=[x]/\VR Y v x:=by
   rintro v rfl
   have hl:cs'.length=1:=hv.1.symm
   obtain ⟨x,rfl⟩:=List.length_eq_one_iff.1 hl
   exact ⟨x,rfl,hv.2 0 v x rfl rfl⟩
  unfold Good at h
  split at h
  ·rename_i hu;exact ⟨cs,hv,by unfold eG;rw[hu];exact h⟩
  ·rename_i k hu;exact ⟨cs,hv,by unfold eG;rw[hu];exact h⟩
  ·rename_i hu;exact ⟨cs,hv,by unfold eG;rw[hu];exact h⟩
  ·rename_i fs hu
   obtain ⟨ds,w,g⟩:=om (B:=B) (W:=W) ih _ cs cs' h hv
   exact ⟨ds,w,by unfold eG;rw[hu];exact g⟩
  ·rename_i e hu
   have H8:∀x,(∃a c,x = .slice a 0 c)->∃ds,VRl Y ds [x]/\eG P (n+1) t ds:=by
    rintro x ⟨a,c,rfl⟩
    refine ⟨[.iface 1 (.agg ⟨[]⟩)],.cons .cm (.nil Y),?_⟩
    unfold eG
    rw[hu]
    exact ⟨0,[],rfl,by simp,by simp[maxLen],rfl⟩
   rcases h with h|h|⟨id,len,csi,h1,h2,h3,h4,h5⟩
   ·obtain ⟨x,rfl,hx⟩:=single _ h
    cases hx;exact H8 _ ⟨_,_,rfl⟩
   ·obtain ⟨x,rfl,hx⟩:=single _ h
    refine H8 _ ?_
    generalize hz:(Value.slice (some ⟨0,0,some 0⟩) 0 0)=z at hx
    cases hx <;> cases hz
    exact ⟨_,_,rfl⟩
   ·obtain ⟨x,rfl,hx⟩:=single _ h1
    rcases Nat.eq_zero_or_pos len with h0|h0
    ·subst h0
     refine H8 _ ?_
     cases hx with
     |slice h hl hc _=>exact ⟨_,_,rfl⟩
     |br h=>exact ⟨_,_,rfl⟩
    ·obtain ⟨r,cap',hid,hc,rfl⟩:∃r cap',Y id=some r/\len<=cap'/\x = .slice (some ⟨r.b,0+r.s,none⟩) len cap':=by
      generalize hz:(Value.slice (some ⟨id,0,none⟩) len len)=z at hx
      cases hx <;> cases hz
      ·exact ⟨_,_,‹_›,by omega,rfl⟩
      ·exact absurd h0 (Nat.lt_irrefl 0)
     obtain ⟨m,ty,fz,hb,hle,hvr,_⟩:=rL (hr.obj id r _ hid h2)
     have hm:=hlow.1 r.b m ty fz (hlow.2 id r hid) hb
     obtain ⟨ds,w,g⟩:=om (B:=B) (W:=W) ih _ csi _ h5 hvr
     have hdl:ds.length=csi.length:=by
      have e1:=w.1
      have e2:=hvr.1
      omega
     refine ⟨[.iface (len+1) (.agg ⟨ds⟩)],.cons ?_ (.nil Y),?_⟩
     ·rw[Nat.zero_add]
      refine .deep hm h0 hc (by show ds.length=0∨ds.length+r.s<=m.size;rw[hdl];exact hle) (fun i v v' a b =>?_)
      have hi:i<ds.length:=by have:=(Array.getElem?_eq_some_iff.1 a).1;simpa using this
      refine w.2 i v v' (by simpa using a) ?_
      rw[List.getElem?_take,if_pos (by omega),List.getElem?_drop,Array.getElem?_toList,Nat.add_comm];exact b
     ·unfold eG
      rw[hu]
      exact ⟨len,ds,rfl,by rw[hdl];exact h3,h4,g⟩
  ·rename_i k e hu
   obtain ⟨ds,w,g⟩:=om (B:=B) (W:=W) ih _ cs cs' h hv
   exact ⟨ds,w,by unfold eG;rw[hu];exact g⟩
  ·exact h.elim
theorem Low.set{B:Nat}{Y:Ren}{W:World}(h:Low B Y W){id:Nat}{ri:RI}(hb:ri.b<B):Low B (Y.set id ri) W:=by
 refine ⟨h.1,fun i r hi =>?_⟩
 by_cases e:i=id
 ·subst e;rw[Ren.aM]at hi;cases hi;exact hb
 ·rw[Ren.aL e]at hi;exact h.2 i r hi
def uH(P:Program)(H:Heap)(n:Nat)(t:TypeId)(v:Value):Prop :=
 match P.underlying t with
 |some (.struct _) => ∃cs:List Value,v = .agg ⟨cs⟩/\nP P H n t cs
 |_=>nP P H n t [v]
theorem uH.mono{H K:Heap}{n:Nat}{t:TypeId}{v:Value}(h:uH P H n t v):uH P (H++K) n t v:=by
 unfold uH at h ⊢
 split at h
 ·obtain ⟨cs,h1,h2⟩:=h;exact ⟨cs,h1,h2.mono⟩
 ·exact h.mono
end Go.K
namespace Go.K
noncomputable section
variable {P:Program}
theorem VRl.inv{Y:Ren}{v:Value}{l:List Value}{m:List Value}(h:VRl Y (v :: l) m):∃x l',m=x :: l'/\VR Y v x/\VRl Y l l':=by
 cases m with
 |nil=>exact absurd h.1 (by simp)
 |cons x l'=>exact ⟨x,l',rfl,h.2 0 v x rfl rfl,by have:=h.1;simpa using this,fun i a b c d=>h.2 (i+1) a b (by simpa using c) (by simpa using d)⟩
def jC(P:Program)(base:Nat)(H:Heap)(args args2:List Value)(gs:Heap):Prop :=
 ∀(B:Nat) (Y:Ren) (w:World) (xs:List Value),Rel P B Y H w->base<=H.length->VRl Y args xs->∃ρ1,Post P B base [] Y H w ρ1 (H++gs) w/\VRl ρ1 args2 xs
theorem jC.nil{base:Nat}{H:Heap}:jC P base H [] [] []:=fun B Y w xs hr hb hv=>⟨Y,by rw[List.append_nil];exact Post.refl hr,hv⟩
theorem jC.keep{base:Nat}{H:Heap}{a:Value}{as1 bs:List Value}{gs:Heap}(h:jC P base H as1 bs gs):jC P base H (a :: as1) (a :: bs) gs:=by
 intro B Y w xs hr hb hv
 obtain ⟨x,l,rfl,h1,h2⟩:=hv.inv
 obtain ⟨ρ1,p,h3⟩:=h B Y w l hr hb h2
 exact ⟨ρ1,p,.cons (h1.mono p.ext) h3⟩
theorem jC.deep{base n:Nat}{H:Heap}{cs:List Value}{as1 bs:List Value}{gs:Heap}(h:jC P base (H ++ [.cells false 0 cs]) as1 bs gs) :
  jC P base H (.iface (n+1) (.agg ⟨cs⟩) :: as1) (.slice (some ⟨H.length,0,some 2⟩) n n :: bs) (.cells false 0 cs :: gs):=by
 intro B Y w xs hr hb hv
 obtain ⟨x,l,rfl,h1,h2⟩:=hv.inv
 obtain ⟨ρ1,p,h3⟩:=VR.thaw (base:=base) (M:=[]) hr hb h1
 obtain ⟨ρ2,q,h4⟩:=h B ρ1 w l p.rel (Nat.le_trans hb p.len) (h2.mono p.ext)
 refine ⟨ρ2,?_,.cons (h3.mono q.ext) h4⟩
 have:=p.trans q
 rw[List.append_assoc]at this
 exact this
theorem jC.agg{base n i:Nat}{H:Heap}{cs vs:List Value}{as1 bs:List Value}{gs:Heap}(hi:vs[i]?=some (.iface (n+1) (.agg ⟨cs⟩)))(h:jC P base (H ++ [.cells false 0 cs]) as1 bs gs) :
  jC P base H (.agg ⟨vs⟩ :: as1) (.agg ⟨vs.set i (.slice (some ⟨H.length,0,some 2⟩) n n)⟩ :: bs) (.cells false 0 cs :: gs):=by
 intro B Y w xs hr hb hv
 obtain ⟨x,l,rfl,h1,h2⟩:=hv.inv
 have hl:=(List.getElem?_eq_some_iff.1 hi).1
 cases h1 with
 | @agg _ cs' g1 g2 =>
  have hlt:i<cs'.size:=by rw[<- g1];simpa using hl
  obtain ⟨ρ1,p,h3⟩:=VR.thaw (base:=base) (M:=[]) hr hb (g2 i _ _ (by simpa using hi) (Array.getElem?_eq_getElem hlt))
  obtain ⟨ρ2,q,h4⟩:=h B ρ1 w l p.rel (Nat.le_trans hb p.len) (h2.mono p.ext)
  have hpq:=p.trans q
  refine ⟨ρ2,?_,.cons (.agg (by simpa using g1) fun j v v' a b =>?_) h4⟩
  ·rw[List.append_assoc]at hpq;exact hpq
  have a':(vs.set i (.slice (some ⟨H.length,0,some 2⟩) n n))[j]?=some v:=by simpa using a
  rw[List.getElem?_set]at a'
  split at a'
  ·rename_i e;subst e
   cases a'
   rw[Array.getElem?_eq_getElem hlt]at b;cases b
   exact h3.mono q.ext
  ·exact (g2 j v v' (by simpa using a') b).mono hpq.ext
theorem ad.thaw{f:FuncId}{args args2:List Value}{H gs:Heap}{M:List Nat}{Q:Value->Heap->Prop}(ht:jC P H.length H args args2 gs)(h:ad P f args2 (H++gs) M Q):ad P f args H M Q:=by
 refine ⟨h.1,fun B Y w args' hr ha =>?_⟩
 obtain ⟨ρ1,p,hv⟩:=ht B Y w args'.toList hr (Nat.le_refl _) ha
 refine (h.2 B ρ1 w args' p.rel hv).mono ?_
 rintro e w' ⟨v,v',ρ',H',rfl,h1,h2,h3⟩
 exact ⟨v,v',ρ',H',rfl,h1,(p.weaken (Nat.le_refl _) (fun _ h=>by cases h)).trans (h2.weaken (by rw[ao];omega) (fun _ h _=>h)),h3⟩
def e5(L k n:Nat)(id:Nat):Option Nat:=if id<L then some id else if id<L+n then some (id+k) else none
theorem ad.drop{f:FuncId}{args:List Value}{H K gs new:Heap}{M:List Nat}{v v2:Value}{d:Nat}(h:ad P f args H M (Is v2 (K++gs++new)))(hK:K.length=H.length)(hs:∀id,id<H.length->id ∉ M->K[id]?=H[id]?)
  (hM:∀id o,id<H.length->id∈M->K[id]?=some o->(∃z cs,o = .cells true z cs)/\rno (e5 H.length gs.length new.length) d o=o) (hv:rn (e5 H.length gs.length new.length) d v=v2)
  (hn:new.map (rno (e5 H.length gs.length new.length) d)=new) (hc:∀o∈new,∃z cs,o = .cells true z cs):ad P f args H M (Is v (K++new)):=by
 refine ⟨h.1,fun B Y w args' hr ha=>(h.2 B Y w args' hr ha).mono ?_⟩
 rintro e w' ⟨v',r,ρ',H',rfl,hv',hp,rfl,rfl⟩
 have he:Emb H M 0 (e5 H.length gs.length new.length) d (fun _=>junk) (K++new) (fun _=>junk) (K++gs++new):=by
  refine ⟨by rw[ao];omega,fun id h=>if_pos h,fun id id' h =>?_,fun id1 id2 id' o1 o2 h1 h2 _ _ _ _ =>?_,fun t h=>by omega,fun id h h2=>by rw[List.getElem?_append_left (by omega)];exact hs id h h2,fun id id' o h1 h2 h3 =>?_⟩
  ·unfold e5 at h
   rw[ao,hK]
   split at h
   ·omega
   ·split at h
    ·assumption
    ·cases h
  ·unfold e5 at h1 h2
   split at h1 <;> split at h2 <;> (try split at h1) <;> (try split at h2) <;> first|(cases h1;done)|(cases h2;done)|(cases h1;cases h2;omega)|(simp only[Option.some.injEq]at h1 h2;omega)
  ·by_cases hlt:id<H.length
   ·rcases h2 with h2|h2
    ·omega
    ·have e1:e5 H.length gs.length new.length id=some id:=if_pos hlt
     rw[e1]at h1;cases h1
     rw[List.getElem?_append_left (by omega)]at h3
     obtain ⟨⟨z,cs,rfl⟩,h5⟩:=hM id o hlt h2 h3
     refine .inr ⟨.cells true z cs,?_,rfl,rfl,fun ρ1 ρ2 r1 w1 hle hob =>?_,fun z2 cs2 e=>by cases e⟩
     ·rw[List.append_assoc,List.getElem?_append_left (by omega)];exact h3
     ·refine jb (d:=d) hle.1 hle.2 hle.3 (o:=.cells true z cs) ?_ (fun q=>by rw[h5]at q;cases q)
      rw[h5];exact hob
   ·unfold e5 at h1
    rw[if_neg hlt]at h1
    split at h1
    ·rename_i hl2
     cases h1
     rw[List.getElem?_append_right (by omega),hK]at h3
     have ho:=List.mem_of_getElem? h3
     obtain ⟨z,cs,rfl⟩:=hc o ho
     have h4:(new.map (rno (e5 H.length gs.length new.length) d))[id-H.length]?=some (rno (e5 H.length gs.length new.length) d (.cells true z cs)):=by rw[List.getElem?_map,h3];rfl
     rw[hn,h3]at h4
     have h5:rno (e5 H.length gs.length new.length) d (.cells true z cs) = .cells true z cs:=(Option.some.inj h4).symm
     refine .inr ⟨.cells true z cs,?_,rfl,rfl,fun ρ1 ρ2 r1 w1 hle hob =>?_,fun z2 cs2 e=>by cases e⟩
     ·rw[List.getElem?_append_right (by rw[ao];omega),ao,hK,show id+gs.length-(H.length+gs.length)=id-H.length by omega];exact h3
     ·refine jb (d:=d) hle.1 hle.2 hle.3 (o:=.cells true z cs) ?_ (fun q=>by rw[h5]at q;cases q)
      rw[h5];exact hob
    ·cases h1
 obtain ⟨q1,_⟩:=he.post hr hp
 refine ⟨v,r,bW ρ' (e5 H.length gs.length new.length),_,rfl,?_,q1,rfl,rfl⟩
 have hσ:∀id id' r,e5 H.length gs.length new.length id=some id'->ρ' id'=some r->(bW ρ' (e5 H.length gs.length new.length)) id=some r:=fun id id' r h1 h2=>by show Option.bind _ _=_;rw[h1];exact h2
 refine jx (ρ':=ρ') (Y:=bW ρ' (e5 H.length gs.length new.length)) hσ (fun _ _ h=>h) (fun F F' k r h1 h2=>by show Option.bind _ _=_;rw[h1];exact h2) d ?_
 rw[hv];exact hv'
theorem te{Y ρ':Ren}{σ:Nat->Option Nat}(hσ:∀id id' r,σ id=some id'->ρ' id'=some r->∃r',Y id=some r'/\r'.b=r.b/\r'.s=r.s/\(r'.own=false∨r'=r))(hm:∀b m,ρ'.mem b=some m->Y.mem b=some m)(hg:∀F F' k r,σ F=some F'->ρ'.g F' k=some r->Y.g F k=some r):∀(d:Nat) {v r:Value},VR ρ' (rn σ d v) r->VR Y v r:=by
 intro d
 induction d with
 |zero=>intro v r h;exact (VR.bad h).elim
 |succ d ih =>
  have ptr:∀{id id' off:Nat} {r:RI},σ id=some id'->ρ' id'=some r->VR Y (.pointer (some ⟨id,off,none⟩)) (.pointer (some ⟨r.b,off+r.s,none⟩)):=by
   intro id id' off r g k
   obtain ⟨r',a1,a2,a3,_⟩:=hσ _ _ _ g k
   rw[<- a2,<- a3];exact .ptr a1
  have slc:∀{id id' off len cap cap':Nat} {r:RI},σ id=some id'->ρ' id'=some r->len<=cap->cap<=cap'->(r.own=true->r.z≠0->off+r.s+cap'*r.z<=r.n)->VR Y (.slice (some ⟨id,off,none⟩) len cap) (.slice (some ⟨r.b,off+r.s,none⟩) len cap'):=by
   intro id id' off len cap cap' r g k hl hc ho
   obtain ⟨r',a1,a2,a3,a4⟩:=hσ _ _ _ g k
   rcases a4 with a4|rfl
   ·rw[<- a2,<- a3];exact .slice a1 hl hc (fun h=>by rw[a4]at h;cases h)
   ·exact .slice a1 hl hc ho
  have slQ:∀{id id' off len cap cap':Nat} {r:RI},σ id=some id'->ρ' id'=some r->0<len->len<=cap->cap<=cap'->(r.own=true->r.z≠0->off+r.s+cap'*r.z<=r.n)->VR Y (.slice (some ⟨id,off,some 1⟩) len cap) (.slice (some ⟨r.b,off+r.s,none⟩) len cap'):=by
   intro id id' off len cap cap' r g k hp hl hc ho
   obtain ⟨r',a1,a2,a3,a4⟩:=hσ _ _ _ g k
   rcases a4 with a4|rfl
   ·rw[<- a2,<- a3];exact .bz a1 hp hl hc (fun h=>by rw[a4]at h;cases h)
   ·exact .bz a1 hp hl hc ho
  have slR:∀{id id' off len cap cap':Nat} {r:RI},σ id=some id'->ρ' id'=some r->0<len->len<=cap->cap<=cap'->(r.own=true->r.z≠0->off+r.s+cap'*r.z<=r.n)->VR Y (.slice (some ⟨id,off,some 2⟩) len cap) (.slice (some ⟨r.b,off+r.s,none⟩) len cap'):=by
   intro id id' off len cap cap' r g k hp hl hc ho
   obtain ⟨r',a1,a2,a3,a4⟩:=hσ _ _ _ g k
   rcases a4 with a4|rfl
   ·rw[<- a2,<- a3];exact .bp a1 hp hl hc (fun h=>by rw[a4]at h;cases h)
   ·exact .bp a1 hp hl hc ho
  intro v r h
  unfold rn at h
  split at h
  ·split at h
   ·rename_i g;cases h with|ptr k=>exact ptr g k
   ·exact (VR.bad h).elim
  ·split at h
   ·rename_i g;cases h with|fh k=>exact .fh (hg _ _ _ _ g k)
   ·exact (VR.bad h).elim
  ·split at h
   ·rename_i g
    cases h with
    |slice k hl hc ho=>exact slc g k hl hc ho
    |br k=>obtain ⟨r',a1,a2,a3,_⟩:=hσ _ _ _ g k;rw[<- a2];exact .br a1
   ·exact (VR.bad h).elim
  ·split at h
   ·rename_i g
    cases h with
    |aY=>exact .aY
    |aX=>exact .aX
    |bz k hp hl hc ho=>exact slQ g k hp hl hc ho
    |aS=>exact .aS
    |bp k hp hl hc ho=>exact slR g k hp hl hc ho
   ·split at h
    ·cases h with
     |aY=>exact .aY
     |aX=>exact .aX
     |bz k hp hl hc ho=>exact absurd hp (Nat.lt_irrefl 0)
     |aS=>exact .aS
     |bp k hp hl hc ho=>exact absurd hp (Nat.lt_irrefl 0)
    ·exact (VR.bad h).elim
  ·split at h
   ·rename_i g;cases h with|map k=>obtain ⟨r',a1,a2,_⟩:=hσ _ _ _ g k;rw[<- a2];exact .map a1
   ·exact (VR.bad h).elim
  ·split at h
   ·rename_i g;cases h with|yield k=>obtain ⟨r',a1,a2,_⟩:=hσ _ _ _ g k;rw[<- a2];exact .yield a1
   ·exact (VR.bad h).elim
  ·cases h with
   |func h1 h2 h3 h4 =>
    obtain ⟨a1,a2⟩:=eZ ih h1 h2
    obtain ⟨b1,b2⟩:=eZ ih h3 h4
    exact .func a1 a2 b1 b2
  ·exact (VR.bad h).elim
  ·cases h with|agg h1 h2=>obtain ⟨a1,a2⟩:=eZ ih h1 h2;exact .agg a1 a2
  ·cases h with|tuple h1 h2=>obtain ⟨a1,a2⟩:=eZ ih h1 h2;exact .tuple a1 a2
  ·cases h with
   |deep g1 g2 g3 g4 g5=>obtain ⟨a1,a2⟩:=i6 ih g4 g5;exact .deep (hm _ _ g1) g2 g3 a1 a2
   |cm=>exact .cm
  ·cases h with|cG g1 g2 g3=>obtain ⟨a1,a2⟩:=i6 ih g2 g3;exact .cG (hm _ _ g1) a1 a2
  ·split at h
   ·rename_i g
    cases h with
    |fsl k hp hc hs ho=>exact .fsl (hg _ _ _ _ g k) hp hc hs ho
    |dr=>exact .dr
   ·split at h
    ·cases h with|dr=>exact .dr
    ·exact (VR.bad h).elim
  ·rename_i n1 n1f n2 n2q n3 n4 n5 n6 n7 n8 n9 n10 n11
   cases h with
   |junk=>exact .junk _
   |bool b=>exact .bool b
   |int k n=>exact .int k n
   |float k n=>exact .float k n
   |string s=>exact .string s
   |cN=>exact .cN
   |ptr k=>exact absurd rfl (n1 _ _)
   |fh k=>exact absurd rfl (n1f _ _ _)
   |bq=>exact .bq
   |slice k hl hc ho=>exact absurd rfl (n2 _ _ _ _)
   |br k=>exact absurd rfl (n2 _ _ _ _)
   |cj=>exact .cj
   |aY=>exact .aY
   |aX=>exact .aX
   |bz=>exact absurd rfl (n2q _ _ _ _ _)
   |aS=>exact .aS
   |bp=>exact absurd rfl (n2q _ _ _ _ _)
   |cP=>exact .cP
   |map k=>exact absurd rfl (n3 _)
   |nilFunc=>exact .nilFunc
   |nilIface=>exact .nilIface
   |func h1 h2 h3 h4=>exact absurd rfl (n5 _ _ _)
   |yield k=>exact absurd rfl (n4 _)
   |agg h1 h2=>exact absurd rfl (n7 _)
   |tuple h1 h2=>exact absurd rfl (n8 _)
   |deep=>exact absurd rfl (n9 _ _)
   |cm=>exact absurd rfl (n9 _ _)
   |fsl=>exact absurd rfl (n11 _ _ _ _)
   |dr=>exact .dr
   |cG=>exact absurd rfl (n10 _ _)
def plO:ab->Bool
 | .cells true _ cs=>cs.all (aJ 0)
 | .map es=>es.all fun e=>cn 0 e.1&&cn 0 e.2
 |_=>false
theorem gJ{o:ab}(h:plO o=true):o.owned=true/\o.alive=true/\(∀z cs,o ≠ .fam z cs)/\(∀z cs,o ≠ .cells false z cs):=by
 cases o with
 |cells own z cs=>cases own with
  |true=>exact ⟨rfl,rfl,fun _ _ h=>(by cases h),fun _ _ h=>(by cases h)⟩
  |false=>cases h
 |map es=>exact ⟨rfl,rfl,fun _ _ h=>(by cases h),fun _ _ h=>(by cases h)⟩
 |_=>cases h
structure uC(P:Program)(H0 H:Heap)(σ:Nat->Option Nat)(d k D:Nat)(o0:ab):Prop where
 dS:∀g,g<P.globals.size->σ g=some g
 dom:∀id id',σ id=some id'->id<H0.length
 len:P.globals.size<=H0.length
 k0:H0[k]?=some o0
 hk:σ k=some D
 hD:H[D]?=some o0
 pl:plO o0=true
 obj:∀(id:Nat) (o:ab),id≠k->H0[id]?=some o->o = .dead∨∃cs,o = .cells false 0 cs
 ne:∀(id:Nat) (cs:List Value),H0[id]?=some (.cells false 0 cs)->σ id≠some D
 rd:∀(id id':Nat) (cs:List Value),σ id=some id'->H0[id]?=some (.cells false 0 cs)->∃own z,H[id']?=some (.cells own z (cs.map (rn σ d)))
theorem kr{Y ρ':Ren}{r:RI}{o:ab}{w:World}(hm:∀b m,Y.mem b=some m->ρ'.mem b=some m)(hp:plO o=true)(h:bh Y r o w):bh ρ' r o w:=by
 cases o with
 |cells own z cs =>
  cases own with
  |false=>cases hp
  |true =>
   obtain ⟨h1,h2,cs',ty,fz,h3,h4,h5,h6⟩:=h
   refine ⟨h1,h2,cs',ty,fz,h3,h4,h5,fun i v hv =>?_⟩
   obtain ⟨v',g1,g2⟩:=h6 i v hv
   have hp:cs.all (aJ 0)=true:=hp
   rw[List.all_eq_true]at hp
   exact ⟨v',g1,bc (Y:=ρ') (ρ':=Y) (fun i r hi=>absurd hi (Nat.not_lt_zero _)) hm (hp v (List.mem_of_getElem? hv)) g2⟩
 |map es =>
  obtain ⟨h1,es',h2,h3,h4⟩:=h
  refine ⟨h1,es',h2,h3,fun i k v hv =>?_⟩
  obtain ⟨e',g1,g2,g3⟩:=h4 i k v hv
  have hp:(es.all fun e=>cn 0 e.1&&cn 0 e.2)=true:=hp
  rw[List.all_eq_true]at hp
  have q:=hp _ (List.mem_of_getElem? hv)
  rw[Bool.and_eq_true]at q
  exact ⟨e',g1,fR (Y:=ρ') (ρ':=Y) (fun i r hi=>absurd hi (Nat.not_lt_zero _)) hm q.1 g2,fR (Y:=ρ') (ρ':=Y) (fun i r hi=>absurd hi (Nat.not_lt_zero _)) hm q.2 g3⟩
 |_=>cases hp
theorem ad.writes{f:FuncId}{args:List Value}{H0 H new:Heap}{v:Value}{σ:Nat->Option Nat}{d k D:Nat}{o0 o1:ab}(hp:uC P H0 H σ d k D o0)(h:ad P f args H0 [k] (Is v (H0.set k o1++new)))
  (h1p:plO o1=true) (hv:dj d v=true) (hv2:rn (bF H0.length) d v=v) (hn:new.all (fun o=>aZ d o&&o.owned)=true) (hn2:new.map (rno (bF H0.length) d)=new) :
  ad P f (args.map (rn σ d)) H [D] (Is (rn (dc H0.length H.length) d v) (H.set D o1++new.map (rno (dc H0.length H.length) d))):=by
 refine ⟨h.1,fun B Y w args' hr ha =>?_⟩
 let ρs:Ren:=⟨fun id=>(σ id).bind fun id'=>(Y id').map fun r=>if id=k then r else ⟨r.b,r.s,r.n,0,false⟩,Y.mem,fun F k=>(σ F).bind fun F'=>Y.g F' k⟩
 have hσ:∀id id' r,σ id=some id'->Y id'=some r->ρs id=some (if id=k then r else ⟨r.b,r.s,r.n,0,false⟩):=by
  intro id id' r h1 h2;show Option.bind _ _=_;rw[h1];show Option.map _ _=_;rw[h2];rfl
 have hσd:∀id id' r,σ id=some id'->Y id'=some r->∃r',ρs id=some r'/\r'.b=r.b/\r'.s=r.s/\(r'.own=false∨r'=r):=fun id id' r h1 h2=>by
  refine ⟨_,hσ _ _ _ h1 h2,?_⟩
  split
  ·exact ⟨rfl,rfl,.inr rfl⟩
  ·exact ⟨rfl,rfl,.inl rfl⟩
 have hσg:∀F F' k r,σ F=some F'->Y.g F' k=some r->ρs.g F k=some r:=by intro F F' k r h1 h2;show Option.bind _ _=_;rw[h1];exact h2
 have dH:∀{F k r},ρs.g F k=some r->∃F',σ F=some F'/\Y.g F' k=some r:=fun h=>Option.bind_eq_some_iff.1 h
 have pZ:∀{F:Nat} {z:Nat} {cs:List Value},H0[F]?=some (.fam z cs)->False:=fun {F z' cs} mh=>by
  by_cases e:F=k
  ·have:=mh;rw[e,hp.k0]at this;exact absurd (Option.some.inj this) ((gJ hp.pl).2.2.1 _ _)
  ·rcases hp.obj F _ e mh with h|⟨_,h⟩ <;> cases h
 have hnf:∀{F k r z cs},FM ρs H0 F k r z cs->False:=fun m=>pZ m.h
 have hsome:∀{id r},ρs id=some r->∃id' r0,σ id=some id'/\Y id'=some r0/\r=if id=k then r0 else ⟨r0.b,r0.s,r0.n,0,false⟩:=by
  intro id r h
  obtain ⟨id',h1,h2⟩:=Option.bind_eq_some_iff.1 h
  obtain ⟨r0,h3,h4⟩:=ba h2
  exact ⟨id',r0,h1,h3,h4.symm⟩
 have hsk:∀{r},ρs k=some r->Y D=some r:=fun {r} h=>by
  obtain ⟨id',r0,h1,h2,h3⟩:=hsome h
  rw[if_pos rfl]at h3
  subst h3
  rw[hp.hk]at h1;cases h1;exact h2
 have hown:∀(id:Nat) (o:ab),H0[id]?=some o->o.owned=true->id=k:=by
  intro id o h1 h2
  by_cases e:id=k
  ·exact e
  ·rcases hp.obj id o e h1 with rfl|⟨cs,rfl⟩ <;> cases h2
 have hDo:o0.owned=true:=(gJ hp.pl).1
 have hDa:o0.alive=true:=(gJ hp.pl).2.1
 have hDf:=(gJ hp.pl).2.2.1
 have Jw:o1.owned=true:=(gJ h1p).1
 have h1a:o1.alive=true:=(gJ h1p).2.1
 have h1f:=(gJ h1p).2.2.1
 have hoth:∀{id r o rD},id≠k->ρs id=some r->H0[id]?=some o->o.alive=true->Y D=some rD->rD.b≠r.b:=fun {id r o rD} e h1 h2 h3 h4=>by
  rcases hp.obj id o e h2 with rfl|⟨cs,rfl⟩
  ·cases h3
  ·obtain ⟨id',r0,k1,k2,rfl⟩:=hsome h1
   obtain ⟨own,z',g⟩:=hp.rd id id' cs k1 h2
   rw[if_neg e]
   exact hr.sep D id' rD r0 _ _ h4 k2 hp.hD g hDo rfl (fun q=>hp.ne id cs h2 (by rw[k1,q]))
 have hr0:Rel P B ρs H0 w:=by
  refine ⟨hr.bsize,fun g hg =>?_,fun id r h =>?_,fun id r h =>?_,fun id r o h1 h2 =>?_,fun id r o h1 h2 h3 =>?_,fun id1 id2 r1 r2 o1 o2 h1 h2 g1 g2 k1 k2 hne =>?_,fun b m hb=>⟨(hr.mem b m hb).1,fun id r o h1 h2 h3 =>?_⟩,
   ⟨fun F k r h=>by obtain ⟨F',k1,_⟩:=dH h;exact hp.dom _ _ k1,fun F k r h=>by obtain ⟨F',_,k2⟩:=dH h;exact hr.fam.lt _ _ _ k2,fun _ _ _ _ _ m=>(hnf m).elim,fun _ _ _ _ _ m=>(hnf m).elim,fun _ _ _ _ _ _ _ _ _ _ m=>(hnf m).elim,fun _ _ _ _ _ _ _ _ m=>(hnf m).elim,fun _ _ _ _ _ _ _ m=>(hnf m).elim,fun _ _ _ _ _ h=>(pZ h).elim⟩⟩
  ·obtain ⟨r,k1,k2,k3⟩:=hr.dS g hg
   refine ⟨_,hσ g g r (hp.dS g hg) k1,?_⟩
   split
   ·exact ⟨k2,k3⟩
   ·exact ⟨k2,k3⟩
  ·obtain ⟨id',r0,h1,_,_⟩:=hsome h;exact hp.dom _ _ h1
  ·obtain ⟨id',r0,_,h2,rfl⟩:=hsome h
   have:=hr.lt id' r0 h2
   split <;> exact this
  ·by_cases e:id=k
   ·subst e
    rw[hp.k0]at h2;cases h2
    exact kr (Y:=Y) (ρ':=ρs) (fun _ _ h=>h) hp.pl (hr.obj D r _ (hsk h1) hp.hD)
   ·obtain ⟨id',r0,k1,k2,rfl⟩:=hsome h1
    rw[if_neg e]
    rcases hp.obj id o e h2 with rfl|⟨cs,rfl⟩
    ·trivial
    ·obtain ⟨own,z,g⟩:=hp.rd id id' cs k1 h2
     obtain ⟨e1,e2,cs',ty,fz,hb,hnz,hfz,hcs⟩:=hr.obj _ _ _ k2 g
     refine ⟨rfl,rfl,cs',ty,fz,hb,hnz,fun h=>(by cases h),fun i x hx =>?_⟩
     obtain ⟨x',y1,y2⟩:=hcs i (rn σ d x) (by rw[List.getElem?_map,hx];rfl)
     exact ⟨x',y1,te hσd (fun _ _ h=>h) hσg d y2⟩
  ·obtain rfl:=hown id o h2 h3
   exact hr.base D r _ (hsk h1) hp.hD hDo
  ·obtain rfl:=hown id1 o1 g1 k1
   exact hoth (Ne.symm hne) h2 g2 k2 (hsk h1)
  ·obtain rfl:=hown id o h2 h3
   exact (hr.mem b m hb).2 D r _ (hsk h1) hp.hD hDo
 have ha0:VRl ρs args args'.toList:=⟨by have:=ha.1;simpa using this,fun i x x' a b=>te hσd (fun _ _ h=>h) hσg d (ha.2 i (rn σ d x) x' (by rw[List.getElem?_map,a];rfl) b)⟩
 refine (h.2 B ρs w args' hr0 ha0).mono ?_
 rintro e w' ⟨v1,v',ρ1,H1,rfl,hv',hpost,rfl,rfl⟩
 have hkl:k<H0.length:=(List.getElem?_eq_some_iff.1 hp.k0).1
 have hDl:D<H.length:=(List.getElem?_eq_some_iff.1 hp.hD).1
 have h1k:(H0.set k o1++new)[k]?=some o1:=by
  rw[List.getElem?_append_left (by simpa using hkl),List.getElem?_set_self hkl]
 have h1o:∀i,i<H0.length->i≠k->(H0.set k o1++new)[i]?=H0[i]? := fun i hi e=>by
  rw[List.getElem?_append_left (by simpa using hi),List.getElem?_set_ne (Ne.symm e)]
 have h1n:∀i,H0.length<=i->(H0.set k o1++new)[i]?=new[i-H0.length]? := fun i hi=>by
  rw[List.getElem?_append_right (by simpa using hi)];simp
 have mR:∀b,OB ρs H0 b->∃rD,Y D=some rD/\ρs k=some rD/\rD.b=b:=fun b h=>h.elim (fun ⟨id,r,o,h1,h2,h3,h4⟩=>by
   obtain rfl:=hown id o h2 h3
   exact ⟨r,hsk h1,h1,h4⟩) (fun ⟨_,_,_,_,_,m,_⟩=>(hnf m).elim)
 have hOB:∀b,OB ρs H0 b->OB Y H b:=fun b h=>by
  obtain ⟨rD,h1,_,h2⟩:=mR b h
  exact .inl ⟨D,rD,_,h1,hp.hD,hDo,h2⟩
 let ρ2:Ren:=⟨fun id=>if id<H.length then Y id else ρ1 (H0.length+(id-H.length)),ρ1.mem,fun F k=>if F<H.length then Y.g F k else ρ1.g (H0.length+(F-H.length)) k⟩
 let ρn:Ren:=⟨fun id=>if id<H0.length then none else ρ1 id,ρ1.mem,fun F k=>if F<H0.length then none else ρ1.g F k⟩
 have hn1:∀id id' r,bF H0.length id=some id'->ρ1 id'=some r->ρn id=some r:=by
  intro id id' r h1 h2
  unfold bF at h1
  split at h1
  ·cases h1
  ·rename_i hlt;cases h1;show (if _ then _ else _)=_;rw[if_neg hlt];exact h2
 have xK:∀F F' k r,bF H0.length F=some F'->ρ1.g F' k=some r->ρn.g F k=some r:=by
  intro F F' k r h1 h2
  unfold bF at h1
  split at h1
  ·cases h1
  ·rename_i hlt;cases h1;show (if _ then _ else _)=_;rw[if_neg hlt];exact h2
 have li:∀F k r,ρn.g F k=some r->∃F',dc H0.length H.length F=some F'/\ρ2.g F' k=some r:=by
  intro F k r h1
  have h1':(if F<H0.length then none else ρ1.g F k)=some r:=h1
  split at h1'
  ·cases h1'
  ·rename_i hlt
   refine ⟨_,if_neg hlt,?_⟩
   show (if _ then _ else _)=_
   rw[if_neg (by omega),show H0.length+(H.length+(F-H0.length)-H.length)=F by omega];exact h1'
 have rg:∀id r,ρn id=some r->∃id',dc H0.length H.length id=some id'/\ρ2 id'=some r:=by
  intro id r h1
  have h1':(if id<H0.length then none else ρ1 id)=some r:=h1
  split at h1'
  ·cases h1'
  ·rename_i hlt
   refine ⟨_,if_neg hlt,?_⟩
   show (if _ then _ else _)=_
   rw[if_neg (by omega),show H0.length+(H.length+(id-H0.length)-H.length)=id by omega];exact h1'
 have hext:Ren.le Y ρ2:=⟨fun id r h1=>by
  show (if _ then _ else _)=_
  rw[if_pos (hr.dom _ _ h1)];exact h1,hpost.ext.mem,fun F k r h1=>by
  show (if _ then _ else _)=_
  rw[if_pos (hr.fam.dom _ _ _ h1)];exact h1⟩
 have hnew:∀(k:Nat) (o:ab),new[k]?=some o->aZ d o=true/\o.owned=true/\rno (bF H0.length) d o=o:=by
  intro k o hk
  rw[List.all_eq_true]at hn
  have:=hn o (List.mem_of_getElem? hk)
  simp only[Bool.and_eq_true]at this
  refine ⟨this.1,this.2,?_⟩
  have h3:(new.map (rno (bF H0.length) d))[k]?=some o:=by rw[hn2];exact hk
  rw[List.getElem?_map,hk]at h3
  exact Option.some.inj h3
 have hoa:∀o:ab,o.owned=true->o.alive=true:=by intro o ho;cases o <;> first|rfl|cases ho
 have hfresh:∀id r o,H0.length<=id->ρ1 id=some r->new[id-H0.length]?=some o->w.heap.size<=r.b:=by
  intro id r o hid h1 h2
  have ho:o.owned=true:=(hnew _ _ h2).2.1
  rcases Nat.lt_or_ge r.b w.heap.size with hlt|hge
  ·obtain ⟨rD,k1,k2,k3⟩:=mR _ (hpost.ob r.b hlt (.inl ⟨id,r,o,h1,by rw[h1n id hid];exact h2,ho,rfl⟩))
   exact absurd k3 (hpost.rel.sep k id rD r _ o (hpost.ext _ _ k2) h1 h1k (by rw[h1n id hid];exact h2) Jw (hoa _ ho) (by omega))
  ·exact hge
 have p8:(H.set D o1++new.map (rno (dc H0.length H.length) d))[D]?=some o1:=by
  rw[List.getElem?_append_left (by simpa using hDl),List.getElem?_set_self hDl]
 have dp:∀id,id<H.length->id≠D->(H.set D o1++new.map (rno (dc H0.length H.length) d))[id]?=H[id]? := fun id hid e=>by
  rw[List.getElem?_append_left (by simpa using hid),List.getElem?_set_ne (Ne.symm e)]
 have hback:∀id o,id<H.length->(H.set D o1++new.map (rno (dc H0.length H.length) d))[id]?=some o->∃o',H[id]?=some o'/\o'.owned=o.owned/\o'.alive=o.alive:=fun id o hid h2=>by
  by_cases e:id=D
  ·subst e
   rw[p8]at h2;cases h2
   exact ⟨_,hp.hD,hDo.trans Jw.symm,hDa.trans h1a.symm⟩
  ·rw[dp id hid e]at h2;exact ⟨o,h2,rfl,rfl⟩
 have cR:∀id o',H.length<=id->(H.set D o1++new.map (rno (dc H0.length H.length) d))[id]?=some o'->∃o,new[id-H.length]?=some o/\o'=rno (dc H0.length H.length) d o/\aZ d o=true/\o.owned=true/\rno (bF H0.length) d o=o:=by
  intro id o' hid h2
  rw[List.getElem?_append_right (by simpa using hid),List.getElem?_map,List.length_set]at h2
  obtain ⟨o,a1,rfl⟩:=ba h2
  obtain ⟨x1,x2,x3⟩:=hnew _ _ a1
  exact ⟨o,a1,rfl,x1,x2,x3⟩
 have hvn:VR ρn v1 v':=by
  have:VR ρ1 (rn (bF H0.length) d v1) v':=by rw[hv2];exact hv'
  exact jx hn1 (fun _ _ h=>h) xK d this
 refine ⟨_,v',ρ2,_,rfl,sL rg (fun _ _ h=>h) li d hv hvn,?_,rfl,rfl⟩
 have fr:∀id r o,¬ id<H.length->ρ1 (H0.length+(id-H.length))=some r->(H.set D o1++new.map (rno (dc H0.length H.length) d))[id]?=some o->w.heap.size<=r.b:=by
  intro id r o hid a b
  obtain ⟨o0,a1,_,_,_,_⟩:=cR id o (by omega) b
  exact hfresh _ r o0 (by omega) a (by rw[show H0.length+(id-H.length)-H0.length=id-H.length by omega];exact a1)
 have u:∀id,ρ2 id=if id<H.length then Y id else ρ1 (H0.length+(id-H.length)):=fun _=>rfl
 have Jh:∀id r o,Y id=some r->H[id]?=some o->o.alive=true->id≠D->¬ OB ρs H0 r.b:=fun id r o a b c e q=>by
  obtain ⟨rD,k1,_,k3⟩:=mR _ q
  exact hr.sep D id rD r _ o k1 a hp.hD b hDo c (Ne.symm e) k3
 have jm:∀{F k r z' cs},ρ2.g F k=some r->(H.set D o1++new.map (rno (dc H0.length H.length) d))[F]?=some (.fam z' cs)->Y.g F k=some r/\H[F]?=some (.fam z' cs):=fun {F k r z' cs} mg mh=>by
  have h1:(if F<H.length then Y.g F k else ρ1.g (H0.length+(F-H.length)) k)=some r:=mg
  rcases Nat.lt_or_ge F H.length with h|h
  ·rw[if_pos h]at h1
   refine ⟨h1,?_⟩
   by_cases e:F=D
   ·have:=mh;rw[e,p8]at this;exact absurd (Option.some.inj this) (h1f _ _)
   ·rw[<- dp F h e];exact mh
  ·obtain ⟨o,_,e,g1,g2,_⟩:=cR F _ h mh
   cases o <;> first|(cases g1;done)|(cases g2;done)|(cases e;done)
 have hfm:∀{F k r z' cs},FM ρ2 (H.set D o1++new.map (rno (dc H0.length H.length) d)) F k r z' cs->FM Y H F k r z' cs:=fun m=>⟨(jm m.g m.h).1,(jm m.g m.h).2,m.a⟩
 have jF:iL B ρ2 (H.set D o1++new.map (rno (dc H0.length H.length) d)) w':=by
  refine ⟨fun F k r h1 =>?_,fun F k r h1 =>?_,fun F k r z cs m=>hr.fam.base _ _ _ _ _ (hfm m),fun F k r z cs m=>(hr.fam.obj _ _ _ _ _ (hfm m)).mono hext (hpost.keep _ (hr.fam.lt _ _ _ (hfm m).g) (fun q =>?_)),
   fun F k r z cs F' k' r' z' cs' m m'=>hr.fam.sep _ _ _ _ _ _ _ _ _ _ (hfm m) (hfm m'),fun F k r z cs id r' o m h1 h2 h3 =>?_,fun F k r z cs b m' m hb =>?_,fun F k r cs h1 h2=>hr.fam.cnt F k r cs (jm h1 h2).1 (jm h1 h2).2⟩
  ·have h1:(if F<H.length then Y.g F k else ρ1.g (H0.length+(F-H.length)) k)=some r:=h1
   rcases Nat.lt_or_ge F H.length with h|h
   ·simp;omega
   ·rw[if_neg (by omega)]at h1
    have:=hpost.rel.fam.dom _ _ _ h1
    simp at this ⊢;omega
  ·have h1:(if F<H.length then Y.g F k else ρ1.g (H0.length+(F-H.length)) k)=some r:=h1
   rcases Nat.lt_or_ge F H.length with h|h
   ·rw[if_pos h]at h1
    exact Nat.lt_of_lt_of_le (hr.fam.lt _ _ _ h1) hpost.size
   ·rw[if_neg (by omega)]at h1
    exact hpost.rel.fam.lt _ _ _ h1
  ·obtain ⟨rD,k1,_,k3⟩:=mR _ q
   exact hr.fam.sep2 _ _ _ _ _ D rD _ (hfm m) k1 hp.hD hDa k3
  ·rw[u]at h1
   rcases Nat.lt_or_ge id H.length with h|h
   ·rw[if_pos h]at h1
    obtain ⟨o',b1,_,b3⟩:=hback id o h h2
    exact hr.fam.sep2 _ _ _ _ _ id r' o' (hfm m) h1 b1 (by rw[b3];exact h3)
   ·rw[if_neg (by omega)]at h1
    have:=fr id r' o (by omega) h1 h2
    have:=hr.fam.lt _ _ _ (hfm m).g
    omega
  ·have hb:ρ1.mem b=some m':=hb
   rcases hpost.frz b m' hb with g|g|g
   ·exact hr.fam.mem _ _ _ _ _ b m' (hfm m) g
   ·have:=hr.fam.lt _ _ _ (hfm m).g;omega
   ·obtain ⟨rD,k1,_,k3⟩:=mR _ g
    exact fun q=>hr.fam.sep2 _ _ _ _ _ D rD _ (hfm m) k1 hp.hD hDa (k3.trans q.symm)
 refine ⟨⟨Nat.le_trans hr.bsize hpost.size,fun g hg =>?_,fun id r h1 =>?_,fun id r h1 =>?_,fun id r o h1 h2 =>?_,fun id r o h1 h2 h3 =>?_,fun id1 id2 r1 r2 o1 o2 h1 h2 g1 g2 k1 k2 hne =>?_,fun b m hb=>⟨(hpost.rel.mem b m hb).1,fun id r o h1 h2 h3 =>?_⟩,jF⟩,hext,fun id r h1 h2 =>?_,by simp,fun id h1 h2=>dp id h1 (fun e=>h2 (by rw[e];exact List.mem_singleton.2 rfl)),hpost.size,fun b h1 h2=>hpost.keep b h1 (fun q=>h2 (hOB b q)),fun b h1 h2 =>?_,hpost.os,hpost.tape,hpost.output,fun b m hb=>(hpost.frz b m hb).imp id fun h=>h.imp id (hOB b),hpost.drawn,fun F k r h1 h2 => .inl (by
  have h1:(if F<H.length then Y.g F k else ρ1.g (H0.length+(F-H.length)) k)=some r:=h1
  rcases Nat.lt_or_ge F H.length with h|h
  ·rw[if_pos h,h2]at h1;cases h1
  ·exact h)⟩
 ·obtain ⟨r,k1,k2,k3⟩:=hr.dS g hg;exact ⟨r,hext _ _ k1,k2,k3⟩
 ·rw[u]at h1
  split at h1
  ·rw[ao,List.length_set];omega
  ·rename_i hid
   have:=hpost.rel.dom _ _ h1
   rw[ao,List.length_set]at this
   rw[ao,List.length_map,List.length_set];omega
 ·rw[u]at h1
  split at h1
  ·exact Nat.lt_of_lt_of_le (hr.lt _ _ h1) hpost.size
  ·exact hpost.rel.lt _ _ h1
 ·rw[u]at h1
  split at h1
  ·rename_i hid
   by_cases e:id=D
   ·subst e
    rw[p8]at h2;cases h2
    have hk1:ρs k=some r:=by have:=hσ _ _ _ hp.hk h1;rw[if_pos rfl]at this;exact this
    exact kr (Y:=ρ1) (ρ':=ρ2) (fun _ _ h=>h) h1p (hpost.rel.obj k r _ (hpost.ext _ _ hk1) h1k)
   ·rw[dp id hid e]at h2
    cases hal:o.alive with
    |true=>exact (hr.obj _ _ _ h1 h2).mono hext (hpost.keep _ (hr.lt _ _ h1) (Jh id r o h1 h2 hal e))
    |false=>cases o <;> first|trivial|cases hal
  ·rename_i hid
   obtain ⟨o0,a1,rfl,a3,a4,a5⟩:=cR id o (by omega) h2
   have h6:=hpost.rel.obj _ _ _ h1 (show _=some o0 by rw[h1n _ (by omega),show H0.length+(id-H.length)-H0.length=id-H.length by omega];exact a1)
   rw[<- a5]at h6
   have hd:rno (bF H0.length) d o0 = .dead->o0 = .dead:=fun he=>by rw[a5]at he;exact he
   exact lR rg (fun _ _ h=>h) li a3 (jb hn1 (fun _ _ h=>h) xK h6 hd)
 ·rw[u]at h1
  split at h1
  ·rename_i hid
   obtain ⟨o',b1,b2,_⟩:=hback id o hid h2
   exact hr.base _ _ _ h1 b1 (by rw[b2];exact h3)
  ·rename_i hid
   obtain ⟨o0,a1,_,a3,a4,_⟩:=cR id o (by omega) h2
   exact hpost.rel.base _ _ _ h1 (show _=some o0 by rw[h1n _ (by omega),show H0.length+(id-H.length)-H0.length=id-H.length by omega];exact a1) a4
 ·rw[u]at h1 h2
  by_cases c1':id1<H.length
  ·rw[if_pos c1']at h1
   obtain ⟨p1,b1,b2,_⟩:=hback id1 o1 c1' g1
   by_cases c2:id2<H.length
   ·rw[if_pos c2]at h2
    obtain ⟨p2,d1,_,d3⟩:=hback id2 o2 c2 g2
    exact hr.sep id1 id2 r1 r2 p1 p2 h1 h2 b1 d1 (by rw[b2];exact k1) (by rw[d3];exact k2) hne
   ·rw[if_neg c2]at h2
    have:=hr.lt _ _ h1
    have:=fr id2 r2 o2 c2 h2 g2
    omega
  ·rw[if_neg c1']at h1
   have f1:=fr id1 r1 o1 c1' h1 g1
   by_cases c2:id2<H.length
   ·rw[if_pos c2]at h2
    have:=hr.lt _ _ h2
    omega
   ·rw[if_neg c2]at h2
    obtain ⟨p1,a1,_,_,a4,_⟩:=cR id1 o1 (by omega) g1
    obtain ⟨p2,b1,_,_,b4,_⟩:=cR id2 o2 (by omega) g2
    exact hpost.rel.sep _ _ r1 r2 p1 p2 h1 h2 (by rw[h1n _ (by omega),show H0.length+(id1-H.length)-H0.length=id1-H.length by omega];exact a1) (by rw[h1n _ (by omega),show H0.length+(id2-H.length)-H0.length=id2-H.length by omega];exact b1) a4 (hoa _ b4) (by omega)
 ·rw[u]at h1
  split at h1
  ·rename_i hid
   obtain ⟨o',b1,b2,_⟩:=hback id o hid h2
   intro he
   rcases hpost.frz b m hb with g|g|g
   ·exact (hr.mem b m g).2 id r o' h1 b1 (by rw[b2];exact h3) he
   ·have:=hr.lt _ _ h1;omega
   ·obtain ⟨rD,k1,k2,k3⟩:=mR _ g
    exact (hpost.rel.mem b m hb).2 k rD _ (hpost.ext _ _ k2) h1k Jw k3
  ·rename_i hid
   obtain ⟨o0,a1,_,a3,a4,_⟩:=cR id o (by omega) h2
   exact (hpost.rel.mem b m hb).2 _ r o0 h1 (by rw[h1n _ (by omega),show H0.length+(id-H.length)-H0.length=id-H.length by omega];exact a1) a4
 ·rw[u]at h1
  split at h1
  ·rw[h2]at h1;cases h1
  ·omega
 ·rcases h2 with ⟨id,r,o,k1,k2,k3,k4⟩|⟨F,k,r,z,cs,m,e⟩
  ·rw[u]at k1
   split at k1
   ·rename_i hid
    obtain ⟨o',b1,b2,_⟩:=hback id o hid k2
    exact .inl ⟨id,r,o',k1,b1,by rw[b2];exact k3,k4⟩
   ·rename_i hid
    have:=fr id r o hid k1 k2
    omega
  ·exact .inr ⟨F,k,r,z,cs,hfm m,e⟩
end
end Go.K
namespace Go.K
noncomputable section
attribute [local irreducible] vF
variable {P:Program}
def lW(n0 d k:Nat)(o:ab)(v:Value)(new:List (Bool×ab)):KV:=fun v' H' h' =>
 match h' with
 | .again σ=>uZ n0 (n0+new.length) [(k,true,o)] σ=true/\wk v' (rn (sg n0 σ) d v)/\wA H' n0 (sg n0 σ) d [(k,true,o)]/\oV H' n0 (sg n0 σ) d n0 new
 |_=>False
theorem ad.G5{f:FuncId}{args:List Value}{H0:HT}{v:Value}{new:List (Bool×ab)}{d k:Nat}{o:ab}(hk:k<H0.n)
  (h:ad P f args H0.list [k] (fun v' H' => ∃(H2:HT) (σ:List (Nat×Nat)),H'=H2.list/\uZ H0.n (H0.n+new.length) [(k,true,o)] σ=true/\wk v' (rn (sg H0.n σ) d v)/\wA H2 H0.n (sg H0.n σ) d [(k,true,o)]/\oV H2 H0.n (sg H0.n σ) d H0.n new)) :
  ad P f args H0.list [k] (Is v (H0.list.set k o++new.map (·.2))):=by
 refine ⟨h.1,fun B Y w args' hr ha=>(h.2 B Y w args' hr ha).mono ?_⟩
 rintro e w' ⟨v',r,ρ',H',rfl,hv,hp,H2,σ,rfl,hs,hw,hc,hn⟩
 have hm:f8 k [k]=true:=by unfold f8;rw[Nat.beq_refl];rfl
 have hb:Nat.blt k H0.n=true:=Nat.ble_eq_true_of_le hk
 have hh:p9 0 ⟨fun _=>junk,.leaf⟩ H2 H0 d [k] σ [] [(k,true,o)] new []:=by
  refine ⟨?_,trivial,hc,hn,trivial⟩
  simp only[Bool.and_eq_true]
  refine ⟨hs,?_,rfl,?_⟩
  ·show cond (f8 k [k]) (cond (Nat.blt k H0.n) true false) false=true
   rw[hm,hb];rfl
  ·show cond (cond (Nat.beq k k ||false) true (List.any [] _)) true false=true
   rw[Nat.beq_refl];rfl
 have he:=jo hh
 have hlist:(jA H0 [(k,true,o)] new []).list=H0.list.set k o++new.map (·.2):=by
  have key:∀(l:List (Bool×ab)) (H:HT),(l.foldl (fun H p=>H.push p.2) H).list=H.list++l.map (·.2):=by
   intro l
   induction l with
   |nil=>intro H;simp
   |cons p l ih=>intro H;rw[List.foldl_cons,ih,HT.bQ];simp
  have:=key new (H0.set k o)
  rw[HT.bH]at this
  exact this
 rw[hlist]at he
 obtain ⟨q1,_⟩:=he.post hr hp
 refine ⟨v,r,bW ρ' (sg H0.n σ),_,rfl,?_,q1,rfl,rfl⟩
 have hσ:∀id id' r,sg H0.n σ id=some id'->ρ' id'=some r->(bW ρ' (sg H0.n σ)) id=some r:=fun id id' r h1 h2=>by show Option.bind _ _=_;rw[h1];exact h2
 exact jx (ρ':=ρ') (Y:=bW ρ' (sg H0.n σ)) hσ (fun _ _ h=>h) (fun F F' k r h1 h2=>by show Option.bind _ _=_;rw[h1];exact h2) d (hw _ _ hv)
def fO(G:Nat)(o0:ab)(css:List (List Value)):HT:=css.foldl (fun H cs=>H.push (.cells false 0 cs)) (HT.push ⟨G,.leaf⟩ o0)
abbrev dq(G z:Nat)(c0:List Value)(css:List (List Value)):HT:=fO G (.cells true z c0) css
def jQ(G D:Nat)(ids:List Nat)(i:Nat):Option Nat:=if i<G then some i else if i=G then some D else ids[i-G-1]?
theorem oM(G:Nat)(o0:ab)(css:List (List Value)):(fO G o0 css).n=G+1+css.length:=(jc G css (HT.push ⟨G,.leaf⟩ o0) 0).1
theorem f3(G:Nat)(o0:ab)(css:List (List Value))(id:Nat):(fO G o0 css).list[id]?=if id<G then some .dead else if id=G then some o0 else (css[id-G-1]?).map (fun cs=>ab.cells false 0 cs):=by
 rw[show (fO G o0 css).list[id]?=_ from (jc G css (HT.push ⟨G,.leaf⟩ o0) id).2]
 show (if id<G+1 then _ else _)=_
 have hl:(HT.list ⟨G,.leaf⟩).length=G:=HT.length _
 have h0:∀i,i<G->(HT.list ⟨G,.leaf⟩)[i]?=some .dead:=fun i hi=>by
  have:=fZ G [] i
  rw[if_pos hi]at this
  exact this
 rw[HT.bQ]
 by_cases h:id<G
 ·rw[if_pos (by omega),if_pos h,List.getElem?_append_left (by omega)]
  exact h0 id h
 ·rw[if_neg h]
  by_cases e:id=G
  ·subst e
   rw[if_pos (by omega),if_pos rfl,List.getElem?_append_right (by omega),hl,Nat.sub_self];rfl
  ·rw[if_neg (by omega),if_neg e]
   show Option.map _ css[id-(G+1)]?=_
   rw[show id-(G+1)=id-G-1 by omega]
theorem u9(G z:Nat)(c0:List Value)(css:List (List Value)):(dq G z c0 css).n=G+1+css.length:=oM G _ css
theorem iu(G z:Nat)(c0:List Value)(css:List (List Value))(id:Nat):(dq G z c0 css).list[id]?=if id<G then some .dead else if id=G then some (.cells true z c0) else (css[id-G-1]?).map (fun cs=>ab.cells false 0 cs):=f3 G _ css id
theorem Md{mixed:Bool}{mask:Nat}{dm:Value->MS}{rounds:Nat}(ft:gy P mixed mask)(gq:mixed=true->P.follows .mixedOrders=true)(n:Nat){f:FuncId}{args:List Value}{css:List (List Value)}{h:Hint}{v:Value}{new:List (Bool×ab)}{o0 o1:ab}
  (hc:vF P mask dm rounds mixed n true f args (fO P.globals.size o0 css) (some [P.globals.size]) h (lW (fO P.globals.size o0 css).n 3 P.globals.size o1 v new))
  (hp0:plO o0=true) (hp1:plO o1=true)
  (hv:dj 3 v=true) (hv2:rn (bF (P.globals.size+1+css.length)) 3 v=v) (hn:(new.map (·.2)).all (fun o=>aZ 3 o&&o.owned)=true) (hn2:(new.map (·.2)).map (rno (bF (P.globals.size+1+css.length)) 3)=new.map (·.2))
  {H:Heap} {D:Nat} (hD:H[D]?=some o0) (ids:List Nat) (hl:ids.length=css.length) (gu:∀(k:Nat) (cs:List Value),css[k]?=some cs->∃id own z,ids[k]?=some id/\H[id]?=some (ab.cells own z (cs.map (rn (jQ P.globals.size D ids) 3)))) (hne:D ∉ ids) :
  ad P f (args.map (rn (jQ P.globals.size D ids) 3)) H [D] (Is (rn (dc (P.globals.size+1+css.length) H.length) 3 v) (H.set D o1++(new.map (·.2)).map (rno (dc (P.globals.size+1+css.length) H.length) 3))):=by
 have e:(fO P.globals.size o0 css).list.length=P.globals.size+1+css.length:=by rw[HT.length,oM]
 have hkn:P.globals.size<(fO P.globals.size o0 css).n:=by rw[oM];omega
 have h1:ad P f args (fO P.globals.size o0 css).list [P.globals.size] (Is v ((fO P.globals.size o0 css).list.set P.globals.size o1++new.map (·.2))):=by
  refine ad.G5 (d:=3) hkn (((lN ft gq n).1 f args _ (some [P.globals.size]) h _ hc).post ?_)
  rintro v' H' ⟨H2,h2,e,hk⟩
  cases h2 with
  |again σ=>exact ⟨H2,σ,e,hk⟩
  |_=>exact hk.elim
 have hp:uC P (fO P.globals.size o0 css).list H (jQ P.globals.size D ids) 3 P.globals.size D o0:=by
  refine ⟨fun g hg=>if_pos hg,fun id id' h =>?_,by rw[e];omega,?_,?_,hD,hp0,fun id o hne h =>?_,fun id cs h =>?_,fun id id' cs h1 h2 =>?_⟩
  ·rw[e]
   unfold jQ at h
   split at h
   ·omega
   ·split at h
    ·omega
    ·have:=(List.getElem?_eq_some_iff.1 h).1;omega
  ·rw[f3,if_neg (Nat.lt_irrefl _),if_pos rfl]
  ·show (if _ then _ else _)=_
   rw[if_neg (Nat.lt_irrefl _),if_pos rfl]
  ·rw[f3]at h
   split at h
   ·cases h;exact .inl rfl
   ·try rw[if_neg hne]at h
    obtain ⟨cs,_,rfl⟩:=ba h;exact .inr ⟨cs,rfl⟩
  ·rw[f3]at h
   split at h
   ·cases h
   ·rename_i h5
    split at h
    ·exact absurd (Option.some.inj h) ((gJ hp0).2.2.2 _ _)
    ·rename_i h6
     unfold jQ
     rw[if_neg h5,if_neg h6]
     exact fun q=>hne (List.mem_of_getElem? q)
  ·rw[f3]at h2
   split at h2
   ·cases h2
   ·rename_i h5
    split at h2
    ·exact absurd (Option.some.inj h2) ((gJ hp0).2.2.2 _ _)
    ·rename_i h6
     obtain ⟨cs',a1,a2⟩:=ba h2
     cases a2
     unfold jQ at h1
     rw[if_neg h5,if_neg h6]at h1
     obtain ⟨id2,own,z2,b1,b2⟩:=gu _ _ a1
     rw[h1]at b1;cases b1
     exact ⟨own,z2,b2⟩
 have:=ad.writes hp h1 hp1 hv (by rw[e];exact hv2) hn (by rw[e];exact hn2)
 rw[e]at this
 exact this
end
end Go.K
namespace Go.Proofs.YtbgfjemppjhmjaaGreat
noncomputable section
def dm(imp:Nat):Value->MS
 | .func (.func f) _ _=>cond (Nat.testBit imp f) none (some [])
 | .func (.yield _) _ _=>none
 |_=>some []
abbrev af(b:Bool):List Value:=[.bool b]
abbrev ai(x:Int):List Value:=[.int .i64 x]
def dE{α:Type}(f:Nat->α)(n:Nat):List α:=(List.range n).map f
abbrev nI(x:Int):Value:=.int .i64 x
abbrev slQ(i k n:Nat):Value:=.slice (some ⟨i,0,some k⟩) n n
abbrev ar(o:ab):Prop:=(some o:Option ab)=some o
abbrev nk(n:Nat)(o:ab):Prop:=(some o:Option ab)=some o/\aj n o=true
abbrev wkR(v:Value):Prop:=wk v v
theorem dC{α:Type}(f:Nat->α)(n:Nat):(dE f n).length=n:=by simp[dE]
theorem gQ{α:Type}(f:Nat->α)(n:Nat):dE f (n+1)=dE f n ++ [f n]:=by simp[dE,List.range_succ]
theorem dD{α:Type}{f:Nat->α}{n k:Nat}{d:α}(h:k<n):(dE f n).getD k d=f k:=by simp[dE,List.getD_eq_getElem?_getD,List.getElem?_range h]
theorem KD{f:FuncId}{args:List Value}{css:List (List Value)}{h:Hint}{v:Value}(hc:vF prog msk (dm 0) 100000 true 40 true f args (bA 0 css) (some []) h (fun v' _ _=>v'=v))(kb:∀cs∈css,cs.all (aJ 0)=true)(hv:cn 0 v=true)
  {H:Heap} (ids:List Nat) (hl:ids.length=css.length) (gu:∀(k:Nat) (cs:List Value),css[k]?=some cs->∃id own z,ids[k]?=some id/\H[id]?=some (ab.cells own z cs)) :
  ad prog f (args.map (rn (sgR 0 ids) 5)) H [] (Is v H):=by
 have:=Mf (H:=H) iw mixed 40 (v:=v) kb (by rw[dx];exact hc) hv ids hl gu
 rw[dx]at this;exact this
theorem KE{f:FuncId}{args:List Value}{css:List (List Value)}{h:Hint}{v:Value}{new:List (Bool×ab)}(hc:vF prog msk (dm 0) 100000 true 40 true f args (bA 0 css) (some []) h (ca (bA 0 css).n 3 v new))(kb:∀cs∈css,cs.all (aJ 0)=true)
  (hv:dj 3 v=true) (hv2:rn (bF (0+css.length)) 3 v=v) (hn:(new.map (·.2)).all (fun o=>aZ 3 o&&o.owned)=true) (hn2:(new.map (·.2)).map (rno (bF (0+css.length)) 3)=new.map (·.2))
  {H:Heap} (ids:List Nat) (hl:ids.length=css.length) (gu:∀(k:Nat) (cs:List Value),css[k]?=some cs->∃id own z D,ids[k]?=some id/\H[id]?=some (ab.cells own z (cs++D))) :
  ad prog f (args.map (rn (sgR 0 ids) 3)) H [] (Is (rn (dc (0+css.length) H.length) 3 v) (H++(new.map (·.2)).map (rno (dc (0+css.length) H.length) 3))):=by
 have:=Me (H:=H) iw mixed 40 (v:=v) (new:=new) kb (by rw[dx];exact hc) hv (by rw[dx];exact hv2) hn (by rw[dx];exact hn2) ids hl gu
 rw[dx]at this;exact this
theorem Mg{f:FuncId}{args:List Value}{css:List (List Value)}{h:Hint}{v:Value}{new:List (Bool×ab)}(hc:vF prog msk (dm 0) 100000 true 40 true f args (bA 0 css) (some []) h (ca (bA 0 css).n 3 v new))(kb:∀cs∈css,cs.all (aJ 0)=true)
  (hv:dj 3 v=true) (hv2:rn (bF (0+css.length)) 3 v=v) (hn:(new.map (·.2)).all (fun o=>aZ 3 o&&o.owned)=true) (hn2:(new.map (·.2)).map (rno (bF (0+css.length)) 3)=new.map (·.2))
  {H:Heap} (ids:List Nat) (hl:ids.length=css.length) (gu:∀(k:Nat) (cs:List Value),css[k]?=some cs->∃id own z,ids[k]?=some id/\H[id]?=some (ab.cells own z cs)) :
  ad prog f (args.map (rn (sgR 0 ids) 3)) H [] (Is (rn (dc (0+css.length) H.length) 3 v) (H++(new.map (·.2)).map (rno (dc (0+css.length) H.length) 3))):=KE hc kb hv hv2 hn hn2 ids hl (Lb gu)
theorem Cf{H:Heap}{id:Nat}{own:Bool}{z:Nat}{cs:List Value}(hid:H[id]?=some (.cells own z cs)):∀(k:Nat) (c:List Value),[cs][k]?=some c->∃id' own z,[id][k]?=some id'/\H[id']?=some (ab.cells own z c):=by
 intro k c h
 match k with
 |0=>cases h;exact ⟨id,own,z,rfl,hid⟩
theorem Cg{cs:List Value}(h:cs.all (aJ 0)=true):∀c ∈ [cs],c.all (aJ 0)=true:=by intro c hc;rw[List.mem_singleton.1 hc];exact h
theorem KC{f:FuncId}{args:List Value}{css:List (List Value)}{h:Hint}{v:Value}(hc:vF prog msk (dm 0) 100000 true 40 true f args (bA 0 css) (some []) h (fun v' _ _=>v'=v))(hv:cn 0 v=true)
  {H:Heap} (ids:List Nat) (hl:ids.length=css.length) (gu:∀(k:Nat) (cs:List Value),css[k]?=some cs->∃id own z,ids[k]?=some id/\H[id]?=some (ab.cells own z (cs.map (rn (sgR 0 ids) 3)))) (h3:dj 3 v=true:=by rfl) (h4:∀σ,rn σ 3 v=v:=by intro σ;rfl) :
  ad prog f (args.map (rn (sgR 0 ids) 3)) H [] (Is v H):=by
 have:=KB (H:=H) iw mixed 40 (v:=v) (by rw[dx];exact hc) hv ids hl (by rw[dx];exact gu) h3 h4
 rw[dx]at this;exact this
theorem HF{f:FuncId}{args:List Value}{c:List Value}{h:Hint}(v:Nat->Value){z:Nat}{cs:List Value}
    (hc:vF prog msk (dm 0) 100000 true 40 true f args (bA 0 [c]) (some []) h (ca (bA 0 [c]).n 3 (v 1) [(true,.cells true z cs)]))
    (hp0:c.all (aJ 0)=true) (hp:∀n,cs.all (aJ n)=true) (h1:dj 3 (v 1)=true) (h2:rn (bF (0+1)) 3 (v 1)=v 1) (h3:∀j,rn (dc (0+1) j) 3 (v 1)=v j)
    {H:Heap} {id:Nat} {own:Bool} {z2:Nat} (hid:H[id]?=some (.cells own z2 c)) {args':List Value} (ha:args.map (rn (sgR 0 [id]) 3)=args') :
    ad prog f args' H [] (Is (v H.length) (H ++ [.cells true z cs])):=by
  subst ha
  have key:=Mg (css:=[c]) (v:=v 1) (new:=[(true,.cells true z cs)]) hc (Cg hp0) h1 h2
    (by show ((aZ 3 (.cells true z cs) && true) && true) = true
        rw[Bool.and_true,Bool.and_true];exact (iP (σ:=fun _=>none) (d:=0) (hp 0)).2)
    (congrArg (fun q=>[ab.cells true z q]) (iP (d:=0) (hp 0)).1) (H:=H) [id] rfl (Cf hid)
  have e2:(List.map (fun x:Bool×ab=>x.2) [(true,ab.cells true z cs)]).map (rno (dc (0 + [c].length) H.length) 3)=[.cells true z cs] :=
    congrArg (fun q=>[ab.cells true z q]) (iP (d:=0) (hp 0)).1
  rw[e2,show rn (dc (0 + [c].length) H.length) 3 (v 1)=v H.length from h3 _]at key
  exact key
theorem az(n:Nat)(l:List Bool):(l.flatMap af).all (aJ n)=true:=je (fun _=>rfl) l
theorem kF{α:Type}{f:α->List Value}{n:Nat}(hf:∀x,(f x).length=n)(xs:List α):0+xs.length*n<=(xs.flatMap f).length:=by rw[aP hf];omega
theorem dd{α:Type}{L M:List α}{x:α}{id:Nat}(hM:M=L ++ [x]):wk (.slice (some ⟨id,0,none⟩) (L.length+1) (L.length+1)) (.slice (some ⟨id,0,some 1⟩) M.length M.length):=by
 have:M.length=L.length+1:=by rw[hM,ao];rfl
 rw[this];exact iq (by omega)
theorem de{α:Type}{f:α->List Value}{n:Nat}(hf:∀x,(f x).length=n){L M:List α}{x:α}{c:List Value}{own:Bool}(hM:M=L ++ [x])(hc:f x=c) :
  (some (ab.cells own n (List.take (L.length*n) (List.drop 0 (L.flatMap f))++List.take (1*n) (List.drop 0 c))):Option ab)=some (.cells own n (M.flatMap f)):=by
 subst hc
 rw[hM,<- Bf hf L x rfl,List.drop_zero,List.drop_zero,List.take_of_length_le (l:=f x) (by rw[hf];omega),List.take_of_length_le (by rw[aP hf];omega)]
theorem bU(b:Bool):(af b).length=1:=rfl
theorem bg(x:Int):(ai x).length=1:=rfl
theorem am(n:Nat)(l:List Int):(l.flatMap ai).all (aJ n)=true:=je (fun _=>rfl) l
theorem ip{a:List Bool}{k:Nat}(h:k<a.length){off:Nat}(ho:off=k):(a.flatMap af)[off]?=some (.bool (a.getD k false)):=oo (c:=0) bU h (by omega) rfl
theorem cL{a:List Int}{k:Nat}(h:k<a.length){off:Nat}(ho:off=k):(a.flatMap ai)[off]?=some (.int .i64 (a.getD k 0)):=oo (c:=0) bg h (by omega) rfl
theorem oD:∀(n o A B:List Value),o.length=n.length->bE (A++(o++B)) A.length n=A++(n++B)
 | [],[],A,B,_=>rfl
 |v :: n,w :: o,A,B,h=>by
  have e:(A++(w :: o++B)).set A.length v=(A ++ [v])++(o++B):=by simp
  have:=oD n o (A ++ [v]) B (by simpa using h)
  simp only[bE]
  rw[e]
  simpa using this
theorem fw{α:Type}{f:α->List Value}{m:Nat}(hf:∀x,(f x).length=m)(xs:List α)(k:Nat)(hk:k<xs.length)(y:α):bE (xs.flatMap f) (k*m) (f y)=(xs.set k y).flatMap f:=by
 have e1:xs=xs.take k++xs[k] :: xs.drop (k+1):=by rw[<- List.drop_eq_getElem_cons hk,List.take_append_drop]
 have e2:xs.set k y=xs.take k++y :: xs.drop (k+1):=by rw[List.set_eq_take_append_cons_drop,if_pos hk]
 have hl:((xs.take k).flatMap f).length=k*m:=by rw[aP hf,List.length_take,Nat.min_eq_left (Nat.le_of_lt hk)]
 rw[e2]
 conv=>lhs;rw[e1]
 rw[List.flatMap_append,List.flatMap_cons,List.flatMap_append,List.flatMap_cons,<- hl]
 exact oD _ _ _ _ (by rw[hf,hf])
theorem b8{α:Type}{l:List α}{d:α}{x:Nat}(h:x<l.length):l.getD x d∈l:=by
 rw[List.getD_eq_getElem?_getD,List.getElem?_eq_getElem h];exact List.getElem_mem h
theorem pf(n:Nat):dX [.int .i64 0] n=(List.replicate n (0:Int)).flatMap ai:=by
 induction n with
 |zero=>rfl
 |succ n ih=>show .int .i64 0 :: dX [.int .i64 0] n=_;rw[ih];rfl
theorem ff{b:Bool}(h:(!b)=true):b=false:=by cases b <;> first|rfl|cases h
theorem bK{b:Bool}(h:(!b)=false):b=true:=by cases b <;> first|rfl|cases h
def oO:List (List Value)->Prop
 | [] =>True
 |c :: css=>c.all (aJ 0)=true/\oO css
theorem kR:∀{css:List (List Value)},oO css->∀c∈css,c.all (aJ 0)=true
 | [],_,c,h=>by cases h
 |d :: css,hp,c,h=>by
  rcases List.mem_cons.1 h with rfl|h
  ·exact hp.1
  ·exact kR hp.2 c h
def zP(H:Heap):List Nat->List (List Value)->Prop
 | [],[] =>True
 |id :: ids,c :: css=>(∃own z,H[id]?=some (.cells own z c))/\zP H ids css
 |_,_=>False
theorem sx{H:Heap}:∀{ids:List Nat} {css:List (List Value)},zP H ids css->ids.length=css.length
 | [],[],_=>rfl
 |_ :: ids,_ :: css,h=>by rw[List.length_cons,List.length_cons,sx h.2]
 | [],_ :: _,h=>h.elim
 |_ :: _,[],h=>h.elim
theorem pW{H:Heap}:∀{ids:List Nat} {css:List (List Value)},zP H ids css->∀(k:Nat) (c:List Value),css[k]?=some c->∃id own z,ids[k]?=some id/\H[id]?=some (ab.cells own z c)
 | [],[],_,k,c,hk=>by simp at hk
 |i :: ids,d :: css,h,0,c,hk=>by
  obtain ⟨⟨own,z,e⟩,_⟩:=h
  cases hk
  exact ⟨i,own,z,rfl,e⟩
 |i :: ids,d :: css,h,k+1,c,hk=>by
  obtain ⟨id,own,z,a,b⟩:=pW h.2 k c (by simpa using hk)
  exact ⟨id,own,z,by simpa using a,b⟩
 | [],_ :: _,h,_,_,_=>h.elim
 |_ :: _,[],h,_,_,_=>h.elim
def tq:List ab->Prop
 | [] =>True
 |o :: os=>(∃z cs,o = .cells true z cs/\cs.all (aJ 0)=true)/\tq os
theorem f7{σ:Nat->Option Nat}:∀{os:List ab},tq os->(os.all fun o=>aZ 3 o&&o.owned)=true/\os.map (rno σ 3)=os
 | [],_=>⟨rfl,rfl⟩
 |o :: os,⟨⟨z,cs,e,h⟩,hs⟩=>by
  subst e
  obtain ⟨a,b⟩:=f7 (σ:=σ) hs
  obtain ⟨c,d⟩:=iP (σ:=σ) (d:=0) h
  refine ⟨?_,?_⟩
  ·rw[List.all_cons,a,Bool.and_true]
   show (aZ 3 (.cells true z cs)&&true)=true
   rw[Bool.and_true];exact d
  ·rw[List.map_cons,b]
   show ab.cells true z (cs.map (rn σ 3)) :: os=_
   rw[c]
theorem u0:∀(n A B:List Value) (k:Nat),bE (A++B) (A.length+k) n=A++bE B k n
 | [],A,B,k=>rfl
 |v :: n,A,B,k=>by
  simp only[bE]
  rw[List.set_append_right _ _ (by omega),show A.length+k-A.length=k by omega,Nat.add_assoc,u0 n A _ (k+1)]
theorem B5{α:Type}(x:α)(n:Nat):List.replicate (n+1) x=List.replicate n x ++ [x]:=by rw[List.replicate_succ']
theorem DI{α:Type}{l:List α}{d y:α}{i j:Nat}(hi:i<l.length):(l.set i y).getD j d=if j=i then y else l.getD j d:=by
 rw[List.getD_eq_getElem?_getD,List.getElem?_set,List.getD_eq_getElem?_getD]
 by_cases h:i=j
 ·rw[if_pos h,if_pos (h ▸ hi),if_pos h.symm];rfl
 ·rw[if_neg h,if_neg (fun e=>h e.symm)]
def inV(l:List Int):Value:=.iface (l.length+1) (.agg ⟨l.flatMap ai⟩)
def inL(ll:List (List Int)):List Value:=ll.map inV
theorem yb(n:Nat)(L:List Int):(L.flatMap ai).all (dt n)=true:=by
 rw[List.all_flatMap,List.all_eq_true]
 intro r _;rfl
theorem m6{f:FuncId}{args:List Value}{css:List (List Value)}{h:Hint}{v:Value}(hc:vF prog msk (dm 0) 100000 true 40 true f args (bA 0 css) (some []) h (fun v' _ _=>v'=v))(hp:oO css)(hv:cn 0 v=true)
  {H:Heap} {ids:List Nat} (hi:zP H ids css) {args':List Value} (ha:args.map (rn (sgR 0 ids) 5)=args'):ad prog f args' H [] (Is v H):=by
 subst ha
 exact KD hc (kR hp) hv ids (sx hi) (pW hi)
theorem La(n:Nat)(l:List Int):aJ n (inV l)=true:=yb n l
theorem wb(n:Nat)(ll:List (List Int)):(inL ll).all (aJ n)=true:=by
 unfold inL
 rw[List.all_map,List.all_eq_true]
 intro l _
 exact La n l
theorem tV(ll:List (List Int)):(inL ll).length=ll.length:=List.length_map ..
theorem pU{ll:List (List Int)}{k:Nat}(h:k<ll.length){off:Nat}(ho:off=k):(inL ll)[off]?=some (inV (ll.getD k [])):=by
 subst ho
 unfold inL
 rw[List.getElem?_map,List.getElem?_eq_getElem h,List.getD_eq_getElem?_getD,List.getElem?_eq_getElem h];rfl
theorem Ku{id n m:Nat}(h:m=n)(h0:0<n):wk (.slice (some ⟨id,0,none⟩) n n) (.slice (some ⟨id,0,some 1⟩) m m):=by subst h;exact iq h0
theorem ju{id n m:Nat}(h:m=n):wk (.slice (some ⟨id,0,none⟩) n n) (.slice (some ⟨id,0,some 2⟩) m m):=by subst h;exact nR
theorem qr{C:List Int}{o:Nat}(h:o<C.length):C.drop o=C.getD o 0 :: C.drop (o+1):=by
 rw[List.drop_eq_getElem_cons h,List.getD_eq_getElem?_getD,List.getElem?_eq_getElem h];rfl
theorem xQ(C:List Int)(o:Nat):(C.flatMap ai).drop o=(C.drop o).flatMap ai:=by
 induction C generalizing o with
 |nil=>simp
 |cons c C ih =>
  cases o with
  |zero=>rfl
  |succ o=>exact ih o
end
end Go.Proofs.YtbgfjemppjhmjaaGreat
namespace Go.K
section
variable {κ β:Type} [DecidableEq κ]
def eJ(k:κ)(v:β):List (κ×β)->List (κ×β)
 | [] => [(k,v)]
 |e :: F=>if e.1=k then (k,v) :: F else e :: eJ k v F
def cS(k:κ)(d:β):List (κ×β)->β
 | [] =>d
 |e :: F=>if e.1=k then e.2 else cS k d F
def dM(k:κ):List (κ×β)->Bool
 | [] =>false
 |e :: F=>if e.1=k then true else dM k F
def rf(k:κ):List (κ×β)->Nat
 | [] =>0
 |e :: F=>if e.1=k then 0 else rf k F+1
def fy(key:κ->Value)(val:β->Value)(F:List (κ×β)):List (Value×Value):=F.map fun e=>(key e.1,val e.2)
omit [DecidableEq κ] in
theorem wp(key:κ->Value)(val:β->Value)(F:List (κ×β)):(fy key val F).length=F.length:=List.length_map ..
theorem zZ(k:κ)(d:β):∀(F:List (κ×β)),dM k F=false->cS k d F=d
 | [],_=>rfl
 |e :: F,h=>by
  unfold dM at h;unfold cS
  by_cases q:e.1=k
  ·rw[if_pos q]at h;cases h
  ·rw[if_neg q]at h ⊢;exact zZ k d F h
theorem tg(k:κ)(v:β):∀(F:List (κ×β)),dM k F=false->eJ k v F=F ++ [(k,v)]
 | [],_=>rfl
 |e :: F,h=>by
  unfold dM at h;unfold eJ
  by_cases q:e.1=k
  ·rw[if_pos q]at h;cases h
  ·rw[if_neg q]at h ⊢;rw[tg k v F h];rfl
theorem qf(k k':κ)(v d:β):∀(F:List (κ×β)),cS k' d (eJ k v F)=if k'=k then v else cS k' d F
 | [] =>by
  unfold eJ cS
  by_cases h:k=k'
  ·rw[if_pos h,if_pos h.symm]
  ·rw[if_neg h,if_neg fun q=>h q.symm];rfl
 |e :: F=>by
  unfold eJ
  by_cases q:e.1=k
  ·rw[if_pos q]
   unfold cS
   by_cases h:k=k'
   ·rw[if_pos h,if_pos h.symm]
   ·rw[if_neg h,if_neg fun q=>h q.symm,q,if_neg h]
  ·rw[if_neg q]
   unfold cS
   by_cases h:e.1=k'
   ·rw[if_pos h,if_pos h,if_neg (fun x=>q (h.trans x))]
   ·rw[if_neg h,if_neg h,qf k k' v d F]
theorem wi(k k':κ)(v:β):∀(F:List (κ×β)),dM k' (eJ k v F)=(decide (k'=k) ||dM k' F)
 | [] =>by
  unfold eJ dM
  by_cases h:k=k'
  ·rw[if_pos h,decide_eq_true h.symm];rfl
  ·rw[if_neg h,decide_eq_false fun q=>h q.symm];rfl
 |e :: F=>by
  unfold eJ
  by_cases q:e.1=k
  ·rw[if_pos q]
   unfold dM
   by_cases h:k=k'
   ·rw[if_pos h,decide_eq_true h.symm];rfl
   ·rw[if_neg h,decide_eq_false (fun q=>h q.symm),q,if_neg h];rfl
  ·rw[if_neg q]
   unfold dM
   by_cases h:e.1=k'
   ·rw[if_pos h,if_pos h,Bool.or_true]
   ·rw[if_neg h,if_neg h,wi k k' v F]
variable {P:Program} {kt:TypeId} {key:κ->Value} {val:β->Value}
theorem tK(hk:∀a b,cr P Op.maxDepth kt (key a) (key b)=some (decide (a=b)))(k:κ)(d:β):∀(F:List (κ×β)) (i:Nat),
  iV P kt (key k) (fy key val F) i=some (if dM k F=true then some (i+rf k F,val (cS k d F)) else none)
 | [],i=>rfl
 |e :: F,i=>by
  show (match cr P Op.maxDepth kt (key k) (key e.1) with|some true=>_|some false=>iV P kt (key k) (fy key val F) (i+1)|none=>none)=_
  rw[hk]
  unfold dM cS rf
  by_cases h:e.1=k
  ·rw[decide_eq_true h.symm,if_pos h,if_pos h,if_pos h,if_pos rfl];rfl
  ·rw[decide_eq_false fun q=>h q.symm,if_neg h,if_neg h,if_neg h]
   show iV P kt (key k) (fy key val F) (i+1)=_
   rw[tK hk k d F (i+1),show i+1+rf k F=i+(rf k F+1) by omega]
theorem xd(hk:∀a b,cr P Op.maxDepth kt (key a) (key b)=some (decide (a=b)))(k:κ)(d:β){z:Value}(hz:val d=z)(ok:Bool)(F:List (κ×β)) :
  dR P kt z (key k) ok (fy key val F)=some (xf ok (val (cS k d F)) (dM k F)):=by
 unfold dR
 rw[tK hk k d F 0]
 cases h:dM k F with
 |true=>rw[if_pos rfl]
 |false=>rw[if_neg (by simp),zZ k d F h,hz]
theorem Af(k:κ):∀(F:List (κ×β)),dM k F=true->∃v,(fy key val F)[rf k F]?=some (key k,v)
 | [],h=>by cases h
 |e :: F,h=>by
  unfold dM at h;unfold rf
  by_cases q:e.1=k
  ·rw[if_pos q];exact ⟨val e.2,by rw[<- q];rfl⟩
  ·rw[if_neg q]at h ⊢
   obtain ⟨v,hv⟩:=Af k F h
   exact ⟨v,by rw[<- hv];rfl⟩
theorem wo(k:κ)(v:β):∀(F:List (κ×β)),dM k F=true->(fy key val F).set (rf k F) (key k,val v)=fy key val (eJ k v F)
 | [],h=>by cases h
 |e :: F,h=>by
  unfold dM at h;unfold rf eJ
  by_cases q:e.1=k
  ·rw[if_pos q,if_pos q];rfl
  ·rw[if_neg q]at h ⊢
   rw[if_neg q]
   show (key e.1,val e.2) :: (fy key val F).set (rf k F) (key k,val v)=_
   rw[wo k v F h];rfl
theorem BX(hk:∀a b,cr P Op.maxDepth kt (key a) (key b)=some (decide (a=b)))(hq:∀a,kV (key a) (key a)=true)(k:κ)(v:β)(F:List (κ×β)) :
  ix P kt (key k) (val v) (fy key val F)=some (fy key val (eJ k v F)):=by
 unfold ix
 rw[tK hk k v F 0]
 cases h:dM k F with
 |true =>
  rw[if_pos rfl]
  obtain ⟨x,hx⟩:=Af (key:=key) (val:=val) k F h
  simp only[Nat.zero_add]
  rw[hx]
  simp only[hq]
  rw[wo k v F h]
 |false =>
  rw[if_neg (by simp),tg k v F h]
  show some (fy key val F ++ [(key k,val v)])=some (fy key val (F ++ [(k,v)]))
  simp[fy]
omit [DecidableEq κ] in
theorem Ae{F:List (κ×β)}{i:Nat}(d:κ×β)(h:i<F.length)(seen:List Nat):gx (fy key val F) (seen ++ [i])=some (.tuple #[key (F.getD i d).1,val (F.getD i d).2]):=by
 unfold gx
 rw[List.getLast?_concat]
 simp[fy,h]
end
end Go.K
namespace Go.Proofs.YtbgfjemppjhmjaaGreat
noncomputable section
attribute [local irreducible] vF
variable {w h:Int} {a:List Bool} {p:Int} {ss:List (Int×Int)} {o1 o2:Bool} {z1 z2:Nat} {H:Heap}
structure Msg where
 au:Int
 nu:Int
 at_:Int
 ki:Int
 sh:Int
 ce:Int
 va:Int
deriving DecidableEq
def ay:Msg:=⟨0,0,0,0,0,0,0⟩
abbrev bL(m:Msg):List Value:=[.int .i64 m.au,.int .i64 m.nu,.int .i64 m.at_,.int .i64 m.ki,.int .i64 m.sh,.int .i64 m.ce,.int .i64 m.va]
abbrev jf(m:Msg):Value:=.agg ⟨bL m⟩
def aq(L:List Msg):List (Value×Value):=fy jf (fun b => .bool b) (L.map fun m=>(m,true))
def f8(L:List Msg)(m:Msg):Bool:=decide (m∈L)
def uo(L:List Msg)(m:Msg):List Msg:=if m∈L then L else L ++ [m]
def inB(n a b:Int):Bool:=decide (a<=n)&&decide (n<=b)
def k1B(m:Msg):Bool:=decide (m.ki=1)&&(inB m.sh 1 40&&inB m.ce 0 1023&&decide (m.va=0))
def k2B(m:Msg):Bool:=decide (m.ki=2)&&(decide (m.sh=0)&&inB m.ce 0 1023&&inB m.va 0 1000000)
def k3B(m:Msg):Bool:=decide (m.ki=3)&&(decide (m.sh=0)&&decide (m.ce=0)&&inB m.va 1 200)
def kT(m:Msg):Bool:=k1B m ||k2B m ||k3B m
def okM(m:Msg):Bool:=kT m&&inB m.au 1 4&&inB m.nu 1 200&&inB m.at_ 0 100000
def jG(m:Msg):Int:=if okM m=true then 0 else 110
def lH(L:List Msg)(m:Msg):List Msg:=if okM m=true/\L.length<1500 then uo L m else L
def lI(L:List Msg)(m:Msg):Bool:=okM m && !f8 L m&&decide (L.length<1500)
def e7(L:List Msg)(m:Msg):Int:=if okM m=true then (if m∈L then 0 else if L.length<1500 then 0 else 2) else 110
def orI(x y:Int):Int:=if x=0 then y else x
def tp(a b:Msg):Int:=orI (a.au-b.au) (orI (a.nu-b.nu) (orI (a.at_-b.at_) (orI (a.ki-b.ki) (orI (a.sh-b.sh) (orI (a.ce-b.ce) (a.va-b.va))))))
def iW(m:Msg):Int:=(((((m.au*256+m.nu)*131072+m.at_)*4+m.ki)*64+m.sh)*1024+m.ce)*1048576+m.va
def aI(L:List Msg):List Msg:=L.mergeSort fun a b=>decide (iW a<=iW b)
theorem hX{m:Msg}(h:okM m=true):(1<=m.au/\m.au<=4)/\(1<=m.nu/\m.nu<=200)/\(0<=m.at_/\m.at_<=100000)/\(1<=m.ki/\m.ki<=3)/\(0<=m.sh/\m.sh<=40)/\(0<=m.ce/\m.ce<=1023)/\(0<=m.va/\m.va<=1000000):=by
 simp only[okM,kT,k1B,k2B,k3B,inB,Bool.and_eq_true,Bool.or_eq_true,decide_eq_true_eq]at h
 omega
theorem rS{x y:Int}(h:x=0):orI x y=y:=if_pos h
theorem rR{x y:Int}(h:¬ x=0):orI x y=x:=if_neg h
theorem yX{a b:Msg}(ha:okM a=true)(hb:okM b=true):tp a b<0 ↔ iW a<iW b:=by
 have h1:=hX ha
 have h2:=hX hb
 unfold tp iW orI
 repeat' split
 all_goals omega
theorem CM{a b:Msg}(ha:okM a=true)(hb:okM b=true)(h:iW a=iW b):a=b:=by
 have h1:=hX ha
 have h2:=hX hb
 obtain ⟨a1,a2,a3,a4,a5,a6,a7⟩:=a
 obtain ⟨b1,b2,b3,b4,b5,b6,b7⟩:=b
 unfold iW at h
 simp only at h h1 h2
 rw[Msg.mk.injEq]
 omega
theorem fM(L:List Msg):(aI L).Perm L:=List.mergeSort_perm _ _
theorem ir(L:List Msg):(aI L).Pairwise fun a b=>iW a<=iW b:=by
 have h:=List.pairwise_mergeSort (le:=fun a b:Msg=>decide (iW a<=iW b)) (fun a b c h1 h2=>by simp at *;omega) (fun a b=>by simp;omega) L
 exact h.imp fun h=>by simpa using h
theorem lk:∀{A B:List Msg},A.Perm B->(∀m∈A,okM m=true)->A.Pairwise (fun a b=>iW a<=iW b)->B.Pairwise (fun a b=>iW a<=iW b)->A=B:=by
 intro A B hp hk ha hb
 exact List.Perm.eq_of_pairwise (fun a b h1 h2 h3 h4=>CM (hk a h1) (hk b (hp.mem_iff.2 h2)) (Int.le_antisymm h3 h4)) ha hb hp
theorem sZ{A B:List Msg}(h:A.Perm B)(hk:∀m∈A,okM m=true):aI A=aI B :=
 lk ((fM A).trans (h.trans (fM B).symm)) (fun m hm=>hk m ((fM A).mem_iff.1 hm)) (ir A) (ir B)
theorem jL(L:List Msg):(aI L).length=L.length:=(fM L).length_eq
theorem uW{L:List Msg}{m:Msg}:m∈aI L ↔ m∈L:=(fM L).mem_iff
abbrev nmV(n:Int×Int):Value:=.agg ⟨[.int .i64 n.1,.int .i64 n.2]⟩
def nmE(F:List ((Int×Int)×Bool)):List (Value×Value):=fy nmV (fun b => .bool b) F
def bP(L:List Msg):List Nat->List ((Int×Int)×Bool):=fun seen=>seen.foldl (fun F i=>let m:=L.getD i ay;eJ (m.au,m.nu) (dM (m.au,m.nu) F) F) []
def wdF(L:List Msg)(G:List ((Int×Int)×Bool)):List Nat->List ((Int×Int)×Bool):=fun seen =>
 seen.foldl (fun F i=>let m:=L.getD i ay;if m.ki=3/\cS (m.au,m.nu) false G=false then eJ (m.au,m.va) true F else F) []
def oW(L:List Msg)(a n:Int):List Msg:=L.filter fun m=>decide (m.au=a)&&decide (m.nu=n)
def qi(L:List Msg)(a n:Int):Bool:=decide (2<=(oW L a n).length)
def wdB(L:List Msg)(a n:Int):Bool:=L.any fun w=>decide (w.ki=3) && !qi L w.au w.nu&&decide (w.au=a)&&decide (w.va=n)
def wl(L:List Msg)(m:Msg):Bool:=decide (m.ki=3) ||qi L m.au m.nu ||wdB L m.au m.nu
def cq(L:List Msg):List Msg:=(aI L).filter fun m => !wl L m
theorem rG{n:Nat}{s:List Nat}(h1:s.Nodup)(h2:∀i∈s,i<n)(h3:∀i,i<n->i∈s):s.Perm (List.range n) :=
 (List.perm_ext_iff_of_nodup h1 List.nodup_range).2 fun i=>⟨fun h=>List.mem_range.2 (h2 i h),fun h=>h3 i (List.mem_range.1 h)⟩
theorem oN(L:List Msg):(List.range L.length).map (fun i=>L.getD i ay)=L:=by
 refine List.ext_getElem? fun i =>?_
 rw[List.getElem?_map]
 by_cases h:i<L.length
 ·rw[List.getElem?_range h,List.getElem?_eq_getElem h]
  simp[List.getD_eq_getElem?_getD,h]
 ·rw[List.getElem?_eq_none (by simpa using Nat.le_of_not_lt h),List.getElem?_eq_none (Nat.le_of_not_lt h)];rfl
theorem lQ{L:List Msg}{s:List Nat}(h:s.Perm (List.range L.length)):(s.map fun i=>L.getD i ay).Perm L:=by
 have:=h.map fun i=>L.getD i ay
 rwa [oN]at this
theorem iM{α:Type}{p:List α->Prop}(h0:p [])(h1:∀s i,p s->p (s ++ [i])):∀s,p s:=by
 intro s
 generalize hn:s.length=n
 induction n generalizing s with
 |zero=>obtain rfl:=List.length_eq_zero_iff.1 hn;exact h0
 |succ n ih =>
  rcases List.eq_nil_or_concat s with rfl|⟨t,i,rfl⟩
  ·cases hn
  ·rw[List.concat_eq_append]at hn ⊢;exact h1 t i (ih t (by simpa using hn))
theorem qh(L:List Msg)(s:List Nat)(i:Nat):bP L (s ++ [i])=eJ ((L.getD i ay).au,(L.getD i ay).nu) (dM ((L.getD i ay).au,(L.getD i ay).nu) (bP L s)) (bP L s):=by
 unfold bP;rw[List.foldl_append];rfl
theorem lL(L:List Msg)(G:List ((Int×Int)×Bool))(s:List Nat)(i:Nat):wdF L G (s ++ [i])=if (L.getD i ay).ki=3/\cS ((L.getD i ay).au,(L.getD i ay).nu) false G=false then eJ ((L.getD i ay).au,(L.getD i ay).va) true (wdF L G s) else wdF L G s:=by
 unfold wdF;rw[List.foldl_append];rfl
def Bn(L:List Msg)(s:List Nat)(a n:Int):Nat:=(oW (s.map fun i=>L.getD i ay) a n).length
theorem Bm(L:List Msg)(s:List Nat)(i:Nat)(a n:Int):Bn L (s ++ [i]) a n=Bn L s a n+if (L.getD i ay).au=a/\(L.getD i ay).nu=n then 1 else 0:=by
 unfold Bn oW
 rw[List.map_append,List.filter_append,ao,List.map_cons,List.map_nil,List.filter_cons]
 generalize L.getD i ay=m
 by_cases h:m.au=a/\m.nu=n
 ·rw[if_pos h,if_pos (by simp[h.1,h.2])];rfl
 ·rw[if_neg h,if_neg (by simpa using h)];rfl
theorem xO(L:List Msg)(a n:Int):∀s,dM (a,n) (bP L s)=decide (1<=Bn L s a n)/\cS (a,n) false (bP L s)=decide (2<=Bn L s a n):=by
 refine iM ⟨rfl,rfl⟩ fun s i ⟨h1,h2⟩ =>?_
 rw[qh,wi,qf,Bm,h1,h2]
 by_cases h:(L.getD i ay).au=a/\(L.getD i ay).nu=n
 ·obtain ⟨e1,e2⟩:=h
  rw[if_pos ⟨e1,e2⟩,e1,e2,if_pos rfl,h1]
  simp
 ·rw[if_neg h,if_neg (fun q=>h ⟨congrArg Prod.fst q.symm,congrArg Prod.snd q.symm⟩)]
  rw[decide_eq_false (fun q=>h ⟨congrArg Prod.fst q.symm,congrArg Prod.snd q.symm⟩)]
  simp
theorem nf{A B:List Msg}(h:A.Perm B)(a n:Int):(oW A a n).length=(oW B a n).length:=(h.filter _).length_eq
theorem lF{A B:List Msg}(h:A.Perm B)(a n:Int):qi A a n=qi B a n:=by unfold qi;rw[nf h]
theorem BB{A B:List Msg}(h:A.Perm B)(a n:Int):wdB A a n=wdB B a n:=by
 unfold wdB
 rw[Bool.eq_iff_iff,List.any_eq_true,List.any_eq_true]
 constructor
 ·rintro ⟨w,h1,h2⟩;exact ⟨w,h.mem_iff.1 h1,by rwa [lF h]at h2⟩
 ·rintro ⟨w,h1,h2⟩;exact ⟨w,h.mem_iff.2 h1,by rwa [lF h]⟩
theorem sA{L:List Msg}{s:List Nat}(h:s.Perm (List.range L.length))(a n:Int):cS (a,n) false (bP L s)=qi L a n:=by
 rw[(xO L a n s).2]
 unfold qi Bn
 rw[nf (lQ h)]
theorem BA(L:List Msg)(G:List ((Int×Int)×Bool))(a n:Int):∀s,cS (a,n) false (wdF L G s)=(s.map fun i=>L.getD i ay).any fun w=>decide (w.ki=3) && !cS (w.au,w.nu) false G&&decide (w.au=a)&&decide (w.va=n):=by
 refine iM rfl fun s i h =>?_
 rw[lL,List.map_append,List.any_append,<- h,List.map_cons,List.map_nil,List.any_cons,List.any_nil,Bool.or_false]
 generalize L.getD i ay=m
 by_cases h3:m.ki=3/\cS (m.au,m.nu) false G=false
 ·rw[if_pos h3,qf,h3.1,h3.2]
  by_cases q:m.au=a/\m.va=n
  ·rw[if_pos (by rw[q.1,q.2]),q.1,q.2];simp
  ·rw[if_neg (fun x=>q ⟨congrArg Prod.fst x.symm,congrArg Prod.snd x.symm⟩)]
   have:(decide (m.au=a)&&decide (m.va=n))=false:=by simpa using q
   simp[this]
 ·rw[if_neg h3]
  have:(decide (m.ki=3) && !cS (m.au,m.nu) false G)=false:=by
   cases hg:cS (m.au,m.nu) false G with
   |true=>simp
   |false=>simp only[hg,and_true]at h3;simp[h3]
  rw[this];simp
theorem EK{L:List Msg}{s t:List Nat}(h:s.Perm (List.range L.length))(ht:t.Perm (List.range L.length))(a n:Int):cS (a,n) false (wdF L (bP L s) t)=wdB L a n:=by
 rw[BA,<- BB (lQ ht) a n]
 unfold wdB
 congr 1
 funext w
 rw[sA h,lF (lQ ht)]
def fC(L:List Msg)(s:List Nat):Prop:=s.Nodup/\∀i∈s,i<L.length
def cB(L:List Msg)(s:List Nat):List Msg:=s.map fun i=>L.getD i ay
theorem wU(L:List Msg):fC L []:=⟨List.nodup_nil,fun i h=>by cases h⟩
theorem gR{L:List Msg}{s:List Nat}{i:Nat}(h:fC L s)(hi:i<L.length)(hn:i ∉ s):fC L (s ++ [i]) :=
 ⟨List.nodup_append.2 ⟨h.1,(by simp),fun a ha b hb e=>hn (by rw[List.mem_singleton.1 hb]at e;exact e ▸ ha)⟩,fun j hj=>by
  rcases List.mem_append.1 hj with h1|h1
  ·exact h.2 j h1
  ·rw[List.mem_singleton.1 h1];exact hi⟩
theorem oE{L:List Msg}{s:List Nat}(h:fC L s):s.length<=L.length:=by
 have key:∀(n:Nat) (s:List Nat),s.Nodup->(∀i∈s,i<n)->s.length<=n:=by
  intro n
  induction n with
  |zero=>intro s _ h;cases s with
   |nil=>exact Nat.le_refl _
   |cons a s=>exact absurd (h a (List.mem_cons_self ..)) (by omega)
  |succ n ih =>
   intro s hn hs
   by_cases hm:n∈s
   ·have h1:=ih (s.erase n) (hn.erase n) (fun i hi=>by
     have:=hs i (List.mem_of_mem_erase hi)
     have:i≠n:=fun e=>by rw[e]at hi;exact (List.Nodup.not_mem_erase hn) hi
     omega)
    rw[List.length_erase_of_mem hm]at h1
    omega
   ·exact Nat.le_succ_of_le (ih s hn (fun i hi=>by
     have:=hs i hi
     have:i≠n:=fun e=>hm (e ▸ hi)
     omega))
 exact key _ _ h.1 h.2
theorem iN{L:List Msg}{s:List Nat}{i:Nat}(h:fC L s)(hi:i<L.length)(hn:i ∉ s):L.length-(s ++ [i]).length<L.length-s.length:=by
 have:=oE (gR h hi hn)
 rw[ao]at this ⊢
 simp only[List.length_cons,List.length_nil]at this ⊢
 omega
theorem oF{L:List Msg}{s:List Nat}(h:fC L s)(h3:∀i,i<L.length->i∈s):s.Perm (List.range L.length):=rG h.1 h.2 h3
theorem Cd(L:List Msg)(s:List Nat):(cB L s).length=s.length:=List.length_map ..
theorem rQ(L:List Msg)(s:List Nat)(i:Nat):cB L (s ++ [i])=cB L s ++ [L.getD i ay]:=by unfold cB;rw[List.map_append];rfl
def jB(F G:List ((Int×Int)×Bool))(m:Msg):Bool:=decide (m.ki=3) ||cS (m.au,m.nu) false F ||cS (m.au,m.nu) false G
theorem Be{L:List Msg}{s t:List Nat}(h:s.Perm (List.range L.length))(ht:t.Perm (List.range L.length))(m:Msg):jB (bP L s) (wdF L (bP L s) t) m=wl L m:=by
 unfold jB wl
 rw[sA h,EK h ht]
def rW(M:List Msg)(m:Msg):Bool:=!f8 M m
def du(L:List Msg)(m:Msg):Bool:=!wl L m
def dg(q:Msg->Bool)(M:List Msg)(x:Nat):List Msg:=(M.take x).filter q
def kN(q:Msg->Bool)(M:List Msg)(x:Nat):List Msg:=dg q M x++M.drop (dg q M x).length
theorem pu(q:Msg->Bool)(M:List Msg)(x:Nat):(dg q M x).length<=x:=Nat.le_trans (List.length_filter_le ..) (List.length_take_le ..)
theorem zm{q:Msg->Bool}{M:List Msg}{x:Nat}(hx:x<M.length)(h:q (M.getD x ay)=true):dg q M (x+1)=dg q M x ++ [M.getD x ay]:=by
 unfold dg
 have e:M.getD x ay=M[x]:=by simp[List.getD_eq_getElem?_getD,hx]
 rw[e]at h ⊢
 rw[List.take_succ_eq_append_getElem hx,List.filter_append,List.filter_cons,if_pos h];rfl
theorem oa{q:Msg->Bool}{M:List Msg}{x:Nat}(hx:x<M.length)(h:q (M.getD x ay)=false):dg q M (x+1)=dg q M x:=by
 unfold dg
 have e:M.getD x ay=M[x]:=by simp[List.getD_eq_getElem?_getD,hx]
 rw[e]at h
 rw[List.take_succ_eq_append_getElem hx,List.filter_append,List.filter_cons,if_neg (by rw[h];simp),List.filter_nil,List.append_nil]
theorem se{q:Msg->Bool}{M:List Msg}{x:Nat}(h:(M.take x).all q=true):dg q M x=M.take x:=by
 unfold dg
 rw[List.filter_eq_self]
 rw[List.all_eq_true]at h
 exact h
theorem vt{q:Msg->Bool}{M:List Msg}{x:Nat}(hx:x<=M.length):(kN q M x).length=M.length:=by
 have:=pu q M x
 unfold kN;rw[ao,List.length_drop];omega
theorem Fk{q:Msg->Bool}{M:List Msg}{x:Nat}(hx:x<M.length):(kN q M x).getD x ay=M.getD x ay:=by
 have:=pu q M x
 unfold kN
 rw[List.getD_eq_getElem?_getD,List.getD_eq_getElem?_getD,List.getElem?_append_right this,List.getElem?_drop,show (dg q M x).length+(x-(dg q M x).length)=x by omega]
theorem Cv{q:Msg->Bool}{M:List Msg}{x:Nat}(h:(M.take x).all q=true)(hx:x<=M.length):kN q M x=M:=by
 unfold kN
 rw[se h,List.length_take,Nat.min_eq_left hx,List.take_append_drop]
theorem Cw{q:Msg->Bool}{M:List Msg}{x:Nat}(hx:x<M.length)(h:q (M.getD x ay)=false):kN q M (x+1)=kN q M x:=by
 unfold kN;rw[oa hx h]
theorem Ia{q:Msg->Bool}{M:List Msg}{x:Nat}(hx:x<M.length)(h:q (M.getD x ay)=true):kN q M (x+1)=(kN q M x).set (dg q M x).length (M.getD x ay):=by
 have hk:=pu q M x
 unfold kN
 rw[zm hx h,List.set_append_right _ _ (Nat.le_refl _),Nat.sub_self,ao]
 have e:M.drop (dg q M x).length=M[(dg q M x).length]'(by omega) :: M.drop ((dg q M x).length+1):=List.drop_eq_getElem_cons (by omega)
 rw[e,List.set_cons_zero,List.append_assoc];rfl
theorem A1(q:Msg->Bool)(M:List Msg):dg q M M.length=M.filter q:=by unfold dg;rw[List.take_length]
end
end Go.Proofs.YtbgfjemppjhmjaaGreat
namespace Go.K
variable {P:Program} {mixed:Bool} {mask:Nat} {dm:Value->MS} {rounds:Nat}
noncomputable def aW(os:List ab):HT:=os.foldl HT.push ⟨0,.leaf⟩
theorem nb(os:List ab):(aW os).list=os:=by
 have key:∀(l:List ab) (H:HT),(l.foldl HT.push H).list=H.list++l:=by
  intro l
  induction l with
  |nil=>intro H;simp
  |cons p l ih=>intro H;rw[List.foldl_cons,ih,HT.bQ];simp
 rw[show (aW os).list=_ from key os ⟨0,.leaf⟩];rfl
def hY(H:Heap)(σ:Nat->Option Nat):List Nat->List ab->Prop
 | [],[] =>True
 |id :: ids,o :: os=>H[id]?=some (rno σ 3 o)/\hY H σ ids os
 |_,_=>False
theorem oR{H:Heap}{σ:Nat->Option Nat}:∀{ids:List Nat} {os:List ab},hY H σ ids os->ids.length=os.length
 | [],[],_=>rfl
 |_ :: ids,_ :: os,h=>by rw[List.length_cons,List.length_cons,oR h.2]
 | [],_ :: _,h=>h.elim
 |_ :: _,[],h=>h.elim
theorem lv{H:Heap}{σ:Nat->Option Nat}:∀{ids:List Nat} {os:List ab},hY H σ ids os->∀(k id:Nat) (o:ab),ids[k]?=some id->os[k]?=some o->H[id]?=some (rno σ 3 o)
 | [],[],_,k,id,o,h1,h2=>by simp at h1
 |i :: ids,d :: os,h,0,id,o,h1,h2=>by cases h1;cases h2;exact h.1
 |i :: ids,d :: os,h,k+1,id,o,h1,h2=>lv h.2 k id o (by simpa using h1) (by simpa using h2)
 | [],_ :: _,h,_,_,_,_,_=>h.elim
 |_ :: _,[],h,_,_,_,_,_=>h.elim
abbrev sgI(ids:List Nat)(i:Nat):Option Nat:=ids[i]?
theorem E8(hG:P.globals.size=0){os:List ab}{ids:List Nat}{H:Heap}(hk:os.all (aZ 3)=true)(hnd:ids.Nodup)(hi:hY H (sgI ids) ids os):Part P (aW os).list H (sgI ids) 3:=by
 rw[nb]
 have hl:=oR hi
 have hH:∀id id',ids[id]?=some id'->∃o,os[id]?=some o/\H[id']?=some (rno (sgI ids) 3 o):=fun id id' h=>by
  have h1:=(List.getElem?_eq_some_iff.1 h).1
  exact ⟨os[id]'(by omega),List.getElem?_eq_getElem (by omega),lv hi id id' _ h (List.getElem?_eq_getElem (by omega))⟩
 refine ⟨fun g hg=>by omega,fun id id' h =>?_,fun id h=>⟨_,List.getElem?_eq_getElem (by omega)⟩,fun a b c h1 h2 =>?_,fun id id' o h1 h2 => .inr ?_⟩
 ·obtain ⟨o,e1,e2⟩:=hH id id' h
  exact ⟨(List.getElem?_eq_some_iff.1 e1).1,(List.getElem?_eq_some_iff.1 e2).1⟩
 ·have e1:=List.getElem?_eq_some_iff.1 h1
  have e2:=List.getElem?_eq_some_iff.1 h2
  obtain ⟨l1,q1⟩:=e1
  obtain ⟨l2,q2⟩:=e2
  exact (List.getElem_inj hnd).1 (q1.trans q2.symm)
 ·rw[List.all_eq_true]at hk
  exact ⟨hk o (List.mem_of_getElem? h2),lv hi id id' o h1 h2⟩
theorem vcK(ft:gy P mixed mask)(gq:mixed=true->P.follows .mixedOrders=true)(hG:P.globals.size=0)(n:Nat){f:FuncId}{args:List Value}{os:List ab}{h:Hint}{v:Value}{new:List (Bool×ab)}
  (hc:vF P mask dm rounds mixed n true f args (aW os) (some []) h (ca (aW os).n 3 v new)) (hk:os.all (aZ 3)=true) (hv:dj 3 v=true) (hn:(new.map (·.2)).all (fun o=>aZ 3 o&&o.owned)=true)
  {H:Heap} {ids:List Nat} (hnd:ids.Nodup) (hi:hY H (sgI ids) ids os) :
  ad P f (args.map (rn (sgI ids) 3)) H [] (Is (rn (dW (sgI ids) os.length H.length) 3 v) (H++(new.map (·.2)).map (rno (dW (sgI ids) os.length H.length) 3))):=by
 have h1:=ad.frame (E8 hG hk hnd hi) (vcN ft gq n hc) hv hn
 rw[nb]at h1
 exact h1
end Go.K
namespace Go.Proofs.YtbgfjemppjhmjaaGreat
noncomputable section
def uG(H:Heap)(σ:Nat->Option Nat):List Nat->List (List Value)->Prop
 | [],[] =>True
 |i :: is,c :: cs=>(∃own z,H[i]?=some (ab.cells own z (c.map (rn σ 3))))/\uG H σ is cs
 |_,_=>False
theorem uG.len{H:Heap}{σ:Nat->Option Nat}:∀{ids:List Nat} {css:List (List Value)},uG H σ ids css->ids.length=css.length
 | [],[],_=>rfl
 |i :: is,c :: cs,h=>by rw[List.length_cons,List.length_cons,h.2.len]
theorem uG.get{H:Heap}{σ:Nat->Option Nat}:∀{ids:List Nat} {css:List (List Value)},uG H σ ids css->∀(k:Nat) (cs:List Value),css[k]?=some cs->∃id own z,ids[k]?=some id/\H[id]?=some (ab.cells own z (cs.map (rn σ 3)))
 | [],[],_,k,d,e=>by cases e
 |i :: is,c :: cs,h,0,d,e=>by cases e;obtain ⟨own,z,h1⟩:=h.1;exact ⟨i,own,z,rfl,h1⟩
 |i :: is,c :: cs,h,k+1,d,e=>h.2.get k d e
theorem sT{f:FuncId}{args:List Value}{css:List (List Value)}{h:Hint}{v:Value}(hc:vF prog msk (dm 0) 100000 true 40 true f args (bA 0 css) (some []) h (fun v' _ _=>v'=v))(hv:cn 0 v=true)(h3:dj 3 v=true:=by rfl)(h4:∀σ,rn σ 3 v=v:=by intro;rfl)
  {H:Heap} {ids:List Nat} (hi:uG H (sgR 0 ids) ids css) {args':List Value} (ha:args.map (rn (sgR 0 ids) 3)=args'):ad prog f args' H [] (Is v H):=by
 subst ha
 exact KC hc hv (h3:=h3) (h4:=h4) ids hi.len hi.get
theorem bR{f:FuncId}{args:List Value}{os:List ab}{h:Hint}(v:Nat->Value){new:List ab}
  (hc:vF prog msk (dm 0) 100000 true 40 true f args (aW os) (some []) h (ca (aW os).n 3 (v os.length) (new.map fun o=>(true,o))))
  (hk:os.all (aZ 3)=true) (hv:dj 3 (v os.length)=true) (hn:tq new) {H:Heap} {ids:List Nat} (hnd:ids.Nodup) (hi:hY H (sgI ids) ids os) (h3:∀j,rn (dW (sgI ids) os.length j) 3 (v os.length)=v j)
  {args':List Value} (ha:args.map (rn (sgI ids) 3)=args'):ad prog f args' H [] (Is (v H.length) (H++new)):=by
 subst ha
 have e0:(new.map fun o=>(true,o)).map (·.2)=new:=by rw[List.map_map];exact List.map_id _
 have key:=vcK iw mixed dx 40 (v:=v os.length) (new:=new.map fun o=>(true,o)) hc hk hv (by rw[e0];exact (f7 (σ:=fun _=>none) hn).1) hnd hi
 rw[e0,(f7 hn).2,h3]at key
 exact key
theorem BF{f:FuncId}{args:List Value}{os:List ab}{h:Hint}(v:Nat->Value){b:Bool}{o:ab}
  (hc:vF prog msk (dm 0) 100000 true 40 true f args (aW os) (some []) h (ca (aW os).n 3 (v os.length) [(b,o)]))
  (hk:os.all (aZ 3)=true) (hv:dj 3 (v os.length)=true) (hn:tq [o]) {H:Heap} {ids:List Nat} (hnd:ids.Nodup) (hi:hY H (sgI ids) ids os) (h3:∀j,rn (dW (sgI ids) os.length j) 3 (v os.length)=v j)
  {args':List Value} (ha:args.map (rn (sgI ids) 3)=args'):ad prog f args' H [] (Is (v H.length) (H ++ [o])):=by
 subst ha
 have key:=vcK iw mixed dx 40 (v:=v os.length) (new:=[(b,o)]) hc hk hv (by exact (f7 (σ:=fun _=>none) hn).1) hnd hi
 rw[show ([(b,o)]:List (Bool×ab)).map (·.2)=[o] from rfl,(f7 hn).2,h3]at key
 exact key
end
end Go.Proofs.YtbgfjemppjhmjaaGreat
