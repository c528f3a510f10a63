/- Laws whose arguments hold several lists: each list in its own block. No condition. -/
import Derived.Test.YtbgfjemppjhmjaaGreatGK27xR0b
import Derived.Test.YtbgfjemppjhmjaaGreatGP46xL0
import Derived.Test.YtbgfjemppjhmjaaGreatGO1gxW3
open Go Go.K
set_option maxRecDepth 1000000
set_option linter.unusedVariables false
set_option linter.unusedSimpArgs false
namespace Go.K
open Go Go.RowKit Go.ChangeAt Go.WideShapes
variable {P:Program} {HH:Type} {enc:TypeId×Value->HH}
def jt(Q:Nat->Nat->TypeId->List Value->Prop):Nat->Nat->List TypeId->List Value->Prop
 |lo,hi,[],cs=>cs=[]/\lo<=hi
 |lo,hi,t :: ts,cs => ∃mid c rest,cs=c++rest/\Q lo mid t c/\jt Q mid hi ts rest
def dI(P:Program)(H:Heap):Nat->Nat->Nat->TypeId->List Value->Prop
 |0,_,_,_,_=>False
 |n+1,lo,hi,t,cs=>lo<=hi/\match P.underlying t with
  |some .bool => ∃b,cs=[.bool b]
  |some (.int k) => ∃x,cs=[.int k x]/\k.min<=x/\x<=k.max
  |some .string => ∃s,cs=[.string s]
  |some (.struct fs)=>jt (dI P H n) lo hi (fs.toList.map (·.type)) cs
  |some (.slice e)=>cs=[.slice none 0 0]∨cs=[.slice (some ⟨0,0,some 0⟩) 0 0] ∨
    ∃id len ds,(lo<=id/\id<hi)/\cs=[.slice (some ⟨id,0,none⟩) len len]/\H[id]?=some (.cells false 0 ds)/\ds.length=len*P.cellsOf e/\len<=maxLen/\dy (eG P n) (List.replicate len e) ds
  |some (.array k e)=>jt (dI P H n) lo hi (List.replicate k e) cs
  |_=>False
theorem jt.mono{Q R:Nat->Nat->TypeId->List Value->Prop}(h:∀lo hi t c,Q lo hi t c->R lo hi t c):∀{ts:List TypeId} {lo hi:Nat} {cs:List Value},jt Q lo hi ts cs->jt R lo hi ts cs:=by
 intro ts
 induction ts with
 |nil=>intro lo hi cs g;exact g
 |cons t ts ih =>
  rintro lo hi cs ⟨mid,c,rest,e,h1,h2⟩
  exact ⟨mid,c,rest,e,h _ _ _ _ h1,ih h2⟩
theorem dI.mono{H K:Heap}:∀{n lo hi:Nat} {t:TypeId} {cs:List Value},dI P H n lo hi t cs->dI P (H++K) n lo hi t cs:=by
 intro n
 induction n with
 |zero=>intro lo hi t cs h;exact h
 |succ n ih =>
  intro lo hi t cs h
  unfold dI at h ⊢
  refine ⟨h.1,?_⟩
  have h:=h.2
  split at h
  ·exact h
  ·exact h
  ·exact h
  ·exact jt.mono (fun _ _ _ _=>ih) h
  ·rcases h with h|h|⟨id,len,cs',h0,h1,h2,h3,h4,h5⟩
   ·exact .inl h
   ·exact .inr (.inl h)
   ·exact .inr (.inr ⟨id,len,cs',h0,h1,by rw[List.getElem?_append_left (List.getElem?_eq_some_iff.1 h2).1];exact h2,h3,h4,h5⟩)
  ·exact jt.mono (fun _ _ _ _=>ih) h
  ·exact h.elim
theorem An{B:Nat}{W:World}{n:Nat}(IH:∀(t:TypeId) (cs cs':List Value) (Y:Ren) (H:Heap),Good P H n t cs->VRl Y cs cs'->Rel P B Y H W->Low B Y W->∃ρ' H' ds,Ext P B W Y H ρ' H'/\Low B ρ' W/\VRl ρ' ds cs'/\dI P H' n H.length H'.length t ds) :
  ∀(ts:List TypeId) (cs cs':List Value) (Y:Ren) (H:Heap),dy (Good P H n) ts cs->VRl Y cs cs'->Rel P B Y H W->Low B Y W->∃ρ' H' ds,Ext P B W Y H ρ' H'/\Low B ρ' W/\VRl ρ' ds cs'/\jt (dI P H' n) H.length H'.length ts ds:=by
 intro ts
 induction ts with
 |nil=>intro cs cs' Y H h hv hr hl;rw[show cs=[] from h]at hv;exact ⟨Y,H,[],Ext.refl hr,hl,hv,rfl,Nat.le_refl _⟩
 |cons t ts ih =>
  rintro cs cs' Y H ⟨c,rest,rfl,h1,h2⟩ hv hr hlow
  have hl:(c++rest).length=cs'.length:=hv.1
  rw[ao]at hl
  have v1:VRl Y c (cs'.take c.length):=⟨by rw[List.length_take];omega,fun i v v' a b=>by
   have hi:=(List.getElem?_eq_some_iff.1 a).1
   rw[List.getElem?_take,if_pos hi]at b
   exact hv.2 i v v' (by rw[List.getElem?_append_left hi];exact a) b⟩
  have v2:VRl Y rest (cs'.drop c.length):=⟨by rw[List.length_drop];omega,fun i v v' a b=>by
   rw[List.getElem?_drop]at b
   exact hv.2 (c.length+i) v v' (by rw[List.getElem?_append_right (by omega),Nat.add_sub_cancel_left];exact a) b⟩
  obtain ⟨ρ1,H1,d1,x1,l1,w1,g1⟩:=IH t c _ Y H h1 v1 hr hlow
  obtain ⟨K1,rfl⟩:=x1.pre
  obtain ⟨ρ2,H2,d2,x2,l2,w2,g2⟩:=ih rest _ ρ1 _ (dy.mono (fun _ _=>Good.mono) h2) (v2.mono x1.le) x1.rel l1
  refine ⟨ρ2,H2,d1++d2,x1.trans x2,l2,?_,_,d1,d2,rfl,?_,g2⟩
  ·have:=VRl.append (w1.mono x2.le) w2
   rw[List.take_append_drop]at this
   exact this
  ·obtain ⟨K2,rfl⟩:=x2.pre
   exact g1.mono
theorem D3{B:Nat}{W:World}(hbase:B=W.heap.size):∀(n:Nat) (t:TypeId) (cs cs':List Value) (Y:Ren) (H:Heap),Good P H n t cs->VRl Y cs cs'->Rel P B Y H W->Low B Y W->∃ρ' H' ds,Ext P B W Y H ρ' H'/\Low B ρ' W/\VRl ρ' ds cs'/\dI P H' n H.length H'.length t ds:=by
 intro n
 induction n with
 |zero=>intro t cs cs' Y H h;exact h.elim
 |succ n ih =>
  intro t cs cs' Y H h hv hr hlow
  unfold Good at h
  split at h
  ·rename_i hu;exact ⟨Y,H,cs,Ext.refl hr,hlow,hv,by unfold dI;rw[hu];exact ⟨Nat.le_refl _,h⟩⟩
  ·rename_i k hu;exact ⟨Y,H,cs,Ext.refl hr,hlow,hv,by unfold dI;rw[hu];exact ⟨Nat.le_refl _,h⟩⟩
  ·rename_i hu;exact ⟨Y,H,cs,Ext.refl hr,hlow,hv,by unfold dI;rw[hu];exact ⟨Nat.le_refl _,h⟩⟩
  ·rename_i fs hu
   obtain ⟨ρ',H',ds,x,l,w,g⟩:=An ih _ cs cs' Y H h hv hr hlow
   exact ⟨ρ',H',ds,x,l,w,by unfold dI;rw[hu];exact ⟨by obtain ⟨K,rfl⟩:=x.pre;simp,g⟩⟩
  ·rename_i e hu
   rcases h with h|h|⟨id,len,csi,h1,h2,h3,h4,h5⟩
   ·exact ⟨Y,H,cs,Ext.refl hr,hlow,hv,by unfold dI;rw[hu];exact ⟨Nat.le_refl _,.inl h⟩⟩
   ·exact ⟨Y,H,cs,Ext.refl hr,hlow,hv,by unfold dI;rw[hu];exact ⟨Nat.le_refl _,.inr (.inl h)⟩⟩
   ·subst h1
    have hl1:cs'.length=1:=hv.1.symm
    obtain ⟨x,rfl⟩:=List.length_eq_one_iff.1 hl1
    have hx:=hv.2 0 _ x rfl rfl
    have hid:∃r,Y id=some r:=by
     generalize hz:(Value.slice (some ⟨id,0,none⟩) len len)=z at hx
     cases hx <;> cases hz <;> exact ⟨_,‹_›⟩
    obtain ⟨r,hid⟩:=hid
    obtain ⟨m,ty,fz,hb,hle,hvr,hsz⟩:=rL (hr.obj id r _ hid h2)
    obtain ⟨ds,w,g⟩:=om (B:=B) (W:=W) (JG hr hlow n) _ csi _ h5 hvr
    have hdl:ds.length=csi.length:=by
     have e1:=w.1
     have e2:=hvr.1
     omega
    have hrb:=hlow.2 id r hid
    have x2:=Ext.row (P:=P) hr (ri:=⟨r.b,r.s,m.size,0,false⟩) (cs:=ds) rfl rfl (by rw[<- hbase];exact hrb) hrb ⟨m,ty,fz,hb,rfl,fun i v hv=>by
     have hi:=(List.getElem?_eq_some_iff.1 hv).1
     have hlen:i<((m.toList.drop r.s).take csi.length).length:=by rw[<- w.1];exact hi
     have hg:=List.getElem?_eq_getElem hlen
     refine ⟨_,?_,w.2 i v _ hv hg⟩
     rw[<- hg,List.getElem?_take,if_pos (by omega),List.getElem?_drop,Array.getElem?_toList,Nat.add_comm]⟩
    refine ⟨_,_,[.slice (some ⟨H.length,0,none⟩) len len],x2,hlow.set hrb,.cons ?_ (.nil _),?_⟩
    ·generalize hz:(Value.slice (some ⟨id,0,none⟩) len len)=z at hx
     cases hx <;> cases hz
     ·rename_i r' cap' h' _ hc _
      rw[hid]at h';cases h'
      exact VR.slice (Y:=Y.set H.length ⟨r.b,r.s,m.size,0,false⟩) (id:=H.length) (o:=0) (r:=⟨r.b,r.s,m.size,0,false⟩) (Ren.aM ..) (Nat.le_refl _) hc (fun h=>by cases h)
     ·rename_i r' o' h'
      rw[hid]at h';cases h'
      exact VR.br (r:=⟨r.b,r.s,m.size,0,false⟩) (Ren.aM ..)
    ·unfold dI
     rw[hu]
     exact ⟨by simp,.inr (.inr ⟨H.length,len,ds,⟨Nat.le_refl _,by simp⟩,rfl,by simp,by rw[hdl];exact h3,h4,g⟩)⟩
  ·rename_i k e hu
   obtain ⟨ρ',H',ds,x,l,w,g⟩:=An ih _ cs cs' Y H h hv hr hlow
   exact ⟨ρ',H',ds,x,l,w,by unfold dI;rw[hu];exact ⟨by obtain ⟨K,rfl⟩:=x.pre;simp,g⟩⟩
  ·exact h.elim
def eF(P:Program)(H:Heap)(n lo hi:Nat)(t:TypeId)(v:Value):Prop :=
 match P.underlying t with
 |some (.struct _) => ∃cs:List Value,v = .agg ⟨cs⟩/\dI P H n lo hi t cs
 |_=>dI P H n lo hi t [v]
def lJ(P:Program)(H:Heap)(n:Nat):Nat->List TypeId->List Value->Prop
 |_,[],[] =>True
 |lo,t :: ts,v :: vs => ∃mid,eF P H n lo mid t v/\lJ P H n mid ts vs
 |_,_,_=>False
theorem eF.mono{H K:Heap}{n lo hi:Nat}{t:TypeId}{v:Value}(h:eF P H n lo hi t v):eF P (H++K) n lo hi t v:=by
 unfold eF at h ⊢
 split at h
 ·obtain ⟨cs,h1,h2⟩:=h;exact ⟨cs,h1,h2.mono⟩
 ·exact h.mono
theorem Gu{B:Nat}{W:World}(hbase:B=W.heap.size){n:Nat}{t:TypeId}{v v':Value}{Y:Ren}{H:Heap}(h:kl P H n t v)(hv:VR Y v v')(hr:Rel P B Y H W)(hlow:Low B Y W) :
  ∃ρ' H' v2,Ext P B W Y H ρ' H'/\Low B ρ' W/\VR ρ' v2 v'/\eF P H' n H.length H'.length t v2:=by
 unfold kl at h
 split at h
 ·rename_i fs hu
  obtain ⟨cs,rfl,h⟩:=h
  cases hv with
  | @agg _ cs' h1 h2 =>
   obtain ⟨ρ',H',ds,x,l,w,g⟩:=D3 hbase n t cs cs'.toList Y H h ⟨by simpa using h1,fun i a b c d=>h2 i a b (by simpa using c) (by simpa using d)⟩ hr hlow
   refine ⟨ρ',H',.agg ⟨ds⟩,x,l,.agg (by have:=w.1;simpa using this) (fun i a b c d=>w.2 i a b (by simpa using c) (by simpa using d)),?_⟩
   unfold eF;rw[hu];exact ⟨ds,rfl,g⟩
 ·rename_i hns
  obtain ⟨ρ',H',ds,x,l,w,g⟩:=D3 hbase n t [v] [v'] Y H h (.cons hv (.nil Y)) hr hlow
  have hl:ds.length=1:=w.1
  obtain ⟨v2,rfl⟩:=List.length_eq_one_iff.1 hl
  refine ⟨ρ',H',v2,x,l,w.2 0 v2 v' rfl rfl,?_⟩
  unfold eF
  split
  ·rename_i fs hu;exact absurd hu (hns fs)
  ·exact g
theorem Gv{B:Nat}{W:World}(hbase:B=W.heap.size){n:Nat}:∀(ts:List TypeId) (vs vs':List Value) (Y:Ren) (H:Heap),wJ P H n ts vs->VRl Y vs vs'->Rel P B Y H W->Low B Y W ->
  ∃ρ' H' ws,Ext P B W Y H ρ' H'/\Low B ρ' W/\VRl ρ' ws vs'/\lJ P H' n H.length ts ws:=by
 intro ts
 induction ts with
 |nil =>
  intro vs vs' Y H h hv hr hl
  match vs,h with
  | [],_=>exact ⟨Y,H,[],Ext.refl hr,hl,hv,trivial⟩
 |cons t ts ih =>
  intro vs vs' Y H h hv hr hl
  match vs,h with
  |v :: vs,⟨h1,h2⟩ =>
   match vs',hv with
   | [],hv=>exact absurd hv.1 (by simp)
   |v' :: vs',hv =>
    obtain ⟨ρ1,H1,w1,x1,l1,r1,g1⟩:=Gu hbase h1 (hv.2 0 v v' rfl rfl) hr hl
    obtain ⟨K1,rfl⟩:=x1.pre
    have hA:∀{ts:List TypeId} {vs:List Value},wJ P H n ts vs->wJ P (H++K1) n ts vs:=by
     intro ts
     induction ts with
     |nil=>intro vs h;match vs,h with| [],_=>trivial
     |cons t ts ih=>intro vs h;match vs,h with|v :: vs,⟨a,b⟩=>exact ⟨a.mono,ih b⟩
    obtain ⟨ρ2,H2,ws,x2,l2,r2,g2⟩:=ih vs vs' ρ1 _ (hA h2) ((show VRl Y vs vs' from ⟨by have:=hv.1;simpa using this,fun i a b c d=>hv.2 (i+1) a b (by simpa using c) (by simpa using d)⟩).mono x1.le) x1.rel l1
    obtain ⟨K2,rfl⟩:=x2.pre
    exact ⟨ρ2,_,w1 :: ws,x1.trans x2,l2,.cons (r1.mono x2.le) r2,_,g1.mono,g2⟩
theorem xe{N n b0:Nat}{ts:List TypeId}{args:Array Value}{W:World}{ds:List (DataW HH)}{ps:List MemPlace}{held:Bool}(hG:P.globals.size<=W.heap.size)(hplain:ts.all (EO P n)=true)
  (hok:∀(j:Nat) (t:TypeId) (v:Value),ts[j]?=some t->args.toList[j]?=some v->Value.okWide P W .any b0 t v) (h:DataW.TrodAll enc P W 0 (fun _=>true) held ts args.toList ds ps)
  (MB:∀(H:Heap) (lo:Nat) (vs:List Value),lJ P H n lo ts vs->ad P N vs H [] (fun v _=>v = .bool true)) :
  Calls P N args W fun e W'=>e = .returned (.bool true)/\RowKit.Below W.heap.size W W':=by
 have hr:Rel P W.heap.size ⟨fun g=>if g<P.globals.size then some ⟨g,0,0,0,false⟩ else none,fun b=>match W.heap[b]? with|some (.cells m _ _)=>some m|_=>none,fun _ _=>none⟩ (List.replicate P.globals.size .dead) W:=by
  have eY:∀(id:Nat) (o:ab),(List.replicate P.globals.size ab.dead)[id]?=some o->o = .dead:=fun id o ho=>by
   rw[List.getElem?_replicate]at ho
   split at ho
   ·cases ho;rfl
   ·cases ho
  refine ⟨Nat.le_refl _,fun g hg=>⟨_,if_pos hg,rfl,rfl⟩,fun id r h1 =>?_,fun id r h1 =>?_,fun id r o h1 h2 =>?_,fun id r o h1 h2 h3 =>?_,fun id id' r r' o o' h1 h1' h2 h2' h3 _ _ =>?_,fun b m hm=>⟨?_,fun id r o h1 h2 h3 =>?_⟩,iL.vk (fun _ _ _ h=>by cases h) (fun _ _ _ h=>by cases h) (fun F z cs h=>by have:=eY F _ h;cases this)⟩
  ·dsimp only at h1
   split at h1
   ·simpa using ‹id<_›
   ·cases h1
  ·dsimp only at h1
   split at h1
   ·cases h1;exact Nat.lt_of_lt_of_le ‹id<_› hG
   ·cases h1
  ·rw[eY id o h2];trivial
  ·rw[eY id o h2]at h3;cases h3
  ·rw[eY id o h2]at h3;cases h3
  ·dsimp only at hm
   split at hm
   ·rename_i m' ty fz e;cases hm;exact ⟨ty,fz,e⟩
   ·cases hm
  ·rw[eY id o h2]at h3;cases h3
 have Lj:Low W.heap.size ⟨fun g=>if g<P.globals.size then some ⟨g,0,0,0,false⟩ else none,fun b=>match W.heap[b]? with|some (.cells m _ _)=>some m|_=>none,fun _ _=>none⟩ W:=by
  refine ⟨fun b m ty fz _ hb=>by show (match W.heap[b]? with|some (.cells m _ _)=>some m|_=>none)=_;rw[hb],fun id r h1 =>?_⟩
  dsimp only at h1
  split at h1
  ·cases h1;exact Nat.lt_of_lt_of_le ‹id<_› hG
  ·cases h1
 obtain ⟨ρ',H',vs',e,hv,g⟩:=xX rfl ts args.toList ds ps _ _ hplain hok h hr
 have Li:Low W.heap.size ρ' W:=⟨fun b m ty fz h1 h2=>e.le.mem b m (Lj.1 b m ty fz h1 h2),fun id r h1=>e.rel.lt id r h1⟩
 obtain ⟨ρ2,H2,ws,e2,_,hv2,g2⟩:=Gv rfl ts vs' args.toList ρ' H' g hv e.rel Li
 refine callsIn_wide.1 (((MB H2 _ ws g2).2 _ ρ2 W args e2.rel hv2).mono ?_)
 rintro en w' ⟨v,v',ρ3,H3,rfl,h1,h2,rfl⟩
 cases h1
 exact ⟨rfl,h2.below e2.rel⟩
end Go.K
namespace Go.Proofs.YtbgfjemppjhmjaaGreat
open Go Go.K Go.ChangeShapes Go.WideShapes Go.ChangeAt Go.RowKit
noncomputable section
theorem eD{H:Heap}{n lo:Nat}{t:TypeId}{ts:List TypeId}{vs:List Value}(h:lJ Tryz.prog H n lo (t :: ts) vs):∃mid v vs',vs=v :: vs'/\eF Tryz.prog H n lo mid t v/\lJ Tryz.prog H n mid ts vs':=by
 cases vs with
 |nil=>exact h.elim
 |cons v vs=>obtain ⟨mid,h1,h2⟩:=h;exact ⟨mid,v,vs,rfl,h1,h2⟩
theorem xN{H:Heap}{n lo:Nat}{vs:List Value}(h:lJ Tryz.prog H n lo [] vs):vs=[]:=by
 cases vs with
 |nil=>rfl
 |cons v vs=>exact h.elim
theorem kc{H:Heap}:∀{n lo hi:Nat} {t:TypeId} {cs:List Value},dI Tryz.prog H n lo hi t cs->lo<=hi:=by
 intro n lo hi t cs h
 cases n with
 |zero=>exact h.elim
 |succ n=>unfold dI at h;exact h.1
theorem kC{H:Heap}{n lo hi:Nat}{t:TypeId}{v:Value}(h:eF Tryz.prog H n lo hi t v):lo<=hi:=by
 unfold eF at h
 split at h
 ·obtain ⟨cs,_,h⟩:=h;exact kc h
 ·exact kc h
theorem kD{H:Heap}{n lo hi:Nat}{c:List Value}(h:dI Tryz.prog H (n+1) lo hi 3 c):∃x:Int,c=[.int .i64 x]/\inI x:=by
 unfold dI at h
 rw[show Tryz.prog.underlying 3=some (.int .i64) by kernel_rfl]at h
 obtain ⟨_,x,rfl,h1,h2⟩:=h
 refine ⟨x,rfl,?_⟩
 simp only[IntKind.min,IntKind.max,IntKind.signed,IntKind.bits]at h1 h2
 unfold inI
 simp at h1 h2
 omega
theorem ig{H:Heap}{lo hi:Nat}{v:Value}(h:eF Tryz.prog H 6 lo hi 3 v):∃x:Int,v = .int .i64 x/\inI x:=by
 unfold eF at h
 rw[show Tryz.prog.underlying 3=some (.int .i64) by kernel_rfl]at h
 obtain ⟨x,h1,h2⟩:=kD h
 exact ⟨x,by simpa using h1,h2⟩
def RdL{α:Type}(H:Heap)(lo hi:Nat)(f:α->List Value)(v:Value)(xs:List α):Prop :=
 lo<=hi/\((xs=[]/\∀id,wk v (.slice (some ⟨id,0,some 2⟩) xs.length xs.length))∨∃id,(lo<=id/\id<hi/\id<H.length)/\wk v (.slice (some ⟨id,0,some 2⟩) xs.length xs.length)/\H[id]?=some (.cells false 0 (xs.flatMap f)))
theorem jP{α:Type}{f:α->List Value}{H:Heap}{n lo hi t e:Nat}{cs:List Value}(hu:Tryz.prog.underlying t=some (.slice e))(hg:∀c,eG Tryz.prog n e c->∃x:α,c=f x/\True)(h:dI Tryz.prog H (n+1) lo hi t cs) :
  ∃(v:Value) (xs:List α),cs=[v]/\RdL H lo hi f v xs:=by
 unfold dI at h
 rw[hu]at h
 obtain ⟨hle,h⟩:=h
 rcases h with h|h|⟨id,len,cs',h0,h1,h2,h3,h4,h5⟩
 ·exact ⟨_,[],h,hle,.inl ⟨rfl,fun id=>ah _ _ _ (.inr rfl)⟩⟩
 ·exact ⟨_,[],h,hle,.inl ⟨rfl,fun id=>L7 _ _ _ (.inr rfl)⟩⟩
 ·obtain ⟨xs,rfl,rfl,_⟩:=qb (f:=f) (q:=fun _=>True) hg len cs' h5
  exact ⟨_,xs,h1,hle,.inr ⟨id,⟨h0.1,h0.2,(List.getElem?_eq_some_iff.1 h2).1⟩,nR,h2⟩⟩
theorem RdL.pick{α:Type}{H:Heap}{lo hi:Nat}{f:α->List Value}{v:Value}{xs:List α}(h:RdL H lo hi f v xs)(k n:Nat)(hk:k<n) :
  ∃id,wk v (.slice (some ⟨id,0,some 2⟩) xs.length xs.length)/\(H++List.replicate n (.cells false 0 []))[id]?=some (.cells false 0 (xs.flatMap f))/\((lo<=id/\id<hi/\id<H.length)∨id=H.length+k):=by
 rcases h.2 with ⟨rfl,h1⟩|⟨id,h1,h2,h3⟩
 ·refine ⟨H.length+k,h1 _,?_,.inr rfl⟩
  rw[List.getElem?_append_right (by omega),List.getElem?_replicate,if_pos (by omega)];rfl
 ·exact ⟨id,h2,by rw[List.getElem?_append_left h1.2.2];exact h3,.inl h1⟩
theorem KI(ns:List Int)(h:ns.length=2):∃x:Int×Int,ns.map (Value.int .i64)=spC x:=by
 match ns,h with
 | [x,y],_=>exact ⟨(x,y),rfl⟩
theorem DG{n:Nat}:∀c,eG Tryz.prog (n+1) 4 c->∃x:Bool,c=af x/\True:=by
 intro c h
 unfold eG at h
 rw[show Tryz.prog.underlying 4=some .bool by kernel_rfl]at h
 obtain ⟨b,rfl⟩:=h
 exact ⟨b,rfl,trivial⟩
theorem rB{t:TypeId}{l:List TypeId}(h:(match Tryz.prog.underlying t with|some (.struct fs)=>decide (fs.toList.map (·.type)=l)|_=>false)=true):∃fs,Tryz.prog.underlying t=some (.struct fs)/\fs.toList.map (·.type)=l:=by
 split at h
 ·rename_i fs e;exact ⟨fs,e,av h⟩
 ·cases h
theorem Ay{H:Heap}{lo hi:Nat}{v:Value}(h:eF Tryz.prog H 6 lo hi 90 v) :
  ∃(w x:Int) (va:Value) (p:Int) (vs:Value) (a:List Bool) (ss:List (Int×Int)) (m1 m2 m3:Nat),v = .agg #[.int .i64 w,.int .i64 x,va,.int .i64 p,vs]/\RdL H m1 m2 af va a/\RdL H m3 hi spC vs ss/\lo<=m1/\m2<=m3:=by
 unfold eF at h
 obtain ⟨fs,hu,e1⟩:=rB (t:=90) (l:=[87,3,88]) (by kernel_rfl)
 rw[hu]at h
 obtain ⟨cs,rfl,h⟩:=h
 unfold dI at h
 rw[hu]at h
 obtain ⟨_,h⟩:=h
 dsimp only at h
 rw[e1]at h
 obtain ⟨n1,c1,r1,rfl,h1,n2,c2,r2,rfl,h2,n3,c3,r3,rfl,h3,rfl,h4⟩:=h
 obtain ⟨p,rfl,_⟩:=kD h2
 obtain ⟨vs,ss,rfl,q3⟩:=jP (f:=spC) (e:=91) (by kernel_rfl) (qd (n:=2) (by kernel_rfl) KI) h3
 obtain ⟨gs,hv,e2⟩:=rB (t:=87) (l:=[3,3,27]) (by kernel_rfl)
 unfold dI at h1
 rw[hv]at h1
 obtain ⟨_,h1⟩:=h1
 dsimp only at h1
 rw[e2]at h1
 obtain ⟨k1,d1,s1,rfl,g1,k2,d2,s2,rfl,g2,k3,d3,s3,rfl,g3,rfl,g4⟩:=h1
 obtain ⟨w,rfl,_⟩:=kD g1
 obtain ⟨x,rfl,_⟩:=kD g2
 obtain ⟨va,a,rfl,q1⟩:=jP (f:=af) (e:=4) (by kernel_rfl) DG g3
 have l1:=kc g1
 have l2:=kc g2
 have l3:=kc h2
 have hi3:RdL H n2 hi spC vs ss:=⟨Nat.le_trans q3.1 h4,by
  rcases q3.2 with q|⟨id,a1,a2,a3⟩
  ·exact .inl q
  ·exact .inr ⟨id,⟨a1.1,by omega,a1.2.2⟩,a2,a3⟩⟩
 exact ⟨w,x,va,p,vs,a,ss,k2,k3,n2,rfl,q1,hi3,by omega,by omega⟩
theorem xH{H:Heap}{lo hi:Nat}{v:Value}(h:eF Tryz.prog H 6 lo hi 22 v):∃c:List Int,RdL H lo hi ai v c:=by
 have hu:Tryz.prog.underlying 22=some (.slice 3):=by kernel_rfl
 unfold eF at h
 rw[hu]at h
 obtain ⟨v',c,e,q⟩:=jP (f:=ai) (e:=3) hu (qd (by kernel_rfl) IQ) h
 cases e
 exact ⟨c,q⟩
end
end Go.Proofs.YtbgfjemppjhmjaaGreat
