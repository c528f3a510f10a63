/- Functions that read blocks of which they own none: their contracts in every memory. No condition. -/
import Derived.Test.YtkkgnalgmebfjaaGreatGV9xV12
open Go Go.K
set_option linter.unusedVariables false
set_option linter.unusedSimpArgs false
namespace Go.K
noncomputable section
variable {P:Program}
theorem wO{Z ρ':Ren}{V:Nat->Option Nat}(hσ:∀id id' r,V id=some id'->ρ' id'=some r->∃r',Z id=some r'/\r'.b=r.b/\r'.s=r.s/\r'.own=false)(hm:∀b m,ρ'.mem b=some m->Z.mem b=some m)(hg:∀F F' k r,V F=some F'->ρ'.g F' k=some r->Z.g F k=some r):∀(d:Nat) {v r:Value},VR ρ' (rn V d v) r->VR Z v r:=by
 intro d
 induction d with
 |zero=>intro v r h;exact (VR.bad h).elim
 |succ d ih =>
  have ptr:∀{id id' off:Nat} {r:RI},V id=some id'->ρ' id'=some r->VR Z (.pointer (some ⟨id,off,none⟩)) (.pointer (some ⟨r.b,off+r.s,none⟩)):=by
   intro id id' off r g k
   obtain ⟨r',a1,a2,a3,_⟩:=hσ _ _ _ g k
   rw[<- a2,<- a3];exact .ptr a1
  have slc:∀{id id' off len cap cap':Nat} {r:RI},V id=some id'->ρ' id'=some r->len<=cap->cap<=cap'->VR Z (.slice (some ⟨id,off,none⟩) len cap) (.slice (some ⟨r.b,off+r.s,none⟩) len cap'):=by
   intro id id' off len cap cap' r g k hl hc
   obtain ⟨r',a1,a2,a3,a4⟩:=hσ _ _ _ g k
   rw[<- a2,<- a3];exact .slice a1 hl hc (fun h=>by rw[a4]at h;cases h)
  have slQ:∀{id id' off len cap cap':Nat} {r:RI},V id=some id'->ρ' id'=some r->0<len->len<=cap->cap<=cap'->VR Z (.slice (some ⟨id,off,some 1⟩) len cap) (.slice (some ⟨r.b,off+r.s,none⟩) len cap'):=by
   intro id id' off len cap cap' r g k hp hl hc
   obtain ⟨r',a1,a2,a3,a4⟩:=hσ _ _ _ g k
   rw[<- a2,<- a3];exact .bF a1 hp hl hc (fun h=>by rw[a4]at h;cases h)
  have slR:∀{id id' off len cap cap':Nat} {r:RI},V id=some id'->ρ' id'=some r->0<len->len<=cap->cap<=cap'->VR Z (.slice (some ⟨id,off,some 2⟩) len cap) (.slice (some ⟨r.b,off+r.s,none⟩) len cap'):=by
   intro id id' off len cap cap' r g k hp hl hc
   obtain ⟨r',a1,a2,a3,a4⟩:=hσ _ _ _ g k
   rw[<- a2,<- a3];exact .bQ a1 hp hl hc (fun h=>by rw[a4]at h;cases h)
  intro v r h
  unfold rn at h
  split at h
  ·split at h
   ·rename_i g;cases h with|ptr k=>exact ptr g k
   ·exact (VR.bad h).elim
  ·split at h
   ·rename_i g;cases h with|eR k=>exact .eR (hg _ _ _ _ g k)
   ·exact (VR.bad h).elim
  ·split at h
   ·rename_i g
    cases h with
    |slice k hl hc ho=>exact slc g k hl hc
    |bK k=>obtain ⟨r',a1,a2,a3,_⟩:=hσ _ _ _ g k;rw[<- a2];exact .bK a1
   ·exact (VR.bad h).elim
  ·split at h
   ·rename_i g
    cases h with
    |ba=>exact .ba
    |bb=>exact .bb
    |bF k hp hl hc ho=>exact slQ g k hp hl hc
    |bf=>exact .bf
    |bQ k hp hl hc ho=>exact slR g k hp hl hc
   ·split at h
    ·cases h with
     |ba=>exact .ba
     |bb=>exact .bb
     |bF k hp hl hc ho=>exact absurd hp (Nat.lt_irrefl 0)
     |bf=>exact .bf
     |bQ k hp hl hc ho=>exact absurd hp (Nat.lt_irrefl 0)
    ·exact (VR.bad h).elim
  ·split at h
   ·rename_i g;cases h with|map k=>obtain ⟨r',a1,a2,_⟩:=hσ _ _ _ g k;rw[<- a2];exact .map a1
   ·exact (VR.bad h).elim
  ·split at h
   ·rename_i g;cases h with|yield k=>obtain ⟨r',a1,a2,_⟩:=hσ _ _ _ g k;rw[<- a2];exact .yield a1
   ·exact (VR.bad h).elim
  ·cases h with
   |func h1 h2 h3 h4 =>
    obtain ⟨a1,a2⟩:=gg ih h1 h2
    obtain ⟨b1,b2⟩:=gg ih h3 h4
    exact .func a1 a2 b1 b2
  ·exact (VR.bad h).elim
  ·cases h with|agg h1 h2=>obtain ⟨a1,a2⟩:=gg ih h1 h2;exact .agg a1 a2
  ·cases h with|tuple h1 h2=>obtain ⟨a1,a2⟩:=gg ih h1 h2;exact .tuple a1 a2
  ·cases h with
   |deep g1 g2 g3 g4 g5=>obtain ⟨a1,a2⟩:=kC ih g4 g5;exact .deep (hm _ _ g1) g2 g3 a1 a2
   |cu=>exact .cu
  ·cases h with|cL g1 g2 g3=>obtain ⟨a1,a2⟩:=kC ih g2 g3;exact .cL (hm _ _ g1) a1 a2
  ·split at h
   ·rename_i g
    cases h with
    |fsl k hp hc hs ho=>exact .fsl (hg _ _ _ _ g k) hp hc hs ho
    |dc=>exact .dc
   ·split at h
    ·cases h with|dc=>exact .dc
    ·exact (VR.bad h).elim
  ·rename_i n1 n1f n2 n2q n3 n4 n5 n6 n7 n8 n9 n10 n11
   cases h with
   |junk=>exact .junk _
   |bool b=>exact .bool b
   |int k n=>exact .int k n
   |float k n=>exact .float k n
   |string s=>exact .string s
   |cO=>exact .cO
   |ptr k=>exact absurd rfl (n1 _ _)
   |eR k=>exact absurd rfl (n1f _ _ _)
   |bG=>exact .bG
   |slice k hl hc ho=>exact absurd rfl (n2 _ _ _ _)
   |bK k=>exact absurd rfl (n2 _ _ _ _)
   |cq=>exact .cq
   |ba=>exact .ba
   |bb=>exact .bb
   |bF=>exact absurd rfl (n2q _ _ _ _ _)
   |bf=>exact .bf
   |bQ=>exact absurd rfl (n2q _ _ _ _ _)
   |cP=>exact .cP
   |map k=>exact absurd rfl (n3 _)
   |nilFunc=>exact .nilFunc
   |nilIface=>exact .nilIface
   |func h1 h2 h3 h4=>exact absurd rfl (n5 _ _ _)
   |yield k=>exact absurd rfl (n4 _)
   |agg h1 h2=>exact absurd rfl (n7 _)
   |tuple h1 h2=>exact absurd rfl (n8 _)
   |deep=>exact absurd rfl (n9 _ _)
   |cu=>exact absurd rfl (n9 _ _)
   |fsl=>exact absurd rfl (n11 _ _ _ _)
   |dc=>exact .dc
   |cL=>exact absurd rfl (n10 _ _)
def c8(n0 id:Nat):Option Nat:=if id<n0 then none else some id
def eN(n0 n id:Nat):Option Nat:=if id<n0 then none else some (n+(id-n0))
structure Reads(P:Program)(H0 H:Heap)(V:Nat->Option Nat)(d:Nat):Prop where
 dR:∀g,g<P.globals.size->V g=some g
 dom:∀id id',V id=some id'->id<H0.length
 len:P.globals.size<=H0.length
 obj:∀(id:Nat) (o:ab),H0[id]?=some o->o = .dead∨∃cs,o = .cells false 0 cs
 rd:∀(id id':Nat) (cs:List Value),V id=some id'->H0[id]?=some (.cells false 0 cs)->∃own z D,H[id']?=some (.cells own z (cs.map (rn V d)++D))
theorem am.reads{f:FuncId}{args:List Value}{H0 H new:Heap}{v:Value}{V:Nat->Option Nat}{d:Nat}(hp:Reads P H0 H V d)(h:am P f args H0 [] (Is v (H0++new)))
  (hv:dw d v=true) (hv2:rn (c8 H0.length) d v=v) (hn:new.all (fun o=>d8 d o&&o.owned)=true) (hn2:new.map (rno (c8 H0.length) d)=new) :
  am P f (args.map (rn V d)) H [] (Is (rn (eN H0.length H.length) d v) (H++new.map (rno (eN H0.length H.length) d))):=by
 refine ⟨h.1,fun B Z w args' hr ha =>?_⟩
 let ρs:Ren:=⟨fun id=>(V id).bind fun id'=>(Z id').map fun r=>⟨r.b,r.s,r.n,0,false⟩,Z.mem,fun F k=>(V F).bind fun F'=>Z.g F' k⟩
 have hσ:∀id id' r,V id=some id'->Z id'=some r->ρs id=some ⟨r.b,r.s,r.n,0,false⟩:=by
  intro id id' r h1 h2;show Option.bind _ _=_;rw[h1];show Option.map _ _=_;rw[h2];rfl
 have hσd:∀id id' r,V id=some id'->Z id'=some r->∃r',ρs id=some r'/\r'.b=r.b/\r'.s=r.s/\r'.own=false:=fun id id' r h1 h2=>⟨_,hσ _ _ _ h1 h2,rfl,rfl,rfl⟩
 have hσg:∀F F' k r,V F=some F'->Z.g F' k=some r->ρs.g F k=some r:=by intro F F' k r h1 h2;show Option.bind _ _=_;rw[h1];exact h2
 have eF:∀{F k r},ρs.g F k=some r->∃F',V F=some F'/\Z.g F' k=some r:=fun h=>Option.bind_eq_some_iff.1 h
 have xL:∀{F:Nat} {z:Nat} {cs:List Value},H0[F]?=some (.fam z cs)->False:=fun {F z cs} mh=>by
  rcases hp.obj F _ mh with h|⟨_,h⟩ <;> cases h
 have hnf:∀{F k r z cs},FM ρs H0 F k r z cs->False:=fun m=>xL m.h
 have hsome:∀{id r},ρs id=some r->∃id' r0,V id=some id'/\Z id'=some r0/\r=⟨r0.b,r0.s,r0.n,0,false⟩:=by
  intro id r h
  obtain ⟨id',h1,h2⟩:=Option.bind_eq_some_iff.1 h
  obtain ⟨r0,h3,h4⟩:=bo h2
  exact ⟨id',r0,h1,h3,h4.symm⟩
 have qo:∀(id:Nat) (o:ab),H0[id]?=some o->o.owned=true->False:=by
  intro id o h1 h2
  rcases hp.obj id o h1 with rfl|⟨cs,rfl⟩ <;> cases h2
 have hr0:Rel P B ρs H0 w:=by
  refine ⟨hr.bsize,fun g hg =>?_,fun id r h =>?_,fun id r h =>?_,fun id r o h1 h2 =>?_,fun id r o h1 h2 h3=>(qo id o h2 h3).elim,fun id1 id2 r1 r2 o1 o2 h1 h2 g1 g2 k1 k2 hne=>(qo id1 o1 g1 k1).elim,fun b m hb=>⟨(hr.mem b m hb).1,fun id r o h1 h2 h3=>(qo id o h2 h3).elim⟩,
   ⟨fun F k r h=>by obtain ⟨F',k1,_⟩:=eF h;exact hp.dom _ _ k1,fun F k r h=>by obtain ⟨F',_,k2⟩:=eF h;exact hr.fam.lt _ _ _ k2,fun _ _ _ _ _ m=>(hnf m).elim,fun _ _ _ _ _ m=>(hnf m).elim,fun _ _ _ _ _ _ _ _ _ _ m=>(hnf m).elim,fun _ _ _ _ _ _ _ _ m=>(hnf m).elim,fun _ _ _ _ _ _ _ m=>(hnf m).elim,fun _ _ _ _ _ h=>(xL h).elim⟩⟩
  ·obtain ⟨r,k1,k2,k3⟩:=hr.dR g hg;exact ⟨_,hσ g g r (hp.dR g hg) k1,k2,k3⟩
  ·obtain ⟨id',r0,h1,_,_⟩:=hsome h;exact hp.dom _ _ h1
  ·obtain ⟨id',r0,_,h2,rfl⟩:=hsome h;exact hr.lt id' r0 h2
  ·obtain ⟨id',r0,k1,k2,rfl⟩:=hsome h1
   rcases hp.obj id o h2 with rfl|⟨cs,rfl⟩
   ·trivial
   ·obtain ⟨own,z,D,g⟩:=hp.rd id id' cs k1 h2
    obtain ⟨e1,e2,cs',ty,fz,hb,hnz,hfz,hcs⟩:=hr.obj _ _ _ k2 g
    refine ⟨rfl,rfl,cs',ty,fz,hb,hnz,fun h=>(by cases h),fun i x hx =>?_⟩
    obtain ⟨x',y1,y2⟩:=hcs i (rn V d x) (by rw[List.getElem?_append_left (by rw[List.length_map];exact (List.getElem?_eq_some_iff.1 hx).1),List.getElem?_map,hx];rfl)
    exact ⟨x',y1,wO hσd (fun _ _ h=>h) hσg d y2⟩
 have ha0:VRl ρs args args'.toList:=⟨by have:=ha.1;simpa using this,fun i x x' a b=>wO hσd (fun _ _ h=>h) hσg d (ha.2 i (rn V d x) x' (by rw[List.getElem?_map,a];rfl) b)⟩
 refine (h.2 B ρs w args' hr0 ha0).mono ?_
 rintro e w' ⟨v1,v',ρ1,H1,rfl,hv',hpost,rfl,rfl⟩
 have nD:∀b,¬ OB ρs H0 b:=fun b h=>h.elim (fun ⟨id,r,o,_,h2,h3,_⟩=>qo id o h2 h3) (fun ⟨_,_,_,_,_,m,_⟩=>hnf m)
 let ρ2:Ren:=⟨fun id=>if id<H.length then Z id else ρ1 (H0.length+(id-H.length)),ρ1.mem,fun F k=>if F<H.length then Z.g F k else ρ1.g (H0.length+(F-H.length)) k⟩
 let ρn:Ren:=⟨fun id=>if id<H0.length then none else ρ1 id,ρ1.mem,fun F k=>if F<H0.length then none else ρ1.g F k⟩
 have hn1:∀id id' r,c8 H0.length id=some id'->ρ1 id'=some r->ρn id=some r:=by
  intro id id' r h1 h2
  unfold c8 at h1
  split at h1
  ·cases h1
  ·rename_i hlt;cases h1;show (if _ then _ else _)=_;rw[if_neg hlt];exact h2
 have Cx:∀F F' k r,c8 H0.length F=some F'->ρ1.g F' k=some r->ρn.g F k=some r:=by
  intro F F' k r h1 h2
  unfold c8 at h1
  split at h1
  ·cases h1
  ·rename_i hlt;cases h1;show (if _ then _ else _)=_;rw[if_neg hlt];exact h2
 have rW:∀F k r,ρn.g F k=some r->∃F',eN H0.length H.length F=some F'/\ρ2.g F' k=some r:=by
  intro F k r h1
  have h1':(if F<H0.length then none else ρ1.g F k)=some r:=h1
  split at h1'
  ·cases h1'
  ·rename_i hlt
   refine ⟨_,if_neg hlt,?_⟩
   show (if _ then _ else _)=_
   rw[if_neg (by omega),show H0.length+(H.length+(F-H0.length)-H.length)=F by omega];exact h1'
 have xP:∀id r,ρn id=some r->∃id',eN H0.length H.length id=some id'/\ρ2 id'=some r:=by
  intro id r h1
  have h1':(if id<H0.length then none else ρ1 id)=some r:=h1
  split at h1'
  ·cases h1'
  ·rename_i hlt
   refine ⟨_,if_neg hlt,?_⟩
   show (if _ then _ else _)=_
   rw[if_neg (by omega),show H0.length+(H.length+(id-H0.length)-H.length)=id by omega];exact h1'
 have hext:Ren.le Z ρ2:=⟨fun id r h1=>by
  show (if _ then _ else _)=_
  rw[if_pos (hr.dom _ _ h1)];exact h1,hpost.ext.mem,fun F k r h1=>by
  show (if _ then _ else _)=_
  rw[if_pos (hr.fam.dom _ _ _ h1)];exact h1⟩
 have hnew:∀(k:Nat) (o:ab),new[k]?=some o->d8 d o=true/\o.owned=true/\rno (c8 H0.length) d o=o:=by
  intro k o hk
  rw[List.all_eq_true]at hn
  have:=hn o (List.mem_of_getElem? hk)
  simp only[Bool.and_eq_true]at this
  refine ⟨this.1,this.2,?_⟩
  have h3:(new.map (rno (c8 H0.length) d))[k]?=some o:=by rw[hn2];exact hk
  rw[List.getElem?_map,hk]at h3
  exact Option.some.inj h3
 have hfresh:∀id r o,H0.length<=id->ρ1 id=some r->(H0++new)[id]?=some o->w.heap.size<=r.b:=by
  intro id r o hid h1 h2
  have ho:o.owned=true:=by rw[List.getElem?_append_right hid]at h2;exact (hnew _ _ h2).2.1
  rcases Nat.lt_or_ge r.b w.heap.size with hlt|hge
  ·exact absurd (hpost.ob r.b hlt (.inl ⟨id,r,o,h1,h2,ho,rfl⟩)) (nD _)
  ·exact hge
 have fc:∀id o',H.length<=id->(H++new.map (rno (eN H0.length H.length) d))[id]?=some o'->∃o,(H0++new)[H0.length+(id-H.length)]?=some o/\o'=rno (eN H0.length H.length) d o/\d8 d o=true/\o.owned=true/\rno (c8 H0.length) d o=o:=by
  intro id o' hid h2
  rw[List.getElem?_append_right hid,List.getElem?_map]at h2
  obtain ⟨o,a1,rfl⟩:=bo h2
  obtain ⟨x1,x2,x3⟩:=hnew _ _ a1
  refine ⟨o,?_,rfl,x1,x2,x3⟩
  rw[List.getElem?_append_right (by omega),show H0.length+(id-H.length)-H0.length=id-H.length by omega];exact a1
 have eG:∀id,id<H.length->(H++new.map (rno (eN H0.length H.length) d))[id]?=H[id]? := fun id hid=>List.getElem?_append_left hid
 have hoa:∀o:ab,o.owned=true->o.alive=true:=by intro o ho;cases o <;> first|rfl|cases ho
 have hvn:VR ρn v1 v':=by
  have:VR ρ1 (rn (c8 H0.length) d v1) v':=by rw[hv2];exact hv'
  exact jt hn1 (fun _ _ h=>h) Cx d this
 refine ⟨_,v',ρ2,_,rfl,sI xP (fun _ _ h=>h) rW d hv hvn,?_,rfl,rfl⟩
 have fr:∀id r o,¬ id<H.length->ρ1 (H0.length+(id-H.length))=some r->(H++new.map (rno (eN H0.length H.length) d))[id]?=some o->w.heap.size<=r.b:=by
  intro id r o hid a b
  obtain ⟨o0,a1,_,_,_,_⟩:=fc id o (by omega) b
  exact hfresh _ r o0 (by omega) a a1
 have u:∀id,ρ2 id=if id<H.length then Z id else ρ1 (H0.length+(id-H.length)):=fun _=>rfl
 have qp:∀{F k r z cs},ρ2.g F k=some r->(H++new.map (rno (eN H0.length H.length) d))[F]?=some (.fam z cs)->Z.g F k=some r/\H[F]?=some (.fam z cs):=fun {F k r z cs} mg mh=>by
  have h1:(if F<H.length then Z.g F k else ρ1.g (H0.length+(F-H.length)) k)=some r:=mg
  rcases Nat.lt_or_ge F H.length with h|h
  ·rw[if_pos h]at h1
   exact ⟨h1,by rw[<- eG F h];exact mh⟩
  ·obtain ⟨o,_,e,g1,g2,_⟩:=fc F _ h mh
   cases o <;> first|(cases g1;done)|(cases g2;done)|(cases e;done)
 have hfm:∀{F k r z cs},FM ρ2 (H++new.map (rno (eN H0.length H.length) d)) F k r z cs->FM Z H F k r z cs:=fun m=>⟨(qp m.g m.h).1,(qp m.g m.h).2,m.a⟩
 have kw:iy B ρ2 (H++new.map (rno (eN H0.length H.length) d)) w':=by
  refine ⟨fun F k r h1 =>?_,fun F k r h1 =>?_,fun F k r z cs m=>hr.fam.base _ _ _ _ _ (hfm m),fun F k r z cs m=>(hr.fam.obj _ _ _ _ _ (hfm m)).mono hext (hpost.keep _ (hr.fam.lt _ _ _ (hfm m).g) (nD _)),
   fun F k r z cs F' k' r' z' cs' m m'=>hr.fam.sep _ _ _ _ _ _ _ _ _ _ (hfm m) (hfm m'),fun F k r z cs id r' o m h1 h2 h3 =>?_,fun F k r z cs b m' m hb =>?_,fun F k r cs h1 h2=>hr.fam.cnt F k r cs (qp h1 h2).1 (qp h1 h2).2⟩
  ·have h1:(if F<H.length then Z.g F k else ρ1.g (H0.length+(F-H.length)) k)=some r:=h1
   rcases Nat.lt_or_ge F H.length with h|h
   ·simp;omega
   ·rw[if_neg (by omega)]at h1
    have:=hpost.rel.fam.dom _ _ _ h1
    simp at this ⊢;omega
  ·have h1:(if F<H.length then Z.g F k else ρ1.g (H0.length+(F-H.length)) k)=some r:=h1
   rcases Nat.lt_or_ge F H.length with h|h
   ·rw[if_pos h]at h1
    exact Nat.lt_of_lt_of_le (hr.fam.lt _ _ _ h1) hpost.size
   ·rw[if_neg (by omega)]at h1
    exact hpost.rel.fam.lt _ _ _ h1
  ·rw[u]at h1
   rcases Nat.lt_or_ge id H.length with h|h
   ·rw[if_pos h]at h1
    exact hr.fam.sep2 _ _ _ _ _ id r' o (hfm m) h1 (by rw[<- eG id h];exact h2) h3
   ·rw[if_neg (by omega)]at h1
    have:=fr id r' o (by omega) h1 h2
    have:=hr.fam.lt _ _ _ (hfm m).g
    omega
  ·have hb:ρ1.mem b=some m':=hb
   rcases hpost.frz b m' hb with g|g|g
   ·exact hr.fam.mem _ _ _ _ _ b m' (hfm m) g
   ·have:=hr.fam.lt _ _ _ (hfm m).g;omega
   ·exact absurd g (nD _)
 refine ⟨⟨Nat.le_trans hr.bsize hpost.size,fun g hg =>?_,fun id r h1 =>?_,fun id r h1 =>?_,fun id r o h1 h2 =>?_,fun id r o h1 h2 h3 =>?_,fun id1 id2 r1 r2 o1 o2 h1 h2 g1 g2 k1 k2 hne =>?_,fun b m hb=>⟨(hpost.rel.mem b m hb).1,fun id r o h1 h2 h3 =>?_⟩,kw⟩,hext,fun id r h1 h2 =>?_,by simp,fun id h1 h2=>eG id h1,hpost.size,fun b h1 h2=>hpost.keep b h1 (nD b),fun b h1 h2 =>?_,hpost.os,hpost.tape,hpost.output,fun b m hb=>(hpost.frz b m hb).imp id fun h=>h.elim .inl fun h=>(nD b h).elim,hpost.drawn,fun F k r h1 h2 => .inl (by
  have h1:(if F<H.length then Z.g F k else ρ1.g (H0.length+(F-H.length)) k)=some r:=h1
  rcases Nat.lt_or_ge F H.length with h|h
  ·rw[if_pos h,h2]at h1;cases h1
  ·exact h)⟩
 ·obtain ⟨r,k1,k2,k3⟩:=hr.dR g hg;exact ⟨r,hext _ _ k1,k2,k3⟩
 ·rw[u]at h1
  split at h1
  ·rw[br];omega
  ·rename_i hid
   have:=hpost.rel.dom _ _ h1
   rw[br]at this
   rw[br,List.length_map];omega
 ·rw[u]at h1
  split at h1
  ·exact Nat.lt_of_lt_of_le (hr.lt _ _ h1) hpost.size
  ·exact hpost.rel.lt _ _ h1
 ·rw[u]at h1
  split at h1
  ·rename_i hid
   rw[eG id hid]at h2
   exact (hr.obj _ _ _ h1 h2).mono hext (hpost.keep _ (hr.lt _ _ h1) (nD _))
  ·rename_i hid
   obtain ⟨o0,a1,rfl,a3,a4,a5⟩:=fc id o (by omega) h2
   have h6:=hpost.rel.obj _ _ _ h1 a1
   rw[<- a5]at h6
   have hd:rno (c8 H0.length) d o0 = .dead->o0 = .dead:=fun he=>by rw[a5]at he;exact he
   exact pO xP (fun _ _ h=>h) rW a3 (kb hn1 (fun _ _ h=>h) Cx h6 hd)
 ·rw[u]at h1
  split at h1
  ·rename_i hid;rw[eG id hid]at h2;exact hr.base _ _ _ h1 h2 h3
  ·rename_i hid
   obtain ⟨o0,a1,_,a3,a4,_⟩:=fc id o (by omega) h2
   exact hpost.rel.base _ _ _ h1 a1 a4
 ·rw[u]at h1 h2
  by_cases c1:id1<H.length
  ·rw[if_pos c1]at h1
   rw[eG id1 c1]at g1
   by_cases c2:id2<H.length
   ·rw[if_pos c2]at h2
    rw[eG id2 c2]at g2
    exact hr.sep id1 id2 r1 r2 o1 o2 h1 h2 g1 g2 k1 k2 hne
   ·rw[if_neg c2]at h2
    have:=hr.lt _ _ h1
    have:=fr id2 r2 o2 c2 h2 g2
    omega
  ·rw[if_neg c1]at h1
   have f1:=fr id1 r1 o1 c1 h1 g1
   by_cases c2:id2<H.length
   ·rw[if_pos c2]at h2
    have:=hr.lt _ _ h2
    omega
   ·rw[if_neg c2]at h2
    obtain ⟨p1,a1,_,_,a4,_⟩:=fc id1 o1 (by omega) g1
    obtain ⟨p2,b1,_,_,b4,_⟩:=fc id2 o2 (by omega) g2
    exact hpost.rel.sep _ _ r1 r2 p1 p2 h1 h2 a1 b1 a4 (hoa _ b4) (by omega)
 ·rw[u]at h1
  split at h1
  ·rename_i hid
   rw[eG id hid]at h2
   intro he
   rcases hpost.frz b m hb with g|g|g
   ·exact (hr.mem b m g).2 id r o h1 h2 h3 he
   ·have:=hr.lt _ _ h1;omega
   ·exact nD b g
  ·rename_i hid
   obtain ⟨o0,a1,_,a3,a4,_⟩:=fc id o (by omega) h2
   exact (hpost.rel.mem b m hb).2 _ r o0 h1 a1 a4
 ·rw[u]at h1
  split at h1
  ·rw[h2]at h1;cases h1
  ·omega
 ·rcases h2 with ⟨id,r,o,k1,k2,k3,k4⟩|⟨F,k,r,z,cs,m,e⟩
  ·rw[u]at k1
   split at k1
   ·rename_i hid;rw[eG id hid]at k2;exact .inl ⟨id,r,o,k1,k2,k3,k4⟩
   ·rename_i hid
    have:=fr id r o hid k1 k2
    omega
  ·exact .inr ⟨F,k,r,z,cs,hfm m,e⟩
end
end Go.K
namespace Go.K
noncomputable section
variable {P:Program} {mask:Nat} {dm:Value->MS} {rounds:Nat} {mixed:Bool}
def aY(G:Nat)(css:List (List Value)):HT:=css.foldl (fun H cs=>H.push (.cells false 0 cs)) ⟨G,.leaf⟩
def sgR(G:Nat)(ids:List Nat)(i:Nat):Option Nat:=if i<G then some i else ids[i-G]?
theorem mO(G:Nat):∀(css:List (List Value)) (H:HT) (id:Nat),(css.foldl (fun H cs=>H.push (.cells false 0 cs)) H).n=H.n+css.length /\
  (css.foldl (fun H cs=>H.push (.cells false 0 cs)) H).list[id]?=if id<H.n then H.list[id]? else (css[id-H.n]?).map (fun cs=>ab.cells false 0 cs):=by
 intro css
 induction css with
 |nil =>
  intro H id
  refine ⟨rfl,?_⟩
  split
  ·rfl
  ·rw[List.getElem?_eq_none (by rw[List.foldl_nil,HT.length];omega)];simp
 |cons cs css ih =>
  intro H id
  obtain ⟨h1,h2⟩:=ih (H.push (.cells false 0 cs)) id
  have hn:(H.push (.cells false 0 cs)).n=H.n+1:=rfl
  refine ⟨by rw[List.foldl_cons,h1,hn,List.length_cons];omega,?_⟩
  rw[List.foldl_cons,h2,hn,HT.bT]
  by_cases c1:id<H.n
  ·rw[if_pos (by omega),if_pos c1,List.getElem?_append_left (by rw[HT.length];exact c1)]
  ·rw[if_neg c1]
   by_cases c2:id=H.n
   ·rw[if_pos (by omega),List.getElem?_append_right (by rw[HT.length];omega),HT.length,c2];simp
   ·rw[if_neg (by omega),show id-H.n=(id-(H.n+1))+1 by omega,List.getElem?_cons_succ]
theorem ra(G:Nat)(css:List (List Value)):(aY G css).n=G+css.length:=(mO G css ⟨G,.leaf⟩ 0).1
theorem lF(G:Nat)(css:List (List Value))(id:Nat):(aY G css).list[id]?=if id<G then some .dead else (css[id-G]?).map (fun cs=>ab.cells false 0 cs):=by
 rw[show (aY G css).list[id]?=_ from (mO G css ⟨G,.leaf⟩ id).2]
 show (if id<G then _ else _)=_
 split
 ·rename_i h
  rw[HT.aK]
  unfold HT.get
  show cond (Nat.blt id G) _ _=_
  rw[show Nat.blt id G=true by rw[Nat.blt_eq];exact h];rfl
 ·rfl
theorem oN{d:Nat}{css:List (List Value)}{ids:List Nat}{H:Heap}(iL:∀cs∈css,cs.all (aN 0)=true)(jQ:∀(k:Nat) (cs:List Value),css[k]?=some cs->∃id own z D,ids[k]?=some id/\H[id]?=some (ab.cells own z (cs++D)))(hl:ids.length=css.length) :
  Reads P (aY P.globals.size css).list H (sgR P.globals.size ids) (d+3):=by
 have hn:(aY P.globals.size css).list.length=P.globals.size+css.length:=by rw[HT.length,ra]
 refine ⟨fun g hg=>if_pos hg,fun id id' h =>?_,by rw[hn];omega,fun id o h =>?_,fun id id' cs h1 h2 =>?_⟩
 ·rw[hn]
  unfold sgR at h
  split at h
  ·omega
  ·have:=(List.getElem?_eq_some_iff.1 h).1;omega
 ·rw[lF]at h
  split at h
  ·cases h;exact .inl rfl
  ·obtain ⟨cs,_,rfl⟩:=bo h;exact .inr ⟨cs,rfl⟩
 ·rw[lF]at h2
  split at h2
  ·cases h2
  ·rename_i hlt
   obtain ⟨cs',a1,a2⟩:=bo h2
   cases a2
   unfold sgR at h1
   rw[if_neg hlt]at h1
   obtain ⟨id2,own,z,D,b1,b2⟩:=jQ _ _ a1
   rw[h1]at b1;cases b1
   refine ⟨own,z,D,?_⟩
   rw[b2,(kc (d:=d) (iL _ (List.mem_of_getElem? a1))).1]
theorem Cs{css:List (List Value)}{ids:List Nat}{H:Heap}(jQ:∀(k:Nat) (cs:List Value),css[k]?=some cs->∃id own z,ids[k]?=some id/\H[id]?=some (ab.cells own z cs)):∀(k:Nat) (cs:List Value),css[k]?=some cs->∃id own z D,ids[k]?=some id/\H[id]?=some (ab.cells own z (cs++D)):=fun k cs h=>by
 obtain ⟨id,own,z,a,b⟩:=jQ k cs h
 exact ⟨id,own,z,[],a,by rw[List.append_nil];exact b⟩
theorem wQ{d:Nat}{css:List (List Value)}{ids:List Nat}{H:Heap}(iL:∀cs∈css,cs.all (aN 0)=true)(jQ:∀(k:Nat) (cs:List Value),css[k]?=some cs->∃id own z,ids[k]?=some id/\H[id]?=some (ab.cells own z cs))(hl:ids.length=css.length) :
  Reads P (aY P.globals.size css).list H (sgR P.globals.size ids) (d+3):=oN iL (Cs jQ) hl
theorem C3(fL:gB P mixed mask)(gy:mixed=true->P.follows .mixedOrders=true)(n:Nat){f:FuncId}{args:List Value}{css:List (List Value)}{h:Hint}{v:Value}{new:List (Bool×ab)}
  (iL:∀cs∈css,cs.all (aN 0)=true)
  (hc:vF P mask dm rounds mixed n true f args (aY P.globals.size css) (some []) h (gu (aY P.globals.size css).n 3 v new))
  (hv:dw 3 v=true) (hv2:rn (c8 (P.globals.size+css.length)) 3 v=v) (hn:(new.map (·.2)).all (fun o=>d8 3 o&&o.owned)=true) (hn2:(new.map (·.2)).map (rno (c8 (P.globals.size+css.length)) 3)=new.map (·.2))
  {H:Heap} (ids:List Nat) (hl:ids.length=css.length) (jQ:∀(k:Nat) (cs:List Value),css[k]?=some cs->∃id own z D,ids[k]?=some id/\H[id]?=some (ab.cells own z (cs++D))) :
  am P f (args.map (rn (sgR P.globals.size ids) 3)) H [] (Is (rn (eN (P.globals.size+css.length) H.length) 3 v) (H++(new.map (·.2)).map (rno (eN (P.globals.size+css.length) H.length) 3))):=by
 have h1:=vcN fL gy n hc
 have e:(aY P.globals.size css).list.length=P.globals.size+css.length:=by rw[HT.length,ra]
 have:=am.reads (oN (d:=0) iL jQ hl) h1 hv (by rw[e];exact hv2) hn (by rw[e];exact hn2)
 rw[e]at this
 exact this
theorem vcR(fL:gB P mixed mask)(gy:mixed=true->P.follows .mixedOrders=true)(n:Nat){f:FuncId}{args:List Value}{css:List (List Value)}{h:Hint}{v:Value}{new:List (Bool×ab)}
  (iL:∀cs∈css,cs.all (aN 0)=true)
  (hc:vF P mask dm rounds mixed n true f args (aY P.globals.size css) (some []) h (gu (aY P.globals.size css).n 3 v new))
  (hv:dw 3 v=true) (hv2:rn (c8 (P.globals.size+css.length)) 3 v=v) (hn:(new.map (·.2)).all (fun o=>d8 3 o&&o.owned)=true) (hn2:(new.map (·.2)).map (rno (c8 (P.globals.size+css.length)) 3)=new.map (·.2))
  {H:Heap} (ids:List Nat) (hl:ids.length=css.length) (jQ:∀(k:Nat) (cs:List Value),css[k]?=some cs->∃id own z,ids[k]?=some id/\H[id]?=some (ab.cells own z cs)) :
  am P f (args.map (rn (sgR P.globals.size ids) 3)) H [] (Is (rn (eN (P.globals.size+css.length) H.length) 3 v) (H++(new.map (·.2)).map (rno (eN (P.globals.size+css.length) H.length) 3))):=C3 fL gy n iL hc hv hv2 hn hn2 ids hl (Cs jQ)
theorem C4(fL:gB P mixed mask)(gy:mixed=true->P.follows .mixedOrders=true)(n:Nat){f:FuncId}{args:List Value}{css:List (List Value)}{h:Hint}{v:Value}
  (iL:∀cs∈css,cs.all (aN 0)=true)
  (hc:vF P mask dm rounds mixed n true f args (aY P.globals.size css) (some []) h (fun v' _ _=>v'=v)) (hv:cH 0 v=true)
  {H:Heap} (ids:List Nat) (hl:ids.length=css.length) (jQ:∀(k:Nat) (cs:List Value),css[k]?=some cs->∃id own z,ids[k]?=some id/\H[id]?=some (ab.cells own z cs)) :
  am P f (args.map (rn (sgR P.globals.size ids) 5)) H [] (Is v H):=by
 have h1:am P f args (aY P.globals.size css).list [] (Is v ((aY P.globals.size css).list ++ [])):=by
  have:=am.clean (vc fL gy n (Q:=fun v' _=>v'=v) hc) hv
  simpa using this
 have:=am.reads (wQ (d:=2) iL jQ hl) h1 (rnV (V:=fun _=>none) (d:=0) hv).2 (rnV (d:=0) hv).1 rfl rfl
 rw[(rnV (d:=0) hv).1]at this
 simpa using this
section
variable {α:Type} {f:α->List Value} {n:Nat}
theorem aU(hf:∀x,(f x).length=n)(xs:List α):(xs.flatMap f).length=xs.length*n:=by
 induction xs with
 |nil=>simp
 |cons x xs ih=>rw[List.flatMap_cons,br,ih,hf,List.length_cons,Nat.succ_mul];omega
theorem uQ(hf:∀x,(f x).length=n){xs:List α}{d:α}{k:Nat}(hk:k<xs.length):((xs.flatMap f).drop (k*n)).take n=f (xs.getD k d):=by
 have:=(pG (f:=f) (n:=n) (xs:=xs) hf k (xs.getD k d) (by rw[List.getD_eq_getElem?_getD,List.getElem?_eq_getElem hk];rfl)).2
 simpa using this
theorem fp(hf:∀x,(f x).length=n){xs:List α}{d:α}{k off c:Nat}(hk:k<xs.length)(hoff:off=k*n+c){v:Value}(hv:(f (xs.getD k d))[c]?=some v):(xs.flatMap f)[off]?=some v:=by
 have hc:c<n:=by have:=(List.getElem?_eq_some_iff.1 hv).1;rw[hf]at this;exact this
 rw[<- uQ hf hk,List.getElem?_take,if_pos hc,List.getElem?_drop]at hv
 rw[hoff];exact hv
theorem eU(hf:∀x,(f x).length=n){xs:List α}{d:α}{k off c m:Nat}(hk:k<xs.length)(hoff:off=k*n+c)(hm:c+m<=n):cj m (xs.flatMap f) off=some (.agg ⟨((f (xs.getD k d)).drop c).take m⟩):=by
 have hl:=aU hf xs
 have:(k+1)*n<=xs.length*n:=Nat.mul_le_mul_right n hk
 rw[Nat.add_mul,Nat.one_mul]at this
 unfold cj
 rw[if_pos (by omega),<- uQ hf hk,List.drop_take,List.take_take,List.drop_drop,Nat.min_eq_left (by omega),hoff]
theorem jb(hf:∀x,(f x).length=n)(xs:List α)(x:α){k:Nat}(hk:k=xs.length):(List.take (k*n) (List.drop 0 (xs.flatMap f)))++f x=(xs ++ [x]).flatMap f:=by
 subst hk
 rw[List.drop_zero,List.take_of_length_le (by rw[aU hf];exact Nat.le_refl _),List.flatMap_append]
 simp
theorem dt{m:Nat}(hf:∀x,(f x).all (aN m)=true)(xs:List α):(xs.flatMap f).all (aN m)=true:=by
 rw[List.all_flatMap,List.all_eq_true]
 intro r _;exact hf r
end
end
end Go.K
