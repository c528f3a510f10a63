/- A contract known in a small memory holds in every memory that has it as a part. No condition. -/
import Derived.Test.YtmecpfikljhjaaaGreatDoorGV6xV9
import Derived.Deep.Slices
import Derived.ChangeStays
import Derived.OpenShut
import Derived.ProofKit
open Go Go.K
set_option linter.unusedVariables false
set_option linter.unusedSimpArgs false
namespace Go.K
noncomputable section
variable {P:Program}
def cm:Nat->Value->Bool
 |0,_=>false
 |d+1,v=>match v with
  | .func (.yield _) ⟨[]⟩ ⟨[]⟩=>true
  | .func (.func _) first cap=>first.toList.all (cm d)&&cap.toList.all (cm d)
  | .func _ _ _=>false
  | .agg cs=>cs.toList.all (cm d)
  | .tuple vs=>vs.toList.all (cm d)
  | .iface _ (.agg cs)=>cs.toList.all (cm d)
  | .iface _ (.tuple cs)=>cs.toList.all (cm d)
  |_=>true
def am(d:Nat):aa->Bool
 | .cells _ _ cs=>cs.all (cm d)
 | .map es=>es.all fun e=>cm d e.1&&cm d e.2
 | .loop .. =>false
 | .iter .. =>false
 | .fam _ _=>false
 | .dead=>true
theorem mt{ρ ρ':Ren}{σ:Nat->Option Nat}{d:Nat}(ih:∀{v r:Value},cm d v=true->VR ρ v r->VR ρ' (rn σ d v) r){cs:Array Value}{r:Array Value}(hc:cs.toList.all (cm d)=true)
  (h1:cs.size=r.size) (h2:∀(i:Nat) (v v':Value),cs[i]?=some v->r[i]?=some v'->VR ρ v v') :
  (⟨cs.toList.map (rn σ d)⟩:Array Value).size=r.size/\∀(i:Nat) (v v':Value),(⟨cs.toList.map (rn σ d)⟩:Array Value)[i]?=some v->r[i]?=some v'->VR ρ' v v':=by
 have e:(⟨cs.toList.map (rn σ d)⟩:Array Value)=cs.map (rn σ d):=Array.toList_inj.1 (by simp)
 rw[e]
 refine ⟨by simpa using h1,fun i v v' a b =>?_⟩
 rw[Array.getElem?_map]at a
 obtain ⟨v0,a1,rfl⟩:=Option.map_eq_some_iff.1 a
 rw[List.all_eq_true]at hc
 exact ih (hc v0 (by rw[Array.mem_toList_iff];exact Array.mem_of_getElem? a1)) (h2 i v0 v' a1 b)
theorem uj{ρ ρ':Ren}{σ:Nat->Option Nat}{d s:Nat}(ih:∀{v r:Value},cm d v=true->VR ρ v r->VR ρ' (rn σ d v) r){cs m:Array Value}(hc:cs.toList.all (cm d)=true)
  (h1:cs.size=0∨cs.size+s<=m.size) (h2:∀(i:Nat) (v v':Value),cs[i]?=some v->m[i+s]?=some v'->VR ρ v v') :
  ((⟨cs.toList.map (rn σ d)⟩:Array Value).size=0∨(⟨cs.toList.map (rn σ d)⟩:Array Value).size+s<=m.size)/\∀(i:Nat) (v v':Value),(⟨cs.toList.map (rn σ d)⟩:Array Value)[i]?=some v->m[i+s]?=some v'->VR ρ' v v':=by
 have e:(⟨cs.toList.map (rn σ d)⟩:Array Value)=cs.map (rn σ d):=Array.toList_inj.1 (by simp)
 rw[e]
 refine ⟨by simpa using h1,fun i v v' a b =>?_⟩
 rw[Array.getElem?_map]at a
 obtain ⟨v0,a1,rfl⟩:=Option.map_eq_some_iff.1 a
 rw[List.all_eq_true]at hc
 exact ih (hc v0 (by rw[Array.mem_toList_iff];exact Array.mem_of_getElem? a1)) (h2 i v0 v' a1 b)
theorem qg{ρ ρ':Ren}{σ:Nat->Option Nat}(hσ:∀id r,ρ id=some r->∃id',σ id=some id'/\ρ' id'=some r)(hm:∀b m,ρ.mem b=some m->ρ'.mem b=some m)(hg:∀F k r,ρ.g F k=some r->∃F',σ F=some F'/\ρ'.g F' k=some r):∀(d:Nat) {v r:Value},cm d v=true->VR ρ v r->VR ρ' (rn σ d v) r:=by
 intro d
 induction d with
 |zero=>intro v r h;cases h
 |succ d ih =>
  intro v r hk h
  cases h with
  |junk=>exact .junk _
  |bool b=>exact .bool b
  |int k n=>exact .int k n
  |float k n=>exact .float k n
  |string s=>exact .string s
  |bK=>exact .bK
  |ptr k=>obtain ⟨id',e1,e2⟩:=hσ _ _ k;simp only[rn,e1];exact .ptr e2
  |dS k=>obtain ⟨id',e1,e2⟩:=hg _ _ _ k;simp only[rn,e1];exact .dS e2
  |aT=>exact .aT
  |slice k hl hc ho=>obtain ⟨id',e1,e2⟩:=hσ _ _ k;simp only[rn,e1];exact .slice e2 hl hc ho
  |aQ k=>obtain ⟨id',e1,e2⟩:=hσ _ _ k;simp only[rn,e1];exact .aQ e2
  |bv=>exact .bv
  |ax=>simp only[rn];split <;> exact .ax
  |ay=>simp only[rn];split <;> exact .ay
  |aD k hp hl hc ho=>obtain ⟨id',e1,e2⟩:=hσ _ _ k;simp only[rn,e1];exact .aD e2 hp hl hc ho
  |aB=>simp only[rn];split <;> exact .aB
  |aX k hp hl hc ho=>obtain ⟨id',e1,e2⟩:=hσ _ _ k;simp only[rn,e1];exact .aX e2 hp hl hc ho
  |bL=>exact .bL
  |map k=>obtain ⟨id',e1,e2⟩:=hσ _ _ k;simp only[rn,e1];exact .map e2
  |nilFunc=>exact .nilFunc
  |nilIface=>exact .nilIface
  |yield k=>obtain ⟨id',e1,e2⟩:=hσ _ _ k;simp only[rn,e1];exact .yield e2
  | @func f first first' cap cap' h1 h2 h3 h4 =>
   have hk':(first.toList.all (cm d)&&cap.toList.all (cm d))=true:=by
    unfold cm at hk
    exact hk
   simp only[Bool.and_eq_true]at hk'
   obtain ⟨a1,a2⟩:=mt (σ:=σ) ih hk'.1 h1 h2
   obtain ⟨b1,b2⟩:=mt (σ:=σ) ih hk'.2 h3 h4
   exact .func a1 a2 b1 b2
  |agg h1 h2=>obtain ⟨a1,a2⟩:=mt (σ:=σ) ih hk h1 h2;exact .agg a1 a2
  |tuple h1 h2=>obtain ⟨a1,a2⟩:=mt (σ:=σ) ih hk h1 h2;exact .tuple a1 a2
  |deep g1 g2 g3 g4 g5=>obtain ⟨a1,a2⟩:=uj (σ:=σ) ih hk g4 g5;exact .deep (hm _ _ g1) g2 g3 a1 a2
  |br=>exact .br
  |fsl k hp hc hs ho=>obtain ⟨id',e1,e2⟩:=hg _ _ _ k;simp only[rn,e1];exact .fsl e2 hp hc hs ho
  | @bS a p =>
   match p with
   |none=>exact .bS
   |some ⟨id,off,none⟩=>exact .bS
   |some ⟨id,off,some 0⟩=>exact .bS
   |some ⟨id,off,some 1⟩=>exact .bS
   |some ⟨id,off,some 2⟩=>exact .bS
   |some ⟨id,off,some (j+3)⟩ =>
    simp only[rn]
    split <;> exact .bS
  |bP g1 g2 g3=>obtain ⟨a1,a2⟩:=uj (σ:=σ) ih hk g2 g3;exact .bP (hm _ _ g1) a1 a2
theorem jb{ρ ρ':Ren}{σ:Nat->Option Nat}(hσ:∀id r,ρ id=some r->∃id',σ id=some id'/\ρ' id'=some r)(hm:∀b m,ρ.mem b=some m->ρ'.mem b=some m)(hg:∀F k r,ρ.g F k=some r->∃F',σ F=some F'/\ρ'.g F' k=some r){d:Nat}{r:RI}{o:aa}{w:World}(hk:am d o=true)(h:aI ρ r o w):aI ρ' r (rno σ d o) w:=by
 cases o with
 |cells own z cs =>
  obtain ⟨h1,h2,cs',ty,fz,h3,h4,h5,h6⟩:=h
  refine ⟨h1,h2,cs',ty,fz,h3,h4,h5,fun i v hv =>?_⟩
  rw[List.getElem?_map]at hv
  obtain ⟨v0,a1,rfl⟩:=Option.map_eq_some_iff.1 hv
  obtain ⟨v',g1,g2⟩:=h6 i v0 a1
  simp only[am,List.all_eq_true]at hk
  exact ⟨v',g1,qg hσ hm hg d (hk v0 (List.mem_of_getElem? a1)) g2⟩
 |map es =>
  obtain ⟨h1,es',h2,h3,h4⟩:=h
  refine ⟨h1,es',h2,by simpa using h3,fun i k v hv =>?_⟩
  rw[List.getElem?_map]at hv
  obtain ⟨⟨k0,v0⟩,a1,a2⟩:=Option.map_eq_some_iff.1 hv
  cases a2
  obtain ⟨e',g1,g2,g3⟩:=h4 i k0 v0 a1
  simp only[am,List.all_eq_true,Bool.and_eq_true]at hk
  have:=hk _ (List.mem_of_getElem? a1)
  exact ⟨e',g1,qg hσ hm hg d this.1 g2,qg hσ hm hg d this.2 g3⟩
 |loop st pe tm N ps as bd=>cases hk
 |iter m n s=>cases hk
 |fam z cs=>cases hk
 |dead=>trivial
structure Part(P:Program)(H0 H:Heap)(σ:Nat->Option Nat)(d:Nat):Prop where
 cS:∀g,g<P.globals.size->σ g=some g
 dom:∀id id',σ id=some id'->id<H0.length/\id'<H.length
 tot:∀id,id<H0.length->∃id',σ id=some id'
 inj:∀id1 id2 id',σ id1=some id'->σ id2=some id'->id1=id2
 obj:∀id id' o,σ id=some id'->H0[id]?=some o->o = .dead∨(am d o=true/\H[id']?=some (rno σ d o))
def bA(σ:Nat->Option Nat)(n0 n:Nat)(id:Nat):Option Nat:=if id<n0 then σ id else some (n+(id-n0))
structure Wrote(H0 H H1 Hn:Heap)(σ σ':Nat->Option Nat)(d:Nat)(ks:List Nat):Prop where
 l1:H1.length=H0.length
 ln:Hn.length=H.length
 pr:∀id id',σ id=some id'->(H1[id]?=H0[id]? /\ Hn[id']?=H[id']?)∨(id∈ks/\∃o,H1[id]?=some o/\Hn[id']?=some (rno σ' d o)/\am d o=true/\o.owned=true)
 ot:∀id',Hn[id']?=H[id']? ∨ ∃id,id∈ks/\σ id=some id'
def lX(σ σ':Nat->Option Nat)(d:Nat)(l:List (Nat×aa)):List (Nat×aa):=l.map fun p=>((σ p.1).getD 0,rno σ' d p.2)
theorem Wrote.sets{H0 H:Heap}{σ σ':Nat->Option Nat}{d:Nat}{ks:List Nat}(hp:Part P H0 H σ d)(hks:∀k∈ks,k<H0.length):∀(l:List (Nat×aa)),(∀p∈l,p.1∈ks/\am d p.2=true/\p.2.owned=true)->∀H1 Hn,Wrote H0 H H1 Hn σ σ' d ks ->
  Wrote H0 H (eg H1 l) (eg Hn (lX σ σ' d l)) σ σ' d ks
 | [],_,_,_,h=>h
 |(k,o) :: l,hl,H1,Hn,h=>by
  obtain ⟨g1,g2,g3⟩:=hl _ (List.mem_cons_self ..)
  obtain ⟨k',hk'⟩:=hp.tot k (hks k g1)
  have e:(σ k).getD 0=k':=by rw[hk'];rfl
  show Wrote H0 H (eg (H1.set k o) l) (eg (Hn.set ((σ k).getD 0) (rno σ' d o)) (lX σ σ' d l)) σ σ' d ks
  rw[e]
  refine Wrote.sets hp hks l (fun p h=>hl p (List.mem_cons_of_mem _ h)) _ _ ⟨by rw[List.length_set];exact h.l1,by rw[List.length_set];exact h.ln,fun id id' hi =>?_,fun id' =>?_⟩
  ·by_cases c:id=k
   ·subst c
    rw[hi]at hk';cases hk'
    have:=hp.dom _ _ hi
    exact .inr ⟨g1,o,List.getElem?_set_self (by rw[h.l1];exact this.1),List.getElem?_set_self (by rw[h.ln];exact this.2),g2,g3⟩
   ·have c':k'≠id':=fun q=>c (hp.inj _ _ _ hi (q ▸ hk'))
    rw[List.getElem?_set_ne (Ne.symm c),List.getElem?_set_ne c']
    exact h.pr id id' hi
  ·by_cases c:k'=id'
   ·subst c;exact .inr ⟨k,g1,hk'⟩
   ·rw[List.getElem?_set_ne c];exact h.ot id'
theorem ad.Bn{f:FuncId}{args:List Value}{H0 H:Heap}{α:Type}{I:α->Prop}{vx:α->Value}{rx:α->List (Nat×aa)}{f8:α->Heap}{ks:List Nat}{σ:Nat->Option Nat}{d:Nat}(hp:Part P H0 H σ d)(hks:∀k∈ks,∃o,H0[k]?=some o/\o.owned=true)(h:ad P f args H0 ks (fun v' H' => ∃x,I x/\v'=vx x/\H'=eg H0 (rx x)++f8 x))
  (hvx:∀x,I x->cm d (vx x)=true) (hcx:∀x,I x->∀p∈rx x,p.1∈ks/\am d p.2=true/\p.2.owned=true) (hnx:∀x,I x->(f8 x).all (fun o=>am d o&&o.owned)=true) :
  ad P f (args.map (rn σ d)) H (ks.filterMap σ) (fun v' H' => ∃x,I x/\v'=rn (bA σ H0.length H.length) d (vx x)/\H'=eg H (lX σ (bA σ H0.length H.length) d (rx x))++(f8 x).map (rno (bA σ H0.length H.length) d)):=by
 refine ⟨h.1,fun B ρ w args' hr ha =>?_⟩
 have hσb:∀id id' r,σ id=some id'->ρ id'=some r->bf ρ σ id=some r:=by intro id id' r h1 h2;show Option.bind _ _=_;rw[h1];exact h2
 have hσg:∀F F' k r,σ F=some F'->ρ.g F' k=some r->(bf ρ σ).g F k=some r:=by intro F F' k r h1 h2;show Option.bind _ _=_;rw[h1];exact h2
 have de:∀{F k r},(bf ρ σ).g F k=some r->∃F',σ F=some F'/\ρ.g F' k=some r:=fun h=>Option.bind_eq_some_iff.1 h
 have tV:∀{F k:Nat} {r:RI} {z:Nat} {cs:List Value},(bf ρ σ).g F k=some r->H0[F]?=some (.fam z cs)->False:=fun {F k r z cs} mg mh=>by
  obtain ⟨F',k1,_⟩:=de mg
  rcases hp.obj F F' _ k1 mh with h|⟨h,_⟩ <;> cases h
 have hnf:∀{F k r z cs},FM (bf ρ σ) H0 F k r z cs->False:=fun m=>tV m.g m.h
 have hsome:∀{id r},bf ρ σ id=some r->∃id',σ id=some id'/\ρ id'=some r:=fun h=>Option.bind_eq_some_iff.1 h
 have hoa:∀o:aa,o.owned=true->o.alive=true:=by intro o ho;cases o <;> first|rfl|cases ho
 have hno:∀o,am d o=true->rno σ d o = .dead->o = .dead:=by intro o h1 h2;cases o <;> first|rfl|(cases h1;done)|(cases h2;done)
 have hown:∀id id' o,σ id=some id'->H0[id]?=some o->o.alive=true->H[id']?=some (rno σ d o)/\(rno σ d o).owned=o.owned/\(rno σ d o).alive=true/\am d o=true:=by
  intro id id' o h1 h2 h3
  rcases hp.obj id id' o h1 h2 with rfl|⟨g1,g2⟩
  ·cases h3
  ·obtain ⟨a,b⟩:=kU σ d o (hno o g1);exact ⟨g2,a,b.trans h3,g1⟩
 have hr0:Rel P B (bf ρ σ) H0 w:=by
  refine ⟨hr.bsize,fun g hg =>?_,fun id r h =>?_,fun id r h =>?_,fun id r o h1 h2 =>?_,fun id r o h1 h2 h3 =>?_,fun id1 id2 r1 r2 o1 o2 h1 h2 g1 g2 k1 k2 hne =>?_,fun b m hb=>⟨(hr.mem b m hb).1,fun id r o h1 h2 h3 =>?_⟩,
   ⟨fun F k r h=>by obtain ⟨F',k1,_⟩:=de h;exact (hp.dom _ _ k1).1,fun F k r h=>by obtain ⟨F',_,k2⟩:=de h;exact hr.fam.lt _ _ _ k2,fun _ _ _ _ _ m=>(hnf m).elim,fun _ _ _ _ _ m=>(hnf m).elim,fun _ _ _ _ _ _ _ _ _ _ m=>(hnf m).elim,fun _ _ _ _ _ _ _ _ m=>(hnf m).elim,fun _ _ _ _ _ _ _ m=>(hnf m).elim,fun _ _ _ _ g h=>(tV g h).elim⟩⟩
  ·obtain ⟨r,k1,k2,k3⟩:=hr.cS g hg;exact ⟨r,hσb g g r (hp.cS g hg) k1,k2,k3⟩
  ·obtain ⟨id',h1,_⟩:=hsome h;exact (hp.dom _ _ h1).1
  ·obtain ⟨id',_,h2⟩:=hsome h;exact hr.lt _ _ h2
  ·obtain ⟨id',k1,k2⟩:=hsome h1
   rcases hp.obj id id' o k1 h2 with rfl|⟨g1,g2⟩
   ·trivial
   ·exact ja hσb (fun _ _ h=>h) hσg (hr.obj _ _ _ k2 g2) (hno o g1)
  ·obtain ⟨id',k1,k2⟩:=hsome h1
   obtain ⟨g1,g2,_,_⟩:=hown id id' o k1 h2 (hoa o h3)
   exact hr.base id' r _ k2 g1 (by rw[g2];exact h3)
  ·obtain ⟨i1,a1,a2⟩:=hsome h1
   obtain ⟨i2,b1,b2⟩:=hsome h2
   obtain ⟨c1,c2,_,_⟩:=hown id1 i1 o1 a1 g1 (hoa _ k1)
   obtain ⟨d1,_,d3,_⟩:=hown id2 i2 o2 b1 g2 k2
   exact hr.sep i1 i2 r1 r2 _ _ a2 b2 c1 d1 (by rw[c2];exact k1) d3 (fun he=>hne (hp.inj _ _ _ a1 (he ▸ b1)))
  ·obtain ⟨id',k1,k2⟩:=hsome h1
   obtain ⟨g1,g2,_,_⟩:=hown id id' o k1 h2 (hoa o h3)
   exact (hr.mem b m hb).2 id' r _ k2 g1 (by rw[g2];exact h3)
 have ha0:VRl (bf ρ σ) args args'.toList:=⟨by have:=ha.1;simpa using this,fun i x x' a b=>gq hσb (fun _ _ h=>h) hσg d (ha.2 i (rn σ d x) x' (by rw[List.getElem?_map,a];rfl) b)⟩
 refine (h.2 B (bf ρ σ) w args' hr0 ha0).mono ?_
 rintro e w' ⟨v1,v',ρ1,H1,rfl,hv',hpost,x0,hx0,rfl,rfl⟩
 have hv:=hvx x0 hx0
 have hn:=hnx x0 hx0
 have hkl:∀k∈ks,k<H0.length:=fun k hk=>by obtain ⟨o,h1,_⟩:=hks k hk;exact (List.getElem?_eq_some_iff.1 h1).1
 have hW:Wrote H0 H (eg H0 (rx x0)) (eg H (lX σ (bA σ H0.length H.length) d (rx x0))) σ (bA σ H0.length H.length) d ks :=
  Wrote.sets hp hkl (rx x0) (hcx x0 hx0) H0 H ⟨rfl,rfl,fun _ _ _ => .inl ⟨rfl,rfl⟩,fun _ => .inl rfl⟩
 generalize eg H0 (rx x0)=H1 at hpost hW
 obtain ⟨Hn,hHn⟩:∃Hn,Hn=eg H (lX σ (bA σ H0.length H.length) d (rx x0)):=⟨_,rfl⟩
 rw[<- hHn]at hW
 have e1:=hW.l1
 have en:=hW.ln
 have hsame:∀id,id<H0.length->(H1++(f8 x0))[id]?=H1[id]? := fun id hid=>List.getElem?_append_left (by omega)
 have hrn:∀{o:aa} (s:Nat->Option Nat),am d o=true->o.owned=true->(rno s d o).owned=true/\(rno s d o).alive=true:=fun {o} s a b=>by
  have hno':rno s d o = .dead->o = .dead:=by intro h2;cases o <;> first|rfl|(cases a;done)|(cases h2;done)
  obtain ⟨x1,x2⟩:=kU s d o hno'
  exact ⟨x1.trans b,x2.trans (hoa _ b)⟩
 have hstill:∀(j:Nat) (oj:aa),H0[j]?=some oj->oj.owned=true->∃oj':aa,(H1++(f8 x0))[j]?=some oj'/\oj'.owned=true:=fun j oj h1 h2=>by
  have hj:=(List.getElem?_eq_some_iff.1 h1).1
  rw[hsame j hj]
  obtain ⟨j',hj'⟩:=hp.tot j hj
  rcases hW.pr j j' hj' with ⟨a,_⟩|⟨_,o,a,_,_,b⟩
  ·exact ⟨oj,a.trans h1,h2⟩
  ·exact ⟨o,a,b⟩
 have hbk:∀(id:Nat) (o:aa),Hn[id]?=some o->∃o':aa,H[id]?=some o'/\o'.owned=o.owned/\o'.alive=o.alive:=fun id o h1=>by
  rcases hW.ot id with h|⟨j,hj,hs⟩
  ·exact ⟨o,h ▸ h1,rfl,rfl⟩
  ·rcases hW.pr j id hs with ⟨_,a⟩|⟨_,o1,_,a,b,c⟩
   ·exact ⟨o,a ▸ h1,rfl,rfl⟩
   ·rw[a]at h1;cases h1
    obtain ⟨o0,g1,g2⟩:=hks j hj
    obtain ⟨k1,k2,k3,_⟩:=hown j id o0 hs g1 (hoa _ g2)
    obtain ⟨q1,q2⟩:=hrn (bA σ H0.length H.length) b c
    exact ⟨_,k1,by rw[k2,g2,q1],by rw[k3,q2]⟩
 have hback:∀id r,id<H0.length->ρ1 id=some r->bf ρ σ id=some r:=by
  intro id r hid h1
  cases hq:bf ρ σ id with
  |none=>exact absurd (hpost.new id r h1 hq) (by omega)
  |some r0=>have:=hpost.ext _ _ hq;rw[h1]at this;exact this.symm
 have rb:∀id r,ρ1 id=some r->∃id',bA σ H0.length H.length id=some id'/\(if id'<H.length then ρ id' else ρ1 (H0.length+(id'-H.length)))=some r:=by
  intro id r h1
  unfold bA
  by_cases hid:id<H0.length
  ·rw[if_pos hid]
   obtain ⟨id',k1,k2⟩:=hsome (hback id r hid h1)
   exact ⟨id',k1,by rw[if_pos (hp.dom _ _ k1).2];exact k2⟩
  ·rw[if_neg hid]
   refine ⟨_,rfl,?_⟩
   rw[if_neg (by omega),show H0.length+(H.length+(id-H0.length)-H.length)=id by omega];exact h1
 let g2:Nat->Nat->Option RI:=fun F' k=>if F'<H.length then (match ρ.g F' k with|some r=>some r|none=>(if h:∃F,F∈ks/\σ F=some F' then ρ1.g h.choose k else none)) else ρ1.g (H0.length+(F'-H.length)) k
 have g2o:∀{F' k r},ρ.g F' k=some r->g2 F' k=some r:=fun {F' k r} h=>by
  show (if _ then _ else _)=_
  rw[if_pos (hr.fam.dom _ _ _ h),h]
 have g2n:∀{F' k r},F'<H.length->g2 F' k=some r->ρ.g F' k=some r∨(ρ.g F' k=none/\∃F,F∈ks/\σ F=some F'/\ρ1.g F k=some r):=fun {F' k r} hl h=>by
  have h:(if _ then _ else _)=_:=h
  rw[if_pos hl]at h
  split at h
  ·rename_i e;exact .inl (e.trans h)
  ·rename_i e
   split at h
   ·rename_i c;exact .inr ⟨e,_,c.choose_spec.1,c.choose_spec.2,h⟩
   ·cases h
 have kA:∀F k r,ρ1.g F k=some r->∃F',bA σ H0.length H.length F=some F'/\g2 F' k=some r:=by
  intro F k r h1
  unfold bA
  by_cases hid:F<H0.length
  ·rw[if_pos hid]
   cases hq:(bf ρ σ).g F k with
   |none =>
    rcases hpost.kn F k r h1 hq with h|h
    ·omega
    ·obtain ⟨F',hF'⟩:=hp.tot F hid
     refine ⟨F',hF',?_⟩
     have hn:ρ.g F' k=none:=by
      cases hc:ρ.g F' k with
      |none=>rfl
      |some r'=>have:=hσg F F' k r' hF' hc;rw[hq]at this;cases this
     show (if _ then _ else _)=_
     rw[if_pos (hp.dom _ _ hF').2,hn]
     have hx:∃F,F∈ks/\σ F=some F':=⟨F,h,hF'⟩
     show (if h:∃F,F∈ks/\σ F=some F' then ρ1.g h.choose k else none)=_
     rw[dif_pos hx,hp.inj _ _ _ hx.choose_spec.2 hF'];exact h1
   |some r0 =>
    have:=hpost.ext.g _ _ _ hq;rw[h1]at this;cases this
    obtain ⟨F',k1,k2⟩:=de hq
    exact ⟨F',k1,g2o k2⟩
  ·rw[if_neg hid]
   refine ⟨_,rfl,?_⟩
   show (if _ then _ else _)=_
   rw[if_neg (by omega),show H0.length+(H.length+(F-H0.length)-H.length)=F by omega];exact h1
 have hext:Ren.le ρ ⟨fun id'=>if id'<H.length then ρ id' else ρ1 (H0.length+(id'-H.length)),ρ1.mem,g2⟩:=⟨fun id r h1=>by
  show (if _ then _ else _)=_
  rw[if_pos (hr.dom _ _ h1)];exact h1,hpost.ext.mem,fun F k r h1=>g2o h1⟩
 have hnew:∀(k:Nat) (o:aa),(f8 x0)[k]?=some o->am d o=true/\o.owned=true:=by
  intro k o hk
  rw[List.all_eq_true]at hn
  have:=hn o (List.mem_of_getElem? hk)
  simpa using this
 have yV:∀{b},OB (bf ρ σ) H0 b->∃id r o,bf ρ σ id=some r/\H0[id]?=some o/\o.owned=true/\r.b=b:=fun h=>h.elim id fun ⟨_,_,_,_,_,m,_⟩=>(hnf m).elim
 have hfresh:∀id r o,H0.length<=id->ρ1 id=some r->(H1++(f8 x0))[id]?=some o->w.heap.size<=r.b:=by
  intro id r o hid h1 h2
  have ho:o.owned=true:=by rw[List.getElem?_append_right (by omega)]at h2;exact (hnew _ _ h2).2
  rcases Nat.lt_or_ge r.b w.heap.size with hlt|hge
  ·obtain ⟨j,rj,oj,j1,j2,j3,j4⟩:=yV (hpost.ob r.b hlt (.inl ⟨id,r,o,h1,h2,ho,rfl⟩))
   have hj:=hr0.dom _ _ j1
   obtain ⟨oj',s1,s2⟩:=hstill j oj j2 j3
   exact absurd j4 (hpost.rel.sep j id rj r oj' o (hpost.ext _ _ j1) h1 s1 h2 s2 (hoa _ ho) (by omega))
  ·exact hge
 have hOB:∀b,OB (bf ρ σ) H0 b->OB ρ H b:=by
  intro b hb
  obtain ⟨id,r,o,h1,h2,h3,h4⟩:=yV hb
  obtain ⟨id',k1,k2⟩:=hsome h1
  obtain ⟨g1,g2,_,_⟩:=hown id id' o k1 h2 (hoa o h3)
  exact .inl ⟨id',r,_,k2,g1,by rw[g2];exact h3,h4⟩
 have cY:∀id o',H.length<=id->(Hn++(f8 x0).map (rno (bA σ H0.length H.length) d))[id]?=some o'->∃o,(H1++(f8 x0))[H0.length+(id-H.length)]?=some o/\o'=rno (bA σ H0.length H.length) d o/\am d o=true/\o.owned=true/\o'.owned=true:=by
  intro id o' hid h2
  rw[List.getElem?_append_right (by omega),List.getElem?_map,en]at h2
  obtain ⟨o,a1,rfl⟩:=Option.map_eq_some_iff.1 h2
  refine ⟨o,?_,rfl,(hnew _ _ a1).1,(hnew _ _ a1).2,?_⟩
  ·rw[List.getElem?_append_right (by omega),e1,show H0.length+(id-H.length)-H0.length=id-H.length by omega];exact a1
  ·obtain ⟨x1,x2⟩:=hnew _ _ a1
   cases o <;> first|exact x2|cases x1
 have dh:∀id,id<H.length->(Hn++(f8 x0).map (rno (bA σ H0.length H.length) d))[id]?=Hn[id]? := fun id hid=>List.getElem?_append_left (by omega)
 have hvv:VR ⟨fun id'=>if id'<H.length then ρ id' else ρ1 (H0.length+(id'-H.length)),ρ1.mem,g2⟩ (rn (bA σ H0.length H.length) d (vx x0)) v':=qg (ρ:=ρ1) (σ:=bA σ H0.length H.length) (ρ':=⟨fun id'=>if id'<H.length then ρ id' else ρ1 (H0.length+(id'-H.length)),ρ1.mem,g2⟩) rb (fun _ _ h=>h) kA d hv hv'
 refine ⟨_,v',⟨fun id'=>if id'<H.length then ρ id' else ρ1 (H0.length+(id'-H.length)),ρ1.mem,g2⟩,Hn++(f8 x0).map (rno (bA σ H0.length H.length) d),rfl,hvv,?_,x0,hx0,rfl,by rw[hHn]⟩
 have kB:∀{F k r z cs},(Ren.mk (fun id'=>if id'<H.length then ρ id' else ρ1 (H0.length+(id'-H.length))) ρ1.mem g2).g F k=some r->(Hn++(f8 x0).map (rno (bA σ H0.length H.length) d))[F]?=some (.fam z cs)->ρ.g F k=some r/\H[F]?=some (.fam z cs):=fun {F k r z cs} mg mh=>by
  rcases Nat.lt_or_ge F H.length with h|h
  ·rw[dh F h]at mh
   have hH:H[F]?=some (.fam z cs):=by
    obtain ⟨o',a,b,c⟩:=hbk F _ mh
    rcases hW.ot F with q|⟨j,hj,hs⟩
    ·exact q ▸ mh
    ·rcases hW.pr j F hs with ⟨_,q⟩|⟨_,o1,_,q,b1,c1⟩
     ·exact q ▸ mh
     ·rw[q]at mh
      have:=(hrn (bA σ H0.length H.length) b1 c1).1
      rw[Option.some.inj mh]at this;cases this
   rcases g2n h mg with g|⟨_,j,hj,hs,_⟩
   ·exact ⟨g,hH⟩
   ·obtain ⟨o0,b1,b2⟩:=hks j hj
    obtain ⟨k1,k2,_,_⟩:=hown j F o0 hs b1 (hoa _ b2)
    rw[hH]at k1
    rw[<- Option.some.inj k1,b2]at k2;cases k2
  ·obtain ⟨o,_,_,_,_,g⟩:=cY F _ h mh
   cases g
 have hfm:∀{F k r z cs},FM ⟨fun id'=>if id'<H.length then ρ id' else ρ1 (H0.length+(id'-H.length)),ρ1.mem,g2⟩ (Hn++(f8 x0).map (rno (bA σ H0.length H.length) d)) F k r z cs->FM ρ H F k r z cs:=fun m=>⟨(kB m.g m.h).1,(kB m.g m.h).2,m.a⟩
 have ju:gR B ⟨fun id'=>if id'<H.length then ρ id' else ρ1 (H0.length+(id'-H.length)),ρ1.mem,g2⟩ (Hn++(f8 x0).map (rno (bA σ H0.length H.length) d)) w':=by
  refine ⟨fun F k r h1 =>?_,fun F k r h1 =>?_,fun F k r z cs m=>hr.fam.base _ _ _ _ _ (hfm m),fun F k r z cs m=>(hr.fam.obj _ _ _ _ _ (hfm m)).mono hext (hpost.keep _ (hr.fam.lt _ _ _ (hfm m).g) fun ho =>?_),
   fun F k r z cs F' k' r' z' cs' m m'=>hr.fam.sep _ _ _ _ _ _ _ _ _ _ (hfm m) (hfm m'),fun F k r z cs id r' o m h1 h2 h3 =>?_,fun F k r z cs b m' m hb =>?_,fun F k r cs h1 h2=>hr.fam.cnt F k r cs (kB h1 h2).1 (kB h1 h2).2⟩
  ·rcases Nat.lt_or_ge F H.length with h|h
   ·simp;omega
   ·have h1:(if _ then _ else _)=_:=h1
    rw[if_neg (by omega)]at h1
    have:=hpost.rel.fam.dom _ _ _ h1
    simp at this ⊢;omega
  ·rcases Nat.lt_or_ge F H.length with h|h
   ·rcases g2n h h1 with g|⟨_,j,_,_,g⟩
    ·exact Nat.lt_of_lt_of_le (hr.fam.lt _ _ _ g) hpost.size
    ·exact hpost.rel.fam.lt _ _ _ g
   ·have h1:(if _ then _ else _)=_:=h1
    rw[if_neg (by omega)]at h1
    exact hpost.rel.fam.lt _ _ _ h1
  ·obtain ⟨j,rj,oj,j1,j2,j3,j4⟩:=yV ho
   obtain ⟨id',k1,k2⟩:=hsome j1
   obtain ⟨c1,c2,c3,_⟩:=hown j id' oj k1 j2 (hoa _ j3)
   exact hr.fam.sep2 _ _ _ _ _ id' rj _ (hfm m) k2 c1 c3 j4
  ·have h1:(if id<H.length then ρ id else ρ1 (H0.length+(id-H.length)))=some r':=h1
   rcases Nat.lt_or_ge id H.length with h|h
   ·rw[if_pos h]at h1
    rw[dh id h]at h2
    obtain ⟨o',a1,_,a3⟩:=hbk id o h2
    exact hr.fam.sep2 _ _ _ _ _ id r' o' (hfm m) h1 a1 (a3.trans h3)
   ·rw[if_neg (by omega)]at h1
    obtain ⟨o0,a1,_,_,_,_⟩:=cY id o h h2
    have:=hfresh _ r' o0 (by omega) h1 a1
    have:=hr.fam.lt _ _ _ (hfm m).g
    omega
  ·have hb:ρ1.mem b=some m':=hb
   rcases hpost.frz b m' hb with g|g|g
   ·exact hr.fam.mem _ _ _ _ _ b m' (hfm m) g
   ·have:=hr.fam.lt _ _ _ (hfm m).g;omega
   ·obtain ⟨j,rj,oj,j1,j2,j3,j4⟩:=yV g
    obtain ⟨id',k1,k2⟩:=hsome j1
    obtain ⟨c1,c2,c3,_⟩:=hown j id' oj k1 j2 (hoa _ j3)
    exact fun e=>hr.fam.sep2 _ _ _ _ _ id' rj _ (hfm m) k2 c1 c3 (j4.trans e.symm)
 have Il:∀id r,¬ id<H.length->ρ1 (H0.length+(id-H.length))=some r->id<H.length+(f8 x0).length:=by
  intro id r hid h1
  have:=hpost.rel.dom _ _ h1
  simp at this;omega
 refine ⟨⟨Nat.le_trans hr.bsize hpost.size,fun g hg =>?_,fun id r h1 =>?_,fun id r h1 =>?_,fun id r o h1 h2 =>?_,fun id r o h1 h2 h3 =>?_,fun id1 id2 r1 r2 o1 o2 h1 h2 g1 g2 k1 k2 hne =>?_,fun b m hb=>⟨(hpost.rel.mem b m hb).1,fun id r o h1 h2 h3 =>?_⟩,ju⟩,hext,fun id r h1 h2 =>?_,by simp;omega,fun id h1 h2=>(dh id h1).trans ((hW.ot id).elim (fun h=>h) fun ⟨j,hj,hs⟩=>absurd (List.mem_filterMap.2 ⟨j,hj,hs⟩) h2),hpost.size,fun b h1 h2=>hpost.keep b h1 (fun ho=>h2 (hOB b ho)),fun b h1 h2 =>?_,hpost.os,hpost.tape,hpost.output,fun b m hb=>(hpost.frz b m hb).imp id fun h=>h.imp id (hOB b),hpost.drawn,fun F k r h1 h2=>by
  rcases Nat.lt_or_ge F H.length with h|h
  ·rcases g2n h h1 with g|⟨_,j,hj,hs,_⟩
   ·rw[h2]at g;cases g
   ·exact .inr (List.mem_filterMap.2 ⟨j,hj,hs⟩)
  ·exact .inl h⟩
 ·obtain ⟨r,k1,k2,k3⟩:=hr.cS g hg;exact ⟨r,hext _ _ k1,k2,k3⟩
 ·dsimp only at h1
  split at h1
  ·rw[List.length_append];omega
  ·rw[List.length_append,List.length_map,en];exact Il _ _ ‹_› h1
 ·dsimp only at h1
  split at h1
  ·exact Nat.lt_of_lt_of_le (hr.lt _ _ h1) hpost.size
  ·exact hpost.rel.lt _ _ h1
 ·dsimp only at h1
  split at h1
  ·rename_i hid
   rw[dh id hid]at h2
   have hch:∀j,j∈ks->σ j=some id->∀o1,H1[j]?=some o1->Hn[id]?=some (rno (bA σ H0.length H.length) d o1)->am d o1=true->aI ⟨fun id'=>if id'<H.length then ρ id' else ρ1 (H0.length+(id'-H.length)),ρ1.mem,g2⟩ r o w':=fun j hj hs o1 a b c=>by
    rw[h2]at b;cases b
    have hρj:ρ1 j=some r:=hpost.ext _ _ (hσb j id r hs h1)
    exact jb (ρ:=ρ1) (σ:=bA σ H0.length H.length) (ρ':=⟨fun id'=>if id'<H.length then ρ id' else ρ1 (H0.length+(id'-H.length)),ρ1.mem,g2⟩) rb (fun _ _ h=>h) kA c (hpost.rel.obj j r o1 hρj (by rw[hsame j (hkl j hj)];exact a))
   rcases hW.ot id with hsm|⟨j,hj,hs⟩
   rotate_left
   ·rcases hW.pr j id hs with ⟨g1,g2'⟩|⟨_,o1,a,b,c,_⟩
    ·obtain ⟨o0,b1,b2⟩:=hks j hj
     obtain ⟨k1,k2,k3,k4⟩:=hown j id o0 hs b1 (hoa _ b2)
     rw[g2',k1]at h2;cases h2
     have hρj:=hσb j id r hs h1
     have Gq:=hpost.rel.obj j r o0 (hpost.ext _ _ hρj) (by rw[hsame j (hkl j hj),g1];exact b1)
     have hb:=aI.back (ρ2:=⟨(bf ρ σ).f,ρ1.mem,(bf ρ σ).g⟩) hpost.ext (fun _ _ h=>h) (fun _ _ h=>h) (fun _ _ _ h=>h) (hr0.obj _ _ _ hρj b1) Gq
     have hb2:=jb (σ:=σ) (ρ:=⟨(bf ρ σ).f,ρ1.mem,(bf ρ σ).g⟩) (ρ':=⟨ρ.f,ρ1.mem,ρ.g⟩) (fun i r h=>hsome h) (fun _ _ h=>h) (fun F k r h=>de h) k4 hb
     exact hb2.mono (ρ:=⟨ρ.f,ρ1.mem,ρ.g⟩) ⟨hext.f,fun _ _ h=>h,hext.g⟩ rfl
    ·exact hch j hj hs o1 a b c
   have h2n:=h2
   rw[hsm]at h2
   have hold:=hr.obj _ _ _ h1 h2
   by_cases hob:OB (bf ρ σ) H0 r.b
   ·-- a block that the small memory owns
    obtain ⟨j,rj,oj,j1,j2,j3,j4⟩:=yV hob
    obtain ⟨id',k1,k2⟩:=hsome j1
    obtain ⟨c1,c2,c3,c4⟩:=hown j id' oj k1 j2 (hoa _ j3)
    by_cases hal:o.alive=true
    ·have tX:id=id':=by
      rcases Nat.decEq id id' with hne|he
      ·exact absurd j4 (hr.sep id' id rj r _ o k2 h1 c1 h2 (by rw[c2];exact j3) hal (Ne.symm hne))
      ·exact he
     subst tX
     have k1':=k1
     rw[h1]at k2;cases k2
     rw[h2]at c1;cases c1
     have hj:=hr0.dom _ _ j1
     rcases hW.pr j id k1' with ⟨g1,_⟩|⟨hjk,o1,a,b,c,_⟩
     rotate_left
     ·exact hch j hjk k1' o1 a b c
     have Gq:=hpost.rel.obj j r oj (hpost.ext _ _ j1) (by rw[hsame j hj,g1];exact j2)
     have hb:=aI.back (ρ2:=⟨(bf ρ σ).f,ρ1.mem,(bf ρ σ).g⟩) hpost.ext (fun _ _ h=>h) (fun _ _ h=>h) (fun _ _ _ h=>h) (hr0.obj _ _ _ j1 j2) Gq
     have hb2:=jb (σ:=σ) (ρ:=⟨(bf ρ σ).f,ρ1.mem,(bf ρ σ).g⟩) (ρ':=⟨ρ.f,ρ1.mem,ρ.g⟩) (fun i r h=>hsome h) (fun _ _ h=>h) (fun F k r h=>de h) c4 hb
     exact hb2.mono (ρ:=⟨ρ.f,ρ1.mem,ρ.g⟩) ⟨hext.f,fun _ _ h=>h,hext.g⟩ rfl
    ·cases o <;> first|trivial|exact absurd rfl hal
   ·exact hold.mono hext (hpost.keep _ (hr.lt _ _ h1) hob)
  ·rename_i hid
   obtain ⟨o0,a1,rfl,a3,a4,_⟩:=cY id o (by omega) h2
   exact jb (ρ:=ρ1) (σ:=bA σ H0.length H.length) (ρ':=⟨fun id'=>if id'<H.length then ρ id' else ρ1 (H0.length+(id'-H.length)),ρ1.mem,g2⟩) rb (fun _ _ h=>h) kA a3 (hpost.rel.obj _ _ _ h1 a1)
 ·dsimp only at h1
  split at h1
  ·rename_i hid;rw[dh id hid]at h2;obtain ⟨o',b1,b2,_⟩:=hbk id o h2;exact hr.base _ _ _ h1 b1 (b2.trans h3)
  ·rename_i hid
   obtain ⟨o0,a1,_,a3,a4,_⟩:=cY id o (by omega) h2
   exact hpost.rel.base _ _ _ h1 a1 a4
 ·have fr:∀id r o,¬ id<H.length->ρ1 (H0.length+(id-H.length))=some r->(Hn++(f8 x0).map (rno (bA σ H0.length H.length) d))[id]?=some o->w.heap.size<=r.b:=by
   intro id r o hid a b
   obtain ⟨o0,a1,_,_,_,_⟩:=cY id o (by omega) b
   exact hfresh _ r o0 (by omega) a a1
  dsimp only at h1 h2
  by_cases c1:id1<H.length
  ·rw[if_pos c1]at h1
   rw[dh id1 c1]at g1
   by_cases c2:id2<H.length
   ·rw[if_pos c2]at h2
    rw[dh id2 c2]at g2
    obtain ⟨p1,a1,a2,_⟩:=hbk id1 o1 g1
    obtain ⟨p2,b1,_,b3⟩:=hbk id2 o2 g2
    exact hr.sep id1 id2 r1 r2 p1 p2 h1 h2 a1 b1 (a2.trans k1) (b3.trans k2) hne
   ·rw[if_neg c2]at h2
    have:=hr.lt _ _ h1
    have:=fr id2 r2 o2 c2 h2 g2
    omega
  ·rw[if_neg c1]at h1
   have f1:=fr id1 r1 o1 c1 h1 g1
   by_cases c2:id2<H.length
   ·rw[if_pos c2]at h2
    have:=hr.lt _ _ h2
    omega
   ·rw[if_neg c2]at h2
    obtain ⟨p1,a1,_,_,a4,_⟩:=cY id1 o1 (by omega) g1
    obtain ⟨p2,b1,_,_,b4,_⟩:=cY id2 o2 (by omega) g2
    exact hpost.rel.sep _ _ r1 r2 p1 p2 h1 h2 a1 b1 a4 (hoa _ b4) (by omega)
 ·dsimp only at h1
  split at h1
  ·rename_i hid
   rw[dh id hid]at h2
   intro he
   rcases hpost.frz b m hb with g|g|g
   ·obtain ⟨o',b1,b2,_⟩:=hbk id o h2
    exact (hr.mem b m g).2 id r o' h1 b1 (b2.trans h3) he
   ·have:=hr.lt _ _ h1;omega
   ·obtain ⟨j,rj,oj,j1,j2,j3,j4⟩:=yV g
    obtain ⟨oj',s1,s2⟩:=hstill j oj j2 j3
    exact (hpost.rel.mem b m hb).2 j rj oj' (hpost.ext _ _ j1) s1 s2 j4
  ·rename_i hid
   obtain ⟨o0,a1,_,a3,a4,_⟩:=cY id o (by omega) h2
   exact (hpost.rel.mem b m hb).2 _ r o0 h1 a1 a4
 ·dsimp only at h1
  split at h1
  ·rw[h2]at h1;cases h1
  ·omega
 ·rcases h2 with ⟨id,r,o,k1,k2,k3,k4⟩|⟨F,k,r,z,cs,m,e⟩
  ·simp only at k1
   split at k1
   ·rename_i hid;rw[dh id hid]at k2;obtain ⟨o',b1,b2,_⟩:=hbk id o k2;exact .inl ⟨id,r,o',k1,b1,b2.trans k3,k4⟩
   ·rename_i hid
    obtain ⟨o0,a1,_,_,_,_⟩:=cY id o (by omega) k2
    have:=hfresh _ r o0 (by omega) k1 a1
    omega
  ·exact .inr ⟨F,k,r,z,cs,hfm m,e⟩
theorem ad.Gu{f:FuncId}{args:List Value}{H0 H:Heap}{α:Type}{I:α->Prop}{vx:α->Value}{f8:α->Heap}{σ:Nat->Option Nat}{d:Nat}(hp:Part P H0 H σ d)(h:ad P f args H0 [] (fun v' H' => ∃x,I x/\v'=vx x/\H'=H0++f8 x))
  (hvx:∀x,I x->cm d (vx x)=true) (hnx:∀x,I x->(f8 x).all (fun o=>am d o&&o.owned)=true) :
  ad P f (args.map (rn σ d)) H [] (fun v' H' => ∃x,I x/\v'=rn (bA σ H0.length H.length) d (vx x)/\H'=H++(f8 x).map (rno (bA σ H0.length H.length) d)) :=
 ad.Bn (rx:=fun _=>[]) (ks:=[]) hp (fun _ h=>by cases h) h hvx (fun _ _ _ h=>by cases h) hnx
theorem ad.frame{f:FuncId}{args:List Value}{H0 H new:Heap}{v:Value}{σ:Nat->Option Nat}{d:Nat}(hp:Part P H0 H σ d)(h:ad P f args H0 [] (Is v (H0++new)))
  (hv:cm d v=true) (hn:new.all (fun o=>am d o&&o.owned)=true) :
  ad P f (args.map (rn σ d)) H [] (Is (rn (bA σ H0.length H.length) d v) (H++new.map (rno (bA σ H0.length H.length) d))):=by
 have h2:=ad.Gu (α:=Unit) (I:=fun _=>True) (vx:=fun _=>v) (f8:=fun _=>new) hp (h.post fun v' H' ⟨a,b⟩=>⟨(),trivial,a,b⟩) (fun _ _=>hv) (fun _ _=>hn)
 exact h2.post fun v' H' ⟨_,_,a,b⟩=>⟨a,b⟩
theorem yE{P:Program}{mixed:Bool}(M n:Nat)(hlt:M<2 ^ n)(h:(List.range n).all (fun f => !(Nat.testBit M f) ||Gw P mixed f)=true):fp P mixed M:=by
 intro f hf
 rcases Nat.lt_or_ge f n with hn|hn
 ·rw[List.all_eq_true]at h
  have:=h f (List.mem_range.2 hn)
  simpa[hf] using this
 ·have:Nat.testBit M f=false:=Nat.testBit_lt_two_pow (Nat.lt_of_lt_of_le hlt (Nat.pow_le_pow_right (by omega) hn))
  rw[this]at hf;cases hf
theorem rnL{σ:Nat->Option Nat}{d:Nat}{v:Value}(h:aY 0 v=true):rn σ (d+1) v=v/\cm (d+1) v=true:=by
 cases v with
 |pointer a=>cases a with|none=>exact ⟨rfl,rfl⟩|some a=>obtain ⟨b,o,s⟩:=a;cases s <;> simp[aY]at h
 |slice a l c=>cases a with|none=>exact ⟨rfl,rfl⟩|some a=>simp[aY]at h
 |map r=>cases r with|none=>exact ⟨rfl,rfl⟩|some r=>simp[aY]at h
 |func=>simp[aY]at h
 |agg=>simp[aY]at h
 |tuple=>simp[aY]at h
 |iface=>simp[aY]at h
 |_=>exact ⟨rfl,rfl⟩
theorem zS{σ:Nat->Option Nat}{d:Nat}{p:Value->Bool}(hp:∀v,p v=true->rn σ d v=v/\cm d v=true):∀{l:List Value},l.all p=true->l.map (rn σ d)=l/\l.all (cm d)=true
 | [],_=>⟨rfl,rfl⟩
 |v :: l,h=>by
  simp only[List.all_cons,Bool.and_eq_true]at h
  obtain ⟨a,b⟩:=hp v h.1
  obtain ⟨c,e⟩:=zS hp h.2
  exact ⟨by rw[List.map_cons,a,c],by simp[b,e]⟩
theorem rnI{σ:Nat->Option Nat}{d k:Nat}{p:Value->Bool}(hp:∀v,p v=true->rn σ d v=v/\cm d v=true){cs:Array Value}(h:cs.toList.all p=true) :
  (rn σ (d+1) (.iface k (.agg cs)) = .iface k (.agg cs)/\cm (d+1) (.iface k (.agg cs))=true)/\(rn σ (d+1) (.iface k (.tuple cs)) = .iface k (.tuple cs)/\cm (d+1) (.iface k (.tuple cs))=true):=by
 obtain ⟨a,b⟩:=zS hp h
 exact ⟨⟨by unfold rn;simp only;rw[a],b⟩,⟨by unfold rn;simp only;rw[a],b⟩⟩
theorem rnD{σ:Nat->Option Nat}{d:Nat}{v:Value}(h:b7 0 v=true):rn σ (d+2) v=v/\cm (d+2) v=true:=by
 cases v with
 |iface k x =>
  cases x with
  |agg cs=>exact (rnI (d:=d+1) (fun v hv=>rnL hv) h).1
  |tuple cs=>exact (rnI (d:=d+1) (fun v hv=>rnL hv) h).2
  |_=>cases h
 |_=>exact rnL (d:=d+1) h
theorem rnC{σ:Nat->Option Nat}{d:Nat}{v:Value}(h:ao 0 v=true):rn σ (d+3) v=v/\cm (d+3) v=true:=by
 cases v with
 |iface k x =>
  cases x with
  |agg cs=>exact (rnI (d:=d+2) (fun v hv=>rnD hv) h).1
  |tuple cs=>exact (rnI (d:=d+2) (fun v hv=>rnD hv) h).2
  |_=>cases h
 |pointer a=>cases a with|none=>exact ⟨rfl,rfl⟩|some a=>obtain ⟨b,o,s⟩:=a;cases s <;> simp[ao]at h
 |slice a l c=>cases a with|none=>exact ⟨rfl,rfl⟩|some a=>simp[ao]at h
 |map r=>cases r with|none=>exact ⟨rfl,rfl⟩|some r=>simp[ao]at h
 |func=>simp[ao]at h
 |agg=>simp[ao]at h
 |tuple=>simp[ao]at h
 |_=>exact ⟨rfl,rfl⟩
theorem ed{σ:Nat->Option Nat}{d:Nat}:∀{l:List Value},l.all (ao 0)=true->l.map (rn σ (d+3))=l/\l.all (cm (d+3))=true
 | [],_=>⟨rfl,rfl⟩
 |v :: l,h=>by
  simp only[List.all_cons,Bool.and_eq_true]at h
  obtain ⟨a,b⟩:=rnC (σ:=σ) (d:=d) h.1
  obtain ⟨c,e⟩:=ed (σ:=σ) (d:=d) h.2
  exact ⟨by rw[List.map_cons,a,c],by simp[b,e]⟩
theorem rnV{σ:Nat->Option Nat}{d:Nat}{v:Value}(h:bn 0 v=true):rn σ (d+5) v=v/\cm (d+5) v=true:=by
 cases v with
 |agg cs =>
  obtain ⟨a,b⟩:=ed (σ:=σ) (d:=d+1) h
  exact ⟨by unfold rn;simp only;rw[a],b⟩
 |tuple vs =>
  have key:∀l:List Value,(l.all fun v=>match v with| .agg cs=>cs.toList.all (ao 0)|v=>ao 0 v)=true->l.map (rn σ (d+4))=l/\l.all (cm (d+4))=true:=by
   intro l
   induction l with
   |nil=>intro _;exact ⟨rfl,rfl⟩
   |cons v l ih =>
    intro hl
    simp only[List.all_cons,Bool.and_eq_true]at hl
    obtain ⟨c,e⟩:=ih hl.2
    have hv:rn σ (d+4) v=v/\cm (d+4) v=true:=by
     cases v with
     |agg cs =>
      obtain ⟨a,b⟩:=ed (σ:=σ) (d:=d) hl.1
      exact ⟨by unfold rn;simp only;rw[a],b⟩
     |_=>exact rnC (d:=d+1) hl.1
    exact ⟨by rw[List.map_cons,hv.1,c],by simp[hv.2,e]⟩
  obtain ⟨a,b⟩:=key vs.toList h
  exact ⟨by unfold rn;simp only;rw[a],b⟩
 |_=>exact rnC (d:=d+2) h
theorem fg{n:Nat}{v:Value}(h:aY 0 v=true):aY n v=true:=by
 cases v with
 |pointer a=>cases a with|none=>rfl|some a=>obtain ⟨b,o,s⟩:=a;cases s <;> simp[aY]at h
 |slice a l c=>cases a with|none=>rfl|some a=>simp[aY]at h
 |map r=>cases r with|none=>rfl|some r=>simp[aY]at h
 |func=>simp[aY]at h
 |agg=>simp[aY]at h
 |tuple=>simp[aY]at h
 |iface=>simp[aY]at h
 |_=>first|rfl|exact h
theorem jm{p q:Value->Bool}(hp:∀v,p v=true->q v=true){l:List Value}(h:l.all p=true):l.all q=true:=by
 rw[List.all_eq_true]at *;exact fun v hv=>hp v (h v hv)
theorem lZ{n:Nat}{v:Value}(h:b7 0 v=true):b7 n v=true:=by
 cases v with
 |iface k x =>
  cases x with
  |agg cs=>exact jm (fun v hv=>fg hv) h
  |tuple cs=>exact jm (fun v hv=>fg hv) h
  |_=>cases h
 |pointer a=>exact fg (n:=n) (v:=.pointer a) h
 |slice a l c=>exact fg (n:=n) (v:=.slice a l c) h
 |map r=>exact fg (n:=n) (v:=.map r) h
 |_=>first|rfl|exact h
theorem du{n:Nat}{v:Value}(h:ao 0 v=true):ao n v=true:=by
 cases v with
 |iface k x =>
  cases x with
  |agg cs=>exact jm (fun v hv=>lZ hv) h
  |tuple cs=>exact jm (fun v hv=>lZ hv) h
  |_=>cases h
 |pointer a=>cases a with|none=>rfl|some a=>obtain ⟨b,o,s⟩:=a;cases s <;> simp[ao]at h
 |slice a l c=>cases a with|none=>rfl|some a=>simp[ao]at h
 |map r=>cases r with|none=>rfl|some r=>simp[ao]at h
 |func=>simp[ao]at h
 |agg=>simp[ao]at h
 |tuple=>simp[ao]at h
 |_=>first|rfl|exact h
theorem rE{n:Nat}{l:List Value}(h:l.all (ao 0)=true):l.all (ao n)=true:=by
 rw[List.all_eq_true]at *;exact fun v hv=>du (h v hv)
theorem ut{n:Nat}{v:Value}(h:bn 0 v=true):bn n v=true:=by
 cases v with
 |agg cs=>exact rE h
 |tuple vs =>
  simp only[bn,List.all_eq_true]at *
  intro v hv
  have:=h v hv
  cases v with
  |agg cs=>simp only[List.all_eq_true]at *;exact fun x hx=>du (this x hx)
  |_=>exact du this
 |bool b=>rfl
 |int k n=>rfl
 |float k n=>rfl
 |string s=>rfl
 |nilFunc=>rfl
 |nilIface=>rfl
 |pointer a=>exact du (n:=n) (v:=.pointer a) h
 |slice a l c=>exact du (n:=n) (v:=.slice a l c) h
 |map r=>exact du (n:=n) (v:=.map r) h
 |iface k x=>exact du (n:=n) (v:=.iface k x) h
 |_=>simp[bn,ao]at h
theorem ad.clean{f:FuncId}{args:List Value}{H:Heap}{v:Value}(h:ad P f args H [] (fun v' _=>v'=v))(hb:bn 0 v=true):ad P f args H [] (Is v H):=by
 refine h.trim ?_
 rintro v' H' hl hs rfl
 refine ⟨ut hb,(fun _ h=>(by cases h)),rfl,?_⟩
 refine List.ext_getElem? (fun i =>?_)
 rw[List.getElem?_take]
 split
 ·rename_i hi;exact hs i hi (by simp)
 ·rename_i hi;exact (List.getElem?_eq_none (by omega)).symm
section
variable {mask:Nat} {dm:Value->MS} {rounds:Nat} {mixed:Bool}
theorem vcP(ew:fp P mixed mask)(fj:mixed=true->P.follows .mixedOrders=true)(n:Nat){f:FuncId}{args:List Value}{h:Hint}{v:Value}(hargs:∀σ,args.map (rn σ 5)=args)(hv:bn 0 v=true)
  (hc:vF P mask dm rounds mixed n true f args ⟨P.globals.size,.leaf⟩ (some []) h (fun v' _ _=>v'=v)) (H:Heap) (hH:P.globals.size<=H.length):ad P f args H [] (Is v H):=by
 have h1:=ad.clean (vc ew fj n (Q:=fun v' _=>v'=v) hc) hv
 have kC:∀(id:Nat) (o:aa),(HT.list ⟨P.globals.size,.leaf⟩)[id]?=some o->o = .dead:=by
  intro id o ho
  rw[HT.aj]at ho
  unfold HT.get at ho
  cases hb:Nat.blt id P.globals.size with
  |true=>simp only[hb,cond_true]at ho;cases ho;rfl
  |false=>simp only[hb,cond_false]at ho;cases ho
 have hlen:(HT.list ⟨P.globals.size,.leaf⟩).length=P.globals.size:=HT.length _
 have hp:Part P (HT.list ⟨P.globals.size,.leaf⟩) H (fun id=>if id<P.globals.size then some id else none) 5:=by
  refine ⟨fun g hg=>if_pos hg,fun id id' h =>?_,fun id hid =>?_,fun a b c h1 h2 =>?_,fun id id' o _ ho => .inl (kC id o ho)⟩
  ·split at h
   ·cases h;rw[hlen];omega
   ·cases h
  ·rw[hlen]at hid;exact ⟨id,if_pos hid⟩
  ·split at h1
   ·split at h2
    ·cases h1;cases h2;rfl
    ·cases h2
   ·cases h1
 have h2:=ad.frame (new:=[]) (d:=5) hp (by simpa using h1) (rnV (σ:=fun _=>none) (d:=0) hv).2 rfl
 rw[hargs,(rnV (d:=0) hv).1]at h2
 simpa using h2
def mW(n0 d:Nat)(v:Value)(new:List (Bool×aa)):KV:=fun v' H' h' =>
 match h' with
 | .again σ=>qp n0 (n0+new.length) [] σ=true/\wk v' (rn (sg n0 σ) d v)/\lL H' n0 (sg n0 σ) d n0 new
 |_=>False
theorem ad.pack{f:FuncId}{args:List Value}{H0:HT}{v:Value}{new:List (Bool×aa)}{d:Nat}(h:ad P f args H0.list [] (fun v' H' => ∃(H2:HT) (σ:List (Nat×Nat)),H'=H2.list/\qp H0.n (H0.n+new.length) [] σ=true/\wk v' (rn (sg H0.n σ) d v)/\lL H2 H0.n (sg H0.n σ) d H0.n new)) :
  ad P f args H0.list [] (Is v (H0.list++new.map (·.2))):=by
 refine ⟨h.1,fun B ρ w args' hr ha=>(h.2 B ρ w args' hr ha).mono ?_⟩
 rintro e w' ⟨v',r,ρ',H',rfl,hv,hp,H2,σ,rfl,hs,hw,hn⟩
 have hh:jU 0 ⟨fun _=>junk,.leaf⟩ H2 H0 d [] σ [] [] new []:=⟨by simp only[Bool.and_eq_true];exact ⟨hs,rfl,rfl,rfl⟩,trivial,trivial,hn,trivial⟩
 have he:=eP hh
 have hlist:(fK H0 [] new []).list=H0.list++new.map (·.2):=by
  have key:∀(l:List (Bool×aa)) (H:HT),(l.foldl (fun H p=>H.push p.2) H).list=H.list++l.map (·.2):=by
   intro l
   induction l with
   |nil=>intro H;simp
   |cons p l ih=>intro H;rw[List.foldl_cons,ih,HT.aW];simp
  exact key new H0
 rw[hlist]at he
 obtain ⟨q1,_⟩:=he.post hr hp
 refine ⟨v,r,bf ρ' (sg H0.n σ),_,rfl,?_,q1,rfl,rfl⟩
 have hσ:∀id id' r,sg H0.n σ id=some id'->ρ' id'=some r->(bf ρ' (sg H0.n σ)) id=some r:=fun id id' r h1 h2=>by show Option.bind _ _=_;rw[h1];exact h2
 exact gq (ρ':=ρ') (ρ:=bf ρ' (sg H0.n σ)) hσ (fun _ _ h=>h) (fun F F' k r h1 h2=>by show Option.bind _ _=_;rw[h1];exact h2) d (hw _ _ hv)
theorem vcN(ew:fp P mixed mask)(fj:mixed=true->P.follows .mixedOrders=true)(n:Nat){f:FuncId}{args:List Value}{H0:HT}{h:Hint}{v:Value}{new:List (Bool×aa)}{d:Nat}
  (hc:vF P mask dm rounds mixed n true f args H0 (some []) h (mW H0.n d v new)):ad P f args H0.list [] (Is v (H0.list++new.map (·.2))):=by
 refine ad.pack (d:=d) (((kc ew fj n).1 f args H0 (some []) h _ hc).post ?_)
 rintro v' H' ⟨H2,h2,e,hk⟩
 cases h2 with
 |again σ=>exact ⟨H2,σ,e,hk⟩
 |_=>exact hk.elim
end
def cN(n:Nat)(cs:List Value)(off:Nat):Option Value:=if off+n<=cs.length then some (.agg ⟨(cs.drop off).take n⟩) else none
def BR{α:Type}(f:α->List Value)(n:Nat)(cs:List Value)(off:Nat)(xs:List α):Prop:=∀(k:Nat) (x:α),xs[k]?=some x->(f x).length=n/\(cs.drop (off+k*n)).take n=f x
theorem BR.cell{α:Type}{f:α->List Value}{n:Nat}{cs:List Value}{off:Nat}{xs:List α}(h:BR f n cs off xs){k c:Nat}{x:α}(hx:xs[k]?=some x){v:Value}(hv:(f x)[c]?=some v):cs[off+k*n+c]?=some v:=by
 obtain ⟨h1,h2⟩:=h k x hx
 have hc:c<n:=by have:=(List.getElem?_eq_some_iff.1 hv).1;omega
 rw[<- h2,List.getElem?_take,if_pos hc,List.getElem?_drop]at hv
 exact hv
theorem BR.agg{α:Type}{f:α->List Value}{n:Nat}{cs:List Value}{off:Nat}{xs:List α}(h:BR f n cs off xs){k c m:Nat}{x:α}(hx:xs[k]?=some x)(hm:c+m<=n)(h0:0<m):cN m cs (off+k*n+c)=some (.agg ⟨((f x).drop c).take m⟩):=by
 obtain ⟨h1,h2⟩:=h k x hx
 have hl:(f x).length<=(cs.drop (off+k*n)).length:=by rw[<- h2,List.length_take];omega
 rw[List.length_drop]at hl
 unfold cN
 rw[if_pos (by omega),<- h2,List.drop_take,List.take_take,List.drop_drop,Nat.min_eq_left (by omega)]
end
end Go.K
namespace Go.K
variable {P:Program}
def si(P:Program):Nat->List Field->Nat->Bool
 |off,[],tot=>off == tot
 |off,f :: fs,tot=>f.offset == off&&si P (off+P.cellsOf f.type) fs tot
def fF(P:Program):Nat->TypeId->Bool
 |0,_=>false
 |n+1,t=>match P.underlying t with
  |some .bool=>true
  |some (.int _)=>true
  |some .string=>true
  |some (.struct fs)=>fs.toList.all (fun f=>fF P n f.type)&&si P 0 fs.toList (P.cellsOf t)
  |some (.slice e)=>fF P n e&&decide (0<P.cellsOf e)
  |some (.array k e)=>fF P n e&&decide (0<P.cellsOf e)&&(P.cellsOf t == k*P.cellsOf e)
  |_=>false
def Ct(P:Program)(n:Nat)(t:TypeId):Bool:=fF P n t&&match P.underlying t with|some (.array _ _)=>false|_=>true
def di(g:TypeId->List Value->Prop):List TypeId->List Value->Prop
 | [],cs=>cs=[]
 |t :: ts,cs => ∃c rest,cs=c++rest/\g t c/\di g ts rest
def Good(P:Program)(H:Heap):Nat->TypeId->List Value->Prop
 |0,_,_=>False
 |n+1,t,cs=>match P.underlying t with
  |some .bool => ∃b,cs=[.bool b]
  |some (.int k) => ∃x,cs=[.int k x]/\k.min<=x/\x<=k.max
  |some .string => ∃s,cs=[.string s]
  |some (.struct fs)=>di (Good P H n) (fs.toList.map (·.type)) cs
  |some (.slice e)=>cs=[.slice none 0 0]∨cs=[.slice (some ⟨0,0,some 0⟩) 0 0] ∨
    ∃id len cs',cs=[.slice (some ⟨id,0,none⟩) len len]/\H[id]?=some (.cells false 0 cs')/\cs'.length=len*P.cellsOf e/\len<=maxLen/\di (Good P H n) (List.replicate len e) cs'
  |some (.array k e)=>di (Good P H n) (List.replicate k e) cs
  |_=>False
theorem di.mono{g g':TypeId->List Value->Prop}(h:∀t cs,g t cs->g' t cs):∀{ts:List TypeId} {cs:List Value},di g ts cs->di g' ts cs
 | [],_,hl=>hl
 |_ :: _,_,⟨c,rest,e,h1,h2⟩=>⟨c,rest,e,h _ _ h1,di.mono h h2⟩
theorem Good.mono{H K:Heap}:∀{n:Nat} {t:TypeId} {cs:List Value},Good P H n t cs->Good P (H++K) n t cs:=by
 intro n
 induction n with
 |zero=>intro t cs h;exact h
 |succ n ih =>
  intro t cs h
  unfold Good at h ⊢
  split at h
  ·exact h
  ·exact h
  ·exact h
  ·exact di.mono (fun _ _=>ih) h
  ·rcases h with h|h|⟨id,len,cs',h1,h2,h3,h4,h5⟩
   ·exact .inl h
   ·exact .inr (.inl h)
   ·exact .inr (.inr ⟨id,len,cs',h1,by rw[List.getElem?_append_left (List.getElem?_eq_some_iff.1 h2).1];exact h2,h3,h4,di.mono (fun _ _=>ih) h5⟩)
  ·exact di.mono (fun _ _=>ih) h
  ·exact h
structure Ext(P:Program)(B:Nat)(W:World)(ρ:Ren)(H:Heap)(ρ':Ren)(H':Heap):Prop where
 rel:Rel P B ρ' H' W
 le:Ren.le ρ ρ'
 pre:∃K,H'=H++K
theorem Ext.refl{B:Nat}{W:World}{ρ:Ren}{H:Heap}(h:Rel P B ρ H W):Ext P B W ρ H ρ H:=⟨h,Ren.le_refl _,[],by simp⟩
theorem Ext.trans{B:Nat}{W:World}{ρ ρ1 ρ2:Ren}{H H1 H2:Heap}(h:Ext P B W ρ H ρ1 H1)(k:Ext P B W ρ1 H1 ρ2 H2):Ext P B W ρ H ρ2 H2:=by
 obtain ⟨K1,rfl⟩:=h.pre
 obtain ⟨K2,rfl⟩:=k.pre
 exact ⟨k.rel,Ren.le_trans h.le k.le,K1++K2,by simp⟩
theorem Ext.row{B:Nat}{W:World}{ρ:Ren}{H:Heap}(hr:Rel P B ρ H W){ri:RI}{cs:List Value}(hown:ri.own=false)(hz:ri.z=0)(hlt:ri.b<W.heap.size)(hb:ri.b<B)
  (ho:∃cs' ty fz,W.heap[ri.b]?=some (.cells cs' ty fz)/\cs'.size=ri.n/\∀(i:Nat) (v:Value),cs[i]?=some v->∃v':Value,cs'[i+ri.s]?=some v'/\VR ρ v v') :
  Ext P B W ρ H (ρ.set H.length ri) (H ++ [.cells false 0 cs]):=by
 have hnone:ρ H.length=none:=by
  cases h:ρ H.length with
  |none=>rfl
  |some r=>exact absurd (hr.dom _ _ h) (Nat.lt_irrefl _)
 have hle:=Ren.dr (r:=ri) hnone
 have hget:∀id,id≠H.length->id<H.length+1->(H ++ [aa.cells false 0 cs])[id]?=H[id]? := fun id h1 h2=>List.getElem?_append_left (by omega)
 have hnew:(H ++ [aa.cells false 0 cs])[H.length]?=some (.cells false 0 cs):=by simp
 have hdom:∀id r,ρ.set H.length ri id=some r->id<H.length+1:=fun id r h=>by
  by_cases e:id=H.length
  ·omega
  ·rw[Ren.au e]at h;have:=hr.dom _ _ h;omega
 refine ⟨⟨hr.bsize,fun g hg =>?_,fun id r h=>by simpa using hdom id r h,fun id r h =>?_,fun id r o h1 h2 =>?_,fun id r o h1 h2 h3 =>?_,?_,fun b m hm=>⟨(hr.mem b m hm).1,fun id r o h1 h2 h3 =>?_⟩,
   hr.fam.keep hle (fun _ _ _ h=>h) (fun F z cs hF h=>by rw[List.getElem?_append_left hF]at h;exact h) (by simp) (Nat.le_refl _) (fun _ _=>rfl) (fun id r o h1 h2 h3=>by
    by_cases e:id=H.length
    ·subst e;rw[Ren.av]at h1;cases h1;exact hr.fam.Io hb
    ·rw[Ren.au e]at h1
     rw[hget id e (by have:=hr.dom _ _ h1;omega)]at h2
     exact hr.fam.free h1 h2 h3) (fun b m h=>hr.fam.ez h)⟩,hle,_,rfl⟩
 ·obtain ⟨r,h1,h2,h3⟩:=hr.cS g hg
  exact ⟨r,hle _ _ h1,h2,h3⟩
 ·by_cases e:id=H.length
  ·subst e;rw[Ren.av]at h;cases h;exact hlt
  ·rw[Ren.au e]at h;exact hr.lt _ _ h
 ·by_cases e:id=H.length
  ·subst e
   rw[Ren.av]at h1;cases h1
   rw[hnew]at h2;cases h2
   obtain ⟨cs',ty,fz,g1,g2,g3⟩:=ho
   exact ⟨hown.symm,hz.symm,cs',ty,fz,g1,g2,fun h=>(by cases h),fun i v hv=>let ⟨v',a,b⟩:=g3 i v hv; ⟨v',a,b.mono hle⟩⟩
  ·rw[Ren.au e]at h1
   rw[hget id e (by have:=hr.dom _ _ h1;omega)]at h2
   exact (hr.obj id r o h1 h2).mono hle rfl
 ·by_cases e:id=H.length
  ·subst e;rw[hnew]at h2;cases h2;cases h3
  ·rw[Ren.au e]at h1
   rw[hget id e (by have:=hr.dom _ _ h1;omega)]at h2
   exact hr.base id r o h1 h2 h3
 ·intro id id' r r' o o' h1 h1' h2 h2' h3 h3' hne
  by_cases e:id=H.length
  ·subst e;rw[hnew]at h2;cases h2;cases h3
  ·rw[Ren.au e]at h1
   rw[hget id e (by have:=hr.dom _ _ h1;omega)]at h2
   by_cases e':id'=H.length
   ·subst e'
    rw[Ren.av]at h1';cases h1'
    have:=hr.base id r o h1 h2 h3
    omega
   ·rw[Ren.au e']at h1'
    rw[hget id' e' (by have:=hr.dom _ _ h1';omega)]at h2'
    exact hr.sep id id' r r' o o' h1 h1' h2 h2' h3 h3' hne
 ·by_cases e:id=H.length
  ·subst e;rw[hnew]at h2;cases h2;cases h3
  ·rw[Ren.au e]at h1
   rw[hget id e (by have:=hr.dom _ _ h1;omega)]at h2
   exact (hr.mem b m hm).2 id r o h1 h2 h3
end Go.K
namespace Go.K
variable {P:Program} {HH:Type} {enc:TypeId×Value->HH} {W:World} {base:Nat} {held:Bool} {B:Nat}
theorem VRl.length{ρ:Ren}{l l':List Value}(h:VRl ρ l l'):l.length=l'.length:=h.1
theorem jY{m n:Nat}(IH:∀(t:TypeId) (cs:List Value) (x:DataW HH×List MemPlace) (ρ:Ren) (H:Heap),fF P n t=true->DataW.trod enc P W base (fun _=>true) held m t cs=some x->Rel P B ρ H W->∃ρ' H' cs',Ext P B W ρ H ρ' H'/\VRl ρ' cs' cs/\Good P H' n t cs') :
  ∀(l:List (TypeId×List Value)),(∀p∈l,fF P n p.1=true/\∃x,DataW.trod enc P W base (fun _=>true) held m p.1 p.2=some x)->∀(ρ:Ren) (H:Heap),Rel P B ρ H W ->
   ∃ρ' H' cs',Ext P B W ρ H ρ' H'/\VRl ρ' cs' (l.map (·.2)).flatten/\di (Good P H' n) (l.map (·.1)) cs':=by
 intro l
 induction l with
 |nil=>intro _ ρ H hr;exact ⟨ρ,H,[],Ext.refl hr,.nil ρ,rfl⟩
 |cons p ps ih =>
  intro hp ρ H hr
  obtain ⟨h1,x,h2⟩:=hp p (List.mem_cons_self ..)
  obtain ⟨ρ1,H1,c1,e1,v1,g1⟩:=IH p.1 p.2 x ρ H h1 h2 hr
  obtain ⟨ρ2,H2,c2,e2,v2,g2⟩:=ih (fun q hq=>hp q (List.mem_cons_of_mem _ hq)) ρ1 H1 e1.rel
  refine ⟨ρ2,H2,c1++c2,e1.trans e2,?_,c1,c2,rfl,?_,g2⟩
  ·simp only[List.map_cons,List.flatten_cons]
   exact VRl.append (v1.mono e2.le) v2
  ·obtain ⟨K,rfl⟩:=e2.pre
   exact g1.mono
theorem yl:∀(fs:List Field) (off tot:Nat) (cs:List Value),si P off fs tot=true->cs.length=tot->off<=tot/\((fs.map (fun f=>(cs.drop f.offset).take (P.cellsOf f.type))).flatten=cs.drop off):=by
 intro fs
 induction fs with
 |nil =>
  intro off tot cs h hl
  simp only[si,beq_iff_eq]at h
  subst h
  exact ⟨Nat.le_refl _,by rw[<- hl];simp⟩
 |cons f fs ih =>
  intro off tot cs h hl
  simp only[si,Bool.and_eq_true,beq_iff_eq]at h
  obtain ⟨h1,h2⟩:=h
  obtain ⟨h3,h4⟩:=ih _ _ cs h2 hl
  refine ⟨by omega,?_⟩
  simp only[List.map_cons,List.flatten_cons,h4,h1]
  rw[<- List.drop_drop]
  exact List.take_append_drop ..
theorem qo:∀(n size:Nat),(List.replicate n size).sum=n*size
 |0,size=>by simp
 |n+1,size=>by rw[List.replicate_succ,List.sum_cons,qo n size,Nat.add_mul];omega
theorem flat_get{n size:Nat}{css:Nat->List Value}(hl:∀i,i<n->(css i).length=size)(hs:0<size):∀(j:Nat),j<n*size->((List.range n).map css).flatten[j]?=(css (j / size))[j % size]? := by
 induction n with
 |zero=>intro j hj;omega
 |succ n ih =>
  intro j hj
  rw[List.range_succ,List.map_append,List.flatten_append]
  have hlen:((List.range n).map css).flatten.length=n*size:=by
   rw[List.length_flatten,List.map_map]
   have:(List.range n).map (List.length ∘ css)=List.replicate n size:=by
    rw[List.eq_replicate_iff]
    refine ⟨by simp,fun b hb =>?_⟩
    obtain ⟨i,hi,rfl⟩:=List.mem_map.1 hb
    exact hl i (by have:=List.mem_range.1 hi;omega)
   rw[this];exact qo n size
  rcases Nat.lt_or_ge j (n*size) with h|h
  ·rw[List.getElem?_append_left (by omega)]
   exact ih (fun i hi=>hl i (by omega)) j h
  ·rw[List.getElem?_append_right (by omega),hlen]
   have h1:j / size=n:=by
    rw[Nat.div_eq_of_lt_le h]
    rw[Nat.add_mul]at hj ⊢;omega
   have h2:j % size=j-n*size:=by
    have:=Nat.mod_add_div j size
    rw[h1,Nat.mul_comm]at this;omega
   simp[h1,h2]
theorem bring(hbase:B=W.heap.size):∀(m n:Nat) (t:TypeId) (cs:List Value) (x:DataW HH×List MemPlace) (ρ:Ren) (H:Heap),fF P n t=true->DataW.trod enc P W base (fun _=>true) held m t cs=some x->Rel P B ρ H W ->
  ∃ρ' H' cs',Ext P B W ρ H ρ' H'/\VRl ρ' cs' cs/\Good P H' n t cs':=by
 intro m
 induction m with
 |zero=>intro n t cs x ρ H _ h;simp[DataW.trod]at h
 |succ m ih =>
  intro n t cs x ρ H hp h hr
  cases n with
  |zero=>simp[fF]at hp
  |succ n =>
   unfold fF at hp
   split at hp
   ·rename_i hu
    obtain ⟨b,rfl,_⟩:=DataW.trod_bool hu h
    exact ⟨ρ,H,[.bool b],Ext.refl hr,.cons (.bool b) (.nil ρ),by simp[Good,hu]⟩
   ·rename_i k hu
    obtain ⟨y,rfl,_,hw⟩:=DataW.trod_int hu h
    refine ⟨ρ,H,[.int k y],Ext.refl hr,.cons (.int k y) (.nil ρ),?_⟩
    simp only[Lit.wf,Bool.and_eq_true,decide_eq_true_eq]at hw
    simp[Good,hu,hw]
   ·rename_i hu
    obtain ⟨s,rfl,_⟩:=DataW.trod_string hu h
    exact ⟨ρ,H,[.string s],Ext.refl hr,.cons (.string s) (.nil ρ),by simp[Good,hu]⟩
   ·rename_i fs hu
    simp only[Bool.and_eq_true,List.all_eq_true]at hp
    obtain ⟨xs,m',hm,_,hl,hxl,hx⟩:=DataW.trod_struct hu h
    cases hm
    obtain ⟨_,hfl⟩:=yl fs.toList 0 _ cs hp.2 hl
    obtain ⟨ρ',H',cs',e,v,g⟩:=jY (ih n) (fs.toList.map (fun f=>(f.type,(cs.drop f.offset).take (P.cellsOf f.type)))) (fun p hpm=>by
     obtain ⟨f,hf,rfl⟩:=List.mem_map.1 hpm
     refine ⟨hp.1 f hf,?_⟩
     obtain ⟨i,hi⟩:=List.getElem?_of_mem hf
     have hi':fs[i]?=some f:=by simpa using hi
     have hlt:i<xs.length:=by rw[hxl];exact (Array.getElem?_eq_some_iff.1 hi').1
     exact ⟨_,(hx i f hi').trans (List.getElem?_eq_getElem hlt)⟩) ρ H hr
    refine ⟨ρ',H',cs',e,?_,?_⟩
    ·rw[List.map_map]at v
     rw[List.drop_zero]at hfl
     rw[<- hfl];exact v
    ·rw[List.map_map]at g
     simp only[Good,hu];exact g
   ·rename_i e hu
    simp only[Bool.and_eq_true,decide_eq_true_eq]at hp
    rcases DataW.trod_slice hu h with ⟨rfl,_⟩|⟨a,len,cap,elems,rest,m',hm,rfl,_,hb,hl,hcap,hlen,hel,hrest,_⟩
    ·exact ⟨ρ,H,[.slice none 0 0],Ext.refl hr,.cons .aT (.nil ρ),by simp[Good,hu]⟩
    ·cases hm
     rcases Nat.eq_zero_or_pos cap with hc0|J6
     ·subst hc0
      have hl0:len=0:=by omega
      subst hl0
      exact ⟨ρ,H,[.slice (some ⟨0,0,some 0⟩) 0 0],Ext.refl hr,.cons .bv (.nil ρ),by simp[Good,hu]⟩
     ·have Gs:∃c0,W.cells? base a (P.cellsOf e)=some c0:=by
       rcases Nat.eq_zero_or_pos len with h0|h0
       ·have h1:=(hrest rfl).2 0 (by omega)
        have h2:0<rest.length:=by rw[(hrest rfl).1];omega
        rw[List.getElem?_eq_getElem h2]at h1
        obtain ⟨c0,g1,_⟩:=Option.bind_eq_some_iff.1 h1
        subst h0
        exact ⟨c0,by simpa[Addr.add] using g1⟩
       ·have h1:=hel 0 h0
        rw[List.getElem?_eq_getElem (by omega)]at h1
        obtain ⟨c0,g1,_⟩:=Option.bind_eq_some_iff.1 h1
        exact ⟨c0,by simpa[Addr.add] using g1⟩
      obtain ⟨c0,hc0⟩:=Gs
      obtain ⟨_,hc1,hc2⟩:=World.cells?_some hc0
      have hc3:W.cell? a=c0[0]? := by simpa[Addr.add] using hc2 0 hp.2
      rw[List.getElem?_eq_getElem (by omega)]at hc3
      obtain ⟨b,off,spot⟩:=a
      unfold World.cell? at hc3
      simp only at hc3
      split at hc3
      ·rename_i raw ty fz hraw
       cases spot with
       |some q=>simp at hc3
       |none =>
        have hadd:∀p,(⟨b,off,none⟩:Addr).add p=⟨b,off+p,none⟩:=by
         intro p;unfold Addr.add;split
         ·rename_i h0;subst h0;rfl
         ·rfl
        have hcell:∀k,W.cell? ⟨b,k,none⟩=raw[k]? := by intro k;unfold World.cell?;simp[hraw]
        have hbl:b<W.heap.size:=(Array.getElem?_eq_some_iff.1 hraw).1
        obtain ⟨css,lx⟩:∃css:Nat->List Value,∀i,i<len->W.cells? base ⟨b,off+i*P.cellsOf e,none⟩ (P.cellsOf e)=some (css i)/\∃y,DataW.trod enc P W base (fun _=>true) held m e (css i)=some y:=by
         refine ⟨fun i=>(W.cells? base ⟨b,off+i*P.cellsOf e,none⟩ (P.cellsOf e)).getD [],fun i hi =>?_⟩
         have h1:=hel i hi
         rw[hadd,List.getElem?_eq_getElem (by omega)]at h1
         obtain ⟨ci,g1,g2⟩:=Option.bind_eq_some_iff.1 h1
         simp only[g1,Option.getD_some]
         exact ⟨trivial,_,g2⟩
        obtain ⟨ρ1,H1,cs1,e1,v1,g1⟩:=jY (ih n) ((List.range len).map (fun i=>(e,css i))) (fun p hpm=>by
         obtain ⟨i,hi,rfl⟩:=List.mem_map.1 hpm
         exact ⟨hp.1,(lx i (List.mem_range.1 hi)).2⟩) ρ H hr
        have hmap:((List.range len).map (fun i=>(e,css i))).map (·.1)=List.replicate len e:=by
         rw[List.map_map,List.eq_replicate_iff]
         refine ⟨by simp,fun q hq =>?_⟩
         obtain ⟨i,_,rfl⟩:=List.mem_map.1 hq;rfl
        rw[hmap]at g1
        rw[List.map_map]at v1
        have hcl:∀i,i<len->(css i).length=P.cellsOf e:=fun i hi=>(World.cells?_some (lx i hi).1).2.1
        have Ik:((List.range len).map css).flatten.length=len*P.cellsOf e:=by
         rw[List.length_flatten,List.map_map]
         have:(List.range len).map (List.length ∘ css)=List.replicate len (P.cellsOf e):=by
          rw[List.eq_replicate_iff]
          refine ⟨by simp,fun q hq =>?_⟩
          obtain ⟨i,hi,rfl⟩:=List.mem_map.1 hq
          exact hcl i (List.mem_range.1 hi)
         rw[this];exact qo _ _
        have hv1:VRl ρ1 cs1 ((List.range len).map css).flatten:=v1
        have Bg:cs1.length=len*P.cellsOf e:=hv1.1.trans Ik
        have Ig:∀j,j<len*P.cellsOf e->raw[j+off]?=((List.range len).map css).flatten[j]? := by
         intro j hj
         rw[flat_get hcl hp.2 j hj]
         have hdiv:j / P.cellsOf e<len:=(Nat.div_lt_iff_lt_mul hp.2).2 hj
         have hmod:j % P.cellsOf e<P.cellsOf e:=Nat.mod_lt _ hp.2
         have h3:=(World.cells?_some (lx _ hdiv).1).2.2 _ hmod
         have Im:(⟨b,off+j / P.cellsOf e*P.cellsOf e,none⟩:Addr).add (j % P.cellsOf e)=⟨b,j+off,none⟩:=by
          have:=Nat.div_add_mod j (P.cellsOf e)
          rw[Nat.mul_comm]at this
          unfold Addr.add;split
          ·congr 1;omega
          ·simp only;congr 1;omega
         rw[Im,hcell]at h3
         exact h3
        have e2:=Ext.row (B:=B) (W:=W) e1.rel (ri:=⟨b,off,raw.size,0,false⟩) (cs:=cs1) rfl rfl hbl (by rw[hbase];exact hbl) ⟨raw,ty,fz,hraw,rfl,fun i v hv=>by
         have hi:i<len*P.cellsOf e:=by rw[<- Bg];exact (List.getElem?_eq_some_iff.1 hv).1
         obtain ⟨v',k1,k2⟩:=hv1.get hv
         exact ⟨v',(Ig i hi).trans k1,k2⟩⟩
        refine ⟨_,_,[.slice (some ⟨H1.length,0,none⟩) len len],e1.trans e2,.cons ?_ (.nil _),?_⟩
        ·have:=VR.slice (ρ:=ρ1.set H1.length ⟨b,off,raw.size,0,false⟩) (id:=H1.length) (o:=0) (len:=len) (cap:=len) (cap':=cap) (Ren.av ..) (Nat.le_refl _) hl (fun h=>by cases h)
         simpa using this
        ·simp only[Good,hu]
         refine .inr (.inr ⟨H1.length,len,cs1,rfl,by simp,Bg,by omega,di.mono (fun _ _ h=>h.mono) g1⟩)
      ·simp at hc3
   ·rename_i k e hu
    simp only[Bool.and_eq_true,decide_eq_true_eq,beq_iff_eq]at hp
    obtain ⟨xs,m',hm,_,hl,hxl,hx⟩:=DataW.trod_array hu h
    cases hm
    obtain ⟨ρ',H',cs',x,v,g⟩:=jY (ih n) ((List.range k).map (fun i=>(e,(cs.drop (i*P.cellsOf e)).take (P.cellsOf e)))) (fun p hpm=>by
     obtain ⟨i,hi,rfl⟩:=List.mem_map.1 hpm
     have hi:=List.mem_range.1 hi
     exact ⟨hp.1.1,_,(hx i hi).trans (List.getElem?_eq_getElem (by omega))⟩) ρ H hr
    have hmap:((List.range k).map (fun i=>(e,(cs.drop (i*P.cellsOf e)).take (P.cellsOf e)))).map (·.1)=List.replicate k e:=by
     rw[List.map_map,List.eq_replicate_iff]
     refine ⟨by simp,fun q hq =>?_⟩
     obtain ⟨i,_,rfl⟩:=List.mem_map.1 hq;rfl
    rw[hmap]at g
    rw[List.map_map]at v
    have vV:∀(j:Nat),j<=k->((List.range j).map (fun i=>(cs.drop (i*P.cellsOf e)).take (P.cellsOf e))).flatten=cs.take (j*P.cellsOf e):=by
     intro j
     induction j with
     |zero=>intro _;simp
     |succ j ihj =>
      intro hj
      rw[List.range_succ,List.map_append,List.flatten_append,ihj (by omega),Nat.succ_mul,List.take_add]
      simp
    have hall:=vV k (Nat.le_refl k)
    rw[<- hp.2,<- hl,List.take_length]at hall
    refine ⟨ρ',H',cs',x,?_,?_⟩
    ·have v':VRl ρ' cs' ((List.range k).map (fun i=>(cs.drop (i*P.cellsOf e)).take (P.cellsOf e))).flatten:=v
     rw[hall]at v';exact v'
    ·simp only[Good,hu];exact g
   ·cases hp
end Go.K
namespace Go.K
open Go Go.RowKit Go.ChangeAt Go.WideShapes
variable {P:Program} {HH:Type} {enc:TypeId×Value->HH}
def i8(P:Program)(H:Heap)(n:Nat)(t:TypeId)(v:Value):Prop :=
 match P.underlying t with
 |some (.struct _) => ∃cs:List Value,v = .agg ⟨cs⟩/\Good P H n t cs
 |_=>Good P H n t [v]
def Cj(P:Program)(H:Heap)(n:Nat):List TypeId->List Value->Prop
 | [],[] =>True
 |t :: ts,v :: vs=>i8 P H n t v/\Cj P H n ts vs
 |_,_=>False
theorem i8.mono{H K:Heap}{n:Nat}{t:TypeId}{v:Value}(h:i8 P H n t v):i8 P (H++K) n t v:=by
 unfold i8 at h ⊢
 split at h
 ·obtain ⟨cs,h1,h2⟩:=h;exact ⟨cs,h1,h2.mono⟩
 ·exact h.mono
theorem uq{W:World}{B b0 m n:Nat}{t:TypeId}{v:Value}{d:DataW HH}{ps:List MemPlace}{held:Bool}{ρ:Ren}{H:Heap}(hbase:B=W.heap.size)(hp:Ct P n t=true)(hok:Value.okWide P W .any b0 t v)
  (h:DataW.Trod enc P W 0 (fun _=>true) held t v d ps) (hr:Rel P B ρ H W):∃ρ' H' v',Ext P B W ρ H ρ' H'/\VR ρ' v' v/\i8 P H' n t v':=by
 obtain ⟨m,h⟩:=h
 unfold Ct at hp
 obtain ⟨hp,hna⟩:=(Bool.and_eq_true _ _ ▸ hp:_/\_)
 obtain ⟨ρ',H',cs',e,hv,g⟩:=bring hbase m n t _ _ ρ H hp h hr
 have single:(∀fs,P.underlying t≠some (.struct fs))->(v.cells = #[v])->∃ρ' H' v',Ext P B W ρ H ρ' H'/\VR ρ' v' v/\i8 P H' n t v':=by
  intro hns hc
  rw[hc]at hv
  have hl:cs'.length=1:=hv.1
  obtain ⟨v',rfl⟩:=List.length_eq_one_iff.1 hl
  refine ⟨ρ',H',v',e,hv.2 0 v' v rfl rfl,?_⟩
  unfold i8
  split
  ·rename_i fs hu;exact absurd hu (hns fs)
  ·exact g
 cases n with
 |zero=>simp[fF]at hp
 |succ n =>
  unfold fF at hp
  split at hp
  ·rename_i hu
   refine single (fun fs h=>by rw[hu]at h;cases h) ?_
   cases v <;> simp[Value.okWide,Cell.okWide,Cell.ok,hu]at hok <;> rfl
  ·rename_i k hu
   refine single (fun fs h=>by rw[hu]at h;cases h) ?_
   cases v <;> simp[Value.okWide,Cell.okWide,Cell.ok,hu]at hok <;> rfl
  ·rename_i hu
   refine single (fun fs h=>by rw[hu]at h;cases h) ?_
   cases v <;> simp[Value.okWide,Cell.okWide,Cell.ok,hu]at hok <;> rfl
  ·rename_i fs hu
   simp only[Value.okWide,hu]at hok
   obtain ⟨cs,rfl,_,_⟩:=hok
   refine ⟨ρ',H',.agg ⟨cs'⟩,e,.agg (by have:=hv.1;simpa[Value.cells] using this) (fun i a b x y=>hv.2 i a b (by simpa using x) (by simpa[Value.cells] using y)),?_⟩
   simp only[i8,hu]
   exact ⟨cs',rfl,g⟩
  ·rename_i e' hu
   refine single (fun fs h=>by rw[hu]at h;cases h) ?_
   cases v <;> simp[Value.okWide,Cell.okWide,Cell.ok,hu]at hok <;> rfl
  ·rename_i k e' hu
   rw[hu]at hna;cases hna
  ·cases hp
theorem we{W:World}{B b0 n:Nat}{held:Bool}(hbase:B=W.heap.size):∀(ts:List TypeId) (vs:List Value) (ds:List (DataW HH)) (ps:List MemPlace) (ρ:Ren) (H:Heap),ts.all (Ct P n)=true ->
  (∀(j:Nat) (t:TypeId) (v:Value),ts[j]?=some t->vs[j]?=some v->Value.okWide P W .any b0 t v)->DataW.TrodAll enc P W 0 (fun _=>true) held ts vs ds ps->Rel P B ρ H W ->
   ∃ρ' H' vs',Ext P B W ρ H ρ' H'/\VRl ρ' vs' vs/\Cj P H' n ts vs':=by
 intro ts
 induction ts with
 |nil =>
  intro vs ds ps ρ H _ _ h hr
  obtain ⟨rfl,_,_⟩:=Go.ChangeShapes.trodAll_nil h
  exact ⟨ρ,H,[],Ext.refl hr,.nil ρ,trivial⟩
 |cons t ts ih =>
  intro vs ds ps ρ H hp hok h hr
  obtain ⟨v,vs1,d,ds1,p,q,rfl,rfl,rfl,h1,h2⟩:=Go.ChangeShapes.trodAll_cons h
  simp only[List.all_cons,Bool.and_eq_true]at hp
  obtain ⟨ρ1,H1,v1,e1,r1,g1⟩:=uq (m:=0) hbase hp.1 (hok 0 t v rfl rfl) h1 hr
  obtain ⟨ρ2,H2,vs2,e2,r2,g2⟩:=ih vs1 ds1 q ρ1 H1 hp.2 (fun j a b x y=>hok (j+1) a b x y) h2 e1.rel
  refine ⟨ρ2,H2,v1 :: vs2,e1.trans e2,.cons (r1.mono e2.le) r2,?_,g2⟩
  obtain ⟨K,rfl⟩:=e2.pre
  exact g1.mono
theorem ow{W W':World}{sp:Nat->Bool}{T:TypeId->Prop}(K:Kids P T)(hsz:∀{t e:TypeId},T t->P.underlying t=some (.slice e)->0<P.cellsOf e) :
  ∀(ts:List TypeId) (vs:List Value) (ds:List (DataW HH)) (ps:List MemPlace),(∀t∈ts,T t)->DataW.TrodAll enc P W 0 (fun _=>true) true ts vs ds ps->(∀p∈ps,W.sameAt W' p)->(∀p∈ps,sp p.block=true) ->
   DataW.TrodAll enc P W' 0 sp true ts vs ds ps:=by
 intro ts
 induction ts with
 |nil=>intro vs ds ps _ h _ _;obtain ⟨rfl,rfl,rfl⟩:=Go.ChangeShapes.trodAll_nil h;exact rfl
 |cons t ts ih =>
  intro vs ds ps hT h hs hp
  obtain ⟨v,vs1,d,ds1,p,q,rfl,rfl,rfl,⟨n,h1⟩,h2⟩:=Go.ChangeShapes.trodAll_cons h
  refine ⟨p,q,⟨n,DataW.trod_stays K hsz (fun h=>by cases h) (hT t (List.mem_cons_self ..)) h1 (fun x hx=>hs x (List.mem_append_left _ hx)) (fun x hx=>hp x (List.mem_append_left _ hx))⟩,?_,rfl⟩
  exact ih vs1 ds1 q (fun t ht=>hT t (List.mem_cons_of_mem _ ht)) h2 (fun x hx=>hs x (List.mem_append_right _ hx)) (fun x hx=>hp x (List.mem_append_right _ hx))
def iE(P:Program):Bool:=(List.range P.types.size).all fun t=>match P.underlying t with|some (.slice e)=>decide (0<P.cellsOf e)|_=>true
theorem kR(h:iE P=true):∀{t e:TypeId},t<P.types.size->P.underlying t=some (.slice e)->0<P.cellsOf e:=by
 intro t e ht hu
 unfold iE at h
 rw[List.all_eq_true]at h
 have:=h t (List.mem_range.2 ht)
 rw[hu]at this
 simpa using this
theorem oI{f:Func}{s:ChangeSpec}{apart fresh handsOn again:Bool}{W W':World}{args:Array Value}{ds gs:List (DataW HH)}{before:List MemPlace}{tb:TypeId}{T:TypeId->Prop}
  (K:Kids P T) (hsz:∀{t e:TypeId},T t->P.underlying t=some (.slice e)->0<P.cellsOf e) (hT:∀t∈f.params.toList,T t)
  (hW:DataW.Whole enc P f.params.toList s.vars apart W args.toList ds gs before) (hvars:s.vars=[]) (hb:RowKit.Below W.heap.size W W') (hrt:f.resultTypes = #[tb]) (htb:P.underlying tb=some .bool)
  (hs:s.fn HH ds = { results:=[.lit (.bool true)],args:=ds }):s.post enc P f apart fresh handsOn again W args (.bool true) W':=by
 have hlt:=hW.lt
 have hW':=hW
 obtain ⟨p,q,hA,hV,rfl,hz,hn⟩:=hW
 rw[hvars]at hV
 obtain ⟨rfl,rfl⟩:=Go.ChangeShapes.trodVars_none hV
 have hA':∀sp:Nat->Bool,(∀x∈p,sp x.block=true)->DataW.TrodAll enc P W' 0 sp true f.params.toList args.toList ds p:=fun sp hsp =>
  ow K hsz _ _ _ _ hT hA (fun x hx=>hb.same (hlt x (by simpa using hx))) hsp
 have hres:∀(b:Nat) (sp:Nat->Bool) (hd:Bool),DataW.TrodAll enc P W' b sp hd f.resultTypes.toList ((Value.bool true).resultList f.resultTypes.size) [.lit (.bool true)] []:=by
  intro b sp hd
  rw[hrt]
  exact trodAll_cons_mk (Go.RowKit.shut_bool htb true) Go.ChangeShapes.trodAll_mk0
 have hs':s.fn HH (ds ++ []) = { results:=[.lit (.bool true)],args:=ds }:=by simpa using hs
 refine ⟨ds,[],p ++ [],[],p,[],hW',?_,?_,?_,?_,fun _ =>?_⟩
 ·rw[hs'];exact hres _ _ _
 ·rw[hs'];exact hA' _ (fun x hx=>by simpa using hlt x (by simpa using hx))
 ·rw[hs',hvars];rfl
 ·exact World.keptBut_mono (fun x hx=>⟨by simpa using hx,.inr (by simpa using hx)⟩) (hb.frame (· ∈ p))
 ·refine ⟨Go.RowKit.ok_one hrt rfl (Go.RowKit.okWide_bool_mk htb true),_,[],([]++p) ++ [],⟨[]++p,[],Go.ChangeShapes.trodAll_append (hA' _ (fun _ _=>rfl)) (hres _ _ _),by rw[hvars];rfl,rfl,?_,?_⟩,?_⟩
  ·intro b off hx
   have hx':MemPlace.cell b off∈p:=by simpa using hx
   rw[hb.frozen (p:=⟨b,off,none⟩) (hlt (.cell b off) (by simpa using hx'))]
   exact hz b off (by simpa using hx')
  ·intro ha
   have:=hn ha
   simpa using this
  ·intro x hx _
   simpa using hx
end Go.K
namespace Go.K
noncomputable section
variable {P:Program}
def inI(x:Int):Prop:=-9223372036854775808<=x/\x<=9223372036854775807
theorem nN{α:Type}{g:TypeId->List Value->Prop}{t:TypeId}{f:α->List Value}{q:α->Prop}(h:∀c,g t c->∃x:α,c=f x/\q x):∀(n:Nat) (cs:List Value),di g (List.replicate n t) cs->∃xs:List α,xs.length=n/\cs=xs.flatMap f/\∀x∈xs,q x
 |0,cs,hg=>⟨[],rfl,hg,fun _ h=>by cases h⟩
 |n+1,cs,hg=>by
  obtain ⟨c,rest,rfl,h1,h2⟩:=hg
  obtain ⟨x,rfl,hx⟩:=h c h1
  obtain ⟨xs,e1,rfl,e3⟩:=nN h n rest h2
  exact ⟨x :: xs,by simp[e1],by simp,fun y hy=>by rcases List.mem_cons.1 hy with rfl|hy;exact hx;exact e3 y hy⟩
theorem qq{α:Type}{f:α->List Value}{n:Nat}(hf:∀x,(f x).length=n):∀(xs:List α),BR f n (xs.flatMap f) 0 xs:=by
 intro xs k x hx
 refine ⟨hf x,?_⟩
 have key:∀(xs:List α) (k:Nat),xs[k]?=some x->(List.drop (k*n) (xs.flatMap f)).take n=f x:=by
  intro xs
  induction xs with
  |nil=>intro k h;simp at h
  |cons y ys ih =>
   intro k h
   cases k with
   |zero=>simp at h;subst h;simp[<- hf y]
   |succ k =>
    simp at h
    rw[List.flatMap_cons,Nat.succ_mul,Nat.add_comm,<- List.drop_drop,<- hf y,List.drop_left]
    rw[hf y]
    exact ih k h
 rw[Nat.zero_add];exact key xs k hx
theorem zU{ρ ρ':Ren}{σ:Nat->Option Nat}(hσ:∀id id' r,σ id=some id'->ρ' id'=some r->∃r',ρ id=some r'/\r'.b=r.b/\r'.s=r.s/\r'.own=false)(hm:∀b m,ρ'.mem b=some m->ρ.mem b=some m)(hg:∀F F' k r,σ F=some F'->ρ'.g F' k=some r->ρ.g F k=some r):∀(d:Nat) {v r:Value},VR ρ' (rn σ d v) r->VR ρ v r:=by
 intro d
 induction d with
 |zero=>intro v r h;exact (VR.bad h).elim
 |succ d ih =>
  have ptr:∀{id id' off:Nat} {r:RI},σ id=some id'->ρ' id'=some r->VR ρ (.pointer (some ⟨id,off,none⟩)) (.pointer (some ⟨r.b,off+r.s,none⟩)):=by
   intro id id' off r g k
   obtain ⟨r',a1,a2,a3,_⟩:=hσ _ _ _ g k
   rw[<- a2,<- a3];exact .ptr a1
  have slc:∀{id id' off len cap cap':Nat} {r:RI},σ id=some id'->ρ' id'=some r->len<=cap->cap<=cap'->VR ρ (.slice (some ⟨id,off,none⟩) len cap) (.slice (some ⟨r.b,off+r.s,none⟩) len cap'):=by
   intro id id' off len cap cap' r g k hl hc
   obtain ⟨r',a1,a2,a3,a4⟩:=hσ _ _ _ g k
   rw[<- a2,<- a3];exact .slice a1 hl hc (fun h=>by rw[a4]at h;cases h)
  have slQ:∀{id id' off len cap cap':Nat} {r:RI},σ id=some id'->ρ' id'=some r->0<len->len<=cap->cap<=cap'->VR ρ (.slice (some ⟨id,off,some 1⟩) len cap) (.slice (some ⟨r.b,off+r.s,none⟩) len cap'):=by
   intro id id' off len cap cap' r g k hp hl hc
   obtain ⟨r',a1,a2,a3,a4⟩:=hσ _ _ _ g k
   rw[<- a2,<- a3];exact .aD a1 hp hl hc (fun h=>by rw[a4]at h;cases h)
  have slR:∀{id id' off len cap cap':Nat} {r:RI},σ id=some id'->ρ' id'=some r->0<len->len<=cap->cap<=cap'->VR ρ (.slice (some ⟨id,off,some 2⟩) len cap) (.slice (some ⟨r.b,off+r.s,none⟩) len cap'):=by
   intro id id' off len cap cap' r g k hp hl hc
   obtain ⟨r',a1,a2,a3,a4⟩:=hσ _ _ _ g k
   rw[<- a2,<- a3];exact .aX a1 hp hl hc (fun h=>by rw[a4]at h;cases h)
  intro v r h
  unfold rn at h
  split at h
  ·split at h
   ·rename_i g;cases h with|ptr k=>exact ptr g k
   ·exact (VR.bad h).elim
  ·split at h
   ·rename_i g;cases h with|dS k=>exact .dS (hg _ _ _ _ g k)
   ·exact (VR.bad h).elim
  ·split at h
   ·rename_i g
    cases h with
    |slice k hl hc ho=>exact slc g k hl hc
    |aQ k=>obtain ⟨r',a1,a2,a3,_⟩:=hσ _ _ _ g k;rw[<- a2];exact .aQ a1
   ·exact (VR.bad h).elim
  ·split at h
   ·rename_i g
    cases h with
    |ax=>exact .ax
    |ay=>exact .ay
    |aD k hp hl hc ho=>exact slQ g k hp hl hc
    |aB=>exact .aB
    |aX k hp hl hc ho=>exact slR g k hp hl hc
   ·split at h
    ·cases h with
     |ax=>exact .ax
     |ay=>exact .ay
     |aD k hp hl hc ho=>exact absurd hp (Nat.lt_irrefl 0)
     |aB=>exact .aB
     |aX k hp hl hc ho=>exact absurd hp (Nat.lt_irrefl 0)
    ·exact (VR.bad h).elim
  ·split at h
   ·rename_i g;cases h with|map k=>obtain ⟨r',a1,a2,_⟩:=hσ _ _ _ g k;rw[<- a2];exact .map a1
   ·exact (VR.bad h).elim
  ·split at h
   ·rename_i g;cases h with|yield k=>obtain ⟨r',a1,a2,_⟩:=hσ _ _ _ g k;rw[<- a2];exact .yield a1
   ·exact (VR.bad h).elim
  ·cases h with
   |func h1 h2 h3 h4 =>
    obtain ⟨a1,a2⟩:=dQ ih h1 h2
    obtain ⟨b1,b2⟩:=dQ ih h3 h4
    exact .func a1 a2 b1 b2
  ·exact (VR.bad h).elim
  ·cases h with|agg h1 h2=>obtain ⟨a1,a2⟩:=dQ ih h1 h2;exact .agg a1 a2
  ·cases h with|tuple h1 h2=>obtain ⟨a1,a2⟩:=dQ ih h1 h2;exact .tuple a1 a2
  ·cases h with
   |deep g1 g2 g3 g4 g5=>obtain ⟨a1,a2⟩:=gI ih g4 g5;exact .deep (hm _ _ g1) g2 g3 a1 a2
   |br=>exact .br
  ·cases h with|bP g1 g2 g3=>obtain ⟨a1,a2⟩:=gI ih g2 g3;exact .bP (hm _ _ g1) a1 a2
  ·split at h
   ·rename_i g
    cases h with
    |fsl k hp hc hs ho=>exact .fsl (hg _ _ _ _ g k) hp hc hs ho
    |bS=>exact .bS
   ·split at h
    ·cases h with|bS=>exact .bS
    ·exact (VR.bad h).elim
  ·rename_i n1 n1f n2 n2q n3 n4 n5 n6 n7 n8 n9 n10 n11
   cases h with
   |junk=>exact .junk _
   |bool b=>exact .bool b
   |int k n=>exact .int k n
   |float k n=>exact .float k n
   |string s=>exact .string s
   |bK=>exact .bK
   |ptr k=>exact absurd rfl (n1 _ _)
   |dS k=>exact absurd rfl (n1f _ _ _)
   |aT=>exact .aT
   |slice k hl hc ho=>exact absurd rfl (n2 _ _ _ _)
   |aQ k=>exact absurd rfl (n2 _ _ _ _)
   |bv=>exact .bv
   |ax=>exact .ax
   |ay=>exact .ay
   |aD=>exact absurd rfl (n2q _ _ _ _ _)
   |aB=>exact .aB
   |aX=>exact absurd rfl (n2q _ _ _ _ _)
   |bL=>exact .bL
   |map k=>exact absurd rfl (n3 _)
   |nilFunc=>exact .nilFunc
   |nilIface=>exact .nilIface
   |func h1 h2 h3 h4=>exact absurd rfl (n5 _ _ _)
   |yield k=>exact absurd rfl (n4 _)
   |agg h1 h2=>exact absurd rfl (n7 _)
   |tuple h1 h2=>exact absurd rfl (n8 _)
   |deep=>exact absurd rfl (n9 _ _)
   |br=>exact absurd rfl (n9 _ _)
   |fsl=>exact absurd rfl (n11 _ _ _ _)
   |bS=>exact .bS
   |bP=>exact absurd rfl (n10 _ _)
def bZ(n0 id:Nat):Option Nat:=if id<n0 then none else some id
def eM(n0 n id:Nat):Option Nat:=if id<n0 then none else some (n+(id-n0))
structure Reads(P:Program)(H0 H:Heap)(σ:Nat->Option Nat)(d:Nat):Prop where
 cS:∀g,g<P.globals.size->σ g=some g
 dom:∀id id',σ id=some id'->id<H0.length
 len:P.globals.size<=H0.length
 obj:∀(id:Nat) (o:aa),H0[id]?=some o->o = .dead∨∃cs,o = .cells false 0 cs
 rd:∀(id id':Nat) (cs:List Value),σ id=some id'->H0[id]?=some (.cells false 0 cs)->∃own z D,H[id']?=some (.cells own z (cs.map (rn σ d)++D))
theorem ad.reads{f:FuncId}{args:List Value}{H0 H new:Heap}{v:Value}{σ:Nat->Option Nat}{d:Nat}(hp:Reads P H0 H σ d)(h:ad P f args H0 [] (Is v (H0++new)))
  (hv:cm d v=true) (hv2:rn (bZ H0.length) d v=v) (hn:new.all (fun o=>am d o&&o.owned)=true) (hn2:new.map (rno (bZ H0.length) d)=new) :
  ad P f (args.map (rn σ d)) H [] (Is (rn (eM H0.length H.length) d v) (H++new.map (rno (eM H0.length H.length) d))):=by
 refine ⟨h.1,fun B ρ w args' hr ha =>?_⟩
 let ρs:Ren:=⟨fun id=>(σ id).bind fun id'=>(ρ id').map fun r=>⟨r.b,r.s,r.n,0,false⟩,ρ.mem,fun F k=>(σ F).bind fun F'=>ρ.g F' k⟩
 have hσ:∀id id' r,σ id=some id'->ρ id'=some r->ρs id=some ⟨r.b,r.s,r.n,0,false⟩:=by
  intro id id' r h1 h2;show Option.bind _ _=_;rw[h1];show Option.map _ _=_;rw[h2];rfl
 have hσd:∀id id' r,σ id=some id'->ρ id'=some r->∃r',ρs id=some r'/\r'.b=r.b/\r'.s=r.s/\r'.own=false:=fun id id' r h1 h2=>⟨_,hσ _ _ _ h1 h2,rfl,rfl,rfl⟩
 have hσg:∀F F' k r,σ F=some F'->ρ.g F' k=some r->ρs.g F k=some r:=by intro F F' k r h1 h2;show Option.bind _ _=_;rw[h1];exact h2
 have de:∀{F k r},ρs.g F k=some r->∃F',σ F=some F'/\ρ.g F' k=some r:=fun h=>Option.bind_eq_some_iff.1 h
 have tV:∀{F:Nat} {z:Nat} {cs:List Value},H0[F]?=some (.fam z cs)->False:=fun {F z cs} mh=>by
  rcases hp.obj F _ mh with h|⟨_,h⟩ <;> cases h
 have hnf:∀{F k r z cs},FM ρs H0 F k r z cs->False:=fun m=>tV m.h
 have hsome:∀{id r},ρs id=some r->∃id' r0,σ id=some id'/\ρ id'=some r0/\r=⟨r0.b,r0.s,r0.n,0,false⟩:=by
  intro id r h
  obtain ⟨id',h1,h2⟩:=Option.bind_eq_some_iff.1 h
  obtain ⟨r0,h3,h4⟩:=Option.map_eq_some_iff.1 h2
  exact ⟨id',r0,h1,h3,h4.symm⟩
 have ra:∀(id:Nat) (o:aa),H0[id]?=some o->o.owned=true->False:=by
  intro id o h1 h2
  rcases hp.obj id o h1 with rfl|⟨cs,rfl⟩ <;> cases h2
 have hr0:Rel P B ρs H0 w:=by
  refine ⟨hr.bsize,fun g hg =>?_,fun id r h =>?_,fun id r h =>?_,fun id r o h1 h2 =>?_,fun id r o h1 h2 h3=>(ra id o h2 h3).elim,fun id1 id2 r1 r2 o1 o2 h1 h2 g1 g2 k1 k2 hne=>(ra id1 o1 g1 k1).elim,fun b m hb=>⟨(hr.mem b m hb).1,fun id r o h1 h2 h3=>(ra id o h2 h3).elim⟩,
   ⟨fun F k r h=>by obtain ⟨F',k1,_⟩:=de h;exact hp.dom _ _ k1,fun F k r h=>by obtain ⟨F',_,k2⟩:=de h;exact hr.fam.lt _ _ _ k2,fun _ _ _ _ _ m=>(hnf m).elim,fun _ _ _ _ _ m=>(hnf m).elim,fun _ _ _ _ _ _ _ _ _ _ m=>(hnf m).elim,fun _ _ _ _ _ _ _ _ m=>(hnf m).elim,fun _ _ _ _ _ _ _ m=>(hnf m).elim,fun _ _ _ _ _ h=>(tV h).elim⟩⟩
  ·obtain ⟨r,k1,k2,k3⟩:=hr.cS g hg;exact ⟨_,hσ g g r (hp.cS g hg) k1,k2,k3⟩
  ·obtain ⟨id',r0,h1,_,_⟩:=hsome h;exact hp.dom _ _ h1
  ·obtain ⟨id',r0,_,h2,rfl⟩:=hsome h;exact hr.lt id' r0 h2
  ·obtain ⟨id',r0,k1,k2,rfl⟩:=hsome h1
   rcases hp.obj id o h2 with rfl|⟨cs,rfl⟩
   ·trivial
   ·obtain ⟨own,z,D,g⟩:=hp.rd id id' cs k1 h2
    obtain ⟨e1,e2,cs',ty,fz,hb,hnz,hfz,hcs⟩:=hr.obj _ _ _ k2 g
    refine ⟨rfl,rfl,cs',ty,fz,hb,hnz,fun h=>(by cases h),fun i x hx =>?_⟩
    obtain ⟨x',y1,y2⟩:=hcs i (rn σ d x) (by rw[List.getElem?_append_left (by rw[List.length_map];exact (List.getElem?_eq_some_iff.1 hx).1),List.getElem?_map,hx];rfl)
    exact ⟨x',y1,zU hσd (fun _ _ h=>h) hσg d y2⟩
 have ha0:VRl ρs args args'.toList:=⟨by have:=ha.1;simpa using this,fun i x x' a b=>zU hσd (fun _ _ h=>h) hσg d (ha.2 i (rn σ d x) x' (by rw[List.getElem?_map,a];rfl) b)⟩
 refine (h.2 B ρs w args' hr0 ha0).mono ?_
 rintro e w' ⟨v1,v',ρ1,H1,rfl,hv',hpost,rfl,rfl⟩
 have nK:∀b,¬ OB ρs H0 b:=fun b h=>h.elim (fun ⟨id,r,o,_,h2,h3,_⟩=>ra id o h2 h3) (fun ⟨_,_,_,_,_,m,_⟩=>hnf m)
 let ρ2:Ren:=⟨fun id=>if id<H.length then ρ id else ρ1 (H0.length+(id-H.length)),ρ1.mem,fun F k=>if F<H.length then ρ.g F k else ρ1.g (H0.length+(F-H.length)) k⟩
 let ρn:Ren:=⟨fun id=>if id<H0.length then none else ρ1 id,ρ1.mem,fun F k=>if F<H0.length then none else ρ1.g F k⟩
 have hn1:∀id id' r,bZ H0.length id=some id'->ρ1 id'=some r->ρn id=some r:=by
  intro id id' r h1 h2
  unfold bZ at h1
  split at h1
  ·cases h1
  ·rename_i hlt;cases h1;show (if _ then _ else _)=_;rw[if_neg hlt];exact h2
 have A9:∀F F' k r,bZ H0.length F=some F'->ρ1.g F' k=some r->ρn.g F k=some r:=by
  intro F F' k r h1 h2
  unfold bZ at h1
  split at h1
  ·cases h1
  ·rename_i hlt;cases h1;show (if _ then _ else _)=_;rw[if_neg hlt];exact h2
 have kA:∀F k r,ρn.g F k=some r->∃F',eM H0.length H.length F=some F'/\ρ2.g F' k=some r:=by
  intro F k r h1
  have h1':(if F<H0.length then none else ρ1.g F k)=some r:=h1
  split at h1'
  ·cases h1'
  ·rename_i hlt
   refine ⟨_,if_neg hlt,?_⟩
   show (if _ then _ else _)=_
   rw[if_neg (by omega),show H0.length+(H.length+(F-H0.length)-H.length)=F by omega];exact h1'
 have rb:∀id r,ρn id=some r->∃id',eM H0.length H.length id=some id'/\ρ2 id'=some r:=by
  intro id r h1
  have h1':(if id<H0.length then none else ρ1 id)=some r:=h1
  split at h1'
  ·cases h1'
  ·rename_i hlt
   refine ⟨_,if_neg hlt,?_⟩
   show (if _ then _ else _)=_
   rw[if_neg (by omega),show H0.length+(H.length+(id-H0.length)-H.length)=id by omega];exact h1'
 have hext:Ren.le ρ ρ2:=⟨fun id r h1=>by
  show (if _ then _ else _)=_
  rw[if_pos (hr.dom _ _ h1)];exact h1,hpost.ext.mem,fun F k r h1=>by
  show (if _ then _ else _)=_
  rw[if_pos (hr.fam.dom _ _ _ h1)];exact h1⟩
 have hnew:∀(k:Nat) (o:aa),new[k]?=some o->am d o=true/\o.owned=true/\rno (bZ H0.length) d o=o:=by
  intro k o hk
  rw[List.all_eq_true]at hn
  have:=hn o (List.mem_of_getElem? hk)
  simp only[Bool.and_eq_true]at this
  refine ⟨this.1,this.2,?_⟩
  have h3:(new.map (rno (bZ H0.length) d))[k]?=some o:=by rw[hn2];exact hk
  rw[List.getElem?_map,hk]at h3
  exact Option.some.inj h3
 have hfresh:∀id r o,H0.length<=id->ρ1 id=some r->(H0++new)[id]?=some o->w.heap.size<=r.b:=by
  intro id r o hid h1 h2
  have ho:o.owned=true:=by rw[List.getElem?_append_right hid]at h2;exact (hnew _ _ h2).2.1
  rcases Nat.lt_or_ge r.b w.heap.size with hlt|hge
  ·exact absurd (hpost.ob r.b hlt (.inl ⟨id,r,o,h1,h2,ho,rfl⟩)) (nK _)
  ·exact hge
 have cY:∀id o',H.length<=id->(H++new.map (rno (eM H0.length H.length) d))[id]?=some o'->∃o,(H0++new)[H0.length+(id-H.length)]?=some o/\o'=rno (eM H0.length H.length) d o/\am d o=true/\o.owned=true/\rno (bZ H0.length) d o=o:=by
  intro id o' hid h2
  rw[List.getElem?_append_right hid,List.getElem?_map]at h2
  obtain ⟨o,a1,rfl⟩:=Option.map_eq_some_iff.1 h2
  obtain ⟨x1,x2,x3⟩:=hnew _ _ a1
  refine ⟨o,?_,rfl,x1,x2,x3⟩
  rw[List.getElem?_append_right (by omega),show H0.length+(id-H.length)-H0.length=id-H.length by omega];exact a1
 have dh:∀id,id<H.length->(H++new.map (rno (eM H0.length H.length) d))[id]?=H[id]? := fun id hid=>List.getElem?_append_left hid
 have hoa:∀o:aa,o.owned=true->o.alive=true:=by intro o ho;cases o <;> first|rfl|cases ho
 have hvn:VR ρn v1 v':=by
  have:VR ρ1 (rn (bZ H0.length) d v1) v':=by rw[hv2];exact hv'
  exact gq hn1 (fun _ _ h=>h) A9 d this
 refine ⟨_,v',ρ2,_,rfl,qg rb (fun _ _ h=>h) kA d hv hvn,?_,rfl,rfl⟩
 have fr:∀id r o,¬ id<H.length->ρ1 (H0.length+(id-H.length))=some r->(H++new.map (rno (eM H0.length H.length) d))[id]?=some o->w.heap.size<=r.b:=by
  intro id r o hid a b
  obtain ⟨o0,a1,_,_,_,_⟩:=cY id o (by omega) b
  exact hfresh _ r o0 (by omega) a a1
 have u:∀id,ρ2 id=if id<H.length then ρ id else ρ1 (H0.length+(id-H.length)):=fun _=>rfl
 have kB:∀{F k r z cs},ρ2.g F k=some r->(H++new.map (rno (eM H0.length H.length) d))[F]?=some (.fam z cs)->ρ.g F k=some r/\H[F]?=some (.fam z cs):=fun {F k r z cs} mg mh=>by
  have h1:(if F<H.length then ρ.g F k else ρ1.g (H0.length+(F-H.length)) k)=some r:=mg
  rcases Nat.lt_or_ge F H.length with h|h
  ·rw[if_pos h]at h1
   exact ⟨h1,by rw[<- dh F h];exact mh⟩
  ·obtain ⟨o,_,e,g1,g2,_⟩:=cY F _ h mh
   cases o <;> first|(cases g1;done)|(cases g2;done)|(cases e;done)
 have hfm:∀{F k r z cs},FM ρ2 (H++new.map (rno (eM H0.length H.length) d)) F k r z cs->FM ρ H F k r z cs:=fun m=>⟨(kB m.g m.h).1,(kB m.g m.h).2,m.a⟩
 have ju:gR B ρ2 (H++new.map (rno (eM H0.length H.length) d)) w':=by
  refine ⟨fun F k r h1 =>?_,fun F k r h1 =>?_,fun F k r z cs m=>hr.fam.base _ _ _ _ _ (hfm m),fun F k r z cs m=>(hr.fam.obj _ _ _ _ _ (hfm m)).mono hext (hpost.keep _ (hr.fam.lt _ _ _ (hfm m).g) (nK _)),
   fun F k r z cs F' k' r' z' cs' m m'=>hr.fam.sep _ _ _ _ _ _ _ _ _ _ (hfm m) (hfm m'),fun F k r z cs id r' o m h1 h2 h3 =>?_,fun F k r z cs b m' m hb =>?_,fun F k r cs h1 h2=>hr.fam.cnt F k r cs (kB h1 h2).1 (kB h1 h2).2⟩
  ·have h1:(if F<H.length then ρ.g F k else ρ1.g (H0.length+(F-H.length)) k)=some r:=h1
   rcases Nat.lt_or_ge F H.length with h|h
   ·simp;omega
   ·rw[if_neg (by omega)]at h1
    have:=hpost.rel.fam.dom _ _ _ h1
    simp at this ⊢;omega
  ·have h1:(if F<H.length then ρ.g F k else ρ1.g (H0.length+(F-H.length)) k)=some r:=h1
   rcases Nat.lt_or_ge F H.length with h|h
   ·rw[if_pos h]at h1
    exact Nat.lt_of_lt_of_le (hr.fam.lt _ _ _ h1) hpost.size
   ·rw[if_neg (by omega)]at h1
    exact hpost.rel.fam.lt _ _ _ h1
  ·rw[u]at h1
   rcases Nat.lt_or_ge id H.length with h|h
   ·rw[if_pos h]at h1
    exact hr.fam.sep2 _ _ _ _ _ id r' o (hfm m) h1 (by rw[<- dh id h];exact h2) h3
   ·rw[if_neg (by omega)]at h1
    have:=fr id r' o (by omega) h1 h2
    have:=hr.fam.lt _ _ _ (hfm m).g
    omega
  ·have hb:ρ1.mem b=some m':=hb
   rcases hpost.frz b m' hb with g|g|g
   ·exact hr.fam.mem _ _ _ _ _ b m' (hfm m) g
   ·have:=hr.fam.lt _ _ _ (hfm m).g;omega
   ·exact absurd g (nK _)
 refine ⟨⟨Nat.le_trans hr.bsize hpost.size,fun g hg =>?_,fun id r h1 =>?_,fun id r h1 =>?_,fun id r o h1 h2 =>?_,fun id r o h1 h2 h3 =>?_,fun id1 id2 r1 r2 o1 o2 h1 h2 g1 g2 k1 k2 hne =>?_,fun b m hb=>⟨(hpost.rel.mem b m hb).1,fun id r o h1 h2 h3 =>?_⟩,ju⟩,hext,fun id r h1 h2 =>?_,by simp,fun id h1 h2=>dh id h1,hpost.size,fun b h1 h2=>hpost.keep b h1 (nK b),fun b h1 h2 =>?_,hpost.os,hpost.tape,hpost.output,fun b m hb=>(hpost.frz b m hb).imp id fun h=>h.elim .inl fun h=>(nK b h).elim,hpost.drawn,fun F k r h1 h2 => .inl (by
  have h1:(if F<H.length then ρ.g F k else ρ1.g (H0.length+(F-H.length)) k)=some r:=h1
  rcases Nat.lt_or_ge F H.length with h|h
  ·rw[if_pos h,h2]at h1;cases h1
  ·exact h)⟩
 ·obtain ⟨r,k1,k2,k3⟩:=hr.cS g hg;exact ⟨r,hext _ _ k1,k2,k3⟩
 ·rw[u]at h1
  split at h1
  ·rw[List.length_append];omega
  ·rename_i hid
   have:=hpost.rel.dom _ _ h1
   rw[List.length_append]at this
   rw[List.length_append,List.length_map];omega
 ·rw[u]at h1
  split at h1
  ·exact Nat.lt_of_lt_of_le (hr.lt _ _ h1) hpost.size
  ·exact hpost.rel.lt _ _ h1
 ·rw[u]at h1
  split at h1
  ·rename_i hid
   rw[dh id hid]at h2
   exact (hr.obj _ _ _ h1 h2).mono hext (hpost.keep _ (hr.lt _ _ h1) (nK _))
  ·rename_i hid
   obtain ⟨o0,a1,rfl,a3,a4,a5⟩:=cY id o (by omega) h2
   have h6:=hpost.rel.obj _ _ _ h1 a1
   rw[<- a5]at h6
   have hd:rno (bZ H0.length) d o0 = .dead->o0 = .dead:=fun he=>by rw[a5]at he;exact he
   exact jb rb (fun _ _ h=>h) kA a3 (ja hn1 (fun _ _ h=>h) A9 h6 hd)
 ·rw[u]at h1
  split at h1
  ·rename_i hid;rw[dh id hid]at h2;exact hr.base _ _ _ h1 h2 h3
  ·rename_i hid
   obtain ⟨o0,a1,_,a3,a4,_⟩:=cY id o (by omega) h2
   exact hpost.rel.base _ _ _ h1 a1 a4
 ·rw[u]at h1 h2
  by_cases c1:id1<H.length
  ·rw[if_pos c1]at h1
   rw[dh id1 c1]at g1
   by_cases c2:id2<H.length
   ·rw[if_pos c2]at h2
    rw[dh id2 c2]at g2
    exact hr.sep id1 id2 r1 r2 o1 o2 h1 h2 g1 g2 k1 k2 hne
   ·rw[if_neg c2]at h2
    have:=hr.lt _ _ h1
    have:=fr id2 r2 o2 c2 h2 g2
    omega
  ·rw[if_neg c1]at h1
   have f1:=fr id1 r1 o1 c1 h1 g1
   by_cases c2:id2<H.length
   ·rw[if_pos c2]at h2
    have:=hr.lt _ _ h2
    omega
   ·rw[if_neg c2]at h2
    obtain ⟨p1,a1,_,_,a4,_⟩:=cY id1 o1 (by omega) g1
    obtain ⟨p2,b1,_,_,b4,_⟩:=cY id2 o2 (by omega) g2
    exact hpost.rel.sep _ _ r1 r2 p1 p2 h1 h2 a1 b1 a4 (hoa _ b4) (by omega)
 ·rw[u]at h1
  split at h1
  ·rename_i hid
   rw[dh id hid]at h2
   intro he
   rcases hpost.frz b m hb with g|g|g
   ·exact (hr.mem b m g).2 id r o h1 h2 h3 he
   ·have:=hr.lt _ _ h1;omega
   ·exact nK b g
  ·rename_i hid
   obtain ⟨o0,a1,_,a3,a4,_⟩:=cY id o (by omega) h2
   exact (hpost.rel.mem b m hb).2 _ r o0 h1 a1 a4
 ·rw[u]at h1
  split at h1
  ·rw[h2]at h1;cases h1
  ·omega
 ·rcases h2 with ⟨id,r,o,k1,k2,k3,k4⟩|⟨F,k,r,z,cs,m,e⟩
  ·rw[u]at k1
   split at k1
   ·rename_i hid;rw[dh id hid]at k2;exact .inl ⟨id,r,o,k1,k2,k3,k4⟩
   ·rename_i hid
    have:=fr id r o hid k1 k2
    omega
  ·exact .inr ⟨F,k,r,z,cs,hfm m,e⟩
end
end Go.K
