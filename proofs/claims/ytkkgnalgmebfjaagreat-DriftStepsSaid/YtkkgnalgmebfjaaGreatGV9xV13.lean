/- What is to be shown is enough: rounds and calls. No condition. -/
import Derived.Test.YtkkgnalgmebfjaaGreatGV5xV8
import Derived.Deep.Slices
import Derived.ChangeStays
import Derived.OpenShut
import Derived.ProofKit
open Go Go.K
set_option linter.unusedVariables false
set_option linter.unusedSimpArgs false
namespace Go.K
noncomputable section
variable {P:Program}
section
variable {call:lE} {app:nl} {dm:Value->MS}
theorem oI(hcall:iI P call)(happ:jz P app){rounds:Nat}{mixed:Bool}(fZ:mixed=true->P.follows .mixedOrders=true):sY P (rN P call app dm rounds mixed):=by
 intro L args H M h K hv
 unfold rN at hv
 split at hv <;> try (exact hv.elim)
 rename_i pe tm N ps as bd hL
 split at hv <;> try (exact hv.elim)
 rename_i hc
 simp only[Bool.and_eq_true]at hc
 obtain ⟨c1,c2,c3,c4,c5⟩:=hc
 have hLM:L∈M.list H.n:=by
  cases M with
  |none=>exact List.mem_range.2 (ip c5)
  |some l=>exact gu c5
 refine gB.yield (by rw[HT.aN];exact hL) (Nat.eq_of_beq_eq_true c1) (fun p hp=>by rw[List.all_eq_true]at c2;simpa using c2 p hp) hLM (fun ro =>?_)
 rw[HT.length]
 refine (gY (ro:=some ro) hcall happ (fun h=>by cases h) fZ c3 hv).mono ?_
 rintro e T H' ⟨E1,H1,h1,rfl,rfl,hk⟩
 cases e with
 |normal =>
  simp only[jD]
  simp only at hk
  split at hk <;> try (exact hk.elim)
  rename_i pe1 tm1 N1 ps1 as1 bd1 hL1
  refine ⟨_,_,_,_,_,_,by rw[HT.aN];exact hL1,?_⟩
  rw[<- HT.bB]
  refine (gY (ro:=some ro) hcall happ (fun h=>by cases h) fZ c4 hk).mono ?_
  rintro e T H' ⟨E2',H2',h2',rfl,rfl,hk2⟩
  obtain ⟨E2,H2,h2,e3,e4,hk2⟩:=cA hk2
  rw[<- e3,<- e4]
  split at hk2 <;> try (exact hk2.elim)
  rename_i j hj
  split at hk2 <;> try (exact hk2.elim)
  rename_i st2 pe2 tm2 N2 ps2 as2 bd2 hL2
  refine ⟨j,hj,_,_,_,_,_,_,_,by rw[HT.aN];exact hL2,_,h2,?_,hk2⟩
  rw[HT.bB]
  congr 2
  cases j.isNone <;> rfl
 |_=>exact hk.elim
theorem lb{rs:List ResultVar}{T:Tm}{H:HT}{v:Value}(h:tM P rs T H=some v):qz P rs T H.list=some v:=by
 have one:∀r,ia P T H r=jT P T H.list r:=by
  intro r
  cases r with
  |tmp t=>rfl
  |cell a ty=>simp only[ia,jT,oa]
 unfold tM at h
 split at h
 ·rw[one]at h;exact h
 ·split at h <;> try (cases h;done)
  rename_i v1 v2 h1 h2
  rw[one]at h1 h2
  cases h
  simp[qz,h1,h2]
 ·split at h <;> try (cases h;done)
  rename_i v1 v2 v3 h1 h2 h3
  rw[one]at h1 h2 h3
  cases h
  simp[qz,h1,h2,h3]
 ·cases h;simp[qz]
 ·cases h
theorem pO{n:Nat}{M:MS}{v:Value}{H':HT}{h:Hint}{K:KV}(hv:nD n M v H' h K) :
  (∃(H2:HT) (h2:Hint),H'.list=H2.list/\K v H2 h2)∨(cK n v=true/\(∃l,M=some l/\∀id∈l,∀o,H'.list[id]?=some o->ah n o=true)/\∃(H2:HT) (h2:Hint),H2.list=H'.list/\K v (H2.take n) h2):=by
 unfold nD at hv
 split at hv
 ·exact .inl ⟨H',_,rfl,hv⟩
 ·cases M with
  |none=>exact .inl ⟨H',_,rfl,hv⟩
  |some l =>
   simp only at hv
   split at hv
   ·rename_i hc
    simp only[Bool.and_eq_true,List.all_eq_true]at hc
    refine .inr ⟨hc.1,⟨l,rfl,fun id hid o ho =>?_⟩,H',_,rfl,hv⟩
    have:=hc.2 id hid
    rw[<- HT.aN,ho]at this
    exact this
   ·exact .inl ⟨H',_,rfl,hv⟩
def f7(P:Program)(mixed:Bool)(mask:Nat):Prop:=∀f,Nat.testBit mask f=true->zZ P mixed f=true
theorem pS{mask:Nat}{mixed:Bool}(fy:f7 P mixed mask)(hcall:iI P call)(happ:jz P app){rounds:Nat}(fZ:mixed=true->P.follows .mixedOrders=true):iI P (vE P mask call app dm rounds):=by
 intro f args H M h K hv
 unfold vE at hv
 split at hv <;> try (exact hv.elim)
 rename_i hm
 have hfn:=fy f hm
 split at hv <;> try (exact hv.elim)
 rename_i fn hf
 split at hv <;> try (exact hv.elim)
 rename_i c hb
 split at hv <;> try (exact hv.elim)
 rename_i hargs
 unfold zZ at hfn
 rw[hf]at hfn
 simp only[hb,Bool.and_eq_true,Bool.not_eq_true']at hfn
 obtain ⟨c1,c2,c3⟩:=hfn
 have Bv:aF P f args H.list (M.list H.n) (fun v H' => ∃H2 h2,H'=H2.list/\vas h2 v H2 (fun v H2 h2=>nD H.n M v H2 h2 K)):=by
  refine aF.enter hf c1 hb fn.ntmps rfl (Nat.le_of_ble_eq_true hargs) _ rfl c2 ?_
  rw[HT.length]
  refine (gY (ro:=none) hcall happ (fun _=>rfl) fZ c3 hv).mono ?_
  rintro e T H' ⟨E2,H2,h2,rfl,rfl,hk⟩
  cases e with
  |normal =>
   simp only at hk
   obtain ⟨E3,H3,h3,e3,e4,hk⟩:=cA hk
   rw[<- e3,<- e4]
   split at hk <;> try (exact hk.elim)
   rename_i v hr
   exact ⟨.inl rfl,v,lb hr,H3,h3,rfl,hk⟩
  |ret =>
   simp only at hk
   obtain ⟨E3,H3,h3,e3,e4,hk⟩:=cA hk
   rw[<- e3,<- e4]
   split at hk <;> try (exact hk.elim)
   rename_i v hr
   exact ⟨.inr rfl,v,lb hr,H3,h3,rfl,hk⟩
  |_=>exact hk.elim
 have key:aF P f args H.list (M.list H.n) (fun v H' => ∃H2 h2,H'=H2.list/\nD H.n M v H2 h2 K):=by
  refine Bv.weak ?_
  rintro v H' ⟨H2,h2,rfl,hk⟩
  obtain ⟨v2,gs,H3,h3,e1,e2,hk⟩:=uC hk
  exact ⟨v2,gs,e1,H3,h3,e2.symm,hk⟩
 refine key.yA ?_
 rintro v H' hlen _ ⟨H2,h2,rfl,hk⟩
 rcases pO hk with ⟨H3,h3,e,hk⟩|⟨hb,⟨l,rfl,ho⟩,H3,h3,e,hk⟩
 ·exact .inl ⟨H3,h3,e,hk⟩
 ·refine .inr ⟨(by rw[HT.length];exact hb),(fun id hid o _ h=>(by rw[HT.length];exact ho id hid o h)),H3.take H.n,h3,?_,hk⟩
  rw[HT.u1 _ _ (by rw[HT.n_eq e];rw[HT.length,HT.length]at hlen;exact hlen),e,HT.length]
theorem l3{yld:Nat->List Value->HT->MS->Hint->KV->Prop}(hcall:iI P call)(hy:sY P yld):jz P (xA call yld):=by
 intro fv args H M h K hv
 unfold xA at hv
 split at hv
 ·exact gB.func (hcall _ _ _ _ _ _ hv)
 ·exact hy _ _ _ _ _ _ hv
 ·exact hv.elim
end
theorem pV{mask:Nat}{dm:Value->MS}{rounds:Nat}{mixed:Bool}(fy:f7 P mixed mask)(fZ:mixed=true->P.follows .mixedOrders=true) :
  ∀n,iI P (vF P mask dm rounds mixed n true)/\sY P (vF P mask dm rounds mixed n false):=by
 intro n
 induction n with
 |zero=>exact ⟨fun f args H M h K hv=>hv.elim,fun L args H M h K hv=>hv.elim⟩
 |succ n ih =>
  refine ⟨fun f args H M h K hv =>?_,fun L args H M h K hv =>?_⟩
  ·exact pS fy ih.1 (l3 ih.1 ih.2) fZ _ _ _ _ _ _ hv
  ·exact oI ih.1 (l3 ih.1 ih.2) fZ _ _ _ _ _ _ hv
theorem vc{mask:Nat}{dm:Value->MS}{rounds:Nat}{mixed:Bool}(fy:f7 P mixed mask)(fZ:mixed=true->P.follows .mixedOrders=true)(n:Nat){f:FuncId}{args:List Value}{H:HT}{M:MS}{h:Hint}{Q:Value->Heap->Prop}
  (hv:vF P mask dm rounds mixed n true f args H M h (fun v H' _=>Q v H'.list)):aF P f args H.list (M.list H.n) Q :=
 ((pV fy fZ n).1 f args H M h _ hv).post fun v H' ⟨H2,h2,e,hq⟩=>by subst e;exact hq
end
end Go.K
namespace Go.K
noncomputable section
variable {P:Program}
def dr:Nat->Value->Bool
 |0,_=>false
 |d+1,v=>match v with
  | .func (.yield _) ⟨[]⟩ ⟨[]⟩=>true
  | .func (.func _) first cap=>first.toList.all (dr d)&&cap.toList.all (dr d)
  | .func _ _ _=>false
  | .agg cs=>cs.toList.all (dr d)
  | .tuple vs=>vs.toList.all (dr d)
  | .iface _ (.agg cs)=>cs.toList.all (dr d)
  | .iface _ (.tuple cs)=>cs.toList.all (dr d)
  |_=>true
def dW(d:Nat):aa->Bool
 | .cells _ _ cs=>cs.all (dr d)
 | .map es=>es.all fun e=>dr d e.1&&dr d e.2
 | .loop .. =>false
 | .iter .. =>false
 | .fam _ _=>false
 | .dead=>true
theorem lU{J ρ':Ren}{U:Nat->Option Nat}{d:Nat}(ih:∀{v r:Value},dr d v=true->VR J v r->VR ρ' (rn U d v) r){cs:Array Value}{r:Array Value}(hc:cs.toList.all (dr d)=true)
  (h1:cs.size=r.size) (h2:∀(i:Nat) (v v':Value),cs[i]?=some v->r[i]?=some v'->VR J v v') :
  (⟨cs.toList.map (rn U d)⟩:Array Value).size=r.size/\∀(i:Nat) (v v':Value),(⟨cs.toList.map (rn U d)⟩:Array Value)[i]?=some v->r[i]?=some v'->VR ρ' v v':=by
 have e:(⟨cs.toList.map (rn U d)⟩:Array Value)=cs.map (rn U d):=Array.toList_inj.1 (by simp)
 rw[e]
 refine ⟨by simpa using h1,fun i v v' a b =>?_⟩
 rw[Array.getElem?_map]at a
 obtain ⟨v0,a1,rfl⟩:=bv a
 rw[List.all_eq_true]at hc
 exact ih (hc v0 (by rw[Array.mem_toList_iff];exact Array.mem_of_getElem? a1)) (h2 i v0 v' a1 b)
theorem rk{J ρ':Ren}{U:Nat->Option Nat}{d s:Nat}(ih:∀{v r:Value},dr d v=true->VR J v r->VR ρ' (rn U d v) r){cs m:Array Value}(hc:cs.toList.all (dr d)=true)
  (h1:cs.size=0∨cs.size+s<=m.size) (h2:∀(i:Nat) (v v':Value),cs[i]?=some v->m[i+s]?=some v'->VR J v v') :
  ((⟨cs.toList.map (rn U d)⟩:Array Value).size=0∨(⟨cs.toList.map (rn U d)⟩:Array Value).size+s<=m.size)/\∀(i:Nat) (v v':Value),(⟨cs.toList.map (rn U d)⟩:Array Value)[i]?=some v->m[i+s]?=some v'->VR ρ' v v':=by
 have e:(⟨cs.toList.map (rn U d)⟩:Array Value)=cs.map (rn U d):=Array.toList_inj.1 (by simp)
 rw[e]
 refine ⟨by simpa using h1,fun i v v' a b =>?_⟩
 rw[Array.getElem?_map]at a
 obtain ⟨v0,a1,rfl⟩:=bv a
 rw[List.all_eq_true]at hc
 exact ih (hc v0 (by rw[Array.mem_toList_iff];exact Array.mem_of_getElem? a1)) (h2 i v0 v' a1 b)
theorem rB{J ρ':Ren}{U:Nat->Option Nat}(hσ:∀id r,J id=some r->∃id',U id=some id'/\ρ' id'=some r)(hm:∀b m,J.mem b=some m->ρ'.mem b=some m)(hg:∀F k r,J.g F k=some r->∃F',U F=some F'/\ρ'.g F' k=some r):∀(d:Nat) {v r:Value},dr d v=true->VR J v r->VR ρ' (rn U d v) r:=by
 intro d
 induction d with
 |zero=>intro v r h;cases h
 |succ d ih =>
  intro v r hk h
  cases h with
  |junk=>exact .junk _
  |bool b=>exact .bool b
  |int k n=>exact .int k n
  |float k n=>exact .float k n
  |string s=>exact .string s
  |cQ=>exact .cQ
  |ptr k=>obtain ⟨id',e1,e2⟩:=hσ _ _ k;simp only[rn,e1];exact .ptr e2
  |eG k=>obtain ⟨id',e1,e2⟩:=hg _ _ _ k;simp only[rn,e1];exact .eG e2
  |bL=>exact .bL
  |slice k hl hc ho=>obtain ⟨id',e1,e2⟩:=hσ _ _ k;simp only[rn,e1];exact .slice e2 hl hc ho
  |bN k=>obtain ⟨id',e1,e2⟩:=hσ _ _ k;simp only[rn,e1];exact .bN e2
  |cx=>exact .cx
  |bl=>simp only[rn];split <;> exact .bl
  |bk=>simp only[rn];split <;> exact .bk
  |bK k hp hl hc ho=>obtain ⟨id',e1,e2⟩:=hσ _ _ k;simp only[rn,e1];exact .bK e2 hp hl hc ho
  |bi=>simp only[rn];split <;> exact .bi
  |bS k hp hl hc ho=>obtain ⟨id',e1,e2⟩:=hσ _ _ k;simp only[rn,e1];exact .bS e2 hp hl hc ho
  |cS=>exact .cS
  |map k=>obtain ⟨id',e1,e2⟩:=hσ _ _ k;simp only[rn,e1];exact .map e2
  |nilFunc=>exact .nilFunc
  |nilIface=>exact .nilIface
  |yield k=>obtain ⟨id',e1,e2⟩:=hσ _ _ k;simp only[rn,e1];exact .yield e2
  | @func f first first' cap cap' h1 h2 h3 h4 =>
   have hk':(first.toList.all (dr d)&&cap.toList.all (dr d))=true:=by
    unfold dr at hk
    exact hk
   simp only[Bool.and_eq_true]at hk'
   obtain ⟨a1,a2⟩:=lU (U:=U) ih hk'.1 h1 h2
   obtain ⟨b1,b2⟩:=lU (U:=U) ih hk'.2 h3 h4
   exact .func a1 a2 b1 b2
  |agg h1 h2=>obtain ⟨a1,a2⟩:=lU (U:=U) ih hk h1 h2;exact .agg a1 a2
  |tuple h1 h2=>obtain ⟨a1,a2⟩:=lU (U:=U) ih hk h1 h2;exact .tuple a1 a2
  |deep g1 g2 g3 g4 g5=>obtain ⟨a1,a2⟩:=rk (U:=U) ih hk g4 g5;exact .deep (hm _ _ g1) g2 g3 a1 a2
  |cE=>exact .cE
  |fsl k hp hc hs ho=>obtain ⟨id',e1,e2⟩:=hg _ _ _ k;simp only[rn,e1];exact .fsl e2 hp hc hs ho
  | @dc a p =>
   match p with
   |none=>exact .dc
   |some ⟨id,off,none⟩=>exact .dc
   |some ⟨id,off,some 0⟩=>exact .dc
   |some ⟨id,off,some 1⟩=>exact .dc
   |some ⟨id,off,some 2⟩=>exact .dc
   |some ⟨id,off,some (j+3)⟩ =>
    simp only[rn]
    split <;> exact .dc
  |cN g1 g2 g3=>obtain ⟨a1,a2⟩:=rk (U:=U) ih hk g2 g3;exact .cN (hm _ _ g1) a1 a2
theorem oV{J ρ':Ren}{U:Nat->Option Nat}(hσ:∀id r,J id=some r->∃id',U id=some id'/\ρ' id'=some r)(hm:∀b m,J.mem b=some m->ρ'.mem b=some m)(hg:∀F k r,J.g F k=some r->∃F',U F=some F'/\ρ'.g F' k=some r){d:Nat}{r:RI}{o:aa}{w:World}(hk:dW d o=true)(h:bD J r o w):bD ρ' r (rno U d o) w:=by
 cases o with
 |cells own z cs =>
  obtain ⟨h1,h2,cs',ty,fz,h3,h4,h5,h6⟩:=h
  refine ⟨h1,h2,cs',ty,fz,h3,h4,h5,fun i v hv =>?_⟩
  rw[List.getElem?_map]at hv
  obtain ⟨v0,a1,rfl⟩:=bv hv
  obtain ⟨v',g1,g2⟩:=h6 i v0 a1
  simp only[dW,List.all_eq_true]at hk
  exact ⟨v',g1,rB hσ hm hg d (hk v0 (List.mem_of_getElem? a1)) g2⟩
 |map es =>
  obtain ⟨h1,es',h2,h3,h4⟩:=h
  refine ⟨h1,es',h2,by simpa using h3,fun i k v hv =>?_⟩
  rw[List.getElem?_map]at hv
  obtain ⟨⟨k0,v0⟩,a1,a2⟩:=bv hv
  cases a2
  obtain ⟨e',g1,g2,g3⟩:=h4 i k0 v0 a1
  simp only[dW,List.all_eq_true,Bool.and_eq_true]at hk
  have:=hk _ (List.mem_of_getElem? a1)
  exact ⟨e',g1,rB hσ hm hg d this.1 g2,rB hσ hm hg d this.2 g3⟩
 |loop st pe tm N ps as bd=>cases hk
 |iter m n s=>cases hk
 |fam z cs=>cases hk
 |dead=>trivial
structure Part(P:Program)(H0 H:Heap)(U:Nat->Option Nat)(d:Nat):Prop where
 dJ:∀g,g<P.globals.size->U g=some g
 dom:∀id id',U id=some id'->id<H0.length/\id'<H.length
 tot:∀id,id<H0.length->∃id',U id=some id'
 inj:∀id1 id2 id',U id1=some id'->U id2=some id'->id1=id2
 obj:∀id id' o,U id=some id'->H0[id]?=some o->o = .dead∨(dW d o=true/\H[id']?=some (rno U d o))
def eE(U:Nat->Option Nat)(V n:Nat)(id:Nat):Option Nat:=if id<V then U id else some (n+(id-V))
theorem aF.zY{f:FuncId}{args:List Value}{H0 H:Heap}{Z:Type}{I:Z->Prop}{vx:Z->Value}{jg:Z->Heap}{U:Nat->Option Nat}{d:Nat}(hp:Part P H0 H U d)(h:aF P f args H0 [] (fun v' H' => ∃x,I x/\v'=vx x/\H'=H0++jg x))
    (hvx:∀x,I x->dr d (vx x)=true) (hnx:∀x,I x->(jg x).all (fun o=>dW d o&&o.owned)=true) :
    aF P f (args.map (rn U d)) H [] (fun v' H' => ∃x,I x/\v'=rn (eE U H0.length H.length) d (vx x)/\H'=H++(jg x).map (rno (eE U H0.length H.length) d)):=by
  refine ⟨h.1,fun B J w args' hr ha =>?_⟩
  have hσb:∀id id' r,U id=some id'->J id'=some r->cu J U id=some r:=by intro id id' r h1 h2;show Option.bind _ _=_;rw[h1];exact h2
  have hσg:∀F F' k r,U F=some F'->J.g F' k=some r->(cu J U).g F k=some r:=by intro F F' k r h1 h2;show Option.bind _ _=_;rw[h1];exact h2
  have ew:∀{F k r},(cu J U).g F k=some r->∃F',U F=some F'/\J.g F' k=some r:=fun h=>Option.bind_eq_some_iff.1 h
  have wz:∀{F k:Nat} {r:RI} {z:Nat} {cs:List Value},(cu J U).g F k=some r->H0[F]?=some (.fam z cs)->False:=fun {F k r z cs} mg mh=>by
    obtain ⟨F',k1,_⟩:=ew mg
    rcases hp.obj F F' _ k1 mh with h|⟨h,_⟩ <;> cases h
  have hnf:∀{F k r z cs},FM (cu J U) H0 F k r z cs->False:=fun m=>wz m.g m.h
  have hsome:∀{id r},cu J U id=some r->∃id',U id=some id'/\J id'=some r:=fun h=>Option.bind_eq_some_iff.1 h
  have hoa:∀o:aa,o.owned=true->o.alive=true:=by intro o ho;cases o <;> first|rfl|cases ho
  have hno:∀o,dW d o=true->rno U d o = .dead->o = .dead:=by intro o h1 h2;cases o <;> first|rfl|(cases h1;done)|(cases h2;done)
  have hown:∀id id' o,U id=some id'->H0[id]?=some o->o.alive=true->H[id']?=some (rno U d o)/\(rno U d o).owned=o.owned/\(rno U d o).alive=true/\dW d o=true:=by
    intro id id' o h1 h2 h3
    rcases hp.obj id id' o h1 h2 with rfl|⟨g1,g2⟩
    · cases h3
    · obtain ⟨a,b⟩:=nM U d o (hno o g1);exact ⟨g2,a,b.trans h3,g1⟩
  have hr0:Rel P B (cu J U) H0 w:=by
    refine ⟨hr.bsize,fun g hg =>?_,fun id r h =>?_,fun id r h =>?_,fun id r o h1 h2 =>?_,fun id r o h1 h2 h3 =>?_,fun id1 id2 r1 r2 o1 o2 h1 h2 g1 g2 k1 k2 hne =>?_,fun b m hb=>⟨(hr.mem b m hb).1,fun id r o h1 h2 h3 =>?_⟩,
      ⟨fun F k r h=>by obtain ⟨F',k1,_⟩:=ew h;exact (hp.dom _ _ k1).1,fun F k r h=>by obtain ⟨F',_,k2⟩:=ew h;exact hr.fam.lt _ _ _ k2,fun _ _ _ _ _ m=>(hnf m).elim,fun _ _ _ _ _ m=>(hnf m).elim,fun _ _ _ _ _ _ _ _ _ _ m=>(hnf m).elim,fun _ _ _ _ _ _ _ _ m=>(hnf m).elim,fun _ _ _ _ _ _ _ m=>(hnf m).elim,fun _ _ _ _ g h=>(wz g h).elim⟩⟩
    · obtain ⟨r,k1,k2,k3⟩:=hr.dJ g hg;exact ⟨r,hσb g g r (hp.dJ g hg) k1,k2,k3⟩
    · obtain ⟨id',h1,_⟩:=hsome h;exact (hp.dom _ _ h1).1
    · obtain ⟨id',_,h2⟩:=hsome h;exact hr.lt _ _ h2
    · obtain ⟨id', k1, k2⟩ := hsome h1
      rcases hp.obj id id' o k1 h2 with rfl|⟨g1,g2⟩
      · trivial
      · exact oU hσb (fun _ _ h=>h) hσg (hr.obj _ _ _ k2 g2) (hno o g1)
    · obtain ⟨id', k1, k2⟩ := hsome h1
      obtain ⟨g1,g2,_,_⟩:=hown id id' o k1 h2 (hoa o h3)
      exact hr.base id' r _ k2 g1 (by rw[g2];exact h3)
    · obtain ⟨i1, a1, a2⟩ := hsome h1
      obtain ⟨i2,b1,b2⟩:=hsome h2
      obtain ⟨c1,c2,_,_⟩:=hown id1 i1 o1 a1 g1 (hoa _ k1)
      obtain ⟨d1,_,d3,_⟩:=hown id2 i2 o2 b1 g2 k2
      exact hr.sep i1 i2 r1 r2 _ _ a2 b2 c1 d1 (by rw[c2];exact k1) d3 (fun he=>hne (hp.inj _ _ _ a1 (he ▸ b1)))
    · obtain ⟨id', k1, k2⟩ := hsome h1
      obtain ⟨g1,g2,_,_⟩:=hown id id' o k1 h2 (hoa o h3)
      exact (hr.mem b m hb).2 id' r _ k2 g1 (by rw[g2];exact h3)
  have ha0:VRl (cu J U) args args'.toList:=⟨by have:=ha.1;simpa using this,fun i x x' a b=>jG hσb (fun _ _ h=>h) hσg d (ha.2 i (rn U d x) x' (by rw[List.getElem?_map,a];rfl) b)⟩
  refine (h.2 B (cu J U) w args' hr0 ha0).mono ?_
  rintro e w' ⟨v1,v',ρ1,H1,rfl,hv',hpost,x0,hx0,rfl,rfl⟩
  have hv:=hvx x0 hx0
  have hn:=hnx x0 hx0
  have hsame:∀id,id<H0.length->(H0++(jg x0))[id]?=H0[id]? := fun id hid=>List.getElem?_append_left hid
  have hback:∀id r,id<H0.length->ρ1 id=some r->cu J U id=some r:=by
    intro id r hid h1
    cases hq:cu J U id with
    |none=>exact absurd (hpost.new id r h1 hq) (by omega)
    |some r0=>have:=hpost.ext _ _ hq;rw[h1]at this;exact this.symm
  have wD:∀id r,ρ1 id=some r->∃id',eE U H0.length H.length id=some id'/\(if id'<H.length then J id' else ρ1 (H0.length+(id'-H.length)))=some r:=by
    intro id r h1
    unfold eE
    by_cases hid:id<H0.length
    · rw [if_pos hid]
      obtain ⟨id',k1,k2⟩:=hsome (hback id r hid h1)
      exact ⟨id',k1,by rw[if_pos (hp.dom _ _ k1).2];exact k2⟩
    · rw [if_neg hid]
      refine ⟨_,rfl,?_⟩
      rw[if_neg (by omega),show H0.length+(H.length+(id-H0.length)-H.length)=id by omega];exact h1
  have qR:∀F k r,ρ1.g F k=some r->∃F',eE U H0.length H.length F=some F'/\(if F'<H.length then J.g F' k else ρ1.g (H0.length+(F'-H.length)) k)=some r:=by
    intro F k r h1
    unfold eE
    by_cases hid:F<H0.length
    · rw [if_pos hid]
      cases hq:(cu J U).g F k with
      | none => rcases hpost.jQ F k r h1 hq with h | h
                · omega
                · cases h
      | some r0 =>
        have:=hpost.ext.g _ _ _ hq;rw[h1]at this;cases this
        obtain ⟨F',k1,k2⟩:=ew hq
        exact ⟨F',k1,by rw[if_pos (hp.dom _ _ k1).2];exact k2⟩
    · rw [if_neg hid]
      refine ⟨_,rfl,?_⟩
      rw[if_neg (by omega),show H0.length+(H.length+(F-H0.length)-H.length)=F by omega];exact h1
  have hext:Ren.le J ⟨fun id'=>if id'<H.length then J id' else ρ1 (H0.length+(id'-H.length)),ρ1.mem,fun F k=>if F<H.length then J.g F k else ρ1.g (H0.length+(F-H.length)) k⟩:=⟨fun id r h1=>by
    show (if _ then _ else _)=_
    rw[if_pos (hr.dom _ _ h1)];exact h1,hpost.ext.mem,fun F k r h1=>by
    show (if _ then _ else _)=_
    rw[if_pos (hr.fam.dom _ _ _ h1)];exact h1⟩
  have hnew:∀(k:Nat) (o:aa),(jg x0)[k]?=some o->dW d o=true/\o.owned=true:=by
    intro k o hk
    rw[List.all_eq_true]at hn
    have:=hn o (List.mem_of_getElem? hk)
    simpa using this
  have vj:∀{b},OB (cu J U) H0 b->∃id r o,cu J U id=some r/\H0[id]?=some o/\o.owned=true/\r.b=b:=fun h=>h.elim id fun ⟨_,_,_,_,_,m,_⟩=>(hnf m).elim
  have hfresh:∀id r o,H0.length<=id->ρ1 id=some r->(H0++(jg x0))[id]?=some o->w.heap.size<=r.b:=by
    intro id r o hid h1 h2
    have ho:o.owned=true:=by rw[List.getElem?_append_right hid]at h2;exact (hnew _ _ h2).2
    rcases Nat.lt_or_ge r.b w.heap.size with hlt|hge
    · obtain ⟨j, rj, oj, j1, j2, j3, j4⟩ := vj (hpost.ob r.b hlt (.inl ⟨id, r, o, h1, h2, ho, rfl⟩))
      have hj:=hr0.dom _ _ j1
      exact absurd j4 (hpost.rel.sep j id rj r oj o (hpost.ext _ _ j1) h1 (by rw[hsame j hj];exact j2) h2 j3 (hoa _ ho) (by omega))
    · exact hge
  have hOB:∀b,OB (cu J U) H0 b->OB J H b:=by
    intro b hb
    obtain ⟨id,r,o,h1,h2,h3,h4⟩:=vj hb
    obtain ⟨id',k1,k2⟩:=hsome h1
    obtain ⟨g1,g2,_,_⟩:=hown id id' o k1 h2 (hoa o h3)
    exact .inl ⟨id',r,_,k2,g1,by rw[g2];exact h3,h4⟩
  have eV:∀id o',H.length<=id->(H++(jg x0).map (rno (eE U H0.length H.length) d))[id]?=some o'->∃o,(H0++(jg x0))[H0.length+(id-H.length)]?=some o/\o'=rno (eE U H0.length H.length) d o/\dW d o=true/\o.owned=true/\o'.owned=true:=by
    intro id o' hid h2
    rw[List.getElem?_append_right hid,List.getElem?_map]at h2
    obtain ⟨o,a1,rfl⟩:=bv h2
    refine ⟨o,?_,rfl,(hnew _ _ a1).1,(hnew _ _ a1).2,?_⟩
    · rw[List.getElem?_append_right (by omega),show H0.length+(id-H.length)-H0.length=id-H.length by omega];exact a1
    · obtain ⟨x1, x2⟩ := hnew _ _ a1
      cases o <;> first|exact x2|cases x1
  have ey:∀id,id<H.length->(H++(jg x0).map (rno (eE U H0.length H.length) d))[id]?=H[id]? := fun id hid=>List.getElem?_append_left hid
  have hvv:VR ⟨fun id'=>if id'<H.length then J id' else ρ1 (H0.length+(id'-H.length)),ρ1.mem,fun F k=>if F<H.length then J.g F k else ρ1.g (H0.length+(F-H.length)) k⟩ (rn (eE U H0.length H.length) d (vx x0)) v':=rB (J:=ρ1) (U:=eE U H0.length H.length) (ρ':=⟨fun id'=>if id'<H.length then J id' else ρ1 (H0.length+(id'-H.length)),ρ1.mem,fun F k=>if F<H.length then J.g F k else ρ1.g (H0.length+(F-H.length)) k⟩) wD (fun _ _ h=>h) qR d hv hv'
  refine ⟨_,v',⟨fun id'=>if id'<H.length then J id' else ρ1 (H0.length+(id'-H.length)),ρ1.mem,fun F k=>if F<H.length then J.g F k else ρ1.g (H0.length+(F-H.length)) k⟩,_,rfl,hvv,?_,x0,hx0,rfl,rfl⟩
  have pD:∀{F k r z cs},(Ren.mk (fun id'=>if id'<H.length then J id' else ρ1 (H0.length+(id'-H.length))) ρ1.mem (fun F k=>if F<H.length then J.g F k else ρ1.g (H0.length+(F-H.length)) k)).g F k=some r->(H++(jg x0).map (rno (eE U H0.length H.length) d))[F]?=some (.fam z cs)->J.g F k=some r/\H[F]?=some (.fam z cs):=fun {F k r z cs} mg mh=>by
    have h1:(if F<H.length then J.g F k else ρ1.g (H0.length+(F-H.length)) k)=some r:=mg
    rcases Nat.lt_or_ge F H.length with h|h
    · rw [if_pos h] at h1
      exact ⟨h1,by rw[<- ey F h];exact mh⟩
    · obtain ⟨o, _, _, _, _, g⟩ := eV F _ h mh
      cases g
  have hfm:∀{F k r z cs},FM ⟨fun id'=>if id'<H.length then J id' else ρ1 (H0.length+(id'-H.length)),ρ1.mem,fun F k=>if F<H.length then J.g F k else ρ1.g (H0.length+(F-H.length)) k⟩ (H++(jg x0).map (rno (eE U H0.length H.length) d)) F k r z cs->FM J H F k r z cs:=fun m=>⟨(pD m.g m.h).1,(pD m.g m.h).2,m.a⟩
  have jZ:gX B ⟨fun id'=>if id'<H.length then J id' else ρ1 (H0.length+(id'-H.length)),ρ1.mem,fun F k=>if F<H.length then J.g F k else ρ1.g (H0.length+(F-H.length)) k⟩ (H++(jg x0).map (rno (eE U H0.length H.length) d)) w':=by
    refine ⟨fun F k r h1 =>?_,fun F k r h1 =>?_,fun F k r z cs m=>hr.fam.base _ _ _ _ _ (hfm m),fun F k r z cs m=>(hr.fam.obj _ _ _ _ _ (hfm m)).mono hext (hpost.keep _ (hr.fam.lt _ _ _ (hfm m).g) fun ho =>?_),
      fun F k r z cs F' k' r' z' cs' m m'=>hr.fam.sep _ _ _ _ _ _ _ _ _ _ (hfm m) (hfm m'),fun F k r z cs id r' o m h1 h2 h3 =>?_,fun F k r z cs b m' m hb =>?_,fun F k r cs h1 h2=>hr.fam.cnt F k r cs (pD h1 h2).1 (pD h1 h2).2⟩
    · have h1 : (if F < H.length then J.g F k else ρ1.g (H0.length + (F - H.length)) k) = some r := h1
      rcases Nat.lt_or_ge F H.length with h|h
      · simp;omega
      · rw [if_neg (by omega)] at h1
        have:=hpost.rel.fam.dom _ _ _ h1
        simp at this ⊢;omega
    · have h1 : (if F < H.length then J.g F k else ρ1.g (H0.length + (F - H.length)) k) = some r := h1
      rcases Nat.lt_or_ge F H.length with h|h
      · rw [if_pos h] at h1
        exact Nat.lt_of_lt_of_le (hr.fam.lt _ _ _ h1) hpost.size
      · rw [if_neg (by omega)] at h1
        exact hpost.rel.fam.lt _ _ _ h1
    · obtain ⟨j, rj, oj, j1, j2, j3, j4⟩ := vj ho
      obtain ⟨id',k1,k2⟩:=hsome j1
      obtain ⟨c1,c2,c3,_⟩:=hown j id' oj k1 j2 (hoa _ j3)
      exact hr.fam.sep2 _ _ _ _ _ id' rj _ (hfm m) k2 c1 c3 j4
    · have h1 : (if id < H.length then J id else ρ1 (H0.length + (id - H.length))) = some r' := h1
      rcases Nat.lt_or_ge id H.length with h|h
      · rw [if_pos h] at h1
        exact hr.fam.sep2 _ _ _ _ _ id r' o (hfm m) h1 (by rw[<- ey id h];exact h2) h3
      · rw [if_neg (by omega)] at h1
        obtain ⟨o0,a1,_,_,_,_⟩:=eV id o h h2
        have:=hfresh _ r' o0 (by omega) h1 a1
        have:=hr.fam.lt _ _ _ (hfm m).g
        omega
    · have hb : ρ1.mem b = some m' := hb
      rcases hpost.frz b m' hb with g|g|g
      · exact hr.fam.mem _ _ _ _ _ b m' (hfm m) g
      · have:=hr.fam.lt _ _ _ (hfm m).g;omega
      · obtain ⟨j, rj, oj, j1, j2, j3, j4⟩ := vj g
        obtain ⟨id',k1,k2⟩:=hsome j1
        obtain ⟨c1,c2,c3,_⟩:=hown j id' oj k1 j2 (hoa _ j3)
        exact fun e=>hr.fam.sep2 _ _ _ _ _ id' rj _ (hfm m) k2 c1 c3 (j4.trans e.symm)
  have A2:∀id r,¬ id<H.length->ρ1 (H0.length+(id-H.length))=some r->id<H.length+(jg x0).length:=by
    intro id r hid h1
    have:=hpost.rel.dom _ _ h1
    simp at this;omega
  refine ⟨⟨Nat.le_trans hr.bsize hpost.size,fun g hg =>?_,fun id r h1 =>?_,fun id r h1 =>?_,fun id r o h1 h2 =>?_,fun id r o h1 h2 h3 =>?_,fun id1 id2 r1 r2 o1 o2 h1 h2 g1 g2 k1 k2 hne =>?_,fun b m hb=>⟨(hpost.rel.mem b m hb).1,fun id r o h1 h2 h3 =>?_⟩,jZ⟩,hext,fun id r h1 h2 =>?_,by simp,fun id h1 h2=>ey id h1,hpost.size,fun b h1 h2=>hpost.keep b h1 (fun ho=>h2 (hOB b ho)),fun b h1 h2 =>?_,hpost.os,hpost.tape,hpost.output,fun b m hb=>(hpost.frz b m hb).imp id fun h=>h.imp id (hOB b),hpost.drawn,fun F k r h1 h2 => .inl (by
    have h1:(if F<H.length then J.g F k else ρ1.g (H0.length+(F-H.length)) k)=some r:=h1
    rcases Nat.lt_or_ge F H.length with h|h
    · rw[if_pos h,h2]at h1;cases h1
    · exact h)⟩
  · obtain ⟨r,k1,k2,k3⟩:=hr.dJ g hg;exact ⟨r,hext _ _ k1,k2,k3⟩
  · dsimp only at h1
    split at h1
    · rw[bH];omega
    · rw[bH,List.length_map];exact A2 _ _ ‹_› h1
  · dsimp only at h1
    split at h1
    · exact Nat.lt_of_lt_of_le (hr.lt _ _ h1) hpost.size
    · exact hpost.rel.lt _ _ h1
  · dsimp only at h1
    split at h1
    · rename_i hid
      rw[ey id hid]at h2
      have hold:=hr.obj _ _ _ h1 h2
      by_cases hob:OB (cu J U) H0 r.b
      · -- a block that the small memory owns
        obtain ⟨j,rj,oj,j1,j2,j3,j4⟩:=vj hob
        obtain ⟨id',k1,k2⟩:=hsome j1
        obtain ⟨c1,c2,c3,c4⟩:=hown j id' oj k1 j2 (hoa _ j3)
        by_cases hal:o.alive=true
        · have zV:id=id':=by
            rcases Nat.decEq id id' with hne|he
            · exact absurd j4 (hr.sep id' id rj r _ o k2 h1 c1 h2 (by rw[c2];exact j3) hal (Ne.symm hne))
            · exact he
          subst zV
          rw[h1]at k2;cases k2
          rw[h2]at c1;cases c1
          have hj:=hr0.dom _ _ j1
          have Bz:=hpost.rel.obj j r oj (hpost.ext _ _ j1) (by rw[hsame j hj];exact j2)
          have hb:=bD.back (ρ2:=⟨(cu J U).f,ρ1.mem,(cu J U).g⟩) hpost.ext (fun _ _ h=>h) (fun _ _ h=>h) (fun _ _ _ h=>h) (hr0.obj _ _ _ j1 j2) Bz
          have hb2:=oV (U:=U) (J:=⟨(cu J U).f,ρ1.mem,(cu J U).g⟩) (ρ':=⟨J.f,ρ1.mem,J.g⟩) (fun i r h=>hsome h) (fun _ _ h=>h) (fun F k r h=>ew h) c4 hb
          exact hb2.mono (J:=⟨J.f,ρ1.mem,J.g⟩) ⟨hext.f,fun _ _ h=>h,hext.g⟩ rfl
        · cases o <;> first|trivial|exact absurd rfl hal
      · exact hold.mono hext (hpost.keep _ (hr.lt _ _ h1) hob)
    · rename_i hid
      obtain ⟨o0,a1,rfl,a3,a4,_⟩:=eV id o (by omega) h2
      exact oV (J:=ρ1) (U:=eE U H0.length H.length) (ρ':=⟨fun id'=>if id'<H.length then J id' else ρ1 (H0.length+(id'-H.length)),ρ1.mem,fun F k=>if F<H.length then J.g F k else ρ1.g (H0.length+(F-H.length)) k⟩) wD (fun _ _ h=>h) qR a3 (hpost.rel.obj _ _ _ h1 a1)
  · dsimp only at h1
    split at h1
    · rename_i hid;rw[ey id hid]at h2;exact hr.base _ _ _ h1 h2 h3
    · rename_i hid
      obtain ⟨o0,a1,_,a3,a4,_⟩:=eV id o (by omega) h2
      exact hpost.rel.base _ _ _ h1 a1 a4
  · have fr:∀id r o,¬ id<H.length->ρ1 (H0.length+(id-H.length))=some r->(H++(jg x0).map (rno (eE U H0.length H.length) d))[id]?=some o->w.heap.size<=r.b:=by
      intro id r o hid a b
      obtain ⟨o0,a1,_,_,_,_⟩:=eV id o (by omega) b
      exact hfresh _ r o0 (by omega) a a1
    dsimp only at h1 h2
    by_cases c1:id1<H.length
    · rw [if_pos c1] at h1
      rw[ey id1 c1]at g1
      by_cases c2:id2<H.length
      · rw [if_pos c2] at h2
        rw[ey id2 c2]at g2
        exact hr.sep id1 id2 r1 r2 o1 o2 h1 h2 g1 g2 k1 k2 hne
      · rw [if_neg c2] at h2
        have:=hr.lt _ _ h1
        have:=fr id2 r2 o2 c2 h2 g2
        omega
    · rw [if_neg c1] at h1
      have f1:=fr id1 r1 o1 c1 h1 g1
      by_cases c2:id2<H.length
      · rw [if_pos c2] at h2
        have:=hr.lt _ _ h2
        omega
      · rw [if_neg c2] at h2
        obtain ⟨p1,a1,_,_,a4,_⟩:=eV id1 o1 (by omega) g1
        obtain ⟨p2,b1,_,_,b4,_⟩:=eV id2 o2 (by omega) g2
        exact hpost.rel.sep _ _ r1 r2 p1 p2 h1 h2 a1 b1 a4 (hoa _ b4) (by omega)
  · dsimp only at h1
    split at h1
    · rename_i hid
      rw[ey id hid]at h2
      intro he
      rcases hpost.frz b m hb with g|g|g
      · exact (hr.mem b m g).2 id r o h1 h2 h3 he
      · have:=hr.lt _ _ h1;omega
      · obtain ⟨j, rj, oj, j1, j2, j3, j4⟩ := vj g
        exact (hpost.rel.mem b m hb).2 j rj oj (hpost.ext _ _ j1) (by rw[hsame j (hr0.dom _ _ j1)];exact j2) j3 j4
    · rename_i hid
      obtain ⟨o0,a1,_,a3,a4,_⟩:=eV id o (by omega) h2
      exact (hpost.rel.mem b m hb).2 _ r o0 h1 a1 a4
  · dsimp only at h1
    split at h1
    · rw[h2]at h1;cases h1
    · omega
  · rcases h2 with ⟨id, r, o, k1, k2, k3, k4⟩ | ⟨F, k, r, z, cs, m, e⟩
    · simp only at k1
      split at k1
      · rename_i hid;rw[ey id hid]at k2;exact .inl ⟨id,r,o,k1,k2,k3,k4⟩
      · rename_i hid
        obtain ⟨o0,a1,_,_,_,_⟩:=eV id o (by omega) k2
        have:=hfresh _ r o0 (by omega) k1 a1
        omega
    · exact .inr ⟨F,k,r,z,cs,hfm m,e⟩
theorem aF.frame{f:FuncId}{args:List Value}{H0 H new:Heap}{v:Value}{U:Nat->Option Nat}{d:Nat}(hp:Part P H0 H U d)(h:aF P f args H0 [] (Is v (H0++new)))
  (hv:dr d v=true) (hn:new.all (fun o=>dW d o&&o.owned)=true) :
  aF P f (args.map (rn U d)) H [] (Is (rn (eE U H0.length H.length) d v) (H++new.map (rno (eE U H0.length H.length) d))):=by
 have h2:=aF.zY (Z:=Unit) (I:=fun _=>True) (vx:=fun _=>v) (jg:=fun _=>new) hp (h.post fun v' H' ⟨a,b⟩=>⟨(),trivial,a,b⟩) (fun _ _=>hv) (fun _ _=>hn)
 exact h2.post fun v' H' ⟨_,_,a,b⟩=>⟨a,b⟩
theorem u0{P:Program}{mixed:Bool}(M n:Nat)(hlt:M<2 ^ n)(h:(List.range n).all (fun f => !(Nat.testBit M f) ||zZ P mixed f)=true):f7 P mixed M:=by
 intro f hf
 rcases Nat.lt_or_ge f n with hn|hn
 ·rw[List.all_eq_true]at h
  have:=h f (List.mem_range.2 hn)
  simpa[hf] using this
 ·have:Nat.testBit M f=false:=Nat.testBit_lt_two_pow (Nat.lt_of_lt_of_le hlt (Nat.pow_le_pow_right (by omega) hn))
  rw[this]at hf;cases hf
theorem rnL{U:Nat->Option Nat}{d:Nat}{v:Value}(h:bG 0 v=true):rn U (d+1) v=v/\dr (d+1) v=true:=by
 cases v with
 |pointer a=>cases a with|none=>exact ⟨rfl,rfl⟩|some a=>obtain ⟨b,o,s⟩:=a;cases s <;> simp[bG]at h
 |slice a l c=>cases a with|none=>exact ⟨rfl,rfl⟩|some a=>simp[bG]at h
 |map r=>cases r with|none=>exact ⟨rfl,rfl⟩|some r=>simp[bG]at h
 |func=>simp[bG]at h
 |agg=>simp[bG]at h
 |tuple=>simp[bG]at h
 |iface=>simp[bG]at h
 |_=>exact ⟨rfl,rfl⟩
theorem vP{U:Nat->Option Nat}{d:Nat}{p:Value->Bool}(hp:∀v,p v=true->rn U d v=v/\dr d v=true):∀{l:List Value},l.all p=true->l.map (rn U d)=l/\l.all (dr d)=true
 | [],_=>⟨rfl,rfl⟩
 |v :: l,h=>by
  simp only[List.all_cons,Bool.and_eq_true]at h
  obtain ⟨a,b⟩:=hp v h.1
  obtain ⟨c,e⟩:=vP hp h.2
  exact ⟨by rw[List.map_cons,a,c],by simp[b,e]⟩
theorem rnI{U:Nat->Option Nat}{d k:Nat}{p:Value->Bool}(hp:∀v,p v=true->rn U d v=v/\dr d v=true){cs:Array Value}(h:cs.toList.all p=true) :
  (rn U (d+1) (.iface k (.agg cs)) = .iface k (.agg cs)/\dr (d+1) (.iface k (.agg cs))=true)/\(rn U (d+1) (.iface k (.tuple cs)) = .iface k (.tuple cs)/\dr (d+1) (.iface k (.tuple cs))=true):=by
 obtain ⟨a,b⟩:=vP hp h
 exact ⟨⟨by unfold rn;simp only;rw[a],b⟩,⟨by unfold rn;simp only;rw[a],b⟩⟩
theorem rnD{U:Nat->Option Nat}{d:Nat}{v:Value}(h:dl 0 v=true):rn U (d+2) v=v/\dr (d+2) v=true:=by
 cases v with
 |iface k x =>
  cases x with
  |agg cs=>exact (rnI (d:=d+1) (fun v hv=>rnL hv) h).1
  |tuple cs=>exact (rnI (d:=d+1) (fun v hv=>rnL hv) h).2
  |_=>cases h
 |_=>exact rnL (d:=d+1) h
theorem rnC{U:Nat->Option Nat}{d:Nat}{v:Value}(h:aT 0 v=true):rn U (d+3) v=v/\dr (d+3) v=true:=by
 cases v with
 |iface k x =>
  cases x with
  |agg cs=>exact (rnI (d:=d+2) (fun v hv=>rnD hv) h).1
  |tuple cs=>exact (rnI (d:=d+2) (fun v hv=>rnD hv) h).2
  |_=>cases h
 |pointer a=>cases a with|none=>exact ⟨rfl,rfl⟩|some a=>obtain ⟨b,o,s⟩:=a;cases s <;> simp[aT]at h
 |slice a l c=>cases a with|none=>exact ⟨rfl,rfl⟩|some a=>simp[aT]at h
 |map r=>cases r with|none=>exact ⟨rfl,rfl⟩|some r=>simp[aT]at h
 |func=>simp[aT]at h
 |agg=>simp[aT]at h
 |tuple=>simp[aT]at h
 |_=>exact ⟨rfl,rfl⟩
theorem jH{U:Nat->Option Nat}{d:Nat}:∀{l:List Value},l.all (aT 0)=true->l.map (rn U (d+3))=l/\l.all (dr (d+3))=true
 | [],_=>⟨rfl,rfl⟩
 |v :: l,h=>by
  simp only[List.all_cons,Bool.and_eq_true]at h
  obtain ⟨a,b⟩:=rnC (U:=U) (d:=d) h.1
  obtain ⟨c,e⟩:=jH (U:=U) (d:=d) h.2
  exact ⟨by rw[List.map_cons,a,c],by simp[b,e]⟩
theorem rnV{U:Nat->Option Nat}{d:Nat}{v:Value}(h:cK 0 v=true):rn U (d+5) v=v/\dr (d+5) v=true:=by
 cases v with
 |agg cs =>
  obtain ⟨a,b⟩:=jH (U:=U) (d:=d+1) h
  exact ⟨by unfold rn;simp only;rw[a],b⟩
 |tuple vs =>
  have key:∀l:List Value,(l.all fun v=>match v with| .agg cs=>cs.toList.all (aT 0)|v=>aT 0 v)=true->l.map (rn U (d+4))=l/\l.all (dr (d+4))=true:=by
   intro l
   induction l with
   |nil=>intro _;exact ⟨rfl,rfl⟩
   |cons v l ih =>
    intro hl
    simp only[List.all_cons,Bool.and_eq_true]at hl
    obtain ⟨c,e⟩:=ih hl.2
    have hv:rn U (d+4) v=v/\dr (d+4) v=true:=by
     cases v with
     |agg cs =>
      obtain ⟨a,b⟩:=jH (U:=U) (d:=d) hl.1
      exact ⟨by unfold rn;simp only;rw[a],b⟩
     |_=>exact rnC (d:=d+1) hl.1
    exact ⟨by rw[List.map_cons,hv.1,c],by simp[hv.2,e]⟩
  obtain ⟨a,b⟩:=key vs.toList h
  exact ⟨by unfold rn;simp only;rw[a],b⟩
 |_=>exact rnC (d:=d+2) h
theorem eX{n:Nat}{v:Value}(h:bG 0 v=true):bG n v=true:=by
 cases v with
 |pointer a=>cases a with|none=>rfl|some a=>obtain ⟨b,o,s⟩:=a;cases s <;> simp[bG]at h
 |slice a l c=>cases a with|none=>rfl|some a=>simp[bG]at h
 |map r=>cases r with|none=>rfl|some r=>simp[bG]at h
 |func=>simp[bG]at h
 |agg=>simp[bG]at h
 |tuple=>simp[bG]at h
 |iface=>simp[bG]at h
 |_=>first|rfl|exact h
theorem iH{p q:Value->Bool}(hp:∀v,p v=true->q v=true){l:List Value}(h:l.all p=true):l.all q=true:=by
 rw[List.all_eq_true]at *;exact fun v hv=>hp v (h v hv)
theorem lw{n:Nat}{v:Value}(h:dl 0 v=true):dl n v=true:=by
 cases v with
 |iface k x =>
  cases x with
  |agg cs=>exact iH (fun v hv=>eX hv) h
  |tuple cs=>exact iH (fun v hv=>eX hv) h
  |_=>cases h
 |pointer a=>exact eX (n:=n) (v:=.pointer a) h
 |slice a l c=>exact eX (n:=n) (v:=.slice a l c) h
 |map r=>exact eX (n:=n) (v:=.map r) h
 |_=>first|rfl|exact h
theorem dN{n:Nat}{v:Value}(h:aT 0 v=true):aT n v=true:=by
 cases v with
 |iface k x =>
  cases x with
  |agg cs=>exact iH (fun v hv=>lw hv) h
  |tuple cs=>exact iH (fun v hv=>lw hv) h
  |_=>cases h
 |pointer a=>cases a with|none=>rfl|some a=>obtain ⟨b,o,s⟩:=a;cases s <;> simp[aT]at h
 |slice a l c=>cases a with|none=>rfl|some a=>simp[aT]at h
 |map r=>cases r with|none=>rfl|some r=>simp[aT]at h
 |func=>simp[aT]at h
 |agg=>simp[aT]at h
 |tuple=>simp[aT]at h
 |_=>first|rfl|exact h
theorem pF{n:Nat}{l:List Value}(h:l.all (aT 0)=true):l.all (aT n)=true:=by
 rw[List.all_eq_true]at *;exact fun v hv=>dN (h v hv)
theorem rt{n:Nat}{v:Value}(h:cK 0 v=true):cK n v=true:=by
 cases v with
 |agg cs=>exact pF h
 |tuple vs =>
  simp only[cK,List.all_eq_true]at *
  intro v hv
  have:=h v hv
  cases v with
  |agg cs=>simp only[List.all_eq_true]at *;exact fun x hx=>dN (this x hx)
  |_=>exact dN this
 |bool b=>rfl
 |int k n=>rfl
 |float k n=>rfl
 |string s=>rfl
 |nilFunc=>rfl
 |nilIface=>rfl
 |pointer a=>exact dN (n:=n) (v:=.pointer a) h
 |slice a l c=>exact dN (n:=n) (v:=.slice a l c) h
 |map r=>exact dN (n:=n) (v:=.map r) h
 |iface k x=>exact dN (n:=n) (v:=.iface k x) h
 |_=>simp[cK,aT]at h
theorem aF.clean{f:FuncId}{args:List Value}{H:Heap}{v:Value}(h:aF P f args H [] (fun v' _=>v'=v))(hb:cK 0 v=true):aF P f args H [] (Is v H):=by
 refine h.trim ?_
 rintro v' H' hl hs rfl
 refine ⟨rt hb,(fun _ h=>(by cases h)),rfl,?_⟩
 refine List.ext_getElem? (fun i =>?_)
 rw[List.getElem?_take]
 split
 ·rename_i hi;exact hs i hi (by simp)
 ·rename_i hi;exact (List.getElem?_eq_none (by omega)).symm
section
variable {mask:Nat} {dm:Value->MS} {rounds:Nat} {mixed:Bool}
theorem vcP(fy:f7 P mixed mask)(fZ:mixed=true->P.follows .mixedOrders=true)(n:Nat){f:FuncId}{args:List Value}{h:Hint}{v:Value}(hargs:∀U,args.map (rn U 5)=args)(hv:cK 0 v=true)
  (hc:vF P mask dm rounds mixed n true f args ⟨P.globals.size,.leaf⟩ (some []) h (fun v' _ _=>v'=v)) (H:Heap) (hH:P.globals.size<=H.length):aF P f args H [] (Is v H):=by
 have h1:=aF.clean (vc fy fZ n (Q:=fun v' _=>v'=v) hc) hv
 have fR:∀(id:Nat) (o:aa),(HT.list ⟨P.globals.size,.leaf⟩)[id]?=some o->o = .dead:=by
  intro id o ho
  rw[HT.aN]at ho
  unfold HT.get at ho
  cases hb:Nat.blt id P.globals.size with
  |true=>simp only[hb,cond_true]at ho;cases ho;rfl
  |false=>simp only[hb,cond_false]at ho;cases ho
 have hlen:(HT.list ⟨P.globals.size,.leaf⟩).length=P.globals.size:=HT.length _
 have hp:Part P (HT.list ⟨P.globals.size,.leaf⟩) H (fun id=>if id<P.globals.size then some id else none) 5:=by
  refine ⟨fun g hg=>if_pos hg,fun id id' h =>?_,fun id hid =>?_,fun a b c h1 h2 =>?_,fun id id' o _ ho => .inl (fR id o ho)⟩
  ·split at h
   ·cases h;rw[hlen];omega
   ·cases h
  ·rw[hlen]at hid;exact ⟨id,if_pos hid⟩
  ·split at h1
   ·split at h2
    ·cases h1;cases h2;rfl
    ·cases h2
   ·cases h1
 have h2:=aF.frame (new:=[]) (d:=5) hp (by simpa using h1) (rnV (U:=fun _=>none) (d:=0) hv).2 rfl
 rw[hargs,(rnV (d:=0) hv).1]at h2
 simpa using h2
def eS(V d:Nat)(v:Value)(new:List (Bool×aa)):KV:=fun v' H' h' =>
 match h' with
 | .again U=>uM V (V+new.length) [] U=true/\wk v' (rn (sg V U) d v)/\qr H' V (sg V U) d V new
 |_=>False
theorem aF.pack{f:FuncId}{args:List Value}{H0:HT}{v:Value}{new:List (Bool×aa)}{d:Nat}(h:aF P f args H0.list [] (fun v' H' => ∃(H2:HT) (U:List (Nat×Nat)),H'=H2.list/\uM H0.n (H0.n+new.length) [] U=true/\wk v' (rn (sg H0.n U) d v)/\qr H2 H0.n (sg H0.n U) d H0.n new)) :
  aF P f args H0.list [] (Is v (H0.list++new.map (·.2))):=by
 refine ⟨h.1,fun B J w args' hr ha=>(h.2 B J w args' hr ha).mono ?_⟩
 rintro e w' ⟨v',r,ρ',H',rfl,hv,hp,H2,U,rfl,hs,hw,hn⟩
 have hh:mU 0 ⟨fun _=>junk,.leaf⟩ H2 H0 d [] U [] [] new []:=⟨by simp only[Bool.and_eq_true];exact ⟨hs,rfl,rfl,rfl⟩,trivial,trivial,hn,trivial⟩
 have he:=gM hh
 have hlist:(gv H0 [] new []).list=H0.list++new.map (·.2):=by
  have key:∀(l:List (Bool×aa)) (H:HT),(l.foldl (fun H p=>H.push p.2) H).list=H.list++l.map (·.2):=by
   intro l
   induction l with
   |nil=>intro H;simp
   |cons p l ih=>intro H;rw[List.foldl_cons,ih,HT.bW];simp
  exact key new H0
 rw[hlist]at he
 obtain ⟨q1,_⟩:=he.post hr hp
 refine ⟨v,r,cu ρ' (sg H0.n U),_,rfl,?_,q1,rfl,rfl⟩
 have hσ:∀id id' r,sg H0.n U id=some id'->ρ' id'=some r->(cu ρ' (sg H0.n U)) id=some r:=fun id id' r h1 h2=>by show Option.bind _ _=_;rw[h1];exact h2
 exact jG (ρ':=ρ') (J:=cu ρ' (sg H0.n U)) hσ (fun _ _ h=>h) (fun F F' k r h1 h2=>by show Option.bind _ _=_;rw[h1];exact h2) d (hw _ _ hv)
theorem vcN(fy:f7 P mixed mask)(fZ:mixed=true->P.follows .mixedOrders=true)(n:Nat){f:FuncId}{args:List Value}{H0:HT}{h:Hint}{v:Value}{new:List (Bool×aa)}{d:Nat}
  (hc:vF P mask dm rounds mixed n true f args H0 (some []) h (eS H0.n d v new)):aF P f args H0.list [] (Is v (H0.list++new.map (·.2))):=by
 refine aF.pack (d:=d) (((pV fy fZ n).1 f args H0 (some []) h _ hc).post ?_)
 rintro v' H' ⟨H2,h2,e,hk⟩
 cases h2 with
 |again U=>exact ⟨H2,U,e,hk⟩
 |_=>exact hk.elim
end
def b6(n:Nat)(cs:List Value)(off:Nat):Option Value:=if off+n<=cs.length then some (.agg ⟨(cs.drop off).take n⟩) else none
def xf{Z:Type}(f:Z->List Value)(n:Nat)(cs:List Value)(off:Nat)(xs:List Z):Prop:=∀(k:Nat) (x:Z),xs[k]?=some x->(f x).length=n/\(cs.drop (off+k*n)).take n=f x
theorem xf.cell{Z:Type}{f:Z->List Value}{n:Nat}{cs:List Value}{off:Nat}{xs:List Z}(h:xf f n cs off xs){k c:Nat}{x:Z}(hx:xs[k]?=some x){v:Value}(hv:(f x)[c]?=some v):cs[off+k*n+c]?=some v:=by
 obtain ⟨h1,h2⟩:=h k x hx
 have hc:c<n:=by have:=(List.getElem?_eq_some_iff.1 hv).1;omega
 rw[<- h2,List.getElem?_take,if_pos hc,List.getElem?_drop]at hv
 exact hv
theorem xf.agg{Z:Type}{f:Z->List Value}{n:Nat}{cs:List Value}{off:Nat}{xs:List Z}(h:xf f n cs off xs){k c m:Nat}{x:Z}(hx:xs[k]?=some x)(hm:c+m<=n)(h0:0<m):b6 m cs (off+k*n+c)=some (.agg ⟨((f x).drop c).take m⟩):=by
 obtain ⟨h1,h2⟩:=h k x hx
 have hl:(f x).length<=(cs.drop (off+k*n)).length:=by rw[<- h2,List.length_take];omega
 rw[List.length_drop]at hl
 unfold b6
 rw[if_pos (by omega),<- h2,List.drop_take,List.take_take,List.drop_drop,Nat.min_eq_left (by omega)]
end
end Go.K
namespace Go.K
variable {P:Program}
def pY(P:Program):Nat->List Field->Nat->Bool
 |off,[],tot=>off == tot
 |off,f :: fs,tot=>f.offset == off&&pY P (off+P.cellsOf f.type) fs tot
def fo(P:Program):Nat->TypeId->Bool
 |0,_=>false
 |n+1,t=>match P.underlying t with
  |some .bool=>true
  |some (.int _)=>true
  |some .string=>true
  |some (.struct fs)=>fs.toList.all (fun f=>fo P n f.type)&&pY P 0 fs.toList (P.cellsOf t)
  |some (.slice e)=>fo P n e&&decide (0<P.cellsOf e)
  |some (.array k e)=>fo P n e&&decide (0<P.cellsOf e)&&(P.cellsOf t == k*P.cellsOf e)
  |_=>false
def xD(P:Program)(n:Nat)(t:TypeId):Bool:=fo P n t&&match P.underlying t with|some (.array _ _)=>false|_=>true
def fL(g:TypeId->List Value->Prop):List TypeId->List Value->Prop
 | [],cs=>cs=[]
 |t :: ts,cs => ∃c rest,cs=c++rest/\g t c/\fL g ts rest
def Good(P:Program)(H:Heap):Nat->TypeId->List Value->Prop
 |0,_,_=>False
 |n+1,t,cs=>match P.underlying t with
  |some .bool => ∃b,cs=[.bool b]
  |some (.int k) => ∃x,cs=[.int k x]/\k.min<=x/\x<=k.max
  |some .string => ∃s,cs=[.string s]
  |some (.struct fs)=>fL (Good P H n) (fs.toList.map (·.type)) cs
  |some (.slice e)=>cs=[.slice none 0 0]∨cs=[.slice (some ⟨0,0,some 0⟩) 0 0] ∨
    ∃id len cs',cs=[.slice (some ⟨id,0,none⟩) len len]/\H[id]?=some (.cells false 0 cs')/\cs'.length=len*P.cellsOf e/\len<=maxLen/\fL (Good P H n) (List.replicate len e) cs'
  |some (.array k e)=>fL (Good P H n) (List.replicate k e) cs
  |_=>False
theorem fL.mono{g g':TypeId->List Value->Prop}(h:∀t cs,g t cs->g' t cs):∀{ts:List TypeId} {cs:List Value},fL g ts cs->fL g' ts cs
 | [],_,hl=>hl
 |_ :: _,_,⟨c,rest,e,h1,h2⟩=>⟨c,rest,e,h _ _ h1,fL.mono h h2⟩
theorem Good.mono{H K:Heap}:∀{n:Nat} {t:TypeId} {cs:List Value},Good P H n t cs->Good P (H++K) n t cs:=by
 intro n
 induction n with
 |zero=>intro t cs h;exact h
 |succ n ih =>
  intro t cs h
  unfold Good at h ⊢
  split at h
  ·exact h
  ·exact h
  ·exact h
  ·exact fL.mono (fun _ _=>ih) h
  ·rcases h with h|h|⟨id,len,cs',h1,h2,h3,h4,h5⟩
   ·exact .inl h
   ·exact .inr (.inl h)
   ·exact .inr (.inr ⟨id,len,cs',h1,by rw[List.getElem?_append_left (List.getElem?_eq_some_iff.1 h2).1];exact h2,h3,h4,fL.mono (fun _ _=>ih) h5⟩)
  ·exact fL.mono (fun _ _=>ih) h
  ·exact h
structure Ext(P:Program)(B:Nat)(W:World)(J:Ren)(H:Heap)(ρ':Ren)(H':Heap):Prop where
 rel:Rel P B ρ' H' W
 le:Ren.le J ρ'
 pre:∃K,H'=H++K
theorem Ext.refl{B:Nat}{W:World}{J:Ren}{H:Heap}(h:Rel P B J H W):Ext P B W J H J H:=⟨h,Ren.le_refl _,[],by simp⟩
theorem Ext.trans{B:Nat}{W:World}{J ρ1 ρ2:Ren}{H H1 H2:Heap}(h:Ext P B W J H ρ1 H1)(k:Ext P B W ρ1 H1 ρ2 H2):Ext P B W J H ρ2 H2:=by
 obtain ⟨K1,rfl⟩:=h.pre
 obtain ⟨K2,rfl⟩:=k.pre
 exact ⟨k.rel,Ren.le_trans h.le k.le,K1++K2,by simp⟩
theorem Ext.row{B:Nat}{W:World}{J:Ren}{H:Heap}(hr:Rel P B J H W){ri:RI}{cs:List Value}(hown:ri.own=false)(hz:ri.z=0)(hlt:ri.b<W.heap.size)(hb:ri.b<B)
  (ho:∃cs' ty fz,W.heap[ri.b]?=some (.cells cs' ty fz)/\cs'.size=ri.n/\∀(i:Nat) (v:Value),cs[i]?=some v->∃v':Value,cs'[i+ri.s]?=some v'/\VR J v v') :
  Ext P B W J H (J.set H.length ri) (H ++ [.cells false 0 cs]):=by
 have hnone:J H.length=none:=by
  cases h:J H.length with
  |none=>rfl
  |some r=>exact absurd (hr.dom _ _ h) (Nat.lt_irrefl _)
 have hle:=Ren.dH (r:=ri) hnone
 have hget:∀id,id≠H.length->id<H.length+1->(H ++ [aa.cells false 0 cs])[id]?=H[id]? := fun id h1 h2=>List.getElem?_append_left (by omega)
 have hnew:(H ++ [aa.cells false 0 cs])[H.length]?=some (.cells false 0 cs):=by simp
 have hdom:∀id r,J.set H.length ri id=some r->id<H.length+1:=fun id r h=>by
  by_cases e:id=H.length
  ·omega
  ·rw[Ren.aY e]at h;have:=hr.dom _ _ h;omega
 refine ⟨⟨hr.bsize,fun g hg =>?_,fun id r h=>by simpa using hdom id r h,fun id r h =>?_,fun id r o h1 h2 =>?_,fun id r o h1 h2 h3 =>?_,?_,fun b m hm=>⟨(hr.mem b m hm).1,fun id r o h1 h2 h3 =>?_⟩,
   hr.fam.keep hle (fun _ _ _ h=>h) (fun F z cs hF h=>by rw[List.getElem?_append_left hF]at h;exact h) (by simp) (Nat.le_refl _) (fun _ _=>rfl) (fun id r o h1 h2 h3=>by
    by_cases e:id=H.length
    ·subst e;rw[Ren.aZ]at h1;cases h1;exact hr.fam.A6 hb
    ·rw[Ren.aY e]at h1
     rw[hget id e (by have:=hr.dom _ _ h1;omega)]at h2
     exact hr.fam.free h1 h2 h3) (fun b m h=>hr.fam.eA h)⟩,hle,_,rfl⟩
 ·obtain ⟨r,h1,h2,h3⟩:=hr.dJ g hg
  exact ⟨r,hle _ _ h1,h2,h3⟩
 ·by_cases e:id=H.length
  ·subst e;rw[Ren.aZ]at h;cases h;exact hlt
  ·rw[Ren.aY e]at h;exact hr.lt _ _ h
 ·by_cases e:id=H.length
  ·subst e
   rw[Ren.aZ]at h1;cases h1
   rw[hnew]at h2;cases h2
   obtain ⟨cs',ty,fz,g1,g2,g3⟩:=ho
   exact ⟨hown.symm,hz.symm,cs',ty,fz,g1,g2,fun h=>(by cases h),fun i v hv=>let ⟨v',a,b⟩:=g3 i v hv; ⟨v',a,b.mono hle⟩⟩
  ·rw[Ren.aY e]at h1
   rw[hget id e (by have:=hr.dom _ _ h1;omega)]at h2
   exact (hr.obj id r o h1 h2).mono hle rfl
 ·by_cases e:id=H.length
  ·subst e;rw[hnew]at h2;cases h2;cases h3
  ·rw[Ren.aY e]at h1
   rw[hget id e (by have:=hr.dom _ _ h1;omega)]at h2
   exact hr.base id r o h1 h2 h3
 ·intro id id' r r' o o' h1 h1' h2 h2' h3 h3' hne
  by_cases e:id=H.length
  ·subst e;rw[hnew]at h2;cases h2;cases h3
  ·rw[Ren.aY e]at h1
   rw[hget id e (by have:=hr.dom _ _ h1;omega)]at h2
   by_cases e':id'=H.length
   ·subst e'
    rw[Ren.aZ]at h1';cases h1'
    have:=hr.base id r o h1 h2 h3
    omega
   ·rw[Ren.aY e']at h1'
    rw[hget id' e' (by have:=hr.dom _ _ h1';omega)]at h2'
    exact hr.sep id id' r r' o o' h1 h1' h2 h2' h3 h3' hne
 ·by_cases e:id=H.length
  ·subst e;rw[hnew]at h2;cases h2;cases h3
  ·rw[Ren.aY e]at h1
   rw[hget id e (by have:=hr.dom _ _ h1;omega)]at h2
   exact (hr.mem b m hm).2 id r o h1 h2 h3
end Go.K
namespace Go.K
variable {P:Program} {HH:Type} {enc:TypeId×Value->HH} {W:World} {base:Nat} {held:Bool} {B:Nat}
theorem VRl.length{J:Ren}{l l':List Value}(h:VRl J l l'):l.length=l'.length:=h.1
theorem jx{m n:Nat}(IH:∀(t:TypeId) (cs:List Value) (x:DataW HH×List MemPlace) (J:Ren) (H:Heap),fo P n t=true->DataW.trod enc P W base (fun _=>true) held m t cs=some x->Rel P B J H W->∃ρ' H' cs',Ext P B W J H ρ' H'/\VRl ρ' cs' cs/\Good P H' n t cs') :
  ∀(l:List (TypeId×List Value)),(∀p∈l,fo P n p.1=true/\∃x,DataW.trod enc P W base (fun _=>true) held m p.1 p.2=some x)->∀(J:Ren) (H:Heap),Rel P B J H W ->
   ∃ρ' H' cs',Ext P B W J H ρ' H'/\VRl ρ' cs' (l.map (·.2)).flatten/\fL (Good P H' n) (l.map (·.1)) cs':=by
 intro l
 induction l with
 |nil=>intro _ J H hr;exact ⟨J,H,[],Ext.refl hr,.nil J,rfl⟩
 |cons p ps ih =>
  intro hp J H hr
  obtain ⟨h1,x,h2⟩:=hp p (List.mem_cons_self ..)
  obtain ⟨ρ1,H1,c1,e1,v1,g1⟩:=IH p.1 p.2 x J H h1 h2 hr
  obtain ⟨ρ2,H2,c2,e2,v2,g2⟩:=ih (fun q hq=>hp q (List.mem_cons_of_mem _ hq)) ρ1 H1 e1.rel
  refine ⟨ρ2,H2,c1++c2,e1.trans e2,?_,c1,c2,rfl,?_,g2⟩
  ·simp only[List.map_cons,List.flatten_cons]
   exact VRl.append (v1.mono e2.le) v2
  ·obtain ⟨K,rfl⟩:=e2.pre
   exact g1.mono
theorem uF:∀(fs:List Field) (off tot:Nat) (cs:List Value),pY P off fs tot=true->cs.length=tot->off<=tot/\((fs.map (fun f=>(cs.drop f.offset).take (P.cellsOf f.type))).flatten=cs.drop off):=by
 intro fs
 induction fs with
 |nil =>
  intro off tot cs h hl
  simp only[pY,beq_iff_eq]at h
  subst h
  exact ⟨Nat.le_refl _,by rw[<- hl];simp⟩
 |cons f fs ih =>
  intro off tot cs h hl
  simp only[pY,Bool.and_eq_true,beq_iff_eq]at h
  obtain ⟨h1,h2⟩:=h
  obtain ⟨h3,h4⟩:=ih _ _ cs h2 hl
  refine ⟨by omega,?_⟩
  simp only[List.map_cons,List.flatten_cons,h4,h1]
  rw[<- List.drop_drop]
  exact List.take_append_drop ..
theorem oM:∀(n size:Nat),(List.replicate n size).sum=n*size
 |0,size=>by simp
 |n+1,size=>by rw[List.replicate_succ,List.sum_cons,oM n size,Nat.add_mul];omega
theorem flat_get{n size:Nat}{css:Nat->List Value}(hl:∀i,i<n->(css i).length=size)(hs:0<size):∀(j:Nat),j<n*size->((List.range n).map css).flatten[j]?=(css (j / size))[j % size]? := by
 induction n with
 |zero=>intro j hj;omega
 |succ n ih =>
  intro j hj
  rw[List.range_succ,List.map_append,List.flatten_append]
  have hlen:((List.range n).map css).flatten.length=n*size:=by
   rw[List.length_flatten,List.map_map]
   have:(List.range n).map (List.length ∘ css)=List.replicate n size:=by
    rw[List.eq_replicate_iff]
    refine ⟨by simp,fun b hb =>?_⟩
    obtain ⟨i,hi,rfl⟩:=List.mem_map.1 hb
    exact hl i (by have:=List.mem_range.1 hi;omega)
   rw[this];exact oM n size
  rcases Nat.lt_or_ge j (n*size) with h|h
  ·rw[List.getElem?_append_left (by omega)]
   exact ih (fun i hi=>hl i (by omega)) j h
  ·rw[List.getElem?_append_right (by omega),hlen]
   have h1:j / size=n:=by
    rw[Nat.div_eq_of_lt_le h]
    rw[Nat.add_mul]at hj ⊢;omega
   have h2:j % size=j-n*size:=by
    have:=Nat.mod_add_div j size
    rw[h1,Nat.mul_comm]at this;omega
   simp[h1,h2]
theorem bring(hbase:B=W.heap.size):∀(m n:Nat) (t:TypeId) (cs:List Value) (x:DataW HH×List MemPlace) (J:Ren) (H:Heap),fo P n t=true->DataW.trod enc P W base (fun _=>true) held m t cs=some x->Rel P B J H W ->
  ∃ρ' H' cs',Ext P B W J H ρ' H'/\VRl ρ' cs' cs/\Good P H' n t cs':=by
 intro m
 induction m with
 |zero=>intro n t cs x J H _ h;simp[DataW.trod]at h
 |succ m ih =>
  intro n t cs x J H hp h hr
  cases n with
  |zero=>simp[fo]at hp
  |succ n =>
   unfold fo at hp
   split at hp
   ·rename_i hu
    obtain ⟨b,rfl,_⟩:=DataW.trod_bool hu h
    exact ⟨J,H,[.bool b],Ext.refl hr,.cons (.bool b) (.nil J),by simp[Good,hu]⟩
   ·rename_i k hu
    obtain ⟨y,rfl,_,hw⟩:=DataW.trod_int hu h
    refine ⟨J,H,[.int k y],Ext.refl hr,.cons (.int k y) (.nil J),?_⟩
    simp only[Lit.wf,Bool.and_eq_true,decide_eq_true_eq]at hw
    simp[Good,hu,hw]
   ·rename_i hu
    obtain ⟨s,rfl,_⟩:=DataW.trod_string hu h
    exact ⟨J,H,[.string s],Ext.refl hr,.cons (.string s) (.nil J),by simp[Good,hu]⟩
   ·rename_i fs hu
    simp only[Bool.and_eq_true,List.all_eq_true]at hp
    obtain ⟨xs,m',hm,_,hl,hxl,hx⟩:=DataW.trod_struct hu h
    cases hm
    obtain ⟨_,hfl⟩:=uF fs.toList 0 _ cs hp.2 hl
    obtain ⟨ρ',H',cs',e,v,g⟩:=jx (ih n) (fs.toList.map (fun f=>(f.type,(cs.drop f.offset).take (P.cellsOf f.type)))) (fun p hpm=>by
     obtain ⟨f,hf,rfl⟩:=List.mem_map.1 hpm
     refine ⟨hp.1 f hf,?_⟩
     obtain ⟨i,hi⟩:=List.getElem?_of_mem hf
     have hi':fs[i]?=some f:=by simpa using hi
     have hlt:i<xs.length:=by rw[hxl];exact (Array.getElem?_eq_some_iff.1 hi').1
     exact ⟨_,(hx i f hi').trans (List.getElem?_eq_getElem hlt)⟩) J H hr
    refine ⟨ρ',H',cs',e,?_,?_⟩
    ·rw[List.map_map]at v
     rw[List.drop_zero]at hfl
     rw[<- hfl];exact v
    ·rw[List.map_map]at g
     simp only[Good,hu];exact g
   ·rename_i e hu
    simp only[Bool.and_eq_true,decide_eq_true_eq]at hp
    rcases DataW.trod_slice hu h with ⟨rfl,_⟩|⟨a,len,cap,elems,rest,m',hm,rfl,_,hb,hl,hcap,hlen,hel,hrest,_⟩
    ·exact ⟨J,H,[.slice none 0 0],Ext.refl hr,.cons .bL (.nil J),by simp[Good,hu]⟩
    ·cases hm
     rcases Nat.eq_zero_or_pos cap with hc0|BI
     ·subst hc0
      have hl0:len=0:=by omega
      subst hl0
      exact ⟨J,H,[.slice (some ⟨0,0,some 0⟩) 0 0],Ext.refl hr,.cons .cx (.nil J),by simp[Good,hu]⟩
     ·have zX:∃c0,W.cells? base a (P.cellsOf e)=some c0:=by
       rcases Nat.eq_zero_or_pos len with h0|h0
       ·have h1:=(hrest rfl).2 0 (by omega)
        have h2:0<rest.length:=by rw[(hrest rfl).1];omega
        rw[List.getElem?_eq_getElem h2]at h1
        obtain ⟨c0,g1,_⟩:=Option.bind_eq_some_iff.1 h1
        subst h0
        exact ⟨c0,by simpa[Addr.add] using g1⟩
       ·have h1:=hel 0 h0
        rw[List.getElem?_eq_getElem (by omega)]at h1
        obtain ⟨c0,g1,_⟩:=Option.bind_eq_some_iff.1 h1
        exact ⟨c0,by simpa[Addr.add] using g1⟩
      obtain ⟨c0,hc0⟩:=zX
      obtain ⟨_,hc1,hc2⟩:=World.cells?_some hc0
      have hc3:W.cell? a=c0[0]? := by simpa[Addr.add] using hc2 0 hp.2
      rw[List.getElem?_eq_getElem (by omega)]at hc3
      obtain ⟨b,off,spot⟩:=a
      unfold World.cell? at hc3
      simp only at hc3
      split at hc3
      ·rename_i raw ty fz hraw
       cases spot with
       |some q=>simp at hc3
       |none =>
        have hadd:∀p,(⟨b,off,none⟩:Addr).add p=⟨b,off+p,none⟩:=by
         intro p;unfold Addr.add;split
         ·rename_i h0;subst h0;rfl
         ·rfl
        have hcell:∀k,W.cell? ⟨b,k,none⟩=raw[k]? := by intro k;unfold World.cell?;simp[hraw]
        have hbl:b<W.heap.size:=(Array.getElem?_eq_some_iff.1 hraw).1
        obtain ⟨css,ig⟩:∃css:Nat->List Value,∀i,i<len->W.cells? base ⟨b,off+i*P.cellsOf e,none⟩ (P.cellsOf e)=some (css i)/\∃y,DataW.trod enc P W base (fun _=>true) held m e (css i)=some y:=by
         refine ⟨fun i=>(W.cells? base ⟨b,off+i*P.cellsOf e,none⟩ (P.cellsOf e)).getD [],fun i hi =>?_⟩
         have h1:=hel i hi
         rw[hadd,List.getElem?_eq_getElem (by omega)]at h1
         obtain ⟨ci,g1,g2⟩:=Option.bind_eq_some_iff.1 h1
         simp only[g1,Option.getD_some]
         exact ⟨trivial,_,g2⟩
        obtain ⟨ρ1,H1,cs1,e1,v1,g1⟩:=jx (ih n) ((List.range len).map (fun i=>(e,css i))) (fun p hpm=>by
         obtain ⟨i,hi,rfl⟩:=List.mem_map.1 hpm
         exact ⟨hp.1,(ig i (List.mem_range.1 hi)).2⟩) J H hr
        have hmap:((List.range len).map (fun i=>(e,css i))).map (·.1)=List.replicate len e:=by
         rw[List.map_map,List.eq_replicate_iff]
         refine ⟨by simp,fun q hq =>?_⟩
         obtain ⟨i,_,rfl⟩:=List.mem_map.1 hq;rfl
        rw[hmap]at g1
        rw[List.map_map]at v1
        have hcl:∀i,i<len->(css i).length=P.cellsOf e:=fun i hi=>(World.cells?_some (ig i hi).1).2.1
        have A1:((List.range len).map css).flatten.length=len*P.cellsOf e:=by
         rw[List.length_flatten,List.map_map]
         have:(List.range len).map (List.length ∘ css)=List.replicate len (P.cellsOf e):=by
          rw[List.eq_replicate_iff]
          refine ⟨by simp,fun q hq =>?_⟩
          obtain ⟨i,hi,rfl⟩:=List.mem_map.1 hq
          exact hcl i (List.mem_range.1 hi)
         rw[this];exact oM _ _
        have hv1:VRl ρ1 cs1 ((List.range len).map css).flatten:=v1
        have wG:cs1.length=len*P.cellsOf e:=hv1.1.trans A1
        have AY:∀j,j<len*P.cellsOf e->raw[j+off]?=((List.range len).map css).flatten[j]? := by
         intro j hj
         rw[flat_get hcl hp.2 j hj]
         have hdiv:j / P.cellsOf e<len:=(Nat.div_lt_iff_lt_mul hp.2).2 hj
         have hmod:j % P.cellsOf e<P.cellsOf e:=Nat.mod_lt _ hp.2
         have h3:=(World.cells?_some (ig _ hdiv).1).2.2 _ hmod
         have A4:(⟨b,off+j / P.cellsOf e*P.cellsOf e,none⟩:Addr).add (j % P.cellsOf e)=⟨b,j+off,none⟩:=by
          have:=Nat.div_add_mod j (P.cellsOf e)
          rw[Nat.mul_comm]at this
          unfold Addr.add;split
          ·congr 1;omega
          ·simp only;congr 1;omega
         rw[A4,hcell]at h3
         exact h3
        have e2:=Ext.row (B:=B) (W:=W) e1.rel (ri:=⟨b,off,raw.size,0,false⟩) (cs:=cs1) rfl rfl hbl (by rw[hbase];exact hbl) ⟨raw,ty,fz,hraw,rfl,fun i v hv=>by
         have hi:i<len*P.cellsOf e:=by rw[<- wG];exact (List.getElem?_eq_some_iff.1 hv).1
         obtain ⟨v',k1,k2⟩:=hv1.get hv
         exact ⟨v',(AY i hi).trans k1,k2⟩⟩
        refine ⟨_,_,[.slice (some ⟨H1.length,0,none⟩) len len],e1.trans e2,.cons ?_ (.nil _),?_⟩
        ·have:=VR.slice (J:=ρ1.set H1.length ⟨b,off,raw.size,0,false⟩) (id:=H1.length) (o:=0) (len:=len) (cap:=len) (cap':=cap) (Ren.aZ ..) (Nat.le_refl _) hl (fun h=>by cases h)
         simpa using this
        ·simp only[Good,hu]
         refine .inr (.inr ⟨H1.length,len,cs1,rfl,by simp,wG,by omega,fL.mono (fun _ _ h=>h.mono) g1⟩)
      ·simp at hc3
   ·rename_i k e hu
    simp only[Bool.and_eq_true,decide_eq_true_eq,beq_iff_eq]at hp
    obtain ⟨xs,m',hm,_,hl,hxl,hx⟩:=DataW.trod_array hu h
    cases hm
    obtain ⟨ρ',H',cs',x,v,g⟩:=jx (ih n) ((List.range k).map (fun i=>(e,(cs.drop (i*P.cellsOf e)).take (P.cellsOf e)))) (fun p hpm=>by
     obtain ⟨i,hi,rfl⟩:=List.mem_map.1 hpm
     have hi:=List.mem_range.1 hi
     exact ⟨hp.1.1,_,(hx i hi).trans (List.getElem?_eq_getElem (by omega))⟩) J H hr
    have hmap:((List.range k).map (fun i=>(e,(cs.drop (i*P.cellsOf e)).take (P.cellsOf e)))).map (·.1)=List.replicate k e:=by
     rw[List.map_map,List.eq_replicate_iff]
     refine ⟨by simp,fun q hq =>?_⟩
     obtain ⟨i,_,rfl⟩:=List.mem_map.1 hq;rfl
    rw[hmap]at g
    rw[List.map_map]at v
    have sH:∀(j:Nat),j<=k->((List.range j).map (fun i=>(cs.drop (i*P.cellsOf e)).take (P.cellsOf e))).flatten=cs.take (j*P.cellsOf e):=by
     intro j
     induction j with
     |zero=>intro _;simp
     |succ j ihj =>
      intro hj
      rw[List.range_succ,List.map_append,List.flatten_append,ihj (by omega),Nat.succ_mul,List.take_add]
      simp
    have hall:=sH k (Nat.le_refl k)
    rw[<- hp.2,<- hl,List.take_length]at hall
    refine ⟨ρ',H',cs',x,?_,?_⟩
    ·have v':VRl ρ' cs' ((List.range k).map (fun i=>(cs.drop (i*P.cellsOf e)).take (P.cellsOf e))).flatten:=v
     rw[hall]at v';exact v'
    ·simp only[Good,hu];exact g
   ·cases hp
end Go.K
namespace Go.K
open Go Go.RowKit Go.ChangeAt Go.WideShapes
variable {P:Program} {HH:Type} {enc:TypeId×Value->HH}
def eC(P:Program)(H:Heap)(n:Nat)(t:TypeId)(v:Value):Prop :=
 match P.underlying t with
 |some (.struct _) => ∃cs:List Value,v = .agg ⟨cs⟩/\Good P H n t cs
 |_=>Good P H n t [v]
def nk(P:Program)(H:Heap)(n:Nat):List TypeId->List Value->Prop
 | [],[] =>True
 |t :: ts,v :: vs=>eC P H n t v/\nk P H n ts vs
 |_,_=>False
theorem eC.mono{H K:Heap}{n:Nat}{t:TypeId}{v:Value}(h:eC P H n t v):eC P (H++K) n t v:=by
 unfold eC at h ⊢
 split at h
 ·obtain ⟨cs,h1,h2⟩:=h;exact ⟨cs,h1,h2.mono⟩
 ·exact h.mono
theorem rr{W:World}{B b0 m n:Nat}{t:TypeId}{v:Value}{d:DataW HH}{ps:List MemPlace}{held:Bool}{J:Ren}{H:Heap}(hbase:B=W.heap.size)(hp:xD P n t=true)(hok:Value.okWide P W .any b0 t v)
  (h:DataW.Trod enc P W 0 (fun _=>true) held t v d ps) (hr:Rel P B J H W):∃ρ' H' v',Ext P B W J H ρ' H'/\VR ρ' v' v/\eC P H' n t v':=by
 obtain ⟨m,h⟩:=h
 unfold xD at hp
 obtain ⟨hp,hna⟩:=(Bool.and_eq_true _ _ ▸ hp:_/\_)
 obtain ⟨ρ',H',cs',e,hv,g⟩:=bring hbase m n t _ _ J H hp h hr
 have single:(∀fs,P.underlying t≠some (.struct fs))->(v.cells = #[v])->∃ρ' H' v',Ext P B W J H ρ' H'/\VR ρ' v' v/\eC P H' n t v':=by
  intro hns hc
  rw[hc]at hv
  have hl:cs'.length=1:=hv.1
  obtain ⟨v',rfl⟩:=List.length_eq_one_iff.1 hl
  refine ⟨ρ',H',v',e,hv.2 0 v' v rfl rfl,?_⟩
  unfold eC
  split
  ·rename_i fs hu;exact absurd hu (hns fs)
  ·exact g
 cases n with
 |zero=>simp[fo]at hp
 |succ n =>
  unfold fo at hp
  split at hp
  ·rename_i hu
   refine single (fun fs h=>by rw[hu]at h;cases h) ?_
   cases v <;> simp[Value.okWide,Cell.okWide,Cell.ok,hu]at hok <;> rfl
  ·rename_i k hu
   refine single (fun fs h=>by rw[hu]at h;cases h) ?_
   cases v <;> simp[Value.okWide,Cell.okWide,Cell.ok,hu]at hok <;> rfl
  ·rename_i hu
   refine single (fun fs h=>by rw[hu]at h;cases h) ?_
   cases v <;> simp[Value.okWide,Cell.okWide,Cell.ok,hu]at hok <;> rfl
  ·rename_i fs hu
   simp only[Value.okWide,hu]at hok
   obtain ⟨cs,rfl,_,_⟩:=hok
   refine ⟨ρ',H',.agg ⟨cs'⟩,e,.agg (by have:=hv.1;simpa[Value.cells] using this) (fun i a b x y=>hv.2 i a b (by simpa using x) (by simpa[Value.cells] using y)),?_⟩
   simp only[eC,hu]
   exact ⟨cs',rfl,g⟩
  ·rename_i e' hu
   refine single (fun fs h=>by rw[hu]at h;cases h) ?_
   cases v <;> simp[Value.okWide,Cell.okWide,Cell.ok,hu]at hok <;> rfl
  ·rename_i k e' hu
   rw[hu]at hna;cases hna
  ·cases hp
theorem sS{W:World}{B b0 n:Nat}{held:Bool}(hbase:B=W.heap.size):∀(ts:List TypeId) (vs:List Value) (ds:List (DataW HH)) (ps:List MemPlace) (J:Ren) (H:Heap),ts.all (xD P n)=true ->
  (∀(j:Nat) (t:TypeId) (v:Value),ts[j]?=some t->vs[j]?=some v->Value.okWide P W .any b0 t v)->DataW.TrodAll enc P W 0 (fun _=>true) held ts vs ds ps->Rel P B J H W ->
   ∃ρ' H' vs',Ext P B W J H ρ' H'/\VRl ρ' vs' vs/\nk P H' n ts vs':=by
 intro ts
 induction ts with
 |nil =>
  intro vs ds ps J H _ _ h hr
  obtain ⟨rfl,_,_⟩:=Go.ChangeShapes.trodAll_nil h
  exact ⟨J,H,[],Ext.refl hr,.nil J,trivial⟩
 |cons t ts ih =>
  intro vs ds ps J H hp hok h hr
  obtain ⟨v,vs1,d,ds1,p,q,rfl,rfl,rfl,h1,h2⟩:=Go.ChangeShapes.trodAll_cons h
  simp only[List.all_cons,Bool.and_eq_true]at hp
  obtain ⟨ρ1,H1,v1,e1,r1,g1⟩:=rr (m:=0) hbase hp.1 (hok 0 t v rfl rfl) h1 hr
  obtain ⟨ρ2,H2,vs2,e2,r2,g2⟩:=ih vs1 ds1 q ρ1 H1 hp.2 (fun j a b x y=>hok (j+1) a b x y) h2 e1.rel
  refine ⟨ρ2,H2,v1 :: vs2,e1.trans e2,.cons (r1.mono e2.le) r2,?_,g2⟩
  obtain ⟨K,rfl⟩:=e2.pre
  exact g1.mono
theorem u3{N n b0:Nat}{ts:List TypeId}{args:Array Value}{W:World}{ds:List (DataW HH)}{ps:List MemPlace}{held:Bool}(hG:P.globals.size<=W.heap.size)(hplain:ts.all (xD P n)=true)
  (hok:∀(j:Nat) (t:TypeId) (v:Value),ts[j]?=some t->args.toList[j]?=some v->Value.okWide P W .any b0 t v) (h:DataW.TrodAll enc P W 0 (fun _=>true) held ts args.toList ds ps)
  (BB:∀(H:Heap) (vs:List Value),nk P H n ts vs->aF P N vs H [] (fun v _=>v = .bool true)) :
  Calls P N args W fun e W'=>e = .returned (.bool true)/\RowKit.Below W.heap.size W W':=by
 have hr:Rel P W.heap.size ⟨fun g=>if g<P.globals.size then some ⟨g,0,0,0,false⟩ else none,fun _=>none,fun _ _=>none⟩ (List.replicate P.globals.size .dead) W:=by
  have fR:∀(id:Nat) (o:aa),(List.replicate P.globals.size aa.dead)[id]?=some o->o = .dead:=fun id o ho=>by
   rw[List.getElem?_replicate]at ho
   split at ho
   ·cases ho;rfl
   ·cases ho
  refine ⟨Nat.le_refl _,fun g hg=>⟨_,if_pos hg,rfl,rfl⟩,fun id r h1 =>?_,fun id r h1 =>?_,fun id r o h1 h2 =>?_,fun id r o h1 h2 h3 =>?_,fun id id' r r' o o' h1 h1' h2 h2' h3 _ _ =>?_,fun b m hm=>(by cases hm),gX.qq (fun _ _ _ h=>by cases h) (fun _ _ _ h=>by cases h) (fun F z cs h=>by have:=fR F _ h;cases this)⟩
  ·dsimp only at h1
   split at h1
   ·simpa using ‹id<_›
   ·cases h1
  ·dsimp only at h1
   split at h1
   ·cases h1;exact Nat.lt_of_lt_of_le ‹id<_› hG
   ·cases h1
  ·rw[fR id o h2];trivial
  ·rw[fR id o h2]at h3;cases h3
  ·rw[fR id o h2]at h3;cases h3
 obtain ⟨ρ',H',vs',e,hv,g⟩:=sS rfl ts args.toList ds ps _ _ hplain hok h hr
 refine callsIn_wide.1 (((BB H' vs' g).2 _ ρ' W args e.rel hv).mono ?_)
 rintro en w' ⟨v,v',ρ2,H2,rfl,h1,h2,rfl⟩
 cases h1
 exact ⟨rfl,h2.below e.rel⟩
theorem nm{W W':World}{sp:Nat->Bool}{T:TypeId->Prop}(K:Kids P T)(hsz:∀{t e:TypeId},T t->P.underlying t=some (.slice e)->0<P.cellsOf e) :
  ∀(ts:List TypeId) (vs:List Value) (ds:List (DataW HH)) (ps:List MemPlace),(∀t∈ts,T t)->DataW.TrodAll enc P W 0 (fun _=>true) true ts vs ds ps->(∀p∈ps,W.sameAt W' p)->(∀p∈ps,sp p.block=true) ->
   DataW.TrodAll enc P W' 0 sp true ts vs ds ps:=by
 intro ts
 induction ts with
 |nil=>intro vs ds ps _ h _ _;obtain ⟨rfl,rfl,rfl⟩:=Go.ChangeShapes.trodAll_nil h;exact rfl
 |cons t ts ih =>
  intro vs ds ps hT h hs hp
  obtain ⟨v,vs1,d,ds1,p,q,rfl,rfl,rfl,⟨n,h1⟩,h2⟩:=Go.ChangeShapes.trodAll_cons h
  refine ⟨p,q,⟨n,DataW.trod_stays K hsz (fun h=>by cases h) (hT t (List.mem_cons_self ..)) h1 (fun x hx=>hs x (List.mem_append_left _ hx)) (fun x hx=>hp x (List.mem_append_left _ hx))⟩,?_,rfl⟩
  exact ih vs1 ds1 q (fun t ht=>hT t (List.mem_cons_of_mem _ ht)) h2 (fun x hx=>hs x (List.mem_append_right _ hx)) (fun x hx=>hp x (List.mem_append_right _ hx))
def hJ(P:Program):Bool:=(List.range P.types.size).all fun t=>match P.underlying t with|some (.slice e)=>decide (0<P.cellsOf e)|_=>true
theorem kj(h:hJ P=true):∀{t e:TypeId},t<P.types.size->P.underlying t=some (.slice e)->0<P.cellsOf e:=by
 intro t e ht hu
 unfold hJ at h
 rw[List.all_eq_true]at h
 have:=h t (List.mem_range.2 ht)
 rw[hu]at this
 simpa using this
theorem nr{f:Func}{s:ChangeSpec}{apart fresh handsOn again:Bool}{W W':World}{args:Array Value}{ds gs:List (DataW HH)}{before:List MemPlace}{tb:TypeId}{T:TypeId->Prop}
  (K:Kids P T) (hsz:∀{t e:TypeId},T t->P.underlying t=some (.slice e)->0<P.cellsOf e) (hT:∀t∈f.params.toList,T t)
  (hW:DataW.Whole enc P f.params.toList s.vars apart W args.toList ds gs before) (hvars:s.vars=[]) (hb:RowKit.Below W.heap.size W W') (hrt:f.resultTypes = #[tb]) (htb:P.underlying tb=some .bool)
  (hs:s.fn HH ds = { results:=[.lit (.bool true)],args:=ds }):s.post enc P f apart fresh handsOn again W args (.bool true) W':=by
 have hlt:=hW.lt
 have hW':=hW
 obtain ⟨p,q,hA,hV,rfl,hz,hn⟩:=hW
 rw[hvars]at hV
 obtain ⟨rfl,rfl⟩:=Go.ChangeShapes.trodVars_none hV
 have hA':∀sp:Nat->Bool,(∀x∈p,sp x.block=true)->DataW.TrodAll enc P W' 0 sp true f.params.toList args.toList ds p:=fun sp hsp =>
  nm K hsz _ _ _ _ hT hA (fun x hx=>hb.same (hlt x (by simpa using hx))) hsp
 have hres:∀(b:Nat) (sp:Nat->Bool) (hd:Bool),DataW.TrodAll enc P W' b sp hd f.resultTypes.toList ((Value.bool true).resultList f.resultTypes.size) [.lit (.bool true)] []:=by
  intro b sp hd
  rw[hrt]
  exact trodAll_cons_mk (Go.RowKit.shut_bool htb true) Go.ChangeShapes.trodAll_mk0
 have hs':s.fn HH (ds ++ []) = { results:=[.lit (.bool true)],args:=ds }:=by simpa using hs
 refine ⟨ds,[],p ++ [],[],p,[],hW',?_,?_,?_,?_,fun _ =>?_⟩
 ·rw[hs'];exact hres _ _ _
 ·rw[hs'];exact hA' _ (fun x hx=>by simpa using hlt x (by simpa using hx))
 ·rw[hs',hvars];rfl
 ·exact World.keptBut_mono (fun x hx=>⟨by simpa using hx,.inr (by simpa using hx)⟩) (hb.frame (· ∈ p))
 ·refine ⟨Go.RowKit.ok_one hrt rfl (Go.RowKit.okWide_bool_mk htb true),_,[],([]++p) ++ [],⟨[]++p,[],Go.ChangeShapes.trodAll_append (hA' _ (fun _ _=>rfl)) (hres _ _ _),by rw[hvars];rfl,rfl,?_,?_⟩,?_⟩
  ·intro b off hx
   have hx':MemPlace.cell b off∈p:=by simpa using hx
   rw[hb.frozen (p:=⟨b,off,none⟩) (hlt (.cell b off) (by simpa using hx'))]
   exact hz b off (by simpa using hx')
  ·intro ha
   have:=hn ha
   simpa using this
  ·intro x hx _
   simpa using hx
end Go.K
namespace Go.K
noncomputable section
variable {P:Program}
def lj(P:Program):Nat->TypeId->Option Nat
 |0,_=>none
 |n+1,t=>match P.underlying t with
  |some (.int .i64)=>some 1
  |some (.struct fs)=>fs.toList.foldr (fun f r=>match lj P n f.type,r with|some a,some b=>some (a+b)|_,_=>none) (some 0)
  |_=>none
def inI(x:Int):Prop:=-9223372036854775808<=x/\x<=9223372036854775807
theorem jq{H:Heap}:∀(n:Nat) (t:TypeId) (k:Nat) (cs:List Value),lj P n t=some k->Good P H n t cs->∃ns:List Int,cs=ns.map (.int .i64)/\ns.length=k/\∀x∈ns,inI x:=by
 intro n
 induction n with
 |zero=>intro t k cs h;cases h
 |succ n ih =>
  intro t k cs h g
  unfold lj at h
  unfold Good at g
  cases hu:P.underlying t with
  |none=>rw[hu]at h;cases h
  |some d =>
   rw[hu]at h g
   cases d <;> try (cases h;done)
   ·rename_i ik
    cases ik <;> try (cases h;done)
    cases h
    obtain ⟨x,rfl,h1,h2⟩:=g
    refine ⟨[x],rfl,rfl,fun y hy =>?_⟩
    rw[List.mem_singleton]at hy;subst hy
    simp only[IntKind.min,IntKind.max,IntKind.signed,IntKind.bits]at h1 h2
    unfold inI
    simp at h1 h2
    omega
   ·rename_i fs
    simp only at h g
    have key:∀(fs:List Field) (k:Nat) (cs:List Value),fs.foldr (fun f r=>match lj P n f.type,r with|some a,some b=>some (a+b)|_,_=>none) (some 0)=some k ->
      fL (Good P H n) (fs.map (·.type)) cs->∃ns:List Int,cs=ns.map (.int .i64)/\ns.length=k/\∀x∈ns,inI x:=by
     intro fs
     induction fs with
     |nil=>intro k cs h g;cases h;exact ⟨[],g,rfl,fun _ h=>by cases h⟩
     |cons f fs ihf =>
      intro k cs h g
      rw[List.foldr_cons]at h
      obtain ⟨c,rest,rfl,g1,g2⟩:=g
      cases ha:lj P n f.type with
      |none=>rw[ha]at h;cases h
      |some a =>
       cases hb:fs.foldr (fun f r=>match lj P n f.type,r with|some a,some b=>some (a+b)|_,_=>none) (some 0) with
       |none=>rw[ha,hb]at h;cases h
       |some b =>
        rw[ha,hb]at h
        cases h
        obtain ⟨n1,rfl,l1,m1⟩:=ih _ _ _ ha g1
        obtain ⟨n2,rfl,l2,m2⟩:=ihf _ _ hb g2
        exact ⟨n1++n2,by simp,by simp[l1,l2],fun x hx=>by rcases List.mem_append.1 hx with h|h;exact m1 x h;exact m2 x h⟩
    exact key _ _ _ h g
theorem mV{Z:Type}{g:TypeId->List Value->Prop}{t:TypeId}{f:Z->List Value}{q:Z->Prop}(h:∀c,g t c->∃x:Z,c=f x/\q x):∀(n:Nat) (cs:List Value),fL g (List.replicate n t) cs->∃xs:List Z,xs.length=n/\cs=xs.flatMap f/\∀x∈xs,q x
 |0,cs,hg=>⟨[],rfl,hg,fun _ h=>by cases h⟩
 |n+1,cs,hg=>by
  obtain ⟨c,rest,rfl,h1,h2⟩:=hg
  obtain ⟨x,rfl,hx⟩:=h c h1
  obtain ⟨xs,e1,rfl,e3⟩:=mV h n rest h2
  exact ⟨x :: xs,by simp[e1],by simp,fun y hy=>by rcases List.mem_cons.1 hy with rfl|hy;exact hx;exact e3 y hy⟩
theorem oO{Z:Type}{f:Z->List Value}{n:Nat}(hf:∀x,(f x).length=n):∀(xs:List Z),xf f n (xs.flatMap f) 0 xs:=by
 intro xs k x hx
 refine ⟨hf x,?_⟩
 have key:∀(xs:List Z) (k:Nat),xs[k]?=some x->(List.drop (k*n) (xs.flatMap f)).take n=f x:=by
  intro xs
  induction xs with
  |nil=>intro k h;simp at h
  |cons y ys ih =>
   intro k h
   cases k with
   |zero=>simp at h;subst h;simp[<- hf y]
   |succ k =>
    simp at h
    rw[List.flatMap_cons,Nat.succ_mul,Nat.add_comm,<- List.drop_drop,<- hf y,List.drop_left]
    rw[hf y]
    exact ih k h
 rw[Nat.zero_add];exact key xs k hx
theorem fA{H:Heap}{n:Nat}{t:TypeId}{ts:List TypeId}{vs:List Value}(h:nk P H n (t :: ts) vs):∃v vs',vs=v :: vs'/\eC P H n t v/\nk P H n ts vs':=by
 cases vs with
 |nil=>exact h.elim
 |cons v vs=>exact ⟨v,vs,rfl,h.1,h.2⟩
theorem vl{H:Heap}{n:Nat}{vs:List Value}(h:nk P H n [] vs):vs=[]:=by
 cases vs with
 |nil=>rfl
 |cons v vs=>exact h.elim
theorem vQ{J ρ':Ren}{U:Nat->Option Nat}(hσ:∀id id' r,U id=some id'->ρ' id'=some r->∃r',J id=some r'/\r'.b=r.b/\r'.s=r.s/\r'.own=false)(hm:∀b m,ρ'.mem b=some m->J.mem b=some m)(hg:∀F F' k r,U F=some F'->ρ'.g F' k=some r->J.g F k=some r):∀(d:Nat) {v r:Value},VR ρ' (rn U d v) r->VR J v r:=by
 intro d
 induction d with
 |zero=>intro v r h;exact (VR.bad h).elim
 |succ d ih =>
  have ptr:∀{id id' off:Nat} {r:RI},U id=some id'->ρ' id'=some r->VR J (.pointer (some ⟨id,off,none⟩)) (.pointer (some ⟨r.b,off+r.s,none⟩)):=by
   intro id id' off r g k
   obtain ⟨r',a1,a2,a3,_⟩:=hσ _ _ _ g k
   rw[<- a2,<- a3];exact .ptr a1
  have slc:∀{id id' off len cap cap':Nat} {r:RI},U id=some id'->ρ' id'=some r->len<=cap->cap<=cap'->VR J (.slice (some ⟨id,off,none⟩) len cap) (.slice (some ⟨r.b,off+r.s,none⟩) len cap'):=by
   intro id id' off len cap cap' r g k hl hc
   obtain ⟨r',a1,a2,a3,a4⟩:=hσ _ _ _ g k
   rw[<- a2,<- a3];exact .slice a1 hl hc (fun h=>by rw[a4]at h;cases h)
  have slQ:∀{id id' off len cap cap':Nat} {r:RI},U id=some id'->ρ' id'=some r->0<len->len<=cap->cap<=cap'->VR J (.slice (some ⟨id,off,some 1⟩) len cap) (.slice (some ⟨r.b,off+r.s,none⟩) len cap'):=by
   intro id id' off len cap cap' r g k hp hl hc
   obtain ⟨r',a1,a2,a3,a4⟩:=hσ _ _ _ g k
   rw[<- a2,<- a3];exact .bK a1 hp hl hc (fun h=>by rw[a4]at h;cases h)
  have slR:∀{id id' off len cap cap':Nat} {r:RI},U id=some id'->ρ' id'=some r->0<len->len<=cap->cap<=cap'->VR J (.slice (some ⟨id,off,some 2⟩) len cap) (.slice (some ⟨r.b,off+r.s,none⟩) len cap'):=by
   intro id id' off len cap cap' r g k hp hl hc
   obtain ⟨r',a1,a2,a3,a4⟩:=hσ _ _ _ g k
   rw[<- a2,<- a3];exact .bS a1 hp hl hc (fun h=>by rw[a4]at h;cases h)
  intro v r h
  unfold rn at h
  split at h
  ·split at h
   ·rename_i g;cases h with|ptr k=>exact ptr g k
   ·exact (VR.bad h).elim
  ·split at h
   ·rename_i g;cases h with|eG k=>exact .eG (hg _ _ _ _ g k)
   ·exact (VR.bad h).elim
  ·split at h
   ·rename_i g
    cases h with
    |slice k hl hc ho=>exact slc g k hl hc
    |bN k=>obtain ⟨r',a1,a2,a3,_⟩:=hσ _ _ _ g k;rw[<- a2];exact .bN a1
   ·exact (VR.bad h).elim
  ·split at h
   ·rename_i g
    cases h with
    |bl=>exact .bl
    |bk=>exact .bk
    |bK k hp hl hc ho=>exact slQ g k hp hl hc
    |bi=>exact .bi
    |bS k hp hl hc ho=>exact slR g k hp hl hc
   ·split at h
    ·cases h with
     |bl=>exact .bl
     |bk=>exact .bk
     |bK k hp hl hc ho=>exact absurd hp (Nat.lt_irrefl 0)
     |bi=>exact .bi
     |bS k hp hl hc ho=>exact absurd hp (Nat.lt_irrefl 0)
    ·exact (VR.bad h).elim
  ·split at h
   ·rename_i g;cases h with|map k=>obtain ⟨r',a1,a2,_⟩:=hσ _ _ _ g k;rw[<- a2];exact .map a1
   ·exact (VR.bad h).elim
  ·split at h
   ·rename_i g;cases h with|yield k=>obtain ⟨r',a1,a2,_⟩:=hσ _ _ _ g k;rw[<- a2];exact .yield a1
   ·exact (VR.bad h).elim
  ·cases h with
   |func h1 h2 h3 h4 =>
    obtain ⟨a1,a2⟩:=fU ih h1 h2
    obtain ⟨b1,b2⟩:=fU ih h3 h4
    exact .func a1 a2 b1 b2
  ·exact (VR.bad h).elim
  ·cases h with|agg h1 h2=>obtain ⟨a1,a2⟩:=fU ih h1 h2;exact .agg a1 a2
  ·cases h with|tuple h1 h2=>obtain ⟨a1,a2⟩:=fU ih h1 h2;exact .tuple a1 a2
  ·cases h with
   |deep g1 g2 g3 g4 g5=>obtain ⟨a1,a2⟩:=j8 ih g4 g5;exact .deep (hm _ _ g1) g2 g3 a1 a2
   |cE=>exact .cE
  ·cases h with|cN g1 g2 g3=>obtain ⟨a1,a2⟩:=j8 ih g2 g3;exact .cN (hm _ _ g1) a1 a2
  ·split at h
   ·rename_i g
    cases h with
    |fsl k hp hc hs ho=>exact .fsl (hg _ _ _ _ g k) hp hc hs ho
    |dc=>exact .dc
   ·split at h
    ·cases h with|dc=>exact .dc
    ·exact (VR.bad h).elim
  ·rename_i n1 n1f n2 n2q n3 n4 n5 n6 n7 n8 n9 n10 n11
   cases h with
   |junk=>exact .junk _
   |bool b=>exact .bool b
   |int k n=>exact .int k n
   |float k n=>exact .float k n
   |string s=>exact .string s
   |cQ=>exact .cQ
   |ptr k=>exact absurd rfl (n1 _ _)
   |eG k=>exact absurd rfl (n1f _ _ _)
   |bL=>exact .bL
   |slice k hl hc ho=>exact absurd rfl (n2 _ _ _ _)
   |bN k=>exact absurd rfl (n2 _ _ _ _)
   |cx=>exact .cx
   |bl=>exact .bl
   |bk=>exact .bk
   |bK=>exact absurd rfl (n2q _ _ _ _ _)
   |bi=>exact .bi
   |bS=>exact absurd rfl (n2q _ _ _ _ _)
   |cS=>exact .cS
   |map k=>exact absurd rfl (n3 _)
   |nilFunc=>exact .nilFunc
   |nilIface=>exact .nilIface
   |func h1 h2 h3 h4=>exact absurd rfl (n5 _ _ _)
   |yield k=>exact absurd rfl (n4 _)
   |agg h1 h2=>exact absurd rfl (n7 _)
   |tuple h1 h2=>exact absurd rfl (n8 _)
   |deep=>exact absurd rfl (n9 _ _)
   |cE=>exact absurd rfl (n9 _ _)
   |fsl=>exact absurd rfl (n11 _ _ _ _)
   |dc=>exact .dc
   |cN=>exact absurd rfl (n10 _ _)
def da(V id:Nat):Option Nat:=if id<V then none else some id
def eF(V n id:Nat):Option Nat:=if id<V then none else some (n+(id-V))
structure Reads(P:Program)(H0 H:Heap)(U:Nat->Option Nat)(d:Nat):Prop where
 dJ:∀g,g<P.globals.size->U g=some g
 dom:∀id id',U id=some id'->id<H0.length
 len:P.globals.size<=H0.length
 obj:∀(id:Nat) (o:aa),H0[id]?=some o->o = .dead∨∃cs,o = .cells false 0 cs
 rd:∀(id id':Nat) (cs:List Value),U id=some id'->H0[id]?=some (.cells false 0 cs)->∃own z D,H[id']?=some (.cells own z (cs.map (rn U d)++D))
theorem aF.reads{f:FuncId}{args:List Value}{H0 H new:Heap}{v:Value}{U:Nat->Option Nat}{d:Nat}(hp:Reads P H0 H U d)(h:aF P f args H0 [] (Is v (H0++new)))
  (hv:dr d v=true) (hv2:rn (da H0.length) d v=v) (hn:new.all (fun o=>dW d o&&o.owned)=true) (hn2:new.map (rno (da H0.length) d)=new) :
  aF P f (args.map (rn U d)) H [] (Is (rn (eF H0.length H.length) d v) (H++new.map (rno (eF H0.length H.length) d))):=by
 refine ⟨h.1,fun B J w args' hr ha =>?_⟩
 let ρs:Ren:=⟨fun id=>(U id).bind fun id'=>(J id').map fun r=>⟨r.b,r.s,r.n,0,false⟩,J.mem,fun F k=>(U F).bind fun F'=>J.g F' k⟩
 have hσ:∀id id' r,U id=some id'->J id'=some r->ρs id=some ⟨r.b,r.s,r.n,0,false⟩:=by
  intro id id' r h1 h2;show Option.bind _ _=_;rw[h1];show Option.map _ _=_;rw[h2];rfl
 have hσd:∀id id' r,U id=some id'->J id'=some r->∃r',ρs id=some r'/\r'.b=r.b/\r'.s=r.s/\r'.own=false:=fun id id' r h1 h2=>⟨_,hσ _ _ _ h1 h2,rfl,rfl,rfl⟩
 have hσg:∀F F' k r,U F=some F'->J.g F' k=some r->ρs.g F k=some r:=by intro F F' k r h1 h2;show Option.bind _ _=_;rw[h1];exact h2
 have ew:∀{F k r},ρs.g F k=some r->∃F',U F=some F'/\J.g F' k=some r:=fun h=>Option.bind_eq_some_iff.1 h
 have wz:∀{F:Nat} {z:Nat} {cs:List Value},H0[F]?=some (.fam z cs)->False:=fun {F z cs} mh=>by
  rcases hp.obj F _ mh with h|⟨_,h⟩ <;> cases h
 have hnf:∀{F k r z cs},FM ρs H0 F k r z cs->False:=fun m=>wz m.h
 have hsome:∀{id r},ρs id=some r->∃id' r0,U id=some id'/\J id'=some r0/\r=⟨r0.b,r0.s,r0.n,0,false⟩:=by
  intro id r h
  obtain ⟨id',h1,h2⟩:=Option.bind_eq_some_iff.1 h
  obtain ⟨r0,h3,h4⟩:=bv h2
  exact ⟨id',r0,h1,h3,h4.symm⟩
 have pB:∀(id:Nat) (o:aa),H0[id]?=some o->o.owned=true->False:=by
  intro id o h1 h2
  rcases hp.obj id o h1 with rfl|⟨cs,rfl⟩ <;> cases h2
 have hr0:Rel P B ρs H0 w:=by
  refine ⟨hr.bsize,fun g hg =>?_,fun id r h =>?_,fun id r h =>?_,fun id r o h1 h2 =>?_,fun id r o h1 h2 h3=>(pB id o h2 h3).elim,fun id1 id2 r1 r2 o1 o2 h1 h2 g1 g2 k1 k2 hne=>(pB id1 o1 g1 k1).elim,fun b m hb=>⟨(hr.mem b m hb).1,fun id r o h1 h2 h3=>(pB id o h2 h3).elim⟩,
   ⟨fun F k r h=>by obtain ⟨F',k1,_⟩:=ew h;exact hp.dom _ _ k1,fun F k r h=>by obtain ⟨F',_,k2⟩:=ew h;exact hr.fam.lt _ _ _ k2,fun _ _ _ _ _ m=>(hnf m).elim,fun _ _ _ _ _ m=>(hnf m).elim,fun _ _ _ _ _ _ _ _ _ _ m=>(hnf m).elim,fun _ _ _ _ _ _ _ _ m=>(hnf m).elim,fun _ _ _ _ _ _ _ m=>(hnf m).elim,fun _ _ _ _ _ h=>(wz h).elim⟩⟩
  ·obtain ⟨r,k1,k2,k3⟩:=hr.dJ g hg;exact ⟨_,hσ g g r (hp.dJ g hg) k1,k2,k3⟩
  ·obtain ⟨id',r0,h1,_,_⟩:=hsome h;exact hp.dom _ _ h1
  ·obtain ⟨id',r0,_,h2,rfl⟩:=hsome h;exact hr.lt id' r0 h2
  ·obtain ⟨id',r0,k1,k2,rfl⟩:=hsome h1
   rcases hp.obj id o h2 with rfl|⟨cs,rfl⟩
   ·trivial
   ·obtain ⟨own,z,D,g⟩:=hp.rd id id' cs k1 h2
    obtain ⟨e1,e2,cs',ty,fz,hb,hnz,hfz,hcs⟩:=hr.obj _ _ _ k2 g
    refine ⟨rfl,rfl,cs',ty,fz,hb,hnz,fun h=>(by cases h),fun i x hx =>?_⟩
    obtain ⟨x',y1,y2⟩:=hcs i (rn U d x) (by rw[List.getElem?_append_left (by rw[List.length_map];exact (List.getElem?_eq_some_iff.1 hx).1),List.getElem?_map,hx];rfl)
    exact ⟨x',y1,vQ hσd (fun _ _ h=>h) hσg d y2⟩
 have ha0:VRl ρs args args'.toList:=⟨by have:=ha.1;simpa using this,fun i x x' a b=>vQ hσd (fun _ _ h=>h) hσg d (ha.2 i (rn U d x) x' (by rw[List.getElem?_map,a];rfl) b)⟩
 refine (h.2 B ρs w args' hr0 ha0).mono ?_
 rintro e w' ⟨v1,v',ρ1,H1,rfl,hv',hpost,rfl,rfl⟩
 have mT:∀b,¬ OB ρs H0 b:=fun b h=>h.elim (fun ⟨id,r,o,_,h2,h3,_⟩=>pB id o h2 h3) (fun ⟨_,_,_,_,_,m,_⟩=>hnf m)
 let ρ2:Ren:=⟨fun id=>if id<H.length then J id else ρ1 (H0.length+(id-H.length)),ρ1.mem,fun F k=>if F<H.length then J.g F k else ρ1.g (H0.length+(F-H.length)) k⟩
 let ρn:Ren:=⟨fun id=>if id<H0.length then none else ρ1 id,ρ1.mem,fun F k=>if F<H0.length then none else ρ1.g F k⟩
 have hn1:∀id id' r,da H0.length id=some id'->ρ1 id'=some r->ρn id=some r:=by
  intro id id' r h1 h2
  unfold da at h1
  split at h1
  ·cases h1
  ·rename_i hlt;cases h1;show (if _ then _ else _)=_;rw[if_neg hlt];exact h2
 have AZ:∀F F' k r,da H0.length F=some F'->ρ1.g F' k=some r->ρn.g F k=some r:=by
  intro F F' k r h1 h2
  unfold da at h1
  split at h1
  ·cases h1
  ·rename_i hlt;cases h1;show (if _ then _ else _)=_;rw[if_neg hlt];exact h2
 have qR:∀F k r,ρn.g F k=some r->∃F',eF H0.length H.length F=some F'/\ρ2.g F' k=some r:=by
  intro F k r h1
  have h1':(if F<H0.length then none else ρ1.g F k)=some r:=h1
  split at h1'
  ·cases h1'
  ·rename_i hlt
   refine ⟨_,if_neg hlt,?_⟩
   show (if _ then _ else _)=_
   rw[if_neg (by omega),show H0.length+(H.length+(F-H0.length)-H.length)=F by omega];exact h1'
 have wD:∀id r,ρn id=some r->∃id',eF H0.length H.length id=some id'/\ρ2 id'=some r:=by
  intro id r h1
  have h1':(if id<H0.length then none else ρ1 id)=some r:=h1
  split at h1'
  ·cases h1'
  ·rename_i hlt
   refine ⟨_,if_neg hlt,?_⟩
   show (if _ then _ else _)=_
   rw[if_neg (by omega),show H0.length+(H.length+(id-H0.length)-H.length)=id by omega];exact h1'
 have hext:Ren.le J ρ2:=⟨fun id r h1=>by
  show (if _ then _ else _)=_
  rw[if_pos (hr.dom _ _ h1)];exact h1,hpost.ext.mem,fun F k r h1=>by
  show (if _ then _ else _)=_
  rw[if_pos (hr.fam.dom _ _ _ h1)];exact h1⟩
 have hnew:∀(k:Nat) (o:aa),new[k]?=some o->dW d o=true/\o.owned=true/\rno (da H0.length) d o=o:=by
  intro k o hk
  rw[List.all_eq_true]at hn
  have:=hn o (List.mem_of_getElem? hk)
  simp only[Bool.and_eq_true]at this
  refine ⟨this.1,this.2,?_⟩
  have h3:(new.map (rno (da H0.length) d))[k]?=some o:=by rw[hn2];exact hk
  rw[List.getElem?_map,hk]at h3
  exact Option.some.inj h3
 have hfresh:∀id r o,H0.length<=id->ρ1 id=some r->(H0++new)[id]?=some o->w.heap.size<=r.b:=by
  intro id r o hid h1 h2
  have ho:o.owned=true:=by rw[List.getElem?_append_right hid]at h2;exact (hnew _ _ h2).2.1
  rcases Nat.lt_or_ge r.b w.heap.size with hlt|hge
  ·exact absurd (hpost.ob r.b hlt (.inl ⟨id,r,o,h1,h2,ho,rfl⟩)) (mT _)
  ·exact hge
 have eV:∀id o',H.length<=id->(H++new.map (rno (eF H0.length H.length) d))[id]?=some o'->∃o,(H0++new)[H0.length+(id-H.length)]?=some o/\o'=rno (eF H0.length H.length) d o/\dW d o=true/\o.owned=true/\rno (da H0.length) d o=o:=by
  intro id o' hid h2
  rw[List.getElem?_append_right hid,List.getElem?_map]at h2
  obtain ⟨o,a1,rfl⟩:=bv h2
  obtain ⟨x1,x2,x3⟩:=hnew _ _ a1
  refine ⟨o,?_,rfl,x1,x2,x3⟩
  rw[List.getElem?_append_right (by omega),show H0.length+(id-H.length)-H0.length=id-H.length by omega];exact a1
 have ey:∀id,id<H.length->(H++new.map (rno (eF H0.length H.length) d))[id]?=H[id]? := fun id hid=>List.getElem?_append_left hid
 have hoa:∀o:aa,o.owned=true->o.alive=true:=by intro o ho;cases o <;> first|rfl|cases ho
 have hvn:VR ρn v1 v':=by
  have:VR ρ1 (rn (da H0.length) d v1) v':=by rw[hv2];exact hv'
  exact jG hn1 (fun _ _ h=>h) AZ d this
 refine ⟨_,v',ρ2,_,rfl,rB wD (fun _ _ h=>h) qR d hv hvn,?_,rfl,rfl⟩
 have fr:∀id r o,¬ id<H.length->ρ1 (H0.length+(id-H.length))=some r->(H++new.map (rno (eF H0.length H.length) d))[id]?=some o->w.heap.size<=r.b:=by
  intro id r o hid a b
  obtain ⟨o0,a1,_,_,_,_⟩:=eV id o (by omega) b
  exact hfresh _ r o0 (by omega) a a1
 have u:∀id,ρ2 id=if id<H.length then J id else ρ1 (H0.length+(id-H.length)):=fun _=>rfl
 have pD:∀{F k r z cs},ρ2.g F k=some r->(H++new.map (rno (eF H0.length H.length) d))[F]?=some (.fam z cs)->J.g F k=some r/\H[F]?=some (.fam z cs):=fun {F k r z cs} mg mh=>by
  have h1:(if F<H.length then J.g F k else ρ1.g (H0.length+(F-H.length)) k)=some r:=mg
  rcases Nat.lt_or_ge F H.length with h|h
  ·rw[if_pos h]at h1
   exact ⟨h1,by rw[<- ey F h];exact mh⟩
  ·obtain ⟨o,_,e,g1,g2,_⟩:=eV F _ h mh
   cases o <;> first|(cases g1;done)|(cases g2;done)|(cases e;done)
 have hfm:∀{F k r z cs},FM ρ2 (H++new.map (rno (eF H0.length H.length) d)) F k r z cs->FM J H F k r z cs:=fun m=>⟨(pD m.g m.h).1,(pD m.g m.h).2,m.a⟩
 have jZ:gX B ρ2 (H++new.map (rno (eF H0.length H.length) d)) w':=by
  refine ⟨fun F k r h1 =>?_,fun F k r h1 =>?_,fun F k r z cs m=>hr.fam.base _ _ _ _ _ (hfm m),fun F k r z cs m=>(hr.fam.obj _ _ _ _ _ (hfm m)).mono hext (hpost.keep _ (hr.fam.lt _ _ _ (hfm m).g) (mT _)),
   fun F k r z cs F' k' r' z' cs' m m'=>hr.fam.sep _ _ _ _ _ _ _ _ _ _ (hfm m) (hfm m'),fun F k r z cs id r' o m h1 h2 h3 =>?_,fun F k r z cs b m' m hb =>?_,fun F k r cs h1 h2=>hr.fam.cnt F k r cs (pD h1 h2).1 (pD h1 h2).2⟩
  ·have h1:(if F<H.length then J.g F k else ρ1.g (H0.length+(F-H.length)) k)=some r:=h1
   rcases Nat.lt_or_ge F H.length with h|h
   ·simp;omega
   ·rw[if_neg (by omega)]at h1
    have:=hpost.rel.fam.dom _ _ _ h1
    simp at this ⊢;omega
  ·have h1:(if F<H.length then J.g F k else ρ1.g (H0.length+(F-H.length)) k)=some r:=h1
   rcases Nat.lt_or_ge F H.length with h|h
   ·rw[if_pos h]at h1
    exact Nat.lt_of_lt_of_le (hr.fam.lt _ _ _ h1) hpost.size
   ·rw[if_neg (by omega)]at h1
    exact hpost.rel.fam.lt _ _ _ h1
  ·rw[u]at h1
   rcases Nat.lt_or_ge id H.length with h|h
   ·rw[if_pos h]at h1
    exact hr.fam.sep2 _ _ _ _ _ id r' o (hfm m) h1 (by rw[<- ey id h];exact h2) h3
   ·rw[if_neg (by omega)]at h1
    have:=fr id r' o (by omega) h1 h2
    have:=hr.fam.lt _ _ _ (hfm m).g
    omega
  ·have hb:ρ1.mem b=some m':=hb
   rcases hpost.frz b m' hb with g|g|g
   ·exact hr.fam.mem _ _ _ _ _ b m' (hfm m) g
   ·have:=hr.fam.lt _ _ _ (hfm m).g;omega
   ·exact absurd g (mT _)
 refine ⟨⟨Nat.le_trans hr.bsize hpost.size,fun g hg =>?_,fun id r h1 =>?_,fun id r h1 =>?_,fun id r o h1 h2 =>?_,fun id r o h1 h2 h3 =>?_,fun id1 id2 r1 r2 o1 o2 h1 h2 g1 g2 k1 k2 hne =>?_,fun b m hb=>⟨(hpost.rel.mem b m hb).1,fun id r o h1 h2 h3 =>?_⟩,jZ⟩,hext,fun id r h1 h2 =>?_,by simp,fun id h1 h2=>ey id h1,hpost.size,fun b h1 h2=>hpost.keep b h1 (mT b),fun b h1 h2 =>?_,hpost.os,hpost.tape,hpost.output,fun b m hb=>(hpost.frz b m hb).imp id fun h=>h.elim .inl fun h=>(mT b h).elim,hpost.drawn,fun F k r h1 h2 => .inl (by
  have h1:(if F<H.length then J.g F k else ρ1.g (H0.length+(F-H.length)) k)=some r:=h1
  rcases Nat.lt_or_ge F H.length with h|h
  ·rw[if_pos h,h2]at h1;cases h1
  ·exact h)⟩
 ·obtain ⟨r,k1,k2,k3⟩:=hr.dJ g hg;exact ⟨r,hext _ _ k1,k2,k3⟩
 ·rw[u]at h1
  split at h1
  ·rw[bH];omega
  ·rename_i hid
   have:=hpost.rel.dom _ _ h1
   rw[bH]at this
   rw[bH,List.length_map];omega
 ·rw[u]at h1
  split at h1
  ·exact Nat.lt_of_lt_of_le (hr.lt _ _ h1) hpost.size
  ·exact hpost.rel.lt _ _ h1
 ·rw[u]at h1
  split at h1
  ·rename_i hid
   rw[ey id hid]at h2
   exact (hr.obj _ _ _ h1 h2).mono hext (hpost.keep _ (hr.lt _ _ h1) (mT _))
  ·rename_i hid
   obtain ⟨o0,a1,rfl,a3,a4,a5⟩:=eV id o (by omega) h2
   have h6:=hpost.rel.obj _ _ _ h1 a1
   rw[<- a5]at h6
   have hd:rno (da H0.length) d o0 = .dead->o0 = .dead:=fun he=>by rw[a5]at he;exact he
   exact oV wD (fun _ _ h=>h) qR a3 (oU hn1 (fun _ _ h=>h) AZ h6 hd)
 ·rw[u]at h1
  split at h1
  ·rename_i hid;rw[ey id hid]at h2;exact hr.base _ _ _ h1 h2 h3
  ·rename_i hid
   obtain ⟨o0,a1,_,a3,a4,_⟩:=eV id o (by omega) h2
   exact hpost.rel.base _ _ _ h1 a1 a4
 ·rw[u]at h1 h2
  by_cases c1:id1<H.length
  ·rw[if_pos c1]at h1
   rw[ey id1 c1]at g1
   by_cases c2:id2<H.length
   ·rw[if_pos c2]at h2
    rw[ey id2 c2]at g2
    exact hr.sep id1 id2 r1 r2 o1 o2 h1 h2 g1 g2 k1 k2 hne
   ·rw[if_neg c2]at h2
    have:=hr.lt _ _ h1
    have:=fr id2 r2 o2 c2 h2 g2
    omega
  ·rw[if_neg c1]at h1
   have f1:=fr id1 r1 o1 c1 h1 g1
   by_cases c2:id2<H.length
   ·rw[if_pos c2]at h2
    have:=hr.lt _ _ h2
    omega
   ·rw[if_neg c2]at h2
    obtain ⟨p1,a1,_,_,a4,_⟩:=eV id1 o1 (by omega) g1
    obtain ⟨p2,b1,_,_,b4,_⟩:=eV id2 o2 (by omega) g2
    exact hpost.rel.sep _ _ r1 r2 p1 p2 h1 h2 a1 b1 a4 (hoa _ b4) (by omega)
 ·rw[u]at h1
  split at h1
  ·rename_i hid
   rw[ey id hid]at h2
   intro he
   rcases hpost.frz b m hb with g|g|g
   ·exact (hr.mem b m g).2 id r o h1 h2 h3 he
   ·have:=hr.lt _ _ h1;omega
   ·exact mT b g
  ·rename_i hid
   obtain ⟨o0,a1,_,a3,a4,_⟩:=eV id o (by omega) h2
   exact (hpost.rel.mem b m hb).2 _ r o0 h1 a1 a4
 ·rw[u]at h1
  split at h1
  ·rw[h2]at h1;cases h1
  ·omega
 ·rcases h2 with ⟨id,r,o,k1,k2,k3,k4⟩|⟨F,k,r,z,cs,m,e⟩
  ·rw[u]at k1
   split at k1
   ·rename_i hid;rw[ey id hid]at k2;exact .inl ⟨id,r,o,k1,k2,k3,k4⟩
   ·rename_i hid
    have:=fr id r o hid k1 k2
    omega
  ·exact .inr ⟨F,k,r,z,cs,hfm m,e⟩
end
end Go.K
