/- What is to be shown is enough: rounds and calls. No condition. -/
import Derived.Test.YtkkgnalgmebfjaaGreatGV5xV8
import Derived.Test.YtkkgnalgmebfjaaGreatGV4xK41
import Derived.Deep.Slices
import Derived.ChangeStays
import Derived.OpenShut
import Derived.ProofKit
open Go Go.K
set_option linter.unusedVariables false
set_option linter.unusedSimpArgs false
namespace Go.K
noncomputable section
variable {P:Program}
section
variable {call:l6} {app:oa} {dm:Value->MS}
theorem py(hcall:jk P call)(happ:jY P app){rounds:Nat}{mixed:Bool}(gy:mixed=true->P.follows .mixedOrders=true):tW P (sV P call app dm rounds mixed):=by
 intro L args H M h K hv
 unfold sV at hv
 split at hv <;> try (exact hv.elim)
 rename_i pe tm N ps as bd hL
 split at hv <;> try (exact hv.elim)
 rename_i hc
 simp only[Bool.and_eq_true]at hc
 obtain ⟨c1,c2,c3,c4,c5⟩:=hc
 have hLM:L∈M.list H.n:=by
  cases M with
  |none=>exact List.mem_range.2 (iR c5)
  |some l=>exact gK c5
 refine gS.yield (by rw[HT.aK];exact hL) (Nat.eq_of_beq_eq_true c1) (fun p hp=>by rw[List.all_eq_true]at c2;simpa using c2 p hp) hLM (fun ro =>?_)
 rw[HT.length]
 refine (iz (ro:=some ro) hcall happ (fun h=>by cases h) gy c3 hv).mono ?_
 rintro e T H' ⟨E1,H1,h1,rfl,rfl,hk⟩
 cases e with
 |normal =>
  simp only[j0]
  simp only at hk
  split at hk <;> try (exact hk.elim)
  rename_i pe1 tm1 N1 ps1 as1 bd1 hL1
  refine ⟨_,_,_,_,_,_,by rw[HT.aK];exact hL1,?_⟩
  rw[<- HT.bw]
  refine (iz (ro:=some ro) hcall happ (fun h=>by cases h) gy c4 hk).mono ?_
  rintro e T H' ⟨E2',H2',h2',rfl,rfl,hk2⟩
  obtain ⟨E2,H2,h2,e3,e4,hk2⟩:=cw hk2
  rw[<- e3,<- e4]
  split at hk2 <;> try (exact hk2.elim)
  rename_i j hj
  split at hk2 <;> try (exact hk2.elim)
  rename_i st2 pe2 tm2 N2 ps2 as2 bd2 hL2
  refine ⟨j,hj,_,_,_,_,_,_,_,by rw[HT.aK];exact hL2,_,h2,?_,hk2⟩
  rw[HT.bw]
  congr 2
  cases j.isNone <;> rfl
 |_=>exact hk.elim
theorem lJ{rs:List ResultVar}{T:Tm}{H:HT}{v:Value}(h:uD P rs T H=some v):rE P rs T H.list=some v:=by
 have one:∀r,iG P T H r=ko P T H.list r:=by
  intro r
  cases r with
  |tmp t=>rfl
  |cell a ty=>simp only[iG,ko,pa]
 unfold uD at h
 split at h
 ·rw[one]at h;exact h
 ·split at h <;> try (cases h;done)
  rename_i v1 v2 h1 h2
  rw[one]at h1 h2
  cases h
  simp[rE,h1,h2]
 ·split at h <;> try (cases h;done)
  rename_i v1 v2 v3 h1 h2 h3
  rw[one]at h1 h2 h3
  cases h
  simp[rE,h1,h2,h3]
 ·cases h;simp[rE]
 ·cases h
theorem qE{n:Nat}{M:MS}{v:Value}{H':HT}{h:Hint}{K:KV}(hv:oC n M v H' h K) :
  (∃(H2:HT) (h2:Hint),H'.list=H2.list/\K v H2 h2)∨(cH n v=true/\(∃l,M=some l/\∀id∈l,∀o,H'.list[id]?=some o->ar n o=true)/\∃(H2:HT) (h2:Hint),H2.list=H'.list/\K v (H2.take n) h2):=by
 unfold oC at hv
 split at hv
 ·exact .inl ⟨H',_,rfl,hv⟩
 ·cases M with
  |none=>exact .inl ⟨H',_,rfl,hv⟩
  |some l =>
   simp only at hv
   split at hv
   ·rename_i hc
    simp only[Bool.and_eq_true,List.all_eq_true]at hc
    refine .inr ⟨hc.1,⟨l,rfl,fun id hid o ho =>?_⟩,H',_,rfl,hv⟩
    have:=hc.2 id hid
    rw[<- HT.aK,ho]at this
    exact this
   ·exact .inl ⟨H',_,rfl,hv⟩
def gB(P:Program)(mixed:Bool)(mask:Nat):Prop:=∀f,Nat.testBit mask f=true->BC P mixed f=true
theorem qI{mask:Nat}{mixed:Bool}(fL:gB P mixed mask)(hcall:jk P call)(happ:jY P app){rounds:Nat}(gy:mixed=true->P.follows .mixedOrders=true):jk P (wx P mask call app dm rounds):=by
 intro f args H M h K hv
 unfold wx at hv
 split at hv <;> try (exact hv.elim)
 rename_i hm
 have hfn:=fL f hm
 split at hv <;> try (exact hv.elim)
 rename_i fn hf
 split at hv <;> try (exact hv.elim)
 rename_i c hb
 split at hv <;> try (exact hv.elim)
 rename_i hargs
 unfold BC at hfn
 rw[hf]at hfn
 simp only[hb,Bool.and_eq_true,Bool.not_eq_true']at hfn
 obtain ⟨c1,c2,c3⟩:=hfn
 have C6:am P f args H.list (M.list H.n) (fun v H' => ∃H2 h2,H'=H2.list/\vas h2 v H2 (fun v H2 h2=>oC H.n M v H2 h2 K)):=by
  refine am.enter hf c1 hb fn.ntmps rfl (Nat.le_of_ble_eq_true hargs) _ rfl c2 ?_
  rw[HT.length]
  refine (iz (ro:=none) hcall happ (fun _=>rfl) gy c3 hv).mono ?_
  rintro e T H' ⟨E2,H2,h2,rfl,rfl,hk⟩
  cases e with
  |normal =>
   simp only at hk
   obtain ⟨E3,H3,h3,e3,e4,hk⟩:=cw hk
   rw[<- e3,<- e4]
   split at hk <;> try (exact hk.elim)
   rename_i v hr
   exact ⟨.inl rfl,v,lJ hr,H3,h3,rfl,hk⟩
  |ret =>
   simp only at hk
   obtain ⟨E3,H3,h3,e3,e4,hk⟩:=cw hk
   rw[<- e3,<- e4]
   split at hk <;> try (exact hk.elim)
   rename_i v hr
   exact ⟨.inr rfl,v,lJ hr,H3,h3,rfl,hk⟩
  |_=>exact hk.elim
 have key:am P f args H.list (M.list H.n) (fun v H' => ∃H2 h2,H'=H2.list/\oC H.n M v H2 h2 K):=by
  refine C6.weak ?_
  rintro v H' ⟨H2,h2,rfl,hk⟩
  obtain ⟨v2,gs,H3,h3,e1,e2,hk⟩:=vq hk
  exact ⟨v2,gs,e1,H3,h3,e2.symm,hk⟩
 refine key.Am ?_
 rintro v H' hlen _ ⟨H2,h2,rfl,hk⟩
 rcases qE hk with ⟨H3,h3,e,hk⟩|⟨hb,⟨l,rfl,ho⟩,H3,h3,e,hk⟩
 ·exact .inl ⟨H3,h3,e,hk⟩
 ·refine .inr ⟨(by rw[HT.length];exact hb),(fun id hid o _ h=>(by rw[HT.length];exact ho id hid o h)),H3.take H.n,h3,?_,hk⟩
  rw[HT.vU _ _ (by rw[HT.n_eq e];rw[HT.length,HT.length]at hlen;exact hlen),e,HT.length]
theorem mz{yld:Nat->List Value->HT->MS->Hint->KV->Prop}(hcall:jk P call)(hy:tW P yld):jY P (yY call yld):=by
 intro fv args H M h K hv
 unfold yY at hv
 split at hv
 ·exact gS.func (hcall _ _ _ _ _ _ hv)
 ·exact hy _ _ _ _ _ _ hv
 ·exact hv.elim
end
theorem qK{mask:Nat}{dm:Value->MS}{rounds:Nat}{mixed:Bool}(fL:gB P mixed mask)(gy:mixed=true->P.follows .mixedOrders=true) :
  ∀n,jk P (vF P mask dm rounds mixed n true)/\tW P (vF P mask dm rounds mixed n false):=by
 intro n
 induction n with
 |zero=>exact ⟨fun f args H M h K hv=>hv.elim,fun L args H M h K hv=>hv.elim⟩
 |succ n ih =>
  refine ⟨fun f args H M h K hv =>?_,fun L args H M h K hv =>?_⟩
  ·exact qI fL ih.1 (mz ih.1 ih.2) gy _ _ _ _ _ _ hv
  ·exact py ih.1 (mz ih.1 ih.2) gy _ _ _ _ _ _ hv
theorem vc{mask:Nat}{dm:Value->MS}{rounds:Nat}{mixed:Bool}(fL:gB P mixed mask)(gy:mixed=true->P.follows .mixedOrders=true)(n:Nat){f:FuncId}{args:List Value}{H:HT}{M:MS}{h:Hint}{Q:Value->Heap->Prop}
  (hv:vF P mask dm rounds mixed n true f args H M h (fun v H' _=>Q v H'.list)):am P f args H.list (M.list H.n) Q :=
 ((qK fL gy n).1 f args H M h _ hv).post fun v H' ⟨H2,h2,e,hq⟩=>by subst e;exact hq
end
end Go.K
namespace Go.K
noncomputable section
variable {P:Program}
def dw:Nat->Value->Bool
 |0,_=>false
 |d+1,v=>match v with
  | .func (.yield _) ⟨[]⟩ ⟨[]⟩=>true
  | .func (.func _) first cap=>first.toList.all (dw d)&&cap.toList.all (dw d)
  | .func _ _ _=>false
  | .agg cs=>cs.toList.all (dw d)
  | .tuple vs=>vs.toList.all (dw d)
  | .iface _ (.agg cs)=>cs.toList.all (dw d)
  | .iface _ (.tuple cs)=>cs.toList.all (dw d)
  |_=>true
def d8(d:Nat):ab->Bool
 | .cells _ _ cs=>cs.all (dw d)
 | .map es=>es.all fun e=>dw d e.1&&dw d e.2
 | .loop .. =>false
 | .iter .. =>false
 | .fam _ _=>false
 | .dead=>true
theorem mp{Z ρ':Ren}{V:Nat->Option Nat}{d:Nat}(ih:∀{v r:Value},dw d v=true->VR Z v r->VR ρ' (rn V d v) r){cs:Array Value}{r:Array Value}(hc:cs.toList.all (dw d)=true)
  (h1:cs.size=r.size) (h2:∀(i:Nat) (v v':Value),cs[i]?=some v->r[i]?=some v'->VR Z v v') :
  (⟨cs.toList.map (rn V d)⟩:Array Value).size=r.size/\∀(i:Nat) (v v':Value),(⟨cs.toList.map (rn V d)⟩:Array Value)[i]?=some v->r[i]?=some v'->VR ρ' v v':=by
 have e:(⟨cs.toList.map (rn V d)⟩:Array Value)=cs.map (rn V d):=Array.toList_inj.1 (by simp)
 rw[e]
 refine ⟨by simpa using h1,fun i v v' a b =>?_⟩
 rw[Array.getElem?_map]at a
 obtain ⟨v0,a1,rfl⟩:=bo a
 rw[List.all_eq_true]at hc
 exact ih (hc v0 (by rw[Array.mem_toList_iff];exact Array.mem_of_getElem? a1)) (h2 i v0 v' a1 b)
theorem sv{Z ρ':Ren}{V:Nat->Option Nat}{d s:Nat}(ih:∀{v r:Value},dw d v=true->VR Z v r->VR ρ' (rn V d v) r){cs m:Array Value}(hc:cs.toList.all (dw d)=true)
  (h1:cs.size=0∨cs.size+s<=m.size) (h2:∀(i:Nat) (v v':Value),cs[i]?=some v->m[i+s]?=some v'->VR Z v v') :
  ((⟨cs.toList.map (rn V d)⟩:Array Value).size=0∨(⟨cs.toList.map (rn V d)⟩:Array Value).size+s<=m.size)/\∀(i:Nat) (v v':Value),(⟨cs.toList.map (rn V d)⟩:Array Value)[i]?=some v->m[i+s]?=some v'->VR ρ' v v':=by
 have e:(⟨cs.toList.map (rn V d)⟩:Array Value)=cs.map (rn V d):=Array.toList_inj.1 (by simp)
 rw[e]
 refine ⟨by simpa using h1,fun i v v' a b =>?_⟩
 rw[Array.getElem?_map]at a
 obtain ⟨v0,a1,rfl⟩:=bo a
 rw[List.all_eq_true]at hc
 exact ih (hc v0 (by rw[Array.mem_toList_iff];exact Array.mem_of_getElem? a1)) (h2 i v0 v' a1 b)
theorem sI{Z ρ':Ren}{V:Nat->Option Nat}(hσ:∀id r,Z id=some r->∃id',V id=some id'/\ρ' id'=some r)(hm:∀b m,Z.mem b=some m->ρ'.mem b=some m)(hg:∀F k r,Z.g F k=some r->∃F',V F=some F'/\ρ'.g F' k=some r):∀(d:Nat) {v r:Value},dw d v=true->VR Z v r->VR ρ' (rn V d v) r:=by
 intro d
 induction d with
 |zero=>intro v r h;cases h
 |succ d ih =>
  intro v r hk h
  cases h with
  |junk=>exact .junk _
  |bool b=>exact .bool b
  |int k n=>exact .int k n
  |float k n=>exact .float k n
  |string s=>exact .string s
  |cO=>exact .cO
  |ptr k=>obtain ⟨id',e1,e2⟩:=hσ _ _ k;simp only[rn,e1];exact .ptr e2
  |eR k=>obtain ⟨id',e1,e2⟩:=hg _ _ _ k;simp only[rn,e1];exact .eR e2
  |bG=>exact .bG
  |slice k hl hc ho=>obtain ⟨id',e1,e2⟩:=hσ _ _ k;simp only[rn,e1];exact .slice e2 hl hc ho
  |bK k=>obtain ⟨id',e1,e2⟩:=hσ _ _ k;simp only[rn,e1];exact .bK e2
  |cq=>exact .cq
  |ba=>simp only[rn];split <;> exact .ba
  |bb=>simp only[rn];split <;> exact .bb
  |bF k hp hl hc ho=>obtain ⟨id',e1,e2⟩:=hσ _ _ k;simp only[rn,e1];exact .bF e2 hp hl hc ho
  |bf=>simp only[rn];split <;> exact .bf
  |bQ k hp hl hc ho=>obtain ⟨id',e1,e2⟩:=hσ _ _ k;simp only[rn,e1];exact .bQ e2 hp hl hc ho
  |cP=>exact .cP
  |map k=>obtain ⟨id',e1,e2⟩:=hσ _ _ k;simp only[rn,e1];exact .map e2
  |nilFunc=>exact .nilFunc
  |nilIface=>exact .nilIface
  |yield k=>obtain ⟨id',e1,e2⟩:=hσ _ _ k;simp only[rn,e1];exact .yield e2
  | @func f first first' cap cap' h1 h2 h3 h4 =>
   have hk':(first.toList.all (dw d)&&cap.toList.all (dw d))=true:=by
    unfold dw at hk
    exact hk
   simp only[Bool.and_eq_true]at hk'
   obtain ⟨a1,a2⟩:=mp (V:=V) ih hk'.1 h1 h2
   obtain ⟨b1,b2⟩:=mp (V:=V) ih hk'.2 h3 h4
   exact .func a1 a2 b1 b2
  |agg h1 h2=>obtain ⟨a1,a2⟩:=mp (V:=V) ih hk h1 h2;exact .agg a1 a2
  |tuple h1 h2=>obtain ⟨a1,a2⟩:=mp (V:=V) ih hk h1 h2;exact .tuple a1 a2
  |deep g1 g2 g3 g4 g5=>obtain ⟨a1,a2⟩:=sv (V:=V) ih hk g4 g5;exact .deep (hm _ _ g1) g2 g3 a1 a2
  |cu=>exact .cu
  |fsl k hp hc hs ho=>obtain ⟨id',e1,e2⟩:=hg _ _ _ k;simp only[rn,e1];exact .fsl e2 hp hc hs ho
  | @dc a p =>
   match p with
   |none=>exact .dc
   |some ⟨id,off,none⟩=>exact .dc
   |some ⟨id,off,some 0⟩=>exact .dc
   |some ⟨id,off,some 1⟩=>exact .dc
   |some ⟨id,off,some 2⟩=>exact .dc
   |some ⟨id,off,some (j+3)⟩ =>
    simp only[rn]
    split <;> exact .dc
  |cL g1 g2 g3=>obtain ⟨a1,a2⟩:=sv (V:=V) ih hk g2 g3;exact .cL (hm _ _ g1) a1 a2
theorem pO{Z ρ':Ren}{V:Nat->Option Nat}(hσ:∀id r,Z id=some r->∃id',V id=some id'/\ρ' id'=some r)(hm:∀b m,Z.mem b=some m->ρ'.mem b=some m)(hg:∀F k r,Z.g F k=some r->∃F',V F=some F'/\ρ'.g F' k=some r){d:Nat}{r:RI}{o:ab}{w:World}(hk:d8 d o=true)(h:bt Z r o w):bt ρ' r (rno V d o) w:=by
 cases o with
 |cells own z cs =>
  obtain ⟨h1,h2,cs',ty,fz,h3,h4,h5,h6⟩:=h
  refine ⟨h1,h2,cs',ty,fz,h3,h4,h5,fun i v hv =>?_⟩
  rw[List.getElem?_map]at hv
  obtain ⟨v0,a1,rfl⟩:=bo hv
  obtain ⟨v',g1,g2⟩:=h6 i v0 a1
  simp only[d8,List.all_eq_true]at hk
  exact ⟨v',g1,sI hσ hm hg d (hk v0 (List.mem_of_getElem? a1)) g2⟩
 |map es =>
  obtain ⟨h1,es',h2,h3,h4⟩:=h
  refine ⟨h1,es',h2,by simpa using h3,fun i k v hv =>?_⟩
  rw[List.getElem?_map]at hv
  obtain ⟨⟨k0,v0⟩,a1,a2⟩:=bo hv
  cases a2
  obtain ⟨e',g1,g2,g3⟩:=h4 i k0 v0 a1
  simp only[d8,List.all_eq_true,Bool.and_eq_true]at hk
  have:=hk _ (List.mem_of_getElem? a1)
  exact ⟨e',g1,sI hσ hm hg d this.1 g2,sI hσ hm hg d this.2 g3⟩
 |loop st pe tm N ps as bd=>cases hk
 |iter m n s=>cases hk
 |fam z cs=>cases hk
 |dead=>trivial
structure Part(P:Program)(H0 H:Heap)(V:Nat->Option Nat)(d:Nat):Prop where
 dR:∀g,g<P.globals.size->V g=some g
 dom:∀id id',V id=some id'->id<H0.length/\id'<H.length
 tot:∀id,id<H0.length->∃id',V id=some id'
 inj:∀id1 id2 id',V id1=some id'->V id2=some id'->id1=id2
 obj:∀id id' o,V id=some id'->H0[id]?=some o->o = .dead∨(d8 d o=true/\H[id']?=some (rno V d o))
def eM(V:Nat->Option Nat)(n0 n:Nat)(id:Nat):Option Nat:=if id<n0 then V id else some (n+(id-n0))
theorem am.BB{f:FuncId}{args:List Value}{H0 H:Heap}{α:Type}{I:α->Prop}{vx:α->Value}{jJ:α->Heap}{V:Nat->Option Nat}{d:Nat}(hp:Part P H0 H V d)(h:am P f args H0 [] (fun v' H' => ∃x,I x/\v'=vx x/\H'=H0++jJ x))
    (hvx:∀x,I x->dw d (vx x)=true) (hnx:∀x,I x->(jJ x).all (fun o=>d8 d o&&o.owned)=true) :
    am P f (args.map (rn V d)) H [] (fun v' H' => ∃x,I x/\v'=rn (eM V H0.length H.length) d (vx x)/\H'=H++(jJ x).map (rno (eM V H0.length H.length) d)):=by
  refine ⟨h.1,fun B Z w args' hr ha =>?_⟩
  have hσb:∀id id' r,V id=some id'->Z id'=some r->cg Z V id=some r:=by intro id id' r h1 h2;show Option.bind _ _=_;rw[h1];exact h2
  have hσg:∀F F' k r,V F=some F'->Z.g F' k=some r->(cg Z V).g F k=some r:=by intro F F' k r h1 h2;show Option.bind _ _=_;rw[h1];exact h2
  have eF:∀{F k r},(cg Z V).g F k=some r->∃F',V F=some F'/\Z.g F' k=some r:=fun h=>Option.bind_eq_some_iff.1 h
  have xL:∀{F k:Nat} {r:RI} {z:Nat} {cs:List Value},(cg Z V).g F k=some r->H0[F]?=some (.fam z cs)->False:=fun {F k r z cs} mg mh=>by
    obtain ⟨F',k1,_⟩:=eF mg
    rcases hp.obj F F' _ k1 mh with h|⟨h,_⟩ <;> cases h
  have hnf:∀{F k r z cs},FM (cg Z V) H0 F k r z cs->False:=fun m=>xL m.g m.h
  have hsome:∀{id r},cg Z V id=some r->∃id',V id=some id'/\Z id'=some r:=fun h=>Option.bind_eq_some_iff.1 h
  have hoa:∀o:ab,o.owned=true->o.alive=true:=by intro o ho;cases o <;> first|rfl|cases ho
  have hno:∀o,d8 d o=true->rno V d o = .dead->o = .dead:=by intro o h1 h2;cases o <;> first|rfl|(cases h1;done)|(cases h2;done)
  have hown:∀id id' o,V id=some id'->H0[id]?=some o->o.alive=true->H[id']?=some (rno V d o)/\(rno V d o).owned=o.owned/\(rno V d o).alive=true/\d8 d o=true:=by
    intro id id' o h1 h2 h3
    rcases hp.obj id id' o h1 h2 with rfl|⟨g1,g2⟩
    · cases h3
    · obtain ⟨a,b⟩:=oL V d o (hno o g1);exact ⟨g2,a,b.trans h3,g1⟩
  have hr0:Rel P B (cg Z V) H0 w:=by
    refine ⟨hr.bsize,fun g hg =>?_,fun id r h =>?_,fun id r h =>?_,fun id r o h1 h2 =>?_,fun id r o h1 h2 h3 =>?_,fun id1 id2 r1 r2 o1 o2 h1 h2 g1 g2 k1 k2 hne =>?_,fun b m hb=>⟨(hr.mem b m hb).1,fun id r o h1 h2 h3 =>?_⟩,
      ⟨fun F k r h=>by obtain ⟨F',k1,_⟩:=eF h;exact (hp.dom _ _ k1).1,fun F k r h=>by obtain ⟨F',_,k2⟩:=eF h;exact hr.fam.lt _ _ _ k2,fun _ _ _ _ _ m=>(hnf m).elim,fun _ _ _ _ _ m=>(hnf m).elim,fun _ _ _ _ _ _ _ _ _ _ m=>(hnf m).elim,fun _ _ _ _ _ _ _ _ m=>(hnf m).elim,fun _ _ _ _ _ _ _ m=>(hnf m).elim,fun _ _ _ _ g h=>(xL g h).elim⟩⟩
    · obtain ⟨r,k1,k2,k3⟩:=hr.dR g hg;exact ⟨r,hσb g g r (hp.dR g hg) k1,k2,k3⟩
    · obtain ⟨id',h1,_⟩:=hsome h;exact (hp.dom _ _ h1).1
    · obtain ⟨id',_,h2⟩:=hsome h;exact hr.lt _ _ h2
    · obtain ⟨id', k1, k2⟩ := hsome h1
      rcases hp.obj id id' o k1 h2 with rfl|⟨g1,g2⟩
      · trivial
      · exact kb hσb (fun _ _ h=>h) hσg (hr.obj _ _ _ k2 g2) (hno o g1)
    · obtain ⟨id', k1, k2⟩ := hsome h1
      obtain ⟨g1,g2,_,_⟩:=hown id id' o k1 h2 (hoa o h3)
      exact hr.base id' r _ k2 g1 (by rw[g2];exact h3)
    · obtain ⟨i1, a1, a2⟩ := hsome h1
      obtain ⟨i2,b1,b2⟩:=hsome h2
      obtain ⟨c1,c2,_,_⟩:=hown id1 i1 o1 a1 g1 (hoa _ k1)
      obtain ⟨d1,_,d3,_⟩:=hown id2 i2 o2 b1 g2 k2
      exact hr.sep i1 i2 r1 r2 _ _ a2 b2 c1 d1 (by rw[c2];exact k1) d3 (fun he=>hne (hp.inj _ _ _ a1 (he ▸ b1)))
    · obtain ⟨id', k1, k2⟩ := hsome h1
      obtain ⟨g1,g2,_,_⟩:=hown id id' o k1 h2 (hoa o h3)
      exact (hr.mem b m hb).2 id' r _ k2 g1 (by rw[g2];exact h3)
  have ha0:VRl (cg Z V) args args'.toList:=⟨by have:=ha.1;simpa using this,fun i x x' a b=>jt hσb (fun _ _ h=>h) hσg d (ha.2 i (rn V d x) x' (by rw[List.getElem?_map,a];rfl) b)⟩
  refine (h.2 B (cg Z V) w args' hr0 ha0).mono ?_
  rintro e w' ⟨v1,v',ρ1,H1,rfl,hv',hpost,x0,hx0,rfl,rfl⟩
  have hv:=hvx x0 hx0
  have hn:=hnx x0 hx0
  have hsame:∀id,id<H0.length->(H0++(jJ x0))[id]?=H0[id]? := fun id hid=>List.getElem?_append_left hid
  have hback:∀id r,id<H0.length->ρ1 id=some r->cg Z V id=some r:=by
    intro id r hid h1
    cases hq:cg Z V id with
    |none=>exact absurd (hpost.new id r h1 hq) (by omega)
    |some r0=>have:=hpost.ext _ _ hq;rw[h1]at this;exact this.symm
  have xP:∀id r,ρ1 id=some r->∃id',eM V H0.length H.length id=some id'/\(if id'<H.length then Z id' else ρ1 (H0.length+(id'-H.length)))=some r:=by
    intro id r h1
    unfold eM
    by_cases hid:id<H0.length
    · rw [if_pos hid]
      obtain ⟨id',k1,k2⟩:=hsome (hback id r hid h1)
      exact ⟨id',k1,by rw[if_pos (hp.dom _ _ k1).2];exact k2⟩
    · rw [if_neg hid]
      refine ⟨_,rfl,?_⟩
      rw[if_neg (by omega),show H0.length+(H.length+(id-H0.length)-H.length)=id by omega];exact h1
  have rW:∀F k r,ρ1.g F k=some r->∃F',eM V H0.length H.length F=some F'/\(if F'<H.length then Z.g F' k else ρ1.g (H0.length+(F'-H.length)) k)=some r:=by
    intro F k r h1
    unfold eM
    by_cases hid:F<H0.length
    · rw [if_pos hid]
      cases hq:(cg Z V).g F k with
      | none => rcases hpost.kl F k r h1 hq with h | h
                · omega
                · cases h
      | some r0 =>
        have:=hpost.ext.g _ _ _ hq;rw[h1]at this;cases this
        obtain ⟨F',k1,k2⟩:=eF hq
        exact ⟨F',k1,by rw[if_pos (hp.dom _ _ k1).2];exact k2⟩
    · rw [if_neg hid]
      refine ⟨_,rfl,?_⟩
      rw[if_neg (by omega),show H0.length+(H.length+(F-H0.length)-H.length)=F by omega];exact h1
  have hext:Ren.le Z ⟨fun id'=>if id'<H.length then Z id' else ρ1 (H0.length+(id'-H.length)),ρ1.mem,fun F k=>if F<H.length then Z.g F k else ρ1.g (H0.length+(F-H.length)) k⟩:=⟨fun id r h1=>by
    show (if _ then _ else _)=_
    rw[if_pos (hr.dom _ _ h1)];exact h1,hpost.ext.mem,fun F k r h1=>by
    show (if _ then _ else _)=_
    rw[if_pos (hr.fam.dom _ _ _ h1)];exact h1⟩
  have hnew:∀(k:Nat) (o:ab),(jJ x0)[k]?=some o->d8 d o=true/\o.owned=true:=by
    intro k o hk
    rw[List.all_eq_true]at hn
    have:=hn o (List.mem_of_getElem? hk)
    simpa using this
  have v8:∀{b},OB (cg Z V) H0 b->∃id r o,cg Z V id=some r/\H0[id]?=some o/\o.owned=true/\r.b=b:=fun h=>h.elim id fun ⟨_,_,_,_,_,m,_⟩=>(hnf m).elim
  have hfresh:∀id r o,H0.length<=id->ρ1 id=some r->(H0++(jJ x0))[id]?=some o->w.heap.size<=r.b:=by
    intro id r o hid h1 h2
    have ho:o.owned=true:=by rw[List.getElem?_append_right hid]at h2;exact (hnew _ _ h2).2
    rcases Nat.lt_or_ge r.b w.heap.size with hlt|hge
    · obtain ⟨j, rj, oj, j1, j2, j3, j4⟩ := v8 (hpost.ob r.b hlt (.inl ⟨id, r, o, h1, h2, ho, rfl⟩))
      have hj:=hr0.dom _ _ j1
      exact absurd j4 (hpost.rel.sep j id rj r oj o (hpost.ext _ _ j1) h1 (by rw[hsame j hj];exact j2) h2 j3 (hoa _ ho) (by omega))
    · exact hge
  have hOB:∀b,OB (cg Z V) H0 b->OB Z H b:=by
    intro b hb
    obtain ⟨id,r,o,h1,h2,h3,h4⟩:=v8 hb
    obtain ⟨id',k1,k2⟩:=hsome h1
    obtain ⟨g1,g2,_,_⟩:=hown id id' o k1 h2 (hoa o h3)
    exact .inl ⟨id',r,_,k2,g1,by rw[g2];exact h3,h4⟩
  have fc:∀id o',H.length<=id->(H++(jJ x0).map (rno (eM V H0.length H.length) d))[id]?=some o'->∃o,(H0++(jJ x0))[H0.length+(id-H.length)]?=some o/\o'=rno (eM V H0.length H.length) d o/\d8 d o=true/\o.owned=true/\o'.owned=true:=by
    intro id o' hid h2
    rw[List.getElem?_append_right hid,List.getElem?_map]at h2
    obtain ⟨o,a1,rfl⟩:=bo h2
    refine ⟨o,?_,rfl,(hnew _ _ a1).1,(hnew _ _ a1).2,?_⟩
    · rw[List.getElem?_append_right (by omega),show H0.length+(id-H.length)-H0.length=id-H.length by omega];exact a1
    · obtain ⟨x1, x2⟩ := hnew _ _ a1
      cases o <;> first|exact x2|cases x1
  have eG:∀id,id<H.length->(H++(jJ x0).map (rno (eM V H0.length H.length) d))[id]?=H[id]? := fun id hid=>List.getElem?_append_left hid
  have hvv:VR ⟨fun id'=>if id'<H.length then Z id' else ρ1 (H0.length+(id'-H.length)),ρ1.mem,fun F k=>if F<H.length then Z.g F k else ρ1.g (H0.length+(F-H.length)) k⟩ (rn (eM V H0.length H.length) d (vx x0)) v':=sI (Z:=ρ1) (V:=eM V H0.length H.length) (ρ':=⟨fun id'=>if id'<H.length then Z id' else ρ1 (H0.length+(id'-H.length)),ρ1.mem,fun F k=>if F<H.length then Z.g F k else ρ1.g (H0.length+(F-H.length)) k⟩) xP (fun _ _ h=>h) rW d hv hv'
  refine ⟨_,v',⟨fun id'=>if id'<H.length then Z id' else ρ1 (H0.length+(id'-H.length)),ρ1.mem,fun F k=>if F<H.length then Z.g F k else ρ1.g (H0.length+(F-H.length)) k⟩,_,rfl,hvv,?_,x0,hx0,rfl,rfl⟩
  have qp:∀{F k r z cs},(Ren.mk (fun id'=>if id'<H.length then Z id' else ρ1 (H0.length+(id'-H.length))) ρ1.mem (fun F k=>if F<H.length then Z.g F k else ρ1.g (H0.length+(F-H.length)) k)).g F k=some r->(H++(jJ x0).map (rno (eM V H0.length H.length) d))[F]?=some (.fam z cs)->Z.g F k=some r/\H[F]?=some (.fam z cs):=fun {F k r z cs} mg mh=>by
    have h1:(if F<H.length then Z.g F k else ρ1.g (H0.length+(F-H.length)) k)=some r:=mg
    rcases Nat.lt_or_ge F H.length with h|h
    · rw [if_pos h] at h1
      exact ⟨h1,by rw[<- eG F h];exact mh⟩
    · obtain ⟨o, _, _, _, _, g⟩ := fc F _ h mh
      cases g
  have hfm:∀{F k r z cs},FM ⟨fun id'=>if id'<H.length then Z id' else ρ1 (H0.length+(id'-H.length)),ρ1.mem,fun F k=>if F<H.length then Z.g F k else ρ1.g (H0.length+(F-H.length)) k⟩ (H++(jJ x0).map (rno (eM V H0.length H.length) d)) F k r z cs->FM Z H F k r z cs:=fun m=>⟨(qp m.g m.h).1,(qp m.g m.h).2,m.a⟩
  have kw:iy B ⟨fun id'=>if id'<H.length then Z id' else ρ1 (H0.length+(id'-H.length)),ρ1.mem,fun F k=>if F<H.length then Z.g F k else ρ1.g (H0.length+(F-H.length)) k⟩ (H++(jJ x0).map (rno (eM V H0.length H.length) d)) w':=by
    refine ⟨fun F k r h1 =>?_,fun F k r h1 =>?_,fun F k r z cs m=>hr.fam.base _ _ _ _ _ (hfm m),fun F k r z cs m=>(hr.fam.obj _ _ _ _ _ (hfm m)).mono hext (hpost.keep _ (hr.fam.lt _ _ _ (hfm m).g) fun ho =>?_),
      fun F k r z cs F' k' r' z' cs' m m'=>hr.fam.sep _ _ _ _ _ _ _ _ _ _ (hfm m) (hfm m'),fun F k r z cs id r' o m h1 h2 h3 =>?_,fun F k r z cs b m' m hb =>?_,fun F k r cs h1 h2=>hr.fam.cnt F k r cs (qp h1 h2).1 (qp h1 h2).2⟩
    · have h1 : (if F < H.length then Z.g F k else ρ1.g (H0.length + (F - H.length)) k) = some r := h1
      rcases Nat.lt_or_ge F H.length with h|h
      · simp;omega
      · rw [if_neg (by omega)] at h1
        have:=hpost.rel.fam.dom _ _ _ h1
        simp at this ⊢;omega
    · have h1 : (if F < H.length then Z.g F k else ρ1.g (H0.length + (F - H.length)) k) = some r := h1
      rcases Nat.lt_or_ge F H.length with h|h
      · rw [if_pos h] at h1
        exact Nat.lt_of_lt_of_le (hr.fam.lt _ _ _ h1) hpost.size
      · rw [if_neg (by omega)] at h1
        exact hpost.rel.fam.lt _ _ _ h1
    · obtain ⟨j, rj, oj, j1, j2, j3, j4⟩ := v8 ho
      obtain ⟨id',k1,k2⟩:=hsome j1
      obtain ⟨c1,c2,c3,_⟩:=hown j id' oj k1 j2 (hoa _ j3)
      exact hr.fam.sep2 _ _ _ _ _ id' rj _ (hfm m) k2 c1 c3 j4
    · have h1 : (if id < H.length then Z id else ρ1 (H0.length + (id - H.length))) = some r' := h1
      rcases Nat.lt_or_ge id H.length with h|h
      · rw [if_pos h] at h1
        exact hr.fam.sep2 _ _ _ _ _ id r' o (hfm m) h1 (by rw[<- eG id h];exact h2) h3
      · rw [if_neg (by omega)] at h1
        obtain ⟨o0,a1,_,_,_,_⟩:=fc id o h h2
        have:=hfresh _ r' o0 (by omega) h1 a1
        have:=hr.fam.lt _ _ _ (hfm m).g
        omega
    · have hb : ρ1.mem b = some m' := hb
      rcases hpost.frz b m' hb with g|g|g
      · exact hr.fam.mem _ _ _ _ _ b m' (hfm m) g
      · have:=hr.fam.lt _ _ _ (hfm m).g;omega
      · obtain ⟨j, rj, oj, j1, j2, j3, j4⟩ := v8 g
        obtain ⟨id',k1,k2⟩:=hsome j1
        obtain ⟨c1,c2,c3,_⟩:=hown j id' oj k1 j2 (hoa _ j3)
        exact fun e=>hr.fam.sep2 _ _ _ _ _ id' rj _ (hfm m) k2 c1 c3 (j4.trans e.symm)
  have CD:∀id r,¬ id<H.length->ρ1 (H0.length+(id-H.length))=some r->id<H.length+(jJ x0).length:=by
    intro id r hid h1
    have:=hpost.rel.dom _ _ h1
    simp at this;omega
  refine ⟨⟨Nat.le_trans hr.bsize hpost.size,fun g hg =>?_,fun id r h1 =>?_,fun id r h1 =>?_,fun id r o h1 h2 =>?_,fun id r o h1 h2 h3 =>?_,fun id1 id2 r1 r2 o1 o2 h1 h2 g1 g2 k1 k2 hne =>?_,fun b m hb=>⟨(hpost.rel.mem b m hb).1,fun id r o h1 h2 h3 =>?_⟩,kw⟩,hext,fun id r h1 h2 =>?_,by simp,fun id h1 h2=>eG id h1,hpost.size,fun b h1 h2=>hpost.keep b h1 (fun ho=>h2 (hOB b ho)),fun b h1 h2 =>?_,hpost.os,hpost.tape,hpost.output,fun b m hb=>(hpost.frz b m hb).imp id fun h=>h.imp id (hOB b),hpost.drawn,fun F k r h1 h2 => .inl (by
    have h1:(if F<H.length then Z.g F k else ρ1.g (H0.length+(F-H.length)) k)=some r:=h1
    rcases Nat.lt_or_ge F H.length with h|h
    · rw[if_pos h,h2]at h1;cases h1
    · exact h)⟩
  · obtain ⟨r,k1,k2,k3⟩:=hr.dR g hg;exact ⟨r,hext _ _ k1,k2,k3⟩
  · dsimp only at h1
    split at h1
    · rw[br];omega
    · rw[br,List.length_map];exact CD _ _ ‹_› h1
  · dsimp only at h1
    split at h1
    · exact Nat.lt_of_lt_of_le (hr.lt _ _ h1) hpost.size
    · exact hpost.rel.lt _ _ h1
  · dsimp only at h1
    split at h1
    · rename_i hid
      rw[eG id hid]at h2
      have hold:=hr.obj _ _ _ h1 h2
      by_cases hob:OB (cg Z V) H0 r.b
      · -- a block that the small memory owns
        obtain ⟨j,rj,oj,j1,j2,j3,j4⟩:=v8 hob
        obtain ⟨id',k1,k2⟩:=hsome j1
        obtain ⟨c1,c2,c3,c4⟩:=hown j id' oj k1 j2 (hoa _ j3)
        by_cases hal:o.alive=true
        · have Bw:id=id':=by
            rcases Nat.decEq id id' with hne|he
            · exact absurd j4 (hr.sep id' id rj r _ o k2 h1 c1 h2 (by rw[c2];exact j3) hal (Ne.symm hne))
            · exact he
          subst Bw
          rw[h1]at k2;cases k2
          rw[h2]at c1;cases c1
          have hj:=hr0.dom _ _ j1
          have Db:=hpost.rel.obj j r oj (hpost.ext _ _ j1) (by rw[hsame j hj];exact j2)
          have hb:=bt.back (ρ2:=⟨(cg Z V).f,ρ1.mem,(cg Z V).g⟩) hpost.ext (fun _ _ h=>h) (fun _ _ h=>h) (fun _ _ _ h=>h) (hr0.obj _ _ _ j1 j2) Db
          have hb2:=pO (V:=V) (Z:=⟨(cg Z V).f,ρ1.mem,(cg Z V).g⟩) (ρ':=⟨Z.f,ρ1.mem,Z.g⟩) (fun i r h=>hsome h) (fun _ _ h=>h) (fun F k r h=>eF h) c4 hb
          exact hb2.mono (Z:=⟨Z.f,ρ1.mem,Z.g⟩) ⟨hext.f,fun _ _ h=>h,hext.g⟩ rfl
        · cases o <;> first|trivial|exact absurd rfl hal
      · exact hold.mono hext (hpost.keep _ (hr.lt _ _ h1) hob)
    · rename_i hid
      obtain ⟨o0,a1,rfl,a3,a4,_⟩:=fc id o (by omega) h2
      exact pO (Z:=ρ1) (V:=eM V H0.length H.length) (ρ':=⟨fun id'=>if id'<H.length then Z id' else ρ1 (H0.length+(id'-H.length)),ρ1.mem,fun F k=>if F<H.length then Z.g F k else ρ1.g (H0.length+(F-H.length)) k⟩) xP (fun _ _ h=>h) rW a3 (hpost.rel.obj _ _ _ h1 a1)
  · dsimp only at h1
    split at h1
    · rename_i hid;rw[eG id hid]at h2;exact hr.base _ _ _ h1 h2 h3
    · rename_i hid
      obtain ⟨o0,a1,_,a3,a4,_⟩:=fc id o (by omega) h2
      exact hpost.rel.base _ _ _ h1 a1 a4
  · have fr:∀id r o,¬ id<H.length->ρ1 (H0.length+(id-H.length))=some r->(H++(jJ x0).map (rno (eM V H0.length H.length) d))[id]?=some o->w.heap.size<=r.b:=by
      intro id r o hid a b
      obtain ⟨o0,a1,_,_,_,_⟩:=fc id o (by omega) b
      exact hfresh _ r o0 (by omega) a a1
    dsimp only at h1 h2
    by_cases c1:id1<H.length
    · rw [if_pos c1] at h1
      rw[eG id1 c1]at g1
      by_cases c2:id2<H.length
      · rw [if_pos c2] at h2
        rw[eG id2 c2]at g2
        exact hr.sep id1 id2 r1 r2 o1 o2 h1 h2 g1 g2 k1 k2 hne
      · rw [if_neg c2] at h2
        have:=hr.lt _ _ h1
        have:=fr id2 r2 o2 c2 h2 g2
        omega
    · rw [if_neg c1] at h1
      have f1:=fr id1 r1 o1 c1 h1 g1
      by_cases c2:id2<H.length
      · rw [if_pos c2] at h2
        have:=hr.lt _ _ h2
        omega
      · rw [if_neg c2] at h2
        obtain ⟨p1,a1,_,_,a4,_⟩:=fc id1 o1 (by omega) g1
        obtain ⟨p2,b1,_,_,b4,_⟩:=fc id2 o2 (by omega) g2
        exact hpost.rel.sep _ _ r1 r2 p1 p2 h1 h2 a1 b1 a4 (hoa _ b4) (by omega)
  · dsimp only at h1
    split at h1
    · rename_i hid
      rw[eG id hid]at h2
      intro he
      rcases hpost.frz b m hb with g|g|g
      · exact (hr.mem b m g).2 id r o h1 h2 h3 he
      · have:=hr.lt _ _ h1;omega
      · obtain ⟨j, rj, oj, j1, j2, j3, j4⟩ := v8 g
        exact (hpost.rel.mem b m hb).2 j rj oj (hpost.ext _ _ j1) (by rw[hsame j (hr0.dom _ _ j1)];exact j2) j3 j4
    · rename_i hid
      obtain ⟨o0,a1,_,a3,a4,_⟩:=fc id o (by omega) h2
      exact (hpost.rel.mem b m hb).2 _ r o0 h1 a1 a4
  · dsimp only at h1
    split at h1
    · rw[h2]at h1;cases h1
    · omega
  · rcases h2 with ⟨id, r, o, k1, k2, k3, k4⟩ | ⟨F, k, r, z, cs, m, e⟩
    · simp only at k1
      split at k1
      · rename_i hid;rw[eG id hid]at k2;exact .inl ⟨id,r,o,k1,k2,k3,k4⟩
      · rename_i hid
        obtain ⟨o0,a1,_,_,_,_⟩:=fc id o (by omega) k2
        have:=hfresh _ r o0 (by omega) k1 a1
        omega
    · exact .inr ⟨F,k,r,z,cs,hfm m,e⟩
theorem am.frame{f:FuncId}{args:List Value}{H0 H new:Heap}{v:Value}{V:Nat->Option Nat}{d:Nat}(hp:Part P H0 H V d)(h:am P f args H0 [] (Is v (H0++new)))
  (hv:dw d v=true) (hn:new.all (fun o=>d8 d o&&o.owned)=true) :
  am P f (args.map (rn V d)) H [] (Is (rn (eM V H0.length H.length) d v) (H++new.map (rno (eM V H0.length H.length) d))):=by
 have h2:=am.BB (α:=Unit) (I:=fun _=>True) (vx:=fun _=>v) (jJ:=fun _=>new) hp (h.post fun v' H' ⟨a,b⟩=>⟨(),trivial,a,b⟩) (fun _ _=>hv) (fun _ _=>hn)
 exact h2.post fun v' H' ⟨_,_,a,b⟩=>⟨a,b⟩
theorem vT{P:Program}{mixed:Bool}(M n:Nat)(hlt:M<2 ^ n)(h:(List.range n).all (fun f => !(Nat.testBit M f) ||BC P mixed f)=true):gB P mixed M:=by
 intro f hf
 rcases Nat.lt_or_ge f n with hn|hn
 ·rw[List.all_eq_true]at h
  have:=h f (List.mem_range.2 hn)
  simpa[hf] using this
 ·have:Nat.testBit M f=false:=Nat.testBit_lt_two_pow (Nat.lt_of_lt_of_le hlt (Nat.pow_le_pow_right (by omega) hn))
  rw[this]at hf;cases hf
theorem rnL{V:Nat->Option Nat}{d:Nat}{v:Value}(h:bB 0 v=true):rn V (d+1) v=v/\dw (d+1) v=true:=by
 cases v with
 |pointer a=>cases a with|none=>exact ⟨rfl,rfl⟩|some a=>obtain ⟨b,o,s⟩:=a;cases s <;> simp[bB]at h
 |slice a l c=>cases a with|none=>exact ⟨rfl,rfl⟩|some a=>simp[bB]at h
 |map r=>cases r with|none=>exact ⟨rfl,rfl⟩|some r=>simp[bB]at h
 |func=>simp[bB]at h
 |agg=>simp[bB]at h
 |tuple=>simp[bB]at h
 |iface=>simp[bB]at h
 |_=>exact ⟨rfl,rfl⟩
theorem mM{V:Nat->Option Nat}{d:Nat}{p:Value->Bool}(hp:∀v,p v=true->rn V d v=v/\dw d v=true):∀{l:List Value},l.all p=true->l.map (rn V d)=l/\l.all (dw d)=true
 | [],_=>⟨rfl,rfl⟩
 |v :: l,h=>by
  simp only[List.all_cons,Bool.and_eq_true]at h
  obtain ⟨a,b⟩:=hp v h.1
  obtain ⟨c,e⟩:=mM hp h.2
  exact ⟨by rw[List.map_cons,a,c],by simp[b,e]⟩
theorem rnI{V:Nat->Option Nat}{d k:Nat}{p:Value->Bool}(hp:∀v,p v=true->rn V d v=v/\dw d v=true){cs:Array Value}(h:cs.toList.all p=true) :
  (rn V (d+1) (.iface k (.agg cs)) = .iface k (.agg cs)/\dw (d+1) (.iface k (.agg cs))=true)/\(rn V (d+1) (.iface k (.tuple cs)) = .iface k (.tuple cs)/\dw (d+1) (.iface k (.tuple cs))=true):=by
 obtain ⟨a,b⟩:=mM hp h
 exact ⟨⟨by unfold rn;simp only;rw[a],b⟩,⟨by unfold rn;simp only;rw[a],b⟩⟩
theorem rnD{V:Nat->Option Nat}{d:Nat}{v:Value}(h:cV 0 v=true):rn V (d+2) v=v/\dw (d+2) v=true:=by
 cases v with
 |iface k x =>
  cases x with
  |agg cs=>exact (rnI (d:=d+1) (fun v hv=>rnL hv) h).1
  |tuple cs=>exact (rnI (d:=d+1) (fun v hv=>rnL hv) h).2
  |_=>cases h
 |_=>exact rnL (d:=d+1) h
theorem rnC{V:Nat->Option Nat}{d:Nat}{v:Value}(h:aN 0 v=true):rn V (d+3) v=v/\dw (d+3) v=true:=by
 cases v with
 |iface k x =>
  cases x with
  |agg cs=>exact (rnI (d:=d+2) (fun v hv=>rnD hv) h).1
  |tuple cs=>exact (rnI (d:=d+2) (fun v hv=>rnD hv) h).2
  |_=>cases h
 |pointer a=>cases a with|none=>exact ⟨rfl,rfl⟩|some a=>obtain ⟨b,o,s⟩:=a;cases s <;> simp[aN]at h
 |slice a l c=>cases a with|none=>exact ⟨rfl,rfl⟩|some a=>simp[aN]at h
 |map r=>cases r with|none=>exact ⟨rfl,rfl⟩|some r=>simp[aN]at h
 |func=>simp[aN]at h
 |agg=>simp[aN]at h
 |tuple=>simp[aN]at h
 |_=>exact ⟨rfl,rfl⟩
theorem kc{V:Nat->Option Nat}{d:Nat}:∀{l:List Value},l.all (aN 0)=true->l.map (rn V (d+3))=l/\l.all (dw (d+3))=true
 | [],_=>⟨rfl,rfl⟩
 |v :: l,h=>by
  simp only[List.all_cons,Bool.and_eq_true]at h
  obtain ⟨a,b⟩:=rnC (V:=V) (d:=d) h.1
  obtain ⟨c,e⟩:=kc (V:=V) (d:=d) h.2
  exact ⟨by rw[List.map_cons,a,c],by simp[b,e]⟩
theorem rnV{V:Nat->Option Nat}{d:Nat}{v:Value}(h:cH 0 v=true):rn V (d+5) v=v/\dw (d+5) v=true:=by
 cases v with
 |agg cs =>
  obtain ⟨a,b⟩:=kc (V:=V) (d:=d+1) h
  exact ⟨by unfold rn;simp only;rw[a],b⟩
 |tuple vs =>
  have key:∀l:List Value,(l.all fun v=>match v with| .agg cs=>cs.toList.all (aN 0)|v=>aN 0 v)=true->l.map (rn V (d+4))=l/\l.all (dw (d+4))=true:=by
   intro l
   induction l with
   |nil=>intro _;exact ⟨rfl,rfl⟩
   |cons v l ih =>
    intro hl
    simp only[List.all_cons,Bool.and_eq_true]at hl
    obtain ⟨c,e⟩:=ih hl.2
    have hv:rn V (d+4) v=v/\dw (d+4) v=true:=by
     cases v with
     |agg cs =>
      obtain ⟨a,b⟩:=kc (V:=V) (d:=d) hl.1
      exact ⟨by unfold rn;simp only;rw[a],b⟩
     |_=>exact rnC (d:=d+1) hl.1
    exact ⟨by rw[List.map_cons,hv.1,c],by simp[hv.2,e]⟩
  obtain ⟨a,b⟩:=key vs.toList h
  exact ⟨by unfold rn;simp only;rw[a],b⟩
 |_=>exact rnC (d:=d+2) h
theorem ff{n:Nat}{v:Value}(h:bB 0 v=true):bB n v=true:=by
 cases v with
 |pointer a=>cases a with|none=>rfl|some a=>obtain ⟨b,o,s⟩:=a;cases s <;> simp[bB]at h
 |slice a l c=>cases a with|none=>rfl|some a=>simp[bB]at h
 |map r=>cases r with|none=>rfl|some r=>simp[bB]at h
 |func=>simp[bB]at h
 |agg=>simp[bB]at h
 |tuple=>simp[bB]at h
 |iface=>simp[bB]at h
 |_=>first|rfl|exact h
theorem ji{p q:Value->Bool}(hp:∀v,p v=true->q v=true){l:List Value}(h:l.all p=true):l.all q=true:=by
 rw[List.all_eq_true]at *;exact fun v hv=>hp v (h v hv)
theorem lT{n:Nat}{v:Value}(h:cV 0 v=true):cV n v=true:=by
 cases v with
 |iface k x =>
  cases x with
  |agg cs=>exact ji (fun v hv=>ff hv) h
  |tuple cs=>exact ji (fun v hv=>ff hv) h
  |_=>cases h
 |pointer a=>exact ff (n:=n) (v:=.pointer a) h
 |slice a l c=>exact ff (n:=n) (v:=.slice a l c) h
 |map r=>exact ff (n:=n) (v:=.map r) h
 |_=>first|rfl|exact h
theorem dT{n:Nat}{v:Value}(h:aN 0 v=true):aN n v=true:=by
 cases v with
 |iface k x =>
  cases x with
  |agg cs=>exact ji (fun v hv=>lT hv) h
  |tuple cs=>exact ji (fun v hv=>lT hv) h
  |_=>cases h
 |pointer a=>cases a with|none=>rfl|some a=>obtain ⟨b,o,s⟩:=a;cases s <;> simp[aN]at h
 |slice a l c=>cases a with|none=>rfl|some a=>simp[aN]at h
 |map r=>cases r with|none=>rfl|some r=>simp[aN]at h
 |func=>simp[aN]at h
 |agg=>simp[aN]at h
 |tuple=>simp[aN]at h
 |_=>first|rfl|exact h
theorem qu{n:Nat}{l:List Value}(h:l.all (aN 0)=true):l.all (aN n)=true:=by
 rw[List.all_eq_true]at *;exact fun v hv=>dT (h v hv)
theorem sA{n:Nat}{v:Value}(h:cH 0 v=true):cH n v=true:=by
 cases v with
 |agg cs=>exact qu h
 |tuple vs =>
  simp only[cH,List.all_eq_true]at *
  intro v hv
  have:=h v hv
  cases v with
  |agg cs=>simp only[List.all_eq_true]at *;exact fun x hx=>dT (this x hx)
  |_=>exact dT this
 |bool b=>rfl
 |int k n=>rfl
 |float k n=>rfl
 |string s=>rfl
 |nilFunc=>rfl
 |nilIface=>rfl
 |pointer a=>exact dT (n:=n) (v:=.pointer a) h
 |slice a l c=>exact dT (n:=n) (v:=.slice a l c) h
 |map r=>exact dT (n:=n) (v:=.map r) h
 |iface k x=>exact dT (n:=n) (v:=.iface k x) h
 |_=>simp[cH,aN]at h
theorem am.clean{f:FuncId}{args:List Value}{H:Heap}{v:Value}(h:am P f args H [] (fun v' _=>v'=v))(hb:cH 0 v=true):am P f args H [] (Is v H):=by
 refine h.trim ?_
 rintro v' H' hl hs rfl
 refine ⟨sA hb,(fun _ h=>(by cases h)),rfl,?_⟩
 refine List.ext_getElem? (fun i =>?_)
 rw[List.getElem?_take]
 split
 ·rename_i hi;exact hs i hi (by simp)
 ·rename_i hi;exact (List.getElem?_eq_none (by omega)).symm
section
variable {mask:Nat} {dm:Value->MS} {rounds:Nat} {mixed:Bool}
theorem vcP(fL:gB P mixed mask)(gy:mixed=true->P.follows .mixedOrders=true)(n:Nat){f:FuncId}{args:List Value}{h:Hint}{v:Value}(hargs:∀V,args.map (rn V 5)=args)(hv:cH 0 v=true)
  (hc:vF P mask dm rounds mixed n true f args ⟨P.globals.size,.leaf⟩ (some []) h (fun v' _ _=>v'=v)) (H:Heap) (hH:P.globals.size<=H.length):am P f args H [] (Is v H):=by
 have h1:=am.clean (vc fL gy n (Q:=fun v' _=>v'=v) hc) hv
 have fM:∀(id:Nat) (o:ab),(HT.list ⟨P.globals.size,.leaf⟩)[id]?=some o->o = .dead:=by
  intro id o ho
  rw[HT.aK]at ho
  unfold HT.get at ho
  cases hb:Nat.blt id P.globals.size with
  |true=>simp only[hb,cond_true]at ho;cases ho;rfl
  |false=>simp only[hb,cond_false]at ho;cases ho
 have hlen:(HT.list ⟨P.globals.size,.leaf⟩).length=P.globals.size:=HT.length _
 have hp:Part P (HT.list ⟨P.globals.size,.leaf⟩) H (fun id=>if id<P.globals.size then some id else none) 5:=by
  refine ⟨fun g hg=>if_pos hg,fun id id' h =>?_,fun id hid =>?_,fun a b c h1 h2 =>?_,fun id id' o _ ho => .inl (fM id o ho)⟩
  ·split at h
   ·cases h;rw[hlen];omega
   ·cases h
  ·rw[hlen]at hid;exact ⟨id,if_pos hid⟩
  ·split at h1
   ·split at h2
    ·cases h1;cases h2;rfl
    ·cases h2
   ·cases h1
 have h2:=am.frame (new:=[]) (d:=5) hp (by simpa using h1) (rnV (V:=fun _=>none) (d:=0) hv).2 rfl
 rw[hargs,(rnV (d:=0) hv).1]at h2
 simpa using h2
def gu(n0 d:Nat)(v:Value)(new:List (Bool×ab)):KV:=fun v' H' h' =>
 match h' with
 | .again V=>vC n0 (n0+new.length) [] V=true/\wk v' (rn (sg n0 V) d v)/\rq H' n0 (sg n0 V) d n0 new
 |_=>False
theorem am.pack{f:FuncId}{args:List Value}{H0:HT}{v:Value}{new:List (Bool×ab)}{d:Nat}(h:am P f args H0.list [] (fun v' H' => ∃(H2:HT) (V:List (Nat×Nat)),H'=H2.list/\vC H0.n (H0.n+new.length) [] V=true/\wk v' (rn (sg H0.n V) d v)/\rq H2 H0.n (sg H0.n V) d H0.n new)) :
  am P f args H0.list [] (Is v (H0.list++new.map (·.2))):=by
 refine ⟨h.1,fun B Z w args' hr ha=>(h.2 B Z w args' hr ha).mono ?_⟩
 rintro e w' ⟨v',r,ρ',H',rfl,hv,hp,H2,V,rfl,hs,hw,hn⟩
 have hh:nE 0 ⟨fun _=>junk,.leaf⟩ H2 H0 d [] V [] [] new []:=⟨by simp only[Bool.and_eq_true];exact ⟨hs,rfl,rfl,rfl⟩,trivial,trivial,hn,trivial⟩
 have he:=hZ hh
 have hlist:(gM H0 [] new []).list=H0.list++new.map (·.2):=by
  have key:∀(l:List (Bool×ab)) (H:HT),(l.foldl (fun H p=>H.push p.2) H).list=H.list++l.map (·.2):=by
   intro l
   induction l with
   |nil=>intro H;simp
   |cons p l ih=>intro H;rw[List.foldl_cons,ih,HT.bT];simp
  exact key new H0
 rw[hlist]at he
 obtain ⟨q1,_⟩:=he.post hr hp
 refine ⟨v,r,cg ρ' (sg H0.n V),_,rfl,?_,q1,rfl,rfl⟩
 have hσ:∀id id' r,sg H0.n V id=some id'->ρ' id'=some r->(cg ρ' (sg H0.n V)) id=some r:=fun id id' r h1 h2=>by show Option.bind _ _=_;rw[h1];exact h2
 exact jt (ρ':=ρ') (Z:=cg ρ' (sg H0.n V)) hσ (fun _ _ h=>h) (fun F F' k r h1 h2=>by show Option.bind _ _=_;rw[h1];exact h2) d (hw _ _ hv)
theorem vcN(fL:gB P mixed mask)(gy:mixed=true->P.follows .mixedOrders=true)(n:Nat){f:FuncId}{args:List Value}{H0:HT}{h:Hint}{v:Value}{new:List (Bool×ab)}{d:Nat}
  (hc:vF P mask dm rounds mixed n true f args H0 (some []) h (gu H0.n d v new)):am P f args H0.list [] (Is v (H0.list++new.map (·.2))):=by
 refine am.pack (d:=d) (((qK fL gy n).1 f args H0 (some []) h _ hc).post ?_)
 rintro v' H' ⟨H2,h2,e,hk⟩
 cases h2 with
 |again V=>exact ⟨H2,V,e,hk⟩
 |_=>exact hk.elim
end
def cj(n:Nat)(cs:List Value)(off:Nat):Option Value:=if off+n<=cs.length then some (.agg ⟨(cs.drop off).take n⟩) else none
def yE{α:Type}(f:α->List Value)(n:Nat)(cs:List Value)(off:Nat)(xs:List α):Prop:=∀(k:Nat) (x:α),xs[k]?=some x->(f x).length=n/\(cs.drop (off+k*n)).take n=f x
theorem yE.cell{α:Type}{f:α->List Value}{n:Nat}{cs:List Value}{off:Nat}{xs:List α}(h:yE f n cs off xs){k c:Nat}{x:α}(hx:xs[k]?=some x){v:Value}(hv:(f x)[c]?=some v):cs[off+k*n+c]?=some v:=by
 obtain ⟨h1,h2⟩:=h k x hx
 have hc:c<n:=by have:=(List.getElem?_eq_some_iff.1 hv).1;omega
 rw[<- h2,List.getElem?_take,if_pos hc,List.getElem?_drop]at hv
 exact hv
theorem yE.agg{α:Type}{f:α->List Value}{n:Nat}{cs:List Value}{off:Nat}{xs:List α}(h:yE f n cs off xs){k c m:Nat}{x:α}(hx:xs[k]?=some x)(hm:c+m<=n)(h0:0<m):cj m cs (off+k*n+c)=some (.agg ⟨((f x).drop c).take m⟩):=by
 obtain ⟨h1,h2⟩:=h k x hx
 have hl:(f x).length<=(cs.drop (off+k*n)).length:=by rw[<- h2,List.length_take];omega
 rw[List.length_drop]at hl
 unfold cj
 rw[if_pos (by omega),<- h2,List.drop_take,List.take_take,List.drop_drop,Nat.min_eq_left (by omega)]
theorem VRl.inv{Z:Ren}{v:Value}{l:List Value}{m:List Value}(h:VRl Z (v :: l) m):∃x l',m=x :: l'/\VR Z v x/\VRl Z l l':=by
 cases m with
 |nil=>exact absurd h.1 (by simp)
 |cons x l'=>exact ⟨x,l',rfl,h.2 0 v x rfl rfl,by have:=h.1;simpa using this,fun i a b c d=>h.2 (i+1) a b (by simpa using c) (by simpa using d)⟩
def cz(P:Program)(base:Nat)(H:Heap)(args args2:List Value)(gs:Heap):Prop :=
 ∀(B:Nat) (Z:Ren) (w:World) (xs:List Value),Rel P B Z H w->base<=H.length->VRl Z args xs->∃ρ1,Post P B base [] Z H w ρ1 (H++gs) w/\VRl ρ1 args2 xs
theorem cz.nil{base:Nat}{H:Heap}:cz P base H [] [] []:=fun B Z w xs hr hb hv=>⟨Z,by rw[List.append_nil];exact Post.refl hr,hv⟩
theorem cz.keep{base:Nat}{H:Heap}{a:Value}{as1 bs:List Value}{gs:Heap}(h:cz P base H as1 bs gs):cz P base H (a :: as1) (a :: bs) gs:=by
 intro B Z w xs hr hb hv
 obtain ⟨x,l,rfl,h1,h2⟩:=hv.inv
 obtain ⟨ρ1,p,h3⟩:=h B Z w l hr hb h2
 exact ⟨ρ1,p,.cons (h1.mono p.ext) h3⟩
theorem cz.deep{base n:Nat}{H:Heap}{cs:List Value}{as1 bs:List Value}{gs:Heap}(h:cz P base (H ++ [.cells false 0 cs]) as1 bs gs) :
  cz P base H (.iface (n+1) (.agg ⟨cs⟩) :: as1) (.slice (some ⟨H.length,0,some 2⟩) n n :: bs) (.cells false 0 cs :: gs):=by
 intro B Z w xs hr hb hv
 obtain ⟨x,l,rfl,h1,h2⟩:=hv.inv
 obtain ⟨ρ1,p,h3⟩:=VR.thaw (base:=base) (M:=[]) hr hb h1
 obtain ⟨ρ2,q,h4⟩:=h B ρ1 w l p.rel (Nat.le_trans hb p.len) (h2.mono p.ext)
 refine ⟨ρ2,?_,.cons (h3.mono q.ext) h4⟩
 have:=p.trans q
 rw[List.append_assoc]at this
 exact this
theorem cz.agg{base n i:Nat}{H:Heap}{cs vs:List Value}{as1 bs:List Value}{gs:Heap}(hi:vs[i]?=some (.iface (n+1) (.agg ⟨cs⟩)))(h:cz P base (H ++ [.cells false 0 cs]) as1 bs gs) :
  cz P base H (.agg ⟨vs⟩ :: as1) (.agg ⟨vs.set i (.slice (some ⟨H.length,0,some 2⟩) n n)⟩ :: bs) (.cells false 0 cs :: gs):=by
 intro B Z w xs hr hb hv
 obtain ⟨x,l,rfl,h1,h2⟩:=hv.inv
 have hl:=(List.getElem?_eq_some_iff.1 hi).1
 cases h1 with
 | @agg _ cs' g1 g2 =>
  have hlt:i<cs'.size:=by rw[<- g1];simpa using hl
  obtain ⟨ρ1,p,h3⟩:=VR.thaw (base:=base) (M:=[]) hr hb (g2 i _ _ (by simpa using hi) (Array.getElem?_eq_getElem hlt))
  obtain ⟨ρ2,q,h4⟩:=h B ρ1 w l p.rel (Nat.le_trans hb p.len) (h2.mono p.ext)
  have hpq:=p.trans q
  refine ⟨ρ2,?_,.cons (.agg (by simpa using g1) fun j v v' a b =>?_) h4⟩
  ·rw[List.append_assoc]at hpq;exact hpq
  have a':(vs.set i (.slice (some ⟨H.length,0,some 2⟩) n n))[j]?=some v:=by simpa using a
  rw[List.getElem?_set]at a'
  split at a'
  ·rename_i e;subst e
   cases a'
   rw[Array.getElem?_eq_getElem hlt]at b;cases b
   exact h3.mono q.ext
  ·exact (g2 j v v' (by simpa using a') b).mono hpq.ext
theorem am.thaw{f:FuncId}{args args2:List Value}{H gs:Heap}{M:List Nat}{Q:Value->Heap->Prop}(ht:cz P H.length H args args2 gs)(h:am P f args2 (H++gs) M Q):am P f args H M Q:=by
 refine ⟨h.1,fun B Z w args' hr ha =>?_⟩
 obtain ⟨ρ1,p,hv⟩:=ht B Z w args'.toList hr (Nat.le_refl _) ha
 refine (h.2 B ρ1 w args' p.rel hv).mono ?_
 rintro e w' ⟨v,v',ρ',H',rfl,h1,h2,h3⟩
 exact ⟨v,v',ρ',H',rfl,h1,(p.weaken (Nat.le_refl _) (fun _ h=>by cases h)).trans (h2.weaken (by rw[br];omega) (fun _ h _=>h)),h3⟩
def dh(L k n:Nat)(id:Nat):Option Nat:=if id<L then some id else if id<L+n then some (id+k) else none
theorem am.drop{f:FuncId}{args:List Value}{H K gs new:Heap}{M:List Nat}{v v2:Value}{d:Nat}(h:am P f args H M (Is v2 (K++gs++new)))(hK:K.length=H.length)(hs:∀id,id<H.length->id ∉ M->K[id]?=H[id]?)
  (hM:∀id o,id<H.length->id∈M->K[id]?=some o->(∃z cs,o = .cells true z cs)/\rno (dh H.length gs.length new.length) d o=o) (hv:rn (dh H.length gs.length new.length) d v=v2)
  (hn:new.map (rno (dh H.length gs.length new.length) d)=new) (hc:∀o∈new,∃z cs,o = .cells true z cs):am P f args H M (Is v (K++new)):=by
 refine ⟨h.1,fun B Z w args' hr ha=>(h.2 B Z w args' hr ha).mono ?_⟩
 rintro e w' ⟨v',r,ρ',H',rfl,hv',hp,rfl,rfl⟩
 have he:Emb H M 0 (dh H.length gs.length new.length) d (fun _=>junk) (K++new) (fun _=>junk) (K++gs++new):=by
  refine ⟨by rw[br];omega,fun id h=>if_pos h,fun id id' h =>?_,fun id1 id2 id' o1 o2 h1 h2 _ _ _ _ =>?_,fun t h=>by omega,fun id h h2=>by rw[List.getElem?_append_left (by omega)];exact hs id h h2,fun id id' o h1 h2 h3 =>?_⟩
  ·unfold dh at h
   rw[br,hK]
   split at h
   ·omega
   ·split at h
    ·assumption
    ·cases h
  ·unfold dh at h1 h2
   split at h1 <;> split at h2 <;> (try split at h1) <;> (try split at h2) <;> first|(cases h1;done)|(cases h2;done)|(cases h1;cases h2;omega)|(simp only[Option.some.injEq]at h1 h2;omega)
  ·by_cases hlt:id<H.length
   ·rcases h2 with h2|h2
    ·omega
    ·have e1:dh H.length gs.length new.length id=some id:=if_pos hlt
     rw[e1]at h1;cases h1
     rw[List.getElem?_append_left (by omega)]at h3
     obtain ⟨⟨z,cs,rfl⟩,h5⟩:=hM id o hlt h2 h3
     refine .inr ⟨.cells true z cs,?_,rfl,rfl,fun ρ1 ρ2 r1 w1 hle hob =>?_,fun z2 cs2 e=>by cases e⟩
     ·rw[List.append_assoc,List.getElem?_append_left (by omega)];exact h3
     ·refine kb (d:=d) hle.1 hle.2 hle.3 (o:=.cells true z cs) ?_ (fun q=>by rw[h5]at q;cases q)
      rw[h5];exact hob
   ·unfold dh at h1
    rw[if_neg hlt]at h1
    split at h1
    ·rename_i hl2
     cases h1
     rw[List.getElem?_append_right (by omega),hK]at h3
     have ho:=List.mem_of_getElem? h3
     obtain ⟨z,cs,rfl⟩:=hc o ho
     have h4:(new.map (rno (dh H.length gs.length new.length) d))[id-H.length]?=some (rno (dh H.length gs.length new.length) d (.cells true z cs)):=by rw[List.getElem?_map,h3];rfl
     rw[hn,h3]at h4
     have h5:rno (dh H.length gs.length new.length) d (.cells true z cs) = .cells true z cs:=(Option.some.inj h4).symm
     refine .inr ⟨.cells true z cs,?_,rfl,rfl,fun ρ1 ρ2 r1 w1 hle hob =>?_,fun z2 cs2 e=>by cases e⟩
     ·rw[List.getElem?_append_right (by rw[br];omega),br,hK,show id+gs.length-(H.length+gs.length)=id-H.length by omega];exact h3
     ·refine kb (d:=d) hle.1 hle.2 hle.3 (o:=.cells true z cs) ?_ (fun q=>by rw[h5]at q;cases q)
      rw[h5];exact hob
    ·cases h1
 obtain ⟨q1,_⟩:=he.post hr hp
 refine ⟨v,r,cg ρ' (dh H.length gs.length new.length),_,rfl,?_,q1,rfl,rfl⟩
 have hσ:∀id id' r,dh H.length gs.length new.length id=some id'->ρ' id'=some r->(cg ρ' (dh H.length gs.length new.length)) id=some r:=fun id id' r h1 h2=>by show Option.bind _ _=_;rw[h1];exact h2
 refine jt (ρ':=ρ') (Z:=cg ρ' (dh H.length gs.length new.length)) hσ (fun _ _ h=>h) (fun F F' k r h1 h2=>by show Option.bind _ _=_;rw[h1];exact h2) d ?_
 rw[hv];exact hv'
end
end Go.K
namespace Go.K
variable {P:Program}
def qN(P:Program):Nat->List Field->Nat->Bool
 |off,[],tot=>off == tot
 |off,f :: fs,tot=>f.offset == off&&qN P (off+P.cellsOf f.type) fs tot
def fK(P:Program):Nat->TypeId->Bool
 |0,_=>false
 |n+1,t=>match P.underlying t with
  |some .bool=>true
  |some (.int _)=>true
  |some .string=>true
  |some (.struct fs)=>fs.toList.all (fun f=>fK P n f.type)&&qN P 0 fs.toList (P.cellsOf t)
  |some (.slice e)=>fK P n e&&decide (0<P.cellsOf e)
  |some (.array k e)=>fK P n e&&decide (0<P.cellsOf e)&&(P.cellsOf t == k*P.cellsOf e)
  |_=>false
def zb(P:Program)(n:Nat)(t:TypeId):Bool:=fK P n t&&match P.underlying t with|some (.array _ _)=>false|_=>true
def dA(g:TypeId->List Value->Prop):List TypeId->List Value->Prop
 | [],cs=>cs=[]
 |t :: ts,cs => ∃c rest,cs=c++rest/\g t c/\dA g ts rest
def Good(P:Program)(H:Heap):Nat->TypeId->List Value->Prop
 |0,_,_=>False
 |n+1,t,cs=>match P.underlying t with
  |some .bool => ∃b,cs=[.bool b]
  |some (.int k) => ∃x,cs=[.int k x]/\k.min<=x/\x<=k.max
  |some .string => ∃s,cs=[.string s]
  |some (.struct fs)=>dA (Good P H n) (fs.toList.map (·.type)) cs
  |some (.slice e)=>cs=[.slice none 0 0]∨cs=[.slice (some ⟨0,0,some 0⟩) 0 0] ∨
    ∃id len cs',cs=[.slice (some ⟨id,0,none⟩) len len]/\H[id]?=some (.cells false 0 cs')/\cs'.length=len*P.cellsOf e/\len<=maxLen/\dA (Good P H n) (List.replicate len e) cs'
  |some (.array k e)=>dA (Good P H n) (List.replicate k e) cs
  |_=>False
theorem dA.mono{g g':TypeId->List Value->Prop}(h:∀t cs,g t cs->g' t cs):∀{ts:List TypeId} {cs:List Value},dA g ts cs->dA g' ts cs
 | [],_,hl=>hl
 |_ :: _,_,⟨c,rest,e,h1,h2⟩=>⟨c,rest,e,h _ _ h1,dA.mono h h2⟩
theorem Good.mono{H K:Heap}:∀{n:Nat} {t:TypeId} {cs:List Value},Good P H n t cs->Good P (H++K) n t cs:=by
 intro n
 induction n with
 |zero=>intro t cs h;exact h
 |succ n ih =>
  intro t cs h
  unfold Good at h ⊢
  split at h
  ·exact h
  ·exact h
  ·exact h
  ·exact dA.mono (fun _ _=>ih) h
  ·rcases h with h|h|⟨id,len,cs',h1,h2,h3,h4,h5⟩
   ·exact .inl h
   ·exact .inr (.inl h)
   ·exact .inr (.inr ⟨id,len,cs',h1,by rw[List.getElem?_append_left (List.getElem?_eq_some_iff.1 h2).1];exact h2,h3,h4,dA.mono (fun _ _=>ih) h5⟩)
  ·exact dA.mono (fun _ _=>ih) h
  ·exact h
structure Ext(P:Program)(B:Nat)(W:World)(Z:Ren)(H:Heap)(ρ':Ren)(H':Heap):Prop where
 rel:Rel P B ρ' H' W
 le:Ren.le Z ρ'
 pre:∃K,H'=H++K
theorem Ext.refl{B:Nat}{W:World}{Z:Ren}{H:Heap}(h:Rel P B Z H W):Ext P B W Z H Z H:=⟨h,Ren.le_refl _,[],by simp⟩
theorem Ext.trans{B:Nat}{W:World}{Z ρ1 ρ2:Ren}{H H1 H2:Heap}(h:Ext P B W Z H ρ1 H1)(k:Ext P B W ρ1 H1 ρ2 H2):Ext P B W Z H ρ2 H2:=by
 obtain ⟨K1,rfl⟩:=h.pre
 obtain ⟨K2,rfl⟩:=k.pre
 exact ⟨k.rel,Ren.le_trans h.le k.le,K1++K2,by simp⟩
theorem Ext.row{B:Nat}{W:World}{Z:Ren}{H:Heap}(hr:Rel P B Z H W){ri:RI}{cs:List Value}(hown:ri.own=false)(hz:ri.z=0)(hlt:ri.b<W.heap.size)(hb:ri.b<B)
  (ho:∃cs' ty fz,W.heap[ri.b]?=some (.cells cs' ty fz)/\cs'.size=ri.n/\∀(i:Nat) (v:Value),cs[i]?=some v->∃v':Value,cs'[i+ri.s]?=some v'/\VR Z v v') :
  Ext P B W Z H (Z.set H.length ri) (H ++ [.cells false 0 cs]):=by
 have hnone:Z H.length=none:=by
  cases h:Z H.length with
  |none=>rfl
  |some r=>exact absurd (hr.dom _ _ h) (Nat.lt_irrefl _)
 have hle:=Ren.dO (r:=ri) hnone
 have hget:∀id,id≠H.length->id<H.length+1->(H ++ [ab.cells false 0 cs])[id]?=H[id]? := fun id h1 h2=>List.getElem?_append_left (by omega)
 have hnew:(H ++ [ab.cells false 0 cs])[H.length]?=some (.cells false 0 cs):=by simp
 have hdom:∀id r,Z.set H.length ri id=some r->id<H.length+1:=fun id r h=>by
  by_cases e:id=H.length
  ·omega
  ·rw[Ren.aP e]at h;have:=hr.dom _ _ h;omega
 refine ⟨⟨hr.bsize,fun g hg =>?_,fun id r h=>by simpa using hdom id r h,fun id r h =>?_,fun id r o h1 h2 =>?_,fun id r o h1 h2 h3 =>?_,?_,fun b m hm=>⟨(hr.mem b m hm).1,fun id r o h1 h2 h3 =>?_⟩,
   hr.fam.keep hle (fun _ _ _ h=>h) (fun F z cs hF h=>by rw[List.getElem?_append_left hF]at h;exact h) (by simp) (Nat.le_refl _) (fun _ _=>rfl) (fun id r o h1 h2 h3=>by
    by_cases e:id=H.length
    ·subst e;rw[Ren.aQ]at h1;cases h1;exact hr.fam.CH hb
    ·rw[Ren.aP e]at h1
     rw[hget id e (by have:=hr.dom _ _ h1;omega)]at h2
     exact hr.fam.free h1 h2 h3) (fun b m h=>hr.fam.eI h)⟩,hle,_,rfl⟩
 ·obtain ⟨r,h1,h2,h3⟩:=hr.dR g hg
  exact ⟨r,hle _ _ h1,h2,h3⟩
 ·by_cases e:id=H.length
  ·subst e;rw[Ren.aQ]at h;cases h;exact hlt
  ·rw[Ren.aP e]at h;exact hr.lt _ _ h
 ·by_cases e:id=H.length
  ·subst e
   rw[Ren.aQ]at h1;cases h1
   rw[hnew]at h2;cases h2
   obtain ⟨cs',ty,fz,g1,g2,g3⟩:=ho
   exact ⟨hown.symm,hz.symm,cs',ty,fz,g1,g2,fun h=>(by cases h),fun i v hv=>let ⟨v',a,b⟩:=g3 i v hv; ⟨v',a,b.mono hle⟩⟩
  ·rw[Ren.aP e]at h1
   rw[hget id e (by have:=hr.dom _ _ h1;omega)]at h2
   exact (hr.obj id r o h1 h2).mono hle rfl
 ·by_cases e:id=H.length
  ·subst e;rw[hnew]at h2;cases h2;cases h3
  ·rw[Ren.aP e]at h1
   rw[hget id e (by have:=hr.dom _ _ h1;omega)]at h2
   exact hr.base id r o h1 h2 h3
 ·intro id id' r r' o o' h1 h1' h2 h2' h3 h3' hne
  by_cases e:id=H.length
  ·subst e;rw[hnew]at h2;cases h2;cases h3
  ·rw[Ren.aP e]at h1
   rw[hget id e (by have:=hr.dom _ _ h1;omega)]at h2
   by_cases e':id'=H.length
   ·subst e'
    rw[Ren.aQ]at h1';cases h1'
    have:=hr.base id r o h1 h2 h3
    omega
   ·rw[Ren.aP e']at h1'
    rw[hget id' e' (by have:=hr.dom _ _ h1';omega)]at h2'
    exact hr.sep id id' r r' o o' h1 h1' h2 h2' h3 h3' hne
 ·by_cases e:id=H.length
  ·subst e;rw[hnew]at h2;cases h2;cases h3
  ·rw[Ren.aP e]at h1
   rw[hget id e (by have:=hr.dom _ _ h1;omega)]at h2
   exact (hr.mem b m hm).2 id r o h1 h2 h3
end Go.K
namespace Go.K
variable {P:Program} {HH:Type} {enc:TypeId×Value->HH} {W:World} {base:Nat} {held:Bool} {B:Nat}
theorem VRl.length{Z:Ren}{l l':List Value}(h:VRl Z l l'):l.length=l'.length:=h.1
theorem jV{m n:Nat}(IH:∀(t:TypeId) (cs:List Value) (x:DataW HH×List MemPlace) (Z:Ren) (H:Heap),fK P n t=true->DataW.trod enc P W base (fun _=>true) held m t cs=some x->Rel P B Z H W->∃ρ' H' cs',Ext P B W Z H ρ' H'/\VRl ρ' cs' cs/\Good P H' n t cs') :
  ∀(l:List (TypeId×List Value)),(∀p∈l,fK P n p.1=true/\∃x,DataW.trod enc P W base (fun _=>true) held m p.1 p.2=some x)->∀(Z:Ren) (H:Heap),Rel P B Z H W ->
   ∃ρ' H' cs',Ext P B W Z H ρ' H'/\VRl ρ' cs' (l.map (·.2)).flatten/\dA (Good P H' n) (l.map (·.1)) cs':=by
 intro l
 induction l with
 |nil=>intro _ Z H hr;exact ⟨Z,H,[],Ext.refl hr,.nil Z,rfl⟩
 |cons p ps ih =>
  intro hp Z H hr
  obtain ⟨h1,x,h2⟩:=hp p (List.mem_cons_self ..)
  obtain ⟨ρ1,H1,c1,e1,v1,g1⟩:=IH p.1 p.2 x Z H h1 h2 hr
  obtain ⟨ρ2,H2,c2,e2,v2,g2⟩:=ih (fun q hq=>hp q (List.mem_cons_of_mem _ hq)) ρ1 H1 e1.rel
  refine ⟨ρ2,H2,c1++c2,e1.trans e2,?_,c1,c2,rfl,?_,g2⟩
  ·simp only[List.map_cons,List.flatten_cons]
   exact VRl.append (v1.mono e2.le) v2
  ·obtain ⟨K,rfl⟩:=e2.pre
   exact g1.mono
theorem vu:∀(fs:List Field) (off tot:Nat) (cs:List Value),qN P off fs tot=true->cs.length=tot->off<=tot/\((fs.map (fun f=>(cs.drop f.offset).take (P.cellsOf f.type))).flatten=cs.drop off):=by
 intro fs
 induction fs with
 |nil =>
  intro off tot cs h hl
  simp only[qN,beq_iff_eq]at h
  subst h
  exact ⟨Nat.le_refl _,by rw[<- hl];simp⟩
 |cons f fs ih =>
  intro off tot cs h hl
  simp only[qN,Bool.and_eq_true,beq_iff_eq]at h
  obtain ⟨h1,h2⟩:=h
  obtain ⟨h3,h4⟩:=ih _ _ cs h2 hl
  refine ⟨by omega,?_⟩
  simp only[List.map_cons,List.flatten_cons,h4,h1]
  rw[<- List.drop_drop]
  exact List.take_append_drop ..
theorem pE:∀(n size:Nat),(List.replicate n size).sum=n*size
 |0,size=>by simp
 |n+1,size=>by rw[List.replicate_succ,List.sum_cons,pE n size,Nat.add_mul];omega
theorem flat_get{n size:Nat}{css:Nat->List Value}(hl:∀i,i<n->(css i).length=size)(hs:0<size):∀(j:Nat),j<n*size->((List.range n).map css).flatten[j]?=(css (j / size))[j % size]? := by
 induction n with
 |zero=>intro j hj;omega
 |succ n ih =>
  intro j hj
  rw[List.range_succ,List.map_append,List.flatten_append]
  have hlen:((List.range n).map css).flatten.length=n*size:=by
   rw[List.length_flatten,List.map_map]
   have:(List.range n).map (List.length ∘ css)=List.replicate n size:=by
    rw[List.eq_replicate_iff]
    refine ⟨by simp,fun b hb =>?_⟩
    obtain ⟨i,hi,rfl⟩:=List.mem_map.1 hb
    exact hl i (by have:=List.mem_range.1 hi;omega)
   rw[this];exact pE n size
  rcases Nat.lt_or_ge j (n*size) with h|h
  ·rw[List.getElem?_append_left (by omega)]
   exact ih (fun i hi=>hl i (by omega)) j h
  ·rw[List.getElem?_append_right (by omega),hlen]
   have h1:j / size=n:=by
    rw[Nat.div_eq_of_lt_le h]
    rw[Nat.add_mul]at hj ⊢;omega
   have h2:j % size=j-n*size:=by
    have:=Nat.mod_add_div j size
    rw[h1,Nat.mul_comm]at this;omega
   simp[h1,h2]
theorem bring(hbase:B=W.heap.size):∀(m n:Nat) (t:TypeId) (cs:List Value) (x:DataW HH×List MemPlace) (Z:Ren) (H:Heap),fK P n t=true->DataW.trod enc P W base (fun _=>true) held m t cs=some x->Rel P B Z H W ->
  ∃ρ' H' cs',Ext P B W Z H ρ' H'/\VRl ρ' cs' cs/\Good P H' n t cs':=by
 intro m
 induction m with
 |zero=>intro n t cs x Z H _ h;simp[DataW.trod]at h
 |succ m ih =>
  intro n t cs x Z H hp h hr
  cases n with
  |zero=>simp[fK]at hp
  |succ n =>
   unfold fK at hp
   split at hp
   ·rename_i hu
    obtain ⟨b,rfl,_⟩:=DataW.trod_bool hu h
    exact ⟨Z,H,[.bool b],Ext.refl hr,.cons (.bool b) (.nil Z),by simp[Good,hu]⟩
   ·rename_i k hu
    obtain ⟨y,rfl,_,hw⟩:=DataW.trod_int hu h
    refine ⟨Z,H,[.int k y],Ext.refl hr,.cons (.int k y) (.nil Z),?_⟩
    simp only[Lit.wf,Bool.and_eq_true,decide_eq_true_eq]at hw
    simp[Good,hu,hw]
   ·rename_i hu
    obtain ⟨s,rfl,_⟩:=DataW.trod_string hu h
    exact ⟨Z,H,[.string s],Ext.refl hr,.cons (.string s) (.nil Z),by simp[Good,hu]⟩
   ·rename_i fs hu
    simp only[Bool.and_eq_true,List.all_eq_true]at hp
    obtain ⟨xs,m',hm,_,hl,hxl,hx⟩:=DataW.trod_struct hu h
    cases hm
    obtain ⟨_,hfl⟩:=vu fs.toList 0 _ cs hp.2 hl
    obtain ⟨ρ',H',cs',e,v,g⟩:=jV (ih n) (fs.toList.map (fun f=>(f.type,(cs.drop f.offset).take (P.cellsOf f.type)))) (fun p hpm=>by
     obtain ⟨f,hf,rfl⟩:=List.mem_map.1 hpm
     refine ⟨hp.1 f hf,?_⟩
     obtain ⟨i,hi⟩:=List.getElem?_of_mem hf
     have hi':fs[i]?=some f:=by simpa using hi
     have hlt:i<xs.length:=by rw[hxl];exact (Array.getElem?_eq_some_iff.1 hi').1
     exact ⟨_,(hx i f hi').trans (List.getElem?_eq_getElem hlt)⟩) Z H hr
    refine ⟨ρ',H',cs',e,?_,?_⟩
    ·rw[List.map_map]at v
     rw[List.drop_zero]at hfl
     rw[<- hfl];exact v
    ·rw[List.map_map]at g
     simp only[Good,hu];exact g
   ·rename_i e hu
    simp only[Bool.and_eq_true,decide_eq_true_eq]at hp
    rcases DataW.trod_slice hu h with ⟨rfl,_⟩|⟨a,len,cap,elems,rest,m',hm,rfl,_,hb,hl,hcap,hlen,hel,hrest,_⟩
    ·exact ⟨Z,H,[.slice none 0 0],Ext.refl hr,.cons .bG (.nil Z),by simp[Good,hu]⟩
    ·cases hm
     rcases Nat.eq_zero_or_pos cap with hc0|Dk
     ·subst hc0
      have hl0:len=0:=by omega
      subst hl0
      exact ⟨Z,H,[.slice (some ⟨0,0,some 0⟩) 0 0],Ext.refl hr,.cons .cq (.nil Z),by simp[Good,hu]⟩
     ·have Bz:∃c0,W.cells? base a (P.cellsOf e)=some c0:=by
       rcases Nat.eq_zero_or_pos len with h0|h0
       ·have h1:=(hrest rfl).2 0 (by omega)
        have h2:0<rest.length:=by rw[(hrest rfl).1];omega
        rw[List.getElem?_eq_getElem h2]at h1
        obtain ⟨c0,g1,_⟩:=Option.bind_eq_some_iff.1 h1
        subst h0
        exact ⟨c0,by simpa[Addr.add] using g1⟩
       ·have h1:=hel 0 h0
        rw[List.getElem?_eq_getElem (by omega)]at h1
        obtain ⟨c0,g1,_⟩:=Option.bind_eq_some_iff.1 h1
        exact ⟨c0,by simpa[Addr.add] using g1⟩
      obtain ⟨c0,hc0⟩:=Bz
      obtain ⟨_,hc1,hc2⟩:=World.cells?_some hc0
      have hc3:W.cell? a=c0[0]? := by simpa[Addr.add] using hc2 0 hp.2
      rw[List.getElem?_eq_getElem (by omega)]at hc3
      obtain ⟨b,off,spot⟩:=a
      unfold World.cell? at hc3
      simp only at hc3
      split at hc3
      ·rename_i raw ty fz hraw
       cases spot with
       |some q=>simp at hc3
       |none =>
        have hadd:∀p,(⟨b,off,none⟩:Addr).add p=⟨b,off+p,none⟩:=by
         intro p;unfold Addr.add;split
         ·rename_i h0;subst h0;rfl
         ·rfl
        have hcell:∀k,W.cell? ⟨b,k,none⟩=raw[k]? := by intro k;unfold World.cell?;simp[hraw]
        have hbl:b<W.heap.size:=(Array.getElem?_eq_some_iff.1 hraw).1
        obtain ⟨css,iL⟩:∃css:Nat->List Value,∀i,i<len->W.cells? base ⟨b,off+i*P.cellsOf e,none⟩ (P.cellsOf e)=some (css i)/\∃y,DataW.trod enc P W base (fun _=>true) held m e (css i)=some y:=by
         refine ⟨fun i=>(W.cells? base ⟨b,off+i*P.cellsOf e,none⟩ (P.cellsOf e)).getD [],fun i hi =>?_⟩
         have h1:=hel i hi
         rw[hadd,List.getElem?_eq_getElem (by omega)]at h1
         obtain ⟨ci,g1,g2⟩:=Option.bind_eq_some_iff.1 h1
         simp only[g1,Option.getD_some]
         exact ⟨trivial,_,g2⟩
        obtain ⟨ρ1,H1,cs1,e1,v1,g1⟩:=jV (ih n) ((List.range len).map (fun i=>(e,css i))) (fun p hpm=>by
         obtain ⟨i,hi,rfl⟩:=List.mem_map.1 hpm
         exact ⟨hp.1,(iL i (List.mem_range.1 hi)).2⟩) Z H hr
        have hmap:((List.range len).map (fun i=>(e,css i))).map (·.1)=List.replicate len e:=by
         rw[List.map_map,List.eq_replicate_iff]
         refine ⟨by simp,fun q hq =>?_⟩
         obtain ⟨i,_,rfl⟩:=List.mem_map.1 hq;rfl
        rw[hmap]at g1
        rw[List.map_map]at v1
        have hcl:∀i,i<len->(css i).length=P.cellsOf e:=fun i hi=>(World.cells?_some (iL i hi).1).2.1
        have CC:((List.range len).map css).flatten.length=len*P.cellsOf e:=by
         rw[List.length_flatten,List.map_map]
         have:(List.range len).map (List.length ∘ css)=List.replicate len (P.cellsOf e):=by
          rw[List.eq_replicate_iff]
          refine ⟨by simp,fun q hq =>?_⟩
          obtain ⟨i,hi,rfl⟩:=List.mem_map.1 hq
          exact hcl i (List.mem_range.1 hi)
         rw[this];exact pE _ _
        have hv1:VRl ρ1 cs1 ((List.range len).map css).flatten:=v1
        have xY:cs1.length=len*P.cellsOf e:=hv1.1.trans CC
        have Cw:∀j,j<len*P.cellsOf e->raw[j+off]?=((List.range len).map css).flatten[j]? := by
         intro j hj
         rw[flat_get hcl hp.2 j hj]
         have hdiv:j / P.cellsOf e<len:=(Nat.div_lt_iff_lt_mul hp.2).2 hj
         have hmod:j % P.cellsOf e<P.cellsOf e:=Nat.mod_lt _ hp.2
         have h3:=(World.cells?_some (iL _ hdiv).1).2.2 _ hmod
         have CF:(⟨b,off+j / P.cellsOf e*P.cellsOf e,none⟩:Addr).add (j % P.cellsOf e)=⟨b,j+off,none⟩:=by
          have:=Nat.div_add_mod j (P.cellsOf e)
          rw[Nat.mul_comm]at this
          unfold Addr.add;split
          ·congr 1;omega
          ·simp only;congr 1;omega
         rw[CF,hcell]at h3
         exact h3
        have e2:=Ext.row (B:=B) (W:=W) e1.rel (ri:=⟨b,off,raw.size,0,false⟩) (cs:=cs1) rfl rfl hbl (by rw[hbase];exact hbl) ⟨raw,ty,fz,hraw,rfl,fun i v hv=>by
         have hi:i<len*P.cellsOf e:=by rw[<- xY];exact (List.getElem?_eq_some_iff.1 hv).1
         obtain ⟨v',k1,k2⟩:=hv1.get hv
         exact ⟨v',(Cw i hi).trans k1,k2⟩⟩
        refine ⟨_,_,[.slice (some ⟨H1.length,0,none⟩) len len],e1.trans e2,.cons ?_ (.nil _),?_⟩
        ·have:=VR.slice (Z:=ρ1.set H1.length ⟨b,off,raw.size,0,false⟩) (id:=H1.length) (o:=0) (len:=len) (cap:=len) (cap':=cap) (Ren.aQ ..) (Nat.le_refl _) hl (fun h=>by cases h)
         simpa using this
        ·simp only[Good,hu]
         refine .inr (.inr ⟨H1.length,len,cs1,rfl,by simp,xY,by omega,dA.mono (fun _ _ h=>h.mono) g1⟩)
      ·simp at hc3
   ·rename_i k e hu
    simp only[Bool.and_eq_true,decide_eq_true_eq,beq_iff_eq]at hp
    obtain ⟨xs,m',hm,_,hl,hxl,hx⟩:=DataW.trod_array hu h
    cases hm
    obtain ⟨ρ',H',cs',x,v,g⟩:=jV (ih n) ((List.range k).map (fun i=>(e,(cs.drop (i*P.cellsOf e)).take (P.cellsOf e)))) (fun p hpm=>by
     obtain ⟨i,hi,rfl⟩:=List.mem_map.1 hpm
     have hi:=List.mem_range.1 hi
     exact ⟨hp.1.1,_,(hx i hi).trans (List.getElem?_eq_getElem (by omega))⟩) Z H hr
    have hmap:((List.range k).map (fun i=>(e,(cs.drop (i*P.cellsOf e)).take (P.cellsOf e)))).map (·.1)=List.replicate k e:=by
     rw[List.map_map,List.eq_replicate_iff]
     refine ⟨by simp,fun q hq =>?_⟩
     obtain ⟨i,_,rfl⟩:=List.mem_map.1 hq;rfl
    rw[hmap]at g
    rw[List.map_map]at v
    have tH:∀(j:Nat),j<=k->((List.range j).map (fun i=>(cs.drop (i*P.cellsOf e)).take (P.cellsOf e))).flatten=cs.take (j*P.cellsOf e):=by
     intro j
     induction j with
     |zero=>intro _;simp
     |succ j ihj =>
      intro hj
      rw[List.range_succ,List.map_append,List.flatten_append,ihj (by omega),Nat.succ_mul,List.take_add]
      simp
    have hall:=tH k (Nat.le_refl k)
    rw[<- hp.2,<- hl,List.take_length]at hall
    refine ⟨ρ',H',cs',x,?_,?_⟩
    ·have v':VRl ρ' cs' ((List.range k).map (fun i=>(cs.drop (i*P.cellsOf e)).take (P.cellsOf e))).flatten:=v
     rw[hall]at v';exact v'
    ·simp only[Good,hu];exact g
   ·cases hp
end Go.K
namespace Go.K
open Go Go.RowKit Go.ChangeAt Go.WideShapes
variable {P:Program} {HH:Type} {enc:TypeId×Value->HH}
def iS(P:Program)(H:Heap)(n:Nat)(t:TypeId)(v:Value):Prop :=
 match P.underlying t with
 |some (.struct _) => ∃cs:List Value,v = .agg ⟨cs⟩/\Good P H n t cs
 |_=>Good P H n t [v]
def yT(P:Program)(H:Heap)(n:Nat):List TypeId->List Value->Prop
 | [],[] =>True
 |t :: ts,v :: vs=>iS P H n t v/\yT P H n ts vs
 |_,_=>False
theorem iS.mono{H K:Heap}{n:Nat}{t:TypeId}{v:Value}(h:iS P H n t v):iS P (H++K) n t v:=by
 unfold iS at h ⊢
 split at h
 ·obtain ⟨cs,h1,h2⟩:=h;exact ⟨cs,h1,h2.mono⟩
 ·exact h.mono
theorem sy{W:World}{B b0 m n:Nat}{t:TypeId}{v:Value}{d:DataW HH}{ps:List MemPlace}{held:Bool}{Z:Ren}{H:Heap}(hbase:B=W.heap.size)(hp:zb P n t=true)(hok:Value.okWide P W .any b0 t v)
  (h:DataW.Trod enc P W 0 (fun _=>true) held t v d ps) (hr:Rel P B Z H W):∃ρ' H' v',Ext P B W Z H ρ' H'/\VR ρ' v' v/\iS P H' n t v':=by
 obtain ⟨m,h⟩:=h
 unfold zb at hp
 obtain ⟨hp,hna⟩:=(Bool.and_eq_true _ _ ▸ hp:_/\_)
 obtain ⟨ρ',H',cs',e,hv,g⟩:=bring hbase m n t _ _ Z H hp h hr
 have single:(∀fs,P.underlying t≠some (.struct fs))->(v.cells = #[v])->∃ρ' H' v',Ext P B W Z H ρ' H'/\VR ρ' v' v/\iS P H' n t v':=by
  intro hns hc
  rw[hc]at hv
  have hl:cs'.length=1:=hv.1
  obtain ⟨v',rfl⟩:=List.length_eq_one_iff.1 hl
  refine ⟨ρ',H',v',e,hv.2 0 v' v rfl rfl,?_⟩
  unfold iS
  split
  ·rename_i fs hu;exact absurd hu (hns fs)
  ·exact g
 cases n with
 |zero=>simp[fK]at hp
 |succ n =>
  unfold fK at hp
  split at hp
  ·rename_i hu
   refine single (fun fs h=>by rw[hu]at h;cases h) ?_
   cases v <;> simp[Value.okWide,Cell.okWide,Cell.ok,hu]at hok <;> rfl
  ·rename_i k hu
   refine single (fun fs h=>by rw[hu]at h;cases h) ?_
   cases v <;> simp[Value.okWide,Cell.okWide,Cell.ok,hu]at hok <;> rfl
  ·rename_i hu
   refine single (fun fs h=>by rw[hu]at h;cases h) ?_
   cases v <;> simp[Value.okWide,Cell.okWide,Cell.ok,hu]at hok <;> rfl
  ·rename_i fs hu
   simp only[Value.okWide,hu]at hok
   obtain ⟨cs,rfl,_,_⟩:=hok
   refine ⟨ρ',H',.agg ⟨cs'⟩,e,.agg (by have:=hv.1;simpa[Value.cells] using this) (fun i a b x y=>hv.2 i a b (by simpa using x) (by simpa[Value.cells] using y)),?_⟩
   simp only[iS,hu]
   exact ⟨cs',rfl,g⟩
  ·rename_i e' hu
   refine single (fun fs h=>by rw[hu]at h;cases h) ?_
   cases v <;> simp[Value.okWide,Cell.okWide,Cell.ok,hu]at hok <;> rfl
  ·rename_i k e' hu
   rw[hu]at hna;cases hna
  ·cases hp
theorem tQ{W:World}{B b0 n:Nat}{held:Bool}(hbase:B=W.heap.size):∀(ts:List TypeId) (vs:List Value) (ds:List (DataW HH)) (ps:List MemPlace) (Z:Ren) (H:Heap),ts.all (zb P n)=true ->
  (∀(j:Nat) (t:TypeId) (v:Value),ts[j]?=some t->vs[j]?=some v->Value.okWide P W .any b0 t v)->DataW.TrodAll enc P W 0 (fun _=>true) held ts vs ds ps->Rel P B Z H W ->
   ∃ρ' H' vs',Ext P B W Z H ρ' H'/\VRl ρ' vs' vs/\yT P H' n ts vs':=by
 intro ts
 induction ts with
 |nil =>
  intro vs ds ps Z H _ _ h hr
  obtain ⟨rfl,_,_⟩:=Go.ChangeShapes.trodAll_nil h
  exact ⟨Z,H,[],Ext.refl hr,.nil Z,trivial⟩
 |cons t ts ih =>
  intro vs ds ps Z H hp hok h hr
  obtain ⟨v,vs1,d,ds1,p,q,rfl,rfl,rfl,h1,h2⟩:=Go.ChangeShapes.trodAll_cons h
  simp only[List.all_cons,Bool.and_eq_true]at hp
  obtain ⟨ρ1,H1,v1,e1,r1,g1⟩:=sy (m:=0) hbase hp.1 (hok 0 t v rfl rfl) h1 hr
  obtain ⟨ρ2,H2,vs2,e2,r2,g2⟩:=ih vs1 ds1 q ρ1 H1 hp.2 (fun j a b x y=>hok (j+1) a b x y) h2 e1.rel
  refine ⟨ρ2,H2,v1 :: vs2,e1.trans e2,.cons (r1.mono e2.le) r2,?_,g2⟩
  obtain ⟨K,rfl⟩:=e2.pre
  exact g1.mono
theorem oc{W W':World}{sp:Nat->Bool}{T:TypeId->Prop}(K:Kids P T)(hsz:∀{t e:TypeId},T t->P.underlying t=some (.slice e)->0<P.cellsOf e) :
  ∀(ts:List TypeId) (vs:List Value) (ds:List (DataW HH)) (ps:List MemPlace),(∀t∈ts,T t)->DataW.TrodAll enc P W 0 (fun _=>true) true ts vs ds ps->(∀p∈ps,W.sameAt W' p)->(∀p∈ps,sp p.block=true) ->
   DataW.TrodAll enc P W' 0 sp true ts vs ds ps:=by
 intro ts
 induction ts with
 |nil=>intro vs ds ps _ h _ _;obtain ⟨rfl,rfl,rfl⟩:=Go.ChangeShapes.trodAll_nil h;exact rfl
 |cons t ts ih =>
  intro vs ds ps hT h hs hp
  obtain ⟨v,vs1,d,ds1,p,q,rfl,rfl,rfl,⟨n,h1⟩,h2⟩:=Go.ChangeShapes.trodAll_cons h
  refine ⟨p,q,⟨n,DataW.trod_stays K hsz (fun h=>by cases h) (hT t (List.mem_cons_self ..)) h1 (fun x hx=>hs x (List.mem_append_left _ hx)) (fun x hx=>hp x (List.mem_append_left _ hx))⟩,?_,rfl⟩
  exact ih vs1 ds1 q (fun t ht=>hT t (List.mem_cons_of_mem _ ht)) h2 (fun x hx=>hs x (List.mem_append_right _ hx)) (fun x hx=>hp x (List.mem_append_right _ hx))
def iD(P:Program):Bool:=(List.range P.types.size).all fun t=>match P.underlying t with|some (.slice e)=>decide (0<P.cellsOf e)|_=>true
theorem kO(h:iD P=true):∀{t e:TypeId},t<P.types.size->P.underlying t=some (.slice e)->0<P.cellsOf e:=by
 intro t e ht hu
 unfold iD at h
 rw[List.all_eq_true]at h
 have:=h t (List.mem_range.2 ht)
 rw[hu]at this
 simpa using this
theorem ol{f:Func}{s:ChangeSpec}{apart fresh handsOn again:Bool}{W W':World}{args:Array Value}{ds gs:List (DataW HH)}{before:List MemPlace}{tb:TypeId}{T:TypeId->Prop}
  (K:Kids P T) (hsz:∀{t e:TypeId},T t->P.underlying t=some (.slice e)->0<P.cellsOf e) (hT:∀t∈f.params.toList,T t)
  (hW:DataW.Whole enc P f.params.toList s.vars apart W args.toList ds gs before) (hvars:s.vars=[]) (hb:RowKit.Below W.heap.size W W') (hrt:f.resultTypes = #[tb]) (htb:P.underlying tb=some .bool)
  (hs:s.fn HH ds = { results:=[.lit (.bool true)],args:=ds }):s.post enc P f apart fresh handsOn again W args (.bool true) W':=by
 have hlt:=hW.lt
 have hW':=hW
 obtain ⟨p,q,hA,hV,rfl,hz,hn⟩:=hW
 rw[hvars]at hV
 obtain ⟨rfl,rfl⟩:=Go.ChangeShapes.trodVars_none hV
 have hA':∀sp:Nat->Bool,(∀x∈p,sp x.block=true)->DataW.TrodAll enc P W' 0 sp true f.params.toList args.toList ds p:=fun sp hsp =>
  oc K hsz _ _ _ _ hT hA (fun x hx=>hb.same (hlt x (by simpa using hx))) hsp
 have hres:∀(b:Nat) (sp:Nat->Bool) (hd:Bool),DataW.TrodAll enc P W' b sp hd f.resultTypes.toList ((Value.bool true).resultList f.resultTypes.size) [.lit (.bool true)] []:=by
  intro b sp hd
  rw[hrt]
  exact trodAll_cons_mk (Go.RowKit.shut_bool htb true) Go.ChangeShapes.trodAll_mk0
 have hs':s.fn HH (ds ++ []) = { results:=[.lit (.bool true)],args:=ds }:=by simpa using hs
 refine ⟨ds,[],p ++ [],[],p,[],hW',?_,?_,?_,?_,fun _ =>?_⟩
 ·rw[hs'];exact hres _ _ _
 ·rw[hs'];exact hA' _ (fun x hx=>by simpa using hlt x (by simpa using hx))
 ·rw[hs',hvars];rfl
 ·exact World.keptBut_mono (fun x hx=>⟨by simpa using hx,.inr (by simpa using hx)⟩) (hb.frame (· ∈ p))
 ·refine ⟨Go.RowKit.ok_one hrt rfl (Go.RowKit.okWide_bool_mk htb true),_,[],([]++p) ++ [],⟨[]++p,[],Go.ChangeShapes.trodAll_append (hA' _ (fun _ _=>rfl)) (hres _ _ _),by rw[hvars];rfl,rfl,?_,?_⟩,?_⟩
  ·intro b off hx
   have hx':MemPlace.cell b off∈p:=by simpa using hx
   rw[hb.frozen (p:=⟨b,off,none⟩) (hlt (.cell b off) (by simpa using hx'))]
   exact hz b off (by simpa using hx')
  ·intro ha
   have:=hn ha
   simpa using this
  ·intro x hx _
   simpa using hx
end Go.K
namespace Go.K
noncomputable section
variable {P:Program}
def nL(P:Program):Nat->TypeId->Option Nat
 |0,_=>none
 |n+1,t=>match P.underlying t with
  |some (.int .i64)=>some 1
  |some (.struct fs)=>fs.toList.foldr (fun f r=>match nL P n f.type,r with|some a,some b=>some (a+b)|_,_=>none) (some 0)
  |_=>none
def inI(x:Int):Prop:=-9223372036854775808<=x/\x<=9223372036854775807
theorem nF{α:Type}{g:TypeId->List Value->Prop}{t:TypeId}{f:α->List Value}{q:α->Prop}(h:∀c,g t c->∃x:α,c=f x/\q x):∀(n:Nat) (cs:List Value),dA g (List.replicate n t) cs->∃xs:List α,xs.length=n/\cs=xs.flatMap f/\∀x∈xs,q x
 |0,cs,hg=>⟨[],rfl,hg,fun _ h=>by cases h⟩
 |n+1,cs,hg=>by
  obtain ⟨c,rest,rfl,h1,h2⟩:=hg
  obtain ⟨x,rfl,hx⟩:=h c h1
  obtain ⟨xs,e1,rfl,e3⟩:=nF h n rest h2
  exact ⟨x :: xs,by simp[e1],by simp,fun y hy=>by rcases List.mem_cons.1 hy with rfl|hy;exact hx;exact e3 y hy⟩
theorem pG{α:Type}{f:α->List Value}{n:Nat}(hf:∀x,(f x).length=n):∀(xs:List α),yE f n (xs.flatMap f) 0 xs:=by
 intro xs k x hx
 refine ⟨hf x,?_⟩
 have key:∀(xs:List α) (k:Nat),xs[k]?=some x->(List.drop (k*n) (xs.flatMap f)).take n=f x:=by
  intro xs
  induction xs with
  |nil=>intro k h;simp at h
  |cons y ys ih =>
   intro k h
   cases k with
   |zero=>simp at h;subst h;simp[<- hf y]
   |succ k =>
    simp at h
    rw[List.flatMap_cons,Nat.succ_mul,Nat.add_comm,<- List.drop_drop,<- hf y,List.drop_left]
    rw[hf y]
    exact ih k h
 rw[Nat.zero_add];exact key xs k hx
end
end Go.K
