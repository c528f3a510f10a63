/- What is to be shown is enough. No condition. -/
import Derived.Test.YthcjliffpebjaaaGreatGK41xV5
import Derived.Test.YthcjliffpebjaaaGreatGV3xK38
open Go Go.K
set_option linter.unusedVariables false
set_option linter.unusedSimpArgs false
namespace Go.K
noncomputable section
variable {P:Program}
def mX(P:Program)(call:rT):Prop:=∀f args H M h K,call f args H M h K->ak P f args H.list (M.list H.n) (fun v H' => ∃H2 h2,H'=H2.list/\K v H2 h2)
def oQ(P:Program)(app:uX):Prop:=∀fv args H M h K,app fv args H M h K->kD P fv args H.list (M.list H.n) (fun v H' => ∃H2 h2,H'=H2.list/\K v H2 h2)
def CD(P:Program)(yld:Nat->List Value->HT->MS->Hint->KV->Prop):Prop:=∀L args H M h K,yld L args H M h K->kD P (.func (.yield L) #[] #[]) args H.list (M.list H.n) (fun v H' => ∃H2 h2,H'=H2.list/\K v H2 h2)
theorem vd{H:HT}{id:Nat}{o:ah}(h:H.get id=some o):(H.set id o).list=H.list:=by
 rw[HT.aV]
 refine List.ext_getElem? fun i =>?_
 rw[List.getElem?_set]
 split
 ·rename_i e;subst e
  have:=HT.ap H id
  rw[h]at this
  split
  ·exact this.symm
  ·rename_i hl;rw[List.getElem?_eq_none Om]at this;cases this
 ·rfl
theorem cK:∀{h:Hint} {E:Env} {H:HT} {k:Env->HT->Hint->Prop},lm h E H k->∃E' H' h',E'.get=E.get/\H'.list=H.list/\k E' H' h':=by
 intro h
 induction h with
 |obj id o h ih =>
  intro E H k hk
  obtain ⟨h1,h2⟩:=hk
  obtain ⟨E',H',h',e1,e2,e3⟩:=ih h2
  exact ⟨E',H',h',e1,e2.trans (vd h1),e3⟩
 |slot t v h ih =>
  intro E H k hk
  obtain ⟨h1,h2⟩:=hk
  obtain ⟨E',H',h',e1,e2,e3⟩:=ih h2
  exact ⟨E',H',h',e1.trans (Env.fG E t v h1),e2,e3⟩
 |bind α f ih =>
  intro E H k hk
  obtain ⟨x,hk⟩:=hk
  exact ih x hk
 |cas p a b iha ihb =>
  intro E H k hk
  by_cases hp:p
  ·exact iha (hk.1 hp)
  ·exact ihb (hk.2 hp)
 |_=>intro E H k hk;exact ⟨E,H,_,rfl,rfl,hk⟩
theorem Ex:∀{h:Hint} {v:Value} {H:HT} {k:Value->HT->Hint->Prop},vas h v H k->∃v2 gs H' h',wk v v2/\H'.list=H.list++gs/\k v2 H' h':=by
 intro h
 induction h with
 |as x h ih =>
  intro v H k hk
  obtain ⟨h1,h2⟩:=hk
  obtain ⟨v2,gs,H',h',e1,e2,e3⟩:=ih h2
  exact ⟨v2,gs,H',h',fun V y hy=>e1 V y (h1 V y hy),e2,e3⟩
 |ghost o h ih =>
  intro v H k hk
  obtain ⟨v2,gs,H',h',e1,e2,e3⟩:=ih hk
  exact ⟨v2,o :: gs,H',h',e1,by rw[e2,HT.bN,List.append_assoc];rfl,e3⟩
 |_=>intro v H k hk;exact ⟨v,[],H,_,ad v,(List.append_nil _).symm,hk⟩
theorem HT.n_eq{H H':HT}(h:H'.list=H.list):H'.n=H.n:=by rw[<- HT.length,<- HT.length,h]
section
variable {app:uX} {call:rT} {dm:Value->MS}
theorem wM{fv:Value}{args:List Value}{H:Heap}{Mc:List Nat}{v:Value}{H':Heap}(h:Ew P fv args H Mc v H'):kD P fv args H Mc (Is v H'):=by
 unfold Ew at h
 split at h
 ·exact kD.func h
 ·exact h
theorem Cz{fv:Value}{args:List Value}{H:Heap}{Mc:List Nat}{Q:Value->Heap->Prop}(h:NB P fv args H Mc Q):kD P fv args H Mc Q:=by
 unfold NB at h
 split at h
 ·exact kD.func h
 ·exact h
inductive Stepped (P:Program) (wok:MS->Bool) (o:Oper) (E:Env) (H:HT) (K:Env->HT->Option Nat->Hint->Prop):Prop
 |pure {v:Value} {rd:Option Nat} {E2:Env} {h2:Hint} (hc:fy o.op = .pure) (hp:d0 P o.op (ev E.get) H.list=some (v,rd)) (he:E2.get=put E.get o.dst v) (hk:K E2 H rd h2)
 |alloc {v:Value} {ob:ah} {h2:Hint} (hc:fy o.op = .alloc) (hp:kV P o.op (ev E.get) H.n=some (v,ob)) (hk:K (E.put o.dst v) (H.push ob) (some H.n) h2)
 |write {v:Value} {H':HT} {ms:List Nat} {h2:Hint} (hc:fy o.op = .write) (hp:eE P o.op (ev E.get) H.list=some (v,H'.list,ms)) (hw:wok (some ms)=true) (hk:K (E.put o.dst v) H' none h2)
 |call {f:Operand} {args:Array Operand} {ts:Array TypeId} {Mc:MS} (hc:fy o.op = .call) (hop:o.op = .call ⟨.value f,args,ts⟩) (hw:wok Mc=true)
   (ha:kD P (ev E.get f) (args.toList.map (ev E.get)) H.list (Mc.list H.n) (fun v H' => ∃H2 h2,H'=H2.list/\K (E.put o.dst v) H2 none h2))
 |iter (hc:fy o.op = .iter) (hk:∀(base:Nat) (M:List Nat),(∀id,wok (some [id])=true->id<base->id∈M)->qu P base M o.op (ev E.get) H.list (fun v H' => ∃H2 h2,H'=H2.list/\K (E.put o.dst v) H2 none h2))
theorem sB{H:HT}:∀{l:List (Nat×ah)},AJ H l->AK H.list l
 | [],_=>trivial
 |(id,o) :: r,h=>⟨by rw[HT.ap];exact h.1,sB h.2⟩
theorem kI:∀(new:List ah) (H:HT),(jw H new).list=Cp H.list new:=by
 have key:∀(new:List ah) (H:HT),(jw H new).list=H.list++new:=by
  intro new
  induction new with
  |nil=>intro H;simp[jw]
  |cons o r ih=>intro H;simp only[jw,ih,HT.bN,List.append_assoc,List.cons_append,List.nil_append]
 intro new H
 rw[key]
 cases new with
 |nil=>simp[Cp]
 |cons o r=>rfl
theorem nN:∀(chg:List (Nat×ah)) (H:HT),(C2 H chg).list=C3 H.list chg
 | [],_=>rfl
 |(id,o) :: r,H=>by
  have:=nN r (H.set id o)
  rw[HT.aV]at this
  exact this
theorem nv(ha:oQ P app){wok:MS->Bool}(hw0:wok (some [])=true){o:Oper}{E:Env}{H:HT}{h:Hint}{K:Env->HT->Option Nat->Hint->Prop}(hv:sG P app wok dm o E H h K) :
  Stepped P wok o E H K:=by
 unfold sG at hv
 split at hv
 ·rename_i hc
  split at hv
  ·split at hv <;> try (exact hv.elim)
   rename_i hop t x y hop2
   split at hv <;> try (exact hv.elim)
   rename_i b hb
   cases b with
   |true =>
    refine .pure (v:=ev E.get x) (rd:=none) hc (by rw[hop2];simp only[d0];rw[show ev E.get (.tmp t) = .bool true from hb];rfl) ?_ (hv.1 rfl)
    rw[Env.get_put,Env.fG E t _ hb]
   |false =>
    refine .pure (v:=ev E.get y) (rd:=none) hc (by rw[hop2];simp only[d0];rw[show ev E.get (.tmp t) = .bool false from hb];rfl) ?_ (hv.2 rfl)
    rw[Env.get_put,Env.fG E t _ hb]
  ·split at hv <;> try (exact hv.elim)
   rename_i c v rd hn
   exact .pure hc (zu hn hv.1) (Env.get_put ..) hv.2
  ·split at hv <;> try (exact hv.elim)
   ·rename_i t a hop2
    split at hv <;> try (exact hv.elim)
    ·rename_i id off hp
     split at hv <;> try (exact hv.elim)
     rename_i own z cs hg
     refine .pure hc ?_ (Env.get_put ..) hv.2
     rw[hop2]
     simp only[d0,hp,ou,nA,HT.ap,hg,hv.1]
     rfl
    ·rename_i id off k hp
     split at hv <;> try (exact hv.elim)
     rename_i z cs hg
     split at hv <;> try (exact hv.elim)
     rename_i hfit
     refine .pure hc ?_ (Env.get_put ..) hv.2
     rw[hop2]
     simp only[d0,hp,ou,nA,HT.ap,hg,hfit,if_true,hv.1]
     rfl
    ·rename_i off cs hp
     refine .pure hc ?_ (Env.get_put ..) hv.2
     rw[hop2]
     simp only[d0,hp,ou,hv.1]
   ·rename_i t x i hop2
    refine .pure (rd:=none) hc ?_ (Env.get_put ..) hv.2
    rw[hop2]
    simp only[d0,hv.1]
    rfl
   ·rename_i t x i ok hop2
    split at hv <;> try (exact hv.elim)
    rename_i kt el id g1 g2
    split at hv <;> try (exact hv.elim)
    rename_i es z g3 g4 g5
    refine .pure hc ?_ (Env.get_put ..) hv.2
    rw[hop2]
    simp only[d0,mL,g1,g2,g4,g5,HT.ap,g3,hv.1]
    rfl
  ·split at hv <;> try (exact hv.elim)
   split at hv <;> try (exact hv.elim)
   rename_i v rd hp
   exact .pure hc (xC hp) (Env.get_put ..) hv
 ·rename_i hc
  split at hv
  ·split at hv <;> try (exact hv.elim)
   rename_i c v ob hn
   exact .alloc hc (xG hn hv.1) hv.2
  ·split at hv <;> try (exact hv.elim)
   split at hv <;> try (exact hv.elim)
   rename_i v ob hp
   exact .alloc hc hp hv
 ·rename_i hc
  split at hv
  ·split at hv <;> try (exact hv.elim)
   rename_i c v H' ms hn
   exact .write hc (xE hn hv.1) hv.2.1 hv.2.2
  ·split at hv <;> try (exact hv.elim)
   rename_i c v hn
   exact .write hc (vg hn hv.1 H.list) hw0 hv.2
  ·split at hv <;> try (exact hv.elim)
   ·rename_i t m k v hop2
    split at hv <;> try (exact hv.elim)
    rename_i kt el id g1 g2
    split at hv <;> try (exact hv.elim)
    rename_i es g3 g4 g5
    refine .write (ms:=[id]) hc ?_ g5 hv.2
    rw[hop2]
    simp only[eE,mK,g1,g2,g4,HT.ap,g3,hv.1]
    simp only[HT.aV,Option.map_some]
   ·rename_i t m k hop2
    split at hv <;> try (exact hv.elim)
    split at hv <;> try (exact hv.elim)
    rename_i kt el id g1 g2
    split at hv <;> try (exact hv.elim)
    rename_i es z g3 g4 g5 g6
    refine .write (ms:=[id]) hc ?_ g6 hv.2
    rw[hop2]
    simp only[eE,sx,g1,g2,g4,g5,HT.ap,g3,hv.1]
    simp only[HT.aV,Option.map_some]
   ·rename_i t m st v hop2
    split at hv <;> try (exact hv.elim)
    rename_i id g2
    split at hv <;> try (exact hv.elim)
    rename_i es g3 g5
    refine .write (ms:=[id]) hc ?_ g5 hv.2
    rw[hop2]
    simp only[eE,xJ,g2,HT.ap,g3,hv.1]
    simp only[HT.aV,Option.map_some]
  ·split at hv <;> try (exact hv.elim)
   split at hv <;> try (exact hv.elim)
   rename_i v H' ms hp
   split at hv <;> try (exact hv.elim)
   rename_i hw
   exact .write hc (ve hp) hw hv
 ·rename_i hc
  split at hv <;> try (exact hv.elim)
  rename_i f args ts hop2
  split at hv
  ·rename_i deps v new h'
   refine .call (Mc:=some []) hc hop2 hw0 ((wM (hv.2.1 H.list (HT.length H) (sB hv.1))).mono (fun _ h _=>h) ?_)
   rintro v2 H2 ⟨rfl,rfl⟩
   exact ⟨_,_,(kI _ _).symm,hv.2.2⟩
  ·rename_i deps v chg new h'
   split at hv <;> try (exact hv.elim)
   rename_i hw
   refine .call (Mc:=some (Dv chg)) hc hop2 hw ((wM (hv.2.1 H.list (HT.length H) (sB hv.1))).mono (fun _ h _=>h) ?_)
   rintro v2 H2 ⟨rfl,rfl⟩
   exact ⟨_,_,by rw[kI,nN],hv.2.2⟩
  ·rename_i deps ids α I v chg new h'
   split at hv <;> try (exact hv.elim)
   rename_i hw
   refine .call (Mc:=some ids) hc hop2 hw ((Cz (hv.2.1 H.list (HT.length H) (sB hv.1))).mono (fun _ h _=>h) ?_)
   rintro v2 H2 ⟨x,hx,rfl,rfl⟩
   exact ⟨_,_,by rw[kI,nN],hv.2.2 x hx⟩
  ·split at hv <;> try (exact hv.elim)
   rename_i hw
   exact .call hc hop2 hw (ha _ _ _ _ _ _ hv)
  ·split at hv <;> try (exact hv.elim)
   split at hv <;> try (exact hv.elim)
   rename_i hw
   exact .call hc hop2 hw (ha _ _ _ _ _ _ hv)
 ·rename_i hc
  split at hv
  ·rename_i t x hop2
   split at hv <;> try (exact hv.elim)
   rename_i kt el id g1 g2
   split at hv <;> try (exact hv.elim)
   rename_i es h' g3 g4
   refine .iter hc fun base M _ =>?_
   rw[hop2]
   exact ⟨id,es,kt,el,g1,g2,by rw[HT.ap];exact g3,_,_,(HT.bN _ _).symm,by rw[HT.length];exact hv⟩
  ·rename_i it hop2
   split at hv <;> try (exact hv.elim)
   rename_i id g1
   split at hv <;> try (exact hv.elim)
   rename_i m n seen g2
   split at hv <;> try (exact hv.elim)
   rename_i es h1 h2 g3 g4
   refine .iter hc fun base M hM =>?_
   rw[hop2]
   exact ⟨rfl,id,m,n,seen,es,g1,by rw[HT.ap];exact g2,by rw[HT.ap];exact g3,hv.1,hM id g4,fun i hi hs=>⟨_,_,(HT.aV _ _ _).symm,hv.2.1 i hi hs⟩,fun hall=>⟨_,_,rfl,hv.2.2 hall⟩⟩
  ·rename_i it hop2
   split at hv <;> try (exact hv.elim)
   rename_i id g1
   split at hv <;> try (exact hv.elim)
   rename_i m n seen g2
   split at hv <;> try (exact hv.elim)
   rename_i es v h' g3
   refine .iter hc fun base M _ =>?_
   rw[hop2]
   exact ⟨id,m,n,seen,es,v,g1,by rw[HT.ap];exact g2,by rw[HT.ap];exact g3,hv.1,hv.2.1,_,_,rfl,hv.2.2⟩
  ·exact hv.elim
 ·exact hv.elim
theorem oT{wok:MS->Bool}{ops:Array Oper}{o:Oper}{E:Env}{H:HT}{h:Hint}{K:Env->HT->Option Nat->Hint->Prop}{vy:Env->HT->Hint->Prop}(hv:w8 P app wok dm ops o E H h K vy) :
  jJ o ops E.get=true/\((cR o ops E.get=true/\∃E1 H1 h1,E1.get=E.get/\H1.list=H.list/\sG P app wok dm o E1 H1 h1 K)∨(cR o ops E.get=false/\∃E2 H1 h2,E2.get=put E.get o.dst undef/\H1.list=H.list/\vy E2 H1 h2)):=by
 unfold w8 at hv
 rw[OK,OJ]at hv
 obtain ⟨E0,H0,h0,e1,e2,hv⟩:=cK hv
 rw[<- e1]
 unfold jJ cR
 cases hg:o.guard with
 |none =>
  rw[hg]at hv
  exact ⟨rfl,.inl ⟨rfl,E0,H0,h0,rfl,e2,hv⟩⟩
 |some gw =>
  obtain ⟨g,want⟩:=gw
  rw[hg]at hv
  simp only at hv ⊢
  cases hd:(ops[g]?).bind (·.dst) with
  |none =>
   rw[hd]at hv
   exact ⟨rfl,.inr ⟨rfl,_,H0,h0,Env.get_put ..,e2,hv⟩⟩
  |some d =>
   rw[hd]at hv
   simp only at hv ⊢
   have off:∀{hh:Hint},vy (E0.put o.dst undef) H0 hh->∃E2 H1 h2,E2.get=put E0.get o.dst undef/\H1.list=H.list/\vy E2 H1 h2:=fun hk=>⟨_,H0,_,Env.get_put ..,e2,hk⟩
   have fork:∀b:Bool,E0.get d = .bool b->(E0.put (some d) (.bool b)).get=E0.get:=fun b hb=>Env.fG E0 d _ hb
   split at hv
   ·rename_i b hb
    rw[hb]
    refine ⟨rfl,?_⟩
    split at hv
    ·rename_i h1 h2
     cases b with
     |true =>
      have hv:=hv.1 rfl
      cases want with
      |true =>
       obtain ⟨E1,H1,h1',f1,f2,hv⟩:=cK hv
       exact .inl ⟨rfl,E1,H1,h1',f1.trans (fork _ hb),f2.trans e2,hv⟩
      |false=>exact .inr ⟨rfl,_,H0,h1,by rw[Env.get_put,fork _ hb],e2,hv⟩
     |false =>
      have hv:=hv.2 rfl
      cases want with
      |true=>exact .inr ⟨rfl,_,H0,h2,by rw[Env.get_put,fork _ hb],e2,hv⟩
      |false =>
       obtain ⟨E1,H1,h1',f1,f2,hv⟩:=cK hv
       exact .inl ⟨rfl,E1,H1,h1',f1.trans (fork _ hb),f2.trans e2,hv⟩
    ·cases b <;> cases want
     ·exact .inl ⟨rfl,E0,H0,_,rfl,e2,hv⟩
     ·exact .inr ⟨rfl,off hv⟩
     ·exact .inr ⟨rfl,off hv⟩
     ·exact .inl ⟨rfl,E0,H0,_,rfl,e2,hv⟩
   ·exact hv.elim
   ·rename_i n1 n2
    have h1:(match E0.get d with| .chan _=>false|_=>true)=true:=by
     split
     ·rename_i q;exact absurd q (n2 _)
     ·rfl
    have h2:(match E0.get d with| .bool b=>b == want|_=>false)=false:=by
     split
     ·rename_i q;exact absurd q (n1 _)
     ·rfl
    exact ⟨h1,.inr ⟨h2,off hv⟩⟩
theorem NE(base n:Nat)(M:MS)(bs:List Nat)(i:Nat)(log:List (Nat×Option Nat))(m:Nat):(yz base n M (some [])&&tj bs i log (MS.list (some []) m))=true:=by
 rw[Bool.and_eq_true]
 constructor
 ·unfold yz nL;cases M <;> rfl
 ·unfold tj
  rw[List.all_eq_true]
  intro p _
  cases p.2 <;> simp[MS.list,qE]
theorem ND(base n:Nat)(M:MS):yz base n M (some [])=true:=by unfold yz nL;cases M <;> rfl
theorem ic{base:Nat}{M:MS}:∀{ts:List Nat} {E:Env} {H:HT} {k:Env->HT->Prop},sJ base M ts E H k->∃E2 H2,bp P base (M.list base) E.get H.list E2.get H2.list/\k E2 H2
 | [],E,H,k,hv=>⟨E,H,bp.refl,hv⟩
 |t :: ts,E,H,k,hv=>by
  unfold sJ at hv
  split at hv <;> try (exact hv.elim)
  ·rename_i id tag n cap hT
   split at hv <;> try (exact hv.elim)
   rename_i hw
   split at hv <;> try (exact hv.elim)
   rename_i z cs hg
   simp only[Bool.and_eq_true]at hw
   obtain ⟨E2,H2,g,hk⟩:=ic hv
   refine ⟨E2,H2,bp.trans (bp.freeze (cs:=cs) (z:=z) hT (tag:=tag) ?_ (by rw[HT.ap];exact hg) (fun hb=>dy hw.2 id (List.mem_cons_self ..) hb)) ?_,hk⟩
   ·have:=hw.1
    split at this
    ·exact .inl rfl
    ·exact .inr (congrArg some (Nat.eq_of_beq_eq_true this))
   ·rwa [Env.get_put,HT.aV]at g
  ·rename_i n cs hT
   obtain ⟨E2,H2,g,hk⟩:=ic hv
   refine ⟨E2,H2,bp.trans (bp.read (n:=n) (cs:=cs) hT) ?_,hk⟩
   rw[Env.get_put,HT.bN]at g
   rw[HT.length];exact g
  ·rename_i vs hT
   split at hv <;> try (exact hv.elim)
   ·rename_i i id tag n cap hi
    split at hv <;> try (exact hv.elim)
    rename_i hw
    split at hv <;> try (exact hv.elim)
    rename_i z cs hg
    simp only[Bool.and_eq_true]at hw
    obtain ⟨E2,H2,g,hk⟩:=ic hv
    refine ⟨E2,H2,bp.trans (bp.Km (cs:=cs) (z:=z) hT (oO hi).2 (tag:=tag) ?_ (by rw[HT.ap];exact hg) (fun hb=>dy hw.2 id (List.mem_cons_self ..) hb)) ?_,hk⟩
    ·have:=hw.1
     split at this
     ·exact .inl rfl
     ·exact .inr (congrArg some (Nat.eq_of_beq_eq_true this))
    ·rwa [Env.get_put,HT.aV]at g
   ·rename_i i n cs hi
    obtain ⟨E2,H2,g,hk⟩:=ic hv
    refine ⟨E2,H2,bp.trans (bp.NM (n:=n) (cs:=cs) hT (oO hi).2) ?_,hk⟩
    rw[Env.get_put,HT.bN]at g
    rw[HT.length];exact g
theorem CZ{A F k d:Nat}:∀(ts:List Nat) (E:Env),(tfE A F k d ts E).get=tfT A F k d ts E.get
 | [],E=>rfl
 |t :: ts,E=>by unfold tfE tfT;rw[CZ ts,Env.get_put]
theorem vG{A F k d:Nat}:∀(bs:List Nat) (H:HT),(Jd A F k d bs H).list=tfH A F k d bs H.list
 | [],H=>rfl
 |b :: bs,H=>by
  unfold Jd tfH
  rw[vG bs,HT.ap]
  cases H.get b with
  |none=>rfl
  |some o=>cases o <;> first|rfl|(simp only[HT.aV])
theorem rp{base:Nat}{M:MS}{kk d:Nat}{ts bs:List Nat}:∀{l:List (Nat×Nat)} {E:Env} {H:HT} {k:Env->HT->Prop},CX base M kk d ts bs l E H k->∃E2 H2,bp P base (M.list base) E.get H.list E2.get H2.list/\k E2 H2
 | [],E,H,k,hv=>⟨E,H,bp.refl,hv⟩
 |(A,F) :: l,E,H,k,hv=>by
  unfold CX at hv
  split at hv <;> try (exact hv.elim)
  rename_i hw
  split at hv <;> try (exact hv.elim)
  rename_i zA cs hA
  split at hv <;> try (exact hv.elim)
  rename_i z ms hF
  obtain ⟨⟨h1,h2,h3⟩,hv⟩:=hv
  have hM:=dy hw
  obtain ⟨E2,H2,g,hk⟩:=rp hv
  refine ⟨E2,H2,bp.trans (bp.fam (A:=A) (F:=F) (k:=kk) (d:=d) (ts:=ts) (bs:=bs) (by rw[HT.ap];exact hA) (by rw[HT.ap];exact hF) h1 h2 h3 (fun h=>hM A (by simp) h) (fun h=>hM F (by simp) h) (fun b hb h=>hM b (by simp[hb]) h)) ?_,hk⟩
  rw[CZ,vG,HT.aV,HT.aV]at g
  exact g
theorem sH{base:Nat}{M:MS}{E:Env}:∀(zs:List Nat) (H:HT),bp P base (M.list base) E.get H.list E.get (Ls zs H).list
 | [],H=>bp.refl
 |z :: zs,H=>by
  have:=sH (base:=base) (M:=M) (E:=E) zs (H.push (.fam z []))
  rw[HT.bN]at this
  exact (bp.vU z).trans this
theorem eO{base:Nat}{M:MS}:∀{l:List M7} {E:Env} {H:HT} {k:Env->HT->Prop},jV base M l E H k->∃E2 H2,bp P base (M.list base) E.get H.list E2.get H2.list/\k E2 H2
 | [],E,H,k,hv=>⟨E,H,bp.refl,hv⟩
 | .new z :: l,E,H,k,hv=>by
  obtain ⟨E2,H2,g,hk⟩:=eO (l:=l) hv
  refine ⟨E2,H2,bp.trans (fun B V w N tmps h1 h2 h3=>⟨V,Post.sZ h1 h2 (.fam 0 [.int .i64 (z:Int)]),h3⟩) ?_,hk⟩
  rwa [HT.bN]at g
 | .take hd t F k n z row :: l,E,H,kk,hv=>by
  unfold jV at hv
  split at hv <;> try (exact hv.elim)
  rename_i hw
  split at hv <;> try (exact hv.elim)
  rename_i zh hs hhd
  split at hv <;> try (exact hv.elim)
  rename_i ms hF
  obtain ⟨⟨c1,c2,c3,c4⟩,hv⟩:=hv
  have hM:=dy hw
  obtain ⟨E2,H2,g,hk⟩:=eO (l:=l) hv
  refine ⟨E2,H2,bp.trans (bp.take (hd:=hd) (zh:=zh) (t:=t) (F:=F) (k:=k) (n:=n) (z:=z) (hs:=hs) (ms:=ms) (row:=row) (by rw[HT.ap];exact hhd) (by rw[HT.ap];exact hF) c1 c2 c3 c4 (fun h=>hM hd (by simp) h) (fun h=>hM F (by simp) h)) ?_,hk⟩
  rw[HT.aV,HT.bN,HT.aV,<- HT.length]at g
  exact g
 | .give hd t F A k n z q :: l,E,H,kk,hv=>by
  unfold jV at hv
  split at hv <;> try (exact hv.elim)
  rename_i hw
  split at hv <;> try (exact hv.elim)
  rename_i zh hs hhd
  split at hv <;> try (exact hv.elim)
  rename_i ms hF
  split at hv <;> try (exact hv.elim)
  rename_i z' row hA
  split at hv <;> try (exact hv.elim)
  rename_i hzz
  have hzz:=Nat.eq_of_beq_eq_true hzz
  subst hzz
  obtain ⟨⟨c1,c2,c3,c4,c5,c6⟩,hv⟩:=hv
  rw[Bool.and_eq_true]at hw
  have hM:=dy hw.1
  have hne:A≠hd:=fun e=>by rw[e,Nat.beq_refl]at hw;exact absurd hw.2 (by decide)
  obtain ⟨E2,H2,g,hk⟩:=eO (l:=l) hv
  refine ⟨E2,H2,bp.trans (bp.give (hd:=hd) (zh:=zh) (t:=t) (F:=F) (A:=A) (k:=k) (n:=n) (hs:=hs) (ms:=ms) (row:=row) (tag:=match (generalizing:=false) q with|true=>some 1|false=>none) (by rw[HT.ap];exact hhd) (by rw[HT.ap];exact hF) (by rw[HT.ap];exact hA) c1 ?_ c3 c4 c5 c6 (fun h=>hM hd (by simp) h) (fun h=>hM F (by simp) h) (fun h=>hM A (by simp) h) hne) ?_,hk⟩
  ·cases q with
   |true=>exact .inl rfl
   |false=>exact .inr ⟨rfl,c2.resolve_left (by decide)⟩
  ·rw[HT.aV,HT.aV,HT.aV]at g
   exact g
 | .yQ hd t F k n z key row :: l,E,H,kk,hv=>by
  unfold jV at hv
  split at hv <;> try (exact hv.elim)
  rename_i hw
  split at hv <;> try (exact hv.elim)
  rename_i es hhd
  split at hv <;> try (exact hv.elim)
  rename_i ms hF
  obtain ⟨⟨c1,c2,c3,c4⟩,hv⟩:=hv
  have hM:=dy hw
  obtain ⟨E2,H2,g,hk⟩:=eO (l:=l) hv
  refine ⟨E2,H2,bp.trans (bp.yQ (hd:=hd) (t:=t) (F:=F) (k:=k) (n:=n) (z:=z) (es:=es) (key:=key) (ms:=ms) (row:=row) (by rw[HT.ap];exact hhd) (by rw[HT.ap];exact hF) c1 c2 c3 c4 (fun h=>hM hd (by simp) h) (fun h=>hM F (by simp) h)) ?_,hk⟩
  rw[HT.aV,HT.bN,HT.aV,<- HT.length]at g
  exact g
 | .wz hd t F A k n z key q :: l,E,H,kk,hv=>by
  unfold jV at hv
  split at hv <;> try (exact hv.elim)
  rename_i hw
  split at hv <;> try (exact hv.elim)
  rename_i es hhd
  split at hv <;> try (exact hv.elim)
  rename_i ms hF
  split at hv <;> try (exact hv.elim)
  rename_i z' row hA
  split at hv <;> try (exact hv.elim)
  rename_i hzz
  have hzz:=Nat.eq_of_beq_eq_true hzz
  subst hzz
  obtain ⟨⟨c1,c2,c3,c4,c5,c6⟩,hv⟩:=hv
  rw[Bool.and_eq_true]at hw
  have hM:=dy hw.1
  have hne:A≠hd:=fun e=>by rw[e,Nat.beq_refl]at hw;exact absurd hw.2 (by decide)
  obtain ⟨E2,H2,g,hk⟩:=eO (l:=l) hv
  refine ⟨E2,H2,bp.trans (bp.wz (hd:=hd) (t:=t) (F:=F) (A:=A) (k:=k) (n:=n) (es:=es) (key:=key) (ms:=ms) (row:=row) (tag:=match (generalizing:=false) q with|true=>some 1|false=>none) (by rw[HT.ap];exact hhd) (by rw[HT.ap];exact hF) (by rw[HT.ap];exact hA) c1 ?_ c3 c4 c5 c6 (fun h=>hM hd (by simp) h) (fun h=>hM F (by simp) h) (fun h=>hM A (by simp) h) hne) ?_,hk⟩
  ·cases q with
   |true=>exact .inl rfl
   |false=>exact .inr ⟨rfl,c2.resolve_left (by decide)⟩
  ·rw[HT.aV,HT.aV,HT.aV]at g
   exact g
 | .yP s F k n z row :: l,E,H,kk,hv=>by
  unfold jV at hv
  split at hv <;> try (exact hv.elim)
  rename_i hw
  split at hv <;> try (exact hv.elim)
  rename_i ms hF
  obtain ⟨⟨c1,c2,c3,c4⟩,hv⟩:=hv
  have hM:=dy hw
  obtain ⟨E2,H2,g,hk⟩:=eO (l:=l) hv
  refine ⟨E2,H2,bp.trans (bp.yP (s:=s) (F:=F) (k:=k) (n:=n) (z:=z) (ms:=ms) (row:=row) (by rw[HT.ap];exact hF) c1 c2 c3 c4 (fun h=>hM F (by simp) h)) ?_,hk⟩
  rw[HT.bN,HT.aV,Env.get_put,<- HT.length]at g
  exact g
theorem sI{base:Nat}{M:MS}{h:Hint}{E:Env}{H:HT}{k:Env->HT->Hint->Prop}(hv:Gj base M h E H k):∃E2 H2 h2,bp P base (M.list base) E.get H.list E2.get H2.list/\k E2 H2 h2:=by
 unfold Gj at hv
 split at hv
 ·obtain ⟨E2,H2,g,hk⟩:=ic hv;exact ⟨E2,H2,_,g,hk⟩
 ·exact ⟨E,_,_,sH _ _,hv⟩
 ·obtain ⟨E2,H2,g,hk⟩:=rp hv;exact ⟨E2,H2,_,g,hk⟩
 ·obtain ⟨E2,H2,g,hk⟩:=eO hv;exact ⟨E2,H2,_,g,hk⟩
 ·exact ⟨E,H,_,bp.refl,hv⟩
theorem Br(ha:oQ P app){base n:Nat}{M:MS}{ops:Array Oper}:∀{os:List Oper} {E:Env} {H:HT} {h:Hint} {K:Env->HT->Hint->Prop},Gi P app base n M dm ops os E H h K ->
  CF P base (M.list base) ops os E.get H.list (fun T H' => ∃E2 H2 h2,T=E2.get/\H'=H2.list/\K E2 H2 h2):=by
 intro os
 induction os with
 |nil=>intro E H h K hv;exact ⟨E,H,h,rfl,rfl,hv⟩
 |cons o os ih =>
  intro E H h K hv
  simp only[Gi]at hv
  obtain ⟨E0,H0,h0,hgh,hv⟩:=sI (P:=P) hv
  obtain ⟨hkn,hv⟩:=oT hv
  simp only[CF]
  refine ⟨_,_,hgh,hkn,?_⟩
  rcases hv with ⟨hw,E1,H1,h1,e1,e2,hv⟩|⟨hw,E2,H1,h2,e1,e2,hv⟩
  ·rw[hw,if_pos rfl]
   have hn:=HT.n_eq e2
   rw[<- e1,<- e2]
   unfold Et
   rcases nv ha (by first|exact ND .. |exact NE ..) hv with ⟨hc,hp,he,hk⟩|⟨hc,hp,hk⟩|⟨hc,hp,hwk,hk⟩|⟨hc,hop,hwk,hcall⟩|⟨hc,hk⟩
   ·rw[hc];exact ⟨_,_,hp,by have:=ih hk;rw[he]at this;exact this⟩
   ·rw[hc];exact ⟨_,_,by rw[HT.length];exact hp,by have:=ih hk;rw[Env.get_put,HT.bN]at this;exact this⟩
   ·rw[hc];exact ⟨_,_,_,hp,fun id hid hb=>iU (n:=H1.n) (Mc:=some _) (by rw[hn];exact hwk) id hid hb,by have:=ih hk;rw[Env.get_put]at this;exact this⟩
   ·rw[hc,hop]
    refine ⟨_,hcall.mono (fun _ h _=>h) ?_,fun id hid hb=>iU (n:=H1.n) (by rw[hn];exact hwk) id hid hb⟩
    rintro v H' ⟨H2,h2,rfl,hk⟩
    rw[<- Env.get_put];exact ih hk
   ·rw[hc]
    refine qu.mono (hk base (M.list base) fun id hw hb=>iU (n:=H1.n) (Mc:=some [id]) (by rw[hn];exact hw) id (List.mem_singleton.2 rfl) hb) ?_
    rintro v H' ⟨H2,h2,rfl,hk⟩
    rw[<- Env.get_put];exact ih hk
  ·rw[hw,if_neg (by simp)]
   rw[<- e1,<- e2]
   exact ih hv
theorem yD(ha:oQ P app){base:Nat}{M:MS}{bs:List Nat}{ops:Array Oper}:∀{is:List Nat} {E:Env} {H:HT} {log:List (Nat×Option Nat)} {h:Hint} {K:Env->HT->Hint->Prop},yE P app base M dm bs ops is E H log h K ->
  kC P base (M.list base) bs ops is E.get H.list log (fun T H' => ∃E2 H2 h2,T=E2.get/\H'=H2.list/\K E2 H2 h2):=by
 intro is
 induction is with
 |nil=>intro E H log h K hv;exact ⟨E,H,h,rfl,rfl,hv⟩
 |cons i is ih =>
  intro E H log h K hv
  simp only[yE]at hv
  simp only[kC]
  split at hv <;> try (exact hv.elim)
  rename_i o ho
  simp only[ho]
  split at hv
  ·exact hv.elim
  rename_i hni
  obtain ⟨hkn,hv⟩:=oT hv
  refine ⟨hkn,?_⟩
  rcases hv with ⟨hw,E1,H1,h1,e1,e2,hv⟩|⟨hw,E2,H1,h2,e1,e2,hv⟩
  ·rw[hw,if_pos rfl]
   have hn:=HT.n_eq e2
   rw[<- e1,<- e2]
   unfold yt
   rcases nv ha (by first|exact ND .. |exact NE ..) hv with ⟨hc,hp,he,hk⟩|⟨hc,hp,hk⟩|⟨hc,hp,hwk,hk⟩|⟨hc,hop,hwk,hcall⟩|⟨hc,hk⟩
   ·rw[hc]at hk ⊢;exact ⟨_,_,hp,by have:=ih hk;rw[he]at this;exact this⟩
   ·rw[hc]at hk ⊢
    refine ⟨_,_,by rw[HT.length];exact hp,?_⟩
    have:=ih hk
    rw[Env.get_put,HT.bN]at this
    rw[HT.length]
    exact this
   ·simp only[Bool.and_eq_true]at hwk
    rw[hc]at hk ⊢
    exact ⟨_,_,_,hp,fun id hid hb=>iU (n:=H1.n) (Mc:=some _) (by rw[hn];exact hwk.1) id hid hb,rx hwk.2,by have:=ih hk;rw[Env.get_put]at this;exact this⟩
   ·simp only[Bool.and_eq_true]at hwk
    rw[hc]at hcall ⊢
    rw[hop]
    refine ⟨_,hcall.mono (fun _ h _=>h) ?_,fun id hid hb=>iU (n:=H1.n) (by rw[hn];exact hwk.1) id hid hb,rx (by rw[hn];exact hwk.2)⟩
    rintro v H' ⟨H2,h2,rfl,hk⟩
    rw[<- Env.get_put];exact ih hk
   ·exact (hni hc).elim
  ·rw[hw,if_neg (by simp)]
   rw[<- e1,<- e2]
   exact ih hv
end
theorem mw{a b:Nat}(h:Nat.blt a b=true):a<b:=by rw[Nat.blt_eq]at h;exact h
theorem M0{a b:Nat}(h:a<b):Nat.blt a b=true:=by rw[Nat.blt_eq];exact h
theorem Cx{a b:Nat}(h:b<=a):Nat.blt a b=false:=by
 cases hb:Nat.blt a b with
 |false=>rfl
 |true=>have:=mw hb;omega
theorem wy(l:List (Nat×Value))(t:Nat):(mj l).get t=junk∨∃v,(t,v)∈l/\(mj l).get t=v:=by
 have key:∀(l:List (Nat×Value)) (E:Env),(l.foldl (fun E p=>E.put (some p.1) p.2) E).get t=E.get t∨∃v,(t,v)∈l/\(l.foldl (fun E p=>E.put (some p.1) p.2) E).get t=v:=by
  intro l
  induction l with
  |nil=>intro E;exact .inl rfl
  |cons p l ih =>
   intro E
   rcases ih (E.put (some p.1) p.2) with h|⟨v,h1,h2⟩
   ·rw[List.foldl_cons,h,Env.get_put]
    simp only[put,upd]
    by_cases e:t=p.1
    ·right;subst e;exact ⟨p.2,List.mem_cons_self ..,by simp⟩
    ·left;simp[e]
   ·right;exact ⟨v,List.mem_cons_of_mem _ h1,h2⟩
 rcases key l ⟨fun _=>junk,.leaf⟩ with h|h
 ·left;unfold mj;rw[h];rfl
 ·right;exact h
theorem lP{T:Tm}{σ:Nat->Option Nat}{d:Nat}:∀{l:List (Nat×Value)},lQ T σ d l->∀t v,(t,v)∈l->wk (T t) (rn σ d v)
 | [],_,t,v,h=>by cases h
 |(t',v') :: r,h,t,v,hm=>by
  rcases List.mem_cons.1 hm with e|hm
  ·cases e
   have h1:=h.1
   split at h1
   ·exact h1
   ·exact yA h1
  ·exact lP h.2 t v hm
theorem tg:∀(lp:List (Nat×List (Nat×Value))) (H:HT) (id:Nat),
  (lp.foldl dC H).n=H.n/\((∃p∈lp,p.1=id/\∃st pe tm N ps as bd,H.get id=some (.loop st pe tm N ps as bd)/\(lp.foldl dC H).get id=some (.loop st pe (mj p.2).get N ps as bd)) ∨
   ((∀p∈lp,p.1=id->∀st pe tm N ps as bd,H.get id≠some (.loop st pe tm N ps as bd))/\(lp.foldl dC H).get id=H.get id)):=by
 intro lp
 induction lp with
 |nil=>intro H id;exact ⟨rfl,.inr ⟨fun _ h=>(by cases h),rfl⟩⟩
 |cons p lp ih =>
  intro H id
  have step:(dC H p).n=H.n/\((p.1=id/\∃st pe tm N ps as bd,H.get id=some (.loop st pe tm N ps as bd)/\(dC H p).get id=some (.loop st pe (mj p.2).get N ps as bd))∨((p.1=id->∀st pe tm N ps as bd,H.get id≠some (.loop st pe tm N ps as bd))/\(dC H p).get id=H.get id)):=by
   unfold dC
   split
   ·rename_i st pe tm N ps as bd hg
    refine ⟨rfl,?_⟩
    by_cases e:p.1=id
    ·left
     refine ⟨e,st,pe,tm,N,ps,as,bd,e ▸ hg,?_⟩
     rw[<- HT.ap,HT.aV,List.getElem?_set,if_pos e]
     have hlt:p.1<H.list.length:=by
      rw[<- HT.ap]at hg
      exact (List.getElem?_eq_some_iff.1 hg).1
     rw[if_pos hlt]
    ·right
     refine ⟨fun h=>absurd h e,?_⟩
     rw[<- HT.ap,HT.aV,List.getElem?_set,if_neg e,HT.ap]
   ·rename_i hn
    exact ⟨rfl,.inr ⟨fun e st pe tm N ps as bd h=>hn st pe tm N ps as bd (e ▸ h),rfl⟩⟩
  obtain ⟨h1,h2⟩:=ih (dC H p) id
  refine ⟨h1.trans step.1,?_⟩
  rcases h2 with ⟨q,q1,q2,st,pe,tm,N,ps,as,bd,q3,q4⟩|⟨q1,q2⟩
  ·left
   refine ⟨q,List.mem_cons_of_mem _ q1,q2,st,pe,?_⟩
   rcases step.2 with ⟨_,st',pe',tm',N',ps',as',bd',s3,s4⟩|⟨_,s4⟩
   ·rw[s4]at q3;cases q3
    exact ⟨tm',N,ps,as,bd,s3,q4⟩
   ·rw[s4]at q3
    exact ⟨tm,N,ps,as,bd,q3,q4⟩
  ·rcases step.2 with ⟨s1,st',pe',tm',N',ps',as',bd',s3,s4⟩|⟨s1,s4⟩
   ·left
    exact ⟨p,List.mem_cons_self ..,s1,st',pe',tm',N',ps',as',bd',s3,by rw[List.foldl_cons,q2,s4]⟩
   ·right
    refine ⟨fun q hq e st pe tm N ps as bd h =>?_,by rw[List.foldl_cons,q2,s4]⟩
    rcases List.mem_cons.1 hq with rfl|hq
    ·exact s1 e st pe tm N ps as bd h
    ·exact q1 q hq e st pe tm N ps as bd (by rw[s4];exact h)
theorem th{H H0:HT}{σ:Nat->Option Nat}{d:Nat}:∀{lp:List (Nat×List (Nat×Value))},LH H H0 σ d lp->∀p∈lp,
  ∃tm N ps as bd tm',H0.get p.1=some (.loop .ready none tm N ps as bd)/\H.get p.1=some (.loop .ready none tm' N ps as bd)/\lQ tm' σ d p.2
 | [],_,p,h=>by cases h
 |(L,sl) :: r,h,p,hm=>by
  rcases List.mem_cons.1 hm with rfl|hm
  ·have h1:=h.1
   split at h1
   ·rename_i tm N ps as bd tm' N' ps' as' bd' g1 g2
    obtain ⟨⟨rfl,rfl,rfl,rfl⟩,h2⟩:=h1
    exact ⟨tm,N,ps,as,bd,tm',g1,g2,h2⟩
   ·exact h1.elim
  ·exact th h.2 p hm
theorem ti{n0:Nat}{ML:List Nat}{chg:List (Nat×Bool×ah)}:∀{lp:List (Nat×List (Nat×Value))},GV n0 ML chg lp=true->∀p∈lp,p.1∈ML/\p.1<n0
 | [],_,p,h=>by cases h
 |q :: r,h,p,hm=>by
  unfold GV at h
  cases h1:qE q.1 ML with
  |false=>rw[h1]at h;cases h
  |true =>
   rw[h1,cond_true]at h
   cases h2:Nat.blt q.1 n0 with
   |false=>rw[h2]at h;cases h
   |true =>
    rw[h2,cond_true]at h
    cases h3:(chg.any fun x=>Nat.beq x.1 q.1) with
    |true=>rw[h3]at h;cases h
    |false =>
     rw[h3,cond_false]at h
     cases h4:(r.any fun x=>Nat.beq x.1 q.1) with
     |true=>rw[h4]at h;cases h
     |false =>
      rw[h4,cond_false]at h
      rcases List.mem_cons.1 hm with rfl|hm
      ·exact ⟨kd h1,mw h2⟩
      ·exact ti h p hm
theorem BE{id:Nat}{chg:List (Nat×Bool×ah)}(h:om id chg=true):(∃p∈chg,p.1=id)/\∀p∈chg,p.1=id->p.2.2 = .dead:=by
 unfold om at h
 cases h1:(chg.any fun p=>Nat.beq p.1 id) with
 |false=>rw[h1]at h;cases h
 |true =>
  rw[h1,cond_true]at h
  rw[List.any_eq_true]at h1
  obtain ⟨p,p1,p2⟩:=h1
  refine ⟨⟨p,p1,Nat.eq_of_beq_eq_true p2⟩,fun q hq e =>?_⟩
  rw[List.all_eq_true]at h
  have:=h q hq
  rw[show Nat.beq q.1 id=true by rw[e];exact Nat.beq_refl _,cond_true]at this
  split at this
  ·assumption
  ·cases this
theorem mT:∀(chg:List (Nat×Bool×ah)) (H:HT) (id:Nat),(∀p∈chg,p.1<H.n) ->
  (chg.foldl (fun H p=>H.set p.1 p.2.2) H).n=H.n/\((∃p∈chg,p.1=id/\(chg.foldl (fun H p=>H.set p.1 p.2.2) H).get id=some p.2.2)∨((∀p∈chg,p.1≠id)/\(chg.foldl (fun H p=>H.set p.1 p.2.2) H).get id=H.get id)):=by
 intro chg
 induction chg with
 |nil=>intro H id _;exact ⟨rfl,.inr ⟨fun _ h=>(by cases h),rfl⟩⟩
 |cons p chg ih =>
  intro H id hlt
  obtain ⟨h1,h2⟩:=ih (H.set p.1 p.2.2) id (fun q hq=>hlt q (List.mem_cons_of_mem _ hq))
  refine ⟨h1,?_⟩
  rcases h2 with ⟨q,q1,q2,q3⟩|⟨q1,q2⟩
  ·exact .inl ⟨q,List.mem_cons_of_mem _ q1,q2,q3⟩
  ·rw[List.foldl_cons,q2,<- HT.ap,HT.aV,List.getElem?_set]
   by_cases e:p.1=id
   ·left
    refine ⟨p,List.mem_cons_self ..,e,?_⟩
    rw[if_pos e,if_pos (by rw[HT.length];exact e ▸ hlt p (List.mem_cons_self ..))]
   ·right
    rw[if_neg e,HT.ap]
    exact ⟨fun q hq=>by rcases List.mem_cons.1 hq with rfl|hq;exact e;exact q1 q hq,rfl⟩
theorem ss:∀(new:List (Bool×ah)) (H:HT) (id:Nat),
  (new.foldl (fun H p=>H.push p.2) H).n=H.n+new.length/\(id<H.n->(new.foldl (fun H p=>H.push p.2) H).get id=H.get id) /\
  (∀o,H.n<=id->(new.foldl (fun H p=>H.push p.2) H).get id=some o->∃p,new[id-H.n]?=some p/\p.2=o):=by
 intro new
 induction new with
 |nil =>
  intro H id
  refine ⟨rfl,fun _=>rfl,fun o h1 h2 =>?_⟩
  have h2':H.get id=some o:=h2
  rw[<- HT.ap,List.getElem?_eq_none (by rw[HT.length];exact h1)]at h2'
  cases h2'
 |cons p new ih =>
  intro H id
  obtain ⟨h1,h2,h3⟩:=ih (H.push p.2) id
  have hpn:(H.push p.2).n=H.n+1:=rfl
  have hget:∀i,i<=H.n->(H.push p.2).get i=if i=H.n then some p.2 else H.get i:=by
   intro i hi
   rw[<- HT.ap,HT.bN,<- HT.ap]
   by_cases e:i=H.n
   ·rw[if_pos e,List.getElem?_append_right (by rw[HT.length];omega),HT.length,e];simp
   ·rw[if_neg e,List.getElem?_append_left (by rw[HT.length];omega)]
  refine ⟨by rw[List.foldl_cons,h1,hpn,List.length_cons];omega,fun hlt =>?_,fun o hge ho =>?_⟩
  ·rw[List.foldl_cons,h2 (by rw[hpn];omega),hget id Om,if_neg Om]
  ·rw[List.foldl_cons]at ho
   by_cases e:id=H.n
   ·rw[h2 (by rw[hpn];omega),hget id Om,if_pos e]at ho
    cases ho
    exact ⟨p,by rw[e];simp,rfl⟩
   ·obtain ⟨q,q1,q2⟩:=h3 o (by rw[hpn];omega) ho
    refine ⟨q,?_,q2⟩
    rw[hpn]at q1
    have:id-H.n=(id-(H.n+1))+1:=Om
    rw[this,List.getElem?_cons_succ];exact q1
theorem re{n0:Nat}{ML:List Nat}:∀{chg:List (Nat×Bool×ah)},AR n0 ML chg=true->∀p∈chg,p.1∈ML/\p.1<n0
 | [],_,p,h=>by cases h
 |q :: r,h,p,hm=>by
  unfold AR at h
  cases h1:qE q.1 ML with
  |false=>rw[h1]at h;cases h
  |true =>
   rw[h1,cond_true]at h
   cases h2:Nat.blt q.1 n0 with
   |false=>rw[h2]at h;cases h
   |true =>
    rw[h2,cond_true]at h
    rcases List.mem_cons.1 hm with rfl|hm
    ·exact ⟨kd h1,mw h2⟩
    ·exact re h p hm
theorem rg{chg:List (Nat×Bool×ah)}{lp:List (Nat×List (Nat×Value))}:∀{ML:List Nat},allIn chg lp ML=true->∀id∈ML,(∃p∈chg,p.1=id)∨(∃p∈lp,p.1=id)
 | [],_,id,h=>by cases h
 |i :: r,h,id,hm=>by
  unfold allIn at h
  have one:∀{β:Type} (l:List (Nat×β)),(l.any fun p=>Nat.beq p.1 i)=true->∃p∈l,p.1=i:=by
   intro β l h1
   rw[List.any_eq_true]at h1
   obtain ⟨p,p1,p2⟩:=h1
   exact ⟨p,p1,Nat.eq_of_beq_eq_true p2⟩
  cases h1:(chg.any fun p=>Nat.beq p.1 i) with
  |false =>
   rw[h1,cond_false]at h
   cases h2:(lp.any fun p=>Nat.beq p.1 i) with
   |false=>rw[h2]at h;cases h
   |true =>
    rw[h2,cond_true]at h
    rcases List.mem_cons.1 hm with rfl|hm
    ·exact .inr (one _ h2)
    ·exact rg h id hm
  |true =>
   rw[h1,cond_true,cond_true]at h
   rcases List.mem_cons.1 hm with rfl|hm
   ·exact .inl (one _ h1)
   ·exact rg h id hm
theorem v7{id b:Nat}:∀{σ:List (Nat×Nat)},Dc id σ=some b->(id,b)∈σ
 | [],h=>by cases h
 |(x,y) :: r,h=>by
  unfold Dc at h
  cases h1:Nat.beq id x with
  |true=>rw[h1,cond_true]at h;cases h;rw[Nat.eq_of_beq_eq_true h1];exact List.mem_cons_self ..
  |false=>rw[h1,cond_false]at h;exact List.mem_cons_of_mem _ (v7 h)
theorem s9{k:Nat×Nat}:∀{σ:List (Nat×Nat)},zf k σ=true->∀q∈σ,k.1≠q.1/\k.2≠q.2
 | [],_,q,h=>by cases h
 |p :: r,h,q,hm=>by
  unfold zf at h
  cases h1:Nat.beq k.1 p.1 with
  |true=>rw[h1]at h;cases h
  |false =>
   rw[h1,cond_false]at h
   cases h2:Nat.beq k.2 p.2 with
   |true=>rw[h2]at h;cases h
   |false =>
    rw[h2,cond_false]at h
    rcases List.mem_cons.1 hm with rfl|hm
    ·exact ⟨fun e=>(by rw[e,Nat.beq_refl]at h1;cases h1),fun e=>(by rw[e,Nat.beq_refl]at h2;cases h2)⟩
    ·exact s9 h q hm
theorem vH{n0 n:Nat}{chg:List (Nat×Bool×ah)}:∀{σ:List (Nat×Nat)},EH n0 n chg σ=true->(∀p∈σ,n0<=p.1/\p.1<n/\(n0<=p.2∨om p.2 chg=true))/\(∀p∈σ,∀q∈σ,p.2=q.2->p.1=q.1)
 | [],_=>⟨fun _ h=>(by cases h),fun _ h=>(by cases h)⟩
 |p :: r,h=>by
  unfold EH at h
  cases h1:Nat.ble n0 p.1 with
  |false=>rw[h1]at h;cases h
  |true =>
  rw[h1,cond_true]at h
  cases h2:Nat.blt p.1 n with
  |false=>rw[h2]at h;cases h
  |true =>
  rw[h2,cond_true]at h
  cases h3:(cond (Nat.ble n0 p.2) true (om p.2 chg)) with
  |false=>rw[h3]at h;cases h
  |true =>
  rw[h3,cond_true]at h
  have h3':n0<=p.2∨om p.2 chg=true:=by
   cases h5:Nat.ble n0 p.2 with
   |true=>exact .inl (Nat.le_of_ble_eq_true h5)
   |false=>rw[h5,cond_false]at h3;exact .inr h3
  cases h4:zf p r with
  |false=>rw[h4]at h;cases h
  |true =>
  rw[h4,cond_true]at h
  obtain ⟨k1,k2⟩:=vH h
  have hn:=s9 h4
  refine ⟨fun q hq =>?_,fun a ha b hb e =>?_⟩
  ·rcases List.mem_cons.1 hq with rfl|hq
   ·exact ⟨Nat.le_of_ble_eq_true h1,mw h2,h3'⟩
   ·exact k1 q hq
  ·rcases List.mem_cons.1 ha with ea|ha'
   ·rcases List.mem_cons.1 hb with eb|hb'
    ·rw[ea,eb]
    ·exact absurd (by rw[<- ea];exact e) (hn b hb').2
   ·rcases List.mem_cons.1 hb with eb|hb'
    ·exact absurd (by rw[<- eb];exact e.symm) (hn a ha').2
    ·exact k2 a ha' b hb' e
theorem wH{H:HT}{n0 d:Nat}{σ:Nat->Option Nat}:∀{chg:List (Nat×Bool×ah)},Ih H n0 σ d chg->∀p∈chg,vR H n0 σ d p.1 p.2.1 p.2.2
 | [],_,p,h=>by cases h
 |(id,pl,o) :: r,h,p,hm=>by
  rcases List.mem_cons.1 hm with rfl|hm
  ·exact h.1
  ·exact wH h.2 p hm
theorem vW{H:HT}{n0 d:Nat}{σ:Nat->Option Nat}:∀{new:List (Bool×ah)} {id:Nat},zi H n0 σ d id new->∀i p,new[i]?=some p->vR H n0 σ d (id+i) p.1 p.2
 | [],_,_,i,p,h=>by simp at h
 |(pl,o) :: r,id,h,i,p,hm=>by
  cases i with
  |zero=>simp at hm;subst hm;exact h.1
  |succ i =>
   have:=vW h.2 i p (by simpa using hm)
   have e:Nat.succ id+i=id+(i+1):=Om
   rw[e]at this;exact this
theorem s7{H:HT}{n0 d:Nat}{σ:Nat->Option Nat}{id id':Nat}{pl:Bool}{o:ah}(hold:∀i,i<n0->σ i=some i)(h:vR H n0 σ d id pl o)(hs:σ id=some id') :
  o = .dead∨(∃o',H.list[id']?=some o'/\o'.owned=o.owned/\o'.alive=o.alive/\(∀(V ρ':Ren) (r:RI) (w:World),uO σ V ρ'->bk ρ' r o' w->bk V r o w)/\(∀z cs,o = .fam z cs->∃cs',o' = .fam z cs'/\cs'.length=cs.length/\(∀(i:Nat) (v v':Value),cs[i]?=some v->cs'[i]?=some v'->∀(V ρ':Ren) (x:Value),uO σ V ρ'->VR ρ' v' x->VR V v x)/\(z=0->mD cs cs'))):=by
 have main:∀o:ah,(rno σ d o = .dead->o = .dead)->(match σ id with|some id'=>cond pl (H.get id'=some o/\ei n0 o=true) (match H.get id' with|some o'=>wkO o' (rno σ d o)|none=>False)|none=>True) ->
   ∃o',H.list[id']?=some o'/\o'.owned=o.owned/\o'.alive=o.alive/\(∀(V ρ':Ren) (r:RI) (w:World),uO σ V ρ'->bk ρ' r o' w->bk V r o w)/\(∀z cs,o = .fam z cs->∃cs',o' = .fam z cs'/\cs'.length=cs.length/\(∀(i:Nat) (v v':Value),cs[i]?=some v->cs'[i]?=some v'->∀(V ρ':Ren) (x:Value),uO σ V ρ'->VR ρ' v' x->VR V v x)/\(z=0->mD cs cs')):=by
  intro o hd h
  rw[hs]at h
  simp only at h
  cases pl with
  |true=>exact ⟨o,by rw[HT.ap];exact h.1,rfl,rfl,fun V ρ' r w hS hr=>uL (fun i r hi a=>hS.f i i r (hold i hi) a) hS.m h.2 hr,fun z cs e=>⟨cs,e,rfl,fun i v v' a b V ρ' x hS hv=>(by
    rw[a]at b;cases b
    have hb:=h.2
    rw[e]at hb
    simp only[ei,List.all_eq_true]at hb
    exact bc (fun i r hi a=>hS.f i i r (hold i hi) a) hS.m (hb v (List.mem_of_getElem? a)) hv),fun _=>oW cs⟩⟩
  |false =>
   obtain ⟨a,b⟩:=vK σ d o hd
   rw[cond_false]at h
   split at h
   ·rename_i o2 hg
    exact ⟨o2,by rw[HT.ap];exact hg,h.1.symm.trans a,h.2.1.symm.trans b,fun V ρ' r w hS hr=>oZ hS.f hS.m hS.g (h.2.2.1 _ _ _ hr) hd,fun z cs e=>by
     obtain ⟨cs0,e0,hl,hw,ht⟩:=h.2.2.2 z (cs.map (rn σ d)) (by rw[e];rfl)
     refine ⟨cs0,e0,by rw[hl,List.length_map],fun i v v' a b V ρ' x hS hv=>ny hS.f hS.m hS.g d (hw i v' (rn σ d v) b (by rw[List.getElem?_map,a];rfl) _ _ hv),fun hz k n hk =>?_⟩
     have:=ht hz k n hk
     rw[List.getElem?_map]at this
     obtain ⟨v,e1,e2⟩:=aX this
     rw[e1,Lx e2]⟩
   ·exact h.elim
 cases o with
 |dead=>exact .inl rfl
 |loop _ _ _ _ _ _ _=>exact h.elim
 |cells own z cs=>exact .inr (main _ (by intro h;cases h) h)
 |map es=>exact .inr (main _ (by intro h;cases h) h)
 |iter m n s =>
  unfold vR at h
  rw[hs]at h
  exact .inr ⟨.iter m n s,by rw[HT.ap];exact h.1,rfl,rfl,fun V ρ' r w hS hr=>uL (fun i r hi a=>hS.f i i r (hold i hi) a) hS.m h.2 hr,fun z cs e=>by cases e⟩
 |fam z cs=>exact .inr (main _ (by intro h;cases h) h)
theorem kY{N d:Nat}{E:Env}{H H0:HT}{ML:List Nat}{σ:List (Nat×Nat)}{slots:List (Nat×Value)}{chg:List (Nat×Bool×ah)}{new:List (Bool×ah)}{lp:List (Nat×List (Nat×Value))}(h:um N E H H0 d ML σ slots chg new lp) :
  Emb H0.list ML N (sg H0.n σ) d (mj slots).get (kh H0 chg new lp).list E.get H.list:=by
 obtain ⟨h1,h2,h3,h4,h5⟩:=h
 simp only[Bool.and_eq_true]at h1
 obtain ⟨k1,k2,k2',k3⟩:=h1
 obtain ⟨s1,s2⟩:=vH k1
 have hc:=re k2
 have hl:=ti k2'
 have ln:=(tg lp H0 0).1
 have hlt:∀p∈chg,p.1<(lp.foldl dC H0).n:=fun p hp=>by rw[ln];exact (hc p hp).2
 have hcn:=(mT chg (lp.foldl dC H0) 0 hlt).1
 rw[ln]at hcn
 have hn:(kh H0 chg new lp).n=H0.n+new.length:=by
  unfold kh
  rw[(ss new _ 0).1,hcn]
 have hold:∀id,id<H0.n->sg H0.n σ id=some id:=fun id hid=>by unfold sg;rw[M0 hid];rfl
 have hnew:∀id id',¬ id<H0.n->sg H0.n σ id=some id'->(id,id')∈σ:=fun id id' hid hs=>by
  unfold sg at hs;rw[Cx Om,cond_false]at hs;exact v7 hs
 have hget:∀id,id<H0.n->(kh H0 chg new lp).get id=(chg.foldl (fun H p=>H.set p.1 p.2.2) (lp.foldl dC H0)).get id:=fun id hid=>by
  unfold kh
  exact (ss new _ id).2.1 (by rw[hcn];exact hid)
 have HE:∀id o,id<H0.n->om id chg=true->(kh H0 chg new lp).get id=some o->o = .dead:=by
  intro id o hid hm ho
  obtain ⟨⟨p,p1,p2⟩,p3⟩:=BE hm
  rw[hget id hid]at ho
  rcases (mT chg (lp.foldl dC H0) id hlt).2 with ⟨q,q1,q2,q3⟩|⟨q1,_⟩
  ·rw[q3]at ho;cases ho;exact p3 q q1 q2
  ·exact absurd p2 (q1 p p1)
 refine ⟨by rw[HT.length,HT.length,hn];omega,fun id hid=>hold id (by rwa [HT.length]at hid),fun id id' hs =>?_,fun i1 i2 i' o1 o2 e1 e2 g1 g2 a1 a2 =>?_,fun t _ =>?_,fun id hid hm =>?_,fun id id' o hs hc2 ho =>?_⟩
 ·rw[HT.length,hn]
  by_cases hid:id<H0.n
  ·omega
  ·have hp:=(s1 _ (hnew id id' hid hs)).2.1
   exact hp
 ·rw[HT.ap]at g1 g2
  by_cases a:i1<H0.n
  ·rw[hold i1 a]at e1
   cases e1
   by_cases b:i2<H0.n
   ·rw[hold i2 b]at e2;cases e2;rfl
   ·rcases (s1 _ (hnew _ _ b e2)).2.2 with h|h
    ·simp at h;omega
    ·rw[HE _ _ a h g1]at a1;cases a1
  ·by_cases b:i2<H0.n
   ·rw[hold i2 b]at e2;cases e2
    rcases (s1 _ (hnew _ _ a e1)).2.2 with h|h
    ·simp at h;omega
    ·rw[HE _ _ b h g2]at a2;cases a2
   ·exact s2 _ (hnew _ _ a e1) _ (hnew _ _ b e2) rfl
 ·rcases wy slots t with h|⟨v,m,h⟩
  ·exact .inl h
  ·rw[h];exact .inr (lP h2 t v m)
 ·rw[HT.length]at hid
  rw[HT.ap,HT.ap,hget id hid]
  rcases (mT chg (lp.foldl dC H0) id hlt).2 with ⟨p,p1,p2,_⟩|⟨_,q⟩
  ·exact absurd (p2 ▸ (hc p p1).1) hm
  ·rw[q]
   rcases (tg lp H0 id).2 with ⟨p,p1,p2,_⟩|⟨_,q⟩
   ·exact absurd (p2 ▸ (hl p p1).1) hm
   ·exact q
 ·rw[HT.length]at hc2
  rw[HT.ap]at ho
  by_cases hid:id<H0.n
  ·have hm:id∈ML:=by rcases hc2 with h|h;omega;exact h
   rw[hget id hid]at ho
   rcases (mT chg (lp.foldl dC H0) id hlt).2 with ⟨q,q1,q2,q3⟩|⟨q1,q4⟩
   ·rw[q3]at ho;cases ho
    have:=wH h3 q q1
    rw[q2]at this
    exact s7 hold this hs
   ·rcases rg k3 id hm with ⟨p,p1,p2⟩|⟨p,p1,p2⟩
    ·exact absurd p2 (q1 p p1)
    ·rw[q4]at ho
     obtain ⟨tm,N',ps,as,bd,tm',r1,r2,r3⟩:=th h5 p p1
     rw[p2]at r1 r2
     rcases (tg lp H0 id).2 with ⟨q,w1,w2,st,pe,tm2,N2,ps2,as2,bd2,w3,w4⟩|⟨w1,_⟩
     ·rw[r1]at w3;cases w3
      rw[w4]at ho;cases ho
      obtain ⟨_,N3,ps3,as3,bd3,tm3,y1,y2,y3⟩:=th h5 q w1
      rw[w2]at y1 y2
      rw[r1]at y1;cases y1
      rw[hold id hid]at hs;cases hs
      refine .inr ⟨.loop .ready none tm3 N' ps as bd,by rw[HT.ap];exact y2,rfl,rfl,fun V ρ' r w hS hr =>?_,fun z cs h=>by cases h⟩
      obtain ⟨z1,l,z2,z3,z4,z5,z6,z7,z8,z9⟩:=hr
      refine ⟨z1,l,z2,z3,z4,z5,z6,z7,z8,fun t ht =>?_⟩
      rcases wy q.2 t with h|⟨v,m,h⟩
      ·rw[h];exact .junk _
      ·rw[h];exact ny hS.f hS.m hS.g d (lP y3 t v m _ _ (z9 t ht))
     ·exact absurd r1 (w1 p p1 p2 _ _ _ _ _ _ _)
  ·unfold kh at ho
   obtain ⟨p,p1,p2⟩:=(ss new (chg.foldl (fun H p=>H.set p.1 p.2.2) (lp.foldl dC H0)) id).2.2 o (by rw[hcn];omega) ho
   rw[hcn]at p1
   have:=vW h4 _ p p1
   rw[show H0.n+(id-H0.n)=id by omega,p2]at this
   exact s7 hold this hs
theorem KW.Cu{ro:Option Nat}{N base:Nat}{M:List Nat}{T:Tm}{H:Heap}{Q:Exit->Tm->Heap->Prop}{x y:Code}{b:Bool}(h:KW P ro N base M (if b then x else y) T H Q):KW P ro N base M (.cond (.const (.bool b)) x y) T H Q:=by
 intro B V w a n0 h1 h2 h3 h4 h5
 exact wpIn_cond (t:=b) rfl (h B V w a n0 h1 h2 h3 h4 h5)
section
variable {call:rT} {app:uX} {dm:Value->MS}
def Fin(K:Exit->Env->HT->Hint->Prop):Exit->Tm->Heap->Prop:=fun e T H => ∃E2 H2 h2,T=E2.get/\H=H2.list/\K e E2 H2 h2
theorem yH{K:Exit->Env->HT->Hint->Prop}{E:Env}{H:HT}{h:Hint}{pe:Option Code}{st:LoopState}(hk:Gn K E H h pe st) :
  st ≠ .busy/\xa K E H h pe:=by
 cases st
 ·exact ⟨(fun h=>by cases h),hk⟩
 ·exact hk.elim
 ·exact ⟨(fun h=>by cases h),hk⟩
 ·exact ⟨(fun h=>by cases h),hk⟩
theorem yF{ro:Option Nat}{N base:Nat}{M:List Nat}{b:Code}{body:Env->HT->Hint->(Exit->Env->HT->Hint->Prop)->Prop}
  (hb:∀{E:Env} {H:HT} {h:Hint} {K:Exit->Env->HT->Hint->Prop},body E H h K->KW P ro N base M b E.get H.list (Fin K)) {K:Exit->Env->HT->Hint->Prop} {n:Nat} {E:Env} {H:HT} {h:Hint} (hv:CV body K n E H h) :
  KW P ro N base M (.loop b) E.get H.list (Fin K):=by
 refine KW.loop (fun n T H' => ∃E1 H1 h1,T=E1.get/\H'=H1.list/\CV body K n E1 H1 h1) n ⟨E,H,h,rfl,rfl,hv⟩ ?_
 rintro n T1 H1 _ ⟨E1,H2,h1,rfl,rfl,hv⟩
 cases n with
 |zero=>exact hv.elim
 |succ n =>
  refine (hb hv).mono ?_
  rintro e T3 H3 ⟨E4,H4,h4,rfl,rfl,hk⟩
  cases e with
  |normal=>exact ⟨n,Nat.lt_succ_self n,E4,H4,h4,rfl,rfl,hk⟩
  |_=>exact ⟨E4,H4,h4,rfl,rfl,hk⟩
theorem rl{α:Type}{N d:Nat}{H:HT}{ML:List Nat}{slots:α->List (Nat×Value)}{chg:α->List (Nat×Bool×ah)}{new:α->List (Bool×ah)}{lp:α->List (Nat×List (Nat×Value))}{I:α->Prop}
  {K:Exit->Env->HT->Hint->Prop} {next:α->Hint} (hn:∀x,I x->K .normal (mj (slots x)) (kh H (chg x) (new x) (lp x)) (next x)) (e:Exit) (T2:Tm) (H2:Heap)
  (h:Fin (fun e E' H' h'=>CW N H d ML slots chg new lp I (fun e'=>K e') e E' H' h') e T2 H2):oV (fun T2 H2 => ∃σ d T3 H3,Emb H.list ML N σ d T3 H3 T2 H2/\Fin K .normal T3 H3) (Fin K) e T2 H2:=by
 obtain ⟨E2,H2',h2,rfl,rfl,hk⟩:=h
 cases e with
 |normal =>
  simp only[oV]
  simp only[CW]at hk
  obtain ⟨E3,H3,h3,e3,e4,hk⟩:=cK hk
  rw[<- e3,<- e4]
  cases h3 with
  |again σ =>
   obtain ⟨x,hx,hh⟩:=hk
   exact ⟨_,d,_,_,kY hh,_,_,next x,rfl,rfl,hn x hx⟩
  |_=>exact hk.elim
 |_=>exact ⟨E2,H2',h2,rfl,rfl,hk⟩
theorem Bs{ro:Option Nat}{N base:Nat}{M:MS}{c:Code}{Q:Exit->Tm->Heap->Prop}{h:Hint}{E:Env}{H:HT}{k:Env->HT->Hint->Prop}(hv:Gj base M h E H k)(hk:∀E' H' h',k E' H' h'->KW P ro N base (M.list base) c E'.get H'.list Q) :
  KW P ro N base (M.list base) c E.get H.list Q:=by
 obtain ⟨E2,H2,h2,g,hv⟩:=sI (P:=P) hv
 exact KW.ghost g (hk _ _ _ hv)
theorem lL(hcall:mX P call)(happ:oQ P app){ro:Option Nat}{N rounds:Nat}{inr mixed:Bool}(hro:inr=false->ro=none)(iE:mixed=true->P.follows .mixedOrders=true) :
  ∀{c:Code} {base:Nat} {M:MS} {E:Env} {H:HT} {h:Hint} {K:Exit->Env->HT->Hint->Prop},codeOk N P.globals.size mixed c=true->dV P call app dm N rounds inr c base M E H h K->KW P ro N base (M.list base) c E.get H.list (Fin K):=by
 intro c
 induction c with
 |region i ops draw =>
  intro base M E H h K hok hv
  simp only[codeOk,Bool.and_eq_true]at hok
  simp only[dV]at hv
  refine Bs hv fun E H h hv =>?_
  cases draw
  ·simp only[cond_false]at hv
   have:=KW.region (P:=P) (ro:=ro) (id:=i) (l:=ops.toList) (Q:=Fin K) hok.1 (Br happ hv)
   simpa using this
  ·simp only[cond_true]at hv
   simp only[Bool.not_true,Bool.false_or,Bool.and_eq_true]at hok
   have:=KW.draw (P:=P) (ro:=ro) (id:=i) (l:=ops.toList) (Q:=Fin K) (iE hok.2.1) hok.1 _ hok.2.2 (yD happ hv)
   simpa using this
 |skip=>intro base M E H h K hok hv;exact KW.skip ⟨E,H,h,rfl,rfl,hv⟩
 |label=>intro base M E H h K hok hv;exact KW.label ⟨E,H,h,rfl,rfl,hv⟩
 |ret=>intro base M E H h K hok hv;exact KW.ret ⟨E,H,h,rfl,rfl,hv⟩
 |exit=>intro base M E H h K hok hv;exact KW.exit ⟨E,H,h,rfl,rfl,hv⟩
 |seq a b iha ihb =>
  intro base M E H h K hok hv
  simp only[codeOk,Bool.and_eq_true]at hok
  simp only[dV]at hv
  refine KW.seq ((iha hok.1 hv).mono ?_)
  rintro e T H' ⟨E2,H2,h2,rfl,rfl,hk⟩
  cases e with
  |normal=>exact ihb hok.2 hk
  |_=>exact ⟨E2,H2,h2,rfl,rfl,hk⟩
 |block i b ih =>
  intro base M E H h K hok hv
  simp only[codeOk]at hok
  simp only[dV]at hv
  refine KW.block ((ih hok hv).mono ?_)
  rintro e T H' ⟨E2,H2,h2,rfl,rfl,hk⟩
  cases e with
  |exit id' =>
   simp only[t7]
   cases hb:Nat.beq id' i with
   |true=>simp only[hb,cond_true]at hk;rw[if_pos (Nat.eq_of_beq_eq_true hb)];exact ⟨E2,H2,h2,rfl,rfl,hk⟩
   |false =>
    simp only[hb,cond_false]at hk
    rw[if_neg (fun he=>by subst he;rw[Nat.beq_refl]at hb;cases hb)]
    exact ⟨E2,H2,h2,rfl,rfl,hk⟩
  |_=>exact ⟨E2,H2,h2,rfl,rfl,hk⟩
 |scope b ih =>
  intro base M E H h K hok hv
  simp only[codeOk]at hok
  simp only[dV]at hv
  refine KW.scope ((ih hok hv).mono ?_)
  rintro e T H' ⟨E2,H2,h2,rfl,rfl,hk⟩
  cases e with
  |goto l=>exact hk.elim
  |_=>exact ⟨E2,H2,h2,rfl,rfl,hk⟩
 |cond x a b iha ihb =>
  intro base M E H h K hok hv
  simp only[codeOk,Bool.and_eq_true]at hok
  cases x with
  |tmp t =>
   simp only[dV]at hv
   have ht:t<N:=by simpa using hok.1.1
   obtain ⟨E0,H0,h0,e1,e2,hv⟩:=cK hv
   rw[<- e1,<- e2]
   split at hv <;> try (exact hv.elim)
   rename_i c hc
   refine KW.Ct ht hc (fun hb =>?_) (fun hb =>?_)
   ·subst hb
    split at hv
    ·have:=iha hok.1.2 (hv.1 rfl)
     rwa [Env.fG E0 t _ hc]at this
    ·obtain ⟨hw,ha,_,hn⟩:=hv
     have:=iha hok.1.2 (ha rfl)
     rw[Env.fG E0 t _ hc]at this
     refine KW.renamed (fun id hid hb=>dy hw id hid hb) ?_
     rw[HT.length]
     exact this.mono (rl hn)
    ·split at hv <;> try (exact hv.elim)
     exact iha hok.1.2 hv
   ·subst hb
    split at hv
    ·have:=ihb hok.2 (hv.2 rfl)
     rwa [Env.fG E0 t _ hc]at this
    ·obtain ⟨hw,_,ha,hn⟩:=hv
     have:=ihb hok.2 (ha rfl)
     rw[Env.fG E0 t _ hc]at this
     refine KW.renamed (fun id hid hb=>dy hw id hid hb) ?_
     rw[HT.length]
     exact this.mono (rl hn)
    ·split at hv <;> try (exact hv.elim)
     exact ihb hok.2 hv
  |const v =>
   cases v with
   |bool b =>
    refine KW.Cu ?_
    cases b
    ·exact ihb hok.2 hv
    ·exact iha hok.1.2 hv
   |_=>simp[dV]at hv
  |_=>simp[dV]at hv
 |loop b ih =>
  intro base M E H h K hok hv
  simp only[codeOk]at hok
  simp only[dV]at hv
  obtain ⟨E0,H0,h0,e1,e2,hv⟩:=cK hv
  rw[<- e1,<- e2]
  split at hv
  ·rename_i d α x0 σ0 ML slots chg new lp I μ hb
   obtain ⟨hw,hI0,hh0,hch,MH⟩:=hv
   refine KW.NU (ML:=ML) (fun id hid hbs=>dy hw id hid hbs) (fun n T H' => ∃x,I x/\μ x=n/\T=(mj (slots x)).get/\H'=(kh H0 (chg x) (new x) (lp x)).list) ⟨μ x0,_,d,_,_,⟨x0,hI0,rfl,rfl,rfl⟩,kY hh0⟩ ?_ ?_
   ·rintro n T1 H1 ⟨x,hx,_,_,rfl⟩ id hid hm
    rw[HT.length]at hid
    have hx2:=hch x
    rw[Bool.and_eq_true]at hx2
    have hc:=re hx2.1
    have hl:=ti hx2.2
    have ln:=(tg (lp x) H0 0).1
    have hlt:∀p∈chg x,p.1<((lp x).foldl dC H0).n:=fun p hp=>by rw[ln];exact (hc p hp).2
    rw[HT.ap,HT.ap]
    unfold kh
    rw[(ss (new x) _ id).2.1 (by rw[(mT (chg x) _ 0 hlt).1,ln];exact hid)]
    rcases (mT (chg x) _ id hlt).2 with ⟨p,p1,p2,_⟩|⟨_,q⟩
    ·exact absurd (p2 ▸ (hc p p1).1) hm
    ·rw[q]
     rcases (tg (lp x) H0 id).2 with ⟨p,p1,p2,_⟩|⟨_,q⟩
     ·exact absurd (p2 ▸ (hl p p1).1) hm
     ·exact q
   ·rintro n T1 H1 hlen ⟨x,hx,hn,rfl,rfl⟩
    rw[HT.length]
    have:=ih hok (MH x hx)
    refine this.mono ?_
    rintro e T H' ⟨E2,H2,h2,rfl,rfl,hk⟩
    cases e with
    |normal =>
     simp only[oV]
     obtain ⟨E3,H3,h3,e3,e4,hk⟩:=cK hk
     rw[<- e3,<- e4]
     cases h3 with
     |again σ =>
      obtain ⟨x',hx',hlt,hh⟩:=hk
      exact ⟨μ x',_,d,_,_,Om,⟨x',hx',rfl,rfl,rfl⟩,kY hh⟩
     |_=>exact hk.elim
    |_=>exact ⟨E2,H2,h2,rfl,rfl,hk⟩
  ·exact yF (fun hv=>ih hok hv) hv
 |rangeFunc g ps a b iha ihb =>
  intro base M E H h K hok hv
  cases g with
  |tmp t =>
   simp only[codeOk,Bool.and_eq_true]at hok
   have ht:t<N:=by simpa using hok.1.1.1
   simp only[dV]at hv
   obtain ⟨E0,H0,h0,e1,e2,hv⟩:=cK hv
   rw[<- e1,<- e2]
   cases inr with
   |true=>exact hv.elim
   |false =>
    rw[cond_false]at hv
    have hr:=hro rfl
    subst hr
    split at hv <;> try (exact hv.elim)
    rename_i gf first cap hg
    split at hv <;> try (exact hv.elim)
    rename_i Mc h' hmc
    split at hv <;> try (exact hv.elim)
    rename_i hw
    simp only[Bool.and_eq_true]at hw
    obtain ⟨hw,hbn⟩:=hw
    have hc:=hcall _ _ _ _ _ _ hv
    rw[HT.bN]at hc
    refine KW.rangeFunc (Mc:=MS.list (MS.also H0.n Mc) (H0.push (.loop .ready none E0.get N ps a b)).n) ht hg ?_ ?_
    ·rw[HT.length]
     refine hc.mono (fun _ h _=>h) ?_
     rintro v H' ⟨H2,h2,rfl,hk⟩
     split at hk <;> try (exact hk.elim)
     rename_i st pe tm' N' ps' as' bd' hl
     rw[HT.ap]
     obtain ⟨hne,hk⟩:=yH hk
     refine ⟨_,_,_,_,_,_,_,hl,hne,?_⟩
     cases pe with
     |none=>exact ⟨_,_,_,rfl,(HT.aV ..).symm,hk⟩
     |some c =>
      simp only
      rw[<- HT.aV]
      cases c <;> simp only[xa,H6]at hk
      ·exact KW.exit ⟨_,_,_,rfl,rfl,hk⟩
      ·exact KW.ret ⟨_,_,_,rfl,rfl,hk⟩
    ·intro id hid hb
     cases Mc with
     |none =>
      cases M with
      |none=>exact List.mem_range.2 hb
      |some l=>cases hw
     |some l =>
      have MO:id∈(H0.n :: l):=hid
      rcases List.mem_cons.1 MO with rfl|h1
      ·have:=Nat.le_of_ble_eq_true hbn;omega
      ·exact iU (n:=H0.n) (Mc:=some l) hw id h1 hb
  |_=>simp[codeOk]at hok
 |_=>intro base M E H h K hok;simp[codeOk]at hok
end
end
end Go.K
namespace Go.K
noncomputable section
variable {P:Program}
section
variable {call:rT} {app:uX} {dm:Value->MS}
theorem w7(hcall:mX P call)(happ:oQ P app){rounds:Nat}{mixed:Bool}(iE:mixed=true->P.follows .mixedOrders=true):CD P (Bq P call app dm rounds mixed):=by
 intro L args H M h K hv
 unfold Bq at hv
 split at hv <;> try (exact hv.elim)
 rename_i pe tm N ps as bd hL
 split at hv <;> try (exact hv.elim)
 rename_i hc
 simp only[Bool.and_eq_true]at hc
 obtain ⟨c1,c2,c3,c4,c5⟩:=hc
 have hLM:L∈M.list H.n:=by
  cases M with
  |none=>exact List.mem_range.2 (mw c5)
  |some l=>exact kd c5
 refine kD.yield (by rw[HT.ap];exact hL) (Nat.eq_of_beq_eq_true c1) (fun p hp=>by rw[List.all_eq_true]at c2;simpa using c2 p hp) hLM (fun ro =>?_)
 rw[HT.length]
 refine (lL (ro:=some ro) hcall happ (fun h=>by cases h) iE c3 hv).mono ?_
 rintro e T H' ⟨E1,H1,h1,rfl,rfl,hk⟩
 cases e with
 |normal =>
  simp only[oV]
  simp only at hk
  split at hk <;> try (exact hk.elim)
  rename_i pe1 tm1 N1 ps1 as1 bd1 hL1
  refine ⟨_,_,_,_,_,_,by rw[HT.ap];exact hL1,?_⟩
  rw[<- HT.aV]
  refine (lL (ro:=some ro) hcall happ (fun h=>by cases h) iE c4 hk).mono ?_
  rintro e T H' ⟨E2',H2',h2',rfl,rfl,hk2⟩
  obtain ⟨E2,H2,h2,e3,e4,hk2⟩:=cK hk2
  rw[<- e3,<- e4]
  split at hk2 <;> try (exact hk2.elim)
  rename_i j hj
  split at hk2 <;> try (exact hk2.elim)
  rename_i st2 pe2 tm2 N2 ps2 as2 bd2 hL2
  refine ⟨j,hj,_,_,_,_,_,_,_,by rw[HT.ap];exact hL2,_,h2,?_,hk2⟩
  rw[HT.aV]
  congr 2
  cases j.isNone <;> rfl
 |_=>exact hk.elim
theorem ry{rs:List ResultVar}{T:Tm}{H:HT}{v:Value}(h:Di P rs T H=some v):zp P rs T H.list=some v:=by
 have one:∀r,l6 P T H r=pC P T H.list r:=by
  intro r
  cases r with
  |tmp t=>rfl
  |cell a ty=>simp only[l6,pC,wh]
 unfold Di at h
 split at h
 ·rw[one]at h;exact h
 ·split at h <;> try (cases h;done)
  rename_i v1 v2 h1 h2
  rw[one]at h1 h2
  cases h
  simp[zp,h1,h2]
 ·split at h <;> try (cases h;done)
  rename_i v1 v2 v3 h1 h2 h3
  rw[one]at h1 h2 h3
  cases h
  simp[zp,h1,h2,h3]
 ·cases h;simp[zp]
 ·cases h
theorem yC{n:Nat}{M:MS}{v:Value}{H':HT}{h:Hint}{K:KV}(hv:vB n M v H' h K) :
  (∃(H2:HT) (h2:Hint),H'.list=H2.list/\K v H2 h2)∨(cP n v=true/\(∃l,M=some l/\∀id∈l,∀o,H'.list[id]?=some o->ei n o=true)/\∃(H2:HT) (h2:Hint),H2.list=H'.list/\K v (H2.take n) h2):=by
 unfold vB at hv
 split at hv
 ·exact .inl ⟨H',_,rfl,hv⟩
 ·cases M with
  |none=>exact .inl ⟨H',_,rfl,hv⟩
  |some l =>
   simp only at hv
   split at hv
   ·rename_i hc
    simp only[Bool.and_eq_true,List.all_eq_true]at hc
    refine .inr ⟨hc.1,⟨l,rfl,fun id hid o ho =>?_⟩,H',_,rfl,hv⟩
    have:=hc.2 id hid
    rw[<- HT.ap,ho]at this
    exact this
   ·exact .inl ⟨H',_,rfl,hv⟩
def iH(P:Program)(mixed:Bool)(mask:Nat):Prop:=∀f,Nat.testBit mask f=true->MT P mixed f=true
theorem yG{mask:Nat}{mixed:Bool}(gu:iH P mixed mask)(hcall:mX P call)(happ:oQ P app){rounds:Nat}(iE:mixed=true->P.follows .mixedOrders=true):mX P (Gk P mask call app dm rounds):=by
 intro f args H M h K hv
 unfold Gk at hv
 split at hv <;> try (exact hv.elim)
 rename_i hm
 have hfn:=gu f hm
 split at hv <;> try (exact hv.elim)
 rename_i fn hf
 split at hv <;> try (exact hv.elim)
 rename_i c hb
 split at hv <;> try (exact hv.elim)
 rename_i hargs
 unfold MT at hfn
 rw[hf]at hfn
 simp only[hb,Bool.and_eq_true,Bool.not_eq_true']at hfn
 obtain ⟨c1,c2,c3⟩:=hfn
 have Pl:ak P f args H.list (M.list H.n) (fun v H' => ∃H2 h2,H'=H2.list/\vas h2 v H2 (fun v H2 h2=>vB H.n M v H2 h2 K)):=by
  refine ak.enter hf c1 hb fn.ntmps rfl (Nat.le_of_ble_eq_true hargs) _ rfl c2 ?_
  rw[HT.length]
  refine (lL (ro:=none) hcall happ (fun _=>rfl) iE c3 hv).mono ?_
  rintro e T H' ⟨E2,H2,h2,rfl,rfl,hk⟩
  cases e with
  |normal =>
   simp only at hk
   obtain ⟨E3,H3,h3,e3,e4,hk⟩:=cK hk
   rw[<- e3,<- e4]
   split at hk <;> try (exact hk.elim)
   rename_i v hr
   exact ⟨.inl rfl,v,ry hr,H3,h3,rfl,hk⟩
  |ret =>
   simp only at hk
   obtain ⟨E3,H3,h3,e3,e4,hk⟩:=cK hk
   rw[<- e3,<- e4]
   split at hk <;> try (exact hk.elim)
   rename_i v hr
   exact ⟨.inr rfl,v,ry hr,H3,h3,rfl,hk⟩
  |_=>exact hk.elim
 have key:ak P f args H.list (M.list H.n) (fun v H' => ∃H2 h2,H'=H2.list/\vB H.n M v H2 h2 K):=by
  refine Pl.weak ?_
  rintro v H' ⟨H2,h2,rfl,hk⟩
  obtain ⟨v2,gs,H3,h3,e1,e2,hk⟩:=Ex hk
  exact ⟨v2,gs,e1,H3,h3,e2.symm,hk⟩
 refine key.KY ?_
 rintro v H' hlen _ ⟨H2,h2,rfl,hk⟩
 rcases yC hk with ⟨H3,h3,e,hk⟩|⟨hb,⟨l,rfl,ho⟩,H3,h3,e,hk⟩
 ·exact .inl ⟨H3,h3,e,hk⟩
 ·refine .inr ⟨(by rw[HT.length];exact hb),(fun id hid o _ h=>(by rw[HT.length];exact ho id hid o h)),H3.take H.n,h3,?_,hk⟩
  rw[HT.E6 _ _ (by rw[HT.n_eq e];rw[HT.length,HT.length]at hlen;exact hlen),e,HT.length]
theorem sK{yld:Nat->List Value->HT->MS->Hint->KV->Prop}(hcall:mX P call)(hy:CD P yld):oQ P (Ja call yld):=by
 intro fv args H M h K hv
 unfold Ja at hv
 split at hv
 ·exact kD.func (hcall _ _ _ _ _ _ hv)
 ·exact hy _ _ _ _ _ _ hv
 ·exact hv.elim
end
theorem yI{mask:Nat}{dm:Value->MS}{rounds:Nat}{mixed:Bool}(gu:iH P mixed mask)(iE:mixed=true->P.follows .mixedOrders=true) :
  ∀n,mX P (vF P mask dm rounds mixed n true)/\CD P (vF P mask dm rounds mixed n false):=by
 intro n
 induction n with
 |zero=>exact ⟨fun f args H M h K hv=>hv.elim,fun L args H M h K hv=>hv.elim⟩
 |succ n ih =>
  refine ⟨fun f args H M h K hv =>?_,fun L args H M h K hv =>?_⟩
  ·exact yG gu ih.1 (sK ih.1 ih.2) iE _ _ _ _ _ _ hv
  ·exact w7 ih.1 (sK ih.1 ih.2) iE _ _ _ _ _ _ hv
theorem vc{mask:Nat}{dm:Value->MS}{rounds:Nat}{mixed:Bool}(gu:iH P mixed mask)(iE:mixed=true->P.follows .mixedOrders=true)(n:Nat){f:FuncId}{args:List Value}{H:HT}{M:MS}{h:Hint}{Q:Value->Heap->Prop}
  (hv:vF P mask dm rounds mixed n true f args H M h (fun v H' _=>Q v H'.list)):ak P f args H.list (M.list H.n) Q :=
 ((yI gu iE n).1 f args H M h _ hv).post fun v H' ⟨H2,h2,e,hq⟩=>by subst e;exact hq
end
end Go.K
namespace Go.K
noncomputable section
variable {P:Program}
def dD:Nat->Value->Bool
 |0,_=>false
 |d+1,v=>match v with
  | .func (.yield _) ⟨[]⟩ ⟨[]⟩=>true
  | .func (.func _) first cap=>first.toList.all (dD d)&&cap.toList.all (dD d)
  | .func _ _ _=>false
  | .agg cs=>cs.toList.all (dD d)
  | .tuple vs=>vs.toList.all (dD d)
  | .iface _ (.agg cs)=>cs.toList.all (dD d)
  | .iface _ (.tuple cs)=>cs.toList.all (dD d)
  |_=>true
def cY(d:Nat):ah->Bool
 | .cells _ _ cs=>cs.all (dD d)
 | .map es=>es.all fun e=>dD d e.1&&dD d e.2
 | .loop .. =>false
 | .iter .. =>false
 | .fam _ _=>false
 | .dead=>true
theorem sE{V ρ':Ren}{σ:Nat->Option Nat}{d:Nat}(ih:∀{v r:Value},dD d v=true->VR V v r->VR ρ' (rn σ d v) r){cs:Array Value}{r:Array Value}(hc:cs.toList.all (dD d)=true)
  (h1:cs.size=r.size) (h2:∀(i:Nat) (v v':Value),cs[i]?=some v->r[i]?=some v'->VR V v v') :
  (⟨cs.toList.map (rn σ d)⟩:Array Value).size=r.size/\∀(i:Nat) (v v':Value),(⟨cs.toList.map (rn σ d)⟩:Array Value)[i]?=some v->r[i]?=some v'->VR ρ' v v':=by
 have e:(⟨cs.toList.map (rn σ d)⟩:Array Value)=cs.map (rn σ d):=Array.toList_inj.1 (by simp)
 rw[e]
 refine ⟨by simpa using h1,fun i v v' a b =>?_⟩
 rw[Array.getElem?_map]at a
 obtain ⟨v0,a1,rfl⟩:=aX a
 rw[List.all_eq_true]at hc
 exact ih (hc v0 (by rw[Array.mem_toList_iff];exact Array.mem_of_getElem? a1)) (h2 i v0 v' a1 b)
theorem AL{V ρ':Ren}{σ:Nat->Option Nat}{d s:Nat}(ih:∀{v r:Value},dD d v=true->VR V v r->VR ρ' (rn σ d v) r){cs m:Array Value}(hc:cs.toList.all (dD d)=true)
  (h1:cs.size=0∨cs.size+s<=m.size) (h2:∀(i:Nat) (v v':Value),cs[i]?=some v->m[i+s]?=some v'->VR V v v') :
  ((⟨cs.toList.map (rn σ d)⟩:Array Value).size=0∨(⟨cs.toList.map (rn σ d)⟩:Array Value).size+s<=m.size)/\∀(i:Nat) (v v':Value),(⟨cs.toList.map (rn σ d)⟩:Array Value)[i]?=some v->m[i+s]?=some v'->VR ρ' v v':=by
 have e:(⟨cs.toList.map (rn σ d)⟩:Array Value)=cs.map (rn σ d):=Array.toList_inj.1 (by simp)
 rw[e]
 refine ⟨by simpa using h1,fun i v v' a b =>?_⟩
 rw[Array.getElem?_map]at a
 obtain ⟨v0,a1,rfl⟩:=aX a
 rw[List.all_eq_true]at hc
 exact ih (hc v0 (by rw[Array.mem_toList_iff];exact Array.mem_of_getElem? a1)) (h2 i v0 v' a1 b)
theorem A4{V ρ':Ren}{σ:Nat->Option Nat}(hσ:∀id r,V id=some r->∃id',σ id=some id'/\ρ' id'=some r)(hm:∀b m,V.mem b=some m->ρ'.mem b=some m)(hg:∀F k r,V.g F k=some r->∃F',σ F=some F'/\ρ'.g F' k=some r):∀(d:Nat) {v r:Value},dD d v=true->VR V v r->VR ρ' (rn σ d v) r:=by
 intro d
 induction d with
 |zero=>intro v r h;cases h
 |succ d ih =>
  intro v r hk h
  cases h with
  |junk=>exact .junk _
  |bool b=>exact .bool b
  |int k n=>exact .int k n
  |float k n=>exact .float k n
  |string s=>exact .string s
  |dl=>exact .dl
  |ptr k=>obtain ⟨id',e1,e2⟩:=hσ _ _ k;simp only[rn,e1];exact .ptr e2
  |gZ k=>obtain ⟨id',e1,e2⟩:=hg _ _ _ k;simp only[rn,e1];exact .gZ e2
  |bC=>exact .bC
  |slice k hl hc ho=>obtain ⟨id',e1,e2⟩:=hσ _ _ k;simp only[rn,e1];exact .slice e2 hl hc ho
  |bE k=>obtain ⟨id',e1,e2⟩:=hσ _ _ k;simp only[rn,e1];exact .bE e2
  |cB=>exact .cB
  |aR=>simp only[rn];split <;> exact .aR
  |aS=>simp only[rn];split <;> exact .aS
  |bn k hp hl hc ho=>obtain ⟨id',e1,e2⟩:=hσ _ _ k;simp only[rn,e1];exact .bn e2 hp hl hc ho
  |aY=>simp only[rn];split <;> exact .aY
  |bO k hp hl hc ho=>obtain ⟨id',e1,e2⟩:=hσ _ _ k;simp only[rn,e1];exact .bO e2 hp hl hc ho
  |dq=>exact .dq
  |map k=>obtain ⟨id',e1,e2⟩:=hσ _ _ k;simp only[rn,e1];exact .map e2
  |nilFunc=>exact .nilFunc
  |nilIface=>exact .nilIface
  |yield k=>obtain ⟨id',e1,e2⟩:=hσ _ _ k;simp only[rn,e1];exact .yield e2
  | @func f first first' cap cap' h1 h2 h3 h4 =>
   have hk':(first.toList.all (dD d)&&cap.toList.all (dD d))=true:=by
    unfold dD at hk
    exact hk
   simp only[Bool.and_eq_true]at hk'
   obtain ⟨a1,a2⟩:=sE (σ:=σ) ih hk'.1 h1 h2
   obtain ⟨b1,b2⟩:=sE (σ:=σ) ih hk'.2 h3 h4
   exact .func a1 a2 b1 b2
  |agg h1 h2=>obtain ⟨a1,a2⟩:=sE (σ:=σ) ih hk h1 h2;exact .agg a1 a2
  |tuple h1 h2=>obtain ⟨a1,a2⟩:=sE (σ:=σ) ih hk h1 h2;exact .tuple a1 a2
  |deep g1 g2 g3 g4 g5=>obtain ⟨a1,a2⟩:=AL (σ:=σ) ih hk g4 g5;exact .deep (hm _ _ g1) g2 g3 a1 a2
  |cH=>exact .cH
  |fsl k hp hc hs ho=>obtain ⟨id',e1,e2⟩:=hg _ _ _ k;simp only[rn,e1];exact .fsl e2 hp hc hs ho
  | @dK a p =>
   match p with
   |none=>exact .dK
   |some ⟨id,off,none⟩=>exact .dK
   |some ⟨id,off,some 0⟩=>exact .dK
   |some ⟨id,off,some 1⟩=>exact .dK
   |some ⟨id,off,some 2⟩=>exact .dK
   |some ⟨id,off,some (j+3)⟩ =>
    simp only[rn]
    split <;> exact .dK
  |dg g1 g2 g3=>obtain ⟨a1,a2⟩:=AL (σ:=σ) ih hk g2 g3;exact .dg (hm _ _ g1) a1 a2
theorem xk{V ρ':Ren}{σ:Nat->Option Nat}(hσ:∀id r,V id=some r->∃id',σ id=some id'/\ρ' id'=some r)(hm:∀b m,V.mem b=some m->ρ'.mem b=some m)(hg:∀F k r,V.g F k=some r->∃F',σ F=some F'/\ρ'.g F' k=some r){d:Nat}{r:RI}{o:ah}{w:World}(hk:cY d o=true)(h:bk V r o w):bk ρ' r (rno σ d o) w:=by
 cases o with
 |cells own z cs =>
  obtain ⟨h1,h2,cs',ty,fz,h3,h4,h5,h6⟩:=h
  refine ⟨h1,h2,cs',ty,fz,h3,h4,h5,fun i v hv =>?_⟩
  rw[List.getElem?_map]at hv
  obtain ⟨v0,a1,rfl⟩:=aX hv
  obtain ⟨v',g1,g2⟩:=h6 i v0 a1
  simp only[cY,List.all_eq_true]at hk
  exact ⟨v',g1,A4 hσ hm hg d (hk v0 (List.mem_of_getElem? a1)) g2⟩
 |map es =>
  obtain ⟨h1,es',h2,h3,h4⟩:=h
  refine ⟨h1,es',h2,by simpa using h3,fun i k v hv =>?_⟩
  rw[List.getElem?_map]at hv
  obtain ⟨⟨k0,v0⟩,a1,a2⟩:=aX hv
  cases a2
  obtain ⟨e',g1,g2,g3⟩:=h4 i k0 v0 a1
  simp only[cY,List.all_eq_true,Bool.and_eq_true]at hk
  have:=hk _ (List.mem_of_getElem? a1)
  exact ⟨e',g1,A4 hσ hm hg d this.1 g2,A4 hσ hm hg d this.2 g3⟩
 |loop st pe tm N ps as bd=>cases hk
 |iter m n s=>cases hk
 |fam z cs=>cases hk
 |dead=>trivial
structure Part(P:Program)(H0 H:Heap)(σ:Nat->Option Nat)(d:Nat):Prop where
 eM:∀g,g<P.globals.size->σ g=some g
 dom:∀id id',σ id=some id'->id<H0.length/\id'<H.length
 tot:∀id,id<H0.length->∃id',σ id=some id'
 inj:∀id1 id2 id',σ id1=some id'->σ id2=some id'->id1=id2
 obj:∀id id' o,σ id=some id'->H0[id]?=some o->o = .dead∨(cY d o=true/\H[id']?=some (rno σ d o))
def gG(σ:Nat->Option Nat)(n0 n:Nat)(id:Nat):Option Nat:=if id<n0 then σ id else some (n+(id-n0))
theorem ak.MR{f:FuncId}{args:List Value}{H0 H:Heap}{α:Type}{I:α->Prop}{vx:α->Value}{ol:α->Heap}{σ:Nat->Option Nat}{d:Nat}(hp:Part P H0 H σ d)(h:ak P f args H0 [] (fun v' H' => ∃x,I x/\v'=vx x/\H'=H0++ol x))
    (hvx:∀x,I x->dD d (vx x)=true) (hnx:∀x,I x->(ol x).all (fun o=>cY d o&&o.owned)=true) :
    ak P f (args.map (rn σ d)) H [] (fun v' H' => ∃x,I x/\v'=rn (gG σ H0.length H.length) d (vx x)/\H'=H++(ol x).map (rno (gG σ H0.length H.length) d)):=by
  refine ⟨h.1,fun B V w args' hr ha =>?_⟩
  have hσb:∀id id' r,σ id=some id'->V id'=some r->cq V σ id=some r:=by intro id id' r h1 h2;show Option.bind _ _=_;rw[h1];exact h2
  have hσg:∀F F' k r,σ F=some F'->V.g F' k=some r->(cq V σ).g F k=some r:=by intro F F' k r h1 h2;show Option.bind _ _=_;rw[h1];exact h2
  have gq:∀{F k r},(cq V σ).g F k=some r->∃F',σ F=some F'/\V.g F' k=some r:=fun h=>Option.bind_eq_some_iff.1 h
  have HC:∀{F k:Nat} {r:RI} {z:Nat} {cs:List Value},(cq V σ).g F k=some r->H0[F]?=some (.fam z cs)->False:=fun {F k r z cs} mg mh=>by
    obtain ⟨F',k1,_⟩:=gq mg
    rcases hp.obj F F' _ k1 mh with h|⟨h,_⟩ <;> cases h
  have hnf:∀{F k r z cs},FM (cq V σ) H0 F k r z cs->False:=fun m=>HC m.g m.h
  have hsome:∀{id r},cq V σ id=some r->∃id',σ id=some id'/\V id'=some r:=fun h=>Option.bind_eq_some_iff.1 h
  have hoa:∀o:ah,o.owned=true->o.alive=true:=by intro o ho;cases o <;> first|rfl|cases ho
  have hno:∀o,cY d o=true->rno σ d o = .dead->o = .dead:=by intro o h1 h2;cases o <;> first|rfl|(cases h1;done)|(cases h2;done)
  have hown:∀id id' o,σ id=some id'->H0[id]?=some o->o.alive=true->H[id']?=some (rno σ d o)/\(rno σ d o).owned=o.owned/\(rno σ d o).alive=true/\cY d o=true:=by
    intro id id' o h1 h2 h3
    rcases hp.obj id id' o h1 h2 with rfl|⟨g1,g2⟩
    · cases h3
    · obtain ⟨a,b⟩:=vK σ d o (hno o g1);exact ⟨g2,a,b.trans h3,g1⟩
  have hr0:Rel P B (cq V σ) H0 w:=by
    refine ⟨hr.bsize,fun g hg =>?_,fun id r h =>?_,fun id r h =>?_,fun id r o h1 h2 =>?_,fun id r o h1 h2 h3 =>?_,fun id1 id2 r1 r2 o1 o2 h1 h2 g1 g2 k1 k2 hne =>?_,fun b m hb=>⟨(hr.mem b m hb).1,fun id r o h1 h2 h3 =>?_⟩,
      ⟨fun F k r h=>by obtain ⟨F',k1,_⟩:=gq h;exact (hp.dom _ _ k1).1,fun F k r h=>by obtain ⟨F',_,k2⟩:=gq h;exact hr.fam.lt _ _ _ k2,fun _ _ _ _ _ m=>(hnf m).elim,fun _ _ _ _ _ m=>(hnf m).elim,fun _ _ _ _ _ _ _ _ _ _ m=>(hnf m).elim,fun _ _ _ _ _ _ _ _ m=>(hnf m).elim,fun _ _ _ _ _ _ _ m=>(hnf m).elim,fun _ _ _ _ g h=>(HC g h).elim⟩⟩
    · obtain ⟨r,k1,k2,k3⟩:=hr.eM g hg;exact ⟨r,hσb g g r (hp.eM g hg) k1,k2,k3⟩
    · obtain ⟨id',h1,_⟩:=hsome h;exact (hp.dom _ _ h1).1
    · obtain ⟨id',_,h2⟩:=hsome h;exact hr.lt _ _ h2
    · obtain ⟨id', k1, k2⟩ := hsome h1
      rcases hp.obj id id' o k1 h2 with rfl|⟨g1,g2⟩
      · trivial
      · exact oZ hσb (fun _ _ h=>h) hσg (hr.obj _ _ _ k2 g2) (hno o g1)
    · obtain ⟨id', k1, k2⟩ := hsome h1
      obtain ⟨g1,g2,_,_⟩:=hown id id' o k1 h2 (hoa o h3)
      exact hr.base id' r _ k2 g1 (by rw[g2];exact h3)
    · obtain ⟨i1, a1, a2⟩ := hsome h1
      obtain ⟨i2,b1,b2⟩:=hsome h2
      obtain ⟨c1,c2,_,_⟩:=hown id1 i1 o1 a1 g1 (hoa _ k1)
      obtain ⟨d1,_,d3,_⟩:=hown id2 i2 o2 b1 g2 k2
      exact hr.sep i1 i2 r1 r2 _ _ a2 b2 c1 d1 (by rw[c2];exact k1) d3 (fun he=>hne (hp.inj _ _ _ a1 (he ▸ b1)))
    · obtain ⟨id', k1, k2⟩ := hsome h1
      obtain ⟨g1,g2,_,_⟩:=hown id id' o k1 h2 (hoa o h3)
      exact (hr.mem b m hb).2 id' r _ k2 g1 (by rw[g2];exact h3)
  have ha0:VRl (cq V σ) args args'.toList:=⟨by have:=ha.1;simpa using this,fun i x x' a b=>ny hσb (fun _ _ h=>h) hσg d (ha.2 i (rn σ d x) x' (by rw[List.getElem?_map,a];rfl) b)⟩
  refine (h.2 B (cq V σ) w args' hr0 ha0).mono ?_
  rintro e w' ⟨v1,v',ρ1,H1,rfl,hv',hpost,x0,hx0,rfl,rfl⟩
  have hv:=hvx x0 hx0
  have hn:=hnx x0 hx0
  have hsame:∀id,id<H0.length->(H0++(ol x0))[id]?=H0[id]? := fun id hid=>List.getElem?_append_left hid
  have hback:∀id r,id<H0.length->ρ1 id=some r->cq V σ id=some r:=by
    intro id r hid h1
    cases hq:cq V σ id with
    |none=>exact absurd (hpost.new id r h1 hq) Om
    |some r0=>have:=hpost.ext _ _ hq;rw[h1]at this;exact this.symm
  have HF:∀id r,ρ1 id=some r->∃id',gG σ H0.length H.length id=some id'/\(if id'<H.length then V id' else ρ1 (H0.length+(id'-H.length)))=some r:=by
    intro id r h1
    unfold gG
    by_cases hid:id<H0.length
    · rw [if_pos hid]
      obtain ⟨id',k1,k2⟩:=hsome (hback id r hid h1)
      exact ⟨id',k1,by rw[if_pos (hp.dom _ _ k1).2];exact k2⟩
    · rw [if_neg hid]
      refine ⟨_,rfl,?_⟩
      rw[if_neg Om,show H0.length+(H.length+(id-H0.length)-H.length)=id by omega];exact h1
  have Am:∀F k r,ρ1.g F k=some r->∃F',gG σ H0.length H.length F=some F'/\(if F'<H.length then V.g F' k else ρ1.g (H0.length+(F'-H.length)) k)=some r:=by
    intro F k r h1
    unfold gG
    by_cases hid:F<H0.length
    · rw [if_pos hid]
      cases hq:(cq V σ).g F k with
      | none => rcases hpost.pw F k r h1 hq with h | h
                · omega
                · cases h
      | some r0 =>
        have:=hpost.ext.g _ _ _ hq;rw[h1]at this;cases this
        obtain ⟨F',k1,k2⟩:=gq hq
        exact ⟨F',k1,by rw[if_pos (hp.dom _ _ k1).2];exact k2⟩
    · rw [if_neg hid]
      refine ⟨_,rfl,?_⟩
      rw[if_neg Om,show H0.length+(H.length+(F-H0.length)-H.length)=F by omega];exact h1
  have hext:Ren.le V ⟨fun id'=>if id'<H.length then V id' else ρ1 (H0.length+(id'-H.length)),ρ1.mem,fun F k=>if F<H.length then V.g F k else ρ1.g (H0.length+(F-H.length)) k⟩:=⟨fun id r h1=>by
    show (if _ then _ else _)=_
    rw[if_pos (hr.dom _ _ h1)];exact h1,hpost.ext.mem,fun F k r h1=>by
    show (if _ then _ else _)=_
    rw[if_pos (hr.fam.dom _ _ _ h1)];exact h1⟩
  have hnew:∀(k:Nat) (o:ah),(ol x0)[k]?=some o->cY d o=true/\o.owned=true:=by
    intro k o hk
    rw[List.all_eq_true]at hn
    have:=hn o (List.mem_of_getElem? hk)
    simpa using this
  have FI:∀{b},OB (cq V σ) H0 b->∃id r o,cq V σ id=some r/\H0[id]?=some o/\o.owned=true/\r.b=b:=fun h=>h.elim id fun ⟨_,_,_,_,_,m,_⟩=>(hnf m).elim
  have hfresh:∀id r o,H0.length<=id->ρ1 id=some r->(H0++(ol x0))[id]?=some o->w.heap.size<=r.b:=by
    intro id r o hid h1 h2
    have ho:o.owned=true:=by rw[List.getElem?_append_right hid]at h2;exact (hnew _ _ h2).2
    rcases Nat.lt_or_ge r.b w.heap.size with hlt|hge
    · obtain ⟨j, rj, oj, j1, j2, j3, j4⟩ := FI (hpost.ob r.b hlt (.inl ⟨id, r, o, h1, h2, ho, rfl⟩))
      have hj:=hr0.dom _ _ j1
      exact absurd j4 (hpost.rel.sep j id rj r oj o (hpost.ext _ _ j1) h1 (by rw[hsame j hj];exact j2) h2 j3 (hoa _ ho) Om)
    · exact hge
  have hOB:∀b,OB (cq V σ) H0 b->OB V H b:=by
    intro b hb
    obtain ⟨id,r,o,h1,h2,h3,h4⟩:=FI hb
    obtain ⟨id',k1,k2⟩:=hsome h1
    obtain ⟨g1,g2,_,_⟩:=hown id id' o k1 h2 (hoa o h3)
    exact .inl ⟨id',r,_,k2,g1,by rw[g2];exact h3,h4⟩
  have io:∀id o',H.length<=id->(H++(ol x0).map (rno (gG σ H0.length H.length) d))[id]?=some o'->∃o,(H0++(ol x0))[H0.length+(id-H.length)]?=some o/\o'=rno (gG σ H0.length H.length) d o/\cY d o=true/\o.owned=true/\o'.owned=true:=by
    intro id o' hid h2
    rw[List.getElem?_append_right hid,List.getElem?_map]at h2
    obtain ⟨o,a1,rfl⟩:=aX h2
    refine ⟨o,?_,rfl,(hnew _ _ a1).1,(hnew _ _ a1).2,?_⟩
    · rw[List.getElem?_append_right Om,show H0.length+(id-H.length)-H0.length=id-H.length by omega];exact a1
    · obtain ⟨x1, x2⟩ := hnew _ _ a1
      cases o <;> first|exact x2|cases x1
  have gx:∀id,id<H.length->(H++(ol x0).map (rno (gG σ H0.length H.length) d))[id]?=H[id]? := fun id hid=>List.getElem?_append_left hid
  have hvv:VR ⟨fun id'=>if id'<H.length then V id' else ρ1 (H0.length+(id'-H.length)),ρ1.mem,fun F k=>if F<H.length then V.g F k else ρ1.g (H0.length+(F-H.length)) k⟩ (rn (gG σ H0.length H.length) d (vx x0)) v':=A4 (V:=ρ1) (σ:=gG σ H0.length H.length) (ρ':=⟨fun id'=>if id'<H.length then V id' else ρ1 (H0.length+(id'-H.length)),ρ1.mem,fun F k=>if F<H.length then V.g F k else ρ1.g (H0.length+(F-H.length)) k⟩) HF (fun _ _ h=>h) Am d hv hv'
  refine ⟨_,v',⟨fun id'=>if id'<H.length then V id' else ρ1 (H0.length+(id'-H.length)),ρ1.mem,fun F k=>if F<H.length then V.g F k else ρ1.g (H0.length+(F-H.length)) k⟩,_,rfl,hvv,?_,x0,hx0,rfl,rfl⟩
  have yb:∀{F k r z cs},(Ren.mk (fun id'=>if id'<H.length then V id' else ρ1 (H0.length+(id'-H.length))) ρ1.mem (fun F k=>if F<H.length then V.g F k else ρ1.g (H0.length+(F-H.length)) k)).g F k=some r->(H++(ol x0).map (rno (gG σ H0.length H.length) d))[F]?=some (.fam z cs)->V.g F k=some r/\H[F]?=some (.fam z cs):=fun {F k r z cs} mg mh=>by
    have h1:(if F<H.length then V.g F k else ρ1.g (H0.length+(F-H.length)) k)=some r:=mg
    rcases Nat.lt_or_ge F H.length with h|h
    · rw [if_pos h] at h1
      exact ⟨h1,by rw[<- gx F h];exact mh⟩
    · obtain ⟨o, _, _, _, _, g⟩ := io F _ h mh
      cases g
  have hfm:∀{F k r z cs},FM ⟨fun id'=>if id'<H.length then V id' else ρ1 (H0.length+(id'-H.length)),ρ1.mem,fun F k=>if F<H.length then V.g F k else ρ1.g (H0.length+(F-H.length)) k⟩ (H++(ol x0).map (rno (gG σ H0.length H.length) d)) F k r z cs->FM V H F k r z cs:=fun m=>⟨(yb m.g m.h).1,(yb m.g m.h).2,m.a⟩
  have pT:ll B ⟨fun id'=>if id'<H.length then V id' else ρ1 (H0.length+(id'-H.length)),ρ1.mem,fun F k=>if F<H.length then V.g F k else ρ1.g (H0.length+(F-H.length)) k⟩ (H++(ol x0).map (rno (gG σ H0.length H.length) d)) w':=by
    refine ⟨fun F k r h1 =>?_,fun F k r h1 =>?_,fun F k r z cs m=>hr.fam.base _ _ _ _ _ (hfm m),fun F k r z cs m=>(hr.fam.obj _ _ _ _ _ (hfm m)).mono hext (hpost.keep _ (hr.fam.lt _ _ _ (hfm m).g) fun ho =>?_),
      fun F k r z cs F' k' r' z' cs' m m'=>hr.fam.sep _ _ _ _ _ _ _ _ _ _ (hfm m) (hfm m'),fun F k r z cs id r' o m h1 h2 h3 =>?_,fun F k r z cs b m' m hb =>?_,fun F k r cs h1 h2=>hr.fam.cnt F k r cs (yb h1 h2).1 (yb h1 h2).2⟩
    · have h1 : (if F < H.length then V.g F k else ρ1.g (H0.length + (F - H.length)) k) = some r := h1
      rcases Nat.lt_or_ge F H.length with h|h
      · simp;omega
      · rw [if_neg Om] at h1
        have:=hpost.rel.fam.dom _ _ _ h1
        simp at this ⊢;omega
    · have h1 : (if F < H.length then V.g F k else ρ1.g (H0.length + (F - H.length)) k) = some r := h1
      rcases Nat.lt_or_ge F H.length with h|h
      · rw [if_pos h] at h1
        exact Nat.lt_of_lt_of_le (hr.fam.lt _ _ _ h1) hpost.size
      · rw [if_neg Om] at h1
        exact hpost.rel.fam.lt _ _ _ h1
    · obtain ⟨j, rj, oj, j1, j2, j3, j4⟩ := FI ho
      obtain ⟨id',k1,k2⟩:=hsome j1
      obtain ⟨c1,c2,c3,_⟩:=hown j id' oj k1 j2 (hoa _ j3)
      exact hr.fam.sep2 _ _ _ _ _ id' rj _ (hfm m) k2 c1 c3 j4
    · have h1 : (if id < H.length then V id else ρ1 (H0.length + (id - H.length))) = some r' := h1
      rcases Nat.lt_or_ge id H.length with h|h
      · rw [if_pos h] at h1
        exact hr.fam.sep2 _ _ _ _ _ id r' o (hfm m) h1 (by rw[<- gx id h];exact h2) h3
      · rw [if_neg Om] at h1
        obtain ⟨o0,a1,_,_,_,_⟩:=io id o h h2
        have:=hfresh _ r' o0 Om h1 a1
        have:=hr.fam.lt _ _ _ (hfm m).g
        omega
    · have hb : ρ1.mem b = some m' := hb
      rcases hpost.frz b m' hb with g|g|g
      · exact hr.fam.mem _ _ _ _ _ b m' (hfm m) g
      · have:=hr.fam.lt _ _ _ (hfm m).g;omega
      · obtain ⟨j, rj, oj, j1, j2, j3, j4⟩ := FI g
        obtain ⟨id',k1,k2⟩:=hsome j1
        obtain ⟨c1,c2,c3,_⟩:=hown j id' oj k1 j2 (hoa _ j3)
        exact fun e=>hr.fam.sep2 _ _ _ _ _ id' rj _ (hfm m) k2 c1 c3 (j4.trans e.symm)
  have Ox:∀id r,¬ id<H.length->ρ1 (H0.length+(id-H.length))=some r->id<H.length+(ol x0).length:=by
    intro id r hid h1
    have:=hpost.rel.dom _ _ h1
    simp at this;omega
  refine ⟨⟨Nat.le_trans hr.bsize hpost.size,fun g hg =>?_,fun id r h1 =>?_,fun id r h1 =>?_,fun id r o h1 h2 =>?_,fun id r o h1 h2 h3 =>?_,fun id1 id2 r1 r2 o1 o2 h1 h2 g1 g2 k1 k2 hne =>?_,fun b m hb=>⟨(hpost.rel.mem b m hb).1,fun id r o h1 h2 h3 =>?_⟩,pT⟩,hext,fun id r h1 h2 =>?_,by simp,fun id h1 h2=>gx id h1,hpost.size,fun b h1 h2=>hpost.keep b h1 (fun ho=>h2 (hOB b ho)),fun b h1 h2 =>?_,hpost.os,hpost.tape,hpost.output,fun b m hb=>(hpost.frz b m hb).imp id fun h=>h.imp id (hOB b),hpost.drawn,fun F k r h1 h2 => .inl (by
    have h1:(if F<H.length then V.g F k else ρ1.g (H0.length+(F-H.length)) k)=some r:=h1
    rcases Nat.lt_or_ge F H.length with h|h
    · rw[if_pos h,h2]at h1;cases h1
    · exact h)⟩
  · obtain ⟨r,k1,k2,k3⟩:=hr.eM g hg;exact ⟨r,hext _ _ k1,k2,k3⟩
  · dsimp only at h1
    split at h1
    · rw[aI];omega
    · rw[aI,List.length_map];exact Ox _ _ ‹_› h1
  · dsimp only at h1
    split at h1
    · exact Nat.lt_of_lt_of_le (hr.lt _ _ h1) hpost.size
    · exact hpost.rel.lt _ _ h1
  · dsimp only at h1
    split at h1
    · rename_i hid
      rw[gx id hid]at h2
      have hold:=hr.obj _ _ _ h1 h2
      by_cases hob:OB (cq V σ) H0 r.b
      · -- a block that the small memory owns
        obtain ⟨j,rj,oj,j1,j2,j3,j4⟩:=FI hob
        obtain ⟨id',k1,k2⟩:=hsome j1
        obtain ⟨c1,c2,c3,c4⟩:=hown j id' oj k1 j2 (hoa _ j3)
        by_cases hal:o.alive=true
        · have MO:id=id':=by
            rcases Nat.decEq id id' with hne|he
            · exact absurd j4 (hr.sep id' id rj r _ o k2 h1 c1 h2 (by rw[c2];exact j3) hal (Ne.symm hne))
            · exact he
          subst MO
          rw[h1]at k2;cases k2
          rw[h2]at c1;cases c1
          have hj:=hr0.dom _ _ j1
          have MK:=hpost.rel.obj j r oj (hpost.ext _ _ j1) (by rw[hsame j hj];exact j2)
          have hb:=bk.back (ρ2:=⟨(cq V σ).f,ρ1.mem,(cq V σ).g⟩) hpost.ext (fun _ _ h=>h) (fun _ _ h=>h) (fun _ _ _ h=>h) (hr0.obj _ _ _ j1 j2) MK
          have hb2:=xk (σ:=σ) (V:=⟨(cq V σ).f,ρ1.mem,(cq V σ).g⟩) (ρ':=⟨V.f,ρ1.mem,V.g⟩) (fun i r h=>hsome h) (fun _ _ h=>h) (fun F k r h=>gq h) c4 hb
          exact hb2.mono (V:=⟨V.f,ρ1.mem,V.g⟩) ⟨hext.f,fun _ _ h=>h,hext.g⟩ rfl
        · cases o <;> first|trivial|exact absurd rfl hal
      · exact hold.mono hext (hpost.keep _ (hr.lt _ _ h1) hob)
    · rename_i hid
      obtain ⟨o0,a1,rfl,a3,a4,_⟩:=io id o Om h2
      exact xk (V:=ρ1) (σ:=gG σ H0.length H.length) (ρ':=⟨fun id'=>if id'<H.length then V id' else ρ1 (H0.length+(id'-H.length)),ρ1.mem,fun F k=>if F<H.length then V.g F k else ρ1.g (H0.length+(F-H.length)) k⟩) HF (fun _ _ h=>h) Am a3 (hpost.rel.obj _ _ _ h1 a1)
  · dsimp only at h1
    split at h1
    · rename_i hid;rw[gx id hid]at h2;exact hr.base _ _ _ h1 h2 h3
    · rename_i hid
      obtain ⟨o0,a1,_,a3,a4,_⟩:=io id o Om h2
      exact hpost.rel.base _ _ _ h1 a1 a4
  · have fr:∀id r o,¬ id<H.length->ρ1 (H0.length+(id-H.length))=some r->(H++(ol x0).map (rno (gG σ H0.length H.length) d))[id]?=some o->w.heap.size<=r.b:=by
      intro id r o hid a b
      obtain ⟨o0,a1,_,_,_,_⟩:=io id o Om b
      exact hfresh _ r o0 Om a a1
    dsimp only at h1 h2
    by_cases c1:id1<H.length
    · rw [if_pos c1] at h1
      rw[gx id1 c1]at g1
      by_cases c2:id2<H.length
      · rw [if_pos c2] at h2
        rw[gx id2 c2]at g2
        exact hr.sep id1 id2 r1 r2 o1 o2 h1 h2 g1 g2 k1 k2 hne
      · rw [if_neg c2] at h2
        have:=hr.lt _ _ h1
        have:=fr id2 r2 o2 c2 h2 g2
        omega
    · rw [if_neg c1] at h1
      have f1:=fr id1 r1 o1 c1 h1 g1
      by_cases c2:id2<H.length
      · rw [if_pos c2] at h2
        have:=hr.lt _ _ h2
        omega
      · rw [if_neg c2] at h2
        obtain ⟨p1,a1,_,_,a4,_⟩:=io id1 o1 Om g1
        obtain ⟨p2,b1,_,_,b4,_⟩:=io id2 o2 Om g2
        exact hpost.rel.sep _ _ r1 r2 p1 p2 h1 h2 a1 b1 a4 (hoa _ b4) Om
  · dsimp only at h1
    split at h1
    · rename_i hid
      rw[gx id hid]at h2
      intro he
      rcases hpost.frz b m hb with g|g|g
      · exact (hr.mem b m g).2 id r o h1 h2 h3 he
      · have:=hr.lt _ _ h1;omega
      · obtain ⟨j, rj, oj, j1, j2, j3, j4⟩ := FI g
        exact (hpost.rel.mem b m hb).2 j rj oj (hpost.ext _ _ j1) (by rw[hsame j (hr0.dom _ _ j1)];exact j2) j3 j4
    · rename_i hid
      obtain ⟨o0,a1,_,a3,a4,_⟩:=io id o Om h2
      exact (hpost.rel.mem b m hb).2 _ r o0 h1 a1 a4
  · dsimp only at h1
    split at h1
    · rw[h2]at h1;cases h1
    · omega
  · rcases h2 with ⟨id, r, o, k1, k2, k3, k4⟩ | ⟨F, k, r, z, cs, m, e⟩
    · simp only at k1
      split at k1
      · rename_i hid;rw[gx id hid]at k2;exact .inl ⟨id,r,o,k1,k2,k3,k4⟩
      · rename_i hid
        obtain ⟨o0,a1,_,_,_,_⟩:=io id o Om k2
        have:=hfresh _ r o0 Om k1 a1
        omega
    · exact .inr ⟨F,k,r,z,cs,hfm m,e⟩
theorem ak.frame{f:FuncId}{args:List Value}{H0 H new:Heap}{v:Value}{σ:Nat->Option Nat}{d:Nat}(hp:Part P H0 H σ d)(h:ak P f args H0 [] (Is v (H0++new)))
  (hv:dD d v=true) (hn:new.all (fun o=>cY d o&&o.owned)=true) :
  ak P f (args.map (rn σ d)) H [] (Is (rn (gG σ H0.length H.length) d v) (H++new.map (rno (gG σ H0.length H.length) d))):=by
 have h2:=ak.MR (α:=Unit) (I:=fun _=>True) (vx:=fun _=>v) (ol:=fun _=>new) hp (h.post fun v' H' ⟨a,b⟩=>⟨(),trivial,a,b⟩) (fun _ _=>hv) (fun _ _=>hn)
 exact h2.post fun v' H' ⟨_,_,a,b⟩=>⟨a,b⟩
end
end Go.K
