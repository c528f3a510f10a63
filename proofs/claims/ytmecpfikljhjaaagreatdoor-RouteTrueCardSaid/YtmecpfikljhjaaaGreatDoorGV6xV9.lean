/- What is to be shown is enough. No condition. -/
import Derived.Test.YtmecpfikljhjaaaGreatDoorGK41xV5
import Derived.Test.YtmecpfikljhjaaaGreatDoorGV3xK38
open Go Go.K
set_option linter.unusedVariables false
set_option linter.unusedSimpArgs false
namespace Go.K
noncomputable section
variable {P:Program}
def jo(P:Program)(call:l7):Prop:=∀f args H M h K,call f args H M h K->ad P f args H.list (M.list H.n) (fun v H' => ∃H2 h2,H'=H2.list/\K v H2 h2)
def j8(P:Program)(app:ov):Prop:=∀fv args H M h K,app fv args H M h K->gP P fv args H.list (M.list H.n) (fun v H' => ∃H2 h2,H'=H2.list/\K v H2 h2)
def wn(P:Program)(yld:Nat->List Value->HT->MS->Hint->KV->Prop):Prop:=∀L args H M h K,yld L args H M h K->gP P (.func (.yield L) #[] #[]) args H.list (M.list H.n) (fun v H' => ∃H2 h2,H'=H2.list/\K v H2 h2)
theorem oJ{H:HT}{id:Nat}{o:aa}(h:H.get id=some o):(H.set id o).list=H.list:=by
 rw[HT.aC]
 refine List.ext_getElem? fun i =>?_
 rw[List.getElem?_set]
 split
 ·rename_i e;subst e
  have:=HT.aj H id
  rw[h]at this
  split
  ·exact this.symm
  ·rename_i hl;rw[List.getElem?_eq_none (by omega)]at this;cases this
 ·rfl
theorem bQ:∀{h:Hint} {E:Env} {H:HT} {k:Env->HT->Hint->Prop},il h E H k->∃E' H' h',E'.get=E.get/\H'.list=H.list/\k E' H' h':=by
 intro h
 induction h with
 |obj id o h ih =>
  intro E H k hk
  obtain ⟨h1,h2⟩:=hk
  obtain ⟨E',H',h',e1,e2,e3⟩:=ih h2
  exact ⟨E',H',h',e1,e2.trans (oJ h1),e3⟩
 |slot t v h ih =>
  intro E H k hk
  obtain ⟨h1,h2⟩:=hk
  obtain ⟨E',H',h',e1,e2,e3⟩:=ih h2
  exact ⟨E',H',h',e1.trans (Env.dJ E t v h1),e2,e3⟩
 |bind α f ih =>
  intro E H k hk
  obtain ⟨x,hk⟩:=hk
  exact ih x hk
 |cas p a b iha ihb =>
  intro E H k hk
  by_cases hp:p
  ·exact iha (hk.1 hp)
  ·exact ihb (hk.2 hp)
 |_=>intro E H k hk;exact ⟨E,H,_,rfl,rfl,hk⟩
theorem yj:∀{h:Hint} {v:Value} {H:HT} {k:Value->HT->Hint->Prop},vas h v H k->∃v2 gs H' h',wk v v2/\H'.list=H.list++gs/\k v2 H' h':=by
 intro h
 induction h with
 |as x h ih =>
  intro v H k hk
  obtain ⟨h1,h2⟩:=hk
  obtain ⟨v2,gs,H',h',e1,e2,e3⟩:=ih h2
  exact ⟨v2,gs,H',h',fun ρ y hy=>e1 ρ y (h1 ρ y hy),e2,e3⟩
 |ghost o h ih =>
  intro v H k hk
  obtain ⟨v2,gs,H',h',e1,e2,e3⟩:=ih hk
  exact ⟨v2,o :: gs,H',h',e1,by rw[e2,HT.aW,List.append_assoc];rfl,e3⟩
 |_=>intro v H k hk;exact ⟨v,[],H,_,ae v,(List.append_nil _).symm,hk⟩
theorem HT.n_eq{H H':HT}(h:H'.list=H.list):H'.n=H.n:=by rw[<- HT.length,<- HT.length,h]
section
variable {app:ov} {call:l7} {dm:Value->MS}
theorem qe{fv:Value}{args:List Value}{H:Heap}{Mc:List Nat}{v:Value}{H':Heap}(h:yh P fv args H Mc v H'):gP P fv args H Mc (Is v H'):=by
 unfold yh at h
 split at h
 ·exact gP.func h
 ·exact h
theorem wj{fv:Value}{args:List Value}{H:Heap}{Mc:List Nat}{Q:Value->Heap->Prop}(h:Hi P fv args H Mc Q):gP P fv args H Mc Q:=by
 unfold Hi at h
 split at h
 ·exact gP.func h
 ·exact h
inductive Stepped (P:Program) (wok:MS->Bool) (o:Oper) (E:Env) (H:HT) (K:Env->HT->Option Nat->Hint->Prop):Prop
 |pure {v:Value} {rd:Option Nat} {E2:Env} {h2:Hint} (hc:dE o.op = .pure) (hp:cO P o.op (ev E.get) H.list=some (v,rd)) (he:E2.get=put E.get o.dst v) (hk:K E2 H rd h2)
 |alloc {v:Value} {ob:aa} {h2:Hint} (hc:dE o.op = .alloc) (hp:ia P o.op (ev E.get) H.n=some (v,ob)) (hk:K (E.put o.dst v) (H.push ob) (some H.n) h2)
 |write {v:Value} {H':HT} {ms:List Nat} {h2:Hint} (hc:dE o.op = .write) (hp:dd P o.op (ev E.get) H.list=some (v,H'.list,ms)) (hw:wok (some ms)=true) (hk:K (E.put o.dst v) H' none h2)
 |call {f:Operand} {args:Array Operand} {ts:Array TypeId} {Mc:MS} (hc:dE o.op = .call) (hop:o.op = .call ⟨.value f,args,ts⟩) (hw:wok Mc=true)
   (ha:gP P (ev E.get f) (args.toList.map (ev E.get)) H.list (Mc.list H.n) (fun v H' => ∃H2 h2,H'=H2.list/\K (E.put o.dst v) H2 none h2))
 |iter (hc:dE o.op = .iter) (hk:∀(base:Nat) (M:List Nat),(∀id,wok (some [id])=true->id<base->id∈M)->kQ P base M o.op (ev E.get) H.list (fun v H' => ∃H2 h2,H'=H2.list/\K (E.put o.dst v) H2 none h2))
theorem mr{H:HT}:∀{l:List (Nat×aa)},uh H l->ui H.list l
 | [],_=>trivial
 |(id,o) :: r,h=>⟨by rw[HT.aj];exact h.1,mr h.2⟩
theorem gY:∀(new:List aa) (H:HT),(fY H new).list=vV H.list new:=by
 have key:∀(new:List aa) (H:HT),(fY H new).list=H.list++new:=by
  intro new
  induction new with
  |nil=>intro H;simp[fY]
  |cons o r ih=>intro H;simp only[fY,ih,HT.aW,List.append_assoc,List.cons_append,List.nil_append]
 intro new H
 rw[key]
 cases new with
 |nil=>simp[vV]
 |cons o r=>rfl
theorem jG:∀(chg:List (Nat×aa)) (H:HT),(wO H chg).list=eg H.list chg
 | [],_=>rfl
 |(id,o) :: r,H=>by
  have:=jG r (H.set id o)
  rw[HT.aC]at this
  exact this
theorem jw(ha:j8 P app){wok:MS->Bool}(hw0:wok (some [])=true){o:Oper}{E:Env}{H:HT}{h:Hint}{K:Env->HT->Option Nat->Hint->Prop}(hv:mz P app wok dm o E H h K) :
  Stepped P wok o E H K:=by
 unfold mz at hv
 split at hv
 ·rename_i hc
  split at hv
  ·split at hv <;> try (exact hv.elim)
   rename_i hop t x y hop2
   split at hv <;> try (exact hv.elim)
   rename_i b hb
   cases b with
   |true =>
    refine .pure (v:=ev E.get x) (rd:=none) hc (by rw[hop2];simp only[cO];rw[show ev E.get (.tmp t) = .bool true from hb];rfl) ?_ (hv.1 rfl)
    rw[Env.get_put,Env.dJ E t _ hb]
   |false =>
    refine .pure (v:=ev E.get y) (rd:=none) hc (by rw[hop2];simp only[cO];rw[show ev E.get (.tmp t) = .bool false from hb];rfl) ?_ (hv.2 rfl)
    rw[Env.get_put,Env.dJ E t _ hb]
  ·split at hv <;> try (exact hv.elim)
   rename_i c v rd hn
   exact .pure hc (sY hn hv.1) (Env.get_put ..) hv.2
  ·split at hv <;> try (exact hv.elim)
   ·rename_i t a hop2
    split at hv <;> try (exact hv.elim)
    ·rename_i id off hp
     split at hv <;> try (exact hv.elim)
     rename_i own z cs hg
     refine .pure hc ?_ (Env.get_put ..) hv.2
     rw[hop2]
     simp only[cO,hp,jR,jx,HT.aj,hg,hv.1]
     rfl
    ·rename_i id off k hp
     split at hv <;> try (exact hv.elim)
     rename_i z cs hg
     split at hv <;> try (exact hv.elim)
     rename_i hfit
     refine .pure hc ?_ (Env.get_put ..) hv.2
     rw[hop2]
     simp only[cO,hp,jR,jx,HT.aj,hg,hfit,if_true,hv.1]
     rfl
    ·rename_i off cs hp
     refine .pure hc ?_ (Env.get_put ..) hv.2
     rw[hop2]
     simp only[cO,hp,jR,hv.1]
   ·rename_i t x i hop2
    refine .pure (rd:=none) hc ?_ (Env.get_put ..) hv.2
    rw[hop2]
    simp only[cO,hv.1]
    rfl
   ·rename_i t x i ok hop2
    split at hv <;> try (exact hv.elim)
    rename_i kt el id g1 g2
    split at hv <;> try (exact hv.elim)
    rename_i es z g3 g4 g5
    refine .pure hc ?_ (Env.get_put ..) hv.2
    rw[hop2]
    simp only[cO,jh,g1,g2,g4,g5,HT.aj,g3,hv.1]
    rfl
  ·split at hv <;> try (exact hv.elim)
   split at hv <;> try (exact hv.elim)
   rename_i v rd hp
   exact .pure hc (qH hp) (Env.get_put ..) hv
 ·rename_i hc
  split at hv
  ·split at hv <;> try (exact hv.elim)
   rename_i c v ob hn
   exact .alloc hc (qL hn hv.1) hv.2
  ·split at hv <;> try (exact hv.elim)
   split at hv <;> try (exact hv.elim)
   rename_i v ob hp
   exact .alloc hc hp hv
 ·rename_i hc
  split at hv
  ·split at hv <;> try (exact hv.elim)
   rename_i c v H' ms hn
   exact .write hc (qJ hn hv.1) hv.2.1 hv.2.2
  ·split at hv <;> try (exact hv.elim)
   rename_i c v hn
   exact .write hc (oN hn hv.1 H.list) hw0 hv.2
  ·split at hv <;> try (exact hv.elim)
   ·rename_i t m k v hop2
    split at hv <;> try (exact hv.elim)
    rename_i kt el id g1 g2
    split at hv <;> try (exact hv.elim)
    rename_i es g3 g4 g5
    refine .write (ms:=[id]) hc ?_ g5 hv.2
    rw[hop2]
    simp only[dd,jg,g1,g2,g4,HT.aj,g3,hv.1]
    simp only[HT.aC,Option.map_some]
   ·rename_i t m k hop2
    split at hv <;> try (exact hv.elim)
    split at hv <;> try (exact hv.elim)
    rename_i kt el id g1 g2
    split at hv <;> try (exact hv.elim)
    rename_i es z g3 g4 g5 g6
    refine .write (ms:=[id]) hc ?_ g6 hv.2
    rw[hop2]
    simp only[dd,mn,g1,g2,g4,g5,HT.aj,g3,hv.1]
    simp only[HT.aC,Option.map_some]
   ·rename_i t m st v hop2
    split at hv <;> try (exact hv.elim)
    rename_i id g2
    split at hv <;> try (exact hv.elim)
    rename_i es g3 g5
    refine .write (ms:=[id]) hc ?_ g5 hv.2
    rw[hop2]
    simp only[dd,qQ,g2,HT.aj,g3,hv.1]
    simp only[HT.aC,Option.map_some]
  ·split at hv <;> try (exact hv.elim)
   split at hv <;> try (exact hv.elim)
   rename_i v H' ms hp
   split at hv <;> try (exact hv.elim)
   rename_i hw
   exact .write hc (oL hp) hw hv
 ·rename_i hc
  split at hv <;> try (exact hv.elim)
  rename_i f args ts hop2
  split at hv
  ·rename_i deps v new h'
   refine .call (Mc:=some []) hc hop2 hw0 ((qe (hv.2.1 H.list (HT.length H) (mr hv.1))).mono (fun _ h _=>h) ?_)
   rintro v2 H2 ⟨rfl,rfl⟩
   exact ⟨_,_,(gY _ _).symm,hv.2.2⟩
  ·rename_i deps v chg new h'
   split at hv <;> try (exact hv.elim)
   rename_i hw
   refine .call (Mc:=some (xo chg)) hc hop2 hw ((qe (hv.2.1 H.list (HT.length H) (mr hv.1))).mono (fun _ h _=>h) ?_)
   rintro v2 H2 ⟨rfl,rfl⟩
   exact ⟨_,_,by rw[gY,jG],hv.2.2⟩
  ·rename_i deps ids α I v chg new h'
   split at hv <;> try (exact hv.elim)
   rename_i hw
   refine .call (Mc:=some ids) hc hop2 hw ((wj (hv.2.1 H.list (HT.length H) (mr hv.1))).mono (fun _ h _=>h) ?_)
   rintro v2 H2 ⟨x,hx,rfl,rfl⟩
   exact ⟨_,_,by rw[gY,jG],hv.2.2 x hx⟩
  ·split at hv <;> try (exact hv.elim)
   rename_i hw
   exact .call hc hop2 hw (ha _ _ _ _ _ _ hv)
  ·split at hv <;> try (exact hv.elim)
   split at hv <;> try (exact hv.elim)
   rename_i hw
   exact .call hc hop2 hw (ha _ _ _ _ _ _ hv)
 ·rename_i hc
  split at hv
  ·rename_i t x hop2
   split at hv <;> try (exact hv.elim)
   rename_i kt el id g1 g2
   split at hv <;> try (exact hv.elim)
   rename_i es h' g3 g4
   refine .iter hc fun base M _ =>?_
   rw[hop2]
   exact ⟨id,es,kt,el,g1,g2,by rw[HT.aj];exact g3,_,_,(HT.aW _ _).symm,by rw[HT.length];exact hv⟩
  ·rename_i it hop2
   split at hv <;> try (exact hv.elim)
   rename_i id g1
   split at hv <;> try (exact hv.elim)
   rename_i m n seen g2
   split at hv <;> try (exact hv.elim)
   rename_i es h1 h2 g3 g4
   refine .iter hc fun base M hM =>?_
   rw[hop2]
   exact ⟨rfl,id,m,n,seen,es,g1,by rw[HT.aj];exact g2,by rw[HT.aj];exact g3,hv.1,hM id g4,fun i hi hs=>⟨_,_,(HT.aC _ _ _).symm,hv.2.1 i hi hs⟩,fun hall=>⟨_,_,rfl,hv.2.2 hall⟩⟩
  ·rename_i it hop2
   split at hv <;> try (exact hv.elim)
   rename_i id g1
   split at hv <;> try (exact hv.elim)
   rename_i m n seen g2
   split at hv <;> try (exact hv.elim)
   rename_i es v h' g3
   refine .iter hc fun base M _ =>?_
   rw[hop2]
   exact ⟨id,m,n,seen,es,v,g1,by rw[HT.aj];exact g2,by rw[HT.aj];exact g3,hv.1,hv.2.1,_,_,rfl,hv.2.2⟩
  ·exact hv.elim
 ·exact hv.elim
theorem ka{wok:MS->Bool}{ops:Array Oper}{o:Oper}{E:Env}{H:HT}{h:Hint}{K:Env->HT->Option Nat->Hint->Prop}{oW:Env->HT->Hint->Prop}(hv:qk P app wok dm ops o E H h K oW) :
  ga o ops E.get=true/\((bY o ops E.get=true/\∃E1 H1 h1,E1.get=E.get/\H1.list=H.list/\mz P app wok dm o E1 H1 h1 K)∨(bY o ops E.get=false/\∃E2 H1 h2,E2.get=put E.get o.dst undef/\H1.list=H.list/\oW E2 H1 h2)):=by
 unfold qk at hv
 rw[Iq,Ip]at hv
 obtain ⟨E0,H0,h0,e1,e2,hv⟩:=bQ hv
 rw[<- e1]
 unfold ga bY
 cases hg:o.guard with
 |none =>
  rw[hg]at hv
  exact ⟨rfl,.inl ⟨rfl,E0,H0,h0,rfl,e2,hv⟩⟩
 |some gw =>
  obtain ⟨g,want⟩:=gw
  rw[hg]at hv
  simp only at hv ⊢
  cases hd:(ops[g]?).bind (·.dst) with
  |none =>
   rw[hd]at hv
   exact ⟨rfl,.inr ⟨rfl,_,H0,h0,Env.get_put ..,e2,hv⟩⟩
  |some d =>
   rw[hd]at hv
   simp only at hv ⊢
   have off:∀{hh:Hint},oW (E0.put o.dst undef) H0 hh->∃E2 H1 h2,E2.get=put E0.get o.dst undef/\H1.list=H.list/\oW E2 H1 h2:=fun hk=>⟨_,H0,_,Env.get_put ..,e2,hk⟩
   have fork:∀b:Bool,E0.get d = .bool b->(E0.put (some d) (.bool b)).get=E0.get:=fun b hb=>Env.dJ E0 d _ hb
   split at hv
   ·rename_i b hb
    rw[hb]
    refine ⟨rfl,?_⟩
    split at hv
    ·rename_i h1 h2
     cases b with
     |true =>
      have hv:=hv.1 rfl
      cases want with
      |true =>
       obtain ⟨E1,H1,h1',f1,f2,hv⟩:=bQ hv
       exact .inl ⟨rfl,E1,H1,h1',f1.trans (fork _ hb),f2.trans e2,hv⟩
      |false=>exact .inr ⟨rfl,_,H0,h1,by rw[Env.get_put,fork _ hb],e2,hv⟩
     |false =>
      have hv:=hv.2 rfl
      cases want with
      |true=>exact .inr ⟨rfl,_,H0,h2,by rw[Env.get_put,fork _ hb],e2,hv⟩
      |false =>
       obtain ⟨E1,H1,h1',f1,f2,hv⟩:=bQ hv
       exact .inl ⟨rfl,E1,H1,h1',f1.trans (fork _ hb),f2.trans e2,hv⟩
    ·cases b <;> cases want
     ·exact .inl ⟨rfl,E0,H0,_,rfl,e2,hv⟩
     ·exact .inr ⟨rfl,off hv⟩
     ·exact .inr ⟨rfl,off hv⟩
     ·exact .inl ⟨rfl,E0,H0,_,rfl,e2,hv⟩
   ·exact hv.elim
   ·rename_i n1 n2
    have h1:(match E0.get d with| .chan _=>false|_=>true)=true:=by
     split
     ·rename_i q;exact absurd q (n2 _)
     ·rfl
    have h2:(match E0.get d with| .bool b=>b == want|_=>false)=false:=by
     split
     ·rename_i q;exact absurd q (n1 _)
     ·rfl
    exact ⟨h1,.inr ⟨h2,off hv⟩⟩
theorem Hk(base n:Nat)(M:MS)(bs:List Nat)(i:Nat)(log:List (Nat×Option Nat))(m:Nat):(rR base n M (some [])&&ng bs i log (MS.list (some []) m))=true:=by
 rw[Bool.and_eq_true]
 constructor
 ·unfold rR iw;cases M <;> rfl
 ·unfold ng
  rw[List.all_eq_true]
  intro p _
  cases p.2 <;> simp[MS.list,jq]
theorem Hj(base n:Nat)(M:MS):rR base n M (some [])=true:=by unfold rR iw;cases M <;> rfl
theorem e8{base:Nat}{M:MS}:∀{ts:List Nat} {E:Env} {H:HT} {k:Env->HT->Prop},mC base M ts E H k->∃E2 H2,aL P base (M.list base) E.get H.list E2.get H2.list/\k E2 H2
 | [],E,H,k,hv=>⟨E,H,aL.refl,hv⟩
 |t :: ts,E,H,k,hv=>by
  unfold mC at hv
  split at hv <;> try (exact hv.elim)
  ·rename_i id tag n cap hT
   split at hv <;> try (exact hv.elim)
   rename_i hw
   split at hv <;> try (exact hv.elim)
   rename_i z cs hg
   simp only[Bool.and_eq_true]at hw
   obtain ⟨E2,H2,g,hk⟩:=e8 hv
   refine ⟨E2,H2,aL.trans (aL.freeze (cs:=cs) (z:=z) hT (tag:=tag) ?_ (by rw[HT.aj];exact hg) (fun hb=>bT hw.2 id (List.mem_cons_self ..) hb)) ?_,hk⟩
   ·have:=hw.1
    split at this
    ·exact .inl rfl
    ·exact .inr (congrArg some (Nat.eq_of_beq_eq_true this))
   ·rwa [Env.get_put,HT.aC]at g
  ·rename_i n cs hT
   obtain ⟨E2,H2,g,hk⟩:=e8 hv
   refine ⟨E2,H2,aL.trans (aL.read (n:=n) (cs:=cs) hT) ?_,hk⟩
   rw[Env.get_put,HT.aW]at g
   rw[HT.length];exact g
  ·rename_i vs hT
   split at hv <;> try (exact hv.elim)
   ·rename_i i id tag n cap hi
    split at hv <;> try (exact hv.elim)
    rename_i hw
    split at hv <;> try (exact hv.elim)
    rename_i z cs hg
    simp only[Bool.and_eq_true]at hw
    obtain ⟨E2,H2,g,hk⟩:=e8 hv
    refine ⟨E2,H2,aL.trans (aL.xw (cs:=cs) (z:=z) hT (jZ hi).2 (tag:=tag) ?_ (by rw[HT.aj];exact hg) (fun hb=>bT hw.2 id (List.mem_cons_self ..) hb)) ?_,hk⟩
    ·have:=hw.1
     split at this
     ·exact .inl rfl
     ·exact .inr (congrArg some (Nat.eq_of_beq_eq_true this))
    ·rwa [Env.get_put,HT.aC]at g
   ·rename_i i n cs hi
    obtain ⟨E2,H2,g,hk⟩:=e8 hv
    refine ⟨E2,H2,aL.trans (aL.EE (n:=n) (cs:=cs) hT (jZ hi).2) ?_,hk⟩
    rw[Env.get_put,HT.aW]at g
    rw[HT.length];exact g
theorem wJ{A F k d:Nat}:∀(ts:List Nat) (E:Env),(tfE A F k d ts E).get=tfT A F k d ts E.get
 | [],E=>rfl
 |t :: ts,E=>by unfold tfE tfT;rw[wJ ts,Env.get_put]
theorem pg{A F k d:Nat}:∀(bs:List Nat) (H:HT),(Cu A F k d bs H).list=tfH A F k d bs H.list
 | [],H=>rfl
 |b :: bs,H=>by
  unfold Cu tfH
  rw[pg bs,HT.aj]
  cases H.get b with
  |none=>rfl
  |some o=>cases o <;> first|rfl|(simp only[HT.aC])
theorem lH{base:Nat}{M:MS}{kk d:Nat}{ts bs:List Nat}:∀{l:List (Nat×Nat)} {E:Env} {H:HT} {k:Env->HT->Prop},wH base M kk d ts bs l E H k->∃E2 H2,aL P base (M.list base) E.get H.list E2.get H2.list/\k E2 H2
 | [],E,H,k,hv=>⟨E,H,aL.refl,hv⟩
 |(A,F) :: l,E,H,k,hv=>by
  unfold wH at hv
  split at hv <;> try (exact hv.elim)
  rename_i hw
  split at hv <;> try (exact hv.elim)
  rename_i zA cs hA
  split at hv <;> try (exact hv.elim)
  rename_i z ms hF
  obtain ⟨⟨h1,h2,h3⟩,hv⟩:=hv
  have hM:=bT hw
  obtain ⟨E2,H2,g,hk⟩:=lH hv
  refine ⟨E2,H2,aL.trans (aL.fam (A:=A) (F:=F) (k:=kk) (d:=d) (ts:=ts) (bs:=bs) (by rw[HT.aj];exact hA) (by rw[HT.aj];exact hF) h1 h2 h3 (fun h=>hM A (by simp) h) (fun h=>hM F (by simp) h) (fun b hb h=>hM b (by simp[hb]) h)) ?_,hk⟩
  rw[wJ,pg,HT.aC,HT.aC]at g
  exact g
theorem mA{base:Nat}{M:MS}{E:Env}:∀(zs:List Nat) (H:HT),aL P base (M.list base) E.get H.list E.get (Ft zs H).list
 | [],H=>aL.refl
 |z :: zs,H=>by
  have:=mA (base:=base) (M:=M) (E:=E) zs (H.push (.fam z []))
  rw[HT.aW]at this
  exact (aL.km z).trans this
theorem ca{base:Nat}{M:MS}:∀{l:List GN} {E:Env} {H:HT} {k:Env->HT->Prop},eH base M l E H k->∃E2 H2,aL P base (M.list base) E.get H.list E2.get H2.list/\k E2 H2
 | [],E,H,k,hv=>⟨E,H,aL.refl,hv⟩
 | .new z :: l,E,H,k,hv=>by
  obtain ⟨E2,H2,g,hk⟩:=ca (l:=l) hv
  refine ⟨E2,H2,aL.trans (fun B ρ w N tmps h1 h2 h3=>⟨ρ,Post.mN h1 h2 (.fam 0 [.int .i64 (z:Int)]),h3⟩) ?_,hk⟩
  rwa [HT.aW]at g
 | .take hd t F k n z row :: l,E,H,kk,hv=>by
  unfold eH at hv
  split at hv <;> try (exact hv.elim)
  rename_i hw
  split at hv <;> try (exact hv.elim)
  rename_i zh hs hhd
  split at hv <;> try (exact hv.elim)
  rename_i ms hF
  obtain ⟨⟨c1,c2,c3,c4⟩,hv⟩:=hv
  have hM:=bT hw
  obtain ⟨E2,H2,g,hk⟩:=ca (l:=l) hv
  refine ⟨E2,H2,aL.trans (aL.take (hd:=hd) (zh:=zh) (t:=t) (F:=F) (k:=k) (n:=n) (z:=z) (hs:=hs) (ms:=ms) (row:=row) (by rw[HT.aj];exact hhd) (by rw[HT.aj];exact hF) c1 c2 c3 c4 (fun h=>hM hd (by simp) h) (fun h=>hM F (by simp) h)) ?_,hk⟩
  rw[HT.aC,HT.aW,HT.aC,<- HT.length]at g
  exact g
 | .give hd t F A k n z q :: l,E,H,kk,hv=>by
  unfold eH at hv
  split at hv <;> try (exact hv.elim)
  rename_i hw
  split at hv <;> try (exact hv.elim)
  rename_i zh hs hhd
  split at hv <;> try (exact hv.elim)
  rename_i ms hF
  split at hv <;> try (exact hv.elim)
  rename_i z' row hA
  split at hv <;> try (exact hv.elim)
  rename_i hzz
  have hzz:=Nat.eq_of_beq_eq_true hzz
  subst hzz
  obtain ⟨⟨c1,c2,c3,c4,c5,c6⟩,hv⟩:=hv
  rw[Bool.and_eq_true]at hw
  have hM:=bT hw.1
  have hne:A≠hd:=fun e=>by rw[e,Nat.beq_refl]at hw;exact absurd hw.2 (by decide)
  obtain ⟨E2,H2,g,hk⟩:=ca (l:=l) hv
  refine ⟨E2,H2,aL.trans (aL.give (hd:=hd) (zh:=zh) (t:=t) (F:=F) (A:=A) (k:=k) (n:=n) (hs:=hs) (ms:=ms) (row:=row) (tag:=match (generalizing:=false) q with|true=>some 1|false=>none) (by rw[HT.aj];exact hhd) (by rw[HT.aj];exact hF) (by rw[HT.aj];exact hA) c1 ?_ c3 c4 c5 c6 (fun h=>hM hd (by simp) h) (fun h=>hM F (by simp) h) (fun h=>hM A (by simp) h) hne) ?_,hk⟩
  ·cases q with
   |true=>exact .inl rfl
   |false=>exact .inr ⟨rfl,c2.resolve_left (by decide)⟩
  ·rw[HT.aC,HT.aC,HT.aC]at g
   exact g
 | .wN hd t F k n z key row :: l,E,H,kk,hv=>by
  unfold eH at hv
  split at hv <;> try (exact hv.elim)
  rename_i hw
  split at hv <;> try (exact hv.elim)
  rename_i es hhd
  split at hv <;> try (exact hv.elim)
  rename_i ms hF
  obtain ⟨⟨c1,c2,c3,c4⟩,hv⟩:=hv
  have hM:=bT hw
  obtain ⟨E2,H2,g,hk⟩:=ca (l:=l) hv
  refine ⟨E2,H2,aL.trans (aL.wN (hd:=hd) (t:=t) (F:=F) (k:=k) (n:=n) (z:=z) (es:=es) (key:=key) (ms:=ms) (row:=row) (by rw[HT.aj];exact hhd) (by rw[HT.aj];exact hF) c1 c2 c3 c4 (fun h=>hM hd (by simp) h) (fun h=>hM F (by simp) h)) ?_,hk⟩
  rw[HT.aC,HT.aW,HT.aC,<- HT.length]at g
  exact g
 | .xr hd t F A k n z key q :: l,E,H,kk,hv=>by
  unfold eH at hv
  split at hv <;> try (exact hv.elim)
  rename_i hw
  split at hv <;> try (exact hv.elim)
  rename_i es hhd
  split at hv <;> try (exact hv.elim)
  rename_i ms hF
  split at hv <;> try (exact hv.elim)
  rename_i z' row hA
  split at hv <;> try (exact hv.elim)
  rename_i hzz
  have hzz:=Nat.eq_of_beq_eq_true hzz
  subst hzz
  obtain ⟨⟨c1,c2,c3,c4,c5,c6⟩,hv⟩:=hv
  rw[Bool.and_eq_true]at hw
  have hM:=bT hw.1
  have hne:A≠hd:=fun e=>by rw[e,Nat.beq_refl]at hw;exact absurd hw.2 (by decide)
  obtain ⟨E2,H2,g,hk⟩:=ca (l:=l) hv
  refine ⟨E2,H2,aL.trans (aL.xr (hd:=hd) (t:=t) (F:=F) (A:=A) (k:=k) (n:=n) (es:=es) (key:=key) (ms:=ms) (row:=row) (tag:=match (generalizing:=false) q with|true=>some 1|false=>none) (by rw[HT.aj];exact hhd) (by rw[HT.aj];exact hF) (by rw[HT.aj];exact hA) c1 ?_ c3 c4 c5 c6 (fun h=>hM hd (by simp) h) (fun h=>hM F (by simp) h) (fun h=>hM A (by simp) h) hne) ?_,hk⟩
  ·cases q with
   |true=>exact .inl rfl
   |false=>exact .inr ⟨rfl,c2.resolve_left (by decide)⟩
  ·rw[HT.aC,HT.aC,HT.aC]at g
   exact g
 | .wM s F k n z row :: l,E,H,kk,hv=>by
  unfold eH at hv
  split at hv <;> try (exact hv.elim)
  rename_i hw
  split at hv <;> try (exact hv.elim)
  rename_i ms hF
  obtain ⟨⟨c1,c2,c3,c4⟩,hv⟩:=hv
  have hM:=bT hw
  obtain ⟨E2,H2,g,hk⟩:=ca (l:=l) hv
  refine ⟨E2,H2,aL.trans (aL.wM (s:=s) (F:=F) (k:=k) (n:=n) (z:=z) (ms:=ms) (row:=row) (by rw[HT.aj];exact hF) c1 c2 c3 c4 (fun h=>hM F (by simp) h)) ?_,hk⟩
  rw[HT.aW,HT.aC,Env.get_put,<- HT.length]at g
  exact g
 | .rh hd t A n c q :: l,E,H,kk,hv=>by
  unfold eH at hv
  split at hv <;> try (exact hv.elim)
  rename_i hw
  split at hv <;> try (exact hv.elim)
  rename_i zh hs hhd
  split at hv <;> try (exact hv.elim)
  rename_i z row hA
  obtain ⟨c1,hv⟩:=hv
  rw[Bool.and_eq_true]at hw
  have hM:=bT hw.1
  have hne:A≠hd:=fun e=>by rw[e,Nat.beq_refl]at hw;exact absurd hw.2 (by decide)
  obtain ⟨E2,H2,g,hk⟩:=ca (l:=l) hv
  refine ⟨E2,H2,aL.trans (aL.rh (hd:=hd) (t:=t) (A:=A) (n:=n) (c:=c) (hs:=hs) (row:=row) (tag:=match (generalizing:=false) q with|true=>some 1|false=>none) (by rw[HT.aj];exact hhd) (by rw[HT.aj];exact hA) c1 ?_ (fun h=>hM hd (by simp) h) (fun h=>hM A (by simp) h) hne) ?_,hk⟩
  ·cases q with
   |true=>exact .inr rfl
   |false=>exact .inl rfl
  ·rw[HT.aC,HT.aC]at g
   exact g
 | .tog s i :: l,E,H,kk,hv=>by
  unfold eH at hv
  split at hv <;> try (exact hv.elim)
  rename_i vs hT
  split at hv <;> try (exact hv.elim)
  ·rename_i id tag n cap hi
   split at hv <;> try (exact hv.elim)
   rename_i hw
   split at hv <;> try (exact hv.elim)
   rename_i z cs hg
   simp only[Bool.and_eq_true]at hw
   obtain ⟨E2,H2,g,hk⟩:=ca (l:=l) hv
   refine ⟨E2,H2,aL.trans (aL.xw (cs:=cs) (z:=z) hT hi (tag:=tag) ?_ (by rw[HT.aj];exact hg) (fun hb=>bT hw.2 id (List.mem_cons_self ..) hb)) ?_,hk⟩
   ·have:=hw.1
    split at this
    ·exact .inl rfl
    ·exact .inr (congrArg some (Nat.eq_of_beq_eq_true this))
   ·rwa [Env.get_put,HT.aC]at g
  ·rename_i n cs hi
   obtain ⟨E2,H2,g,hk⟩:=ca (l:=l) hv
   refine ⟨E2,H2,aL.trans (aL.EE (n:=n) (cs:=cs) hT hi) ?_,hk⟩
   rw[Env.get_put,HT.aW]at g
   rw[HT.length];exact g
theorem mB{base:Nat}{M:MS}{h:Hint}{E:Env}{H:HT}{k:Env->HT->Hint->Prop}(hv:zy base M h E H k):∃E2 H2 h2,aL P base (M.list base) E.get H.list E2.get H2.list/\k E2 H2 h2:=by
 unfold zy at hv
 split at hv
 ·obtain ⟨E2,H2,g,hk⟩:=e8 hv;exact ⟨E2,H2,_,g,hk⟩
 ·exact ⟨E,_,_,mA _ _,hv⟩
 ·obtain ⟨E2,H2,g,hk⟩:=lH hv;exact ⟨E2,H2,_,g,hk⟩
 ·obtain ⟨E2,H2,g,hk⟩:=ca hv;exact ⟨E2,H2,_,g,hk⟩
 ·exact ⟨E,H,_,aL.refl,hv⟩
theorem uO(ha:j8 P app){base n:Nat}{M:MS}{ops:Array Oper}:∀{os:List Oper} {E:Env} {H:HT} {h:Hint} {K:Env->HT->Hint->Prop},zx P app base n M dm ops os E H h K ->
  wv P base (M.list base) ops os E.get H.list (fun T H' => ∃E2 H2 h2,T=E2.get/\H'=H2.list/\K E2 H2 h2):=by
 intro os
 induction os with
 |nil=>intro E H h K hv;exact ⟨E,H,h,rfl,rfl,hv⟩
 |cons o os ih =>
  intro E H h K hv
  simp only[zx]at hv
  obtain ⟨E0,H0,h0,hgh,hv⟩:=mB (P:=P) hv
  obtain ⟨hkn,hv⟩:=ka hv
  simp only[wv]
  refine ⟨_,_,hgh,hkn,?_⟩
  rcases hv with ⟨hw,E1,H1,h1,e1,e2,hv⟩|⟨hw,E2,H1,h2,e1,e2,hv⟩
  ·rw[hw,if_pos rfl]
   have hn:=HT.n_eq e2
   rw[<- e1,<- e2]
   unfold yd
   rcases jw ha (by first|exact Hj .. |exact Hk ..) hv with ⟨hc,hp,he,hk⟩|⟨hc,hp,hk⟩|⟨hc,hp,hwk,hk⟩|⟨hc,hop,hwk,hcall⟩|⟨hc,hk⟩
   ·rw[hc];exact ⟨_,_,hp,by have:=ih hk;rw[he]at this;exact this⟩
   ·rw[hc];exact ⟨_,_,by rw[HT.length];exact hp,by have:=ih hk;rw[Env.get_put,HT.aW]at this;exact this⟩
   ·rw[hc];exact ⟨_,_,_,hp,fun id hid hb=>fw (n:=H1.n) (Mc:=some _) (by rw[hn];exact hwk) id hid hb,by have:=ih hk;rw[Env.get_put]at this;exact this⟩
   ·rw[hc,hop]
    refine ⟨_,hcall.mono (fun _ h _=>h) ?_,fun id hid hb=>fw (n:=H1.n) (by rw[hn];exact hwk) id hid hb⟩
    rintro v H' ⟨H2,h2,rfl,hk⟩
    rw[<- Env.get_put];exact ih hk
   ·rw[hc]
    refine kQ.mono (hk base (M.list base) fun id hw hb=>fw (n:=H1.n) (Mc:=some [id]) (by rw[hn];exact hw) id (List.mem_singleton.2 rfl) hb) ?_
    rintro v H' ⟨H2,h2,rfl,hk⟩
    rw[<- Env.get_put];exact ih hk
  ·rw[hw,if_neg (by simp)]
   rw[<- e1,<- e2]
   exact ih hv
theorem rV(ha:j8 P app){base:Nat}{M:MS}{bs:List Nat}{ops:Array Oper}:∀{is:List Nat} {E:Env} {H:HT} {log:List (Nat×Option Nat)} {h:Hint} {K:Env->HT->Hint->Prop},rW P app base M dm bs ops is E H log h K ->
  gK P base (M.list base) bs ops is E.get H.list log (fun T H' => ∃E2 H2 h2,T=E2.get/\H'=H2.list/\K E2 H2 h2):=by
 intro is
 induction is with
 |nil=>intro E H log h K hv;exact ⟨E,H,h,rfl,rfl,hv⟩
 |cons i is ih =>
  intro E H log h K hv
  simp only[rW]at hv
  simp only[gK]
  split at hv <;> try (exact hv.elim)
  rename_i o ho
  simp only[ho]
  split at hv
  ·exact hv.elim
  rename_i hni
  obtain ⟨hkn,hv⟩:=ka hv
  refine ⟨hkn,?_⟩
  rcases hv with ⟨hw,E1,H1,h1,e1,e2,hv⟩|⟨hw,E2,H1,h2,e1,e2,hv⟩
  ·rw[hw,if_pos rfl]
   have hn:=HT.n_eq e2
   rw[<- e1,<- e2]
   unfold rM
   rcases jw ha (by first|exact Hj .. |exact Hk ..) hv with ⟨hc,hp,he,hk⟩|⟨hc,hp,hk⟩|⟨hc,hp,hwk,hk⟩|⟨hc,hop,hwk,hcall⟩|⟨hc,hk⟩
   ·rw[hc]at hk ⊢;exact ⟨_,_,hp,by have:=ih hk;rw[he]at this;exact this⟩
   ·rw[hc]at hk ⊢
    refine ⟨_,_,by rw[HT.length];exact hp,?_⟩
    have:=ih hk
    rw[Env.get_put,HT.aW]at this
    rw[HT.length]
    exact this
   ·simp only[Bool.and_eq_true]at hwk
    rw[hc]at hk ⊢
    exact ⟨_,_,_,hp,fun id hid hb=>fw (n:=H1.n) (Mc:=some _) (by rw[hn];exact hwk.1) id hid hb,lM hwk.2,by have:=ih hk;rw[Env.get_put]at this;exact this⟩
   ·simp only[Bool.and_eq_true]at hwk
    rw[hc]at hcall ⊢
    rw[hop]
    refine ⟨_,hcall.mono (fun _ h _=>h) ?_,fun id hid hb=>fw (n:=H1.n) (by rw[hn];exact hwk.1) id hid hb,lM (by rw[hn];exact hwk.2)⟩
    rintro v H' ⟨H2,h2,rfl,hk⟩
    rw[<- Env.get_put];exact ih hk
   ·exact (hni hc).elim
  ·rw[hw,if_neg (by simp)]
   rw[<- e1,<- e2]
   exact ih hv
end
theorem i5{a b:Nat}(h:Nat.blt a b=true):a<b:=by rw[Nat.blt_eq]at h;exact h
theorem GH{a b:Nat}(h:a<b):Nat.blt a b=true:=by rw[Nat.blt_eq];exact h
theorem wh{a b:Nat}(h:b<=a):Nat.blt a b=false:=by
 cases hb:Nat.blt a b with
 |false=>rfl
 |true=>have:=i5 hb;omega
theorem pN(l:List (Nat×Value))(t:Nat):(iO l).get t=junk∨∃v,(t,v)∈l/\(iO l).get t=v:=by
 have key:∀(l:List (Nat×Value)) (E:Env),(l.foldl (fun E p=>E.put (some p.1) p.2) E).get t=E.get t∨∃v,(t,v)∈l/\(l.foldl (fun E p=>E.put (some p.1) p.2) E).get t=v:=by
  intro l
  induction l with
  |nil=>intro E;exact .inl rfl
  |cons p l ih =>
   intro E
   rcases ih (E.put (some p.1) p.2) with h|⟨v,h1,h2⟩
   ·rw[List.foldl_cons,h,Env.get_put]
    simp only[put,upd]
    by_cases e:t=p.1
    ·right;subst e;exact ⟨p.2,List.mem_cons_self ..,by simp⟩
    ·left;simp[e]
   ·right;exact ⟨v,List.mem_cons_of_mem _ h1,h2⟩
 rcases key l ⟨fun _=>junk,.leaf⟩ with h|h
 ·left;unfold iO;rw[h];rfl
 ·right;exact h
theorem iC{T:Tm}{σ:Nat->Option Nat}{d:Nat}:∀{l:List (Nat×Value)},iD T σ d l->∀t v,(t,v)∈l->wk (T t) (rn σ d v)
 | [],_,t,v,h=>by cases h
 |(t',v') :: r,h,t,v,hm=>by
  rcases List.mem_cons.1 hm with e|hm
  ·cases e
   have h1:=h.1
   split at h1
   ·exact h1
   ·exact zt h1
  ·exact iC h.2 t v hm
theorem na:∀(lp:List (Nat×List (Nat×Value))) (H:HT) (id:Nat),
  (lp.foldl cx H).n=H.n/\((∃p∈lp,p.1=id/\∃st pe tm N ps as bd,H.get id=some (.loop st pe tm N ps as bd)/\(lp.foldl cx H).get id=some (.loop st pe (iO p.2).get N ps as bd)) ∨
   ((∀p∈lp,p.1=id->∀st pe tm N ps as bd,H.get id≠some (.loop st pe tm N ps as bd))/\(lp.foldl cx H).get id=H.get id)):=by
 intro lp
 induction lp with
 |nil=>intro H id;exact ⟨rfl,.inr ⟨fun _ h=>(by cases h),rfl⟩⟩
 |cons p lp ih =>
  intro H id
  have step:(cx H p).n=H.n/\((p.1=id/\∃st pe tm N ps as bd,H.get id=some (.loop st pe tm N ps as bd)/\(cx H p).get id=some (.loop st pe (iO p.2).get N ps as bd))∨((p.1=id->∀st pe tm N ps as bd,H.get id≠some (.loop st pe tm N ps as bd))/\(cx H p).get id=H.get id)):=by
   unfold cx
   split
   ·rename_i st pe tm N ps as bd hg
    refine ⟨rfl,?_⟩
    by_cases e:p.1=id
    ·left
     refine ⟨e,st,pe,tm,N,ps,as,bd,e ▸ hg,?_⟩
     rw[<- HT.aj,HT.aC,List.getElem?_set,if_pos e]
     have hlt:p.1<H.list.length:=by
      rw[<- HT.aj]at hg
      exact (List.getElem?_eq_some_iff.1 hg).1
     rw[if_pos hlt]
    ·right
     refine ⟨fun h=>absurd h e,?_⟩
     rw[<- HT.aj,HT.aC,List.getElem?_set,if_neg e,HT.aj]
   ·rename_i hn
    exact ⟨rfl,.inr ⟨fun e st pe tm N ps as bd h=>hn st pe tm N ps as bd (e ▸ h),rfl⟩⟩
  obtain ⟨h1,h2⟩:=ih (cx H p) id
  refine ⟨h1.trans step.1,?_⟩
  rcases h2 with ⟨q,q1,q2,st,pe,tm,N,ps,as,bd,q3,q4⟩|⟨q1,q2⟩
  ·left
   refine ⟨q,List.mem_cons_of_mem _ q1,q2,st,pe,?_⟩
   rcases step.2 with ⟨_,st',pe',tm',N',ps',as',bd',s3,s4⟩|⟨_,s4⟩
   ·rw[s4]at q3;cases q3
    exact ⟨tm',N,ps,as,bd,s3,q4⟩
   ·rw[s4]at q3
    exact ⟨tm,N,ps,as,bd,q3,q4⟩
  ·rcases step.2 with ⟨s1,st',pe',tm',N',ps',as',bd',s3,s4⟩|⟨s1,s4⟩
   ·left
    exact ⟨p,List.mem_cons_self ..,s1,st',pe',tm',N',ps',as',bd',s3,by rw[List.foldl_cons,q2,s4]⟩
   ·right
    refine ⟨fun q hq e st pe tm N ps as bd h =>?_,by rw[List.foldl_cons,q2,s4]⟩
    rcases List.mem_cons.1 hq with rfl|hq
    ·exact s1 e st pe tm N ps as bd h
    ·exact q1 q hq e st pe tm N ps as bd (by rw[s4];exact h)
theorem nb{H H0:HT}{σ:Nat->Option Nat}{d:Nat}:∀{lp:List (Nat×List (Nat×Value))},FT H H0 σ d lp->∀p∈lp,
  ∃tm N ps as bd tm',H0.get p.1=some (.loop .ready none tm N ps as bd)/\H.get p.1=some (.loop .ready none tm' N ps as bd)/\iD tm' σ d p.2
 | [],_,p,h=>by cases h
 |(L,sl) :: r,h,p,hm=>by
  rcases List.mem_cons.1 hm with rfl|hm
  ·have h1:=h.1
   split at h1
   ·rename_i tm N ps as bd tm' N' ps' as' bd' g1 g2
    obtain ⟨⟨rfl,rfl,rfl,rfl⟩,h2⟩:=h1
    exact ⟨tm,N,ps,as,bd,tm',g1,g2,h2⟩
   ·exact h1.elim
  ·exact nb h.2 p hm
theorem nc{n0:Nat}{ML:List Nat}{chg:List (Nat×Bool×aa)}:∀{lp:List (Nat×List (Nat×Value))},Ao n0 ML chg lp=true->∀p∈lp,p.1∈ML/\p.1<n0
 | [],_,p,h=>by cases h
 |q :: r,h,p,hm=>by
  unfold Ao at h
  cases h1:jq q.1 ML with
  |false=>rw[h1]at h;cases h
  |true =>
   rw[h1,cond_true]at h
   cases h2:Nat.blt q.1 n0 with
   |false=>rw[h2]at h;cases h
   |true =>
    rw[h2,cond_true]at h
    cases h3:(chg.any fun x=>Nat.beq x.1 q.1) with
    |true=>rw[h3]at h;cases h
    |false =>
     rw[h3,cond_false]at h
     cases h4:(r.any fun x=>Nat.beq x.1 q.1) with
     |true=>rw[h4]at h;cases h
     |false =>
      rw[h4,cond_false]at h
      rcases List.mem_cons.1 hm with rfl|hm
      ·exact ⟨gx h1,i5 h2⟩
      ·exact nc h p hm
theorem u5{id:Nat}{chg:List (Nat×Bool×aa)}(h:jM id chg=true):(∃p∈chg,p.1=id)/\∀p∈chg,p.1=id->p.2.2 = .dead:=by
 unfold jM at h
 cases h1:(chg.any fun p=>Nat.beq p.1 id) with
 |false=>rw[h1]at h;cases h
 |true =>
  rw[h1,cond_true]at h
  rw[List.any_eq_true]at h1
  obtain ⟨p,p1,p2⟩:=h1
  refine ⟨⟨p,p1,Nat.eq_of_beq_eq_true p2⟩,fun q hq e =>?_⟩
  rw[List.all_eq_true]at h
  have:=h q hq
  rw[show Nat.beq q.1 id=true by rw[e];exact Nat.beq_refl _,cond_true]at this
  split at this
  ·assumption
  ·cases this
theorem jl:∀(chg:List (Nat×Bool×aa)) (H:HT) (id:Nat),(∀p∈chg,p.1<H.n) ->
  (chg.foldl (fun H p=>H.set p.1 p.2.2) H).n=H.n/\((∃p∈chg,p.1=id/\(chg.foldl (fun H p=>H.set p.1 p.2.2) H).get id=some p.2.2)∨((∀p∈chg,p.1≠id)/\(chg.foldl (fun H p=>H.set p.1 p.2.2) H).get id=H.get id)):=by
 intro chg
 induction chg with
 |nil=>intro H id _;exact ⟨rfl,.inr ⟨fun _ h=>(by cases h),rfl⟩⟩
 |cons p chg ih =>
  intro H id hlt
  obtain ⟨h1,h2⟩:=ih (H.set p.1 p.2.2) id (fun q hq=>hlt q (List.mem_cons_of_mem _ hq))
  refine ⟨h1,?_⟩
  rcases h2 with ⟨q,q1,q2,q3⟩|⟨q1,q2⟩
  ·exact .inl ⟨q,List.mem_cons_of_mem _ q1,q2,q3⟩
  ·rw[List.foldl_cons,q2,<- HT.aj,HT.aC,List.getElem?_set]
   by_cases e:p.1=id
   ·left
    refine ⟨p,List.mem_cons_self ..,e,?_⟩
    rw[if_pos e,if_pos (by rw[HT.length];exact e ▸ hlt p (List.mem_cons_self ..))]
   ·right
    rw[if_neg e,HT.aj]
    exact ⟨fun q hq=>by rcases List.mem_cons.1 hq with rfl|hq;exact e;exact q1 q hq,rfl⟩
theorem mi:∀(new:List (Bool×aa)) (H:HT) (id:Nat),
  (new.foldl (fun H p=>H.push p.2) H).n=H.n+new.length/\(id<H.n->(new.foldl (fun H p=>H.push p.2) H).get id=H.get id) /\
  (∀o,H.n<=id->(new.foldl (fun H p=>H.push p.2) H).get id=some o->∃p,new[id-H.n]?=some p/\p.2=o):=by
 intro new
 induction new with
 |nil =>
  intro H id
  refine ⟨rfl,fun _=>rfl,fun o h1 h2 =>?_⟩
  have h2':H.get id=some o:=h2
  rw[<- HT.aj,List.getElem?_eq_none (by rw[HT.length];exact h1)]at h2'
  cases h2'
 |cons p new ih =>
  intro H id
  obtain ⟨h1,h2,h3⟩:=ih (H.push p.2) id
  have hpn:(H.push p.2).n=H.n+1:=rfl
  have hget:∀i,i<=H.n->(H.push p.2).get i=if i=H.n then some p.2 else H.get i:=by
   intro i hi
   rw[<- HT.aj,HT.aW,<- HT.aj]
   by_cases e:i=H.n
   ·rw[if_pos e,List.getElem?_append_right (by rw[HT.length];omega),HT.length,e];simp
   ·rw[if_neg e,List.getElem?_append_left (by rw[HT.length];omega)]
  refine ⟨by rw[List.foldl_cons,h1,hpn,List.length_cons];omega,fun hlt =>?_,fun o hge ho =>?_⟩
  ·rw[List.foldl_cons,h2 (by rw[hpn];omega),hget id (by omega),if_neg (by omega)]
  ·rw[List.foldl_cons]at ho
   by_cases e:id=H.n
   ·rw[h2 (by rw[hpn];omega),hget id (by omega),if_pos e]at ho
    cases ho
    exact ⟨p,by rw[e];simp,rfl⟩
   ·obtain ⟨q,q1,q2⟩:=h3 o (by rw[hpn];omega) ho
    refine ⟨q,?_,q2⟩
    rw[hpn]at q1
    have:id-H.n=(id-(H.n+1))+1:=by omega
    rw[this,List.getElem?_cons_succ];exact q1
theorem lB{n0:Nat}{ML:List Nat}:∀{chg:List (Nat×Bool×aa)},pU n0 ML chg=true->∀p∈chg,p.1∈ML/\p.1<n0
 | [],_,p,h=>by cases h
 |q :: r,h,p,hm=>by
  unfold pU at h
  cases h1:jq q.1 ML with
  |false=>rw[h1]at h;cases h
  |true =>
   rw[h1,cond_true]at h
   cases h2:Nat.blt q.1 n0 with
   |false=>rw[h2]at h;cases h
   |true =>
    rw[h2,cond_true]at h
    rcases List.mem_cons.1 hm with rfl|hm
    ·exact ⟨gx h1,i5 h2⟩
    ·exact lB h p hm
theorem lE{chg:List (Nat×Bool×aa)}{lp:List (Nat×List (Nat×Value))}:∀{ML:List Nat},allIn chg lp ML=true->∀id∈ML,(∃p∈chg,p.1=id)∨(∃p∈lp,p.1=id)
 | [],_,id,h=>by cases h
 |i :: r,h,id,hm=>by
  unfold allIn at h
  have one:∀{β:Type} (l:List (Nat×β)),(l.any fun p=>Nat.beq p.1 i)=true->∃p∈l,p.1=i:=by
   intro β l h1
   rw[List.any_eq_true]at h1
   obtain ⟨p,p1,p2⟩:=h1
   exact ⟨p,p1,Nat.eq_of_beq_eq_true p2⟩
  cases h1:(chg.any fun p=>Nat.beq p.1 i) with
  |false =>
   rw[h1,cond_false]at h
   cases h2:(lp.any fun p=>Nat.beq p.1 i) with
   |false=>rw[h2]at h;cases h
   |true =>
    rw[h2,cond_true]at h
    rcases List.mem_cons.1 hm with rfl|hm
    ·exact .inr (one _ h2)
    ·exact lE h id hm
  |true =>
   rw[h1,cond_true,cond_true]at h
   rcases List.mem_cons.1 hm with rfl|hm
   ·exact .inl (one _ h1)
   ·exact lE h id hm
theorem pB{id b:Nat}:∀{σ:List (Nat×Nat)},xd id σ=some b->(id,b)∈σ
 | [],h=>by cases h
 |(x,y) :: r,h=>by
  unfold xd at h
  cases h1:Nat.beq id x with
  |true=>rw[h1,cond_true]at h;cases h;rw[Nat.eq_of_beq_eq_true h1];exact List.mem_cons_self ..
  |false=>rw[h1,cond_false]at h;exact List.mem_cons_of_mem _ (pB h)
theorem mV{k:Nat×Nat}:∀{σ:List (Nat×Nat)},sP k σ=true->∀q∈σ,k.1≠q.1/\k.2≠q.2
 | [],_,q,h=>by cases h
 |p :: r,h,q,hm=>by
  unfold sP at h
  cases h1:Nat.beq k.1 p.1 with
  |true=>rw[h1]at h;cases h
  |false =>
   rw[h1,cond_false]at h
   cases h2:Nat.beq k.2 p.2 with
   |true=>rw[h2]at h;cases h
   |false =>
    rw[h2,cond_false]at h
    rcases List.mem_cons.1 hm with rfl|hm
    ·exact ⟨fun e=>(by rw[e,Nat.beq_refl]at h1;cases h1),fun e=>(by rw[e,Nat.beq_refl]at h2;cases h2)⟩
    ·exact mV h q hm
theorem pi{n0 n:Nat}{chg:List (Nat×Bool×aa)}:∀{σ:List (Nat×Nat)},qp n0 n chg σ=true->(∀p∈σ,n0<=p.1/\p.1<n/\(n0<=p.2∨jM p.2 chg=true))/\(∀p∈σ,∀q∈σ,p.2=q.2->p.1=q.1)
 | [],_=>⟨fun _ h=>(by cases h),fun _ h=>(by cases h)⟩
 |p :: r,h=>by
  unfold qp at h
  cases h1:Nat.ble n0 p.1 with
  |false=>rw[h1]at h;cases h
  |true =>
  rw[h1,cond_true]at h
  cases h2:Nat.blt p.1 n with
  |false=>rw[h2]at h;cases h
  |true =>
  rw[h2,cond_true]at h
  cases h3:(cond (Nat.ble n0 p.2) true (jM p.2 chg)) with
  |false=>rw[h3]at h;cases h
  |true =>
  rw[h3,cond_true]at h
  have h3':n0<=p.2∨jM p.2 chg=true:=by
   cases h5:Nat.ble n0 p.2 with
   |true=>exact .inl (Nat.le_of_ble_eq_true h5)
   |false=>rw[h5,cond_false]at h3;exact .inr h3
  cases h4:sP p r with
  |false=>rw[h4]at h;cases h
  |true =>
  rw[h4,cond_true]at h
  obtain ⟨k1,k2⟩:=pi h
  have hn:=mV h4
  refine ⟨fun q hq =>?_,fun a ha b hb e =>?_⟩
  ·rcases List.mem_cons.1 hq with rfl|hq
   ·exact ⟨Nat.le_of_ble_eq_true h1,i5 h2,h3'⟩
   ·exact k1 q hq
  ·rcases List.mem_cons.1 ha with ea|ha'
   ·rcases List.mem_cons.1 hb with eb|hb'
    ·rw[ea,eb]
    ·exact absurd (by rw[<- ea];exact e) (hn b hb').2
   ·rcases List.mem_cons.1 hb with eb|hb'
    ·exact absurd (by rw[<- eb];exact e.symm) (hn a ha').2
    ·exact k2 a ha' b hb' e
theorem pS{H:HT}{n0 d:Nat}{σ:Nat->Option Nat}:∀{chg:List (Nat×Bool×aa)},pT H n0 σ d chg->∀p∈chg,pw H n0 σ d p.1 p.2.1 p.2.2
 | [],_,p,h=>by cases h
 |(id,pl,o) :: r,h,p,hm=>by
  rcases List.mem_cons.1 hm with rfl|hm
  ·exact h.1
  ·exact pS h.2 p hm
theorem py{H:HT}{n0 d:Nat}{σ:Nat->Option Nat}:∀{new:List (Bool×aa)} {id:Nat},lL H n0 σ d id new->∀i p,new[i]?=some p->pw H n0 σ d (id+i) p.1 p.2
 | [],_,_,i,p,h=>by simp at h
 |(pl,o) :: r,id,h,i,p,hm=>by
  cases i with
  |zero=>simp at hm;subst hm;exact h.1
  |succ i =>
   have:=py h.2 i p (by simpa using hm)
   have e:Nat.succ id+i=id+(i+1):=by omega
   rw[e]at this;exact this
theorem mU{H:HT}{n0 d:Nat}{σ:Nat->Option Nat}{id id':Nat}{pl:Bool}{o:aa}(hold:∀i,i<n0->σ i=some i)(h:pw H n0 σ d id pl o)(hs:σ id=some id') :
  o = .dead∨(∃o',H.list[id']?=some o'/\o'.owned=o.owned/\o'.alive=o.alive/\(∀(ρ ρ':Ren) (r:RI) (w:World),ol σ ρ ρ'->aI ρ' r o' w->aI ρ r o w)/\(∀z cs,o = .fam z cs->∃cs',o' = .fam z cs'/\cs'.length=cs.length/\(∀(i:Nat) (v v':Value),cs[i]?=some v->cs'[i]?=some v'->∀(ρ ρ':Ren) (x:Value),ol σ ρ ρ'->VR ρ' v' x->VR ρ v x)/\(z=0->i9 cs cs'))):=by
 have main:∀o:aa,(rno σ d o = .dead->o = .dead)->(match σ id with|some id'=>cond pl (H.get id'=some o/\cu n0 o=true) (match H.get id' with|some o'=>wkO o' (rno σ d o)|none=>False)|none=>True) ->
   ∃o',H.list[id']?=some o'/\o'.owned=o.owned/\o'.alive=o.alive/\(∀(ρ ρ':Ren) (r:RI) (w:World),ol σ ρ ρ'->aI ρ' r o' w->aI ρ r o w)/\(∀z cs,o = .fam z cs->∃cs',o' = .fam z cs'/\cs'.length=cs.length/\(∀(i:Nat) (v v':Value),cs[i]?=some v->cs'[i]?=some v'->∀(ρ ρ':Ren) (x:Value),ol σ ρ ρ'->VR ρ' v' x->VR ρ v x)/\(z=0->i9 cs cs')):=by
  intro o hd h
  rw[hs]at h
  simp only at h
  cases pl with
  |true=>exact ⟨o,by rw[HT.aj];exact h.1,rfl,rfl,fun ρ ρ' r w hS hr=>oa (fun i r hi a=>hS.f i i r (hold i hi) a) hS.m h.2 hr,fun z cs e=>⟨cs,e,rfl,fun i v v' a b ρ ρ' x hS hv=>(by
    rw[a]at b;cases b
    have hb:=h.2
    rw[e]at hb
    simp only[cu,List.all_eq_true]at hb
    exact aH (fun i r hi a=>hS.f i i r (hold i hi) a) hS.m (hb v (List.mem_of_getElem? a)) hv),fun _=>ke cs⟩⟩
  |false =>
   obtain ⟨a,b⟩:=kU σ d o hd
   rw[cond_false]at h
   split at h
   ·rename_i o2 hg
    exact ⟨o2,by rw[HT.aj];exact hg,h.1.symm.trans a,h.2.1.symm.trans b,fun ρ ρ' r w hS hr=>ja hS.f hS.m hS.g (h.2.2.1 _ _ _ hr) hd,fun z cs e=>by
     obtain ⟨cs0,e0,hl,hw,ht⟩:=h.2.2.2 z (cs.map (rn σ d)) (by rw[e];rfl)
     refine ⟨cs0,e0,by rw[hl,List.length_map],fun i v v' a b ρ ρ' x hS hv=>gq hS.f hS.m hS.g d (hw i v' (rn σ d v) b (by rw[List.getElem?_map,a];rfl) _ _ hv),fun hz k n hk =>?_⟩
     have:=ht hz k n hk
     rw[List.getElem?_map]at this
     obtain ⟨v,e1,e2⟩:=Option.map_eq_some_iff.1 this
     rw[e1,FD e2]⟩
   ·exact h.elim
 cases o with
 |dead=>exact .inl rfl
 |loop _ _ _ _ _ _ _=>exact h.elim
 |cells own z cs=>exact .inr (main _ (by intro h;cases h) h)
 |map es=>exact .inr (main _ (by intro h;cases h) h)
 |iter m n s =>
  unfold pw at h
  rw[hs]at h
  exact .inr ⟨.iter m n s,by rw[HT.aj];exact h.1,rfl,rfl,fun ρ ρ' r w hS hr=>oa (fun i r hi a=>hS.f i i r (hold i hi) a) hS.m h.2 hr,fun z cs e=>by cases e⟩
 |fam z cs=>exact .inr (main _ (by intro h;cases h) h)
theorem eP{N d:Nat}{E:Env}{H H0:HT}{ML:List Nat}{σ:List (Nat×Nat)}{slots:List (Nat×Value)}{chg:List (Nat×Bool×aa)}{new:List (Bool×aa)}{lp:List (Nat×List (Nat×Value))}(h:jU N E H H0 d ML σ slots chg new lp) :
  Emb H0.list ML N (sg H0.n σ) d (iO slots).get (fK H0 chg new lp).list E.get H.list:=by
 obtain ⟨h1,h2,h3,h4,h5⟩:=h
 simp only[Bool.and_eq_true]at h1
 obtain ⟨k1,k2,k2',k3⟩:=h1
 obtain ⟨s1,s2⟩:=pi k1
 have hc:=lB k2
 have hl:=nc k2'
 have ln:=(na lp H0 0).1
 have hlt:∀p∈chg,p.1<(lp.foldl cx H0).n:=fun p hp=>by rw[ln];exact (hc p hp).2
 have hcn:=(jl chg (lp.foldl cx H0) 0 hlt).1
 rw[ln]at hcn
 have hn:(fK H0 chg new lp).n=H0.n+new.length:=by
  unfold fK
  rw[(mi new _ 0).1,hcn]
 have hold:∀id,id<H0.n->sg H0.n σ id=some id:=fun id hid=>by unfold sg;rw[GH hid];rfl
 have hnew:∀id id',¬ id<H0.n->sg H0.n σ id=some id'->(id,id')∈σ:=fun id id' hid hs=>by
  unfold sg at hs;rw[wh (by omega),cond_false]at hs;exact pB hs
 have hget:∀id,id<H0.n->(fK H0 chg new lp).get id=(chg.foldl (fun H p=>H.set p.1 p.2.2) (lp.foldl cx H0)).get id:=fun id hid=>by
  unfold fK
  exact (mi new _ id).2.1 (by rw[hcn];exact hid)
 have Ba:∀id o,id<H0.n->jM id chg=true->(fK H0 chg new lp).get id=some o->o = .dead:=by
  intro id o hid hm ho
  obtain ⟨⟨p,p1,p2⟩,p3⟩:=u5 hm
  rw[hget id hid]at ho
  rcases (jl chg (lp.foldl cx H0) id hlt).2 with ⟨q,q1,q2,q3⟩|⟨q1,_⟩
  ·rw[q3]at ho;cases ho;exact p3 q q1 q2
  ·exact absurd p2 (q1 p p1)
 refine ⟨by rw[HT.length,HT.length,hn];omega,fun id hid=>hold id (by rwa [HT.length]at hid),fun id id' hs =>?_,fun i1 i2 i' o1 o2 e1 e2 g1 g2 a1 a2 =>?_,fun t _ =>?_,fun id hid hm =>?_,fun id id' o hs hc2 ho =>?_⟩
 ·rw[HT.length,hn]
  by_cases hid:id<H0.n
  ·omega
  ·have hp:=(s1 _ (hnew id id' hid hs)).2.1
   exact hp
 ·rw[HT.aj]at g1 g2
  by_cases a:i1<H0.n
  ·rw[hold i1 a]at e1
   cases e1
   by_cases b:i2<H0.n
   ·rw[hold i2 b]at e2;cases e2;rfl
   ·rcases (s1 _ (hnew _ _ b e2)).2.2 with h|h
    ·simp at h;omega
    ·rw[Ba _ _ a h g1]at a1;cases a1
  ·by_cases b:i2<H0.n
   ·rw[hold i2 b]at e2;cases e2
    rcases (s1 _ (hnew _ _ a e1)).2.2 with h|h
    ·simp at h;omega
    ·rw[Ba _ _ b h g2]at a2;cases a2
   ·exact s2 _ (hnew _ _ a e1) _ (hnew _ _ b e2) rfl
 ·rcases pN slots t with h|⟨v,m,h⟩
  ·exact .inl h
  ·rw[h];exact .inr (iC h2 t v m)
 ·rw[HT.length]at hid
  rw[HT.aj,HT.aj,hget id hid]
  rcases (jl chg (lp.foldl cx H0) id hlt).2 with ⟨p,p1,p2,_⟩|⟨_,q⟩
  ·exact absurd (p2 ▸ (hc p p1).1) hm
  ·rw[q]
   rcases (na lp H0 id).2 with ⟨p,p1,p2,_⟩|⟨_,q⟩
   ·exact absurd (p2 ▸ (hl p p1).1) hm
   ·exact q
 ·rw[HT.length]at hc2
  rw[HT.aj]at ho
  by_cases hid:id<H0.n
  ·have hm:id∈ML:=by rcases hc2 with h|h;omega;exact h
   rw[hget id hid]at ho
   rcases (jl chg (lp.foldl cx H0) id hlt).2 with ⟨q,q1,q2,q3⟩|⟨q1,q4⟩
   ·rw[q3]at ho;cases ho
    have:=pS h3 q q1
    rw[q2]at this
    exact mU hold this hs
   ·rcases lE k3 id hm with ⟨p,p1,p2⟩|⟨p,p1,p2⟩
    ·exact absurd p2 (q1 p p1)
    ·rw[q4]at ho
     obtain ⟨tm,N',ps,as,bd,tm',r1,r2,r3⟩:=nb h5 p p1
     rw[p2]at r1 r2
     rcases (na lp H0 id).2 with ⟨q,w1,w2,st,pe,tm2,N2,ps2,as2,bd2,w3,w4⟩|⟨w1,_⟩
     ·rw[r1]at w3;cases w3
      rw[w4]at ho;cases ho
      obtain ⟨_,N3,ps3,as3,bd3,tm3,y1,y2,y3⟩:=nb h5 q w1
      rw[w2]at y1 y2
      rw[r1]at y1;cases y1
      rw[hold id hid]at hs;cases hs
      refine .inr ⟨.loop .ready none tm3 N' ps as bd,by rw[HT.aj];exact y2,rfl,rfl,fun ρ ρ' r w hS hr =>?_,fun z cs h=>by cases h⟩
      obtain ⟨z1,l,z2,z3,z4,z5,z6,z7,z8,z9⟩:=hr
      refine ⟨z1,l,z2,z3,z4,z5,z6,z7,z8,fun t ht =>?_⟩
      rcases pN q.2 t with h|⟨v,m,h⟩
      ·rw[h];exact .junk _
      ·rw[h];exact gq hS.f hS.m hS.g d (iC y3 t v m _ _ (z9 t ht))
     ·exact absurd r1 (w1 p p1 p2 _ _ _ _ _ _ _)
  ·unfold fK at ho
   obtain ⟨p,p1,p2⟩:=(mi new (chg.foldl (fun H p=>H.set p.1 p.2.2) (lp.foldl cx H0)) id).2.2 o (by rw[hcn];omega) ho
   rw[hcn]at p1
   have:=py h4 _ p p1
   rw[show H0.n+(id-H0.n)=id by omega,p2]at this
   exact mU hold this hs
theorem KW.wb{ro:Option Nat}{N base:Nat}{M:List Nat}{T:Tm}{H:Heap}{Q:Exit->Tm->Heap->Prop}{x y:Code}{b:Bool}(h:KW P ro N base M (if b then x else y) T H Q):KW P ro N base M (.cond (.const (.bool b)) x y) T H Q:=by
 intro B ρ w a n0 h1 h2 h3 h4 h5
 exact wpIn_cond (t:=b) rfl (h B ρ w a n0 h1 h2 h3 h4 h5)
section
variable {call:l7} {app:ov} {dm:Value->MS}
def Fin(K:Exit->Env->HT->Hint->Prop):Exit->Tm->Heap->Prop:=fun e T H => ∃E2 H2 h2,T=E2.get/\H=H2.list/\K e E2 H2 h2
theorem sa{K:Exit->Env->HT->Hint->Prop}{E:Env}{H:HT}{h:Hint}{pe:Option Code}{st:LoopState}(hk:zE K E H h pe st) :
  st ≠ .busy/\qm K E H h pe:=by
 cases st
 ·exact ⟨(fun h=>by cases h),hk⟩
 ·exact hk.elim
 ·exact ⟨(fun h=>by cases h),hk⟩
 ·exact ⟨(fun h=>by cases h),hk⟩
theorem rX{ro:Option Nat}{N base:Nat}{M:List Nat}{b:Code}{body:Env->HT->Hint->(Exit->Env->HT->Hint->Prop)->Prop}
  (hb:∀{E:Env} {H:HT} {h:Hint} {K:Exit->Env->HT->Hint->Prop},body E H h K->KW P ro N base M b E.get H.list (Fin K)) {K:Exit->Env->HT->Hint->Prop} {n:Nat} {E:Env} {H:HT} {h:Hint} (hv:wF body K n E H h) :
  KW P ro N base M (.loop b) E.get H.list (Fin K):=by
 refine KW.loop (fun n T H' => ∃E1 H1 h1,T=E1.get/\H'=H1.list/\wF body K n E1 H1 h1) n ⟨E,H,h,rfl,rfl,hv⟩ ?_
 rintro n T1 H1 _ ⟨E1,H2,h1,rfl,rfl,hv⟩
 cases n with
 |zero=>exact hv.elim
 |succ n =>
  refine (hb hv).mono ?_
  rintro e T3 H3 ⟨E4,H4,h4,rfl,rfl,hk⟩
  cases e with
  |normal=>exact ⟨n,Nat.lt_succ_self n,E4,H4,h4,rfl,rfl,hk⟩
  |_=>exact ⟨E4,H4,h4,rfl,rfl,hk⟩
theorem lG{α:Type}{N d:Nat}{H:HT}{ML:List Nat}{slots:α->List (Nat×Value)}{chg:α->List (Nat×Bool×aa)}{new:α->List (Bool×aa)}{lp:α->List (Nat×List (Nat×Value))}{I:α->Prop}
  {K:Exit->Env->HT->Hint->Prop} {next:α->Hint} (hn:∀x,I x->K .normal (iO (slots x)) (fK H (chg x) (new x) (lp x)) (next x)) (e:Exit) (T2:Tm) (H2:Heap)
  (h:Fin (fun e E' H' h'=>wG N H d ML slots chg new lp I (fun e'=>K e') e E' H' h') e T2 H2):kd (fun T2 H2 => ∃σ d T3 H3,Emb H.list ML N σ d T3 H3 T2 H2/\Fin K .normal T3 H3) (Fin K) e T2 H2:=by
 obtain ⟨E2,H2',h2,rfl,rfl,hk⟩:=h
 cases e with
 |normal =>
  simp only[kd]
  simp only[wG]at hk
  obtain ⟨E3,H3,h3,e3,e4,hk⟩:=bQ hk
  rw[<- e3,<- e4]
  cases h3 with
  |again σ =>
   obtain ⟨x,hx,hh⟩:=hk
   exact ⟨_,d,_,_,eP hh,_,_,next x,rfl,rfl,hn x hx⟩
  |_=>exact hk.elim
 |_=>exact ⟨E2,H2',h2,rfl,rfl,hk⟩
theorem uP{ro:Option Nat}{N base:Nat}{M:MS}{c:Code}{Q:Exit->Tm->Heap->Prop}{h:Hint}{E:Env}{H:HT}{k:Env->HT->Hint->Prop}(hv:zy base M h E H k)(hk:∀E' H' h',k E' H' h'->KW P ro N base (M.list base) c E'.get H'.list Q) :
  KW P ro N base (M.list base) c E.get H.list Q:=by
 obtain ⟨E2,H2,h2,g,hv⟩:=mB (P:=P) hv
 exact KW.ghost g (hk _ _ _ hv)
theorem ix(hcall:jo P call)(happ:j8 P app){ro:Option Nat}{N rounds:Nat}{inr mixed:Bool}(hro:inr=false->ro=none)(fj:mixed=true->P.follows .mixedOrders=true) :
  ∀{c:Code} {base:Nat} {M:MS} {E:Env} {H:HT} {h:Hint} {K:Exit->Env->HT->Hint->Prop},codeOk N P.globals.size mixed c=true->cI P call app dm N rounds inr c base M E H h K->KW P ro N base (M.list base) c E.get H.list (Fin K):=by
 intro c
 induction c with
 |region i ops draw =>
  intro base M E H h K hok hv
  simp only[codeOk,Bool.and_eq_true]at hok
  simp only[cI]at hv
  refine uP hv fun E H h hv =>?_
  cases draw
  ·simp only[cond_false]at hv
   have:=KW.region (P:=P) (ro:=ro) (id:=i) (l:=ops.toList) (Q:=Fin K) hok.1 (uO happ hv)
   simpa using this
  ·simp only[cond_true]at hv
   simp only[Bool.not_true,Bool.false_or,Bool.and_eq_true]at hok
   have:=KW.draw (P:=P) (ro:=ro) (id:=i) (l:=ops.toList) (Q:=Fin K) (fj hok.2.1) hok.1 _ hok.2.2 (rV happ hv)
   simpa using this
 |skip=>intro base M E H h K hok hv;exact KW.skip ⟨E,H,h,rfl,rfl,hv⟩
 |label=>intro base M E H h K hok hv;exact KW.label ⟨E,H,h,rfl,rfl,hv⟩
 |ret=>intro base M E H h K hok hv;exact KW.ret ⟨E,H,h,rfl,rfl,hv⟩
 |exit=>intro base M E H h K hok hv;exact KW.exit ⟨E,H,h,rfl,rfl,hv⟩
 |seq a b iha ihb =>
  intro base M E H h K hok hv
  simp only[codeOk,Bool.and_eq_true]at hok
  simp only[cI]at hv
  refine KW.seq ((iha hok.1 hv).mono ?_)
  rintro e T H' ⟨E2,H2,h2,rfl,rfl,hk⟩
  cases e with
  |normal=>exact ihb hok.2 hk
  |_=>exact ⟨E2,H2,h2,rfl,rfl,hk⟩
 |block i b ih =>
  intro base M E H h K hok hv
  simp only[codeOk]at hok
  simp only[cI]at hv
  refine KW.block ((ih hok hv).mono ?_)
  rintro e T H' ⟨E2,H2,h2,rfl,rfl,hk⟩
  cases e with
  |exit id' =>
   simp only[nH]
   cases hb:Nat.beq id' i with
   |true=>simp only[hb,cond_true]at hk;rw[if_pos (Nat.eq_of_beq_eq_true hb)];exact ⟨E2,H2,h2,rfl,rfl,hk⟩
   |false =>
    simp only[hb,cond_false]at hk
    rw[if_neg (fun he=>by subst he;rw[Nat.beq_refl]at hb;cases hb)]
    exact ⟨E2,H2,h2,rfl,rfl,hk⟩
  |_=>exact ⟨E2,H2,h2,rfl,rfl,hk⟩
 |scope b ih =>
  intro base M E H h K hok hv
  simp only[codeOk]at hok
  simp only[cI]at hv
  refine KW.scope ((ih hok hv).mono ?_)
  rintro e T H' ⟨E2,H2,h2,rfl,rfl,hk⟩
  cases e with
  |goto l=>exact hk.elim
  |_=>exact ⟨E2,H2,h2,rfl,rfl,hk⟩
 |cond x a b iha ihb =>
  intro base M E H h K hok hv
  simp only[codeOk,Bool.and_eq_true]at hok
  cases x with
  |tmp t =>
   simp only[cI]at hv
   have ht:t<N:=by simpa using hok.1.1
   obtain ⟨E0,H0,h0,e1,e2,hv⟩:=bQ hv
   rw[<- e1,<- e2]
   split at hv <;> try (exact hv.elim)
   rename_i c hc
   refine KW.v9 ht hc (fun hb =>?_) (fun hb =>?_)
   ·subst hb
    split at hv
    ·have:=iha hok.1.2 (hv.1 rfl)
     rwa [Env.dJ E0 t _ hc]at this
    ·obtain ⟨hw,ha,_,hn⟩:=hv
     have:=iha hok.1.2 (ha rfl)
     rw[Env.dJ E0 t _ hc]at this
     refine KW.renamed (fun id hid hb=>bT hw id hid hb) ?_
     rw[HT.length]
     exact this.mono (lG hn)
    ·split at hv <;> try (exact hv.elim)
     exact iha hok.1.2 hv
   ·subst hb
    split at hv
    ·have:=ihb hok.2 (hv.2 rfl)
     rwa [Env.dJ E0 t _ hc]at this
    ·obtain ⟨hw,_,ha,hn⟩:=hv
     have:=ihb hok.2 (ha rfl)
     rw[Env.dJ E0 t _ hc]at this
     refine KW.renamed (fun id hid hb=>bT hw id hid hb) ?_
     rw[HT.length]
     exact this.mono (lG hn)
    ·split at hv <;> try (exact hv.elim)
     exact ihb hok.2 hv
  |const v =>
   cases v with
   |bool b =>
    refine KW.wb ?_
    cases b
    ·exact ihb hok.2 hv
    ·exact iha hok.1.2 hv
   |_=>simp[cI]at hv
  |_=>simp[cI]at hv
 |loop b ih =>
  intro base M E H h K hok hv
  simp only[codeOk]at hok
  simp only[cI]at hv
  obtain ⟨E0,H0,h0,e1,e2,hv⟩:=bQ hv
  rw[<- e1,<- e2]
  split at hv
  ·rename_i d α x0 σ0 ML slots chg new lp I μ hb
   obtain ⟨hw,hI0,hh0,hch,Gm⟩:=hv
   refine KW.HK (ML:=ML) (fun id hid hbs=>bT hw id hid hbs) (fun n T H' => ∃x,I x/\μ x=n/\T=(iO (slots x)).get/\H'=(fK H0 (chg x) (new x) (lp x)).list) ⟨μ x0,_,d,_,_,⟨x0,hI0,rfl,rfl,rfl⟩,eP hh0⟩ ?_ ?_
   ·rintro n T1 H1 ⟨x,hx,_,_,rfl⟩ id hid hm
    rw[HT.length]at hid
    have hx2:=hch x
    rw[Bool.and_eq_true]at hx2
    have hc:=lB hx2.1
    have hl:=nc hx2.2
    have ln:=(na (lp x) H0 0).1
    have hlt:∀p∈chg x,p.1<((lp x).foldl cx H0).n:=fun p hp=>by rw[ln];exact (hc p hp).2
    rw[HT.aj,HT.aj]
    unfold fK
    rw[(mi (new x) _ id).2.1 (by rw[(jl (chg x) _ 0 hlt).1,ln];exact hid)]
    rcases (jl (chg x) _ id hlt).2 with ⟨p,p1,p2,_⟩|⟨_,q⟩
    ·exact absurd (p2 ▸ (hc p p1).1) hm
    ·rw[q]
     rcases (na (lp x) H0 id).2 with ⟨p,p1,p2,_⟩|⟨_,q⟩
     ·exact absurd (p2 ▸ (hl p p1).1) hm
     ·exact q
   ·rintro n T1 H1 hlen ⟨x,hx,hn,rfl,rfl⟩
    rw[HT.length]
    have:=ih hok (Gm x hx)
    refine this.mono ?_
    rintro e T H' ⟨E2,H2,h2,rfl,rfl,hk⟩
    cases e with
    |normal =>
     simp only[kd]
     obtain ⟨E3,H3,h3,e3,e4,hk⟩:=bQ hk
     rw[<- e3,<- e4]
     cases h3 with
     |again σ =>
      obtain ⟨x',hx',hlt,hh⟩:=hk
      exact ⟨μ x',_,d,_,_,by omega,⟨x',hx',rfl,rfl,rfl⟩,eP hh⟩
     |_=>exact hk.elim
    |_=>exact ⟨E2,H2,h2,rfl,rfl,hk⟩
  ·exact rX (fun hv=>ih hok hv) hv
 |rangeFunc g ps a b iha ihb =>
  intro base M E H h K hok hv
  cases g with
  |tmp t =>
   simp only[codeOk,Bool.and_eq_true]at hok
   have ht:t<N:=by simpa using hok.1.1.1
   simp only[cI]at hv
   obtain ⟨E0,H0,h0,e1,e2,hv⟩:=bQ hv
   rw[<- e1,<- e2]
   cases inr with
   |true=>exact hv.elim
   |false =>
    rw[cond_false]at hv
    have hr:=hro rfl
    subst hr
    split at hv <;> try (exact hv.elim)
    rename_i gf first cap hg
    split at hv <;> try (exact hv.elim)
    rename_i Mc h' hmc
    split at hv <;> try (exact hv.elim)
    rename_i hw
    simp only[Bool.and_eq_true]at hw
    obtain ⟨hw,hbn⟩:=hw
    have hc:=hcall _ _ _ _ _ _ hv
    rw[HT.aW]at hc
    refine KW.rangeFunc (Mc:=MS.list (MS.also H0.n Mc) (H0.push (.loop .ready none E0.get N ps a b)).n) ht hg ?_ ?_
    ·rw[HT.length]
     refine hc.mono (fun _ h _=>h) ?_
     rintro v H' ⟨H2,h2,rfl,hk⟩
     split at hk <;> try (exact hk.elim)
     rename_i st pe tm' N' ps' as' bd' hl
     rw[HT.aj]
     obtain ⟨hne,hk⟩:=sa hk
     refine ⟨_,_,_,_,_,_,_,hl,hne,?_⟩
     cases pe with
     |none=>exact ⟨_,_,_,rfl,(HT.aC ..).symm,hk⟩
     |some c =>
      simp only
      rw[<- HT.aC]
      cases c <;> simp only[qm,Br]at hk
      ·exact KW.exit ⟨_,_,_,rfl,rfl,hk⟩
      ·exact KW.ret ⟨_,_,_,rfl,rfl,hk⟩
    ·intro id hid hb
     cases Mc with
     |none =>
      cases M with
      |none=>exact List.mem_range.2 hb
      |some l=>cases hw
     |some l =>
      have tX:id∈(H0.n :: l):=hid
      rcases List.mem_cons.1 tX with rfl|h1
      ·have:=Nat.le_of_ble_eq_true hbn;omega
      ·exact fw (n:=H0.n) (Mc:=some l) hw id h1 hb
  |_=>simp[codeOk]at hok
 |_=>intro base M E H h K hok;simp[codeOk]at hok
end
end
end Go.K
namespace Go.K
noncomputable section
variable {P:Program}
section
variable {call:l7} {app:ov} {dm:Value->MS}
theorem qj(hcall:jo P call)(happ:j8 P app){rounds:Nat}{mixed:Bool}(fj:mixed=true->P.follows .mixedOrders=true):wn P (uN P call app dm rounds mixed):=by
 intro L args H M h K hv
 unfold uN at hv
 split at hv <;> try (exact hv.elim)
 rename_i pe tm N ps as bd hL
 split at hv <;> try (exact hv.elim)
 rename_i hc
 simp only[Bool.and_eq_true]at hc
 obtain ⟨c1,c2,c3,c4,c5⟩:=hc
 have hLM:L∈M.list H.n:=by
  cases M with
  |none=>exact List.mem_range.2 (i5 c5)
  |some l=>exact gx c5
 refine gP.yield (by rw[HT.aj];exact hL) (Nat.eq_of_beq_eq_true c1) (fun p hp=>by rw[List.all_eq_true]at c2;simpa using c2 p hp) hLM (fun ro =>?_)
 rw[HT.length]
 refine (ix (ro:=some ro) hcall happ (fun h=>by cases h) fj c3 hv).mono ?_
 rintro e T H' ⟨E1,H1,h1,rfl,rfl,hk⟩
 cases e with
 |normal =>
  simp only[kd]
  simp only at hk
  split at hk <;> try (exact hk.elim)
  rename_i pe1 tm1 N1 ps1 as1 bd1 hL1
  refine ⟨_,_,_,_,_,_,by rw[HT.aj];exact hL1,?_⟩
  rw[<- HT.aC]
  refine (ix (ro:=some ro) hcall happ (fun h=>by cases h) fj c4 hk).mono ?_
  rintro e T H' ⟨E2',H2',h2',rfl,rfl,hk2⟩
  obtain ⟨E2,H2,h2,e3,e4,hk2⟩:=bQ hk2
  rw[<- e3,<- e4]
  split at hk2 <;> try (exact hk2.elim)
  rename_i j hj
  split at hk2 <;> try (exact hk2.elim)
  rename_i st2 pe2 tm2 N2 ps2 as2 bd2 hL2
  refine ⟨j,hj,_,_,_,_,_,_,_,by rw[HT.aj];exact hL2,_,h2,?_,hk2⟩
  rw[HT.aC]
  congr 2
  cases j.isNone <;> rfl
 |_=>exact hk.elim
theorem lP{rs:List ResultVar}{T:Tm}{H:HT}{v:Value}(h:xi P rs T H=some v):sV P rs T H.list=some v:=by
 have one:∀r,iL P T H r=kq P T H.list r:=by
  intro r
  cases r with
  |tmp t=>rfl
  |cell a ty=>simp only[iL,kq,pI]
 unfold xi at h
 split at h
 ·rw[one]at h;exact h
 ·split at h <;> try (cases h;done)
  rename_i v1 v2 h1 h2
  rw[one]at h1 h2
  cases h
  simp[sV,h1,h2]
 ·split at h <;> try (cases h;done)
  rename_i v1 v2 v3 h1 h2 h3
  rw[one]at h1 h2 h3
  cases h
  simp[sV,h1,h2,h3]
 ·cases h;simp[sV]
 ·cases h
theorem rU{n:Nat}{M:MS}{v:Value}{H':HT}{h:Hint}{K:KV}(hv:pa n M v H' h K) :
  (∃(H2:HT) (h2:Hint),H'.list=H2.list/\K v H2 h2)∨(bn n v=true/\(∃l,M=some l/\∀id∈l,∀o,H'.list[id]?=some o->cu n o=true)/\∃(H2:HT) (h2:Hint),H2.list=H'.list/\K v (H2.take n) h2):=by
 unfold pa at hv
 split at hv
 ·exact .inl ⟨H',_,rfl,hv⟩
 ·cases M with
  |none=>exact .inl ⟨H',_,rfl,hv⟩
  |some l =>
   simp only at hv
   split at hv
   ·rename_i hc
    simp only[Bool.and_eq_true,List.all_eq_true]at hc
    refine .inr ⟨hc.1,⟨l,rfl,fun id hid o ho =>?_⟩,H',_,rfl,hv⟩
    have:=hc.2 id hid
    rw[<- HT.aj,ho]at this
    exact this
   ·exact .inl ⟨H',_,rfl,hv⟩
def fp(P:Program)(mixed:Bool)(mask:Nat):Prop:=∀f,Nat.testBit mask f=true->Gw P mixed f=true
theorem rY{mask:Nat}{mixed:Bool}(ew:fp P mixed mask)(hcall:jo P call)(happ:j8 P app){rounds:Nat}(fj:mixed=true->P.follows .mixedOrders=true):jo P (zB P mask call app dm rounds):=by
 intro f args H M h K hv
 unfold zB at hv
 split at hv <;> try (exact hv.elim)
 rename_i hm
 have hfn:=ew f hm
 split at hv <;> try (exact hv.elim)
 rename_i fn hf
 split at hv <;> try (exact hv.elim)
 rename_i c hb
 split at hv <;> try (exact hv.elim)
 rename_i hargs
 unfold Gw at hfn
 rw[hf]at hfn
 simp only[hb,Bool.and_eq_true,Bool.not_eq_true']at hfn
 obtain ⟨c1,c2,c3⟩:=hfn
 have Jt:ad P f args H.list (M.list H.n) (fun v H' => ∃H2 h2,H'=H2.list/\vas h2 v H2 (fun v H2 h2=>pa H.n M v H2 h2 K)):=by
  refine ad.enter hf c1 hb fn.ntmps rfl (Nat.le_of_ble_eq_true hargs) _ rfl c2 ?_
  rw[HT.length]
  refine (ix (ro:=none) hcall happ (fun _=>rfl) fj c3 hv).mono ?_
  rintro e T H' ⟨E2,H2,h2,rfl,rfl,hk⟩
  cases e with
  |normal =>
   simp only at hk
   obtain ⟨E3,H3,h3,e3,e4,hk⟩:=bQ hk
   rw[<- e3,<- e4]
   split at hk <;> try (exact hk.elim)
   rename_i v hr
   exact ⟨.inl rfl,v,lP hr,H3,h3,rfl,hk⟩
  |ret =>
   simp only at hk
   obtain ⟨E3,H3,h3,e3,e4,hk⟩:=bQ hk
   rw[<- e3,<- e4]
   split at hk <;> try (exact hk.elim)
   rename_i v hr
   exact ⟨.inr rfl,v,lP hr,H3,h3,rfl,hk⟩
  |_=>exact hk.elim
 have key:ad P f args H.list (M.list H.n) (fun v H' => ∃H2 h2,H'=H2.list/\pa H.n M v H2 h2 K):=by
  refine Jt.weak ?_
  rintro v H' ⟨H2,h2,rfl,hk⟩
  obtain ⟨v2,gs,H3,h3,e1,e2,hk⟩:=yj hk
  exact ⟨v2,gs,e1,H3,h3,e2.symm,hk⟩
 refine key.Ey ?_
 rintro v H' hlen _ ⟨H2,h2,rfl,hk⟩
 rcases rU hk with ⟨H3,h3,e,hk⟩|⟨hb,⟨l,rfl,ho⟩,H3,h3,e,hk⟩
 ·exact .inl ⟨H3,h3,e,hk⟩
 ·refine .inr ⟨(by rw[HT.length];exact hb),(fun id hid o _ h=>(by rw[HT.length];exact ho id hid o h)),H3.take H.n,h3,?_,hk⟩
  rw[HT.yF _ _ (by rw[HT.n_eq e];rw[HT.length,HT.length]at hlen;exact hlen),e,HT.length]
theorem mD{yld:Nat->List Value->HT->MS->Hint->KV->Prop}(hcall:jo P call)(hy:wn P yld):j8 P (Cr call yld):=by
 intro fv args H M h K hv
 unfold Cr at hv
 split at hv
 ·exact gP.func (hcall _ _ _ _ _ _ hv)
 ·exact hy _ _ _ _ _ _ hv
 ·exact hv.elim
end
theorem kc{mask:Nat}{dm:Value->MS}{rounds:Nat}{mixed:Bool}(ew:fp P mixed mask)(fj:mixed=true->P.follows .mixedOrders=true) :
  ∀n,jo P (vF P mask dm rounds mixed n true)/\wn P (vF P mask dm rounds mixed n false):=by
 intro n
 induction n with
 |zero=>exact ⟨fun f args H M h K hv=>hv.elim,fun L args H M h K hv=>hv.elim⟩
 |succ n ih =>
  refine ⟨fun f args H M h K hv =>?_,fun L args H M h K hv =>?_⟩
  ·exact rY ew ih.1 (mD ih.1 ih.2) fj _ _ _ _ _ _ hv
  ·exact qj ih.1 (mD ih.1 ih.2) fj _ _ _ _ _ _ hv
theorem vc{mask:Nat}{dm:Value->MS}{rounds:Nat}{mixed:Bool}(ew:fp P mixed mask)(fj:mixed=true->P.follows .mixedOrders=true)(n:Nat){f:FuncId}{args:List Value}{H:HT}{M:MS}{h:Hint}{Q:Value->Heap->Prop}
  (hv:vF P mask dm rounds mixed n true f args H M h (fun v H' _=>Q v H'.list)):ad P f args H.list (M.list H.n) Q :=
 ((kc ew fj n).1 f args H M h _ hv).post fun v H' ⟨H2,h2,e,hq⟩=>by subst e;exact hq
end
end Go.K
