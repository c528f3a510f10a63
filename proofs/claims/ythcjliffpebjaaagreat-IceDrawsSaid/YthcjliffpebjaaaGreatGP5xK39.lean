/- Ice: what reports tell together, conflicts, trusted reports. No condition. -/
import Derived.Test.YthcjliffpebjaaaGreatGP1gxP4
import Derived.Test.YthcjliffpebjaaaGreatGS0xP1a
import Derived.Shelf.SlSortCmp.Whole1
import Derived.Ground.SlsfProg
import Derived.Test.YthcjliffpebjaaaGreatChecked
import Derived.Sort.Grow
import Derived.Deep.Draws
import Derived.Test.YthcjliffpebjaaaGreatGK1xK7
import Derived.Test.YthcjliffpebjaaaGreatGV11xV14
import Derived.Test.YthcjliffpebjaaaGreatGV3xK38
open Go Go.K
set_option maxRecDepth 1000000
set_option maxHeartbeats 4000000
set_option linter.unusedVariables false
set_option linter.unusedSimpArgs false
namespace Go.Proofs.YthcjliffpebjaaaGreat
noncomputable section
theorem lh(ts:List Cell)(j:Nat)(hj:j<=2 ^ ts.length):(((agr ts j).1 = -1/\(agr ts j).2=[])∨(0<=(agr ts j).1/\(agr ts j).2≠[]))/\∀s∈(agr ts j).2,s<2 ^ ts.length/\(aK ts s).isSome=true/\((cB s:Nat):Int)=(agr ts j).1:=by
 induction j with
 |zero=>exact ⟨.inl ⟨rfl,rfl⟩,fun s h=>by cases h⟩
 |succ j ih =>
  obtain ⟨i1,i2⟩:=ih (by omega)
  have hs:2 ^ ts.length-1-j<2 ^ ts.length:=by omega
  rcases Classical.em ((cB (2 ^ ts.length-1-j):Int)<(agr ts j).1) with h1|h1
  ·rw[od rfl h1];exact ⟨i1,i2⟩
  ·cases h2:(aK ts (2 ^ ts.length-1-j)).isSome with
   |false=>rw[tN rfl h1 h2];exact ⟨i1,i2⟩
   |true =>
    rcases Classical.em ((agr ts j).1<cB (2 ^ ts.length-1-j)) with h3|h3
    ·rw[oc rfl h1 h2 h3]
     refine ⟨.inr ⟨by omega,by simp⟩,fun s hm =>?_⟩
     rw[List.mem_singleton.1 hm];exact ⟨hs,h2,rfl⟩
    ·rw[oa rfl h1 h2 h3]
     refine ⟨.inr ⟨by show 0<=(agr ts j).1;omega,by simp⟩,fun s hm =>?_⟩
     rcases List.mem_append.1 hm with hm|hm
     ·exact i2 s hm
     ·rw[List.mem_singleton.1 hm];exact ⟨hs,h2,by omega⟩
theorem vp(ts:List Cell)(j:Nat):tog ts 0 j=some ay:=by
 induction j with
 |zero=>rfl
 |succ j ih=>rw[gA ih,show bW ts.length 0 j=false from Nat.zero_testBit _,if_neg (by decide)]
theorem li(ts:List Cell):cp ts≠[]:=by
 unfold cp
 have h0:1<=2 ^ ts.length:=Nat.one_le_two_pow
 obtain ⟨j,hj⟩:∃j,2 ^ ts.length=j+1:=⟨2 ^ ts.length-1,by omega⟩
 obtain ⟨i1,_⟩:=lh ts j (by omega)
 have hs:2 ^ ts.length-1-j=0:=by omega
 have hz:(aK ts 0).isSome=true:=by unfold aK;rw[vp];rfl
 rw[hj]
 rcases Classical.em ((cB 0:Int)<(agr ts j).1) with h1|h1
 ·rw[od hs h1]
  rcases i1 with ⟨a,_⟩|⟨_,b⟩
  ·rw[a]at h1;omega
  ·exact b
 ·rcases Classical.em ((agr ts j).1<cB 0) with h3|h3
  ·rw[oc hs h1 hz h3];simp
  ·rw[oa hs h1 hz h3];simp
attribute [local irreducible] vF eV cB
theorem lv(ts:List Cell):ao ts∈cp ts:=by
 unfold ao
 cases h:cp ts with
 |nil=>exact absurd h (li ts)
 |cons a r=>simp
theorem nf(ts:List Cell):ao ts<2 ^ ts.length/\(aK ts (ao ts)).isSome=true :=
 let h:=(lh ts (2 ^ ts.length) (Nat.le_refl _)).2 _ (lv ts); ⟨h.1,h.2.1⟩
theorem qQ{l:List Report}{m:aO}{now:Int}(h:d9 l m now=0):l.length<=12:=by
 rcases Classical.em (dY m now=0) with h1|h1
 ·rcases Nat.lt_or_ge 12 l.length with h2|h2
  ·rw[uS h1 h2]at h;cases h
  ·exact h2
 ·rw[nV h1]at h;exact absurd h h1
theorem gz(l:List Report)(m:aO)(now:Int):(told l m now).length=l.length:=ud ..
theorem hO(p:Nat×Nat):(bq p).length=2:=rfl
theorem fR(n:Nat)(l:List (Nat×Nat)):(l.flatMap bq).all (aS n)=true:=du (fun _=>rfl) l
theorem ka(n:Nat)(l:List Bool):(l.flatMap aN).all (aS n)=true:=du (fun _=>rfl) l
theorem kP(ts:List Cell)(i k:Nat):(bg ts i k).length<=k:=by
 induction k with
 |zero=>exact Nat.le_refl _
 |succ k ih =>
  unfold bg
  split
  ·omega
  ·rw[aX];simp;omega
theorem qY(ts:List Cell)(i:Nat):(conf ts i).length<=i*ts.length:=by
 induction i with
 |zero=>exact Nat.zero_le _
 |succ i ih =>
  unfold conf
  have:=kP ts i (ts.length-(i+1))
  rw[aX,Nat.succ_mul];omega
theorem kq{ts:List Cell}{i k:Nat}(h:okC (cj (ts.getD i ak) (ts.getD (i+1+k) ak))):bg ts i (k+1)=bg ts i k:=if_pos h
theorem ie{ts:List Cell}{i k:Nat}(h:¬ okC (cj (ts.getD i ak) (ts.getD (i+1+k) ak))):bg ts i (k+1)=bg ts i k ++ [(i,i+1+k)]:=if_neg h
theorem dA(b:Bool):(aN b).length=1:=rfl
theorem A1{l:List Nat}(h:l≠[]):(l.flatMap dQ)[0]?=some (.int .i64 (((l.getD 0 0:Nat)):Int)):=by
 cases l with
 |nil=>exact absurd rfl h
 |cons x r=>rfl
theorem pN(ts:List Cell)(x:Nat):aR ts (x+1)=aR ts x ++ [bW ts.length (ao ts) x]:=uf _ _
theorem fO(ts:List Cell)(x:Nat):(aR ts x).length=x:=cw _ _
theorem yY(m:aO){ts:List Cell}(hn:ts.length<=12){H:Heap}{L:Nat}(hL:H.length=L){w j:Nat}{own e9:Bool}{z z2:Nat}(h1:H[w]?=some (.cells own z (fa m j ts.length)))(h2:H[j]?=some (.cells e9 z2 (ts.flatMap cellC))) :
    ap prog F.mn [.pointer (some ⟨w,0,none⟩)] H [] (Is (.tuple #[.slice (some ⟨L,0,some 1⟩) (aR ts ts.length).length (aR ts ts.length).length,cellV ((aK ts (ao ts)).getD ak)]) (H ++ [.cells true 1 ((aR ts ts.length).flatMap aN)])):=by
  subst hL
  have key:=fun hc=>yl (css:=[fa m 1 ts.length,ts.flatMap cellC]) (v:=.tuple #[.slice (some ⟨2,0,some 1⟩) (aR ts ts.length).length (aR ts ts.length).length,cellV ((aK ts (ao ts)).getD ak)]) (new:=[(true,.cells true 1 ((aR ts ts.length).flatMap aN))]) (Eq.mpr (zK m ts) hc) rfl (by simp[rn,bQ])
    (by show ((cT 3 (.cells true 1 ((aR ts ts.length).flatMap aN)) && true) && true) = true
        rw[Bool.and_true,Bool.and_true];exact (gk (U:=fun _=>none) (d:=0) (ka 0 _)).2)
    (congrArg (fun q=>[ae.cells true 1 q]) (gk (d:=0) (ka 0 _)).1) (H:=H) [w,j] rfl (jb h1 h2)
  have e1:rn (cG (0 + [fa m 1 ts.length,ts.flatMap cellC].length) H.length) 3 (.tuple #[.slice (some ⟨2,0,some 1⟩) (aR ts ts.length).length (aR ts ts.length).length,cellV ((aK ts (ao ts)).getD ak)]) = .tuple #[.slice (some ⟨H.length,0,some 1⟩) (aR ts ts.length).length (aR ts ts.length).length,cellV ((aK ts (ao ts)).getD ak)]:=by simp[rn,cG]
  have e2:(List.map (fun x:Bool×ae=>x.2) [(true,ae.cells true 1 ((aR ts ts.length).flatMap aN))]).map (rno (cG (0 + [fa m 1 ts.length,ts.flatMap cellC].length) H.length) 3)=[.cells true 1 ((aR ts ts.length).flatMap aN)] :=
    congrArg (fun q=>[ae.cells true 1 q]) (gk (d:=0) (ka 0 _)).1
  rw[e1,e2]at key
  refine key ?_
  clear key e1 e2
  unfold w6
  obtain ⟨t1,t2⟩:=nf ts
  have hp:=p7 hn
  have hne:=li ts
  have hne1:0<(cp ts).length:=List.length_pos_iff.2 hne
  have hs:ao ts<4096:=by omega
  refine ⟨⟨rfl,rfl,trivial⟩,fun H' hl hd=>uF m hn hl hd.1 hd.2.1,by omega,A1 hne,(_,_),⟨rfl,rfl,trivial⟩,fun H' _ hd=>nF m (ao ts) hn hs hd.1 hd.2.1,?_⟩
  refine ⟨rfl,Nat.zero_le _,?_,fun _=>rfl,?_⟩
  · repeat' first|exact ka _ _|exact trivial|exact rfl|exact aw _|refine av ?_|refine aA ?_ ?_|exact aG|exact aL _ _ _ (.inl rfl)|(exact bw (by omega))|refine aE ?_|refine aD ?_|refine aQ ?_ ?_ ?_|refine aP ?_ ?_ ?_|refine toMax ?_|refine toMin ?_|refine ⟨rfl,?_⟩|refine ⟨trivial,?_⟩|(refine aH (fun h =>?_) (fun h =>?_))|(refine aJ (fun h =>?_) (fun h =>?_))|(refine aI (fun h =>?_) (fun h =>?_))|refine aC ?_|(refine ⟨aB (by omega),?_⟩)|(refine And.intro (by omega) ?_)|apply And.intro|(exact iEq (by omega))|(exact aB (by omega))
  intro x hx
  refine aH (fun h =>?_) (fun h =>?_)
  · have hlt : x < ts.length := by omega
    have hb:=wX (n:=ao ts) (k:=ts.length-1-x) (by omega) (by omega)
    have hpk:=p7 (k:=ts.length-1-x) (by omega)
    have hbit:(Value.bool ((if (ao ts).testBit (ts.length-1-x) then (((2 ^ (ts.length-1-x):Nat)):Int) else 0) != 0)) = .bool (bW ts.length (ao ts) x):=by
      show _=Value.bool ((ao ts).testBit (ts.length-1-x))
      cases (ao ts).testBit (ts.length-1-x) with
      |true=>refine congrArg Value.bool ?_;rw[if_pos rfl];exact bne_iff_ne.2 (by omega)
      |false=>rfl
    refine ⟨_,⟨rfl,rfl,trivial⟩,fun H' _ hd=>Aj m x hn hlt hd.1 hd.2.1,_,iEq hb,?_⟩
    repeat' first|(refine ⟨aB (by omega),?_⟩)|(refine ⟨⟨by omega,by decide,⟨Nat.le_refl _,by rw[bF dA,fO];omega⟩,⟨by decide,Nat.le_refl _⟩,rfl⟩,rfl,?_⟩)|(refine ⟨x+1,by omega,by omega,?_⟩)
    rw[pN]
    repeat' first|exact ka _ _|(exact congrArg (fun l=>some (ae.cells true 1 l)) (by rw[hbit];exact eL dA (aR ts x) _ (fO ..).symm))|exact trivial|exact rfl|exact aw _|refine av ?_|refine aA ?_ ?_|exact aG|exact aL _ _ _ (.inl rfl)|(exact bw (by omega))|refine aE ?_|refine aD ?_|refine aQ ?_ ?_ ?_|refine aP ?_ ?_ ?_|refine toMax ?_|refine toMin ?_|refine ⟨rfl,?_⟩|refine ⟨trivial,?_⟩|(refine aH (fun h =>?_) (fun h =>?_))|(refine aJ (fun h =>?_) (fun h =>?_))|(refine aI (fun h =>?_) (fun h =>?_))|refine aC ?_|(refine ⟨aB (by omega),?_⟩)|(refine And.intro (by omega) ?_)|apply And.intro|(exact iEq (by omega))|(exact aB (by omega))
  · obtain rfl : x = ts.length := by omega
    repeat' first|exact ka _ _|exact trivial|exact rfl|exact aw _|refine av ?_|refine aA ?_ ?_|exact aG|exact aL _ _ _ (.inl rfl)|(exact bw (by omega))|refine aE ?_|refine aD ?_|refine aQ ?_ ?_ ?_|refine aP ?_ ?_ ?_|refine toMax ?_|refine toMin ?_|refine ⟨rfl,?_⟩|refine ⟨trivial,?_⟩|(refine aH (fun h =>?_) (fun h =>?_))|(refine aJ (fun h =>?_) (fun h =>?_))|(refine aI (fun h =>?_) (fun h =>?_))|refine aC ?_|(refine ⟨aB (by omega),?_⟩)|(refine And.intro (by omega) ?_)|apply And.intro|(exact iEq (by omega))|(exact aB (by omega))
    all_goals (rw[fO];exact aw _)
end
end Go.Proofs.YthcjliffpebjaaaGreat
namespace Go.Proofs.YthcjliffpebjaaaGreat
noncomputable section
attribute [local irreducible] vF
abbrev bf(x:Int):List Value:=[.int .i64 x]
theorem cI(x:Int):(bf x).length=1:=rfl
theorem vC(n:Nat)(l:List Int):(l.flatMap bf).all (aS n)=true:=du (fun _=>rfl) l
theorem wR{xs:List Int}{k:Nat}(h:k<xs.length):(xs.flatMap bf)[0+k*1]?=some (.int .i64 (xs.getD k 0)) :=
 ga (n:=1) (f:=bf) (d:=0) (c:=0) cI h (by omega) rfl
theorem ij{s:Span}{u d h mx:Int}(hs:bJ s mx)(hu:0<=chg u h)(hd:0<=chg d h):bJ (u6 s u d h mx) mx:=by
 unfold bJ at *;unfold u6;dsimp only;omega
theorem sQ{c:Cell}{m:aO}{h:Int}(hc:dE c)(hm:c7 m)(hh:0<=h/\h<=10000):dE (xV c m h):=by
 obtain ⟨⟨u1,u2,u3,u4⟩,d1,d2,d3,d4⟩:=hm
 exact ⟨ij hc.1 (cg u1 hh).1 (cg d1 hh).1,ij hc.2.1 (cg u2 hh).1 (cg d2 hh).1,ij hc.2.2.1 (cg u3 hh).1 (cg d3 hh).1,ij hc.2.2.2 (cg u4 hh).1 (cg d4 hh).1⟩
end
end Go.Proofs.YthcjliffpebjaaaGreat
namespace Go.Proofs.YthcjliffpebjaaaGreat
open Go Go.Shelf
end Go.Proofs.YthcjliffpebjaaaGreat
namespace Go.K
variable {P:Program}
theorem Rel.world{B:Nat}{J:Ren}{H:Heap}{w W:World}(hr:Rel P B J H w)(b0:Nat)(hsz:w.heap.size<=W.heap.size)(hsame:∀b,b<w.heap.size->b≠b0->W.heap[b]?=w.heap[b]?)
  (hfree:∀id r o,J id=some r->H[id]?=some o->o.alive=true->r.b≠b0) (hmem:∀m,J.mem b0=some m->False) (hfb:¬ FB J H b0):Rel P B J H W:=by
 refine ⟨Nat.le_trans hr.bsize hsz,hr.db,hr.dom,fun id r h=>Nat.lt_of_lt_of_le (hr.lt id r h) hsz,fun id r o h1 h2 =>?_,hr.base,hr.sep,fun b m hb=>⟨?_,(hr.mem b m hb).2⟩,
  hr.fam.keep (Ren.le_refl _) (fun _ _ _ h=>h) (fun _ _ _ _ h=>h) (Nat.le_refl _) hsz (fun b hb=>by
   rcases Nat.lt_or_ge b w.heap.size with hl|hl
   ·exact hsame b hl (fun e=>hfb (e ▸ hb))
   ·exact absurd hb (hr.fam.mC hl)) (fun id r o a b c=>hr.fam.free a b c) (fun b m h=>hr.fam.dN h)⟩
 ·by_cases hal:o.alive=true
  ·exact (hr.obj id r o h1 h2).mono (Ren.le_refl _) (hsame _ (hr.lt id r h1) (hfree id r o h1 h2 hal))
  ·cases o <;> first|trivial|exact absurd rfl hal
 ·obtain ⟨ty,fz,e⟩:=(hr.mem b m hb).1
  have hne:b≠b0:=by rintro rfl;exact hmem m hb
  exact ⟨ty,fz,(hsame b (Array.getElem?_eq_some_iff.1 e).1 hne).trans e⟩
theorem Post.grown{B base:Nat}{M:List Nat}{J ρ':Ren}{H H':Heap}{w w1 w2:World}(p:Post P B base M J H w ρ' H' w1)(hsz:w1.heap.size<=w2.heap.size)(hsame:∀b,b<w1.heap.size->w2.heap[b]?=w1.heap[b]?)
  (hos:w2.os=w1.os) (ht:w2.tape=w1.tape) (ho:w2.output=w1.output) (hd:w1.drawn<=w2.drawn):Post P B base M J H w ρ' H' w2:=by
 have hlt:∀id r o,ρ' id=some r->H'[id]?=some o->o.alive=true->r.b≠w1.heap.size:=fun id r o h1 _ _=>by have:=p.rel.lt id r h1;omega
 have hm:∀m,ρ'.mem w1.heap.size=some m->False:=fun m h=>by
  obtain ⟨ty,fz,e⟩:=(p.rel.mem _ m h).1
  have:=(Array.getElem?_eq_some_iff.1 e).1;omega
 exact ⟨p.rel.world w1.heap.size hsz (fun b h _=>hsame b h) hlt hm (p.rel.fam.mC (Nat.le_refl _)),p.ext,p.new,p.len,p.same,Nat.le_trans p.size hsz,fun b h1 h2=>(hsame b (Nat.lt_of_lt_of_le h1 p.size)).trans (p.keep b h1 h2),p.ob,hos.trans p.os,ht.trans p.tape,ho.trans p.output,p.frz,Nat.le_trans p.drawn hd,p.jt⟩
end Go.K
namespace Go.K
open Go Go.Proofs Go.RowKit Go.Lib Go.Sort
variable {P:Program}
end Go.K
namespace Go.Proofs.YthcjliffpebjaaaGreat
open Go Go.K Go.Sort
noncomputable section
attribute [local irreducible] vF
theorem qR {P : Program} {f : FuncId} {fn : Func} (hf : P.funcs[f]? = some fn) (hname : (fn.name == "runtime.NumGoroutine") = false) (hb : fn.body.isSome = true) : Enters P f := by
 obtain ⟨c,hc⟩:=Option.isSome_iff_exists.1 hb
 exact enters_of hf hname hc
end
end Go.Proofs.YthcjliffpebjaaaGreat
namespace Go.Proofs.YthcjliffpebjaaaGreat
noncomputable section
attribute [local irreducible] vF cB
def sp(c:Cell):Nat->Span
 |0=>c.ag
 |1=>c.ac
 |2=>c.ab
 |_=>c.aa
theorem xp(c:Cell):okC c ↔ ∀d,(sp c d).lo<=(sp c d).hi:=by
 constructor
 ·rintro ⟨h0,h1,h2,h3⟩ d
  match d with
  |0=>exact h0
  |1=>exact h1
  |2=>exact h2
  |_+3=>exact h3
 ·intro h;exact ⟨h 0,h 1,h 2,h 3⟩
theorem hC(a b:Cell)(d:Nat):sp (cj a b) d=kH (sp a d) (sp b d):=by
 match d with
 |0=>rfl
 |1=>rfl
 |2=>rfl
 |_+3=>rfl
theorem ji{c:Cell}(h:dE c)(d:Nat):(sp ay d).lo<=(sp c d).lo/\(sp c d).lo<=(sp c d).hi/\(sp c d).hi<=(sp ay d).hi:=by
 obtain ⟨⟨a1,a2,a3,a4⟩,⟨b1,b2,b3,b4⟩,⟨c1,c2,c3,c4⟩,⟨d1,d2,d3,d4⟩⟩:=h
 match d with
 |0=>exact ⟨a1,a3,a4⟩
 |1=>exact ⟨b1,b3,b4⟩
 |2=>exact ⟨c1,c3,c4⟩
 |_+3=>exact ⟨d1,d3,d4⟩
theorem okM{a b:Cell}:okC (cj a b) ↔ ∀d,max (sp a d).lo (sp b d).lo<=min (sp a d).hi (sp b d).hi:=by
 rw[xp]
 constructor
 ·intro h d;have:=h d;rw[hC]at this;exact this
 ·intro h d;rw[hC];exact h d
def okA(ts:List Cell)(p:Nat->Bool):Prop:=∀i j,i<ts.length->j<ts.length->p i=true->p j=true->okC (cj (ts.getD i ak) (ts.getD j ak))
def dq(ts:List Cell):Prop:=∀i,i<ts.length->dE (ts.getD i ak)
structure zE(ts:List Cell)(s j:Nat)(c:Cell):Prop where
 ok:∀d,(sp c d).lo<=(sp c d).hi
 le:∀i d,i<j->bW ts.length s i=true->(sp (ts.getD i ak) d).lo<=(sp c d).lo/\(sp c d).hi<=(sp (ts.getD i ak) d).hi
 lo:∀d,(sp c d).lo=(sp ay d).lo∨∃i,i<j/\bW ts.length s i=true/\(sp c d).lo=(sp (ts.getD i ak) d).lo
 hi:∀d,(sp c d).hi=(sp ay d).hi∨∃i,i<j/\bW ts.length s i=true/\(sp c d).hi=(sp (ts.getD i ak) d).hi
theorem s7{ts:List Cell}{s:Nat}:∀j,j<=ts.length->∀c,tog ts s j=some c->zE ts s j c:=by
 intro j
 induction j with
 |zero =>
  intro _ c h
  cases h
  refine ⟨fun d =>?_,fun i d h=>absurd h (Nat.not_lt_zero _),fun d => .inl rfl,fun d => .inl rfl⟩
  match d with
  |0=>exact (show (0:Int)<=100 by decide)
  |1=>exact (show (0:Int)<=400 by decide)
  |2=>exact (show (0:Int)<=100 by decide)
  |_+3=>exact (show (0:Int)<=3 by decide)
 |succ j ih =>
  intro hj c h
  cases h0:tog ts s j with
  |none=>rw[lw h0 (Nat.le_succ j)]at h;cases h
  |some c0 =>
   have I:=ih (by omega) c0 h0
   rw[gA h0]at h
   split at h
   ·rename_i hin
    split at h
    ·rename_i hok
     cases h
     rw[okM]at hok
     refine ⟨fun d=>by rw[hC];exact hok d,fun i d hi hs =>?_,fun d =>?_,fun d =>?_⟩
     ·rw[hC]
      rcases Nat.lt_or_ge i j with h1|h1
      ·have:=I.le i d h1 hs
       show _<=max _ _/\min _ _<=_
       omega
      ·obtain rfl:i=j:=by omega
       show _<=max _ _/\min _ _<=_
       omega
     ·rw[hC]
      show max _ _=_∨∃i,_/\_/\max _ _=_
      rcases Int.le_total (sp c0 d).lo (sp (ts.getD j ak) d).lo with h1|h1
      ·exact .inr ⟨j,by omega,hin,by omega⟩
      ·rw[show max (sp c0 d).lo (sp (ts.getD j ak) d).lo=(sp c0 d).lo by omega]
       rcases I.lo d with h2|⟨i,h2,h3,h4⟩
       ·exact .inl h2
       ·exact .inr ⟨i,by omega,h3,h4⟩
     ·rw[hC]
      show min _ _=_∨∃i,_/\_/\min _ _=_
      rcases Int.le_total (sp (ts.getD j ak) d).hi (sp c0 d).hi with h1|h1
      ·exact .inr ⟨j,by omega,hin,by omega⟩
      ·rw[show min (sp c0 d).hi (sp (ts.getD j ak) d).hi=(sp c0 d).hi by omega]
       rcases I.hi d with h2|⟨i,h2,h3,h4⟩
       ·exact .inl h2
       ·exact .inr ⟨i,by omega,h3,h4⟩
    ·cases h
   ·rename_i hin
    cases h
    refine ⟨I.ok,fun i d hi hs =>?_,fun d =>?_,fun d =>?_⟩
    ·rcases Nat.lt_or_ge i j with h1|h1
     ·exact I.le i d h1 hs
     ·obtain rfl:i=j:=by omega
      exact absurd hs hin
    ·rcases I.lo d with h2|⟨i,h2,h3,h4⟩
     ·exact .inl h2
     ·exact .inr ⟨i,by omega,h3,h4⟩
    ·rcases I.hi d with h2|⟨i,h2,h3,h4⟩
     ·exact .inl h2
     ·exact .inr ⟨i,by omega,h3,h4⟩
theorem vq{ts:List Cell}{s:Nat}(hr:dq ts)(h:okA ts (bW ts.length s)):∀j,j<=ts.length->∃c,tog ts s j=some c:=by
 intro j
 induction j with
 |zero=>intro _;exact ⟨_,rfl⟩
 |succ j ih =>
  intro hj
  obtain ⟨c,hc⟩:=ih (by omega)
  have I:=s7 j (by omega) c hc
  rw[gA hc]
  split
  ·rename_i hin
   have hok:okC (cj c (ts.getD j ak)):=by
    rw[okM]
    intro d
    have r:=ji (hr j (by omega)) d
    have o:=I.ok d
    have k1:(sp c d).lo<=(sp (ts.getD j ak) d).hi:=by
     rcases I.lo d with h2|⟨i,h2,h3,h4⟩
     ·omega
     ·have:=(okM.1 (h i j (by omega) (by omega) h3 hin)) d
      omega
    have k2:(sp (ts.getD j ak) d).lo<=(sp c d).hi:=by
     rcases I.hi d with h2|⟨i,h2,h3,h4⟩
     ·omega
     ·have:=(okM.1 (h i j (by omega) (by omega) h3 hin)) d
      omega
    omega
   rw[if_pos hok];exact ⟨_,rfl⟩
  ·exact ⟨_,rfl⟩
theorem oC{ts:List Cell}(hr:dq ts)(s:Nat):(aK ts s).isSome=true ↔ okA ts (bW ts.length s):=by
 constructor
 ·intro h i j hi hj h1 h2
  obtain ⟨c,hc⟩:=Option.isSome_iff_exists.1 h
  have I:=s7 ts.length (Nat.le_refl _) c hc
  rw[okM]
  intro d
  have a:=I.le i d hi h1
  have b:=I.le j d hj h2
  have o:=I.ok d
  have r1:=ji (hr i hi) d
  have r2:=ji (hr j hj) d
  omega
 ·intro h
  obtain ⟨c,hc⟩:=vq hr h ts.length (Nat.le_refl _)
  show (tog ts s ts.length).isSome=true
  rw[hc];rfl
def cnt(n:Nat)(p:Nat->Bool):Nat:=(List.range n).countP p
theorem jS(n:Nat)(p:Nat->Bool):cnt (n+1) p=cnt n p+(p n).toNat:=by
 unfold cnt
 rw[List.range_succ,List.countP_append]
 cases h:p n <;> simp[h]
theorem fJ{n:Nat}{p q:Nat->Bool}(h:∀i,i<n->p i=q i):cnt n p=cnt n q:=by
 induction n with
 |zero=>rfl
 |succ n ih=>rw[jS,jS,ih (fun i hi=>h i (by omega)),h n (by omega)]
theorem qD{n s i:Nat}(hi:i<n):bW (n+1) s i=bW n (s / 2) i:=by
 unfold bW
 rw[show n+1-1-i=(n-1-i)+1 by omega,Nat.testBit_succ]
theorem mj(n s:Nat):bW (n+1) s n=s.testBit 0:=by unfold bW;rw[show n+1-1-n=0 by omega]
theorem vB:(List.range 4096).all (fun s=>Nat.beq (cB s) (cB (s / 2)+s % 2))=true:=by kernel_rfl
theorem Ae{s:Nat}(h:s<4096):cB s=cB (s / 2)+s % 2:=Nat.eq_of_beq_eq_true (List.all_eq_true.1 vB s (List.mem_range.2 h))
theorem jk:∀(n s:Nat),s<2 ^ n->n<=12->cB s=cnt n (bW n s)
 |0,s,h,_=>by
  obtain rfl:s=0:=by simpa using h
  kernel_rfl
 |n+1,s,h,hn=>by
  have h12:2 ^ (n+1)<=2 ^ 12:=Nat.pow_le_pow_right (by decide) hn
  rw[Ae (by omega),jk n (s / 2) (by rw[Nat.pow_succ]at h;omega) (by omega),jS,fJ (fun i hi=>qD hi),mj]
  congr 1
  rw[Nat.testBit_zero]
  rcases Nat.mod_two_eq_zero_or_one s with h1|h1 <;> rw[h1] <;> rfl
def iw(p:Nat->Bool):Nat->Nat
 |0=>0
 |n+1=>2*iw p n+(p n).toNat
theorem pr(p:Nat->Bool)(n:Nat):iw p n<2 ^ n:=by
 induction n with
 |zero=>exact Nat.one_pos
 |succ n ih =>
  rw[Nat.pow_succ]
  show 2*iw p n+(p n).toNat<_
  cases p n <;> simp <;> omega
theorem fG(p:Nat->Bool):∀(n i:Nat),i<n->bW n (iw p n) i=p i
 |0,_,h=>absurd h (Nat.not_lt_zero _)
 |n+1,i,h=>by
  rcases Nat.lt_or_ge i n with h1|h1
  ·rw[qD h1]
   show bW n ((2*iw p n+(p n).toNat) / 2) i=_
   rw[show (2*iw p n+(p n).toNat) / 2=iw p n by cases p n <;> simp <;> omega]
   exact fG p n i h1
  ·obtain rfl:i=n:=by omega
   rw[mj,Nat.testBit_zero]
   show decide ((2*iw p i+(p i).toNat) % 2=1)=_
   cases p i <;> simp <;> omega
def qn(ts:List Cell):Nat:=((agr ts (2 ^ ts.length)).1).toNat
theorem tM(ts:List Cell):∀j,j<=2 ^ ts.length->∀s,s<2 ^ ts.length->2 ^ ts.length<=s+j->(aK ts s).isSome=true->((cB s:Nat):Int)<=(agr ts j).1/\(((cB s:Nat):Int)=(agr ts j).1->s∈(agr ts j).2):=by
 intro j
 induction j with
 |zero=>intro _ s h1 h2;omega
 |succ j ih =>
  intro hj s h1 h2 h3
  obtain ⟨q,hq⟩:∃q,2 ^ ts.length-1-j=q:=⟨_,rfl⟩
  rcases Nat.lt_or_ge (s+j) (2 ^ ts.length) with hl|hl
  ·obtain rfl:s=q:=by omega
   rcases Classical.em ((cB s:Int)<(agr ts j).1) with k1|k1
   ·rw[od hq k1];exact ⟨by omega,fun h=>by omega⟩
   ·rcases Classical.em ((agr ts j).1<cB s) with k2|k2
    ·rw[oc hq k1 h3 k2];exact ⟨Int.le_refl _,fun _=>List.mem_singleton.2 rfl⟩
    ·rw[oa hq k1 h3 k2];exact ⟨by show _<=(agr ts j).1;omega,fun _=>List.mem_append_right _ (List.mem_singleton.2 rfl)⟩
  ·obtain ⟨i1,i2⟩:=ih (by omega) s h1 hl h3
   rcases Classical.em ((cB q:Int)<(agr ts j).1) with k1|k1
   ·rw[od hq k1];exact ⟨i1,i2⟩
   ·cases k3:(aK ts q).isSome with
    |false=>rw[tN hq k1 k3];exact ⟨i1,i2⟩
    |true =>
     rcases Classical.em ((agr ts j).1<cB q) with k2|k2
     ·rw[oc hq k1 k3 k2]
      exact ⟨by show _<=((cB q:Nat):Int);omega,fun (h:((cB s:Nat):Int)=((cB q:Nat):Int))=>by omega⟩
     ·rw[oa hq k1 k3 k2];exact ⟨i1,fun h=>List.mem_append_left _ (i2 h)⟩
theorem mM(ts:List Cell):0<=(agr ts (2 ^ ts.length)).1:=by
 rcases (lh ts _ (Nat.le_refl _)).1 with ⟨_,h⟩|⟨h,_⟩
 ·exact absurd h (li ts)
 ·exact h
theorem qm{ts:List Cell}(hr:dq ts)(hn:ts.length<=12){s:Nat}:s∈cp ts ↔ s<2 ^ ts.length/\okA ts (bW ts.length s)/\cnt ts.length (bW ts.length s)=qn ts:=by
 have h0:=mM ts
 constructor
 ·intro h
  obtain ⟨h1,h2,h3⟩:=(lh ts _ (Nat.le_refl _)).2 s h
  refine ⟨h1,(oC hr s).1 h2,?_⟩
  rw[<- jk _ s h1 hn]
  unfold qn;omega
 ·rintro ⟨h1,h2,h3⟩
  refine (tM ts _ (Nat.le_refl _) s h1 (by omega) ((oC hr s).2 h2)).2 ?_
  rw[jk _ s h1 hn,h3]
  unfold qn;omega
theorem xQ{ts:List Cell}(hr:dq ts)(hn:ts.length<=12){p:Nat->Bool}(h:okA ts p):cnt ts.length p<=qn ts:=by
 have h0:=mM ts
 have e:∀i,i<ts.length->bW ts.length (iw p ts.length) i=p i:=fun i hi=>fG p _ i hi
 have h2:okA ts (bW ts.length (iw p ts.length)):=fun i j hi hj h1 h2=>h i j hi hj (by rw[<- e i hi];exact h1) (by rw[<- e j hj];exact h2)
 have:=(tM ts _ (Nat.le_refl _) _ (pr p ts.length) (by omega) ((oC hr _).2 h2)).1
 rw[jk _ _ (pr p ts.length) hn,fJ e]at this
 unfold qn;omega
theorem vP{ts:List Cell}(hr:dq ts)(hn:ts.length<=12):okA ts (bW ts.length (ao ts))/\cnt ts.length (bW ts.length (ao ts))=qn ts :=
 ((qm hr hn).1 (lv ts)).2
structure kz(l:List Report)(m:aO)(now:Int):Prop where
 ask:dY m now=0
 len:l.length<=12
 each:∀r∈l,c8 r/\r.at_<=now
 ids:l.Pairwise (fun a b=>a.id≠b.id)
 here:∀a∈l,∀b∈l,a.x=b.x/\a.y=b.y
theorem ko{Y:Type}{l:List Y}{d:Y}{i:Nat}(h:i<l.length):l.getD i d∈l:=by
 rw[List.getD_eq_getElem?_getD,List.getElem?_eq_getElem h];exact List.getElem_mem h
theorem ww{Y:Type}{l:List Y}{d a:Y}(h:a∈l):∃i,i<l.length/\l.getD i d=a:=by
 obtain ⟨i,h1,rfl⟩:=List.mem_iff_getElem.1 h
 exact ⟨i,h1,by rw[List.getD_eq_getElem?_getD,List.getElem?_eq_getElem h1];rfl⟩
theorem eK{Y:Type}{l:List Y}{d:Y}{i:Nat}(h:i<l.length):l.getD i d=l[i]:=by
 rw[List.getD_eq_getElem?_getD,List.getElem?_eq_getElem h];rfl
def pT(x:List Report)(p:Nat->Bool):Nat->List Report
 |0=>[]
 |k+1=>if p k then pT x p k ++ [x.getD k ad] else pT x p k
theorem uh(x:List Report)(p:Nat->Bool):∀k,k<=x.length->(pT x p k).Sublist (x.take k):=by
 intro k
 induction k with
 |zero=>intro _;exact List.Sublist.refl _
 |succ k ih =>
  intro hk
  rw[List.take_add_one,List.getElem?_eq_getElem (by omega)]
  unfold pT
  split
  ·rw[eK (by omega)]
   exact (ih (by omega)).append (List.Sublist.refl _)
  ·exact (ih (by omega)).trans (List.sublist_append_left ..)
theorem kz.sub{l l':List Report}{m:aO}{now:Int}(h:kz l m now)(hs:l'.Sublist l):kz l' m now :=
 ⟨h.ask,Nat.le_trans hs.length_le h.len,fun r hr=>h.each r (hs.subset hr),h.ids.sublist hs,fun a ha b hb=>h.here a (hs.subset ha) b (hs.subset hb)⟩
theorem kz.some{x:List Report}{m:aO}{now:Int}(h:kz x m now)(p:Nat->Bool){k:Nat}(hk:k<=x.length):kz (pT x p k) m now :=
 h.sub ((uh x p k hk).trans (List.take_sublist ..))
theorem jd{l:List Report}{m:aO}{now:Int}{i:Nat}(h:i<l.length):(told l m now).getD i ak=br (l.getD i ad) m now :=
 di (f:=fun i=>br (l.getD i ad) m now) h
theorem kb{ts:List Cell}{p q:Nat->Bool}(h:∀i,i<ts.length->p i=q i):okA ts p ↔ okA ts q :=
 ⟨fun k i j hi hj h1 h2=>k i j hi hj (by rw[h i hi];exact h1) (by rw[h j hj];exact h2),fun k i j hi hj h1 h2=>k i j hi hj (by rw[<- h i hi];exact h1) (by rw[<- h j hj];exact h2)⟩
theorem qk{ts:List Cell}{i k:Nat}{q:Nat×Nat}(h:q∈bg ts i k):∃j,j<k/\q=(i,i+1+j)/\¬ okC (cj (ts.getD i ak) (ts.getD (i+1+j) ak)):=by
 induction k with
 |zero=>cases h
 |succ k ih =>
  by_cases hc:okC (cj (ts.getD i ak) (ts.getD (i+1+k) ak))
  ·rw[kq hc]at h
   obtain ⟨j,h1,h2⟩:=ih h
   exact ⟨j,by omega,h2⟩
  ·rw[ie hc]at h
   rcases List.mem_append.1 h with h|h
   ·obtain ⟨j,h1,h2⟩:=ih h
    exact ⟨j,by omega,h2⟩
   ·rw[List.mem_singleton.1 h];exact ⟨k,by omega,rfl,hc⟩
theorem qZ{ts:List Cell}{i k j:Nat}(hj:j<k)(hc:¬ okC (cj (ts.getD i ak) (ts.getD (i+1+j) ak))):(i,i+1+j)∈bg ts i k:=by
 induction k with
 |zero=>omega
 |succ k ih =>
  rcases Nat.lt_or_ge j k with h1|h1
  ·by_cases hk:okC (cj (ts.getD i ak) (ts.getD (i+1+k) ak))
   ·rw[kq hk];exact ih h1
   ·rw[ie hk];exact List.mem_append_left _ (ih h1)
  ·obtain rfl:j=k:=by omega
   rw[ie hc];exact List.mem_append_right _ (List.mem_singleton.2 rfl)
theorem lO{ts:List Cell}{n:Nat}(hn:n<=ts.length){q:Nat×Nat}:q∈conf ts n ↔ q.1<n/\q.1<q.2/\q.2<ts.length/\¬ okC (cj (ts.getD q.1 ak) (ts.getD q.2 ak)):=by
  induction n with
  | zero => constructor
            · intro h;cases h
            · rintro ⟨h,_⟩;omega
  | succ n ih =>
    show q∈conf ts n++bg ts n (ts.length-(n+1)) ↔ _
    rw[List.mem_append,ih (by omega)]
    constructor
    · rintro (⟨h1, h2, h3, h4⟩ | h)
      · exact ⟨by omega,h2,h3,h4⟩
      · obtain ⟨j, h1, rfl, h2⟩ := qk h
        exact ⟨by show n<n+1;omega,by show n<n+1+j;omega,by show n+1+j<_;omega,h2⟩
    · rintro ⟨h1, h2, h3, h4⟩
      rcases Nat.lt_or_ge q.1 n with h5|h5
      · exact .inl ⟨h5,h2,h3,h4⟩
      · right
        obtain ⟨a,b⟩:=q
        simp only at h1 h2 h3 h4 h5
        obtain rfl:a=n:=by omega
        have:=qZ (k:=ts.length-(a+1)) (j:=b-(a+1)) (by omega) (by rw[show a+1+(b-(a+1))=b by omega];exact h4)
        rw[show a+1+(b-(a+1))=b by omega]at this
        exact this
theorem meet_comm(a b:Cell):okC (cj a b) ↔ okC (cj b a):=by
 rw[okM,okM];exact ⟨fun h d=>by have:=h d;omega,fun h d=>by have:=h d;omega⟩
theorem meet_self{a:Cell}(h:dE a):okC (cj a a):=by
 rw[okM];intro d;have:=ji h d;omega
end
end Go.Proofs.YthcjliffpebjaaaGreat
namespace Go.Proofs.YthcjliffpebjaaaGreat
noncomputable section
attribute [local irreducible] vF
abbrev dB(l:List Bool):Value:=.iface (l.length+1) (.agg ⟨l.flatMap aN⟩)
def dBL(L:List (List Bool)):List Value:=L.map dB
def cK(p:List (Nat×Nat))(b:List Bool)(x:Nat):Bool:=(p.take x).all fun q=>q.2 != b.length || !b.getD q.1 false
def lst(p:List (Nat×Nat)):Nat->List Bool->List (List Bool)
 |0,b=>[b]
 |d+1,b=>(if cK p b p.length then lst p d (b ++ [true]) else [])++lst p d (b ++ [false])
def bP(l:List Bool)(x:Nat):Nat:=(l.take x).countP id
def bn(L:List (List Bool)):Nat->Nat
 |0=>0
 |x+1=>max (bn L x) (bP (L.getD x []) (L.getD x []).length)
def bM(L:List (List Bool))(k:Nat):Nat->List (List Bool)
 |0=>[]
 |x+1=>if bP (L.getD x []) (L.getD x []).length=k then bM L k x ++ [L.getD x []] else bM L k x
def aM(ts:List Cell):List (List Bool):=lst (conf ts ts.length) ts.length []
def bZ(ts:List Cell):List (List Bool):=bM (aM ts) (bn (aM ts) (aM ts).length) (aM ts).length
structure oo where
 w:Int
 h:Int
 hour:Int
 cells:List Cell
def dv:oo:=⟨0,0,0,[]⟩
def tab{Y:Type}(f:Nat->Y)(n:Nat):List Y:=(List.range n).map f
def yE(sp:Value)(w h t:Int)(cs:List Cell):Prop :=
 ((((w:Int) != w)=true->(.bool false:Value)=sp)/\(((w:Int) != w)=false->((((h:Int) != h)=true->(.bool false:Value)=sp)/\(((h:Int) != h)=false->((((t:Int) != t)=true->(.bool false:Value)=sp)/\(((t:Int) != t)=false->(((((((List.length cs):Nat):Int):Int) != (((List.length cs):Nat):Int))=true->(.bool false:Value)=sp)/\((((((List.length cs):Nat):Int):Int) != (((List.length cs):Nat):Int))=false->(true=true/\(0<=List.length cs)/\(true=true/\((.int .i64 0:Value) = .int .i64 ((0:Nat):Int)/\(.pointer (some ⟨2,0,none⟩):Value) = .pointer (some ⟨2,0,none⟩)/\(.pointer (some ⟨3,0,none⟩):Value) = .pointer (some ⟨3,0,none⟩)/\True)/\(True)/\(True)/\(True))/\(∀x0:Nat,true=true)/\∀x0:Nat,(x0<=List.length cs)->(((decide ((((x0:Nat):Int):Int)<(((List.length cs):Nat):Int)))=true->(((0:Int)<=((x0:Nat):Int)/\(((x0:Nat):Int):Int)<(((List.length cs):Nat):Int))/\((dl 8 (List.flatMap cellC cs) (0+Int.toNat ((x0:Nat):Int)*8)=some (.agg #[.int .i64 (List.getD cs x0 ak).ag.lo,.int .i64 (List.getD cs x0 ak).ag.hi,.int .i64 (List.getD cs x0 ak).ac.lo,.int .i64 (List.getD cs x0 ak).ac.hi,.int .i64 (List.getD cs x0 ak).ab.lo,.int .i64 (List.getD cs x0 ak).ab.hi,.int .i64 (List.getD cs x0 ak).aa.lo,.int .i64 (List.getD cs x0 ak).aa.hi]))/\(((0:Int)<=((x0:Nat):Int)/\(((x0:Nat):Int):Int)<(((List.length cs):Nat):Int))/\((dl 8 (List.flatMap cellC cs) (0+Int.toNat ((x0:Nat):Int)*8)=some (.agg #[.int .i64 (List.getD cs x0 ak).ag.lo,.int .i64 (List.getD cs x0 ak).ag.hi,.int .i64 (List.getD cs x0 ak).ac.lo,.int .i64 (List.getD cs x0 ak).ac.hi,.int .i64 (List.getD cs x0 ak).ab.lo,.int .i64 (List.getD cs x0 ak).ab.hi,.int .i64 (List.getD cs x0 ak).aa.lo,.int .i64 (List.getD cs x0 ak).aa.hi]))/\(((!(((((List.getD cs x0 ak).ag.lo:Int) == (List.getD cs x0 ak).ag.lo)&&((((List.getD cs x0 ak).ag.hi:Int) == (List.getD cs x0 ak).ag.hi)&&true))&&(((((List.getD cs x0 ak).ac.lo:Int) == (List.getD cs x0 ak).ac.lo)&&((((List.getD cs x0 ak).ac.hi:Int) == (List.getD cs x0 ak).ac.hi)&&true))&&(((((List.getD cs x0 ak).ab.lo:Int) == (List.getD cs x0 ak).ab.lo)&&((((List.getD cs x0 ak).ab.hi:Int) == (List.getD cs x0 ak).ab.hi)&&true))&&(((((List.getD cs x0 ak).aa.lo:Int) == (List.getD cs x0 ak).aa.lo)&&((((List.getD cs x0 ak).aa.hi:Int) == (List.getD cs x0 ak).aa.hi)&&true))&&true)))))=true->(.bool false:Value)=sp)/\((!(((((List.getD cs x0 ak).ag.lo:Int) == (List.getD cs x0 ak).ag.lo)&&((((List.getD cs x0 ak).ag.hi:Int) == (List.getD cs x0 ak).ag.hi)&&true))&&(((((List.getD cs x0 ak).ac.lo:Int) == (List.getD cs x0 ak).ac.lo)&&((((List.getD cs x0 ak).ac.hi:Int) == (List.getD cs x0 ak).ac.hi)&&true))&&(((((List.getD cs x0 ak).ab.lo:Int) == (List.getD cs x0 ak).ab.lo)&&((((List.getD cs x0 ak).ab.hi:Int) == (List.getD cs x0 ak).ab.hi)&&true))&&(((((List.getD cs x0 ak).aa.lo:Int) == (List.getD cs x0 ak).aa.lo)&&((((List.getD cs x0 ak).aa.hi:Int) == (List.getD cs x0 ak).aa.hi)&&true))&&true)))))=false->((.int .i64 (IntKind.wrap .i64 (((x0:Nat):Int)+1)):Value) = .int .i64 (((x0:Nat):Int)+1)/\(∃x0':Nat,(x0'<=List.length cs)/\(List.length cs-x0')<(List.length cs-x0)/\true=true/\((.int .i64 (((x0:Nat):Int)+1):Value) = .int .i64 ((x0':Nat):Int)/\(.pointer (some ⟨2,0,none⟩):Value) = .pointer (some ⟨2,0,none⟩)/\(.pointer (some ⟨3,0,none⟩):Value) = .pointer (some ⟨3,0,none⟩)/\True)/\(True)/\(True)/\(True))))))))))/\((decide ((((x0:Nat):Int):Int)<(((List.length cs):Nat):Int)))=false->(.bool true:Value)=sp)))))))))))
theorem AQ(sp:Value)(w h t:Int)(cs:List Cell):vF prog msk (dm 0) 100000 true 40 true 53 [.agg #[.int .i64 w,.int .i64 h,.int .i64 t,.slice (some ⟨0,0,some 2⟩) (List.length cs) (List.length cs)],.agg #[.int .i64 w,.int .i64 h,.int .i64 t,.slice (some ⟨1,0,some 2⟩) (List.length cs) (List.length cs)]] (bi 0 [cs.flatMap cellC,cs.flatMap cellC]) (some [])
 (.go 8 (.az (.auto) (.go 6 (.az (.auto) (.go 6 (.az (.auto) (.go 7 (.fork (.auto) (.go 0 (.inv 3 (Nat) (0) [] [] (fun x0=>[(5,.int .i64 ((x0:Nat):Int)),(2,.pointer (some ⟨2,0,none⟩)),(3,.pointer (some ⟨3,0,none⟩))]) (fun x0=>[]) (fun x0=>[]) (fun x0=>[]) (fun x0=>(x0<=List.length cs)) (fun x0=>(List.length cs-x0)) (fun x0 => .go 4 (.fork (.go 2 (.need (.val (.agg #[.int .i64 (List.getD cs x0 ak).ag.lo,.int .i64 (List.getD cs x0 ak).ag.hi,.int .i64 (List.getD cs x0 ak).ac.lo,.int .i64 (List.getD cs x0 ak).ac.hi,.int .i64 (List.getD cs x0 ak).ab.lo,.int .i64 (List.getD cs x0 ak).ab.hi,.int .i64 (List.getD cs x0 ak).aa.lo,.int .i64 (List.getD cs x0 ak).aa.hi]) (.go 2 (.need (.val (.agg #[.int .i64 (List.getD cs x0 ak).ag.lo,.int .i64 (List.getD cs x0 ak).ag.hi,.int .i64 (List.getD cs x0 ak).ac.lo,.int .i64 (List.getD cs x0 ak).ac.hi,.int .i64 (List.getD cs x0 ak).ab.lo,.int .i64 (List.getD cs x0 ak).ab.hi,.int .i64 (List.getD cs x0 ak).aa.lo,.int .i64 (List.getD cs x0 ak).aa.hi]) (.go 0 (.fork (.auto) (.go 1 (.slot 40 (.int .i64 (((x0:Nat):Int)+1)) (.go 0 (.again [])))))))))))) (.auto)))))))))))))
 (fun v _ _=>v=sp)=yE sp w h t cs:=by kernel_rfl
theorem cL(c:Cell):(cellC c).length=8:=rfl
theorem vD{xs:List Cell}{x:Nat}(h:x<xs.length):dl 8 (List.flatMap cellC xs) (0+Int.toNat ((x:Nat):Int)*8)=some (.agg ⟨cellC (List.getD xs x ak)⟩) :=
 oL (f:=cellC) (d:=ak) (c:=0) (m:=8) cL h (by rw[Int.toNat_natCast];omega) (by decide)
theorem bE(n:Nat)(l:List Cell):(l.flatMap cellC).all (aS n)=true:=du (fun _=>rfl) l
theorem yK{H:Heap}{id id2:Nat}{own e9:Bool}{z z2:Nat}{cs ds:List Value}(h1:H[id]?=some (.cells own z cs))(h2:H[id2]?=some (.cells e9 z2 ds)):∀(k:Nat) (c:List Value),[cs,ds][k]?=some c->∃id' own z,[id,id2][k]?=some id'/\H[id']?=some (ae.cells own z c):=by
 intro k c h
 match k with
 |0=>cases h;exact ⟨id,own,z,rfl,h1⟩
 |1=>cases h;exact ⟨id2,e9,z2,rfl,h2⟩
theorem yL{cs ds:List Value}(h1:cs.all (aS 0)=true)(h2:ds.all (aS 0)=true):∀c ∈ [cs,ds],c.all (aS 0)=true:=by
 intro c hc
 rcases List.mem_cons.1 hc with rfl|hc
 ·exact h1
 ·rw[List.mem_singleton.1 hc];exact h2
theorem yv(w v t:Int)(cs:List Cell)(hn:cs.length<=2 ^ 30){H:Heap}{id id2:Nat}{own e9:Bool}{z z2:Nat}(hid:H[id]?=some (.cells own z (cs.flatMap cellC)))(wl:H[id2]?=some (.cells e9 z2 (cs.flatMap cellC))) :
  ap prog F.jo [.agg #[.int .i64 w,.int .i64 v,.int .i64 t,.slice (some ⟨id,0,some 2⟩) cs.length cs.length],.agg #[.int .i64 w,.int .i64 v,.int .i64 t,.slice (some ⟨id2,0,some 2⟩) cs.length cs.length]] H [] (Is (.bool true) H):=by
 refine ua (Eq.mpr (AQ _ w v t cs) ?_) (yL (bE 0 cs) (bE 0 cs)) rfl [id,id2] rfl (yK hid wl)
 unfold yE
 repeat' first|(refine jJ (by simp only[bne_self_eq_false,BEq.rfl,Bool.and_self,Bool.not_true]) ?_)|(refine ⟨rfl,Nat.zero_le _,?_,fun _=>rfl,?_⟩)|exact trivial|exact rfl|exact aw _|refine av ?_|refine aA ?_ ?_|exact aG|exact aL _ _ _ (.inl rfl)|(exact bw (by omega))|refine aE ?_|refine aD ?_|refine aQ ?_ ?_ ?_|refine aP ?_ ?_ ?_|refine toMax ?_|refine toMin ?_|refine ⟨rfl,?_⟩|refine ⟨trivial,?_⟩|(refine aH (fun h =>?_) (fun h =>?_))|(refine aJ (fun h =>?_) (fun h =>?_))|(refine aI (fun h =>?_) (fun h =>?_))|refine aC ?_|(refine ⟨aB (by omega),?_⟩)|(refine And.intro (by omega) ?_)|apply And.intro|(exact iEq (by omega))|(exact aB (by omega))
 intro x hx
 refine aH (fun hl =>?_) (fun hl =>?_)
 ·have hlt:x<cs.length:=by omega
  repeat' first|refine ⟨vD hlt,?_⟩|(refine jJ (by simp only[bne_self_eq_false,BEq.rfl,Bool.and_self,Bool.not_true]) ?_)|(refine ⟨x+1,by omega,by omega,?_⟩)|exact trivial|exact rfl|exact aw _|refine av ?_|refine aA ?_ ?_|exact aG|exact aL _ _ _ (.inl rfl)|(exact bw (by omega))|refine aE ?_|refine aD ?_|refine aQ ?_ ?_ ?_|refine aP ?_ ?_ ?_|refine toMax ?_|refine toMin ?_|refine ⟨rfl,?_⟩|refine ⟨trivial,?_⟩|(refine aH (fun h =>?_) (fun h =>?_))|(refine aJ (fun h =>?_) (fun h =>?_))|(refine aI (fun h =>?_) (fun h =>?_))|refine aC ?_|(refine ⟨aB (by omega),?_⟩)|(refine And.intro (by omega) ?_)|apply And.intro|(exact iEq (by omega))|(exact aB (by omega))
 ·rfl
end
end Go.Proofs.YthcjliffpebjaaaGreat
namespace Go.K
section
variable {κ β:Type} [DecidableEq κ]
def bT(k:κ)(v:β):List (κ×β)->List (κ×β)
 | [] => [(k,v)]
 |e :: F=>if e.1=k then (k,v) :: F else e :: bT k v F
def eA(k:κ)(d:β):List (κ×β)->β
 | [] =>d
 |e :: F=>if e.1=k then e.2 else eA k d F
def cJ(k:κ):List (κ×β)->Bool
 | [] =>false
 |e :: F=>if e.1=k then true else cJ k F
def ct(k:κ):List (κ×β)->Nat
 | [] =>0
 |e :: F=>if e.1=k then 0 else ct k F+1
def bL(key:κ->Value)(val:β->Value)(F:List (κ×β)):List (Value×Value):=F.map fun e=>(key e.1,val e.2)
omit [DecidableEq κ] in
theorem mI(key:κ->Value)(val:β->Value)(F:List (κ×β)):(bL key val F).length=F.length:=List.length_map ..
theorem qK(k:κ):∀(F:List (κ×β)),cJ k F=true ↔ k∈F.map (·.1)
 | [] =>by simp[cJ]
 |e :: F=>by
  unfold cJ
  by_cases h:e.1=k
  ·rw[if_pos h];simp[h]
  ·rw[if_neg h,qK k F,List.map_cons,List.mem_cons]
   exact ⟨fun x=>Or.inr x,fun x=>x.resolve_left fun q=>h q.symm⟩
theorem jI(k:κ)(d:β):∀(F:List (κ×β)),cJ k F=false->eA k d F=d
 | [],_=>rfl
 |e :: F,h=>by
  unfold cJ at h;unfold eA
  by_cases q:e.1=k
  ·rw[if_pos q]at h;cases h
  ·rw[if_neg q]at h ⊢;exact jI k d F h
theorem tc(k:κ)(v:β):∀(F:List (κ×β)),cJ k F=false->bT k v F=F ++ [(k,v)]
 | [],_=>rfl
 |e :: F,h=>by
  unfold cJ at h;unfold bT
  by_cases q:e.1=k
  ·rw[if_pos q]at h;cases h
  ·rw[if_neg q]at h ⊢;rw[tc k v F h];rfl
theorem jH(k k':κ)(v d:β):∀(F:List (κ×β)),eA k' d (bT k v F)=if k'=k then v else eA k' d F
 | [] =>by
  unfold bT eA
  by_cases h:k=k'
  ·rw[if_pos h,if_pos h.symm]
  ·rw[if_neg h,if_neg fun q=>h q.symm];rfl
 |e :: F=>by
  unfold bT
  by_cases q:e.1=k
  ·rw[if_pos q]
   unfold eA
   by_cases h:k=k'
   ·rw[if_pos h,if_pos h.symm]
   ·rw[if_neg h,if_neg fun q=>h q.symm,q,if_neg h]
  ·rw[if_neg q]
   unfold eA
   by_cases h:e.1=k'
   ·rw[if_pos h,if_pos h,if_neg (fun x=>q (h.trans x))]
   ·rw[if_neg h,if_neg h,jH k k' v d F]
theorem qJ(k k':κ)(v:β):∀(F:List (κ×β)),cJ k' (bT k v F)=(decide (k'=k) ||cJ k' F)
 | [] =>by
  unfold bT cJ
  by_cases h:k=k'
  ·rw[if_pos h,decide_eq_true h.symm];rfl
  ·rw[if_neg h,decide_eq_false fun q=>h q.symm];rfl
 |e :: F=>by
  unfold bT
  by_cases q:e.1=k
  ·rw[if_pos q]
   unfold cJ
   by_cases h:k=k'
   ·rw[if_pos h,decide_eq_true h.symm];rfl
   ·rw[if_neg h,decide_eq_false (fun q=>h q.symm),q,if_neg h];rfl
  ·rw[if_neg q]
   unfold cJ
   by_cases h:e.1=k'
   ·rw[if_pos h,if_pos h,Bool.or_true]
   ·rw[if_neg h,if_neg h,qJ k k' v F]
variable {P:Program} {kt:TypeId} {key:κ->Value} {val:β->Value}
theorem oZ(hk:∀a b,cb P Op.maxDepth kt (key a) (key b)=some (decide (a=b)))(k:κ)(d:β):∀(F:List (κ×β)) (i:Nat),
  eT P kt (key k) (bL key val F) i=some (if cJ k F=true then some (i+ct k F,val (eA k d F)) else none)
 | [],i=>rfl
 |e :: F,i=>by
  show (match cb P Op.maxDepth kt (key k) (key e.1) with|some true=>_|some false=>eT P kt (key k) (bL key val F) (i+1)|none=>none)=_
  rw[hk]
  unfold cJ eA ct
  by_cases h:e.1=k
  ·rw[decide_eq_true h.symm,if_pos h,if_pos h,if_pos h,if_pos rfl];rfl
  ·rw[decide_eq_false fun q=>h q.symm,if_neg h,if_neg h,if_neg h]
   show eT P kt (key k) (bL key val F) (i+1)=_
   rw[oZ hk k d F (i+1),show i+1+ct k F=i+(ct k F+1) by omega]
theorem vR(hk:∀a b,cb P Op.maxDepth kt (key a) (key b)=some (decide (a=b)))(k:κ)(d:β){z:Value}(hz:val d=z)(ok:Bool)(F:List (κ×β)) :
  fT P kt z (key k) ok (bL key val F)=some (uy ok (val (eA k d F)) (cJ k F)):=by
 unfold fT
 rw[oZ hk k d F 0]
 cases h:cJ k F with
 |true=>rw[if_pos rfl]
 |false=>rw[if_neg (by simp),jI k d F h,hz]
theorem tI(k:κ):∀(F:List (κ×β)),cJ k F=true->∃v,(bL key val F)[ct k F]?=some (key k,v)
 | [],h=>by cases h
 |e :: F,h=>by
  unfold cJ at h;unfold ct
  by_cases q:e.1=k
  ·rw[if_pos q];exact ⟨val e.2,by rw[<- q];rfl⟩
  ·rw[if_neg q]at h ⊢
   obtain ⟨v,hv⟩:=tI k F h
   exact ⟨v,by rw[<- hv];rfl⟩
theorem qS(k:κ)(v:β):∀(F:List (κ×β)),cJ k F=true->(bL key val F).set (ct k F) (key k,val v)=bL key val (bT k v F)
 | [],h=>by cases h
 |e :: F,h=>by
  unfold cJ at h;unfold ct bT
  by_cases q:e.1=k
  ·rw[if_pos q,if_pos q];rfl
  ·rw[if_neg q]at h ⊢
   rw[if_neg q]
   show (key e.1,val e.2) :: (bL key val F).set (ct k F) (key k,val v)=_
   rw[qS k v F h];rfl
omit [DecidableEq κ] in
theorem xP{F:List (κ×β)}{i:Nat}(d:κ×β)(h:i<F.length)(seen:List Nat):i5 (bL key val F) (seen ++ [i])=some (.tuple #[key (F.getD i d).1,val (F.getD i d).2]):=by
 unfold i5
 rw[List.getLast?_concat]
 simp[bL,h]
end
end Go.K
namespace Go.K
noncomputable section
structure Tb where
 ks:Nat->Nat
 hs:List Value
 ms:List Value
def kF(v:Value):Prop:=∀U:Nat->Option Nat,rn U 3 v=v
structure mN{Y:Type}(F z n:Nat)(enc:Y->List Value)(rows:Nat->List Y)(T:Tb):Prop where
 hl:T.hs.length=n
 m0:T.ms[0]?=some (.int .i64 (z:Int))
 fx:∀v∈T.ms,kF v
 hd:∀t,t<n->T.hs[t]?=some (cV (rows t).length F (T.ks t))
 rw:∀t,t<n->0<(rows t).length->T.ms[T.ks t+1]?=some (.agg ⟨(rows t).flatMap enc⟩)
 dj:∀t u,t<n->u<n->t≠u->0<(rows t).length->0<(rows u).length->T.ks t≠T.ks u
def Tb.new(F z n:Nat):Tb:=⟨fun _=>0,List.replicate n (cV 0 F 0),[.int .i64 (z:Int)]⟩
theorem mN.new{Y:Type}(F z n:Nat)(enc:Y->List Value):mN F z n enc (fun _=>[]) (Tb.new F z n):=by
 refine ⟨List.length_replicate,rfl,fun v hv U =>?_,fun t ht =>?_,fun t _ h=>absurd h (Nat.lt_irrefl 0),fun t u _ _ _ h=>absurd h (Nat.lt_irrefl 0)⟩
 ·cases List.mem_singleton.1 hv;rfl
 ·show (List.replicate n _)[t]?=_
  rw[List.getElem?_replicate,if_pos ht];rfl
theorem gL(r k:Nat)(ms:List Value):(ba r k ms).length=ms.length:=by
 cases r with
 |zero=>rfl
 |succ r=>exact List.length_set
theorem rH:kF junk:=fun _=>rfl
theorem gM{r k:Nat}{ms:List Value}(h:∀v∈ms,kF v):∀v∈ba r k ms,kF v:=by
 cases r with
 |zero=>exact h
 |succ r =>
  intro v hv
  rcases List.mem_or_eq_of_mem_set hv with hv|rfl
  ·exact h v hv
  ·exact rH
theorem nl{cs:List Value}(h:∀(U:Nat->Option Nat),∀v∈cs,rn U 2 v=v):kF (.agg ⟨cs⟩):=fun U=>by
 show Value.agg ⟨cs.map (rn U 2)⟩=_
 rw[List.map_congr_left (h U),List.map_id']
theorem mN.lt{Y:Type}{F z n:Nat}{enc:Y->List Value}{rows:Nat->List Y}{T:Tb}(I:mN F z n enc rows T){t:Nat}(ht:t<n)(h:0<(rows t).length):T.ks t+1<T.ms.length:=(List.getElem?_eq_some_iff.1 (I.rw t ht h)).1
theorem mN.pos{Y:Type}{F z n:Nat}{enc:Y->List Value}{rows:Nat->List Y}{T:Tb}(I:mN F z n enc rows T):0<T.ms.length:=(List.getElem?_eq_some_iff.1 I.m0).1
def Tb.put(F t r:Nat)(row:List Value)(q:Nat)(T:Tb):Tb:=⟨fun j=>if j=t then T.ms.length-1 else T.ks j,T.hs.set t (cV q F (T.ms.length-1)),b9 q (ba r (T.ks t) T.ms) row⟩
theorem mN.put{Y:Type}{F z n:Nat}{enc:Y->List Value}{rows:Nat->List Y}{T:Tb}(I:mN F z n enc rows T){t:Nat}(ht:t<n)(l:List Y)(hf:∀(U:Nat->Option Nat) (x:Y),∀v∈enc x,rn U 2 v=v){row:List Value}(e:row=l.flatMap enc) :
  mN F z n enc (fun j=>if j=t then l else rows j) (T.put F t (rows t).length row l.length):=by
 subst e
 have hp:=I.pos
 have hfx:=gM (r:=(rows t).length) (k:=T.ks t) I.fx
 have hll:=gL (rows t).length (T.ks t) T.ms
 have hle:∀j,j<n->j≠t->0<(rows j).length->(ba (rows t).length (T.ks t) T.ms)[T.ks j+1]?=T.ms[T.ks j+1]? := fun j hj hne h=>by
  cases hr:(rows t).length with
  |zero=>rfl
  |succ r =>
   show (T.ms.set (T.ks t+1) junk)[_]?=_
   rw[List.getElem?_set_ne fun e=>I.dj t j ht hj (Ne.symm hne) (by omega) h (by omega)]
 have h0:(ba (rows t).length (T.ks t) T.ms)[0]?=T.ms[0]? := by
  cases hr:(rows t).length with
  |zero=>rfl
  |succ r=>exact List.getElem?_set_ne (by omega)
 have hm:∀(i:Nat) (v:Value),(ba (rows t).length (T.ks t) T.ms)[i]?=some v->(b9 l.length (ba (rows t).length (T.ks t) T.ms) (l.flatMap enc))[i]?=some v:=fun i v h=>by
  cases hq:l.length with
  |zero=>exact h
  |succ q =>
   show (_ ++ [_])[i]?=_
   rw[List.getElem?_append_left (List.getElem?_eq_some_iff.1 h).1];exact h
 refine ⟨?_,?_,?_,?_,?_,?_⟩
 ·show (T.hs.set _ _).length=n
  rw[List.length_set];exact I.hl
 ·exact hm _ _ (h0.trans I.m0)
 ·intro v hv
  have hv:v∈b9 l.length (ba (rows t).length (T.ks t) T.ms) (l.flatMap enc):=hv
  cases hq:l.length with
  |zero=>rw[hq]at hv;exact hfx v hv
  |succ q =>
   rw[hq]at hv
   rcases List.mem_append.1 hv with hv|hv
   ·exact hfx v hv
   ·cases List.mem_singleton.1 hv
    refine nl fun U v hv =>?_
    obtain ⟨x,_,hx⟩:=List.mem_flatMap.1 hv
    exact hf U x v hx
 ·intro j hj
  show (T.hs.set t _)[j]?=some (cV (if j=t then l else rows j).length F (if j=t then _ else _))
  by_cases h:j=t
  ·subst h
   rw[if_pos rfl,if_pos rfl,List.getElem?_set_self (by rw[I.hl];exact ht)]
  ·rw[if_neg h,if_neg h,List.getElem?_set_ne (Ne.symm h)];exact I.hd j hj
 ·intro j hj hl
  show (b9 _ _ _)[(if j=t then T.ms.length-1 else T.ks j)+1]?=some (.agg ⟨(if j=t then l else rows j).flatMap enc⟩)
  by_cases h:j=t
  ·subst h
   rw[if_pos rfl]at hl
   rw[if_pos rfl,if_pos rfl]
   cases hq:l.length with
   |zero=>omega
   |succ q =>
    show (_ ++ [_])[_]?=_
    rw[List.getElem?_append_right (by omega),show T.ms.length-1+1-(ba (rows j).length (T.ks j) T.ms).length=0 by omega];rfl
  ·rw[if_neg h]at hl
   rw[if_neg h,if_neg h]
   exact hm _ _ ((hle j hj h hl).trans (I.rw j hj hl))
 ·intro j u hj hu hne h1 h2
  show (if j=t then T.ms.length-1 else T.ks j)≠(if u=t then T.ms.length-1 else T.ks u)
  by_cases a:j=t
  ·have b:¬ u=t:=fun b=>hne (a.trans b.symm)
   rw[if_neg b]at h2
   rw[if_pos a,if_neg b]
   have:=I.lt hu h2;omega
  ·rw[if_neg a]at h1
   rw[if_neg a]
   by_cases b:u=t
   ·rw[if_pos b]
    have:=I.lt hj h1;omega
   ·rw[if_neg b]at h2
    rw[if_neg b];exact I.dj j u hj hu hne h1 h2
theorem yO{U:Nat->Option Nat}{F:Nat}(h:U F=some F)(n k:Nat):rn U 3 (cV n F k)=cV n F k:=by
 show (match U F with|some id'=>Value.iface (n+1) (.pointer (some ⟨id',0,some (k+3)⟩))|none=>_)=_
 rw[h]
theorem mN.wkM{Y:Type}{F z n:Nat}{enc:Y->List Value}{rows:Nat->List Y}{T:Tb}(I:mN F z n enc rows T){U:Nat->Option Nat}{ms:List Value}(e:ms=T.ms):wkO (.fam 0 ms) (rno U 3 (.fam 0 T.ms)):=by
 refine gZ ?_
 subst e
 show _=ae.fam 0 (T.ms.map (rn U 3))
 rw[List.map_congr_left fun v hv=>I.fx v hv U,List.map_id']
end
end Go.K
namespace Go.K
section
variable {κ β:Type} [DecidableEq κ]
theorem p5(k:κ)(u v:β):∀F:List (κ×β),bT k v (bT k u F)=bT k v F
 | [] =>by show (if k=k then [(k,v)] else _)=[(k,v)];rw[if_pos rfl]
 |e :: F=>by
  show bT k v (if e.1=k then (k,u) :: F else e :: bT k u F)=if e.1=k then (k,v) :: F else e :: bT k v F
  by_cases q:e.1=k
  ·rw[if_pos q,if_pos q];show (if k=k then (k,v) :: F else _)=_;rw[if_pos rfl]
  ·rw[if_neg q,if_neg q];show (if e.1=k then _ else e :: bT k v (bT k u F))=_;rw[if_neg q,p5 k u v F]
theorem qT(key:κ->Value)(val:β->Value)(k:κ)(d:β):∀F:List (κ×β),cJ k F=true->(bL key val F)[ct k F]?=some (key k,val (eA k d F))
 | [],h=>by cases h
 |e :: F,h=>by
  unfold cJ at h;unfold ct eA
  by_cases q:e.1=k
  ·rw[if_pos q,if_pos q];show some (key e.1,val e.2)=_;rw[q]
  ·rw[if_neg q]at h ⊢;rw[if_neg q]
   show (bL key val F)[ct k F]?=_
   exact qT key val k d F h
theorem dP(key:κ->Value)(val:β->Value)(k:κ)(v:β):∀F:List (κ×β),(bL key val (bT k v F))[ct k F]?=some (key k,val v)
 | [] =>rfl
 |e :: F=>by
  unfold ct bT
  by_cases q:e.1=k
  ·rw[if_pos q,if_pos q];rfl
  ·rw[if_neg q,if_neg q]
   show (bL key val (bT k v F))[ct k F]?=_
   exact dP key val k v F
theorem dO(key:κ->Value)(val:β->Value)(k:κ)(u v:β):∀F:List (κ×β),(bL key val (bT k u F)).set (ct k F) (key k,val v)=bL key val (bT k v F)
 | [] =>rfl
 |e :: F=>by
  unfold ct bT
  by_cases q:e.1=k
  ·rw[if_pos q,if_pos q,if_pos q];rfl
  ·rw[if_neg q,if_neg q,if_neg q]
   show (key e.1,val e.2) :: (bL key val (bT k u F)).set (ct k F) _=(key e.1,val e.2) :: bL key val (bT k v F)
   rw[dO key val k u v F]
theorem nq(k:κ)(v:β)(j:κ):∀F:List (κ×β),j∈(bT k v F).map (·.1) ↔ j=k∨j∈F.map (·.1)
 | [] =>by unfold bT;simp
 |e :: F=>by
  unfold bT
  by_cases q:e.1=k
  ·rw[if_pos q];simp only[List.map_cons,List.mem_cons,q]
   exact ⟨fun h=>h.elim .inl fun h => .inr (.inr h),fun h=>h.elim .inl fun h=>h⟩
  ·rw[if_neg q];simp only[List.map_cons,List.mem_cons,nq k v j F]
   exact ⟨fun h=>h.elim (fun h => .inr (.inl h)) fun h=>h.elim .inl fun h => .inr (.inr h),fun h=>h.elim (fun h => .inr (.inl h)) fun h=>h.elim .inl fun h => .inr (.inr h)⟩
theorem lE(k:κ)(v:β):∀F:List (κ×β),(F.map (·.1)).Nodup->((bT k v F).map (·.1)).Nodup
 | [],_=>by unfold bT;simp
 |e :: F,h=>by
  rw[List.map_cons,List.nodup_cons]at h
  unfold bT
  by_cases q:e.1=k
  ·rw[if_pos q,List.map_cons,List.nodup_cons];rw[q]at h;exact h
  ·rw[if_neg q,List.map_cons,List.nodup_cons]
   exact ⟨fun hm=>((nq k v e.1 F).1 hm).elim q h.1,lE k v F h.2⟩
theorem po(d:β):∀{F:List (κ×β)} {i:Nat} {k:κ} {v:β},(F.map (·.1)).Nodup->F[i]?=some (k,v)->cJ k F=true/\eA k d F=v
 | [],i,k,v,_,h=>by cases h
 |e :: F,0,k,v,_,h=>by
  cases h
  unfold cJ eA
  rw[if_pos rfl,if_pos rfl];exact ⟨rfl,rfl⟩
 |e :: F,i+1,k,v,hn,h=>by
  rw[List.map_cons,List.nodup_cons]at hn
  have h':F[i]?=some (k,v):=h
  have hm:k∈F.map (·.1):=List.mem_map.2 ⟨(k,v),List.mem_of_getElem? h',rfl⟩
  have q:¬ e.1=k:=fun q=>hn.1 (q ▸ hm)
  unfold cJ eA
  rw[if_neg q,if_neg q]
  exact po d hn.2 h'
end
structure Mb(κ:Type) where
 A:List (κ×Value)
 ks:κ->Nat
 ms:List Value
structure MbI{κ Y:Type}[DecidableEq κ](F z:Nat)(enc:Y->List Value)(rows:κ->List Y)(T:Mb κ):Prop where
 nd:(T.A.map (·.1)).Nodup
 m0:T.ms[0]?=some (.int .i64 (z:Int))
 fx:∀v∈T.ms,kF v
 has:∀k,cJ k T.A=decide (0<(rows k).length)
 vl:∀k d,0<(rows k).length->eA k d T.A=cV (rows k).length F (T.ks k)
 rw:∀k,0<(rows k).length->T.ms[T.ks k+1]?=some (.agg ⟨(rows k).flatMap enc⟩)
 dj:∀k l,k≠l->0<(rows k).length->0<(rows l).length->T.ks k≠T.ks l
section
variable {κ Y:Type} [DecidableEq κ] {F z:Nat} {enc:Y->List Value} {rows:κ->List Y} {T:Mb κ}
def Mb.new(κ:Type)(z:Nat):Mb κ:=⟨[],fun _=>0,[.int .i64 (z:Int)]⟩
theorem MbI.new(F z:Nat)(enc:Y->List Value):MbI F z enc (fun _:κ=>[]) (Mb.new κ z):=by
 refine ⟨List.nodup_nil,rfl,fun v hv U =>?_,fun k=>rfl,fun k d h=>absurd h (Nat.lt_irrefl 0),fun k h=>absurd h (Nat.lt_irrefl 0),fun k l _ h=>absurd h (Nat.lt_irrefl 0)⟩
 cases List.mem_singleton.1 hv;rfl
theorem MbI.pos(I:MbI F z enc rows T):0<T.ms.length:=(List.getElem?_eq_some_iff.1 I.m0).1
theorem MbI.lt(I:MbI F z enc rows T){k:κ}(h:0<(rows k).length):T.ks k+1<T.ms.length:=(List.getElem?_eq_some_iff.1 (I.rw k h)).1
def Mb.put(F:Nat)(t:κ)(r:Nat)(row:List Value)(q:Nat)(T:Mb κ):Mb κ:=⟨bT t (cV q F (T.ms.length-1)) T.A,fun j=>if j=t then T.ms.length-1 else T.ks j,b9 q (ba r (T.ks t) T.ms) row⟩
theorem MbI.put(I:MbI F z enc rows T)(t:κ)(l:List Y)(h0:0<l.length)(hf:∀(U:Nat->Option Nat) (x:Y),∀v∈enc x,rn U 2 v=v){row:List Value}(e:row=l.flatMap enc) :
  MbI F z enc (fun j=>if j=t then l else rows j) (T.put F t (rows t).length row l.length):=by
 subst e
 have hp:=I.pos
 have hfx:=gM (r:=(rows t).length) (k:=T.ks t) I.fx
 have hll:=gL (rows t).length (T.ks t) T.ms
 have hle:∀j,j≠t->0<(rows j).length->(ba (rows t).length (T.ks t) T.ms)[T.ks j+1]?=T.ms[T.ks j+1]? := fun j hne h=>by
  cases hr:(rows t).length with
  |zero=>rfl
  |succ r =>
   show (T.ms.set (T.ks t+1) junk)[_]?=_
   rw[List.getElem?_set_ne fun e=>I.dj t j (Ne.symm hne) (by omega) h (by omega)]
 have hz0:(ba (rows t).length (T.ks t) T.ms)[0]?=T.ms[0]? := by
  cases hr:(rows t).length with
  |zero=>rfl
  |succ r=>exact List.getElem?_set_ne (by omega)
 have hmr:b9 l.length (ba (rows t).length (T.ks t) T.ms) (l.flatMap enc)=ba (rows t).length (T.ks t) T.ms ++ [.agg ⟨l.flatMap enc⟩]:=by
  cases hq:l.length with
  |zero=>omega
  |succ q=>rfl
 refine ⟨lE _ _ _ I.nd,?_,?_,fun k =>?_,fun k d hk =>?_,fun k hk =>?_,fun k u hne h1 h2 =>?_⟩
 ·show (b9 _ _ _)[0]?=_
  rw[hmr,List.getElem?_append_left (by omega),hz0];exact I.m0
 ·intro v hv
  have hv:v∈b9 l.length (ba (rows t).length (T.ks t) T.ms) (l.flatMap enc):=hv
  rw[hmr]at hv
  rcases List.mem_append.1 hv with hv|hv
  ·exact hfx v hv
  ·cases List.mem_singleton.1 hv
   refine nl fun U v hv =>?_
   obtain ⟨x,_,hx⟩:=List.mem_flatMap.1 hv
   exact hf U x v hx
 ·show cJ k (bT t _ T.A)=_
  rw[qJ,I.has]
  by_cases h:k=t
  ·rw[if_pos h,decide_eq_true h,decide_eq_true h0];rfl
  ·rw[if_neg h,decide_eq_false h];rfl
 ·show eA k d (bT t _ T.A)=cV (if k=t then l else rows k).length F (if k=t then _ else _)
  rw[jH]
  by_cases h:k=t
  ·rw[if_pos h,if_pos h,if_pos h]
  ·rw[if_neg h]at hk
   rw[if_neg h,if_neg h,if_neg h];exact I.vl k d hk
 ·show (b9 _ _ _)[(if k=t then T.ms.length-1 else T.ks k)+1]?=some (.agg ⟨(if k=t then l else rows k).flatMap enc⟩)
  rw[hmr]
  by_cases h:k=t
  ·rw[if_pos h,if_pos h,List.getElem?_append_right (by omega),show T.ms.length-1+1-(ba (rows t).length (T.ks t) T.ms).length=0 by omega];rfl
  ·rw[if_neg h]at hk
   rw[if_neg h,if_neg h,List.getElem?_append_left (by have:=I.lt hk;omega),hle k h hk]
   exact I.rw k hk
 ·show (if k=t then T.ms.length-1 else T.ks k)≠(if u=t then T.ms.length-1 else T.ks u)
  by_cases a:k=t
  ·have b:¬ u=t:=fun b=>hne (a.trans b.symm)
   rw[if_neg b]at h2
   rw[if_pos a,if_neg b]
   have:=I.lt h2;omega
  ·rw[if_neg a]at h1
   rw[if_neg a]
   by_cases b:u=t
   ·rw[if_pos b]
    have:=I.lt h1;omega
   ·rw[if_neg b]at h2
    rw[if_neg b];exact I.dj k u hne h1 h2
end
end Go.K
namespace Go.K
section
variable {κ β:Type} [DecidableEq κ]
theorem qE(k:κ)(v:β):∀F:List (κ×β),ct k (bT k v F)=ct k F
 | [] =>by show (if k=k then 0 else _)=0;rw[if_pos rfl]
 |e :: F=>by
  show ct k (if e.1=k then (k,v) :: F else e :: bT k v F)=if e.1=k then 0 else ct k F+1
  by_cases q:e.1=k
  ·rw[if_pos q,if_pos q];show (if k=k then 0 else _)=0;rw[if_pos rfl]
  ·rw[if_neg q,if_neg q];show (if e.1=k then 0 else ct k (bT k v F)+1)=_;rw[if_neg q,qE k v F]
theorem tt(k:κ):∀F:List (κ×β),cJ k F=false->ct k F=F.length
 | [],_=>rfl
 |e :: F,h=>by
  unfold cJ at h
  show (if e.1=k then 0 else ct k F+1)=_
  by_cases q:e.1=k
  ·rw[if_pos q]at h;cases h
  ·rw[if_neg q]at h ⊢;rw[tt k F h];rfl
theorem p6(k:κ)(d:β):∀F:List (κ×β),cJ k F=true->bT k (eA k d F) F=F
 | [],h=>by cases h
 |e :: F,h=>by
  unfold cJ at h
  show (if e.1=k then (k,eA k d (e :: F)) :: F else e :: bT k (eA k d (e :: F)) F)=_
  have g:eA k d (e :: F)=if e.1=k then e.2 else eA k d F:=rfl
  by_cases q:e.1=k
  ·rw[if_pos q,g,if_pos q,<- q]
  ·rw[if_neg q]at h
   rw[if_neg q,g,if_neg q,p6 k d F h]
variable {P:Program} {kt:TypeId} {key:κ->Value} {val:β->Value}
theorem yz(hk:∀a b,cb P Op.maxDepth kt (key a) (key b)=some (decide (a=b)))(hq:∀a,jA (key a) (key a)=true)(k:κ)(d:β){z:Value}(hz:val d=z)(F:List (κ×β)) :
  l9 P kt z (key k) (bL key val F)=some (bL key val (bT k (eA k d F) F),.tuple #[val (eA k d F),.int .i64 ((ct k F:Nat):Int)]):=by
 unfold l9
 rw[oZ hk k d F 0]
 cases h:cJ k F with
 |true =>
  rw[if_pos rfl,p6 k d F h]
  obtain ⟨x,hx⟩:=tI (key:=key) (val:=val) k F h
  simp only[Nat.zero_add]
  rw[hx]
  simp only[hq]
 |false =>
  rw[if_neg (by simp),jI k d F h,tc k d F h,tt k F h,mI,<- hz]
  show some (bL key val F ++ [(key k,val d)],_)=some (bL key val (F ++ [(k,d)]),_)
  simp[bL]
omit [DecidableEq κ] in
theorem wF{es:List (Value×Value)}{i:Nat}{k v:Value}(h:es[i]?=some (k,v))(x:Value):nP (.int .i64 (i:Int)) x es=some (es.set i (k,x)):=by
 show (match es[Int.toNat (i:Int)]? with|some (k,_)=>if 0<=(i:Int) then some (es.set (Int.toNat (i:Int)) (k,x)) else none|none=>none)=_
 rw[Int.toNat_natCast,h]
 show (if 0<=(i:Int) then _ else _)=_
 rw[if_pos (by omega)]
end
end Go.K
namespace Go.Proofs.YthcjliffpebjaaaGreat
noncomputable section
def kxy(r:Report):Int×Int:=(r.x,r.y)
def atN(l:List Report)(i:Nat)(q:Int×Int):List Nat:=(List.range i).filter fun k=>decide (kxy (l.getD k ad)=q)
def ar(l:List Report)(i:Nat)(q:Int×Int):List Int:=(atN l i q).map fun k:Nat=>(k:Int)
open Classical in
def ek(w h:Int)(l:List Report)(now:Int)(i:Nat):Int :=
 if errReport (l.getD i ad)=0 then (if ∃k,k<i/\(l.getD k ad).id=(l.getD i ad).id then 10 else
  if (l.getD i ad).x ≥ w∨(l.getD i ad).y ≥ h then 1 else if (l.getD i ad).at_ > now then 12 else if 12<=(atN l i (kxy (l.getD i ad))).length then 2 else 0) else errReport (l.getD i ad)
def eF(w h:Int)(l:List Report)(m:aO)(now:Int):Int:=kp (bl w h now) (kp (bG m) (if 400<l.length then 2 else ce (ek w h l now) l.length))
def ai(l:List Report)(m:aO)(now:Int)(q:Int×Int):List Cell:=(atN l l.length q).map fun k=>br (l.getD k ad) m now
def cellAt(l:List Report)(m:aO)(now:Int)(q:Int×Int):Cell:=(aK (ai l m now q) (ao (ai l m now q))).getD ak
def gh(l:List Report)(m:aO)(now:Int)(k:Nat):Bool:=!(bW (ai l m now (kxy (l.getD k ad))).length (ao (ai l m now (kxy (l.getD k ad)))) (atN l k (kxy (l.getD k ad))).length)
def bB(l:List Report)(m:aO)(now:Int)(n:Nat):List Int:=((List.range n).filter (gh l m now)).map fun k:Nat=>(k:Int)
def plQ(w:Int)(p:Nat):Int×Int:=((p:Int) % w,(p:Int) / w)
def jP(w h:Int)(l:List Report)(m:aO)(now:Int):List Cell:=eC (fun p=>cellAt l m now (plQ w p)) (Int.toNat (w*h))
def am(n:Nat):List Cell:=List.replicate n ay
def ax(w h t:Int):oo×Int:=if bl w h t=0 then (⟨w,h,t,am (Int.toNat (w*h))⟩,0) else (dv,bl w h t)
def ah(w h:Int)(l:List Report)(m:aO)(now:Int):oo×List Int×Int :=
 if eF w h l m now=0 then (⟨w,h,now,jP w h l m now⟩,bB l m now l.length,0) else (dv,[],eF w h l m now)
def cf(c:Cell)(n x:Nat):List Cell:=List.replicate x c++List.replicate (n-x) ak
end
end Go.Proofs.YthcjliffpebjaaaGreat
namespace Go.Proofs.YthcjliffpebjaaaGreat
noncomputable section
attribute [local irreducible] vF
def AM(sp:Value)(n:Nat):Prop :=
 (∃y0:Int,(.int .u64 (IntKind.wrap .u64 ((BitVec.ofInt (IntKind.bits .u64) ((n:Nat):Int) &&& BitVec.ofInt (IntKind.bits .u64) 4294967295).toNat:Nat)):Value) = .int .u64 y0/\((.int .u64 (IntKind.wrap .u64 (1*y0)):Value) = .int .u64 (1*y0)/\((.int .u64 (IntKind.wrap .u64 (0*y0)):Value) = .int .u64 (0*y0)/\((.int .u64 (IntKind.wrap .u64 ((0*y0)+(Int.fdiv (1*y0) (2 ^ 32)))):Value) = .int .u64 ((0*y0)+(Int.fdiv (1*y0) (2 ^ 32)))/\(∃y1:Int,(.int .u64 (IntKind.wrap .u64 ((BitVec.ofInt (IntKind.bits .u64) ((0*y0)+(Int.fdiv (1*y0) (2 ^ 32))) &&& BitVec.ofInt (IntKind.bits .u64) 4294967295).toNat:Nat)):Value) = .int .u64 y1/\((.int .u64 (IntKind.wrap .u64 (1*(Int.fdiv ((n:Nat):Int) (2 ^ 32)))):Value) = .int .u64 (1*(Int.fdiv ((n:Nat):Int) (2 ^ 32)))/\((.int .u64 (IntKind.wrap .u64 (y1+(1*(Int.fdiv ((n:Nat):Int) (2 ^ 32))))):Value) = .int .u64 (y1+(1*(Int.fdiv ((n:Nat):Int) (2 ^ 32))))/\((.int .u64 (IntKind.wrap .u64 (0*(Int.fdiv ((n:Nat):Int) (2 ^ 32)))):Value) = .int .u64 (0*(Int.fdiv ((n:Nat):Int) (2 ^ 32)))/\((.int .u64 (IntKind.wrap .u64 ((0*(Int.fdiv ((n:Nat):Int) (2 ^ 32)))+(Int.fdiv ((0*y0)+(Int.fdiv (1*y0) (2 ^ 32))) (2 ^ 32)))):Value) = .int .u64 ((0*(Int.fdiv ((n:Nat):Int) (2 ^ 32)))+(Int.fdiv ((0*y0)+(Int.fdiv (1*y0) (2 ^ 32))) (2 ^ 32)))/\(∃y2:Int,(.int .u64 ((0*(Int.fdiv ((n:Nat):Int) (2 ^ 32)))+(Int.fdiv ((0*y0)+(Int.fdiv (1*y0) (2 ^ 32))) (2 ^ 32))):Value) = .int .u64 y2/\((.int .u64 (IntKind.wrap .u64 (y2+(Int.fdiv (y1+(1*(Int.fdiv ((n:Nat):Int) (2 ^ 32)))) (2 ^ 32)))):Value) = .int .u64 (y2+(Int.fdiv (y1+(1*(Int.fdiv ((n:Nat):Int) (2 ^ 32)))) (2 ^ 32)))/\((.int .u64 (IntKind.wrap .u64 (1*((n:Nat):Int))):Value) = .int .u64 (1*((n:Nat):Int))/\(.tuple #[.int .u64 (y2+(Int.fdiv (y1+(1*(Int.fdiv ((n:Nat):Int) (2 ^ 32)))) (2 ^ 32))),.int .u64 (1*((n:Nat):Int))]:Value)=sp))))))))))))
theorem Bf(sp:Value)(n:Nat):vF prog msk (dm 0) 100000 true 40 true 150 [.int .u64 1,.int .u64 ((n:Nat):Int)] ⟨0,.leaf⟩ (some [])
 (.go 14 (.bind Int (fun y0 => .slot 19 (.int .u64 y0) (.go 6 (.slot 24 (.int .u64 (1*y0)) (.go 3 (.slot 27 (.int .u64 (0*y0)) (.go 2 (.slot 30 (.int .u64 ((0*y0)+(Int.fdiv (1*y0) (2 ^ 32)))) (.go 2 (.bind Int (fun y1 => .slot 32 (.int .u64 y1) (.go 7 (.slot 38 (.int .u64 (1*(Int.fdiv ((n:Nat):Int) (2 ^ 32)))) (.go 0 (.slot 39 (.int .u64 (y1+(1*(Int.fdiv ((n:Nat):Int) (2 ^ 32))))) (.go 3 (.slot 42 (.int .u64 (0*(Int.fdiv ((n:Nat):Int) (2 ^ 32)))) (.go 1 (.slot 44 (.int .u64 ((0*(Int.fdiv ((n:Nat):Int) (2 ^ 32)))+(Int.fdiv ((0*y0)+(Int.fdiv (1*y0) (2 ^ 32))) (2 ^ 32)))) (.bind Int (fun y2 => .slot 44 (.int .u64 y2) (.go 2 (.slot 47 (.int .u64 (y2+(Int.fdiv (y1+(1*(Int.fdiv ((n:Nat):Int) (2 ^ 32)))) (2 ^ 32)))) (.go 3 (.slot 50 (.int .u64 (1*((n:Nat):Int))) (.auto)))))))))))))))))))))))))))
 (fun v _ _=>v=sp)=AM sp n:=by kernel_rfl
def tX(c:Cell)(n:Nat):Prop :=
 (((decide ((((n:Nat):Int):Int)<0))=true->False)/\((decide ((((n:Nat):Int):Int)<0))=false->((True)/\(∀H':Heap,H'.length=1->(True)->ap prog 150 [.int .u64 1,.int .u64 (IntKind.wrap .u64 ((n:Nat):Int))] H' [] (Is (.tuple #[.int .u64 0,.int .u64 ((n:Nat):Int)]) H'))/\(((decide ((9223372036854775807:Int)<((n:Nat):Int)))=true->False)/\((decide ((9223372036854775807:Int)<((n:Nat):Int)))=false->(((0:Int)<=(IntKind.wrap .i64 ((n:Nat):Int))/\((IntKind.wrap .i64 ((n:Nat):Int)):Int)<=(IntKind.wrap .i64 ((n:Nat):Int))/\((IntKind.wrap .i64 ((n:Nat):Int)):Int)<2 ^ 62/\64*((IntKind.wrap .i64 ((n:Nat):Int)):Int)<=2 ^ 48)/\((((min 1 (Int.toNat (IntKind.wrap .i64 ((n:Nat):Int))))<=1/\0+(min 1 (Int.toNat (IntKind.wrap .i64 ((n:Nat):Int))))*8<=List.length ([.int .i64 c.ag.lo,.int .i64 c.ag.hi,.int .i64 c.ac.lo,.int .i64 c.ac.hi,.int .i64 c.ab.lo,.int .i64 c.ab.hi,.int .i64 c.aa.lo,.int .i64 c.aa.hi]:List Value))/\0+(min 1 (Int.toNat (IntKind.wrap .i64 ((n:Nat):Int))))*8<=List.length (cW [.int .i64 0,.int .i64 0,.int .i64 0,.int .i64 0,.int .i64 0,.int .i64 0,.int .i64 0,.int .i64 0] (Int.toNat (IntKind.wrap .i64 ((n:Nat):Int))))/\List.all (List.take ((min 1 (Int.toNat (IntKind.wrap .i64 ((n:Nat):Int))))*8) (List.drop 0 ([.int .i64 c.ag.lo,.int .i64 c.ag.hi,.int .i64 c.ac.lo,.int .i64 c.ac.hi,.int .i64 c.ab.lo,.int .i64 c.ab.hi,.int .i64 c.aa.lo,.int .i64 c.aa.hi]:List Value))) (fun v=>bV v)=true)/\true=true/\(true=true/\(0+1<=n)/\(true=true/\((.int .i64 (((min 1 (Int.toNat (IntKind.wrap .i64 ((n:Nat):Int)))):Nat):Int):Value) = .int .i64 (((0+1):Nat):Int)/\(.slice none 0 0:Value) = .slice none 0 0/\(.slice (some ⟨1,0,none⟩) (Int.toNat (IntKind.wrap .i64 ((n:Nat):Int))) (Int.toNat (IntKind.wrap .i64 ((n:Nat):Int))):Value) = .slice (some ⟨1,0,none⟩) (Int.toNat (IntKind.wrap .i64 ((n:Nat):Int))) (Int.toNat (IntKind.wrap .i64 ((n:Nat):Int)))/\True)/\((some (.cells true 8 (bN (cW [.int .i64 0,.int .i64 0,.int .i64 0,.int .i64 0,.int .i64 0,.int .i64 0,.int .i64 0,.int .i64 0] (Int.toNat (IntKind.wrap .i64 ((n:Nat):Int)))) 0 (List.take ((min 1 (Int.toNat (IntKind.wrap .i64 ((n:Nat):Int))))*8) (List.drop 0 ([.int .i64 c.ag.lo,.int .i64 c.ag.hi,.int .i64 c.ac.lo,.int .i64 c.ac.hi,.int .i64 c.ab.lo,.int .i64 c.ab.hi,.int .i64 c.aa.lo,.int .i64 c.aa.hi]:List Value)))):ae)=some (.cells true 8 (List.flatMap cellC (cf c n (0+1))):ae)/\aj 2 (.cells true 8 (List.flatMap cellC (cf c n (0+1))):ae)=true)/\True)/\(True)/\(True))/\(∀x1:Nat,true=true)/\∀x1:Nat,(x1+1<=n)->(((decide (((((x1+1):Nat):Int):Int)<(((Int.toNat (IntKind.wrap .i64 ((n:Nat):Int))):Nat):Int)))=true->(((true=false∨8=0∨8=8)/\((Int.toNat (IntKind.wrap .i64 ((n:Nat):Int)))<=(Int.toNat (IntKind.wrap .i64 ((n:Nat):Int))))/\((0:Int)<=(((x1+1):Nat):Int)/\((((x1+1):Nat):Int):Int)<=(((Int.toNat (IntKind.wrap .i64 ((n:Nat):Int))):Nat):Int)))/\((.slice (some ⟨1,(0+(Int.toNat (((x1+1):Nat):Int))*8),none⟩) ((Int.toNat (IntKind.wrap .i64 ((n:Nat):Int)))-(Int.toNat (((x1+1):Nat):Int))) ((Int.toNat (IntKind.wrap .i64 ((n:Nat):Int)))-(Int.toNat (((x1+1):Nat):Int))):Value) = .slice (some ⟨1,(0+(Int.toNat (((x1+1):Nat):Int))*8),none⟩) ((Int.toNat (IntKind.wrap .i64 ((n:Nat):Int)))-(x1+1)) ((Int.toNat (IntKind.wrap .i64 ((n:Nat):Int)))-(x1+1))/\(((true=false∨8=0∨8=8)/\((0:Int)<=(((x1+1):Nat):Int)/\((((x1+1):Nat):Int):Int)<=(((Int.toNat (IntKind.wrap .i64 ((n:Nat):Int))):Nat):Int))/\(0<=(Int.toNat (((x1+1):Nat):Int))))/\((.slice (some ⟨1,0,none⟩) ((Int.toNat (((x1+1):Nat):Int))-0) ((Int.toNat (IntKind.wrap .i64 ((n:Nat):Int)))-0):Value) = .slice (some ⟨1,0,none⟩) (x1+1) (Int.toNat (IntKind.wrap .i64 ((n:Nat):Int)))/\((((min (x1+1) ((Int.toNat (IntKind.wrap .i64 ((n:Nat):Int)))-(x1+1)))<=(x1+1)/\0+(min (x1+1) ((Int.toNat (IntKind.wrap .i64 ((n:Nat):Int)))-(x1+1)))*8<=List.length (List.flatMap cellC (cf c n (x1+1))))/\(0+(Int.toNat (((x1+1):Nat):Int))*8)+(min (x1+1) ((Int.toNat (IntKind.wrap .i64 ((n:Nat):Int)))-(x1+1)))*8<=List.length (List.flatMap cellC (cf c n (x1+1)))/\List.all (List.take ((min (x1+1) ((Int.toNat (IntKind.wrap .i64 ((n:Nat):Int)))-(x1+1)))*8) (List.drop 0 (List.flatMap cellC (cf c n (x1+1))))) (fun v=>bV v)=true)/\true=true/\((.int .i64 (IntKind.wrap .i64 ((((x1+1):Nat):Int)+(((min (x1+1) ((Int.toNat (IntKind.wrap .i64 ((n:Nat):Int)))-(x1+1))):Nat):Int))):Value) = .int .i64 ((((x1+1):Nat):Int)+(((min (x1+1) ((Int.toNat (IntKind.wrap .i64 ((n:Nat):Int)))-(x1+1))):Nat):Int))/\(∃y2:Int,(.int .i64 ((((x1+1):Nat):Int)+(((min (x1+1) ((Int.toNat (IntKind.wrap .i64 ((n:Nat):Int)))-(x1+1))):Nat):Int)):Value) = .int .i64 y2/\(∃x1':Nat,(x1'+1<=n)/\(n-x1')<(n-x1)/\true=true/\((.int .i64 y2:Value) = .int .i64 (((x1'+1):Nat):Int)/\(.slice none 0 0:Value) = .slice none 0 0/\(.slice (some ⟨1,0,none⟩) (Int.toNat (IntKind.wrap .i64 ((n:Nat):Int))) (Int.toNat (IntKind.wrap .i64 ((n:Nat):Int))):Value) = .slice (some ⟨1,0,none⟩) (Int.toNat (IntKind.wrap .i64 ((n:Nat):Int))) (Int.toNat (IntKind.wrap .i64 ((n:Nat):Int)))/\True)/\((some (.cells true 8 (bN (List.flatMap cellC (cf c n (x1+1))) (0+(Int.toNat (((x1+1):Nat):Int))*8) (List.take ((min (x1+1) ((Int.toNat (IntKind.wrap .i64 ((n:Nat):Int)))-(x1+1)))*8) (List.drop 0 (List.flatMap cellC (cf c n (x1+1)))))):ae)=some (.cells true 8 (List.flatMap cellC (cf c n (x1'+1))):ae)/\aj 2 (.cells true 8 (List.flatMap cellC (cf c n (x1'+1))):ae)=true)/\True)/\(True)/\(True))))))))))/\((decide (((((x1+1):Nat):Int):Int)<(((Int.toNat (IntKind.wrap .i64 ((n:Nat):Int))):Nat):Int)))=false->(true=true/\wk (.slice (some ⟨1,0,none⟩) (Int.toNat (IntKind.wrap .i64 ((n:Nat):Int))) (Int.toNat (IntKind.wrap .i64 ((n:Nat):Int))):Value) (rn (sg 1 [(1,1)]) 3 (.slice (some ⟨1,0,some 1⟩) n n:Value))/\((some (.cells true 8 (List.flatMap cellC (cf c n (x1+1))):ae)=some (.cells true 8 (List.flatMap cellC (cf c n n)):ae)/\aj 1 (.cells true 8 (List.flatMap cellC (cf c n n)):ae)=true)/\True))))))))))))
theorem yh(c:Cell)(n:Nat):vF prog msk (dm 0) 100000 true 40 true 125 [.slice (some ⟨0,0,some 2⟩) 1 1,.int .i64 ((n:Nat):Int)] (bi 0 [cellC c]) (some [])
 (.go 2 (.fork (.auto) (.go 4 (.ans [] (.tuple #[.int .u64 0,.int .u64 ((n:Nat):Int)]) [] (.go 10 (.fork (.auto) (.go 1 (.need (.go 2 (.need (.go 0 (.inv 3 (Nat) (0) [] [1] (fun x1=>[(8,.int .i64 (((x1+1):Nat):Int)),(4,.slice none 0 0),(7,.slice (some ⟨1,0,none⟩) (Int.toNat (IntKind.wrap .i64 ((n:Nat):Int))) (Int.toNat (IntKind.wrap .i64 ((n:Nat):Int))))]) (fun x1=>[(1,true,.cells true 8 (List.flatMap cellC (cf c n (x1+1))))]) (fun x1=>[]) (fun x1=>[]) (fun x1=>(x1+1<=n)) (fun x1=>(n-x1)) (fun x1 => .go 3 (.fork (.go 2 (.need (.slot 41 (.slice (some ⟨1,(0+(Int.toNat (((x1+1):Nat):Int))*8),none⟩) ((Int.toNat (IntKind.wrap .i64 ((n:Nat):Int)))-(x1+1)) ((Int.toNat (IntKind.wrap .i64 ((n:Nat):Int)))-(x1+1))) (.go 1 (.need (.slot 44 (.slice (some ⟨1,0,none⟩) (x1+1) (Int.toNat (IntKind.wrap .i64 ((n:Nat):Int)))) (.need (.go 0 (.slot 46 (.int .i64 ((((x1+1):Nat):Int)+(((min (x1+1) ((Int.toNat (IntKind.wrap .i64 ((n:Nat):Int)))-(x1+1))):Nat):Int))) (.bind Int (fun y2 => .slot 46 (.int .i64 y2) (.go 0 (.again []))))))))))))) (.go 1 (.again [(1,1)]))))))))))))))))
 (fD ((bi 0 [cellC c]):HT).n 3 (.slice (some ⟨1,0,some 1⟩) n n) [(true,.cells true 8 (List.flatMap cellC (cf c n n)))])=tX c n:=by kernel_rfl
def xd(w h t:Int):Prop :=
 ((True)/\(∀H':Heap,H'.length=1->(True)->ap prog 118 [.int .i64 w,.int .i64 h,.int .i64 t] H' [] (Is (.int .i64 (bl w h t)) H'))/\(((((bl w h t):Int) != 0)=true->(true=true/\wk (.tuple #[.agg #[.int .i64 0,.int .i64 0,.int .i64 0,.slice none 0 0],.int .i64 (bl w h t)]:Value) (rn (sg 0 []) 3 (.tuple #[.agg #[.int .i64 (ax w h t).1.w,.int .i64 (ax w h t).1.h,.int .i64 (ax w h t).1.hour,.slice (some ⟨0,0,some 1⟩) (List.length (ax w h t).1.cells) (List.length (ax w h t).1.cells)],.int .i64 (ax w h t).2]:Value))/\(True/\True)))/\((((bl w h t):Int) != 0)=false->((True)/\(∀H':Heap,H'.length=1->(True)->ap prog 33 [] H' [] (Is (.agg #[.int .i64 ay.ag.lo,.int .i64 ay.ag.hi,.int .i64 ay.ac.lo,.int .i64 ay.ac.hi,.int .i64 ay.ab.lo,.int .i64 ay.ab.hi,.int .i64 ay.aa.lo,.int .i64 ay.aa.hi]) H'))/\((.int .i64 (IntKind.wrap .i64 (w*h)):Value) = .int .i64 (w*h)/\(((some (.cells true 8 [.int .i64 ay.ag.lo,.int .i64 ay.ag.hi,.int .i64 ay.ac.lo,.int .i64 ay.ac.hi,.int .i64 ay.ab.lo,.int .i64 ay.ab.hi,.int .i64 ay.aa.lo,.int .i64 ay.aa.hi]:ae)=some (.cells true 8 [.int .i64 ay.ag.lo,.int .i64 ay.ag.hi,.int .i64 ay.ac.lo,.int .i64 ay.ac.hi,.int .i64 ay.ab.lo,.int .i64 ay.ab.hi,.int .i64 ay.aa.lo,.int .i64 ay.aa.hi]:ae))/\True)/\(∀H':Heap,H'.length=2->(H'[1]?=some (.cells true 8 [.int .i64 ay.ag.lo,.int .i64 ay.ag.hi,.int .i64 ay.ac.lo,.int .i64 ay.ac.hi,.int .i64 ay.ab.lo,.int .i64 ay.ab.hi,.int .i64 ay.aa.lo,.int .i64 ay.aa.hi]:ae)/\True)->ap prog 125 [.slice (some ⟨1,0,none⟩) 1 1,.int .i64 (w*h)] H' [] (Is (.slice (some ⟨2,0,some 1⟩) (Int.toNat (w*h)) (Int.toNat (w*h))) (H' ++ [(.cells true 8 (List.flatMap cellC (am (Int.toNat (w*h)))):ae)])))/\(true=true/\wk (.tuple #[.agg #[.int .i64 w,.int .i64 h,.int .i64 t,.slice (some ⟨2,0,some 1⟩) (Int.toNat (w*h)) (Int.toNat (w*h))],.int .i64 0]:Value) (rn (sg 0 [(0,2)]) 3 (.tuple #[.agg #[.int .i64 (ax w h t).1.w,.int .i64 (ax w h t).1.h,.int .i64 (ax w h t).1.hour,.slice (some ⟨0,0,some 1⟩) (List.length (ax w h t).1.cells) (List.length (ax w h t).1.cells)],.int .i64 (ax w h t).2]:Value))/\((some (.cells true 8 (List.flatMap cellC (am (Int.toNat (w*h)))):ae)=some (.cells true 8 (List.flatMap cellC (ax w h t).1.cells):ae)/\aj 0 (.cells true 8 (List.flatMap cellC (ax w h t).1.cells):ae)=true)/\True))))))))
theorem zR(w h t:Int):vF prog msk (dm 0) 100000 true 40 true 62 [.int .i64 w,.int .i64 h,.int .i64 t] ⟨0,.leaf⟩ (some [])
 (.go 4 (.ans [] (.int .i64 (bl w h t)) [] (.go 2 (.fork (.go 3 (.again [])) (.go 2 (.ans [] (.agg #[.int .i64 ay.ag.lo,.int .i64 ay.ag.hi,.int .i64 ay.ac.lo,.int .i64 ay.ac.hi,.int .i64 ay.ab.lo,.int .i64 ay.ab.hi,.int .i64 ay.aa.lo,.int .i64 ay.aa.hi]) [] (.go 3 (.slot 24 (.int .i64 (w*h)) (.ans [(1,.cells true 8 [.int .i64 ay.ag.lo,.int .i64 ay.ag.hi,.int .i64 ay.ac.lo,.int .i64 ay.ac.hi,.int .i64 ay.ab.lo,.int .i64 ay.ab.hi,.int .i64 ay.aa.lo,.int .i64 ay.aa.hi])] (.slice (some ⟨2,0,some 1⟩) (Int.toNat (w*h)) (Int.toNat (w*h))) [.cells true 8 (List.flatMap cellC (am (Int.toNat (w*h))))] (.go 2 (.again [(0,2)])))))))))))
 (fD (⟨0,.leaf⟩:HT).n 3 (.tuple #[.agg #[.int .i64 (ax w h t).1.w,.int .i64 (ax w h t).1.h,.int .i64 (ax w h t).1.hour,.slice (some ⟨0,0,some 1⟩) (List.length (ax w h t).1.cells) (List.length (ax w h t).1.cells)],.int .i64 (ax w h t).2]) [(true,.cells true 8 (List.flatMap cellC (ax w h t).1.cells))])=xd w h t:=by kernel_rfl
def tU(w h t:Int):Prop :=
 ((True)/\(∀H':Heap,H'.length=1->(True)->ap prog 120 [.int .i64 w,.int .i64 h,.int .i64 t] H' [] (Is (.int .i64 (bl w h t)) H'))/\(((((bl w h t):Int) != 0)=true->(true=true/\wk (.tuple #[.agg #[.int .i64 0,.int .i64 0,.int .i64 0,.slice none 0 0],.int .i64 (bl w h t)]:Value) (rn (sg 0 []) 3 (.tuple #[.agg #[.int .i64 (ax w h t).1.w,.int .i64 (ax w h t).1.h,.int .i64 (ax w h t).1.hour,.slice (some ⟨0,0,some 1⟩) (List.length (ax w h t).1.cells) (List.length (ax w h t).1.cells)],.int .i64 (ax w h t).2]:Value))/\(True/\True)))/\((((bl w h t):Int) != 0)=false->(true=true/\(0<=Int.toNat (w*h))/\(true=true/\((.int .i64 0:Value) = .int .i64 ((0:Nat):Int)/\(.int .i64 h:Value) = .int .i64 h/\(.int .i64 w:Value) = .int .i64 w/\(.pointer (some ⟨0,0,none⟩):Value) = .pointer (some ⟨0,0,none⟩)/\(.int .i64 0:Value) = .int .i64 0/\(.pointer (some ⟨1,0,none⟩):Value) = .pointer (some ⟨1,0,none⟩)/\True)/\(wkO (.cells true 0 [.int .i64 w,.int .i64 h,.int .i64 t,.slice none 0 0]:ae) (rno (sg 2 []) 3 (.cells true 0 [.int .i64 w,.int .i64 h,.int .i64 t,.slice (some ⟨2,0,some 1⟩) 0 0]:ae))/\True)/\(True/\True)/\(True))/\(∀x1:Nat,true=true)/\∀x1:Nat,(x1<=Int.toNat (w*h))->((.int .i64 (IntKind.wrap .i64 (w*h)):Value) = .int .i64 (w*h)/\(((decide ((((x1:Nat):Int):Int)<(w*h)))=true->((True)/\(∀H':Heap,H'.length=3->(True)->ap prog 34 [] H' [] (Is (.agg #[.int .i64 ay.ag.lo,.int .i64 ay.ag.hi,.int .i64 ay.ac.lo,.int .i64 ay.ac.hi,.int .i64 ay.ab.lo,.int .i64 ay.ab.hi,.int .i64 ay.aa.lo,.int .i64 ay.aa.hi]) H'))/\(((x1+1)*64<=2 ^ 44/\1≠0/\(x1<=x1/\0+x1*8<=List.length (List.flatMap cellC (am x1)))/\(1<=1/\0+1*8<=List.length ([.int .i64 ay.ag.lo,.int .i64 ay.ag.hi,.int .i64 ay.ac.lo,.int .i64 ay.ac.hi,.int .i64 ay.ab.lo,.int .i64 ay.ab.hi,.int .i64 ay.aa.lo,.int .i64 ay.aa.hi]:List Value))/\((List.take (1*8) (List.drop 0 ([.int .i64 ay.ag.lo,.int .i64 ay.ag.hi,.int .i64 ay.ac.lo,.int .i64 ay.ac.hi,.int .i64 ay.ab.lo,.int .i64 ay.ab.hi,.int .i64 ay.aa.lo,.int .i64 ay.aa.hi]:List Value))):List Value).all (fun v=>bV v)=true)/\true=true/\((.int .i64 (IntKind.wrap .i64 (((x1:Nat):Int)+1)):Value) = .int .i64 (((x1:Nat):Int)+1)/\(∃x1':Nat,(x1'<=Int.toNat (w*h))/\(Int.toNat (w*h)-x1')<(Int.toNat (w*h)-x1)/\true=true/\((.int .i64 (((x1:Nat):Int)+1):Value) = .int .i64 ((x1':Nat):Int)/\(.int .i64 h:Value) = .int .i64 h/\(.int .i64 w:Value) = .int .i64 w/\(.pointer (some ⟨0,0,none⟩):Value) = .pointer (some ⟨0,0,none⟩)/\(.int .i64 0:Value) = .int .i64 0/\(.pointer (some ⟨1,0,none⟩):Value) = .pointer (some ⟨1,0,none⟩)/\True)/\(wkO (.cells true 0 [.int .i64 w,.int .i64 h,.int .i64 t,.slice (some ⟨4,0,none⟩) (x1+1) (x1+1)]:ae) (rno (sg 2 [(2,4)]) 3 (.cells true 0 [.int .i64 w,.int .i64 h,.int .i64 t,.slice (some ⟨2,0,some 1⟩) x1' x1']:ae))/\True)/\((some (.cells true 8 ((List.take (x1*8) (List.drop 0 (List.flatMap cellC (am x1))))++(List.take (1*8) (List.drop 0 ([.int .i64 ay.ag.lo,.int .i64 ay.ag.hi,.int .i64 ay.ac.lo,.int .i64 ay.ac.hi,.int .i64 ay.ab.lo,.int .i64 ay.ab.hi,.int .i64 ay.aa.lo,.int .i64 ay.aa.hi]:List Value)))):ae)=some (.cells true 8 (List.flatMap cellC (am x1')):ae)/\aj 2 (.cells true 8 (List.flatMap cellC (am x1')):ae)=true)/\True)/\(True))))))/\((decide ((((x1:Nat):Int):Int)<(w*h)))=false->(true=true/\wk (.tuple #[.agg #[.int .i64 w,.int .i64 h,.int .i64 t,.slice (some ⟨2,0,some 1⟩) x1 x1],.int .i64 0]:Value) (rn (sg 0 [(0,2)]) 3 (.tuple #[.agg #[.int .i64 (ax w h t).1.w,.int .i64 (ax w h t).1.h,.int .i64 (ax w h t).1.hour,.slice (some ⟨0,0,some 1⟩) (List.length (ax w h t).1.cells) (List.length (ax w h t).1.cells)],.int .i64 (ax w h t).2]:Value))/\((some (.cells true 8 (List.flatMap cellC (am x1)):ae)=some (.cells true 8 (List.flatMap cellC (ax w h t).1.cells):ae)/\aj 0 (.cells true 8 (List.flatMap cellC (ax w h t).1.cells):ae)=true)/\True)))))))))
theorem ye(w h t:Int):vF prog msk (dm 0) 100000 true 40 true 63 [.int .i64 w,.int .i64 h,.int .i64 t] ⟨0,.leaf⟩ (some [])
 (.go 4 (.ans [] (.int .i64 (bl w h t)) [] (.go 2 (.fork (.go 3 (.again [])) (.go 6 (.inv 3 (Nat) (0) [] [1] (fun x1=>[(10,.int .i64 ((x1:Nat):Int)),(1,.int .i64 h),(0,.int .i64 w),(6,.pointer (some ⟨0,0,none⟩)),(7,.int .i64 0),(9,.pointer (some ⟨1,0,none⟩))]) (fun x1=>[(1,false,.cells true 0 [.int .i64 w,.int .i64 h,.int .i64 t,.slice (some ⟨2,0,some 1⟩) x1 x1])]) (fun x1=>[(true,.cells true 8 (List.flatMap cellC (am x1)))]) (fun x1=>[]) (fun x1=>(x1<=Int.toNat (w*h))) (fun x1=>(Int.toNat (w*h)-x1)) (fun x1 => .go 3 (.slot 26 (.int .i64 (w*h)) (.go 0 (.fork (.go 1 (.ans [] (.agg #[.int .i64 ay.ag.lo,.int .i64 ay.ag.hi,.int .i64 ay.ac.lo,.int .i64 ay.ac.hi,.int .i64 ay.ab.lo,.int .i64 ay.ab.hi,.int .i64 ay.aa.lo,.int .i64 ay.aa.hi]) [] (.go 0 (.need (.go 3 (.slot 29 (.int .i64 (((x1:Nat):Int)+1)) (.go 0 (.again [(2,4)])))))))) (.go 2 (.again [(0,2)]))))))))))))
 (fD (⟨0,.leaf⟩:HT).n 3 (.tuple #[.agg #[.int .i64 (ax w h t).1.w,.int .i64 (ax w h t).1.h,.int .i64 (ax w h t).1.hour,.slice (some ⟨0,0,some 1⟩) (List.length (ax w h t).1.cells) (List.length (ax w h t).1.cells)],.int .i64 (ax w h t).2]) [(true,.cells true 8 (List.flatMap cellC (ax w h t).1.cells))])=tU w h t:=by kernel_rfl
end
end Go.Proofs.YthcjliffpebjaaaGreat
namespace Go.K
noncomputable section
variable {P:Program}
theorem VRl.inv{J:Ren}{v:Value}{l:List Value}{m:List Value}(h:VRl J (v :: l) m):∃x l',m=x :: l'/\VR J v x/\VRl J l l':=by
 cases m with
 |nil=>exact absurd h.1 (by simp)
 |cons x l'=>exact ⟨x,l',rfl,h.2 0 v x rfl rfl,by have:=h.1;simpa using this,fun i a b c d=>h.2 (i+1) a b (by simpa using c) (by simpa using d)⟩
def gj(P:Program)(base:Nat)(H:Heap)(args args2:List Value)(gs:Heap):Prop :=
 ∀(B:Nat) (J:Ren) (w:World) (xs:List Value),Rel P B J H w->base<=H.length->VRl J args xs->∃ρ1,Post P B base [] J H w ρ1 (H++gs) w/\VRl ρ1 args2 xs
theorem gj.nil{base:Nat}{H:Heap}:gj P base H [] [] []:=fun B J w xs hr hb hv=>⟨J,by rw[List.append_nil];exact Post.refl hr,hv⟩
theorem gj.keep{base:Nat}{H:Heap}{a:Value}{as1 bs:List Value}{gs:Heap}(h:gj P base H as1 bs gs):gj P base H (a :: as1) (a :: bs) gs:=by
 intro B J w xs hr hb hv
 obtain ⟨x,l,rfl,h1,h2⟩:=hv.inv
 obtain ⟨ρ1,p,h3⟩:=h B J w l hr hb h2
 exact ⟨ρ1,p,.cons (h1.mono p.ext) h3⟩
theorem gj.deep{base n:Nat}{H:Heap}{cs:List Value}{as1 bs:List Value}{gs:Heap}(h:gj P base (H ++ [.cells false 0 cs]) as1 bs gs) :
  gj P base H (.iface (n+1) (.agg ⟨cs⟩) :: as1) (.slice (some ⟨H.length,0,some 2⟩) n n :: bs) (.cells false 0 cs :: gs):=by
 intro B J w xs hr hb hv
 obtain ⟨x,l,rfl,h1,h2⟩:=hv.inv
 obtain ⟨ρ1,p,h3⟩:=VR.thaw (base:=base) (M:=[]) hr hb h1
 obtain ⟨ρ2,q,h4⟩:=h B ρ1 w l p.rel (Nat.le_trans hb p.len) (h2.mono p.ext)
 refine ⟨ρ2,?_,.cons (h3.mono q.ext) h4⟩
 have:=p.trans q
 rw[List.append_assoc]at this
 exact this
theorem gj.agg{base n i:Nat}{H:Heap}{cs vs:List Value}{as1 bs:List Value}{gs:Heap}(hi:vs[i]?=some (.iface (n+1) (.agg ⟨cs⟩)))(h:gj P base (H ++ [.cells false 0 cs]) as1 bs gs) :
  gj P base H (.agg ⟨vs⟩ :: as1) (.agg ⟨vs.set i (.slice (some ⟨H.length,0,some 2⟩) n n)⟩ :: bs) (.cells false 0 cs :: gs):=by
 intro B J w xs hr hb hv
 obtain ⟨x,l,rfl,h1,h2⟩:=hv.inv
 have hl:=(List.getElem?_eq_some_iff.1 hi).1
 cases h1 with
 | @agg _ cs' g1 g2 =>
  have hlt:i<cs'.size:=by rw[<- g1];simpa using hl
  obtain ⟨ρ1,p,h3⟩:=VR.thaw (base:=base) (M:=[]) hr hb (g2 i _ _ (by simpa using hi) (Array.getElem?_eq_getElem hlt))
  obtain ⟨ρ2,q,h4⟩:=h B ρ1 w l p.rel (Nat.le_trans hb p.len) (h2.mono p.ext)
  have hpq:=p.trans q
  refine ⟨ρ2,?_,.cons (.agg (by simpa using g1) fun j v v' a b =>?_) h4⟩
  ·rw[List.append_assoc]at hpq;exact hpq
  have a':(vs.set i (.slice (some ⟨H.length,0,some 2⟩) n n))[j]?=some v:=by simpa using a
  rw[List.getElem?_set]at a'
  split at a'
  ·rename_i e;subst e
   cases a'
   rw[Array.getElem?_eq_getElem hlt]at b;cases b
   exact h3.mono q.ext
  ·exact (g2 j v v' (by simpa using a') b).mono hpq.ext
theorem ap.thaw{f:FuncId}{args args2:List Value}{H gs:Heap}{M:List Nat}{Q:Value->Heap->Prop}(ht:gj P H.length H args args2 gs)(h:ap P f args2 (H++gs) M Q):ap P f args H M Q:=by
 refine ⟨h.1,fun B J w args' hr ha =>?_⟩
 obtain ⟨ρ1,p,hv⟩:=ht B J w args'.toList hr (Nat.le_refl _) ha
 refine (h.2 B ρ1 w args' p.rel hv).mono ?_
 rintro e w' ⟨v,v',ρ',H',rfl,h1,h2,h3⟩
 exact ⟨v,v',ρ',H',rfl,h1,(p.weaken (Nat.le_refl _) (fun _ h=>by cases h)).trans (h2.weaken (by rw[aX];omega) (fun _ h _=>h)),h3⟩
def dt(L k n:Nat)(id:Nat):Option Nat:=if id<L then some id else if id<L+n then some (id+k) else none
theorem ap.drop{f:FuncId}{args:List Value}{H K gs new:Heap}{M:List Nat}{v v2:Value}{d:Nat}(h:ap P f args H M (Is v2 (K++gs++new)))(hK:K.length=H.length)(hs:∀id,id<H.length->id ∉ M->K[id]?=H[id]?)
  (hM:∀id o,id<H.length->id∈M->K[id]?=some o->(∃z cs,o = .cells true z cs)/\rno (dt H.length gs.length new.length) d o=o) (hv:rn (dt H.length gs.length new.length) d v=v2)
  (hn:new.map (rno (dt H.length gs.length new.length) d)=new) (hc:∀o∈new,∃z cs,o = .cells true z cs):ap P f args H M (Is v (K++new)):=by
 refine ⟨h.1,fun B J w args' hr ha=>(h.2 B J w args' hr ha).mono ?_⟩
 rintro e w' ⟨v',r,ρ',H',rfl,hv',hp,rfl,rfl⟩
 have he:Emb H M 0 (dt H.length gs.length new.length) d (fun _=>junk) (K++new) (fun _=>junk) (K++gs++new):=by
  refine ⟨by rw[aX];omega,fun id h=>if_pos h,fun id id' h =>?_,fun id1 id2 id' o1 o2 h1 h2 _ _ _ _ =>?_,fun t h=>by omega,fun id h h2=>by rw[List.getElem?_append_left (by omega)];exact hs id h h2,fun id id' o h1 h2 h3 =>?_⟩
  ·unfold dt at h
   rw[aX,hK]
   split at h
   ·omega
   ·split at h
    ·assumption
    ·cases h
  ·unfold dt at h1 h2
   split at h1 <;> split at h2 <;> (try split at h1) <;> (try split at h2) <;> first|(cases h1;done)|(cases h2;done)|(cases h1;cases h2;omega)|(simp only[Option.some.injEq]at h1 h2;omega)
  ·by_cases hlt:id<H.length
   ·rcases h2 with h2|h2
    ·omega
    ·have e1:dt H.length gs.length new.length id=some id:=if_pos hlt
     rw[e1]at h1;cases h1
     rw[List.getElem?_append_left (by omega)]at h3
     obtain ⟨⟨z,cs,rfl⟩,h5⟩:=hM id o hlt h2 h3
     refine .inr ⟨.cells true z cs,?_,rfl,rfl,fun ρ1 ρ2 r1 w1 hle hob =>?_,fun z2 cs2 e=>by cases e⟩
     ·rw[List.append_assoc,List.getElem?_append_left (by omega)];exact h3
     ·refine jh (d:=d) hle.1 hle.2 hle.3 (o:=.cells true z cs) ?_ (fun q=>by rw[h5]at q;cases q)
      rw[h5];exact hob
   ·unfold dt at h1
    rw[if_neg hlt]at h1
    split at h1
    ·rename_i hl2
     cases h1
     rw[List.getElem?_append_right (by omega),hK]at h3
     have ho:=List.mem_of_getElem? h3
     obtain ⟨z,cs,rfl⟩:=hc o ho
     have h4:(new.map (rno (dt H.length gs.length new.length) d))[id-H.length]?=some (rno (dt H.length gs.length new.length) d (.cells true z cs)):=by rw[List.getElem?_map,h3];rfl
     rw[hn,h3]at h4
     have h5:rno (dt H.length gs.length new.length) d (.cells true z cs) = .cells true z cs:=(Option.some.inj h4).symm
     refine .inr ⟨.cells true z cs,?_,rfl,rfl,fun ρ1 ρ2 r1 w1 hle hob =>?_,fun z2 cs2 e=>by cases e⟩
     ·rw[List.getElem?_append_right (by rw[aX];omega),aX,hK,show id+gs.length-(H.length+gs.length)=id-H.length by omega];exact h3
     ·refine jh (d:=d) hle.1 hle.2 hle.3 (o:=.cells true z cs) ?_ (fun q=>by rw[h5]at q;cases q)
      rw[h5];exact hob
    ·cases h1
 obtain ⟨q1,_⟩:=he.post hr hp
 refine ⟨v,r,bS ρ' (dt H.length gs.length new.length),_,rfl,?_,q1,rfl,rfl⟩
 have hσ:∀id id' r,dt H.length gs.length new.length id=some id'->ρ' id'=some r->(bS ρ' (dt H.length gs.length new.length)) id=some r:=fun id id' r h1 h2=>by show Option.bind _ _=_;rw[h1];exact h2
 refine iy (ρ':=ρ') (J:=bS ρ' (dt H.length gs.length new.length)) hσ (fun _ _ h=>h) (fun F F' k r h1 h2=>by show Option.bind _ _=_;rw[h1];exact h2) d ?_
 rw[hv];exact hv'
end
end Go.K
