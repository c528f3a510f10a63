/- Ice: what reports tell together, conflicts, trusted reports. No condition. -/
import Derived.Test.YthcjliffpebjaaaGreatGP1gxP4
import Derived.Test.YthcjliffpebjaaaGreatGS0xP1a
import Derived.Shelf.SlSortCmp.Whole1
import Derived.Ground.SlsfProg
import Derived.Test.YthcjliffpebjaaaGreatChecked
import Derived.Sort.Grow
import Derived.Deep.Draws
import Derived.Test.YthcjliffpebjaaaGreatGK1xK7
import Derived.Test.YthcjliffpebjaaaGreatGV11xV14
open Go Go.K
set_option maxRecDepth 1000000
set_option maxHeartbeats 4000000
set_option linter.unusedVariables false
set_option linter.unusedSimpArgs false
namespace Go.Proofs.YthcjliffpebjaaaGreat
noncomputable section
theorem kX(ts:List Cell)(j:Nat)(hj:j<=2 ^ ts.length):(((agr ts j).1 = -1/\(agr ts j).2=[])∨(0<=(agr ts j).1/\(agr ts j).2≠[]))/\∀s∈(agr ts j).2,s<2 ^ ts.length/\(aT ts s).isSome=true/\((cQ s:Nat):Int)=(agr ts j).1:=by
 induction j with
 |zero=>exact ⟨.inl ⟨rfl,rfl⟩,fun s h=>by cases h⟩
 |succ j ih =>
  obtain ⟨i1,i2⟩:=ih (by omega)
  have hs:2 ^ ts.length-1-j<2 ^ ts.length:=by omega
  rcases Classical.em ((cQ (2 ^ ts.length-1-j):Int)<(agr ts j).1) with h1|h1
  ·rw[rt rfl h1];exact ⟨i1,i2⟩
  ·cases h2:(aT ts (2 ^ ts.length-1-j)).isSome with
   |false=>rw[wE rfl h1 h2];exact ⟨i1,i2⟩
   |true =>
    rcases Classical.em ((agr ts j).1<cQ (2 ^ ts.length-1-j)) with h3|h3
    ·rw[rr rfl h1 h2 h3]
     refine ⟨.inr ⟨by omega,by simp⟩,fun s hm =>?_⟩
     rw[List.mem_singleton.1 hm];exact ⟨hs,h2,rfl⟩
    ·rw[rq rfl h1 h2 h3]
     refine ⟨.inr ⟨by show 0<=(agr ts j).1;omega,by simp⟩,fun s hm =>?_⟩
     rcases List.mem_append.1 hm with hm|hm
     ·exact i2 s hm
     ·rw[List.mem_singleton.1 hm];exact ⟨hs,h2,by omega⟩
theorem vd(ts:List Cell)(j:Nat):tog ts 0 j=some az:=by
 induction j with
 |zero=>rfl
 |succ j ih=>rw[i6 ih,show cx ts.length 0 j=false from Nat.zero_testBit _,if_neg (by decide)]
theorem pz(ts:List Cell):cG ts≠[]:=by
 unfold cG
 have h0:1<=2 ^ ts.length:=Nat.one_le_two_pow
 obtain ⟨j,hj⟩:∃j,2 ^ ts.length=j+1:=⟨2 ^ ts.length-1,by omega⟩
 obtain ⟨i1,_⟩:=kX ts j (by omega)
 have hs:2 ^ ts.length-1-j=0:=by omega
 have hz:(aT ts 0).isSome=true:=by unfold aT;rw[vd];rfl
 rw[hj]
 rcases Classical.em ((cQ 0:Int)<(agr ts j).1) with h1|h1
 ·rw[rt hs h1]
  rcases i1 with ⟨a,_⟩|⟨_,b⟩
  ·rw[a]at h1;omega
  ·exact b
 ·rcases Classical.em ((agr ts j).1<cQ 0) with h3|h3
  ·rw[rr hs h1 hz h3];simp
  ·rw[rq hs h1 hz h3];simp
attribute [local irreducible] vF fo cQ
theorem lf(ts:List Cell):ao ts∈cG ts:=by
 unfold ao
 cases h:cG ts with
 |nil=>exact absurd h (pz ts)
 |cons a r=>simp
theorem t7(ts:List Cell):ao ts<2 ^ ts.length/\(aT ts (ao ts)).isSome=true :=
 let h:=(kX ts (2 ^ ts.length) (Nat.le_refl _)).2 _ (lf ts); ⟨h.1,h.2.1⟩
theorem jN(n:Nat)(l:List Bool):(l.flatMap bO).all (aE n)=true:=dz (fun _=>rfl) l
theorem hU(b:Bool):(bO b).length=1:=rfl
theorem AG{l:List Nat}(h:l≠[]):(l.flatMap dO)[0]?=some (.int .i64 (((l.getD 0 0:Nat)):Int)):=by
 cases l with
 |nil=>exact absurd rfl h
 |cons x r=>rfl
theorem pO(ts:List Cell)(x:Nat):aX ts (x+1)=aX ts x ++ [cx ts.length (ao ts) x]:=na _ _
theorem iD(ts:List Cell)(x:Nat):(aX ts x).length=x:=bK _ _
theorem yt(m:aR){ts:List Cell}(hn:ts.length<=12){H:Heap}{L:Nat}(hL:H.length=L){w j:Nat}{own eN:Bool}{z z2:Nat}(h1:H[w]?=some (.cells own z (eX m j ts.length)))(h2:H[j]?=some (.cells eN z2 (ts.flatMap cellC))) :
    ai prog F.l4 [.pointer (some ⟨w,0,none⟩)] H [] (Is (.tuple #[.slice (some ⟨L,0,some 1⟩) (aX ts ts.length).length (aX ts ts.length).length,cellV ((aT ts (ao ts)).getD ah)]) (H ++ [.cells true 1 ((aX ts ts.length).flatMap bO)])):=by
  subst hL
  have key:=fun hc=>xQ (css:=[eX m 1 ts.length,ts.flatMap cellC]) (v:=.tuple #[.slice (some ⟨2,0,some 1⟩) (aX ts ts.length).length (aX ts ts.length).length,cellV ((aT ts (ao ts)).getD ah)]) (new:=[(true,.cells true 1 ((aX ts ts.length).flatMap bO))]) (Eq.mpr (zi m ts) hc) rfl (by simp[rn,bZ])
    (by show ((cT 3 (.cells true 1 ((aX ts ts.length).flatMap bO)) && true) && true) = true
        rw[Bool.and_true,Bool.and_true];exact (gb (U:=fun _=>none) (d:=0) (jN 0 _)).2)
    (congrArg (fun q=>[ae.cells true 1 q]) (gb (d:=0) (jN 0 _)).1) (H:=H) [w,j] rfl (i3 h1 h2)
  have e1:rn (cY (0 + [eX m 1 ts.length,ts.flatMap cellC].length) H.length) 3 (.tuple #[.slice (some ⟨2,0,some 1⟩) (aX ts ts.length).length (aX ts ts.length).length,cellV ((aT ts (ao ts)).getD ah)]) = .tuple #[.slice (some ⟨H.length,0,some 1⟩) (aX ts ts.length).length (aX ts ts.length).length,cellV ((aT ts (ao ts)).getD ah)]:=by simp[rn,cY]
  have e2:(List.map (fun x:Bool×ae=>x.2) [(true,ae.cells true 1 ((aX ts ts.length).flatMap bO))]).map (rno (cY (0 + [eX m 1 ts.length,ts.flatMap cellC].length) H.length) 3)=[.cells true 1 ((aX ts ts.length).flatMap bO)] :=
    congrArg (fun q=>[ae.cells true 1 q]) (gb (d:=0) (jN 0 _)).1
  rw[e1,e2]at key
  refine key ?_
  clear key e1 e2
  unfold wJ
  obtain ⟨t1,t2⟩:=t7 ts
  have hp:=qf hn
  have hne:=pz ts
  have hne1:0<(cG ts).length:=List.length_pos_iff.2 hne
  have hs:ao ts<4096:=by omega
  refine ⟨⟨rfl,rfl,trivial⟩,fun H' hl hd=>uA m hn hl hd.1 hd.2.1,by omega,AG hne,(_,_),⟨rfl,rfl,trivial⟩,fun H' _ hd=>nA m (ao ts) hn hs hd.1 hd.2.1,?_⟩
  refine ⟨rfl,Nat.zero_le _,?_,fun _=>rfl,?_⟩
  · repeat' first|exact jN _ _|exact trivial|exact rfl|exact ar _|refine ay ?_|refine aB ?_ ?_|exact aP|exact ba _ _ _ (.inl rfl)|(exact bT (by omega))|refine aN ?_|refine aL ?_|refine aK ?_ ?_ ?_|refine aJ ?_ ?_ ?_|refine toMax ?_|refine toMin ?_|refine ⟨rfl,?_⟩|refine ⟨trivial,?_⟩|(refine aO (fun h =>?_) (fun h =>?_))|(refine aM (fun h =>?_) (fun h =>?_))|(refine aU (fun h =>?_) (fun h =>?_))|refine aD ?_|(refine ⟨aG (by omega),?_⟩)|(refine And.intro (by omega) ?_)|apply And.intro|(exact iEq (by omega))|(exact aG (by omega))
  intro x hx
  refine aO (fun h =>?_) (fun h =>?_)
  · have hlt : x < ts.length := by omega
    have hb:=wD (n:=ao ts) (k:=ts.length-1-x) (by omega) (by omega)
    have hpk:=qf (k:=ts.length-1-x) (by omega)
    have hbit:(Value.bool ((if (ao ts).testBit (ts.length-1-x) then (((2 ^ (ts.length-1-x):Nat)):Int) else 0) != 0)) = .bool (cx ts.length (ao ts) x):=by
      show _=Value.bool ((ao ts).testBit (ts.length-1-x))
      cases (ao ts).testBit (ts.length-1-x) with
      |true=>refine congrArg Value.bool ?_;rw[if_pos rfl];exact bne_iff_ne.2 (by omega)
      |false=>rfl
    refine ⟨_,⟨rfl,rfl,trivial⟩,fun H' _ hd=>zO m x hn hlt hd.1 hd.2.1,_,iEq hb,?_⟩
    repeat' first|(refine ⟨aG (by omega),?_⟩)|(refine ⟨⟨by omega,by decide,⟨Nat.le_refl _,by rw[bJ hU,iD];omega⟩,⟨by decide,Nat.le_refl _⟩,rfl⟩,rfl,?_⟩)|(refine ⟨x+1,by omega,by omega,?_⟩)
    rw[pO]
    repeat' first|exact jN _ _|(exact congrArg (fun l=>some (ae.cells true 1 l)) (by rw[hbit];exact fD hU (aX ts x) _ (iD ..).symm))|exact trivial|exact rfl|exact ar _|refine ay ?_|refine aB ?_ ?_|exact aP|exact ba _ _ _ (.inl rfl)|(exact bT (by omega))|refine aN ?_|refine aL ?_|refine aK ?_ ?_ ?_|refine aJ ?_ ?_ ?_|refine toMax ?_|refine toMin ?_|refine ⟨rfl,?_⟩|refine ⟨trivial,?_⟩|(refine aO (fun h =>?_) (fun h =>?_))|(refine aM (fun h =>?_) (fun h =>?_))|(refine aU (fun h =>?_) (fun h =>?_))|refine aD ?_|(refine ⟨aG (by omega),?_⟩)|(refine And.intro (by omega) ?_)|apply And.intro|(exact iEq (by omega))|(exact aG (by omega))
  · obtain rfl : x = ts.length := by omega
    repeat' first|exact jN _ _|exact trivial|exact rfl|exact ar _|refine ay ?_|refine aB ?_ ?_|exact aP|exact ba _ _ _ (.inl rfl)|(exact bT (by omega))|refine aN ?_|refine aL ?_|refine aK ?_ ?_ ?_|refine aJ ?_ ?_ ?_|refine toMax ?_|refine toMin ?_|refine ⟨rfl,?_⟩|refine ⟨trivial,?_⟩|(refine aO (fun h =>?_) (fun h =>?_))|(refine aM (fun h =>?_) (fun h =>?_))|(refine aU (fun h =>?_) (fun h =>?_))|refine aD ?_|(refine ⟨aG (by omega),?_⟩)|(refine And.intro (by omega) ?_)|apply And.intro|(exact iEq (by omega))|(exact aG (by omega))
    all_goals (rw[iD];exact ar _)
end
end Go.Proofs.YthcjliffpebjaaaGreat
namespace Go.Proofs.YthcjliffpebjaaaGreat
noncomputable section
attribute [local irreducible] vF
abbrev bf(x:Int):List Value:=[.int .i64 x]
theorem dw(x:Int):(bf x).length=1:=rfl
theorem hZ{s:Span}{u d h mx:Int}(hs:bF s mx)(hu:0<=chg u h)(hd:0<=chg d h):bF (rx s u d h mx) mx:=by
 unfold bF at *;unfold rx;dsimp only;omega
theorem mH{c:Cell}{m:aR}{h:Int}(hc:bG c)(hm:cb m)(hh:0<=h/\h<=10000):bG (gP c m h):=by
 obtain ⟨⟨u1,u2,u3,u4⟩,d1,d2,d3,d4⟩:=hm
 exact ⟨hZ hc.1 (dt u1 hh).1 (dt d1 hh).1,hZ hc.2.1 (dt u2 hh).1 (dt d2 hh).1,hZ hc.2.2.1 (dt u3 hh).1 (dt d3 hh).1,hZ hc.2.2.2 (dt u4 hh).1 (dt d4 hh).1⟩
end
end Go.Proofs.YthcjliffpebjaaaGreat
namespace Go.Proofs.YthcjliffpebjaaaGreat
open Go Go.Shelf
end Go.Proofs.YthcjliffpebjaaaGreat
namespace Go.K
variable {P:Program}
theorem Rel.world{B:Nat}{J:Ren}{H:Heap}{w W:World}(hr:Rel P B J H w)(b0:Nat)(hsz:w.heap.size<=W.heap.size)(hsame:∀b,b<w.heap.size->b≠b0->W.heap[b]?=w.heap[b]?)
  (hfree:∀id r o,J id=some r->H[id]?=some o->o.alive=true->r.b≠b0) (hmem:∀m,J.mem b0=some m->False) (hfb:¬ FB J H b0):Rel P B J H W:=by
 refine ⟨Nat.le_trans hr.bsize hsz,hr.dc,hr.dom,fun id r h=>Nat.lt_of_lt_of_le (hr.lt id r h) hsz,fun id r o h1 h2 =>?_,hr.base,hr.sep,fun b m hb=>⟨?_,(hr.mem b m hb).2⟩,
  hr.fam.keep (Ren.le_refl _) (fun _ _ _ h=>h) (fun _ _ _ _ h=>h) (Nat.le_refl _) hsz (fun b hb=>by
   rcases Nat.lt_or_ge b w.heap.size with hl|hl
   ·exact hsame b hl (fun e=>hfb (e ▸ hb))
   ·exact absurd hb (hr.fam.mi hl)) (fun id r o a b c=>hr.fam.free a b c) (fun b m h=>hr.fam.dJ h)⟩
 ·by_cases hal:o.alive=true
  ·exact (hr.obj id r o h1 h2).mono (Ren.le_refl _) (hsame _ (hr.lt id r h1) (hfree id r o h1 h2 hal))
  ·cases o <;> first|trivial|exact absurd rfl hal
 ·obtain ⟨ty,fz,e⟩:=(hr.mem b m hb).1
  have hne:b≠b0:=by rintro rfl;exact hmem m hb
  exact ⟨ty,fz,(hsame b (Array.getElem?_eq_some_iff.1 e).1 hne).trans e⟩
theorem Post.grown{B base:Nat}{M:List Nat}{J ρ':Ren}{H H':Heap}{w w1 w2:World}(p:Post P B base M J H w ρ' H' w1)(hsz:w1.heap.size<=w2.heap.size)(hsame:∀b,b<w1.heap.size->w2.heap[b]?=w1.heap[b]?)
  (hos:w2.os=w1.os) (ht:w2.tape=w1.tape) (ho:w2.output=w1.output) (hd:w1.drawn<=w2.drawn):Post P B base M J H w ρ' H' w2:=by
 have hlt:∀id r o,ρ' id=some r->H'[id]?=some o->o.alive=true->r.b≠w1.heap.size:=fun id r o h1 _ _=>by have:=p.rel.lt id r h1;omega
 have hm:∀m,ρ'.mem w1.heap.size=some m->False:=fun m h=>by
  obtain ⟨ty,fz,e⟩:=(p.rel.mem _ m h).1
  have:=(Array.getElem?_eq_some_iff.1 e).1;omega
 exact ⟨p.rel.world w1.heap.size hsz (fun b h _=>hsame b h) hlt hm (p.rel.fam.mi (Nat.le_refl _)),p.ext,p.new,p.len,p.same,Nat.le_trans p.size hsz,fun b h1 h2=>(hsame b (Nat.lt_of_lt_of_le h1 p.size)).trans (p.keep b h1 h2),p.ob,hos.trans p.os,ht.trans p.tape,ho.trans p.output,p.frz,Nat.le_trans p.drawn hd,p.jh⟩
end Go.K
namespace Go.K
open Go Go.Proofs Go.RowKit Go.Lib Go.Sort
variable {P:Program}
end Go.K
namespace Go.Proofs.YthcjliffpebjaaaGreat
open Go Go.K Go.Sort
noncomputable section
attribute [local irreducible] vF
theorem qU {P : Program} {f : FuncId} {fn : Func} (hf : P.funcs[f]? = some fn) (hname : (fn.name == "runtime.NumGoroutine") = false) (hb : fn.body.isSome = true) : Enters P f := by
 obtain ⟨c,hc⟩:=Option.isSome_iff_exists.1 hb
 exact enters_of hf hname hc
end
end Go.Proofs.YthcjliffpebjaaaGreat
namespace Go.Proofs.YthcjliffpebjaaaGreat
noncomputable section
attribute [local irreducible] vF cQ
def sp(c:Cell):Nat->Span
 |0=>c.ag
 |1=>c.ad
 |2=>c.ac
 |_=>c.ab
theorem wZ(c:Cell):okC c ↔ ∀d,(sp c d).lo<=(sp c d).hi:=by
 constructor
 ·rintro ⟨h0,h1,h2,h3⟩ d
  match d with
  |0=>exact h0
  |1=>exact h1
  |2=>exact h2
  |_+3=>exact h3
 ·intro h;exact ⟨h 0,h 1,h 2,h 3⟩
theorem gT(a b:Cell)(d:Nat):sp (d8 a b) d=nv (sp a d) (sp b d):=by
 match d with
 |0=>rfl
 |1=>rfl
 |2=>rfl
 |_+3=>rfl
theorem fy{c:Cell}(h:bG c)(d:Nat):(sp az d).lo<=(sp c d).lo/\(sp c d).lo<=(sp c d).hi/\(sp c d).hi<=(sp az d).hi:=by
 obtain ⟨⟨a1,a2,a3,a4⟩,⟨b1,b2,b3,b4⟩,⟨c1,c2,c3,c4⟩,⟨d1,d2,d3,d4⟩⟩:=h
 match d with
 |0=>exact ⟨a1,a3,a4⟩
 |1=>exact ⟨b1,b3,b4⟩
 |2=>exact ⟨c1,c3,c4⟩
 |_+3=>exact ⟨d1,d3,d4⟩
theorem okM{a b:Cell}:okC (d8 a b) ↔ ∀d,max (sp a d).lo (sp b d).lo<=min (sp a d).hi (sp b d).hi:=by
 rw[wZ]
 constructor
 ·intro h d;have:=h d;rw[gT]at this;exact this
 ·intro h d;rw[gT];exact h d
def okA(ts:List Cell)(p:Nat->Bool):Prop:=∀i j,i<ts.length->j<ts.length->p i=true->p j=true->okC (d8 (ts.getD i ah) (ts.getD j ah))
def gU(ts:List Cell):Prop:=∀i,i<ts.length->bG (ts.getD i ah)
structure wH(ts:List Cell)(s j:Nat)(c:Cell):Prop where
 ok:∀d,(sp c d).lo<=(sp c d).hi
 le:∀i d,i<j->cx ts.length s i=true->(sp (ts.getD i ah) d).lo<=(sp c d).lo/\(sp c d).hi<=(sp (ts.getD i ah) d).hi
 lo:∀d,(sp c d).lo=(sp az d).lo∨∃i,i<j/\cx ts.length s i=true/\(sp c d).lo=(sp (ts.getD i ah) d).lo
 hi:∀d,(sp c d).hi=(sp az d).hi∨∃i,i<j/\cx ts.length s i=true/\(sp c d).hi=(sp (ts.getD i ah) d).hi
theorem ov{ts:List Cell}{s:Nat}:∀j,j<=ts.length->∀c,tog ts s j=some c->wH ts s j c:=by
 intro j
 induction j with
 |zero =>
  intro _ c h
  cases h
  refine ⟨fun d =>?_,fun i d h=>absurd h (Nat.not_lt_zero _),fun d => .inl rfl,fun d => .inl rfl⟩
  match d with
  |0=>exact (show (0:Int)<=100 by decide)
  |1=>exact (show (0:Int)<=400 by decide)
  |2=>exact (show (0:Int)<=100 by decide)
  |_+3=>exact (show (0:Int)<=3 by decide)
 |succ j ih =>
  intro hj c h
  cases h0:tog ts s j with
  |none=>rw[pQ h0 (Nat.le_succ j)]at h;cases h
  |some c0 =>
   have I:=ih (by omega) c0 h0
   rw[i6 h0]at h
   split at h
   ·rename_i hin
    split at h
    ·rename_i hok
     cases h
     rw[okM]at hok
     refine ⟨fun d=>by rw[gT];exact hok d,fun i d hi hs =>?_,fun d =>?_,fun d =>?_⟩
     ·rw[gT]
      rcases Nat.lt_or_ge i j with h1|h1
      ·have:=I.le i d h1 hs
       show _<=max _ _/\min _ _<=_
       omega
      ·obtain rfl:i=j:=by omega
       show _<=max _ _/\min _ _<=_
       omega
     ·rw[gT]
      show max _ _=_∨∃i,_/\_/\max _ _=_
      rcases Int.le_total (sp c0 d).lo (sp (ts.getD j ah) d).lo with h1|h1
      ·exact .inr ⟨j,by omega,hin,by omega⟩
      ·rw[show max (sp c0 d).lo (sp (ts.getD j ah) d).lo=(sp c0 d).lo by omega]
       rcases I.lo d with h2|⟨i,h2,h3,h4⟩
       ·exact .inl h2
       ·exact .inr ⟨i,by omega,h3,h4⟩
     ·rw[gT]
      show min _ _=_∨∃i,_/\_/\min _ _=_
      rcases Int.le_total (sp (ts.getD j ah) d).hi (sp c0 d).hi with h1|h1
      ·exact .inr ⟨j,by omega,hin,by omega⟩
      ·rw[show min (sp c0 d).hi (sp (ts.getD j ah) d).hi=(sp c0 d).hi by omega]
       rcases I.hi d with h2|⟨i,h2,h3,h4⟩
       ·exact .inl h2
       ·exact .inr ⟨i,by omega,h3,h4⟩
    ·cases h
   ·rename_i hin
    cases h
    refine ⟨I.ok,fun i d hi hs =>?_,fun d =>?_,fun d =>?_⟩
    ·rcases Nat.lt_or_ge i j with h1|h1
     ·exact I.le i d h1 hs
     ·obtain rfl:i=j:=by omega
      exact absurd hs hin
    ·rcases I.lo d with h2|⟨i,h2,h3,h4⟩
     ·exact .inl h2
     ·exact .inr ⟨i,by omega,h3,h4⟩
    ·rcases I.hi d with h2|⟨i,h2,h3,h4⟩
     ·exact .inl h2
     ·exact .inr ⟨i,by omega,h3,h4⟩
theorem pP{ts:List Cell}{s:Nat}(hr:gU ts)(h:okA ts (cx ts.length s)):∀j,j<=ts.length->∃c,tog ts s j=some c:=by
 intro j
 induction j with
 |zero=>intro _;exact ⟨_,rfl⟩
 |succ j ih =>
  intro hj
  obtain ⟨c,hc⟩:=ih (by omega)
  have I:=ov j (by omega) c hc
  rw[i6 hc]
  split
  ·rename_i hin
   have hok:okC (d8 c (ts.getD j ah)):=by
    rw[okM]
    intro d
    have r:=fy (hr j (by omega)) d
    have o:=I.ok d
    have k1:(sp c d).lo<=(sp (ts.getD j ah) d).hi:=by
     rcases I.lo d with h2|⟨i,h2,h3,h4⟩
     ·omega
     ·have:=(okM.1 (h i j (by omega) (by omega) h3 hin)) d
      omega
    have k2:(sp (ts.getD j ah) d).lo<=(sp c d).hi:=by
     rcases I.hi d with h2|⟨i,h2,h3,h4⟩
     ·omega
     ·have:=(okM.1 (h i j (by omega) (by omega) h3 hin)) d
      omega
    omega
   rw[if_pos hok];exact ⟨_,rfl⟩
  ·exact ⟨_,rfl⟩
theorem oz{ts:List Cell}(hr:gU ts)(s:Nat):(aT ts s).isSome=true ↔ okA ts (cx ts.length s):=by
 constructor
 ·intro h i j hi hj h1 h2
  obtain ⟨c,hc⟩:=Option.isSome_iff_exists.1 h
  have I:=ov ts.length (Nat.le_refl _) c hc
  rw[okM]
  intro d
  have a:=I.le i d hi h1
  have b:=I.le j d hj h2
  have o:=I.ok d
  have r1:=fy (hr i hi) d
  have r2:=fy (hr j hj) d
  omega
 ·intro h
  obtain ⟨c,hc⟩:=pP hr h ts.length (Nat.le_refl _)
  show (tog ts s ts.length).isSome=true
  rw[hc];rfl
def cnt(n:Nat)(p:Nat->Bool):Nat:=(List.range n).countP p
theorem gK(n:Nat)(p:Nat->Bool):cnt (n+1) p=cnt n p+(p n).toNat:=by
 unfold cnt
 rw[List.range_succ,List.countP_append]
 cases h:p n <;> simp[h]
theorem j0{n:Nat}{p q:Nat->Bool}(h:∀i,i<n->p i=q i):cnt n p=cnt n q:=by
 induction n with
 |zero=>rfl
 |succ n ih=>rw[gK,gK,ih (fun i hi=>h i (by omega)),h n (by omega)]
theorem qF{n s i:Nat}(hi:i<n):cx (n+1) s i=cx n (s / 2) i:=by
 unfold cx
 rw[show n+1-1-i=(n-1-i)+1 by omega,Nat.testBit_succ]
theorem l0(n s:Nat):cx (n+1) s n=s.testBit 0:=by unfold cx;rw[show n+1-1-n=0 by omega]
theorem vo:(List.range 4096).all (fun s=>Nat.beq (cQ s) (cQ (s / 2)+s % 2))=true:=by kernel_rfl
theorem zJ{s:Nat}(h:s<4096):cQ s=cQ (s / 2)+s % 2:=Nat.eq_of_beq_eq_true (List.all_eq_true.1 vo s (List.mem_range.2 h))
theorem jc:∀(n s:Nat),s<2 ^ n->n<=12->cQ s=cnt n (cx n s)
 |0,s,h,_=>by
  obtain rfl:s=0:=by simpa using h
  kernel_rfl
 |n+1,s,h,hn=>by
  have h12:2 ^ (n+1)<=2 ^ 12:=Nat.pow_le_pow_right (by decide) hn
  rw[zJ (by omega),jc n (s / 2) (by rw[Nat.pow_succ]at h;omega) (by omega),gK,j0 (fun i hi=>qF hi),l0]
  congr 1
  rw[Nat.testBit_zero]
  rcases Nat.mod_two_eq_zero_or_one s with h1|h1 <;> rw[h1] <;> rfl
def m4(p:Nat->Bool):Nat->Nat
 |0=>0
 |n+1=>2*m4 p n+(p n).toNat
theorem tH(p:Nat->Bool)(n:Nat):m4 p n<2 ^ n:=by
 induction n with
 |zero=>exact Nat.one_pos
 |succ n ih =>
  rw[Nat.pow_succ]
  show 2*m4 p n+(p n).toNat<_
  cases p n <;> simp <;> omega
theorem nP(p:Nat->Bool):∀(n i:Nat),i<n->cx n (m4 p n) i=p i
 |0,_,h=>absurd h (Nat.not_lt_zero _)
 |n+1,i,h=>by
  rcases Nat.lt_or_ge i n with h1|h1
  ·rw[qF h1]
   show cx n ((2*m4 p n+(p n).toNat) / 2) i=_
   rw[show (2*m4 p n+(p n).toNat) / 2=m4 p n by cases p n <;> simp <;> omega]
   exact nP p n i h1
  ·obtain rfl:i=n:=by omega
   rw[l0,Nat.testBit_zero]
   show decide ((2*m4 p i+(p i).toNat) % 2=1)=_
   cases p i <;> simp <;> omega
def um(ts:List Cell):Nat:=((agr ts (2 ^ ts.length)).1).toNat
theorem tN(ts:List Cell):∀j,j<=2 ^ ts.length->∀s,s<2 ^ ts.length->2 ^ ts.length<=s+j->(aT ts s).isSome=true->((cQ s:Nat):Int)<=(agr ts j).1/\(((cQ s:Nat):Int)=(agr ts j).1->s∈(agr ts j).2):=by
 intro j
 induction j with
 |zero=>intro _ s h1 h2;omega
 |succ j ih =>
  intro hj s h1 h2 h3
  obtain ⟨q,hq⟩:∃q,2 ^ ts.length-1-j=q:=⟨_,rfl⟩
  rcases Nat.lt_or_ge (s+j) (2 ^ ts.length) with hl|hl
  ·obtain rfl:s=q:=by omega
   rcases Classical.em ((cQ s:Int)<(agr ts j).1) with k1|k1
   ·rw[rt hq k1];exact ⟨by omega,fun h=>by omega⟩
   ·rcases Classical.em ((agr ts j).1<cQ s) with k2|k2
    ·rw[rr hq k1 h3 k2];exact ⟨Int.le_refl _,fun _=>List.mem_singleton.2 rfl⟩
    ·rw[rq hq k1 h3 k2];exact ⟨by show _<=(agr ts j).1;omega,fun _=>List.mem_append_right _ (List.mem_singleton.2 rfl)⟩
  ·obtain ⟨i1,i2⟩:=ih (by omega) s h1 hl h3
   rcases Classical.em ((cQ q:Int)<(agr ts j).1) with k1|k1
   ·rw[rt hq k1];exact ⟨i1,i2⟩
   ·cases k3:(aT ts q).isSome with
    |false=>rw[wE hq k1 k3];exact ⟨i1,i2⟩
    |true =>
     rcases Classical.em ((agr ts j).1<cQ q) with k2|k2
     ·rw[rr hq k1 k3 k2]
      exact ⟨by show _<=((cQ q:Nat):Int);omega,fun (h:((cQ s:Nat):Int)=((cQ q:Nat):Int))=>by omega⟩
     ·rw[rq hq k1 k3 k2];exact ⟨i1,fun h=>List.mem_append_left _ (i2 h)⟩
theorem mG(ts:List Cell):0<=(agr ts (2 ^ ts.length)).1:=by
 rcases (kX ts _ (Nat.le_refl _)).1 with ⟨_,h⟩|⟨h,_⟩
 ·exact absurd h (pz ts)
 ·exact h
theorem vy{ts:List Cell}(hr:gU ts)(hn:ts.length<=12){s:Nat}:s∈cG ts ↔ s<2 ^ ts.length/\okA ts (cx ts.length s)/\cnt ts.length (cx ts.length s)=um ts:=by
 have h0:=mG ts
 constructor
 ·intro h
  obtain ⟨h1,h2,h3⟩:=(kX ts _ (Nat.le_refl _)).2 s h
  refine ⟨h1,(oz hr s).1 h2,?_⟩
  rw[<- jc _ s h1 hn]
  unfold um;omega
 ·rintro ⟨h1,h2,h3⟩
  refine (tN ts _ (Nat.le_refl _) s h1 (by omega) ((oz hr s).2 h2)).2 ?_
  rw[jc _ s h1 hn,h3]
  unfold um;omega
theorem xA{ts:List Cell}(hr:gU ts)(hn:ts.length<=12){p:Nat->Bool}(h:okA ts p):cnt ts.length p<=um ts:=by
 have h0:=mG ts
 have e:∀i,i<ts.length->cx ts.length (m4 p ts.length) i=p i:=fun i hi=>nP p _ i hi
 have h2:okA ts (cx ts.length (m4 p ts.length)):=fun i j hi hj h1 h2=>h i j hi hj (by rw[<- e i hi];exact h1) (by rw[<- e j hj];exact h2)
 have:=(tN ts _ (Nat.le_refl _) _ (tH p ts.length) (by omega) ((oz hr _).2 h2)).1
 rw[jc _ _ (tH p ts.length) hn,j0 e]at this
 unfold um;omega
theorem qp{ts:List Cell}(hr:gU ts)(hn:ts.length<=12):okA ts (cx ts.length (ao ts))/\cnt ts.length (cx ts.length (ao ts))=um ts :=
 ((vy hr hn).1 (lf ts)).2
structure kc(l:List Report)(m:aR)(now:Int):Prop where
 ask:yV m now=0
 len:l.length<=12
 each:∀r∈l,c7 r/\r.at_<=now
 ids:l.Pairwise (fun a b=>a.id≠b.id)
 here:∀a∈l,∀b∈l,a.x=b.x/\a.y=b.y
theorem uJ{Y:Type}{l:List Y}{d:Y}{i:Nat}(h:i<l.length):l.getD i d=l[i]:=by
 rw[List.getD_eq_getElem?_getD,List.getElem?_eq_getElem h];rfl
def pV(x:List Report)(p:Nat->Bool):Nat->List Report
 |0=>[]
 |k+1=>if p k then pV x p k ++ [x.getD k af] else pV x p k
theorem uc(x:List Report)(p:Nat->Bool):∀k,k<=x.length->(pV x p k).Sublist (x.take k):=by
 intro k
 induction k with
 |zero=>intro _;exact List.Sublist.refl _
 |succ k ih =>
  intro hk
  rw[List.take_add_one,List.getElem?_eq_getElem (by omega)]
  unfold pV
  split
  ·rw[uJ (by omega)]
   exact (ih (by omega)).append (List.Sublist.refl _)
  ·exact (ih (by omega)).trans (List.sublist_append_left ..)
theorem kc.sub{l l':List Report}{m:aR}{now:Int}(h:kc l m now)(hs:l'.Sublist l):kc l' m now :=
 ⟨h.ask,Nat.le_trans hs.length_le h.len,fun r hr=>h.each r (hs.subset hr),h.ids.sublist hs,fun a ha b hb=>h.here a (hs.subset ha) b (hs.subset hb)⟩
theorem kc.some{x:List Report}{m:aR}{now:Int}(h:kc x m now)(p:Nat->Bool){k:Nat}(hk:k<=x.length):kc (pV x p k) m now :=
 h.sub ((uc x p k hk).trans (List.take_sublist ..))
end
end Go.Proofs.YthcjliffpebjaaaGreat
namespace Go.Proofs.YthcjliffpebjaaaGreat
noncomputable section
structure gQ where
 w:Int
 h:Int
 hour:Int
 cells:List Cell
def cj:gQ:=⟨0,0,0,[]⟩
def tab{Y:Type}(f:Nat->Y)(n:Nat):List Y:=(List.range n).map f
theorem kK{Y:Type}(f:Nat->Y)(n:Nat):(tab f n).length=n:=by simp[tab]
theorem vf{Y:Type}(f:Nat->Y)(n:Nat):tab f (n+1)=tab f n ++ [f n]:=by simp[tab,List.range_succ]
theorem wV{Y:Type}{f:Nat->Y}{n k:Nat}{d:Y}(h:k<n):(tab f n).getD k d=f k:=by simp[tab,List.getD_eq_getElem?_getD,List.getElem?_range h]
def a6(w h t:Int)(cs:List Cell):Int:=ew (bp w h t) (if (cs.length:Int)=w*h then errs cc cs else 1)
def bv(w h t:Int)(cs:List Cell)(m:aR)(n:Int):gQ×Int :=
 if ew (a6 w h t cs) (bA m)=0 then (if 0<=n/\n<=10000-t then (⟨w,h,t+n,tab (fun k=>gP (cs.getD k ah) m n) cs.length⟩,0) else (cj,6)) else (cj,ew (a6 w h t cs) (bA m))
def cv(w h t:Int)(cs:List Cell)(w' h' t':Int)(ds:List Cell):Int :=
 if ew (a6 w h t cs) (a6 w' h' t' ds)=0 then (if w=w'/\h=h'/\t=t' then 0 else 1) else ew (a6 w h t cs) (a6 w' h' t' ds)
def kr(cs ds:List Cell)(n:Nat):Prop:=∀k,k<n->mZ (cs.getD k ah) (ds.getD k ah)
def ku(cs:List Cell)(xs:List Ice)(n:Nat):Prop:=∀k,k<n->db (cs.getD k ah) (xs.getD k bq)
open Classical in
def f9(w h t:Int)(cs:List Cell)(w' h' t':Int)(ds:List Cell):Bool×Int :=
 if cv w h t cs w' h' t' ds=0 then (decide (kr cs ds cs.length),0) else (false,cv w h t cs w' h' t' ds)
open Classical in
def dK(w h t:Int)(cs:List Cell)(xs:List Ice):Bool×Int :=
 if a6 w h t cs=0 then (if xs.length=cs.length then (if errs cu xs=0 then (decide (ku cs xs xs.length),0) else (false,errs cu xs)) else (false,1)) else (false,a6 w h t cs)
end
end Go.Proofs.YthcjliffpebjaaaGreat
namespace Go.Proofs.YthcjliffpebjaaaGreat
noncomputable section
attribute [local irreducible] vF
def tP(sp:Value)(cs:List Cell):Prop :=
 (true=true/\(0<=List.length cs/\sp = .int .i64 (errs cc (List.drop 0 cs)))/\(true=true/\((.int .i64 0:Value) = .int .i64 ((0:Nat):Int)/\(.func (.func 27) #[] #[]:Value) = .func (.func 27) #[] #[]/\wk (.slice (some ⟨0,0,some 2⟩) (List.length cs) (List.length cs):Value) (.slice (some ⟨0,0,some 2⟩) (List.length cs) (List.length cs):Value)/\(.int .i64 (((List.length cs):Nat):Int):Value) = .int .i64 (((List.length cs):Nat):Int)/\True)/\(True)/\(True)/\(True))/\(∀x0:Nat,true=true)/\∀x0:Nat,(x0<=List.length cs/\sp = .int .i64 (errs cc (List.drop x0 cs)))->(((decide ((((x0:Nat):Int):Int)<(((List.length cs):Nat):Int)))=true->(((0:Int)<=((x0:Nat):Int)/\(((x0:Nat):Int):Int)<(((List.length cs):Nat):Int))/\((c8 8 (List.flatMap cellC cs) (0+Int.toNat ((x0:Nat):Int)*8)=some (.agg #[.int .i64 (List.getD cs x0 ah).ag.lo,.int .i64 (List.getD cs x0 ah).ag.hi,.int .i64 (List.getD cs x0 ah).ad.lo,.int .i64 (List.getD cs x0 ah).ad.hi,.int .i64 (List.getD cs x0 ah).ac.lo,.int .i64 (List.getD cs x0 ah).ac.hi,.int .i64 (List.getD cs x0 ah).ab.lo,.int .i64 (List.getD cs x0 ah).ab.hi]))/\(∃r1:Int,((True)/\(∀H':Heap,H'.length=2->(True)->ai prog 27 [.agg #[.int .i64 (List.getD cs x0 ah).ag.lo,.int .i64 (List.getD cs x0 ah).ag.hi,.int .i64 (List.getD cs x0 ah).ad.lo,.int .i64 (List.getD cs x0 ah).ad.hi,.int .i64 (List.getD cs x0 ah).ac.lo,.int .i64 (List.getD cs x0 ah).ac.hi,.int .i64 (List.getD cs x0 ah).ab.lo,.int .i64 (List.getD cs x0 ah).ab.hi]] H' [] (Is (.int .i64 r1) H'))/\((((r1:Int) != 0)=true->(.int .i64 r1:Value)=sp)/\(((r1:Int) != 0)=false->((.int .i64 (IntKind.wrap .i64 (((x0:Nat):Int)+1)):Value) = .int .i64 (((x0:Nat):Int)+1)/\(∃x0':Nat,(x0'<=List.length cs/\sp = .int .i64 (errs cc (List.drop x0' cs)))/\(List.length cs-x0')<(List.length cs-x0)/\true=true/\((.int .i64 (((x0:Nat):Int)+1):Value) = .int .i64 ((x0':Nat):Int)/\(.func (.func 27) #[] #[]:Value) = .func (.func 27) #[] #[]/\wk (.slice (some ⟨0,0,some 2⟩) (List.length cs) (List.length cs):Value) (.slice (some ⟨0,0,some 2⟩) (List.length cs) (List.length cs):Value)/\(.int .i64 (((List.length cs):Nat):Int):Value) = .int .i64 (((List.length cs):Nat):Int)/\True)/\(True)/\(True)/\(True))))))))))/\((decide ((((x0:Nat):Int):Int)<(((List.length cs):Nat):Int)))=false->(.int .i64 0:Value)=sp)))
theorem xH(sp:Value)(cs:List Cell):vF prog msk (dm 0) 100000 true 40 true 119 [.slice (some ⟨0,0,some 2⟩) (List.length cs) (List.length cs),.func (.func 27) #[] #[]] (bg 0 [cs.flatMap cellC]) (some [])
 (.go 3 (.inv 3 (Nat) (0) [] [] (fun x0=>[(10,.int .i64 ((x0:Nat):Int)),(1,.func (.func 27) #[] #[]),(8,.slice (some ⟨0,0,some 2⟩) (List.length cs) (List.length cs)),(9,.int .i64 (((List.length cs):Nat):Int))]) (fun x0=>[]) (fun x0=>[]) (fun x0=>[]) (fun x0=>(x0<=List.length cs/\sp = .int .i64 (errs cc (List.drop x0 cs)))) (fun x0=>(List.length cs-x0)) (fun x0 => .go 0 (.fork (.need (.val (.agg #[.int .i64 (List.getD cs x0 ah).ag.lo,.int .i64 (List.getD cs x0 ah).ag.hi,.int .i64 (List.getD cs x0 ah).ad.lo,.int .i64 (List.getD cs x0 ah).ad.hi,.int .i64 (List.getD cs x0 ah).ac.lo,.int .i64 (List.getD cs x0 ah).ac.hi,.int .i64 (List.getD cs x0 ah).ab.lo,.int .i64 (List.getD cs x0 ah).ab.hi]) (.go 3 (.bind (Int) (fun r1 => .ans [] (.int .i64 r1) [] (.go 2 (.fork (.auto) (.go 0 (.slot 20 (.int .i64 (((x0:Nat):Int)+1)) (.go 0 (.again []))))))))))) (.auto)))))
 (fun v _ _=>v=sp)=tP sp cs:=by kernel_rfl
def kD(sp:Value)(w h t:Int)(cs:List Cell):Prop :=
 (∃r0:Int,((True)/\(∀H':Heap,H'.length=2->(True)->ai prog 118 [.int .i64 w,.int .i64 h,.int .i64 t] H' [] (Is (.int .i64 r0) H'))/\((((r0:Int) != 0)=true->(.int .i64 r0:Value)=sp)/\(((r0:Int) != 0)=false->((.int .i64 (IntKind.wrap .i64 (w*h)):Value) = .int .i64 (w*h)/\(((((((List.length cs):Nat):Int):Int) != (w*h))=true->(.int .i64 1:Value)=sp)/\((((((List.length cs):Nat):Int):Int) != (w*h))=false->(∃r1:Int,(((some (.cells false 0 (List.flatMap cellC cs):ae)=some (.cells false 0 (List.flatMap cellC cs):ae))/\True)/\(∀H':Heap,H'.length=2->(H'[0]?=some (.cells false 0 (List.flatMap cellC cs):ae)/\True)->ai prog 119 [.slice (some ⟨0,0,some 2⟩) (List.length cs) (List.length cs),.func (.func 27) #[] #[]] H' [] (Is (.int .i64 r1) H'))/\(.int .i64 r1:Value)=sp)))))))))
theorem rB(sp:Value)(w h t:Int)(cs:List Cell):vF prog msk (dm 0) 100000 true 40 true 49 [.agg #[.int .i64 w,.int .i64 h,.int .i64 t,.slice (some ⟨0,0,some 2⟩) (List.length cs) (List.length cs)]] (bg 0 [cs.flatMap cellC]) (some [])
 (.go 7 (.bind (Int) (fun r0 => .ans [] (.int .i64 r0) [] (.go 2 (.fork (.auto) (.go 7 (.slot 21 (.int .i64 (w*h)) (.go 0 (.fork (.auto) (.go 1 (.bind (Int) (fun r1 => .ans [(0,.cells false 0 (List.flatMap cellC cs))] (.int .i64 r1) [] (.auto)))))))))))))
 (fun v _ _=>v=sp)=kD sp w h t cs:=by kernel_rfl
def ol(w h t:Int)(cs:List Cell)(m:aR)(n:Int):Prop :=
 (∃r0:Int,(((some (.cells false 0 (List.flatMap cellC cs):ae)=some (.cells false 0 (List.flatMap cellC cs):ae))/\True)/\(∀H':Heap,H'.length=4->(H'[0]?=some (.cells false 0 (List.flatMap cellC cs):ae)/\True)->ai prog 49 [.agg #[.int .i64 w,.int .i64 h,.int .i64 t,.slice (some ⟨0,0,some 2⟩) (List.length cs) (List.length cs)]] H' [] (Is (.int .i64 r0) H'))/\(∃r1:Int,((True)/\(∀H':Heap,H'.length=4->(True)->ai prog 31 [.agg #[.int .i64 m.up.ag,.int .i64 m.up.ad,.int .i64 m.up.ac,.int .i64 m.up.ab,.int .i64 m.down.ag,.int .i64 m.down.ad,.int .i64 m.down.ac,.int .i64 m.down.ab]] H' [] (Is (.int .i64 r1) H'))/\((((r0:Int) != 0)=true->((.bool ((r0:Int) != 0):Value) = .bool true/\(true=true/\wk (.tuple #[.agg #[.int .i64 0,.int .i64 0,.int .i64 0,.slice none 0 0],.int .i64 r0]:Value) (rn (sg 1 []) 3 (.tuple #[.agg #[.int .i64 (bv w h t cs m n).1.w,.int .i64 (bv w h t cs m n).1.h,.int .i64 (bv w h t cs m n).1.hour,.slice (some ⟨1,0,some 1⟩) (List.length (bv w h t cs m n).1.cells) (List.length (bv w h t cs m n).1.cells)],.int .i64 (bv w h t cs m n).2]:Value))/\(True/\True))))/\(((r0:Int) != 0)=false->((((r1:Int) != 0)=true->((.bool ((r1:Int) != 0):Value) = .bool true/\(true=true/\wk (.tuple #[.agg #[.int .i64 0,.int .i64 0,.int .i64 0,.slice none 0 0],.int .i64 r1]:Value) (rn (sg 1 []) 3 (.tuple #[.agg #[.int .i64 (bv w h t cs m n).1.w,.int .i64 (bv w h t cs m n).1.h,.int .i64 (bv w h t cs m n).1.hour,.slice (some ⟨1,0,some 1⟩) (List.length (bv w h t cs m n).1.cells) (List.length (bv w h t cs m n).1.cells)],.int .i64 (bv w h t cs m n).2]:Value))/\(True/\True))))/\(((r1:Int) != 0)=false->((.int .i64 (IntKind.wrap .i64 (10000-t)):Value) = .int .i64 (10000-t)/\(((decide ((0:Int)<=n))=true->(((!(decide ((n:Int)<=(10000-t))))=true->(true=true/\wk (.tuple #[.agg #[.int .i64 0,.int .i64 0,.int .i64 0,.slice none 0 0],.int .i64 6]:Value) (rn (sg 1 []) 3 (.tuple #[.agg #[.int .i64 (bv w h t cs m n).1.w,.int .i64 (bv w h t cs m n).1.h,.int .i64 (bv w h t cs m n).1.hour,.slice (some ⟨1,0,some 1⟩) (List.length (bv w h t cs m n).1.cells) (List.length (bv w h t cs m n).1.cells)],.int .i64 (bv w h t cs m n).2]:Value))/\(True/\True)))/\((!(decide ((n:Int)<=(10000-t))))=false->((.int .i64 (IntKind.wrap .i64 (t+n)):Value) = .int .i64 (t+n)/\(true=true/\(0<=List.length cs)/\(true=true/\((.int .i64 0:Value) = .int .i64 ((0:Nat):Int)/\(.int .i64 n:Value) = .int .i64 n/\(.pointer (some ⟨2,0,none⟩):Value) = .pointer (some ⟨2,0,none⟩)/\(.pointer (some ⟨3,0,none⟩):Value) = .pointer (some ⟨3,0,none⟩)/\(.int .i64 0:Value) = .int .i64 0/\(.pointer (some ⟨5,0,none⟩):Value) = .pointer (some ⟨5,0,none⟩)/\wk (.slice (some ⟨0,0,some 2⟩) (List.length cs) (List.length cs):Value) (.slice (some ⟨0,0,some 2⟩) (List.length cs) (List.length cs):Value)/\(.int .i64 (((List.length cs):Nat):Int):Value) = .int .i64 (((List.length cs):Nat):Int)/\True)/\(wkO (.cells true 0 [.int .i64 w,.int .i64 h,.int .i64 (t+n),.slice none 0 0]:ae) (rno (sg 6 []) 3 (.cells true 0 [.int .i64 w,.int .i64 h,.int .i64 (t+n),.slice (some ⟨6,0,some 1⟩) 0 0]:ae))/\True)/\(True/\True)/\(True))/\(∀x2:Nat,true=true)/\∀x2:Nat,(x2<=List.length cs)->(((decide ((((x2:Nat):Int):Int)<(((List.length cs):Nat):Int)))=true->(((0:Int)<=((x2:Nat):Int)/\(((x2:Nat):Int):Int)<(((List.length cs):Nat):Int))/\((c8 8 (List.flatMap cellC cs) (0+Int.toNat ((x2:Nat):Int)*8)=some (.agg #[.int .i64 (List.getD cs x2 ah).ag.lo,.int .i64 (List.getD cs x2 ah).ag.hi,.int .i64 (List.getD cs x2 ah).ad.lo,.int .i64 (List.getD cs x2 ah).ad.hi,.int .i64 (List.getD cs x2 ah).ac.lo,.int .i64 (List.getD cs x2 ah).ac.hi,.int .i64 (List.getD cs x2 ah).ab.lo,.int .i64 (List.getD cs x2 ah).ab.hi]))/\(∃r3:Cell,((True)/\(∀H':Heap,H'.length=8->(True)->ai prog 112 [.agg #[.int .i64 (List.getD cs x2 ah).ag.lo,.int .i64 (List.getD cs x2 ah).ag.hi,.int .i64 (List.getD cs x2 ah).ad.lo,.int .i64 (List.getD cs x2 ah).ad.hi,.int .i64 (List.getD cs x2 ah).ac.lo,.int .i64 (List.getD cs x2 ah).ac.hi,.int .i64 (List.getD cs x2 ah).ab.lo,.int .i64 (List.getD cs x2 ah).ab.hi],.agg #[.int .i64 m.up.ag,.int .i64 m.up.ad,.int .i64 m.up.ac,.int .i64 m.up.ab,.int .i64 m.down.ag,.int .i64 m.down.ad,.int .i64 m.down.ac,.int .i64 m.down.ab],.int .i64 n] H' [] (Is (.agg #[.int .i64 r3.ag.lo,.int .i64 r3.ag.hi,.int .i64 r3.ad.lo,.int .i64 r3.ad.hi,.int .i64 r3.ac.lo,.int .i64 r3.ac.hi,.int .i64 r3.ab.lo,.int .i64 r3.ab.hi]) H'))/\(((x2+1)*64<=2 ^ 44/\1≠0/\(x2<=x2/\0+x2*8<=List.length (List.flatMap cellC (tab (fun k=>gP (List.getD cs k ah) m n) x2)))/\(1<=1/\0+1*8<=List.length ([.int .i64 r3.ag.lo,.int .i64 r3.ag.hi,.int .i64 r3.ad.lo,.int .i64 r3.ad.hi,.int .i64 r3.ac.lo,.int .i64 r3.ac.hi,.int .i64 r3.ab.lo,.int .i64 r3.ab.hi]:List Value))/\((List.take (1*8) (List.drop 0 ([.int .i64 r3.ag.lo,.int .i64 r3.ag.hi,.int .i64 r3.ad.lo,.int .i64 r3.ad.hi,.int .i64 r3.ac.lo,.int .i64 r3.ac.hi,.int .i64 r3.ab.lo,.int .i64 r3.ab.hi]:List Value))):List Value).all (fun v=>cO v)=true)/\true=true/\((.int .i64 (IntKind.wrap .i64 (((x2:Nat):Int)+1)):Value) = .int .i64 (((x2:Nat):Int)+1)/\(∃x2':Nat,(x2'<=List.length cs)/\(List.length cs-x2')<(List.length cs-x2)/\true=true/\((.int .i64 (((x2:Nat):Int)+1):Value) = .int .i64 ((x2':Nat):Int)/\(.int .i64 n:Value) = .int .i64 n/\(.pointer (some ⟨2,0,none⟩):Value) = .pointer (some ⟨2,0,none⟩)/\(.pointer (some ⟨3,0,none⟩):Value) = .pointer (some ⟨3,0,none⟩)/\(.int .i64 0:Value) = .int .i64 0/\(.pointer (some ⟨5,0,none⟩):Value) = .pointer (some ⟨5,0,none⟩)/\wk (.slice (some ⟨0,0,some 2⟩) (List.length cs) (List.length cs):Value) (.slice (some ⟨0,0,some 2⟩) (List.length cs) (List.length cs):Value)/\(.int .i64 (((List.length cs):Nat):Int):Value) = .int .i64 (((List.length cs):Nat):Int)/\True)/\(wkO (.cells true 0 [.int .i64 w,.int .i64 h,.int .i64 (t+n),.slice (some ⟨9,0,none⟩) (x2+1) (x2+1)]:ae) (rno (sg 6 [(6,9)]) 3 (.cells true 0 [.int .i64 w,.int .i64 h,.int .i64 (t+n),.slice (some ⟨6,0,some 1⟩) x2' x2']:ae))/\True)/\((some (.cells true 8 ((List.take (x2*8) (List.drop 0 (List.flatMap cellC (tab (fun k=>gP (List.getD cs k ah) m n) x2))))++(List.take (1*8) (List.drop 0 ([.int .i64 r3.ag.lo,.int .i64 r3.ag.hi,.int .i64 r3.ad.lo,.int .i64 r3.ad.hi,.int .i64 r3.ac.lo,.int .i64 r3.ac.hi,.int .i64 r3.ab.lo,.int .i64 r3.ab.hi]:List Value)))):ae)=some (.cells true 8 (List.flatMap cellC (tab (fun k=>gP (List.getD cs k ah) m n) x2')):ae)/\av 6 (.cells true 8 (List.flatMap cellC (tab (fun k=>gP (List.getD cs k ah) m n) x2')):ae)=true)/\True)/\(True)))))))))/\((decide ((((x2:Nat):Int):Int)<(((List.length cs):Nat):Int)))=false->(true=true/\wk (.tuple #[.agg #[.int .i64 w,.int .i64 h,.int .i64 (t+n),.slice (some ⟨6,0,some 1⟩) x2 x2],.int .i64 0]:Value) (rn (sg 1 [(1,6)]) 3 (.tuple #[.agg #[.int .i64 (bv w h t cs m n).1.w,.int .i64 (bv w h t cs m n).1.h,.int .i64 (bv w h t cs m n).1.hour,.slice (some ⟨1,0,some 1⟩) (List.length (bv w h t cs m n).1.cells) (List.length (bv w h t cs m n).1.cells)],.int .i64 (bv w h t cs m n).2]:Value))/\((some (.cells true 8 (List.flatMap cellC (tab (fun k=>gP (List.getD cs k ah) m n) x2)):ae)=some (.cells true 8 (List.flatMap cellC (bv w h t cs m n).1.cells):ae)/\av 1 (.cells true 8 (List.flatMap cellC (bv w h t cs m n).1.cells):ae)=true)/\True)))))))))/\((decide ((0:Int)<=n))=false->(true=true/\wk (.tuple #[.agg #[.int .i64 0,.int .i64 0,.int .i64 0,.slice none 0 0],.int .i64 6]:Value) (rn (sg 1 []) 3 (.tuple #[.agg #[.int .i64 (bv w h t cs m n).1.w,.int .i64 (bv w h t cs m n).1.h,.int .i64 (bv w h t cs m n).1.hour,.slice (some ⟨1,0,some 1⟩) (List.length (bv w h t cs m n).1.cells) (List.length (bv w h t cs m n).1.cells)],.int .i64 (bv w h t cs m n).2]:Value))/\(True/\True)))))))))))))
theorem uW(w h t:Int)(cs:List Cell)(m:aR)(n:Int):vF prog msk (dm 0) 100000 true 40 true 51 [.agg #[.int .i64 w,.int .i64 h,.int .i64 t,.slice (some ⟨0,0,some 2⟩) (List.length cs) (List.length cs)],.agg #[.int .i64 m.up.ag,.int .i64 m.up.ad,.int .i64 m.up.ac,.int .i64 m.up.ab,.int .i64 m.down.ag,.int .i64 m.down.ad,.int .i64 m.down.ac,.int .i64 m.down.ab],.int .i64 n] (bg 0 [cs.flatMap cellC]) (some [])
 (.go 5 (.bind (Int) (fun r0 => .ans [(0,.cells false 0 (List.flatMap cellC cs))] (.int .i64 r0) [] (.bind (Int) (fun r1 => .ans [] (.int .i64 r1) [] (.go 12 (.fork (.go 4 (.slot 19 (.bool true) (.go 4 (.again [])))) (.go 8 (.fork (.go 4 (.slot 19 (.bool true) (.go 4 (.again [])))) (.go 12 (.slot 25 (.int .i64 (10000-t)) (.go 5 (.ax (.go 5 (.fork (.go 2 (.again [])) (.go 7 (.slot 36 (.int .i64 (t+n)) (.go 6 (.inv 3 (Nat) (0) [] [5] (fun x2=>[(41,.int .i64 ((x2:Nat):Int)),(2,.int .i64 n),(4,.pointer (some ⟨2,0,none⟩)),(6,.pointer (some ⟨3,0,none⟩)),(7,.int .i64 0),(9,.pointer (some ⟨5,0,none⟩)),(39,.slice (some ⟨0,0,some 2⟩) (List.length cs) (List.length cs)),(40,.int .i64 (((List.length cs):Nat):Int))]) (fun x2=>[(5,false,.cells true 0 [.int .i64 w,.int .i64 h,.int .i64 (t+n),.slice (some ⟨6,0,some 1⟩) x2 x2])]) (fun x2=>[(true,.cells true 8 (List.flatMap cellC (tab (fun k=>gP (List.getD cs k ah) m n) x2)))]) (fun x2=>[]) (fun x2=>(x2<=List.length cs)) (fun x2=>(List.length cs-x2)) (fun x2 => .go 0 (.fork (.need (.val (.agg #[.int .i64 (List.getD cs x2 ah).ag.lo,.int .i64 (List.getD cs x2 ah).ag.hi,.int .i64 (List.getD cs x2 ah).ad.lo,.int .i64 (List.getD cs x2 ah).ad.hi,.int .i64 (List.getD cs x2 ah).ac.lo,.int .i64 (List.getD cs x2 ah).ac.hi,.int .i64 (List.getD cs x2 ah).ab.lo,.int .i64 (List.getD cs x2 ah).ab.hi]) (.go 19 (.bind (Cell) (fun r3 => .ans [] (.agg #[.int .i64 r3.ag.lo,.int .i64 r3.ag.hi,.int .i64 r3.ad.lo,.int .i64 r3.ad.hi,.int .i64 r3.ac.lo,.int .i64 r3.ac.hi,.int .i64 r3.ab.lo,.int .i64 r3.ab.hi]) [] (.go 13 (.need (.go 2 (.slot 56 (.int .i64 (((x2:Nat):Int)+1)) (.go 0 (.again [(6,9)]))))))))))) (.go 2 (.again [(1,6)])))))))))) (.go 6 (.again [])))))))))))))))
 (iJ ((bg 0 [cs.flatMap cellC]):HT).n 3 (.tuple #[.agg #[.int .i64 (bv w h t cs m n).1.w,.int .i64 (bv w h t cs m n).1.h,.int .i64 (bv w h t cs m n).1.hour,.slice (some ⟨1,0,some 1⟩) (List.length (bv w h t cs m n).1.cells) (List.length (bv w h t cs m n).1.cells)],.int .i64 (bv w h t cs m n).2]) [(true,.cells true 8 (List.flatMap cellC (bv w h t cs m n).1.cells))])=ol w h t cs m n:=by kernel_rfl
def yc(sp:Value)(w h t:Int)(cs:List Cell)(w' h' t':Int)(ds:List Cell):Prop :=
 (∃r0:Int,(((some (.cells false 0 (List.flatMap cellC cs):ae)=some (.cells false 0 (List.flatMap cellC cs):ae))/\True)/\(∀H':Heap,H'.length=4->(H'[0]?=some (.cells false 0 (List.flatMap cellC cs):ae)/\True)->ai prog 49 [.agg #[.int .i64 w,.int .i64 h,.int .i64 t,.slice (some ⟨0,0,some 2⟩) (List.length cs) (List.length cs)]] H' [] (Is (.int .i64 r0) H'))/\(∃r1:Int,(((some (.cells false 0 (List.flatMap cellC ds):ae)=some (.cells false 0 (List.flatMap cellC ds):ae))/\True)/\(∀H':Heap,H'.length=4->(H'[1]?=some (.cells false 0 (List.flatMap cellC ds):ae)/\True)->ai prog 49 [.agg #[.int .i64 w',.int .i64 h',.int .i64 t',.slice (some ⟨1,0,some 2⟩) (List.length ds) (List.length ds)]] H' [] (Is (.int .i64 r1) H'))/\((((r0:Int) != 0)=true->((.bool ((r0:Int) != 0):Value) = .bool true/\(.int .i64 r0:Value)=sp))/\(((r0:Int) != 0)=false->((((r1:Int) != 0)=true->((.bool ((r1:Int) != 0):Value) = .bool true/\(.int .i64 r1:Value)=sp))/\(((r1:Int) != 0)=false->((((w:Int) != w')=true->(.int .i64 1:Value)=sp)/\(((w:Int) != w')=false->((((h:Int) != h')=true->(.int .i64 1:Value)=sp)/\(((h:Int) != h')=false->((((t:Int) != t')=true->(.int .i64 1:Value)=sp)/\(((t:Int) != t')=false->(.int .i64 0:Value)=sp))))))))))))))
theorem Au(sp:Value)(w h t:Int)(cs:List Cell)(w' h' t':Int)(ds:List Cell):vF prog msk (dm 0) 100000 true 40 true 124 [.agg #[.int .i64 w,.int .i64 h,.int .i64 t,.slice (some ⟨0,0,some 2⟩) (List.length cs) (List.length cs)],.agg #[.int .i64 w',.int .i64 h',.int .i64 t',.slice (some ⟨1,0,some 2⟩) (List.length ds) (List.length ds)]] (bg 0 [cs.flatMap cellC,ds.flatMap cellC]) (some [])
 (.go 4 (.bind (Int) (fun r0 => .ans [(0,.cells false 0 (List.flatMap cellC cs))] (.int .i64 r0) [] (.bind (Int) (fun r1 => .ans [(1,.cells false 0 (List.flatMap cellC ds))] (.int .i64 r1) [] (.go 12 (.fork (.go 4 (.slot 13 (.bool true) (.auto))) (.go 8 (.fork (.go 4 (.slot 13 (.bool true) (.auto))) (.go 14 (.ax (.auto) (.go 6 (.ax (.auto) (.go 5 (.fork (.auto) (.auto))))))))))))))))
 (fun v _ _=>v=sp)=yc sp w h t cs w' h' t' ds:=by kernel_rfl
def jF(sp:Value)(w h t:Int)(cs:List Cell)(w' h' t':Int)(ds:List Cell):Prop :=
 (∃r0:Int,(((some (.cells false 0 (List.flatMap cellC cs):ae)=some (.cells false 0 (List.flatMap cellC cs):ae))/\(some (.cells false 0 (List.flatMap cellC ds):ae)=some (.cells false 0 (List.flatMap cellC ds):ae))/\True)/\(∀H':Heap,H'.length=4->(H'[0]?=some (.cells false 0 (List.flatMap cellC cs):ae)/\H'[1]?=some (.cells false 0 (List.flatMap cellC ds):ae)/\True)->ai prog 124 [.agg #[.int .i64 w,.int .i64 h,.int .i64 t,.slice (some ⟨0,0,some 2⟩) (List.length cs) (List.length cs)],.agg #[.int .i64 w',.int .i64 h',.int .i64 t',.slice (some ⟨1,0,some 2⟩) (List.length ds) (List.length ds)]] H' [] (Is (.int .i64 r0) H'))/\((((r0:Int) != 0)=true->(.tuple #[.bool false,.int .i64 r0]:Value)=sp)/\(((r0:Int) != 0)=false->(true=true/\(0<=List.length cs/\kr cs ds 0)/\(true=true/\((.int .i64 0:Value) = .int .i64 ((0:Nat):Int)/\(.pointer (some ⟨3,0,none⟩):Value) = .pointer (some ⟨3,0,none⟩)/\wk (.slice (some ⟨0,0,some 2⟩) (List.length cs) (List.length cs):Value) (.slice (some ⟨0,0,some 2⟩) (List.length cs) (List.length cs):Value)/\(.int .i64 (((List.length cs):Nat):Int):Value) = .int .i64 (((List.length cs):Nat):Int)/\True)/\(True)/\(True)/\(True))/\(∀x1:Nat,true=true)/\∀x1:Nat,(x1<=List.length cs/\kr cs ds x1)->(((decide ((((x1:Nat):Int):Int)<(((List.length cs):Nat):Int)))=true->(((0:Int)<=((x1:Nat):Int)/\(((x1:Nat):Int):Int)<(((List.length cs):Nat):Int))/\((c8 8 (List.flatMap cellC cs) (0+Int.toNat ((x1:Nat):Int)*8)=some (.agg #[.int .i64 (List.getD cs x1 ah).ag.lo,.int .i64 (List.getD cs x1 ah).ag.hi,.int .i64 (List.getD cs x1 ah).ad.lo,.int .i64 (List.getD cs x1 ah).ad.hi,.int .i64 (List.getD cs x1 ah).ac.lo,.int .i64 (List.getD cs x1 ah).ac.hi,.int .i64 (List.getD cs x1 ah).ab.lo,.int .i64 (List.getD cs x1 ah).ab.hi]))/\(((0:Int)<=((x1:Nat):Int)/\(((x1:Nat):Int):Int)<(((List.length ds):Nat):Int))/\((c8 8 (List.flatMap cellC ds) (0+Int.toNat ((x1:Nat):Int)*8)=some (.agg #[.int .i64 (List.getD ds x1 ah).ag.lo,.int .i64 (List.getD ds x1 ah).ag.hi,.int .i64 (List.getD ds x1 ah).ad.lo,.int .i64 (List.getD ds x1 ah).ad.hi,.int .i64 (List.getD ds x1 ah).ac.lo,.int .i64 (List.getD ds x1 ah).ac.hi,.int .i64 (List.getD ds x1 ah).ab.lo,.int .i64 (List.getD ds x1 ah).ab.hi]))/\(∃r2:Bool,((True)/\(∀H':Heap,H'.length=5->(True)->ai prog 106 [.agg #[.int .i64 (List.getD cs x1 ah).ag.lo,.int .i64 (List.getD cs x1 ah).ag.hi,.int .i64 (List.getD cs x1 ah).ad.lo,.int .i64 (List.getD cs x1 ah).ad.hi,.int .i64 (List.getD cs x1 ah).ac.lo,.int .i64 (List.getD cs x1 ah).ac.hi,.int .i64 (List.getD cs x1 ah).ab.lo,.int .i64 (List.getD cs x1 ah).ab.hi],.agg #[.int .i64 (List.getD ds x1 ah).ag.lo,.int .i64 (List.getD ds x1 ah).ag.hi,.int .i64 (List.getD ds x1 ah).ad.lo,.int .i64 (List.getD ds x1 ah).ad.hi,.int .i64 (List.getD ds x1 ah).ac.lo,.int .i64 (List.getD ds x1 ah).ac.hi,.int .i64 (List.getD ds x1 ah).ab.lo,.int .i64 (List.getD ds x1 ah).ab.hi]] H' [] (Is (.bool r2) H'))/\(((!r2)=true->(.tuple #[.bool false,.int .i64 0]:Value)=sp)/\((!r2)=false->((.int .i64 (IntKind.wrap .i64 (((x1:Nat):Int)+1)):Value) = .int .i64 (((x1:Nat):Int)+1)/\(∃x1':Nat,(x1'<=List.length cs/\kr cs ds x1')/\(List.length cs-x1')<(List.length cs-x1)/\true=true/\((.int .i64 (((x1:Nat):Int)+1):Value) = .int .i64 ((x1':Nat):Int)/\(.pointer (some ⟨3,0,none⟩):Value) = .pointer (some ⟨3,0,none⟩)/\wk (.slice (some ⟨0,0,some 2⟩) (List.length cs) (List.length cs):Value) (.slice (some ⟨0,0,some 2⟩) (List.length cs) (List.length cs):Value)/\(.int .i64 (((List.length cs):Nat):Int):Value) = .int .i64 (((List.length cs):Nat):Int)/\True)/\(True)/\(True)/\(True))))))))))))/\((decide ((((x1:Nat):Int):Int)<(((List.length cs):Nat):Int)))=false->(.tuple #[.bool true,.int .i64 0]:Value)=sp)))))))
theorem pC(sp:Value)(w h t:Int)(cs:List Cell)(w' h' t':Int)(ds:List Cell):vF prog msk (dm 0) 100000 true 40 true 58 [.agg #[.int .i64 w,.int .i64 h,.int .i64 t,.slice (some ⟨0,0,some 2⟩) (List.length cs) (List.length cs)],.agg #[.int .i64 w',.int .i64 h',.int .i64 t',.slice (some ⟨1,0,some 2⟩) (List.length ds) (List.length ds)]] (bg 0 [cs.flatMap cellC,ds.flatMap cellC]) (some [])
 (.go 5 (.bind (Int) (fun r0 => .ans [(0,.cells false 0 (List.flatMap cellC cs)),(1,.cells false 0 (List.flatMap cellC ds))] (.int .i64 r0) [] (.go 2 (.fork (.auto) (.go 3 (.inv 3 (Nat) (0) [] [] (fun x1=>[(18,.int .i64 ((x1:Nat):Int)),(3,.pointer (some ⟨3,0,none⟩)),(16,.slice (some ⟨0,0,some 2⟩) (List.length cs) (List.length cs)),(17,.int .i64 (((List.length cs):Nat):Int))]) (fun x1=>[]) (fun x1=>[]) (fun x1=>[]) (fun x1=>(x1<=List.length cs/\kr cs ds x1)) (fun x1=>(List.length cs-x1)) (fun x1 => .go 0 (.fork (.go 0 (.need (.val (.agg #[.int .i64 (List.getD cs x1 ah).ag.lo,.int .i64 (List.getD cs x1 ah).ag.hi,.int .i64 (List.getD cs x1 ah).ad.lo,.int .i64 (List.getD cs x1 ah).ad.hi,.int .i64 (List.getD cs x1 ah).ac.lo,.int .i64 (List.getD cs x1 ah).ac.hi,.int .i64 (List.getD cs x1 ah).ab.lo,.int .i64 (List.getD cs x1 ah).ab.hi]) (.go 6 (.need (.val (.agg #[.int .i64 (List.getD ds x1 ah).ag.lo,.int .i64 (List.getD ds x1 ah).ag.hi,.int .i64 (List.getD ds x1 ah).ad.lo,.int .i64 (List.getD ds x1 ah).ad.hi,.int .i64 (List.getD ds x1 ah).ac.lo,.int .i64 (List.getD ds x1 ah).ac.hi,.int .i64 (List.getD ds x1 ah).ab.lo,.int .i64 (List.getD ds x1 ah).ab.hi]) (.go 25 (.bind (Bool) (fun r2 => .ans [] (.bool r2) [] (.go 0 (.fork (.auto) (.go 0 (.slot 33 (.int .i64 (((x1:Nat):Int)+1)) (.go 0 (.again []))))))))))))))) (.auto))))))))))
 (fun v _ _=>v=sp)=jF sp w h t cs w' h' t' ds:=by kernel_rfl
def wN(sp:Value)(w h t:Int)(cs:List Cell)(xs:List Ice):Prop :=
 (∃r0:Int,(((some (.cells false 0 (List.flatMap cellC cs):ae)=some (.cells false 0 (List.flatMap cellC cs):ae))/\True)/\(∀H':Heap,H'.length=3->(H'[0]?=some (.cells false 0 (List.flatMap cellC cs):ae)/\True)->ai prog 49 [.agg #[.int .i64 w,.int .i64 h,.int .i64 t,.slice (some ⟨0,0,some 2⟩) (List.length cs) (List.length cs)]] H' [] (Is (.int .i64 r0) H'))/\((((r0:Int) != 0)=true->(.tuple #[.bool false,.int .i64 r0]:Value)=sp)/\(((r0:Int) != 0)=false->(((((((List.length xs):Nat):Int):Int) != (((List.length cs):Nat):Int))=true->(.tuple #[.bool false,.int .i64 1]:Value)=sp)/\((((((List.length xs):Nat):Int):Int) != (((List.length cs):Nat):Int))=false->(∃r1:Int,(((some (.cells false 0 (List.flatMap dr xs):ae)=some (.cells false 0 (List.flatMap dr xs):ae))/\True)/\(∀H':Heap,H'.length=3->(H'[1]?=some (.cells false 0 (List.flatMap dr xs):ae)/\True)->ai prog 114 [.slice (some ⟨1,0,some 2⟩) (List.length xs) (List.length xs),.func (.func 29) #[] #[]] H' [] (Is (.int .i64 r1) H'))/\((((r1:Int) != 0)=true->(.tuple #[.bool false,.int .i64 r1]:Value)=sp)/\(((r1:Int) != 0)=false->(true=true/\(0<=List.length xs/\ku cs xs 0)/\(true=true/\((.int .i64 0:Value) = .int .i64 ((0:Nat):Int)/\(.pointer (some ⟨2,0,none⟩):Value) = .pointer (some ⟨2,0,none⟩)/\wk (.slice (some ⟨1,0,some 2⟩) (List.length xs) (List.length xs):Value) (.slice (some ⟨1,0,some 2⟩) (List.length xs) (List.length xs):Value)/\(.int .i64 (((List.length xs):Nat):Int):Value) = .int .i64 (((List.length xs):Nat):Int)/\True)/\(True)/\(True)/\(True))/\(∀x2:Nat,true=true)/\∀x2:Nat,(x2<=List.length xs/\ku cs xs x2)->(((decide ((((x2:Nat):Int):Int)<(((List.length xs):Nat):Int)))=true->(((0:Int)<=((x2:Nat):Int)/\(((x2:Nat):Int):Int)<(((List.length xs):Nat):Int))/\((c8 4 (List.flatMap dr xs) (0+Int.toNat ((x2:Nat):Int)*4)=some (.agg #[.int .i64 (List.getD xs x2 bq).ag,.int .i64 (List.getD xs x2 bq).ad,.int .i64 (List.getD xs x2 bq).ac,.int .i64 (List.getD xs x2 bq).ab]))/\(((0:Int)<=((x2:Nat):Int)/\(((x2:Nat):Int):Int)<(((List.length cs):Nat):Int))/\((c8 8 (List.flatMap cellC cs) (0+Int.toNat ((x2:Nat):Int)*8)=some (.agg #[.int .i64 (List.getD cs x2 ah).ag.lo,.int .i64 (List.getD cs x2 ah).ag.hi,.int .i64 (List.getD cs x2 ah).ad.lo,.int .i64 (List.getD cs x2 ah).ad.hi,.int .i64 (List.getD cs x2 ah).ac.lo,.int .i64 (List.getD cs x2 ah).ac.hi,.int .i64 (List.getD cs x2 ah).ab.lo,.int .i64 (List.getD cs x2 ah).ab.hi]))/\(∃r3:Bool,((True)/\(∀H':Heap,H'.length=4->(True)->ai prog 104 [.agg #[.int .i64 (List.getD cs x2 ah).ag.lo,.int .i64 (List.getD cs x2 ah).ag.hi,.int .i64 (List.getD cs x2 ah).ad.lo,.int .i64 (List.getD cs x2 ah).ad.hi,.int .i64 (List.getD cs x2 ah).ac.lo,.int .i64 (List.getD cs x2 ah).ac.hi,.int .i64 (List.getD cs x2 ah).ab.lo,.int .i64 (List.getD cs x2 ah).ab.hi],.agg #[.int .i64 (List.getD xs x2 bq).ag,.int .i64 (List.getD xs x2 bq).ad,.int .i64 (List.getD xs x2 bq).ac,.int .i64 (List.getD xs x2 bq).ab]] H' [] (Is (.bool r3) H'))/\(((!r3)=true->(.tuple #[.bool false,.int .i64 0]:Value)=sp)/\((!r3)=false->((.int .i64 (IntKind.wrap .i64 (((x2:Nat):Int)+1)):Value) = .int .i64 (((x2:Nat):Int)+1)/\(∃x2':Nat,(x2'<=List.length xs/\ku cs xs x2')/\(List.length xs-x2')<(List.length xs-x2)/\true=true/\((.int .i64 (((x2:Nat):Int)+1):Value) = .int .i64 ((x2':Nat):Int)/\(.pointer (some ⟨2,0,none⟩):Value) = .pointer (some ⟨2,0,none⟩)/\wk (.slice (some ⟨1,0,some 2⟩) (List.length xs) (List.length xs):Value) (.slice (some ⟨1,0,some 2⟩) (List.length xs) (List.length xs):Value)/\(.int .i64 (((List.length xs):Nat):Int):Value) = .int .i64 (((List.length xs):Nat):Int)/\True)/\(True)/\(True)/\(True))))))))))))/\((decide ((((x2:Nat):Int):Int)<(((List.length xs):Nat):Int)))=false->(.tuple #[.bool true,.int .i64 0]:Value)=sp)))))))))))))
theorem zo(sp:Value)(w h t:Int)(cs:List Cell)(xs:List Ice):vF prog msk (dm 0) 100000 true 40 true 60 [.agg #[.int .i64 w,.int .i64 h,.int .i64 t,.slice (some ⟨0,0,some 2⟩) (List.length cs) (List.length cs)],.slice (some ⟨1,0,some 2⟩) (List.length xs) (List.length xs)] (bg 0 [cs.flatMap cellC,xs.flatMap dr]) (some [])
 (.go 3 (.bind (Int) (fun r0 => .ans [(0,.cells false 0 (List.flatMap cellC cs))] (.int .i64 r0) [] (.go 2 (.fork (.auto) (.go 5 (.fork (.auto) (.go 0 (.bind (Int) (fun r1 => .ans [(1,.cells false 0 (List.flatMap dr xs))] (.int .i64 r1) [] (.go 2 (.fork (.auto) (.go 2 (.inv 3 (Nat) (0) [] [] (fun x2=>[(28,.int .i64 ((x2:Nat):Int)),(2,.pointer (some ⟨2,0,none⟩)),(26,.slice (some ⟨1,0,some 2⟩) (List.length xs) (List.length xs)),(27,.int .i64 (((List.length xs):Nat):Int))]) (fun x2=>[]) (fun x2=>[]) (fun x2=>[]) (fun x2=>(x2<=List.length xs/\ku cs xs x2)) (fun x2=>(List.length xs-x2)) (fun x2 => .go 0 (.fork (.go 0 (.need (.val (.agg #[.int .i64 (List.getD xs x2 bq).ag,.int .i64 (List.getD xs x2 bq).ad,.int .i64 (List.getD xs x2 bq).ac,.int .i64 (List.getD xs x2 bq).ab]) (.go 5 (.need (.val (.agg #[.int .i64 (List.getD cs x2 ah).ag.lo,.int .i64 (List.getD cs x2 ah).ag.hi,.int .i64 (List.getD cs x2 ah).ad.lo,.int .i64 (List.getD cs x2 ah).ad.hi,.int .i64 (List.getD cs x2 ah).ac.lo,.int .i64 (List.getD cs x2 ah).ac.hi,.int .i64 (List.getD cs x2 ah).ab.lo,.int .i64 (List.getD cs x2 ah).ab.hi]) (.go 13 (.bind (Bool) (fun r3 => .ans [] (.bool r3) [] (.go 0 (.fork (.auto) (.go 0 (.slot 42 (.int .i64 (((x2:Nat):Int)+1)) (.go 0 (.again []))))))))))))))) (.auto)))))))))))))))))
 (fun v _ _=>v=sp)=wN sp w h t cs xs:=by kernel_rfl
theorem dk(c:Cell):(cellC c).length=8:=rfl
theorem fA{xs:List Cell}{x:Nat}(h:x<xs.length):c8 8 (List.flatMap cellC xs) (0+Int.toNat ((x:Nat):Int)*8)=some (.agg ⟨cellC (List.getD xs x ah)⟩) :=
 kL (f:=cellC) (d:=ah) (c:=0) (m:=8) dk h (by rw[Int.toNat_natCast];omega) (by decide)
theorem bx(n:Nat)(l:List Cell):(l.flatMap cellC).all (aE n)=true:=dz (fun _=>rfl) l
theorem eM(n:Nat)(l:List Ice):(l.flatMap dr).all (aE n)=true:=dz (fun _=>rfl) l
theorem ot{H:Heap}{id id2:Nat}{own eN:Bool}{z z2:Nat}{cs ds:List Value}(h1:H[id]?=some (.cells own z cs))(h2:H[id2]?=some (.cells eN z2 ds)):∀(k:Nat) (c:List Value),[cs,ds][k]?=some c->∃id' own z,[id,id2][k]?=some id'/\H[id']?=some (ae.cells own z c):=by
 intro k c h
 match k with
 |0=>cases h;exact ⟨id,own,z,rfl,h1⟩
 |1=>cases h;exact ⟨id2,eN,z2,rfl,h2⟩
theorem ou{cs ds:List Value}(h1:cs.all (aE 0)=true)(h2:ds.all (aE 0)=true):∀c ∈ [cs,ds],c.all (aE 0)=true:=by
 intro c hc
 rcases List.mem_cons.1 hc with rfl|hc
 ·exact h1
 ·rw[List.mem_singleton.1 hc];exact h2
theorem xd(xs:List Cell)(hn:xs.length<=2 ^ 30){H:Heap}{id:Nat}{own:Bool}{z:Nat}(hid:H[id]?=some (.cells own z (xs.flatMap cellC))) :
  ai prog F.ij [.slice (some ⟨id,0,some 2⟩) xs.length xs.length,.func (.func F.ix) #[] #[]] H [] (Is (.int .i64 (errs cc xs)) H):=by
 refine pK (Eq.mpr (xH _ xs) ?_) (oJ (bx 0 xs)) rfl [id] rfl (oI hid)
 unfold tP
 refine ⟨rfl,⟨Nat.zero_le _,rfl⟩,?_,fun _=>rfl,?_⟩
 ·repeat' first|exact trivial|exact rfl|exact ar _|refine ay ?_|refine aB ?_ ?_|exact aP|exact ba _ _ _ (.inl rfl)|(exact bT (by omega))|refine aN ?_|refine aL ?_|refine aK ?_ ?_ ?_|refine aJ ?_ ?_ ?_|refine toMax ?_|refine toMin ?_|refine ⟨rfl,?_⟩|refine ⟨trivial,?_⟩|(refine aO (fun h =>?_) (fun h =>?_))|(refine aM (fun h =>?_) (fun h =>?_))|(refine aU (fun h =>?_) (fun h =>?_))|refine aD ?_|(refine ⟨aG (by omega),?_⟩)|(refine And.intro (by omega) ?_)|apply And.intro|(exact iEq (by omega))|(exact aG (by omega))
 rintro x ⟨hx,hsp⟩
 refine aO (fun h =>?_) (fun h =>?_)
 ·have hlt:x<xs.length:=by omega
  rw[pq (d:=ah) hlt]at hsp
  refine ⟨by omega,fA hlt,_,trivial,fun H' _ _=>lZ _ H',?_⟩
  refine aM (fun h1 =>?_) (fun h1 =>?_)
  ·rw[hsp,if_neg h1]
  ·repeat' first|(refine ⟨x+1,⟨by omega,by rw[hsp,if_pos h1]⟩,by omega,?_⟩)|exact trivial|exact rfl|exact ar _|refine ay ?_|refine aB ?_ ?_|exact aP|exact ba _ _ _ (.inl rfl)|(exact bT (by omega))|refine aN ?_|refine aL ?_|refine aK ?_ ?_ ?_|refine aJ ?_ ?_ ?_|refine toMax ?_|refine toMin ?_|refine ⟨rfl,?_⟩|refine ⟨trivial,?_⟩|(refine aO (fun h =>?_) (fun h =>?_))|(refine aM (fun h =>?_) (fun h =>?_))|(refine aU (fun h =>?_) (fun h =>?_))|refine aD ?_|(refine ⟨aG (by omega),?_⟩)|(refine And.intro (by omega) ?_)|apply And.intro|(exact iEq (by omega))|(exact aG (by omega))
 ·rw[hsp,show x=xs.length by omega,List.drop_length];rfl
theorem my{w h t:Int}{cs:List Cell}(h0:¬ bp w h t=0):a6 w h t cs=bp w h t:=jz h0
theorem mw{w h t:Int}{cs:List Cell}(h0:bp w h t=0)(h1:(cs.length:Int)≠w*h):a6 w h t cs=1:=(cE h0).trans (if_neg h1)
theorem mv{w h t:Int}{cs:List Cell}(h0:bp w h t=0)(h1:(cs.length:Int)=w*h):a6 w h t cs=errs cc cs:=(cE h0).trans (if_pos h1)
theorem pW{w h t:Int}(h0:bp w h t=0):1<=w*h/\w*h<=1024:=by
 obtain ⟨h1,h2,h3,_⟩:=dd.1 h0
 refine ⟨?_,h3⟩
 have:1*1<=w*h:=Int.mul_le_mul h1.1 h2.1 (by omega) (by omega)
 omega
theorem gB(w h t:Int)(cs:List Cell){H:Heap}{id:Nat}{own:Bool}{z:Nat}(hid:H[id]?=some (.cells own z (cs.flatMap cellC))) :
  ai prog F.l8 [.agg #[.int .i64 w,.int .i64 h,.int .i64 t,.slice (some ⟨id,0,some 2⟩) cs.length cs.length]] H [] (Is (.int .i64 (a6 w h t cs)) H):=by
 refine pK (Eq.mpr (rB _ w h t cs) ?_) (oJ (bx 0 cs)) rfl [id] rfl (oI hid)
 unfold kD
 refine ⟨_,trivial,fun H' _ _=>bh _ _ _ H',?_⟩
 refine aM (fun h0=>iEq (my h0).symm) (fun h0 =>?_)
 have hm:=pW h0
 repeat' first|(refine ⟨_,⟨rfl,trivial⟩,fun H' _ hd=>xd _ (by omega) hd.1,?_⟩)|exact iEq (mw h0 h).symm|exact iEq (mv h0 h).symm|exact trivial|exact rfl|exact ar _|refine ay ?_|refine aB ?_ ?_|exact aP|exact ba _ _ _ (.inl rfl)|(exact bT (by omega))|refine aN ?_|refine aL ?_|refine aK ?_ ?_ ?_|refine aJ ?_ ?_ ?_|refine toMax ?_|refine toMin ?_|refine ⟨rfl,?_⟩|refine ⟨trivial,?_⟩|(refine aO (fun h =>?_) (fun h =>?_))|(refine aM (fun h =>?_) (fun h =>?_))|(refine aU (fun h =>?_) (fun h =>?_))|refine aD ?_|(refine ⟨aG (by omega),?_⟩)|(refine And.intro (by omega) ?_)|apply And.intro|(exact iEq (by omega))|(exact aG (by omega))
theorem fa{w h t:Int}{cs:List Cell}(h0:a6 w h t cs=0):fg w h t/\(cs.length:Int)=w*h/\cs.length<=1024/\∀c∈cs,bG c:=by
 have h1:bp w h t=0:=by
  rcases Classical.em (bp w h t=0) with h1|h1
  ·exact h1
  ·rw[my h1]at h0;exact h0
 have h2:(cs.length:Int)=w*h:=by
  rcases Classical.em ((cs.length:Int)=w*h) with h2|h2
  ·exact h2
  ·rw[mw h1 h2]at h0;cases h0
 rw[mv h1 h2]at h0
 have hm:=pW h1
 exact ⟨dd.1 h1,h2,by omega,fun c hc=>gI.1 (nS h0 c hc)⟩
theorem p7{cs:List Cell}(h:∀c∈cs,bG c){k:Nat}(hk:k<cs.length):bG (cs.getD k ah):=h _ (gF hk)
theorem wC{f:gQ×Int}{e:Int}(hf:f=(cj,e)):wk (.tuple #[.agg #[.int .i64 0,.int .i64 0,.int .i64 0,.slice none 0 0],.int .i64 e])
  (rn (sg 1 []) 3 (.tuple #[.agg #[.int .i64 f.1.w,.int .i64 f.1.h,.int .i64 f.1.hour,.slice (some ⟨1,0,some 1⟩) f.1.cells.length f.1.cells.length],.int .i64 f.2])):=by
 subst hf
 exact aN (aB (aL (aB (ar _) (aB (ar _) (aB (ar _) (aB (ba _ _ _ (.inl rfl)) aP))))) (aB (ar _) aP))
theorem zb{f:gQ×Int}{a b c e:Int}{l:List Cell}{x K:Nat}(hf:f=(⟨a,b,c,l⟩,e))(hx:l.length=x):wk (.tuple #[.agg #[.int .i64 a,.int .i64 b,.int .i64 c,.slice (some ⟨K,0,some 1⟩) x x],.int .i64 e])
  (rn (sg 1 [(1,K)]) 3 (.tuple #[.agg #[.int .i64 f.1.w,.int .i64 f.1.h,.int .i64 f.1.hour,.slice (some ⟨1,0,some 1⟩) f.1.cells.length f.1.cells.length],.int .i64 f.2])):=by
 subst hf;subst hx;exact ar _
theorem yW{f:gQ×Int}{a b c e:Int}{l:List Cell}(hf:f=(⟨a,b,c,l⟩,e)):some (ae.cells true 8 (l.flatMap cellC))=some (ae.cells true 8 (f.1.cells.flatMap cellC)):=by subst hf;rfl
theorem Al{g:Nat->Cell}{x:Nat}:some (ae.cells true 8 (List.take (x*8) (List.drop 0 (List.flatMap cellC (tab g x)))++List.take (1*8) (List.drop 0 (cellC (g x)))))=some (ae.cells true 8 (List.flatMap cellC (tab g (x+1)))):=by
 rw[vf];exact congrArg (fun l=>some (ae.cells true 8 l)) (fD dk (tab g x) (g x) (kK _ _).symm)
theorem AW{g:Nat->Cell}{x:Nat}:x<=x/\0+x*8<=List.length (List.flatMap cellC (tab g x)):=⟨Nat.le_refl _,by rw[bJ dk,kK];omega⟩
theorem xx{w v t n:Int}{cs:List Cell}{m:aR}(h:¬ a6 w v t cs=0):bv w v t cs m n=(cj,a6 w v t cs):=by unfold bv;rw[jz h,if_neg h]
theorem xw{w v t n:Int}{cs:List Cell}{m:aR}(h:a6 w v t cs=0)(k:¬ bA m=0):bv w v t cs m n=(cj,bA m):=by unfold bv;rw[cE h,if_neg k]
theorem xv{w v t n:Int}{cs:List Cell}{m:aR}(h:a6 w v t cs=0)(k:bA m=0)(q:¬ (0<=n/\n<=10000-t)):bv w v t cs m n=(cj,6):=by unfold bv;rw[cE h,if_pos k,if_neg q]
theorem xu{w v t n:Int}{cs:List Cell}{m:aR}(h:a6 w v t cs=0)(k:bA m=0)(q:0<=n/\n<=10000-t):bv w v t cs m n=(⟨w,v,t+n,tab (fun k=>gP (cs.getD k ah) m n) cs.length⟩,0):=by unfold bv;rw[cE h,if_pos k,if_pos q]
theorem AD{f:FuncId}{args:List Value}{css:List (List Value)}{h:Hint}{g:gQ×Int}{k:Nat}(hk:css.length=k)(hc:vF prog msk (dm 0) 100000 true 40 true f args (bg 0 css) (some []) h (iJ (bg 0 css).n 3 (.tuple #[.agg #[.int .i64 g.1.w,.int .i64 g.1.h,.int .i64 g.1.hour,.slice (some ⟨k,0,some 1⟩) g.1.cells.length g.1.cells.length],.int .i64 g.2]) [(true,.cells true 8 (g.1.cells.flatMap cellC))]))
  (fZ:∀cs∈css,cs.all (aE 0)=true)
  {H:Heap} (ids:List Nat) (hl:ids.length=css.length) (dR:∀(k:Nat) (cs:List Value),css[k]?=some cs->∃id own z,ids[k]?=some id/\H[id]?=some (ae.cells own z cs)) :
  ai prog f (args.map (rn (sgR 0 ids) 3)) H [] (Is (.tuple #[.agg #[.int .i64 g.1.w,.int .i64 g.1.h,.int .i64 g.1.hour,.slice (some ⟨H.length,0,some 1⟩) g.1.cells.length g.1.cells.length],.int .i64 g.2]) (H ++ [.cells true 8 (g.1.cells.flatMap cellC)])):=by
 subst hk
 have:=yh hc fZ rfl (by simp[rn,bZ]) (by
  show ((cT 3 (.cells true 8 (g.1.cells.flatMap cellC))&&true)&&true)=true
  rw[Bool.and_true,Bool.and_true];exact (gb (U:=fun _=>none) (d:=0) (bx 0 g.1.cells)).2) (congrArg (fun l=>[ae.cells true 8 l]) (gb (d:=0) (bx 0 g.1.cells)).1) ids hl dR
 have e1:∀x:Value,rn (cY (0+css.length) H.length) 3 (.tuple #[.agg #[.int .i64 g.1.w,.int .i64 g.1.h,.int .i64 g.1.hour,.slice (some ⟨css.length,0,some 1⟩) g.1.cells.length g.1.cells.length],.int .i64 g.2]) = .tuple #[.agg #[.int .i64 g.1.w,.int .i64 g.1.h,.int .i64 g.1.hour,.slice (some ⟨H.length,0,some 1⟩) g.1.cells.length g.1.cells.length],.int .i64 g.2]:=by intro x;simp[rn,cY]
 have e2:(List.map (fun x:Bool×ae=>x.2) [(true,ae.cells true 8 (g.1.cells.flatMap cellC))]).map (rno (cY (0+css.length) H.length) 3)=[.cells true 8 (g.1.cells.flatMap cellC)]:=congrArg (fun l=>[ae.cells true 8 l]) (gb (d:=0) (bx 0 g.1.cells)).1
 rw[e1 undef,e2]at this
 exact this
theorem uB(w v t:Int)(cs:List Cell)(m:aR)(n:Int){H:Heap}{id:Nat}{own:Bool}{z:Nat}{L:Nat}(hL:H.length=L)(hid:H[id]?=some (.cells own z (cs.flatMap cellC))) :
  ai prog F.ph [.agg #[.int .i64 w,.int .i64 v,.int .i64 t,.slice (some ⟨id,0,some 2⟩) cs.length cs.length],cn m,.int .i64 n] H []
   (Is (.tuple #[.agg #[.int .i64 (bv w v t cs m n).1.w,.int .i64 (bv w v t cs m n).1.h,.int .i64 (bv w v t cs m n).1.hour,.slice (some ⟨L,0,some 1⟩) (bv w v t cs m n).1.cells.length (bv w v t cs m n).1.cells.length],.int .i64 (bv w v t cs m n).2]) (H ++ [.cells true 8 ((bv w v t cs m n).1.cells.flatMap cellC)])):=by
 subst hL
 refine AD (css:=[cs.flatMap cellC]) (g:=bv w v t cs m n) rfl (Eq.mpr (uW w v t cs m n) ?_) (oJ (bx 0 cs)) [id] rfl (oI hid)
 unfold ol
 refine ⟨_,⟨rfl,trivial⟩,fun H' _ hd=>gB _ _ _ _ hd.1,_,trivial,fun H' _ _=>gA _ H',?_⟩
 refine aM (fun h0=>⟨vbT (bne_iff_ne.2 h0),rfl,wC (xx h0),trivial,trivial⟩) (fun h0 =>?_)
 refine aM (fun h1=>⟨vbT (bne_iff_ne.2 h1),rfl,wC (xw h0 h1),trivial,trivial⟩) (fun h1 =>?_)
 obtain ⟨hs,hl,hb,hr⟩:=fa h0
 have hm:=dL.1 h1
 have hs3:=hs.2.2.2
 repeat' first|(exact wC (xv h0 h1 (by omega)))|(refine ⟨rfl,Nat.zero_le _,?_,fun _=>rfl,?_⟩)|exact trivial|exact rfl|exact ar _|refine ay ?_|refine aB ?_ ?_|exact aP|exact ba _ _ _ (.inl rfl)|(exact bT (by omega))|refine aN ?_|refine aL ?_|refine aK ?_ ?_ ?_|refine aJ ?_ ?_ ?_|refine toMax ?_|refine toMin ?_|refine ⟨rfl,?_⟩|refine ⟨trivial,?_⟩|(refine aO (fun h =>?_) (fun h =>?_))|(refine aM (fun h =>?_) (fun h =>?_))|(refine aU (fun h =>?_) (fun h =>?_))|refine aD ?_|(refine ⟨aG (by omega),?_⟩)|(refine And.intro (by omega) ?_)|apply And.intro|(exact iEq (by omega))|(exact aG (by omega))
 intro x hx
 refine aO (fun hl =>?_) (fun hl =>?_)
 ·have hlt:x<cs.length:=by omega
  have hc:=p7 hr hlt
  repeat' first|refine ⟨fA hlt,?_⟩|(refine ⟨_,trivial,fun H' _ _=>ti _ _ _ hc hm (by omega) H',?_⟩)|(refine ⟨⟨by omega,by decide,AW,⟨by decide,Nat.le_refl _⟩,rfl⟩,rfl,?_⟩)|(refine ⟨x+1,by omega,by omega,?_⟩)|exact Al|exact bx _ _|exact trivial|exact rfl|exact ar _|refine ay ?_|refine aB ?_ ?_|exact aP|exact ba _ _ _ (.inl rfl)|(exact bT (by omega))|refine aN ?_|refine aL ?_|refine aK ?_ ?_ ?_|refine aJ ?_ ?_ ?_|refine toMax ?_|refine toMin ?_|refine ⟨rfl,?_⟩|refine ⟨trivial,?_⟩|(refine aO (fun h =>?_) (fun h =>?_))|(refine aM (fun h =>?_) (fun h =>?_))|(refine aU (fun h =>?_) (fun h =>?_))|refine aD ?_|(refine ⟨aG (by omega),?_⟩)|(refine And.intro (by omega) ?_)|apply And.intro|(exact iEq (by omega))|(exact aG (by omega))
 ·obtain rfl:x=cs.length:=by omega
  have hf:=xu (n:=n) h0 h1 (by omega)
  exact ⟨rfl,zb hf (kK _ _),⟨yW hf,bx _ _⟩,trivial⟩
end
end Go.Proofs.YthcjliffpebjaaaGreat
namespace Go.Proofs.YthcjliffpebjaaaGreat
noncomputable section
attribute [local irreducible] vF
section
variable {w v t w' v' t':Int} {cs ds:List Cell}
theorem nW(h:¬ a6 w v t cs=0):cv w v t cs w' v' t' ds=a6 w v t cs:=by unfold cv;rw[jz h,if_neg h]
theorem nV(h:a6 w v t cs=0)(k:¬ a6 w' v' t' ds=0):cv w v t cs w' v' t' ds=a6 w' v' t' ds:=by unfold cv;rw[cE h,if_neg k]
theorem nU(h:a6 w v t cs=0)(k:a6 w' v' t' ds=0)(q:¬ (w=w'/\v=v'/\t=t')):cv w v t cs w' v' t' ds=1:=by unfold cv;rw[cE h,if_pos k,if_neg q]
theorem uL(h:a6 w v t cs=0)(k:a6 w' v' t' ds=0)(q:w=w'/\v=v'/\t=t'):cv w v t cs w' v' t' ds=0:=by unfold cv;rw[cE h,if_pos k,if_pos q]
theorem sF(h:cv w v t cs w' v' t' ds=0):cs.length=ds.length/\cs.length<=1024/\(∀c∈cs,bG c)/\∀c∈ds,bG c:=by
 rcases Classical.em (a6 w v t cs=0) with h1|h1
 ·rcases Classical.em (a6 w' v' t' ds=0) with h2|h2
  ·rcases Classical.em (w=w'/\v=v'/\t=t') with h3|h3
   ·obtain ⟨a1,a2,a3,a4⟩:=fa h1
    obtain ⟨b1,b2,b3,b4⟩:=fa h2
    obtain ⟨rfl,rfl,rfl⟩:=h3
    exact ⟨by omega,a3,a4,b4⟩
   ·rw[nU h1 h2 h3]at h;cases h
  ·rw[nV h1 h2]at h;exact absurd h h2
 ·rw[nW h1]at h;exact absurd h h1
theorem xr(h:¬ cv w v t cs w' v' t' ds=0):f9 w v t cs w' v' t' ds=(false,cv w v t cs w' v' t' ds):=by unfold f9;rw[if_neg h]
theorem xq(h:cv w v t cs w' v' t' ds=0)(k:¬ kr cs ds cs.length):f9 w v t cs w' v' t' ds=(false,0):=by unfold f9;rw[if_pos h];simp[k]
theorem xp(h:cv w v t cs w' v' t' ds=0)(k:kr cs ds cs.length):f9 w v t cs w' v' t' ds=(true,0):=by unfold f9;rw[if_pos h];simp[k]
theorem wp{xs:List Ice}(h:¬ a6 w v t cs=0):dK w v t cs xs=(false,a6 w v t cs):=by unfold dK;rw[if_neg h]
theorem wo{xs:List Ice}(h:a6 w v t cs=0)(k:¬ xs.length=cs.length):dK w v t cs xs=(false,1):=by unfold dK;rw[if_pos h,if_neg k]
theorem wn{xs:List Ice}(h:a6 w v t cs=0)(k:xs.length=cs.length)(q:¬ errs cu xs=0):dK w v t cs xs=(false,errs cu xs):=by unfold dK;rw[if_pos h,if_pos k,if_neg q]
theorem wm{xs:List Ice}(h:a6 w v t cs=0)(k:xs.length=cs.length)(q:errs cu xs=0)(r:¬ ku cs xs xs.length):dK w v t cs xs=(false,0):=by unfold dK;rw[if_pos h,if_pos k,if_pos q];simp[r]
theorem wl{xs:List Ice}(h:a6 w v t cs=0)(k:xs.length=cs.length)(q:errs cu xs=0)(r:ku cs xs xs.length):dK w v t cs xs=(true,0):=by unfold dK;rw[if_pos h,if_pos k,if_pos q];simp[r]
theorem s0{p:Nat->Prop}:∀k,k<0->p k:=fun k h=>absurd h (Nat.not_lt_zero k)
theorem s5{p:Nat->Prop}{n:Nat}(h:∀k,k<n->p k)(hn:p n):∀k,k<n+1->p k:=by
 intro k hk
 rcases Nat.lt_or_ge k n with h1|h1
 ·exact h k h1
 ·obtain rfl:k=n:=by omega
  exact hn
end
theorem zM(w v t:Int)(cs:List Cell)(w' v' t':Int)(ds:List Cell){H:Heap}{id id2:Nat}{own eN:Bool}{z z2:Nat}(hid:H[id]?=some (.cells own z (cs.flatMap cellC)))(sB:H[id2]?=some (.cells eN z2 (ds.flatMap cellC))) :
  ai prog F.vQ [.agg #[.int .i64 w,.int .i64 v,.int .i64 t,.slice (some ⟨id,0,some 2⟩) cs.length cs.length],.agg #[.int .i64 w',.int .i64 v',.int .i64 t',.slice (some ⟨id2,0,some 2⟩) ds.length ds.length]] H [] (Is (.int .i64 (cv w v t cs w' v' t' ds)) H):=by
 refine pK (Eq.mpr (Au _ w v t cs w' v' t' ds) ?_) (ou (bx 0 cs) (bx 0 ds)) rfl [id,id2] rfl (ot hid sB)
 unfold yc
 repeat' first|(refine ⟨_,⟨rfl,trivial⟩,fun H' _ hd=>gB _ _ _ _ hd.1,?_⟩)|(refine aM (fun h =>?_) (fun h =>?_))|refine ⟨vbT (bne_iff_ne.2 h),?_⟩|exact iEq (nW h).symm|exact iEq (nV ‹_› h).symm|(exact iEq (nU ‹_› ‹_› (fun q=>by omega)).symm)|exact iEq (uL ‹_› ‹_› ⟨‹_›,‹_›,‹_›⟩).symm
theorem fX(w v t:Int)(cs:List Cell)(w' v' t':Int)(ds:List Cell){H:Heap}{id id2:Nat}{own eN:Bool}{z z2:Nat}(hid:H[id]?=some (.cells own z (cs.flatMap cellC)))(sB:H[id2]?=some (.cells eN z2 (ds.flatMap cellC))) :
  ai prog F.kI [.agg #[.int .i64 w,.int .i64 v,.int .i64 t,.slice (some ⟨id,0,some 2⟩) cs.length cs.length],.agg #[.int .i64 w',.int .i64 v',.int .i64 t',.slice (some ⟨id2,0,some 2⟩) ds.length ds.length]] H [] (Is (.tuple #[.bool (f9 w v t cs w' v' t' ds).1,.int .i64 (f9 w v t cs w' v' t' ds).2]) H):=by
 refine pK (Eq.mpr (pC _ w v t cs w' v' t' ds) ?_) (ou (bx 0 cs) (bx 0 ds)) rfl [id,id2] rfl (ot hid sB)
 unfold jF
 refine ⟨_,⟨rfl,rfl,trivial⟩,fun H' _ hd=>zM _ _ _ _ _ _ _ _ hd.1 hd.2.1,?_⟩
 refine aM (fun h0=>kF (xr h0)) (fun h0 =>?_)
 obtain ⟨hle,hb,hr,hr2⟩:=sF h0
 repeat' first|(refine ⟨rfl,⟨Nat.zero_le _,s0⟩,?_,fun _=>rfl,?_⟩)|exact trivial|exact rfl|exact ar _|refine ay ?_|refine aB ?_ ?_|exact aP|exact ba _ _ _ (.inl rfl)|(exact bT (by omega))|refine aN ?_|refine aL ?_|refine aK ?_ ?_ ?_|refine aJ ?_ ?_ ?_|refine toMax ?_|refine toMin ?_|refine ⟨rfl,?_⟩|refine ⟨trivial,?_⟩|(refine aO (fun h =>?_) (fun h =>?_))|(refine aM (fun h =>?_) (fun h =>?_))|(refine aU (fun h =>?_) (fun h =>?_))|refine aD ?_|(refine ⟨aG (by omega),?_⟩)|(refine And.intro (by omega) ?_)|apply And.intro|(exact iEq (by omega))|(exact aG (by omega))
 rintro x ⟨hx,ho⟩
 refine aO (fun hl =>?_) (fun hl =>?_)
 ·have hlt:x<cs.length:=by omega
  have hlt2:x<ds.length:=by omega
  have hc:=p7 hr hlt
  repeat' first|refine ⟨fA hlt,?_⟩|refine ⟨fA hlt2,?_⟩|(refine ⟨_,trivial,fun H' _ _=>yv _ _ H',?_⟩)|(refine aD (aO (fun hk =>?_) (fun hk =>?_)))|(exact kF (xq h0 (fun q=>hk (q _ hlt))))|(refine ⟨x+1,⟨by omega,s5 ho hk⟩,by omega,?_⟩)|exact trivial|exact rfl|exact ar _|refine ay ?_|refine aB ?_ ?_|exact aP|exact ba _ _ _ (.inl rfl)|(exact bT (by omega))|refine aN ?_|refine aL ?_|refine aK ?_ ?_ ?_|refine aJ ?_ ?_ ?_|refine toMax ?_|refine toMin ?_|refine ⟨rfl,?_⟩|refine ⟨trivial,?_⟩|(refine aO (fun h =>?_) (fun h =>?_))|(refine aM (fun h =>?_) (fun h =>?_))|(refine aU (fun h =>?_) (fun h =>?_))|refine aD ?_|(refine ⟨aG (by omega),?_⟩)|(refine And.intro (by omega) ?_)|apply And.intro|(exact iEq (by omega))|(exact aG (by omega))
 ·obtain rfl:x=cs.length:=by omega
  exact kF (xp h0 ho)
theorem yz(w v t:Int)(cs:List Cell)(xs:List Ice){H:Heap}{id id2:Nat}{own eN:Bool}{z z2:Nat}(hid:H[id]?=some (.cells own z (cs.flatMap cellC)))(sB:H[id2]?=some (.cells eN z2 (xs.flatMap dr))) :
  ai prog F.uF [.agg #[.int .i64 w,.int .i64 v,.int .i64 t,.slice (some ⟨id,0,some 2⟩) cs.length cs.length],.slice (some ⟨id2,0,some 2⟩) xs.length xs.length] H [] (Is (.tuple #[.bool (dK w v t cs xs).1,.int .i64 (dK w v t cs xs).2]) H):=by
 refine pK (Eq.mpr (zo _ w v t cs xs) ?_) (ou (bx 0 cs) (eM 0 xs)) rfl [id,id2] rfl (ot hid sB)
 unfold wN
 refine ⟨_,⟨rfl,trivial⟩,fun H' _ hd=>gB _ _ _ _ hd.1,?_⟩
 refine aM (fun h0=>kF (wp h0)) (fun h0 =>?_)
 refine aM (fun h1=>kF (wo h0 (by omega))) (fun h1 =>?_)
 replace h1:xs.length=cs.length:=by omega
 obtain ⟨hs,hle,hb,hr⟩:=fa h0
 refine ⟨_,⟨rfl,trivial⟩,fun H' _ hd=>xa _ (by omega) hd.1,?_⟩
 refine aM (fun h2=>kF (wn h0 h1 h2)) (fun h2 =>?_)
 repeat' first|(refine ⟨rfl,⟨Nat.zero_le _,s0⟩,?_,fun _=>rfl,?_⟩)|exact trivial|exact rfl|exact ar _|refine ay ?_|refine aB ?_ ?_|exact aP|exact ba _ _ _ (.inl rfl)|(exact bT (by omega))|refine aN ?_|refine aL ?_|refine aK ?_ ?_ ?_|refine aJ ?_ ?_ ?_|refine toMax ?_|refine toMin ?_|refine ⟨rfl,?_⟩|refine ⟨trivial,?_⟩|(refine aO (fun h =>?_) (fun h =>?_))|(refine aM (fun h =>?_) (fun h =>?_))|(refine aU (fun h =>?_) (fun h =>?_))|refine aD ?_|(refine ⟨aG (by omega),?_⟩)|(refine And.intro (by omega) ?_)|apply And.intro|(exact iEq (by omega))|(exact aG (by omega))
 rintro x ⟨hx,ho⟩
 refine aO (fun hl =>?_) (fun hl =>?_)
 ·have hlt:x<xs.length:=by omega
  have hlt2:x<cs.length:=by omega
  repeat' first|refine ⟨kM hlt,?_⟩|refine ⟨fA hlt2,?_⟩|(refine ⟨_,trivial,fun H' _ _=>yw _ _ H',?_⟩)|(refine aD (aO (fun hk =>?_) (fun hk =>?_)))|(exact kF (wm h0 h1 h2 (fun q=>hk (q _ hlt))))|(refine ⟨x+1,⟨by omega,s5 ho hk⟩,by omega,?_⟩)|exact trivial|exact rfl|exact ar _|refine ay ?_|refine aB ?_ ?_|exact aP|exact ba _ _ _ (.inl rfl)|(exact bT (by omega))|refine aN ?_|refine aL ?_|refine aK ?_ ?_ ?_|refine aJ ?_ ?_ ?_|refine toMax ?_|refine toMin ?_|refine ⟨rfl,?_⟩|refine ⟨trivial,?_⟩|(refine aO (fun h =>?_) (fun h =>?_))|(refine aM (fun h =>?_) (fun h =>?_))|(refine aU (fun h =>?_) (fun h =>?_))|refine aD ?_|(refine ⟨aG (by omega),?_⟩)|(refine And.intro (by omega) ?_)|apply And.intro|(exact iEq (by omega))|(exact aG (by omega))
 ·obtain rfl:x=xs.length:=by omega
  exact kF (wl h0 h1 h2 ho)
end
end Go.Proofs.YthcjliffpebjaaaGreat
namespace Go.K
section
variable {κ β:Type} [DecidableEq κ]
def bP(k:κ)(v:β):List (κ×β)->List (κ×β)
 | [] => [(k,v)]
 |e :: F=>if e.1=k then (k,v) :: F else e :: bP k v F
def eo(k:κ)(d:β):List (κ×β)->β
 | [] =>d
 |e :: F=>if e.1=k then e.2 else eo k d F
def cL(k:κ):List (κ×β)->Bool
 | [] =>false
 |e :: F=>if e.1=k then true else cL k F
def cy(k:κ):List (κ×β)->Nat
 | [] =>0
 |e :: F=>if e.1=k then 0 else cy k F+1
def bD(key:κ->Value)(val:β->Value)(F:List (κ×β)):List (Value×Value):=F.map fun e=>(key e.1,val e.2)
omit [DecidableEq κ] in
theorem mz(key:κ->Value)(val:β->Value)(F:List (κ×β)):(bD key val F).length=F.length:=List.length_map ..
theorem qM(k:κ):∀(F:List (κ×β)),cL k F=true ↔ k∈F.map (·.1)
 | [] =>by simp[cL]
 |e :: F=>by
  unfold cL
  by_cases h:e.1=k
  ·rw[if_pos h];simp[h]
  ·rw[if_neg h,qM k F,List.map_cons,List.mem_cons]
   exact ⟨fun x=>Or.inr x,fun x=>x.resolve_left fun q=>h q.symm⟩
theorem jx(k:κ)(d:β):∀(F:List (κ×β)),cL k F=false->eo k d F=d
 | [],_=>rfl
 |e :: F,h=>by
  unfold cL at h;unfold eo
  by_cases q:e.1=k
  ·rw[if_pos q]at h;cases h
  ·rw[if_neg q]at h ⊢;exact jx k d F h
theorem s9(k:κ)(v:β):∀(F:List (κ×β)),cL k F=false->bP k v F=F ++ [(k,v)]
 | [],_=>rfl
 |e :: F,h=>by
  unfold cL at h;unfold bP
  by_cases q:e.1=k
  ·rw[if_pos q]at h;cases h
  ·rw[if_neg q]at h ⊢;rw[s9 k v F h];rfl
theorem jw(k k':κ)(v d:β):∀(F:List (κ×β)),eo k' d (bP k v F)=if k'=k then v else eo k' d F
 | [] =>by
  unfold bP eo
  by_cases h:k=k'
  ·rw[if_pos h,if_pos h.symm]
  ·rw[if_neg h,if_neg fun q=>h q.symm];rfl
 |e :: F=>by
  unfold bP
  by_cases q:e.1=k
  ·rw[if_pos q]
   unfold eo
   by_cases h:k=k'
   ·rw[if_pos h,if_pos h.symm]
   ·rw[if_neg h,if_neg fun q=>h q.symm,q,if_neg h]
  ·rw[if_neg q]
   unfold eo
   by_cases h:e.1=k'
   ·rw[if_pos h,if_pos h,if_neg (fun x=>q (h.trans x))]
   ·rw[if_neg h,if_neg h,jw k k' v d F]
theorem qL(k k':κ)(v:β):∀(F:List (κ×β)),cL k' (bP k v F)=(decide (k'=k) ||cL k' F)
 | [] =>by
  unfold bP cL
  by_cases h:k=k'
  ·rw[if_pos h,decide_eq_true h.symm];rfl
  ·rw[if_neg h,decide_eq_false fun q=>h q.symm];rfl
 |e :: F=>by
  unfold bP
  by_cases q:e.1=k
  ·rw[if_pos q]
   unfold cL
   by_cases h:k=k'
   ·rw[if_pos h,decide_eq_true h.symm];rfl
   ·rw[if_neg h,decide_eq_false (fun q=>h q.symm),q,if_neg h];rfl
  ·rw[if_neg q]
   unfold cL
   by_cases h:e.1=k'
   ·rw[if_pos h,if_pos h,Bool.or_true]
   ·rw[if_neg h,if_neg h,qL k k' v F]
variable {P:Program} {kt:TypeId} {key:κ->Value} {val:β->Value}
theorem oW(hk:∀a b,b5 P Op.maxDepth kt (key a) (key b)=some (decide (a=b)))(k:κ)(d:β):∀(F:List (κ×β)) (i:Nat),
  eO P kt (key k) (bD key val F) i=some (if cL k F=true then some (i+cy k F,val (eo k d F)) else none)
 | [],i=>rfl
 |e :: F,i=>by
  show (match b5 P Op.maxDepth kt (key k) (key e.1) with|some true=>_|some false=>eO P kt (key k) (bD key val F) (i+1)|none=>none)=_
  rw[hk]
  unfold cL eo cy
  by_cases h:e.1=k
  ·rw[decide_eq_true h.symm,if_pos h,if_pos h,if_pos h,if_pos rfl];rfl
  ·rw[decide_eq_false fun q=>h q.symm,if_neg h,if_neg h,if_neg h]
   show eO P kt (key k) (bD key val F) (i+1)=_
   rw[oW hk k d F (i+1),show i+1+cy k F=i+(cy k F+1) by omega]
theorem vA(hk:∀a b,b5 P Op.maxDepth kt (key a) (key b)=some (decide (a=b)))(k:κ)(d:β){z:Value}(hz:val d=z)(ok:Bool)(F:List (κ×β)) :
  fQ P kt z (key k) ok (bD key val F)=some (ut ok (val (eo k d F)) (cL k F)):=by
 unfold fQ
 rw[oW hk k d F 0]
 cases h:cL k F with
 |true=>rw[if_pos rfl]
 |false=>rw[if_neg (by simp),jx k d F h,hz]
theorem tI(k:κ):∀(F:List (κ×β)),cL k F=true->∃v,(bD key val F)[cy k F]?=some (key k,v)
 | [],h=>by cases h
 |e :: F,h=>by
  unfold cL at h;unfold cy
  by_cases q:e.1=k
  ·rw[if_pos q];exact ⟨val e.2,by rw[<- q];rfl⟩
  ·rw[if_neg q]at h ⊢
   obtain ⟨v,hv⟩:=tI k F h
   exact ⟨v,by rw[<- hv];rfl⟩
theorem qV(k:κ)(v:β):∀(F:List (κ×β)),cL k F=true->(bD key val F).set (cy k F) (key k,val v)=bD key val (bP k v F)
 | [],h=>by cases h
 |e :: F,h=>by
  unfold cL at h;unfold cy bP
  by_cases q:e.1=k
  ·rw[if_pos q,if_pos q];rfl
  ·rw[if_neg q]at h ⊢
   rw[if_neg q]
   show (key e.1,val e.2) :: (bD key val F).set (cy k F) (key k,val v)=_
   rw[qV k v F h];rfl
omit [DecidableEq κ] in
theorem xz{F:List (κ×β)}{i:Nat}(d:κ×β)(h:i<F.length)(seen:List Nat):iV (bD key val F) (seen ++ [i])=some (.tuple #[key (F.getD i d).1,val (F.getD i d).2]):=by
 unfold iV
 rw[List.getLast?_concat]
 simp[bD,h]
end
end Go.K
namespace Go.K
noncomputable section
structure Tb where
 ks:Nat->Nat
 hs:List Value
 ms:List Value
def ki(v:Value):Prop:=∀U:Nat->Option Nat,rn U 3 v=v
structure mI{Y:Type}(F z n:Nat)(enc:Y->List Value)(rows:Nat->List Y)(T:Tb):Prop where
 hl:T.hs.length=n
 m0:T.ms[0]?=some (.int .i64 (z:Int))
 fx:∀v∈T.ms,ki v
 hd:∀t,t<n->T.hs[t]?=some (cV (rows t).length F (T.ks t))
 rw:∀t,t<n->0<(rows t).length->T.ms[T.ks t+1]?=some (.agg ⟨(rows t).flatMap enc⟩)
 dj:∀t u,t<n->u<n->t≠u->0<(rows t).length->0<(rows u).length->T.ks t≠T.ks u
def Tb.new(F z n:Nat):Tb:=⟨fun _=>0,List.replicate n (cV 0 F 0),[.int .i64 (z:Int)]⟩
theorem mI.new{Y:Type}(F z n:Nat)(enc:Y->List Value):mI F z n enc (fun _=>[]) (Tb.new F z n):=by
 refine ⟨List.length_replicate,rfl,fun v hv U =>?_,fun t ht =>?_,fun t _ h=>absurd h (Nat.lt_irrefl 0),fun t u _ _ _ h=>absurd h (Nat.lt_irrefl 0)⟩
 ·cases List.mem_singleton.1 hv;rfl
 ·show (List.replicate n _)[t]?=_
  rw[List.getElem?_replicate,if_pos ht];rfl
theorem gx(r k:Nat)(ms:List Value):(aW r k ms).length=ms.length:=by
 cases r with
 |zero=>rfl
 |succ r=>exact List.length_set
theorem rH:ki junk:=fun _=>rfl
theorem gy{r k:Nat}{ms:List Value}(h:∀v∈ms,ki v):∀v∈aW r k ms,ki v:=by
 cases r with
 |zero=>exact h
 |succ r =>
  intro v hv
  rcases List.mem_or_eq_of_mem_set hv with hv|rfl
  ·exact h v hv
  ·exact rH
theorem nh{cs:List Value}(h:∀(U:Nat->Option Nat),∀v∈cs,rn U 2 v=v):ki (.agg ⟨cs⟩):=fun U=>by
 show Value.agg ⟨cs.map (rn U 2)⟩=_
 rw[List.map_congr_left (h U),List.map_id']
theorem mI.lt{Y:Type}{F z n:Nat}{enc:Y->List Value}{rows:Nat->List Y}{T:Tb}(I:mI F z n enc rows T){t:Nat}(ht:t<n)(h:0<(rows t).length):T.ks t+1<T.ms.length:=(List.getElem?_eq_some_iff.1 (I.rw t ht h)).1
theorem mI.pos{Y:Type}{F z n:Nat}{enc:Y->List Value}{rows:Nat->List Y}{T:Tb}(I:mI F z n enc rows T):0<T.ms.length:=(List.getElem?_eq_some_iff.1 I.m0).1
def Tb.put(F t r:Nat)(row:List Value)(q:Nat)(T:Tb):Tb:=⟨fun j=>if j=t then T.ms.length-1 else T.ks j,T.hs.set t (cV q F (T.ms.length-1)),bX q (aW r (T.ks t) T.ms) row⟩
theorem mI.put{Y:Type}{F z n:Nat}{enc:Y->List Value}{rows:Nat->List Y}{T:Tb}(I:mI F z n enc rows T){t:Nat}(ht:t<n)(l:List Y)(hf:∀(U:Nat->Option Nat) (x:Y),∀v∈enc x,rn U 2 v=v){row:List Value}(e:row=l.flatMap enc) :
  mI F z n enc (fun j=>if j=t then l else rows j) (T.put F t (rows t).length row l.length):=by
 subst e
 have hp:=I.pos
 have hfx:=gy (r:=(rows t).length) (k:=T.ks t) I.fx
 have hll:=gx (rows t).length (T.ks t) T.ms
 have hle:∀j,j<n->j≠t->0<(rows j).length->(aW (rows t).length (T.ks t) T.ms)[T.ks j+1]?=T.ms[T.ks j+1]? := fun j hj hne h=>by
  cases hr:(rows t).length with
  |zero=>rfl
  |succ r =>
   show (T.ms.set (T.ks t+1) junk)[_]?=_
   rw[List.getElem?_set_ne fun e=>I.dj t j ht hj (Ne.symm hne) (by omega) h (by omega)]
 have h0:(aW (rows t).length (T.ks t) T.ms)[0]?=T.ms[0]? := by
  cases hr:(rows t).length with
  |zero=>rfl
  |succ r=>exact List.getElem?_set_ne (by omega)
 have hm:∀(i:Nat) (v:Value),(aW (rows t).length (T.ks t) T.ms)[i]?=some v->(bX l.length (aW (rows t).length (T.ks t) T.ms) (l.flatMap enc))[i]?=some v:=fun i v h=>by
  cases hq:l.length with
  |zero=>exact h
  |succ q =>
   show (_ ++ [_])[i]?=_
   rw[List.getElem?_append_left (List.getElem?_eq_some_iff.1 h).1];exact h
 refine ⟨?_,?_,?_,?_,?_,?_⟩
 ·show (T.hs.set _ _).length=n
  rw[List.length_set];exact I.hl
 ·exact hm _ _ (h0.trans I.m0)
 ·intro v hv
  have hv:v∈bX l.length (aW (rows t).length (T.ks t) T.ms) (l.flatMap enc):=hv
  cases hq:l.length with
  |zero=>rw[hq]at hv;exact hfx v hv
  |succ q =>
   rw[hq]at hv
   rcases List.mem_append.1 hv with hv|hv
   ·exact hfx v hv
   ·cases List.mem_singleton.1 hv
    refine nh fun U v hv =>?_
    obtain ⟨x,_,hx⟩:=List.mem_flatMap.1 hv
    exact hf U x v hx
 ·intro j hj
  show (T.hs.set t _)[j]?=some (cV (if j=t then l else rows j).length F (if j=t then _ else _))
  by_cases h:j=t
  ·subst h
   rw[if_pos rfl,if_pos rfl,List.getElem?_set_self (by rw[I.hl];exact ht)]
  ·rw[if_neg h,if_neg h,List.getElem?_set_ne (Ne.symm h)];exact I.hd j hj
 ·intro j hj hl
  show (bX _ _ _)[(if j=t then T.ms.length-1 else T.ks j)+1]?=some (.agg ⟨(if j=t then l else rows j).flatMap enc⟩)
  by_cases h:j=t
  ·subst h
   rw[if_pos rfl]at hl
   rw[if_pos rfl,if_pos rfl]
   cases hq:l.length with
   |zero=>omega
   |succ q =>
    show (_ ++ [_])[_]?=_
    rw[List.getElem?_append_right (by omega),show T.ms.length-1+1-(aW (rows j).length (T.ks j) T.ms).length=0 by omega];rfl
  ·rw[if_neg h]at hl
   rw[if_neg h,if_neg h]
   exact hm _ _ ((hle j hj h hl).trans (I.rw j hj hl))
 ·intro j u hj hu hne h1 h2
  show (if j=t then T.ms.length-1 else T.ks j)≠(if u=t then T.ms.length-1 else T.ks u)
  by_cases a:j=t
  ·have b:¬ u=t:=fun b=>hne (a.trans b.symm)
   rw[if_neg b]at h2
   rw[if_pos a,if_neg b]
   have:=I.lt hu h2;omega
  ·rw[if_neg a]at h1
   rw[if_neg a]
   by_cases b:u=t
   ·rw[if_pos b]
    have:=I.lt hj h1;omega
   ·rw[if_neg b]at h2
    rw[if_neg b];exact I.dj j u hj hu hne h1 h2
theorem yk{U:Nat->Option Nat}{F:Nat}(h:U F=some F)(n k:Nat):rn U 3 (cV n F k)=cV n F k:=by
 show (match U F with|some id'=>Value.iface (n+1) (.pointer (some ⟨id',0,some (k+3)⟩))|none=>_)=_
 rw[h]
theorem mI.wkM{Y:Type}{F z n:Nat}{enc:Y->List Value}{rows:Nat->List Y}{T:Tb}(I:mI F z n enc rows T){U:Nat->Option Nat}{ms:List Value}(e:ms=T.ms):wkO (.fam 0 ms) (rno U 3 (.fam 0 T.ms)):=by
 refine gR ?_
 subst e
 show _=ae.fam 0 (T.ms.map (rn U 3))
 rw[List.map_congr_left fun v hv=>I.fx v hv U,List.map_id']
end
end Go.K
