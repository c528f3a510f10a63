/- Drift: charts that fit a basin; a cell's ends. No condition. -/
import Derived.Test.YtkkgnalgmebfjaaGreatGE3gxE2g
import Derived.Test.YtkkgnalgmebfjaaGreatV14
open Go Go.K
set_option maxRecDepth 1000000
set_option maxHeartbeats 4000000
set_option linter.unusedVariables false
set_option linter.unusedSimpArgs false
namespace Go.Proofs.YtkkgnalgmebfjaaGreat
noncomputable section
attribute [local irreducible] vF
theorem zB(c:Cell)(H:Heap):aF prog F.rb [cellV c] H [] (Is (sF (loI c)) H):=by
 refine jB 40 (fun _=>rfl) rfl (Eq.mpr (Ap _ c) ?_) H
 unfold xo
 rfl
theorem u5(c:Cell)(H:Heap):aF prog F.m9 [cellV c] H [] (Is (sF (hiI c)) H):=by
 refine jB 40 (fun _=>rfl) rfl (Eq.mpr (vu _ c) ?_) H
 unfold oE
 rfl
theorem wd(w h:Int)(a:List Bool)(w' h' t:Int)(cs:List Cell){H:Heap}{i0 i1:Nat}{o0 o1:Bool}{z0 z1:Nat}(e0:H[i0]?=some (.cells o0 z0 (a.flatMap am)))(e1:H[i1]?=some (.cells o1 z1 (cs.flatMap cellC))) :
  aF prog F.ra [eH w h i0 a.length,.agg #[.int .i64 w',.int .i64 h',.int .i64 t,.slice (some ⟨i1,0,some 2⟩) cs.length cs.length]] H [] (Is (.int .i64 (bu w h w' h' t cs)) H):=by
 refine ga (Eq.mpr (Ah _ w h a w' h' t cs) ?_) (kU (bP 0 a) (bE 0 cs)) rfl [i0,i1] rfl (jC e0 e1)
 unfold xg
 refine ⟨⟨rfl,trivial⟩,fun H' _ hd=>qN w' h' t cs hd.1,az (fun h0 =>?_) (fun h0 =>?_)⟩
 ·exact iEq (dK h0).symm
 have e:bu w h w' h' t cs=if w'=w/\h'=h then 0 else 1:=cv h0
 rw[e]
 refine az (fun h1 =>?_) (fun h1=>az (fun h2 =>?_) (fun h2 =>?_))
 ·rw[if_neg (fun q=>h1 q.1)]
 ·rw[if_neg (fun q=>h2 q.2)]
 ·rw[if_pos ⟨h1,h2⟩]
theorem gN{w h t:Int}{cs:List Cell}(e:cg w h t cs=0):(cs.length:Int)=w*h/\errs ct cs=0:=by
 unfold cg dv at e
 split at e
 ·split at e
  ·rename_i h1;exact ⟨h1,e⟩
  ·omega
 ·rename_i h0;exact absurd e h0
theorem ub{a:List Bool}{cs:List Cell}{k:Nat}(h:a.getD k false=true)(h2:zK (cs.getD k ab)=false):ed a cs k=30:=by
 unfold ed
 rw[if_pos h,if_neg (by rw[h2];exact Bool.false_ne_true)]
theorem ua{a:List Bool}{cs:List Cell}{k:Nat}(h:a.getD k false=true->zK (cs.getD k ab)=true):ed a cs k=0:=by
 unfold ed
 by_cases q:a.getD k false=true
 ·rw[if_pos q,if_pos (h q)]
 ·rw[if_neg q]
theorem lN{w h w' h' t:Int}{cs:List Cell}(e:bu w h w' h' t cs=0):cg w' h' t cs=0/\w'=w/\h'=h:=by
 unfold bu dv at e
 split at e
 ·rename_i h0
  split at e
  ·rename_i h1;exact ⟨h0,h1⟩
  ·omega
 ·rename_i h0;exact absurd e h0
theorem mI{w h:Int}{a:List Bool}(b:eD w h a.length)(w' h' t:Int)(cs:List Cell){H:Heap}{i0 i1:Nat}{o0 o1:Bool}{z0 z1:Nat}(e0:H[i0]?=some (.cells o0 z0 (a.flatMap am)))(e1:H[i1]?=some (.cells o1 z1 (cs.flatMap cellC))) :
  aF prog F.sL [eH w h i0 a.length,.agg #[.int .i64 w',.int .i64 h',.int .i64 t,.slice (some ⟨i1,0,some 2⟩) cs.length cs.length]] H [] (Is (.int .i64 (cn w h a w' h' t cs)) H):=by
 refine ga (Eq.mpr (Bf _ w h a w' h' t cs) ?_) (kU (bP 0 a) (bE 0 cs)) rfl [i0,i1] rfl (jC e0 e1)
 unfold yS
 refine ⟨⟨rfl,rfl,trivial⟩,fun H' _ hd=>wd w h a w' h' t cs hd.1 hd.2.1,az (fun h0 =>?_) (fun h0 =>?_)⟩
 ·exact iEq (dK h0).symm
 have e:cn w h a w' h' t cs=f6 a cs:=cv h0
 obtain ⟨s1,s2,s3⟩:=lN h0
 obtain ⟨s4,_⟩:=gN s1
 subst s2 s3
 have hn:=b.n1
 have hp:=b.p1
 rw[e]
 refine ⟨rfl,⟨Nat.zero_le _,rfl⟩,?_,fun _=>rfl,?_⟩
 ·repeat' first|exact trivial|exact rfl|exact ag _|refine af ?_|refine ak ?_ ?_|exact aE|exact aL _ _ _ (.inl rfl)|(exact bf (by omega))|refine aA ?_|refine ar ?_|refine aC ?_ ?_ ?_|refine aB ?_ ?_ ?_|refine toMax ?_|refine toMin ?_|refine ⟨rfl,?_⟩|refine ⟨trivial,?_⟩|(refine aH (fun h =>?_) (fun h =>?_))|(refine az (fun h =>?_) (fun h =>?_))|(refine aI (fun h =>?_) (fun h =>?_))|refine aD ?_|(refine ⟨au (by omega),?_⟩)|(refine And.intro (by omega) ?_)|apply And.intro|(exact iEq (by omega))|(exact au (by omega))
 rintro x ⟨j1,j2⟩
 refine aH (fun k1 =>?_) (fun k1 =>?_)
 ·have hx:x<cs.length:=by omega
  refine ⟨by omega,dY hx,by omega,dM (by omega) (by omega),fun ha=>⟨fun q =>?_,fun q =>?_⟩,fun ha =>?_⟩
  ·exact iEq (by unfold f6;rw[il j2 (by rw[ub ha (nu q)];decide) hx,ub ha (nu q)])
  ·refine ⟨au (by omega),x+1,⟨by omega,dL j2 (ua fun _=>kY q)⟩,by omega,rfl,?_⟩
   repeat' first|exact trivial|exact rfl|exact ag _|refine af ?_|refine ak ?_ ?_|exact aE|exact aL _ _ _ (.inl rfl)|(exact bf (by omega))|refine aA ?_|refine ar ?_|refine aC ?_ ?_ ?_|refine aB ?_ ?_ ?_|refine toMax ?_|refine toMin ?_|refine ⟨rfl,?_⟩|refine ⟨trivial,?_⟩|(refine aH (fun h =>?_) (fun h =>?_))|(refine az (fun h =>?_) (fun h =>?_))|(refine aI (fun h =>?_) (fun h =>?_))|refine aD ?_|(refine ⟨au (by omega),?_⟩)|(refine And.intro (by omega) ?_)|apply And.intro|(exact iEq (by omega))|(exact au (by omega))
  ·refine ⟨au (by omega),x+1,⟨by omega,dL j2 (ua fun q=>by rw[ha]at q;cases q)⟩,by omega,rfl,?_⟩
   repeat' first|exact trivial|exact rfl|exact ag _|refine af ?_|refine ak ?_ ?_|exact aE|exact aL _ _ _ (.inl rfl)|(exact bf (by omega))|refine aA ?_|refine ar ?_|refine aC ?_ ?_ ?_|refine aB ?_ ?_ ?_|refine toMax ?_|refine toMin ?_|refine ⟨rfl,?_⟩|refine ⟨trivial,?_⟩|(refine aH (fun h =>?_) (fun h =>?_))|(refine az (fun h =>?_) (fun h =>?_))|(refine aI (fun h =>?_) (fun h =>?_))|refine aD ?_|(refine ⟨au (by omega),?_⟩)|(refine And.intro (by omega) ?_)|apply And.intro|(exact iEq (by omega))|(exact au (by omega))
 ·obtain rfl:x=cs.length:=by omega
  exact iEq j2.symm
theorem kP(ps:List Pl)(t:Int)(x:Ice):(eY ps t x).length=ps.length:=List.length_set
theorem kN:∀(ts:List Int) (ps:List Pl) (x:Ice),(aO ps ts x).length=ps.length
 | [],ps,x=>rfl
 |t :: ts,ps,x=>(kN ts (eY ps t x) x).trans (kP ps t x)
theorem sX(ts:List Int)(t:Int)(ps:List Pl)(x:Ice):aO ps (ts ++ [t]) x=eY (aO ps ts x) t x:=by
 unfold aO
 rw[List.foldl_append];rfl
theorem iw(w h:Int)(a:List Bool)(l:List Flow)(cs:List Cell):∀k,(aj w h a l cs k).length=a.length
 |0=>by simp[aj]
 |k+1=>by
  unfold aj
  split
  ·exact iw w h a l cs k
  ·rw[kN];exact iw w h a l cs k
theorem fw(w h:Int)(a:List Bool)(l:List Flow)(cs:List Cell):∀k,(aq w h a l cs k).length=a.length
 |0=>by simp[aq]
 |k+1=>by
  unfold aq
  split
  ·exact fw w h a l cs k
  ·split
   ·rw[kP];exact fw w h a l cs k
   ·exact fw w h a l cs k
theorem tp{m:Nat}{ps:List Pl}{t:Int}{x:Ice}(h:∀j,hU m (ps.getD j ad))(hx:cB x)(j:Nat):hU (m+1) ((eY ps t x).getD j ad):=by
 unfold eY
 by_cases hd:Int.toNat t<ps.length
 ·rw[gx hd]
  split
  ·exact me (h _) hx
  ·exact dg (by omega) (h j)
 ·rw[List.set_eq_of_length_le (by omega)]
  exact dg (by omega) (h j)
theorem oX{x:Ice}(hx:cB x):∀(ts:List Int) {m:Nat} {ps:List Pl},(∀j,hU m (ps.getD j ad))->∀j,hU (m+ts.length) ((aO ps ts x).getD j ad)
 | [],m,ps,h,j=>h j
 |t :: ts,m,ps,h,j=>by
  have:=oX hx ts (m:=m+1) (ps:=eY ps t x) (tp h hx) j
  rw[List.length_cons,show m+(ts.length+1)=m+1+ts.length by omega];exact this
theorem md(n j:Nat):hU 0 ((List.replicate n ad).getD j ad):=by
 rw[List.getD_eq_getElem?_getD,List.getElem?_replicate]
 split <;> exact ⟨⟨by decide,by decide⟩,⟨by decide,by decide⟩,by decide,by decide⟩
theorem sZ{w h:Int}{a:List Bool}{l:List Flow}{k:Nat}(b:eD w h a.length)(hc:0<=(k:Int)/\(k:Int)<w*h)(hf:bY (l.getD k ac)):(TG w h a l k).length<=25:=by
 unfold TG
 rw[<- nE b hc]
 have h1:=ka (bo (tgL w h a (k:Int) (l.getD k ac)))
 have h2:=oN (tgL w h a (k:Int) (l.getD k ac))
 have h3:=lL w h a (k:Int) (l.getD k ac)
 have h4:=(iv hf).2
 omega
theorem oD{w h:Int}{a:List Bool}{l:List Flow}{k:Nat}(b:eD w h a.length){t:Int}(ht:t∈TG w h a l k):0<=t/\t<(a.length:Int):=by
 unfold TG tgts eo at ht
 obtain ⟨i,h1,_,rfl⟩:=kV.1 ht
 have hn:=b.n1
 unfold dk at h1
 rw[cf]at h1
 omega
theorem ko{c:Cell}(h:ec c):cB (loI c):=by
 obtain ⟨⟨a1,a2,a3,a4⟩,⟨b1,b2,b3,b4⟩,⟨c1,c2,c3,c4⟩,⟨d1,d2,d3,d4⟩⟩:=h
 exact ⟨⟨a1,a2⟩,⟨b1,b2⟩,⟨c1,c2⟩,d1,d2⟩
theorem kp{c:Cell}(h:ec c):cB (hiI c):=by
 obtain ⟨⟨a1,a2,a3,a4⟩,⟨b1,b2,b3,b4⟩,⟨c1,c2,c3,c4⟩,⟨d1,d2,d3,d4⟩⟩:=h
 refine ⟨⟨?_,a4⟩,⟨?_,b4⟩,⟨?_,c4⟩,?_,d4⟩ <;> (unfold hiI;dsimp only;omega)
structure fK(w h:Int)(a:List Bool)(l:List Flow)(cs:List Cell):Prop where
 b:eD w h a.length
 l1:l.length=a.length
 f:∀f∈l,bY f
 n:cs.length=a.length
 c:∀c∈cs,ec c
theorem fK.fl{w h:Int}{a:List Bool}{l:List Flow}{cs:List Cell}(o:fK w h a l cs){k:Nat}(hk:k<cs.length):bY (l.getD k ac):=o.f _ (dt (by have:=o.l1;have:=o.n;omega))
theorem fK.ce{w h:Int}{a:List Bool}{l:List Flow}{cs:List Cell}(o:fK w h a l cs){k:Nat}(hk:k<cs.length):ec (cs.getD k ab):=o.c _ (dt hk)
theorem qv{w h:Int}{a:List Bool}{l:List Flow}{cs:List Cell}(o:fK w h a l cs):∀{k:Nat},k<=cs.length->∀j,hU (25*k) ((aj w h a l cs k).getD j ad)
 |0,_,j=>md _ _
 |k+1,hk,j=>by
  have ih:=qv o (k:=k) (by omega)
  unfold aj
  split
  ·exact dg (by omega) (ih j)
  ·have hb:=o.b.n1
   have:=o.n
   have hl:=sZ (a:=a) (l:=l) (k:=k) o.b ⟨by omega,by omega⟩ (o.fl (by omega))
   exact dg (by omega) (oX (kp (o.ce (by omega))) (TG w h a l k) ih j)
theorem nV{w h:Int}{a:List Bool}{l:List Flow}{cs:List Cell}(o:fK w h a l cs):∀{k:Nat},k<=cs.length->∀j,hU (25*k) ((aq w h a l cs k).getD j ad)
 |0,_,j=>md _ _
 |k+1,hk,j=>by
  have ih:=nV o (k:=k) (by omega)
  unfold aq
  split
  ·exact dg (by omega) (ih j)
  ·split
   ·exact dg (by omega) (tp ih (ko (o.ce (by omega))) j)
   ·exact dg (by omega) (ih j)
theorem Bw{w h:Int}{a:List Bool}{c:Int}{f:Flow}(b:eD w h a.length)(hc:0<=c/\c<w*h)(hf:bY f){H:Heap}{L:Nat}(hL:H.length=L){id:Nat}{own:Bool}{z:Nat}(hid:H[id]?=some (.cells own z (a.flatMap am))) :
  aF prog F.fS [eH w h id a.length,mZ f,.int .i64 c] H [] (Is (.slice (some ⟨L,0,some 2⟩) (tgts w h a c f).length (tgts w h a c f).length) (H ++ [.cells true 1 ((tgts w h a c f++gU (tgL w h a c f)).flatMap bj)])):=by
 have:=wc b hc hf hL hid
 rw[nE b hc]at this;exact this
theorem wu{a p:List Int}{k:Nat}(h:k<a.length){off:Nat}(ho:off=k):((a++p).flatMap bj)[off]?=some (.int .i64 (a.getD k 0)):=by
 have:=mQ (a:=a++p) (k:=k) (by rw[bH];omega) ho
 rw[this,List.getD_eq_getElem?_getD,List.getElem?_append_left h,<- List.getD_eq_getElem?_getD]
theorem fe{Z:Type}{l:List Z}{d:Z}{k:Nat}(h:k<l.length):l.take (k+1)=l.take k ++ [l.getD k d]:=by
 rw[List.take_add_one,List.getElem?_eq_getElem h,List.getD_eq_getElem?_getD,List.getElem?_eq_getElem h];rfl
theorem uj{ps:List Pl}{t:Int}{x:Ice}(h:x.aK=0):eY ps t x=ps:=by
 unfold eY
 rw[show fb (ps.getD (Int.toNat t) ad) x=ps.getD (Int.toNat t) ad from if_pos h]
 exact aZ
theorem th{m:Nat}{p:Pl}(h:hU m p):0<=cC p/\cC p<=p.s:=by
 obtain ⟨⟨h1,h2⟩,_⟩:=h
 unfold cC;omega
set_option maxHeartbeats 2000000 in
theorem AO{w h:Int}{a:List Bool}{l:List Flow}{cs:List Cell}(o:fK w h a l cs)(w' h' t:Int)(ht:0<=t/\t<=10000){H:Heap}{L:Nat}(hL:H.length=L){i0 i1 i2:Nat}{o0 o1 o2:Bool}{z0 z1 z2:Nat}(e0:H[i0]?=some (.cells o0 z0 (a.flatMap am)))
  (e1:H[i1]?=some (.cells o1 z1 (l.flatMap aV))) (e2:H[i2]?=some (.cells o2 z2 (cs.flatMap cellC))) :
  aF prog F.m8 [eH w h i0 a.length,.slice (some ⟨i1,0,some 2⟩) l.length l.length,.agg #[.int .i64 w',.int .i64 h',.int .i64 t,.slice (some ⟨i2,0,some 2⟩) cs.length cs.length]] H []
   (Is (.agg #[.int .i64 w',.int .i64 h',.int .i64 (t+1),.slice (some ⟨L,0,some 1⟩) (bV w h a l cs).length (bV w h a l cs).length]) (H ++ [.cells true 8 ((bV w h a l cs).flatMap cellC)])):=by
 subst hL
 refine kT (fun i => .agg #[.int .i64 w',.int .i64 h',.int .i64 (t+1),.slice (some ⟨i,0,some 1⟩) (bV w h a l cs).length (bV w h a l cs).length]) (css:=[a.flatMap am,l.flatMap aV,cs.flatMap cellC]) (new:=[.cells true 8 ((bV w h a l cs).flatMap cellC)]) (Eq.mpr (Bb w h a l w' h' t cs) ?_) ⟨bP 0 a,d8 0 l,bE 0 cs,trivial⟩
  ⟨⟨_,_,rfl,bE 0 _⟩,trivial⟩ rfl rfl (fun _=>rfl) (ids:=[i0,i1,i2]) ⟨⟨_,_,e0⟩,⟨_,_,e1⟩,⟨_,_,e2⟩,trivial⟩ rfl
 unfold yO
 have hb:=o.b
 have hn:=o.b.n1
 have hp:=o.b.p1
 have hla:=o.l1
 have hca:=o.n
 refine ⟨by omega,by omega,by omega,by omega,rfl,Nat.zero_le _,?_,fun _=>rfl,?_⟩
 ·repeat' first|exact ug rfl rfl (uh _ _ _ _).symm|exact trivial|exact rfl|exact ag _|refine af ?_|refine ak ?_ ?_|exact aE|exact aL _ _ _ (.inl rfl)|(exact bf (by omega))|refine aA ?_|refine ar ?_|refine aC ?_ ?_ ?_|refine aB ?_ ?_ ?_|refine toMax ?_|refine toMin ?_|refine ⟨rfl,?_⟩|refine ⟨trivial,?_⟩|(refine aH (fun h =>?_) (fun h =>?_))|(refine az (fun h =>?_) (fun h =>?_))|(refine aI (fun h =>?_) (fun h =>?_))|refine aD ?_|(refine ⟨au (by omega),?_⟩)|(refine And.intro (by omega) ?_)|apply And.intro|(exact iEq (by omega))|(exact au (by omega))
 intro x0 hx0
 refine aH (fun k0 =>?_) (fun k0 =>?_)
 ·refine ⟨⟨rfl,by omega,by rw[bg eQ,List.length_replicate]⟩,⟨rfl,by omega,by rw[bg dh,List.length_replicate]⟩,by omega,by rw[fg];omega,rfl,by omega,by rw[fg];omega,rfl,
   ⟨rfl,by omega,by rw[bg eQ,List.length_replicate]⟩,⟨rfl,by omega,by rw[bg dh,List.length_replicate]⟩,by omega,by rw[fg];omega,rfl,by omega,by rw[fg];omega,rfl,au (by omega),x0+1,by omega,by omega,rfl,?_⟩
  repeat' first|(exact ug rfl rfl (ou (by omega) (by omega)))|exact d7 _ _|exact d6 _ _|((rw[qj,List.flatMap_append];rfl))|exact trivial|exact rfl|exact ag _|refine af ?_|refine ak ?_ ?_|exact aE|exact aL _ _ _ (.inl rfl)|(exact bf (by omega))|refine aA ?_|refine ar ?_|refine aC ?_ ?_ ?_|refine aB ?_ ?_ ?_|refine toMax ?_|refine toMin ?_|refine ⟨rfl,?_⟩|refine ⟨trivial,?_⟩|(refine aH (fun h =>?_) (fun h =>?_))|(refine az (fun h =>?_) (fun h =>?_))|(refine aI (fun h =>?_) (fun h =>?_))|refine aD ?_|(refine ⟨au (by omega),?_⟩)|(refine And.intro (by omega) ?_)|apply And.intro|(exact iEq (by omega))|(exact au (by omega))
 obtain rfl:x0=a.length:=by omega
 refine ⟨rfl,Nat.zero_le _,?_,fun _=>rfl,?_⟩
 ·repeat' first|exact d7 _ _|exact d6 _ _|exact trivial|exact rfl|exact ag _|refine af ?_|refine ak ?_ ?_|exact aE|exact aL _ _ _ (.inl rfl)|(exact bf (by omega))|refine aA ?_|refine ar ?_|refine aC ?_ ?_ ?_|refine aB ?_ ?_ ?_|refine toMax ?_|refine toMin ?_|refine ⟨rfl,?_⟩|refine ⟨trivial,?_⟩|(refine aH (fun h =>?_) (fun h =>?_))|(refine az (fun h =>?_) (fun h =>?_))|(refine aI (fun h =>?_) (fun h =>?_))|refine aD ?_|(refine ⟨au (by omega),?_⟩)|(refine And.intro (by omega) ?_)|apply And.intro|(exact iEq (by omega))|(exact au (by omega))
 intro x1 hx1
 have hMl:=fw w h a l cs x1
 have hAl:=iw w h a l cs x1
 have hMo:=nV o hx1
 have hAo:=qv o hx1
 refine aH (fun k1 =>?_) (fun k1 =>?_)
 ·have hx:x1<cs.length:=by omega
  refine ⟨by omega,dY hx,by omega,dM (by omega) (by omega),fun ha =>?_,fun ha =>?_⟩
  ·have s1:aq w h a l cs (x1+1)=aq w h a l cs x1:=if_pos ha
   have s2:aj w h a l cs (x1+1)=aj w h a l cs x1:=if_pos ha
   refine ⟨au (by omega),x1+1,by omega,by omega,rfl,?_⟩
   rw[s1,s2]
   repeat' first|exact d7 _ _|exact d6 _ _|exact trivial|exact rfl|exact ag _|refine af ?_|refine ak ?_ ?_|exact aE|exact aL _ _ _ (.inl rfl)|(exact bf (by omega))|refine aA ?_|refine ar ?_|refine aC ?_ ?_ ?_|refine aB ?_ ?_ ?_|refine toMax ?_|refine toMin ?_|refine ⟨rfl,?_⟩|refine ⟨trivial,?_⟩|(refine aH (fun h =>?_) (fun h =>?_))|(refine az (fun h =>?_) (fun h =>?_))|(refine aI (fun h =>?_) (fun h =>?_))|refine aD ?_|(refine ⟨au (by omega),?_⟩)|(refine And.intro (by omega) ?_)|apply And.intro|(exact iEq (by omega))|(exact au (by omega))
  have hf:=o.fl hx
  have hc:=o.ce hx
  have hcl:=ko hc
  have hch:=kp hc
  have hc0:0<=(x1:Int)/\(x1:Int)<w*h:=by omega
  have hna:¬ a.getD x1 false=true:=by rw[ha];exact Bool.false_ne_true
  have hTl:=sZ (a:=a) (l:=l) (k:=x1) hb hc0 hf
  have hTb:∀{k},k<(TG w h a l x1).length->0<=(TG w h a l x1).getD k 0/\(TG w h a l x1).getD k 0<(a.length:Int):=fun hk=>oD hb (dt hk)
  have hmay:aj w h a l cs (x1+1)=aO (aj w h a l cs x1) (TG w h a l x1) (hiI (cs.getD x1 ab)):=if_neg hna
  have wB:aq w h a l cs (x1+1)=if (TG w h a l x1).length=1 then eY (aq w h a l cs x1) ((TG w h a l x1).getD 0 0) (loI (cs.getD x1 ab)) else aq w h a l cs x1:=if_neg hna
  rw[show tgts w h a (x1:Int) (l.getD x1 ac)=TG w h a l x1 from rfl]
  refine ⟨by omega,eR (by omega),⟨rfl,trivial⟩,fun H' hl hd=>Bw hb hc0 hf hl hd.1,aI (fun q1=>⟨by omega,wu (by omega) rfl,hTb (by omega),fh (by have:=hTb (k:=0) (by omega);omega) (by have:=hTb (k:=0) (by omega);omega) (by omega),trivial,fun H' _ _=>zB _ H',aI (fun q2 =>?_) (fun q2 =>?_)⟩) (fun q1 =>?_)⟩
  have hm:aq w h a l cs (x1+1)=aq w h a l cs x1:=by rw[wB,if_pos (by omega)];exact uj q2
  rw[<- hm]
  rotate_left
  have ht0:=hTb (k:=0) (by omega)
  have hd:Int.toNat ((TG w h a l x1).getD 0 0)<(aq w h a l cs x1).length:=by omega
  have hP:=hMo (Int.toNat ((TG w h a l x1).getD 0 0))
  have hm:aq w h a l cs (x1+1)=(aq w h a l cs x1).set (Int.toNat ((TG w h a l x1).getD 0 0)) (fb ((aq w h a l cs x1).getD (Int.toNat ((TG w h a l x1).getD 0 0)) ad) (loI (cs.getD x1 ab))):=by rw[wB,if_pos (by omega)];rfl
  have a1:=nP hd
  have a2:=mf hd
  generalize (aq w h a l cs x1).getD (Int.toNat ((TG w h a l x1).getD 0 0)) ad=p at *
  have hA:fb p (loI (cs.getD x1 ab))=⟨p.s+(cs.getD x1 ab).aK.lo,max p.t (cs.getD x1 ab).ao.lo,max p.r (cs.getD x1 ab).ap.lo⟩:=if_neg q2
  have s1:=rX hd (fb p (loI (cs.getD x1 ab)))
  have s2:=rW hd (fb p (loI (cs.getD x1 ab)))
  rw[<- hm,hA]at s1 s2
  obtain ⟨hp1,hp2,hp3⟩:=hP
  obtain ⟨vi,vh,lI,wx⟩:=hcl
  unfold loI at vi vh lI
  dsimp only at vi vh lI
  refine ⟨a1,au (by omega),by rw[bg eQ];omega,rfl,a2.1,toMax ⟨a2.2,toMax ⟨by rw[bg dh];omega,rfl,by rw[cp,bg dh];omega,rfl,?_⟩⟩⟩
  rw[s1,s2]
  rotate_left
  have hm:aq w h a l cs (x1+1)=aq w h a l cs x1:=by rw[wB,if_neg (by omega)]
  rw[<- hm]
  rotate_left
  all_goals
   refine ⟨rfl,Nat.zero_le _,?_,fun _=>rfl,?_⟩
   ·repeat' first|exact d7 _ _|exact d6 _ _|exact trivial|exact rfl|exact ag _|refine af ?_|refine ak ?_ ?_|exact aE|exact aL _ _ _ (.inl rfl)|(exact bf (by omega))|refine aA ?_|refine ar ?_|refine aC ?_ ?_ ?_|refine aB ?_ ?_ ?_|refine toMax ?_|refine toMin ?_|refine ⟨rfl,?_⟩|refine ⟨trivial,?_⟩|(refine aH (fun h =>?_) (fun h =>?_))|(refine az (fun h =>?_) (fun h =>?_))|(refine aI (fun h =>?_) (fun h =>?_))|refine aD ?_|(refine ⟨au (by omega),?_⟩)|(refine And.intro (by omega) ?_)|apply And.intro|(exact iEq (by omega))|(exact au (by omega))
   intro y hy
   have hPl:=kN ((TG w h a l x1).take y) (aj w h a l cs x1) (hiI (cs.getD x1 ab))
   have hPo:=oX hch ((TG w h a l x1).take y) hAo
   have hly:((TG w h a l x1).take y).length=y:=by rw[List.length_take];omega
   rw[hly]at hPo
   refine aH (fun k5 =>?_) (fun k5 =>?_)
   ·have hy':y<(TG w h a l x1).length:=by omega
    have ht0:=hTb hy'
    have hsn:aO (aj w h a l cs x1) ((TG w h a l x1).take (y+1)) (hiI (cs.getD x1 ab))=eY (aO (aj w h a l cs x1) ((TG w h a l x1).take y) (hiI (cs.getD x1 ab))) ((TG w h a l x1).getD y 0) (hiI (cs.getD x1 ab)):=by
     rw[fe (d:=0) hy',sX]
    refine ⟨by omega,wu hy' (by omega),ht0,fh (by omega) (by omega) (by omega),trivial,fun H' _ _=>u5 _ H',aI (fun q6 =>?_) (fun q6 =>?_)⟩
    ·have h3:aO (aj w h a l cs x1) ((TG w h a l x1).take (y+1)) (hiI (cs.getD x1 ab))=aO (aj w h a l cs x1) ((TG w h a l x1).take y) (hiI (cs.getD x1 ab)):=by rw[hsn];exact uj q6
     refine ⟨au (by omega),y+1,by omega,by omega,rfl,?_⟩
     rw[h3]
     repeat' first|exact d7 _ _|exact d6 _ _|exact trivial|exact rfl|exact ag _|refine af ?_|refine ak ?_ ?_|exact aE|exact aL _ _ _ (.inl rfl)|(exact bf (by omega))|refine aA ?_|refine ar ?_|refine aC ?_ ?_ ?_|refine aB ?_ ?_ ?_|refine toMax ?_|refine toMin ?_|refine ⟨rfl,?_⟩|refine ⟨trivial,?_⟩|(refine aH (fun h =>?_) (fun h =>?_))|(refine az (fun h =>?_) (fun h =>?_))|(refine aI (fun h =>?_) (fun h =>?_))|refine aD ?_|(refine ⟨au (by omega),?_⟩)|(refine And.intro (by omega) ?_)|apply And.intro|(exact iEq (by omega))|(exact au (by omega))
    ·generalize aO (aj w h a l cs x1) ((TG w h a l x1).take y) (hiI (cs.getD x1 ab))=P at *
     have hd:Int.toNat ((TG w h a l x1).getD y 0)<P.length:=by omega
     have hP:=hPo (Int.toNat ((TG w h a l x1).getD y 0))
     have a1:=nP hd
     have a2:=mf hd
     have hsn:aO (aj w h a l cs x1) ((TG w h a l x1).take (y+1)) (hiI (cs.getD x1 ab))=P.set (Int.toNat ((TG w h a l x1).getD y 0)) (fb (P.getD (Int.toNat ((TG w h a l x1).getD y 0)) ad) (hiI (cs.getD x1 ab))):=hsn
     generalize P.getD (Int.toNat ((TG w h a l x1).getD y 0)) ad=p at *
     have hA:fb p (hiI (cs.getD x1 ab))=⟨p.s+(cs.getD x1 ab).aK.hi,max p.t (cs.getD x1 ab).ao.hi,max p.r (cs.getD x1 ab).ap.hi⟩:=if_neg q6
     have s1:=rX hd (fb p (hiI (cs.getD x1 ab)))
     have s2:=rW hd (fb p (hiI (cs.getD x1 ab)))
     rw[<- hsn,hA]at s1 s2
     obtain ⟨hp1,hp2,hp3⟩:=hP
     obtain ⟨vi,vh,lI,wx⟩:=hch
     unfold hiI at vi vh lI
     dsimp only at vi vh lI
     refine ⟨a1,au (by omega),by rw[bg eQ];omega,rfl,a2.1,toMax ⟨a2.2,toMax ⟨by rw[bg dh];omega,rfl,by rw[cp,bg dh];omega,rfl,au (by omega),y+1,by omega,by omega,rfl,?_⟩⟩⟩
     rw[s1,s2]
     repeat' first|exact d7 _ _|exact d6 _ _|exact trivial|exact rfl|exact ag _|refine af ?_|refine ak ?_ ?_|exact aE|exact aL _ _ _ (.inl rfl)|(exact bf (by omega))|refine aA ?_|refine ar ?_|refine aC ?_ ?_ ?_|refine aB ?_ ?_ ?_|refine toMax ?_|refine toMin ?_|refine ⟨rfl,?_⟩|refine ⟨trivial,?_⟩|(refine aH (fun h =>?_) (fun h =>?_))|(refine az (fun h =>?_) (fun h =>?_))|(refine aI (fun h =>?_) (fun h =>?_))|refine aD ?_|(refine ⟨au (by omega),?_⟩)|(refine And.intro (by omega) ?_)|apply And.intro|(exact iEq (by omega))|(exact au (by omega))
   ·obtain rfl:y=(TG w h a l x1).length:=by omega
    rw[List.take_length,<- hmay]
    refine ⟨au (by omega),x1+1,by omega,by omega,rfl,?_⟩
    repeat' first|exact d7 _ _|exact d6 _ _|exact trivial|exact rfl|exact ag _|refine af ?_|refine ak ?_ ?_|exact aE|exact aL _ _ _ (.inl rfl)|(exact bf (by omega))|refine aA ?_|refine ar ?_|refine aC ?_ ?_ ?_|refine aB ?_ ?_ ?_|refine toMax ?_|refine toMin ?_|refine ⟨rfl,?_⟩|refine ⟨trivial,?_⟩|(refine aH (fun h =>?_) (fun h =>?_))|(refine az (fun h =>?_) (fun h =>?_))|(refine aI (fun h =>?_) (fun h =>?_))|refine aD ?_|(refine ⟨au (by omega),?_⟩)|(refine And.intro (by omega) ?_)|apply And.intro|(exact iEq (by omega))|(exact au (by omega))
 obtain rfl:x1=cs.length:=by omega
 refine ⟨au (by omega),rfl,Nat.zero_le _,?_,fun _=>rfl,?_⟩
 ·repeat' first|exact trivial|exact rfl|exact ag _|refine af ?_|refine ak ?_ ?_|exact aE|exact aL _ _ _ (.inl rfl)|(exact bf (by omega))|refine aA ?_|refine ar ?_|refine aC ?_ ?_ ?_|refine aB ?_ ?_ ?_|refine toMax ?_|refine toMin ?_|refine ⟨rfl,?_⟩|refine ⟨trivial,?_⟩|(refine aH (fun h =>?_) (fun h =>?_))|(refine az (fun h =>?_) (fun h =>?_))|(refine aI (fun h =>?_) (fun h =>?_))|refine aD ?_|(refine ⟨au (by omega),?_⟩)|(refine And.intro (by omega) ?_)|apply And.intro|(exact iEq (by omega))|(exact au (by omega))
 intro x2 hx2
 refine aH (fun k2 =>?_) (fun k2 =>?_)
 ·have hd:x2<(aq w h a l cs cs.length).length:=by omega
  have hd2:x2<(aj w h a l cs cs.length).length:=by omega
  have a1:=nP hd
  have a2:=mf hd
  have b1:=nP hd2
  have b2:=mf hd2
  have hpm:=hMo x2
  have hpa:=hAo x2
  have hS:cm (dz w h a l cs) (x2+1)=cm (dz w h a l cs) x2 ++ [dz w h a l cs x2]:=gb _ _
  have hSx:dz w h a l cs x2=cellOf (bp ((aq w h a l cs cs.length).getD x2 ad)) (bp ((aj w h a l cs cs.length).getD x2 ad)):=rfl
  generalize (aq w h a l cs cs.length).getD x2 ad=p at *
  generalize (aj w h a l cs cs.length).getD x2 ad=p' at *
  have o1:=th hpm
  have o2:=th hpa
  obtain ⟨m1,m2,m3⟩:=hpm
  obtain ⟨n1,n2,n3⟩:=hpa
  have hov:∀p:Pl,(if (0:Int) > p.s-100 then (0:Int) else p.s-100)=cC p:=fun p=>by unfold cC;rw[py]
  have d1:=ep (d:=10) o1.1 (by decide)
  have d2:=ep (d:=5) o1.1 (by decide)
  have d3:=ep (o:=cC p+25-1) (d:=25) (by omega) (by decide)
  have f1:=ep (d:=10) o2.1 (by decide)
  have f2:=ep (d:=5) o2.1 (by decide)
  have f3:=ep (o:=cC p'+25-1) (d:=25) (by omega) (by decide)
  have l1:(cm (dz w h a l cs) x2).length=x2:=cf _ _
  have c1:=dd cz (cm (dz w h a l cs) x2)
  have c2:=dA (own:=true) cz hS (by rw[hSx])
  rw[l1]at c1 c2
  rw[hov p,hov p']
  refine ⟨by omega,fh (by omega) (by omega) (by omega),a1,au (by omega),a1,au (by omega),a2.1,au (by omega),au (by omega),toMin ⟨a2.2,au (by omega),au (by omega),toMin ⟨au (by omega),au (by omega),au (by omega),toMin
   ⟨by omega,fh (by omega) (by omega) (by omega),b1,au (by omega),b1,au (by omega),b2.1,au (by omega),au (by omega),toMin ⟨b2.2,au (by omega),au (by omega),toMin ⟨au (by omega),au (by omega),au (by omega),toMin ?_⟩⟩⟩⟩⟩⟩
  repeat' first|(refine ⟨x2+1,by omega,by omega,rfl,?_⟩)|exact c2|exact bE _ _|exact c1|exact Nat.le_refl _|exact trivial|exact rfl|exact ag _|refine af ?_|refine ak ?_ ?_|exact aE|exact aL _ _ _ (.inl rfl)|(exact bf (by omega))|refine aA ?_|refine ar ?_|refine aC ?_ ?_ ?_|refine aB ?_ ?_ ?_|refine toMax ?_|refine toMin ?_|refine ⟨rfl,?_⟩|refine ⟨trivial,?_⟩|(refine aH (fun h =>?_) (fun h =>?_))|(refine az (fun h =>?_) (fun h =>?_))|(refine aI (fun h =>?_) (fun h =>?_))|refine aD ?_|(refine ⟨au (by omega),?_⟩)|(refine And.intro (by omega) ?_)|apply And.intro|(exact iEq (by omega))|(exact au (by omega))
 ·obtain rfl:x2=a.length:=by omega
  rw[show cm (dz w h a l cs) a.length=bV w h a l cs from rfl,show (bV w h a l cs).length=a.length from cf _ _]
  repeat' first|exact bE _ _|exact trivial|exact rfl|exact ag _|refine af ?_|refine ak ?_ ?_|exact aE|exact aL _ _ _ (.inl rfl)|(exact bf (by omega))|refine aA ?_|refine ar ?_|refine aC ?_ ?_ ?_|refine aB ?_ ?_ ?_|refine toMax ?_|refine toMin ?_|refine ⟨rfl,?_⟩|refine ⟨trivial,?_⟩|(refine aH (fun h =>?_) (fun h =>?_))|(refine az (fun h =>?_) (fun h =>?_))|(refine aI (fun h =>?_) (fun h =>?_))|refine aD ?_|(refine ⟨au (by omega),?_⟩)|(refine And.intro (by omega) ?_)|apply And.intro|(exact iEq (by omega))|(exact au (by omega))
abbrev chV(k i:Nat)(c:oH):Value:=.agg #[.int .i64 c.w,.int .i64 c.h,.int .i64 c.hour,.slice (some ⟨i,0,some k⟩) c.cells.length c.cells.length]
theorem vn{w h:Int}{a:List Bool}{w' h' t:Int}{cs:List Cell}(e:cn w h a w' h' t cs=0):bu w h w' h' t cs=0/\f6 a cs=0:=by
 unfold cn dv at e
 split at e
 ·rename_i h0;exact ⟨h0,e⟩
 ·rename_i h0;exact absurd e h0
theorem vN{w h:Int}{a:List Bool}{l:List Flow}{w' h' t:Int}{cs:List Cell}(e1:bI w h a.length l=0)(e2:cn w h a w' h' t cs=0):fK w h a l cs/\w'=w/\h'=h/\(0<=t/\t<=10000):=by
 obtain ⟨f1,f2,f3⟩:=fF e1
 obtain ⟨s1,s2⟩:=vn e2
 obtain ⟨c1,c2,c3⟩:=lN s1
 obtain ⟨c4,c5,_,c6⟩:=qW c1
 have hb:=oB f1
 have hn:=hb.n1
 subst c2 c3
 exact ⟨⟨hb,f2,j7 f3,by omega,c6⟩,rfl,rfl,by obtain ⟨_,_,_,q⟩:=c4;exact q⟩
theorem nG{r:oH×Int}{e:Int}(h:r=(cO,e)):true=true/\wk (.tuple #[.agg #[.int .i64 0,.int .i64 0,.int .i64 0,.slice none 0 0],.int .i64 e]:Value) (rn (sg 3 []) 3 (.tuple #[chV 1 3 r.1,.int .i64 r.2]))/\(True/\True):=by
 subst h
 exact ⟨rfl,aA ⟨ar ⟨ag _,ag _,ag _,aL _ _ _ (.inl rfl),trivial⟩,ag _,trivial⟩,trivial,trivial⟩
theorem AR(w h:Int)(a:List Bool)(l:List Flow)(hl:l.length<=4294967296)(w' h' t:Int)(cs:List Cell){H:Heap}{L:Nat}(hL:H.length=L){i0 i1 i2:Nat}{o0 o1 o2:Bool}{z0 z1 z2:Nat}(e0:H[i0]?=some (.cells o0 z0 (a.flatMap am)))
  (e1:H[i1]?=some (.cells o1 z1 (l.flatMap aV))) (e2:H[i2]?=some (.cells o2 z2 (cs.flatMap cellC))) :
  aF prog F.sM [eH w h i0 a.length,.slice (some ⟨i1,0,some 2⟩) l.length l.length,.agg #[.int .i64 w',.int .i64 h',.int .i64 t,.slice (some ⟨i2,0,some 2⟩) cs.length cs.length]] H []
   (Is (.tuple #[chV 1 L (aQ w h a l w' h' t cs).1,.int .i64 (aQ w h a l w' h' t cs).2]) (H ++ [.cells true 8 ((aQ w h a l w' h' t cs).1.cells.flatMap cellC)])):=by
 subst hL
 refine kT (fun i => .tuple #[chV 1 i (aQ w h a l w' h' t cs).1,.int .i64 (aQ w h a l w' h' t cs).2]) (css:=[a.flatMap am,l.flatMap aV,cs.flatMap cellC]) (new:=[.cells true 8 ((aQ w h a l w' h' t cs).1.cells.flatMap cellC)]) (Eq.mpr (Bh w h a l w' h' t cs) ?_) ⟨bP 0 a,d8 0 l,bE 0 cs,trivial⟩
  ⟨⟨_,_,rfl,bE 0 _⟩,trivial⟩ rfl rfl (fun _=>rfl) (ids:=[i0,i1,i2]) ⟨⟨_,_,e0⟩,⟨_,_,e1⟩,⟨_,_,e2⟩,trivial⟩ rfl
 unfold yV
 refine ⟨⟨rfl,rfl,trivial⟩,fun H' _ hd=>lh w h a l hl hd.1 hd.2.1,az (fun h0=>nG (if_neg h0)) (fun h0 =>?_)⟩
 have hb:=oB (fF h0).1
 have E1:aQ w h a l w' h' t cs=if cn w h a w' h' t cs=0 then (if t=10000 then (cO,6) else (⟨w',h',t+1,bV w h a l cs⟩,0)) else (cO,cn w h a w' h' t cs):=if_pos h0
 refine ⟨⟨rfl,rfl,trivial⟩,fun H' _ hd=>mI hb w' h' t cs hd.1 hd.2.1,az (fun h1=>nG (by rw[E1,if_neg h1])) (fun h1 =>?_)⟩
 rw[if_pos h1]at E1
 obtain ⟨o,_,_,ht⟩:=vN h0 h1
 refine aI (fun h2=>nG (by rw[E1,if_pos h2])) (fun h2=>⟨⟨rfl,rfl,rfl,trivial⟩,fun H' hl hd=>AO o w' h' t ht hl hd.1 hd.2.1 hd.2.2.1,?_⟩)
 rw[if_neg h2]at E1
 rw[E1]
 repeat' first|exact bE _ _|exact trivial|exact rfl|exact ag _|refine af ?_|refine ak ?_ ?_|exact aE|exact aL _ _ _ (.inl rfl)|(exact bf (by omega))|refine aA ?_|refine ar ?_|refine aC ?_ ?_ ?_|refine aB ?_ ?_ ?_|refine toMax ?_|refine toMin ?_|refine ⟨rfl,?_⟩|refine ⟨trivial,?_⟩|(refine aH (fun h =>?_) (fun h =>?_))|(refine az (fun h =>?_) (fun h =>?_))|(refine aI (fun h =>?_) (fun h =>?_))|refine aD ?_|(refine ⟨au (by omega),?_⟩)|(refine And.intro (by omega) ?_)|apply And.intro|(exact iEq (by omega))|(exact au (by omega))
end
end Go.Proofs.YtkkgnalgmebfjaaGreat
namespace Go.K
noncomputable section
structure Tb where
 ks:Nat->Nat
 hs:List Value
 ms:List Value
def qi(v:Value):Prop:=∀U:Nat->Option Nat,rn U 3 v=v
structure cY{Z:Type}(F z n:Nat)(enc:Z->List Value)(rows:Nat->List Z)(T:Tb):Prop where
 hl:T.hs.length=n
 m0:T.ms[0]?=some (.int .i64 (z:Int))
 fx:∀v∈T.ms,qi v
 hd:∀t,t<n->T.hs[t]?=some (e7 (rows t).length F (T.ks t))
 rw:∀t,t<n->0<(rows t).length->T.ms[T.ks t+1]?=some (.agg ⟨(rows t).flatMap enc⟩)
 dj:∀t u,t<n->u<n->t≠u->0<(rows t).length->0<(rows u).length->T.ks t≠T.ks u
def Tb.new(F z n:Nat):Tb:=⟨fun _=>0,List.replicate n (e7 0 F 0),[.int .i64 (z:Int)]⟩
theorem cY.new{Z:Type}(F z n:Nat)(enc:Z->List Value):cY F z n enc (fun _=>[]) (Tb.new F z n):=by
 refine ⟨List.length_replicate,rfl,fun v hv U =>?_,fun t ht =>?_,fun t _ h=>absurd h (Nat.lt_irrefl 0),fun t u _ _ _ h=>absurd h (Nat.lt_irrefl 0)⟩
 ·cases List.mem_singleton.1 hv;rfl
 ·show (List.replicate n _)[t]?=_
  rw[List.getElem?_replicate,if_pos ht];rfl
theorem eU(r k:Nat)(ms:List Value):(bQ r k ms).length=ms.length:=by
 cases r with
 |zero=>rfl
 |succ r=>exact List.length_set
theorem rU:qi junk:=fun _=>rfl
theorem qw{r k:Nat}{ms:List Value}(h:∀v∈ms,qi v):∀v∈bQ r k ms,qi v:=by
 cases r with
 |zero=>exact h
 |succ r =>
  intro v hv
  rcases List.mem_or_eq_of_mem_set hv with hv|rfl
  ·exact h v hv
  ·exact rU
theorem uR{cs:List Value}(h:∀(U:Nat->Option Nat),∀v∈cs,rn U 2 v=v):qi (.agg ⟨cs⟩):=fun U=>by
 show Value.agg ⟨cs.map (rn U 2)⟩=_
 rw[List.map_congr_left (h U),List.map_id']
theorem cY.lt{Z:Type}{F z n:Nat}{enc:Z->List Value}{rows:Nat->List Z}{T:Tb}(I:cY F z n enc rows T){t:Nat}(ht:t<n)(h:0<(rows t).length):T.ks t+1<T.ms.length:=(List.getElem?_eq_some_iff.1 (I.rw t ht h)).1
theorem cY.pos{Z:Type}{F z n:Nat}{enc:Z->List Value}{rows:Nat->List Z}{T:Tb}(I:cY F z n enc rows T):0<T.ms.length:=(List.getElem?_eq_some_iff.1 I.m0).1
def Tb.put(F t r:Nat)(row:List Value)(q:Nat)(T:Tb):Tb:=⟨fun j=>if j=t then T.ms.length-1 else T.ks j,T.hs.set t (e7 q F (T.ms.length-1)),dB q (bQ r (T.ks t) T.ms) row⟩
theorem cY.put{Z:Type}{F z n:Nat}{enc:Z->List Value}{rows:Nat->List Z}{T:Tb}(I:cY F z n enc rows T){t:Nat}(ht:t<n)(l:List Z)(hf:∀(U:Nat->Option Nat) (x:Z),∀v∈enc x,rn U 2 v=v){row:List Value}(e:row=l.flatMap enc) :
  cY F z n enc (fun j=>if j=t then l else rows j) (T.put F t (rows t).length row l.length):=by
 subst e
 have hp:=I.pos
 have hfx:=qw (r:=(rows t).length) (k:=T.ks t) I.fx
 have hll:=eU (rows t).length (T.ks t) T.ms
 have hle:∀j,j<n->j≠t->0<(rows j).length->(bQ (rows t).length (T.ks t) T.ms)[T.ks j+1]?=T.ms[T.ks j+1]? := fun j hj hne h=>by
  cases hr:(rows t).length with
  |zero=>rfl
  |succ r =>
   show (T.ms.set (T.ks t+1) junk)[_]?=_
   rw[List.getElem?_set_ne fun e=>I.dj t j ht hj (Ne.symm hne) (by omega) h (by omega)]
 have h0:(bQ (rows t).length (T.ks t) T.ms)[0]?=T.ms[0]? := by
  cases hr:(rows t).length with
  |zero=>rfl
  |succ r=>exact List.getElem?_set_ne (by omega)
 have hm:∀(i:Nat) (v:Value),(bQ (rows t).length (T.ks t) T.ms)[i]?=some v->(dB l.length (bQ (rows t).length (T.ks t) T.ms) (l.flatMap enc))[i]?=some v:=fun i v h=>by
  cases hq:l.length with
  |zero=>exact h
  |succ q =>
   show (_ ++ [_])[i]?=_
   rw[List.getElem?_append_left (List.getElem?_eq_some_iff.1 h).1];exact h
 refine ⟨?_,?_,?_,?_,?_,?_⟩
 ·show (T.hs.set _ _).length=n
  rw[List.length_set];exact I.hl
 ·exact hm _ _ (h0.trans I.m0)
 ·intro v hv
  have hv:v∈dB l.length (bQ (rows t).length (T.ks t) T.ms) (l.flatMap enc):=hv
  cases hq:l.length with
  |zero=>rw[hq]at hv;exact hfx v hv
  |succ q =>
   rw[hq]at hv
   rcases List.mem_append.1 hv with hv|hv
   ·exact hfx v hv
   ·cases List.mem_singleton.1 hv
    refine uR fun U v hv =>?_
    obtain ⟨x,_,hx⟩:=List.mem_flatMap.1 hv
    exact hf U x v hx
 ·intro j hj
  show (T.hs.set t _)[j]?=some (e7 (if j=t then l else rows j).length F (if j=t then _ else _))
  by_cases h:j=t
  ·subst h
   rw[if_pos rfl,if_pos rfl,List.getElem?_set_self (by rw[I.hl];exact ht)]
  ·rw[if_neg h,if_neg h,List.getElem?_set_ne (Ne.symm h)];exact I.hd j hj
 ·intro j hj hl
  show (dB _ _ _)[(if j=t then T.ms.length-1 else T.ks j)+1]?=some (.agg ⟨(if j=t then l else rows j).flatMap enc⟩)
  by_cases h:j=t
  ·subst h
   rw[if_pos rfl]at hl
   rw[if_pos rfl,if_pos rfl]
   cases hq:l.length with
   |zero=>omega
   |succ q =>
    show (_ ++ [_])[_]?=_
    rw[List.getElem?_append_right (by omega),show T.ms.length-1+1-(bQ (rows j).length (T.ks j) T.ms).length=0 by omega];rfl
  ·rw[if_neg h]at hl
   rw[if_neg h,if_neg h]
   exact hm _ _ ((hle j hj h hl).trans (I.rw j hj hl))
 ·intro j u hj hu hne h1 h2
  show (if j=t then T.ms.length-1 else T.ks j)≠(if u=t then T.ms.length-1 else T.ks u)
  by_cases a:j=t
  ·have b:¬ u=t:=fun b=>hne (a.trans b.symm)
   rw[if_neg b]at h2
   rw[if_pos a,if_neg b]
   have:=I.lt hu h2;omega
  ·rw[if_neg a]at h1
   rw[if_neg a]
   by_cases b:u=t
   ·rw[if_pos b]
    have:=I.lt hj h1;omega
   ·rw[if_neg b]at h2
    rw[if_neg b];exact I.dj j u hj hu hne h1 h2
theorem zg{U:Nat->Option Nat}{F:Nat}(h:U F=some F)(n k:Nat):rn U 3 (e7 n F k)=e7 n F k:=by
 show (match U F with|some id'=>Value.iface (n+1) (.pointer (some ⟨id',0,some (k+3)⟩))|none=>_)=_
 rw[h]
theorem cY.wkH{Z:Type}{F z n:Nat}{enc:Z->List Value}{rows:Nat->List Z}{T:Tb}(I:cY F z n enc rows T){U:Nat->Option Nat}(hF:U F=some F){zh:Nat}{hs:List Value}(e:hs=T.hs):wkO (.cells true zh hs) (rno U 3 (.cells true zh T.hs)):=by
 refine ki ?_
 subst e
 show _=aa.cells true zh (T.hs.map (rn U 3))
 rw[show T.hs.map (rn U 3)=T.hs from ?_]
 refine List.ext_getElem? fun i =>?_
 rw[List.getElem?_map]
 by_cases h:i<n
 ·rw[I.hd i h]
  exact congrArg some (zg hF _ _)
 ·rw[List.getElem?_eq_none (by rw[I.hl];omega)];rfl
theorem cY.wkM{Z:Type}{F z n:Nat}{enc:Z->List Value}{rows:Nat->List Z}{T:Tb}(I:cY F z n enc rows T){U:Nat->Option Nat}{ms:List Value}(e:ms=T.ms):wkO (.fam 0 ms) (rno U 3 (.fam 0 T.ms)):=by
 refine ki ?_
 subst e
 show _=aa.fam 0 (T.ms.map (rn U 3))
 rw[List.map_congr_left fun v hv=>I.fx v hv U,List.map_id']
theorem uz(U:Nat->Option Nat)(F:Nat):wk (.slice none 0 0) (rn U 3 (e7 0 F 0)):=by
 intro J x h
 cases h
 show VR J (match U F with|some id'=>Value.iface 1 (.pointer (some ⟨id',0,some 3⟩))|none => .iface 1 (.pointer none)) _
 cases U F with
 |some _=>exact .dc
 |none=>exact .dc
theorem qA(v:Value):∀n,cD [v] n=List.replicate n v
 |0=>rfl
 |n+1=>by show v :: cD [v] n=_;rw[qA v n];rfl
theorem ta{a b:Value}(h:wk a b):∀n,wks (List.replicate n a) (List.replicate n b)
 |0=>trivial
 |n+1=>⟨h,ta h n⟩
theorem yY{U:Nat->Option Nat}{F z n zh:Nat}:wkO (.cells true zh (cD [.slice none 0 0] n)) (rno U 3 (.cells true zh (Tb.new F z n).hs)):=by
 show wkO _ (.cells true zh ((List.replicate n (e7 0 F 0)).map (rn U 3)))
 rw[List.map_replicate,qA]
 exact af (ta (uz U F) n)
end
end Go.K
namespace Go.Proofs.YtkkgnalgmebfjaaGreat
noncomputable section
def aJ(l:List Ice):Pl:=l.foldl fb ad
theorem fp(l:List Ice)(x:Ice):aJ (l ++ [x])=fb (aJ l) x:=by
 unfold aJ;rw[List.foldl_append];rfl
theorem tY:∀(l:List Ice) {k:Nat} {p:Pl},hU k p->(∀x∈l,cB x)->hU (k+l.length) (l.foldl fb p)
 | [],k,p,hp,_=>hp
 |x :: l,k,p,hp,h=>by
  have:=tY l (me hp (h x (List.mem_cons_self ..))) (fun y hy=>h y (List.mem_cons_of_mem _ hy))
  rw[List.length_cons,show k+(l.length+1)=k+1+l.length by omega];exact this
theorem xJ(l:List Ice)(h:∀x∈l,cB x):hU l.length (aJ l):=by
 have:=tY l (md 1 0) h
 rw[Nat.zero_add]at this;exact this
def aX(w h:Int)(a:List Bool)(xs:List Ice)(ms:List Move)(t:Nat):Nat->List Ice
 |0=>[]
 |k+1=>if a.getD k false=false/\bX w h a (k:Int) (ms.getD k aM)=(t:Int) then aX w h a xs ms t k ++ [xs.getD k aG] else aX w h a xs ms t k
theorem rl(w h:Int)(a:List Bool)(xs:List Ice)(ms:List Move)(t:Nat):∀k,(aX w h a xs ms t k).length<=k
 |0=>Nat.le_refl 0
 |k+1=>by
  have ih:=rl w h a xs ms t k
  unfold aX
  split
  ·rw[bH];exact Nat.succ_le_succ ih
  ·omega
theorem nc{w h:Int}{a:List Bool}{xs:List Ice}{ms:List Move}{t:Nat}(hx:∀i,i<xs.length->cB (xs.getD i aG)):∀{k},k<=xs.length->∀x∈aX w h a xs ms t k,cB x
 |0,_,x,hm=>by cases hm
 |k+1,hk,x,hm=>by
  have ih:=nc (w:=w) (h:=h) (a:=a) (ms:=ms) (t:=t) hx (k:=k) (by omega)
  unfold aX at hm
  split at hm
  ·rcases List.mem_append.1 hm with hm|hm
   ·exact ih x hm
   ·rw[List.mem_singleton.1 hm];exact hx k (by omega)
  ·exact ih x hm
theorem wZ{w h:Int}{a:List Bool}{xs:List Ice}{ms:List Move}{t k:Nat}(h1:a.getD k false=false)(h2:bX w h a (k:Int) (ms.getD k aM)=(t:Int)):aX w h a xs ms t (k+1)=aX w h a xs ms t k ++ [xs.getD k aG]:=if_pos ⟨h1,h2⟩
theorem wY{w h:Int}{a:List Bool}{xs:List Ice}{ms:List Move}{t k:Nat}(h1:a.getD k false=true):aX w h a xs ms t (k+1)=aX w h a xs ms t k:=if_neg fun q=>by rw[h1]at q;cases q.1
theorem wX{w h:Int}{a:List Bool}{xs:List Ice}{ms:List Move}{t k:Nat}(h2:¬ bX w h a (k:Int) (ms.getD k aM)=(t:Int)):aX w h a xs ms t (k+1)=aX w h a xs ms t k:=if_neg fun q=>h2 q.2
theorem oq{w h:Int}{a:List Bool}{xs:List Ice}{ms:List Move}{t:Nat}(b:eD w h a.length)(ht:t<a.length):∀{k},k<=a.length->aJ (aX w h a xs ms t k)=(aR w h a xs ms k).getD t ad
 |0,_=>by
  show ad=(List.replicate a.length ad).getD t ad
  rw[List.getD_eq_getElem?_getD,List.getElem?_replicate,if_pos ht];rfl
 |k+1,hk=>by
  have ih:=oq (xs:=xs) (ms:=ms) b ht (k:=k) (by omega)
  have hn:=b.n1
  have hb:=lM (w:=w) (h:=h) (a:=a) (c:=(k:Int)) ⟨by omega,by omega⟩ (ms.getD k aM)
  cases ha:a.getD k false with
  |true =>
   rw[wY ha,ih,show aR w h a xs ms (k+1)=aR w h a xs ms k from if_pos ha]
  |false =>
   rw[show aR w h a xs ms (k+1)=(aR w h a xs ms k).set (Int.toNat (bX w h a (k:Int) (ms.getD k aM))) (fb ((aR w h a xs ms k).getD (Int.toNat (bX w h a (k:Int) (ms.getD k aM))) ad) (xs.getD k aG)) from if_neg (by rw[ha];exact Bool.false_ne_true)]
   rw[gx (by rw[gq];omega)]
   by_cases e:bX w h a (k:Int) (ms.getD k aM)=(t:Int)
   ·rw[wZ ha e,fp,ih,if_pos (by omega),show Int.toNat (bX w h a (k:Int) (ms.getD k aM))=t by omega]
   ·rw[wX e,ih,if_neg (by omega)]
theorem xe{w h:Int}{a:List Bool}{l:List Flow}{k:Nat}:(TG w h a l k).Pairwise (· < ·):=l4 _ _
theorem kO{x:Ice}:∀{ts:List Int} {ps:List Pl} {T:Nat},ts.Pairwise (· < ·)->(∀t∈ts,0<=t/\t<(ps.length:Int))->(aO ps ts x).getD T ad=if (T:Int)∈ts then fb (ps.getD T ad) x else ps.getD T ad
 | [],ps,T,_,_=>by rw[if_neg (by simp)];rfl
 |t :: ts,ps,T,hp,hb=>by
  obtain ⟨hp1,hp2⟩:=List.pairwise_cons.1 hp
  have ht:=hb t (List.mem_cons_self ..)
  have ih:=kO (x:=x) (ts:=ts) (ps:=eY ps t x) (T:=T) hp2 (fun s hs=>by rw[kP];exact hb s (List.mem_cons_of_mem _ hs))
  show (aO (eY ps t x) ts x).getD T ad=_
  rw[ih]
  have hg:(eY ps t x).getD T ad=if T=Int.toNat t then fb (ps.getD (Int.toNat t) ad) x else ps.getD T ad:=gx (by omega)
  rw[hg]
  by_cases h1:T=Int.toNat t
  ·have h2:¬ (T:Int)∈ts:=fun q=>by have:=hp1 _ q;omega
   rw[if_neg h2,if_pos h1,if_pos (by rw[List.mem_cons];left;omega),h1]
  ·rw[if_neg h1]
   have h3:(T:Int)∈t :: ts ↔ (T:Int)∈ts:=by
    rw[List.mem_cons]
    constructor
    ·rintro (q|q)
     ·omega
     ·exact q
    ·exact .inr
   simp only[h3]
def bM(w h:Int)(a:List Bool)(l:List Flow)(cs:List Cell)(t:Nat):Nat->List Ice
 |0=>[]
 |k+1=>if a.getD k false=false/\(t:Int)∈TG w h a l k then bM w h a l cs t k ++ [hiI (cs.getD k ab)] else bM w h a l cs t k
def bc(w h:Int)(a:List Bool)(l:List Flow)(cs:List Cell)(t:Nat):Nat->List Ice
 |0=>[]
 |k+1=>if a.getD k false=false/\(TG w h a l k).length=1/\(t:Int)∈TG w h a l k then bc w h a l cs t k ++ [loI (cs.getD k ab)] else bc w h a l cs t k
def bZ(w h:Int)(a:List Bool)(l:List Flow)(cs:List Cell)(i x t:Nat):List Ice:=if (t:Int)∈(TG w h a l i).take x then bM w h a l cs t i ++ [hiI (cs.getD i ab)] else bM w h a l cs t i
def bF(w h:Int)(a:List Bool)(l:List Flow)(cs:List Cell)(i x t:Nat):List Ice:=if (TG w h a l i).length=1/\(t:Int)∈(TG w h a l i).take x then bc w h a l cs t i ++ [loI (cs.getD i ab)] else bc w h a l cs t i
section
variable {w h:Int} {a:List Bool} {l:List Flow} {cs:List Cell} {i x t k:Nat}
theorem zo:bZ w h a l cs i 0 t=bM w h a l cs t i:=if_neg (by rw[List.take_zero];exact List.not_mem_nil)
theorem xO:bF w h a l cs i 0 t=bc w h a l cs t i:=if_neg (by rw[List.take_zero];exact fun q=>List.not_mem_nil q.2)
theorem v7(ha:a.getD i false=false):bZ w h a l cs i (TG w h a l i).length t=bM w h a l cs t (i+1):=by
 unfold bZ
 rw[List.take_length]
 show _=if _ then _ else _
 by_cases q:(t:Int)∈TG w h a l i
 ·rw[if_pos q,if_pos ⟨ha,q⟩]
 ·rw[if_neg q,if_neg fun e=>q e.2]
theorem uY(ha:a.getD i false=false):bF w h a l cs i (TG w h a l i).length t=bc w h a l cs t (i+1):=by
 unfold bF
 rw[List.take_length]
 show _=if _ then _ else _
 by_cases q:(TG w h a l i).length=1/\(t:Int)∈TG w h a l i
 ·rw[if_pos q,if_pos ⟨ha,q⟩]
 ·rw[if_neg q,if_neg fun e=>q e.2]
theorem nW(ha:a.getD i false=true):bM w h a l cs t (i+1)=bM w h a l cs t i:=if_neg fun e=>by rw[ha]at e;cases e.1
theorem mo(ha:a.getD i false=true):bc w h a l cs t (i+1)=bc w h a l cs t i:=if_neg fun e=>by rw[ha]at e;cases e.1
theorem lV(hx:x<(TG w h a l i).length){s:Int}:s∈(TG w h a l i).take (x+1) ↔ s∈(TG w h a l i).take x∨s=(TG w h a l i).getD x 0:=by
 rw[fe (d:=0) hx,List.mem_append,List.mem_singleton]
theorem xd(hx:x<(TG w h a l i).length):¬ (TG w h a l i).getD x 0∈(TG w h a l i).take x:=fun q=>by
 obtain ⟨k,hk,e⟩:=List.mem_take_iff_getElem.1 q
 have hp:=List.pairwise_iff_getElem.1 (xe (w:=w) (h:=h) (a:=a) (l:=l) (k:=i)) k x (by omega) hx (by omega)
 rw[e,List.getD_eq_getElem?_getD,List.getElem?_eq_getElem hx]at hp
 exact absurd hp (Int.lt_irrefl _)
theorem xP(b:eD w h a.length)(hx:x<(TG w h a l i).length):(fun j=>if j=Int.toNat ((TG w h a l i).getD x 0) then bZ w h a l cs i x (Int.toNat ((TG w h a l i).getD x 0)) ++ [hiI (cs.getD i ab)] else bZ w h a l cs i x j)=bZ w h a l cs i (x+1):=by
 funext j
 have hm:(TG w h a l i).getD x 0∈TG w h a l i:=dt hx
 have hb:=oD b hm
 by_cases q:j=Int.toNat ((TG w h a l i).getD x 0)
 ·rw[if_pos q]
  have e:((j:Nat):Int)=(TG w h a l i).getD x 0:=by omega
  have e2:((Int.toNat ((TG w h a l i).getD x 0):Nat):Int)=(TG w h a l i).getD x 0:=by omega
  unfold bZ
  rw[e,e2,if_neg (xd hx),if_pos ((lV hx).2 (.inr rfl)),q]
 ·rw[if_neg q]
  unfold bZ
  have:(j:Int)∈(TG w h a l i).take x ↔ (j:Int)∈(TG w h a l i).take (x+1):=by
   rw[lV hx]
   exact ⟨.inl,fun e=>e.resolve_right fun e=>q (by omega)⟩
  simp only[this]
theorem vW(b:eD w h a.length)(hx:x<(TG w h a l i).length)(h1:(TG w h a l i).length=1):(fun j=>if j=Int.toNat ((TG w h a l i).getD x 0) then bF w h a l cs i x (Int.toNat ((TG w h a l i).getD x 0)) ++ [loI (cs.getD i ab)] else bF w h a l cs i x j)=bF w h a l cs i (x+1):=by
 funext j
 have hm:(TG w h a l i).getD x 0∈TG w h a l i:=dt hx
 have hb:=oD b hm
 by_cases q:j=Int.toNat ((TG w h a l i).getD x 0)
 ·rw[if_pos q]
  have e:((j:Nat):Int)=(TG w h a l i).getD x 0:=by omega
  have e2:((Int.toNat ((TG w h a l i).getD x 0):Nat):Int)=(TG w h a l i).getD x 0:=by omega
  unfold bF
  rw[e,e2,if_neg fun z=>xd hx z.2,if_pos ⟨h1,(lV hx).2 (.inr rfl)⟩,q]
 ·rw[if_neg q]
  unfold bF
  have:(j:Int)∈(TG w h a l i).take x ↔ (j:Int)∈(TG w h a l i).take (x+1):=by
   rw[lV hx]
   exact ⟨.inl,fun e=>e.resolve_right fun e=>q (by omega)⟩
  simp only[this]
theorem vV(h1:¬ (TG w h a l i).length=1)(x y:Nat):bF w h a l cs i x=bF w h a l cs i y:=by
 funext j
 unfold bF
 rw[if_neg fun z=>h1 z.1,if_neg fun z=>h1 z.1]
theorem mq:∀k,(bM w h a l cs t k).length<=k
 |0=>Nat.le_refl 0
 |k+1=>by
  have ih:=mq k
  unfold bM
  split
  ·rw[bH];exact Nat.succ_le_succ ih
  ·omega
theorem kw:∀k,(bc w h a l cs t k).length<=k
 |0=>Nat.le_refl 0
 |k+1=>by
  have ih:=kw k
  unfold bc
  split
  ·rw[bH];exact Nat.succ_le_succ ih
  ·omega
theorem v6:(bZ w h a l cs i x t).length<=i+1:=by
 have:=mq (w:=w) (h:=h) (a:=a) (l:=l) (cs:=cs) (t:=t) i
 unfold bZ
 split
 ·rw[bH];exact Nat.succ_le_succ this
 ·omega
theorem uX:(bF w h a l cs i x t).length<=i+1:=by
 have:=kw (w:=w) (h:=h) (a:=a) (l:=l) (cs:=cs) (t:=t) i
 unfold bF
 split
 ·rw[bH];exact Nat.succ_le_succ this
 ·omega
theorem mp(o:fK w h a l cs):∀{k},k<=cs.length->∀x∈bM w h a l cs t k,cB x
 |0,_,x,hm=>by cases hm
 |k+1,hk,x,hm=>by
  have ih:=mp o (k:=k) (by omega)
  unfold bM at hm
  split at hm
  ·rcases List.mem_append.1 hm with hm|hm
   ·exact ih x hm
   ·rw[List.mem_singleton.1 hm];exact kp (o.ce (by omega))
  ·exact ih x hm
theorem kZ(o:fK w h a l cs):∀{k},k<=cs.length->∀x∈bc w h a l cs t k,cB x
 |0,_,x,hm=>by cases hm
 |k+1,hk,x,hm=>by
  have ih:=kZ o (k:=k) (by omega)
  unfold bc at hm
  split at hm
  ·rcases List.mem_append.1 hm with hm|hm
   ·exact ih x hm
   ·rw[List.mem_singleton.1 hm];exact ko (o.ce (by omega))
  ·exact ih x hm
theorem qu(b:eD w h a.length)(ht:t<a.length):∀k,aJ (bM w h a l cs t k)=(aj w h a l cs k).getD t ad
 |0=>by
  show ad=(List.replicate a.length ad).getD t ad
  rw[List.getD_eq_getElem?_getD,List.getElem?_replicate,if_pos ht];rfl
 |k+1=>by
  have ih:=qu b ht k
  cases ha:a.getD k false with
  |true=>rw[nW ha,ih,show aj w h a l cs (k+1)=aj w h a l cs k from if_pos ha]
  |false =>
   rw[show aj w h a l cs (k+1)=aO (aj w h a l cs k) (TG w h a l k) (hiI (cs.getD k ab)) from if_neg (by rw[ha];exact Bool.false_ne_true),kO xe (fun s hs=>by rw[iw];exact oD b hs),<- ih]
   by_cases q:(t:Int)∈TG w h a l k
   ·rw[if_pos q,show bM w h a l cs t (k+1)=_ from if_pos ⟨ha,q⟩,fp]
   ·rw[if_neg q,show bM w h a l cs t (k+1)=_ from if_neg fun e=>q e.2]
theorem nU(b:eD w h a.length)(ht:t<a.length):∀k,aJ (bc w h a l cs t k)=(aq w h a l cs k).getD t ad
 |0=>by
  show ad=(List.replicate a.length ad).getD t ad
  rw[List.getD_eq_getElem?_getD,List.getElem?_replicate,if_pos ht];rfl
 |k+1=>by
  have ih:=nU b ht k
  cases ha:a.getD k false with
  |true=>rw[mo ha,ih,show aq w h a l cs (k+1)=aq w h a l cs k from if_pos ha]
  |false =>
   by_cases h1:(TG w h a l k).length=1
   ·have e:TG w h a l k=[(TG w h a l k).getD 0 0]:=by
     match hT:TG w h a l k,h1 with
     | [z],_=>rfl
    rw[show aq w h a l cs (k+1)=eY (aq w h a l cs k) ((TG w h a l k).getD 0 0) (loI (cs.getD k ab)) from (if_neg (by rw[ha];exact Bool.false_ne_true)).trans (if_pos h1)]
    have hg:=kO (x:=loI (cs.getD k ab)) (ps:=aq w h a l cs k) (T:=t) (xe (w:=w) (h:=h) (a:=a) (l:=l) (k:=k)) (fun s hs=>by rw[fw];exact oD b hs)
    rw[e]at hg
    rw[show eY (aq w h a l cs k) ((TG w h a l k).getD 0 0) (loI (cs.getD k ab))=aO (aq w h a l cs k) [(TG w h a l k).getD 0 0] (loI (cs.getD k ab)) from rfl,hg,<- e,<- ih]
    by_cases q:(t:Int)∈TG w h a l k
    ·rw[if_pos q,show bc w h a l cs t (k+1)=_ from if_pos ⟨ha,h1,q⟩,fp]
    ·rw[if_neg q,show bc w h a l cs t (k+1)=_ from if_neg fun e=>q e.2.2]
   ·rw[show aq w h a l cs (k+1)=aq w h a l cs k from (if_neg (by rw[ha];exact Bool.false_ne_true)).trans (if_neg h1),show bc w h a l cs t (k+1)=_ from if_neg fun e=>h1 e.2.1,ih]
end
abbrev rq(w h t:Int)(id n:Nat):Value:=.agg #[.int .i64 w,.int .i64 h,.int .i64 t,.slice (some ⟨id,0,some 2⟩) n n]
def df(a:List Bool)(cs:List Cell)(k:Nat):Cell:=if a.getD k false=true then ab else cs.getD k ab
def cr(a:List Bool)(cs:List Cell)(x:Nat):List Cell:=cm (fun k=>if k<x/\a.getD k false=true then ab else cs.getD k ab) cs.length
def ai(w h:Int)(a:List Bool)(w' h' t:Int)(cs:List Cell):oH×Int :=
 if cJ w h a.length=0 then (if bu w h w' h' t cs=0 then (⟨w',h',t,cm (df a cs) cs.length⟩,0) else (cO,bu w h w' h' t cs)) else (cO,cJ w h a.length)
def dw(cs:List Cell)(x:Nat):List Cell:=cm (fun k=>if k<x then cq else cs.getD k ab) cs.length
theorem gd{Z:Type}{d:Z}{f:Nat->Z}{n:Nat}{l:List Z}(hl:l.length=n)(h:∀k,k<n->l.getD k d=f k):cm f n=l:=by
 refine List.ext_getElem (by rw[cf,hl]) fun k h1 h2 =>?_
 have:=h k (by omega)
 rw[List.getD_eq_getElem?_getD,List.getElem?_eq_getElem h2]at this
 simp only[cm,List.getElem_map,List.getElem_range]
 exact this.symm
theorem eN(a:List Bool)(cs:List Cell)(x:Nat):(cr a cs x).length=cs.length:=cf _ _
theorem uL(a:List Bool)(cs:List Cell):cr a cs 0=cs:=gd (d:=ab) rfl fun k _=>by rw[if_neg fun q=>Nat.not_lt_zero _ q.1]
theorem uK{a:List Bool}{cs:List Cell}{x:Nat}(hx:x<cs.length)(h:a.getD x false=true):(cr a cs x).set x ab=cr a cs (x+1):=by
 refine Eq.symm (gd (d:=ab) (by rw[List.length_set];exact eN ..) fun k hk =>?_)
 rw[gx (by rw[eN];exact hx)]
 by_cases q:k=x
 ·subst q;rw[if_pos rfl,if_pos ⟨by omega,h⟩]
 ·rw[if_neg q,show (cr a cs x).getD k ab=_ from jE hk]
  by_cases q2:k<x/\a.getD k false=true
  ·rw[if_pos q2,if_pos ⟨by omega,q2.2⟩]
  ·rw[if_neg q2,if_neg fun z=>q2 ⟨by omega,z.2⟩]
theorem uJ{a:List Bool}{cs:List Cell}{x:Nat}(h:a.getD x false=false):cr a cs (x+1)=cr a cs x:=by
 refine gd (d:=ab) (eN ..) fun k hk =>?_
 rw[show (cr a cs x).getD k ab=_ from jE hk]
 by_cases q2:k<x/\a.getD k false=true
 ·rw[if_pos q2,if_pos ⟨by omega,q2.2⟩]
 ·have q3:¬ (k<x+1/\a.getD k false=true):=fun z=>by
   rcases Nat.lt_or_ge k x with q|q
   ·exact q2 ⟨q,z.2⟩
   ·obtain rfl:k=x:=by omega
    have z2:=z.2
    rw[h]at z2;cases z2
  rw[if_neg q2,if_neg q3]
theorem qa{a:List Bool}{cs:List Cell}{x:Nat}(h:x=cs.length):cr a cs x=cm (df a cs) cs.length:=by
 refine gd (d:=ab) (cf _ _) fun k hk =>?_
 rw[jE hk]
 unfold df
 by_cases q:a.getD k false=true
 ·rw[if_pos q,if_pos ⟨by omega,q⟩]
 ·rw[if_neg q,if_neg fun z=>q z.2]
theorem fM(cs:List Cell)(x:Nat):(dw cs x).length=cs.length:=cf _ _
theorem uB(cs:List Cell):dw cs 0=cs:=gd (d:=ab) rfl fun k _=>by rw[if_neg (Nat.not_lt_zero _)]
theorem uA{cs:List Cell}{x:Nat}(hx:x<cs.length):(dw cs x).set x cq=dw cs (x+1):=by
 refine Eq.symm (gd (d:=ab) (by rw[List.length_set];exact fM ..) fun k hk =>?_)
 rw[gx (by rw[fM];exact hx)]
 by_cases q:k=x
 ·subst q;rw[if_pos rfl,if_pos (by omega)]
 ·rw[if_neg q,show (dw cs x).getD k ab=_ from jE hk]
  by_cases q2:k<x
  ·rw[if_pos q2,if_pos (by omega)]
  ·rw[if_neg q2,if_neg (by omega)]
theorem uZ{f:Flow}(hf:bY f):∀m∈aP f,jl f m=true:=by
 have eb:=iD hf
 have key:∀j,j<=nyF f->∀m∈cX f j,jl f m=true:=by
  intro j
  induction j with
  |zero=>intro _ m hm;cases hm
  |succ j ih =>
   intro hj m hm
   rcases List.mem_append.1 hm with h|h
   ·exact ih (by omega) m h
   ·unfold cV cm at h
    obtain ⟨i,hi,rfl⟩:=List.mem_map.1 h
    rw[List.mem_range]at hi
    unfold nxF at hi
    unfold nyF at hj
    unfold jl
    simp only[Bool.and_eq_true,decide_eq_true_eq]
    omega
 exact key _ (Nat.le_refl _)
theorem wv{f:Flow}(hf:bY f){m:Move}(h:jl f m=true):m∈aP f:=by
 unfold jl at h
 simp only[Bool.and_eq_true,decide_eq_true_eq]at h
 obtain ⟨⟨h1,h2⟩,h3,h4⟩:=h
 have key:∀j:Nat,(m.dy-(bw f).dy).toNat<j->m∈cX f j:=by
  intro j
  induction j with
  |zero=>intro h;omega
  |succ j ih =>
   intro h
   rcases Nat.lt_or_ge (m.dy-(bw f).dy).toNat j with q|q
   ·exact List.mem_append.2 (.inl (ih q))
   ·refine List.mem_append.2 (.inr ?_)
    unfold cV cm
    refine List.mem_map.2 ⟨(m.dx-(bw f).dx).toNat,?_,?_⟩
    ·rw[List.mem_range];unfold nxF;omega
    ·obtain ⟨dx,dy⟩:=m
     have e1:(bw f).dx+(((dx-(bw f).dx).toNat:Nat):Int)=dx:=by dsimp only at *;omega
     have e2:(bw f).dy+((j:Nat):Int)=dy:=by dsimp only at *;omega
     rw[e1,e2]
 exact key (nyF f) (by unfold nyF;omega)
theorem vX{f:Flow}(hf:bY f)(m:Move):decide (m∈aP f)=jl f m:=by
 rw[Bool.eq_iff_iff,decide_eq_true_eq]
 exact ⟨uZ hf m,wv hf⟩
end
end Go.Proofs.YtkkgnalgmebfjaaGreat
