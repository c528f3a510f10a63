/- Drift: charts that fit a basin; a cell's ends. No condition. -/
import Derived.Test.YtkkgnalgmebfjaaGreatGE3gxE2g
import Derived.Test.YtkkgnalgmebfjaaGreatGV13xV14
open Go Go.K
set_option maxRecDepth 1000000
set_option maxHeartbeats 4000000
set_option linter.unusedVariables false
set_option linter.unusedSimpArgs false
namespace Go.Proofs.YtkkgnalgmebfjaaGreat
noncomputable section
attribute [local irreducible] vF
theorem Bh(c:Cell)(H:Heap):am prog F.sq [cellV c] H [] (Is (xG (loI c)) H):=by
 refine iu 40 (fun _=>rfl) rfl (Eq.mpr (B1 _ c) ?_) H
 unfold yN
 rfl
theorem vW(c:Cell)(H:Heap):am prog F.nR [cellV c] H [] (Is (xG (hiI c)) H):=by
 refine iu 40 (fun _=>rfl) rfl (Eq.mpr (wm _ c) ?_) H
 unfold pu
 rfl
theorem Bb(w h:Int)(a:List Bool)(w' h' t:Int)(cs:List Cell){H:Heap}{i0 i1:Nat}{o0 o1:Bool}{z0 z1:Nat}(e0:H[i0]?=some (.cells o0 z0 (a.flatMap ak)))(e1:H[i1]?=some (.cells o1 z1 (cs.flatMap cellC))) :
  am prog F.sn [fg w h i0 a.length,.agg #[.int .i64 w',.int .i64 h',.int .i64 t,.slice (some ⟨i1,0,some 2⟩) cs.length cs.length]] H [] (Is (.int .i64 (ca w h w' h' t cs)) H):=by
 refine ir (Eq.mpr (BT _ w h a w' h' t cs) ?_) (mA (bc 0 a) (bn 0 cs)) rfl [i0,i1] rfl (lD e0 e1)
 unfold yG
 refine ⟨⟨rfl,trivial⟩,fun H' _ hd=>rR w' h' t cs hd.1,aE (fun h0 =>?_) (fun h0 =>?_)⟩
 ·exact iEq (dl h0).symm
 have e:ca w h w' h' t cs=if w'=w/\h'=h then 0 else 1:=bH h0
 rw[e]
 refine aE (fun h1 =>?_) (fun h1=>aE (fun h2 =>?_) (fun h2 =>?_))
 ·rw[if_neg (fun q=>h1 q.1)]
 ·rw[if_neg (fun q=>h2 q.2)]
 ·rw[if_pos ⟨h1,h2⟩]
theorem kz{w h t:Int}{cs:List Cell}(e:bZ w h t cs=0):(cs.length:Int)=w*h/\errs bS cs=0:=by
 unfold bZ cU at e
 split at e
 ·split at e
  ·rename_i h1;exact ⟨h1,e⟩
  ·omega
 ·rename_i h0;exact absurd e h0
theorem uV{a:List Bool}{cs:List Cell}{k:Nat}(h:a.getD k false=true)(h2:v6 (cs.getD k aa)=false):dE a cs k=30:=by
 unfold dE
 rw[if_pos h,if_neg (by rw[h2];exact Bool.false_ne_true)]
theorem sm{a:List Bool}{cs:List Cell}{k:Nat}(h:a.getD k false=true->v6 (cs.getD k aa)=true):dE a cs k=0:=by
 unfold dE
 by_cases q:a.getD k false=true
 ·rw[if_pos q,if_pos (h q)]
 ·rw[if_neg q]
theorem CK{a:List Bool}{cs:List Cell}{k:Nat}(h:dE a cs k=0)(h2:a.getD k false=true):v6 (cs.getD k aa)=true:=by
 unfold dE at h
 rw[if_pos h2]at h
 split at h
 ·assumption
 ·omega
theorem iY{w h w' h' t:Int}{cs:List Cell}(e:ca w h w' h' t cs=0):bZ w' h' t cs=0/\w'=w/\h'=h:=by
 unfold ca cU at e
 split at e
 ·rename_i h0
  split at e
  ·rename_i h1;exact ⟨h0,h1⟩
  ·omega
 ·rename_i h0;exact absurd e h0
theorem lM{w h:Int}{a:List Bool}(b:cZ w h a.length)(w' h' t:Int)(cs:List Cell){H:Heap}{i0 i1:Nat}{o0 o1:Bool}{z0 z1:Nat}(e0:H[i0]?=some (.cells o0 z0 (a.flatMap ak)))(e1:H[i1]?=some (.cells o1 z1 (cs.flatMap cellC))) :
  am prog F.tL [fg w h i0 a.length,.agg #[.int .i64 w',.int .i64 h',.int .i64 t,.slice (some ⟨i1,0,some 2⟩) cs.length cs.length]] H [] (Is (.int .i64 (bl w h a w' h' t cs)) H):=by
 refine ir (Eq.mpr (CW _ w h a w' h' t cs) ?_) (mA (bc 0 a) (bn 0 cs)) rfl [i0,i1] rfl (lD e0 e1)
 unfold AO
 refine ⟨⟨rfl,rfl,trivial⟩,fun H' _ hd=>Bb w h a w' h' t cs hd.1 hd.2.1,aE (fun h0 =>?_) (fun h0 =>?_)⟩
 ·exact iEq (dl h0).symm
 have e:bl w h a w' h' t cs=gA a cs:=bH h0
 obtain ⟨s1,s2,s3⟩:=iY h0
 obtain ⟨s4,_⟩:=kz s1
 subst s2 s3
 have hn:=b.n1
 have hp:=b.p1
 rw[e]
 refine ⟨rfl,⟨Nat.zero_le _,rfl⟩,?_,fun _=>rfl,?_⟩
 ·repeat' first|exact trivial|exact rfl|exact ah _|refine aq ?_|refine aw ?_ ?_|exact aF|exact aJ _ _ _ (.inl rfl)|(exact bi (by omega))|refine aD ?_|refine av ?_|refine aC ?_ ?_ ?_|refine aB ?_ ?_ ?_|refine toMax ?_|refine toMin ?_|refine ⟨rfl,?_⟩|refine ⟨trivial,?_⟩|(refine aG (fun h =>?_) (fun h =>?_))|(refine aE (fun h =>?_) (fun h =>?_))|(refine aI (fun h =>?_) (fun h =>?_))|refine aA ?_|(refine ⟨az (by omega),?_⟩)|(refine And.intro (by omega) ?_)|apply And.intro|(exact iEq (by omega))|(exact az (by omega))
 rintro x ⟨j1,j2⟩
 refine aG (fun k1 =>?_) (fun k1 =>?_)
 ·have hx:x<cs.length:=by omega
  refine ⟨by omega,eC hx,by omega,fT (by omega) (by omega),fun ha=>⟨fun q =>?_,fun q =>?_⟩,fun ha =>?_⟩
  ·exact iEq (by unfold gA;rw[gO j2 (by rw[uV ha (zm q)];decide) hx,uV ha (zm q)])
  ·refine ⟨az (by omega),x+1,⟨by omega,ek j2 (sm fun _=>Au q)⟩,by omega,rfl,?_⟩
   repeat' first|exact trivial|exact rfl|exact ah _|refine aq ?_|refine aw ?_ ?_|exact aF|exact aJ _ _ _ (.inl rfl)|(exact bi (by omega))|refine aD ?_|refine av ?_|refine aC ?_ ?_ ?_|refine aB ?_ ?_ ?_|refine toMax ?_|refine toMin ?_|refine ⟨rfl,?_⟩|refine ⟨trivial,?_⟩|(refine aG (fun h =>?_) (fun h =>?_))|(refine aE (fun h =>?_) (fun h =>?_))|(refine aI (fun h =>?_) (fun h =>?_))|refine aA ?_|(refine ⟨az (by omega),?_⟩)|(refine And.intro (by omega) ?_)|apply And.intro|(exact iEq (by omega))|(exact az (by omega))
  ·refine ⟨az (by omega),x+1,⟨by omega,ek j2 (sm fun q=>by rw[ha]at q;cases q)⟩,by omega,rfl,?_⟩
   repeat' first|exact trivial|exact rfl|exact ah _|refine aq ?_|refine aw ?_ ?_|exact aF|exact aJ _ _ _ (.inl rfl)|(exact bi (by omega))|refine aD ?_|refine av ?_|refine aC ?_ ?_ ?_|refine aB ?_ ?_ ?_|refine toMax ?_|refine toMin ?_|refine ⟨rfl,?_⟩|refine ⟨trivial,?_⟩|(refine aG (fun h =>?_) (fun h =>?_))|(refine aE (fun h =>?_) (fun h =>?_))|(refine aI (fun h =>?_) (fun h =>?_))|refine aA ?_|(refine ⟨az (by omega),?_⟩)|(refine And.intro (by omega) ?_)|apply And.intro|(exact iEq (by omega))|(exact az (by omega))
 ·obtain rfl:x=cs.length:=by omega
  exact iEq j2.symm
theorem lz(ps:List Pl)(t:Int)(x:Ice):(eL ps t x).length=ps.length:=List.length_set
theorem lx:∀(ts:List Int) (ps:List Pl) (x:Ice),(aL ps ts x).length=ps.length
 | [],ps,x=>rfl
 |t :: ts,ps,x=>(lx ts (eL ps t x) x).trans (lz ps t x)
theorem tV(ts:List Int)(t:Int)(ps:List Pl)(x:Ice):aL ps (ts ++ [t]) x=eL (aL ps ts x) t x:=by
 unfold aL
 rw[List.foldl_append];rfl
theorem gL(w h:Int)(a:List Bool)(l:List Flow)(cs:List Cell):∀k,(aj w h a l cs k).length=a.length
 |0=>by simp[aj]
 |k+1=>by
  unfold aj
  split
  ·exact gL w h a l cs k
  ·rw[lx];exact gL w h a l cs k
theorem eP(w h:Int)(a:List Bool)(l:List Flow)(cs:List Cell):∀k,(ap w h a l cs k).length=a.length
 |0=>by simp[ap]
 |k+1=>by
  unfold ap
  split
  ·exact eP w h a l cs k
  ·split
   ·rw[lz];exact eP w h a l cs k
   ·exact eP w h a l cs k
theorem uk{m:Nat}{ps:List Pl}{t:Int}{x:Ice}(h:∀j,jn m (ps.getD j ag))(hx:eO x)(j:Nat):jn (m+1) ((eL ps t x).getD j ag):=by
 unfold eL
 by_cases hd:Int.toNat t<ps.length
 ·rw[iM hd]
  split
  ·exact rf (h _) hx
  ·exact er (by omega) (h j)
 ·rw[List.set_eq_of_length_le (by omega)]
  exact er (by omega) (h j)
theorem pP{x:Ice}(hx:eO x):∀(ts:List Int) {m:Nat} {ps:List Pl},(∀j,jn m (ps.getD j ag))->∀j,jn (m+ts.length) ((aL ps ts x).getD j ag)
 | [],m,ps,h,j=>h j
 |t :: ts,m,ps,h,j=>by
  have:=pP hx ts (m:=m+1) (ps:=eL ps t x) (uk h hx) j
  rw[List.length_cons,show m+(ts.length+1)=m+1+ts.length by omega];exact this
theorem mP(n j:Nat):jn 0 ((List.replicate n ag).getD j ag):=by
 rw[List.getD_eq_getElem?_getD,List.getElem?_replicate]
 split <;> exact ⟨⟨by decide,by decide⟩,⟨by decide,by decide⟩,by decide,by decide⟩
theorem tX{w h:Int}{a:List Bool}{l:List Flow}{k:Nat}(b:cZ w h a.length)(hc:0<=(k:Int)/\(k:Int)<w*h)(hf:bX (l.getD k af)):(TG w h a l k).length<=25:=by
 unfold TG
 rw[<- oD b hc]
 have h1:=kD (bg (tgL w h a (k:Int) (l.getD k af)))
 have h2:=pF (tgL w h a (k:Int) (l.getD k af))
 have h3:=md w h a (k:Int) (l.getD k af)
 have h4:=(i6 hf).2
 omega
theorem lU{w h:Int}{a:List Bool}{l:List Flow}{k:Nat}(b:cZ w h a.length){t:Int}(ht:t∈TG w h a l k):0<=t/\t<(a.length:Int):=by
 unfold TG tgts dK at ht
 obtain ⟨i,h1,_,rfl⟩:=fV.1 ht
 have hn:=b.n1
 unfold cQ at h1
 rw[cp]at h1
 omega
theorem kQ{c:Cell}(h:ck c):eO (loI c):=by
 obtain ⟨⟨a1,a2,a3,a4⟩,⟨b1,b2,b3,b4⟩,⟨c1,c2,c3,c4⟩,⟨d1,d2,d3,d4⟩⟩:=h
 exact ⟨⟨a1,a2⟩,⟨b1,b2⟩,⟨c1,c2⟩,d1,d2⟩
theorem kR{c:Cell}(h:ck c):eO (hiI c):=by
 obtain ⟨⟨a1,a2,a3,a4⟩,⟨b1,b2,b3,b4⟩,⟨c1,c2,c3,c4⟩,⟨d1,d2,d3,d4⟩⟩:=h
 refine ⟨⟨?_,a4⟩,⟨?_,b4⟩,⟨?_,c4⟩,?_,d4⟩ <;> (unfold hiI;dsimp only;omega)
structure dU(w h:Int)(a:List Bool)(l:List Flow)(cs:List Cell):Prop where
 b:cZ w h a.length
 l1:l.length=a.length
 f:∀f∈l,bX f
 n:cs.length=a.length
 c:∀c∈cs,ck c
theorem dU.fl{w h:Int}{a:List Bool}{l:List Flow}{cs:List Cell}(o:dU w h a l cs){k:Nat}(hk:k<cs.length):bX (l.getD k af):=o.f _ (dz (by have:=o.l1;have:=o.n;omega))
theorem dU.ce{w h:Int}{a:List Bool}{l:List Flow}{cs:List Cell}(o:dU w h a l cs){k:Nat}(hk:k<cs.length):ck (cs.getD k aa):=o.c _ (dz hk)
theorem mY{w h:Int}{a:List Bool}{l:List Flow}{cs:List Cell}(o:dU w h a l cs):∀{k:Nat},k<=cs.length->∀j,jn (25*k) ((aj w h a l cs k).getD j ag)
 |0,_,j=>mP _ _
 |k+1,hk,j=>by
  have ih:=mY o (k:=k) (by omega)
  unfold aj
  split
  ·exact er (by omega) (ih j)
  ·have hb:=o.b.n1
   have:=o.n
   have hl:=tX (a:=a) (l:=l) (k:=k) o.b ⟨by omega,by omega⟩ (o.fl (by omega))
   exact er (by omega) (pP (kR (o.ce (by omega))) (TG w h a l k) ih j)
theorem i5{w h:Int}{a:List Bool}{l:List Flow}{cs:List Cell}(o:dU w h a l cs):∀{k:Nat},k<=cs.length->∀j,jn (25*k) ((ap w h a l cs k).getD j ag)
 |0,_,j=>mP _ _
 |k+1,hk,j=>by
  have ih:=i5 o (k:=k) (by omega)
  unfold ap
  split
  ·exact er (by omega) (ih j)
  ·split
   ·exact er (by omega) (uk ih (kQ (o.ce (by omega))) j)
   ·exact er (by omega) (ih j)
theorem C7{w h:Int}{a:List Bool}{c:Int}{f:Flow}(b:cZ w h a.length)(hc:0<=c/\c<w*h)(hf:bX f){H:Heap}{L:Nat}(hL:H.length=L){id:Nat}{own:Bool}{z:Nat}(hid:H[id]?=some (.cells own z (a.flatMap ak))) :
  am prog F.gb [fg w h id a.length,nK f,.int .i64 c] H [] (Is (.slice (some ⟨L,0,some 2⟩) (tgts w h a c f).length (tgts w h a c f).length) (H ++ [.cells true 1 ((tgts w h a c f++iw (tgL w h a c f)).flatMap bP)])):=by
 have:=xh b hc hf hL hid
 rw[oD b hc]at this;exact this
theorem xE{a p:List Int}{k:Nat}(h:k<a.length){off:Nat}(ho:off=k):((a++p).flatMap bP)[off]?=some (.int .i64 (a.getD k 0)):=by
 have:=pg (a:=a++p) (k:=k) (by rw[br];omega) ho
 rw[this,List.getD_eq_getElem?_getD,List.getElem?_append_left h,<- List.getD_eq_getElem?_getD]
theorem iV{α:Type}{l:List α}{d:α}{k:Nat}(h:k<l.length):l.take (k+1)=l.take k ++ [l.getD k d]:=by
 rw[List.take_add_one,List.getElem?_eq_getElem h,List.getD_eq_getElem?_getD,List.getElem?_eq_getElem h];rfl
theorem u9{ps:List Pl}{t:Int}{x:Ice}(h:x.ai=0):eL ps t x=ps:=by
 unfold eL
 rw[show fh (ps.getD (Int.toNat t) ag) x=ps.getD (Int.toNat t) ag from if_pos h]
 exact aQ
theorem ug{m:Nat}{p:Pl}(h:jn m p):0<=cm p/\cm p<=p.s:=by
 obtain ⟨⟨h1,h2⟩,_⟩:=h
 unfold cm;omega
set_option maxHeartbeats 2000000 in
theorem Cl{w h:Int}{a:List Bool}{l:List Flow}{cs:List Cell}(o:dU w h a l cs)(w' h' t:Int)(ht:0<=t/\t<=10000){H:Heap}{L:Nat}(hL:H.length=L){i0 i1 i2:Nat}{o0 o1 o2:Bool}{z0 z1 z2:Nat}(e0:H[i0]?=some (.cells o0 z0 (a.flatMap ak)))
  (e1:H[i1]?=some (.cells o1 z1 (l.flatMap aS))) (e2:H[i2]?=some (.cells o2 z2 (cs.flatMap cellC))) :
  am prog F.nQ [fg w h i0 a.length,.slice (some ⟨i1,0,some 2⟩) l.length l.length,.agg #[.int .i64 w',.int .i64 h',.int .i64 t,.slice (some ⟨i2,0,some 2⟩) cs.length cs.length]] H []
   (Is (.agg #[.int .i64 w',.int .i64 h',.int .i64 (t+1),.slice (some ⟨L,0,some 1⟩) (au w h a l cs).length (au w h a l cs).length]) (H ++ [.cells true 8 ((au w h a l cs).flatMap cellC)])):=by
 subst hL
 refine ue (fun i => .agg #[.int .i64 w',.int .i64 h',.int .i64 (t+1),.slice (some ⟨i,0,some 1⟩) (au w h a l cs).length (au w h a l cs).length]) (css:=[a.flatMap ak,l.flatMap aS,cs.flatMap cellC]) (new:=[.cells true 8 ((au w h a l cs).flatMap cellC)]) (Eq.mpr (CP w h a l w' h' t cs) ?_) ⟨bc 0 a,fk 0 l,bn 0 cs,trivial⟩
  ⟨⟨_,_,rfl,bn 0 _⟩,trivial⟩ rfl rfl (fun _=>rfl) (ids:=[i0,i1,i2]) ⟨⟨_,_,e0⟩,⟨_,_,e1⟩,⟨_,_,e2⟩,trivial⟩ rfl
 unfold AG
 have hb:=o.b
 have hn:=o.b.n1
 have hp:=o.b.p1
 have hla:=o.l1
 have hca:=o.n
 refine ⟨by omega,by omega,by omega,by omega,rfl,Nat.zero_le _,?_,fun _=>rfl,?_⟩
 ·repeat' first|exact AC rfl rfl (zV _ _ _ _).symm|exact trivial|exact rfl|exact ah _|refine aq ?_|refine aw ?_ ?_|exact aF|exact aJ _ _ _ (.inl rfl)|(exact bi (by omega))|refine aD ?_|refine av ?_|refine aC ?_ ?_ ?_|refine aB ?_ ?_ ?_|refine toMax ?_|refine toMin ?_|refine ⟨rfl,?_⟩|refine ⟨trivial,?_⟩|(refine aG (fun h =>?_) (fun h =>?_))|(refine aE (fun h =>?_) (fun h =>?_))|(refine aI (fun h =>?_) (fun h =>?_))|refine aA ?_|(refine ⟨az (by omega),?_⟩)|(refine And.intro (by omega) ?_)|apply And.intro|(exact iEq (by omega))|(exact az (by omega))
 intro x0 hx0
 refine aG (fun k0 =>?_) (fun k0 =>?_)
 ·refine ⟨⟨rfl,by omega,by rw[aU gI,List.length_replicate]⟩,⟨rfl,by omega,by rw[aU ec,List.length_replicate]⟩,by omega,by rw[je];omega,rfl,by omega,by rw[je];omega,rfl,
   ⟨rfl,by omega,by rw[aU gI,List.length_replicate]⟩,⟨rfl,by omega,by rw[aU ec,List.length_replicate]⟩,by omega,by rw[je];omega,rfl,by omega,by rw[je];omega,rfl,az (by omega),x0+1,by omega,by omega,rfl,?_⟩
  repeat' first|(exact AC rfl rfl (we (by omega) (by omega)))|exact gX _ _|exact gW _ _|((rw[wP,List.flatMap_append];rfl))|exact trivial|exact rfl|exact ah _|refine aq ?_|refine aw ?_ ?_|exact aF|exact aJ _ _ _ (.inl rfl)|(exact bi (by omega))|refine aD ?_|refine av ?_|refine aC ?_ ?_ ?_|refine aB ?_ ?_ ?_|refine toMax ?_|refine toMin ?_|refine ⟨rfl,?_⟩|refine ⟨trivial,?_⟩|(refine aG (fun h =>?_) (fun h =>?_))|(refine aE (fun h =>?_) (fun h =>?_))|(refine aI (fun h =>?_) (fun h =>?_))|refine aA ?_|(refine ⟨az (by omega),?_⟩)|(refine And.intro (by omega) ?_)|apply And.intro|(exact iEq (by omega))|(exact az (by omega))
 obtain rfl:x0=a.length:=by omega
 refine ⟨rfl,Nat.zero_le _,?_,fun _=>rfl,?_⟩
 ·repeat' first|exact gX _ _|exact gW _ _|exact trivial|exact rfl|exact ah _|refine aq ?_|refine aw ?_ ?_|exact aF|exact aJ _ _ _ (.inl rfl)|(exact bi (by omega))|refine aD ?_|refine av ?_|refine aC ?_ ?_ ?_|refine aB ?_ ?_ ?_|refine toMax ?_|refine toMin ?_|refine ⟨rfl,?_⟩|refine ⟨trivial,?_⟩|(refine aG (fun h =>?_) (fun h =>?_))|(refine aE (fun h =>?_) (fun h =>?_))|(refine aI (fun h =>?_) (fun h =>?_))|refine aA ?_|(refine ⟨az (by omega),?_⟩)|(refine And.intro (by omega) ?_)|apply And.intro|(exact iEq (by omega))|(exact az (by omega))
 intro x1 hx1
 have hMl:=eP w h a l cs x1
 have hAl:=gL w h a l cs x1
 have hMo:=i5 o hx1
 have hAo:=mY o hx1
 refine aG (fun k1 =>?_) (fun k1 =>?_)
 ·have hx:x1<cs.length:=by omega
  refine ⟨by omega,eC hx,by omega,fT (by omega) (by omega),fun ha =>?_,fun ha =>?_⟩
  ·have s1:ap w h a l cs (x1+1)=ap w h a l cs x1:=if_pos ha
   have s2:aj w h a l cs (x1+1)=aj w h a l cs x1:=if_pos ha
   refine ⟨az (by omega),x1+1,by omega,by omega,rfl,?_⟩
   rw[s1,s2]
   repeat' first|exact gX _ _|exact gW _ _|exact trivial|exact rfl|exact ah _|refine aq ?_|refine aw ?_ ?_|exact aF|exact aJ _ _ _ (.inl rfl)|(exact bi (by omega))|refine aD ?_|refine av ?_|refine aC ?_ ?_ ?_|refine aB ?_ ?_ ?_|refine toMax ?_|refine toMin ?_|refine ⟨rfl,?_⟩|refine ⟨trivial,?_⟩|(refine aG (fun h =>?_) (fun h =>?_))|(refine aE (fun h =>?_) (fun h =>?_))|(refine aI (fun h =>?_) (fun h =>?_))|refine aA ?_|(refine ⟨az (by omega),?_⟩)|(refine And.intro (by omega) ?_)|apply And.intro|(exact iEq (by omega))|(exact az (by omega))
  have hf:=o.fl hx
  have hc:=o.ce hx
  have hcl:=kQ hc
  have hch:=kR hc
  have hc0:0<=(x1:Int)/\(x1:Int)<w*h:=by omega
  have hna:¬ a.getD x1 false=true:=by rw[ha];exact Bool.false_ne_true
  have hTl:=tX (a:=a) (l:=l) (k:=x1) hb hc0 hf
  have hTb:∀{k},k<(TG w h a l x1).length->0<=(TG w h a l x1).getD k 0/\(TG w h a l x1).getD k 0<(a.length:Int):=fun hk=>lU hb (dz hk)
  have hmay:aj w h a l cs (x1+1)=aL (aj w h a l cs x1) (TG w h a l x1) (hiI (cs.getD x1 aa)):=if_neg hna
  have xN:ap w h a l cs (x1+1)=if (TG w h a l x1).length=1 then eL (ap w h a l cs x1) ((TG w h a l x1).getD 0 0) (loI (cs.getD x1 aa)) else ap w h a l cs x1:=if_neg hna
  rw[show tgts w h a (x1:Int) (l.getD x1 af)=TG w h a l x1 from rfl]
  refine ⟨by omega,kj (by omega),⟨rfl,trivial⟩,fun H' hl hd=>C7 hb hc0 hf hl hd.1,aI (fun q1=>⟨by omega,xE (by omega) rfl,hTb (by omega),jf (by have:=hTb (k:=0) (by omega);omega) (by have:=hTb (k:=0) (by omega);omega) (by omega),trivial,fun H' _ _=>Bh _ H',aI (fun q2 =>?_) (fun q2 =>?_)⟩) (fun q1 =>?_)⟩
  have hm:ap w h a l cs (x1+1)=ap w h a l cs x1:=by rw[xN,if_pos (by omega)];exact u9 q2
  rw[<- hm]
  rotate_left
  have ht0:=hTb (k:=0) (by omega)
  have hd:Int.toNat ((TG w h a l x1).getD 0 0)<(ap w h a l cs x1).length:=by omega
  have hP:=hMo (Int.toNat ((TG w h a l x1).getD 0 0))
  have hm:ap w h a l cs (x1+1)=(ap w h a l cs x1).set (Int.toNat ((TG w h a l x1).getD 0 0)) (fh ((ap w h a l cs x1).getD (Int.toNat ((TG w h a l x1).getD 0 0)) ag) (loI (cs.getD x1 aa))):=by rw[xN,if_pos (by omega)];rfl
  have a1:=um hd
  have a2:=ul hd
  generalize (ap w h a l cs x1).getD (Int.toNat ((TG w h a l x1).getD 0 0)) ag=p at *
  have hA:fh p (loI (cs.getD x1 aa))=⟨p.s+(cs.getD x1 aa).ai.lo,max p.t (cs.getD x1 aa).ac.lo,max p.r (cs.getD x1 aa).ad.lo⟩:=if_neg q2
  have s1:=wW hd (fh p (loI (cs.getD x1 aa)))
  have s2:=wV hd (fh p (loI (cs.getD x1 aa)))
  rw[<- hm,hA]at s1 s2
  obtain ⟨hp1,hp2,hp3⟩:=hP
  obtain ⟨xJ,xI,xH,Da⟩:=hcl
  unfold loI at xJ xI xH
  dsimp only at xJ xI xH
  refine ⟨a1,az (by omega),by rw[aU gI];omega,rfl,a2.1,toMax ⟨a2.2,toMax ⟨by rw[aU ec];omega,rfl,by rw[cx,aU ec];omega,rfl,?_⟩⟩⟩
  rw[s1,s2]
  rotate_left
  have hm:ap w h a l cs (x1+1)=ap w h a l cs x1:=by rw[xN,if_neg (by omega)]
  rw[<- hm]
  rotate_left
  all_goals
   refine ⟨rfl,Nat.zero_le _,?_,fun _=>rfl,?_⟩
   ·repeat' first|exact gX _ _|exact gW _ _|exact trivial|exact rfl|exact ah _|refine aq ?_|refine aw ?_ ?_|exact aF|exact aJ _ _ _ (.inl rfl)|(exact bi (by omega))|refine aD ?_|refine av ?_|refine aC ?_ ?_ ?_|refine aB ?_ ?_ ?_|refine toMax ?_|refine toMin ?_|refine ⟨rfl,?_⟩|refine ⟨trivial,?_⟩|(refine aG (fun h =>?_) (fun h =>?_))|(refine aE (fun h =>?_) (fun h =>?_))|(refine aI (fun h =>?_) (fun h =>?_))|refine aA ?_|(refine ⟨az (by omega),?_⟩)|(refine And.intro (by omega) ?_)|apply And.intro|(exact iEq (by omega))|(exact az (by omega))
   intro y hy
   have hPl:=lx ((TG w h a l x1).take y) (aj w h a l cs x1) (hiI (cs.getD x1 aa))
   have hPo:=pP hch ((TG w h a l x1).take y) hAo
   have hly:((TG w h a l x1).take y).length=y:=by rw[List.length_take];omega
   rw[hly]at hPo
   refine aG (fun k5 =>?_) (fun k5 =>?_)
   ·have hy':y<(TG w h a l x1).length:=by omega
    have ht0:=hTb hy'
    have hsn:aL (aj w h a l cs x1) ((TG w h a l x1).take (y+1)) (hiI (cs.getD x1 aa))=eL (aL (aj w h a l cs x1) ((TG w h a l x1).take y) (hiI (cs.getD x1 aa))) ((TG w h a l x1).getD y 0) (hiI (cs.getD x1 aa)):=by
     rw[iV (d:=0) hy',tV]
    refine ⟨by omega,xE hy' (by omega),ht0,jf (by omega) (by omega) (by omega),trivial,fun H' _ _=>vW _ H',aI (fun q6 =>?_) (fun q6 =>?_)⟩
    ·have h3:aL (aj w h a l cs x1) ((TG w h a l x1).take (y+1)) (hiI (cs.getD x1 aa))=aL (aj w h a l cs x1) ((TG w h a l x1).take y) (hiI (cs.getD x1 aa)):=by rw[hsn];exact u9 q6
     refine ⟨az (by omega),y+1,by omega,by omega,rfl,?_⟩
     rw[h3]
     repeat' first|exact gX _ _|exact gW _ _|exact trivial|exact rfl|exact ah _|refine aq ?_|refine aw ?_ ?_|exact aF|exact aJ _ _ _ (.inl rfl)|(exact bi (by omega))|refine aD ?_|refine av ?_|refine aC ?_ ?_ ?_|refine aB ?_ ?_ ?_|refine toMax ?_|refine toMin ?_|refine ⟨rfl,?_⟩|refine ⟨trivial,?_⟩|(refine aG (fun h =>?_) (fun h =>?_))|(refine aE (fun h =>?_) (fun h =>?_))|(refine aI (fun h =>?_) (fun h =>?_))|refine aA ?_|(refine ⟨az (by omega),?_⟩)|(refine And.intro (by omega) ?_)|apply And.intro|(exact iEq (by omega))|(exact az (by omega))
    ·generalize aL (aj w h a l cs x1) ((TG w h a l x1).take y) (hiI (cs.getD x1 aa))=P at *
     have hd:Int.toNat ((TG w h a l x1).getD y 0)<P.length:=by omega
     have hP:=hPo (Int.toNat ((TG w h a l x1).getD y 0))
     have a1:=um hd
     have a2:=ul hd
     have hsn:aL (aj w h a l cs x1) ((TG w h a l x1).take (y+1)) (hiI (cs.getD x1 aa))=P.set (Int.toNat ((TG w h a l x1).getD y 0)) (fh (P.getD (Int.toNat ((TG w h a l x1).getD y 0)) ag) (hiI (cs.getD x1 aa))):=hsn
     generalize P.getD (Int.toNat ((TG w h a l x1).getD y 0)) ag=p at *
     have hA:fh p (hiI (cs.getD x1 aa))=⟨p.s+(cs.getD x1 aa).ai.hi,max p.t (cs.getD x1 aa).ac.hi,max p.r (cs.getD x1 aa).ad.hi⟩:=if_neg q6
     have s1:=wW hd (fh p (hiI (cs.getD x1 aa)))
     have s2:=wV hd (fh p (hiI (cs.getD x1 aa)))
     rw[<- hsn,hA]at s1 s2
     obtain ⟨hp1,hp2,hp3⟩:=hP
     obtain ⟨xJ,xI,xH,Da⟩:=hch
     unfold hiI at xJ xI xH
     dsimp only at xJ xI xH
     refine ⟨a1,az (by omega),by rw[aU gI];omega,rfl,a2.1,toMax ⟨a2.2,toMax ⟨by rw[aU ec];omega,rfl,by rw[cx,aU ec];omega,rfl,az (by omega),y+1,by omega,by omega,rfl,?_⟩⟩⟩
     rw[s1,s2]
     repeat' first|exact gX _ _|exact gW _ _|exact trivial|exact rfl|exact ah _|refine aq ?_|refine aw ?_ ?_|exact aF|exact aJ _ _ _ (.inl rfl)|(exact bi (by omega))|refine aD ?_|refine av ?_|refine aC ?_ ?_ ?_|refine aB ?_ ?_ ?_|refine toMax ?_|refine toMin ?_|refine ⟨rfl,?_⟩|refine ⟨trivial,?_⟩|(refine aG (fun h =>?_) (fun h =>?_))|(refine aE (fun h =>?_) (fun h =>?_))|(refine aI (fun h =>?_) (fun h =>?_))|refine aA ?_|(refine ⟨az (by omega),?_⟩)|(refine And.intro (by omega) ?_)|apply And.intro|(exact iEq (by omega))|(exact az (by omega))
   ·obtain rfl:y=(TG w h a l x1).length:=by omega
    rw[List.take_length,<- hmay]
    refine ⟨az (by omega),x1+1,by omega,by omega,rfl,?_⟩
    repeat' first|exact gX _ _|exact gW _ _|exact trivial|exact rfl|exact ah _|refine aq ?_|refine aw ?_ ?_|exact aF|exact aJ _ _ _ (.inl rfl)|(exact bi (by omega))|refine aD ?_|refine av ?_|refine aC ?_ ?_ ?_|refine aB ?_ ?_ ?_|refine toMax ?_|refine toMin ?_|refine ⟨rfl,?_⟩|refine ⟨trivial,?_⟩|(refine aG (fun h =>?_) (fun h =>?_))|(refine aE (fun h =>?_) (fun h =>?_))|(refine aI (fun h =>?_) (fun h =>?_))|refine aA ?_|(refine ⟨az (by omega),?_⟩)|(refine And.intro (by omega) ?_)|apply And.intro|(exact iEq (by omega))|(exact az (by omega))
 obtain rfl:x1=cs.length:=by omega
 refine ⟨az (by omega),rfl,Nat.zero_le _,?_,fun _=>rfl,?_⟩
 ·repeat' first|exact trivial|exact rfl|exact ah _|refine aq ?_|refine aw ?_ ?_|exact aF|exact aJ _ _ _ (.inl rfl)|(exact bi (by omega))|refine aD ?_|refine av ?_|refine aC ?_ ?_ ?_|refine aB ?_ ?_ ?_|refine toMax ?_|refine toMin ?_|refine ⟨rfl,?_⟩|refine ⟨trivial,?_⟩|(refine aG (fun h =>?_) (fun h =>?_))|(refine aE (fun h =>?_) (fun h =>?_))|(refine aI (fun h =>?_) (fun h =>?_))|refine aA ?_|(refine ⟨az (by omega),?_⟩)|(refine And.intro (by omega) ?_)|apply And.intro|(exact iEq (by omega))|(exact az (by omega))
 intro x2 hx2
 refine aG (fun k2 =>?_) (fun k2 =>?_)
 ·have hd:x2<(ap w h a l cs cs.length).length:=by omega
  have hd2:x2<(aj w h a l cs cs.length).length:=by omega
  have a1:=um hd
  have a2:=ul hd
  have b1:=um hd2
  have b2:=ul hd2
  have hpm:=hMo x2
  have hpa:=hAo x2
  have hS:dg (cR w h a l cs) (x2+1)=dg (cR w h a l cs) x2 ++ [cR w h a l cs x2]:=gC _ _
  have hSx:cR w h a l cs x2=cellOf (bN ((ap w h a l cs cs.length).getD x2 ag)) (bN ((aj w h a l cs cs.length).getD x2 ag)):=rfl
  generalize (ap w h a l cs cs.length).getD x2 ag=p at *
  generalize (aj w h a l cs cs.length).getD x2 ag=p' at *
  have o1:=ug hpm
  have o2:=ug hpa
  obtain ⟨m1,m2,m3⟩:=hpm
  obtain ⟨n1,n2,n3⟩:=hpa
  have hov:∀p:Pl,(if (0:Int) > p.s-100 then (0:Int) else p.s-100)=cm p:=fun p=>by unfold cm;rw[uI]
  have d1:=eB (d:=10) o1.1 (by decide)
  have d2:=eB (d:=5) o1.1 (by decide)
  have d3:=eB (o:=cm p+25-1) (d:=25) (by omega) (by decide)
  have f1:=eB (d:=10) o2.1 (by decide)
  have f2:=eB (d:=5) o2.1 (by decide)
  have f3:=eB (o:=cm p'+25-1) (d:=25) (by omega) (by decide)
  have l1:(dg (cR w h a l cs) x2).length=x2:=cp _ _
  have c1:=f6 bJ (dg (cR w h a l cs) x2)
  have c2:=gZ (own:=true) bJ hS (by rw[hSx])
  rw[l1]at c1 c2
  rw[hov p,hov p']
  refine ⟨by omega,jf (by omega) (by omega) (by omega),a1,az (by omega),a1,az (by omega),a2.1,az (by omega),az (by omega),toMin ⟨a2.2,az (by omega),az (by omega),toMin ⟨az (by omega),az (by omega),az (by omega),toMin
   ⟨by omega,jf (by omega) (by omega) (by omega),b1,az (by omega),b1,az (by omega),b2.1,az (by omega),az (by omega),toMin ⟨b2.2,az (by omega),az (by omega),toMin ⟨az (by omega),az (by omega),az (by omega),toMin ?_⟩⟩⟩⟩⟩⟩
  repeat' first|(refine ⟨x2+1,by omega,by omega,rfl,?_⟩)|exact c2|exact bn _ _|exact c1|exact Nat.le_refl _|exact trivial|exact rfl|exact ah _|refine aq ?_|refine aw ?_ ?_|exact aF|exact aJ _ _ _ (.inl rfl)|(exact bi (by omega))|refine aD ?_|refine av ?_|refine aC ?_ ?_ ?_|refine aB ?_ ?_ ?_|refine toMax ?_|refine toMin ?_|refine ⟨rfl,?_⟩|refine ⟨trivial,?_⟩|(refine aG (fun h =>?_) (fun h =>?_))|(refine aE (fun h =>?_) (fun h =>?_))|(refine aI (fun h =>?_) (fun h =>?_))|refine aA ?_|(refine ⟨az (by omega),?_⟩)|(refine And.intro (by omega) ?_)|apply And.intro|(exact iEq (by omega))|(exact az (by omega))
 ·obtain rfl:x2=a.length:=by omega
  rw[show dg (cR w h a l cs) a.length=au w h a l cs from rfl,show (au w h a l cs).length=a.length from cp _ _]
  repeat' first|exact bn _ _|exact trivial|exact rfl|exact ah _|refine aq ?_|refine aw ?_ ?_|exact aF|exact aJ _ _ _ (.inl rfl)|(exact bi (by omega))|refine aD ?_|refine av ?_|refine aC ?_ ?_ ?_|refine aB ?_ ?_ ?_|refine toMax ?_|refine toMin ?_|refine ⟨rfl,?_⟩|refine ⟨trivial,?_⟩|(refine aG (fun h =>?_) (fun h =>?_))|(refine aE (fun h =>?_) (fun h =>?_))|(refine aI (fun h =>?_) (fun h =>?_))|refine aA ?_|(refine ⟨az (by omega),?_⟩)|(refine And.intro (by omega) ?_)|apply And.intro|(exact iEq (by omega))|(exact az (by omega))
abbrev chV(k i:Nat)(c:iT):Value:=.agg #[.int .i64 c.w,.int .i64 c.h,.int .i64 c.hour,.slice (some ⟨i,0,some k⟩) c.cells.length c.cells.length]
theorem jc{w h:Int}{a:List Bool}{w' h' t:Int}{cs:List Cell}(e:bl w h a w' h' t cs=0):ca w h w' h' t cs=0/\gA a cs=0:=by
 unfold bl cU at e
 split at e
 ·rename_i h0;exact ⟨h0,e⟩
 ·rename_i h0;exact absurd e h0
theorem s6{w h:Int}{a:List Bool}{l:List Flow}{w' h' t:Int}{cs:List Cell}(e1:bk w h a.length l=0)(e2:bl w h a w' h' t cs=0):dU w h a l cs/\w'=w/\h'=h/\(0<=t/\t<=10000):=by
 obtain ⟨f1,f2,f3⟩:=jS e1
 obtain ⟨s1,s2⟩:=jc e2
 obtain ⟨c1,c2,c3⟩:=iY s1
 obtain ⟨c4,c5,_,c6⟩:=lQ c1
 have hb:=sE f1
 have hn:=hb.n1
 subst c2 c3
 exact ⟨⟨hb,f2,nP f3,by omega,c6⟩,rfl,rfl,by obtain ⟨_,_,_,q⟩:=c4;exact q⟩
theorem wH{r:iT×Int}{e:Int}(h:r=(dB,e)):true=true/\wk (.tuple #[.agg #[.int .i64 0,.int .i64 0,.int .i64 0,.slice none 0 0],.int .i64 e]:Value) (rn (sg 3 []) 3 (.tuple #[chV 1 3 r.1,.int .i64 r.2]))/\(True/\True):=by
 subst h
 exact ⟨rfl,aD ⟨av ⟨ah _,ah _,ah _,aJ _ _ _ (.inl rfl),trivial⟩,ah _,trivial⟩,trivial,trivial⟩
theorem Cp(w h:Int)(a:List Bool)(l:List Flow)(hl:l.length<=4294967296)(w' h' t:Int)(cs:List Cell){H:Heap}{L:Nat}(hL:H.length=L){i0 i1 i2:Nat}{o0 o1 o2:Bool}{z0 z1 z2:Nat}(e0:H[i0]?=some (.cells o0 z0 (a.flatMap ak)))
  (e1:H[i1]?=some (.cells o1 z1 (l.flatMap aS))) (e2:H[i2]?=some (.cells o2 z2 (cs.flatMap cellC))) :
  am prog F.nS [fg w h i0 a.length,.slice (some ⟨i1,0,some 2⟩) l.length l.length,.agg #[.int .i64 w',.int .i64 h',.int .i64 t,.slice (some ⟨i2,0,some 2⟩) cs.length cs.length]] H []
   (Is (.tuple #[chV 1 L (b8 w h a l w' h' t cs).1,.int .i64 (b8 w h a l w' h' t cs).2]) (H ++ [.cells true 8 ((b8 w h a l w' h' t cs).1.cells.flatMap cellC)])):=by
 subst hL
 refine ue (fun i => .tuple #[chV 1 i (b8 w h a l w' h' t cs).1,.int .i64 (b8 w h a l w' h' t cs).2]) (css:=[a.flatMap ak,l.flatMap aS,cs.flatMap cellC]) (new:=[.cells true 8 ((b8 w h a l w' h' t cs).1.cells.flatMap cellC)]) (Eq.mpr (CY w h a l w' h' t cs) ?_) ⟨bc 0 a,fk 0 l,bn 0 cs,trivial⟩
  ⟨⟨_,_,rfl,bn 0 _⟩,trivial⟩ rfl rfl (fun _=>rfl) (ids:=[i0,i1,i2]) ⟨⟨_,_,e0⟩,⟨_,_,e1⟩,⟨_,_,e2⟩,trivial⟩ rfl
 unfold AQ
 refine ⟨⟨rfl,rfl,trivial⟩,fun H' _ hd=>rQ w h a l hl hd.1 hd.2.1,aE (fun h0=>wH (if_neg h0)) (fun h0 =>?_)⟩
 have hb:=sE (jS h0).1
 have E1:b8 w h a l w' h' t cs=if bl w h a w' h' t cs=0 then (if t=10000 then (dB,6) else (⟨w',h',t+1,au w h a l cs⟩,0)) else (dB,bl w h a w' h' t cs):=if_pos h0
 refine ⟨⟨rfl,rfl,trivial⟩,fun H' _ hd=>lM hb w' h' t cs hd.1 hd.2.1,aE (fun h1=>wH (by rw[E1,if_neg h1])) (fun h1 =>?_)⟩
 rw[if_pos h1]at E1
 obtain ⟨o,_,_,ht⟩:=s6 h0 h1
 refine aI (fun h2=>wH (by rw[E1,if_pos h2])) (fun h2=>⟨⟨rfl,rfl,rfl,trivial⟩,fun H' hl hd=>Cl o w' h' t ht hl hd.1 hd.2.1 hd.2.2.1,?_⟩)
 rw[if_neg h2]at E1
 rw[E1]
 repeat' first|exact bn _ _|exact trivial|exact rfl|exact ah _|refine aq ?_|refine aw ?_ ?_|exact aF|exact aJ _ _ _ (.inl rfl)|(exact bi (by omega))|refine aD ?_|refine av ?_|refine aC ?_ ?_ ?_|refine aB ?_ ?_ ?_|refine toMax ?_|refine toMin ?_|refine ⟨rfl,?_⟩|refine ⟨trivial,?_⟩|(refine aG (fun h =>?_) (fun h =>?_))|(refine aE (fun h =>?_) (fun h =>?_))|(refine aI (fun h =>?_) (fun h =>?_))|refine aA ?_|(refine ⟨az (by omega),?_⟩)|(refine And.intro (by omega) ?_)|apply And.intro|(exact iEq (by omega))|(exact az (by omega))
end
end Go.Proofs.YtkkgnalgmebfjaaGreat
namespace Go.K
noncomputable section
structure Tb where
 ks:Nat->Nat
 hs:List Value
 ms:List Value
def qZ(v:Value):Prop:=∀V:Nat->Option Nat,rn V 3 v=v
structure cv{α:Type}(F z n:Nat)(enc:α->List Value)(rows:Nat->List α)(T:Tb):Prop where
 hl:T.hs.length=n
 m0:T.ms[0]?=some (.int .i64 (z:Int))
 fx:∀v∈T.ms,qZ v
 hd:∀t,t<n->T.hs[t]?=some (dp (rows t).length F (T.ks t))
 rw:∀t,t<n->0<(rows t).length->T.ms[T.ks t+1]?=some (.agg ⟨(rows t).flatMap enc⟩)
 dj:∀t u,t<n->u<n->t≠u->0<(rows t).length->0<(rows u).length->T.ks t≠T.ks u
def Tb.new(F z n:Nat):Tb:=⟨fun _=>0,List.replicate n (dp 0 F 0),[.int .i64 (z:Int)]⟩
theorem cv.new{α:Type}(F z n:Nat)(enc:α->List Value):cv F z n enc (fun _=>[]) (Tb.new F z n):=by
 refine ⟨List.length_replicate,rfl,fun v hv V =>?_,fun t ht =>?_,fun t _ h=>absurd h (Nat.lt_irrefl 0),fun t u _ _ _ h=>absurd h (Nat.lt_irrefl 0)⟩
 ·cases List.mem_singleton.1 hv;rfl
 ·show (List.replicate n _)[t]?=_
  rw[List.getElem?_replicate,if_pos ht];rfl
theorem dN(r k:Nat)(ms:List Value):(aT r k ms).length=ms.length:=by
 cases r with
 |zero=>rfl
 |succ r=>exact List.length_set
theorem s7:qZ junk:=fun _=>rfl
theorem rB{r k:Nat}{ms:List Value}(h:∀v∈ms,qZ v):∀v∈aT r k ms,qZ v:=by
 cases r with
 |zero=>exact h
 |succ r =>
  intro v hv
  rcases List.mem_or_eq_of_mem_set hv with hv|rfl
  ·exact h v hv
  ·exact s7
theorem vL{cs:List Value}(h:∀(V:Nat->Option Nat),∀v∈cs,rn V 2 v=v):qZ (.agg ⟨cs⟩):=fun V=>by
 show Value.agg ⟨cs.map (rn V 2)⟩=_
 rw[List.map_congr_left (h V),List.map_id']
theorem cv.lt{α:Type}{F z n:Nat}{enc:α->List Value}{rows:Nat->List α}{T:Tb}(I:cv F z n enc rows T){t:Nat}(ht:t<n)(h:0<(rows t).length):T.ks t+1<T.ms.length:=(List.getElem?_eq_some_iff.1 (I.rw t ht h)).1
theorem cv.pos{α:Type}{F z n:Nat}{enc:α->List Value}{rows:Nat->List α}{T:Tb}(I:cv F z n enc rows T):0<T.ms.length:=(List.getElem?_eq_some_iff.1 I.m0).1
def Tb.put(F t r:Nat)(row:List Value)(q:Nat)(T:Tb):Tb:=⟨fun j=>if j=t then T.ms.length-1 else T.ks j,T.hs.set t (dp q F (T.ms.length-1)),cd q (aT r (T.ks t) T.ms) row⟩
theorem cv.put{α:Type}{F z n:Nat}{enc:α->List Value}{rows:Nat->List α}{T:Tb}(I:cv F z n enc rows T){t:Nat}(ht:t<n)(l:List α)(hf:∀(V:Nat->Option Nat) (x:α),∀v∈enc x,rn V 2 v=v){row:List Value}(e:row=l.flatMap enc) :
  cv F z n enc (fun j=>if j=t then l else rows j) (T.put F t (rows t).length row l.length):=by
 subst e
 have hp:=I.pos
 have hfx:=rB (r:=(rows t).length) (k:=T.ks t) I.fx
 have hll:=dN (rows t).length (T.ks t) T.ms
 have hle:∀j,j<n->j≠t->0<(rows j).length->(aT (rows t).length (T.ks t) T.ms)[T.ks j+1]?=T.ms[T.ks j+1]? := fun j hj hne h=>by
  cases hr:(rows t).length with
  |zero=>rfl
  |succ r =>
   show (T.ms.set (T.ks t+1) junk)[_]?=_
   rw[List.getElem?_set_ne fun e=>I.dj t j ht hj (Ne.symm hne) (by omega) h (by omega)]
 have h0:(aT (rows t).length (T.ks t) T.ms)[0]?=T.ms[0]? := by
  cases hr:(rows t).length with
  |zero=>rfl
  |succ r=>exact List.getElem?_set_ne (by omega)
 have hm:∀(i:Nat) (v:Value),(aT (rows t).length (T.ks t) T.ms)[i]?=some v->(cd l.length (aT (rows t).length (T.ks t) T.ms) (l.flatMap enc))[i]?=some v:=fun i v h=>by
  cases hq:l.length with
  |zero=>exact h
  |succ q =>
   show (_ ++ [_])[i]?=_
   rw[List.getElem?_append_left (List.getElem?_eq_some_iff.1 h).1];exact h
 refine ⟨?_,?_,?_,?_,?_,?_⟩
 ·show (T.hs.set _ _).length=n
  rw[List.length_set];exact I.hl
 ·exact hm _ _ (h0.trans I.m0)
 ·intro v hv
  have hv:v∈cd l.length (aT (rows t).length (T.ks t) T.ms) (l.flatMap enc):=hv
  cases hq:l.length with
  |zero=>rw[hq]at hv;exact hfx v hv
  |succ q =>
   rw[hq]at hv
   rcases List.mem_append.1 hv with hv|hv
   ·exact hfx v hv
   ·cases List.mem_singleton.1 hv
    refine vL fun V v hv =>?_
    obtain ⟨x,_,hx⟩:=List.mem_flatMap.1 hv
    exact hf V x v hx
 ·intro j hj
  show (T.hs.set t _)[j]?=some (dp (if j=t then l else rows j).length F (if j=t then _ else _))
  by_cases h:j=t
  ·subst h
   rw[if_pos rfl,if_pos rfl,List.getElem?_set_self (by rw[I.hl];exact ht)]
  ·rw[if_neg h,if_neg h,List.getElem?_set_ne (Ne.symm h)];exact I.hd j hj
 ·intro j hj hl
  show (cd _ _ _)[(if j=t then T.ms.length-1 else T.ks j)+1]?=some (.agg ⟨(if j=t then l else rows j).flatMap enc⟩)
  by_cases h:j=t
  ·subst h
   rw[if_pos rfl]at hl
   rw[if_pos rfl,if_pos rfl]
   cases hq:l.length with
   |zero=>omega
   |succ q =>
    show (_ ++ [_])[_]?=_
    rw[List.getElem?_append_right (by omega),show T.ms.length-1+1-(aT (rows j).length (T.ks j) T.ms).length=0 by omega];rfl
  ·rw[if_neg h]at hl
   rw[if_neg h,if_neg h]
   exact hm _ _ ((hle j hj h hl).trans (I.rw j hj hl))
 ·intro j u hj hu hne h1 h2
  show (if j=t then T.ms.length-1 else T.ks j)≠(if u=t then T.ms.length-1 else T.ks u)
  by_cases a:j=t
  ·have b:¬ u=t:=fun b=>hne (a.trans b.symm)
   rw[if_neg b]at h2
   rw[if_pos a,if_neg b]
   have:=I.lt hu h2;omega
  ·rw[if_neg a]at h1
   rw[if_neg a]
   by_cases b:u=t
   ·rw[if_pos b]
    have:=I.lt hj h1;omega
   ·rw[if_neg b]at h2
    rw[if_neg b];exact I.dj j u hj hu hne h1 h2
theorem wN{V:Nat->Option Nat}{F:Nat}(h:V F=some F)(n k:Nat):rn V 3 (dp n F k)=dp n F k:=by
 show (match V F with|some id'=>Value.iface (n+1) (.pointer (some ⟨id',0,some (k+3)⟩))|none=>_)=_
 rw[h]
theorem cv.wkH{α:Type}{F z n:Nat}{enc:α->List Value}{rows:Nat->List α}{T:Tb}(I:cv F z n enc rows T){V:Nat->Option Nat}(hF:V F=some F){zh:Nat}{hs:List Value}(e:hs=T.hs):wkO (.cells true zh hs) (rno V 3 (.cells true zh T.hs)):=by
 refine iU ?_
 subst e
 show _=ab.cells true zh (T.hs.map (rn V 3))
 rw[show T.hs.map (rn V 3)=T.hs from ?_]
 refine List.ext_getElem? fun i =>?_
 rw[List.getElem?_map]
 by_cases h:i<n
 ·rw[I.hd i h]
  exact congrArg some (wN hF _ _)
 ·rw[List.getElem?_eq_none (by rw[I.hl];omega)];rfl
theorem cv.wkM{α:Type}{F z n:Nat}{enc:α->List Value}{rows:Nat->List α}{T:Tb}(I:cv F z n enc rows T){V:Nat->Option Nat}{ms:List Value}(e:ms=T.ms):wkO (.fam 0 ms) (rno V 3 (.fam 0 T.ms)):=by
 refine iU ?_
 subst e
 show _=ab.fam 0 (T.ms.map (rn V 3))
 rw[List.map_congr_left fun v hv=>I.fx v hv V,List.map_id']
theorem vn(V:Nat->Option Nat)(F:Nat):wk (.slice none 0 0) (rn V 3 (dp 0 F 0)):=by
 intro Z x h
 cases h
 show VR Z (match V F with|some id'=>Value.iface 1 (.pointer (some ⟨id',0,some 3⟩))|none => .iface 1 (.pointer none)) _
 cases V F with
 |some _=>exact .dc
 |none=>exact .dc
theorem rF(v:Value):∀n,cC [v] n=List.replicate n v
 |0=>rfl
 |n+1=>by show v :: cC [v] n=_;rw[rF v n];rfl
theorem ua{a b:Value}(h:wk a b):∀n,wks (List.replicate n a) (List.replicate n b)
 |0=>trivial
 |n+1=>⟨h,ua h n⟩
theorem AS{V:Nat->Option Nat}{F z n zh:Nat}:wkO (.cells true zh (cC [.slice none 0 0] n)) (rno V 3 (.cells true zh (Tb.new F z n).hs)):=by
 show wkO _ (.cells true zh ((List.replicate n (dp 0 F 0)).map (rn V 3)))
 rw[List.map_replicate,rF]
 exact aq (ua (vn V F) n)
end
end Go.K
namespace Go.Proofs.YtkkgnalgmebfjaaGreat
noncomputable section
def aH(l:List Ice):Pl:=l.foldl fh ag
theorem gY(l:List Ice)(x:Ice):aH (l ++ [x])=fh (aH l) x:=by
 unfold aH;rw[List.foldl_append];rfl
theorem uP:∀(l:List Ice) {k:Nat} {p:Pl},jn k p->(∀x∈l,eO x)->jn (k+l.length) (l.foldl fh p)
 | [],k,p,hp,_=>hp
 |x :: l,k,p,hp,h=>by
  have:=uP l (rf hp (h x (List.mem_cons_self ..))) (fun y hy=>h y (List.mem_cons_of_mem _ hy))
  rw[List.length_cons,show k+(l.length+1)=k+1+l.length by omega];exact this
theorem zj(l:List Ice)(h:∀x∈l,eO x):jn l.length (aH l):=by
 have:=uP l (mP 1 0) h
 rw[Nat.zero_add]at this;exact this
theorem va{w h:Int}{a:List Bool}{l:List Flow}{k:Nat}:(TG w h a l k).Pairwise (· < ·):=mB _ _
theorem jj{x:Ice}:∀{ts:List Int} {ps:List Pl} {T:Nat},ts.Pairwise (· < ·)->(∀t∈ts,0<=t/\t<(ps.length:Int))->(aL ps ts x).getD T ag=if (T:Int)∈ts then fh (ps.getD T ag) x else ps.getD T ag
 | [],ps,T,_,_=>by rw[if_neg (by simp)];rfl
 |t :: ts,ps,T,hp,hb=>by
  obtain ⟨hp1,hp2⟩:=List.pairwise_cons.1 hp
  have ht:=hb t (List.mem_cons_self ..)
  have ih:=jj (x:=x) (ts:=ts) (ps:=eL ps t x) (T:=T) hp2 (fun s hs=>by rw[lz];exact hb s (List.mem_cons_of_mem _ hs))
  show (aL (eL ps t x) ts x).getD T ag=_
  rw[ih]
  have hg:(eL ps t x).getD T ag=if T=Int.toNat t then fh (ps.getD (Int.toNat t) ag) x else ps.getD T ag:=iM (by omega)
  rw[hg]
  by_cases h1:T=Int.toNat t
  ·have h2:¬ (T:Int)∈ts:=fun q=>by have:=hp1 _ q;omega
   rw[if_neg h2,if_pos h1,if_pos (by rw[List.mem_cons];left;omega),h1]
  ·rw[if_neg h1]
   have h3:(T:Int)∈t :: ts ↔ (T:Int)∈ts:=by
    rw[List.mem_cons]
    constructor
    ·rintro (q|q)
     ·omega
     ·exact q
    ·exact .inr
   simp only[h3]
def bI(w h:Int)(a:List Bool)(l:List Flow)(cs:List Cell)(t:Nat):Nat->List Ice
 |0=>[]
 |k+1=>if a.getD k false=false/\(t:Int)∈TG w h a l k then bI w h a l cs t k ++ [hiI (cs.getD k aa)] else bI w h a l cs t k
def aW(w h:Int)(a:List Bool)(l:List Flow)(cs:List Cell)(t:Nat):Nat->List Ice
 |0=>[]
 |k+1=>if a.getD k false=false/\(TG w h a l k).length=1/\(t:Int)∈TG w h a l k then aW w h a l cs t k ++ [loI (cs.getD k aa)] else aW w h a l cs t k
def bY(w h:Int)(a:List Bool)(l:List Flow)(cs:List Cell)(i x t:Nat):List Ice:=if (t:Int)∈(TG w h a l i).take x then bI w h a l cs t i ++ [hiI (cs.getD i aa)] else bI w h a l cs t i
def bA(w h:Int)(a:List Bool)(l:List Flow)(cs:List Cell)(i x t:Nat):List Ice:=if (TG w h a l i).length=1/\(t:Int)∈(TG w h a l i).take x then aW w h a l cs t i ++ [loI (cs.getD i aa)] else aW w h a l cs t i
section
variable {w h:Int} {a:List Bool} {l:List Flow} {cs:List Cell} {i x t k:Nat}
theorem A7:bY w h a l cs i 0 t=bI w h a l cs t i:=if_neg (by rw[List.take_zero];exact List.not_mem_nil)
theorem zr:bA w h a l cs i 0 t=aW w h a l cs t i:=if_neg (by rw[List.take_zero];exact fun q=>List.not_mem_nil q.2)
theorem xd(ha:a.getD i false=false):bY w h a l cs i (TG w h a l i).length t=bI w h a l cs t (i+1):=by
 unfold bY
 rw[List.take_length]
 show _=if _ then _ else _
 by_cases q:(t:Int)∈TG w h a l i
 ·rw[if_pos q,if_pos ⟨ha,q⟩]
 ·rw[if_neg q,if_neg fun e=>q e.2]
theorem vR(ha:a.getD i false=false):bA w h a l cs i (TG w h a l i).length t=aW w h a l cs t (i+1):=by
 unfold bA
 rw[List.take_length]
 show _=if _ then _ else _
 by_cases q:(TG w h a l i).length=1/\(t:Int)∈TG w h a l i
 ·rw[if_pos q,if_pos ⟨ha,q⟩]
 ·rw[if_neg q,if_neg fun e=>q e.2]
theorem oU(ha:a.getD i false=true):bI w h a l cs t (i+1)=bI w h a l cs t i:=if_neg fun e=>by rw[ha]at e;cases e.1
theorem mX(ha:a.getD i false=true):aW w h a l cs t (i+1)=aW w h a l cs t i:=if_neg fun e=>by rw[ha]at e;cases e.1
theorem mr(hx:x<(TG w h a l i).length){s:Int}:s∈(TG w h a l i).take (x+1) ↔ s∈(TG w h a l i).take x∨s=(TG w h a l i).getD x 0:=by
 rw[iV (d:=0) hx,List.mem_append,List.mem_singleton]
theorem yD(hx:x<(TG w h a l i).length):¬ (TG w h a l i).getD x 0∈(TG w h a l i).take x:=fun q=>by
 obtain ⟨k,hk,e⟩:=List.mem_take_iff_getElem.1 q
 have hp:=List.pairwise_iff_getElem.1 (va (w:=w) (h:=h) (a:=a) (l:=l) (k:=i)) k x (by omega) hx (by omega)
 rw[e,List.getD_eq_getElem?_getD,List.getElem?_eq_getElem hx]at hp
 exact absurd hp (Int.lt_irrefl _)
theorem zt(b:cZ w h a.length)(hx:x<(TG w h a l i).length):(fun j=>if j=Int.toNat ((TG w h a l i).getD x 0) then bY w h a l cs i x (Int.toNat ((TG w h a l i).getD x 0)) ++ [hiI (cs.getD i aa)] else bY w h a l cs i x j)=bY w h a l cs i (x+1):=by
 funext j
 have hm:(TG w h a l i).getD x 0∈TG w h a l i:=dz hx
 have hb:=lU b hm
 by_cases q:j=Int.toNat ((TG w h a l i).getD x 0)
 ·rw[if_pos q]
  have e:((j:Nat):Int)=(TG w h a l i).getD x 0:=by omega
  have e2:((Int.toNat ((TG w h a l i).getD x 0):Nat):Int)=(TG w h a l i).getD x 0:=by omega
  unfold bY
  rw[e,e2,if_neg (yD hx),if_pos ((mr hx).2 (.inr rfl)),q]
 ·rw[if_neg q]
  unfold bY
  have:(j:Int)∈(TG w h a l i).take x ↔ (j:Int)∈(TG w h a l i).take (x+1):=by
   rw[mr hx]
   exact ⟨.inl,fun e=>e.resolve_right fun e=>q (by omega)⟩
  simp only[this]
theorem w5(b:cZ w h a.length)(hx:x<(TG w h a l i).length)(h1:(TG w h a l i).length=1):(fun j=>if j=Int.toNat ((TG w h a l i).getD x 0) then bA w h a l cs i x (Int.toNat ((TG w h a l i).getD x 0)) ++ [loI (cs.getD i aa)] else bA w h a l cs i x j)=bA w h a l cs i (x+1):=by
 funext j
 have hm:(TG w h a l i).getD x 0∈TG w h a l i:=dz hx
 have hb:=lU b hm
 by_cases q:j=Int.toNat ((TG w h a l i).getD x 0)
 ·rw[if_pos q]
  have e:((j:Nat):Int)=(TG w h a l i).getD x 0:=by omega
  have e2:((Int.toNat ((TG w h a l i).getD x 0):Nat):Int)=(TG w h a l i).getD x 0:=by omega
  unfold bA
  rw[e,e2,if_neg fun z=>yD hx z.2,if_pos ⟨h1,(mr hx).2 (.inr rfl)⟩,q]
 ·rw[if_neg q]
  unfold bA
  have:(j:Int)∈(TG w h a l i).take x ↔ (j:Int)∈(TG w h a l i).take (x+1):=by
   rw[mr hx]
   exact ⟨.inl,fun e=>e.resolve_right fun e=>q (by omega)⟩
  simp only[this]
theorem wZ(h1:¬ (TG w h a l i).length=1)(x y:Nat):bA w h a l cs i x=bA w h a l cs i y:=by
 funext j
 unfold bA
 rw[if_neg fun z=>h1 z.1,if_neg fun z=>h1 z.1]
theorem m5:∀k,(bI w h a l cs t k).length<=k
 |0=>Nat.le_refl 0
 |k+1=>by
  have ih:=m5 k
  unfold bI
  split
  ·rw[br];exact Nat.succ_le_succ ih
  ·omega
theorem kY:∀k,(aW w h a l cs t k).length<=k
 |0=>Nat.le_refl 0
 |k+1=>by
  have ih:=kY k
  unfold aW
  split
  ·rw[br];exact Nat.succ_le_succ ih
  ·omega
theorem xa:(bY w h a l cs i x t).length<=i+1:=by
 have:=m5 (w:=w) (h:=h) (a:=a) (l:=l) (cs:=cs) (t:=t) i
 unfold bY
 split
 ·rw[br];exact Nat.succ_le_succ this
 ·omega
theorem vQ:(bA w h a l cs i x t).length<=i+1:=by
 have:=kY (w:=w) (h:=h) (a:=a) (l:=l) (cs:=cs) (t:=t) i
 unfold bA
 split
 ·rw[br];exact Nat.succ_le_succ this
 ·omega
theorem mZ(o:dU w h a l cs):∀{k},k<=cs.length->∀x∈bI w h a l cs t k,eO x
 |0,_,x,hm=>by cases hm
 |k+1,hk,x,hm=>by
  have ih:=mZ o (k:=k) (by omega)
  unfold bI at hm
  split at hm
  ·rcases List.mem_append.1 hm with hm|hm
   ·exact ih x hm
   ·rw[List.mem_singleton.1 hm];exact kR (o.ce (by omega))
  ·exact ih x hm
theorem lH(o:dU w h a l cs):∀{k},k<=cs.length->∀x∈aW w h a l cs t k,eO x
 |0,_,x,hm=>by cases hm
 |k+1,hk,x,hm=>by
  have ih:=lH o (k:=k) (by omega)
  unfold aW at hm
  split at hm
  ·rcases List.mem_append.1 hm with hm|hm
   ·exact ih x hm
   ·rw[List.mem_singleton.1 hm];exact kQ (o.ce (by omega))
  ·exact ih x hm
theorem ry(b:cZ w h a.length)(ht:t<a.length):∀k,aH (bI w h a l cs t k)=(aj w h a l cs k).getD t ag
 |0=>by
  show ag=(List.replicate a.length ag).getD t ag
  rw[List.getD_eq_getElem?_getD,List.getElem?_replicate,if_pos ht];rfl
 |k+1=>by
  have ih:=ry b ht k
  cases ha:a.getD k false with
  |true=>rw[oU ha,ih,show aj w h a l cs (k+1)=aj w h a l cs k from if_pos ha]
  |false =>
   rw[show aj w h a l cs (k+1)=aL (aj w h a l cs k) (TG w h a l k) (hiI (cs.getD k aa)) from if_neg (by rw[ha];exact Bool.false_ne_true),jj va (fun s hs=>by rw[gL];exact lU b hs),<- ih]
   by_cases q:(t:Int)∈TG w h a l k
   ·rw[if_pos q,show bI w h a l cs t (k+1)=_ from if_pos ⟨ha,q⟩,gY]
   ·rw[if_neg q,show bI w h a l cs t (k+1)=_ from if_neg fun e=>q e.2]
theorem oT(b:cZ w h a.length)(ht:t<a.length):∀k,aH (aW w h a l cs t k)=(ap w h a l cs k).getD t ag
 |0=>by
  show ag=(List.replicate a.length ag).getD t ag
  rw[List.getD_eq_getElem?_getD,List.getElem?_replicate,if_pos ht];rfl
 |k+1=>by
  have ih:=oT b ht k
  cases ha:a.getD k false with
  |true=>rw[mX ha,ih,show ap w h a l cs (k+1)=ap w h a l cs k from if_pos ha]
  |false =>
   by_cases h1:(TG w h a l k).length=1
   ·have e:TG w h a l k=[(TG w h a l k).getD 0 0]:=by
     match hT:TG w h a l k,h1 with
     | [z],_=>rfl
    rw[show ap w h a l cs (k+1)=eL (ap w h a l cs k) ((TG w h a l k).getD 0 0) (loI (cs.getD k aa)) from (if_neg (by rw[ha];exact Bool.false_ne_true)).trans (if_pos h1)]
    have hg:=jj (x:=loI (cs.getD k aa)) (ps:=ap w h a l cs k) (T:=t) (va (w:=w) (h:=h) (a:=a) (l:=l) (k:=k)) (fun s hs=>by rw[eP];exact lU b hs)
    rw[e]at hg
    rw[show eL (ap w h a l cs k) ((TG w h a l k).getD 0 0) (loI (cs.getD k aa))=aL (ap w h a l cs k) [(TG w h a l k).getD 0 0] (loI (cs.getD k aa)) from rfl,hg,<- e,<- ih]
    by_cases q:(t:Int)∈TG w h a l k
    ·rw[if_pos q,show aW w h a l cs t (k+1)=_ from if_pos ⟨ha,h1,q⟩,gY]
    ·rw[if_neg q,show aW w h a l cs t (k+1)=_ from if_neg fun e=>q e.2.2]
   ·rw[show ap w h a l cs (k+1)=ap w h a l cs k from (if_neg (by rw[ha];exact Bool.false_ne_true)).trans (if_neg h1),show aW w h a l cs t (k+1)=_ from if_neg fun e=>h1 e.2.1,ih]
end
abbrev BJ(w h t:Int)(id n:Nat):Value:=.agg #[.int .i64 w,.int .i64 h,.int .i64 t,.slice (some ⟨id,0,some 2⟩) n n]
def cE(cs:List Cell)(x:Nat):List Cell:=dg (fun k=>if k<x then cn else cs.getD k aa) cs.length
theorem qQ{α:Type}{d:α}{f:Nat->α}{n:Nat}{l:List α}(hl:l.length=n)(h:∀k,k<n->l.getD k d=f k):dg f n=l:=by
 refine List.ext_getElem (by rw[cp,hl]) fun k h1 h2 =>?_
 have:=h k (by omega)
 rw[List.getD_eq_getElem?_getD,List.getElem?_eq_getElem h2]at this
 simp only[dg,List.getElem_map,List.getElem_range]
 exact this.symm
theorem dJ(cs:List Cell)(x:Nat):(cE cs x).length=cs.length:=cp _ _
theorem vp(cs:List Cell):cE cs 0=cs:=qQ (d:=aa) rfl fun k _=>by rw[if_neg (Nat.not_lt_zero _)]
theorem vo{cs:List Cell}{x:Nat}(hx:x<cs.length):(cE cs x).set x cn=cE cs (x+1):=by
 refine Eq.symm (qQ (d:=aa) (by rw[List.length_set];exact dJ ..) fun k hk =>?_)
 rw[iM (by rw[dJ];exact hx)]
 by_cases q:k=x
 ·subst q;rw[if_pos rfl,if_pos (by omega)]
 ·rw[if_neg q,show (cE cs x).getD k aa=_ from j7 hk]
  by_cases q2:k<x
  ·rw[if_pos q2,if_pos (by omega)]
  ·rw[if_neg q2,if_neg (by omega)]
end
end Go.Proofs.YtkkgnalgmebfjaaGreat
