/- Ice: the reference's chart that is drawn of reports. No condition. -/
import Derived.Test.YthcjliffpebjaaaGreatGD4gxD4f
import Derived.Test.YthcjliffpebjaaaGreatGR3xT0
import Derived.Test.YthcjliffpebjaaaGreatGM4xD5g
import Derived.Test.YthcjliffpebjaaaGreatGS11gxR6g
import Derived.Test.YthcjliffpebjaaaGreatGB4xS6g
import Derived.Test.YthcjliffpebjaaaGreatGA4xS10
import Derived.Test.YthcjliffpebjaaaGreatRows
import Derived.JoinedCond
import Derived.Test.YthcjliffpebjaaaGreatGX0xS4a
import Derived.Test.YthcjliffpebjaaaGreatGS4gxP1a
open Go Go.K
set_option maxRecDepth 1000000
set_option maxHeartbeats 4000000
set_option linter.unusedVariables false
set_option linter.unusedSimpArgs false
namespace Go.Proofs.YthcjliffpebjaaaGreat
noncomputable section
attribute [local irreducible] vF
theorem BL(n:Nat):dX [.bool false] n=(List.replicate n false).flatMap aC:=by
 induction n with
 |zero=>rfl
 |succ n ih=>rw[List.replicate_succ,List.flatMap_cons,<- ih];rfl
theorem mG(n:Nat)(l:List Bool):(l.flatMap aC).all (aw n)=true:=by
 rw[List.all_flatMap,List.all_eq_true]
 intro r _;rfl
set_option maxHeartbeats 8000000 in
theorem LP(w h:Int)(l:List Report)(m:af)(now:Int){H:Heap}{L:Nat}(hL:H.length=L){id0:Nat}{own:Bool}{z:Nat}(hid:H[id0]?=some (.cells own z (l.flatMap ai))) :
  ak prog F.pn [nI w,nI h,slQ id0 2 l.length,ao m,nI now] H []
   (Is (.tuple #[chV 1 L (aP w h l m now).1,.slice (some ⟨L+1,0,some 1⟩) (aP w h l m now).2.1.length (aP w h l m now).2.1.length,nI (aP w h l m now).2.2]) (H ++ [.cells true 8 ((aP w h l m now).1.cells.flatMap cellC),.cells true 1 ((aP w h l m now).2.1.flatMap aA)])):=by
 subst hL
 refine Gl (fun i => .tuple #[chV 1 i (aP w h l m now).1,.slice (some ⟨i+1,0,some 1⟩) (aP w h l m now).2.1.length (aP w h l m now).2.1.length,nI (aP w h l m now).2.2]) (css:=[l.flatMap ai]) (new:=[.cells true 8 ((aP w h l m now).1.cells.flatMap cellC),.cells true 1 ((aP w h l m now).2.1.flatMap aA)]) (Eq.mpr (Nl w h l m now) ?_) ⟨b9 0 l,trivial⟩ ⟨⟨_,_,rfl,aT 0 _⟩,⟨_,_,rfl,fg 0 _⟩,trivial⟩ rfl rfl (fun j=>by simp[rn,bT]) (ids:=[id0]) ⟨⟨_,_,hid⟩,trivial⟩ rfl
 delta IE jf7 jf2 Fx jfy xV jfu jf1 jfw jf3 jfr Ms jfj jfg jfh jfz jf9 Mp Hq Mq Mr jfx jfm jft jf5 jfs jfa jfp jf8 jfn jfe jfd jf4 jfk jfo jfv jf0 J0 jfq jfi mc nI slQ pt slN fk ck nw eR wR krq kbq ixq lq apq c0q n0q
 refine ⟨fun h0 =>?_,fun h0=>⟨trivial,fun H' hl _ =>?_,by rw[show (aW w h now != 0)=true from bne_iff_ne.2 h0],gP (iQ (eD1 h0) h0)⟩⟩
 ·refine ⟨trivial,fun H' hl _ =>?_,cG rfl ⟨trivial,fun H' _ _=>fh m H',aZ (fun h1=>gP (iQ (eD2 h0 h1) h1)) (fun h1=>aq (fun q=>gP (iQ (eD3 h0 h1 Om) (by decide))) (fun q =>?_))⟩⟩
  ·have:=xB w h now hl
   rw[mo h0]at this
   exact this
  have OG:l.length<=400:=Om
  have e4:=eD4 (l:=l) h0 h1 Om
  have hm:=dc.1 h1
  obtain ⟨sw,sh,swh,st⟩:=d7.1 h0
  have hb:=xq sw sh
  have ha:dx m now=0:=(bi h1).trans (if_pos st)
  refine ⟨rfl,⟨Nat.zero_le _,rfl⟩,?_,fun _=>rfl,?_⟩
  ·repeat' first|exact trivial|exact rfl|exact ad _|refine ⟨rfl,?_⟩|refine ⟨trivial,?_⟩|apply And.intro
  rintro i ⟨hi,hu⟩
  refine aq (fun k =>?_) (fun k =>?_)
  ·have hlt:i<l.length:=Om
   have stop:∀{e:Int},jo w h l now i=e->¬ e=0->aP w h l m now=(bR,[],e):=fun {e} h1 h2=>iQ (e4.trans ((jl hu (by rw[h1];exact h2) hlt).trans h1)) h2
   refine ⟨Om,da hlt,trivial,fun H' _ _=>jI _ H',aZ (fun g1=>gP (stop (dE1 g1) g1)) (fun g1 =>?_)⟩
   refine ⟨rfl,⟨Nat.zero_le _,fun k hk=>absurd hk (Nat.not_lt_zero k)⟩,?_,fun _=>rfl,?_⟩
   ·repeat' first|exact trivial|exact rfl|exact ad _|refine ⟨rfl,?_⟩|refine ⟨trivial,?_⟩|apply And.intro
   rintro y ⟨hy,hno⟩
   have hal:=iT l (kxy (l.getD i ag)) y
   have hsu:=iv l y (kxy (l.getD i ag))
   refine aq (fun k2 =>?_) (fun k2 =>?_)
   ·refine ⟨Om,fp Om rfl,Om,fp Om rfl,cO (fun hq=>gP (stop (dE2 g1 ⟨y,Om,hq⟩) (by decide))) (fun hq=>⟨Om,fp Om rfl,Om,fp Om rfl,?_⟩)⟩
    have Cn:∀k,k<y+1->(l.getD k ag).id≠(l.getD i ag).id:=fun k hk=>by
     rcases Nat.lt_or_ge k y with h3|h3
     ·exact hno k h3
     ·obtain rfl:k=y:=Om
      exact hq
    refine cO (fun hx=>⟨Om,fp Om rfl,Om,fp Om rfl,cO (fun hy2 =>?_) (fun hy2 =>?_)⟩) (fun hx =>?_)
    ·rw[if_pos (by unfold kxy;rw[hx,hy2])]at hsu
     have hsl:(atN l (y+1) (kxy (l.getD i ag))).length=(atN l y (kxy (l.getD i ag))).length+1:=by rw[hsu,aI];rfl
     refine ⟨ay Om,ay Om,y+1,⟨Om,Cn⟩,Om,rfl,?_⟩
     rw[hsl]
     repeat' first|exact trivial|exact rfl|exact ad _|refine ⟨rfl,?_⟩|refine ⟨trivial,?_⟩|apply And.intro
    ·rw[if_neg (by unfold kxy;intro e;exact hy2 (congrArg Prod.snd e))]at hsu
     refine ⟨ay Om,y+1,⟨Om,Cn⟩,Om,rfl,?_⟩
     rw[hsu]
     repeat' first|exact trivial|exact rfl|exact ad _|refine ⟨rfl,?_⟩|refine ⟨trivial,?_⟩|apply And.intro
    ·rw[if_neg (by unfold kxy;intro e;exact hx (congrArg Prod.fst e))]at hsu
     refine ⟨ay Om,y+1,⟨Om,Cn⟩,Om,rfl,?_⟩
     rw[hsu]
     repeat' first|exact trivial|exact rfl|exact ad _|refine ⟨rfl,?_⟩|refine ⟨trivial,?_⟩|apply And.intro
   obtain rfl:y=i:=Om
   have g2:¬ ∃k,k<y/\(l.getD k ag).id=(l.getD y ag).id:=fun ⟨k,h,e⟩=>hno k h e
   refine ⟨Om,fp Om rfl,aq (fun g3=>gP (stop (dE3 g1 g2 (.inl g3)) (by decide))) (fun g3=>⟨Om,fp Om rfl,aq (fun g4=>gP (stop (dE3 g1 g2 (.inr g4)) (by decide))) (fun g4=>⟨Om,fp Om rfl,aq (fun g5=>gP (stop (dE4 g1 g2 Om g5) (by decide))) (fun g5=>aq (fun g6=>gP (stop (dE5 g1 g2 Om Om Om) (by decide))) (fun g6 =>?_))⟩)⟩)⟩
   have g7:jo w h l now y=0:=dE6 g1 g2 Om Om Om
   refine ⟨ay Om,y+1,⟨Om,fa hu g7⟩,Om,rfl,?_⟩
   repeat' first|exact trivial|exact rfl|exact ad _|refine ⟨rfl,?_⟩|refine ⟨trivial,?_⟩|apply And.intro
  obtain rfl:i=l.length:=Om
  have hr:=yg (e4.trans hu)
  have hz:=hC hu
  have h12:=A1 hu
  have hin:=ME hu
  have hwl:=d9 (Int.toNat (w*h))
  refine ⟨Om,rfl,Om,?_,fun _=>rfl,?_⟩
  ·rw[show ((0:Nat):Int)*w=0 from Int.zero_mul _,Ij,LF hin,BL]
   repeat' first|exact fw _ _|exact mG _ _|exact trivial|exact rfl|exact ad _|refine ⟨rfl,?_⟩|refine ⟨trivial,?_⟩|apply And.intro
  intro y hy
  refine aq (fun k3 =>?_) (fun k3 =>?_)
  ·have hyw:0<=(y:Int)*w:=Int.mul_nonneg Om Om
   refine ⟨rfl,Om,?_,fun _=>rfl,?_⟩
   ·rw[show (y:Int)*w+((0:Nat):Int)=(y:Int)*w from Int.add_zero _]
    repeat' first|exact fw _ _|exact mG _ _|exact trivial|exact rfl|exact ad _|refine ⟨rfl,?_⟩|refine ⟨trivial,?_⟩|apply And.intro
   intro x hx
   refine aq (fun k4 =>?_) (fun k4 =>?_)
   ·have hX:0<=(x:Int)/\(x:Int)<w:=Om
    have hY:0<=(y:Int)/\(y:Int)<h:=Om
    have hpb:=s0 hX hY
    have Pz:=h12 ((x:Int),(y:Int))
    have hop:=EU ha hu ((x:Int),(y:Int))
    have hto:=EC l m now ((x:Int),(y:Int))
    have htl:=lM l m now ((x:Int),(y:Int))
    have htr:(bh (cS l m now ((x:Int),(y:Int))) (cS l m now ((x:Int),(y:Int))).length).length=(cS l m now ((x:Int),(y:Int))).length:=bY _ _
    have hcs:=AU (l:=l) (m:=m) (now:=now) hX hY
    have hna:=fun k hk=>GN (l:=l) (m:=m) (now:=now) hX hY hin (k:=k) hk
    have hns:=fun k hk=>EX (w:=w) (l:=l) (m:=m) (now:=now) (p:=(y:Int)*w+x) (q:=((x:Int),(y:Int))) (k:=k) hk
    have hof:=fun k hk=>qD (l:=l) (m:=m) (now:=now) (q:=((x:Int),(y:Int))) (k:=k) hk
    have hng:=fun k hk=>s8 (l:=l) (i:=l.length) (q:=((x:Int),(y:Int))) (k:=k) hk
    have hag:=fun k hk=>lk (l:=l) (i:=l.length) (q:=((x:Int),(y:Int))) (k:=k) hk
    have hsu:=fun i=>Bw l i ((x:Int),(y:Int))
    have hss:=fun i=>iv l i ((x:Int),(y:Int))
    have hal:=fun i=>iT l ((x:Int),(y:Int)) i
    have hrl:=fun i=>jZ l i ((x:Int),(y:Int))
    have hnl:=fun i=>lX l i ((x:Int),(y:Int))
    have hr0:fo l 0 ((x:Int),(y:Int))=[]:=rfl
    have hn0:cg l 0 ((x:Int),(y:Int))=[]:=rfl
    have hxy:∀i,(l.getD i ag).x=x->(l.getD i ag).y=y->kxy (l.getD i ag)=((x:Int),(y:Int)):=fun i a b=>by unfold kxy;rw[a,b]
    have hnx:∀i,kxy (l.getD i ag)=((x:Int),(y:Int))->(l.getD i ag).x=x/\(l.getD i ag).y=y:=fun i e=>⟨congrArg Prod.fst e,congrArg Prod.snd e⟩
    have Ps:∀i,cg l (i+1) ((x:Int),(y:Int))=if kxy (l.getD i ag)=((x:Int),(y:Int)) then cg l i ((x:Int),(y:Int)) ++ [(i:Int)] else cg l i ((x:Int),(y:Int)):=fun i=>by
     unfold cg
     rw[hss]
     by_cases e:kxy (l.getD i ag)=((x:Int),(y:Int))
     ·rw[if_pos e,if_pos e,List.map_append];rfl
     ·rw[if_neg e,if_neg e]
    generalize hQ:((x:Int),(y:Int))=Q at *
    refine ⟨rfl,Nat.zero_le _,?_,fun _=>rfl,?_⟩
    ·rw[hr0,hn0]
     repeat' first|exact bx _ _ _ (.inl rfl)|exact trivial|exact rfl|exact ad _|refine ⟨rfl,?_⟩|refine ⟨trivial,?_⟩|apply And.intro
    intro i hi
    have Oq:=hrl i
    have PI:=hnl i
    have PJ:=hal i
    have Cm:=hsu i
    have uk:=Ps i
    refine aq (fun k5 =>?_) (fun k5 =>?_)
    ·refine ⟨Om,fp Om rfl,cO (fun hx2=>⟨Om,fp Om rfl,cO (fun hy2=>⟨Om,da Om,⟨Om,by decide,⟨Nat.le_refl _,by rw[aK cb];omega⟩,⟨Nat.le_refl _,Nat.le_refl 14⟩,rfl⟩,rfl,⟨Om,by decide,⟨Nat.le_refl _,by rw[aK bZ];omega⟩,⟨Nat.le_refl _,Nat.le_refl 1⟩,rfl⟩,rfl,ay Om,i+1,Om,Om,rfl,?_⟩) (fun hy2=>⟨ay Om,i+1,Om,Om,rfl,?_⟩)⟩) (fun hx2=>⟨ay Om,i+1,Om,Om,rfl,?_⟩)⟩
     ·rw[if_pos (hxy i hx2 hy2)]at Cm uk
      have b1:=gd (own:=true) cb Cm rfl
      have b2:=gd (own:=true) bZ uk rfl
      have c1:(fo l (i+1) Q).length=(fo l i Q).length+1:=by rw[Cm,aI];rfl
      have c2:(cg l (i+1) Q).length=(cg l i Q).length+1:=by rw[uk,aI];rfl
      repeat' first|exact CU c1 Om|exact CU c2 Om|exact b1|exact fg _ _|exact b9 _ _|exact trivial|exact rfl|exact ad _|refine ⟨rfl,?_⟩|refine And.intro Om ?_|apply And.intro
     ·rw[if_neg (fun e=>hy2 (hnx i e).2)]at Cm uk
      rw[Cm,uk]
      repeat' first|exact fg _ _|exact b9 _ _|exact trivial|exact rfl|exact ad _|refine ⟨rfl,?_⟩|apply And.intro
     ·rw[if_neg (fun e=>hx2 (hnx i e).1)]at Cm uk
      rw[Cm,uk]
      repeat' first|exact fg _ _|exact b9 _ _|exact trivial|exact rfl|exact ad _|refine ⟨rfl,?_⟩|apply And.intro
    obtain rfl:i=l.length:=Om
    refine ⟨⟨rfl,trivial⟩,fun H' _ hd =>?_,ay Om,ay Om,Om,by rw[aK bX,li];omega,rfl,rfl,Nat.zero_le _,?_,fun _=>rfl,?_⟩
    ·have:=wc (fo l l.length Q) m now hop hd.1
     rw[hto,Oq,<- htl]at this
     rw[Oq,<- htl]
     exact this.wkA ⟨dZ,ad _,ad _,trivial⟩
    ·rw[LE]
     repeat' first|exact (gE _ 1 _).symm|exact mG _ _|exact trivial|exact rfl|exact ad _|refine ⟨rfl,?_⟩|refine ⟨trivial,?_⟩|apply And.intro
    intro k hk
    refine aq (fun k6 =>?_) (fun k6 =>?_)
    ·have hlk:k<(atN l l.length Q).length:=Om
     have ho:=hof k hlk
     have hn:=hns k hlk
     obtain ⟨a1,_⟩:=hag k hlk
     have e1:(cg l l.length Q).getD k 0=(((atN l l.length Q).getD k 0:Nat):Int):=hng k hlk
     refine ⟨Om,wv Om Om,Om,lj Om,?_⟩
     rw[e1]
     generalize (atN l l.length Q).getD k 0=a at *
     have es:bQ ((va w l m now ((y:Int)*w+x) Q k).flatMap aC) (0+Int.toNat (a:Int)*1) [.bool (!((bh (cS l m now Q) (cS l m now Q).length).getD k false))]=(va w l m now ((y:Int)*w+x) Q (k+1)).flatMap aC:=by
      rw[Nat.zero_add,Int.toNat_natCast,<- hn,ho]
      exact kl fX _ a (by rw[pv];omega) _
     refine ⟨Om,by rw[aK fX,pv];omega,rfl,ay Om,k+1,Om,Om,rfl,?_⟩
     repeat' first|exact (gE _ 1 _).symm|(exact congrArg (fun q=>some (ah.cells true 1 q)) es)|exact mG _ _|exact trivial|exact rfl|exact ad _|refine ⟨rfl,?_⟩|refine ⟨trivial,?_⟩|apply And.intro
    ·have es:bQ ((eG w h l m now ((y:Int)*w+x)).flatMap cellC) (0+Int.toNat ((y:Int)*w+x)*8) (cellC (cellAt l m now Q))=(eG w h l m now ((y:Int)*w+x+1)).flatMap cellC:=by
      rw[Nat.zero_add,kl bX _ _ (by rw[li];omega),hcs]
     refine ⟨ay Om,x+1,Om,Om,rfl,?_⟩
     rw[show (y:Int)*w+((x+1:Nat):Int)=(y:Int)*w+x+1 by omega,hna k Om]
     repeat' first|(exact congrArg (fun q=>some (ah.cells true 8 q)) es)|exact fw _ _|exact mG _ _|exact trivial|exact rfl|exact ad _|refine ⟨rfl,?_⟩|refine ⟨trivial,?_⟩|apply And.intro
   ·have ex:(x:Int)=w:=Om
    refine ⟨ay Om,y+1,Om,Om,rfl,?_⟩
    rw[ex,show ((y+1:Nat):Int)*w=(y:Int)*w+w by rw[Int.natCast_add,Int.add_mul];show _+1*w=_;rw[Int.one_mul]]
    repeat' first|exact fw _ _|exact mG _ _|exact trivial|exact rfl|exact ad _|refine ⟨rfl,?_⟩|refine ⟨trivial,?_⟩|apply And.intro
  ·have ey:(y:Int)=h:=Om
   have hp:w*h<=(y:Int)*w:=by rw[ey,Int.mul_comm];exact Int.le_refl _
   have hend:=fun j hj=>GO (m:=m) (now:=now) hin hp (j:=j) hj
   have hsu:=zn l m now
   have hll:=oo l m now
   refine ⟨rfl,Nat.zero_le _,?_,fun _=>rfl,?_⟩
   ·repeat' first|exact bx _ _ _ (.inl rfl)|exact trivial|exact rfl|exact ad _|refine ⟨rfl,?_⟩|refine ⟨trivial,?_⟩|apply And.intro
   intro j hj
   have hsj:=hsu j
   have hlj:=hll j
   refine aq (fun k7 =>?_) (fun k7 =>?_)
   ·have hjl:j<l.length:=Om
    refine ⟨Om,Il (by rw[zg];omega) Om,?_⟩
    rw[hend j hjl]
    refine pZ (fun hb2 =>?_) (fun hb2 =>?_)
    ·rw[if_pos hb2]at hsj
     have b1:=gd (own:=true) bZ hsj rfl
     have c1:(ca l m now (j+1)).length=(ca l m now j).length+1:=by rw[hsj,aI];rfl
     refine ⟨⟨Om,by decide,⟨Nat.le_refl _,by rw[aK bZ];omega⟩,⟨Nat.le_refl _,Nat.le_refl 1⟩,rfl⟩,rfl,ay Om,j+1,Om,Om,rfl,?_⟩
     repeat' first|exact CU c1 Om|exact fg _ _|exact trivial|exact rfl|exact ad _|refine ⟨rfl,?_⟩|refine And.intro Om ?_|apply And.intro
    ·rw[if_neg (by rw[hb2];decide)]at hsj
     refine ⟨ay Om,j+1,Om,Om,rfl,?_⟩
     rw[hsj]
     repeat' first|exact fg _ _|exact trivial|exact rfl|exact ad _|refine ⟨rfl,?_⟩|apply And.intro
   ·obtain rfl:j=l.length:=Om
    rw[hr,Cv hp,d9]
    dsimp only
    rw[show (qa w h l m now).length=Int.toNat (w*h) from bY _ _]
    repeat' first|exact fw _ _|exact fg _ _|exact trivial|exact ad _|refine ⟨rfl,?_⟩|apply And.intro
 ·have:=xB w h now hl
  rw[mq h0]at this
  exact this
theorem FQ(w h t:Int):(bA w h t).1.cells.length<=2 ^ 30:=by
 by_cases e:aW w h t=0
 ·obtain ⟨sw,sh,swh,st⟩:=d7.1 e
  rw[mo e]
  show (bS (Int.toNat (w*h))).length<=_
  rw[d9];omega
 ·rw[mq e];exact Nat.zero_le _
theorem HX(w h:Int)(l:List Report)(m:af)(now:Int):(aP w h l m now).1.cells.length<=2 ^ 30/\(aP w h l m now).2.1.length<=l.length:=by
 by_cases e:iR w h l m now=0
 ·have hs:aW w h now=0:=by
   rcases Classical.em (aW w h now=0) with g|g
   ·exact g
   ·rw[eD1 g]at e;exact e
  obtain ⟨sw,sh,swh,st⟩:=d7.1 hs
  rw[yg e]
  refine ⟨?_,oo ..⟩
  show (qa w h l m now).length<=_
  rw[show (qa w h l m now).length=Int.toNat (w*h) from bY _ _];omega
 ·rw[iQ rfl e];exact ⟨Nat.zero_le _,Nat.zero_le _⟩
set_option maxHeartbeats 8000000 in
theorem iW(w h:Int)(l:List Report)(m:af)(now:Int){H:Heap}{id:Nat}{own:Bool}{z:Nat}(hid:H[id]?=some (.cells own z (l.flatMap ai))) :
  ak prog F.lF [nI w,nI h,slQ id 2 l.length,ao m,nI now] H [] (Is (.bool true) H):=by
 refine ix (Eq.mpr (Ga _ w h l m now) ?_) (cU (b9 0 l)) rfl [id] rfl (cT hid)
 delta wY jgh jg0 jg2 jg9 jg4 jg3 jg8 jgb jg5 jgc jg7 jgd jgf jg6 nI slQ pt fk nw eR wR krq ixq lq c0q c2q n0q n1q
 have hb:=FQ w h now
 obtain ⟨hd1,hd2⟩:=HX w h l m now
 refine aq (fun h9=>aq (fun h12=>⟨trivial,fun H' _ _=>fN H',rfl⟩) (fun h12=>aq (fun h30=>⟨trivial,fun H' _ _=>fN H',rfl⟩) (fun h30 =>?_))) (fun h9=>aq (fun h30=>⟨trivial,fun H' _ _=>fN H',rfl⟩) (fun h30 =>?_))
 all_goals
  have hl:l.length<=450:=Om
  refine ⟨rfl,Nat.zero_le _,?_,fun _=>rfl,?_⟩
  ·repeat' first|exact trivial|exact rfl|exact ad _|refine ⟨rfl,?_⟩|refine ⟨trivial,?_⟩|apply And.intro
  intro i hi
  refine aq (fun k1 =>?_) (fun k1 =>?_)
  ·refine ⟨rfl,Nat.zero_le _,?_,fun _=>rfl,?_⟩
   ·repeat' first|exact trivial|exact rfl|exact ad _|refine ⟨rfl,?_⟩|refine ⟨trivial,?_⟩|apply And.intro
   intro y hy
   have hal:=iT l (kxy (l.getD i ag)) y
   have hsu:=iv l y (kxy (l.getD i ag))
   refine aq (fun k2 =>?_) (fun k2 =>?_)
   ·refine ⟨Om,fp Om rfl,Om,fp Om rfl,cO (fun hx=>⟨Om,fp Om rfl,Om,fp Om rfl,cO (fun hy2 =>?_) (fun hy2 =>?_)⟩) (fun hx =>?_)⟩
    ·rw[if_pos (by unfold kxy;rw[hx,hy2])]at hsu
     have hsl:(atN l (y+1) (kxy (l.getD i ag))).length=(atN l y (kxy (l.getD i ag))).length+1:=by rw[hsu,aI];rfl
     refine ⟨ay Om,ay Om,y+1,Om,Om,rfl,?_⟩
     rw[hsl]
     repeat' first|exact trivial|exact rfl|exact ad _|refine ⟨rfl,?_⟩|refine ⟨trivial,?_⟩|apply And.intro
    ·rw[if_neg (by unfold kxy;intro e;exact hy2 (congrArg Prod.snd e))]at hsu
     refine ⟨ay Om,y+1,Om,Om,rfl,?_⟩
     rw[hsu]
     repeat' first|exact trivial|exact rfl|exact ad _|refine ⟨rfl,?_⟩|refine ⟨trivial,?_⟩|apply And.intro
    ·rw[if_neg (by unfold kxy;intro e;exact hx (congrArg Prod.fst e))]at hsu
     refine ⟨ay Om,y+1,Om,Om,rfl,?_⟩
     rw[hsu]
     repeat' first|exact trivial|exact rfl|exact ad _|refine ⟨rfl,?_⟩|refine ⟨trivial,?_⟩|apply And.intro
   ·refine aq (fun k3=>aq (fun k4=>⟨trivial,fun H' _ _=>fN H',rfl⟩) (fun k4 =>?_)) (fun k3 =>?_)
    ·refine ⟨ay Om,i+1,Om,Om,rfl,?_⟩
     repeat' first|exact trivial|exact rfl|exact ad _|refine ⟨rfl,?_⟩|refine ⟨trivial,?_⟩|apply And.intro
    ·refine ⟨ay Om,i+1,Om,Om,rfl,?_⟩
     repeat' first|exact trivial|exact rfl|exact ad _|refine ⟨rfl,?_⟩|refine ⟨trivial,?_⟩|apply And.intro
  refine ⟨trivial,fun H' hl _=>B6 w h now hl,trivial,fun H' hl _=>xB w h now hl,⟨rfl,rfl,trivial⟩,fun H' _ hd=>(zH _ _ _ _ hb hd.1 hd.2.1).wkA ⟨aQR,aQR,trivial⟩,cG (by simp only[bne_self_eq_false]) ⟨⟨rfl,trivial⟩,fun H' hl hd=>tT l Om hl hd.1,⟨rfl,trivial⟩,fun H' hl hd=>(N5 w h l m now hl hd.1).wkA ⟨ad _,ad _,dZ,ad _,ad _,trivial⟩,⟨rfl,trivial⟩,fun H' hl hd=>LP w h l m now hl hd.1,⟨rfl,rfl,trivial⟩,fun H' _ hd=>(zH _ _ _ _ hd1 hd.1 hd.2.1).wkA ⟨aQR,aQR,trivial⟩,⟨rfl,rfl,trivial⟩,fun H' _ hd=>(tS _ Om hd.1 hd.2.1).wkA ⟨dZ,dZ,trivial⟩,kj (by simp only[beq_self_eq_true]) ⟨⟨rfl,rfl,trivial⟩,fun H' _ hd=>(K5 l Om hd.1 hd.2.1).wkA ⟨dZ,ad _,trivial⟩,trivial,fun H' _ _=>fN H',rfl⟩⟩⟩
theorem aNR{a b c:Int}{id n:Nat}:wk (.agg #[nI a,nI b,nI c,slN id n]) (.agg #[nI a,nI b,nI c,slQ id 2 n]) :=
 iL ⟨ad _,ad _,ad _,sF,trivial⟩
theorem tdB(x:Nat){s:Int}(hs:0<s):0<=Int.tdiv (x:Int) s/\Int.tdiv (x:Int) s<=x:=by
 rw[Int.tdiv_eq_ediv_of_nonneg Om]
 exact ⟨Int.ediv_nonneg Om Om,Int.ediv_le_self s Om⟩
theorem tmB{x:Int}(hx:0<=x){s:Int}(hs:0<s):0<=Int.tmod x s/\Int.tmod x s<s:=by
 rw[Int.tmod_eq_emod_of_nonneg hx]
 exact ⟨Int.emod_nonneg _ Om,Int.emod_lt_of_pos _ hs⟩
theorem fdB(x k:Nat):0<=Int.fdiv (x:Int) (2 ^ k):=by
 have h:(0:Int)<=2 ^ k:=Int.pow_nonneg Om
 rw[Int.fdiv_eq_ediv_of_nonneg _ h]
 exact Int.ediv_nonneg Om h
theorem Lt{b:List Int}{v:Int}{n L e:Nat}{K:Prop}(h:K):smQ b v n L e K :=
  ⟨⟨rfl,trivial⟩,fun H' _ hd=>(tU (smL b 0) ⟨⟨35,60⟩,⟨0,20⟩,⟨0,0⟩,⟨0,0⟩⟩ (smI b 8) (smM b) _ (smX b) hd.1).wkA ⟨ad _,ad _,ad _,ad _,ad _,sF,trivial⟩,
   ⟨rfl,trivial⟩,fun H' _ hd=>(l7 (smR b) (smM b) _ hd.1).wkA ⟨sF,ad _,ad _,trivial⟩,
   ⟨rfl,trivial⟩,fun H' _ hd=>(iW 3 4 (smR b) (smM b) _ hd.1).wkA ⟨ad _,ad _,sF,ad _,ad _,trivial⟩,
   ⟨rfl,trivial⟩,fun H' _ hd=>(iW v 2 (smR b) (smM b) _ hd.1).wkA ⟨ad _,ad _,sF,ad _,ad _,trivial⟩,
   ⟨rfl,rfl,rfl,trivial⟩,fun H' _ hd=>(Dq _ _ _ (u5 b) _ _ _ (u0 b) [smI b 8,smI b 8] (smM b) _ hd.1 hd.2.1 hd.2.2.1).wkA ⟨aNR,aNR,sF,ad _,ad _,trivial⟩,
   ⟨rfl,rfl,rfl,trivial⟩,fun H' _ hd=>(Dq _ _ _ (u0 b) _ _ _ (u5 b) [smI b 8] (smM b) _ hd.1 hd.2.1 hd.2.2.1).wkA ⟨aNR,aNR,sF,ad _,ad _,trivial⟩,h⟩
theorem C1{v:Int}{K:Prop}(h:K):∀k n L,Lu v k n L K
 |0,_,_=>h
 |k+1,_,_=>Lt (C1 h k _ _)
set_option maxHeartbeats 8000000 in
theorem Fg(H:Heap):ak prog F.lE [] H [] (Is (.bool true) H):=by
 refine cQ 40 (fun _=>rfl) rfl (Eq.mpr (F9 _) ?_) H
 delta wX jj0 jj3 jja jjg jj5 jje jjm jjd jjf jji jj7 jj6 jjj jjb jjh jjc jjk jj4 jjl jj9 jj8 nI slQ pt slN fk nw bw eR kbq ixq lq apq c0q c1q
 refine ⟨rfl,Nat.zero_le _,?_,fun _=>rfl,?_⟩
 ·repeat' first|exact trivial|refine ⟨rfl,?_⟩|refine ⟨trivial,?_⟩|apply And.intro
 intro x hx
 refine aq (fun k =>?_) (fun k =>?_)
 ·refine ⟨Om,wv (show x<24 by omega) Om,_,rfl,C1 ⟨ay Om,x+1,Om,Om,rfl,?_⟩ _ _ _⟩
  repeat' first|exact trivial|refine ⟨rfl,?_⟩|refine ⟨trivial,?_⟩|apply And.intro
 refine ⟨rfl,Nat.zero_le _,?_,fun _=>rfl,?_⟩
 ·repeat' first|exact trivial|exact rfl|refine ⟨rfl,?_⟩|refine ⟨trivial,?_⟩|apply And.intro
 intro n hn
 refine aq (fun k =>?_) (fun k =>?_)
 ·have d3:=tdB n (s:=3) (by decide)
  have d4:=tdB n (s:=4) (by decide)
  have d16:=tdB n (s:=16) (by decide)
  have d64:=tdB n (s:=64) (by decide)
  have m3:=tmB (x:=n) Om (s:=3) (by decide)
  refine ⟨ay Om,ay Om,ay Om,ay Om,ay Om,⟨rfl,trivial⟩,fun H' _ hd=>(tU ⟨⟨_,_⟩,⟨_,_⟩,⟨_,_⟩,⟨_,_⟩⟩ ⟨⟨_,_⟩,⟨_,_⟩,⟨_,_⟩,⟨_,_⟩⟩ ⟨_,_,_,_⟩ ⟨⟨_,_,_,_⟩,⟨_,_,_,_⟩⟩ _ [⟨_,_,_,_⟩,⟨_,_,_,_⟩,⟨_,_,_,_⟩] hd.1).wkA ⟨ad _,ad _,ad _,ad _,ad _,sF,trivial⟩,rfl,Nat.zero_le _,?_,fun _=>rfl,?_⟩
  ·repeat' first|exact trivial|exact bx _ _ _ (.inl rfl)|refine ⟨rfl,?_⟩|refine ⟨trivial,?_⟩|apply And.intro
  intro i hi
  have hl:(aE (smA n) i).length=i:=bY _ _
  have hsu:=ew (smA n) i
  refine aq (fun k =>?_) (fun k =>?_)
  ·have b1:=gd (own:=true) cb hsu rfl
   have i3:=tmB (x:=i) Om (s:=3) (by decide)
   have i2:=tmB (x:=i) Om (s:=2) (by decide)
   have f4:=tmB (fdB n (min (Int.toNat (i:Int)) (IntKind.bits .i64))) (s:=4) (by decide)
   refine ⟨ay Om,ay Om,Om,_,rfl,Om,_,rfl,ay Om,_,rfl,ay Om,⟨Om,by decide,⟨Nat.le_refl _,by rw[aK cb];omega⟩,⟨Nat.le_refl _,Nat.le_refl 14⟩,rfl⟩,rfl,ay Om,i+1,Om,Om,rfl,?_⟩
   repeat' first|exact oS hsu|exact b1|exact b9 _ _|exact trivial|refine ⟨rfl,?_⟩|refine ⟨trivial,?_⟩|apply And.intro
  ·refine ⟨ay Om,ay Om,⟨rfl,trivial⟩,fun H' _ hd=>(l7 (aE (smA n) i) ⟨⟨_,_,_,_⟩,⟨_,_,_,_⟩⟩ _ hd.1).wkA ⟨dZ,ad _,ad _,trivial⟩,⟨rfl,trivial⟩,fun H' _ hd=>(iW _ _ (aE (smA n) i) ⟨⟨_,_,_,_⟩,⟨_,_,_,_⟩⟩ _ hd.1).wkA ⟨ad _,ad _,dZ,ad _,ad _,trivial⟩,ay Om,n+1,Om,Om,rfl,?_⟩
   repeat' first|exact trivial|exact rfl|refine ⟨rfl,?_⟩|refine ⟨trivial,?_⟩|apply And.intro
 refine ⟨rfl,Nat.zero_le _,?_,fun _=>rfl,?_⟩
 ·repeat' first|exact trivial|refine ⟨rfl,?_⟩|refine ⟨trivial,?_⟩|apply And.intro
 intro x2 hx2
 refine aq (fun k =>?_) (fun k =>?_)
 ·have hv:List.getD ([0,1,9,13,14]:List Int) x2 0<=14:=by
   match x2,k with
   |0,_|1,_|2,_|3,_|4,_=>decide
   |_+5,k=>omega
  refine ⟨Om,wv (a:=[0,1,9,13,14]) (show x2<5 by omega) Om,rfl,Nat.zero_le _,?_,fun _=>rfl,?_⟩
  ·repeat' first|exact trivial|exact bx _ _ _ (.inl rfl)|refine ⟨rfl,?_⟩|refine ⟨trivial,?_⟩|apply And.intro
  intro i hi
  have hl:(aE smB i).length=i:=bY _ _
  have hsu:=ew smB i
  refine aq (fun k =>?_) (fun k =>?_)
  ·have b1:=gd (own:=true) cb hsu rfl
   have i3:=tmB (x:=i) Om (s:=3) (by decide)
   have i2:=tmB (x:=i) Om (s:=2) (by decide)
   refine ⟨ay Om,ay Om,ay Om,ay Om,_,rfl,ay Om,⟨Om,by decide,⟨Nat.le_refl _,by rw[aK cb];omega⟩,⟨Nat.le_refl _,Nat.le_refl 14⟩,rfl⟩,rfl,ay Om,i+1,Om,Om,rfl,?_⟩
   repeat' first|exact oS hsu|exact b1|exact b9 _ _|exact trivial|refine ⟨rfl,?_⟩|refine ⟨trivial,?_⟩|apply And.intro
  ·refine ⟨⟨rfl,trivial⟩,fun H' _ hd=>(l7 (aE smB i) ⟨⟨_,_,_,_⟩,⟨_,_,_,_⟩⟩ _ hd.1).wkA ⟨dZ,ad _,ad _,trivial⟩,⟨rfl,trivial⟩,fun H' _ hd=>(iW _ _ (aE smB i) ⟨⟨_,_,_,_⟩,⟨_,_,_,_⟩⟩ _ hd.1).wkA ⟨ad _,ad _,dZ,ad _,ad _,trivial⟩,ay Om,x2+1,Om,Om,rfl,?_⟩
   repeat' first|exact trivial|refine ⟨rfl,?_⟩|refine ⟨trivial,?_⟩|apply And.intro
 refine ⟨rfl,Nat.zero_le _,?_,fun _=>rfl,?_⟩
 ·repeat' first|exact trivial|refine ⟨rfl,?_⟩|refine ⟨trivial,?_⟩|apply And.intro
 intro x3 hx3
 refine aq (fun k =>?_) (fun k =>?_)
 ·have hv:List.getD ([60,401]:List Int) x3 0<=401:=by
   match x3,k with
   |0,_|1,_=>decide
   |_+2,k=>omega
  refine ⟨Om,wv (a:=[60,401]) (show x3<2 by omega) Om,rfl,Nat.zero_le _,?_,fun _=>rfl,?_⟩
  ·repeat' first|exact trivial|exact bx _ _ _ (.inl rfl)|refine ⟨rfl,?_⟩|refine ⟨trivial,?_⟩|apply And.intro
  intro i hi
  have hl:(aE smC i).length=i:=bY _ _
  have hsu:=ew smC i
  refine aq (fun k =>?_) (fun k =>?_)
  ·have d16:=tdB i (s:=16) (by decide)
   have i5:=tmB (x:=i) Om (s:=5) (by decide)
   have b1:=gd (own:=true) (f:=ai) cb (L:=aE smC i) (x:=fK i) (c:=ai (fK i)) rfl rfl
   have hl2:(aE smC i ++ [fK i]).length=i+1:=by rw[aI,hl];rfl
   have hg:(aE smC i ++ [fK i]).getD i ag=fK i:=by
    rw[List.getD_eq_getElem?_getD,List.getElem?_append_right Om,hl,Nat.sub_self];rfl
   have r1:((aE smC i ++ [fK i]).flatMap ai)[0+Int.toNat (i:Int)*14+6+4+1]?=some (nI ((aE smC i ++ [fK i]).getD i ag).cell.aa.hi):=fp (c:=11) Om rfl
   have r2:((aE smC i ++ [fK i]).flatMap ai)[0+Int.toNat (i:Int)*14+6+4+0]?=some (nI ((aE smC i ++ [fK i]).getD i ag).cell.aa.lo):=fp (c:=10) Om rfl
   have es:bQ ((aE smC i ++ [fK i]).flatMap ai) (0+Int.toNat (i:Int)*14+6+4+1) [nI (3+Int.tmod i 5)]=(aE smC (i+1)).flatMap ai:=by
    have h1:(aE smC i ++ [fK i]).flatMap ai=((aE smC i).flatMap ai++List.take 11 (ai (fK i)))++([nI 3] ++ [nI 0,nI 0]):=by
     rw[List.flatMap_append,List.append_assoc];rfl
    have h2:(aE smC i ++ [smC i]).flatMap ai=((aE smC i).flatMap ai++List.take 11 (ai (fK i)))++([nI (3+Int.tmod i 5)] ++ [nI 0,nI 0]):=by
     rw[List.flatMap_append,List.append_assoc];rfl
    have hq:0+Int.toNat (i:Int)*14+6+4+1=((aE smC i).flatMap ai++List.take 11 (ai (fK i))).length:=by
     rw[aI,aK cb,hl,Int.toNat_natCast]
     show _=i*14+11
     omega
    rw[hsu,h1,h2,hq]
    exact sS _ _ _ _ rfl
   have fl:((aE smC i ++ [fK i]).flatMap ai).length=(i+1)*14:=by rw[aK cb,hl2]
   refine ⟨ay Om,⟨Om,by decide,⟨Nat.le_refl _,by rw[aK cb];omega⟩,⟨Nat.le_refl _,Nat.le_refl 14⟩,rfl⟩,rfl,?_,Om,r1,Om,r2,?_⟩
   ·exact b1
   rw[hg]
   refine ⟨ay (show _/\_ by show _<=3+Int.tmod (i:Int) 5/\3+Int.tmod (i:Int) 5<=_;omega),3+Int.tmod (i:Int) 5,rfl,by omega,by rw[fl,Int.toNat_natCast];omega,rfl,ay Om,i+1,by omega,by omega,rfl,?_⟩
   rw[es]
   repeat' first|exact oS hsu|exact b9 _ _|exact trivial|refine ⟨rfl,?_⟩|refine ⟨trivial,?_⟩|apply And.intro
  ·refine ⟨⟨rfl,trivial⟩,fun H' _ hd=>(iW _ _ (aE smC i) ⟨⟨_,_,_,_⟩,⟨_,_,_,_⟩⟩ _ hd.1).wkA ⟨ad _,ad _,dZ,ad _,ad _,trivial⟩,⟨rfl,trivial⟩,fun H' _ hd=>(iW _ _ (aE smC i) ⟨⟨_,_,_,_⟩,⟨_,_,_,_⟩⟩ _ hd.1).wkA ⟨ad _,ad _,dZ,ad _,ad _,trivial⟩,ay Om,x3+1,Om,Om,rfl,?_⟩
   repeat' first|exact trivial|refine ⟨rfl,?_⟩|refine ⟨trivial,?_⟩|apply And.intro
 refine ⟨rfl,Nat.zero_le _,?_,fun _=>rfl,?_⟩
 ·repeat' first|exact trivial|refine ⟨rfl,?_⟩|refine ⟨trivial,?_⟩|apply And.intro
 intro d hd
 refine aq (fun k =>?_) (fun k =>?_)
 ·refine ⟨rfl,Nat.zero_le _,?_,fun _=>rfl,?_⟩
  ·repeat' first|exact trivial|exact bx _ _ _ (.inl rfl)|refine ⟨rfl,?_⟩|refine ⟨trivial,?_⟩|apply And.intro
  intro i hi
  have hl1:(aE (smU d) i).length=i:=bY _ _
  have hl2:(aE (smD d) i).length=i:=bY _ _
  have hsu:=ew (smU d) i
  have hsd:=ew (smD d) i
  refine aq (fun k =>?_) (fun k =>?_)
  ·have b1:=gd (own:=true) (f:=bB) (n:=4) (fun _=>rfl) hsu rfl
   have b2:=gd (own:=true) (f:=bB) (n:=4) (fun _=>rfl) hsd rfl
   have d24:=tdB (30*i+23) (s:=24) (by decide)
   rw[show (((30*i+23:Nat)):Int)=30*(i:Int)+23 by omega]at d24
   have d39:=tdB i (s:=39) (by decide)
   have p1:0<=(d:Int)*Int.tdiv (i:Int) 39:=Int.mul_nonneg Om d39.1
   have p2:(d:Int)*Int.tdiv (i:Int) 39<=3*40:=Int.mul_le_mul Om Om d39.1 Om
   refine ⟨ay Om,ay Om,ay Om,ay Om,ay Om,_,rfl,ay Om,_,rfl,⟨Om,by decide,⟨Nat.le_refl _,by rw[aK (n:=4) (fun _=>rfl)];omega⟩,⟨Nat.le_refl _,Nat.le_refl 4⟩,rfl⟩,rfl,ay Om,ay Om,ay Om,ay Om,_,rfl,ay Om,_,rfl,⟨Om,by decide,⟨Nat.le_refl _,by rw[aK (n:=4) (fun _=>rfl)];omega⟩,⟨Nat.le_refl _,Nat.le_refl 4⟩,rfl⟩,rfl,ay Om,i+1,Om,Om,rfl,?_⟩
   repeat' first|exact oS hsu|exact oS hsd|exact b1|exact b2|exact xm _ _|exact trivial|refine ⟨rfl,?_⟩|refine ⟨trivial,?_⟩|apply And.intro
  ·refine ⟨⟨rfl,trivial⟩,fun H' _ hd=>(tU ⟨⟨_,_⟩,⟨_,_⟩,⟨_,_⟩,⟨_,_⟩⟩ ⟨⟨_,_⟩,⟨_,_⟩,⟨_,_⟩,⟨_,_⟩⟩ ⟨_,_,_,_⟩ ⟨⟨_,_,_,_⟩,⟨_,_,_,_⟩⟩ _ (aE (smU d) i) hd.1).wkA ⟨ad _,ad _,ad _,ad _,ad _,dZ,trivial⟩,⟨rfl,trivial⟩,fun H' _ hd=>(tU ⟨⟨_,_⟩,⟨_,_⟩,⟨_,_⟩,⟨_,_⟩⟩ ⟨⟨_,_⟩,⟨_,_⟩,⟨_,_⟩,⟨_,_⟩⟩ ⟨_,_,_,_⟩ ⟨⟨_,_,_,_⟩,⟨_,_,_,_⟩⟩ _ (aE (smD d) i) hd.1).wkA ⟨ad _,ad _,ad _,ad _,ad _,dZ,trivial⟩,ay Om,d+1,Om,Om,rfl,?_⟩
   repeat' first|exact trivial|refine ⟨rfl,?_⟩|refine ⟨trivial,?_⟩|apply And.intro
 exact ⟨⟨rfl,trivial⟩,fun H' _ hd=>(tU ⟨⟨_,_⟩,⟨_,_⟩,⟨_,_⟩,⟨_,_⟩⟩ ⟨⟨_,_⟩,⟨_,_⟩,⟨_,_⟩,⟨_,_⟩⟩ ⟨_,_,_,_⟩ ⟨⟨_,_,_,_⟩,⟨_,_,_,_⟩⟩ _ (List.replicate 401 ar) hd.1).wkA ⟨ad _,ad _,ad _,ad _,ad _,sF,trivial⟩,trivial,fun H' _ _=>fN H',rfl⟩
end
end Go.Proofs.YthcjliffpebjaaaGreat
namespace Go.Proofs.YthcjliffpebjaaaGreat
open Go Go.K Go.ChangeShapes Go.WideShapes Go.ChangeAt Go.RowKit
noncomputable section
theorem own:ownKnob Tryz.prog.godebug=none:=by kernel_rfl
theorem sized:lR Tryz.prog=true:=by kernel_rfl
abbrev known(t:TypeId):Prop:=t<Tryz.prog.types.size
theorem kids:Kids Tryz.prog known:=kids_rows (by kernel_rfl) (by kernel_rfl)
end
end Go.Proofs.YthcjliffpebjaaaGreat
