/- Ice: the reference's lists of reports that agree. No condition. -/
import Derived.Test.YthcjliffpebjaaaGreatGR1gxR2
import Derived.Test.YthcjliffpebjaaaGreatGS11gxR6g
import Derived.Test.YthcjliffpebjaaaGreatGA4xS10
import Derived.Test.YthcjliffpebjaaaGreatGK1xK7
import Derived.Test.YthcjliffpebjaaaGreatGV11xV14
open Go Go.K
set_option maxRecDepth 1000000
set_option linter.unusedVariables false
set_option linter.unusedSimpArgs false
namespace Go.Proofs.YthcjliffpebjaaaGreat
noncomputable section
attribute [local irreducible] vF iP dt
theorem FZ{g:Value->Value}(hg:∀b,g (.bool b) = .bool b)(l:List Bool):(l.flatMap aC).map g=l.flatMap aC:=by
 induction l with
 |nil=>rfl
 |cons b l ih=>rw[List.flatMap_cons,List.map_append,ih];show [g (.bool b)]++_=_;rw[hg]
theorem wJ{g:Value->Bool}(hg:∀b,g (.bool b)=true)(l:List Bool):(l.flatMap aC).all g=true:=by
 induction l with
 |nil=>rfl
 |cons b l ih=>rw[List.flatMap_cons,List.all_append,ih];show (g (.bool b)&&true)&&true=true;rw[hg];rfl
theorem gE(σ:Nat->Option Nat)(d:Nat)(l:List Bool):rn σ (d+2) (dB l)=dB l:=by
 show Value.iface _ (.agg ⟨(l.flatMap aC).map (rn σ (d+1))⟩)=_
 rw[FZ (fun b=>rfl)]
theorem OL(d:Nat)(l:List Bool):dD (d+2) (dB l)=true:=wJ (fun b=>rfl) l
theorem AP(n:Nat)(l:List Bool):aw n (dB l)=true:=wJ (fun b=>rfl) l
theorem gb(n:Nat)(L:List (List Bool)):(dBL L).all (aw n)=true:=by
 unfold dBL
 rw[List.all_map,List.all_eq_true]
 intro l _
 exact AP n l
theorem qe(L:List (List Bool)):(dBL L).length=L.length:=List.length_map ..
theorem Ie(L:List (List Bool))(l:List Bool):dBL (L ++ [l])=dBL L ++ [dB l]:=List.map_append ..
theorem uI{L:List (List Bool)}{y:Nat}(hy:y<L.length):(dBL L)[0+Int.toNat ((y:Nat):Int)*1]?=some (dB (L.getD y [])):=by
 unfold dBL
 rw[Int.toNat_natCast,show 0+y*1=y by omega,List.getElem?_map,List.getElem?_eq_getElem hy,List.getD_eq_getElem?_getD,List.getElem?_eq_getElem hy];rfl
theorem NS(n:Nat)(L:List (List Bool)):((List.take n (List.drop 0 (dBL L))).all fun v=>dS v)=true:=by
 rw[List.all_eq_true]
 intro v hv
 have h:=List.mem_of_mem_take hv
 rw[List.drop_zero]at h
 obtain ⟨l,_,rfl⟩:=List.mem_map.1 h
 rfl
theorem Pj(n:Nat)(b:List Bool):((List.take n (List.drop 0 (b.flatMap aC))).all fun v=>dS v)=true:=by
 rw[List.all_eq_true]
 intro v hv
 have h:=List.mem_of_mem_take hv
 rw[List.drop_zero]at h
 obtain ⟨l,_,h⟩:=List.mem_flatMap.1 h
 rw[List.mem_singleton.1 h]
 rfl
theorem CT{cs:Array Value}:wk (.slice none 0 0) (.iface 1 (.agg cs)):=by
 intro V x h
 cases h
 exact .cH
theorem lj{xs:List Bool}{k:Nat}(h:k<xs.length):(xs.flatMap aC)[Int.toNat ((k:Nat):Int)*1]?=some (.bool (xs.getD k false)) :=
 jA (n:=1) (f:=aC) (d:=false) (c:=0) fX h (by rw[Int.toNat_natCast];omega) rfl
theorem EB(b:List Bool)(x:Nat):cL b x<=x:=Nat.le_trans List.countP_le_length (by rw[List.length_take];omega)
theorem lN{b:List Bool}{x:Nat}(hx:x<b.length):cL b (x+1)=cL b x+(b.getD x false).toNat:=by
 unfold cL
 rw[List.take_add_one,List.getElem?_eq_getElem hx,List.countP_append,List.getD_eq_getElem?_getD,List.getElem?_eq_getElem hx]
 cases h:b[x] <;> simp[h]
theorem Dj(b:List Bool)(hb:b.length<=4294967296)(H:Heap):ak prog F.nR [dB b] H [] (Is (nI ((cL b b.length:Nat):Int)) H):=by
 refine cQ 40 (fun σ=>by rw[List.map_cons,List.map_nil,gE σ 3]) rfl (Eq.mpr (KB _ b) ?_) H
 delta Ec eY jq JF gV Ca oB Cb xR nI fk nw eR lq
 repeat' first|(refine ⟨rfl,Nat.zero_le _,?_,fun _=>rfl,?_⟩)|exact (gE _ 1 _).symm|exact trivial|refine ⟨rfl,?_⟩|refine ⟨trivial,?_⟩|apply And.intro
 intro x hx
 have ht:=EB b x
 refine aq (fun h =>?_) (fun h =>?_)
 ·have hlt:x<b.length:=Om
  have hs:=lN hlt
  refine ⟨Om,lj hlt,pZ (fun k =>?_) (fun k =>?_)⟩
  ·rw[k]at hs
   replace hs:cL b (x+1)=cL b x+1:=hs
   refine ⟨ay Om,ay Om,x+1,Om,Om,rfl,?_⟩
   repeat' first|exact (gE _ 1 _).symm|exact trivial|refine ⟨rfl,?_⟩|refine ⟨trivial,?_⟩|apply And.intro|exact iEq Om
  ·rw[k]at hs
   replace hs:cL b (x+1)=cL b x:=hs
   refine ⟨ay Om,x+1,Om,Om,rfl,?_⟩
   repeat' first|exact (gE _ 1 _).symm|exact trivial|refine ⟨rfl,?_⟩|refine ⟨trivial,?_⟩|apply And.intro|exact iEq Om
 ·obtain rfl:x=b.length:=Om
  rfl
theorem pA(p:List (Nat×Nat)):∀d b,0<(lst p d b).length/\(lst p d b).length<=2 ^ d
 |0,b=>⟨Nat.one_pos,Nat.le_refl _⟩
 |d+1,b=>by
  have h1:=pA p d (b ++ [true])
  have h2:=pA p d (b ++ [false])
  unfold lst
  rw[Nat.pow_succ]
  split
  ·rw[aI];omega
  ·rw[List.nil_append];omega
theorem Aq{p:List (Nat×Nat)}{b:List Bool}{x:Nat}(h:x<p.length):eF p b (x+1)=(eF p b x&&((p.getD x (0,0)).2 != b.length || !b.getD (p.getD x (0,0)).1 false)):=by
 unfold eF
 rw[List.take_add_one,List.getElem?_eq_getElem h,List.all_append,List.getD_eq_getElem?_getD,List.getElem?_eq_getElem h]
 simp
theorem Jg{p:List (Nat×Nat)}{x:Nat}(h:x<p.length):(p.flatMap bo)[0+Int.toNat ((x:Nat):Int)*2+1*1]?=some (nI (((p.getD x (0,0)).2:Nat):Int)) :=
 jA (n:=2) (f:=bo) (d:=(0,0)) (c:=1) gS h (by rw[Int.toNat_natCast];omega) rfl
theorem Jh{p:List (Nat×Nat)}{x:Nat}(h:x<p.length):(p.flatMap bo)[0+Int.toNat ((x:Nat):Int)*2+0*1]?=some (nI (((p.getD x (0,0)).1:Nat):Int)) :=
 jA (n:=2) (f:=bo) (d:=(0,0)) (c:=0) gS h (by rw[Int.toNat_natCast];omega) rfl
theorem takeB(b:List Bool):List.take (b.length*1) (List.drop 0 (b.flatMap aC))=b.flatMap aC:=by
 rw[List.drop_zero,List.take_of_length_le (by rw[aK fX];omega)]
theorem yl(b:List Bool)(v:Bool):(Value.iface ((0+b.length)+1+1) (.agg ⟨List.take ((0+b.length)*1) (List.drop 0 (List.take (0*1) (List.drop 0 ([]:List Value))++List.take (b.length*1) (List.drop 0 (b.flatMap aC))))++List.take (1*1) (List.drop 0 ([.bool v]:List Value))⟩))=dB (b ++ [v]):=by
 have hl:(0+b.length)+1+1=(b ++ [v]).length+1:=by rw[aI];simp
 have hc:List.take ((0+b.length)*1) (List.drop 0 (List.take (0*1) (List.drop 0 ([]:List Value))++List.take (b.length*1) (List.drop 0 (b.flatMap aC))))++List.take (1*1) (List.drop 0 ([.bool v]:List Value))=(b ++ [v]).flatMap aC:=by
  rw[takeB,show List.take (0*1) (List.drop 0 ([]:List Value))++b.flatMap aC=b.flatMap aC from rfl,Nat.zero_add,takeB,List.flatMap_append];rfl
 rw[hl,hc]
theorem M3{b:List Bool}(h:b.length<=12)(h0:¬ b.length=0):(0+b.length)*1<=2 ^ 44/\b.length≠0/\(0<=0/\0+0*1<=List.length ([]:List Value))/\(b.length<=b.length/\0+b.length*1<=List.length (b.flatMap aC))/\((List.take (b.length*1) (List.drop 0 (b.flatMap aC))).all fun v=>dS v)=true :=
 ⟨Om,h0,⟨Nat.le_refl _,Nat.le_refl _⟩,⟨Nat.le_refl _,by rw[aK fX];omega⟩,Pj _ _⟩
theorem M2{b:List Bool}(v:Bool)(h:b.length<=12):((0+b.length)+1)*1<=2 ^ 44/\1≠0/\((0+b.length)<=(0+b.length)/\0+(0+b.length)*1<=List.length (List.take (0*1) (List.drop 0 ([]:List Value))++List.take (b.length*1) (List.drop 0 (b.flatMap aC))))/\(1<=1/\0+1*1<=List.length ([.bool v]:List Value))/\((List.take (1*1) (List.drop 0 ([.bool v]:List Value))).all fun v=>dS v)=true :=
 ⟨Om,by decide,⟨Nat.le_refl _,by rw[takeB];show _<=List.length (b.flatMap aC);rw[aK fX];omega⟩,⟨Nat.le_refl _,Nat.le_refl _⟩,rfl⟩
theorem takeD(L:List (List Bool)):List.take (L.length*1) (List.drop 0 (dBL L))=dBL L:=by
 rw[List.drop_zero,List.take_of_length_le (by rw[qe];omega)]
theorem Jp(p:List (Nat×Nat))(hp:∀q∈p,q.1<q.2)(hpl:p.length<=4294967296):∀(d:Nat) (b:List Bool),b.length+d<=12->∀{H:Heap} {L:Nat} (hL:H.length=L) {id:Nat} {own:Bool} {z:Nat} (hid:H[id]?=some (.cells own z (p.flatMap bo))),
  ak prog F.ed [dB b,nI (((b.length+d:Nat)):Int),slQ id 2 p.length] H [] (Is (.slice (some ⟨L,0,some 1⟩) (lst p d b).length (lst p d b).length) (H ++ [.cells true 1 (dBL (lst p d b))])):=by
 intro d
 induction d with
 |zero =>
  intro b hb H L hL id own z hid
  subst hL
  refine w9 (fun i => .slice (some ⟨i,0,some 1⟩) (lst p 0 b).length (lst p 0 b).length) (Eq.mpr (Eu b 0 p) ?_) (eD 0 p) (fun n=>gb n _) rfl (by simp[rn,bD]) (fun j=>by simp[rn,bT]) hid (by rw[List.map_cons,gE _ 1];rfl)
  delta yq vn xR eY jq Fq gV oB Fp jmp jm7 jmn jmz xT jm8 JL iN rZ nk JM JE jm1 qN Cb iB nI slQ slN fk ck nw eR wR kbq ixq lq n1q
  have hl:(lst p 0 b).length=1:=rfl
  refine cO (fun _=>⟨rfl,?_,⟨rfl,gb _ _⟩,trivial⟩) (fun h=>absurd rfl h)
  rw[hl]
  exact eJ Om
 |succ d ih =>
  intro b hb H L hL id own z hid
  subst hL
  refine w9 (fun i => .slice (some ⟨i,0,some 1⟩) (lst p (d+1) b).length (lst p (d+1) b).length) (Eq.mpr (Eu b (d+1) p) ?_) (eD 0 p) (fun n=>gb n _) rfl (by simp[rn,bD]) (fun j=>by simp[rn,bT]) hid (by rw[List.map_cons,gE _ 1];rfl)
  delta yq vn xR eY jq Fq gV oB Fp jmp jm7 jmn jmz xT jm8 JL iN rZ nk JM JE jm1 qN Cb iB nI slQ slN fk ck nw eR wR kbq ixq lq n1q
  refine cO (fun h=>absurd h Om) (fun _ =>?_)
  refine ⟨rfl,Nat.zero_le _,?_,fun _=>rfl,?_⟩
  ·repeat' first|exact (gE _ 1 _).symm|exact trivial|exact ad _|refine ⟨rfl,?_⟩|refine ⟨trivial,?_⟩|apply And.intro
  intro x hx
  refine aq (fun h =>?_) (fun h =>?_)
  ·have hlt:x<p.length:=Om
   have hq:=hp (p.getD x (0,0)) (gY hlt)
   have hs:=Aq (b:=b) hlt
   refine pZ (fun hf =>?_) (fun hf =>?_)
   ·rw[hf,Bool.true_and]at hs
    refine ⟨Om,Jg hlt,aZ (fun h2 =>?_) (fun h2 =>?_)⟩
    ·have h3:eF p b (x+1)=true:=by rw[hs,bne_iff_ne.2 (fun e=>h2 (by rw[e]))];rfl
     refine ⟨ay Om,x+1,Om,Om,rfl,?_⟩
     repeat' first|exact (gE _ 1 _).symm|exact bEq h3.symm|exact trivial|exact ad _|refine ⟨rfl,?_⟩|refine ⟨trivial,?_⟩|apply And.intro
    ·have h4:(p.getD x (0,0)).2=b.length:=Om
     have h3:eF p b (x+1) = !b.getD (p.getD x (0,0)).1 false:=by rw[hs,h4,bne_self_eq_false,Bool.false_or]
     refine ⟨Om,Jh hlt,Om,lj Om,ay Om,x+1,Om,Om,rfl,?_⟩
     repeat' first|exact (gE _ 1 _).symm|exact bEq h3.symm|exact trivial|exact ad _|refine ⟨rfl,?_⟩|refine ⟨trivial,?_⟩|apply And.intro
   ·rw[hf,Bool.false_and]at hs
    refine ⟨ay Om,x+1,Om,Om,rfl,?_⟩
    repeat' first|exact (gE _ 1 _).symm|exact bEq hs.symm|exact trivial|exact ad _|refine ⟨rfl,?_⟩|refine ⟨trivial,?_⟩|apply And.intro
  ·obtain rfl:x=p.length:=Om
   have hd:=Nat.pow_le_pow_right (show 0<2 by decide) (show d<=12 by omega)
   have t1:=pA p d (b ++ [true])
   have t2:=pA p d (b ++ [false])
   have call:∀(v:Bool) {H':Heap} {L:Nat},H'.length=L->H'[0]?=some (.cells false 0 (p.flatMap bo))->ak prog F.ed [dB (b ++ [v]),nI (((b.length+(d+1):Nat)):Int),slQ 0 2 p.length] H' [] (Is (.slice (some ⟨L,0,some 1⟩) (lst p d (b ++ [v])).length (lst p d (b ++ [v])).length) (H' ++ [.cells true 1 (dBL (lst p d (b ++ [v])))])):=by
    intro v H' L h1 h2
    have e:(b ++ [v]).length+d=b.length+(d+1):=by rw[aI];simp;omega
    have:=ih (b ++ [v]) Om h1 h2
    rwa [e]at this
   have Ik:b.length=0->∀(v:Bool) {H':Heap} {L:Nat},H'.length=L->H'[0]?=some (.cells false 0 (p.flatMap bo))->ak prog F.ed [.iface (1+1) (.agg ⟨[.bool v]⟩),nI (((b.length+(d+1):Nat)):Int),slQ 0 2 p.length] H' [] (Is (.slice (some ⟨L,0,some 1⟩) (lst p d (b ++ [v])).length (lst p d (b ++ [v])).length) (H' ++ [.cells true 1 (dBL (lst p d (b ++ [v])))])):=by
    intro h0 v H' L h1 h2
    obtain rfl:=List.length_eq_zero_iff.1 h0
    exact call v h1 h2
   have FJ:b.length<=12:=Om
   have n2:¬ (lst p (d+1-1) (b ++ [false])).length=0:=by rw[Nat.add_sub_cancel];omega
   refine pZ (fun hf =>?_) (fun hf =>?_)
   ·have el:lst p (d+1) b=lst p (d+1-1) (b ++ [true])++lst p (d+1-1) (b ++ [false]):=by
     show (if _ then _ else _)++_=_
     rw[if_pos hf];rfl
    have hlen:(lst p (d+1) b).length=(lst p (d+1-1) (b ++ [true])).length+(lst p (d+1-1) (b ++ [false])).length:=by rw[el,aI]
    have hcell:List.take ((lst p (d+1-1) (b ++ [true])).length*1) (List.drop 0 (dBL (lst p (d+1-1) (b ++ [true]))))++List.take ((lst p (d+1-1) (b ++ [false])).length*1) (List.drop 0 (dBL (lst p (d+1-1) (b ++ [false]))))=dBL (lst p (d+1) b):=by
     rw[takeD,takeD,el];exact List.map_append.symm
    have big:((lst p (d+1-1) (b ++ [true])).length+(lst p (d+1-1) (b ++ [false])).length)*24<=2 ^ 44:=by rw[Nat.add_sub_cancel];omega
    refine ⟨fun hb0=>⟨⟨Om,hb0⟩,⟨rfl,trivial⟩,fun H' hl hd=>Ik hb0 true hl hd.1,⟨fun _=>⟨⟨Om,hb0⟩,⟨rfl,trivial⟩,fun H' hl hd=>Ik hb0 false hl hd.1,?_⟩,fun h=>absurd hb0 h⟩⟩,fun hb0=>⟨M3 FJ hb0,rfl,M2 _ FJ,rfl,⟨rfl,trivial⟩,fun H' hl hd=>by rw[yl];exact call true hl hd.1,⟨fun h=>absurd h hb0,fun _=>⟨M3 FJ hb0,rfl,M2 _ FJ,rfl,⟨rfl,trivial⟩,fun H' hl hd=>by rw[yl];exact call false hl hd.1,?_⟩⟩⟩⟩
    all_goals
     refine ⟨fun h=>absurd h n2,fun _=>⟨⟨big,n2,⟨Nat.le_refl _,by rw[qe];omega⟩,⟨Nat.le_refl _,by rw[qe];omega⟩,NS _ _⟩,rfl,rfl,?_,⟨?_,gb _ _⟩,trivial⟩⟩
     ·rw[hlen];exact eJ Om
     ·rw[hcell]
   ·have el:lst p (d+1) b=lst p (d+1-1) (b ++ [false]):=by
     show (if _ then _ else _)++_=_
     rw[if_neg (by rw[hf];decide)];rfl
    have hcell:[]++List.take ((lst p (d+1-1) (b ++ [false])).length*1) (List.drop 0 (dBL (lst p (d+1-1) (b ++ [false]))))=dBL (lst p (d+1) b):=by
     rw[takeD,el];rfl
    have big:(0+(lst p (d+1-1) (b ++ [false])).length)*24<=2 ^ 44:=by rw[Nat.add_sub_cancel];omega
    refine ⟨fun hb0=>⟨⟨Om,hb0⟩,⟨rfl,trivial⟩,fun H' hl hd=>Ik hb0 false hl hd.1,?_⟩,fun hb0=>⟨M3 FJ hb0,rfl,M2 _ FJ,rfl,⟨rfl,trivial⟩,fun H' hl hd=>by rw[yl];exact call false hl hd.1,?_⟩⟩
    all_goals
     refine ⟨fun h=>absurd h n2,fun _=>⟨⟨big,n2,rfl,⟨Nat.le_refl _,by rw[qe];omega⟩,NS _ _⟩,rfl,rfl,?_,⟨?_,gb _ _⟩,trivial⟩⟩
     ·rw[el,Nat.zero_add];exact eJ Om
     ·rw[hcell]
end
end Go.Proofs.YthcjliffpebjaaaGreat
namespace Go.Proofs.YthcjliffpebjaaaGreat
open Go Go.K Go.Sort
noncomputable section
attribute [local irreducible] vF dt
abbrev tru(l:List Bool)(i:Nat):Bool:=l.getD i false
def hP(l:List Bool):Nat:=nq (tru l) l.length
def iK(n s:Nat):List Bool:=aE (bM n s) n
theorem fY(n s:Nat):(iK n s).length=n:=bY ..
theorem hU{n s i:Nat}(h:i<n):tru (iK n s) i=bM n s i:=eP h
theorem uG{p q:Nat->Bool}:∀{n:Nat},(∀i,i<n->p i=q i)->nq p n=nq q n
 |0,_=>rfl
 |n+1,h=>by
  show 2*nq p n+(p n).toNat=2*nq q n+(q n).toNat
  rw[uG (fun i hi=>h i Om),h n Om]
theorem Gq{a b:List Bool}{i:Nat}(h:i<a.length):tru (a++b) i=tru a i:=by
 unfold tru;rw[List.getD_eq_getElem?_getD,List.getElem?_append_left h,List.getD_eq_getElem?_getD]
theorem Gp(b:List Bool)(v:Bool):tru (b ++ [v]) b.length=v:=by
 unfold tru;rw[List.getD_eq_getElem?_getD,List.getElem?_append_right (Nat.le_refl _),Nat.sub_self];rfl
theorem wE(b:List Bool)(v:Bool):hP (b ++ [v])=2*hP b+v.toNat:=by
 unfold hP
 rw[aI]
 show 2*nq (tru (b ++ [v])) b.length+(tru (b ++ [v]) b.length).toNat=_
 rw[Gp,uG (fun i hi=>Gq hi)]
theorem DY(l:List Bool):hP l<2 ^ l.length:=yk ..
theorem In(l:List Bool):iK l.length (hP l)=l:=by
 refine List.ext_getElem (fY ..) fun i h1 h2 =>?_
 have:=hU (s:=hP l) h2
 rw[show bM l.length (hP l) i=tru l i from kf _ _ _ h2]at this
 unfold tru at this
 rwa [dh h1,dh h2]at this
theorem Ia{n s:Nat}(h:s<2 ^ n):hP (iK n s)=s:=by
 have h1:=DY (iK n s)
 rw[fY]at h1
 refine Nat.eq_of_testBit_eq fun i =>?_
 rcases Nat.lt_or_ge i n with hi|hi
 ·have e1:bM n (hP (iK n s)) (n-1-i)=bM n s (n-1-i):=by
   have:=kf (tru (iK n s)) (iK n s).length (n-1-i) (by rw[fY];omega)
   rw[hU Om]at this
   rw[<- this];unfold hP;rw[fY]
  unfold bM at e1
  rwa [show n-1-(n-1-i)=i by omega]at e1
 ·have h2:2 ^ n<=2 ^ i:=Nat.pow_le_pow_right (by decide) hi
  rw[Nat.testBit_lt_two_pow Om,Nat.testBit_lt_two_pow Om]
theorem K8:∀{l1 l2:List Nat},l1.Pairwise (· > ·)->l2.Pairwise (· > ·)->(∀x,x∈l1 ↔ x∈l2)->l1=l2
 | [],[],_,_,_=>rfl
 | [],b :: l,_,_,h=>absurd ((h b).2 (by simp)) (by simp)
 |a :: l,[],_,_,h=>absurd ((h a).1 (by simp)) (by simp)
 |a :: l,b :: m,h1,h2,h=>by
  have p1:=List.pairwise_cons.1 h1
  have p2:=List.pairwise_cons.1 h2
  obtain rfl:a=b:=by
   have ha:=(h a).1 (by simp)
   have hb:=(h b).2 (by simp)
   rcases List.mem_cons.1 ha with e|e
   ·exact e
   ·rcases List.mem_cons.1 hb with e'|e'
    ·exact e'.symm
    ·have:=p2.1 a e;have:=p1.1 b e';omega
  rw[K8 p1.2 p2.2 fun x =>?_]
  constructor
  ·intro hx
   rcases List.mem_cons.1 ((h x).1 (by simp[hx])) with e|e
   ·subst e;have:=p1.1 x hx;omega
   ·exact e
  ·intro hx
   rcases List.mem_cons.1 ((h x).2 (by simp[hx])) with e|e
   ·subst e;have:=p2.1 x hx;omega
   ·exact e
theorem te(p:List (Nat×Nat)):∀d b,∀t∈lst p d b,t.length=b.length+d/\hP b*2 ^ d<=hP t/\hP t<(hP b+1)*2 ^ d
 |0,b,t,h=>by
  rw[List.mem_singleton.1 h]
  exact ⟨rfl,by simp,by simp⟩
 |d+1,b,t,h=>by
  have key:∀v,t∈lst p d (b ++ [v])->t.length=b.length+(d+1)/\(2*hP b+v.toNat)*2 ^ d<=hP t/\hP t<(2*hP b+v.toNat+1)*2 ^ d:=by
   intro v hv
   have:=te p d (b ++ [v]) t hv
   rw[wE,aI]at this
   exact ⟨by have:=this.1;simp at this;omega,this.2⟩
  have e:2 ^ (d+1)=2*2 ^ d:=by rw[Nat.pow_succ];omega
  have m1:hP b*2 ^ (d+1)=(2*hP b)*2 ^ d:=by rw[e];rw[<- Nat.mul_assoc,Nat.mul_comm (hP b) 2]
  have m2:(hP b+1)*2 ^ (d+1)=(2*hP b+2)*2 ^ d:=by rw[e,<- Nat.mul_assoc];congr 1;omega
  rw[m1,m2]
  have mono:∀{a c:Nat},a<=c->a*2 ^ d<=c*2 ^ d:=fun h=>Nat.mul_le_mul_right _ h
  unfold lst at h
  rcases List.mem_append.1 h with h|h
  ·split at h
   ·obtain ⟨a1,a2,a3⟩:=key true h
    exact ⟨a1,Nat.le_trans (mono Om) a2,Nat.lt_of_lt_of_le a3 (mono (by simp))⟩
   ·cases h
  ·obtain ⟨a1,a2,a3⟩:=key false h
   exact ⟨a1,Nat.le_trans (mono Om) a2,Nat.lt_of_lt_of_le a3 (mono (by simp))⟩
theorem BF(p:List (Nat×Nat)):∀d b,((lst p d b).map hP).Pairwise (· > ·)
 |0,b=>List.pairwise_singleton ..
 |d+1,b=>by
  unfold lst
  rw[List.map_append,List.pairwise_append]
  refine ⟨?_,BF p d _,?_⟩
  ·split
   ·exact BF p d _
   ·exact .nil
  ·intro x hx y hy
   obtain ⟨t,ht,rfl⟩:=List.mem_map.1 hx
   obtain ⟨u,hu,rfl⟩:=List.mem_map.1 hy
   split at ht
   ·have a:=(te p d _ t ht).2.1
    have c:=(te p d _ u hu).2.2
    rw[wE]at a c
    exact Nat.lt_of_lt_of_le c a
   ·cases ht
theorem C9(p:List (Nat×Nat)):∀d b t,t∈lst p d b ↔ t.length=b.length+d/\t.take b.length=b/\∀k,b.length<=k->k<t.length->tru t k=true->eF p (t.take k) p.length=true
 |0,b,t=>by
  constructor
  ·intro h
   rw[List.mem_singleton.1 h]
   exact ⟨rfl,List.take_length,fun k h1 h2=>Om⟩
  ·rintro ⟨h1,h2,_⟩
   rw[List.take_of_length_le Om]at h2
   exact List.mem_singleton.2 h2
 |d+1,b,t=>by
  have LA:=fun v=>C9 p d (b ++ [v]) t
  have Bt:t.length=b.length+(d+1)->∀v,t.take (b.length+1)=b ++ [v] ↔ t.take b.length=b/\tru t b.length=v:=by
   intro hl v
   rw[List.take_add_one,List.getElem?_eq_getElem Om]
   unfold tru
   rw[dh Om]
   constructor
   ·intro h
    have:=List.append_inj h (by rw[List.length_take];omega)
    exact ⟨this.1,by have:=this.2;simpa using this⟩
   ·rintro ⟨h1,h2⟩;rw[h1,h2];rfl
  unfold lst
  rw[List.mem_append]
  constructor
  ·intro h
   have key:∀v,t∈lst p d (b ++ [v])->(v=true->eF p b p.length=true)->t.length=b.length+(d+1)/\t.take b.length=b/\∀k,b.length<=k->k<t.length->tru t k=true->eF p (t.take k) p.length=true:=by
    intro v hv hf
    obtain ⟨a1,a2,a3⟩:=(LA v).1 hv
    rw[aI]at a1 a2 a3
    replace a1:t.length=b.length+(d+1):=by simp at a1;omega
    obtain ⟨c1,c2⟩:=(Bt a1 v).1 a2
    refine ⟨a1,c1,fun k k1 k2 k3 =>?_⟩
    rcases Nat.lt_or_ge b.length k with g|g
    ·exact a3 k g k2 k3
    ·obtain rfl:k=b.length:=Om
     rw[c1];exact hf (c2.symm.trans k3)
   rcases h with h|h
   ·split at h
    ·rename_i hf;exact key true h (fun _=>hf)
    ·cases h
   ·exact key false h (fun h=>by cases h)
  ·rintro ⟨h1,h2,h3⟩
   cases hv:tru t b.length with
   |true =>
    left
    have hf:=h3 b.length (Nat.le_refl _) Om hv
    rw[h2]at hf
    rw[if_pos hf]
    refine (LA true).2 ⟨by rw[aI];simp;omega,?_,fun k k1 k2 k3=>h3 k (by rw[aI]at k1;omega) k2 k3⟩
    rw[aI];exact (Bt h1 true).2 ⟨h2,hv⟩
   |false =>
    right
    refine (LA false).2 ⟨by rw[aI];simp;omega,?_,fun k k1 k2 k3=>h3 k (by rw[aI]at k1;omega) k2 k3⟩
    rw[aI];exact (Bt h1 false).2 ⟨h2,hv⟩
theorem Ap{p:List (Nat×Nat)}{b:List Bool}:eF p b p.length=true ↔ ∀q∈p,q.2=b.length->tru b q.1=false:=by
 unfold eF
 rw[List.take_length,List.all_eq_true]
 constructor
 ·intro h q hq e
  have:=h q hq
  rw[e,bne_self_eq_false,Bool.false_or]at this
  simpa using this
 ·intro h q hq
  by_cases e:q.2=b.length
  ·have:=h q hq e
   unfold tru at this
   rw[this];simp
  ·rw[bne_iff_ne.2 e];rfl
theorem yN{t:List Bool}{i k:Nat}(h:i<k):tru (t.take k) i=tru t i:=by
 unfold tru
 rw[List.getD_eq_getElem?_getD,List.getElem?_take,if_pos h,List.getD_eq_getElem?_getD]
theorem py{ts:List Cell}(hr:ec ts){t:List Bool}:t∈eK ts ↔ t.length=ts.length/\okA ts (tru t):=by
 unfold eK
 rw[C9]
 constructor
 ·rintro ⟨h1,_,h3⟩
  have hl:t.length=ts.length:=by simpa using h1
  refine ⟨hl,fun i j hi hj a b =>?_⟩
  have bad:∀i j,i<j->j<ts.length->tru t i=true->tru t j=true->okC (bK (ts.getD i aj) (ts.getD j aj)):=by
   intro i j hij hj a b
   refine Classical.byContradiction fun hc =>?_
   have hm:=(lY (Nat.le_refl _) (q:=(i,j))).2 ⟨Om,hij,hj,hc⟩
   have:=Ap.1 (h3 j (Nat.zero_le _) Om b) (i,j) hm (by rw[List.length_take];show j=_;omega)
   rw[yN hij]at this
   rw[this]at a;cases a
  rcases Nat.lt_trichotomy i j with h|h|h
  ·exact bad i j h hj a b
  ·subst h;exact meet_self (hr i hi)
  ·exact (meet_comm _ _).1 (bad j i h hi b a)
 ·rintro ⟨hl,h⟩
  refine ⟨by simpa using hl,rfl,fun k _ hk ht=>Ap.2 fun q hq e =>?_⟩
  rw[List.length_take]at e
  obtain ⟨q1,q2,q3,q4⟩:=(lY (Nat.le_refl _)).1 hq
  rw[yN Om]
  cases hc:tru t q.1 with
  |false=>rfl
  |true=>exact absurd (h q.1 q.2 Om Om hc (by rw[show q.2=k by omega];exact ht)) q4
theorem gQ(l:List Bool):∀x,x<=l.length->cL l x=cnt x (tru l)
 |0,_=>rfl
 |x+1,h=>by rw[lN Om,qg,gQ l x Om]
theorem vY(L:List (List Bool)):∀x,∀i,i<x->cL (L.getD i []) (L.getD i []).length<=cV L x
 |0,i,h=>Om
 |x+1,i,h=>by
  show _<=max _ _
  rcases Nat.lt_or_ge i x with g|g
  ·have:=vY L x i g;omega
  ·obtain rfl:i=x:=Om
   omega
theorem vZ(L:List (List Bool)){n:Nat}:∀x,(∀i,i<x->cL (L.getD i []) (L.getD i []).length<=n)->cV L x<=n
 |0,_=>Nat.zero_le _
 |x+1,h=>by
  show max _ _<=n
  have:=vZ L x (fun i hi=>h i Om)
  have:=h x Om
  omega
theorem kZ(L:List (List Bool))(k:Nat):∀x,x<=L.length->gN L k x=(L.take x).filter fun l=>decide (cL l l.length=k)
 |0,_=>rfl
 |x+1,h=>by
  rw[List.take_add_one,List.getElem?_eq_getElem Om,List.filter_append,<- kZ L k x Om]
  have e:L.getD x []=L[x]:=dh Om
  show (if _ then _ else _)=_
  rw[e]
  by_cases c:cL L[x] L[x].length=k
  ·rw[if_pos c];simp[c]
  ·rw[if_neg c];simp[c]
theorem GS{ts:List Cell}(hr:ec ts)(hn:ts.length<=12):cV (eK ts) (eK ts).length=td ts:=by
 refine Nat.le_antisymm (vZ _ _ fun i hi =>?_) ?_
 ·have hm:(eK ts).getD i []∈eK ts:=gY hi
  obtain ⟨h1,h2⟩:=(py hr).1 hm
  rw[gQ _ _ (Nat.le_refl _),h1]
  exact Kp hr hn h2
 ·obtain ⟨h1,h2⟩:=GU hr hn
  have hm:iK ts.length (bI ts)∈eK ts:=(py hr).2 ⟨fY ..,(mI fun i hi=>hU hi).2 h1⟩
  obtain ⟨i,hi,e⟩:=HN (d:=[]) hm
  have:=vY (eK ts) _ i hi
  rw[e,gQ _ _ (Nat.le_refl _),fY,kz (fun i hi=>hU hi),h2]at this
  exact this
theorem pz{ts:List Cell}(hr:ec ts)(hn:ts.length<=12){t:List Bool}:t∈e9 ts ↔ t.length=ts.length/\okA ts (tru t)/\cnt ts.length (tru t)=td ts:=by
 unfold e9
 rw[kZ _ _ _ (Nat.le_refl _),List.take_length,List.mem_filter,py hr,GS hr hn,decide_eq_true_iff]
 constructor
 ·rintro ⟨⟨h1,h2⟩,h3⟩
  rw[gQ _ _ (Nat.le_refl _),h1]at h3
  exact ⟨h1,h2,h3⟩
 ·rintro ⟨h1,h2,h3⟩
  exact ⟨⟨h1,h2⟩,by rw[gQ _ _ (Nat.le_refl _),h1];exact h3⟩
theorem It(ts:List Cell):∀j,j<=2 ^ ts.length->(agr ts j).2.Pairwise (· > ·)/\∀s∈(agr ts j).2,2 ^ ts.length-j<=s
 |0,_=>⟨.nil,fun s h=>by cases h⟩
 |j+1,hj=>by
  obtain ⟨i1,i2⟩:=It ts j Om
  have i3:∀s∈(agr ts j).2,2 ^ ts.length-(j+1)<=s:=fun s h=>by have:=i2 s h;omega
  rcases Classical.em ((dt (2 ^ ts.length-1-j):Int)<(agr ts j).1) with h1|h1
  ·rw[wS rfl h1];exact ⟨i1,i3⟩
  ·cases h2:(di ts (2 ^ ts.length-1-j)).isSome with
   |false=>rw[D4 rfl h1 h2];exact ⟨i1,i3⟩
   |true =>
    rcases Classical.em ((agr ts j).1<dt (2 ^ ts.length-1-j)) with h3|h3
    ·rw[wQ rfl h1 h2 h3]
     exact ⟨List.pairwise_singleton ..,fun s h=>by rw[List.mem_singleton.1 h];omega⟩
    ·rw[wP rfl h1 h2 h3]
     refine ⟨List.pairwise_append.2 ⟨i1,List.pairwise_singleton ..,fun a ha b hb =>?_⟩,fun s h =>?_⟩
     ·rw[List.mem_singleton.1 hb];have:=i2 a ha;show a > _;omega
     ·rcases List.mem_append.1 h with h|h
      ·exact i3 s h
      ·rw[List.mem_singleton.1 h];omega
theorem DB{ts:List Cell}(hr:ec ts)(hn:ts.length<=12):(e9 ts).map hP=bt ts:=by
 refine K8 ?_ (It ts _ (Nat.le_refl _)).1 fun s =>?_
 ·unfold e9
  rw[kZ _ _ _ (Nat.le_refl _),List.take_length]
  exact (BF _ _ _).sublist ((List.filter_sublist ..).map _)
 ·show _ ↔ s∈bt ts
  rw[zm hr hn,List.mem_map]
  constructor
  ·rintro ⟨t,ht,rfl⟩
   obtain ⟨h1,h2,h3⟩:=(pz hr hn).1 ht
   have e:∀i,i<ts.length->bM ts.length (hP t) i=tru t i:=fun i hi=>by
    rw[<- h1]at hi ⊢;exact kf _ _ _ hi
   have:=DY t
   rw[h1]at this
   exact ⟨this,(mI e).2 h2,(kz e).trans h3⟩
  ·rintro ⟨h1,h2,h3⟩
   exact ⟨iK ts.length s,(pz hr hn).2 ⟨fY ..,(mI fun i hi=>hU hi).2 h2,(kz fun i hi=>hU hi).trans h3⟩,Ia h1⟩
theorem DC{ts:List Cell}(hr:ec ts)(hn:ts.length<=12):e9 ts=(bt ts).map (iK ts.length):=by
 rw[<- DB hr hn,List.map_map]
 refine (List.map_id (e9 ts)).symm.trans (List.map_congr_left fun t ht =>?_)
 obtain ⟨h1,_,_⟩:=(pz hr hn).1 ht
 show t=iK ts.length (hP t)
 rw[<- h1,In]
theorem Cq{ts:List Cell}(hr:ec ts)(hn:ts.length<=12):0<(e9 ts).length/\(e9 ts).getD 0 []=bh ts ts.length:=by
 have h0:0<(bt ts).length:=List.length_pos_iff.2 (qm ts)
 rw[DC hr hn]
 refine ⟨by rw[List.length_map];exact h0,?_⟩
 rw[List.getD_eq_getElem?_getD,List.getElem?_map]
 unfold bh bI
 rw[List.getD_eq_getElem?_getD,List.getElem?_eq_getElem h0];rfl
end
end Go.Proofs.YthcjliffpebjaaaGreat
namespace Go.Proofs.YthcjliffpebjaaaGreat
noncomputable section
attribute [local irreducible] vF iP dt
theorem FN(L:List (List Bool))(k x:Nat):(gN L k x).length<=x:=by
 induction x with
 |zero=>exact Nat.le_refl _
 |succ x ih =>
  unfold gN
  split
  ·rw[aI];simp;omega
  ·omega
theorem Kl{L:List (List Bool)}{k x:Nat}(h:cL (L.getD x []) (L.getD x []).length=k):gN L k (x+1)=gN L k x ++ [L.getD x []]:=if_pos h
theorem Kk{L:List (List Bool)}{k x:Nat}(h:¬ cL (L.getD x []) (L.getD x []).length=k):gN L k (x+1)=gN L k x:=if_neg h
theorem tq(l:List Report)(m:af)(now:Int)(he:av l m now=0){H:Heap}{L:Nat}(hL:H.length=L){id:Nat}{own:Bool}{z:Nat}(hid:H[id]?=some (.cells own z (l.flatMap ai))) :
  ak prog F.lA [slQ id 2 l.length,ao m,nI now] H []
   (Is (.slice (some ⟨L,0,some 1⟩) (e9 (told l m now)).length (e9 (told l m now)).length) (H ++ [.cells true 1 (dBL (e9 (told l m now)))])):=by
 subst hL
 refine w9 (fun i => .slice (some ⟨i,0,some 1⟩) (e9 (told l m now)).length (e9 (told l m now)).length) (Eq.mpr (CI l m now) ?_) (b9 0 l) (fun n=>gb n _) rfl (by simp[rn,bD]) (fun j=>by simp[rn,bT]) hid rfl
 delta uP jM fO jh Fr nl dN eY jq iB gV JQ JP oB rZ JJ xU jm6 jmt zO bU nk jmf iM nI slQ slN fk nw bw eR wR kbq lq c0q n1q
 have hn:=(opened he).len
 have hn2:=cz l m now
 have hcl:(conf (told l m now) l.length).length<=12*12:=Nat.le_trans (qf (told l m now) l.length) (Nat.mul_le_mul Om Om)
 have call:∀{H':Heap} {L:Nat},H'.length=L->H'[2]?=some (.cells true 2 ((conf (told l m now) l.length).flatMap bo))->ak prog F.ed [.slice none 0 0,nI ((l.length:Nat):Int),.slice (some ⟨2,0,some 1⟩) (conf (told l m now) l.length).length (conf (told l m now) l.length).length] H' [] (Is (.slice (some ⟨L,0,some 1⟩) (eK (told l m now)).length (eK (told l m now)).length) (H' ++ [.cells true 1 (dBL (eK (told l m now)))])):=by
  intro H' L h1 h2
  have:=Jp (conf (told l m now) l.length) (fun q hq=>((lY Om).1 hq).2.1) Om l.length [] (by show 0+_<=12;omega) h1 h2
  rw[show ([]:List Bool).length+l.length=l.length from Nat.zero_add _,show lst (conf (told l m now) l.length) l.length []=eK (told l m now) from by unfold eK;rw[cz]]at this
  exact this.wkA ⟨CT,ad _,dZ,trivial⟩
 have hAl:(eK (told l m now)).length<=4096:=by
  have h1:=(pA (conf (told l m now) (told l m now).length) (told l m now).length []).2
  have h2:=Nat.pow_le_pow_right (show 0<2 by decide) (show (told l m now).length<=12 by omega)
  unfold eK;omega
 have hAe:∀x,((eK (told l m now)).getD x []).length<=4294967296:=by
  intro x
  rcases Nat.lt_or_ge x (eK (told l m now)).length with h|h
  ·have:=((py (fR he)).1 (gY (d:=[]) h)).1;omega
  ·rw[List.getD_eq_getElem?_getD,List.getElem?_eq_none h];exact Nat.zero_le _
 have hG:e9 (told l m now)=gN (eK (told l m now)) (cV (eK (told l m now)) (eK (told l m now)).length) (eK (told l m now)).length:=rfl
 obtain ⟨A,hA⟩:∃A,eK (told l m now)=A:=⟨_,rfl⟩
 rw[hA]at call hAl hAe hG ⊢
 refine ⟨⟨rfl,trivial⟩,fun H' hl hd=>xz l m now he hl hd.1,⟨rfl,trivial⟩,fun H' hl hd=>call hl hd.1,rfl,Nat.zero_le _,?_,fun _=>rfl,?_⟩
 ·repeat' first|exact trivial|exact ad _|refine ⟨rfl,?_⟩|refine ⟨trivial,?_⟩|apply And.intro
 intro x hx
 refine ⟨_,rfl,aq (fun h =>?_) (fun h =>?_)⟩
 ·have hlt:x<A.length:=Om
  have e:cV A (x+1)=max (cV A x) (cL (A.getD x []) (A.getD x []).length):=rfl
  refine ⟨_,rfl,Om,uI hlt,_,trivial,fun H' _ _=>Dj _ (hAe x) H',ay Om,x+1,Om,Om,rfl,?_⟩
  repeat' first|(exact iEq (by rw[e];split <;> omega))|exact trivial|exact ad _|refine ⟨rfl,?_⟩|refine ⟨trivial,?_⟩|apply And.intro
 ·obtain rfl:x=A.length:=Om
  refine ⟨rfl,Nat.zero_le _,?_,fun _=>rfl,?_⟩
  ·repeat' first|exact trivial|exact ad _|exact bx _ _ _ (.inl rfl)|refine ⟨rfl,?_⟩|refine ⟨trivial,?_⟩|apply And.intro
  intro y hy
  have hgl:=FN A (cV A A.length) y
  refine ⟨_,rfl,aq (fun h2 =>?_) (fun h2 =>?_)⟩
  ·have hlt:y<A.length:=Om
   refine ⟨Om,uI hlt,_,trivial,fun H' _ _=>Dj _ (hAe y) H',_,rfl,cO (fun h3 =>?_) (fun h3 =>?_)⟩
   ·have hs:=Kl (show cL (A.getD y []) (A.getD y []).length=cV A A.length by omega)
    refine ⟨Om,uI hlt,⟨Om,by decide,⟨Nat.le_refl _,by rw[qe];omega⟩,⟨Nat.le_refl _,Nat.le_refl _⟩,rfl⟩,rfl,ay Om,y+1,Om,Om,rfl,?_⟩
    have hl1:(gN A (cV A A.length) (y+1)).length=(gN A (cV A A.length) y).length+1:=by rw[hs];exact aI
    have hc:List.take ((gN A (cV A A.length) y).length*1) (List.drop 0 (dBL (gN A (cV A A.length) y)))++List.take (1*1) (List.drop 0 [dB (A.getD y [])])=dBL (gN A (cV A A.length) (y+1)):=by rw[hs,Ie,takeD];rfl
    repeat' first|exact gb _ _|(exact (by rw[hl1];exact eJ Om))|(exact congrArg (fun l=>some (ah.cells true 1 l)) hc)|exact trivial|exact ad _|refine ⟨rfl,?_⟩|refine ⟨trivial,?_⟩|apply And.intro
   ·have hs:=Kk (show ¬ cL (A.getD y []) (A.getD y []).length=cV A A.length by omega)
    refine ⟨ay Om,y+1,Om,Om,rfl,?_⟩
    rw[hs]
    repeat' first|exact gb _ _|exact trivial|exact ad _|refine ⟨rfl,?_⟩|refine ⟨trivial,?_⟩|apply And.intro
  ·obtain rfl:y=A.length:=Om
   rw[hG]
   repeat' first|exact gb _ _|exact trivial|exact ad _|refine ⟨rfl,?_⟩|apply And.intro
theorem wc(l:List Report)(m:af)(now:Int)(h0:av l m now=0){H:Heap}{id:Nat}{own:Bool}{z:Nat}(hid:H[id]?=some (.cells own z (l.flatMap ai))) :
  ak prog F.lT [slQ id 2 l.length,ao m,nI now] H [] (Is (.tuple #[dB (bh (told l m now) l.length),cellV ((di (told l m now) (bI (told l m now))).getD aj)]) H):=by
 refine ix (Eq.mpr (F6 _ l m now) ?_) (cU (b9 0 l)) (by show (aw 0 (dB _)&&(true&&true))=true;rw[AP];rfl) [id] rfl (cT hid)
 delta wU jM fO bU Hj eY jg iB jmc jmk jmb JS vm jmw xQ nl iM Mi JR jmd JI JH nI slQ pt fk nw eR wR krq kbq ixq c0q n1q
 have o:=opened h0
 have hn:=o.len
 have hn2:=cz l m now
 have hsome:=(vD (told l m now)).2
 obtain ⟨hg1,hg2⟩:=Cq (fR h0) Om
 rw[hn2]at hg2
 rw[hg2]
 have htl:=i6 (told l m now) l.length
 have at0:(dBL (e9 (told l m now)))[0]?=some (dB (bh (told l m now) l.length)):=by
  have:=uI (y:=0) hg1
  rw[hg2]at this
  exact this
 refine ⟨⟨rfl,trivial⟩,fun H' hl hd=>tq l m now h0 hl hd.1,Om,at0,rfl,⟨Nat.zero_le _,rfl⟩,?_,fun _=>rfl,?_⟩
 ·repeat' first|exact (gE _ 1 _).symm|exact trivial|exact rfl|exact ad _|refine ⟨rfl,?_⟩|refine ⟨trivial,?_⟩|apply And.intro
 rintro ⟨x,c⟩ ⟨hx,hc⟩
 dsimp only at hx hc ⊢
 refine aq (fun h =>?_) (fun h =>?_)
 ·have hlt:x<l.length:=Om
  have g1:=lO (m:=m) (now:=now) hlt
  have ht:=jW hc
  have hq:(bh (told l m now) l.length).getD x false=bM (told l m now).length (bI (told l m now)) x:=eP hlt
  refine ⟨Om,lj Om,pZ (fun k =>?_) (fun k =>?_)⟩
  ·rw[show bM (told l m now).length (bI (told l m now)) x=true from hq.symm.trans k,if_pos rfl,g1]at ht
   have hok:okC (bK c (bW (l.getD x ag) m now)):=by
    refine Classical.byContradiction fun hk =>?_
    rw[if_neg hk]at ht
    have:=oU ht (n:=(told l m now).length) Om
    unfold di at hsome
    rw[this]at hsome;cases hsome
   rw[if_pos hok]at ht
   refine ⟨Om,da hlt,_,trivial,fun H' _ _=>tn _ m now (o.each x hlt).1 o.rates ⟨(o.each x hlt).2,o.hour.2⟩ H',_,trivial,fun H' _ _=>tt _ _ H',ay Om,(x+1,bK c (bW (l.getD x ag) m now)),⟨hlt,ht⟩,(show l.length-(x+1)<l.length-x by omega),?_⟩
   repeat' first|exact (gE _ 1 _).symm|exact trivial|exact rfl|exact ad _|refine ⟨rfl,?_⟩|refine ⟨trivial,?_⟩|apply And.intro
  ·rw[show bM (told l m now).length (bI (told l m now)) x=false from hq.symm.trans k,if_neg (by decide)]at ht
   refine ⟨ay Om,(x+1,c),⟨hlt,ht⟩,(show l.length-(x+1)<l.length-x by omega),?_⟩
   repeat' first|exact (gE _ 1 _).symm|exact trivial|exact rfl|exact ad _|refine ⟨rfl,?_⟩|refine ⟨trivial,?_⟩|apply And.intro
 ·obtain rfl:x=l.length:=Om
  have:(di (told l m now) (bI (told l m now))).getD aj=c:=by
   unfold di
   rw[hn2,hc];rfl
  rw[this]
theorem xd(σ:Nat->Option Nat)(b:List Bool)(c:Cell)(e:Int):rn σ 3 (.tuple #[dB b,cellV c,nI e]) = .tuple #[dB b,cellV c,nI e]:=by
 show Value.tuple ⟨[rn σ (0+2) (dB b),_,_]⟩=_
 rw[gE];rfl
theorem La{l:List Report}{m:af}{now:Int}(h:av l m now=0):aB l m now=(bh (told l m now) l.length,(di (told l m now) (bI (told l m now))).getD aj,0):=if_pos h
theorem Jq(l:List Report)(m:af)(now:Int){H:Heap}{id:Nat}{own:Bool}{z:Nat}(hid:H[id]?=some (.cells own z (l.flatMap ai))) :
  ak prog F.nU [slQ id 2 l.length,ao m,nI now] H [] (Is (.tuple #[dB (aB l m now).1,cellV (aB l m now).2.1,nI (aB l m now).2.2]) H):=by
 have key:=fun hc=>rU (css:=[l.flatMap ai]) (v:=.tuple #[dB (aB l m now).1,cellV (aB l m now).2.1,nI (aB l m now).2.2]) (new:=[]) (Eq.mpr (KE l m now) hc) (cU (b9 0 l))
  (by show (dD (0+2) (dB _)&&_)=true;rw[OL];rfl) (xd _ _ _ _) rfl rfl (H:=H) [id] rfl (cT hid)
 rw[xd,show H++(List.map (fun x:Bool×ah=>x.2) ([]:List (Bool×ah))).map (rno (bT (0 + [l.flatMap ai].length) H.length) 3)=H from List.append_nil _]at key
 refine key ?_
 clear key
 delta Ee jM fO Mg Mj iM nI slQ fk c1q
 refine ⟨_,⟨rfl,trivial⟩,fun H' _ hd=>l5 l m now hd.1,aZ (fun h0 =>?_) (fun h0 =>?_)⟩
 ·rw[uu h0]
  repeat' first|exact CT|exact trivial|exact ad _|refine aD ?_ ?_|refine dz ?_|refine ⟨rfl,?_⟩|apply And.intro
 ·rw[La h0]
  exact ⟨⟨rfl,trivial⟩,fun H' hl hd=>wc l m now h0 hd.1,rfl,yA (xd _ _ _ _).symm,trivial⟩
theorem G1(a b:List Int)(hab:a.length=b.length)(ha:a.length<=4294967296)(H:Heap):ak prog F.nb [dI a,dI b] H [] (Is (.bool (decide (cmpL a b<0))) H):=by
 refine cQ 40 (fun σ=>by rw[List.map_cons,List.map_cons,List.map_nil,iJ σ 2,iJ σ 2]) rfl (Eq.mpr (I1 _ a b) ?_) H
 delta A9 eY jq L8 gV Hn jmx oB Mk nI fk nw lq
 repeat' first|(refine ⟨rfl,⟨Nat.zero_le _,rfl⟩,?_,fun _=>rfl,?_⟩)|exact (iJ _ 0 _).symm|exact trivial|refine ⟨rfl,?_⟩|refine ⟨trivial,?_⟩|apply And.intro
 rintro x ⟨h1,h3⟩
 have hd:=rc x a b h1 Om h3
 refine aq (fun h =>?_) (fun h =>?_)
 ·have hx:x<a.length:=Om
  have hy:x<b.length:=Om
  have ea:a.drop x=a.getD x 0 :: a.drop (x+1):=by rw[List.drop_eq_getElem_cons hx,List.getD_eq_getElem?_getD,List.getElem?_eq_getElem hx];rfl
  have eb:b.drop x=b.getD x 0 :: b.drop (x+1):=by rw[List.drop_eq_getElem_cons hy,List.getD_eq_getElem?_getD,List.getElem?_eq_getElem hy];rfl
  rw[ea,eb,mS]at hd
  refine ⟨Om,eB hx,Om,eB hy,aZ (fun q =>?_) (fun q =>?_)⟩
  ·refine ⟨Om,eB hx,Om,eB hy,bEq ?_⟩
   rw[hd]
   by_cases g:a.getD x 0<b.getD x 0
   ·rw[if_pos g,decide_eq_true g];rfl
   ·rw[if_neg g,if_pos Om,decide_eq_false g];rfl
  ·refine ⟨ay Om,x+1,⟨Om,?_⟩,Om,rfl,?_⟩
   ·rw[List.take_add_one,List.take_add_one,h3]
    rw[List.getD_eq_getElem?_getD,List.getElem?_eq_getElem hx,List.getD_eq_getElem?_getD,List.getElem?_eq_getElem hy]at q
    rw[List.getElem?_eq_getElem hx,List.getElem?_eq_getElem hy]
    exact congrArg (fun z=>List.take x b ++ [z]) q
   ·repeat' first|exact (iJ _ 0 _).symm|exact trivial|refine ⟨rfl,?_⟩|refine ⟨trivial,?_⟩|apply And.intro
 ·obtain rfl:x=a.length:=Om
  rw[List.drop_length,hab,List.drop_length]at hd
  exact bEq (by rw[hd];rfl)
end
end Go.Proofs.YthcjliffpebjaaaGreat
namespace Go.Proofs.YthcjliffpebjaaaGreat
open Go Go.K Go.Sort
noncomputable section
attribute [local irreducible] vF dt
theorem GJ{b:List Bool}{x:Nat}(h:b.getD x false=true):cr b (x+1)=cr b x:=if_pos h
theorem GI{b:List Bool}{x:Nat}(h:b.getD x false=false):cr b (x+1)=cr b x ++ [((x:Nat):Int)]:=if_neg (by rw[h];decide)
theorem xp(b:List Bool):∀x,x<=b.length->(cr b x).length+cL b x=x
 |0,_=>rfl
 |x+1,h=>by
  have ih:=xp b x Om
  rw[lN Om]
  cases hv:b.getD x false with
  |true=>rw[GJ hv];simp;omega
  |false=>rw[GI hv,aI];simp;omega
theorem xo{n s:Nat}:∀{x:Nat},x<=n->cr (iK n s) x=eo n s x
 |0,_=>rfl
 |x+1,h=>by
  have e:(iK n s).getD x false=bM n s x:=hU Om
  cases hv:bM n s x with
  |true=>rw[GJ (e.trans hv),sr hv,xo Om]
  |false=>rw[GI (e.trans hv),sq (by rw[hv];decide),xo Om]
theorem yX{L:List (List Bool)}{x:Nat}(h:x<=L.length):(ig L x).length=x:=by
 unfold ig
 rw[oX,List.length_map,List.length_take];omega
theorem EN{ts:List Cell}(hr:ec ts)(hn:ts.length<=12):ig (e9 ts) (e9 ts).length=aN ts:=by
 unfold ig aN
 rw[List.take_length,DC hr hn,List.map_map]
 congr 1
 refine List.ext_getElem (by rw[List.length_map,sC]) fun i h1 h2 =>?_
 rw[List.length_map]at h1
 have e:(blL ts (bt ts).length)[i]=eo ts.length ((bt ts).getD i 0) ts.length:=by
  rw[<- dh (d:=[]) h2];exact eP h1
 rw[e,List.getElem_map,dh h1]
 show cr (iK _ _) (iK _ _).length=_
 rw[fY,xo (Nat.le_refl _)]
theorem Kj{ts:List Cell}(hr:ec ts)(hn:ts.length<=12){b:List Bool}(hb:b∈e9 ts):b.length=ts.length/\(cr b b.length).length+td ts=ts.length:=by
 obtain ⟨h1,_,h3⟩:=(pz hr hn).1 hb
 have:=xp b b.length (Nat.le_refl _)
 rw[gQ _ _ (Nat.le_refl _),h1,h3]at this
 rw[h1];exact ⟨rfl,this⟩
theorem GT{L:List (List Bool)}{x:Nat}{s:List Int}(h:s∈ig L x):∃b∈L,s=cr b b.length:=by
 unfold ig lz at h
 rw[List.mem_mergeSort]at h
 obtain ⟨b,hb,rfl⟩:=List.mem_map.1 h
 exact ⟨b,List.mem_of_mem_take hb,rfl⟩
abbrev leL(a b:List Int):Prop:=(!ltOf cmpL b a)=true
theorem sv{a b:List Int}:leL a b ↔ cmpL a b<=0:=by
 show (!ltOf cmpL b a)=true ↔ _
 rw[Bool.not_eq_true',gT,eA a b];omega
theorem wb{a b c:List Int}(h1:leL a b)(h2:leL b c):leL a c:=by
 have h1:ltOf cmpL b a=false:=by simpa using h1
 have h2:ltOf cmpL c b=false:=by simpa using h2
 show (!ltOf cmpL c a)=true
 rw[Je.ntrans _ _ _ h2 h1];rfl
theorem sO(A:List (List Int)):(lz A).Pairwise leL :=
 List.pairwise_mergeSort (le:=fun x y => !ltOf cmpL y x) (fun a b c h1 h2=>wb h1 h2) (fun a b=>by
  show ((!ltOf cmpL b a) ||(!ltOf cmpL a b))=true
  cases h1:ltOf cmpL b a with
  |false=>rfl
  |true =>
   have h2:=Db.1 h1
   have h3:=eA b a
   rw[gT.2 Om];rfl) A
theorem J6{A:List (List Int)}{s:List Int}{k:Nat}(hk:k<=A.length)(h1:∀j,k<=j->j<A.length->cmpL s ((lz A).getD j [])<0)(h2:k=0∨¬ cmpL s ((lz A).getD (k-1) [])<0):ft (lz A) s k=lz (A ++ [s]):=by
 have hS:=sO A
 have hl:=oX A
 refine List.Perm.eq_of_pairwise (le:=leL) (fun a b _ _ p q=>Ld a b (by have:=sv.1 q;rw[gT,eA b a];omega) (by have:=sv.1 p;rw[gT,eA a b];omega)) ?_ (sO _) ?_
 ·unfold ft
  rw[List.pairwise_append,List.pairwise_cons]
  have low:∀a∈(lz A).take k,leL a s:=by
   intro a ha
   obtain ⟨i,hi,rfl⟩:=List.mem_iff_getElem.1 ha
   rw[List.length_take]at hi
   rw[List.getElem_take]
   rcases h2 with h2|h2
   ·omega
   ·rw[dh Om]at h2
    have hs:leL (lz A)[k-1] s:=by rw[sv,eA s];omega
    rcases Nat.lt_or_ge i (k-1) with g|g
    ·exact wb (List.pairwise_iff_getElem.1 hS i (k-1) Om Om g) hs
    ·have e:i=k-1:=Om
     subst e;exact hs
  refine ⟨hS.sublist (List.take_sublist ..),⟨fun b hb =>?_,hS.sublist (List.drop_sublist ..)⟩,fun a ha b hb =>?_⟩
  ·obtain ⟨i,hi,rfl⟩:=List.mem_iff_getElem.1 hb
   rw[List.length_drop]at hi
   rw[List.getElem_drop,sv]
   have:=h1 (k+i) Om Om
   rw[dh Om]at this
   omega
  ·rcases List.mem_cons.1 hb with rfl|hb
   ·exact low a ha
   ·obtain ⟨i,hi,rfl⟩:=List.mem_iff_getElem.1 ha
    obtain ⟨j,hj,rfl⟩:=List.mem_iff_getElem.1 hb
    rw[List.length_take]at hi
    rw[List.length_drop]at hj
    rw[List.getElem_take,List.getElem_drop]
    exact List.pairwise_iff_getElem.1 hS i (k+j) Om Om Om
 ·unfold ft
  refine List.perm_middle.trans ?_
  rw[List.take_append_drop]
  refine List.Perm.trans ?_ (List.mergeSort_perm (A ++ [s]) _).symm
  exact ((List.mergeSort_perm A _).cons s).trans (List.perm_append_singleton s A).symm
theorem EM{L:List (List Bool)}{x k:Nat}(hx:x<L.length)(hk:k<=x)(h1:∀j,k<=j->j<x->cmpL (cr (L.getD x []) (L.getD x []).length) ((ig L x).getD j [])<0)
  (h2:k=0∨¬ cmpL (cr (L.getD x []) (L.getD x []).length) ((ig L x).getD (k-1) [])<0):ft (ig L x) (cr (L.getD x []) (L.getD x []).length) k=ig L (x+1):=by
 have hl:((L.take x).map fun b=>cr b b.length).length=x:=by rw[List.length_map,List.length_take];omega
 have e:(L.take (x+1)).map (fun b=>cr b b.length)=(L.take x).map (fun b=>cr b b.length) ++ [cr (L.getD x []) (L.getD x []).length]:=by
  rw[List.take_add_one,List.getElem?_eq_getElem hx,List.map_append,dh hx];rfl
 unfold ig at h1 h2 ⊢
 rw[e]
 exact J6 (by rw[hl];exact hk) (fun j a b=>h1 j a (by rw[hl]at b;exact b)) h2
theorem ww{M:List (List Int)}{s:List Int}{k:Nat}(hk:k<=M.length):(ft M s k).length=M.length+1:=by
 unfold ft
 rw[aI,List.length_cons,List.length_take,List.length_drop];omega
theorem mN{M:List (List Int)}{s:List Int}{k:Nat}(hk:k<=M.length)(i:Nat):(ft M s k)[i]?=if i<k then M[i]? else if i=k then some s else M[i-1]? := by
 unfold ft
 by_cases h:i<k
 ·rw[if_pos h,List.getElem?_append_left (by rw[List.length_take];omega),List.getElem?_take,if_pos h]
 ·rw[if_neg h,List.getElem?_append_right (by rw[List.length_take];omega),List.length_take,show min k M.length=k by omega]
  by_cases e:i=k
  ·subst e;rw[if_pos rfl,Nat.sub_self];rfl
  ·rw[if_neg e,show i-k=(i-k-1)+1 by omega,List.getElem?_cons_succ,List.getElem?_drop]
   congr 1;omega
theorem Hu{M:List (List Int)}{s:List Int}{k:Nat}(hk:k<=M.length):(ft M s k).getD k []=s:=by
 rw[List.getD_eq_getElem?_getD,mN hk,if_neg Om,if_pos rfl];rfl
theorem Fz{M:List (List Int)}{s:List Int}{k:Nat}(hk:k<=M.length)(h0:0<k):(ft M s k).getD (k-1) []=M.getD (k-1) []:=by
 rw[List.getD_eq_getElem?_getD,mN hk,if_pos Om,List.getD_eq_getElem?_getD]
theorem Cf{M:List (List Int)}{s:List Int}{k:Nat}(hk:k<=M.length)(h0:0<k):((ft M s k).set k (M.getD (k-1) [])).set (k-1) s=ft M s (k-1):=by
 refine List.ext_getElem? fun i =>?_
 rw[List.getElem?_set,List.getElem?_set,List.length_set,ww hk,mN hk,mN Om]
 by_cases h1:k-1=i
 ·subst h1;rw[if_pos rfl,if_pos Om,if_neg Om,if_pos rfl]
 ·rw[if_neg h1]
  by_cases h2:k=i
  ·subst h2
   rw[if_pos rfl,if_pos Om,if_neg Om,if_neg Om,dh Om,List.getElem?_eq_getElem Om]
  ·rw[if_neg h2]
   by_cases h3:i<k-1
   ·rw[if_pos Om,if_pos h3]
   ·rw[if_neg Om,if_neg Om,if_neg h3,if_neg Om]
theorem Ic{M:List (List Int)}{s:List Int}{k:Nat}(hk:k<=M.length)(h0:0<k):bQ (bQ (dIL (ft M s k)) k [dI (M.getD (k-1) [])]) (k-1) [dI s]=dIL (ft M s (k-1)):=by
 show ((dIL (ft M s k)).set k (dI (M.getD (k-1) []))).set (k-1) (dI s)=_
 rw[<- Cf hk h0]
 unfold dIL
 rw[List.map_set,List.map_set]
theorem ym{s:List Int}(h:s.Pairwise (· < ·))(i:Int):s.count i=if i∈s then 1 else 0:=by
 induction s with
 |nil=>rfl
 |cons a s ih =>
  obtain ⟨h1,h2⟩:=List.pairwise_cons.1 h
  rw[List.count_cons,ih h2]
  by_cases e:a=i
  ·subst e
   rw[if_neg (fun hm=>by have:=h1 _ hm;omega)];simp
  ·have e2:i≠a:=fun q=>e q.symm
   simp[e,e2]
theorem sk{s:List Int}{z:Nat}(hz:z<s.length)(i:Int):(s.take (z+1)).count i=(s.take z).count i+if s.getD z 0=i then 1 else 0:=by
 rw[List.take_add_one,List.getElem?_eq_getElem hz,List.count_append,dh hz]
 by_cases e:s[z]=i
 ·simp[e]
 ·simp[e]
theorem FK(L:List (List Int))(n:Nat):cd L n n=aE (cJ L) n:=by
 unfold cd aE
 exact List.map_congr_left fun i hi=>if_pos (List.mem_range.1 hi)
end
end Go.Proofs.YthcjliffpebjaaaGreat
namespace Go.Proofs.YthcjliffpebjaaaGreat
noncomputable section
attribute [local irreducible] vF iP dt
theorem Ko{L:List (List Int)}{y:Nat}(hy:y<L.length):(dIL L)[0+y*1]?=some (dI (L.getD y [])):=by
 have:=oK hy
 rwa [Int.toNat_natCast]at this
set_option maxHeartbeats 1000000 in
theorem zr(l:List Report)(m:af)(now:Int)(he:av l m now=0){H:Heap}{L:Nat}(hL:H.length=L){id:Nat}{own:Bool}{z:Nat}(hid:H[id]?=some (.cells own z (l.flatMap ai))) :
  ak prog F.na [slQ id 2 l.length,ao m,nI now] H []
   (Is (.slice (some ⟨L,0,some 1⟩) (aN (told l m now)).length (aN (told l m now)).length) (H ++ [.cells true 1 (dIL (aN (told l m now)))])):=by
 subst hL
 refine w9 (fun i => .slice (some ⟨i,0,some 1⟩) (aN (told l m now)).length (aN (told l m now)).length) (Eq.mpr (IZ l m now) ?_) (b9 0 l) (fun n=>dE n _) rfl (by simp[rn,bD]) (fun j=>by simp[rn,bT]) hid rfl
 delta A8 jM fO bU eY jq rZ jg iB xU JK nl rY zO jmr L7 vm Mf im jm4 jmm jmg Me Md Mh cW jmi nk iM nI slQ slN fk nw bw eR wR kbq ixq lq apq c0q n1q
 have hn:=(opened he).len
 have hn2:=cz l m now
 have hr:=fR he
 have hB:=EN hr Om
 have hGo:∀b∈e9 (told l m now),b.length=l.length/\(cr b b.length).length+td (told l m now)=l.length:=fun b hb=>by
  have:=Kj hr Om hb
  rwa [hn2]at this
 have hGl:(e9 (told l m now)).length<=4096:=by
  have h1:(e9 (told l m now)).length=(bt (told l m now)).length:=by rw[<- DB hr Om,List.length_map]
  have h2:=mV (told l m now) (2 ^ (told l m now).length)
  have h3:=(ls (show (told l m now).length<=12 by omega)).2
  unfold bt at h1;omega
 have hBl:(aN (told l m now)).length=(e9 (told l m now)).length:=by rw[<- hB,yX (Nat.le_refl _)]
 have K9:∀{H':Heap} {L:Nat},H'.length=L->H'[0]?=some (.cells false 0 (l.flatMap ai))->_:=fun hl hd=>tq l m now he hl hd
 generalize td (told l m now)=mp at hGo
 generalize e9 (told l m now)=G at K9 hGo hGl hBl hB ⊢
 refine ⟨⟨rfl,trivial⟩,fun H' hl hd=>K9 hl hd.1,rfl,Nat.zero_le _,?_,fun _=>rfl,?_⟩
 ·repeat' first|exact trivial|exact ad _|exact bx _ _ _ (.inl rfl)|refine ⟨rfl,?_⟩|refine ⟨trivial,?_⟩|apply And.intro
 intro x hx
 refine ⟨_,rfl,aq (fun h =>?_) (fun h =>?_)⟩
 ·have hlt:x<G.length:=Om
  obtain ⟨hbl,hb⟩:=hGo _ (gY (d:=[]) hlt)
  have hrs:=fun k => @EM G x k hlt
  rw[hbl]at hrs hb
  have hrl:=yX (show x<=G.length by omega)
  have hMe:∀j,j<x->((ig G x).getD j []).length=(cr (G.getD x []) l.length).length:=fun j hj=>by
   obtain ⟨b,hb1,hb2⟩:=GT (gY (d:=[]) (show j<(ig G x).length by omega))
   have:=(hGo b hb1).2
   rw[hb2]
   omega
  refine ⟨rfl,Nat.zero_le _,?_,fun _=>rfl,?_⟩
  ·repeat' first|exact trivial|exact ad _|exact bx _ _ _ (.inl rfl)|refine ⟨rfl,?_⟩|refine ⟨trivial,?_⟩|apply And.intro
  intro y hy
  have hol:(cr (G.getD x []) y).length<=y:=by have:=xp (G.getD x []) y Om;omega
  refine aq (fun h2 =>?_) (fun h2 =>?_)
  ·refine ⟨Om,uI hlt,Om,lj Om,cy (pZ (fun h3 =>?_) (fun h3 =>?_))⟩
   ·have hl1:=GJ h3
    refine ⟨ay Om,y+1,Om,Om,rfl,?_⟩
    rw[hl1]
    repeat' first|exact ee _ _|exact trivial|exact ad _|refine ⟨rfl,?_⟩|refine ⟨trivial,?_⟩|apply And.intro
   ·have hl1:=GI h3
    have hl2:(cr (G.getD x []) (y+1)).length=(cr (G.getD x []) y).length+1:=by rw[hl1,aI];rfl
    refine ⟨⟨Om,by decide,⟨Nat.le_refl _,by rw[aK bZ];omega⟩,⟨by decide,Nat.le_refl _⟩,rfl⟩,rfl,ay Om,y+1,Om,Om,rfl,?_⟩
    rw[hl2]
    repeat' first|exact ee _ _|(exact congrArg (fun l=>some (ah.cells true 1 l)) (by rw[hl1];exact cF bZ _ ((y:Nat):Int) rfl))|exact trivial|exact ad _|exact eJ Om|refine ⟨rfl,?_⟩|refine ⟨trivial,?_⟩|apply And.intro
  ·obtain rfl:y=l.length:=Om
   generalize hs:cr (G.getD x []) l.length=s at hrs hMe hb hol ⊢
   generalize hM:ig G x=M at hrs hMe hrl ⊢
   have hc0:List.take (x*1) (List.drop 0 (dIL M))++List.take (1*1) (List.drop 0 [dI s])=dIL (ft M s (x-0)):=by
    have e1:List.take (x*1) (List.drop 0 (dIL M))=dIL M:=by rw[List.drop_zero,List.take_of_length_le (by rw[qd];omega)]
    have e2:ft M s (x-0)=M ++ [s]:=by
     show List.take x M++s :: List.drop x M=_
     rw[List.take_of_length_le Om,List.drop_of_length_le Om]
    rw[e1,e2,AO];rfl
   refine ⟨⟨Om,by decide,⟨Nat.le_refl _,by rw[qd];omega⟩,⟨Nat.le_refl _,Nat.le_refl _⟩,rfl⟩,rfl,ay Om,rfl,⟨Nat.zero_le _,fun j h1 h2=>Om⟩,?_,fun _=>rfl,?_⟩
   ·repeat' first|exact (iJ _ 0 _).symm|exact dE _ _|(exact congrArg (fun l=>some (ah.cells true 1 l)) hc0)|exact trivial|exact ad _|refine ⟨rfl,?_⟩|refine ⟨trivial,?_⟩|apply And.intro|exact iEq Om
   rintro k ⟨hk,hlow⟩
   have fin:ft M s (x-k)=ig G (x+1)->((nI (IntKind.wrap .i64 (((x:Nat):Int)+1)):Value)=nI (((x:Nat):Int)+1)):=fun _=>ay Om
   refine aq (fun h3 =>?_) (fun h3 =>?_)
   ·have e:Int.toNat ((((x-k:Nat)):Int)-1)=x-k-1:=Om
    have g1:=Hu (M:=M) (s:=s) (k:=x-k) Om
    have g2:=Fz (M:=M) (s:=s) (k:=x-k) Om Om
    have hil:=ww (M:=M) (s:=s) (k:=x-k) Om
    rw[e,g1,g2]
    have la:(dIL (ft M s (x-k)))[0+Int.toNat (((x-k:Nat)):Int)*1]?=some (dI s):=by rw[oK Om,g1]
    have lb:(dIL (ft M s (x-k)))[0+(x-k-1)*1]?=some (dI (M.getD (x-k-1) [])):=by rw[Ko Om,g2]
    have hme:=hMe (x-k-1) Om
    refine ⟨Om,la,ay Om,Om,lb,_,trivial,fun H' _ _=>G1 _ _ hme.symm Om H',aq (fun h4 =>?_) (fun h4 =>?_)⟩
    ·have hsw:=Ic (M:=M) (s:=s) (k:=x-k) Om Om
     have hset:∀(cs:List Value) (i:Nat) (v:Value),(bQ cs i [v]).length=cs.length:=fun cs i v=>List.length_set ..
     refine ⟨ay Om,ay Om,Om,lb,Om,la,Om,by rw[qd,hil,Int.toNat_natCast];omega,rfl,Om,by rw[hset,qd,hil];omega,rfl,ay Om,k+1,⟨Om,fun j h5 h6 =>?_⟩,Om,rfl,?_⟩
     ·rcases Nat.lt_or_ge j (x-k) with g|g
      ·rw[show j=x-k-1 by omega];exact h4
      ·exact hlow j g h6
     ·repeat' first|exact (iJ _ 0 _).symm|exact dE _ _|(exact congrArg (fun l=>some (ah.cells true 1 l)) (by rw[Int.toNat_natCast,show 0+(x-k)*1=x-k by omega,show 0+(x-k-1)*1=x-k-1 by omega,hsw,show x-(k+1)=x-k-1 by omega]))|exact trivial|exact ad _|refine ⟨rfl,?_⟩|refine ⟨trivial,?_⟩|apply And.intro|exact iEq Om
    ·have hf:=hrs (x-k) Om hlow (.inr h4)
     rw[hf]
     refine ⟨ay Om,x+1,Om,Om,rfl,?_⟩
     repeat' first|exact dE _ _|exact trivial|exact ad _|exact eJ Om|refine ⟨rfl,?_⟩|refine ⟨trivial,?_⟩|apply And.intro
   ·have hf:=hrs (x-k) Om hlow (.inl Om)
    rw[hf]
    refine ⟨ay Om,x+1,Om,Om,rfl,?_⟩
    repeat' first|exact dE _ _|exact trivial|exact ad _|exact eJ Om|refine ⟨rfl,?_⟩|refine ⟨trivial,?_⟩|apply And.intro
 ·obtain rfl:x=G.length:=Om
  exact ⟨rfl,by rw[hBl];exact ad _,⟨by rw[hB],dE _ _⟩,trivial⟩
theorem Ju(l:List Report)(m:af)(now:Int){H:Heap}{L:Nat}(hL:H.length=L){id:Nat}{own:Bool}{z:Nat}(hid:H[id]?=some (.cells own z (l.flatMap ai))) :
  ak prog F.oa [slQ id 2 l.length,ao m,nI now] H []
   (Is (.tuple #[.slice (some ⟨L,0,some 1⟩) (aF l m now).1.length (aF l m now).1.length,nI (aF l m now).2]) (H ++ [.cells true 1 (dIL (aF l m now).1)])):=by
 subst hL
 refine w9 (fun i => .tuple #[.slice (some ⟨i,0,some 1⟩) (aF l m now).1.length (aF l m now).1.length,nI (aF l m now).2]) (Eq.mpr (KL l m now) ?_) (b9 0 l) (fun n=>dE n _) rfl (by simp[rn,bD]) (fun j=>by simp[rn,bT]) hid rfl
 delta El jM fO Fo nk vk cW iM nI slQ fk kbq c1q n1q
 refine ⟨_,⟨rfl,trivial⟩,fun H' _ hd=>l5 l m now hd.1,aZ (fun h0 =>?_) (fun h0 =>?_)⟩
 ·rw[uy h0]
  repeat' first|exact trivial|exact ad _|refine aD ?_ ?_|exact bx _ _ _ (.inl rfl)|refine dz ?_|refine ⟨rfl,?_⟩|refine ⟨trivial,?_⟩|apply And.intro
 ·rw[ux h0]
  refine ⟨⟨rfl,trivial⟩,fun H' hl hd=>zr l m now h0 hl hd.1,?_⟩
  repeat' first|exact dE _ _|exact trivial|exact ad _|refine ⟨rfl,?_⟩|apply And.intro
theorem Js(l:List Report)(m:af)(now:Int){H:Heap}{L:Nat}(hL:H.length=L){id:Nat}{own:Bool}{z:Nat}(hid:H[id]?=some (.cells own z (l.flatMap ai))) :
  ak prog F.nX [slQ id 2 l.length,ao m,nI now] H []
   (Is (.tuple #[.slice (some ⟨L,0,some 1⟩) (a6 l m now).1.length (a6 l m now).1.length,nI (a6 l m now).2]) (H ++ [.cells true 1 ((a6 l m now).1.flatMap aA)])):=by
 subst hL
 refine w9 (fun i => .tuple #[.slice (some ⟨i,0,some 1⟩) (a6 l m now).1.length (a6 l m now).1.length,nI (a6 l m now).2]) (Eq.mpr (KI l m now) ?_) (b9 0 l) (fun n=>ee n _) rfl (by simp[rn,bD]) (fun j=>by simp[rn,bT]) hid rfl
 delta Ei jM fO Fo nk vk cW eY jq rZ jg iB xU nl gV jmu JN jmo jma zO jm5 iM nI slQ slN fk nw eR wR kbq lq apq c1q n1q
 refine ⟨_,⟨rfl,trivial⟩,fun H' _ hd=>l5 l m now hd.1,aZ (fun h0 =>?_) (fun h0 =>?_)⟩
 ·rw[uw h0]
  repeat' first|exact trivial|exact ad _|refine aD ?_ ?_|exact bx _ _ _ (.inl rfl)|refine dz ?_|refine ⟨rfl,?_⟩|refine ⟨trivial,?_⟩|apply And.intro
 have hn:=(opened h0).len
 have hn2:=cz l m now
 have hr:=fR h0
 refine ⟨⟨rfl,trivial⟩,fun H' hl hd=>zr l m now h0 hl hd.1,?_⟩
 have hBl:(aN (told l m now)).length<=4096:=by rw[my];exact Nat.le_trans (mV _ _) (ls (show (told l m now).length<=12 by omega)).2
 have hBe:∀s∈aN (told l m now),s.length<=12/\s.Pairwise (· < ·):=by
  intro s hs
  obtain ⟨x,_,rfl⟩:=lZ hs
  exact ⟨Nat.le_trans (kc ..) Om,xn ..⟩
 have hf:a6 l m now=(aE (cJ (aN (told l m now))) l.length,0):=by rw[uv h0,FK]
 rw[hf]
 generalize aN (told l m now)=B at hBl hBe ⊢
 have htl:∀n,(aE (cJ B) n).length=n:=fun n=>bY ..
 refine ⟨rfl,Nat.zero_le _,?_,fun _=>rfl,?_⟩
 ·repeat' first|exact trivial|exact ad _|exact bx _ _ _ (.inl rfl)|refine ⟨rfl,?_⟩|refine ⟨trivial,?_⟩|apply And.intro
 intro x hx
 refine aq (fun h =>?_) (fun h =>?_)
 ·refine ⟨rfl,Nat.zero_le _,?_,fun _=>rfl,?_⟩
  ·repeat' first|exact trivial|exact ad _|refine ⟨rfl,?_⟩|refine ⟨trivial,?_⟩|apply And.intro
  intro y hy
  have hic:=zV B ((x:Nat):Int) y
  refine aq (fun h2 =>?_) (fun h2 =>?_)
  ·have hlt2:y<B.length:=Om
   have hsu:=t6 (i:=((x:Nat):Int)) hlt2
   obtain ⟨hsl,hso⟩:=hBe _ (gY (d:=[]) hlt2)
   have hcs:=ym hso ((x:Nat):Int)
   refine ⟨rfl,Nat.zero_le _,?_,fun _=>rfl,?_⟩
   ·repeat' first|exact trivial|exact ad _|refine ⟨rfl,?_⟩|refine ⟨trivial,?_⟩|apply And.intro
   intro z hz
   have hct:List.count ((x:Nat):Int) (List.take z (B.getD y []))<=z:=Nat.le_trans List.count_le_length (by rw[List.length_take];omega)
   refine ⟨Om,oK hlt2,aq (fun h3 =>?_) (fun h3 =>?_)⟩
   ·have hz3:z<(B.getD y []).length:=Om
    have hcu:=sk hz3 ((x:Nat):Int)
    refine ⟨Om,oK hlt2,Om,eB hz3,cO (fun h4 =>?_) (fun h4 =>?_)⟩
    ·rw[if_pos h4]at hcu
     refine ⟨ay Om,ay Om,z+1,Om,Om,rfl,?_⟩
     repeat' first|exact trivial|exact ad _|refine ⟨rfl,?_⟩|refine ⟨trivial,?_⟩|apply And.intro|exact iEq Om
    ·rw[if_neg h4]at hcu
     refine ⟨ay Om,z+1,Om,Om,rfl,?_⟩
     repeat' first|exact trivial|exact ad _|refine ⟨rfl,?_⟩|refine ⟨trivial,?_⟩|apply And.intro|exact iEq Om
   ·have hz4:List.take z (B.getD y [])=B.getD y []:=List.take_of_length_le Om
    rw[hz4]
    refine ⟨ay Om,y+1,Om,Om,rfl,?_⟩
    repeat' first|(exact iEq (by rw[hsu,hcs]))|exact trivial|exact ad _|refine ⟨rfl,?_⟩|refine ⟨trivial,?_⟩|apply And.intro
  ·obtain rfl:y=B.length:=Om
   have app:∀v:Int,cJ B x=v->List.take (x*1) (List.drop 0 (List.flatMap aA (aE (cJ B) x)))++List.take (1*1) (List.drop 0 [nI v])=List.flatMap aA (aE (cJ B) (x+1)):=by
    intro v hv
    rw[ew,hv]
    exact cF bZ _ v (htl x).symm
   refine aq (fun h3=>⟨vbT (decide_eq_true h3),cO (fun h4 =>?_) (fun h4 =>?_)⟩) (fun h3=>⟨vbF (decide_eq_false h3),?_⟩)
   ·have hg:cJ B x=2:=(if_neg Om).trans (if_pos Om)
    refine ⟨⟨Om,by decide,⟨Nat.le_refl _,by rw[aK bZ,htl];omega⟩,⟨by decide,Nat.le_refl _⟩,rfl⟩,rfl,ay Om,x+1,Om,Om,rfl,?_⟩
    repeat' first|exact ee _ _|(exact congrArg (fun l=>some (ah.cells true 1 l)) (app 2 hg))|exact trivial|exact ad _|exact eJ Om|refine ⟨rfl,?_⟩|refine ⟨trivial,?_⟩|apply And.intro
   ·have hg:cJ B x=1:=(if_neg Om).trans (if_neg Om)
    refine ⟨⟨Om,by decide,⟨Nat.le_refl _,by rw[aK bZ,htl];omega⟩,⟨by decide,Nat.le_refl _⟩,rfl⟩,rfl,ay Om,x+1,Om,Om,rfl,?_⟩
    repeat' first|exact ee _ _|(exact congrArg (fun l=>some (ah.cells true 1 l)) (app 1 hg))|exact trivial|exact ad _|exact eJ Om|refine ⟨rfl,?_⟩|refine ⟨trivial,?_⟩|apply And.intro
   ·have hg:cJ B x=0:=if_pos Om
    refine ⟨⟨Om,by decide,⟨Nat.le_refl _,by rw[aK bZ,htl];omega⟩,⟨by decide,Nat.le_refl _⟩,rfl⟩,rfl,ay Om,x+1,Om,Om,rfl,?_⟩
    repeat' first|exact ee _ _|(exact congrArg (fun l=>some (ah.cells true 1 l)) (app 0 hg))|exact trivial|exact ad _|exact eJ Om|refine ⟨rfl,?_⟩|refine ⟨trivial,?_⟩|apply And.intro
 ·obtain rfl:x=l.length:=Om
  repeat' first|exact ee _ _|(exact (by rw[htl];exact ad _))|exact trivial|refine ⟨rfl,?_⟩|apply And.intro
theorem KU{H:Heap}{id id2:Nat}{own dp:Bool}{z z2:Nat}{cs ds:List Value}(h1:H[id]?=some (.cells own z cs))(h2:H[id2]?=some (.cells dp z2 ds)):∀(k:Nat) (c:List Value),[cs,ds][k]?=some c->∃id' own z,[id,id2][k]?=some id'/\H[id']?=some (ah.cells own z c):=by
 intro k c h
 match k with
 |0=>cases h;exact ⟨id,own,z,rfl,h1⟩
 |1=>cases h;exact ⟨id2,dp,z2,rfl,h2⟩
theorem KX{cs ds:List Value}(h1:cs.all (aw 0)=true)(h2:ds.all (aw 0)=true):∀c ∈ [cs,ds],c.all (aw 0)=true:=by
 intro c hc
 rcases List.mem_cons.1 hc with rfl|hc
 ·exact h1
 ·rw[List.mem_singleton.1 hc];exact h2
theorem zG(a:List Bool)(ha:a.length<=4294967296)(H:Heap):ak prog F.lH [dB a,dB a] H [] (Is (.bool true) H):=by
 refine cQ 40 (fun σ=>by rw[List.map_cons,List.map_cons,List.map_nil,gE σ 3]) rfl (Eq.mpr (Bi _ a) ?_) H
 delta rN jna jns jnp jnz jnd jnr jno jnb nI fk nw lq
 refine cG (by simp only[bne_self_eq_false,beq_self_eq_true,Bool.and_self,Bool.not_true,Bool.not_false]) ⟨rfl,Nat.zero_le _,?_,fun _=>rfl,?_⟩
 ·repeat' first|exact (gE _ 1 _).symm|exact trivial|refine ⟨rfl,?_⟩|refine ⟨trivial,?_⟩|apply And.intro
 intro x hx
 refine aq (fun h =>?_) (fun h=>rfl)
 have hlt:x<a.length:=Om
 refine ⟨Om,lj hlt,Om,lj hlt,cG (by simp only[bne_self_eq_false,beq_self_eq_true,Bool.and_self,Bool.not_true,Bool.not_false]) ⟨ay Om,x+1,Om,Om,rfl,?_⟩⟩
 repeat' first|exact (gE _ 1 _).symm|exact trivial|refine ⟨rfl,?_⟩|refine ⟨trivial,?_⟩|apply And.intro
theorem B3(a:List Int)(ha:a.length<=4294967296)(H:Heap):ak prog F.iI [dI a,dI a] H [] (Is (.bool true) H):=by
 refine cQ 40 (fun σ=>by rw[List.map_cons,List.map_cons,List.map_nil,iJ σ 2]) rfl (Eq.mpr (CM _ a) ?_) H
 delta uT jnx jna jns jnp jny jnd jn6 jnr jno jn3 nI fk nw lq
 refine cG (by simp only[bne_self_eq_false,beq_self_eq_true,Bool.and_self,Bool.not_true,Bool.not_false]) ⟨rfl,Nat.zero_le _,?_,fun _=>rfl,?_⟩
 ·repeat' first|exact (iJ _ 0 _).symm|exact trivial|refine ⟨rfl,?_⟩|refine ⟨trivial,?_⟩|apply And.intro
 intro x hx
 refine aq (fun h =>?_) (fun h=>rfl)
 have hlt:x<a.length:=Om
 refine ⟨Om,eB hlt,Om,eB hlt,cG (by simp only[bne_self_eq_false,beq_self_eq_true,Bool.and_self,Bool.not_true,Bool.not_false]) ⟨ay Om,x+1,Om,Om,rfl,?_⟩⟩
 repeat' first|exact (iJ _ 0 _).symm|exact trivial|refine ⟨rfl,?_⟩|refine ⟨trivial,?_⟩|apply And.intro
theorem wI{xs:List Int}{k:Nat}(h:k<xs.length):(xs.flatMap aA)[0+Int.toNat ((k:Nat):Int)*1]?=some (nI (xs.getD k 0)):=by
 have:=AV h;rw[Int.toNat_natCast];exact this
theorem tS(a:List Int)(ha:a.length<=4294967296){H:Heap}{id id2:Nat}{own dp:Bool}{z z2:Nat}(hid:H[id]?=some (.cells own z (a.flatMap aA)))(gX:H[id2]?=some (.cells dp z2 (a.flatMap aA))) :
  ak prog F.iI [slQ id 2 a.length,slQ id2 2 a.length] H [] (Is (.bool true) H):=by
 refine ix (Eq.mpr (CN _ a) ?_) (KX (ee 0 a) (ee 0 a)) rfl [id,id2] rfl (KU hid gX)
 delta uU jnx jna jns jnp jnd jn6 jnr jno nI slQ fk nw wR lq
 refine cG (by simp only[bne_self_eq_false,beq_self_eq_true,Bool.and_self,Bool.not_true,Bool.not_false]) ⟨rfl,Nat.zero_le _,?_,fun _=>rfl,?_⟩
 ·repeat' first|exact trivial|exact ad _|refine ⟨rfl,?_⟩|refine ⟨trivial,?_⟩|apply And.intro
 intro x hx
 refine aq (fun h =>?_) (fun h=>rfl)
 have hlt:x<a.length:=Om
 refine ⟨Om,wI hlt,Om,wI hlt,cG (by simp only[bne_self_eq_false,beq_self_eq_true,Bool.and_self,Bool.not_true,Bool.not_false]) ⟨ay Om,x+1,Om,Om,rfl,?_⟩⟩
 repeat' first|exact trivial|exact ad _|refine ⟨rfl,?_⟩|refine ⟨trivial,?_⟩|apply And.intro
theorem tT(l:List Report)(hl:l.length<=4294967296){H:Heap}{L:Nat}(hL:H.length=L){id:Nat}{own:Bool}{z:Nat}(hid:H[id]?=some (.cells own z (l.flatMap ai))) :
  ak prog F.lV [slQ id 2 l.length] H [] (Is (slQ L 1 l.length) (H ++ [.cells true 14 (l.flatMap ai)])):=by
 subst hL
 refine w9 (fun i=>slQ i 1 l.length) (Eq.mpr (I5 l) ?_) (b9 0 l) (fun n=>b9 n _) rfl (by simp[rn,bD]) (fun j=>by simp[rn,bT]) hid rfl
 delta Bc jns jnp jnv jn7 jn5 jn9 jnr jnh jnc nI slQ slN fk nw eR wR kbq lq apq
 refine ⟨rfl,Nat.zero_le _,?_,fun _=>rfl,?_⟩
 ·repeat' first|exact trivial|exact ad _|exact bx _ _ _ (.inl rfl)|refine ⟨rfl,?_⟩|refine ⟨trivial,?_⟩|apply And.intro
 intro x hx
 have htl:(List.take x l).length=x:=by rw[List.length_take];omega
 refine aq (fun h =>?_) (fun h =>?_)
 ·have hlt:x<l.length:=Om
  have hs:List.take (x+1) l=List.take x l ++ [l.getD x ag]:=by
   rw[List.take_add_one,List.getElem?_eq_getElem hlt,dh hlt];rfl
  refine ⟨Om,da hlt,⟨Om,by decide,⟨Nat.le_refl _,by rw[aK cb,htl];omega⟩,⟨by decide,Nat.le_refl _⟩,rfl⟩,rfl,ay Om,x+1,Om,Om,rfl,?_⟩
  repeat' first|exact b9 _ _|(exact congrArg (fun l=>some (ah.cells true 14 l)) (by rw[hs];exact cF cb _ (l.getD x ag) htl.symm))|exact trivial|exact ad _|exact eJ Om|refine ⟨rfl,?_⟩|refine ⟨trivial,?_⟩|apply And.intro
 ·obtain rfl:x=l.length:=Om
  rw[List.take_length]
  repeat' first|exact b9 _ _|exact trivial|exact ad _|refine ⟨rfl,?_⟩|apply And.intro
theorem K5(l:List Report)(hl:l.length<=4294967296){H:Heap}{id id2:Nat}{own dp:Bool}{z z2:Nat}(hid:H[id]?=some (.cells own z (l.flatMap ai)))(gX:H[id2]?=some (.cells dp z2 (l.flatMap ai))) :
  ak prog F.po [slQ id 2 l.length,slQ id2 2 l.length] H [] (Is (.bool true) H):=by
 refine ix (Eq.mpr (O0 _ l) ?_) (KX (b9 0 l) (b9 0 l)) rfl [id,id2] rfl (KU hid gX)
 delta Lj jnv jna jns jnp jnd jn7 jn5 jnh jnr jno jnc nI slQ fk nw wR lq n1q
 refine ⟨⟨rfl,trivial⟩,fun H' h1 hd=>tT l hl h1 hd.1,cG (by simp only[bne_self_eq_false,beq_self_eq_true,Bool.and_self,Bool.not_true,Bool.not_false]) ⟨rfl,Nat.zero_le _,?_,fun _=>rfl,?_⟩⟩
 ·repeat' first|exact trivial|exact ad _|refine ⟨rfl,?_⟩|refine ⟨trivial,?_⟩|apply And.intro
 intro x hx
 refine aq (fun h =>?_) (fun h=>rfl)
 have hlt:x<l.length:=Om
 refine ⟨Om,da hlt,Om,da hlt,cG (by simp only[bne_self_eq_false,beq_self_eq_true,Bool.and_self,Bool.not_true,Bool.not_false]) ⟨ay Om,x+1,Om,Om,rfl,?_⟩⟩
 repeat' first|exact trivial|exact ad _|refine ⟨rfl,?_⟩|refine ⟨trivial,?_⟩|apply And.intro
theorem zb{p:List (Nat×Nat)}{x:Nat}(h:x<p.length):cu 2 (p.flatMap bo) (0+Int.toNat ((x:Nat):Int)*2)=some (.agg ⟨bo (p.getD x (0,0))⟩) :=
 mH (f:=bo) (d:=(0,0)) (c:=0) (m:=2) gS h (by rw[Int.toNat_natCast];omega) (by decide)
theorem MW(l:List Report)(m:af)(now:Int):(a7 l m now).1.length<=4096:=by
 rcases Classical.em (av l m now=0) with h|h
 ·rw[yh h]
  have h1:=(opened h).len
  have h2:=cz l m now
  have:=qf (told l m now) l.length
  exact Nat.le_trans this (Nat.le_trans (Nat.mul_le_mul (show l.length<=12 by omega) (show (told l m now).length<=12 by omega)) (by decide))
 ·rw[yi h];exact Nat.zero_le _
theorem MU(l:List Report)(m:af)(now:Int):(aB l m now).1.length<=4096:=by
 rcases Classical.em (av l m now=0) with h|h
 ·rw[La h]
  have h1:=(opened h).len
  show (bh _ _).length<=_
  rw[i6];omega
 ·rw[uu h];exact Nat.zero_le _
theorem MX(l:List Report)(m:af)(now:Int):(aF l m now).1.length<=4096/\∀s∈(aF l m now).1,s.length<=12:=by
 rcases Classical.em (av l m now=0) with h|h
 ·rw[ux h]
  have h1:=(opened h).len
  have h2:=cz l m now
  refine ⟨?_,fun s hs =>?_⟩
  ·show (aN _).length<=_
   rw[my];exact Nat.le_trans (mV _ _) (ls (show (told l m now).length<=12 by omega)).2
  ·obtain ⟨x,_,rfl⟩:=lZ hs
   exact Nat.le_trans (kc ..) Om
 ·rw[uy h];exact ⟨Nat.zero_le _,fun s hs=>by cases hs⟩
theorem MV(l:List Report)(m:af)(now:Int):(a6 l m now).1.length<=4096:=by
 rcases Classical.em (av l m now=0) with h|h
 ·rw[uv h]
  have h1:=(opened h).len
  show (cd _ _ _).length<=_
  rw[rG];omega
 ·rw[uw h];exact Nat.zero_le _
set_option maxHeartbeats 4000000 in
theorem l7(l:List Report)(m:af)(now:Int){H:Heap}{id:Nat}{own:Bool}{z:Nat}(hid:H[id]?=some (.cells own z (l.flatMap ai))) :
  ak prog F.kb [slQ id 2 l.length,ao m,nI now] H [] (Is (.bool true) H):=by
 refine ix (Eq.mpr (Bk _ l m now) ?_) (cU (b9 0 l)) rfl [id] rfl (cT hid)
 delta rP jnv jno jn2 jnt jnc jns jnp jne jn0 jna jnr B9 jnk jnf jnd jni jnn jnj jng jnm jnl nI slQ pt fk nw eR wR krq lq c0q c1q c2q n1q
 have cl:=MW l m now
 have tl:=MU l m now
 obtain ⟨bl,be⟩:=MX l m now
 have gl:=MV l m now
 refine aq (fun h9=>aq (fun h12=>⟨trivial,fun H' _ _=>fN H',rfl⟩) (fun h12=>aq (fun h30=>⟨trivial,fun H' _ _=>fN H',rfl⟩) (fun h30 =>?_))) (fun h9=>aq (fun h30=>⟨trivial,fun H' _ _=>fN H',rfl⟩) (fun h30 =>?_))
 all_goals
  have hl:l.length<=30:=Om
  have hl2:l.length<=4294967296:=Om
  refine ⟨⟨rfl,trivial⟩,fun H' h1 hd=>tT l hl2 h1 hd.1,rfl,Nat.zero_le _,?_,fun _=>rfl,?_⟩
  ·repeat' first|exact trivial|exact rfl|exact ad _|refine ⟨rfl,?_⟩|refine ⟨trivial,?_⟩|apply And.intro
  intro x hx
  refine aq (fun h =>?_) (fun h =>?_)
  ·have hlt:x<l.length:=Om
   refine ⟨Om,da hlt,gA (l.getD x ag) m now,trivial,fun H' _ _=>LT _ m now H',Om,da hlt,gA (l.getD x ag) m now,trivial,fun H' _ _=>Jr _ m now H',cG (by simp only[bne_self_eq_false,beq_self_eq_true,Bool.and_self,Bool.not_true,Bool.not_false]) (cG (by simp only[bne_self_eq_false,beq_self_eq_true,Bool.and_self,Bool.not_true,Bool.not_false]) ⟨ay Om,x+1,Om,Om,rfl,?_⟩)⟩
   repeat' first|exact trivial|exact rfl|exact ad _|refine ⟨rfl,?_⟩|refine ⟨trivial,?_⟩|apply And.intro
  refine ⟨lw l m now,⟨rfl,trivial⟩,fun H' _ hd=>(N4 l m now hd.1).wkA ⟨dZ,ad _,ad _,trivial⟩,lw l m now,⟨rfl,trivial⟩,fun H' _ hd=>LO l m now hd.1,cG (by simp only[bne_self_eq_false,beq_self_eq_true,Bool.and_self,Bool.not_true,Bool.not_false]) (cG (by simp only[bne_self_eq_false,beq_self_eq_true,Bool.and_self,Bool.not_true,Bool.not_false]) ⟨⟨rfl,trivial⟩,fun H' h1 hd=>(B5 l m now h1 hd.1).wkA ⟨dZ,ad _,ad _,trivial⟩,⟨rfl,trivial⟩,fun H' h1 hd=>zt l m now h1 hd.1,cG (by simp only[bne_self_eq_false,beq_self_eq_true,Bool.and_self,Bool.not_true,Bool.not_false]) (cG (by simp only[bne_self_eq_false,beq_self_eq_true,Bool.and_self,Bool.not_true,Bool.not_false]) ⟨rfl,Nat.zero_le _,?_,fun _=>rfl,?_⟩)⟩)⟩
  ·repeat' first|exact trivial|exact ad _|refine ⟨rfl,?_⟩|refine ⟨trivial,?_⟩|apply And.intro
  intro y hy
  refine aq (fun h2 =>?_) (fun h2 =>?_)
  ·have hlt:y<(a7 l m now).1.length:=Om
   refine ⟨Om,zb hlt,Om,zb hlt,cG (by simp only[bne_self_eq_false,beq_self_eq_true,Bool.and_self,Bool.not_true,Bool.not_false]) ⟨ay Om,y+1,Om,Om,rfl,?_⟩⟩
   repeat' first|exact trivial|exact ad _|refine ⟨rfl,?_⟩|refine ⟨trivial,?_⟩|apply And.intro
  refine ⟨⟨rfl,trivial⟩,fun H' h1 hd=>(LS l m now h1 hd.1).wkA ⟨dZ,ad _,ad _,trivial⟩,⟨rfl,trivial⟩,fun H' _ hd=>Jq l m now hd.1,true,trivial,fun H' _ _=>zG _ Om H',cG rfl (cG (by simp only[bne_self_eq_false,beq_self_eq_true,Bool.and_self,Bool.not_true,Bool.not_false]) (cG (by simp only[bne_self_eq_false,beq_self_eq_true,Bool.and_self,Bool.not_true,Bool.not_false]) ⟨⟨rfl,trivial⟩,fun H' h1 hd=>(LW l m now h1 hd.1).wkA ⟨dZ,ad _,ad _,trivial⟩,⟨rfl,trivial⟩,fun H' h1 hd=>Ju l m now h1 hd.1,cG (by simp only[bne_self_eq_false,beq_self_eq_true,Bool.and_self,Bool.not_true,Bool.not_false]) (cG (by simp only[bne_self_eq_false,beq_self_eq_true,Bool.and_self,Bool.not_true,Bool.not_false]) ⟨rfl,Nat.zero_le _,?_,fun _=>rfl,?_⟩)⟩))⟩
  ·repeat' first|exact trivial|exact ad _|refine ⟨rfl,?_⟩|refine ⟨trivial,?_⟩|apply And.intro
  intro u hu
  refine aq (fun h3 =>?_) (fun h3 =>?_)
  ·have hlt:u<(aF l m now).1.length:=Om
   have hb:=be _ (gY (d:=[]) hlt)
   refine ⟨Om,oK hlt,Om,oK hlt,true,trivial,fun H' _ _=>B3 _ Om H',cG rfl ⟨ay Om,u+1,Om,Om,rfl,?_⟩⟩
   repeat' first|exact trivial|exact ad _|refine ⟨rfl,?_⟩|refine ⟨trivial,?_⟩|apply And.intro
  exact ⟨⟨rfl,trivial⟩,fun H' h1 hd=>(LV l m now h1 hd.1).wkA ⟨dZ,ad _,ad _,trivial⟩,⟨rfl,trivial⟩,fun H' h1 hd=>Js l m now h1 hd.1,true,⟨rfl,rfl,trivial⟩,fun H' _ hd=>(tS _ Om hd.1 hd.2.1).wkA ⟨ad _,dZ,trivial⟩,kj rfl (kj (by simp only[bne_self_eq_false,beq_self_eq_true,Bool.and_self,Bool.not_true,Bool.not_false]) ⟨true,⟨rfl,rfl,trivial⟩,fun H' _ hd=>(K5 l hl2 hd.1 hd.2.1).wkA ⟨dZ,ad _,trivial⟩,kj rfl ⟨trivial,fun H' _ _=>fN H',rfl⟩⟩)⟩
end
end Go.Proofs.YthcjliffpebjaaaGreat
namespace Go.K
section
variable {κ β:Type} [DecidableEq κ]
def c9(k:κ)(v:β):List (κ×β)->List (κ×β)
 | [] => [(k,v)]
 |e :: F=>if e.1=k then (k,v) :: F else e :: c9 k v F
def iG(k:κ)(d:β):List (κ×β)->β
 | [] =>d
 |e :: F=>if e.1=k then e.2 else iG k d F
def dY(k:κ):List (κ×β)->Bool
 | [] =>false
 |e :: F=>if e.1=k then true else dY k F
def fJ(k:κ):List (κ×β)->Nat
 | [] =>0
 |e :: F=>if e.1=k then 0 else fJ k F+1
def dU(key:κ->Value)(val:β->Value)(F:List (κ×β)):List (Value×Value):=F.map fun e=>(key e.1,val e.2)
omit [DecidableEq κ] in
theorem uH(key:κ->Value)(val:β->Value)(F:List (κ×β)):(dU key val F).length=F.length:=List.length_map ..
theorem Ao(k:κ):∀(F:List (κ×β)),dY k F=true ↔ k∈F.map (·.1)
 | [] =>by simp[dY]
 |e :: F=>by
  unfold dY
  by_cases h:e.1=k
  ·rw[if_pos h];simp[h]
  ·rw[if_neg h,Ao k F,List.map_cons,List.mem_cons]
   exact ⟨fun x=>Or.inr x,fun x=>x.resolve_left fun q=>h q.symm⟩
theorem pY(k:κ)(d:β):∀(F:List (κ×β)),dY k F=false->iG k d F=d
 | [],_=>rfl
 |e :: F,h=>by
  unfold dY at h;unfold iG
  by_cases q:e.1=k
  ·rw[if_pos q]at h;cases h
  ·rw[if_neg q]at h ⊢;exact pY k d F h
theorem C4(k:κ)(v:β):∀(F:List (κ×β)),dY k F=false->c9 k v F=F ++ [(k,v)]
 | [],_=>rfl
 |e :: F,h=>by
  unfold dY at h;unfold c9
  by_cases q:e.1=k
  ·rw[if_pos q]at h;cases h
  ·rw[if_neg q]at h ⊢;rw[C4 k v F h];rfl
theorem pX(k k':κ)(v d:β):∀(F:List (κ×β)),iG k' d (c9 k v F)=if k'=k then v else iG k' d F
 | [] =>by
  unfold c9 iG
  by_cases h:k=k'
  ·rw[if_pos h,if_pos h.symm]
  ·rw[if_neg h,if_neg fun q=>h q.symm];rfl
 |e :: F=>by
  unfold c9
  by_cases q:e.1=k
  ·rw[if_pos q]
   unfold iG
   by_cases h:k=k'
   ·rw[if_pos h,if_pos h.symm]
   ·rw[if_neg h,if_neg fun q=>h q.symm,q,if_neg h]
  ·rw[if_neg q]
   unfold iG
   by_cases h:e.1=k'
   ·rw[if_pos h,if_pos h,if_neg (fun x=>q (h.trans x))]
   ·rw[if_neg h,if_neg h,pX k k' v d F]
theorem An(k k':κ)(v:β):∀(F:List (κ×β)),dY k' (c9 k v F)=(decide (k'=k) ||dY k' F)
 | [] =>by
  unfold c9 dY
  by_cases h:k=k'
  ·rw[if_pos h,decide_eq_true h.symm];rfl
  ·rw[if_neg h,decide_eq_false fun q=>h q.symm];rfl
 |e :: F=>by
  unfold c9
  by_cases q:e.1=k
  ·rw[if_pos q]
   unfold dY
   by_cases h:k=k'
   ·rw[if_pos h,decide_eq_true h.symm];rfl
   ·rw[if_neg h,decide_eq_false (fun q=>h q.symm),q,if_neg h];rfl
  ·rw[if_neg q]
   unfold dY
   by_cases h:e.1=k'
   ·rw[if_pos h,if_pos h,Bool.or_true]
   ·rw[if_neg h,if_neg h,An k k' v F]
variable {P:Program} {kt:TypeId} {key:κ->Value} {val:β->Value}
theorem xH(hk:∀a b,cN P Op.maxDepth kt (key a) (key b)=some (decide (a=b)))(k:κ)(d:β):∀(F:List (κ×β)) (i:Nat),
  je P kt (key k) (dU key val F) i=some (if dY k F=true then some (i+fJ k F,val (iG k d F)) else none)
 | [],i=>rfl
 |e :: F,i=>by
  show (match cN P Op.maxDepth kt (key k) (key e.1) with|some true=>_|some false=>je P kt (key k) (dU key val F) (i+1)|none=>none)=_
  rw[hk]
  unfold dY iG fJ
  by_cases h:e.1=k
  ·rw[decide_eq_true h.symm,if_pos h,if_pos h,if_pos h,if_pos rfl];rfl
  ·rw[decide_eq_false fun q=>h q.symm,if_neg h,if_neg h,if_neg h]
   show je P kt (key k) (dU key val F) (i+1)=_
   rw[xH hk k d F (i+1),show i+1+fJ k F=i+(fJ k F+1) by omega]
theorem GW(hk:∀a b,cN P Op.maxDepth kt (key a) (key b)=some (decide (a=b)))(k:κ)(d:β){z:Value}(hz:val d=z)(ok:Bool)(F:List (κ×β)) :
  kP P kt z (key k) ok (dU key val F)=some (E8 ok (val (iG k d F)) (dY k F)):=by
 unfold kP
 rw[xH hk k d F 0]
 cases h:dY k F with
 |true=>rw[if_pos rfl]
 |false=>rw[if_neg (by simp),pY k d F h,hz]
theorem DZ(k:κ):∀(F:List (κ×β)),dY k F=true->∃v,(dU key val F)[fJ k F]?=some (key k,v)
 | [],h=>by cases h
 |e :: F,h=>by
  unfold dY at h;unfold fJ
  by_cases q:e.1=k
  ·rw[if_pos q];exact ⟨val e.2,by rw[<- q];rfl⟩
  ·rw[if_neg q]at h ⊢
   obtain ⟨v,hv⟩:=DZ k F h
   exact ⟨v,by rw[<- hv];rfl⟩
theorem AG(k:κ)(v:β):∀(F:List (κ×β)),dY k F=true->(dU key val F).set (fJ k F) (key k,val v)=dU key val (c9 k v F)
 | [],h=>by cases h
 |e :: F,h=>by
  unfold dY at h;unfold fJ c9
  by_cases q:e.1=k
  ·rw[if_pos q,if_pos q];rfl
  ·rw[if_neg q]at h ⊢
   rw[if_neg q]
   show (key e.1,val e.2) :: (dU key val F).set (fJ k F) (key k,val v)=_
   rw[AG k v F h];rfl
omit [DecidableEq κ] in
theorem Kn{F:List (κ×β)}{i:Nat}(d:κ×β)(h:i<F.length)(seen:List Nat):oJ (dU key val F) (seen ++ [i])=some (.tuple #[key (F.getD i d).1,val (F.getD i d).2]):=by
 unfold oJ
 rw[List.getLast?_concat]
 simp[dU,h]
end
end Go.K
namespace Go.K
noncomputable section
structure Tb where
 ks:Nat->Nat
 hs:List Value
 ms:List Value
def rr(v:Value):Prop:=∀σ:Nat->Option Nat,rn σ 3 v=v
structure uN{α:Type}(F z n:Nat)(enc:α->List Value)(rows:Nat->List α)(T:Tb):Prop where
 hl:T.hs.length=n
 m0:T.ms[0]?=some (.int .i64 (z:Int))
 fx:∀v∈T.ms,rr v
 hd:∀t,t<n->T.hs[t]?=some (ff (rows t).length F (T.ks t))
 rw:∀t,t<n->0<(rows t).length->T.ms[T.ks t+1]?=some (.agg ⟨(rows t).flatMap enc⟩)
 dj:∀t u,t<n->u<n->t≠u->0<(rows t).length->0<(rows u).length->T.ks t≠T.ks u
def Tb.new(F z n:Nat):Tb:=⟨fun _=>0,List.replicate n (ff 0 F 0),[.int .i64 (z:Int)]⟩
theorem uN.new{α:Type}(F z n:Nat)(enc:α->List Value):uN F z n enc (fun _=>[]) (Tb.new F z n):=by
 refine ⟨List.length_replicate,rfl,fun v hv σ =>?_,fun t ht =>?_,fun t _ h=>absurd h (Nat.lt_irrefl 0),fun t u _ _ _ h=>absurd h (Nat.lt_irrefl 0)⟩
 ·cases List.mem_singleton.1 hv;rfl
 ·show (List.replicate n _)[t]?=_
  rw[List.getElem?_replicate,if_pos ht];rfl
theorem l0(r k:Nat)(ms:List Value):(a8 r k ms).length=ms.length:=by
 cases r with
 |zero=>rfl
 |succ r=>exact List.length_set
theorem Bu:rr junk:=fun _=>rfl
theorem l4{r k:Nat}{ms:List Value}(h:∀v∈ms,rr v):∀v∈a8 r k ms,rr v:=by
 cases r with
 |zero=>exact h
 |succ r =>
  intro v hv
  rcases List.mem_or_eq_of_mem_set hv with hv|rfl
  ·exact h v hv
  ·exact Bu
theorem vL{cs:List Value}(h:∀(σ:Nat->Option Nat),∀v∈cs,rn σ 2 v=v):rr (.agg ⟨cs⟩):=fun σ=>by
 show Value.agg ⟨cs.map (rn σ 2)⟩=_
 rw[List.map_congr_left (h σ),List.map_id']
theorem uN.lt{α:Type}{F z n:Nat}{enc:α->List Value}{rows:Nat->List α}{T:Tb}(I:uN F z n enc rows T){t:Nat}(ht:t<n)(h:0<(rows t).length):T.ks t+1<T.ms.length:=(List.getElem?_eq_some_iff.1 (I.rw t ht h)).1
theorem uN.pos{α:Type}{F z n:Nat}{enc:α->List Value}{rows:Nat->List α}{T:Tb}(I:uN F z n enc rows T):0<T.ms.length:=(List.getElem?_eq_some_iff.1 I.m0).1
def Tb.put(F t r:Nat)(row:List Value)(q:Nat)(T:Tb):Tb:=⟨fun j=>if j=t then T.ms.length-1 else T.ks j,T.hs.set t (ff q F (T.ms.length-1)),cI q (a8 r (T.ks t) T.ms) row⟩
theorem uN.put{α:Type}{F z n:Nat}{enc:α->List Value}{rows:Nat->List α}{T:Tb}(I:uN F z n enc rows T){t:Nat}(ht:t<n)(l:List α)(hf:∀(σ:Nat->Option Nat) (x:α),∀v∈enc x,rn σ 2 v=v){row:List Value}(e:row=l.flatMap enc) :
  uN F z n enc (fun j=>if j=t then l else rows j) (T.put F t (rows t).length row l.length):=by
 subst e
 have hp:=I.pos
 have hfx:=l4 (r:=(rows t).length) (k:=T.ks t) I.fx
 have hll:=l0 (rows t).length (T.ks t) T.ms
 have hle:∀j,j<n->j≠t->0<(rows j).length->(a8 (rows t).length (T.ks t) T.ms)[T.ks j+1]?=T.ms[T.ks j+1]? := fun j hj hne h=>by
  cases hr:(rows t).length with
  |zero=>rfl
  |succ r =>
   show (T.ms.set (T.ks t+1) junk)[_]?=_
   rw[List.getElem?_set_ne fun e=>I.dj t j ht hj (Ne.symm hne) Om h Om]
 have h0:(a8 (rows t).length (T.ks t) T.ms)[0]?=T.ms[0]? := by
  cases hr:(rows t).length with
  |zero=>rfl
  |succ r=>exact List.getElem?_set_ne Om
 have hm:∀(i:Nat) (v:Value),(a8 (rows t).length (T.ks t) T.ms)[i]?=some v->(cI l.length (a8 (rows t).length (T.ks t) T.ms) (l.flatMap enc))[i]?=some v:=fun i v h=>by
  cases hq:l.length with
  |zero=>exact h
  |succ q =>
   show (_ ++ [_])[i]?=_
   rw[List.getElem?_append_left (List.getElem?_eq_some_iff.1 h).1];exact h
 refine ⟨?_,?_,?_,?_,?_,?_⟩
 ·show (T.hs.set _ _).length=n
  rw[List.length_set];exact I.hl
 ·exact hm _ _ (h0.trans I.m0)
 ·intro v hv
  have hv:v∈cI l.length (a8 (rows t).length (T.ks t) T.ms) (l.flatMap enc):=hv
  cases hq:l.length with
  |zero=>rw[hq]at hv;exact hfx v hv
  |succ q =>
   rw[hq]at hv
   rcases List.mem_append.1 hv with hv|hv
   ·exact hfx v hv
   ·cases List.mem_singleton.1 hv
    refine vL fun σ v hv =>?_
    obtain ⟨x,_,hx⟩:=List.mem_flatMap.1 hv
    exact hf σ x v hx
 ·intro j hj
  show (T.hs.set t _)[j]?=some (ff (if j=t then l else rows j).length F (if j=t then _ else _))
  by_cases h:j=t
  ·subst h
   rw[if_pos rfl,if_pos rfl,List.getElem?_set_self (by rw[I.hl];exact ht)]
  ·rw[if_neg h,if_neg h,List.getElem?_set_ne (Ne.symm h)];exact I.hd j hj
 ·intro j hj hl
  show (cI _ _ _)[(if j=t then T.ms.length-1 else T.ks j)+1]?=some (.agg ⟨(if j=t then l else rows j).flatMap enc⟩)
  by_cases h:j=t
  ·subst h
   rw[if_pos rfl]at hl
   rw[if_pos rfl,if_pos rfl]
   cases hq:l.length with
   |zero=>omega
   |succ q =>
    show (_ ++ [_])[_]?=_
    rw[List.getElem?_append_right Om,show T.ms.length-1+1-(a8 (rows j).length (T.ks j) T.ms).length=0 by omega];rfl
  ·rw[if_neg h]at hl
   rw[if_neg h,if_neg h]
   exact hm _ _ ((hle j hj h hl).trans (I.rw j hj hl))
 ·intro j u hj hu hne h1 h2
  show (if j=t then T.ms.length-1 else T.ks j)≠(if u=t then T.ms.length-1 else T.ks u)
  by_cases a:j=t
  ·have b:¬ u=t:=fun b=>hne (a.trans b.symm)
   rw[if_neg b]at h2
   rw[if_pos a,if_neg b]
   have:=I.lt hu h2;omega
  ·rw[if_neg a]at h1
   rw[if_neg a]
   by_cases b:u=t
   ·rw[if_pos b]
    have:=I.lt hj h1;omega
   ·rw[if_neg b]at h2
    rw[if_neg b];exact I.dj j u hj hu hne h1 h2
theorem Lw{σ:Nat->Option Nat}{F:Nat}(h:σ F=some F)(n k:Nat):rn σ 3 (ff n F k)=ff n F k:=by
 show (match σ F with|some id'=>Value.iface (n+1) (.pointer (some ⟨id',0,some (k+3)⟩))|none=>_)=_
 rw[h]
theorem uN.wkM{α:Type}{F z n:Nat}{enc:α->List Value}{rows:Nat->List α}{T:Tb}(I:uN F z n enc rows T){σ:Nat->Option Nat}{ms:List Value}(e:ms=T.ms):wkO (.fam 0 ms) (rno σ 3 (.fam 0 T.ms)):=by
 refine mA ?_
 subst e
 show _=ah.fam 0 (T.ms.map (rn σ 3))
 rw[List.map_congr_left fun v hv=>I.fx v hv σ,List.map_id']
end
end Go.K
