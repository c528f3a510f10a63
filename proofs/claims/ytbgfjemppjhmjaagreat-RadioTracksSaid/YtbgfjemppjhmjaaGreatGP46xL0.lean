/- Radio: the reference's cells. No condition. -/
import Derived.Test.YtbgfjemppjhmjaaGreatGO35gxP45
import Derived.Test.YtbgfjemppjhmjaaGreatO60g
import Derived.Test.YtbgfjemppjhmjaaGreatGW34xW45
import Derived.Test.YtbgfjemppjhmjaaGreatGP26xW38
import Derived.Test.YtbgfjemppjhmjaaGreatGO24gxO27g
import Derived.Test.YtbgfjemppjhmjaaGreatGO7gxP23
import Derived.Test.YtbgfjemppjhmjaaGreatGK27xR0b
import Derived.Test.YtbgfjemppjhmjaaGreatRows
import Derived.JoinedCond
open Go Go.K
set_option maxRecDepth 1000000
set_option maxHeartbeats 4000000
set_option linter.unusedVariables false
set_option linter.unusedSimpArgs false
namespace Go.Proofs.YtbgfjemppjhmjaaGreat
noncomputable section
attribute [local irreducible] vF
variable {w h:Int} {a:List Bool} {p:Int} {ss:List (Int×Int)} {o1 o2:Bool} {z1 z2:Nat} {H:Heap}
theorem Do{m:Int}(ha:a.length<=100000)(hs:ss.length<=100000):uu o1 o2 z1 z2 w h a p ss m:=by
 delta uu ck c6 bf df cZ dY dL nC cD gG nJ cu sk bo bG gF nG jZ nA bX jW bN bZ gd jE zo nl c7 cC gE eL eO dK cv Ik np
 refine ⟨⟨rfl,rfl,trivial⟩,fun H' hl g=>ks w h a p ss ha hs g.1 g.2.1,fun k=>⟨rfl,?_,?_⟩,fun k =>?_⟩
 ·have e:aB w h a p ss≠0:=bne_iff_ne.1 k
  rw[ry (by rw[yG e];exact e),yG e]
  repeat' first|exact am _ _|exact ah _ _ _ (.inl rfl)|exact aa _|exact rfl|exact aa _|exact ac|exact ah _ _ _ (.inl rfl)|refine ap ?_|apply And.intro
 ·repeat' first|exact am _ _|exact ah _ _ _ (.inl rfl)|exact aa _|exact rfl|exact aa _|exact ac|exact ah _ _ _ (.inl rfl)|refine ap ?_|apply And.intro
 ·have e:aB w h a p ss=0:=bne_eq_false_iff_eq.1 k
  have t:=gW e
  have hf:=t.few
  have h1:=t.bas.n1
  have h2:=t.bas.p1
  refine ⟨fun k1=>⟨rfl,?_,?_⟩,fun k1=>⟨fun k2=>⟨rfl,?_,?_⟩,fun k2=>⟨⟨rfl,rfl,trivial⟩,fun H' hl g=>hl ▸ l7 t (by decide) g.1 g.2.1,fun k3=>⟨rfl,?_,?_⟩,fun k3 =>?_⟩⟩⟩
  ·have:=av k1
   have q:=yF (m:=m) e (by omega)
   rw[ry (by rw[q];decide),q]
   repeat' first|exact am _ _|exact ah _ _ _ (.inl rfl)|exact aa _|exact rfl|exact aa _|exact ac|exact ah _ _ _ (.inl rfl)|refine ap ?_|apply And.intro
  ·repeat' first|exact am _ _|exact ah _ _ _ (.inl rfl)|exact aa _|exact rfl|exact aa _|exact ac|exact ah _ _ _ (.inl rfl)|refine ap ?_|apply And.intro
  ·have:=av k2
   have q:=yF (m:=m) e (by omega)
   rw[ry (by rw[q];decide),q]
   repeat' first|exact am _ _|exact ah _ _ _ (.inl rfl)|exact aa _|exact rfl|exact aa _|exact ac|exact ah _ _ _ (.inl rfl)|refine ap ?_|apply And.intro
  ·repeat' first|exact am _ _|exact ah _ _ _ (.inl rfl)|exact aa _|exact rfl|exact aa _|exact ac|exact ah _ _ _ (.inl rfl)|refine ap ?_|apply And.intro
  ·have:=av k3
   have hm:0<=m/\m<=100000:=⟨by have:=aA k1;omega,by have:=aA k2;omega⟩
   have q:=GS (m:=m) e hm (by omega)
   rw[ry (by rw[q];decide),q]
   repeat' first|exact am _ _|exact ah _ _ _ (.inl rfl)|exact aa _|exact rfl|exact aa _|exact ac|exact ah _ _ _ (.inl rfl)|refine ap ?_|apply And.intro
  ·repeat' first|exact am _ _|exact ah _ _ _ (.inl rfl)|exact aa _|exact rfl|exact aa _|exact ac|exact ah _ _ _ (.inl rfl)|refine ap ?_|apply And.intro
  ·have:=aA k3
   have hm:0<=m/\m<=100000:=⟨by have:=aA k1;omega,by have:=aA k2;omega⟩
   have q:=sP (m:=m) e hm (by omega)
   rw[show whX w h a p ss m=whL a p ss (aC w h a ss ss.length) m a.length from if_pos q,q]
   refine ⟨⟨rfl,rfl,trivial⟩,fun H' hl g=>hl ▸ xj t (by decide) g.1 g.2.1,rfl,Nat.zero_le _,?_,fun _=>rfl,fun x hx=>⟨fun c =>?_,fun c =>?_⟩⟩
   ·repeat' first|exact am _ _|exact ah _ _ _ (.inl rfl)|exact aa _|exact rfl|exact aa _|exact ac|exact ah _ _ _ (.inl rfl)|refine ap ?_|apply And.intro
   ·have hx1:x<a.length:=by have:=av c;omega
    have hle:=wN a p ss (aC w h a ss ss.length) m x
    have hyes:bJ a x=true->cH p ss (aC w h a ss ss.length) x m ss.length=true->whL a p ss (aC w h a ss ss.length) m (x+1)=whL a p ss (aC w h a ss ss.length) m x ++ [(x:Int)]:=yE
    refine ⟨⟨rfl,trivial⟩,fun H' hl g=>vB w h a _ g.1,fun b=>⟨⟨rfl,rfl,rfl,trivial⟩,fun H' hl g=>ad.wkA (Hf (c:=(x:Int)) (m:=m) t ⟨by omega,by omega⟩ (by omega) (by decide) g.1 g.2.1 g.2.2.1) (ak (aa _) (ak dU (ak (aa _) (ak (aa _) ac)))),fun b2 =>?_,fun b2 =>?_⟩,fun b =>?_⟩
    ·have e2:=hyes b b2
     refine ⟨⟨by omega,by decide,⟨Nat.le_refl _,by rw[aP bg];omega⟩,⟨Nat.le_refl _,by simp⟩,rfl⟩,rfl,aG (by omega),x+1,by omega,by omega,rfl,?_⟩
     repeat' first|exact dd e2|exact de bg e2 rfl|exact am _ _|exact ah _ _ _ (.inl rfl)|exact aa _|exact rfl|exact aa _|exact ac|exact ah _ _ _ (.inl rfl)|refine ap ?_|apply And.intro
    ·have e2:whL a p ss (aC w h a ss ss.length) m x=whL a p ss (aC w h a ss ss.length) m (x+1):=(sO (by rw[b2,Bool.and_false])).symm
     refine ⟨aG (by omega),x+1,by omega,by omega,rfl,?_⟩
     repeat' first|exact ou e2|exact obI e2|exact am _ _|exact ah _ _ _ (.inl rfl)|exact aa _|exact rfl|exact aa _|exact ac|exact ah _ _ _ (.inl rfl)|refine ap ?_|apply And.intro
    ·have e2:whL a p ss (aC w h a ss ss.length) m x=whL a p ss (aC w h a ss ss.length) m (x+1):=(sO (by rw[b,Bool.false_and])).symm
     refine ⟨aG (by omega),x+1,by omega,by omega,rfl,?_⟩
     repeat' first|exact ou e2|exact obI e2|exact am _ _|exact ah _ _ _ (.inl rfl)|exact aa _|exact rfl|exact aa _|exact ac|exact ah _ _ _ (.inl rfl)|refine ap ?_|apply And.intro
   ·have hx1:x=a.length:=by have:=aA c;omega
    rw[hx1]
    repeat' first|exact am _ _|exact ah _ _ _ (.inl rfl)|exact aa _|exact rfl|exact aa _|exact ac|exact ah _ _ _ (.inl rfl)|refine ap ?_|apply And.intro
theorem Fp{w h:Int}{p:Int}{m:Int}(ha:a.length<=100000)(hs:ss.length<=100000){i j:Nat}(hne:i≠j)(hi:H[i]?=some (.cells o1 z1 (a.flatMap af)))(hj:H[j]?=some (.cells o2 z2 (ss.flatMap spC))) :
  ad prog 50 [db w h a p ss i j,.int .i64 m] H [] (Is (.tuple #[slQ H.length 1 (whX w h a p ss m).length,.int .i64 (whE w h a p ss m)]) (H ++ [.cells true 1 ((whX w h a p ss m).flatMap ai)])) :=
 bR (fun j => .tuple #[slQ j 1 (whX w h a p ss m).length,.int .i64 (whE w h a p ss m)]) (new:=[.cells true 1 ((whX w h a p ss m).flatMap ai)]) (Eq.mpr (GG o1 o2 z1 z2 w h a p ss m) (Do ha hs)) (cz ..) rfl ⟨⟨_,_,rfl,am _ _⟩,trivial⟩ (by simpa using hne) (bC hi hj) (fun j=>rfl) rfl
theorem AH(A:List Value)(u v m:Value):bE (A ++ [u,v]) (A.length+1) [m]=A ++ [u,m]:=by
 refine List.ext_getElem? fun i =>?_
 rw[gY _ _ _ _ (by simp)]
 by_cases q:i=A.length+1
 ·subst q
  rw[if_pos (by simp),List.getElem?_append_right (by omega),Nat.sub_self,show A.length+1-A.length=1 by omega]
  rfl
 ·rw[if_neg (by rintro ⟨q1,q2⟩;rw[aV]at q2;omega)]
  by_cases l:i<A.length
  ·rw[List.getElem?_append_left l,List.getElem?_append_left l]
  ·rw[List.getElem?_append_right (by omega),List.getElem?_append_right (by omega)]
   obtain ⟨k,hk⟩:∃k,i-A.length=k:=⟨_,rfl⟩
   rw[hk]
   match k,hk with
   |0,_=>rfl
   |1,hk=>omega
   |k+2,_=>rfl
theorem obS{own:Bool}{z:Nat}{L M:List (Int×Int)}{k k':Nat}{v:Value}(e:k=k')(h:bE (L.flatMap spC) k' [v]=M.flatMap spC):(some (ab.cells own z (bE (L.flatMap spC) k [v])):Option ab)=some (.cells own z (M.flatMap spC)):=by rw[e,h]
theorem L9{id n m:Nat}(h:n=m):wk (.slice (some ⟨id,0,some 1⟩) n n) (.slice (some ⟨id,0,some 1⟩) m m):=by rw[h];exact aa _
theorem B1{f:Int->Bool}{lo:Int}{x:Nat}(h:f (lo+(x:Int))=true)(h0:0<(runs f lo x).length)(hq:((runs f lo x).getD ((runs f lo x).length-1) ae).2=lo+(x:Int)-1) :
  (runs f lo (x+1)).length=(runs f lo x).length/\bE ((runs f lo x).flatMap spC) (((runs f lo x).length-1)*2+1) [.int .i64 (lo+(x:Int))]=(runs f lo (x+1)).flatMap spC:=by
 rw[dF,if_pos h]
 rcases List.eq_nil_or_concat (runs f lo x) with e|⟨L,y,e⟩
 ·rw[e]at h0;cases h0
 ·rw[List.concat_eq_append]at e
  rw[e]at hq ⊢
  have hl:(L ++ [y]).length-1=L.length:=by rw[ao,aV];omega
  rw[hl]at hq ⊢
  rw[show (L ++ [y]).getD L.length ae=y by rw[List.getD_eq_getElem?_getD,List.getElem?_append_right (Nat.le_refl _),Nat.sub_self];rfl]at hq
  rw[gU,if_pos (by omega)]
  refine ⟨by rw[ao,ao];rfl,?_⟩
  rw[List.flatMap_append,List.flatMap_append]
  have e2:L.length*2+1=(L.flatMap spC).length+1:=by rw[aP cd]
  rw[e2]
  exact AH _ _ _ _
theorem rJ{f:Int->Bool}{lo:Int}{x:Nat}(h:f (lo+(x:Int))=true)(hq:(runs f lo x).length=0∨((runs f lo x).getD ((runs f lo x).length-1) ae).2≠lo+(x:Int)-1):runs f lo (x+1)=runs f lo x ++ [(lo+(x:Int),lo+(x:Int))]:=by
 rw[dF,if_pos h]
 rcases List.eq_nil_or_concat (runs f lo x) with e|⟨L,y,e⟩
 ·rw[e];rfl
 ·rw[List.concat_eq_append]at e
  rw[e]at hq ⊢
  have hl:(L ++ [y]).length-1=L.length:=by rw[ao,aV];omega
  rw[hl]at hq
  rw[show (L ++ [y]).getD L.length ae=y by rw[List.getD_eq_getElem?_getD,List.getElem?_append_right (Nat.le_refl _),Nat.sub_self];rfl]at hq
  rw[gU,if_neg (by
   rcases hq with q|q
   ·rw[ao,aV]at q;omega
   ·omega)]
theorem EZ{f:Int->Bool}{lo:Int}{x:Nat}(h:f (lo+(x:Int))=false):runs f lo x=runs f lo (x+1):=by
 rw[dF,if_neg (by rw[h];decide)]
theorem Dq{c:Int}(ha:a.length<=100000)(hs:ss.length<=100000):uw o1 o2 z1 z2 w h a p ss c:=by
 delta uw ck c6 bf df cZ dY dL nC cD gG j0 cu eL eO bo bG gF nG jZ nA dJ bN bZ jE gd CX cQ c7 fk cC d9 iY bj nD dK cv bX jW bY nl kY gL C6 pJ eM Im
 refine ⟨⟨rfl,rfl,trivial⟩,fun H' hl g=>ks w h a p ss ha hs g.1 g.2.1,fun k=>⟨rfl,?_,?_⟩,fun k =>?_⟩
 ·have e:aB w h a p ss≠0:=bne_iff_ne.1 k
  rw[oB (by rw[yJ e];exact e),yJ e]
  repeat' first|exact spB _ _|exact ah _ _ _ (.inl rfl)|exact aa _|exact rfl|exact aa _|exact ac|exact ah _ _ _ (.inl rfl)|refine ap ?_|apply And.intro|(exact iEq (by omega))
 ·repeat' first|exact spB _ _|exact ah _ _ _ (.inl rfl)|exact aa _|exact rfl|exact aa _|exact ac|exact ah _ _ _ (.inl rfl)|refine ap ?_|apply And.intro|(exact iEq (by omega))
 ·have e:aB w h a p ss=0:=bne_eq_false_iff_eq.1 k
  have t:=gW e
  have hf:=t.few
  have h1:=t.bas.n1
  have h2:=t.bas.p1
  refine ⟨⟨rfl,trivial⟩,fun H' hl g=>vB w h a _ g.1,fun k1=>⟨rfl,?_,?_⟩,fun k1=>⟨⟨rfl,rfl,trivial⟩,fun H' hl g=>hl ▸ l7 t (by decide) g.1 g.2.1,fun k2=>⟨rfl,?_,?_⟩,fun k2=>⟨fun k3=>⟨rfl,?_,?_⟩,fun k3 =>?_⟩⟩⟩
  ·have q:=GW (c:=c) e (ff k1)
   rw[oB (by rw[q];decide),q]
   repeat' first|exact spB _ _|exact ah _ _ _ (.inl rfl)|exact aa _|exact rfl|exact aa _|exact ac|exact ah _ _ _ (.inl rfl)|refine ap ?_|apply And.intro|(exact iEq (by omega))
  ·repeat' first|exact spB _ _|exact ah _ _ _ (.inl rfl)|exact aa _|exact rfl|exact aa _|exact ac|exact ah _ _ _ (.inl rfl)|refine ap ?_|apply And.intro|(exact iEq (by omega))
  ·have:=av k2
   have q:=GY (c:=c) e (bK k1) (by omega)
   rw[oB (by rw[q];decide),q]
   repeat' first|exact spB _ _|exact ah _ _ _ (.inl rfl)|exact aa _|exact rfl|exact aa _|exact ac|exact ah _ _ _ (.inl rfl)|refine ap ?_|apply And.intro|(exact iEq (by omega))
  ·repeat' first|exact spB _ _|exact ah _ _ _ (.inl rfl)|exact aa _|exact rfl|exact aa _|exact ac|exact ah _ _ _ (.inl rfl)|refine ap ?_|apply And.intro|(exact iEq (by omega))
  ·have:=aA k2
   have:=eq_of_beq k3
   have q:=GX (c:=c) e (bK k1) (by omega) (by omega)
   rw[oB (by rw[q];decide),q]
   repeat' first|exact spB _ _|exact ah _ _ _ (.inl rfl)|exact aa _|exact rfl|exact aa _|exact ac|exact ah _ _ _ (.inl rfl)|refine ap ?_|apply And.intro|(exact iEq (by omega))
  ·repeat' first|exact spB _ _|exact ah _ _ _ (.inl rfl)|exact aa _|exact rfl|exact aa _|exact ac|exact ah _ _ _ (.inl rfl)|refine ap ?_|apply And.intro|(exact iEq (by omega))
  ·have:=aA k2
   have h0:0<ss.length:=by have:=beq_eq_false_iff_ne.1 k3;omega
   have q:=sV (c:=c) e (bK k1) (by omega) (by omega)
   have pX:0<=c/\c<(a.length:Int):=by
    have:=bK k1
    unfold bJ at this
    rw[Bool.and_eq_true,Bool.and_eq_true,decide_eq_true_eq,decide_eq_true_eq]at this
    omega
   rw[show tmX w h a p ss c=tmL p ss (aC w h a ss ss.length) c from if_pos q,KH t pX,q]
   have hb:∀s∈ss,0<=s.1/\s.1<=100000:=fun s hs=>(t.seen s hs).1
   refine ⟨⟨by omega,by omega⟩,fI h0 (by omega),⟨by omega,by omega⟩,fI h0 (by omega),rfl,Nat.zero_le _,?_,fun _=>rfl,fun x hx=>⟨fun kx =>?_,fun kx =>?_⟩⟩
   ·repeat' first|exact spB _ _|exact ah _ _ _ (.inl rfl)|exact aa _|exact rfl|exact aa _|exact ac|exact ah _ _ _ (.inl rfl)|refine ap ?_|apply And.intro|(exact iEq (by omega))
   ·have hx1:x<ss.length:=by have:=av kx;omega
    refine ⟨⟨by omega,by omega⟩,fI hx1 (by omega),⟨by omega,by omega⟩,fI hx1 (by omega),aG (by omega),x+1,by omega,by omega,rfl,?_⟩
    rw[KS hx1,KR hx1]
    repeat' first|exact spB _ _|exact ah _ _ _ (.inl rfl)|exact aa _|exact rfl|exact aa _|exact ac|exact ah _ _ _ (.inl rfl)|refine ap ?_|apply And.intro|(exact iEq (by omega))
   ·obtain rfl:x=ss.length:=by have:=aA kx;omega
    have eb:=CC h0 hb ss.length
    rw[zc h0 hb,yZ h0 hb]at eb ⊢
    refine ⟨⟨rfl,rfl,trivial⟩,fun H' hl g=>hl ▸ xj t (by decide) g.1 g.2.1,rfl,Nat.zero_le _,?_,fun _=>rfl,fun y hy=>⟨fun ky =>?_,fun ky =>?_⟩⟩
    ·repeat' first|exact spB _ _|exact ah _ _ _ (.inl rfl)|exact aa _|exact rfl|exact aa _|exact ac|exact ah _ _ _ (.inl rfl)|refine ap ?_|apply And.intro|(exact iEq (by omega))
    ·have hy1:y<Int.toNat (msT ss ss.length-lsT ss ss.length+1):=by have:=av ky;omega
     have hle:=s9 (fun m=>cH p ss (aC w h a ss ss.length) c m ss.length) (lsT ss ss.length) y
     refine ⟨⟨rfl,rfl,rfl,trivial⟩,fun H' hl g=>ad.wkA (Hf (c:=c) (m:=lsT ss ss.length+(y:Int)) t pX (by omega) (by decide) g.1 g.2.1 g.2.2.1) (ak (aa _) (ak dU (ak (aa _) (ak (aa _) ac)))),fun u =>?_,fun u =>?_⟩
     ·have e2:=EZ (f:=fun m=>cH p ss (aC w h a ss ss.length) c m ss.length) (lo:=lsT ss ss.length) (x:=y) (ff u)
      refine ⟨aG (by omega),y+1,by omega,by omega,rfl,?_⟩
      repeat' first|exact ou e2|exact obE e2|exact spB _ _|exact ah _ _ _ (.inl rfl)|exact aa _|exact rfl|exact aa _|exact ac|exact ah _ _ _ (.inl rfl)|refine ap ?_|apply And.intro|(exact iEq (by omega))
     ·have ut:=bK u
      refine ⟨fun v =>?_,fun v =>?_⟩
      ·have hv:=av v
       have et:Int.toNat ((((runs (fun m=>cH p ss (aC w h a ss ss.length) c m ss.length) (lsT ss ss.length) y).length:Nat):Int)-1)=(runs (fun m=>cH p ss (aC w h a ss ss.length) c m ss.length) (lsT ss ss.length) y).length-1:=by omega
       refine ⟨aG (by omega),⟨by omega,by omega⟩,m7 (by rw[et];omega) (by omega),aG (by omega),fun r =>?_,fun r =>?_⟩
       ·obtain ⟨r1,r2⟩:=B1 (f:=fun m=>cH p ss (aC w h a ss ss.length) c m ss.length) (lo:=lsT ss ss.length) (x:=y) ut (by omega) (by rw[<- et];exact eq_of_beq r)
        refine ⟨aG (by omega),⟨by omega,by omega⟩,by rw[et,aP cd];omega,rfl,aG (by omega),y+1,by omega,by omega,rfl,?_⟩
        repeat' first|exact L9 r1.symm|(exact obS (by omega) r2)|exact spB _ _|exact ah _ _ _ (.inl rfl)|exact aa _|exact rfl|exact aa _|exact ac|exact ah _ _ _ (.inl rfl)|refine ap ?_|apply And.intro|(exact iEq (by omega))
       ·have e2:=rJ (f:=fun m=>cH p ss (aC w h a ss ss.length) c m ss.length) (lo:=lsT ss ss.length) (x:=y) ut (.inr (by rw[<- et];exact beq_eq_false_iff_ne.1 r))
        refine ⟨⟨by omega,by decide,⟨Nat.le_refl _,by rw[aP cd];omega⟩,⟨Nat.le_refl _,by simp⟩,rfl⟩,rfl,aG (by omega),y+1,by omega,by omega,rfl,?_⟩
        repeat' first|exact dd e2|exact de cd e2 rfl|exact spB _ _|exact ah _ _ _ (.inl rfl)|exact aa _|exact rfl|exact aa _|exact ac|exact ah _ _ _ (.inl rfl)|refine ap ?_|apply And.intro|(exact iEq (by omega))
      ·have hv:=aA v
       have e2:=rJ (f:=fun m=>cH p ss (aC w h a ss ss.length) c m ss.length) (lo:=lsT ss ss.length) (x:=y) ut (.inl (by omega))
       refine ⟨⟨by omega,by decide,⟨Nat.le_refl _,by rw[aP cd];omega⟩,⟨Nat.le_refl _,by simp⟩,rfl⟩,rfl,aG (by omega),y+1,by omega,by omega,rfl,?_⟩
       repeat' first|exact dd e2|exact de cd e2 rfl|exact spB _ _|exact ah _ _ _ (.inl rfl)|exact aa _|exact rfl|exact aa _|exact ac|exact ah _ _ _ (.inl rfl)|refine ap ?_|apply And.intro|(exact iEq (by omega))
    ·obtain rfl:y=Int.toNat (msT ss ss.length-lsT ss ss.length+1):=by have:=aA ky;omega
     repeat' first|exact spB _ _|exact ah _ _ _ (.inl rfl)|exact aa _|exact rfl|exact aa _|exact ac|exact ah _ _ _ (.inl rfl)|refine ap ?_|apply And.intro|(exact iEq (by omega))
theorem Fr{w h:Int}{p:Int}{c:Int}(ha:a.length<=100000)(hs:ss.length<=100000){i j:Nat}(hne:i≠j)(hi:H[i]?=some (.cells o1 z1 (a.flatMap af)))(hj:H[j]?=some (.cells o2 z2 (ss.flatMap spC))) :
  ad prog 51 [db w h a p ss i j,.int .i64 c] H [] (Is (.tuple #[slQ H.length 1 (tmX w h a p ss c).length,.int .i64 (tmE w h a p ss c)]) (H ++ [.cells true 2 ((tmX w h a p ss c).flatMap spC)])) :=
 bR (fun j => .tuple #[slQ j 1 (tmX w h a p ss c).length,.int .i64 (tmE w h a p ss c)]) (new:=[.cells true 2 ((tmX w h a p ss c).flatMap spC)]) (Eq.mpr (GJ o1 o2 z1 z2 w h a p ss c) (Dq ha hs)) (cz ..) rfl ⟨⟨_,_,rfl,ct _ _⟩,trivial⟩ (by simpa using hne) (bC hi hj) (fun j=>rfl) rfl
theorem H6{c:List Int}{k:Int}(e:aB w h a p ss≠0):eh w h a p ss c k=aB w h a p ss/\ew w h a p ss c k=false:=by
 have e1:eh w h a p ss c k=aB w h a p ss:=if_neg e
 exact ⟨e1,by unfold ew;rw[e1,decide_eq_false e];rfl⟩
theorem Cb{c:List Int}{k:Int}(e:aB w h a p ss=0)(q:¬ (c.length=ss.length/\0<=k)):eh w h a p ss c k=1/\ew w h a p ss c k=false:=by
 have e1:eh w h a p ss c k=1:=by unfold eh;rw[if_pos e,if_neg q]
 exact ⟨e1,by unfold ew;rw[e1];rfl⟩
theorem Cc{c:List Int}{k:Int}(e:aB w h a p ss=0)(q:c.length=ss.length/\0<=k):eh w h a p ss c k=0/\ew w h a p ss c k=fP (agI p ss (aC w h a ss ss.length)) c k c.length:=by
 have e1:eh w h a p ss c k=0:=by unfold eh;rw[if_pos e,if_pos q]
 exact ⟨e1,by unfold ew;rw[e1];rfl⟩
theorem ve{agr:Int->Int->Bool}{c:List Int}{x y:Nat}(h:iG agr c x y=true)(q:(decide (c.getD x 0=c.getD y 0)&&agr (y:Int) (x:Int))=false):iG agr c x (y+1)=true:=by
 unfold iG at h ⊢
 rw[List.range_succ,List.all_append,h,List.all_cons,q];rfl
theorem B9{agr:Int->Int->Bool}{c:List Int}{x y n:Nat}(hy:y<n)(q:(decide (c.getD x 0=c.getD y 0)&&agr (y:Int) (x:Int))=true):iG agr c x n=false:=by
 unfold iG
 rw[List.all_eq_false]
 exact ⟨y,List.mem_range.2 hy,by rw[q];decide⟩
theorem JP{rr:List (List Int)}{y x:Nat}(h:y<x)(hx:x<ss.length):apB (a8 p ss rr ss.length) y x (a8 p ss rr ss.length).length = !agI p ss rr y x:=by
 rw[Bool.eq_iff_iff,Gz,DY h hx,Bool.not_eq_true']
theorem Bb{o3:Bool}{z3:Nat}{c:List Int}{k:Int}(ha:a.length<=100000)(hs:ss.length<=100000)(hc:c.length<=1000):qL o1 o2 z1 z2 w h a p ss o3 z3 c k:=by
 delta qL ck c6 bf df cZ dY dL cD ld dJ bo bG gF bN bZ cQ c7 cC CP CS zq kY iZ dP vV lc kW dQ pA C5 dK cv
 refine ⟨⟨rfl,rfl,trivial⟩,fun H' hl g=>ks w h a p ss ha hs g.1 g.2.1,fun u=>⟨rfl,bl ?_,trivial⟩,fun u =>?_⟩
 ·obtain ⟨e1,e2⟩:=H6 (c:=c) (k:=k) (bne_iff_ne.1 u)
  rw[e1,e2];rfl
 ·have e:aB w h a p ss=0:=bne_eq_false_iff_eq.1 u
  have t:=gW e
  have hf:=t.few
  have hcf:=xW t
  refine ⟨fun u1=>⟨rfl,bl ?_,trivial⟩,fun u1=>⟨fun u2=>⟨rfl,bl ?_,trivial⟩,fun u2 =>?_⟩⟩
  ·obtain ⟨e1,e2⟩:=Cb (c:=c) (k:=k) e (fun q=>bne_iff_ne.1 u1 (by rw[q.1]))
   rw[e1,e2];rfl
  ·obtain ⟨e1,e2⟩:=Cb (c:=c) (k:=k) e (fun q=>absurd (av u2) (by omega))
   rw[e1,e2];rfl
  ·have hcl:c.length=ss.length:=by have:=bne_eq_false_iff_eq.1 u1;omega
   have hk:=aA u2
   obtain ⟨e1,e2⟩:=Cc (c:=c) (k:=k) e ⟨hcl,by omega⟩
   rw[e1,e2]
   refine ⟨⟨rfl,rfl,trivial⟩,fun H' hl g=>hl ▸ l7 t (by decide) g.1 g.2.1,rfl,⟨Nat.zero_le _,rfl⟩,?_,fun _=>rfl,fun x hx=>⟨fun v =>?_,fun v =>?_⟩⟩
   ·repeat' first|exact aa _|exact rfl|exact aa _|exact ac|apply And.intro
   ·have hx1:x<c.length:=by have:=av v;omega
    refine ⟨⟨by omega,by omega⟩,cL hx1 (by omega),fun v1=>⟨rfl,bl ?_,trivial⟩,fun v1=>⟨⟨by omega,by omega⟩,cL hx1 (by omega),fun v2=>⟨rfl,bl ?_,trivial⟩,fun v2=>⟨rfl,⟨Nat.zero_le _,rfl⟩,?_,fun _=>rfl,fun y hy=>⟨fun r =>?_,fun r =>?_⟩⟩⟩⟩
    ·have:=av v1
     rw[kp hx1 (by unfold nT;rw[decide_eq_false (p:=0<=c.getD x 0) (by omega)];rfl)];rfl
    ·have:=av v2
     rw[kp hx1 (by unfold nT;rw[decide_eq_false (p:=c.getD x 0<=k-1) (by omega),Bool.and_false];rfl)];rfl
    ·repeat' first|exact aa _|exact rfl|exact aa _|exact ac|apply And.intro
    ·have hy1:y<x:=by have:=av r;omega
     refine ⟨rfl,Nat.zero_le _,?_,fun _=>rfl,fun z hz=>⟨fun s =>?_,fun s =>?_⟩⟩
     ·repeat' first|exact aa _|exact rfl|exact aa _|exact ac|apply And.intro
     ·have hz1:z<(a8 p ss (aC w h a ss ss.length) ss.length).length:=by have:=av s;omega
      have hS:=Lz (y:=y) (x:=x) hz1
      refine ⟨fun q=>⟨aG (by omega),z+1,by omega,by omega,rfl,?_⟩,fun q=>⟨⟨by omega,by omega⟩,fI hz1 (by omega),fun q1=>⟨⟨by omega,by omega⟩,m7 hz1 (by omega),aG (by omega),z+1,by omega,by omega,rfl,?_⟩,fun q1=>⟨aG (by omega),z+1,by omega,by omega,rfl,?_⟩⟩⟩
      ·rw[hS,q,Bool.true_or]
       repeat' first|exact aa _|exact rfl|exact aa _|exact ac|apply And.intro
      ·have e3:((a8 p ss (aC w h a ss ss.length) ss.length).getD z ae).1=(y:Int):=eq_of_beq q1
       rw[hS,q,Bool.false_or,decide_eq_true e3,Bool.true_and]
       rw[show (((a8 p ss (aC w h a ss ss.length) ss.length).getD z ae).2 == (x:Int))=decide (((a8 p ss (aC w h a ss ss.length) ss.length).getD z ae).2=(x:Int)) from rfl]
       repeat' first|exact aa _|exact rfl|exact aa _|exact ac|apply And.intro
      ·rw[hS,q,Bool.false_or,decide_eq_false (p:=((a8 p ss (aC w h a ss ss.length) ss.length).getD z ae).1=(y:Int)) (beq_eq_false_iff_ne.1 q1),Bool.false_and]
       repeat' first|exact aa _|exact rfl|exact aa _|exact ac|apply And.intro
     ·obtain rfl:z=(a8 p ss (aC w h a ss ss.length) ss.length).length:=by have:=aA s;omega
      rw[JP hy1 (by omega)]
      refine ⟨⟨by omega,by omega⟩,cL (by omega) (by omega),⟨by omega,by omega⟩,cL hx1 (by omega),fun q=>⟨fun q1=>⟨rfl,bl ?_,trivial⟩,fun q1=>⟨aG (by omega),y+1,⟨by omega,ve hy.2 ?_⟩,by omega,rfl,?_⟩⟩,fun q=>⟨aG (by omega),y+1,⟨by omega,ve hy.2 ?_⟩,by omega,rfl,?_⟩⟩
      ·have q2:agI p ss (aC w h a ss ss.length) (y:Int) (x:Int)=true:=by rw[Bool.not_not]at q1;exact q1
       have q3:iG (agI p ss (aC w h a ss ss.length)) c x x=false:=B9 hy1 (by rw[decide_eq_true (p:=c.getD x 0=c.getD y 0) (eq_of_beq q).symm,q2];rfl)
       rw[kp hx1 (by unfold nT;rw[q3,Bool.and_false])];rfl
      ·have q2:agI p ss (aC w h a ss ss.length) (y:Int) (x:Int)=false:=by rw[Bool.not_not]at q1;exact q1
       rw[q2,Bool.and_false]
      ·repeat' first|exact aa _|exact rfl|exact aa _|exact ac|apply And.intro
      ·rw[decide_eq_false (p:=c.getD x 0=c.getD y 0) fun q2=>beq_eq_false_iff_ne.1 q q2.symm];rfl
      ·repeat' first|exact aa _|exact rfl|exact aa _|exact ac|apply And.intro
    ·obtain rfl:y=x:=by have:=aA r;omega
     refine ⟨aG (by omega),y+1,⟨by omega,?_⟩,by omega,rfl,?_⟩
     ·rw[B8,hx.2]
      unfold nT
      rw[hy.2,decide_eq_true (by have:=aA v1;omega),decide_eq_true (by have:=aA v2;omega)];rfl
     ·repeat' first|exact aa _|exact rfl|exact aa _|exact ac|apply And.intro
   ·obtain rfl:x=c.length:=by have:=aA v;omega
    refine ⟨rfl,bl ?_,trivial⟩
    rw[hx.2];rfl
theorem vC{w h:Int}{p:Int}{c:List Int}{k:Int}(ha:a.length<=100000)(hs:ss.length<=100000)(hc:c.length<=1000){i j l:Nat}(hnd:[i,j,l].Nodup){o1 o2 o3:Bool}{z1 z2 z3:Nat}(hi:H[i]?=some (.cells o1 z1 (a.flatMap af)))(hj:H[j]?=some (.cells o2 z2 (ss.flatMap spC)))(hl:H[l]?=some (.cells o3 z3 (c.flatMap ai))) :
  ad prog 49 [db w h a p ss i j,slQ l 2 c.length,.int .i64 k] H [] (Is (.tuple #[.bool (ew w h a p ss c k),.int .i64 (eh w h a p ss c k)]) H):=by
 have key:=bR (fun _ => .tuple #[.bool (ew w h a p ss c k),.int .i64 (eh w h a p ss c k)]) (new:=[]) (Eq.mpr (EE o1 o2 z1 z2 w h a p ss o3 z3 c k) (Bb ha hs hc)) (th ..) rfl trivial hnd (H:=H) ⟨by rw[dB];exact hi,by rw[gz];exact hj,by rw[mP];exact hl,trivial⟩ (fun j=>rfl) (args':=[db w h a p ss i j,slQ l 2 c.length,.int .i64 k]) rfl
 rwa [List.append_nil]at key
theorem Hs{f t:Int}(e:cE w h a.length≠0):dsE w h a f t=cE w h a.length/\dsV w h a f t=0:=by
 have e1:dsE w h a f t=cE w h a.length:=if_neg e
 exact ⟨e1,if_neg (by rw[e1];exact e)⟩
theorem Ai{f t:Int}(e:cE w h a.length=0)(q:¬ (bJ a f=true/\bJ a t=true)):dsE w h a f t=1/\dsV w h a f t=0:=by
 have e1:dsE w h a f t=1:=by unfold dsE;rw[if_pos e,if_neg q]
 exact ⟨e1,if_neg (by rw[e1];decide)⟩
theorem Hr{f t:Int}(e:cE w h a.length=0)(q:bJ a f=true/\bJ a t=true)(r:¬ bk w h a f t<bb):dsE w h a f t=4/\dsV w h a f t=0:=by
 have e1:dsE w h a f t=4:=by unfold dsE;rw[if_pos e,if_pos q,if_neg r]
 exact ⟨e1,if_neg (by rw[e1];decide)⟩
theorem Hq{f t:Int}(e:cE w h a.length=0)(q:bJ a f=true/\bJ a t=true)(r:bk w h a f t<bb):dsE w h a f t=0/\dsV w h a f t=bk w h a f t:=by
 have e1:dsE w h a f t=0:=by unfold dsE;rw[if_pos e,if_pos q,if_pos r]
 exact ⟨e1,if_pos e1⟩
theorem F4{o1:Bool}{z1:Nat}{f t:Int}:yl o1 z1 w h a f t:=by
 delta yl ck c6 eL cZ eO gB nK zn pB sj
 refine ⟨⟨rfl,trivial⟩,fun H' hl g=>zl w h a g.1,fun u=>⟨rfl,bl ?_,trivial⟩,fun u =>?_⟩
 ·obtain ⟨e1,e2⟩:=Hs (f:=f) (t:=t) (bne_iff_ne.1 u)
  rw[e1,e2];rfl
 ·have e:cE w h a.length=0:=bne_eq_false_iff_eq.1 u
  refine ⟨⟨rfl,trivial⟩,fun H' hl g=>vB w h a _ g.1,fun v=>⟨rfl,bl ?_,trivial⟩,fun v=>⟨⟨rfl,trivial⟩,fun H' hl g=>vB w h a _ g.1,fun r=>⟨rfl,bl ?_,trivial⟩,fun r =>?_⟩⟩
  ·obtain ⟨e1,e2⟩:=Ai (f:=f) (t:=t) e (fun q=>by rw[ff v]at q;cases q.1)
   rw[e1,e2];rfl
  ·obtain ⟨e1,e2⟩:=Ai (f:=f) (t:=t) e (fun q=>by rw[ff r]at q;cases q.2)
   rw[e1,e2];rfl
  ·have b:=D5 e
   have n1:=b.n1
   have h1:=ko (bK v)
   have h2:=ko (bK r)
   have hl:(eP w h a f).length=a.length:=dC ..
   have bd:=iB b h1.1 t
   have et:(eP w h a f).getD (Int.toNat t) 0=if bk w h a f t<bb then bk w h a f t else -1:=by
    unfold eP
    rw[dD (by omega),show ((Int.toNat t:Nat):Int)=t by omega]
   refine ⟨⟨rfl,trivial⟩,fun H' hl g=>(by have key:=zJ b h1.1 h1.2 g.1;rw[hl]at key;exact key),⟨by omega,by omega⟩,cL (by omega) (by omega),?_⟩
   rw[et]
   by_cases q:bk w h a f t<bb
   ·rw[if_pos q]
    obtain ⟨e1,e2⟩:=Hq e ⟨bK v,bK r⟩ q
    rw[e1,e2]
    exact ⟨fun s=>absurd (av s) (by omega),fun _=>⟨rfl,aa _,trivial⟩⟩
   ·rw[if_neg q]
    obtain ⟨e1,e2⟩:=Hr e ⟨bK v,bK r⟩ q
    rw[e1,e2]
    exact ⟨fun _=>⟨rfl,aa _,trivial⟩,fun s=>absurd (aA s) (by omega)⟩
theorem I9{o1:Bool}{z1:Nat}{f t:Int}(ha:a.length<=100000):Ev o1 z1 w h a f t:=by
 delta Ev ck c6 eL cZ eO gB nK zn pB sj
 refine ⟨⟨rfl,trivial⟩,fun H' hl g=>Dk w h a g.1,fun u=>⟨rfl,bl ?_,trivial⟩,fun u =>?_⟩
 ·obtain ⟨e1,e2⟩:=Hs (f:=f) (t:=t) (bne_iff_ne.1 u)
  rw[e1,e2];rfl
 ·have e:cE w h a.length=0:=bne_eq_false_iff_eq.1 u
  refine ⟨⟨rfl,trivial⟩,fun H' hl g=>A9 w h a _ ha g.1,fun v=>⟨rfl,bl ?_,trivial⟩,fun v=>⟨⟨rfl,trivial⟩,fun H' hl g=>A9 w h a _ ha g.1,fun r=>⟨rfl,bl ?_,trivial⟩,fun r =>?_⟩⟩
  ·obtain ⟨e1,e2⟩:=Ai (f:=f) (t:=t) e (fun q=>by rw[ff v]at q;cases q.1)
   rw[e1,e2];rfl
  ·obtain ⟨e1,e2⟩:=Ai (f:=f) (t:=t) e (fun q=>by rw[ff r]at q;cases q.2)
   rw[e1,e2];rfl
  ·have b:=D5 e
   have n1:=b.n1
   have h1:=ko (bK v)
   have h2:=ko (bK r)
   have hl:(cw w h a f).length=a.length:=dC ..
   have bd:=iB b h1.1 t
   have et:(cw w h a f).getD (Int.toNat t) 0=bk w h a f t:=by
    rw[show (cw w h a f).getD (Int.toNat t) 0=bk w h a f ((Int.toNat t:Nat):Int) from dD (by omega),show ((Int.toNat t:Nat):Int)=t by omega]
   refine ⟨⟨rfl,trivial⟩,fun H' hl g=>(by have key:=De b h1.1 g.1;rw[hl]at key;exact key),⟨by omega,by omega⟩,cL (by omega) (by omega),?_⟩
   rw[et]
   by_cases q:bk w h a f t<bb
   ·obtain ⟨e1,e2⟩:=Hq e ⟨bK v,bK r⟩ q
    rw[e1,e2]
    exact ⟨fun s=>absurd (eq_of_beq s) (by unfold bb at q;omega),fun _=>⟨rfl,aa _,trivial⟩⟩
   ·obtain ⟨e1,e2⟩:=Hr e ⟨bK v,bK r⟩ q
    rw[e1,e2]
    exact ⟨fun _=>⟨rfl,aa _,trivial⟩,fun s=>absurd (beq_eq_false_iff_ne.1 s) (by unfold bb at bd q;omega)⟩
theorem ul(o:Bool)(z:Nat)(a:List Bool):[ab.cells o z (a.flatMap af)].all (aZ 3)=true:=by
 show (aZ 3 (.cells o z (a.flatMap af))&&true)=true
 rw[fB];rfl
theorem Ii{w h:Int}{f t:Int}{i:Nat}{o1:Bool}{z1:Nat}(hi:H[i]?=some (.cells o1 z1 (a.flatMap af))) :
  ad prog 44 [.agg #[.int .i64 w,.int .i64 h,slQ i 2 a.length],.int .i64 f,.int .i64 t] H [] (Is (.tuple #[.int .i64 (dsV w h a f t),.int .i64 (dsE w h a f t)]) H):=by
 have key:=bR (fun _ => .tuple #[.int .i64 (dsV w h a f t),.int .i64 (dsE w h a f t)]) (new:=[]) (Eq.mpr (J7 o1 z1 w h a f t) F4) (ul ..) rfl trivial (ids:=[i]) (by simp) (H:=H) ⟨by rw[dB];exact hi,trivial⟩ (fun j=>rfl) (args':=[.agg #[.int .i64 w,.int .i64 h,slQ i 2 a.length],.int .i64 f,.int .i64 t]) rfl
 rwa [List.append_nil]at key
theorem K5{w h:Int}{f t:Int}(ha:a.length<=100000){i:Nat}{o1:Bool}{z1:Nat}(hi:H[i]?=some (.cells o1 z1 (a.flatMap af))) :
  ad prog 43 [.agg #[.int .i64 w,.int .i64 h,slQ i 2 a.length],.int .i64 f,.int .i64 t] H [] (Is (.tuple #[.int .i64 (dsV w h a f t),.int .i64 (dsE w h a f t)]) H):=by
 have key:=bR (fun _ => .tuple #[.int .i64 (dsV w h a f t),.int .i64 (dsE w h a f t)]) (new:=[]) (Eq.mpr (LV o1 z1 w h a f t) (I9 ha)) (ul ..) rfl trivial (ids:=[i]) (by simp) (H:=H) ⟨by rw[dB];exact hi,trivial⟩ (fun j=>rfl) (args':=[.agg #[.int .i64 w,.int .i64 h,slQ i 2 a.length],.int .i64 f,.int .i64 t]) rfl
 rwa [List.append_nil]at key
def yr(o1:Bool)(z1:Nat)(L:List Int):Prop :=
 (((List.length L)=0->(((0+(List.length L))*8<=2 ^ 44/\(List.length L)=0)/\true=true/\wk (.slice none 0 0:Value) (rn (sg 1 []) 3 (.slice (some ⟨1,0,some 1⟩) (List.length L) (List.length L):Value))/\True/\True))/\(¬ ((List.length L)=0)->(((0+(List.length L))*8<=2 ^ 44/\(List.length L)≠0/\(0=0)/\((List.length L)<=(List.length L)/\0+(List.length L)*1<=List.length (List.flatMap ai L))/\((List.take ((List.length L)*1) (List.drop 0 (List.flatMap ai L))):List Value).all (fun v=>cO v)=true)/\true=true/\true=true/\wk (.slice (some ⟨1,0,none⟩) (0+(List.length L)) (0+(List.length L)):Value) (rn (sg 1 [(1,1)]) 3 (.slice (some ⟨1,0,some 1⟩) (List.length L) (List.length L):Value))/\(some (.cells true 1 ([]++(List.take ((List.length L)*1) (List.drop 0 (List.flatMap ai L)))):ab)=some (.cells true 1 (List.flatMap ai L):ab)/\aj 1 (.cells true 1 (List.flatMap ai L):ab)=true)/\True)))
theorem Ki(o1:Bool)(z1:Nat)(L:List Int):vF prog msk (dm 0) 100000 true 40 true 48 [.slice (some ⟨0,0,some 2⟩) (List.length L) (List.length L)] (aW [.cells o1 z1 (List.flatMap ai L)]) (some [])
 (.go 3 (.cas ((List.length L)=0) (.val (.bool true) (.go 0 (.again []))) (.need (.go 0 (.again [(1,1)])))))
 (ca ((aW [.cells o1 z1 (List.flatMap ai L)]):HT).n 3 (.slice (some ⟨1,0,some 1⟩) (List.length L) (List.length L)) [(true,.cells true 1 (List.flatMap ai L))])=yr o1 z1 L:=by kernel_rfl
def yq(o1:Bool)(z1:Nat)(L:List Bool):Prop :=
 (((List.length L)=0->(((0+(List.length L))*1<=2 ^ 44/\(List.length L)=0)/\true=true/\wk (.slice none 0 0:Value) (rn (sg 1 []) 3 (.slice (some ⟨1,0,some 1⟩) (List.length L) (List.length L):Value))/\True/\True))/\(¬ ((List.length L)=0)->(((0+(List.length L))*1<=2 ^ 44/\(List.length L)≠0/\(0=0)/\((List.length L)<=(List.length L)/\0+(List.length L)*1<=List.length (List.flatMap af L))/\((List.take ((List.length L)*1) (List.drop 0 (List.flatMap af L))):List Value).all (fun v=>cO v)=true)/\true=true/\true=true/\wk (.slice (some ⟨1,0,none⟩) (0+(List.length L)) (0+(List.length L)):Value) (rn (sg 1 [(1,1)]) 3 (.slice (some ⟨1,0,some 1⟩) (List.length L) (List.length L):Value))/\(some (.cells true 1 ([]++(List.take ((List.length L)*1) (List.drop 0 (List.flatMap af L)))):ab)=some (.cells true 1 (List.flatMap af L):ab)/\aj 1 (.cells true 1 (List.flatMap af L):ab)=true)/\True)))
theorem Kh(o1:Bool)(z1:Nat)(L:List Bool):vF prog msk (dm 0) 100000 true 40 true 167 [.slice (some ⟨0,0,some 2⟩) (List.length L) (List.length L)] (aW [.cells o1 z1 (List.flatMap af L)]) (some [])
 (.go 3 (.cas ((List.length L)=0) (.val (.bool true) (.go 0 (.again []))) (.need (.go 0 (.again [(1,1)])))))
 (ca ((aW [.cells o1 z1 (List.flatMap af L)]):HT).n 3 (.slice (some ⟨1,0,some 1⟩) (List.length L) (List.length L)) [(true,.cells true 1 (List.flatMap af L))])=yq o1 z1 L:=by kernel_rfl
theorem yK{α:Type}{L M:List α}{d:α}{x:Nat}(h1:x<L.length)(h2:x<M.length)(h:L.take x=M.take x)(e:L.getD x d=M.getD x d):L.take (x+1)=M.take (x+1):=by
 rw[List.take_succ_eq_append_getElem h1,List.take_succ_eq_append_getElem h2,h]
 simp only[List.getD_eq_getElem?_getD,List.getElem?_eq_getElem h1,List.getElem?_eq_getElem h2,Option.getD_some]at e
 rw[e]
theorem HI(o1 o2:Bool)(z1 z2:Nat)(a:List Bool)(b:List Bool):[ab.cells o1 z1 (a.flatMap af),.cells o2 z2 (b.flatMap af)].all (aZ 3)=true:=by
 show (aZ 3 (.cells o1 z1 (a.flatMap af))&&(aZ 3 (.cells o2 z2 (b.flatMap af))&&true))=true
 rw[fB,fB];rfl
theorem HG(o1 o2:Bool)(z1 z2:Nat)(a b:List (Int×Int)):[ab.cells o1 z1 (a.flatMap spC),.cells o2 z2 (b.flatMap spC)].all (aZ 3)=true:=by
 show (aZ 3 (.cells o1 z1 (a.flatMap spC))&&(aZ 3 (.cells o2 z2 (b.flatMap spC))&&true))=true
 rw[jv,jv];rfl
theorem Df(L M:List Bool)(hl:L.length<=1000000)(hm:M.length<=1000000){i j:Nat}(hne:i≠j)(hi:H[i]?=some (.cells o1 z1 (L.flatMap af)))(hj:H[j]?=some (.cells o2 z2 (M.flatMap af))) :
  ad prog 47 [slQ i 2 L.length,slQ j 2 M.length] H [] (Is (.bool (decide (L=M))) H):=by
 have hR:yj o1 o2 z1 z2 L M:=by
  delta yj dP bN bZ cQ c7 cC dK cv dQ
  refine ⟨fun k=>⟨rfl,bl ?_,trivial⟩,fun k =>?_⟩
  ·rw[decide_eq_false (fun e=>by rw[e]at k;simp at k)];rfl
  have hlm:L.length=M.length:=by have:=bne_eq_false_iff_eq.1 k;omega
  refine ⟨rfl,⟨Nat.zero_le _,rfl⟩,?_,fun _=>rfl,fun x hx=>⟨fun k =>?_,fun k =>?_⟩⟩
  ·repeat' first|exact am _ _|exact az _ _|exact spB _ _|exact ah _ _ _ (.inl rfl)|exact aa _|exact rfl|exact aa _|refine aK ?_|exact ac|exact ah _ _ _ (.inl rfl)|apply And.intro
  ·have h1:x<L.length:=by have:=av k;omega
   refine ⟨⟨by omega,by omega⟩,ip h1 (by omega),⟨by omega,by omega⟩,ip (by omega) (by omega),fun b=>⟨rfl,bl ?_,trivial⟩,fun b =>?_⟩
   ·rw[decide_eq_false (fun e=>by rw[e]at b;simp at b)];rfl
   ·refine ⟨aG (by omega),x+1,⟨by omega,yK (d:=false) h1 (by omega) hx.2 (by have:=bK b;exact eq_of_beq this)⟩,by omega,rfl,?_⟩
    repeat' first|exact am _ _|exact az _ _|exact spB _ _|exact ah _ _ _ (.inl rfl)|exact aa _|exact rfl|exact aa _|refine aK ?_|exact ac|exact ah _ _ _ (.inl rfl)|apply And.intro
  ·have h1:x=L.length:=by have:=aA k;omega
   have:=hx.2
   rw[h1,List.take_length,hlm,List.take_length]at this
   rw[decide_eq_true this]
   exact ⟨rfl,aa _,trivial⟩
 have key:=bR (fun _ => .bool (decide (L=M))) (new:=[]) (Eq.mpr (J5 o1 o2 z1 z2 L M) hR) (HI ..) rfl trivial (ids:=[i,j]) (by simpa using hne) (H:=H) ⟨by rw[dB];exact hi,by rw[dB];exact hj,trivial⟩ (fun j=>rfl) (args':=[slQ i 2 L.length,slQ j 2 M.length]) rfl
 rwa [List.append_nil]at key
theorem Ix(L M:List (Int×Int))(hl:L.length<=1000000)(hm:M.length<=1000000){i j:Nat}(hne:i≠j)(hi:H[i]?=some (.cells o1 z1 (L.flatMap spC)))(hj:H[j]?=some (.cells o2 z2 (M.flatMap spC))) :
  ad prog 52 [slQ i 2 L.length,slQ j 2 M.length] H [] (Is (.bool (decide (L=M))) H):=by
 have hR:yi o1 o2 z1 z2 L M:=by
  delta yi dP bN bZ cQ c7 cC dK cv dQ
  refine ⟨fun k=>⟨rfl,bl ?_,trivial⟩,fun k =>?_⟩
  ·rw[decide_eq_false (fun e=>by rw[e]at k;simp at k)];rfl
  have hlm:L.length=M.length:=by have:=bne_eq_false_iff_eq.1 k;omega
  refine ⟨rfl,⟨Nat.zero_le _,rfl⟩,?_,fun _=>rfl,fun x hx=>⟨fun k =>?_,fun k =>?_⟩⟩
  ·repeat' first|exact am _ _|exact az _ _|exact spB _ _|exact ah _ _ _ (.inl rfl)|exact aa _|exact rfl|exact aa _|refine aK ?_|exact ac|exact ah _ _ _ (.inl rfl)|apply And.intro
  ·have h1:x<L.length:=by have:=av k;omega
   refine ⟨⟨by omega,by omega⟩,fN h1 (by omega),⟨by omega,by omega⟩,fN (by omega) (by omega),fun b=>⟨rfl,bl ?_,trivial⟩,fun b =>?_⟩
   ·rw[decide_eq_false (fun e=>by rw[e]at b;simp at b)];rfl
   ·have b2:=bK b
    rw[Bool.and_true,Bool.and_eq_true]at b2
    refine ⟨aG (by omega),x+1,⟨by omega,yK (d:=ae) h1 (by omega) hx.2 (Prod.ext (eq_of_beq b2.1) (eq_of_beq b2.2))⟩,by omega,rfl,?_⟩
    repeat' first|exact am _ _|exact az _ _|exact spB _ _|exact ah _ _ _ (.inl rfl)|exact aa _|exact rfl|exact aa _|refine aK ?_|exact ac|exact ah _ _ _ (.inl rfl)|apply And.intro
  ·have h1:x=L.length:=by have:=aA k;omega
   have:=hx.2
   rw[h1,List.take_length,hlm,List.take_length]at this
   rw[decide_eq_true this]
   exact ⟨rfl,aa _,trivial⟩
 have key:=bR (fun _ => .bool (decide (L=M))) (new:=[]) (Eq.mpr (J3 o1 o2 z1 z2 L M) hR) (HG ..) rfl trivial (ids:=[i,j]) (by simpa using hne) (H:=H) ⟨by rw[gz];exact hi,by rw[gz];exact hj,trivial⟩ (fun j=>rfl) (args':=[slQ i 2 L.length,slQ j 2 M.length]) rfl
 rwa [List.append_nil]at key
theorem Di(L:List Int)(hl:L.length<=1000000){i:Nat}{o1:Bool}{z1:Nat}(hi:H[i]?=some (.cells o1 z1 (L.flatMap ai))) :
  ad prog 48 [slQ i 2 L.length] H [] (Is (slQ H.length 1 L.length) (H ++ [.cells true 1 (L.flatMap ai)])):=by
 have hR:yr o1 z1 L:=by
  unfold yr
  have hf:=aP (f:=ai) (n:=1) bg L
  refine ⟨fun e=>⟨⟨by omega,e⟩,rfl,?_,?_⟩,fun e=>⟨⟨by omega,e,rfl,⟨Nat.le_refl _,by omega⟩,?_⟩,rfl,rfl,?_,?_⟩⟩
  ·rw[e];exact ah _ _ _ (.inl rfl)
  ·repeat' first|exact am _ _|exact az _ _|exact spB _ _|exact ah _ _ _ (.inl rfl)|exact aa _|exact rfl|exact aa _|refine aK ?_|exact ac|exact ah _ _ _ (.inl rfl)|apply And.intro
  ·rw[List.drop_zero,List.take_of_length_le (by omega)];exact List.all_eq_true.2 Ch
  ·rw[Nat.zero_add];exact iq (by omega)
  ·rw[List.drop_zero,List.take_of_length_le (by omega),List.nil_append]
   repeat' first|exact am _ _|exact az _ _|exact spB _ _|exact ah _ _ _ (.inl rfl)|exact aa _|exact rfl|exact aa _|refine aK ?_|exact ac|exact ah _ _ _ (.inl rfl)|apply And.intro
 have ok:[ab.cells o1 z1 (L.flatMap ai)].all (aZ 3)=true:=by
  show (aZ 3 (.cells o1 z1 (L.flatMap ai))&&true)=true
  rw[xI];rfl
 exact bR (fun j=>slQ j 1 L.length) (new:=[.cells true 1 (L.flatMap ai)]) (Eq.mpr (Ki o1 z1 L) hR) ok rfl ⟨⟨_,_,rfl,am _ _⟩,trivial⟩ (ids:=[i]) (by simp) ⟨by rw[mP];exact hi,trivial⟩ (fun j=>rfl) rfl
theorem II(L:List Bool)(hl:L.length<=1000000){i:Nat}{o1:Bool}{z1:Nat}(hi:H[i]?=some (.cells o1 z1 (L.flatMap af))) :
  ad prog 167 [slQ i 2 L.length] H [] (Is (slQ H.length 1 L.length) (H ++ [.cells true 1 (L.flatMap af)])):=by
 have hR:yq o1 z1 L:=by
  unfold yq
  have hf:=aP (f:=af) (n:=1) bU L
  refine ⟨fun e=>⟨⟨by omega,e⟩,rfl,?_,?_⟩,fun e=>⟨⟨by omega,e,rfl,⟨Nat.le_refl _,by omega⟩,?_⟩,rfl,rfl,?_,?_⟩⟩
  ·rw[e];exact ah _ _ _ (.inl rfl)
  ·repeat' first|exact am _ _|exact az _ _|exact spB _ _|exact ah _ _ _ (.inl rfl)|exact aa _|exact rfl|exact aa _|refine aK ?_|exact ac|exact ah _ _ _ (.inl rfl)|apply And.intro
  ·rw[List.drop_zero];exact oQ _ _
  ·rw[Nat.zero_add];exact iq (by omega)
  ·rw[List.drop_zero,List.take_of_length_le (by omega),List.nil_append]
   repeat' first|exact am _ _|exact az _ _|exact spB _ _|exact ah _ _ _ (.inl rfl)|exact aa _|exact rfl|exact aa _|refine aK ?_|exact ac|exact ah _ _ _ (.inl rfl)|apply And.intro
 exact bR (fun j=>slQ j 1 L.length) (new:=[.cells true 1 (L.flatMap af)]) (Eq.mpr (Kh o1 z1 L) hR) (ul ..) rfl ⟨⟨_,_,rfl,az _ _⟩,trivial⟩ (ids:=[i]) (by simp) ⟨by rw[dB];exact hi,trivial⟩ (fun j=>rfl) rfl
theorem HN{x:Nat}(h:x<ss.length):ss.take (x+1)=ss.take x ++ [ss.getD x ae]:=by
 rw[List.take_succ_eq_append_getElem h]
 rw[show ss[x]=ss.getD x ae from by rw[List.getD_eq_getElem?_getD,List.getElem?_eq_getElem h];rfl]
theorem FL{w h:Int}{p:Int}(ha:a.length<=100000)(hs:ss.length<=100000){i j:Nat}(hne:i≠j)(hi:H[i]?=some (.cells o1 z1 (a.flatMap af)))(hj:H[j]?=some (.cells o2 z2 (ss.flatMap spC))) :
  ad prog 40 [db w h a p ss i j] H [] (Is (.agg #[.int .i64 w,.int .i64 h,slQ H.length 1 a.length,.int .i64 p,slQ (H.length+1) 1 ss.length]) (H ++ [.cells true 1 (a.flatMap af),.cells true 2 (ss.flatMap spC)])):=by
 have hR:uB o1 o2 z1 z2 w h a p ss:=by
  delta uB ck c6 eL cZ eO jY bN bZ jE C4 cu c7 fk cC dJ d9 iY bf bj kZ ma dK cv jX
  refine ⟨⟨rfl,trivial⟩,fun H' hl g=>(by have key:=II a (by omega) g.1;rw[hl]at key;exact key),rfl,Nat.zero_le _,?_,fun _=>rfl,fun x hx=>⟨fun k =>?_,fun k =>?_⟩⟩
  ·repeat' first|exact am _ _|exact az _ _|exact spB _ _|exact ah _ _ _ (.inl rfl)|exact aa _|exact rfl|exact aa _|refine aK ?_|exact ac|exact ah _ _ _ (.inl rfl)|apply And.intro
  ·have h1:x<ss.length:=by have:=av k;omega
   have e2:=HN h1
   have hlt:(ss.take x).length=x:=by rw[List.length_take];omega
   refine ⟨⟨by omega,by omega⟩,fN h1 (by omega),⟨by omega,by decide,⟨Nat.le_refl _,by rw[aP cd];omega⟩,⟨Nat.le_refl _,by simp⟩,rfl⟩,rfl,aG (by omega),x+1,by omega,by omega,rfl,?_⟩
   repeat' first|exact dd e2|exact de cd e2 rfl|exact am _ _|exact az _ _|exact spB _ _|exact ah _ _ _ (.inl rfl)|exact aa _|exact rfl|exact aa _|refine aK ?_|exact ac|exact ah _ _ _ (.inl rfl)|apply And.intro
  ·obtain rfl:x=ss.length:=by have:=aA k;omega
   rw[List.take_length]
   repeat' first|exact am _ _|exact az _ _|exact spB _ _|exact ah _ _ _ (.inl rfl)|exact aa _|exact rfl|exact aa _|refine aK ?_|exact ac|exact ah _ _ _ (.inl rfl)|apply And.intro
 have key:=vcK iw mixed dx 40 (os:=[.cells o1 z1 (a.flatMap af),.cells o2 z2 (ss.flatMap spC)]) (v:=.agg #[.int .i64 w,.int .i64 h,slQ 2 1 a.length,.int .i64 p,slQ 3 1 ss.length])
  (new:=[(true,.cells true 1 (a.flatMap af)),(true,.cells true 2 (ss.flatMap spC))]) (Eq.mpr (GQ o1 o2 z1 z2 w h a p ss) hR) (cz ..) rfl
  (by show ((aZ 3 (.cells true 1 (a.flatMap af))&&true)&&((aZ 3 (.cells true 2 (ss.flatMap spC))&&true)&&true))=true;rw[fB,jv];rfl) (H:=H) (ids:=[i,j]) (by simp[hne]) (bC hi hj)
 have e:(List.map (rno (dW (sgI [i,j]) 2 H.length) 3) ([(true,ab.cells true 1 (a.flatMap af)),(true,.cells true 2 (ss.flatMap spC))].map (·.2)))=[.cells true 1 (a.flatMap af),.cells true 2 (ss.flatMap spC)]:=by
  show [rno _ 3 (.cells true 1 (a.flatMap af)),rno _ 3 (.cells true 2 (ss.flatMap spC))]=_
  rw[dB,gz]
 have e2:([ab.cells o1 z1 (a.flatMap af),.cells o2 z2 (ss.flatMap spC)]:List ab).length=2:=rfl
 rw[e2,e]at key
 exact key
theorem Fx(o1 o2 o3 o4:Bool)(z1 z2 z3 z4:Nat)(a:List Bool)(ss:List (Int×Int)):[ab.cells o1 z1 (a.flatMap af),.cells o2 z2 (ss.flatMap spC),.cells o3 z3 (a.flatMap af),.cells o4 z4 (ss.flatMap spC)].all (aZ 3)=true:=by
 show (aZ 3 (.cells o1 z1 (a.flatMap af))&&(aZ 3 (.cells o2 z2 (ss.flatMap spC))&&(aZ 3 (.cells o3 z3 (a.flatMap af))&&(aZ 3 (.cells o4 z4 (ss.flatMap spC))&&true))))=true
 rw[fB,jv,fB,jv];rfl
theorem ne_self{x:Int}(h:(x != x)=true):False:=by simp at h
theorem ID{w h:Int}{p:Int}(ha:a.length<=100000)(hs:ss.length<=100000){i j k l:Nat}(hnd:[i,j,k,l].Nodup){o1 o2 o3 o4:Bool}{z1 z2 z3 z4:Nat}(hi:H[i]?=some (.cells o1 z1 (a.flatMap af)))(hj:H[j]?=some (.cells o2 z2 (ss.flatMap spC)))(hk:H[k]?=some (.cells o3 z3 (a.flatMap af)))(hl:H[l]?=some (.cells o4 z4 (ss.flatMap spC))) :
  ad prog 53 [db w h a p ss i j,db w h a p ss k l] H [] (Is (.bool true) H):=by
 have hR:yp o1 o2 o3 o4 z1 z2 z3 z4 w h a p ss:=by
  delta yp dP dQ fF ck c6 cZ dJ bN bZ C3 cQ c7 fk cC d9 iY bf bj kZ ma dK cv
  refine ⟨fun q=>(ne_self q).elim,fun _=>⟨fun q=>(ne_self q).elim,fun _=>⟨fun q=>(ne_self q).elim,fun _=>⟨⟨rfl,rfl,trivial⟩,fun H' hl g=>Df a a (by omega) (by omega) (by decide) g.1 g.2.1,fun q=>(by rw[decide_eq_true rfl]at q;cases q),fun _=>⟨fun q=>(ne_self q).elim,fun _=>⟨rfl,Nat.zero_le _,?_,fun _=>rfl,fun x hx=>⟨fun k =>?_,fun k =>?_⟩⟩⟩⟩⟩⟩⟩
  ·repeat' first|exact am _ _|exact az _ _|exact spB _ _|exact ah _ _ _ (.inl rfl)|exact aa _|exact rfl|exact aa _|refine aK ?_|exact ac|exact ah _ _ _ (.inl rfl)|apply And.intro
  ·have h1:x<ss.length:=by have:=av k;omega
   refine ⟨⟨by omega,by omega⟩,fN h1 (by omega),⟨by omega,by omega⟩,fN h1 (by omega),fun b=>(by simp at b),fun b=>⟨aG (by omega),x+1,by omega,by omega,rfl,?_⟩⟩
   repeat' first|exact am _ _|exact az _ _|exact spB _ _|exact ah _ _ _ (.inl rfl)|exact aa _|exact rfl|exact aa _|refine aK ?_|exact ac|exact ah _ _ _ (.inl rfl)|apply And.intro
  ·exact ⟨rfl,aa _,trivial⟩
 have key:=bR (fun _ => .bool true) (new:=[]) (Eq.mpr (Kc o1 o2 o3 o4 z1 z2 z3 z4 w h a p ss) hR) (Fx ..) rfl trivial (ids:=[i,j,k,l]) hnd (H:=H) ⟨by rw[dB];exact hi,by rw[gz];exact hj,by rw[dB];exact hk,by rw[gz];exact hl,trivial⟩ (fun j=>rfl) (args':=[db w h a p ss i j,db w h a p ss k l]) rfl
 rwa [List.append_nil]at key
abbrev mA:Msg:=⟨1,5,9,3,0,0,2⟩
abbrev mB:Msg:=⟨1,2,10,1,7,3,0⟩
abbrev mC:Msg:=⟨1,5,9,1,8,0,0⟩
theorem yM{A B:List Msg}(hp:A.Perm B)(hk:∀m∈A,okM m=true)(hb:B.Pairwise fun a b=>iW a<=iW b):aI A=B :=
 lk ((fM A).trans hp) (fun m hm=>hk m (uW.1 hm)) (ir A) hb
theorem H7:∀m ∈ [mA,mB],okM m=true:=by decide
theorem G9:∀m ∈ [mA,mB,mC],okM m=true:=by decide
theorem G1:aI [mA,mB]=[mB,mA]:=yM (List.Perm.swap ..) H7 (by decide)
theorem HO:aI [mA,mB,mC]=[mB,mC,mA]:=yM (((List.Perm.swap mB mA [mC])).trans (List.Perm.cons _ (List.Perm.swap ..))) G9 (by decide)
theorem Ig:cq [mA,mB]=[]:=by unfold cq;rw[G1];rfl
theorem Fn:cq [mA,mB,mC]=[mB]:=by unfold cq;rw[HO];rfl
theorem Jx:iA [mA,mB] 1=[(1,1),(3,4)]:=by unfold iA;rw[G1];rfl
def yy(sp:Value)  : Prop :=
 ((True)/\(∀H':Heap,H'.length=0->(True)->ad prog 54 [] H' [] (Is (.tuple #[.pointer (some ⟨0,0,none⟩),.int .i64 0]) (H' ++ [(.cells true 0 [.map (some 1)]:ab),(.map (aq []):ab)])))/\((some (.cells true 0 [.map (some 1)]:ab)=some (.cells true 0 [.map (some 1)]:ab))/\(some (.map (aq []):ab)=some (.map (aq []):ab))/\True)/\(∀H':Heap,H'.length=2->(H'[0]?=some (.cells true 0 [.map (some 1)]:ab)/\H'[1]?=some (.map (aq []):ab)/\True)->ad prog 31 [.pointer (some ⟨0,0,none⟩),.agg #[.int .i64 1,.int .i64 5,.int .i64 9,.int .i64 3,.int .i64 0,.int .i64 0,.int .i64 2]] H' [1] (Is (.tuple #[.bool true,.int .i64 0]) (List.set H' 1 (.map (aq [mA]):ab))))/\((some (.cells true 0 [.map (some 1)]:ab)=some (.cells true 0 [.map (some 1)]:ab))/\(some (.map (aq [mA]):ab)=some (.map (aq [mA]):ab))/\True)/\(∀H':Heap,H'.length=2->(H'[0]?=some (.cells true 0 [.map (some 1)]:ab)/\H'[1]?=some (.map (aq [mA]):ab)/\True)->ad prog 31 [.pointer (some ⟨0,0,none⟩),.agg #[.int .i64 1,.int .i64 2,.int .i64 10,.int .i64 1,.int .i64 7,.int .i64 3,.int .i64 0]] H' [1] (Is (.tuple #[.bool true,.int .i64 0]) (List.set H' 1 (.map (aq [mA,mB]):ab))))/\((some (.cells true 0 [.map (some 1)]:ab)=some (.cells true 0 [.map (some 1)]:ab))/\(some (.map (aq [mA,mB]):ab)=some (.map (aq [mA,mB]):ab))/\True)/\(∀H':Heap,H'.length=2->(H'[0]?=some (.cells true 0 [.map (some 1)]:ab)/\H'[1]?=some (.map (aq [mA,mB]):ab)/\True)->ad prog 34 [.pointer (some ⟨0,0,none⟩)] H' [] (Is (.tuple #[.slice (some ⟨2,0,some 2⟩) 0 0,.int .i64 0]) (H' ++ [(.cells true 7 []:ab)])))/\((some (.cells true 0 [.map (some 1)]:ab)=some (.cells true 0 [.map (some 1)]:ab))/\(some (.map (aq [mA,mB]):ab)=some (.map (aq [mA,mB]):ab))/\True)/\(∀H':Heap,H'.length=3->(H'[0]?=some (.cells true 0 [.map (some 1)]:ab)/\H'[1]?=some (.map (aq [mA,mB]):ab)/\True)->ad prog 33 [.pointer (some ⟨0,0,none⟩),.int .i64 1] H' [] (Is (.tuple #[.slice (some ⟨3,0,some 1⟩) 2 2,.int .i64 0]) (H' ++ [(.cells true 2 [.int .i64 1,.int .i64 1,.int .i64 3,.int .i64 4]:ab)])))/\((some (.cells true 0 [.map (some 1)]:ab)=some (.cells true 0 [.map (some 1)]:ab))/\(some (.map (aq [mA,mB]):ab)=some (.map (aq [mA,mB]):ab))/\True)/\(∀H':Heap,H'.length=5->(H'[0]?=some (.cells true 0 [.map (some 1)]:ab)/\H'[1]?=some (.map (aq [mA,mB]):ab)/\True)->ad prog 31 [.pointer (some ⟨0,0,none⟩),.agg #[.int .i64 1,.int .i64 5,.int .i64 9,.int .i64 1,.int .i64 8,.int .i64 0,.int .i64 0]] H' [1] (Is (.tuple #[.bool true,.int .i64 0]) (List.set H' 1 (.map (aq [mA,mB,mC]):ab))))/\((some (.cells true 0 [.map (some 1)]:ab)=some (.cells true 0 [.map (some 1)]:ab))/\(some (.map (aq [mA,mB,mC]):ab)=some (.map (aq [mA,mB,mC]):ab))/\True)/\(∀H':Heap,H'.length=5->(H'[0]?=some (.cells true 0 [.map (some 1)]:ab)/\H'[1]?=some (.map (aq [mA,mB,mC]):ab)/\True)->ad prog 34 [.pointer (some ⟨0,0,none⟩)] H' [] (Is (.tuple #[.slice (some ⟨5,0,some 2⟩) 1 1,.int .i64 0]) (H' ++ [(.cells true 7 [.int .i64 1,.int .i64 2,.int .i64 10,.int .i64 1,.int .i64 7,.int .i64 3,.int .i64 0]:ab)])))/\((some (.cells true 1 [.bool false,.bool false,.bool false,.bool false,.bool false]:ab)=some (.cells true 1 [.bool false,.bool false,.bool false,.bool false,.bool false]:ab))/\(some (.cells true 2 [.int .i64 0,.int .i64 0,.int .i64 30,.int .i64 4,.int .i64 40,.int .i64 2]:ab)=some (.cells true 2 [.int .i64 0,.int .i64 0,.int .i64 30,.int .i64 4,.int .i64 40,.int .i64 2]:ab))/\True)/\(∀H':Heap,H'.length=23->(H'[15]?=some (.cells true 1 [.bool false,.bool false,.bool false,.bool false,.bool false]:ab)/\H'[21]?=some (.cells true 2 [.int .i64 0,.int .i64 0,.int .i64 30,.int .i64 4,.int .i64 40,.int .i64 2]:ab)/\True)->ad prog 24 [.agg #[.int .i64 5,.int .i64 1,.slice (some ⟨15,0,none⟩) 5 5,.int .i64 10,.slice (some ⟨21,0,none⟩) 3 3]] H' [] (Is (.tuple #[.slice (some ⟨23,0,some 1⟩) 3 3,.int .i64 0]) (H' ++ [(.cells true 1 [.bool true,.bool false,.bool true]:ab)])))/\((some (.cells true 1 [.bool false,.bool false,.bool false,.bool false,.bool false]:ab)=some (.cells true 1 [.bool false,.bool false,.bool false,.bool false,.bool false]:ab))/\(some (.cells true 2 [.int .i64 0,.int .i64 0,.int .i64 40,.int .i64 2]:ab)=some (.cells true 2 [.int .i64 0,.int .i64 0,.int .i64 40,.int .i64 2]:ab))/\True)/\(∀H':Heap,H'.length=26->(H'[15]?=some (.cells true 1 [.bool false,.bool false,.bool false,.bool false,.bool false]:ab)/\H'[25]?=some (.cells true 2 [.int .i64 0,.int .i64 0,.int .i64 40,.int .i64 2]:ab)/\True)->ad prog 18 [.agg #[.int .i64 5,.int .i64 1,.slice (some ⟨15,0,none⟩) 5 5,.int .i64 10,.slice (some ⟨25,0,none⟩) 2 2],.int .i64 25] H' [] (Is (.tuple #[.slice (some ⟨26,0,some 1⟩) 2 2,.int .i64 0]) (H' ++ [(.cells true 1 [.int .i64 1,.int .i64 2]:ab)])))/\((some (.cells true 1 [.bool false,.bool false,.bool false,.bool false,.bool false]:ab)=some (.cells true 1 [.bool false,.bool false,.bool false,.bool false,.bool false]:ab))/\(some (.cells true 2 [.int .i64 0,.int .i64 0,.int .i64 40,.int .i64 2]:ab)=some (.cells true 2 [.int .i64 0,.int .i64 0,.int .i64 40,.int .i64 2]:ab))/\True)/\(∀H':Heap,H'.length=27->(H'[15]?=some (.cells true 1 [.bool false,.bool false,.bool false,.bool false,.bool false]:ab)/\H'[25]?=some (.cells true 2 [.int .i64 0,.int .i64 0,.int .i64 40,.int .i64 2]:ab)/\True)->ad prog 19 [.agg #[.int .i64 5,.int .i64 1,.slice (some ⟨15,0,none⟩) 5 5,.int .i64 10,.slice (some ⟨25,0,none⟩) 2 2],.int .i64 1] H' [] (Is (.tuple #[.slice (some ⟨27,0,some 1⟩) 1 1,.int .i64 0]) (H' ++ [(.cells true 2 [.int .i64 10,.int .i64 30]:ab)])))/\(.bool true:Value)=sp)
theorem Kp(sp:Value)  : vF prog msk (dm 0) 100000 true 40 true 14 [] ⟨0,.leaf⟩ (some [])
 (.go 0 (.ans [] (.tuple #[.pointer (some ⟨0,0,none⟩),.int .i64 0]) [.cells true 0 [.map (some 1)],.map (aq [])] (.go 13 (.mn [(0,.cells true 0 [.map (some 1)]),(1,.map (aq []))] (.tuple #[.bool true,.int .i64 0]) [(1,.map (aq [mA]))] [] (.go 6 (.mn [(0,.cells true 0 [.map (some 1)]),(1,.map (aq [mA]))] (.tuple #[.bool true,.int .i64 0]) [(1,.map (aq [mA,mB]))] [] (.go 5 (.ans [(0,.cells true 0 [.map (some 1)]),(1,.map (aq [mA,mB]))] (.tuple #[.slice (some ⟨2,0,some 2⟩) 0 0,.int .i64 0]) [.cells true 7 []] (.go 5 (.ans [(0,.cells true 0 [.map (some 1)]),(1,.map (aq [mA,mB]))] (.tuple #[.slice (some ⟨3,0,some 1⟩) 2 2,.int .i64 0]) [.cells true 2 [.int .i64 1,.int .i64 1,.int .i64 3,.int .i64 4]] (.go 92 (.mn [(0,.cells true 0 [.map (some 1)]),(1,.map (aq [mA,mB]))] (.tuple #[.bool true,.int .i64 0]) [(1,.map (aq [mA,mB,mC]))] [] (.go 4 (.ans [(0,.cells true 0 [.map (some 1)]),(1,.map (aq [mA,mB,mC]))] (.tuple #[.slice (some ⟨5,0,some 2⟩) 1 1,.int .i64 0]) [.cells true 7 [.int .i64 1,.int .i64 2,.int .i64 10,.int .i64 1,.int .i64 7,.int .i64 3,.int .i64 0]] (.go 117 (.ans [(15,.cells true 1 [.bool false,.bool false,.bool false,.bool false,.bool false]),(21,.cells true 2 [.int .i64 0,.int .i64 0,.int .i64 30,.int .i64 4,.int .i64 40,.int .i64 2])] (.tuple #[.slice (some ⟨23,0,some 1⟩) 3 3,.int .i64 0]) [.cells true 1 [.bool true,.bool false,.bool true]] (.go 16 (.ans [(15,.cells true 1 [.bool false,.bool false,.bool false,.bool false,.bool false]),(25,.cells true 2 [.int .i64 0,.int .i64 0,.int .i64 40,.int .i64 2])] (.tuple #[.slice (some ⟨26,0,some 1⟩) 2 2,.int .i64 0]) [.cells true 1 [.int .i64 1,.int .i64 2]] (.go 5 (.ans [(15,.cells true 1 [.bool false,.bool false,.bool false,.bool false,.bool false]),(25,.cells true 2 [.int .i64 0,.int .i64 0,.int .i64 40,.int .i64 2])] (.tuple #[.slice (some ⟨27,0,some 1⟩) 1 1,.int .i64 0]) [.cells true 2 [.int .i64 10,.int .i64 30]] (.auto)))))))))))))))))))))
 (fun v _ _=>v=sp)=yy sp :=by kernel_rfl
abbrev dz:List Bool:=List.replicate 5 false
instance (w h:Int) (a:List Bool) (i:Int) (j:Nat):Decidable (iS w h a i j):=by unfold iS;infer_instance
theorem st5:∀i∈([0,1,2,3,4]:List Int),∀j∈([0,1,2,3]:List Nat),iS 5 1 dz i j->nbT 5 i j<=i+1/\i<=nbT 5 i j+1:=by decide
theorem rt5:∀i∈([0,1,2,3]:List Int),iS 5 1 dz i 2/\nbT 5 i 2=i+1:=by decide
theorem lf5:∀i∈([1,2,3,4]:List Int),iS 5 1 dz i 1/\nbT 5 i 1=i-1:=by decide
theorem MP:cM 5 1 dz.length:=⟨by decide,by decide,by decide,by decide⟩
theorem in5{i:Int}(h:0<=i/\i<5):i∈([0,1,2,3,4]:List Int):=by
 have:i=0∨i=1∨i=2∨i=3∨i=4:=by omega
 rcases this with rfl|rfl|rfl|rfl|rfl <;> decide
theorem lo5{f:Int}(hf:0<=f/\f<5):∀{n:Nat} {c:Int},Wy 5 1 dz f n c->f-c<=n/\c-f<=n:=by
 intro n c q
 induction q with
 |base=>omega
 | @step n i j hj hw hb ih =>
  have hi:=yD MP hf hw
  have:=st5 i (in5 hi) j (by match j,hj with|0,_=>decide|1,_=>decide|2,_=>decide|3,_=>decide) hb
  omega
theorem up5{f:Int}(hf:0<=f):∀n:Nat,f+n<=4->Wy 5 1 dz f n (f+n)
  |0,_=>by rw[show f+((0:Nat):Int)=f by omega];exact .base
  | n + 1, h => by
    have k := rt5 (f + n) (by have : f + n = 0 ∨ f + n = 1 ∨ f + n = 2 ∨ f + n = 3 := by omega
                              rcases this with e|e|e|e <;> rw[e] <;> decide)
    have:=Wy.step 2 (by decide) (up5 hf n (by omega)) k.1
    rw[k.2]at this
    rw[show f+((n+1:Nat):Int)=f+n+1 by omega];exact this
theorem dn5{f:Int}(hf:f<=4):∀n:Nat,0<=f-n->Wy 5 1 dz f n (f-n)
  |0,_=>by rw[show f-((0:Nat):Int)=f by omega];exact .base
  | n + 1, h => by
    have k := lf5 (f - n) (by have : f - n = 1 ∨ f - n = 2 ∨ f - n = 3 ∨ f - n = 4 := by omega
                              rcases this with e|e|e|e <;> rw[e] <;> decide)
    have:=Wy.step 1 (by decide) (dn5 hf n (by omega)) k.1
    rw[k.2]at this
    rw[show f-((n+1:Nat):Int)=f-n-1 by omega];exact this
theorem MN{f c:Int}(hf:0<=f/\f<5)(hc:0<=c/\c<5):bk 5 1 dz f c=mxI (c-f) (f-c):=by
 rcases Int.le_total f c with q|q
 ·have:=jp (w:=5) (h:=1) (a:=dz) (f:=f) (c:=c) (n:=Int.toNat (c-f)) ⟨by
   have k:=up5 hf.1 (Int.toNat (c-f)) (by omega)
   rw[show f+((Int.toNat (c-f):Nat):Int)=c by omega]at k;exact k,fun m hm=>by have:=lo5 hf hm;omega⟩
  rw[this];unfold mxI;split <;> omega
 ·have:=jp (w:=5) (h:=1) (a:=dz) (f:=f) (c:=c) (n:=Int.toNat (f-c)) ⟨by
   have k:=dn5 (f:=f) (by omega) (Int.toNat (f-c)) (by omega)
   rw[show f-((Int.toNat (f-c):Nat):Int)=c by omega]at k;exact k,fun m hm=>by have:=lo5 hf hm;omega⟩
  rw[this];unfold mxI;split <;> omega
theorem wu{f:Int}(hf:0<=f/\f<5):cw 5 1 dz f=dE (fun c:Nat=>mxI ((c:Int)-f) (f-(c:Int))) 5:=by
 unfold cw dE
 refine List.map_congr_left fun c hc =>?_
 have:=List.mem_range.1 hc
 exact MN hf ⟨by omega,by have:dz.length=5:=rfl;omega⟩
abbrev S3:List (Int×Int):=[(0,0),(30,4),(40,2)]
abbrev S2:List (Int×Int):=[(0,0),(40,2)]
theorem Mm:aC 5 1 dz S3 3=[[0,1,2,3,4],[4,3,2,1,0],[2,1,0,1,2]]:=by
 show [cw 5 1 dz 0,cw 5 1 dz 4,cw 5 1 dz 2]=_
 rw[wu (by decide),wu (by decide),wu (by decide)];decide
theorem HW:aC 5 1 dz S2 2=[[0,1,2,3,4],[2,1,0,1,2]]:=by
 show [cw 5 1 dz 0,cw 5 1 dz 2]=_
 rw[wu (by decide),wu (by decide)];decide
theorem e3:aB 5 1 dz 10 S3=0:=by decide
theorem e2:aB 5 1 dz 10 S2=0:=by decide
theorem tr3:trX 5 1 dz 10 S3=[true,false,true]:=by
 rw[uT e3,show aC 5 1 dz S3 S3.length=_ from Mm];decide +kernel
theorem cf2:(a8 10 S2 (aC 5 1 dz S2 S2.length) S2.length).length=0:=by
 rw[show aC 5 1 dz S2 S2.length=_ from HW];decide +kernel
theorem wh2:whE 5 1 dz 10 S2 25=0/\whX 5 1 dz 10 S2 25=[1,2]:=by
 have e:=sP (m:=25) e2 (by decide) cf2
 refine ⟨e,?_⟩
 rw[show whX 5 1 dz 10 S2 25=whL dz 10 S2 (aC 5 1 dz S2 S2.length) 25 dz.length from if_pos e,show aC 5 1 dz S2 S2.length=_ from HW]
 decide +kernel
theorem tm2:tmE 5 1 dz 10 S2 1=0/\tmX 5 1 dz 10 S2 1=[(10,30)]:=by
 have e:=sV (c:=1) e2 (by decide) cf2 (by decide)
 refine ⟨e,?_⟩
 rw[show tmX 5 1 dz 10 S2 1=tmL 10 S2 (aC 5 1 dz S2 S2.length) 1 from if_pos e,show aC 5 1 dz S2 S2.length=_ from HW]
 decide +kernel
theorem L8{i j:Nat}:wk (.agg #[.int .i64 5,.int .i64 1,.slice (some ⟨i,0,none⟩) 5 5,.int .i64 10,.slice (some ⟨j,0,none⟩) 3 3]) (db 5 1 dz 10 S3 i j) :=
 b9 (ak (aa _) (ak (aa _) (ak nR (ak (aa _) (ak nR ac)))))
theorem Kw{i j:Nat}:wk (.agg #[.int .i64 5,.int .i64 1,.slice (some ⟨i,0,none⟩) 5 5,.int .i64 10,.slice (some ⟨j,0,none⟩) 2 2]) (db 5 1 dz 10 S2 i j) :=
 b9 (ak (aa _) (ak (aa _) (ak nR (ak (aa _) (ak nR ac)))))
theorem F7:yy (.bool true):=by
 unfold yy
 refine ⟨trivial,fun H' hl h =>?_,⟨rfl,rfl,trivial⟩,fun H' hl h =>?_,⟨rfl,rfl,trivial⟩,fun H' hl h =>?_,⟨rfl,rfl,trivial⟩,fun H' hl h =>?_,⟨rfl,rfl,trivial⟩,fun H' hl h =>?_,⟨rfl,rfl,trivial⟩,fun H' hl h =>?_,⟨rfl,rfl,trivial⟩,fun H' hl h =>?_,⟨rfl,rfl,trivial⟩,fun H' hl h =>?_,⟨rfl,rfl,trivial⟩,fun H' hl h =>?_,⟨rfl,rfl,trivial⟩,fun H' hl h =>?_,rfl⟩
 ·have:=Mq H'
  rw[hl]at this;exact this
 ·have:=IP [] mA h.1 h.2.1
  rw[show lH [] mA=[mA] by decide,show lI [] mA=true by decide,show e7 [] mA=0 by decide]at this;exact this
 ·have:=IP [mA] mB h.1 h.2.1
  rw[show lH [mA] mB=[mA,mB] by decide,show lI [mA] mB=true by decide,show e7 [mA] mB=0 by decide]at this;exact this
 ·have:=Hi H7 (by decide) (H:=H') (by decide) h.1 h.2.1
  rw[hl,Ig]at this;exact this
 ·have:=K4 (a:=1) H7 (by decide) (by decide) (by decide) (H:=H') (by decide) h.1 h.2.1
  rw[hl,Jx]at this;exact this
 ·have:=IP [mA,mB] mC h.1 h.2.1
  rw[show lH [mA,mB] mC=[mA,mB,mC] by decide,show lI [mA,mB] mC=true by decide,show e7 [mA,mB] mC=0 by decide]at this;exact this
 ·have:=Hi G9 (by decide) (H:=H') (by decide) h.1 h.2.1
  rw[hl,Fn]at this;exact this
 ·have k:=ad.wkA (zg (w:=5) (h:=1) (a:=dz) (p:=10) (ss:=S3) (by decide) (by decide) (fun _=>by decide) (by decide) h.1 h.2.1) (ak L8 ac)
  rw[e3,tr3,hl]at k;exact k
 ·have k:=ad.wkA (zf (w:=5) (h:=1) (a:=dz) (p:=10) (ss:=S2) (m:=25) (by decide) (by decide) (by decide) h.1 h.2.1) (ak Kw (ak (aa _) ac))
  rw[wh2.1,wh2.2,hl]at k;exact k
 ·have k:=ad.wkA (zh (w:=5) (h:=1) (a:=dz) (p:=10) (ss:=S2) (c:=1) (by decide) (by decide) (by decide) h.1 h.2.1) (ak Kw (ak (aa _) ac))
  rw[tm2.1,tm2.2,hl]at k;exact k
theorem xF(H:Heap):ad prog 14 [] H [] (Is (.bool true) H) :=
 sT (v:=.bool true) (css:=[]) (ids:=[]) (Eq.mpr (Kp _) F7) (hv:=rfl) (hi:=trivial) (ha:=rfl)
theorem kP{i j:Nat}:wk (.agg #[.int .i64 w,.int .i64 h,slQ i 1 a.length,.int .i64 p,slQ j 1 ss.length]) (db w h a p ss i j) :=
 b9 (ak (aa _) (ak (aa _) (ak dU (ak (aa _) (ak dU ac)))))
theorem Kx{i:Nat}:wk (.agg #[.int .i64 w,.int .i64 h,slQ i 1 a.length]) (.agg #[.int .i64 w,.int .i64 h,slQ i 2 a.length]) :=
 b9 (ak (aa _) (ak (aa _) (ak dU ac)))
theorem JL(w h:Int)(a:List Bool)(p:Int)(ss:List (Int×Int)):(cfX w h a p ss).length<=400:=by
 by_cases e:aB w h a p ss=0
 ·rw[DZ e];exact xW (gW e)
 ·rw[D0 e];exact Nat.zero_le _
theorem HJ(w h:Int)(a:List Bool)(p:Int)(ss:List (Int×Int)):(trX w h a p ss).length<=20:=by
 by_cases e:aB w h a p ss=0
 ·rw[uT e]
  have:=(uS (Br (gW e)):(gV (agI p ss (aC w h a ss ss.length)) (kyI ss) ss.length).length=ss.length)
  have:=(gW e).few
  omega
 ·rw[yI e];exact Nat.zero_le _
theorem DU(w h:Int)(a:List Bool)(p:Int)(ss:List (Int×Int)):(clX w h a p ss).length<=20:=by
 by_cases e:aB w h a p ss=0
 ·rw[Al e,qv]
  exact (gW e).few
 ·rw[Ht e];exact Nat.zero_le _
theorem HE(w h:Int)(a:List Bool)(p:Int)(ss:List (Int×Int))(m:Int):(whX w h a p ss m).length<=a.length:=by
 unfold whX
 split
 ·exact wN ..
 ·exact Nat.zero_le _
theorem HM(w h:Int)(a:List Bool)(p:Int)(ss:List (Int×Int))(c:Int):(tmX w h a p ss c).length<=200000:=by
 by_cases q:tmE w h a p ss c=0
 ·obtain ⟨e,_,_,h0⟩:=GZ q
  rw[show tmX w h a p ss c=tmL p ss (aC w h a ss ss.length) c from if_pos q]
  have hb:∀s∈ss,0<=s.1/\s.1<=100000:=fun s hs=>((gW e).seen s hs).1
  have eb:=CC h0 hb ss.length
  rw[zc h0 hb,yZ h0 hb]at eb
  have:=HL (p:=p) (ss:=ss) (rr:=aC w h a ss ss.length) (c:=c)
  omega
 ·rw[oB q];exact Nat.zero_le _
theorem uf(w h:Int)(a:List Bool)(p:Int)(ss:List (Int×Int)):clK w h a p ss=((bO (trX w h a p ss):Nat):Int):=by
 by_cases e:aB w h a p ss=0
 ·have aO:fD (agI p ss (aC w h a ss ss.length)) (kyI ss) (aQ ss.length):=Br (gW e)
  rw[DV e,uT e,qu (uS aO),BH aO]
 ·rw[Hu e,yI e];rfl
theorem Fa(e:aB w h a p ss=0):eh w h a p ss (clX w h a p ss) (clK w h a p ss)=0/\ew w h a p ss (clX w h a p ss) (clK w h a p ss)=true:=by
 have aO:fD (agI p ss (aC w h a ss ss.length)) (kyI ss) (aQ ss.length):=Br (gW e)
 have hk:0<=clK w h a p ss:=by rw[uf];omega
 have hl:(clX w h a p ss).length=ss.length:=by rw[Al e,qv]
 obtain ⟨e1,e2⟩:=Cc (c:=clX w h a p ss) (k:=clK w h a p ss) e ⟨hl,hk⟩
 refine ⟨e1,?_⟩
 rw[e2,hl,Al e,DV e]
 exact E6 aO
theorem notSelf{α:Type}[DecidableEq α]{x:α}(q:(!(decide (x=x)))=true):False:=by rw[decide_eq_true rfl]at q;cases q
theorem vj{x:Bool}(q:(!(x == x))=true):False:=by cases x <;> cases q
theorem Cm{α:Type}[DecidableEq α]{x:α}(q:decide (x=x)=false):False:=by rw[decide_eq_true rfl]at q;cases q
theorem Gn{x:Int}(q:(x == x)=false):False:=by rw[beq_self_eq_true]at q;cases q
theorem Mt{o1 o2 o3:Bool}{z1 z2 z3:Nat}{f t m e:Int}{c:List Int}{k:Int}(ha:a.length<=40)(hs:ss.length<=30)(hc:c.length<=40)(hk : -9223372036854775808<=k/\k<=9223372036854775807):Rlu o1 o2 o3 z1 z2 z3 w h a p ss f t m e c k:=by
 have l1:=DU w h a p ss
 have l2:=HE w h a p ss m
 have l3:=HM w h a p ss e
 delta Rlu ck nm bf jY jX c6 cZ dP dQ fF ny lb vQ nF nH np df dY vL pL zp fk bj eA nB e6 d8 fg pz pK nw fb si kX pD
 refine ⟨⟨rfl,trivial⟩,fun H' hl g=>(by have key:=Di c (by omega) g.1;rw[hl]at key;exact key),⟨rfl,rfl,rfl,trivial⟩,fun H' hl g=>ad.wkA (pd (w:=w) (h:=h) (p:=p) (c:=c) (k:=k) (by omega) (by omega) (by omega) hk (by decide) (.inr (.inr rfl)) g.1 g.2.1 g.2.2.1) (ak kP (ak dU (ak (aa _) ac))),⟨rfl,rfl,rfl,trivial⟩,fun H' hl g=>vC (by omega) (by omega) (by omega) (by decide) g.1 g.2.1 g.2.2.1,fun q=>(vj q).elim,fun _=>⟨fun q=>(ne_self q).elim,fun _=>⟨⟨rfl,rfl,trivial⟩,fun H' hl g=>ad.wkA (Dg c c (by omega) (by omega) g.1 g.2.1) (ak dU (ak (aa _) ac)),fun q=>(notSelf q).elim,fun _ =>?_⟩⟩⟩
 refine ⟨⟨rfl,trivial⟩,fun H' hl g=>(by have key:=ad.wkA (Di (clX w h a p ss) (by omega) g.1) (ak dU ac);rw[hl]at key;exact key),⟨rfl,rfl,rfl,trivial⟩,fun H' hl g=>ad.wkA (pd (w:=w) (h:=h) (p:=p) (c:=clX w h a p ss) (k:=k) (by omega) (by omega) (by omega) hk (by decide) (.inr (.inr rfl)) g.1 g.2.1 g.2.2.1) (ak kP (ak dU (ak (aa _) ac))),⟨rfl,rfl,rfl,trivial⟩,fun H' hl g=>ad.wkA (vC (by omega) (by omega) (by omega) (by decide) g.1 g.2.1 g.2.2.1) (ak (aa _) (ak dU (ak (aa _) ac))),fun q=>(vj q).elim,fun _=>⟨fun q=>(ne_self q).elim,fun _=>⟨⟨rfl,rfl,trivial⟩,fun H' hl g=>ad.wkA (Dg (clX w h a p ss) (clX w h a p ss) (by omega) (by omega) g.1 g.2.1) (ak dU (ak dU ac)),fun q=>(notSelf q).elim,fun _ =>?_⟩⟩⟩
 refine ⟨⟨rfl,rfl,trivial⟩,fun H' hl g=>(by have key:=ad.wkA (zf (w:=w) (h:=h) (p:=p) (m:=m) (by omega) (by omega) (by decide) g.1 g.2.1) (ak kP (ak (aa _) ac));rw[hl]at key;exact key),⟨rfl,rfl,trivial⟩,fun H' hl g=>(by have key:=Fp (w:=w) (h:=h) (p:=p) (m:=m) (by omega) (by omega) (by decide) g.1 g.2.1;rw[hl]at key;exact key),⟨rfl,rfl,trivial⟩,fun H' hl g=>ad.wkA (Dg (whX w h a p ss m) (whX w h a p ss m) (by omega) (by omega) g.1 g.2.1) (ak dU (ak dU ac)),fun q=>(notSelf q).elim,fun _=>⟨fun q=>(ne_self q).elim,fun _ =>?_⟩⟩
 refine ⟨⟨rfl,rfl,trivial⟩,fun H' hl g=>(by have key:=ad.wkA (zh (w:=w) (h:=h) (p:=p) (c:=e) (by omega) (by omega) (by decide) g.1 g.2.1) (ak kP (ak (aa _) ac));rw[hl]at key;exact key),⟨rfl,rfl,trivial⟩,fun H' hl g=>(by have key:=Fr (w:=w) (h:=h) (p:=p) (c:=e) (by omega) (by omega) (by decide) g.1 g.2.1;rw[hl]at key;exact key),⟨rfl,rfl,trivial⟩,fun H' hl g=>ad.wkA (Ix (tmX w h a p ss e) (tmX w h a p ss e) (by omega) (by omega) (by decide) g.1 g.2.1) (ak dU (ak dU ac)),fun _=>⟨fun _=>⟨⟨rfl,rfl,rfl,rfl,trivial⟩,fun H' hl g=>ad.wkA (ID (by omega) (by omega) (by decide) g.1 g.2.1 g.2.2.1 g.2.2.2.1) (ak kP (ak (aa _) ac)),trivial,fun H' _ _=>xF H',rfl,aa _,trivial⟩,fun q=>(Gn q).elim⟩,fun q=>(Cm q).elim⟩
theorem Lc{o1 o2 o3:Bool}{z1 z2 z3:Nat}{f t m e:Int}{c:List Int}{k:Int}(ha:a.length<=40)(hs:ss.length<=30)(hs2:ss.length<=10∨20<ss.length)(hc:c.length<=40)(hk : -9223372036854775808<=k/\k<=9223372036854775807):Rlt o1 o2 o3 z1 z2 z3 w h a p ss f t m e c k:=by
 have l0:=JL w h a p ss
 have l1:=DU w h a p ss
 have l2:=HJ w h a p ss
 have hq:aB w h a p ss=0->ss.length<=19:=fun e=>by have:=(gW e).few;omega
 have hu:Rlu o1 o2 o3 z1 z2 z3 w h a p ss f t m e c k:=Mt ha hs hc hk
 have es:(.bool ((aB w h a p ss:Int) != aB w h a p ss):Value) = .bool false:=by rw[bne_self_eq_false]
 delta Rlt bN bZ vR cQ c7 fk cC dJ d9 iY bf bj nD dQ pL dK Io ck c6 df cZ dY dL jY jX nm nF nH vK cD dP fF nw eL eO l9 C7 kY iZ si pA nz lb Fy kX lc kW ny
 refine ⟨rfl,Nat.zero_le _,?_,fun _=>rfl,fun x hx=>⟨fun kx =>?_,fun kx =>?_⟩⟩
 ·repeat' first|exact aa _|exact rfl|exact aa _|exact ac|apply And.intro|(exact iEq (by omega))
 ·have h1:x<ss.length:=by have:=av kx;omega
  refine ⟨⟨by omega,by omega⟩,fI h1 (by omega),fun q=>⟨⟨by omega,by omega⟩,fI h1 (by omega),fun q2=>⟨trivial,fun H' _ _=>xF H',rfl,aa _,trivial⟩,fun q2=>⟨aG (by omega),x+1,by omega,by omega,rfl,?_⟩⟩,fun q=>⟨aG (by omega),x+1,by omega,by omega,rfl,?_⟩⟩
  ·repeat' first|exact aa _|exact rfl|exact aa _|exact ac|apply And.intro|(exact iEq (by omega))
  ·repeat' first|exact aa _|exact rfl|exact aa _|exact ac|apply And.intro|(exact iEq (by omega))
 ·refine ⟨⟨rfl,rfl,trivial⟩,fun H' hl g=>(by have key:=FL (w:=w) (h:=h) (p:=p) (by omega) (by omega) (by decide) g.1 g.2.1;rw[hl]at key;exact key),⟨rfl,rfl,trivial⟩,fun H' hl g=>ad.wkA (xE w h a p ss (by omega) (by omega) g.1 g.2.1) (ak kP ac),⟨rfl,rfl,trivial⟩,fun H' hl g=>ks w h a p ss (by omega) (by omega) g.1 g.2.1,fun q=>(ne_self q).elim,fun _ =>?_⟩
  refine ⟨⟨rfl,trivial⟩,fun H' hl g=>ad.wkA (K5 (by omega) g.1) (ak Kx (ak (aa _) (ak (aa _) ac))),⟨rfl,trivial⟩,fun H' hl g=>Ii g.1,fun q=>(ne_self q).elim,fun _=>⟨fun q=>(ne_self q).elim,fun _ =>?_⟩⟩
  refine ⟨⟨rfl,rfl,trivial⟩,fun H' hl g=>(by have key:=ad.wkA (Ih (w:=w) (h:=h) (p:=p) (by omega) (by omega) (by decide) g.1 g.2.1) (ak kP ac);rw[hl]at key;exact key),⟨rfl,rfl,trivial⟩,fun H' hl g=>(by have key:=Fs (w:=w) (h:=h) (p:=p) (by omega) (by omega) (by decide) g.1 g.2.1;rw[hl]at key;exact key),es,fun q=>(ne_self q).elim,fun _=>⟨rfl,Nat.zero_le _,?_,fun _=>rfl,fun y hy=>⟨fun ky =>?_,fun ky =>?_⟩⟩⟩
  ·repeat' first|exact aa _|exact rfl|exact aa _|exact ac|apply And.intro|(exact iEq (by omega))
  ·have h2:y<(cfX w h a p ss).length:=by have:=av ky;omega
   refine ⟨⟨by omega,by omega⟩,fN h2 (by omega),⟨by omega,by omega⟩,fN h2 (by omega),fun b=>(by simp at b),fun b=>⟨aG (by omega),y+1,by omega,by omega,rfl,?_⟩⟩
   repeat' first|exact aa _|exact rfl|exact aa _|exact ac|apply And.intro|(exact iEq (by omega))
  ·refine ⟨⟨rfl,rfl,trivial⟩,fun H' hl g=>(by have key:=ad.wkA (zg (w:=w) (h:=h) (p:=p) (by omega) (by omega) hq (by decide) g.1 g.2.1) (ak kP ac);rw[hl]at key;exact key),⟨rfl,rfl,trivial⟩,fun H' hl g=>(by have key:=Fq (w:=w) (h:=h) (p:=p) (by omega) (by omega) (by decide) g.1 g.2.1;rw[hl]at key;exact key),⟨rfl,rfl,trivial⟩,fun H' hl g=>ad.wkA (Df (trX w h a p ss) (trX w h a p ss) (by omega) (by omega) (by decide) g.1 g.2.1) (ak dU (ak (aa _) ac)),fun q=>(notSelf q).elim,fun _=>⟨es,?_⟩⟩
   refine ⟨⟨rfl,rfl,trivial⟩,fun H' hl g=>(by have key:=ad.wkA (AY (w:=w) (h:=h) (p:=p) (by omega) (by omega) hq (by decide) g.1 g.2.1) (ak kP ac);rw[hl]at key;exact key),es,fun q=>⟨rfl,Nat.zero_le _,?_,fun _=>rfl,fun y hy=>⟨fun ky =>?_,fun ky =>?_⟩⟩,fun _=>hu⟩
   ·repeat' first|exact aa _|exact rfl|exact aa _|exact ac|apply And.intro|(exact iEq (by omega))
   ·have h2:y<(trX w h a p ss).length:=by have:=av ky;omega
    have hS:=xV h2
    have hle:=ue ((trX w h a p ss).take y)
    have hlt:((trX w h a p ss).take y).length=y:=by rw[List.length_take];omega
    refine ⟨⟨by omega,by omega⟩,ip h2 (by omega),fun b=>⟨aG (by omega),aG (by omega),y+1,by omega,by omega,rfl,?_⟩,fun b=>⟨aG (by omega),y+1,by omega,by omega,rfl,?_⟩⟩
    ·rw[b,if_pos rfl]at hS
     repeat' first|(exact iEq (by omega))|exact aa _|exact rfl|exact aa _|exact ac|apply And.intro|(exact iEq (by omega))
    ·rw[b,if_neg (by decide)]at hS
     repeat' first|(exact iEq (by omega))|exact aa _|exact rfl|exact aa _|exact ac|apply And.intro|(exact iEq (by omega))
   ·obtain rfl:y=(trX w h a p ss).length:=by have:=aA ky;omega
    have e0:aB w h a p ss=0:=eq_of_beq q
    obtain ⟨p1,p2⟩:=Fa e0
    rw[List.take_length,uf,<- uf,p1,p2]
    have hb : -9223372036854775808<=clK w h a p ss/\clK w h a p ss<=9223372036854775807:=by
     have:=uf w h a p ss
     have:=ue (trX w h a p ss)
     omega
    refine ⟨⟨rfl,rfl,rfl,trivial⟩,fun H' hl g =>?_,fun b=>(ne_self b).elim,fun _=>⟨fun b=>(ne_self b).elim,fun _=>⟨fun b=>(by cases b),fun _=>hu⟩⟩⟩
    have key:=ad.wkA (pd (w:=w) (h:=h) (p:=p) (c:=clX w h a p ss) (k:=clK w h a p ss) (by omega) (by omega) (by omega) hb (by decide) (.inr (.inr rfl)) g.1 g.2.1 g.2.2.1) (ak kP (ak dU (ak (aa _) ac)))
    rw[p1,p2]at key
    exact key
theorem Ba{o1 o2 o3:Bool}{z1 z2 z3:Nat}{f t m e:Int}{c:List Int}{k:Int}(hk : -9223372036854775808<=k/\k<=9223372036854775807):qM o1 o2 o3 z1 z2 z3 w h a p ss f t m e c k:=by
 delta qM gE dQ pL dJ vN
 have aw:(True/\(∀H':Heap,H'.length=4->True->ad prog 14 [] H' [] (Is (.bool true) H'))/\true=true/\wk (.bool true:Value) (rn (sg 3 []) 3 (.bool true:Value))/\True):=⟨trivial,fun H' _ _=>xF H',rfl,aa _,trivial⟩
 refine ⟨fun _=>aw,fun k1=>⟨fun k2=>⟨fun _=>aw,fun k3=>⟨fun _=>aw,fun k4=>⟨fun _=>aw,fun k5 =>?_⟩⟩⟩,fun k2=>⟨fun _=>aw,fun k4=>⟨fun _=>aw,fun k5 =>?_⟩⟩⟩⟩
 ·have:=aA k1
  have:=aA k3
  have:=aA k4
  have:=aA k5
  exact Lc (by omega) (by omega) (.inr (by omega)) (by omega) hk
 ·have:=aA k1
  have:=aA k2
  have:=aA k4
  have:=aA k5
  exact Lc (by omega) (by omega) (.inl (by omega)) (by omega) hk
theorem xD(w h:Int)(a:List Bool)(p:Int)(ss:List (Int×Int))(f t m e:Int)(c:List Int)(k:Int)(hk : -9223372036854775808<=k/\k<=9223372036854775807){i j l:Nat}(hnd:[i,j,l].Nodup){o1 o2 o3:Bool}{z1 z2 z3:Nat}(hi:H[i]?=some (.cells o1 z1 (a.flatMap af)))(hj:H[j]?=some (.cells o2 z2 (ss.flatMap spC)))(hl:H[l]?=some (.cells o3 z3 (c.flatMap ai))) :
  ad prog 9 [db w h a p ss i j,.int .i64 f,.int .i64 t,.int .i64 m,.int .i64 e,slQ l 2 c.length,.int .i64 k] H [] (Is (.bool true) H):=by
 have key:=bR (fun _ => .bool true) (new:=[]) (Eq.mpr (EF o1 o2 o3 z1 z2 z3 w h a p ss f t m e c k) (Ba hk)) (th ..) rfl trivial hnd (H:=H) ⟨by rw[dB];exact hi,by rw[gz];exact hj,by rw[mP];exact hl,trivial⟩ (fun j=>rfl) (args':=[db w h a p ss i j,.int .i64 f,.int .i64 t,.int .i64 m,.int .i64 e,slQ l 2 c.length,.int .i64 k]) rfl
 rwa [List.append_nil]at key
end
end Go.Proofs.YtbgfjemppjhmjaaGreat
namespace Go.K
open Go Go.ChangeShapes Go.WideShapes Go.ChangeAt Go.RowKit
variable {P:Program}
theorem wm:∀(n:Nat) (t:TypeId) (k:Nat) (cs:List Value),qn P n t=some k->eG P n t cs->∃ns:List Int,cs=ns.map (.int .i64)/\ns.length=k/\∀x∈ns,inI x:=by
 intro n
 induction n with
 |zero=>intro t k cs h;cases h
 |succ n ih =>
  intro t k cs h g
  unfold qn at h
  unfold eG at g
  cases hu:P.underlying t with
  |none=>rw[hu]at h;cases h
  |some d =>
   rw[hu]at h g
   cases d <;> try (cases h;done)
   ·rename_i ik
    cases ik <;> try (cases h;done)
    cases h
    obtain ⟨x,rfl,h1,h2⟩:=g
    refine ⟨[x],rfl,rfl,fun y hy =>?_⟩
    rw[List.mem_singleton]at hy;subst hy
    simp only[IntKind.min,IntKind.max,IntKind.signed,IntKind.bits]at h1 h2
    unfold inI
    simp at h1 h2
    omega
   ·rename_i fs
    simp only at h g
    have key:∀(fs:List Field) (k:Nat) (cs:List Value),fs.foldr (fun f r=>match qn P n f.type,r with|some a,some b=>some (a+b)|_,_=>none) (some 0)=some k ->
      dy (eG P n) (fs.map (·.type)) cs->∃ns:List Int,cs=ns.map (.int .i64)/\ns.length=k/\∀x∈ns,inI x:=by
     intro fs
     induction fs with
     |nil=>intro k cs h g;cases h;exact ⟨[],g,rfl,fun _ h=>by cases h⟩
     |cons f fs ihf =>
      intro k cs h g
      rw[List.foldr_cons]at h
      obtain ⟨c,rest,rfl,g1,g2⟩:=g
      cases ha:qn P n f.type with
      |none=>rw[ha]at h;cases h
      |some a =>
       cases hb:fs.foldr (fun f r=>match qn P n f.type,r with|some a,some b=>some (a+b)|_,_=>none) (some 0) with
       |none=>rw[ha,hb]at h;cases h
       |some b =>
        rw[ha,hb]at h
        cases h
        obtain ⟨n1,rfl,l1,m1⟩:=ih _ _ _ ha g1
        obtain ⟨n2,rfl,l2,m2⟩:=ihf _ _ hb g2
        exact ⟨n1++n2,by simp,by simp[l1,l2],fun x hx=>by rcases List.mem_append.1 hx with h|h;exact m1 x h;exact m2 x h⟩
    exact key _ _ _ h g
end Go.K
namespace Go.Proofs.YtbgfjemppjhmjaaGreat
open Go Go.K Go.ChangeShapes Go.WideShapes Go.ChangeAt Go.RowKit
noncomputable section
theorem own:ownKnob Tryz.prog.godebug=none:=by kernel_rfl
theorem sized:jO Tryz.prog=true:=by kernel_rfl
abbrev known(t:TypeId):Prop:=t<Tryz.prog.types.size
theorem kids:Kids Tryz.prog known:=kids_rows (by kernel_rfl) (by kernel_rfl)
theorem qd{α:Type}{f:α->List Value}{n m t:Nat}(hf:qn Tryz.prog m t=some n)(hα:∀ns:List Int,ns.length=n->∃x:α,ns.map (Value.int .i64)=f x) :
  ∀c,eG Tryz.prog m t c->∃x:α,c=f x/\True:=by
 intro c h
 obtain ⟨ns,rfl,h2,_⟩:=wm m t n c hf h
 obtain ⟨x,hx⟩:=hα ns h2
 exact ⟨x,hx,trivial⟩
theorem IQ(ns:List Int)(h:ns.length=1):∃x:Int,ns.map (Value.int .i64)=ai x:=by
 match ns,h with
 | [x],_=>exact ⟨x,rfl⟩
end
end Go.Proofs.YtbgfjemppjhmjaaGreat
