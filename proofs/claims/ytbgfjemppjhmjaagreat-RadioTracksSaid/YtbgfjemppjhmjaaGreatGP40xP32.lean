/- Radio: the reference's distances. No condition. -/
import Derived.Test.YtbgfjemppjhmjaaGreatGO32gxW36
import Derived.Test.YtbgfjemppjhmjaaGreatO60g
import Derived.Test.YtbgfjemppjhmjaaGreatGW34xW45
import Derived.Test.YtbgfjemppjhmjaaGreatGP26xW38
open Go Go.K
set_option maxRecDepth 1000000
set_option maxHeartbeats 4000000
set_option linter.unusedVariables false
set_option linter.unusedSimpArgs false
namespace Go.Proofs.YtbgfjemppjhmjaaGreat
noncomputable section
attribute [local irreducible] vF
variable {w h:Int} {a:List Bool} {p:Int} {ss:List (Int×Int)} {o1 o2:Bool} {z1 z2:Nat} {H:Heap}
theorem Dn{f:Int}(b:cM w h a.length)(hf:0<=f/\f<(a.length:Int))(hfs:a.getD (Int.toNat f) false=false):ur w h a f:=by
 have hn:=b.n1
 have hp:=b.p1
 have hw:=b.w1
 have hN:Int.toNat (w*h)=a.length:=by omega
 delta ur bN bZ vU gd A4 C1 jV c7 xu CR dK cv dQ C0 kY dP bS zx gE ck lc kW Il zy gD gC fo fl Ip Fz
 rw[hN]
 refine ⟨aG (by omega),⟨by omega,by omega,by omega,by omega⟩,rfl,Nat.zero_le _,?_,fun _=>rfl,fun x hx=>⟨fun c =>?_,fun c =>?_⟩⟩
 ·rw[Gj,pf]
  repeat' first|exact am _ _|exact trivial|exact rfl|refine aK ?_|exact ac|(exact iq (by omega))|refine ap ?_|refine b9 ?_|refine toMax ?_|refine toMin ?_|refine ⟨rfl,?_⟩|refine cU ?_|apply And.intro
 ·have hx1:x<a.length:=by have:=av c;omega
  have hl:=sC hx
  have hs:=fw bg (fx a.length x) x (by omega) (-1)
  rw[Bg hx1]at hs
  refine ⟨⟨by omega,by omega⟩,by rw[aP bg];omega,rfl,aG (by omega),x+1,by omega,by omega,rfl,?_⟩
  rw[show 0+Int.toNat ((x:Nat):Int)*1=x*1 by omega]
  repeat' first|(exact congrArg (fun l=>some (ab.cells true 1 l)) hs)|exact am _ _|exact trivial|exact rfl|refine aK ?_|exact ac|(exact iq (by omega))|refine ap ?_|refine b9 ?_|refine toMax ?_|refine toMin ?_|refine ⟨rfl,?_⟩|refine cU ?_|apply And.intro
 ·obtain rfl:x=a.length:=by have:=aA c;omega
  have hl:=sC (Nat.le_refl a.length)
  refine ⟨⟨by omega,by omega⟩,by rw[aP bg];omega,rfl,rfl,Nat.zero_le _,?_,fun _=>rfl,fun x hx=>⟨fun c =>?_,fun c =>?_⟩⟩
  ·have hs:=fw bg (List.replicate a.length (-1)) (Int.toNat f) (by rw[List.length_replicate];omega) 0
   rw[ES b hf]at hs
   rw[Bh,show 0+Int.toNat f*1=Int.toNat f*1 by omega]
   repeat' first|(exact congrArg (fun l=>some (ab.cells true 1 l)) hs)|exact am _ _|exact trivial|exact rfl|refine aK ?_|exact ac|(exact iq (by omega))|refine ap ?_|refine b9 ?_|refine toMax ?_|refine toMin ?_|refine ⟨rfl,?_⟩|refine cU ?_|apply And.intro
  ·have hx1:=H9 b hf hx c
   have hn1:1<=((x+1:Nat):Int)/\((x+1:Nat):Int)<bb:=by unfold bb;omega
   have hm1:((x+1:Nat):Int)-1=(x:Int):=by omega
   refine ⟨rfl,Nat.zero_le _,?_,fun _=>rfl,fun y hy=>⟨fun d =>?_,fun d =>?_⟩⟩
   ·rw[HR,hm1]
    repeat' first|exact am _ _|exact trivial|exact rfl|refine aK ?_|exact ac|(exact iq (by omega))|refine ap ?_|refine b9 ?_|refine toMax ?_|refine toMin ?_|refine ⟨rfl,?_⟩|refine cU ?_|apply And.intro
   ·have hy1:y<a.length:=by have:=av d;omega
    have hXl:=lP w h a f ((x+1:Nat):Int) y
    refine ⟨⟨by omega,by omega⟩,ip hy1 (by omega),fun e =>?_,fun e =>?_⟩
    ·have hd:=uX (w:=w) (h:=h) hfs e
     have q:bk w h a f y≠((x+1:Nat):Int):=by rw[hd];omega
     refine ⟨aG (by omega),y+1,by omega,by omega,rfl,?_⟩
     rw[mv q,wS,decide_eq_false q,Bool.or_false]
     repeat' first|exact am _ _|exact trivial|exact rfl|refine aK ?_|exact ac|(exact iq (by omega))|refine ap ?_|refine b9 ?_|refine toMax ?_|refine toMin ?_|refine ⟨rfl,?_⟩|refine cU ?_|apply And.intro
    ·have hng:=BS (x:=y) b hf hn1.2 hy1
     refine ⟨⟨by omega,by omega⟩,cL (by omega) (by omega),fun g =>?_,fun g =>?_⟩
     ·have q:bk w h a f y≠((x+1:Nat):Int):=fun e=>by
       have:=av g
       have h3:=hng.2 (by omega)
       omega
      refine ⟨aG (by omega),y+1,by omega,by omega,rfl,?_⟩
      rw[mv q,wS,decide_eq_false q,Bool.or_false]
      repeat' first|exact am _ _|exact trivial|exact rfl|refine aK ?_|exact ac|(exact iq (by omega))|refine ap ?_|refine b9 ?_|refine toMax ?_|refine toMin ?_|refine ⟨rfl,?_⟩|refine cU ?_|apply And.intro
     ·have hm:¬ bk w h a f y<=((x+1:Nat):Int)-1:=hng.1 (by have:=aA g;omega)
      refine ⟨rfl,Nat.zero_le _,?_,fun _=>rfl,fun v hv=>⟨fun k =>?_,fun k =>?_⟩⟩
      ·rw[HQ]
       repeat' first|exact am _ _|exact congrArg Value.bool (Bool.or_false _).symm|exact trivial|exact rfl|refine aK ?_|exact ac|(exact iq (by omega))|refine ap ?_|refine b9 ?_|refine toMax ?_|refine toMin ?_|refine ⟨rfl,?_⟩|refine cU ?_|apply And.intro
      ·have hv1:v<a.length:=by have:=av k;omega
       obtain ⟨i1,i2,i3⟩:=Bk b (i:=(y:Int)) (by omega)
       obtain ⟨k1,k2,k3⟩:=Bk b (i:=(v:Int)) (by omega)
       have hh:=b.h1
       have s1:=sqb (d:=Int.tmod (y:Int) w-Int.tmod (v:Int) w) (by omega)
       have s2:=sqb (d:=Int.tdiv (y:Int) w-Int.tdiv (v:Int) w) (by omega)
       have hYl:=BO w h a f ((x+1:Nat):Int) y v
       have hat:=ET (y:=v) hn1 hy1 hv1 hm
       refine ⟨by omega,by omega,aG (by omega),by omega,aG (by omega),by omega,aG (by omega),aG (by omega),aG (by omega),aG (by omega),aG (by omega),fun r =>?_,fun r =>?_⟩
       ·have MI:rp w (y:Int) (v:Int)=true:=decide_eq_true (eq_of_beq r)
        refine ⟨⟨by omega,by omega⟩,cL (by omega) (by omega),aG (by omega),fun u =>?_,fun u =>?_⟩
        ·have hdv:=hat.1 (eq_of_beq u)
         have pX:a.getD v false=false:=by
          cases q:a.getD v false with
          |false=>rfl
          |true=>have:=uX (w:=w) (h:=h) hfs q;omega
         refine ⟨⟨by omega,by omega⟩,ip hv1 (by omega),fun _ =>?_,fun q =>?_⟩
         ·obtain ⟨t1,t2⟩:=BP MI hdv
          have hs:=fw bg (fe w h a f ((x+1:Nat):Int) y v) y (by omega) ((x+1:Nat):Int)
          rw[<- t2]at hs
          refine ⟨⟨by omega,by omega⟩,by rw[aP bg];omega,rfl,aG (by omega),v+1,by omega,by omega,rfl,?_⟩
          rw[t1,Bool.or_true,show 0+Int.toNat ((y:Nat):Int)*1=y*1 by omega]
          repeat' first|(exact congrArg (fun l=>some (ab.cells true 1 l)) hs)|exact am _ _|exact trivial|exact rfl|refine aK ?_|exact ac|(exact iq (by omega))|refine ap ?_|refine b9 ?_|refine toMax ?_|refine toMin ?_|refine ⟨rfl,?_⟩|refine cU ?_|apply And.intro
         ·rw[pX]at q;cases q
        ·obtain ⟨t1,t2⟩:=rC (y:=v) (i:=y) (w:=w) (h:=h) (a:=a) (f:=f) (n:=((x+1:Nat):Int)) fun q=>(beq_eq_false_iff_ne.1 u) (hat.2 q.2)
         refine ⟨aG (by omega),v+1,by omega,by omega,rfl,?_⟩
         rw[t1,t2]
         repeat' first|exact am _ _|exact trivial|exact rfl|refine aK ?_|exact ac|(exact iq (by omega))|refine ap ?_|refine b9 ?_|refine toMax ?_|refine toMin ?_|refine ⟨rfl,?_⟩|refine cU ?_|apply And.intro
       ·obtain ⟨t1,t2⟩:=rC (y:=v) (i:=y) (w:=w) (h:=h) (a:=a) (f:=f) (n:=((x+1:Nat):Int)) fun q=>(beq_eq_false_iff_ne.1 r) (av q.1)
        refine ⟨aG (by omega),v+1,by omega,by omega,rfl,?_⟩
        rw[t1,t2]
        repeat' first|exact am _ _|exact trivial|exact rfl|refine aK ?_|exact ac|(exact iq (by omega))|refine ap ?_|refine b9 ?_|refine toMax ?_|refine toMin ?_|refine ⟨rfl,?_⟩|refine cU ?_|apply And.intro
      ·obtain rfl:v=a.length:=by have:=aA k;omega
       obtain ⟨t1,t2⟩:=BQ b hf hn1 hy1 e hm
       refine ⟨aG (by omega),y+1,by omega,by omega,rfl,?_⟩
       rw[t1,t2]
       repeat' first|exact am _ _|exact trivial|exact rfl|refine aK ?_|exact ac|(exact iq (by omega))|refine ap ?_|refine b9 ?_|refine toMax ?_|refine toMin ?_|refine ⟨rfl,?_⟩|refine cU ?_|apply And.intro
   ·obtain rfl:y=a.length:=by have:=aA d;omega
    refine ⟨aG (by omega),x+1,by omega,by omega,rfl,?_⟩
    rw[BT,Ct]
    repeat' first|exact am _ _|exact trivial|exact rfl|refine aK ?_|exact ac|(exact iq (by omega))|refine ap ?_|refine b9 ?_|refine toMax ?_|refine toMin ?_|refine ⟨rfl,?_⟩|refine cU ?_|apply And.intro
  ·rw[EP b hf hx c]
   have hrl:(eP w h a f).length=a.length:=dC ..
   rw[hrl]
   repeat' first|exact am _ _|(exact iq (by omega))|exact trivial|exact rfl|refine aK ?_|exact ac|(exact iq (by omega))|refine ap ?_|refine b9 ?_|refine toMax ?_|refine toMin ?_|refine ⟨rfl,?_⟩|refine cU ?_|apply And.intro
theorem zJ{f:Int}(b:cM w h a.length)(hf:0<=f/\f<(a.length:Int))(hfs:a.getD (Int.toNat f) false=false){i:Nat}{o:Bool}{z:Nat}(hi:H[i]?=some (.cells o z (a.flatMap af))) :
  ad prog 115 [.agg #[.int .i64 w,.int .i64 h,.slice (some ⟨i,0,some 2⟩) a.length a.length],.int .i64 f] H [] (Is (slQ H.length 1 (eP w h a f).length) (H ++ [.cells true 1 ((eP w h a f).flatMap ai)])) :=
 HF (fun i=>slQ i 1 (eP w h a f).length) (Eq.mpr (GE w h a f) (Dn b hf hfs)) (az 0 a) (fun n=>am n _) rfl rfl (fun _=>rfl) hi rfl
theorem zl(w h:Int)(a:List Bool){i:Nat}{o:Bool}{z:Nat}(hi:H[i]?=some (.cells o z (a.flatMap af))) :
  ad prog 111 [.agg #[.int .i64 w,.int .i64 h,.slice (some ⟨i,0,some 2⟩) a.length a.length]] H [] (Is (.int .i64 (cE w h a.length)) H):=by
 refine m6 (css:=[a.flatMap af]) (v:=.int .i64 (cE w h a.length)) (ids:=[i]) (Eq.mpr (GO _ w h a) ?_) ⟨az _ _,trivial⟩ rfl ⟨⟨_,_,hi⟩,trivial⟩ rfl
 delta Ar l8 gE bN cE
 have no:∀{P:Prop} [Decidable P] {x y:Int},¬ P->(Value.int .i64 y) = .int .i64 (if P then x else y):=fun q=>by rw[if_neg q]
 refine ⟨fun c=>no fun q=>by have:=av c;omega,fun c1=>⟨fun c=>no fun q=>by have:=av c;omega,fun c2=>⟨fun c=>no fun q=>by have:=av c;omega,fun c3=>⟨fun c=>no fun q=>by have:=av c;omega,fun c4 =>?_⟩⟩⟩⟩
 have c1:=aA c1
 have c2:=aA c2
 have c3:=aA c3
 have c4:=aA c4
 have m0:0<=w*h:=Int.mul_nonneg (by omega) (by omega)
 have m1:w*h<=64*64:=Int.mul_le_mul (by omega) (by omega) (by omega) (by omega)
 refine ⟨aG (by omega),fun c=>no fun q=>by have:=av c;omega,fun c5=>⟨aG (by omega),fun c =>?_,fun c =>?_⟩⟩
 ·have c5:=aA c5
  rw[if_pos ⟨by omega,by omega,by omega⟩,if_neg (bne_iff_ne.1 c)]
 ·have c5:=aA c5
  have e:((a.length:Nat):Int)=w*h:=by
   by_cases q:((a.length:Nat):Int)=w*h
   ·exact q
   ·rw[bne_iff_ne.2 q]at c;cases c
  rw[if_pos ⟨by omega,by omega,by omega⟩,if_pos e]
theorem vB(w h:Int)(a:List Bool)(c:Int){i:Nat}{o:Bool}{z:Nat}(hi:H[i]?=some (.cells o z (a.flatMap af))) :
  ad prog 113 [.agg #[.int .i64 w,.int .i64 h,.slice (some ⟨i,0,some 2⟩) a.length a.length],.int .i64 c] H [] (Is (.bool (bJ a c)) H):=by
 refine m6 (css:=[a.flatMap af]) (v:=.bool (bJ a c)) (ids:=[i]) (Eq.mpr (LF _ w h a c) ?_) ⟨az _ _,trivial⟩ rfl ⟨⟨_,_,hi⟩,trivial⟩ rfl
 delta Hz gE ck dP bJ
 refine ⟨fun c1=>⟨fun c2=>⟨⟨av c1,av c2⟩,ip (by have:=av c1;have:=av c2;omega) (by omega),?_⟩,fun c2 =>?_⟩,fun c1 =>?_⟩
 ·rw[c1,decide_eq_true (show c<=((a.length:Nat):Int)-1 by have:=av c2;omega)];rfl
 ·rw[c1,decide_eq_false (show ¬ c<=((a.length:Nat):Int)-1 by have:=aA c2;omega)];rfl
 ·rw[c1];rfl
theorem ks(w h:Int)(a:List Bool)(p:Int)(ss:List (Int×Int))(hl:a.length<=100000)(hs:ss.length<=100000){i j:Nat}(hi:H[i]?=some (.cells o1 z1 (a.flatMap af)))(hj:H[j]?=some (.cells o2 z2 (ss.flatMap spC))) :
  ad prog 42 [db w h a p ss i j] H [] (Is (.int .i64 (aB w h a p ss)) H):=by
 refine m6 (css:=[a.flatMap af,ss.flatMap spC]) (v:=.int .i64 (aB w h a p ss)) (ids:=[i,j]) (Eq.mpr (GI _ w h a p ss) ?_) ⟨az _ _,ct _ _,trivial⟩ rfl ⟨⟨_,_,hi⟩,⟨_,_,hj⟩,trivial⟩ rfl
 delta Ap ck gB l8 dJ bN bZ jE cQ c7 cC d9 iY bf bj nD dK cv aB
 refine ⟨⟨rfl,trivial⟩,fun H' _ h=>zl _ _ _ h.1,fun e=>by rw[if_neg (neB e)],fun e =>?_⟩
 rw[if_pos (rh e)]
 have no:∀{P:Prop} [Decidable P] {x y:Int},¬ P->(Value.int .i64 y) = .int .i64 (if P then x else y):=fun q=>by rw[if_neg q]
 refine ⟨fun c=>no fun q=>by have:=av c;omega,fun p1=>⟨fun c=>no fun q=>by have:=av c;omega,fun p2=>⟨fun n =>?_,fun n =>?_⟩⟩⟩
 ·have p1:=aA p1
  have p2:=aA p2
  rw[if_pos ⟨by omega,by omega⟩,if_neg (by have:=av n;omega)]
 ·have p1:=aA p1
  have p2:=aA p2
  rw[if_pos ⟨by omega,by omega⟩,if_pos (by have:=aA n;omega)]
  refine ⟨rfl,⟨Nat.zero_le _,rfl⟩,?_,fun _=>rfl,fun x hx=>⟨fun b =>?_,fun b =>?_⟩⟩
  ·repeat' first|exact trivial|exact rfl|exact aa _|refine aK ?_|refine ak ?_ ?_|exact ac|(exact iq (by omega))|refine ap ?_|refine b9 ?_|refine tT ?_ ?_ ?_|refine tS ?_ ?_ ?_|refine toMax ?_|refine toMin ?_|refine ⟨rfl,?_⟩|refine ⟨trivial,?_⟩|refine cU ?_|apply And.intro|(exact iEq (by omega))|(exact aG (by omega))
  ·have h1:x<ss.length:=by have:=av b;omega
   have hbad:okS a (ss.getD x ae)=false->(Value.int .i64 110) = .int .i64 (if ss.all (okS a)=true then 0 else 110):=fun q=>by rw[D6 h1 q];rfl
   refine ⟨⟨by omega,by omega⟩,fI h1 (by omega),fun c1=>hbad ?_,fun c1=>⟨fun c2=>hbad ?_,fun c2=>⟨⟨by omega,by omega⟩,m7 h1 (by omega),⟨rfl,trivial⟩,fun H' _ h=>vB _ _ _ _ h.1,fun c3=>hbad ?_,fun c3=>⟨aG (by omega),x+1,⟨by omega,all_succ (d:=ae) h1 hx.2 ?_⟩,by omega,rfl,?_⟩⟩⟩⟩
   ·have:=av c1
    unfold okS;rw[decide_eq_false (by omega)];rfl
   ·have:=av c2
    have:=aA c1
    unfold okS;rw[decide_eq_true (show 0<=(ss.getD x ae).1 by omega),decide_eq_false (by omega)];rfl
   ·unfold okS;rw[ff c3,Bool.and_false]
   ·have:=aA c1
    have:=aA c2
    unfold okS;rw[decide_eq_true (show 0<=(ss.getD x ae).1 by omega),decide_eq_true (show (ss.getD x ae).1<=100000 by omega),bK c3];rfl
   ·repeat' first|exact trivial|exact rfl|exact aa _|refine aK ?_|refine ak ?_ ?_|exact ac|(exact iq (by omega))|refine ap ?_|refine b9 ?_|refine tT ?_ ?_ ?_|refine tS ?_ ?_ ?_|refine toMax ?_|refine toMin ?_|refine ⟨rfl,?_⟩|refine ⟨trivial,?_⟩|refine cU ?_|apply And.intro|(exact iEq (by omega))|(exact aG (by omega))
  ·have h1:x=ss.length:=by have:=aA b;omega
   have:=hx.2
   rw[h1,List.take_length]at this
   rw[if_pos this]
theorem zk{w h:Int}{s1 s2 d m:Int}(h1 : -1000000<=s1/\s1<=1000000)(hm : -1000000<=m/\m<=1000000)(hd : -1<=d/\d<=bb)(hp:1<=p/\p<=1000){i j:Nat}(hne:i≠j)(hi:H[i]?=some (.cells o1 z1 (a.flatMap af)))(hj:H[j]?=some (.cells o2 z2 (ss.flatMap spC))) :
  ad prog 170 [db w h a p ss i j,.agg #[.int .i64 s1,.int .i64 s2],.int .i64 d,.int .i64 m] H [] (Is (.bool (jS p s1 d m)) H):=by
 have hR:ux o1 o2 z1 z2 w h a p ss s1 s2 d m:=by
  delta ux dP In
  have hdp : -1000000<=d*p/\d*p<=1073741824*1000:=by
   unfold bb at hd
   rcases Int.le_total 0 d with q|q
   ·exact ⟨by have:=Int.mul_nonneg q (show 0<=p by omega);omega,Int.mul_le_mul hd.2 hp.2 (by omega) (by omega)⟩
   ·have e:d = -1∨d=0:=by omega
    rcases e with rfl|rfl <;> omega
  refine ⟨aG (by omega),fun c=>⟨aG (by omega),fun e=>⟨aG (by omega),rfl,bl ?_,trivial⟩,fun e=>⟨rfl,bl ?_,trivial⟩⟩,fun c=>⟨fun e=>⟨aG (by omega),rfl,bl ?_,trivial⟩,fun e=>⟨rfl,bl ?_,trivial⟩⟩⟩
  ·have:=av c
   show Value.bool _=Value.bool _
   unfold jS mxI
   rw[e,Bool.true_and,if_pos (by omega)]
   congr 1
   rw[show 0-(m-s1)=s1-m by omega]
  ·show Value.bool _=Value.bool _
   unfold jS
   rw[e];rfl
  ·have:=aA c
   show Value.bool _=Value.bool _
   unfold jS mxI
   rw[e,Bool.true_and]
   by_cases q:s1-m > m-s1
   ·omega
   ·rw[if_neg q]
  ·show Value.bool _=Value.bool _
   unfold jS
   rw[e];rfl
 have key:=bR (fun _ => .bool (jS p s1 d m)) (new:=[]) (Eq.mpr (GK o1 o2 z1 z2 w h a p ss s1 s2 d m) hR) (cz ..) rfl trivial (by simpa using hne) (bC hi hj) (fun j=>rfl) (args':=[db w h a p ss i j,.agg #[.int .i64 s1,.int .i64 s2],.int .i64 d,.int .i64 m]) rfl
 rwa [List.append_nil]at key
theorem AO(w h:Int)(a:List Bool)(ss:List (Int×Int))(x:Nat):bw w h a ss (x+1)=bw w h a ss x ++ [eP w h a (ss.getD x ae).2]:=gQ ..
theorem F3(t:ej w h a p ss):yk o1 o2 z1 z2 w h a p ss:=by
 have hf:=t.few
 delta yk bN bZ gd jE CW cu nl c7 fk cC dJ d9 iY bf bj ck c6 eL cZ eO zu dK cv bX jW
 refine ⟨rfl,Nat.zero_le _,?_,fun _=>rfl,fun x hx=>⟨fun c =>?_,fun c =>?_⟩⟩
 ·repeat' first|exact ah _ _ _ (.inl rfl)|exact rfl|exact aa _|exact ac|exact ah _ _ _ (.inl rfl)|apply And.intro
 ·have hx1:x<ss.length:=by have:=av c;omega
  have hs:=t.seen _ (b8 (d:=ae) hx1)
  have hrl:(bw w h a ss x).length=x:=dC ..
  refine ⟨⟨by omega,by omega⟩,m7 hx1 (by omega),⟨rfl,trivial⟩,fun H' hl g=>hl ▸ zJ t.bas hs.2.1 hs.2.2 g.1,⟨by omega,by decide,⟨Nat.le_refl _,by rw[tV];omega⟩,⟨by decide,Nat.le_refl 1⟩,rfl⟩,rfl,aG (by omega),x+1,by omega,by omega,rfl,?_⟩
  have e:=AO w h a ss x
  repeat' first|exact dd e|exact Dl _ _|exact Cl e rfl|exact rfl|exact aa _|exact ac|exact ah _ _ _ (.inl rfl)|apply And.intro
 ·obtain rfl:x=ss.length:=by have:=aA c;omega
  repeat' first|exact Dl _ _|exact rfl|exact aa _|exact ac|exact ah _ _ _ (.inl rfl)|apply And.intro
theorem xj(t:ej w h a p ss){i j:Nat}(hne:i≠j)(hi:H[i]?=some (.cells o1 z1 (a.flatMap af)))(hj:H[j]?=some (.cells o2 z2 (ss.flatMap spC))) :
  ad prog 118 [db w h a p ss i j] H [] (Is (slQ H.length 1 (bw w h a ss ss.length).length) (H ++ [.cells true 1 (inL (bw w h a ss ss.length))])) :=
 bR (fun j=>slQ j 1 (bw w h a ss ss.length).length) (new:=[.cells true 1 (inL (bw w h a ss ss.length))]) (Eq.mpr (J6 o1 o2 z1 z2 w h a p ss) (F3 t)) (cz ..) rfl ⟨⟨_,_,rfl,wb 0 _⟩,trivial⟩ (by simpa using hne) (bC hi hj) (fun j=>rfl) rfl
theorem B6(t:ej w h a p ss){i c:Nat}(hi:i<ss.length)(hc:c<a.length) : -1<=((bw w h a ss ss.length).getD i []).getD c 0/\((bw w h a ss ss.length).getD i []).getD c 0<=bb:=by
 rw[oK hi hc]
 have bd:=iB t.bas (t.bd hi).2 c
 unfold bb at *
 split <;> omega
theorem Dr(t:ej w h a p ss):uy o1 o2 z1 z2 w h a p ss:=by
 have hs:=t.few
 have hrl:(bw w h a ss ss.length).length=ss.length:=dC ..
 delta uy ck c6 bf df cZ dY dL bX jW bN bZ gd bo jE cu nl c7 fk cC dJ d9 dK cv dw zD kY iZ iY bj kZ ma sr vS pA vO bG gF
 refine ⟨⟨rfl,rfl,trivial⟩,fun H' hl g=>hl ▸ xj t (by decide) g.1 g.2.1,rfl,Nat.zero_le _,?_,fun _=>rfl,fun x hx=>⟨fun k =>?_,fun k =>?_⟩⟩
 ·repeat' first|exact ah _ _ _ (.inl rfl)|exact rfl|exact aa _|exact ac|exact ah _ _ _ (.inl rfl)|apply And.intro
 ·have h1:x<ss.length:=by have:=av k;omega
  refine ⟨aG (by omega),rfl,⟨by omega,.inr rfl⟩,?_,fun _=>rfl,fun y hy=>⟨fun ky =>?_,fun ky =>?_⟩⟩
  ·have e0:a8 p ss (aC w h a ss ss.length) x=a8 p ss (aC w h a ss ss.length) x++bi p ss (aC w h a ss ss.length) x (x+1):=by rw[Am,List.append_nil]
   repeat' first|exact ou e0|exact obE e0|exact spB _ _|exact rfl|exact aa _|exact ac|exact ah _ _ _ (.inl rfl)|apply And.intro
  ·have h2:y<ss.length:=by have:=av ky;omega
   have hle:(a8 p ss (aC w h a ss ss.length) x++bi p ss (aC w h a ss ss.length) x y).length<=500:=by
    rw[ao]
    have a1:=ug p ss (aC w h a ss ss.length) x
    have a2:=qA p ss (aC w h a ss ss.length) x y
    have a3:x*ss.length<=20*20:=Nat.mul_le_mul (by omega) hs
    omega
   have b1:=t.bd h1
   have b2:=t.bd h2
   have hr:=m9 (w:=w) (h:=h) (a:=a) h1
   have hrb:=B6 t h1 (show Int.toNat (ss.getD y ae).2<a.length by omega)
   have hre:=yR (p:=p) (m:=(ss.getD y ae).1) t.bas h1 b1.2 b2.2
   rw[show fG p ss (aC w h a ss ss.length) x (ss.getD y ae).2 (ss.getD y ae).1=jH p ss (aC w h a ss ss.length) x y from rfl]at hre
   refine ⟨⟨by omega,by omega⟩,fN h1 (by omega),⟨by omega,by omega⟩,pU (by omega) (by omega),⟨by omega,by omega⟩,m7 h2 (by omega),⟨b2.2.1,by rw[hr];exact b2.2.2⟩,cL (by omega) (by omega),⟨by omega,by omega⟩,fI h2 (by omega),⟨rfl,rfl,trivial⟩,fun H' hl g=>zk (by omega) (by omega) hrb t.tn (by decide) g.1 g.2.1,?_⟩
   rw[hre]
   refine ⟨fun b =>?_,fun b =>?_⟩
   ·have e0:a8 p ss (aC w h a ss ss.length) x++bi p ss (aC w h a ss ss.length) x (y+1)=(a8 p ss (aC w h a ss ss.length) x++bi p ss (aC w h a ss ss.length) x y) ++ [((x:Int),(y:Int))]:=by rw[sF hy.1 (ff b),List.append_assoc]
    refine ⟨⟨by omega,by decide,⟨Nat.le_refl _,by rw[aP cd];omega⟩,⟨Nat.le_refl _,by simp⟩,rfl⟩,rfl,aG (by omega),y+1,⟨by omega,by omega⟩,by omega,rfl,?_⟩
    repeat' first|exact dd e0|exact de cd e0 rfl|exact spB _ _|exact rfl|exact aa _|exact ac|exact ah _ _ _ (.inl rfl)|apply And.intro
   ·have e0:a8 p ss (aC w h a ss ss.length) x++bi p ss (aC w h a ss ss.length) x y=a8 p ss (aC w h a ss ss.length) x++bi p ss (aC w h a ss ss.length) x (y+1):=by rw[wC (bK b)]
    refine ⟨aG (by omega),y+1,⟨by omega,by omega⟩,by omega,rfl,?_⟩
    repeat' first|exact ou e0|exact obE e0|exact spB _ _|exact rfl|exact aa _|exact ac|exact ah _ _ _ (.inl rfl)|apply And.intro
  ·have h2:ss.length<=y:=by have:=aA ky;omega
   have h3:y=ss.length:=by omega
   have e0:a8 p ss (aC w h a ss ss.length) x++bi p ss (aC w h a ss ss.length) x y=a8 p ss (aC w h a ss ss.length) (x+1):=by rw[mX,h3]
   refine ⟨aG (by omega),x+1,by omega,by omega,rfl,?_⟩
   repeat' first|exact ou e0|exact obE e0|exact spB _ _|exact rfl|exact aa _|exact ac|exact ah _ _ _ (.inl rfl)|apply And.intro
 ·have h1:x=ss.length:=by have:=aA k;omega
  rw[h1]
  repeat' first|exact spB _ _|exact rfl|exact aa _|exact ac|exact ah _ _ _ (.inl rfl)|apply And.intro
theorem l7(t:ej w h a p ss){i j:Nat}(hne:i≠j)(hi:H[i]?=some (.cells o1 z1 (a.flatMap af)))(hj:H[j]?=some (.cells o2 z2 (ss.flatMap spC))) :
  ad prog 116 [db w h a p ss i j] H [] (Is (slQ H.length 1 (a8 p ss (aC w h a ss ss.length) ss.length).length) (H ++ [.cells true 2 ((a8 p ss (aC w h a ss ss.length) ss.length).flatMap spC)])) :=
 bR (fun j=>slQ j 1 (a8 p ss (aC w h a ss ss.length) ss.length).length) (new:=[.cells true 2 ((a8 p ss (aC w h a ss ss.length) ss.length).flatMap spC)]) (Eq.mpr (GL o1 o2 z1 z2 w h a p ss) (Dr t)) (cz ..) rfl ⟨⟨_,_,rfl,ct _ _⟩,trivial⟩ (by simpa using hne) (bC hi hj) (fun j=>rfl) rfl
theorem JK(p:Int)(ss:List (Int×Int))(rr:List (List Int))(c m:Int)(x:Nat):cH p ss rr c m (x+1)=(cH p ss rr c m x&&fG p ss rr x c m):=by
 unfold cH;rw[List.range_succ,List.all_append,List.all_cons,List.all_nil,Bool.and_true]
theorem Gr{rr:List (List Int)}{c m:Int}{x n:Nat}(hx:x<n)(q:fG p ss rr x c m=false):cH p ss rr c m n=false:=by
 unfold cH
 rw[List.all_eq_false]
 exact ⟨x,List.mem_range.2 hx,by rw[q];decide⟩
theorem I7{c m:Int}(t:ej w h a p ss)(hc:0<=c/\c<(a.length:Int))(hm : -1000000<=m/\m<=1000000):Ec o1 o2 z1 z2 w h a p ss c m:=by
 have hs:=t.few
 have hrl:(bw w h a ss ss.length).length=ss.length:=dC ..
 delta Ec bo bN bZ bX vR cQ c7 cC dJ d9 iY bf bj kZ ma sr ck c6 df cZ dY dP dK cv dQ
 refine ⟨rfl,⟨Nat.zero_le _,rfl⟩,?_,fun _=>rfl,fun x hx=>⟨fun k =>?_,fun k =>?_⟩⟩
 ·repeat' first|exact rfl|exact aa _|exact ac|exact ah _ _ _ (.inl rfl)|apply And.intro
 ·have h1:x<ss.length:=by have:=av k;omega
  have b1:=t.bd h1
  have hr:=m9 (w:=w) (h:=h) (a:=a) h1
  have hrb:=B6 t h1 (show Int.toNat c<a.length by omega)
  have hre:=yR (p:=p) (m:=m) t.bas h1 b1.2 hc
  refine ⟨⟨by omega,by omega⟩,fN h1 (by omega),⟨by omega,by omega⟩,pU (by omega) (by omega),⟨hc.1,by rw[hr];exact hc.2⟩,cL (by omega) (by omega),⟨rfl,rfl,trivial⟩,fun H' hl g=>zk (by omega) hm hrb t.tn (by decide) g.1 g.2.1,?_⟩
  rw[hre]
  refine ⟨fun b=>⟨rfl,bl ?_,trivial⟩,fun b=>⟨aG (by omega),x+1,⟨by omega,?_⟩,by omega,rfl,?_⟩⟩
  ·rw[Gr h1 (ff b)];rfl
  ·rw[JK,hx.2,bK b];rfl
  ·repeat' first|exact rfl|exact aa _|exact ac|exact ah _ _ _ (.inl rfl)|apply And.intro
 ·obtain rfl:x=ss.length:=by have:=aA k;omega
  refine ⟨rfl,bl ?_,trivial⟩
  rw[hx.2];rfl
theorem E5(o1 o2:Bool)(z1 z2:Nat)(a:List Bool)(ss:List (Int×Int))(rr:List (List Int)):[ab.cells o1 z1 (a.flatMap af),.cells o2 z2 (ss.flatMap spC),.cells true 1 (inL rr)].all (aZ 3)=true:=by
 show (aZ 3 (.cells o1 z1 (a.flatMap af))&&(aZ 3 (.cells o2 z2 (ss.flatMap spC))&&(aZ 3 (.cells true 1 (inL rr))&&true)))=true
 rw[fB,jv,tW];rfl
theorem Hf{c m:Int}(t:ej w h a p ss)(hc:0<=c/\c<(a.length:Int))(hm : -1000000<=m/\m<=1000000){i j l:Nat}(hnd:[i,j,l].Nodup)(hi:H[i]?=some (.cells o1 z1 (a.flatMap af)))(hj:H[j]?=some (.cells o2 z2 (ss.flatMap spC)))(hl:H[l]?=some (.cells true 1 (inL (bw w h a ss ss.length)))) :
  ad prog 119 [db w h a p ss i j,slQ l 2 (bw w h a ss ss.length).length,.int .i64 c,.int .i64 m] H [] (Is (.bool (cH p ss (aC w h a ss ss.length) c m ss.length)) H):=by
 have key:=bR (fun _ => .bool (cH p ss (aC w h a ss ss.length) c m ss.length)) (new:=[]) (Eq.mpr (LG o1 o2 z1 z2 w h a p ss c m) (I7 t hc hm)) (E5 ..) rfl trivial hnd (H:=H) ⟨by rw[dB];exact hi,by rw[gz];exact hj,by rw[tX];exact hl,trivial⟩ (fun j=>rfl) (args':=[db w h a p ss i j,slQ l 2 (bw w h a ss ss.length).length,.int .i64 c,.int .i64 m]) rfl
 rwa [List.append_nil]at key
abbrev tQ:Int:=(1:Nat)
abbrev cp:List Bool:=[]
abbrev FH:Prop:=(.slice none 0 0:Value) = .slice none 0 0/\(.slice none 0 0:Value) = .slice none 0 0/\True
abbrev FE(p:List (Int×Int)):Prop:=wkR (slQ 0 2 p.length)/\(nI tQ:Value)=nI tQ/\FH
abbrev vX:Prop:=(True)/\(True)/\(True)
abbrev A7(x0:Nat)(p:List (Int×Int)):=decide (((x0:Int):Int)<((p.length:Nat):Int))
abbrev i0(p:List (Int×Int)):=p.flatMap spC
abbrev A8(x0:Nat):Value:=nI (IntKind.wrap .i64 ((x0:Int)+1))
abbrev xz:ab:=.cells true 1 ((cp ++ [false]).flatMap af)
abbrev FC:Prop:=some (.cells true 1 [.bool false]:ab)=some xz
abbrev FD:Prop:=(.slice (some ⟨3,0,none⟩) 1 1:Value) = .slice (some ⟨3,0,none⟩) (cp ++ [false]).length (cp ++ [false]).length
abbrev xy:ab:=.cells true 1 ((cp ++ [false]).flatMap af)
abbrev Dc:Value:=.slice (some ⟨3,0,none⟩) (cp ++ [false]).length (cp ++ [false]).length
abbrev It(p:List (Int×Int)):Prop:=true=true/\wk (.slice (some ⟨3,0,none⟩) (cp ++ [false]).length (cp ++ [false]).length:Value) (rn (sg 1 [(1,3)]) 3 (slQ 1 2 (bB p 1 []).length:Value))/\((some xz=some (.cells true 1 ((bB p 1 []).flatMap af):ab)/\aj 1 (.cells true 1 ((bB p 1 []).flatMap af):ab)=true)/\True)
abbrev xA:ab:=.cells true 1 ((cp ++ [true]).flatMap af)
abbrev FA:Prop:=some (.cells true 1 [.bool true]:ab)=some xA
abbrev xx:ab:=.cells true 1 ((cp ++ [true]).flatMap af)
abbrev FG:Value:=.slice (some ⟨6,0,none⟩) (cp ++ [true]).length (cp ++ [true]).length
abbrev Db:Int:=((bO (cp ++ [false])):Nat)
abbrev Da:Int:=((bO (cp ++ [true])):Nat)
def yw(o1 o2:Bool)(z1 z2:Nat)(p:List (Int×Int)):Prop :=
 ((((0:Int) == tQ)=true->(true=true/\wk (.slice none 0 0:Value) (rn (sg 1 []) 3 (slQ 1 2 (bB p 1 []).length:Value))/\True/\True))/\(((0:Int) == tQ)=false->(true=true/\(0<=List.length p)/\(true=true/\((nI 0:Value)=nI ((0:Nat):Int)/\(.bool true:Value) = .bool (frP cp p 0)/\FE p)/\vX)/\(∀x0:Nat,true=true)/\∀x0:Nat,(x0<=List.length p)->(((A7 x0 p)=true->(((frP cp p x0)=true->(((0:Int)<=(x0:Int)/\((x0:Int):Int)<((p.length:Nat):Int))/\((i0 p)[((0+Int.toNat (x0:Int)*2)+1*1)]?=some (nI (p.getD x0 ae).2))/\(.bool (((p.getD x0 ae).2:Int) != 0):Value) = .bool true/\((A8 x0)=nI ((x0:Int)+1)/\∃x0':Nat,(x0'<=List.length p)/\(List.length p-x0')<(List.length p-x0)/\true=true/\((nI ((x0:Int)+1):Value)=nI (x0':Int)/\(.bool true:Value) = .bool (frP cp p x0')/\FE p)/\vX)))/\((frP cp p x0)=false->((A8 x0)=nI ((x0:Int)+1)/\∃x0':Nat,(x0'<=List.length p)/\(List.length p-x0')<(List.length p-x0)/\true=true/\((nI ((x0:Int)+1):Value)=nI (x0':Int)/\(.bool false:Value) = .bool (frP cp p x0')/\FE p)/\vX))))/\((A7 x0 p)=false->(FC/\FD/\((ar xy)/\(ar (.cells o2 z2 (i0 p)))/\True)/\(∀H':Heap,H'.length=4->(H'[3]?=some xz/\H'[0]?=some (.cells o2 z2 (i0 p):ab)/\True)->ad prog 117 [.slice (some ⟨3,0,none⟩) (cp ++ [false]).length (cp ++ [false]).length,nI tQ,slQ 0 2 p.length] H' [] (Is Dc H'))/\((!(frP cp p x0))=true->(It p))/\((!(frP cp p x0))=false->(FA/\((.slice (some ⟨6,0,none⟩) 1 1:Value) = .slice (some ⟨6,0,none⟩) (cp ++ [true]).length (cp ++ [true]).length)/\((ar xx)/\(ar (.cells o2 z2 (i0 p)))/\True)/\(∀H':Heap,H'.length=7->(H'[6]?=some xA/\H'[0]?=some (.cells o2 z2 (i0 p):ab)/\True)->ad prog 117 [.slice (some ⟨6,0,none⟩) (cp ++ [true]).length (cp ++ [true]).length,nI tQ,slQ 0 2 p.length] H' [] (Is FG H'))/\((ar xy)/\True)/\(∀H':Heap,H'.length=7->(H'[3]?=some xz/\True)->ad prog 171 [.slice (some ⟨3,0,none⟩) (cp ++ [false]).length (cp ++ [false]).length] H' [] (Is (nI Db) H'))/\((ar xx)/\True)/\(∀H':Heap,H'.length=7->(H'[6]?=some xA/\True)->ad prog 171 [.slice (some ⟨6,0,none⟩) (cp ++ [true]).length (cp ++ [true]).length] H' [] (Is (nI Da) H'))/\((decide ((Da:Int)<Db))=true->(It p))/\((decide ((Da:Int)<Db))=false->(true=true/\wk (.slice (some ⟨6,0,none⟩) (cp ++ [true]).length (cp ++ [true]).length:Value) (rn (sg 1 [(1,6)]) 3 (slQ 1 2 (bB p 1 []).length:Value))/\(some xA=some (.cells true 1 ((bB p 1 []).flatMap af):ab)/\aj 1 (.cells true 1 ((bB p 1 []).flatMap af):ab)=true)/\True))))))))))
abbrev K0(p:List (Int×Int))(x0:Nat):Hint:=.go 1 (.aT (.go 1 (.need (.go 0 (.val (nI (p.getD x0 ae).2) (.go 3 (.slot 32 (.bool true) (.go 4 (.slot 21 (nI ((x0:Int)+1)) (.go 0 (.again [])))))))))) (.go 3 (.slot 21 (nI ((x0:Int)+1)) (.go 0 (.again [])))))
abbrev Iq:Nat×ab:=(3,.cells true 1 ((cp ++ [false]).flatMap af))
theorem Km(o1 o2:Bool)(z1 z2:Nat)(p:List (Int×Int)):vF prog msk (dm 0) 100000 true 40 true 117 [.slice none 0 0,nI tQ,slQ 0 2 p.length] (aW [.cells o2 z2 (i0 p)]) (some [])
 (.go 4 (.fork (.go 1 (.again [])) (.go 1 (.inv 3 (Nat) (0) [] [] (fun x0=>[(8,nI (x0:Int)),(7,.bool (frP cp p x0)),(2,slQ 0 2 p.length),(1,nI tQ),(0,.slice none 0 0),(6,.slice none 0 0)]) (fun x0=>[]) (fun x0=>[]) (fun x0=>[]) (fun x0=>(x0<=List.length p)) (fun x0=>(List.length p-x0)) (fun x0 => .go 3 (.fork (K0 p x0) (.go 4 (.obj 3 xy (.slot 48 Dc (.go 1 (.ans [Iq,(0,.cells o2 z2 (i0 p))] Dc [] (.go 2 (.fork (.go 1 (.again [(1,3)])) (.go 4 (.obj 6 xx (.slot 59 FG (.go 1 (.ans [(6,.cells true 1 ((cp ++ [true]).flatMap af)),(0,.cells o2 z2 (i0 p))] FG [] (.go 1 (.ans [Iq] (nI Db) [] (.go 0 (.ans [(6,.cells true 1 ((cp ++ [true]).flatMap af))] (nI Da) [] (.go 0 (.fork (.go 1 (.again [(1,3)])) (.go 1 (.again [(1,6)]))))))))))))))))))))))))))
 (ca ((aW [.cells o2 z2 (i0 p)]):HT).n 3 (slQ 1 2 (bB p 1 []).length) [(true,.cells true 1 ((bB p 1 []).flatMap af))])=yw o1 o2 z1 z2 p:=by kernel_rfl
abbrev tP(m:Nat):Int:=((m+2):Nat)
abbrev FF(p:List (Int×Int))(m:Nat):Prop:=wkR (slQ 0 2 p.length)/\(nI (tP m):Value)=nI (tP m)/\FH
abbrev lD(p:List (Int×Int))(m:Nat):=bB p (m+1) (cp ++ [false])
abbrev Ir(p:List (Int×Int))(m:Nat):Prop:=true=true/\wk (slQ 4 2 (lD p m).length:Value) (rn (sg 1 [(1,4)]) 3 (slQ 1 2 (bB p (m+2) []).length:Value))/\((some (.cells true 1 ((lD p m).flatMap af):ab)=some (.cells true 1 ((bB p (m+2) []).flatMap af):ab)/\aj 1 (.cells true 1 ((bB p (m+2) []).flatMap af):ab)=true)/\True)
abbrev lE(p:List (Int×Int))(m:Nat):=bB p (m+1) (cp ++ [true])
def yv(o1 o2:Bool)(z1 z2 m:Nat)(p:List (Int×Int)):Prop :=
 ((((0:Int) == (tP m))=true->(true=true/\wk (.slice none 0 0:Value) (rn (sg 1 []) 3 (slQ 1 2 (bB p (m+2) []).length:Value))/\True/\True))/\(((0:Int) == (tP m))=false->(true=true/\(0<=List.length p)/\(true=true/\((nI 0:Value)=nI ((0:Nat):Int)/\(.bool true:Value) = .bool (frP cp p 0)/\FF p m)/\vX)/\(∀x0:Nat,true=true)/\∀x0:Nat,(x0<=List.length p)->(((A7 x0 p)=true->(((frP cp p x0)=true->(((0:Int)<=(x0:Int)/\((x0:Int):Int)<((p.length:Nat):Int))/\((i0 p)[((0+Int.toNat (x0:Int)*2)+1*1)]?=some (nI (p.getD x0 ae).2))/\(.bool (((p.getD x0 ae).2:Int) != 0):Value) = .bool true/\((A8 x0)=nI ((x0:Int)+1)/\∃x0':Nat,(x0'<=List.length p)/\(List.length p-x0')<(List.length p-x0)/\true=true/\((nI ((x0:Int)+1):Value)=nI (x0':Int)/\(.bool true:Value) = .bool (frP cp p x0')/\FF p m)/\vX)))/\((frP cp p x0)=false->((A8 x0)=nI ((x0:Int)+1)/\∃x0':Nat,(x0'<=List.length p)/\(List.length p-x0')<(List.length p-x0)/\true=true/\((nI ((x0:Int)+1):Value)=nI (x0':Int)/\(.bool false:Value) = .bool (frP cp p x0')/\FF p m)/\vX))))/\((A7 x0 p)=false->(FC/\FD/\((ar xy)/\(ar (.cells o2 z2 (i0 p)))/\True)/\(∀H':Heap,H'.length=4->(H'[3]?=some xz/\H'[0]?=some (.cells o2 z2 (i0 p):ab)/\True)->ad prog 117 [.slice (some ⟨3,0,none⟩) (cp ++ [false]).length (cp ++ [false]).length,nI (tP m),slQ 0 2 p.length] H' [] (Is (slQ 4 2 (lD p m).length) (H' ++ [(.cells true 1 ((lD p m).flatMap af):ab)])))/\((!(frP cp p x0))=true->(Ir p m))/\((!(frP cp p x0))=false->(FA/\((.slice (some ⟨7,0,none⟩) 1 1:Value) = .slice (some ⟨7,0,none⟩) (cp ++ [true]).length (cp ++ [true]).length)/\((ar xx)/\(ar (.cells o2 z2 (i0 p)))/\True)/\(∀H':Heap,H'.length=8->(H'[7]?=some xA/\H'[0]?=some (.cells o2 z2 (i0 p):ab)/\True)->ad prog 117 [.slice (some ⟨7,0,none⟩) (cp ++ [true]).length (cp ++ [true]).length,nI (tP m),slQ 0 2 p.length] H' [] (Is (slQ 8 2 (lE p m).length) (H' ++ [(.cells true 1 ((lE p m).flatMap af):ab)])))/\((ar (.cells true 1 ((lD p m).flatMap af)))/\True)/\(∀H':Heap,H'.length=9->(H'[4]?=some (.cells true 1 ((lD p m).flatMap af):ab)/\True)->ad prog 171 [slQ 4 2 (lD p m).length] H' [] (Is (nI (((bO (lD p m)):Nat):Int)) H'))/\((ar (.cells true 1 ((lE p m).flatMap af)))/\True)/\(∀H':Heap,H'.length=9->(H'[8]?=some (.cells true 1 ((lE p m).flatMap af):ab)/\True)->ad prog 171 [slQ 8 2 (lE p m).length] H' [] (Is (nI (((bO (lE p m)):Nat):Int)) H'))/\((decide (((((bO (lE p m)):Nat):Int):Int)<(((bO (lD p m)):Nat):Int)))=true->(Ir p m))/\((decide (((((bO (lE p m)):Nat):Int):Int)<(((bO (lD p m)):Nat):Int)))=false->(true=true/\wk (slQ 8 2 (lE p m).length:Value) (rn (sg 1 [(1,8)]) 3 (slQ 1 2 (bB p (m+2) []).length:Value))/\(some (.cells true 1 ((lE p m).flatMap af):ab)=some (.cells true 1 ((bB p (m+2) []).flatMap af):ab)/\aj 1 (.cells true 1 ((bB p (m+2) []).flatMap af):ab)=true)/\True))))))))))
theorem Kl(o1 o2:Bool)(z1 z2 m:Nat)(p:List (Int×Int)):vF prog msk (dm 0) 100000 true 40 true 117 [.slice none 0 0,nI (tP m),slQ 0 2 p.length] (aW [.cells o2 z2 (i0 p)]) (some [])
 (.go 4 (.fork (.go 1 (.again [])) (.go 1 (.inv 3 (Nat) (0) [] [] (fun x0=>[(8,nI (x0:Int)),(7,.bool (frP cp p x0)),(2,slQ 0 2 p.length),(1,nI (tP m)),(0,.slice none 0 0),(6,.slice none 0 0)]) (fun x0=>[]) (fun x0=>[]) (fun x0=>[]) (fun x0=>(x0<=List.length p)) (fun x0=>(List.length p-x0)) (fun x0 => .go 3 (.fork (K0 p x0) (.go 4 (.obj 3 xy (.slot 48 Dc (.go 1 (.ans [Iq,(0,.cells o2 z2 (i0 p))] (slQ 4 2 (lD p m).length) [.cells true 1 ((lD p m).flatMap af)] (.go 2 (.fork (.go 1 (.again [(1,4)])) (.go 4 (.obj 7 xx (.slot 59 (.slice (some ⟨7,0,none⟩) (cp ++ [true]).length (cp ++ [true]).length) (.go 1 (.ans [(7,.cells true 1 ((cp ++ [true]).flatMap af)),(0,.cells o2 z2 (i0 p))] (slQ 8 2 (lE p m).length) [.cells true 1 ((lE p m).flatMap af)] (.go 1 (.ans [(4,.cells true 1 ((lD p m).flatMap af))] (nI (((bO (lD p m)):Nat):Int)) [] (.go 0 (.ans [(8,.cells true 1 ((lE p m).flatMap af))] (nI (((bO (lE p m)):Nat):Int)) [] (.go 0 (.fork (.go 1 (.again [(1,4)])) (.go 1 (.again [(1,8)]))))))))))))))))))))))))))
 (ca ((aW [.cells o2 z2 (i0 p)]):HT).n 3 (slQ 1 2 (bB p (m+2) []).length) [(true,.cells true 1 ((bB p (m+2) []).flatMap af))])=yv o1 o2 z1 z2 m p:=by kernel_rfl
theorem iy(B:List Bool)(hB:B.length<=1000){i:Nat}{o:Bool}{z:Nat}(hi:H[i]?=some (.cells o z (B.flatMap af))) :
  ad prog 171 [slQ i 2 B.length] H [] (Is (.int .i64 (bO B:Nat)) H):=by
 refine m6 (css:=[B.flatMap af]) (v:=.int .i64 (bO B:Nat)) (ids:=[i]) (Eq.mpr (GM _ B) ?_) ⟨az _ _,trivial⟩ rfl ⟨⟨_,_,hi⟩,trivial⟩ rfl
 delta Aq bN bZ zr cQ c7 cC gh nv dK cv
 refine ⟨rfl,Nat.zero_le _,?_,fun _=>rfl,fun x hx=>⟨fun c =>?_,fun c =>?_⟩⟩
 ·repeat' first|exact az _ _|exact aa _|exact rfl|exact aa _|exact ac|apply And.intro
 ·have hx1:x<B.length:=by have:=av c;omega
  have hc:=ue (B.take x)
  rw[List.length_take]at hc
  refine ⟨⟨by omega,by omega⟩,ip hx1 (by omega),fun g=>⟨aG (by omega),aG (by omega),x+1,by omega,by omega,rfl,?_⟩,fun g=>⟨aG (by omega),x+1,by omega,by omega,rfl,?_⟩⟩
  ·rw[xV hx1,if_pos g]
   repeat' first|exact az _ _|exact aa _|exact rfl|exact aa _|exact ac|apply And.intro
  ·rw[xV hx1,if_neg (by rw[g];decide)]
   repeat' first|exact az _ _|exact aa _|exact rfl|exact aa _|exact ac|apply And.intro
 ·obtain rfl:x=B.length:=by have:=aA c;omega
  rw[List.take_length]
theorem nZ(B:List Bool)(p:List (Int×Int)){i j:Nat}(hne:i≠j)(hi:H[i]?=some (.cells o1 z1 (B.flatMap af)))(hj:H[j]?=some (.cells o2 z2 (p.flatMap spC))) :
  ad prog 117 [.slice (some ⟨i,0,none⟩) B.length B.length,.int .i64 (B.length:Int),slQ j 2 p.length] H [] (Is (.slice (some ⟨i,0,none⟩) B.length B.length) H):=by
 have key:=vcK iw mixed dx 40 (os:=[.cells o1 z1 (B.flatMap af),.cells o2 z2 (p.flatMap spC)]) (v:=.slice (some ⟨0,0,none⟩) B.length B.length) (new:=[]) (Eq.mpr (L3 o1 o2 z1 z2 B p) (show HB o1 o2 z1 z2 B p from ⟨congrArg Value.bool (beq_self_eq_true _),rfl,aa _,trivial⟩)) (cz o1 o2 z1 z2 B p) rfl rfl (H:=H) (ids:=[i,j]) (by simpa using hne) (bC hi hj)
 rw[List.map_nil,List.map_nil,List.append_nil]at key
 exact key
theorem ub{B:List Bool}{p:List (Int×Int)}{x:Nat}(hx:x<p.length)(h0:frP B p x=true)(h1:((p.getD x ae).2 != (B.length:Int))=true):frP B p (x+1)=true:=by
 rw[DL hx,h0,decide_eq_false (bne_iff_ne.1 h1)];rfl
theorem Ab{B:List Bool}{p:List (Int×Int)}{x:Nat}(hx:x<p.length)(h0:frP B p x=true)(h1:(p.getD x ae).2=(B.length:Int)):frP B p (x+1) = !B.getD (Int.toNat (p.getD x ae).1) false:=by
 rw[DL hx,h0,decide_eq_true h1];rfl
theorem ua{B:List Bool}{p:List (Int×Int)}{x:Nat}(hx:x<p.length)(h0:frP B p x=false):frP B p (x+1)=false:=by
 rw[DL hx,h0];rfl
theorem app1{α:Type}(L:List α)(x:α):(0+L.length)+1=(L ++ [x]).length:=by rw[ao,aV];omega
theorem Fb{B:List Bool}{x:Bool}:(some (ab.cells true 1 (List.take ((0+B.length)*1) (List.drop 0 (List.take (0*1) (List.drop 0 ([]:List Value))++List.take (B.length*1) (List.drop 0 (B.flatMap af))))++List.take (1*1) (List.drop 0 ([.bool x]:List Value)))):Option ab)=some (.cells true 1 ((B ++ [x]).flatMap af)):=by
 have e:List.take (0*1) (List.drop 0 ([]:List Value))++List.take (B.length*1) (List.drop 0 (B.flatMap af))=B.flatMap af:=by
  rw[List.drop_zero,List.drop_zero,List.take_nil,List.nil_append,List.take_of_length_le (by rw[aP bU];omega)]
 rw[e,Nat.zero_add]
 exact de bU rfl rfl
theorem oQ:∀(B:List Bool) (k:Nat),(((B.flatMap af).take k).all fun v=>cO v)=true:=fun B k=>by
 rw[List.all_eq_true]
 intro v hv
 obtain ⟨x,_,hx⟩:=List.mem_flatMap.1 (List.mem_of_mem_take hv)
 rw[List.mem_singleton.1 hx];rfl
theorem tk{l:List (Int×Int)}{k off:Nat}(h:k<l.length)(ho:off=k*2+1):(l.flatMap spC)[off]?=some (.int .i64 (l.getD k ae).2):=m7 h ho
theorem yT{l:List (Int×Int)}{k off:Nat}(h:k<l.length)(ho:off=k*2):(l.flatMap spC)[off]?=some (.int .i64 (l.getD k ae).1):=fI h ho
theorem I5{B:List Bool}{p:List (Int×Int)}(hb:0<B.length)(hl:B.length<=100)(hp:p.length<=1000)(ho:rt (B.length+1) p):EB o1 o2 z1 z2 B p:=by
 have lf:=bT p 0 (B ++ [false])
 have lt:=bT p 0 (B ++ [true])
 rw[ao,aV]at lf lt
 delta EB gh nr bN bZ dQ gd vW cQ c7 cC sf sm fj ez dK cv dP A3 zH zC pC zG zw pI vT C8 zB pG zF pH zt CV
 refine ⟨congrArg Value.bool (beq_eq_false_iff_ne.2 (by omega)),rfl,Nat.zero_le _,?_,fun _=>rfl,fun x hx=>⟨fun c =>?_,fun c =>?_⟩⟩
 ·repeat' first|exact az _ _|exact aa _|exact rfl|exact aa _|exact ac|apply And.intro
 ·have hx1:x<p.length:=by have:=av c;omega
  have he:=ho _ (b8 (d:=ae) hx1)
  have e1:=he.1
  have e2:=he.2.1
  have e3:=he.2.2
  refine ⟨fun f=>⟨⟨by omega,by omega⟩,tk hx1 (by omega),fun u=>⟨aG (by omega),x+1,by omega,by omega,rfl,?_⟩,fun u =>?_⟩,fun f=>⟨aG (by omega),x+1,by omega,by omega,rfl,?_⟩⟩
  ·rw[ub hx1 f u]
   repeat' first|exact az _ _|exact aa _|exact rfl|exact aa _|exact ac|apply And.intro
  ·have hu:(p.getD x ae).2=(B.length:Int):=by
    by_cases q:(p.getD x ae).2=(B.length:Int)
    ·exact q
    ·rw[bne_iff_ne.2 q]at u;cases u
   refine ⟨⟨by omega,by omega⟩,yT hx1 (by omega),⟨by omega,by omega⟩,ip (by omega) (by omega),aG (by omega),x+1,by omega,by omega,rfl,?_⟩
   rw[Ab hx1 f hu]
   repeat' first|exact az _ _|exact aa _|exact rfl|exact aa _|exact ac|apply And.intro
  ·rw[ua hx1 f]
   repeat' first|exact az _ _|exact aa _|exact rfl|exact aa _|exact ac|apply And.intro
 ·obtain rfl:x=p.length:=by have:=aA c;omega
  refine ⟨fun e=>absurd e (by omega),fun _=>⟨⟨by omega,by omega,⟨Nat.le_refl _,Nat.zero_le _⟩,⟨Nat.le_refl _,by rw[aP bU];omega⟩,(by rw[List.drop_zero];exact oQ _ _)⟩,rfl,⟨by omega,by decide,⟨Nat.le_refl _,by rw[ao,List.length_take,List.length_take,List.drop_zero,List.drop_zero,aP bU,List.length_nil];omega⟩,⟨by decide,by decide⟩,rfl⟩,rfl,Fb,(by rw[app1 B false]),⟨rfl,rfl,trivial⟩,fun H' hl' g=>(by have key:=nZ (B ++ [false]) p (H:=H') (by decide) g.1 g.2.1;rwa [show (((B ++ [false]).length:Nat):Int)=((B.length+1:Nat):Int) from by rw[ao,aV]]at key),fun f =>?_,fun f =>?_⟩⟩
  ·rw[qD (m:=0) (ff f)]
   repeat' first|(exact ju (by rw[bT,ao,aV]))|exact aa _|exact az _ _|exact aa _|exact rfl|exact aa _|exact ac|apply And.intro
  ·refine ⟨fun e=>absurd e (by omega),fun _=>⟨⟨by omega,by omega,⟨Nat.le_refl _,Nat.zero_le _⟩,⟨Nat.le_refl _,by rw[aP bU];omega⟩,(by rw[List.drop_zero];exact oQ _ _)⟩,rfl,⟨by omega,by decide,⟨Nat.le_refl _,by rw[ao,List.length_take,List.length_take,List.drop_zero,List.drop_zero,aP bU,List.length_nil];omega⟩,⟨by decide,by decide⟩,rfl⟩,rfl,Fb,(by rw[app1 B true]),⟨rfl,rfl,trivial⟩,fun H' hl' g=>(by have key:=nZ (B ++ [true]) p (H:=H') (by decide) g.1 g.2.1;rwa [show (((B ++ [true]).length:Nat):Int)=((B.length+1:Nat):Int) from by rw[ao,aV]]at key),⟨rfl,trivial⟩,fun H' hl' g=>ad.wkA (iy (B ++ [false]) (by rw[ao,aV];omega) g.1) (ak nR ac),⟨rfl,trivial⟩,fun H' hl' g=>ad.wkA (iy (B ++ [true]) (by rw[ao,aV];omega) g.1) (ak nR ac),fun q =>?_,fun q =>?_⟩⟩
   ·rw[qC (m:=0) (bK f) (by have:=av q;exact Int.ofNat_lt.1 this)]
    repeat' first|(exact ju (by rw[bT,ao,aV]))|exact aa _|exact az _ _|exact aa _|exact rfl|exact aa _|exact ac|apply And.intro
   ·rw[qB (m:=0) (bK f) (by have:=aA q;exact fun h=>this (Int.ofNat_lt.2 h))]
    repeat' first|(exact ju (by rw[bT,ao,aV]))|exact aa _|exact az _ _|exact aa _|exact rfl|exact aa _|exact ac|apply And.intro
theorem I4{o1 o2:Bool}{z1 z2:Nat}{B:List Bool}{m:Nat}{p:List (Int×Int)}(hb:0<B.length)(hl:B.length<=100)(hp:p.length<=1000)(ho:rt (B.length+(m+2)) p)(hm:m<=100)(ih:∀(x:Bool) {H:Heap} {L i j:Nat} (hL:H.length=L) (hne:i≠j) {o1 o2:Bool} {z1 z2:Nat} (hi:H[i]?=some (.cells o1 z1 ((B ++ [x]).flatMap af))) (hj:H[j]?=some (.cells o2 z2 (p.flatMap spC))),
      ad prog 117 [.slice (some ⟨i,0,none⟩) (B ++ [x]).length (B ++ [x]).length,.int .i64 ((B.length+(m+2):Nat):Int),slQ j 2 p.length] H [] (Is (slQ L 2 (bB p (m+1) (B ++ [x])).length) (H ++ [.cells true 1 ((bB p (m+1) (B ++ [x])).flatMap af)]))):EA o1 o2 z1 z2 B m p:=by
  have lf:=bT p (m+1) (B ++ [false])
  have lt:=bT p (m+1) (B ++ [true])
  rw[ao,aV]at lf lt
  delta EA gh nq bN bZ dQ gd CO cQ c7 cC sf sm fj ez dK cv dP A3 zH zC pC zG zw pI ic C9 zB pG zF pH ie
  refine ⟨congrArg Value.bool (beq_eq_false_iff_ne.2 (by omega)),rfl,Nat.zero_le _,?_,fun _=>rfl,fun x hx=>⟨fun c =>?_,fun c =>?_⟩⟩
  · repeat' first|exact az _ _|exact aa _|exact rfl|exact aa _|exact ac|apply And.intro
  · have hx1 : x < p.length := by have := av c; omega
    have he:=ho _ (b8 (d:=ae) hx1)
    have e1:=he.1
    have e2:=he.2.1
    have e3:=he.2.2
    refine ⟨fun f=>⟨⟨by omega,by omega⟩,tk hx1 (by omega),fun u=>⟨aG (by omega),x+1,by omega,by omega,rfl,?_⟩,fun u =>?_⟩,fun f=>⟨aG (by omega),x+1,by omega,by omega,rfl,?_⟩⟩
    · rw [ub hx1 f u]
      repeat' first|exact az _ _|exact aa _|exact rfl|exact aa _|exact ac|apply And.intro
    · have hu:(p.getD x ae).2=(B.length:Int):=by
        by_cases q:(p.getD x ae).2=(B.length:Int)
        · exact q
        · rw[bne_iff_ne.2 q]at u;cases u
      refine ⟨⟨by omega,by omega⟩,yT hx1 (by omega),⟨by omega,by omega⟩,ip (by omega) (by omega),aG (by omega),x+1,by omega,by omega,rfl,?_⟩
      rw[Ab hx1 f hu]
      repeat' first|exact az _ _|exact aa _|exact rfl|exact aa _|exact ac|apply And.intro
    · rw [ua hx1 f]
      repeat' first|exact az _ _|exact aa _|exact rfl|exact aa _|exact ac|apply And.intro
  · obtain rfl : x = p.length := by have := aA c; omega
    refine ⟨fun e=>absurd e (by omega),fun _=>⟨⟨by omega,by omega,⟨Nat.le_refl _,Nat.zero_le _⟩,⟨Nat.le_refl _,by rw[aP bU];omega⟩,(by rw[List.drop_zero];exact oQ _ _)⟩,rfl,⟨by omega,by decide,⟨Nat.le_refl _,by rw[ao,List.length_take,List.length_take,List.drop_zero,List.drop_zero,aP bU,List.length_nil];omega⟩,⟨by decide,by decide⟩,rfl⟩,rfl,Fb,(by rw[app1 B false]),⟨rfl,rfl,trivial⟩,fun H' hl' g=>ih false hl' (by decide) g.1 g.2.1,fun f =>?_,fun f =>?_⟩⟩
    · rw [qD (m := (m + 1)) (ff f)]
      repeat' first|(exact ju (by rw[bT,ao,aV]))|exact aa _|exact az _ _|exact aa _|exact rfl|exact aa _|exact ac|apply And.intro
    · refine ⟨fun e => absurd e (by omega), fun _ => ⟨⟨by omega, by omega, ⟨Nat.le_refl _, Nat.zero_le _⟩, ⟨Nat.le_refl _, by rw [aP bU]; omega⟩, (by rw [List.drop_zero]; exact oQ _ _)⟩, rfl, ⟨by omega, by decide, ⟨Nat.le_refl _, by rw [ao, List.length_take, List.length_take, List.drop_zero, List.drop_zero, aP bU, List.length_nil]; omega⟩, ⟨by decide, by decide⟩, rfl⟩, rfl, Fb, (by rw [app1 B true]), ⟨rfl, rfl, trivial⟩, fun H' hl' g => ih true hl' (by decide) g.1 g.2.1, ⟨rfl, trivial⟩, fun H' hl' g => iy _ (by omega) g.1, ⟨rfl, trivial⟩, fun H' hl' g => iy _ (by omega) g.1, fun q => ?_, fun q => ?_⟩⟩
      · rw [qC (m := (m + 1)) (bK f) (by have := av q; exact Int.ofNat_lt.1 this)]
        repeat' first|(exact ju (by rw[bT,ao,aV]))|exact aa _|exact az _ _|exact aa _|exact rfl|exact aa _|exact ac|apply And.intro
      · rw [qB (m := (m + 1)) (bK f) (by have := aA q; exact fun h => this (Int.ofNat_lt.2 h))]
        repeat' first|(exact ju (by rw[bT,ao,aV]))|exact aa _|exact az _ _|exact aa _|exact rfl|exact aa _|exact ac|apply And.intro
theorem FV{p:List (Int×Int)}(hp:p.length<=1000)(ho:rt (1) p):yw o1 o2 z1 z2 p:=by
 have lf:=bT p 0 (([]:List Bool) ++ [false])
 have lt:=bT p 0 (([]:List Bool) ++ [true])
 rw[ao,aV,List.length_nil]at lf lt
 delta yw tQ cp FH FE vX A7 i0 A8 xz FC FD xy Dc It xA FA xx FG Db Da
 refine ⟨fun e=>absurd (eq_of_beq e) (by omega),fun _=>⟨rfl,Nat.zero_le _,?_,fun _=>rfl,fun x hx=>⟨fun c =>?_,fun c =>?_⟩⟩⟩
 ·repeat' first|exact az _ _|exact aa _|exact rfl|exact aa _|exact ac|apply And.intro
 ·have hx1:x<p.length:=by have:=av c;omega
  have he:=ho _ (b8 (d:=ae) hx1)
  have e1:=he.1
  have e2:=he.2.1
  have e3:=he.2.2
  refine ⟨fun f=>⟨⟨by omega,by omega⟩,(tk hx1 (by omega)),congrArg Value.bool (bne_iff_ne.2 (by omega)),aG (by omega),x+1,by omega,by omega,rfl,?_⟩,fun f=>⟨aG (by omega),x+1,by omega,by omega,rfl,?_⟩⟩
  ·rw[ub hx1 f (bne_iff_ne.2 (show (p.getD x ae).2≠((([]:List Bool).length:Nat):Int) by show _≠(0:Int);omega))]
   repeat' first|exact az _ _|exact aa _|exact rfl|exact aa _|exact ac|apply And.intro
  ·rw[ua hx1 f]
   repeat' first|exact az _ _|exact aa _|exact rfl|exact aa _|exact ac|apply And.intro
 ·obtain rfl:x=p.length:=by have:=aA c;omega
  refine ⟨rfl,rfl,⟨rfl,rfl,trivial⟩,fun H' hl' g=>nZ (([]:List Bool) ++ [false]) p (by decide) g.1 g.2.1,fun f =>?_,fun f =>?_⟩
  ·rw[qD (m:=0) (ff f)]
   repeat' first|(exact ju (by rw[bT,ao,aV]))|exact aa _|exact az _ _|exact aa _|exact rfl|exact aa _|exact ac|apply And.intro
  ·refine ⟨rfl,rfl,⟨rfl,rfl,trivial⟩,fun H' hl' g=>nZ (([]:List Bool) ++ [true]) p (by decide) g.1 g.2.1,⟨rfl,trivial⟩,fun H' hl' g=>ad.wkA (iy (([]:List Bool) ++ [false]) (by decide) g.1) (ak nR ac),⟨rfl,trivial⟩,fun H' hl' g=>ad.wkA (iy (([]:List Bool) ++ [true]) (by decide) g.1) (ak nR ac),fun q =>?_,fun q =>?_⟩
   ·rw[qC (m:=0) (bK f) (by have:=av q;exact Int.ofNat_lt.1 this)]
    repeat' first|(exact ju (by rw[bT,ao,aV]))|exact aa _|exact az _ _|exact aa _|exact rfl|exact aa _|exact ac|apply And.intro
   ·rw[qB (m:=0) (bK f) (by have:=aA q;exact fun h=>this (Int.ofNat_lt.2 h))]
    repeat' first|(exact ju (by rw[bT,ao,aV]))|exact aa _|exact az _ _|exact aa _|exact rfl|exact aa _|exact ac|apply And.intro
theorem FU{o1 o2:Bool}{z1 z2:Nat}{m:Nat}{p:List (Int×Int)}(hp:p.length<=1000)(ho:rt (m+2) p)(hm:m<=100)(ih:∀(x:Bool) {H:Heap} {L i j:Nat} (hL:H.length=L) (hne:i≠j) {o1 o2:Bool} {z1 z2:Nat} (hi:H[i]?=some (.cells o1 z1 ((([]:List Bool) ++ [x]).flatMap af))) (hj:H[j]?=some (.cells o2 z2 (p.flatMap spC))),
      ad prog 117 [.slice (some ⟨i,0,none⟩) (([]:List Bool) ++ [x]).length (([]:List Bool) ++ [x]).length,.int .i64 ((m+2:Nat):Int),slQ j 2 p.length] H [] (Is (slQ L 2 (bB p (m+1) (([]:List Bool) ++ [x])).length) (H ++ [.cells true 1 ((bB p (m+1) (([]:List Bool) ++ [x])).flatMap af)]))):yv o1 o2 z1 z2 m p:=by
  have lf:=bT p (m+1) (([]:List Bool) ++ [false])
  have lt:=bT p (m+1) (([]:List Bool) ++ [true])
  rw[ao,aV,List.length_nil]at lf lt
  delta yv tP cp FH FF vX A7 i0 A8 xz FC FD xy lD Ir xA FA xx lE
  refine ⟨fun e=>absurd (eq_of_beq e) (by omega),fun _=>⟨rfl,Nat.zero_le _,?_,fun _=>rfl,fun x hx=>⟨fun c =>?_,fun c =>?_⟩⟩⟩
  · repeat' first|exact az _ _|exact aa _|exact rfl|exact aa _|exact ac|apply And.intro
  · have hx1 : x < p.length := by have := av c; omega
    have he:=ho _ (b8 (d:=ae) hx1)
    have e1:=he.1
    have e2:=he.2.1
    have e3:=he.2.2
    refine ⟨fun f=>⟨⟨by omega,by omega⟩,(tk hx1 (by omega)),congrArg Value.bool (bne_iff_ne.2 (by omega)),aG (by omega),x+1,by omega,by omega,rfl,?_⟩,fun f=>⟨aG (by omega),x+1,by omega,by omega,rfl,?_⟩⟩
    · rw [ub hx1 f (bne_iff_ne.2 (show (p.getD x ae).2 ≠ ((([] : List Bool).length : Nat) : Int) by show _ ≠ (0 : Int); omega))]
      repeat' first|exact az _ _|exact aa _|exact rfl|exact aa _|exact ac|apply And.intro
    · rw [ua hx1 f]
      repeat' first|exact az _ _|exact aa _|exact rfl|exact aa _|exact ac|apply And.intro
  · obtain rfl : x = p.length := by have := aA c; omega
    refine ⟨rfl,rfl,⟨rfl,rfl,trivial⟩,fun H' hl' g=>ih false hl' (by decide) g.1 g.2.1,fun f =>?_,fun f =>?_⟩
    · rw [qD (m := (m + 1)) (ff f)]
      repeat' first|(exact ju (by rw[bT,ao,aV]))|exact aa _|exact az _ _|exact aa _|exact rfl|exact aa _|exact ac|apply And.intro
    · refine ⟨rfl, rfl, ⟨rfl, rfl, trivial⟩, fun H' hl' g => ih true hl' (by decide) g.1 g.2.1, ⟨rfl, trivial⟩, fun H' hl' g => iy _ (by omega) g.1, ⟨rfl, trivial⟩, fun H' hl' g => iy _ (by omega) g.1, fun q => ?_, fun q => ?_⟩
      · rw [qC (m := (m + 1)) (bK f) (by have := av q; exact Int.ofNat_lt.1 this)]
        repeat' first|(exact ju (by rw[bT,ao,aV]))|exact aa _|exact az _ _|exact aa _|exact rfl|exact aa _|exact ac|apply And.intro
      · rw [qB (m := (m + 1)) (bK f) (by have := aA q; exact fun h => this (Int.ofNat_lt.2 h))]
        repeat' first|(exact ju (by rw[bT,ao,aV]))|exact aa _|exact az _ _|exact aa _|exact rfl|exact aa _|exact ac|apply And.intro
theorem Ij(p:List (Int×Int))(hp:p.length<=1000):∀(m:Nat) (B:List Bool),0<B.length->B.length+m<=100->rt (B.length+(m+1)) p->∀{H:Heap} {L i j:Nat} (hL:H.length=L) (hne:i≠j) {o1 o2:Bool} {z1 z2:Nat} (hi:H[i]?=some (.cells o1 z1 (B.flatMap af))) (hj:H[j]?=some (.cells o2 z2 (p.flatMap spC))),
  ad prog 117 [.slice (some ⟨i,0,none⟩) B.length B.length,.int .i64 ((B.length+(m+1):Nat):Int),slQ j 2 p.length] H [] (Is (slQ L 2 (bB p (m+1) B).length) (H ++ [.cells true 1 ((bB p (m+1) B).flatMap af)])):=by
 intro m
 induction m with
 |zero =>
  intro B hb hl ho H L i j hL hne o1 o2 z1 z2 hi hj
  subst hL
  exact ad.wkA (bR (fun j=>slQ j 2 (bB p 1 B).length) (new:=[.cells true 1 ((bB p 1 B).flatMap af)]) (Eq.mpr (L5 o1 o2 z1 z2 B p) (I5 hb (by omega) hp ho)) (cz o1 o2 z1 z2 B p) rfl ⟨⟨_,_,rfl,az _ _⟩,trivial⟩ (ids:=[i,j]) (by simpa using hne) (bC hi hj) (fun j=>rfl) rfl) (ak nR (ak (aa _) (ak (aa _) ac)))
 |succ m ihm =>
  intro B hb hl ho H L i j hL hne o1 o2 z1 z2 hi hj
  subst hL
  have ih:∀(x:Bool) {H:Heap} {L i j:Nat} (hL:H.length=L) (hne:i≠j) {o1 o2:Bool} {z1 z2:Nat} (hi:H[i]?=some (.cells o1 z1 ((B ++ [x]).flatMap af))) (hj:H[j]?=some (.cells o2 z2 (p.flatMap spC))),ad prog 117 [.slice (some ⟨i,0,none⟩) (B ++ [x]).length (B ++ [x]).length,.int .i64 ((B.length+(m+2):Nat):Int),slQ j 2 p.length] H [] (Is (slQ L 2 (bB p (m+1) (B ++ [x])).length) (H ++ [.cells true 1 ((bB p (m+1) (B ++ [x])).flatMap af)])):=by
   intro x H L i j hL hne o1 o2 z1 z2 hi hj
   have e:(B ++ [x]).length+(m+1)=B.length+(m+2):=by rw[ao,aV];omega
   have key:=ihm (B ++ [x]) (by rw[ao,aV];omega) (by rw[ao,aV];omega) (by rw[e];exact ho) hL hne hi hj
   rw[e]at key;exact key
  exact ad.wkA (bR (fun j=>slQ j 2 (bB p (m+2) B).length) (new:=[.cells true 1 ((bB p (m+2) B).flatMap af)]) (Eq.mpr (L4 o1 o2 z1 z2 B m p) (I4 hb (by omega) hp ho (by omega) ih)) (cz o1 o2 z1 z2 B p) rfl ⟨⟨_,_,rfl,az _ _⟩,trivial⟩ (ids:=[i,j]) (by simpa using hne) (bC hi hj) (fun j=>rfl) rfl) (ak nR (ak (aa _) (ak (aa _) ac)))
theorem Fu(p:List (Int×Int))(hp:p.length<=1000)(m:Nat)(hm:m<=90)(ho:rt (m+1) p){L j:Nat}(hL:H.length=L){o2:Bool}{z2:Nat}(hj:H[j]?=some (.cells o2 z2 (p.flatMap spC))) :
  ad prog 117 [.slice none 0 0,.int .i64 ((m+1:Nat):Int),slQ j 2 p.length] H [] (Is (slQ L 2 (bB p (m+1) []).length) (H ++ [.cells true 1 ((bB p (m+1) []).flatMap af)])):=by
 have ok:[ab.cells o2 z2 (p.flatMap spC)].all (aZ 3)=true:=by
  show (aZ 3 (.cells o2 z2 (p.flatMap spC))&&true)=true
  rw[jv];rfl
 subst hL
 cases m with
 |zero=>exact bR (fun j=>slQ j 2 (bB p 1 []).length) (new:=[.cells true 1 ((bB p 1 []).flatMap af)]) (Eq.mpr (Km false o2 0 z2 p) (FV hp ho)) ok rfl ⟨⟨_,_,rfl,az _ _⟩,trivial⟩ (ids:=[j]) (by simp) ⟨by rw[gz];exact hj,trivial⟩ (fun j=>rfl) rfl
 |succ m =>
  have ih:∀(x:Bool) {H:Heap} {L i j:Nat} (hL:H.length=L) (hne:i≠j) {o1 o2:Bool} {z1 z2:Nat} (hi:H[i]?=some (.cells o1 z1 ((([]:List Bool) ++ [x]).flatMap af))) (hj:H[j]?=some (.cells o2 z2 (p.flatMap spC))),ad prog 117 [.slice (some ⟨i,0,none⟩) (([]:List Bool) ++ [x]).length (([]:List Bool) ++ [x]).length,.int .i64 ((m+2:Nat):Int),slQ j 2 p.length] H [] (Is (slQ L 2 (bB p (m+1) (([]:List Bool) ++ [x])).length) (H ++ [.cells true 1 ((bB p (m+1) (([]:List Bool) ++ [x])).flatMap af)])):=by
   intro x H L i j hL hne o1 o2 z1 z2 hi hj
   have key:=Ij p hp m [x] (Nat.zero_lt_one) (by rw[aV];omega) (by rw[aV,show 1+(m+1)=m+1+1 by omega];exact ho) hL hne hi hj
   rw[show [x].length+(m+1)=m+2 by rw[aV];omega]at key
   exact key
  exact bR (fun j=>slQ j 2 (bB p (m+2) []).length) (new:=[.cells true 1 ((bB p (m+2) []).flatMap af)]) (Eq.mpr (Kl false o2 0 z2 m p) (FU hp ho (by omega) ih)) ok rfl ⟨⟨_,_,rfl,az _ _⟩,trivial⟩ (ids:=[j]) (by simp) ⟨by rw[gz];exact hj,trivial⟩ (fun j=>rfl) rfl
abbrev kl7(M:List Int)(k:Nat):ab:=.cells true 1 ((M.take k).flatMap ai)
def LD(M:List Int)(k:Nat):Prop :=
 ((k=0->(((0+k)*8<=2 ^ 44/\k=0)/\true=true/\wk (slQ 1 1 0:Value) (rn (sg 1 [(1,1)]) 3 (slQ 1 1 k:Value))/\(some (.cells true 1 []:ab)=some (kl7 M k)/\aj 1 (kl7 M k)=true)/\True))/\(¬ (k=0)->(((0+k)*8<=2 ^ 44/\k≠0/\(0<=0/\0+0*1<=List.length ([]:List Value))/\(k<=k/\0+k*1<=List.length (M.flatMap ai))/\((((M.flatMap ai).drop 0).take (k*1)):List Value).all (fun v=>cO v)=true)/\true=true/\true=true/\wk (.slice (some ⟨2,0,none⟩) (0+k) (0+k):Value) (rn (sg 1 [(1,2)]) 3 (slQ 1 1 k:Value))/\(some (.cells true 1 (((([]:List Value).drop 0).take (0*1))++(((M.flatMap ai).drop 0).take (k*1))):ab)=some (kl7 M k)/\aj 1 (kl7 M k)=true)/\True)))
theorem MU(M:List Int)(k:Nat):vF prog msk (dm 0) 100000 true 40 true 85 [.slice (some ⟨0,0,none⟩) k k] (bA 0 [M.flatMap ai]) (some [])
 (.go 5 (.cas (k=0) (.val (.bool true) (.go 0 (.again [(1,1)]))) (.need (.go 0 (.again [(1,2)])))))
 (ca ((bA 0 [M.flatMap ai]):HT).n 3 (slQ 1 1 k) [(true,.cells true 1 ((M.take k).flatMap ai))])=LD M k:=by kernel_rfl
abbrev kld:List Value:=[.pointer (some ⟨2,0,none⟩)]
abbrev kl4(w h:Int)(a:List Bool)(p:Int)(ss:List (Int×Int))(rr:List (List Int)):List Value:=[nI w,nI h,slQ 0 2 a.length,nI p,slQ 1 2 ss.length,slQ 3 1 rr.length]
abbrev klb(o1:Bool)(z1:Nat)(a:List Bool)(o2:Bool)(z2:Nat)(ss:List (Int×Int))(rr:List (List Int)):Prop:=(ar (.cells o1 z1 (a.flatMap af)))/\(ar (.cells o2 z2 (ss.flatMap spC)))/\(ar (.cells true 1 (inL rr)))/\True
abbrev kl9(H':Heap)(o1:Bool)(z1:Nat)(a:List Bool)(o2:Bool)(z2:Nat)(ss:List (Int×Int))(rr:List (List Int)):Prop:=H'[0]?=some (.cells o1 z1 (a.flatMap af):ab)/\H'[1]?=some (.cells o2 z2 (ss.flatMap spC):ab)/\H'[3]?=some (.cells true 1 (inL rr):ab)/\True
abbrev kl1(ss:List (Int×Int))(M:List Int)(k:Nat):=isr (kyI ss) (M.take k) (M.take k).length
abbrev kl5(k:Nat):Prop:=(.pointer (some ⟨5,0,none⟩):Value) = .pointer (some ⟨5,0,none⟩)/\(.map none:Value) = .map none/\wkR (slQ 6 1 k)/\(.map (some 7):Value) = .map (some 7)/\wkR (slQ 6 1 k)/\(nI ((k:Nat):Int):Value)=nI ((k:Nat):Int)/\True
abbrev klc:Prop:=(True)/\(True)
abbrev kl3(k J:Nat)(ss:List (Int×Int))(M:List Int):Prop:=(nI ((k:Nat):Int):Value)=nI ((k:Nat):Int)/\wkR (slQ 6 1 k)/\(.map (some 7):Value) = .map (some 7)/\wkR (slQ 6 1 k)/\(.map none:Value) = .map none/\(.pointer (some ⟨5,0,none⟩):Value) = .pointer (some ⟨5,0,none⟩)/\(nI (J:Int):Value)=nI (J:Int)/\(nI (J:Int):Value)=nI (J:Int)/\(nI ((kl1 ss M k).getD J 0):Value)=nI ((kl1 ss M k).getD J 0)/\wkR (slQ 6 2 J)/\(nI (J:Int):Value)=nI (J:Int)/\True
abbrev kl6(ss:List (Int×Int))(M:List Int)(k U:Nat)(p:Int)(rr:List (List Int))(J:Nat):=cS ((kl1 ss M k).getD U 0) 0 (hEJ (agI p ss rr) (kl1 ss M k) J U)
abbrev kl2(p:Int)(ss:List (Int×Int))(rr:List (List Int))(M:List Int)(k:Nat):=hE (agI p ss rr) (kl1 ss M k) (kl1 ss M k).length
def Es(o1 o2:Bool)(z1 z2:Nat)(o3:Bool)(z3:Nat)(w h:Int)(a:List Bool)(p:Int)(ss:List (Int×Int))(rr:List (List Int))(M:List Int)(k:Nat):Prop :=
 (((ar (.cells o3 z3 (M.flatMap ai)))/\True)/\(∀H':Heap,H'.length=6->(H'[4]?=some (.cells o3 z3 (M.flatMap ai):ab)/\True)->ad prog 85 [slQ 4 2 k] H' [] (Is (slQ 6 1 k) (H' ++ [(kl7 M k)])))/\((ar (.cells true 1 ((M.take k).flatMap ai)))/\(ar (.cells true 0 kld))/\(ar (.cells true 0 (kl4 w h a p ss rr)))/\klb o1 z1 a o2 z2 ss rr)/\(∀H':Heap,H'.length=7->(H'[6]?=some (kl7 M k)/\H'[5]?=some (.cells true 0 kld:ab)/\H'[2]?=some (.cells true 0 (kl4 w h a p ss rr):ab)/\kl9 H' o1 z1 a o2 z2 ss rr)->ad prog 226 [slQ 6 1 k,nI ((k:Nat):Int),.func (.func 166) #[] #[.pointer (some ⟨5,0,none⟩)]] H' [6] (Is (.tuple #[]) (List.set H' 6 (.cells true 1 ((kl1 ss M k).flatMap ai):ab))))/\(true=true/\(0<=List.length (kl1 ss M k))/\(true=true/\((nI 0:Value)=nI ((0:Nat):Int)/\kl5 k)/\((some (.map (bD []):ab)=some (.map (bD (hE (agI p ss rr) (kl1 ss M k) 0)):ab)/\aj 8 (.map (bD (hE (agI p ss rr) (kl1 ss M k) 0)):ab)=true)/\True)/\klc)/\(∀J:Nat,true=true)/\∀J:Nat,(J<=List.length (kl1 ss M k))->(((decide (((J:Int):Int)<((k:Nat):Int)))=true->(((0:Int)<=(J:Int)/\((J:Int):Int)<((k:Nat):Int))/\(((kl1 ss M k).flatMap ai)[(0+Int.toNat (J:Int)*1)]?=some (nI ((kl1 ss M k).getD J 0)))/\(ix prog 3 (nI ((kl1 ss M k).getD J 0)) (nI 1) (bD (hE (agI p ss rr) (kl1 ss M k) J))=some (bD (eJ ((kl1 ss M k).getD J 0) 1 (hE (agI p ss rr) (kl1 ss M k) J))))/\(((true=false∨1=0∨1=1)/\(J:Int).toNat<=k)/\((0:Int)<=(J:Int)/\((J:Int):Int)<=((k:Nat):Int))/\0<=(J:Int).toNat)/\(slQ 6 2 ((J:Int).toNat-0):Value)=slQ 6 2 J/\(true=true/\(0<=J)/\(true=true/\((nI 0:Value)=nI ((0:Nat):Int)/\kl3 k J ss M)/\((some (.map (bD (eJ ((kl1 ss M k).getD J 0) 1 (hE (agI p ss rr) (kl1 ss M k) J))):ab)=some (.map (bD (hEJ (agI p ss rr) (kl1 ss M k) J 0)):ab)/\aj 8 (.map (bD (hEJ (agI p ss rr) (kl1 ss M k) J 0)):ab)=true)/\True)/\klc)/\(∀U:Nat,true=true)/\∀U:Nat,(U<=J)->(((decide (((U:Int):Int)<(J:Int)))=true->(((0:Int)<=(U:Int)/\((U:Int):Int)<(J:Int))/\(((kl1 ss M k).flatMap ai)[(0+Int.toNat (U:Int)*1)]?=some (nI ((kl1 ss M k).getD U 0)))/\((ar (.cells true 0 (kl4 w h a p ss rr)))/\klb o1 z1 a o2 z2 ss rr)/\(∀H':Heap,H'.length=8->(H'[2]?=some (.cells true 0 (kl4 w h a p ss rr):ab)/\kl9 H' o1 z1 a o2 z2 ss rr)->ad prog 87 [.pointer (some ⟨2,0,none⟩),nI ((kl1 ss M k).getD U 0),nI ((kl1 ss M k).getD J 0)] H' [] (Is (.bool (agI p ss rr ((kl1 ss M k).getD U 0) ((kl1 ss M k).getD J 0))) H'))/\((agI p ss rr ((kl1 ss M k).getD U 0) ((kl1 ss M k).getD J 0))=true->((dR prog 3 (nI 0) (nI ((kl1 ss M k).getD J 0)) false (bD (hEJ (agI p ss rr) (kl1 ss M k) J U))=some (nI (cS ((kl1 ss M k).getD J 0) 0 (hEJ (agI p ss rr) (kl1 ss M k) J U))))/\(dR prog 3 (nI 0) (nI ((kl1 ss M k).getD U 0)) false (bD (hEJ (agI p ss rr) (kl1 ss M k) J U))=some (nI (kl6 ss M k U p rr J)))/\((nI (IntKind.wrap .i64 ((kl6 ss M k U p rr J)+1)):Value)=nI ((kl6 ss M k U p rr J)+1)/\∃i_2:Int,(nI (if (((kl6 ss M k U p rr J)+1):Int) > (cS ((kl1 ss M k).getD J 0) 0 (hEJ (agI p ss rr) (kl1 ss M k) J U)) then (((kl6 ss M k U p rr J)+1):Int) else (cS ((kl1 ss M k).getD J 0) 0 (hEJ (agI p ss rr) (kl1 ss M k) J U))):Value)=nI i_2/\(ix prog 3 (nI ((kl1 ss M k).getD J 0)) (nI i_2) (bD (hEJ (agI p ss rr) (kl1 ss M k) J U))=some (bD (eJ ((kl1 ss M k).getD J 0) i_2 (hEJ (agI p ss rr) (kl1 ss M k) J U))))/\((nI (IntKind.wrap .i64 ((U:Int)+1)):Value)=nI ((U:Int)+1)/\∃bM:Nat,(bM<=J)/\(J-bM)<(J-U)/\true=true/\((nI ((U:Int)+1):Value)=nI (bM:Int)/\kl3 k J ss M)/\((some (.map (bD (eJ ((kl1 ss M k).getD J 0) i_2 (hEJ (agI p ss rr) (kl1 ss M k) J U))):ab)=some (.map (bD (hEJ (agI p ss rr) (kl1 ss M k) J bM)):ab)/\aj 8 (.map (bD (hEJ (agI p ss rr) (kl1 ss M k) J bM)):ab)=true)/\True)/\klc))))/\((agI p ss rr ((kl1 ss M k).getD U 0) ((kl1 ss M k).getD J 0))=false->((nI (IntKind.wrap .i64 ((U:Int)+1)):Value)=nI ((U:Int)+1)/\∃ax:Nat,(ax<=J)/\(J-ax)<(J-U)/\true=true/\((nI ((U:Int)+1):Value)=nI (ax:Int)/\kl3 k J ss M)/\((some (.map (bD (hEJ (agI p ss rr) (kl1 ss M k) J U)):ab)=some (.map (bD (hEJ (agI p ss rr) (kl1 ss M k) J ax)):ab)/\aj 8 (.map (bD (hEJ (agI p ss rr) (kl1 ss M k) J ax)):ab)=true)/\True)/\klc))))/\((decide (((U:Int):Int)<(J:Int)))=false->((nI (IntKind.wrap .i64 ((J:Int)+1)):Value)=nI ((J:Int)+1)/\∃ax:Nat,(ax<=List.length (kl1 ss M k))/\(List.length (kl1 ss M k)-ax)<(List.length (kl1 ss M k)-J)/\true=true/\((nI ((J:Int)+1):Value)=nI (ax:Int)/\kl5 k)/\((some (.map (bD (hEJ (agI p ss rr) (kl1 ss M k) J U)):ab)=some (.map (bD (hE (agI p ss rr) (kl1 ss M k) ax)):ab)/\aj 8 (.map (bD (hE (agI p ss rr) (kl1 ss M k) ax)):ab)=true)/\True)/\klc))))))/\((decide (((J:Int):Int)<((k:Nat):Int)))=false->(true=true/\wk (.map (some 7):Value) (rn (sg 5 [(5,7)]) 3 (.map (some 5):Value))/\(some (.map (bD (hE (agI p ss rr) (kl1 ss M k) J)):ab)=some (.map (bD (kl2 p ss rr M k)):ab)/\aj 5 (.map (bD (kl2 p ss rr M k)):ab)=true)/\True)))))
abbrev kle(k:Nat):List Value:=[.pointer (some ⟨2,0,none⟩),slQ 4 2 k]
abbrev kl8(o1:Bool)(z1:Nat)(a:List Bool)(o2:Bool)(z2:Nat)(ss:List (Int×Int))(w h p:Int)(rr:List (List Int))(o3:Bool)(z3:Nat)(M:List Int):=aW [.cells o1 z1 (a.flatMap af),.cells o2 z2 (ss.flatMap spC),.cells true 0 (kl4 w h a p ss rr),.cells true 1 (inL rr),.cells o3 z3 (M.flatMap ai)]
abbrev kl0(qn0 qn1:Nat):Hint:=.go 0 (.slot qn0 (nI ((qn1:Int)+1)) (.go 0 (.again [])))
theorem LS(o1 o2:Bool)(z1 z2:Nat)(o3:Bool)(z3:Nat)(w h:Int)(a:List Bool)(p:Int)(ss:List (Int×Int))(rr:List (List Int))(M:List Int)(k:Nat):vF prog msk (dm 0) 100000 true 40 true 106 (kle k) (kl8 o1 z1 a o2 z2 ss w h p rr o3 z3 M) (some [])
 (.go 2 (.ans [(4,.cells o3 z3 (M.flatMap ai))] (slQ 6 1 k) [.cells true 1 ((M.take k).flatMap ai)] (.go 2 (.into (some [5,6]) (.go 3 (.mn [(6,.cells true 1 ((M.take k).flatMap ai)),(5,.cells true 0 kld),(2,.cells true 0 (kl4 w h a p ss rr)),(0,.cells o1 z1 (a.flatMap af)),(1,.cells o2 z2 (ss.flatMap spC)),(3,.cells true 1 (inL rr))] (.tuple #[]) [(6,.cells true 1 ((kl1 ss M k).flatMap ai))] [] (.keep (.go 4 (.inv 3 (Nat) (0) [] [7] (fun J=>[(19,nI (J:Int)),(2,.pointer (some ⟨5,0,none⟩)),(4,.map none),(5,slQ 6 1 k),(6,.map (some 7)),(17,slQ 6 1 k),(18,nI ((k:Nat):Int))]) (fun J=>[(7,true,.map (bD (hE (agI p ss rr) (kl1 ss M k) J)))]) (fun J=>[]) (fun J=>[]) (fun J=>(J<=List.length (kl1 ss M k))) (fun J=>(List.length (kl1 ss M k)-J)) (fun J => .go 0 (.fork (.go 0 (.need (.val (nI ((kl1 ss M k).getD J 0)) (.go 3 (.vp (bD (eJ ((kl1 ss M k).getD J 0) 1 (hE (agI p ss rr) (kl1 ss M k) J))) (.go 1 (.need (.slot 28 (slQ 6 2 J) (.go 1 (.inv 3 (Nat) (0) [] [7] (fun U=>[(30,nI (U:Int)),(18,nI ((k:Nat):Int)),(17,slQ 6 1 k),(6,.map (some 7)),(5,slQ 6 1 k),(4,.map none),(2,.pointer (some ⟨5,0,none⟩)),(19,nI (J:Int)),(7,nI (J:Int)),(8,nI ((kl1 ss M k).getD J 0)),(28,slQ 6 2 J),(29,nI (J:Int))]) (fun U=>[(7,true,.map (bD (hEJ (agI p ss rr) (kl1 ss M k) J U)))]) (fun U=>[]) (fun U=>[]) (fun U=>(U<=J)) (fun U=>(J-U)) (fun U => .go 0 (.fork (.need (.val (nI ((kl1 ss M k).getD U 0)) (.go 3 (.ans [(2,.cells true 0 (kl4 w h a p ss rr)),(0,.cells o1 z1 (a.flatMap af)),(1,.cells o2 z2 (ss.flatMap spC)),(3,.cells true 1 (inL rr))] (.bool (agI p ss rr ((kl1 ss M k).getD U 0) ((kl1 ss M k).getD J 0))) [] (.fork (.go 3 (.val (nI (cS ((kl1 ss M k).getD J 0) 0 (hEJ (agI p ss rr) (kl1 ss M k) J U))) (.go 1 (.val (nI (kl6 ss M k U p rr J)) (.go 0 (.slot 46 (nI ((kl6 ss M k U p rr J)+1)) (.go 0 (.bind Int (fun i_2 => .slot 47 (nI i_2) (.vp (bD (eJ ((kl1 ss M k).getD J 0) i_2 (hEJ (agI p ss rr) (kl1 ss M k) J U))) (kl0 48 U))))))))))) (kl0 48 U)))))) (kl0 49 J))))))))))))) (.go 1 (.again [(5,7)])))))))))))))
 (ca ((kl8 o1 z1 a o2 z2 ss w h p rr o3 z3 M):HT).n 3 (.map (some 5)) [(true,.map (bD (kl2 p ss rr M k)))])=Es o1 o2 z1 z2 o3 z3 w h a p ss rr M k:=by kernel_rfl
abbrev kla:Prop:=(nI 0:Value)=nI 0/\(.pointer (some ⟨6,0,none⟩):Value) = .pointer (some ⟨6,0,none⟩)/\True
def yo(o1 o2:Bool)(z1 z2:Nat)(o3:Bool)(z3:Nat)(w h:Int)(a:List Bool)(p:Int)(ss:List (Int×Int))(rr:List (List Int))(M:List Int)(k:Nat):Prop :=
 (((ar (.cells true 0 (kl4 w h a p ss rr)))/\(ar (.cells o3 z3 (M.flatMap ai)))/\klb o1 z1 a o2 z2 ss rr)/\(∀H':Heap,H'.length=5->(H'[2]?=some (.cells true 0 (kl4 w h a p ss rr):ab)/\H'[4]?=some (.cells o3 z3 (M.flatMap ai):ab)/\kl9 H' o1 z1 a o2 z2 ss rr)->ad prog 106 (kle k) H' [] (Is (.map (some 5)) (H' ++ [(.map (bD (kl2 p ss rr M k)):ab)])))/\(true=true/\(iE (kl2 p ss rr M k).length ([]:List Nat))/\(true=true/\((nI 0:Value)=nI (maxS (kl2 p ss rr M k) ([]:List Nat))/\kla)/\((some (.iter 5 (bD (kl2 p ss rr M k)).length []:ab)=some (.iter 5 (bD (kl2 p ss rr M k)).length ([]:List Nat):ab)/\aj 7 (.iter 5 (bD (kl2 p ss rr M k)).length ([]:List Nat):ab)=true)/\True)/\klc)/\(∀x1:List Nat,true=true)/\∀x1:List Nat,(iE (kl2 p ss rr M k).length x1)->((List.length (bD (kl2 p ss rr M k))=(bD (kl2 p ss rr M k)).length)/\(∀J:Nat,J<(bD (kl2 p ss rr M k)).length->J ∉ x1->((List.length (bD (kl2 p ss rr M k))=(bD (kl2 p ss rr M k)).length)/\(gx (bD (kl2 p ss rr M k)) (x1 ++ [J])=some (.tuple #[nI ((kl2 p ss rr M k).getD J (0,0)).1,nI ((kl2 p ss rr M k).getD J (0,0)).2]))/\∃i_1:Int,(nI (if (((kl2 p ss rr M k).getD J (0,0)).2:Int) > (maxS (kl2 p ss rr M k) x1) then (((kl2 p ss rr M k).getD J (0,0)).2:Int) else (maxS (kl2 p ss rr M k) x1)):Value)=nI i_1/\∃x1':List Nat,(iE (kl2 p ss rr M k).length x1')/\(List.length (kl2 p ss rr M k)-List.length x1')<(List.length (kl2 p ss rr M k)-List.length x1)/\true=true/\((nI i_1:Value)=nI (maxS (kl2 p ss rr M k) x1')/\kla)/\((some (.iter 5 (bD (kl2 p ss rr M k)).length (x1 ++ [J]):ab)=some (.iter 5 (bD (kl2 p ss rr M k)).length x1':ab)/\aj 7 (.iter 5 (bD (kl2 p ss rr M k)).length x1':ab)=true)/\True)/\klc))/\((∀J:Nat,J<(bD (kl2 p ss rr M k)).length->J∈x1)->(true=true/\wk (nI (maxS (kl2 p ss rr M k) x1):Value) (rn (sg 5 []) 3 (nI (mst (agI p ss rr) (kyI ss) (M.take k)):Value))/\True)))))
theorem Kb(o1 o2:Bool)(z1 z2:Nat)(o3:Bool)(z3:Nat)(w h:Int)(a:List Bool)(p:Int)(ss:List (Int×Int))(rr:List (List Int))(M:List Int)(k:Nat):vF prog msk (dm 0) 100000 true 40 true 83 (kle k) (kl8 o1 z1 a o2 z2 ss w h p rr o3 z3 M) (some [])
 (.go 3 (.ans [(2,.cells true 0 (kl4 w h a p ss rr)),(4,.cells o3 z3 (M.flatMap ai)),(0,.cells o1 z1 (a.flatMap af)),(1,.cells o2 z2 (ss.flatMap spC)),(3,.cells true 1 (inL rr))] (.map (some 5)) [.map (bD (kl2 p ss rr M k))] (.go 0 (.inv 3 (List Nat) (([]:List Nat)) [] [6] (fun x1=>[(5,nI (maxS (kl2 p ss rr M k) x1)),(4,nI 0),(11,.pointer (some ⟨6,0,none⟩))]) (fun x1=>[(6,true,.iter 5 (bD (kl2 p ss rr M k)).length x1)]) (fun x1=>[]) (fun x1=>[]) (fun x1=>(iE (kl2 p ss rr M k).length x1)) (fun x1=>(List.length (kl2 p ss rr M k)-List.length x1)) (fun x1 => .nxt (fun J => .go 1 (.val (.tuple #[nI ((kl2 p ss rr M k).getD J (0,0)).1,nI ((kl2 p ss rr M k).getD J (0,0)).2]) (.go 4 (.bind Int (fun i_1 => .slot 18 (nI i_1) (.go 0 (.again []))))))) (.go 3 (.again [])))))))
 (ca ((kl8 o1 z1 a o2 z2 ss w h p rr o3 z3 M):HT).n 3 (nI (mst (agI p ss rr) (kyI ss) (M.take k))) [])=yo o1 o2 z1 z2 o3 z3 w h a p ss rr M k:=by kernel_rfl
theorem Bw{id o l c:Nat}(hp:0<l):wk (.slice (some ⟨id,o,some 2⟩) l c) (.slice (some ⟨id,o,none⟩) l c):=by
 intro Y v hv
 cases hv with
 |aS=>omega
 |bp h _ hl hc ho=>exact .slice h hl hc ho
theorem Ch{M:List Int}:∀v∈M.flatMap ai,cO v=true:=by
 intro v hv
 obtain ⟨x,_,hx⟩:=List.mem_flatMap.1 hv
 rw[List.mem_singleton.1 hx];rfl
theorem BL:∀(M:List Int) (k:Nat),(M.flatMap ai).take k=(M.take k).flatMap ai
 | [],k=>by simp
 |a :: M,0=>rfl
 |a :: M,k+1=>by rw[List.flatMap_cons,List.take_succ_cons,List.flatMap_cons,<- BL M k];rfl
theorem zL(M:List Int)(k:Nat)(h0:0<k)(hk:k<=M.length)(hM:M.length<=1000){L:Nat}(hL:H.length=L){i:Nat}{o:Bool}{z:Nat}(e:H[i]?=some (.cells o z (M.flatMap ai))) :
  ad prog 85 [slQ i 2 k] H [] (Is (slQ L 1 k) (H ++ [.cells true 1 ((M.take k).flatMap ai)])):=by
 subst hL
 refine ad.wkA (args2:=[.slice (some ⟨i,0,none⟩) k k]) (HF (fun i=>slQ i 1 k) (Eq.mpr (MU M k) ?_) (am 0 M) (fun n=>am n _) rfl rfl (fun _=>rfl) e rfl) (ak (Bw h0) ac)
 delta LD kl7
 refine ⟨fun h=>absurd h (by omega),fun h=>⟨⟨by omega,h,⟨Nat.le_refl _,Nat.zero_le _⟩,⟨Nat.le_refl _,by rw[aP bg];omega⟩,?_⟩,rfl,rfl,?_,⟨?_,am _ _⟩,trivial⟩⟩
 ·rw[List.drop_zero,Nat.mul_one,BL,List.all_eq_true]
  exact Ch
 ·rw[Nat.zero_add];exact iq h0
 ·rw[show List.take (k*1) (List.drop 0 (M.flatMap ai))=(M.take k).flatMap ai by rw[List.drop_zero,Nat.mul_one,BL]];rfl
theorem KZ(a b:Int):cr prog Op.maxDepth 3 (.int .i64 a) (.int .i64 b)=some (decide (a=b)):=by
 show some (a == b)=_
 congr 1
theorem eqI(a:Int):kV (.int .i64 a) (.int .i64 a)=true:=by show (a == a)=true;exact beq_self_eq_true a
theorem ze(F:List (Int×Int))(x:Int):dR prog 3 (.int .i64 0) (.int .i64 x) false (bD F)=some (.int .i64 (cS x 0 F)) :=
 xd (key:=fun k:Int => .int .i64 k) (val:=fun v:Int => .int .i64 v) KZ x 0 rfl false F
theorem KM(F:List (Int×Int))(x v:Int):ix prog 3 (.int .i64 x) (.int .i64 v) (bD F)=some (bD (eJ x v F)) :=
 BX (key:=fun k:Int => .int .i64 k) (val:=fun v:Int => .int .i64 v) KZ eqI x v F
theorem fQ(F:List (Int×Int))(n:Nat):aj n (.map (bD F))=true:=by
 show (bD F).all _=true
 unfold bD fy
 rw[List.all_map,List.all_eq_true]
 intro m _;rfl
theorem CB(F:List (Int×Int))(σ:Nat->Option Nat):rno σ 3 (.map (bD F)) = .map (bD F):=by
 show ab.map ((bD F).map _)=_
 congr 1
 unfold bD fy
 simp only[List.map_map]
 exact List.map_congr_left fun m _=>rfl
theorem Fl(F:List (Int×Int)):aZ 3 (.map (bD F))=true:=by
 show (bD F).all _=true
 unfold bD fy
 rw[List.all_map,List.all_eq_true]
 intro m _;rfl
theorem lY(F:List (Int×Int)):(bD F).length=F.length:=wp ..
theorem AA(ss:List (Int×Int))(L:List Int):(isr (kyI ss) L L.length).Perm L:=kB _ _
theorem I8{o3:Bool}{z3:Nat}{rr:List (List Int)}{M:List Int}{k:Nat}(t:ej w h a p ss)(rk:dZ a ss rr)(h0:0<k)(hk:k<=M.length)(hM:M.length<=1000)(h19:k<=19)(hin:InS ss.length (M.take k))(hnd:(M.take k).Nodup):Es o1 o2 z1 z2 o3 z3 w h a p ss rr M k:=by
 have hl:(M.take k).length=k:=take_len hk
 have hp:=AA ss (M.take k)
 have hsl:(isr (kyI ss) (M.take k) (M.take k).length).length=k:=by rw[fV,hl]
 have hsn:(isr (kyI ss) (M.take k) (M.take k).length).Nodup:=hp.nodup_iff.2 hnd
 have hsi:InS ss.length (isr (kyI ss) (M.take k) (M.take k).length):=fun v hv=>hin v (hp.mem_iff.1 hv)
 delta Es kl7 kld kl4 klb kl9 kl1 kl5 klc kl3 kl6 kl2
 refine ⟨⟨rfl,trivial⟩,fun H' hl' g=>zL M k h0 hk hM hl' g.1,⟨rfl,rfl,rfl,rfl,rfl,rfl,trivial⟩,fun H' hl' g =>?_,?_⟩
 ·have key:=K3 (M:=M.take k) t hin (by omega) (D:=6) (b:=5) (r:=2) (i:=0) (j:=1) (q:=3) g.1 ⟨by decide,⟨_,_,g.2.1⟩,⟨_,_,g.2.2.1⟩,⟨_,_,g.2.2.2.1⟩,⟨_,_,g.2.2.2.2.1⟩,⟨_,_,g.2.2.2.2.2.1⟩⟩
  rw[hl]at key ⊢
  exact key.wkA ⟨dU,aa _,aa _,trivial⟩
 ·generalize hS:isr (kyI ss) (M.take k) (M.take k).length=S at *
  refine ⟨rfl,Nat.zero_le _,?_,fun _=>rfl,fun x hx=>⟨fun c =>?_,fun c =>?_⟩⟩
  ·rw[show (hE (agI p ss rr) S 0)=[] from rfl]
   repeat' first|exact fQ _ _|exact rfl|exact aa _|exact ac|apply And.intro
  ·have hx1:x<S.length:=by have:=av c;omega
   have hSx:=hsi.at hx1
   refine ⟨⟨by omega,by omega⟩,cL hx1 (by omega),KM _ _ _,⟨⟨.inr (.inr rfl),by omega⟩,⟨by omega,by omega⟩,by omega⟩,?_,rfl,Nat.zero_le _,?_,fun _=>rfl,fun y hy=>⟨fun d =>?_,fun d =>?_⟩⟩
   ·rw[Nat.sub_zero,Int.toNat_natCast]
   ·rw[Ju hsn hx1]
    repeat' first|exact fQ _ _|exact rfl|exact aa _|exact ac|apply And.intro
   ·have hy1:y<x:=by have:=av d;omega
    have hSy:=hsi.at (show y<S.length by omega)
    have hb:=Jo (agI p ss rr) S y
    refine ⟨⟨by omega,by omega⟩,cL (by omega) (by omega),⟨rfl,rfl,rfl,rfl,trivial⟩,fun H' _ g=>FO t rk hSy hSx ⟨_,_,g.1⟩ ⟨_,_,g.2.1⟩ ⟨_,_,g.2.2.1⟩ ⟨_,_,g.2.2.2.1⟩,fun e =>?_,fun e =>?_⟩
    ·have v1:=Lk hy1 e
     rw[zX hsn hx1,zY hsn hx1 hy1]
     refine ⟨by rw[<- zX (y:=y) hsn hx1 (agr:=agI p ss rr)];exact ze _ _,by rw[<- zY (z:=y) hsn hx1 hy1 (agr:=agI p ss rr)];exact ze _ _,aG (by omega),mxI (hgV (agI p ss rr) S (hgs (agI p ss rr) S x) x y) (hgt (agI p ss rr) S y+1),rfl,KM _ _ _,aG (by omega),y+1,by omega,by omega,?_⟩
     rw[Ge hsn hx1 (v:=mxI (hgV (agI p ss rr) S (hgs (agI p ss rr) S x) x y) (hgt (agI p ss rr) S y+1)) v1]
     repeat' first|exact fQ _ _|exact rfl|exact aa _|exact ac|apply And.intro
    ·have v0:=Ll (agr:=agI p ss rr) (s:=S) (x:=x) (y:=y) (by rw[e];decide)
     have e0:hEJ (agI p ss rr) S x (y+1)=hEJ (agI p ss rr) S x y:=by unfold hEJ;rw[v0]
     refine ⟨aG (by omega),y+1,by omega,by omega,?_⟩
     rw[e0]
     repeat' first|exact fQ _ _|exact rfl|exact aa _|exact ac|apply And.intro
   ·obtain rfl:y=x:=by have:=aA d;omega
    refine ⟨aG (by omega),y+1,by omega,by omega,?_⟩
    rw[Gf]
    repeat' first|exact fQ _ _|exact rfl|exact aa _|exact ac|apply And.intro
  ·obtain rfl:x=S.length:=by have:=aA c;omega
   repeat' first|exact fQ _ _|exact rfl|exact aa _|exact ac|apply And.intro
theorem zS(o1 o2:Bool)(z1 z2:Nat)(w h:Int)(a:List Bool)(p:Int)(ss:List (Int×Int))(rr:List (List Int))(o3:Bool)(z3:Nat)(M:List Int):[ab.cells o1 z1 (a.flatMap af),.cells o2 z2 (ss.flatMap spC),.cells true 0 (iF w h a p ss rr 0 1 3),.cells true 1 (inL rr),.cells o3 z3 (M.flatMap ai)].all (aZ 3)=true:=by
 show (aZ 3 (.cells o1 z1 (a.flatMap af))&&(aZ 3 (.cells o2 z2 (ss.flatMap spC))&&(aZ 3 (.cells true 0 (iF w h a p ss rr 0 1 3))&&(aZ 3 (.cells true 1 (inL rr))&&(aZ 3 (.cells o3 z3 (M.flatMap ai))&&true)))))=true
 rw[fB,jv,tW,xI];rfl
theorem rq.Ha{rr:List (List Int)}{i j r q l:Nat}{o3:Bool}{z3:Nat}{M:List Int}(k:rq H o1 o2 z1 z2 w h a p ss rr i j r q)(hl:H[l]?=some (.cells o3 z3 (M.flatMap ai))) :
  hY H (sgI [i,j,r,q,l]) [i,j,r,q,l] [.cells o1 z1 (a.flatMap af),.cells o2 z2 (ss.flatMap spC),.cells true 0 (iF w h a p ss rr 0 1 3),.cells true 1 (inL rr),.cells o3 z3 (M.flatMap ai)] :=
 ⟨by rw[dB];exact k.2.1,by rw[gz];exact k.2.2.1,k.2.2.2.1,by rw[tX];exact k.2.2.2.2,by rw[mP];exact hl,trivial⟩
theorem Hj{rr:List (List Int)}{M:List Int}{k:Nat}(t:ej w h a p ss)(rk:dZ a ss rr)(h0:0<k)(hk:k<=M.length)(hM:M.length<=1000)(h19:k<=19)(hin:InS ss.length (M.take k))(hnd:(M.take k).Nodup){z1 z2 i j r q l:Nat}{o3:Bool}{z3:Nat}(kk:rq H o1 o2 z1 z2 w h a p ss rr i j r q)(hl:H[l]?=some (.cells o3 z3 (M.flatMap ai)))(hne:l ∉ [i,j,r,q]) :
  ad prog 106 [.pointer (some ⟨r,0,none⟩),slQ l 2 k] H [] (Is (.map (some H.length)) (H ++ [.map (bD (hE (agI p ss rr) (isr (kyI ss) (M.take k) (M.take k).length) (isr (kyI ss) (M.take k) (M.take k).length).length))])):=by
 have Ji:[i,j,r,q,l].Nodup:=by
  have:=kk.1
  simp only[List.nodup_cons,List.mem_cons,List.not_mem_nil,or_false,not_or,not_false_eq_true,List.nodup_nil,and_true]at this hne ⊢
  omega
 have key:=vcK iw mixed dx 40 (v:=.map (some 5)) (new:=[(true,.map (bD (hE (agI p ss rr) (isr (kyI ss) (M.take k) (M.take k).length) (isr (kyI ss) (M.take k) (M.take k).length).length)))]) (Eq.mpr (LS o1 o2 z1 z2 o3 z3 w h a p ss rr M k) (I8 t rk h0 hk hM h19 hin hnd)) (zS ..) rfl
  (by show ((aZ 3 _&&true)&&true)=true;rw[Fl];rfl) Ji (kk.Ha hl)
 rw[show ([(true,ab.map (bD (hE (agI p ss rr) (isr (kyI ss) (M.take k) (M.take k).length) (isr (kyI ss) (M.take k) (M.take k).length).length)))]:List (Bool×ab)).map (·.2)=[ab.map (bD (hE (agI p ss rr) (isr (kyI ss) (M.take k) (M.take k).length) (isr (kyI ss) (M.take k) (M.take k).length).length))] from rfl,List.map_singleton,CB]at key
 exact key
theorem F5{o3:Bool}{z3:Nat}{rr:List (List Int)}{M:List Int}{k:Nat}(t:ej w h a p ss)(rk:dZ a ss rr)(h0:0<k)(hk:k<=M.length)(hM:M.length<=1000)(h19:k<=19)(hin:InS ss.length (M.take k))(hnd:(M.take k).Nodup):yo o1 o2 z1 z2 o3 z3 w h a p ss rr M k:=by
 delta yo kl4 klb kl9 kle kl1 kl2 kla klc
 refine ⟨⟨rfl,rfl,rfl,rfl,rfl,trivial⟩,fun H' hl' g =>?_,?_⟩
 ·have key:=Hj t rk h0 hk hM h19 hin hnd (i:=0) (j:=1) (r:=2) (q:=3) (l:=4) ⟨by decide,g.2.2.1,g.2.2.2.1,g.1,g.2.2.2.2.1⟩ g.2.1 (by decide)
  rw[hl']at key;exact key
 ·have hmx:CA (hE (agI p ss rr) (isr (kyI ss) (M.take k) (M.take k).length) (isr (kyI ss) (M.take k) (M.take k).length).length)=mst (agI p ss rr) (kyI ss) (M.take k):=Lu _ _
  generalize (hE (agI p ss rr) (isr (kyI ss) (M.take k) (M.take k).length) (isr (kyI ss) (M.take k) (M.take k).length).length)=E at *
  refine ⟨rfl,yQ _,?_,fun _=>rfl,fun x hx=>⟨rfl,fun i hi hn=>⟨rfl,MM _ (by rwa [lY]at hi) x,_,rfl,x ++ [i],oG hx (by rwa [lY]at hi) hn,wV hx (by rwa [lY]at hi) hn,rfl,?_⟩,fun hall =>?_⟩⟩
  ·repeat' first|exact rfl|exact aa _|exact ac|apply And.intro
  ·rw[AS]
   repeat' first|exact rfl|exact aa _|exact ac|apply And.intro
  ·rw[Cz hx (fun i hi=>hall i (by rwa [lY])) hmx]
   repeat' first|exact rfl|exact aa _|exact ac|apply And.intro
theorem Dh{rr:List (List Int)}{M:List Int}{k:Nat}(t:ej w h a p ss)(rk:dZ a ss rr)(h0:0<k)(hk:k<=M.length)(hM:M.length<=1000)(h19:k<=19)(hin:InS ss.length (M.take k))(hnd:(M.take k).Nodup){z1 z2 i j r q l:Nat}{o3:Bool}{z3:Nat}(kk:rq H o1 o2 z1 z2 w h a p ss rr i j r q)(hl:H[l]?=some (.cells o3 z3 (M.flatMap ai)))(hne:l ∉ [i,j,r,q]) :
  ad prog 83 [.pointer (some ⟨r,0,none⟩),slQ l 2 k] H [] (Is (.int .i64 (mst (agI p ss rr) (kyI ss) (M.take k))) H):=by
 have Ji:[i,j,r,q,l].Nodup:=by
  have:=kk.1
  simp only[List.nodup_cons,List.mem_cons,List.not_mem_nil,or_false,not_or,not_false_eq_true,List.nodup_nil,and_true]at this hne ⊢
  omega
 have key:=bR (fun _ => .int .i64 (mst (agI p ss rr) (kyI ss) (M.take k))) (new:=[]) (Eq.mpr (Kb o1 o2 z1 z2 o3 z3 w h a p ss rr M k) (F5 t rk h0 hk hM h19 hin hnd)) (zS ..) rfl trivial Ji (kk.Ha hl) (fun j=>rfl) (args':=[.pointer (some ⟨r,0,none⟩),slQ l 2 k]) rfl
 rwa [List.append_nil]at key
end
end Go.Proofs.YtbgfjemppjhmjaaGreat
