/- Drift: the moves of a flow: what they answer. No condition. -/
import Derived.Test.YtkkgnalgmebfjaaGreatGK27xD3g
import Derived.Shelf.Sort.Plain
import Derived.Ground.Names2Prog
import Derived.Test.YtkkgnalgmebfjaaGreatChecked
import Derived.Sort.Grow
import Derived.Deep.Draws
open Go Go.K
set_option maxRecDepth 1000000
set_option maxHeartbeats 4000000
set_option linter.unusedVariables false
set_option linter.unusedSimpArgs false
namespace Go.Proofs.YtkkgnalgmebfjaaGreat
noncomputable section
attribute [local irreducible] vF
theorem f6{α:Type}{f:α->List Value}{n:Nat}(hf:∀x,(f x).length=n)(xs:List α):0+xs.length*n<=(xs.flatMap f).length:=by rw[aU hf];omega
theorem mc{α:Type}{L M:List α}{x:α}{id:Nat}(hM:M=L ++ [x]):wk (.slice (some ⟨id,0,none⟩) (L.length+1) (L.length+1)) (.slice (some ⟨id,0,some 1⟩) M.length M.length):=by
 have:M.length=L.length+1:=by rw[hM,br];rfl
 rw[this];exact bi (by omega)
theorem gZ{α:Type}{f:α->List Value}{n:Nat}(hf:∀x,(f x).length=n){L M:List α}{x:α}{c:List Value}{own:Bool}(hM:M=L ++ [x])(hc:f x=c) :
  (some (ab.cells own n (List.take (L.length*n) (List.drop 0 (L.flatMap f))++List.take (1*n) (List.drop 0 c))):Option ab)=some (.cells own n (M.flatMap f)):=by
 subst hc
 rw[hM,<- jb hf L x rfl,List.drop_zero,List.drop_zero,List.take_of_length_le (l:=f x) (by rw[hf];omega),List.take_of_length_le (by rw[aU hf];omega)]
theorem Al{f:FuncId}{args:List Value}{h:Hint}(v:Nat->Value){z:Nat}{cs:List Value}
    (hc:vF prog msk (dm 0) 100000 true 40 true f args ⟨0,.leaf⟩ (some []) h (gu 0 3 (v 0) [(true,.cells true z cs)]))
    (hp:∀n,cs.all (aN n)=true) (h1:dw 3 (v 0)=true) (h2:rn (c8 0) 3 (v 0)=v 0) (h3:∀j,rn (eN 0 j) 3 (v 0)=v j) (ha:∀V,args.map (rn V 3)=args) (H:Heap) :
    am prog f args H [] (Is (v H.length) (H ++ [.cells true z cs])):=by
  have key:=yZ (css:=[]) (v:=v 0) (new:=[(true,.cells true z cs)]) hc (fun c hc=>by cases hc) h1 h2
    (by show ((d8 3 (.cells true z cs) && true) && true) = true
        rw[Bool.and_true,Bool.and_true];exact (kc (V:=fun _=>none) (d:=0) (hp 0)).2)
    (congrArg (fun q=>[ab.cells true z q]) (kc (d:=0) (hp 0)).1) (H:=H) [] rfl (fun k c hk=>by cases hk)
  have e2:(List.map (fun x:Bool×ab=>x.2) [(true,ab.cells true z cs)]).map (rno (eN (0+([]:List (List Value)).length) H.length) 3)=[.cells true z cs] :=
    congrArg (fun q=>[ab.cells true z q]) (kc (d:=0) (hp 0)).1
  rw[e2,show rn (eN (0+([]:List (List Value)).length) H.length) 3 (v 0)=v H.length from h3 _,ha]at key
  exact key
theorem gJ(m:Move):(moveC m).length=2:=rfl
theorem ee(n:Nat)(l:List Move):(l.flatMap moveC).all (aN n)=true:=dt (fun _=>rfl) l
theorem oS(f:Flow)(j n:Nat):(da f j n).length=n:=cp _ _
theorem mV(f:Flow):∀j,(c9 f j).length=j*nxF f
 |0=>by simp[c9]
 |j+1=>by rw[c9,br,mV f j,oS,Nat.add_mul,Nat.one_mul]
theorem tc(f:Flow)(j n:Nat):da f j (n+1)=da f j n ++ [⟨(bU f).dx+(n:Int),(bU f).dy+(j:Int)⟩]:=gC _ _
theorem kA{f:Flow}(hf:bX f):(-2<=(bU f).dx/\(bU f).dx<=(dD f).dx/\(dD f).dx<=2)/\(-2<=(bU f).dy/\(bU f).dy<=(dD f).dy/\(dD f).dy<=2):=by
 obtain ⟨⟨a1,a2,a3⟩,a4,a5,a6⟩:=hf
 unfold bU dD
 dsimp only
 omega
theorem us{f:Flow}(hf:bX f):1<=nxF f/\nxF f<=5/\((nxF f:Nat):Int)=(dD f).dx-(bU f).dx+1:=by
 have:=kA hf
 unfold nxF
 omega
theorem ur{f:Flow}(hf:bX f):1<=nyF f/\nyF f<=5/\((nyF f:Nat):Int)=(dD f).dy-(bU f).dy+1:=by
 have:=kA hf
 unfold nyF
 omega
theorem uu{f:Flow}(hf:bX f){x:Nat}(hx:x<=nyF f):(c9 f x).length<=25:=by
 have h1:=us hf
 have h2:=ur hf
 rw[mV]
 exact Nat.mul_le_mul (show x<=5 by omega) (show nxF f<=5 by omega)
theorem i6{f:Flow}(hf:bX f):1<=(aM f).length/\(aM f).length<=25:=by
 have h1:=us hf
 have h2:=ur hf
 refine ⟨?_,uu hf (Nat.le_refl _)⟩
 unfold aM
 rw[mV]
 exact Nat.mul_le_mul (show 1<=nyF f by omega) (show 1<=nxF f by omega)
theorem Bg(f:Flow)(hf:bX f){H:Heap}{L:Nat}(hL:H.length=L):am prog F.lk [nK f] H [] (Is (.slice (some ⟨L,0,some 1⟩) (aM f).length (aM f).length) (H ++ [.cells true 2 ((aM f).flatMap moveC)])):=by
 subst hL
 refine Al (fun i => .slice (some ⟨i,0,some 1⟩) (aM f).length (aM f).length) (Eq.mpr (B0 f) ?_) (fun n=>ee n _) rfl rfl (fun _=>rfl) (fun _=>rfl) H
 unfold yM
 have eb:=kA hf
 have xb:=us hf
 have yb:=ur hf
 refine ⟨trivial,fun H' _ _=>Co f hf H',rfl,Nat.zero_le _,?_,fun _=>rfl,?_⟩
 ·repeat' first|(exact iEq (by omega))|exact trivial|exact rfl|exact ah _|refine aq ?_|refine aw ?_ ?_|exact aF|exact aJ _ _ _ (.inl rfl)|(exact bi (by omega))|refine aD ?_|refine av ?_|refine aC ?_ ?_ ?_|refine aB ?_ ?_ ?_|refine toMax ?_|refine toMin ?_|refine ⟨rfl,?_⟩|refine ⟨trivial,?_⟩|(refine aG (fun h =>?_) (fun h =>?_))|(refine aE (fun h =>?_) (fun h =>?_))|(refine aI (fun h =>?_) (fun h =>?_))|refine aA ?_|(refine ⟨az (by omega),?_⟩)|(refine And.intro (by omega) ?_)|apply And.intro|(exact iEq (by omega))|(exact az (by omega))
 intro x hx
 refine aG (fun k =>?_) (fun k =>?_)
 ·have hx1:x<nyF f:=by omega
  refine ⟨rfl,Nat.zero_le _,?_,fun _=>rfl,?_⟩
  ·rw[show c9 f x++da f x 0=c9 f x from List.append_nil _]
   repeat' first|(exact iEq (by omega))|exact ee _ _|exact trivial|exact rfl|exact ah _|refine aq ?_|refine aw ?_ ?_|exact aF|exact aJ _ _ _ (.inl rfl)|(exact bi (by omega))|refine aD ?_|refine av ?_|refine aC ?_ ?_ ?_|refine aB ?_ ?_ ?_|refine toMax ?_|refine toMin ?_|refine ⟨rfl,?_⟩|refine ⟨trivial,?_⟩|(refine aG (fun h =>?_) (fun h =>?_))|(refine aE (fun h =>?_) (fun h =>?_))|(refine aI (fun h =>?_) (fun h =>?_))|refine aA ?_|(refine ⟨az (by omega),?_⟩)|(refine And.intro (by omega) ?_)|apply And.intro|(exact iEq (by omega))|(exact az (by omega))
  intro y hy
  have hlen:(c9 f x++da f x y).length<=30:=by
   rw[br,oS]
   have:=uu hf (Nat.le_of_lt hx1)
   omega
  refine aG (fun k2 =>?_) (fun k2 =>?_)
  ·have hy1:y<nxF f:=by omega
   have hM:c9 f x++da f x (y+1)=(c9 f x++da f x y) ++ [⟨(bU f).dx+(y:Int),(bU f).dy+(x:Int)⟩]:=by rw[tc,List.append_assoc]
   repeat' first|(refine ⟨y+1,by omega,by omega,rfl,?_⟩)|exact mc hM|exact gZ gJ hM rfl|exact ee _ _|exact f6 gJ _|exact Nat.le_refl _|exact trivial|exact rfl|exact ah _|refine aq ?_|refine aw ?_ ?_|exact aF|exact aJ _ _ _ (.inl rfl)|(exact bi (by omega))|refine aD ?_|refine av ?_|refine aC ?_ ?_ ?_|refine aB ?_ ?_ ?_|refine toMax ?_|refine toMin ?_|refine ⟨rfl,?_⟩|refine ⟨trivial,?_⟩|(refine aG (fun h =>?_) (fun h =>?_))|(refine aE (fun h =>?_) (fun h =>?_))|(refine aI (fun h =>?_) (fun h =>?_))|refine aA ?_|(refine ⟨az (by omega),?_⟩)|(refine And.intro (by omega) ?_)|apply And.intro|(exact iEq (by omega))|(exact az (by omega))
  ·obtain rfl:y=nxF f:=by omega
   repeat' first|(refine ⟨x+1,by omega,by omega,rfl,?_⟩)|exact ee _ _|exact trivial|exact rfl|exact ah _|refine aq ?_|refine aw ?_ ?_|exact aF|exact aJ _ _ _ (.inl rfl)|(exact bi (by omega))|refine aD ?_|refine av ?_|refine aC ?_ ?_ ?_|refine aB ?_ ?_ ?_|refine toMax ?_|refine toMin ?_|refine ⟨rfl,?_⟩|refine ⟨trivial,?_⟩|(refine aG (fun h =>?_) (fun h =>?_))|(refine aE (fun h =>?_) (fun h =>?_))|(refine aI (fun h =>?_) (fun h =>?_))|refine aA ?_|(refine ⟨az (by omega),?_⟩)|(refine And.intro (by omega) ?_)|apply And.intro|(exact iEq (by omega))|(exact az (by omega))
 ·obtain rfl:x=nyF f:=by omega
  repeat' first|exact ee _ _|exact trivial|exact rfl|exact ah _|refine aq ?_|refine aw ?_ ?_|exact aF|exact aJ _ _ _ (.inl rfl)|(exact bi (by omega))|refine aD ?_|refine av ?_|refine aC ?_ ?_ ?_|refine aB ?_ ?_ ?_|refine toMax ?_|refine toMin ?_|refine ⟨rfl,?_⟩|refine ⟨trivial,?_⟩|(refine aG (fun h =>?_) (fun h =>?_))|(refine aE (fun h =>?_) (fun h =>?_))|(refine aI (fun h =>?_) (fun h =>?_))|refine aA ?_|(refine ⟨az (by omega),?_⟩)|(refine And.intro (by omega) ?_)|apply And.intro|(exact iEq (by omega))|(exact az (by omega))
theorem sf{f:Flow}(h:bX f):cG f=(aM f,0):=if_pos h
theorem ym{f:Flow}(h:¬ bX f):cG f=([],30):=if_neg h
abbrev A4(i:Nat)(r:List Move×Int):Value:=.tuple #[.slice (some ⟨i,0,some 1⟩) r.1.length r.1.length,.int .i64 r.2]
theorem zg{f:Flow}{j n:Nat}(h:(m6 f.x (-2+(n:Int))&&m6 f.y (-2+(j:Int)))=true):bL f j (n+1)=bL f j n ++ [⟨-2+(n:Int),-2+(j:Int)⟩]:=by
 unfold bL;rw[List.range_succ,List.filter_append,List.map_append,List.filter_cons,if_pos h];rfl
theorem zf{f:Flow}{j n:Nat}(h:(m6 f.x (-2+(n:Int))&&m6 f.y (-2+(j:Int)))=false):bL f j (n+1)=bL f j n:=by
 unfold bL;rw[List.range_succ,List.filter_append,List.map_append,List.filter_cons,if_neg (by rw[h];exact Bool.false_ne_true)];simp
deriving instance DecidableEq for Move
def gMv(ax ay:Int)(nx:Nat):Nat->List Move
 |0=>[]
 |j+1=>gMv ax ay nx j++(List.range nx).map fun i:Nat=>(⟨ax+(i:Int),ay+(j:Int)⟩:Move)
def gRv(ax bx ay bz:Int):Nat->List Move
 |0=>[]
 |j+1=>gRv ax bx ay bz j++((List.range 5).filter fun i:Nat=>decide (ax <= -2+(i:Int) /\ -2+(i:Int)<=bx)&&decide (ay <= -2+(j:Int) /\ -2+(j:Int)<=bz)).map fun i:Nat=>(⟨-2+(i:Int),-2+(j:Int)⟩:Move)
theorem Dh:∀i i2 j j2:Fin 5,i<=i2->j<=j2->gRv (-2+(i.val:Int)) (-2+(i2.val:Int)) (-2+(j.val:Int)) (-2+(j2.val:Int)) 5=gMv (-2+(i.val:Int)) (-2+(j.val:Int)) (i2.val-i.val+1) (j2.val-j.val+1):=by decide +kernel
theorem yf(f:Flow):∀j,c9 f j=gMv (bU f).dx (bU f).dy (nxF f) j
 |0=>rfl
 |j+1=>by rw[c9,gMv,yf f j];rfl
theorem uz(s:Span)(c:Int):m6 s c=decide (s.lo / 1000<=c/\c<=(s.hi+999) / 1000):=by
 unfold m6
 rw[<- Bool.decide_and]
 exact decide_eq_decide.2 (by omega)
theorem ye(f:Flow):∀j,b9 f j=gRv (bU f).dx (dD f).dx (bU f).dy (dD f).dy j
 |0=>rfl
 |j+1=>by
  rw[b9,gRv,ye f j]
  unfold bL
  congr 2
  exact congrArg (fun p=>List.filter p (List.range 5)) (funext fun i=>by rw[uz,uz];rfl)
theorem Cf{f:Flow}(hf:bX f):b9 f 5=aM f:=by
 have eb:=kA hf
 unfold aM
 rw[ye,yf]
 obtain ⟨i,hi,ei⟩:∃i:Nat,i<5/\(bU f).dx = -2+(i:Int):=⟨Int.toNat ((bU f).dx+2),by omega,by omega⟩
 obtain ⟨i2,hi2,ei2⟩:∃i:Nat,i<5/\(dD f).dx = -2+(i:Int):=⟨Int.toNat ((dD f).dx+2),by omega,by omega⟩
 obtain ⟨j,hj,ej⟩:∃i:Nat,i<5/\(bU f).dy = -2+(i:Int):=⟨Int.toNat ((bU f).dy+2),by omega,by omega⟩
 obtain ⟨j2,hj2,ej2⟩:∃i:Nat,i<5/\(dD f).dy = -2+(i:Int):=⟨Int.toNat ((dD f).dy+2),by omega,by omega⟩
 have hx:nxF f=i2-i+1:=by unfold nxF;omega
 have hy:nyF f=j2-j+1:=by unfold nyF;omega
 rw[hx,hy,ei,ei2,ej,ej2]
 exact Dh ⟨i,hi⟩ ⟨i2,hi2⟩ ⟨j,hj⟩ ⟨j2,hj2⟩ (show i<=i2 by omega) (show j<=j2 by omega)
theorem oI(f:Flow)(j n:Nat):(bL f j n).length<=n:=by
 unfold bL;rw[List.length_map];exact Nat.le_trans (List.length_filter_le _ _) (by rw[List.length_range];exact Nat.le_refl _)
theorem qU(f:Flow):∀j,(b9 f j).length<=j*5
 |0=>by simp[b9]
 |j+1=>by rw[b9,br];have:=qU f j;have:=oI f j 5;omega
theorem Cj(s t:Span)(c d:Int):(m6 s c&&m6 t d)=decide ((1000*c-999<=s.hi/\s.lo<=1000*c+999)/\(1000*d-999<=t.hi/\t.lo<=1000*d+999)):=by
 unfold m6
 rw[Bool.decide_and,Bool.decide_and,Bool.decide_and]
theorem zC(f:Flow){H:Heap}{L:Nat}(hL:H.length=L):am prog F.fD [nK f] H [] (Is (A4 L (cG f)) (H ++ [.cells true 2 ((cG f).1.flatMap moveC)])):=by
 subst hL
 refine Al (fun i=>A4 i (cG f)) (Eq.mpr (Ah f) ?_) (fun n=>ee n _) rfl rfl (fun _=>rfl) (fun _=>rfl) H
 unfold vg
 by_cases h:bX f
 ·rw[sf h,<- Cf h]
  have hf:=h
  obtain ⟨⟨a1,a2,a3⟩,a4,a5,a6⟩:=h
  refine aG (fun k=>by omega) (fun k=>aG (fun k=>by omega) (fun k=>aG (fun k=>by omega) (fun k=>aG (fun k=>by omega) (fun k=>aG (fun k=>by omega) (fun k=>aG (fun k=>by omega) (fun k=>⟨rfl,Nat.zero_le _,?_,fun _=>rfl,?_⟩))))))
  ·repeat' first|exact ee _ _|exact trivial|exact rfl|exact ah _|refine aq ?_|refine aw ?_ ?_|exact aF|exact aJ _ _ _ (.inl rfl)|(exact bi (by omega))|refine aD ?_|refine av ?_|refine aC ?_ ?_ ?_|refine aB ?_ ?_ ?_|refine toMax ?_|refine toMin ?_|refine ⟨rfl,?_⟩|refine ⟨trivial,?_⟩|(refine aG (fun h =>?_) (fun h =>?_))|(refine aE (fun h =>?_) (fun h =>?_))|(refine aI (fun h =>?_) (fun h =>?_))|refine aA ?_|(refine ⟨az (by omega),?_⟩)|(refine And.intro (by omega) ?_)|apply And.intro|(exact iEq (by omega))|(exact az (by omega))
  intro x hx
  have hxl:=qU f x
  refine aG (fun k =>?_) (fun k =>?_)
  ·refine ⟨rfl,Nat.zero_le _,?_,fun _=>rfl,?_⟩
   ·rw[show b9 f x++bL f x 0=b9 f x from List.append_nil _]
    repeat' first|exact ee _ _|exact trivial|exact rfl|exact ah _|refine aq ?_|refine aw ?_ ?_|exact aF|exact aJ _ _ _ (.inl rfl)|(exact bi (by omega))|refine aD ?_|refine av ?_|refine aC ?_ ?_ ?_|refine aB ?_ ?_ ?_|refine toMax ?_|refine toMin ?_|refine ⟨rfl,?_⟩|refine ⟨trivial,?_⟩|(refine aG (fun h =>?_) (fun h =>?_))|(refine aE (fun h =>?_) (fun h =>?_))|(refine aI (fun h =>?_) (fun h =>?_))|refine aA ?_|(refine ⟨az (by omega),?_⟩)|(refine And.intro (by omega) ?_)|apply And.intro|(exact iEq (by omega))|(exact az (by omega))
   intro y hy
   have hlen:(b9 f x++bL f x y).length<=30:=by
    rw[br]
    have:=oI f x y
    omega
   refine aG (fun k2 =>?_) (fun k2 =>?_)
   ·by_cases hb:(1000*(-2+(y:Int))-999<=f.x.hi/\f.x.lo<=1000*(-2+(y:Int))+999)/\(1000*(-2+(x:Int))-999<=f.y.hi/\f.y.lo<=1000*(-2+(x:Int))+999)
    ·have hM:b9 f x++bL f x (y+1)=(b9 f x++bL f x y) ++ [⟨-2+(y:Int),-2+(x:Int)⟩]:=by rw[zg (by rw[Cj];exact decide_eq_true hb),List.append_assoc]
     repeat' first|(refine ⟨y+1,by omega,by omega,rfl,?_⟩)|exact mc hM|exact gZ gJ hM rfl|exact ee _ _|exact f6 gJ _|exact Nat.le_refl _|exact trivial|exact rfl|exact ah _|refine aq ?_|refine aw ?_ ?_|exact aF|exact aJ _ _ _ (.inl rfl)|(exact bi (by omega))|refine aD ?_|refine av ?_|refine aC ?_ ?_ ?_|refine aB ?_ ?_ ?_|refine toMax ?_|refine toMin ?_|refine ⟨rfl,?_⟩|refine ⟨trivial,?_⟩|(refine aG (fun h =>?_) (fun h =>?_))|(refine aE (fun h =>?_) (fun h =>?_))|(refine aI (fun h =>?_) (fun h =>?_))|refine aA ?_|(refine ⟨az (by omega),?_⟩)|(refine And.intro (by omega) ?_)|apply And.intro|(exact iEq (by omega))|(exact az (by omega))|omega
    ·have hM:b9 f x++bL f x (y+1)=b9 f x++bL f x y:=by rw[zf (by rw[Cj];exact decide_eq_false hb)]
     repeat' first|(refine ⟨y+1,by omega,by omega,rfl,?_⟩)|rw[hM]|exact ee _ _|exact trivial|exact rfl|exact ah _|refine aq ?_|refine aw ?_ ?_|exact aF|exact aJ _ _ _ (.inl rfl)|(exact bi (by omega))|refine aD ?_|refine av ?_|refine aC ?_ ?_ ?_|refine aB ?_ ?_ ?_|refine toMax ?_|refine toMin ?_|refine ⟨rfl,?_⟩|refine ⟨trivial,?_⟩|(refine aG (fun h =>?_) (fun h =>?_))|(refine aE (fun h =>?_) (fun h =>?_))|(refine aI (fun h =>?_) (fun h =>?_))|refine aA ?_|(refine ⟨az (by omega),?_⟩)|(refine And.intro (by omega) ?_)|apply And.intro|(exact iEq (by omega))|(exact az (by omega))|omega
   ·obtain rfl:y=5:=by omega
    repeat' first|(refine ⟨x+1,by omega,by omega,rfl,?_⟩)|exact ee _ _|exact trivial|exact rfl|exact ah _|refine aq ?_|refine aw ?_ ?_|exact aF|exact aJ _ _ _ (.inl rfl)|(exact bi (by omega))|refine aD ?_|refine av ?_|refine aC ?_ ?_ ?_|refine aB ?_ ?_ ?_|refine toMax ?_|refine toMin ?_|refine ⟨rfl,?_⟩|refine ⟨trivial,?_⟩|(refine aG (fun h =>?_) (fun h =>?_))|(refine aE (fun h =>?_) (fun h =>?_))|(refine aI (fun h =>?_) (fun h =>?_))|refine aA ?_|(refine ⟨az (by omega),?_⟩)|(refine And.intro (by omega) ?_)|apply And.intro|(exact iEq (by omega))|(exact az (by omega))
  ·obtain rfl:x=5:=by omega
   repeat' first|exact ee _ _|exact trivial|exact rfl|exact ah _|refine aq ?_|refine aw ?_ ?_|exact aF|exact aJ _ _ _ (.inl rfl)|(exact bi (by omega))|refine aD ?_|refine av ?_|refine aC ?_ ?_ ?_|refine aB ?_ ?_ ?_|refine toMax ?_|refine toMin ?_|refine ⟨rfl,?_⟩|refine ⟨trivial,?_⟩|(refine aG (fun h =>?_) (fun h =>?_))|(refine aE (fun h =>?_) (fun h =>?_))|(refine aI (fun h =>?_) (fun h =>?_))|refine aA ?_|(refine ⟨az (by omega),?_⟩)|(refine And.intro (by omega) ?_)|apply And.intro|(exact iEq (by omega))|(exact az (by omega))
 ·rw[ym h]
  unfold bX jD at h
  repeat' first|exact trivial|exact rfl|exact ah _|refine aq ?_|refine aw ?_ ?_|exact aF|exact aJ _ _ _ (.inl rfl)|(exact bi (by omega))|refine aD ?_|refine av ?_|refine aC ?_ ?_ ?_|refine aB ?_ ?_ ?_|refine toMax ?_|refine toMin ?_|refine ⟨rfl,?_⟩|refine ⟨trivial,?_⟩|(refine aG (fun h =>?_) (fun h =>?_))|(refine aE (fun h =>?_) (fun h =>?_))|(refine aI (fun h =>?_) (fun h =>?_))|refine aA ?_|(refine ⟨az (by omega),?_⟩)|(refine And.intro (by omega) ?_)|apply And.intro|(exact iEq (by omega))|(exact az (by omega))|omega
theorem nT{z:Int}:∀l:List Int,z∈comp l ↔ z∈l
 | [] =>Iff.rfl
 | [x] =>Iff.rfl
 |x :: y :: r=>by
  have ih:=nT (z:=z) (y :: r)
  unfold comp
  split
  ·rename_i h;subst h;rw[ih];simp
  ·rw[List.mem_cons,ih,List.mem_cons (b:=x)]
theorem uY:∀{l:List Int},l.Pairwise (· <= ·)->(comp l).Pairwise (· < ·)
 | [],_=>List.Pairwise.nil
 | [x],_=>List.pairwise_singleton _ _
 |x :: y :: r,h=>by
  have h2:=List.pairwise_cons.1 h
  have ih:=uY h2.2
  unfold comp
  split
  ·exact ih
  ·rename_i hne
   refine List.pairwise_cons.2 ⟨fun z hz =>?_,ih⟩
   have hz2:=(nT (y :: r)).1 hz
   have hxy:=h2.1 y List.mem_cons_self
   rcases List.mem_cons.1 hz2 with rfl|hz3
   ·omega
   ·have:=(List.pairwise_cons.1 h2.2).1 z hz3;omega
theorem xe:∀{l m:List Int},l.Pairwise (· < ·)->m.Pairwise (· < ·)->(∀z,z∈l ↔ z∈m)->l=m
 | [],[],_,_,_=>rfl
 | [],y :: m,_,_,h=>absurd ((h y).2 List.mem_cons_self) List.not_mem_nil
 |x :: l,[],_,_,h=>absurd ((h x).1 List.mem_cons_self) List.not_mem_nil
 |x :: l,y :: m,h1,h2,h=>by
  have a1:=List.pairwise_cons.1 h1
  have a2:=List.pairwise_cons.1 h2
  have e:x=y:=by
   rcases List.mem_cons.1 ((h x).1 List.mem_cons_self) with e|e
   ·exact e
   ·rcases List.mem_cons.1 ((h y).2 List.mem_cons_self) with f|f
    ·exact f.symm
    ·have:=a2.1 x e;have:=a1.1 y f;omega
  subst e
  rw[xe a1.2 a2.2 fun z =>?_]
  constructor
  ·intro hz
   rcases List.mem_cons.1 ((h z).1 (List.mem_cons_of_mem _ hz)) with rfl|f
   ·exact absurd (a1.1 _ hz) (by omega)
   ·exact f
  ·intro hz
   rcases List.mem_cons.1 ((h z).2 (List.mem_cons_of_mem _ hz)) with rfl|f
   ·exact absurd (a2.1 _ hz) (by omega)
   ·exact f
theorem mB(l:List Bool)(x:Nat):(bE l x).Pairwise (· < ·):=by
 unfold bE
 refine List.pairwise_map.2 ((List.pairwise_lt_range.filter _).imp fun h =>?_)
 omega
theorem fV{l:List Bool}{x:Nat}{z:Int}:z∈bE l x ↔ ∃i:Nat,i<x/\l.getD i false=true/\(i:Int)=z:=by
 unfold bE
 simp only[List.mem_map,List.mem_filter,List.mem_range,and_assoc]
theorem iA(f:Nat->Bool)(n i:Nat)(h:i<n):(dg f n).getD i false=f i:=by
 rw[List.getD_eq_getElem?_getD];simp[dg,h]
theorem AX(L:List Int):(bg L).Pairwise (· <= ·):=by
 have h:=List.pairwise_mergeSort (le:=fun x y:Int=>decide (x<=y)) (fun a b c h1 h2=>by simp at *;omega) (fun a b=>by simp;omega) L
 exact h.imp fun h=>by simpa using h
theorem ze(L:List Int)(z:Int):z∈bg L ↔ z∈L:=(List.mergeSort_perm L _).mem_iff
theorem pF(L:List Int):(bg L).length=L.length:=List.length_mergeSort _
theorem tO{L:List Int}{n:Nat}(h:∀z∈L,0<=z/\z<(n:Int)):comp (bg L)=dK (dg (fun i=>decide ((i:Int)∈L)) n):=by
 refine xe (uY (AX L)) (mB _ _) fun z =>?_
 rw[nT,ze,dK,fV,cp]
 constructor
 ·intro hz
  have:=h z hz
  refine ⟨z.toNat,by omega,?_,by omega⟩
  rw[iA _ _ _ (by omega)]
  exact decide_eq_true (by rw[Int.toNat_of_nonneg this.1];exact hz)
 ·rintro ⟨i,hi,e,rfl⟩
  rw[iA _ _ _ hi]at e
  exact ip e
theorem jd(x y:Int):∀T:List Int,comp (T ++ [x,y])=if x=y then comp (T ++ [x]) else comp (T ++ [x]) ++ [y]
 | [] =>by
  show comp [x,y]=_
  unfold comp;split <;> rename_i h
  ·subst h;rfl
  ·rfl
 | [a] =>by
  show comp (a :: x :: [y])=_
  have ih:=jd x y []
  simp only[List.nil_append]at ih
  show comp (a :: x :: [y])=if x=y then comp (a :: x :: []) else comp (a :: x :: []) ++ [y]
  rw[show comp (a :: x :: [y])=if a=x then comp [x,y] else a :: comp [x,y] from by rw[comp],show comp (a :: x :: [])=if a=x then comp [x] else a :: comp [x] from rfl,ih]
  split <;> split <;> rfl
 |a :: b :: T=>by
  have ih:=jd x y (b :: T)
  show comp (a :: b :: (T ++ [x,y]))=if x=y then comp (a :: b :: (T ++ [x])) else comp (a :: b :: (T ++ [x])) ++ [y]
  rw[comp,comp]
  rw[show b :: (T ++ [x,y])=(b :: T) ++ [x,y] from rfl,show b :: (T ++ [x])=(b :: T) ++ [x] from rfl,ih]
  split <;> split <;> rfl
theorem qP{S:List Int}{m:Nat}(h1:1<=m)(h:m<S.length):S.take (m+1)=S.take (m-1) ++ [S.getD (m-1) 0,S.getD m 0]/\S.take m=S.take (m-1) ++ [S.getD (m-1) 0]:=by
 obtain ⟨k,rfl⟩:∃k,m=k+1:=⟨m-1,by omega⟩
 have e1:S.take (k+1)=S.take k ++ [S.getD k 0]:=by
  rw[List.take_add_one,List.getD_eq_getElem?_getD,List.getElem?_eq_getElem (by omega)];rfl
 have e2:S.take (k+1+1)=S.take (k+1) ++ [S.getD (k+1) 0]:=by
  rw[List.take_add_one,List.getD_eq_getElem?_getD,List.getElem?_eq_getElem h];rfl
 refine ⟨?_,e1⟩
 rw[e2,Nat.add_sub_cancel,e1,List.append_assoc];rfl
theorem zR{S:List Int}{m:Nat}(h1:1<=m)(h:m<S.length)(e:S.getD m 0=S.getD (m-1) 0):comp (S.take (m+1))=comp (S.take m):=by
 obtain ⟨a,b⟩:=qP h1 h
 rw[a,b,jd,if_pos e.symm]
theorem uX{S:List Int}{m:Nat}(h1:1<=m)(h:m<S.length)(e:¬ S.getD m 0=S.getD (m-1) 0):comp (S.take (m+1))=comp (S.take m) ++ [S.getD m 0]:=by
 obtain ⟨a,b⟩:=qP h1 h
 rw[a,b,jd,if_neg (Ne.symm e)]
theorem kD:∀l:List Int,(comp l).length<=l.length
 | [] =>Nat.le_refl _
 | [x] =>Nat.le_refl _
 |x :: y :: r=>by
  have ih:=kD (y :: r)
  unfold comp
  split
  ·simp only[List.length_cons]at *;omega
  ·simp only[List.length_cons]at *;omega
theorem zU(S:List Int)(m:Nat)(h:m<=S.length):cD S m<=m:=by
 unfold cD
 have:=kD (S.take m)
 rw[List.length_take]at this
 omega
theorem uZ{S:List Int}{m:Nat}(h1:1<=m)(h:m<S.length)(e:S.getD m 0=S.getD (m-1) 0):cD S (m+1)=cD S m/\b7 S (m+1)=b7 S m:=by
 unfold b7 cD
 rw[zR h1 h e];exact ⟨rfl,rfl⟩
theorem zT{S:List Int}{m:Nat}(h1:1<=m)(h:m<S.length)(e:¬ S.getD m 0=S.getD (m-1) 0)(hN:cD S m<m):cD S (m+1)=cD S m+1/\(b7 S m).set (cD S m) (S.getD m 0)=b7 S (m+1):=by
 have e0:=uX h1 h e
 have e1:cD S (m+1)=cD S m+1:=by unfold cD;rw[e0,br];rfl
 refine ⟨e1,?_⟩
 unfold b7
 rw[e1,e0,List.append_assoc]
 have e2:S.drop (cD S m)=S[cD S m] :: S.drop (cD S m+1):=List.drop_eq_getElem_cons (by omega)
 rw[e2,show (comp (List.take m S)++S[cD S m] :: List.drop (cD S m+1) S).set (cD S m) (S.getD m 0)=comp (List.take m S)++S.getD m 0 :: List.drop (cD S m+1) S from by
  rw[List.set_append,if_neg (by unfold cD;omega)]
  unfold cD;rw[Nat.sub_self];rfl]
 rfl
theorem wd{S:List Int}{m:Nat}(h:m<=S.length):(b7 S m).length=S.length:=by
 have:=zU S m h
 unfold b7
 rw[br,List.length_drop]
 show cD S m+_=_
 omega
theorem pn{S:List Int}{m k:Nat}(h:cD S m<=k):(b7 S m).getD k 0=S.getD k 0:=by
 unfold b7
 rw[List.getD_eq_getElem?_getD,List.getElem?_append_right (by exact h),List.getElem?_drop,List.getD_eq_getElem?_getD]
 rw[show cD S m+(k-(comp (List.take m S)).length)=k from by show cD S m+(k-cD S m)=k;omega]
theorem zS{S:List Int}{x:Nat}(h1:1<=x)(h:x<S.length)(hc:comp (S.take x)=S.take x)(e:S.getD x 0=S.getD (x-1) 0):cD S (x+1)=x/\b7 S (x+1)=S:=by
 have a:=uZ h1 h e
 have b:cD S x=x:=by unfold cD;rw[hc,List.length_take];omega
 refine ⟨a.1.trans b,a.2.trans ?_⟩
 unfold b7
 rw[b,hc,List.take_append_drop]
theorem yw{S:List Int}{x:Nat}(h1:1<=x)(h:x<S.length)(hc:comp (S.take x)=S.take x)(e:¬ S.getD x 0=S.getD (x-1) 0):comp (S.take (x+1))=S.take (x+1):=by
 rw[uX h1 h e,hc,List.take_add_one,List.getD_eq_getElem?_getD,List.getElem?_eq_getElem h];rfl
theorem vt{l:List Bool}{x:Nat}(h:l.getD x false=true):bE l (x+1)=bE l x ++ [(x:Int)]:=by
 unfold bE;rw[List.range_succ,List.filter_append,List.map_append,List.filter_cons,if_pos h];rfl
theorem vr{l:List Bool}{x:Nat}(h:l.getD x false=false):bE l (x+1)=bE l x:=by
 unfold bE;rw[List.range_succ,List.filter_append,List.map_append,List.filter_cons,if_neg (by rw[h];exact Bool.false_ne_true)];simp
theorem qM(l:List Bool)(x:Nat):(bE l x).length<=x:=by
 unfold bE;rw[List.length_map];exact Nat.le_trans (List.length_filter_le _ _) (by rw[List.length_range];exact Nat.le_refl _)
theorem jh(b:Bool):(ak b).length=1:=rfl
theorem dQ(x:Int):(bP x).length=1:=rfl
theorem dd(n:Nat)(l:List Int):(l.flatMap bP).all (aN n)=true:=dt (fun _=>rfl) l
theorem fT{a:List Bool}{k:Nat}(h:k<a.length){off:Nat}(ho:off=k):(a.flatMap ak)[off]?=some (.bool (a.getD k false)):=fp (c:=0) jh h (by omega) rfl
theorem pg{a:List Int}{k:Nat}(h:k<a.length){off:Nat}(ho:off=k):(a.flatMap bP)[off]?=some (.int .i64 (a.getD k 0)):=fp (c:=0) dQ h (by omega) rfl
theorem rh{l:List Move}{x:Nat}(h:x<l.length):cj 2 (l.flatMap moveC) (0+Int.toNat ((x:Nat):Int)*2)=some (.agg ⟨moveC (l.getD x dI)⟩) :=
 eU (n:=2) (d:=dI) (c:=0) gJ h (by omega) (by omega)
theorem mI:∀(n o A B:List Value),o.length=n.length->bp (A++(o++B)) A.length n=A++(n++B)
 | [],[],A,B,_=>rfl
 |v :: n,w :: o,A,B,h=>by
  have e:(A++(w :: o++B)).set A.length v=(A ++ [v])++(o++B):=by simp
  have:=mI n o (A ++ [v]) B (by simpa using h)
  simp only[bp]
  rw[e]
  simpa using this
theorem iN{α:Type}{f:α->List Value}{m:Nat}(hf:∀x,(f x).length=m)(xs:List α)(k:Nat)(hk:k<xs.length)(y:α):bp (xs.flatMap f) (k*m) (f y)=(xs.set k y).flatMap f:=by
 have e1:xs=xs.take k++xs[k] :: xs.drop (k+1):=by rw[<- List.drop_eq_getElem_cons hk,List.take_append_drop]
 have e2:xs.set k y=xs.take k++y :: xs.drop (k+1):=by rw[List.set_eq_take_append_cons_drop,if_pos hk]
 have hl:((xs.take k).flatMap f).length=k*m:=by rw[aU hf,List.length_take,Nat.min_eq_left (Nat.le_of_lt hk)]
 rw[e2]
 conv=>lhs;rw[e1]
 rw[List.flatMap_append,List.flatMap_cons,List.flatMap_append,List.flatMap_cons,<- hl]
 exact mI _ _ _ _ (by rw[hf,hf])
structure cZ(w h:Int)(n:Nat):Prop where
 w1:1<=w/\w<=64
 h1:1<=h/\h<=64
 p1:w*h<=1024
 n1:(n:Int)=w*h
theorem sE{w h:Int}{n:Nat}(e:bR w h n=0):cZ w h n:=by
 obtain ⟨b1,b2,b3,b4⟩:=sj e
 exact ⟨b1,b2,b3,b4⟩
theorem yu{w h c:Int}{n:Nat}(b:cZ w h n)(hc:0<=c/\c<w*h):(0<=Int.tmod c w/\Int.tmod c w<w)/\(0<=Int.tdiv c w/\Int.tdiv c w<h):=by
 have w1:=b.w1
 have e1:Int.tdiv c w=c / w:=Int.tdiv_eq_ediv_of_nonneg hc.1
 have e2:Int.tmod c w=c % w:=Int.tmod_eq_emod_of_nonneg hc.1
 rw[e1,e2]
 refine ⟨⟨Int.emod_nonneg _ (by omega),Int.emod_lt_of_pos _ (by omega)⟩,Int.ediv_nonneg hc.1 (by omega),Int.ediv_lt_of_lt_mul (by omega) (by rw[Int.mul_comm];exact hc.2)⟩
theorem tP{w h x y:Int}(hx:0<=x/\x<w)(hy:0<=y/\y<h):0<=y*w+x/\y*w+x<w*h:=by
 have h1:0<=y*w:=Int.mul_nonneg hy.1 (by omega)
 have h2:(y+1)*w<=h*w:=Int.mul_le_mul_of_nonneg_right (by omega) (by omega)
 rw[Int.add_mul,Int.one_mul,Int.mul_comm h w]at h2
 omega
def zq(m:Move):Prop:=(-2<=m.dx/\m.dx<=2)/\(-2<=m.dy/\m.dy<=2)
def vv(w h:Int)(a:List Bool)(c:Int)(m:Move):Prop:=(0<=Int.tmod c w+m.dx/\Int.tmod c w+m.dx<w)/\(0<=Int.tdiv c w+m.dy/\Int.tdiv c w+m.dy<h)/\a.getD (Int.toNat ((Int.tdiv c w+m.dy)*w+(Int.tmod c w+m.dx))) false=false
theorem pC{w h:Int}{a:List Bool}{c:Int}{m:Move}(k:vv w h a c m):fy w h a c m=(Int.tdiv c w+m.dy)*w+(Int.tmod c w+m.dx):=if_pos k
theorem pD{w h:Int}{a:List Bool}{c:Int}{m:Move}(k:¬ vv w h a c m):fy w h a c m=c:=if_neg k
theorem me{w h:Int}{a:List Bool}{c:Int}(hc:0<=c/\c<w*h)(m:Move):0<=fy w h a c m/\fy w h a c m<w*h:=by
 by_cases k:vv w h a c m
 ·rw[pC k];exact tP k.1 k.2.1
 ·rw[pD k];exact hc
theorem zw{w h:Int}{a:List Bool}{c:Int}{m:Move}(b:cZ w h a.length)(hc:0<=c/\c<w*h)(hm:zq m){H:Heap}{id:Nat}{own:Bool}{z:Nat}(hid:H[id]?=some (.cells own z (a.flatMap ak))) :
  am prog F.lj [fg w h id a.length,.int .i64 c,uw m] H [] (Is (.int .i64 (fy w h a c m)) H):=by
 refine ir (css:=[a.flatMap ak]) (v:=.int .i64 (fy w h a c m)) (Eq.mpr (Ae _ w h a c m) ?_) (gq (bc 0 a)) rfl [id] rfl (gn hid)
 unfold vd
 have e1:=pC (w:=w) (h:=h) (a:=a) (c:=c) (m:=m)
 have e0:=pD (w:=w) (h:=h) (a:=a) (c:=c) (m:=m)
 unfold vv at e0 e1
 obtain ⟨⟨m1,m2⟩,m3,m4⟩:=hm
 obtain ⟨d1,d2⟩:=yu b hc
 obtain ⟨b1,b2,b3,b4⟩:=b
 have cb:=tP (w:=w) (h:=h) (x:=Int.tmod c w+m.dx) (y:=Int.tdiv c w+m.dy)
 have hx : -2<=Int.tmod c w+m.dx/\Int.tmod c w+m.dx<=66:=by omega
 have hy : -2<=Int.tdiv c w+m.dy/\Int.tdiv c w+m.dy<=66:=by omega
 have hy2:0<=Int.tdiv c w/\Int.tdiv c w<=64:=by omega
 generalize fy w h a c m=T at e0 e1 ⊢
 generalize Int.tmod c w+m.dx=X at *
 generalize Int.tdiv c w+m.dy=Y at *
 generalize Y*w=P at *
 generalize w*h=Q at *
 repeat' first|(exact iEq (e0 (fun k=>by omega)).symm)|refine ⟨_,rfl,?_⟩|(refine ⟨fun hb=>iEq (e0 fun k=>Bool.false_ne_true (k.2.2.symm.trans hb)).symm,fun hb =>?_⟩)|(exact fT (by omega) (by omega))|(exact iEq (e1 ⟨by omega,by omega,hb⟩).symm)|omega|exact trivial|exact rfl|exact ah _|refine aq ?_|refine aw ?_ ?_|exact aF|exact aJ _ _ _ (.inl rfl)|(exact bi (by omega))|refine aD ?_|refine av ?_|refine aC ?_ ?_ ?_|refine aB ?_ ?_ ?_|refine toMax ?_|refine toMin ?_|refine ⟨rfl,?_⟩|refine ⟨trivial,?_⟩|(refine aG (fun h =>?_) (fun h =>?_))|(refine aE (fun h =>?_) (fun h =>?_))|(refine aI (fun h =>?_) (fun h =>?_))|refine aA ?_|(refine ⟨az (by omega),?_⟩)|(refine And.intro (by omega) ?_)|apply And.intro|(exact iEq (by omega))|(exact az (by omega))
theorem xm{w h:Int}{a:List Bool}{c:Int}{m:Move}(b:cZ w h a.length)(hc:0<=c/\c<w*h)(hm:zq m){H:Heap}{id:Nat}{own:Bool}{z:Nat}(hid:H[id]?=some (.cells own z (a.flatMap ak))) :
  am prog F.jl [fg w h id a.length,.int .i64 c,uw m] H [] (Is (.int .i64 (fy w h a c m)) H):=by
 refine ir (css:=[a.flatMap ak]) (v:=.int .i64 (fy w h a c m)) (Eq.mpr (yW _ w h a c m) ?_) (gq (bc 0 a)) rfl [id] rfl (gn hid)
 unfold sL
 have e1:=pC (w:=w) (h:=h) (a:=a) (c:=c) (m:=m)
 have e0:=pD (w:=w) (h:=h) (a:=a) (c:=c) (m:=m)
 unfold vv at e0 e1
 obtain ⟨⟨m1,m2⟩,m3,m4⟩:=hm
 obtain ⟨d1,d2⟩:=yu b hc
 obtain ⟨b1,b2,b3,b4⟩:=b
 have cb:=tP (w:=w) (h:=h) (x:=Int.tmod c w+m.dx) (y:=Int.tdiv c w+m.dy)
 have hx : -2<=Int.tmod c w+m.dx/\Int.tmod c w+m.dx<=66:=by omega
 have hy : -2<=Int.tdiv c w+m.dy/\Int.tdiv c w+m.dy<=66:=by omega
 have hy2:0<=Int.tdiv c w/\Int.tdiv c w<=64:=by omega
 generalize fy w h a c m=T at e0 e1 ⊢
 generalize Int.tmod c w+m.dx=X at *
 generalize Int.tdiv c w+m.dy=Y at *
 generalize Y*w=P at *
 generalize w*h=Q at *
 repeat' first|(exact iEq (e0 (fun k=>by omega)).symm)|refine ⟨_,rfl,?_⟩|(refine ⟨fun hb=>iEq (e0 fun k=>Bool.false_ne_true (k.2.2.symm.trans hb)).symm,fun hb =>?_⟩)|(exact fT (by omega) (by omega))|(exact iEq (e1 ⟨by omega,by omega,hb⟩).symm)|omega|exact trivial|exact rfl|exact ah _|refine aq ?_|refine aw ?_ ?_|exact aF|exact aJ _ _ _ (.inl rfl)|(exact bi (by omega))|refine aD ?_|refine av ?_|refine aC ?_ ?_ ?_|refine aB ?_ ?_ ?_|refine toMax ?_|refine toMin ?_|refine ⟨rfl,?_⟩|refine ⟨trivial,?_⟩|(refine aG (fun h =>?_) (fun h =>?_))|(refine aE (fun h =>?_) (fun h =>?_))|(refine aI (fun h =>?_) (fun h =>?_))|refine aA ?_|(refine ⟨az (by omega),?_⟩)|(refine And.intro (by omega) ?_)|apply And.intro|(exact iEq (by omega))|(exact az (by omega))
theorem wK{a:List Bool}{c:Int}(k:0<=c/\c<(a.length:Int)):mJ a c = !(a.getD (Int.toNat c) false):=by unfold mJ;rw[decide_eq_true k];rfl
theorem Bc(l:List Bool)(hl:l.length<=4096){H:Heap}{L:Nat}(hL:H.length=L){id:Nat}{own:Bool}{z:Nat}(hid:H[id]?=some (.cells own z (l.flatMap ak))) :
  am prog F.kd [.slice (some ⟨id,0,some 2⟩) l.length l.length] H [] (Is (.slice (some ⟨L,0,some 1⟩) (dK l).length (dK l).length) (H ++ [.cells true 1 ((dK l).flatMap bP)])):=by
 subst hL
 refine sY (fun i => .slice (some ⟨i,0,some 1⟩) (dK l).length (dK l).length) (Eq.mpr (BU l) ?_) (bc 0 l) (fun n=>dd n _) rfl rfl (fun _=>rfl) hid rfl
 unfold yH
 refine ⟨rfl,Nat.zero_le _,?_,fun _=>rfl,?_⟩
 ·repeat' first|exact dd _ _|exact trivial|exact rfl|exact ah _|refine aq ?_|refine aw ?_ ?_|exact aF|exact aJ _ _ _ (.inl rfl)|(exact bi (by omega))|refine aD ?_|refine av ?_|refine aC ?_ ?_ ?_|refine aB ?_ ?_ ?_|refine toMax ?_|refine toMin ?_|refine ⟨rfl,?_⟩|refine ⟨trivial,?_⟩|(refine aG (fun h =>?_) (fun h =>?_))|(refine aE (fun h =>?_) (fun h =>?_))|(refine aI (fun h =>?_) (fun h =>?_))|refine aA ?_|(refine ⟨az (by omega),?_⟩)|(refine And.intro (by omega) ?_)|apply And.intro|(exact iEq (by omega))|(exact az (by omega))
 intro x hx
 have hlen:=qM l x
 refine aG (fun k =>?_) (fun k =>?_)
 ·refine ⟨by omega,fT (by omega) (by omega),fun k2 =>?_,fun k2 =>?_⟩
  ·have hM:=vt k2
   repeat' first|(refine ⟨x+1,by omega,by omega,rfl,?_⟩)|exact mc hM|exact gZ dQ hM rfl|exact dd _ _|exact f6 dQ _|exact Nat.le_refl _|exact trivial|exact rfl|exact ah _|refine aq ?_|refine aw ?_ ?_|exact aF|exact aJ _ _ _ (.inl rfl)|(exact bi (by omega))|refine aD ?_|refine av ?_|refine aC ?_ ?_ ?_|refine aB ?_ ?_ ?_|refine toMax ?_|refine toMin ?_|refine ⟨rfl,?_⟩|refine ⟨trivial,?_⟩|(refine aG (fun h =>?_) (fun h =>?_))|(refine aE (fun h =>?_) (fun h =>?_))|(refine aI (fun h =>?_) (fun h =>?_))|refine aA ?_|(refine ⟨az (by omega),?_⟩)|(refine And.intro (by omega) ?_)|apply And.intro|(exact iEq (by omega))|(exact az (by omega))
  ·have hM:=vr k2
   refine ⟨az (by omega),x+1,by omega,by omega,rfl,?_⟩
   rw[hM]
   repeat' first|exact dd _ _|exact trivial|exact rfl|exact ah _|refine aq ?_|refine aw ?_ ?_|exact aF|exact aJ _ _ _ (.inl rfl)|(exact bi (by omega))|refine aD ?_|refine av ?_|refine aC ?_ ?_ ?_|refine aB ?_ ?_ ?_|refine toMax ?_|refine toMin ?_|refine ⟨rfl,?_⟩|refine ⟨trivial,?_⟩|(refine aG (fun h =>?_) (fun h =>?_))|(refine aE (fun h =>?_) (fun h =>?_))|(refine aI (fun h =>?_) (fun h =>?_))|refine aA ?_|(refine ⟨az (by omega),?_⟩)|(refine And.intro (by omega) ?_)|apply And.intro|(exact iEq (by omega))|(exact az (by omega))
 ·obtain rfl:x=l.length:=by omega
  repeat' first|exact dd _ _|exact trivial|exact rfl|exact ah _|refine aq ?_|refine aw ?_ ?_|exact aF|exact aJ _ _ _ (.inl rfl)|(exact bi (by omega))|refine aD ?_|refine av ?_|refine aC ?_ ?_ ?_|refine aB ?_ ?_ ?_|refine toMax ?_|refine toMin ?_|refine ⟨rfl,?_⟩|refine ⟨trivial,?_⟩|(refine aG (fun h =>?_) (fun h =>?_))|(refine aE (fun h =>?_) (fun h =>?_))|(refine aI (fun h =>?_) (fun h =>?_))|refine aA ?_|(refine ⟨az (by omega),?_⟩)|(refine And.intro (by omega) ?_)|apply And.intro|(exact iEq (by omega))|(exact az (by omega))
theorem fN(L:List Int)(n x:Nat):(dC L n x).length=n:=cp ..
theorem sd(L:List Int)(n:Nat):(dC L n 0).flatMap ak=cC [.bool false] n:=by
 induction n with
 |zero=>rfl
 |succ n ih =>
  unfold dC at ih ⊢
  rw[gC,List.flatMap_append,ih]
  have:∀k,cC [Value.bool false] k ++ [.bool false] = .bool false :: cC [.bool false] k:=by
   intro k
   induction k with
   |zero=>rfl
   |succ k ih=>show .bool false :: (cC _ k++_)=_;rw[ih];rfl
  exact this n
theorem nG{L:List Int}{n x i:Nat}(h:i<(dC L n x).length):(dC L n x)[i]=decide ((i:Int)∈L.take x):=by
 simp only[dC,dg,List.getElem_map,List.getElem_range]
theorem sa{L:List Int}{n x:Nat}(hx:x<L.length)(hr:0<=L.getD x 0/\L.getD x 0<(n:Int)):(dC L n x).set (Int.toNat (L.getD x 0)) true=dC L n (x+1):=by
 have e:L.take (x+1)=L.take x ++ [L.getD x 0]:=by rw[List.take_add_one,List.getD_eq_getElem?_getD,List.getElem?_eq_getElem hx];rfl
 refine List.ext_getElem (by rw[List.length_set,fN,fN]) fun i h1 h2 =>?_
 rw[List.getElem_set,nG,nG,e]
 rw[fN]at h2
 by_cases k:Int.toNat (L.getD x 0)=i
 ·rw[if_pos k]
  refine (decide_eq_true ?_).symm
  rw[List.mem_append]
  exact .inr (List.mem_singleton.2 (by omega))
 ·rw[if_neg k]
  refine decide_eq_decide.2 ?_
  rw[List.mem_append,List.mem_singleton]
  constructor
  ·exact .inl
  ·rintro (h|h)
   ·exact h
   ·exact absurd h (by omega)
theorem ut{f:Flow}(hf:bX f):∀(j:Nat),j<=nyF f->∀m∈c9 f j,zq m
 |0,_,m,h=>by cases h
 |j+1,hj,m,h=>by
  have eb:=kA hf
  have xb:=us hf
  have yb:=ur hf
  rcases List.mem_append.1 h with h|h
  ·exact ut hf j (by omega) m h
  ·unfold da dg at h
   obtain ⟨i,hi,rfl⟩:=List.mem_map.1 h
   have:=List.mem_range.1 hi
   exact ⟨⟨by dsimp only;omega,by dsimp only;omega⟩,by dsimp only;omega,by dsimp only;omega⟩
theorem dz{α:Type}{l:List α}{d:α}{x:Nat}(h:x<l.length):l.getD x d∈l:=by
 rw[List.getD_eq_getElem?_getD,List.getElem?_eq_getElem h];exact List.getElem_mem h
theorem ru{f:Flow}(hf:bX f){x:Nat}(h:x<(aM f).length):zq ((aM f).getD x dI):=ut hf _ (Nat.le_refl _) _ (dz h)
theorem md(w h:Int)(a:List Bool)(c:Int)(f:Flow):(tgL w h a c f).length=(aM f).length:=List.length_map _
theorem pB{w h:Int}{a:List Bool}{c:Int}{f:Flow}{x:Nat}(hx:x<(aM f).length):(tgL w h a c f).getD x 0=fy w h a c ((aM f).getD x dI):=by
 unfold tgL
 rw[List.getD_eq_getElem?_getD,List.getElem?_map,List.getD_eq_getElem?_getD,List.getElem?_eq_getElem hx];rfl
theorem wE{w h:Int}{a:List Bool}{c:Int}{f:Flow}(hc:0<=c/\c<w*h):∀z∈tgL w h a c f,0<=z/\z<w*h:=by
 intro z hz
 obtain ⟨m,_,rfl⟩:=List.mem_map.1 hz
 exact me hc m
theorem pi(w h:Int)(a:List Bool)(c:Int)(f:Flow):(cQ w h a c f).length=Int.toNat (w*h):=cp ..
theorem yc(w h:Int)(a:List Bool)(c:Int)(f:Flow):dC (tgL w h a c f) (Int.toNat (w*h)) (aM f).length=cQ w h a c f:=by
 unfold dC cQ
 rw[<- md w h a c f,List.take_length]
theorem Be{w h:Int}{a:List Bool}{c:Int}{f:Flow}(b:cZ w h a.length)(hc:0<=c/\c<w*h)(hf:bX f){H:Heap}{L:Nat}(hL:H.length=L){id:Nat}{own:Bool}{z:Nat}(hid:H[id]?=some (.cells own z (a.flatMap ak))) :
  am prog F.kf [fg w h id a.length,nK f,.int .i64 c] H [] (Is (.slice (some ⟨L,0,some 1⟩) (cQ w h a c f).length (cQ w h a c f).length) (H ++ [.cells true 1 ((cQ w h a c f).flatMap ak)])):=by
 subst hL
 refine sY (fun i => .slice (some ⟨i,0,some 1⟩) (cQ w h a c f).length (cQ w h a c f).length) (Eq.mpr (BW w h a c f) ?_) (bc 0 a) (fun n=>bc n _) rfl rfl (fun _=>rfl) hid rfl
 unfold yJ
 have mb:=i6 hf
 have tb:=wE (f:=f) (a:=a) hc
 have b0:=b
 obtain ⟨b1,b2,b3,b4⟩:=b
 have km:∀H':Heap,H'.length=4->am prog F.fD [nK f] H' [] (Is (A4 4 (aM f,0)) (H' ++ [.cells true 2 ((aM f).flatMap moveC)])):=fun H' hl=>by
  have:=zC f hl
  rw[sf hf]at this;exact this
 refine ⟨az (by omega),by omega,trivial,fun H' hl _=>km H' hl,rfl,Nat.zero_le _,?_,fun _=>rfl,?_⟩
 ·rw[sd]
  repeat' first|((rw[<- sd (tgL w h a c f)];exact bc _ _))|exact trivial|exact rfl|exact ah _|refine aq ?_|refine aw ?_ ?_|exact aF|exact aJ _ _ _ (.inl rfl)|(exact bi (by omega))|refine aD ?_|refine av ?_|refine aC ?_ ?_ ?_|refine aB ?_ ?_ ?_|refine toMax ?_|refine toMin ?_|refine ⟨rfl,?_⟩|refine ⟨trivial,?_⟩|(refine aG (fun h =>?_) (fun h =>?_))|(refine aE (fun h =>?_) (fun h =>?_))|(refine aI (fun h =>?_) (fun h =>?_))|refine aA ?_|(refine ⟨az (by omega),?_⟩)|(refine And.intro (by omega) ?_)|apply And.intro|(exact iEq (by omega))|(exact az (by omega))
 intro x hx
 refine aG (fun k =>?_) (fun k =>?_)
 ·have hlt:x<(aM f).length:=by omega
  have hr:=me (a:=a) hc ((aM f).getD x dI)
  have hs:=sa (L:=tgL w h a c f) (n:=Int.toNat (w*h)) (x:=x) (by rw[md];exact hlt) (by rw[pB hlt];omega)
  rw[pB hlt]at hs
  refine ⟨by omega,rh hlt,fy w h a c ((aM f).getD x dI),⟨rfl,trivial⟩,fun H' hl hd=>xm b0 hc (ru hf hlt) hd.1,by omega,?_,rfl,az (by omega),x+1,by omega,by omega,rfl,?_⟩
  ·rw[aU jh,fN];omega
  ·rw[show 0+Int.toNat (fy w h a c ((aM f).getD x dI))*1=Int.toNat (fy w h a c ((aM f).getD x dI))*1 by omega,iN jh _ _ (by rw[fN];omega) true,hs]
   repeat' first|exact bc _ _|exact trivial|exact rfl|exact ah _|refine aq ?_|refine aw ?_ ?_|exact aF|exact aJ _ _ _ (.inl rfl)|(exact bi (by omega))|refine aD ?_|refine av ?_|refine aC ?_ ?_ ?_|refine aB ?_ ?_ ?_|refine toMax ?_|refine toMin ?_|refine ⟨rfl,?_⟩|refine ⟨trivial,?_⟩|(refine aG (fun h =>?_) (fun h =>?_))|(refine aE (fun h =>?_) (fun h =>?_))|(refine aI (fun h =>?_) (fun h =>?_))|refine aA ?_|(refine ⟨az (by omega),?_⟩)|(refine And.intro (by omega) ?_)|apply And.intro|(exact iEq (by omega))|(exact az (by omega))
 ·obtain rfl:x=(aM f).length:=by omega
  rw[yc,pi]
  repeat' first|exact bc _ _|exact trivial|exact rfl|exact ah _|refine aq ?_|refine aw ?_ ?_|exact aF|exact aJ _ _ _ (.inl rfl)|(exact bi (by omega))|refine aD ?_|refine av ?_|refine aC ?_ ?_ ?_|refine aB ?_ ?_ ?_|refine toMax ?_|refine toMin ?_|refine ⟨rfl,?_⟩|refine ⟨trivial,?_⟩|(refine aG (fun h =>?_) (fun h =>?_))|(refine aE (fun h =>?_) (fun h =>?_))|(refine aI (fun h =>?_) (fun h =>?_))|refine aA ?_|(refine ⟨az (by omega),?_⟩)|(refine And.intro (by omega) ?_)|apply And.intro|(exact iEq (by omega))|(exact az (by omega))
end
end Go.Proofs.YtkkgnalgmebfjaaGreat
namespace Go.Proofs.YtkkgnalgmebfjaaGreat
open Go Go.Shelf
def vB:Go.Shelf.Ren:=⟨fun|189=>154|125=>182|257=>181|128=>196|129=>197|294=>187|295=>188|296=>189|297=>190|298=>191|299=>192|216=>193|300=>194|301=>195|328=>203|329=>204|330=>205|331=>206|332=>207|215=>208|343=>209|n=>n,fun|28=>42|3=>3|46=>264|0=>0|51=>278|53=>280|4=>4|183=>270|182=>269|131=>275|5=>5|9=>9|218=>285|222=>88|228=>290|229=>291|n=>n,fun|n=>n⟩
theorem Ce:Go.Proofs.Lays.n189 Tryz.prog vB:={
 mixed:=by kernel_rfl
 f125:=Tryz.func182.trans (congrArg some (by kernel_rfl))
 f128:=Tryz.func196.trans (congrArg some (by kernel_rfl))
 f129:=Tryz.func197.trans (congrArg some (by kernel_rfl))
 f189:=Tryz.func154.trans (congrArg some (by kernel_rfl))
 f215:=Tryz.func208.trans (congrArg some (by kernel_rfl))
 f216:=Tryz.func193.trans (congrArg some (by kernel_rfl))
 f257:=Tryz.func181.trans (congrArg some (by kernel_rfl))
 f294:=Tryz.func187.trans (congrArg some (by kernel_rfl))
 f295:=Tryz.func188.trans (congrArg some (by kernel_rfl))
 f296:=Tryz.func189.trans (congrArg some (by kernel_rfl))
 f297:=Tryz.func190.trans (congrArg some (by kernel_rfl))
 f298:=Tryz.func191.trans (congrArg some (by kernel_rfl))
 f299:=Tryz.func192.trans (congrArg some (by kernel_rfl))
 f300:=Tryz.func194.trans (congrArg some (by kernel_rfl))
 f301:=Tryz.func195.trans (congrArg some (by kernel_rfl))
 f328:=Tryz.func203.trans (congrArg some (by kernel_rfl))
 f329:=Tryz.func204.trans (congrArg some (by kernel_rfl))
 f330:=Tryz.func205.trans (congrArg some (by kernel_rfl))
 f331:=Tryz.func206.trans (congrArg some (by kernel_rfl))
 f332:=Tryz.func207.trans (congrArg some (by kernel_rfl))
 f343:=Tryz.func209.trans (congrArg some (by kernel_rfl))
 t0:=Tryz.underlying0
 a0:=Tryz.isAgg0
 z0:=Tryz.sizeOf0
 v0:=Tryz.zeroValue0
 t3:=Tryz.underlying3
 a3:=Tryz.isAgg3
 z3:=Tryz.sizeOf3
 v3:=Tryz.zeroValue3
 t4:=Tryz.underlying4
 a4:=Tryz.isAgg4
 z4:=Tryz.sizeOf4
 v4:=Tryz.zeroValue4
 t5:=Tryz.underlying5
 a5:=Tryz.isAgg5
 z5:=Tryz.sizeOf5
 v5:=Tryz.zeroValue5
 t9:=Tryz.underlying9
 a9:=Tryz.isAgg9
 z9:=Tryz.sizeOf9
 v9:=Tryz.zeroValue9
 t28:=Tryz.underlying42
 a28:=Tryz.isAgg42
 z28:=Tryz.sizeOf42
 v28:=Tryz.zeroValue42
 t46:=Tryz.underlying264
 a46:=Tryz.isAgg264
 z46:=Tryz.sizeOf264
 v46:=Tryz.zeroValue264
 t51:=Tryz.underlying278
 a51:=Tryz.isAgg278
 z51:=Tryz.sizeOf278
 v51:=Tryz.zeroValue278
 t53:=Tryz.underlying280
 a53:=Tryz.isAgg280
 z53:=Tryz.sizeOf280
 v53:=Tryz.zeroValue280
 t131:=Tryz.underlying275
 a131:=Tryz.isAgg275
 z131:=Tryz.sizeOf275
 v131:=Tryz.zeroValue275
 t182:=Tryz.underlying269
 a182:=Tryz.isAgg269
 z182:=Tryz.sizeOf269
 v182:=Tryz.zeroValue269
 t183:=Tryz.underlying270
 a183:=Tryz.isAgg270
 z183:=Tryz.sizeOf270
 v183:=Tryz.zeroValue270
 t218:=Tryz.underlying285
 a218:=Tryz.isAgg285
 z218:=Tryz.sizeOf285
 v218:=Tryz.zeroValue285
 t222:=Tryz.underlying88
 a222:=Tryz.isAgg88
 z222:=Tryz.sizeOf88
 v222:=Tryz.zeroValue88
 t228:=Tryz.underlying290
 a228:=Tryz.isAgg290
 z228:=Tryz.sizeOf290
 v228:=Tryz.zeroValue290
 t229:=Tryz.underlying291
 a229:=Tryz.isAgg291
 z229:=Tryz.sizeOf291
 v229:=Tryz.zeroValue291 }
end Go.Proofs.YtkkgnalgmebfjaaGreat
namespace Go.K
variable {P:Program}
theorem Rel.world{B:Nat}{Z:Ren}{H:Heap}{w W:World}(hr:Rel P B Z H w)(b0:Nat)(hsz:w.heap.size<=W.heap.size)(hsame:∀b,b<w.heap.size->b≠b0->W.heap[b]?=w.heap[b]?)
  (hfree:∀id r o,Z id=some r->H[id]?=some o->o.alive=true->r.b≠b0) (hmem:∀m,Z.mem b0=some m->False) (hfb:¬ FB Z H b0):Rel P B Z H W:=by
 refine ⟨Nat.le_trans hr.bsize hsz,hr.dR,hr.dom,fun id r h=>Nat.lt_of_lt_of_le (hr.lt id r h) hsz,fun id r o h1 h2 =>?_,hr.base,hr.sep,fun b m hb=>⟨?_,(hr.mem b m hb).2⟩,
  hr.fam.keep (Ren.le_refl _) (fun _ _ _ h=>h) (fun _ _ _ _ h=>h) (Nat.le_refl _) hsz (fun b hb=>by
   rcases Nat.lt_or_ge b w.heap.size with hl|hl
   ·exact hsame b hl (fun e=>hfb (e ▸ hb))
   ·exact absurd hb (hr.fam.nJ hl)) (fun id r o a b c=>hr.fam.free a b c) (fun b m h=>hr.fam.eI h)⟩
 ·by_cases hal:o.alive=true
  ·exact (hr.obj id r o h1 h2).mono (Ren.le_refl _) (hsame _ (hr.lt id r h1) (hfree id r o h1 h2 hal))
  ·cases o <;> first|trivial|exact absurd rfl hal
 ·obtain ⟨ty,fz,e⟩:=(hr.mem b m hb).1
  have hne:b≠b0:=by rintro rfl;exact hmem m hb
  exact ⟨ty,fz,(hsame b (Array.getElem?_eq_some_iff.1 e).1 hne).trans e⟩
theorem Post.grown{B base:Nat}{M:List Nat}{Z ρ':Ren}{H H':Heap}{w w1 w2:World}(p:Post P B base M Z H w ρ' H' w1)(hsz:w1.heap.size<=w2.heap.size)(hsame:∀b,b<w1.heap.size->w2.heap[b]?=w1.heap[b]?)
  (hos:w2.os=w1.os) (ht:w2.tape=w1.tape) (ho:w2.output=w1.output) (hd:w1.drawn<=w2.drawn):Post P B base M Z H w ρ' H' w2:=by
 have hlt:∀id r o,ρ' id=some r->H'[id]?=some o->o.alive=true->r.b≠w1.heap.size:=fun id r o h1 _ _=>by have:=p.rel.lt id r h1;omega
 have hm:∀m,ρ'.mem w1.heap.size=some m->False:=fun m h=>by
  obtain ⟨ty,fz,e⟩:=(p.rel.mem _ m h).1
  have:=(Array.getElem?_eq_some_iff.1 e).1;omega
 exact ⟨p.rel.world w1.heap.size hsz (fun b h _=>hsame b h) hlt hm (p.rel.fam.nJ (Nat.le_refl _)),p.ext,p.new,p.len,p.same,Nat.le_trans p.size hsz,fun b h1 h2=>(hsame b (Nat.lt_of_lt_of_le h1 p.size)).trans (p.keep b h1 h2),p.ob,hos.trans p.os,ht.trans p.tape,ho.trans p.output,p.frz,Nat.le_trans p.drawn hd,p.kl⟩
end Go.K
namespace Go.K
open Go Go.Proofs Go.RowKit Go.Lib Go.Sort Go.Shelf
variable {P:Program}
theorem xB{R:Go.Shelf.Ren}(L:Lays.n189 P R)(ef:Enters P (R.f 189))
  {H:Heap} {id:Nat} {tag:Option Nat} (htag:tag=none∨tag=some 1) {L0:List Int} (h0:0<L0.length) (hlen:L0.length<4611686018427387904) (ho:H[id]?=some (.cells true 1 (L0.map (Value.int .i64)))) :
  am P (R.f 189) [.slice (some ⟨id,0,tag⟩) L0.length L0.length] H [id] (Is (.tuple #[]) (H.set id (.cells true 1 ((L0.mergeSort fun x y=>decide (x<=y)).map (Value.int .i64))))):=by
 refine ⟨ef,fun B Z w args' hr ha =>?_⟩
 obtain ⟨x',rfl⟩:∃x',args' = #[x']:=by
  have hl:=ha.1
  obtain ⟨l⟩:=args'
  match l,hl with
  | [a],_=>exact ⟨a,rfl⟩
 have hx:=ha.2 0 _ _ rfl rfl
 obtain ⟨r,cap',hid,hcap,rfl⟩:∃r cap',Z id=some r/\L0.length<=cap'/\x' = .slice (some ⟨r.b,0+r.s,none⟩) L0.length cap':=by
  generalize L0.length=n at hx h0
  rcases htag with rfl|rfl
  ·cases hx with
   |slice h hl hc _=>exact ⟨_,_,h,Nat.le_trans hl hc,rfl⟩
   |bK h=>exact absurd h0 (Nat.lt_irrefl 0)
  ·cases hx with
   |ba=>exact absurd h0 (Nat.lt_irrefl 0)
   |bb=>exact absurd h0 (Nat.lt_irrefl 0)
   |bF h hp hl hc _=>exact ⟨_,_,h,Nat.le_trans hl hc,rfl⟩
 rw[Nat.zero_add]
 have Bt:=hr.obj id r _ hid ho
 obtain ⟨ow,zz,cs',ty,fz,hb,hsz,hfz,hcs⟩:=Bt
 obtain rfl:=hfz rfl
 have hel:∀i (hi:i<L0.length),cs'[i+r.s]?=some (Value.int .i64 L0[i]):=fun i hi=>by
  obtain ⟨v',e1,e2⟩:=hcs i (Value.int .i64 L0[i]) (by rw[List.getElem?_map,List.getElem?_eq_getElem hi];rfl)
  cases e2;exact e1
 have hgd:∀(M:List Int) j (hj:j<M.length),M.toArray[j]! = M[j]:=fun M j hj=>getElem!_pos M.toArray j hj
 have hH:Holds (Value.int .i64) w r.b r.s L0.toArray:=fun j hj=>by
  have hj':j<L0.length:=by simpa using hj
  have e:=hel j hj'
  refine ⟨?_,?_⟩
  ·rw[hgd L0 j hj']
   simp only[World.cell?,hb,Option.isSome_none,Bool.false_eq_true,if_false]
   rw[Nat.add_comm];exact e
  ·simp[World.frozen?,hb]
 have hblk:=hr.lt id r hid
 have hcon:=Any.slices_Sort_int L r.b r.s cap' L0 w hH hblk hlen
 refine callsIn_wide.2 (hcon.mono ?_)
 rintro e w' ⟨rfl,n1,os,rfl⟩
 have hml:(L0.mergeSort fun x y=>decide (x<=y)).length=L0.length:=List.length_mergeSort _
 generalize (L0.mergeSort fun x y=>decide (x<=y))=M at hml ⊢
 have hput:bt Z r (.cells true 1 (M.map (Value.int .i64))) (w.putObj r.b (.cells (putCells (Value.int .i64) r.s M.toArray cs') ty (0,0))):=by
  refine ⟨ow,zz,putCells (Value.int .i64) r.s M.toArray cs',ty,(0,0),World.putObj_heap_same hblk,by simp[putCells,hml]at hsz ⊢;omega,fun _=>rfl,fun i v hv =>?_⟩
  rw[List.getElem?_map]at hv
  obtain ⟨a,ha1,rfl⟩:=bo hv
  obtain ⟨hi,ha2⟩:=List.getElem?_eq_some_iff.1 ha1
  refine ⟨.int .i64 a,?_,.int _ _⟩
  simp only[putCells,Array.getElem?_mapIdx,hel i (by omega),Option.map_some]
  rw[if_pos ⟨by omega,by simp;omega⟩,show i+r.s-r.s=i by omega,hgd M i hi,ha2]
 have p1:=Post.put (base:=H.length) (M:=[id]) hr hid ho rfl (by rw[hb];rfl) hput (fun _=>List.mem_singleton.2 rfl)
 have hheap:∀b,b<w.heap.size->(grow (putRow (Value.int .i64) (Sort.ahead w n1) r.b r.s M.toArray) os).heap[b]?=(w.putObj r.b (.cells (putCells (Value.int .i64) r.s M.toArray cs') ty (0,0))).heap[b]? := by
  intro b hb1
  simp only[grow,putRow,mapBlock,Sort.ahead]
  rw[Array.getElem?_append_left (by simpa using hb1),Array.getElem?_modify]
  by_cases e:r.b=b
  ·subst e
   rw[if_pos rfl,World.putObj_heap_same hblk]
   show Option.map (onCells _) w.heap[r.b]?=_
   rw[hb];rfl
  ·rw[if_neg e,World.putObj_heap_other (Ne.symm e)]
 have p2:=p1.grown (w2:=grow (putRow (Value.int .i64) (Sort.ahead w n1) r.b r.s M.toArray) os) (by simp[grow,putRow,mapBlock,Sort.ahead,World.putObj]) (fun b hb1=>hheap b (by simpa[World.putObj] using hb1)) rfl rfl rfl (by simp[grow,putRow,mapBlock,Sort.ahead,World.putObj])
 exact ⟨.tuple #[],.tuple #[],Z,_,rfl,.tuple rfl (fun i a b h=>by simp at h),p2,rfl,rfl⟩
end Go.K
namespace Go.Proofs.YtkkgnalgmebfjaaGreat
noncomputable section
attribute [local irreducible] vF
theorem Bl(l:List Int):l.flatMap bP=l.map (Value.int .i64):=by
 induction l with
 |nil=>rfl
 |cons x l ih=>rw[List.flatMap_cons,ih];rfl
theorem sk {P : Program} {f : FuncId} {fn : Func} (hf : P.funcs[f]? = some fn) (hname : (fn.name == "runtime.NumGoroutine") = false) (hb : fn.body.isSome = true) : Enters P f := by
 obtain ⟨c,hc⟩:=Option.isSome_iff_exists.1 hb
 exact enters_of hf hname hc
theorem wb:Enters prog 154:=sk Tryz.func154 (by kernel_rfl) (by kernel_rfl)
theorem Cq{L0:List Int}(h0:0<L0.length)(h1:L0.length<1000){H:Heap}{id:Nat}(ho:H[id]?=some (.cells true 1 (L0.flatMap bP))) :
  am prog 154 [.slice (some ⟨id,0,some 1⟩) L0.length L0.length] H [id] (Is (.tuple #[]) (H.set id (.cells true 1 ((bg L0).flatMap bP)))):=by
 rw[Bl]at ho ⊢
 exact xB Ce wb (.inr rfl) h0 (by omega) ho
theorem yk{L:List Int}(h:comp (bg L)=bg L):comp (bg L)++iw L=bg L:=by
 unfold iw
 rw[h,pF,Nat.sub_self];exact List.append_nil _
theorem xk(n:Nat):cC [.int .i64 0] n=(List.replicate n (0:Int)).flatMap bP:=by
 induction n with
 |zero=>rfl
 |succ n ih=>show .int .i64 0 :: cC [.int .i64 0] n=_;rw[ih];rfl
theorem vD{A B:List Int}{k n:Nat}(hk:k=A.length)(hn:n=B.length):bp ((A++B).flatMap bP) (0+k*1) (cC [.int .i64 0] n)=(A++List.replicate n 0).flatMap bP:=by
 subst hk hn
 rw[xk,List.flatMap_append,List.flatMap_append,show 0+A.length*1=(A.flatMap bP).length from by rw[aU dQ];omega]
 have:=mI ((List.replicate B.length (0:Int)).flatMap bP) (B.flatMap bP) (A.flatMap bP) [] (by rw[aU dQ,aU dQ,List.length_replicate])
 simpa using this
theorem xh{w h:Int}{a:List Bool}{c:Int}{f:Flow}(b:cZ w h a.length)(hc:0<=c/\c<w*h)(hf:bX f){H:Heap}{L:Nat}(hL:H.length=L){id:Nat}{own:Bool}{z:Nat}(hid:H[id]?=some (.cells own z (a.flatMap ak))) :
  am prog F.gb [fg w h id a.length,nK f,.int .i64 c] H [] (Is (.slice (some ⟨L,0,some 2⟩) (comp (bg (tgL w h a c f))).length (comp (bg (tgL w h a c f))).length) (H ++ [.cells true 1 ((comp (bg (tgL w h a c f))++iw (tgL w h a c f)).flatMap bP)])):=by
 subst hL
 refine sY (fun i => .slice (some ⟨i,0,some 2⟩) (comp (bg (tgL w h a c f))).length (comp (bg (tgL w h a c f))).length) (Eq.mpr (yU w h a c f) ?_) (bc 0 a) (fun n=>dd n _) rfl rfl (fun _=>rfl) hid rfl
 unfold sJ
 have mb:=i6 hf
 have hTl:=md w h a c f
 have hSl:=(pF (tgL w h a c f)).trans hTl
 have hfin:=yk (L:=tgL w h a c f)
 have Bs:iw (tgL w h a c f)=List.replicate ((tgL w h a c f).length-(comp (bg (tgL w h a c f))).length) 0:=rfl
 refine ⟨trivial,fun H' hl _=>Bg f hf hl,rfl,Nat.zero_le _,?_,fun _=>rfl,?_⟩
 ·repeat' first|exact dd _ _|exact trivial|exact rfl|exact ah _|refine aq ?_|refine aw ?_ ?_|exact aF|exact aJ _ _ _ (.inl rfl)|(exact bi (by omega))|refine aD ?_|refine av ?_|refine aC ?_ ?_ ?_|refine aB ?_ ?_ ?_|refine toMax ?_|refine toMin ?_|refine ⟨rfl,?_⟩|refine ⟨trivial,?_⟩|(refine aG (fun h =>?_) (fun h =>?_))|(refine aE (fun h =>?_) (fun h =>?_))|(refine aI (fun h =>?_) (fun h =>?_))|refine aA ?_|(refine ⟨az (by omega),?_⟩)|(refine And.intro (by omega) ?_)|apply And.intro|(exact iEq (by omega))|(exact az (by omega))
 intro x hx
 refine aG (fun k =>?_) (fun k =>?_)
 ·have hlt:x<(aM f).length:=by omega
  have hM:(tgL w h a c f).take (x+1)=(tgL w h a c f).take x ++ [fy w h a c ((aM f).getD x dI)]:=by
   rw[List.take_add_one,<- pB hlt,List.getD_eq_getElem?_getD,List.getElem?_eq_getElem (by omega)];rfl
  have hlx:((tgL w h a c f).take x).length=x:=by rw[List.length_take];omega
  have hob:=gZ (own:=true) dQ hM rfl
  have hfl:=f6 dQ ((tgL w h a c f).take x)
  rw[hlx]at hob hfl
  refine ⟨by omega,rh hlt,fy w h a c ((aM f).getD x dI),⟨rfl,trivial⟩,fun H' hl hd=>zw b hc (ru hf hlt) hd.1,?_⟩
  repeat' first|(refine ⟨x+1,by omega,by omega,rfl,?_⟩)|exact hob|exact dd _ _|exact hfl|exact Nat.le_refl _|exact trivial|exact rfl|exact ah _|refine aq ?_|refine aw ?_ ?_|exact aF|exact aJ _ _ _ (.inl rfl)|(exact bi (by omega))|refine aD ?_|refine av ?_|refine aC ?_ ?_ ?_|refine aB ?_ ?_ ?_|refine toMax ?_|refine toMin ?_|refine ⟨rfl,?_⟩|refine ⟨trivial,?_⟩|(refine aG (fun h =>?_) (fun h =>?_))|(refine aE (fun h =>?_) (fun h =>?_))|(refine aI (fun h =>?_) (fun h =>?_))|refine aA ?_|(refine ⟨az (by omega),?_⟩)|(refine And.intro (by omega) ?_)|apply And.intro|(exact iEq (by omega))|(exact az (by omega))
 ·obtain rfl:x=(aM f).length:=by omega
  have hkS:∀H':Heap,H'[4]?=some (.cells true 1 ((tgL w h a c f).flatMap bP))->am prog 154 [.slice (some ⟨4,0,some 1⟩) (aM f).length (aM f).length] H' [4] (Is (.tuple #[]) (H'.set 4 (.cells true 1 ((bg (tgL w h a c f)).flatMap bP)))):=fun H' ho=>by
   have:=Cq (L0:=tgL w h a c f) (by omega) (by omega) ho
   rw[hTl]at this;exact this
  rw[show (tgL w h a c f).take (aM f).length=tgL w h a c f from by rw[<- hTl];exact List.take_length]
  obtain ⟨S,hS⟩:∃S,bg (tgL w h a c f)=S:=⟨_,rfl⟩
  rw[hS]at hSl hfin Bs hkS
  rw[hS]
  have hdone:comp S=S->(comp S).length=(aM f).length:=fun e=>by rw[e,hSl]
  generalize (aM f).length=n at *
  rw[hTl]at Bs
  refine ⟨⟨rfl,trivial⟩,fun H' hl hd=>hkS H' hd.1,aG (fun k2 =>?_) (fun k2 =>?_)⟩
  ·have hc1:comp S=S:=by
    match S,hSl with
    | [s],_=>rfl
    | [],e=>exact absurd e (by simp only[List.length_nil];omega)
    |_ :: _ :: _,e=>exact absurd e (by simp only[List.length_cons];omega)
   rw[hdone hc1,hfin hc1]
   exact ⟨rfl,ct,⟨rfl,dd _ _⟩,trivial⟩
  ·have hc1:comp (S.take 1)=S.take 1:=by
    match S,hSl with
    |s :: r,_=>rfl
    | [],e=>exact absurd e (by simp only[List.length_nil];omega)
   refine ⟨rfl,⟨Nat.le_refl _,by omega,hc1⟩,?_,fun _=>rfl,?_⟩
   ·repeat' first|exact dd _ _|exact trivial|exact rfl|exact ah _|refine aq ?_|refine aw ?_ ?_|exact aF|exact aJ _ _ _ (.inl rfl)|(exact bi (by omega))|refine aD ?_|refine av ?_|refine aC ?_ ?_ ?_|refine aB ?_ ?_ ?_|refine toMax ?_|refine toMin ?_|refine ⟨rfl,?_⟩|refine ⟨trivial,?_⟩|(refine aG (fun h =>?_) (fun h =>?_))|(refine aE (fun h =>?_) (fun h =>?_))|(refine aI (fun h =>?_) (fun h =>?_))|refine aA ?_|(refine ⟨az (by omega),?_⟩)|(refine And.intro (by omega) ?_)|apply And.intro|(exact iEq (by omega))|(exact az (by omega))
   rintro x3 ⟨j1,j2,j3⟩
   refine aG (fun k3 =>?_) (fun k3 =>?_)
   ·have hx3:x3<S.length:=by omega
    rw[show Int.toNat ((x3:Int)-1)=x3-1 by omega]
    refine ⟨by omega,pg hx3 (by omega),az (by omega),by omega,pg (by omega) (by omega),aI (fun q =>?_) (fun q =>?_)⟩
    ·obtain ⟨q1,q2⟩:=zS j1 hx3 j3 q
     refine ⟨⟨⟨.inr (.inr rfl),Nat.le_refl _⟩,Nat.le_refl _,by omega⟩,rfl,rfl,⟨Nat.le_refl _,by omega,by omega⟩,?_,fun _=>rfl,?_⟩
     ·rw[q1,q2]
      repeat' first|exact dd _ _|exact trivial|exact rfl|exact ah _|refine aq ?_|refine aw ?_ ?_|exact aF|exact aJ _ _ _ (.inl rfl)|(exact bi (by omega))|refine aD ?_|refine av ?_|refine aC ?_ ?_ ?_|refine aB ?_ ?_ ?_|refine toMax ?_|refine toMin ?_|refine ⟨rfl,?_⟩|refine ⟨trivial,?_⟩|(refine aG (fun h =>?_) (fun h =>?_))|(refine aE (fun h =>?_) (fun h =>?_))|(refine aI (fun h =>?_) (fun h =>?_))|refine aA ?_|(refine ⟨az (by omega),?_⟩)|(refine And.intro (by omega) ?_)|apply And.intro|(exact iEq (by omega))|(exact az (by omega))
     rintro x4 ⟨i1,i2,i3⟩
     have hcl:=wd i2
     refine aG (fun k4 =>?_) (fun k4 =>?_)
     ·have hm:x3+x4<S.length:=by omega
      have g1:=pn (S:=S) (m:=x3+x4) (k:=x3+x4) (by omega)
      have g2:=pn (S:=S) (m:=x3+x4) (k:=x3+x4-1) (by omega)
      have a1:∀off,off=x3+x4->((b7 S (x3+x4)).flatMap bP)[off]?=some (.int .i64 ((b7 S (x3+x4)).getD (x3+x4) 0)):=fun off ho=>pg (by omega) ho
      rw[show x3+Int.toNat ((x4:Int)-1)=x3+x4-1 by omega]
      refine ⟨by omega,a1 _ (by omega),az (by omega),by omega,pg (by omega) (by omega),?_⟩
      rw[g1,g2]
      rw[g1]at a1
      refine aE (fun q =>?_) (fun q =>?_)
      ·obtain ⟨e1,e2⟩:=zT (by omega) hm q i3
       have hset:=iN dQ (b7 S (x3+x4)) (cD S (x3+x4)) (by rw[hcl];omega) (S.getD (x3+x4) 0)
       refine ⟨((cD S (x3+x4):Nat):Int),rfl,by omega,a1 _ (by omega),by omega,?_,rfl,_,rfl,az (by omega),az (by omega),x4+1,⟨by omega,by omega,?_⟩,by omega,rfl,?_⟩
       ·rw[aU dQ,hcl];omega
       ·rw[<- Nat.add_assoc,e1];omega
       ·rw[<- Nat.add_assoc,e1,show 0+Int.toNat ((cD S (x3+x4):Nat):Int)*1=cD S (x3+x4)*1 by omega,hset,e2]
        repeat' first|exact dd _ _|exact trivial|exact rfl|exact ah _|refine aq ?_|refine aw ?_ ?_|exact aF|exact aJ _ _ _ (.inl rfl)|(exact bi (by omega))|refine aD ?_|refine av ?_|refine aC ?_ ?_ ?_|refine aB ?_ ?_ ?_|refine toMax ?_|refine toMin ?_|refine ⟨rfl,?_⟩|refine ⟨trivial,?_⟩|(refine aG (fun h =>?_) (fun h =>?_))|(refine aE (fun h =>?_) (fun h =>?_))|(refine aI (fun h =>?_) (fun h =>?_))|refine aA ?_|(refine ⟨az (by omega),?_⟩)|(refine And.intro (by omega) ?_)|apply And.intro|(exact iEq (by omega))|(exact az (by omega))
      ·obtain ⟨e1,e2⟩:=uZ (by omega) hm q
       refine ⟨az (by omega),x4+1,⟨by omega,by omega,by rw[<- Nat.add_assoc,e1];omega⟩,by omega,rfl,?_⟩
       rw[<- Nat.add_assoc,e1,e2]
       repeat' first|exact dd _ _|exact trivial|exact rfl|exact ah _|refine aq ?_|refine aw ?_ ?_|exact aF|exact aJ _ _ _ (.inl rfl)|(exact bi (by omega))|refine aD ?_|refine av ?_|refine aC ?_ ?_ ?_|refine aB ?_ ?_ ?_|refine toMax ?_|refine toMin ?_|refine ⟨rfl,?_⟩|refine ⟨trivial,?_⟩|(refine aG (fun h =>?_) (fun h =>?_))|(refine aE (fun h =>?_) (fun h =>?_))|(refine aI (fun h =>?_) (fun h =>?_))|refine aA ?_|(refine ⟨az (by omega),?_⟩)|(refine And.intro (by omega) ?_)|apply And.intro|(exact iEq (by omega))|(exact az (by omega))
     ·have hm:x3+x4=S.length:=by omega
      have hn:cD S (x3+x4)=(comp S).length:=by unfold cD;rw[hm,List.take_length]
      have hto:b7 S (x3+x4)=comp S++S.drop (comp S).length:=by unfold b7;rw[hn,hm,List.take_length]
      have hle:=kD S
      rw[hn,hto]
      refine ⟨_,rfl,⟨⟨.inr (.inr rfl),Nat.le_refl _⟩,Nat.le_refl _,by omega,by omega⟩,?_,rfl,_,rfl,⟨⟨.inr (.inr rfl),by omega⟩,by omega,Nat.zero_le _⟩,by rw[Nat.sub_zero],rfl,?_⟩
      ·rw[aU dQ,br,List.length_drop];omega
      ·rw[Int.toNat_natCast,vD rfl (by rw[List.length_drop];omega),Bs]
       repeat' first|exact dd _ _|exact trivial|exact rfl|exact ah _|refine aq ?_|refine aw ?_ ?_|exact aF|exact aJ _ _ _ (.inl rfl)|(exact bi (by omega))|refine aD ?_|refine av ?_|refine aC ?_ ?_ ?_|refine aB ?_ ?_ ?_|refine toMax ?_|refine toMin ?_|refine ⟨rfl,?_⟩|refine ⟨trivial,?_⟩|(refine aG (fun h =>?_) (fun h =>?_))|(refine aE (fun h =>?_) (fun h =>?_))|(refine aI (fun h =>?_) (fun h =>?_))|refine aA ?_|(refine ⟨az (by omega),?_⟩)|(refine And.intro (by omega) ?_)|apply And.intro|(exact iEq (by omega))|(exact az (by omega))
    ·refine ⟨az (by omega),x3+1,⟨by omega,by omega,yw j1 hx3 j3 q⟩,by omega,rfl,?_⟩
     repeat' first|exact dd _ _|exact trivial|exact rfl|exact ah _|refine aq ?_|refine aw ?_ ?_|exact aF|exact aJ _ _ _ (.inl rfl)|(exact bi (by omega))|refine aD ?_|refine av ?_|refine aC ?_ ?_ ?_|refine aB ?_ ?_ ?_|refine toMax ?_|refine toMin ?_|refine ⟨rfl,?_⟩|refine ⟨trivial,?_⟩|(refine aG (fun h =>?_) (fun h =>?_))|(refine aE (fun h =>?_) (fun h =>?_))|(refine aI (fun h =>?_) (fun h =>?_))|refine aA ?_|(refine ⟨az (by omega),?_⟩)|(refine And.intro (by omega) ?_)|apply And.intro|(exact iEq (by omega))|(exact az (by omega))
   ·obtain rfl:x3=S.length:=by omega
    rw[List.take_length]at j3
    rw[hdone j3,hfin j3]
    exact ⟨rfl,ct,⟨rfl,dd _ _⟩,trivial⟩
def lW(sp:Value)(a:List Bool):Prop :=
 ((((((a.length:Nat):Int):Int) != ((a.length:Nat):Int))=true->(.bool false:Value)=sp)/\(((((a.length:Nat):Int):Int) != ((a.length:Nat):Int))=false->(true=true/\(0<=List.length a)/\(true=true/\((nI 0:Value)=nI ((0:Nat):Int)/\wkR (slQ 1 2 a.length)/\wkR (slQ 0 2 a.length)/\True)/\(True)/\(True)/\(True))/\(∀x0:Nat,true=true)/\∀x0:Nat,(x0<=List.length a)->(((decide (((x0:Int):Int)<((a.length:Nat):Int)))=true->(((0:Int)<=(x0:Int)/\((x0:Int):Int)<((a.length:Nat):Int))/\(((a.flatMap ak)[(0+Int.toNat (x0:Int)*1)]?=some (.bool (a.getD x0 false)))/\(((0:Int)<=(x0:Int)/\((x0:Int):Int)<((a.length:Nat):Int))/\(((a.flatMap ak)[(0+Int.toNat (x0:Int)*1)]?=some (.bool (a.getD x0 false)))/\(((!((a.getD x0 false) == (a.getD x0 false)))=true->(.bool false:Value)=sp)/\((!((a.getD x0 false) == (a.getD x0 false)))=false->((nI (IntKind.wrap .i64 ((x0:Int)+1)):Value)=nI ((x0:Int)+1)/\(∃x0':Nat,(x0'<=List.length a)/\(List.length a-x0')<(List.length a-x0)/\true=true/\((nI ((x0:Int)+1):Value)=nI (x0':Int)/\wkR (slQ 1 2 a.length)/\wkR (slQ 0 2 a.length)/\True)/\(True)/\(True)/\(True))))))))))/\((decide (((x0:Int):Int)<((a.length:Nat):Int)))=false->(.bool true:Value)=sp)))))
theorem sO(sp:Value)(a:List Bool):vF prog msk (dm 0) 100000 true 40 true 69 [slQ 0 2 a.length,slQ 1 2 a.length] (aY 0 [a.flatMap ak,a.flatMap ak]) (some [])
 (.go 5 (.fork (.auto) (.go 0 (.inv 3 (Nat) (0) [] [] (fun x0=>[(5,nI (x0:Int)),(1,slQ 1 2 a.length),(0,slQ 0 2 a.length)]) (fun x0=>[]) (fun x0=>[]) (fun x0=>[]) (fun x0=>(x0<=List.length a)) (fun x0=>(List.length a-x0)) (fun x0 => .go 3 (.fork (.go 1 (.need (.val (.bool (a.getD x0 false)) (.go 1 (.need (.val (.bool (a.getD x0 false)) (.go 0 (.fork (.auto) (.go 1 (.slot 16 (nI ((x0:Int)+1)) (.go 0 (.again [])))))))))))) (.auto)))))))
 (fun v _ _=>v=sp)=lW sp a:=by kernel_rfl
def yS(w h:Int)(a:List Bool):Prop :=
 ((a.length=0->(((0+a.length)*1<=2 ^ 44/\a.length=0)/\(true=true/\wk (.agg #[nI w,nI h,.slice none 0 0]:Value) (rn (sg 1 []) 3 (.agg #[nI w,nI h,slQ 1 1 a.length]:Value))/\(True/\True))))/\(¬ (a.length=0)->(((0+a.length)*1<=2 ^ 44/\a.length≠0/\(0=0)/\(a.length<=a.length/\0+a.length*1<=List.length (a.flatMap ak))/\((((a.flatMap ak).drop 0).take (a.length*1)):List Value).all (fun v=>di v)=true)/\true=true/\(true=true/\wk (.agg #[nI w,nI h,.slice (some ⟨3,0,none⟩) (0+a.length) (0+a.length)]:Value) (rn (sg 1 [(1,3)]) 3 (.agg #[nI w,nI h,slQ 1 1 a.length]:Value))/\((some (.cells true 1 ([]++(((a.flatMap ak).drop 0).take (a.length*1))):ab)=some (.cells true 1 (a.flatMap ak):ab)/\ar 1 (.cells true 1 (a.flatMap ak):ab)=true)/\True)))))
theorem B6(w h:Int)(a:List Bool):vF prog msk (dm 0) 100000 true 40 true 9 [.agg #[nI w,nI h,slQ 0 2 a.length]] (aY 0 [a.flatMap ak]) (some [])
 (.go 12 (.cas (a.length=0) (.val (.bool true) (.go 2 (.again []))) (.need (.go 2 (.again [(1,3)])))))
 (gu ((aY 0 [a.flatMap ak]):HT).n 3 (.agg #[nI w,nI h,slQ 1 1 a.length]) [(true,.cells true 1 (a.flatMap ak))])=yS w h a:=by kernel_rfl
def yP(l:List Flow):Prop :=
 (true=true/\(0<=List.length l)/\(true=true/\((nI 0:Value)=nI ((0:Nat):Int)/\wk (.slice none 0 0:Value) (slQ 0 1 0:Value)/\wkR (slQ 0 2 l.length)/\(.slice none 0 0:Value) = .slice none 0 0/\True)/\(True)/\(True/\True)/\(True))/\(∀x0:Nat,true=true)/\∀x0:Nat,(x0<=List.length l)->(((decide (((x0:Int):Int)<((l.length:Nat):Int)))=true->(((0:Int)<=(x0:Int)/\((x0:Int):Int)<((l.length:Nat):Int))/\((cj 4 (l.flatMap aS) (0+Int.toNat (x0:Int)*4)=some (.agg #[nI (l.getD x0 af).x.lo,nI (l.getD x0 af).x.hi,nI (l.getD x0 af).y.lo,nI (l.getD x0 af).y.hi]))/\(((x0+1)*32<=2 ^ 44/\1≠0/\(x0<=x0/\0+x0*4<=List.length ((l.take x0).flatMap aS))/\(1<=1/\0+1*4<=List.length ([nI (l.getD x0 af).x.lo,nI (l.getD x0 af).x.hi,nI (l.getD x0 af).y.lo,nI (l.getD x0 af).y.hi]:List Value))/\(((([nI (l.getD x0 af).x.lo,nI (l.getD x0 af).x.hi,nI (l.getD x0 af).y.lo,nI (l.getD x0 af).y.hi]:List Value).drop 0).take (1*4)):List Value).all (fun v=>di v)=true)/\true=true/\((nI (IntKind.wrap .i64 ((x0:Int)+1)):Value)=nI ((x0:Int)+1)/\(∃x0':Nat,(x0'<=List.length l)/\(List.length l-x0')<(List.length l-x0)/\true=true/\((nI ((x0:Int)+1):Value)=nI (x0':Int)/\wk (.slice (some ⟨3,0,none⟩) (x0+1) (x0+1):Value) (slQ 3 1 x0':Value)/\wkR (slQ 0 2 l.length)/\(.slice none 0 0:Value) = .slice none 0 0/\True)/\(True)/\((some (.cells true 4 (((((l.take x0).flatMap aS).drop 0).take (x0*4))++((([nI (l.getD x0 af).x.lo,nI (l.getD x0 af).x.hi,nI (l.getD x0 af).y.lo,nI (l.getD x0 af).y.hi]:List Value).drop 0).take (1*4))):ab)=some (.cells true 4 ((l.take x0').flatMap aS):ab)/\ar 1 (.cells true 4 ((l.take x0').flatMap aS):ab)=true)/\True)/\(True)))))))/\((decide (((x0:Int):Int)<((l.length:Nat):Int)))=false->(true=true/\wk (slQ 1 1 x0:Value) (rn (sg 1 [(1,1)]) 3 (slQ 1 1 l.length:Value))/\((some (.cells true 4 ((l.take x0).flatMap aS):ab)=some (.cells true 4 (l.flatMap aS):ab)/\ar 1 (.cells true 4 (l.flatMap aS):ab)=true)/\True)))))
theorem B3(l:List Flow):vF prog msk (dm 0) 100000 true 40 true 10 [slQ 0 2 l.length] (aY 0 [l.flatMap aS]) (some [])
 (.go 2 (.inv 3 (Nat) (0) [] [] (fun x0=>[(4,nI (x0:Int)),(3,slQ 1 1 x0),(0,slQ 0 2 l.length),(2,.slice none 0 0)]) (fun x0=>[]) (fun x0=>[(true,.cells true 4 ((l.take x0).flatMap aS))]) (fun x0=>[]) (fun x0=>(x0<=List.length l)) (fun x0=>(List.length l-x0)) (fun x0 => .go 3 (.fork (.go 2 (.need (.val (.agg #[nI (l.getD x0 af).x.lo,nI (l.getD x0 af).x.hi,nI (l.getD x0 af).y.lo,nI (l.getD x0 af).y.hi]) (.go 0 (.need (.go 2 (.slot 10 (nI ((x0:Int)+1)) (.go 0 (.again [(1,3)]))))))))) (.go 1 (.again [(1,1)]))))))
 (gu ((aY 0 [l.flatMap aS]):HT).n 3 (slQ 1 1 l.length) [(true,.cells true 4 (l.flatMap aS))])=yP l:=by kernel_rfl
theorem jS{w h:Int}{n:Nat}{l:List Flow}(e:bk w h n l=0):bR w h n=0/\l.length=n/\gP l=0:=by
 unfold bk cU at e
 split at e
 ·rename_i h0
  split at e
  ·rename_i h1;exact ⟨h0,h1,e⟩
  ·omega
 ·rename_i h0;exact absurd e h0
theorem nP:∀{l:List Flow},gP l=0->∀f∈l,bX f
 | [],_,f,hf=>by cases hf
 |g :: r,e,f,hf=>by
  unfold gP at e
  split at e
  ·rename_i hg
   rcases List.mem_cons.1 hf with rfl|hf
   ·exact hg
   ·exact nP e f hf
  ·omega
theorem oD{w h:Int}{a:List Bool}{c:Int}{f:Flow}(b:cZ w h a.length)(hc:0<=c/\c<w*h):comp (bg (tgL w h a c f))=tgts w h a c f :=
 tO (n:=Int.toNat (w*h)) fun z hz=>by
  have:=wE (a:=a) (f:=f) hc z hz
  have:=b.n1
  omega
theorem zm{b:Bool}(h:(!b)=true):b=false:=by cases b <;> first|rfl|cases h
theorem Au{b:Bool}(h:(!b)=false):b=true:=by cases b <;> first|rfl|cases h
theorem rP(a:List Bool)(ha:a.length<=4294967296){H:Heap}{id id2:Nat}{own kX:Bool}{z z2:Nat}(hid:H[id]?=some (.cells own z (a.flatMap ak)))(tG:H[id2]?=some (.cells kX z2 (a.flatMap ak))) :
  am prog F.iv [.slice (some ⟨id,0,some 2⟩) a.length a.length,.slice (some ⟨id2,0,some 2⟩) a.length a.length] H [] (Is (.bool true) H):=by
 refine ir (Eq.mpr (sO _ a) ?_) (mA (bc 0 _) (bc 0 _)) rfl [id,id2] rfl (lD hid tG)
 unfold lW
 refine dG (by simp only[bne_self_eq_false,beq_self_eq_true,Bool.and_self,Bool.not_true,Bool.not_false]) ⟨rfl,Nat.zero_le _,?_,fun _=>rfl,?_⟩
 ·repeat' first|exact trivial|exact rfl|exact ah _|refine aq ?_|refine aw ?_ ?_|exact aF|exact aJ _ _ _ (.inl rfl)|(exact bi (by omega))|refine aD ?_|refine av ?_|refine aC ?_ ?_ ?_|refine aB ?_ ?_ ?_|refine toMax ?_|refine toMin ?_|refine ⟨rfl,?_⟩|refine ⟨trivial,?_⟩|(refine aG (fun h =>?_) (fun h =>?_))|(refine aE (fun h =>?_) (fun h =>?_))|(refine aI (fun h =>?_) (fun h =>?_))|refine aA ?_|(refine ⟨az (by omega),?_⟩)|(refine And.intro (by omega) ?_)|apply And.intro|(exact iEq (by omega))|(exact az (by omega))
 intro k hk
 refine aG (fun h =>?_) (fun h=>rfl)
 have hlt:k<a.length:=by omega
 refine ⟨by omega,fT hlt (by omega),by omega,fT hlt (by omega),dG (by simp only[bne_self_eq_false,beq_self_eq_true,Bool.and_self,Bool.not_true,Bool.not_false]) ⟨az (by omega),k+1,by omega,by omega,rfl,?_⟩⟩
 repeat' first|exact trivial|exact rfl|exact ah _|refine aq ?_|refine aw ?_ ?_|exact aF|exact aJ _ _ _ (.inl rfl)|(exact bi (by omega))|refine aD ?_|refine av ?_|refine aC ?_ ?_ ?_|refine aB ?_ ?_ ?_|refine toMax ?_|refine toMin ?_|refine ⟨rfl,?_⟩|refine ⟨trivial,?_⟩|(refine aG (fun h =>?_) (fun h =>?_))|(refine aE (fun h =>?_) (fun h =>?_))|(refine aI (fun h =>?_) (fun h =>?_))|refine aA ?_|(refine ⟨az (by omega),?_⟩)|(refine And.intro (by omega) ?_)|apply And.intro|(exact iEq (by omega))|(exact az (by omega))
theorem xD(w h:Int)(a:List Bool)(ha:a.length<=4294967296){H:Heap}{L:Nat}(hL:H.length=L){id:Nat}{own:Bool}{z:Nat}(hid:H[id]?=some (.cells own z (a.flatMap ak))) :
  am prog F.jH [fg w h id a.length] H [] (Is (.agg #[.int .i64 w,.int .i64 h,.slice (some ⟨L,0,some 1⟩) a.length a.length]) (H ++ [.cells true 1 (a.flatMap ak)])):=by
 subst hL
 refine sY (fun i => .agg #[.int .i64 w,.int .i64 h,.slice (some ⟨i,0,some 1⟩) a.length a.length]) (Eq.mpr (B6 w h a) ?_) (bc 0 a) (fun n=>bc n _) rfl rfl (fun _=>rfl) hid rfl
 unfold yS
 have hfl:(a.flatMap ak).length=a.length*1:=aU jh a
 refine ⟨fun h0=>⟨⟨by omega,h0⟩,?_⟩,fun h0=>⟨⟨by omega,h0,rfl,⟨Nat.le_refl _,by omega⟩,?_⟩,rfl,?_⟩⟩
 ·rw[h0]
  repeat' first|exact trivial|exact rfl|exact ah _|refine aq ?_|refine aw ?_ ?_|exact aF|exact aJ _ _ _ (.inl rfl)|(exact bi (by omega))|refine aD ?_|refine av ?_|refine aC ?_ ?_ ?_|refine aB ?_ ?_ ?_|refine toMax ?_|refine toMin ?_|refine ⟨rfl,?_⟩|refine ⟨trivial,?_⟩|(refine aG (fun h =>?_) (fun h =>?_))|(refine aE (fun h =>?_) (fun h =>?_))|(refine aI (fun h =>?_) (fun h =>?_))|refine aA ?_|(refine ⟨az (by omega),?_⟩)|(refine And.intro (by omega) ?_)|apply And.intro|(exact iEq (by omega))|(exact az (by omega))
 ·rw[List.drop_zero,<- hfl,List.take_length]
  exact List.all_eq_true.2 fun v hv=>by obtain ⟨b,_,hb⟩:=List.mem_flatMap.1 hv;rw[List.mem_singleton.1 hb];rfl
 ·rw[List.drop_zero,<- hfl,List.take_length,List.nil_append,Nat.zero_add]
  repeat' first|exact bc _ _|exact trivial|exact rfl|exact ah _|refine aq ?_|refine aw ?_ ?_|exact aF|exact aJ _ _ _ (.inl rfl)|(exact bi (by omega))|refine aD ?_|refine av ?_|refine aC ?_ ?_ ?_|refine aB ?_ ?_ ?_|refine toMax ?_|refine toMin ?_|refine ⟨rfl,?_⟩|refine ⟨trivial,?_⟩|(refine aG (fun h =>?_) (fun h =>?_))|(refine aE (fun h =>?_) (fun h =>?_))|(refine aI (fun h =>?_) (fun h =>?_))|refine aA ?_|(refine ⟨az (by omega),?_⟩)|(refine And.intro (by omega) ?_)|apply And.intro|(exact iEq (by omega))|(exact az (by omega))
theorem Bi(l:List Flow)(hl:l.length<=4294967296){H:Heap}{L:Nat}(hL:H.length=L){id:Nat}{own:Bool}{z:Nat}(hid:H[id]?=some (.cells own z (l.flatMap aS))) :
  am prog F.fI [.slice (some ⟨id,0,some 2⟩) l.length l.length] H [] (Is (.slice (some ⟨L,0,some 1⟩) l.length l.length) (H ++ [.cells true 4 (l.flatMap aS)])):=by
 subst hL
 refine sY (fun i => .slice (some ⟨i,0,some 1⟩) l.length l.length) (Eq.mpr (B3 l) ?_) (fk 0 l) (fun n=>fk n _) rfl rfl (fun _=>rfl) hid rfl
 unfold yP
 refine ⟨rfl,Nat.zero_le _,?_,fun _=>rfl,?_⟩
 ·repeat' first|exact trivial|exact rfl|exact ah _|refine aq ?_|refine aw ?_ ?_|exact aF|exact aJ _ _ _ (.inl rfl)|(exact bi (by omega))|refine aD ?_|refine av ?_|refine aC ?_ ?_ ?_|refine aB ?_ ?_ ?_|refine toMax ?_|refine toMin ?_|refine ⟨rfl,?_⟩|refine ⟨trivial,?_⟩|(refine aG (fun h =>?_) (fun h =>?_))|(refine aE (fun h =>?_) (fun h =>?_))|(refine aI (fun h =>?_) (fun h =>?_))|refine aA ?_|(refine ⟨az (by omega),?_⟩)|(refine And.intro (by omega) ?_)|apply And.intro|(exact iEq (by omega))|(exact az (by omega))
 intro x hx
 have htl:(List.take x l).length=x:=by rw[List.length_take];omega
 refine aG (fun h =>?_) (fun h =>?_)
 ·have hlt:x<l.length:=by omega
  have hs:List.take (x+1) l=List.take x l ++ [l.getD x af]:=by
   rw[List.take_add_one,List.getElem?_eq_getElem hlt,List.getD_eq_getElem?_getD,List.getElem?_eq_getElem hlt];rfl
  refine ⟨by omega,kj hlt,⟨by omega,by decide,⟨Nat.le_refl _,by rw[aU fu,htl];omega⟩,⟨by decide,Nat.le_refl _⟩,rfl⟩,rfl,az (by omega),x+1,by omega,by omega,rfl,?_⟩
  repeat' first|exact fk _ _|(exact congrArg (fun l=>some (ab.cells true 4 l)) (by rw[hs];exact jb fu _ (l.getD x af) htl.symm))|exact trivial|exact rfl|exact ah _|refine aq ?_|refine aw ?_ ?_|exact aF|exact aJ _ _ _ (.inl rfl)|(exact bi (by omega))|refine aD ?_|refine av ?_|refine aC ?_ ?_ ?_|refine aB ?_ ?_ ?_|refine toMax ?_|refine toMin ?_|refine ⟨rfl,?_⟩|refine ⟨trivial,?_⟩|(refine aG (fun h =>?_) (fun h =>?_))|(refine aE (fun h =>?_) (fun h =>?_))|(refine aI (fun h =>?_) (fun h =>?_))|refine aA ?_|(refine ⟨az (by omega),?_⟩)|(refine And.intro (by omega) ?_)|apply And.intro|(exact iEq (by omega))|(exact az (by omega))
 ·obtain rfl:x=l.length:=by omega
  rw[List.take_length]
  repeat' first|exact fk _ _|exact trivial|exact rfl|exact ah _|refine aq ?_|refine aw ?_ ?_|exact aF|exact aJ _ _ _ (.inl rfl)|(exact bi (by omega))|refine aD ?_|refine av ?_|refine aC ?_ ?_ ?_|refine aB ?_ ?_ ?_|refine toMax ?_|refine toMin ?_|refine ⟨rfl,?_⟩|refine ⟨trivial,?_⟩|(refine aG (fun h =>?_) (fun h =>?_))|(refine aE (fun h =>?_) (fun h =>?_))|(refine aI (fun h =>?_) (fun h =>?_))|refine aA ?_|(refine ⟨az (by omega),?_⟩)|(refine And.intro (by omega) ?_)|apply And.intro|(exact iEq (by omega))|(exact az (by omega))
theorem du{a b:Int}(h:a=b):(Value.int .i64 a) = .int .i64 b:=by rw[h]
structure Cell where
 ai:Span
 ac:Span
 ad:Span
 ae:Span
structure Ice where
 ai:Int
 ac:Int
 ad:Int
 ae:Int
structure bu where
 up:Ice
 down:Ice
structure Report where
 id:Int
 source:Int
 at_:Int
 x:Int
 y:Int
 has:Int
 cell:Cell
abbrev bM(x:Ice):List Value:=[.int .i64 x.ai,.int .i64 x.ac,.int .i64 x.ad,.int .i64 x.ae]
abbrev cellC(c:Cell):List Value:=[.int .i64 c.ai.lo,.int .i64 c.ai.hi,.int .i64 c.ac.lo,.int .i64 c.ac.hi,.int .i64 c.ad.lo,.int .i64 c.ad.hi,.int .i64 c.ae.lo,.int .i64 c.ae.hi]
abbrev A1(m:bu):List Value:=[.int .i64 m.up.ai,.int .i64 m.up.ac,.int .i64 m.up.ad,.int .i64 m.up.ae,.int .i64 m.down.ai,.int .i64 m.down.ac,.int .i64 m.down.ad,.int .i64 m.down.ae]
abbrev xG(x:Ice):Value:=.agg ⟨bM x⟩
abbrev cellV(c:Cell):Value:=.agg ⟨cellC c⟩
abbrev gj(m:bu):Value:=.agg ⟨A1 m⟩
def nZ(sp:Value)(c:Cell):Prop :=
 (((decide ((0:Int)<=c.ai.lo))=true->(((decide ((c.ai.lo:Int)<=100))=true->(((decide ((c.ai.lo:Int)<=c.ai.hi))=true->(((!(decide ((c.ai.hi:Int)<=100)))=true->(nI 20:Value)=sp)/\((!(decide ((c.ai.hi:Int)<=100)))=false->(((decide ((0:Int)<=c.ac.lo))=true->(((decide ((c.ac.lo:Int)<=400))=true->(((decide ((c.ac.lo:Int)<=c.ac.hi))=true->(((!(decide ((c.ac.hi:Int)<=400)))=true->(nI 20:Value)=sp)/\((!(decide ((c.ac.hi:Int)<=400)))=false->(((decide ((0:Int)<=c.ad.lo))=true->(((decide ((c.ad.lo:Int)<=100))=true->(((decide ((c.ad.lo:Int)<=c.ad.hi))=true->(((!(decide ((c.ad.hi:Int)<=100)))=true->(nI 20:Value)=sp)/\((!(decide ((c.ad.hi:Int)<=100)))=false->(((decide ((0:Int)<=c.ae.lo))=true->(((decide ((c.ae.lo:Int)<=3))=true->(((decide ((c.ae.lo:Int)<=c.ae.hi))=true->(((!(decide ((c.ae.hi:Int)<=3)))=true->(nI 20:Value)=sp)/\((!(decide ((c.ae.hi:Int)<=3)))=false->(nI 0:Value)=sp)))/\((decide ((c.ae.lo:Int)<=c.ae.hi))=false->(nI 20:Value)=sp)))/\((decide ((c.ae.lo:Int)<=3))=false->(nI 20:Value)=sp)))/\((decide ((0:Int)<=c.ae.lo))=false->(nI 20:Value)=sp)))))/\((decide ((c.ad.lo:Int)<=c.ad.hi))=false->(nI 20:Value)=sp)))/\((decide ((c.ad.lo:Int)<=100))=false->(nI 20:Value)=sp)))/\((decide ((0:Int)<=c.ad.lo))=false->(nI 20:Value)=sp)))))/\((decide ((c.ac.lo:Int)<=c.ac.hi))=false->(nI 20:Value)=sp)))/\((decide ((c.ac.lo:Int)<=400))=false->(nI 20:Value)=sp)))/\((decide ((0:Int)<=c.ac.lo))=false->(nI 20:Value)=sp)))))/\((decide ((c.ai.lo:Int)<=c.ai.hi))=false->(nI 20:Value)=sp)))/\((decide ((c.ai.lo:Int)<=100))=false->(nI 20:Value)=sp)))/\((decide ((0:Int)<=c.ai.lo))=false->(nI 20:Value)=sp))
theorem t8(sp:Value)(c:Cell):vF prog msk (dm 0) 100000 true 40 true 131 [.agg #[nI c.ai.lo,nI c.ai.hi,nI c.ac.lo,nI c.ac.hi,nI c.ad.lo,nI c.ad.hi,nI c.ae.lo,nI c.ae.hi]] ⟨0,.leaf⟩ (some [])
 (.go 54 (.aO (.go 5 (.aO (.go 15 (.aO (.go 8 (.fork (.auto) (.go 30 (.aO (.go 5 (.aO (.go 15 (.aO (.go 8 (.fork (.auto) (.go 30 (.aO (.go 5 (.aO (.go 15 (.aO (.go 8 (.fork (.auto) (.go 30 (.aO (.go 5 (.aO (.go 15 (.aO (.go 8 (.fork (.auto) (.auto))) (.auto))) (.auto))) (.auto))))) (.auto))) (.auto))) (.auto))))) (.auto))) (.auto))) (.auto))))) (.auto))) (.auto))) (.auto)))
 (fun v _ _=>v=sp)=nZ sp c:=by kernel_rfl
def lX(sp:Value)(m:bu):Prop :=
 (((decide ((0:Int)<=m.up.ai))=true->(((decide ((m.up.ai:Int)<=1000))=true->(((decide ((0:Int)<=m.down.ai))=true->(((!(decide ((m.down.ai:Int)<=1000)))=true->(nI 6:Value)=sp)/\((!(decide ((m.down.ai:Int)<=1000)))=false->(((decide ((0:Int)<=m.up.ac))=true->(((decide ((m.up.ac:Int)<=1000))=true->(((decide ((0:Int)<=m.down.ac))=true->(((!(decide ((m.down.ac:Int)<=1000)))=true->(nI 6:Value)=sp)/\((!(decide ((m.down.ac:Int)<=1000)))=false->(((decide ((0:Int)<=m.up.ad))=true->(((decide ((m.up.ad:Int)<=1000))=true->(((decide ((0:Int)<=m.down.ad))=true->(((!(decide ((m.down.ad:Int)<=1000)))=true->(nI 6:Value)=sp)/\((!(decide ((m.down.ad:Int)<=1000)))=false->(((decide ((0:Int)<=m.up.ae))=true->(((decide ((m.up.ae:Int)<=1000))=true->(((decide ((0:Int)<=m.down.ae))=true->(((!(decide ((m.down.ae:Int)<=1000)))=true->(nI 6:Value)=sp)/\((!(decide ((m.down.ae:Int)<=1000)))=false->(nI 0:Value)=sp)))/\((decide ((0:Int)<=m.down.ae))=false->(nI 6:Value)=sp)))/\((decide ((m.up.ae:Int)<=1000))=false->(nI 6:Value)=sp)))/\((decide ((0:Int)<=m.up.ae))=false->(nI 6:Value)=sp)))))/\((decide ((0:Int)<=m.down.ad))=false->(nI 6:Value)=sp)))/\((decide ((m.up.ad:Int)<=1000))=false->(nI 6:Value)=sp)))/\((decide ((0:Int)<=m.up.ad))=false->(nI 6:Value)=sp)))))/\((decide ((0:Int)<=m.down.ac))=false->(nI 6:Value)=sp)))/\((decide ((m.up.ac:Int)<=1000))=false->(nI 6:Value)=sp)))/\((decide ((0:Int)<=m.up.ac))=false->(nI 6:Value)=sp)))))/\((decide ((0:Int)<=m.down.ai))=false->(nI 6:Value)=sp)))/\((decide ((m.up.ai:Int)<=1000))=false->(nI 6:Value)=sp)))/\((decide ((0:Int)<=m.up.ai))=false->(nI 6:Value)=sp))
theorem sP(sp:Value)(m:bu):vF prog msk (dm 0) 100000 true 40 true 71 [.agg #[nI m.up.ai,nI m.up.ac,nI m.up.ad,nI m.up.ae,nI m.down.ai,nI m.down.ac,nI m.down.ad,nI m.down.ae]] ⟨0,.leaf⟩ (some [])
 (.go 60 (.aO (.go 5 (.aO (.go 8 (.aO (.go 7 (.fork (.auto) (.go 18 (.aO (.go 5 (.aO (.go 8 (.aO (.go 7 (.fork (.auto) (.go 18 (.aO (.go 5 (.aO (.go 8 (.aO (.go 7 (.fork (.auto) (.go 18 (.aO (.go 5 (.aO (.go 8 (.aO (.go 7 (.fork (.auto) (.auto))) (.auto))) (.auto))) (.auto))))) (.auto))) (.auto))) (.auto))))) (.auto))) (.auto))) (.auto))))) (.auto))) (.auto))) (.auto)))
 (fun v _ _=>v=sp)=lX sp m:=by kernel_rfl
def vi(sp:Value)(rate hours:Int):Prop :=
 ((nI (IntKind.wrap .i64 (rate*hours)):Value)=nI (rate*hours)/\((nI (IntKind.wrap .i64 ((rate*hours)+24)):Value)=nI ((rate*hours)+24)/\((nI (IntKind.wrap .i64 (((rate*hours)+24)-1)):Value)=nI (((rate*hours)+24)-1)/\((nI (IntKind.wrap .i64 (Int.tdiv (((rate*hours)+24)-1) 24)):Value)=nI (Int.tdiv (((rate*hours)+24)-1) 24)/\(nI (Int.tdiv (((rate*hours)+24)-1) 24):Value)=sp))))
theorem Aj(sp:Value)(rate hours:Int):vF prog msk (dm 0) 100000 true 40 true 168 [nI rate,nI hours] ⟨0,.leaf⟩ (some [])
 (.go 3 (.slot 7 (nI (rate*hours)) (.go 0 (.slot 8 (nI ((rate*hours)+24)) (.go 0 (.slot 9 (nI (((rate*hours)+24)-1)) (.go 0 (.slot 10 (nI (Int.tdiv (((rate*hours)+24)-1) 24)) (.auto)))))))))
 (fun v _ _=>v=sp)=vi sp rate hours:=by kernel_rfl
def CO(sp:Value)(c:Cell)(m:bu)(hours:Int):Prop :=
 (∃r0:Int,((True)/\(∀H':Heap,H'.length=3->(True)->am prog 131 [.agg #[nI c.ai.lo,nI c.ai.hi,nI c.ac.lo,nI c.ac.hi,nI c.ad.lo,nI c.ad.hi,nI c.ae.lo,nI c.ae.hi]] H' [] (Is (nI r0) H'))/\(∃r1:Int,((True)/\(∀H':Heap,H'.length=3->(True)->am prog 71 [.agg #[nI m.up.ai,nI m.up.ac,nI m.up.ad,nI m.up.ae,nI m.down.ai,nI m.down.ac,nI m.down.ad,nI m.down.ae]] H' [] (Is (nI r1) H'))/\((((r0:Int) != 0)=true->((.bool ((r0:Int) != 0):Value) = .bool true/\(.tuple #[.agg #[nI 0,nI 0,nI 0,nI 0,nI 0,nI 0,nI 0,nI 0],nI r0]:Value)=sp))/\(((r0:Int) != 0)=false->((((r1:Int) != 0)=true->((.bool ((r1:Int) != 0):Value) = .bool true/\(.tuple #[.agg #[nI 0,nI 0,nI 0,nI 0,nI 0,nI 0,nI 0,nI 0],nI r1]:Value)=sp))/\(((r1:Int) != 0)=false->(((decide ((0:Int)<=hours))=true->(((!(decide ((hours:Int)<=10000)))=true->(.tuple #[.agg #[nI 0,nI 0,nI 0,nI 0,nI 0,nI 0,nI 0,nI 0],nI 6]:Value)=sp)/\((!(decide ((hours:Int)<=10000)))=false->(∃r2:Int,((True)/\(∀H':Heap,H'.length=13->(True)->am prog 168 [nI m.down.ai,nI hours] H' [] (Is (nI r2) H'))/\((nI (IntKind.wrap .i64 (c.ai.lo-r2)):Value)=nI (c.ai.lo-r2)/\(∃y3:Int,(nI (if (0:Int) > (c.ai.lo-r2) then (0:Int) else (c.ai.lo-r2)):Value)=nI y3/\(∃r4:Int,((True)/\(∀H':Heap,H'.length=13->(True)->am prog 168 [nI m.up.ai,nI hours] H' [] (Is (nI r4) H'))/\((nI (IntKind.wrap .i64 (c.ai.hi+r4)):Value)=nI (c.ai.hi+r4)/\(∃y5:Int,(nI (if (100:Int)<(c.ai.hi+r4) then (100:Int) else (c.ai.hi+r4)):Value)=nI y5/\(∃r6:Int,((True)/\(∀H':Heap,H'.length=13->(True)->am prog 168 [nI m.down.ac,nI hours] H' [] (Is (nI r6) H'))/\((nI (IntKind.wrap .i64 (c.ac.lo-r6)):Value)=nI (c.ac.lo-r6)/\(∃y7:Int,(nI (if (0:Int) > (c.ac.lo-r6) then (0:Int) else (c.ac.lo-r6)):Value)=nI y7/\(∃r8:Int,((True)/\(∀H':Heap,H'.length=13->(True)->am prog 168 [nI m.up.ac,nI hours] H' [] (Is (nI r8) H'))/\((nI (IntKind.wrap .i64 (c.ac.hi+r8)):Value)=nI (c.ac.hi+r8)/\(∃y9:Int,(nI (if (400:Int)<(c.ac.hi+r8) then (400:Int) else (c.ac.hi+r8)):Value)=nI y9/\(∃r10:Int,((True)/\(∀H':Heap,H'.length=13->(True)->am prog 168 [nI m.down.ad,nI hours] H' [] (Is (nI r10) H'))/\((nI (IntKind.wrap .i64 (c.ad.lo-r10)):Value)=nI (c.ad.lo-r10)/\(∃y11:Int,(nI (if (0:Int) > (c.ad.lo-r10) then (0:Int) else (c.ad.lo-r10)):Value)=nI y11/\(∃r12:Int,((True)/\(∀H':Heap,H'.length=13->(True)->am prog 168 [nI m.up.ad,nI hours] H' [] (Is (nI r12) H'))/\((nI (IntKind.wrap .i64 (c.ad.hi+r12)):Value)=nI (c.ad.hi+r12)/\(∃y13:Int,(nI (if (100:Int)<(c.ad.hi+r12) then (100:Int) else (c.ad.hi+r12)):Value)=nI y13/\(∃r14:Int,((True)/\(∀H':Heap,H'.length=13->(True)->am prog 168 [nI m.down.ae,nI hours] H' [] (Is (nI r14) H'))/\((nI (IntKind.wrap .i64 (c.ae.lo-r14)):Value)=nI (c.ae.lo-r14)/\(∃y15:Int,(nI (if (0:Int) > (c.ae.lo-r14) then (0:Int) else (c.ae.lo-r14)):Value)=nI y15/\(∃r16:Int,((True)/\(∀H':Heap,H'.length=13->(True)->am prog 168 [nI m.up.ae,nI hours] H' [] (Is (nI r16) H'))/\((nI (IntKind.wrap .i64 (c.ae.hi+r16)):Value)=nI (c.ae.hi+r16)/\(∃y17:Int,(nI (if (3:Int)<(c.ae.hi+r16) then (3:Int) else (c.ae.hi+r16)):Value)=nI y17/\(.tuple #[.agg #[nI y3,nI y5,nI y7,nI y9,nI y11,nI y13,nI y15,nI y17],nI 0]:Value)=sp)))))))))))))))))))))))))))))))))))/\((decide ((0:Int)<=hours))=false->(.tuple #[.agg #[nI 0,nI 0,nI 0,nI 0,nI 0,nI 0,nI 0,nI 0],nI 6]:Value)=sp))))))))))
theorem Di(sp:Value)(c:Cell)(m:bu)(hours:Int):vF prog msk (dm 0) 100000 true 40 true 72 [.agg #[nI c.ai.lo,nI c.ai.hi,nI c.ac.lo,nI c.ac.hi,nI c.ad.lo,nI c.ad.hi,nI c.ae.lo,nI c.ae.hi],.agg #[nI m.up.ai,nI m.up.ac,nI m.up.ad,nI m.up.ae,nI m.down.ai,nI m.down.ac,nI m.down.ad,nI m.down.ae],nI hours] ⟨0,.leaf⟩ (some [])
 (.go 5 (.bind (Int) (fun r0 => .ans [] (nI r0) [] (.bind (Int) (fun r1 => .ans [] (nI r1) [] (.go 12 (.fork (.go 4 (.slot 16 (.bool true) (.auto))) (.go 8 (.fork (.go 4 (.slot 16 (.bool true) (.auto))) (.go 15 (.aO (.go 5 (.fork (.auto) (.go 85 (.bind (Int) (fun r2 => .ans [] (nI r2) [] (.go 0 (.slot 16 (nI (c.ai.lo-r2)) (.go 0 (.bind Int (fun y3 => .slot 17 (nI y3) (.bind (Int) (fun r4 => .ans [] (nI r4) [] (.go 0 (.slot 27 (nI (c.ai.hi+r4)) (.go 5 (.bind Int (fun y5 => .slot 31 (nI y5) (.go 31 (.bind (Int) (fun r6 => .ans [] (nI r6) [] (.go 0 (.slot 16 (nI (c.ac.lo-r6)) (.go 0 (.bind Int (fun y7 => .slot 17 (nI y7) (.bind (Int) (fun r8 => .ans [] (nI r8) [] (.go 0 (.slot 27 (nI (c.ac.hi+r8)) (.go 5 (.bind Int (fun y9 => .slot 31 (nI y9) (.go 31 (.bind (Int) (fun r10 => .ans [] (nI r10) [] (.go 0 (.slot 16 (nI (c.ad.lo-r10)) (.go 0 (.bind Int (fun y11 => .slot 17 (nI y11) (.bind (Int) (fun r12 => .ans [] (nI r12) [] (.go 0 (.slot 27 (nI (c.ad.hi+r12)) (.go 5 (.bind Int (fun y13 => .slot 31 (nI y13) (.go 31 (.bind (Int) (fun r14 => .ans [] (nI r14) [] (.go 0 (.slot 16 (nI (c.ae.lo-r14)) (.go 0 (.bind Int (fun y15 => .slot 17 (nI y15) (.bind (Int) (fun r16 => .ans [] (nI r16) [] (.go 0 (.slot 27 (nI (c.ae.hi+r16)) (.go 5 (.bind Int (fun y17 => .slot 31 (nI y17) (.auto))))))))))))))))))))))))))))))))))))))))))))))))))))))))))))))) (.auto))))))))))))
 (fun v _ _=>v=sp)=CO sp c m hours:=by kernel_rfl
end
end Go.Proofs.YtkkgnalgmebfjaaGreat
