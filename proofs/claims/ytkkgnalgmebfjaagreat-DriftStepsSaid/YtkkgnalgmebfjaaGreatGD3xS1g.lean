/- Drift: the moves of a flow: what they answer. No condition. -/
import Derived.Test.YtkkgnalgmebfjaaGreatGK27xD3g
import Derived.Shelf.Sort.Plain
import Derived.Ground.Names2Prog
import Derived.Test.YtkkgnalgmebfjaaGreatChecked
import Derived.Sort.Grow
import Derived.Deep.Draws
open Go Go.K
set_option maxRecDepth 1000000
set_option maxHeartbeats 4000000
set_option linter.unusedVariables false
set_option linter.unusedSimpArgs false
namespace Go.Proofs.YtkkgnalgmebfjaaGreat
noncomputable section
attribute [local irreducible] vF
theorem dd{Z:Type}{f:Z->List Value}{n:Nat}(hf:∀x,(f x).length=n)(xs:List Z):0+xs.length*n<=(xs.flatMap f).length:=by rw[bg hf];omega
theorem lK{Z:Type}{L M:List Z}{x:Z}{id:Nat}(hM:M=L ++ [x]):wk (.slice (some ⟨id,0,none⟩) (L.length+1) (L.length+1)) (.slice (some ⟨id,0,some 1⟩) M.length M.length):=by
 have:M.length=L.length+1:=by rw[hM,bH];rfl
 rw[this];exact bf (by omega)
theorem dA{Z:Type}{f:Z->List Value}{n:Nat}(hf:∀x,(f x).length=n){L M:List Z}{x:Z}{c:List Value}{own:Bool}(hM:M=L ++ [x])(hc:f x=c) :
  (some (aa.cells own n (List.take (L.length*n) (List.drop 0 (L.flatMap f))++List.take (1*n) (List.drop 0 c))):Option aa)=some (.cells own n (M.flatMap f)):=by
 subst hc
 rw[hM,<- iC hf L x rfl,List.drop_zero,List.drop_zero,List.take_of_length_le (l:=f x) (by rw[hf];omega),List.take_of_length_le (by rw[bg hf];omega)]
theorem yz{f:FuncId}{args:List Value}{h:Hint}(v:Nat->Value){z:Nat}{cs:List Value}
    (hc:vF prog msk (dm 0) 100000 true 40 true f args ⟨0,.leaf⟩ (some []) h (eS 0 3 (v 0) [(true,.cells true z cs)]))
    (hp:∀n,cs.all (aT n)=true) (h1:dr 3 (v 0)=true) (h2:rn (da 0) 3 (v 0)=v 0) (h3:∀j,rn (eF 0 j) 3 (v 0)=v j) (ha:∀U,args.map (rn U 3)=args) (H:Heap) :
    aF prog f args H [] (Is (v H.length) (H ++ [.cells true z cs])):=by
  have key:=xB (css:=[]) (v:=v 0) (new:=[(true,.cells true z cs)]) hc (fun c hc=>by cases hc) h1 h2
    (by show ((dW 3 (.cells true z cs) && true) && true) = true
        rw[Bool.and_true,Bool.and_true];exact (jH (U:=fun _=>none) (d:=0) (hp 0)).2)
    (congrArg (fun q=>[aa.cells true z q]) (jH (d:=0) (hp 0)).1) (H:=H) [] rfl (fun k c hk=>by cases hk)
  have e2:(List.map (fun x:Bool×aa=>x.2) [(true,aa.cells true z cs)]).map (rno (eF (0+([]:List (List Value)).length) H.length) 3)=[.cells true z cs] :=
    congrArg (fun q=>[aa.cells true z q]) (jH (d:=0) (hp 0)).1
  rw[e2,show rn (eF (0+([]:List (List Value)).length) H.length) 3 (v 0)=v H.length from h3 _,ha]at key
  exact key
theorem dR(m:Move):(moveC m).length=2:=rfl
theorem cH(n:Nat)(l:List Move):(l.flatMap moveC).all (aT n)=true:=dG (fun _=>rfl) l
theorem nT(f:Flow)(j n:Nat):(cV f j n).length=n:=cf _ _
theorem mn(f:Flow):∀j,(cX f j).length=j*nxF f
 |0=>by simp[cX]
 |j+1=>by rw[cX,bH,mn f j,nT,Nat.add_mul,Nat.one_mul]
theorem r7(f:Flow)(j n:Nat):cV f j (n+1)=cV f j n ++ [⟨(bw f).dx+(n:Int),(bw f).dy+(j:Int)⟩]:=gb _ _
theorem iD{f:Flow}(hf:bY f):(-2<=(bw f).dx/\(bw f).dx<=(cc f).dx/\(cc f).dx<=2)/\(-2<=(bw f).dy/\(bw f).dy<=(cc f).dy/\(cc f).dy<=2):=by
 obtain ⟨⟨a1,a2,a3⟩,a4,a5,a6⟩:=hf
 unfold bw cc
 dsimp only
 omega
theorem tu{f:Flow}(hf:bY f):1<=nxF f/\nxF f<=5/\((nxF f:Nat):Int)=(cc f).dx-(bw f).dx+1:=by
 have:=iD hf
 unfold nxF
 omega
theorem tt{f:Flow}(hf:bY f):1<=nyF f/\nyF f<=5/\((nyF f:Nat):Int)=(cc f).dy-(bw f).dy+1:=by
 have:=iD hf
 unfold nyF
 omega
theorem tw{f:Flow}(hf:bY f){x:Nat}(hx:x<=nyF f):(cX f x).length<=25:=by
 have h1:=tu hf
 have h2:=tt hf
 rw[mn]
 exact Nat.mul_le_mul (show x<=5 by omega) (show nxF f<=5 by omega)
theorem iv{f:Flow}(hf:bY f):1<=(aP f).length/\(aP f).length<=25:=by
 have h1:=tu hf
 have h2:=tt hf
 refine ⟨?_,tw hf (Nat.le_refl _)⟩
 unfold aP
 rw[mn]
 exact Nat.mul_le_mul (show 1<=nyF f by omega) (show 1<=nxF f by omega)
theorem zy(f:Flow)(hf:bY f){H:Heap}{L:Nat}(hL:H.length=L):aF prog F.kG [mZ f] H [] (Is (.slice (some ⟨L,0,some 1⟩) (aP f).length (aP f).length) (H ++ [.cells true 2 ((aP f).flatMap moveC)])):=by
 subst hL
 refine yz (fun i => .slice (some ⟨i,0,some 1⟩) (aP f).length (aP f).length) (Eq.mpr (Ao f) ?_) (fun n=>cH n _) rfl rfl (fun _=>rfl) (fun _=>rfl) H
 unfold xn
 have eb:=iD hf
 have xb:=tu hf
 have yb:=tt hf
 refine ⟨trivial,fun H' _ _=>yI f hf H',rfl,Nat.zero_le _,?_,fun _=>rfl,?_⟩
 ·repeat' first|(exact iEq (by omega))|exact trivial|exact rfl|exact ag _|refine af ?_|refine ak ?_ ?_|exact aE|exact aL _ _ _ (.inl rfl)|(exact bf (by omega))|refine aA ?_|refine ar ?_|refine aC ?_ ?_ ?_|refine aB ?_ ?_ ?_|refine toMax ?_|refine toMin ?_|refine ⟨rfl,?_⟩|refine ⟨trivial,?_⟩|(refine aH (fun h =>?_) (fun h =>?_))|(refine az (fun h =>?_) (fun h =>?_))|(refine aI (fun h =>?_) (fun h =>?_))|refine aD ?_|(refine ⟨au (by omega),?_⟩)|(refine And.intro (by omega) ?_)|apply And.intro|(exact iEq (by omega))|(exact au (by omega))
 intro x hx
 refine aH (fun k =>?_) (fun k =>?_)
 ·have hx1:x<nyF f:=by omega
  refine ⟨rfl,Nat.zero_le _,?_,fun _=>rfl,?_⟩
  ·rw[show cX f x++cV f x 0=cX f x from List.append_nil _]
   repeat' first|(exact iEq (by omega))|exact cH _ _|exact trivial|exact rfl|exact ag _|refine af ?_|refine ak ?_ ?_|exact aE|exact aL _ _ _ (.inl rfl)|(exact bf (by omega))|refine aA ?_|refine ar ?_|refine aC ?_ ?_ ?_|refine aB ?_ ?_ ?_|refine toMax ?_|refine toMin ?_|refine ⟨rfl,?_⟩|refine ⟨trivial,?_⟩|(refine aH (fun h =>?_) (fun h =>?_))|(refine az (fun h =>?_) (fun h =>?_))|(refine aI (fun h =>?_) (fun h =>?_))|refine aD ?_|(refine ⟨au (by omega),?_⟩)|(refine And.intro (by omega) ?_)|apply And.intro|(exact iEq (by omega))|(exact au (by omega))
  intro y hy
  have hlen:(cX f x++cV f x y).length<=30:=by
   rw[bH,nT]
   have:=tw hf (Nat.le_of_lt hx1)
   omega
  refine aH (fun k2 =>?_) (fun k2 =>?_)
  ·have hy1:y<nxF f:=by omega
   have hM:cX f x++cV f x (y+1)=(cX f x++cV f x y) ++ [⟨(bw f).dx+(y:Int),(bw f).dy+(x:Int)⟩]:=by rw[r7,List.append_assoc]
   repeat' first|(refine ⟨y+1,by omega,by omega,rfl,?_⟩)|exact lK hM|exact dA dR hM rfl|exact cH _ _|exact dd dR _|exact Nat.le_refl _|exact trivial|exact rfl|exact ag _|refine af ?_|refine ak ?_ ?_|exact aE|exact aL _ _ _ (.inl rfl)|(exact bf (by omega))|refine aA ?_|refine ar ?_|refine aC ?_ ?_ ?_|refine aB ?_ ?_ ?_|refine toMax ?_|refine toMin ?_|refine ⟨rfl,?_⟩|refine ⟨trivial,?_⟩|(refine aH (fun h =>?_) (fun h =>?_))|(refine az (fun h =>?_) (fun h =>?_))|(refine aI (fun h =>?_) (fun h =>?_))|refine aD ?_|(refine ⟨au (by omega),?_⟩)|(refine And.intro (by omega) ?_)|apply And.intro|(exact iEq (by omega))|(exact au (by omega))
  ·obtain rfl:y=nxF f:=by omega
   repeat' first|(refine ⟨x+1,by omega,by omega,rfl,?_⟩)|exact cH _ _|exact trivial|exact rfl|exact ag _|refine af ?_|refine ak ?_ ?_|exact aE|exact aL _ _ _ (.inl rfl)|(exact bf (by omega))|refine aA ?_|refine ar ?_|refine aC ?_ ?_ ?_|refine aB ?_ ?_ ?_|refine toMax ?_|refine toMin ?_|refine ⟨rfl,?_⟩|refine ⟨trivial,?_⟩|(refine aH (fun h =>?_) (fun h =>?_))|(refine az (fun h =>?_) (fun h =>?_))|(refine aI (fun h =>?_) (fun h =>?_))|refine aD ?_|(refine ⟨au (by omega),?_⟩)|(refine And.intro (by omega) ?_)|apply And.intro|(exact iEq (by omega))|(exact au (by omega))
 ·obtain rfl:x=nyF f:=by omega
  repeat' first|exact cH _ _|exact trivial|exact rfl|exact ag _|refine af ?_|refine ak ?_ ?_|exact aE|exact aL _ _ _ (.inl rfl)|(exact bf (by omega))|refine aA ?_|refine ar ?_|refine aC ?_ ?_ ?_|refine aB ?_ ?_ ?_|refine toMax ?_|refine toMin ?_|refine ⟨rfl,?_⟩|refine ⟨trivial,?_⟩|(refine aH (fun h =>?_) (fun h =>?_))|(refine az (fun h =>?_) (fun h =>?_))|(refine aI (fun h =>?_) (fun h =>?_))|refine aD ?_|(refine ⟨au (by omega),?_⟩)|(refine And.intro (by omega) ?_)|apply And.intro|(exact iEq (by omega))|(exact au (by omega))
theorem qV{f:Flow}(h:bY f):aW f=(aP f,0):=if_pos h
theorem wP{f:Flow}(h:¬ bY f):aW f=([],30):=if_neg h
abbrev zm(i:Nat)(r:List Move×Int):Value:=.tuple #[.slice (some ⟨i,0,some 1⟩) r.1.length r.1.length,.int .i64 r.2]
theorem xI{f:Flow}{j n:Nat}(h:(mr f.x (-2+(n:Int))&&mr f.y (-2+(j:Int)))=true):bO f j (n+1)=bO f j n ++ [⟨-2+(n:Int),-2+(j:Int)⟩]:=by
 unfold bO;rw[List.range_succ,List.filter_append,List.map_append,List.filter_cons,if_pos h];rfl
theorem xH{f:Flow}{j n:Nat}(h:(mr f.x (-2+(n:Int))&&mr f.y (-2+(j:Int)))=false):bO f j (n+1)=bO f j n:=by
 unfold bO;rw[List.range_succ,List.filter_append,List.map_append,List.filter_cons,if_neg (by rw[h];exact Bool.false_ne_true)];simp
deriving instance DecidableEq for Move
def gMv(ax ay:Int)(nx:Nat):Nat->List Move
 |0=>[]
 |j+1=>gMv ax ay nx j++(List.range nx).map fun i:Nat=>(⟨ax+(i:Int),ay+(j:Int)⟩:Move)
def gRv(ax bx ay bz:Int):Nat->List Move
 |0=>[]
 |j+1=>gRv ax bx ay bz j++((List.range 5).filter fun i:Nat=>decide (ax <= -2+(i:Int) /\ -2+(i:Int)<=bx)&&decide (ay <= -2+(j:Int) /\ -2+(j:Int)<=bz)).map fun i:Nat=>(⟨-2+(i:Int),-2+(j:Int)⟩:Move)
theorem BE:∀i i2 j j2:Fin 5,i<=i2->j<=j2->gRv (-2+(i.val:Int)) (-2+(i2.val:Int)) (-2+(j.val:Int)) (-2+(j2.val:Int)) 5=gMv (-2+(i.val:Int)) (-2+(j.val:Int)) (i2.val-i.val+1) (j2.val-j.val+1):=by decide +kernel
theorem wM(f:Flow):∀j,cX f j=gMv (bw f).dx (bw f).dy (nxF f) j
 |0=>rfl
 |j+1=>by rw[cX,gMv,wM f j];rfl
theorem tH(s:Span)(c:Int):mr s c=decide (s.lo / 1000<=c/\c<=(s.hi+999) / 1000):=by
 unfold mr
 rw[<- Bool.decide_and]
 exact decide_eq_decide.2 (by omega)
theorem wL(f:Flow):∀j,cd f j=gRv (bw f).dx (cc f).dx (bw f).dy (cc f).dy j
 |0=>rfl
 |j+1=>by
  rw[cd,gRv,wL f j]
  unfold bO
  congr 2
  exact congrArg (fun p=>List.filter p (List.range 5)) (funext fun i=>by rw[tH,tH];rfl)
theorem AF{f:Flow}(hf:bY f):cd f 5=aP f:=by
 have eb:=iD hf
 unfold aP
 rw[wL,wM]
 obtain ⟨i,hi,ei⟩:∃i:Nat,i<5/\(bw f).dx = -2+(i:Int):=⟨Int.toNat ((bw f).dx+2),by omega,by omega⟩
 obtain ⟨i2,hi2,ei2⟩:∃i:Nat,i<5/\(cc f).dx = -2+(i:Int):=⟨Int.toNat ((cc f).dx+2),by omega,by omega⟩
 obtain ⟨j,hj,ej⟩:∃i:Nat,i<5/\(bw f).dy = -2+(i:Int):=⟨Int.toNat ((bw f).dy+2),by omega,by omega⟩
 obtain ⟨j2,hj2,ej2⟩:∃i:Nat,i<5/\(cc f).dy = -2+(i:Int):=⟨Int.toNat ((cc f).dy+2),by omega,by omega⟩
 have hx:nxF f=i2-i+1:=by unfold nxF;omega
 have hy:nyF f=j2-j+1:=by unfold nyF;omega
 rw[hx,hy,ei,ei2,ej,ej2]
 exact BE ⟨i,hi⟩ ⟨i2,hi2⟩ ⟨j,hj⟩ ⟨j2,hj2⟩ (show i<=i2 by omega) (show j<=j2 by omega)
theorem nK(f:Flow)(j n:Nat):(bO f j n).length<=n:=by
 unfold bO;rw[List.length_map];exact Nat.le_trans (List.length_filter_le _ _) (by rw[List.length_range];exact Nat.le_refl _)
theorem qf(f:Flow):∀j,(cd f j).length<=j*5
 |0=>by simp[cd]
 |j+1=>by rw[cd,bH];have:=qf f j;have:=nK f j 5;omega
theorem AL(s t:Span)(c d:Int):(mr s c&&mr t d)=decide ((1000*c-999<=s.hi/\s.lo<=1000*c+999)/\(1000*d-999<=t.hi/\t.lo<=1000*d+999)):=by
 unfold mr
 rw[Bool.decide_and,Bool.decide_and,Bool.decide_and]
theorem tN(f:Flow){H:Heap}{L:Nat}(hL:H.length=L):aF prog F.fk [mZ f] H [] (Is (zm L (aW f)) (H ++ [.cells true 2 ((aW f).1.flatMap moveC)])):=by
 subst hL
 refine yz (fun i=>zm i (aW f)) (Eq.mpr (yt f) ?_) (fun n=>cH n _) rfl rfl (fun _=>rfl) (fun _=>rfl) H
 unfold uq
 by_cases h:bY f
 ·rw[qV h,<- AF h]
  have hf:=h
  obtain ⟨⟨a1,a2,a3⟩,a4,a5,a6⟩:=h
  refine aH (fun k=>by omega) (fun k=>aH (fun k=>by omega) (fun k=>aH (fun k=>by omega) (fun k=>aH (fun k=>by omega) (fun k=>aH (fun k=>by omega) (fun k=>aH (fun k=>by omega) (fun k=>⟨rfl,Nat.zero_le _,?_,fun _=>rfl,?_⟩))))))
  ·repeat' first|exact cH _ _|exact trivial|exact rfl|exact ag _|refine af ?_|refine ak ?_ ?_|exact aE|exact aL _ _ _ (.inl rfl)|(exact bf (by omega))|refine aA ?_|refine ar ?_|refine aC ?_ ?_ ?_|refine aB ?_ ?_ ?_|refine toMax ?_|refine toMin ?_|refine ⟨rfl,?_⟩|refine ⟨trivial,?_⟩|(refine aH (fun h =>?_) (fun h =>?_))|(refine az (fun h =>?_) (fun h =>?_))|(refine aI (fun h =>?_) (fun h =>?_))|refine aD ?_|(refine ⟨au (by omega),?_⟩)|(refine And.intro (by omega) ?_)|apply And.intro|(exact iEq (by omega))|(exact au (by omega))
  intro x hx
  have hxl:=qf f x
  refine aH (fun k =>?_) (fun k =>?_)
  ·refine ⟨rfl,Nat.zero_le _,?_,fun _=>rfl,?_⟩
   ·rw[show cd f x++bO f x 0=cd f x from List.append_nil _]
    repeat' first|exact cH _ _|exact trivial|exact rfl|exact ag _|refine af ?_|refine ak ?_ ?_|exact aE|exact aL _ _ _ (.inl rfl)|(exact bf (by omega))|refine aA ?_|refine ar ?_|refine aC ?_ ?_ ?_|refine aB ?_ ?_ ?_|refine toMax ?_|refine toMin ?_|refine ⟨rfl,?_⟩|refine ⟨trivial,?_⟩|(refine aH (fun h =>?_) (fun h =>?_))|(refine az (fun h =>?_) (fun h =>?_))|(refine aI (fun h =>?_) (fun h =>?_))|refine aD ?_|(refine ⟨au (by omega),?_⟩)|(refine And.intro (by omega) ?_)|apply And.intro|(exact iEq (by omega))|(exact au (by omega))
   intro y hy
   have hlen:(cd f x++bO f x y).length<=30:=by
    rw[bH]
    have:=nK f x y
    omega
   refine aH (fun k2 =>?_) (fun k2 =>?_)
   ·by_cases hb:(1000*(-2+(y:Int))-999<=f.x.hi/\f.x.lo<=1000*(-2+(y:Int))+999)/\(1000*(-2+(x:Int))-999<=f.y.hi/\f.y.lo<=1000*(-2+(x:Int))+999)
    ·have hM:cd f x++bO f x (y+1)=(cd f x++bO f x y) ++ [⟨-2+(y:Int),-2+(x:Int)⟩]:=by rw[xI (by rw[AL];exact decide_eq_true hb),List.append_assoc]
     repeat' first|(refine ⟨y+1,by omega,by omega,rfl,?_⟩)|exact lK hM|exact dA dR hM rfl|exact cH _ _|exact dd dR _|exact Nat.le_refl _|exact trivial|exact rfl|exact ag _|refine af ?_|refine ak ?_ ?_|exact aE|exact aL _ _ _ (.inl rfl)|(exact bf (by omega))|refine aA ?_|refine ar ?_|refine aC ?_ ?_ ?_|refine aB ?_ ?_ ?_|refine toMax ?_|refine toMin ?_|refine ⟨rfl,?_⟩|refine ⟨trivial,?_⟩|(refine aH (fun h =>?_) (fun h =>?_))|(refine az (fun h =>?_) (fun h =>?_))|(refine aI (fun h =>?_) (fun h =>?_))|refine aD ?_|(refine ⟨au (by omega),?_⟩)|(refine And.intro (by omega) ?_)|apply And.intro|(exact iEq (by omega))|(exact au (by omega))|omega
    ·have hM:cd f x++bO f x (y+1)=cd f x++bO f x y:=by rw[xH (by rw[AL];exact decide_eq_false hb)]
     repeat' first|(refine ⟨y+1,by omega,by omega,rfl,?_⟩)|rw[hM]|exact cH _ _|exact trivial|exact rfl|exact ag _|refine af ?_|refine ak ?_ ?_|exact aE|exact aL _ _ _ (.inl rfl)|(exact bf (by omega))|refine aA ?_|refine ar ?_|refine aC ?_ ?_ ?_|refine aB ?_ ?_ ?_|refine toMax ?_|refine toMin ?_|refine ⟨rfl,?_⟩|refine ⟨trivial,?_⟩|(refine aH (fun h =>?_) (fun h =>?_))|(refine az (fun h =>?_) (fun h =>?_))|(refine aI (fun h =>?_) (fun h =>?_))|refine aD ?_|(refine ⟨au (by omega),?_⟩)|(refine And.intro (by omega) ?_)|apply And.intro|(exact iEq (by omega))|(exact au (by omega))|omega
   ·obtain rfl:y=5:=by omega
    repeat' first|(refine ⟨x+1,by omega,by omega,rfl,?_⟩)|exact cH _ _|exact trivial|exact rfl|exact ag _|refine af ?_|refine ak ?_ ?_|exact aE|exact aL _ _ _ (.inl rfl)|(exact bf (by omega))|refine aA ?_|refine ar ?_|refine aC ?_ ?_ ?_|refine aB ?_ ?_ ?_|refine toMax ?_|refine toMin ?_|refine ⟨rfl,?_⟩|refine ⟨trivial,?_⟩|(refine aH (fun h =>?_) (fun h =>?_))|(refine az (fun h =>?_) (fun h =>?_))|(refine aI (fun h =>?_) (fun h =>?_))|refine aD ?_|(refine ⟨au (by omega),?_⟩)|(refine And.intro (by omega) ?_)|apply And.intro|(exact iEq (by omega))|(exact au (by omega))
  ·obtain rfl:x=5:=by omega
   repeat' first|exact cH _ _|exact trivial|exact rfl|exact ag _|refine af ?_|refine ak ?_ ?_|exact aE|exact aL _ _ _ (.inl rfl)|(exact bf (by omega))|refine aA ?_|refine ar ?_|refine aC ?_ ?_ ?_|refine aB ?_ ?_ ?_|refine toMax ?_|refine toMin ?_|refine ⟨rfl,?_⟩|refine ⟨trivial,?_⟩|(refine aH (fun h =>?_) (fun h =>?_))|(refine az (fun h =>?_) (fun h =>?_))|(refine aI (fun h =>?_) (fun h =>?_))|refine aD ?_|(refine ⟨au (by omega),?_⟩)|(refine And.intro (by omega) ?_)|apply And.intro|(exact iEq (by omega))|(exact au (by omega))
 ·rw[wP h]
  unfold bY iZ at h
  repeat' first|exact trivial|exact rfl|exact ag _|refine af ?_|refine ak ?_ ?_|exact aE|exact aL _ _ _ (.inl rfl)|(exact bf (by omega))|refine aA ?_|refine ar ?_|refine aC ?_ ?_ ?_|refine aB ?_ ?_ ?_|refine toMax ?_|refine toMin ?_|refine ⟨rfl,?_⟩|refine ⟨trivial,?_⟩|(refine aH (fun h =>?_) (fun h =>?_))|(refine az (fun h =>?_) (fun h =>?_))|(refine aI (fun h =>?_) (fun h =>?_))|refine aD ?_|(refine ⟨au (by omega),?_⟩)|(refine And.intro (by omega) ?_)|apply And.intro|(exact iEq (by omega))|(exact au (by omega))|omega
theorem nb{z:Int}:∀l:List Int,z∈comp l ↔ z∈l
 | [] =>Iff.rfl
 | [x] =>Iff.rfl
 |x :: y :: r=>by
  have ih:=nb (z:=z) (y :: r)
  unfold comp
  split
  ·rename_i h;subst h;rw[ih];simp
  ·rw[List.mem_cons,ih,List.mem_cons (b:=x)]
theorem ue:∀{l:List Int},l.Pairwise (· <= ·)->(comp l).Pairwise (· < ·)
 | [],_=>List.Pairwise.nil
 | [x],_=>List.pairwise_singleton _ _
 |x :: y :: r,h=>by
  have h2:=List.pairwise_cons.1 h
  have ih:=ue h2.2
  unfold comp
  split
  ·exact ih
  ·rename_i hne
   refine List.pairwise_cons.2 ⟨fun z hz =>?_,ih⟩
   have hz2:=(nb (y :: r)).1 hz
   have hxy:=h2.1 y List.mem_cons_self
   rcases List.mem_cons.1 hz2 with rfl|hz3
   ·omega
   ·have:=(List.pairwise_cons.1 h2.2).1 z hz3;omega
theorem v8:∀{l m:List Int},l.Pairwise (· < ·)->m.Pairwise (· < ·)->(∀z,z∈l ↔ z∈m)->l=m
 | [],[],_,_,_=>rfl
 | [],y :: m,_,_,h=>absurd ((h y).2 List.mem_cons_self) List.not_mem_nil
 |x :: l,[],_,_,h=>absurd ((h x).1 List.mem_cons_self) List.not_mem_nil
 |x :: l,y :: m,h1,h2,h=>by
  have a1:=List.pairwise_cons.1 h1
  have a2:=List.pairwise_cons.1 h2
  have e:x=y:=by
   rcases List.mem_cons.1 ((h x).1 List.mem_cons_self) with e|e
   ·exact e
   ·rcases List.mem_cons.1 ((h y).2 List.mem_cons_self) with f|f
    ·exact f.symm
    ·have:=a2.1 x e;have:=a1.1 y f;omega
  subst e
  rw[v8 a1.2 a2.2 fun z =>?_]
  constructor
  ·intro hz
   rcases List.mem_cons.1 ((h z).1 (List.mem_cons_of_mem _ hz)) with rfl|f
   ·exact absurd (a1.1 _ hz) (by omega)
   ·exact f
  ·intro hz
   rcases List.mem_cons.1 ((h z).2 (List.mem_cons_of_mem _ hz)) with rfl|f
   ·exact absurd (a2.1 _ hz) (by omega)
   ·exact f
theorem l4(l:List Bool)(x:Nat):(bJ l x).Pairwise (· < ·):=by
 unfold bJ
 refine List.pairwise_map.2 ((List.pairwise_lt_range.filter _).imp fun h =>?_)
 omega
theorem kV{l:List Bool}{x:Nat}{z:Int}:z∈bJ l x ↔ ∃i:Nat,i<x/\l.getD i false=true/\(i:Int)=z:=by
 unfold bJ
 simp only[List.mem_map,List.mem_filter,List.mem_range,and_assoc]
theorem p7(f:Nat->Bool)(n i:Nat)(h:i<n):(cm f n).getD i false=f i:=by
 rw[List.getD_eq_getElem?_getD];simp[cm,h]
theorem zc(L:List Int):(bo L).Pairwise (· <= ·):=by
 have h:=List.pairwise_mergeSort (le:=fun x y:Int=>decide (x<=y)) (fun a b c h1 h2=>by simp at *;omega) (fun a b=>by simp;omega) L
 exact h.imp fun h=>by simpa using h
theorem xG(L:List Int)(z:Int):z∈bo L ↔ z∈L:=(List.mergeSort_perm L _).mem_iff
theorem oN(L:List Int):(bo L).length=L.length:=List.length_mergeSort _
theorem sP{L:List Int}{n:Nat}(h:∀z∈L,0<=z/\z<(n:Int)):comp (bo L)=eo (cm (fun i=>decide ((i:Int)∈L)) n):=by
 refine v8 (ue (zc L)) (l4 _ _) fun z =>?_
 rw[nb,xG,eo,kV,cf]
 constructor
 ·intro hz
  have:=h z hz
  refine ⟨z.toNat,by omega,?_,by omega⟩
  rw[p7 _ _ _ (by omega)]
  exact decide_eq_true (by rw[Int.toNat_of_nonneg this.1];exact hz)
 ·rintro ⟨i,hi,e,rfl⟩
  rw[p7 _ _ _ hi]at e
  exact hZ e
theorem iE(x y:Int):∀T:List Int,comp (T ++ [x,y])=if x=y then comp (T ++ [x]) else comp (T ++ [x]) ++ [y]
 | [] =>by
  show comp [x,y]=_
  unfold comp;split <;> rename_i h
  ·subst h;rfl
  ·rfl
 | [a] =>by
  show comp (a :: x :: [y])=_
  have ih:=iE x y []
  simp only[List.nil_append]at ih
  show comp (a :: x :: [y])=if x=y then comp (a :: x :: []) else comp (a :: x :: []) ++ [y]
  rw[show comp (a :: x :: [y])=if a=x then comp [x,y] else a :: comp [x,y] from by rw[comp],show comp (a :: x :: [])=if a=x then comp [x] else a :: comp [x] from rfl,ih]
  split <;> split <;> rfl
 |a :: b :: T=>by
  have ih:=iE x y (b :: T)
  show comp (a :: b :: (T ++ [x,y]))=if x=y then comp (a :: b :: (T ++ [x])) else comp (a :: b :: (T ++ [x])) ++ [y]
  rw[comp,comp]
  rw[show b :: (T ++ [x,y])=(b :: T) ++ [x,y] from rfl,show b :: (T ++ [x])=(b :: T) ++ [x] from rfl,ih]
  split <;> split <;> rfl
theorem pZ{S:List Int}{m:Nat}(h1:1<=m)(h:m<S.length):S.take (m+1)=S.take (m-1) ++ [S.getD (m-1) 0,S.getD m 0]/\S.take m=S.take (m-1) ++ [S.getD (m-1) 0]:=by
 obtain ⟨k,rfl⟩:∃k,m=k+1:=⟨m-1,by omega⟩
 have e1:S.take (k+1)=S.take k ++ [S.getD k 0]:=by
  rw[List.take_add_one,List.getD_eq_getElem?_getD,List.getElem?_eq_getElem (by omega)];rfl
 have e2:S.take (k+1+1)=S.take (k+1) ++ [S.getD (k+1) 0]:=by
  rw[List.take_add_one,List.getD_eq_getElem?_getD,List.getElem?_eq_getElem h];rfl
 refine ⟨?_,e1⟩
 rw[e2,Nat.add_sub_cancel,e1,List.append_assoc];rfl
theorem yi{S:List Int}{m:Nat}(h1:1<=m)(h:m<S.length)(e:S.getD m 0=S.getD (m-1) 0):comp (S.take (m+1))=comp (S.take m):=by
 obtain ⟨a,b⟩:=pZ h1 h
 rw[a,b,iE,if_pos e.symm]
theorem ud{S:List Int}{m:Nat}(h1:1<=m)(h:m<S.length)(e:¬ S.getD m 0=S.getD (m-1) 0):comp (S.take (m+1))=comp (S.take m) ++ [S.getD m 0]:=by
 obtain ⟨a,b⟩:=pZ h1 h
 rw[a,b,iE,if_neg (Ne.symm e)]
theorem ka:∀l:List Int,(comp l).length<=l.length
 | [] =>Nat.le_refl _
 | [x] =>Nat.le_refl _
 |x :: y :: r=>by
  have ih:=ka (y :: r)
  unfold comp
  split
  ·simp only[List.length_cons]at *;omega
  ·simp only[List.length_cons]at *;omega
theorem yl(S:List Int)(m:Nat)(h:m<=S.length):cG S m<=m:=by
 unfold cG
 have:=ka (S.take m)
 rw[List.length_take]at this
 omega
theorem uf{S:List Int}{m:Nat}(h1:1<=m)(h:m<S.length)(e:S.getD m 0=S.getD (m-1) 0):cG S (m+1)=cG S m/\ca S (m+1)=ca S m:=by
 unfold ca cG
 rw[yi h1 h e];exact ⟨rfl,rfl⟩
theorem yk{S:List Int}{m:Nat}(h1:1<=m)(h:m<S.length)(e:¬ S.getD m 0=S.getD (m-1) 0)(hN:cG S m<m):cG S (m+1)=cG S m+1/\(ca S m).set (cG S m) (S.getD m 0)=ca S (m+1):=by
 have e0:=ud h1 h e
 have e1:cG S (m+1)=cG S m+1:=by unfold cG;rw[e0,bH];rfl
 refine ⟨e1,?_⟩
 unfold ca
 rw[e1,e0,List.append_assoc]
 have e2:S.drop (cG S m)=S[cG S m] :: S.drop (cG S m+1):=List.drop_eq_getElem_cons (by omega)
 rw[e2,show (comp (List.take m S)++S[cG S m] :: List.drop (cG S m+1) S).set (cG S m) (S.getD m 0)=comp (List.take m S)++S.getD m 0 :: List.drop (cG S m+1) S from by
  rw[List.set_append,if_neg (by unfold cG;omega)]
  unfold cG;rw[Nat.sub_self];rfl]
 rfl
theorem vq{S:List Int}{m:Nat}(h:m<=S.length):(ca S m).length=S.length:=by
 have:=yl S m h
 unfold ca
 rw[bH,List.length_drop]
 show cG S m+_=_
 omega
theorem ot{S:List Int}{m k:Nat}(h:cG S m<=k):(ca S m).getD k 0=S.getD k 0:=by
 unfold ca
 rw[List.getD_eq_getElem?_getD,List.getElem?_append_right (by exact h),List.getElem?_drop,List.getD_eq_getElem?_getD]
 rw[show cG S m+(k-(comp (List.take m S)).length)=k from by show cG S m+(k-cG S m)=k;omega]
theorem yj{S:List Int}{x:Nat}(h1:1<=x)(h:x<S.length)(hc:comp (S.take x)=S.take x)(e:S.getD x 0=S.getD (x-1) 0):cG S (x+1)=x/\ca S (x+1)=S:=by
 have a:=uf h1 h e
 have b:cG S x=x:=by unfold cG;rw[hc,List.length_take];omega
 refine ⟨a.1.trans b,a.2.trans ?_⟩
 unfold ca
 rw[b,hc,List.take_append_drop]
theorem wW{S:List Int}{x:Nat}(h1:1<=x)(h:x<S.length)(hc:comp (S.take x)=S.take x)(e:¬ S.getD x 0=S.getD (x-1) 0):comp (S.take (x+1))=S.take (x+1):=by
 rw[ud h1 h e,hc,List.take_add_one,List.getD_eq_getElem?_getD,List.getElem?_eq_getElem h];rfl
theorem uE{l:List Bool}{x:Nat}(h:l.getD x false=true):bJ l (x+1)=bJ l x ++ [(x:Int)]:=by
 unfold bJ;rw[List.range_succ,List.filter_append,List.map_append,List.filter_cons,if_pos h];rfl
theorem uD{l:List Bool}{x:Nat}(h:l.getD x false=false):bJ l (x+1)=bJ l x:=by
 unfold bJ;rw[List.range_succ,List.filter_append,List.map_append,List.filter_cons,if_neg (by rw[h];exact Bool.false_ne_true)];simp
theorem pX(l:List Bool)(x:Nat):(bJ l x).length<=x:=by
 unfold bJ;rw[List.length_map];exact Nat.le_trans (List.length_filter_le _ _) (by rw[List.length_range];exact Nat.le_refl _)
theorem iG(b:Bool):(am b).length=1:=rfl
theorem cT(x:Int):(bj x).length=1:=rfl
theorem cj(n:Nat)(l:List Int):(l.flatMap bj).all (aT n)=true:=dG (fun _=>rfl) l
theorem dM{a:List Bool}{k:Nat}(h:k<a.length){off:Nat}(ho:off=k):(a.flatMap am)[off]?=some (.bool (a.getD k false)):=eB (c:=0) iG h (by omega) rfl
theorem mQ{a:List Int}{k:Nat}(h:k<a.length){off:Nat}(ho:off=k):(a.flatMap bj)[off]?=some (.int .i64 (a.getD k 0)):=eB (c:=0) cT h (by omega) rfl
theorem fq{l:List Move}{x:Nat}(h:x<l.length):b6 2 (l.flatMap moveC) (0+Int.toNat ((x:Nat):Int)*2)=some (.agg ⟨moveC (l.getD x aM)⟩) :=
 iu (n:=2) (d:=aM) (c:=0) dR h (by omega) (by omega)
theorem l8:∀(n o A B:List Value),o.length=n.length->bt (A++(o++B)) A.length n=A++(n++B)
 | [],[],A,B,_=>rfl
 |v :: n,w :: o,A,B,h=>by
  have e:(A++(w :: o++B)).set A.length v=(A ++ [v])++(o++B):=by simp
  have:=l8 n o (A ++ [v]) B (by simpa using h)
  simp only[bt]
  rw[e]
  simpa using this
theorem j0{Z:Type}{f:Z->List Value}{m:Nat}(hf:∀x,(f x).length=m)(xs:List Z)(k:Nat)(hk:k<xs.length)(y:Z):bt (xs.flatMap f) (k*m) (f y)=(xs.set k y).flatMap f:=by
 have e1:xs=xs.take k++xs[k] :: xs.drop (k+1):=by rw[<- List.drop_eq_getElem_cons hk,List.take_append_drop]
 have e2:xs.set k y=xs.take k++y :: xs.drop (k+1):=by rw[List.set_eq_take_append_cons_drop,if_pos hk]
 have hl:((xs.take k).flatMap f).length=k*m:=by rw[bg hf,List.length_take,Nat.min_eq_left (Nat.le_of_lt hk)]
 rw[e2]
 conv=>lhs;rw[e1]
 rw[List.flatMap_append,List.flatMap_cons,List.flatMap_append,List.flatMap_cons,<- hl]
 exact l8 _ _ _ _ (by rw[hf,hf])
structure eD(w h:Int)(n:Nat):Prop where
 w1:1<=w/\w<=64
 h1:1<=h/\h<=64
 p1:w*h<=1024
 n1:(n:Int)=w*h
theorem oB{w h:Int}{n:Nat}(e:cJ w h n=0):eD w h n:=by
 obtain ⟨b1,b2,b3,b4⟩:=qY e
 exact ⟨b1,b2,b3,b4⟩
theorem wV{w h c:Int}{n:Nat}(b:eD w h n)(hc:0<=c/\c<w*h):(0<=Int.tmod c w/\Int.tmod c w<w)/\(0<=Int.tdiv c w/\Int.tdiv c w<h):=by
 have w1:=b.w1
 have e1:Int.tdiv c w=c / w:=Int.tdiv_eq_ediv_of_nonneg hc.1
 have e2:Int.tmod c w=c % w:=Int.tmod_eq_emod_of_nonneg hc.1
 rw[e1,e2]
 refine ⟨⟨Int.emod_nonneg _ (by omega),Int.emod_lt_of_pos _ (by omega)⟩,Int.ediv_nonneg hc.1 (by omega),Int.ediv_lt_of_lt_mul (by omega) (by rw[Int.mul_comm];exact hc.2)⟩
theorem sR{w h x y:Int}(hx:0<=x/\x<w)(hy:0<=y/\y<h):0<=y*w+x/\y*w+x<w*h:=by
 have h1:0<=y*w:=Int.mul_nonneg hy.1 (by omega)
 have h2:(y+1)*w<=h*w:=Int.mul_le_mul_of_nonneg_right (by omega) (by omega)
 rw[Int.add_mul,Int.one_mul,Int.mul_comm h w]at h2
 omega
def uW(m:Move):Prop:=(-2<=m.dx/\m.dx<=2)/\(-2<=m.dy/\m.dy<=2)
def vJ(w h:Int)(a:List Bool)(c:Int)(m:Move):Prop:=(0<=Int.tmod c w+m.dx/\Int.tmod c w+m.dx<w)/\(0<=Int.tdiv c w+m.dy/\Int.tdiv c w+m.dy<h)/\a.getD (Int.toNat ((Int.tdiv c w+m.dy)*w+(Int.tmod c w+m.dx))) false=false
theorem rR{w h:Int}{a:List Bool}{c:Int}{m:Move}(k:vJ w h a c m):bX w h a c m=(Int.tdiv c w+m.dy)*w+(Int.tmod c w+m.dx):=if_pos k
theorem rS{w h:Int}{a:List Bool}{c:Int}{m:Move}(k:¬ vJ w h a c m):bX w h a c m=c:=if_neg k
theorem lM{w h:Int}{a:List Bool}{c:Int}(hc:0<=c/\c<w*h)(m:Move):0<=bX w h a c m/\bX w h a c m<w*h:=by
 by_cases k:vJ w h a c m
 ·rw[rR k];exact sR k.1 k.2.1
 ·rw[rS k];exact hc
theorem tK{w h:Int}{a:List Bool}{c:Int}{m:Move}(b:eD w h a.length)(hc:0<=c/\c<w*h)(hm:uW m){H:Heap}{id:Nat}{own:Bool}{z:Nat}(hid:H[id]?=some (.cells own z (a.flatMap am))) :
  aF prog F.kF [eH w h id a.length,.int .i64 c,tF m] H [] (Is (.int .i64 (bX w h a c m)) H):=by
 refine ga (css:=[a.flatMap am]) (v:=.int .i64 (bX w h a c m)) (Eq.mpr (yp _ w h a c m) ?_) (fu (bP 0 a)) rfl [id] rfl (ft hid)
 unfold ul
 have e1:=rR (w:=w) (h:=h) (a:=a) (c:=c) (m:=m)
 have e0:=rS (w:=w) (h:=h) (a:=a) (c:=c) (m:=m)
 unfold vJ at e0 e1
 obtain ⟨⟨m1,m2⟩,m3,m4⟩:=hm
 obtain ⟨d1,d2⟩:=wV b hc
 obtain ⟨b1,b2,b3,b4⟩:=b
 have cb:=sR (w:=w) (h:=h) (x:=Int.tmod c w+m.dx) (y:=Int.tdiv c w+m.dy)
 have hx : -2<=Int.tmod c w+m.dx/\Int.tmod c w+m.dx<=66:=by omega
 have hy : -2<=Int.tdiv c w+m.dy/\Int.tdiv c w+m.dy<=66:=by omega
 have hy2:0<=Int.tdiv c w/\Int.tdiv c w<=64:=by omega
 generalize bX w h a c m=T at e0 e1 ⊢
 generalize Int.tmod c w+m.dx=X at *
 generalize Int.tdiv c w+m.dy=Y at *
 generalize Y*w=P at *
 generalize w*h=Q at *
 repeat' first|(exact iEq (e0 (fun k=>by omega)).symm)|refine ⟨_,rfl,?_⟩|(refine ⟨fun hb=>iEq (e0 fun k=>Bool.false_ne_true (k.2.2.symm.trans hb)).symm,fun hb =>?_⟩)|(exact dM (by omega) (by omega))|(exact iEq (e1 ⟨by omega,by omega,hb⟩).symm)|omega|exact trivial|exact rfl|exact ag _|refine af ?_|refine ak ?_ ?_|exact aE|exact aL _ _ _ (.inl rfl)|(exact bf (by omega))|refine aA ?_|refine ar ?_|refine aC ?_ ?_ ?_|refine aB ?_ ?_ ?_|refine toMax ?_|refine toMin ?_|refine ⟨rfl,?_⟩|refine ⟨trivial,?_⟩|(refine aH (fun h =>?_) (fun h =>?_))|(refine az (fun h =>?_) (fun h =>?_))|(refine aI (fun h =>?_) (fun h =>?_))|refine aD ?_|(refine ⟨au (by omega),?_⟩)|(refine And.intro (by omega) ?_)|apply And.intro|(exact iEq (by omega))|(exact au (by omega))
theorem qC{w h:Int}{a:List Bool}{c:Int}{m:Move}(b:eD w h a.length)(hc:0<=c/\c<w*h)(hm:uW m){H:Heap}{id:Nat}{own:Bool}{z:Nat}(hid:H[id]?=some (.cells own z (a.flatMap am))) :
  aF prog F.iJ [eH w h id a.length,.int .i64 c,tF m] H [] (Is (.int .i64 (bX w h a c m)) H):=by
 refine ga (css:=[a.flatMap am]) (v:=.int .i64 (bX w h a c m)) (Eq.mpr (xy _ w h a c m) ?_) (fu (bP 0 a)) rfl [id] rfl (ft hid)
 unfold rD
 have e1:=rR (w:=w) (h:=h) (a:=a) (c:=c) (m:=m)
 have e0:=rS (w:=w) (h:=h) (a:=a) (c:=c) (m:=m)
 unfold vJ at e0 e1
 obtain ⟨⟨m1,m2⟩,m3,m4⟩:=hm
 obtain ⟨d1,d2⟩:=wV b hc
 obtain ⟨b1,b2,b3,b4⟩:=b
 have cb:=sR (w:=w) (h:=h) (x:=Int.tmod c w+m.dx) (y:=Int.tdiv c w+m.dy)
 have hx : -2<=Int.tmod c w+m.dx/\Int.tmod c w+m.dx<=66:=by omega
 have hy : -2<=Int.tdiv c w+m.dy/\Int.tdiv c w+m.dy<=66:=by omega
 have hy2:0<=Int.tdiv c w/\Int.tdiv c w<=64:=by omega
 generalize bX w h a c m=T at e0 e1 ⊢
 generalize Int.tmod c w+m.dx=X at *
 generalize Int.tdiv c w+m.dy=Y at *
 generalize Y*w=P at *
 generalize w*h=Q at *
 repeat' first|(exact iEq (e0 (fun k=>by omega)).symm)|refine ⟨_,rfl,?_⟩|(refine ⟨fun hb=>iEq (e0 fun k=>Bool.false_ne_true (k.2.2.symm.trans hb)).symm,fun hb =>?_⟩)|(exact dM (by omega) (by omega))|(exact iEq (e1 ⟨by omega,by omega,hb⟩).symm)|omega|exact trivial|exact rfl|exact ag _|refine af ?_|refine ak ?_ ?_|exact aE|exact aL _ _ _ (.inl rfl)|(exact bf (by omega))|refine aA ?_|refine ar ?_|refine aC ?_ ?_ ?_|refine aB ?_ ?_ ?_|refine toMax ?_|refine toMin ?_|refine ⟨rfl,?_⟩|refine ⟨trivial,?_⟩|(refine aH (fun h =>?_) (fun h =>?_))|(refine az (fun h =>?_) (fun h =>?_))|(refine aI (fun h =>?_) (fun h =>?_))|refine aD ?_|(refine ⟨au (by omega),?_⟩)|(refine And.intro (by omega) ?_)|apply And.intro|(exact iEq (by omega))|(exact au (by omega))
theorem zd{a:List Bool}{c:Int}(k:0<=c/\c<(a.length:Int)):lG a c = !(a.getD (Int.toNat c) false):=by unfold lG;rw[decide_eq_true k];rfl
theorem ze{a:List Bool}{c:Int}(k:¬ (0<=c/\c<(a.length:Int))):lG a c=false:=by unfold lG;rw[decide_eq_false k];rfl
theorem kis{w h:Int}{a:List Bool}{c:Int}(b:eD w h a.length){H:Heap}{id:Nat}{own:Bool}{z:Nat}(hid:H[id]?=some (.cells own z (a.flatMap am))) :
  aF prog F.pE [eH w h id a.length,.int .i64 c] H [] (Is (.bool (lG a c)) H):=by
 refine ga (css:=[a.flatMap am]) (v:=.bool (lG a c)) (Eq.mpr (Eis _ w h a c) ?_) (fu (bP 0 a)) rfl [id] rfl (ft hid)
 unfold Ris
 have e1:=zd (a:=a) (c:=c)
 have e0:=ze (a:=a) (c:=c)
 obtain ⟨b1,b2,b3,b4⟩:=b
 generalize w*h=Q at *
 repeat' first|(exact congrArg Value.bool (e0 (by omega)).symm)|(exact congrArg Value.bool (e1 (by omega)).symm)|(exact dM (by omega) (by omega))|exact trivial|exact rfl|exact ag _|refine af ?_|refine ak ?_ ?_|exact aE|exact aL _ _ _ (.inl rfl)|(exact bf (by omega))|refine aA ?_|refine ar ?_|refine aC ?_ ?_ ?_|refine aB ?_ ?_ ?_|refine toMax ?_|refine toMin ?_|refine ⟨rfl,?_⟩|refine ⟨trivial,?_⟩|(refine aH (fun h =>?_) (fun h =>?_))|(refine az (fun h =>?_) (fun h =>?_))|(refine aI (fun h =>?_) (fun h =>?_))|refine aD ?_|(refine ⟨au (by omega),?_⟩)|(refine And.intro (by omega) ?_)|apply And.intro|(exact iEq (by omega))|(exact au (by omega))
theorem zt(l:List Bool)(hl:l.length<=4096){H:Heap}{L:Nat}(hL:H.length=L){id:Nat}{own:Bool}{z:Nat}(hid:H[id]?=some (.cells own z (l.flatMap am))) :
  aF prog F.jI [.slice (some ⟨id,0,some 2⟩) l.length l.length] H [] (Is (.slice (some ⟨L,0,some 1⟩) (eo l).length (eo l).length) (H ++ [.cells true 1 ((eo l).flatMap bj)])):=by
 subst hL
 refine pT (fun i => .slice (some ⟨i,0,some 1⟩) (eo l).length (eo l).length) (Eq.mpr (Ai l) ?_) (bP 0 l) (fun n=>cj n _) rfl rfl (fun _=>rfl) hid rfl
 unfold xh
 refine ⟨rfl,Nat.zero_le _,?_,fun _=>rfl,?_⟩
 ·repeat' first|exact cj _ _|exact trivial|exact rfl|exact ag _|refine af ?_|refine ak ?_ ?_|exact aE|exact aL _ _ _ (.inl rfl)|(exact bf (by omega))|refine aA ?_|refine ar ?_|refine aC ?_ ?_ ?_|refine aB ?_ ?_ ?_|refine toMax ?_|refine toMin ?_|refine ⟨rfl,?_⟩|refine ⟨trivial,?_⟩|(refine aH (fun h =>?_) (fun h =>?_))|(refine az (fun h =>?_) (fun h =>?_))|(refine aI (fun h =>?_) (fun h =>?_))|refine aD ?_|(refine ⟨au (by omega),?_⟩)|(refine And.intro (by omega) ?_)|apply And.intro|(exact iEq (by omega))|(exact au (by omega))
 intro x hx
 have hlen:=pX l x
 refine aH (fun k =>?_) (fun k =>?_)
 ·refine ⟨by omega,dM (by omega) (by omega),fun k2 =>?_,fun k2 =>?_⟩
  ·have hM:=uE k2
   repeat' first|(refine ⟨x+1,by omega,by omega,rfl,?_⟩)|exact lK hM|exact dA cT hM rfl|exact cj _ _|exact dd cT _|exact Nat.le_refl _|exact trivial|exact rfl|exact ag _|refine af ?_|refine ak ?_ ?_|exact aE|exact aL _ _ _ (.inl rfl)|(exact bf (by omega))|refine aA ?_|refine ar ?_|refine aC ?_ ?_ ?_|refine aB ?_ ?_ ?_|refine toMax ?_|refine toMin ?_|refine ⟨rfl,?_⟩|refine ⟨trivial,?_⟩|(refine aH (fun h =>?_) (fun h =>?_))|(refine az (fun h =>?_) (fun h =>?_))|(refine aI (fun h =>?_) (fun h =>?_))|refine aD ?_|(refine ⟨au (by omega),?_⟩)|(refine And.intro (by omega) ?_)|apply And.intro|(exact iEq (by omega))|(exact au (by omega))
  ·have hM:=uD k2
   refine ⟨au (by omega),x+1,by omega,by omega,rfl,?_⟩
   rw[hM]
   repeat' first|exact cj _ _|exact trivial|exact rfl|exact ag _|refine af ?_|refine ak ?_ ?_|exact aE|exact aL _ _ _ (.inl rfl)|(exact bf (by omega))|refine aA ?_|refine ar ?_|refine aC ?_ ?_ ?_|refine aB ?_ ?_ ?_|refine toMax ?_|refine toMin ?_|refine ⟨rfl,?_⟩|refine ⟨trivial,?_⟩|(refine aH (fun h =>?_) (fun h =>?_))|(refine az (fun h =>?_) (fun h =>?_))|(refine aI (fun h =>?_) (fun h =>?_))|refine aD ?_|(refine ⟨au (by omega),?_⟩)|(refine And.intro (by omega) ?_)|apply And.intro|(exact iEq (by omega))|(exact au (by omega))
 ·obtain rfl:x=l.length:=by omega
  repeat' first|exact cj _ _|exact trivial|exact rfl|exact ag _|refine af ?_|refine ak ?_ ?_|exact aE|exact aL _ _ _ (.inl rfl)|(exact bf (by omega))|refine aA ?_|refine ar ?_|refine aC ?_ ?_ ?_|refine aB ?_ ?_ ?_|refine toMax ?_|refine toMin ?_|refine ⟨rfl,?_⟩|refine ⟨trivial,?_⟩|(refine aH (fun h =>?_) (fun h =>?_))|(refine az (fun h =>?_) (fun h =>?_))|(refine aI (fun h =>?_) (fun h =>?_))|refine aD ?_|(refine ⟨au (by omega),?_⟩)|(refine And.intro (by omega) ?_)|apply And.intro|(exact iEq (by omega))|(exact au (by omega))
theorem fB(L:List Int)(n x:Nat):(du L n x).length=n:=cf ..
theorem qT(L:List Int)(n:Nat):(du L n 0).flatMap am=cD [.bool false] n:=by
 induction n with
 |zero=>rfl
 |succ n ih =>
  unfold du at ih ⊢
  rw[gb,List.flatMap_append,ih]
  have:∀k,cD [Value.bool false] k ++ [.bool false] = .bool false :: cD [.bool false] k:=by
   intro k
   induction k with
   |zero=>rfl
   |succ k ih=>show .bool false :: (cD _ k++_)=_;rw[ih];rfl
  exact this n
theorem mW{L:List Int}{n x i:Nat}(h:i<(du L n x).length):(du L n x)[i]=decide ((i:Int)∈L.take x):=by
 simp only[du,cm,List.getElem_map,List.getElem_range]
theorem qS{L:List Int}{n x:Nat}(hx:x<L.length)(hr:0<=L.getD x 0/\L.getD x 0<(n:Int)):(du L n x).set (Int.toNat (L.getD x 0)) true=du L n (x+1):=by
 have e:L.take (x+1)=L.take x ++ [L.getD x 0]:=by rw[List.take_add_one,List.getD_eq_getElem?_getD,List.getElem?_eq_getElem hx];rfl
 refine List.ext_getElem (by rw[List.length_set,fB,fB]) fun i h1 h2 =>?_
 rw[List.getElem_set,mW,mW,e]
 rw[fB]at h2
 by_cases k:Int.toNat (L.getD x 0)=i
 ·rw[if_pos k]
  refine (decide_eq_true ?_).symm
  rw[List.mem_append]
  exact .inr (List.mem_singleton.2 (by omega))
 ·rw[if_neg k]
  refine decide_eq_decide.2 ?_
  rw[List.mem_append,List.mem_singleton]
  constructor
  ·exact .inl
  ·rintro (h|h)
   ·exact h
   ·exact absurd h (by omega)
theorem tv{f:Flow}(hf:bY f):∀(j:Nat),j<=nyF f->∀m∈cX f j,uW m
 |0,_,m,h=>by cases h
 |j+1,hj,m,h=>by
  have eb:=iD hf
  have xb:=tu hf
  have yb:=tt hf
  rcases List.mem_append.1 h with h|h
  ·exact tv hf j (by omega) m h
  ·unfold cV cm at h
   obtain ⟨i,hi,rfl⟩:=List.mem_map.1 h
   have:=List.mem_range.1 hi
   exact ⟨⟨by dsimp only;omega,by dsimp only;omega⟩,by dsimp only;omega,by dsimp only;omega⟩
theorem dt{Z:Type}{l:List Z}{d:Z}{x:Nat}(h:x<l.length):l.getD x d∈l:=by
 rw[List.getD_eq_getElem?_getD,List.getElem?_eq_getElem h];exact List.getElem_mem h
theorem qt{f:Flow}(hf:bY f){x:Nat}(h:x<(aP f).length):uW ((aP f).getD x aM):=tv hf _ (Nat.le_refl _) _ (dt h)
theorem lL(w h:Int)(a:List Bool)(c:Int)(f:Flow):(tgL w h a c f).length=(aP f).length:=List.length_map _
theorem oL{w h:Int}{a:List Bool}{c:Int}{f:Flow}{x:Nat}(hx:x<(aP f).length):(tgL w h a c f).getD x 0=bX w h a c ((aP f).getD x aM):=by
 unfold tgL
 rw[List.getD_eq_getElem?_getD,List.getElem?_map,List.getD_eq_getElem?_getD,List.getElem?_eq_getElem hx];rfl
theorem vI{w h:Int}{a:List Bool}{c:Int}{f:Flow}(hc:0<=c/\c<w*h):∀z∈tgL w h a c f,0<=z/\z<w*h:=by
 intro z hz
 obtain ⟨m,_,rfl⟩:=List.mem_map.1 hz
 exact lM hc m
theorem ol(w h:Int)(a:List Bool)(c:Int)(f:Flow):(dk w h a c f).length=Int.toNat (w*h):=cf ..
theorem wJ(w h:Int)(a:List Bool)(c:Int)(f:Flow):du (tgL w h a c f) (Int.toNat (w*h)) (aP f).length=dk w h a c f:=by
 unfold du dk
 rw[<- lL w h a c f,List.take_length]
theorem zv{w h:Int}{a:List Bool}{c:Int}{f:Flow}(b:eD w h a.length)(hc:0<=c/\c<w*h)(hf:bY f){H:Heap}{L:Nat}(hL:H.length=L){id:Nat}{own:Bool}{z:Nat}(hid:H[id]?=some (.cells own z (a.flatMap am))) :
  aF prog F.jK [eH w h id a.length,mZ f,.int .i64 c] H [] (Is (.slice (some ⟨L,0,some 1⟩) (dk w h a c f).length (dk w h a c f).length) (H ++ [.cells true 1 ((dk w h a c f).flatMap am)])):=by
 subst hL
 refine pT (fun i => .slice (some ⟨i,0,some 1⟩) (dk w h a c f).length (dk w h a c f).length) (Eq.mpr (Ak w h a c f) ?_) (bP 0 a) (fun n=>bP n _) rfl rfl (fun _=>rfl) hid rfl
 unfold xj
 have mb:=iv hf
 have tb:=vI (f:=f) (a:=a) hc
 have b0:=b
 obtain ⟨b1,b2,b3,b4⟩:=b
 have km:∀H':Heap,H'.length=4->aF prog F.fk [mZ f] H' [] (Is (zm 4 (aP f,0)) (H' ++ [.cells true 2 ((aP f).flatMap moveC)])):=fun H' hl=>by
  have:=tN f hl
  rw[qV hf]at this;exact this
 refine ⟨au (by omega),by omega,trivial,fun H' hl _=>km H' hl,rfl,Nat.zero_le _,?_,fun _=>rfl,?_⟩
 ·rw[qT]
  repeat' first|((rw[<- qT (tgL w h a c f)];exact bP _ _))|exact trivial|exact rfl|exact ag _|refine af ?_|refine ak ?_ ?_|exact aE|exact aL _ _ _ (.inl rfl)|(exact bf (by omega))|refine aA ?_|refine ar ?_|refine aC ?_ ?_ ?_|refine aB ?_ ?_ ?_|refine toMax ?_|refine toMin ?_|refine ⟨rfl,?_⟩|refine ⟨trivial,?_⟩|(refine aH (fun h =>?_) (fun h =>?_))|(refine az (fun h =>?_) (fun h =>?_))|(refine aI (fun h =>?_) (fun h =>?_))|refine aD ?_|(refine ⟨au (by omega),?_⟩)|(refine And.intro (by omega) ?_)|apply And.intro|(exact iEq (by omega))|(exact au (by omega))
 intro x hx
 refine aH (fun k =>?_) (fun k =>?_)
 ·have hlt:x<(aP f).length:=by omega
  have hr:=lM (a:=a) hc ((aP f).getD x aM)
  have hs:=qS (L:=tgL w h a c f) (n:=Int.toNat (w*h)) (x:=x) (by rw[lL];exact hlt) (by rw[oL hlt];omega)
  rw[oL hlt]at hs
  refine ⟨by omega,fq hlt,bX w h a c ((aP f).getD x aM),⟨rfl,trivial⟩,fun H' hl hd=>qC b0 hc (qt hf hlt) hd.1,by omega,?_,rfl,au (by omega),x+1,by omega,by omega,rfl,?_⟩
  ·rw[bg iG,fB];omega
  ·rw[show 0+Int.toNat (bX w h a c ((aP f).getD x aM))*1=Int.toNat (bX w h a c ((aP f).getD x aM))*1 by omega,j0 iG _ _ (by rw[fB];omega) true,hs]
   repeat' first|exact bP _ _|exact trivial|exact rfl|exact ag _|refine af ?_|refine ak ?_ ?_|exact aE|exact aL _ _ _ (.inl rfl)|(exact bf (by omega))|refine aA ?_|refine ar ?_|refine aC ?_ ?_ ?_|refine aB ?_ ?_ ?_|refine toMax ?_|refine toMin ?_|refine ⟨rfl,?_⟩|refine ⟨trivial,?_⟩|(refine aH (fun h =>?_) (fun h =>?_))|(refine az (fun h =>?_) (fun h =>?_))|(refine aI (fun h =>?_) (fun h =>?_))|refine aD ?_|(refine ⟨au (by omega),?_⟩)|(refine And.intro (by omega) ?_)|apply And.intro|(exact iEq (by omega))|(exact au (by omega))
 ·obtain rfl:x=(aP f).length:=by omega
  rw[wJ,ol]
  repeat' first|exact bP _ _|exact trivial|exact rfl|exact ag _|refine af ?_|refine ak ?_ ?_|exact aE|exact aL _ _ _ (.inl rfl)|(exact bf (by omega))|refine aA ?_|refine ar ?_|refine aC ?_ ?_ ?_|refine aB ?_ ?_ ?_|refine toMax ?_|refine toMin ?_|refine ⟨rfl,?_⟩|refine ⟨trivial,?_⟩|(refine aH (fun h =>?_) (fun h =>?_))|(refine az (fun h =>?_) (fun h =>?_))|(refine aI (fun h =>?_) (fun h =>?_))|refine aD ?_|(refine ⟨au (by omega),?_⟩)|(refine And.intro (by omega) ?_)|apply And.intro|(exact iEq (by omega))|(exact au (by omega))
end
end Go.Proofs.YtkkgnalgmebfjaaGreat
namespace Go.Proofs.YtkkgnalgmebfjaaGreat
open Go Go.Shelf
def uI:Go.Shelf.Ren:=⟨fun|189=>154|125=>182|257=>181|128=>196|129=>197|294=>187|295=>188|296=>189|297=>190|298=>191|299=>192|216=>193|300=>194|301=>195|328=>203|329=>204|330=>205|331=>206|332=>207|215=>208|343=>209|n=>n,fun|28=>42|3=>3|46=>264|0=>0|51=>278|53=>280|4=>4|183=>270|182=>269|131=>275|5=>5|9=>9|218=>285|222=>88|228=>290|229=>291|n=>n,fun|n=>n⟩
theorem AC:Go.Proofs.Lays.n189 Tryz.prog uI:={
 mixed:=by kernel_rfl
 f125:=Tryz.func182.trans (congrArg some (by kernel_rfl))
 f128:=Tryz.func196.trans (congrArg some (by kernel_rfl))
 f129:=Tryz.func197.trans (congrArg some (by kernel_rfl))
 f189:=Tryz.func154.trans (congrArg some (by kernel_rfl))
 f215:=Tryz.func208.trans (congrArg some (by kernel_rfl))
 f216:=Tryz.func193.trans (congrArg some (by kernel_rfl))
 f257:=Tryz.func181.trans (congrArg some (by kernel_rfl))
 f294:=Tryz.func187.trans (congrArg some (by kernel_rfl))
 f295:=Tryz.func188.trans (congrArg some (by kernel_rfl))
 f296:=Tryz.func189.trans (congrArg some (by kernel_rfl))
 f297:=Tryz.func190.trans (congrArg some (by kernel_rfl))
 f298:=Tryz.func191.trans (congrArg some (by kernel_rfl))
 f299:=Tryz.func192.trans (congrArg some (by kernel_rfl))
 f300:=Tryz.func194.trans (congrArg some (by kernel_rfl))
 f301:=Tryz.func195.trans (congrArg some (by kernel_rfl))
 f328:=Tryz.func203.trans (congrArg some (by kernel_rfl))
 f329:=Tryz.func204.trans (congrArg some (by kernel_rfl))
 f330:=Tryz.func205.trans (congrArg some (by kernel_rfl))
 f331:=Tryz.func206.trans (congrArg some (by kernel_rfl))
 f332:=Tryz.func207.trans (congrArg some (by kernel_rfl))
 f343:=Tryz.func209.trans (congrArg some (by kernel_rfl))
 t0:=Tryz.underlying0
 a0:=Tryz.isAgg0
 z0:=Tryz.sizeOf0
 v0:=Tryz.zeroValue0
 t3:=Tryz.underlying3
 a3:=Tryz.isAgg3
 z3:=Tryz.sizeOf3
 v3:=Tryz.zeroValue3
 t4:=Tryz.underlying4
 a4:=Tryz.isAgg4
 z4:=Tryz.sizeOf4
 v4:=Tryz.zeroValue4
 t5:=Tryz.underlying5
 a5:=Tryz.isAgg5
 z5:=Tryz.sizeOf5
 v5:=Tryz.zeroValue5
 t9:=Tryz.underlying9
 a9:=Tryz.isAgg9
 z9:=Tryz.sizeOf9
 v9:=Tryz.zeroValue9
 t28:=Tryz.underlying42
 a28:=Tryz.isAgg42
 z28:=Tryz.sizeOf42
 v28:=Tryz.zeroValue42
 t46:=Tryz.underlying264
 a46:=Tryz.isAgg264
 z46:=Tryz.sizeOf264
 v46:=Tryz.zeroValue264
 t51:=Tryz.underlying278
 a51:=Tryz.isAgg278
 z51:=Tryz.sizeOf278
 v51:=Tryz.zeroValue278
 t53:=Tryz.underlying280
 a53:=Tryz.isAgg280
 z53:=Tryz.sizeOf280
 v53:=Tryz.zeroValue280
 t131:=Tryz.underlying275
 a131:=Tryz.isAgg275
 z131:=Tryz.sizeOf275
 v131:=Tryz.zeroValue275
 t182:=Tryz.underlying269
 a182:=Tryz.isAgg269
 z182:=Tryz.sizeOf269
 v182:=Tryz.zeroValue269
 t183:=Tryz.underlying270
 a183:=Tryz.isAgg270
 z183:=Tryz.sizeOf270
 v183:=Tryz.zeroValue270
 t218:=Tryz.underlying285
 a218:=Tryz.isAgg285
 z218:=Tryz.sizeOf285
 v218:=Tryz.zeroValue285
 t222:=Tryz.underlying88
 a222:=Tryz.isAgg88
 z222:=Tryz.sizeOf88
 v222:=Tryz.zeroValue88
 t228:=Tryz.underlying290
 a228:=Tryz.isAgg290
 z228:=Tryz.sizeOf290
 v228:=Tryz.zeroValue290
 t229:=Tryz.underlying291
 a229:=Tryz.isAgg291
 z229:=Tryz.sizeOf291
 v229:=Tryz.zeroValue291 }
end Go.Proofs.YtkkgnalgmebfjaaGreat
namespace Go.K
variable {P:Program}
theorem Rel.world{B:Nat}{J:Ren}{H:Heap}{w W:World}(hr:Rel P B J H w)(b0:Nat)(hsz:w.heap.size<=W.heap.size)(hsame:∀b,b<w.heap.size->b≠b0->W.heap[b]?=w.heap[b]?)
  (hfree:∀id r o,J id=some r->H[id]?=some o->o.alive=true->r.b≠b0) (hmem:∀m,J.mem b0=some m->False) (hfb:¬ FB J H b0):Rel P B J H W:=by
 refine ⟨Nat.le_trans hr.bsize hsz,hr.dJ,hr.dom,fun id r h=>Nat.lt_of_lt_of_le (hr.lt id r h) hsz,fun id r o h1 h2 =>?_,hr.base,hr.sep,fun b m hb=>⟨?_,(hr.mem b m hb).2⟩,
  hr.fam.keep (Ren.le_refl _) (fun _ _ _ h=>h) (fun _ _ _ _ h=>h) (Nat.le_refl _) hsz (fun b hb=>by
   rcases Nat.lt_or_ge b w.heap.size with hl|hl
   ·exact hsame b hl (fun e=>hfb (e ▸ hb))
   ·exact absurd hb (hr.fam.mY hl)) (fun id r o a b c=>hr.fam.free a b c) (fun b m h=>hr.fam.eA h)⟩
 ·by_cases hal:o.alive=true
  ·exact (hr.obj id r o h1 h2).mono (Ren.le_refl _) (hsame _ (hr.lt id r h1) (hfree id r o h1 h2 hal))
  ·cases o <;> first|trivial|exact absurd rfl hal
 ·obtain ⟨ty,fz,e⟩:=(hr.mem b m hb).1
  have hne:b≠b0:=by rintro rfl;exact hmem m hb
  exact ⟨ty,fz,(hsame b (Array.getElem?_eq_some_iff.1 e).1 hne).trans e⟩
theorem Post.grown{B base:Nat}{M:List Nat}{J ρ':Ren}{H H':Heap}{w w1 w2:World}(p:Post P B base M J H w ρ' H' w1)(hsz:w1.heap.size<=w2.heap.size)(hsame:∀b,b<w1.heap.size->w2.heap[b]?=w1.heap[b]?)
  (hos:w2.os=w1.os) (ht:w2.tape=w1.tape) (ho:w2.output=w1.output) (hd:w1.drawn<=w2.drawn):Post P B base M J H w ρ' H' w2:=by
 have hlt:∀id r o,ρ' id=some r->H'[id]?=some o->o.alive=true->r.b≠w1.heap.size:=fun id r o h1 _ _=>by have:=p.rel.lt id r h1;omega
 have hm:∀m,ρ'.mem w1.heap.size=some m->False:=fun m h=>by
  obtain ⟨ty,fz,e⟩:=(p.rel.mem _ m h).1
  have:=(Array.getElem?_eq_some_iff.1 e).1;omega
 exact ⟨p.rel.world w1.heap.size hsz (fun b h _=>hsame b h) hlt hm (p.rel.fam.mY (Nat.le_refl _)),p.ext,p.new,p.len,p.same,Nat.le_trans p.size hsz,fun b h1 h2=>(hsame b (Nat.lt_of_lt_of_le h1 p.size)).trans (p.keep b h1 h2),p.ob,hos.trans p.os,ht.trans p.tape,ho.trans p.output,p.frz,Nat.le_trans p.drawn hd,p.jQ⟩
end Go.K
namespace Go.K
open Go Go.Proofs Go.RowKit Go.Lib Go.Sort Go.Shelf
variable {P:Program}
theorem wq{R:Go.Shelf.Ren}(L:Lays.n189 P R)(ef:Enters P (R.f 189))
  {H:Heap} {id:Nat} {tag:Option Nat} (htag:tag=none∨tag=some 1) {L0:List Int} (h0:0<L0.length) (hlen:L0.length<4611686018427387904) (ho:H[id]?=some (.cells true 1 (L0.map (Value.int .i64)))) :
  aF P (R.f 189) [.slice (some ⟨id,0,tag⟩) L0.length L0.length] H [id] (Is (.tuple #[]) (H.set id (.cells true 1 ((L0.mergeSort fun x y=>decide (x<=y)).map (Value.int .i64))))):=by
 refine ⟨ef,fun B J w args' hr ha =>?_⟩
 obtain ⟨x',rfl⟩:∃x',args' = #[x']:=by
  have hl:=ha.1
  obtain ⟨l⟩:=args'
  match l,hl with
  | [a],_=>exact ⟨a,rfl⟩
 have hx:=ha.2 0 _ _ rfl rfl
 obtain ⟨r,cap',hid,hcap,rfl⟩:∃r cap',J id=some r/\L0.length<=cap'/\x' = .slice (some ⟨r.b,0+r.s,none⟩) L0.length cap':=by
  generalize L0.length=n at hx h0
  rcases htag with rfl|rfl
  ·cases hx with
   |slice h hl hc _=>exact ⟨_,_,h,Nat.le_trans hl hc,rfl⟩
   |bN h=>exact absurd h0 (Nat.lt_irrefl 0)
  ·cases hx with
   |bl=>exact absurd h0 (Nat.lt_irrefl 0)
   |bk=>exact absurd h0 (Nat.lt_irrefl 0)
   |bK h hp hl hc _=>exact ⟨_,_,h,Nat.le_trans hl hc,rfl⟩
 rw[Nat.zero_add]
 have zS:=hr.obj id r _ hid ho
 obtain ⟨ow,zz,cs',ty,fz,hb,hsz,hfz,hcs⟩:=zS
 obtain rfl:=hfz rfl
 have hel:∀i (hi:i<L0.length),cs'[i+r.s]?=some (Value.int .i64 L0[i]):=fun i hi=>by
  obtain ⟨v',e1,e2⟩:=hcs i (Value.int .i64 L0[i]) (by rw[List.getElem?_map,List.getElem?_eq_getElem hi];rfl)
  cases e2;exact e1
 have hgd:∀(M:List Int) j (hj:j<M.length),M.toArray[j]! = M[j]:=fun M j hj=>getElem!_pos M.toArray j hj
 have hH:Holds (Value.int .i64) w r.b r.s L0.toArray:=fun j hj=>by
  have hj':j<L0.length:=by simpa using hj
  have e:=hel j hj'
  refine ⟨?_,?_⟩
  ·rw[hgd L0 j hj']
   simp only[World.cell?,hb,Option.isSome_none,Bool.false_eq_true,if_false]
   rw[Nat.add_comm];exact e
  ·simp[World.frozen?,hb]
 have hblk:=hr.lt id r hid
 have hcon:=Any.slices_Sort_int L r.b r.s cap' L0 w hH hblk hlen
 refine callsIn_wide.2 (hcon.mono ?_)
 rintro e w' ⟨rfl,n1,os,rfl⟩
 have hml:(L0.mergeSort fun x y=>decide (x<=y)).length=L0.length:=List.length_mergeSort _
 generalize (L0.mergeSort fun x y=>decide (x<=y))=M at hml ⊢
 have hput:bD J r (.cells true 1 (M.map (Value.int .i64))) (w.putObj r.b (.cells (putCells (Value.int .i64) r.s M.toArray cs') ty (0,0))):=by
  refine ⟨ow,zz,putCells (Value.int .i64) r.s M.toArray cs',ty,(0,0),World.putObj_heap_same hblk,by simp[putCells,hml]at hsz ⊢;omega,fun _=>rfl,fun i v hv =>?_⟩
  rw[List.getElem?_map]at hv
  obtain ⟨a,ha1,rfl⟩:=bv hv
  obtain ⟨hi,ha2⟩:=List.getElem?_eq_some_iff.1 ha1
  refine ⟨.int .i64 a,?_,.int _ _⟩
  simp only[putCells,Array.getElem?_mapIdx,hel i (by omega),Option.map_some]
  rw[if_pos ⟨by omega,by simp;omega⟩,show i+r.s-r.s=i by omega,hgd M i hi,ha2]
 have p1:=Post.put (base:=H.length) (M:=[id]) hr hid ho rfl (by rw[hb];rfl) hput (fun _=>List.mem_singleton.2 rfl)
 have hheap:∀b,b<w.heap.size->(grow (putRow (Value.int .i64) (Sort.ahead w n1) r.b r.s M.toArray) os).heap[b]?=(w.putObj r.b (.cells (putCells (Value.int .i64) r.s M.toArray cs') ty (0,0))).heap[b]? := by
  intro b hb1
  simp only[grow,putRow,mapBlock,Sort.ahead]
  rw[Array.getElem?_append_left (by simpa using hb1),Array.getElem?_modify]
  by_cases e:r.b=b
  ·subst e
   rw[if_pos rfl,World.putObj_heap_same hblk]
   show Option.map (onCells _) w.heap[r.b]?=_
   rw[hb];rfl
  ·rw[if_neg e,World.putObj_heap_other (Ne.symm e)]
 have p2:=p1.grown (w2:=grow (putRow (Value.int .i64) (Sort.ahead w n1) r.b r.s M.toArray) os) (by simp[grow,putRow,mapBlock,Sort.ahead,World.putObj]) (fun b hb1=>hheap b (by simpa[World.putObj] using hb1)) rfl rfl rfl (by simp[grow,putRow,mapBlock,Sort.ahead,World.putObj])
 exact ⟨.tuple #[],.tuple #[],J,_,rfl,.tuple rfl (fun i a b h=>by simp at h),p2,rfl,rfl⟩
end Go.K
namespace Go.Proofs.YtkkgnalgmebfjaaGreat
noncomputable section
attribute [local irreducible] vF
theorem zL(l:List Int):l.flatMap bj=l.map (Value.int .i64):=by
 induction l with
 |nil=>rfl
 |cons x l ih=>rw[List.flatMap_cons,ih];rfl
theorem qZ {P : Program} {f : FuncId} {fn : Func} (hf : P.funcs[f]? = some fn) (hname : (fn.name == "runtime.NumGoroutine") = false) (hb : fn.body.isSome = true) : Enters P f := by
 obtain ⟨c,hc⟩:=Option.isSome_iff_exists.1 hb
 exact enters_of hf hname hc
theorem vo:Enters prog 154:=qZ Tryz.func154 (by kernel_rfl) (by kernel_rfl)
theorem AS{L0:List Int}(h0:0<L0.length)(h1:L0.length<1000){H:Heap}{id:Nat}(ho:H[id]?=some (.cells true 1 (L0.flatMap bj))) :
  aF prog 154 [.slice (some ⟨id,0,some 1⟩) L0.length L0.length] H [id] (Is (.tuple #[]) (H.set id (.cells true 1 ((bo L0).flatMap bj)))):=by
 rw[zL]at ho ⊢
 exact wq AC vo (.inr rfl) h0 (by omega) ho
theorem wO{L:List Int}(h:comp (bo L)=bo L):comp (bo L)++gU L=bo L:=by
 unfold gU
 rw[h,oN,Nat.sub_self];exact List.append_nil _
theorem wg(n:Nat):cD [.int .i64 0] n=(List.replicate n (0:Int)).flatMap bj:=by
 induction n with
 |zero=>rfl
 |succ n ih=>show .int .i64 0 :: cD [.int .i64 0] n=_;rw[ih];rfl
theorem uN{A B:List Int}{k n:Nat}(hk:k=A.length)(hn:n=B.length):bt ((A++B).flatMap bj) (0+k*1) (cD [.int .i64 0] n)=(A++List.replicate n 0).flatMap bj:=by
 subst hk hn
 rw[wg,List.flatMap_append,List.flatMap_append,show 0+A.length*1=(A.flatMap bj).length from by rw[bg cT];omega]
 have:=l8 ((List.replicate B.length (0:Int)).flatMap bj) (B.flatMap bj) (A.flatMap bj) [] (by rw[bg cT,bg cT,List.length_replicate])
 simpa using this
theorem wc{w h:Int}{a:List Bool}{c:Int}{f:Flow}(b:eD w h a.length)(hc:0<=c/\c<w*h)(hf:bY f){H:Heap}{L:Nat}(hL:H.length=L){id:Nat}{own:Bool}{z:Nat}(hid:H[id]?=some (.cells own z (a.flatMap am))) :
  aF prog F.fS [eH w h id a.length,mZ f,.int .i64 c] H [] (Is (.slice (some ⟨L,0,some 2⟩) (comp (bo (tgL w h a c f))).length (comp (bo (tgL w h a c f))).length) (H ++ [.cells true 1 ((comp (bo (tgL w h a c f))++gU (tgL w h a c f)).flatMap bj)])):=by
 subst hL
 refine pT (fun i => .slice (some ⟨i,0,some 2⟩) (comp (bo (tgL w h a c f))).length (comp (bo (tgL w h a c f))).length) (Eq.mpr (xx w h a c f) ?_) (bP 0 a) (fun n=>cj n _) rfl rfl (fun _=>rfl) hid rfl
 unfold rC
 have mb:=iv hf
 have hTl:=lL w h a c f
 have hSl:=(oN (tgL w h a c f)).trans hTl
 have hfin:=wO (L:=tgL w h a c f)
 have zR:gU (tgL w h a c f)=List.replicate ((tgL w h a c f).length-(comp (bo (tgL w h a c f))).length) 0:=rfl
 refine ⟨trivial,fun H' hl _=>zy f hf hl,rfl,Nat.zero_le _,?_,fun _=>rfl,?_⟩
 ·repeat' first|exact cj _ _|exact trivial|exact rfl|exact ag _|refine af ?_|refine ak ?_ ?_|exact aE|exact aL _ _ _ (.inl rfl)|(exact bf (by omega))|refine aA ?_|refine ar ?_|refine aC ?_ ?_ ?_|refine aB ?_ ?_ ?_|refine toMax ?_|refine toMin ?_|refine ⟨rfl,?_⟩|refine ⟨trivial,?_⟩|(refine aH (fun h =>?_) (fun h =>?_))|(refine az (fun h =>?_) (fun h =>?_))|(refine aI (fun h =>?_) (fun h =>?_))|refine aD ?_|(refine ⟨au (by omega),?_⟩)|(refine And.intro (by omega) ?_)|apply And.intro|(exact iEq (by omega))|(exact au (by omega))
 intro x hx
 refine aH (fun k =>?_) (fun k =>?_)
 ·have hlt:x<(aP f).length:=by omega
  have hM:(tgL w h a c f).take (x+1)=(tgL w h a c f).take x ++ [bX w h a c ((aP f).getD x aM)]:=by
   rw[List.take_add_one,<- oL hlt,List.getD_eq_getElem?_getD,List.getElem?_eq_getElem (by omega)];rfl
  have hlx:((tgL w h a c f).take x).length=x:=by rw[List.length_take];omega
  have hob:=dA (own:=true) cT hM rfl
  have hfl:=dd cT ((tgL w h a c f).take x)
  rw[hlx]at hob hfl
  refine ⟨by omega,fq hlt,bX w h a c ((aP f).getD x aM),⟨rfl,trivial⟩,fun H' hl hd=>tK b hc (qt hf hlt) hd.1,?_⟩
  repeat' first|(refine ⟨x+1,by omega,by omega,rfl,?_⟩)|exact hob|exact cj _ _|exact hfl|exact Nat.le_refl _|exact trivial|exact rfl|exact ag _|refine af ?_|refine ak ?_ ?_|exact aE|exact aL _ _ _ (.inl rfl)|(exact bf (by omega))|refine aA ?_|refine ar ?_|refine aC ?_ ?_ ?_|refine aB ?_ ?_ ?_|refine toMax ?_|refine toMin ?_|refine ⟨rfl,?_⟩|refine ⟨trivial,?_⟩|(refine aH (fun h =>?_) (fun h =>?_))|(refine az (fun h =>?_) (fun h =>?_))|(refine aI (fun h =>?_) (fun h =>?_))|refine aD ?_|(refine ⟨au (by omega),?_⟩)|(refine And.intro (by omega) ?_)|apply And.intro|(exact iEq (by omega))|(exact au (by omega))
 ·obtain rfl:x=(aP f).length:=by omega
  have hkS:∀H':Heap,H'[4]?=some (.cells true 1 ((tgL w h a c f).flatMap bj))->aF prog 154 [.slice (some ⟨4,0,some 1⟩) (aP f).length (aP f).length] H' [4] (Is (.tuple #[]) (H'.set 4 (.cells true 1 ((bo (tgL w h a c f)).flatMap bj)))):=fun H' ho=>by
   have:=AS (L0:=tgL w h a c f) (by omega) (by omega) ho
   rw[hTl]at this;exact this
  rw[show (tgL w h a c f).take (aP f).length=tgL w h a c f from by rw[<- hTl];exact List.take_length]
  obtain ⟨S,hS⟩:∃S,bo (tgL w h a c f)=S:=⟨_,rfl⟩
  rw[hS]at hSl hfin zR hkS
  rw[hS]
  have hdone:comp S=S->(comp S).length=(aP f).length:=fun e=>by rw[e,hSl]
  generalize (aP f).length=n at *
  rw[hTl]at zR
  refine ⟨⟨rfl,trivial⟩,fun H' hl hd=>hkS H' hd.1,aH (fun k2 =>?_) (fun k2 =>?_)⟩
  ·have hc1:comp S=S:=by
    match S,hSl with
    | [s],_=>rfl
    | [],e=>exact absurd e (by simp only[List.length_nil];omega)
    |_ :: _ :: _,e=>exact absurd e (by simp only[List.length_cons];omega)
   rw[hdone hc1,hfin hc1]
   exact ⟨rfl,dE,⟨rfl,cj _ _⟩,trivial⟩
  ·have hc1:comp (S.take 1)=S.take 1:=by
    match S,hSl with
    |s :: r,_=>rfl
    | [],e=>exact absurd e (by simp only[List.length_nil];omega)
   refine ⟨rfl,⟨Nat.le_refl _,by omega,hc1⟩,?_,fun _=>rfl,?_⟩
   ·repeat' first|exact cj _ _|exact trivial|exact rfl|exact ag _|refine af ?_|refine ak ?_ ?_|exact aE|exact aL _ _ _ (.inl rfl)|(exact bf (by omega))|refine aA ?_|refine ar ?_|refine aC ?_ ?_ ?_|refine aB ?_ ?_ ?_|refine toMax ?_|refine toMin ?_|refine ⟨rfl,?_⟩|refine ⟨trivial,?_⟩|(refine aH (fun h =>?_) (fun h =>?_))|(refine az (fun h =>?_) (fun h =>?_))|(refine aI (fun h =>?_) (fun h =>?_))|refine aD ?_|(refine ⟨au (by omega),?_⟩)|(refine And.intro (by omega) ?_)|apply And.intro|(exact iEq (by omega))|(exact au (by omega))
   rintro x3 ⟨j1,j2,j3⟩
   refine aH (fun k3 =>?_) (fun k3 =>?_)
   ·have hx3:x3<S.length:=by omega
    rw[show Int.toNat ((x3:Int)-1)=x3-1 by omega]
    refine ⟨by omega,mQ hx3 (by omega),au (by omega),by omega,mQ (by omega) (by omega),aI (fun q =>?_) (fun q =>?_)⟩
    ·obtain ⟨q1,q2⟩:=yj j1 hx3 j3 q
     refine ⟨⟨⟨.inr (.inr rfl),Nat.le_refl _⟩,Nat.le_refl _,by omega⟩,rfl,rfl,⟨Nat.le_refl _,by omega,by omega⟩,?_,fun _=>rfl,?_⟩
     ·rw[q1,q2]
      repeat' first|exact cj _ _|exact trivial|exact rfl|exact ag _|refine af ?_|refine ak ?_ ?_|exact aE|exact aL _ _ _ (.inl rfl)|(exact bf (by omega))|refine aA ?_|refine ar ?_|refine aC ?_ ?_ ?_|refine aB ?_ ?_ ?_|refine toMax ?_|refine toMin ?_|refine ⟨rfl,?_⟩|refine ⟨trivial,?_⟩|(refine aH (fun h =>?_) (fun h =>?_))|(refine az (fun h =>?_) (fun h =>?_))|(refine aI (fun h =>?_) (fun h =>?_))|refine aD ?_|(refine ⟨au (by omega),?_⟩)|(refine And.intro (by omega) ?_)|apply And.intro|(exact iEq (by omega))|(exact au (by omega))
     rintro x4 ⟨i1,i2,i3⟩
     have hcl:=vq i2
     refine aH (fun k4 =>?_) (fun k4 =>?_)
     ·have hm:x3+x4<S.length:=by omega
      have g1:=ot (S:=S) (m:=x3+x4) (k:=x3+x4) (by omega)
      have g2:=ot (S:=S) (m:=x3+x4) (k:=x3+x4-1) (by omega)
      have a1:∀off,off=x3+x4->((ca S (x3+x4)).flatMap bj)[off]?=some (.int .i64 ((ca S (x3+x4)).getD (x3+x4) 0)):=fun off ho=>mQ (by omega) ho
      rw[show x3+Int.toNat ((x4:Int)-1)=x3+x4-1 by omega]
      refine ⟨by omega,a1 _ (by omega),au (by omega),by omega,mQ (by omega) (by omega),?_⟩
      rw[g1,g2]
      rw[g1]at a1
      refine az (fun q =>?_) (fun q =>?_)
      ·obtain ⟨e1,e2⟩:=yk (by omega) hm q i3
       have hset:=j0 cT (ca S (x3+x4)) (cG S (x3+x4)) (by rw[hcl];omega) (S.getD (x3+x4) 0)
       refine ⟨((cG S (x3+x4):Nat):Int),rfl,by omega,a1 _ (by omega),by omega,?_,rfl,_,rfl,au (by omega),au (by omega),x4+1,⟨by omega,by omega,?_⟩,by omega,rfl,?_⟩
       ·rw[bg cT,hcl];omega
       ·rw[<- Nat.add_assoc,e1];omega
       ·rw[<- Nat.add_assoc,e1,show 0+Int.toNat ((cG S (x3+x4):Nat):Int)*1=cG S (x3+x4)*1 by omega,hset,e2]
        repeat' first|exact cj _ _|exact trivial|exact rfl|exact ag _|refine af ?_|refine ak ?_ ?_|exact aE|exact aL _ _ _ (.inl rfl)|(exact bf (by omega))|refine aA ?_|refine ar ?_|refine aC ?_ ?_ ?_|refine aB ?_ ?_ ?_|refine toMax ?_|refine toMin ?_|refine ⟨rfl,?_⟩|refine ⟨trivial,?_⟩|(refine aH (fun h =>?_) (fun h =>?_))|(refine az (fun h =>?_) (fun h =>?_))|(refine aI (fun h =>?_) (fun h =>?_))|refine aD ?_|(refine ⟨au (by omega),?_⟩)|(refine And.intro (by omega) ?_)|apply And.intro|(exact iEq (by omega))|(exact au (by omega))
      ·obtain ⟨e1,e2⟩:=uf (by omega) hm q
       refine ⟨au (by omega),x4+1,⟨by omega,by omega,by rw[<- Nat.add_assoc,e1];omega⟩,by omega,rfl,?_⟩
       rw[<- Nat.add_assoc,e1,e2]
       repeat' first|exact cj _ _|exact trivial|exact rfl|exact ag _|refine af ?_|refine ak ?_ ?_|exact aE|exact aL _ _ _ (.inl rfl)|(exact bf (by omega))|refine aA ?_|refine ar ?_|refine aC ?_ ?_ ?_|refine aB ?_ ?_ ?_|refine toMax ?_|refine toMin ?_|refine ⟨rfl,?_⟩|refine ⟨trivial,?_⟩|(refine aH (fun h =>?_) (fun h =>?_))|(refine az (fun h =>?_) (fun h =>?_))|(refine aI (fun h =>?_) (fun h =>?_))|refine aD ?_|(refine ⟨au (by omega),?_⟩)|(refine And.intro (by omega) ?_)|apply And.intro|(exact iEq (by omega))|(exact au (by omega))
     ·have hm:x3+x4=S.length:=by omega
      have hn:cG S (x3+x4)=(comp S).length:=by unfold cG;rw[hm,List.take_length]
      have hto:ca S (x3+x4)=comp S++S.drop (comp S).length:=by unfold ca;rw[hn,hm,List.take_length]
      have hle:=ka S
      rw[hn,hto]
      refine ⟨_,rfl,⟨⟨.inr (.inr rfl),Nat.le_refl _⟩,Nat.le_refl _,by omega,by omega⟩,?_,rfl,_,rfl,⟨⟨.inr (.inr rfl),by omega⟩,by omega,Nat.zero_le _⟩,by rw[Nat.sub_zero],rfl,?_⟩
      ·rw[bg cT,bH,List.length_drop];omega
      ·rw[Int.toNat_natCast,uN rfl (by rw[List.length_drop];omega),zR]
       repeat' first|exact cj _ _|exact trivial|exact rfl|exact ag _|refine af ?_|refine ak ?_ ?_|exact aE|exact aL _ _ _ (.inl rfl)|(exact bf (by omega))|refine aA ?_|refine ar ?_|refine aC ?_ ?_ ?_|refine aB ?_ ?_ ?_|refine toMax ?_|refine toMin ?_|refine ⟨rfl,?_⟩|refine ⟨trivial,?_⟩|(refine aH (fun h =>?_) (fun h =>?_))|(refine az (fun h =>?_) (fun h =>?_))|(refine aI (fun h =>?_) (fun h =>?_))|refine aD ?_|(refine ⟨au (by omega),?_⟩)|(refine And.intro (by omega) ?_)|apply And.intro|(exact iEq (by omega))|(exact au (by omega))
    ·refine ⟨au (by omega),x3+1,⟨by omega,by omega,wW j1 hx3 j3 q⟩,by omega,rfl,?_⟩
     repeat' first|exact cj _ _|exact trivial|exact rfl|exact ag _|refine af ?_|refine ak ?_ ?_|exact aE|exact aL _ _ _ (.inl rfl)|(exact bf (by omega))|refine aA ?_|refine ar ?_|refine aC ?_ ?_ ?_|refine aB ?_ ?_ ?_|refine toMax ?_|refine toMin ?_|refine ⟨rfl,?_⟩|refine ⟨trivial,?_⟩|(refine aH (fun h =>?_) (fun h =>?_))|(refine az (fun h =>?_) (fun h =>?_))|(refine aI (fun h =>?_) (fun h =>?_))|refine aD ?_|(refine ⟨au (by omega),?_⟩)|(refine And.intro (by omega) ?_)|apply And.intro|(exact iEq (by omega))|(exact au (by omega))
   ·obtain rfl:x3=S.length:=by omega
    rw[List.take_length]at j3
    rw[hdone j3,hfin j3]
    exact ⟨rfl,dE,⟨rfl,cj _ _⟩,trivial⟩
def oF(sp:Value)(x p q:List Int):Prop :=
 ((((((x.length:Nat):Int):Int) != ((x.length:Nat):Int))=true->(.bool false:Value)=sp)/\(((((x.length:Nat):Int):Int) != ((x.length:Nat):Int))=false->(true=true/\(0<=List.length x)/\(true=true/\((nI 0:Value)=nI ((0:Nat):Int)/\wkR (slQ 1 2 x.length)/\wkR (slQ 0 2 x.length)/\True)/\(True)/\(True)/\(True))/\(∀x0:Nat,true=true)/\∀x0:Nat,(x0<=List.length x)->(((decide (((x0:Int):Int)<((x.length:Nat):Int)))=true->(((0:Int)<=(x0:Int)/\((x0:Int):Int)<((x.length:Nat):Int))/\((((x++p).flatMap bj)[(0+Int.toNat (x0:Int)*1)]?=some (nI (x.getD x0 0)))/\(((0:Int)<=(x0:Int)/\((x0:Int):Int)<((x.length:Nat):Int))/\((((x++q).flatMap bj)[(0+Int.toNat (x0:Int)*1)]?=some (nI (x.getD x0 0)))/\(((((x.getD x0 0):Int) != (x.getD x0 0))=true->(.bool false:Value)=sp)/\((((x.getD x0 0):Int) != (x.getD x0 0))=false->((nI (IntKind.wrap .i64 ((x0:Int)+1)):Value)=nI ((x0:Int)+1)/\(∃x0':Nat,(x0'<=List.length x)/\(List.length x-x0')<(List.length x-x0)/\true=true/\((nI ((x0:Int)+1):Value)=nI (x0':Int)/\wkR (slQ 1 2 x.length)/\wkR (slQ 0 2 x.length)/\True)/\(True)/\(True)/\(True))))))))))/\((decide (((x0:Int):Int)<((x.length:Nat):Int)))=false->(.bool true:Value)=sp)))))
theorem vv(sp:Value)(x p q:List Int):vF prog msk (dm 0) 100000 true 40 true 16 [slQ 0 2 x.length,slQ 1 2 x.length] (ba 0 [(x++p).flatMap bj,(x++q).flatMap bj]) (some [])
 (.go 5 (.fork (.auto) (.go 0 (.inv 3 (Nat) (0) [] [] (fun x0=>[(5,nI (x0:Int)),(1,slQ 1 2 x.length),(0,slQ 0 2 x.length)]) (fun x0=>[]) (fun x0=>[]) (fun x0=>[]) (fun x0=>(x0<=List.length x)) (fun x0=>(List.length x-x0)) (fun x0 => .go 3 (.fork (.go 1 (.need (.val (nI (x.getD x0 0)) (.go 1 (.need (.val (nI (x.getD x0 0)) (.go 0 (.fork (.auto) (.go 1 (.slot 16 (nI ((x0:Int)+1)) (.go 0 (.again [])))))))))))) (.auto)))))))
 (fun v _ _=>v=sp)=oF sp x p q:=by kernel_rfl
def lz(sp:Value)(a:List Bool):Prop :=
 ((((((a.length:Nat):Int):Int) != ((a.length:Nat):Int))=true->(.bool false:Value)=sp)/\(((((a.length:Nat):Int):Int) != ((a.length:Nat):Int))=false->(true=true/\(0<=List.length a)/\(true=true/\((nI 0:Value)=nI ((0:Nat):Int)/\wkR (slQ 1 2 a.length)/\wkR (slQ 0 2 a.length)/\True)/\(True)/\(True)/\(True))/\(∀x0:Nat,true=true)/\∀x0:Nat,(x0<=List.length a)->(((decide (((x0:Int):Int)<((a.length:Nat):Int)))=true->(((0:Int)<=(x0:Int)/\((x0:Int):Int)<((a.length:Nat):Int))/\(((a.flatMap am)[(0+Int.toNat (x0:Int)*1)]?=some (.bool (a.getD x0 false)))/\(((0:Int)<=(x0:Int)/\((x0:Int):Int)<((a.length:Nat):Int))/\(((a.flatMap am)[(0+Int.toNat (x0:Int)*1)]?=some (.bool (a.getD x0 false)))/\(((!((a.getD x0 false) == (a.getD x0 false)))=true->(.bool false:Value)=sp)/\((!((a.getD x0 false) == (a.getD x0 false)))=false->((nI (IntKind.wrap .i64 ((x0:Int)+1)):Value)=nI ((x0:Int)+1)/\(∃x0':Nat,(x0'<=List.length a)/\(List.length a-x0')<(List.length a-x0)/\true=true/\((nI ((x0:Int)+1):Value)=nI (x0':Int)/\wkR (slQ 1 2 a.length)/\wkR (slQ 0 2 a.length)/\True)/\(True)/\(True)/\(True))))))))))/\((decide (((x0:Int):Int)<((a.length:Nat):Int)))=false->(.bool true:Value)=sp)))))
theorem rG(sp:Value)(a:List Bool):vF prog msk (dm 0) 100000 true 40 true 69 [slQ 0 2 a.length,slQ 1 2 a.length] (ba 0 [a.flatMap am,a.flatMap am]) (some [])
 (.go 5 (.fork (.auto) (.go 0 (.inv 3 (Nat) (0) [] [] (fun x0=>[(5,nI (x0:Int)),(1,slQ 1 2 a.length),(0,slQ 0 2 a.length)]) (fun x0=>[]) (fun x0=>[]) (fun x0=>[]) (fun x0=>(x0<=List.length a)) (fun x0=>(List.length a-x0)) (fun x0 => .go 3 (.fork (.go 1 (.need (.val (.bool (a.getD x0 false)) (.go 1 (.need (.val (.bool (a.getD x0 false)) (.go 0 (.fork (.auto) (.go 1 (.slot 16 (nI ((x0:Int)+1)) (.go 0 (.again [])))))))))))) (.auto)))))))
 (fun v _ _=>v=sp)=lz sp a:=by kernel_rfl
def xw(w h:Int)(a:List Bool):Prop :=
 ((a.length=0->(((0+a.length)*1<=2 ^ 44/\a.length=0)/\(true=true/\wk (.agg #[nI w,nI h,.slice none 0 0]:Value) (rn (sg 1 []) 3 (.agg #[nI w,nI h,slQ 1 1 a.length]:Value))/\(True/\True))))/\(¬ (a.length=0)->(((0+a.length)*1<=2 ^ 44/\a.length≠0/\(0=0)/\(a.length<=a.length/\0+a.length*1<=List.length (a.flatMap am))/\((((a.flatMap am).drop 0).take (a.length*1)):List Value).all (fun v=>cR v)=true)/\true=true/\(true=true/\wk (.agg #[nI w,nI h,.slice (some ⟨3,0,none⟩) (0+a.length) (0+a.length)]:Value) (rn (sg 1 [(1,3)]) 3 (.agg #[nI w,nI h,slQ 1 1 a.length]:Value))/\((some (.cells true 1 ([]++(((a.flatMap am).drop 0).take (a.length*1))):aa)=some (.cells true 1 (a.flatMap am):aa)/\ah 1 (.cells true 1 (a.flatMap am):aa)=true)/\True)))))
theorem Aw(w h:Int)(a:List Bool):vF prog msk (dm 0) 100000 true 40 true 9 [.agg #[nI w,nI h,slQ 0 2 a.length]] (ba 0 [a.flatMap am]) (some [])
 (.go 12 (.cas (a.length=0) (.val (.bool true) (.go 2 (.again []))) (.need (.go 2 (.again [(1,3)])))))
 (eS ((ba 0 [a.flatMap am]):HT).n 3 (.agg #[nI w,nI h,slQ 1 1 a.length]) [(true,.cells true 1 (a.flatMap am))])=xw w h a:=by kernel_rfl
def xr(l:List Flow):Prop :=
 (true=true/\(0<=List.length l)/\(true=true/\((nI 0:Value)=nI ((0:Nat):Int)/\wk (.slice none 0 0:Value) (slQ 0 1 0:Value)/\wkR (slQ 0 2 l.length)/\(.slice none 0 0:Value) = .slice none 0 0/\True)/\(True)/\(True/\True)/\(True))/\(∀x0:Nat,true=true)/\∀x0:Nat,(x0<=List.length l)->(((decide (((x0:Int):Int)<((l.length:Nat):Int)))=true->(((0:Int)<=(x0:Int)/\((x0:Int):Int)<((l.length:Nat):Int))/\((b6 4 (l.flatMap aV) (0+Int.toNat (x0:Int)*4)=some (.agg #[nI (l.getD x0 ac).x.lo,nI (l.getD x0 ac).x.hi,nI (l.getD x0 ac).y.lo,nI (l.getD x0 ac).y.hi]))/\(((x0+1)*32<=2 ^ 44/\1≠0/\(x0<=x0/\0+x0*4<=List.length ((l.take x0).flatMap aV))/\(1<=1/\0+1*4<=List.length ([nI (l.getD x0 ac).x.lo,nI (l.getD x0 ac).x.hi,nI (l.getD x0 ac).y.lo,nI (l.getD x0 ac).y.hi]:List Value))/\(((([nI (l.getD x0 ac).x.lo,nI (l.getD x0 ac).x.hi,nI (l.getD x0 ac).y.lo,nI (l.getD x0 ac).y.hi]:List Value).drop 0).take (1*4)):List Value).all (fun v=>cR v)=true)/\true=true/\((nI (IntKind.wrap .i64 ((x0:Int)+1)):Value)=nI ((x0:Int)+1)/\(∃x0':Nat,(x0'<=List.length l)/\(List.length l-x0')<(List.length l-x0)/\true=true/\((nI ((x0:Int)+1):Value)=nI (x0':Int)/\wk (.slice (some ⟨3,0,none⟩) (x0+1) (x0+1):Value) (slQ 3 1 x0':Value)/\wkR (slQ 0 2 l.length)/\(.slice none 0 0:Value) = .slice none 0 0/\True)/\(True)/\((some (.cells true 4 (((((l.take x0).flatMap aV).drop 0).take (x0*4))++((([nI (l.getD x0 ac).x.lo,nI (l.getD x0 ac).x.hi,nI (l.getD x0 ac).y.lo,nI (l.getD x0 ac).y.hi]:List Value).drop 0).take (1*4))):aa)=some (.cells true 4 ((l.take x0').flatMap aV):aa)/\ah 1 (.cells true 4 ((l.take x0').flatMap aV):aa)=true)/\True)/\(True)))))))/\((decide (((x0:Int):Int)<((l.length:Nat):Int)))=false->(true=true/\wk (slQ 1 1 x0:Value) (rn (sg 1 [(1,1)]) 3 (slQ 1 1 l.length:Value))/\((some (.cells true 4 ((l.take x0).flatMap aV):aa)=some (.cells true 4 (l.flatMap aV):aa)/\ah 1 (.cells true 4 (l.flatMap aV):aa)=true)/\True)))))
theorem As(l:List Flow):vF prog msk (dm 0) 100000 true 40 true 10 [slQ 0 2 l.length] (ba 0 [l.flatMap aV]) (some [])
 (.go 2 (.inv 3 (Nat) (0) [] [] (fun x0=>[(4,nI (x0:Int)),(3,slQ 1 1 x0),(0,slQ 0 2 l.length),(2,.slice none 0 0)]) (fun x0=>[]) (fun x0=>[(true,.cells true 4 ((l.take x0).flatMap aV))]) (fun x0=>[]) (fun x0=>(x0<=List.length l)) (fun x0=>(List.length l-x0)) (fun x0 => .go 3 (.fork (.go 2 (.need (.val (.agg #[nI (l.getD x0 ac).x.lo,nI (l.getD x0 ac).x.hi,nI (l.getD x0 ac).y.lo,nI (l.getD x0 ac).y.hi]) (.go 0 (.need (.go 2 (.slot 10 (nI ((x0:Int)+1)) (.go 0 (.again [(1,3)]))))))))) (.go 1 (.again [(1,1)]))))))
 (eS ((ba 0 [l.flatMap aV]):HT).n 3 (slQ 1 1 l.length) [(true,.cells true 4 (l.flatMap aV))])=xr l:=by kernel_rfl
theorem fF{w h:Int}{n:Nat}{l:List Flow}(e:bI w h n l=0):cJ w h n=0/\l.length=n/\gW l=0:=by
 unfold bI dv at e
 split at e
 ·rename_i h0
  split at e
  ·rename_i h1;exact ⟨h0,h1,e⟩
  ·omega
 ·rename_i h0;exact absurd e h0
theorem j7:∀{l:List Flow},gW l=0->∀f∈l,bY f
 | [],_,f,hf=>by cases hf
 |g :: r,e,f,hf=>by
  unfold gW at e
  split at e
  ·rename_i hg
   rcases List.mem_cons.1 hf with rfl|hf
   ·exact hg
   ·exact j7 e f hf
  ·omega
theorem nE{w h:Int}{a:List Bool}{c:Int}{f:Flow}(b:eD w h a.length)(hc:0<=c/\c<w*h):comp (bo (tgL w h a c f))=tgts w h a c f :=
 sP (n:=Int.toNat (w*h)) fun z hz=>by
  have:=vI (a:=a) (f:=f) hc z hz
  have:=b.n1
  omega
theorem nu{b:Bool}(h:(!b)=true):b=false:=by cases b <;> first|rfl|cases h
theorem kY{b:Bool}(h:(!b)=false):b=true:=by cases b <;> first|rfl|cases h
theorem w7{x p:List Int}{k:Nat}(h:k<x.length):((x++p).flatMap bj)[0+Int.toNat ((k:Nat):Int)*1]?=some (.int .i64 (x.getD k 0)):=by
 have:=mQ (a:=x++p) (k:=k) (by rw[bH];omega) (off:=0+Int.toNat ((k:Nat):Int)*1) (by omega)
 rw[this,List.getD_eq_getElem?_getD,List.getElem?_append_left h,<- List.getD_eq_getElem?_getD]
theorem vb(x p q:List Int)(hx:x.length<=4294967296){H:Heap}{id id2:Nat}{own hY:Bool}{z z2:Nat}(hid:H[id]?=some (.cells own z ((x++p).flatMap bj)))(pC:H[id2]?=some (.cells hY z2 ((x++q).flatMap bj))) :
  aF prog F.iK [.slice (some ⟨id,0,some 2⟩) x.length x.length,.slice (some ⟨id2,0,some 2⟩) x.length x.length] H [] (Is (.bool true) H):=by
 refine ga (Eq.mpr (vv _ x p q) ?_) (kU (cj 0 _) (cj 0 _)) rfl [id,id2] rfl (jC hid pC)
 unfold oF
 refine fD (by simp only[bne_self_eq_false,beq_self_eq_true,Bool.and_self,Bool.not_true,Bool.not_false]) ⟨rfl,Nat.zero_le _,?_,fun _=>rfl,?_⟩
 ·repeat' first|exact trivial|exact rfl|exact ag _|refine af ?_|refine ak ?_ ?_|exact aE|exact aL _ _ _ (.inl rfl)|(exact bf (by omega))|refine aA ?_|refine ar ?_|refine aC ?_ ?_ ?_|refine aB ?_ ?_ ?_|refine toMax ?_|refine toMin ?_|refine ⟨rfl,?_⟩|refine ⟨trivial,?_⟩|(refine aH (fun h =>?_) (fun h =>?_))|(refine az (fun h =>?_) (fun h =>?_))|(refine aI (fun h =>?_) (fun h =>?_))|refine aD ?_|(refine ⟨au (by omega),?_⟩)|(refine And.intro (by omega) ?_)|apply And.intro|(exact iEq (by omega))|(exact au (by omega))
 intro k hk
 refine aH (fun h =>?_) (fun h=>rfl)
 have hlt:k<x.length:=by omega
 refine ⟨by omega,w7 hlt,by omega,w7 hlt,fD (by simp only[bne_self_eq_false,beq_self_eq_true,Bool.and_self,Bool.not_true,Bool.not_false]) ⟨au (by omega),k+1,by omega,by omega,rfl,?_⟩⟩
 repeat' first|exact trivial|exact rfl|exact ag _|refine af ?_|refine ak ?_ ?_|exact aE|exact aL _ _ _ (.inl rfl)|(exact bf (by omega))|refine aA ?_|refine ar ?_|refine aC ?_ ?_ ?_|refine aB ?_ ?_ ?_|refine toMax ?_|refine toMin ?_|refine ⟨rfl,?_⟩|refine ⟨trivial,?_⟩|(refine aH (fun h =>?_) (fun h =>?_))|(refine az (fun h =>?_) (fun h =>?_))|(refine aI (fun h =>?_) (fun h =>?_))|refine aD ?_|(refine ⟨au (by omega),?_⟩)|(refine And.intro (by omega) ?_)|apply And.intro|(exact iEq (by omega))|(exact au (by omega))
theorem qM(a:List Bool)(ha:a.length<=4294967296){H:Heap}{id id2:Nat}{own hY:Bool}{z z2:Nat}(hid:H[id]?=some (.cells own z (a.flatMap am)))(pC:H[id2]?=some (.cells hY z2 (a.flatMap am))) :
  aF prog F.gT [.slice (some ⟨id,0,some 2⟩) a.length a.length,.slice (some ⟨id2,0,some 2⟩) a.length a.length] H [] (Is (.bool true) H):=by
 refine ga (Eq.mpr (rG _ a) ?_) (kU (bP 0 _) (bP 0 _)) rfl [id,id2] rfl (jC hid pC)
 unfold lz
 refine fD (by simp only[bne_self_eq_false,beq_self_eq_true,Bool.and_self,Bool.not_true,Bool.not_false]) ⟨rfl,Nat.zero_le _,?_,fun _=>rfl,?_⟩
 ·repeat' first|exact trivial|exact rfl|exact ag _|refine af ?_|refine ak ?_ ?_|exact aE|exact aL _ _ _ (.inl rfl)|(exact bf (by omega))|refine aA ?_|refine ar ?_|refine aC ?_ ?_ ?_|refine aB ?_ ?_ ?_|refine toMax ?_|refine toMin ?_|refine ⟨rfl,?_⟩|refine ⟨trivial,?_⟩|(refine aH (fun h =>?_) (fun h =>?_))|(refine az (fun h =>?_) (fun h =>?_))|(refine aI (fun h =>?_) (fun h =>?_))|refine aD ?_|(refine ⟨au (by omega),?_⟩)|(refine And.intro (by omega) ?_)|apply And.intro|(exact iEq (by omega))|(exact au (by omega))
 intro k hk
 refine aH (fun h =>?_) (fun h=>rfl)
 have hlt:k<a.length:=by omega
 refine ⟨by omega,dM hlt (by omega),by omega,dM hlt (by omega),fD (by simp only[bne_self_eq_false,beq_self_eq_true,Bool.and_self,Bool.not_true,Bool.not_false]) ⟨au (by omega),k+1,by omega,by omega,rfl,?_⟩⟩
 repeat' first|exact trivial|exact rfl|exact ag _|refine af ?_|refine ak ?_ ?_|exact aE|exact aL _ _ _ (.inl rfl)|(exact bf (by omega))|refine aA ?_|refine ar ?_|refine aC ?_ ?_ ?_|refine aB ?_ ?_ ?_|refine toMax ?_|refine toMin ?_|refine ⟨rfl,?_⟩|refine ⟨trivial,?_⟩|(refine aH (fun h =>?_) (fun h =>?_))|(refine az (fun h =>?_) (fun h =>?_))|(refine aI (fun h =>?_) (fun h =>?_))|refine aD ?_|(refine ⟨au (by omega),?_⟩)|(refine And.intro (by omega) ?_)|apply And.intro|(exact iEq (by omega))|(exact au (by omega))
theorem zI(w h:Int)(a:List Bool)(ha:a.length<=4294967296){H:Heap}{L:Nat}(hL:H.length=L){id:Nat}{own:Bool}{z:Nat}(hid:H[id]?=some (.cells own z (a.flatMap am))) :
  aF prog F.jc [eH w h id a.length] H [] (Is (.agg #[.int .i64 w,.int .i64 h,.slice (some ⟨L,0,some 1⟩) a.length a.length]) (H ++ [.cells true 1 (a.flatMap am)])):=by
 subst hL
 refine pT (fun i => .agg #[.int .i64 w,.int .i64 h,.slice (some ⟨i,0,some 1⟩) a.length a.length]) (Eq.mpr (Aw w h a) ?_) (bP 0 a) (fun n=>bP n _) rfl rfl (fun _=>rfl) hid rfl
 unfold xw
 have hfl:(a.flatMap am).length=a.length*1:=bg iG a
 refine ⟨fun h0=>⟨⟨by omega,h0⟩,?_⟩,fun h0=>⟨⟨by omega,h0,rfl,⟨Nat.le_refl _,by omega⟩,?_⟩,rfl,?_⟩⟩
 ·rw[h0]
  repeat' first|exact trivial|exact rfl|exact ag _|refine af ?_|refine ak ?_ ?_|exact aE|exact aL _ _ _ (.inl rfl)|(exact bf (by omega))|refine aA ?_|refine ar ?_|refine aC ?_ ?_ ?_|refine aB ?_ ?_ ?_|refine toMax ?_|refine toMin ?_|refine ⟨rfl,?_⟩|refine ⟨trivial,?_⟩|(refine aH (fun h =>?_) (fun h =>?_))|(refine az (fun h =>?_) (fun h =>?_))|(refine aI (fun h =>?_) (fun h =>?_))|refine aD ?_|(refine ⟨au (by omega),?_⟩)|(refine And.intro (by omega) ?_)|apply And.intro|(exact iEq (by omega))|(exact au (by omega))
 ·rw[List.drop_zero,<- hfl,List.take_length]
  exact List.all_eq_true.2 fun v hv=>by obtain ⟨b,_,hb⟩:=List.mem_flatMap.1 hv;rw[List.mem_singleton.1 hb];rfl
 ·rw[List.drop_zero,<- hfl,List.take_length,List.nil_append,Nat.zero_add]
  repeat' first|exact bP _ _|exact trivial|exact rfl|exact ag _|refine af ?_|refine ak ?_ ?_|exact aE|exact aL _ _ _ (.inl rfl)|(exact bf (by omega))|refine aA ?_|refine ar ?_|refine aC ?_ ?_ ?_|refine aB ?_ ?_ ?_|refine toMax ?_|refine toMin ?_|refine ⟨rfl,?_⟩|refine ⟨trivial,?_⟩|(refine aH (fun h =>?_) (fun h =>?_))|(refine az (fun h =>?_) (fun h =>?_))|(refine aI (fun h =>?_) (fun h =>?_))|refine aD ?_|(refine ⟨au (by omega),?_⟩)|(refine And.intro (by omega) ?_)|apply And.intro|(exact iEq (by omega))|(exact au (by omega))
theorem zD(l:List Flow)(hl:l.length<=4294967296){H:Heap}{L:Nat}(hL:H.length=L){id:Nat}{own:Bool}{z:Nat}(hid:H[id]?=some (.cells own z (l.flatMap aV))) :
  aF prog F.jb [.slice (some ⟨id,0,some 2⟩) l.length l.length] H [] (Is (.slice (some ⟨L,0,some 1⟩) l.length l.length) (H ++ [.cells true 4 (l.flatMap aV)])):=by
 subst hL
 refine pT (fun i => .slice (some ⟨i,0,some 1⟩) l.length l.length) (Eq.mpr (As l) ?_) (d8 0 l) (fun n=>d8 n _) rfl rfl (fun _=>rfl) hid rfl
 unfold xr
 refine ⟨rfl,Nat.zero_le _,?_,fun _=>rfl,?_⟩
 ·repeat' first|exact trivial|exact rfl|exact ag _|refine af ?_|refine ak ?_ ?_|exact aE|exact aL _ _ _ (.inl rfl)|(exact bf (by omega))|refine aA ?_|refine ar ?_|refine aC ?_ ?_ ?_|refine aB ?_ ?_ ?_|refine toMax ?_|refine toMin ?_|refine ⟨rfl,?_⟩|refine ⟨trivial,?_⟩|(refine aH (fun h =>?_) (fun h =>?_))|(refine az (fun h =>?_) (fun h =>?_))|(refine aI (fun h =>?_) (fun h =>?_))|refine aD ?_|(refine ⟨au (by omega),?_⟩)|(refine And.intro (by omega) ?_)|apply And.intro|(exact iEq (by omega))|(exact au (by omega))
 intro x hx
 have htl:(List.take x l).length=x:=by rw[List.length_take];omega
 refine aH (fun h =>?_) (fun h =>?_)
 ·have hlt:x<l.length:=by omega
  have hs:List.take (x+1) l=List.take x l ++ [l.getD x ac]:=by
   rw[List.take_add_one,List.getElem?_eq_getElem hlt,List.getD_eq_getElem?_getD,List.getElem?_eq_getElem hlt];rfl
  refine ⟨by omega,eR hlt,⟨by omega,by decide,⟨Nat.le_refl _,by rw[bg gy,htl];omega⟩,⟨by decide,Nat.le_refl _⟩,rfl⟩,rfl,au (by omega),x+1,by omega,by omega,rfl,?_⟩
  repeat' first|exact d8 _ _|(exact congrArg (fun l=>some (aa.cells true 4 l)) (by rw[hs];exact iC gy _ (l.getD x ac) htl.symm))|exact trivial|exact rfl|exact ag _|refine af ?_|refine ak ?_ ?_|exact aE|exact aL _ _ _ (.inl rfl)|(exact bf (by omega))|refine aA ?_|refine ar ?_|refine aC ?_ ?_ ?_|refine aB ?_ ?_ ?_|refine toMax ?_|refine toMin ?_|refine ⟨rfl,?_⟩|refine ⟨trivial,?_⟩|(refine aH (fun h =>?_) (fun h =>?_))|(refine az (fun h =>?_) (fun h =>?_))|(refine aI (fun h =>?_) (fun h =>?_))|refine aD ?_|(refine ⟨au (by omega),?_⟩)|(refine And.intro (by omega) ?_)|apply And.intro|(exact iEq (by omega))|(exact au (by omega))
 ·obtain rfl:x=l.length:=by omega
  rw[List.take_length]
  repeat' first|exact d8 _ _|exact trivial|exact rfl|exact ag _|refine af ?_|refine ak ?_ ?_|exact aE|exact aL _ _ _ (.inl rfl)|(exact bf (by omega))|refine aA ?_|refine ar ?_|refine aC ?_ ?_ ?_|refine aB ?_ ?_ ?_|refine toMax ?_|refine toMin ?_|refine ⟨rfl,?_⟩|refine ⟨trivial,?_⟩|(refine aH (fun h =>?_) (fun h =>?_))|(refine az (fun h =>?_) (fun h =>?_))|(refine aI (fun h =>?_) (fun h =>?_))|refine aD ?_|(refine ⟨au (by omega),?_⟩)|(refine And.intro (by omega) ?_)|apply And.intro|(exact iEq (by omega))|(exact au (by omega))
theorem ib{a b:Int}(h:a=b):(Value.int .i64 a) = .int .i64 b:=by rw[h]
structure Cell where
 aK:Span
 ao:Span
 ap:Span
 av:Span
structure Ice where
 aK:Int
 ao:Int
 ap:Int
 av:Int
structure yU where
 up:Ice
 down:Ice
structure Report where
 id:Int
 source:Int
 at_:Int
 x:Int
 y:Int
 has:Int
 cell:Cell
abbrev aS(x:Ice):List Value:=[.int .i64 x.aK,.int .i64 x.ao,.int .i64 x.ap,.int .i64 x.av]
abbrev cellC(c:Cell):List Value:=[.int .i64 c.aK.lo,.int .i64 c.aK.hi,.int .i64 c.ao.lo,.int .i64 c.ao.hi,.int .i64 c.ap.lo,.int .i64 c.ap.hi,.int .i64 c.av.lo,.int .i64 c.av.hi]
abbrev sF(x:Ice):Value:=.agg ⟨aS x⟩
abbrev cellV(c:Cell):Value:=.agg ⟨cellC c⟩
def nj(sp:Value)(c:Cell):Prop :=
 (((decide ((0:Int)<=c.aK.lo))=true->(((decide ((c.aK.lo:Int)<=100))=true->(((decide ((c.aK.lo:Int)<=c.aK.hi))=true->(((!(decide ((c.aK.hi:Int)<=100)))=true->(nI 20:Value)=sp)/\((!(decide ((c.aK.hi:Int)<=100)))=false->(((decide ((0:Int)<=c.ao.lo))=true->(((decide ((c.ao.lo:Int)<=400))=true->(((decide ((c.ao.lo:Int)<=c.ao.hi))=true->(((!(decide ((c.ao.hi:Int)<=400)))=true->(nI 20:Value)=sp)/\((!(decide ((c.ao.hi:Int)<=400)))=false->(((decide ((0:Int)<=c.ap.lo))=true->(((decide ((c.ap.lo:Int)<=100))=true->(((decide ((c.ap.lo:Int)<=c.ap.hi))=true->(((!(decide ((c.ap.hi:Int)<=100)))=true->(nI 20:Value)=sp)/\((!(decide ((c.ap.hi:Int)<=100)))=false->(((decide ((0:Int)<=c.av.lo))=true->(((decide ((c.av.lo:Int)<=3))=true->(((decide ((c.av.lo:Int)<=c.av.hi))=true->(((!(decide ((c.av.hi:Int)<=3)))=true->(nI 20:Value)=sp)/\((!(decide ((c.av.hi:Int)<=3)))=false->(nI 0:Value)=sp)))/\((decide ((c.av.lo:Int)<=c.av.hi))=false->(nI 20:Value)=sp)))/\((decide ((c.av.lo:Int)<=3))=false->(nI 20:Value)=sp)))/\((decide ((0:Int)<=c.av.lo))=false->(nI 20:Value)=sp)))))/\((decide ((c.ap.lo:Int)<=c.ap.hi))=false->(nI 20:Value)=sp)))/\((decide ((c.ap.lo:Int)<=100))=false->(nI 20:Value)=sp)))/\((decide ((0:Int)<=c.ap.lo))=false->(nI 20:Value)=sp)))))/\((decide ((c.ao.lo:Int)<=c.ao.hi))=false->(nI 20:Value)=sp)))/\((decide ((c.ao.lo:Int)<=400))=false->(nI 20:Value)=sp)))/\((decide ((0:Int)<=c.ao.lo))=false->(nI 20:Value)=sp)))))/\((decide ((c.aK.lo:Int)<=c.aK.hi))=false->(nI 20:Value)=sp)))/\((decide ((c.aK.lo:Int)<=100))=false->(nI 20:Value)=sp)))/\((decide ((0:Int)<=c.aK.lo))=false->(nI 20:Value)=sp))
theorem s9(sp:Value)(c:Cell):vF prog msk (dm 0) 100000 true 40 true 131 [.agg #[nI c.aK.lo,nI c.aK.hi,nI c.ao.lo,nI c.ao.hi,nI c.ap.lo,nI c.ap.hi,nI c.av.lo,nI c.av.hi]] ⟨0,.leaf⟩ (some [])
 (.go 54 (.aU (.go 5 (.aU (.go 15 (.aU (.go 8 (.fork (.auto) (.go 30 (.aU (.go 5 (.aU (.go 15 (.aU (.go 8 (.fork (.auto) (.go 30 (.aU (.go 5 (.aU (.go 15 (.aU (.go 8 (.fork (.auto) (.go 30 (.aU (.go 5 (.aU (.go 15 (.aU (.go 8 (.fork (.auto) (.auto))) (.auto))) (.auto))) (.auto))))) (.auto))) (.auto))) (.auto))))) (.auto))) (.auto))) (.auto))))) (.auto))) (.auto))) (.auto)))
 (fun v _ _=>v=sp)=nj sp c:=by kernel_rfl
def oG(sp:Value)(x:Ice):Prop :=
 (((decide ((0:Int)<=x.aK))=true->(((!(decide ((x.aK:Int)<=100)))=true->(nI 20:Value)=sp)/\((!(decide ((x.aK:Int)<=100)))=false->(((decide ((0:Int)<=x.ao))=true->(((!(decide ((x.ao:Int)<=400)))=true->(nI 20:Value)=sp)/\((!(decide ((x.ao:Int)<=400)))=false->(((decide ((0:Int)<=x.ap))=true->(((!(decide ((x.ap:Int)<=100)))=true->(nI 20:Value)=sp)/\((!(decide ((x.ap:Int)<=100)))=false->(((decide ((0:Int)<=x.av))=true->(((!(decide ((x.av:Int)<=3)))=true->(nI 20:Value)=sp)/\((!(decide ((x.av:Int)<=3)))=false->(nI 0:Value)=sp)))/\((decide ((0:Int)<=x.av))=false->(nI 20:Value)=sp)))))/\((decide ((0:Int)<=x.ap))=false->(nI 20:Value)=sp)))))/\((decide ((0:Int)<=x.ao))=false->(nI 20:Value)=sp)))))/\((decide ((0:Int)<=x.aK))=false->(nI 20:Value)=sp))
theorem vw(sp:Value)(x:Ice):vF prog msk (dm 0) 100000 true 40 true 48 [.agg #[nI x.aK,nI x.ao,nI x.ap,nI x.av]] ⟨0,.leaf⟩ (some [])
 (.go 48 (.aU (.go 6 (.fork (.auto) (.go 24 (.aU (.go 6 (.fork (.auto) (.go 24 (.aU (.go 6 (.fork (.auto) (.go 24 (.aU (.go 6 (.fork (.auto) (.auto))) (.auto))))) (.auto))))) (.auto))))) (.auto)))
 (fun v _ _=>v=sp)=oG sp x:=by kernel_rfl
end
end Go.Proofs.YtkkgnalgmebfjaaGreat
