/- Drift: the reference's chart after a step: tables whose rows grow. No condition. -/
import Derived.Test.YtkkgnalgmebfjaaGreatGQ4gxQ2
import Derived.Test.YtkkgnalgmebfjaaGreatGV9xV12
import Derived.Test.YtkkgnalgmebfjaaGreatGS1xE2a
open Go Go.K
set_option maxRecDepth 1000000
set_option maxHeartbeats 4000000
set_option linter.unusedVariables false
set_option linter.unusedSimpArgs false
namespace Go.Proofs.YtkkgnalgmebfjaaGreat
noncomputable section
attribute [local irreducible] vF
theorem mj(V:Nat->Option Nat)(x:Ice):∀v∈bM x,rn V 2 v=v:=by
 intro v hv
 simp only[bM,List.mem_cons,List.not_mem_nil,or_false]at hv
 rcases hv with rfl|rfl|rfl|rfl <;> rfl
theorem fA{hs:List Value}{t off:Nat}{v:Value}(h:t<hs.length)(ho:off=t):(hs.set t v)[off]?=some v:=by subst ho;exact List.getElem?_set_self h
theorem uj{hs:List Value}{t off:Nat}{v:Value}(h:t<hs.length)(ho:off=t):(bp hs off [v])[t]?=some v:=by subst ho;exact List.getElem?_set_self h
theorem eQ(r k:Nat)(ms:List Value):(aT r k ms)[0]?=ms[0]? := by
 cases r with
 |zero=>rfl
 |succ r=>exact List.getElem?_set_ne (by omega)
theorem xK{hs:List Value}{t off:Nat}{s0 s1 v:Value}(ho:off=t):(bp (hs.set t s0) off [s1]).set t v=hs.set t v:=by
 subst ho
 simp only[bp,List.set_set]
theorem wI(hs:List Value)(t:Nat)(s v:Value):(hs.set t s).set t v=hs.set t v:=List.set_set ..
theorem pN(l:List Ice)(x:Ice)(c:List Value)(hc:bM x=c):List.take (l.length*4) (List.drop 0 (l.flatMap bM))++List.take (1*4) (List.drop 0 c)=(l ++ [x]).flatMap bM:=by
 subst hc
 rw[<- jb cy l x rfl,List.drop_zero,List.drop_zero,List.take_of_length_le (l:=bM x) (by rw[cy];omega),List.take_of_length_le (by rw[aU cy];omega)]
set_option maxHeartbeats 4000000 in
theorem zD{w h:Int}{a:List Bool}{l:List Flow}{cs:List Cell}(o:dU w h a l cs)(w' h' t:Int)(ht:0<=t/\t<=10000){H:Heap}{L:Nat}(hL:H.length=L){i0 i1 i2:Nat}{o0 o1 o2:Bool}{z0 z1 z2:Nat}(e0:H[i0]?=some (.cells o0 z0 (a.flatMap ak)))
  (e1:H[i1]?=some (.cells o1 z1 (l.flatMap aS))) (e2:H[i2]?=some (.cells o2 z2 (cs.flatMap cellC))) :
  am prog F.fF [fg w h i0 a.length,.slice (some ⟨i1,0,some 2⟩) l.length l.length,.agg #[.int .i64 w',.int .i64 h',.int .i64 t,.slice (some ⟨i2,0,some 2⟩) cs.length cs.length]] H []
   (Is (.agg #[.int .i64 w',.int .i64 h',.int .i64 (t+1),.slice (some ⟨L,0,some 1⟩) (au w h a l cs).length (au w h a l cs).length]) (H ++ [.cells true 8 ((au w h a l cs).flatMap cellC)])):=by
 subst hL
 refine ue (fun i => .agg #[.int .i64 w',.int .i64 h',.int .i64 (t+1),.slice (some ⟨i,0,some 1⟩) (au w h a l cs).length (au w h a l cs).length]) (css:=[a.flatMap ak,l.flatMap aS,cs.flatMap cellC]) (new:=[.cells true 8 ((au w h a l cs).flatMap cellC)]) (Eq.mpr (Ai w h a l w' h' t cs) ?_) ⟨bc 0 a,fk 0 l,bn 0 cs,trivial⟩
  ⟨⟨_,_,rfl,bn 0 _⟩,trivial⟩ rfl rfl (fun _=>rfl) (ids:=[i0,i1,i2]) ⟨⟨_,_,e0⟩,⟨_,_,e1⟩,⟨_,_,e2⟩,trivial⟩ rfl
 unfold vh
 have hb:=o.b
 have hn:=o.b.n1
 have hp:=o.b.p1
 have hla:=o.l1
 have hca:=o.n
 refine ⟨az (by omega),by omega,by omega,rfl,⟨Nat.zero_le _,cv.new 9 4 _ bM,cv.new 10 4 _ bM⟩,?_,fun _=>rfl,?_⟩
 ·repeat' first|exact AS|exact (cv.new 9 4 _ bM).wkM rfl|exact (cv.new 10 4 _ bM).wkM rfl|exact trivial|exact rfl|exact ah _|refine aq ?_|refine aw ?_ ?_|exact aF|exact aJ _ _ _ (.inl rfl)|(exact bi (by omega))|refine aD ?_|refine av ?_|refine aC ?_ ?_ ?_|refine aB ?_ ?_ ?_|refine toMax ?_|refine toMin ?_|refine ⟨rfl,?_⟩|refine ⟨trivial,?_⟩|(refine aG (fun h =>?_) (fun h =>?_))|(refine aE (fun h =>?_) (fun h =>?_))|(refine aI (fun h =>?_) (fun h =>?_))|refine aA ?_|(refine ⟨az (by omega),?_⟩)|(refine And.intro (by omega) ?_)|apply And.intro|(exact iEq (by omega))|(exact az (by omega))
 rintro ⟨i,T8,T9⟩ ⟨j1,I8,I9⟩
 dsimp only at j1 I8 I9 ⊢
 refine aG (fun k1 =>?_) (fun k1 =>?_)
 ·have hi:i<l.length:=by omega
  refine ⟨by omega,fT (by omega) (by omega),fun ha =>?_,fun ha =>?_⟩
  ·have e8:(fun j=>aW w h a l cs j (i+1))=fun j=>aW w h a l cs j i:=funext fun j=>mX ha
   have e9:(fun j=>bI w h a l cs j (i+1))=fun j=>bI w h a l cs j i:=funext fun j=>oU ha
   refine ⟨az (by omega),(i+1,T8,T9),⟨by show i+1<=_;omega,by rw[e8];exact I8,by rw[e9];exact I9⟩,by show _-(i+1)<_;omega,rfl,?_⟩
   dsimp only
   repeat' first|(exact I8.wkH (by rfl) rfl)|(exact I9.wkH (by rfl) rfl)|exact I8.wkM rfl|exact I9.wkM rfl|exact trivial|exact rfl|exact ah _|refine aq ?_|refine aw ?_ ?_|exact aF|exact aJ _ _ _ (.inl rfl)|(exact bi (by omega))|refine aD ?_|refine av ?_|refine aC ?_ ?_ ?_|refine aB ?_ ?_ ?_|refine toMax ?_|refine toMin ?_|refine ⟨rfl,?_⟩|refine ⟨trivial,?_⟩|(refine aG (fun h =>?_) (fun h =>?_))|(refine aE (fun h =>?_) (fun h =>?_))|(refine aI (fun h =>?_) (fun h =>?_))|refine aA ?_|(refine ⟨az (by omega),?_⟩)|(refine And.intro (by omega) ?_)|apply And.intro|(exact iEq (by omega))|(exact az (by omega))
  ·have hc:0<=(i:Int)/\(i:Int)<w*h:=by omega
   have hf:=o.fl (k:=i) (by omega)
   have hTl:=tX (a:=a) (l:=l) (k:=i) hb hc hf
   have e8:bA w h a l cs i 0=fun j=>aW w h a l cs j i:=funext fun j=>zr
   have e9:bY w h a l cs i 0=fun j=>bI w h a l cs j i:=funext fun j=>A7
   refine ⟨by omega,kj hi,⟨rfl,trivial⟩,fun H' hl hd=>Be hb hc hf hl hd.1,⟨rfl,trivial⟩,fun H' hl hd=>(Bc _ (by rw[pi];omega) hl hd.1).wkA ⟨ct,trivial⟩,rfl,⟨Nat.zero_le _,by rw[e8];exact I8,by rw[e9];exact I9⟩,?_,fun _=>rfl,?_⟩
   ·repeat' first|(exact I8.wkH (by rfl) rfl)|(exact I9.wkH (by rfl) rfl)|exact I8.wkM rfl|exact I9.wkM rfl|exact trivial|exact rfl|exact ah _|refine aq ?_|refine aw ?_ ?_|exact aF|exact aJ _ _ _ (.inl rfl)|(exact bi (by omega))|refine aD ?_|refine av ?_|refine aC ?_ ?_ ?_|refine aB ?_ ?_ ?_|refine toMax ?_|refine toMin ?_|refine ⟨rfl,?_⟩|refine ⟨trivial,?_⟩|(refine aG (fun h =>?_) (fun h =>?_))|(refine aE (fun h =>?_) (fun h =>?_))|(refine aI (fun h =>?_) (fun h =>?_))|refine aA ?_|(refine ⟨az (by omega),?_⟩)|(refine And.intro (by omega) ?_)|apply And.intro|(exact iEq (by omega))|(exact az (by omega))
   rintro ⟨x,U8,U9⟩ ⟨m1,J8,J9⟩
   dsimp only at m1 J8 J9 ⊢
   refine aG (fun k2 =>?_) (fun k2 =>?_)
   ·have hx:x<(TG w h a l i).length:=by omega
    have hm:=lU hb (dz (d:=(0:Int)) hx)
    have hT:Int.toNat ((TG w h a l i).getD x 0)<l.length:=by omega
    have r8:=vQ (w:=w) (h:=h) (a:=a) (l:=l) (cs:=cs) (i:=i) (x:=x) (t:=Int.toNat ((TG w h a l i).getD x 0))
    have r9:=xa (w:=w) (h:=h) (a:=a) (l:=l) (cs:=cs) (i:=i) (x:=x) (t:=Int.toNat ((TG w h a l i).getD x 0))
    have h8l:=J8.hl
    have h9l:=J9.hl
    have p8:=J8.pos
    have p9:=J9.pos
    have hic:i<cs.length:=by omega
    have P9:=J9.put hT (bY w h a l cs i x (Int.toNat ((TG w h a l i).getD x 0)) ++ [hiI (cs.getD i aa)]) mj (pN _ _ _ rfl)
    rw[zt hb hx,br]at P9
    refine ⟨by omega,pg hx (by omega),⟨J9.hd _ hT,J9.m0,aU cy _,J9.rw _ hT⟩,by omega,fA (by omega) (by omega),by omega,eC hic,trivial,fun H' _ _=>Bd _ H',⟨by omega,by omega,⟨Nat.le_refl _,f6 cy _⟩,⟨Nat.le_refl _,Nat.le_refl _⟩,rfl⟩,rfl,by omega,by rw[List.length_set];omega,rfl,⟨uj (by rw[List.length_set];omega) (by omega),.inr (Nat.succ_pos _),(eQ _ _ _).trans J9.m0,by decide,(congrArg List.length (pN _ (hiI (cs.getD i aa)) _ rfl)).trans (by rw[aU cy,br];rfl),by rw[dN];omega⟩,aI (fun q =>?_) (fun q =>?_)⟩
    ·have q1:(TG w h a l i).length=1:=by omega
     have P8:=J8.put hT (bA w h a l cs i x (Int.toNat ((TG w h a l i).getD x 0)) ++ [loI (cs.getD i aa)]) mj (pN _ _ _ rfl)
     rw[w5 hb hx q1,br]at P8
     refine ⟨⟨J8.hd _ hT,J8.m0,aU cy _,J8.rw _ hT⟩,by omega,fA (by omega) (by omega),by omega,eC hic,trivial,fun H' _ _=>Cm _ H',⟨by omega,by omega,⟨Nat.le_refl _,f6 cy _⟩,⟨Nat.le_refl _,Nat.le_refl _⟩,rfl⟩,rfl,by omega,by rw[List.length_set];omega,rfl,⟨uj (by rw[List.length_set];omega) (by omega),.inr (Nat.succ_pos _),(eQ _ _ _).trans J8.m0,by decide,(congrArg List.length (pN _ (loI (cs.getD i aa)) _ rfl)).trans (by rw[aU cy,br];rfl),by rw[dN];omega⟩,az (by omega),(x+1,_,_),⟨by show x+1<=_;omega,P8,P9⟩,by show _-(x+1)<_;omega,rfl,?_⟩
     dsimp only
     repeat' first|(exact P8.wkH (by rfl) (xK (by omega)))|(exact P9.wkH (by rfl) (xK (by omega)))|exact P8.wkM rfl|exact P9.wkM rfl|exact trivial|exact rfl|exact ah _|refine aq ?_|refine aw ?_ ?_|exact aF|exact aJ _ _ _ (.inl rfl)|(exact bi (by omega))|refine aD ?_|refine av ?_|refine aC ?_ ?_ ?_|refine aB ?_ ?_ ?_|refine toMax ?_|refine toMin ?_|refine ⟨rfl,?_⟩|refine ⟨trivial,?_⟩|(refine aG (fun h =>?_) (fun h =>?_))|(refine aE (fun h =>?_) (fun h =>?_))|(refine aI (fun h =>?_) (fun h =>?_))|refine aA ?_|(refine ⟨az (by omega),?_⟩)|(refine And.intro (by omega) ?_)|apply And.intro|(exact iEq (by omega))|(exact az (by omega))
    ·have q1:¬ (TG w h a l i).length=1:=by omega
     refine ⟨az (by omega),(x+1,U8,_),⟨by show x+1<=_;omega,by rw[wZ q1 (x+1) x];exact J8,P9⟩,by show _-(x+1)<_;omega,rfl,?_⟩
     dsimp only
     repeat' first|(exact J8.wkH (by rfl) rfl)|(exact P9.wkH (by rfl) (xK (by omega)))|exact J8.wkM rfl|exact P9.wkM rfl|exact trivial|exact rfl|exact ah _|refine aq ?_|refine aw ?_ ?_|exact aF|exact aJ _ _ _ (.inl rfl)|(exact bi (by omega))|refine aD ?_|refine av ?_|refine aC ?_ ?_ ?_|refine aB ?_ ?_ ?_|refine toMax ?_|refine toMin ?_|refine ⟨rfl,?_⟩|refine ⟨trivial,?_⟩|(refine aG (fun h =>?_) (fun h =>?_))|(refine aE (fun h =>?_) (fun h =>?_))|(refine aI (fun h =>?_) (fun h =>?_))|refine aA ?_|(refine ⟨az (by omega),?_⟩)|(refine And.intro (by omega) ?_)|apply And.intro|(exact iEq (by omega))|(exact az (by omega))
   ·obtain rfl:x=(TG w h a l i).length:=by omega
    have f8:bA w h a l cs i (TG w h a l i).length=fun j=>aW w h a l cs j (i+1):=funext fun j=>vR ha
    have f9:bY w h a l cs i (TG w h a l i).length=fun j=>bI w h a l cs j (i+1):=funext fun j=>xd ha
    rw[f8]at J8
    rw[f9]at J9
    refine ⟨az (by omega),(i+1,U8,U9),⟨by show i+1<=_;omega,J8,J9⟩,by show _-(i+1)<_;omega,rfl,?_⟩
    dsimp only
    repeat' first|(exact J8.wkH (by rfl) rfl)|(exact J9.wkH (by rfl) rfl)|exact J8.wkM rfl|exact J9.wkM rfl|exact trivial|exact rfl|exact ah _|refine aq ?_|refine aw ?_ ?_|exact aF|exact aJ _ _ _ (.inl rfl)|(exact bi (by omega))|refine aD ?_|refine av ?_|refine aC ?_ ?_ ?_|refine aB ?_ ?_ ?_|refine toMax ?_|refine toMin ?_|refine ⟨rfl,?_⟩|refine ⟨trivial,?_⟩|(refine aG (fun h =>?_) (fun h =>?_))|(refine aE (fun h =>?_) (fun h =>?_))|(refine aI (fun h =>?_) (fun h =>?_))|refine aA ?_|(refine ⟨az (by omega),?_⟩)|(refine And.intro (by omega) ?_)|apply And.intro|(exact iEq (by omega))|(exact az (by omega))
 ·obtain rfl:i=l.length:=by omega
  refine ⟨rfl,⟨Nat.zero_le _,I8,I9⟩,?_,fun _=>rfl,?_⟩
  ·repeat' first|(exact I8.wkH (by rfl) rfl)|(exact I9.wkH (by rfl) rfl)|exact I8.wkM rfl|exact I9.wkM rfl|exact trivial|exact rfl|exact ah _|refine aq ?_|refine aw ?_ ?_|exact aF|exact aJ _ _ _ (.inl rfl)|(exact bi (by omega))|refine aD ?_|refine av ?_|refine aC ?_ ?_ ?_|refine aB ?_ ?_ ?_|refine toMax ?_|refine toMin ?_|refine ⟨rfl,?_⟩|refine ⟨trivial,?_⟩|(refine aG (fun h =>?_) (fun h =>?_))|(refine aE (fun h =>?_) (fun h =>?_))|(refine aI (fun h =>?_) (fun h =>?_))|refine aA ?_|(refine ⟨az (by omega),?_⟩)|(refine And.intro (by omega) ?_)|apply And.intro|(exact iEq (by omega))|(exact az (by omega))
  rintro ⟨x,U8,U9⟩ ⟨m1,J8,J9⟩
  dsimp only at m1 J8 J9 ⊢
  have hsl:(au w h a l cs).length=l.length:=(cp _ _).trans hla.symm
  have c1:=f6 bJ (dg (cR w h a l cs) x)
  rw[cp]at c1
  refine aG (fun k2 =>?_) (fun k2 =>?_)
  ·have hx:x<l.length:=by omega
   have hS:cR w h a l cs x=cellOf (bN (aH (aW w h a l cs x l.length))) (bN (aH (bI w h a l cs x l.length))):=by
    rw[oT hb (by omega),ry hb (by omega),hla,<- hca];rfl
   have b1:=gZ (own:=true) bJ (gC (cR w h a l cs) x) (congrArg cellC hS)
   rw[cp]at b1
   have r8:=kY (w:=w) (h:=h) (a:=a) (l:=l) (cs:=cs) (t:=x) l.length
   have r9:=m5 (w:=w) (h:=h) (a:=a) (l:=l) (cs:=cs) (t:=x) l.length
   have h8l:=J8.hl
   have h9l:=J9.hl
   have p8:=J8.pos
   have p9:=J9.pos
   have same:∀f:Nat->List Ice,(fun j=>if j=x then f x else f j)=f:=fun f=>funext fun j=>by
    by_cases q:j=x
    ·rw[if_pos q,q]
    ·rw[if_neg q]
   have P8:=J8.put hx (aW w h a l cs x l.length) mj rfl
   rw[same fun j=>aW w h a l cs j l.length]at P8
   have P9:=J9.put hx (bI w h a l cs x l.length) mj rfl
   rw[same fun j=>bI w h a l cs j l.length]at P9
   refine ⟨⟨J8.hd _ hx,J8.m0,aU cy _,J8.rw _ hx⟩,by omega,fA (by omega) (by omega),⟨rfl,trivial⟩,fun H' _ hd=>(xn _ (lH o (by omega)) (by omega) hd.1).wkA ⟨ct,trivial⟩,⟨J9.hd _ hx,J9.m0,aU cy _,J9.rw _ hx⟩,by omega,fA (by omega) (by omega),⟨rfl,trivial⟩,fun H' _ hd=>(xn _ (mZ o (by omega)) (by omega) hd.1).wkA ⟨ct,trivial⟩,
    ⟨fA (by omega) rfl,.inl rfl,(eQ _ _ _).trans J8.m0,by decide,aU cy _,by rw[dN];omega⟩,⟨fA (by omega) rfl,.inl rfl,(eQ _ _ _).trans J9.m0,by decide,aU cy _,by rw[dN];omega⟩,
    ⟨by omega,by omega,⟨Nat.le_refl _,c1⟩,⟨Nat.le_refl _,Nat.le_refl _⟩,rfl⟩,rfl,az (by omega),(x+1,_,_),⟨by show x+1<=_;omega,P8,P9⟩,by show _-(x+1)<_;omega,rfl,?_⟩
   dsimp only
   repeat' first|(exact P8.wkH (by rfl) (wI ..))|(exact P9.wkH (by rfl) (wI ..))|exact P8.wkM rfl|exact P9.wkM rfl|exact b1|exact bn _ _|exact trivial|exact rfl|exact ah _|refine aq ?_|refine aw ?_ ?_|exact aF|exact aJ _ _ _ (.inl rfl)|(exact bi (by omega))|refine aD ?_|refine av ?_|refine aC ?_ ?_ ?_|refine aB ?_ ?_ ?_|refine toMax ?_|refine toMin ?_|refine ⟨rfl,?_⟩|refine ⟨trivial,?_⟩|(refine aG (fun h =>?_) (fun h =>?_))|(refine aE (fun h =>?_) (fun h =>?_))|(refine aI (fun h =>?_) (fun h =>?_))|refine aA ?_|(refine ⟨az (by omega),?_⟩)|(refine And.intro (by omega) ?_)|apply And.intro|(exact iEq (by omega))|(exact az (by omega))
  ·obtain rfl:x=l.length:=by omega
   rw[show dg (cR w h a l cs) l.length=au w h a l cs by rw[hla];rfl,hsl]
   repeat' first|exact bn _ _|exact trivial|exact rfl|exact ah _|refine aq ?_|refine aw ?_ ?_|exact aF|exact aJ _ _ _ (.inl rfl)|(exact bi (by omega))|refine aD ?_|refine av ?_|refine aC ?_ ?_ ?_|refine aB ?_ ?_ ?_|refine toMax ?_|refine toMin ?_|refine ⟨rfl,?_⟩|refine ⟨trivial,?_⟩|(refine aG (fun h =>?_) (fun h =>?_))|(refine aE (fun h =>?_) (fun h =>?_))|(refine aI (fun h =>?_) (fun h =>?_))|refine aA ?_|(refine ⟨az (by omega),?_⟩)|(refine And.intro (by omega) ?_)|apply And.intro|(exact iEq (by omega))|(exact az (by omega))
def flV(l:List Flow):Value:=.iface (l.length+1) (.agg ⟨l.flatMap aS⟩)
def flL(ll:List (List Flow)):List Value:=ll.map flV
def A6(L:List Int)(n:Nat):List Bool:=dg (fun i=>decide ((i:Int)∈L)) n
theorem Cd{f:FuncId}{args:List Value}{css:List (List Value)}{h:Hint}{v:Value}(hc:vF prog msk (dm 0) 100000 true 40 true f args (aY 0 css) (some []) h (fun v' _ _=>v'=v))(hp:ki css)(hv:cH 0 v=true)
  {H:Heap} {ids:List Nat} (hi:rT H ids css) {args':List Value} (ha:args.map (rn (sgR 0 ids) 5)=args'):am prog f args' H [] (Is v H):=by
 subst ha
 exact ir hc (gk hp) hv ids (lh hi) (jP hi)
theorem AB(n:Nat)(l:List Flow):aN n (flV l)=true:=by
 show (l.flatMap aS).all (cV n)=true
 rw[List.all_flatMap,List.all_eq_true]
 intro r _;rfl
theorem nM(n:Nat)(ll:List (List Flow)):(flL ll).all (aN n)=true:=by
 unfold flL
 rw[List.all_map,List.all_eq_true]
 intro l _
 exact AB n l
theorem eS(V:Nat->Option Nat)(d:Nat)(l:List Flow):rn V (d+3) (flV l)=flV l:=(rnC (AB 0 l)).1
theorem uR(ll:List (List Flow)):(flL ll).length=ll.length:=List.length_map ..
theorem fP{ll:List (List Flow)}{k:Nat}(h:k<ll.length){off:Nat}(ho:off=k):(flL ll)[off]?=some (flV (ll.getD k [])):=by
 subst ho
 unfold flL
 rw[List.getElem?_map,List.getElem?_eq_getElem h,List.getD_eq_getElem?_getD,List.getElem?_eq_getElem h];rfl
theorem Aq{l:List Flow}{k:Nat}(h:k<l.length){off:Nat}(ho:off=k*4):cj 4 (l.flatMap aS) off=some (.agg ⟨aS (l.getD k af)⟩) :=
 eU (n:=4) (d:=af) (c:=0) fu h (by omega) (by omega)
theorem yh{w h:Int}{n:Nat}{l:List Flow}(b:bR w h n=0)(hl:l.length=n)(hf:∀f∈l,bX f):bk w h n l=0:=by
 have key:∀l:List Flow,(∀f∈l,bX f)->gP l=0:=by
  intro l
  induction l with
  |nil=>intro _;rfl
  |cons f l ih=>intro h;unfold gP;rw[if_pos (h f (List.mem_cons_self ..))];exact ih fun g hg=>h g (List.mem_cons_of_mem _ hg)
 unfold bk
 rw[bH b,if_pos hl];exact key l hf
theorem si{α:Type}{e:α->Int}:∀{xs:List α},(∀x∈xs,e x=0)->errs e xs=0
 | [],_=>rfl
 |y :: r,h=>by
  unfold errs
  rw[if_pos (h y (List.mem_cons_self ..))]
  exact si fun x hx=>h x (List.mem_cons_of_mem _ hx)
theorem w8{α:Type}{l:List α}{d x:α}(h:x∈l):∃k,k<l.length/\l.getD k d=x:=by
 obtain ⟨k,hk,rfl⟩:=List.mem_iff_getElem.1 h
 exact ⟨k,hk,by rw[List.getD_eq_getElem?_getD,List.getElem?_eq_getElem hk];rfl⟩
theorem yj{w h:Int}{a:List Bool}{t:Int}{cs:List Cell}(hs:gi w h t)(hn:((a.length:Nat):Int)=w*h)(hl:cs.length=a.length)(hc:∀k,k<a.length->ck (cs.getD k aa)/\(a.getD k false=true->cs.getD k aa=aa)):bl w h a w h t cs=0:=by
 have e1:bZ w h t cs=0:=by
  unfold bZ
  rw[bH (iO.2 hs),if_pos (by omega)]
  refine si fun c hm =>?_
  obtain ⟨k,hk,rfl⟩:=w8 (d:=aa) hm
  exact ga.2 (hc k (by omega)).1
 have e2:ca w h w h t cs=0:=by
  unfold ca
  rw[bH e1,if_pos ⟨rfl,rfl⟩]
 unfold bl
 rw[bH e2]
 have key:∀k,k<=cs.length->cK (dE a cs) k=0:=by
  intro k
  induction k with
  |zero=>intro _;rfl
  |succ k ih =>
   intro hk
   exact ek (ih (by omega)) (sm fun q=>by rw[(hc k (by omega)).2 q];rfl)
 exact key _ (Nat.le_refl _)
theorem BQ{w h:Int}{a:List Bool}{l:List Flow}{k:Nat}(b:cZ w h a.length)(hc:0<=(k:Int)/\(k:Int)<w*h){t:Int}:t∈TG w h a l k ↔ ∃m∈aM (l.getD k af),fy w h a (k:Int) m=t:=by
 have hn:=b.n1
 unfold TG tgts dK
 rw[fV]
 constructor
 ·rintro ⟨i,h1,h2,rfl⟩
  unfold cQ at h1 h2
  rw[cp]at h1
  rw[iA _ _ _ h1]at h2
  have:=ip h2
  unfold tgL at this
  obtain ⟨m,hm,e⟩:=List.mem_map.1 this
  exact ⟨m,hm,e⟩
 ·rintro ⟨m,hm,rfl⟩
  have hb:=me (a:=a) hc m
  refine ⟨Int.toNat (fy w h a (k:Int) m),?_,?_,by omega⟩
  ·unfold cQ;rw[cp];omega
  ·unfold cQ
   rw[iA _ _ _ (by omega)]
   refine decide_eq_true ?_
   rw[show ((Int.toNat (fy w h a (k:Int) m):Nat):Int)=fy w h a (k:Int) m by omega]
   exact List.mem_map.2 ⟨m,hm,rfl⟩
def kW(p q:Pl):Prop:=p.s<=q.s/\p.t<=q.t/\p.r<=q.r
def Cu(x y:Ice):Prop:=x.ai<=y.ai/\x.ac<=y.ac/\x.ad<=y.ad/\x.ae<=y.ae
theorem kW.refl(p:Pl):kW p p:=⟨Int.le_refl _,Int.le_refl _,Int.le_refl _⟩
theorem kW.trans{p q r:Pl}(h:kW p q)(k:kW q r):kW p r:=⟨Int.le_trans h.1 k.1,Int.le_trans h.2.1 k.2.1,Int.le_trans h.2.2 k.2.2⟩
theorem u7{q:Pl}{y:Ice}(h:0<=y.ai):kW q (fh q y):=by
 unfold fh
 split
 ·exact kW.refl q
 ·exact ⟨by show q.s<=q.s+y.ai;omega,Int.le_max_left ..,Int.le_max_left ..⟩
theorem wl{p q:Pl}{x y:Ice}(h:kW p q)(hx:0<=x.ai)(hxy:Cu x y):kW (fh p x) (fh q y):=by
 by_cases h0:x.ai=0
 ·rw[show fh p x=p from if_pos h0]
  exact h.trans (u7 (by have:=hxy.1;omega))
 ·have h1:¬ y.ai=0:=by have:=hxy.1;omega
  rw[show fh p x=⟨p.s+x.ai,max p.t x.ac,max p.r x.ad⟩ from if_neg h0,show fh q y=⟨q.s+y.ai,max q.t y.ac,max q.r y.ad⟩ from if_neg h1]
  obtain ⟨a,b,c⟩:=h
  obtain ⟨d,e,f,_⟩:=hxy
  refine ⟨?_,?_,?_⟩ <;> dsimp only
  ·omega
  ·exact Int.max_le.2 ⟨Int.le_trans b (Int.le_max_left ..),Int.le_trans e (Int.le_max_right ..)⟩
  ·exact Int.max_le.2 ⟨Int.le_trans c (Int.le_max_left ..),Int.le_trans f (Int.le_max_right ..)⟩
theorem kN{a b d:Int}(h:0<=a)(hab:a<=b)(hd:0<d):Int.tdiv a d<=Int.tdiv b d:=by
 rw[Int.tdiv_eq_ediv_of_nonneg h,Int.tdiv_eq_ediv_of_nonneg (by omega)]
 exact Int.ediv_le_ediv hd hab
theorem vw{p q:Pl}(h:kW p q):Cu (bN p) (bN q):=by
 obtain ⟨a,b,c⟩:=h
 have ho:cm p<=cm q:=by unfold cm;omega
 have h0:0<=cm p:=by unfold cm;omega
 have d1:=kN h0 ho (d:=10) (by decide)
 have d2:=kN h0 ho (d:=5) (by decide)
 have d3:=kN (a:=cm p+25-1) (b:=cm q+25-1) (d:=25) (by omega) (by omega) (by decide)
 refine ⟨?_,?_,?_,?_⟩
 ·show p.s-cm p<=q.s-cm q
  unfold cm;omega
 ·show min _ 400<=min _ 400
  omega
 ·show min _ 100<=min _ 100
  omega
 ·show min _ 3<=min _ 3
  omega
theorem mC{m:Nat}{p:Pl}(h:jn m p):eO (bN p):=by
 obtain ⟨⟨a,b⟩,⟨c,d⟩,e,f⟩:=h
 have h0:0<=cm p:=by unfold cm;omega
 have d1:=eB (d:=10) h0 (by decide)
 have d2:=eB (d:=5) h0 (by decide)
 have d3:=eB (o:=cm p+25-1) (d:=25) (by omega) (by decide)
 refine ⟨⟨?_,?_⟩,⟨?_,?_⟩,⟨?_,?_⟩,?_,?_⟩
 ·show 0<=p.s-cm p;unfold cm;omega
 ·show p.s-cm p<=100;unfold cm;omega
 ·show 0<=min _ 400;omega
 ·show min _ 400<=400;omega
 ·show 0<=min _ 100;omega
 ·show min _ 100<=100;omega
 ·show 0<=min _ 3;omega
 ·show min _ 3<=3;omega
theorem CM{w h:Int}{a:List Bool}{l:List Flow}{k:Nat}(b:cZ w h a.length)(hc:0<=(k:Int)/\(k:Int)<w*h)(hf:bX (l.getD k af)):TG w h a l k≠[]:=fun q=>by
 have hm:=i6 hf
 have:=(BQ (a:=a) (l:=l) b hc (t:=fy w h a (k:Int) ((aM (l.getD k af)).getD 0 dI))).2 ⟨_,dz (by omega),rfl⟩
 rw[q]at this;cases this
theorem uy{w h:Int}{a:List Bool}{l:List Flow}{cs:List Cell}(b:cZ w h a.length){k:Nat}(ha:a.getD k false=false)(T:Nat) :
  (aj w h a l cs (k+1)).getD T ag=if (T:Int)∈TG w h a l k then fh ((aj w h a l cs k).getD T ag) (hiI (cs.getD k aa)) else (aj w h a l cs k).getD T ag:=by
 have e1:aj w h a l cs (k+1)=aL (aj w h a l cs k) (TG w h a l k) (hiI (cs.getD k aa)):=if_neg (by rw[ha];exact Bool.false_ne_true)
 rw[e1]
 exact jj va (fun s hs=>by rw[gL];exact lU b hs)
theorem wY{w h:Int}{a:List Bool}{l:List Flow}{cs:List Cell}(b:cZ w h a.length){k:Nat}(ha:a.getD k false=false)(hne:TG w h a l k≠[])(T:Nat) :
  (ap w h a l cs (k+1)).getD T ag=if (TG w h a l k).length=1/\(TG w h a l k).getD 0 0=(T:Int) then fh ((ap w h a l cs k).getD T ag) (loI (cs.getD k aa)) else (ap w h a l cs k).getD T ag:=by
 have e1:ap w h a l cs (k+1)=if (TG w h a l k).length=1 then eL (ap w h a l cs k) ((TG w h a l k).getD 0 0) (loI (cs.getD k aa)) else ap w h a l cs k:=if_neg (by rw[ha];exact Bool.false_ne_true)
 rw[e1]
 by_cases q:(TG w h a l k).length=1
 ·have hm:(TG w h a l k).getD 0 0∈TG w h a l k:=dz (by omega)
  have hb:=lU b hm
  rw[if_pos q]
  unfold eL
  rw[iM (by rw[eP];omega)]
  by_cases q2:T=Int.toNat ((TG w h a l k).getD 0 0)
  ·rw[if_pos q2,if_pos ⟨q,by omega⟩,q2]
  ·rw[if_neg q2,if_neg (fun h=>q2 (by omega))]
 ·rw[if_neg q,if_neg (fun h=>q h.1)]
theorem CA{c:Cell}(h:ck c):0<=(hiI c).ai:=by
 obtain ⟨a1,a2,a3,a4⟩:=h.1
 unfold hiI;dsimp only;omega
theorem mW{w h:Int}{a:List Bool}{l:List Flow}{cs:List Cell}(o:dU w h a l cs)(T:Nat):∀{k:Nat},k<=cs.length->kW ((ap w h a l cs k).getD T ag) ((aj w h a l cs k).getD T ag)
 |0,_=>kW.refl _
 |k+1,hk=>by
  have ih:=mW o T (k:=k) (by omega)
  have hn:=o.b.n1
  have:=o.n
  have hc:0<=(k:Int)/\(k:Int)<w*h:=by omega
  cases ha:a.getD k false with
  |true=>rw[show ap w h a l cs (k+1)=ap w h a l cs k from if_pos ha,show aj w h a l cs (k+1)=aj w h a l cs k from if_pos ha];exact ih
  |false =>
   have hce:=o.ce (k:=k) (by omega)
   rw[uy o.b ha,wY o.b ha (CM o.b hc (o.fl (by omega)))]
   by_cases q:(TG w h a l k).length=1/\(TG w h a l k).getD 0 0=(T:Int)
   ·have hm:(T:Int)∈TG w h a l k:=by rw[<- q.2];exact dz (by omega)
    rw[if_pos q,if_pos hm]
    obtain ⟨⟨a1,a2,a3,a4⟩,⟨b1,b2,b3,b4⟩,⟨c1,c2,c3,c4⟩,⟨d1,d2,d3,d4⟩⟩:=hce
    exact wl ih a1 ⟨a3,b3,c3,d3⟩
   ·rw[if_neg q]
    split
    ·exact ih.trans (u7 (CA hce))
    ·exact ih
theorem mD{w h:Int}{a:List Bool}{l:List Flow}{cs:List Cell}(o:dU w h a l cs)(k:Nat):ck (cR w h a l cs k):=by
 have h1:=vw (mW o k (Nat.le_refl cs.length))
 have h2:=mC (i5 o (Nat.le_refl cs.length) k)
 have h3:=mC (mY o (Nat.le_refl cs.length) k)
 obtain ⟨a1,a2,a3,a4⟩:=h1
 obtain ⟨b1,b2,b3,b4⟩:=h2
 obtain ⟨c1,c2,c3,c4⟩:=h3
 exact ⟨⟨b1.1,b1.2,a1,c1.2⟩,⟨b2.1,b2.2,a2,c2.2⟩,⟨b3.1,b3.2,a3,c3.2⟩,b4.1,b4.2,a4,c4.2⟩
theorem AD{r h:Int}(hr:0<=r)(hh:0<=h):0<=chg r h:=by
 unfold chg
 have:=Int.mul_nonneg hr hh
 omega
theorem mq{s:Span}{u d h m:Int}(hs:dr s m)(hu:0<=u)(hd:0<=d)(hh:0<=h):dr (tU s u d h m) m/\rS s (tU s u d h m):=by
 have h1:=AD hu hh
 have h2:=AD hd hh
 unfold tU dr rS at *
 dsimp only
 omega
theorem Ac{c:Cell}{m:bu}{h:Int}(hc:ck c)(hm:dZ m)(hh:0<=h):ck (wj c m h)/\Bm c (wj c m h):=by
 obtain ⟨c1,c2,c3,c4⟩:=hc
 obtain ⟨⟨u1,u2,u3,u4⟩,d1,d2,d3,d4⟩:=hm
 have r1:=mq c1 u1.1 d1.1 hh
 have r2:=mq c2 u2.1 d2.1 hh
 have r3:=mq c3 u3.1 d3.1 hh
 have r4:=mq c4 u4.1 d4.1 hh
 exact ⟨⟨r1.1,r2.1,r3.1,r4.1⟩,r1.2,r2.2,r3.2,r4.2⟩
theorem vS{B:List Bool}{z:Int}:z∈dK B ↔ ∃i:Nat,i<B.length/\B.getD i false=true/\(i:Int)=z:=fV
theorem w9(L:List Int)(n:Nat):(A6 L n).length=n:=cp _ _
theorem rx{L:List Int}{n i:Nat}(h:i<n):(A6 L n).getD i false=decide ((i:Int)∈L):=iA _ _ _ h
theorem w7{L:List Int}{n:Nat}{z:Int}:z∈dK (A6 L n) ↔ (0<=z/\z<(n:Int))/\z∈L:=by
 rw[vS,w9]
 constructor
 ·rintro ⟨i,h1,h2,rfl⟩
  rw[rx h1]at h2
  exact ⟨⟨by omega,by omega⟩,ip h2⟩
 ·rintro ⟨⟨h1,h2⟩,h3⟩
  refine ⟨Int.toNat z,by omega,?_,by omega⟩
  rw[rx (by omega)]
  exact decide_eq_true (by rw[Int.toNat_of_nonneg h1];exact h3)
theorem wD{w h:Int}{a:List Bool}(b:cZ w h a.length){c:Int}{f:Flow}{z:Int}:z∈tgts w h a c f ↔ (0<=z/\z<(a.length:Int))/\z∈tgL w h a c f:=by
 have hn:Int.toNat (w*h)=a.length:=by have:=b.n1;omega
 unfold tgts cQ
 rw[hn]
 exact w7
theorem AY{a:List Bool}{c:Int}(h:mJ a c=true):0<=c/\c<(a.length:Int):=by
 unfold mJ at h
 rw[Bool.and_eq_true,decide_eq_true_iff]at h
 exact h.1
theorem wJ{a:List Bool}{c:Int}(h:mJ a c=true):a.getD (Int.toNat c) false=false:=by
 unfold mJ at h
 rw[Bool.and_eq_true]at h
 simpa using h.2
theorem tJ{w h:Int}{n:Nat}(b:cZ w h n):bR w h n=0:=by
 unfold bR
 rw[if_pos ⟨b.w1,b.h1,b.p1⟩,if_pos b.n1]
theorem Cb{id n m:Nat}(h:m=n)(h0:0<n):wk (.slice (some ⟨id,0,none⟩) n n) (.slice (some ⟨id,0,some 1⟩) m m):=by subst h;exact bi h0
theorem vz{w h:Int}{a:List Bool}(b:cZ w h a.length){c:Int}(hs:mJ a c=true)(m:Move):mJ a (fy w h a c m)=true:=by
 have hbd:=AY hs
 have hn:=b.n1
 have ht:=me (a:=a) (w:=w) (h:=h) (c:=c) (by omega) m
 by_cases k:vv w h a c m
 ·have e:=pC k
  rw[wK (by omega),e]
  have:=k.2.2
  rw[this];rfl
 ·rw[pD k];exact hs
theorem wC{w h:Int}{a:List Bool}(b:cZ w h a.length){c:Int}{f:Flow}(hs:mJ a c=true){t:Int}(ht:t∈tgts w h a c f):mJ a t=true:=by
 have h1:=((wD b).1 ht).2
 unfold tgL at h1
 obtain ⟨m,_,rfl⟩:=List.mem_map.1 h1
 exact vz b hs m
def ceV(cs:List Cell):Value:=.iface (cs.length+1) (.agg ⟨cs.flatMap cellC⟩)
def chD(c:iT):List Value:=[.int .i64 c.w,.int .i64 c.h,.int .i64 c.hour,ceV c.cells]
def agL(a:List Bool)(m:bu)(cs:List Cell)(y:Nat):List Cell:=dg (fun k=>if k<y/\a.getD k false=false then (bV (cs.getD k aa) m 1).1 else cs.getD k aa) cs.length
def ao(w h:Int)(a:List Bool)(ll:List (List Flow))(cs:List Cell)(m:bu):Nat->List Cell
 |0=>cs
 |k+1=>agL a m (au w h a (ll.getD k []) (ao w h a ll cs m k)) a.length
def cF(w h:Int)(a:List Bool)(ll:List (List Flow))(t:Int)(cs:List Cell)(m:bu)(n:Nat):List iT:=dg (fun k=>(⟨w,h,t+(k:Int),ao w h a ll cs m k⟩:iT)) (n+1)
theorem yz(n:Nat)(l:List Cell):aN n (ceV l)=true:=by
 show (l.flatMap cellC).all (cV n)=true
 rw[List.all_flatMap,List.all_eq_true]
 intro r _;rfl
theorem BK(V:Nat->Option Nat)(d:Nat)(l:List Cell):rn V (d+3) (ceV l)=ceV l:=(rnC (yz 0 l)).1
theorem mT:∀{os:List ab},mU os->∀o∈os,∃z cs,o=ab.cells true z cs
 | [],_,o,h=>by cases h
 |p :: os,⟨⟨z,cs,e,_⟩,hs⟩,o,h=>by
  rcases List.mem_cons.1 h with rfl|h
  ·exact ⟨z,cs,e⟩
  ·exact mT hs o h
theorem qO{f:FuncId}{args args2:List Value}{H gs new:Heap}(v:Nat->Value)(ht:cz prog H.length H args args2 gs)(h:am prog f args2 (H++gs) [] (Is (v (H++gs).length) ((H++gs)++new)))(hn:mU new)
  (hv:rn (dh H.length gs.length new.length) 3 (v H.length)=v (H.length+gs.length)):am prog f args H [] (Is (v H.length) (H++new)) :=
 am.drop (d:=3) (am.thaw ht h) rfl (fun _ _ _=>rfl) (fun _ _ _ h=>by cases h) (by rw[hv,br]) (fa hn).2 (mT hn)
theorem wB{f:FuncId}{args args2:List Value}{H gs:Heap}{v:Value}(ht:cz prog H.length H args args2 gs)(h:am prog f args2 (H++gs) [] (Is v (H++gs)))(hv:∀V,rn V 3 v=v):am prog f args H [] (Is v H):=by
 have:=qO (new:=[]) (fun _=>v) ht (by rw[List.append_nil];exact h) trivial (hv _)
 rw[List.append_nil]at this;exact this
theorem lv{H gs:Heap}{id:Nat}{o:ab}(h:H[id]?=some o):(H++gs)[id]?=some o:=by
 rw[List.getElem?_append_left (List.getElem?_eq_some_iff.1 h).1];exact h
theorem il{H:Heap}{o:ab}{gs:Heap}:(H++o :: gs)[H.length]?=some o:=by simp
theorem Aa{H:Heap}{p o:ab}{gs:Heap}:(H++p :: o :: gs)[(H ++ [p]).length]?=some o:=by simp
theorem rz{w h:Int}{a:List Bool}{l:List Flow}{cs:List Cell}(b:cZ w h a.length){T:Nat}(hT:a.getD T false=true):∀{k:Nat},k<=a.length->(aj w h a l cs k).getD T ag=ag
 |0,_=>by
  show (List.replicate a.length ag).getD T ag=ag
  rw[List.getD_eq_getElem?_getD,List.getElem?_replicate];split <;> rfl
 |k+1,hk=>by
  have ih:=rz (l:=l) (cs:=cs) b hT (k:=k) (by omega)
  cases ha:a.getD k false with
  |true=>rw[show aj w h a l cs (k+1)=aj w h a l cs k from if_pos ha];exact ih
  |false =>
   rw[uy b ha,if_neg (fun hm =>?_)]
   ·exact ih
   ·have hs:mJ a (k:Int)=true:=by rw[wK (by omega),Int.toNat_natCast,ha];rfl
    have h2:=wJ (wC b hs hm)
    rw[Int.toNat_natCast,hT]at h2
    cases h2
theorem vA{w h:Int}{a:List Bool}{l:List Flow}{cs:List Cell}(o:dU w h a l cs){T:Nat}(hT:a.getD T false=true):cR w h a l cs T=aa:=by
 have h1:=rz (l:=l) (cs:=cs) o.b hT (k:=a.length) (Nat.le_refl _)
 have h2:=mW o T (k:=cs.length) (Nat.le_refl _)
 have h3:=i5 o (k:=cs.length) (Nat.le_refl _) T
 unfold cR
 rw[o.n]at h2 h3 ⊢
 rw[h1]at h2 ⊢
 obtain ⟨⟨p1,_⟩,⟨p2,_⟩,p3,_⟩:=h3
 obtain ⟨q1,q2,q3⟩:=h2
 have e:(ap w h a l cs a.length).getD T ag=ag:=by
  generalize (ap w h a l cs a.length).getD T ag=p at *
  obtain ⟨s,t,r⟩:=p
  have z1:s=0:=Int.le_antisymm q1 p1
  have z2:t=0:=Int.le_antisymm q2 p2
  have z3:r=0:=Int.le_antisymm q3 p3
  rw[z1,z2,z3];rfl
 rw[e];rfl
theorem yn{c:Cell}{m:bu}(hc:ck c)(hm:dZ m):bV c m 1=(wj c m 1,0):=by
 unfold bV
 rw[bH (ga.2 hc),if_pos (ie.2 hm),if_pos (by decide)]
structure AF(w h:Int)(a:List Bool)(ll:List (List Flow))(t:Int)(cs:List Cell)(m:bu):Prop where
 b:cZ w h a.length
 n48:ll.length<=48
 r:dZ m
 fl:∀k,k<ll.length->(ll.getD k []).length=a.length/\∀f∈ll.getD k [],bX f
 cl:cs.length=a.length
 c:∀k,k<a.length->ck (cs.getD k aa)/\(a.getD k false=true->cs.getD k aa=aa)
 t0:0<=t
 t1:t+(ll.length:Int)<=10000
theorem eK(a:List Bool)(m:bu)(cs:List Cell)(y:Nat):(agL a m cs y).length=cs.length:=cp _ _
theorem im{a:List Bool}{m:bu}{cs:List Cell}{y k:Nat}(hk:k<cs.length):(agL a m cs y).getD k aa=if k<y/\a.getD k false=false then (bV (cs.getD k aa) m 1).1 else cs.getD k aa:=j7 hk
theorem iX(w h:Int)(a:List Bool)(l:List Flow)(cs:List Cell):(au w h a l cs).length=a.length:=cp _ _
theorem oF{w h:Int}{a:List Bool}{l:List Flow}{cs:List Cell}{k:Nat}(hk:k<a.length):(au w h a l cs).getD k aa=cR w h a l cs k:=j7 hk
theorem iE(w h:Int)(a:List Bool)(ll:List (List Flow)){cs:List Cell}(m:bu)(hc:cs.length=a.length):∀k,(ao w h a ll cs m k).length=a.length
 |0=>hc
 |k+1=>by show (agL _ _ _ _).length=_;rw[eK,iX]
theorem wL{w h:Int}{a:List Bool}{ll:List (List Flow)}{t:Int}{cs:List Cell}{m:bu}(o:AF w h a ll t cs m):∀{i:Nat},i<=ll.length ->
  (∀k,k<a.length->ck ((ao w h a ll cs m i).getD k aa)/\(a.getD k false=true->(ao w h a ll cs m i).getD k aa=aa))/\(i<ll.length->dU w h a (ll.getD i []) (ao w h a ll cs m i)/\bl w h a w h (t+(i:Int)) (ao w h a ll cs m i)=0)
 |i,hi=>by
  have base:(∀k,k<a.length->ck ((ao w h a ll cs m i).getD k aa)/\(a.getD k false=true->(ao w h a ll cs m i).getD k aa=aa))->(i<ll.length->dU w h a (ll.getD i []) (ao w h a ll cs m i)/\bl w h a w h (t+(i:Int)) (ao w h a ll cs m i)=0):=fun hc hlt=>by
   have ht:=o.t0
   have ht1:=o.t1
   obtain ⟨f1,f2⟩:=o.fl i hlt
   have e2:=yj (t:=t+(i:Int)) ⟨o.b.w1,o.b.h1,o.b.p1,by omega⟩ o.b.n1 (iE w h a ll m o.cl i) hc
   exact ⟨(s6 (yh (tJ o.b) f1 f2) e2).1,e2⟩
  match i,hi,base with
  |0,_,base=>exact ⟨o.c,base o.c⟩
  |i+1,hi,base =>
   obtain ⟨_,h2⟩:=wL o (i:=i) (by omega)
   obtain ⟨so,_⟩:=h2 (by omega)
   have key:∀k,k<a.length->ck ((ao w h a ll cs m (i+1)).getD k aa)/\(a.getD k false=true->(ao w h a ll cs m (i+1)).getD k aa=aa):=fun k hk=>by
    have e:(ao w h a ll cs m (i+1)).getD k aa=if k<a.length/\a.getD k false=false then (bV (cR w h a (ll.getD i []) (ao w h a ll cs m i) k) m 1).1 else cR w h a (ll.getD i []) (ao w h a ll cs m i) k:=by
     show (agL _ _ _ _).getD k aa=_
     rw[im (by rw[iX];exact hk),oF hk]
    rw[e]
    have hr:=mD so k
    cases ha:a.getD k false with
    |true =>
     rw[if_neg (fun q=>by cases q.2)]
     exact ⟨hr,fun _=>vA so ha⟩
    |false =>
     rw[if_pos ⟨hk,rfl⟩,yn hr o.r]
     exact ⟨(Ac hr o.r (by decide)).1,fun q=>by cases q⟩
   exact ⟨key,base key⟩
theorem mL(w h:Int)(a:List Bool)(ll:List (List Flow))(t:Int)(cs:List Cell)(m:bu)(n:Nat):(cF w h a ll t cs m n).length=n+1:=cp _ _
theorem vJ(w h:Int)(a:List Bool)(ll:List (List Flow))(t:Int)(cs:List Cell)(m:bu)(n:Nat):cF w h a ll t cs m (n+1)=cF w h a ll t cs m n ++ [⟨w,h,t+((n+1:Nat):Int),ao w h a ll cs m (n+1)⟩]:=gC _ _
theorem qY{w h:Int}{a:List Bool}{ll:List (List Flow)}{t:Int}{cs:List Cell}{m:bu}{n k:Nat}(hk:k<=n):(cF w h a ll t cs m n).getD k dB=⟨w,h,t+(k:Int),ao w h a ll cs m k⟩:=j7 (by omega)
theorem mo(c:iT):(chD c).length=4:=rfl
theorem AE(a:List Bool)(m:bu)(cs:List Cell):agL a m cs 0=cs:=by
 refine List.ext_getElem (eK ..) fun k h1 h2 =>?_
 have e:=im (a:=a) (m:=m) (y:=0) h2
 rw[if_neg (fun q=>by omega),List.getD_eq_getElem?_getD,List.getD_eq_getElem?_getD,List.getElem?_eq_getElem h1,List.getElem?_eq_getElem h2]at e
 exact e
theorem u6{a:List Bool}{m:bu}{cs ds:List Cell}{y:Nat}(hl:ds.length=cs.length)(h:∀k,k<cs.length->ds.getD k aa=if k<y/\a.getD k false=false then (bV (cs.getD k aa) m 1).1 else cs.getD k aa):ds=agL a m cs y:=by
 refine List.ext_getElem (by rw[hl,eK]) fun k h1 h2 =>?_
 have e:=h k (by omega)
 rw[<- im (by omega),List.getD_eq_getElem?_getD,List.getD_eq_getElem?_getD,List.getElem?_eq_getElem h1,List.getElem?_eq_getElem h2]at e
 exact e
theorem u5{a:List Bool}{m:bu}{cs:List Cell}{y:Nat}(hy:y<cs.length)(ha:a.getD y false=false):(agL a m cs y).set y (bV (cs.getD y aa) m 1).1=agL a m cs (y+1):=by
 refine u6 (by rw[List.length_set,eK]) fun k hk =>?_
 rw[iM (by rw[eK];exact hy),im hk]
 by_cases q:k=y
 ·subst q;rw[if_pos rfl,if_pos ⟨by omega,ha⟩]
 ·rw[if_neg q]
  by_cases q2:k<y/\a.getD k false=false
  ·rw[if_pos q2,if_pos ⟨by omega,q2.2⟩]
  ·rw[if_neg q2,if_neg (fun q3=>q2 ⟨by omega,q3.2⟩)]
theorem sH{a:List Bool}{m:bu}{cs:List Cell}{y:Nat}(ha:a.getD y false=true):agL a m cs y=agL a m cs (y+1):=by
 refine u6 (eK ..) fun k hk =>?_
 rw[im hk]
 by_cases q:k=y
 ·subst q;rw[if_neg (fun q=>by omega),if_neg (fun q=>by rw[ha]at q;cases q.2)]
 ·by_cases q2:k<y/\a.getD k false=false
  ·rw[if_pos q2,if_pos ⟨by omega,q2.2⟩]
  ·rw[if_neg q2,if_neg (fun q3=>q2 ⟨by omega,q3.2⟩)]
theorem ey(n:Nat)(l:List iT):(l.flatMap chD).all (aN n)=true:=dt (fun c=>by show (_&&(_&&(_&&(_&&_))))=true;rw[yz];rfl) l
theorem eJ(n:Nat)(w h t:Int)(cs:List Cell):ar n (.cells true 0 [.int .i64 w,.int .i64 h,.int .i64 t,ceV cs])=true:=by
 show (true&&(true&&(true&&(aN n (ceV cs)&&true))))=true
 rw[yz];rfl
theorem xl(rate hours:Int)(h1:0<=rate/\rate<=1000)(h2:0<=hours/\hours<=10000)(H:Heap):am prog F.jm [.int .i64 rate,.int .i64 hours] H [] (Is (.int .i64 (chg rate hours)) H):=by
 refine iu 40 (fun _=>rfl) rfl (Eq.mpr (yV _ rate hours) ?_) H
 have hb:=w6 h1.1 h1.2 h2.1 h2.2
 have ht:Int.tdiv (rate*hours) 24=(rate*hours) / 24:=Int.tdiv_eq_ediv_of_nonneg (by omega)
 unfold sK
 rw[ht]
 refine ⟨v64 (by omega),v64 (by omega),v64 (by omega),v64 (by omega),fun h=>⟨v64 (by omega),du ?_⟩,fun h=>du ?_⟩
 ·have:=ip h;unfold chg;omega
 ·have:=At h;unfold chg;omega
theorem pX(m:bu)(H:Heap):am prog F.gG [gj m] H [] (Is (.int .i64 (bD m)) H):=by
 refine iu 40 (fun _=>rfl) rfl (Eq.mpr (qz _ m) ?_) H
 unfold kH
 simp only[decide_eq_true_eq,decide_eq_false_iff_not,Bool.not_eq_true',Bool.not_eq_false']
 repeat' (first|apply And.intro|intro _)
 all_goals first
  |exact du (ky (by unfold dZ lG;omega)).symm
  |exact du (kx (by unfold dZ lG;omega)).symm
theorem zB(c:Cell)(m:bu)(h:Int)(hc:ck c)(hm:dZ m)(hh:0<=h/\h<=10000)(H:Heap):am prog F.fG [cellV c,gj m,.int .i64 h] H [] (Is (cellV (wj c m h)) H):=by
 refine iu 40 (fun _=>rfl) rfl (Eq.mpr (Ag _ c m h) ?_) H
 unfold vf
 obtain ⟨⟨u1,u2,u3,u4⟩,d1,d2,d3,d4⟩:=hm
 obtain ⟨c1,c2,c3,c4⟩:=hc
 unfold dr at c1 c2 c3 c4
 have b1:=ij u1 hh;have b2:=ij u2 hh;have b3:=ij u3 hh;have b4:=ij u4 hh
 have e1:=ij d1 hh;have e2:=ij d2 hh;have e3:=ij d3 hh;have e4:=ij d4 hh
 repeat' first
  |refine ⟨_,trivial,fun H' _ _=>xl _ _ (by first
  |exact u1
  |exact u2
  |exact u3
  |exact u4
  |exact d1
  |exact d2
  |exact d3
  |exact d4) hh H',?_⟩
  |exact trivial
  |exact rfl
  |refine aC ?_ ?_ ?_
  |refine aB ?_ ?_ ?_
  |refine toMax ?_
  |refine toMin ?_
  |refine ⟨rfl,?_⟩
  |refine ⟨trivial,?_⟩
  |refine aG (fun h =>?_) (fun h =>?_)
  |refine aE (fun h =>?_) (fun h =>?_)
  |refine aI (fun h =>?_) (fun h =>?_)
  |refine aA ?_
  |refine ⟨az (by omega),?_⟩
  |refine And.intro (by omega) ?_
  |apply And.intro
  |exact ah _
  |exact iEq (by omega)
  |exact az (by omega)
def eZ(w h:Int)(a:List Bool)(ll:List (List Flow))(t:Int)(k:Nat):Int:=cU (bk w h a.length (ll.getD k [])) (if t+(k:Int)<10000 then 0 else 6)
def ic(w h:Int)(a:List Bool)(ll:List (List Flow))(w' h' t:Int)(cs:List Cell)(m:bu):Int :=
 cU (bR w h a.length) (if ll.length<=48 then cU (bl w h a w' h' t cs) (cU (bD m) (cK (eZ w h a ll t) ll.length)) else 2)
def aZ(w h:Int)(a:List Bool)(ll:List (List Flow))(w' h' t:Int)(cs:List Cell)(m:bu):List iT×Int :=
 if ic w h a ll w' h' t cs m=0 then (cF w h a ll t cs m ll.length,0) else ([],ic w h a ll w' h' t cs m)
def bW(w h:Int)(a:List Bool)(ll:List (List Flow))(cs:List Cell)(m:bu)(x:Nat):Nat->List Cell:=fun j=>if j<=x then ao w h a ll cs m j else []
def cA(w h:Int)(a:List Bool)(ll:List (List Flow))(cs:List Cell)(m:bu)(x i:Nat):Nat->List Cell:=fun j=>if j<i then cE (ao w h a ll cs m j) (ao w h a ll cs m j).length else bW w h a ll cs m x j
def hdV(w h t:Int)(F:Nat)(rows:Nat->List Cell)(ks:Nat->Nat)(p:Nat):Value:=if p % 4=0 then .int .i64 w else if p % 4=1 then .int .i64 h else if p % 4=2 then .int .i64 (t+((p / 4:Nat):Int)) else dp (rows (p / 4)).length F (ks (p / 4))
def hdR(w h t:Int)(F:Nat)(rows:Nat->List Cell)(ks:Nat->Nat)(x:Nat):List Value:=(List.range ((x+1)*4)).map (hdV w h t F rows ks)
theorem de(w h t:Int)(F:Nat)(rows:Nat->List Cell)(ks:Nat->Nat)(x:Nat):(hdR w h t F rows ks x).length=(x+1)*4:=by simp[hdR]
theorem ia{w h t:Int}{F:Nat}{rows:Nat->List Cell}{ks:Nat->Nat}{x p:Nat}(hp:p<(x+1)*4):(hdR w h t F rows ks x)[p]?=some (hdV w h t F rows ks p):=by
 unfold hdR;rw[List.getElem?_map,List.getElem?_range hp];rfl
theorem xU{w h t:Int}{F:Nat}{rows:Nat->List Cell}{ks:Nat->Nat}(i:Nat):hdV w h t F rows ks (4*i) = .int .i64 w:=if_pos (by omega)
theorem xT{w h t:Int}{F:Nat}{rows:Nat->List Cell}{ks:Nat->Nat}(i:Nat):hdV w h t F rows ks (4*i+1) = .int .i64 h:=by
 unfold hdV;rw[if_neg (by omega),if_pos (by omega)]
theorem xS{w h t:Int}{F:Nat}{rows:Nat->List Cell}{ks:Nat->Nat}(i:Nat):hdV w h t F rows ks (4*i+2) = .int .i64 (t+(i:Int)):=by
 unfold hdV;rw[if_neg (by omega),if_neg (by omega),if_pos (by omega),show (4*i+2) / 4=i by omega]
theorem xR{w h t:Int}{F:Nat}{rows:Nat->List Cell}{ks:Nat->Nat}(i:Nat):hdV w h t F rows ks (4*i+3)=dp (rows i).length F (ks i):=by
 unfold hdV;rw[if_neg (by omega),if_neg (by omega),if_neg (by omega),show (4*i+3) / 4=i by omega]
theorem qr{w h t:Int}{F:Nat}{rows:Nat->List Cell}{ks:Nat->Nat}{x i:Nat}(hi:i<=x):(hdR w h t F rows ks x)[4*i+3]?=some (dp (rows i).length F (ks i)):=by
 rw[ia (by omega),xR]
theorem BA{V:Nat->Option Nat}{F:Nat}(hF:V F=some F)(w h t:Int)(rows:Nat->List Cell)(ks:Nat->Nat)(x:Nat):(hdR w h t F rows ks x).map (rn V 3)=hdR w h t F rows ks x:=by
 unfold hdR
 rw[List.map_map]
 refine List.map_congr_left fun p _ =>?_
 show rn V 3 (hdV w h t F rows ks p)=hdV w h t F rows ks p
 unfold hdV
 split
 ·rfl
 ·split
  ·rfl
  ·split
   ·rfl
   ·exact wN hF _ _
theorem qq{V:Nat->Option Nat}{F:Nat}(hF:V F=some F){zh:Nat}{w h t:Int}{rows:Nat->List Cell}{ks:Nat->Nat}{x:Nat}{hs:List Value}(e:hs=hdR w h t F rows ks x):wkO (.cells true zh hs) (rno V 3 (.cells true zh (hdR w h t F rows ks x))):=by
 subst e
 refine iU ?_
 show _=ab.cells true zh ((hdR w h t F rows ks x).map (rn V 3))
 rw[BA hF]
theorem uN{w h t:Int}{F:Nat}{rows rows':Nat->List Cell}{ks ks':Nat->Nat}{x i:Nat}(hi:i<=x)(v:Value){q k:Nat}(h1:∀j,j<=x->j≠i->(rows' j).length=(rows j).length/\ks' j=ks j)(h2:(rows' i).length=q)(h3:ks' i=k) :
  List.set (List.set (hdR w h t F rows ks x) (4*i+3) v) (4*i+3) (dp q F k)=hdR w h t F rows' ks' x:=by
 subst h2 h3
 rw[List.set_set]
 refine List.ext_getElem? fun p =>?_
 by_cases e:4*i+3=p
 ·subst e
  rw[List.getElem?_set_self (by rw[de];omega),qr hi]
 ·rw[List.getElem?_set_ne e]
  by_cases hp:p<(x+1)*4
  ·rw[ia hp,ia hp]
   unfold hdV
   by_cases e3:p % 4=3
   ·obtain ⟨g1,g2⟩:=h1 (p / 4) (by omega) (by omega)
    rw[g1,g2]
   ·split
    ·rfl
    ·split
     ·rfl
     ·split
      ·rfl
      ·omega
  ·rw[List.getElem?_eq_none (by rw[de];omega),List.getElem?_eq_none (by rw[de];omega)]
theorem zN{w h t:Int}{F:Nat}{rows rows':Nat->List Cell}{ks ks':Nat->Nat}{x:Nat}{q k:Nat}{T:Int}(h1:∀j,j<=x->(rows' j).length=(rows j).length/\ks' j=ks j)(h2:(rows' (x+1)).length=q)(h3:ks' (x+1)=k)(hT:T=t+((x+1:Nat):Int)) :
  hdR w h t F rows ks x ++ [.int .i64 w,.int .i64 h,.int .i64 T,dp q F k]=hdR w h t F rows' ks' (x+1):=by
 subst h2 h3 hT
 refine List.ext_getElem? fun p =>?_
 by_cases hp:p<(x+1)*4
 ·rw[List.getElem?_append_left (by rw[de];exact hp),ia hp,ia (by omega)]
  unfold hdV
  obtain ⟨g1,g2⟩:=h1 (p / 4) (by omega)
  rw[g1,g2]
 ·rw[List.getElem?_append_right (by rw[de];omega),de]
  by_cases hq:p<(x+1+1)*4
  ·rw[ia hq]
   obtain e|e|e|e:p=4*(x+1)∨p=4*(x+1)+1∨p=4*(x+1)+2∨p=4*(x+1)+3:=by omega
   ·rw[e,xU,show 4*(x+1)-(x+1)*4=0 by omega];rfl
   ·rw[e,xT,show 4*(x+1)+1-(x+1)*4=1 by omega];rfl
   ·rw[e,xS,show 4*(x+1)+2-(x+1)*4=2 by omega];rfl
   ·rw[e,xR,show 4*(x+1)+3-(x+1)*4=3 by omega];rfl
  ·rw[List.getElem?_eq_none (by show 4<=_;omega),List.getElem?_eq_none (by rw[de];omega)]
end
end Go.Proofs.YtkkgnalgmebfjaaGreat
